/-
  The parts SbJ of the proof, in one file. Conditions: none.
-/
import Derived.Test.YtmcgjccheehehaaQss52
namespace Go.Proofs.Ytmcgjccheehehaa
open Go.Eng
set_option linter.unusedVariables false
set_option linter.unusedSimpArgs false
theorem shp_arg {L : List AV} (h : Shp Try.prog 77 L) : ∃ x : Arg, L = argC x := by
  obtain ⟨parts, rfl, hl, hp⟩ := shp_struct Try.underlying77 h
  obtain ⟨a, b, rfl⟩ := ds_n2 (show parts.length = 2 from hl)
  obtain ⟨a, rfl, _⟩ := shp_string Try.underlying9 (hp 0 _ a rfl rfl)
  obtain ⟨v, rfl⟩ := shp_val (hp 1 _ b rfl rfl)
  refine ⟨.mk a v, ?_⟩
  rw [valC_eq]
  rfl
theorem shp_pk {L : List AV} (h : Shp Try.prog 69 L) : ∃ x : Pk, L = pkC x := by
  suffices key : ∀ (n : Nat) (L : List AV), avL L ≤ n → Shp Try.prog 69 L → ∃ x : Pk, L = pkC x from key _ L (Nat.le_refl _) h
  intro n
  induction n with
  | zero =>
    intro L hn h
    obtain ⟨parts, rfl, hl, hp⟩ := shp_struct Try.underlying69 h
    match parts, hl, hp, hn with
    | a :: r, _, hp, hn =>
      obtain ⟨a, rfl, _⟩ := shp_string Try.underlying9 (hp 0 _ a rfl rfl)
      simp [avL, avw] at hn
  | succ n ih =>
    intro L hn h
    obtain ⟨parts, rfl, hl, hp⟩ := shp_struct Try.underlying69 h
    match parts, hl, hp, hn with
    | [a, b, c, d, e, f, g, i], _, hp, hn =>
      obtain ⟨a, rfl, _⟩ := shp_string Try.underlying9 (hp 0 _ a rfl rfl)
      obtain ⟨b, rfl, _⟩ := shp_string Try.underlying9 (hp 1 _ b rfl rfl)
      obtain ⟨c, rfl, _⟩ := shp_string Try.underlying9 (hp 2 _ c rfl rfl)
      obtain ⟨l, rfl, _, hx⟩ := shp_slice Try.underlying65 (hp 3 _ d rfl rfl)
      obtain ⟨al, rfl, _⟩ := mapC_of (c := argC) fun x h => shp_arg (hx x h)
      obtain ⟨ts, rfl, hl2, hp2⟩ := shp_struct Try.underlying67 (hp 4 _ e rfl rfl)
      obtain ⟨t, u, rfl⟩ := ds_n2 (show ts.length = 2 from hl2)
      obtain ⟨t, rfl, _⟩ := shp_string Try.underlying9 (hp2 0 _ t rfl rfl)
      obtain ⟨w, rfl, _, hy⟩ := shp_slice Try.underlying45 (hp2 1 _ u rfl rfl)
      obtain ⟨ws, rfl, _⟩ := mapC_of (c := in1) fun x h => by
        obtain ⟨n, rfl, _⟩ := shp_int Try.underlying3 (hy x h)
        exact ⟨n, rfl⟩
      obtain ⟨f, rfl, _⟩ := shp_string Try.underlying9 (hp 5 _ f rfl rfl)
      obtain ⟨g, rfl, _⟩ := shp_int Try.underlying3 (hp 6 _ g rfl rfl)
      obtain ⟨p, rfl, _, hz⟩ := shp_slice Try.underlying38 (hp 7 _ i rfl rfl)
      obtain ⟨ps, rfl, _⟩ := mapC_of (c := pkC) fun x h => ih x (by
        have := avLL_mem h
        simp [avL, avw] at hn
        omega) (hz x h)
      exact ⟨.mk a b c al t ws f g ps, by rw [pkC_eq]; rfl⟩
theorem reads_picks {α : AV} (h : AS Try.prog 38 α) : ∃ l : List Pk, α = .ds (mapC pkC l) ∧ True := by
  obtain ⟨l, rfl, _, hx⟩ := as_slice Try.underlying38 h
  obtain ⟨m, rfl, _⟩ := mapC_of (c := pkC) fun x h => shp_pk (hx x h)
  exact ⟨m, rfl, trivial⟩
theorem pks_av : ∀ l : List Pk, (∀ p ∈ l, 9 * wtK p ≤ avL (pkC p)) → 9 * wtKs l ≤ avLL (mapC pkC l)
  | [], _ => by simp [wtKs]
  | x :: l, h => by
    have h1 := pks_av l fun p hp => h p (by simp [hp])
    have h2 := h x (by simp)
    rw [mapC_cons, avLL, wtKs]
    omega
theorem pk_av (p : Pk) : 9 * wtK p ≤ avL (pkC p) := by
  refine Pk.ind (Q := fun p => 9 * wtK p ≤ avL (pkC p)) (fun v ih => ?_) p
  have h1 := pks_av v.picks ih
  rw [pkC_eq, wtK_eq]
  simp only [avL, avw]
  omega
theorem picks_av (l : List Pk) : 9 * wtKs l ≤ avLL (mapC pkC l) := pks_av l fun p _ => pk_av p
theorem reads_str {α : AV} (h : AS Try.prog 9 α) : ∃ s : ByteArray, α = .s s ∧ True := by
  obtain ⟨s, rfl, _⟩ := as_string Try.underlying9 h
  exact ⟨s, rfl, trivial⟩
end Go.Proofs.Ytmcgjccheehehaa
