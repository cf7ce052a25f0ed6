/-
  The parts VaR SbJ of the proof, in one file. Conditions: none.
-/
import Derived.Test.YtmcgjccheehehaaRows
import Derived.WalkKit
import Derived.Test.YtmcgjccheehehaaQsv52
namespace Go.Proofs.Ytmcgjccheehehaa
open Go.Eng
set_option linter.unusedVariables false
set_option linter.unusedSimpArgs false
theorem own : ownKnob Try.prog.godebug = none := by kernel_rfl
theorem kids : Kids Try.prog (· < Try.prog.types.size) := kids_rows (by kernel_rfl) (by kernel_rfl)
theorem sized {t e : TypeId} (ht : t < Try.prog.types.size) (hd : Try.prog.underlying t = some (.slice e)) : 0 < Try.prog.cellsOf e := slB_of (by kernel_rfl) ht hd
theorem avLL_mapC {α : Type} {c : α → List AV} {wt : α → Nat} : ∀ {l : List α}, (∀ x ∈ l, wt x ≤ avL (c x)) → (l.map wt).sum ≤ avLL (mapC c l)
  | [], _ => by simp
  | x :: l, h => by
    have h1 := avLL_mapC (c := c) (wt := wt) (l := l) fun y hy => h y (by simp [hy])
    have h2 := h x (by simp)
    rw [mapC_cons, avLL, List.map_cons, List.sum_cons]
    omega
theorem mapC_len_le {α : Type} {c : α → List AV} (h : ∀ x, 1 ≤ avL (c x)) : ∀ l : List α, l.length ≤ avLL (mapC c l)
  | [] => by simp
  | x :: l => by
    have h1 := mapC_len_le h l
    have h2 := h x
    rw [mapC_cons, avLL, List.length_cons]
    omega
theorem avLL_mem {x : List AV} : ∀ {l : List (List AV)}, x ∈ l → avL x ≤ avLL l
  | y :: l, h => by
    rw [avLL]
    rcases List.mem_cons.1 h with rfl | h
    · omega
    · have := avLL_mem h
      omega
theorem st1_av (s : ByteArray) : 1 ≤ avL (st1 s) := by simp [st1, avL, avw]
theorem wtL_sumR (l : List Val) : wtL l = (l.map wtV).sum := by
  induction l with
  | nil => rfl
  | cons x l ih => rw [wtL, ih, List.map_cons, List.sum_cons]
theorem valC_av (v : Val) : wtV v + 3 ≤ avL (valC v) := by
  refine Val.ind (Q := fun v => wtV v + 3 ≤ avL (valC v)) (fun v ih => ?_) v
  rw [valC_eq, wtV_eq, wtL_sumR]
  have h1 := avLL_mapC (c := valC) (wt := wtV) (l := v.items) fun x hx => by have := ih x hx; omega
  have h2 : v.keys.length ≤ avLL (stC v.keys) := mapC_len_le st1_av v.keys
  simp only [avL, avw]
  omega
/-- The cells of a value are those of a tree. -/
theorem shp_val {L : List AV} (h : Shp Try.prog 25 L) : ∃ v : Val, L = valC v := by
  suffices key : ∀ (n : Nat) (L : List AV), avL L ≤ n → Shp Try.prog 25 L → ∃ v : Val, L = valC v from key _ L (Nat.le_refl _) h
  intro n
  induction n with
  | zero =>
    intro L hn h
    obtain ⟨parts, rfl, hl, hp⟩ := shp_struct Try.underlying25 h
    obtain ⟨a, b, c, d, e, rfl⟩ := ds_n5 (show parts.length = 5 from hl)
    obtain ⟨a, rfl, _⟩ := shp_int Try.underlying3 (hp 0 _ a rfl rfl)
    simp [avL, avw] at hn
  | succ n ih =>
    intro L hn h
    obtain ⟨parts, rfl, hl, hp⟩ := shp_struct Try.underlying25 h
    obtain ⟨a, b, c, d, e, rfl⟩ := ds_n5 (show parts.length = 5 from hl)
    obtain ⟨a, rfl, _⟩ := shp_int Try.underlying3 (hp 0 _ a rfl rfl)
    obtain ⟨b, rfl, _⟩ := shp_int Try.underlying3 (hp 1 _ b rfl rfl)
    obtain ⟨c, rfl, _⟩ := shp_string Try.underlying9 (hp 2 _ c rfl rfl)
    obtain ⟨l, rfl, _, hx⟩ := shp_slice Try.underlying22 (hp 3 _ d rfl rfl)
    obtain ⟨k, rfl, _, hy⟩ := shp_slice Try.underlying23 (hp 4 _ e rfl rfl)
    obtain ⟨vs, rfl, _⟩ := mapC_of (c := valC) fun x h => ih x (by
      have := avLL_mem h
      simp [avL, avw] at hn
      omega) (hx x h)
    obtain ⟨ks, rfl, _⟩ := mapC_of (c := st1) fun x h => by
      obtain ⟨s, rfl, _⟩ := shp_string Try.underlying9 (hy x h)
      exact ⟨s, rfl⟩
    exact ⟨.mk a b c vs ks, by rw [valC_eq]; rfl⟩
theorem reads_val {α : AV} (h : AS Try.prog 25 α) : ∃ v : Val, α = vx v ∧ True := by
  obtain ⟨L, rfl, h2⟩ := as_struct Try.underlying25 h
  obtain ⟨v, rfl⟩ := shp_val h2
  exact ⟨v, by rw [valC_eq], trivial⟩
theorem vx_av (v : Val) : wtV v + 3 ≤ avw (vx v) := by
  have := valC_av v
  rw [valC_eq] at this
  exact this
end Go.Proofs.Ytmcgjccheehehaa
namespace Go.Proofs.Ytmcgjccheehehaa
open Go.Eng
set_option linter.unusedVariables false
set_option linter.unusedSimpArgs false
theorem shp_arg {L : List AV} (h : Shp Try.prog 77 L) : ∃ x : Arg, L = argC x := by
  obtain ⟨parts, rfl, hl, hp⟩ := shp_struct Try.underlying77 h
  obtain ⟨a, b, rfl⟩ := ds_n2 (show parts.length = 2 from hl)
  obtain ⟨a, rfl, _⟩ := shp_string Try.underlying9 (hp 0 _ a rfl rfl)
  obtain ⟨v, rfl⟩ := shp_val (hp 1 _ b rfl rfl)
  refine ⟨.mk a v, ?_⟩
  rw [valC_eq]
  rfl
theorem shp_pk {L : List AV} (h : Shp Try.prog 69 L) : ∃ x : Pk, L = pkC x := by
  suffices key : ∀ (n : Nat) (L : List AV), avL L ≤ n → Shp Try.prog 69 L → ∃ x : Pk, L = pkC x from key _ L (Nat.le_refl _) h
  intro n
  induction n with
  | zero =>
    intro L hn h
    obtain ⟨parts, rfl, hl, hp⟩ := shp_struct Try.underlying69 h
    match parts, hl, hp, hn with
    | a :: r, _, hp, hn =>
      obtain ⟨a, rfl, _⟩ := shp_string Try.underlying9 (hp 0 _ a rfl rfl)
      simp [avL, avw] at hn
  | succ n ih =>
    intro L hn h
    obtain ⟨parts, rfl, hl, hp⟩ := shp_struct Try.underlying69 h
    match parts, hl, hp, hn with
    | [a, b, c, d, e, f, g, i], _, hp, hn =>
      obtain ⟨a, rfl, _⟩ := shp_string Try.underlying9 (hp 0 _ a rfl rfl)
      obtain ⟨b, rfl, _⟩ := shp_string Try.underlying9 (hp 1 _ b rfl rfl)
      obtain ⟨c, rfl, _⟩ := shp_string Try.underlying9 (hp 2 _ c rfl rfl)
      obtain ⟨l, rfl, _, hx⟩ := shp_slice Try.underlying65 (hp 3 _ d rfl rfl)
      obtain ⟨al, rfl, _⟩ := mapC_of (c := argC) fun x h => shp_arg (hx x h)
      obtain ⟨ts, rfl, hl2, hp2⟩ := shp_struct Try.underlying67 (hp 4 _ e rfl rfl)
      obtain ⟨t, u, rfl⟩ := ds_n2 (show ts.length = 2 from hl2)
      obtain ⟨t, rfl, _⟩ := shp_string Try.underlying9 (hp2 0 _ t rfl rfl)
      obtain ⟨w, rfl, _, hy⟩ := shp_slice Try.underlying45 (hp2 1 _ u rfl rfl)
      obtain ⟨ws, rfl, _⟩ := mapC_of (c := in1) fun x h => by
        obtain ⟨n, rfl, _⟩ := shp_int Try.underlying3 (hy x h)
        exact ⟨n, rfl⟩
      obtain ⟨f, rfl, _⟩ := shp_string Try.underlying9 (hp 5 _ f rfl rfl)
      obtain ⟨g, rfl, _⟩ := shp_int Try.underlying3 (hp 6 _ g rfl rfl)
      obtain ⟨p, rfl, _, hz⟩ := shp_slice Try.underlying38 (hp 7 _ i rfl rfl)
      obtain ⟨ps, rfl, _⟩ := mapC_of (c := pkC) fun x h => ih x (by
        have := avLL_mem h
        simp [avL, avw] at hn
        omega) (hz x h)
      exact ⟨.mk a b c al t ws f g ps, by rw [pkC_eq]; rfl⟩
theorem reads_picks {α : AV} (h : AS Try.prog 38 α) : ∃ l : List Pk, α = .ds (mapC pkC l) ∧ True := by
  obtain ⟨l, rfl, _, hx⟩ := as_slice Try.underlying38 h
  obtain ⟨m, rfl, _⟩ := mapC_of (c := pkC) fun x h => shp_pk (hx x h)
  exact ⟨m, rfl, trivial⟩
theorem pks_av : ∀ l : List Pk, (∀ p ∈ l, 9 * wtK p ≤ avL (pkC p)) → 9 * wtKs l ≤ avLL (mapC pkC l)
  | [], _ => by simp [wtKs]
  | x :: l, h => by
    have h1 := pks_av l fun p hp => h p (by simp [hp])
    have h2 := h x (by simp)
    rw [mapC_cons, avLL, wtKs]
    omega
theorem pk_av (p : Pk) : 9 * wtK p ≤ avL (pkC p) := by
  refine Pk.ind (Q := fun p => 9 * wtK p ≤ avL (pkC p)) (fun v ih => ?_) p
  have h1 := pks_av v.picks ih
  rw [pkC_eq, wtK_eq]
  simp only [avL, avw]
  omega
theorem picks_av (l : List Pk) : 9 * wtKs l ≤ avLL (mapC pkC l) := pks_av l fun p _ => pk_av p
end Go.Proofs.Ytmcgjccheehehaa
