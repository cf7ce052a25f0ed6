/-
  The parts VaR of the proof, in one file. Conditions: none.
-/
import Derived.Test.YtmcgjccheehehaaRows
import Derived.WalkKit
import Derived.Test.YtmcgjccheehehaaQss51
namespace Go.Proofs.Ytmcgjccheehehaa
open Go.Eng
set_option linter.unusedVariables false
set_option linter.unusedSimpArgs false
theorem own : ownKnob Try.prog.godebug = none := by kernel_rfl
theorem kids : Kids Try.prog (· < Try.prog.types.size) := kids_rows (by kernel_rfl) (by kernel_rfl)
theorem sized {t e : TypeId} (ht : t < Try.prog.types.size) (hd : Try.prog.underlying t = some (.slice e)) : 0 < Try.prog.cellsOf e := slB_of (by kernel_rfl) ht hd
theorem avLL_mapC {α : Type} {c : α → List AV} {wt : α → Nat} : ∀ {l : List α}, (∀ x ∈ l, wt x ≤ avL (c x)) → (l.map wt).sum ≤ avLL (mapC c l)
  | [], _ => by simp
  | x :: l, h => by
    have h1 := avLL_mapC (c := c) (wt := wt) (l := l) fun y hy => h y (by simp [hy])
    have h2 := h x (by simp)
    rw [mapC_cons, avLL, List.map_cons, List.sum_cons]
    omega
theorem mapC_len_le {α : Type} {c : α → List AV} (h : ∀ x, 1 ≤ avL (c x)) : ∀ l : List α, l.length ≤ avLL (mapC c l)
  | [] => by simp
  | x :: l => by
    have h1 := mapC_len_le h l
    have h2 := h x
    rw [mapC_cons, avLL, List.length_cons]
    omega
theorem avLL_mem {x : List AV} : ∀ {l : List (List AV)}, x ∈ l → avL x ≤ avLL l
  | y :: l, h => by
    rw [avLL]
    rcases List.mem_cons.1 h with rfl | h
    · omega
    · have := avLL_mem h
      omega
theorem st1_av (s : ByteArray) : 1 ≤ avL (st1 s) := by simp [st1, avL, avw]
theorem wtL_sumR (l : List Val) : wtL l = (l.map wtV).sum := by
  induction l with
  | nil => rfl
  | cons x l ih => rw [wtL, ih, List.map_cons, List.sum_cons]
theorem valC_av (v : Val) : wtV v + 3 ≤ avL (valC v) := by
  refine Val.ind (Q := fun v => wtV v + 3 ≤ avL (valC v)) (fun v ih => ?_) v
  rw [valC_eq, wtV_eq, wtL_sumR]
  have h1 := avLL_mapC (c := valC) (wt := wtV) (l := v.items) fun x hx => by have := ih x hx; omega
  have h2 : v.keys.length ≤ avLL (stC v.keys) := mapC_len_le st1_av v.keys
  simp only [avL, avw]
  omega
/-- The cells of a value are those of a tree. -/
theorem shp_val {L : List AV} (h : Shp Try.prog 25 L) : ∃ v : Val, L = valC v := by
  suffices key : ∀ (n : Nat) (L : List AV), avL L ≤ n → Shp Try.prog 25 L → ∃ v : Val, L = valC v from key _ L (Nat.le_refl _) h
  intro n
  induction n with
  | zero =>
    intro L hn h
    obtain ⟨parts, rfl, hl, hp⟩ := shp_struct Try.underlying25 h
    obtain ⟨a, b, c, d, e, rfl⟩ := ds_n5 (show parts.length = 5 from hl)
    obtain ⟨a, rfl, _⟩ := shp_int Try.underlying3 (hp 0 _ a rfl rfl)
    simp [avL, avw] at hn
  | succ n ih =>
    intro L hn h
    obtain ⟨parts, rfl, hl, hp⟩ := shp_struct Try.underlying25 h
    obtain ⟨a, b, c, d, e, rfl⟩ := ds_n5 (show parts.length = 5 from hl)
    obtain ⟨a, rfl, _⟩ := shp_int Try.underlying3 (hp 0 _ a rfl rfl)
    obtain ⟨b, rfl, _⟩ := shp_int Try.underlying3 (hp 1 _ b rfl rfl)
    obtain ⟨c, rfl, _⟩ := shp_string Try.underlying9 (hp 2 _ c rfl rfl)
    obtain ⟨l, rfl, _, hx⟩ := shp_slice Try.underlying22 (hp 3 _ d rfl rfl)
    obtain ⟨k, rfl, _, hy⟩ := shp_slice Try.underlying23 (hp 4 _ e rfl rfl)
    obtain ⟨vs, rfl, _⟩ := mapC_of (c := valC) fun x h => ih x (by
      have := avLL_mem h
      simp [avL, avw] at hn
      omega) (hx x h)
    obtain ⟨ks, rfl, _⟩ := mapC_of (c := st1) fun x h => by
      obtain ⟨s, rfl, _⟩ := shp_string Try.underlying9 (hy x h)
      exact ⟨s, rfl⟩
    exact ⟨.mk a b c vs ks, by rw [valC_eq]; rfl⟩
theorem reads_val {α : AV} (h : AS Try.prog 25 α) : ∃ v : Val, α = vx v ∧ True := by
  obtain ⟨L, rfl, h2⟩ := as_struct Try.underlying25 h
  obtain ⟨v, rfl⟩ := shp_val h2
  exact ⟨v, by rw [valC_eq], trivial⟩
theorem vx_av (v : Val) : wtV v + 3 ≤ avw (vx v) := by
  have := valC_av v
  rw [valC_eq] at this
  exact this
end Go.Proofs.Ytmcgjccheehehaa
