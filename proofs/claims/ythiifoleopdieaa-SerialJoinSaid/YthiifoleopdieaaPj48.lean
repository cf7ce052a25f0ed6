/-
  The parts SeB of the proof, in one file. Conditions: none.
-/
import Derived.Test.YthiifoleopdieaaPj47
namespace Go.Proofs.Ythiifoleopdieaa
open Go.Eng
set_option linter.unusedVariables false
set_option linter.unusedSimpArgs false
set_option maxRecDepth 20000
/-- Is item i touched? -/
def tcB (f a : ByteArray) (ws : List Wri) (i : Nat) : Bool := ws.any fun w => hits f a w && decide (w.i = (i : Int))
def tcL (f a : ByteArray) (ws : List Wri) (n : Nat) : List Int := ((List.range n).filter (tcB f a ws)).map fun (i : Nat) => (i : Int)
theorem tcL_mem {f a : ByteArray} {ws : List Wri} {n : Nat} {x : Int} : x ∈ tcL f a ws n ↔ ∃ w ∈ ws, hits f a w = true ∧ 0 ≤ w.i ∧ w.i < (n : Int) ∧ w.i = x := by
  unfold tcL tcB
  simp only [List.mem_map, List.mem_filter, List.mem_range, List.any_eq_true, Bool.and_eq_true, decide_eq_true_eq]
  constructor
  · rintro ⟨i, ⟨hi, w, hw, h1, h2⟩, rfl⟩
    exact ⟨w, hw, h1, by omega, by omega, h2⟩
  · rintro ⟨w, hw, h1, h2, h3, rfl⟩
    exact ⟨w.i.toNat, ⟨by omega, w, hw, h1, by omega⟩, by omega⟩
theorem tchL_mem {f a : ByteArray} {n : Nat} : ∀ (ws : List Wri) (l : List Int) (x : Int), x ∈ ws.foldl (tchS f a n) l ↔ x ∈ l ∨ ∃ w ∈ ws, hits f a w = true ∧ 0 ≤ w.i ∧ w.i < (n : Int) ∧ w.i = x
  | [], l, x => by simp
  | w :: ws, l, x => by
    rw [List.foldl_cons, tchL_mem ws]
    have : x ∈ tchS f a n l w ↔ x ∈ l ∨ (hits f a w = true ∧ 0 ≤ w.i ∧ w.i < (n : Int) ∧ w.i = x) := by
      unfold tchS
      split
      · rename_i h
        rw [List.mem_append, List.mem_singleton]
        exact ⟨fun q => q.imp id fun e => ⟨h.1, h.2.1, h.2.2.1, e.symm⟩, fun q => q.imp id fun e => e.2.2.2.symm⟩
      · rename_i h
        refine ⟨.inl, fun q => q.elim id fun e => Classical.byContradiction fun nx => h ⟨e.1, e.2.1, e.2.2.1, by rw [e.2.2.2]; exact nx⟩⟩
    rw [this, or_assoc]
    simp only [List.mem_cons, exists_eq_or_imp]
theorem tchL_nodup {f a : ByteArray} {n : Nat} : ∀ (ws : List Wri) (l : List Int), l.Nodup → (ws.foldl (tchS f a n) l).Nodup
  | [], l, h => h
  | w :: ws, l, h => by
    rw [List.foldl_cons]
    refine tchL_nodup ws _ ?_
    unfold tchS
    split
    · rename_i q
      rw [List.nodup_append]
      exact ⟨h, by simp, fun x hx y hy e => by simp at hy; subst hy; exact q.2.2.2 (e ▸ hx)⟩
    · exact h
theorem tcL_lt (f a : ByteArray) (ws : List Wri) (n : Nat) : (tcL f a ws n).Pairwise (· < ·) := by
  unfold tcL
  rw [List.pairwise_map]
  exact (List.Pairwise.sublist List.filter_sublist List.pairwise_lt_range).imp fun h => by omega
theorem tchD_eq (d : Dat) (f a : ByteArray) : tchD d f a = tcL f (argA d f a) d.w d.i.length := by
  unfold tchD
  have hp : (srtI (tchL f (argA d f a) d.i.length d.w)).Perm (tchL f (argA d f a) d.i.length d.w) := List.mergeSort_perm _ _
  have hs : (srtI (tchL f (argA d f a) d.i.length d.w)).Pairwise (· ≤ ·) := by
    have := List.pairwise_mergeSort (le := fun x y : Int => decide (x ≤ y)) (fun a b c h1 h2 => by simp at *; omega) (fun a b => by simp; omega) (tchL f (argA d f a) d.i.length d.w)
    exact this.imp fun h => by simpa using h
  have hl := tcL_lt f (argA d f a) d.w d.i.length
  refine List.Perm.eq_of_pairwise (le := (· ≤ ·)) (fun a b _ _ h1 h2 => by omega) hs (hl.imp fun h => by omega) (hp.trans ?_)
  refine (List.perm_ext_iff_of_nodup (tchL_nodup _ _ (by simp)) (hl.imp fun h => by omega)).2 fun x => ?_
  rw [tcL_mem, tchL_mem]
  simp
end Go.Proofs.Ythiifoleopdieaa
