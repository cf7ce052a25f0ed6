/-
  The parts IdD of the proof, in one file. Conditions: none.
-/
import Derived.Test.YtgollgfifnmaaaaDoorCmS142
namespace Go.Proofs.YtgollgfifnmaaaaDoor
open Go.Eng
set_option linter.unusedVariables false
set_option linter.unusedSimpArgs false
set_option maxRecDepth 20000
theorem tabIs_at {P : Program} {w : World} {name : String} {gb : Nat} {k : IntKind} {zs : List Int} {t : TypeId} {fr : Nat × Nat} (hg : P.globalNamed name = some gb) (h : w.heap[gb]? = some (.cells (zs.map fun z => Value.int k z).toArray t fr)) : Lib.TabIs P w name k zs := by
  unfold Lib.TabIs World.var?
  rw [hg]
  show (match w.heap[gb]? with
    | some (.cells cs _ _) => some cs
    | _ => none) = _
  rw [h]
theorem itoa_ok (x : Int) (h0 : -9223372036854775808 ≤ x) (h1 : x ≤ 9223372036854775807) (hp : CH) (m : Nat) : MeetsF Tryd.prog 85 hp m [.i .i64 x] (.s (ofL (Lib.itoa x))) :=
  meets_itoa Tryd.laysM171 rfl ⟨_, Tryd.func85, by kernel_rfl, by kernel_rfl⟩ (gb := 0) (fun w ⟨t, fr, h⟩ x h0 h1 => Any.strconv_Itoa Tryd.laysM171 x h0 h1 w (tabIs_at (by kernel_rfl) h)) (by simp [glTab]) h0 h1
theorem tDecimal_ok (x : Int) (h0 : -9223372036854775808 ≤ x) (h1 : x ≤ 9223372036854775807) (hp : CH) (m : Nat) : MeetsF Tryd.prog 62 hp m [.i .i64 x] (.s (ofL (Lib.itoa x))) := by
  refine meetsF Tryd.func62 (by kernel_rfl) cc62 cr62 rfl fun hf => ?_; unfold ck62
  simp only [go_sem, ↓reduceIte, Nat.reduceEqDiff, Nat.reduceBEq, Nat.reduceAdd, Nat.reduceLeDiff, Nat.reduceLT, reduceCtorEq, Nat.reduceMul, Nat.reduceSub, Int.reduceEq, Int.reduceLT, Int.reduceLE, Int.reduceToNat]
  refine vcCall.f (itoa_ok x h0 h1 _ _) ?_
  simp only [go_sem, ↓reduceIte, Nat.reduceEqDiff, Nat.reduceBEq, Nat.reduceAdd, Nat.reduceLeDiff, Nat.reduceLT, reduceCtorEq, Nat.reduceMul, Nat.reduceSub, Int.reduceEq, Int.reduceLT, Int.reduceLE, Int.reduceToNat]
end Go.Proofs.YtgollgfifnmaaaaDoor
