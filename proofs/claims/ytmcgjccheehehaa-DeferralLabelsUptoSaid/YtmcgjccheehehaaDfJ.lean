/-
  The example of chapter 38 holds. Conditions: none.
-/
import Derived.Test.YtmcgjccheehehaaDfI
namespace Go.Proofs.Ytmcgjccheehehaa
open Go.Eng
set_option linter.unusedVariables false
set_option linter.unusedSimpArgs false
set_option maxRecDepth 20000
theorem int_r (n : Int) (hp : CH) (m : Nat) : MeetsF Try.prog 46 hp m [.i .i64 n] (vx (.mk 2 n ⟨#[]⟩ [] [])) := by
  refine meetsF Try.func46 (by kernel_rfl) cc46 cr46 rfl fun hf => ?_; unfold ck46
  simp only [go_sem, ↓reduceIte, Nat.reduceEqDiff, Nat.reduceBEq, Nat.reduceAdd, Nat.reduceLeDiff, Nat.reduceLT, reduceCtorEq, Nat.reduceMul, Nat.reduceSub, Int.reduceEq, Int.reduceLT, Int.reduceLE, Int.reduceToNat]
def exA : Val := .mk 6 0 ⟨#[]⟩ [.mk 2 1 ⟨#[]⟩ [] []] [⟨#[97]⟩]
def exB : Val := .mk 6 0 ⟨#[]⟩ [.mk 2 2 ⟨#[]⟩ [] []] [⟨#[98]⟩]
def exC : Val := .mk 6 0 ⟨#[]⟩ [.mk 2 1 ⟨#[]⟩ [] [], .mk 2 2 ⟨#[]⟩ [] []] [⟨#[97]⟩, ⟨#[98]⟩]
theorem exM : mgV [.mk ⟨#[120]⟩ [] exB []] exA = (exC, 0) := by
  have h : addV exA exB = (exC, 0) := by
    simp [addV, exA, exB, exC, adL, adR, ix, Val.k_mk, Val.keys_mk, Val.items_mk, Val.n_mk, Val.s_mk]
  rw [mgV, Pat.d, Pat.p, apV, h, if_pos rfl, mgV]
theorem exW : wtV exA + wtP [.mk ⟨#[120]⟩ [] exB []] ≤ 1000000000000 := by
  simp [wtP, Pat.d, exA, exB, wtV, wtL]
def exP : Pk := .mk ⟨#[97]⟩ ⟨#[]⟩ ⟨#[]⟩ [] ⟨#[]⟩ [] ⟨#[120]⟩ 0 []
theorem exL : labL [exP] [] = [⟨#[120]⟩] := by
  simp [labL, exP, labP, addLb, ix]
theorem ex_ok (hp : CH) (m : Nat) : MeetsF Try.prog 13 hp m [] (.b true) := by
  have hM := merge1_ok exA [.mk ⟨#[120]⟩ [] exB []] (by decide) exW
  have hL := Labels_ok [exP] (by simp [wtKs, wtK, exP])
  rw [exM] at hM
  rw [exL] at hL
  refine meetsF Try.func13 (by kernel_rfl) cc13 cr13 rfl fun hf => ?_; unfold ck13
  simp only [go_sem, ↓reduceIte, Nat.reduceEqDiff, Nat.reduceBEq, Nat.reduceAdd, Nat.reduceLeDiff, Nat.reduceLT, reduceCtorEq, Nat.reduceMul, Nat.reduceSub, Int.reduceEq, Int.reduceLT, Int.reduceLE, Int.reduceToNat]
  refine vcCall.f (int_r 1 _ _) ?_
  simp only [go_sem, ↓reduceIte, Nat.reduceEqDiff, Nat.reduceBEq, Nat.reduceAdd, Nat.reduceLeDiff, Nat.reduceLT, reduceCtorEq, Nat.reduceMul, Nat.reduceSub, Int.reduceEq, Int.reduceLT, Int.reduceLE, Int.reduceToNat]
  refine vcCall.f (int_r 2 _ _) ?_
  simp only [go_sem, ↓reduceIte, Nat.reduceEqDiff, Nat.reduceBEq, Nat.reduceAdd, Nat.reduceLeDiff, Nat.reduceLT, reduceCtorEq, Nat.reduceMul, Nat.reduceSub, Int.reduceEq, Int.reduceLT, Int.reduceLE, Int.reduceToNat]
  refine vcCall.q (args' := [vx exA, .ds (mapC patC [.mk ⟨#[120]⟩ [] exB []])]) (hM _ _) (by simp only [go_sem, ↓reduceIte, Nat.reduceEqDiff, Nat.reduceBEq, Nat.reduceAdd, Nat.reduceLeDiff, Nat.reduceLT, reduceCtorEq, Nat.reduceMul, Nat.reduceSub, Int.reduceEq, Int.reduceLT, Int.reduceLE, Int.reduceToNat] <;> rfl) ?_
  simp only [go_sem, ↓reduceIte, Nat.reduceEqDiff, Nat.reduceBEq, Nat.reduceAdd, Nat.reduceLeDiff, Nat.reduceLT, reduceCtorEq, Nat.reduceMul, Nat.reduceSub, Int.reduceEq, Int.reduceLT, Int.reduceLE, Int.reduceToNat]
  refine vcCall.q (args' := [.ds (mapC pkC [exP])]) (hL _ _) (by simp only [go_sem, ↓reduceIte, Nat.reduceEqDiff, Nat.reduceBEq, Nat.reduceAdd, Nat.reduceLeDiff, Nat.reduceLT, reduceCtorEq, Nat.reduceMul, Nat.reduceSub, Int.reduceEq, Int.reduceLT, Int.reduceLE, Int.reduceToNat] <;> rfl) ?_
  simp only [exC, go_sem, ↓reduceIte, Nat.reduceEqDiff, Nat.reduceBEq, Nat.reduceAdd, Nat.reduceLeDiff, Nat.reduceLT, reduceCtorEq, Nat.reduceMul, Nat.reduceSub, Int.reduceEq, Int.reduceLT, Int.reduceLE, Int.reduceToNat]
end Go.Proofs.Ytmcgjccheehehaa
