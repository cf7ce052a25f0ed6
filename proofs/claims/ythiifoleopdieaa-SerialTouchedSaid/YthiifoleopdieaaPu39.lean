/-
  The parts DaM DaD of the proof, in one file. Conditions: none.
-/
import Derived.Test.YthiifoleopdieaaPu38
namespace Go.Proofs.Ythiifoleopdieaa
open Go.Eng
set_option linter.unusedVariables false
set_option linter.unusedSimpArgs false
def putA (l : List Cel) (cs : List Cel) : List Cel := cs.foldl putC l
theorem putA_cons (l : List Cel) (c : Cel) (cs : List Cel) : putA l (c :: cs) = putA (putC l c) cs := rfl
/-- The writes of an item. -/
def cAt (f a : ByteArray) (n : Nat) (ws : List Wri) : List Cel := (ws.filter fun w => hits f a w && decide (w.i = n)).map Wri.c
theorem appS_get (f a : ByteArray) (l : List Itm) (w : Wri) (n : Nat) : (appS f a l w)[n]? = l[n]?.map fun x => if (hits f a w && decide (w.i = n)) = true then .mk x.t (putC x.l w.c) else x := by
  unfold appS wrI
  cases hh : hits f a w with
  | false =>
    rw [if_neg (by simp)]
    simp
  | true =>
    rw [if_pos rfl]
    simp only [Bool.true_and, decide_eq_true_eq]
    by_cases h0 : 0 ≤ w.i
    · rw [if_pos h0]
      cases hx : l[w.i.toNat]? with
      | none =>
        simp only
        by_cases e : w.i = n
        · rw [e, Int.toNat_natCast] at hx
          rw [hx]
          rfl
        · simp [e]
      | some x =>
        simp only
        by_cases e : w.i = n
        · rw [e, Int.toNat_natCast] at hx ⊢
          rw [List.getElem?_set_self (List.getElem?_eq_some_iff.1 hx).1, hx]
          simp
        · rw [List.getElem?_set_ne (by omega)]
          simp [e]
    · rw [if_neg h0]
      have e : ¬ w.i = n := by omega
      simp [e]
theorem appL_get (f a : ByteArray) (n : Nat) : ∀ (ws : List Wri) (l : List Itm), (appL f a ws l)[n]? = l[n]?.map fun x => .mk x.t (putA x.l (cAt f a n ws))
  | [], l => by
    have : (fun x : Itm => Itm.mk x.t (putA x.l (cAt f a n []))) = fun x => x := by funext x; exact Itm.eta x
    rw [this]
    simp [appL]
  | w :: ws, l => by
    rw [show appL f a (w :: ws) l = appL f a ws (appS f a l w) from rfl, appL_get f a n ws, appS_get, Option.map_map]
    congr 1
    funext x
    simp only [Function.comp, cAt, List.filter_cons]
    split
    · rw [List.map_cons, putA_cons, Itm.t_mk, Itm.l_mk]
    · rfl
/-- What no write concerns is as it was. -/
theorem appV_same (d : Dat) (f a : ByteArray) (n : Nat) (h : ∀ w ∈ d.w, ¬ (hits f (argA d f a) w = true ∧ w.i = n)) : (appV d f a).i[n]? = d.i[n]? := by
  unfold appV
  rw [Dat.i_mk, appL_get]
  have : cAt f (argA d f a) n d.w = [] := by
    unfold cAt
    rw [List.filter_eq_nil_iff.2 fun w hw => by have := h w hw; simpa using this]
    rfl
  rw [this]
  have e : (fun x : Itm => Itm.mk x.t (putA x.l [])) = fun x => x := by funext x; exact Itm.eta x
  rw [e]
  simp
theorem appV_len (d : Dat) (f a : ByteArray) : (appV d f a).i.length = d.i.length := appL_len _ _ _ _
end Go.Proofs.Ythiifoleopdieaa
namespace Go.Proofs.Ythiifoleopdieaa
open Go.Eng
set_option linter.unusedVariables false
set_option linter.unusedSimpArgs false
set_option maxRecDepth 20000
def txV (s : ByteArray) : Val := .mk 3 0 s [] []
theorem text_ok (s : ByteArray) (hp : CH) (m : Nat) : MeetsF Try.prog 25 hp m [.s s] (vx (txV s)) := by
  refine meetsF Try.func25 (by kernel_rfl) cc25 cr25 rfl fun hf => ?_; unfold ck25
  simp only [go_sem, ↓reduceIte, Nat.reduceEqDiff, Nat.reduceBEq, Nat.reduceAdd, Nat.reduceLeDiff, Nat.reduceLT, reduceCtorEq, Nat.reduceMul, Nat.reduceSub, Int.reduceEq, Int.reduceLT, Int.reduceLE, Int.reduceToNat]
  rfl
theorem tx_fit (s : ByteArray) : (txV s).Fit := .mk _ (by simp [txV, Val.items_mk]) (by simp [txV, Val.keys_mk]) (by simp [txV, Val.items_mk])
end Go.Proofs.Ythiifoleopdieaa
