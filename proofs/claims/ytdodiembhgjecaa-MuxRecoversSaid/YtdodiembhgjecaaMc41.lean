/-
  The parts MxM of the proof, in one file. Conditions: none.
-/
import Derived.Test.YtdodiembhgjecaaMc40
namespace Go.Proofs.Ytdodiembhgjecaa
open Go.Eng
set_option linter.unusedVariables false
set_option linter.unusedSimpArgs false
set_option maxRecDepth 20000
set_option maxHeartbeats 1000000
/-- What open answers. -/
def opE (a last acked : Int) : Int := if last < a then 13 else if a < acked then 14 else 0
def opL (a last acked : Int) (K : List Frm) : List Frm := if last < a then [] else if a < acked then [] else Frm.mk 8 0 0 last ⟨#[]⟩ :: K.drop (akD a acked K)
def opA (a last acked : Int) : Int := if last < a then acked else if a < acked then acked else akA a acked
def opD (a last acked : Int) (K : List Frm) : Nat := if last < a then 0 else if a < acked then 0 else akD a acked K
theorem mOpen2_ok (a room last acked : Int) (KA : List Frm) (d : Nat) (hKA : KA.length ≤ 1000000) (hd : d ≤ KA.length) (c kk g kl gl nl : Nat) (hp : CH) (hc : gc hp c = svB room last acked kk g d (KA.length - d) kl gl nl) (hk : gc hp kk = .rw g 5 (mapC frC KA)) (hcl : kl ≠ c) (m : Nat) (hklm : kl < m) :
    MeetsX Try.prog 37 hp m [.bx c 0, .i .i64 a] ([(c, svB room last (opA a last acked) kk g (d + opD a last acked (KA.drop d)) (KA.length - (d + opD a last acked (KA.drop d))) kl gl nl)] ++ hp) m (.tp [.ds (mapC frC (opL a last acked (KA.drop d))), .i .i64 (opE a last acked)]) := by
  have hne : c ≠ kk := fun e => by subst e; rw [hc] at hk; cases hk
  have hne' : ¬ kk = c := fun e => hne e.symm
  have hGl : (mapC frC KA).length = KA.length := mapC_len _ _
  have hA := fun hp' e1 e2 m' e3 => mAck_ok a room last acked KA d hKA hd c kk g kl gl nl hp' e1 e2 hcl m' e3
  have hwl := dW_le a (KA.drop d)
  rw [List.length_drop] at hwl
  have hWS : (∀ k, m ≤ k → gc hp k = .no) → wsLt m [(c, svB room last (opA a last acked) kk g (d + opD a last acked (KA.drop d)) (KA.length - (d + opD a last acked (KA.drop d))) kl gl nl)] := fun hf => by
    have h1 : c < m := bx_lt' hf hc
    have h2 := rw_lt hf hk
    exact ⟨h1, fun α h => by simp at h; rcases h with rfl | rfl | rfl | rfl | rfl <;> first | exact h2 | exact hklm | rfl | simp [AV.lt1, AV.pur], trivial⟩
  have hc0 := hc
  unfold svB at hc
  refine meetsW Try.func37 (by kernel_rfl) cc37 cr37 rfl hWS fun hf => ?_; unfold ck37
  have hlt := bx_lt' hf hc
  have hlt2 := rw_lt hf hk
  by_cases h1 : last < a
  · have x1 : opE a last acked = 13 := by simp [opE, h1]
    have x2 : opL a last acked (KA.drop d) = [] := by simp [opL, h1]
    have x3 : opA a last acked = acked := by simp [opA, h1]
    have x4 : opD a last acked (KA.drop d) = 0 := by simp [opD, h1]
    rw [x1, x2, x3, x4]
    unfold svB
    simp (disch := omega) only [ite_ne, hc, decide_eq_true h1, go_sem, ↓reduceIte, Nat.reduceEqDiff, Nat.reduceBEq, Nat.reduceAdd, Nat.reduceLeDiff, Nat.reduceLT, reduceCtorEq, Nat.reduceMul, Nat.reduceSub, Int.reduceEq, Int.reduceLT, Int.reduceLE, Int.reduceToNat]
    exact up_ws1 hc fun j _ _ => rfl
  by_cases h2 : a < acked
  · have x1 : opE a last acked = 14 := by simp [opE, h1, h2]
    have x2 : opL a last acked (KA.drop d) = [] := by simp [opL, h1, h2]
    have x3 : opA a last acked = acked := by simp [opA, h1, h2]
    have x4 : opD a last acked (KA.drop d) = 0 := by simp [opD, h1, h2]
    rw [x1, x2, x3, x4]
    unfold svB
    simp (disch := omega) only [ite_ne, hc, decide_eq_false h1, decide_eq_true h2, go_sem, ↓reduceIte, Nat.reduceEqDiff, Nat.reduceBEq, Nat.reduceAdd, Nat.reduceLeDiff, Nat.reduceLT, reduceCtorEq, Nat.reduceMul, Nat.reduceSub, Int.reduceEq, Int.reduceLT, Int.reduceLE, Int.reduceToNat]
    exact up_ws1 hc fun j _ _ => rfl
  have x1 : opE a last acked = 0 := by simp [opE, h1, h2]
  have x2 : opL a last acked (KA.drop d) = Frm.mk 8 0 0 last ⟨#[]⟩ :: (KA.drop d).drop (akD a acked (KA.drop d)) := by simp [opL, h1, h2]
  have x3 : opA a last acked = akA a acked := by simp [opA, h1, h2]
  have x4 : opD a last acked (KA.drop d) = akD a acked (KA.drop d) := by simp [opD, h1, h2]
  rw [x1, x2, x3, x4, List.drop_drop]
  have hDle : akD a acked (KA.drop d) ≤ KA.length - d := by
    unfold akD
    split
    · omega
    · exact hwl
  obtain ⟨D, hD⟩ : ∃ D, akD a acked (KA.drop d) = D := ⟨_, rfl⟩
  obtain ⟨A, hA'⟩ : ∃ A, akA a acked = A := ⟨_, rfl⟩
  rw [hD, hA'] at hA
  rw [hD] at hDle
  rw [hD, hA']
  obtain ⟨s, hs⟩ : ∃ s, d + D = s := ⟨_, rfl⟩
  rw [hs] at hA ⊢
  obtain ⟨N, hN⟩ : ∃ N, KA.length - s = N := ⟨_, rfl⟩
  rw [hN] at hA ⊢
  have hle : s + N ≤ KA.length := by omega
  have hln : (mapC frC (List.take N (List.drop s KA))).length = N := by rw [mapC_len, List.length_take, List.length_drop]; omega
  have htk : List.take N (List.drop s KA) = List.drop s KA := List.take_of_length_le (by rw [List.length_drop]; omega)
  have hln2 : (mapC frC (List.drop s KA)).length = N := by rw [← htk]; exact hln
  have k1 : (1 + N) * 48 ≤ 140737488355328 := by omega
  have k2 : 1 + N ≤ 9223372036854775807 := by omega
  unfold svB at hA ⊢
  simp (disch := omega) only [ite_ne, hc, decide_eq_false h1, decide_eq_false h2, go_sem, ↓reduceIte, Nat.reduceEqDiff, Nat.reduceBEq, Nat.reduceAdd, Nat.reduceLeDiff, Nat.reduceLT, reduceCtorEq, Nat.reduceMul, Nat.reduceSub, Int.reduceEq, Int.reduceLT, Int.reduceLE, Int.reduceToNat]
  refine vcCall.x (hA _ (by (simp (disch := omega) only [ite_ne, hc, go_sem, ↓reduceIte, Nat.reduceEqDiff, Nat.reduceBEq, Nat.reduceAdd, Nat.reduceLeDiff, Nat.reduceLT, reduceCtorEq, Nat.reduceMul, Nat.reduceSub, Int.reduceEq, Int.reduceLT, Int.reduceLE, Int.reduceToNat])) (by (simp (disch := omega) only [ite_ne, hk, go_sem, ↓reduceIte, Nat.reduceEqDiff, Nat.reduceBEq, Nat.reduceAdd, Nat.reduceLeDiff, Nat.reduceLT, reduceCtorEq, Nat.reduceMul, Nat.reduceSub, Int.reduceEq, Int.reduceLT, Int.reduceLE, Int.reduceToNat])) _ (by omega)) ?_
  simp only [List.cons_append, List.nil_append]
  have k3 : 1 + N ≤ N + 1 := by omega
  have htk3 : List.take (1 + N) ([AV.i .i64 8, .i .i64 0, .i .i64 0, .i .i64 last, .s ⟨#[]⟩] :: mapC frC (List.drop s KA)) = [AV.i .i64 8, .i .i64 0, .i .i64 0, .i .i64 last, .s ⟨#[]⟩] :: mapC frC (List.drop s KA) := List.take_of_length_le (by rw [List.length_cons, hln2]; omega)
  have k4 : ¬ m + 5 = c := by omega
  simp (disch := omega) only [ite_ne, hc, hk, hne, hne', hle, hln, htk, hln2, k1, k2, k3, k4, htk3, go_sem, ↓reduceIte, Nat.reduceEqDiff, Nat.reduceBEq, Nat.reduceAdd, Nat.reduceLeDiff, Nat.reduceLT, reduceCtorEq, Nat.reduceMul, Nat.reduceSub, Int.reduceEq, Int.reduceLT, Int.reduceLE, Int.reduceToNat]
  try rfl
end Go.Proofs.Ytdodiembhgjecaa
