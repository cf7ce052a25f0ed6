/-
  The parts MxL of the proof, in one file. Conditions: none.
-/
import Derived.Test.YtdodiembhgjecaaMc39
namespace Go.Proofs.Ytdodiembhgjecaa
open Go.Eng
set_option linter.unusedVariables false
set_option linter.unusedSimpArgs false
set_option maxRecDepth 20000
set_option maxHeartbeats 1000000
theorem bs_row (x : Int) (L : List Int) (hs : Asc L) (hl : L.length ≤ 1000000) {kl gl : Nat} {hp : CH} (hk : gc hp kl = .rw gl 1 (mapC in1 L)) (m : Nat) : MeetsF Try.prog 38 hp m [.rw kl gl L.length, .i .i64 x] (.tp [.i .i64 (posI x L), .b (hasI x L)]) := by
  have hLl : (mapC in1 L).length = L.length := mapC_len _ _
  have ht : (mapC in1 L).take L.length = mapC in1 L := List.take_of_length_le (by omega)
  refine MeetsF.lend (R := [(kl, .sh gl 1 (mapC in1 L))]) (B := []) ⟨.inl hk, trivial⟩ trivial ?_ rfl (bs_ok x L hs hl _ _)
  simp (disch := omega) only [ite_ne, hLl, ht, go_sem, ↓reduceIte, Nat.reduceEqDiff, Nat.reduceBEq, Nat.reduceAdd, Nat.reduceLeDiff, Nat.reduceLT, reduceCtorEq, Nat.reduceMul, Nat.reduceSub, Int.reduceEq, Int.reduceLT, Int.reduceLE, Int.reduceToNat]
  try rfl
def stL (x : Int) (L : List Int) : List Int := if hasI x L = true then L.eraseIdx (posI x L) else L
def stG (x : Int) (L : List Int) (g : Nat) : Nat := if hasI x L = true then g + 1 else g
theorem hasI_lt {x : Int} {L : List Int} (h : hasI x L = true) : posI x L < L.length := by
  unfold hasI at h
  rw [decide_eq_true_eq] at h
  exact (List.getElem?_eq_some_iff.1 h).1
theorem mStop_ok (x room last acked : Int) (LV : List Int) (hs : Asc LV) (hl : LV.length ≤ 1000000) (c kk g d len kl gl : Nat) (hp : CH) (hc : gc hp c = svB room last acked kk g d len kl gl LV.length) (hk : gc hp kl = .rw gl 1 (mapC in1 LV)) (m : Nat) (hkkm : kk < m) :
    MeetsX Try.prog 34 hp m [.bx c 0, .i .i64 x] ([(c, svB room last acked kk g d len kl (stG x LV gl) (stL x LV).length), (kl, .rw (stG x LV gl) 1 (mapC in1 (stL x LV)))] ++ hp) m (.tp []) := by
  have hne : c ≠ kl := fun e => by subst e; rw [hc] at hk; cases hk
  have hne' : ¬ kl = c := fun e => hne e.symm
  have hp1 := posI_le x LV
  have hp2 := hasI_lt (x := x) (L := LV)
  unfold svB at hc
  have hWS : (∀ k, m ≤ k → gc hp k = .no) → wsLt m [(c, svB room last acked kk g d len kl (stG x LV gl) (stL x LV).length), (kl, .rw (stG x LV gl) 1 (mapC in1 (stL x LV)))] := fun hf => by
    have h1 := bx_lt' hf hc
    have h2 := rw_lt hf hk
    exact ⟨h1, fun α h => by simp at h; rcases h with rfl | rfl | rfl | rfl | rfl <;> first | exact h2 | exact hkkm | rfl | simp [AV.lt1, AV.pur], h2, trivial, trivial⟩
  refine meetsW Try.func34 (by kernel_rfl) cc34 cr34 rfl hWS fun hf => ?_; unfold ck34
  have hlt := bx_lt' hf hc
  have hlt2 := rw_lt hf hk
  unfold svB
  have hD := fun (h : hasI x LV = true) hp' (e : gc hp' kl = .rw gl 1 (mapC in1 LV)) n' => meets_delI (n := n') e (hp2 h)
  have hB := fun hp' (e : gc hp' kl = .rw gl 1 (mapC in1 LV)) n' => bs_row x LV hs hl (hp := hp') e n'
  have w1 : IntKind.i64.wrap ((posI x LV : Nat) + 1) = (posI x LV : Int) + 1 := by rw [IntKind.wrap_i64]; omega
  have hLl : (mapC in1 LV).length = LV.length := mapC_len _ _
  cases hh : hasI x LV with
  | false =>
    have x1 : stL x LV = LV := by simp [stL, hh]
    have x2 : stG x LV gl = gl := by simp [stG, hh]
    rw [x1, x2]
    rw [hh] at hB
    simp (disch := omega) only [ite_ne, hc, hk, go_sem, ↓reduceIte, Nat.reduceEqDiff, Nat.reduceBEq, Nat.reduceAdd, Nat.reduceLeDiff, Nat.reduceLT, reduceCtorEq, Nat.reduceMul, Nat.reduceSub, Int.reduceEq, Int.reduceLT, Int.reduceLE, Int.reduceToNat]
    refine vcCall.f (hB _ (by (simp (disch := omega) only [ite_ne, hk, go_sem, ↓reduceIte, Nat.reduceEqDiff, Nat.reduceBEq, Nat.reduceAdd, Nat.reduceLeDiff, Nat.reduceLT, reduceCtorEq, Nat.reduceMul, Nat.reduceSub, Int.reduceEq, Int.reduceLT, Int.reduceLE, Int.reduceToNat])) _) ?_
    simp (disch := omega) only [ite_ne, hc, hk, go_sem, ↓reduceIte, Nat.reduceEqDiff, Nat.reduceBEq, Nat.reduceAdd, Nat.reduceLeDiff, Nat.reduceLT, reduceCtorEq, Nat.reduceMul, Nat.reduceSub, Int.reduceEq, Int.reduceLT, Int.reduceLE, Int.reduceToNat]
    try (exact up_ws2 hne hc hk fun j h1 h2 h3 => rfl)
  | true =>
    have x1 : stL x LV = LV.eraseIdx (posI x LV) := by simp [stL, hh]
    have x2 : stG x LV gl = gl + 1 := by simp [stG, hh]
    have x3 : (LV.eraseIdx (posI x LV)).length = LV.length - 1 := List.length_eraseIdx_of_lt (hp2 hh)
    rw [x1, x2, x3]
    rw [hh] at hB
    simp (disch := omega) only [ite_ne, hc, hk, go_sem, ↓reduceIte, Nat.reduceEqDiff, Nat.reduceBEq, Nat.reduceAdd, Nat.reduceLeDiff, Nat.reduceLT, reduceCtorEq, Nat.reduceMul, Nat.reduceSub, Int.reduceEq, Int.reduceLT, Int.reduceLE, Int.reduceToNat]
    refine vcCall.f (hB _ (by (simp (disch := omega) only [ite_ne, hk, go_sem, ↓reduceIte, Nat.reduceEqDiff, Nat.reduceBEq, Nat.reduceAdd, Nat.reduceLeDiff, Nat.reduceLT, reduceCtorEq, Nat.reduceMul, Nat.reduceSub, Int.reduceEq, Int.reduceLT, Int.reduceLE, Int.reduceToNat])) _) ?_
    simp (disch := omega) only [ite_ne, hc, hk, w1, go_sem, ↓reduceIte, Nat.reduceEqDiff, Nat.reduceBEq, Nat.reduceAdd, Nat.reduceLeDiff, Nat.reduceLT, reduceCtorEq, Nat.reduceMul, Nat.reduceSub, Int.reduceEq, Int.reduceLT, Int.reduceLE, Int.reduceToNat]
    refine vcCall.r (hD hh _ (by (simp (disch := omega) only [ite_ne, hk, go_sem, ↓reduceIte, Nat.reduceEqDiff, Nat.reduceBEq, Nat.reduceAdd, Nat.reduceLeDiff, Nat.reduceLT, reduceCtorEq, Nat.reduceMul, Nat.reduceSub, Int.reduceEq, Int.reduceLT, Int.reduceLE, Int.reduceToNat])) _) fun hp' n' r ⟨e1, e2, e3⟩ => ?_
    subst e1
    subst e2
    subst e3
    simp only [List.cons_append, List.nil_append]
    simp (disch := omega) only [ite_ne, hc, hk, hne, hne', go_sem, ↓reduceIte, Nat.reduceEqDiff, Nat.reduceBEq, Nat.reduceAdd, Nat.reduceLeDiff, Nat.reduceLT, reduceCtorEq, Nat.reduceMul, Nat.reduceSub, Int.reduceEq, Int.reduceLT, Int.reduceLE, Int.reduceToNat]
end Go.Proofs.Ytdodiembhgjecaa
