/-
  The parts MxK of the proof, in one file. Conditions: none.
-/
import Derived.Test.YtdodiembhgjecaaMc38
namespace Go.Proofs.Ytdodiembhgjecaa
open Go.Eng
set_option linter.unusedVariables false
set_option linter.unusedSimpArgs false
set_option maxRecDepth 20000
set_option maxHeartbeats 1000000
/-- How many messages at the front are acknowledged. -/
def dW (n : Int) : List Frm → Nat
  | [] => 0
  | f :: K => if f.s ≤ n then dW n K + 1 else 0
theorem dW_le (n : Int) : ∀ K : List Frm, dW n K ≤ K.length
  | [] => Nat.le_refl _
  | f :: K => by
    have := dW_le n K
    unfold dW
    split <;> simp <;> omega
theorem dW_lt (n : Int) : ∀ (K : List Frm) (j : Nat) (f : Frm), K[j]? = some f → j < dW n K → f.s ≤ n
  | [], j, f, h, _ => by simp at h
  | x :: K, j, f, h, hj => by
    unfold dW at hj
    split at hj
    · rename_i q
      cases j with
      | zero => cases h; exact q
      | succ j => rw [List.getElem?_cons_succ] at h; exact dW_lt n K j f h (by omega)
    · omega
theorem dW_at (n : Int) : ∀ (K : List Frm) (f : Frm), K[dW n K]? = some f → ¬ f.s ≤ n
  | [], f, h => by simp at h
  | x :: K, f, h => by
    unfold dW at h
    split at h
    · rw [List.getElem?_cons_succ] at h; exact dW_at n K f h
    · rename_i q; cases h; exact q
def svB (room last acked : Int) (kk g d len kl gl nl : Nat) : Chunk := .bx [.i .i64 room, .i .i64 last, .i .i64 acked, .rf kk g 5 d len, .rw kl gl nl]
def akD (n acked : Int) (K : List Frm) : Nat := if n ≤ acked then 0 else dW n K
def akA (n acked : Int) : Int := if n ≤ acked then acked else n
theorem up_ws1 {m c : Nat} {X : Chunk} {hp a : CH} (h1 : gc a c = X) (h3 : ∀ j, j < m → j ≠ c → gc a j = gc hp j) : Up m ((c, X) :: hp) a := fun j hj => by
  by_cases e1 : c = j
  · subst e1
    rw [gc_same]
    exact h1
  rw [gc_ne _ _ e1]
  exact h3 j hj (fun e => e1 e.symm)
theorem mAck_ok (n room last acked : Int) (KA : List Frm) (d : Nat) (hKA : KA.length ≤ 1000000) (hd : d ≤ KA.length) (c kk g kl gl nl : Nat) (hp : CH) (hc : gc hp c = svB room last acked kk g d (KA.length - d) kl gl nl) (hk : gc hp kk = .rw g 5 (mapC frC KA)) (hcl : kl ≠ c) (m : Nat) (hklm : kl < m) :
    MeetsX Try.prog 40 hp m [.bx c 0, .i .i64 n] ([(c, svB room last (akA n acked) kk g (d + akD n acked (KA.drop d)) (KA.length - (d + akD n acked (KA.drop d))) kl gl nl)] ++ hp) m (.tp []) := by
  have hne : c ≠ kk := fun e => by subst e; rw [hc] at hk; cases hk
  have hne' : ¬ kk = c := fun e => hne e.symm
  have hGl : (mapC frC KA).length = KA.length := mapC_len _ _
  have hwl := dW_le n (KA.drop d)
  have hwt := dW_lt n (KA.drop d)
  have hwa := dW_at n (KA.drop d)
  rw [List.length_drop] at hwl
  unfold svB at hc
  have hWS : (∀ k, m ≤ k → gc hp k = .no) → wsLt m [(c, svB room last (akA n acked) kk g (d + akD n acked (KA.drop d)) (KA.length - (d + akD n acked (KA.drop d))) kl gl nl)] := fun hf => by
    have h1 := bx_lt' hf hc
    have h2 := rw_lt hf hk
    exact ⟨h1, fun α h => by simp at h; rcases h with rfl | rfl | rfl | rfl | rfl <;> first | exact h2 | exact hklm | rfl | simp [AV.lt1, AV.pur], trivial⟩
  refine meetsW Try.func40 (by kernel_rfl) cc40 cr40 rfl hWS fun hf => ?_; unfold ck40
  have hlt := bx_lt' hf hc
  have hlt2 := rw_lt hf hk
  unfold svB
  by_cases h1 : n ≤ acked
  · have x1 : akA n acked = acked := by simp [akA, h1]
    have x2 : akD n acked (KA.drop d) = 0 := by simp [akD, h1]
    rw [x1, x2]
    simp (disch := omega) only [ite_ne, hc, decide_eq_true h1, go_sem, ↓reduceIte, Nat.reduceEqDiff, Nat.reduceBEq, Nat.reduceAdd, Nat.reduceLeDiff, Nat.reduceLT, reduceCtorEq, Nat.reduceMul, Nat.reduceSub, Int.reduceEq, Int.reduceLT, Int.reduceLE, Int.reduceToNat]
    exact up_ws1 hc fun j _ _ => rfl
  · have x1 : akA n acked = n := by simp [akA, h1]
    have x2 : akD n acked (KA.drop d) = dW n (KA.drop d) := by simp [akD, h1]
    rw [x1, x2]
    obtain ⟨D, hD⟩ : ∃ D, dW n (KA.drop d) = D := ⟨_, rfl⟩
    rw [hD] at hwl hwt hwa ⊢
    simp (disch := omega) only [ite_ne, hc, decide_eq_false h1, go_sem, ↓reduceIte, Nat.reduceEqDiff, Nat.reduceBEq, Nat.reduceAdd, Nat.reduceLeDiff, Nat.reduceLT, reduceCtorEq, Nat.reduceMul, Nat.reduceSub, Int.reduceEq, Int.reduceLT, Int.reduceLE, Int.reduceToNat]
    refine loop (fun q : Nat × Nat => ⟨[(0, .bx c 0), (1, .i .i64 n)], (c, .bx [.i .i64 room, .i .i64 last, .i .i64 n, .rf kk g 5 q.1 (KA.length - q.1), .rw kl gl nl]) :: hp, q.2⟩) (fun q => d ≤ q.1 ∧ q.1 ≤ d + D ∧ m ≤ q.2) (fun q => d + D - q.1) (d, m) ?_ ?_ (fun ⟨s, n1⟩ he => ?_)
    · exact ⟨Nat.le_refl _, by simp, Nat.le_refl _⟩
    · refine weak_ok ?_ (Sub.refl _) (Nat.le_refl _)
      simp (disch := omega) only [ite_ne, hc, go_sem, ↓reduceIte, Nat.reduceEqDiff, Nat.reduceBEq, Nat.reduceAdd, Nat.reduceLeDiff, Nat.reduceLT, reduceCtorEq, Nat.reduceMul, Nat.reduceSub, Int.reduceEq, Int.reduceLT, Int.reduceLE, Int.reduceToNat]
    dsimp only at he
    obtain ⟨he0, he1, he2⟩ := he
    obtain ⟨N, hN⟩ : ∃ N, KA.length - s = N := ⟨_, rfl⟩
    have hle : s + N ≤ KA.length := by omega
    have hln : (mapC frC (List.take N (List.drop s KA))).length = N := by rw [mapC_len, List.length_take, List.length_drop]; omega
    rw [hN]
    by_cases q : s < d + D
    · have hN0 : decide ((0 : Int) < (N : Int)) = true := decide_eq_true (by omega)
      obtain ⟨x, ex⟩ : ∃ x, KA[s]? = some x := ⟨KA[s]'(by omega), by simp⟩
      have hx : decide (x.s ≤ n) = true := decide_eq_true (hwt (s - d) x (by rw [List.getElem?_drop, show d + (s - d) = s by omega]; exact ex) (by omega))
      have ex0 : (List.take N (List.drop s KA))[0]? = some x := by rw [List.getElem?_take, if_pos (by omega), List.getElem?_drop]; exact ex
      have hN1 : 0 < N := by omega
      have hN2 : 1 ≤ N := by omega
      have hN4 : (1 : Int) ≤ (N : Int) := by omega
      have hall : ∀ e ∈ mapC frC (List.take N (List.drop s KA)), e.length = 5 := fun e he => mapC_all (c := frC) (n := 5) (fun _ => rfl) e he
      have hN3 : KA.length - (s + 1) = N - 1 := by omega
      simp (disch := omega) only [ite_ne, hc, hk, hne, hne', hle, hln, hN0, hN1, hN2, hN4, Int.le_refl, hall, hx, getK_s (mapC_get frC ex0), getK_s (mapC_get frC ex), go_sem, ↓reduceIte, Nat.reduceEqDiff, Nat.reduceBEq, Nat.reduceAdd, Nat.reduceLeDiff, Nat.reduceLT, reduceCtorEq, Nat.reduceMul, Nat.reduceSub, Int.reduceEq, Int.reduceLT, Int.reduceLE, Int.reduceToNat]
      refine ⟨hall, (s + 1, _), ⟨by dsimp only; omega, by dsimp only; omega, he2⟩, by dsimp only; omega, ?_⟩
      dsimp only
      rw [hN3]
      refine weak_ok ?_ (SubX.sub (SubX.cons ?_ (SubX.base hf fun a ha hax => ?_))) (Nat.le_refl _)
      · simp (disch := omega) only [ite_ne, hc, hk, hne, hne', go_sem, ↓reduceIte, Nat.reduceEqDiff, Nat.reduceBEq, Nat.reduceAdd, Nat.reduceLeDiff, Nat.reduceLT, reduceCtorEq, Nat.reduceMul, Nat.reduceSub, Int.reduceEq, Int.reduceLT, Int.reduceLE, Int.reduceToNat]
      · try (simp (disch := omega) only [ite_ne, hc, hk, hne, hne', go_sem, ↓reduceIte, Nat.reduceEqDiff, Nat.reduceBEq, Nat.reduceAdd, Nat.reduceLeDiff, Nat.reduceLT, reduceCtorEq, Nat.reduceMul, Nat.reduceSub, Int.reduceEq, Int.reduceLT, Int.reduceLE, Int.reduceToNat])
      · have hak : ¬ c = a := fun e => hax (by simp [e])
        repeat rw [gc_ne _ _ (by omega)]
    · have hsD : s = d + D := by omega
      rw [← hsD]
      simp only [hN]
      cases ex : KA[s]? with
      | none =>
        have hge : KA.length ≤ s := by simpa using ex
        have hN0 : decide ((0 : Int) < (N : Int)) = false := decide_eq_false (by omega)
        simp (disch := omega) only [ite_ne, hc, hk, hne, hne', hle, hln, hN0, go_sem, ↓reduceIte, Nat.reduceEqDiff, Nat.reduceBEq, Nat.reduceAdd, Nat.reduceLeDiff, Nat.reduceLT, reduceCtorEq, Nat.reduceMul, Nat.reduceSub, Int.reduceEq, Int.reduceLT, Int.reduceLE, Int.reduceToNat]
        try (exact up_ws1 (by (simp (disch := omega) only [ite_ne, hc, go_sem, ↓reduceIte, Nat.reduceEqDiff, Nat.reduceBEq, Nat.reduceAdd, Nat.reduceLeDiff, Nat.reduceLT, reduceCtorEq, Nat.reduceMul, Nat.reduceSub, Int.reduceEq, Int.reduceLT, Int.reduceLE, Int.reduceToNat])) fun j h1 h2 => by rw [gc_ne _ _ (fun e => h2 e.symm)])
      | some x =>
        have hlt3 : s < KA.length := (List.getElem?_eq_some_iff.1 ex).1
        have hN0 : decide ((0 : Int) < (N : Int)) = true := decide_eq_true (by omega)
        have hx : decide (x.s ≤ n) = false := decide_eq_false (hwa x (by rw [List.getElem?_drop, ← hsD]; exact ex))
        have ex0 : (List.take N (List.drop s KA))[0]? = some x := by rw [List.getElem?_take, if_pos (by omega), List.getElem?_drop]; exact ex
        have hN1 : 0 < N := by omega
        simp (disch := omega) only [ite_ne, hc, hk, hne, hne', hle, hln, hN0, hN1, hx, getK_s (mapC_get frC ex0), getK_s (mapC_get frC ex), go_sem, ↓reduceIte, Nat.reduceEqDiff, Nat.reduceBEq, Nat.reduceAdd, Nat.reduceLeDiff, Nat.reduceLT, reduceCtorEq, Nat.reduceMul, Nat.reduceSub, Int.reduceEq, Int.reduceLT, Int.reduceLE, Int.reduceToNat]
        try (exact up_ws1 (by (simp (disch := omega) only [ite_ne, hc, go_sem, ↓reduceIte, Nat.reduceEqDiff, Nat.reduceBEq, Nat.reduceAdd, Nat.reduceLeDiff, Nat.reduceLT, reduceCtorEq, Nat.reduceMul, Nat.reduceSub, Int.reduceEq, Int.reduceLT, Int.reduceLE, Int.reduceToNat])) fun j h1 h2 => by rw [gc_ne _ _ (fun e => h2 e.symm)])
end Go.Proofs.Ytdodiembhgjecaa
