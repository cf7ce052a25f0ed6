/-
  The parts MxP of the proof, in one file. Conditions: none.
-/
import Derived.Test.YtdodiembhgjecaaMc43
namespace Go.Proofs.Ytdodiembhgjecaa
open Go.Eng
set_option linter.unusedVariables false
set_option linter.unusedSimpArgs false
set_option maxRecDepth 20000
set_option maxHeartbeats 1000000
theorem sNew_ok (room : Int) (hr : 1 ≤ room ∧ room ≤ 4096) (hp : CH) (m : Nat) : Meets Try.prog 7 hp m [.i .i64 room] fun hp' n' r => hp' = (m, .bx [.i .i64 room, .i .i64 0, .i .i64 0, .e0, .e0]) :: hp ∧ n' = m + 1 ∧ r = .tp [.bx m 0, .i .i64 0] := by
  have d1 : decide (room < 1) = false := decide_eq_false (by omega)
  have d2 : decide ((4096 : Int) < room) = false := decide_eq_false (by omega)
  refine meets Try.func7 (by kernel_rfl) cc7 cr7 rfl ?_; unfold ck7
  simp (disch := omega) only [ite_ne, d1, d2, go_sem, ↓reduceIte, Nat.reduceEqDiff, Nat.reduceBEq, Nat.reduceAdd, Nat.reduceLeDiff, Nat.reduceLT, reduceCtorEq, Nat.reduceMul, Nat.reduceSub, Int.reduceEq, Int.reduceLT, Int.reduceLE, Int.reduceToNat]
theorem sKept_ok (room last acked : Int) (c kk g d len kl gl nl : Nat) (l : List (List AV)) (hp : CH) (hc : gc hp c = svB room last acked kk g d len kl gl nl) (hk : gc hp kk = .rw g 5 l) (hl : d + len ≤ l.length) (m : Nat) : MeetsF Try.prog 20 hp m [.bx c 0] (.i .i64 len) := by
  have ht : (List.take len (List.drop d l)).length = len := by rw [List.length_take, List.length_drop]; omega
  unfold svB at hc
  refine meetsF Try.func20 (by kernel_rfl) cc20 cr20 rfl fun hf => ?_; unfold ck20
  have hlt := bx_lt' hf hc
  simp (disch := omega) only [ite_ne, hc, hk, hl, ht, go_sem, ↓reduceIte, Nat.reduceEqDiff, Nat.reduceBEq, Nat.reduceAdd, Nat.reduceLeDiff, Nat.reduceLT, reduceCtorEq, Nat.reduceMul, Nat.reduceSub, Int.reduceEq, Int.reduceLT, Int.reduceLE, Int.reduceToNat]
def svW (room last acked : Int) (c kk kl gl : Nat) (LV : List Int) (i : Nat × Nat × List Frm) : CH := [(c, svB room last acked kk i.1 i.2.1 (i.2.2.length - i.2.1) kl gl LV.length), (kk, .rw i.1 5 (mapC frC i.2.2)), (kl, .rw gl 1 (mapC in1 LV))]
theorem up_ws3 {m c d e : Nat} {X Y Z : Chunk} {hp a : CH} (h12 : c ≠ d) (h13 : c ≠ e) (h23 : d ≠ e) (h1 : gc a c = X) (h2 : gc a d = Y) (h3 : gc a e = Z) (h4 : ∀ j, j < m → j ≠ c → j ≠ d → j ≠ e → gc a j = gc hp j) : Up m ((c, X) :: (d, Y) :: (e, Z) :: hp) a := fun j hj => by
  by_cases e1 : c = j
  · subst e1; rw [gc_same]; exact h1
  rw [gc_ne _ _ e1]
  by_cases e2 : d = j
  · subst e2; rw [gc_same]; exact h2
  rw [gc_ne _ _ e2]
  by_cases e3 : e = j
  · subst e3; rw [gc_same]; exact h3
  rw [gc_ne _ _ e3]
  exact h4 j hj (fun q => e1 q.symm) (fun q => e2 q.symm) (fun q => e3 q.symm)
theorem sPub_ok (id : Int) (b : ByteArray) (room last acked : Int) (hroom : 1 ≤ room) (hlast : 0 ≤ last ∧ last ≤ 1000000) (KA : List Frm) (d : Nat) (hKA : KA.length ≤ 1000000) (hd : d ≤ KA.length) (LV : List Int) (hs : Asc LV) (hl : LV.length ≤ 1000000) (c kk g kl gl : Nat) (hp : CH)
    (hc : gc hp c = svB room last acked kk g d (KA.length - d) kl gl LV.length) (hk : gc hp kk = .rw g 5 (mapC frC KA)) (hv : gc hp kl = .rw gl 1 (mapC in1 LV)) (hkv : kk ≠ kl) (m : Nat) (E : Int) (hE : sdE (hasI id LV) b.size room (KA.length - d) = E) (f : Frm) (hf : f = .mk 5 id 0 0 b) :
    Meets Try.prog 10 hp m [.bx c 0, .i .i64 id, .s b] (exQ (sdP (KA.drop d) KA.length E f last) fun i hp' n' r' => hp' = svW room (sdN E last) acked c kk kl gl LV i ++ hp ∧ n' = m ∧ r' = .tp [.ds (mapC frC (sdL E f last)), .i .i64 E]) := by
  subst hf
  have hne : c ≠ kk := fun e => by subst e; rw [hc] at hk; cases hk
  have hne' : ¬ kk = c := fun e => hne e.symm
  have hnl : c ≠ kl := fun e => by subst e; rw [hc] at hv; cases hv
  have hnl' : ¬ kl = c := fun e => hnl e.symm
  have hkv' : ¬ kl = kk := fun e => hkv e.symm
  refine meetsWI (sdP (KA.drop d) KA.length E (.mk 5 id 0 0 b) last) (svW room (sdN E last) acked c kk kl gl LV) (fun _ => .tp [.ds (mapC frC (sdL E (.mk 5 id 0 0 b) last)), .i .i64 E]) Try.func10 (by kernel_rfl) cc10 cr10 rfl (fun hf i hi => ?_) fun hf => ?_
  · have h1 : c < m := bx_lt' hf hc
    have h2 := rw_lt hf hk
    have h3 := rw_lt hf hv
    exact ⟨h1, fun α h => by simp at h; rcases h with rfl | rfl | rfl | rfl | rfl <;> first | exact h2 | exact h3 | rfl | simp [AV.lt1, AV.pur], h2, trivial, h3, trivial, trivial⟩
  have hS := fun hp' e1 e2 e3 m' => mSend_ok (.mk 5 id 0 0 b) room last acked hroom hlast KA d hKA hd LV hs hl c kk g kl gl hp' e1 e2 e3 hkv m'
  simp only [Frm.i_mk, Frm.b_mk] at hS
  rw [hE] at hS
  unfold ck10
  have hlt : c < m := bx_lt' hf hc
  have hlt2 := rw_lt hf hk
  have hlt3 := rw_lt hf hv
  simp only [go_sem, ↓reduceIte, Nat.reduceEqDiff, Nat.reduceBEq, Nat.reduceAdd, Nat.reduceLeDiff, Nat.reduceLT, reduceCtorEq, Nat.reduceMul, Nat.reduceSub, Int.reduceEq, Int.reduceLT, Int.reduceLE, Int.reduceToNat]
  refine vcCall.r (hS _ (by (simp (disch := omega) only [ite_ne, hc, go_sem, ↓reduceIte, Nat.reduceEqDiff, Nat.reduceBEq, Nat.reduceAdd, Nat.reduceLeDiff, Nat.reduceLT, reduceCtorEq, Nat.reduceMul, Nat.reduceSub, Int.reduceEq, Int.reduceLT, Int.reduceLE, Int.reduceToNat])) (by (simp (disch := omega) only [ite_ne, hk, go_sem, ↓reduceIte, Nat.reduceEqDiff, Nat.reduceBEq, Nat.reduceAdd, Nat.reduceLeDiff, Nat.reduceLT, reduceCtorEq, Nat.reduceMul, Nat.reduceSub, Int.reduceEq, Int.reduceLT, Int.reduceLE, Int.reduceToNat])) (by (simp (disch := omega) only [ite_ne, hv, go_sem, ↓reduceIte, Nat.reduceEqDiff, Nat.reduceBEq, Nat.reduceAdd, Nat.reduceLeDiff, Nat.reduceLT, reduceCtorEq, Nat.reduceMul, Nat.reduceSub, Int.reduceEq, Int.reduceLT, Int.reduceLE, Int.reduceToNat])) _) fun hp' n' r ⟨i, hi, e1, e2, e3⟩ => ?_
  subst e1
  subst e2
  subst e3
  obtain ⟨R, hR⟩ : ∃ R, sdL E (.mk 5 id 0 0 b) last = R := ⟨_, rfl⟩
  obtain ⟨g', d', KA'⟩ := i
  unfold sdW
  simp only [List.cons_append, List.nil_append]
  rw [hR]
  simp only [go_sem, ↓reduceIte, Nat.reduceEqDiff, Nat.reduceBEq, Nat.reduceAdd, Nat.reduceLeDiff, Nat.reduceLT, reduceCtorEq, Nat.reduceMul, Nat.reduceSub, Int.reduceEq, Int.reduceLT, Int.reduceLE, Int.reduceToNat]
  refine exQ_of (g', d', KA') hi ?_
  unfold svW svB
  simp only [hR]
  simp only [go_sem, ↓reduceIte, Nat.reduceEqDiff, Nat.reduceBEq, Nat.reduceAdd, Nat.reduceLeDiff, Nat.reduceLT, reduceCtorEq, Nat.reduceMul, Nat.reduceSub, Int.reduceEq, Int.reduceLT, Int.reduceLE, Int.reduceToNat]
  refine up_ws3 hne hnl hkv ?_ ?_ ?_ (fun j h1 h2 h3 h4 => ?_)
  · (simp (disch := omega) only [ite_ne, hc, hk, hv, hne, hne', hnl, hnl', hkv, hkv', go_sem, ↓reduceIte, Nat.reduceEqDiff, Nat.reduceBEq, Nat.reduceAdd, Nat.reduceLeDiff, Nat.reduceLT, reduceCtorEq, Nat.reduceMul, Nat.reduceSub, Int.reduceEq, Int.reduceLT, Int.reduceLE, Int.reduceToNat])
  · (simp (disch := omega) only [ite_ne, hc, hk, hv, hne, hne', hnl, hnl', hkv, hkv', go_sem, ↓reduceIte, Nat.reduceEqDiff, Nat.reduceBEq, Nat.reduceAdd, Nat.reduceLeDiff, Nat.reduceLT, reduceCtorEq, Nat.reduceMul, Nat.reduceSub, Int.reduceEq, Int.reduceLT, Int.reduceLE, Int.reduceToNat])
  · (simp (disch := omega) only [ite_ne, hc, hk, hv, hne, hne', hnl, hnl', hkv, hkv', go_sem, ↓reduceIte, Nat.reduceEqDiff, Nat.reduceBEq, Nat.reduceAdd, Nat.reduceLeDiff, Nat.reduceLT, reduceCtorEq, Nat.reduceMul, Nat.reduceSub, Int.reduceEq, Int.reduceLT, Int.reduceLE, Int.reduceToNat])
  · repeat rw [gc_ne _ _ (by omega)]
    try rfl
end Go.Proofs.Ytdodiembhgjecaa
