/-
  The parts SaU of the proof, in one file. Conditions: none.
-/
import Derived.Test.YtmcgjccheehehaaQme46
namespace Go.Proofs.Ytmcgjccheehehaa
open Go.Eng
set_option linter.unusedVariables false
set_option linter.unusedSimpArgs false
set_option maxRecDepth 20000
set_option maxHeartbeats 2000000
/-- The variable of the work. -/
abbrev wkC (f : Fet) (l : List Val) : Chunk := .bx [.i .i64 f.g, .i .i64 f.d, .ds (mapC hopC f.p), .s f.t, .ds (stC f.ks), .i .i64 f.ky, .ds (mapC pkC f.pk), .ds (mapC in1 f.af), .ds (mapC valC l)]
theorem one_ok (f : Fet) (c : Nat) (hpk : wtKs f.pk ≤ 100000000) (hk : f.ks.length * 80 ≤ 100000000000000) (hs : ∀ s ∈ f.ks, s.size ≤ 100000000000000) (v : Val) (hv : v.Fit) (hw : wtV v ≤ 100000000000) (d : typT v = f.t)
    (s : List Val) (hb : ∀ x ∈ s, wtV x ≤ 100000000000) (hp : CH) (m : Nat) (hc1 : c < m) (hc2 : gc hp c = wkC f s) :
    MeetsX Try.prog 93 hp m [.bx c 0, vx v] ((c, wkC f (mgSt f v s).2) :: hp) m (vx (mgSt f v s).1) := by
  obtain ⟨R, hR⟩ : ∃ R, mgSt f v s = R := ⟨_, rfl⟩
  have e := hR
  unfold mgSt at e
  rw [if_pos d] at e
  rw [hR]
  refine meetsWs (ws := [(c, wkC f R.2)]) Try.func93 (by kernel_rfl) cc93 cr93 rfl (fun k h => ?_) (fun hp k h => ?_) fun hf => ?_
  · simp only [keys, List.map_cons, List.map_nil, List.mem_cons, List.not_mem_nil, or_false] at h
    rw [h]
    exact hc1
  · simp only [keys, List.map_cons, List.map_nil, List.mem_cons, List.not_mem_nil, or_false] at h
    subst h
    rw [List.cons_append, gc_cons_same]
    exact cOk_lt1 (ks := [k]) (by simp; omega) (by simp [cOk, asOk, aOk, AV.pur])
  unfold ck93
  have ac0 : ¬ m = c := by omega
  have bc0 : ¬ c = m := by omega
  have ac1 : ¬ m + 1 = c := by omega
  have bc1 : ¬ c = m + 1 := by omega
  have ac2 : ¬ m + 2 = c := by omega
  have bc2 : ¬ c = m + 2 := by omega
  have ac3 : ¬ m + 3 = c := by omega
  have bc3 : ¬ c = m + 3 := by omega
  have ac4 : ¬ m + 4 = c := by omega
  have bc4 : ¬ c = m + 4 := by omega
  have ac5 : ¬ m + 5 = c := by omega
  have bc5 : ¬ c = m + 5 := by omega
  have ac6 : ¬ m + 6 = c := by omega
  have bc6 : ¬ c = m + 6 := by omega
  have ac7 : ¬ m + 7 = c := by omega
  have bc7 : ¬ c = m + 7 := by omega
  have ac8 : ¬ m + 8 = c := by omega
  have bc8 : ¬ c = m + 8 := by omega
  have ac9 : ¬ m + 9 = c := by omega
  have bc9 : ¬ c = m + 9 := by omega
  have ac10 : ¬ m + 10 = c := by omega
  have bc10 : ¬ c = m + 10 := by omega
  have ac11 : ¬ m + 11 = c := by omega
  have bc11 : ¬ c = m + 11 := by omega
  have ac12 : ¬ m + 12 = c := by omega
  have bc12 : ¬ c = m + 12 := by omega
  have ac13 : ¬ m + 13 = c := by omega
  have bc13 : ¬ c = m + 13 := by omega
  have ac14 : ¬ m + 14 = c := by omega
  have bc14 : ¬ c = m + 14 := by omega
  have ac15 : ¬ m + 15 = c := by omega
  have bc15 : ¬ c = m + 15 := by omega
  have ac16 : ¬ m + 16 = c := by omega
  have bc16 : ¬ c = m + 16 := by omega
  have ac17 : ¬ m + 17 = c := by omega
  have bc17 : ¬ c = m + 17 := by omega
  have ac18 : ¬ m + 18 = c := by omega
  have bc18 : ¬ c = m + 18 := by omega
  have ac19 : ¬ m + 19 = c := by omega
  have bc19 : ¬ c = m + 19 := by omega
  have ac20 : ¬ m + 20 = c := by omega
  have bc20 : ¬ c = m + 20 := by omega
  have ac21 : ¬ m + 21 = c := by omega
  have bc21 : ¬ c = m + 21 := by omega
  have ac22 : ¬ m + 22 = c := by omega
  have bc22 : ¬ c = m + 22 := by omega
  have ac23 : ¬ m + 23 = c := by omega
  have bc23 : ¬ c = m + 23 := by omega
  have ac24 : ¬ m + 24 = c := by omega
  have bc24 : ¬ c = m + 24 := by omega
  have ac25 : ¬ m + 25 = c := by omega
  have bc25 : ¬ c = m + 25 := by omega
  have ac26 : ¬ m + 26 = c := by omega
  have bc26 : ¬ c = m + 26 := by omega
  have ac27 : ¬ m + 27 = c := by omega
  have bc27 : ¬ c = m + 27 := by omega
  have ac28 : ¬ m + 28 = c := by omega
  have bc28 : ¬ c = m + 28 := by omega
  have ac29 : ¬ m + 29 = c := by omega
  have bc29 : ¬ c = m + 29 := by omega
  have ac30 : ¬ m + 30 = c := by omega
  have bc30 : ¬ c = m + 30 := by omega
  have ac31 : ¬ m + 31 = c := by omega
  have bc31 : ¬ c = m + 31 := by omega
  have ac32 : ¬ m + 32 = c := by omega
  have bc32 : ¬ c = m + 32 := by omega
  have ac33 : ¬ m + 33 = c := by omega
  have bc33 : ¬ c = m + 33 := by omega
  have ac34 : ¬ m + 34 = c := by omega
  have bc34 : ¬ c = m + 34 := by omega
  have ac35 : ¬ m + 35 = c := by omega
  have bc35 : ¬ c = m + 35 := by omega
  have ac36 : ¬ m + 36 = c := by omega
  have bc36 : ¬ c = m + 36 := by omega
  have ac37 : ¬ m + 37 = c := by omega
  have bc37 : ¬ c = m + 37 := by omega
  have ac38 : ¬ m + 38 = c := by omega
  have bc38 : ¬ c = m + 38 := by omega
  have ac39 : ¬ m + 39 = c := by omega
  have bc39 : ¬ c = m + 39 := by omega
  have ac40 : ¬ m + 40 = c := by omega
  have bc40 : ¬ c = m + 40 := by omega
  have ac41 : ¬ m + 41 = c := by omega
  have bc41 : ¬ c = m + 41 := by omega
  have ac42 : ¬ m + 42 = c := by omega
  have bc42 : ¬ c = m + 42 := by omega
  have ac43 : ¬ m + 43 = c := by omega
  have bc43 : ¬ c = m + 43 := by omega
  have ac44 : ¬ m + 44 = c := by omega
  have bc44 : ¬ c = m + 44 := by omega
  have ac45 : ¬ m + 45 = c := by omega
  have bc45 : ¬ c = m + 45 := by omega
  have upL : ∀ l H, (∀ j, j < m → gc H j = gc hp j) → Up m ([(c, wkC f l)] ++ hp) ((c, wkC f l) :: H) := fun l H hH j hj => by
    simp only [List.cons_append, List.nil_append, gc_cons]
    split
    · rfl
    · exact hH j hj
  have upS : ∀ H, (∀ j, j < m → gc H j = gc hp j) → Up m ([(c, wkC f s)] ++ hp) H := fun H hH j hj => by
    simp only [List.cons_append, List.nil_append, gc_cons]
    rw [hH j hj]
    split
    · rename_i q; rw [← q, hc2]
    · rfl
  have lpk : f.pk.length ≤ 100000000000 := by have := wtKs_len f.pk; omega
  have w1 := failO_wt f keyN hpk
  have w2 := failO_wt f entN hpk
  have hf1 : ∀ hp m, MeetsF Try.prog 40 hp m [.ds (mapC pkC f.pk), .s f.t, .s keyN] (vx (failO f keyN)) := fun hp m => rfail_ok f.pk f.t keyN lpk hp m
  have hf2 : ∀ hp m, MeetsF Try.prog 40 hp m [.ds (mapC pkC f.pk), .s f.t, .s entN] (vx (failO f entN)) := fun hp m => rfail_ok f.pk f.t entN lpk hp m
  have hj1 := rjoin_ok v (failO f keyN) hw w1
  simp only [hc2, ac0, bc0, ac1, bc1, ac2, bc2, ac3, bc3, ac4, bc4, ac5, bc5, ac6, bc6, ac7, bc7, ac8, bc8, ac9, bc9, ac10, bc10, ac11, bc11, ac12, bc12, ac13, bc13, ac14, bc14, ac15, bc15, ac16, bc16, ac17, bc17, ac18, bc18, ac19, bc19, ac20, bc20, ac21, bc21, ac22, bc22, ac23, bc23, ac24, bc24, ac25, bc25, ac26, bc26, ac27, bc27, ac28, bc28, ac29, bc29, ac30, bc30, ac31, bc31, ac32, bc32, ac33, bc33, ac34, bc34, ac35, bc35, ac36, bc36, ac37, bc37, ac38, bc38, ac39, bc39, ac40, bc40, ac41, bc41, ac42, bc42, ac43, bc43, ac44, bc44, ac45, bc45, go_sem, ↓reduceIte, Nat.reduceEqDiff, Nat.reduceBEq, Nat.reduceAdd, Nat.reduceLeDiff, Nat.reduceLT, reduceCtorEq, Nat.reduceMul, Nat.reduceSub, Int.reduceEq, Int.reduceLT, Int.reduceLE, Int.reduceToNat]
  refine dCallR.f (fun _ hp' _ => rrep_ok f v hv hk hs hp' _) ?_
  simp only [hc2, ac0, bc0, ac1, bc1, ac2, bc2, ac3, bc3, ac4, bc4, ac5, bc5, ac6, bc6, ac7, bc7, ac8, bc8, ac9, bc9, ac10, bc10, ac11, bc11, ac12, bc12, ac13, bc13, ac14, bc14, ac15, bc15, ac16, bc16, ac17, bc17, ac18, bc18, ac19, bc19, ac20, bc20, ac21, bc21, ac22, bc22, ac23, bc23, ac24, bc24, ac25, bc25, ac26, bc26, ac27, bc27, ac28, bc28, ac29, bc29, ac30, bc30, ac31, bc31, ac32, bc32, ac33, bc33, ac34, bc34, ac35, bc35, ac36, bc36, ac37, bc37, ac38, bc38, ac39, bc39, ac40, bc40, ac41, bc41, ac42, bc42, ac43, bc43, ac44, bc44, ac45, bc45, go_sem, ↓reduceIte, Nat.reduceEqDiff, Nat.reduceBEq, Nat.reduceAdd, Nat.reduceLeDiff, Nat.reduceLT, reduceCtorEq, Nat.reduceMul, Nat.reduceSub, Int.reduceEq, Int.reduceLT, Int.reduceLE, Int.reduceToNat]
  refine cdK_of (fun d1 => ?_) (fun d1 => ?_)
  · have d1 : (repV f v).k = 0 := by simpa using d1
    rw [if_pos d1] at e
    obtain ⟨F, hF⟩ : ∃ F, failO f keyN = F := ⟨_, rfl⟩
    rw [hF] at hf1 hj1 e
    subst e
    obtain ⟨J, hJ⟩ : ∃ J, joinV v F = J := ⟨_, rfl⟩
    rw [hJ] at hj1 ⊢
    simp only [hc2, ac0, bc0, ac1, bc1, ac2, bc2, ac3, bc3, ac4, bc4, ac5, bc5, ac6, bc6, ac7, bc7, ac8, bc8, ac9, bc9, ac10, bc10, ac11, bc11, ac12, bc12, ac13, bc13, ac14, bc14, ac15, bc15, ac16, bc16, ac17, bc17, ac18, bc18, ac19, bc19, ac20, bc20, ac21, bc21, ac22, bc22, ac23, bc23, ac24, bc24, ac25, bc25, ac26, bc26, ac27, bc27, ac28, bc28, ac29, bc29, ac30, bc30, ac31, bc31, ac32, bc32, ac33, bc33, ac34, bc34, ac35, bc35, ac36, bc36, ac37, bc37, ac38, bc38, ac39, bc39, ac40, bc40, ac41, bc41, ac42, bc42, ac43, bc43, ac44, bc44, ac45, bc45, go_sem, ↓reduceIte, Nat.reduceEqDiff, Nat.reduceBEq, Nat.reduceAdd, Nat.reduceLeDiff, Nat.reduceLT, reduceCtorEq, Nat.reduceMul, Nat.reduceSub, Int.reduceEq, Int.reduceLT, Int.reduceLE, Int.reduceToNat]
    refine dCallR.f (fun _ hp' _ => hf1 hp' _) ?_
    simp only [hc2, ac0, bc0, ac1, bc1, ac2, bc2, ac3, bc3, ac4, bc4, ac5, bc5, ac6, bc6, ac7, bc7, ac8, bc8, ac9, bc9, ac10, bc10, ac11, bc11, ac12, bc12, ac13, bc13, ac14, bc14, ac15, bc15, ac16, bc16, ac17, bc17, ac18, bc18, ac19, bc19, ac20, bc20, ac21, bc21, ac22, bc22, ac23, bc23, ac24, bc24, ac25, bc25, ac26, bc26, ac27, bc27, ac28, bc28, ac29, bc29, ac30, bc30, ac31, bc31, ac32, bc32, ac33, bc33, ac34, bc34, ac35, bc35, ac36, bc36, ac37, bc37, ac38, bc38, ac39, bc39, ac40, bc40, ac41, bc41, ac42, bc42, ac43, bc43, ac44, bc44, ac45, bc45, go_sem, ↓reduceIte, Nat.reduceEqDiff, Nat.reduceBEq, Nat.reduceAdd, Nat.reduceLeDiff, Nat.reduceLT, reduceCtorEq, Nat.reduceMul, Nat.reduceSub, Int.reduceEq, Int.reduceLT, Int.reduceLE, Int.reduceToNat]
    refine dCallR.f (fun _ hp' _ => hj1 hp' _) ?_
    simp only [hc2, ac0, bc0, ac1, bc1, ac2, bc2, ac3, bc3, ac4, bc4, ac5, bc5, ac6, bc6, ac7, bc7, ac8, bc8, ac9, bc9, ac10, bc10, ac11, bc11, ac12, bc12, ac13, bc13, ac14, bc14, ac15, bc15, ac16, bc16, ac17, bc17, ac18, bc18, ac19, bc19, ac20, bc20, ac21, bc21, ac22, bc22, ac23, bc23, ac24, bc24, ac25, bc25, ac26, bc26, ac27, bc27, ac28, bc28, ac29, bc29, ac30, bc30, ac31, bc31, ac32, bc32, ac33, bc33, ac34, bc34, ac35, bc35, ac36, bc36, ac37, bc37, ac38, bc38, ac39, bc39, ac40, bc40, ac41, bc41, ac42, bc42, ac43, bc43, ac44, bc44, ac45, bc45, go_sem, ↓reduceIte, Nat.reduceEqDiff, Nat.reduceBEq, Nat.reduceAdd, Nat.reduceLeDiff, Nat.reduceLT, reduceCtorEq, Nat.reduceMul, Nat.reduceSub, Int.reduceEq, Int.reduceLT, Int.reduceLE, Int.reduceToNat]
    exact upS hp fun _ _ => rfl
  have d1 : ¬ (repV f v).k = 0 := by simpa using d1
  rw [if_neg d1] at e
  simp only [hc2, ac0, bc0, ac1, bc1, ac2, bc2, ac3, bc3, ac4, bc4, ac5, bc5, ac6, bc6, ac7, bc7, ac8, bc8, ac9, bc9, ac10, bc10, ac11, bc11, ac12, bc12, ac13, bc13, ac14, bc14, ac15, bc15, ac16, bc16, ac17, bc17, ac18, bc18, ac19, bc19, ac20, bc20, ac21, bc21, ac22, bc22, ac23, bc23, ac24, bc24, ac25, bc25, ac26, bc26, ac27, bc27, ac28, bc28, ac29, bc29, ac30, bc30, ac31, bc31, ac32, bc32, ac33, bc33, ac34, bc34, ac35, bc35, ac36, bc36, ac37, bc37, ac38, bc38, ac39, bc39, ac40, bc40, ac41, bc41, ac42, bc42, ac43, bc43, ac44, bc44, ac45, bc45, go_sem, ↓reduceIte, Nat.reduceEqDiff, Nat.reduceBEq, Nat.reduceAdd, Nat.reduceLeDiff, Nat.reduceLT, reduceCtorEq, Nat.reduceMul, Nat.reduceSub, Int.reduceEq, Int.reduceLT, Int.reduceLE, Int.reduceToNat]
  refine dCallR.f (fun _ hp' _ => hf2 hp' _) ?_
  simp only [hc2, ac0, bc0, ac1, bc1, ac2, bc2, ac3, bc3, ac4, bc4, ac5, bc5, ac6, bc6, ac7, bc7, ac8, bc8, ac9, bc9, ac10, bc10, ac11, bc11, ac12, bc12, ac13, bc13, ac14, bc14, ac15, bc15, ac16, bc16, ac17, bc17, ac18, bc18, ac19, bc19, ac20, bc20, ac21, bc21, ac22, bc22, ac23, bc23, ac24, bc24, ac25, bc25, ac26, bc26, ac27, bc27, ac28, bc28, ac29, bc29, ac30, bc30, ac31, bc31, ac32, bc32, ac33, bc33, ac34, bc34, ac35, bc35, ac36, bc36, ac37, bc37, ac38, bc38, ac39, bc39, ac40, bc40, ac41, bc41, ac42, bc42, ac43, bc43, ac44, bc44, ac45, bc45, go_sem, ↓reduceIte, Nat.reduceEqDiff, Nat.reduceBEq, Nat.reduceAdd, Nat.reduceLeDiff, Nat.reduceLT, reduceCtorEq, Nat.reduceMul, Nat.reduceSub, Int.reduceEq, Int.reduceLT, Int.reduceLE, Int.reduceToNat]
  cases s with
  | nil =>
    have hj2 := rjoin_ok v (failO f entN) hw w2
    rw [show resO f [] = failO f entN from rfl] at e
    subst e
    obtain ⟨J, hJ⟩ : ∃ J, joinV v (failO f entN) = J := ⟨_, rfl⟩
    rw [hJ] at hj2 ⊢
    simp only [hc2, ac0, bc0, ac1, bc1, ac2, bc2, ac3, bc3, ac4, bc4, ac5, bc5, ac6, bc6, ac7, bc7, ac8, bc8, ac9, bc9, ac10, bc10, ac11, bc11, ac12, bc12, ac13, bc13, ac14, bc14, ac15, bc15, ac16, bc16, ac17, bc17, ac18, bc18, ac19, bc19, ac20, bc20, ac21, bc21, ac22, bc22, ac23, bc23, ac24, bc24, ac25, bc25, ac26, bc26, ac27, bc27, ac28, bc28, ac29, bc29, ac30, bc30, ac31, bc31, ac32, bc32, ac33, bc33, ac34, bc34, ac35, bc35, ac36, bc36, ac37, bc37, ac38, bc38, ac39, bc39, ac40, bc40, ac41, bc41, ac42, bc42, ac43, bc43, ac44, bc44, ac45, bc45, go_sem, ↓reduceIte, Nat.reduceEqDiff, Nat.reduceBEq, Nat.reduceAdd, Nat.reduceLeDiff, Nat.reduceLT, reduceCtorEq, Nat.reduceMul, Nat.reduceSub, Int.reduceEq, Int.reduceLT, Int.reduceLE, Int.reduceToNat]
    refine vcCall.f (hj2 _ _) ?_
    simp only [hc2, ac0, bc0, ac1, bc1, ac2, bc2, ac3, bc3, ac4, bc4, ac5, bc5, ac6, bc6, ac7, bc7, ac8, bc8, ac9, bc9, ac10, bc10, ac11, bc11, ac12, bc12, ac13, bc13, ac14, bc14, ac15, bc15, ac16, bc16, ac17, bc17, ac18, bc18, ac19, bc19, ac20, bc20, ac21, bc21, ac22, bc22, ac23, bc23, ac24, bc24, ac25, bc25, ac26, bc26, ac27, bc27, ac28, bc28, ac29, bc29, ac30, bc30, ac31, bc31, ac32, bc32, ac33, bc33, ac34, bc34, ac35, bc35, ac36, bc36, ac37, bc37, ac38, bc38, ac39, bc39, ac40, bc40, ac41, bc41, ac42, bc42, ac43, bc43, ac44, bc44, ac45, bc45, go_sem, ↓reduceIte, Nat.reduceEqDiff, Nat.reduceBEq, Nat.reduceAdd, Nat.reduceLeDiff, Nat.reduceLT, reduceCtorEq, Nat.reduceMul, Nat.reduceSub, Int.reduceEq, Int.reduceLT, Int.reduceLE, Int.reduceToNat]
    exact upS hp fun _ _ => rfl
  | cons x l =>
    have hpos : (0 : Int) < ((l.length + 1 : Nat) : Int) := by omega
    have hlp : (1 : Int) ≤ ((l.length + 1 : Nat) : Int) := by omega
    have hxw := hb x (by simp)
    have fx : x.Fit := wtV_fit x (by omega)
    simp only [hc2, ac0, bc0, ac1, bc1, ac2, bc2, ac3, bc3, ac4, bc4, ac5, bc5, ac6, bc6, ac7, bc7, ac8, bc8, ac9, bc9, ac10, bc10, ac11, bc11, ac12, bc12, ac13, bc13, ac14, bc14, ac15, bc15, ac16, bc16, ac17, bc17, ac18, bc18, ac19, bc19, ac20, bc20, ac21, bc21, ac22, bc22, ac23, bc23, ac24, bc24, ac25, bc25, ac26, bc26, ac27, bc27, ac28, bc28, ac29, bc29, ac30, bc30, ac31, bc31, ac32, bc32, ac33, bc33, ac34, bc34, ac35, bc35, ac36, bc36, ac37, bc37, ac38, bc38, ac39, bc39, ac40, bc40, ac41, bc41, ac42, bc42, ac43, bc43, ac44, bc44, ac45, bc45, hpos, go_sem, ↓reduceIte, Nat.reduceEqDiff, Nat.reduceBEq, Nat.reduceAdd, Nat.reduceLeDiff, Nat.reduceLT, reduceCtorEq, Nat.reduceMul, Nat.reduceSub, Int.reduceEq, Int.reduceLT, Int.reduceLE, Int.reduceToNat]
    refine dCall.f (fun _ hp' _ => rtypeOf_ok x fx hp' _) ?_
    simp only [hc2, ac0, bc0, ac1, bc1, ac2, bc2, ac3, bc3, ac4, bc4, ac5, bc5, ac6, bc6, ac7, bc7, ac8, bc8, ac9, bc9, ac10, bc10, ac11, bc11, ac12, bc12, ac13, bc13, ac14, bc14, ac15, bc15, ac16, bc16, ac17, bc17, ac18, bc18, ac19, bc19, ac20, bc20, ac21, bc21, ac22, bc22, ac23, bc23, ac24, bc24, ac25, bc25, ac26, bc26, ac27, bc27, ac28, bc28, ac29, bc29, ac30, bc30, ac31, bc31, ac32, bc32, ac33, bc33, ac34, bc34, ac35, bc35, ac36, bc36, ac37, bc37, ac38, bc38, ac39, bc39, ac40, bc40, ac41, bc41, ac42, bc42, ac43, bc43, ac44, bc44, ac45, bc45, hpos, go_sem, ↓reduceIte, Nat.reduceEqDiff, Nat.reduceBEq, Nat.reduceAdd, Nat.reduceLeDiff, Nat.reduceLT, reduceCtorEq, Nat.reduceMul, Nat.reduceSub, Int.reduceEq, Int.reduceLT, Int.reduceLE, Int.reduceToNat]
    refine cdK_of (fun d2 => ?_) (fun d2 => ?_)
    · have d2 : x.k = 6 ∧ typT x = f.t := by simpa using d2
      rw [show resO f (x :: l) = x from if_pos d2] at e
      have hj2 := rjoin_ok v x hw hxw
      subst e
      obtain ⟨J, hJ⟩ : ∃ J, joinV v x = J := ⟨_, rfl⟩
      rw [hJ] at hj2 ⊢
      simp only [hc2, ac0, bc0, ac1, bc1, ac2, bc2, ac3, bc3, ac4, bc4, ac5, bc5, ac6, bc6, ac7, bc7, ac8, bc8, ac9, bc9, ac10, bc10, ac11, bc11, ac12, bc12, ac13, bc13, ac14, bc14, ac15, bc15, ac16, bc16, ac17, bc17, ac18, bc18, ac19, bc19, ac20, bc20, ac21, bc21, ac22, bc22, ac23, bc23, ac24, bc24, ac25, bc25, ac26, bc26, ac27, bc27, ac28, bc28, ac29, bc29, ac30, bc30, ac31, bc31, ac32, bc32, ac33, bc33, ac34, bc34, ac35, bc35, ac36, bc36, ac37, bc37, ac38, bc38, ac39, bc39, ac40, bc40, ac41, bc41, ac42, bc42, ac43, bc43, ac44, bc44, ac45, bc45, hpos, hlp, go_sem, ↓reduceIte, Nat.reduceEqDiff, Nat.reduceBEq, Nat.reduceAdd, Nat.reduceLeDiff, Nat.reduceLT, reduceCtorEq, Nat.reduceMul, Nat.reduceSub, Int.reduceEq, Int.reduceLT, Int.reduceLE, Int.reduceToNat]
      refine ⟨Int.le_refl _, vcCall.f (hj2 _ _) ?_⟩
      simp only [hc2, ac0, bc0, ac1, bc1, ac2, bc2, ac3, bc3, ac4, bc4, ac5, bc5, ac6, bc6, ac7, bc7, ac8, bc8, ac9, bc9, ac10, bc10, ac11, bc11, ac12, bc12, ac13, bc13, ac14, bc14, ac15, bc15, ac16, bc16, ac17, bc17, ac18, bc18, ac19, bc19, ac20, bc20, ac21, bc21, ac22, bc22, ac23, bc23, ac24, bc24, ac25, bc25, ac26, bc26, ac27, bc27, ac28, bc28, ac29, bc29, ac30, bc30, ac31, bc31, ac32, bc32, ac33, bc33, ac34, bc34, ac35, bc35, ac36, bc36, ac37, bc37, ac38, bc38, ac39, bc39, ac40, bc40, ac41, bc41, ac42, bc42, ac43, bc43, ac44, bc44, ac45, bc45, hpos, hlp, go_sem, ↓reduceIte, Nat.reduceEqDiff, Nat.reduceBEq, Nat.reduceAdd, Nat.reduceLeDiff, Nat.reduceLT, reduceCtorEq, Nat.reduceMul, Nat.reduceSub, Int.reduceEq, Int.reduceLT, Int.reduceLE, Int.reduceToNat]
      refine upL _ _ fun j hj => ?_
      simp only [gc_cons]
      repeat rw [if_neg (by omega)]
    · have d2 : ¬ (x.k = 6 ∧ typT x = f.t) := by
        intro q
        simp [q.1, q.2] at d2
      rw [show resO f (x :: l) = failO f entN from if_neg d2] at e
      have hj2 := rjoin_ok v (failO f entN) hw w2
      subst e
      obtain ⟨J, hJ⟩ : ∃ J, joinV v (failO f entN) = J := ⟨_, rfl⟩
      rw [hJ] at hj2 ⊢
      simp only [hc2, ac0, bc0, ac1, bc1, ac2, bc2, ac3, bc3, ac4, bc4, ac5, bc5, ac6, bc6, ac7, bc7, ac8, bc8, ac9, bc9, ac10, bc10, ac11, bc11, ac12, bc12, ac13, bc13, ac14, bc14, ac15, bc15, ac16, bc16, ac17, bc17, ac18, bc18, ac19, bc19, ac20, bc20, ac21, bc21, ac22, bc22, ac23, bc23, ac24, bc24, ac25, bc25, ac26, bc26, ac27, bc27, ac28, bc28, ac29, bc29, ac30, bc30, ac31, bc31, ac32, bc32, ac33, bc33, ac34, bc34, ac35, bc35, ac36, bc36, ac37, bc37, ac38, bc38, ac39, bc39, ac40, bc40, ac41, bc41, ac42, bc42, ac43, bc43, ac44, bc44, ac45, bc45, hpos, hlp, go_sem, ↓reduceIte, Nat.reduceEqDiff, Nat.reduceBEq, Nat.reduceAdd, Nat.reduceLeDiff, Nat.reduceLT, reduceCtorEq, Nat.reduceMul, Nat.reduceSub, Int.reduceEq, Int.reduceLT, Int.reduceLE, Int.reduceToNat]
      refine ⟨Int.le_refl _, vcCall.f (hj2 _ _) ?_⟩
      simp only [hc2, ac0, bc0, ac1, bc1, ac2, bc2, ac3, bc3, ac4, bc4, ac5, bc5, ac6, bc6, ac7, bc7, ac8, bc8, ac9, bc9, ac10, bc10, ac11, bc11, ac12, bc12, ac13, bc13, ac14, bc14, ac15, bc15, ac16, bc16, ac17, bc17, ac18, bc18, ac19, bc19, ac20, bc20, ac21, bc21, ac22, bc22, ac23, bc23, ac24, bc24, ac25, bc25, ac26, bc26, ac27, bc27, ac28, bc28, ac29, bc29, ac30, bc30, ac31, bc31, ac32, bc32, ac33, bc33, ac34, bc34, ac35, bc35, ac36, bc36, ac37, bc37, ac38, bc38, ac39, bc39, ac40, bc40, ac41, bc41, ac42, bc42, ac43, bc43, ac44, bc44, ac45, bc45, hpos, hlp, go_sem, ↓reduceIte, Nat.reduceEqDiff, Nat.reduceBEq, Nat.reduceAdd, Nat.reduceLeDiff, Nat.reduceLT, reduceCtorEq, Nat.reduceMul, Nat.reduceSub, Int.reduceEq, Int.reduceLT, Int.reduceLE, Int.reduceToNat]
      refine upL _ _ fun j hj => ?_
      simp only [gc_cons]
      repeat rw [if_neg (by omega)]
end Go.Proofs.Ytmcgjccheehehaa
