/-
  The parts SaS of the proof, in one file. Conditions: none.
-/
import Derived.Test.YtmcgjccheehehaaQsv42
namespace Go.Proofs.Ytmcgjccheehehaa
open Go.Eng
set_option linter.unusedVariables false
set_option linter.unusedSimpArgs false
set_option maxRecDepth 20000
set_option maxHeartbeats 2000000
abbrev keyN : ByteArray := ⟨#[107, 101, 121]⟩
abbrev entN : ByteArray := ⟨#[101, 110, 116, 105, 116, 121]⟩
noncomputable def failO (f : Fet) (s : ByteArray) : Val := collV f.t (fun _ => failV s) f.pk
/-- The value that an object is joined with; r: the results that are left. -/
noncomputable def resO (f : Fet) : List Val → Val
  | [] => failO f entN
  | x :: _ => if x.k = 6 ∧ typT x = f.t then x else failO f entN
/-- One object, and the results that are left. -/
noncomputable def mgSt (f : Fet) (v : Val) (r : List Val) : Val × List Val :=
  if typT v = f.t then (if (repV f v).k = 0 then (joinV v (failO f keyN), r) else (joinV v (resO f r), r.drop 1)) else (v, r)
/-- The account of the results: the box of the fetch, and that of the results. -/
noncomputable def mgA (f : Fet) (c r : Nat) : Acc (List Val) where
  st := mgSt f
  W l := [(r, .bx [.ds (mapC valC l)]), (c, .bx [.i .i64 f.g, .i .i64 f.d, .ds (mapC hopC f.p), .s f.t, .ds (stC f.ks), .i .i64 f.ky, .ds (mapC pkC f.pk), .ds (mapC in1 f.af)])]
  ks := [r, c]
  B l n := (∀ x ∈ l, wtV x ≤ 100000000000)
  f := 64
  caps := [.bx c 0, .bx r 0]
theorem wt_fails (s : ByteArray) : ∀ l : List Pk, wtL (l.map fun _ => failV s) = l.length
  | [] => rfl
  | p :: l => by
    rw [List.map_cons, wtL, wt_fails s l, wtV_eq]
    simp only [failV, Val.items_mk, Val.keys_mk, List.length_nil, wtL, List.length_cons]
    omega
theorem failO_wt (f : Fet) (s : ByteArray) (hpk : wtKs f.pk ≤ 100000000) : wtV (failO f s) ≤ 100000000000 := by
  have h1 := onP_len f.t f.pk
  have h2 := wtKs_len f.pk
  rw [wtV_eq]
  unfold failO collV
  simp only [Val.items_mk, Val.keys_mk, List.length_cons, List.length_map]
  rw [wtL, wt_fails, wtV_eq]
  simp only [Val.items_mk, Val.keys_mk, List.length_nil, wtL]
  omega
theorem mgA_ok (f : Fet) (c r : Nat) (hcr : r ≠ c) (hpk : wtKs f.pk ≤ 100000000) (hk : f.ks.length * 80 ≤ 100000000000000) (hs : ∀ s ∈ f.ks, s.size ≤ 100000000000000) : (mgA f c r).Ok where
  keys s := rfl
  ok s s' hp n0 h := by
    have hr := h r (by simp [mgA])
    have hc := h c (by simp [mgA])
    simp only [mgA] at hc hr ⊢
    rw [gc_cons_same] at hr
    rw [gc_cons_ne hcr, gc_cons_same] at hc
    refine ⟨hr.1, by rw [hr.2]; trivial, ?_, hc.1, by rw [hc.2]; trivial, ?_, trivial⟩
    · simp [cOk, asOk, aOk, AV.pur]
    · simp [cOk, asOk, aOk, AV.pur]
  mono s a b h := h
  step s v b hv hw h := by
    have w1 := failO_wt f keyN hpk
    have w2 := failO_wt f entN hpk
    simp only [mgA] at h ⊢
    unfold mgSt
    split
    · split
      · exact ⟨h, joinV_fit v _ hw w1⟩
      · refine ⟨fun x hx => h x (List.mem_of_mem_drop hx), joinV_fit v _ hw ?_⟩
        cases s with
        | nil => exact w2
        | cons x l =>
          by_cases q : x.k = 6 ∧ typT x = f.t
          · rw [show resO f (x :: l) = x from if_pos q]
            exact h x (by simp)
          · rw [show resO f (x :: l) = failO f entN from if_neg q]
            exact w2
    · exact ⟨h, hv⟩
  call s v hv hw hb hp m hh := by
    have hr := hh r (by simp [mgA])
    have hc := hh c (by simp [mgA])
    simp only [mgA] at hc hr hb ⊢
    rw [gc_cons_same] at hr
    rw [gc_cons_ne hcr, gc_cons_same] at hc
    obtain ⟨hc1, hc2⟩ := hc
    obtain ⟨hr1, hr2⟩ := hr
    obtain ⟨R, hR⟩ : ∃ R, mgSt f v s = R := ⟨_, rfl⟩
    have e := hR
    unfold mgSt at e
    rw [hR]
    refine meetsWs Try.func64 (by kernel_rfl) cc64 cr64 rfl (fun k h => ?_) (fun hp k h => ?_) fun hf => ?_
    · simp only [keys, List.map_cons, List.map_nil, List.mem_cons, List.not_mem_nil, or_false] at h
      rcases h with rfl | rfl <;> assumption
    · simp only [keys, List.map_cons, List.map_nil, List.mem_cons, List.not_mem_nil, or_false] at h
      rcases h with rfl | rfl
      · rw [List.cons_append, gc_cons_same]
        exact cOk_lt1 (ks := [k, c]) (by simp; omega) (by simp [cOk, asOk, aOk, AV.pur])
      · rw [List.cons_append, gc_cons_ne hcr, List.cons_append, gc_cons_same]
        exact cOk_lt1 (ks := [r, k]) (by simp; omega) (by simp [cOk, asOk, aOk, AV.pur])
    unfold ck64
    have ac0 : ¬ m = c := by omega
    have bc0 : ¬ c = m := by omega
    have ac1 : ¬ m + 1 = c := by omega
    have bc1 : ¬ c = m + 1 := by omega
    have ac2 : ¬ m + 2 = c := by omega
    have bc2 : ¬ c = m + 2 := by omega
    have ac3 : ¬ m + 3 = c := by omega
    have bc3 : ¬ c = m + 3 := by omega
    have ac4 : ¬ m + 4 = c := by omega
    have bc4 : ¬ c = m + 4 := by omega
    have ac5 : ¬ m + 5 = c := by omega
    have bc5 : ¬ c = m + 5 := by omega
    have ac6 : ¬ m + 6 = c := by omega
    have bc6 : ¬ c = m + 6 := by omega
    have ac7 : ¬ m + 7 = c := by omega
    have bc7 : ¬ c = m + 7 := by omega
    have ac8 : ¬ m + 8 = c := by omega
    have bc8 : ¬ c = m + 8 := by omega
    have ac9 : ¬ m + 9 = c := by omega
    have bc9 : ¬ c = m + 9 := by omega
    have ac10 : ¬ m + 10 = c := by omega
    have bc10 : ¬ c = m + 10 := by omega
    have ac11 : ¬ m + 11 = c := by omega
    have bc11 : ¬ c = m + 11 := by omega
    have ac12 : ¬ m + 12 = c := by omega
    have bc12 : ¬ c = m + 12 := by omega
    have ac13 : ¬ m + 13 = c := by omega
    have bc13 : ¬ c = m + 13 := by omega
    have ac14 : ¬ m + 14 = c := by omega
    have bc14 : ¬ c = m + 14 := by omega
    have ac15 : ¬ m + 15 = c := by omega
    have bc15 : ¬ c = m + 15 := by omega
    have ac16 : ¬ m + 16 = c := by omega
    have bc16 : ¬ c = m + 16 := by omega
    have ac17 : ¬ m + 17 = c := by omega
    have bc17 : ¬ c = m + 17 := by omega
    have ac18 : ¬ m + 18 = c := by omega
    have bc18 : ¬ c = m + 18 := by omega
    have ac19 : ¬ m + 19 = c := by omega
    have bc19 : ¬ c = m + 19 := by omega
    have ac20 : ¬ m + 20 = c := by omega
    have bc20 : ¬ c = m + 20 := by omega
    have ar0 : ¬ m = r := by omega
    have br0 : ¬ r = m := by omega
    have ar1 : ¬ m + 1 = r := by omega
    have br1 : ¬ r = m + 1 := by omega
    have ar2 : ¬ m + 2 = r := by omega
    have br2 : ¬ r = m + 2 := by omega
    have ar3 : ¬ m + 3 = r := by omega
    have br3 : ¬ r = m + 3 := by omega
    have ar4 : ¬ m + 4 = r := by omega
    have br4 : ¬ r = m + 4 := by omega
    have ar5 : ¬ m + 5 = r := by omega
    have br5 : ¬ r = m + 5 := by omega
    have ar6 : ¬ m + 6 = r := by omega
    have br6 : ¬ r = m + 6 := by omega
    have ar7 : ¬ m + 7 = r := by omega
    have br7 : ¬ r = m + 7 := by omega
    have ar8 : ¬ m + 8 = r := by omega
    have br8 : ¬ r = m + 8 := by omega
    have ar9 : ¬ m + 9 = r := by omega
    have br9 : ¬ r = m + 9 := by omega
    have ar10 : ¬ m + 10 = r := by omega
    have br10 : ¬ r = m + 10 := by omega
    have ar11 : ¬ m + 11 = r := by omega
    have br11 : ¬ r = m + 11 := by omega
    have ar12 : ¬ m + 12 = r := by omega
    have br12 : ¬ r = m + 12 := by omega
    have ar13 : ¬ m + 13 = r := by omega
    have br13 : ¬ r = m + 13 := by omega
    have ar14 : ¬ m + 14 = r := by omega
    have br14 : ¬ r = m + 14 := by omega
    have ar15 : ¬ m + 15 = r := by omega
    have br15 : ¬ r = m + 15 := by omega
    have ar16 : ¬ m + 16 = r := by omega
    have br16 : ¬ r = m + 16 := by omega
    have ar17 : ¬ m + 17 = r := by omega
    have br17 : ¬ r = m + 17 := by omega
    have ar18 : ¬ m + 18 = r := by omega
    have br18 : ¬ r = m + 18 := by omega
    have ar19 : ¬ m + 19 = r := by omega
    have br19 : ¬ r = m + 19 := by omega
    have ar20 : ¬ m + 20 = r := by omega
    have br20 : ¬ r = m + 20 := by omega
    have crn : ¬ c = r := fun q => hcr q.symm
    have fv := hv
    have upS : Up m ((r, .bx [.ds (mapC valC s)]) :: (c, .bx [.i .i64 f.g, .i .i64 f.d, .ds (mapC hopC f.p), .s f.t, .ds (stC f.ks), .i .i64 f.ky, .ds (mapC pkC f.pk), .ds (mapC in1 f.af)]) :: hp) hp := fun j hj => by
      simp only [gc_cons]
      split
      · rename_i q; rw [← q, hr2]
      · split
        · rename_i q; rw [← q, hc2]
        · rfl
    simp only [hc2, hr2, ac0, bc0, ac1, bc1, ac2, bc2, ac3, bc3, ac4, bc4, ac5, bc5, ac6, bc6, ac7, bc7, ac8, bc8, ac9, bc9, ac10, bc10, ac11, bc11, ac12, bc12, ac13, bc13, ac14, bc14, ac15, bc15, ac16, bc16, ac17, bc17, ac18, bc18, ac19, bc19, ac20, bc20, ar0, br0, ar1, br1, ar2, br2, ar3, br3, ar4, br4, ar5, br5, ar6, br6, ar7, br7, ar8, br8, ar9, br9, ar10, br10, ar11, br11, ar12, br12, ar13, br13, ar14, br14, ar15, br15, ar16, br16, ar17, br17, ar18, br18, ar19, br19, ar20, br20, crn, hcr, go_sem, ↓reduceIte, Nat.reduceEqDiff, Nat.reduceBEq, Nat.reduceAdd, Nat.reduceLeDiff, Nat.reduceLT, reduceCtorEq, Nat.reduceMul, Nat.reduceSub, Int.reduceEq, Int.reduceLT, Int.reduceLE, Int.reduceToNat]
    refine dCallR.f (fun _ hp' _ => stypeOf_ok v hv hp' _) ?_
    simp only [hc2, hr2, ac0, bc0, ac1, bc1, ac2, bc2, ac3, bc3, ac4, bc4, ac5, bc5, ac6, bc6, ac7, bc7, ac8, bc8, ac9, bc9, ac10, bc10, ac11, bc11, ac12, bc12, ac13, bc13, ac14, bc14, ac15, bc15, ac16, bc16, ac17, bc17, ac18, bc18, ac19, bc19, ac20, bc20, ar0, br0, ar1, br1, ar2, br2, ar3, br3, ar4, br4, ar5, br5, ar6, br6, ar7, br7, ar8, br8, ar9, br9, ar10, br10, ar11, br11, ar12, br12, ar13, br13, ar14, br14, ar15, br15, ar16, br16, ar17, br17, ar18, br18, ar19, br19, ar20, br20, crn, hcr, go_sem, ↓reduceIte, Nat.reduceEqDiff, Nat.reduceBEq, Nat.reduceAdd, Nat.reduceLeDiff, Nat.reduceLT, reduceCtorEq, Nat.reduceMul, Nat.reduceSub, Int.reduceEq, Int.reduceLT, Int.reduceLE, Int.reduceToNat]
    refine cdK_of (fun d => ?_) (fun d => ?_)
    · have d : ¬ typT v = f.t := by simpa using d
      rw [if_neg d] at e
      subst e
      simp only [hc2, hr2, ac0, bc0, ac1, bc1, ac2, bc2, ac3, bc3, ac4, bc4, ac5, bc5, ac6, bc6, ac7, bc7, ac8, bc8, ac9, bc9, ac10, bc10, ac11, bc11, ac12, bc12, ac13, bc13, ac14, bc14, ac15, bc15, ac16, bc16, ac17, bc17, ac18, bc18, ac19, bc19, ac20, bc20, ar0, br0, ar1, br1, ar2, br2, ar3, br3, ar4, br4, ar5, br5, ar6, br6, ar7, br7, ar8, br8, ar9, br9, ar10, br10, ar11, br11, ar12, br12, ar13, br13, ar14, br14, ar15, br15, ar16, br16, ar17, br17, ar18, br18, ar19, br19, ar20, br20, crn, hcr, go_sem, ↓reduceIte, Nat.reduceEqDiff, Nat.reduceBEq, Nat.reduceAdd, Nat.reduceLeDiff, Nat.reduceLT, reduceCtorEq, Nat.reduceMul, Nat.reduceSub, Int.reduceEq, Int.reduceLT, Int.reduceLE, Int.reduceToNat]
      refine vcCall.f (copy_ok v hv _ _) ?_
      simp only [hc2, hr2, ac0, bc0, ac1, bc1, ac2, bc2, ac3, bc3, ac4, bc4, ac5, bc5, ac6, bc6, ac7, bc7, ac8, bc8, ac9, bc9, ac10, bc10, ac11, bc11, ac12, bc12, ac13, bc13, ac14, bc14, ac15, bc15, ac16, bc16, ac17, bc17, ac18, bc18, ac19, bc19, ac20, bc20, ar0, br0, ar1, br1, ar2, br2, ar3, br3, ar4, br4, ar5, br5, ar6, br6, ar7, br7, ar8, br8, ar9, br9, ar10, br10, ar11, br11, ar12, br12, ar13, br13, ar14, br14, ar15, br15, ar16, br16, ar17, br17, ar18, br18, ar19, br19, ar20, br20, crn, hcr, go_sem, ↓reduceIte, Nat.reduceEqDiff, Nat.reduceBEq, Nat.reduceAdd, Nat.reduceLeDiff, Nat.reduceLT, reduceCtorEq, Nat.reduceMul, Nat.reduceSub, Int.reduceEq, Int.reduceLT, Int.reduceLE, Int.reduceToNat]
      exact upS
    have d : typT v = f.t := by simpa using d
    rw [if_pos d] at e
    simp only [hc2, hr2, ac0, bc0, ac1, bc1, ac2, bc2, ac3, bc3, ac4, bc4, ac5, bc5, ac6, bc6, ac7, bc7, ac8, bc8, ac9, bc9, ac10, bc10, ac11, bc11, ac12, bc12, ac13, bc13, ac14, bc14, ac15, bc15, ac16, bc16, ac17, bc17, ac18, bc18, ac19, bc19, ac20, bc20, ar0, br0, ar1, br1, ar2, br2, ar3, br3, ar4, br4, ar5, br5, ar6, br6, ar7, br7, ar8, br8, ar9, br9, ar10, br10, ar11, br11, ar12, br12, ar13, br13, ar14, br14, ar15, br15, ar16, br16, ar17, br17, ar18, br18, ar19, br19, ar20, br20, crn, hcr, go_sem, ↓reduceIte, Nat.reduceEqDiff, Nat.reduceBEq, Nat.reduceAdd, Nat.reduceLeDiff, Nat.reduceLT, reduceCtorEq, Nat.reduceMul, Nat.reduceSub, Int.reduceEq, Int.reduceLT, Int.reduceLE, Int.reduceToNat]
    refine vcCall.f (rep_ok f v hv hk hs _ _) ?_
    simp only [hc2, hr2, ac0, bc0, ac1, bc1, ac2, bc2, ac3, bc3, ac4, bc4, ac5, bc5, ac6, bc6, ac7, bc7, ac8, bc8, ac9, bc9, ac10, bc10, ac11, bc11, ac12, bc12, ac13, bc13, ac14, bc14, ac15, bc15, ac16, bc16, ac17, bc17, ac18, bc18, ac19, bc19, ac20, bc20, ar0, br0, ar1, br1, ar2, br2, ar3, br3, ar4, br4, ar5, br5, ar6, br6, ar7, br7, ar8, br8, ar9, br9, ar10, br10, ar11, br11, ar12, br12, ar13, br13, ar14, br14, ar15, br15, ar16, br16, ar17, br17, ar18, br18, ar19, br19, ar20, br20, crn, hcr, go_sem, ↓reduceIte, Nat.reduceEqDiff, Nat.reduceBEq, Nat.reduceAdd, Nat.reduceLeDiff, Nat.reduceLT, reduceCtorEq, Nat.reduceMul, Nat.reduceSub, Int.reduceEq, Int.reduceLT, Int.reduceLE, Int.reduceToNat]
    have lpk : f.pk.length ≤ 879609302220 := by have := wtKs_len f.pk; omega
    have w1 := failO_wt f keyN hpk
    have w2 := failO_wt f entN hpk
    have hf1 : ∀ hp m, MeetsF Try.prog 39 hp m [.ds (mapC pkC f.pk), .s f.t, .s keyN] (vx (failO f keyN)) := fun hp m => fail_ok f.pk f.t keyN lpk hp m
    have hf2 : ∀ hp m, MeetsF Try.prog 39 hp m [.ds (mapC pkC f.pk), .s f.t, .s entN] (vx (failO f entN)) := fun hp m => fail_ok f.pk f.t entN lpk hp m
    have hj1 := join_ok v (failO f keyN) hw w1
    refine cdK_of (fun d1 => ?_) (fun d1 => ?_)
    · have d1 : (repV f v).k = 0 := by simpa using d1
      rw [if_pos d1] at e
      obtain ⟨F, hF⟩ : ∃ F, failO f keyN = F := ⟨_, rfl⟩
      rw [hF] at hf1 hj1 e
      subst e
      obtain ⟨J, hJ⟩ : ∃ J, joinV v F = J := ⟨_, rfl⟩
      rw [hJ] at hj1 ⊢
      simp only [hc2, hr2, ac0, bc0, ac1, bc1, ac2, bc2, ac3, bc3, ac4, bc4, ac5, bc5, ac6, bc6, ac7, bc7, ac8, bc8, ac9, bc9, ac10, bc10, ac11, bc11, ac12, bc12, ac13, bc13, ac14, bc14, ac15, bc15, ac16, bc16, ac17, bc17, ac18, bc18, ac19, bc19, ac20, bc20, ar0, br0, ar1, br1, ar2, br2, ar3, br3, ar4, br4, ar5, br5, ar6, br6, ar7, br7, ar8, br8, ar9, br9, ar10, br10, ar11, br11, ar12, br12, ar13, br13, ar14, br14, ar15, br15, ar16, br16, ar17, br17, ar18, br18, ar19, br19, ar20, br20, crn, hcr, go_sem, ↓reduceIte, Nat.reduceEqDiff, Nat.reduceBEq, Nat.reduceAdd, Nat.reduceLeDiff, Nat.reduceLT, reduceCtorEq, Nat.reduceMul, Nat.reduceSub, Int.reduceEq, Int.reduceLT, Int.reduceLE, Int.reduceToNat]
      refine dCallR.f (fun _ hp' _ => hf1 hp' _) ?_
      simp only [hc2, hr2, ac0, bc0, ac1, bc1, ac2, bc2, ac3, bc3, ac4, bc4, ac5, bc5, ac6, bc6, ac7, bc7, ac8, bc8, ac9, bc9, ac10, bc10, ac11, bc11, ac12, bc12, ac13, bc13, ac14, bc14, ac15, bc15, ac16, bc16, ac17, bc17, ac18, bc18, ac19, bc19, ac20, bc20, ar0, br0, ar1, br1, ar2, br2, ar3, br3, ar4, br4, ar5, br5, ar6, br6, ar7, br7, ar8, br8, ar9, br9, ar10, br10, ar11, br11, ar12, br12, ar13, br13, ar14, br14, ar15, br15, ar16, br16, ar17, br17, ar18, br18, ar19, br19, ar20, br20, crn, hcr, go_sem, ↓reduceIte, Nat.reduceEqDiff, Nat.reduceBEq, Nat.reduceAdd, Nat.reduceLeDiff, Nat.reduceLT, reduceCtorEq, Nat.reduceMul, Nat.reduceSub, Int.reduceEq, Int.reduceLT, Int.reduceLE, Int.reduceToNat]
      refine dCallR.f (fun _ hp' _ => hj1 hp' _) ?_
      simp only [hc2, hr2, ac0, bc0, ac1, bc1, ac2, bc2, ac3, bc3, ac4, bc4, ac5, bc5, ac6, bc6, ac7, bc7, ac8, bc8, ac9, bc9, ac10, bc10, ac11, bc11, ac12, bc12, ac13, bc13, ac14, bc14, ac15, bc15, ac16, bc16, ac17, bc17, ac18, bc18, ac19, bc19, ac20, bc20, ar0, br0, ar1, br1, ar2, br2, ar3, br3, ar4, br4, ar5, br5, ar6, br6, ar7, br7, ar8, br8, ar9, br9, ar10, br10, ar11, br11, ar12, br12, ar13, br13, ar14, br14, ar15, br15, ar16, br16, ar17, br17, ar18, br18, ar19, br19, ar20, br20, crn, hcr, go_sem, ↓reduceIte, Nat.reduceEqDiff, Nat.reduceBEq, Nat.reduceAdd, Nat.reduceLeDiff, Nat.reduceLT, reduceCtorEq, Nat.reduceMul, Nat.reduceSub, Int.reduceEq, Int.reduceLT, Int.reduceLE, Int.reduceToNat]
      exact upS
    have d1 : ¬ (repV f v).k = 0 := by simpa using d1
    rw [if_neg d1] at e
    simp only [hc2, hr2, ac0, bc0, ac1, bc1, ac2, bc2, ac3, bc3, ac4, bc4, ac5, bc5, ac6, bc6, ac7, bc7, ac8, bc8, ac9, bc9, ac10, bc10, ac11, bc11, ac12, bc12, ac13, bc13, ac14, bc14, ac15, bc15, ac16, bc16, ac17, bc17, ac18, bc18, ac19, bc19, ac20, bc20, ar0, br0, ar1, br1, ar2, br2, ar3, br3, ar4, br4, ar5, br5, ar6, br6, ar7, br7, ar8, br8, ar9, br9, ar10, br10, ar11, br11, ar12, br12, ar13, br13, ar14, br14, ar15, br15, ar16, br16, ar17, br17, ar18, br18, ar19, br19, ar20, br20, crn, hcr, go_sem, ↓reduceIte, Nat.reduceEqDiff, Nat.reduceBEq, Nat.reduceAdd, Nat.reduceLeDiff, Nat.reduceLT, reduceCtorEq, Nat.reduceMul, Nat.reduceSub, Int.reduceEq, Int.reduceLT, Int.reduceLE, Int.reduceToNat]
    refine vcCall.f (hf2 _ _) ?_
    simp only [hc2, hr2, ac0, bc0, ac1, bc1, ac2, bc2, ac3, bc3, ac4, bc4, ac5, bc5, ac6, bc6, ac7, bc7, ac8, bc8, ac9, bc9, ac10, bc10, ac11, bc11, ac12, bc12, ac13, bc13, ac14, bc14, ac15, bc15, ac16, bc16, ac17, bc17, ac18, bc18, ac19, bc19, ac20, bc20, ar0, br0, ar1, br1, ar2, br2, ar3, br3, ar4, br4, ar5, br5, ar6, br6, ar7, br7, ar8, br8, ar9, br9, ar10, br10, ar11, br11, ar12, br12, ar13, br13, ar14, br14, ar15, br15, ar16, br16, ar17, br17, ar18, br18, ar19, br19, ar20, br20, crn, hcr, go_sem, ↓reduceIte, Nat.reduceEqDiff, Nat.reduceBEq, Nat.reduceAdd, Nat.reduceLeDiff, Nat.reduceLT, reduceCtorEq, Nat.reduceMul, Nat.reduceSub, Int.reduceEq, Int.reduceLT, Int.reduceLE, Int.reduceToNat]
    cases s with
    | nil =>
      have hj2 := join_ok v (failO f entN) hw w2
      rw [show resO f [] = failO f entN from rfl] at e
      subst e
      obtain ⟨J, hJ⟩ : ∃ J, joinV v (failO f entN) = J := ⟨_, rfl⟩
      rw [hJ] at hj2 ⊢
      simp only [hc2, hr2, ac0, bc0, ac1, bc1, ac2, bc2, ac3, bc3, ac4, bc4, ac5, bc5, ac6, bc6, ac7, bc7, ac8, bc8, ac9, bc9, ac10, bc10, ac11, bc11, ac12, bc12, ac13, bc13, ac14, bc14, ac15, bc15, ac16, bc16, ac17, bc17, ac18, bc18, ac19, bc19, ac20, bc20, ar0, br0, ar1, br1, ar2, br2, ar3, br3, ar4, br4, ar5, br5, ar6, br6, ar7, br7, ar8, br8, ar9, br9, ar10, br10, ar11, br11, ar12, br12, ar13, br13, ar14, br14, ar15, br15, ar16, br16, ar17, br17, ar18, br18, ar19, br19, ar20, br20, crn, hcr, go_sem, ↓reduceIte, Nat.reduceEqDiff, Nat.reduceBEq, Nat.reduceAdd, Nat.reduceLeDiff, Nat.reduceLT, reduceCtorEq, Nat.reduceMul, Nat.reduceSub, Int.reduceEq, Int.reduceLT, Int.reduceLE, Int.reduceToNat]
      refine vcCall.f (hj2 _ _) ?_
      simp only [hc2, hr2, ac0, bc0, ac1, bc1, ac2, bc2, ac3, bc3, ac4, bc4, ac5, bc5, ac6, bc6, ac7, bc7, ac8, bc8, ac9, bc9, ac10, bc10, ac11, bc11, ac12, bc12, ac13, bc13, ac14, bc14, ac15, bc15, ac16, bc16, ac17, bc17, ac18, bc18, ac19, bc19, ac20, bc20, ar0, br0, ar1, br1, ar2, br2, ar3, br3, ar4, br4, ar5, br5, ar6, br6, ar7, br7, ar8, br8, ar9, br9, ar10, br10, ar11, br11, ar12, br12, ar13, br13, ar14, br14, ar15, br15, ar16, br16, ar17, br17, ar18, br18, ar19, br19, ar20, br20, crn, hcr, go_sem, ↓reduceIte, Nat.reduceEqDiff, Nat.reduceBEq, Nat.reduceAdd, Nat.reduceLeDiff, Nat.reduceLT, reduceCtorEq, Nat.reduceMul, Nat.reduceSub, Int.reduceEq, Int.reduceLT, Int.reduceLE, Int.reduceToNat]
      exact upS
    | cons x l =>
      have hpos : (0 : Int) < ((l.length + 1 : Nat) : Int) := by omega
      have hxw := hb x (by simp)
      have upL : ∀ H, (∀ j, j < m → gc H j = gc hp j) → Up m ((r, .bx [.ds (mapC valC l)]) :: (c, .bx [.i .i64 f.g, .i .i64 f.d, .ds (mapC hopC f.p), .s f.t, .ds (stC f.ks), .i .i64 f.ky, .ds (mapC pkC f.pk), .ds (mapC in1 f.af)]) :: hp) ((r, .bx [.ds (mapC valC l)]) :: H) := fun H hH j hj => by
        simp only [gc_cons]
        split
        · rfl
        · rw [hH j hj]
          split
          · rename_i q; rw [← q, hc2]
          · rfl
      have fx : x.Fit := wtV_fit x (by omega)
      simp only [hc2, hr2, ac0, bc0, ac1, bc1, ac2, bc2, ac3, bc3, ac4, bc4, ac5, bc5, ac6, bc6, ac7, bc7, ac8, bc8, ac9, bc9, ac10, bc10, ac11, bc11, ac12, bc12, ac13, bc13, ac14, bc14, ac15, bc15, ac16, bc16, ac17, bc17, ac18, bc18, ac19, bc19, ac20, bc20, ar0, br0, ar1, br1, ar2, br2, ar3, br3, ar4, br4, ar5, br5, ar6, br6, ar7, br7, ar8, br8, ar9, br9, ar10, br10, ar11, br11, ar12, br12, ar13, br13, ar14, br14, ar15, br15, ar16, br16, ar17, br17, ar18, br18, ar19, br19, ar20, br20, crn, hcr, hpos, go_sem, ↓reduceIte, Nat.reduceEqDiff, Nat.reduceBEq, Nat.reduceAdd, Nat.reduceLeDiff, Nat.reduceLT, reduceCtorEq, Nat.reduceMul, Nat.reduceSub, Int.reduceEq, Int.reduceLT, Int.reduceLE, Int.reduceToNat]
      refine dCall.f (fun _ hp' _ => stypeOf_ok x fx hp' _) ?_
      simp only [hc2, hr2, ac0, bc0, ac1, bc1, ac2, bc2, ac3, bc3, ac4, bc4, ac5, bc5, ac6, bc6, ac7, bc7, ac8, bc8, ac9, bc9, ac10, bc10, ac11, bc11, ac12, bc12, ac13, bc13, ac14, bc14, ac15, bc15, ac16, bc16, ac17, bc17, ac18, bc18, ac19, bc19, ac20, bc20, ar0, br0, ar1, br1, ar2, br2, ar3, br3, ar4, br4, ar5, br5, ar6, br6, ar7, br7, ar8, br8, ar9, br9, ar10, br10, ar11, br11, ar12, br12, ar13, br13, ar14, br14, ar15, br15, ar16, br16, ar17, br17, ar18, br18, ar19, br19, ar20, br20, crn, hcr, hpos, go_sem, ↓reduceIte, Nat.reduceEqDiff, Nat.reduceBEq, Nat.reduceAdd, Nat.reduceLeDiff, Nat.reduceLT, reduceCtorEq, Nat.reduceMul, Nat.reduceSub, Int.reduceEq, Int.reduceLT, Int.reduceLE, Int.reduceToNat]
      have hlp : (1 : Int) ≤ ((l.length + 1 : Nat) : Int) := by omega
      refine cdK_of (fun d2 => ?_) (fun d2 => ?_)
      · have d2 : x.k = 6 ∧ typT x = f.t := by simpa using d2
        rw [show resO f (x :: l) = x from if_pos d2] at e
        have hj2 := join_ok v x hw hxw
        subst e
        obtain ⟨J, hJ⟩ : ∃ J, joinV v x = J := ⟨_, rfl⟩
        rw [hJ] at hj2 ⊢
        simp only [hc2, hr2, ac0, bc0, ac1, bc1, ac2, bc2, ac3, bc3, ac4, bc4, ac5, bc5, ac6, bc6, ac7, bc7, ac8, bc8, ac9, bc9, ac10, bc10, ac11, bc11, ac12, bc12, ac13, bc13, ac14, bc14, ac15, bc15, ac16, bc16, ac17, bc17, ac18, bc18, ac19, bc19, ac20, bc20, ar0, br0, ar1, br1, ar2, br2, ar3, br3, ar4, br4, ar5, br5, ar6, br6, ar7, br7, ar8, br8, ar9, br9, ar10, br10, ar11, br11, ar12, br12, ar13, br13, ar14, br14, ar15, br15, ar16, br16, ar17, br17, ar18, br18, ar19, br19, ar20, br20, crn, hcr, hpos, hlp, go_sem, ↓reduceIte, Nat.reduceEqDiff, Nat.reduceBEq, Nat.reduceAdd, Nat.reduceLeDiff, Nat.reduceLT, reduceCtorEq, Nat.reduceMul, Nat.reduceSub, Int.reduceEq, Int.reduceLT, Int.reduceLE, Int.reduceToNat]
        refine ⟨Int.le_refl _, vcCall.f (hj2 _ _) ?_⟩
        simp only [hc2, hr2, ac0, bc0, ac1, bc1, ac2, bc2, ac3, bc3, ac4, bc4, ac5, bc5, ac6, bc6, ac7, bc7, ac8, bc8, ac9, bc9, ac10, bc10, ac11, bc11, ac12, bc12, ac13, bc13, ac14, bc14, ac15, bc15, ac16, bc16, ac17, bc17, ac18, bc18, ac19, bc19, ac20, bc20, ar0, br0, ar1, br1, ar2, br2, ar3, br3, ar4, br4, ar5, br5, ar6, br6, ar7, br7, ar8, br8, ar9, br9, ar10, br10, ar11, br11, ar12, br12, ar13, br13, ar14, br14, ar15, br15, ar16, br16, ar17, br17, ar18, br18, ar19, br19, ar20, br20, crn, hcr, hpos, hlp, go_sem, ↓reduceIte, Nat.reduceEqDiff, Nat.reduceBEq, Nat.reduceAdd, Nat.reduceLeDiff, Nat.reduceLT, reduceCtorEq, Nat.reduceMul, Nat.reduceSub, Int.reduceEq, Int.reduceLT, Int.reduceLE, Int.reduceToNat]
        refine upL _ fun j hj => ?_
        simp only [gc_cons]
        repeat rw [if_neg (by omega)]
      · have d2 : ¬ (x.k = 6 ∧ typT x = f.t) := by
          intro q
          simp [q.1, q.2] at d2
        rw [show resO f (x :: l) = failO f entN from if_neg d2] at e
        have hj2 := join_ok v (failO f entN) hw w2
        subst e
        obtain ⟨J, hJ⟩ : ∃ J, joinV v (failO f entN) = J := ⟨_, rfl⟩
        rw [hJ] at hj2 ⊢
        simp only [hc2, hr2, ac0, bc0, ac1, bc1, ac2, bc2, ac3, bc3, ac4, bc4, ac5, bc5, ac6, bc6, ac7, bc7, ac8, bc8, ac9, bc9, ac10, bc10, ac11, bc11, ac12, bc12, ac13, bc13, ac14, bc14, ac15, bc15, ac16, bc16, ac17, bc17, ac18, bc18, ac19, bc19, ac20, bc20, ar0, br0, ar1, br1, ar2, br2, ar3, br3, ar4, br4, ar5, br5, ar6, br6, ar7, br7, ar8, br8, ar9, br9, ar10, br10, ar11, br11, ar12, br12, ar13, br13, ar14, br14, ar15, br15, ar16, br16, ar17, br17, ar18, br18, ar19, br19, ar20, br20, crn, hcr, hpos, hlp, go_sem, ↓reduceIte, Nat.reduceEqDiff, Nat.reduceBEq, Nat.reduceAdd, Nat.reduceLeDiff, Nat.reduceLT, reduceCtorEq, Nat.reduceMul, Nat.reduceSub, Int.reduceEq, Int.reduceLT, Int.reduceLE, Int.reduceToNat]
        refine ⟨Int.le_refl _, vcCall.f (hj2 _ _) ?_⟩
        simp only [hc2, hr2, ac0, bc0, ac1, bc1, ac2, bc2, ac3, bc3, ac4, bc4, ac5, bc5, ac6, bc6, ac7, bc7, ac8, bc8, ac9, bc9, ac10, bc10, ac11, bc11, ac12, bc12, ac13, bc13, ac14, bc14, ac15, bc15, ac16, bc16, ac17, bc17, ac18, bc18, ac19, bc19, ac20, bc20, ar0, br0, ar1, br1, ar2, br2, ar3, br3, ar4, br4, ar5, br5, ar6, br6, ar7, br7, ar8, br8, ar9, br9, ar10, br10, ar11, br11, ar12, br12, ar13, br13, ar14, br14, ar15, br15, ar16, br16, ar17, br17, ar18, br18, ar19, br19, ar20, br20, crn, hcr, hpos, hlp, go_sem, ↓reduceIte, Nat.reduceEqDiff, Nat.reduceBEq, Nat.reduceAdd, Nat.reduceLeDiff, Nat.reduceLT, reduceCtorEq, Nat.reduceMul, Nat.reduceSub, Int.reduceEq, Int.reduceLT, Int.reduceLE, Int.reduceToNat]
        refine upL _ fun j hj => ?_
        simp only [gc_cons]
        repeat rw [if_neg (by omega)]
end Go.Proofs.Ytmcgjccheehehaa
