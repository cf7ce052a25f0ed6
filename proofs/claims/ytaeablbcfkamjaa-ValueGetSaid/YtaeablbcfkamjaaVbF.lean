/-
  The laws of chapter 2 about the order, objects and constructors. Conditions: none.
-/
import Derived.Test.YtaeablbcfkamjaaVbE
namespace Go.Proofs.Ytaeablbcfkamjaa
open Go.Eng
set_option linter.unusedVariables false
set_option linter.unusedSimpArgs false
set_option maxRecDepth 20000
theorem lawOrder (a b c : Val) (ha : a.Fit) (hb : b.Fit) (hc : c.Fit) (hp : CH) (m : Nat) : MeetsF Try.prog 5 hp m [vx a, vx b, vx c] (.b true) := by
  have hanti := cmpV_anti a b
  have hrefl := cmpV_refl a
  have hord := cmpV_order a b c
  have hr1 : cmpV a b = -1 ∨ cmpV a b = 0 ∨ cmpV a b = 1 := cmpV_range a b
  obtain ⟨X, hX⟩ : ∃ X, cmpV a b = X := ⟨_, rfl⟩
  obtain ⟨Y, hY⟩ : ∃ Y, cmpV b c = Y := ⟨_, rfl⟩
  obtain ⟨Z, hZ⟩ : ∃ Z, cmpV a c = Z := ⟨_, rfl⟩
  have h1 := vcmp_ok a b ha hb
  have h2 := vcmp_ok b c hb hc
  have h3 := vcmp_ok a c ha hc
  have h4 := cmp_ok a b ha hb
  have h5 := vsame_ok a b ha hb
  have h6 := vcmp_ok b a hb ha
  have h7 := vcmp_ok a a ha ha
  rw [hX] at h1 h4 h5 hanti hord hr1
  rw [hY] at h2 hord
  rw [hZ] at h3 hord
  rw [hanti] at h6
  rw [hrefl] at h7
  have hneg : IntKind.i64.wrap (0 - X) = -X := by rw [wr64 (by omega)]; omega
  refine meetsF Try.func5 (by kernel_rfl) cc5 cr5 rfl fun hf => ?_; unfold ck5
  simp only [go_sem, ↓reduceIte, Nat.reduceEqDiff, Nat.reduceBEq, Nat.reduceAdd, Nat.reduceLeDiff, Nat.reduceLT, reduceCtorEq, Nat.reduceMul, Nat.reduceSub, Int.reduceEq, Int.reduceLT, Int.reduceLE, Int.reduceToNat]
  refine vcCall.f (few_ok a ha _ _) ?_
  simp only [go_sem, ↓reduceIte, Nat.reduceEqDiff, Nat.reduceBEq, Nat.reduceAdd, Nat.reduceLeDiff, Nat.reduceLT, reduceCtorEq, Nat.reduceMul, Nat.reduceSub, Int.reduceEq, Int.reduceLT, Int.reduceLE, Int.reduceToNat]
  refine gCall.f (fun _ => few_ok b hb _ _) ?_
  simp only [go_sem, ↓reduceIte, Nat.reduceEqDiff, Nat.reduceBEq, Nat.reduceAdd, Nat.reduceLeDiff, Nat.reduceLT, reduceCtorEq, Nat.reduceMul, Nat.reduceSub, Int.reduceEq, Int.reduceLT, Int.reduceLE, Int.reduceToNat]
  refine gCall.f (fun _ => few_ok c hc _ _) ?_
  simp only [go_sem, ↓reduceIte, Nat.reduceEqDiff, Nat.reduceBEq, Nat.reduceAdd, Nat.reduceLeDiff, Nat.reduceLT, reduceCtorEq, Nat.reduceMul, Nat.reduceSub, Int.reduceEq, Int.reduceLT, Int.reduceLE, Int.reduceToNat]
  refine cdK_of (fun c => ?_) (fun c => ?_)
  · simp only [go_sem, ↓reduceIte, Nat.reduceEqDiff, Nat.reduceBEq, Nat.reduceAdd, Nat.reduceLeDiff, Nat.reduceLT, reduceCtorEq, Nat.reduceMul, Nat.reduceSub, Int.reduceEq, Int.reduceLT, Int.reduceLE, Int.reduceToNat]
    refine vcCall.f (knows_ok _ _) ?_
    simp only [go_sem, ↓reduceIte, Nat.reduceEqDiff, Nat.reduceBEq, Nat.reduceAdd, Nat.reduceLeDiff, Nat.reduceLT, reduceCtorEq, Nat.reduceMul, Nat.reduceSub, Int.reduceEq, Int.reduceLT, Int.reduceLE, Int.reduceToNat]
  · simp only [go_sem, ↓reduceIte, Nat.reduceEqDiff, Nat.reduceBEq, Nat.reduceAdd, Nat.reduceLeDiff, Nat.reduceLT, reduceCtorEq, Nat.reduceMul, Nat.reduceSub, Int.reduceEq, Int.reduceLT, Int.reduceLE, Int.reduceToNat]
    first | refine dCallR.f (fun _ _ _ => h1 _ _) ?_ | refine dCall.f (fun _ _ _ => h1 _ _) ?_
    simp only [go_sem, ↓reduceIte, Nat.reduceEqDiff, Nat.reduceBEq, Nat.reduceAdd, Nat.reduceLeDiff, Nat.reduceLT, reduceCtorEq, Nat.reduceMul, Nat.reduceSub, Int.reduceEq, Int.reduceLT, Int.reduceLE, Int.reduceToNat]
    first | refine dCallR.f (fun _ _ _ => h2 _ _) ?_ | refine dCall.f (fun _ _ _ => h2 _ _) ?_
    simp only [go_sem, ↓reduceIte, Nat.reduceEqDiff, Nat.reduceBEq, Nat.reduceAdd, Nat.reduceLeDiff, Nat.reduceLT, reduceCtorEq, Nat.reduceMul, Nat.reduceSub, Int.reduceEq, Int.reduceLT, Int.reduceLE, Int.reduceToNat]
    first | refine dCallR.f (fun _ _ _ => h3 _ _) ?_ | refine dCall.f (fun _ _ _ => h3 _ _) ?_
    simp only [go_sem, ↓reduceIte, Nat.reduceEqDiff, Nat.reduceBEq, Nat.reduceAdd, Nat.reduceLeDiff, Nat.reduceLT, reduceCtorEq, Nat.reduceMul, Nat.reduceSub, Int.reduceEq, Int.reduceLT, Int.reduceLE, Int.reduceToNat]
    refine vcCall.f (h4 _ _) ?_
    simp only [go_sem, ↓reduceIte, Nat.reduceEqDiff, Nat.reduceBEq, Nat.reduceAdd, Nat.reduceLeDiff, Nat.reduceLT, reduceCtorEq, Nat.reduceMul, Nat.reduceSub, Int.reduceEq, Int.reduceLT, Int.reduceLE, Int.reduceToNat]
    refine gCall.f (fun _ => h5 _ _) ?_
    simp only [go_sem, ↓reduceIte, Nat.reduceEqDiff, Nat.reduceBEq, Nat.reduceAdd, Nat.reduceLeDiff, Nat.reduceLT, reduceCtorEq, Nat.reduceMul, Nat.reduceSub, Int.reduceEq, Int.reduceLT, Int.reduceLE, Int.reduceToNat]
    refine gCall.f (fun _ => h6 _ _) ?_
    simp only [hneg, go_sem, ↓reduceIte, Nat.reduceEqDiff, Nat.reduceBEq, Nat.reduceAdd, Nat.reduceLeDiff, Nat.reduceLT, reduceCtorEq, Nat.reduceMul, Nat.reduceSub, Int.reduceEq, Int.reduceLT, Int.reduceLE, Int.reduceToNat]
    refine gCall.f (fun _ => h7 _ _) ?_
    simp only [beq_self_eq_true, go_sem, ↓reduceIte, Nat.reduceEqDiff, Nat.reduceBEq, Nat.reduceAdd, Nat.reduceLeDiff, Nat.reduceLT, reduceCtorEq, Nat.reduceMul, Nat.reduceSub, Int.reduceEq, Int.reduceLT, Int.reduceLE, Int.reduceToNat]
    refine gCall.f (fun _ => knows_ok _ _) ?_
    simp only [hord.1, hord.2, go_sem, ↓reduceIte, Nat.reduceEqDiff, Nat.reduceBEq, Nat.reduceAdd, Nat.reduceLeDiff, Nat.reduceLT, reduceCtorEq, Nat.reduceMul, Nat.reduceSub, Int.reduceEq, Int.reduceLT, Int.reduceLE, Int.reduceToNat]
theorem lawGet (v : Val) (hv : v.Fit) (k : ByteArray) (hp : CH) (m : Nat) : MeetsF Try.prog 7 hp m [vx v, .s k] (.b true) := by
  have h1 := get_ok v hv k
  have h2 := rget_ok v hv k
  have hR : ((getV v k).getD zVal).Fit := getV_fit hv k
  have h3 := same_ok _ _ hR hR
  rw [cmpV_refl] at h3
  obtain ⟨R, hR2⟩ : ∃ R, getV v k = R := ⟨_, rfl⟩
  rw [hR2] at h1 h2 h3
  refine meetsF Try.func7 (by kernel_rfl) cc7 cr7 rfl fun hf => ?_; unfold ck7
  simp only [go_sem, ↓reduceIte, Nat.reduceEqDiff, Nat.reduceBEq, Nat.reduceAdd, Nat.reduceLeDiff, Nat.reduceLT, reduceCtorEq, Nat.reduceMul, Nat.reduceSub, Int.reduceEq, Int.reduceLT, Int.reduceLE, Int.reduceToNat]
  refine vcCall.f (few_ok v hv _ _) ?_
  simp only [go_sem, ↓reduceIte, Nat.reduceEqDiff, Nat.reduceBEq, Nat.reduceAdd, Nat.reduceLeDiff, Nat.reduceLT, reduceCtorEq, Nat.reduceMul, Nat.reduceSub, Int.reduceEq, Int.reduceLT, Int.reduceLE, Int.reduceToNat]
  refine cdK_of (fun c => ?_) (fun c => ?_)
  · simp only [go_sem, ↓reduceIte, Nat.reduceEqDiff, Nat.reduceBEq, Nat.reduceAdd, Nat.reduceLeDiff, Nat.reduceLT, reduceCtorEq, Nat.reduceMul, Nat.reduceSub, Int.reduceEq, Int.reduceLT, Int.reduceLE, Int.reduceToNat]
    refine vcCall.f (knows_ok _ _) ?_
    simp only [go_sem, ↓reduceIte, Nat.reduceEqDiff, Nat.reduceBEq, Nat.reduceAdd, Nat.reduceLeDiff, Nat.reduceLT, reduceCtorEq, Nat.reduceMul, Nat.reduceSub, Int.reduceEq, Int.reduceLT, Int.reduceLE, Int.reduceToNat]
  · simp only [go_sem, ↓reduceIte, Nat.reduceEqDiff, Nat.reduceBEq, Nat.reduceAdd, Nat.reduceLeDiff, Nat.reduceLT, reduceCtorEq, Nat.reduceMul, Nat.reduceSub, Int.reduceEq, Int.reduceLT, Int.reduceLE, Int.reduceToNat]
    refine vcCall.f (h1 _ _) ?_
    simp only [go_sem, ↓reduceIte, Nat.reduceEqDiff, Nat.reduceBEq, Nat.reduceAdd, Nat.reduceLeDiff, Nat.reduceLT, reduceCtorEq, Nat.reduceMul, Nat.reduceSub, Int.reduceEq, Int.reduceLT, Int.reduceLE, Int.reduceToNat]
    refine vcCall.f (h2 _ _) ?_
    simp only [go_sem, ↓reduceIte, Nat.reduceEqDiff, Nat.reduceBEq, Nat.reduceAdd, Nat.reduceLeDiff, Nat.reduceLT, reduceCtorEq, Nat.reduceMul, Nat.reduceSub, Int.reduceEq, Int.reduceLT, Int.reduceLE, Int.reduceToNat]
    simp only [beq_self_eq_true, go_sem, ↓reduceIte, Nat.reduceEqDiff, Nat.reduceBEq, Nat.reduceAdd, Nat.reduceLeDiff, Nat.reduceLT, reduceCtorEq, Nat.reduceMul, Nat.reduceSub, Int.reduceEq, Int.reduceLT, Int.reduceLE, Int.reduceToNat]
    refine gCall.f (fun _ => h3 _ _) ?_
    simp only [go_sem, ↓reduceIte, Nat.reduceEqDiff, Nat.reduceBEq, Nat.reduceAdd, Nat.reduceLeDiff, Nat.reduceLT, reduceCtorEq, Nat.reduceMul, Nat.reduceSub, Int.reduceEq, Int.reduceLT, Int.reduceLE, Int.reduceToNat]
    refine gCall.f (fun _ => knows_ok _ _) ?_
    simp only [go_sem, ↓reduceIte, Nat.reduceEqDiff, Nat.reduceBEq, Nat.reduceAdd, Nat.reduceLeDiff, Nat.reduceLT, reduceCtorEq, Nat.reduceMul, Nat.reduceSub, Int.reduceEq, Int.reduceLT, Int.reduceLE, Int.reduceToNat]
theorem rightV_eq (lit : Bool) (v : Val) : rightV lit v = (decide (szV v ≤ 4096) && decide (dpV v ≤ 24) && evV lit v) := rfl
theorem bo_right (b : Bool) : rightV false (boV b) = true := by cases b <;> decide +kernel
theorem in_right (n : Int) : rightV false (inV n) = true := by
  have e : (inV 0).items = (inV n).items := rfl
  have h : rightV false (inV 0) = true := by decide +kernel
  rw [rightV_eq, szV_eq, dpV_eq, evV_eq, nodeW, nodeV] at h ⊢
  simp only [inV, Val.k_mk, Val.n_mk, Val.s_mk, Val.items_mk, Val.keys_mk, Bool.and_eq_true, decide_eq_true_eq] at h ⊢
  exact h
theorem te_right (s : ByteArray) : rightV false (teV s) = true := by
  have h : rightV false (teV ⟨#[]⟩) = true := by decide +kernel
  rw [rightV_eq, szV_eq, dpV_eq, evV_eq, nodeW, nodeV] at h ⊢
  simp only [teV, Val.k_mk, Val.n_mk, Val.s_mk, Val.items_mk, Val.keys_mk, Bool.and_eq_true, decide_eq_true_eq] at h ⊢
  exact h
theorem li_right (b : Bool) (n : Int) (s : ByteArray) : rightV false (liV [boV b, inV n, teV s]) = true := by
  have h1 := bo_right b
  have h2 := in_right n
  have h3 := te_right s
  have h0 : rightV false (liV [boV true, inV 0, teV ⟨#[]⟩]) = true := by decide +kernel
  simp only [rightV_eq, Bool.and_eq_true] at h1 h2 h3 h0 ⊢
  refine ⟨⟨?_, ?_⟩, ?_⟩
  · exact h0.1.1
  · exact h0.1.2
  · rw [evV_eq] at h0 ⊢
    simp only [Bool.and_eq_true] at h0 ⊢
    refine ⟨h0.2.1, ?_⟩
    rw [liV, Val.items_mk, evL, evL, evL, evL, h1.2, h2.2, h3.2]
    rfl
theorem lawMakes (b : Bool) (n : Int) (s : ByteArray) (hp : CH) (m : Nat) : MeetsF Try.prog 9 hp m [.b b, .i .i64 n, .s s] (.b true) := by
  have fb : (boV b).Fit := leaf_fit (by simp)
  have fn : (inV n).Fit := in_fit n
  have ft : (teV s).Fit := leaf_fit (by simp)
  have fe : (enV s).Fit := leaf_fit (by simp)
  have fl : (liV [boV b, inV n, teV s]).Fit := li_fit (by simp) (by simp [fb, fn, ft])
  have s1 := same_ok _ _ fb fb
  rw [cmpV_refl] at s1
  have s2 := same_ok _ _ fn fn
  rw [cmpV_refl] at s2
  have s3 := same_ok _ _ ft ft
  rw [cmpV_refl] at s3
  have s4 := same_ok _ _ fe fe
  rw [cmpV_refl] at s4
  have r1 := vRight_ok _ fb
  rw [bo_right] at r1
  have r2 := vRight_ok _ fn
  rw [in_right] at r2
  have r3 := vRight_ok _ ft
  rw [te_right] at r3
  have r4 := vRight_ok _ fl
  rw [li_right] at r4
  refine meetsF Try.func9 (by kernel_rfl) cc9 cr9 rfl fun hf => ?_; unfold ck9
  simp only [go_sem, ↓reduceIte, Nat.reduceEqDiff, Nat.reduceBEq, Nat.reduceAdd, Nat.reduceLeDiff, Nat.reduceLT, reduceCtorEq, Nat.reduceMul, Nat.reduceSub, Int.reduceEq, Int.reduceLT, Int.reduceLE, Int.reduceToNat]
  refine vcCall.f (vBool_ok b _ _) ?_
  simp only [go_sem, ↓reduceIte, Nat.reduceEqDiff, Nat.reduceBEq, Nat.reduceAdd, Nat.reduceLeDiff, Nat.reduceLT, reduceCtorEq, Nat.reduceMul, Nat.reduceSub, Int.reduceEq, Int.reduceLT, Int.reduceLE, Int.reduceToNat]
  refine vcCall.f (vInt_ok n _ _) ?_
  simp only [go_sem, ↓reduceIte, Nat.reduceEqDiff, Nat.reduceBEq, Nat.reduceAdd, Nat.reduceLeDiff, Nat.reduceLT, reduceCtorEq, Nat.reduceMul, Nat.reduceSub, Int.reduceEq, Int.reduceLT, Int.reduceLE, Int.reduceToNat]
  refine vcCall.f (vText_ok s _ _) ?_
  simp only [go_sem, ↓reduceIte, Nat.reduceEqDiff, Nat.reduceBEq, Nat.reduceAdd, Nat.reduceLeDiff, Nat.reduceLT, reduceCtorEq, Nat.reduceMul, Nat.reduceSub, Int.reduceEq, Int.reduceLT, Int.reduceLE, Int.reduceToNat]
  refine vcCall.f (vEnum_ok s _ _) ?_
  simp only [go_sem, ↓reduceIte, Nat.reduceEqDiff, Nat.reduceBEq, Nat.reduceAdd, Nat.reduceLeDiff, Nat.reduceLT, reduceCtorEq, Nat.reduceMul, Nat.reduceSub, Int.reduceEq, Int.reduceLT, Int.reduceLE, Int.reduceToNat]
  first | refine dCallR.f (fun _ _ _ => rBool_ok b _ _) ?_ | refine dCall.f (fun _ _ _ => rBool_ok b _ _) ?_
  simp only [go_sem, ↓reduceIte, Nat.reduceEqDiff, Nat.reduceBEq, Nat.reduceAdd, Nat.reduceLeDiff, Nat.reduceLT, reduceCtorEq, Nat.reduceMul, Nat.reduceSub, Int.reduceEq, Int.reduceLT, Int.reduceLE, Int.reduceToNat]
  first | refine dCallR.f (fun _ _ _ => s1 _ _) ?_ | refine dCall.f (fun _ _ _ => s1 _ _) ?_
  simp only [go_sem, ↓reduceIte, Nat.reduceEqDiff, Nat.reduceBEq, Nat.reduceAdd, Nat.reduceLeDiff, Nat.reduceLT, reduceCtorEq, Nat.reduceMul, Nat.reduceSub, Int.reduceEq, Int.reduceLT, Int.reduceLE, Int.reduceToNat]
  first | refine dCallR.f (fun _ _ _ => rInt_ok n _ _) ?_ | refine dCall.f (fun _ _ _ => rInt_ok n _ _) ?_
  simp only [go_sem, ↓reduceIte, Nat.reduceEqDiff, Nat.reduceBEq, Nat.reduceAdd, Nat.reduceLeDiff, Nat.reduceLT, reduceCtorEq, Nat.reduceMul, Nat.reduceSub, Int.reduceEq, Int.reduceLT, Int.reduceLE, Int.reduceToNat]
  first | refine dCallR.f (fun _ _ _ => s2 _ _) ?_ | refine dCall.f (fun _ _ _ => s2 _ _) ?_
  simp only [go_sem, ↓reduceIte, Nat.reduceEqDiff, Nat.reduceBEq, Nat.reduceAdd, Nat.reduceLeDiff, Nat.reduceLT, reduceCtorEq, Nat.reduceMul, Nat.reduceSub, Int.reduceEq, Int.reduceLT, Int.reduceLE, Int.reduceToNat]
  first | refine dCallR.f (fun _ _ _ => rText_ok s _ _) ?_ | refine dCall.f (fun _ _ _ => rText_ok s _ _) ?_
  simp only [go_sem, ↓reduceIte, Nat.reduceEqDiff, Nat.reduceBEq, Nat.reduceAdd, Nat.reduceLeDiff, Nat.reduceLT, reduceCtorEq, Nat.reduceMul, Nat.reduceSub, Int.reduceEq, Int.reduceLT, Int.reduceLE, Int.reduceToNat]
  first | refine dCallR.f (fun _ _ _ => s3 _ _) ?_ | refine dCall.f (fun _ _ _ => s3 _ _) ?_
  simp only [go_sem, ↓reduceIte, Nat.reduceEqDiff, Nat.reduceBEq, Nat.reduceAdd, Nat.reduceLeDiff, Nat.reduceLT, reduceCtorEq, Nat.reduceMul, Nat.reduceSub, Int.reduceEq, Int.reduceLT, Int.reduceLE, Int.reduceToNat]
  first | refine dCallR.f (fun _ _ _ => rEnum_ok s _ _) ?_ | refine dCall.f (fun _ _ _ => rEnum_ok s _ _) ?_
  simp only [go_sem, ↓reduceIte, Nat.reduceEqDiff, Nat.reduceBEq, Nat.reduceAdd, Nat.reduceLeDiff, Nat.reduceLT, reduceCtorEq, Nat.reduceMul, Nat.reduceSub, Int.reduceEq, Int.reduceLT, Int.reduceLE, Int.reduceToNat]
  first | refine dCallR.f (fun _ _ _ => s4 _ _) ?_ | refine dCall.f (fun _ _ _ => s4 _ _) ?_
  simp only [go_sem, ↓reduceIte, Nat.reduceEqDiff, Nat.reduceBEq, Nat.reduceAdd, Nat.reduceLeDiff, Nat.reduceLT, reduceCtorEq, Nat.reduceMul, Nat.reduceSub, Int.reduceEq, Int.reduceLT, Int.reduceLE, Int.reduceToNat]
  refine vcCall.f (vList_w [boV b, inV n, teV s] (by simp) (by simp [fb, fn, ft]) _ _ 3 rfl _ _ ?_) ?_
  · simp only [go_sem, ↓reduceIte, Nat.reduceEqDiff, Nat.reduceBEq, Nat.reduceAdd, Nat.reduceLeDiff, Nat.reduceLT, reduceCtorEq, Nat.reduceMul, Nat.reduceSub, Int.reduceEq, Int.reduceLT, Int.reduceLE, Int.reduceToNat]
  simp only [go_sem, ↓reduceIte, Nat.reduceEqDiff, Nat.reduceBEq, Nat.reduceAdd, Nat.reduceLeDiff, Nat.reduceLT, reduceCtorEq, Nat.reduceMul, Nat.reduceSub, Int.reduceEq, Int.reduceLT, Int.reduceLE, Int.reduceToNat]
  first | refine dCallR.f (fun _ _ _ => r1 _ _) ?_ | refine dCall.f (fun _ _ _ => r1 _ _) ?_
  simp only [go_sem, ↓reduceIte, Nat.reduceEqDiff, Nat.reduceBEq, Nat.reduceAdd, Nat.reduceLeDiff, Nat.reduceLT, reduceCtorEq, Nat.reduceMul, Nat.reduceSub, Int.reduceEq, Int.reduceLT, Int.reduceLE, Int.reduceToNat]
  first | refine dCallR.f (fun _ _ _ => r2 _ _) ?_ | refine dCall.f (fun _ _ _ => r2 _ _) ?_
  simp only [go_sem, ↓reduceIte, Nat.reduceEqDiff, Nat.reduceBEq, Nat.reduceAdd, Nat.reduceLeDiff, Nat.reduceLT, reduceCtorEq, Nat.reduceMul, Nat.reduceSub, Int.reduceEq, Int.reduceLT, Int.reduceLE, Int.reduceToNat]
  first | refine dCallR.f (fun _ _ _ => r3 _ _) ?_ | refine dCall.f (fun _ _ _ => r3 _ _) ?_
  simp only [go_sem, ↓reduceIte, Nat.reduceEqDiff, Nat.reduceBEq, Nat.reduceAdd, Nat.reduceLeDiff, Nat.reduceLT, reduceCtorEq, Nat.reduceMul, Nat.reduceSub, Int.reduceEq, Int.reduceLT, Int.reduceLE, Int.reduceToNat]
  have i1 : (liV [boV b, inV n, teV s]).items = [boV b, inV n, teV s] := rfl
  have i2 : (liV [boV b, inV n, teV s]).k = 5 := rfl
  have i3 : (liV [boV b, inV n, teV s]).items.length = 3 := rfl
  have i4 := mapC_get valC (l := (liV [boV b, inV n, teV s]).items) (j := 2) (a := teV s) rfl
  refine dCall.f (fun _ _ _ => r4 _ _) ?_
  simp only [i2, i3, i4, getK_s i4, go_sem, ↓reduceIte, Nat.reduceEqDiff, Nat.reduceBEq, Nat.reduceAdd, Nat.reduceLeDiff, Nat.reduceLT, reduceCtorEq, Nat.reduceMul, Nat.reduceSub, Int.reduceEq, Int.reduceLT, Int.reduceLE, Int.reduceToNat]
  first | refine dCallR.f (fun _ _ _ => s3 _ _) ?_ | refine dCall.f (fun _ _ _ => s3 _ _) ?_
  simp only [go_sem, ↓reduceIte, Nat.reduceEqDiff, Nat.reduceBEq, Nat.reduceAdd, Nat.reduceLeDiff, Nat.reduceLT, reduceCtorEq, Nat.reduceMul, Nat.reduceSub, Int.reduceEq, Int.reduceLT, Int.reduceLE, Int.reduceToNat]
  first | refine dCallR.f (fun _ _ _ => knows_ok _ _) ?_ | refine dCall.f (fun _ _ _ => knows_ok _ _) ?_
  simp only [go_sem, ↓reduceIte, Nat.reduceEqDiff, Nat.reduceBEq, Nat.reduceAdd, Nat.reduceLeDiff, Nat.reduceLT, reduceCtorEq, Nat.reduceMul, Nat.reduceSub, Int.reduceEq, Int.reduceLT, Int.reduceLE, Int.reduceToNat]
theorem ix_nodup {x : ByteArray} : ∀ {l : List ByteArray} (j : Nat) {i : Nat}, l.Nodup → l[i]? = some x → ix x l j = ((j + i : Nat) : Int)
  | [], j, i, _, h => by simp at h
  | y :: l, j, 0, _, h => by
    simp at h
    rw [ix, if_pos h.symm]
    rfl
  | y :: l, j, i + 1, hn, h => by
    simp only [List.getElem?_cons_succ] at h
    have hm := List.mem_of_getElem? h
    have : ¬ x = y := fun e => by subst e; exact (List.nodup_cons.1 hn).1 hm
    rw [ix, if_neg this, ix_nodup (j + 1) (List.nodup_cons.1 hn).2 h]
    congr 1
    omega
theorem obV_get {k : List ByteArray} {l : List Val} (hl : k.length = l.length) (hn : k.Nodup) {i : Nat} {x : ByteArray} {v : Val} (h1 : k[i]? = some x) (h2 : l[i]? = some v) : getV (obV k l) x = some v := by
  have e := ix_nodup 0 hn h1
  rw [getV, if_pos (show (obV k l).k = 6 from rfl)]
  show (if 0 ≤ ix x k 0 then l[(ix x k 0).toNat]? else none) = _
  rw [e, if_pos (by omega)]
  simpa using h2
theorem objV_fit {k : List ByteArray} {l : List Val} (hk : k.length * 16 ≤ 140737488355327) (hl : l.length * 80 ≤ 140737488355327) (h : ∀ x ∈ l, x.Fit) : (objV k l).1.Fit := by
  unfold objV
  split
  · exact zval_fit
  · split
    · exact zval_fit
    · exact .mk _ hl hk h
theorem objV_ok {k : List ByteArray} {l : List Val} (h : (objV k l).2 = 0) : (objV k l).1 = obV k l ∧ k.length = l.length ∧ k.Nodup := by
  unfold objV at *
  by_cases c1 : k.length = l.length
  · rw [if_neg (by simpa using c1)] at h ⊢
    by_cases c2 : tw k = true
    · rw [if_pos c2] at h; simp at h
    · rw [if_neg c2] at h ⊢
      refine ⟨rfl, c1, ?_⟩
      simpa [tw] using c2
  · rw [if_pos c1] at h; simp at h
theorem lawObject (keys : List ByteArray) (l : List Val) (hk : keys.length * 16 ≤ 140737488355327) (hl : l.length * 80 ≤ 140737488355327) (h : ∀ x ∈ l, x.Fit) (k : ByteArray) (hp : CH) (m : Nat) : MeetsF Try.prog 6 hp m [.ds (stC keys), .ds (mapC valC l), .s k] (.b true) := by
  have hf0 := few_ok (.mk 0 0 ⟨#[]⟩ l []) (.mk _ hl (by simp [Val.keys_mk]) h)
  have h1 := vObject_ok keys l hk hl h
  have h2 := rObject_ok keys l hk hl h
  have hO := objV_fit hk hl h
  have hok := objV_ok (k := keys) (l := l)
  obtain ⟨O, hO2⟩ : ∃ O, objV keys l = O := ⟨_, rfl⟩
  rw [hO2] at h1 h2 hO hok
  have h3 := same_ok O.1 O.1 hO hO
  rw [cmpV_refl] at h3
  have h4 := get_ok O.1 hO k
  have h5 := rget_ok O.1 hO k
  have hR := getV_fit hO k
  have h6 := same_ok _ _ hR hR
  rw [cmpV_refl] at h6
  obtain ⟨R, hR2⟩ : ∃ R, getV O.1 k = R := ⟨_, rfl⟩
  rw [hR2] at h4 h5 h6
  refine meetsF Try.func6 (by kernel_rfl) cc6 cr6 rfl fun hf => ?_; unfold ck6
  simp only [go_sem, ↓reduceIte, Nat.reduceEqDiff, Nat.reduceBEq, Nat.reduceAdd, Nat.reduceLeDiff, Nat.reduceLT, reduceCtorEq, Nat.reduceMul, Nat.reduceSub, Int.reduceEq, Int.reduceLT, Int.reduceLE, Int.reduceToNat]
  refine gCall.f (fun _ => cv_args rfl (hf0 _ _)) ?_
  simp only [go_sem, ↓reduceIte, Nat.reduceEqDiff, Nat.reduceBEq, Nat.reduceAdd, Nat.reduceLeDiff, Nat.reduceLT, reduceCtorEq, Nat.reduceMul, Nat.reduceSub, Int.reduceEq, Int.reduceLT, Int.reduceLE, Int.reduceToNat]
  refine cdK_of (fun c => ?_) (fun c => ?_)
  · simp only [go_sem, ↓reduceIte, Nat.reduceEqDiff, Nat.reduceBEq, Nat.reduceAdd, Nat.reduceLeDiff, Nat.reduceLT, reduceCtorEq, Nat.reduceMul, Nat.reduceSub, Int.reduceEq, Int.reduceLT, Int.reduceLE, Int.reduceToNat]
    refine vcCall.f (knows_ok _ _) ?_
    simp only [go_sem, ↓reduceIte, Nat.reduceEqDiff, Nat.reduceBEq, Nat.reduceAdd, Nat.reduceLeDiff, Nat.reduceLT, reduceCtorEq, Nat.reduceMul, Nat.reduceSub, Int.reduceEq, Int.reduceLT, Int.reduceLE, Int.reduceToNat]
  simp only [go_sem, ↓reduceIte, Nat.reduceEqDiff, Nat.reduceBEq, Nat.reduceAdd, Nat.reduceLeDiff, Nat.reduceLT, reduceCtorEq, Nat.reduceMul, Nat.reduceSub, Int.reduceEq, Int.reduceLT, Int.reduceLE, Int.reduceToNat]
  refine vcCall.f (h1 _ _) ?_
  simp only [go_sem, ↓reduceIte, Nat.reduceEqDiff, Nat.reduceBEq, Nat.reduceAdd, Nat.reduceLeDiff, Nat.reduceLT, reduceCtorEq, Nat.reduceMul, Nat.reduceSub, Int.reduceEq, Int.reduceLT, Int.reduceLE, Int.reduceToNat]
  refine vcCall.f (h2 _ _) ?_
  simp only [go_sem, ↓reduceIte, Nat.reduceEqDiff, Nat.reduceBEq, Nat.reduceAdd, Nat.reduceLeDiff, Nat.reduceLT, reduceCtorEq, Nat.reduceMul, Nat.reduceSub, Int.reduceEq, Int.reduceLT, Int.reduceLE, Int.reduceToNat]
  refine gCall.f (fun _ => h3 _ _) ?_
  simp only [go_sem, ↓reduceIte, Nat.reduceEqDiff, Nat.reduceBEq, Nat.reduceAdd, Nat.reduceLeDiff, Nat.reduceLT, reduceCtorEq, Nat.reduceMul, Nat.reduceSub, Int.reduceEq, Int.reduceLT, Int.reduceLE, Int.reduceToNat]
  refine vcCall.f (h4 _ _) ?_
  simp only [go_sem, ↓reduceIte, Nat.reduceEqDiff, Nat.reduceBEq, Nat.reduceAdd, Nat.reduceLeDiff, Nat.reduceLT, reduceCtorEq, Nat.reduceMul, Nat.reduceSub, Int.reduceEq, Int.reduceLT, Int.reduceLE, Int.reduceToNat]
  refine vcCall.f (h5 _ _) ?_
  simp only [go_sem, ↓reduceIte, Nat.reduceEqDiff, Nat.reduceBEq, Nat.reduceAdd, Nat.reduceLeDiff, Nat.reduceLT, reduceCtorEq, Nat.reduceMul, Nat.reduceSub, Int.reduceEq, Int.reduceLT, Int.reduceLE, Int.reduceToNat]
  simp only [beq_self_eq_true, go_sem, ↓reduceIte, Nat.reduceEqDiff, Nat.reduceBEq, Nat.reduceAdd, Nat.reduceLeDiff, Nat.reduceLT, reduceCtorEq, Nat.reduceMul, Nat.reduceSub, Int.reduceEq, Int.reduceLT, Int.reduceLE, Int.reduceToNat]
  refine gCall.f (fun _ => h6 _ _) ?_
  simp only [go_sem, ↓reduceIte, Nat.reduceEqDiff, Nat.reduceBEq, Nat.reduceAdd, Nat.reduceLeDiff, Nat.reduceLT, reduceCtorEq, Nat.reduceMul, Nat.reduceSub, Int.reduceEq, Int.reduceLT, Int.reduceLE, Int.reduceToNat]
  refine loop (fun p : Nat × Nat => ⟨[(0, .ds (stC keys)), (1, .ds (mapC valC l)), (7, .bx m 0), (8, .i .i64 O.2), (15, .i .i64 p.1)], (m, .bx [.i .i64 O.1.k, .i .i64 O.1.n, .s O.1.s, .ds (mapC valC O.1.items), .ds (stC O.1.keys)]) :: hp, p.2⟩)
    (fun p => p.1 ≤ keys.length ∧ m + 4 ≤ p.2) (fun p => keys.length - p.1) (0, m + 4) ?_ ?_ (fun ⟨j, n⟩ hj => ?_)
  · exact ⟨by simp, by simp⟩
  · refine weak_ok ?_ (Sub.cons ?_ (Sub.base hf ?_)) (Nat.le_refl _)
    all_goals simp only [go_sem, ↓reduceIte, Nat.reduceEqDiff, Nat.reduceBEq, Nat.reduceAdd, Nat.reduceLeDiff, Nat.reduceLT, reduceCtorEq, Nat.reduceMul, Nat.reduceSub, Int.reduceEq, Int.reduceLT, Int.reduceLE, Int.reduceToNat]
  dsimp only at hj
  obtain ⟨hj1, hj2⟩ := hj
  have z1 : ¬ n = m := by omega
  have z2 : m ≤ n := by omega
  simp only [go_sem, ↓reduceIte, Nat.reduceEqDiff, Nat.reduceBEq, Nat.reduceAdd, Nat.reduceLeDiff, Nat.reduceLT, reduceCtorEq, Nat.reduceMul, Nat.reduceSub, Int.reduceEq, Int.reduceLT, Int.reduceLE, Int.reduceToNat]
  refine cdK_of (fun d => ?_) (fun d => ?_)
  · simp only [Bool.and_eq_true, decide_eq_true_eq] at d
    obtain ⟨d1, d2⟩ := d
    have d1 : j < keys.length := by omega
    obtain ⟨e1, e2, e3⟩ := hok d2
    obtain ⟨x, ex⟩ : ∃ x, keys[j]? = some x := ⟨keys[j], by simp [d1]⟩
    have d3 : j < l.length := by omega
    obtain ⟨y, ey⟩ : ∃ y, l[j]? = some y := ⟨l[j], by simp [d3]⟩
    have hg := get_ok O.1 hO x
    rw [show getV O.1 x = some y by rw [e1]; exact obV_get e2 e3 ex ey] at hg
    have hy := h y (List.mem_of_getElem? ey)
    have hs := same_ok y y hy hy
    rw [cmpV_refl] at hs
    simp only [d1, d3, getK_s (mapC_get st1 ex), z1, z2, go_sem, ↓reduceIte, Nat.reduceEqDiff, Nat.reduceBEq, Nat.reduceAdd, Nat.reduceLeDiff, Nat.reduceLT, reduceCtorEq, Nat.reduceMul, Nat.reduceSub, Int.reduceEq, Int.reduceLT, Int.reduceLE, Int.reduceToNat]
    first | refine dCallR.f (fun _ _ _ => hg _ _) ?_ | refine dCall.f (fun _ _ _ => hg _ _) ?_
    simp only [go_sem, ↓reduceIte, Nat.reduceEqDiff, Nat.reduceBEq, Nat.reduceAdd, Nat.reduceLeDiff, Nat.reduceLT, reduceCtorEq, Nat.reduceMul, Nat.reduceSub, Int.reduceEq, Int.reduceLT, Int.reduceLE, Int.reduceToNat]
    have z3 : ¬ n + 9 = m := by omega
    have z4 : m ≤ n + 9 := by omega
    simp only [d1, d3, mapC_get valC ey, z1, z2, z3, go_sem, ↓reduceIte, Nat.reduceEqDiff, Nat.reduceBEq, Nat.reduceAdd, Nat.reduceLeDiff, Nat.reduceLT, reduceCtorEq, Nat.reduceMul, Nat.reduceSub, Int.reduceEq, Int.reduceLT, Int.reduceLE, Int.reduceToNat]
    first | refine dCallR.f (fun _ _ _ => hs _ _) ?_ | refine dCall.f (fun _ _ _ => hs _ _) ?_
    simp only [go_sem, ↓reduceIte, Nat.reduceEqDiff, Nat.reduceBEq, Nat.reduceAdd, Nat.reduceLeDiff, Nat.reduceLT, reduceCtorEq, Nat.reduceMul, Nat.reduceSub, Int.reduceEq, Int.reduceLT, Int.reduceLE, Int.reduceToNat]
    refine ⟨(j + 1, _), ⟨by dsimp only; omega, by dsimp only; omega⟩, by dsimp only; omega, weak_ok ?_ (Sub.cons ?_ (Sub.base hf ?_)) (Nat.le_refl _)⟩
    all_goals
      simp only [wr64s j (by omega), z1, z2, z3, z4, go_sem, ↓reduceIte, Nat.reduceEqDiff, Nat.reduceBEq, Nat.reduceAdd, Nat.reduceLeDiff, Nat.reduceLT, reduceCtorEq, Nat.reduceMul, Nat.reduceSub, Int.reduceEq, Int.reduceLT, Int.reduceLE, Int.reduceToNat]
  · simp only [go_sem, ↓reduceIte, Nat.reduceEqDiff, Nat.reduceBEq, Nat.reduceAdd, Nat.reduceLeDiff, Nat.reduceLT, reduceCtorEq, Nat.reduceMul, Nat.reduceSub, Int.reduceEq, Int.reduceLT, Int.reduceLE, Int.reduceToNat]
    refine vcCall.f (knows_ok _ _) ?_
    simp only [go_sem, ↓reduceIte, Nat.reduceEqDiff, Nat.reduceBEq, Nat.reduceAdd, Nat.reduceLeDiff, Nat.reduceLT, reduceCtorEq, Nat.reduceMul, Nat.reduceSub, Int.reduceEq, Int.reduceLT, Int.reduceLE, Int.reduceToNat]
end Go.Proofs.Ytaeablbcfkamjaa
