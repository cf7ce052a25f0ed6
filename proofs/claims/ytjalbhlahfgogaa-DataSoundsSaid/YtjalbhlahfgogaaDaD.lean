/-
  The example of chapter 20 holds; the laws about right datasets and lookups return true. Conditions: none.
-/
import Derived.Test.YtjalbhlahfgogaaDaC
namespace Go.Proofs.Ytjalbhlahfgogaa
open Go.Eng
set_option linter.unusedVariables false
set_option linter.unusedSimpArgs false
set_option maxRecDepth 20000
def txV (s : ByteArray) : Val := .mk 3 0 s [] []
theorem text_ok (s : ByteArray) (hp : CH) (m : Nat) : MeetsF Try.prog 30 hp m [.s s] (vx (txV s)) := by
  refine meetsF Try.func30 (by kernel_rfl) cc30 cr30 rfl fun hf => ?_; unfold ck30
  simp only [go_sem, ↓reduceIte, Nat.reduceEqDiff, Nat.reduceBEq, Nat.reduceAdd, Nat.reduceLeDiff, Nat.reduceLT, reduceCtorEq, Nat.reduceMul, Nat.reduceSub, Int.reduceEq, Int.reduceLT, Int.reduceLE, Int.reduceToNat]
  rfl
def exD : Dat := .mk [.mk ⟨#[85, 115, 101, 114]⟩ [.mk ⟨#[110, 97, 109, 101]⟩ ⟨#[]⟩ (txV ⟨#[65, 100, 97]⟩), .mk ⟨#[110, 97, 109, 101]⟩ ⟨#[115, 104, 111, 114, 116, 58, 32, 116, 114, 117, 101]⟩ (txV ⟨#[65]⟩)]] []
theorem tx_fit (s : ByteArray) : (txV s).Fit := .mk _ (by simp [txV, Val.items_mk]) (by simp [txV, Val.keys_mk]) (by simp [txV, Val.items_mk])
theorem exD_fit : exD.Fit := .mk _ (by decide) (by decide) (by simp [exD, Dat.i_mk, Itm.l_mk, Cel.v_mk, tx_fit]) (by simp [exD, Dat.w_mk])
theorem exD_right : rightD exD = true := by decide +kernel
theorem exD_root : fidx (fun x : Itm => decide (x.t = ⟨#[85, 115, 101, 114]⟩)) exD.i 0 = 0 := by decide +kernel
theorem exD_l1 : (lookV exD 0 ⟨#[110, 97, 109, 101]⟩ ⟨#[115, 104, 111, 114, 116, 58, 32, 116, 114, 117, 101]⟩).s = ⟨#[65]⟩ := by decide +kernel
theorem exD_l2 : (lookV exD 0 ⟨#[110, 97, 109, 101]⟩ ⟨#[120, 58, 32, 49]⟩).s = ⟨#[65, 100, 97]⟩ := by decide +kernel
theorem ex20_ok (hp : CH) (m : Nat) : MeetsF Try.prog 11 hp m [] (.b true) := by
  have hR := dRoot_ok exD exD_fit ⟨#[85, 115, 101, 114]⟩
  rw [exD_root] at hR
  have hV := dRight_ok exD exD_fit
  rw [exD_right] at hV
  have h1 := dLookup_ok exD exD_fit 0 ⟨#[110, 97, 109, 101]⟩ ⟨#[115, 104, 111, 114, 116, 58, 32, 116, 114, 117, 101]⟩
  have h2 := dLookup_ok exD exD_fit 0 ⟨#[110, 97, 109, 101]⟩ ⟨#[120, 58, 32, 49]⟩
  refine meetsF Try.func11 (by kernel_rfl) cc11 cr11 rfl fun hf => ?_; unfold ck11
  simp only [go_sem, ↓reduceIte, Nat.reduceEqDiff, Nat.reduceBEq, Nat.reduceAdd, Nat.reduceLeDiff, Nat.reduceLT, reduceCtorEq, Nat.reduceMul, Nat.reduceSub, Int.reduceEq, Int.reduceLT, Int.reduceLE, Int.reduceToNat]
  refine vcCall.f (text_ok _ _ _) ?_
  simp only [go_sem, ↓reduceIte, Nat.reduceEqDiff, Nat.reduceBEq, Nat.reduceAdd, Nat.reduceLeDiff, Nat.reduceLT, reduceCtorEq, Nat.reduceMul, Nat.reduceSub, Int.reduceEq, Int.reduceLT, Int.reduceLE, Int.reduceToNat]
  refine vcCall.f (text_ok _ _ _) ?_
  simp only [go_sem, ↓reduceIte, Nat.reduceEqDiff, Nat.reduceBEq, Nat.reduceAdd, Nat.reduceLeDiff, Nat.reduceLT, reduceCtorEq, Nat.reduceMul, Nat.reduceSub, Int.reduceEq, Int.reduceLT, Int.reduceLE, Int.reduceToNat]
  refine vcCall.q (args' := [dx exD, .s ⟨#[85, 115, 101, 114]⟩]) (hR _ _) (by simp only [go_sem, ↓reduceIte, Nat.reduceEqDiff, Nat.reduceBEq, Nat.reduceAdd, Nat.reduceLeDiff, Nat.reduceLT, reduceCtorEq, Nat.reduceMul, Nat.reduceSub, Int.reduceEq, Int.reduceLT, Int.reduceLE, Int.reduceToNat] <;> rfl) ?_
  simp only [go_sem, ↓reduceIte, Nat.reduceEqDiff, Nat.reduceBEq, Nat.reduceAdd, Nat.reduceLeDiff, Nat.reduceLT, reduceCtorEq, Nat.reduceMul, Nat.reduceSub, Int.reduceEq, Int.reduceLT, Int.reduceLE, Int.reduceToNat]
  refine gCall_t (vcCall.q (args' := [dx exD]) (hV _ _) (by simp only [go_sem, ↓reduceIte, Nat.reduceEqDiff, Nat.reduceBEq, Nat.reduceAdd, Nat.reduceLeDiff, Nat.reduceLT, reduceCtorEq, Nat.reduceMul, Nat.reduceSub, Int.reduceEq, Int.reduceLT, Int.reduceLE, Int.reduceToNat] <;> rfl) ?_)
  simp only [go_sem, ↓reduceIte, Nat.reduceEqDiff, Nat.reduceBEq, Nat.reduceAdd, Nat.reduceLeDiff, Nat.reduceLT, reduceCtorEq, Nat.reduceMul, Nat.reduceSub, Int.reduceEq, Int.reduceLT, Int.reduceLE, Int.reduceToNat]
  refine gCall_t (vcCall.q (args' := [dx exD, .i .i64 0, .s ⟨#[110, 97, 109, 101]⟩, .s ⟨#[115, 104, 111, 114, 116, 58, 32, 116, 114, 117, 101]⟩]) (h1 _ _) (by simp only [go_sem, ↓reduceIte, Nat.reduceEqDiff, Nat.reduceBEq, Nat.reduceAdd, Nat.reduceLeDiff, Nat.reduceLT, reduceCtorEq, Nat.reduceMul, Nat.reduceSub, Int.reduceEq, Int.reduceLT, Int.reduceLE, Int.reduceToNat] <;> rfl) ?_)
  simp only [exD_l1, go_sem, ↓reduceIte, Nat.reduceEqDiff, Nat.reduceBEq, Nat.reduceAdd, Nat.reduceLeDiff, Nat.reduceLT, reduceCtorEq, Nat.reduceMul, Nat.reduceSub, Int.reduceEq, Int.reduceLT, Int.reduceLE, Int.reduceToNat]
  refine gCall_t (vcCall.q (args' := [dx exD, .i .i64 0, .s ⟨#[110, 97, 109, 101]⟩, .s ⟨#[120, 58, 32, 49]⟩]) (h2 _ _) (by simp only [go_sem, ↓reduceIte, Nat.reduceEqDiff, Nat.reduceBEq, Nat.reduceAdd, Nat.reduceLeDiff, Nat.reduceLT, reduceCtorEq, Nat.reduceMul, Nat.reduceSub, Int.reduceEq, Int.reduceLT, Int.reduceLE, Int.reduceToNat] <;> rfl) ?_)
  simp only [exD_l2, go_sem, ↓reduceIte, Nat.reduceEqDiff, Nat.reduceBEq, Nat.reduceAdd, Nat.reduceLeDiff, Nat.reduceLT, reduceCtorEq, Nat.reduceMul, Nat.reduceSub, Int.reduceEq, Int.reduceLT, Int.reduceLE, Int.reduceToNat]
theorem lawRights (d : Dat) (hd : d.Fit) (hp : CH) (m : Nat) : MeetsF Try.prog 3 hp m [dx d] (.b true) := by
  refine meetsF Try.func3 (by kernel_rfl) cc3 cr3 rfl fun hf => ?_; unfold ck3
  simp only [go_sem, ↓reduceIte, Nat.reduceEqDiff, Nat.reduceBEq, Nat.reduceAdd, Nat.reduceLeDiff, Nat.reduceLT, reduceCtorEq, Nat.reduceMul, Nat.reduceSub, Int.reduceEq, Int.reduceLT, Int.reduceLE, Int.reduceToNat]
  refine vcCall.f (large_ok d hd _ _) ?_
  simp only [go_sem, ↓reduceIte, Nat.reduceEqDiff, Nat.reduceBEq, Nat.reduceAdd, Nat.reduceLeDiff, Nat.reduceLT, reduceCtorEq, Nat.reduceMul, Nat.reduceSub, Int.reduceEq, Int.reduceLT, Int.reduceLE, Int.reduceToNat]
  refine cdK_of (fun c => ?_) (fun c => ?_)
  · simp only [go_sem, ↓reduceIte, Nat.reduceEqDiff, Nat.reduceBEq, Nat.reduceAdd, Nat.reduceLeDiff, Nat.reduceLT, reduceCtorEq, Nat.reduceMul, Nat.reduceSub, Int.reduceEq, Int.reduceLT, Int.reduceLE, Int.reduceToNat]
    refine vcCall.f (ex20_ok _ _) ?_
    simp only [go_sem, ↓reduceIte, Nat.reduceEqDiff, Nat.reduceBEq, Nat.reduceAdd, Nat.reduceLeDiff, Nat.reduceLT, reduceCtorEq, Nat.reduceMul, Nat.reduceSub, Int.reduceEq, Int.reduceLT, Int.reduceLE, Int.reduceToNat]
  · simp only [go_sem, ↓reduceIte, Nat.reduceEqDiff, Nat.reduceBEq, Nat.reduceAdd, Nat.reduceLeDiff, Nat.reduceLT, reduceCtorEq, Nat.reduceMul, Nat.reduceSub, Int.reduceEq, Int.reduceLT, Int.reduceLE, Int.reduceToNat]
    first | refine dCallR.f (fun _ _ _ => dRight_ok d hd _ _) ?_ | refine dCall.f (fun _ _ _ => dRight_ok d hd _ _) ?_
    simp only [go_sem, ↓reduceIte, Nat.reduceEqDiff, Nat.reduceBEq, Nat.reduceAdd, Nat.reduceLeDiff, Nat.reduceLT, reduceCtorEq, Nat.reduceMul, Nat.reduceSub, Int.reduceEq, Int.reduceLT, Int.reduceLE, Int.reduceToNat]
    first | refine dCallR.f (fun _ _ _ => rRightD_ok d hd _ _) ?_ | refine dCall.f (fun _ _ _ => rRightD_ok d hd _ _) ?_
    simp only [go_sem, ↓reduceIte, Nat.reduceEqDiff, Nat.reduceBEq, Nat.reduceAdd, Nat.reduceLeDiff, Nat.reduceLT, reduceCtorEq, Nat.reduceMul, Nat.reduceSub, Int.reduceEq, Int.reduceLT, Int.reduceLE, Int.reduceToNat]
    simp only [beq_self_eq_true, go_sem, ↓reduceIte, Nat.reduceEqDiff, Nat.reduceBEq, Nat.reduceAdd, Nat.reduceLeDiff, Nat.reduceLT, reduceCtorEq, Nat.reduceMul, Nat.reduceSub, Int.reduceEq, Int.reduceLT, Int.reduceLE, Int.reduceToNat]
    first | refine dCallR.f (fun _ _ _ => ex20_ok _ _) ?_ | refine dCall.f (fun _ _ _ => ex20_ok _ _) ?_
    simp only [go_sem, ↓reduceIte, Nat.reduceEqDiff, Nat.reduceBEq, Nat.reduceAdd, Nat.reduceLeDiff, Nat.reduceLT, reduceCtorEq, Nat.reduceMul, Nat.reduceSub, Int.reduceEq, Int.reduceLT, Int.reduceLE, Int.reduceToNat]
theorem lawLookups (d : Dat) (hd : d.Fit) (i : Int) (f a name : ByteArray) (hp : CH) (m : Nat) : MeetsF Try.prog 5 hp m [dx d, .ag [.i .i64 i, .s f, .s a], .s name] (.b true) := by
  have hv := lookV_fit hd i f a
  have h1 := dLookup_ok d hd i f a
  have h2 := rLookup_ok d hd i f a
  obtain ⟨R, hR⟩ : ∃ R, lookV d i f a = R := ⟨_, rfl⟩
  rw [hR] at hv h1 h2
  have h3 := dRoot_ok d hd name
  have h4 := rRoot_ok d hd name
  obtain ⟨T, hT⟩ : ∃ T, fidx (fun x : Itm => decide (x.t = name)) d.i 0 = T := ⟨_, rfl⟩
  rw [hT] at h3 h4
  have hc := cmpV_refl R
  refine meetsF Try.func5 (by kernel_rfl) cc5 cr5 rfl fun hf => ?_; unfold ck5
  simp only [go_sem, ↓reduceIte, Nat.reduceEqDiff, Nat.reduceBEq, Nat.reduceAdd, Nat.reduceLeDiff, Nat.reduceLT, reduceCtorEq, Nat.reduceMul, Nat.reduceSub, Int.reduceEq, Int.reduceLT, Int.reduceLE, Int.reduceToNat]
  refine vcCall.f (large_ok d hd _ _) ?_
  simp only [go_sem, ↓reduceIte, Nat.reduceEqDiff, Nat.reduceBEq, Nat.reduceAdd, Nat.reduceLeDiff, Nat.reduceLT, reduceCtorEq, Nat.reduceMul, Nat.reduceSub, Int.reduceEq, Int.reduceLT, Int.reduceLE, Int.reduceToNat]
  refine cdK_of (fun c => ?_) (fun c => ?_)
  · simp only [go_sem, ↓reduceIte, Nat.reduceEqDiff, Nat.reduceBEq, Nat.reduceAdd, Nat.reduceLeDiff, Nat.reduceLT, reduceCtorEq, Nat.reduceMul, Nat.reduceSub, Int.reduceEq, Int.reduceLT, Int.reduceLE, Int.reduceToNat]
    refine vcCall.f (ex20_ok _ _) ?_
    simp only [go_sem, ↓reduceIte, Nat.reduceEqDiff, Nat.reduceBEq, Nat.reduceAdd, Nat.reduceLeDiff, Nat.reduceLT, reduceCtorEq, Nat.reduceMul, Nat.reduceSub, Int.reduceEq, Int.reduceLT, Int.reduceLE, Int.reduceToNat]
  · simp only [go_sem, ↓reduceIte, Nat.reduceEqDiff, Nat.reduceBEq, Nat.reduceAdd, Nat.reduceLeDiff, Nat.reduceLT, reduceCtorEq, Nat.reduceMul, Nat.reduceSub, Int.reduceEq, Int.reduceLT, Int.reduceLE, Int.reduceToNat]
    refine vcCall.f (h3 _ _) ?_
    simp only [go_sem, ↓reduceIte, Nat.reduceEqDiff, Nat.reduceBEq, Nat.reduceAdd, Nat.reduceLeDiff, Nat.reduceLT, reduceCtorEq, Nat.reduceMul, Nat.reduceSub, Int.reduceEq, Int.reduceLT, Int.reduceLE, Int.reduceToNat]
    refine vcCall.f (h4 _ _) ?_
    simp only [go_sem, ↓reduceIte, Nat.reduceEqDiff, Nat.reduceBEq, Nat.reduceAdd, Nat.reduceLeDiff, Nat.reduceLT, reduceCtorEq, Nat.reduceMul, Nat.reduceSub, Int.reduceEq, Int.reduceLT, Int.reduceLE, Int.reduceToNat]
    first | refine dCallR.f (fun _ _ _ => h1 _ _) ?_ | refine dCall.f (fun _ _ _ => h1 _ _) ?_
    simp only [go_sem, ↓reduceIte, Nat.reduceEqDiff, Nat.reduceBEq, Nat.reduceAdd, Nat.reduceLeDiff, Nat.reduceLT, reduceCtorEq, Nat.reduceMul, Nat.reduceSub, Int.reduceEq, Int.reduceLT, Int.reduceLE, Int.reduceToNat]
    first | refine dCallR.f (fun _ _ _ => h2 _ _) ?_ | refine dCall.f (fun _ _ _ => h2 _ _) ?_
    simp only [go_sem, ↓reduceIte, Nat.reduceEqDiff, Nat.reduceBEq, Nat.reduceAdd, Nat.reduceLeDiff, Nat.reduceLT, reduceCtorEq, Nat.reduceMul, Nat.reduceSub, Int.reduceEq, Int.reduceLT, Int.reduceLE, Int.reduceToNat]
    first | refine dCallR.f (fun _ _ _ => same_ok R R hv hv _ _) ?_ | refine dCall.f (fun _ _ _ => same_ok R R hv hv _ _) ?_
    simp only [go_sem, ↓reduceIte, Nat.reduceEqDiff, Nat.reduceBEq, Nat.reduceAdd, Nat.reduceLeDiff, Nat.reduceLT, reduceCtorEq, Nat.reduceMul, Nat.reduceSub, Int.reduceEq, Int.reduceLT, Int.reduceLE, Int.reduceToNat]
    simp only [hc, beq_self_eq_true, go_sem, ↓reduceIte, Nat.reduceEqDiff, Nat.reduceBEq, Nat.reduceAdd, Nat.reduceLeDiff, Nat.reduceLT, reduceCtorEq, Nat.reduceMul, Nat.reduceSub, Int.reduceEq, Int.reduceLT, Int.reduceLE, Int.reduceToNat]
    first | refine dCallR.f (fun _ _ _ => ex20_ok _ _) ?_ | refine dCall.f (fun _ _ _ => ex20_ok _ _) ?_
    simp only [go_sem, ↓reduceIte, Nat.reduceEqDiff, Nat.reduceBEq, Nat.reduceAdd, Nat.reduceLeDiff, Nat.reduceLT, reduceCtorEq, Nat.reduceMul, Nat.reduceSub, Int.reduceEq, Int.reduceLT, Int.reduceLE, Int.reduceToNat]
def it0 : Itm := .mk ⟨#[84]⟩ []
def wr0 : Wri := .mk ⟨#[102]⟩ ⟨#[]⟩ 0 (.mk ⟨#[103]⟩ ⟨#[]⟩ zVal)
theorem rep_snoc {α : Type} (j : Nat) (x : α) : List.replicate j x ++ [x] = List.replicate (j + 1) x := by rw [← List.replicate_succ']
theorem rep_c {α : Type} (c : α → List AV) (j : Nat) (x : α) : mapC c (List.replicate j x) ++ [c x] = c x :: mapC c (List.replicate j x) := by rw [mapC_snoc, rep_snoc, List.replicate_succ, mapC_cons]
theorem lawSizes (a b : Int) (hp : CH) (m : Nat) : MeetsF Try.prog 4 hp m [.i .i64 a, .i .i64 b] (.b true) := by
  refine meetsF Try.func4 (by kernel_rfl) cc4 cr4 rfl fun hf => ?_; unfold ck4
  simp only [go_sem, ↓reduceIte, Nat.reduceEqDiff, Nat.reduceBEq, Nat.reduceAdd, Nat.reduceLeDiff, Nat.reduceLT, reduceCtorEq, Nat.reduceMul, Nat.reduceSub, Int.reduceEq, Int.reduceLT, Int.reduceLE, Int.reduceToNat]
  refine cdK_of (fun c => ?_) (fun c => ?_)
  · simp only [go_sem, ↓reduceIte, Nat.reduceEqDiff, Nat.reduceBEq, Nat.reduceAdd, Nat.reduceLeDiff, Nat.reduceLT, reduceCtorEq, Nat.reduceMul, Nat.reduceSub, Int.reduceEq, Int.reduceLT, Int.reduceLE, Int.reduceToNat]
    refine vcCall.f (ex20_ok _ _) ?_
    simp only [go_sem, ↓reduceIte, Nat.reduceEqDiff, Nat.reduceBEq, Nat.reduceAdd, Nat.reduceLeDiff, Nat.reduceLT, reduceCtorEq, Nat.reduceMul, Nat.reduceSub, Int.reduceEq, Int.reduceLT, Int.reduceLE, Int.reduceToNat]
  simp only [Bool.or_eq_false_iff, decide_eq_false_iff_not] at c
  obtain ⟨⟨⟨c1, c2⟩, c3⟩, c4⟩ := c
  obtain ⟨A, rfl⟩ : ∃ A : Nat, a = A := ⟨a.toNat, by omega⟩
  obtain ⟨B, rfl⟩ : ∃ B : Nat, b = B := ⟨b.toNat, by omega⟩
  simp only [go_sem, ↓reduceIte, Nat.reduceEqDiff, Nat.reduceBEq, Nat.reduceAdd, Nat.reduceLeDiff, Nat.reduceLT, reduceCtorEq, Nat.reduceMul, Nat.reduceSub, Int.reduceEq, Int.reduceLT, Int.reduceLE, Int.reduceToNat]
  refine loop (fun p : Nat × Nat => ⟨[(0, .i .i64 A), (1, .i .i64 B), (5, .bx m 0), (6, .i .i64 p.1)], (m, .bx [.rw (m + 1) p.1 p.1, .e0]) :: (m + 1, .rw p.1 2 (mapC itC (List.replicate p.1 it0))) :: hp, p.2⟩)
    (fun p => p.1 ≤ A ∧ m + 2 ≤ p.2) (fun p => A - p.1) (0, m + 2) ?_ ?_ (fun ⟨j, n⟩ hj => ?_)
  · exact ⟨by simp, by simp⟩
  · refine (weak_b0 (c := m) (i := 0) (m := 2) (gc_same _ _ _) rfl).trans (weak_ok ?_ (Sub.cons ?_ (Sub.cons ?_ (Sub.base hf ?_))) (Nat.le_refl _))
    all_goals simp only [go_sem, ↓reduceIte, Nat.reduceEqDiff, Nat.reduceBEq, Nat.reduceAdd, Nat.reduceLeDiff, Nat.reduceLT, reduceCtorEq, Nat.reduceMul, Nat.reduceSub, Int.reduceEq, Int.reduceLT, Int.reduceLE, Int.reduceToNat]
    all_goals rfl
  dsimp only at hj
  obtain ⟨hj1, hj2⟩ := hj
  have z1 : ¬ n = m := by omega
  have z2 : ¬ n = m + 1 := by omega
  have z3 : m ≤ n := by omega
  simp only [z1, z2, z3, go_sem, ↓reduceIte, Nat.reduceEqDiff, Nat.reduceBEq, Nat.reduceAdd, Nat.reduceLeDiff, Nat.reduceLT, reduceCtorEq, Nat.reduceMul, Nat.reduceSub, Int.reduceEq, Int.reduceLT, Int.reduceLE, Int.reduceToNat]
  refine cdK_of (fun q => ?_) (fun q => ?_)
  · have q : j < A := by simpa using q
    simp only [z1, z2, z3, List.length_replicate, go_sem, ↓reduceIte, Nat.reduceEqDiff, Nat.reduceBEq, Nat.reduceAdd, Nat.reduceLeDiff, Nat.reduceLT, reduceCtorEq, Nat.reduceMul, Nat.reduceSub, Int.reduceEq, Int.reduceLT, Int.reduceLE, Int.reduceToNat]
    refine ⟨by omega, by omega, (j + 1, n), ⟨by dsimp only; omega, hj2⟩, by dsimp only; omega, weak_ok ?_ (Sub.cons ?_ (Sub.cons ?_ (Sub.base hf ?_))) (Nat.le_refl _)⟩
    all_goals
      simp only [z1, z2, z3, wr64s j (by omega), go_sem, ↓reduceIte, Nat.reduceEqDiff, Nat.reduceBEq, Nat.reduceAdd, Nat.reduceLeDiff, Nat.reduceLT, reduceCtorEq, Nat.reduceMul, Nat.reduceSub, Int.reduceEq, Int.reduceLT, Int.reduceLE, Int.reduceToNat]
    exact congrArg _ (rep_c itC j it0)
  · have q : j = A := by simp at q; omega
    subst q
    have z4 : ¬ m = n := by omega
    have z5 : ¬ m + 1 = n := by omega
    simp only [z1, z2, z3, go_sem, ↓reduceIte, Nat.reduceEqDiff, Nat.reduceBEq, Nat.reduceAdd, Nat.reduceLeDiff, Nat.reduceLT, reduceCtorEq, Nat.reduceMul, Nat.reduceSub, Int.reduceEq, Int.reduceLT, Int.reduceLE, Int.reduceToNat]
    refine loop (fun p : Nat × Nat => ⟨[(0, .i .i64 j), (1, .i .i64 B), (5, .bx m 0), (7, .i .i64 p.1)], (m, .bx [.rw (m + 1) j j, .rw n p.1 p.1]) :: (n, .rw p.1 10 (mapC wrC (List.replicate p.1 wr0))) :: (m + 1, .rw j 2 (mapC itC (List.replicate j it0))) :: hp, p.2⟩)
      (fun p => p.1 ≤ B ∧ n + 1 ≤ p.2) (fun p => B - p.1) (0, n + 1) ?_ ?_ (fun ⟨i, n2⟩ hi => ?_)
    · exact ⟨by simp, by simp⟩
    · refine (weak_b0 (c := m) (i := 1) (m := 10) (gc_same _ _ _) rfl).trans (weak_ok ?_ (Sub.cons ?_ (Sub.cons ?_ (Sub.cons ?_ (Sub.base hf ?_)))) (Nat.le_refl _))
      all_goals
        simp only [z1, z2, z3, z4, z5, go_sem, ↓reduceIte, Nat.reduceEqDiff, Nat.reduceBEq, Nat.reduceAdd, Nat.reduceLeDiff, Nat.reduceLT, reduceCtorEq, Nat.reduceMul, Nat.reduceSub, Int.reduceEq, Int.reduceLT, Int.reduceLE, Int.reduceToNat]
      all_goals rfl
    dsimp only at hi
    obtain ⟨hi1, hi2⟩ := hi
    have y1 : ¬ n2 = m := by omega
    have y2 : ¬ n2 = m + 1 := by omega
    have y3 : ¬ n2 = n := by omega
    have y4 : m ≤ n2 := by omega
    simp only [z1, z2, z3, z4, z5, y1, y2, y3, y4, go_sem, ↓reduceIte, Nat.reduceEqDiff, Nat.reduceBEq, Nat.reduceAdd, Nat.reduceLeDiff, Nat.reduceLT, reduceCtorEq, Nat.reduceMul, Nat.reduceSub, Int.reduceEq, Int.reduceLT, Int.reduceLE, Int.reduceToNat]
    refine cdK_of (fun q => ?_) (fun q => ?_)
    · have q : i < B := by simpa using q
      simp only [z1, z2, z3, z4, z5, y1, y2, y3, y4, List.length_replicate, go_sem, ↓reduceIte, Nat.reduceEqDiff, Nat.reduceBEq, Nat.reduceAdd, Nat.reduceLeDiff, Nat.reduceLT, reduceCtorEq, Nat.reduceMul, Nat.reduceSub, Int.reduceEq, Int.reduceLT, Int.reduceLE, Int.reduceToNat]
      refine ⟨by omega, by omega, (i + 1, n2), ⟨by dsimp only; omega, hi2⟩, by dsimp only; omega, weak_ok ?_ (Sub.cons ?_ (Sub.cons ?_ (Sub.cons ?_ (Sub.base hf ?_)))) (Nat.le_refl _)⟩
      all_goals
        simp only [z1, z2, z3, z4, z5, y1, y2, y3, y4, wr64s i (by omega), go_sem, ↓reduceIte, Nat.reduceEqDiff, Nat.reduceBEq, Nat.reduceAdd, Nat.reduceLeDiff, Nat.reduceLT, reduceCtorEq, Nat.reduceMul, Nat.reduceSub, Int.reduceEq, Int.reduceLT, Int.reduceLE, Int.reduceToNat]
      exact congrArg _ (rep_c wrC i wr0)
    · have q : i = B := by simp at q; omega
      subst q
      simp only [z1, z2, z3, z4, z5, y1, y2, y3, y4, go_sem, ↓reduceIte, Nat.reduceEqDiff, Nat.reduceBEq, Nat.reduceAdd, Nat.reduceLeDiff, Nat.reduceLT, reduceCtorEq, Nat.reduceMul, Nat.reduceSub, Int.reduceEq, Int.reduceLT, Int.reduceLE, Int.reduceToNat]
      obtain ⟨D, hD⟩ : ∃ D, D = Dat.mk (List.replicate j it0) (List.replicate i wr0) := ⟨_, rfl⟩
      have hfit : D.Fit := by
        subst hD
        refine .mk _ (by simp [Dat.i_mk]; omega) (by simp [Dat.w_mk]; omega) (fun x hx => ?_) (fun x hx => ?_)
        · simp only [Dat.i_mk] at hx
          rw [List.eq_of_mem_replicate hx]
          exact ⟨by simp [it0, Itm.l_mk], fun c hc => by simp [it0, Itm.l_mk] at hc⟩
        · simp only [Dat.w_mk] at hx
          rw [List.eq_of_mem_replicate hx]
          exact zVal_fit
      have hr : rightD D = (decide ((j : Int) ≤ 512) && decide ((i : Int) ≤ 512)) := by
        have b1 : badI it0 = false := by decide +kernel
        have b2 : badW wr0 = false := by decide +kernel
        have a1 : (List.replicate j it0).any badI = false := by
          rw [List.any_eq_false]
          intro x hx
          rw [List.eq_of_mem_replicate hx, b1]
          simp
        have a2 : (List.replicate i wr0).any badW = false := by
          rw [List.any_eq_false]
          intro x hx
          rw [List.eq_of_mem_replicate hx, b2]
          simp
        rw [rightD, hD]
        simp only [Dat.i_mk, Dat.w_mk, a1, a2, List.length_replicate]
        rw [Bool.eq_iff_iff]
        simp
      have hV := dRight_ok D hfit
      rw [hr] at hV
      refine vcCall.q (args' := [dx D]) (hV _ _) ?_ ?_
      · subst hD
        simp only [z1, z2, z3, z4, z5, go_sem, ↓reduceIte, Nat.reduceEqDiff, Nat.reduceBEq, Nat.reduceAdd, Nat.reduceLeDiff, Nat.reduceLT, reduceCtorEq, Nat.reduceMul, Nat.reduceSub, Int.reduceEq, Int.reduceLT, Int.reduceLE, Int.reduceToNat]
        rw [if_pos (by simp), if_pos (by simp), List.take_of_length_le (by simp), List.take_of_length_le (by simp)]
        rfl
      · simp only [z1, z2, z3, z4, z5, y1, y2, y3, y4, beq_self_eq_true, go_sem, ↓reduceIte, Nat.reduceEqDiff, Nat.reduceBEq, Nat.reduceAdd, Nat.reduceLeDiff, Nat.reduceLT, reduceCtorEq, Nat.reduceMul, Nat.reduceSub, Int.reduceEq, Int.reduceLT, Int.reduceLE, Int.reduceToNat]
        refine gCall_t (vcCall.f (ex20_ok _ _) ?_)
        simp only [z1, z2, z3, z4, z5, y1, y2, y3, y4, go_sem, ↓reduceIte, Nat.reduceEqDiff, Nat.reduceBEq, Nat.reduceAdd, Nat.reduceLeDiff, Nat.reduceLT, reduceCtorEq, Nat.reduceMul, Nat.reduceSub, Int.reduceEq, Int.reduceLT, Int.reduceLE, Int.reduceToNat]
end Go.Proofs.Ytjalbhlahfgogaa
