/-
  The example of chapter 2 holds. Conditions: none.
-/
import Derived.Test.YtaeablbcfkamjaaVbC
namespace Go.Proofs.Ytaeablbcfkamjaa
open Go.Eng
set_option linter.unusedVariables false
set_option linter.unusedSimpArgs false
set_option maxRecDepth 20000
theorem copies_w (l : List Val) (hl : l.length * 80 ≤ 140737488355327) (h : ∀ x ∈ l, x.Fit) (k g len : Nat) (he : l.length = len) (hp : CH) (m : Nat) (hk : gc hp k = .rw g 5 (mapC valC l)) :
    MeetsF Try.prog 43 hp m [.rw k g len] (.ds (mapC valC l)) := by
  subst he
  refine meetsF Try.func43 (by kernel_rfl) cc43 cr43 rfl fun hf => ?_; unfold ck43
  have hkm := rw_lt hf hk
  have q1 : ¬ m = k := by omega
  simp only [hk, q1, go_sem, ↓reduceIte, Nat.reduceEqDiff, Nat.reduceBEq, Nat.reduceAdd, Nat.reduceLeDiff, Nat.reduceLT, reduceCtorEq, Nat.reduceMul, Nat.reduceSub, Int.reduceEq, Int.reduceLT, Int.reduceLE, Int.reduceToNat]
  refine loop (fun p : Nat × Nat => ⟨[(3, .rw m p.1 p.1), (6, .rw k g l.length), (7, .i .i64 l.length), (8, .i .i64 p.1)], (m, .rw p.1 5 (mapC valC (l.take p.1))) :: hp, p.2⟩) (fun p => p.1 ≤ l.length ∧ m + 1 ≤ p.2) (fun p => l.length - p.1) (0, m + 1) ?_ ?_ (fun ⟨j, n⟩ hj => ?_)
  · grind
  · refine (weak_e0 (t := 3) (m := 5) ?_).trans (weak_ok ?_ (Sub.cons ?_ (Sub.base hf ?_)) (Nat.le_refl _))
    all_goals simp only [go_sem, ↓reduceIte, Nat.reduceEqDiff, Nat.reduceBEq, Nat.reduceAdd, Nat.reduceLeDiff, Nat.reduceLT, reduceCtorEq, Nat.reduceMul, Nat.reduceSub, Int.reduceEq, Int.reduceLT, Int.reduceLE, Int.reduceToNat]
  dsimp only at hj
  have hne : n ≠ m := by omega
  have hne' : m ≠ n := by omega
  have hmn : m ≤ n := by omega
  have q2 : ¬ n = k := by omega
  simp only [hne, hne', hmn, hk, q1, q2, go_sem, ↓reduceIte, Nat.reduceEqDiff, Nat.reduceBEq, Nat.reduceAdd, Nat.reduceLeDiff, Nat.reduceLT, reduceCtorEq, Nat.reduceMul, Nat.reduceSub, Int.reduceEq, Int.reduceLT, Int.reduceLE, Int.reduceToNat]
  refine cdK_of (fun c => ?_) (fun c => ?_)
  · have c : j < l.length := by simpa using c
    obtain ⟨x, ex⟩ : ∃ x, l[j]? = some x := ⟨l[j], by simp [c]⟩
    have hx := copy_ok x (h x (List.mem_of_getElem? ex))
    have ht : (l.take j).length = j := by simp; omega
    simp only [hne, hne', hmn, c, hk, q1, q2, List.take_length, getK_s (mapC_get valC ex), go_sem, ↓reduceIte, Nat.reduceEqDiff, Nat.reduceBEq, Nat.reduceAdd, Nat.reduceLeDiff, Nat.reduceLT, reduceCtorEq, Nat.reduceMul, Nat.reduceSub, Int.reduceEq, Int.reduceLT, Int.reduceLE, Int.reduceToNat]
    refine vcCall.f (hx _ _) ?_
    simp only [hne, hne', hmn, ht, go_sem, ↓reduceIte, Nat.reduceEqDiff, Nat.reduceBEq, Nat.reduceAdd, Nat.reduceLeDiff, Nat.reduceLT, reduceCtorEq, Nat.reduceMul, Nat.reduceSub, Int.reduceEq, Int.reduceLT, Int.reduceLE, Int.reduceToNat]
    refine ⟨by omega, by omega, (j + 1, n + 1), by dsimp only; omega, by dsimp only; omega, weak_ok ?_ (Sub.cons ?_ (Sub.base hf ?_)) (Nat.le_refl _)⟩
    all_goals
      simp only [hmn, go_sem, ↓reduceIte, Nat.reduceEqDiff, Nat.reduceBEq, Nat.reduceAdd, Nat.reduceLeDiff, Nat.reduceLT, reduceCtorEq, Nat.reduceMul, Nat.reduceSub, Int.reduceEq, Int.reduceLT, Int.reduceLE, Int.reduceToNat]
    · exact congrArg _ (wr64s j (by omega))
    · rw [take_snoc ex]
  · have c : j = l.length := by simp at c; omega
    subst c
    simp only [hne, hne', hmn, go_sem, ↓reduceIte, Nat.reduceEqDiff, Nat.reduceBEq, Nat.reduceAdd, Nat.reduceLeDiff, Nat.reduceLT, reduceCtorEq, Nat.reduceMul, Nat.reduceSub, Int.reduceEq, Int.reduceLT, Int.reduceLE, Int.reduceToNat]
    try simp
theorem vList_w (l : List Val) (hl : l.length * 80 ≤ 140737488355327) (h : ∀ x ∈ l, x.Fit) (k g len : Nat) (he : l.length = len) (hp : CH) (m : Nat) (hk : gc hp k = .rw g 5 (mapC valC l)) : MeetsF Try.prog 17 hp m [.rw k g len] (vx (liV l)) := by
  subst he
  refine meetsF Try.func17 (by kernel_rfl) cc17 cr17 rfl fun hf => ?_; unfold ck17
  have hkm := rw_lt hf hk
  have q1 : ¬ m = k := by omega
  simp only [go_sem, ↓reduceIte, Nat.reduceEqDiff, Nat.reduceBEq, Nat.reduceAdd, Nat.reduceLeDiff, Nat.reduceLT, reduceCtorEq, Nat.reduceMul, Nat.reduceSub, Int.reduceEq, Int.reduceLT, Int.reduceLE, Int.reduceToNat]
  refine vcCall.f (copies_w l hl h k g _ rfl _ _ ?_) ?_
  · simp only [q1, hk, go_sem, ↓reduceIte, Nat.reduceEqDiff, Nat.reduceBEq, Nat.reduceAdd, Nat.reduceLeDiff, Nat.reduceLT, reduceCtorEq, Nat.reduceMul, Nat.reduceSub, Int.reduceEq, Int.reduceLT, Int.reduceLE, Int.reduceToNat]
  simp only [go_sem, ↓reduceIte, Nat.reduceEqDiff, Nat.reduceBEq, Nat.reduceAdd, Nat.reduceLeDiff, Nat.reduceLT, reduceCtorEq, Nat.reduceMul, Nat.reduceSub, Int.reduceEq, Int.reduceLT, Int.reduceLE, Int.reduceToNat]
  rfl
theorem twice_w (l : List ByteArray) (hl : l.length ≤ 9223372036854775806) (k g len : Nat) (he : l.length = len) (hp : CH) (m : Nat) (hk : gc hp k = .rw g 1 (stC l)) : MeetsF Try.prog 50 hp m [.rw k g len] (.b (tw l)) := by
  subst he
  refine meetsF Try.func50 (by kernel_rfl) cc50 cr50 rfl fun hf => ?_; unfold ck50
  have hkm := rw_lt hf hk
  have q1 : ¬ m = k := by omega
  simp only [hk, q1, go_sem, ↓reduceIte, Nat.reduceEqDiff, Nat.reduceBEq, Nat.reduceAdd, Nat.reduceLeDiff, Nat.reduceLT, reduceCtorEq, Nat.reduceMul, Nat.reduceSub, Int.reduceEq, Int.reduceLT, Int.reduceLE, Int.reduceToNat]
  refine loop (fun p : Nat × Nat => ⟨[(3, .mp m), (7, .rw k g l.length), (8, .i .i64 l.length), (9, .i .i64 p.1)], (m, .mp (tbC (l.take p.1))) :: hp, p.2⟩) (fun p => p.1 ≤ l.length ∧ m + 1 ≤ p.2 ∧ (l.take p.1).Nodup) (fun p => l.length - p.1) (0, m + 1) ?_ ?_ (fun ⟨j, n⟩ hj => ?_)
  · exact ⟨by simp, by simp, by simp⟩
  · refine weak_ok ?_ (Sub.cons ?_ (Sub.base hf ?_)) (Nat.le_refl _)
    all_goals simp only [go_sem, ↓reduceIte, Nat.reduceEqDiff, Nat.reduceBEq, Nat.reduceAdd, Nat.reduceLeDiff, Nat.reduceLT, reduceCtorEq, Nat.reduceMul, Nat.reduceSub, Int.reduceEq, Int.reduceLT, Int.reduceLE, Int.reduceToNat]
    all_goals rfl
  dsimp only at hj
  obtain ⟨hj1, hj2, hj3⟩ := hj
  simp only [go_sem, ↓reduceIte, Nat.reduceEqDiff, Nat.reduceBEq, Nat.reduceAdd, Nat.reduceLeDiff, Nat.reduceLT, reduceCtorEq, Nat.reduceMul, Nat.reduceSub, Int.reduceEq, Int.reduceLT, Int.reduceLE, Int.reduceToNat]
  refine cdK_of (fun c => ?_) (fun c => ?_)
  · have c : j < l.length := by simpa using c
    obtain ⟨x, ex⟩ : ∃ x, l[j]? = some x := ⟨l[j], by simp [c]⟩
    by_cases hx : x ∈ l.take j
    · have := tw_at ex hx
      rw [this]
      simp only [c, hk, q1, List.take_length, getK_s (mapC_get st1 ex), tb_t x _ hx, go_sem, ↓reduceIte, Nat.reduceEqDiff, Nat.reduceBEq, Nat.reduceAdd, Nat.reduceLeDiff, Nat.reduceLT, reduceCtorEq, Nat.reduceMul, Nat.reduceSub, Int.reduceEq, Int.reduceLT, Int.reduceLE, Int.reduceToNat]
    · have hb := tb_put x _ hx
      rw [take_snoc ex] at hb
      simp only [c, hk, q1, List.take_length, getK_s (mapC_get st1 ex), tb_f x _ hx, hb, go_sem, ↓reduceIte, Nat.reduceEqDiff, Nat.reduceBEq, Nat.reduceAdd, Nat.reduceLeDiff, Nat.reduceLT, reduceCtorEq, Nat.reduceMul, Nat.reduceSub, Int.reduceEq, Int.reduceLT, Int.reduceLE, Int.reduceToNat]
      refine ⟨(j + 1, _), ⟨by dsimp only; omega, by dsimp only; omega, by dsimp only; rw [← take_snoc ex]; exact nodup_snoc hj3 hx⟩, by dsimp only; omega, weak_ok ?_ (Sub.cons ?_ (Sub.base hf ?_)) (Nat.le_refl _)⟩
      all_goals
        simp only [wr64s j (by omega), go_sem, ↓reduceIte, Nat.reduceEqDiff, Nat.reduceBEq, Nat.reduceAdd, Nat.reduceLeDiff, Nat.reduceLT, reduceCtorEq, Nat.reduceMul, Nat.reduceSub, Int.reduceEq, Int.reduceLT, Int.reduceLE, Int.reduceToNat]
  · have c : j = l.length := by simp at c; omega
    subst c
    rw [List.take_length] at hj3
    have : tw l = false := by simp [tw, hj3]
    rw [this]
    simp only [go_sem, ↓reduceIte, Nat.reduceEqDiff, Nat.reduceBEq, Nat.reduceAdd, Nat.reduceLeDiff, Nat.reduceLT, reduceCtorEq, Nat.reduceMul, Nat.reduceSub, Int.reduceEq, Int.reduceLT, Int.reduceLE, Int.reduceToNat]
theorem clone_w (l : List ByteArray) (h : l.length * 16 ≤ 140737488355327) (k g len : Nat) (hl : l.length = len) (hp : CH) (m : Nat) (hk : gc hp k = .rw g 1 (stC l)) : MeetsF Try.prog 51 hp m [.rw k g len] (.ds (stC l)) := by
  subst hl
  refine meetsF Try.func51 (by kernel_rfl) cc51 cr51 rfl fun hf => ?_; unfold ck51
  have := rw_lt hf hk
  have z1 : ¬ m = k := by omega
  simp only [hk, z1, go_sem, ↓reduceIte, Nat.reduceEqDiff, Nat.reduceBEq, Nat.reduceAdd, Nat.reduceLeDiff, Nat.reduceLT, reduceCtorEq, Nat.reduceMul, Nat.reduceSub, Int.reduceEq, Int.reduceLT, Int.reduceLE, Int.reduceToNat]
  exact ⟨fun e => by simp at e; subst e; rfl, by omega, by omega⟩
theorem vObject_w (k : List ByteArray) (l : List Val) (hk : k.length * 16 ≤ 140737488355327) (hl : l.length * 80 ≤ 140737488355327) (h : ∀ x ∈ l, x.Fit) (a ga la b gb lb : Nat) (ha : k.length = la) (hb : l.length = lb) (hp : CH) (m : Nat) (h1 : gc hp a = .rw ga 1 (stC k)) (h2 : gc hp b = .rw gb 5 (mapC valC l)) :
    MeetsF Try.prog 25 hp m [.rw a ga la, .rw b gb lb] (resO (objV k l)) := by
  subst ha hb
  obtain ⟨R, hR⟩ : ∃ R, objV k l = R := ⟨_, rfl⟩
  have e := hR
  rw [objV] at e
  rw [hR]
  refine meetsF Try.func25 (by kernel_rfl) cc25 cr25 rfl fun hf => ?_; unfold ck25
  have ham := rw_lt hf h1
  have hbm := rw_lt hf h2
  have q1 : ¬ m = a := by omega
  have q2 : ¬ m = b := by omega
  simp only [h1, h2, q1, q2, go_sem, ↓reduceIte, Nat.reduceEqDiff, Nat.reduceBEq, Nat.reduceAdd, Nat.reduceLeDiff, Nat.reduceLT, reduceCtorEq, Nat.reduceMul, Nat.reduceSub, Int.reduceEq, Int.reduceLT, Int.reduceLE, Int.reduceToNat]
  refine cdK_of (fun c => ?_) (fun c => ?_)
  · have c : k.length ≠ l.length := by simp at c; omega
    rw [if_pos c] at e
    subst e
    simp only [go_sem, ↓reduceIte, Nat.reduceEqDiff, Nat.reduceBEq, Nat.reduceAdd, Nat.reduceLeDiff, Nat.reduceLT, reduceCtorEq, Nat.reduceMul, Nat.reduceSub, Int.reduceEq, Int.reduceLT, Int.reduceLE, Int.reduceToNat]
  have c : ¬ k.length ≠ l.length := by simp at c; omega
  rw [if_neg c] at e
  simp only [go_sem, ↓reduceIte, Nat.reduceEqDiff, Nat.reduceBEq, Nat.reduceAdd, Nat.reduceLeDiff, Nat.reduceLT, reduceCtorEq, Nat.reduceMul, Nat.reduceSub, Int.reduceEq, Int.reduceLT, Int.reduceLE, Int.reduceToNat]
  refine vcCall.f (twice_w k (by omega) a ga _ rfl _ _ ?_) ?_
  · simp only [q1, h1, go_sem, ↓reduceIte, Nat.reduceEqDiff, Nat.reduceBEq, Nat.reduceAdd, Nat.reduceLeDiff, Nat.reduceLT, reduceCtorEq, Nat.reduceMul, Nat.reduceSub, Int.reduceEq, Int.reduceLT, Int.reduceLE, Int.reduceToNat]
  simp only [go_sem, ↓reduceIte, Nat.reduceEqDiff, Nat.reduceBEq, Nat.reduceAdd, Nat.reduceLeDiff, Nat.reduceLT, reduceCtorEq, Nat.reduceMul, Nat.reduceSub, Int.reduceEq, Int.reduceLT, Int.reduceLE, Int.reduceToNat]
  refine cdK_of (fun c2 => ?_) (fun c2 => ?_)
  · rw [if_pos c2] at e
    subst e
    simp only [go_sem, ↓reduceIte, Nat.reduceEqDiff, Nat.reduceBEq, Nat.reduceAdd, Nat.reduceLeDiff, Nat.reduceLT, reduceCtorEq, Nat.reduceMul, Nat.reduceSub, Int.reduceEq, Int.reduceLT, Int.reduceLE, Int.reduceToNat]
  rw [if_neg (by simp [c2])] at e
  subst e
  simp only [go_sem, ↓reduceIte, Nat.reduceEqDiff, Nat.reduceBEq, Nat.reduceAdd, Nat.reduceLeDiff, Nat.reduceLT, reduceCtorEq, Nat.reduceMul, Nat.reduceSub, Int.reduceEq, Int.reduceLT, Int.reduceLE, Int.reduceToNat]
  refine vcCall.f (clone_w k hk a ga _ rfl _ _ ?_) ?_
  · simp only [q1, h1, go_sem, ↓reduceIte, Nat.reduceEqDiff, Nat.reduceBEq, Nat.reduceAdd, Nat.reduceLeDiff, Nat.reduceLT, reduceCtorEq, Nat.reduceMul, Nat.reduceSub, Int.reduceEq, Int.reduceLT, Int.reduceLE, Int.reduceToNat]
  simp only [go_sem, ↓reduceIte, Nat.reduceEqDiff, Nat.reduceBEq, Nat.reduceAdd, Nat.reduceLeDiff, Nat.reduceLT, reduceCtorEq, Nat.reduceMul, Nat.reduceSub, Int.reduceEq, Int.reduceLT, Int.reduceLE, Int.reduceToNat]
  refine vcCall.f (copies_w l hl h b gb _ rfl _ _ ?_) ?_
  · simp only [q2, h2, go_sem, ↓reduceIte, Nat.reduceEqDiff, Nat.reduceBEq, Nat.reduceAdd, Nat.reduceLeDiff, Nat.reduceLT, reduceCtorEq, Nat.reduceMul, Nat.reduceSub, Int.reduceEq, Int.reduceLT, Int.reduceLE, Int.reduceToNat]
  simp only [go_sem, ↓reduceIte, Nat.reduceEqDiff, Nat.reduceBEq, Nat.reduceAdd, Nat.reduceLeDiff, Nat.reduceLT, reduceCtorEq, Nat.reduceMul, Nat.reduceSub, Int.reduceEq, Int.reduceLT, Int.reduceLE, Int.reduceToNat]
  rfl
/-- Empty slices among the arguments. -/
theorem cv_args {P : Program} {f : FuncId} {hp : CH} {n : Nat} {args args' : List AV} {r : AV} (e : cvT hp args = some args') (m : MeetsF P f hp n args' r) : MeetsF P f hp n args r :=
  ⟨m.1, fun h ρ w vs hs ha => m.2 h ρ w vs hs (prel_tp (cvR_rel hs (relL_tp ha) (show cvR _ (.tp args) = some (.tp args') by rw [cvR, e]; rfl)))⟩
theorem leaf_fit {k n : Int} {s : ByteArray} {l : List ByteArray} (hl : l.length ≤ 10) : (Val.mk k n s [] l).Fit := .mk _ (by simp [Val.items_mk]) (by simp [Val.keys_mk]; omega) (by simp [Val.items_mk])
def exK : List ByteArray := [⟨#[98]⟩, ⟨#[97]⟩]
def exO : Val := obV exK [inV 1, inV 2]
def exN : Val := liV [inV 1, liV [inV 2]]
def exS : Val := obV [⟨#[97, 32, 98]⟩] [zVal]
theorem in_fit (n : Int) : (inV n).Fit := leaf_fit (by simp)
theorem li_fit {l : List Val} (h : l.length * 80 ≤ 140737488355327) (hx : ∀ x ∈ l, x.Fit) : (liV l).Fit := .mk _ (by simpa [liV, Val.items_mk] using h) (by simp [liV, Val.keys_mk]) (by simpa [liV, Val.items_mk] using hx)
theorem z_fit : zVal.Fit := leaf_fit (by simp)
theorem exO_fit : exO.Fit := .mk _ (by decide) (by decide) (by simp [exO, obV, Val.items_mk, in_fit])
theorem exN_fit : exN.Fit := li_fit (by decide) (by simp only [List.mem_cons, List.not_mem_nil, or_false, forall_eq_or_imp, forall_eq]; exact ⟨in_fit _, li_fit (by decide) (by simp [in_fit])⟩)
theorem exS_fit : exS.Fit := .mk _ (by decide) (by decide) (by simp [exS, obV, Val.items_mk, z_fit])
theorem leaf_sok {k n : Int} {s : ByteArray} : SOk (Val.mk k n s [] []) := .mk _ (stable_small _ (by simp [Val.keys_mk])) (by simp [Val.items_mk])
theorem exO_sok : SOk exO := .mk _ (stable_small _ (by decide)) (by simp only [exO, obV, Val.items_mk, List.mem_cons, List.not_mem_nil, or_false, forall_eq_or_imp, forall_eq]; exact ⟨leaf_sok, leaf_sok⟩)
theorem exO_obj : objV exK [inV 1, inV 2] = (exO, 0) := by
  rw [objV, if_neg (by simp [exK]), if_neg (by decide +kernel)]
  rfl
theorem exS_obj : objV [⟨#[97, 32, 98]⟩] [zVal] = (exS, 0) := by
  rw [objV, if_neg (by simp), if_neg (by decide +kernel)]
  rfl
theorem exO_sort : (sortV exO).keys = [⟨#[97]⟩, ⟨#[98]⟩] := by decide +kernel
theorem exO_get : getV exO ⟨#[98]⟩ = some (inV 1) := by
  rw [getV, if_pos (by decide +kernel), if_pos (by decide +kernel)]
  have : ix ⟨#[98]⟩ exO.keys 0 = 0 := by decide +kernel
  rw [this]
  rfl
theorem exS_r : rightV false exS = true := by decide +kernel
theorem exS_l : rightV true exS = false := by decide +kernel
theorem exN_s : szV exN = 4 := by decide +kernel
theorem exN_d : dpV exN = 3 := by decide +kernel
theorem ex_cmp : cmpV (liV [inV 1]) (liV [inV 1, inV 1]) = -1 := by decide +kernel
theorem ex_lit : rightV true (.mk 7 0 ⟨#[97]⟩ [] []) = true := by decide +kernel
theorem knows_ok (hp : CH) (m : Nat) : MeetsF Try.prog 11 hp m [] (.b true) := by
  have hO := fun a ga b gb hp m h1 h2 => vObject_w exK [inV 1, inV 2] (by decide) (by decide) (by simp [in_fit]) a ga 2 b gb 2 rfl rfl hp m h1 h2
  rw [exO_obj] at hO
  have hG := fun hp m => get_ok exO exO_fit ⟨#[98]⟩ hp m
  rw [exO_get] at hG
  have hP := fun a ga b gb hp m h1 h2 => vObject_w [⟨#[97, 32, 98]⟩] [zVal] (by decide) (by decide) (by simp [z_fit]) a ga 1 b gb 1 rfl rfl hp m h1 h2
  rw [exS_obj] at hP
  have e1 : (inV 1).n = 1 := rfl
  have hR := vRight_ok exS exS_fit
  rw [exS_r] at hR
  have hL := vLiteral_ok exS exS_fit
  rw [exS_l] at hL
  have hs := vsize_ok exN exN_fit
  rw [exN_s] at hs
  have hd := vdepth_ok exN exN_fit
  rw [exN_d] at hd
  have hc := vcmp_ok (liV [inV 1]) (liV [inV 1, inV 1]) (li_fit (by decide) (by simp [in_fit])) (li_fit (by decide) (by simp [in_fit]))
  rw [ex_cmp] at hc
  have hm := vsame_ok (boV true) (boV true) (leaf_fit (by simp)) (leaf_fit (by simp))
  rw [cmpV_refl] at hm
  have hl := vLiteral_ok (.mk 7 0 ⟨#[97]⟩ [] []) (leaf_fit (by simp))
  rw [ex_lit] at hl
  refine meetsF Try.func11 (by kernel_rfl) cc11 cr11 rfl fun hf => ?_; unfold ck11
  simp only [go_sem, ↓reduceIte, Nat.reduceEqDiff, Nat.reduceBEq, Nat.reduceAdd, Nat.reduceLeDiff, Nat.reduceLT, reduceCtorEq, Nat.reduceMul, Nat.reduceSub, Int.reduceEq, Int.reduceLT, Int.reduceLE, Int.reduceToNat]
  refine vcCall.f (vInt_ok 1 _ _) ?_
  simp only [go_sem, ↓reduceIte, Nat.reduceEqDiff, Nat.reduceBEq, Nat.reduceAdd, Nat.reduceLeDiff, Nat.reduceLT, reduceCtorEq, Nat.reduceMul, Nat.reduceSub, Int.reduceEq, Int.reduceLT, Int.reduceLE, Int.reduceToNat]
  first | refine dCallR.f (fun _ _ _ => vInt_ok 2 _ _) ?_ | refine dCall.f (fun _ _ _ => vInt_ok 2 _ _) ?_
  simp only [go_sem, ↓reduceIte, Nat.reduceEqDiff, Nat.reduceBEq, Nat.reduceAdd, Nat.reduceLeDiff, Nat.reduceLT, reduceCtorEq, Nat.reduceMul, Nat.reduceSub, Int.reduceEq, Int.reduceLT, Int.reduceLE, Int.reduceToNat]
  refine dCallR.f (fun _ hp' hh => vList_w [inV 2] (by decide) (by simp [in_fit]) (m + 3) 0 1 rfl hp' _ (by rw [hh (m + 3) (.inr ⟨2, by simp, rfl⟩), gc_same]; rfl)) ?_
  simp only [go_sem, ↓reduceIte, Nat.reduceEqDiff, Nat.reduceBEq, Nat.reduceAdd, Nat.reduceLeDiff, Nat.reduceLT, reduceCtorEq, Nat.reduceMul, Nat.reduceSub, Int.reduceEq, Int.reduceLT, Int.reduceLE, Int.reduceToNat]
  refine dCallR.f (fun _ hp' hh => vList_w [inV 1, liV [inV 2]] (by decide) (by simp only [List.mem_cons, List.not_mem_nil, or_false, forall_eq_or_imp, forall_eq]; exact ⟨in_fit _, li_fit (by decide) (by simp [in_fit])⟩) (m + 5) 0 2 rfl hp' _ (by rw [hh (m + 5) (.inr ⟨4, by simp, rfl⟩), gc_same]; rfl)) ?_
  simp only [go_sem, ↓reduceIte, Nat.reduceEqDiff, Nat.reduceBEq, Nat.reduceAdd, Nat.reduceLeDiff, Nat.reduceLT, reduceCtorEq, Nat.reduceMul, Nat.reduceSub, Int.reduceEq, Int.reduceLT, Int.reduceLE, Int.reduceToNat]
  first | refine dCallR.f (fun _ _ _ => vInt_ok 2 _ _) ?_ | refine dCall.f (fun _ _ _ => vInt_ok 2 _ _) ?_
  simp only [go_sem, ↓reduceIte, Nat.reduceEqDiff, Nat.reduceBEq, Nat.reduceAdd, Nat.reduceLeDiff, Nat.reduceLT, reduceCtorEq, Nat.reduceMul, Nat.reduceSub, Int.reduceEq, Int.reduceLT, Int.reduceLE, Int.reduceToNat]
  refine dCallR.f (fun _ hp' hh => hO (m + 9) 0 (m + 12) 0 hp' _ (by rw [hh (m + 9) (.inr ⟨0, by simp, rfl⟩), gc_ne _ _ (by omega), gc_same]; rfl) (by rw [hh (m + 12) (.inr ⟨3, by simp, rfl⟩), gc_same]; rfl)) ?_
  simp only [go_sem, ↓reduceIte, Nat.reduceEqDiff, Nat.reduceBEq, Nat.reduceAdd, Nat.reduceLeDiff, Nat.reduceLT, reduceCtorEq, Nat.reduceMul, Nat.reduceSub, Int.reduceEq, Int.reduceLT, Int.reduceLE, Int.reduceToNat]
  refine vcCall.f (sort_ok exO exO_fit exO_sok _ _) ?_
  simp only [go_sem, ↓reduceIte, Nat.reduceEqDiff, Nat.reduceBEq, Nat.reduceAdd, Nat.reduceLeDiff, Nat.reduceLT, reduceCtorEq, Nat.reduceMul, Nat.reduceSub, Int.reduceEq, Int.reduceLT, Int.reduceLE, Int.reduceToNat]
  obtain ⟨S, hS⟩ : ∃ S, sortV exO = S := ⟨_, rfl⟩
  have hk := exO_sort
  rw [hS] at hk ⊢
  refine vcCall.f (hG _ _) ?_
  simp only [go_sem, ↓reduceIte, Nat.reduceEqDiff, Nat.reduceBEq, Nat.reduceAdd, Nat.reduceLeDiff, Nat.reduceLT, reduceCtorEq, Nat.reduceMul, Nat.reduceSub, Int.reduceEq, Int.reduceLT, Int.reduceLE, Int.reduceToNat]
  refine vcCall.f (hP _ 0 _ 0 _ _ ?_ ?_) ?_
  · simp only [go_sem, ↓reduceIte, Nat.reduceEqDiff, Nat.reduceBEq, Nat.reduceAdd, Nat.reduceLeDiff, Nat.reduceLT, reduceCtorEq, Nat.reduceMul, Nat.reduceSub, Int.reduceEq, Int.reduceLT, Int.reduceLE, Int.reduceToNat]
  · simp only [go_sem, ↓reduceIte, Nat.reduceEqDiff, Nat.reduceBEq, Nat.reduceAdd, Nat.reduceLeDiff, Nat.reduceLT, reduceCtorEq, Nat.reduceMul, Nat.reduceSub, Int.reduceEq, Int.reduceLT, Int.reduceLE, Int.reduceToNat]
  simp only [e1, hk, mapC_cons, mapC_nil, List.length_cons, List.length_nil, go_sem, ↓reduceIte, Nat.reduceEqDiff, Nat.reduceBEq, Nat.reduceAdd, Nat.reduceLeDiff, Nat.reduceLT, reduceCtorEq, Nat.reduceMul, Nat.reduceSub, Int.reduceEq, Int.reduceLT, Int.reduceLE, Int.reduceToNat]
  refine gCall.f (fun _ => hR _ _) ?_
  simp only [go_sem, ↓reduceIte, Nat.reduceEqDiff, Nat.reduceBEq, Nat.reduceAdd, Nat.reduceLeDiff, Nat.reduceLT, reduceCtorEq, Nat.reduceMul, Nat.reduceSub, Int.reduceEq, Int.reduceLT, Int.reduceLE, Int.reduceToNat]
  refine gCall.f (fun _ => hL _ _) ?_
  simp only [go_sem, ↓reduceIte, Nat.reduceEqDiff, Nat.reduceBEq, Nat.reduceAdd, Nat.reduceLeDiff, Nat.reduceLT, reduceCtorEq, Nat.reduceMul, Nat.reduceSub, Int.reduceEq, Int.reduceLT, Int.reduceLE, Int.reduceToNat]
  first | refine dCallR.f (fun _ _ _ => hs _ _) ?_ | refine dCall.f (fun _ _ _ => hs _ _) ?_
  simp only [go_sem, ↓reduceIte, Nat.reduceEqDiff, Nat.reduceBEq, Nat.reduceAdd, Nat.reduceLeDiff, Nat.reduceLT, reduceCtorEq, Nat.reduceMul, Nat.reduceSub, Int.reduceEq, Int.reduceLT, Int.reduceLE, Int.reduceToNat]
  first | refine dCallR.f (fun _ _ _ => hd _ _) ?_ | refine dCall.f (fun _ _ _ => hd _ _) ?_
  simp only [go_sem, ↓reduceIte, Nat.reduceEqDiff, Nat.reduceBEq, Nat.reduceAdd, Nat.reduceLeDiff, Nat.reduceLT, reduceCtorEq, Nat.reduceMul, Nat.reduceSub, Int.reduceEq, Int.reduceLT, Int.reduceLE, Int.reduceToNat]
  refine .inl ?_
  refine dCall.f (fun _ hp' hh => vList_w [inV 1] (by decide) (by simp [in_fit]) (m + 35) 0 1 rfl hp' _ (by rw [hh (m + 35) (.inr ⟨10, by simp, rfl⟩), gc_same]; rfl)) ?_
  simp only [go_sem, ↓reduceIte, Nat.reduceEqDiff, Nat.reduceBEq, Nat.reduceAdd, Nat.reduceLeDiff, Nat.reduceLT, reduceCtorEq, Nat.reduceMul, Nat.reduceSub, Int.reduceEq, Int.reduceLT, Int.reduceLE, Int.reduceToNat]
  refine .inl ?_
  refine dCall.f (fun _ hp' hh => vList_w [inV 1, inV 1] (by decide) (by simp [in_fit]) (m + 39) 0 2 rfl hp' _ (by rw [hh (m + 39) (.inr ⟨14, by simp, rfl⟩), gc_same]; rfl)) ?_
  simp only [go_sem, ↓reduceIte, Nat.reduceEqDiff, Nat.reduceBEq, Nat.reduceAdd, Nat.reduceLeDiff, Nat.reduceLT, reduceCtorEq, Nat.reduceMul, Nat.reduceSub, Int.reduceEq, Int.reduceLT, Int.reduceLE, Int.reduceToNat]
  first | refine dCallR.f (fun _ _ _ => hc _ _) ?_ | refine dCall.f (fun _ _ _ => hc _ _) ?_
  simp only [go_sem, ↓reduceIte, Nat.reduceEqDiff, Nat.reduceBEq, Nat.reduceAdd, Nat.reduceLeDiff, Nat.reduceLT, reduceCtorEq, Nat.reduceMul, Nat.reduceSub, Int.reduceEq, Int.reduceLT, Int.reduceLE, Int.reduceToNat]
  first | refine dCallR.f (fun _ _ _ => vBool_ok true _ _) ?_ | refine dCall.f (fun _ _ _ => vBool_ok true _ _) ?_
  simp only [go_sem, ↓reduceIte, Nat.reduceEqDiff, Nat.reduceBEq, Nat.reduceAdd, Nat.reduceLeDiff, Nat.reduceLT, reduceCtorEq, Nat.reduceMul, Nat.reduceSub, Int.reduceEq, Int.reduceLT, Int.reduceLE, Int.reduceToNat]
  refine dCall.f (fun _ _ _ => cv_args rfl (hm _ _)) ?_
  simp only [go_sem, ↓reduceIte, Nat.reduceEqDiff, Nat.reduceBEq, Nat.reduceAdd, Nat.reduceLeDiff, Nat.reduceLT, reduceCtorEq, Nat.reduceMul, Nat.reduceSub, Int.reduceEq, Int.reduceLT, Int.reduceLE, Int.reduceToNat]
  refine dCall.f (fun _ _ _ => cv_args rfl (hl _ _)) ?_
  simp only [go_sem, ↓reduceIte, Nat.reduceEqDiff, Nat.reduceBEq, Nat.reduceAdd, Nat.reduceLeDiff, Nat.reduceLT, reduceCtorEq, Nat.reduceMul, Nat.reduceSub, Int.reduceEq, Int.reduceLT, Int.reduceLE, Int.reduceToNat]
end Go.Proofs.Ytaeablbcfkamjaa
