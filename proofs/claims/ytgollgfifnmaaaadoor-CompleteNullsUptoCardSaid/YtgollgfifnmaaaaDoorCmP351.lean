/-
  The parts CmTB of the proof, in one file. Conditions: none.
-/
import Derived.Test.YtgollgfifnmaaaaDoorCmP350
namespace Go.Proofs.YtgollgfifnmaaaaDoor
open Go.Eng
set_option linter.unusedVariables false
set_option linter.unusedSimpArgs false
set_option maxRecDepth 20000
set_option maxHeartbeats 1000000
def FtK (doc : List Dfn) (v : Val) : Prop := ∀ (tn : ByteArray) (tw : List Int) (picks : List Pk), tw.length ≤ 1000000000000 → PFit picks → ∀ hp m, MeetsF Tryd.prog 22 hp m [docx doc, rfx tn tw, vx v, .ds (mapC pkC picks)] (.b (fitV doc v tn tw picks))
noncomputable def shpC (v : Val) (n' : Nat) : Option Nat → Bool
  | none => false
  | some n => decide (v.k = 6) && (decide (n = v.keys.length) && decide (n = n'))
theorem shpB_eq (v : Val) (fs : List FFn) (on : ByteArray) (picks : List Pk) : shpB v fs on picks = shpC v fs.length (shpR on v.keys fs picks 0) := by
  unfold shpB shpC
  cases shpR on v.keys fs picks 0 <;> rfl
def ShK (doc : List Dfn) (v : Val) : Prop := ∀ (on : ByteArray) (picks : List Pk), PFit picks → ∀ hp m, MeetsF Tryd.prog 52 hp m [docx doc, .s on, vx v, .ds (mapC pkC picks)] (.b (shpB v (v.items.map (fitV doc)) on picks))
theorem shaped_of (doc : List Dfn) (v : Val) (hv : v.Fit) (h : ∀ x ∈ v.items, FtK doc x) : ShK doc v := by
  intro on picks hpk hp m
  have hlen := hpk.len
  have li := hv.i
  have lk := hv.l
  rw [shpB_eq]
  have hfl : (v.items.map (fitV doc)).length = v.items.length := by simp
  rw [hfl]
  obtain ⟨fs, hfs⟩ : ∃ fs, v.items.map (fitV doc) = fs := ⟨_, rfl⟩
  rw [hfs] at hfl ⊢
  obtain ⟨R, hR⟩ : ∃ R, shpC v v.items.length (shpR on v.keys fs picks 0) = R := ⟨_, rfl⟩
  rw [hR]
  refine meetsF Tryd.func52 (by kernel_rfl) cc52 cr52 rfl fun hf => ?_; unfold ck52
  simp only [go_sem, ↓reduceIte, Nat.reduceEqDiff, Nat.reduceBEq, Nat.reduceAdd, Nat.reduceLeDiff, Nat.reduceLT, reduceCtorEq, Nat.reduceMul, Nat.reduceSub, Int.reduceEq, Int.reduceLT, Int.reduceLE, Int.reduceToNat]
  refine loop (fun p : (Nat × Nat) × Nat => ⟨[(1, .s on), (3, .ds (mapC pkC picks)), (4, .bx m 0), (6, .bx (m + 1) 0), (9, .i .i64 p.1.2), (10, .i .i64 p.1.1)], (m, .bx [.ds (mapC dfC doc)]) :: (m + 1, .bx [.i .i64 v.k, .i .i64 v.n, .s v.s, .ds (mapC valC v.items), .ds (stC v.keys)]) :: hp, p.2⟩)
    (fun p => p.1.1 ≤ picks.length ∧ p.1.2 ≤ p.1.1 ∧ m + 2 ≤ p.2 ∧ R = shpC v v.items.length (shpR on v.keys fs (picks.drop p.1.1) p.1.2)) (fun p => picks.length - p.1.1) ((0, 0), m + 2) ?_ ?_ (fun ⟨⟨j, a⟩, k⟩ hj => ?_)
  · exact ⟨by simp, by simp, by simp, hR.symm⟩
  · refine weak_ok ?_ (Sub.cons ?_ (Sub.cons ?_ (Sub.base hf ?_))) (Nat.le_refl _)
    all_goals (simp (disch := omega) only [ite_ne, go_sem, ↓reduceIte, Nat.reduceEqDiff, Nat.reduceBEq, Nat.reduceAdd, Nat.reduceLeDiff, Nat.reduceLT, reduceCtorEq, Nat.reduceMul, Nat.reduceSub, Int.reduceEq, Int.reduceLT, Int.reduceLE, Int.reduceToNat])
  dsimp only at hj
  obtain ⟨hj1, hj2, hj3, hj4⟩ := hj
  simp (disch := omega) only [ite_ne, go_sem, ↓reduceIte, Nat.reduceEqDiff, Nat.reduceBEq, Nat.reduceAdd, Nat.reduceLeDiff, Nat.reduceLT, reduceCtorEq, Nat.reduceMul, Nat.reduceSub, Int.reduceEq, Int.reduceLT, Int.reduceLE, Int.reduceToNat]
  refine cdK_of (fun q => ?_) (fun q => ?_)
  · have q : j < picks.length := by simpa using q
    obtain ⟨p, ex⟩ : ∃ p, picks[j]? = some p := ⟨picks[j], by simp [q]⟩
    have hpm := List.mem_of_getElem? ex
    rw [drop_at ex, shpR] at hj4
    simp (disch := omega) only [ite_ne, q, getK_s (mapC_get pkC ex), go_sem, ↓reduceIte, Nat.reduceEqDiff, Nat.reduceBEq, Nat.reduceAdd, Nat.reduceLeDiff, Nat.reduceLT, reduceCtorEq, Nat.reduceMul, Nat.reduceSub, Int.reduceEq, Int.reduceLT, Int.reduceLE, Int.reduceToNat]
    refine cdK_of (fun c1 => ?_) (fun c1 => ?_)
    · have c1 : ¬ p.on = on := by simpa using c1
      rw [if_neg c1] at hj4
      simp (disch := omega) only [ite_ne, go_sem, ↓reduceIte, Nat.reduceEqDiff, Nat.reduceBEq, Nat.reduceAdd, Nat.reduceLeDiff, Nat.reduceLT, reduceCtorEq, Nat.reduceMul, Nat.reduceSub, Int.reduceEq, Int.reduceLT, Int.reduceLE, Int.reduceToNat]
      refine ⟨((j + 1, a), _), ⟨by dsimp only; omega, by dsimp only; omega, by dsimp only; omega, hj4⟩, by dsimp only; omega, weak_ok ?_ (Sub.cons ?_ (Sub.cons ?_ (Sub.base hf ?_))) (Nat.le_refl _)⟩
      all_goals
        simp (disch := omega) only [ite_ne, wr64s j (by omega), wr64s a (by omega), go_sem, ↓reduceIte, Nat.reduceEqDiff, Nat.reduceBEq, Nat.reduceAdd, Nat.reduceLeDiff, Nat.reduceLT, reduceCtorEq, Nat.reduceMul, Nat.reduceSub, Int.reduceEq, Int.reduceLT, Int.reduceLE, Int.reduceToNat]
    have c1 : p.on = on := by simpa using c1
    rw [if_pos c1] at hj4
    by_cases ca : a < v.keys.length ∧ a < v.items.length
    · obtain ⟨ca1, ca2⟩ := ca
      obtain ⟨y, ey⟩ : ∃ y, v.keys[a]? = some y := ⟨v.keys[a], by simp [ca1]⟩
      obtain ⟨x, exx⟩ : ∃ x, v.items[a]? = some x := ⟨v.items[a], by simp [ca2]⟩
      have hx := h x (List.mem_of_getElem? exx) p.tn p.tw p.picks (hpk.t hpm) (hpk.x hpm)
      have ef : fs[a]? = some (fitV doc x) := by rw [← hfs, List.getElem?_map, exx]; rfl
      have b1 : ((v.keys.length : Int) ≤ (a : Int)) = False := eq_false (by omega)
      have b2 : ((v.items.length : Int) ≤ (a : Int)) = False := eq_false (by omega)
      obtain ⟨r, hr⟩ : ∃ r, fitV doc x p.tn p.tw p.picks = r := ⟨_, rfl⟩
      simp only [ey, List.getD_eq_getElem?_getD, ef, Option.getD_some, hr] at hj4
      rw [hr] at hx
      by_cases ck : y = p.key
      · subst ck
        simp (disch := omega) only [ite_ne, q, b1, b2, ca1, ca2, getK_s (mapC_get pkC ex), getK_s (mapC_get st1 ey), getK_s (mapC_get valC exx), mapC_get pkC ex, mapC_get st1 ey, mapC_get valC exx, go_sem, ↓reduceIte, Nat.reduceEqDiff, Nat.reduceBEq, Nat.reduceAdd, Nat.reduceLeDiff, Nat.reduceLT, reduceCtorEq, Nat.reduceMul, Nat.reduceSub, Int.reduceEq, Int.reduceLT, Int.reduceLE, Int.reduceToNat]
        refine dCall.f (fun _ hp' e => hx _ _) ?_
        simp (disch := omega) only [ite_ne, b1, b2, go_sem, ↓reduceIte, Nat.reduceEqDiff, Nat.reduceBEq, Nat.reduceAdd, Nat.reduceLeDiff, Nat.reduceLT, reduceCtorEq, Nat.reduceMul, Nat.reduceSub, Int.reduceEq, Int.reduceLT, Int.reduceLE, Int.reduceToNat]
        refine cdK_of (fun c2 => ?_) (fun c2 => ?_)
        · have c2 : r = false := by simpa using c2
          subst c2
          rw [if_neg (fun hh => by cases hh.2.2.2)] at hj4
          have : R = false := hj4
          subst this
          simp (disch := omega) only [ite_ne, go_sem, ↓reduceIte, Nat.reduceEqDiff, Nat.reduceBEq, Nat.reduceAdd, Nat.reduceLeDiff, Nat.reduceLT, reduceCtorEq, Nat.reduceMul, Nat.reduceSub, Int.reduceEq, Int.reduceLT, Int.reduceLE, Int.reduceToNat]
        · have c2 : r = true := by simpa using c2
          subst c2
          rw [if_pos ⟨ca1, by omega, rfl, rfl⟩] at hj4
          simp (disch := omega) only [ite_ne, go_sem, ↓reduceIte, Nat.reduceEqDiff, Nat.reduceBEq, Nat.reduceAdd, Nat.reduceLeDiff, Nat.reduceLT, reduceCtorEq, Nat.reduceMul, Nat.reduceSub, Int.reduceEq, Int.reduceLT, Int.reduceLE, Int.reduceToNat]
          refine ⟨((j + 1, a + 1), _), ⟨by dsimp only; omega, by dsimp only; omega, by dsimp only; omega, hj4⟩, by dsimp only; omega, weak_ok ?_ (Sub.cons ?_ (Sub.cons ?_ (Sub.base hf ?_))) (Nat.le_refl _)⟩
          all_goals
            simp (disch := omega) only [ite_ne, wr64s j (by omega), wr64s a (by omega), go_sem, ↓reduceIte, Nat.reduceEqDiff, Nat.reduceBEq, Nat.reduceAdd, Nat.reduceLeDiff, Nat.reduceLT, reduceCtorEq, Nat.reduceMul, Nat.reduceSub, Int.reduceEq, Int.reduceLT, Int.reduceLE, Int.reduceToNat]
      · have ckd : decide (y = p.key) = false := decide_eq_false ck
        rw [if_neg (fun hh => ck (by simpa using hh.2.2.1))] at hj4
        have : R = false := hj4
        subst this
        simp (disch := omega) only [ite_ne, q, b1, b2, ca1, ca2, ckd, getK_s (mapC_get pkC ex), getK_s (mapC_get st1 ey), getK_s (mapC_get valC exx), mapC_get pkC ex, mapC_get st1 ey, mapC_get valC exx, go_sem, ↓reduceIte, Nat.reduceEqDiff, Nat.reduceBEq, Nat.reduceAdd, Nat.reduceLeDiff, Nat.reduceLT, reduceCtorEq, Nat.reduceMul, Nat.reduceSub, Int.reduceEq, Int.reduceLT, Int.reduceLE, Int.reduceToNat]
        refine dCall.f (r := .b true) (fun h => by cases h) ?_
        simp (disch := omega) only [ite_ne, go_sem, ↓reduceIte, Nat.reduceEqDiff, Nat.reduceBEq, Nat.reduceAdd, Nat.reduceLeDiff, Nat.reduceLT, reduceCtorEq, Nat.reduceMul, Nat.reduceSub, Int.reduceEq, Int.reduceLT, Int.reduceLE, Int.reduceToNat]
    · rw [if_neg (fun hh => ca ⟨hh.1, by have := hh.2.1; omega⟩)] at hj4
      have : R = false := hj4
      subst this
      have bb : (decide ((v.keys.length : Int) ≤ (a : Int)) || decide ((v.items.length : Int) ≤ (a : Int))) = true := by
        simp only [Bool.or_eq_true, decide_eq_true_eq]
        omega
      cases eK : v.keys[a]? with
      | none =>
        have gK : (mapC st1 v.keys)[a]? = none := List.getElem?_eq_none (by rw [mapC_len]; exact List.getElem?_eq_none_iff.1 eK)
        cases eI : v.items[a]? with
        | none =>
          have gI : (mapC valC v.items)[a]? = none := List.getElem?_eq_none (by rw [mapC_len]; exact List.getElem?_eq_none_iff.1 eI)
          simp (disch := omega) only [ite_ne, q, bb, gK, gI, mapC_get pkC ex, pkC_eq, go_sem, ↓reduceIte, Nat.reduceEqDiff, Nat.reduceBEq, Nat.reduceAdd, Nat.reduceLeDiff, Nat.reduceLT, reduceCtorEq, Nat.reduceMul, Nat.reduceSub, Int.reduceEq, Int.reduceLT, Int.reduceLE, Int.reduceToNat]
          refine dCall.f (r := .b true) (fun h => by cases h) ?_
          simp (disch := omega) only [ite_ne, go_sem, ↓reduceIte, Nat.reduceEqDiff, Nat.reduceBEq, Nat.reduceAdd, Nat.reduceLeDiff, Nat.reduceLT, reduceCtorEq, Nat.reduceMul, Nat.reduceSub, Int.reduceEq, Int.reduceLT, Int.reduceLE, Int.reduceToNat]
        | some x =>
          simp (disch := omega) only [ite_ne, q, bb, gK, mapC_get valC eI, mapC_get pkC ex, pkC_eq, go_sem, ↓reduceIte, Nat.reduceEqDiff, Nat.reduceBEq, Nat.reduceAdd, Nat.reduceLeDiff, Nat.reduceLT, reduceCtorEq, Nat.reduceMul, Nat.reduceSub, Int.reduceEq, Int.reduceLT, Int.reduceLE, Int.reduceToNat]
          refine dCall.f (r := .b true) (fun h => by cases h) ?_
          simp (disch := omega) only [ite_ne, go_sem, ↓reduceIte, Nat.reduceEqDiff, Nat.reduceBEq, Nat.reduceAdd, Nat.reduceLeDiff, Nat.reduceLT, reduceCtorEq, Nat.reduceMul, Nat.reduceSub, Int.reduceEq, Int.reduceLT, Int.reduceLE, Int.reduceToNat]
      | some y =>
        cases eI : v.items[a]? with
        | none =>
          have gI : (mapC valC v.items)[a]? = none := List.getElem?_eq_none (by rw [mapC_len]; exact List.getElem?_eq_none_iff.1 eI)
          simp (disch := omega) only [ite_ne, q, bb, mapC_get st1 eK, gI, mapC_get pkC ex, pkC_eq, go_sem, ↓reduceIte, Nat.reduceEqDiff, Nat.reduceBEq, Nat.reduceAdd, Nat.reduceLeDiff, Nat.reduceLT, reduceCtorEq, Nat.reduceMul, Nat.reduceSub, Int.reduceEq, Int.reduceLT, Int.reduceLE, Int.reduceToNat]
          refine dCall.f (r := .b true) (fun h => by cases h) ?_
          simp (disch := omega) only [ite_ne, go_sem, ↓reduceIte, Nat.reduceEqDiff, Nat.reduceBEq, Nat.reduceAdd, Nat.reduceLeDiff, Nat.reduceLT, reduceCtorEq, Nat.reduceMul, Nat.reduceSub, Int.reduceEq, Int.reduceLT, Int.reduceLE, Int.reduceToNat]
        | some x =>
          exact absurd ⟨(List.getElem?_eq_some_iff.1 eK).1, (List.getElem?_eq_some_iff.1 eI).1⟩ ca
  · have q : j = picks.length := by simp at q; omega
    subst q
    rw [List.drop_length, shpR, shpC] at hj4
    have e1 : ((a : Int) = (v.keys.length : Int)) = (a = v.keys.length) := by rw [Int.natCast_inj]
    have e2 : ((a : Int) = (v.items.length : Int)) = (a = v.items.length) := by rw [Int.natCast_inj]
    simp (disch := omega) only [ite_ne, e1, e2, go_sem, ↓reduceIte, Nat.reduceEqDiff, Nat.reduceBEq, Nat.reduceAdd, Nat.reduceLeDiff, Nat.reduceLT, reduceCtorEq, Nat.reduceMul, Nat.reduceSub, Int.reduceEq, Int.reduceLT, Int.reduceLE, Int.reduceToNat]
    rw [hj4, Bool.and_assoc]
theorem fits_of (doc : List Dfn) (hd : DocOk doc) (v : Val) (hv : v.Fit) (h : ∀ x ∈ v.items, FtK doc x) (hs : ShK doc v) : FtK doc v := by
  intro tn tw picks htw hpk hp m
  have li := hv.i
  have lk := hv.l
  rw [fitV_eq, fitB]
  have hfl : (v.items.map (fitV doc)).length = v.items.length := by simp
  have hIn := rInner_ok tn tw htw
  have hNN := rIsNN_ok tn tw htw
  have hinl := innW_len tw
  have hPo := pos_ok doc hd tn
  have hpl := posL_len doc tn
  have hdl := hd.len
  have hsh := fun on => hs on picks hpk
  have hfx : ∀ x ∈ v.items, ∀ hp m, MeetsF Tryd.prog 22 hp m [docx doc, rfx tn (innW tw), vx x, .ds (mapC pkC picks)] (.b (fitV doc x tn (innW tw) picks)) := fun x hx => h x hx tn (innW tw) picks (by omega) hpk
  have hall : ∀ f ∈ v.items.map (fitV doc), ∃ x ∈ v.items, f = fitV doc x := fun f hf => by obtain ⟨x, hx, rfl⟩ := List.mem_map.1 hf; exact ⟨x, hx, rfl⟩
  obtain ⟨fs, hfs⟩ : ∃ fs, v.items.map (fitV doc) = fs := ⟨_, rfl⟩
  rw [hfs] at hfl hsh ⊢
  obtain ⟨R, hR⟩ : ∃ R, (if v.k = 0 then !nnW tw else if lstW tw = true then fs.all (fun f => f tn (innW tw) picks) && (decide (v.k = 5) && decide (v.keys.length = 0)) else if leafB doc tn = true then decide (fs.length = 0) && (decide (1 ≤ v.k) && decide (v.k ≤ 4)) else (posL doc tn).any fun on => shpB v fs on picks) = R := ⟨_, rfl⟩
  rw [hR]
  refine meetsF Tryd.func22 (by kernel_rfl) cc22 cr22 rfl fun hf => ?_; unfold ck22
  simp only [go_sem, ↓reduceIte, Nat.reduceEqDiff, Nat.reduceBEq, Nat.reduceAdd, Nat.reduceLeDiff, Nat.reduceLT, reduceCtorEq, Nat.reduceMul, Nat.reduceSub, Int.reduceEq, Int.reduceLT, Int.reduceLE, Int.reduceToNat]
  refine cdK_of (fun c0 => ?_) (fun c0 => ?_)
  · have c0 : v.k = 0 := by simpa using c0
    rw [if_pos c0] at hR
    subst hR
    simp (disch := omega) only [ite_ne, go_sem, ↓reduceIte, Nat.reduceEqDiff, Nat.reduceBEq, Nat.reduceAdd, Nat.reduceLeDiff, Nat.reduceLT, reduceCtorEq, Nat.reduceMul, Nat.reduceSub, Int.reduceEq, Int.reduceLT, Int.reduceLE, Int.reduceToNat]
    refine vcCall.f (hNN _ _) ?_
    simp (disch := omega) only [ite_ne, go_sem, ↓reduceIte, Nat.reduceEqDiff, Nat.reduceBEq, Nat.reduceAdd, Nat.reduceLeDiff, Nat.reduceLT, reduceCtorEq, Nat.reduceMul, Nat.reduceSub, Int.reduceEq, Int.reduceLT, Int.reduceLE, Int.reduceToNat]
  have c0 : ¬ v.k = 0 := by simpa using c0
  rw [if_neg c0] at hR
  by_cases cl : lstW tw = true
  · rw [if_pos cl] at hR hIn
    simp (disch := omega) only [ite_ne, go_sem, ↓reduceIte, Nat.reduceEqDiff, Nat.reduceBEq, Nat.reduceAdd, Nat.reduceLeDiff, Nat.reduceLT, reduceCtorEq, Nat.reduceMul, Nat.reduceSub, Int.reduceEq, Int.reduceLT, Int.reduceLE, Int.reduceToNat]
    refine vcCall.f (hIn _ _) ?_
    simp (disch := omega) only [ite_ne, go_sem, ↓reduceIte, Nat.reduceEqDiff, Nat.reduceBEq, Nat.reduceAdd, Nat.reduceLeDiff, Nat.reduceLT, reduceCtorEq, Nat.reduceMul, Nat.reduceSub, Int.reduceEq, Int.reduceLT, Int.reduceLE, Int.reduceToNat]
    refine loop (fun p : Nat × Nat => ⟨[(3, .ds (mapC pkC picks)), (4, .bx m 0), (6, .bx (m + 2) 0), (9, .bx (m + 3) 0), (11, .i .i64 p.1)], (m + 3, .bx [.s tn, .ds (mapC in1 (innW tw))]) :: (m, .bx [.ds (mapC dfC doc)]) :: (m + 2, .bx [.i .i64 v.k, .i .i64 v.n, .s v.s, .ds (mapC valC v.items), .ds (stC v.keys)]) :: hp, p.2⟩)
      (fun p => p.1 ≤ v.items.length ∧ m + 4 ≤ p.2 ∧ ((fs.take p.1).all fun f => f tn (innW tw) picks) = true) (fun p => v.items.length - p.1) (0, m + 4) ?_ ?_ (fun ⟨j, k⟩ hj => ?_)
    · exact ⟨by simp, by simp, by simp⟩
    · refine weak_ok ?_ (Sub.cons ?_ (Sub.cons ?_ (Sub.cons ?_ (Sub.base hf ?_)))) (Nat.le_refl _)
      all_goals (simp (disch := omega) only [ite_ne, go_sem, ↓reduceIte, Nat.reduceEqDiff, Nat.reduceBEq, Nat.reduceAdd, Nat.reduceLeDiff, Nat.reduceLT, reduceCtorEq, Nat.reduceMul, Nat.reduceSub, Int.reduceEq, Int.reduceLT, Int.reduceLE, Int.reduceToNat])
    dsimp only at hj
    obtain ⟨hj1, hj2, hj3⟩ := hj
    simp (disch := omega) only [ite_ne, go_sem, ↓reduceIte, Nat.reduceEqDiff, Nat.reduceBEq, Nat.reduceAdd, Nat.reduceLeDiff, Nat.reduceLT, reduceCtorEq, Nat.reduceMul, Nat.reduceSub, Int.reduceEq, Int.reduceLT, Int.reduceLE, Int.reduceToNat]
    refine cdK_of (fun q => ?_) (fun q => ?_)
    · have q : j < v.items.length := by simpa using q
      obtain ⟨x, ex⟩ : ∃ x, v.items[j]? = some x := ⟨v.items[j], by simp [q]⟩
      have ef : fs[j]? = some (fitV doc x) := by rw [← hfs, List.getElem?_map, ex]; rfl
      have hx := hfx x (List.mem_of_getElem? ex)
      obtain ⟨r, hr⟩ : ∃ r, fitV doc x tn (innW tw) picks = r := ⟨_, rfl⟩
      rw [hr] at hx
      simp (disch := omega) only [ite_ne, q, getK_s (mapC_get valC ex), go_sem, ↓reduceIte, Nat.reduceEqDiff, Nat.reduceBEq, Nat.reduceAdd, Nat.reduceLeDiff, Nat.reduceLT, reduceCtorEq, Nat.reduceMul, Nat.reduceSub, Int.reduceEq, Int.reduceLT, Int.reduceLE, Int.reduceToNat]
      refine dCallR.f (fun _ hp' e => hx _ _) ?_
      simp (disch := omega) only [ite_ne, go_sem, ↓reduceIte, Nat.reduceEqDiff, Nat.reduceBEq, Nat.reduceAdd, Nat.reduceLeDiff, Nat.reduceLT, reduceCtorEq, Nat.reduceMul, Nat.reduceSub, Int.reduceEq, Int.reduceLT, Int.reduceLE, Int.reduceToNat]
      refine cdK_of (fun c2 => ?_) (fun c2 => ?_)
      · have c2 : r = false := by simpa using c2
        subst c2
        have hno : (fs.all fun f => f tn (innW tw) picks) = false := by
          rw [Bool.eq_false_iff]
          intro hh
          have := List.all_eq_true.1 hh _ (List.mem_of_getElem? ef)
          rw [hr] at this
          cases this
        rw [hno, Bool.false_and] at hR
        subst hR
        simp (disch := omega) only [ite_ne, go_sem, ↓reduceIte, Nat.reduceEqDiff, Nat.reduceBEq, Nat.reduceAdd, Nat.reduceLeDiff, Nat.reduceLT, reduceCtorEq, Nat.reduceMul, Nat.reduceSub, Int.reduceEq, Int.reduceLT, Int.reduceLE, Int.reduceToNat]
      · have c2 : r = true := by simpa using c2
        subst c2
        simp (disch := omega) only [ite_ne, go_sem, ↓reduceIte, Nat.reduceEqDiff, Nat.reduceBEq, Nat.reduceAdd, Nat.reduceLeDiff, Nat.reduceLT, reduceCtorEq, Nat.reduceMul, Nat.reduceSub, Int.reduceEq, Int.reduceLT, Int.reduceLE, Int.reduceToNat]
        refine ⟨(j + 1, _), ⟨by dsimp only; omega, by dsimp only; omega, ?_⟩, by dsimp only; omega, weak_ok ?_ (Sub.cons ?_ (Sub.cons ?_ (Sub.cons ?_ (Sub.base hf ?_)))) (Nat.le_refl _)⟩
        · rw [← take_snoc ef, List.all_append, hj3, Bool.true_and]
          simp [hr]
        all_goals
          simp (disch := omega) only [ite_ne, wr64s j (by omega), go_sem, ↓reduceIte, Nat.reduceEqDiff, Nat.reduceBEq, Nat.reduceAdd, Nat.reduceLeDiff, Nat.reduceLT, reduceCtorEq, Nat.reduceMul, Nat.reduceSub, Int.reduceEq, Int.reduceLT, Int.reduceLE, Int.reduceToNat]
    · have q : j = v.items.length := by simp at q; omega
      subst q
      rw [← hfl, List.take_length] at hj3
      rw [hj3, Bool.true_and] at hR
      have e1 : (((v.keys.length : Nat) : Int) = 0) = (v.keys.length = 0) := by simp
      simp (disch := omega) only [ite_ne, e1, go_sem, ↓reduceIte, Nat.reduceEqDiff, Nat.reduceBEq, Nat.reduceAdd, Nat.reduceLeDiff, Nat.reduceLT, reduceCtorEq, Nat.reduceMul, Nat.reduceSub, Int.reduceEq, Int.reduceLT, Int.reduceLE, Int.reduceToNat]
      exact congrArg _ (congrArg _ hR)
  rw [if_neg cl] at hR hIn
  simp (disch := omega) only [ite_ne, go_sem, ↓reduceIte, Nat.reduceEqDiff, Nat.reduceBEq, Nat.reduceAdd, Nat.reduceLeDiff, Nat.reduceLT, reduceCtorEq, Nat.reduceMul, Nat.reduceSub, Int.reduceEq, Int.reduceLT, Int.reduceLE, Int.reduceToNat]
  refine vcCall.f (hIn _ _) ?_
  simp (disch := omega) only [ite_ne, go_sem, ↓reduceIte, Nat.reduceEqDiff, Nat.reduceBEq, Nat.reduceAdd, Nat.reduceLeDiff, Nat.reduceLT, reduceCtorEq, Nat.reduceMul, Nat.reduceSub, Int.reduceEq, Int.reduceLT, Int.reduceLE, Int.reduceToNat]
  refine vcCall.f (tLeaf_ok doc hd.len tn _ _) ?_
  simp (disch := omega) only [ite_ne, go_sem, ↓reduceIte, Nat.reduceEqDiff, Nat.reduceBEq, Nat.reduceAdd, Nat.reduceLeDiff, Nat.reduceLT, reduceCtorEq, Nat.reduceMul, Nat.reduceSub, Int.reduceEq, Int.reduceLT, Int.reduceLE, Int.reduceToNat]
  refine cdK_of (fun cf => ?_) (fun cf => ?_)
  · rw [if_pos cf, hfl] at hR
    have e1 : (((v.items.length : Nat) : Int) = 0) = (v.items.length = 0) := by simp
    simp (disch := omega) only [ite_ne, e1, go_sem, ↓reduceIte, Nat.reduceEqDiff, Nat.reduceBEq, Nat.reduceAdd, Nat.reduceLeDiff, Nat.reduceLT, reduceCtorEq, Nat.reduceMul, Nat.reduceSub, Int.reduceEq, Int.reduceLT, Int.reduceLE, Int.reduceToNat]
    rw [← hR, Bool.and_assoc]
  rw [if_neg (by simp [cf])] at hR
  simp (disch := omega) only [ite_ne, go_sem, ↓reduceIte, Nat.reduceEqDiff, Nat.reduceBEq, Nat.reduceAdd, Nat.reduceLeDiff, Nat.reduceLT, reduceCtorEq, Nat.reduceMul, Nat.reduceSub, Int.reduceEq, Int.reduceLT, Int.reduceLE, Int.reduceToNat]
  refine vcCall.f (hPo _ _) ?_
  simp (disch := omega) only [ite_ne, go_sem, ↓reduceIte, Nat.reduceEqDiff, Nat.reduceBEq, Nat.reduceAdd, Nat.reduceLeDiff, Nat.reduceLT, reduceCtorEq, Nat.reduceMul, Nat.reduceSub, Int.reduceEq, Int.reduceLT, Int.reduceLE, Int.reduceToNat]
  obtain ⟨T, hT⟩ : ∃ T, posL doc tn = T := ⟨_, rfl⟩
  rw [hT] at hR hpl ⊢
  refine loop (fun p : Nat × Nat => ⟨[(3, .ds (mapC pkC picks)), (4, .bx m 0), (6, .bx (m + 2) 0), (12, .ds (stC T)), (13, .i .i64 p.1)], (m, .bx [.ds (mapC dfC doc)]) :: (m + 2, .bx [.i .i64 v.k, .i .i64 v.n, .s v.s, .ds (mapC valC v.items), .ds (stC v.keys)]) :: hp, p.2⟩)
    (fun p => p.1 ≤ T.length ∧ m + 3 ≤ p.2 ∧ R = (T.drop p.1).any fun on => shpB v fs on picks) (fun p => T.length - p.1) (0, m + 4) ?_ ?_ (fun ⟨j, k⟩ hj => ?_)
  · exact ⟨by simp, by simp, hR.symm⟩
  · refine weak_ok ?_ (Sub.cons ?_ (Sub.cons ?_ (Sub.base hf ?_))) (Nat.le_refl _)
    all_goals (simp (disch := omega) only [ite_ne, go_sem, ↓reduceIte, Nat.reduceEqDiff, Nat.reduceBEq, Nat.reduceAdd, Nat.reduceLeDiff, Nat.reduceLT, reduceCtorEq, Nat.reduceMul, Nat.reduceSub, Int.reduceEq, Int.reduceLT, Int.reduceLE, Int.reduceToNat])
  dsimp only at hj
  obtain ⟨hj1, hj2, hj3⟩ := hj
  simp (disch := omega) only [ite_ne, go_sem, ↓reduceIte, Nat.reduceEqDiff, Nat.reduceBEq, Nat.reduceAdd, Nat.reduceLeDiff, Nat.reduceLT, reduceCtorEq, Nat.reduceMul, Nat.reduceSub, Int.reduceEq, Int.reduceLT, Int.reduceLE, Int.reduceToNat]
  refine cdK_of (fun q => ?_) (fun q => ?_)
  · have q : j < T.length := by simpa using q
    obtain ⟨on, ex⟩ : ∃ on, T[j]? = some on := ⟨T[j], by simp [q]⟩
    rw [drop_at ex, List.any_cons] at hj3
    have hso := hsh on
    obtain ⟨r, hr⟩ : ∃ r, shpB v fs on picks = r := ⟨_, rfl⟩
    rw [hr] at hso hj3
    simp (disch := omega) only [ite_ne, q, getK_s (mapC_get st1 ex), go_sem, ↓reduceIte, Nat.reduceEqDiff, Nat.reduceBEq, Nat.reduceAdd, Nat.reduceLeDiff, Nat.reduceLT, reduceCtorEq, Nat.reduceMul, Nat.reduceSub, Int.reduceEq, Int.reduceLT, Int.reduceLE, Int.reduceToNat]
    refine dCallR.f (fun _ hp' e => hso _ _) ?_
    simp (disch := omega) only [ite_ne, go_sem, ↓reduceIte, Nat.reduceEqDiff, Nat.reduceBEq, Nat.reduceAdd, Nat.reduceLeDiff, Nat.reduceLT, reduceCtorEq, Nat.reduceMul, Nat.reduceSub, Int.reduceEq, Int.reduceLT, Int.reduceLE, Int.reduceToNat]
    refine cdK_of (fun c2 => ?_) (fun c2 => ?_)
    · subst c2
      rw [Bool.true_or] at hj3
      subst hj3
      simp (disch := omega) only [ite_ne, go_sem, ↓reduceIte, Nat.reduceEqDiff, Nat.reduceBEq, Nat.reduceAdd, Nat.reduceLeDiff, Nat.reduceLT, reduceCtorEq, Nat.reduceMul, Nat.reduceSub, Int.reduceEq, Int.reduceLT, Int.reduceLE, Int.reduceToNat]
    · subst c2
      rw [Bool.false_or] at hj3
      simp (disch := omega) only [ite_ne, go_sem, ↓reduceIte, Nat.reduceEqDiff, Nat.reduceBEq, Nat.reduceAdd, Nat.reduceLeDiff, Nat.reduceLT, reduceCtorEq, Nat.reduceMul, Nat.reduceSub, Int.reduceEq, Int.reduceLT, Int.reduceLE, Int.reduceToNat]
      refine ⟨(j + 1, _), ⟨by dsimp only; omega, by dsimp only; omega, hj3⟩, by dsimp only; omega, weak_ok ?_ (Sub.cons ?_ (Sub.cons ?_ (Sub.base hf ?_))) (Nat.le_refl _)⟩
      all_goals
        simp (disch := omega) only [ite_ne, wr64s j (by omega), go_sem, ↓reduceIte, Nat.reduceEqDiff, Nat.reduceBEq, Nat.reduceAdd, Nat.reduceLeDiff, Nat.reduceLT, reduceCtorEq, Nat.reduceMul, Nat.reduceSub, Int.reduceEq, Int.reduceLT, Int.reduceLE, Int.reduceToNat]
  · have q : j = T.length := by simp at q; omega
    subst q
    rw [List.drop_length, List.any_nil] at hj3
    subst hj3
    simp (disch := omega) only [ite_ne, go_sem, ↓reduceIte, Nat.reduceEqDiff, Nat.reduceBEq, Nat.reduceAdd, Nat.reduceLeDiff, Nat.reduceLT, reduceCtorEq, Nat.reduceMul, Nat.reduceSub, Int.reduceEq, Int.reduceLT, Int.reduceLE, Int.reduceToNat]
theorem fits_ok (doc : List Dfn) (hd : DocOk doc) (v : Val) : v.Fit → FtK doc v :=
  Val.ind (Q := fun v => v.Fit → FtK doc v) (fun v ih hv => fits_of doc hd v hv (fun x hx => ih x hx (hv.x hx)) (shaped_of doc v hv fun x hx => ih x hx (hv.x hx))) v
theorem lawFits22 (doc : List Dfn) (root : ByteArray) (l : List Pk) (v : Val) (h : CQ doc l v) (hp : CH) (m : Nat) : MeetsF Tryd.prog 6 hp m [cse doc root l v] (.b true) := by
  have hE := expected_ok doc root l v h
  have hw := h.vs.w
  have h1 := tRun_ok doc h.d.ok root l h.p v h.vs.f h.vs.r (by omega) h.cnt
  obtain ⟨f1, f2, f3⟩ := run_fit h root
  have hft : expV doc l v = true → fitV doc (cplV doc v root [] l []).1 root [] l = true := fun he =>
    cmp_fits doc v root [] l [] trivial (expV_good he) (by unfold lostB; rw [nnW_nil, Bool.and_false])
  have hF := fits_ok doc h.d.ok _ f1 root [] l (by simp) h.p
  obtain ⟨R, hR⟩ : ∃ R, cplV doc v root [] l [] = R := ⟨_, rfl⟩
  rw [hR] at h1 f1 f2 f3 hft hF
  refine meetsF Tryd.func6 (by kernel_rfl) cc6 cr6 rfl fun hf => ?_; unfold ck6
  simp only [go_sem, ↓reduceIte, Nat.reduceEqDiff, Nat.reduceBEq, Nat.reduceAdd, Nat.reduceLeDiff, Nat.reduceLT, reduceCtorEq, Nat.reduceMul, Nat.reduceSub, Int.reduceEq, Int.reduceLT, Int.reduceLE, Int.reduceToNat]
  refine vcCall.f (hE _ _) ?_
  simp only [go_sem, ↓reduceIte, Nat.reduceEqDiff, Nat.reduceBEq, Nat.reduceAdd, Nat.reduceLeDiff, Nat.reduceLT, reduceCtorEq, Nat.reduceMul, Nat.reduceSub, Int.reduceEq, Int.reduceLT, Int.reduceLE, Int.reduceToNat]
  refine cdK_of (fun c => ?_) (fun c => ?_)
  · simp only [go_sem, ↓reduceIte, Nat.reduceEqDiff, Nat.reduceBEq, Nat.reduceAdd, Nat.reduceLeDiff, Nat.reduceLT, reduceCtorEq, Nat.reduceMul, Nat.reduceSub, Int.reduceEq, Int.reduceLT, Int.reduceLE, Int.reduceToNat]
    refine vcCall.f (exh22_ok _ _) ?_
    simp only [go_sem, ↓reduceIte, Nat.reduceEqDiff, Nat.reduceBEq, Nat.reduceAdd, Nat.reduceLeDiff, Nat.reduceLT, reduceCtorEq, Nat.reduceMul, Nat.reduceSub, Int.reduceEq, Int.reduceLT, Int.reduceLE, Int.reduceToNat]
  · have c : expV doc l v = true := by simpa using c
    rw [hft c] at hF
    simp only [go_sem, ↓reduceIte, Nat.reduceEqDiff, Nat.reduceBEq, Nat.reduceAdd, Nat.reduceLeDiff, Nat.reduceLT, reduceCtorEq, Nat.reduceMul, Nat.reduceSub, Int.reduceEq, Int.reduceLT, Int.reduceLE, Int.reduceToNat]
    refine vcCall.f (h1 _ _) ?_
    simp (disch := omega) only [ite_ne, go_sem, ↓reduceIte, Nat.reduceEqDiff, Nat.reduceBEq, Nat.reduceAdd, Nat.reduceLeDiff, Nat.reduceLT, reduceCtorEq, Nat.reduceMul, Nat.reduceSub, Int.reduceEq, Int.reduceLT, Int.reduceLE, Int.reduceToNat]
    refine gCall.f (fun _ => tLeaf_ok doc h.d.ok.len root _ _) ?_
    simp (disch := omega) only [ite_ne, go_sem, ↓reduceIte, Nat.reduceEqDiff, Nat.reduceBEq, Nat.reduceAdd, Nat.reduceLeDiff, Nat.reduceLT, reduceCtorEq, Nat.reduceMul, Nat.reduceSub, Int.reduceEq, Int.reduceLT, Int.reduceLE, Int.reduceToNat]
    refine cdK_of (fun c2 => ?_) (fun c2 => ?_)
    · simp (disch := omega) only [ite_ne, go_sem, ↓reduceIte, Nat.reduceEqDiff, Nat.reduceBEq, Nat.reduceAdd, Nat.reduceLeDiff, Nat.reduceLT, reduceCtorEq, Nat.reduceMul, Nat.reduceSub, Int.reduceEq, Int.reduceLT, Int.reduceLE, Int.reduceToNat]
      refine vcCall.f (exh22_ok _ _) ?_
      simp (disch := omega) only [ite_ne, go_sem, ↓reduceIte, Nat.reduceEqDiff, Nat.reduceBEq, Nat.reduceAdd, Nat.reduceLeDiff, Nat.reduceLT, reduceCtorEq, Nat.reduceMul, Nat.reduceSub, Int.reduceEq, Int.reduceLT, Int.reduceLE, Int.reduceToNat]
    · simp (disch := omega) only [ite_ne, go_sem, ↓reduceIte, Nat.reduceEqDiff, Nat.reduceBEq, Nat.reduceAdd, Nat.reduceLeDiff, Nat.reduceLT, reduceCtorEq, Nat.reduceMul, Nat.reduceSub, Int.reduceEq, Int.reduceLT, Int.reduceLE, Int.reduceToNat]
      refine vcCall.f ((hF _ _).cv rfl) ?_
      simp (disch := omega) only [ite_ne, go_sem, ↓reduceIte, Nat.reduceEqDiff, Nat.reduceBEq, Nat.reduceAdd, Nat.reduceLeDiff, Nat.reduceLT, reduceCtorEq, Nat.reduceMul, Nat.reduceSub, Int.reduceEq, Int.reduceLT, Int.reduceLE, Int.reduceToNat]
      refine gCall.f (fun _ => exh22_ok _ _) ?_
      simp (disch := omega) only [ite_ne, go_sem, ↓reduceIte, Nat.reduceEqDiff, Nat.reduceBEq, Nat.reduceAdd, Nat.reduceLeDiff, Nat.reduceLT, reduceCtorEq, Nat.reduceMul, Nat.reduceSub, Int.reduceEq, Int.reduceLT, Int.reduceLE, Int.reduceToNat]
end Go.Proofs.YtgollgfifnmaaaaDoor
