/-
  The parts CmO of the proof, in one file. Conditions: none.
-/
import Derived.Test.YtgollgfifnmaaaaDoorCmP450
namespace Go.Proofs.YtgollgfifnmaaaaDoor
open Go.Eng
set_option linter.unusedVariables false
set_option linter.unusedSimpArgs false
set_option maxRecDepth 20000
set_option maxHeartbeats 1000000
/-- Is a wrapper right? -/
def rgJ (w : List Int) (j : Nat) : Bool := match w[j]? with
  | none => true
  | some a => (decide (a = 1) || decide (a = 2)) && !(decide (0 < j) && decide (a = 1) && decide (w[j - 1]? = some 1))
def rgtB (n : ByteArray) (w : List Int) : Bool := nmS n && decide (w.length ≤ 24) && decide (∀ j, j < w.length → rgJ w j = true)
theorem rgJ_W : ∀ (w : List Int), (∀ j, j < w.length → rgJ w j = true) → RgtW w
  | [], _ => trivial
  | [_], _ => trivial
  | a :: b :: r, h => by
    refine ⟨fun ⟨ha, hb⟩ => ?_, rgJ_W (b :: r) fun j hj => ?_⟩
    · have := h 1 (by simp)
      subst ha hb
      simp [rgJ] at this
    · have h1 := h (j + 1) (by simpa using hj)
      unfold rgJ at h1 ⊢
      rw [List.getElem?_cons_succ] at h1
      cases e : (b :: r)[j]? with
      | none => rfl
      | some y =>
        rw [e] at h1
        dsimp only at h1 ⊢
        rw [Nat.add_sub_cancel, decide_eq_true (Nat.succ_pos j), Bool.true_and] at h1
        rcases Nat.eq_zero_or_pos j with h0 | h0
        · subst h0
          have h2 := (Bool.and_eq_true_iff.1 h1).1
          rw [h2]
          rfl
        · rw [decide_eq_true h0, Bool.true_and]
          have e2 : (a :: b :: r)[j]? = (b :: r)[j - 1]? := by
            obtain ⟨i, rfl⟩ : ∃ i, j = i + 1 := ⟨j - 1, by omega⟩
            rw [List.getElem?_cons_succ, Nat.add_sub_cancel]
          rw [← e2]
          exact h1
theorem rgtB_W {n : ByteArray} {w : List Int} (h : rgtB n w = true) : RgtW w := by
  simp only [rgtB, Bool.and_eq_true, decide_eq_true_eq] at h
  exact rgJ_W w h.2
theorem rRight_ok (n : ByteArray) (w : List Int) (hw : w.length ≤ 1000000000000) (hp : CH) (m : Nat) : MeetsF Tryd.prog 55 hp m [rfx n w] (.b (rgtB n w)) := by
  obtain ⟨R, hR⟩ : ∃ R, rgtB n w = R := ⟨_, rfl⟩
  rw [hR]
  unfold rgtB at hR
  obtain ⟨b, hb⟩ : ∃ b, nmS n = b := ⟨_, rfl⟩
  have hN := Name2_ok n
  rw [hb] at hN hR
  refine meetsF Tryd.func55 (by kernel_rfl) cc55 cr55 rfl fun hf => ?_; unfold ck55
  simp only [go_sem, ↓reduceIte, Nat.reduceEqDiff, Nat.reduceBEq, Nat.reduceAdd, Nat.reduceLeDiff, Nat.reduceLT, reduceCtorEq, Nat.reduceMul, Nat.reduceSub, Int.reduceEq, Int.reduceLT, Int.reduceLE, Int.reduceToNat]
  refine vcCall.f (hN _ _) ?_
  simp (disch := omega) only [ite_ne, go_sem, ↓reduceIte, Nat.reduceEqDiff, Nat.reduceBEq, Nat.reduceAdd, Nat.reduceLeDiff, Nat.reduceLT, reduceCtorEq, Nat.reduceMul, Nat.reduceSub, Int.reduceEq, Int.reduceLT, Int.reduceLE, Int.reduceToNat]
  refine cdK_of (fun c => ?_) (fun c => ?_)
  · have : R = false := by
      rw [← hR]
      cases b with
      | false => rfl
      | true => simp at c; simp; omega
    subst this
    simp (disch := omega) only [ite_ne, go_sem, ↓reduceIte, Nat.reduceEqDiff, Nat.reduceBEq, Nat.reduceAdd, Nat.reduceLeDiff, Nat.reduceLT, reduceCtorEq, Nat.reduceMul, Nat.reduceSub, Int.reduceEq, Int.reduceLT, Int.reduceLE, Int.reduceToNat]
  have cb : b = true := by cases b with | true => rfl | false => simp at c
  have c24 : w.length ≤ 24 := by
    subst cb
    simp at c
    omega
  subst cb
  rw [decide_eq_true c24, Bool.true_and, Bool.true_and] at hR
  simp (disch := omega) only [ite_ne, go_sem, ↓reduceIte, Nat.reduceEqDiff, Nat.reduceBEq, Nat.reduceAdd, Nat.reduceLeDiff, Nat.reduceLT, reduceCtorEq, Nat.reduceMul, Nat.reduceSub, Int.reduceEq, Int.reduceLT, Int.reduceLE, Int.reduceToNat]
  refine loop (fun p : Nat × Nat => ⟨[(1, .bx m 0), (3, .i .i64 p.1)], (m, .bx [.s n, .ds (mapC in1 w)]) :: hp, p.2⟩) (fun p => p.1 ≤ w.length ∧ m + 1 ≤ p.2 ∧ ∀ i, i < p.1 → rgJ w i = true) (fun p => w.length - p.1) (0, m + 1) ?_ ?_ (fun ⟨j, k⟩ hj => ?_)
  · exact ⟨by simp, by simp, fun i h => by omega⟩
  · refine weak_ok ?_ (Sub.cons ?_ (Sub.base hf ?_)) (Nat.le_refl _)
    all_goals (simp (disch := omega) only [ite_ne, go_sem, ↓reduceIte, Nat.reduceEqDiff, Nat.reduceBEq, Nat.reduceAdd, Nat.reduceLeDiff, Nat.reduceLT, reduceCtorEq, Nat.reduceMul, Nat.reduceSub, Int.reduceEq, Int.reduceLT, Int.reduceLE, Int.reduceToNat])
  dsimp only at hj
  obtain ⟨hj1, hj2, hj3⟩ := hj
  simp (disch := omega) only [ite_ne, go_sem, ↓reduceIte, Nat.reduceEqDiff, Nat.reduceBEq, Nat.reduceAdd, Nat.reduceLeDiff, Nat.reduceLT, reduceCtorEq, Nat.reduceMul, Nat.reduceSub, Int.reduceEq, Int.reduceLT, Int.reduceLE, Int.reduceToNat]
  refine cdK_of (fun q => ?_) (fun q => ?_)
  · have q : j < w.length := by simpa using q
    obtain ⟨a, ea⟩ : ∃ a, w[j]? = some a := ⟨w[j], by simp [q]⟩
    have stop : ∀ R', rgJ w j = false → R = R' → R' = false := fun R' h e => by
      rw [← e, ← hR, decide_eq_false_iff_not]
      exact fun hh => by have := hh j q; rw [h] at this; cases this
    have jr : rgJ w j = ((decide (a = 1) || decide (a = 2)) && !(decide (0 < j) && decide (a = 1) && decide (w[j - 1]? = some 1))) := by rw [rgJ, ea]
    have next : ∀ (x : Bool), rgJ w j = true → ∀ i, i < j + 1 → rgJ w i = true := fun _ h i hi => by
      rcases Nat.lt_or_ge i j with w' | w'
      · exact hj3 i w'
      · have : i = j := by omega
        subst this; exact h
    by_cases a1 : a = 1
    · subst a1
      rcases Nat.eq_zero_or_pos j with j0 | j0
      · subst j0
        have jr : rgJ w 0 = true := by rw [jr]; rfl
        simp (disch := omega) only [ite_ne, q, getK_s (mapC_get in1 ea), go_sem, ↓reduceIte, Nat.reduceEqDiff, Nat.reduceBEq, Nat.reduceAdd, Nat.reduceLeDiff, Nat.reduceLT, reduceCtorEq, Nat.reduceMul, Nat.reduceSub, Int.reduceEq, Int.reduceLT, Int.reduceLE, Int.reduceToNat]
        refine ⟨(0 + 1, _), ⟨by dsimp only; omega, by dsimp only; omega, next true jr⟩, by dsimp only; omega, weak_ok ?_ (Sub.cons ?_ (Sub.base hf ?_)) (Nat.le_refl _)⟩
        all_goals
          simp (disch := omega) only [ite_ne, wr64s 0 (by omega), go_sem, ↓reduceIte, Nat.reduceEqDiff, Nat.reduceBEq, Nat.reduceAdd, Nat.reduceLeDiff, Nat.reduceLT, reduceCtorEq, Nat.reduceMul, Nat.reduceSub, Int.reduceEq, Int.reduceLT, Int.reduceLE, Int.reduceToNat]
          try rfl
      · obtain ⟨i, rfl⟩ : ∃ i, j = i + 1 := ⟨j - 1, by omega⟩
        obtain ⟨b, eb⟩ : ∃ b, w[i]? = some b := ⟨w[i]'(by omega), by simp [show i < w.length by omega]⟩
        rw [Nat.add_sub_cancel, eb] at jr
        have qi : i < w.length := by omega
        have hm1 : IntKind.wrap .i64 (((i + 1 : Nat) : Int) - 1) = (i : Int) := by rw [show (((i + 1 : Nat) : Int) - 1) = (i : Int) by omega]; exact wr64 (by omega)
        simp (disch := omega) only [ite_ne, q, qi, hm1, getK_s (mapC_get in1 ea), getK_s (mapC_get in1 eb), go_sem, ↓reduceIte, Nat.reduceEqDiff, Nat.reduceBEq, Nat.reduceAdd, Nat.reduceLeDiff, Nat.reduceLT, reduceCtorEq, Nat.reduceMul, Nat.reduceSub, Int.reduceEq, Int.reduceLT, Int.reduceLE, Int.reduceToNat]
        refine cdK_of (fun c => ?_) (fun c => ?_)
        · have c : b = 1 := by simpa using c
          have := stop R (by rw [jr, c]; simp) rfl
          subst this
          simp (disch := omega) only [ite_ne, go_sem, ↓reduceIte, Nat.reduceEqDiff, Nat.reduceBEq, Nat.reduceAdd, Nat.reduceLeDiff, Nat.reduceLT, reduceCtorEq, Nat.reduceMul, Nat.reduceSub, Int.reduceEq, Int.reduceLT, Int.reduceLE, Int.reduceToNat]
        · have c : ¬ b = 1 := by simpa using c
          have jr : rgJ w (i + 1) = true := by rw [jr]; simp [c]
          simp (disch := omega) only [ite_ne, go_sem, ↓reduceIte, Nat.reduceEqDiff, Nat.reduceBEq, Nat.reduceAdd, Nat.reduceLeDiff, Nat.reduceLT, reduceCtorEq, Nat.reduceMul, Nat.reduceSub, Int.reduceEq, Int.reduceLT, Int.reduceLE, Int.reduceToNat]
          refine ⟨(i + 1 + 1, _), ⟨by dsimp only; omega, by dsimp only; omega, next true jr⟩, by dsimp only; omega, weak_ok ?_ (Sub.cons ?_ (Sub.base hf ?_)) (Nat.le_refl _)⟩
          all_goals
            simp (disch := omega) only [ite_ne, wr64s (i + 1) (by omega), go_sem, ↓reduceIte, Nat.reduceEqDiff, Nat.reduceBEq, Nat.reduceAdd, Nat.reduceLeDiff, Nat.reduceLT, reduceCtorEq, Nat.reduceMul, Nat.reduceSub, Int.reduceEq, Int.reduceLT, Int.reduceLE, Int.reduceToNat]
    · have a1d : decide (a = 1) = false := decide_eq_false a1
      by_cases a2 : a = 2
      · subst a2
        have jr : rgJ w j = true := by rw [jr]; simp
        rcases Nat.eq_zero_or_pos j with j0 | j0
        · subst j0
          simp (disch := omega) only [ite_ne, q, a1d, getK_s (mapC_get in1 ea), go_sem, ↓reduceIte, Nat.reduceEqDiff, Nat.reduceBEq, Nat.reduceAdd, Nat.reduceLeDiff, Nat.reduceLT, reduceCtorEq, Nat.reduceMul, Nat.reduceSub, Int.reduceEq, Int.reduceLT, Int.reduceLE, Int.reduceToNat]
          refine ⟨(0 + 1, _), ⟨by dsimp only; omega, by dsimp only; omega, next true jr⟩, by dsimp only; omega, weak_ok ?_ (Sub.cons ?_ (Sub.base hf ?_)) (Nat.le_refl _)⟩
          all_goals
            simp (disch := omega) only [ite_ne, wr64s 0 (by omega), go_sem, ↓reduceIte, Nat.reduceEqDiff, Nat.reduceBEq, Nat.reduceAdd, Nat.reduceLeDiff, Nat.reduceLT, reduceCtorEq, Nat.reduceMul, Nat.reduceSub, Int.reduceEq, Int.reduceLT, Int.reduceLE, Int.reduceToNat]
            try rfl
        · obtain ⟨i, rfl⟩ : ∃ i, j = i + 1 := ⟨j - 1, by omega⟩
          simp (disch := omega) only [ite_ne, q, a1d, getK_s (mapC_get in1 ea), go_sem, ↓reduceIte, Nat.reduceEqDiff, Nat.reduceBEq, Nat.reduceAdd, Nat.reduceLeDiff, Nat.reduceLT, reduceCtorEq, Nat.reduceMul, Nat.reduceSub, Int.reduceEq, Int.reduceLT, Int.reduceLE, Int.reduceToNat]
          refine ⟨(i + 1 + 1, _), ⟨by dsimp only; omega, by dsimp only; omega, next true jr⟩, by dsimp only; omega, weak_ok ?_ (Sub.cons ?_ (Sub.base hf ?_)) (Nat.le_refl _)⟩
          all_goals
            simp (disch := omega) only [ite_ne, wr64s (i + 1) (by omega), go_sem, ↓reduceIte, Nat.reduceEqDiff, Nat.reduceBEq, Nat.reduceAdd, Nat.reduceLeDiff, Nat.reduceLT, reduceCtorEq, Nat.reduceMul, Nat.reduceSub, Int.reduceEq, Int.reduceLT, Int.reduceLE, Int.reduceToNat]
      · have a2d : decide (a = 2) = false := decide_eq_false a2
        have := stop R (by rw [jr, a1d, a2d]; rfl) rfl
        subst this
        simp (disch := omega) only [ite_ne, q, a1d, a2d, getK_s (mapC_get in1 ea), go_sem, ↓reduceIte, Nat.reduceEqDiff, Nat.reduceBEq, Nat.reduceAdd, Nat.reduceLeDiff, Nat.reduceLT, reduceCtorEq, Nat.reduceMul, Nat.reduceSub, Int.reduceEq, Int.reduceLT, Int.reduceLE, Int.reduceToNat]
  · have q : j = w.length := by simp at q; omega
    subst q
    rw [decide_eq_true hj3] at hR
    subst hR
    simp (disch := omega) only [ite_ne, go_sem, ↓reduceIte, Nat.reduceEqDiff, Nat.reduceBEq, Nat.reduceAdd, Nat.reduceLeDiff, Nat.reduceLT, reduceCtorEq, Nat.reduceMul, Nat.reduceSub, Int.reduceEq, Int.reduceLT, Int.reduceLE, Int.reduceToNat]
/-- The measure of picks: -1 if they are not those that are expected. -/
noncomputable def wqG (lv : Int) : List Pk → Int → List (Pk × (Int → Int)) → Int
  | _, n, [] => n
  | pre, n, x :: r => if (pre.any fun y => decide (y.on = x.1.on) && decide (y.key = x.1.key)) = true then -1
    else if x.2 (lv + 1) < 0 ∨ 30 < lv ∨ rgtB x.1.tn x.1.tw = false then -1
    else if 200 < n + 1 + x.2 (lv + 1) then -1 else wqG lv (pre ++ [x.1]) (n + 1 + x.2 (lv + 1)) r
mutual
noncomputable def wqK : Pk → Int → Int
  | .mk a b c al t ws f g ps => fun lv => wqG lv [] 0 (wqL ps)
noncomputable def wqL : List Pk → List (Pk × (Int → Int))
  | [] => []
  | p :: r => (p, wqK p) :: wqL r
end
noncomputable def wqP (l : List Pk) (lv : Int) : Int := wqG lv [] 0 (wqL l)
theorem wqK_eq (p : Pk) (lv : Int) : wqK p lv = wqP p.picks lv := by cases p; rw [wqK]; rfl
theorem wqL_map (l : List Pk) : wqL l = l.map fun p => (p, wqK p) := by
  induction l with
  | nil => rw [wqL]; rfl
  | cons x l ih => rw [wqL, ih, List.map_cons]
theorem wqG_rng (lv : Int) : ∀ (L : List (Pk × (Int → Int))) (pre : List Pk) (n : Int), 0 ≤ n → n ≤ 200 → -1 ≤ wqG lv pre n L ∧ wqG lv pre n L ≤ 200
  | [], pre, n, h0, h1 => by rw [wqG]; omega
  | x :: L, pre, n, h0, h1 => by
    rw [wqG]
    split
    · omega
    · split
      · omega
      · rename_i c
        split
        · omega
        · exact wqG_rng lv L _ _ (by omega) (by omega)
theorem wqP_rng (l : List Pk) (lv : Int) : -1 ≤ wqP l lv ∧ wqP l lv ≤ 200 := wqG_rng lv _ _ _ (by omega) (by omega)
theorem wqG_pos (lv : Int) : ∀ (L : List (Pk × (Int → Int))) (pre : List Pk) (n : Int), 0 ≤ wqG lv pre n L →
    ∀ (i : Nat) x, L[i]? = some x → (∀ y ∈ pre ++ (L.take i).map (·.1), ¬ (y.on = x.1.on ∧ y.key = x.1.key)) ∧ 0 ≤ x.2 (lv + 1) ∧ rgtB x.1.tn x.1.tw = true
  | [], pre, n, h, i, x, hx => by simp at hx
  | z :: L, pre, n, h, i, x, hx => by
    rw [wqG] at h
    split at h
    · omega
    · rename_i c1
      split at h
      · omega
      · rename_i c2
        split at h
        · omega
        · cases i with
          | zero =>
            simp only [List.getElem?_cons_zero, Option.some.injEq] at hx
            subst hx
            refine ⟨fun y hy hh => c1 (List.any_eq_true.2 ⟨y, by simpa using hy, by simp [hh.1, hh.2]⟩), by omega, ?_⟩
            cases e : rgtB z.1.tn z.1.tw with
            | true => rfl
            | false => exact absurd (.inr (.inr e)) c2
          | succ i =>
            have := wqG_pos lv L _ _ h i x (by simpa using hx)
            refine ⟨fun y hy => this.1 y ?_, this.2⟩
            simpa using hy
theorem wqP_good : ∀ (l : List Pk) (lv : Int), 0 ≤ wqP l lv → Good l := by
  have key : ∀ p : Pk, ∀ lv, 0 ≤ wqP p.picks lv → Good p.picks := fun p => by
    refine Pk.ind (Q := fun p => ∀ lv, 0 ≤ wqP p.picks lv → Good p.picks) (fun p ih lv h => ?_) p
    have hp := wqG_pos lv _ _ _ h
    have hg : ∀ (i : Nat) q, p.picks[i]? = some q → (wqL p.picks)[i]? = some (q, wqK q) := fun i q hq => by rw [wqL_map, List.getElem?_map, hq]; rfl
    refine .mk _ (fun i j q r hij hq hr hh => ?_) (fun q hq => ?_) (fun q hq => ?_)
    · have := (hp j _ (hg j r hr)).1 q ?_
      · exact this hh
      · rw [List.nil_append]
        refine List.mem_map.2 ⟨(q, wqK q), List.mem_of_getElem? (i := i) ?_, rfl⟩
        rw [List.getElem?_take, if_pos hij]
        exact hg i q hq
    · obtain ⟨i, hi⟩ := List.getElem?_of_mem hq
      exact rgtB_W (hp i _ (hg i q hi)).2.2
    · obtain ⟨i, hi⟩ := List.getElem?_of_mem hq
      have := (hp i _ (hg i q hi)).2.1
      dsimp only at this
      rw [wqK_eq] at this
      exact ih q hq _ this
  intro l lv h
  exact key (.mk ⟨#[]⟩ ⟨#[]⟩ ⟨#[]⟩ [] ⟨#[]⟩ [] ⟨#[]⟩ 0 l) lv h
theorem wqG_cons {lv : Int} {pre : List Pk} {n : Int} {x : Pk} {f : Int → Int} {r : List (Pk × (Int → Int))} {m : Int} (h : f (lv + 1) = m) : wqG lv pre n ((x, f) :: r) = if (pre.any fun y => decide (y.on = x.on) && decide (y.key = x.key)) = true then -1
    else if m < 0 ∨ 30 < lv ∨ rgtB x.tn x.tw = false then -1 else if 200 < n + 1 + m then -1 else wqG lv (pre ++ [x]) (n + 1 + m) r := by
  subst h
  rw [wqG]
/-- The measure of picks at a level. -/
def WgK (l : List Pk) : Prop := ∀ lv : Int, PFit l → 0 ≤ lv → lv + wtKs l ≤ 1000000000000 → ∀ hp m, MeetsF Tryd.prog 28 hp m [.ds (mapC pkC l), .i .i64 lv] (.i .i64 (wqP l lv))
theorem weight22_of (l : List Pk) (h : ∀ p ∈ l, WgK p.picks) : WgK l := by
  intro lv hpk h0 hlv hp m
  have hlen := hpk.len
  obtain ⟨R, hR⟩ : ∃ R, wqP l lv = R := ⟨_, rfl⟩
  rw [hR]
  refine meetsF Tryd.func28 (by kernel_rfl) cc28 cr28 rfl fun hf => ?_; unfold ck28
  simp only [go_sem, ↓reduceIte, Nat.reduceEqDiff, Nat.reduceBEq, Nat.reduceAdd, Nat.reduceLeDiff, Nat.reduceLT, reduceCtorEq, Nat.reduceMul, Nat.reduceSub, Int.reduceEq, Int.reduceLT, Int.reduceLE, Int.reduceToNat]
  refine loop (fun p : (Nat × Int) × Nat => ⟨[(0, .ds (mapC pkC l)), (1, .i .i64 lv), (5, .i .i64 p.1.2), (6, .i .i64 p.1.1)], hp, p.2⟩) (fun p => p.1.1 ≤ l.length ∧ 0 ≤ p.1.2 ∧ p.1.2 ≤ 200 ∧ R = wqG lv (l.take p.1.1) p.1.2 (wqL (l.drop p.1.1))) (fun p => l.length - p.1.1) ((0, 0), m) ?_ ?_ (fun ⟨⟨j, n⟩, k⟩ hj => ?_)
  · exact ⟨by simp, by simp, by simp, by rw [← hR]; rfl⟩
  · refine weak_ok ?_ (Sub.refl _) (Nat.le_refl _)
    simp only [go_sem, ↓reduceIte, Nat.reduceEqDiff, Nat.reduceBEq, Nat.reduceAdd, Nat.reduceLeDiff, Nat.reduceLT, reduceCtorEq, Nat.reduceMul, Nat.reduceSub, Int.reduceEq, Int.reduceLT, Int.reduceLE, Int.reduceToNat]
  dsimp only at hj
  obtain ⟨hj1, hj2, hj3, hj4⟩ := hj
  simp only [go_sem, ↓reduceIte, Nat.reduceEqDiff, Nat.reduceBEq, Nat.reduceAdd, Nat.reduceLeDiff, Nat.reduceLT, reduceCtorEq, Nat.reduceMul, Nat.reduceSub, Int.reduceEq, Int.reduceLT, Int.reduceLE, Int.reduceToNat]
  refine cdK_of (fun q => ?_) (fun q => ?_)
  · have q : j < l.length := by simpa using q
    obtain ⟨x, ex⟩ : ∃ x, l[j]? = some x := ⟨l[j], by simp [q]⟩
    have hxm := List.mem_of_getElem? ex
    rw [drop_at ex, wqL] at hj4
    have hx := h x hxm (lv + 1) (hpk.x hxm) (by omega) (by have := wtKs_mem hxm; rw [wtK_eq] at this; omega)
    have hrg := rRight_ok x.tn x.tw (hpk.t hxm)
    rw [← wqK_eq] at hx
    have hrn := wqP_rng x.picks (lv + 1)
    rw [← wqK_eq] at hrn
    obtain ⟨mm, hmm⟩ : ∃ mm, wqK x (lv + 1) = mm := ⟨_, rfl⟩
    rw [hmm] at hx hrn
    rw [wqG_cons hmm, take_snoc ex] at hj4
    simp only [go_sem, ↓reduceIte, Nat.reduceEqDiff, Nat.reduceBEq, Nat.reduceAdd, Nat.reduceLeDiff, Nat.reduceLT, reduceCtorEq, Nat.reduceMul, Nat.reduceSub, Int.reduceEq, Int.reduceLT, Int.reduceLE, Int.reduceToNat]
    refine loop (fun p : Nat × Nat => ⟨[(0, .ds (mapC pkC l)), (1, .i .i64 lv), (5, .i .i64 n), (6, .i .i64 j), (7, .i .i64 p.1)], hp, p.2⟩) (fun p => p.1 ≤ j ∧ ((l.take p.1).any fun y => decide (y.on = x.on) && decide (y.key = x.key)) = false) (fun p => j - p.1) (0, k) ?_ ?_ (fun ⟨i, k2⟩ hi => ?_)
    · exact ⟨by simp, by simp⟩
    · refine weak_ok ?_ (Sub.refl _) (Nat.le_refl _)
      simp only [go_sem, ↓reduceIte, Nat.reduceEqDiff, Nat.reduceBEq, Nat.reduceAdd, Nat.reduceLeDiff, Nat.reduceLT, reduceCtorEq, Nat.reduceMul, Nat.reduceSub, Int.reduceEq, Int.reduceLT, Int.reduceLE, Int.reduceToNat]
    dsimp only at hi
    obtain ⟨hi1, hi2⟩ := hi
    simp only [go_sem, ↓reduceIte, Nat.reduceEqDiff, Nat.reduceBEq, Nat.reduceAdd, Nat.reduceLeDiff, Nat.reduceLT, reduceCtorEq, Nat.reduceMul, Nat.reduceSub, Int.reduceEq, Int.reduceLT, Int.reduceLE, Int.reduceToNat]
    refine cdK_of (fun q2 => ?_) (fun q2 => ?_)
    · have q2 : i < j := by simpa using q2
      obtain ⟨y, ey⟩ : ∃ y, l[i]? = some y := ⟨l[i]'(by omega), by simp [show i < l.length by omega]⟩
      have b1 : i < l.length := by omega
      simp only [q, b1, getK_s (mapC_get pkC ex), getK_s (mapC_get pkC ey), mapC_get pkC ex, mapC_get pkC ey, pkC_eq, go_sem, ↓reduceIte, Nat.reduceEqDiff, Nat.reduceBEq, Nat.reduceAdd, Nat.reduceLeDiff, Nat.reduceLT, reduceCtorEq, Nat.reduceMul, Nat.reduceSub, Int.reduceEq, Int.reduceLT, Int.reduceLE, Int.reduceToNat]
      refine cdK_of (fun c => ?_) (fun c => ?_)
      · have hany : ((l.take j).any fun y => decide (y.on = x.on) && decide (y.key = x.key)) = true := List.any_eq_true.2 ⟨y, List.mem_of_getElem? (i := i) (by rw [List.getElem?_take, if_pos q2]; exact ey), c⟩
        rw [if_pos hany] at hj4
        subst hj4
        simp only [go_sem, ↓reduceIte, Nat.reduceEqDiff, Nat.reduceBEq, Nat.reduceAdd, Nat.reduceLeDiff, Nat.reduceLT, reduceCtorEq, Nat.reduceMul, Nat.reduceSub, Int.reduceEq, Int.reduceLT, Int.reduceLE, Int.reduceToNat]
      · simp only [go_sem, ↓reduceIte, Nat.reduceEqDiff, Nat.reduceBEq, Nat.reduceAdd, Nat.reduceLeDiff, Nat.reduceLT, reduceCtorEq, Nat.reduceMul, Nat.reduceSub, Int.reduceEq, Int.reduceLT, Int.reduceLE, Int.reduceToNat]
        refine ⟨(i + 1, _), ⟨by dsimp only; omega, ?_⟩, by dsimp only; omega, weak_ok ?_ (Sub.refl _) (Nat.le_refl _)⟩
        · rw [← take_snoc ey, List.any_append, hi2]
          simp only [List.any_cons, List.any_nil, Bool.or_false, Bool.false_or]
          exact c
        simp only [wr64s i (by omega), go_sem, ↓reduceIte, Nat.reduceEqDiff, Nat.reduceBEq, Nat.reduceAdd, Nat.reduceLeDiff, Nat.reduceLT, reduceCtorEq, Nat.reduceMul, Nat.reduceSub, Int.reduceEq, Int.reduceLT, Int.reduceLE, Int.reduceToNat]
    · have q2 : i = j := by simp at q2; omega
      subst q2
      rw [hi2, if_neg (by simp)] at hj4
      simp only [q, wr64g (lv + 1) (by omega), getK_s (mapC_get pkC ex), go_sem, ↓reduceIte, Nat.reduceEqDiff, Nat.reduceBEq, Nat.reduceAdd, Nat.reduceLeDiff, Nat.reduceLT, reduceCtorEq, Nat.reduceMul, Nat.reduceSub, Int.reduceEq, Int.reduceLT, Int.reduceLE, Int.reduceToNat]
      refine vcCall.f (hx _ _) ?_
      cases hcd : (decide (mm < 0) || decide (30 < lv)) with
      | true =>
        have hor : mm < 0 ∨ 30 < lv ∨ rgtB x.tn x.tw = false := by
          simp only [Bool.or_eq_true, decide_eq_true_eq] at hcd
          rcases hcd with h | h
          · exact .inl h
          · exact .inr (.inl h)
        rw [if_pos hor] at hj4
        subst hj4
        simp only [q, hcd, getK_s (mapC_get pkC ex), mapC_get pkC ex, pkC_eq, go_sem, ↓reduceIte, Nat.reduceEqDiff, Nat.reduceBEq, Nat.reduceAdd, Nat.reduceLeDiff, Nat.reduceLT, reduceCtorEq, Nat.reduceMul, Nat.reduceSub, Int.reduceEq, Int.reduceLT, Int.reduceLE, Int.reduceToNat]
        refine gCall.f (r := .b true) (fun h => by cases h) ?_
        simp only [hcd, go_sem, ↓reduceIte, Nat.reduceEqDiff, Nat.reduceBEq, Nat.reduceAdd, Nat.reduceLeDiff, Nat.reduceLT, reduceCtorEq, Nat.reduceMul, Nat.reduceSub, Int.reduceEq, Int.reduceLT, Int.reduceLE, Int.reduceToNat]
      | false =>
        have hnc : 0 ≤ mm ∧ lv ≤ 30 := by
          simp only [Bool.or_eq_false_iff, decide_eq_false_iff_not] at hcd
          omega
        obtain ⟨hm0, hl3⟩ := hnc
        simp only [q, hcd, getK_s (mapC_get pkC ex), mapC_get pkC ex, pkC_eq, go_sem, ↓reduceIte, Nat.reduceEqDiff, Nat.reduceBEq, Nat.reduceAdd, Nat.reduceLeDiff, Nat.reduceLT, reduceCtorEq, Nat.reduceMul, Nat.reduceSub, Int.reduceEq, Int.reduceLT, Int.reduceLE, Int.reduceToNat]
        refine gCall.f (fun _ => hrg _ _) ?_
        simp only [q, hcd, getK_s (mapC_get pkC ex), mapC_get pkC ex, pkC_eq, go_sem, ↓reduceIte, Nat.reduceEqDiff, Nat.reduceBEq, Nat.reduceAdd, Nat.reduceLeDiff, Nat.reduceLT, reduceCtorEq, Nat.reduceMul, Nat.reduceSub, Int.reduceEq, Int.reduceLT, Int.reduceLE, Int.reduceToNat]
        refine cdK_of (fun c => ?_) (fun c => ?_)
        · have c : rgtB x.tn x.tw = false := by simpa using c
          rw [if_pos (.inr (.inr c))] at hj4
          subst hj4
          simp only [go_sem, ↓reduceIte, Nat.reduceEqDiff, Nat.reduceBEq, Nat.reduceAdd, Nat.reduceLeDiff, Nat.reduceLT, reduceCtorEq, Nat.reduceMul, Nat.reduceSub, Int.reduceEq, Int.reduceLT, Int.reduceLE, Int.reduceToNat]
        · have c : rgtB x.tn x.tw = true := by simpa using c
          rw [if_neg (fun h => by rcases h with h | h | h; exact absurd h (by omega); exact absurd h (by omega); rw [c] at h; cases h)] at hj4
          simp only [wr64g (n + 1) (by omega), wr64g (n + 1 + mm) (by omega), go_sem, ↓reduceIte, Nat.reduceEqDiff, Nat.reduceBEq, Nat.reduceAdd, Nat.reduceLeDiff, Nat.reduceLT, reduceCtorEq, Nat.reduceMul, Nat.reduceSub, Int.reduceEq, Int.reduceLT, Int.reduceLE, Int.reduceToNat]
          refine cdK_of (fun c2 => ?_) (fun c2 => ?_)
          · have c2 : 200 < n + 1 + mm := by simpa using c2
            rw [if_pos c2] at hj4
            subst hj4
            simp only [go_sem, ↓reduceIte, Nat.reduceEqDiff, Nat.reduceBEq, Nat.reduceAdd, Nat.reduceLeDiff, Nat.reduceLT, reduceCtorEq, Nat.reduceMul, Nat.reduceSub, Int.reduceEq, Int.reduceLT, Int.reduceLE, Int.reduceToNat]
          · have c2 : ¬ 200 < n + 1 + mm := by simpa using c2
            rw [if_neg c2] at hj4
            simp only [go_sem, ↓reduceIte, Nat.reduceEqDiff, Nat.reduceBEq, Nat.reduceAdd, Nat.reduceLeDiff, Nat.reduceLT, reduceCtorEq, Nat.reduceMul, Nat.reduceSub, Int.reduceEq, Int.reduceLT, Int.reduceLE, Int.reduceToNat]
            refine ⟨((i + 1, n + 1 + mm), _), ⟨by dsimp only; omega, by dsimp only; omega, by dsimp only; omega, hj4⟩, by dsimp only; omega, weak_ok ?_ (Sub.refl _) (Nat.le_refl _)⟩
            simp only [wr64s i (by omega), go_sem, ↓reduceIte, Nat.reduceEqDiff, Nat.reduceBEq, Nat.reduceAdd, Nat.reduceLeDiff, Nat.reduceLT, reduceCtorEq, Nat.reduceMul, Nat.reduceSub, Int.reduceEq, Int.reduceLT, Int.reduceLE, Int.reduceToNat]
  · have q : j = l.length := by simp at q; omega
    subst q
    rw [List.drop_length, wqL, wqG] at hj4
    subst hj4
    simp only [go_sem, ↓reduceIte, Nat.reduceEqDiff, Nat.reduceBEq, Nat.reduceAdd, Nat.reduceLeDiff, Nat.reduceLT, reduceCtorEq, Nat.reduceMul, Nat.reduceSub, Int.reduceEq, Int.reduceLT, Int.reduceLE, Int.reduceToNat]
theorem weight22_ok (l : List Pk) : WgK l := by
  refine weight22_of l fun p _ => ?_
  exact Pk.ind (Q := fun p => WgK p.picks) (fun p ih => weight22_of _ ih) p
/-- Is a case one that the chapter expects? -/
noncomputable def expV (doc : List Dfn) (l : List Pk) (v : Val) : Bool := decide ((l.length : Int) ≤ 200) && (decide (wtD 600 doc doc.length ≤ 600) && (decide (wgV 2000 v ≤ 2000) && decide (0 ≤ wqP l 1)))
theorem expV_good {doc : List Dfn} {l : List Pk} {v : Val} (h : expV doc l v = true) : Good l := by
  simp only [expV, Bool.and_eq_true, decide_eq_true_eq] at h
  exact wqP_good l 1 h.2.2.2
theorem expected_ok (doc : List Dfn) (root : ByteArray) (l : List Pk) (v : Val) (h : CQ doc l v) (hp : CH) (m : Nat) : MeetsF Tryd.prog 9 hp m [cse doc root l v] (.b (expV doc l v)) := by
  have h1 := dWeight_ok 600 doc h.d.ok h.d.w
  have h2 := weight_ok 2000 v h.vs.f
  have hn := h.n
  have h3 := weight22_ok l 1 h.p (by omega) (by omega)
  unfold expV
  refine meetsF Tryd.func9 (by kernel_rfl) cc9 cr9 rfl fun hf => ?_; unfold ck9
  simp only [go_sem, ↓reduceIte, Nat.reduceEqDiff, Nat.reduceBEq, Nat.reduceAdd, Nat.reduceLeDiff, Nat.reduceLT, reduceCtorEq, Nat.reduceMul, Nat.reduceSub, Int.reduceEq, Int.reduceLT, Int.reduceLE, Int.reduceToNat]
  refine gCall.f (fun _ => h1 _ _) ?_
  simp only [go_sem, ↓reduceIte, Nat.reduceEqDiff, Nat.reduceBEq, Nat.reduceAdd, Nat.reduceLeDiff, Nat.reduceLT, reduceCtorEq, Nat.reduceMul, Nat.reduceSub, Int.reduceEq, Int.reduceLT, Int.reduceLE, Int.reduceToNat]
  refine gCall.f (fun _ => h2 _ _) ?_
  simp only [go_sem, ↓reduceIte, Nat.reduceEqDiff, Nat.reduceBEq, Nat.reduceAdd, Nat.reduceLeDiff, Nat.reduceLT, reduceCtorEq, Nat.reduceMul, Nat.reduceSub, Int.reduceEq, Int.reduceLT, Int.reduceLE, Int.reduceToNat]
  refine gCall.f (fun _ => h3 _ _) ?_
  simp only [go_sem, ↓reduceIte, Nat.reduceEqDiff, Nat.reduceBEq, Nat.reduceAdd, Nat.reduceLeDiff, Nat.reduceLT, reduceCtorEq, Nat.reduceMul, Nat.reduceSub, Int.reduceEq, Int.reduceLT, Int.reduceLE, Int.reduceToNat]
  try simp [Bool.and_assoc]
end Go.Proofs.YtgollgfifnmaaaaDoor
