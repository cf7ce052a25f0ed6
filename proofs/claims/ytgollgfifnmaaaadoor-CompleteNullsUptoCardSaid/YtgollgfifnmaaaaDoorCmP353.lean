/-
  The parts CmTC of the proof, in one file. Conditions: none.
-/
import Derived.Test.YtgollgfifnmaaaaDoorCmP352
namespace Go.Proofs.YtgollgfifnmaaaaDoor
open Go.Eng
set_option linter.unusedVariables false
set_option linter.unusedSimpArgs false
set_option maxRecDepth 20000
set_option maxHeartbeats 1000000
/-- Steps of paths hold no values. -/
def Flt (x : Val) : Prop := x.items = [] ∧ x.keys = []
theorem flt_app {path : List Val} (h : ∀ x ∈ path, Flt x) {y : Val} (hy : Flt y) : ∀ x ∈ path ++ [y], Flt x := fun x hx => by
  rcases List.mem_append.1 hx with h1 | h1
  · exact h x h1
  · rw [List.mem_singleton.1 h1]; exact hy
def PrS (R : CRes) : Prop := ∀ p ∈ R.2, ∀ x ∈ p.p, Flt x
theorem cpl_flat (doc : List Dfn) (v : Val) : ∀ tn tw picks path, (∀ x ∈ path, Flt x) → PrS (cplV doc v tn tw picks path) := by
  refine Val.ind (Q := fun v => ∀ tn tw picks path, (∀ x ∈ path, Flt x) → PrS (cplV doc v tn tw picks path)) (fun v ih tn tw picks path hpa => ?_) v
  have hfail : ∀ path (s : ByteArray), (∀ x ∈ path, Flt x) → PrS (failR path s) := fun path s hpa p hp => by rw [List.mem_singleton.1 (show p ∈ [Prb.mk path s] from hp)]; exact hpa
  have hnul : ∀ (tw : List Int) path, (∀ x ∈ path, Flt x) → PrS (nulR tw path) := fun tw path hpa => by
    rw [nulR]
    split
    · exact hfail _ _ hpa
    · exact fun p hp => by cases hp
  refine cplV_cases (Q := PrS) (fun s _ => hfail _ s hpa) (fun h0 => hnul _ _ hpa) (fun _ _ p hp => ?_) (fun _ _ _ x hx p hp => by cases hp) (fun h6 _ _ on _ _ _ p hp => ?_)
  · obtain ⟨r, hm, hq⟩ := List.mem_flatMap.1 (show p ∈ (lsR (v.items.map (cplV doc)) 0 tn _ picks path).flatMap (·.2) from hp)
    obtain ⟨i, f, e1, e2, _⟩ := mem_lsR _ _ _ _ _ _ _ hm
    rw [List.getElem?_map] at e1
    cases ex : v.items[i]? with
    | none => rw [ex] at e1; cases e1
    | some x =>
      rw [ex] at e1
      cases e1
      subst e2
      exact ih x (List.mem_of_getElem? ex) _ _ _ _ (flt_app hpa ⟨rfl, rfl⟩) p hq
  · obtain ⟨r, hm, hq⟩ := List.mem_flatMap.1 (show p ∈ (obS v.keys (v.items.map (cplV doc)) on path picks).flatMap (·.2.2) from hp)
    obtain ⟨_, _, e⟩ := obS_mem h6 hm
    rw [e] at hq
    cases hg : getV v r.1.key with
    | none =>
      rw [hg] at hq
      dsimp only [Option.getD] at hq
      rw [cplV_z, zFn] at hq
      exact hnul _ _ (flt_app hpa ⟨rfl, rfl⟩) p hq
    | some x =>
      rw [hg] at hq
      exact ih x (getV_mem hg) _ _ _ _ (flt_app hpa ⟨rfl, rfl⟩) p hq
/-- Steps are told. -/
theorem equal_flat (x y : Val) (hx : Flt x) (hy : Flt y) (hp : CH) (m : Nat) : MeetsF Tryd.prog 13 hp m [vx x, vx y] (.b (decide (x.k = y.k) && decide (x.n = y.n) && decide (x.s = y.s))) := by
  obtain ⟨x1, x2⟩ := hx
  obtain ⟨y1, y2⟩ := hy
  obtain ⟨b, hb⟩ : ∃ b, (decide (x.k = y.k) && decide (x.n = y.n) && decide (x.s = y.s)) = b := ⟨_, rfl⟩
  rw [hb]
  refine meetsF Tryd.func13 (by kernel_rfl) cc13 cr13 rfl fun hf => ?_; unfold ck13
  simp (disch := omega) only [ite_ne, x1, x2, y1, y2, go_sem, ↓reduceIte, Nat.reduceEqDiff, Nat.reduceBEq, Nat.reduceAdd, Nat.reduceLeDiff, Nat.reduceLT, reduceCtorEq, Nat.reduceMul, Nat.reduceSub, Int.reduceEq, Int.reduceLT, Int.reduceLE, Int.reduceToNat]
  refine cdK_of (fun c => ?_) (fun c => ?_)
  · have : b = false := by
      rw [← hb]
      revert c
      cases decide (x.k = y.k) <;> cases decide (x.n = y.n) <;> cases decide (x.s = y.s) <;> simp
    subst this
    simp (disch := omega) only [ite_ne, go_sem, ↓reduceIte, Nat.reduceEqDiff, Nat.reduceBEq, Nat.reduceAdd, Nat.reduceLeDiff, Nat.reduceLT, reduceCtorEq, Nat.reduceMul, Nat.reduceSub, Int.reduceEq, Int.reduceLT, Int.reduceLE, Int.reduceToNat]
  · have : b = true := by
      rw [← hb]
      revert c
      cases decide (x.k = y.k) <;> cases decide (x.n = y.n) <;> cases decide (x.s = y.s) <;> simp
    subst this
    simp (disch := omega) only [ite_ne, go_sem, ↓reduceIte, Nat.reduceEqDiff, Nat.reduceBEq, Nat.reduceAdd, Nat.reduceLeDiff, Nat.reduceLT, reduceCtorEq, Nat.reduceMul, Nat.reduceSub, Int.reduceEq, Int.reduceLT, Int.reduceLE, Int.reduceToNat]
    refine loop (fun p : Nat × Nat => ⟨[(2, .bx m 0), (3, .bx (m + 1) 0), (5, .i .i64 0)], (m + 1, .bx [.i .i64 y.k, .i .i64 y.n, .s y.s, .ds [], .ds []]) :: (m, .bx [.i .i64 x.k, .i .i64 x.n, .s x.s, .ds [], .ds []]) :: hp, p.2⟩) (fun p => m + 2 ≤ p.2) (fun p => 0) (0, m + 2) ?_ ?_ (fun ⟨j, k⟩ hj => ?_)
    · simp
    · refine weak_ok ?_ (Sub.cons ?_ (Sub.cons ?_ (Sub.base hf ?_))) (Nat.le_refl _)
      all_goals (simp (disch := omega) only [ite_ne, go_sem, ↓reduceIte, Nat.reduceEqDiff, Nat.reduceBEq, Nat.reduceAdd, Nat.reduceLeDiff, Nat.reduceLT, reduceCtorEq, Nat.reduceMul, Nat.reduceSub, Int.reduceEq, Int.reduceLT, Int.reduceLE, Int.reduceToNat])
    dsimp only at hj
    simp (disch := omega) only [ite_ne, go_sem, ↓reduceIte, Nat.reduceEqDiff, Nat.reduceBEq, Nat.reduceAdd, Nat.reduceLeDiff, Nat.reduceLT, reduceCtorEq, Nat.reduceMul, Nat.reduceSub, Int.reduceEq, Int.reduceLT, Int.reduceLE, Int.reduceToNat]
    refine loop (fun p : Nat × Nat => ⟨[(2, .bx m 0), (3, .bx (m + 1) 0), (6, .i .i64 0)], (m + 1, .bx [.i .i64 y.k, .i .i64 y.n, .s y.s, .ds [], .ds []]) :: (m, .bx [.i .i64 x.k, .i .i64 x.n, .s x.s, .ds [], .ds []]) :: hp, p.2⟩) (fun p => m + 2 ≤ p.2) (fun p => 0) (0, k) ?_ ?_ (fun ⟨j, k2⟩ hj2 => ?_)
    · exact hj
    · refine weak_ok ?_ (Sub.cons ?_ (Sub.cons ?_ (Sub.base hf ?_))) (Nat.le_refl _)
      all_goals (simp (disch := omega) only [ite_ne, go_sem, ↓reduceIte, Nat.reduceEqDiff, Nat.reduceBEq, Nat.reduceAdd, Nat.reduceLeDiff, Nat.reduceLT, reduceCtorEq, Nat.reduceMul, Nat.reduceSub, Int.reduceEq, Int.reduceLT, Int.reduceLE, Int.reduceToNat])
    dsimp only at hj2
    simp (disch := omega) only [ite_ne, go_sem, ↓reduceIte, Nat.reduceEqDiff, Nat.reduceBEq, Nat.reduceAdd, Nat.reduceLeDiff, Nat.reduceLT, reduceCtorEq, Nat.reduceMul, Nat.reduceSub, Int.reduceEq, Int.reduceLT, Int.reduceLE, Int.reduceToNat]
theorem samePath_ne (a b : List Val) (ha : a.length ≤ 1000000000000) (hb : b.length ≤ 1000000000000) (hxa : ∀ x ∈ a, Flt x) (hxb : ∀ x ∈ b, Flt x) (hne : a ≠ b) (hp : CH) (m : Nat) : MeetsF Tryd.prog 24 hp m [.ds (mapC valC a), .ds (mapC valC b)] (.b false) := by
  by_cases hl : a.length = b.length
  · have hl' : ((a.length : Int) = (b.length : Int)) = True := eq_true (by omega)
    refine meetsF Tryd.func24 (by kernel_rfl) cc24 cr24 rfl fun hf => ?_; unfold ck24
    simp only [hl', go_sem, ↓reduceIte, Nat.reduceEqDiff, Nat.reduceBEq, Nat.reduceAdd, Nat.reduceLeDiff, Nat.reduceLT, reduceCtorEq, Nat.reduceMul, Nat.reduceSub, Int.reduceEq, Int.reduceLT, Int.reduceLE, Int.reduceToNat]
    refine loop (fun p : Nat × Nat => ⟨[(0, .ds (mapC valC a)), (1, .ds (mapC valC b)), (5, .i .i64 p.1)], hp, p.2⟩) (fun p => p.1 ≤ a.length ∧ a.take p.1 = b.take p.1) (fun p => a.length - p.1) (0, m) ?_ ?_ (fun ⟨j, k⟩ hj => ?_)
    · exact ⟨by simp, by simp⟩
    · refine weak_ok ?_ (Sub.refl _) (Nat.le_refl _)
      simp only [go_sem, ↓reduceIte, Nat.reduceEqDiff, Nat.reduceBEq, Nat.reduceAdd, Nat.reduceLeDiff, Nat.reduceLT, reduceCtorEq, Nat.reduceMul, Nat.reduceSub, Int.reduceEq, Int.reduceLT, Int.reduceLE, Int.reduceToNat]
    dsimp only at hj
    obtain ⟨hj, hj2⟩ := hj
    simp only [go_sem, ↓reduceIte, Nat.reduceEqDiff, Nat.reduceBEq, Nat.reduceAdd, Nat.reduceLeDiff, Nat.reduceLT, reduceCtorEq, Nat.reduceMul, Nat.reduceSub, Int.reduceEq, Int.reduceLT, Int.reduceLE, Int.reduceToNat]
    refine cdK_of (fun q => ?_) (fun q => ?_)
    · have q : j < a.length := by simpa using q
      have q2 : j < b.length := by omega
      obtain ⟨x, ex⟩ : ∃ x, a[j]? = some x := ⟨a[j], by simp [q]⟩
      obtain ⟨y, ey⟩ : ∃ y, b[j]? = some y := ⟨b[j], by simp [q2]⟩
      have he := equal_flat x y (hxa x (List.mem_of_getElem? ex)) (hxb y (List.mem_of_getElem? ey))
      simp only [q, q2, getK_s (mapC_get valC ex), getK_s (mapC_get valC ey), go_sem, ↓reduceIte, Nat.reduceEqDiff, Nat.reduceBEq, Nat.reduceAdd, Nat.reduceLeDiff, Nat.reduceLT, reduceCtorEq, Nat.reduceMul, Nat.reduceSub, Int.reduceEq, Int.reduceLT, Int.reduceLE, Int.reduceToNat]
      refine dCallR.f (fun _ hp' e => he _ _) ?_
      simp only [go_sem, ↓reduceIte, Nat.reduceEqDiff, Nat.reduceBEq, Nat.reduceAdd, Nat.reduceLeDiff, Nat.reduceLT, reduceCtorEq, Nat.reduceMul, Nat.reduceSub, Int.reduceEq, Int.reduceLT, Int.reduceLE, Int.reduceToNat]
      refine cdK_of (fun c => ?_) (fun c => ?_)
      · simp only [go_sem, ↓reduceIte, Nat.reduceEqDiff, Nat.reduceBEq, Nat.reduceAdd, Nat.reduceLeDiff, Nat.reduceLT, reduceCtorEq, Nat.reduceMul, Nat.reduceSub, Int.reduceEq, Int.reduceLT, Int.reduceLE, Int.reduceToNat]
      · have c : x = y := by
          simp only [Bool.not_eq_false', Bool.and_eq_true, decide_eq_true_eq] at c
          obtain ⟨⟨c1, c2⟩, c3⟩ := c
          obtain ⟨x1, x2⟩ := hxa x (List.mem_of_getElem? ex)
          obtain ⟨y1, y2⟩ := hxb y (List.mem_of_getElem? ey)
          cases x with | mk k1 n1 s1 i1 l1 => cases y with | mk k2 n2 s2 i2 l2 =>
            simp only [Val.k_mk, Val.n_mk, Val.s_mk, Val.items_mk, Val.keys_mk] at c1 c2 c3 x1 x2 y1 y2
            subst c1 c2 c3 x1 x2 y1 y2
            rfl
        simp only [go_sem, ↓reduceIte, Nat.reduceEqDiff, Nat.reduceBEq, Nat.reduceAdd, Nat.reduceLeDiff, Nat.reduceLT, reduceCtorEq, Nat.reduceMul, Nat.reduceSub, Int.reduceEq, Int.reduceLT, Int.reduceLE, Int.reduceToNat]
        refine ⟨(j + 1, _), ⟨by dsimp only; omega, ?_⟩, by dsimp only; omega, weak_ok ?_ (Sub.refl _) (Nat.le_refl _)⟩
        · rw [← take_snoc ex, ← take_snoc ey, hj2, c]
        simp only [wr64s j (by omega), go_sem, ↓reduceIte, Nat.reduceEqDiff, Nat.reduceBEq, Nat.reduceAdd, Nat.reduceLeDiff, Nat.reduceLT, reduceCtorEq, Nat.reduceMul, Nat.reduceSub, Int.reduceEq, Int.reduceLT, Int.reduceLE, Int.reduceToNat]
    · have q : j = a.length := by simp at q; omega
      subst q
      rw [List.take_length, hl, List.take_length] at hj2
      exact absurd hj2 hne
  · have hl' : ((a.length : Int) = (b.length : Int)) = False := eq_false (by omega)
    refine meetsF Tryd.func24 (by kernel_rfl) cc24 cr24 rfl fun hf => ?_; unfold ck24
    simp only [hl', go_sem, ↓reduceIte, Nat.reduceEqDiff, Nat.reduceBEq, Nat.reduceAdd, Nat.reduceLeDiff, Nat.reduceLT, reduceCtorEq, Nat.reduceMul, Nat.reduceSub, Int.reduceEq, Int.reduceLT, Int.reduceLE, Int.reduceToNat]
theorem meets_ok (v : Val) (hv : v.Fit) (path : List Val) (hl : path.length ≤ 1000000000000) (hp : CH) (m : Nat) : MeetsF Tryd.prog 23 hp m [vx v, .ds (mapC valC path)] (.b (mtB v path)) := by
  obtain ⟨R, hR⟩ : ∃ R, mtB v path = R := ⟨_, rfl⟩
  rw [hR]
  refine meetsF Tryd.func23 (by kernel_rfl) cc23 cr23 rfl fun hf => ?_; unfold ck23
  simp only [go_sem, ↓reduceIte, Nat.reduceEqDiff, Nat.reduceBEq, Nat.reduceAdd, Nat.reduceLeDiff, Nat.reduceLT, reduceCtorEq, Nat.reduceMul, Nat.reduceSub, Int.reduceEq, Int.reduceLT, Int.reduceLE, Int.reduceToNat]
  refine loop (fun p : (Nat × Val) × Nat => ⟨[(1, .ds (mapC valC path)), (2, .bx m 0), (5, .i .i64 p.1.1)], (m, .bx [.i .i64 p.1.2.k, .i .i64 p.1.2.n, .s p.1.2.s, .ds (mapC valC p.1.2.items), .ds (stC p.1.2.keys)]) :: hp, p.2⟩)
    (fun p => p.1.1 ≤ path.length ∧ p.1.2.Fit ∧ m + 1 ≤ p.2 ∧ R = mtB p.1.2 (path.drop p.1.1)) (fun p => path.length - p.1.1) ((0, v), m + 1) ?_ ?_ (fun ⟨⟨j, w⟩, k⟩ hj => ?_)
  · exact ⟨by simp, hv, by simp, hR.symm⟩
  · refine weak_ok ?_ (Sub.cons ?_ (Sub.base hf ?_)) (Nat.le_refl _)
    all_goals (simp (disch := omega) only [ite_ne, go_sem, ↓reduceIte, Nat.reduceEqDiff, Nat.reduceBEq, Nat.reduceAdd, Nat.reduceLeDiff, Nat.reduceLT, reduceCtorEq, Nat.reduceMul, Nat.reduceSub, Int.reduceEq, Int.reduceLT, Int.reduceLE, Int.reduceToNat])
  dsimp only at hj
  obtain ⟨hj1, hj2, hj3, hj4⟩ := hj
  have li := hj2.i
  simp (disch := omega) only [ite_ne, go_sem, ↓reduceIte, Nat.reduceEqDiff, Nat.reduceBEq, Nat.reduceAdd, Nat.reduceLeDiff, Nat.reduceLT, reduceCtorEq, Nat.reduceMul, Nat.reduceSub, Int.reduceEq, Int.reduceLT, Int.reduceLE, Int.reduceToNat]
  refine cdK_of (fun q => ?_) (fun q => ?_)
  · have q : j < path.length ∧ ¬ w.k = 0 := by simpa using q
    obtain ⟨q, k0⟩ := q
    obtain ⟨x, ex⟩ : ∃ x, path[j]? = some x := ⟨path[j], by simp [q]⟩
    rw [drop_at ex, mtB, if_neg k0] at hj4
    have hget := rget_ok w hj2 x.s
    rw [resV_eq] at hget
    by_cases c : x.k = 2 ∧ w.k = 5 ∧ 0 ≤ x.n ∧ x.n < w.items.length
    · rw [if_pos c] at hj4
      obtain ⟨c1, c2, c3, c4⟩ := c
      obtain ⟨i, hi⟩ : ∃ i : Nat, x.n = i := ⟨x.n.toNat, by omega⟩
      have hil : i < w.items.length := by omega
      obtain ⟨y, ey⟩ : ∃ y, w.items[i]? = some y := ⟨w.items[i], by simp [hil]⟩
      have hyF := hj2.x (List.mem_of_getElem? ey)
      have e1 : w.items.getD x.n.toNat zVal = y := by
        rw [hi, Int.toNat_natCast, List.getD_eq_getElem?_getD, ey]; rfl
      rw [e1] at hj4
      have d1 : decide (x.k = 2) = true := decide_eq_true c1
      have d2 : decide (w.k = 5) = true := decide_eq_true c2
      simp (disch := omega) only [ite_ne, q, d1, d2, hi, hil, getK_s (mapC_get valC ex), getK_s (mapC_get valC ey), mapC_get valC ex, go_sem, ↓reduceIte, Nat.reduceEqDiff, Nat.reduceBEq, Nat.reduceAdd, Nat.reduceLeDiff, Nat.reduceLT, reduceCtorEq, Nat.reduceMul, Nat.reduceSub, Int.reduceEq, Int.reduceLT, Int.reduceLE, Int.reduceToNat]
      refine cdK_of (fun _ => ?_) (fun c' => by simp only [decide_eq_false_iff_not] at c'; omega)
      simp (disch := omega) only [ite_ne, q, d1, d2, hi, hil, getK_s (mapC_get valC ex), getK_s (mapC_get valC ey), mapC_get valC ex, mapC_get valC ey, go_sem, ↓reduceIte, Nat.reduceEqDiff, Nat.reduceBEq, Nat.reduceAdd, Nat.reduceLeDiff, Nat.reduceLT, reduceCtorEq, Nat.reduceMul, Nat.reduceSub, Int.reduceEq, Int.reduceLT, Int.reduceLE, Int.reduceToNat]
      refine ⟨((j + 1, y), _), ⟨by dsimp only; omega, hyF, by dsimp only; omega, hj4⟩, by dsimp only; omega, weak_ok ?_ (Sub.cons ?_ (Sub.base hf ?_)) (Nat.le_refl _)⟩
      all_goals
        simp (disch := omega) only [ite_ne, wr64s j (by omega), go_sem, ↓reduceIte, Nat.reduceEqDiff, Nat.reduceBEq, Nat.reduceAdd, Nat.reduceLeDiff, Nat.reduceLT, reduceCtorEq, Nat.reduceMul, Nat.reduceSub, Int.reduceEq, Int.reduceLT, Int.reduceLE, Int.reduceToNat]
    · rw [if_neg c] at hj4
      have cd : (decide (x.k = 2) && decide (w.k = 5) && decide (0 ≤ x.n) && decide (x.n < (w.items.length : Int))) = false := by
        cases e : (decide (x.k = 2) && decide (w.k = 5) && decide (0 ≤ x.n) && decide (x.n < (w.items.length : Int))) with
        | false => rfl
        | true => exact absurd (by simpa [and_assoc] using e) c
      simp (disch := omega) only [ite_ne, q, getK_s (mapC_get valC ex), mapC_get valC ex, go_sem, ↓reduceIte, Nat.reduceEqDiff, Nat.reduceBEq, Nat.reduceAdd, Nat.reduceLeDiff, Nat.reduceLT, reduceCtorEq, Nat.reduceMul, Nat.reduceSub, Int.reduceEq, Int.reduceLT, Int.reduceLE, Int.reduceToNat]
      refine cdK_of (fun c' => by rw [cd] at c'; cases c') (fun _ => ?_)
      simp (disch := omega) only [ite_ne, q, getK_s (mapC_get valC ex), mapC_get valC ex, go_sem, ↓reduceIte, Nat.reduceEqDiff, Nat.reduceBEq, Nat.reduceAdd, Nat.reduceLeDiff, Nat.reduceLT, reduceCtorEq, Nat.reduceMul, Nat.reduceSub, Int.reduceEq, Int.reduceLT, Int.reduceLE, Int.reduceToNat]
      cases hg : getV w x.s with
      | none =>
        rw [hg] at hget hj4
        have : R = false := hj4
        subst this
        refine dCallR.f (fun _ hp' e => hget _ _) ?_
        simp (disch := omega) only [ite_ne, q, getK_s (mapC_get valC ex), mapC_get valC ex, go_sem, ↓reduceIte, Nat.reduceEqDiff, Nat.reduceBEq, Nat.reduceAdd, Nat.reduceLeDiff, Nat.reduceLT, reduceCtorEq, Nat.reduceMul, Nat.reduceSub, Int.reduceEq, Int.reduceLT, Int.reduceLE, Int.reduceToNat]
        omega
      | some z =>
        rw [hg] at hget hj4
        have hzF := hj2.x (getV_mem hg)
        have hj4 : R = if x.k = 3 then mtB z (path.drop (j + 1)) else false := hj4
        have hget : ∀ (hp : CH) (m : Nat), MeetsF Tryd.prog 53 hp m [vx w, AV.s x.s] (AV.tp [vx z, AV.b true]) := hget
        refine dCallR.f (fun _ hp' e => hget _ _) ?_
        by_cases k3 : x.k = 3
        · rw [if_pos k3] at hj4
          have d3 : decide (x.k = 3) = true := decide_eq_true k3
          simp (disch := omega) only [ite_ne, q, d3, getK_s (mapC_get valC ex), mapC_get valC ex, go_sem, ↓reduceIte, Nat.reduceEqDiff, Nat.reduceBEq, Nat.reduceAdd, Nat.reduceLeDiff, Nat.reduceLT, reduceCtorEq, Nat.reduceMul, Nat.reduceSub, Int.reduceEq, Int.reduceLT, Int.reduceLE, Int.reduceToNat]
          refine ⟨by omega, ((j + 1, z), _), ⟨by dsimp only; omega, hzF, by dsimp only; omega, hj4⟩, by dsimp only; omega, weak_ok ?_ (Sub.cons ?_ (Sub.base hf ?_)) (Nat.le_refl _)⟩
          all_goals
            simp (disch := omega) only [ite_ne, wr64s j (by omega), go_sem, ↓reduceIte, Nat.reduceEqDiff, Nat.reduceBEq, Nat.reduceAdd, Nat.reduceLeDiff, Nat.reduceLT, reduceCtorEq, Nat.reduceMul, Nat.reduceSub, Int.reduceEq, Int.reduceLT, Int.reduceLE, Int.reduceToNat]
        · rw [if_neg k3] at hj4
          subst hj4
          have d3 : decide (x.k = 3) = false := decide_eq_false k3
          simp (disch := omega) only [ite_ne, q, d3, getK_s (mapC_get valC ex), mapC_get valC ex, go_sem, ↓reduceIte, Nat.reduceEqDiff, Nat.reduceBEq, Nat.reduceAdd, Nat.reduceLeDiff, Nat.reduceLT, reduceCtorEq, Nat.reduceMul, Nat.reduceSub, Int.reduceEq, Int.reduceLT, Int.reduceLE, Int.reduceToNat]
          omega
  · have hR : R = decide (w.k = 0) := by
      rw [hj4]
      by_cases k0 : w.k = 0
      · cases path.drop j with
        | nil => rw [mtB]
        | cons s r => rw [mtB, if_pos k0, decide_eq_true k0]
      · have : j = path.length := by simp [k0] at q; omega
        subst this
        rw [List.drop_length, mtB]
    simp (disch := omega) only [ite_ne, go_sem, ↓reduceIte, Nat.reduceEqDiff, Nat.reduceBEq, Nat.reduceAdd, Nat.reduceLeDiff, Nat.reduceLT, reduceCtorEq, Nat.reduceMul, Nat.reduceSub, Int.reduceEq, Int.reduceLT, Int.reduceLE, Int.reduceToNat]
    rw [hR]
theorem nodup_get {α : Type} : ∀ {l : List α}, l.Nodup → ∀ {i j : Nat} {x y : α}, i < j → l[i]? = some x → l[j]? = some y → x ≠ y
  | a :: l, h, 0, j + 1, x, y, _, hx, hy, e => by
    rw [List.nodup_cons] at h
    simp only [List.getElem?_cons_zero, Option.some.injEq] at hx
    rw [List.getElem?_cons_succ] at hy
    subst hx e
    exact h.1 (List.mem_of_getElem? hy)
  | a :: l, h, i + 1, j + 1, x, y, hij, hx, hy, e => by
    rw [List.nodup_cons] at h
    rw [List.getElem?_cons_succ] at hx hy
    exact nodup_get h.2 (Nat.lt_of_succ_lt_succ hij) hx hy e
theorem lawNulls22 (doc : List Dfn) (root : ByteArray) (l : List Pk) (v : Val) (h : CQ doc l v) (hp : CH) (m : Nat) : MeetsF Tryd.prog 7 hp m [cse doc root l v] (.b true) := by
  have hE := expected_ok doc root l v h
  have hw := h.vs.w
  have h1 := tRun_ok doc h.d.ok root l h.p v h.vs.f h.vs.r (by omega) h.cnt
  obtain ⟨f1, f2, f3⟩ := run_fit h root
  have hfl := cpl_flat doc v root [] l [] (by simp)
  have hmt : expV doc l v = true → ∀ q ∈ (cplV doc v root [] l []).2, mtB (cplV doc v root [] l []).1 q.p = true := fun he q hq => by
    obtain ⟨r, e1, e2⟩ := cmp_meets doc v root [] l [] (expV_good he) q hq
    rw [e1, List.nil_append]
    exact e2
  have hnd : expV doc l v = true → ((cplV doc v root [] l []).2.map Prb.p).Nodup := fun he => cmp_paths doc v root [] l [] (expV_good he)
  have hnl : (cplV doc v root [] l []).2 = [] → (cplV doc v root [] l []).1.k = 0 → v.k = 0 := fun e1 e2 => (cmp_null doc v root [] l [] e1 e2).1
  obtain ⟨R, hR⟩ : ∃ R, cplV doc v root [] l [] = R := ⟨_, rfl⟩
  rw [hR] at h1 f1 f2 f3 hfl hmt hnd hnl
  refine meetsF Tryd.func7 (by kernel_rfl) cc7 cr7 rfl fun hf => ?_; unfold ck7
  simp only [go_sem, ↓reduceIte, Nat.reduceEqDiff, Nat.reduceBEq, Nat.reduceAdd, Nat.reduceLeDiff, Nat.reduceLT, reduceCtorEq, Nat.reduceMul, Nat.reduceSub, Int.reduceEq, Int.reduceLT, Int.reduceLE, Int.reduceToNat]
  refine vcCall.f (hE _ _) ?_
  simp only [go_sem, ↓reduceIte, Nat.reduceEqDiff, Nat.reduceBEq, Nat.reduceAdd, Nat.reduceLeDiff, Nat.reduceLT, reduceCtorEq, Nat.reduceMul, Nat.reduceSub, Int.reduceEq, Int.reduceLT, Int.reduceLE, Int.reduceToNat]
  refine cdK_of (fun c => ?_) (fun c => ?_)
  · simp only [go_sem, ↓reduceIte, Nat.reduceEqDiff, Nat.reduceBEq, Nat.reduceAdd, Nat.reduceLeDiff, Nat.reduceLT, reduceCtorEq, Nat.reduceMul, Nat.reduceSub, Int.reduceEq, Int.reduceLT, Int.reduceLE, Int.reduceToNat]
    refine vcCall.f (exh22_ok _ _) ?_
    simp only [go_sem, ↓reduceIte, Nat.reduceEqDiff, Nat.reduceBEq, Nat.reduceAdd, Nat.reduceLeDiff, Nat.reduceLT, reduceCtorEq, Nat.reduceMul, Nat.reduceSub, Int.reduceEq, Int.reduceLT, Int.reduceLE, Int.reduceToNat]
  have c : expV doc l v = true := by simpa using c
  have hmt := hmt c
  have hnd := hnd c
  simp only [go_sem, ↓reduceIte, Nat.reduceEqDiff, Nat.reduceBEq, Nat.reduceAdd, Nat.reduceLeDiff, Nat.reduceLT, reduceCtorEq, Nat.reduceMul, Nat.reduceSub, Int.reduceEq, Int.reduceLT, Int.reduceLE, Int.reduceToNat]
  refine vcCall.f (h1 _ _) ?_
  simp (disch := omega) only [ite_ne, go_sem, ↓reduceIte, Nat.reduceEqDiff, Nat.reduceBEq, Nat.reduceAdd, Nat.reduceLeDiff, Nat.reduceLT, reduceCtorEq, Nat.reduceMul, Nat.reduceSub, Int.reduceEq, Int.reduceLT, Int.reduceLE, Int.reduceToNat]
  refine loop (fun p : Nat × Nat => ⟨[(1, .bx m 0), (3, .bx (m + 1) 0), (4, .ds (mapC prbC R.2)), (5, .i .i64 p.1)], (m + 1, .bx [.i .i64 R.1.k, .i .i64 R.1.n, .s R.1.s, .ds (mapC valC R.1.items), .ds (stC R.1.keys)]) :: (m, .bx [.ds (mapC dfC doc), .s root, .ds (mapC pkC l), .i .i64 v.k, .i .i64 v.n, .s v.s, .ds (mapC valC v.items), .ds (stC v.keys)]) :: hp, p.2⟩)
    (fun p => p.1 ≤ R.2.length ∧ m + 2 ≤ p.2) (fun p => R.2.length - p.1) (0, m + 2) ?_ ?_ (fun ⟨j, k⟩ hj => ?_)
  · exact ⟨by simp, by simp⟩
  · refine weak_ok ?_ (Sub.cons ?_ (Sub.cons ?_ (Sub.base hf ?_))) (Nat.le_refl _)
    all_goals (simp (disch := omega) only [ite_ne, go_sem, ↓reduceIte, Nat.reduceEqDiff, Nat.reduceBEq, Nat.reduceAdd, Nat.reduceLeDiff, Nat.reduceLT, reduceCtorEq, Nat.reduceMul, Nat.reduceSub, Int.reduceEq, Int.reduceLT, Int.reduceLE, Int.reduceToNat])
  dsimp only at hj
  obtain ⟨hj1, hj2⟩ := hj
  simp (disch := omega) only [ite_ne, go_sem, ↓reduceIte, Nat.reduceEqDiff, Nat.reduceBEq, Nat.reduceAdd, Nat.reduceLeDiff, Nat.reduceLT, reduceCtorEq, Nat.reduceMul, Nat.reduceSub, Int.reduceEq, Int.reduceLT, Int.reduceLE, Int.reduceToNat]
  refine cdK_of (fun q => ?_) (fun q => ?_)
  · have q : j < R.2.length := by simpa using q
    obtain ⟨x, ex⟩ : ∃ x, R.2[j]? = some x := ⟨R.2[j], by simp [q]⟩
    have hxm := List.mem_of_getElem? ex
    have hxl := (f3 x hxm).1
    have hme := meets_ok R.1 f1 x.p (by omega)
    rw [hmt x hxm] at hme
    simp (disch := omega) only [ite_ne, q, getK_s (mapC_get prbC ex), go_sem, ↓reduceIte, Nat.reduceEqDiff, Nat.reduceBEq, Nat.reduceAdd, Nat.reduceLeDiff, Nat.reduceLT, reduceCtorEq, Nat.reduceMul, Nat.reduceSub, Int.reduceEq, Int.reduceLT, Int.reduceLE, Int.reduceToNat]
    refine dCallR.f (fun _ hp' e => hme _ _) ?_
    simp (disch := omega) only [ite_ne, q, getK_s (mapC_get prbC ex), go_sem, ↓reduceIte, Nat.reduceEqDiff, Nat.reduceBEq, Nat.reduceAdd, Nat.reduceLeDiff, Nat.reduceLT, reduceCtorEq, Nat.reduceMul, Nat.reduceSub, Int.reduceEq, Int.reduceLT, Int.reduceLE, Int.reduceToNat]
    refine loop (fun p : Nat × Nat => ⟨[(1, .bx m 0), (3, .bx (m + 1) 0), (4, .ds (mapC prbC R.2)), (5, .i .i64 j), (6, .i .i64 p.1)], (m + 1, .bx [.i .i64 R.1.k, .i .i64 R.1.n, .s R.1.s, .ds (mapC valC R.1.items), .ds (stC R.1.keys)]) :: (m, .bx [.ds (mapC dfC doc), .s root, .ds (mapC pkC l), .i .i64 v.k, .i .i64 v.n, .s v.s, .ds (mapC valC v.items), .ds (stC v.keys)]) :: hp, p.2⟩)
      (fun p => p.1 ≤ j ∧ m + 2 ≤ p.2) (fun p => j - p.1) (0, k + 8) ?_ ?_ (fun ⟨i, k2⟩ hi => ?_)
    · exact ⟨by simp, by dsimp only; omega⟩
    · refine weak_ok ?_ (Sub.cons ?_ (Sub.cons ?_ (Sub.base hf ?_))) (Nat.le_refl _)
      all_goals (simp (disch := omega) only [ite_ne, go_sem, ↓reduceIte, Nat.reduceEqDiff, Nat.reduceBEq, Nat.reduceAdd, Nat.reduceLeDiff, Nat.reduceLT, reduceCtorEq, Nat.reduceMul, Nat.reduceSub, Int.reduceEq, Int.reduceLT, Int.reduceLE, Int.reduceToNat])
    dsimp only at hi
    obtain ⟨hi1, hi2⟩ := hi
    simp (disch := omega) only [ite_ne, go_sem, ↓reduceIte, Nat.reduceEqDiff, Nat.reduceBEq, Nat.reduceAdd, Nat.reduceLeDiff, Nat.reduceLT, reduceCtorEq, Nat.reduceMul, Nat.reduceSub, Int.reduceEq, Int.reduceLT, Int.reduceLE, Int.reduceToNat]
    refine cdK_of (fun q2 => ?_) (fun q2 => ?_)
    · have q2 : i < j := by simpa using q2
      have q3 : i < R.2.length := by omega
      obtain ⟨y, ey⟩ : ∃ y, R.2[i]? = some y := ⟨R.2[i], by simp [q3]⟩
      have hym := List.mem_of_getElem? ey
      have hyl := (f3 y hym).1
      have hne : x.p ≠ y.p := fun e => nodup_get hnd q2 (x := y.p) (y := x.p) (by rw [List.getElem?_map, ey]; rfl) (by rw [List.getElem?_map, ex]; rfl) e.symm
      have hsp := samePath_ne x.p y.p (by omega) (by omega) (hfl x hxm) (hfl y hym) hne
      simp (disch := omega) only [ite_ne, q, q3, getK_s (mapC_get prbC ex), getK_s (mapC_get prbC ey), go_sem, ↓reduceIte, Nat.reduceEqDiff, Nat.reduceBEq, Nat.reduceAdd, Nat.reduceLeDiff, Nat.reduceLT, reduceCtorEq, Nat.reduceMul, Nat.reduceSub, Int.reduceEq, Int.reduceLT, Int.reduceLE, Int.reduceToNat]
      refine dCallR.f (fun _ hp' e => hsp _ _) ?_
      simp (disch := omega) only [ite_ne, go_sem, ↓reduceIte, Nat.reduceEqDiff, Nat.reduceBEq, Nat.reduceAdd, Nat.reduceLeDiff, Nat.reduceLT, reduceCtorEq, Nat.reduceMul, Nat.reduceSub, Int.reduceEq, Int.reduceLT, Int.reduceLE, Int.reduceToNat]
      refine ⟨(i + 1, _), ⟨by dsimp only; omega, by dsimp only; omega⟩, by dsimp only; omega, weak_ok ?_ (Sub.cons ?_ (Sub.cons ?_ (Sub.base hf ?_))) (Nat.le_refl _)⟩
      all_goals
        simp (disch := omega) only [ite_ne, wr64s i (by omega), go_sem, ↓reduceIte, Nat.reduceEqDiff, Nat.reduceBEq, Nat.reduceAdd, Nat.reduceLeDiff, Nat.reduceLT, reduceCtorEq, Nat.reduceMul, Nat.reduceSub, Int.reduceEq, Int.reduceLT, Int.reduceLE, Int.reduceToNat]
    · have q2 : i = j := by simp at q2; omega
      subst q2
      simp (disch := omega) only [ite_ne, go_sem, ↓reduceIte, Nat.reduceEqDiff, Nat.reduceBEq, Nat.reduceAdd, Nat.reduceLeDiff, Nat.reduceLT, reduceCtorEq, Nat.reduceMul, Nat.reduceSub, Int.reduceEq, Int.reduceLT, Int.reduceLE, Int.reduceToNat]
      refine ⟨(i + 1, _), ⟨by dsimp only; omega, by dsimp only; omega⟩, by dsimp only; omega, weak_ok ?_ (Sub.cons ?_ (Sub.cons ?_ (Sub.base hf ?_))) (Nat.le_refl _)⟩
      all_goals
        simp (disch := omega) only [ite_ne, wr64s i (by omega), go_sem, ↓reduceIte, Nat.reduceEqDiff, Nat.reduceBEq, Nat.reduceAdd, Nat.reduceLeDiff, Nat.reduceLT, reduceCtorEq, Nat.reduceMul, Nat.reduceSub, Int.reduceEq, Int.reduceLT, Int.reduceLE, Int.reduceToNat]
  · have q : j = R.2.length := by simp at q; omega
    subst q
    have hfin : (decide ((0 : Int) < (R.2.length : Int)) || !decide (R.1.k = 0) || decide (v.k = 0)) = true := by
      by_cases e1 : R.2 = []
      · by_cases e2 : R.1.k = 0
        · simp [hnl e1 e2]
        · simp [e2]
      · have : 0 < R.2.length := List.length_pos_iff.2 e1
        simp [this]
    simp (disch := omega) only [ite_ne, go_sem, ↓reduceIte, Nat.reduceEqDiff, Nat.reduceBEq, Nat.reduceAdd, Nat.reduceLeDiff, Nat.reduceLT, reduceCtorEq, Nat.reduceMul, Nat.reduceSub, Int.reduceEq, Int.reduceLT, Int.reduceLE, Int.reduceToNat]
    refine gCall.f (fun _ => exh22_ok _ _) ?_
    simp (disch := omega) only [ite_ne, hfin, go_sem, ↓reduceIte, Nat.reduceEqDiff, Nat.reduceBEq, Nat.reduceAdd, Nat.reduceLeDiff, Nat.reduceLT, reduceCtorEq, Nat.reduceMul, Nat.reduceSub, Int.reduceEq, Int.reduceLT, Int.reduceLE, Int.reduceToNat]
end Go.Proofs.YtgollgfifnmaaaaDoor
