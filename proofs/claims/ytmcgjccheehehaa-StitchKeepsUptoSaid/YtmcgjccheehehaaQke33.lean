/-
  The parts SaE of the proof, in one file. Conditions: none.
-/
import Derived.Test.YtmcgjccheehehaaQke32
namespace Go.Proofs.Ytmcgjccheehehaa
open Go.Eng
set_option linter.unusedVariables false
set_option linter.unusedSimpArgs false
set_option maxRecDepth 20000
theorem ix_take (k : ByteArray) : ∀ (l : List ByteArray) (j n : Nat), (0 ≤ ix k (l.take n) j ↔ (0 ≤ ix k l j ∧ ix k l j < (j + n : Nat))) ∧ (0 ≤ ix k (l.take n) j → ix k (l.take n) j = ix k l j)
  | [], j, n => by simp [ix]
  | x :: l, j, 0 => by
    have := ix_lt k (x :: l) j
    rw [List.take_zero]
    unfold ix
    refine ⟨⟨fun h => by simp at h, fun h => ?_⟩, fun h => by simp at h⟩
    have h2 := h.2
    unfold ix at this
    omega
  | x :: l, j, n + 1 => by
    have h1 := ix_take k l (j + 1) n
    rw [List.take_succ_cons]
    unfold ix
    split
    · refine ⟨⟨fun h => ⟨h, by omega⟩, fun h => h.1⟩, fun _ => rfl⟩
    · rw [show j + (n + 1) = j + 1 + n by omega]
      exact h1
theorem getV_ix {v : Val} (h : v.k = 6) (k : ByteArray) : getV v k = if 0 ≤ ixO v k then v.items[(ixO v k).toNat]? else none := by
  have h1 := ix_take k v.keys 0 (szO v)
  have h2 := ix_lt k v.keys 0
  have h3 : ix k (v.keys.take (szO v)) 0 = ixO v k := rfl
  have h4 : szO v = v.keys.length ∨ szO v = v.items.length := by unfold szO; omega
  have h5 := szO_le v
  rw [h3] at h1
  unfold getV
  rw [if_pos h]
  by_cases c : 0 ≤ ixO v k
  · rw [if_pos c, h1.2 c, if_pos (h1.1.1 c).1]
  · rw [if_neg c]
    split
    · rename_i c2
      have := fun q => c (h1.1.2 ⟨c2, q⟩)
      refine List.getElem?_eq_none ?_
      omega
    · rfl
theorem ixO_at {v : Val} {k : ByteArray} (h : 0 ≤ ixO v k) : ∃ x, v.items[(ixO v k).toNat]? = some x := by
  have h1 := ix_lt k (v.keys.take (szO v)) 0
  have h2 := szO_le v
  have h3 : ix k (v.keys.take (szO v)) 0 = ixO v k := rfl
  rw [h3] at h1
  simp at h1
  exact ⟨v.items[(ixO v k).toNat]'(by omega), List.getElem?_eq_getElem (by omega)⟩
/-- The objects at a path, by the field of an object. -/
theorem objV_get (p : List Hop) (v : Val) : objV p v =
    if v.k = 5 then v.items.flatMap (objV p)
    else if v.k = 6 then (match p with
      | [] => [v]
      | h :: p' => if h.o = typT v then (match getV v h.k with | some x => objV p' x | none => []) else [])
    else [] := by
  rw [objV_eq]
  split
  · rfl
  · split
    · rename_i c
      cases p with
      | nil => rfl
      | cons h p' =>
        dsimp only
        rw [getV_ix c]
        by_cases c1 : h.o = typT v
        · by_cases c2 : 0 ≤ ixO v h.k
          · rw [if_pos ⟨c1, c2⟩, if_pos c1, if_pos c2]
            cases v.items[(ixO v h.k).toNat]? <;> rfl
          · rw [if_neg (fun q => c2 q.2), if_pos c1, if_neg c2]
        · rw [if_neg (fun q => c1 q.1), if_neg c1]
    · rfl
theorem flat_len {α β : Type} (f : α → List β) (w : α → Nat) (l : List α) (h : ∀ x ∈ l, (f x).length ≤ w x) : (l.flatMap f).length ≤ (l.map w).sum := by
  induction l with
  | nil => simp
  | cons x l ih =>
    have := h x (by simp)
    have := ih fun y hy => h y (by simp [hy])
    rw [List.flatMap_cons, List.map_cons, List.sum_cons, List.length_append]
    omega
theorem wtL_sum : ∀ (l : List Val), wtL l = (l.map wtV).sum
  | [] => rfl
  | x :: l => by rw [wtL, wtL_sum l]; simp
theorem objV_len (v : Val) : ∀ p, (objV p v).length ≤ wtV v := by
  refine Val.ind (Q := fun v => ∀ p, (objV p v).length ≤ wtV v) (fun v ih p => ?_) v
  have hw := wtV_eq v
  rw [objV_get]
  split
  · have := flat_len (objV p) wtV v.items fun x hx => ih x hx p
    rw [← wtL_sum] at this
    omega
  · split
    · cases p with
      | nil => simp; omega
      | cons h p' =>
        dsimp only
        split
        · cases hg : getV v h.k with
          | none => simp
          | some x =>
            have hm := getV_mem hg
            have := ih x hm p'
            have := wtL_mem hm
            dsimp only
            omega
        · simp
    · simp
theorem objV_fit (v : Val) : v.Fit → ∀ p, ∀ x ∈ objV p v, x.Fit := by
  refine Val.ind (Q := fun v => v.Fit → ∀ p, ∀ x ∈ objV p v, x.Fit) (fun v ih hv p x hx => ?_) v
  rw [objV_get] at hx
  split at hx
  · obtain ⟨y, hy, hx⟩ := List.mem_flatMap.1 hx
    exact ih y hy (hv.x hy) p x hx
  · split at hx
    · cases p with
      | nil =>
        rw [List.mem_singleton.1 hx]
        exact hv
      | cons h p' =>
        dsimp only at hx
        split at hx
        · cases hg : getV v h.k with
          | none => rw [hg] at hx; cases hx
          | some y =>
            rw [hg] at hx
            exact ih y (getV_mem hg) (hv.x (getV_mem hg)) p' x hx
        · cases hx
    · cases hx
theorem count_ok (p : List Hop) (v : Val) (hv : v.Fit) (hp1 : p.length ≤ 1000000000) (hw : wtV v ≤ 100000000000) (hp : CH) (m : Nat) : MeetsF Try.prog 28 hp m [.ds (mapC hopC p), vx v] (.i .i64 (objV p v).length) := by
  have h1 := objects_ok p v hv hp1 hw
  obtain ⟨L, hL⟩ : ∃ L, objV p v = L := ⟨_, rfl⟩
  rw [hL] at h1 ⊢
  refine meetsF Try.func28 (by kernel_rfl) cc28 cr28 rfl fun hf => ?_; unfold ck28
  simp only [go_sem, ↓reduceIte, Nat.reduceEqDiff, Nat.reduceBEq, Nat.reduceAdd, Nat.reduceLeDiff, Nat.reduceLT, reduceCtorEq, Nat.reduceMul, Nat.reduceSub, Int.reduceEq, Int.reduceLT, Int.reduceLE, Int.reduceToNat]
  refine vcCall.f (h1 _ _) ?_
  simp only [go_sem, ↓reduceIte, Nat.reduceEqDiff, Nat.reduceBEq, Nat.reduceAdd, Nat.reduceLeDiff, Nat.reduceLT, reduceCtorEq, Nat.reduceMul, Nat.reduceSub, Int.reduceEq, Int.reduceLT, Int.reduceLE, Int.reduceToNat]
theorem robj_ok (v : Val) : v.Fit → wtV v * 80 ≤ 140737488355327 → ∀ (p : List Hop), p.length ≤ 1000000000 → ∀ (hp : CH) (m : Nat), MeetsF Try.prog 45 hp m [.ds (mapC hopC p), vx v] (.ds (mapC valC (objV p v))) := by
  refine Val.ind (Q := fun v => v.Fit → wtV v * 80 ≤ 140737488355327 → ∀ (p : List Hop), p.length ≤ 1000000000 → ∀ (hp : CH) (m : Nat), MeetsF Try.prog 45 hp m [.ds (mapC hopC p), vx v] (.ds (mapC valC (objV p v)))) (fun v ih hv hw p hpl hp m => ?_) v
  have h1 := hv.i
  have e := objV_get p v
  obtain ⟨R, hR⟩ : ∃ R, objV p v = R := ⟨_, rfl⟩
  rw [hR] at e ⊢
  refine meetsF Try.func45 (by kernel_rfl) cc45 cr45 rfl fun hf => ?_; unfold ck45
  simp only [go_sem, ↓reduceIte, Nat.reduceEqDiff, Nat.reduceBEq, Nat.reduceAdd, Nat.reduceLeDiff, Nat.reduceLT, reduceCtorEq, Nat.reduceMul, Nat.reduceSub, Int.reduceEq, Int.reduceLT, Int.reduceLE, Int.reduceToNat]
  refine cdK_of (fun c => ?_) (fun c => ?_)
  · have c : v.k = 5 := by simpa using c
    rw [if_pos c] at e
    subst e
    simp only [go_sem, ↓reduceIte, Nat.reduceEqDiff, Nat.reduceBEq, Nat.reduceAdd, Nat.reduceLeDiff, Nat.reduceLT, reduceCtorEq, Nat.reduceMul, Nat.reduceSub, Int.reduceEq, Int.reduceLT, Int.reduceLE, Int.reduceToNat]
    refine loop (fun p' : Nat × Nat => ⟨[(0, .ds (mapC hopC p)), (3, .bx m 0), (5, .rw (m + 1) p'.1 ((v.items.take p'.1).flatMap (objV p)).length), (6, .i .i64 p'.1)],
      (m + 1, .rw p'.1 5 (mapC valC ((v.items.take p'.1).flatMap (objV p)))) :: (m, .bx [.i .i64 v.k, .i .i64 v.n, .s v.s, .ds (mapC valC v.items), .ds (stC v.keys)]) :: hp, p'.2⟩) (fun p' => p'.1 ≤ v.items.length ∧ m + 2 ≤ p'.2) (fun p' => v.items.length - p'.1) (0, m + 2) ?_ ?_ (fun ⟨j, n⟩ hj => ?_)
    · simp
    · refine (weak_e0 (t := 5) (m := 5) ?_).trans (weak_ok ?_ (Sub.cons ?_ (Sub.cons ?_ (Sub.base hf ?_))) (Nat.le_refl _))
      all_goals simp only [go_sem, ↓reduceIte, Nat.reduceEqDiff, Nat.reduceBEq, Nat.reduceAdd, Nat.reduceLeDiff, Nat.reduceLT, reduceCtorEq, Nat.reduceMul, Nat.reduceSub, Int.reduceEq, Int.reduceLT, Int.reduceLE, Int.reduceToNat]
    dsimp only at hj
    obtain ⟨hj1, hj2⟩ := hj
    have z1 : ¬ n = m := by omega
    have z2 : ¬ n = m + 1 := by omega
    have z3 : m ≤ n := by omega
    simp only [z1, z2, z3, go_sem, ↓reduceIte, Nat.reduceEqDiff, Nat.reduceBEq, Nat.reduceAdd, Nat.reduceLeDiff, Nat.reduceLT, reduceCtorEq, Nat.reduceMul, Nat.reduceSub, Int.reduceEq, Int.reduceLT, Int.reduceLE, Int.reduceToNat]
    refine cdK_of (fun d => ?_) (fun d => ?_)
    · have d : j < v.items.length := by simpa using d
      obtain ⟨x, ex⟩ : ∃ x, v.items[j]? = some x := ⟨v.items[j], by simp [d]⟩
      have hxm := List.mem_of_getElem? ex
      have hwx : wtV x * 80 ≤ 140737488355327 := by have := wtL_mem hxm; have := wtV_eq v; omega
      have hx := ih x hxm (hv.x hxm) hwx p hpl
      have hl1 := flat_len (objV p) wtV (v.items.take j) fun x _ => objV_len x p
      have hl2 := objV_len x p
      have hl3 : ((v.items.take j).map wtV).sum + wtV x ≤ wtV v := by
        have h1 := wtL_app (v.items.take j) (v.items.drop j)
        rw [List.take_append_drop, drop_at ex, wtL] at h1
        have h2 := wtV_eq v
        rw [← wtL_sum]
        omega
      obtain ⟨X, hX⟩ : ∃ X, objV p x = X := ⟨_, rfl⟩
      obtain ⟨Y, hY⟩ : ∃ Y, (v.items.take j).flatMap (objV p) = Y := ⟨_, rfl⟩
      have hn : (v.items.take (j + 1)).flatMap (objV p) = Y ++ X := by rw [← take_snoc ex, List.flatMap_append, hY]; simp [hX]
      rw [hX] at hl2 hx
      rw [hY] at hl1
      rw [hY]
      simp only [z1, z2, z3, d, getK_s (mapC_get valC ex), go_sem, ↓reduceIte, Nat.reduceEqDiff, Nat.reduceBEq, Nat.reduceAdd, Nat.reduceLeDiff, Nat.reduceLT, reduceCtorEq, Nat.reduceMul, Nat.reduceSub, Int.reduceEq, Int.reduceLT, Int.reduceLE, Int.reduceToNat]
      refine vcCall.f (hx _ _) ?_
      simp only [z1, z2, z3, go_sem, ↓reduceIte, Nat.reduceEqDiff, Nat.reduceBEq, Nat.reduceAdd, Nat.reduceLeDiff, Nat.reduceLT, reduceCtorEq, Nat.reduceMul, Nat.reduceSub, Int.reduceEq, Int.reduceLT, Int.reduceLE, Int.reduceToNat]
      refine ⟨by omega, by omega, (j + 1, n), ⟨d, by dsimp only; omega⟩, by dsimp only; omega, weak_ok ?_ (Sub.cons ?_ (Sub.cons ?_ (Sub.base hf ?_))) (Nat.le_refl _)⟩
      all_goals
        simp only [z1, z2, z3, hn, go_sem, ↓reduceIte, Nat.reduceEqDiff, Nat.reduceBEq, Nat.reduceAdd, Nat.reduceLeDiff, Nat.reduceLT, reduceCtorEq, Nat.reduceMul, Nat.reduceSub, Int.reduceEq, Int.reduceLT, Int.reduceLE, Int.reduceToNat]
      exact ⟨by simp, congrArg _ (wr64s j (by omega))⟩
    · have d : j = v.items.length := by simp at d; omega
      subst d
      simp only [z1, z2, z3, go_sem, ↓reduceIte, Nat.reduceEqDiff, Nat.reduceBEq, Nat.reduceAdd, Nat.reduceLeDiff, Nat.reduceLT, reduceCtorEq, Nat.reduceMul, Nat.reduceSub, Int.reduceEq, Int.reduceLT, Int.reduceLE, Int.reduceToNat]
  have c : ¬ v.k = 5 := by simpa using c
  rw [if_neg c] at e
  simp only [go_sem, ↓reduceIte, Nat.reduceEqDiff, Nat.reduceBEq, Nat.reduceAdd, Nat.reduceLeDiff, Nat.reduceLT, reduceCtorEq, Nat.reduceMul, Nat.reduceSub, Int.reduceEq, Int.reduceLT, Int.reduceLE, Int.reduceToNat]
  refine cdK_of (fun c1 => ?_) (fun c1 => ?_)
  · have c1 : ¬ v.k = 6 := by simpa using c1
    rw [if_neg c1] at e
    subst e
    simp only [go_sem, ↓reduceIte, Nat.reduceEqDiff, Nat.reduceBEq, Nat.reduceAdd, Nat.reduceLeDiff, Nat.reduceLT, reduceCtorEq, Nat.reduceMul, Nat.reduceSub, Int.reduceEq, Int.reduceLT, Int.reduceLE, Int.reduceToNat]
  have c1 : v.k = 6 := by simpa using c1
  rw [if_pos c1] at e
  cases p with
  | nil =>
    dsimp only at e
    subst e
    simp only [go_sem, ↓reduceIte, Nat.reduceEqDiff, Nat.reduceBEq, Nat.reduceAdd, Nat.reduceLeDiff, Nat.reduceLT, reduceCtorEq, Nat.reduceMul, Nat.reduceSub, Int.reduceEq, Int.reduceLT, Int.reduceLE, Int.reduceToNat]
  | cons h p' =>
    dsimp only at e
    have hne : ¬ ((p'.length + 1 : Nat) : Int) = 0 := by omega
    simp only [hne, go_sem, ↓reduceIte, Nat.reduceEqDiff, Nat.reduceBEq, Nat.reduceAdd, Nat.reduceLeDiff, Nat.reduceLT, reduceCtorEq, Nat.reduceMul, Nat.reduceSub, Int.reduceEq, Int.reduceLT, Int.reduceLE, Int.reduceToNat]
    first | refine dCallR.f (fun _ _ _ => rtypeOf_ok v hv _ _) ?_ | refine dCall.f (fun _ _ _ => rtypeOf_ok v hv _ _) ?_
    simp only [go_sem, ↓reduceIte, Nat.reduceEqDiff, Nat.reduceBEq, Nat.reduceAdd, Nat.reduceLeDiff, Nat.reduceLT, reduceCtorEq, Nat.reduceMul, Nat.reduceSub, Int.reduceEq, Int.reduceLT, Int.reduceLE, Int.reduceToNat]
    refine cdK_of (fun c2 => ?_) (fun c2 => ?_)
    · have c2 : ¬ h.o = typT v := by simpa using c2
      rw [if_neg c2] at e
      subst e
      simp only [go_sem, ↓reduceIte, Nat.reduceEqDiff, Nat.reduceBEq, Nat.reduceAdd, Nat.reduceLeDiff, Nat.reduceLT, reduceCtorEq, Nat.reduceMul, Nat.reduceSub, Int.reduceEq, Int.reduceLT, Int.reduceLE, Int.reduceToNat]
    have c2 : h.o = typT v := by simpa using c2
    rw [if_pos c2] at e
    simp only [go_sem, ↓reduceIte, Nat.reduceEqDiff, Nat.reduceBEq, Nat.reduceAdd, Nat.reduceLeDiff, Nat.reduceLT, reduceCtorEq, Nat.reduceMul, Nat.reduceSub, Int.reduceEq, Int.reduceLT, Int.reduceLE, Int.reduceToNat]
    have hg := rget_ok v hv h.k
    cases hG : getV v h.k with
    | none =>
      rw [hG] at e hg
      subst e
      first | refine dCallR.f (fun _ _ _ => hg _ _) ?_ | refine dCall.f (fun _ _ _ => hg _ _) ?_
      simp only [go_sem, ↓reduceIte, Nat.reduceEqDiff, Nat.reduceBEq, Nat.reduceAdd, Nat.reduceLeDiff, Nat.reduceLT, reduceCtorEq, Nat.reduceMul, Nat.reduceSub, Int.reduceEq, Int.reduceLT, Int.reduceLE, Int.reduceToNat]
    | some x =>
      have hxm := getV_mem hG
      have hwx : wtV x * 80 ≤ 140737488355327 := by have := wtL_mem hxm; have := wtV_eq v; omega
      have hx := ih x hxm (hv.x hxm) hwx p' (by simp only [List.length_cons] at hpl; omega)
      rw [hG] at e hg
      dsimp only at e
      subst e
      first | refine dCallR.f (fun _ _ _ => hg _ _) ?_ | refine dCall.f (fun _ _ _ => hg _ _) ?_
      simp only [go_sem, ↓reduceIte, Nat.reduceEqDiff, Nat.reduceBEq, Nat.reduceAdd, Nat.reduceLeDiff, Nat.reduceLT, reduceCtorEq, Nat.reduceMul, Nat.reduceSub, Int.reduceEq, Int.reduceLT, Int.reduceLE, Int.reduceToNat]
      refine ⟨by omega, ?_⟩
      refine dCallR.f (fun _ hp' hh => hx hp' _) ?_
      simp only [go_sem, ↓reduceIte, Nat.reduceEqDiff, Nat.reduceBEq, Nat.reduceAdd, Nat.reduceLeDiff, Nat.reduceLT, reduceCtorEq, Nat.reduceMul, Nat.reduceSub, Int.reduceEq, Int.reduceLT, Int.reduceLE, Int.reduceToNat]
theorem earlier_ok (l : List ByteArray) (i : Nat) (x : ByteArray) (hl : l.length * 16 ≤ 140737488355327) (hx : l[i]? = some x) (hp : CH) (m : Nat) : MeetsF Try.prog 91 hp m [.ds (stC l), .i .i64 i] (.b ((l.take i).any fun y => decide (y = x))) := by
  have hi : i < l.length := (List.getElem?_eq_some_iff.1 hx).1
  obtain ⟨R, hR⟩ : ∃ R, ((l.take i).any fun y => decide (y = x)) = R := ⟨_, rfl⟩
  rw [hR]
  refine meetsF Try.func91 (by kernel_rfl) cc91 cr91 rfl fun hf => ?_; unfold ck91
  simp only [go_sem, ↓reduceIte, Nat.reduceEqDiff, Nat.reduceBEq, Nat.reduceAdd, Nat.reduceLeDiff, Nat.reduceLT, reduceCtorEq, Nat.reduceMul, Nat.reduceSub, Int.reduceEq, Int.reduceLT, Int.reduceLE, Int.reduceToNat]
  refine loop (fun p : Nat × Nat => ⟨[(0, .ds (stC l)), (1, .i .i64 i), (5, .i .i64 p.1)], hp, p.2⟩) (fun p => p.1 ≤ i ∧ ((l.take p.1).any fun y => decide (y = x)) = false) (fun p => i - p.1) (0, m) ?_ ?_ (fun ⟨j, n⟩ hj => ?_)
  · simp
  · refine weak_ok ?_ (Sub.base hf ?_) (Nat.le_refl _)
    all_goals
      simp only [go_sem, ↓reduceIte, Nat.reduceEqDiff, Nat.reduceBEq, Nat.reduceAdd, Nat.reduceLeDiff, Nat.reduceLT, reduceCtorEq, Nat.reduceMul, Nat.reduceSub, Int.reduceEq, Int.reduceLT, Int.reduceLE, Int.reduceToNat]
  dsimp only at hj
  obtain ⟨hj1, hj2⟩ := hj
  simp only [go_sem, ↓reduceIte, Nat.reduceEqDiff, Nat.reduceBEq, Nat.reduceAdd, Nat.reduceLeDiff, Nat.reduceLT, reduceCtorEq, Nat.reduceMul, Nat.reduceSub, Int.reduceEq, Int.reduceLT, Int.reduceLE, Int.reduceToNat]
  refine cdK_of (fun c => ?_) (fun c => ?_)
  · have c : j < i := by simpa using c
    obtain ⟨y, ey⟩ : ∃ y, l[j]? = some y := ⟨l[j]'(by omega), by simp⟩
    have hn : ((l.take (j + 1)).any fun z => decide (z = x)) = decide (y = x) := by
      rw [← take_snoc ey, List.any_append, hj2]
      simp
    have hjl : j < l.length := by omega
    simp only [getK_s (mapC_get st1 ey), getK_s (mapC_get st1 hx), go_sem, ↓reduceIte, Nat.reduceEqDiff, Nat.reduceBEq, Nat.reduceAdd, Nat.reduceLeDiff, Nat.reduceLT, reduceCtorEq, Nat.reduceMul, Nat.reduceSub, Int.reduceEq, Int.reduceLT, Int.reduceLE, Int.reduceToNat]
    refine ⟨hjl, hi, cdK_of (fun d => ?_) (fun d => ?_)⟩
    · have d : y = x := by simpa using d
      have hR : R = true := by
        rw [← hR, List.any_eq_true]
        exact ⟨y, List.mem_of_getElem? (i := j) (by rw [List.getElem?_take, if_pos c]; exact ey), by simpa using d⟩
      subst hR
      simp only [go_sem, ↓reduceIte, Nat.reduceEqDiff, Nat.reduceBEq, Nat.reduceAdd, Nat.reduceLeDiff, Nat.reduceLT, reduceCtorEq, Nat.reduceMul, Nat.reduceSub, Int.reduceEq, Int.reduceLT, Int.reduceLE, Int.reduceToNat]
    · have d : ¬ y = x := by simpa using d
      simp only [go_sem, ↓reduceIte, Nat.reduceEqDiff, Nat.reduceBEq, Nat.reduceAdd, Nat.reduceLeDiff, Nat.reduceLT, reduceCtorEq, Nat.reduceMul, Nat.reduceSub, Int.reduceEq, Int.reduceLT, Int.reduceLE, Int.reduceToNat]
      refine ⟨(j + 1, _), ⟨c, by rw [hn]; simpa using d⟩, by dsimp only; omega, weak_ok ?_ (Sub.base hf ?_) (Nat.le_refl _)⟩
      all_goals
        simp only [go_sem, ↓reduceIte, Nat.reduceEqDiff, Nat.reduceBEq, Nat.reduceAdd, Nat.reduceLeDiff, Nat.reduceLT, reduceCtorEq, Nat.reduceMul, Nat.reduceSub, Int.reduceEq, Int.reduceLT, Int.reduceLE, Int.reduceToNat]
      exact congrArg _ (wr64s j (by omega))
  · have c : j = i := by simp at c; omega
    subst c
    rw [hj2] at hR
    subst hR
    simp only [go_sem, ↓reduceIte, Nat.reduceEqDiff, Nat.reduceBEq, Nat.reduceAdd, Nat.reduceLeDiff, Nat.reduceLT, reduceCtorEq, Nat.reduceMul, Nat.reduceSub, Int.reduceEq, Int.reduceLT, Int.reduceLE, Int.reduceToNat]
end Go.Proofs.Ytmcgjccheehehaa
