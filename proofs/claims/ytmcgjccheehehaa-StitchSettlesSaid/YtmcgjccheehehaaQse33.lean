/-
  The parts SaE of the proof, in one file. Conditions: none.
-/
import Derived.Test.YtmcgjccheehehaaQse32
namespace Go.Proofs.Ytmcgjccheehehaa
open Go.Eng
set_option linter.unusedVariables false
set_option linter.unusedSimpArgs false
set_option maxRecDepth 20000
theorem ix_take (k : ByteArray) : ∀ (l : List ByteArray) (j n : Nat), (0 ≤ ix k (l.take n) j ↔ (0 ≤ ix k l j ∧ ix k l j < (j + n : Nat))) ∧ (0 ≤ ix k (l.take n) j → ix k (l.take n) j = ix k l j)
  | [], j, n => by simp [ix]
  | x :: l, j, 0 => by
    have := ix_lt k (x :: l) j
    rw [List.take_zero]
    unfold ix
    refine ⟨⟨fun h => by simp at h, fun h => ?_⟩, fun h => by simp at h⟩
    have h2 := h.2
    unfold ix at this
    omega
  | x :: l, j, n + 1 => by
    have h1 := ix_take k l (j + 1) n
    rw [List.take_succ_cons]
    unfold ix
    split
    · refine ⟨⟨fun h => ⟨h, by omega⟩, fun h => h.1⟩, fun _ => rfl⟩
    · rw [show j + (n + 1) = j + 1 + n by omega]
      exact h1
theorem getV_ix {v : Val} (h : v.k = 6) (k : ByteArray) : getV v k = if 0 ≤ ixO v k then v.items[(ixO v k).toNat]? else none := by
  have h1 := ix_take k v.keys 0 (szO v)
  have h2 := ix_lt k v.keys 0
  have h3 : ix k (v.keys.take (szO v)) 0 = ixO v k := rfl
  have h4 : szO v = v.keys.length ∨ szO v = v.items.length := by unfold szO; omega
  have h5 := szO_le v
  rw [h3] at h1
  unfold getV
  rw [if_pos h]
  by_cases c : 0 ≤ ixO v k
  · rw [if_pos c, h1.2 c, if_pos (h1.1.1 c).1]
  · rw [if_neg c]
    split
    · rename_i c2
      have := fun q => c (h1.1.2 ⟨c2, q⟩)
      refine List.getElem?_eq_none ?_
      omega
    · rfl
theorem ixO_at {v : Val} {k : ByteArray} (h : 0 ≤ ixO v k) : ∃ x, v.items[(ixO v k).toNat]? = some x := by
  have h1 := ix_lt k (v.keys.take (szO v)) 0
  have h2 := szO_le v
  have h3 : ix k (v.keys.take (szO v)) 0 = ixO v k := rfl
  rw [h3] at h1
  simp at h1
  exact ⟨v.items[(ixO v k).toNat]'(by omega), List.getElem?_eq_getElem (by omega)⟩
/-- The objects at a path, by the field of an object. -/
theorem objV_get (p : List Hop) (v : Val) : objV p v =
    if v.k = 5 then v.items.flatMap (objV p)
    else if v.k = 6 then (match p with
      | [] => [v]
      | h :: p' => if h.o = typT v then (match getV v h.k with | some x => objV p' x | none => []) else [])
    else [] := by
  rw [objV_eq]
  split
  · rfl
  · split
    · rename_i c
      cases p with
      | nil => rfl
      | cons h p' =>
        dsimp only
        rw [getV_ix c]
        by_cases c1 : h.o = typT v
        · by_cases c2 : 0 ≤ ixO v h.k
          · rw [if_pos ⟨c1, c2⟩, if_pos c1, if_pos c2]
            cases v.items[(ixO v h.k).toNat]? <;> rfl
          · rw [if_neg (fun q => c2 q.2), if_pos c1, if_neg c2]
        · rw [if_neg (fun q => c1 q.1), if_neg c1]
    · rfl
theorem flat_len {α β : Type} (f : α → List β) (w : α → Nat) (l : List α) (h : ∀ x ∈ l, (f x).length ≤ w x) : (l.flatMap f).length ≤ (l.map w).sum := by
  induction l with
  | nil => simp
  | cons x l ih =>
    have := h x (by simp)
    have := ih fun y hy => h y (by simp [hy])
    rw [List.flatMap_cons, List.map_cons, List.sum_cons, List.length_append]
    omega
theorem wtL_sum : ∀ (l : List Val), wtL l = (l.map wtV).sum
  | [] => rfl
  | x :: l => by rw [wtL, wtL_sum l]; simp
theorem objV_len (v : Val) : ∀ p, (objV p v).length ≤ wtV v := by
  refine Val.ind (Q := fun v => ∀ p, (objV p v).length ≤ wtV v) (fun v ih p => ?_) v
  have hw := wtV_eq v
  rw [objV_get]
  split
  · have := flat_len (objV p) wtV v.items fun x hx => ih x hx p
    rw [← wtL_sum] at this
    omega
  · split
    · cases p with
      | nil => simp; omega
      | cons h p' =>
        dsimp only
        split
        · cases hg : getV v h.k with
          | none => simp
          | some x =>
            have hm := getV_mem hg
            have := ih x hm p'
            have := wtL_mem hm
            dsimp only
            omega
        · simp
    · simp
theorem objV_fit (v : Val) : v.Fit → ∀ p, ∀ x ∈ objV p v, x.Fit := by
  refine Val.ind (Q := fun v => v.Fit → ∀ p, ∀ x ∈ objV p v, x.Fit) (fun v ih hv p x hx => ?_) v
  rw [objV_get] at hx
  split at hx
  · obtain ⟨y, hy, hx⟩ := List.mem_flatMap.1 hx
    exact ih y hy (hv.x hy) p x hx
  · split at hx
    · cases p with
      | nil =>
        rw [List.mem_singleton.1 hx]
        exact hv
      | cons h p' =>
        dsimp only at hx
        split at hx
        · cases hg : getV v h.k with
          | none => rw [hg] at hx; cases hx
          | some y =>
            rw [hg] at hx
            exact ih y (getV_mem hg) (hv.x (getV_mem hg)) p' x hx
        · cases hx
    · cases hx
theorem count_ok (p : List Hop) (v : Val) (hv : v.Fit) (hp1 : p.length ≤ 1000000000) (hw : wtV v ≤ 100000000000) (hp : CH) (m : Nat) : MeetsF Try.prog 28 hp m [.ds (mapC hopC p), vx v] (.i .i64 (objV p v).length) := by
  have h1 := objects_ok p v hv hp1 hw
  obtain ⟨L, hL⟩ : ∃ L, objV p v = L := ⟨_, rfl⟩
  rw [hL] at h1 ⊢
  refine meetsF Try.func28 (by kernel_rfl) cc28 cr28 rfl fun hf => ?_; unfold ck28
  simp only [go_sem, ↓reduceIte, Nat.reduceEqDiff, Nat.reduceBEq, Nat.reduceAdd, Nat.reduceLeDiff, Nat.reduceLT, reduceCtorEq, Nat.reduceMul, Nat.reduceSub, Int.reduceEq, Int.reduceLT, Int.reduceLE, Int.reduceToNat]
  refine vcCall.f (h1 _ _) ?_
  simp only [go_sem, ↓reduceIte, Nat.reduceEqDiff, Nat.reduceBEq, Nat.reduceAdd, Nat.reduceLeDiff, Nat.reduceLT, reduceCtorEq, Nat.reduceMul, Nat.reduceSub, Int.reduceEq, Int.reduceLT, Int.reduceLE, Int.reduceToNat]
end Go.Proofs.Ytmcgjccheehehaa
