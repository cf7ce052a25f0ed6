/-
  The parts SaI of the proof, in one file. Conditions: none.
-/
import Derived.Test.YtmcgjccheehehaaQse35
namespace Go.Proofs.Ytmcgjccheehehaa
open Go.Eng
set_option linter.unusedVariables false
set_option linter.unusedSimpArgs false
set_option maxRecDepth 20000
/-- Fields are added whose keys are not there yet. -/
def addF : List ByteArray → List Val → List ByteArray → List Val → List ByteArray × List Val
  | K, I, k :: ks, y :: r => if inB k K = true then addF K I ks r else addF (K ++ [k]) (I ++ [y]) ks r
  | K, I, _, _ => (K, I)
theorem addF_step {K ks : List ByteArray} {I r : List Val} {k : ByteArray} {y : Val} : addF K I (k :: ks) (y :: r) = if inB k K = true then addF K I ks r else addF (K ++ [k]) (I ++ [y]) ks r := by rw [addF]
mutual
noncomputable def joinV : Val → Val → Val
  | .mk k n s i l, b =>
    if b.k = 9 then .mk k n s i l
    else if k = 9 ∨ k = 0 then b
    else if (k = 6 ∧ b.k = 6) ∧ typT (.mk k n s i l) = typT b then
      .mk 6 0 ⟨#[]⟩ (addF (l.take (min l.length i.length)) (joinI i l b) b.keys b.items).2 (addF (l.take (min l.length i.length)) (joinI i l b) b.keys b.items).1
    else if (k = 5 ∧ b.k = 5) ∧ i.length = b.items.length then .mk 5 0 ⟨#[]⟩ (joinL i b.items) []
    else .mk k n s i l
noncomputable def joinI : List Val → List ByteArray → Val → List Val
  | [], _, _ => []
  | x :: r, ks, b => match ks with
    | [] => []
    | k :: ks => (match getV b k with | some y => joinV x y | none => x) :: joinI r ks b
noncomputable def joinL : List Val → List Val → List Val
  | [], _ => []
  | x :: r, q => match q with
    | [] => []
    | y :: q => joinV x y :: joinL r q
end
noncomputable def joinF (a b : Val) : List ByteArray × List Val := addF (a.keys.take (szO a)) (joinI a.items a.keys b) b.keys b.items
noncomputable def joinO (a b : Val) : Val := .mk 6 0 ⟨#[]⟩ (joinF a b).2 (joinF a b).1
theorem joinV_eq (a b : Val) : joinV a b =
    if b.k = 9 then a else if a.k = 9 ∨ a.k = 0 then b
    else if (a.k = 6 ∧ b.k = 6) ∧ typT a = typT b then joinO a b
    else if (a.k = 5 ∧ b.k = 5) ∧ a.items.length = b.items.length then .mk 5 0 ⟨#[]⟩ (joinL a.items b.items) []
    else a := by cases a; rw [joinV]; rfl
/-- One field. -/
noncomputable def joinE (x : Val) (k : ByteArray) (b : Val) : Val := match getV b k with | some y => joinV x y | none => x
theorem joinI_len (b : Val) : ∀ (i : List Val) (l : List ByteArray), (joinI i l b).length = min l.length i.length
  | [], l => by rw [joinI]; simp
  | x :: r, [] => by rw [joinI]; rfl
  | x :: r, k :: l => by rw [joinI, List.length_cons, joinI_len b r l, List.length_cons, List.length_cons]; omega
theorem joinI_snoc (b : Val) {x : Val} {k : ByteArray} : ∀ (i : List Val) (l : List ByteArray) (j : Nat), i[j]? = some x → l[j]? = some k → joinI (i.take (j + 1)) (l.take (j + 1)) b = joinI (i.take j) (l.take j) b ++ [joinE x k b]
  | [], l, j, h1, h2 => by simp at h1
  | y :: i, [], j, h1, h2 => by simp at h2
  | y :: i, q :: l, 0, h1, h2 => by
    simp at h1 h2
    subst h1
    subst h2
    simp only [List.take_succ_cons, List.take_zero]
    rw [joinI, joinI, joinI]
    rfl
  | y :: i, q :: l, j + 1, h1, h2 => by
    simp only [List.take_succ_cons]
    rw [joinI, joinI, joinI_snoc b i l j (by simpa using h1) (by simpa using h2)]
    rfl
theorem joinI_take (b : Val) : ∀ (i : List Val) (l : List ByteArray), joinI (i.take (min l.length i.length)) (l.take (min l.length i.length)) b = joinI i l b
  | [], l => by simp [joinI]
  | x :: r, [] => by
    rw [joinI.eq_def, joinI]
    simp
  | x :: r, k :: l => by
    rw [show min (k :: l).length (x :: r).length = min l.length r.length + 1 by rw [List.length_cons, List.length_cons]; omega]
    simp only [List.take_succ_cons]
    rw [joinI, joinI, joinI_take b r l]
theorem joinL_len : ∀ (i q : List Val), (joinL i q).length = min i.length q.length
  | [], q => by rw [joinL]; simp
  | x :: r, [] => by rw [joinL]; rfl
  | x :: r, y :: q => by rw [joinL, List.length_cons, joinL_len r q, List.length_cons, List.length_cons]; omega
theorem joinL_snoc {x y : Val} : ∀ (i q : List Val) (j : Nat), i[j]? = some x → q[j]? = some y → joinL (i.take (j + 1)) (q.take (j + 1)) = joinL (i.take j) (q.take j) ++ [joinV x y]
  | [], q, j, h1, h2 => by simp at h1
  | z :: i, [], j, h1, h2 => by simp at h2
  | z :: i, w :: q, 0, h1, h2 => by
    simp at h1 h2
    subst h1
    subst h2
    simp only [List.take_succ_cons, List.take_zero]
    rw [joinL, joinL, joinL]
    rfl
  | z :: i, w :: q, j + 1, h1, h2 => by
    simp only [List.take_succ_cons]
    rw [joinL, joinL, joinL_snoc i q j (by simpa using h1) (by simpa using h2)]
    rfl
theorem addF_len : ∀ (ks : List ByteArray) (r : List Val) (K : List ByteArray) (I : List Val), K.length = I.length → (addF K I ks r).1.length = (addF K I ks r).2.length ∧ (addF K I ks r).1.length ≤ K.length + r.length
  | [], r, K, I, h => by rw [addF]; exact ⟨h, Nat.le_add_right _ _⟩; simp
  | k :: ks, [], K, I, h => by rw [addF]; exact ⟨h, Nat.le_add_right _ _⟩; simp
  | k :: ks, y :: r, K, I, h => by
    rw [addF_step]
    split
    · have := addF_len ks r K I h
      exact ⟨this.1, by simp; omega⟩
    · have := addF_len ks r (K ++ [k]) (I ++ [y]) (by simp [h])
      refine ⟨this.1, ?_⟩
      have h2 := this.2
      simp at h2 ⊢
      omega
theorem addF_mem : ∀ (ks : List ByteArray) (r : List Val) (K : List ByteArray) (I : List Val) (x : Val), x ∈ (addF K I ks r).2 → x ∈ I ∨ x ∈ r
  | [], r, K, I, x, h => by rw [addF] at h; exact .inl h; simp
  | k :: ks, [], K, I, x, h => by rw [addF] at h; exact .inl h; simp
  | k :: ks, y :: r, K, I, x, h => by
    rw [addF_step] at h
    split at h
    · exact (addF_mem ks r K I x h).imp id fun q => List.mem_cons_of_mem _ q
    · rcases addF_mem ks r _ _ x h with q | q
      · rcases List.mem_append.1 q with q | q
        · exact .inl q
        · rw [List.mem_singleton.1 q]; exact .inr (by simp)
      · exact .inr (List.mem_cons_of_mem _ q)
theorem joinI_mem (b : Val) {z : Val} : ∀ (i : List Val) (l : List ByteArray), z ∈ joinI i l b → ∃ x ∈ i, z = x ∨ ∃ k y, getV b k = some y ∧ z = joinV x y
  | [], l, h => by rw [joinI] at h; cases h
  | x :: r, [], h => by rw [joinI] at h; cases h
  | x :: r, k :: l, h => by
    rw [joinI] at h
    rcases List.mem_cons.1 h with q | q
    · refine ⟨x, by simp, ?_⟩
      cases hg : getV b k with
      | none => rw [hg] at q; exact .inl q
      | some y => rw [hg] at q; exact .inr ⟨k, y, hg, q⟩
    · obtain ⟨x', h1, h2⟩ := joinI_mem b r l q
      exact ⟨x', List.mem_cons_of_mem _ h1, h2⟩
theorem joinL_mem {z : Val} : ∀ (i q : List Val), z ∈ joinL i q → ∃ x ∈ i, ∃ y ∈ q, z = joinV x y
  | [], q, h => by rw [joinL] at h; cases h
  | x :: r, [], h => by rw [joinL] at h; cases h
  | x :: r, y :: q, h => by
    rw [joinL] at h
    rcases List.mem_cons.1 h with e | e
    · exact ⟨x, by simp, y, by simp, e⟩
    · obtain ⟨x', h1, y', h2, h3⟩ := joinL_mem r q e
      exact ⟨x', List.mem_cons_of_mem _ h1, y', List.mem_cons_of_mem _ h2, h3⟩
theorem wt_mem {v x : Val} (h : x ∈ v.items) : wtV x ≤ wtV v := by
  have := wtL_mem h
  have := wtV_eq v
  omega
theorem joinV_fit (a : Val) : ∀ b, wtV a ≤ 100000000000 → wtV b ≤ 100000000000 → (joinV a b).Fit := by
  refine Val.ind (Q := fun a => ∀ b, wtV a ≤ 100000000000 → wtV b ≤ 100000000000 → (joinV a b).Fit) (fun a ih b ha hb => ?_) a
  have la : a.items.length ≤ 100000000000 := by have := wtL_len a.items; have := wtV_eq a; omega
  have lb : b.items.length ≤ 100000000000 := by have := wtL_len b.items; have := wtV_eq b; omega
  have ka : a.keys.length ≤ 100000000000 := by have := wtV_eq a; omega
  rw [joinV_eq]
  split
  · exact wtV_fit a (by omega)
  · split
    · exact wtV_fit b (by omega)
    · split
      · have h1 := joinI_len b a.items a.keys
        have h2 : (a.keys.take (szO a)).length = (joinI a.items a.keys b).length := by rw [h1, List.length_take]; unfold szO; omega
        have h3 := addF_len b.keys b.items (a.keys.take (szO a)) (joinI a.items a.keys b) h2
        unfold joinO joinF
        refine .mk _ ?_ ?_ fun x hx => ?_
        · simp only [Val.items_mk]
          rw [List.length_take] at h3
          omega
        · simp only [Val.keys_mk]
          rw [List.length_take] at h3
          omega
        · simp only [Val.items_mk] at hx
          rcases addF_mem _ _ _ _ _ hx with q | q
          · obtain ⟨z, hz, q | ⟨k, y, hy, q⟩⟩ := joinI_mem b _ _ q
            · rw [q]
              exact wtV_fit z (by have := wt_mem hz; omega)
            · rw [q]
              exact ih z hz y (by have := wt_mem hz; omega) (by have := wt_mem (getV_mem hy); omega)
          · exact wtV_fit x (by have := wt_mem q; omega)
      · split
        · refine .mk _ ?_ ?_ fun x hx => ?_
          · simp only [Val.items_mk]
            rw [joinL_len]
            omega
          · exact Nat.zero_le _
          · simp only [Val.items_mk] at hx
            obtain ⟨z, hz, y, hy, q⟩ := joinL_mem _ _ hx
            rw [q]
            exact ih z hz y (by have := wt_mem hz; omega) (by have := wt_mem hy; omega)
        · exact wtV_fit a (by omega)
end Go.Proofs.Ytmcgjccheehehaa
