/-
  The parts SbE of the proof, in one file. Conditions: none.
-/
import Derived.Test.YtmcgjccheehehaaQke47
namespace Go.Proofs.Ytmcgjccheehehaa
open Go.Eng
set_option linter.unusedVariables false
set_option linter.unusedSimpArgs false
theorem join_plain {x : Val} (h0 : x.k ≠ 0) (h5 : x.k ≠ 5) (h6 : x.k ≠ 6) (h9 : x.k ≠ 9) (y : Val) : joinV x y = x := by
  rw [joinV_eq]
  split
  · rfl
  · rw [if_neg (by omega), if_neg (fun h => h6 h.1.1), if_neg (fun h => h5 h.1.1)]
theorem addF_app : ∀ (ks : List ByteArray) (r : List Val) (K : List ByteArray) (I : List Val), ∃ e1 e2, addF K I ks r = (K ++ e1, I ++ e2)
  | [], r, K, I => ⟨[], [], by rw [addF_end (.inl rfl)]; simp⟩
  | k :: ks, [], K, I => ⟨[], [], by rw [addF_end (.inr rfl)]; simp⟩
  | k :: ks, y :: r, K, I => by
    rw [addF_step]
    split
    · exact addF_app ks r K I
    · obtain ⟨e1, e2, h⟩ := addF_app ks r (K ++ [k]) (I ++ [y])
      exact ⟨k :: e1, y :: e2, by rw [h]; simp⟩
theorem addF_in {x : ByteArray} : ∀ (ks : List ByteArray) (r : List Val) (K : List ByteArray) (I : List Val) (j : Nat), ks[j]? = some x → j < r.length → x ∈ (addF K I ks r).1
  | [], r, K, I, j, h, _ => by simp at h
  | k :: ks, [], K, I, j, _, h => by simp at h
  | k :: ks, y :: r, K, I, 0, h, _ => by
    simp at h
    subst h
    rw [addF_step]
    split
    · rename_i hk
      obtain ⟨e1, e2, h⟩ := addF_app ks r K I
      rw [h]
      simp [inB_iff.1 hk]
    · obtain ⟨e1, e2, h⟩ := addF_app ks r (K ++ [k]) (I ++ [y])
      rw [h]
      simp
  | k :: ks, y :: r, K, I, j + 1, h, hj => by
    rw [addF_step]
    split
    · exact addF_in ks r _ _ j (by simpa using h) (by simpa using hj)
    · exact addF_in ks r _ _ j (by simpa using h) (by simpa using hj)
theorem addF_wt : ∀ (ks : List ByteArray) (r : List Val) (K : List ByteArray) (I : List Val), wtL (addF K I ks r).2 ≤ wtL I + wtL r ∧ (addF K I ks r).1.length ≤ K.length + ks.length
  | [], r, K, I => by rw [addF_end (.inl rfl)]; exact ⟨by simp, by simp⟩
  | k :: ks, [], K, I => by rw [addF_end (.inr rfl)]; exact ⟨by simp, by simp⟩
  | k :: ks, y :: r, K, I => by
    rw [addF_step, wtL]
    split
    · have := addF_wt ks r K I
      simp only [List.length_cons]
      omega
    · have := addF_wt ks r (K ++ [k]) (I ++ [y])
      rw [wtL_app, wtL, wtL] at this
      simp only [List.length_append, List.length_cons, List.length_nil] at this ⊢
      omega
theorem joinF_len (a b : Val) : (joinF a b).1.length = (joinF a b).2.length := by
  unfold joinF
  refine (addF_len _ _ _ _ ?_).1
  rw [joinI_len, List.length_take]
  unfold szO
  omega
/-- What an object has, its joining has. -/
theorem ix_pre {k : ByteArray} {l e : List ByteArray} (h : 0 ≤ ix k l 0) : ix k (l ++ e) 0 = ix k l 0 := by
  have h1 := ix_at k l 0 h
  rw [Int.ofNat_zero, Int.sub_zero] at h1
  have hl := (List.getElem?_eq_some_iff.1 h1).1
  have h2 : ix k (l ++ e) 0 = ((ix k l 0).toNat : Nat) := ix_once (by rw [List.getElem?_append_left hl]; exact h1) fun j hj q => by
    rw [List.getElem?_append_left (by omega)] at q
    have := ix_first k l 0 j q
    omega
  omega
theorem join_get {a b x : Val} {k : ByteArray} (h : getV a k = some x) : getV (joinO a b) k = some (joinE x k b) := by
  unfold getV at h
  split at h
  · split at h
    · rename_i h6 h0
      have hk := ix_at k a.keys 0 h0
      rw [Int.ofNat_zero, Int.sub_zero] at hk
      have hkl := (List.getElem?_eq_some_iff.1 hk).1
      have hil := (List.getElem?_eq_some_iff.1 h).1
      have hs : (ix k a.keys 0).toNat < szO a := by unfold szO; omega
      have h1 : ix k (a.keys.take (szO a)) 0 = ix k a.keys 0 := by
        have := ix_take k a.keys 0 (szO a)
        exact this.2 (this.1.2 ⟨h0, by omega⟩)
      obtain ⟨e1, e2, he⟩ := addF_app b.keys b.items (a.keys.take (szO a)) (joinI a.items a.keys b)
      have hF : joinF a b = (a.keys.take (szO a) ++ e1, joinI a.items a.keys b ++ e2) := he
      have hI : (joinI a.items a.keys b)[(ix k a.keys 0).toNat]? = some (joinE x k b) := by
        have := joinI_snoc b a.items a.keys _ h hk
        have h3 : ∀ (i : List Val) (l : List ByteArray) (j : Nat) x k, i[j]? = some x → l[j]? = some k → (joinI i l b)[j]? = some (joinE x k b) := by
          intro i
          induction i with
          | nil => intro l j x k h1; simp at h1
          | cons y i ih =>
            intro l j x k h1 h2
            cases l with
            | nil => simp at h2
            | cons q l =>
              rw [joinI]
              cases j with
              | zero => simp at h1 h2; subst h1; subst h2; rfl
              | succ j => exact ih l j x k (by simpa using h1) (by simpa using h2)
        exact h3 _ _ _ _ _ h hk
      have hix : ix k (a.keys.take (szO a) ++ e1) 0 = ix k a.keys 0 := by rw [ix_pre (by rw [h1]; exact h0), h1]
      have hit : (joinI a.items a.keys b ++ e2)[(ix k a.keys 0).toNat]? = some (joinE x k b) := by rw [List.getElem?_append_left (List.getElem?_eq_some_iff.1 hI).1, hI]
      unfold getV joinO
      rw [hF]
      simp only [Val.k_mk, Val.keys_mk, Val.items_mk, if_true, hix, if_pos h0, hit]
    · cases h
  · cases h
theorem join_has {a b : Val} {k : ByteArray} (h : (getV b k).isSome = true) : (getV (joinO a b) k).isSome = true := by
  unfold joinO
  rw [getV_out (joinF_len a b), inB_iff]
  obtain ⟨y, hy⟩ := Option.isSome_iff_exists.1 h
  unfold getV at hy
  split at hy
  · split at hy
    · rename_i h6 h0
      have hk := ix_at k b.keys 0 h0
      rw [Int.ofNat_zero, Int.sub_zero] at hk
      exact addF_in _ _ _ _ _ hk (List.getElem?_eq_some_iff.1 hy).1
    · cases hy
  · cases hy
theorem join_obj {a b : Val} (h6 : a.k = 6) (h6' : b.k = 6) (ht : typT a = typT b) : joinV a b = joinO a b := by
  rw [joinV_eq, if_neg (by omega), if_neg (by omega), if_pos ⟨⟨h6, h6'⟩, ht⟩]
theorem typT_some {v : Val} (h : typT v ≠ ⟨#[]⟩) : v.k = 6 ∧ ∃ x, getV v ttN = some x ∧ x.k = 3 ∧ x.s = typT v := by
  unfold typT at h ⊢
  split at h
  · rename_i t ht
    split at h
    · rename_i h3
      refine ⟨?_, t, ht, h3, ?_⟩
      · by_cases q : v.k = 6
        · exact q
        · rw [getV_none q] at ht; cases ht
      · rw [if_pos h3]
    · exact absurd rfl h
  · exact absurd rfl h
theorem typT_of {v x : Val} (h : getV v ttN = some x) (h3 : x.k = 3) : typT v = x.s := by
  unfold typT
  rw [h]
  simp [h3]
theorem join_typ {a b : Val} (hn : typT a ≠ ⟨#[]⟩) : typT (joinO a b) = typT a := by
  obtain ⟨h6, x, hx, h3, hs⟩ := typT_some hn
  have hj : joinE x ttN b = x := by
    unfold joinE
    split
    · exact join_plain (by omega) (by omega) (by omega) (by omega) _
    · rfl
  have := join_get (b := b) hx
  rw [hj] at this
  rw [typT_of this h3, hs]
theorem tyB_eq {v : Val} {t : ByteArray} (ht : t ≠ ⟨#[]⟩) : tyB v t = isT t v := by
  unfold tyB isT typT
  cases getV v ttN with
  | none => simp [ht.symm]
  | some x =>
    simp only
    by_cases h : x.k = 3
    · simp [h]
    · simp [h, ht.symm]
theorem failO_k (f : Fet) (s : ByteArray) : (failO f s).k = 6 ∧ typT (failO f s) = f.t := ⟨rfl, typ_coll _ _ _⟩
theorem resO_k (f : Fet) (r : List Val) : (resO f r).k = 6 ∧ typT (resO f r) = f.t := by
  cases r with
  | nil => exact failO_k f _
  | cons x r =>
    rw [show resO f (x :: r) = if x.k = 6 ∧ typT x = f.t then x else failO f entN from rfl]
    split
    · assumption
    · exact failO_k f _
/-- What stands in the place of an object. -/
theorem mgSt_of (f : Fet) (v : Val) (s : List Val) : (typT v ≠ f.t ∧ (mgSt f v s).1 = v) ∨ typT v = f.t ∧ ∃ b, (mgSt f v s).1 = joinV v b ∧ b.k = 6 ∧ typT b = f.t ∧ ((∃ m, b = failO f m) ∨ b ∈ s) := by
  unfold mgSt
  split
  · rename_i h
    right
    refine ⟨h, ?_⟩
    split
    · exact ⟨_, rfl, (failO_k f _).1, (failO_k f _).2, .inl ⟨_, rfl⟩⟩
    · refine ⟨_, rfl, (resO_k f _).1, (resO_k f _).2, ?_⟩
      cases s with
      | nil => exact .inl ⟨_, rfl⟩
      | cons x s =>
        show (∃ m, resO f (x :: s) = failO f m) ∨ _
        rw [show resO f (x :: s) = if x.k = 6 ∧ typT x = f.t then x else failO f entN from rfl]
        split
        · right; simp
        · left; exact ⟨_, rfl⟩
  · rename_i h
    exact .inl ⟨h, rfl⟩
theorem mgSt_k {f : Fet} (hn : f.t ≠ ⟨#[]⟩) {v : Val} (h6 : v.k = 6) (s : List Val) : (mgSt f v s).1.k = 6 ∧ typT (mgSt f v s).1 = typT v := by
  rcases mgSt_of f v s with ⟨_, h⟩ | ⟨ht, b, h, hb, htb, _⟩
  · rw [h]; exact ⟨h6, rfl⟩
  · rw [h, join_obj h6 hb (by rw [ht, htb])]
    exact ⟨rfl, join_typ (by rw [ht]; exact hn)⟩
theorem chg_k {f : Fet} (hn : f.t ≠ ⟨#[]⟩) (v : Val) (p : List Hop) (s : List Val) : (chg (mgSt f) p v s).1.k = v.k := by
  rw [chg_eq]
  split
  · rfl
  · split
    · rename_i h6
      split
      · rw [(mgSt_k hn h6 s).1, h6]
      · split <;> rfl
    · rfl
theorem chg_text {f : Fet} (v : Val) (p : List Hop) (s : List Val) (h5 : v.k ≠ 5) (h6 : v.k ≠ 6) : (chg (mgSt f) p v s).1 = v := by
  rw [chg_eq, if_neg h5, if_neg h6]
theorem getV_mk (k0 n : Int) (s : ByteArray) (i : List Val) (l : List ByteArray) (k : ByteArray) : getV (.mk k0 n s i l) k = if k0 = 6 then if 0 ≤ ix k l 0 then i[(ix k l 0).toNat]? else none else none := rfl
/-- The value of a key, where one item is another one. -/
theorem getV_set (v : Val) (i : Nat) (y x0 : Val) (hx : v.items[i]? = some x0) (k : ByteArray) :
    getV (.mk v.k v.n v.s (v.items.set i y) v.keys) k = if getV v k ≠ none ∧ ix k v.keys 0 = i then some y else getV v k := by
  have hi := (List.getElem?_eq_some_iff.1 hx).1
  rw [getV_mk]
  have e : getV v k = if v.k = 6 then if 0 ≤ ix k v.keys 0 then v.items[(ix k v.keys 0).toNat]? else none else none := rfl
  by_cases h6 : v.k = 6
  · by_cases h0 : 0 ≤ ix k v.keys 0
    · rw [if_pos h6, if_pos h0] at e ⊢
      by_cases hix : ix k v.keys 0 = i
      · rw [e, hix, Int.toNat_natCast, List.getElem?_set_self hi, hx]
        simp
      · rw [List.getElem?_set_ne (by omega), if_neg (fun q => hix q.2), e]
    · rw [if_pos h6, if_neg h0] at e ⊢
      rw [e]
      simp
  · rw [if_neg h6] at e ⊢
    rw [e]
    simp
/-- The type that a value of the key of types tells. -/
def tyO : Option Val → ByteArray
  | some t => if t.k = 3 then t.s else ⟨#[]⟩
  | none => ⟨#[]⟩
theorem typT_eq (v : Val) : typT v = tyO (getV v ttN) := by
  unfold typT tyO
  cases getV v ttN <;> rfl
theorem chg_typ {f : Fet} (hn : f.t ≠ ⟨#[]⟩) (v : Val) (p : List Hop) (s : List Val) : typT (chg (mgSt f) p v s).1 = typT v := by
  rw [chg_eq]
  split
  · rename_i h5
    rw [typT_eq, typT_eq, getV_none (by simp [Val.k_mk, h5]), getV_none (by simp [h5])]
  · split
    · rename_i h6
      split
      · exact (mgSt_k hn h6 s).2
      · rename_i h p'
        split
        · rename_i hc
          obtain ⟨x, ex⟩ := ixO_at hc.2
          rw [chgN_at _ p' _ _ _ s ex, typT_eq, typT_eq]
          simp only
          rw [getV_set v _ _ x ex]
          split
          · rename_i hq
            have hg : getV v ttN = some x := by
              unfold getV
              rw [if_pos h6, hq.2, if_pos (by omega), Int.toNat_natCast, ex]
            rw [hg]
            unfold tyO
            by_cases h3 : x.k = 3
            · rw [chg_text x p' s (by omega) (by omega)]
            · simp only
              rw [if_neg (by rw [chg_k hn]; exact h3), if_neg h3]
          · rfl
        · rfl
    · rfl
theorem getV_ixO {v : Val} (h6 : v.k = 6) {k : ByteArray} (h0 : 0 ≤ ixO v k) {x : Val} (ex : v.items[(ixO v k).toNat]? = some x) : getV v k = some x ∧ ix k v.keys 0 = (ixO v k).toNat := by
  have := getV_ix h6 k
  rw [if_pos h0, ex] at this
  refine ⟨this, ?_⟩
  have h2 := (ix_take k v.keys 0 (szO v)).2 h0
  have h3 : ixO v k = ix k (v.keys.take (szO v)) 0 := rfl
  rw [← h2, ← h3]
  omega
/-- No number of objects at a prefix changes. -/
theorem chg_count {f : Fet} (hn : f.t ≠ ⟨#[]⟩) (r : List Hop) (v : Val) : ∀ (q : List Hop) (s : List Val), (objV q (chg (mgSt f) (q ++ r) v s).1).length = (objV q v).length := by
  refine Val.ind (Q := fun v => ∀ (q : List Hop) (s : List Val), (objV q (chg (mgSt f) (q ++ r) v s).1).length = (objV q v).length) (fun v ih q s => ?_) v
  have hk := chg_k hn v (q ++ r) s
  have ht := chg_typ hn v (q ++ r) s
  rw [objV_get q v, objV_get q (chg (mgSt f) (q ++ r) v s).1, hk, ht]
  by_cases h5 : v.k = 5
  · rw [if_pos h5, if_pos h5, chg_eq, if_pos h5]
    simp only [Val.items_mk]
    have hL : ∀ (l : List Val), (∀ x ∈ l, x ∈ v.items) → ∀ s, ((chgL (mgSt f) (q ++ r) l s).1.flatMap (objV q)).length = (l.flatMap (objV q)).length := by
      intro l
      induction l with
      | nil => intro _ s; rw [chgL]
      | cons y l ihl =>
        intro hm s
        rw [chgL, List.flatMap_cons, List.flatMap_cons, List.length_append, List.length_append, ih y (hm y (by simp)) q s, ihl (fun x hx => hm x (by simp [hx]))]
    exact hL v.items (fun x hx => hx) s
  · rw [if_neg h5, if_neg h5]
    by_cases h6 : v.k = 6
    · rw [if_pos h6, if_pos h6]
      cases q with
      | nil => rfl
      | cons h q' =>
        simp only
        by_cases ho : h.o = typT v
        · rw [if_pos ho, if_pos ho, chg_eq, if_neg h5, if_pos h6]
          simp only [List.cons_append]
          by_cases h0 : 0 ≤ ixO v h.k
          · obtain ⟨x, ex⟩ := ixO_at h0
            obtain ⟨hg, hix⟩ := getV_ixO h6 h0 ex
            rw [if_pos ⟨ho, h0⟩, chgN_at _ (q' ++ r) _ _ _ s ex]
            simp only
            rw [getV_set v _ _ x ex, if_pos ⟨by rw [hg]; simp, hix⟩, hg]
            exact ih x (getV_mem hg) q' s
          · rw [if_neg (fun q => h0 q.2)]
        · rw [if_neg ho, if_neg ho]
    · rw [if_neg h6, if_neg h6]
/-- Two lists, element by element. -/
inductive F2 {α β : Type} (R : α → β → Prop) : List α → List β → Prop
  | nil : F2 R [] []
  | cons {a : α} {b : β} {l : List α} {m : List β} : R a b → F2 R l m → F2 R (a :: l) (b :: m)
theorem F2.app {α β : Type} {R : α → β → Prop} {l l' : List α} {m m' : List β} (h : F2 R l m) (h' : F2 R l' m') : F2 R (l ++ l') (m ++ m') := by
  induction h with
  | nil => exact h'
  | cons r _ ih => exact .cons r ih
/-- The objects afterwards, one by one. -/
theorem chg_objs {f : Fet} (hn : f.t ≠ ⟨#[]⟩) (A : Val → Prop) (v : Val) : ∀ (p : List Hop) (s : List Val), (∀ x ∈ s, A x) → (∀ x ∈ (chg (mgSt f) p v s).2, A x) ∧
    F2 (fun x y => ∃ s', (∀ r ∈ s', A r) ∧ y = (mgSt f x s').1) (objV p v) (objV p (chg (mgSt f) p v s).1) := by
  refine Val.ind (Q := fun v => ∀ (p : List Hop) (s : List Val), (∀ x ∈ s, A x) → (∀ x ∈ (chg (mgSt f) p v s).2, A x) ∧
    F2 (fun x y => ∃ s', (∀ r ∈ s', A r) ∧ y = (mgSt f x s').1) (objV p v) (objV p (chg (mgSt f) p v s).1)) (fun v ih p s hs => ?_) v
  have hk := chg_k hn v p s
  have ht := chg_typ hn v p s
  rw [objV_get p v, objV_get p (chg (mgSt f) p v s).1, hk, ht]
  by_cases h5 : v.k = 5
  · rw [if_pos h5, if_pos h5, chg_eq, if_pos h5]
    simp only [Val.items_mk]
    have hL : ∀ (l : List Val), (∀ x ∈ l, x ∈ v.items) → ∀ s, (∀ x ∈ s, A x) → (∀ x ∈ (chgL (mgSt f) p l s).2, A x) ∧
        F2 (fun x y => ∃ s', (∀ r ∈ s', A r) ∧ y = (mgSt f x s').1) (l.flatMap (objV p)) ((chgL (mgSt f) p l s).1.flatMap (objV p)) := by
      intro l
      induction l with
      | nil => intro _ s hs; rw [chgL]; exact ⟨hs, .nil⟩
      | cons y l ihl =>
        intro hm s hs
        obtain ⟨h1, h2⟩ := ih y (hm y (by simp)) p s hs
        obtain ⟨h3, h4⟩ := ihl (fun x hx => hm x (by simp [hx])) _ h1
        rw [chgL]
        refine ⟨h3, ?_⟩
        simp only [List.flatMap_cons]
        exact F2.app h2 h4
    exact hL v.items (fun x hx => hx) s hs
  · rw [if_neg h5, if_neg h5]
    by_cases h6 : v.k = 6
    · rw [if_pos h6, if_pos h6, chg_eq, if_neg h5, if_pos h6]
      cases p with
      | nil =>
        simp only
        refine ⟨?_, .cons ⟨s, hs, rfl⟩ .nil⟩
        unfold mgSt
        split
        · split
          · exact hs
          · exact fun x hx => hs x (List.mem_of_mem_drop hx)
        · exact hs
      | cons h p' =>
        simp only
        by_cases ho : h.o = typT v
        · rw [if_pos ho, if_pos ho]
          by_cases h0 : 0 ≤ ixO v h.k
          · obtain ⟨x, ex⟩ := ixO_at h0
            obtain ⟨hg, hix⟩ := getV_ixO h6 h0 ex
            rw [if_pos ⟨ho, h0⟩, chgN_at _ p' _ _ _ s ex]
            simp only
            rw [getV_set v _ _ x ex, if_pos ⟨by rw [hg]; simp, hix⟩, hg]
            exact ih x (getV_mem hg) p' s hs
          · rw [if_neg (fun q => h0 q.2)]
            have hg : getV v h.k = none := by rw [getV_ix h6, if_neg h0]
            simp only
            rw [hg]
            exact ⟨hs, .nil⟩
        · rw [if_neg ho, if_neg ho, if_neg (fun q => ho q.1)]
          exact ⟨hs, .nil⟩
    · rw [if_neg h6, if_neg h6]
      refine ⟨?_, .nil⟩
      rw [chg_eq, if_neg h5, if_neg h6]
      exact hs
end Go.Proofs.Ytmcgjccheehehaa
