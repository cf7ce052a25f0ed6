/-
  The parts SaB of the proof, in one file. Conditions: none.
-/
import Derived.Test.YtmcgjccheehehaaQse29
namespace Go.Proofs.Ytmcgjccheehehaa
open Go.Eng
set_option linter.unusedVariables false
set_option linter.unusedSimpArgs false
set_option maxRecDepth 20000
inductive Hop where
  | mk (o : ByteArray) (k : ByteArray)
deriving DecidableEq
def Hop.o : Hop → ByteArray | .mk o _ => o
theorem Hop.o_mk (o : ByteArray) (k : ByteArray) : (Hop.mk o k).o = o := rfl
def Hop.k : Hop → ByteArray | .mk _ k => k
theorem Hop.k_mk (o : ByteArray) (k : ByteArray) : (Hop.mk o k).k = k := rfl
theorem Hop.eta (x : Hop) : Hop.mk x.o x.k = x := by cases x; rfl
theorem Hop.ext {x y : Hop} (h0 : x.o = y.o) (h1 : x.k = y.k) : x = y := by cases x; cases y; simp only [Hop.o_mk, Hop.k_mk] at *; simp [*]
def hopC (x : Hop) : List AV := [.s x.o, .s x.k]
theorem elsOk_hopC (l : List Hop) : elsOk 2 (mapC hopC l) = True := elsOk_map fun _ => ⟨rfl, rfl⟩
attribute [go_sem] elsOk_hopC
attribute [go_sem] hopC Hop.o_mk Hop.k_mk
attribute [grind =] Hop.o_mk Hop.k_mk
attribute [ext] Hop.ext
attribute [grind ext] Hop.ext
theorem len_hop (l : List Hop) : (∀ e, e ∈ mapC hopC l → e.length = 2) = True := eq_true fun e h => ((of_eq_true (elsOk_hopC l)) e h).1
attribute [go_sem] len_hop
mutual
/-- The value in which the objects at a path are replaced by st, in order. -/
noncomputable def chg {σ : Type} (st : Val → σ → Val × σ) : List Hop → Val → σ → Val × σ
  | p, .mk k n s i l, x =>
    if k = 5 then (.mk k n s (chgL st p i x).1 l, (chgL st p i x).2)
    else if k = 6 then (match p with
      | [] => st (.mk k n s i l) x
      | h :: p' => if h.o = typT (.mk k n s i l) ∧ 0 ≤ ixO (.mk k n s i l) h.k then (.mk k n s (chgN st p' i (ixO (.mk k n s i l) h.k).toNat x).1 l, (chgN st p' i (ixO (.mk k n s i l) h.k).toNat x).2) else (.mk k n s i l, x))
    else (.mk k n s i l, x)
noncomputable def chgL {σ : Type} (st : Val → σ → Val × σ) : List Hop → List Val → σ → List Val × σ
  | _, [], x => ([], x)
  | p, v :: r, x => ((chg st p v x).1 :: (chgL st p r (chg st p v x).2).1, (chgL st p r (chg st p v x).2).2)
noncomputable def chgN {σ : Type} (st : Val → σ → Val × σ) : List Hop → List Val → Nat → σ → List Val × σ
  | _, [], _, x => ([], x)
  | p, v :: r, 0, x => ((chg st p v x).1 :: r, (chg st p v x).2)
  | p, v :: r, j + 1, x => (v :: (chgN st p r j x).1, (chgN st p r j x).2)
end
section
variable {σ : Type} (st : Val → σ → Val × σ)
theorem chg_eq (p : List Hop) (v : Val) (x : σ) : chg st p v x =
    if v.k = 5 then (.mk v.k v.n v.s (chgL st p v.items x).1 v.keys, (chgL st p v.items x).2)
    else if v.k = 6 then (match p with
      | [] => st v x
      | h :: p' => if h.o = typT v ∧ 0 ≤ ixO v h.k then (.mk v.k v.n v.s (chgN st p' v.items (ixO v h.k).toNat x).1 v.keys, (chgN st p' v.items (ixO v h.k).toNat x).2) else (v, x))
    else (v, x) := by cases v; rw [chg.eq_def]; rfl
theorem chgN_at (p : List Hop) : ∀ (l : List Val) (j : Nat) (v : Val) (x : σ), l[j]? = some v → chgN st p l j x = (l.set j (chg st p v x).1, (chg st p v x).2)
  | [], j, v, x, h => by simp at h
  | y :: l, 0, v, x, h => by
    simp at h
    subst h
    rw [chgN]
    rfl
  | y :: l, j + 1, v, x, h => by
    rw [chgN, chgN_at p l j v x (by simpa using h)]
    rfl
theorem chgL_len (p : List Hop) : ∀ (l : List Val) (x : σ), (chgL st p l x).1.length = l.length
  | [], x => by rw [chgL]
  | v :: l, x => by rw [chgL, List.length_cons, List.length_cons, chgL_len p l]
theorem chgL_snoc (p : List Hop) (v : Val) : ∀ (l : List Val) (x : σ), chgL st p (l ++ [v]) x = ((chgL st p l x).1 ++ [(chg st p v (chgL st p l x).2).1], (chg st p v (chgL st p l x).2).2)
  | [], x => by rw [List.nil_append, chgL, chgL, chgL]; rfl
  | y :: l, x => by rw [List.cons_append, chgL, chgL_snoc p v l, chgL]; rfl
end
/-- A function that keeps an account: its chunks, and how much it can take. -/
structure Acc (σ : Type) where
  st : Val → σ → Val × σ
  W : σ → CH
  ks : List Nat
  B : σ → Nat → Prop
  f : FuncId
  caps : List AV
structure Acc.Ok {σ : Type} (A : Acc σ) : Prop where
  keys : ∀ s, Eng.keys (A.W s) = A.ks
  ok : ∀ s s' hp n0, (∀ k ∈ A.ks, k < n0 ∧ gc hp k = gc (A.W s) k) → wsOk hp n0 A.ks (A.W s')
  mono : ∀ s a b, A.B s (a + b) → A.B s b
  step : ∀ s v b, v.Fit → wtV v ≤ 100000000000 → A.B s (1 + b) → A.B (A.st v s).2 b ∧ (A.st v s).1.Fit
  call : ∀ s v, v.Fit → wtV v ≤ 100000000000 → A.B s 1 → ∀ hp m, (∀ k ∈ A.ks, k < m ∧ gc hp k = gc (A.W s) k) → MeetsX Try.prog A.f hp m (vx v :: A.caps) (A.W (A.st v s).2 ++ hp) m (vx (A.st v s).1)
section
variable {σ : Type} {A : Acc σ}
theorem chg_B (hA : A.Ok) (v : Val) (hv : v.Fit) (hvw : wtV v ≤ 100000000000) : ∀ p s b, A.B s (wtV v + b) → A.B (chg A.st p v s).2 b ∧ (chg A.st p v s).1.Fit := by
  have := Val.ind (Q := fun v => v.Fit → wtV v ≤ 100000000000 → ∀ p s b, A.B s (wtV v + b) → A.B (chg A.st p v s).2 b ∧ (chg A.st p v s).1.Fit) (fun v ih hv hvw p s b hb => by
    have wm : ∀ y ∈ v.items, wtV y ≤ 100000000000 := fun y hy => by have := wtL_mem hy; have := wtV_eq v; omega
    have hL : ∀ (l : List Val), (∀ x ∈ l, x ∈ v.items) → ∀ s b, A.B s (wtL l + b) → A.B (chgL A.st p l s).2 b ∧ ∀ x ∈ (chgL A.st p l s).1, x.Fit := by
      intro l
      induction l with
      | nil => intro _ s b hb; rw [chgL]; exact ⟨hA.mono s 0 b (by simpa [wtL] using hb), fun x hx => by cases hx⟩
      | cons y l ihl =>
        intro hm s b hb
        rw [wtL, Nat.add_assoc] at hb
        obtain ⟨h1, h2⟩ := ih y (hm y (by simp)) (hv.x (hm y (by simp))) (wm y (hm y (by simp))) p s _ hb
        obtain ⟨h3, h4⟩ := ihl (fun x hx => hm x (by simp [hx])) _ b h1
        rw [chgL]
        refine ⟨h3, fun x hx => ?_⟩
        rcases List.mem_cons.1 hx with rfl | hx
        · exact h2
        · exact h4 x hx
    have hw := wtV_eq v
    have same : A.B s b := hA.mono s (wtV v) b hb
    rw [chg_eq]
    split
    · obtain ⟨h1, h2⟩ := hL v.items (fun x hx => hx) s b (hA.mono s (1 + v.keys.length) _ (by rw [show 1 + v.keys.length + (wtL v.items + b) = wtV v + b by omega]; exact hb))
      refine ⟨h1, .mk _ ?_ ?_ ?_⟩
      · simp only [Val.items_mk]; rw [chgL_len]; exact hv.i
      · simp only [Val.keys_mk]; exact hv.l
      · simpa only [Val.items_mk] using h2
    · split
      · split
        · exact hA.step s v b hv hvw (hA.mono s (wtL v.items + v.keys.length) _ (by rw [show wtL v.items + v.keys.length + (1 + b) = wtV v + b by omega]; exact hb))
        · rename_i h p'
          split
          · rename_i hc
            have hi : (ixO v h.k).toNat < v.items.length := by
              have h1 := ix_lt h.k (v.keys.take (szO v)) 0
              have h2 := szO_le v
              have h3 : ix h.k (v.keys.take (szO v)) 0 = ixO v h.k := rfl
              rw [h3] at h1
              simp at h1
              omega
            have hx : v.items[(ixO v h.k).toNat]? = some v.items[(ixO v h.k).toNat] := List.getElem?_eq_getElem hi
            have hm := List.mem_of_getElem? hx
            rw [chgN_at A.st p' _ _ _ s hx]
            have hwm := wtL_mem hm
            obtain ⟨h1, h2⟩ := ih _ hm (hv.x hm) (wm _ hm) p' s b (hA.mono s (wtV v - wtV v.items[(ixO v h.k).toNat]) _ (by rw [show wtV v - wtV v.items[(ixO v h.k).toNat] + (wtV v.items[(ixO v h.k).toNat] + b) = wtV v + b by omega]; exact hb))
            refine ⟨h1, .mk _ ?_ ?_ ?_⟩
            · simp only [Val.items_mk, List.length_set]; exact hv.i
            · simp only [Val.keys_mk]; exact hv.l
            · simp only [Val.items_mk]
              intro y hy
              rcases List.mem_or_eq_of_mem_set hy with q | q
              · exact hv.x q
              · rw [q]; exact h2
          · exact ⟨same, hv⟩
      · exact ⟨same, hv⟩) v
  exact this hv hvw
theorem gc_ws_in : ∀ {ws hp hp' : CH} {k : Nat}, k ∈ keys ws → gc (ws ++ hp) k = gc (ws ++ hp') k
  | [], _, _, k, h => by cases h
  | (k', c) :: r, hp, hp', k, h => by
    by_cases e : k' = k
    · subst e; rw [List.cons_append, List.cons_append, gc_cons_same, gc_cons_same]
    · rw [List.cons_append, List.cons_append, gc_cons_ne e, gc_cons_ne e]
      refine gc_ws_in ?_
      unfold keys at h ⊢
      rcases List.mem_cons.1 h with q | q
      · exact absurd q.symm e
      · exact q
end
end Go.Proofs.Ytmcgjccheehehaa
