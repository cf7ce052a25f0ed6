/-
  The parts SbF SbG of the proof, in one file. Conditions: none.
-/
import Derived.Test.YtmcgjccheehehaaQke48
namespace Go.Proofs.Ytmcgjccheehehaa
open Go.Eng
set_option linter.unusedVariables false
set_option linter.unusedSimpArgs false
theorem wt_joinL (B : Nat) : ∀ (i q : List Val), (∀ x ∈ i, ∀ y ∈ q, wtV (joinV x y) ≤ wtV x * (1 + B)) → wtL (joinL i q) ≤ wtL i * (1 + B)
  | [], q, _ => by rw [joinL]; simp [wtL]
  | x :: i, [], _ => by rw [joinL]; simp [wtL]
  | x :: i, y :: q, h => by
    rw [joinL, wtL, wtL, Nat.add_mul]
    have h1 := h x (by simp) y (by simp)
    have h2 := wt_joinL B i q fun a ha b hb => h a (by simp [ha]) b (by simp [hb])
    omega
theorem wt_joinI (B : Nat) (b : Val) : ∀ (i : List Val) (l : List ByteArray), (∀ x ∈ i, ∀ y ∈ b.items, wtV (joinV x y) ≤ wtV x * (1 + B)) → wtL (joinI i l b) ≤ wtL i * (1 + B)
  | [], l, _ => by rw [joinI]; simp [wtL]
  | x :: i, [], _ => by rw [joinI]; simp [wtL]
  | x :: i, k :: l, h => by
    rw [show joinI (x :: i) (k :: l) b = joinE x k b :: joinI i l b by rw [joinI]; rfl, wtL, wtL, Nat.add_mul]
    have h2 := wt_joinI B b i l fun a ha y hy => h a (by simp [ha]) y hy
    have h1 : wtV (joinE x k b) ≤ wtV x * (1 + B) := by
      unfold joinE
      split
      · rename_i y hy
        exact h x (by simp) y (getV_mem hy)
      · rw [Nat.mul_add]
        omega
    omega
theorem wt_join (a : Val) : ∀ b, wtV (joinV a b) ≤ wtV a * (1 + wtV b) := by
  refine Val.ind (Q := fun a => ∀ b, wtV (joinV a b) ≤ wtV a * (1 + wtV b)) (fun a ih b => ?_) a
  have ha := wtV_eq a
  have hb := wtV_eq b
  have pa := wtV_pos a
  have self : wtV a ≤ wtV a * (1 + wtV b) := by rw [Nat.mul_add]; omega
  have other : wtV b ≤ wtV a * (1 + wtV b) := by
    have : 1 * (1 + wtV b) ≤ wtV a * (1 + wtV b) := Nat.mul_le_mul_right _ pa
    omega
  have hsub : ∀ x ∈ a.items, ∀ y ∈ b.items, wtV (joinV x y) ≤ wtV x * (1 + wtV b) := fun x hx y hy => by
    have h1 := ih x hx y
    have h2 := wtL_mem hy
    exact Nat.le_trans h1 (Nat.mul_le_mul_left _ (by omega))
  have hm : wtV a * (1 + wtV b) = (1 + wtV b) + wtL a.items * (1 + wtV b) + a.keys.length * (1 + wtV b) := by
    rw [ha, Nat.add_mul, Nat.add_mul, Nat.one_mul]
  have hk : a.keys.length ≤ a.keys.length * (1 + wtV b) := by rw [Nat.mul_add]; omega
  rw [joinV_eq]
  split
  · exact self
  · split
    · exact other
    · split
      · have h1 := wt_joinI (wtV b) b a.items a.keys hsub
        have h2 := addF_wt b.keys b.items (a.keys.take (szO a)) (joinI a.items a.keys b)
        rw [wtV_eq]
        unfold joinO joinF
        simp only [Val.items_mk, Val.keys_mk]
        rw [List.length_take] at h2
        omega
      · split
        · have h1 := wt_joinL (wtV b) a.items b.items hsub
          rw [wtV_eq]
          simp only [Val.items_mk, Val.keys_mk, List.length_nil]
          omega
        · exact self
theorem wtL_set {x : Val} (y : Val) (B : Nat) (h : wtV y ≤ wtV x * (1 + B)) : ∀ (l : List Val) (i : Nat), l[i]? = some x → wtL (l.set i y) ≤ wtL l * (1 + B)
  | [], i, h => by simp at h
  | z :: l, 0, e => by
    simp at e
    subst e
    rw [List.set_cons_zero, wtL, wtL, Nat.add_mul]
    have : wtL l ≤ wtL l * (1 + B) := by rw [Nat.mul_add]; omega
    omega
  | z :: l, i + 1, e => by
    have := wtL_set y B h l i (by simpa using e)
    rw [List.set_cons_succ, wtL, wtL, Nat.add_mul]
    have : wtV z ≤ wtV z * (1 + B) := by rw [Nat.mul_add]; omega
    omega
theorem wt_mg (f : Fet) (B : Nat) (hf : ∀ m, wtV (failO f m) ≤ B) (v : Val) (s : List Val) (hs : ∀ x ∈ s, wtV x ≤ B) : wtV (mgSt f v s).1 ≤ wtV v * (1 + B) := by
  rcases mgSt_of f v s with ⟨_, h⟩ | ⟨_, b, h, _, _, hb⟩
  · rw [h, Nat.mul_add]; omega
  · rw [h]
    have hbB : wtV b ≤ B := by
      rcases hb with ⟨m, rfl⟩ | hb
      · exact hf m
      · exact hs b hb
    exact Nat.le_trans (wt_join v b) (Nat.mul_le_mul_left _ (by omega))
theorem chg_in (f : Fet) (A : Val → Prop) (v : Val) : ∀ (p : List Hop) (s : List Val), (∀ x ∈ s, A x) → ∀ x ∈ (chg (mgSt f) p v s).2, A x :=
  Val.ind (Q := fun v => ∀ (p : List Hop) (s : List Val), (∀ x ∈ s, A x) → ∀ x ∈ (chg (mgSt f) p v s).2, A x) (fun v ih p s hb => by
    have hL : ∀ (l : List Val), (∀ x ∈ l, x ∈ v.items) → ∀ s, (∀ x ∈ s, A x) → ∀ x ∈ (chgL (mgSt f) p l s).2, A x := by
      intro l
      induction l with
      | nil => intro _ s hb; rw [chgL]; exact hb
      | cons y l ihl =>
        intro hm s hb
        rw [chgL]
        exact ihl (fun x hx => hm x (by simp [hx])) _ (ih y (hm y (by simp)) p s hb)
    rw [chg_eq]
    split
    · exact hL v.items (fun x hx => hx) s hb
    · split
      · split
        · unfold mgSt
          split
          · split
            · exact hb
            · exact fun x hx => hb x (List.mem_of_mem_drop hx)
          · exact hb
        · rename_i h p'
          split
          · rename_i hc
            obtain ⟨x, ex⟩ := ixO_at hc.2
            rw [chgN_at _ p' _ _ _ s ex]
            exact ih x (List.mem_of_getElem? ex) p' s hb
          · exact hb
      · exact hb) v
theorem wt_chg (f : Fet) (B : Nat) (hf : ∀ m, wtV (failO f m) ≤ B) (v : Val) : ∀ (p : List Hop) (s : List Val), (∀ x ∈ s, wtV x ≤ B) → wtV (chg (mgSt f) p v s).1 ≤ wtV v * (1 + B) := by
  refine Val.ind (Q := fun v => ∀ (p : List Hop) (s : List Val), (∀ x ∈ s, wtV x ≤ B) → wtV (chg (mgSt f) p v s).1 ≤ wtV v * (1 + B)) (fun v ih p s hs => ?_) v
  have ha := wtV_eq v
  have self : wtV v ≤ wtV v * (1 + B) := by rw [Nat.mul_add]; omega
  have hm : wtV v * (1 + B) = (1 + B) + wtL v.items * (1 + B) + v.keys.length * (1 + B) := by
    rw [ha, Nat.add_mul, Nat.add_mul, Nat.one_mul]
  have hk : v.keys.length ≤ v.keys.length * (1 + B) := by rw [Nat.mul_add]; omega
  rw [chg_eq]
  split
  · have hL : ∀ (l : List Val), (∀ x ∈ l, x ∈ v.items) → ∀ s, (∀ x ∈ s, wtV x ≤ B) → wtL (chgL (mgSt f) p l s).1 ≤ wtL l * (1 + B) := by
      intro l
      induction l with
      | nil => intro _ s hs; rw [chgL]; simp [wtL]
      | cons y l ihl =>
        intro hm s hs
        have h1 := ih y (hm y (by simp)) p s hs
        have h2 := ihl (fun x hx => hm x (by simp [hx])) _ (chg_in f (fun x => wtV x ≤ B) y p s hs)
        rw [chgL, wtL, wtL, Nat.add_mul]
        omega
    have := hL v.items (fun x hx => hx) s hs
    rw [wtV_eq]
    simp only [Val.items_mk, Val.keys_mk]
    omega
  · split
    · split
      · exact wt_mg f B hf v s hs
      · rename_i h p'
        split
        · rename_i hc
          obtain ⟨x, ex⟩ := ixO_at hc.2
          rw [chgN_at _ p' _ _ _ s ex]
          have h1 := wtL_set _ B (ih x (List.mem_of_getElem? ex) p' s hs) _ _ ex
          rw [wtV_eq]
          simp only [Val.items_mk, Val.keys_mk]
          omega
        · exact self
    · exact self
theorem wt_merge (f : Fet) (B : Nat) (hf : ∀ m, wtV (failO f m) ≤ B) (v : Val) (s : List Val) (hs : ∀ x ∈ s, wtV x ≤ B) : wtV (mergeV f v s) ≤ wtV v * (1 + B) := wt_chg f B hf v f.p s hs
theorem wt_failO (f : Fet) (s : ByteArray) : wtV (failO f s) ≤ 3 + 2 * wtKs f.pk := by
  have h1 := onP_len f.t f.pk
  have h2 := wtKs_len f.pk
  rw [wtV_eq]
  unfold failO collV
  simp only [Val.items_mk, Val.keys_mk, List.length_cons, List.length_map]
  rw [wtL, wt_fails, wtV_eq]
  simp only [Val.items_mk, Val.keys_mk, List.length_nil, wtL]
  omega
end Go.Proofs.Ytmcgjccheehehaa
namespace Go.Proofs.Ytmcgjccheehehaa
open Go.Eng
set_option linter.unusedVariables false
set_option linter.unusedSimpArgs false
set_option maxRecDepth 20000
set_option maxHeartbeats 1000000
def lgB (f : Fet) (v : Val) : Bool := decide (30 < (f.p.length : Int)) || decide (20 < (f.ks.length : Int)) || decide (200 < pkNs f.pk f.pk.length) || decide (2000 < wgV 2000 v)
theorem large_ok (f : Fet) (v : Val) (hv : v.Fit) (hpk : wtKs f.pk ≤ 1000000000000) (hp : CH) (m : Nat) : MeetsF Try.prog 23 hp m [fx f, vx v] (.b (lgB f v)) := by
  have h1 := picks_ok f.pk hpk
  have h2 := weight_ok 2000 v hv
  unfold lgB
  obtain ⟨A, hA⟩ : ∃ A, pkNs f.pk f.pk.length = A := ⟨_, rfl⟩
  obtain ⟨B, hB⟩ : ∃ B, wgV 2000 v = B := ⟨_, rfl⟩
  rw [hA] at h1 ⊢
  rw [hB] at h2 ⊢
  refine meetsF Try.func23 (by kernel_rfl) cc23 cr23 rfl fun hf => ?_; unfold ck23
  simp only [go_sem, ↓reduceIte, Nat.reduceEqDiff, Nat.reduceBEq, Nat.reduceAdd, Nat.reduceLeDiff, Nat.reduceLT, reduceCtorEq, Nat.reduceMul, Nat.reduceSub, Int.reduceEq, Int.reduceLT, Int.reduceLE, Int.reduceToNat]
  refine gCall.f (fun _ => h1 _ _) ?_
  simp only [go_sem, ↓reduceIte, Nat.reduceEqDiff, Nat.reduceBEq, Nat.reduceAdd, Nat.reduceLeDiff, Nat.reduceLT, reduceCtorEq, Nat.reduceMul, Nat.reduceSub, Int.reduceEq, Int.reduceLT, Int.reduceLE, Int.reduceToNat]
  refine gCall.f (fun _ => h2 _ _) ?_
  simp only [go_sem, ↓reduceIte, Nat.reduceEqDiff, Nat.reduceBEq, Nat.reduceAdd, Nat.reduceLeDiff, Nat.reduceLT, reduceCtorEq, Nat.reduceMul, Nat.reduceSub, Int.reduceEq, Int.reduceLT, Int.reduceLE, Int.reduceToNat]
end Go.Proofs.Ytmcgjccheehehaa
