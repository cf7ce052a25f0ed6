/-
  The parts VbC of the proof, in one file. Conditions: none.
-/
import Derived.Test.YtaeablbcfkamjaaVt38
namespace Go.Proofs.Ytaeablbcfkamjaa
open Go.Eng
set_option linter.unusedVariables false
set_option linter.unusedSimpArgs false
set_option maxRecDepth 20000
/-- A list whose first j elements are made of another's. -/
def mapd {α β : Type} (f : α → β) (o : List α) (l : List β) (j : Nat) : List β := (o.take j).map f ++ l.drop j
theorem mapd_zero {α β : Type} (f : α → β) (o : List α) (l : List β) : mapd f o l 0 = l := rfl
theorem mapd_all {α β : Type} (f : α → β) (o : List α) (l : List β) {j : Nat} (h1 : o.length ≤ j) (h2 : l.length ≤ j) : mapd f o l j = o.map f := by
  rw [mapd, List.take_of_length_le h1, List.drop_eq_nil_of_le h2, List.append_nil]
theorem mapd_len {α β : Type} (f : α → β) (o : List α) (l : List β) {j : Nat} (h1 : o.length = l.length) : (mapd f o l j).length = l.length := by
  rw [mapd, List.length_append, List.length_map, List.length_take, List.length_drop]
  omega
theorem mapd_set {α β : Type} (f : α → β) (o : List α) (l : List β) {j : Nat} {x : α} (h1 : o.length = l.length) (h : o[j]? = some x) : (mapd f o l j).set j (f x) = mapd f o l (j + 1) := by
  have hj := (List.getElem?_eq_some_iff.1 h).1
  have e : l.drop j = l[j] :: l.drop (j + 1) := List.drop_eq_getElem_cons (by omega)
  have hl : ((o.take j).map f).length = j := by simp; omega
  rw [mapd, e, List.set_append_right _ _ (by omega), hl, Nat.sub_self, List.set_cons_zero, mapd, List.take_add_one, h, List.map_append, List.append_assoc]
  rfl
theorem mapd_get {α β : Type} (f : α → β) (o : List α) (l : List β) {j : Nat} (h1 : o.length = l.length) : (mapd f o l j)[j]? = l[j]? := by
  rcases Nat.lt_or_ge j l.length with q | q
  · have hl : ((o.take j).map f).length = j := by simp; omega
    rw [mapd, List.getElem?_append_right (by omega), hl, Nat.sub_self, List.getElem?_drop, Nat.add_zero]
  · rw [List.getElem?_eq_none (by rw [mapd_len f o l h1]; exact q), List.getElem?_eq_none q]
/-- Is a key less than another one? -/
def ltK (l : List ByteArray) (x y : Nat) : Bool := decide (cs (l.getD x ⟨#[]⟩) (l.getD y ⟨#[]⟩) < 0)
/-- The places of the keys, in order. -/
def ordL (l : List ByteArray) : List Nat := insA (ltK l) 0 (l.length - 1) 1 (List.range l.length)
theorem ordL_len (l : List ByteArray) : (ordL l).length = l.length := by rw [ordL, insA_len, List.length_range]
theorem insA_lt (lt : Nat → Nat → Bool) (a N : Nat) : ∀ (c i : Nat) (L : List Nat), c + i ≤ L.length → allLt N L → allLt N (insA lt a c i L)
  | 0, i, L, _, h => h
  | c + 1, i, L, hi, h => by
    rw [insA]
    exact insA_lt lt a N c (i + 1) _ (by rw [sink_len]; omega) (sink_lt lt a N i L (by omega) h)
theorem ordL_lt (l : List ByteArray) : allLt l.length (ordL l) := by
  rcases Nat.eq_zero_or_pos l.length with e | e
  · intro x hx
    have := ordL_len l
    rw [e] at this
    rw [List.eq_nil_of_length_eq_zero this] at hx
    cases hx
  · exact insA_lt _ _ _ _ _ _ (by simp; omega) (fun x hx => by simpa using hx)
mutual
def sortV : Val → Val
  | .mk k n s i l => if k = 6 ∧ l.length = i.length then .mk k n s ((ordL l).map fun q => (sortL i).getD q zVal) ((ordL l).map fun q => l.getD q ⟨#[]⟩) else .mk k n s (sortL i) l
def sortL : List Val → List Val
  | [] => []
  | x :: r => sortV x :: sortL r
end
theorem sortL_map (l : List Val) : sortL l = l.map sortV := by
  induction l with
  | nil => rfl
  | cons x l ih => rw [sortL, ih]; rfl
theorem sortV_eq (v : Val) : sortV v = if v.k = 6 ∧ v.keys.length = v.items.length then .mk v.k v.n v.s ((ordL v.keys).map fun q => (v.items.map sortV).getD q zVal) ((ordL v.keys).map fun q => v.keys.getD q ⟨#[]⟩) else .mk v.k v.n v.s (v.items.map sortV) v.keys := by
  cases v
  rw [sortV, sortL_map]
  rfl
theorem le_len_range (n : Nat) : (n ≤ (List.range n).length) = True := by simp
theorem take_range (n : Nat) : (List.range n).take n = List.range n := List.take_of_length_le (by simp)
attribute [go_sem] take_range List.length_range
/-- The contract of stable sorting, for n keys. -/
def StOk (n : Nat) : Prop := ∀ (l : List ByteArray) (k g f c : Nat) (hp : CH) (m : Nat), l.length = n → gc hp k = .rw g 1 (mapC nuC (List.range l.length)) → k ≠ c → c < m →
  (∀ x y : Nat, x < l.length → y < l.length → ∀ hp' n, gc hp' c = gc hp c → MeetsF Try.prog f hp' n [.i .i64 x, .i .i64 y, .bx c 0] (.i .i64 (cs (l.getD x ⟨#[]⟩) (l.getD y ⟨#[]⟩)))) →
  MeetsX Try.prog 56 hp m [.rw k g l.length, .fn f [.bx c 0]] ((k, .rw g 1 (mapC nuC (ordL l))) :: hp) m (.tp [])
theorem stable_small (n : Nat) (hn : n < 20) : StOk n := by
  intro l k g f c hp m hl hk hkc hcm h
  have hN : allLt l.length (List.range l.length) := fun x hx => by simpa using hx
  have hk2 : ∀ hp' m', gc hp' k = .rw g 1 (mapC nuC (List.range l.length)) → gc hp' c = gc hp c → c < m' → MeetsX Try.prog 75 hp' m' [.rw k g l.length, .i .i64 (0 : Nat), .i .i64 (l.length : Nat), .fn f [.bx c 0]] ((k, .rw g 1 (mapC nuC (ordL l))) :: hp') m' (.tp []) := by
    intro hp' m' e1 e2 e3
    have := ins_ok (ltK l) (fun x y => cs (l.getD x ⟨#[]⟩) (l.getD y ⟨#[]⟩)) (fun x y => rfl) l.length (List.range l.length) hN 0 l.length (by omega) (by simp) (by simp; omega) k g f c hp' m' e1 hkc e3
      (fun x y hx hy hp2 n2 e => h x y hx hy hp2 n2 (e.trans e2))
    rw [List.length_range] at this
    exact this
  have hs : ∀ hp' m', gc hp' k = .rw g 1 (mapC nuC (List.range l.length)) → gc hp' c = gc hp c → c < m' → MeetsX Try.prog 67 hp' m' [.rw k g l.length, .i .i64 (l.length : Nat), .fn f [.bx c 0]] ((k, .rw g 1 (mapC nuC (ordL l))) :: hp') m' (.tp []) := by
    intro hp' m' e1 e2 e3
    refine meetsUpd Try.func67 (by kernel_rfl) cc67 cr67 rfl trivial (fun hf => rw_lt hf (by assumption)) fun hf => ?_; unfold ck67
    simp only [go_sem, ↓reduceIte, Nat.reduceEqDiff, Nat.reduceBEq, Nat.reduceAdd, Nat.reduceLeDiff, Nat.reduceLT, reduceCtorEq, Nat.reduceMul, Nat.reduceSub, Int.reduceEq, Int.reduceLT, Int.reduceLE, Int.reduceToNat]
    refine loop (fun _ : Unit => ⟨[(0, .rw k g l.length), (1, .i .i64 l.length), (2, .fn f [.bx c 0]), (6, .i .i64 20), (7, .i .i64 0), (8, .i .i64 20)], hp', m'⟩) (fun _ => True) (fun _ => 0) () trivial ?_ (fun _ _ => ?_)
    · refine weak_ok ?_ (Sub.refl _) (Nat.le_refl _)
      simp only [go_sem, ↓reduceIte, Nat.reduceEqDiff, Nat.reduceBEq, Nat.reduceAdd, Nat.reduceLeDiff, Nat.reduceLT, reduceCtorEq, Nat.reduceMul, Nat.reduceSub, Int.reduceEq, Int.reduceLT, Int.reduceLE, Int.reduceToNat]
    have c1 : ¬ ((20 : Int) ≤ (l.length : Int)) := by omega
    simp only [c1, go_sem, ↓reduceIte, Nat.reduceEqDiff, Nat.reduceBEq, Nat.reduceAdd, Nat.reduceLeDiff, Nat.reduceLT, reduceCtorEq, Nat.reduceMul, Nat.reduceSub, Int.reduceEq, Int.reduceLT, Int.reduceLE, Int.reduceToNat]
    refine vcCall.x (hk2 _ _ e1 e2 e3) ?_
    simp only [go_sem, ↓reduceIte, Nat.reduceEqDiff, Nat.reduceBEq, Nat.reduceAdd, Nat.reduceLeDiff, Nat.reduceLT, reduceCtorEq, Nat.reduceMul, Nat.reduceSub, Int.reduceEq, Int.reduceLT, Int.reduceLE, Int.reduceToNat]
    refine loop (fun _ : Unit => ⟨[(0, .rw k g l.length), (1, .i .i64 l.length), (2, .fn f [.bx c 0]), (6, .i .i64 20)], (k, .rw g 1 (mapC nuC (ordL l))) :: hp', m'⟩) (fun _ => True) (fun _ => 0) () trivial ?_ (fun _ _ => ?_)
    · refine weak_ok ?_ (Sub.refl _) (Nat.le_refl _)
      simp only [go_sem, ↓reduceIte, Nat.reduceEqDiff, Nat.reduceBEq, Nat.reduceAdd, Nat.reduceLeDiff, Nat.reduceLT, reduceCtorEq, Nat.reduceMul, Nat.reduceSub, Int.reduceEq, Int.reduceLT, Int.reduceLE, Int.reduceToNat]
    have c2 : ¬ ((20 : Int) < (l.length : Int)) := by omega
    simp only [c2, go_sem, ↓reduceIte, Nat.reduceEqDiff, Nat.reduceBEq, Nat.reduceAdd, Nat.reduceLeDiff, Nat.reduceLT, reduceCtorEq, Nat.reduceMul, Nat.reduceSub, Int.reduceEq, Int.reduceLT, Int.reduceLE, Int.reduceToNat]
  refine meetsUpd Try.func56 (by kernel_rfl) cc56 cr56 rfl trivial (fun hf => rw_lt hf (by assumption)) fun hf => ?_; unfold ck56
  have := rw_lt hf hk
  simp only [hk, List.length_range, le_len_range, go_sem, ↓reduceIte, Nat.reduceEqDiff, Nat.reduceBEq, Nat.reduceAdd, Nat.reduceLeDiff, Nat.reduceLT, reduceCtorEq, Nat.reduceMul, Nat.reduceSub, Int.reduceEq, Int.reduceLT, Int.reduceLE, Int.reduceToNat]
  refine vcCall.x (hs _ _ hk rfl hcm) ?_
  simp only [go_sem, ↓reduceIte, Nat.reduceEqDiff, Nat.reduceBEq, Nat.reduceAdd, Nat.reduceLeDiff, Nat.reduceLT, reduceCtorEq, Nat.reduceMul, Nat.reduceSub, Int.reduceEq, Int.reduceLT, Int.reduceLE, Int.reduceToNat]
theorem set_st (l : List ByteArray) (i : Nat) (s : ByteArray) : (mapC st1 l).set i [AV.s s] = mapC st1 (l.set i s) := by simp [mapC, List.map_set, st1]
theorem le_map {α β : Type} (f : α → β) (l : List α) : (l.length ≤ (l.map f).length) = True := by simp
theorem take_map {α β : Type} (f : α → β) (l : List α) : (l.map f).take l.length = l.map f := List.take_of_length_le (by simp)
theorem sort1_ok (v : Val) (c : Nat) (hp : CH) (m : Nat) (hc : gc hp c = .bx [.i .i64 v.k, .i .i64 v.n, .s v.s, .ds (mapC valC v.items), .ds (stC v.keys)]) (x y : Nat) (hx : x < v.keys.length) (hy : y < v.keys.length) :
    MeetsF Try.prog 57 hp m [.i .i64 x, .i .i64 y, .bx c 0] (.i .i64 (cs (v.keys.getD x ⟨#[]⟩) (v.keys.getD y ⟨#[]⟩))) := by
  refine meetsF Try.func57 (by kernel_rfl) cc57 cr57 rfl fun hf => ?_; unfold ck57
  have hlt := bx_lt hf hc
  have ex : v.keys[x]? = some (v.keys.getD x ⟨#[]⟩) := by rw [List.getD, List.getElem?_eq_getElem hx]; rfl
  have ey : v.keys[y]? = some (v.keys.getD y ⟨#[]⟩) := by rw [List.getD, List.getElem?_eq_getElem hy]; rfl
  simp only [hc, hx, hy, getK_s (mapC_get st1 ex), getK_s (mapC_get st1 ey), go_sem, ↓reduceIte, Nat.reduceEqDiff, Nat.reduceBEq, Nat.reduceAdd, Nat.reduceLeDiff, Nat.reduceLT, reduceCtorEq, Nat.reduceMul, Nat.reduceSub, Int.reduceEq, Int.reduceLT, Int.reduceLE, Int.reduceToNat]
  first | refine dCallR.f (fun _ _ _ => cmpStrings_ok _ _ _ _) ?_ | refine dCall.f (fun _ _ _ => cmpStrings_ok _ _ _ _) ?_
  simp only [go_sem, ↓reduceIte, Nat.reduceEqDiff, Nat.reduceBEq, Nat.reduceAdd, Nat.reduceLeDiff, Nat.reduceLT, reduceCtorEq, Nat.reduceMul, Nat.reduceSub, Int.reduceEq, Int.reduceLT, Int.reduceLE, Int.reduceToNat]
theorem clone_vr (l : List Val) (h : l.length * 80 ≤ 140737488355327) (k g len : Nat) (hl : l.length = len) (hp : CH) (m : Nat) (hk : gc hp k = .rw g 5 (mapC valC l)) : MeetsF Try.prog 58 hp m [.rw k g len] (.ds (mapC valC l)) := by
  subst hl
  refine meetsF Try.func58 (by kernel_rfl) cc58 cr58 rfl fun hf => ?_; unfold ck58
  have := rw_lt hf hk
  have z1 : ¬ m = k := by omega
  simp only [hk, z1, go_sem, ↓reduceIte, Nat.reduceEqDiff, Nat.reduceBEq, Nat.reduceAdd, Nat.reduceLeDiff, Nat.reduceLT, reduceCtorEq, Nat.reduceMul, Nat.reduceSub, Int.reduceEq, Int.reduceLT, Int.reduceLE, Int.reduceToNat]
  exact ⟨fun e => by simp at e; subst e; rfl, by omega, by omega⟩
theorem sort_of (v : Val) (hv : v.Fit) (hS : StOk v.keys.length) (h : ∀ x ∈ v.items, ∀ hp m, MeetsF Try.prog 31 hp m [vx x] (vx (sortV x))) (hp : CH) (m : Nat) : MeetsF Try.prog 31 hp m [vx v] (vx (sortV v)) := by
  have h1 := hv.i
  have h2 := hv.l
  have e := sortV_eq v
  obtain ⟨R, hR⟩ : ∃ R, sortV v = R := ⟨_, rfl⟩
  rw [hR] at e ⊢
  refine meetsF Try.func31 (by kernel_rfl) cc31 cr31 rfl fun hf => ?_; unfold ck31
  simp only [go_sem, ↓reduceIte, Nat.reduceEqDiff, Nat.reduceBEq, Nat.reduceAdd, Nat.reduceLeDiff, Nat.reduceLT, reduceCtorEq, Nat.reduceMul, Nat.reduceSub, Int.reduceEq, Int.reduceLT, Int.reduceLE, Int.reduceToNat]
  refine vcCall.x (copy_r v hv _ _) ?_
  simp only [go_sem, ↓reduceIte, Nat.reduceEqDiff, Nat.reduceBEq, Nat.reduceAdd, Nat.reduceLeDiff, Nat.reduceLT, reduceCtorEq, Nat.reduceMul, Nat.reduceSub, Int.reduceEq, Int.reduceLT, Int.reduceLE, Int.reduceToNat]
  refine loop (fun p : Nat × Nat => ⟨[(1, .bx m 0), (2, .bx (m + 1) 0), (3, .bx (m + 4) 0), (14, .i .i64 v.items.length), (15, .i .i64 p.1)],
      (m + 4, .bx [.i .i64 v.k, .i .i64 v.n, .s v.s, .rw (m + 2) 0 v.items.length, .rw (m + 3) 0 v.keys.length]) :: (m + 2, .rw 0 5 (mapC valC (mapd sortV v.items v.items p.1))) :: (m + 3, .rw 0 1 (stC (v.keys))) :: (m + 1, .bx [.i .i64 0, .i .i64 0, .s ⟨#[]⟩, .e0, .e0]) :: (m, .bx [.i .i64 v.k, .i .i64 v.n, .s v.s, .ds (mapC valC v.items), .ds (stC v.keys)]) :: hp, p.2⟩) (fun p => p.1 ≤ v.items.length ∧ m + 5 ≤ p.2) (fun p => v.items.length - p.1) (0, m + 5) ?_ ?_ (fun ⟨j, n⟩ hj => ?_)
  · exact ⟨by simp, by simp⟩
  · refine weak_ok ?_ (Sub.cons ?_ (Sub.cons ?_ (Sub.cons ?_ (Sub.cons ?_ (Sub.cons ?_ (Sub.base hf ?_)))))) (Nat.le_refl _)
    all_goals
      simp only [mapd_zero, go_sem, ↓reduceIte, Nat.reduceEqDiff, Nat.reduceBEq, Nat.reduceAdd, Nat.reduceLeDiff, Nat.reduceLT, reduceCtorEq, Nat.reduceMul, Nat.reduceSub, Int.reduceEq, Int.reduceLT, Int.reduceLE, Int.reduceToNat]
  dsimp only at hj
  obtain ⟨hj1, hj2⟩ := hj
  have z1 : ¬ n = m := by omega
  have z2 : ¬ n = m + 1 := by omega
  have z3 : ¬ n = m + 2 := by omega
  have z4 : ¬ n = m + 3 := by omega
  have z5 : ¬ n = m + 4 := by omega
  have z6 : m ≤ n := by omega
  have hml := mapd_len sortV v.items v.items (j := j) rfl
  have hmt : (mapd sortV v.items v.items j).take v.items.length = mapd sortV v.items v.items j := List.take_of_length_le (by omega)
  simp only [go_sem, ↓reduceIte, Nat.reduceEqDiff, Nat.reduceBEq, Nat.reduceAdd, Nat.reduceLeDiff, Nat.reduceLT, reduceCtorEq, Nat.reduceMul, Nat.reduceSub, Int.reduceEq, Int.reduceLT, Int.reduceLE, Int.reduceToNat]
  refine cdK_of (fun d => ?_) (fun d => ?_)
  · have d : j < v.items.length := by simpa using d
    obtain ⟨x, ex⟩ : ∃ x, v.items[j]? = some x := ⟨v.items[j], by simp [d]⟩
    have ex2 : (mapd sortV v.items v.items j)[j]? = some x := by rw [mapd_get _ _ _ rfl]; exact ex
    simp only [d, hml, hmt, z1, z2, z3, z4, z5, z6, getK_s (mapC_get valC ex2), go_sem, ↓reduceIte, Nat.reduceEqDiff, Nat.reduceBEq, Nat.reduceAdd, Nat.reduceLeDiff, Nat.reduceLT, reduceCtorEq, Nat.reduceMul, Nat.reduceSub, Int.reduceEq, Int.reduceLT, Int.reduceLE, Int.reduceToNat]
    first | refine dCallR.f (fun _ _ _ => h x (List.mem_of_getElem? ex) _ _) ?_ | refine dCall.f (fun _ _ _ => h x (List.mem_of_getElem? ex) _ _) ?_
    simp only [go_sem, ↓reduceIte, Nat.reduceEqDiff, Nat.reduceBEq, Nat.reduceAdd, Nat.reduceLeDiff, Nat.reduceLT, reduceCtorEq, Nat.reduceMul, Nat.reduceSub, Int.reduceEq, Int.reduceLT, Int.reduceLE, Int.reduceToNat]
    simp only [d, hml, hmt, z1, z2, z3, z4, z5, z6, mapC_get valC ex2, go_sem, ↓reduceIte, Nat.reduceEqDiff, Nat.reduceBEq, Nat.reduceAdd, Nat.reduceLeDiff, Nat.reduceLT, reduceCtorEq, Nat.reduceMul, Nat.reduceSub, Int.reduceEq, Int.reduceLT, Int.reduceLE, Int.reduceToNat]
    refine ⟨(j + 1, _), ⟨by dsimp only; omega, by dsimp only; omega⟩, by dsimp only; omega, weak_ok ?_ (Sub.cons ?_ (Sub.cons ?_ (Sub.cons ?_ (Sub.cons ?_ (Sub.cons ?_ (Sub.base hf ?_)))))) (Nat.le_refl _)⟩
    all_goals
      simp only [wr64s j (by omega), mapd_set sortV v.items v.items rfl ex, z1, z2, z3, z4, z5, z6, go_sem, ↓reduceIte, Nat.reduceEqDiff, Nat.reduceBEq, Nat.reduceAdd, Nat.reduceLeDiff, Nat.reduceLT, reduceCtorEq, Nat.reduceMul, Nat.reduceSub, Int.reduceEq, Int.reduceLT, Int.reduceLE, Int.reduceToNat]
  · have d : j = v.items.length := by simp at d; omega
    subst d
    rw [mapd_all _ _ _ (by simp) (by simp)]
    simp only [z1, z2, z3, z4, z5, z6, go_sem, ↓reduceIte, Nat.reduceEqDiff, Nat.reduceBEq, Nat.reduceAdd, Nat.reduceLeDiff, Nat.reduceLT, reduceCtorEq, Nat.reduceMul, Nat.reduceSub, Int.reduceEq, Int.reduceLT, Int.reduceLE, Int.reduceToNat]
    refine cdK_of (fun d => ?_) (fun d => ?_)
    · have d : ¬ (v.k = 6 ∧ v.keys.length = v.items.length) := fun q => by simp [q.1, q.2] at d
      rw [if_neg d] at e
      subst e
      simp only [z1, z2, z3, z4, z5, z6, le_map, take_map, go_sem, ↓reduceIte, Nat.reduceEqDiff, Nat.reduceBEq, Nat.reduceAdd, Nat.reduceLeDiff, Nat.reduceLT, reduceCtorEq, Nat.reduceMul, Nat.reduceSub, Int.reduceEq, Int.reduceLT, Int.reduceLE, Int.reduceToNat]
    have d : v.k = 6 ∧ v.keys.length = v.items.length := by simp at d; omega
    rw [if_pos d] at e
    have hL := d.2
    have hol := ordL_len v.keys
    have hrep : List.replicate v.keys.length [AV.i .i64 0] = mapC nuC (List.replicate v.keys.length 0) := by simp [mapC, nuC]
    have hrl : (List.replicate v.keys.length 0).length = v.keys.length := by simp
    have hrt : (List.replicate v.keys.length 0).take v.keys.length = List.replicate v.keys.length 0 := List.take_of_length_le (by simp)
    have hrr : (List.range v.keys.length).length = v.keys.length := by simp
    simp only [z1, z2, z3, z4, z5, z6, hrep, hrl, hrt, go_sem, ↓reduceIte, Nat.reduceEqDiff, Nat.reduceBEq, Nat.reduceAdd, Nat.reduceLeDiff, Nat.reduceLT, reduceCtorEq, Nat.reduceMul, Nat.reduceSub, Int.reduceEq, Int.reduceLT, Int.reduceLE, Int.reduceToNat]
    refine ⟨by omega, by omega, by omega, ?_⟩
    have w1 : ¬ m = n := by omega
    have w2 : ¬ m + 1 = n := by omega
    have w3 : ¬ m + 2 = n := by omega
    have w4 : ¬ m + 3 = n := by omega
    have w5 : ¬ m + 4 = n := by omega
    refine loop (fun p : Nat × Nat => ⟨[(1, .bx m 0), (2, .bx (m + 1) 0), (3, .bx (m + 4) 0), (5, .rw n 0 v.keys.length), (47, .i .i64 v.keys.length), (48, .i .i64 p.1)],
        (n, .rw 0 1 (mapC nuC (mapd (fun x => x) (List.range v.keys.length) (List.replicate v.keys.length 0) p.1))) :: (m + 4, .bx [.i .i64 v.k, .i .i64 v.n, .s v.s, .rw (m + 2) 0 v.items.length, .rw (m + 3) 0 v.keys.length]) :: (m + 2, .rw 0 5 (mapC valC (v.items.map sortV))) :: (m + 3, .rw 0 1 (stC (v.keys))) :: (m + 1, .bx [.i .i64 0, .i .i64 0, .s ⟨#[]⟩, .e0, .e0]) :: (m, .bx [.i .i64 v.k, .i .i64 v.n, .s v.s, .ds (mapC valC v.items), .ds (stC v.keys)]) :: hp, p.2⟩) (fun p => p.1 ≤ v.keys.length ∧ n + 1 ≤ p.2) (fun p => v.keys.length - p.1) (0, n + 1) ?_ ?_ (fun ⟨j, n2⟩ hi => ?_)
    · exact ⟨by simp, by simp⟩
    · refine weak_ok ?_ (Sub.cons ?_ (Sub.cons ?_ (Sub.cons ?_ (Sub.cons ?_ (Sub.cons ?_ (Sub.cons ?_ (Sub.base hf ?_))))))) (Nat.le_refl _)
      all_goals
        simp only [mapd_zero, z1, z2, z3, z4, z5, z6, w1, w2, w3, w4, w5, hrep, go_sem, ↓reduceIte, Nat.reduceEqDiff, Nat.reduceBEq, Nat.reduceAdd, Nat.reduceLeDiff, Nat.reduceLT, reduceCtorEq, Nat.reduceMul, Nat.reduceSub, Int.reduceEq, Int.reduceLT, Int.reduceLE, Int.reduceToNat]
    dsimp only at hi
    obtain ⟨hi1, hi2⟩ := hi
    have hml2 := mapd_len (fun x => x) (List.range v.keys.length) (List.replicate v.keys.length 0) (j := j) (by simp)
    rw [hrl] at hml2
    simp only [go_sem, ↓reduceIte, Nat.reduceEqDiff, Nat.reduceBEq, Nat.reduceAdd, Nat.reduceLeDiff, Nat.reduceLT, reduceCtorEq, Nat.reduceMul, Nat.reduceSub, Int.reduceEq, Int.reduceLT, Int.reduceLE, Int.reduceToNat]
    refine cdK_of (fun d2 => ?_) (fun d2 => ?_)
    · have d2 : j < v.keys.length := by simpa using d2
      have ex : (List.range v.keys.length)[j]? = some j := by simp [d2]
      have ex2 : (mapd (fun x => x) (List.range v.keys.length) (List.replicate v.keys.length 0) j)[j]? = some 0 := by rw [mapd_get _ _ _ (by simp)]; simp [d2]
      have hmt2 : (mapd (fun x => x) (List.range v.keys.length) (List.replicate v.keys.length 0) j).take v.keys.length = mapd (fun x => x) (List.range v.keys.length) (List.replicate v.keys.length 0) j := List.take_of_length_le (by omega)
      have es := mapd_set (fun x => x) (List.range v.keys.length) (List.replicate v.keys.length 0) (by simp) ex
      simp only [d2, hml2, hmt2, z1, z2, z3, z4, z5, z6, w1, w2, w3, w4, w5, getK_s (mapC_get nuC ex2), mapC_get nuC ex2, es, go_sem, ↓reduceIte, Nat.reduceEqDiff, Nat.reduceBEq, Nat.reduceAdd, Nat.reduceLeDiff, Nat.reduceLT, reduceCtorEq, Nat.reduceMul, Nat.reduceSub, Int.reduceEq, Int.reduceLT, Int.reduceLE, Int.reduceToNat]
      refine ⟨(j + 1, _), ⟨by dsimp only; omega, by dsimp only; omega⟩, by dsimp only; omega, weak_ok ?_ (Sub.cons ?_ (Sub.cons ?_ (Sub.cons ?_ (Sub.cons ?_ (Sub.cons ?_ (Sub.cons ?_ (Sub.base hf ?_))))))) (Nat.le_refl _)⟩
      all_goals
        simp only [wr64s j (by omega), z1, z2, z3, z4, z5, z6, w1, w2, w3, w4, w5, go_sem, ↓reduceIte, Nat.reduceEqDiff, Nat.reduceBEq, Nat.reduceAdd, Nat.reduceLeDiff, Nat.reduceLT, reduceCtorEq, Nat.reduceMul, Nat.reduceSub, Int.reduceEq, Int.reduceLT, Int.reduceLE, Int.reduceToNat]
    have d2 : j = v.keys.length := by simp at d2; omega
    subst d2
    rw [mapd_all _ _ _ (by simp) (by simp), List.map_id']
    simp only [z1, z2, z3, z4, z5, z6, w1, w2, w3, w4, w5, go_sem, ↓reduceIte, Nat.reduceEqDiff, Nat.reduceBEq, Nat.reduceAdd, Nat.reduceLeDiff, Nat.reduceLT, reduceCtorEq, Nat.reduceMul, Nat.reduceSub, Int.reduceEq, Int.reduceLT, Int.reduceLE, Int.reduceToNat]
    refine vcCall.x (hS v.keys n 0 57 m _ _ rfl (gc_same _ _ _) ?_ ?_ ?_) ?_
    · omega
    · omega
    · intro x y hx hy hp' n' e
      refine sort1_ok v m hp' n' (e.trans ?_) x y hx hy
      simp only [z1, z2, z3, z4, z5, z6, w1, w2, w3, w4, w5, go_sem, ↓reduceIte, Nat.reduceEqDiff, Nat.reduceBEq, Nat.reduceAdd, Nat.reduceLeDiff, Nat.reduceLT, reduceCtorEq, Nat.reduceMul, Nat.reduceSub, Int.reduceEq, Int.reduceLT, Int.reduceLE, Int.reduceToNat]
    simp only [z1, z2, z3, z4, z5, z6, w1, w2, w3, w4, w5, go_sem, ↓reduceIte, Nat.reduceEqDiff, Nat.reduceBEq, Nat.reduceAdd, Nat.reduceLeDiff, Nat.reduceLT, reduceCtorEq, Nat.reduceMul, Nat.reduceSub, Int.reduceEq, Int.reduceLT, Int.reduceLE, Int.reduceToNat]
    refine vcCall.f (clone_vr (v.items.map sortV) (by simp; omega) (m + 2) 0 _ (by simp) _ _ ?_) ?_
    · simp only [z1, z2, z3, z4, z5, z6, w1, w2, w3, w4, w5, go_sem, ↓reduceIte, Nat.reduceEqDiff, Nat.reduceBEq, Nat.reduceAdd, Nat.reduceLeDiff, Nat.reduceLT, reduceCtorEq, Nat.reduceMul, Nat.reduceSub, Int.reduceEq, Int.reduceLT, Int.reduceLE, Int.reduceToNat]
    have hot : (ordL v.keys).take v.keys.length = ordL v.keys := List.take_of_length_le (by omega)
    simp only [z1, z2, z3, z4, z5, z6, w1, w2, w3, w4, w5, hol, hot, go_sem, ↓reduceIte, Nat.reduceEqDiff, Nat.reduceBEq, Nat.reduceAdd, Nat.reduceLeDiff, Nat.reduceLT, reduceCtorEq, Nat.reduceMul, Nat.reduceSub, Int.reduceEq, Int.reduceLT, Int.reduceLE, Int.reduceToNat]
    obtain ⟨FI, hFI⟩ : ∃ FI : Nat → Val, FI = fun q => (v.items.map sortV).getD q zVal := ⟨_, rfl⟩
    obtain ⟨FK, hFK⟩ : ∃ FK : Nat → ByteArray, FK = fun q => v.keys.getD q ⟨#[]⟩ := ⟨_, rfl⟩
    rw [← hFI, ← hFK] at e
    refine loop (fun p : Nat × Nat => ⟨[(1, .bx m 0), (2, .bx (m + 1) 0), (3, .bx (m + 4) 0), (7, .ds (mapC valC (v.items.map sortV))), (62, .rw n 0 v.keys.length), (63, .i .i64 v.keys.length), (64, .i .i64 p.1)],
        (n, .rw 0 1 (mapC nuC (ordL v.keys))) :: (m + 4, .bx [.i .i64 v.k, .i .i64 v.n, .s v.s, .rw (m + 2) 0 v.items.length, .rw (m + 3) 0 v.keys.length]) :: (m + 2, .rw 0 5 (mapC valC (mapd FI (ordL v.keys) (v.items.map sortV) p.1))) :: (m + 3, .rw 0 1 (stC (mapd FK (ordL v.keys) v.keys p.1))) :: (m + 1, .bx [.i .i64 0, .i .i64 0, .s ⟨#[]⟩, .e0, .e0]) :: (m, .bx [.i .i64 v.k, .i .i64 v.n, .s v.s, .ds (mapC valC v.items), .ds (stC v.keys)]) :: hp, p.2⟩) (fun p => p.1 ≤ v.keys.length ∧ n + 1 ≤ p.2) (fun p => v.keys.length - p.1) (0, n2) ?_ ?_ (fun ⟨j, n3⟩ hi => ?_)
    · exact ⟨by simp, hi2⟩
    · refine weak_ok ?_ (Sub.cons ?_ (Sub.cons ?_ (Sub.cons ?_ (Sub.cons ?_ (Sub.cons ?_ (Sub.cons ?_ (Sub.base hf ?_))))))) (Nat.le_refl _)
      all_goals
        simp only [mapd_zero, z1, z2, z3, z4, z5, z6, w1, w2, w3, w4, w5, go_sem, ↓reduceIte, Nat.reduceEqDiff, Nat.reduceBEq, Nat.reduceAdd, Nat.reduceLeDiff, Nat.reduceLT, reduceCtorEq, Nat.reduceMul, Nat.reduceSub, Int.reduceEq, Int.reduceLT, Int.reduceLE, Int.reduceToNat]
    dsimp only at hi
    obtain ⟨hi3, hi4⟩ := hi
    have l1 := mapd_len FI (ordL v.keys) (v.items.map sortV) (j := j) (by simp; omega)
    have l2 := mapd_len FK (ordL v.keys) v.keys (j := j) (by omega)
    rw [List.length_map] at l1
    simp only [go_sem, ↓reduceIte, Nat.reduceEqDiff, Nat.reduceBEq, Nat.reduceAdd, Nat.reduceLeDiff, Nat.reduceLT, reduceCtorEq, Nat.reduceMul, Nat.reduceSub, Int.reduceEq, Int.reduceLT, Int.reduceLE, Int.reduceToNat]
    refine cdK_of (fun d2 => ?_) (fun d2 => ?_)
    · have d2 : j < v.keys.length := by simpa using d2
      obtain ⟨o, eo⟩ : ∃ o, (ordL v.keys)[j]? = some o := ⟨_, List.getElem?_eq_getElem (by omega)⟩
      have ho := ordL_lt v.keys o (List.mem_of_getElem? eo)
      have ho2 : o < v.items.length := by omega
      have d3 : j < v.items.length := by omega
      have s1 := mapd_set FI (ordL v.keys) (v.items.map sortV) (by simp; omega) eo
      have s2 := mapd_set FK (ordL v.keys) v.keys (by omega) eo
      have t1 : (mapd FI (ordL v.keys) (v.items.map sortV) j).take v.items.length = mapd FI (ordL v.keys) (v.items.map sortV) j := List.take_of_length_le (by omega)
      have t2 : (mapd FK (ordL v.keys) v.keys j).take v.keys.length = mapd FK (ordL v.keys) v.keys j := List.take_of_length_le (by omega)
      have k1 : v.keys[o]? = some (FK o) := by rw [hFK]; dsimp only; rw [List.getD, List.getElem?_eq_getElem ho]; rfl
      have k2 : (v.items.map sortV)[o]? = some (FI o) := by rw [hFI]; dsimp only; rw [List.getD, List.getElem?_eq_getElem (by simpa using ho2)]; rfl
      obtain ⟨y1, e1⟩ : ∃ y, (mapd FI (ordL v.keys) (v.items.map sortV) j)[j]? = some y := ⟨_, List.getElem?_eq_getElem (by omega)⟩
      obtain ⟨y2, e2⟩ : ∃ y, (mapd FK (ordL v.keys) v.keys j)[j]? = some y := ⟨_, List.getElem?_eq_getElem (by omega)⟩
      simp only [d2, d3, z1, z2, z3, z4, z5, z6, w1, w2, w3, w4, w5, getK_s (mapC_get nuC eo), hol, hot, ho, ho2, l1, l2, t1, t2, getK_s (mapC_get st1 k1), getK_s (mapC_get valC k2), List.length_map, mapC_get valC e1, mapC_get st1 e2, go_sem, ↓reduceIte, Nat.reduceEqDiff, Nat.reduceBEq, Nat.reduceAdd, Nat.reduceLeDiff, Nat.reduceLT, reduceCtorEq, Nat.reduceMul, Nat.reduceSub, Int.reduceEq, Int.reduceLT, Int.reduceLE, Int.reduceToNat]
      refine ⟨(j + 1, _), ⟨by dsimp only; omega, by dsimp only; omega⟩, by dsimp only; omega, weak_ok ?_ (Sub.cons ?_ (Sub.cons ?_ (Sub.cons ?_ (Sub.cons ?_ (Sub.cons ?_ (Sub.cons ?_ (Sub.base hf ?_))))))) (Nat.le_refl _)⟩
      all_goals
        simp only [wr64s j (by omega), z1, z2, z3, z4, z5, z6, w1, w2, w3, w4, w5, set_st, s1, s2, go_sem, ↓reduceIte, Nat.reduceEqDiff, Nat.reduceBEq, Nat.reduceAdd, Nat.reduceLeDiff, Nat.reduceLT, reduceCtorEq, Nat.reduceMul, Nat.reduceSub, Int.reduceEq, Int.reduceLT, Int.reduceLE, Int.reduceToNat]
    have d2 : j = v.keys.length := by simp at d2; omega
    subst d2
    rw [mapd_all _ _ _ (by omega) (by simp; omega), mapd_all _ _ _ (by omega) (by omega)]
    have t1 : ((ordL v.keys).map FI).take v.items.length = (ordL v.keys).map FI := List.take_of_length_le (by simp; omega)
    have t2 : ((ordL v.keys).map FK).take v.keys.length = (ordL v.keys).map FK := List.take_of_length_le (by simp; omega)
    subst e
    have t3 : v.items.length ≤ ((ordL v.keys).map FI).length := by simp; omega
    have t4 : v.keys.length ≤ ((ordL v.keys).map FK).length := by simp; omega
    simp only [z1, z2, z3, z4, z5, z6, w1, w2, w3, w4, w5, t1, t2, t3, t4, go_sem, ↓reduceIte, Nat.reduceEqDiff, Nat.reduceBEq, Nat.reduceAdd, Nat.reduceLeDiff, Nat.reduceLT, reduceCtorEq, Nat.reduceMul, Nat.reduceSub, Int.reduceEq, Int.reduceLT, Int.reduceLE, Int.reduceToNat]
/-- All keys of a value and of those within are sorted. -/
inductive SOk : Val → Prop
  | mk (v : Val) : StOk v.keys.length → (∀ x ∈ v.items, SOk x) → SOk v
theorem SOk.s {v : Val} (h : SOk v) : StOk v.keys.length := by cases h; assumption
theorem SOk.x {v : Val} (h : SOk v) {x : Val} (hx : x ∈ v.items) : SOk x := by cases h with | mk _ _ h => exact h x hx
theorem sort_ok (v : Val) (hv : v.Fit) (hs : SOk v) (hp : CH) (m : Nat) : MeetsF Try.prog 31 hp m [vx v] (vx (sortV v)) := by
  have := Val.ind (Q := fun v => v.Fit → SOk v → ∀ hp m, MeetsF Try.prog 31 hp m [vx v] (vx (sortV v))) (fun v ih hv hs hp m => sort_of v hv hs.s (fun x hx => ih x hx (hv.x hx) (hs.x hx)) hp m) v
  exact this hv hs hp m
end Go.Proofs.Ytaeablbcfkamjaa
