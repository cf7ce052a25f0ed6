/-
  The parts VsI of the proof, in one file. Conditions: none.
-/
import Derived.Test.YtaeablbcfkamjaaVt49
namespace Go.Proofs.Ytaeablbcfkamjaa
open Go.Eng Vs
set_option linter.unusedVariables false
set_option linter.unusedSimpArgs false
set_option maxRecDepth 20000
theorem getD_range {α : Type} (L : List α) (d : α) : ((List.range L.length).map fun q => L.getD q d) = L := by
  apply List.ext_getElem?
  intro i
  rcases Nat.lt_or_ge i L.length with h | h
  · rw [List.getElem?_map, List.getElem?_range h, Option.map_some, List.getD_eq_getElem?_getD, List.getElem?_eq_getElem h]
    rfl
  · rw [List.getElem?_eq_none (by simpa using h), List.getElem?_eq_none h]
theorem ordL_perm (l : List ByteArray) : (ordL l).Perm (List.range l.length) := (ord_ordL l).perm (TT_irr l)
theorem keys_perm (l : List ByteArray) : ((ordL l).map fun q => l.getD q ⟨#[]⟩).Perm l := by
  have := (ordL_perm l).map fun q => l.getD q ⟨#[]⟩
  rwa [getD_range] at this
theorem items_perm {α : Type} (l : List ByteArray) (L : List α) (d : α) (h : l.length = L.length) : ((ordL l).map fun q => L.getD q d).Perm L := by
  have := (ordL_perm l).map fun q => L.getD q d
  rw [h, getD_range] at this
  exact this
theorem getD_map {α β : Type} (f : α → β) (L : List α) (a : α) (b : β) {i : Nat} (h : i < L.length) : (L.map f).getD i b = f (L.getD i a) := by
  rw [List.getD_eq_getElem?_getD, List.getD_eq_getElem?_getD, List.getElem?_map, List.getElem?_eq_getElem h]
  rfl
/-- Keys in order stay. -/
theorem ordL_sorted (l : List ByteArray) : ordL ((ordL l).map fun q => l.getD q ⟨#[]⟩) = List.range l.length := by
  have ho := ord_ordL l
  have hlt := ordL_lt l
  obtain ⟨l', hl'⟩ : ∃ l', ((ordL l).map fun q => l.getD q ⟨#[]⟩) = l' := ⟨_, rfl⟩
  have hn : l'.length = l.length := by rw [← hl', List.length_map, ho.len]
  rw [hl', ← hn]
  refine (ordL_one l' ⟨by simp, fun k hk => by rw [rd_range hk]; exact hk, fun i j _ hij hj => ?_⟩).symm
  rw [rd_range (by omega), rd_range hj]
  have e : ∀ k, k < l.length → l'.getD k ⟨#[]⟩ = l.getD (rd (ordL l) k) ⟨#[]⟩ := fun k hk => by
    rw [← hl', getD_map (fun q => l.getD q ⟨#[]⟩) (ordL l) 0 _ (by rw [ho.len]; exact hk)]
    rfl
  have h := ho.srt i j (Nat.zero_le _) hij (by omega)
  unfold TT at h ⊢
  rw [e i (by omega), e j (by omega)]
  omega
theorem sortV_idem (v : Val) : sortV (sortV v) = sortV v := by
  refine Val.ind (Q := fun v => sortV (sortV v) = sortV v) (fun v ih => ?_) v
  have hm : (v.items.map sortV).map sortV = v.items.map sortV := by
    rw [List.map_map]
    exact List.map_congr_left fun x hx => ih x hx
  by_cases c : v.k = 6 ∧ v.keys.length = v.items.length
  · have hlen := (ord_ordL v.keys).len
    have hlt := ordL_lt v.keys
    have e := sortV_eq v
    rw [if_pos c] at e
    rw [e, sortV_eq, if_pos ⟨c.1, by simp only [Val.keys_mk, Val.items_mk, List.length_map]⟩]
    simp only [Val.k_mk, Val.n_mk, Val.s_mk, Val.keys_mk, Val.items_mk]
    rw [ordL_sorted]
    have h1 : (((ordL v.keys).map fun q => (v.items.map sortV).getD q zVal).map sortV) = (ordL v.keys).map fun q => (v.items.map sortV).getD q zVal := by
      rw [List.map_map]
      refine List.map_congr_left fun q hq => ?_
      have hq' := hlt q hq
      have hx : (v.items.map sortV).getD q zVal = sortV (v.items.getD q zVal) := getD_map sortV v.items zVal zVal (by omega)
      simp only [Function.comp]
      rw [hx]
      refine ih _ ?_
      rw [List.getD_eq_getElem?_getD, List.getElem?_eq_getElem (by omega : q < v.items.length)]
      exact List.getElem_mem _
    rw [h1]
    have r1 := getD_range ((ordL v.keys).map fun q => (v.items.map sortV).getD q zVal) zVal
    have r2 := getD_range ((ordL v.keys).map fun q => v.keys.getD q ⟨#[]⟩) ⟨#[]⟩
    rw [List.length_map, hlen] at r1 r2
    rw [r1, r2]
  · have e := sortV_eq v
    rw [if_neg c] at e
    rw [e, sortV_eq, if_neg (by simp only [Val.k_mk, Val.keys_mk, Val.items_mk, List.length_map]; exact c)]
    simp only [Val.k_mk, Val.n_mk, Val.s_mk, Val.keys_mk, Val.items_mk]
    rw [hm]
theorem wrap_comm (n a b : Int) : IntKind.i64.wrap (IntKind.i64.wrap (n + a) + b) = IntKind.i64.wrap (IntKind.i64.wrap (n + b) + a) := by
  simp only [IntKind.wrap, IntKind.bits, IntKind.signed]
  simp
  omega
theorem szL_perm {l m : List Val} (h : l.Perm m) : ∀ n, szL l n = szL m n := by
  induction h with
  | nil => intro n; rfl
  | cons x _ ih => intro n; rw [szL, szL]; exact ih _
  | swap x y l => intro n; rw [szL, szL, szL, szL, wrap_comm]
  | trans _ _ h1 h2 => intro n; rw [h1, h2]
theorem szL_map {f : Val → Val} : ∀ (l : List Val) (n : Int), (∀ x ∈ l, szV (f x) = szV x) → szL (l.map f) n = szL l n
  | [], n, _ => rfl
  | x :: l, n, h => by rw [List.map_cons, szL, szL, h x (by simp)]; exact szL_map l _ fun y hy => h y (by simp [hy])
theorem dpL_perm {l m : List Val} (h : l.Perm m) : ∀ n, dpL l n = dpL m n := by
  induction h with
  | nil => intro n; rfl
  | cons x _ ih => intro n; rw [dpL, dpL]; exact ih _
  | swap x y l =>
    intro n
    rw [dpL, dpL, dpL, dpL]
    congr 1
    repeat' split
    all_goals omega
  | trans _ _ h1 h2 => intro n; rw [h1, h2]
theorem dpL_map {f : Val → Val} : ∀ (l : List Val) (n : Int), (∀ x ∈ l, dpV (f x) = dpV x) → dpL (l.map f) n = dpL l n
  | [], n, _ => rfl
  | x :: l, n, h => by rw [List.map_cons, dpL, dpL, h x (by simp)]; exact dpL_map l _ fun y hy => h y (by simp [hy])
theorem evL_all (lit : Bool) : ∀ l : List Val, evL lit l = l.all fun x => evV lit x
  | [] => by rw [evL]; rfl
  | x :: l => by rw [evL, evL_all lit l, List.all_cons]
/-- The items of a sorted value are those of the value, sorted. -/
theorem sort_items (v : Val) : (sortV v).items.Perm (v.items.map sortV) ∧ (sortV v).keys.Perm v.keys ∧ (sortV v).k = v.k ∧ (sortV v).n = v.n ∧ (sortV v).s = v.s := by
  rw [sortV_eq]
  split
  · rename_i c
    exact ⟨items_perm v.keys (v.items.map sortV) zVal (by rw [List.length_map]; exact c.2), keys_perm v.keys, rfl, rfl, rfl⟩
  · exact ⟨List.Perm.refl _, List.Perm.refl _, rfl, rfl, rfl⟩
theorem sort_sz (v : Val) : szV (sortV v) = szV v := by
  refine Val.ind (Q := fun v => szV (sortV v) = szV v) (fun v ih => ?_) v
  rw [szV_eq, szL_perm (sort_items v).1, szL_map _ _ ih, ← szV_eq]
theorem sort_dp (v : Val) : dpV (sortV v) = dpV v := by
  refine Val.ind (Q := fun v => dpV (sortV v) = dpV v) (fun v ih => ?_) v
  rw [dpV_eq, dpL_perm (sort_items v).1, dpL_map _ _ ih, ← dpV_eq]
theorem wtL_perm {l m : List Val} (h : l.Perm m) : wtL l = wtL m := by
  induction h with
  | nil => rfl
  | cons x _ ih => rw [wtL, wtL, ih]
  | swap x y l => rw [wtL, wtL, wtL, wtL]; omega
  | trans _ _ h1 h2 => rw [h1, h2]
theorem wtL_map {f : Val → Val} : ∀ (l : List Val), (∀ x ∈ l, wtV (f x) = wtV x) → wtL (l.map f) = wtL l
  | [], _ => rfl
  | x :: l, h => by rw [List.map_cons, wtL, wtL, h x (by simp), wtL_map l fun y hy => h y (by simp [hy])]
theorem sort_wt (v : Val) : wtV (sortV v) = wtV v := by
  refine Val.ind (Q := fun v => wtV (sortV v) = wtV v) (fun v ih => ?_) v
  rw [wtV_eq, wtL_perm (sort_items v).1, wtL_map _ ih, (sort_items v).2.1.length_eq, ← wtV_eq]
theorem tw_perm {l m : List ByteArray} (h : l.Perm m) : tw l = tw m := by
  unfold tw
  rw [decide_eq_decide.2 h.nodup_iff]
theorem any_perm {α : Type} {l m : List α} (h : l.Perm m) (q : α → Bool) : l.any q = m.any q := by
  cases e : m.any q with
  | true =>
    obtain ⟨x, hx, hq⟩ := List.any_eq_true.1 e
    exact List.any_eq_true.2 ⟨x, h.mem_iff.2 hx, hq⟩
  | false =>
    rw [List.any_eq_false] at e ⊢
    exact fun x hx => e x (h.mem_iff.1 hx)
theorem all_perm {α : Type} {l m : List α} (h : l.Perm m) (q : α → Bool) : l.all q = m.all q := by
  have := any_perm h fun x => !q x
  rw [List.all_eq_not_any_not, List.all_eq_not_any_not, this]
theorem sort_node (v : Val) (lit : Bool) : nodeW (sortV v) lit = nodeW v lit := by
  obtain ⟨h1, h2, h3, h4, h5⟩ := sort_items v
  have l1 := h1.length_eq
  have l2 := h2.length_eq
  rw [List.length_map] at l1
  unfold nodeW nodeV
  rw [any_perm h2, tw_perm h2, h3, h4, h5, l1, l2]
theorem sort_ev (lit : Bool) (v : Val) : evV lit (sortV v) = evV lit v := by
  refine Val.ind (Q := fun v => evV lit (sortV v) = evV lit v) (fun v ih => ?_) v
  rw [evV_eq, evV_eq, sort_node, evL_all, all_perm (sort_items v).1, evL_all, List.all_map]
  congr 1
  rw [Bool.eq_iff_iff, List.all_eq_true, List.all_eq_true]
  exact ⟨fun h x hx => by rw [← ih x hx]; exact h x hx, fun h x hx => by simp only [Function.comp]; rw [ih x hx]; exact h x hx⟩
theorem sort_right (v : Val) : rightV false (sortV v) = rightV false v := by
  unfold rightV
  rw [sort_sz, sort_dp, sort_ev]
theorem sort_fit (v : Val) (h : wtV v ≤ 1000000000) : (sortV v).Fit := wtV_fit _ (by rw [sort_wt]; omega)
end Go.Proofs.Ytaeablbcfkamjaa
