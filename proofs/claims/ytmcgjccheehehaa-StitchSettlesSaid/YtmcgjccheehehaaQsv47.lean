/-
  The parts SbD of the proof, in one file. Conditions: none.
-/
import Derived.Test.YtmcgjccheehehaaQsv46
namespace Go.Proofs.Ytmcgjccheehehaa
open Go.Eng
set_option linter.unusedVariables false
set_option linter.unusedSimpArgs false
/-- What 'clean' asks of one node. -/
structure ClC (v : Val) : Prop where
  a : v.k ≠ 6 → v.keys = []
  b : v.k ≠ 6 → v.k ≠ 5 → v.items = []
  c : v.k = 6 → v.keys.length = v.items.length
  d : v.k = 6 ∨ v.k = 5 → v.n = 0 ∧ v.s = ⟨#[]⟩
  e : ∀ (i k : Nat) (x : ByteArray), k < i → i < v.items.length → v.keys[k]? = some x → v.keys[i]? ≠ some x
inductive Cl : Val → Prop
  | mk (v : Val) : ClC v → (∀ x ∈ v.items, Cl x) → Cl v
theorem Cl.c {v : Val} (h : Cl v) : ClC v := by cases h; assumption
theorem Cl.x {v : Val} (h : Cl v) : ∀ x ∈ v.items, Cl x := by cases h; assumption
theorem joinI_self {b : Val} : ∀ (i : List Val) (l : List ByteArray), i.length = l.length → (∀ (j : Nat) x k, i[j]? = some x → l[j]? = some k → joinE x k b = x) → joinI i l b = i
  | [], l, _, _ => by rw [joinI]
  | x :: i, [], h, _ => by simp at h
  | x :: i, k :: l, h, hx => by
    rw [joinI]
    have h0 := hx 0 x k rfl rfl
    unfold joinE at h0
    rw [joinI_self i l (by simpa using h) fun j y q h1 h2 => hx (j + 1) y q (by simpa using h1) (by simpa using h2)]
    simp only [List.cons.injEq, and_true]
    exact h0
theorem joinL_self : ∀ (l : List Val), (∀ x ∈ l, joinV x x = x) → joinL l l = l
  | [], _ => by rw [joinL]
  | x :: l, h => by
    rw [joinL, h x (by simp), joinL_self l fun y hy => h y (by simp [hy])]
theorem addF_all {K : List ByteArray} {I : List Val} : ∀ (ks : List ByteArray) (r : List Val), (∀ k ∈ ks, k ∈ K) → addF K I ks r = (K, I)
  | [], r, _ => addF_end (.inl rfl)
  | k :: ks, [], _ => addF_end (.inr rfl)
  | k :: ks, y :: r, h => by
    rw [addF_step, if_pos (inB_iff.2 (h k (by simp))), addF_all ks r fun q hq => h q (by simp [hq])]
/-- The first index of a key that occurs once. -/
theorem ix_once {k : ByteArray} {l : List ByteArray} {i : Nat} (h : l[i]? = some k) (hn : ∀ j, j < i → l[j]? ≠ some k) : ix k l 0 = i := by
  have h1 := ix_first k l 0 i h
  have h2 := ix_at k l 0 h1.1
  rcases Nat.lt_or_ge (ix k l 0).toNat i with q | q
  · exact absurd (by simpa using h2) (hn _ q)
  · omega
theorem join_self (v : Val) : Cl v → joinV v v = v := by
  refine Val.ind (Q := fun v => Cl v → joinV v v = v) (fun v ih h => ?_) v
  have c := h.c
  rw [joinV_eq]
  split
  · rfl
  · split
    · rfl
    · split
      · rename_i h6
        have k6 := h6.1.1
        have hl := c.c k6
        have hd := c.d (.inl k6)
        have hs : szO v = v.keys.length := by unfold szO; omega
        have h1 : joinI v.items v.keys v = v.items := joinI_self _ _ hl.symm fun j x k ex ek => by
          have hj := (List.getElem?_eq_some_iff.1 ex).1
          have hix : ix k v.keys 0 = j := ix_once ek fun q hq e => c.e j q k hq hj e ek
          have hg : getV v k = some x := by
            unfold getV
            rw [if_pos k6, hix, if_pos (by omega)]
            simpa using ex
          unfold joinE
          rw [hg]
          exact ih x (List.mem_of_getElem? ex) (h.x x (List.mem_of_getElem? ex))
        have h2 : joinF v v = (v.keys, v.items) := by
          unfold joinF
          rw [hs, List.take_length, h1, addF_all _ _ fun k hk => hk]
        unfold joinO
        rw [h2]
        exact Val.ext (by simp [k6, Val.k_mk]) (by simp [hd.1, Val.n_mk]) (by simp [hd.2, Val.s_mk]) rfl rfl
      · split
        · rename_i h5
          have k5 := h5.1.1
          have hd := c.d (.inr k5)
          have hk := c.a (by omega)
          exact Val.ext (by simp [k5, Val.k_mk]) (by simp [hd.1, Val.n_mk]) (by simp [hd.2, Val.s_mk]) (joinL_self v.items fun x hx => ih x hx (h.x x hx)) (by simp [hk, Val.keys_mk])
        · rfl
theorem typ_coll (on : ByteArray) (one : Pk → Val) (l : List Pk) : typT (collV on one l) = on := by
  simp [typT, getV, collV, ix, Val.k_mk, Val.s_mk, Val.items_mk, Val.keys_mk]
theorem onP_mem {on : ByteArray} {l : List Pk} {p : Pk} (h : p ∈ onP on l) : p ∈ l ∧ p.on = on := by
  unfold onP at h
  simpa using List.mem_filter.1 h
theorem Sg.nodup {l : List Pk} (h : Sg l) (on : ByteArray) : ((onP on l).map Pk.key).Nodup := by
  have h1 : l.Pairwise fun p q => ¬ (p.on = q.on ∧ p.key = q.key) := by
    rw [List.pairwise_iff_getElem]
    intro i j hi hj hij
    exact h.n j i _ _ hij (by simp) (by simp)
  have h2 : (onP on l).Pairwise fun p q => ¬ (p.on = q.on ∧ p.key = q.key) := h1.filter _
  unfold List.Nodup
  rw [List.pairwise_map]
  refine List.Pairwise.imp_of_mem (fun {p q} hp hq hn e => hn ⟨?_, e⟩) h2
  rw [(onP_mem hp).2, (onP_mem hq).2]
theorem coll_get {l : List Pk} (h : Sg l) (on : ByteArray) (one : Pk → Val) {p : Pk} (hp : p ∈ onP on l) : getV (collV on one l) p.key = some (one p) := by
  obtain ⟨i, hi, rfl⟩ := List.mem_iff_getElem.1 hp
  have hk : (collV on one l).k = 6 := rfl
  have hks : (collV on one l).keys = ttN :: (onP on l).map Pk.key := rfl
  have his : (collV on one l).items = .mk 3 0 on [] [] :: (onP on l).map one := rfl
  have hn := h.nodup on
  have hix : ix (onP on l)[i].key (ttN :: (onP on l).map Pk.key) 0 = (i + 1 : Nat) := by
    refine ix_once (by simp [hi]) fun j hj e => ?_
    cases j with
    | zero =>
      simp only [List.getElem?_cons_zero, Option.some.injEq] at e
      exact h.t _ (onP_mem hp).1 e.symm
    | succ j =>
      simp only [List.getElem?_cons_succ] at e
      have hji : j < i := by omega
      have hj2 : j < ((onP on l).map Pk.key).length := by simp; omega
      have hi2 : i < ((onP on l).map Pk.key).length := by simp; omega
      have := (List.pairwise_iff_getElem.1 hn) j i hj2 hi2 hji
      rw [List.getElem?_eq_getElem hj2] at e
      simp only [Option.some.injEq] at e
      exact this (by rw [e]; simp)
  unfold getV
  rw [if_pos hk, hks, his, hix, if_pos (by omega)]
  simp [hi]
theorem strip_strip (v : Val) : ∀ l, Sg l → stripV (stripV v l) l = stripV v l := by
  refine Val.ind (Q := fun v => ∀ l, Sg l → stripV (stripV v l) l = stripV v l) (fun v ih l h => ?_) v
  rw [stripV_eq v l]
  split
  · rw [stripV_eq, if_pos (Val.k_mk ..)]
    simp only [Val.items_mk, List.map_map]
    congr 1
    exact List.map_congr_left fun x hx => ih x hx l h
  · split
    · rw [stripV_eq, if_neg (by simp [collV, Val.k_mk]), if_pos (show (collV (typT v) (stripE v) l).k = 6 from rfl), typ_coll]
      have hq : ∀ p ∈ onP (typT v) l, stripE (collV (typT v) (stripE v) l) p = stripV (stripE v p) p.picks := fun p hp => by
        rw [show stripE (collV (typT v) (stripE v) l) p = (match getV (collV (typT v) (stripE v) l) p.key with | some x => stripV x p.picks | none => failV svN) from rfl, coll_get h (typT v) (stripE v) hp]
      obtain ⟨E, hE⟩ : ∃ E, stripE (collV (typT v) (stripE v) l) = E := ⟨_, rfl⟩
      rw [hE] at hq ⊢
      unfold collV
      congr 2
      refine List.map_congr_left fun p hp => ?_
      have hm := (onP_mem hp).1
      rw [hq p hp]
      unfold stripE
      cases e : getV v p.key with
      | none => simp only; rw [stripV_eq]; rfl
      | some x => exact ih x (getV_mem e) p.picks (h.p p hm)
    · rename_i h5 h6
      rw [stripV_eq, if_neg h5, if_neg h6]
/-- No stripped value is large. -/
theorem wt_strip (v : Val) : ∀ l, wtV (stripV v l) ≤ 3 * wtV v * (1 + wtKs l) := by
  refine Val.ind (Q := fun v => ∀ l, wtV (stripV v l) ≤ 3 * wtV v * (1 + wtKs l)) (fun v ih l => ?_) v
  have hv := wtV_eq v
  rw [stripV_eq]
  split
  · have hL : ∀ q : List Val, (∀ x ∈ q, x ∈ v.items) → wtL (q.map fun x => stripV x l) ≤ 3 * wtL q * (1 + wtKs l) := by
      intro q
      induction q with
      | nil => intro _; simp [wtL]
      | cons y q ihq =>
        intro hm
        have h1 := ihq fun x hx => hm x (by simp [hx])
        have h2 := ih y (hm y (by simp)) l
        rw [List.map_cons, wtL, wtL]
        have : 3 * (wtV y + wtL q) * (1 + wtKs l) = 3 * wtV y * (1 + wtKs l) + 3 * wtL q * (1 + wtKs l) := by rw [Nat.mul_add 3, Nat.add_mul]
        omega
    have h1 := hL v.items fun x hx => hx
    rw [wtV_eq]
    simp only [Val.items_mk, Val.keys_mk, List.length_nil]
    have h2 : 3 * wtV v * (1 + wtKs l) = 3 * wtL v.items * (1 + wtKs l) + 3 * (1 + v.keys.length) * (1 + wtKs l) := by
      rw [← Nat.add_mul, ← Nat.mul_add, hv]
      congr 2
      omega
    have h3 : 1 * 1 ≤ 3 * (1 + v.keys.length) * (1 + wtKs l) := Nat.mul_le_mul (by omega) (by omega)
    omega
  · split
    · have hone : ∀ p ∈ l, wtV (stripE v p) ≤ 3 * wtL v.items * wtK p + 1 := fun p hp => by
        unfold stripE
        cases e : getV v p.key with
        | none => simp [failV, wtV_eq, Val.items_mk, Val.keys_mk, wtL]
        | some x =>
          have h1 := ih x (getV_mem e) p.picks
          have h2 := wtL_mem (getV_mem e)
          rw [wtK_eq]
          exact Nat.le_succ_of_le (Nat.le_trans h1 (Nat.mul_le_mul_right _ (Nat.mul_le_mul_left _ h2)))
      have hL : ∀ q : List Pk, (∀ p ∈ q, p ∈ l) → wtL ((onP (typT v) q).map (stripE v)) + (onP (typT v) q).length ≤ 3 * wtL v.items * wtKs q + 2 * wtKs q := by
        intro q
        induction q with
        | nil => intro _; simp [onP, wtL]
        | cons y q ihq =>
          intro hm
          have h1 := ihq fun x hx => hm x (by simp [hx])
          have h2 := hone y (hm y (by simp))
          have h3 := wtK_eq y
          rw [wtKs, Nat.mul_add]
          unfold onP at h1 ⊢
          rw [List.filter_cons]
          split
          · rw [List.map_cons, wtL, List.length_cons]
            omega
          · omega
      have h1 := hL l fun p hp => hp
      rw [wtV_eq]
      unfold collV
      simp only [Val.items_mk, Val.keys_mk, List.length_cons, List.length_map]
      rw [wtL, wtV_eq]
      simp only [Val.items_mk, Val.keys_mk, wtL, List.length_nil]
      have h2 : 3 * wtV v * (1 + wtKs l) = 3 * wtL v.items * wtKs l + 3 * (1 + v.keys.length) * wtKs l + 3 * wtV v := by
        rw [Nat.mul_add, Nat.mul_one, Nat.add_comm, ← Nat.add_mul, ← Nat.mul_add, hv]
        congr 3
        omega
      have h3 : 3 * 1 * wtKs l ≤ 3 * (1 + v.keys.length) * wtKs l := Nat.mul_le_mul_right _ (by omega)
      have := wtV_pos v
      omega
    · calc wtV v = 1 * wtV v * 1 := by omega
        _ ≤ 3 * wtV v * (1 + wtKs l) := Nat.mul_le_mul (Nat.mul_le_mul_right _ (by omega)) (by omega)
end Go.Proofs.Ytmcgjccheehehaa
