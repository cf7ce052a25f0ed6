/-
  The parts DaM of the proof, in one file. Conditions: none.
-/
import Derived.Test.YtjalbhlahfgogaaQws40
namespace Go.Proofs.Ytjalbhlahfgogaa
open Go.Eng
set_option linter.unusedVariables false
set_option linter.unusedSimpArgs false
/-- The first place of a key. -/
def kI (f a : ByteArray) : List (ByteArray × ByteArray) → Nat → Int
  | [], _ => -1
  | k :: r, j => if k = (f, a) then j else kI f a r (j + 1)
def kys (l : List Cel) : List (ByteArray × ByteArray) := l.map fun c => (c.f, c.a)
theorem fidx_kI (f a : ByteArray) : ∀ (l : List Cel) (j : Nat), fidx (fun c : Cel => decide (c.f = f) && decide (c.a = a)) l j = kI f a (kys l) j
  | [], j => rfl
  | c :: l, j => by
    rw [kys, List.map_cons, kI, fidx, fidx_kI f a l (j + 1)]
    by_cases h : c.f = f ∧ c.a = a
    · rw [if_pos (by simp [h]), if_pos (by simp [h])]
    · rw [if_neg (by simpa using h), if_neg (by simpa using h)]
      rfl
theorem atI_k (f a : ByteArray) (l : List Cel) : atI f a l = kI f a (kys l) 0 := fidx_kI f a l 0
theorem kI_app (f a : ByteArray) : ∀ (l m : List (ByteArray × ByteArray)) (j : Nat), kI f a (l ++ m) j = if 0 ≤ kI f a l j then kI f a l j else kI f a m (j + l.length)
  | [], m, j => by rw [List.nil_append, kI, if_neg (by omega)]; rfl
  | k :: l, m, j => by
    rw [List.cons_append, kI, kI]
    split
    · rw [if_pos (Int.natCast_nonneg j)]
    · rw [kI_app f a l m (j + 1), List.length_cons, Nat.add_assoc, Nat.add_comm 1]
theorem kI_at (f a : ByteArray) : ∀ (l : List (ByteArray × ByteArray)) (j : Nat), 0 ≤ kI f a l j → ∃ i : Nat, kI f a l j = ((j + i : Nat) : Int) ∧ l[i]? = some (f, a)
  | [], j, h => by rw [kI] at h; omega
  | k :: l, j, h => by
    rw [kI] at h ⊢
    split
    · rename_i e
      exact ⟨0, by simp, by simp [e]⟩
    · rename_i e
      rw [if_neg e] at h
      obtain ⟨i, h1, h2⟩ := kI_at f a l (j + 1) h
      exact ⟨i + 1, by rw [h1]; congr 1; omega, by simpa using h2⟩
theorem kI_none {f a : ByteArray} : ∀ {l : List (ByteArray × ByteArray)} {j : Nat}, (f, a) ∈ l → 0 ≤ kI f a l j
  | k :: l, j, h => by
    rw [kI]
    split
    · exact Int.natCast_nonneg j
    · rename_i e
      exact kI_none (by simpa [Ne.symm e] using h)
theorem atI_mem {f a : ByteArray} {l : List Cel} : 0 ≤ atI f a l ↔ (f, a) ∈ kys l := by
  rw [atI_k]
  refine ⟨fun h => ?_, kI_none⟩
  obtain ⟨i, _, h2⟩ := kI_at f a _ 0 h
  exact List.mem_of_getElem? h2
theorem atI_in {f a : ByteArray} {l : List Cel} (h : (f, a) ∈ kys l) : ∃ (i : Nat) (c : Cel), atI f a l = i ∧ l[i]? = some c ∧ c.f = f ∧ c.a = a := by
  rw [atI_k]
  obtain ⟨i, h1, h2⟩ := kI_at f a _ 0 (kI_none h)
  unfold kys at h2
  rw [List.getElem?_map] at h2
  cases hc : l[i]? with
  | none => rw [hc] at h2; cases h2
  | some c =>
    rw [hc] at h2
    simp at h2
    exact ⟨i, c, by rw [h1]; simp, hc, h2.1, h2.2⟩
theorem kys_set {l : List Cel} {i : Nat} {c : Cel} (h : (kys l)[i]? = some (c.f, c.a)) : kys (l.set i c) = kys l := by
  have e : (fun c : Cel => (c.f, c.a)) c = (c.f, c.a) := rfl
  unfold kys at h ⊢
  rw [List.map_set]
  exact set_same h
theorem putC_in {l : List Cel} {c : Cel} (h : (c.f, c.a) ∈ kys l) : ∃ i : Nat, atI c.f c.a l = i ∧ putC l c = l.set i c ∧ (kys l)[i]? = some (c.f, c.a) ∧ kys (putC l c) = kys l ∧ i < l.length := by
  obtain ⟨i, x, h1, h2, h3, h4⟩ := atI_in h
  have hk : (kys l)[i]? = some (c.f, c.a) := by unfold kys; rw [List.getElem?_map, h2]; simp [h3, h4]
  have hp : putC l c = l.set i c := by unfold putC; rw [h1, if_pos (Int.natCast_nonneg i), Int.toNat_natCast]
  exact ⟨i, h1, hp, hk, by rw [hp]; exact kys_set hk, (List.getElem?_eq_some_iff.1 h2).1⟩
theorem putC_out {l : List Cel} {c : Cel} (h : (c.f, c.a) ∉ kys l) : putC l c = l ++ [c] ∧ kys (putC l c) = kys l ++ [(c.f, c.a)] := by
  have hp : putC l c = l ++ [c] := by unfold putC; rw [if_neg fun e => h (atI_mem.1 e)]
  exact ⟨hp, by rw [hp]; simp [kys]⟩
theorem putC_mem {l : List Cel} {c : Cel} : (c.f, c.a) ∈ kys (putC l c) := by
  by_cases h : (c.f, c.a) ∈ kys l
  · obtain ⟨_, _, _, _, h5, _⟩ := putC_in h; rw [h5]; exact h
  · rw [(putC_out h).2]; simp
theorem putC_sub {l : List Cel} {c : Cel} {k : ByteArray × ByteArray} (h : k ∈ kys l) : k ∈ kys (putC l c) := by
  by_cases q : (c.f, c.a) ∈ kys l
  · obtain ⟨_, _, _, _, h5, _⟩ := putC_in q; rw [h5]; exact h
  · rw [(putC_out q).2]; simp [h]
/-- The second of two writes of a cell counts. -/
theorem putC_same {l : List Cel} {c e : Cel} (h1 : c.f = e.f) (h2 : c.a = e.a) : putC (putC l c) e = putC l e := by
  by_cases h : (c.f, c.a) ∈ kys l
  · obtain ⟨i, a1, a2, a3, a4, a5⟩ := putC_in h
    have h' : (e.f, e.a) ∈ kys l := by rw [← h1, ← h2]; exact h
    obtain ⟨i', b1, b2, b3, b4, b5⟩ := putC_in h'
    have hi : i' = i := by rw [h1, h2, b1] at a1; omega
    subst hi
    have hk : (e.f, e.a) ∈ kys (putC l c) := by rw [a4]; exact h'
    obtain ⟨i2, c1, c2, _⟩ := putC_in hk
    have : i2 = i' := by rw [atI_k, a4, ← atI_k, b1] at c1; omega
    subst this
    rw [c2, a2, b2, List.set_set]
  · have h' : (e.f, e.a) ∉ kys l := by rw [← h1, ← h2]; exact h
    rw [(putC_out h).1, (putC_out h').1]
    have hk : (e.f, e.a) ∈ kys (l ++ [c]) := by simp [kys, h1, h2]
    obtain ⟨i, c1, c2, c3, c4, c5⟩ := putC_in hk
    have hi : i = l.length := by
      rw [atI_k, kys, List.map_append, kI_app] at c1
      rw [if_neg (fun q => h' (atI_mem.1 (by rw [atI_k]; exact q)))] at c1
      simp only [List.map_cons, List.map_nil, kI] at c1
      rw [if_pos (by simp [h1, h2])] at c1
      simp at c1
      omega
    rw [c2, hi]
    simp
theorem kI_ne {f a : ByteArray} {k : ByteArray × ByteArray} (h : k ≠ (f, a)) (l : List (ByteArray × ByteArray)) (j : Nat) : kI f a (l ++ [k]) j = kI f a l j := by
  rw [kI_app]
  split
  · rfl
  · rename_i q
    rw [kI, if_neg h, kI]
    have : ∀ (l : List (ByteArray × ByteArray)) (j : Nat), ¬ 0 ≤ kI f a l j → kI f a l j = -1 := by
      intro l
      induction l with
      | nil => intro j _; rfl
      | cons x l ih =>
        intro j h
        rw [kI] at h ⊢
        split
        · rename_i e; rw [if_pos e] at h; exact absurd (Int.natCast_nonneg j) h
        · rename_i e; rw [if_neg e] at h; exact ih _ h
    exact (this l j q).symm
/-- A write of another cell does not move one. -/
theorem atI_put {l : List Cel} {c : Cel} {f a : ByteArray} (h : (c.f, c.a) ≠ (f, a)) : atI f a (putC l c) = atI f a l := by
  rw [atI_k, atI_k]
  by_cases q : (c.f, c.a) ∈ kys l
  · obtain ⟨_, _, _, _, h5, _⟩ := putC_in q; rw [h5]
  · rw [(putC_out q).2, kI_ne h]
theorem putC_comm {l : List Cel} {c e : Cel} (hne : (c.f, c.a) ≠ (e.f, e.a)) (he : (e.f, e.a) ∈ kys l) : putC (putC l c) e = putC (putC l e) c := by
  obtain ⟨i, a1, a2, a3, a4, a5⟩ := putC_in he
  obtain ⟨i2, b1, b2, b3, b4, b5⟩ := putC_in (putC_sub (c := c) he)
  have : i2 = i := by rw [atI_put hne, a1] at b1; omega
  subst this
  rw [b2, a2]
  by_cases hc : (c.f, c.a) ∈ kys l
  · obtain ⟨j, c1, c2, c3, c4, c5⟩ := putC_in hc
    have hc' : (c.f, c.a) ∈ kys (l.set i2 e) := by rw [← a2, a4]; exact hc
    obtain ⟨j2, d1, d2, _⟩ := putC_in hc'
    have : j2 = j := by rw [← a2, atI_put (Ne.symm hne), c1] at d1; omega
    subst this
    have hij : i2 ≠ j2 := fun q => by subst q; rw [a3] at c3; simp only [Option.some.injEq] at c3; exact hne c3.symm
    rw [c2, d2, List.set_comm _ _ (Ne.symm hij)]
  · have hc' : (c.f, c.a) ∉ kys (l.set i2 e) := by rw [← a2, a4]; exact hc
    rw [(putC_out hc).1, (putC_out hc').1, List.set_append_left _ _ a5]
def putA (l : List Cel) (cs : List Cel) : List Cel := cs.foldl putC l
theorem putA_cons (l : List Cel) (c : Cel) (cs : List Cel) : putA l (c :: cs) = putA (putC l c) cs := rfl
theorem putA_snoc (l : List Cel) (cs : List Cel) (c : Cel) : putA l (cs ++ [c]) = putC (putA l cs) c := by simp [putA]
theorem putA_app (l : List Cel) (cs ds : List Cel) : putA l (cs ++ ds) = putA (putA l cs) ds := by simp [putA]
theorem putA_sub {k : ByteArray × ByteArray} : ∀ {cs l : List Cel}, k ∈ kys l → k ∈ kys (putA l cs)
  | [], l, h => h
  | c :: cs, l, h => putA_sub (cs := cs) (putC_sub h)
theorem putA_mem : ∀ {cs l : List Cel} {c : Cel}, c ∈ cs → (c.f, c.a) ∈ kys (putA l cs)
  | d :: cs, l, c, h => by
    rw [putA_cons]
    rcases List.mem_cons.1 h with rfl | h
    · exact putA_sub (cs := cs) putC_mem
    · exact putA_mem (cs := cs) h
theorem putA_end {c : Cel} : ∀ {cs l : List Cel}, (∀ e ∈ cs, (e.f, e.a) ∈ kys l) → putC (putA (putC l c) cs) c = putC (putA l cs) c
  | [], l, _ => putC_same rfl rfl
  | e :: cs, l, h => by
    rw [putA_cons, putA_cons]
    by_cases q : (c.f, c.a) = (e.f, e.a)
    · simp only [Prod.mk.injEq] at q
      rw [putC_same q.1 q.2]
    · rw [putC_comm q (h e (by simp))]
      exact putA_end fun x hx => putC_sub (h x (by simp [hx]))
/-- Writes that are made again change nothing. -/
theorem putA_again (l : List Cel) (cs : List Cel) : putA (putA l cs) cs = putA l cs := by
  have key : ∀ n (cs : List Cel), cs.length = n → putA (putA l cs) cs = putA l cs := by
    intro n
    induction n with
    | zero => intro cs h; have := List.eq_nil_of_length_eq_zero h; subst this; rfl
    | succ n ih =>
      intro cs h
      obtain ⟨r, c, rfl⟩ : ∃ r c, cs = r ++ [c] := ⟨cs.dropLast, cs.getLast (fun e => by subst e; simp at h), (List.dropLast_concat_getLast _).symm⟩
      have hr := ih r (by simpa using h)
      rw [putA_snoc l, putA_snoc, putA_end fun e he => putA_mem he, hr]
  exact key _ cs rfl
/-- The writes of an item. -/
def cAt (f a : ByteArray) (n : Nat) (ws : List Wri) : List Cel := (ws.filter fun w => hits f a w && decide (w.i = n)).map Wri.c
theorem appS_get (f a : ByteArray) (l : List Itm) (w : Wri) (n : Nat) : (appS f a l w)[n]? = l[n]?.map fun x => if (hits f a w && decide (w.i = n)) = true then .mk x.t (putC x.l w.c) else x := by
  unfold appS wrI
  cases hh : hits f a w with
  | false =>
    rw [if_neg (by simp)]
    simp
  | true =>
    rw [if_pos rfl]
    simp only [Bool.true_and, decide_eq_true_eq]
    by_cases h0 : 0 ≤ w.i
    · rw [if_pos h0]
      cases hx : l[w.i.toNat]? with
      | none =>
        simp only
        by_cases e : w.i = n
        · rw [e, Int.toNat_natCast] at hx
          rw [hx]
          rfl
        · simp [e]
      | some x =>
        simp only
        by_cases e : w.i = n
        · rw [e, Int.toNat_natCast] at hx ⊢
          rw [List.getElem?_set_self (List.getElem?_eq_some_iff.1 hx).1, hx]
          simp
        · rw [List.getElem?_set_ne (by omega)]
          simp [e]
    · rw [if_neg h0]
      have e : ¬ w.i = n := by omega
      simp [e]
theorem appL_get (f a : ByteArray) (n : Nat) : ∀ (ws : List Wri) (l : List Itm), (appL f a ws l)[n]? = l[n]?.map fun x => .mk x.t (putA x.l (cAt f a n ws))
  | [], l => by
    have : (fun x : Itm => Itm.mk x.t (putA x.l (cAt f a n []))) = fun x => x := by funext x; exact Itm.eta x
    rw [this]
    simp [appL]
  | w :: ws, l => by
    rw [show appL f a (w :: ws) l = appL f a ws (appS f a l w) from rfl, appL_get f a n ws, appS_get, Option.map_map]
    congr 1
    funext x
    simp only [Function.comp, cAt, List.filter_cons]
    split
    · rw [List.map_cons, putA_cons, Itm.t_mk, Itm.l_mk]
    · rfl
theorem appL_again (f a : ByteArray) (ws : List Wri) (l : List Itm) : appL f a ws (appL f a ws l) = appL f a ws l := by
  apply List.ext_getElem?
  intro n
  rw [appL_get, appL_get, Option.map_map]
  congr 1
  funext x
  simp only [Function.comp, Itm.t_mk, Itm.l_mk, putA_again]
theorem argA_again (d : Dat) (f a : ByteArray) (l : List Itm) : argA (.mk l d.w) f (argA d f a) = argA d f a := by
  unfold argA
  rw [Dat.w_mk]
  by_cases h : d.w.any (hits f a) = true
  · rw [if_pos h, if_pos h]
  · rw [if_neg h]
    split <;> rfl
theorem appV_again (d : Dat) (f a : ByteArray) : appV (appV d f a) f (argA d f a) = appV d f a := by
  unfold appV
  rw [argA_again]
  rw [Dat.w_mk, Dat.i_mk, appL_again]
/-- What no write concerns is as it was. -/
theorem appV_same (d : Dat) (f a : ByteArray) (n : Nat) (h : ∀ w ∈ d.w, ¬ (hits f (argA d f a) w = true ∧ w.i = n)) : (appV d f a).i[n]? = d.i[n]? := by
  unfold appV
  rw [Dat.i_mk, appL_get]
  have : cAt f (argA d f a) n d.w = [] := by
    unfold cAt
    rw [List.filter_eq_nil_iff.2 fun w hw => by have := h w hw; simpa using this]
    rfl
  rw [this]
  have e : (fun x : Itm => Itm.mk x.t (putA x.l [])) = fun x => x := by funext x; exact Itm.eta x
  rw [e]
  simp
/-- The cell that is read. -/
theorem cell_put {l : List Cel} {c : Cel} : cellV (putC l c) (atI c.f c.a (putC l c)) = c.v ∧ 0 ≤ atI c.f c.a (putC l c) := by
  have hm := putC_mem (l := l) (c := c)
  refine ⟨?_, atI_mem.2 hm⟩
  obtain ⟨i, x, h1, h2, h3, h4⟩ := atI_in hm
  rw [h1]
  unfold cellV
  rw [if_pos (Int.natCast_nonneg i), Int.toNat_natCast, h2]
  by_cases h : (c.f, c.a) ∈ kys l
  · obtain ⟨j, a1, a2, a3, a4, a5⟩ := putC_in h
    have : i = j := by rw [atI_k, a4, ← atI_k, a1] at h1; omega
    subst this
    rw [a2, List.getElem?_set_self a5] at h2
    cases h2
    rfl
  · rw [(putC_out h).1] at h2 h1
    have hi : i = l.length := by
      rw [atI_k, kys, List.map_append, kI_app] at h1
      rw [if_neg (fun q => h (atI_mem.1 (by rw [atI_k]; exact q)))] at h1
      simp only [List.map_cons, List.map_nil, kI] at h1
      simp at h1
      omega
    rw [hi] at h2
    simp at h2
    rw [h2]
theorem cell_other {l : List Cel} {c : Cel} {f a : ByteArray} (h : (c.f, c.a) ≠ (f, a)) (h0 : 0 ≤ atI f a l) : cellV (putC l c) (atI f a (putC l c)) = cellV l (atI f a l) := by
  rw [atI_put h]
  obtain ⟨i, x, h1, h2, h3, h4⟩ := atI_in (atI_mem.1 h0)
  rw [h1]
  unfold cellV
  rw [if_pos (Int.natCast_nonneg i), if_pos (Int.natCast_nonneg i), Int.toNat_natCast]
  by_cases q : (c.f, c.a) ∈ kys l
  · obtain ⟨j, a1, a2, a3, a4, a5⟩ := putC_in q
    have : j ≠ i := fun e => by
      subst e
      unfold kys at a3
      rw [List.getElem?_map, h2] at a3
      simp at a3
      exact h (by rw [← a3.1, ← a3.2, h3, h4])
    rw [a2, List.getElem?_set_ne this]
  · rw [(putC_out q).1, List.getElem?_append_left (List.getElem?_eq_some_iff.1 h2).1]
theorem cell_rest {f a : ByteArray} : ∀ {cs l : List Cel}, (∀ e ∈ cs, (e.f, e.a) ≠ (f, a)) → 0 ≤ atI f a l → cellV (putA l cs) (atI f a (putA l cs)) = cellV l (atI f a l) ∧ 0 ≤ atI f a (putA l cs)
  | [], l, _, h => ⟨rfl, h⟩
  | c :: cs, l, hc, h => by
    have h1 : 0 ≤ atI f a (putC l c) := by rw [atI_put (hc c (by simp))]; exact h
    obtain ⟨a1, a2⟩ := cell_rest (cs := cs) (fun e he => hc e (by simp [he])) h1
    rw [putA_cons]
    exact ⟨a1.trans (cell_other (hc c (by simp)) h), a2⟩
theorem appV_len (d : Dat) (f a : ByteArray) : (appV d f a).i.length = d.i.length := appL_len _ _ _ _
/-- The last write of a cell is read. -/
theorem look_last (d : Dat) (f a : ByteArray) (n : Nat) (hn : n < d.i.length) {i : Nat} {w : Wri} (hw : d.w[i]? = some w) (h1 : hits f (argA d f a) w = true) (h2 : w.i = n)
    (hl : ∀ v ∈ d.w.drop (i + 1), ¬ (hits f (argA d f a) v = true ∧ v.i = n ∧ v.c.f = w.c.f ∧ v.c.a = w.c.a)) : lookV (appV d f a) n w.c.f w.c.a = w.c.v := by
  have hx : d.i[n]? = some d.i[n] := by simp [hn]
  have he : (appV d f a).i[n]? = some (.mk d.i[n].t (putA d.i[n].l (cAt f (argA d f a) n d.w))) := by
    unfold appV
    rw [Dat.i_mk, appL_get, hx]
    rfl
  have hs : d.w = d.w.take i ++ w :: d.w.drop (i + 1) := by rw [← drop_at hw, List.take_append_drop]
  have hc : cAt f (argA d f a) n d.w = cAt f (argA d f a) n (d.w.take i) ++ w.c :: cAt f (argA d f a) n (d.w.drop (i + 1)) := by
    conv => lhs; rw [hs]
    unfold cAt
    rw [List.filter_append, List.map_append, List.filter_cons, if_pos (by simp [h1, h2]), List.map_cons]
  rw [hc, putA_app, putA_cons] at he
  unfold lookV
  rw [if_neg (by rw [appV_len]; omega), Int.toNat_natCast, he]
  simp only [Itm.l_mk]
  obtain ⟨a1, a2⟩ := cell_rest (f := w.c.f) (a := w.c.a) (cs := cAt f (argA d f a) n (d.w.drop (i + 1))) (l := putC (putA d.i[n].l (cAt f (argA d f a) n (d.w.take i))) w.c) (fun e he => by
    unfold cAt at he
    obtain ⟨v, hv, rfl⟩ := List.mem_map.1 he
    obtain ⟨hv1, hv2⟩ := List.mem_filter.1 hv
    intro q
    simp only [Prod.mk.injEq] at q
    simp only [Bool.and_eq_true, decide_eq_true_eq] at hv2
    exact hl v hv1 ⟨hv2.1, hv2.2, q.1, q.2⟩) cell_put.2
  unfold lookX
  rw [if_pos a2, a1]
  exact cell_put.1
end Go.Proofs.Ytjalbhlahfgogaa
