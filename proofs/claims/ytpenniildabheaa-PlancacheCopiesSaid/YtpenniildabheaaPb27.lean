/-
  The parts EngRG of the proof, in one file. Conditions: none.
-/
import Derived.Laws.IdiomCopy
import Derived.Test.YtpenniildabheaaPb26
namespace Go.Eng
open Go.RowKit Go.Lib
set_option linter.unusedVariables false
set_option linter.unusedSimpArgs false
section
variable {P : Program} {d : Option Nat} {env : EN} {hp : CH} {n : Nat} {K : St → Prop} {G : Bool}
end
theorem sat_rw_take {h : HP} {ρ : RO} {w : World} {k g n len : Nat} {l : List (List AV)} (s : (Chunk.rw g n l).sat h ρ w k) : (Chunk.rw g n (l.take len)).sat h ρ w k := by
  obtain ⟨ob, cap, h1, h2, h2', h3, h4, h5⟩ := s
  refine ⟨ob, cap, h1, by rw [List.length_take]; omega, h2', fun j e he => h3 j e (take_get he).1, h4, fun b hb => ?_⟩
  obtain ⟨vs, e, z1, z2, z3⟩ := h5 b hb
  exact ⟨vs, e, z1, z2, fun j x q α y1 y2 => z3 j x q α (take_get y1).1 y2⟩
/-- Less is said of a row that was written. -/
theorem MeetsX.cut {P : Program} {f : FuncId} {hp : CH} {n k g m : Nat} {args : List AV} {r : AV} {l : List (List AV)} (len : Nat) (c : MeetsX P f hp n args ((k, .rw g m l) :: hp) n r) : MeetsX P f hp n args ((k, .rw g m (l.take len)) :: hp) n r :=
  Meets.post c fun hp' n' r' h ρ w v ⟨e1, e2, e3⟩ hs hr => by
    subst e1
    subst e2
    subst e3
    have s := hs.ch k
    rw [gc_cons_same] at s
    have hs2 := hs.recast (k := k) (c := .rw g m (l.take len)) (fun j e => by rw [gc_cons_same]; exact e) (by rw [gc_cons_same]; rfl) (sat_rw_take s)
    refine ⟨h, ρ, _, _, _, ⟨rfl, rfl, rfl⟩, HLe.refl _, RLe.refl _, hs2.congrS fun j => gc_two.symm, hr, fun b ⟨j, g', c', q1, q2⟩ => ?_⟩
    by_cases hj : k = j
    · subst hj
      rw [gc_cons_same] at q1
      exact ⟨k, g', c', by rw [gc_cons_same]; exact q1, q2⟩
    · rw [gc_cons_ne hj] at q1
      exact ⟨j, g', c', by rw [gc_cons_ne hj]; exact q1, q2⟩
theorem sets_ok (b : Nat) : ∀ (vs : List Value) (o : Nat) (w : World) (cur : Array Value) (e : TypeId) (fr : Nat × Nat), w.heap[b]? = some (.cells cur e fr) →
    ∃ cur', (w.setCells b o vs).heap[b]? = some (.cells cur' e fr) ∧ cur'.size = cur.size ∧ (∀ j, o ≤ j → j < o + vs.length → j < cur.size → cur'[j]? = vs[j - o]?) ∧ (∀ j, (j < o ∨ o + vs.length ≤ j) → cur'[j]? = cur[j]?) ∧ Keeps (· = b) w (w.setCells b o vs)
  | [], o, w, cur, e, fr, h => ⟨cur, h, rfl, fun j h1 h2 => by simp at h2; omega, fun _ _ => rfl, Keeps.refl _ _⟩
  | v :: r, o, w, cur, e, fr, h => by
    have e1 : w.setCell ⟨b, o, none⟩ v = w.setRow b (cur.setIfInBounds o v) := setCell_eq_setRow w b o cur e fr v h
    have h1 : (w.setCell ⟨b, o, none⟩ v).heap[b]? = some (.cells (cur.setIfInBounds o v) e fr) := by rw [e1]; exact setRow_heap w b cur _ e fr h
    obtain ⟨cur', a1, a2, a3, a4, a5⟩ := sets_ok b r (o + 1) _ _ e fr h1
    have hk : Keeps (· = b) w (w.setCell ⟨b, o, none⟩ v) := by
      rw [e1]
      exact ⟨rfl, rfl, rfl, by simp, fun j hj hne => setRow_other w b j _ hne⟩
    refine ⟨cur', a1, by rw [a2]; simp, fun j h2 h3 h4 => ?_, fun j hj => ?_, hk.trans a5 fun _ _ q => q⟩
    · simp only [List.length_cons] at h3
      by_cases hj : j = o
      · subst hj
        rw [a4 j (by omega)]
        simp [h4]
      · rw [a3 j (by omega) (by omega) (by simpa using h4)]
        rw [show j - o = (j - (o + 1)) + 1 by omega]
        simp
    · simp only [List.length_cons] at hj
      rw [a4 j (by omega), Array.getElem?_setIfInBounds_ne (by omega)]
/-- A chunk's row as it lies: its cells as values. -/
theorem row_list {h : HP} {ρ : RO} {hp : CH} {n : Nat} {w : World} (hs : SatH h ρ hp n w) {k g m len : Nat} {L : List (List AV)} (hk : gc hp k = .rw g m L) (hle : len ≤ L.length) (h1 : ∀ x ∈ L, ones x = true) :
    ∃ (ob : Option Nat) (cap : Nat), ρ k g = some (ob, cap) ∧ L.length ≤ cap ∧ cap ≤ maxLen ∧ (ob = none → cap = 0) ∧ (∀ x ∈ L, x.length = m) ∧ ∀ b, ob = some b → live ρ hp b ∧ ∃ (cur : Array Value) (te : TypeId) (cs : List Value), w.heap[b]? = some (.cells cur te (0, 0)) ∧ cur.size = cap * m ∧
      cs = cur.toList.take (len * m) ∧ cs.length = len * m ∧ (∀ j, j < len * m → cs[j]? = cur[j]?) ∧ (∀ v ∈ cs, v.oneCell' = true) ∧
      ∀ (j : Nat) x (q : Nat) α, L[j]? = some x → x[q]? = some α → ∃ u, cur[m * j + q]? = some u ∧ PRel h α u := by
  have s := hs.ch k
  rw [hk] at s
  obtain ⟨ob, cap, e1, e2, e3, e4, e5, e6⟩ := s
  have hm : ∀ x ∈ L, x.length = m := fun x hx => by
    obtain ⟨j, hj, rfl⟩ := List.mem_iff_getElem.1 hx
    exact e4 j _ (by simp [hj])
  refine ⟨ob, cap, e1, e2, e3, e5, hm, fun b hb => ?_⟩
  obtain ⟨cur, te, a1, a2, a3⟩ := e6 b hb
  subst hb
  have hsz : len * m ≤ cur.size := by rw [a2]; exact Nat.mul_le_mul_right _ (by omega)
  refine ⟨⟨k, g, cap, by rw [hk]; rfl, e1⟩, cur, te, _, a1, a2, rfl, by simp; omega, fun j hj => by rw [List.getElem?_take_of_lt hj, Array.getElem?_toList], fun v hv => ?_, a3⟩
  obtain ⟨j, hj, rfl⟩ := List.mem_iff_getElem.1 hv
  have hj2 : j < len * m := by simp at hj; omega
  have hm0 : 0 < m := by
    rcases Nat.eq_zero_or_pos m with q | q
    · subst q; omega
    · exact q
  have hjm : j / m < len := (Nat.div_lt_iff_lt_mul hm0).2 hj2
  have hx : j / m < L.length := by omega
  have hlx : L[j / m].length = m := hm _ (List.getElem_mem _)
  have hq : j % m < L[j / m].length := by rw [hlx]; exact Nat.mod_lt _ hm0
  obtain ⟨u, u1, u2⟩ := a3 (j / m) L[j / m] (j % m) L[j / m][j % m] (by simp [hx]) (by simp [hq])
  rw [Nat.div_add_mod] at u1
  have e : (cur.toList.take (len * m))[j] = u := by
    have : (cur.toList.take (len * m))[j]? = some u := by rw [List.getElem?_take_of_lt hj2, Array.getElem?_toList]; exact u1
    rw [List.getElem?_eq_getElem hj] at this
    exact Option.some.inj this
  rw [e]
  exact AV.one_rel (.pu _ _ u2 : Rel h ρ _ u) (List.all_eq_true.1 (h1 _ (List.getElem_mem hx)) _ (List.getElem_mem hq))
/-- A row is laid anew: generation g + 1, in its block or in a new one. -/
theorem regen {h : HP} {ρ : RO} {hp : CH} {n : Nat} {w w' : World} (hs : SatH h ρ hp n w) {k g m nb cap : Nat} {L l : List (List AV)} {cur : Array Value} {te : TypeId} (hk : gc hp k = .rw g m L)
    (hnb : (∃ c, ρ k g = some (some nb, c)) ∨ w.heap.size ≤ nb) (hkeep : Keeps (fun b => ∃ c, ρ k g = some (some b, c)) w w') (hb : w'.heap[nb]? = some (.cells cur te (0, 0))) (hsz : cur.size = cap * m)
    (hle : l.length ≤ cap) (hcap : cap ≤ maxLen) (hm : ∀ x ∈ l, x.length = m) (hc : ∀ (j : Nat) x (q : Nat) α, l[j]? = some x → x[q]? = some α → ∃ u, cur[m * j + q]? = some u ∧ PRel h α u) :
    RLe ρ (rset ρ k (g + 1) (some nb, cap)) ∧ SatH h (rset ρ k (g + 1) (some nb, cap)) ((k, .rw (g + 1) m l) :: hp) n w' ∧ (∀ b, live (rset ρ k (g + 1) (some nb, cap)) ((k, .rw (g + 1) m l) :: hp) b → live ρ hp b ∨ w.heap.size ≤ b) ∧ Keeps (live ρ hp) w w' := by
  have s := hs.ch k
  rw [hk] at s
  obtain ⟨ob, c0, e1, e2, e3, e4, e5, e6⟩ := s
  have hn1 : ρ k (g + 1) = none := by
    cases hx : ρ k (g + 1) with
    | none => rfl
    | some y => have := hs.gens k g (g + 1) y (by rw [hk]; rfl) hx; omega
  have hrle := rset_le (some nb, cap) hn1
  have hkn : k < n := by
    rcases Nat.lt_or_ge k n with q | q
    · exact q
    · rw [hs.fr k g q] at e1; cases e1
  have hnw : nb < w'.heap.size := (Array.getElem?_eq_some_iff.1 hb).1
  have hold : ∀ b c, ρ k g = some (some b, c) → live ρ hp b := fun b c q => ⟨k, g, c, by rw [hk]; rfl, q⟩
  refine ⟨hrle, ?_, fun b hb' => ?_, ⟨hkeep.os, hkeep.tape, hkeep.output, hkeep.size, fun b hb' hx => hkeep.block b hb' fun ⟨c, q⟩ => hx (hold b c q)⟩⟩
  · refine hs.put k _ hrle (fun k' g' hk' => rset_ne _ _ hk') (fun b hb' hx => hkeep.block b hb' fun ⟨c, q⟩ => ?_) hkeep.size ?_ ?_ ?_ ?_
    · rcases hx with hx | ⟨k2, g2, c2, q1, q2, q3⟩
      · exact hx (hs.hid _ (hold b c q))
      · exact q1 (hs.inj k2 k g2 g _ _ _ q2 (by rw [hk]; rfl) q3 q)
    · refine ⟨some nb, cap, rset_same _ _ _ _, hle, hcap, fun j e he => hm e (List.mem_of_getElem? he), (fun hx => by cases hx), fun b2 hb2 => ?_⟩
      cases hb2
      exact ⟨cur, te, hb, hsz, hc⟩
    · intro g2 b2 c2 hg2 hr2
      cases hg2
      rw [rset_same] at hr2
      cases hr2
      refine ⟨?_, hnw, fun k2 g3 c3 hne2 hg3 hr3 => ?_⟩
      · rcases hnb with ⟨c, q⟩ | q
        · exact hs.hid _ (hold _ _ q)
        · cases hx : h nb with
          | none => rfl
          | some o => have := (Array.getElem?_eq_some_iff.1 (hs.hh _ _ hx)).1; omega
      · rcases hnb with ⟨c, q⟩ | q
        · exact hne2 (hs.inj k2 k g3 g _ _ _ hg3 (by rw [hk]; rfl) hr3 q)
        · have := hs.lt _ ⟨k2, g3, c3, hg3, hr3⟩
          omega
    · intro k' g' hk'
      rw [rset_ne _ _ (by omega)]
      exact hs.fr k' g' hk'
    · intro g2 g' y q1 q2
      cases q1
      by_cases hgg : g' = g + 1
      · omega
      · unfold rset at q2
        rw [if_neg (by omega)] at q2
        have := hs.gens k g g' y (by rw [hk]; rfl) q2
        omega
  · obtain ⟨k', g', c', q1, q2⟩ := hb'
    by_cases hkk : k = k'
    · subst hkk
      rw [gc_cons_same] at q1
      cases q1
      rw [rset_same] at q2
      cases q2
      rcases hnb with ⟨c, q⟩ | q
      · exact .inl (hold _ _ q)
      · exact .inr q
    · rw [gc_cons_ne hkk] at q1
      rw [rset_ne _ _ (fun q => hkk q.symm)] at q2
      exact .inl ⟨k', g', c', q1, q2⟩
/-- A plain slice's cells. -/
theorem ds_cells {h : HP} {ρ : RO} {hp : CH} {n : Nat} {w : World} (hs : SatH h ρ hp n w) {x : List AV} {v : Value} (r : PRel h (.ds [x]) v) (hx : x ≠ []) (h1 : ones x = true) :
    ∃ (vb voff vc : Nat) (vs : List Value) (cur : Array Value) (te : TypeId) (fr : Nat × Nat), v = .slice (some ⟨vb, voff, none⟩) 1 vc ∧ h vb = some (.cells cur te fr) ∧ vs.length = x.length ∧ (∀ (j : Nat) v, vs[j]? = some v → w.cell? ⟨vb, voff + j, none⟩ = some v) ∧ (∀ v ∈ vs, v.oneCell' = true) ∧ (∀ (j : Nat) α v, x[j]? = some α → vs[j]? = some v → PRel h α v) ∧ 0 < cur.size := by
  cases r with
  | ds _ q0 a cap us hc hn hp' hm =>
    obtain ⟨b, o, ea, hy⟩ := hm (by simp)
    subst ea
    have hcell : ∀ (j : Nat) α, x[j]? = some α → cellAt h b (o + j) = some (us 0 j) ∧ PRel h α (us 0 j) := fun j α hj => by
      have q1 := hy 0 x j α rfl hj
      rw [Nat.mul_zero, Nat.add_zero] at q1
      exact ⟨q1, hp' 0 x j α rfl hj⟩
    obtain ⟨α0, hα0⟩ : ∃ α0, x[0]? = some α0 := by
      cases x with
      | nil => exact absurd rfl hx
      | cons y r => exact ⟨y, rfl⟩
    obtain ⟨cur, te, fr, hb⟩ : ∃ cur te fr, h b = some (.cells cur te fr) := by
      have := (hcell 0 α0 hα0).1
      unfold cellAt at this
      split at this
      · rename_i c e f hh
        exact ⟨c, e, f, hh⟩
      · cases this
    have hcur : ∀ j, cellAt h b j = cur[j]? := fun j => by simp [cellAt, hb]
    refine ⟨b, o, cap, (List.range x.length).map (us 0), cur, te, fr, rfl, hb, by simp, fun j v hv => ?_, fun v hv => ?_, fun j α v hj hv => ?_, ?_⟩
    · rw [List.getElem?_map] at hv
      rcases Nat.lt_or_ge j x.length with q | q
      · rw [List.getElem?_range q] at hv
        cases hv
        obtain ⟨q1, _⟩ := hcell j x[j] (by simp [q])
        rw [hcur] at q1
        simp [World.cell?, hs.hh _ _ hb, q1]
      · rw [List.getElem?_eq_none (by simpa using q)] at hv
        cases hv
    · rw [List.mem_map] at hv
      obtain ⟨j, hj, rfl⟩ := hv
      rw [List.mem_range] at hj
      obtain ⟨_, q2⟩ := hcell j x[j] (by simp [hj])
      exact AV.one_rel (.pu _ _ q2 : Rel h ρ _ _) (List.all_eq_true.1 h1 _ (List.getElem_mem hj))
    · have q : j < x.length := (List.getElem?_eq_some_iff.1 hj).1
      rw [List.getElem?_map, List.getElem?_range q] at hv
      cases hv
      exact (hcell j α hj).2
    · have q1 := (hcell 0 α0 hα0).1
      rw [hcur] at q1
      have := (Array.getElem?_eq_some_iff.1 q1).1
      omega
end Go.Eng
