/-
  The parts PcF of the proof, in one file. Conditions: none.
-/
import Derived.Test.YtpenniildabheaaPb33
namespace Go.Proofs.Ytpenniildabheaa
open Go.Shelf Go.RowKit Go.Lib Go.Sort Go.Proofs Go.Eng
set_option linter.unusedVariables false
set_option linter.unusedSimpArgs false
theorem args3 {h : HP} {ρ : RO} {a b c : AV} {vs : List Value} (ha : RelL h ρ [a, b, c] vs) : ∃ v1 v2 v3, vs = [v1, v2, v3] ∧ Rel h ρ a v1 ∧ Rel h ρ b v2 ∧ Rel h ρ c v3 := by
  obtain ⟨v1, v2, v3, rfl⟩ : ∃ v1 v2 v3, vs = [v1, v2, v3] := by
    have := ha.1
    match vs, this with
    | [a, b, c], _ => exact ⟨a, b, c, rfl⟩
  exact ⟨v1, v2, v3, rfl, ha.2 0 _ v1 rfl rfl, ha.2 1 _ v2 rfl rfl, ha.2 2 _ v3 rfl rfl⟩
theorem meets_del {hp : CH} {n k g i : Nat} {l : List (List AV)} (hk : gc hp k = .rw g 3 l) (hi : i < l.length) (h1 : ∀ x ∈ l, ones x = true) :
    Meets Try.prog 42 hp n [.rw k g l.length, .i .i64 i, .i .i64 ((i : Int) + 1)] fun hp' n' r => hp' = (k, .rw g 3 (l.eraseIdx i)) :: hp ∧ n' = n ∧ r = .rw k g (l.length - 1) := by
  refine ⟨⟨_, Try.func42, by kernel_rfl, by kernel_rfl⟩, fun h ρ w vs hs ha => ?_⟩
  obtain ⟨v1, v2, v3, rfl, x1, x2, x3⟩ := args3 ha
  obtain rfl := x2.int
  obtain rfl := x3.int
  obtain ⟨ob, cap, e1, e2, e3, e5, hm, hrow⟩ := row_list hs hk (Nat.le_refl _) h1
  obtain ⟨b, rfl⟩ : ∃ b, ob = some b := by
    cases ob with
    | none => have := e5 rfl; omega
    | some b => exact ⟨b, rfl⟩
  obtain ⟨hlive, cur, te, cs, hb, hsz, hcs, hcl, hcj, hc1, hcell⟩ := hrow b rfl
  obtain rfl : v1 = .slice (some ⟨b, 0, none⟩) l.length cap := by
    cases x1 with
    | pu _ _ q => cases q
    | rw _ _ _ cap' a ob' q1 q2 q3 =>
      rw [e1] at q1
      cases q1
      rw [q3 b rfl]
  have hcap : l.length * 3 ≤ cur.size := by rw [hsz]; exact Nat.mul_le_mul_right _ e2
  refine (del_low b l.length cap i cs w hi e2 (by unfold maxLen at e3; omega) hcl (fun j v hj => ?_) (fun j hj => ?_) hc1).mono fun ee w' ⟨he, hw⟩ => ?_
  · have hj2 : j < l.length * 3 := by rw [← hcl]; exact (List.getElem?_eq_some_iff.1 hj).1
    rw [hcj j hj2] at hj
    simp [World.cell?, hb, hj]
  · simp [World.frozen?, hb]
  have hb0 : w.drew.heap[b]? = some (.cells cur te (0, 0)) := hb
  obtain ⟨c1, a1, a2, a3, a4, a5⟩ := sets_ok b (cs.drop ((i + 1) * 3)) (i * 3) w.drew cur te (0, 0) hb0
  obtain ⟨c2, b1, b2, b3, b4, b5⟩ := sets_ok b zEs ((l.length - 1) * 3) _ c1 te (0, 0) a1
  rw [← hw] at b1 b5
  have hdl : (cs.drop ((i + 1) * 3)).length = (l.length - (i + 1)) * 3 := by rw [List.length_drop, hcl, Nat.sub_mul]
  have hel : (l.eraseIdx i).length = l.length - 1 := List.length_eraseIdx_of_lt hi
  have hkp : Keeps (live ρ hp) w w' := by
    have t := (show Keeps (· = b) w w.drew from ⟨rfl, rfl, rfl, Nat.le_refl _, fun _ _ _ => rfl⟩).trans (a5.trans b5 fun _ _ q => q) fun _ _ q => q
    exact ⟨t.os, t.tape, t.output, t.size, fun x hx hl => t.block x hx fun q => hl (by rw [q]; exact hlive)⟩
  have hlv : ∀ x, live ρ ((k, .rw g 3 (l.eraseIdx i)) :: hp) x → live ρ hp x := fun x ⟨j, g', c, q, y⟩ => by
    by_cases hj : k = j
    · subst hj
      rw [gc_cons_same] at q
      exact ⟨k, g', c, by rw [hk]; exact q, y⟩
    · rw [gc_cons_ne hj] at q
      exact ⟨j, g', c, q, y⟩
  have hsat : SatH h ρ ((k, .rw g 3 (l.eraseIdx i)) :: hp) n w' := by
    refine hs.put k _ (RLe.refl _) (fun _ _ _ => rfl) (fun x hx hq => ?_) hkp.size ?_ ?_ hs.fr ?_
    · have t := (show Keeps (· = b) w w.drew from ⟨rfl, rfl, rfl, Nat.le_refl _, fun _ _ _ => rfl⟩).trans (a5.trans b5 fun _ _ q => q) fun _ _ q => q
      refine t.block x hx fun q => ?_
      subst q
      rcases hq with hq | ⟨k2, g2, c2', q1, q2, q3⟩
      · exact hq (hs.hid _ hlive)
      · exact q1 (hs.inj k2 k g2 g _ _ _ q2 (by rw [hk]; rfl) q3 e1)
    · refine ⟨some b, cap, e1, by rw [hel]; omega, e3, fun j y hy => hm y (List.mem_of_mem_eraseIdx (List.mem_of_getElem? hy)), (fun q => by cases q), fun b' q => ?_⟩
      cases q
      refine ⟨c2, te, b1, by rw [b2, a2, hsz], fun j x q α hx hq => ?_⟩
      have hjl : j < l.length - 1 := by rw [← hel]; exact (List.getElem?_eq_some_iff.1 hx).1
      rw [List.getElem?_eraseIdx] at hx
      have hq3 : q < 3 := by
        have hx3 : x.length = 3 := by
          split at hx
          · exact hm x (List.mem_of_getElem? hx)
          · exact hm x (List.mem_of_getElem? hx)
        have := (List.getElem?_eq_some_iff.1 hq).1
        omega
      rw [b4 (3 * j + q) (by omega)]
      split at hx
      · rename_i hji
        obtain ⟨u, z1, z2⟩ := hcell j x q α hx hq
        exact ⟨u, by rw [a4 (3 * j + q) (by omega)]; exact z1, z2⟩
      · rename_i hji
        obtain ⟨u, z1, z2⟩ := hcell (j + 1) x q α hx hq
        refine ⟨u, ?_, z2⟩
        rw [a3 (3 * j + q) (by omega) (by rw [hdl]; omega) (by omega), List.getElem?_drop, show (i + 1) * 3 + (3 * j + q - i * 3) = 3 * (j + 1) + q by omega, hcj _ (by omega)]
        exact z1
    · intro g2 b2' c2' hg2 hr2
      have hl : live ρ hp b2' := ⟨k, g2, c2', by rw [hk]; exact hg2, hr2⟩
      exact ⟨hs.hid _ hl, Nat.lt_of_lt_of_le (hs.lt _ hl) hkp.size, fun k2 g3 c3 hne q3 q4 => hne (hs.inj k2 k g3 g2 _ _ _ q3 (by rw [hk]; exact hg2) q4 hr2)⟩
    · intro g1 g' y q1 q2
      exact hs.gens k g1 g' y (by rw [hk]; exact q1) q2
  exact ⟨_, he, h, ρ, _, n, _, ⟨rfl, rfl, rfl⟩, HLe.refl _, RLe.refl _, hsat, .rw k g _ cap _ (some b) e1 (by omega) (fun b' q => by cases q; rfl), hkp, fun x hx => .inl (hlv x hx)⟩
/-- The cells of a new row: those of the new entry, then the old ones. -/
theorem cons_cells {h : HP} {x : List AV} {L : List (List AV)} {len : Nat} {cur cur0 : Array Value} {vs : List Value} (hx : x.length = 3) (hm : ∀ y ∈ L, y.length = 3)
    (hv : ∀ (j : Nat) α v, x[j]? = some α → vs[j]? = some v → PRel h α v) (hvl : vs.length = 3) (h0 : ∀ q, q < 3 → cur[q]? = vs[q]?) (h1 : ∀ j, j < len * 3 → cur[3 + j]? = cur0[j]?)
    (hc : ∀ (j : Nat) y (q : Nat) α, L[j]? = some y → y[q]? = some α → ∃ u, cur0[3 * j + q]? = some u ∧ PRel h α u) :
    ∀ (j : Nat) y (q : Nat) α, (x :: L.take len)[j]? = some y → y[q]? = some α → ∃ u, cur[3 * j + q]? = some u ∧ PRel h α u := by
  intro j y q α hy hq
  cases j with
  | zero =>
    simp at hy
    subst hy
    have hq3 : q < 3 := by have := (List.getElem?_eq_some_iff.1 hq).1; omega
    obtain ⟨v, hvv⟩ : ∃ v, vs[q]? = some v := ⟨vs[q]'(by omega), by simp [show q < vs.length by omega]⟩
    exact ⟨v, by rw [Nat.mul_zero, Nat.zero_add, h0 q hq3]; exact hvv, hv q α v hq hvv⟩
  | succ j =>
    rw [List.getElem?_cons_succ] at hy
    obtain ⟨hy, hjl⟩ := take_get hy
    have hq3 : q < 3 := by
      have := hm y (List.mem_of_getElem? hy)
      have := (List.getElem?_eq_some_iff.1 hq).1
      omega
    obtain ⟨u, z1, z2⟩ := hc j y q α hy hq
    exact ⟨u, by rw [show 3 * (j + 1) + q = 3 + (3 * j + q) by omega, h1 _ (by omega)]; exact z1, z2⟩
theorem meets_ins {hp : CH} {n k g len : Nat} {L : List (List AV)} {x : List AV} (hk : gc hp k = .rw g 3 L) (hle : len ≤ L.length) (h1 : ∀ x ∈ L, ones x = true) (hx3 : x.length = 3) (hx1 : ones x = true) (hbig : (len + 1) * 48 ≤ 140737488355328) :
    Meets Try.prog 36 hp n [.rw k g len, .i .i64 0, .ds [x]] fun hp' n' r => hp' = (k, .rw (g + 1) 3 (x :: L.take len)) :: hp ∧ n' = n ∧ r = .rw k (g + 1) (len + 1) := by
  refine ⟨⟨_, Try.func36, by kernel_rfl, by kernel_rfl⟩, fun h ρ w vs hs ha => ?_⟩
  obtain ⟨v1, v2, v3, rfl, x1, x2, x3⟩ := args3 ha
  obtain rfl := x2.int
  have x3' : PRel h (.ds [x]) v3 := by cases x3 with | pu _ _ q => exact q
  obtain ⟨vb, voff, vc, nv, vcur, vte, vfr, rfl, hvb, hvl, hvc, hv1, hvr, hvz⟩ := ds_cells hs x3' (by intro e; subst e; cases hx3) hx1
  rw [hx3] at hvl
  obtain ⟨ob, cap, e1, e2, e3, e5, hm, hrow⟩ := row_list hs hk hle h1
  have hlm : ∀ y ∈ x :: L.take len, y.length = 3 := fun y hy => by
    rcases List.mem_cons.1 hy with rfl | hy
    · exact hx3
    · exact hm y (List.mem_of_mem_take hy)
  have hll : (x :: L.take len).length = len + 1 := by simp; omega
  have e3' : cap ≤ 9223372036854775807 := by unfold maxLen at e3; omega
  obtain ⟨a, rfl, hadr⟩ : ∃ a, v1 = .slice a len cap ∧ ∀ b, ob = some b → a = some ⟨b, 0, none⟩ := by
    cases x1 with
    | pu _ _ q => cases q
    | rw _ _ _ cap' a ob' q1 q2 q3 =>
      rw [e1] at q1
      cases q1
      exact ⟨a, rfl, q3⟩
  have hzc : ∀ m, (Builtin.zeroCells zE.cells m).size = m * 3 := fun m => by simp [Builtin.zeroCells, Value.cells]
  -- what the call leaves
  have fin : ∀ (w' : World) (nb c : Nat) (cur : Array Value) (te : TypeId) (e : Ending), e = .returned (.slice (some ⟨nb, 0, none⟩) (len + 1) c) → ((∃ c, ρ k g = some (some nb, c)) ∨ w.heap.size ≤ nb) → Keeps (fun b => ∃ c, ρ k g = some (some b, c)) w w' →
      w'.heap[nb]? = some (.cells cur te (0, 0)) → cur.size = c * 3 → len + 1 ≤ c → c ≤ maxLen → (∀ (j : Nat) y (q : Nat) α, (x :: L.take len)[j]? = some y → y[q]? = some α → ∃ u, cur[3 * j + q]? = some u ∧ PRel h α u) →
      ∃ v, e = .returned v ∧ ∃ h' ρ' hp' n' r, (hp' = (k, .rw (g + 1) 3 (x :: L.take len)) :: hp ∧ n' = n ∧ r = .rw k (g + 1) (len + 1)) ∧ HLe h h' ∧ RLe ρ ρ' ∧ SatH h' ρ' hp' n' w' ∧ Rel h' ρ' r v ∧ Keeps (live ρ hp) w w' ∧ ∀ b, live ρ' hp' b → live ρ hp b ∨ w.heap.size ≤ b := by
    intro w' nb c cur te e he hnb hkp hb hsz hc1 hc2 hcell
    obtain ⟨q1, q2, q3, q4⟩ := regen hs hk hnb hkp hb hsz (by rw [hll]; exact hc1) hc2 hlm hcell
    exact ⟨_, he, h, _, _, _, _, ⟨rfl, rfl, rfl⟩, HLe.refl _, q1, q2, .rw _ _ _ _ _ _ (rset_same _ _ _ _) hc1 (fun b' q => by cases q; rfl), q4, q3⟩
  have hdrew : ∀ X, Keeps X w w.drew := fun X => ⟨rfl, rfl, rfl, Nat.le_refl _, fun _ _ _ => rfl⟩
  rcases Nat.eq_zero_or_pos len with hz | hpos
  · subst hz
    rcases Nat.eq_zero_or_pos cap with hc0 | hcp
    · -- a new row
      subst hc0
      refine (ins_grow0 a (fun a' ea => by
        cases ob with
        | none =>
          obtain ⟨ab, ao, asp⟩ := a'
          exact ⟨ab, ao, asp, rfl⟩
        | some b => rw [hadr b rfl] at ea; cases ea; exact ⟨_, _, _, rfl⟩) vb voff vc nv w hvl hvc hv1).mono fun ee w' ⟨he, hw⟩ => ?_
      subst hw
      have hc1 := grownCap_ge w 1 0 81
      have hc2 := grownCap_le_maxLen w 1 0 81 (by decide)
      obtain ⟨C, hC⟩ : ∃ C, grownCap w 1 0 81 = C := ⟨_, rfl⟩
      rw [hC] at he hc1 hc2 ⊢
      refine fin _ w.heap.size C _ 81 ee he (.inr (Nat.le_refl _)) ((hdrew _).trans (Keeps.alloc _ _ _) (fun _ _ q => q)) (heap_alloc_new w.drew _) ?_ hc1 hc2 (cons_cells (cur0 := #[]) hx3 hm hvr hvl (fun q hq => ?_) (fun j hj => by omega) (fun j y q α hy hq => ?_))
      · simp [hzc, hvl]; omega
      · rw [Array.getElem?_append_left (by simp [hvl, hq])]
        simp
      · have : L = [] := List.eq_nil_of_length_eq_zero (by omega)
        rw [this] at hy
        simp at hy
    · obtain ⟨b, rfl⟩ : ∃ b, ob = some b := by
        cases ob with
        | none => have := e5 rfl; omega
        | some b => exact ⟨b, rfl⟩
      obtain ⟨hlive, cur, te, cs, hb, hsz, hcs, hcl, hcj, hc1, hcell⟩ := hrow b rfl
      rw [hadr b rfl]
      refine (ins_room0 b cap vb voff vc nv w hcp hvl (fun j hj => ?_) (fun j hj => ?_) hvc hv1).mono fun ee w' ⟨he, hw⟩ => ?_
      · have : j < cur.size := by rw [hsz]; omega
        simp [World.cell?, hb, this]
      · simp [World.frozen?, hb]
      subst hw
      obtain ⟨c1, a1, a2, a3, a4, a5⟩ := sets_ok b nv 0 w cur te (0, 0) hb
      refine fin _ b cap c1 te ee he (.inl ⟨cap, e1⟩) ⟨a5.os, a5.tape, a5.output, a5.size, fun x hx q => a5.block x hx fun e => q ⟨cap, by rw [e]; exact e1⟩⟩ a1 (by rw [a2, hsz]) hcp e3 (cons_cells (cur0 := cur) hx3 hm hvr hvl (fun q hq => ?_) (fun j hj => by omega) hcell)
      rw [a3 q (by omega) (by omega) (by rw [hsz]; omega), Nat.sub_zero]
  · obtain ⟨b, rfl⟩ : ∃ b, ob = some b := by
      cases ob with
      | none => have := e5 rfl; omega
      | some b => exact ⟨b, rfl⟩
    obtain ⟨hlive, cur, te, cs, hb, hsz, hcs, hcl, hcj, hc1, hcell⟩ := hrow b rfl
    rw [hadr b rfl]
    have hcells : ∀ (j : Nat) v, cs[j]? = some v → w.cell? ⟨b, j, none⟩ = some v := fun j v hj => by
      have hj2 : j < len * 3 := by rw [← hcl]; exact (List.getElem?_eq_some_iff.1 hj).1
      rw [hcj j hj2] at hj
      simp [World.cell?, hb, hj]
    rcases Nat.lt_or_ge len cap with hroom | hfull
    · have hszr : (len + 1) * 3 ≤ cur.size := by rw [hsz]; exact Nat.mul_le_mul_right _ hroom
      have hvbb : vb ≠ b := fun e => by subst e; rw [hs.hid _ hlive] at hvb; cases hvb
      refine (ins_shift b len cap vb voff vc cs nv w hpos hroom e3' hvbb hcl hvl hcells (fun j hj => ?_) (fun j hj => ?_) hvc hc1 hv1 vte te vcur.size cur.size ?_ ?_ (by omega) (by omega) ?_ ?_).mono fun ee w' ⟨he, hw⟩ => ?_
      · have : j < cur.size := by omega
        simp [World.cell?, hb, this]
      · simp [World.frozen?, hb]
      · simp [World.shape?, hs.hh _ _ hvb]
      · simp [World.shape?, hb]
      · simp [World.frozen?, hb]
      · simp [World.frozen?, hb]
      have hb0 : w.drew.heap[b]? = some (.cells cur te (0, 0)) := hb
      obtain ⟨c1, a1, a2, a3, a4, a5⟩ := sets_ok b cs 3 w.drew cur te (0, 0) hb0
      obtain ⟨c2, b1, b2, b3, b4, b5⟩ := sets_ok b nv 0 _ c1 te (0, 0) a1
      rw [← hw] at b1 b5
      have t := (hdrew (· = b)).trans (a5.trans b5 fun _ _ q => q) fun _ _ q => q
      refine fin _ b cap c2 te ee he (.inl ⟨cap, e1⟩) ⟨t.os, t.tape, t.output, t.size, fun x hx q => t.block x hx fun e => q ⟨cap, by rw [e]; exact e1⟩⟩ b1 (by rw [b2, a2, hsz]) hroom e3 (cons_cells (cur0 := cur) hx3 hm hvr hvl (fun q hq => ?_) (fun j hj => ?_) hcell)
      · rw [b3 q (by omega) (by omega) (by omega), Nat.sub_zero]
      · rw [b4 (3 + j) (by omega), a3 (3 + j) (by omega) (by omega) (by omega), Nat.add_sub_cancel_left, hcj j hj]
    · have hcl' : cap = len := by omega
      subst hcl'
      refine (ins_grow b cap vb voff vc cs nv w hpos hbig hcl hvl hcells hvc hc1 hv1).mono fun ee w' ⟨he, hw⟩ => ?_
      have hg1 := grownCap_ge w (cap + 1) cap 81
      have hg2 := grownCap_le_maxLen w (cap + 1) cap 81 (by unfold maxLen; omega)
      obtain ⟨C, hC⟩ : ∃ C, grownCap w (cap + 1) cap 81 = C := ⟨_, rfl⟩
      rw [hC] at he hg1 hg2 hw
      obtain ⟨row, hrw⟩ : ∃ row : Array Value, row = Builtin.zeroCells zE.cells (cap + 1) ++ Builtin.zeroCells zE.cells (C - (cap + 1)) := ⟨_, rfl⟩
      have hrs : row.size = C * 3 := by rw [hrw, Array.size_append, hzc, hzc]; omega
      rw [← hrw] at hw
      have h0 : (w.alloc (.cells row 81)).drew.heap[w.heap.size]? = some (.cells row 81 (0, 0)) := heap_alloc_new w _
      obtain ⟨c1, a1, a2, a3, a4, a5⟩ := sets_ok w.heap.size nv 0 (w.alloc (.cells row 81)).drew row 81 (0, 0) h0
      have h0' : ((w.alloc (.cells row 81)).drew.setCells w.heap.size 0 nv).drew.heap[w.heap.size]? = some (.cells c1 81 (0, 0)) := a1
      obtain ⟨c2, b1, b2, b3, b4, b5⟩ := sets_ok w.heap.size cs 3 _ c1 81 (0, 0) h0'
      rw [← hw] at b1 b5
      have t : Keeps (fun x => x = w.heap.size) w w' := by
        have t1 : Keeps (fun x => x = w.heap.size) w (w.alloc (.cells row 81)).drew := ⟨rfl, rfl, rfl, by simp, fun x hx _ => by first | exact heap_alloc_old _ _ hx | exact heap_alloc_old _ _ _ hx⟩
        have t2 : Keeps (fun x => x = w.heap.size) ((w.alloc (.cells row 81)).drew.setCells w.heap.size 0 nv) ((w.alloc (.cells row 81)).drew.setCells w.heap.size 0 nv).drew := ⟨rfl, rfl, rfl, Nat.le_refl _, fun _ _ _ => rfl⟩
        exact t1.trans (a5.trans (t2.trans b5 fun _ _ q => q) fun _ _ q => q) fun _ _ q => q
      refine fin _ w.heap.size C c2 81 ee he (.inr (Nat.le_refl _)) ⟨t.os, t.tape, t.output, t.size, fun x hx _ => t.block x hx (by omega)⟩ b1 (by rw [b2, a2, hrs]) hg1 hg2 (cons_cells (cur0 := cur) hx3 hm hvr hvl (fun q hq => ?_) (fun j hj => ?_) hcell)
      · rw [b4 q (by omega), a3 q (by omega) (by omega) (by omega), Nat.sub_zero]
      · rw [b3 (3 + j) (by omega) (by omega) (by omega), Nat.add_sub_cancel_left, hcj j hj]
end Go.Proofs.Ytpenniildabheaa
