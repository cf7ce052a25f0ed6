/-
  The parts MxH of the proof, in one file. Conditions: none.
-/
import Derived.Test.YtdodiembhgjecaaMc34
namespace Go.Proofs.Ytdodiembhgjecaa
open Go.Shelf Go.RowKit Go.Lib Go.Proofs Go.Eng
set_option linter.unusedVariables false
set_option linter.unusedSimpArgs false
set_option maxRecDepth 20000
theorem args3 {h : HP} {ρ : RO} {a b c : AV} {vs : List Value} (ha : RelL h ρ [a, b, c] vs) : ∃ v1 v2 v3, vs = [v1, v2, v3] ∧ Rel h ρ a v1 ∧ Rel h ρ b v2 ∧ Rel h ρ c v3 := by
  obtain ⟨v1, v2, v3, rfl⟩ : ∃ v1 v2 v3, vs = [v1, v2, v3] := by
    have := ha.1
    match vs, this with
    | [a, b, c], _ => exact ⟨a, b, c, rfl⟩
  exact ⟨v1, v2, v3, rfl, ha.2 0 _ v1 rfl rfl, ha.2 1 _ v2 rfl rfl, ha.2 2 _ v3 rfl rfl⟩
theorem ones_in (L : List Int) : ∀ x ∈ mapC in1 L, ones x = true := fun x hx => by
  obtain ⟨y, _, rfl⟩ := mapC_mem _ _ hx
  rfl
theorem int_cells {h : HP} {l : List Int} {cur : Array Value} (h0 : ∀ (j : Nat) x, l[j]? = some x → cur[j]? = some (.int .i64 x)) : ∀ (j : Nat) y (q : Nat) α, (mapC in1 l)[j]? = some y → y[q]? = some α → ∃ u, cur[1 * j + q]? = some u ∧ PRel h α u := by
  intro j y q α hy hq
  have hj : j < l.length := by
    have := (List.getElem?_eq_some_iff.1 hy).1
    simpa [mapC_len] using this
  rw [mapC_get in1 (List.getElem?_eq_getElem hj)] at hy
  cases hy
  match q, hq with
  | 0, hq =>
    cases hq
    exact ⟨_, by rw [Nat.one_mul, Nat.add_zero]; exact h0 j _ (List.getElem?_eq_getElem hj), .i _ _⟩
def insL (L : List Int) (i : Nat) (x : Int) : List Int := L.take i ++ x :: L.drop i
theorem insL_len {L : List Int} {i : Nat} (hi : i ≤ L.length) (x : Int) : (insL L i x).length = L.length + 1 := by simp [insL]; omega
theorem insL_get {L : List Int} {i : Nat} (hi : i ≤ L.length) (x : Int) (j : Nat) : (insL L i x)[j]? = if j < i then L[j]? else if j = i then some x else L[j - 1]? := by
  have hl : (L.take i).length = i := by rw [List.length_take]; omega
  unfold insL
  rw [List.getElem?_append, hl]
  split
  · rename_i h; rw [List.getElem?_take, if_pos h]
  · rename_i h
    split
    · rename_i h2; subst h2; simp
    · rename_i h2
      obtain ⟨p, hp⟩ : ∃ p, j - i = p + 1 := ⟨j - i - 1, by omega⟩
      rw [hp, List.getElem?_cons_succ, List.getElem?_drop]
      congr 1
      omega
theorem meets_insI {hp : CH} {n k g i : Nat} {L : List Int} {x : Int} (hk : gc hp k = .rw g 1 (mapC in1 L)) (hi : i ≤ L.length) (hb : L.length ≤ 1000000) :
    Meets Try.prog 39 hp n [.rw k g L.length, .i .i64 i, .ds [[.i .i64 x]]] fun hp' n' r => hp' = [(k, .rw (g + 1) 1 (mapC in1 (insL L i x)))] ++ hp ∧ n' = n ∧ r = .rw k (g + 1) (L.length + 1) := by
  refine ⟨⟨_, Try.func39, by kernel_rfl, by kernel_rfl⟩, fun h ρ w vs hs ha => ?_⟩
  obtain ⟨v1, v2, v3, rfl, x1, x2, x3⟩ := args3 ha
  obtain rfl := x2.int
  have x3' : PRel h (.ds [[.i .i64 x]]) v3 := by cases x3 with | pu _ _ q => exact q
  obtain ⟨vb, voff, vc, nv, vcur, vte, vfr, rfl, hvb, hvl, hvc, hv1, hvr, hvz⟩ := ds_cells hs x3' (by simp) rfl
  obtain ⟨nv0, rfl⟩ : ∃ y, nv = [y] := by
    match nv, hvl with
    | [y], _ => exact ⟨y, rfl⟩
  have hnv : nv0 = .int .i64 x := by
    have := hvr 0 _ nv0 rfl rfl
    cases this
    rfl
  subst hnv
  have hLl : (mapC in1 L).length = L.length := mapC_len _ _
  obtain ⟨ob, cap, e1, e2, e3, e5, hm, hrow⟩ := row_list hs hk (Nat.le_refl _) (ones_in L)
  rw [hLl] at e2 hrow
  have e3' : cap ≤ 9223372036854775807 := by unfold maxLen at e3; omega
  obtain ⟨a, rfl, hadr⟩ : ∃ a, v1 = .slice a L.length cap ∧ ∀ b, ob = some b → a = some ⟨b, 0, none⟩ := by
    cases x1 with
    | pu _ _ q => cases q
    | rw _ _ _ cap' a ob' q1 q2 q3 =>
      rw [e1] at q1
      cases q1
      exact ⟨a, rfl, q3⟩
  have hzc : ∀ m, (Builtin.zeroCells (Value.int .i64 0).cells m).size = m := fun m => by simp [Builtin.zeroCells, Value.cells]
  have hlm : ∀ y ∈ mapC in1 (insL L i x), y.length = 1 := fun y hy => mapC_all (c := in1) (n := 1) (fun _ => rfl) y hy
  have fin : ∀ (w' : World) (nb c : Nat) (cur : Array Value) (te : TypeId) (e : Ending), e = .returned (.slice (some ⟨nb, 0, none⟩) (L.length + 1) c) → ((∃ c, ρ k g = some (some nb, c)) ∨ w.heap.size ≤ nb) → Keeps (fun b => ∃ c, ρ k g = some (some b, c)) w w' →
      w'.heap[nb]? = some (.cells cur te (0, 0)) → cur.size = c → L.length + 1 ≤ c → c ≤ maxLen → (∀ (j : Nat) y, (insL L i x)[j]? = some y → cur[j]? = some (.int .i64 y)) →
      ∃ v, e = .returned v ∧ ∃ h' ρ' hp' n' r, (hp' = [(k, .rw (g + 1) 1 (mapC in1 (insL L i x)))] ++ hp ∧ n' = n ∧ r = .rw k (g + 1) (L.length + 1)) ∧ HLe h h' ∧ RLe ρ ρ' ∧ SatH h' ρ' hp' n' w' ∧ Rel h' ρ' r v ∧ Keeps (live ρ hp) w w' ∧ ∀ b, live ρ' hp' b → live ρ hp b ∨ w.heap.size ≤ b := by
    intro w' nb c cur te e he hnb hkp hb hsz hc1 hc2 hcell
    obtain ⟨q1, q2, q3, q4⟩ := regen hs hk hnb hkp hb (cap := c) (by omega) (by rw [mapC_len, insL_len hi]; exact hc1) hc2 hlm (int_cells hcell)
    exact ⟨_, he, h, _, _, _, _, ⟨rfl, rfl, rfl⟩, HLe.refl _, q1, q2, .rw _ _ _ _ _ _ (rset_same _ _ _ _) hc1 (fun b' q => by cases q; rfl), q4, q3⟩
  have hdrew : ∀ X, Keeps X w w.drew := fun X => ⟨rfl, rfl, rfl, Nat.le_refl _, fun _ _ _ => rfl⟩
  have hvs : w.cell? ⟨vb, voff, none⟩ = some (.int .i64 x) := by simpa using hvc 0 _ rfl
  have hvs2 : ∀ (j : Nat) v, [Value.int .i64 x][j]? = some v → w.cell? ⟨vb, voff + j, none⟩ = some v := hvc
  rcases Nat.lt_or_ge L.length cap with hroom | hfull
  · -- there is room
    obtain ⟨b, rfl⟩ : ∃ b, ob = some b := by
      cases ob with
      | none => have := e5 rfl; omega
      | some b => exact ⟨b, rfl⟩
    obtain ⟨hlive, cur, te, cs, hbk, hsz, hcs, hcl, hcj, hc1, hcell⟩ := hrow b rfl
    rw [Nat.mul_one] at hsz hcl
    have hcv : ∀ (j : Nat) y, L[j]? = some y → cur[j]? = some (.int .i64 y) := fun j y hy => by
      obtain ⟨u, u1, u2⟩ := hcell j _ 0 _ (mapC_get in1 hy) rfl
      rw [Nat.one_mul, Nat.add_zero] at u1
      cases u2
      exact u1
    rw [hadr b rfl]
    have hcells : ∀ (j : Nat) v, cs[j]? = some v → w.cell? ⟨b, j, none⟩ = some v := fun j v hj => by
      have hj2 : j < L.length := by rw [← hcl]; exact (List.getElem?_eq_some_iff.1 hj).1
      rw [hcj j (by omega)] at hj
      simp [World.cell?, hbk, hj]
    have hsome : ∀ j, j < cap → (w.cell? ⟨b, j, none⟩).isSome = true := fun j hj => by
      have : j < cur.size := by omega
      simp [World.cell?, hbk, this]
    have hfz : ∀ j, w.frozen? ⟨b, j, none⟩ = false := fun j => by simp [World.frozen?, hbk]
    rcases Nat.lt_or_ge i L.length with hlt | hge
    · have hvbb : vb ≠ b := fun e => by subst e; rw [hs.hid _ hlive] at hvb; cases hvb
      refine (ins_mid b L.length cap i vb voff vc (.int .i64 x) cs w hlt hroom e3' hvbb hcl hcells (fun j hj => hsome j (by omega)) hfz hvs hc1 rfl vte te vcur.size cur.size ?_ ?_ (by omega) (by omega)).mono fun ee w' ⟨he, hw⟩ => ?_
      · simp [World.shape?, hs.hh _ _ hvb]
      · simp [World.shape?, hbk]
      have hb0 : w.drew.heap[b]? = some (.cells cur te (0, 0)) := hbk
      obtain ⟨c1, a1, a2, a3, a4, a5⟩ := sets_ok b (cs.drop i) (i + 1) w.drew cur te (0, 0) hb0
      obtain ⟨c2, b1, b2, b3, b4, b5⟩ := sets_ok b [Value.int .i64 x] i _ c1 te (0, 0) a1
      rw [← hw] at b1 b5
      have t := (hdrew (· = b)).trans (a5.trans b5 fun _ _ q => q) fun _ _ q => q
      have hdl : (cs.drop i).length = L.length - i := by rw [List.length_drop, hcl]
      refine fin _ b cap c2 te ee he (.inl ⟨cap, e1⟩) ⟨t.os, t.tape, t.output, t.size, fun x hx q => t.block x hx fun e => q ⟨cap, by rw [e]; exact e1⟩⟩ b1 (by rw [b2, a2, hsz]) hroom e3 fun j y hy => ?_
      rw [insL_get hi] at hy
      split at hy
      · rename_i h1
        rw [b4 j (.inl h1), a4 j (.inl (by omega))]
        exact hcv j y hy
      · split at hy
        · rename_i h1 h2
          subst h2
          cases hy
          rw [b3 j (Nat.le_refl _) (by simp) (by rw [a2]; omega), Nat.sub_self]
          rfl
        · rename_i h1 h2
          have hjl : j - 1 < L.length := (List.getElem?_eq_some_iff.1 hy).1
          rw [b4 j (.inr (by simp; omega)), a3 j (by omega) (by rw [hdl]; omega) (by omega), List.getElem?_drop, show i + (j - (i + 1)) = j - 1 by omega, hcj _ (by omega)]
          exact hcv _ y hy
    · obtain rfl : i = L.length := by omega
      refine (Any2.slices_Insert_int_end_room Try.laysNm221 b 0 L.length cap vb voff 1 vc [.int .i64 x] w (by omega) hroom e3' rfl (fun j hj => by rw [Nat.zero_add]; exact hsome _ (by omega)) (fun j hj => by rw [Nat.zero_add]; exact hfz _) hvs2 (fun v hv => by simp at hv; subst hv; rfl)).mono fun ee w' ⟨he, hw⟩ => ?_
      rw [Nat.zero_add] at hw
      obtain ⟨c1, a1, a2, a3, a4, a5⟩ := sets_ok b [Value.int .i64 x] L.length w cur te (0, 0) hbk
      rw [← hw] at a1 a5
      refine fin _ b cap c1 te ee he (.inl ⟨cap, e1⟩) ⟨a5.os, a5.tape, a5.output, a5.size, fun x hx q => a5.block x hx fun e => q ⟨cap, by rw [e]; exact e1⟩⟩ a1 (by rw [a2, hsz]) hroom e3 fun j y hy => ?_
      rw [insL_get hi] at hy
      split at hy
      · rename_i h1
        rw [a4 j (.inl h1)]
        exact hcv j y hy
      · split at hy
        · rename_i h1 h2
          subst h2
          cases hy
          rw [a3 _ (Nat.le_refl _) (by simp) (by omega), Nat.sub_self]
          rfl
        · rename_i h1 h2
          have hjl : j - 1 < L.length := (List.getElem?_eq_some_iff.1 hy).1
          omega
  · -- a new row
    have hcapl : cap = L.length := by omega
    subst hcapl
    obtain ⟨cs, hcl, hcsL, hbase⟩ : ∃ cs : List Value, cs.length = L.length ∧ (∀ (j : Nat) y, L[j]? = some y → cs[j]? = some (.int .i64 y)) ∧ (∀ b, a = some b → ∃ b0, b = ⟨b0, 0, none⟩ ∨ L.length = 0) ∧ (a = none → L.length = 0) ∧ (∀ ad, a = some ad → ∀ (j : Nat) v, cs[j]? = some v → w.cell? (ad.add j) = some v) ∧ ∀ v ∈ cs, v.oneCell' = true := by
      refine ⟨L.map (.int .i64), by simp, fun j y hy => by simp [hy], fun b hb => ?_, fun hn => ?_, fun ad had j v hj => ?_, fun v hv => ?_⟩
      · cases ob with
        | none => exact ⟨0, .inr (e5 rfl)⟩
        | some b0 => exact ⟨b0, .inl (by have := hadr b0 rfl; rw [hb] at this; exact Option.some.inj this)⟩
      · cases ob with
        | none => exact e5 rfl
        | some b0 => have := hadr b0 rfl; rw [hn] at this; cases this
      · cases ob with
        | none =>
          have := (List.getElem?_eq_some_iff.1 hj).1
          have h0 := e5 rfl
          simp at this
          omega
        | some b0 =>
          have h1 := hadr b0 rfl
          rw [had] at h1
          cases h1
          obtain ⟨hlive, cur, te, cs, hbk, hsz, hcs, hcl, hcj, hc1, hcell⟩ := hrow b0 rfl
          rw [List.getElem?_map] at hj
          cases hy : L[j]? with
          | none => rw [hy] at hj; cases hj
          | some y =>
            rw [hy] at hj
            cases hj
            obtain ⟨u, u1, u2⟩ := hcell j _ 0 _ (mapC_get in1 hy) rfl
            rw [Nat.one_mul, Nat.add_zero] at u1
            cases u2
            rw [Addr.add_lit, Nat.zero_add]
            simp [World.cell?, hbk, u1]
      · simp only [List.mem_map] at hv
        obtain ⟨y, _, rfl⟩ := hv
        rfl
    obtain ⟨hb1, hb2, hb3, hc1⟩ := hbase
    rcases Nat.lt_or_ge i L.length with hlt | hge
    · obtain ⟨ad, rfl⟩ : ∃ ad, a = some ad := by
        cases a with
        | none => have := hb2 rfl; omega
        | some ad => exact ⟨ad, rfl⟩
      obtain ⟨b0, hb0 | hb0⟩ := hb1 ad rfl
      case inr => omega
      subst hb0
      refine (Any2.slices_Insert_int_grow Try.laysNm221 b0 0 L.length L.length i vb voff 1 vc cs [.int .i64 x] w hlt (by omega) (Nat.le_refl _) (by omega) (by omega) hcl rfl (fun j v hj => by have := hb3 _ rfl j v hj; rwa [Addr.add_lit] at this) hvs2 hc1 (fun v hv => by simp at hv; subst hv; rfl)).mono fun ee w' ⟨he, hw⟩ => ?_
      have hg1 := grownCap_ge w (L.length + 1) L.length (Try.laysNm221_ren.t 3)
      have hg2 := grownCap_le_maxLen w (L.length + 1) L.length (Try.laysNm221_ren.t 3) (by unfold maxLen; omega)
      obtain ⟨C, hC⟩ : ∃ C, grownCap w (L.length + 1) L.length (Try.laysNm221_ren.t 3) = C := ⟨_, rfl⟩
      rw [hC] at he hg1 hg2 hw
      obtain ⟨row, hrw⟩ : ∃ row : Array Value, row = (cs.take i).toArray ++ Builtin.zeroCells (Value.int .i64 0).cells (L.length + 1 - i) ++ Builtin.zeroCells (Value.int .i64 0).cells (C - (L.length + 1)) := ⟨_, rfl⟩
      have hrs : row.size = C := by rw [hrw, Array.size_append, Array.size_append, hzc, hzc]; simp; omega
      have hrl : ∀ j, j < i → row[j]? = cs[j]? := fun j hj => by
        rw [hrw, Array.append_assoc, Array.getElem?_append_left (by simp; omega), List.getElem?_toArray, List.getElem?_take, if_pos hj]
      rw [← hrw] at hw
      have h0 : (w.alloc (.cells row (Try.laysNm221_ren.t 3))).drew.heap[w.heap.size]? = some (.cells row (Try.laysNm221_ren.t 3) (0, 0)) := heap_alloc_new w _
      obtain ⟨c1, a1, a2, a3, a4, a5⟩ := sets_ok w.heap.size [Value.int .i64 x] i (w.alloc (.cells row (Try.laysNm221_ren.t 3))).drew row _ (0, 0) h0
      have h0' : ((w.alloc (.cells row (Try.laysNm221_ren.t 3))).drew.setCells w.heap.size i [Value.int .i64 x]).drew.heap[w.heap.size]? = some (.cells c1 (Try.laysNm221_ren.t 3) (0, 0)) := a1
      obtain ⟨c2, b1, b2, b3, b4, b5⟩ := sets_ok w.heap.size (cs.drop i) (i + 1) _ c1 _ (0, 0) h0'
      rw [← hw] at b1 b5
      have t : Keeps (fun x => x = w.heap.size) w w' := by
        have t1 : Keeps (fun x => x = w.heap.size) w (w.alloc (.cells row (Try.laysNm221_ren.t 3))).drew := ⟨rfl, rfl, rfl, by simp, fun x hx _ => by first | exact heap_alloc_old _ _ hx | exact heap_alloc_old _ _ _ hx⟩
        have t2 : Keeps (fun x => x = w.heap.size) ((w.alloc (.cells row (Try.laysNm221_ren.t 3))).drew.setCells w.heap.size i [Value.int .i64 x]) ((w.alloc (.cells row (Try.laysNm221_ren.t 3))).drew.setCells w.heap.size i [Value.int .i64 x]).drew := ⟨rfl, rfl, rfl, Nat.le_refl _, fun _ _ _ => rfl⟩
        exact t1.trans (a5.trans (t2.trans b5 fun _ _ q => q) fun _ _ q => q) fun _ _ q => q
      have hdl : (cs.drop i).length = L.length - i := by rw [List.length_drop, hcl]
      refine fin _ w.heap.size C c2 _ ee he (.inr (Nat.le_refl _)) ⟨t.os, t.tape, t.output, t.size, fun x hx _ => t.block x hx (by omega)⟩ b1 (by rw [b2, a2, hrs]) hg1 hg2 fun j y hy => ?_
      rw [insL_get hi] at hy
      split at hy
      · rename_i h1
        rw [b4 j (.inl (by omega)), a4 j (.inl h1), hrl j h1]
        exact hcsL j y hy
      · split at hy
        · rename_i h1 h2
          subst h2
          cases hy
          rw [b4 j (.inl (by omega)), a3 _ (Nat.le_refl _) (by simp) (by omega), Nat.sub_self]
          rfl
        · rename_i h1 h2
          have hjl : j - 1 < L.length := (List.getElem?_eq_some_iff.1 hy).1
          rw [b3 j (by omega) (by rw [hdl]; omega) (by omega), List.getElem?_drop, show i + (j - (i + 1)) = j - 1 by omega]
          exact hcsL _ y hy
    · obtain rfl : i = L.length := by omega
      refine (Any2.slices_Insert_int_end_grow Try.laysNm221 a L.length L.length vb voff 1 vc cs [.int .i64 x] w (by omega) (Nat.le_refl _) (by omega) (by omega) hcl rfl hb2 hb3 hvs2 (fun v hv => by simp at hv; subst hv; rfl)).mono fun ee w' ⟨he, hw⟩ => ?_
      have hg1 := grownCap_ge w (L.length + 1) L.length (Try.laysNm221_ren.t 3)
      have hg2 := grownCap_le_maxLen w (L.length + 1) L.length (Try.laysNm221_ren.t 3) (by unfold maxLen; omega)
      obtain ⟨C, hC⟩ : ∃ C, grownCap w (L.length + 1) L.length (Try.laysNm221_ren.t 3) = C := ⟨_, rfl⟩
      rw [hC] at he hg1 hg2 hw
      subst hw
      refine fin _ w.heap.size C _ _ ee he (.inr (Nat.le_refl _)) ((hdrew _).trans (Keeps.alloc _ _ _) (fun _ _ q => q)) (heap_alloc_new w.drew _) ?_ hg1 hg2 fun j y hy => ?_
      · rw [Array.size_append, hzc]; simp; omega
      · have hjl : j < L.length + 1 := by rw [← insL_len hi x]; exact (List.getElem?_eq_some_iff.1 hy).1
        rw [Array.getElem?_append_left (by simp; omega), List.getElem?_toArray, List.getElem?_append, hcl]
        rw [insL_get hi] at hy
        split at hy
        · rename_i h1
          rw [if_pos h1]
          exact hcsL j y hy
        · split at hy
          · rename_i h1 h2
            subst h2
            cases hy
            rw [if_neg (by omega), Nat.sub_self]
            rfl
          · omega
end Go.Proofs.Ytdodiembhgjecaa
