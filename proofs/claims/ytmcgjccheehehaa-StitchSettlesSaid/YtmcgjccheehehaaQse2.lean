/-
  The parts EngB of the proof, in one file. Conditions: none.
-/
import Derived.Test.YtmcgjccheehehaaQse1
namespace Go.Eng
set_option linter.unusedVariables false
set_option linter.unusedSimpArgs false
theorem gc_cons_ne {k j : Nat} {c : Chunk} {r : CH} (h : k ≠ j) : gc ((k, c) :: r) j = gc r j := by simp [gc, h]
theorem gc_cons_same {k : Nat} {c : Chunk} {r : CH} : gc ((k, c) :: r) k = c := by simp [gc]
/-- A chunk stays what it is while its own block is left alone. -/
theorem Chunk.sat_mono {h h' : HP} {ρ ρ' : RO} {w w' : World} {k : Nat} {c : Chunk} (hh : HLe h h') (hr : RLe ρ ρ')
    (hw : ∀ g b x, c.gen = some g → ρ k g = some (some b, x) → w'.heap[b]? = w.heap[b]?) (s : c.sat h ρ w k) : c.sat h' ρ' w' k := by
  cases c with
  | no => trivial
  | bx cs =>
    obtain ⟨b, c, vs, e, h1, h2, h3, h4⟩ := s
    exact ⟨b, c, vs, e, hr _ _ _ h1, by rw [hw 0 b c rfl h1]; exact h2, h3, fun j α v a1 a2 => (h4 j α v a1 a2).mono hh hr⟩
  | rw g n l =>
    obtain ⟨ob, cap, h1, h2, h2', h3, h4, h5⟩ := s
    refine ⟨ob, cap, hr _ _ _ h1, h2, h2', h3, h4, fun b hb => ?_⟩
    subst hb
    obtain ⟨vs, e, a1, a2, a3⟩ := h5 b rfl
    exact ⟨vs, e, by rw [hw g b cap rfl h1]; exact a1, a2, fun j x q α y1 y2 => let ⟨u, z1, z2⟩ := a3 j x q α y1 y2; ⟨u, z1, z2.mono hh⟩⟩
  | sh g n l =>
    obtain ⟨ob, cap, h1, h2, h2', h3, h4, h5⟩ := s
    refine ⟨ob, cap, hr _ _ _ h1, h2, h2', h3, h4, fun b hb => ?_⟩
    obtain ⟨vs, e, fr, a1, a3⟩ := h5 b hb
    exact ⟨vs, e, fr, hh _ _ a1, fun j x q α y1 y2 => let ⟨u, z1, z2⟩ := a3 j x q α y1 y2; ⟨u, z1, z2.mono hh⟩⟩
  | mp l =>
    obtain ⟨b, c, es, clock, h1, h2, h3, h4⟩ := s
    exact ⟨b, c, es, clock, hr _ _ _ h1, by rw [hw 0 b c rfl h1]; exact h2, h3, fun j x α a1 => let ⟨u, born, z1, z2⟩ := h4 j x α a1; ⟨u, born, z1, z2.mono hh⟩⟩
  | ro cs =>
    obtain ⟨b, c, vs, e, fr, h1, h2, h3, h4⟩ := s
    exact ⟨b, c, vs, e, fr, hr _ _ _ h1, hh _ _ h2, h3, fun j α v a1 a2 => (h4 j α v a1 a2).mono hh⟩
/-- Only the heap counts. -/
theorem SatH.heap {h : HP} {ρ : RO} {hp : CH} {n : Nat} {w w' : World} (m : SatH h ρ hp n w) (e : w'.heap = w.heap) : SatH h ρ hp n w' :=
  ⟨fun b o x => by rw [e]; exact m.hh b o x, fun k => Chunk.sat_mono (HLe.refl _) (RLe.refl _) (fun _ _ _ _ _ => by rw [e]) (m.ch k), m.inj, m.hid, fun b hb => by rw [e]; exact m.lt b hb, m.fr, m.gens⟩
/-- One chunk is laid anew. -/
theorem SatH.put {h : HP} {ρ ρ' : RO} {hp : CH} {n n' : Nat} {w w' : World} (m : SatH h ρ hp n w) (k : Nat) (c' : Chunk)
    (hr : RLe ρ ρ') (hne : ∀ k' g, k' ≠ k → ρ' k' g = ρ k' g)
    (hw : ∀ b, b < w.heap.size → (h b ≠ none ∨ ∃ k' g c, k' ≠ k ∧ (gc hp k').gen = some g ∧ ρ k' g = some (some b, c)) → w'.heap[b]? = w.heap[b]?)
    (hsz : w.heap.size ≤ w'.heap.size)
    (hs : c'.sat h ρ' w' k)
    (hb : ∀ g b c, c'.gen = some g → ρ' k g = some (some b, c) → h b = none ∧ b < w'.heap.size ∧ ∀ k' g' c2, k' ≠ k → (gc hp k').gen = some g' → ρ k' g' ≠ some (some b, c2))
    (hfr : ∀ k' g, n' ≤ k' → ρ' k' g = none)
    (hg : ∀ g mm l g' x, c' = .rw g mm l → ρ' k g' = some x → g' ≤ g) : SatH h ρ' ((k, c') :: hp) n' w' := by
  have hlt : ∀ b o, h b = some o → b < w.heap.size := fun b o e => (Array.getElem?_eq_some_iff.1 (m.hh b o e)).1
  refine ⟨fun b o e => ?_, fun k' => ?_, fun k1 k2 g1 g2 b c1 c2 e1 e2 r1 r2 => ?_, fun b hl => ?_, fun b hl => ?_, hfr, fun k1 g g' mm l x e r => ?_⟩
  · rw [hw b (hlt b o e) (.inl (by simp [e]))]
    exact m.hh b o e
  · by_cases hk : k = k'
    · subst hk
      rw [gc_cons_same]
      exact hs
    · rw [gc_cons_ne hk]
      refine Chunk.sat_mono (HLe.refl _) hr (fun g b x e r => ?_) (m.ch k')
      exact hw b (m.lt b ⟨k', g, x, e, r⟩) (.inr ⟨k', g, x, fun e => hk e.symm, e, r⟩)
  · by_cases h1 : k = k1
    · subst h1
      by_cases h2 : k = k2
      · exact h2
      · rw [gc_cons_same] at e1
        rw [gc_cons_ne h2] at e2
        rw [hne k2 g2 (fun e => h2 e.symm)] at r2
        exact absurd r2 ((hb g1 b c1 e1 r1).2.2 k2 g2 c2 (fun e => h2 e.symm) e2)
    · rw [gc_cons_ne h1] at e1
      rw [hne k1 g1 (fun e => h1 e.symm)] at r1
      by_cases h2 : k = k2
      · subst h2
        rw [gc_cons_same] at e2
        exact absurd r1 ((hb g2 b c2 e2 r2).2.2 k1 g1 c1 (fun e => h1 e.symm) e1)
      · rw [gc_cons_ne h2] at e2
        rw [hne k2 g2 (fun e => h2 e.symm)] at r2
        exact m.inj k1 k2 g1 g2 b c1 c2 e1 e2 r1 r2
  · obtain ⟨k1, g, c, e, r⟩ := hl
    by_cases h1 : k = k1
    · subst h1
      rw [gc_cons_same] at e
      exact (hb g b c e r).1
    · rw [gc_cons_ne h1] at e
      rw [hne k1 g (fun e => h1 e.symm)] at r
      exact m.hid b ⟨k1, g, c, e, r⟩
  · obtain ⟨k1, g, c, e, r⟩ := hl
    by_cases h1 : k = k1
    · subst h1
      rw [gc_cons_same] at e
      exact (hb g b c e r).2.1
    · rw [gc_cons_ne h1] at e
      rw [hne k1 g (fun e => h1 e.symm)] at r
      exact Nat.lt_of_lt_of_le (m.lt b ⟨k1, g, c, e, r⟩) hsz
  · by_cases h1 : k = k1
    · subst h1
      rw [gc_cons_same] at e
      exact hg g mm l g' x e r
    · rw [gc_cons_ne h1] at e
      rw [hne k1 g' (fun e => h1 e.symm)] at r
      exact m.gens k1 g g' mm l x e r
/-- ρ with one entry more. -/
def rset (ρ : RO) (k g : Nat) (x : Option Nat × Nat) : RO := fun k' g' => if k' = k ∧ g' = g then some x else ρ k' g'
theorem rset_same (ρ : RO) (k g : Nat) (x : Option Nat × Nat) : rset ρ k g x k g = some x := by simp [rset]
theorem rset_le {ρ : RO} {k g : Nat} (x : Option Nat × Nat) (hn : ρ k g = none) : RLe ρ (rset ρ k g x) := fun k' g' y e => by
  unfold rset
  by_cases h : k' = k ∧ g' = g
  · obtain ⟨rfl, rfl⟩ := h
    rw [hn] at e
    cases e
  · rw [if_neg h]
    exact e
theorem rset_ne {ρ : RO} {k g k' : Nat} (g' : Nat) (x : Option Nat × Nat) (h : k' ≠ k) : rset ρ k g x k' g' = ρ k' g' := by simp [rset, h]
/-- What was free is free still, but for k0. -/
def Fr (ρ ρ' : RO) (k0 : Nat) : Prop := ∀ k, k ≠ k0 → (∀ g, ρ k g = none) → ∀ g, ρ' k g = none
theorem Fr.refl (ρ : RO) (k0 : Nat) : Fr ρ ρ k0 := fun _ _ h => h
theorem Fr.new (ρ : RO) (k0 g : Nat) (x : Option Nat × Nat) : Fr ρ (rset ρ k0 g x) k0 := fun k hk h g' => by rw [rset_ne _ _ hk]; exact h g'
theorem Fr.old {ρ : RO} {k g1 : Nat} {y : Option Nat × Nat} (hy : ρ k g1 = some y) (k0 g : Nat) (x : Option Nat × Nat) : Fr ρ (rset ρ k g x) k0 := fun k' hk h g' => by
  have : k' ≠ k := fun e => by subst e; rw [h g1] at hy; cases hy
  rw [rset_ne _ _ this]; exact h g'
/-- A new block for a new chunk. -/
theorem SatH.new {h : HP} {ρ : RO} {hp : CH} {n : Nat} {w : World} (m : SatH h ρ hp n w) {k0 : Nat} (hk0 : ∀ g, ρ k0 g = none) (c' : Chunk) (o : Obj) (cap : Nat)
    (hg0 : c'.gen = some 0)
    (hs : c'.sat h (rset ρ k0 0 (some w.heap.size, cap)) (w.alloc o) k0) :
    SatH h (rset ρ k0 0 (some w.heap.size, cap)) ((k0, c') :: hp) (max n (k0 + 1)) (w.alloc o) ∧ RLe ρ (rset ρ k0 0 (some w.heap.size, cap)) := by
  have hn : ρ k0 0 = none := hk0 0
  refine ⟨m.put k0 c' (rset_le _ hn) (fun k' g hk => rset_ne _ _ hk) (fun b hb _ => heap_alloc_old w o b hb) (by simp) hs ?_ ?_ ?_, rset_le _ hn⟩
  · intro g b c hg hr
    rw [hg0] at hg
    cases hg
    rw [rset_same] at hr
    cases hr
    refine ⟨?_, by simp, fun k' g' c2 hk hg' hr => ?_⟩
    · cases hb : h w.heap.size with
      | none => rfl
      | some o =>
        have := m.hh _ _ hb
        simp at this
    · have := m.lt _ ⟨k', g', c2, hg', hr⟩
      omega
  · intro k' g hk
    rw [rset_ne _ _ (by omega)]
    exact m.fr k' g (by omega)
  · intro g mm l g' x e hx
    subst e
    simp [Chunk.gen] at hg0
    subst hg0
    by_cases h0 : g' = 0
    · omega
    · unfold rset at hx
      rw [if_neg (by omega)] at hx
      rw [hk0 g'] at hx
      cases hx
/-- The elements of a slice. -/
def sl (hp : CH) : AV → Option (List (List AV))
  | .ds l => some l
  | .e0 => some []
  | .rw k g len => match gc hp k with
    | .rw g' n l => if g = g' ∧ len ≤ l.length then some (l.take len) else none
    | .sh g' n l => if g = g' ∧ len ≤ l.length then some (l.take len) else none
    | _ => none
  | _ => none
theorem take_get {α : Type} {l : List α} {n j : Nat} {x : α} (h : (l.take n)[j]? = some x) : l[j]? = some x ∧ j < n := by
  rw [List.getElem?_take] at h
  split at h
  · exact ⟨h, by assumption⟩
  · cases h
/-- What a slice's elements are in memory. -/
theorem sl_read {h : HP} {ρ : RO} {hp : CH} {n : Nat} {w : World} (m : SatH h ρ hp n w) {α : AV} {v : Value} (r : Rel h ρ α v) {l : List (List AV)} (hl : sl hp α = some l) :
    ∃ a cap, v = .slice a l.length cap ∧ l.length ≤ cap ∧ ∃ q0, (∀ (j : Nat) e, l[j]? = some e → e.length = q0) ∧
      (l ≠ [] → ∃ b o, a = some ⟨b, o, none⟩ ∧ ∀ (j : Nat) e (q : Nat) x, l[j]? = some e → e[q]? = some x → ∃ u, w.cell? ⟨b, o + q0 * j + q, none⟩ = some u ∧ PRel h x u) := by
  cases α with
  | ds l' =>
    simp only [sl, Option.some.injEq] at hl
    subst hl
    cases r with
    | pu _ _ p =>
      cases p with
      | ds _ q0 a cap us hc hn hp' hm =>
        refine ⟨a, cap, rfl, hc, q0, hn, fun hne => ?_⟩
        obtain ⟨b, o, ea, hx⟩ := hm hne
        refine ⟨b, o, ea, fun j e q x h1 h2 => ⟨us j q, ?_, hp' j e q x h1 h2⟩⟩
        have := hx j e q x h1 h2
        unfold cellAt at this
        cases hb : h b with
        | none => simp [hb] at this
        | some ob =>
          have hb' := m.hh b ob hb
          rw [hb] at this
          cases ob <;> simp at this
          simp [World.cell?, hb', this]
  | e0 =>
    simp only [sl, Option.some.injEq] at hl
    subst hl
    cases r with
    | pu _ _ p =>
      cases p with
      | e0 a => exact ⟨a, 0, rfl, Nat.le_refl _, 0, fun j e hj => by simp at hj, fun hne => absurd rfl hne⟩
  | rw k g len =>
    cases r with
    | pu _ _ p => cases p
    | rw _ _ _ cap a ob e hlc ha =>
      have hk := m.ch k
      simp only [sl] at hl
      cases hgc : gc hp k with
      | no => simp [hgc] at hl
      | bx cs => simp [hgc] at hl
      | mp l => simp [hgc] at hl
      | ro cs => simp [hgc] at hl
      | rw g' n' l' =>
        rw [hgc] at hl hk
        simp only at hl
        split at hl
        · rename_i hc
          obtain ⟨rfl, hle⟩ := hc
          simp only [Option.some.injEq] at hl
          subst hl
          obtain ⟨ob', cap', h1, h2, h2', h3, h4, h5⟩ := hk
          rw [e] at h1
          cases h1
          have hlen : (l'.take len).length = len := by rw [List.length_take]; omega
          refine ⟨a, cap, by rw [hlen], by omega, n', fun j x hj => h3 j x (take_get hj).1, fun hne => ?_⟩
          cases ob with
          | none =>
            have := h4 rfl
            have : len = 0 := by omega
            subst this
            simp at hne
          | some b =>
            obtain ⟨vs, ty, a1, a2, a3⟩ := h5 b rfl
            refine ⟨b, 0, ha b rfl, fun j x q y y1 y2 => ?_⟩
            obtain ⟨u, z1, z2⟩ := a3 j x q y (take_get y1).1 y2
            refine ⟨u, ?_, z2⟩
            simp [World.cell?, a1, z1]
        · cases hl
      | sh g' n' l' =>
        rw [hgc] at hl hk
        simp only at hl
        split at hl
        · rename_i hc
          obtain ⟨rfl, hle⟩ := hc
          simp only [Option.some.injEq] at hl
          subst hl
          obtain ⟨ob', cap', h1, h2, h2', h3, h4, h5⟩ := hk
          rw [e] at h1
          cases h1
          have hlen : (l'.take len).length = len := by rw [List.length_take]; omega
          refine ⟨a, cap, by rw [hlen], by omega, n', fun j x hj => h3 j x (take_get hj).1, fun hne => ?_⟩
          cases ob with
          | none =>
            have := h4 rfl
            have : len = 0 := by omega
            subst this
            simp at hne
          | some b =>
            obtain ⟨vs, ty, fr, a1, a3⟩ := h5 b rfl
            refine ⟨b, 0, ha b rfl, fun j x q y y1 y2 => ?_⟩
            obtain ⟨u, z1, z2⟩ := a3 j x q y (take_get y1).1 y2
            have hb := m.hh b _ a1
            refine ⟨u, ?_, z2⟩
            simp [World.cell?, hb, z1]
        · cases hl
  | _ => simp [sl] at hl
/-- The m cells that a pointer leads to. -/
def ldc (hp : CH) (m : Nat) : AV → Option (List AV)
  | .bx k off => match gc hp k with
    | .bx cs => if off + m ≤ cs.length then some ((cs.drop off).take m) else none
    | .ro cs => if off + m ≤ cs.length then some ((cs.drop off).take m) else none
    | _ => none
  | .ep α n i off => match sl hp α with
    | some l => match l[i]? with
      | some e => if e.length = n ∧ off + m ≤ e.length then some ((e.drop off).take m) else none
      | none => none
    | none => none
  | _ => none
theorem drop_take_get {α : Type} {l : List α} {o m q : Nat} {x : α} (h : ((l.drop o).take m)[q]? = some x) : l[o + q]? = some x ∧ q < m := by
  obtain ⟨h1, h2⟩ := take_get h
  rw [List.getElem?_drop] at h1
  exact ⟨h1, h2⟩
theorem ldc_read {h : HP} {ρ : RO} {hp : CH} {n : Nat} {w : World} (mm : SatH h ρ hp n w) {α : AV} {v : Value} (r : Rel h ρ α v) {m : Nat} {cs : List AV} (hl : ldc hp m α = some cs) :
    ∃ b o, v = .pointer (some ⟨b, o, none⟩) ∧ cs.length = m ∧ ∃ us : List Value, us.length = m ∧ (∀ (q : Nat) u, us[q]? = some u → w.cell? ⟨b, o + q, none⟩ = some u) ∧
      ∀ (q : Nat) x u, cs[q]? = some x → us[q]? = some u → Rel h ρ x u := by
  have fin : ∀ (b o : Nat) (cs : List AV), (∀ (q : Nat) x, cs[q]? = some x → ∃ u, w.cell? ⟨b, o + q, none⟩ = some u ∧ Rel h ρ x u) →
      ∃ us : List Value, us.length = cs.length ∧ (∀ (q : Nat) u, us[q]? = some u → w.cell? ⟨b, o + q, none⟩ = some u) ∧ ∀ (q : Nat) x u, cs[q]? = some x → us[q]? = some u → Rel h ρ x u := by
    intro b o cs
    induction cs generalizing o with
    | nil => intro _; exact ⟨[], rfl, fun q u hq => by simp at hq, fun q x u hq => by simp at hq⟩
    | cons c cs ih =>
      intro hx
      obtain ⟨u, hu, hr⟩ := hx 0 c rfl
      obtain ⟨us, e1, e2, e3⟩ := ih (o + 1) (fun q x hq => by
        obtain ⟨u, a1, a2⟩ := hx (q + 1) x (by simpa using hq)
        exact ⟨u, by rw [show o + 1 + q = o + (q + 1) by omega]; exact a1, a2⟩)
      refine ⟨u :: us, by simp [e1], fun q v hq => ?_, fun q x v hq hv => ?_⟩
      · cases q with
        | zero => simp at hq; subst hq; exact hu
        | succ q => rw [show o + (q + 1) = o + 1 + q by omega]; exact e2 q v (by simpa using hq)
      · cases q with
        | zero => simp at hq hv; subst hq; subst hv; exact hr
        | succ q => exact e3 q x v (by simpa using hq) (by simpa using hv)
  cases α with
  | bx k off =>
    cases r with
    | pu _ _ p => cases p
    | bx _ _ b c e =>
      have hk := mm.ch k
      simp only [ldc] at hl
      cases hgc : gc hp k with
      | bx xs =>
        rw [hgc] at hl hk
        simp only at hl
        split at hl
        · rename_i hle
          simp only [Option.some.injEq] at hl
          subst hl
          obtain ⟨b', c', vs, ty, h1, h2, h3, h4⟩ := hk
          rw [e] at h1
          cases h1
          have hlen : ((xs.drop off).take m).length = m := by rw [List.length_take, List.length_drop]; omega
          refine ⟨b, off, rfl, hlen, ?_⟩
          obtain ⟨us, e1, e2, e3⟩ := fin b off ((xs.drop off).take m) (fun q x hq => by
            obtain ⟨a1, a2⟩ := drop_take_get hq
            have hlt : off + q < vs.size := by rw [h3]; exact (List.getElem?_eq_some_iff.1 a1).1
            refine ⟨vs[off + q], by simp [World.cell?, h2, hlt], h4 _ _ _ a1 (by simp [hlt])⟩)
          exact ⟨us, by rw [e1, hlen], e2, e3⟩
        · cases hl
      | ro xs =>
        rw [hgc] at hl hk
        simp only at hl
        split at hl
        · rename_i hle
          simp only [Option.some.injEq] at hl
          subst hl
          obtain ⟨b', c', vs, ty, fr, h1, h2, h3, h4⟩ := hk
          rw [e] at h1
          cases h1
          have hlen : ((xs.drop off).take m).length = m := by rw [List.length_take, List.length_drop]; omega
          refine ⟨b, off, rfl, hlen, ?_⟩
          obtain ⟨us, e1, e2, e3⟩ := fin b off ((xs.drop off).take m) (fun q x hq => by
            obtain ⟨a1, a2⟩ := drop_take_get hq
            have hlt : off + q < vs.size := by rw [h3]; exact (List.getElem?_eq_some_iff.1 a1).1
            refine ⟨vs[off + q], by simp [World.cell?, mm.hh _ _ h2, hlt], .pu _ _ (h4 _ _ _ a1 (by simp [hlt]))⟩)
          exact ⟨us, by rw [e1, hlen], e2, e3⟩
        · cases hl
      | _ => rw [hgc] at hl; simp at hl
  | ep β n' i off =>
    cases r with
    | pu _ _ p => cases p
    | ep _ _ _ _ b o len cap rβ hi =>
      simp only [ldc] at hl
      cases hs : sl hp β with
      | none => simp [hs] at hl
      | some l =>
        rw [hs] at hl
        simp only at hl
        cases hli : l[i]? with
        | none => simp [hli] at hl
        | some e =>
          rw [hli] at hl
          simp only at hl
          split at hl
          · rename_i hc
            simp only [Option.some.injEq] at hl
            subst hl
            obtain ⟨a', cap', ev, _, q0, hq0, hm⟩ := sl_read mm rβ hs
            have hne : l ≠ [] := by intro e; subst e; simp at hli
            obtain ⟨b', o', ea, hx⟩ := hm hne
            injection ev with e1 e2 e3
            subst e1
            injection ea with ea
            injection ea with ea1 ea2 ea3
            subst ea1
            subst ea2
            have hq := hq0 i e hli
            have hlen : ((e.drop off).take m).length = m := by rw [List.length_take, List.length_drop]; omega
            refine ⟨b, o + n' * i + off, rfl, hlen, ?_⟩
            obtain ⟨us, e1, e2, e3⟩ := fin b (o + n' * i + off) ((e.drop off).take m) (fun q x hq => by
              obtain ⟨a1, a2⟩ := drop_take_get hq
              obtain ⟨u, z1, z2⟩ := hx i e (off + q) x hli a1
              refine ⟨u, ?_, .pu _ _ z2⟩
              have : q0 = n' := by omega
              subst this
              rw [show o + q0 * i + off + q = o + q0 * i + (off + q) by omega]
              exact z1)
            exact ⟨us, by rw [e1, hlen], e2, e3⟩
          · cases hl
  | _ => simp [ldc] at hl
end Go.Eng
