/-
  The parts EngJC of the proof, in one file. Conditions: none.
-/
import Derived.Test.YtgollgfifnmaaaaDoorCmP110
namespace Go.Eng
set_option linter.unusedVariables false
set_option linter.unusedSimpArgs false
section
variable {P : Program} {C : Ctx}
/-- Of a row one may know less. -/
theorem Sat.trunc {st : St} {h : HP} {ρ : RO} {a : Act} {w : World} {k g n len : Nat} {l : List (List AV)} (S0 : Sat C st h ρ a w) (hk : gc st.hp k = .rw g n l) (hle : len ≤ l.length) : Sat C ⟨st.env, (k, .rw g n (l.take len)) :: st.hp, st.n⟩ h ρ a w := by
  have own : ∀ j g', (gc ((k, Chunk.rw g n (l.take len)) :: st.hp) j).own g' → (gc st.hp j).own g' := fun j g' e => by
    by_cases hj : k = j
    · subst hj; rw [gc_cons_same] at e; rw [hk]; exact e
    · rw [gc_cons_ne hj] at e; exact e
  have hlv : ∀ b, live ρ ((k, Chunk.rw g n (l.take len)) :: st.hp) b → live ρ st.hp b := fun b ⟨j, g', c, e, r⟩ => ⟨j, g', c, own j g' e, r⟩
  refine ⟨S0.hle, S0.rle, S0.keep, fun b hb => S0.own b (hlv b hb), ⟨S0.mem.hh, fun j => ?_, fun j j' g1 g2 b c c' e1 e2 => S0.mem.inj j j' g1 g2 b c c' (own j g1 e1) (own j' g2 e2), fun b hb => S0.mem.hid b (hlv b hb), fun b hb => S0.mem.lt b (hlv b hb), S0.mem.fr, fun j g1 g2 x e r => ?_, S0.mem.gl⟩, S0.env, S0.size, S0.defers⟩
  · by_cases hj : k = j
    · subst hj
      rw [gc_cons_same]
      have hc := S0.mem.ch k
      rw [hk] at hc
      obtain ⟨ob, cap, h1, h2, h2', h3, h4, h5⟩ := hc
      refine ⟨ob, cap, h1, by rw [List.length_take]; omega, h2', fun j e he => h3 j e (take_get he).1, h4, fun b hb => ?_⟩
      obtain ⟨vs, e, z1, z2, z3⟩ := h5 b hb
      exact ⟨vs, e, z1, z2, fun j x q α g1 g2 => z3 j x q α (take_get g1).1 g2⟩
    · rw [gc_cons_ne hj]; exact S0.mem.ch j
  · by_cases hj : k = j
    · subst hj
      rw [gc_cons_same] at e
      exact S0.mem.gens k g1 g2 x (by rw [hk]; exact e) r
    · rw [gc_cons_ne hj] at e
      exact S0.mem.gens j g1 g2 x e r
/-- A row behind whose header something is laid: in place. -/
theorem Sat.push_in {env : EN} {hp : CH} {nn : Nat} {h : HP} {ρ ρ' : RO} {a a' : Act} {w w' : World} {k g n len : Nat} {l l2 : List (List AV)} {d : Option Nat} (S0 : Sat C ⟨env, hp, nn⟩ h ρ a w) (hk : gc hp k = .rw g n l)
    (S1 : Sat C ⟨EN.set env d (.rw k (g + 1) len), (k, .rw (g + 1) n (l ++ l2)) :: hp, nn⟩ h ρ' a' w') (hr : RLe ρ ρ')
    (hA : ρ' k (g + 1) = ρ k g) : Sat C ⟨EN.set env d (.rw k g len), (k, .rw g n (l ++ l2)) :: hp, nn⟩ h ρ a' w' := by
  have kn : k < nn := by
    rcases Nat.lt_or_ge k nn with q | q
    · exact q
    · have hc := S0.mem.ch k
      rw [hk] at hc
      obtain ⟨ob, cap, h1, _⟩ := hc
      rw [S0.mem.fr k g q] at h1
      cases h1
  have hck := S1.mem.ch k
  rw [gc_cons_same] at hck
  obtain ⟨ob, cap, r1, r2, r2', r3, r4, r5⟩ := hck
  -- slots
  have slot : ∀ t, t < C.N → some t ≠ d → ∃ v, a'.tmps[t]? = some v ∧ Rel h ρ (ge env t) v := fun t ht hd => by
    obtain ⟨v0, _, q0⟩ := S0.env t ht
    obtain ⟨v, q1, q2⟩ := S1.env t ht
    have e : ge (EN.set env d (.rw k (g + 1) len)) t = ge env t := by
      cases d with
      | none => rfl
      | some t0 =>
        have : ¬ t0 = t := fun e => hd (by rw [e])
        simp [EN.set, ge, this]
    rw [show ge (⟨EN.set env d (.rw k (g + 1) len), (k, .rw (g + 1) n (l ++ l2)) :: hp, nn⟩ : St).env t = ge env t from e] at q2
    exact ⟨v, q1, Rel.back hr q0 q2⟩
  have slotd : ∀ t, t < C.N → some t = d → ∃ v, a'.tmps[t]? = some v ∧ Rel h ρ' (.rw k (g + 1) len) v := fun t ht hd => by
    obtain ⟨v, q1, q2⟩ := S1.env t ht
    subst hd
    refine ⟨v, q1, ?_⟩
    have e : ge (EN.set env (some t) (.rw k (g + 1) len)) t = .rw k (g + 1) len := by simp [EN.set, ge]
    rw [show ge (⟨EN.set env (some t) (.rw k (g + 1) len), (k, .rw (g + 1) n (l ++ l2)) :: hp, nn⟩ : St).env t = _ from e] at q2
    exact q2
  have hne : ∀ j, j ≠ k → (gc hp j).sat h ρ w' j := fun j hj => by
    have h1 := S1.mem.ch j
    rw [gc_cons_ne (fun e => hj e.symm)] at h1
    exact Chunk.back hr (S0.mem.ch j) h1
  have ownI : ∀ j g' b c, (gc hp j).own g' → ρ j g' = some (some b, c) → j ≠ k → live ρ' ((k, .rw (g + 1) n (l ++ l2)) :: hp) b := fun j g' b c e r hj => ⟨j, g', c, by rw [gc_cons_ne (fun e => hj e.symm)]; exact e, hr _ _ _ r⟩
  rw [hA] at r1
  have own : ∀ j g', (gc ((k, Chunk.rw g n (l ++ l2)) :: hp) j).own g' → (gc hp j).own g' := fun j g' e => by
    by_cases hj : k = j
    · subst hj; rw [gc_cons_same] at e; rw [hk]; exact e
    · rw [gc_cons_ne hj] at e; exact e
  have hlv : ∀ b, live ρ ((k, Chunk.rw g n (l ++ l2)) :: hp) b → live ρ hp b := fun b ⟨j, g', c, e, r⟩ => ⟨j, g', c, own j g' e, r⟩
  refine ⟨S0.hle, S0.rle, S1.keep, fun b hb => S0.own b (hlv b hb), ⟨S1.mem.hh, fun j => ?_, fun j j' g1 g2 b c c' e1 e2 => S0.mem.inj j j' g1 g2 b c c' (own j g1 e1) (own j' g2 e2), fun b hb => S0.mem.hid b (hlv b hb), fun b hb => ?_, S0.mem.fr, fun j g1 g2 x e r => ?_, S1.mem.gl⟩, fun t ht => ?_, S1.size, S1.defers⟩
  · by_cases hj : k = j
    · subst hj
      rw [gc_cons_same]
      exact ⟨ob, cap, r1, r2, r2', r3, r4, r5⟩
    · rw [gc_cons_ne hj]; exact hne j (fun e => hj e.symm)
  · obtain ⟨j, g', c, e, r⟩ := hb
    by_cases hj : k = j
    · subst hj
      rw [gc_cons_same] at e
      cases e
      exact S1.mem.lt b ⟨k, g + 1, c, by rw [gc_cons_same]; rfl, by rw [hA]; exact r⟩
    · rw [gc_cons_ne hj] at e
      exact S1.mem.lt b (ownI j g' b c e r (fun e => hj e.symm))
  · by_cases hj : k = j
    · subst hj
      rw [gc_cons_same] at e
      exact S0.mem.gens k g1 g2 x (by rw [hk]; exact e) r
    · rw [gc_cons_ne hj] at e
      exact S0.mem.gens j g1 g2 x e r
  · by_cases hd : some t = d
    · obtain ⟨v, q1, q2⟩ := slotd t ht hd
      subst hd
      refine ⟨v, q1, ?_⟩
      have e : ge (EN.set env (some t) (.rw k g len)) t = .rw k g len := by simp [EN.set, ge]
      rw [show ge (⟨EN.set env (some t) (.rw k g len), (k, .rw g n (l ++ l2)) :: hp, nn⟩ : St).env t = _ from e]
      cases q2 with
      | pu _ _ p => cases p
      | rw _ _ _ cp aa ob2 f1 f2 f3 => exact .rw _ _ _ cp aa ob2 (by rw [← hA]; exact f1) f2 f3
    · obtain ⟨v, q1, q2⟩ := slot t ht hd
      refine ⟨v, q1, ?_⟩
      have e : ge (EN.set env d (.rw k g len)) t = ge env t := by
        cases d with
        | none => rfl
        | some t0 =>
          have : ¬ t0 = t := fun e => hd (by rw [e])
          simp [EN.set, ge, this]
      rw [show ge (⟨EN.set env d (.rw k g len), (k, .rw g n (l ++ l2)) :: hp, nn⟩ : St).env t = _ from e]
      exact q2
/-- The same, in a new block. -/
theorem Sat.push_new {env : EN} {hp : CH} {nn : Nat} {h : HP} {ρ ρ' : RO} {a a' : Act} {w w' : World} {k g n len : Nat} {l l2 : List (List AV)} {d : Option Nat} (S0 : Sat C ⟨env, hp, nn⟩ h ρ a w) (hk : gc hp k = .rw g n l)
    (S1 : Sat C ⟨EN.set env d (.rw k (g + 1) len), (k, .rw (g + 1) n (l ++ l2)) :: hp, nn⟩ h ρ' a' w') (hr : RLe ρ ρ')
    (hold : ∀ b, b < w.heap.size → w'.heap[b]? = w.heap[b]?) (hnew : ∀ b c, ρ' k (g + 1) = some (some b, c) → w.heap.size ≤ b) {k0 : Nat} (hfr : ∀ g, ρ k0 g = none) :
    ∃ ρ2, Fr ρ ρ2 k0 ∧ RLe ρ ρ2 ∧ Sat C ⟨EN.set env d (.rw k0 0 len), (k0, .rw 0 n (l ++ l2)) :: hp, max nn (k0 + 1)⟩ h ρ2 a' w' := by
  have kn : k < nn := by
    rcases Nat.lt_or_ge k nn with q | q
    · exact q
    · have hc := S0.mem.ch k
      rw [hk] at hc
      obtain ⟨ob, cap, h1, _⟩ := hc
      rw [S0.mem.fr k g q] at h1
      cases h1
  have hck := S1.mem.ch k
  rw [gc_cons_same] at hck
  obtain ⟨ob, cap, r1, r2, r2', r3, r4, r5⟩ := hck
  -- slots
  have slot : ∀ t, t < C.N → some t ≠ d → ∃ v, a'.tmps[t]? = some v ∧ Rel h ρ (ge env t) v := fun t ht hd => by
    obtain ⟨v0, _, q0⟩ := S0.env t ht
    obtain ⟨v, q1, q2⟩ := S1.env t ht
    have e : ge (EN.set env d (.rw k (g + 1) len)) t = ge env t := by
      cases d with
      | none => rfl
      | some t0 =>
        have : ¬ t0 = t := fun e => hd (by rw [e])
        simp [EN.set, ge, this]
    rw [show ge (⟨EN.set env d (.rw k (g + 1) len), (k, .rw (g + 1) n (l ++ l2)) :: hp, nn⟩ : St).env t = ge env t from e] at q2
    exact ⟨v, q1, Rel.back hr q0 q2⟩
  have slotd : ∀ t, t < C.N → some t = d → ∃ v, a'.tmps[t]? = some v ∧ Rel h ρ' (.rw k (g + 1) len) v := fun t ht hd => by
    obtain ⟨v, q1, q2⟩ := S1.env t ht
    subst hd
    refine ⟨v, q1, ?_⟩
    have e : ge (EN.set env (some t) (.rw k (g + 1) len)) t = .rw k (g + 1) len := by simp [EN.set, ge]
    rw [show ge (⟨EN.set env (some t) (.rw k (g + 1) len), (k, .rw (g + 1) n (l ++ l2)) :: hp, nn⟩ : St).env t = _ from e] at q2
    exact q2
  have hne : ∀ j, j ≠ k → (gc hp j).sat h ρ w' j := fun j hj => by
    have h1 := S1.mem.ch j
    rw [gc_cons_ne (fun e => hj e.symm)] at h1
    exact Chunk.back hr (S0.mem.ch j) h1
  have ownI : ∀ j g' b c, (gc hp j).own g' → ρ j g' = some (some b, c) → j ≠ k → live ρ' ((k, .rw (g + 1) n (l ++ l2)) :: hp) b := fun j g' b c e r hj => ⟨j, g', c, by rw [gc_cons_ne (fun e => hj e.symm)]; exact e, hr _ _ _ r⟩
  have hkk : ¬ k0 = k := fun e => by
    have hc := S0.mem.ch k
    rw [hk] at hc
    obtain ⟨ob, cap, h1, _⟩ := hc
    rw [← e, hfr g] at h1
    cases h1
  have hrl : RLe ρ (rset ρ k0 0 (ob, cap)) := rset_le _ (hfr 0)
  have old : ∀ j g' b c, (gc hp j).own g' → ρ j g' = some (some b, c) → b < w.heap.size := fun j g' b c e r => S0.mem.lt b ⟨j, g', c, e, r⟩
  have get : ∀ j g' b c, (gc ((k0, Chunk.rw 0 n (l ++ l2)) :: hp) j).own g' → rset ρ k0 0 (ob, cap) j g' = some (some b, c) → (j = k0 ∧ g' = 0 ∧ ob = some b) ∨ (j ≠ k0 ∧ (gc hp j).own g' ∧ ρ j g' = some (some b, c)) := fun j g' b c e r => by
    by_cases hj : k0 = j
    · subst hj
      rw [gc_cons_same] at e
      cases e
      rw [rset_same] at r
      cases r
      exact .inl ⟨rfl, rfl, rfl⟩
    · rw [gc_cons_ne hj] at e
      rw [rset_ne _ _ (fun e => hj e.symm)] at r
      exact .inr ⟨fun e => hj e.symm, e, r⟩
  have hob : ∀ b, ob = some b → w.heap.size ≤ b := fun b e => hnew b cap (by rw [r1, e])
  have lvn : ∀ b, ob = some b → live ρ' ((k, .rw (g + 1) n (l ++ l2)) :: hp) b := fun b e => ⟨k, g + 1, cap, by rw [gc_cons_same]; rfl, by rw [r1, e]⟩
  refine ⟨rset ρ k0 0 (ob, cap), Fr.new _ _ _ _, hrl, S0.hle, S0.rle.trans hrl, S1.keep, fun b hb => ?_, ⟨S1.mem.hh, fun j => ?_, fun j j' g1 g2 b c c' e1 e2 q1 q2 => ?_, fun b hb => ?_, fun b hb => ?_, fun j g' hj => ?_, fun j g1 g2 x e r => ?_, S1.mem.gl⟩, fun t ht => ?_, S1.size, S1.defers⟩
  · obtain ⟨j, g', c, e, r⟩ := hb
    rcases get j g' b c e r with ⟨_, _, q⟩ | ⟨_, q1, q2⟩
    · exact S1.own b (lvn b q)
    · exact S0.own b ⟨j, g', c, q1, q2⟩
  · by_cases hj : k0 = j
    · subst hj
      rw [gc_cons_same]
      exact ⟨ob, cap, rset_same _ _ _ _, r2, r2', r3, r4, r5⟩
    · rw [gc_cons_ne hj]
      by_cases hjk : j = k
      · subst hjk
        have hc := S0.mem.ch j
        rw [hk] at hc ⊢
        obtain ⟨ob', cap', h1, h2, h2', h3, h4, h5⟩ := hc
        refine ⟨ob', cap', hrl _ _ _ h1, h2, h2', h3, h4, fun b hb => ?_⟩
        obtain ⟨vs, e, z1, z2, z3⟩ := h5 b hb
        refine ⟨vs, e, ?_, z2, z3⟩
        rw [hold b (old j g b cap' (by rw [hk]; rfl) (by rw [h1, hb]))]
        exact z1
      · have hs := hne j hjk
        exact Chunk.sat_mono (HLe.refl _) hrl (fun _ _ _ _ _ => rfl) hs
  · rcases get j g1 b c e1 q1 with ⟨a1, a2, a3⟩ | ⟨a1, a2, a3⟩ <;> rcases get j' g2 b c' e2 q2 with ⟨b1, b2, b3⟩ | ⟨b1, b2, b3⟩
    · rw [a1, b1]
    · have := hob b a3; have := old j' g2 b c' b2 b3; omega
    · have := hob b b3; have := old j g1 b c a2 a3; omega
    · exact S0.mem.inj j j' g1 g2 b c c' a2 b2 a3 b3
  · obtain ⟨j, g', c, e, r⟩ := hb
    rcases get j g' b c e r with ⟨_, _, q⟩ | ⟨_, q1, q2⟩
    · exact S1.mem.hid b (lvn b q)
    · exact S0.mem.hid b ⟨j, g', c, q1, q2⟩
  · obtain ⟨j, g', c, e, r⟩ := hb
    rcases get j g' b c e r with ⟨_, _, q⟩ | ⟨_, q1, q2⟩
    · exact S1.mem.lt b (lvn b q)
    · have q := S0.mem.lt b ⟨j, g', c, q1, q2⟩
      have q' := hold b q
      rw [Array.getElem?_eq_getElem q] at q'
      exact (Array.getElem?_eq_some_iff.1 q').1
  · have hj : max nn (k0 + 1) ≤ j := hj
    rw [rset_ne _ _ (by omega)]
    exact S0.mem.fr j g' (show nn ≤ j by omega)
  · by_cases hj : k0 = j
    · subst hj
      rw [gc_cons_same] at e
      cases e
      by_cases h0 : g2 = 0
      · omega
      · unfold rset at r
        rw [if_neg (by omega), hfr g2] at r
        cases r
    · rw [gc_cons_ne hj] at e
      rw [rset_ne _ _ (fun e => hj e.symm)] at r
      exact S0.mem.gens j g1 g2 x e r
  · by_cases hd : some t = d
    · obtain ⟨v, q1, q2⟩ := slotd t ht hd
      subst hd
      refine ⟨v, q1, ?_⟩
      have e : ge (EN.set env (some t) (.rw k0 0 len)) t = .rw k0 0 len := by simp [EN.set, ge]
      rw [show ge (⟨EN.set env (some t) (.rw k0 0 len), (k0, .rw 0 n (l ++ l2)) :: hp, max nn (k0 + 1)⟩ : St).env t = _ from e]
      cases q2 with
      | pu _ _ p => cases p
      | rw _ _ _ cp aa ob2 f1 f2 f3 =>
        rw [r1] at f1
        cases f1
        exact .rw _ _ _ _ aa _ (rset_same _ _ _ _) f2 f3
    · obtain ⟨v, q1, q2⟩ := slot t ht hd
      refine ⟨v, q1, ?_⟩
      have e : ge (EN.set env d (.rw k0 0 len)) t = ge env t := by
        cases d with
        | none => rfl
        | some t0 =>
          have : ¬ t0 = t := fun e => hd (by rw [e])
          simp [EN.set, ge, this]
      rw [show ge (⟨EN.set env d (.rw k0 0 len), (k0, .rw 0 n (l ++ l2)) :: hp, max nn (k0 + 1)⟩ : St).env t = _ from e]
      exact q2.mono (HLe.refl _) hrl
/-- Only what stands under a number counts. -/
theorem Sat.congrC {env : EN} {hp hp' : CH} {nn : Nat} {h : HP} {ρ : RO} {a : Act} {w : World} (s : Sat C ⟨env, hp, nn⟩ h ρ a w) (e : ∀ j, gc hp' j = gc hp j) : Sat C ⟨env, hp', nn⟩ h ρ a w := by
  have hl : ∀ b, live ρ hp' b → live ρ hp b := fun b ⟨j, g, c, q, r⟩ => ⟨j, g, c, by rw [← e]; exact q, r⟩
  exact ⟨s.hle, s.rle, s.keep, fun b hb => s.own b (hl b hb), ⟨s.mem.hh, fun j => by rw [e j]; exact s.mem.ch j, fun j j' g g' b c c' q q' => s.mem.inj j j' g g' b c c' (by rw [← e]; exact q) (by rw [← e]; exact q'), fun b hb => s.mem.hid b (hl b hb), fun b hb => s.mem.lt b (hl b hb), s.mem.fr, fun j g g' x q r => s.mem.gens j g g' x (by rw [← e]; exact q) r, s.mem.gl⟩, s.env, s.size, s.defers⟩
/-- Another word on the same block. -/
theorem SatH.recastC {hp : CH} {nn : Nat} {h : HP} {ρ : RO} {w : World} {k : Nat} (m : SatH h ρ hp nn w) (c' : Chunk) (ho : ∀ g, c'.own g → (gc hp k).own g) (hg : c'.rgen = (gc hp k).rgen) (hs : c'.sat h ρ w k) : SatH h ρ ((k, c') :: hp) nn w := by
  have own : ∀ j g', (gc ((k, c') :: hp) j).own g' → (gc hp j).own g' := fun j g' e => by
    by_cases hj : k = j
    · subst hj; rw [gc_cons_same] at e; exact ho g' e
    · rw [gc_cons_ne hj] at e; exact e
  have hlv : ∀ b, live ρ ((k, c') :: hp) b → live ρ hp b := fun b ⟨j, g', c, e, r⟩ => ⟨j, g', c, own j g' e, r⟩
  refine ⟨m.hh, fun j => ?_, fun j j' g1 g2 b c c' e1 e2 => m.inj j j' g1 g2 b c c' (own j g1 e1) (own j' g2 e2), fun b hb => m.hid b (hlv b hb), fun b hb => m.lt b (hlv b hb), m.fr, fun j g1 g2 x e r => ?_, m.gl⟩
  · by_cases hj : k = j
    · subst hj; rw [gc_cons_same]; exact hs
    · rw [gc_cons_ne hj]; exact m.ch j
  · by_cases hj : k = j
    · subst hj
      rw [gc_cons_same] at e
      exact m.gens k g1 g2 x (by rw [← hg]; exact e) r
    · rw [gc_cons_ne hj] at e
      exact m.gens j g1 g2 x e r
theorem live_recastC {hp : CH} {ρ : RO} {k : Nat} {c' : Chunk} (ho : ∀ g, c'.own g → (gc hp k).own g) {b : Nat} (hb : live ρ ((k, c') :: hp) b) : live ρ hp b := by
  obtain ⟨j, g', c, e, r⟩ := hb
  refine ⟨j, g', c, ?_, r⟩
  by_cases hj : k = j
  · subst hj; rw [gc_cons_same] at e; exact ho g' e
  · rw [gc_cons_ne hj] at e; exact e
theorem Sat.recastC {env : EN} {hp : CH} {nn : Nat} {h : HP} {ρ : RO} {a : Act} {w : World} {k : Nat} (s : Sat C ⟨env, hp, nn⟩ h ρ a w) (c' : Chunk) (ho : ∀ g, c'.own g → (gc hp k).own g) (hg : c'.rgen = (gc hp k).rgen) (hs : c'.sat h ρ w k) : Sat C ⟨env, (k, c') :: hp, nn⟩ h ρ a w :=
  ⟨s.hle, s.rle, s.keep, fun b hb => s.own b (live_recastC ho hb), s.mem.recastC c' ho hg hs, s.env, s.size, s.defers⟩
theorem sat_rc_rw {h : HP} {ρ : RO} {w : World} {k g n cap len : Nat} {l : List (List AV)} (s : (Chunk.rc g n cap l).sat h ρ w k) (hle : len ≤ l.length) : (Chunk.rw g n (l.take len)).sat h ρ w k := by
  obtain ⟨ob, h1, h2, h2', h3, h4, h5⟩ := s
  refine ⟨ob, cap, h1, by rw [List.length_take]; omega, h2', fun j e he => h3 j e (take_get he).1, h4, fun b hb => ?_⟩
  obtain ⟨vs, e, z1, z2, z3⟩ := h5 b hb
  exact ⟨vs, e, z1, z2, fun j x q α g1 g2 => z3 j x q α (take_get g1).1 g2⟩
theorem sat_rw_rc {h : HP} {ρ : RO} {w : World} {k g n cap : Nat} {ob : Option Nat} {l : List (List AV)} (s : (Chunk.rw g n l).sat h ρ w k) (hr : ρ k g = some (ob, cap)) : (Chunk.rc g n cap l).sat h ρ w k := by
  obtain ⟨ob', cap', h1, hx⟩ := s
  rw [hr] at h1
  cases h1
  exact ⟨ob, hr, hx⟩
/-- An append behind a header of a row whose capacity is known. -/
theorem ap_coreC {P : Program} {C : Ctx} {st : St} {h : HP} {ρ : RO} {a : Act} {w : World} (S : Sat C st h ρ a w) {t u ty e : TypeId} {i : TypeInfo} {d : TypeDesc} {z : Value}
    (ht : P.underlying t = some (.slice e)) (hu : P.underlying u = some d) (hd : ∀ k, d ≠ .int k) (hi : P.info? e = some i) (hz : i.zero = some z) (hzs : z.cells.size = i.size)
    {x : AV} {xv yv : Value} (rx : Rel h ρ x xv) {l2 : List (List AV)} {news : List Value}
    (hlen : ∀ w' : World, w'.heap = w.heap → (Builtin.lenOf yv).run P w' = .ok l2.length w') (hnew : ∀ w' : World, w'.heap = w.heap → (Builtin.firstCells i.size l2.length yv).run P w' = .ok news.toArray w')
    (hnl : news.length = l2.length * i.size) (hne : ∀ e ∈ l2, e.length = i.size) (hcells : ∀ (j : Nat) e (q : Nat) x, l2[j]? = some e → e[q]? = some x → ∃ u, news[i.size * j + q]? = some u ∧ PRel h x u) (hone : ∀ v ∈ news, v.oneCell' = true)
    (hsz : (apLen x + l2.length) * i.bytes ≤ 140737488355328) (h63 : apLen x + l2.length ≤ 9223372036854775807) {k0 : Nat} (hk0 : ∀ g, ρ k0 g = none)
    {k g len cap : Nat} {l : List (List AV)} (hx : x = .rw k g len) (hk : gc st.hp k = .rc g i.size cap l) (hle : len ≤ l.length)
    {α : AV} {kc : Nat × Chunk} {nx' : Nat} (hap : (α, kc, nx') = if len + l2.length ≤ cap then (AV.rw k g (len + l2.length), (k, Chunk.rc g i.size cap (l.take len ++ l2)), st.n) else (AV.rw k0 0 (len + l2.length), (k0, Chunk.rw 0 i.size (l.take len ++ l2)), max st.n (k0 + 1))) :
    ∃ v w', (Builtin.append_ #[t, u] ty #[xv, yv]).run P w = .ok v w' ∧ ∀ dd, ∃ ρ', Fr ρ ρ' k0 ∧ Sat C ⟨EN.set st.env dd α, kc :: st.hp, nx'⟩ h ρ' (a.put dd v) w' ∧ RLe ρ ρ' := by
  obtain ⟨env, hp, nn⟩ := st
  have hk : gc hp k = .rc g i.size cap l := hk
  have hch := S.mem.ch k
  rw [show gc (⟨env, hp, nn⟩ : St).hp k = .rc g i.size cap l from hk] at hch
  have hch0 := hch
  obtain ⟨ob, r1, r2, r2', r3, r4, r5⟩ := hch0
  have S' : Sat C ⟨env, (k, .rw g i.size (l.take len)) :: hp, nn⟩ h ρ a w := S.recastC (k := k) (.rw g i.size (l.take len)) (fun g' e => by rw [hk]; exact e) (by rw [hk]; rfl) (sat_rc_rw hch hle)
  have hln : (l.take len).length = len := by rw [List.length_take]; omega
  obtain ⟨v, w', hrun, hsat⟩ := ap_coreN (nb := false) (P := P) S' (ty := ty) ht hu hd hi hz hzs rx hlen hnew hnl hne hcells hone hsz h63 hk0
    (α := .rw k (g + 1) (len + l2.length)) (kc := (k, .rw (g + 1) i.size (l.take len ++ l2))) (nx' := nn) (by
      subst hx
      simp only [apRN, gc_cons_same, rowK, hln, rowC]
      rfl)
  refine ⟨v, w', hrun, fun dd => ?_⟩
  obtain ⟨ρ1, hF1, S1, hO⟩ := hsat dd
  have hcp := hO.2 k g len ob cap hx r1
  by_cases hc : len + l2.length ≤ cap
  · rw [if_pos hc] at hap
    cases hap
    have S2 := S'.push_in gc_cons_same S1 hO.1 (hcp.1 hc)
    have hw := S2.mem.ch k
    rw [show gc (⟨EN.set env dd (.rw k g (len + l2.length)), (k, .rw g i.size (l.take len ++ l2)) :: (k, .rw g i.size (l.take len)) :: hp, nn⟩ : St).hp k = .rw g i.size (l.take len ++ l2) from gc_cons_same] at hw
    have S3 := S2.recastC (k := k) (.rc g i.size cap (l.take len ++ l2)) (fun g' e => by rw [gc_cons_same]; exact e) (by rw [gc_cons_same]; rfl) (sat_rw_rc hw r1)
    refine ⟨ρ, Fr.refl _ _, S3.congrC fun j => ?_, RLe.refl _⟩
    by_cases hj : k = j
    · subst hj; rw [gc_cons_same, gc_cons_same]
    · rw [gc_cons_ne hj, gc_cons_ne hj, gc_cons_ne hj, gc_cons_ne hj]
  · rw [if_neg hc] at hap
    cases hap
    obtain ⟨hold, hnew'⟩ := hcp.2 (by omega)
    obtain ⟨ρ2, hF2, hr2, S2⟩ := S'.push_new gc_cons_same S1 hO.1 hold hnew' hk0
    have hkk : ¬ k0 = k := fun e => by rw [← e, hk0 g] at r1; cases r1
    have hrc : (Chunk.rc g i.size cap l).sat h ρ2 w' k := by
      refine ⟨ob, hr2 _ _ _ r1, r2, r2', r3, r4, fun b hb => ?_⟩
      obtain ⟨vs, e, z1, z2⟩ := r5 b hb
      have hlt : b < w.heap.size := S.mem.lt b ⟨k, g, cap, by rw [show gc (⟨env, hp, nn⟩ : St).hp k = .rc g i.size cap l from hk]; rfl, by rw [r1, hb]⟩
      exact ⟨vs, e, by rw [hold b hlt]; exact z1, z2⟩
    have S3 := S2.recastC (k := k) (.rc g i.size cap l) (fun g' e => by rw [gc_cons_ne hkk, gc_cons_same]; exact e) (by rw [gc_cons_ne hkk, gc_cons_same]; rfl) hrc
    refine ⟨ρ2, hF2, S3.congrC fun j => ?_, hr2⟩
    by_cases hj : k = j
    · subst hj; rw [gc_cons_ne hkk, gc_cons_same, hk]
    · by_cases hj0 : k0 = j
      · subst hj0; rw [gc_cons_same, gc_cons_ne hj, gc_cons_same]
      · rw [gc_cons_ne hj0, gc_cons_ne hj, gc_cons_ne hj0, gc_cons_ne hj]
end
end Go.Eng
