/-
  The parts EngRH of the proof, in one file. Conditions: none.
-/
import Derived.Test.YtdodiembhgjecaaMc37
namespace Go.Eng
set_option linter.unusedVariables false
set_option linter.unusedSimpArgs false
/-- One of several outcomes. -/
def exQ {ι : Type} (φ : ι → Prop) (F : ι → CH → Nat → AV → Prop) (hp' : CH) (n' : Nat) (r' : AV) : Prop := ∃ i, φ i ∧ F i hp' n' r'
theorem exQ_of {ι : Type} {φ : ι → Prop} {F : ι → CH → Nat → AV → Prop} {hp' : CH} {n' : Nat} {r' : AV} (i : ι) (h : φ i) (h2 : F i hp' n' r') : exQ φ F hp' n' r' := ⟨i, h, h2⟩
theorem Meets.outI {P : Program} {f : FuncId} {hp : CH} {n : Nat} {args : List AV} {outs : Outs} {ι : Type} (φ : ι → Prop) (hpI : ι → CH) (rI : ι → AV) (h1 : ∀ i, φ i → ∀ k, k < n → gc (hpI i) k = gc hp k ∨ (gc (hpI i) k).lt1 n) (hfree : ∀ i, φ i → ∀ k, n ≤ k → gc (hpI i) k = .no)
    (m0 : Meets P f hp n args (exQ φ fun i => outF (hpI i) n outs (rI i))) : Meets P f hp n args (exQ φ fun i hp' n' r' => hp' = rowsAt n outs ++ hpI i ∧ n' = n + outs.length ∧ r' = rI i) := by
  refine ⟨m0.1, fun h ρ w vs hs ha => (m0.2 h ρ w vs hs ha).mono fun e w' ⟨v, he, h', ρ', hp', n', r', ⟨ix, hφ, e1, e2⟩, hh, hr, hm, hrel, hk, hl⟩ => ?_⟩
  have h1 := h1 ix hφ
  have hfree := hfree ix hφ
  obtain ⟨hp1, hp1e⟩ : ∃ x, hpI ix = x := ⟨_, rfl⟩
  obtain ⟨r, re⟩ : ∃ x, rI ix = x := ⟨_, rfl⟩
  rw [hp1e] at h1 hfree
  have e1 : Up n (hpI ix) (shX hp' (rcells (rI ix)) (rcells r')) := e1
  have e2 : fR (shX hp' (rcells (rI ix)) (rcells r')) n outs (rI ix) r' := e2
  rw [hp1e, re] at e1
  rw [re] at e2
  have e2 := fR_mt e2
  obtain ⟨h2, a1, a2, a3⟩ := shX_shut (E := rcells r) (A := rcells r') hm
  generalize shX hp' (rcells r) (rcells r') = hq at *
  obtain ⟨sel, M, rel⟩ := mtR_of a2 (hrel.mono a1 (RLe.refl _)) e2
  have hρ : RLe ρ (ρS ρ' n sel) := fun k g x hx => by
    rcases Nat.lt_or_ge k n with hkn | hkn
    · rw [ρS_lt hkn]; exact hr _ _ _ hx
    · rw [hs.fr k g hkn] at hx; cases hx
  -- what may be written
  have hgen : ∀ k g b c, (gc (rowsAt n outs ++ hp1) k).own g → ρS ρ' n sel k g = some (some b, c) → ∃ k2 g2, (gc hq k2).own g2 ∧ ρ' k2 g2 = some (some b, c) ∧ (k < n → k2 = k) ∧ (n ≤ k → ∃ i, k = n + i ∧ sel[i]? = some (some (k2, g2))) := by
    intro k g b c hg hx
    rcases Nat.lt_or_ge k n with hkn | hkn
    · rw [rowsAt_lt hkn] at hg
      rw [ρS_lt hkn] at hx
      exact ⟨k, g, by rw [e1 k hkn]; exact hg, hx, fun _ => rfl, fun h => by omega⟩
    · obtain ⟨i, rfl⟩ : ∃ i, k = n + i := ⟨k - n, by omega⟩
      rcases Nat.lt_or_ge i outs.length with hi | hi
      · have ho : outs[i]? = some outs[i] := List.getElem?_eq_getElem hi
        have hi' : i < sel.length := by rw [M.len]; exact hi
        have hsi : sel[i]? = some sel[i] := List.getElem?_eq_getElem hi'
        rw [rowsAt_get (m := outs[i].1) (l := outs[i].2) ho] at hg
        cases hg
        cases hx2 : sel[i] with
        | none =>
          rw [hx2] at hsi
          rw [ρS_none hsi] at hx
          cases hx
        | some p =>
          obtain ⟨k2, g2⟩ := p
          rw [hx2] at hsi
          rw [ρS_new hsi] at hx
          obtain ⟨_, m2, l2, _, q⟩ := M.ge i k2 g2 hsi
          exact ⟨k2, g2, by rw [q]; rfl, hx, fun h => by omega, fun _ => ⟨i, rfl, hsi⟩⟩
      · rw [rowsAt_ge (by omega), hfree _ (by omega)] at hg
        cases hg
  have hlive : ∀ b, live (ρS ρ' n sel) (rowsAt n outs ++ hp1) b → live ρ' hq b := fun b ⟨k, g, c, hg, hx⟩ => by
    obtain ⟨k2, g2, q1, q2, _⟩ := hgen k g b c hg hx
    exact ⟨k2, g2, c, q1, q2⟩
  refine ⟨v, he, h2, ρS ρ' n sel, _, _, r, ⟨ix, hφ, by rw [hp1e], rfl, re.symm⟩, hh.trans a1, hρ, ⟨a2.hh, fun k => ?_, fun k k' g g' b c c' q1 q2 q3 q4 => ?_, fun b hb => a2.hid b (hlive b hb), fun b hb => a2.lt b (hlive b hb), fun k g hk => ?_, fun k g g' x q1 q2 => ?_, a2.gl⟩, rel, hk, fun b hb => hl b (a3 b (hlive b hb))⟩
  · rcases Nat.lt_or_ge k n with hkn | hkn
    · rw [rowsAt_lt hkn]
      have s1 := a2.ch k
      rw [e1 k hkn] at s1
      rcases h1 k hkn with hu | hu
      · have s0 := hs.ch k
        rw [← hu] at s0
        exact Chunk.sat_mono (HLe.refl _) hρ (fun _ _ _ _ _ => rfl) (Chunk.back hr s0 s1)
      · cases hc : gc hp1 k with
        | no => trivial
        | bx cs =>
          rw [hc] at s1 hu
          obtain ⟨b, c, vs', ty, b1, b2, b3, b4⟩ := s1
          exact ⟨b, c, vs', ty, (ρS_lt hkn 0).trans b1, b2, b3, fun j α u x y => lt1_rel (hu α (List.mem_of_getElem? x)) (b4 j α u x y)⟩
        | rw g mm l =>
          rw [hc] at s1
          obtain ⟨ob, cap, b1, b2⟩ := s1
          exact ⟨ob, cap, (ρS_lt hkn g).trans b1, b2⟩
        | sh g mm l =>
          rw [hc] at s1
          obtain ⟨ob, cap, b1, b2⟩ := s1
          exact ⟨ob, cap, (ρS_lt hkn g).trans b1, b2⟩
        | rc g mm cap l =>
          rw [hc] at s1
          obtain ⟨ob, b1, b2⟩ := s1
          exact ⟨ob, (ρS_lt hkn g).trans b1, b2⟩
        | mp l =>
          rw [hc] at s1
          obtain ⟨b, c, es, cl, b1, b2⟩ := s1
          exact ⟨b, c, es, cl, (ρS_lt hkn 0).trans b1, b2⟩
        | mq F =>
          rw [hc] at s1
          obtain ⟨b, c, es, cl, b1, b2⟩ := s1
          exact ⟨b, c, es, cl, (ρS_lt hkn 0).trans b1, b2⟩
        | mr l sn =>
          rw [hc] at s1
          obtain ⟨b, c, es, cl, b1, q1, q2, q3, q4, b2, c2, sn2, g2, q5⟩ := s1
          exact ⟨b, c, es, cl, (ρS_lt hkn 0).trans b1, q1, q2, q3, q4, b2, c2, sn2, (ρS_lt hkn 1).trans g2, q5⟩
        | ro cs =>
          rw [hc] at s1
          obtain ⟨b, c, us, e, fr, b1, b2⟩ := s1
          exact ⟨b, c, us, e, fr, (ρS_lt hkn 0).trans b1, b2⟩
        | rn g mm l =>
          rw [hc] at s1 hu
          obtain ⟨ob, cap, b1, b2, b2', b3, b4, b5⟩ := s1
          refine ⟨ob, cap, (ρS_lt hkn g).trans b1, b2, b2', b3, b4, fun b hb => ?_⟩
          obtain ⟨vs', ty, c1, c2, c3⟩ := b5 b hb
          exact ⟨vs', ty, c1, c2, fun j x q α y1 y2 => let ⟨u, z1, z2⟩ := c3 j x q α y1 y2; ⟨u, z1, lt1_rel (hu x (List.mem_of_getElem? y1) α (List.mem_of_getElem? y2)) z2⟩⟩
        | sb T e g bs =>
          rw [hc] at s1
          obtain ⟨b, c, p, v, b1, b2, b3, b4, b5, ⟨y, b6⟩, b7⟩ := s1
          exact ⟨b, c, p, v, (ρS_lt hkn 0).trans b1, b2, b3, b4, b5, ⟨y, (ρS_lt hkn g).trans b6⟩, fun x hx => ⟨(b7 x hx).1, let ⟨c2, q⟩ := (b7 x hx).2; ⟨c2, (ρS_lt hkn g).trans q⟩⟩⟩
    · obtain ⟨i, rfl⟩ : ∃ i, k = n + i := ⟨k - n, by omega⟩
      rcases Nat.lt_or_ge i outs.length with hi | hi
      · have ho : outs[i]? = some outs[i] := List.getElem?_eq_getElem hi
        have hi' : i < sel.length := by rw [M.len]; exact hi
        have hsi : sel[i]? = some sel[i] := List.getElem?_eq_getElem hi'
        rw [rowsAt_get (m := outs[i].1) (l := outs[i].2) ho]
        cases hx2 : sel[i] with
        | none =>
          rw [hx2] at hsi
          obtain ⟨m2, q⟩ := M.no i hsi
          rw [ho] at q
          have q : outs[i] = (m2, []) := Option.some.inj q
          rw [q]
          exact ⟨none, 0, ρS_none hsi, by simp, by simp [maxLen], fun j e h => by simp at h, fun _ => rfl, fun b hb => by cases hb⟩
        | some p =>
          obtain ⟨k2, g2⟩ := p
          rw [hx2] at hsi
          obtain ⟨_, m2, l2, q1, q2⟩ := M.ge i k2 g2 hsi
          rw [ho] at q1
          have q1 : outs[i] = (m2, l2) := Option.some.inj q1
          have s1 := a2.ch k2
          rw [q2] at s1
          rw [q1]
          obtain ⟨ob, cap, b1, b2⟩ := s1
          exact ⟨ob, cap, (ρS_new hsi).trans b1, b2⟩
      · rw [rowsAt_ge (by omega), hfree _ (by omega)]
        trivial
  · obtain ⟨k2, g2, x1, x2, x3, x4⟩ := hgen k g b c q1 q3
    obtain ⟨k2', g2', y1, y2, y3, y4⟩ := hgen k' g' b c' q2 q4
    have e3 := a2.inj k2 k2' g2 g2' b c c' x1 y1 x2 y2
    subst e3
    rcases Nat.lt_or_ge k n with hkn | hkn <;> rcases Nat.lt_or_ge k' n with hkn' | hkn'
    · rw [← x3 hkn, ← y3 hkn']
    · obtain ⟨i, _, hs2⟩ := y4 hkn'
      have := (M.ge i k2 g2' hs2).1
      have := x3 hkn
      omega
    · obtain ⟨i, _, hs2⟩ := x4 hkn
      have := (M.ge i k2 g2 hs2).1
      have := y3 hkn'
      omega
    · obtain ⟨i, rfl, hs2⟩ := x4 hkn
      obtain ⟨j, rfl, hs3⟩ := y4 hkn'
      rw [M.inj i j k2 g2 g2' hs2 hs3]
  · have hkn : ¬ k < n := by omega
    have : sel[k - n]? = none := List.getElem?_eq_none (by rw [M.len]; omega)
    simp [ρS, hkn, this]
  · rcases Nat.lt_or_ge k n with hkn | hkn
    · rw [rowsAt_lt hkn] at q1
      rw [ρS_lt hkn] at q2
      exact a2.gens k g g' x (by rw [e1 k hkn]; exact q1) q2
    · by_cases hg : g' = 0
      · omega
      · have hkn' : ¬ k < n := by omega
        simp [ρS, hkn', hg] at q2
/-- A contract by which chunks of the caller are written, with one of several outcomes. -/
theorem meetsWI {P : Program} {f : FuncId} {fn : Func} {k : CC} {rs : List RS} {ι : Type} (φ : ι → Prop) (ws : ι → CH) (rI : ι → AV) (hf : P.funcs[f]? = some fn) (hnm : (fn.name == "runtime.NumGoroutine") = false)
    (hc : fn.body.bind (ccode P fn.ntmps) = some k.erase) (hrs : rsv P fn.ntmps fn.results.toList = some rs) {hp : CH} {n : Nat} {args : List AV} (hlen : Nat.ble args.length fn.ntmps = true)
    (hX : (∀ k, n ≤ k → gc hp k = .no) → ∀ i, φ i → wsLt n (ws i)) (hv : (∀ k, n ≤ k → gc hp k = .no) → vc P k ⟨argEnv 0 args, hp, n⟩ (endQ rs (exQ φ fun i => outF (ws i ++ hp) n [] (rI i)))) :
    Meets P f hp n args (exQ φ fun i hp' n' r' => hp' = ws i ++ hp ∧ n' = n ∧ r' = rI i) := by
  have hok := (by obtain ⟨c, hb, hc'⟩ := bd hc; exact ⟨fn, hf, hnm, by rw [hb]; rfl⟩ : ∃ fn, P.funcs[f]? = some fn ∧ (fn.name == "runtime.NumGoroutine") = false ∧ fn.body.isNone = false)
  refine ⟨hok, fun h ρ w vs hs ha => ?_⟩
  have hw := fun i hi => wsLt_mem (hX hs.free i hi)
  refine (Meets.outI (outs := []) φ (fun i => ws i ++ hp) rI (fun i hi k hk => ?_) (fun i hi k hk => ?_) (meets hf hnm hc hrs hlen (hv hs.free))).2 h ρ w vs hs ha
  · rcases gc_app (ws := ws i) (hp := hp) k with ⟨_, e⟩ | ⟨c, hm, e⟩
    · exact .inl e
    · exact .inr (by rw [e]; exact (hw i hi _ hm).2)
  · rcases gc_app (ws := ws i) (hp := hp) k with ⟨_, e⟩ | ⟨c, hm, e⟩
    · rw [e]; exact hs.free k hk
    · have := (hw i hi _ hm).1
      omega
theorem SatH.drop {h : HP} {ρ : RO} {hp : CH} {n : Nat} {w : World} (m : SatH h ρ hp n w) (k : Nat) : SatH h ρ ((k, .no) :: hp) n w := by
  have own : ∀ j g', (gc ((k, Chunk.no) :: hp) j).own g' → (gc hp j).own g' := fun j g' e => by
    by_cases hj : k = j
    · subst hj; rw [gc_cons_same] at e; cases e
    · rw [gc_cons_ne hj] at e; exact e
  have hlv : ∀ b, live ρ ((k, Chunk.no) :: hp) b → live ρ hp b := fun b ⟨j, g', c, e, r⟩ => ⟨j, g', c, own j g' e, r⟩
  refine ⟨m.hh, fun j => ?_, fun j j' g1 g2 b c c' e1 e2 => m.inj j j' g1 g2 b c c' (own j g1 e1) (own j' g2 e2), fun b hb => m.hid b (hlv b hb), fun b hb => m.lt b (hlv b hb), m.fr, fun j g1 g2 x e r => ?_, m.gl⟩
  · by_cases hj : k = j
    · subst hj; rw [gc_cons_same]; trivial
    · rw [gc_cons_ne hj]; exact m.ch j
  · by_cases hj : k = j
    · subst hj
      rw [gc_cons_same] at e
      cases e
    · rw [gc_cons_ne hj] at e
      exact m.gens j g1 g2 x e r
/-- A row's place is taken by a row that one variable alone knows. -/
theorem weak_ren {env : EN} {hp : CH} {n c i k g k0 g0 m off len : Nat} {cs : List AV} {l l0 : List (List AV)} (hc : gc hp c = .bx cs) (he : cs[i]? = some (.rf k0 g0 m off len)) (hk : gc hp k = .rw g m l0) (hk0 : gc hp k0 = .rw g0 m l) (hne : k0 ≠ k) :
    Weak ⟨env, hp, n⟩ ⟨env, (c, .bx (cs.set i (.rf k (g + 1) m off len))) :: (k, .rw (g + 1) m l) :: (k0, .no) :: hp, n⟩ := by
  rintro C a w ⟨h, ρ, s⟩
  have hs : SatH h ρ hp n w := s.mem
  have sk := hs.ch k
  rw [hk] at sk
  obtain ⟨ob1, c1, d1, _⟩ := sk
  have s0 := hs.ch k0
  rw [hk0] at s0
  obtain ⟨ob, cap, e1, e2, e3, e4, e5, e6⟩ := s0
  have hck : c ≠ k := fun e => by subst e; rw [hc] at hk; cases hk
  have hck0 : c ≠ k0 := fun e => by subst e; rw [hc] at hk0; cases hk0
  have hn1 : ρ k (g + 1) = none := by
    cases hx : ρ k (g + 1) with
    | none => rfl
    | some y => have := hs.gens k g (g + 1) y (by rw [hk]; rfl) hx; omega
  have hrle := rset_le (ob, cap) hn1
  have hkn : k < n := by
    rcases Nat.lt_or_ge k n with q | q
    · exact q
    · rw [hs.fr k g q] at d1; cases d1
  have hd := hs.drop k0
  have hs1 : SatH h (rset ρ k (g + 1) (ob, cap)) ((k, .rw (g + 1) m l) :: (k0, .no) :: hp) n w := by
    refine hd.put k _ hrle (fun k' g' hk' => rset_ne _ _ hk') (fun b hb' hx => rfl) (Nat.le_refl _) ?_ ?_ ?_ ?_
    · exact ⟨ob, cap, rset_same _ _ _ _, e2, e3, e4, e5, e6⟩
    · intro g2 b2 c2 hg2 hr2
      cases hg2
      rw [rset_same] at hr2
      cases hr2
      have hl : live ρ hp b2 := ⟨k0, g0, cap, by rw [hk0]; rfl, e1⟩
      refine ⟨hs.hid _ hl, hs.lt _ hl, fun k2 g3 c3 hne2 hg3 hr3 => ?_⟩
      by_cases hq : k0 = k2
      · subst hq
        rw [gc_cons_same] at hg3
        cases hg3
      · rw [gc_cons_ne hq] at hg3
        exact hq (hs.inj k0 k2 g0 g3 _ _ _ (by rw [hk0]; rfl) hg3 e1 hr3)
    · intro k' g' hk'
      rw [rset_ne _ _ (by omega)]
      exact hs.fr k' g' hk'
    · intro g2 g' y q1 q2
      cases q1
      by_cases hgg : g' = g + 1
      · omega
      · unfold rset at q2
        rw [if_neg (by omega)] at q2
        have := hs.gens k g g' y (by rw [hk]; rfl) q2
        omega
  have hc1 : gc ((k, Chunk.rw (g + 1) m l) :: (k0, .no) :: hp) c = .bx cs := by
    rw [gc_cons_ne (fun e => hck e.symm), gc_cons_ne (fun e => hck0 e.symm), hc]
  have hs2 : SatH h (rset ρ k (g + 1) (ob, cap)) ((c, .bx (cs.set i (.rf k (g + 1) m off len))) :: (k, .rw (g + 1) m l) :: (k0, .no) :: hp) n w := by
    have sk := hs1.ch c
    rw [hc1] at sk
    obtain ⟨b, c0, vs, e, h1, h2, h3, h4⟩ := sk
    refine hs1.recastC (k := c) (.bx (cs.set i (.rf k (g + 1) m off len))) (fun j e => by rw [hc1]; exact e) (by rw [hc1]; rfl) ⟨b, c0, vs, e, h1, h2, by rw [List.length_set]; exact h3, fun j α v q1 q2 => ?_⟩
    by_cases hj : i = j
    · subst hj
      have hlt : i < cs.length := (List.getElem?_eq_some_iff.1 he).1
      rw [List.getElem?_set_self hlt] at q1
      cases q1
      have r := h4 i _ v he q2
      cases r with
      | pu _ _ p => cases p
      | rf _ _ _ _ _ cap' a ob' r1 r2 r3 =>
        have e1' := hrle _ _ _ e1
        rw [e1'] at r1
        cases r1
        exact Rel.rf k (g + 1) m off len cap a ob (rset_same _ _ _ _) r2 r3
    · rw [List.getElem?_set_ne hj] at q1
      exact h4 j α v q1 q2
  have hlv : ∀ b, live (rset ρ k (g + 1) (ob, cap)) ((c, .bx (cs.set i (.rf k (g + 1) m off len))) :: (k, .rw (g + 1) m l) :: (k0, .no) :: hp) b → live ρ hp b := fun b ⟨j, g', c', q1, q2⟩ => by
    by_cases h1 : c = j
    · subst h1
      rw [gc_cons_same] at q1
      rw [rset_ne _ _ hck] at q2
      exact ⟨c, g', c', by rw [hc]; exact q1, q2⟩
    rw [gc_cons_ne h1] at q1
    by_cases h2 : k = j
    · subst h2
      rw [gc_cons_same] at q1
      cases q1
      rw [rset_same] at q2
      cases q2
      exact ⟨k0, g0, _, by rw [hk0]; rfl, e1⟩
    rw [gc_cons_ne h2] at q1
    rw [rset_ne _ _ (fun q => h2 q.symm)] at q2
    by_cases h3 : k0 = j
    · subst h3
      rw [gc_cons_same] at q1
      cases q1
    rw [gc_cons_ne h3] at q1
    exact ⟨j, g', c', q1, q2⟩
  exact ⟨h, _, s.hle, fun k g x e => hrle _ _ _ (s.rle k g x e), s.keep, fun b hb => s.own b (hlv b hb), hs2, fun t ht => let ⟨v, v1, v2⟩ := s.env t ht; ⟨v, v1, v2.mono (HLe.refl _) hrle⟩, s.size, s.defers⟩
end Go.Eng
