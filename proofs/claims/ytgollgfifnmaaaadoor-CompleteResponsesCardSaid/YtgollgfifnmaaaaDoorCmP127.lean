/-
  The parts EngRC of the proof, in one file. Conditions: none.
-/
import Derived.Test.YtgollgfifnmaaaaDoorCmP126
namespace Go.Eng
set_option linter.unusedVariables false
set_option linter.unusedSimpArgs false
theorem gc_app {ws hp : CH} (k : Nat) : (k ∉ keys ws ∧ gc (ws ++ hp) k = gc hp k) ∨ ∃ c, (k, c) ∈ ws ∧ gc (ws ++ hp) k = c := by
  induction ws with
  | nil => exact .inl ⟨by simp [keys], rfl⟩
  | cons x ws ih =>
    obtain ⟨j, c⟩ := x
    by_cases e : j = k
    · subst e
      exact .inr ⟨c, by simp, by rw [List.cons_append, gc_same]⟩
    · rw [List.cons_append, gc_ne _ _ e]
      rcases ih with ⟨h1, h2⟩ | ⟨c', h1, h2⟩
      · exact .inl ⟨by simp [keys] at h1 ⊢; exact ⟨fun q => e q.symm, h1⟩, h2⟩
      · exact .inr ⟨c', by simp [h1], h2⟩
def wsLt (n : Nat) : CH → Prop
  | [] => True
  | (k, c) :: r => k < n ∧ c.lt1 n ∧ wsLt n r
theorem wsLt_mem {n : Nat} : ∀ {ws : CH}, wsLt n ws → ∀ x ∈ ws, x.1 < n ∧ x.2.lt1 n
  | [], _, x, h => by cases h
  | (k, c) :: r, hw, x, h => by
    rcases List.mem_cons.1 h with rfl | h
    · exact ⟨hw.1, hw.2.1⟩
    · exact wsLt_mem hw.2.2 x h
/-- A contract by which chunks of the caller are written. -/
theorem meetsW {P : Program} {f : FuncId} {fn : Func} {k : CC} {rs : List RS} (hf : P.funcs[f]? = some fn) (hnm : (fn.name == "runtime.NumGoroutine") = false)
    (hc : fn.body.bind (ccode P fn.ntmps) = some k.erase) (hrs : rsv P fn.ntmps fn.results.toList = some rs) {hp ws : CH} {n : Nat} {args : List AV} {r : AV} (hlen : Nat.ble args.length fn.ntmps = true)
    (hX : (∀ k, n ≤ k → gc hp k = .no) → wsLt n ws) (hv : (∀ k, n ≤ k → gc hp k = .no) → vc P k ⟨argEnv 0 args, hp, n⟩ (endQ rs (outF (ws ++ hp) n [] r))) : MeetsX P f hp n args (ws ++ hp) n r := by
  have hok := (by obtain ⟨c, hb, hc'⟩ := bd hc; exact ⟨fn, hf, hnm, by rw [hb]; rfl⟩ : ∃ fn, P.funcs[f]? = some fn ∧ (fn.name == "runtime.NumGoroutine") = false ∧ fn.body.isNone = false)
  refine ⟨hok, fun h ρ w vs hs ha => ?_⟩
  have hw := wsLt_mem (hX hs.free)
  refine (Meets.out (outs := []) (fun k hk => ?_) (fun k hk => ?_) (meets hf hnm hc hrs hlen (hv hs.free))).2 h ρ w vs hs ha
  · rcases gc_app (ws := ws) (hp := hp) k with ⟨_, e⟩ | ⟨c, hm, e⟩
    · exact .inl e
    · exact .inr (by rw [e]; exact (hw _ hm).2)
  · rcases gc_app (ws := ws) (hp := hp) k with ⟨_, e⟩ | ⟨c, hm, e⟩
    · rw [e]; exact hs.free k hk
    · have := (hw _ hm).1
      omega
theorem live_congr {ρ : RO} {hp hp' : CH} (e : ∀ j, gc hp' j = gc hp j) {b : Nat} (h : live ρ hp' b) : live ρ hp b := by
  obtain ⟨j, g, c, q, r⟩ := h
  exact ⟨j, g, c, by rw [← e]; exact q, r⟩
theorem SatH.congrS {h : HP} {ρ : RO} {hp hp' : CH} {n : Nat} {w : World} (s : SatH h ρ hp n w) (e : ∀ j, gc hp' j = gc hp j) : SatH h ρ hp' n w :=
  ⟨s.hh, fun j => by rw [e j]; exact s.ch j, fun j j' g g' b c c' q q' => s.inj j j' g g' b c c' (by rw [← e]; exact q) (by rw [← e]; exact q'), fun b hb => s.hid b (live_congr e hb), fun b hb => s.lt b (live_congr e hb), s.fr, fun j g g' x q r => s.gens j g g' x (by rw [← e]; exact q) r, s.gl⟩
theorem gc_mid {ws hp : CH} {k j : Nat} {X : Chunk} (h : k ≠ j) : gc (ws ++ (k, X) :: hp) j = gc (ws ++ hp) j := by
  induction ws with
  | nil => rw [List.nil_append, List.nil_append, gc_cons_ne h]
  | cons x ws ih =>
    obtain ⟨i, c⟩ := x
    rw [List.cons_append, List.cons_append]
    by_cases hi : i = j
    · subst hi; rw [gc_cons_same, gc_cons_same]
    · rw [gc_cons_ne hi, gc_cons_ne hi, ih]
/-- A contract, with the memory told of in another way. -/
theorem Meets.hp {P : Program} {f : FuncId} {hp hp0 : CH} {n : Nat} {args : List AV} {R : CH → Nat → AV → Prop} (m : Meets P f hp0 n args R) (e : ∀ j, gc hp0 j = gc hp j) : Meets P f hp n args R :=
  ⟨m.1, fun h ρ w vs hs ha => (m.2 h ρ w vs (hs.congrS e) ha).mono fun _ w' ⟨v, he, h', ρ', hp', n', r', q1, hh, hr, hm, hrel, hk, hl⟩ =>
    ⟨v, he, h', ρ', hp', n', r', q1, hh, hr, hm, hrel, ⟨hk.os, hk.tape, hk.output, hk.size, fun b hb hx => hk.block b hb fun q => hx (live_congr e q)⟩, fun b hb => (hl b hb).imp (live_congr e) id⟩⟩
/-- What a contract leaves, by content. -/
theorem Meets.imp {P : Program} {f : FuncId} {hp : CH} {n : Nat} {args : List AV} {R R' : CH → Nat → AV → Prop} (m : Meets P f hp n args R) (k : ∀ hp' n' r, R hp' n' r → ∃ hp2, (∀ j, gc hp2 j = gc hp' j) ∧ R' hp2 n' r) : Meets P f hp n args R' :=
  m.post fun hp' n' r h ρ w v q hs hr => let ⟨hp2, e, q2⟩ := k hp' n' r q; ⟨h, ρ, hp2, n', r, q2, HLe.refl _, RLe.refl _, hs.congrS e, hr, fun b hb => live_congr e hb⟩
/-- A contract over a row holds where its capacity is known, too. -/
theorem Meets.rc {P : Program} {f : FuncId} {hp ws : CH} {n : Nat} {args : List AV} {r : AV} {k g m cap : Nat} {l : List (List AV)} (hk : gc hp k = .rc g m cap l) (hws : ∀ x ∈ ws, x.1 ≠ k)
    (c : MeetsX P f ((k, .rw g m l) :: hp) n args (ws ++ (k, .rw g m l) :: hp) n r) : MeetsX P f hp n args (ws ++ hp) n r := by
  refine ⟨c.1, fun h ρ w vs hs ha => ?_⟩
  have sk := hs.ch k
  rw [hk] at sk
  have sk2 := sk
  obtain ⟨ob, r1, r2, _⟩ := sk2
  have srw : (Chunk.rw g m l).sat h ρ w k := by have := sat_rc_rw sk (Nat.le_refl _); rwa [List.take_length] at this
  have ho : ∀ j, (Chunk.rw g m l).own j → (gc hp k).own j := fun j e => by rw [hk]; exact e
  have hs1 : SatH h ρ ((k, .rw g m l) :: hp) n w := hs.recast ho (by rw [hk]; rfl) srw
  refine (c.2 h ρ w vs hs1 ha).mono fun _ w' ⟨v, he, h', ρ', hp', n', r', ⟨e1, e2, e3⟩, hh, hr, hm, hrel, hkp, hl⟩ => ?_
  subst e1 e2 e3
  have hg : gc (ws ++ (k, Chunk.rw g m l) :: hp) k = .rw g m l := by
    rcases gc_app (ws := ws) (hp := (k, Chunk.rw g m l) :: hp) k with ⟨_, e⟩ | ⟨c, hm, e⟩
    · rw [e, gc_cons_same]
    · exact absurd rfl (hws _ hm)
  have sw := hm.ch k
  rw [hg] at sw
  have ho2 : ∀ j, (Chunk.rc g m cap l).own j → (gc (ws ++ (k, Chunk.rw g m l) :: hp) k).own j := fun j e => by rw [hg]; exact e
  have hm2 := hm.recast ho2 (by rw [hg]; rfl) (sat_rw_rc sw (hr _ _ _ r1))
  have ee : ∀ j, gc (ws ++ hp) j = gc ((k, Chunk.rc g m cap l) :: (ws ++ (k, Chunk.rw g m l) :: hp)) j := fun j => by
    by_cases hj : k = j
    · subst hj
      rw [gc_cons_same]
      rcases gc_app (ws := ws) (hp := hp) k with ⟨_, e⟩ | ⟨c, hm, e⟩
      · rw [e, hk]
      · exact absurd rfl (hws _ hm)
    · rw [gc_cons_ne hj, gc_mid hj]
  exact ⟨v, he, h', ρ', _, _, _, ⟨rfl, rfl, rfl⟩, hh, hr, hm2.congrS ee, hrel, ⟨hkp.os, hkp.tape, hkp.output, hkp.size, fun b hb hx => hkp.block b hb fun q => hx (live_recast ho _ q)⟩,
    fun b hb => (hl b (live_recast ho2 _ (live_congr ee hb))).imp (live_recast ho _) id⟩
/-- A contract that holds whatever a row's capacity is. -/
theorem Meets.open {P : Program} {f : FuncId} {hp ws : CH} {n : Nat} {args : List AV} {r : AV} {k g m : Nat} {l : List (List AV)} (hk : gc hp k = .rw g m l) (hws : ∀ x ∈ ws, x.1 ≠ k)
    (hok : ∃ fn, P.funcs[f]? = some fn ∧ (fn.name == "runtime.NumGoroutine") = false ∧ fn.body.isNone = false)
    (c : ∀ cap, l.length ≤ cap → MeetsX P f ((k, .rc g m cap l) :: hp) n args (ws ++ (k, .rc g m cap l) :: hp) n r) : MeetsX P f hp n args (ws ++ hp) n r := by
  refine ⟨hok, fun h ρ w vs hs ha => ?_⟩
  have sk := hs.ch k
  rw [hk] at sk
  have sk2 := sk
  obtain ⟨ob, cap, r1, r2, _⟩ := sk2
  have ho : ∀ j, (Chunk.rc g m cap l).own j → (gc hp k).own j := fun j e => by rw [hk]; exact e
  have hs1 : SatH h ρ ((k, .rc g m cap l) :: hp) n w := hs.recast ho (by rw [hk]; rfl) (sat_rw_rc sk r1)
  refine ((c cap r2).2 h ρ w vs hs1 ha).mono fun _ w' ⟨v, he, h', ρ', hp', n', r', ⟨e1, e2, e3⟩, hh, hr, hm, hrel, hkp, hl⟩ => ?_
  subst e1 e2 e3
  have hg : gc (ws ++ (k, Chunk.rc g m cap l) :: hp) k = .rc g m cap l := by
    rcases gc_app (ws := ws) (hp := (k, Chunk.rc g m cap l) :: hp) k with ⟨_, e⟩ | ⟨c, hm, e⟩
    · rw [e, gc_cons_same]
    · exact absurd rfl (hws _ hm)
  have sw := hm.ch k
  rw [hg] at sw
  have ho2 : ∀ j, (Chunk.rw g m l).own j → (gc (ws ++ (k, Chunk.rc g m cap l) :: hp) k).own j := fun j e => by rw [hg]; exact e
  have srw : (Chunk.rw g m l).sat h' ρ' w' k := by have := sat_rc_rw sw (Nat.le_refl _); rwa [List.take_length] at this
  have hm2 := hm.recast ho2 (by rw [hg]; rfl) srw
  have ee : ∀ j, gc (ws ++ hp) j = gc ((k, Chunk.rw g m l) :: (ws ++ (k, Chunk.rc g m cap l) :: hp)) j := fun j => by
    by_cases hj : k = j
    · subst hj
      rw [gc_cons_same]
      rcases gc_app (ws := ws) (hp := hp) k with ⟨_, e⟩ | ⟨c, hm, e⟩
      · rw [e, hk]
      · exact absurd rfl (hws _ hm)
    · rw [gc_cons_ne hj, gc_mid hj]
  exact ⟨v, he, h', ρ', _, _, _, ⟨rfl, rfl, rfl⟩, hh, hr, hm2.congrS ee, hrel, ⟨hkp.os, hkp.tape, hkp.output, hkp.size, fun b hb hx => hkp.block b hb fun q => hx (live_recast ho _ q)⟩,
    fun b hb => (hl b (live_recast ho2 _ (live_congr ee hb))).imp (live_recast ho _) id⟩
/-- A row of which one knows less. -/
theorem weak_rc {env : EN} {hp : CH} {n k g m cap len : Nat} {l : List (List AV)} (hk : gc hp k = .rc g m cap l) (hle : len ≤ l.length) : Weak ⟨env, hp, n⟩ ⟨env, (k, .rc g m cap (l.take len)) :: hp, n⟩ := by
  rintro C a w ⟨h, ρ, s⟩
  have sk := s.mem.ch k
  rw [show gc (St.hp ⟨env, hp, n⟩) k = .rc g m cap l from hk] at sk
  obtain ⟨ob, r1, r2, r2', r3, r4, r5⟩ := sk
  exact ⟨h, ρ, s.recastC (k := k) (.rc g m cap (l.take len)) (fun j e => by rw [hk]; exact e) (by rw [hk]; rfl) ⟨ob, r1, by rw [List.length_take]; omega, r2', fun j e he => r3 j e (take_get he).1, r4, fun b hb => by
    obtain ⟨vs, e, z1, z2, z3⟩ := r5 b hb
    exact ⟨vs, e, z1, z2, fun j x q α g1 g2 => z3 j x q α (take_get g1).1 g2⟩⟩⟩
/-- An argument that is an empty slice without capacity, as a row. -/
theorem Meets.e0 {P : Program} {f : FuncId} {hp ws : CH} {n : Nat} {args args' : List AV} {i m : Nat} {r : AV} (hi : args[i]? = some .e0) (ha' : args' = args.set i (.rw n 0 0)) (hws : ∀ x ∈ ws, x.1 < n)
    (c : MeetsX P f ((n, .rc 0 m 0 []) :: hp) (n + 1) args' (ws ++ (n, .rc 0 m 0 []) :: hp) (n + 1) r) : MeetsX P f hp n args (ws ++ (n, .rc 0 m 0 []) :: hp) (n + 1) r := by
  subst ha'
  refine ⟨c.1, fun h ρ w vs hs ha => ?_⟩
  have hfr : ∀ g, ρ n g = none := fun g => hs.fr n g (Nat.le_refl _)
  have hle : RLe ρ (rset ρ n 0 (none, 0)) := rset_le _ (hfr 0)
  have hs1 : SatH h (rset ρ n 0 (none, 0)) ((n, .rc 0 m 0 []) :: hp) (n + 1) w := by
    refine hs.put n _ hle (fun k' g' hk => rset_ne _ _ hk) (fun b _ _ => rfl) (Nat.le_refl _) ?_ ?_ ?_ ?_
    · exact ⟨none, rset_same _ _ _ _, by simp, by unfold maxLen; omega, (fun j e h => by simp at h), (fun _ => rfl), (fun b hb => by cases hb)⟩
    · intro g b c hg hr
      cases hg
      rw [rset_same] at hr
      cases hr
    · intro k' g' hk
      rw [rset_ne _ _ (by omega)]
      exact hs.fr k' g' (by omega)
    · intro g2 g' y e1 hr
      cases e1
      by_cases hgg : g' = 0
      · omega
      · unfold rset at hr
        rw [if_neg (by omega), hfr g'] at hr
        cases hr
  have hl0 : ∀ b, live (rset ρ n 0 (none, 0)) ((n, .rc 0 m 0 []) :: hp) b → live ρ hp b := fun b ⟨j, g, c, q, x⟩ => by
    by_cases hj : n = j
    · subst hj
      rw [gc_cons_same] at q
      cases q
      rw [rset_same] at x
      cases x
    · rw [gc_cons_ne hj] at q
      rw [rset_ne _ _ (fun e => hj e.symm)] at x
      exact ⟨j, g, c, q, x⟩
  have ra : RelL h (rset ρ n 0 (none, 0)) (args.set i (.rw n 0 0)) vs := by
    refine ⟨by rw [List.length_set]; exact ha.1, fun j α v e1 e2 => ?_⟩
    by_cases hj : i = j
    · subst hj
      have hlt : i < args.length := (List.getElem?_eq_some_iff.1 hi).1
      rw [List.getElem?_set_self hlt] at e1
      cases e1
      have := ha.2 i _ v hi e2
      cases this with
      | pu _ _ p => cases p with | e0 a => exact .rw _ _ _ _ a none (rset_same _ _ _ _) (Nat.le_refl _) (fun b hb => by cases hb)
    · rw [List.getElem?_set_ne hj] at e1
      exact (ha.2 j α v e1 e2).mono (HLe.refl _) hle
  refine (c.2 h _ w vs hs1 ra).mono fun _ w' ⟨v, he, h', ρ', hp', n', r', q, hh, hr, hm, hrel, hkp, hl⟩ => ?_
  exact ⟨v, he, h', ρ', hp', n', r', q, hh, hle.trans hr, hm, hrel, ⟨hkp.os, hkp.tape, hkp.output, hkp.size, fun b hb hx => hkp.block b hb fun q => hx (hl0 b q)⟩, fun b hb => (hl b hb).imp (hl0 b) id⟩
/-- A map of known entries: the callee may add some. -/
theorem MeetsF.mq {P : Program} {f : FuncId} {hp : CH} {n : Nat} {args : List AV} {r : AV} {k : Nat} {F : ByteArray → AV} (hk : gc hp k = .mq F) (hp0 : r.purR = true)
    (hok : ∃ fn, P.funcs[f]? = some fn ∧ (fn.name == "runtime.NumGoroutine") = false ∧ fn.body.isNone = false)
    (c : ∀ l, (∀ p ∈ l, p.2 = F p.1) → Meets P f ((k, .mp l) :: hp) n args fun hp' n' r' => r' = r ∧ ∃ l', (∀ p ∈ l', p.2 = F p.1) ∧ (∀ j, j ≠ k → gc hp' j = gc hp j ∨ n ≤ j) ∧ gc hp' k = .mp l') : MeetsF P f hp n args r := by
  refine ⟨hok, fun h ρ w vs hs ha => ?_⟩
  have sk := hs.ch k
  rw [hk] at sk
  obtain ⟨b, c0, es, cl, r1, r2, r3, l, r4, r5, r6⟩ := sk
  have ho : ∀ j, (Chunk.mp l).own j → (gc hp k).own j := fun j e => by rw [hk]; exact e
  have hs1 : SatH h ρ ((k, .mp l) :: hp) n w := hs.recast ho (by rw [hk]; rfl) ⟨b, c0, es, cl, r1, r2, r4, r3, r6⟩
  have hkn : k < n := by
    rcases Nat.lt_or_ge k n with q | q
    · exact q
    · rw [hs.fr k 0 q] at r1; cases r1
  refine ((c l r5).2 h ρ w vs hs1 ha).mono fun _ w' ⟨v, he, h', ρ', hp', n', r', ⟨e1, l', q1, q2, q3⟩, hh, hr, hm, hrel, hkp, hl⟩ => ?_
  subst e1
  have hlv : ∀ b, live ρ hp b → live ρ' hp' b := fun b ⟨j, g, c, q, x⟩ => by
    refine ⟨j, g, c, ?_, hr _ _ _ x⟩
    by_cases hj : j = k
    · subst hj
      rw [q3]
      rw [hk] at q
      exact q
    · rcases q2 j hj with e | e
      · rw [e]; exact q
      · rw [hs.fr j g e] at x; cases x
  refine ⟨v, he, h', hh, ⟨hm.hh, fun j => ?_, hs.inj, fun b hb => hm.hid b (hlv b hb), fun b hb => hm.lt b (hlv b hb), hs.fr, hs.gens, hm.gl⟩, AV.purR_rel hrel hp0, ⟨hkp.os, hkp.tape, hkp.output, hkp.size, fun b hb hx => hkp.block b hb fun q => hx (live_recast ho _ q)⟩⟩
  by_cases hj : j = k
  · subst hj
    rw [hk]
    have s := hm.ch j
    rw [q3] at s
    obtain ⟨b', c', es', cl', x1, x2, x3, x4, x5⟩ := s
    rw [hr _ _ _ r1] at x1
    cases x1
    exact ⟨b, c0, es', cl', r1, x2, x4, l', x3, q1, x5⟩
  · have s0 := hs.ch j
    rcases q2 j hj with e | e
    · have s := hm.ch j
      rw [e] at s
      exact Chunk.back hr s0 s
    · rw [hs.free j e]; trivial
/-- An empty map has known entries. -/
theorem weak_mq {env : EN} {hp : CH} {n k : Nat} (F : ByteArray → AV) (hk : gc hp k = .mp []) : Weak ⟨env, hp, n⟩ ⟨env, (k, .mq F) :: hp, n⟩ := by
  rintro C a w ⟨h, ρ, s⟩
  have sk := s.mem.ch k
  rw [show gc (St.hp ⟨env, hp, n⟩) k = .mp [] from hk] at sk
  obtain ⟨b, c, es, cl, r1, r2, r3, r4, r5⟩ := sk
  exact ⟨h, ρ, s.recastC (k := k) (.mq F) (fun j e => by rw [hk]; exact e) (by rw [hk]; rfl) ⟨b, c, es, cl, r1, r2, r4, [], r3, fun p hp => by simp at hp, r5⟩⟩
end Go.Eng
