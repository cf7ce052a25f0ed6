/-
  The parts EngV of the proof, in one file. Conditions: none.
-/
import Derived.Test.YtmcgjccheehehaaQse14
namespace Go.Eng
set_option linter.unusedVariables false
set_option linter.unusedSimpArgs false
/-! ### Tables that are written in parts -/
def lk {V : Type} (z : V) : List (Nat × V) → Nat → V
  | [], _ => z
  | (k, c) :: r, j => if k = j then c else lk z r j
theorem ge_lk : ∀ (env : EN) (t : Nat), ge env t = lk .un env t
  | [], _ => rfl
  | (k, c) :: r, j => by unfold ge lk; rw [ge_lk r j]
theorem gc_lk : ∀ (hp : CH) (t : Nat), gc hp t = lk .no hp t
  | [], _ => rfl
  | (k, c) :: r, j => by unfold gc lk; rw [gc_lk r j]
section
variable {V : Type} {z : V} {k : Nat}
theorem lk_app {b b' : List (Nat × V)} (h : lk z b k = lk z b' k) : ∀ u : List (Nat × V), lk z (u ++ b) k = lk z (u ++ b') k
  | [] => h
  | (j, c) :: r => by
    show (if j = k then c else lk z (r ++ b) k) = if j = k then c else lk z (r ++ b') k
    rw [lk_app h r]
theorem lk_app_ne {b : List (Nat × V)} : ∀ u : List (Nat × V), k ∉ u.map (·.1) → lk z (u ++ b) k = lk z b k
  | [], _ => rfl
  | (j, c) :: r, h => by
    simp only [List.map_cons, List.mem_cons, not_or] at h
    show (if j = k then c else lk z (r ++ b) k) = lk z b k
    rw [if_neg (fun e => h.1 e.symm)]
    exact lk_app_ne r h.2
theorem lk_app_in {b b' : List (Nat × V)} : ∀ u : List (Nat × V), k ∈ u.map (·.1) → lk z (u ++ b) k = lk z (u ++ b') k
  | [], h => by simp at h
  | (j, c) :: r, h => by
    show (if j = k then c else lk z (r ++ b) k) = if j = k then c else lk z (r ++ b') k
    split
    · rfl
    · rename_i hj
      simp only [List.map_cons, List.mem_cons] at h
      exact lk_app_in r (h.resolve_left fun e => hj e.symm)
/-- The parts of L, laid in the order of the text. -/
def aL (L : Nat → Bool) : Nat → List (Nat × V) → List (List (Nat × V)) → List (Nat × V)
  | _, b, [] => b
  | i, b, u :: r => aL L (i + 1) (if L i then u ++ b else b) r
theorem aL_congr {L L' : Nat → Bool} : ∀ (us : List (List (Nat × V))) (i : Nat) (b b' : List (Nat × V)), lk z b k = lk z b' k →
    (∀ (j : Nat) u, us[j]? = some u → k ∈ u.map (·.1) → L (i + j) = L' (i + j)) → lk z (aL L i b us) k = lk z (aL L' i b' us) k
  | [], _, _, _, h, _ => h
  | u :: r, i, b, b', h, hL => by
    refine aL_congr r (i + 1) _ _ ?_ fun j v hj hk => by have := hL (j + 1) v (by simpa using hj) hk; rw [show i + 1 + j = i + (j + 1) by omega]; exact this
    by_cases hk : k ∈ u.map (·.1)
    · have := hL 0 u rfl hk
      simp only [Nat.add_zero] at this
      rw [this]
      split
      · exact lk_app h u
      · exact h
    · split <;> split <;> simp only [lk_app_ne u hk, h]
theorem aL_none {L : Nat → Bool} : ∀ (us : List (List (Nat × V))) (i : Nat) (b : List (Nat × V)), (∀ (j : Nat) u, us[j]? = some u → L (i + j) = true → k ∉ u.map (·.1)) → lk z (aL L i b us) k = lk z b k
  | [], _, _, _ => rfl
  | u :: r, i, b, h => by
    show lk z (aL L (i + 1) (if L i then u ++ b else b) r) k = _
    rw [aL_none r (i + 1) _ fun j v hj hl => h (j + 1) v (by simpa using hj) (by rw [show i + (j + 1) = i + 1 + j by omega]; exact hl)]
    split
    · rename_i hi
      exact lk_app_ne u (h 0 u rfl hi)
    · rfl
theorem aL_last {L : Nat → Bool} : ∀ (us : List (List (Nat × V))) (i : Nat) (b b' : List (Nat × V)) (j0 : Nat) (u0 : List (Nat × V)), us[j0]? = some u0 → L (i + j0) = true → k ∈ u0.map (·.1) →
    (∀ (j : Nat) u, us[j]? = some u → j0 < j → L (i + j) = true → k ∉ u.map (·.1)) → lk z (aL L i b us) k = lk z (u0 ++ b') k
  | [], _, _, _, _, _, h, _, _, _ => by simp at h
  | u :: r, i, b, b', 0, u0, h, hL, hk, hn => by
    simp at h
    subst h
    show lk z (aL L (i + 1) (if L i then u ++ b else b) r) k = _
    simp only [Nat.add_zero] at hL
    rw [if_pos hL, aL_none r (i + 1) _ fun j v hj hl => hn (j + 1) v (by simpa using hj) (by omega) (by rw [show i + (j + 1) = i + 1 + j by omega]; exact hl)]
    exact lk_app_in u hk
  | u :: r, i, b, b', j0 + 1, u0, h, hL, hk, hn => by
    show lk z (aL L (i + 1) (if L i then u ++ b else b) r) k = _
    exact aL_last r (i + 1) _ b' j0 u0 (by simpa using h) (by rw [show i + 1 + j0 = i + (j0 + 1) by omega]; exact hL) hk
      fun j v hj hlt hl => hn (j + 1) v (by simpa using hj) (by omega) (by rw [show i + (j + 1) = i + 1 + j by omega]; exact hl)
/-- One part more. -/
theorem aL_set {L L' : Nat → Bool} {us : List (List (Nat × V))} {b : List (Nat × V)} {j0 : Nat} {u0 : List (Nat × V)} (hu : us[j0]? = some u0) (hne : ∀ j, j ≠ j0 → L' j = L j) (ht : L' j0 = true)
    (hl : ∀ (j : Nat) u, us[j]? = some u → j0 < j → L j = true → ∀ x ∈ u.map (·.1), x ∉ u0.map (·.1)) : lk z (aL L' 0 b us) k = lk z (u0 ++ aL L 0 b us) k := by
  by_cases hk : k ∈ u0.map (·.1)
  · exact aL_last us 0 b _ j0 u0 hu (by rw [Nat.zero_add]; exact ht) hk fun j u hj hlt hL hx => hl j u hj hlt (by rw [Nat.zero_add, hne j (by omega)] at hL; exact hL) k hx hk
  · rw [lk_app_ne u0 hk]
    refine aL_congr us 0 b b rfl fun j u hj hx => ?_
    rw [Nat.zero_add]
    apply hne
    intro e
    subst e
    rw [hu] at hj
    cases hj
    exact hk hx
theorem aL_pre {L : Nat → Bool} : ∀ (us : List (List (Nat × V))) (i : Nat) (b : List (Nat × V)), (∀ j, i ≤ j → L j = false) → aL L i b us = b
  | [], _, _, _ => rfl
  | u :: r, i, b, h => by
    show aL L (i + 1) (if L i then u ++ b else b) r = b
    rw [h i (Nat.le_refl _)]
    exact aL_pre r (i + 1) b fun j hj => h j (by omega)
end
/-! ### States -/
theorem SatH.congr {h : HP} {ρ : RO} {hp hp' : CH} {n : Nat} {w : World} (e : ∀ k, gc hp k = gc hp' k) (m : SatH h ρ hp n w) : SatH h ρ hp' n w := by
  have hl : ∀ b, live ρ hp' b → live ρ hp b := fun b ⟨k, g, c, e1, r⟩ => ⟨k, g, c, by rw [e]; exact e1, r⟩
  exact ⟨m.hh, fun k => by rw [← e]; exact m.ch k, fun k k' g g' b c c' a1 a2 => m.inj k k' g g' b c c' (by rw [e]; exact a1) (by rw [e]; exact a2), fun b hb => m.hid b (hl b hb), fun b hb => m.lt b (hl b hb), m.fr, fun k g g' mm l x a1 => m.gens k g g' mm l x (by rw [e]; exact a1)⟩
theorem Sat.congr {C : Ctx} {env env' : EN} {hp hp' : CH} {n : Nat} {h : HP} {ρ : RO} {a : Act} {w : World} (e1 : ∀ t, ge env t = ge env' t) (e2 : ∀ k, gc hp k = gc hp' k) (S : Sat C ⟨env, hp, n⟩ h ρ a w) : Sat C ⟨env', hp', n⟩ h ρ a w :=
  ⟨S.hle, S.rle, S.keep, fun b ⟨k, g, c, a1, r⟩ => S.own b ⟨k, g, c, by rw [e2]; exact a1, r⟩, S.mem.congr e2, fun t ht => by rw [← e1]; exact S.env t ht, S.size, S.defers⟩
theorem Sat.more {C : Ctx} {env : EN} {hp : CH} {n n' : Nat} {h : HP} {ρ : RO} {a : Act} {w w' : World} (hn : n ≤ n') (ew : w'.heap = w.heap) (eo : w'.os = w.os) (et : w'.tape = w.tape) (eu : w'.output = w.output) (S : Sat C ⟨env, hp, n⟩ h ρ a w) : Sat C ⟨env, hp, n'⟩ h ρ a w' :=
  ⟨S.hle, S.rle, ⟨eo.trans S.keep.os, et.trans S.keep.tape, eu.trans S.keep.output, by rw [ew]; exact S.keep.size, fun b hb hx => by rw [ew]; exact S.keep.block b hb hx⟩, S.own,
    let m := S.mem.heap ew; ⟨m.hh, m.ch, m.inj, m.hid, m.lt, fun k g hk => m.fr k g (Nat.le_trans hn hk), m.gens⟩, S.env, S.size, S.defers⟩
/-! ### What each operation did -/
structure TE where
  d : Option Nat
  α : AV
  ws : CH
  R : List Nat
  c : Bool
def TE.eu (t : TE) : EN := match t.d with | some x => [(x, t.α)] | none => []
theorem set_eu (env : EN) (t : TE) : EN.set env t.d t.α = t.eu ++ env := by
  obtain ⟨d, α, ws, R, c⟩ := t
  cases d <;> rfl
def TE.eq (t : TE) : AV → CH → List Nat → Bool → Prop := fun α ws R c => α = t.α ∧ ws = t.ws ∧ R = t.R ∧ c = t.c
section
variable {P : Program} {n0 N1 : Nat}
def Val (P : Program) (n0 N1 : Nat) : Nat → List DO → List TE → EN → CH → List LE → EN → CH → Prop
  | _, [], [], env, hp, _, e', h' => e' = env ∧ h' = hp
  | i, o :: r, t :: ts, env, hp, lg, e', h' => t.d = o.o.dst ∧ dOp P n0 N1 i o env hp t.eq ∧ cfs n0 i o.un t.R (keys t.ws) t.c lg ∧
      Val P n0 N1 (i + 1) r ts (t.eu ++ env) (t.ws ++ hp) (if o.lg then ⟨i, t.R, keys t.ws, t.c⟩ :: lg else lg) e' h'
  | _, _, _, _, _, _, _, _ => False
theorem val_of : ∀ (dl : List DO) (i : Nat) (env : EN) (hp : CH) (lg : List LE) (K : EN → CH → Prop), vcD P n0 N1 i dl env hp lg K → ∃ ts e' h', Val P n0 N1 i dl ts env hp lg e' h' ∧ K e' h'
  | [], i, env, hp, lg, K, h => ⟨[], env, hp, ⟨rfl, rfl⟩, h⟩
  | o :: r, i, env, hp, lg, K, h => by
    obtain ⟨α, ws, R, c, h1, h2, h3⟩ := dOp_out h
    obtain ⟨ts, e', h', v, k⟩ := val_of r _ _ _ _ K h3
    refine ⟨⟨o.o.dst, α, ws, R, c⟩ :: ts, e', h', ⟨rfl, h1, h2, ?_⟩, k⟩
    rw [← set_eu]
    exact v
theorem val_len : ∀ (dl : List DO) (ts : List TE) (i : Nat) (env : EN) (hp : CH) (lg : List LE) (e' : EN) (h' : CH), Val P n0 N1 i dl ts env hp lg e' h' → ts.length = dl.length
  | [], [], _, _, _, _, _, _, _ => rfl
  | [], _ :: _, _, _, _, _, _, _, h => h.elim
  | _ :: _, [], _, _, _, _, _, _, h => h.elim
  | o :: r, t :: ts, i, env, hp, lg, e', h', h => by simp [val_len r ts _ _ _ _ _ _ h.2.2.2]
theorem val_get : ∀ (dl : List DO) (ts : List TE) (i : Nat) (env : EN) (hp : CH) (lg : List LE) (e' : EN) (h' : CH), Val P n0 N1 i dl ts env hp lg e' h' → ∀ (j : Nat) o t, dl[j]? = some o → ts[j]? = some t →
    t.d = o.o.dst ∧ dOp P n0 N1 (i + j) o (aL (fun x => decide (x < i + j)) i env (ts.map TE.eu)) (aL (fun x => decide (x < i + j)) i hp (ts.map TE.ws)) t.eq
  | [], _, _, _, _, _, _, _, _, j, o, t, h, _ => by simp at h
  | _ :: _, [], _, _, _, _, _, _, h, _, _, _, _, _ => h.elim
  | o :: r, t :: ts, i, env, hp, lg, e', h', h, 0, o', t', ho, ht => by
    simp at ho ht
    subst ho ht
    refine ⟨h.1, ?_⟩
    rw [aL_pre _ _ _ (fun j hj => by simp; omega), aL_pre _ _ _ (fun j hj => by simp; omega)]
    exact h.2.1
  | o :: r, t :: ts, i, env, hp, lg, e', h', h, j + 1, o', t', ho, ht => by
    have := val_get r ts (i + 1) _ _ _ _ _ h.2.2.2 j o' t' (by simpa using ho) (by simpa using ht)
    rw [show i + 1 + j = i + (j + 1) by omega] at this
    refine ⟨this.1, ?_⟩
    simp only [List.map_cons, aL]
    rw [if_pos (by simp)]
    rw [if_pos (by simp)]
    exact this.2
theorem val_end : ∀ (dl : List DO) (ts : List TE) (i : Nat) (env : EN) (hp : CH) (lg : List LE) (e' : EN) (h' : CH), Val P n0 N1 i dl ts env hp lg e' h' →
    e' = aL (fun _ => true) i env (ts.map TE.eu) ∧ h' = aL (fun _ => true) i hp (ts.map TE.ws)
  | [], [], _, _, _, _, _, _, h => h
  | [], _ :: _, _, _, _, _, _, _, h => h.elim
  | _ :: _, [], _, _, _, _, _, _, h => h.elim
  | o :: r, t :: ts, i, env, hp, lg, e', h', h => by
    have := val_end r ts _ _ _ _ _ _ h.2.2.2
    simpa [aL] using this
theorem cfs_mem {i : Nat} {un R W : List Nat} {c : Bool} : ∀ {lg : List LE}, cfs n0 i un R W c lg → ∀ e ∈ lg, un.contains e.j = true → cf n0 i R W c e
  | [], _, e, he, _ => by simp at he
  | x :: r, h, e, he, hu => by
    rcases List.mem_cons.1 he with rfl | he
    · exact h.1 hu
    · exact cfs_mem h.2 e he hu
theorem val_lg : ∀ (dl : List DO) (ts : List TE) (i : Nat) (env : EN) (hp : CH) (lg : List LE) (e' : EN) (h' : CH), Val P n0 N1 i dl ts env hp lg e' h' → ∀ e ∈ lg, ∀ (j : Nat) o t, dl[j]? = some o → ts[j]? = some t →
    o.un.contains e.j = true → cf n0 (i + j) t.R (keys t.ws) t.c e
  | [], _, _, _, _, _, _, _, _, e, _, j, o, t, h, _, _ => by simp at h
  | _ :: _, [], _, _, _, _, _, _, h, _, _, _, _, _, _, _, _ => h.elim
  | o :: r, t :: ts, i, env, hp, lg, e', h', h, e, he, 0, o', t', ho, ht, hu => by
    simp at ho ht
    subst ho ht
    exact cfs_mem h.2.2.1 e he hu
  | o :: r, t :: ts, i, env, hp, lg, e', h', h, e, he, j + 1, o', t', ho, ht, hu => by
    rw [show i + (j + 1) = i + 1 + j by omega]
    refine val_lg r ts (i + 1) _ _ _ _ _ h.2.2.2 e ?_ j o' t' (by simpa using ho) (by simpa using ht) hu
    split
    · exact List.mem_cons_of_mem _ he
    · exact he
theorem val_cf : ∀ (dl : List DO) (ts : List TE) (i : Nat) (env : EN) (hp : CH) (lg : List LE) (e' : EN) (h' : CH), Val P n0 N1 i dl ts env hp lg e' h' → ∀ (j' j : Nat) o' t' o t, j' < j → dl[j']? = some o' → ts[j']? = some t' →
    dl[j]? = some o → ts[j]? = some t → o'.lg = true → o.un.contains (i + j') = true → cf n0 (i + j) t.R (keys t.ws) t.c ⟨i + j', t'.R, keys t'.ws, t'.c⟩
  | [], _, _, _, _, _, _, _, _, j', j, o', t', o, t, _, h, _, _, _, _, _ => by simp at h
  | _ :: _, [], _, _, _, _, _, _, h, _, _, _, _, _, _, _, _, _, _, _, _, _ => h.elim
  | o0 :: r, t0 :: ts, i, env, hp, lg, e', h', h, 0, 0, o', t', o, t, hlt, _, _, _, _, _, _ => by omega
  | o0 :: r, t0 :: ts, i, env, hp, lg, e', h', h, 0, j + 1, o', t', o, t, hlt, g1, g2, g3, g4, g5, g6 => by
    simp at g1 g2
    subst g1 g2
    rw [show i + (j + 1) = i + 1 + j by omega]
    refine val_lg r ts (i + 1) _ _ _ _ _ h.2.2.2 ⟨i + 0, _, _, _⟩ ?_ j o t (by simpa using g3) (by simpa using g4) g6
    rw [if_pos g5]
    exact List.mem_cons_self
  | o0 :: r, t0 :: ts, i, env, hp, lg, e', h', h, j' + 1, 0, o', t', o, t, hlt, _, _, _, _, _, _ => by omega
  | o0 :: r, t0 :: ts, i, env, hp, lg, e', h', h, j' + 1, j + 1, o', t', o, t, hlt, g1, g2, g3, g4, g5, g6 => by
    have := val_cf r ts (i + 1) _ _ _ _ _ h.2.2.2 j' j o' t' o t (by omega) (by simpa using g1) (by simpa using g2) (by simpa using g3) (by simpa using g4) g5 (by rw [show i + 1 + j' = i + (j' + 1) by omega]; exact g6)
    rw [show i + 1 + j' = i + (j' + 1) by omega, show i + 1 + j = i + (j + 1) by omega] at this
    exact this
end
/-- Only operations that may write do, and only those that may read do. -/
theorem eff_kind {op : COp} {hp : CH} {f : Src → AV} {id : Nat} {α : AV} {ws : CH} {R : List Nat} (h : op.eff hp f id = some (α, ws, R)) : (ws ≠ [] → op.mw = true) ∧ (R ≠ [] → op.mr = true) := by
  have rd : ∀ R', R' = op.rd f → R' ≠ [] → op.mr = true := by
    intro R' e hne
    subst e
    cases op <;> first | rfl | exact absurd rfl hne
  by_cases hv : op.isV = true
  · have e : op.eff hp f id = match op.val hp f with
      | some α => some (α, [], op.rd f)
      | none => none := by cases op <;> first | rfl | (simp [COp.isV] at hv)
    rw [e] at h
    split at h
    · cases h
      exact ⟨fun h => absurd rfl h, rd _ rfl⟩
    · cases h
  · cases op
    case al z => cases h; exact ⟨fun _ => rfl, fun h => absurd rfl h⟩
    case bo x =>
      simp only [COp.eff] at h
      split at h
      · cases h; exact ⟨fun _ => rfl, fun h => absurd rfl h⟩
      · cases h
    case bs fz n ps =>
      simp only [COp.eff] at h
      split at h
      · split at h <;> (cases h; exact ⟨fun _ => rfl, fun h => absurd rfl h⟩)
      · cases h
    case ms l c n bytes z =>
      simp only [COp.eff] at h
      split at h
      · cases h; exact ⟨fun _ => rfl, fun h => absurd rfl h⟩
      · cases h
    case cl => cases h
    case cc => cases h
    case nl => cases h
    case mk => cases h; exact ⟨fun _ => rfl, fun h => absurd rfl h⟩
    case mu => exact ⟨fun _ => rfl, fun _ => rfl⟩
    case st => exact ⟨fun _ => rfl, fun _ => rfl⟩
    case ap => exact ⟨fun _ => rfl, fun _ => rfl⟩
    case aps => exact ⟨fun _ => rfl, fun _ => rfl⟩
    all_goals simp [COp.isV] at hv
theorem dRun_kind {P : Program} {n0 N1 i : Nat} {o : DO} {env : EN} {hp : CH} {t : TE} (h : dRun P n0 N1 i o env hp t.eq) : (t.ws ≠ [] → o.o.op.mw = true) ∧ (t.R ≠ [] → o.o.op.mr = true) ∧ (t.c = true → o.o.op.mr = true) := by
  rcases COp.cases_c o.o.op with ⟨f, xs, e⟩ | ⟨f, xs, e⟩ | e
  · rw [e]
    obtain ⟨⟨d, op, g⟩, un, lg, bf⟩ := o
    simp only at e
    subst e
    rcases h with ⟨r, _, _, h1, h2, _⟩ | ⟨m, l, _, _, h1, h2, _⟩ | ⟨r, ws, _, _, _, _, h1, h2, _⟩
    · exact ⟨fun x => absurd h1.symm x, fun x => absurd h2.symm x, fun _ => rfl⟩
    · exact ⟨fun _ => rfl, fun x => absurd h2.symm x, fun _ => rfl⟩
    · exact ⟨fun _ => rfl, fun x => absurd h2.symm x, fun _ => rfl⟩
  · rw [e]
    obtain ⟨⟨d, op, g⟩, un, lg, bf⟩ := o
    simp only at e
    subst e
    unfold dRun at h
    simp only at h
    split at h
    · obtain ⟨r, _, _, h1, h2, _⟩ := h
      exact ⟨fun x => absurd h1.symm x, fun x => absurd h2.symm x, fun _ => rfl⟩
    · exact h.elim
  · rw [dRun_e e] at h
    obtain ⟨h1, h2⟩ := h
    split at h2
    · rename_i he
      obtain ⟨_, e1, e2, e3⟩ := h2
      obtain ⟨k1, k2⟩ := eff_kind he
      exact ⟨by rw [← e1]; exact k1, by rw [← e2]; exact k2, fun x => by rw [← e3] at x; cases x⟩
    · exact h2.elim
theorem dG_kind {P : Program} {n0 N1 i : Nat} {o : DO} {env : EN} {hp : CH} {G : Bool} {t : TE} (h : dG P n0 N1 i o env hp G t.eq) : (t.ws ≠ [] → o.o.op.mw = true) ∧ (t.R ≠ [] → o.o.op.mr = true) ∧ (t.c = true → o.o.op.mr = true) := by
  rcases COp.cases_c o.o.op with ⟨f, xs, e⟩ | ⟨f, xs, e⟩ | e
  · rw [e]
    obtain ⟨⟨d, op, g⟩, un, lg, bf⟩ := o
    simp only at e
    subst e
    obtain ⟨_, r, _, _, h1, h2, _⟩ := h
    exact ⟨fun x => absurd h1.symm x, fun x => absurd h2.symm x, fun _ => rfl⟩
  · rw [e]
    obtain ⟨⟨d, op, g⟩, un, lg, bf⟩ := o
    simp only at e
    subst e
    unfold dG at h
    simp only at h
    obtain ⟨_, h⟩ := h
    split at h
    · obtain ⟨r, _, _, h1, h2, _⟩ := h
      exact ⟨fun x => absurd h1.symm x, fun x => absurd h2.symm x, fun _ => rfl⟩
    · exact h.elim
  · rw [dG_e e] at h
    obtain ⟨_, h⟩ := h
    split at h
    · rename_i hv
      obtain ⟨_, _, _, e1, e2, e3⟩ := h
      refine ⟨fun x => absurd e1.symm x, fun x => ?_, fun x => by rw [← e3] at x; cases x⟩
      rw [← e2] at x
      revert x hv
      generalize o.o.op = op
      intro hv x
      cases op <;> first | rfl | exact absurd rfl x
    · rcases h with ⟨_, h⟩ | ⟨_, _, e1, e2, e3⟩
      · exact dRun_kind h
      · exact ⟨fun x => absurd e1.symm x, fun x => absurd e2.symm x, fun x => by rw [← e3] at x; cases x⟩
theorem dOp_kind {P : Program} {n0 N1 i : Nat} {o : DO} {env : EN} {hp : CH} {t : TE} (h : dOp P n0 N1 i o env hp t.eq) : (t.ws ≠ [] → o.o.op.mw = true) ∧ (t.R ≠ [] → o.o.op.mr = true) ∧ (t.c = true → o.o.op.mr = true) := by
  unfold dOp at h
  split at h
  · exact dRun_kind h.2
  · split at h
    · exact dG_kind h
    · exact dG_kind h
    · exact h.elim
end Go.Eng
