/-
  The parts SaD of the proof, in one file. Conditions: none.
-/
import Derived.Test.YtmcgjccheehehaaQse31
namespace Go.Proofs.Ytmcgjccheehehaa
open Go.Eng
set_option linter.unusedVariables false
set_option linter.unusedSimpArgs false
set_option maxRecDepth 20000
theorem SatH.b0 {h : HP} {ρ : RO} {hp : CH} {n : Nat} {w : World} (s : SatH h ρ hp n w) {c i m : Nat} {cs : List AV} (hc : gc hp c = .bx cs) (he : cs[i]? = some .e0) :
    RLe ρ (rset ρ n 0 (none, 0)) ∧ (∀ b, live (rset ρ n 0 (none, 0)) ((c, .bx (cs.set i (.rw n 0 0))) :: (n, .rw 0 m []) :: hp) b → live ρ hp b) ∧ SatH h (rset ρ n 0 (none, 0)) ((c, .bx (cs.set i (.rw n 0 0))) :: (n, .rw 0 m []) :: hp) (n + 1) w := by
  have hf := s.fr
  have hno := s.free
  have hcn : c ≠ n := fun e => by
    have := hno c (by omega)
    rw [show gc hp c = .no from this] at hc
    cases hc
  have hρ : RLe ρ (rset ρ n 0 (none, 0)) := rset_le _ (hf n 0 (Nat.le_refl _))
  let hp' : CH := (c, Chunk.bx (cs.set i (.rw n 0 0))) :: (n, Chunk.rw 0 m []) :: hp
  have gcc : gc hp' c = .bx (cs.set i (.rw n 0 0)) := gc_same _ _ _
  have gcn : gc hp' n = .rw 0 m [] := (gc_ne _ _ hcn).trans (gc_same _ _ _)
  have hgc : ∀ k, k ≠ n → k ≠ c → gc hp' k = gc hp k := fun k hk hk2 => (gc_ne _ _ (fun e => hk2 e.symm)).trans (gc_ne _ _ (fun e => hk e.symm))
  have key : ∀ k g b d, (gc hp' k).gen = some g → rset ρ n 0 (none, 0) k g = some (some b, d) → (gc hp k).gen = some g ∧ ρ k g = some (some b, d) := by
    intro k g b d e r
    by_cases hk : k = n
    · subst hk
      rw [gcn] at e
      cases e
      rw [rset_same] at r
      cases r
    · rw [rset_ne _ _ hk] at r
      by_cases hk2 : k = c
      · subst hk2
        rw [gcc] at e
        rw [hc]
        exact ⟨e, r⟩
      · rw [hgc k hk hk2] at e
        exact ⟨e, r⟩
  have hlive : ∀ b, live (rset ρ n 0 (none, 0)) hp' b → live ρ hp b := by
    rintro b ⟨k, g, d, e, r⟩
    obtain ⟨e1, e2⟩ := key k g b d e r
    exact ⟨k, g, d, e1, e2⟩
  refine ⟨hρ, hlive, ⟨s.hh, fun k => ?_, fun k k' g g' b d d' e e' r r' => ?_, fun b hb => s.hid b (hlive b hb), fun b hb => s.lt b (hlive b hb), fun k g hk => ?_, fun k g g' mm l x e r => ?_⟩⟩
  · by_cases hk : k = n
    · subst hk
      show (gc hp' k).sat _ _ _ _
      rw [gcn]
      refine ⟨none, 0, rset_same _ _ _ _, by simp, by simp [maxLen], fun j e h => by simp at h, fun _ => rfl, fun b hb => by cases hb⟩
    · by_cases hk2 : k = c
      · subst hk2
        show (gc hp' k).sat _ _ _ _
        rw [gcc]
        have s0 := s.ch k
        rw [show gc hp k = .bx cs from hc] at s0
        obtain ⟨b, d, vs, e, h1, h2, h3, h4⟩ := s0
        refine ⟨b, d, vs, e, by rw [rset_ne _ _ hk]; exact h1, h2, by rw [List.length_set]; exact h3, fun j α v a1 a2 => ?_⟩
        rw [List.getElem?_set] at a1
        split at a1
        · rename_i hij
          subst hij
          have r := h4 i .e0 v he a2
          split at a1
          · cases a1
            cases r with
            | pu _ _ p =>
              cases p with
              | e0 a => exact .rw n 0 0 0 a none (rset_same _ _ _ _) (Nat.le_refl _) (fun b hb => by cases hb)
          · cases a1
        · exact Rel.mono (HLe.refl _) hρ (h4 j α v a1 a2)
      · show (gc hp' k).sat _ _ _ _
        rw [hgc k hk hk2]
        exact Chunk.sat_mono (HLe.refl _) hρ (fun _ _ _ _ _ => rfl) (s.ch k)
  · obtain ⟨a1, a2⟩ := key k g b d e r
    obtain ⟨b1, b2⟩ := key k' g' b d' e' r'
    exact s.inj k k' g g' b d d' a1 b1 a2 b2
  · have hk : n + 1 ≤ k := hk
    rw [rset_ne _ _ (by omega)]
    exact hf k g (by omega)
  · by_cases hk : k = n
    · subst hk
      have e : gc hp' k = .rw g mm l := e
      rw [gcn] at e
      cases e
      by_cases hg : g' = 0
      · omega
      · have : rset ρ k 0 (none, 0) k g' = ρ k g' := by simp [rset, hg]
        rw [this, hf k g' (Nat.le_refl _)] at r
        cases r
    · by_cases hk2 : k = c
      · subst hk2
        have e : gc hp' k = .rw g mm l := e
        rw [gcc] at e
        cases e
      · have e : gc hp' k = .rw g mm l := e
        rw [hgc k hk hk2] at e
        rw [rset_ne _ _ hk] at r
        exact s.gens k g g' mm l x e r
/-- A contract of a memory in which a slice that is not there yet is taken as a row of no elements. -/
theorem Meets.b0 {P : Program} {f : FuncId} {hp : CH} {n c i m : Nat} {cs : List AV} {args : List AV} {R : CH → Nat → AV → Prop} (hc : gc hp c = .bx cs) (he : cs[i]? = some .e0)
    (h0 : Meets P f ((c, .bx (cs.set i (.rw n 0 0))) :: (n, .rw 0 m []) :: hp) (n + 1) args R) : Meets P f hp n args R := by
  refine ⟨h0.1, fun h ρ w vs hs ha => ?_⟩
  obtain ⟨a1, a2, a3⟩ := Go.Proofs.Ytmcgjccheehehaa.SatH.b0 (m := m) hs hc he
  refine (h0.2 h _ w vs a3 (ha.mono (HLe.refl _) a1)).mono fun e w' ⟨v, he, h', ρ', hp', n', r', hR, hh, hr, hm, hrel, hk, hl⟩ => ?_
  exact ⟨v, he, h', ρ', hp', n', r', hR, hh, a1.trans hr, hm, hrel, ⟨hk.os, hk.tape, hk.output, hk.size, fun b hb hX => hk.block b hb fun hl => hX (a2 b hl)⟩, fun b hb => (hl b hb).imp (a2 b) id⟩
/-- The account of the objects that are seen: a box with a row. -/
def objA (c r : Nat) : Acc (List Val) where
  st v l := (v, l ++ [v])
  W l := [(c, .bx [.rw r l.length l.length]), (r, .rw l.length 5 (mapC valC l))]
  ks := [c, r]
  B l n := (l.length + n) * 80 ≤ 140737488355327
  f := 87
  caps := [.bx c 0]
theorem objA_ok {c r : Nat} (hcr : c ≠ r) : (objA c r).Ok where
  keys s := rfl
  ok s s' hp n0 h := by
    have hc := h c (by simp [objA])
    have hr := h r (by simp [objA])
    simp only [objA] at hc hr ⊢
    have hr2 : gc [(c, Chunk.bx [AV.rw r s.length s.length]), (r, Chunk.rw s.length 5 (mapC valC s))] r = .rw s.length 5 (mapC valC s) := (gc_cons_ne hcr).trans gc_cons_same
    rw [gc_cons_same] at hc
    rw [hr2] at hr
    refine ⟨hc.1, by rw [hc.2]; trivial, ?_, hr.1, by rw [hr.2]; trivial, trivial, trivial⟩
    simp [cOk, asOk, aOk]
  mono s a b h := by
    simp only [objA] at h ⊢
    omega
  step s v b hv _ h := by
    simp only [objA, List.length_append, List.length_singleton] at h ⊢
    exact ⟨by omega, hv⟩
  call s v hv _ hb hp m hk := by
    have hc := hk c (by simp [objA])
    have hr := hk r (by simp [objA])
    simp only [objA] at hc hr hb ⊢
    have hr2 : gc [(c, Chunk.bx [AV.rw r s.length s.length]), (r, Chunk.rw s.length 5 (mapC valC s))] r = .rw s.length 5 (mapC valC s) := (gc_cons_ne hcr).trans gc_cons_same
    rw [gc_cons_same] at hc
    rw [hr2] at hr
    obtain ⟨hc1, hc2⟩ := hc
    obtain ⟨hr1, hr2⟩ := hr
    refine meetsWs Try.func87 (by kernel_rfl) cc87 cr87 rfl (fun k h => ?_) (fun hp k h => ?_) fun hf => ?_
    · simp only [keys, List.map_cons, List.map_nil, List.mem_cons, List.not_mem_nil, or_false] at h
      rcases h with rfl | rfl <;> assumption
    · simp only [keys, List.map_cons, List.map_nil, List.mem_cons, List.not_mem_nil, or_false] at h
      rcases h with rfl | rfl
      · rw [List.cons_append, gc_cons_same]
        exact cOk_lt1 (ks := [k, r]) (by simp; omega) (by simp [cOk, asOk, aOk])
      · rw [List.cons_append, gc_cons_ne hcr, List.cons_append, gc_cons_same]
        trivial
    unfold ck87
    have z1 : ¬ m + 1 = c := by omega
    have z2 : ¬ m = c := by omega
    have z3 : ¬ m + 1 = r := by omega
    have z4 : ¬ m = r := by omega
    have z5 : ¬ c = r := hcr
    have z6 : ¬ r = c := fun e => hcr e.symm
    simp only [hc2, hr2, z1, z2, z3, z4, z5, z6, go_sem, ↓reduceIte, Nat.reduceEqDiff, Nat.reduceBEq, Nat.reduceAdd, Nat.reduceLeDiff, Nat.reduceLT, reduceCtorEq, Nat.reduceMul, Nat.reduceSub, Int.reduceEq, Int.reduceLT, Int.reduceLE, Int.reduceToNat]
    have f1 : ∀ z : List AV, s.length + 1 ≤ (mapC valC s ++ [z]).length := fun z => by simp
    have f2 : ∀ z : List AV, List.take (s.length + 1) (mapC valC s ++ [z]) = mapC valC s ++ [z] := fun z => List.take_of_length_le (by simp)
    have f3 : ∀ z : List AV, (mapC valC s ++ [z])[s.length]? = some z := fun z => by
      rw [List.getElem?_append_right (by simp)]
      simp
    have f4 : ∀ z y : List AV, (mapC valC s ++ [z]).set s.length y = mapC valC s ++ [y] := fun z y => by
      rw [List.set_append_right _ _ (by simp)]
      simp
    have f5 : mapC valC (s ++ [v]) = mapC valC s ++ [valC v] := by simp [mapC]
    have f6 : (s ++ [v]).length = s.length + 1 := by simp
    refine ⟨⟨by omega, by omega⟩, ?_⟩
    simp only [hc2, hr2, z1, z2, z3, z4, z5, z6, f1, f2, f3, f4, go_sem, ↓reduceIte, Nat.reduceEqDiff, Nat.reduceBEq, Nat.reduceAdd, Nat.reduceLeDiff, Nat.reduceLT, reduceCtorEq, Nat.reduceMul, Nat.reduceSub, Int.reduceEq, Int.reduceLT, Int.reduceLE, Int.reduceToNat]
    have z7 : ¬ c = m := by omega
    have z8 : ¬ r = m := by omega
    have z9 : ¬ c = m + 1 := by omega
    have z10 : ¬ r = m + 1 := by omega
    refine ⟨f1 _, ?_⟩
    simp only [hc2, hr2, z1, z2, z3, z4, z5, z6, z7, z8, z9, z10, go_sem, ↓reduceIte, Nat.reduceEqDiff, Nat.reduceBEq, Nat.reduceAdd, Nat.reduceLeDiff, Nat.reduceLT, reduceCtorEq, Nat.reduceMul, Nat.reduceSub, Int.reduceEq, Int.reduceLT, Int.reduceLE, Int.reduceToNat]
    rw [f6]
    intro j hj
    simp only [gc_cons]
    repeat' split
    all_goals first | rfl | omega
noncomputable def obSt (v : Val) (l : List Val) : Val × List Val := (v, l ++ [v])
/-- The objects at a path. -/
noncomputable def objV (p : List Hop) (v : Val) : List Val := (chg obSt p v []).2
theorem ob_eq (v : Val) : ∀ p x, chg obSt p v x = (v, x ++ objV p v) := by
  refine Val.ind (Q := fun v => ∀ p x, chg obSt p v x = (v, x ++ objV p v)) (fun v ih p x => ?_) v
  have hL : ∀ (l : List Val), (∀ y ∈ l, y ∈ v.items) → ∀ x, chgL obSt p l x = (l, x ++ l.flatMap (objV p)) := by
    intro l
    induction l with
    | nil => intro _ x; rw [chgL]; simp
    | cons y l ihl =>
      intro hm x
      rw [chgL, ih y (hm y (by simp)), ihl (fun z hz => hm z (by simp [hz]))]
      simp
  have hL := hL v.items fun y h => h
  unfold objV
  rw [chg_eq, chg_eq]
  split
  · rw [hL, hL]
    simp [Val.eta]
  · clear hL
    split
    · cases p with
      | nil => rfl
      | cons h p' =>
        dsimp only
        split
        · rename_i hc
          have hi : (ixO v h.k).toNat < v.items.length := by
            have h1 := ix_lt h.k (v.keys.take (szO v)) 0
            have h2 := szO_le v
            have h3 : ix h.k (v.keys.take (szO v)) 0 = ixO v h.k := rfl
            rw [h3] at h1
            simp at h1
            omega
          have hx : v.items[(ixO v h.k).toNat]? = some v.items[(ixO v h.k).toNat] := List.getElem?_eq_getElem hi
          rw [chgN_at obSt p' _ _ _ x hx, chgN_at obSt p' _ _ _ [] hx, ih _ (List.mem_of_getElem? hx), ih _ (List.mem_of_getElem? hx)]
          simp [Val.eta]
        · simp
    · simp
theorem objV_eq (p : List Hop) (v : Val) : objV p v =
    if v.k = 5 then v.items.flatMap (objV p)
    else if v.k = 6 then (match p with
      | [] => [v]
      | h :: p' => if h.o = typT v ∧ 0 ≤ ixO v h.k then (match v.items[(ixO v h.k).toNat]? with | some x => objV p' x | none => []) else [])
    else [] := by
  have hL : ∀ (l : List Val) x, chgL obSt p l x = (l, x ++ l.flatMap (objV p)) := by
    intro l
    induction l with
    | nil => intro x; rw [chgL]; simp
    | cons y l ihl =>
      intro x
      rw [chgL, ob_eq y, ihl]
      simp
  conv => lhs; rw [objV, chg_eq]
  split
  · rw [hL]; rfl
  · clear hL
    split
    · cases p with
      | nil => rfl
      | cons h p' =>
        dsimp only
        split
        · rename_i hc
          have hi : (ixO v h.k).toNat < v.items.length := by
            have h1 := ix_lt h.k (v.keys.take (szO v)) 0
            have h2 := szO_le v
            have h3 : ix h.k (v.keys.take (szO v)) 0 = ixO v h.k := rfl
            rw [h3] at h1
            simp at h1
            omega
          have hx : v.items[(ixO v h.k).toNat]? = some v.items[(ixO v h.k).toNat] := List.getElem?_eq_getElem hi
          rw [chgN_at obSt p' _ _ _ [] hx, ob_eq, hx]
          simp
        · rfl
    · rfl
theorem objects_ok (p : List Hop) (v : Val) (hv : v.Fit) (hp1 : p.length ≤ 1000000000) (hw : wtV v ≤ 100000000000) (hp : CH) (m : Nat) : MeetsF Try.prog 58 hp m [.ds (mapC hopC p), vx v] (.ds (mapC valC (objV p v))) := by
  have h1 := fun c r hcr => change_ok (objA_ok (c := c) (r := r) hcr) v hv hw p [] hp1 (by simp only [objA, List.length_nil]; omega)
  have e : ∀ c r, chg (objA c r).st p v [] = (v, objV p v) := fun c r => (ob_eq v p []).trans (by simp)
  simp only [e] at h1
  refine meetsF Try.func58 (by kernel_rfl) cc58 cr58 rfl fun hf => ?_; unfold ck58
  simp only [go_sem, ↓reduceIte, Nat.reduceEqDiff, Nat.reduceBEq, Nat.reduceAdd, Nat.reduceLeDiff, Nat.reduceLT, reduceCtorEq, Nat.reduceMul, Nat.reduceSub, Int.reduceEq, Int.reduceLT, Int.reduceLE, Int.reduceToNat]
  refine vcCall.x (Go.Proofs.Ytmcgjccheehehaa.Meets.b0 (c := m + 1) (i := 0) (m := 5) (cs := [.e0]) gc_cons_same rfl (h1 (m + 1) (m + 2) (by omega) _ _ fun k hk => ?_)) ?_
  · simp only [objA, List.mem_cons, List.not_mem_nil, or_false] at hk ⊢
    rcases hk with rfl | rfl
    · refine ⟨by omega, ?_⟩
      rw [gc_cons_same, gc_cons_same]
      rfl
    · refine ⟨by omega, ?_⟩
      rw [gc_cons_ne (by omega), gc_cons_same, gc_cons_ne (by omega), gc_cons_same]
      rfl
  simp only [objA, List.set_cons_zero, List.cons_append, List.nil_append]
  simp only [go_sem, ↓reduceIte, Nat.reduceEqDiff, Nat.reduceBEq, Nat.reduceAdd, Nat.reduceLeDiff, Nat.reduceLT, reduceCtorEq, Nat.reduceMul, Nat.reduceSub, Int.reduceEq, Int.reduceLT, Int.reduceLE, Int.reduceToNat]
end Go.Proofs.Ytmcgjccheehehaa
