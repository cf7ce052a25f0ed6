/-
  The parts CmTD of the proof, in one file. Conditions: none.
-/
import Derived.Test.YtgollgfifnmaaaaDoorCmP452
namespace Go.Eng
set_option linter.unusedVariables false
/-- Empty slices in an element of a slice, as lists. -/
theorem PRel.ds_set {h : HP} {L : List (List AV)} {v : Value} {j : Nat} {e e' : List AV} (r : PRel h (.ds (L.set j e)) v) (hl : e'.length = e.length) (hc : ∀ (q : Nat) α β, e[q]? = some α → e'[q]? = some β → β = α ∨ (α = .e0 ∧ β = .ds [])) : PRel h (.ds (L.set j e')) v := by
  generalize hA : L.set j e = A at r
  cases r with
  | ds l n a cap us h1 h2 h3 h4 =>
    have hlen : A.length = (L.set j e').length := by rw [← hA, List.length_set, List.length_set]
    rw [hlen]
    have hel : ∀ (i : Nat) x', (L.set j e')[i]? = some x' → ∃ x, A[i]? = some x ∧ x'.length = x.length ∧ ∀ (q : Nat) β, x'[q]? = some β → ∃ α, x[q]? = some α ∧ (β = α ∨ (α = .e0 ∧ β = .ds [])) := fun i x' hx => by
      rw [← hA]
      rw [List.getElem?_set] at hx ⊢
      by_cases c : j = i
      · rw [if_pos c] at hx ⊢
        split at hx
        · rename_i hlt
          rw [if_pos hlt]
          cases hx
          refine ⟨e, rfl, hl, fun q β hq => ?_⟩
          obtain ⟨α, hα⟩ : ∃ α, e[q]? = some α := ⟨e[q]'(by have := (List.getElem?_eq_some_iff.1 hq).1; omega), by simp [show q < e.length by have := (List.getElem?_eq_some_iff.1 hq).1; omega]⟩
          exact ⟨α, hα, hc q α β hα hq⟩
        · cases hx
      · rw [if_neg c] at hx ⊢
        exact ⟨x', hx, rfl, fun q β hq => ⟨β, hq, .inl rfl⟩⟩
    refine .ds _ n a cap us (by rw [← hlen]; exact h1) (fun i x' hx => ?_) (fun i x' q β hx hq => ?_) (fun hne => ?_)
    · obtain ⟨x, e1, e2, _⟩ := hel i x' hx
      rw [e2]; exact h2 i x e1
    · obtain ⟨x, e1, _, e3⟩ := hel i x' hx
      obtain ⟨α, e4, e5⟩ := e3 q β hq
      have p := h3 i x q α e1 e4
      rcases e5 with rfl | ⟨rfl, rfl⟩
      · exact p
      · generalize us i q = u at p
        cases p with
        | e0 a' => exact .ds [] 0 a' 0 (fun _ _ => undef) (Nat.le_refl _) (fun j e h => by simp at h) (fun j e q α h => by simp at h) (fun h => absurd rfl h)
    · have : A ≠ [] := fun hh => hne (List.eq_nil_of_length_eq_zero (by rw [← hlen, hh]; rfl))
      obtain ⟨b, off, e1, e2⟩ := h4 this
      refine ⟨b, off, e1, fun i x' q β hx hq => ?_⟩
      obtain ⟨x, e3, _, e4⟩ := hel i x' hx
      obtain ⟨α, e5, _⟩ := e4 q β hq
      exact e2 i x q α e3 e5
theorem MeetsF.arg {P : Program} {f : FuncId} {hp : CH} {n : Nat} {args args' : List AV} {i : Nat} {α β r : AV} (hi : args[i]? = some α) (ha : args' = args.set i β) (hr : ∀ h ρ v, Rel h ρ α v → Rel h ρ β v) (c : MeetsF P f hp n args' r) : MeetsF P f hp n args r := by
  subst ha
  refine ⟨c.1, fun h ρ w vs hs ra => c.2 h ρ w vs hs ⟨by rw [List.length_set]; exact ra.1, fun j γ v h1 h2 => ?_⟩⟩
  by_cases e : i = j
  · subst e
    rw [List.getElem?_set_self (List.getElem?_eq_some_iff.1 hi).1] at h1
    cases h1
    exact hr h ρ v (ra.2 i _ v hi h2)
  · rw [List.getElem?_set_ne e] at h1
    exact ra.2 j γ v h1 h2
theorem Rel.ag_at {h : HP} {ρ : RO} {l l' : List AV} {v : Value} {i : Nat} {α β : AV} (hi : l[i]? = some α) (hl : l' = l.set i β) (hr : ∀ v, Rel h ρ α v → Rel h ρ β v) (r : Rel h ρ (.ag l) v) : Rel h ρ (.ag l') v := by
  subst hl
  obtain ⟨vs, rfl, ra⟩ := r.agg
  refine .ag _ _ (by rw [List.length_set]; exact ra.1) fun j γ v h1 h2 => ?_
  by_cases e : i = j
  · subst e
    rw [List.getElem?_set_self (List.getElem?_eq_some_iff.1 hi).1] at h1
    cases h1
    exact hr v (ra.2 i _ v hi h2)
  · rw [List.getElem?_set_ne e] at h1
    exact ra.2 j γ v h1 h2
end Go.Eng
namespace Go.Proofs.YtgollgfifnmaaaaDoor
open Go.Eng
set_option linter.unusedVariables false
set_option linter.unusedSimpArgs false
set_option maxRecDepth 20000
set_option maxHeartbeats 1000000
theorem without_ok (l : List Prb) (hl : l.length ≤ 1000000000000) (key : ByteArray) (hp : CH) (m : Nat) : MeetsF Tryd.prog 27 hp m [.ds (mapC prbC l), .s key] (.ds (mapC prbC (l.filter (outP key)))) := by
  obtain ⟨R, hR⟩ : ∃ R, l.filter (outP key) = R := ⟨_, rfl⟩
  rw [hR]
  refine meetsF Tryd.func27 (by kernel_rfl) cc27 cr27 rfl fun hf => ?_; unfold ck27
  simp only [go_sem, ↓reduceIte, Nat.reduceEqDiff, Nat.reduceBEq, Nat.reduceAdd, Nat.reduceLeDiff, Nat.reduceLT, reduceCtorEq, Nat.reduceMul, Nat.reduceSub, Int.reduceEq, Int.reduceLT, Int.reduceLE, Int.reduceToNat]
  refine loop (fun p : Nat × Nat => ⟨[(0, .ds (mapC prbC l)), (1, .s key), (5, .rw m ((l.take p.1).filter (outP key)).length ((l.take p.1).filter (outP key)).length), (6, .i .i64 p.1)], (m, .rw ((l.take p.1).filter (outP key)).length 2 (mapC prbC ((l.take p.1).filter (outP key)))) :: hp, p.2⟩)
    (fun p => p.1 ≤ l.length ∧ m + 1 ≤ p.2) (fun p => l.length - p.1) (0, m + 1) ?_ ?_ (fun ⟨j, k⟩ hj => ?_)
  · exact ⟨by simp, by simp⟩
  · refine (weak_e0 (t := 5) (m := 2) ?_).trans (weak_ok ?_ (Sub.cons ?_ (Sub.base hf ?_)) (Nat.le_refl _))
    all_goals (simp (disch := omega) only [ite_ne, List.take_zero, List.filter_nil, List.length_nil, go_sem, ↓reduceIte, Nat.reduceEqDiff, Nat.reduceBEq, Nat.reduceAdd, Nat.reduceLeDiff, Nat.reduceLT, reduceCtorEq, Nat.reduceMul, Nat.reduceSub, Int.reduceEq, Int.reduceLT, Int.reduceLE, Int.reduceToNat])
  dsimp only at hj
  obtain ⟨hj1, hj2⟩ := hj
  have hol : ((l.take j).filter (outP key)).length ≤ j := by
    have := List.length_filter_le (outP key) (l.take j)
    rw [List.length_take] at this
    omega
  simp (disch := omega) only [ite_ne, go_sem, ↓reduceIte, Nat.reduceEqDiff, Nat.reduceBEq, Nat.reduceAdd, Nat.reduceLeDiff, Nat.reduceLT, reduceCtorEq, Nat.reduceMul, Nat.reduceSub, Int.reduceEq, Int.reduceLT, Int.reduceLE, Int.reduceToNat]
  refine cdK_of (fun q => ?_) (fun q => ?_)
  · have q : j < l.length := by simpa using q
    obtain ⟨x, ex⟩ : ∃ x, l[j]? = some x := ⟨l[j], by simp [q]⟩
    have hst : (l.take (j + 1)).filter (outP key) = if outP key x = true then (l.take j).filter (outP key) ++ [x] else (l.take j).filter (outP key) := by
      rw [← take_snoc ex, List.filter_append]
      by_cases c : outP key x = true
      · rw [if_pos c, List.filter_cons_of_pos c]; rfl
      · rw [if_neg c, List.filter_cons_of_neg c]; simp
    obtain ⟨F, hF⟩ : ∃ F, (l.take j).filter (outP key) = F := ⟨_, rfl⟩
    rw [hF] at hst hol
    have hg : mapC prbC F ++ [[AV.ds (mapC valC x.p), AV.s x.t]] = mapC prbC (F ++ [x]) := mapC_snoc prbC F x
    cases hxp : x.p with
    | nil =>
      have ho : outP key x = true := by rw [outP, hxp]
      rw [if_pos ho] at hst
      rw [hxp] at hg
      have hg' := hg
      simp only [mapC_nil] at hg'
      simp (disch := omega) only [ite_ne, q, hF, hxp, getK_s (mapC_get prbC ex), mapC_get prbC ex, go_sem, ↓reduceIte, Nat.reduceEqDiff, Nat.reduceBEq, Nat.reduceAdd, Nat.reduceLeDiff, Nat.reduceLT, reduceCtorEq, Nat.reduceMul, Nat.reduceSub, Int.reduceEq, Int.reduceLT, Int.reduceLE, Int.reduceToNat]
      refine ⟨by omega, by omega, (j + 1, _), ⟨by dsimp only; omega, by dsimp only; omega⟩, by dsimp only; omega, weak_ok ?_ (Sub.cons ?_ (Sub.base hf ?_)) (Nat.le_refl _)⟩
      all_goals
        simp (disch := omega) only [ite_ne, hst, hg, hg', wr64s j (by omega), List.length_append, List.length_cons, List.length_nil, go_sem, ↓reduceIte, Nat.reduceEqDiff, Nat.reduceBEq, Nat.reduceAdd, Nat.reduceLeDiff, Nat.reduceLT, reduceCtorEq, Nat.reduceMul, Nat.reduceSub, Int.reduceEq, Int.reduceLT, Int.reduceLE, Int.reduceToNat]
    | cons s r =>
      have hl3 : decide (((r.length + 1 : Nat) : Int) = 0) = false := decide_eq_false (by omega)
      rw [hxp] at hg
      have hg' := hg
      simp only [mapC_cons, valC_eq] at hg'
      by_cases k3 : s.k = 3
      · have d3 : decide (s.k = 3) = true := decide_eq_true k3
        by_cases ks : s.s = key
        · have ds : decide (s.s = key) = true := decide_eq_true ks
          have ho : ¬ outP key x = true := by rw [outP, hxp]; simp [k3, ks]
          rw [if_neg ho] at hst
          simp (disch := omega) only [ite_ne, q, hF, hxp, hl3, d3, ds, getK_s (mapC_get prbC ex), mapC_get prbC ex, go_sem, ↓reduceIte, Nat.reduceEqDiff, Nat.reduceBEq, Nat.reduceAdd, Nat.reduceLeDiff, Nat.reduceLT, reduceCtorEq, Nat.reduceMul, Nat.reduceSub, Int.reduceEq, Int.reduceLT, Int.reduceLE, Int.reduceToNat]
          refine ⟨(j + 1, _), ⟨by dsimp only; omega, by dsimp only; omega⟩, by dsimp only; omega, weak_ok ?_ (Sub.cons ?_ (Sub.base hf ?_)) (Nat.le_refl _)⟩
          all_goals
            simp (disch := omega) only [ite_ne, hst, wr64s j (by omega), go_sem, ↓reduceIte, Nat.reduceEqDiff, Nat.reduceBEq, Nat.reduceAdd, Nat.reduceLeDiff, Nat.reduceLT, reduceCtorEq, Nat.reduceMul, Nat.reduceSub, Int.reduceEq, Int.reduceLT, Int.reduceLE, Int.reduceToNat]
        · have ds : decide (s.s = key) = false := decide_eq_false ks
          have ho : outP key x = true := by rw [outP, hxp]; simp [k3, ks]
          rw [if_pos ho] at hst
          simp (disch := omega) only [ite_ne, q, hF, hxp, hl3, d3, ds, getK_s (mapC_get prbC ex), mapC_get prbC ex, go_sem, ↓reduceIte, Nat.reduceEqDiff, Nat.reduceBEq, Nat.reduceAdd, Nat.reduceLeDiff, Nat.reduceLT, reduceCtorEq, Nat.reduceMul, Nat.reduceSub, Int.reduceEq, Int.reduceLT, Int.reduceLE, Int.reduceToNat]
          refine ⟨by omega, by omega, (j + 1, _), ⟨by dsimp only; omega, by dsimp only; omega⟩, by dsimp only; omega, weak_ok ?_ (Sub.cons ?_ (Sub.base hf ?_)) (Nat.le_refl _)⟩
          all_goals
            simp (disch := omega) only [ite_ne, hst, hg, hg', wr64s j (by omega), List.length_append, List.length_cons, List.length_nil, go_sem, ↓reduceIte, Nat.reduceEqDiff, Nat.reduceBEq, Nat.reduceAdd, Nat.reduceLeDiff, Nat.reduceLT, reduceCtorEq, Nat.reduceMul, Nat.reduceSub, Int.reduceEq, Int.reduceLT, Int.reduceLE, Int.reduceToNat]
      · have d3 : decide (s.k = 3) = false := decide_eq_false k3
        have ho : outP key x = true := by rw [outP, hxp]; simp [k3]
        rw [if_pos ho] at hst
        simp (disch := omega) only [ite_ne, q, hF, hxp, hl3, d3, getK_s (mapC_get prbC ex), mapC_get prbC ex, go_sem, ↓reduceIte, Nat.reduceEqDiff, Nat.reduceBEq, Nat.reduceAdd, Nat.reduceLeDiff, Nat.reduceLT, reduceCtorEq, Nat.reduceMul, Nat.reduceSub, Int.reduceEq, Int.reduceLT, Int.reduceLE, Int.reduceToNat]
        refine ⟨by omega, by omega, (j + 1, _), ⟨by dsimp only; omega, by dsimp only; omega⟩, by dsimp only; omega, weak_ok ?_ (Sub.cons ?_ (Sub.base hf ?_)) (Nat.le_refl _)⟩
        all_goals
          simp (disch := omega) only [ite_ne, hst, hg, hg', wr64s j (by omega), List.length_append, List.length_cons, List.length_nil, go_sem, ↓reduceIte, Nat.reduceEqDiff, Nat.reduceBEq, Nat.reduceAdd, Nat.reduceLeDiff, Nat.reduceLT, reduceCtorEq, Nat.reduceMul, Nat.reduceSub, Int.reduceEq, Int.reduceLT, Int.reduceLE, Int.reduceToNat]
  · have q : j = l.length := by simp at q; omega
    subst q
    rw [List.take_length, hR]
    simp (disch := omega) only [ite_ne, go_sem, ↓reduceIte, Nat.reduceEqDiff, Nat.reduceBEq, Nat.reduceAdd, Nat.reduceLeDiff, Nat.reduceLT, reduceCtorEq, Nat.reduceMul, Nat.reduceSub, Int.reduceEq, Int.reduceLT, Int.reduceLE, Int.reduceToNat]
theorem wtL_set : ∀ (l : List Val) (j : Nat), wtL (l.set j zVal) ≤ wtL l
  | [], j => Nat.le_refl _
  | x :: l, 0 => by
    rw [List.set_cons_zero, wtL, wtL]
    have h1 : wtV zVal = 1 := by rw [wtV_eq]; rfl
    have h2 := wtV_pos x
    omega
  | x :: l, j + 1 => by
    rw [List.set_cons_succ, wtL, wtL]
    have := wtL_set l j
    omega
theorem map_set' (l : List Val) (j : Nat) : (mapC valC l).set j [.i .i64 0, .i .i64 0, .s ⟨#[]⟩, .ds [], .ds []] = mapC valC (l.set j zVal) := by
  unfold mapC
  rw [List.map_set]
  rfl
theorem set_rel {h : HP} {ρ : RO} {v : Val} {j : Nat} {u : Value} (r : Rel h ρ (.ag [.i .i64 v.k, .i .i64 v.n, .s v.s, .ds ((mapC valC v.items).set j [.i .i64 0, .i .i64 0, .s ⟨#[]⟩, .e0, .e0]), .ds (stC v.keys)]) u) : Rel h ρ (.ag [.i .i64 v.k, .i .i64 v.n, .s v.s, .ds (mapC valC (v.items.set j zVal)), .ds (stC v.keys)]) u := by
  refine Rel.ag_at (i := 3) rfl rfl (fun x rx => ?_) r
  rw [← map_set']
  refine .pu _ _ ((AV.pur_rel rx rfl).ds_set rfl fun q α β h1 h2 => ?_)
  match q, h1, h2 with
  | 0, h1, h2 => cases h1; cases h2; exact .inl rfl
  | 1, h1, h2 => cases h1; cases h2; exact .inl rfl
  | 2, h1, h2 => cases h1; cases h2; exact .inl rfl
  | 3, h1, h2 => cases h1; cases h2; exact .inr ⟨rfl, rfl⟩
  | 4, h1, h2 => cases h1; cases h2; exact .inr ⟨rfl, rfl⟩
  | n + 5, h1, h2 => cases h1
theorem rIsNNx (p : Pk) (h : p.tw.length ≤ 1000000000000) : ∀ hp m, MeetsF Tryd.prog 25 hp m [rfx p.tn p.tw] (.b (nnW p.tw)) := rIsNN_ok p.tn p.tw h
theorem lawCuts22 (doc : List Dfn) (root : ByteArray) (l : List Pk) (v : Val) (h : CQ doc l v) (n : Int) (hn : -9223372036854775808 ≤ n ∧ n ≤ 9223372036854775807) (hp : CH) (m : Nat) : MeetsF Tryd.prog 8 hp m [cse doc root l v, .i .i64 n] (.b true) := by
  have hE := expected_ok doc root l v h
  have hw := h.vs.w
  have h1 := tRun_ok doc h.d.ok root l h.p v h.vs.f h.vs.r (by omega) h.cnt
  obtain ⟨f1, f2, f3⟩ := run_fit h root
  have li := h.vs.f.i
  have lk := h.vs.f.l
  by_cases ce : expV doc l v = true
  rotate_left
  · have ce : expV doc l v = false := by simpa using ce
    rw [ce] at hE
    refine meetsF Tryd.func8 (by kernel_rfl) cc8 cr8 rfl fun hf => ?_; unfold ck8
    simp only [go_sem, ↓reduceIte, Nat.reduceEqDiff, Nat.reduceBEq, Nat.reduceAdd, Nat.reduceLeDiff, Nat.reduceLT, reduceCtorEq, Nat.reduceMul, Nat.reduceSub, Int.reduceEq, Int.reduceLT, Int.reduceLE, Int.reduceToNat]
    refine vcCall.f (hE _ _) ?_
    simp (disch := omega) only [ite_ne, go_sem, ↓reduceIte, Nat.reduceEqDiff, Nat.reduceBEq, Nat.reduceAdd, Nat.reduceLeDiff, Nat.reduceLT, reduceCtorEq, Nat.reduceMul, Nat.reduceSub, Int.reduceEq, Int.reduceLT, Int.reduceLE, Int.reduceToNat]
    refine vcCall.f (exh22_ok _ _) ?_
    simp (disch := omega) only [ite_ne, go_sem, ↓reduceIte, Nat.reduceEqDiff, Nat.reduceBEq, Nat.reduceAdd, Nat.reduceLeDiff, Nat.reduceLT, reduceCtorEq, Nat.reduceMul, Nat.reduceSub, Int.reduceEq, Int.reduceLT, Int.reduceLE, Int.reduceToNat]
  rw [ce] at hE
  by_cases c1 : n < 1
  · have d1 : decide (n < 1) = true := decide_eq_true c1
    refine meetsF Tryd.func8 (by kernel_rfl) cc8 cr8 rfl fun hf => ?_; unfold ck8
    simp only [go_sem, ↓reduceIte, Nat.reduceEqDiff, Nat.reduceBEq, Nat.reduceAdd, Nat.reduceLeDiff, Nat.reduceLT, reduceCtorEq, Nat.reduceMul, Nat.reduceSub, Int.reduceEq, Int.reduceLT, Int.reduceLE, Int.reduceToNat]
    refine vcCall.f (hE _ _) ?_
    simp (disch := omega) only [ite_ne, d1, go_sem, ↓reduceIte, Nat.reduceEqDiff, Nat.reduceBEq, Nat.reduceAdd, Nat.reduceLeDiff, Nat.reduceLT, reduceCtorEq, Nat.reduceMul, Nat.reduceSub, Int.reduceEq, Int.reduceLT, Int.reduceLE, Int.reduceToNat]
    refine vcCall.f (exh22_ok _ _) ?_
    simp (disch := omega) only [ite_ne, go_sem, ↓reduceIte, Nat.reduceEqDiff, Nat.reduceBEq, Nat.reduceAdd, Nat.reduceLeDiff, Nat.reduceLT, reduceCtorEq, Nat.reduceMul, Nat.reduceSub, Int.reduceEq, Int.reduceLT, Int.reduceLE, Int.reduceToNat]
  have d1 : decide (n < 1) = false := decide_eq_false c1
  by_cases c2 : (v.keys.length : Int) ≤ n
  · have d2 : decide ((v.keys.length : Int) ≤ n) = true := decide_eq_true c2
    refine meetsF Tryd.func8 (by kernel_rfl) cc8 cr8 rfl fun hf => ?_; unfold ck8
    simp only [go_sem, ↓reduceIte, Nat.reduceEqDiff, Nat.reduceBEq, Nat.reduceAdd, Nat.reduceLeDiff, Nat.reduceLT, reduceCtorEq, Nat.reduceMul, Nat.reduceSub, Int.reduceEq, Int.reduceLT, Int.reduceLE, Int.reduceToNat]
    refine vcCall.f (hE _ _) ?_
    simp (disch := omega) only [ite_ne, d1, d2, go_sem, ↓reduceIte, Nat.reduceEqDiff, Nat.reduceBEq, Nat.reduceAdd, Nat.reduceLeDiff, Nat.reduceLT, reduceCtorEq, Nat.reduceMul, Nat.reduceSub, Int.reduceEq, Int.reduceLT, Int.reduceLE, Int.reduceToNat]
    refine vcCall.f (exh22_ok _ _) ?_
    simp (disch := omega) only [ite_ne, go_sem, ↓reduceIte, Nat.reduceEqDiff, Nat.reduceBEq, Nat.reduceAdd, Nat.reduceLeDiff, Nat.reduceLT, reduceCtorEq, Nat.reduceMul, Nat.reduceSub, Int.reduceEq, Int.reduceLT, Int.reduceLE, Int.reduceToNat]
  have d2 : decide ((v.keys.length : Int) ≤ n) = false := decide_eq_false c2
  by_cases c3 : v.keys.length = v.items.length
  rotate_left
  · have d3 : decide ((v.keys.length : Int) = (v.items.length : Int)) = false := decide_eq_false (by omega)
    refine meetsF Tryd.func8 (by kernel_rfl) cc8 cr8 rfl fun hf => ?_; unfold ck8
    simp only [go_sem, ↓reduceIte, Nat.reduceEqDiff, Nat.reduceBEq, Nat.reduceAdd, Nat.reduceLeDiff, Nat.reduceLT, reduceCtorEq, Nat.reduceMul, Nat.reduceSub, Int.reduceEq, Int.reduceLT, Int.reduceLE, Int.reduceToNat]
    refine vcCall.f (hE _ _) ?_
    simp (disch := omega) only [ite_ne, d1, d2, d3, go_sem, ↓reduceIte, Nat.reduceEqDiff, Nat.reduceBEq, Nat.reduceAdd, Nat.reduceLeDiff, Nat.reduceLT, reduceCtorEq, Nat.reduceMul, Nat.reduceSub, Int.reduceEq, Int.reduceLT, Int.reduceLE, Int.reduceToNat]
    refine vcCall.f (exh22_ok _ _) ?_
    simp (disch := omega) only [ite_ne, go_sem, ↓reduceIte, Nat.reduceEqDiff, Nat.reduceBEq, Nat.reduceAdd, Nat.reduceLeDiff, Nat.reduceLT, reduceCtorEq, Nat.reduceMul, Nat.reduceSub, Int.reduceEq, Int.reduceLT, Int.reduceLE, Int.reduceToNat]
  have d3 : decide ((v.keys.length : Int) = (v.items.length : Int)) = true := decide_eq_true (by omega)
  obtain ⟨k0, e0⟩ : ∃ k0, v.keys[0]? = some k0 := ⟨v.keys[0]'(by omega), by simp [show 0 < v.keys.length by omega]⟩
  have q0 : 0 < v.keys.length := by omega
  by_cases c4 : k0 = sT ∧ v.k = 6
  rotate_left
  · have d4 : (!decide (k0 = sT) || !decide (v.k = 6)) = true := by
      by_cases e : k0 = sT
      · have : ¬ v.k = 6 := fun q => c4 ⟨e, q⟩
        simp [this]
      · simp [e]
    refine meetsF Tryd.func8 (by kernel_rfl) cc8 cr8 rfl fun hf => ?_; unfold ck8
    simp only [go_sem, ↓reduceIte, Nat.reduceEqDiff, Nat.reduceBEq, Nat.reduceAdd, Nat.reduceLeDiff, Nat.reduceLT, reduceCtorEq, Nat.reduceMul, Nat.reduceSub, Int.reduceEq, Int.reduceLT, Int.reduceLE, Int.reduceToNat]
    refine vcCall.f (hE _ _) ?_
    simp (disch := omega) only [ite_ne, d1, d2, d3, q0, getK_s (mapC_get st1 e0), mapC_get st1 e0, go_sem, ↓reduceIte, Nat.reduceEqDiff, Nat.reduceBEq, Nat.reduceAdd, Nat.reduceLeDiff, Nat.reduceLT, reduceCtorEq, Nat.reduceMul, Nat.reduceSub, Int.reduceEq, Int.reduceLT, Int.reduceLE, Int.reduceToNat]
    refine cdK_of (fun _ => ?_) (fun c => ?_)
    · simp (disch := omega) only [ite_ne, go_sem, ↓reduceIte, Nat.reduceEqDiff, Nat.reduceBEq, Nat.reduceAdd, Nat.reduceLeDiff, Nat.reduceLT, reduceCtorEq, Nat.reduceMul, Nat.reduceSub, Int.reduceEq, Int.reduceLT, Int.reduceLE, Int.reduceToNat]
      refine vcCall.f (exh22_ok _ _) ?_
      simp (disch := omega) only [ite_ne, go_sem, ↓reduceIte, Nat.reduceEqDiff, Nat.reduceBEq, Nat.reduceAdd, Nat.reduceLeDiff, Nat.reduceLT, reduceCtorEq, Nat.reduceMul, Nat.reduceSub, Int.reduceEq, Int.reduceLT, Int.reduceLE, Int.reduceToNat]
    · have c : (!decide (k0 = sT) || !decide (v.k = 6)) = false := c
      rw [d4] at c
      cases c
  obtain ⟨rfl, h6⟩ := c4
  have d4 : decide (v.k = 6) = true := decide_eq_true h6
  obtain ⟨i, rfl⟩ : ∃ i : Nat, n = i := ⟨n.toNat, by omega⟩
  have qi : i < v.keys.length := by omega
  obtain ⟨key, ek⟩ : ∃ key, v.keys[i]? = some key := ⟨v.keys[i], by simp [qi]⟩
  refine meetsF Tryd.func8 (by kernel_rfl) cc8 cr8 rfl fun hf => ?_; unfold ck8
  simp only [go_sem, ↓reduceIte, Nat.reduceEqDiff, Nat.reduceBEq, Nat.reduceAdd, Nat.reduceLeDiff, Nat.reduceLT, reduceCtorEq, Nat.reduceMul, Nat.reduceSub, Int.reduceEq, Int.reduceLT, Int.reduceLE, Int.reduceToNat]
  refine vcCall.f (hE _ _) ?_
  simp (disch := omega) only [ite_ne, d1, d2, d3, d4, q0, qi, getK_s (mapC_get st1 e0), getK_s (mapC_get st1 ek), mapC_get st1 e0, go_sem, ↓reduceIte, Nat.reduceEqDiff, Nat.reduceBEq, Nat.reduceAdd, Nat.reduceLeDiff, Nat.reduceLT, reduceCtorEq, Nat.reduceMul, Nat.reduceSub, Int.reduceEq, Int.reduceLT, Int.reduceLE, Int.reduceToNat]
  refine cdK_of (fun c => by have c : (!decide (sT = sT)) = true := c; simp at c) (fun _ => ?_)
  simp (disch := omega) only [ite_ne, d1, d2, d3, d4, q0, qi, getK_s (mapC_get st1 e0), getK_s (mapC_get st1 ek), mapC_get st1 e0, mapC_get st1 ek, go_sem, ↓reduceIte, Nat.reduceEqDiff, Nat.reduceBEq, Nat.reduceAdd, Nat.reduceLeDiff, Nat.reduceLT, reduceCtorEq, Nat.reduceMul, Nat.reduceSub, Int.reduceEq, Int.reduceLT, Int.reduceLE, Int.reduceToNat]
  refine loop (fun p : Nat × Nat => ⟨[(1, .i .i64 i), (2, .bx m 0), (5, .s key), (6, .i .i64 p.1)], (m, .bx [.ds (mapC dfC doc), .s root, .ds (mapC pkC l), .i .i64 v.k, .i .i64 v.n, .s v.s, .ds (mapC valC v.items), .ds (stC v.keys)]) :: hp, p.2⟩)
    (fun p => p.1 ≤ l.length ∧ m + 1 ≤ p.2 ∧ ∀ p' ∈ l.take p.1, p'.key = key → nnW p'.tw = false) (fun p => l.length - p.1) (0, m + 1) ?_ ?_ (fun ⟨j, k⟩ hj => ?_)
  · exact ⟨by simp, by simp, by simp⟩
  · refine weak_ok ?_ (Sub.cons ?_ (Sub.base hf ?_)) (Nat.le_refl _)
    all_goals (simp (disch := omega) only [ite_ne, go_sem, ↓reduceIte, Nat.reduceEqDiff, Nat.reduceBEq, Nat.reduceAdd, Nat.reduceLeDiff, Nat.reduceLT, reduceCtorEq, Nat.reduceMul, Nat.reduceSub, Int.reduceEq, Int.reduceLT, Int.reduceLE, Int.reduceToNat])
  dsimp only at hj
  obtain ⟨hj1, hj2, hj3⟩ := hj
  have hpl := h.p.len
  simp (disch := omega) only [ite_ne, go_sem, ↓reduceIte, Nat.reduceEqDiff, Nat.reduceBEq, Nat.reduceAdd, Nat.reduceLeDiff, Nat.reduceLT, reduceCtorEq, Nat.reduceMul, Nat.reduceSub, Int.reduceEq, Int.reduceLT, Int.reduceLE, Int.reduceToNat]
  refine cdK_of (fun q => ?_) (fun q => ?_)
  · have q : j < l.length := by simpa using q
    obtain ⟨x, ex⟩ : ∃ x, l[j]? = some x := ⟨l[j], by simp [q]⟩
    have hxm := List.mem_of_getElem? ex
    have hnn := rIsNNx x (h.p.t hxm)
    have dk : ∀ b, decide (x.key = key) = b → True := fun _ _ => trivial
    by_cases ck : x.key = key
    · have ckd : decide (x.key = key) = true := decide_eq_true ck
      simp (disch := omega) only [ite_ne, q, ckd, getK_s (mapC_get pkC ex), mapC_get pkC ex, pkC_eq, go_sem, ↓reduceIte, Nat.reduceEqDiff, Nat.reduceBEq, Nat.reduceAdd, Nat.reduceLeDiff, Nat.reduceLT, reduceCtorEq, Nat.reduceMul, Nat.reduceSub, Int.reduceEq, Int.reduceLT, Int.reduceLE, Int.reduceToNat]
      refine gCall.f (fun _ => hnn _ _) ?_
      simp (disch := omega) only [ite_ne, go_sem, ↓reduceIte, Nat.reduceEqDiff, Nat.reduceBEq, Nat.reduceAdd, Nat.reduceLeDiff, Nat.reduceLT, reduceCtorEq, Nat.reduceMul, Nat.reduceSub, Int.reduceEq, Int.reduceLT, Int.reduceLE, Int.reduceToNat]
      refine cdK_of (fun c => ?_) (fun c => ?_)
      · simp (disch := omega) only [ite_ne, go_sem, ↓reduceIte, Nat.reduceEqDiff, Nat.reduceBEq, Nat.reduceAdd, Nat.reduceLeDiff, Nat.reduceLT, reduceCtorEq, Nat.reduceMul, Nat.reduceSub, Int.reduceEq, Int.reduceLT, Int.reduceLE, Int.reduceToNat]
        refine vcCall.f (exh22_ok _ _) ?_
        simp (disch := omega) only [ite_ne, go_sem, ↓reduceIte, Nat.reduceEqDiff, Nat.reduceBEq, Nat.reduceAdd, Nat.reduceLeDiff, Nat.reduceLT, reduceCtorEq, Nat.reduceMul, Nat.reduceSub, Int.reduceEq, Int.reduceLT, Int.reduceLE, Int.reduceToNat]
      · simp (disch := omega) only [ite_ne, go_sem, ↓reduceIte, Nat.reduceEqDiff, Nat.reduceBEq, Nat.reduceAdd, Nat.reduceLeDiff, Nat.reduceLT, reduceCtorEq, Nat.reduceMul, Nat.reduceSub, Int.reduceEq, Int.reduceLT, Int.reduceLE, Int.reduceToNat]
        refine ⟨(j + 1, _), ⟨by dsimp only; omega, by dsimp only; omega, ?_⟩, by dsimp only; omega, weak_ok ?_ (Sub.cons ?_ (Sub.base hf ?_)) (Nat.le_refl _)⟩
        · intro p' hp'
          rw [← take_snoc ex] at hp'
          rcases List.mem_append.1 hp' with h' | h'
          · exact hj3 p' h'
          · rw [List.mem_singleton.1 h']; exact fun _ => c
        all_goals
          simp (disch := omega) only [ite_ne, wr64s j (by omega), go_sem, ↓reduceIte, Nat.reduceEqDiff, Nat.reduceBEq, Nat.reduceAdd, Nat.reduceLeDiff, Nat.reduceLT, reduceCtorEq, Nat.reduceMul, Nat.reduceSub, Int.reduceEq, Int.reduceLT, Int.reduceLE, Int.reduceToNat]
    · have ckd : decide (x.key = key) = false := decide_eq_false ck
      simp (disch := omega) only [ite_ne, q, ckd, getK_s (mapC_get pkC ex), mapC_get pkC ex, pkC_eq, go_sem, ↓reduceIte, Nat.reduceEqDiff, Nat.reduceBEq, Nat.reduceAdd, Nat.reduceLeDiff, Nat.reduceLT, reduceCtorEq, Nat.reduceMul, Nat.reduceSub, Int.reduceEq, Int.reduceLT, Int.reduceLE, Int.reduceToNat]
      refine gCall.f (r := .b true) (fun h => by cases h) ?_
      simp (disch := omega) only [ite_ne, go_sem, ↓reduceIte, Nat.reduceEqDiff, Nat.reduceBEq, Nat.reduceAdd, Nat.reduceLeDiff, Nat.reduceLT, reduceCtorEq, Nat.reduceMul, Nat.reduceSub, Int.reduceEq, Int.reduceLT, Int.reduceLE, Int.reduceToNat]
      refine ⟨(j + 1, _), ⟨by dsimp only; omega, by dsimp only; omega, ?_⟩, by dsimp only; omega, weak_ok ?_ (Sub.cons ?_ (Sub.base hf ?_)) (Nat.le_refl _)⟩
      · intro p' hp'
        rw [← take_snoc ex] at hp'
        rcases List.mem_append.1 hp' with h' | h'
        · exact hj3 p' h'
        · rw [List.mem_singleton.1 h']; exact fun h' => absurd h' ck
      all_goals
        simp (disch := omega) only [ite_ne, wr64s j (by omega), go_sem, ↓reduceIte, Nat.reduceEqDiff, Nat.reduceBEq, Nat.reduceAdd, Nat.reduceLeDiff, Nat.reduceLT, reduceCtorEq, Nat.reduceMul, Nat.reduceSub, Int.reduceEq, Int.reduceLT, Int.reduceLE, Int.reduceToNat]
  have qq : j = l.length := by simp at q; omega
  subst qq
  rw [List.take_length] at hj3
  clear q
  simp (disch := omega) only [ite_ne, go_sem, ↓reduceIte, Nat.reduceEqDiff, Nat.reduceBEq, Nat.reduceAdd, Nat.reduceLeDiff, Nat.reduceLT, reduceCtorEq, Nat.reduceMul, Nat.reduceSub, Int.reduceEq, Int.reduceLT, Int.reduceLE, Int.reduceToNat]
  refine loop (fun p : Nat × Nat => ⟨[(1, .i .i64 i), (2, .bx m 0), (5, .s key), (7, .i .i64 p.1)], (m, .bx [.ds (mapC dfC doc), .s root, .ds (mapC pkC l), .i .i64 v.k, .i .i64 v.n, .s v.s, .ds (mapC valC v.items), .ds (stC v.keys)]) :: hp, p.2⟩)
    (fun p => p.1 ≤ i ∧ m + 1 ≤ p.2 ∧ ∀ j', j' < p.1 → v.keys[j']? ≠ some key) (fun p => i - p.1) (0, k) ?_ ?_ (fun ⟨j, k2⟩ hi => ?_)
  · exact ⟨by simp, hj2, fun j' h' => by omega⟩
  · refine weak_ok ?_ (Sub.cons ?_ (Sub.base hf ?_)) (Nat.le_refl _)
    all_goals (simp (disch := omega) only [ite_ne, go_sem, ↓reduceIte, Nat.reduceEqDiff, Nat.reduceBEq, Nat.reduceAdd, Nat.reduceLeDiff, Nat.reduceLT, reduceCtorEq, Nat.reduceMul, Nat.reduceSub, Int.reduceEq, Int.reduceLT, Int.reduceLE, Int.reduceToNat])
  dsimp only at hi
  obtain ⟨hi1, hi2, hi3⟩ := hi
  simp (disch := omega) only [ite_ne, go_sem, ↓reduceIte, Nat.reduceEqDiff, Nat.reduceBEq, Nat.reduceAdd, Nat.reduceLeDiff, Nat.reduceLT, reduceCtorEq, Nat.reduceMul, Nat.reduceSub, Int.reduceEq, Int.reduceLT, Int.reduceLE, Int.reduceToNat]
  refine cdK_of (fun q => ?_) (fun q => ?_)
  · have q : j < i := by simpa using q
    have qk : j < v.keys.length := by omega
    obtain ⟨x, ex⟩ : ∃ x, v.keys[j]? = some x := ⟨v.keys[j], by simp [qk]⟩
    simp (disch := omega) only [ite_ne, qk, getK_s (mapC_get st1 ex), mapC_get st1 ex, go_sem, ↓reduceIte, Nat.reduceEqDiff, Nat.reduceBEq, Nat.reduceAdd, Nat.reduceLeDiff, Nat.reduceLT, reduceCtorEq, Nat.reduceMul, Nat.reduceSub, Int.reduceEq, Int.reduceLT, Int.reduceLE, Int.reduceToNat]
    refine cdK_of (fun c => ?_) (fun c => ?_)
    · simp (disch := omega) only [ite_ne, go_sem, ↓reduceIte, Nat.reduceEqDiff, Nat.reduceBEq, Nat.reduceAdd, Nat.reduceLeDiff, Nat.reduceLT, reduceCtorEq, Nat.reduceMul, Nat.reduceSub, Int.reduceEq, Int.reduceLT, Int.reduceLE, Int.reduceToNat]
      refine vcCall.f (exh22_ok _ _) ?_
      simp (disch := omega) only [ite_ne, go_sem, ↓reduceIte, Nat.reduceEqDiff, Nat.reduceBEq, Nat.reduceAdd, Nat.reduceLeDiff, Nat.reduceLT, reduceCtorEq, Nat.reduceMul, Nat.reduceSub, Int.reduceEq, Int.reduceLT, Int.reduceLE, Int.reduceToNat]
    · have c : ¬ x = key := by simpa using c
      simp (disch := omega) only [ite_ne, go_sem, ↓reduceIte, Nat.reduceEqDiff, Nat.reduceBEq, Nat.reduceAdd, Nat.reduceLeDiff, Nat.reduceLT, reduceCtorEq, Nat.reduceMul, Nat.reduceSub, Int.reduceEq, Int.reduceLT, Int.reduceLE, Int.reduceToNat]
      refine ⟨(j + 1, _), ⟨by dsimp only; omega, by dsimp only; omega, fun j' h' => ?_⟩, by dsimp only; omega, weak_ok ?_ (Sub.cons ?_ (Sub.base hf ?_)) (Nat.le_refl _)⟩
      · rcases Nat.lt_or_ge j' j with w' | w'
        · exact hi3 j' w'
        · have : j' = j := by dsimp only at h'; omega
          subst this
          rw [ex]
          exact fun e => c (by simpa using e)
      all_goals
        simp (disch := omega) only [ite_ne, wr64s j (by omega), go_sem, ↓reduceIte, Nat.reduceEqDiff, Nat.reduceBEq, Nat.reduceAdd, Nat.reduceLeDiff, Nat.reduceLT, reduceCtorEq, Nat.reduceMul, Nat.reduceSub, Int.reduceEq, Int.reduceLT, Int.reduceLE, Int.reduceToNat]
  have qq : j = i := by simp at q; omega
  subst qq
  clear q
  have qi2 : j < v.items.length := by omega
  have hcut := cmp_cut doc root l v j key (expV_good ce) h6 c3 e0 (by omega) ek hi3 hj3
  obtain ⟨w, hww⟩ : ∃ w : Val, w = .mk v.k v.n v.s (v.items.set j zVal) v.keys := ⟨_, rfl⟩
  have hcut := hcut w hww
  have wfit : w.Fit := by
    rw [hww]
    refine .mk _ (by show (v.items.set j zVal).length * 80 ≤ _; rw [List.length_set]; exact li) lk fun x hx => ?_
    rcases List.mem_or_eq_of_mem_set (show x ∈ v.items.set j zVal from hx) with h' | h'
    · exact h.vs.f.x h'
    · rw [h']; exact zval_fit
  have wrng : w.Rng := by
    rw [hww]
    refine .mk _ h.vs.r.l h.vs.r.u fun x hx => ?_
    rcases List.mem_or_eq_of_mem_set (show x ∈ v.items.set j zVal from hx) with h' | h'
    · exact h.vs.r.x h'
    · rw [h']; exact .mk _ (by decide) (by decide) (by simp [zVal, Val.items_mk])
  have wwt : wtV w ≤ wtV v := by
    rw [wtV_eq, wtV_eq v, hww]
    have := wtL_set v.items j
    simp only [Val.items_mk, Val.keys_mk]
    omega
  have h2 := tRun_ok doc h.d.ok root l h.p w wfit wrng (by omega) (Nat.le_trans (Nat.mul_le_mul_right _ wwt) h.cnt)
  simp (disch := omega) only [ite_ne, go_sem, ↓reduceIte, Nat.reduceEqDiff, Nat.reduceBEq, Nat.reduceAdd, Nat.reduceLeDiff, Nat.reduceLT, reduceCtorEq, Nat.reduceMul, Nat.reduceSub, Int.reduceEq, Int.reduceLT, Int.reduceLE, Int.reduceToNat]
  refine vcCall.x (rcopy_r v h.vs.f _ _) ?_
  obtain ⟨xj, ej⟩ : ∃ xj, v.items[j]? = some xj := ⟨v.items[j], by simp [qi2]⟩
  simp (disch := omega) only [ite_ne, qi2, getK_s (mapC_get valC ej), go_sem, ↓reduceIte, Nat.reduceEqDiff, Nat.reduceBEq, Nat.reduceAdd, Nat.reduceLeDiff, Nat.reduceLT, reduceCtorEq, Nat.reduceMul, Nat.reduceSub, Int.reduceEq, Int.reduceLT, Int.reduceLE, Int.reduceToNat]
  obtain ⟨R1, hR1⟩ : ∃ R1, cplV doc v root [] l [] = R1 := ⟨_, rfl⟩
  obtain ⟨R2, hR2⟩ : ∃ R2, cplV doc w root [] l [] = R2 := ⟨_, rfl⟩
  rw [hR1, hR2] at hcut
  rw [hR1] at h1 f1 f2 f3
  rw [hR2] at h2
  obtain ⟨hk1, hk2, hk3, hk4, hk5, hk6⟩ := hcut
  rw [hk4] at h2
  have hflt : (R1.2.filter (outP key)).length ≤ 1000000000000 := by
    have := List.length_filter_le (outP key) R1.2
    omega
  have hsp := sameProblems_refl (R1.2.filter (outP key)) hflt fun p hp => ⟨by have := (f3 p (List.mem_filter.1 hp).1).1; omega, (f3 p (List.mem_filter.1 hp).1).2⟩
  have hwo := without_ok R1.2 f2 key
  refine vcCall.f (h1 _ _) ?_
  simp (disch := omega) only [ite_ne, go_sem, ↓reduceIte, Nat.reduceEqDiff, Nat.reduceBEq, Nat.reduceAdd, Nat.reduceLeDiff, Nat.reduceLT, reduceCtorEq, Nat.reduceMul, Nat.reduceSub, Int.reduceEq, Int.reduceLT, Int.reduceLE, Int.reduceToNat]
  refine vcCall.q (args' := [docx doc, .s root, .ds (mapC pkC l), .ag [.i .i64 v.k, .i .i64 v.n, .s v.s, .ds ((mapC valC v.items).set j [.i .i64 0, .i .i64 0, .s ⟨#[]⟩, .e0, .e0]), .ds (stC v.keys)]]) (MeetsF.arg (i := 3) (args' := [docx doc, .s root, .ds (mapC pkC l), vx w]) rfl (by rw [hww]; rfl) (fun _ _ _ r => set_rel r) (h2 _ _)) ?_ ?_
  · have t1 : ((mapC valC v.items).set j [.i .i64 0, .i .i64 0, .s ⟨#[]⟩, .e0, .e0]).take v.items.length = (mapC valC v.items).set j [.i .i64 0, .i .i64 0, .s ⟨#[]⟩, .e0, .e0] := List.take_of_length_le (by rw [List.length_set, mapC_len]; exact Nat.le_refl _)
    have t2 : (v.items.length ≤ ((mapC valC v.items).set j [.i .i64 0, .i .i64 0, .s ⟨#[]⟩, .e0, .e0]).length) = True := eq_true (by rw [List.length_set, mapC_len]; exact Nat.le_refl _)
    simp (disch := omega) only [ite_ne, t1, t2, List.take_length, go_sem, ↓reduceIte, Nat.reduceEqDiff, Nat.reduceBEq, Nat.reduceAdd, Nat.reduceLeDiff, Nat.reduceLT, reduceCtorEq, Nat.reduceMul, Nat.reduceSub, Int.reduceEq, Int.reduceLT, Int.reduceLE, Int.reduceToNat]
  have e1 : decide ((R1.1.keys.length : Int) = (R2.1.keys.length : Int)) = true := decide_eq_true (by rw [hk1])
  have e2 : decide ((R1.1.items.length : Int) = (R2.1.items.length : Int)) = true := decide_eq_true (by rw [hk2])
  have e3 : decide ((R1.1.keys.length : Int) = (R1.1.items.length : Int)) = true := decide_eq_true (by rw [hk3])
  simp (disch := omega) only [ite_ne, e1, e2, e3, go_sem, ↓reduceIte, Nat.reduceEqDiff, Nat.reduceBEq, Nat.reduceAdd, Nat.reduceLeDiff, Nat.reduceLT, reduceCtorEq, Nat.reduceMul, Nat.reduceSub, Int.reduceEq, Int.reduceLT, Int.reduceLE, Int.reduceToNat]
  refine gCall.f (fun _ => hwo _ _) ?_
  simp (disch := omega) only [ite_ne, e1, e2, e3, go_sem, ↓reduceIte, Nat.reduceEqDiff, Nat.reduceBEq, Nat.reduceAdd, Nat.reduceLeDiff, Nat.reduceLT, reduceCtorEq, Nat.reduceMul, Nat.reduceSub, Int.reduceEq, Int.reduceLT, Int.reduceLE, Int.reduceToNat]
  refine gCall.f (fun _ => hsp _ _) ?_
  simp (disch := omega) only [ite_ne, e1, e2, e3, go_sem, ↓reduceIte, Nat.reduceEqDiff, Nat.reduceBEq, Nat.reduceAdd, Nat.reduceLeDiff, Nat.reduceLT, reduceCtorEq, Nat.reduceMul, Nat.reduceSub, Int.reduceEq, Int.reduceLT, Int.reduceLE, Int.reduceToNat]
  refine loop (fun p : Nat × Nat => ⟨[(5, .s key), (9, .bx (k2 + 3) 0), (11, .bx (k2 + 4) 0), (13, .i .i64 p.1)], (k2 + 4, .bx [.i .i64 R2.1.k, .i .i64 R2.1.n, .s R2.1.s, .ds (mapC valC R2.1.items), .ds (stC R2.1.keys)]) :: (k2 + 3, .bx [.i .i64 R1.1.k, .i .i64 R1.1.n, .s R1.1.s, .ds (mapC valC R1.1.items), .ds (stC R1.1.keys)]) :: hp, p.2⟩)
    (fun p => p.1 ≤ R1.1.keys.length ∧ k2 + 5 ≤ p.2) (fun p => R1.1.keys.length - p.1) (0, k2 + 5) ?_ ?_ (fun ⟨a, k3⟩ ha => ?_)
  · exact ⟨by simp, by simp⟩
  · refine weak_ok ?_ (Sub.cons ?_ (Sub.cons ?_ (Sub.base hf ?_))) (Nat.le_refl _)
    all_goals (simp (disch := omega) only [ite_ne, go_sem, ↓reduceIte, Nat.reduceEqDiff, Nat.reduceBEq, Nat.reduceAdd, Nat.reduceLeDiff, Nat.reduceLT, reduceCtorEq, Nat.reduceMul, Nat.reduceSub, Int.reduceEq, Int.reduceLT, Int.reduceLE, Int.reduceToNat])
  dsimp only at ha
  obtain ⟨ha1, ha2⟩ := ha
  have lk1 := f1.l
  simp (disch := omega) only [ite_ne, go_sem, ↓reduceIte, Nat.reduceEqDiff, Nat.reduceBEq, Nat.reduceAdd, Nat.reduceLeDiff, Nat.reduceLT, reduceCtorEq, Nat.reduceMul, Nat.reduceSub, Int.reduceEq, Int.reduceLT, Int.reduceLE, Int.reduceToNat]
  refine cdK_of (fun q => ?_) (fun q => ?_)
  · have q : a < R1.1.keys.length := by simpa using q
    have qa : a < R2.1.keys.length := by rw [← hk1]; exact q
    have qb : a < R1.1.items.length := by omega
    have qc : a < R2.1.items.length := by omega
    obtain ⟨ky, ey⟩ : ∃ ky, R1.1.keys[a]? = some ky := ⟨R1.1.keys[a], by simp [q]⟩
    have ey2 : R2.1.keys[a]? = some ky := by rw [← hk1]; exact ey
    obtain ⟨x, ex⟩ : ∃ x, R1.1.items[a]? = some x := ⟨R1.1.items[a], by simp [qb]⟩
    obtain ⟨y, eyy⟩ : ∃ y, R2.1.items[a]? = some y := ⟨R2.1.items[a], by simp [qc]⟩
    obtain ⟨hA, hB⟩ := hk6 a ky x y ey ex eyy
    by_cases ck : ky = key
    · have ckd : decide (ky = key) = true := decide_eq_true ck
      have y0 : decide (y.k = 0) = true := decide_eq_true (hB ck)
      simp (disch := omega) only [ite_ne, q, qa, qb, qc, ckd, y0, getK_s (mapC_get st1 ey), getK_s (mapC_get st1 ey2), getK_s (mapC_get valC ex), getK_s (mapC_get valC eyy), mapC_get st1 ey, mapC_get st1 ey2, mapC_get valC ex, mapC_get valC eyy, valC_eq, go_sem, ↓reduceIte, Nat.reduceEqDiff, Nat.reduceBEq, Nat.reduceAdd, Nat.reduceLeDiff, Nat.reduceLT, reduceCtorEq, Nat.reduceMul, Nat.reduceSub, Int.reduceEq, Int.reduceLT, Int.reduceLE, Int.reduceToNat]
      refine dCall.f (r := .b true) (fun h => by cases h) ?_
      simp (disch := omega) only [ite_ne, q, qa, qb, qc, ckd, y0, getK_s (mapC_get st1 ey), getK_s (mapC_get st1 ey2), getK_s (mapC_get valC ex), getK_s (mapC_get valC eyy), mapC_get st1 ey, mapC_get st1 ey2, mapC_get valC ex, mapC_get valC eyy, valC_eq, go_sem, ↓reduceIte, Nat.reduceEqDiff, Nat.reduceBEq, Nat.reduceAdd, Nat.reduceLeDiff, Nat.reduceLT, reduceCtorEq, Nat.reduceMul, Nat.reduceSub, Int.reduceEq, Int.reduceLT, Int.reduceLE, Int.reduceToNat]
      refine ⟨(a + 1, _), ⟨by dsimp only; omega, by dsimp only; omega⟩, by dsimp only; omega, weak_ok ?_ (Sub.cons ?_ (Sub.cons ?_ (Sub.base hf ?_))) (Nat.le_refl _)⟩
      all_goals
        simp (disch := omega) only [ite_ne, wr64s a (by omega), go_sem, ↓reduceIte, Nat.reduceEqDiff, Nat.reduceBEq, Nat.reduceAdd, Nat.reduceLeDiff, Nat.reduceLT, reduceCtorEq, Nat.reduceMul, Nat.reduceSub, Int.reduceEq, Int.reduceLT, Int.reduceLE, Int.reduceToNat]
    · have ckd : decide (ky = key) = false := decide_eq_false ck
      have hxy : y = x := (hA ck).symm
      subst hxy
      have heq := equal_ok y (f1.x (List.mem_of_getElem? ex))
      simp (disch := omega) only [ite_ne, q, qa, qb, qc, ckd, getK_s (mapC_get st1 ey), getK_s (mapC_get st1 ey2), getK_s (mapC_get valC ex), getK_s (mapC_get valC eyy), mapC_get st1 ey, mapC_get st1 ey2, mapC_get valC ex, mapC_get valC eyy, valC_eq, go_sem, ↓reduceIte, Nat.reduceEqDiff, Nat.reduceBEq, Nat.reduceAdd, Nat.reduceLeDiff, Nat.reduceLT, reduceCtorEq, Nat.reduceMul, Nat.reduceSub, Int.reduceEq, Int.reduceLT, Int.reduceLE, Int.reduceToNat]
      refine dCall.f (fun _ hp' e => heq _ _) ?_
      simp (disch := omega) only [ite_ne, q, qa, qb, qc, ckd, getK_s (mapC_get st1 ey), getK_s (mapC_get st1 ey2), getK_s (mapC_get valC ex), getK_s (mapC_get valC eyy), mapC_get st1 ey, mapC_get st1 ey2, mapC_get valC ex, mapC_get valC eyy, valC_eq, go_sem, ↓reduceIte, Nat.reduceEqDiff, Nat.reduceBEq, Nat.reduceAdd, Nat.reduceLeDiff, Nat.reduceLT, reduceCtorEq, Nat.reduceMul, Nat.reduceSub, Int.reduceEq, Int.reduceLT, Int.reduceLE, Int.reduceToNat]
      refine ⟨(a + 1, _), ⟨by dsimp only; omega, by dsimp only; omega⟩, by dsimp only; omega, weak_ok ?_ (Sub.cons ?_ (Sub.cons ?_ (Sub.base hf ?_))) (Nat.le_refl _)⟩
      all_goals
        simp (disch := omega) only [ite_ne, wr64s a (by omega), go_sem, ↓reduceIte, Nat.reduceEqDiff, Nat.reduceBEq, Nat.reduceAdd, Nat.reduceLeDiff, Nat.reduceLT, reduceCtorEq, Nat.reduceMul, Nat.reduceSub, Int.reduceEq, Int.reduceLT, Int.reduceLE, Int.reduceToNat]
  · have q : a = R1.1.keys.length := by simp at q; omega
    subst q
    have e5 : decide (R1.1.k = R2.1.k) = true := decide_eq_true hk5
    simp (disch := omega) only [ite_ne, e5, go_sem, ↓reduceIte, Nat.reduceEqDiff, Nat.reduceBEq, Nat.reduceAdd, Nat.reduceLeDiff, Nat.reduceLT, reduceCtorEq, Nat.reduceMul, Nat.reduceSub, Int.reduceEq, Int.reduceLT, Int.reduceLE, Int.reduceToNat]
    refine gCall.f (fun _ => exh22_ok _ _) ?_
    simp (disch := omega) only [ite_ne, e5, go_sem, ↓reduceIte, Nat.reduceEqDiff, Nat.reduceBEq, Nat.reduceAdd, Nat.reduceLeDiff, Nat.reduceLT, reduceCtorEq, Nat.reduceMul, Nat.reduceSub, Int.reduceEq, Int.reduceLT, Int.reduceLE, Int.reduceToNat]
end Go.Proofs.YtgollgfifnmaaaaDoor
