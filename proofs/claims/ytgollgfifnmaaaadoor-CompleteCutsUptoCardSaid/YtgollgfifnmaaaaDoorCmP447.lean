/-
  The parts CmT CmZ of the proof, in one file. Conditions: none.
-/
import Derived.Test.YtgollgfifnmaaaaDoorCmP446
namespace Go.Proofs.YtgollgfifnmaaaaDoor
open Go.Eng
set_option linter.unusedVariables false
set_option linter.unusedSimpArgs false
set_option maxRecDepth 20000
set_option maxHeartbeats 1000000
/-- The state of the document's completion in memory. -/
structure RunR (doc : List Dfn) (hp : CH) (c kp gp : Nat) (P : List Prb) : Prop where
  hc : gc hp c = .bx [.ds (mapC dfC doc), .rw kp gp P.length]
  hk : gc hp kp = .rw gp 2 (mapC prbC P)
def wsR (doc : List Dfn) (c kp gp : Nat) (P R : List Prb) : CH :=
  [(kp, .rw (gp + R.length) 2 (mapC prbC (P ++ R))), (c, .bx [.ds (mapC dfC doc), .rw kp (gp + R.length) (P.length + R.length)])]
section
variable {doc : List Dfn} {hp : CH} {c kp gp : Nat} {P R : List Prb}
theorem RunR.n2 (h : RunR doc hp c kp gp P) : ¬ c = kp := fun e => by have := h.hc; rw [e, h.hk] at this; cases this
theorem RunR.lt {n : Nat} (h : RunR doc hp c kp gp P) (hf : ∀ k, n ≤ k → gc hp k = .no) : c < n ∧ kp < n :=
  ⟨free_lt hf h.hc (fun e => by cases e), free_lt hf h.hk (fun e => by cases e)⟩
theorem RunR.wsLt {n : Nat} (h : RunR doc hp c kp gp P) (hf : ∀ k, n ≤ k → gc hp k = .no) : wsLt n (wsR doc c kp gp P R) := by
  obtain ⟨h1, h3⟩ := h.lt hf
  refine ⟨h3, trivial, h1, ?_, trivial⟩
  intro α hα
  simp only [List.mem_cons, List.not_mem_nil, or_false] at hα
  rcases hα with rfl | rfl
  · rfl
  · exact h3
theorem RunR.of {hp' : CH} (h : RunR doc hp c kp gp P) (e : ∀ j, (j = c ∨ j = kp) → gc hp' j = gc hp j) : RunR doc hp' c kp gp P :=
  ⟨(e c (.inl rfl)).trans h.hc, (e kp (.inr rfl)).trans h.hk⟩
end
end Go.Proofs.YtgollgfifnmaaaaDoor
namespace Go.Eng
set_option linter.unusedVariables false
end Go.Eng
namespace Go.Proofs.YtgollgfifnmaaaaDoor
open Go.Eng
set_option linter.unusedVariables false
set_option linter.unusedSimpArgs false
set_option maxRecDepth 20000
set_option maxHeartbeats 1000000
/-- Paths and values of a completion fit in memory. -/
def PrF (n : Nat) (R : CRes) : Prop := R.1.Fit ∧ ∀ p ∈ R.2, p.p.length ≤ n ∧ ∀ x ∈ p.p, x.Fit
theorem PrF.mono {n m : Nat} {R : CRes} (h : PrF n R) (hm : n ≤ m) : PrF m R := ⟨h.1, fun p hp => ⟨Nat.le_trans (h.2 p hp).1 hm, (h.2 p hp).2⟩⟩
theorem fits_app {path : List Val} (h : ∀ x ∈ path, x.Fit) {y : Val} (hy : y.Fit) : ∀ x ∈ path ++ [y], x.Fit := fun x hx => by
  rcases List.mem_append.1 hx with h1 | h1
  · exact h x h1
  · rw [List.mem_singleton.1 h1]; exact hy
theorem flatV_fit {v : Val} (h1 : v.items = []) (h2 : v.keys = []) : v.Fit := .mk v (by simp [h1]) (by simp [h2]) (by simp [h1])
theorem inV_fit (n : Int) : (inV n).Fit := flatV_fit rfl rfl
theorem txV_fit (s : ByteArray) : (txV s).Fit := flatV_fit rfl rfl
theorem cpl_fit (doc : List Dfn) (v : Val) : v.Fit → ∀ tn tw picks path, PFit picks → (∀ x ∈ path, x.Fit) → PrF (path.length + wtV v) (cplV doc v tn tw picks path) := by
  refine Val.ind (Q := fun v => v.Fit → ∀ tn tw picks path, PFit picks → (∀ x ∈ path, x.Fit) → PrF (path.length + wtV v) (cplV doc v tn tw picks path)) (fun v ih hv tn tw picks path hpk hpa => ?_) v
  have hz : ∀ tn tw picks path, (∀ x ∈ path, x.Fit) → PrF path.length (cplV doc zVal tn tw picks path) := fun tn tw picks path hpa => by
    rw [cplV_z, zFn, nulR]
    split
    · exact ⟨zval_fit, fun p hp => by rw [List.mem_singleton.1 (show p ∈ [Prb.mk path sNull] from hp)]; exact ⟨Nat.le_refl _, hpa⟩⟩
    · exact ⟨zval_fit, fun p hp => by cases hp⟩
  have hfail : ∀ s, PrF (path.length + wtV v) (failR path s) := fun s => ⟨zval_fit, fun p hp => by rw [List.mem_singleton.1 (show p ∈ [Prb.mk path s] from hp)]; exact ⟨Nat.le_add_right _ _, hpa⟩⟩
  refine cplV_cases (Q := fun R => PrF (path.length + wtV v) R) (fun s _ => hfail s) (fun h0 => ?_) (fun _ _ => ?_) (fun _ _ _ x hx => ?_) (fun h6 _ _ on _ _ _ => ?_)
  · rw [nulR]
    split
    · exact hfail _
    · exact ⟨zval_fit, fun p hp => by cases hp⟩
  · have hr : ∀ r ∈ lsR (v.items.map (cplV doc)) 0 tn (innW (nulW tw)) picks path, PrF (path.length + wtV v) r := fun r hr => by
      obtain ⟨i, f, e1, e2, _⟩ := mem_lsR _ _ _ _ _ _ _ hr
      rw [List.getElem?_map] at e1
      cases ex : v.items[i]? with
      | none => rw [ex] at e1; cases e1
      | some x =>
        rw [ex] at e1
        cases e1
        have hm := List.mem_of_getElem? ex
        have hw := wtL_mem hm
        subst e2
        refine (ih x hm (hv.x hm) _ _ _ _ hpk (fits_app hpa (inV_fit _))).mono ?_
        rw [List.length_append, wtV_eq v]
        simp only [List.length_cons, List.length_nil]
        omega
    refine ⟨?_, fun p hp => ?_⟩
    · dsimp only [listR]
      split
      · exact zval_fit
      · refine .mk _ ?_ (by show (0 : Nat) * 16 ≤ _; omega) fun x hx => ?_
        · show ((lsR _ 0 tn _ picks path).map (·.1)).length * 80 ≤ _
          rw [List.length_map, lsR_len, List.length_map]
          exact hv.i
        · obtain ⟨r, hm, rfl⟩ := List.mem_map.1 (show x ∈ (lsR _ 0 tn _ picks path).map (·.1) from hx)
          exact (hr r hm).1
    · obtain ⟨r, hm, hq⟩ := List.mem_flatMap.1 (show p ∈ (lsR _ 0 tn _ picks path).flatMap (·.2) from hp)
      exact (hr r hm).2 p hq
  · obtain ⟨_, _, h3, h4⟩ := leafC_k hx
    exact ⟨flatV_fit h3 h4, fun p hp => by cases hp⟩
  · have hr : ∀ r ∈ obS v.keys (v.items.map (cplV doc)) on path picks, PrF (path.length + wtV v) r.2 := fun r hr => by
      obtain ⟨hm, _, e⟩ := obS_mem h6 hr
      rw [e]
      cases hg : getV v r.1.key with
      | none =>
        refine (hz _ _ _ _ (fits_app hpa (txV_fit _))).mono ?_
        have := wtV_pos v
        rw [List.length_append]
        simp only [List.length_cons, List.length_nil]
        omega
      | some x =>
        have hx := getV_mem hg
        have hw := wtL_mem hx
        refine (ih x hx (hv.x hx) _ _ _ _ (hpk.x hm) (fits_app hpa (txV_fit _))).mono ?_
        rw [List.length_append, wtV_eq v]
        simp only [List.length_cons, List.length_nil]
        omega
    have hlen : (obS v.keys (v.items.map (cplV doc)) on path picks).length ≤ 1000000000 := by
      unfold obS
      rw [List.length_map]
      have := List.length_filter_le (fun p : Pk => decide (p.on = on)) picks
      have := hpk.len
      omega
    refine ⟨?_, fun p hp => ?_⟩
    · dsimp only [objR]
      split
      · exact zval_fit
      · refine .mk _ ?_ ?_ fun x hx => ?_
        · show ((obS v.keys (v.items.map (cplV doc)) on path picks).map (·.2.1)).length * 80 ≤ _
          rw [List.length_map]; omega
        · show ((obS v.keys (v.items.map (cplV doc)) on path picks).map (·.1.key)).length * 16 ≤ _
          rw [List.length_map]; omega
        · obtain ⟨r, hm, rfl⟩ := List.mem_map.1 (show x ∈ (obS v.keys (v.items.map (cplV doc)) on path picks).map (·.2.1) from hx)
          exact (hr r hm).1
    · obtain ⟨r, hm, hq⟩ := List.mem_flatMap.1 (show p ∈ (obS v.keys (v.items.map (cplV doc)) on path picks).flatMap (·.2.2) from hp)
      exact (hr r hm).2 p hq
theorem samePath_refl (l : List Val) (hl : l.length ≤ 1000000000000) (hx : ∀ x ∈ l, x.Fit) (hp : CH) (m : Nat) : MeetsF Tryd.prog 24 hp m [.ds (mapC valC l), .ds (mapC valC l)] (.b true) := by
  refine meetsF Tryd.func24 (by kernel_rfl) cc24 cr24 rfl fun hf => ?_; unfold ck24
  simp only [go_sem, ↓reduceIte, Nat.reduceEqDiff, Nat.reduceBEq, Nat.reduceAdd, Nat.reduceLeDiff, Nat.reduceLT, reduceCtorEq, Nat.reduceMul, Nat.reduceSub, Int.reduceEq, Int.reduceLT, Int.reduceLE, Int.reduceToNat]
  refine loop (fun p : Nat × Nat => ⟨[(0, .ds (mapC valC l)), (1, .ds (mapC valC l)), (5, .i .i64 p.1)], hp, p.2⟩) (fun p => p.1 ≤ l.length) (fun p => l.length - p.1) (0, m) ?_ ?_ (fun ⟨j, k⟩ hj => ?_)
  · simp
  · refine weak_ok ?_ (Sub.refl _) (Nat.le_refl _)
    simp only [go_sem, ↓reduceIte, Nat.reduceEqDiff, Nat.reduceBEq, Nat.reduceAdd, Nat.reduceLeDiff, Nat.reduceLT, reduceCtorEq, Nat.reduceMul, Nat.reduceSub, Int.reduceEq, Int.reduceLT, Int.reduceLE, Int.reduceToNat]
  dsimp only at hj
  simp only [go_sem, ↓reduceIte, Nat.reduceEqDiff, Nat.reduceBEq, Nat.reduceAdd, Nat.reduceLeDiff, Nat.reduceLT, reduceCtorEq, Nat.reduceMul, Nat.reduceSub, Int.reduceEq, Int.reduceLT, Int.reduceLE, Int.reduceToNat]
  refine cdK_of (fun q => ?_) (fun q => ?_)
  · have q : j < l.length := by simpa using q
    obtain ⟨x, ex⟩ : ∃ x, l[j]? = some x := ⟨l[j], by simp [q]⟩
    have he := equal_ok x (hx x (List.mem_of_getElem? ex))
    simp only [q, getK_s (mapC_get valC ex), go_sem, ↓reduceIte, Nat.reduceEqDiff, Nat.reduceBEq, Nat.reduceAdd, Nat.reduceLeDiff, Nat.reduceLT, reduceCtorEq, Nat.reduceMul, Nat.reduceSub, Int.reduceEq, Int.reduceLT, Int.reduceLE, Int.reduceToNat]
    refine dCallR.f (fun _ hp' e => he _ _) ?_
    simp only [go_sem, ↓reduceIte, Nat.reduceEqDiff, Nat.reduceBEq, Nat.reduceAdd, Nat.reduceLeDiff, Nat.reduceLT, reduceCtorEq, Nat.reduceMul, Nat.reduceSub, Int.reduceEq, Int.reduceLT, Int.reduceLE, Int.reduceToNat]
    refine ⟨(j + 1, _), by dsimp only; omega, by dsimp only; omega, weak_ok ?_ (Sub.refl _) (Nat.le_refl _)⟩
    simp only [wr64s j (by omega), go_sem, ↓reduceIte, Nat.reduceEqDiff, Nat.reduceBEq, Nat.reduceAdd, Nat.reduceLeDiff, Nat.reduceLT, reduceCtorEq, Nat.reduceMul, Nat.reduceSub, Int.reduceEq, Int.reduceLT, Int.reduceLE, Int.reduceToNat]
  · have q : j = l.length := by simp at q; omega
    subst q
    simp only [go_sem, ↓reduceIte, Nat.reduceEqDiff, Nat.reduceBEq, Nat.reduceAdd, Nat.reduceLeDiff, Nat.reduceLT, reduceCtorEq, Nat.reduceMul, Nat.reduceSub, Int.reduceEq, Int.reduceLT, Int.reduceLE, Int.reduceToNat]
theorem sameProblems_refl (l : List Prb) (hl : l.length ≤ 1000000000000) (hx : ∀ p ∈ l, p.p.length ≤ 1000000000000 ∧ ∀ x ∈ p.p, x.Fit) (hp : CH) (m : Nat) : MeetsF Tryd.prog 14 hp m [.ds (mapC prbC l), .ds (mapC prbC l)] (.b true) := by
  refine meetsF Tryd.func14 (by kernel_rfl) cc14 cr14 rfl fun hf => ?_; unfold ck14
  simp only [go_sem, ↓reduceIte, Nat.reduceEqDiff, Nat.reduceBEq, Nat.reduceAdd, Nat.reduceLeDiff, Nat.reduceLT, reduceCtorEq, Nat.reduceMul, Nat.reduceSub, Int.reduceEq, Int.reduceLT, Int.reduceLE, Int.reduceToNat]
  refine loop (fun p : Nat × Nat => ⟨[(0, .ds (mapC prbC l)), (1, .ds (mapC prbC l)), (5, .i .i64 p.1)], hp, p.2⟩) (fun p => p.1 ≤ l.length) (fun p => l.length - p.1) (0, m) ?_ ?_ (fun ⟨j, k⟩ hj => ?_)
  · simp
  · refine weak_ok ?_ (Sub.refl _) (Nat.le_refl _)
    simp only [go_sem, ↓reduceIte, Nat.reduceEqDiff, Nat.reduceBEq, Nat.reduceAdd, Nat.reduceLeDiff, Nat.reduceLT, reduceCtorEq, Nat.reduceMul, Nat.reduceSub, Int.reduceEq, Int.reduceLT, Int.reduceLE, Int.reduceToNat]
  dsimp only at hj
  simp only [go_sem, ↓reduceIte, Nat.reduceEqDiff, Nat.reduceBEq, Nat.reduceAdd, Nat.reduceLeDiff, Nat.reduceLT, reduceCtorEq, Nat.reduceMul, Nat.reduceSub, Int.reduceEq, Int.reduceLT, Int.reduceLE, Int.reduceToNat]
  refine cdK_of (fun q => ?_) (fun q => ?_)
  · have q : j < l.length := by simpa using q
    obtain ⟨x, ex⟩ : ∃ x, l[j]? = some x := ⟨l[j], by simp [q]⟩
    have hxx := hx x (List.mem_of_getElem? ex)
    have he := samePath_refl x.p hxx.1 hxx.2
    simp only [q, getK_s (mapC_get prbC ex), mapC_get prbC ex, go_sem, ↓reduceIte, Nat.reduceEqDiff, Nat.reduceBEq, Nat.reduceAdd, Nat.reduceLeDiff, Nat.reduceLT, reduceCtorEq, Nat.reduceMul, Nat.reduceSub, Int.reduceEq, Int.reduceLT, Int.reduceLE, Int.reduceToNat]
    refine dCall.f (fun _ hp' e => he _ _) ?_
    simp only [go_sem, ↓reduceIte, Nat.reduceEqDiff, Nat.reduceBEq, Nat.reduceAdd, Nat.reduceLeDiff, Nat.reduceLT, reduceCtorEq, Nat.reduceMul, Nat.reduceSub, Int.reduceEq, Int.reduceLT, Int.reduceLE, Int.reduceToNat]
    refine ⟨(j + 1, _), by dsimp only; omega, by dsimp only; omega, weak_ok ?_ (Sub.refl _) (Nat.le_refl _)⟩
    simp only [wr64s j (by omega), go_sem, ↓reduceIte, Nat.reduceEqDiff, Nat.reduceBEq, Nat.reduceAdd, Nat.reduceLeDiff, Nat.reduceLT, reduceCtorEq, Nat.reduceMul, Nat.reduceSub, Int.reduceEq, Int.reduceLT, Int.reduceLE, Int.reduceToNat]
  · have q : j = l.length := by simp at q; omega
    subst q
    simp only [go_sem, ↓reduceIte, Nat.reduceEqDiff, Nat.reduceBEq, Nat.reduceAdd, Nat.reduceLeDiff, Nat.reduceLT, reduceCtorEq, Nat.reduceMul, Nat.reduceSub, Int.reduceEq, Int.reduceLT, Int.reduceLE, Int.reduceToNat]
end Go.Proofs.YtgollgfifnmaaaaDoor
