/-
  Equal picks are the same. Conditions: none.
-/
import Derived.Test.YtmcgjccheehehaaDlC
namespace Go.Proofs.Ytmcgjccheehehaa
open Go.Eng
set_option linter.unusedVariables false
set_option linter.unusedSimpArgs false
set_option maxRecDepth 20000
theorem same5_ok (l : List Int) (hl : l.length ≤ 1000000000000) (hp : CH) (m : Nat) : MeetsF Try.prog 85 hp m [.ds (mapC in1 l), .ds (mapC in1 l)] (.b true) := by
  refine meetsF Try.func85 (by kernel_rfl) cc85 cr85 rfl fun hf => ?_; unfold ck85
  simp only [eq_self, decide_true, Bool.not_true, go_sem, ↓reduceIte, Nat.reduceEqDiff, Nat.reduceBEq, Nat.reduceAdd, Nat.reduceLeDiff, Nat.reduceLT, reduceCtorEq, Nat.reduceMul, Nat.reduceSub, Int.reduceEq, Int.reduceLT, Int.reduceLE, Int.reduceToNat]
  refine loop (fun q : Nat × Nat => ⟨[(0, .ds (mapC in1 l)), (1, .ds (mapC in1 l)), (5, .i .i64 q.1)], hp, q.2⟩) (fun q => q.1 ≤ l.length ∧ m ≤ q.2) (fun q => l.length - q.1) (0, m) ?_ ?_ (fun ⟨j, n⟩ hj => ?_)
  · exact ⟨by simp, by simp⟩
  · refine weak_ok ?_ (Sub.refl _) (Nat.le_refl _)
    simp only [go_sem, ↓reduceIte, Nat.reduceEqDiff, Nat.reduceBEq, Nat.reduceAdd, Nat.reduceLeDiff, Nat.reduceLT, reduceCtorEq, Nat.reduceMul, Nat.reduceSub, Int.reduceEq, Int.reduceLT, Int.reduceLE, Int.reduceToNat]
  dsimp only at hj
  simp only [go_sem, ↓reduceIte, Nat.reduceEqDiff, Nat.reduceBEq, Nat.reduceAdd, Nat.reduceLeDiff, Nat.reduceLT, reduceCtorEq, Nat.reduceMul, Nat.reduceSub, Int.reduceEq, Int.reduceLT, Int.reduceLE, Int.reduceToNat]
  refine cdK_of (fun d => ?_) (fun d => ?_)
  · have d : j < l.length := by simpa using d
    obtain ⟨x, ex⟩ : ∃ x, l[j]? = some x := ⟨l[j], by simp [d]⟩
    simp only [d, getK_s (mapC_get in1 ex), eq_self, decide_true, Bool.not_true, go_sem, ↓reduceIte, Nat.reduceEqDiff, Nat.reduceBEq, Nat.reduceAdd, Nat.reduceLeDiff, Nat.reduceLT, reduceCtorEq, Nat.reduceMul, Nat.reduceSub, Int.reduceEq, Int.reduceLT, Int.reduceLE, Int.reduceToNat]
    refine ⟨(j + 1, _), ?_, ?_, weak_ok ?_ (Sub.refl _) (Nat.le_refl _)⟩
    · exact ⟨by dsimp only; omega, by dsimp only; omega⟩
    · dsimp only; omega
    · simp only [wr64s j (by omega), go_sem, ↓reduceIte, Nat.reduceEqDiff, Nat.reduceBEq, Nat.reduceAdd, Nat.reduceLeDiff, Nat.reduceLT, reduceCtorEq, Nat.reduceMul, Nat.reduceSub, Int.reduceEq, Int.reduceLT, Int.reduceLE, Int.reduceToNat]
  · simp only [go_sem, ↓reduceIte, Nat.reduceEqDiff, Nat.reduceBEq, Nat.reduceAdd, Nat.reduceLeDiff, Nat.reduceLT, reduceCtorEq, Nat.reduceMul, Nat.reduceSub, Int.reduceEq, Int.reduceLT, Int.reduceLE, Int.reduceToNat]
theorem Same5_ok (t : ByteArray) (l : List Int) (hl : l.length ≤ 1000000000000) (hp : CH) (m : Nat) : MeetsF Try.prog 54 hp m [.ag [.s t, .ds (mapC in1 l)], .ag [.s t, .ds (mapC in1 l)]] (.b true) := by
  refine meetsF Try.func54 (by kernel_rfl) cc54 cr54 rfl fun hf => ?_; unfold ck54
  simp only [eq_self, decide_true, Bool.not_true, go_sem, ↓reduceIte, Nat.reduceEqDiff, Nat.reduceBEq, Nat.reduceAdd, Nat.reduceLeDiff, Nat.reduceLT, reduceCtorEq, Nat.reduceMul, Nat.reduceSub, Int.reduceEq, Int.reduceLT, Int.reduceLE, Int.reduceToNat]
  refine gCall_t (vcCall.f (same5_ok l hl _ _) ?_)
  simp only [go_sem, ↓reduceIte, Nat.reduceEqDiff, Nat.reduceBEq, Nat.reduceAdd, Nat.reduceLeDiff, Nat.reduceLT, reduceCtorEq, Nat.reduceMul, Nat.reduceSub, Int.reduceEq, Int.reduceLT, Int.reduceLE, Int.reduceToNat]
theorem same19_of (l : List Pk) (hw : wtGs l ≤ 800000000000) (h : ∀ p ∈ l, ∀ hp m, MeetsF Try.prog 20 hp m [.ds (mapC pkC p.picks), .ds (mapC pkC p.picks)] (.b true)) (hp : CH) (m : Nat) : MeetsF Try.prog 20 hp m [.ds (mapC pkC l), .ds (mapC pkC l)] (.b true) := by
  have hlen := wtGs_len l
  refine meetsF Try.func20 (by kernel_rfl) cc20 cr20 rfl fun hf => ?_; unfold ck20
  simp only [eq_self, decide_true, Bool.not_true, go_sem, ↓reduceIte, Nat.reduceEqDiff, Nat.reduceBEq, Nat.reduceAdd, Nat.reduceLeDiff, Nat.reduceLT, reduceCtorEq, Nat.reduceMul, Nat.reduceSub, Int.reduceEq, Int.reduceLT, Int.reduceLE, Int.reduceToNat]
  refine loop (fun q : Nat × Nat => ⟨[(0, .ds (mapC pkC l)), (1, .ds (mapC pkC l)), (5, .i .i64 q.1)], hp, q.2⟩) (fun q => q.1 ≤ l.length ∧ m ≤ q.2) (fun q => l.length - q.1) (0, m) ?_ ?_ (fun ⟨j, n⟩ hj => ?_)
  · exact ⟨by simp, by simp⟩
  · refine weak_ok ?_ (Sub.refl _) (Nat.le_refl _)
    simp only [go_sem, ↓reduceIte, Nat.reduceEqDiff, Nat.reduceBEq, Nat.reduceAdd, Nat.reduceLeDiff, Nat.reduceLT, reduceCtorEq, Nat.reduceMul, Nat.reduceSub, Int.reduceEq, Int.reduceLT, Int.reduceLE, Int.reduceToNat]
  dsimp only at hj
  have z0 : m ≤ n := hj.2
  simp only [go_sem, ↓reduceIte, Nat.reduceEqDiff, Nat.reduceBEq, Nat.reduceAdd, Nat.reduceLeDiff, Nat.reduceLT, reduceCtorEq, Nat.reduceMul, Nat.reduceSub, Int.reduceEq, Int.reduceLT, Int.reduceLE, Int.reduceToNat]
  refine cdK_of (fun d => ?_) (fun d => ?_)
  · have d : j < l.length := by simpa using d
    obtain ⟨x, ex⟩ : ∃ x, l[j]? = some x := ⟨l[j], by simp [d]⟩
    have hr := h x (List.mem_of_getElem? ex)
    have hx := wtGs_mem (List.mem_of_getElem? ex)
    have w1 := wtG_eq x
    have w2 := wtA_len x.args
    have hS := fun hp m => Same5_ok x.tn x.tw (by omega) hp m
    simp only [d, getK_s (mapC_get pkC ex), eq_self, decide_true, Bool.not_true, go_sem, ↓reduceIte, Nat.reduceEqDiff, Nat.reduceBEq, Nat.reduceAdd, Nat.reduceLeDiff, Nat.reduceLT, reduceCtorEq, Nat.reduceMul, Nat.reduceSub, Int.reduceEq, Int.reduceLT, Int.reduceLE, Int.reduceToNat]
    refine gCall_t (vcCall.f (hS _ _) ?_)
    simp only [d, eq_self, decide_true, Bool.not_true, go_sem, ↓reduceIte, Nat.reduceEqDiff, Nat.reduceBEq, Nat.reduceAdd, Nat.reduceLeDiff, Nat.reduceLT, reduceCtorEq, Nat.reduceMul, Nat.reduceSub, Int.reduceEq, Int.reduceLT, Int.reduceLE, Int.reduceToNat]
    refine gCall_t (vcCall.f (hr _ _) ?_)
    simp only [d, eq_self, decide_true, Bool.not_true, go_sem, ↓reduceIte, Nat.reduceEqDiff, Nat.reduceBEq, Nat.reduceAdd, Nat.reduceLeDiff, Nat.reduceLT, reduceCtorEq, Nat.reduceMul, Nat.reduceSub, Int.reduceEq, Int.reduceLT, Int.reduceLE, Int.reduceToNat]
    refine loop (fun q : Nat × Nat => ⟨[(0, .ds (mapC pkC l)), (1, .ds (mapC pkC l)), (5, .i .i64 j), (6, .bx (n + 8) 0), (7, .bx (n + 9) 0), (8, .i .i64 q.1)],
        (n + 9, .bx [.s x.key, .s x.on, .s x.name, .ds (mapC argC x.args), .s x.tn, .ds (mapC in1 x.tw), .s x.label, .i .i64 x.initial, .ds (mapC pkC x.picks)]) ::
        (n + 8, .bx [.s x.key, .s x.on, .s x.name, .ds (mapC argC x.args), .s x.tn, .ds (mapC in1 x.tw), .s x.label, .i .i64 x.initial, .ds (mapC pkC x.picks)]) :: hp, q.2⟩)
      (fun q => q.1 ≤ x.args.length ∧ n + 10 ≤ q.2) (fun q => x.args.length - q.1) (0, n + 12) ?_ ?_ (fun ⟨i, n2⟩ hi => ?_)
    · exact ⟨by simp, by simp⟩
    · refine weak_ok ?_ (Sub.cons ?_ (Sub.cons ?_ ?_)) (Nat.le_refl _)
      · simp only [go_sem, ↓reduceIte, Nat.reduceEqDiff, Nat.reduceBEq, Nat.reduceAdd, Nat.reduceLeDiff, Nat.reduceLT, reduceCtorEq, Nat.reduceMul, Nat.reduceSub, Int.reduceEq, Int.reduceLT, Int.reduceLE, Int.reduceToNat]
      · simp only [go_sem, ↓reduceIte, Nat.reduceEqDiff, Nat.reduceBEq, Nat.reduceAdd, Nat.reduceLeDiff, Nat.reduceLT, reduceCtorEq, Nat.reduceMul, Nat.reduceSub, Int.reduceEq, Int.reduceLT, Int.reduceLE, Int.reduceToNat]
      · simp only [go_sem, ↓reduceIte, Nat.reduceEqDiff, Nat.reduceBEq, Nat.reduceAdd, Nat.reduceLeDiff, Nat.reduceLT, reduceCtorEq, Nat.reduceMul, Nat.reduceSub, Int.reduceEq, Int.reduceLT, Int.reduceLE, Int.reduceToNat]
      · refine Sub.base hf ?_
        have z4 : m ≤ n + 8 := by omega
        have z5 : m ≤ n + 9 := by omega
        simp only [z4, z5, go_sem, ↓reduceIte, Nat.reduceEqDiff, Nat.reduceBEq, Nat.reduceAdd, Nat.reduceLeDiff, Nat.reduceLT, reduceCtorEq, Nat.reduceMul, Nat.reduceSub, Int.reduceEq, Int.reduceLT, Int.reduceLE, Int.reduceToNat]
    dsimp only at hi
    simp only [go_sem, ↓reduceIte, Nat.reduceEqDiff, Nat.reduceBEq, Nat.reduceAdd, Nat.reduceLeDiff, Nat.reduceLT, reduceCtorEq, Nat.reduceMul, Nat.reduceSub, Int.reduceEq, Int.reduceLT, Int.reduceLE, Int.reduceToNat]
    refine cdK_of (fun q => ?_) (fun q => ?_)
    · have q : i < x.args.length := by simpa using q
      obtain ⟨y, ey⟩ : ∃ y, x.args[i]? = some y := ⟨x.args[i], by simp [q]⟩
      have hy := wtA_mem (List.mem_of_getElem? ey)
      have hyf := wtV_fit y.v (by omega)
      have hc := cmpV_refl y.v
      simp only [q, mapC_get argC ey, getK_s (mapC_get argC ey), eq_self, decide_true, Bool.not_true, go_sem, ↓reduceIte, Nat.reduceEqDiff, Nat.reduceBEq, Nat.reduceAdd, Nat.reduceLeDiff, Nat.reduceLT, reduceCtorEq, Nat.reduceMul, Nat.reduceSub, Int.reduceEq, Int.reduceLT, Int.reduceLE, Int.reduceToNat]
      refine dCall.f (fun _ _ _ => same_ok y.v y.v hyf hyf _ _) ?_
      simp only [hc, eq_self, decide_true, Bool.not_true, go_sem, ↓reduceIte, Nat.reduceEqDiff, Nat.reduceBEq, Nat.reduceAdd, Nat.reduceLeDiff, Nat.reduceLT, reduceCtorEq, Nat.reduceMul, Nat.reduceSub, Int.reduceEq, Int.reduceLT, Int.reduceLE, Int.reduceToNat]
      refine ⟨(i + 1, _), ?_, ?_, weak_ok ?_ (Sub.refl _) (Nat.le_refl _)⟩
      · exact ⟨by dsimp only; omega, by dsimp only; omega⟩
      · dsimp only; omega
      · simp only [wr64s i (by omega), go_sem, ↓reduceIte, Nat.reduceEqDiff, Nat.reduceBEq, Nat.reduceAdd, Nat.reduceLeDiff, Nat.reduceLT, reduceCtorEq, Nat.reduceMul, Nat.reduceSub, Int.reduceEq, Int.reduceLT, Int.reduceLE, Int.reduceToNat]
    · simp only [go_sem, ↓reduceIte, Nat.reduceEqDiff, Nat.reduceBEq, Nat.reduceAdd, Nat.reduceLeDiff, Nat.reduceLT, reduceCtorEq, Nat.reduceMul, Nat.reduceSub, Int.reduceEq, Int.reduceLT, Int.reduceLE, Int.reduceToNat]
      refine ⟨(j + 1, _), ?_, ?_, weak_ok ?_ (Sub.base hf ?_) (Nat.le_refl _)⟩
      · exact ⟨by dsimp only; omega, by dsimp only; omega⟩
      · dsimp only; omega
      · simp only [wr64s j (by omega), go_sem, ↓reduceIte, Nat.reduceEqDiff, Nat.reduceBEq, Nat.reduceAdd, Nat.reduceLeDiff, Nat.reduceLT, reduceCtorEq, Nat.reduceMul, Nat.reduceSub, Int.reduceEq, Int.reduceLT, Int.reduceLE, Int.reduceToNat]
      · have z4 : m ≤ n + 8 := by omega
        have z5 : m ≤ n + 9 := by omega
        simp only [z4, z5, go_sem, ↓reduceIte, Nat.reduceEqDiff, Nat.reduceBEq, Nat.reduceAdd, Nat.reduceLeDiff, Nat.reduceLT, reduceCtorEq, Nat.reduceMul, Nat.reduceSub, Int.reduceEq, Int.reduceLT, Int.reduceLE, Int.reduceToNat]
  · simp only [go_sem, ↓reduceIte, Nat.reduceEqDiff, Nat.reduceBEq, Nat.reduceAdd, Nat.reduceLeDiff, Nat.reduceLT, reduceCtorEq, Nat.reduceMul, Nat.reduceSub, Int.reduceEq, Int.reduceLT, Int.reduceLE, Int.reduceToNat]
theorem same19_ok (l : List Pk) (hw : wtGs l ≤ 800000000000) (hp : CH) (m : Nat) : MeetsF Try.prog 20 hp m [.ds (mapC pkC l), .ds (mapC pkC l)] (.b true) := by
  have key : ∀ p : Pk, wtG p ≤ 800000000000 → ∀ hp m, MeetsF Try.prog 20 hp m [.ds (mapC pkC p.picks), .ds (mapC pkC p.picks)] (.b true) := fun p => Pk.ind (Q := fun p => wtG p ≤ 800000000000 → ∀ hp m, MeetsF Try.prog 20 hp m [.ds (mapC pkC p.picks), .ds (mapC pkC p.picks)] (.b true)) (fun v ih hv => by
    rw [wtG_eq] at hv
    exact same19_of v.picks (by omega) fun p hp => ih p hp (by have := wtGs_mem hp; omega)) p
  exact same19_of l hw (fun p hp => key p (by have := wtGs_mem hp; omega)) hp m
theorem wtG_pl : ∀ (l : List Pk), (∀ p ∈ l, wtGs (plL p.picks) = wtGs p.picks) → wtGs (plL l) = wtGs l
  | [], _ => rfl
  | p :: r, h => by
    rw [plL, wtGs, wtGs, wtG_pl r (fun q hq => h q (by simp [hq])), wtG_eq (plP p), plP_eq]
    have := h p (by simp)
    rw [wtG_eq p]
    simp only [Pk.args, Pk.tw, Pk.picks] at this ⊢
    omega
theorem wtGs_pl (l : List Pk) : wtGs (plL l) = wtGs l := wtG_pl l fun p _ => Pk.ind (Q := fun p => wtGs (plL p.picks) = wtGs p.picks) (fun v ih => wtG_pl v.picks ih) p
theorem lab_pl : ∀ (l : List Pk), (∀ p ∈ l, ∀ o, labL (plL p.picks) o = o) → ∀ o, labL (plL l) o = o
  | [], _, o => rfl
  | p :: r, h, o => by
    rw [plL, labL, labP_eq, plP_eq]
    have h1 := h p (by simp)
    have h2 : addLb ⟨#[]⟩ o = o := by simp [addLb]
    show labL (plL r) (labL (plL p.picks) (addLb ⟨#[]⟩ o)) = o
    rw [h2, h1]
    exact lab_pl r (fun q hq => h q (by simp [hq])) o
theorem labs_pl (l : List Pk) (o : List ByteArray) : labL (plL l) o = o := lab_pl l (fun p _ => Pk.ind (Q := fun p => ∀ o, labL (plL p.picks) o = o) (fun v ih => lab_pl v.picks ih) p) o
end Go.Proofs.Ytmcgjccheehehaa
