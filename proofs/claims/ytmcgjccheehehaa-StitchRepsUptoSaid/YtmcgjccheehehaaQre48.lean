/-
  The parts SbG of the proof, in one file. Conditions: none.
-/
import Derived.Test.YtmcgjccheehehaaQre47
namespace Go.Proofs.Ytmcgjccheehehaa
open Go.Eng
set_option linter.unusedVariables false
set_option linter.unusedSimpArgs false
set_option maxRecDepth 20000
set_option maxHeartbeats 1000000
theorem lsame_ok (l : List Val) (hl : l.length ≤ 1000000000000) (hfit : ∀ x ∈ l, x.Fit) (hp : CH) (m : Nat) : MeetsF Try.prog 25 hp m [.ds (mapC valC l), .ds (mapC valC l)] (.b true) := by
  refine meetsF Try.func25 (by kernel_rfl) cc25 cr25 rfl fun hf => ?_; unfold ck25
  simp only [go_sem, ↓reduceIte, Nat.reduceEqDiff, Nat.reduceBEq, Nat.reduceAdd, Nat.reduceLeDiff, Nat.reduceLT, reduceCtorEq, Nat.reduceMul, Nat.reduceSub, Int.reduceEq, Int.reduceLT, Int.reduceLE, Int.reduceToNat]
  refine loopg (fun q : Nat => ⟨[(0, .ds (mapC valC l)), (1, .ds (mapC valC l)), (5, .i .i64 q)], hp, m⟩)
    (fun q => q ≤ l.length) (fun q => l.length - q) 0 ?_ ?_ (fun j hj => ?_)
  · exact Nat.zero_le _
  · refine weak_ok ?_ (Sub.base hf ?_) (Nat.le_refl _)
    all_goals first | (simp only [go_sem, ↓reduceIte, Nat.reduceEqDiff, Nat.reduceBEq, Nat.reduceAdd, Nat.reduceLeDiff, Nat.reduceLT, reduceCtorEq, Nat.reduceMul, Nat.reduceSub, Int.reduceEq, Int.reduceLT, Int.reduceLE, Int.reduceToNat]; done) | (dsimp only; omega) | trace_state
  simp only [go_sem, ↓reduceIte, Nat.reduceEqDiff, Nat.reduceBEq, Nat.reduceAdd, Nat.reduceLeDiff, Nat.reduceLT, reduceCtorEq, Nat.reduceMul, Nat.reduceSub, Int.reduceEq, Int.reduceLT, Int.reduceLE, Int.reduceToNat]
  refine cdK_of (fun d => ?_) (fun d => ?_)
  · have d1 : j < l.length := by simpa using d
    obtain ⟨x, ex⟩ : ∃ x, l[j]? = some x := ⟨l[j], by simp⟩
    have k6 : j < 9223372036854775807 := by omega
    have hx := equal_ok x (hfit x (List.mem_of_getElem? ex))
    simp only [d1, getK_s (mapC_get valC ex), go_sem, ↓reduceIte, Nat.reduceEqDiff, Nat.reduceBEq, Nat.reduceAdd, Nat.reduceLeDiff, Nat.reduceLT, reduceCtorEq, Nat.reduceMul, Nat.reduceSub, Int.reduceEq, Int.reduceLT, Int.reduceLE, Int.reduceToNat]
    refine dCallR.f (fun _ hp' _ => hx hp' _) ?_
    simp only [wr64s j k6, go_sem, ↓reduceIte, Nat.reduceEqDiff, Nat.reduceBEq, Nat.reduceAdd, Nat.reduceLeDiff, Nat.reduceLT, reduceCtorEq, Nat.reduceMul, Nat.reduceSub, Int.reduceEq, Int.reduceLT, Int.reduceLE, Int.reduceToNat]
    refine ⟨j + 1, d1, by omega, weakG_ok ?_ (SubG.base hf ?_ ?_ ?_)⟩
    all_goals first | (simp only [go_sem, ↓reduceIte, Nat.reduceEqDiff, Nat.reduceBEq, Nat.reduceAdd, Nat.reduceLeDiff, Nat.reduceLT, reduceCtorEq, Nat.reduceMul, Nat.reduceSub, Int.reduceEq, Int.reduceLT, Int.reduceLE, Int.reduceToNat]; done) | (dsimp only; omega) | trace_state
  · simp only [go_sem, ↓reduceIte, Nat.reduceEqDiff, Nat.reduceBEq, Nat.reduceAdd, Nat.reduceLeDiff, Nat.reduceLT, reduceCtorEq, Nat.reduceMul, Nat.reduceSub, Int.reduceEq, Int.reduceLT, Int.reduceLE, Int.reduceToNat]
def lgB (f : Fet) (v : Val) : Bool := decide (30 < (f.p.length : Int)) || decide (20 < (f.ks.length : Int)) || decide (200 < pkNs f.pk f.pk.length) || decide (2000 < wgV 2000 v)
theorem large_ok (f : Fet) (v : Val) (hv : v.Fit) (hpk : wtKs f.pk ≤ 1000000000000) (hp : CH) (m : Nat) : MeetsF Try.prog 23 hp m [fx f, vx v] (.b (lgB f v)) := by
  have h1 := picks_ok f.pk hpk
  have h2 := weight_ok 2000 v hv
  unfold lgB
  obtain ⟨A, hA⟩ : ∃ A, pkNs f.pk f.pk.length = A := ⟨_, rfl⟩
  obtain ⟨B, hB⟩ : ∃ B, wgV 2000 v = B := ⟨_, rfl⟩
  rw [hA] at h1 ⊢
  rw [hB] at h2 ⊢
  refine meetsF Try.func23 (by kernel_rfl) cc23 cr23 rfl fun hf => ?_; unfold ck23
  simp only [go_sem, ↓reduceIte, Nat.reduceEqDiff, Nat.reduceBEq, Nat.reduceAdd, Nat.reduceLeDiff, Nat.reduceLT, reduceCtorEq, Nat.reduceMul, Nat.reduceSub, Int.reduceEq, Int.reduceLT, Int.reduceLE, Int.reduceToNat]
  refine gCall.f (fun _ => h1 _ _) ?_
  simp only [go_sem, ↓reduceIte, Nat.reduceEqDiff, Nat.reduceBEq, Nat.reduceAdd, Nat.reduceLeDiff, Nat.reduceLT, reduceCtorEq, Nat.reduceMul, Nat.reduceSub, Int.reduceEq, Int.reduceLT, Int.reduceLE, Int.reduceToNat]
  refine gCall.f (fun _ => h2 _ _) ?_
  simp only [go_sem, ↓reduceIte, Nat.reduceEqDiff, Nat.reduceBEq, Nat.reduceAdd, Nat.reduceLeDiff, Nat.reduceLT, reduceCtorEq, Nat.reduceMul, Nat.reduceSub, Int.reduceEq, Int.reduceLT, Int.reduceLE, Int.reduceToNat]
/-- What a representation holds. -/
theorem repS_fit (v : Val) (ky : Int) (hv : v.Fit) : ∀ (ks : List ByteArray) (i : Nat) (K : List ByteArray) (I : List Val) (r : List ByteArray × List Val), (∀ x ∈ I, x.Fit) → repS v ky i ks K I = some r → r.1.length ≤ K.length + ks.length ∧ r.2.length ≤ I.length + ks.length ∧ ∀ x ∈ r.2, x.Fit
  | [], i, K, I, r, hI, h => by
    rw [repS] at h
    cases h
    exact ⟨by simp, by simp, hI⟩
  | s :: ks, i, K, I, r, hI, h => by
    rw [repS] at h
    split at h
    · cases h
    · rename_i x hx
      split at h
      · cases h
      · split at h
        · have := repS_fit v ky hv ks _ _ _ r hI h
          simp only [List.length_cons]
          exact ⟨by omega, by omega, this.2.2⟩
        · have := repS_fit v ky hv ks _ _ _ r (by
            intro z hz
            rcases List.mem_append.1 hz with q | q
            · exact hI z q
            · rw [List.mem_singleton] at q
              rw [q]
              exact lfV_fit (getV_fit' hv hx)) h
          simp only [List.length_cons, List.length_append, List.length_nil] at this ⊢
          exact ⟨by omega, by omega, this.2.2⟩
theorem repV_fit' (f : Fet) (v : Val) (hv : v.Fit) (hk : f.ks.length * 80 ≤ 100000000000000) : (repV f v).Fit := by
  unfold repV
  split
  · exact zval_fit
  · rename_i K I h
    have := repS_fit v f.ky hv f.ks 0 [] [] _ (fun x hx => by cases hx) h
    simp only [List.length_nil] at this
    refine .mk _ ?_ ?_ ?_
    · simp only [Val.items_mk, List.length_cons]; omega
    · simp only [Val.keys_mk, List.length_cons]; omega
    · simp only [Val.items_mk]
      intro x hx
      rcases List.mem_cons.1 hx with rfl | hx
      · exact .mk _ (by simp [Val.items_mk]) (by simp [Val.keys_mk]) (by simp [Val.items_mk])
      · exact this.2.2 x hx
end Go.Proofs.Ytmcgjccheehehaa
