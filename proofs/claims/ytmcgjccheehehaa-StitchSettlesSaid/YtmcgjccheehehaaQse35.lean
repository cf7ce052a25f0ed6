/-
  The parts SaH of the proof, in one file. Conditions: none.
-/
import Derived.Test.YtmcgjccheehehaaQse34
namespace Go.Proofs.Ytmcgjccheehehaa
open Go.Eng
set_option linter.unusedVariables false
set_option linter.unusedSimpArgs false
set_option maxRecDepth 20000
set_option maxHeartbeats 1000000
noncomputable def isT (t : ByteArray) (x : Val) : Bool := decide (typT x = t)
noncomputable def repsL (f : Fet) (l : List Val) : List Val := (l.filter (isT f.t)).map (repV f)
noncomputable def repsV (f : Fet) (v : Val) : List Val := repsL f (objV f.p v)
theorem repsL_len (f : Fet) (l : List Val) : (repsL f l).length ≤ l.length := by
  unfold repsL
  rw [List.length_map]
  exact List.length_filter_le _ _
theorem repsL_snoc (f : Fet) (l : List Val) (x : Val) : repsL f (l ++ [x]) = if typT x = f.t then repsL f l ++ [repV f x] else repsL f l := by
  unfold repsL
  rw [List.filter_append, List.map_append]
  split <;> rename_i h
  · simp [isT, h]
  · simp [isT, h]
/-- What a fetch and a tree must keep to. -/
structure FetOk (f : Fet) (v : Val) : Prop where
  fit : v.Fit
  w : wtV v ≤ 100000000000
  p : f.p.length ≤ 1000000000
  k : f.ks.length * 80 ≤ 100000000000000
  s : ∀ s ∈ f.ks, s.size ≤ 100000000000000
theorem reps_ok (f : Fet) (v : Val) (h : FetOk f v) (hp : CH) (m : Nat) : MeetsF Try.prog 26 hp m [fx f, vx v] (.ds (mapC valC (repsV f v))) := by
  have hob := objects_ok f.p v h.fit h.p h.w
  have hfit := objV_fit v h.fit f.p
  have hlen := objV_len v f.p
  have hw := h.w
  unfold repsV
  obtain ⟨L, hL⟩ : ∃ L, objV f.p v = L := ⟨_, rfl⟩
  rw [hL] at hob hfit hlen ⊢
  refine meetsF Try.func26 (by kernel_rfl) cc26 cr26 rfl fun hf => ?_; unfold ck26
  simp only [go_sem, ↓reduceIte, Nat.reduceEqDiff, Nat.reduceBEq, Nat.reduceAdd, Nat.reduceLeDiff, Nat.reduceLT, reduceCtorEq, Nat.reduceMul, Nat.reduceSub, Int.reduceEq, Int.reduceLT, Int.reduceLE, Int.reduceToNat]
  refine vcCall.f (hob _ _) ?_
  simp only [go_sem, ↓reduceIte, Nat.reduceEqDiff, Nat.reduceBEq, Nat.reduceAdd, Nat.reduceLeDiff, Nat.reduceLT, reduceCtorEq, Nat.reduceMul, Nat.reduceSub, Int.reduceEq, Int.reduceLT, Int.reduceLE, Int.reduceToNat]
  refine loop (fun p : Nat × Nat => ⟨[(2, .bx m 0), (5, .rw (m + 2) (repsL f (L.take p.1)).length (repsL f (L.take p.1)).length), (11, .ds (mapC valC L)), (12, .i .i64 L.length), (13, .i .i64 p.1)],
      (m + 2, .rw (repsL f (L.take p.1)).length 5 (mapC valC (repsL f (L.take p.1)))) :: (m, .bx [.i .i64 f.g, .i .i64 f.d, .ds (mapC hopC f.p), .s f.t, .ds (stC f.ks), .i .i64 f.ky, .ds (mapC pkC f.pk), .ds (mapC in1 f.af)]) :: hp, p.2⟩)
    (fun p => p.1 ≤ L.length ∧ m + 3 ≤ p.2) (fun p => L.length - p.1) (0, m + 3) ?_ ?_ (fun ⟨j, n⟩ hj => ?_)
  · simp
  · refine (weak_e0 (t := 5) (m := 5) ?_).trans (weak_ok ?_ (Sub.cons ?_ (Sub.cons ?_ (Sub.base hf ?_))) (Nat.le_refl _))
    all_goals simp only [go_sem, ↓reduceIte, Nat.reduceEqDiff, Nat.reduceBEq, Nat.reduceAdd, Nat.reduceLeDiff, Nat.reduceLT, reduceCtorEq, Nat.reduceMul, Nat.reduceSub, Int.reduceEq, Int.reduceLT, Int.reduceLE, Int.reduceToNat]
    all_goals rfl
  dsimp only at hj
  obtain ⟨hj1, hj2⟩ := hj
  have z0 : ¬ n = m := by omega
  have z1 : ¬ n = m + 1 := by omega
  have z2 : ¬ n = m + 2 := by omega
  have z3 : m ≤ n := by omega
  have y0 : ¬ m = n := by omega
  have y2 : ¬ m + 2 = n := by omega
  obtain ⟨Y, hY⟩ : ∃ Y, repsL f (L.take j) = Y := ⟨_, rfl⟩
  have hYl := repsL_len f (L.take j)
  rw [hY] at hYl
  rw [hY]
  simp only [z0, z1, z2, z3, y0, y2, go_sem, ↓reduceIte, Nat.reduceEqDiff, Nat.reduceBEq, Nat.reduceAdd, Nat.reduceLeDiff, Nat.reduceLT, reduceCtorEq, Nat.reduceMul, Nat.reduceSub, Int.reduceEq, Int.reduceLT, Int.reduceLE, Int.reduceToNat]
  refine cdK_of (fun c => ?_) (fun c => ?_)
  · have c : j < L.length := by simpa using c
    obtain ⟨x, ex⟩ : ∃ x, L[j]? = some x := ⟨L[j], by simp⟩
    have hxf := hfit x (List.mem_of_getElem? ex)
    have hsn := repsL_snoc f (L.take j) x
    rw [take_snoc ex, hY] at hsn
    rw [List.length_take] at hYl
    have k1 : (Y.length + 1) * 80 ≤ 140737488355328 := by omega
    have k2 : Y.length ≤ 9223372036854775806 := by omega
    have k3 : j < 9223372036854775807 := by omega
    have k4 : L.length - (j + 1) < L.length - j := by omega
    simp only [z0, z1, z2, z3, y0, y2, c, getK_s (mapC_get valC ex), go_sem, ↓reduceIte, Nat.reduceEqDiff, Nat.reduceBEq, Nat.reduceAdd, Nat.reduceLeDiff, Nat.reduceLT, reduceCtorEq, Nat.reduceMul, Nat.reduceSub, Int.reduceEq, Int.reduceLT, Int.reduceLE, Int.reduceToNat]
    refine dCallR.f (fun _ hp' _ => stypeOf_ok x hxf hp' _) ?_
    simp only [z0, z1, z2, z3, y0, y2, go_sem, ↓reduceIte, Nat.reduceEqDiff, Nat.reduceBEq, Nat.reduceAdd, Nat.reduceLeDiff, Nat.reduceLT, reduceCtorEq, Nat.reduceMul, Nat.reduceSub, Int.reduceEq, Int.reduceLT, Int.reduceLE, Int.reduceToNat]
    refine cdK_of (fun d => ?_) (fun d => ?_)
    · have d : typT x = f.t := by simpa using d
      rw [if_pos d] at hsn
      simp only [z0, z1, z2, z3, y0, y2, go_sem, ↓reduceIte, Nat.reduceEqDiff, Nat.reduceBEq, Nat.reduceAdd, Nat.reduceLeDiff, Nat.reduceLT, reduceCtorEq, Nat.reduceMul, Nat.reduceSub, Int.reduceEq, Int.reduceLT, Int.reduceLE, Int.reduceToNat]
      refine vcCall.f (rep_ok f x hxf h.k h.s _ _) ?_
      simp only [z0, z1, z2, z3, y0, y2, go_sem, ↓reduceIte, Nat.reduceEqDiff, Nat.reduceBEq, Nat.reduceAdd, Nat.reduceLeDiff, Nat.reduceLT, reduceCtorEq, Nat.reduceMul, Nat.reduceSub, Int.reduceEq, Int.reduceLT, Int.reduceLE, Int.reduceToNat]
      refine ⟨k1, k2, ?_⟩
      refine ⟨(j + 1, _), ⟨c, ?_⟩, k4, weak_ok ?_ (Sub.cons ?_ (Sub.cons ?_ (Sub.base hf ?_))) (Nat.le_refl _)⟩
      all_goals first | ((simp only [z0, z1, z2, z3, y0, y2, wr64s j k3, hsn, List.length_append, List.length_singleton, and_self, go_sem, ↓reduceIte, Nat.reduceEqDiff, Nat.reduceBEq, Nat.reduceAdd, Nat.reduceLeDiff, Nat.reduceLT, reduceCtorEq, Nat.reduceMul, Nat.reduceSub, Int.reduceEq, Int.reduceLT, Int.reduceLE, Int.reduceToNat]); done) | (dsimp only; omega) | trace_state
    · have d : ¬ typT x = f.t := by simpa using d
      rw [if_neg d] at hsn
      simp only [z0, z1, z2, z3, y0, y2, go_sem, ↓reduceIte, Nat.reduceEqDiff, Nat.reduceBEq, Nat.reduceAdd, Nat.reduceLeDiff, Nat.reduceLT, reduceCtorEq, Nat.reduceMul, Nat.reduceSub, Int.reduceEq, Int.reduceLT, Int.reduceLE, Int.reduceToNat]
      refine ⟨(j + 1, _), ⟨c, ?_⟩, k4, weak_ok ?_ (Sub.cons ?_ (Sub.cons ?_ (Sub.base hf ?_))) (Nat.le_refl _)⟩
      all_goals first | ((simp only [z0, z1, z2, z3, y0, y2, wr64s j k3, hsn, List.length_append, List.length_singleton, and_self, go_sem, ↓reduceIte, Nat.reduceEqDiff, Nat.reduceBEq, Nat.reduceAdd, Nat.reduceLeDiff, Nat.reduceLT, reduceCtorEq, Nat.reduceMul, Nat.reduceSub, Int.reduceEq, Int.reduceLT, Int.reduceLE, Int.reduceToNat]); done) | (dsimp only; omega) | trace_state
  · have c : j = L.length := by simp at c; omega
    subst c
    rw [List.take_length] at hY
    rw [hY]
    simp only [z0, z1, z2, z3, y0, y2, go_sem, ↓reduceIte, Nat.reduceEqDiff, Nat.reduceBEq, Nat.reduceAdd, Nat.reduceLeDiff, Nat.reduceLT, reduceCtorEq, Nat.reduceMul, Nat.reduceSub, Int.reduceEq, Int.reduceLT, Int.reduceLE, Int.reduceToNat]
end Go.Proofs.Ytmcgjccheehehaa
