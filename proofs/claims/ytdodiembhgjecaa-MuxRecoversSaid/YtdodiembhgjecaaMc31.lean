/-
  The parts MxC of the proof, in one file. Conditions: none.
-/
import Derived.Test.YtdodiembhgjecaaMc30
namespace Go.Proofs.Ytdodiembhgjecaa
open Go.Eng
set_option linter.unusedVariables false
set_option linter.unusedSimpArgs false
set_option maxRecDepth 20000
set_option maxHeartbeats 1000000
theorem take_snoc {α : Type} {l : List α} {j : Nat} {x : α} (h : l[j]? = some x) : l.take j ++ [x] = l.take (j + 1) := by
  rw [List.take_add_one, h]
  rfl
def gotL (G : List Msg) (id : Int) : List ByteArray := (G.filter fun x => decide (x.id = id)).map Msg.b
theorem gotL_step {G : List Msg} {j : Nat} {x : Msg} (h : G[j]? = some x) (id : Int) : gotL (G.take (j + 1)) id = if x.id = id then gotL (G.take j) id ++ [x.b] else gotL (G.take j) id := by
  unfold gotL
  rw [← take_snoc h, List.filter_append, List.map_append]
  by_cases c : x.id = id
  · rw [if_pos c]; simp [c]
  · rw [if_neg c]; simp [c]
theorem gotL_len (G : List Msg) (id : Int) : (gotL G id).length ≤ G.length := by
  unfold gotL
  rw [List.length_map]
  exact List.length_filter_le _ _
theorem mGot_ok (b : Bool) (last : Int) (G : List Msg) (hG : G.length ≤ 1000000) (c kg g : Nat) (id : Int) (hp : CH) (hc : gc hp c = .bx [.b b, .i .i64 last, .rw kg g G.length]) (hk : gc hp kg = .rw g 2 (mapC mgC G)) (m : Nat) :
    MeetsF Try.prog 29 hp m [.bx c 0, .i .i64 id] (.ds (stC (gotL G id))) := by
  have hGl : (mapC mgC G).length = G.length := mapC_len _ _
  have hst := fun j x (h : G[j]? = some x) => gotL_step h id
  have hlen := fun j => gotL_len (G.take j) id
  obtain ⟨R, hR⟩ : ∃ R, gotL G id = R := ⟨_, rfl⟩
  rw [hR]
  have htk : (mapC mgC G).take G.length = mapC mgC G := List.take_of_length_le (by omega)
  refine meetsF Try.func29 (by kernel_rfl) cc29 cr29 rfl fun hf => ?_; unfold ck29
  have hlt := bx_lt' hf hc
  have hlt2 := rw_lt hf hk
  simp (disch := omega) only [ite_ne, hc, hk, hGl, Nat.le_refl, htk, go_sem, ↓reduceIte, Nat.reduceEqDiff, Nat.reduceBEq, Nat.reduceAdd, Nat.reduceLeDiff, Nat.reduceLT, reduceCtorEq, Nat.reduceMul, Nat.reduceSub, Int.reduceEq, Int.reduceLT, Int.reduceLE, Int.reduceToNat]
  refine loop (fun q : Nat × List ByteArray × Nat => ⟨[(1, .i .i64 id), (5, .rw m q.2.1.length q.2.1.length), (13, .rw kg g G.length), (14, .i .i64 G.length), (15, .i .i64 q.1)], (m, .rw q.2.1.length 1 (stC q.2.1)) :: hp, q.2.2⟩)
    (fun q => q.1 ≤ G.length ∧ m + 1 ≤ q.2.2 ∧ q.2.1 = gotL (G.take q.1) id) (fun q => G.length - q.1) (0, [], m + 1) ?_ ?_ (fun ⟨j, O, n⟩ hj => ?_)
  · exact ⟨by simp, by simp, rfl⟩
  · refine (weak_e0 (t := 5) (m := 1) ?_).trans (weak_ok ?_ (Sub.cons ?_ (Sub.base hf ?_)) (Nat.le_refl _))
    all_goals (simp (disch := omega) only [ite_ne, go_sem, ↓reduceIte, Nat.reduceEqDiff, Nat.reduceBEq, Nat.reduceAdd, Nat.reduceLeDiff, Nat.reduceLT, reduceCtorEq, Nat.reduceMul, Nat.reduceSub, Int.reduceEq, Int.reduceLT, Int.reduceLE, Int.reduceToNat])
    all_goals rfl
  dsimp only at hj
  obtain ⟨hj1, hj2, hj3⟩ := hj
  have hmn : m ≤ n := by omega
  simp (disch := omega) only [ite_ne, go_sem, ↓reduceIte, Nat.reduceEqDiff, Nat.reduceBEq, Nat.reduceAdd, Nat.reduceLeDiff, Nat.reduceLT, reduceCtorEq, Nat.reduceMul, Nat.reduceSub, Int.reduceEq, Int.reduceLT, Int.reduceLE, Int.reduceToNat]
  refine cdK_of (fun q => ?_) (fun q => ?_)
  · have q : j < G.length := by simpa using q
    obtain ⟨x, ex⟩ : ∃ x, G[j]? = some x := ⟨G[j], by simp [q]⟩
    have hs := hst j x ex
    have hl := hlen j
    rw [← hj3] at hs hl
    have hl : O.length ≤ j := Nat.le_trans hl (by rw [List.length_take]; omega)
    have hOl : (stC O).length = O.length := mapC_len _ _
    have k1 : (O.length + 1) * 16 ≤ 140737488355328 := by omega
    have k2 : O.length + 1 ≤ 9223372036854775807 := by omega
    have hsn : stC O ++ [[.s x.b]] = stC (O ++ [x.b]) := mapC_snoc st1 _ _
    simp (disch := omega) only [ite_ne, q, hk, hGl, Nat.le_refl, htk, getK_s (mapC_get mgC ex), go_sem, ↓reduceIte, Nat.reduceEqDiff, Nat.reduceBEq, Nat.reduceAdd, Nat.reduceLeDiff, Nat.reduceLT, reduceCtorEq, Nat.reduceMul, Nat.reduceSub, Int.reduceEq, Int.reduceLT, Int.reduceLE, Int.reduceToNat]
    refine cdK_of (fun c1 => ?_) (fun c1 => ?_)
    · rw [if_pos (by simpa using c1)] at hs
      simp (disch := omega) only [ite_ne, hOl, k1, k2, go_sem, ↓reduceIte, Nat.reduceEqDiff, Nat.reduceBEq, Nat.reduceAdd, Nat.reduceLeDiff, Nat.reduceLT, reduceCtorEq, Nat.reduceMul, Nat.reduceSub, Int.reduceEq, Int.reduceLT, Int.reduceLE, Int.reduceToNat]
      refine ⟨(j + 1, O ++ [x.b], _), ⟨by dsimp only; omega, by dsimp only; omega, hs.symm⟩, by dsimp only; omega, weak_ok ?_ (Sub.cons ?_ (Sub.base hf ?_)) (Nat.le_refl _)⟩
      all_goals
        simp (disch := omega) only [ite_ne, wr64s j (by omega), hmn, hsn, List.length_append, List.length_cons, List.length_nil, go_sem, ↓reduceIte, Nat.reduceEqDiff, Nat.reduceBEq, Nat.reduceAdd, Nat.reduceLeDiff, Nat.reduceLT, reduceCtorEq, Nat.reduceMul, Nat.reduceSub, Int.reduceEq, Int.reduceLT, Int.reduceLE, Int.reduceToNat]
    · rw [if_neg (by simpa using c1)] at hs
      simp (disch := omega) only [ite_ne, hmn, go_sem, ↓reduceIte, Nat.reduceEqDiff, Nat.reduceBEq, Nat.reduceAdd, Nat.reduceLeDiff, Nat.reduceLT, reduceCtorEq, Nat.reduceMul, Nat.reduceSub, Int.reduceEq, Int.reduceLT, Int.reduceLE, Int.reduceToNat]
      refine ⟨(j + 1, O, _), ⟨by dsimp only; omega, by dsimp only; omega, hs.symm⟩, by dsimp only; omega, weak_ok ?_ (Sub.cons ?_ (Sub.base hf ?_)) (Nat.le_refl _)⟩
      all_goals
        simp (disch := omega) only [ite_ne, wr64s j (by omega), hmn, go_sem, ↓reduceIte, Nat.reduceEqDiff, Nat.reduceBEq, Nat.reduceAdd, Nat.reduceLeDiff, Nat.reduceLT, reduceCtorEq, Nat.reduceMul, Nat.reduceSub, Int.reduceEq, Int.reduceLT, Int.reduceLE, Int.reduceToNat]
  · have q : j = G.length := by simp at q; omega
    subst q
    rw [List.take_length, hR] at hj3
    subst hj3
    have hOl : (stC O).length = O.length := mapC_len _ _
    have hOt : (stC O).take O.length = stC O := List.take_of_length_le (by omega)
    simp (disch := omega) only [ite_ne, hOl, hOt, Nat.le_refl, hmn, go_sem, ↓reduceIte, Nat.reduceEqDiff, Nat.reduceBEq, Nat.reduceAdd, Nat.reduceLeDiff, Nat.reduceLT, reduceCtorEq, Nat.reduceMul, Nat.reduceSub, Int.reduceEq, Int.reduceLT, Int.reduceLE, Int.reduceToNat]
    try rfl
/-- What the reference's client got. -/
def gotR (G : List Frm) (id : Int) : List ByteArray := (G.filter fun x => decide (x.i = id)).map Frm.b
theorem gotR_len (G : List Frm) (id : Int) : (gotR G id).length ≤ G.length := by
  unfold gotR
  rw [List.length_map]
  exact List.length_filter_le _ _
theorem texts_eq (l : List ByteArray) (hl : l.length ≤ 1000000) (hp : CH) (m : Nat) : MeetsF Try.prog 28 hp m [.ds (stC l), .ds (stC l)] (.b true) := by
  refine meetsF Try.func28 (by kernel_rfl) cc28 cr28 rfl fun hf => ?_; unfold ck28
  simp only [go_sem, ↓reduceIte, Nat.reduceEqDiff, Nat.reduceBEq, Nat.reduceAdd, Nat.reduceLeDiff, Nat.reduceLT, reduceCtorEq, Nat.reduceMul, Nat.reduceSub, Int.reduceEq, Int.reduceLT, Int.reduceLE, Int.reduceToNat]
  refine loop (fun q : Nat × Nat => ⟨[(0, .ds (stC l)), (1, .ds (stC l)), (5, .i .i64 q.1)], hp, q.2⟩) (fun q => q.1 ≤ l.length) (fun q => l.length - q.1) (0, m) ?_ ?_ (fun ⟨j, n⟩ hj => ?_)
  · simp
  · refine weak_ok ?_ (Sub.refl _) (Nat.le_refl _)
    simp only [go_sem, ↓reduceIte, Nat.reduceEqDiff, Nat.reduceBEq, Nat.reduceAdd, Nat.reduceLeDiff, Nat.reduceLT, reduceCtorEq, Nat.reduceMul, Nat.reduceSub, Int.reduceEq, Int.reduceLT, Int.reduceLE, Int.reduceToNat]
  dsimp only at hj
  simp (disch := omega) only [ite_ne, go_sem, ↓reduceIte, Nat.reduceEqDiff, Nat.reduceBEq, Nat.reduceAdd, Nat.reduceLeDiff, Nat.reduceLT, reduceCtorEq, Nat.reduceMul, Nat.reduceSub, Int.reduceEq, Int.reduceLT, Int.reduceLE, Int.reduceToNat]
  refine cdK_of (fun q => ?_) (fun q => ?_)
  · have q : j < l.length := by simpa using q
    obtain ⟨x, ex⟩ : ∃ x, l[j]? = some x := ⟨l[j], by simp [q]⟩
    simp (disch := omega) only [ite_ne, q, getK_s (mapC_get st1 ex), decide_true, go_sem, ↓reduceIte, Nat.reduceEqDiff, Nat.reduceBEq, Nat.reduceAdd, Nat.reduceLeDiff, Nat.reduceLT, reduceCtorEq, Nat.reduceMul, Nat.reduceSub, Int.reduceEq, Int.reduceLT, Int.reduceLE, Int.reduceToNat]
    refine ⟨(j + 1, _), by dsimp only; omega, by dsimp only; omega, weak_ok ?_ (Sub.refl _) (Nat.le_refl _)⟩
    simp (disch := omega) only [ite_ne, wr64s j (by omega), go_sem, ↓reduceIte, Nat.reduceEqDiff, Nat.reduceBEq, Nat.reduceAdd, Nat.reduceLeDiff, Nat.reduceLT, reduceCtorEq, Nat.reduceMul, Nat.reduceSub, Int.reduceEq, Int.reduceLT, Int.reduceLE, Int.reduceToNat]
  · simp only [go_sem, ↓reduceIte, Nat.reduceEqDiff, Nat.reduceBEq, Nat.reduceAdd, Nat.reduceLeDiff, Nat.reduceLT, reduceCtorEq, Nat.reduceMul, Nat.reduceSub, Int.reduceEq, Int.reduceLT, Int.reduceLE, Int.reduceToNat]
end Go.Proofs.Ytdodiembhgjecaa
