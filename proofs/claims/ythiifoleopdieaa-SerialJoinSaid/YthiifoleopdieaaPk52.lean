/-
  The parts SeF of the proof, in one file. Conditions: none.
-/
import Derived.Test.YthiifoleopdieaaPk51
namespace Go.Proofs.Ythiifoleopdieaa
open Go.Eng
set_option linter.unusedVariables false
set_option linter.unusedSimpArgs false
set_option maxRecDepth 20000
theorem jnS_len (O : List (ByteArray × Val)) (x : ByteArray × Val) : (jnS O x).length ≤ O.length + 1 := by
  unfold jnS
  split <;> simp
theorem jnS_mem {O : List (ByteArray × Val)} {x y : ByteArray × Val} (h : y ∈ jnS O x) : y ∈ O ∨ y = x := by
  unfold jnS at h
  split at h
  · exact .inl h
  · simpa using h
theorem jnF_len : ∀ (l O : List (ByteArray × Val)), (l.foldl jnS O).length ≤ O.length + l.length
  | [], O => by simp
  | x :: l, O => by
    have h1 := jnF_len l (jnS O x)
    have h2 := jnS_len O x
    rw [List.foldl_cons, List.length_cons]
    omega
theorem jnF_mem : ∀ {l O : List (ByteArray × Val)} {y : ByteArray × Val}, y ∈ l.foldl jnS O → y ∈ O ∨ y ∈ l
  | [], O, y, h => .inl h
  | x :: l, O, y, h => by
    rw [List.foldl_cons] at h
    rcases jnF_mem h with h | h
    · rcases jnS_mem h with h | rfl
      · exact .inl h
      · exact .inr (by simp)
    · exact .inr (by simp [h])
theorem jnA_len : ∀ (l : List Val) (O : List (ByteArray × Val)), (l.foldl jnV O).length ≤ O.length + szJ l
  | [], O => by simp
  | v :: l, O => by
    have h1 := jnA_len l (jnV O v)
    have h2 : (jnV O v).length ≤ O.length + (prsV v).length := by
      unfold jnV
      split
      · have := jnF_len (prsV v) O
        omega
      · omega
    have h3 : szJ (v :: l) = (prsV v).length + szJ l := by simp [szJ]
    rw [List.foldl_cons, h3]
    omega
theorem jnA_mem : ∀ {l : List Val} {O : List (ByteArray × Val)} {y : ByteArray × Val}, y ∈ l.foldl jnV O → y ∈ O ∨ ∃ v ∈ l, y.2 ∈ v.items
  | [], O, y, h => .inl h
  | v :: l, O, y, h => by
    rw [List.foldl_cons] at h
    rcases jnA_mem h with h | ⟨w, hw, h⟩
    · unfold jnV at h
      split at h
      · rcases jnF_mem h with h | h
        · exact .inl h
        · exact .inr ⟨v, by simp, (List.of_mem_zip (show (y.1, y.2) ∈ v.keys.zip v.items from h)).2⟩
      · exact .inl h
    · exact .inr ⟨w, by simp [hw], h⟩
theorem join_fit {l : List Val} (hfv : ∀ v ∈ l, v.Fit) (hB : szJ l ≤ 1000000000000) : (joinV l).Fit := by
  have h1 := jnA_len l []
  simp only [List.length_nil, Nat.zero_add] at h1
  refine .mk _ ?_ ?_ ?_
  · simp only [joinV, Val.items_mk, List.length_map, jnAll]; omega
  · simp only [joinV, Val.keys_mk, List.length_map, jnAll]; omega
  · intro x hx
    simp only [joinV, Val.items_mk, List.mem_map] at hx
    obtain ⟨y, hy, rfl⟩ := hx
    rcases jnA_mem hy with h | ⟨v, hv, h⟩
    · simp at h
    · exact (hfv v hv).x h
theorem lawJoin (l : List Val) (hl : l.length ≤ 1000000000000) (hfv : ∀ v ∈ l, v.Fit) (hB : szJ l ≤ 1000000000000) (hp : CH) (m : Nat) : MeetsF Try.prog 4 hp m [.ds (mapC valC l)] (.b true) := by
  have hjf := join_fit hfv hB
  have hS := same_ok (joinV l) (joinV l) hjf hjf
  rw [cmpV_refl] at hS
  refine meetsF Try.func4 (by kernel_rfl) cc4 cr4 rfl fun hf => ?_; unfold ck4
  simp only [go_sem, ↓reduceIte, Nat.reduceEqDiff, Nat.reduceBEq, Nat.reduceAdd, Nat.reduceLeDiff, Nat.reduceLT, reduceCtorEq, Nat.reduceMul, Nat.reduceSub, Int.reduceEq, Int.reduceLT, Int.reduceLE, Int.reduceToNat]
  refine loop (fun p : Nat × Nat => ⟨[(0, .ds (mapC valC l)), (3, .i .i64 p.1)], hp, p.2⟩) (fun p => p.1 ≤ l.length) (fun p => l.length - p.1) (0, m) ?_ ?_ (fun ⟨j, n⟩ hj => ?_)
  · simp
  · refine weak_ok ?_ (Sub.refl _) (Nat.le_refl _)
    simp only [go_sem, ↓reduceIte, Nat.reduceEqDiff, Nat.reduceBEq, Nat.reduceAdd, Nat.reduceLeDiff, Nat.reduceLT, reduceCtorEq, Nat.reduceMul, Nat.reduceSub, Int.reduceEq, Int.reduceLT, Int.reduceLE, Int.reduceToNat]
  dsimp only at hj
  simp only [go_sem, ↓reduceIte, Nat.reduceEqDiff, Nat.reduceBEq, Nat.reduceAdd, Nat.reduceLeDiff, Nat.reduceLT, reduceCtorEq, Nat.reduceMul, Nat.reduceSub, Int.reduceEq, Int.reduceLT, Int.reduceLE, Int.reduceToNat]
  refine cdK_of (fun q => ?_) (fun q => ?_)
  · have q : j < l.length := by simp at q; omega
    obtain ⟨v, ev⟩ : ∃ v, l[j]? = some v := ⟨l[j], by simp [q]⟩
    have hvf := hfv v (List.mem_of_getElem? ev)
    simp (disch := omega) only [ite_ne, q, getK_s (mapC_get valC ev), go_sem, ↓reduceIte, Nat.reduceEqDiff, Nat.reduceBEq, Nat.reduceAdd, Nat.reduceLeDiff, Nat.reduceLT, reduceCtorEq, Nat.reduceMul, Nat.reduceSub, Int.reduceEq, Int.reduceLT, Int.reduceLE, Int.reduceToNat]
    refine vcCall.f (size_ok v hvf _ _) ?_
    simp (disch := omega) only [ite_ne, q, getK_s (mapC_get valC ev), mapC_get valC ev, go_sem, ↓reduceIte, Nat.reduceEqDiff, Nat.reduceBEq, Nat.reduceAdd, Nat.reduceLeDiff, Nat.reduceLT, reduceCtorEq, Nat.reduceMul, Nat.reduceSub, Int.reduceEq, Int.reduceLT, Int.reduceLE, Int.reduceToNat]
    refine grK_of (fun g => ?_) (fun g => ?_)
    rotate_left
    · have g2 : decide (200 < szV v) = true := by simpa using g
      simp (disch := omega) only [ite_ne, g, g2, go_sem, ↓reduceIte, Nat.reduceEqDiff, Nat.reduceBEq, Nat.reduceAdd, Nat.reduceLeDiff, Nat.reduceLT, reduceCtorEq, Nat.reduceMul, Nat.reduceSub, Int.reduceEq, Int.reduceLT, Int.reduceLE, Int.reduceToNat]
      refine vcCall.f (knows_ok _ _) ?_
      simp only [go_sem, ↓reduceIte, Nat.reduceEqDiff, Nat.reduceBEq, Nat.reduceAdd, Nat.reduceLeDiff, Nat.reduceLT, reduceCtorEq, Nat.reduceMul, Nat.reduceSub, Int.reduceEq, Int.reduceLT, Int.reduceLE, Int.reduceToNat]
    have g2 : decide (200 < szV v) = false := by simpa using g
    simp (disch := omega) only [ite_ne, q, g, g2, getK_s (mapC_get valC ev), mapC_get valC ev, go_sem, ↓reduceIte, Nat.reduceEqDiff, Nat.reduceBEq, Nat.reduceAdd, Nat.reduceLeDiff, Nat.reduceLT, reduceCtorEq, Nat.reduceMul, Nat.reduceSub, Int.reduceEq, Int.reduceLT, Int.reduceLE, Int.reduceToNat]
    refine cdK_of (fun c => ?_) (fun c => ?_)
    · simp (disch := omega) only [ite_ne, go_sem, ↓reduceIte, Nat.reduceEqDiff, Nat.reduceBEq, Nat.reduceAdd, Nat.reduceLeDiff, Nat.reduceLT, reduceCtorEq, Nat.reduceMul, Nat.reduceSub, Int.reduceEq, Int.reduceLT, Int.reduceLE, Int.reduceToNat]
      refine vcCall.f (knows_ok _ _) ?_
      simp only [go_sem, ↓reduceIte, Nat.reduceEqDiff, Nat.reduceBEq, Nat.reduceAdd, Nat.reduceLeDiff, Nat.reduceLT, reduceCtorEq, Nat.reduceMul, Nat.reduceSub, Int.reduceEq, Int.reduceLT, Int.reduceLE, Int.reduceToNat]
    · simp (disch := omega) only [ite_ne, go_sem, ↓reduceIte, Nat.reduceEqDiff, Nat.reduceBEq, Nat.reduceAdd, Nat.reduceLeDiff, Nat.reduceLT, reduceCtorEq, Nat.reduceMul, Nat.reduceSub, Int.reduceEq, Int.reduceLT, Int.reduceLE, Int.reduceToNat]
      refine ⟨(j + 1, _), by dsimp only; omega, by dsimp only; omega, weak_ok ?_ (Sub.refl _) (Nat.le_refl _)⟩
      simp (disch := omega) only [ite_ne, wr64s j (by omega), go_sem, ↓reduceIte, Nat.reduceEqDiff, Nat.reduceBEq, Nat.reduceAdd, Nat.reduceLeDiff, Nat.reduceLT, reduceCtorEq, Nat.reduceMul, Nat.reduceSub, Int.reduceEq, Int.reduceLT, Int.reduceLE, Int.reduceToNat]
  · simp (disch := omega) only [ite_ne, go_sem, ↓reduceIte, Nat.reduceEqDiff, Nat.reduceBEq, Nat.reduceAdd, Nat.reduceLeDiff, Nat.reduceLT, reduceCtorEq, Nat.reduceMul, Nat.reduceSub, Int.reduceEq, Int.reduceLT, Int.reduceLE, Int.reduceToNat]
    refine gCall.f (fun _ => sJoin_ok l hl hfv hB _ _) ?_
    simp (disch := omega) only [ite_ne, go_sem, ↓reduceIte, Nat.reduceEqDiff, Nat.reduceBEq, Nat.reduceAdd, Nat.reduceLeDiff, Nat.reduceLT, reduceCtorEq, Nat.reduceMul, Nat.reduceSub, Int.reduceEq, Int.reduceLT, Int.reduceLE, Int.reduceToNat]
    refine gCall.f (fun _ => rJoin_ok l hl hfv hB _ _) ?_
    simp (disch := omega) only [ite_ne, go_sem, ↓reduceIte, Nat.reduceEqDiff, Nat.reduceBEq, Nat.reduceAdd, Nat.reduceLeDiff, Nat.reduceLT, reduceCtorEq, Nat.reduceMul, Nat.reduceSub, Int.reduceEq, Int.reduceLT, Int.reduceLE, Int.reduceToNat]
    refine gCall.f (fun _ => hS _ _) ?_
    simp (disch := omega) only [ite_ne, go_sem, ↓reduceIte, Nat.reduceEqDiff, Nat.reduceBEq, Nat.reduceAdd, Nat.reduceLeDiff, Nat.reduceLT, reduceCtorEq, Nat.reduceMul, Nat.reduceSub, Int.reduceEq, Int.reduceLT, Int.reduceLE, Int.reduceToNat]
    refine gCall.f (fun _ => knows_ok _ _) ?_
    simp (disch := omega) only [ite_ne, go_sem, ↓reduceIte, Nat.reduceEqDiff, Nat.reduceBEq, Nat.reduceAdd, Nat.reduceLeDiff, Nat.reduceLT, reduceCtorEq, Nat.reduceMul, Nat.reduceSub, Int.reduceEq, Int.reduceLT, Int.reduceLE, Int.reduceToNat]
    done
end Go.Proofs.Ythiifoleopdieaa
