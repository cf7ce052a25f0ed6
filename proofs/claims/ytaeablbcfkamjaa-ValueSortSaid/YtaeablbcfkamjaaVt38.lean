/-
  The parts VbB of the proof, in one file. Conditions: none.
-/
import Derived.Test.YtaeablbcfkamjaaVt37
namespace Go.Proofs.Ytaeablbcfkamjaa
open Go.Eng
set_option linter.unusedVariables false
set_option linter.unusedSimpArgs false
set_option maxRecDepth 20000
def nuC (n : Nat) : List AV := [.i .i64 (n : Int)]
theorem set_nu (l : List Nat) (i x : Nat) : (mapC nuC l).set i [AV.i .i64 (x : Int)] = mapC nuC (l.set i x) := by simp [mapC, List.map_set, nuC]
attribute [go_sem] nuC set_nu
/-- An element sinks to its place. -/
def sink (lt : Nat → Nat → Bool) (a : Nat) : Nat → List Nat → List Nat
  | 0, L => L
  | j + 1, L => if a < j + 1 ∧ lt (L.getD (j + 1) 0) (L.getD j 0) = true then sink lt a j ((L.set (j + 1) (L.getD j 0)).set j (L.getD (j + 1) 0)) else L
/-- Sorting by insertion, c elements from the i-th on. -/
def insA (lt : Nat → Nat → Bool) (a : Nat) : Nat → Nat → List Nat → List Nat
  | 0, _, L => L
  | c + 1, i, L => insA lt a c (i + 1) (sink lt a i L)
theorem sink_len (lt : Nat → Nat → Bool) (a : Nat) : ∀ (j : Nat) (L : List Nat), (sink lt a j L).length = L.length
  | 0, L => rfl
  | j + 1, L => by
    rw [sink]
    split
    · rw [sink_len lt a j]; simp
    · rfl
theorem insA_len (lt : Nat → Nat → Bool) (a : Nat) : ∀ (c i : Nat) (L : List Nat), (insA lt a c i L).length = L.length
  | 0, i, L => rfl
  | c + 1, i, L => by rw [insA, insA_len lt a c, sink_len]
/-- All elements are below N. -/
def allLt (N : Nat) (L : List Nat) : Prop := ∀ x ∈ L, x < N
theorem allLt_getD {N : Nat} {L : List Nat} (h : allLt N L) {i : Nat} (hi : i < L.length) : L.getD i 0 < N := by
  rw [List.getD, List.getElem?_eq_getElem hi]
  exact h _ (List.getElem_mem hi)
theorem allLt_set {N : Nat} {L : List Nat} (h : allLt N L) {i x : Nat} (hx : x < N) : allLt N (L.set i x) := fun y hy => by
  rcases List.mem_or_eq_of_mem_set hy with q | q
  · exact h y q
  · rw [q]; exact hx
theorem sink_lt (lt : Nat → Nat → Bool) (a N : Nat) : ∀ (j : Nat) (L : List Nat), j < L.length → allLt N L → allLt N (sink lt a j L)
  | 0, L, _, h => h
  | j + 1, L, hj, h => by
    rw [sink]
    split
    · exact sink_lt lt a N j _ (by simp; omega) (allLt_set (allLt_set h (allLt_getD h (by omega))) (allLt_getD h hj))
    · exact h
theorem get_nu {L : List Nat} {i : Nat} (h : i < L.length) : (mapC nuC L)[i]? = some [AV.i .i64 ((L.getD i 0 : Nat) : Int)] := by
  have : L[i]? = some (L.getD i 0) := by rw [List.getD, List.getElem?_eq_getElem h]; rfl
  rw [mapC_get nuC this]
  rfl
theorem sub_dup {k : Nat} {X Y : Chunk} {hp hp' : CH} (h : Sub ((k, X) :: hp) hp') : Sub ((k, X) :: (k, Y) :: hp) hp' := fun j => by
  have := h j
  rw [gc_cons] at this
  rw [gc_cons, gc_cons]
  split <;> simp_all
theorem ins_ok (lt : Nat → Nat → Bool) (cm : Nat → Nat → Int) (hcm : ∀ x y, lt x y = decide (cm x y < 0)) (N : Nat) (L : List Nat) (hN : allLt N L) (a b : Nat) (hab : a ≤ b) (hb : b ≤ L.length) (hm : L.length ≤ 1000000000000) (k g : Nat) (f c : Nat) (hp : CH) (m : Nat)
    (hk : gc hp k = .rw g 1 (mapC nuC L)) (hkc : k ≠ c) (hcm0 : c < m) (hc : ∀ x y, x < N → y < N → ∀ hp' n, gc hp' c = gc hp c → MeetsF Try.prog f hp' n [.i .i64 x, .i .i64 y, .bx c 0] (.i .i64 (cm x y))) :
    MeetsX Try.prog 75 hp m [.rw k g L.length, .i .i64 a, .i .i64 b, .fn f [.bx c 0]] ((k, .rw g 1 (mapC nuC (insA lt a (b - (a + 1)) (a + 1) L))) :: hp) m (.tp []) := by
  obtain ⟨R, hR⟩ : ∃ R, insA lt a (b - (a + 1)) (a + 1) L = R := ⟨_, rfl⟩
  rw [hR]
  refine meetsUpd Try.func75 (by kernel_rfl) cc75 cr75 rfl trivial (fun hf => rw_lt hf (by assumption)) fun hf => ?_; unfold ck75
  have hkm := rw_lt hf hk
  simp only [wr64s a (by omega), go_sem, ↓reduceIte, Nat.reduceEqDiff, Nat.reduceBEq, Nat.reduceAdd, Nat.reduceLeDiff, Nat.reduceLT, reduceCtorEq, Nat.reduceMul, Nat.reduceSub, Int.reduceEq, Int.reduceLT, Int.reduceLE, Int.reduceToNat]
  refine loop (fun p : Nat × List Nat × Nat => ⟨[(0, .rw k g L.length), (1, .i .i64 a), (2, .i .i64 b), (3, .fn f [.bx c 0]), (8, .i .i64 (p.1 : Nat))], (k, .rw g 1 (mapC nuC p.2.1)) :: hp, p.2.2⟩)
    (fun p => a < p.1 ∧ m ≤ p.2.2 ∧ p.2.1.length = L.length ∧ allLt N p.2.1 ∧ R = insA lt a (b - p.1) p.1 p.2.1) (fun p => b - p.1) (a + 1, L, m) ?_ ?_ (fun ⟨i, M, n⟩ hj => ?_)
  · exact ⟨by simp, by simp, rfl, hN, hR.symm⟩
  · refine weak_ok ?_ (Sub.cons hk (Sub.refl _)) (Nat.le_refl _)
    simp only [wr64s a (by omega), go_sem, ↓reduceIte, Nat.reduceEqDiff, Nat.reduceBEq, Nat.reduceAdd, Nat.reduceLeDiff, Nat.reduceLT, reduceCtorEq, Nat.reduceMul, Nat.reduceSub, Int.reduceEq, Int.reduceLT, Int.reduceLE, Int.reduceToNat]
  dsimp only at hj
  obtain ⟨hj1, hj2, hj3, hj4, hj5⟩ := hj
  simp only [go_sem, ↓reduceIte, Nat.reduceEqDiff, Nat.reduceBEq, Nat.reduceAdd, Nat.reduceLeDiff, Nat.reduceLT, reduceCtorEq, Nat.reduceMul, Nat.reduceSub, Int.reduceEq, Int.reduceLT, Int.reduceLE, Int.reduceToNat]
  refine cdK_of (fun d => ?_) (fun d => ?_)
  · have d : i < b := by simpa using d
    rw [show b - i = (b - (i + 1)) + 1 by omega, insA] at hj5
    simp only [go_sem, ↓reduceIte, Nat.reduceEqDiff, Nat.reduceBEq, Nat.reduceAdd, Nat.reduceLeDiff, Nat.reduceLT, reduceCtorEq, Nat.reduceMul, Nat.reduceSub, Int.reduceEq, Int.reduceLT, Int.reduceLE, Int.reduceToNat]
    refine loop (fun p : Nat × List Nat × Nat => ⟨[(0, .rw k g L.length), (1, .i .i64 a), (2, .i .i64 b), (3, .fn f [.bx c 0]), (8, .i .i64 (i : Nat)), (9, .i .i64 (p.1 : Nat))], (k, .rw g 1 (mapC nuC p.2.1)) :: hp, p.2.2⟩)
      (fun p => a ≤ p.1 ∧ p.1 < b ∧ m ≤ p.2.2 ∧ p.2.1.length = L.length ∧ allLt N p.2.1 ∧ sink lt a i M = sink lt a p.1 p.2.1) (fun p => p.1) (i, M, n) ?_ ?_ (fun ⟨j, K, n⟩ hi => ?_)
    · exact ⟨by dsimp only; omega, d, hj2, hj3, hj4, rfl⟩
    · refine weak_ok ?_ (Sub.refl _) (Nat.le_refl _)
      simp only [go_sem, ↓reduceIte, Nat.reduceEqDiff, Nat.reduceBEq, Nat.reduceAdd, Nat.reduceLeDiff, Nat.reduceLT, reduceCtorEq, Nat.reduceMul, Nat.reduceSub, Int.reduceEq, Int.reduceLT, Int.reduceLE, Int.reduceToNat]
    dsimp only at hi
    obtain ⟨hi1, hi2, hi3, hi4, hi5, hi6⟩ := hi
    have ht : K.take L.length = K := List.take_of_length_le (by omega)
    have hj : j < L.length := by omega
    have hjK : j < K.length := by omega
    have g1 := get_nu hjK
    by_cases c0 : a < j
    · obtain ⟨q, rfl⟩ : ∃ q, j = q + 1 := ⟨j - 1, by omega⟩
      have c1 : (a : Int) < ((q + 1 : Nat) : Int) := by omega
      have w1 : IntKind.i64.wrap (((q + 1 : Nat) : Int) - 1) = ((q : Nat) : Int) := by rw [wr64 (by omega)]; omega
      have hqK : q < K.length := by omega
      have hq : q < L.length := by omega
      have g2 := get_nu hqK
      have hcm' := hc (K.getD (q + 1) 0) (K.getD q 0) (allLt_getD hi5 hjK) (allLt_getD hi5 hqK)
      rw [sink] at hi6
      have lt1 := hcm (K.getD (q + 1) 0) (K.getD q 0)
      simp only [c1, w1, ht, hi4, hj, hq, g1, g2, go_sem, ↓reduceIte, Nat.reduceEqDiff, Nat.reduceBEq, Nat.reduceAdd, Nat.reduceLeDiff, Nat.reduceLT, reduceCtorEq, Nat.reduceMul, Nat.reduceSub, Int.reduceEq, Int.reduceLT, Int.reduceLE, Int.reduceToNat]
      refine dCall.f (fun _ hp' hh => hcm' hp' _ (by rw [hh c (.inl (by omega)), gc_ne _ _ hkc])) ?_
      simp only [go_sem, ↓reduceIte, Nat.reduceEqDiff, Nat.reduceBEq, Nat.reduceAdd, Nat.reduceLeDiff, Nat.reduceLT, reduceCtorEq, Nat.reduceMul, Nat.reduceSub, Int.reduceEq, Int.reduceLT, Int.reduceLE, Int.reduceToNat]
      refine cdK_of (fun t => ?_) (fun t => ?_)
      · rw [if_pos ⟨c0, by rw [lt1]; exact t⟩] at hi6
        have ht2 : ∀ x, (K.set (q + 1) x).take L.length = K.set (q + 1) x := fun x => List.take_of_length_le (by simp; omega)
        have g3 := get_nu (L := K.set (q + 1) (K.getD q 0)) (i := q) (by simp; omega)
        simp only [c1, w1, ht, ht2, hi4, hj, hq, getK_s g1, getK_s g2, g1, g2, g3, List.length_set, List.drop_succ_cons, List.drop_nil, go_sem, ↓reduceIte, Nat.reduceEqDiff, Nat.reduceBEq, Nat.reduceAdd, Nat.reduceLeDiff, Nat.reduceLT, reduceCtorEq, Nat.reduceMul, Nat.reduceSub, Int.reduceEq, Int.reduceLT, Int.reduceLE, Int.reduceToNat]
        refine ⟨(q, (K.set (q + 1) (K.getD q 0)).set q (K.getD (q + 1) 0), _), ⟨by dsimp only; omega, by dsimp only; omega, by dsimp only; omega, by simp [hi4], allLt_set (allLt_set hi5 (allLt_getD hi5 hqK)) (allLt_getD hi5 hjK), hi6⟩, by dsimp only; omega, weak_ok ?_ (sub_dup (sub_dup (Sub.refl _))) (Nat.le_refl _)⟩
        simp only [w1, go_sem, ↓reduceIte, Nat.reduceEqDiff, Nat.reduceBEq, Nat.reduceAdd, Nat.reduceLeDiff, Nat.reduceLT, reduceCtorEq, Nat.reduceMul, Nat.reduceSub, Int.reduceEq, Int.reduceLT, Int.reduceLE, Int.reduceToNat]
      · rw [if_neg (by rw [lt1, t]; simp)] at hi6
        rw [hi6] at hj5
        simp only [go_sem, ↓reduceIte, Nat.reduceEqDiff, Nat.reduceBEq, Nat.reduceAdd, Nat.reduceLeDiff, Nat.reduceLT, reduceCtorEq, Nat.reduceMul, Nat.reduceSub, Int.reduceEq, Int.reduceLT, Int.reduceLE, Int.reduceToNat]
        refine ⟨(i + 1, K, _), ⟨by dsimp only; omega, by dsimp only; omega, hi4, hi5, hj5⟩, by dsimp only; omega, weak_ok ?_ (Sub.refl _) (Nat.le_refl _)⟩
        simp only [wr64s i (by omega), go_sem, ↓reduceIte, Nat.reduceEqDiff, Nat.reduceBEq, Nat.reduceAdd, Nat.reduceLeDiff, Nat.reduceLT, reduceCtorEq, Nat.reduceMul, Nat.reduceSub, Int.reduceEq, Int.reduceLT, Int.reduceLE, Int.reduceToNat]
    · have c1 : ¬ (a : Int) < (j : Int) := by omega
      have ej : j = a := by omega
      have es : sink lt a j K = K := by
        cases j
        · rfl
        · rw [sink, if_neg (by omega)]
      rw [es] at hi6
      rw [hi6] at hj5
      simp only [c1, ht, hi4, hj, g1, go_sem, ↓reduceIte, Nat.reduceEqDiff, Nat.reduceBEq, Nat.reduceAdd, Nat.reduceLeDiff, Nat.reduceLT, reduceCtorEq, Nat.reduceMul, Nat.reduceSub, Int.reduceEq, Int.reduceLT, Int.reduceLE, Int.reduceToNat]
      refine dCall.no ?_
      simp only [go_sem, ↓reduceIte, Nat.reduceEqDiff, Nat.reduceBEq, Nat.reduceAdd, Nat.reduceLeDiff, Nat.reduceLT, reduceCtorEq, Nat.reduceMul, Nat.reduceSub, Int.reduceEq, Int.reduceLT, Int.reduceLE, Int.reduceToNat]
      refine ⟨(i + 1, K, _), ⟨by dsimp only; omega, by dsimp only; omega, hi4, hi5, hj5⟩, by dsimp only; omega, weak_ok ?_ (Sub.refl _) (Nat.le_refl _)⟩
      simp only [wr64s i (by omega), go_sem, ↓reduceIte, Nat.reduceEqDiff, Nat.reduceBEq, Nat.reduceAdd, Nat.reduceLeDiff, Nat.reduceLT, reduceCtorEq, Nat.reduceMul, Nat.reduceSub, Int.reduceEq, Int.reduceLT, Int.reduceLE, Int.reduceToNat]
  · have d : b ≤ i := by simpa using d
    rw [show b - i = 0 by omega, insA] at hj5
    subst hj5
    simp only [go_sem, ↓reduceIte, Nat.reduceEqDiff, Nat.reduceBEq, Nat.reduceAdd, Nat.reduceLeDiff, Nat.reduceLT, reduceCtorEq, Nat.reduceMul, Nat.reduceSub, Int.reduceEq, Int.reduceLT, Int.reduceLE, Int.reduceToNat]
end Go.Proofs.Ytaeablbcfkamjaa
