/-
  The parts VsD of the proof, in one file. Conditions: none.
-/
import Derived.Test.YtaeablbcfkamjaaVt42
namespace Go.Proofs.Ytaeablbcfkamjaa
open Go.Eng Vs
set_option linter.unusedVariables false
set_option linter.unusedSimpArgs false
set_option maxRecDepth 20000
theorem get_rdC {L : List Nat} {i : Nat} (h : i < L.length) : (mapC nuC L)[i]? = some [AV.i .i64 ((rd L i : Nat) : Int)] := get_nu h
theorem sw_zero (a b : Nat) (d : List Nat) : pm d (sw a b 0) = d := pm_id fun k hk => by
  unfold sw
  repeat' split
  all_goals omega
theorem swap_ok (d : List Nat) (a b n : Nat) (h1 : a + n ≤ b) (h2 : b + n ≤ d.length) (hm : d.length ≤ 1000000000000) (k g f c : Nat) (hp : CH) (m : Nat) (hk : gc hp k = .rw g 1 (mapC nuC d)) :
    MeetsX Try.prog 79 hp m [.rw k g d.length, .i .i64 a, .i .i64 b, .i .i64 n, .fn f [.bx c 0]] ((k, .rw g 1 (mapC nuC (pm d (sw a b n)))) :: hp) m (.tp []) := by
  refine meetsUpd Try.func79 (by kernel_rfl) cc79 cr79 rfl trivial (fun hf => rw_lt hf (by assumption)) fun hf => ?_; unfold ck79
  have hkm := rw_lt hf hk
  simp only [go_sem, ↓reduceIte, Nat.reduceEqDiff, Nat.reduceBEq, Nat.reduceAdd, Nat.reduceLeDiff, Nat.reduceLT, reduceCtorEq, Nat.reduceMul, Nat.reduceSub, Int.reduceEq, Int.reduceLT, Int.reduceLE, Int.reduceToNat]
  refine loop (fun p : Nat × Nat => ⟨[(0, .rw k g d.length), (1, .i .i64 a), (2, .i .i64 b), (3, .i .i64 n), (10, .i .i64 p.1)], (k, .rw g 1 (mapC nuC (pm d (sw a b p.1)))) :: hp, p.2⟩) (fun p => p.1 ≤ n ∧ m ≤ p.2) (fun p => n - p.1) (0, m) ?_ ?_ (fun ⟨i, q⟩ hj => ?_)
  · exact ⟨by simp, by simp⟩
  · refine weak_ok ?_ (Sub.cons ?_ (Sub.refl _)) (Nat.le_refl _)
    all_goals
      simp only [sw_zero, hk, go_sem, ↓reduceIte, Nat.reduceEqDiff, Nat.reduceBEq, Nat.reduceAdd, Nat.reduceLeDiff, Nat.reduceLT, reduceCtorEq, Nat.reduceMul, Nat.reduceSub, Int.reduceEq, Int.reduceLT, Int.reduceLE, Int.reduceToNat]
  dsimp only at hj
  obtain ⟨hj1, hj2⟩ := hj
  simp only [go_sem, ↓reduceIte, Nat.reduceEqDiff, Nat.reduceBEq, Nat.reduceAdd, Nat.reduceLeDiff, Nat.reduceLT, reduceCtorEq, Nat.reduceMul, Nat.reduceSub, Int.reduceEq, Int.reduceLT, Int.reduceLE, Int.reduceToNat]
  refine cdK_of (fun t => ?_) (fun t => ?_)
  · have t : i < n := by simpa using t
    have hst := sw_step h1 h2 t
    have hl := pm_len d (sw a b i)
    generalize pm d (sw a b i) = K at hst hl
    have ht : K.take d.length = K := List.take_of_length_le (by omega)
    have ht2 : ∀ x, (K.set (a + i) x).take d.length = K.set (a + i) x := fun x => List.take_of_length_le (by simp; omega)
    have w1 : IntKind.i64.wrap ((a : Int) + (i : Int)) = ((a + i : Nat) : Int) := by rw [wr64 (by omega)]; omega
    have w2 : IntKind.i64.wrap ((b : Int) + (i : Int)) = ((b + i : Nat) : Int) := by rw [wr64 (by omega)]; omega
    have qa : a + i < d.length := by omega
    have qb : b + i < d.length := by omega
    have g1 := get_rdC (L := K) (i := a + i) (by omega)
    have g2 := get_rdC (L := K) (i := b + i) (by omega)
    have g3 := get_rdC (L := K.set (a + i) (rd K (b + i))) (i := b + i) (by simp; omega)
    simp only [w1, w2, ht, ht2, hl, qa, qb, getK_s g1, getK_s g2, g1, g2, g3, List.length_set, go_sem, ↓reduceIte, Nat.reduceEqDiff, Nat.reduceBEq, Nat.reduceAdd, Nat.reduceLeDiff, Nat.reduceLT, reduceCtorEq, Nat.reduceMul, Nat.reduceSub, Int.reduceEq, Int.reduceLT, Int.reduceLE, Int.reduceToNat]
    rw [hst]
    refine ⟨(i + 1, _), ⟨by dsimp only; omega, by dsimp only; omega⟩, by dsimp only; omega, weak_ok ?_ (sub_dup (sub_dup (Sub.refl _))) (Nat.le_refl _)⟩
    simp only [wr64s i (by omega), go_sem, ↓reduceIte, Nat.reduceEqDiff, Nat.reduceBEq, Nat.reduceAdd, Nat.reduceLeDiff, Nat.reduceLT, reduceCtorEq, Nat.reduceMul, Nat.reduceSub, Int.reduceEq, Int.reduceLT, Int.reduceLE, Int.reduceToNat]
  · have t : i = n := by simp at t; omega
    subst t
    simp only [go_sem, ↓reduceIte, Nat.reduceEqDiff, Nat.reduceBEq, Nat.reduceAdd, Nat.reduceLeDiff, Nat.reduceLT, reduceCtorEq, Nat.reduceMul, Nat.reduceSub, Int.reduceEq, Int.reduceLT, Int.reduceLE, Int.reduceToNat]
theorem up_dup {n k : Nat} {X Y : Chunk} {hp : CH} : Up n ((k, X) :: hp) ((k, X) :: (k, Y) :: hp) := fun j _ => by
  rw [gc_cons, gc_cons, gc_cons]
  split <;> rfl
theorem up_dup2 {n k : Nat} {X Y Z : Chunk} {hp : CH} : Up n ((k, X) :: hp) ((k, X) :: (k, Y) :: (k, Z) :: hp) := fun j _ => by
  rw [gc_cons, gc_cons, gc_cons, gc_cons]
  split <;> rfl
theorem rot_ok (d : List Nat) (a mm b : Nat) (h1 : a < mm) (h2 : mm < b) (h3 : b ≤ d.length) (hm : d.length ≤ 1000000000000) (k g f c : Nat) (hp : CH) (m : Nat) (hk : gc hp k = .rw g 1 (mapC nuC d)) :
    MeetsX Try.prog 78 hp m [.rw k g d.length, .i .i64 a, .i .i64 mm, .i .i64 b, .fn f [.bx c 0]] ((k, .rw g 1 (mapC nuC (pm d (rt a mm b)))) :: hp) m (.tp []) := by
  obtain ⟨R, hR⟩ : ∃ R, pm d (rt a mm b) = R := ⟨_, rfl⟩
  rw [hR]
  have u1 : IntKind.i64.wrap ((mm : Int) - (a : Int)) = ((mm - a : Nat) : Int) := by rw [wr64 (by omega)]; omega
  have u2 : IntKind.i64.wrap ((b : Int) - (mm : Int)) = ((b - mm : Nat) : Int) := by rw [wr64 (by omega)]; omega
  refine meetsUpd Try.func78 (by kernel_rfl) cc78 cr78 rfl trivial (fun hf => rw_lt hf (by assumption)) fun hf => ?_; unfold ck78
  have hkm := rw_lt hf hk
  simp only [u1, u2, go_sem, ↓reduceIte, Nat.reduceEqDiff, Nat.reduceBEq, Nat.reduceAdd, Nat.reduceLeDiff, Nat.reduceLT, reduceCtorEq, Nat.reduceMul, Nat.reduceSub, Int.reduceEq, Int.reduceLT, Int.reduceLE, Int.reduceToNat]
  refine loop (fun p : (Nat × Nat × List Nat) × Nat => ⟨[(0, .rw k g d.length), (2, .i .i64 mm), (4, .fn f [.bx c 0]), (10, .i .i64 p.1.1), (11, .i .i64 p.1.2.1)], (k, .rw g 1 (mapC nuC p.1.2.2)) :: hp, p.2⟩)
    (fun p => 1 ≤ p.1.1 ∧ 1 ≤ p.1.2.1 ∧ p.1.1 ≤ mm ∧ mm + p.1.2.1 ≤ d.length ∧ p.1.2.2.length = d.length ∧ m ≤ p.2 ∧ pm p.1.2.2 (rt (mm - p.1.1) mm (mm + p.1.2.1)) = R) (fun p => p.1.1 + p.1.2.1) ((mm - a, b - mm, d), m) ?_ ?_ (fun ⟨⟨i, j, K⟩, q⟩ hj => ?_)
  · refine ⟨by dsimp only; omega, by dsimp only; omega, by dsimp only; omega, by dsimp only; omega, rfl, Nat.le_refl _, ?_⟩
    dsimp only
    rw [show mm - (mm - a) = a by omega, show mm + (b - mm) = b by omega]
    exact hR
  · refine weak_ok ?_ (Sub.cons hk (Sub.refl _)) (Nat.le_refl _)
    simp only [hk, go_sem, ↓reduceIte, Nat.reduceEqDiff, Nat.reduceBEq, Nat.reduceAdd, Nat.reduceLeDiff, Nat.reduceLT, reduceCtorEq, Nat.reduceMul, Nat.reduceSub, Int.reduceEq, Int.reduceLT, Int.reduceLE, Int.reduceToNat]
  dsimp only at hj
  obtain ⟨i1, i2, i3, i4, i5, i6, i7⟩ := hj
  have hkq : k < q := by omega
  have v1 : IntKind.i64.wrap ((mm : Int) - (i : Int)) = ((mm - i : Nat) : Int) := by rw [wr64 (by omega)]; omega
  have v2 : IntKind.i64.wrap ((mm : Int) + (j : Int)) = ((mm + j : Nat) : Int) := by rw [wr64 (by omega)]; omega
  have sw1 := fun (A B n : Nat) (h1 : A + n ≤ B) (h2 : B + n ≤ K.length) (hp' : CH) (m' : Nat) (e : gc hp' k = .rw g 1 (mapC nuC K)) => swap_ok K A B n h1 h2 (by omega) k g f c hp' m' e
  rw [i5] at sw1
  by_cases hij : i = j
  · subst hij
    simp only [v1, go_sem, ↓reduceIte, Nat.reduceEqDiff, Nat.reduceBEq, Nat.reduceAdd, Nat.reduceLeDiff, Nat.reduceLT, reduceCtorEq, Nat.reduceMul, Nat.reduceSub, Int.reduceEq, Int.reduceLT, Int.reduceLE, Int.reduceToNat]
    refine vcCall.x (sw1 (mm - i) mm i (by omega) (by omega) _ _ (gc_same _ _ _)) ?_
    rw [rt_eq i3 (by omega), i7]
    simp only [v1, go_sem, ↓reduceIte, Nat.reduceEqDiff, Nat.reduceBEq, Nat.reduceAdd, Nat.reduceLeDiff, Nat.reduceLT, reduceCtorEq, Nat.reduceMul, Nat.reduceSub, Int.reduceEq, Int.reduceLT, Int.reduceLE, Int.reduceToNat]
    exact up_dup
  · have hijd : ((i : Int) = (j : Int)) = False := eq_false (by omega)
    by_cases hgt : j < i
    · have v3 : IntKind.i64.wrap ((i : Int) - (j : Int)) = ((i - j : Nat) : Int) := by rw [wr64 (by omega)]; omega
      have hgd : ((j : Int) < (i : Int)) = True := eq_true (by omega)
      simp only [hijd, hgd, v1, v3, go_sem, ↓reduceIte, Nat.reduceEqDiff, Nat.reduceBEq, Nat.reduceAdd, Nat.reduceLeDiff, Nat.reduceLT, reduceCtorEq, Nat.reduceMul, Nat.reduceSub, Int.reduceEq, Int.reduceLT, Int.reduceLE, Int.reduceToNat]
      refine vcCall.x (sw1 (mm - i) mm j (by omega) (by omega) _ _ (gc_same _ _ _)) ?_
      simp only [hijd, hgd, v1, v3, go_sem, ↓reduceIte, Nat.reduceEqDiff, Nat.reduceBEq, Nat.reduceAdd, Nat.reduceLeDiff, Nat.reduceLT, reduceCtorEq, Nat.reduceMul, Nat.reduceSub, Int.reduceEq, Int.reduceLT, Int.reduceLE, Int.reduceToNat]
      refine ⟨((i - j, j, pm K (sw (mm - i) mm j)), _), ⟨by dsimp only; omega, i2, by dsimp only; omega, i4, by dsimp only; rw [pm_len, i5], i6, ?_⟩, by dsimp only; omega, weak_ok ?_ (sub_dup (Sub.refl _)) (Nat.le_refl _)⟩
      · dsimp only
        rw [rt_gt i3 (by omega) hgt]
        exact i7
      simp only [v3, go_sem, ↓reduceIte, Nat.reduceEqDiff, Nat.reduceBEq, Nat.reduceAdd, Nat.reduceLeDiff, Nat.reduceLT, reduceCtorEq, Nat.reduceMul, Nat.reduceSub, Int.reduceEq, Int.reduceLT, Int.reduceLE, Int.reduceToNat]
    · have v3 : IntKind.i64.wrap ((j : Int) - (i : Int)) = ((j - i : Nat) : Int) := by rw [wr64 (by omega)]; omega
      have v4 : IntKind.i64.wrap (((mm + j : Nat) : Int) - (i : Int)) = ((mm + j - i : Nat) : Int) := by rw [wr64 (by omega)]; omega
      have hgd : ((j : Int) < (i : Int)) = False := eq_false (by omega)
      simp only [hijd, hgd, v1, v2, v3, v4, go_sem, ↓reduceIte, Nat.reduceEqDiff, Nat.reduceBEq, Nat.reduceAdd, Nat.reduceLeDiff, Nat.reduceLT, reduceCtorEq, Nat.reduceMul, Nat.reduceSub, Int.reduceEq, Int.reduceLT, Int.reduceLE, Int.reduceToNat]
      refine vcCall.x (sw1 (mm - i) (mm + j - i) i (by omega) (by omega) _ _ (gc_same _ _ _)) ?_
      simp only [hijd, hgd, v1, v2, v3, v4, go_sem, ↓reduceIte, Nat.reduceEqDiff, Nat.reduceBEq, Nat.reduceAdd, Nat.reduceLeDiff, Nat.reduceLT, reduceCtorEq, Nat.reduceMul, Nat.reduceSub, Int.reduceEq, Int.reduceLT, Int.reduceLE, Int.reduceToNat]
      refine ⟨((i, j - i, pm K (sw (mm - i) (mm + j - i) i)), _), ⟨i1, by dsimp only; omega, i3, by dsimp only; omega, by dsimp only; rw [pm_len, i5], i6, ?_⟩, by dsimp only; omega, weak_ok ?_ (sub_dup (Sub.refl _)) (Nat.le_refl _)⟩
      · dsimp only
        rw [rt_lt i3 (by omega) (by omega)]
        exact i7
      simp only [v3, go_sem, ↓reduceIte, Nat.reduceEqDiff, Nat.reduceBEq, Nat.reduceAdd, Nat.reduceLeDiff, Nat.reduceLT, reduceCtorEq, Nat.reduceMul, Nat.reduceSub, Int.reduceEq, Int.reduceLT, Int.reduceLE, Int.reduceToNat]
end Go.Proofs.Ytaeablbcfkamjaa
