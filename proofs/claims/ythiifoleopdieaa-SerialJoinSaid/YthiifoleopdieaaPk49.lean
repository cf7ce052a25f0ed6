/-
  The parts SeC of the proof, in one file. Conditions: none.
-/
import Derived.Test.YthiifoleopdieaaPj48
namespace Go.Proofs.Ythiifoleopdieaa
open Go.Eng
set_option linter.unusedVariables false
set_option linter.unusedSimpArgs false
set_option maxRecDepth 20000
/-- The fields of an object, one by one. -/
def prsV (v : Val) : List (ByteArray × Val) := v.keys.zip v.items
def jnS (O : List (ByteArray × Val)) (x : ByteArray × Val) : List (ByteArray × Val) := if 0 ≤ ix x.1 (O.map (·.1)) 0 then O else O ++ [x]
def jnV (O : List (ByteArray × Val)) (v : Val) : List (ByteArray × Val) := if v.k = 6 then (prsV v).foldl jnS O else O
def jnAll (l : List Val) : List (ByteArray × Val) := l.foldl jnV []
def jnK (l : List Val) (k : Int) : Int := if l.any (fun v => decide (v.k = 6)) = true then 6 else k
/-- The joined results. -/
def joinV (l : List Val) : Val := .mk (jnK l 0) 0 ⟨#[]⟩ ((jnAll l).map (·.2)) ((jnAll l).map (·.1))
def szJ (l : List Val) : Nat := (l.map fun v => (prsV v).length).sum
theorem prsV_len (v : Val) : (prsV v).length = min v.keys.length v.items.length := by simp [prsV, List.length_zip]
theorem prsV_get {v : Val} {i : Nat} {k : ByteArray} {x : Val} (h1 : v.keys[i]? = some k) (h2 : v.items[i]? = some x) : (prsV v)[i]? = some (k, x) := by simp [prsV, List.getElem?_zip_eq_some, h1, h2]
theorem rhas_ok (l : List ByteArray) (k : ByteArray) (hl : l.length ≤ 9223372036854775806) (hp : CH) (m : Nat) : MeetsF Try.prog 33 hp m [.ds (stC l), .s k] (.b (decide (0 ≤ ix k l 0))) := by
  refine meetsF Try.func33 (by kernel_rfl) cc33 cr33 rfl fun hf => ?_; unfold ck33
  simp only [go_sem, ↓reduceIte, Nat.reduceEqDiff, Nat.reduceBEq, Nat.reduceAdd, Nat.reduceLeDiff, Nat.reduceLT, reduceCtorEq, Nat.reduceMul, Nat.reduceSub, Int.reduceEq, Int.reduceLT, Int.reduceLE, Int.reduceToNat]
  refine loop (fun p : Nat × Nat => ⟨[(0, .ds (stC l)), (1, .s k), (5, .i .i64 p.1)], hp, p.2⟩) (fun p => p.1 ≤ l.length ∧ ix k l 0 = ix k (l.drop p.1) p.1) (fun p => l.length - p.1) (0, m) ?_ ?_ (fun ⟨j, n⟩ hj => ?_)
  · grind
  · refine weak_ok ?_ (Sub.refl _) (Nat.le_refl _)
    simp only [go_sem, ↓reduceIte, Nat.reduceEqDiff, Nat.reduceBEq, Nat.reduceAdd, Nat.reduceLeDiff, Nat.reduceLT, reduceCtorEq, Nat.reduceMul, Nat.reduceSub, Int.reduceEq, Int.reduceLT, Int.reduceLE, Int.reduceToNat]
  dsimp only at hj
  simp only [go_sem, ↓reduceIte, Nat.reduceEqDiff, Nat.reduceBEq, Nat.reduceAdd, Nat.reduceLeDiff, Nat.reduceLT, reduceCtorEq, Nat.reduceMul, Nat.reduceSub, Int.reduceEq, Int.reduceLT, Int.reduceLE, Int.reduceToNat]
  refine cdK_of (fun c => ?_) (fun c => ?_)
  · have c : j < l.length := by simpa using c
    obtain ⟨x, ex⟩ : ∃ x, l[j]? = some x := ⟨l[j], by simp [c]⟩
    have e := drop_at ex
    rw [e, ix] at hj
    simp only [c, getK_s (mapC_get st1 ex), go_sem, ↓reduceIte, Nat.reduceEqDiff, Nat.reduceBEq, Nat.reduceAdd, Nat.reduceLeDiff, Nat.reduceLT, reduceCtorEq, Nat.reduceMul, Nat.reduceSub, Int.reduceEq, Int.reduceLT, Int.reduceLE, Int.reduceToNat]
    refine cdK_of (fun c1 => ?_) (fun c1 => ?_)
    · have c1 : x = k := by simpa using c1
      rw [if_pos c1.symm] at hj
      simp only [go_sem, ↓reduceIte, Nat.reduceEqDiff, Nat.reduceBEq, Nat.reduceAdd, Nat.reduceLeDiff, Nat.reduceLT, reduceCtorEq, Nat.reduceMul, Nat.reduceSub, Int.reduceEq, Int.reduceLT, Int.reduceLE, Int.reduceToNat]
      rw [hj.2]
      simp
    · have c1 : ¬ x = k := by simpa using c1
      rw [if_neg fun e => c1 e.symm] at hj
      simp only [go_sem, ↓reduceIte, Nat.reduceEqDiff, Nat.reduceBEq, Nat.reduceAdd, Nat.reduceLeDiff, Nat.reduceLT, reduceCtorEq, Nat.reduceMul, Nat.reduceSub, Int.reduceEq, Int.reduceLT, Int.reduceLE, Int.reduceToNat]
      refine ⟨(j + 1, n), by dsimp only; omega, by dsimp only; omega, weak_ok ?_ (Sub.refl _) (Nat.le_refl _)⟩
      simp only [wr64s j (by omega), go_sem, ↓reduceIte, Nat.reduceEqDiff, Nat.reduceBEq, Nat.reduceAdd, Nat.reduceLeDiff, Nat.reduceLT, reduceCtorEq, Nat.reduceMul, Nat.reduceSub, Int.reduceEq, Int.reduceLT, Int.reduceLE, Int.reduceToNat]
  · have c : j = l.length := by simp at c; omega
    subst c
    rw [List.drop_length, ix] at hj
    simp only [go_sem, ↓reduceIte, Nat.reduceEqDiff, Nat.reduceBEq, Nat.reduceAdd, Nat.reduceLeDiff, Nat.reduceLT, reduceCtorEq, Nat.reduceMul, Nat.reduceSub, Int.reduceEq, Int.reduceLT, Int.reduceLE, Int.reduceToNat]
    rw [hj.2]
    simp
theorem sJoin_ok (l : List Val) (hl : l.length ≤ 1000000000000) (hfv : ∀ v ∈ l, v.Fit) (hB : szJ l ≤ 1000000000000) (hp : CH) (m : Nat) : MeetsF Try.prog 12 hp m [.ds (mapC valC l)] (vx (joinV l)) := by
  obtain ⟨K, hK⟩ : ∃ K, jnK l 0 = K := ⟨_, rfl⟩
  obtain ⟨FO, hFO⟩ : ∃ FO, jnAll l = FO := ⟨_, rfl⟩
  have hv : vx (joinV l) = .ag [.i .i64 K, .i .i64 0, .s ⟨#[]⟩, .ds (mapC valC (FO.map (·.2))), .ds (stC (FO.map (·.1)))] := by rw [joinV, hK, hFO]; rfl
  rw [hv]
  refine meetsF Try.func12 (by kernel_rfl) cc12 cr12 rfl fun hf => ?_; unfold ck12
  simp only [go_sem, ↓reduceIte, Nat.reduceEqDiff, Nat.reduceBEq, Nat.reduceAdd, Nat.reduceLeDiff, Nat.reduceLT, reduceCtorEq, Nat.reduceMul, Nat.reduceSub, Int.reduceEq, Int.reduceLT, Int.reduceLE, Int.reduceToNat]
  refine loop (fun p : Nat × List (ByteArray × Val) × Int × Nat => ⟨[(2, .bx m 0), (3, .bx (m + 1) 0), (7, .ds (mapC valC l)), (8, .i .i64 l.length), (9, .i .i64 p.1)],
      (m, .bx [.i .i64 0, .i .i64 0, .s ⟨#[]⟩, .e0, .e0]) :: (m + 1, .bx [.i .i64 p.2.2.1, .i .i64 0, .s ⟨#[]⟩, .rw (m + 2) p.2.1.length p.2.1.length, .rw (m + 3) p.2.1.length p.2.1.length]) :: (m + 2, .rw p.2.1.length 5 (mapC valC (p.2.1.map (·.2)))) :: (m + 3, .rw p.2.1.length 1 (stC (p.2.1.map (·.1)))) :: hp, p.2.2.2⟩)
    (fun p => p.1 ≤ l.length ∧ m + 4 ≤ p.2.2.2 ∧ p.2.1.length + szJ (l.drop p.1) ≤ 1000000000000 ∧ FO = (l.drop p.1).foldl jnV p.2.1 ∧ K = jnK (l.drop p.1) p.2.2.1) (fun p => l.length - p.1) (0, [], 0, m + 4) ?_ ?_ (fun ⟨j, O, k, n⟩ hj => ?_)
  · exact ⟨by simp, by simp, by simpa using hB, by rw [← hFO]; rfl, hK.symm⟩
  · refine (weak_b0 (c := m + 1) (i := 3) (m := 5) (gc_same _ _ _) rfl).trans ((weak_b0 (c := m + 1) (i := 4) (m := 1) (gc_same _ _ _) rfl).trans (weak_ok ?_ (Sub.cons ?_ (Sub.cons ?_ (Sub.cons ?_ (Sub.cons ?_ (Sub.base hf ?_))))) (Nat.le_refl _)))
    all_goals (simp (disch := omega) only [ite_ne, go_sem, ↓reduceIte, Nat.reduceEqDiff, Nat.reduceBEq, Nat.reduceAdd, Nat.reduceLeDiff, Nat.reduceLT, reduceCtorEq, Nat.reduceMul, Nat.reduceSub, Int.reduceEq, Int.reduceLT, Int.reduceLE, Int.reduceToNat])
    all_goals rfl
  dsimp only at hj
  obtain ⟨hj1, hj2, hj3, hj4, hj5⟩ := hj
  simp (disch := omega) only [ite_ne, go_sem, ↓reduceIte, Nat.reduceEqDiff, Nat.reduceBEq, Nat.reduceAdd, Nat.reduceLeDiff, Nat.reduceLT, reduceCtorEq, Nat.reduceMul, Nat.reduceSub, Int.reduceEq, Int.reduceLT, Int.reduceLE, Int.reduceToNat]
  refine cdK_of (fun q => ?_) (fun q => ?_)
  · have q : j < l.length := by simpa using q
    obtain ⟨v, ev⟩ : ∃ v, l[j]? = some v := ⟨l[j], by simp [q]⟩
    have hvf := hfv v (List.mem_of_getElem? ev)
    rw [drop_at ev] at hj3 hj4 hj5
    have eB : szJ (v :: l.drop (j + 1)) = (prsV v).length + szJ (l.drop (j + 1)) := by simp [szJ]
    rw [eB] at hj3
    rw [List.foldl_cons] at hj4
    simp (disch := omega) only [ite_ne, q, getK_s (mapC_get valC ev), go_sem, ↓reduceIte, Nat.reduceEqDiff, Nat.reduceBEq, Nat.reduceAdd, Nat.reduceLeDiff, Nat.reduceLT, reduceCtorEq, Nat.reduceMul, Nat.reduceSub, Int.reduceEq, Int.reduceLT, Int.reduceLE, Int.reduceToNat]
    refine cdK_of (fun c => ?_) (fun c => ?_)
    · have c : ¬ v.k = 6 := by simpa using c
      have e1 : jnV O v = O := by rw [jnV, if_neg c]
      have e2 : jnK (v :: l.drop (j + 1)) k = jnK (l.drop (j + 1)) k := by simp [jnK, c]
      rw [e1] at hj4
      rw [e2] at hj5
      simp (disch := omega) only [ite_ne, go_sem, ↓reduceIte, Nat.reduceEqDiff, Nat.reduceBEq, Nat.reduceAdd, Nat.reduceLeDiff, Nat.reduceLT, reduceCtorEq, Nat.reduceMul, Nat.reduceSub, Int.reduceEq, Int.reduceLT, Int.reduceLE, Int.reduceToNat]
      refine ⟨(j + 1, O, k, _), ⟨by dsimp only; omega, by dsimp only; omega, by dsimp only; omega, hj4, hj5⟩, by dsimp only; omega, weak_ok ?_ (Sub.cons ?_ (Sub.cons ?_ (Sub.cons ?_ (Sub.cons ?_ (Sub.base hf ?_))))) (Nat.le_refl _)⟩
      all_goals
        simp (disch := omega) only [ite_ne, wr64s j (by omega), go_sem, ↓reduceIte, Nat.reduceEqDiff, Nat.reduceBEq, Nat.reduceAdd, Nat.reduceLeDiff, Nat.reduceLT, reduceCtorEq, Nat.reduceMul, Nat.reduceSub, Int.reduceEq, Int.reduceLT, Int.reduceLE, Int.reduceToNat]
    · have c : v.k = 6 := by simpa using c
      have e1 : jnV O v = (prsV v).foldl jnS O := by rw [jnV, if_pos c]
      have e2 : jnK (v :: l.drop (j + 1)) k = 6 := by simp [jnK, c]
      have e3 : jnK (l.drop (j + 1)) 6 = 6 := by simp [jnK]
      rw [e1] at hj4
      rw [e2, ← e3] at hj5
      have hZ := prsV_len v
      obtain ⟨Z, hZ2⟩ : ∃ Z, (prsV v).length = Z := ⟨_, rfl⟩
      rw [hZ2] at hZ
      have hmn : (if (v.items.length : Int) < v.keys.length then (v.items.length : Int) else v.keys.length) = (Z : Nat) := by rw [hZ]; split <;> omega
      simp (disch := omega) only [ite_ne, hmn, go_sem, ↓reduceIte, Nat.reduceEqDiff, Nat.reduceBEq, Nat.reduceAdd, Nat.reduceLeDiff, Nat.reduceLT, reduceCtorEq, Nat.reduceMul, Nat.reduceSub, Int.reduceEq, Int.reduceLT, Int.reduceLE, Int.reduceToNat]
      refine loop (fun p : Nat × List (ByteArray × Val) × Nat => ⟨[(2, .bx m 0), (3, .bx (m + 1) 0), (5, .bx n 0), (7, .ds (mapC valC l)), (8, .i .i64 l.length), (9, .i .i64 j), (23, .i .i64 Z), (24, .i .i64 p.1)],
          (n, .bx [.i .i64 v.k, .i .i64 v.n, .s v.s, .ds (mapC valC v.items), .ds (stC v.keys)]) :: (m, .bx [.i .i64 0, .i .i64 0, .s ⟨#[]⟩, .e0, .e0]) :: (m + 1, .bx [.i .i64 6, .i .i64 0, .s ⟨#[]⟩, .rw (m + 2) p.2.1.length p.2.1.length, .rw (m + 3) p.2.1.length p.2.1.length]) :: (m + 2, .rw p.2.1.length 5 (mapC valC (p.2.1.map (·.2)))) :: (m + 3, .rw p.2.1.length 1 (stC (p.2.1.map (·.1)))) :: hp, p.2.2⟩)
        (fun p => p.1 ≤ Z ∧ n + 1 ≤ p.2.2 ∧ p.2.1.length + (Z - p.1) + szJ (l.drop (j + 1)) ≤ 1000000000000 ∧ FO = (l.drop (j + 1)).foldl jnV (((prsV v).drop p.1).foldl jnS p.2.1)) (fun p => Z - p.1) (0, O, n + 1) ?_ ?_ (fun ⟨i, O, n2⟩ hi => ?_)
      · exact ⟨by simp, by simp, by dsimp only; omega, by simpa using hj4⟩
      · refine weak_ok ?_ (Sub.cons ?_ (Sub.cons ?_ (Sub.cons ?_ (Sub.cons ?_ (Sub.cons ?_ (Sub.base hf ?_)))))) (Nat.le_refl _)
        all_goals (simp (disch := omega) only [ite_ne, go_sem, ↓reduceIte, Nat.reduceEqDiff, Nat.reduceBEq, Nat.reduceAdd, Nat.reduceLeDiff, Nat.reduceLT, reduceCtorEq, Nat.reduceMul, Nat.reduceSub, Int.reduceEq, Int.reduceLT, Int.reduceLE, Int.reduceToNat])
      clear hj4 hj3
      dsimp only at hi
      obtain ⟨hi1, hi2, hi3, hi4⟩ := hi
      simp (disch := omega) only [ite_ne, go_sem, ↓reduceIte, Nat.reduceEqDiff, Nat.reduceBEq, Nat.reduceAdd, Nat.reduceLeDiff, Nat.reduceLT, reduceCtorEq, Nat.reduceMul, Nat.reduceSub, Int.reduceEq, Int.reduceLT, Int.reduceLE, Int.reduceToNat]
      refine cdK_of (fun q2 => ?_) (fun q2 => ?_)
      · have q2 : i < Z := by simpa using q2
        obtain ⟨x, ex⟩ : ∃ x, v.items[i]? = some x := ⟨v.items[i]'(by omega), by simp⟩
        obtain ⟨y, ey⟩ : ∃ y, v.keys[i]? = some y := ⟨v.keys[i]'(by omega), by simp⟩
        have hxf := hvf.x (List.mem_of_getElem? ex)
        rw [drop_at (prsV_get ey ex), List.foldl_cons] at hi4
        have b1 : i < v.keys.length := by omega
        have b2 : i < v.items.length := by omega
        have t1 : (O.map (fun x : ByteArray × Val => x.1)).take O.length = O.map (fun x : ByteArray × Val => x.1) := List.take_of_length_le (by simp)
        have k1 : (O.length + 1) * 16 ≤ 140737488355328 := by omega
        have k2 : (O.length + 1) * 80 ≤ 140737488355328 := by omega
        have k3 : O.length + 1 ≤ 9223372036854775807 := by omega
        have k4 : Z - (i + 1) < Z - i := by omega
        have k0 := hvf.i
        have k5 : i < 9223372036854775807 := by omega
        simp (disch := omega) only [ite_ne, b1, b2, getK_s (mapC_get st1 ey), getK_s (mapC_get valC ex), go_sem, ↓reduceIte, Nat.reduceEqDiff, Nat.reduceBEq, Nat.reduceAdd, Nat.reduceLeDiff, Nat.reduceLT, reduceCtorEq, Nat.reduceMul, Nat.reduceSub, Int.reduceEq, Int.reduceLT, Int.reduceLE, Int.reduceToNat]
        refine dCallR.f (fun _ hp' e => MeetsF.lend (R := [(m + 3, .sh O.length 1 (stC (O.map (·.1))))]) (B := []) ⟨.inl ((e (m + 3) (.inl (by omega))).trans (by (simp (disch := omega) only [ite_ne, go_sem, ↓reduceIte, Nat.reduceEqDiff, Nat.reduceBEq, Nat.reduceAdd, Nat.reduceLeDiff, Nat.reduceLT, reduceCtorEq, Nat.reduceMul, Nat.reduceSub, Int.reduceEq, Int.reduceLT, Int.reduceLE, Int.reduceToNat]))), trivial⟩ trivial ?_ rfl (contains_ok (O.map (·.1)) y (by simp; omega) _ _)) ?_
        · simp (disch := omega) only [ite_ne, t1, List.length_map, Nat.le_refl, go_sem, ↓reduceIte, Nat.reduceEqDiff, Nat.reduceBEq, Nat.reduceAdd, Nat.reduceLeDiff, Nat.reduceLT, reduceCtorEq, Nat.reduceMul, Nat.reduceSub, Int.reduceEq, Int.reduceLT, Int.reduceLE, Int.reduceToNat]
        simp (disch := omega) only [ite_ne, b1, b2, getK_s (mapC_get st1 ey), getK_s (mapC_get valC ex), go_sem, ↓reduceIte, Nat.reduceEqDiff, Nat.reduceBEq, Nat.reduceAdd, Nat.reduceLeDiff, Nat.reduceLT, reduceCtorEq, Nat.reduceMul, Nat.reduceSub, Int.reduceEq, Int.reduceLT, Int.reduceLE, Int.reduceToNat]
        refine cdK_of (fun c2 => ?_) (fun c2 => ?_)
        · have c2 : ¬ 0 ≤ ix y (O.map (·.1)) 0 := by simpa using c2
          have e4 : jnS O (y, x) = O ++ [(y, x)] := by rw [jnS, if_neg c2]
          rw [e4] at hi4
          simp (disch := omega) only [ite_ne, b1, b2, getK_s (mapC_get st1 ey), getK_s (mapC_get valC ex), k1, k2, k3, List.length_map, go_sem, ↓reduceIte, Nat.reduceEqDiff, Nat.reduceBEq, Nat.reduceAdd, Nat.reduceLeDiff, Nat.reduceLT, reduceCtorEq, Nat.reduceMul, Nat.reduceSub, Int.reduceEq, Int.reduceLT, Int.reduceLE, Int.reduceToNat]
          refine dCallR.f (fun _ hp' e => copy_ok x hxf _ _) ?_
          simp (disch := omega) only [ite_ne, b1, b2, getK_s (mapC_get st1 ey), getK_s (mapC_get valC ex), k1, k2, k3, List.length_map, go_sem, ↓reduceIte, Nat.reduceEqDiff, Nat.reduceBEq, Nat.reduceAdd, Nat.reduceLeDiff, Nat.reduceLT, reduceCtorEq, Nat.reduceMul, Nat.reduceSub, Int.reduceEq, Int.reduceLT, Int.reduceLE, Int.reduceToNat]
          refine ⟨(i + 1, O ++ [(y, x)], _), ⟨by dsimp only; omega, by dsimp only; omega, by simp; omega, hi4⟩, k4, weak_ok ?_ (Sub.cons ?_ (Sub.cons ?_ (Sub.cons ?_ (Sub.cons ?_ (Sub.cons ?_ (Sub.base hf ?_)))))) (Nat.le_refl _)⟩
          all_goals
            simp (disch := omega) only [ite_ne, wr64s i k5, List.length_append, List.length_cons, List.length_nil, List.map_append, List.map_cons, List.map_nil, go_sem, ↓reduceIte, Nat.reduceEqDiff, Nat.reduceBEq, Nat.reduceAdd, Nat.reduceLeDiff, Nat.reduceLT, reduceCtorEq, Nat.reduceMul, Nat.reduceSub, Int.reduceEq, Int.reduceLT, Int.reduceLE, Int.reduceToNat]
        · have c2 : 0 ≤ ix y (O.map (·.1)) 0 := by simpa using c2
          have e4 : jnS O (y, x) = O := by rw [jnS, if_pos c2]
          rw [e4] at hi4
          simp (disch := omega) only [ite_ne, go_sem, ↓reduceIte, Nat.reduceEqDiff, Nat.reduceBEq, Nat.reduceAdd, Nat.reduceLeDiff, Nat.reduceLT, reduceCtorEq, Nat.reduceMul, Nat.reduceSub, Int.reduceEq, Int.reduceLT, Int.reduceLE, Int.reduceToNat]
          refine ⟨(i + 1, O, _), ⟨by dsimp only; omega, by dsimp only; omega, by dsimp only; omega, hi4⟩, k4, weak_ok ?_ (Sub.cons ?_ (Sub.cons ?_ (Sub.cons ?_ (Sub.cons ?_ (Sub.cons ?_ (Sub.base hf ?_)))))) (Nat.le_refl _)⟩
          all_goals
            simp (disch := omega) only [ite_ne, wr64s i k5, go_sem, ↓reduceIte, Nat.reduceEqDiff, Nat.reduceBEq, Nat.reduceAdd, Nat.reduceLeDiff, Nat.reduceLT, reduceCtorEq, Nat.reduceMul, Nat.reduceSub, Int.reduceEq, Int.reduceLT, Int.reduceLE, Int.reduceToNat]
      · have q2 : i = Z := by simp at q2; omega
        subst q2
        rw [← hZ2, List.drop_length] at hi4
        simp (disch := omega) only [ite_ne, go_sem, ↓reduceIte, Nat.reduceEqDiff, Nat.reduceBEq, Nat.reduceAdd, Nat.reduceLeDiff, Nat.reduceLT, reduceCtorEq, Nat.reduceMul, Nat.reduceSub, Int.reduceEq, Int.reduceLT, Int.reduceLE, Int.reduceToNat]
        refine ⟨(j + 1, O, 6, _), ⟨by dsimp only; omega, by dsimp only; omega, by dsimp only; omega, hi4, hj5⟩, by dsimp only; omega, weak_ok ?_ (Sub.cons ?_ (Sub.cons ?_ (Sub.cons ?_ (Sub.cons ?_ (Sub.base hf ?_))))) (Nat.le_refl _)⟩
        all_goals
          simp (disch := omega) only [ite_ne, wr64s j (by omega), go_sem, ↓reduceIte, Nat.reduceEqDiff, Nat.reduceBEq, Nat.reduceAdd, Nat.reduceLeDiff, Nat.reduceLT, reduceCtorEq, Nat.reduceMul, Nat.reduceSub, Int.reduceEq, Int.reduceLT, Int.reduceLE, Int.reduceToNat]
  · have q : j = l.length := by simp at q; omega
    subst q
    rw [List.drop_length] at hj4 hj5
    have hj4 : FO = O := hj4
    have hj5 : K = k := hj5
    subst hj4 hj5
    have e1 : (List.map (fun x : ByteArray × Val => x.2) FO).take FO.length = List.map (fun x : ByteArray × Val => x.2) FO := List.take_of_length_le (by simp)
    have e2 : (List.map (fun x : ByteArray × Val => x.1) FO).take FO.length = List.map (fun x : ByteArray × Val => x.1) FO := List.take_of_length_le (by simp)
    simp (disch := omega) only [ite_ne, e1, e2, List.length_map, Nat.le_refl, go_sem, ↓reduceIte, Nat.reduceEqDiff, Nat.reduceBEq, Nat.reduceAdd, Nat.reduceLeDiff, Nat.reduceLT, reduceCtorEq, Nat.reduceMul, Nat.reduceSub, Int.reduceEq, Int.reduceLT, Int.reduceLE, Int.reduceToNat]
    done
theorem rJoin_ok (l : List Val) (hl : l.length ≤ 1000000000000) (hfv : ∀ v ∈ l, v.Fit) (hB : szJ l ≤ 1000000000000) (hp : CH) (m : Nat) : MeetsF Try.prog 13 hp m [.ds (mapC valC l)] (vx (joinV l)) := by
  obtain ⟨K, hK⟩ : ∃ K, jnK l 0 = K := ⟨_, rfl⟩
  obtain ⟨FO, hFO⟩ : ∃ FO, jnAll l = FO := ⟨_, rfl⟩
  have hv : vx (joinV l) = .ag [.i .i64 K, .i .i64 0, .s ⟨#[]⟩, .ds (mapC valC (FO.map (·.2))), .ds (stC (FO.map (·.1)))] := by rw [joinV, hK, hFO]; rfl
  rw [hv]
  refine meetsF Try.func13 (by kernel_rfl) cc13 cr13 rfl fun hf => ?_; unfold ck13
  simp only [go_sem, ↓reduceIte, Nat.reduceEqDiff, Nat.reduceBEq, Nat.reduceAdd, Nat.reduceLeDiff, Nat.reduceLT, reduceCtorEq, Nat.reduceMul, Nat.reduceSub, Int.reduceEq, Int.reduceLT, Int.reduceLE, Int.reduceToNat]
  refine loop (fun p : Nat × List (ByteArray × Val) × Int × Nat => ⟨[(0, .ds (mapC valC l)), (2, .bx m 0), (3, .bx (m + 1) 0), (4, .i .i64 p.1)],
      (m, .bx [.i .i64 0, .i .i64 0, .s ⟨#[]⟩, .e0, .e0]) :: (m + 1, .bx [.i .i64 p.2.2.1, .i .i64 0, .s ⟨#[]⟩, .rw (m + 2) p.2.1.length p.2.1.length, .rw (m + 3) p.2.1.length p.2.1.length]) :: (m + 2, .rw p.2.1.length 5 (mapC valC (p.2.1.map (·.2)))) :: (m + 3, .rw p.2.1.length 1 (stC (p.2.1.map (·.1)))) :: hp, p.2.2.2⟩)
    (fun p => p.1 ≤ l.length ∧ m + 4 ≤ p.2.2.2 ∧ p.2.1.length + szJ (l.drop p.1) ≤ 1000000000000 ∧ FO = (l.drop p.1).foldl jnV p.2.1 ∧ K = jnK (l.drop p.1) p.2.2.1) (fun p => l.length - p.1) (0, [], 0, m + 4) ?_ ?_ (fun ⟨j, O, k, n⟩ hj => ?_)
  · exact ⟨by simp, by simp, by simpa using hB, by rw [← hFO]; rfl, hK.symm⟩
  · refine (weak_b0 (c := m + 1) (i := 3) (m := 5) (gc_same _ _ _) rfl).trans ((weak_b0 (c := m + 1) (i := 4) (m := 1) (gc_same _ _ _) rfl).trans (weak_ok ?_ (Sub.cons ?_ (Sub.cons ?_ (Sub.cons ?_ (Sub.cons ?_ (Sub.base hf ?_))))) (Nat.le_refl _)))
    all_goals (simp (disch := omega) only [ite_ne, go_sem, ↓reduceIte, Nat.reduceEqDiff, Nat.reduceBEq, Nat.reduceAdd, Nat.reduceLeDiff, Nat.reduceLT, reduceCtorEq, Nat.reduceMul, Nat.reduceSub, Int.reduceEq, Int.reduceLT, Int.reduceLE, Int.reduceToNat])
    all_goals rfl
  dsimp only at hj
  obtain ⟨hj1, hj2, hj3, hj4, hj5⟩ := hj
  simp (disch := omega) only [ite_ne, go_sem, ↓reduceIte, Nat.reduceEqDiff, Nat.reduceBEq, Nat.reduceAdd, Nat.reduceLeDiff, Nat.reduceLT, reduceCtorEq, Nat.reduceMul, Nat.reduceSub, Int.reduceEq, Int.reduceLT, Int.reduceLE, Int.reduceToNat]
  refine cdK_of (fun q => ?_) (fun q => ?_)
  · have q : j < l.length := by simpa using q
    obtain ⟨v, ev⟩ : ∃ v, l[j]? = some v := ⟨l[j], by simp [q]⟩
    have hvf := hfv v (List.mem_of_getElem? ev)
    rw [drop_at ev] at hj3 hj4 hj5
    have eB : szJ (v :: l.drop (j + 1)) = (prsV v).length + szJ (l.drop (j + 1)) := by simp [szJ]
    rw [eB] at hj3
    rw [List.foldl_cons] at hj4
    simp (disch := omega) only [ite_ne, q, getK_s (mapC_get valC ev), go_sem, ↓reduceIte, Nat.reduceEqDiff, Nat.reduceBEq, Nat.reduceAdd, Nat.reduceLeDiff, Nat.reduceLT, reduceCtorEq, Nat.reduceMul, Nat.reduceSub, Int.reduceEq, Int.reduceLT, Int.reduceLE, Int.reduceToNat]
    refine cdK_of (fun c => ?_) (fun c => ?_)
    · have c : ¬ v.k = 6 := by simpa using c
      have e1 : jnV O v = O := by rw [jnV, if_neg c]
      have e2 : jnK (v :: l.drop (j + 1)) k = jnK (l.drop (j + 1)) k := by simp [jnK, c]
      rw [e1] at hj4
      rw [e2] at hj5
      simp (disch := omega) only [ite_ne, go_sem, ↓reduceIte, Nat.reduceEqDiff, Nat.reduceBEq, Nat.reduceAdd, Nat.reduceLeDiff, Nat.reduceLT, reduceCtorEq, Nat.reduceMul, Nat.reduceSub, Int.reduceEq, Int.reduceLT, Int.reduceLE, Int.reduceToNat]
      refine ⟨(j + 1, O, k, _), ⟨by dsimp only; omega, by dsimp only; omega, by dsimp only; omega, hj4, hj5⟩, by dsimp only; omega, weak_ok ?_ (Sub.cons ?_ (Sub.cons ?_ (Sub.cons ?_ (Sub.cons ?_ (Sub.base hf ?_))))) (Nat.le_refl _)⟩
      all_goals
        simp (disch := omega) only [ite_ne, wr64s j (by omega), go_sem, ↓reduceIte, Nat.reduceEqDiff, Nat.reduceBEq, Nat.reduceAdd, Nat.reduceLeDiff, Nat.reduceLT, reduceCtorEq, Nat.reduceMul, Nat.reduceSub, Int.reduceEq, Int.reduceLT, Int.reduceLE, Int.reduceToNat]
    · have c : v.k = 6 := by simpa using c
      have e1 : jnV O v = (prsV v).foldl jnS O := by rw [jnV, if_pos c]
      have e2 : jnK (v :: l.drop (j + 1)) k = 6 := by simp [jnK, c]
      have e3 : jnK (l.drop (j + 1)) 6 = 6 := by simp [jnK]
      rw [e1] at hj4
      rw [e2, ← e3] at hj5
      have hZ := prsV_len v
      obtain ⟨Z, hZ2⟩ : ∃ Z, (prsV v).length = Z := ⟨_, rfl⟩
      rw [hZ2] at hZ
      have hmn : (if (v.items.length : Int) < v.keys.length then (v.items.length : Int) else v.keys.length) = (Z : Nat) := by rw [hZ]; split <;> omega
      simp (disch := omega) only [ite_ne, hmn, go_sem, ↓reduceIte, Nat.reduceEqDiff, Nat.reduceBEq, Nat.reduceAdd, Nat.reduceLeDiff, Nat.reduceLT, reduceCtorEq, Nat.reduceMul, Nat.reduceSub, Int.reduceEq, Int.reduceLT, Int.reduceLE, Int.reduceToNat]
      refine loop (fun p : Nat × List (ByteArray × Val) × Nat => ⟨[(0, .ds (mapC valC l)), (2, .bx m 0), (3, .bx (m + 1) 0), (4, .i .i64 j), (5, .i .i64 p.1)],
          (m, .bx [.i .i64 0, .i .i64 0, .s ⟨#[]⟩, .e0, .e0]) :: (m + 1, .bx [.i .i64 6, .i .i64 0, .s ⟨#[]⟩, .rw (m + 2) p.2.1.length p.2.1.length, .rw (m + 3) p.2.1.length p.2.1.length]) :: (m + 2, .rw p.2.1.length 5 (mapC valC (p.2.1.map (·.2)))) :: (m + 3, .rw p.2.1.length 1 (stC (p.2.1.map (·.1)))) :: hp, p.2.2⟩)
        (fun p => p.1 ≤ Z ∧ n ≤ p.2.2 ∧ p.2.1.length + (Z - p.1) + szJ (l.drop (j + 1)) ≤ 1000000000000 ∧ FO = (l.drop (j + 1)).foldl jnV (((prsV v).drop p.1).foldl jnS p.2.1)) (fun p => Z - p.1) (0, O, n) ?_ ?_ (fun ⟨i, O, n2⟩ hi => ?_)
      · exact ⟨by simp, by simp, by dsimp only; omega, by simpa using hj4⟩
      · refine weak_ok ?_ (Sub.cons ?_ (Sub.cons ?_ (Sub.cons ?_ (Sub.cons ?_ (Sub.base hf ?_))))) (Nat.le_refl _)
        all_goals (simp (disch := omega) only [ite_ne, go_sem, ↓reduceIte, Nat.reduceEqDiff, Nat.reduceBEq, Nat.reduceAdd, Nat.reduceLeDiff, Nat.reduceLT, reduceCtorEq, Nat.reduceMul, Nat.reduceSub, Int.reduceEq, Int.reduceLT, Int.reduceLE, Int.reduceToNat])
      clear hj4 hj3
      dsimp only at hi
      obtain ⟨hi1, hi2, hi3, hi4⟩ := hi
      have k0 := hvf.i
      have k00 := hvf.l
      simp (disch := omega) only [ite_ne, q, mapC_get valC ev, getK_s (mapC_get valC ev), go_sem, ↓reduceIte, Nat.reduceEqDiff, Nat.reduceBEq, Nat.reduceAdd, Nat.reduceLeDiff, Nat.reduceLT, reduceCtorEq, Nat.reduceMul, Nat.reduceSub, Int.reduceEq, Int.reduceLT, Int.reduceLE, Int.reduceToNat]
      refine grK_of (fun g => ?_) (fun g => ?_)
      · have g1 : i < v.keys.length := by simpa using g
        simp (disch := omega) only [ite_ne, g, q, mapC_get valC ev, getK_s (mapC_get valC ev), go_sem, ↓reduceIte, Nat.reduceEqDiff, Nat.reduceBEq, Nat.reduceAdd, Nat.reduceLeDiff, Nat.reduceLT, reduceCtorEq, Nat.reduceMul, Nat.reduceSub, Int.reduceEq, Int.reduceLT, Int.reduceLE, Int.reduceToNat]
        refine cdK_of (fun q2 => ?_) (fun q2 => ?_)
        · have g2 : i < v.items.length := by simpa using q2
          have q2 : i < Z := by omega
          obtain ⟨x, ex⟩ : ∃ x, v.items[i]? = some x := ⟨v.items[i]'(by omega), by simp⟩
          obtain ⟨y, ey⟩ : ∃ y, v.keys[i]? = some y := ⟨v.keys[i]'(by omega), by simp⟩
          have hxf := hvf.x (List.mem_of_getElem? ex)
          rw [drop_at (prsV_get ey ex), List.foldl_cons] at hi4
          have b1 : i < v.keys.length := by omega
          have b2 : i < v.items.length := by omega
          have t1 : (O.map (fun x : ByteArray × Val => x.1)).take O.length = O.map (fun x : ByteArray × Val => x.1) := List.take_of_length_le (by simp)
          have k1 : (O.length + 1) * 16 ≤ 140737488355328 := by omega
          have k2 : (O.length + 1) * 80 ≤ 140737488355328 := by omega
          have k3 : O.length + 1 ≤ 9223372036854775807 := by omega
          have k4 : Z - (i + 1) < Z - i := by omega
          have k0 := hvf.i
          have k5 : i < 9223372036854775807 := by omega
          simp (disch := omega) only [ite_ne, q, mapC_get valC ev, mapC_get st1 ey, mapC_get valC ex, getK_s (mapC_get valC ev), b1, b2, getK_s (mapC_get st1 ey), getK_s (mapC_get valC ex), go_sem, ↓reduceIte, Nat.reduceEqDiff, Nat.reduceBEq, Nat.reduceAdd, Nat.reduceLeDiff, Nat.reduceLT, reduceCtorEq, Nat.reduceMul, Nat.reduceSub, Int.reduceEq, Int.reduceLT, Int.reduceLE, Int.reduceToNat]
          refine dCallR.f (fun _ hp' e => MeetsF.lend (R := [(m + 3, .sh O.length 1 (stC (O.map (·.1))))]) (B := []) ⟨.inl ((e (m + 3) (.inl (by omega))).trans (by (simp (disch := omega) only [ite_ne, go_sem, ↓reduceIte, Nat.reduceEqDiff, Nat.reduceBEq, Nat.reduceAdd, Nat.reduceLeDiff, Nat.reduceLT, reduceCtorEq, Nat.reduceMul, Nat.reduceSub, Int.reduceEq, Int.reduceLT, Int.reduceLE, Int.reduceToNat]))), trivial⟩ trivial ?_ rfl (rhas_ok (O.map (·.1)) y (by simp; omega) _ _)) ?_
          · simp (disch := omega) only [ite_ne, t1, List.length_map, Nat.le_refl, go_sem, ↓reduceIte, Nat.reduceEqDiff, Nat.reduceBEq, Nat.reduceAdd, Nat.reduceLeDiff, Nat.reduceLT, reduceCtorEq, Nat.reduceMul, Nat.reduceSub, Int.reduceEq, Int.reduceLT, Int.reduceLE, Int.reduceToNat]
          simp (disch := omega) only [ite_ne, q, mapC_get valC ev, mapC_get st1 ey, mapC_get valC ex, getK_s (mapC_get valC ev), b1, b2, getK_s (mapC_get st1 ey), getK_s (mapC_get valC ex), go_sem, ↓reduceIte, Nat.reduceEqDiff, Nat.reduceBEq, Nat.reduceAdd, Nat.reduceLeDiff, Nat.reduceLT, reduceCtorEq, Nat.reduceMul, Nat.reduceSub, Int.reduceEq, Int.reduceLT, Int.reduceLE, Int.reduceToNat]
          refine cdK_of (fun c2 => ?_) (fun c2 => ?_)
          · have c2 : ¬ 0 ≤ ix y (O.map (·.1)) 0 := by simpa using c2
            have e4 : jnS O (y, x) = O ++ [(y, x)] := by rw [jnS, if_neg c2]
            rw [e4] at hi4
            simp (disch := omega) only [ite_ne, q, mapC_get valC ev, mapC_get st1 ey, mapC_get valC ex, getK_s (mapC_get valC ev), b1, b2, getK_s (mapC_get st1 ey), getK_s (mapC_get valC ex), k1, k2, k3, List.length_map, go_sem, ↓reduceIte, Nat.reduceEqDiff, Nat.reduceBEq, Nat.reduceAdd, Nat.reduceLeDiff, Nat.reduceLT, reduceCtorEq, Nat.reduceMul, Nat.reduceSub, Int.reduceEq, Int.reduceLT, Int.reduceLE, Int.reduceToNat]
            refine dCallR.f (fun _ hp' e => rcopy_ok x hxf _ _) ?_
            simp (disch := omega) only [ite_ne, q, mapC_get valC ev, mapC_get st1 ey, mapC_get valC ex, getK_s (mapC_get valC ev), b1, b2, getK_s (mapC_get st1 ey), getK_s (mapC_get valC ex), k1, k2, k3, List.length_map, go_sem, ↓reduceIte, Nat.reduceEqDiff, Nat.reduceBEq, Nat.reduceAdd, Nat.reduceLeDiff, Nat.reduceLT, reduceCtorEq, Nat.reduceMul, Nat.reduceSub, Int.reduceEq, Int.reduceLT, Int.reduceLE, Int.reduceToNat]
            refine ⟨(i + 1, O ++ [(y, x)], _), ⟨by dsimp only; omega, by dsimp only; omega, by simp; omega, hi4⟩, k4, weak_ok ?_ (Sub.cons ?_ (Sub.cons ?_ (Sub.cons ?_ (Sub.cons ?_ (Sub.base hf ?_))))) (Nat.le_refl _)⟩
            all_goals
              simp (disch := omega) only [ite_ne, wr64s i k5, List.length_append, List.length_cons, List.length_nil, List.map_append, List.map_cons, List.map_nil, go_sem, ↓reduceIte, Nat.reduceEqDiff, Nat.reduceBEq, Nat.reduceAdd, Nat.reduceLeDiff, Nat.reduceLT, reduceCtorEq, Nat.reduceMul, Nat.reduceSub, Int.reduceEq, Int.reduceLT, Int.reduceLE, Int.reduceToNat]
          · have c2 : 0 ≤ ix y (O.map (·.1)) 0 := by simpa using c2
            have e4 : jnS O (y, x) = O := by rw [jnS, if_pos c2]
            rw [e4] at hi4
            simp (disch := omega) only [ite_ne, go_sem, ↓reduceIte, Nat.reduceEqDiff, Nat.reduceBEq, Nat.reduceAdd, Nat.reduceLeDiff, Nat.reduceLT, reduceCtorEq, Nat.reduceMul, Nat.reduceSub, Int.reduceEq, Int.reduceLT, Int.reduceLE, Int.reduceToNat]
            refine ⟨(i + 1, O, _), ⟨by dsimp only; omega, by dsimp only; omega, by dsimp only; omega, hi4⟩, k4, weak_ok ?_ (Sub.cons ?_ (Sub.cons ?_ (Sub.cons ?_ (Sub.cons ?_ (Sub.base hf ?_))))) (Nat.le_refl _)⟩
            all_goals
              simp (disch := omega) only [ite_ne, wr64s i k5, go_sem, ↓reduceIte, Nat.reduceEqDiff, Nat.reduceBEq, Nat.reduceAdd, Nat.reduceLeDiff, Nat.reduceLT, reduceCtorEq, Nat.reduceMul, Nat.reduceSub, Int.reduceEq, Int.reduceLT, Int.reduceLE, Int.reduceToNat]
        · have g2 : ¬ i < v.items.length := by simpa using q2
          have q2 : i = Z := by omega
          subst q2
          rw [← hZ2, List.drop_length] at hi4
          try (simp (disch := omega) only [ite_ne, go_sem, ↓reduceIte, Nat.reduceEqDiff, Nat.reduceBEq, Nat.reduceAdd, Nat.reduceLeDiff, Nat.reduceLT, reduceCtorEq, Nat.reduceMul, Nat.reduceSub, Int.reduceEq, Int.reduceLT, Int.reduceLE, Int.reduceToNat])
          refine ⟨(j + 1, O, 6, _), ⟨by dsimp only; omega, by dsimp only; omega, by dsimp only; omega, hi4, hj5⟩, by dsimp only; omega, weak_ok ?_ (Sub.cons ?_ (Sub.cons ?_ (Sub.cons ?_ (Sub.cons ?_ (Sub.base hf ?_))))) (Nat.le_refl _)⟩
          all_goals
            simp (disch := omega) only [ite_ne, wr64s j (by omega), go_sem, ↓reduceIte, Nat.reduceEqDiff, Nat.reduceBEq, Nat.reduceAdd, Nat.reduceLeDiff, Nat.reduceLT, reduceCtorEq, Nat.reduceMul, Nat.reduceSub, Int.reduceEq, Int.reduceLT, Int.reduceLE, Int.reduceToNat]
      · have g1 : ¬ i < v.keys.length := by simpa using g
        have q2 : i = Z := by omega
        simp (disch := omega) only [ite_ne, g, go_sem, ↓reduceIte, Nat.reduceEqDiff, Nat.reduceBEq, Nat.reduceAdd, Nat.reduceLeDiff, Nat.reduceLT, reduceCtorEq, Nat.reduceMul, Nat.reduceSub, Int.reduceEq, Int.reduceLT, Int.reduceLE, Int.reduceToNat]
        subst q2
        rw [← hZ2, List.drop_length] at hi4
        try (simp (disch := omega) only [ite_ne, go_sem, ↓reduceIte, Nat.reduceEqDiff, Nat.reduceBEq, Nat.reduceAdd, Nat.reduceLeDiff, Nat.reduceLT, reduceCtorEq, Nat.reduceMul, Nat.reduceSub, Int.reduceEq, Int.reduceLT, Int.reduceLE, Int.reduceToNat])
        refine ⟨(j + 1, O, 6, _), ⟨by dsimp only; omega, by dsimp only; omega, by dsimp only; omega, hi4, hj5⟩, by dsimp only; omega, weak_ok ?_ (Sub.cons ?_ (Sub.cons ?_ (Sub.cons ?_ (Sub.cons ?_ (Sub.base hf ?_))))) (Nat.le_refl _)⟩
        all_goals
          simp (disch := omega) only [ite_ne, wr64s j (by omega), go_sem, ↓reduceIte, Nat.reduceEqDiff, Nat.reduceBEq, Nat.reduceAdd, Nat.reduceLeDiff, Nat.reduceLT, reduceCtorEq, Nat.reduceMul, Nat.reduceSub, Int.reduceEq, Int.reduceLT, Int.reduceLE, Int.reduceToNat]
  · have q : j = l.length := by simp at q; omega
    subst q
    rw [List.drop_length] at hj4 hj5
    have hj4 : FO = O := hj4
    have hj5 : K = k := hj5
    subst hj4 hj5
    have e1 : (List.map (fun x : ByteArray × Val => x.2) FO).take FO.length = List.map (fun x : ByteArray × Val => x.2) FO := List.take_of_length_le (by simp)
    have e2 : (List.map (fun x : ByteArray × Val => x.1) FO).take FO.length = List.map (fun x : ByteArray × Val => x.1) FO := List.take_of_length_le (by simp)
    simp (disch := omega) only [ite_ne, e1, e2, List.length_map, Nat.le_refl, go_sem, ↓reduceIte, Nat.reduceEqDiff, Nat.reduceBEq, Nat.reduceAdd, Nat.reduceLeDiff, Nat.reduceLT, reduceCtorEq, Nat.reduceMul, Nat.reduceSub, Int.reduceEq, Int.reduceLT, Int.reduceLE, Int.reduceToNat]
    done
end Go.Proofs.Ythiifoleopdieaa
