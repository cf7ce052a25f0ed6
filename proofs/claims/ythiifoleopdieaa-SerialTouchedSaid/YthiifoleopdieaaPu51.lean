/-
  The parts SeG of the proof, in one file. Conditions: none.
-/
import Derived.Test.YthiifoleopdieaaPu50
namespace Go.Proofs.Ythiifoleopdieaa
open Go.Eng
set_option linter.unusedVariables false
set_option linter.unusedSimpArgs false
set_option maxRecDepth 20000
theorem tcL_app (f a : ByteArray) (ws : List Wri) (i : Nat) : ∀ n, i ≤ n → ∃ R, tcL f a ws n = tcL f a ws i ++ R ∧ ∀ x ∈ R, (i : Int) ≤ x
  | 0, h => ⟨[], by rw [show i = 0 by omega]; simp, by simp⟩
  | n + 1, h => by
    rcases Nat.lt_or_ge n i with q | q
    · exact ⟨[], by rw [show i = n + 1 by omega]; simp, by simp⟩
    · obtain ⟨R, e, hR⟩ := tcL_app f a ws i n q
      rw [tcL_step]
      split
      · refine ⟨R ++ [(n : Int)], by rw [e, List.append_assoc], fun x hx => ?_⟩
        rcases List.mem_append.1 hx with hx | hx
        · exact hR x hx
        · simp at hx; omega
      · exact ⟨R, e, hR⟩
theorem tc_yes {f a : ByteArray} {ws : List Wri} {i n : Nat} (h : i < n) (c : tcB f a ws i = true) : (tcL f a ws n)[(tcL f a ws i).length]? = some (i : Int) := by
  obtain ⟨R, e, _⟩ := tcL_app f a ws (i + 1) n h
  rw [e, tcL_step, if_pos c]
  simp
theorem tc_no {f a : ByteArray} {ws : List Wri} {i n : Nat} (h : i < n) (c : tcB f a ws i = false) {x : Int} (hx : (tcL f a ws n)[(tcL f a ws i).length]? = some x) : ¬ x = i := by
  obtain ⟨R, e, hR⟩ := tcL_app f a ws (i + 1) n h
  rw [tcL_step, if_neg (by simp [c])] at e
  rw [e, List.getElem?_append_right (Nat.le_refl _), Nat.sub_self] at hx
  have := hR x (List.mem_of_getElem? hx)
  omega
theorem tc_le (f a : ByteArray) (ws : List Wri) {i n : Nat} (h : i ≤ n) : (tcL f a ws i).length ≤ (tcL f a ws n).length := by
  obtain ⟨R, e, _⟩ := tcL_app f a ws i n h
  rw [e, List.length_append]
  omega
theorem tc_same {d : Dat} {f a : ByteArray} {i : Nat} (c : tcB f (argA d f a) d.w i = false) : (appV d f a).i[i]? = d.i[i]? := by
  refine appV_same d f a i fun w hw h => ?_
  have : tcB f (argA d f a) d.w i = true := by
    unfold tcB
    rw [List.any_eq_true]
    exact ⟨w, hw, by simp [h.1, h.2]⟩
  rw [this] at c
  cases c
theorem lawTouched (d : Dat) (hd : d.Fit2) (f a : ByteArray) (hp : CH) (m : Nat) : MeetsF Try.prog 5 hp m [dx d, .s f, .s a] (.b true) := by
  have hT := dTouched_ok d hd.f hd.w f a
  rw [tchD_eq] at hT
  have hR := rTouched_ok d hd.f f a
  have h1 := hd.f.li
  have hLn := tcL_len f (argA d f a) d.w d.i.length
  obtain ⟨A, hA⟩ : ∃ A, argA d f a = A := ⟨_, rfl⟩
  obtain ⟨L, hL⟩ : ∃ L, tcL f A d.w d.i.length = L := ⟨_, rfl⟩
  rw [hA, hL] at hT hR hLn
  have hX := appV_len d f a
  have hY := dApply_ok d hd f a
  have hS : ∀ i, tcB f A d.w i = false → (appV d f a).i[i]? = d.i[i]? := fun i c => tc_same (by rw [hA]; exact c)
  obtain ⟨X, hXe⟩ : ∃ X, appV d f a = X := ⟨_, rfl⟩
  rw [hXe] at hX hY hS
  refine meetsF Try.func5 (by kernel_rfl) cc5 cr5 rfl fun hf => ?_; unfold ck5
  simp only [go_sem, ↓reduceIte, Nat.reduceEqDiff, Nat.reduceBEq, Nat.reduceAdd, Nat.reduceLeDiff, Nat.reduceLT, reduceCtorEq, Nat.reduceMul, Nat.reduceSub, Int.reduceEq, Int.reduceLT, Int.reduceLE, Int.reduceToNat]
  refine vcCall.f (large_ok d hd.f _ _) ?_
  simp only [go_sem, ↓reduceIte, Nat.reduceEqDiff, Nat.reduceBEq, Nat.reduceAdd, Nat.reduceLeDiff, Nat.reduceLT, reduceCtorEq, Nat.reduceMul, Nat.reduceSub, Int.reduceEq, Int.reduceLT, Int.reduceLE, Int.reduceToNat]
  refine cdK_of (fun c => ?_) (fun c => ?_)
  · simp only [go_sem, ↓reduceIte, Nat.reduceEqDiff, Nat.reduceBEq, Nat.reduceAdd, Nat.reduceLeDiff, Nat.reduceLT, reduceCtorEq, Nat.reduceMul, Nat.reduceSub, Int.reduceEq, Int.reduceLT, Int.reduceLE, Int.reduceToNat]
    refine vcCall.f (knows_ok _ _) ?_
    simp only [go_sem, ↓reduceIte, Nat.reduceEqDiff, Nat.reduceBEq, Nat.reduceAdd, Nat.reduceLeDiff, Nat.reduceLT, reduceCtorEq, Nat.reduceMul, Nat.reduceSub, Int.reduceEq, Int.reduceLT, Int.reduceLE, Int.reduceToNat]
  simp only [go_sem, ↓reduceIte, Nat.reduceEqDiff, Nat.reduceBEq, Nat.reduceAdd, Nat.reduceLeDiff, Nat.reduceLT, reduceCtorEq, Nat.reduceMul, Nat.reduceSub, Int.reduceEq, Int.reduceLT, Int.reduceLE, Int.reduceToNat]
  refine dCallR.f (fun _ hp' e => hT _ _) ?_
  simp only [go_sem, ↓reduceIte, Nat.reduceEqDiff, Nat.reduceBEq, Nat.reduceAdd, Nat.reduceLeDiff, Nat.reduceLT, reduceCtorEq, Nat.reduceMul, Nat.reduceSub, Int.reduceEq, Int.reduceLT, Int.reduceLE, Int.reduceToNat]
  refine dCallR.f (fun _ hp' e => hR _ _) ?_
  simp (disch := omega) only [ite_ne, go_sem, ↓reduceIte, Nat.reduceEqDiff, Nat.reduceBEq, Nat.reduceAdd, Nat.reduceLeDiff, Nat.reduceLT, reduceCtorEq, Nat.reduceMul, Nat.reduceSub, Int.reduceEq, Int.reduceLT, Int.reduceLE, Int.reduceToNat]
  refine loop (fun p : Nat × Nat => ⟨[(1, .s f), (2, .s a), (3, .bx m 0), (7, .ds (mapC in1 L)), (8, .ds (mapC in1 L)), (9, .i .i64 p.1)], (m, .bx [.ds (mapC itC d.i), .ds (mapC wrC d.w)]) :: hp, p.2⟩)
    (fun p => p.1 ≤ L.length ∧ m + 1 ≤ p.2) (fun p => L.length - p.1) (0, m + 11) ?_ ?_ (fun ⟨j, n⟩ hj => ?_)
  · simp
  · refine weak_ok ?_ (Sub.cons ?_ (Sub.base hf ?_)) (Nat.le_refl _)
    all_goals (simp (disch := omega) only [ite_ne, go_sem, ↓reduceIte, Nat.reduceEqDiff, Nat.reduceBEq, Nat.reduceAdd, Nat.reduceLeDiff, Nat.reduceLT, reduceCtorEq, Nat.reduceMul, Nat.reduceSub, Int.reduceEq, Int.reduceLT, Int.reduceLE, Int.reduceToNat])
  dsimp only at hj
  obtain ⟨hj1, hj2⟩ := hj
  simp (disch := omega) only [ite_ne, go_sem, ↓reduceIte, Nat.reduceEqDiff, Nat.reduceBEq, Nat.reduceAdd, Nat.reduceLeDiff, Nat.reduceLT, reduceCtorEq, Nat.reduceMul, Nat.reduceSub, Int.reduceEq, Int.reduceLT, Int.reduceLE, Int.reduceToNat]
  refine cdK_of (fun q => ?_) (fun q => ?_)
  · have q : j < L.length := by simpa using q
    obtain ⟨x, ex⟩ : ∃ x, L[j]? = some x := ⟨L[j], by simp [q]⟩
    simp (disch := omega) only [ite_ne, q, getK_s (mapC_get in1 ex), go_sem, ↓reduceIte, Nat.reduceEqDiff, Nat.reduceBEq, Nat.reduceAdd, Nat.reduceLeDiff, Nat.reduceLT, reduceCtorEq, Nat.reduceMul, Nat.reduceSub, Int.reduceEq, Int.reduceLT, Int.reduceLE, Int.reduceToNat]
    refine ⟨(j + 1, _), ⟨by dsimp only; omega, by dsimp only; omega⟩, by dsimp only; omega, weak_ok ?_ (Sub.cons ?_ (Sub.base hf ?_)) (Nat.le_refl _)⟩
    all_goals
      simp (disch := omega) only [ite_ne, wr64s j (by omega), go_sem, ↓reduceIte, Nat.reduceEqDiff, Nat.reduceBEq, Nat.reduceAdd, Nat.reduceLeDiff, Nat.reduceLT, reduceCtorEq, Nat.reduceMul, Nat.reduceSub, Int.reduceEq, Int.reduceLT, Int.reduceLE, Int.reduceToNat]
  · simp (disch := omega) only [ite_ne, go_sem, ↓reduceIte, Nat.reduceEqDiff, Nat.reduceBEq, Nat.reduceAdd, Nat.reduceLeDiff, Nat.reduceLT, reduceCtorEq, Nat.reduceMul, Nat.reduceSub, Int.reduceEq, Int.reduceLT, Int.reduceLE, Int.reduceToNat]
    refine vcCall.f (hY _ _) ?_
    simp (disch := omega) only [ite_ne, hX, go_sem, ↓reduceIte, Nat.reduceEqDiff, Nat.reduceBEq, Nat.reduceAdd, Nat.reduceLeDiff, Nat.reduceLT, reduceCtorEq, Nat.reduceMul, Nat.reduceSub, Int.reduceEq, Int.reduceLT, Int.reduceLE, Int.reduceToNat]
    refine loop (fun p : Nat × Nat => ⟨[(3, .bx m 0), (7, .ds (mapC in1 L)), (10, .bx n 0), (11, .i .i64 (tcL f A d.w p.1).length), (12, .i .i64 p.1)], (m, .bx [.ds (mapC itC d.i), .ds (mapC wrC d.w)]) :: (n, .bx [.ds (mapC itC X.i), .ds (mapC wrC X.w)]) :: hp, p.2⟩)
      (fun p => p.1 ≤ d.i.length ∧ n + 1 ≤ p.2) (fun p => d.i.length - p.1) (0, n + 1) ?_ ?_ (fun ⟨i, n2⟩ hi => ?_)
    · simp
    · refine weak_ok ?_ (Sub.cons ?_ (Sub.cons ?_ (Sub.base hf ?_))) (Nat.le_refl _)
      all_goals (simp (disch := omega) only [ite_ne, go_sem, ↓reduceIte, Nat.reduceEqDiff, Nat.reduceBEq, Nat.reduceAdd, Nat.reduceLeDiff, Nat.reduceLT, reduceCtorEq, Nat.reduceMul, Nat.reduceSub, Int.reduceEq, Int.reduceLT, Int.reduceLE, Int.reduceToNat])
      all_goals rfl
    dsimp only at hi
    obtain ⟨hi1, hi2⟩ := hi
    simp (disch := omega) only [ite_ne, go_sem, ↓reduceIte, Nat.reduceEqDiff, Nat.reduceBEq, Nat.reduceAdd, Nat.reduceLeDiff, Nat.reduceLT, reduceCtorEq, Nat.reduceMul, Nat.reduceSub, Int.reduceEq, Int.reduceLT, Int.reduceLE, Int.reduceToNat]
    refine cdK_of (fun q => ?_) (fun q => ?_)
    · have q : i < d.i.length := by simpa using q
      have hle := tc_le f A d.w (Nat.le_of_lt q)
      rw [hL] at hle
      have hst := tcL_step f A d.w i
      have hyes := fun c => tc_yes (f := f) (a := A) (ws := d.w) q c
      have hno := fun c x => tc_no (f := f) (a := A) (ws := d.w) q c (x := x)
      rw [hL] at hyes hno
      obtain ⟨T, hTe⟩ : ∃ T, (tcL f A d.w i).length = T := ⟨_, rfl⟩
      rw [hTe] at hle hyes hno ⊢
      have hmn : m ≤ n := by omega
      have hmn2 : m ≤ n2 := by omega
      by_cases g : T < L.length
      · obtain ⟨x, ex⟩ : ∃ x, L[T]? = some x := ⟨L[T], by simp [g]⟩
        have g1 : decide ((T : Int) < L.length) = true := by simp; omega
        simp (disch := omega) only [ite_ne, g, g1, getK_s (mapC_get in1 ex), go_sem, ↓reduceIte, Nat.reduceEqDiff, Nat.reduceBEq, Nat.reduceAdd, Nat.reduceLeDiff, Nat.reduceLT, reduceCtorEq, Nat.reduceMul, Nat.reduceSub, Int.reduceEq, Int.reduceLT, Int.reduceLE, Int.reduceToNat]
        refine cdK_of (fun c2 => ?_) (fun c2 => ?_)
        · have c2 : x = i := by simpa using c2
          have c3 : tcB f A d.w i = true := by
            cases hc : tcB f A d.w i
            · exact absurd c2 (hno hc x ex)
            · rfl
          rw [if_pos c3] at hst
          have hst : (tcL f A d.w (i + 1)).length = T + 1 := by rw [hst, List.length_append, hTe]; rfl
          simp (disch := omega) only [ite_ne, go_sem, ↓reduceIte, Nat.reduceEqDiff, Nat.reduceBEq, Nat.reduceAdd, Nat.reduceLeDiff, Nat.reduceLT, reduceCtorEq, Nat.reduceMul, Nat.reduceSub, Int.reduceEq, Int.reduceLT, Int.reduceLE, Int.reduceToNat]
          refine ⟨(i + 1, _), ⟨by dsimp only; omega, by dsimp only; omega⟩, by dsimp only; omega, weak_ok ?_ (Sub.cons ?_ (Sub.cons ?_ (Sub.base hf ?_))) (Nat.le_refl _)⟩
          all_goals
            simp (disch := omega) only [ite_ne, wr64s i (by omega), wr64s T (by omega), hst, hmn, go_sem, ↓reduceIte, Nat.reduceEqDiff, Nat.reduceBEq, Nat.reduceAdd, Nat.reduceLeDiff, Nat.reduceLT, reduceCtorEq, Nat.reduceMul, Nat.reduceSub, Int.reduceEq, Int.reduceLT, Int.reduceLE, Int.reduceToNat]
        · have c2 : ¬ x = i := by simpa using c2
          have c3 : tcB f A d.w i = false := by
            cases hc : tcB f A d.w i
            · rfl
            · have := hyes hc
              rw [ex] at this
              exact absurd (Option.some.inj this) c2
          rw [if_neg (by simp [c3])] at hst
          have hst : (tcL f A d.w (i + 1)).length = T := by rw [hst, hTe]
          obtain ⟨y, ey⟩ : ∃ y, d.i[i]? = some y := ⟨d.i[i], by simp [q]⟩
          have ey2 := hS i c3
          rw [ey] at ey2
          have hyl := hd.f.ll (List.mem_of_getElem? ey)
          have hyc := fun c hc => hd.f.c (List.mem_of_getElem? ey) (c := c) hc
          have qX : i < X.i.length := by omega
          simp (disch := omega) only [ite_ne, q, qX, getK_s (mapC_get itC ey), getK_s (mapC_get itC ey2), go_sem, ↓reduceIte, Nat.reduceEqDiff, Nat.reduceBEq, Nat.reduceAdd, Nat.reduceLeDiff, Nat.reduceLT, reduceCtorEq, Nat.reduceMul, Nat.reduceSub, Int.reduceEq, Int.reduceLT, Int.reduceLE, Int.reduceToNat]
          refine dCallR.f (fun _ hp' e => rsameI_eq y hyl hyc _ _) ?_
          simp (disch := omega) only [ite_ne, go_sem, ↓reduceIte, Nat.reduceEqDiff, Nat.reduceBEq, Nat.reduceAdd, Nat.reduceLeDiff, Nat.reduceLT, reduceCtorEq, Nat.reduceMul, Nat.reduceSub, Int.reduceEq, Int.reduceLT, Int.reduceLE, Int.reduceToNat]
          refine ⟨(i + 1, _), ⟨by dsimp only; omega, by dsimp only; omega⟩, by dsimp only; omega, weak_ok ?_ (Sub.cons ?_ (Sub.cons ?_ (Sub.base hf ?_))) (Nat.le_refl _)⟩
          all_goals
            simp (disch := omega) only [ite_ne, wr64s i (by omega), hst, hmn, go_sem, ↓reduceIte, Nat.reduceEqDiff, Nat.reduceBEq, Nat.reduceAdd, Nat.reduceLeDiff, Nat.reduceLT, reduceCtorEq, Nat.reduceMul, Nat.reduceSub, Int.reduceEq, Int.reduceLT, Int.reduceLE, Int.reduceToNat]
      · have c3 : tcB f A d.w i = false := by
          cases hc : tcB f A d.w i
          · rfl
          · have := hyes hc
            rw [List.getElem?_eq_none (by omega)] at this
            cases this
        have g2 : decide ((T : Int) < L.length) = false := by simp; omega
        simp (disch := omega) only [ite_ne, g2, go_sem, ↓reduceIte, Nat.reduceEqDiff, Nat.reduceBEq, Nat.reduceAdd, Nat.reduceLeDiff, Nat.reduceLT, reduceCtorEq, Nat.reduceMul, Nat.reduceSub, Int.reduceEq, Int.reduceLT, Int.reduceLE, Int.reduceToNat]
        rw [if_neg (by simp [c3])] at hst
        have hst : (tcL f A d.w (i + 1)).length = T := by rw [hst, hTe]
        obtain ⟨y, ey⟩ : ∃ y, d.i[i]? = some y := ⟨d.i[i], by simp [q]⟩
        have ey2 := hS i c3
        rw [ey] at ey2
        have hyl := hd.f.ll (List.mem_of_getElem? ey)
        have hyc := fun c hc => hd.f.c (List.mem_of_getElem? ey) (c := c) hc
        have qX : i < X.i.length := by omega
        simp (disch := omega) only [ite_ne, q, qX, getK_s (mapC_get itC ey), getK_s (mapC_get itC ey2), go_sem, ↓reduceIte, Nat.reduceEqDiff, Nat.reduceBEq, Nat.reduceAdd, Nat.reduceLeDiff, Nat.reduceLT, reduceCtorEq, Nat.reduceMul, Nat.reduceSub, Int.reduceEq, Int.reduceLT, Int.reduceLE, Int.reduceToNat]
        refine dCallR.f (fun _ hp' e => rsameI_eq y hyl hyc _ _) ?_
        simp (disch := omega) only [ite_ne, go_sem, ↓reduceIte, Nat.reduceEqDiff, Nat.reduceBEq, Nat.reduceAdd, Nat.reduceLeDiff, Nat.reduceLT, reduceCtorEq, Nat.reduceMul, Nat.reduceSub, Int.reduceEq, Int.reduceLT, Int.reduceLE, Int.reduceToNat]
        refine ⟨(i + 1, _), ⟨by dsimp only; omega, by dsimp only; omega⟩, by dsimp only; omega, weak_ok ?_ (Sub.cons ?_ (Sub.cons ?_ (Sub.base hf ?_))) (Nat.le_refl _)⟩
        all_goals
          simp (disch := omega) only [ite_ne, wr64s i (by omega), hst, hmn, go_sem, ↓reduceIte, Nat.reduceEqDiff, Nat.reduceBEq, Nat.reduceAdd, Nat.reduceLeDiff, Nat.reduceLT, reduceCtorEq, Nat.reduceMul, Nat.reduceSub, Int.reduceEq, Int.reduceLT, Int.reduceLE, Int.reduceToNat]
    · have hmn : m ≤ n := by omega
      simp (disch := omega) only [ite_ne, go_sem, ↓reduceIte, Nat.reduceEqDiff, Nat.reduceBEq, Nat.reduceAdd, Nat.reduceLeDiff, Nat.reduceLT, reduceCtorEq, Nat.reduceMul, Nat.reduceSub, Int.reduceEq, Int.reduceLT, Int.reduceLE, Int.reduceToNat]
      refine vcCall.f (knows_ok _ _) ?_
      simp (disch := omega) only [ite_ne, hmn, go_sem, ↓reduceIte, Nat.reduceEqDiff, Nat.reduceBEq, Nat.reduceAdd, Nat.reduceLeDiff, Nat.reduceLT, reduceCtorEq, Nat.reduceMul, Nat.reduceSub, Int.reduceEq, Int.reduceLT, Int.reduceLE, Int.reduceToNat]
end Go.Proofs.Ythiifoleopdieaa
