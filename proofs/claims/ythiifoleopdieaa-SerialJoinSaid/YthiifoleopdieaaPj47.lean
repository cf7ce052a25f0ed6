/-
  The parts SeA of the proof, in one file. Conditions: none.
-/
import Derived.Test.YthiifoleopdieaaPj46
namespace Go.Proofs.Ythiifoleopdieaa
open Go.Eng
set_option linter.unusedVariables false
set_option linter.unusedSimpArgs false
set_option maxRecDepth 20000
theorem snoc_int (l : List Int) (y : Int) : mapC in1 l ++ [[AV.i .i64 y]] = mapC in1 (l ++ [y]) := mapC_snoc in1 l y
attribute [go_sem] snoc_int
theorem ite_ne {α : Type} {k j : Nat} (h : ¬ k = j) (a b : α) : (if k = j then a else b) = b := if_neg h
/-- The place of a number, counted from j on, or -1. -/
def ixI (k : Int) : List Int → Nat → Int
  | [], _ => -1
  | x :: r, j => if k = x then j else ixI k r (j + 1)
theorem ixI_mem (k : Int) : ∀ (l : List Int) (j : Nat), (0 ≤ ixI k l j) = (k ∈ l)
  | [], j => by simp [ixI]
  | x :: r, j => by
    unfold ixI
    by_cases c : k = x
    · simp [c]
    · rw [if_neg c, ixI_mem k r (j + 1)]
      simp [c]
theorem indexI_ok (l : List Int) (k : Int) (hl : l.length ≤ 9223372036854775806) (hp : CH) (m : Nat) : MeetsF Try.prog 69 hp m [.ds (mapC in1 l), .i .i64 k] (.i .i64 (ixI k l 0)) := by
  refine meetsF Try.func69 (by kernel_rfl) cc69 cr69 rfl fun hf => ?_; unfold ck69
  simp only [go_sem, ↓reduceIte, Nat.reduceEqDiff, Nat.reduceBEq, Nat.reduceAdd, Nat.reduceLeDiff, Nat.reduceLT, reduceCtorEq, Nat.reduceMul, Nat.reduceSub, Int.reduceEq, Int.reduceLT, Int.reduceLE, Int.reduceToNat]
  refine loop (fun p : Nat × Nat => ⟨[(0, .ds (mapC in1 l)), (1, .i .i64 k), (7, .i .i64 l.length), (8, .i .i64 p.1)], hp, p.2⟩) (fun p => p.1 ≤ l.length ∧ ixI k l 0 = ixI k (l.drop p.1) p.1) (fun p => l.length - p.1) (0, m) ?_ ?_ (fun ⟨j, n⟩ hj => ?_)
  · grind
  · refine weak_ok ?_ (Sub.refl _) (Nat.le_refl _)
    simp only [go_sem, ↓reduceIte, Nat.reduceEqDiff, Nat.reduceBEq, Nat.reduceAdd, Nat.reduceLeDiff, Nat.reduceLT, reduceCtorEq, Nat.reduceMul, Nat.reduceSub, Int.reduceEq, Int.reduceLT, Int.reduceLE, Int.reduceToNat]
  dsimp only at hj
  simp only [go_sem, ↓reduceIte, Nat.reduceEqDiff, Nat.reduceBEq, Nat.reduceAdd, Nat.reduceLeDiff, Nat.reduceLT, reduceCtorEq, Nat.reduceMul, Nat.reduceSub, Int.reduceEq, Int.reduceLT, Int.reduceLE, Int.reduceToNat]
  refine cdK_of (fun c => ?_) (fun c => ?_)
  · have c : j < l.length := by simpa using c
    obtain ⟨x, ex⟩ : ∃ x, l[j]? = some x := ⟨l[j], by simp [c]⟩
    have e := drop_at ex
    rw [e, ixI] at hj
    simp only [c, getK_s (mapC_get in1 ex), go_sem, ↓reduceIte, Nat.reduceEqDiff, Nat.reduceBEq, Nat.reduceAdd, Nat.reduceLeDiff, Nat.reduceLT, reduceCtorEq, Nat.reduceMul, Nat.reduceSub, Int.reduceEq, Int.reduceLT, Int.reduceLE, Int.reduceToNat]
    refine cdK_of (fun c1 => ?_) (fun c1 => ?_)
    · have c1 : k = x := by simpa using c1
      simp only [go_sem, ↓reduceIte, Nat.reduceEqDiff, Nat.reduceBEq, Nat.reduceAdd, Nat.reduceLeDiff, Nat.reduceLT, reduceCtorEq, Nat.reduceMul, Nat.reduceSub, Int.reduceEq, Int.reduceLT, Int.reduceLE, Int.reduceToNat]
      rw [hj.2, if_pos c1]
    · have c1 : ¬ k = x := by simpa using c1
      rw [if_neg c1] at hj
      simp only [go_sem, ↓reduceIte, Nat.reduceEqDiff, Nat.reduceBEq, Nat.reduceAdd, Nat.reduceLeDiff, Nat.reduceLT, reduceCtorEq, Nat.reduceMul, Nat.reduceSub, Int.reduceEq, Int.reduceLT, Int.reduceLE, Int.reduceToNat]
      refine ⟨(j + 1, n), by dsimp only; omega, by dsimp only; omega, weak_ok ?_ (Sub.refl _) (Nat.le_refl _)⟩
      simp only [wr64s j (by omega), go_sem, ↓reduceIte, Nat.reduceEqDiff, Nat.reduceBEq, Nat.reduceAdd, Nat.reduceLeDiff, Nat.reduceLT, reduceCtorEq, Nat.reduceMul, Nat.reduceSub, Int.reduceEq, Int.reduceLT, Int.reduceLE, Int.reduceToNat]
  · have c : j = l.length := by simp at c; omega
    subst c
    rw [List.drop_length, ixI] at hj
    simp only [go_sem, ↓reduceIte, Nat.reduceEqDiff, Nat.reduceBEq, Nat.reduceAdd, Nat.reduceLeDiff, Nat.reduceLT, reduceCtorEq, Nat.reduceMul, Nat.reduceSub, Int.reduceEq, Int.reduceLT, Int.reduceLE, Int.reduceToNat]
    rw [hj.2]
theorem containsI_ok (l : List Int) (k : Int) (hl : l.length ≤ 9223372036854775806) (hp : CH) (m : Nat) : MeetsF Try.prog 37 hp m [.ds (mapC in1 l), .i .i64 k] (.b (decide (k ∈ l))) := by
  have h1 := indexI_ok l k hl
  have e := ixI_mem k l 0
  refine meetsF Try.func37 (by kernel_rfl) cc37 cr37 rfl fun hf => ?_; unfold ck37
  simp only [go_sem, ↓reduceIte, Nat.reduceEqDiff, Nat.reduceBEq, Nat.reduceAdd, Nat.reduceLeDiff, Nat.reduceLT, reduceCtorEq, Nat.reduceMul, Nat.reduceSub, Int.reduceEq, Int.reduceLT, Int.reduceLE, Int.reduceToNat]
  refine vcCall.f (h1 _ _) ?_
  simp only [go_sem, ↓reduceIte, Nat.reduceEqDiff, Nat.reduceBEq, Nat.reduceAdd, Nat.reduceLeDiff, Nat.reduceLT, reduceCtorEq, Nat.reduceMul, Nat.reduceSub, Int.reduceEq, Int.reduceLT, Int.reduceLE, Int.reduceToNat]
  simp only [e]
theorem tch1_ok (w : Wri) (f a : ByteArray) (c1 c2 : Nat) (hp : CH) (m : Nat) (hc1 : gc hp c1 = .bx [.s f]) (hc2 : gc hp c2 = .bx [.s a]) : MeetsF Try.prog 36 hp m [wx w, .bx c1 0, .bx c2 0] (.b (hits f a w)) := by
  unfold hits
  refine meetsF Try.func36 (by kernel_rfl) cc36 cr36 rfl fun hf => ?_; unfold ck36
  have hlt := bx_lt hf hc1
  have hlt2 := bx_lt hf hc2
  simp (disch := omega) only [ite_ne, hc1, hc2, go_sem, ↓reduceIte, Nat.reduceEqDiff, Nat.reduceBEq, Nat.reduceAdd, Nat.reduceLeDiff, Nat.reduceLT, reduceCtorEq, Nat.reduceMul, Nat.reduceSub, Int.reduceEq, Int.reduceLT, Int.reduceLE, Int.reduceToNat]
theorem srtI_nil : srtI [] = [] := by simp [srtI]
/-- The items that writes touch, one by one. -/
def tchS (f a : ByteArray) (n : Nat) (l : List Int) (w : Wri) : List Int := if hits f a w = true ∧ 0 ≤ w.i ∧ w.i < (n : Int) ∧ w.i ∉ l then l ++ [w.i] else l
def tchL (f a : ByteArray) (n : Nat) (ws : List Wri) : List Int := ws.foldl (tchS f a n) []
theorem tchL_step {f a : ByteArray} {n : Nat} {ws : List Wri} {j : Nat} {w : Wri} (h : ws[j]? = some w) : tchL f a n (ws.take (j + 1)) = tchS f a n (tchL f a n (ws.take j)) w := by
  unfold tchL
  rw [← take_snoc h, List.foldl_append]
  rfl
theorem tchS_len (f a : ByteArray) (n : Nat) (l : List Int) (w : Wri) : (tchS f a n l w).length ≤ l.length + 1 := by
  unfold tchS
  split <;> simp
theorem tchL_len (f a : ByteArray) (n : Nat) (ws : List Wri) (j : Nat) : (tchL f a n (ws.take j)).length ≤ j := by
  induction j with
  | zero => simp [tchL]
  | succ j ih =>
    by_cases hj : j < ws.length
    · rw [tchL_step (List.getElem?_eq_getElem hj)]
      have := tchS_len f a n (tchL f a n (ws.take j)) ws[j]
      omega
    · rw [List.take_of_length_le (by omega), ← List.take_of_length_le (i := j) (l := ws) (by omega)]
      omega
def tchD (d : Dat) (f a : ByteArray) : List Int := srtI (tchL f (argA d f a) d.i.length d.w)
theorem sort_ok {hp : CH} {m k g : Nat} {l : List Int} (h : gc hp k = .rw g 1 (mapC in1 l)) (h0 : l ≠ []) (hl : l.length < 4611686018427387904) :
    Meets Try.prog 38 hp m [.rw k g l.length] fun hp' n' r => hp' = (k, .rw g 1 (mapC in1 (srtI l))) :: hp ∧ n' = m ∧ r = .tp [] :=
  meets_sortI Try.lays189 rfl ⟨_, Try.func38, by kernel_rfl, by kernel_rfl⟩ h h0 hl
theorem dTouched_ok (d : Dat) (hd : d.Fit) (hw : d.w.length ≤ 100000000000) (f a : ByteArray) (hp : CH) (m : Nat) : MeetsF Try.prog 15 hp m [dx d, .s f, .s a] (.ds (mapC in1 (tchD d f a))) := by
  have h1 := hd.li
  obtain ⟨b, hb⟩ : ∃ b, d.w.any (hits f a) = b := ⟨_, rfl⟩
  obtain ⟨T, hT⟩ : ∃ T, tchD d f a = T := ⟨_, rfl⟩
  rw [hT]
  refine meetsF Try.func15 (by kernel_rfl) cc15 cr15 rfl fun hf => ?_; unfold ck15
  simp only [go_sem, ↓reduceIte, Nat.reduceEqDiff, Nat.reduceBEq, Nat.reduceAdd, Nat.reduceLeDiff, Nat.reduceLT, reduceCtorEq, Nat.reduceMul, Nat.reduceSub, Int.reduceEq, Int.reduceLT, Int.reduceLE, Int.reduceToNat]
  refine vcCall.f (anyf_wri d.w (hits f a) 36 [.bx (m + 1) 0, .bx (m + 2) 0] (by omega) _ _ fun w hw n => tch1_ok w f a (m + 1) (m + 2) _ _ (by simp only [go_sem, ↓reduceIte, Nat.reduceEqDiff, Nat.reduceBEq, Nat.reduceAdd, Nat.reduceLeDiff, Nat.reduceLT, reduceCtorEq, Nat.reduceMul, Nat.reduceSub, Int.reduceEq, Int.reduceLT, Int.reduceLE, Int.reduceToNat]) (by simp only [go_sem, ↓reduceIte, Nat.reduceEqDiff, Nat.reduceBEq, Nat.reduceAdd, Nat.reduceLeDiff, Nat.reduceLT, reduceCtorEq, Nat.reduceMul, Nat.reduceSub, Int.reduceEq, Int.reduceLT, Int.reduceLE, Int.reduceToNat])) ?_
  simp only [hb, go_sem, ↓reduceIte, Nat.reduceEqDiff, Nat.reduceBEq, Nat.reduceAdd, Nat.reduceLeDiff, Nat.reduceLT, reduceCtorEq, Nat.reduceMul, Nat.reduceSub, Int.reduceEq, Int.reduceLT, Int.reduceLE, Int.reduceToNat]
  have hA : argA d f a = if b = true then a else ⟨#[]⟩ := by rw [argA, hb]
  refine cdK_of (fun c => ?_) (fun c => ?_)
  · have c : b = false := by simpa using c
    rw [if_neg (by simp [c])] at hA
    simp only [go_sem, ↓reduceIte, Nat.reduceEqDiff, Nat.reduceBEq, Nat.reduceAdd, Nat.reduceLeDiff, Nat.reduceLT, reduceCtorEq, Nat.reduceMul, Nat.reduceSub, Int.reduceEq, Int.reduceLT, Int.reduceLE, Int.reduceToNat]
    refine loop (fun p : Nat × Nat => ⟨[(3, .bx m 0), (4, .bx (m + 1) 0), (5, .bx (m + 2) 0), (7, .rw (m + 3) (tchL f (⟨#[]⟩) d.i.length (d.w.take p.1)).length (tchL f (⟨#[]⟩) d.i.length (d.w.take p.1)).length), (16, .ds (mapC wrC d.w)), (17, .i .i64 d.w.length), (18, .i .i64 p.1)], (m, .bx [.ds (mapC itC d.i), .ds (mapC wrC d.w)]) :: (m + 1, .bx [.s f]) :: (m + 2, .bx [.s (⟨#[]⟩)]) :: (m + 3, .rw (tchL f (⟨#[]⟩) d.i.length (d.w.take p.1)).length 1 (mapC in1 (tchL f (⟨#[]⟩) d.i.length (d.w.take p.1)))) :: hp, p.2⟩)
      (fun p => p.1 ≤ d.w.length ∧ m + 4 ≤ p.2) (fun p => d.w.length - p.1) (0, m + 4) ?_ ?_ (fun ⟨j, n⟩ hj => ?_)
    · simp
    · refine (weak_e0 (t := 7) (m := 1) ?_).trans (weak_ok ?_ (Sub.cons ?_ (Sub.cons ?_ (Sub.cons ?_ (Sub.cons ?_ (Sub.base hf ?_))))) (Nat.le_refl _))
      all_goals (simp (disch := omega) only [ite_ne, go_sem, ↓reduceIte, Nat.reduceEqDiff, Nat.reduceBEq, Nat.reduceAdd, Nat.reduceLeDiff, Nat.reduceLT, reduceCtorEq, Nat.reduceMul, Nat.reduceSub, Int.reduceEq, Int.reduceLT, Int.reduceLE, Int.reduceToNat])
      all_goals rfl
    dsimp only at hj
    obtain ⟨hj1, hj2⟩ := hj
    have hL := tchL_len f (⟨#[]⟩) d.i.length d.w j
    simp (disch := omega) only [ite_ne, go_sem, ↓reduceIte, Nat.reduceEqDiff, Nat.reduceBEq, Nat.reduceAdd, Nat.reduceLeDiff, Nat.reduceLT, reduceCtorEq, Nat.reduceMul, Nat.reduceSub, Int.reduceEq, Int.reduceLT, Int.reduceLE, Int.reduceToNat]
    refine cdK_of (fun q => ?_) (fun q => ?_)
    · have q : j < d.w.length := by simpa using q
      obtain ⟨w, ew⟩ : ∃ w, d.w[j]? = some w := ⟨d.w[j], by simp [q]⟩
      have hst := tchL_step (f := f) (a := ⟨#[]⟩) (n := d.i.length) ew
      obtain ⟨O, hO⟩ : ∃ O, tchL f (⟨#[]⟩) d.i.length (d.w.take j) = O := ⟨_, rfl⟩
      rw [hO] at hst hL ⊢
      have hOt : O.take O.length = O := List.take_length
      have k1 : (O.length + 1) * 8 ≤ 140737488355328 := by omega
      have k2 : O.length + 1 ≤ 9223372036854775807 := by omega
      have k3 : d.w.length - (j + 1) < d.w.length - j := by omega
      simp (disch := omega) only [ite_ne, q, getK_s (mapC_get wrC ew), go_sem, ↓reduceIte, Nat.reduceEqDiff, Nat.reduceBEq, Nat.reduceAdd, Nat.reduceLeDiff, Nat.reduceLT, reduceCtorEq, Nat.reduceMul, Nat.reduceSub, Int.reduceEq, Int.reduceLT, Int.reduceLE, Int.reduceToNat]
      refine gCall.f (fun _ => MeetsF.lend (R := [(m + 3, .sh O.length 1 (mapC in1 O))]) (B := []) ?_ trivial ?_ rfl (containsI_ok O w.i (by omega) _ _)) ?_
      · simp (disch := omega) only [ite_ne, go_sem, ↓reduceIte, Nat.reduceEqDiff, Nat.reduceBEq, Nat.reduceAdd, Nat.reduceLeDiff, Nat.reduceLT, reduceCtorEq, Nat.reduceMul, Nat.reduceSub, Int.reduceEq, Int.reduceLT, Int.reduceLE, Int.reduceToNat]
      · simp (disch := omega) only [ite_ne, hOt, go_sem, ↓reduceIte, Nat.reduceEqDiff, Nat.reduceBEq, Nat.reduceAdd, Nat.reduceLeDiff, Nat.reduceLT, reduceCtorEq, Nat.reduceMul, Nat.reduceSub, Int.reduceEq, Int.reduceLT, Int.reduceLE, Int.reduceToNat]
      simp (disch := omega) only [ite_ne, hOt, go_sem, ↓reduceIte, Nat.reduceEqDiff, Nat.reduceBEq, Nat.reduceAdd, Nat.reduceLeDiff, Nat.reduceLT, reduceCtorEq, Nat.reduceMul, Nat.reduceSub, Int.reduceEq, Int.reduceLT, Int.reduceLE, Int.reduceToNat]
      refine cdK_of (fun c => ?_) (fun c => ?_)
      · have e : tchS f (⟨#[]⟩) d.i.length O w = O ++ [w.i] := by
          rw [tchS, if_pos]
          simpa [hits, and_assoc] using c
        rw [e] at hst
        simp (disch := omega) only [ite_ne, k1, k2, go_sem, ↓reduceIte, Nat.reduceEqDiff, Nat.reduceBEq, Nat.reduceAdd, Nat.reduceLeDiff, Nat.reduceLT, reduceCtorEq, Nat.reduceMul, Nat.reduceSub, Int.reduceEq, Int.reduceLT, Int.reduceLE, Int.reduceToNat]
        refine ⟨(j + 1, _), ⟨by dsimp only; omega, by dsimp only; omega⟩, k3, weak_ok ?_ (Sub.cons ?_ (Sub.cons ?_ (Sub.cons ?_ (Sub.cons ?_ (Sub.base hf ?_))))) (Nat.le_refl _)⟩
        all_goals
          simp (disch := omega) only [ite_ne, wr64s j (by omega), hst, List.length_append, List.length_cons, List.length_nil, go_sem, ↓reduceIte, Nat.reduceEqDiff, Nat.reduceBEq, Nat.reduceAdd, Nat.reduceLeDiff, Nat.reduceLT, reduceCtorEq, Nat.reduceMul, Nat.reduceSub, Int.reduceEq, Int.reduceLT, Int.reduceLE, Int.reduceToNat]
      · have e : tchS f (⟨#[]⟩) d.i.length O w = O := by
          rw [tchS, if_neg]
          rintro ⟨q1, q2, q3, q4⟩
          simp only [hits, Bool.and_eq_true, decide_eq_true_eq] at q1
          simp [q1, q2, q3, q4] at c
        rw [e] at hst
        simp (disch := omega) only [ite_ne, go_sem, ↓reduceIte, Nat.reduceEqDiff, Nat.reduceBEq, Nat.reduceAdd, Nat.reduceLeDiff, Nat.reduceLT, reduceCtorEq, Nat.reduceMul, Nat.reduceSub, Int.reduceEq, Int.reduceLT, Int.reduceLE, Int.reduceToNat]
        refine ⟨(j + 1, _), ⟨by dsimp only; omega, by dsimp only; omega⟩, k3, weak_ok ?_ (Sub.cons ?_ (Sub.cons ?_ (Sub.cons ?_ (Sub.cons ?_ (Sub.base hf ?_))))) (Nat.le_refl _)⟩
        all_goals
          simp (disch := omega) only [ite_ne, wr64s j (by omega), hst, go_sem, ↓reduceIte, Nat.reduceEqDiff, Nat.reduceBEq, Nat.reduceAdd, Nat.reduceLeDiff, Nat.reduceLT, reduceCtorEq, Nat.reduceMul, Nat.reduceSub, Int.reduceEq, Int.reduceLT, Int.reduceLE, Int.reduceToNat]
    · have q : j = d.w.length := by simp at q; omega
      subst q
      rw [List.take_length] at hL ⊢
      obtain ⟨O, hO⟩ : ∃ O, tchL f (⟨#[]⟩) d.i.length d.w = O := ⟨_, rfl⟩
      have hTO : T = srtI O := by rw [← hT, tchD, hA, hO]
      rw [hO] at hL ⊢
      have hOt : (srtI O).take O.length = srtI O := by rw [List.take_of_length_le (by rw [srtI_len]; omega)]
      have hOl := srtI_len O
      simp (disch := omega) only [ite_ne, go_sem, ↓reduceIte, Nat.reduceEqDiff, Nat.reduceBEq, Nat.reduceAdd, Nat.reduceLeDiff, Nat.reduceLT, reduceCtorEq, Nat.reduceMul, Nat.reduceSub, Int.reduceEq, Int.reduceLT, Int.reduceLE, Int.reduceToNat]
      rcases Nat.eq_zero_or_pos O.length with h0 | h0
      · have h0 := List.eq_nil_of_length_eq_zero h0
        subst h0
        refine vcCall.f (meets_sort0 Try.lays189 rfl ⟨_, Try.func38, by kernel_rfl, by kernel_rfl⟩) ?_
        simp (disch := omega) only [ite_ne, go_sem, ↓reduceIte, Nat.reduceEqDiff, Nat.reduceBEq, Nat.reduceAdd, Nat.reduceLeDiff, Nat.reduceLT, reduceCtorEq, Nat.reduceMul, Nat.reduceSub, Int.reduceEq, Int.reduceLT, Int.reduceLE, Int.reduceToNat]
        rw [hTO, srtI_nil]
        rfl
      · have h0 : O ≠ [] := fun e => by rw [e] at h0; simp at h0
        refine vcCall.r (sort_ok (k := m + 3) (g := O.length) (l := O) ?_ h0 (by omega)) ?_
        · simp (disch := omega) only [ite_ne, go_sem, ↓reduceIte, Nat.reduceEqDiff, Nat.reduceBEq, Nat.reduceAdd, Nat.reduceLeDiff, Nat.reduceLT, reduceCtorEq, Nat.reduceMul, Nat.reduceSub, Int.reduceEq, Int.reduceLT, Int.reduceLE, Int.reduceToNat]
        rintro _ _ _ ⟨rfl, rfl, rfl⟩
        simp (disch := omega) only [ite_ne, hOt, hOl, go_sem, ↓reduceIte, Nat.reduceEqDiff, Nat.reduceBEq, Nat.reduceAdd, Nat.reduceLeDiff, Nat.reduceLT, reduceCtorEq, Nat.reduceMul, Nat.reduceSub, Int.reduceEq, Int.reduceLT, Int.reduceLE, Int.reduceToNat]
        rw [hTO]
  · have c : b = true := by simpa using c
    rw [if_pos c] at hA
    simp only [go_sem, ↓reduceIte, Nat.reduceEqDiff, Nat.reduceBEq, Nat.reduceAdd, Nat.reduceLeDiff, Nat.reduceLT, reduceCtorEq, Nat.reduceMul, Nat.reduceSub, Int.reduceEq, Int.reduceLT, Int.reduceLE, Int.reduceToNat]
    refine loop (fun p : Nat × Nat => ⟨[(3, .bx m 0), (4, .bx (m + 1) 0), (5, .bx (m + 2) 0), (7, .rw (m + 3) (tchL f (a) d.i.length (d.w.take p.1)).length (tchL f (a) d.i.length (d.w.take p.1)).length), (16, .ds (mapC wrC d.w)), (17, .i .i64 d.w.length), (18, .i .i64 p.1)], (m, .bx [.ds (mapC itC d.i), .ds (mapC wrC d.w)]) :: (m + 1, .bx [.s f]) :: (m + 2, .bx [.s (a)]) :: (m + 3, .rw (tchL f (a) d.i.length (d.w.take p.1)).length 1 (mapC in1 (tchL f (a) d.i.length (d.w.take p.1)))) :: hp, p.2⟩)
      (fun p => p.1 ≤ d.w.length ∧ m + 4 ≤ p.2) (fun p => d.w.length - p.1) (0, m + 4) ?_ ?_ (fun ⟨j, n⟩ hj => ?_)
    · simp
    · refine (weak_e0 (t := 7) (m := 1) ?_).trans (weak_ok ?_ (Sub.cons ?_ (Sub.cons ?_ (Sub.cons ?_ (Sub.cons ?_ (Sub.base hf ?_))))) (Nat.le_refl _))
      all_goals (simp (disch := omega) only [ite_ne, go_sem, ↓reduceIte, Nat.reduceEqDiff, Nat.reduceBEq, Nat.reduceAdd, Nat.reduceLeDiff, Nat.reduceLT, reduceCtorEq, Nat.reduceMul, Nat.reduceSub, Int.reduceEq, Int.reduceLT, Int.reduceLE, Int.reduceToNat])
      all_goals rfl
    dsimp only at hj
    obtain ⟨hj1, hj2⟩ := hj
    have hL := tchL_len f (a) d.i.length d.w j
    simp (disch := omega) only [ite_ne, go_sem, ↓reduceIte, Nat.reduceEqDiff, Nat.reduceBEq, Nat.reduceAdd, Nat.reduceLeDiff, Nat.reduceLT, reduceCtorEq, Nat.reduceMul, Nat.reduceSub, Int.reduceEq, Int.reduceLT, Int.reduceLE, Int.reduceToNat]
    refine cdK_of (fun q => ?_) (fun q => ?_)
    · have q : j < d.w.length := by simpa using q
      obtain ⟨w, ew⟩ : ∃ w, d.w[j]? = some w := ⟨d.w[j], by simp [q]⟩
      have hst := tchL_step (f := f) (a := a) (n := d.i.length) ew
      obtain ⟨O, hO⟩ : ∃ O, tchL f (a) d.i.length (d.w.take j) = O := ⟨_, rfl⟩
      rw [hO] at hst hL ⊢
      have hOt : O.take O.length = O := List.take_length
      have k1 : (O.length + 1) * 8 ≤ 140737488355328 := by omega
      have k2 : O.length + 1 ≤ 9223372036854775807 := by omega
      have k3 : d.w.length - (j + 1) < d.w.length - j := by omega
      simp (disch := omega) only [ite_ne, q, getK_s (mapC_get wrC ew), go_sem, ↓reduceIte, Nat.reduceEqDiff, Nat.reduceBEq, Nat.reduceAdd, Nat.reduceLeDiff, Nat.reduceLT, reduceCtorEq, Nat.reduceMul, Nat.reduceSub, Int.reduceEq, Int.reduceLT, Int.reduceLE, Int.reduceToNat]
      refine gCall.f (fun _ => MeetsF.lend (R := [(m + 3, .sh O.length 1 (mapC in1 O))]) (B := []) ?_ trivial ?_ rfl (containsI_ok O w.i (by omega) _ _)) ?_
      · simp (disch := omega) only [ite_ne, go_sem, ↓reduceIte, Nat.reduceEqDiff, Nat.reduceBEq, Nat.reduceAdd, Nat.reduceLeDiff, Nat.reduceLT, reduceCtorEq, Nat.reduceMul, Nat.reduceSub, Int.reduceEq, Int.reduceLT, Int.reduceLE, Int.reduceToNat]
      · simp (disch := omega) only [ite_ne, hOt, go_sem, ↓reduceIte, Nat.reduceEqDiff, Nat.reduceBEq, Nat.reduceAdd, Nat.reduceLeDiff, Nat.reduceLT, reduceCtorEq, Nat.reduceMul, Nat.reduceSub, Int.reduceEq, Int.reduceLT, Int.reduceLE, Int.reduceToNat]
      simp (disch := omega) only [ite_ne, hOt, go_sem, ↓reduceIte, Nat.reduceEqDiff, Nat.reduceBEq, Nat.reduceAdd, Nat.reduceLeDiff, Nat.reduceLT, reduceCtorEq, Nat.reduceMul, Nat.reduceSub, Int.reduceEq, Int.reduceLT, Int.reduceLE, Int.reduceToNat]
      refine cdK_of (fun c => ?_) (fun c => ?_)
      · have e : tchS f (a) d.i.length O w = O ++ [w.i] := by
          rw [tchS, if_pos]
          simpa [hits, and_assoc] using c
        rw [e] at hst
        simp (disch := omega) only [ite_ne, k1, k2, go_sem, ↓reduceIte, Nat.reduceEqDiff, Nat.reduceBEq, Nat.reduceAdd, Nat.reduceLeDiff, Nat.reduceLT, reduceCtorEq, Nat.reduceMul, Nat.reduceSub, Int.reduceEq, Int.reduceLT, Int.reduceLE, Int.reduceToNat]
        refine ⟨(j + 1, _), ⟨by dsimp only; omega, by dsimp only; omega⟩, k3, weak_ok ?_ (Sub.cons ?_ (Sub.cons ?_ (Sub.cons ?_ (Sub.cons ?_ (Sub.base hf ?_))))) (Nat.le_refl _)⟩
        all_goals
          simp (disch := omega) only [ite_ne, wr64s j (by omega), hst, List.length_append, List.length_cons, List.length_nil, go_sem, ↓reduceIte, Nat.reduceEqDiff, Nat.reduceBEq, Nat.reduceAdd, Nat.reduceLeDiff, Nat.reduceLT, reduceCtorEq, Nat.reduceMul, Nat.reduceSub, Int.reduceEq, Int.reduceLT, Int.reduceLE, Int.reduceToNat]
      · have e : tchS f (a) d.i.length O w = O := by
          rw [tchS, if_neg]
          rintro ⟨q1, q2, q3, q4⟩
          simp only [hits, Bool.and_eq_true, decide_eq_true_eq] at q1
          simp [q1, q2, q3, q4] at c
        rw [e] at hst
        simp (disch := omega) only [ite_ne, go_sem, ↓reduceIte, Nat.reduceEqDiff, Nat.reduceBEq, Nat.reduceAdd, Nat.reduceLeDiff, Nat.reduceLT, reduceCtorEq, Nat.reduceMul, Nat.reduceSub, Int.reduceEq, Int.reduceLT, Int.reduceLE, Int.reduceToNat]
        refine ⟨(j + 1, _), ⟨by dsimp only; omega, by dsimp only; omega⟩, k3, weak_ok ?_ (Sub.cons ?_ (Sub.cons ?_ (Sub.cons ?_ (Sub.cons ?_ (Sub.base hf ?_))))) (Nat.le_refl _)⟩
        all_goals
          simp (disch := omega) only [ite_ne, wr64s j (by omega), hst, go_sem, ↓reduceIte, Nat.reduceEqDiff, Nat.reduceBEq, Nat.reduceAdd, Nat.reduceLeDiff, Nat.reduceLT, reduceCtorEq, Nat.reduceMul, Nat.reduceSub, Int.reduceEq, Int.reduceLT, Int.reduceLE, Int.reduceToNat]
    · have q : j = d.w.length := by simp at q; omega
      subst q
      rw [List.take_length] at hL ⊢
      obtain ⟨O, hO⟩ : ∃ O, tchL f (a) d.i.length d.w = O := ⟨_, rfl⟩
      have hTO : T = srtI O := by rw [← hT, tchD, hA, hO]
      rw [hO] at hL ⊢
      have hOt : (srtI O).take O.length = srtI O := by rw [List.take_of_length_le (by rw [srtI_len]; omega)]
      have hOl := srtI_len O
      simp (disch := omega) only [ite_ne, go_sem, ↓reduceIte, Nat.reduceEqDiff, Nat.reduceBEq, Nat.reduceAdd, Nat.reduceLeDiff, Nat.reduceLT, reduceCtorEq, Nat.reduceMul, Nat.reduceSub, Int.reduceEq, Int.reduceLT, Int.reduceLE, Int.reduceToNat]
      rcases Nat.eq_zero_or_pos O.length with h0 | h0
      · have h0 := List.eq_nil_of_length_eq_zero h0
        subst h0
        refine vcCall.f (meets_sort0 Try.lays189 rfl ⟨_, Try.func38, by kernel_rfl, by kernel_rfl⟩) ?_
        simp (disch := omega) only [ite_ne, go_sem, ↓reduceIte, Nat.reduceEqDiff, Nat.reduceBEq, Nat.reduceAdd, Nat.reduceLeDiff, Nat.reduceLT, reduceCtorEq, Nat.reduceMul, Nat.reduceSub, Int.reduceEq, Int.reduceLT, Int.reduceLE, Int.reduceToNat]
        rw [hTO, srtI_nil]
        rfl
      · have h0 : O ≠ [] := fun e => by rw [e] at h0; simp at h0
        refine vcCall.r (sort_ok (k := m + 3) (g := O.length) (l := O) ?_ h0 (by omega)) ?_
        · simp (disch := omega) only [ite_ne, go_sem, ↓reduceIte, Nat.reduceEqDiff, Nat.reduceBEq, Nat.reduceAdd, Nat.reduceLeDiff, Nat.reduceLT, reduceCtorEq, Nat.reduceMul, Nat.reduceSub, Int.reduceEq, Int.reduceLT, Int.reduceLE, Int.reduceToNat]
        rintro _ _ _ ⟨rfl, rfl, rfl⟩
        simp (disch := omega) only [ite_ne, hOt, hOl, go_sem, ↓reduceIte, Nat.reduceEqDiff, Nat.reduceBEq, Nat.reduceAdd, Nat.reduceLeDiff, Nat.reduceLT, reduceCtorEq, Nat.reduceMul, Nat.reduceSub, Int.reduceEq, Int.reduceLT, Int.reduceLE, Int.reduceToNat]
        rw [hTO]
end Go.Proofs.Ythiifoleopdieaa
