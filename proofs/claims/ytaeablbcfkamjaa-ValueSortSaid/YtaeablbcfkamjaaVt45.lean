/-
  The parts VsF of the proof, in one file. Conditions: none.
-/
import Derived.Test.YtaeablbcfkamjaaVt44
namespace Go.Proofs.Ytaeablbcfkamjaa
open Go.Eng Vs
set_option linter.unusedVariables false
set_option linter.unusedSimpArgs false
set_option maxRecDepth 20000
set_option maxHeartbeats 1000000
theorem up_dup3 {n k : Nat} {X Y Z W : Chunk} {hp : CH} : Up n ((k, X) :: hp) ((k, X) :: (k, Y) :: (k, Z) :: (k, W) :: hp) := fun j _ => by
  rw [gc_cons, gc_cons, gc_cons, gc_cons, gc_cons]
  split <;> rfl
theorem cutS_b (lt : Nat → Nat → Bool) (d : List Nat) {a m b : Nat} (h1 : a < m) (h2 : m < b) : a ≤ cutS lt a m b d ∧ cutS lt a m b d ≤ m ∧ cutS lt a m b d ≤ (a + b) / 2 ∧ (a + b) / 2 + m - cutS lt a m b d ≤ b := by
  have key := bs1_spec (fun c => !lt (rd d ((a + b) / 2 + m - 1 - c)) (rd d c)) _ (if (a + b) / 2 < m then (a + b) / 2 + m - b else a) (if (a + b) / 2 < m then (a + b) / 2 else m) _ _ (Nat.le_refl _) (by split <;> omega) (Nat.le_refl _) (Nat.le_refl _) (.inl rfl) (.inl rfl)
  have hst : bs1 (fun c => !lt (rd d ((a + b) / 2 + m - 1 - c)) (rd d c)) (if (a + b) / 2 < m then (a + b) / 2 + m - b else a) (if (a + b) / 2 < m then (a + b) / 2 else m) = cutS lt a m b d := rfl
  rw [hst] at key
  generalize cutS lt a m b d = st at key
  obtain ⟨k1, k2, _, _⟩ := key
  by_cases c : (a + b) / 2 < m
  · rw [if_pos c] at k1 k2; omega
  · rw [if_neg c] at k1 k2; omega
def symA (less : Nat → Nat → Bool) (fu a m b : Nat) (d : List Nat) (st : Nat) : List Nat := if a < st ∧ st < (a + b) / 2 then symF less fu a st ((a + b) / 2) (turnS st m ((a + b) / 2 + m - st) d) else turnS st m ((a + b) / 2 + m - st) d
def symB (less : Nat → Nat → Bool) (fu a m b : Nat) (d : List Nat) (st : Nat) : List Nat := if (a + b) / 2 < (a + b) / 2 + m - st ∧ (a + b) / 2 + m - st < b then symF less fu ((a + b) / 2) ((a + b) / 2 + m - st) b (symA less fu a m b d st) else symA less fu a m b d st
theorem symF_succ (less : Nat → Nat → Bool) (f a m b : Nat) (d : List Nat) : symF less (f + 1) a m b d = if m - a = 1 then pm d (mvR a (bs1 (fun h => less (rd d h) (rd d a)) m b - 1))
    else if b - m = 1 then pm d (mvL m (bs1 (fun h => !less (rd d m) (rd d h)) a m)) else symB less f a m b d (cutS less a m b d) := rfl
theorem symF_lt (lt : Nat → Nat → Bool) (N : Nat) : ∀ (fu a m b : Nat) (d : List Nat), allLt N d → a < m → m < b → b ≤ d.length → allLt N (symF lt fu a m b d)
  | 0, _, _, _, _, h, _, _, _ => h
  | f + 1, a, m, b, d, h, h1, h2, h3 => by
    rw [symF_succ]
    split
    · have key := bs1_spec (fun h => lt (rd d h) (rd d a)) _ m b m b (Nat.le_refl _) (by omega) (Nat.le_refl _) (Nat.le_refl _) (.inl rfl) (.inl rfl)
      exact allLt_mvR h (by omega) (by omega)
    · split
      · exact allLt_mvL h (by omega)
      · obtain ⟨b1, b2, b3, b4⟩ := cutS_b lt d h1 h2
        generalize cutS lt a m b d = st at b1 b2 b3 b4 ⊢
        have hA : allLt N (symA lt f a m b d st) := by
          unfold symA
          split
          · rename_i q
            exact symF_lt lt N f _ _ _ _ (allLt_turn h (by omega)) q.1 q.2 (by rw [turnS_len]; omega)
          · exact allLt_turn h (by omega)
        have lA : (symA lt f a m b d st).length = d.length := by
          unfold symA
          split
          · rw [symF_len, turnS_len]
          · rw [turnS_len]
        unfold symB
        split
        · rename_i q
          exact symF_lt lt N f _ _ _ _ hA q.1 q.2 (by rw [lA]; exact h3)
        · exact hA
theorem sym_ok (lt : Nat → Nat → Bool) (cm : Nat → Nat → Int) (N k g f c : Nat) (hkc : k ≠ c) (hcm : ∀ x y, lt x y = decide (cm x y < 0)) : ∀ (fu a mm b : Nat) (d : List Nat), a < mm → mm < b → b ≤ d.length → d.length ≤ 1000000000000 → b - a ≤ fu → allLt N d →
    ∀ (hp : CH) (m : Nat), gc hp k = .rw g 1 (mapC nuC d) → c < m → CmpK cm N f c hp →
    MeetsX Try.prog 76 hp m [.rw k g d.length, .i .i64 a, .i .i64 mm, .i .i64 b, .fn f [.bx c 0]] ((k, .rw g 1 (mapC nuC (symF lt fu a mm b d))) :: hp) m (.tp [])
  | 0, a, mm, b, d, h1, h2, _, _, h4, _, hp, m, _, _, _ => by omega
  | fu + 1, a, mm, b, d, h1, h2, h3, hm, h4, hN, hp, m, hk, hc0, hc => by
    have ih := fun a mm b d (h1 : a < mm) (h2 : mm < b) (h3 : b ≤ d.length) (h5 : b - a ≤ fu) (hm : d.length ≤ 1000000000000) (hN : allLt N d) (hp : CH) (m : Nat) (hk : gc hp k = .rw g 1 (mapC nuC d)) (hc0 : c < m) (hc : CmpK cm N f c hp) => sym_ok lt cm N k g f c hkc hcm fu a mm b d h1 h2 h3 hm h5 hN hp m hk hc0 hc
    rw [symF_succ]
    by_cases q1 : mm - a = 1
    · rw [if_pos q1]
      have : mm = a + 1 := by omega
      subst this
      exact symL_ok lt cm N k g f c d hN a b h2 h3 hm fu hp m hk hkc hc0 hc hcm
    rw [if_neg q1]
    by_cases q2 : b - mm = 1
    · rw [if_pos q2]
      have : b = mm + 1 := by omega
      subst this
      exact symR_ok lt cm N k g f c d hN a mm (by omega) h3 hm hp m hk hkc hc0 hc hcm
    rw [if_neg q2]
    obtain ⟨b1, b2, b3, b4⟩ := cutS_b lt d h1 h2
    have hst : bs1 (fun c => !lt (rd d ((a + b) / 2 + mm - 1 - c)) (rd d c)) (if (a + b) / 2 < mm then (a + b) / 2 + mm - b else a) (if (a + b) / 2 < mm then (a + b) / 2 else mm) = cutS lt a mm b d := rfl
    generalize cutS lt a mm b d = st at b1 b2 b3 b4 hst ⊢
    have hN1 : allLt N (turnS st mm ((a + b) / 2 + mm - st) d) := allLt_turn hN (by omega)
    obtain ⟨R, hR⟩ : ∃ R, symB lt fu a mm b d st = R := ⟨_, rfl⟩
    rw [hR]
    unfold symB symA at hR
    have u1 : IntKind.i64.wrap ((mm : Int) - (a : Int)) = ((mm - a : Nat) : Int) := by rw [wr64 (by omega)]; omega
    have u1d : (((mm - a : Nat) : Int) = 1) = False := eq_false (by omega)
    have u2 : IntKind.i64.wrap ((b : Int) - (mm : Int)) = ((b - mm : Nat) : Int) := by rw [wr64 (by omega)]; omega
    have u2d : (((b - mm : Nat) : Int) = 1) = False := eq_false (by omega)
    have u3 := half_eq a b (by omega)
    have u5 : IntKind.i64.wrap ((((a + b) / 2 : Nat) : Int) + (mm : Int)) = (((a + b) / 2 + mm : Nat) : Int) := by rw [wr64 (by omega)]; omega
    have u6 : IntKind.i64.wrap ((((a + b) / 2 + mm : Nat) : Int) - 1) = (((a + b) / 2 + mm - 1 : Nat) : Int) := by rw [wr64 (by omega)]; omega
    have hkm : (∀ k, m ≤ k → gc hp k = .no) → k < m := fun hf => rw_lt hf hk
    by_cases cmid : (a + b) / 2 < mm
    · rw [if_pos cmid, if_pos cmid] at hst
      have cd : ((((a + b) / 2 : Nat) : Int) < (mm : Int)) = True := eq_true (by omega)
      have u7 : IntKind.i64.wrap ((((a + b) / 2 + mm : Nat) : Int) - (b : Int)) = (((a + b) / 2 + mm - b : Nat) : Int) := by rw [wr64 (by omega)]; omega
      refine meetsUpd Try.func76 (by kernel_rfl) cc76 cr76 rfl trivial (fun hf => rw_lt hf (by assumption)) fun hf => ?_; unfold ck76
      have hkm := hkm hf
      simp only [u1, u1d, u2, u2d, u3, u5, u6, u7, cd, go_sem, ↓reduceIte, Nat.reduceEqDiff, Nat.reduceBEq, Nat.reduceAdd, Nat.reduceLeDiff, Nat.reduceLT, reduceCtorEq, Nat.reduceMul, Nat.reduceSub, Int.reduceEq, Int.reduceLT, Int.reduceLE, Int.reduceToNat]
      refine loop (fun p : (Nat × Nat) × Nat => ⟨[(0, .rw k g d.length), (1, .i .i64 a), (2, .i .i64 mm), (3, .i .i64 b), (4, .fn f [.bx c 0]), (18, .i .i64 ((a + b) / 2 : Nat)), (19, .i .i64 ((a + b) / 2 + mm : Nat)), (20, .i .i64 p.1.1), (21, .i .i64 p.1.2), (22, .i .i64 ((a + b) / 2 + mm - 1 : Nat))], (k, .rw g 1 (mapC nuC d)) :: hp, p.2⟩)
        (fun p => (a + b) / 2 + mm - b ≤ p.1.1 ∧ p.1.1 ≤ p.1.2 ∧ p.1.2 ≤ (a + b) / 2 ∧ m ≤ p.2 ∧ bs1 (fun c => !lt (rd d ((a + b) / 2 + mm - 1 - c)) (rd d c)) p.1.1 p.1.2 = st) (fun p => p.1.2 - p.1.1) (((a + b) / 2 + mm - b, (a + b) / 2), m) ?_ ?_ (fun ⟨⟨i, j⟩, q⟩ hj => ?_)
      · exact ⟨Nat.le_refl _, by dsimp only; omega, Nat.le_refl _, Nat.le_refl _, hst⟩
      · refine weak_ok ?_ (Sub.cons hk (Sub.refl _)) (Nat.le_refl _)
        simp only [go_sem, ↓reduceIte, Nat.reduceEqDiff, Nat.reduceBEq, Nat.reduceAdd, Nat.reduceLeDiff, Nat.reduceLT, reduceCtorEq, Nat.reduceMul, Nat.reduceSub, Int.reduceEq, Int.reduceLT, Int.reduceLE, Int.reduceToNat]
      dsimp only at hj
      obtain ⟨i1, i2, i3, i4, i5⟩ := hj
      rw [bs1] at i5
      by_cases hij : i < j
      · have hijd : ((i : Int) < (j : Int)) = True := eq_true (by omega)
        rw [if_pos hij] at i5
        have hh := half_eq i j (by omega)
        obtain ⟨H, hH⟩ : ∃ H, (i + j) / 2 = H := ⟨_, rfl⟩
        rw [hH] at hh i5
        have hH1 : i ≤ H ∧ H < j := by omega
        have qH : H < d.length := by omega
        have qP : (a + b) / 2 + mm - 1 - H < d.length := by omega
        have w1 : IntKind.i64.wrap (((((a + b) / 2 + mm - 1 : Nat)) : Int) - (H : Int)) = (((a + b) / 2 + mm - 1 - H : Nat) : Int) := by rw [wr64 (by omega)]; omega
        have g1 := get_rdC qH
        have g2 := get_rdC qP
        have hcc := hc (rd d ((a + b) / 2 + mm - 1 - H)) (rd d H) (allLt_rd hN qP) (allLt_rd hN qH)
        have e1 := hcm (rd d ((a + b) / 2 + mm - 1 - H)) (rd d H)
        have tk : d.take d.length = d := List.take_length
        simp only [hijd, hh, tk, w1, qH, qP, getK_s g1, getK_s g2, g1, g2, go_sem, ↓reduceIte, Nat.reduceEqDiff, Nat.reduceBEq, Nat.reduceAdd, Nat.reduceLeDiff, Nat.reduceLT, reduceCtorEq, Nat.reduceMul, Nat.reduceSub, Int.reduceEq, Int.reduceLT, Int.reduceLE, Int.reduceToNat]
        refine dCall.f (fun _ hp' hh' => hcc hp' _ (by rw [hh' c (.inl (by omega)), gc_ne _ _ hkc])) ?_
        simp only [go_sem, ↓reduceIte, Nat.reduceEqDiff, Nat.reduceBEq, Nat.reduceAdd, Nat.reduceLeDiff, Nat.reduceLT, reduceCtorEq, Nat.reduceMul, Nat.reduceSub, Int.reduceEq, Int.reduceLT, Int.reduceLE, Int.reduceToNat]
        refine cdK_of (fun t => ?_) (fun t => ?_)
        · have t : (!lt (rd d ((a + b) / 2 + mm - 1 - H)) (rd d H)) = true := by rw [e1]; exact t
          rw [if_pos t] at i5
          simp only [wr64s H (by omega), go_sem, ↓reduceIte, Nat.reduceEqDiff, Nat.reduceBEq, Nat.reduceAdd, Nat.reduceLeDiff, Nat.reduceLT, reduceCtorEq, Nat.reduceMul, Nat.reduceSub, Int.reduceEq, Int.reduceLT, Int.reduceLE, Int.reduceToNat]
          refine ⟨((H + 1, j), _), ⟨by dsimp only; omega, by dsimp only; omega, i3, by dsimp only; omega, i5⟩, by dsimp only; omega, weak_ok ?_ (Sub.refl _) (Nat.le_refl _)⟩
          simp only [go_sem, ↓reduceIte, Nat.reduceEqDiff, Nat.reduceBEq, Nat.reduceAdd, Nat.reduceLeDiff, Nat.reduceLT, reduceCtorEq, Nat.reduceMul, Nat.reduceSub, Int.reduceEq, Int.reduceLT, Int.reduceLE, Int.reduceToNat]
        · have t : ¬ (!lt (rd d ((a + b) / 2 + mm - 1 - H)) (rd d H)) = true := by rw [e1, t]; simp
          rw [if_neg t] at i5
          simp only [go_sem, ↓reduceIte, Nat.reduceEqDiff, Nat.reduceBEq, Nat.reduceAdd, Nat.reduceLeDiff, Nat.reduceLT, reduceCtorEq, Nat.reduceMul, Nat.reduceSub, Int.reduceEq, Int.reduceLT, Int.reduceLE, Int.reduceToNat]
          refine ⟨((i, H), _), ⟨i1, by dsimp only; omega, by dsimp only; omega, by dsimp only; omega, i5⟩, by dsimp only; omega, weak_ok ?_ (Sub.refl _) (Nat.le_refl _)⟩
          simp only [go_sem, ↓reduceIte, Nat.reduceEqDiff, Nat.reduceBEq, Nat.reduceAdd, Nat.reduceLeDiff, Nat.reduceLT, reduceCtorEq, Nat.reduceMul, Nat.reduceSub, Int.reduceEq, Int.reduceLT, Int.reduceLE, Int.reduceToNat]
      have hijd : ((i : Int) < (j : Int)) = False := eq_false (by omega)
      rw [if_neg hij] at i5
      have i6 := i5.symm
      subst i6
      have u4 : IntKind.i64.wrap ((((a + b) / 2 + mm : Nat) : Int) - (st : Int)) = (((a + b) / 2 + mm - st : Nat) : Int) := by rw [wr64 (by omega)]; omega
      obtain ⟨en, hen⟩ : ∃ en, (a + b) / 2 + mm - st = en := ⟨_, rfl⟩
      rw [hen] at u4 hR hN1 b4
      simp only [hijd, u4, go_sem, ↓reduceIte, Nat.reduceEqDiff, Nat.reduceBEq, Nat.reduceAdd, Nat.reduceLeDiff, Nat.reduceLT, reduceCtorEq, Nat.reduceMul, Nat.reduceSub, Int.reduceEq, Int.reduceLT, Int.reduceLE, Int.reduceToNat]
      have qd : d.length ≤ 1000000000000 := hm
      by_cases c1 : st < mm ∧ mm < en
      · have d1 : (decide ((st : Int) < (mm : Int)) && decide ((mm : Int) < (en : Int))) = true := by simp; omega
        have hL1 : turnS st mm en d = pm d (rt st mm en) := by unfold turnS; rw [if_pos c1]
        rw [hL1] at hR hN1
        simp only [u4, d1, go_sem, ↓reduceIte, Nat.reduceEqDiff, Nat.reduceBEq, Nat.reduceAdd, Nat.reduceLeDiff, Nat.reduceLT, reduceCtorEq, Nat.reduceMul, Nat.reduceSub, Int.reduceEq, Int.reduceLT, Int.reduceLE, Int.reduceToNat]
        refine vcCall.x (rot_ok d st mm en c1.1 c1.2 (by omega) hm k g f c _ _ (by first | exact hk | exact gc_same _ _ _)) ?_
        have l1 : (pm d (rt st mm en)).length = d.length := pm_len _ _
        by_cases c2 : a < st ∧ st < (a + b) / 2
        · have d2 : (decide ((a : Int) < (st : Int)) && decide ((st : Int) < (((a + b) / 2 : Nat) : Int))) = true := by simp only [Bool.and_eq_true, decide_eq_true_eq]; omega
          rw [if_pos c2] at hR
          have hI := ih a st ((a + b) / 2) (pm d (rt st mm en)) c2.1 c2.2 (by omega) (by omega) (by omega) hN1
          have hN2 := symF_lt lt N fu a st ((a + b) / 2) (pm d (rt st mm en)) hN1 c2.1 c2.2 (by omega)
          have l2 := symF_len lt fu a st ((a + b) / 2) (pm d (rt st mm en))
          rw [l1] at l2 hI
          simp only [u4, d1, d2, go_sem, ↓reduceIte, Nat.reduceEqDiff, Nat.reduceBEq, Nat.reduceAdd, Nat.reduceLeDiff, Nat.reduceLT, reduceCtorEq, Nat.reduceMul, Nat.reduceSub, Int.reduceEq, Int.reduceLT, Int.reduceLE, Int.reduceToNat]
          refine vcCall.x (hI _ _ (by first | exact hk | exact gc_same _ _ _) (by omega) (hc.of (by simp only [gc_cons, if_neg hkc]))) ?_
          generalize symF lt fu a st ((a + b) / 2) (pm d (rt st mm en)) = L2 at hR hN2 l2 ⊢
          have l3 : (L2).length = d.length := l2
          by_cases c3 : (a + b) / 2 < en ∧ en < b
          · have d3 : (decide ((((a + b) / 2 : Nat) : Int) < (en : Int)) && decide ((en : Int) < (b : Int))) = true := by simp only [Bool.and_eq_true, decide_eq_true_eq]; omega
            rw [if_pos c3] at hR
            have hI3 := ih ((a + b) / 2) en b (L2) c3.1 c3.2 (by omega) (by omega) (by omega) hN2
            rw [l3] at hI3
            simp only [u4, d1, d2, d3, go_sem, ↓reduceIte, Nat.reduceEqDiff, Nat.reduceBEq, Nat.reduceAdd, Nat.reduceLeDiff, Nat.reduceLT, reduceCtorEq, Nat.reduceMul, Nat.reduceSub, Int.reduceEq, Int.reduceLT, Int.reduceLE, Int.reduceToNat]
            refine vcCall.x (hI3 _ _ (by first | exact hk | exact gc_same _ _ _) (by omega) (hc.of (by simp only [gc_cons, if_neg hkc]))) ?_
            rw [hR]
            simp only [u4, d1, d2, d3, go_sem, ↓reduceIte, Nat.reduceEqDiff, Nat.reduceBEq, Nat.reduceAdd, Nat.reduceLeDiff, Nat.reduceLT, reduceCtorEq, Nat.reduceMul, Nat.reduceSub, Int.reduceEq, Int.reduceLT, Int.reduceLE, Int.reduceToNat]
            first
              | done
              | exact up_dup
              | exact up_dup2
              | exact up_dup3
              | exact Up.refl _ _
          · have d3 : (decide ((((a + b) / 2 : Nat) : Int) < (en : Int)) && decide ((en : Int) < (b : Int))) = false := by
              cases e : (decide ((((a + b) / 2 : Nat) : Int) < (en : Int)) && decide ((en : Int) < (b : Int))) with
              | false => rfl
              | true => simp only [Bool.and_eq_true, decide_eq_true_eq] at e; exact absurd (by omega) c3
            rw [if_neg c3] at hR
            rw [← hR]
            simp only [u4, d1, d2, d3, go_sem, ↓reduceIte, Nat.reduceEqDiff, Nat.reduceBEq, Nat.reduceAdd, Nat.reduceLeDiff, Nat.reduceLT, reduceCtorEq, Nat.reduceMul, Nat.reduceSub, Int.reduceEq, Int.reduceLT, Int.reduceLE, Int.reduceToNat]
            first
              | done
              | exact up_dup
              | exact up_dup2
              | exact up_dup3
              | exact Up.refl _ _
        · have d2 : (decide ((a : Int) < (st : Int)) && decide ((st : Int) < (((a + b) / 2 : Nat) : Int))) = false := by
            cases e : (decide ((a : Int) < (st : Int)) && decide ((st : Int) < (((a + b) / 2 : Nat) : Int))) with
            | false => rfl
            | true => simp only [Bool.and_eq_true, decide_eq_true_eq] at e; exact absurd (by omega) c2
          rw [if_neg c2] at hR
          have hN2 := hN1
          have l3 : (pm d (rt st mm en)).length = d.length := l1
          by_cases c3 : (a + b) / 2 < en ∧ en < b
          · have d3 : (decide ((((a + b) / 2 : Nat) : Int) < (en : Int)) && decide ((en : Int) < (b : Int))) = true := by simp only [Bool.and_eq_true, decide_eq_true_eq]; omega
            rw [if_pos c3] at hR
            have hI3 := ih ((a + b) / 2) en b (pm d (rt st mm en)) c3.1 c3.2 (by omega) (by omega) (by omega) hN2
            rw [l3] at hI3
            simp only [u4, d1, d2, d3, go_sem, ↓reduceIte, Nat.reduceEqDiff, Nat.reduceBEq, Nat.reduceAdd, Nat.reduceLeDiff, Nat.reduceLT, reduceCtorEq, Nat.reduceMul, Nat.reduceSub, Int.reduceEq, Int.reduceLT, Int.reduceLE, Int.reduceToNat]
            refine vcCall.x (hI3 _ _ (by first | exact hk | exact gc_same _ _ _) (by omega) (hc.of (by simp only [gc_cons, if_neg hkc]))) ?_
            rw [hR]
            simp only [u4, d1, d2, d3, go_sem, ↓reduceIte, Nat.reduceEqDiff, Nat.reduceBEq, Nat.reduceAdd, Nat.reduceLeDiff, Nat.reduceLT, reduceCtorEq, Nat.reduceMul, Nat.reduceSub, Int.reduceEq, Int.reduceLT, Int.reduceLE, Int.reduceToNat]
            first
              | done
              | exact up_dup
              | exact up_dup2
              | exact up_dup3
              | exact Up.refl _ _
          · have d3 : (decide ((((a + b) / 2 : Nat) : Int) < (en : Int)) && decide ((en : Int) < (b : Int))) = false := by
              cases e : (decide ((((a + b) / 2 : Nat) : Int) < (en : Int)) && decide ((en : Int) < (b : Int))) with
              | false => rfl
              | true => simp only [Bool.and_eq_true, decide_eq_true_eq] at e; exact absurd (by omega) c3
            rw [if_neg c3] at hR
            rw [← hR]
            simp only [u4, d1, d2, d3, go_sem, ↓reduceIte, Nat.reduceEqDiff, Nat.reduceBEq, Nat.reduceAdd, Nat.reduceLeDiff, Nat.reduceLT, reduceCtorEq, Nat.reduceMul, Nat.reduceSub, Int.reduceEq, Int.reduceLT, Int.reduceLE, Int.reduceToNat]
            first
              | done
              | exact up_dup
              | exact up_dup2
              | exact up_dup3
              | exact Up.refl _ _
      · have d1 : (decide ((st : Int) < (mm : Int)) && decide ((mm : Int) < (en : Int))) = false := by
          cases e : (decide ((st : Int) < (mm : Int)) && decide ((mm : Int) < (en : Int))) with
          | false => rfl
          | true => simp at e; exact absurd (by omega) c1
        have hL1 : turnS st mm en d = d := by unfold turnS; rw [if_neg c1]
        rw [hL1] at hR hN1
        have l1 : (d).length = d.length := rfl
        by_cases c2 : a < st ∧ st < (a + b) / 2
        · have d2 : (decide ((a : Int) < (st : Int)) && decide ((st : Int) < (((a + b) / 2 : Nat) : Int))) = true := by simp only [Bool.and_eq_true, decide_eq_true_eq]; omega
          rw [if_pos c2] at hR
          have hI := ih a st ((a + b) / 2) (d) c2.1 c2.2 (by omega) (by omega) (by omega) hN1
          have hN2 := symF_lt lt N fu a st ((a + b) / 2) (d) hN1 c2.1 c2.2 (by omega)
          have l2 := symF_len lt fu a st ((a + b) / 2) (d)
          rw [l1] at l2 hI
          simp only [u4, d1, d2, go_sem, ↓reduceIte, Nat.reduceEqDiff, Nat.reduceBEq, Nat.reduceAdd, Nat.reduceLeDiff, Nat.reduceLT, reduceCtorEq, Nat.reduceMul, Nat.reduceSub, Int.reduceEq, Int.reduceLT, Int.reduceLE, Int.reduceToNat]
          refine vcCall.x (hI _ _ (by first | exact hk | exact gc_same _ _ _) (by omega) (hc.of (by simp only [gc_cons, if_neg hkc]))) ?_
          generalize symF lt fu a st ((a + b) / 2) (d) = L2 at hR hN2 l2 ⊢
          have l3 : (L2).length = d.length := l2
          by_cases c3 : (a + b) / 2 < en ∧ en < b
          · have d3 : (decide ((((a + b) / 2 : Nat) : Int) < (en : Int)) && decide ((en : Int) < (b : Int))) = true := by simp only [Bool.and_eq_true, decide_eq_true_eq]; omega
            rw [if_pos c3] at hR
            have hI3 := ih ((a + b) / 2) en b (L2) c3.1 c3.2 (by omega) (by omega) (by omega) hN2
            rw [l3] at hI3
            simp only [u4, d1, d2, d3, go_sem, ↓reduceIte, Nat.reduceEqDiff, Nat.reduceBEq, Nat.reduceAdd, Nat.reduceLeDiff, Nat.reduceLT, reduceCtorEq, Nat.reduceMul, Nat.reduceSub, Int.reduceEq, Int.reduceLT, Int.reduceLE, Int.reduceToNat]
            refine vcCall.x (hI3 _ _ (by first | exact hk | exact gc_same _ _ _) (by omega) (hc.of (by simp only [gc_cons, if_neg hkc]))) ?_
            rw [hR]
            simp only [u4, d1, d2, d3, go_sem, ↓reduceIte, Nat.reduceEqDiff, Nat.reduceBEq, Nat.reduceAdd, Nat.reduceLeDiff, Nat.reduceLT, reduceCtorEq, Nat.reduceMul, Nat.reduceSub, Int.reduceEq, Int.reduceLT, Int.reduceLE, Int.reduceToNat]
            first
              | done
              | exact up_dup
              | exact up_dup2
              | exact up_dup3
              | exact Up.refl _ _
          · have d3 : (decide ((((a + b) / 2 : Nat) : Int) < (en : Int)) && decide ((en : Int) < (b : Int))) = false := by
              cases e : (decide ((((a + b) / 2 : Nat) : Int) < (en : Int)) && decide ((en : Int) < (b : Int))) with
              | false => rfl
              | true => simp only [Bool.and_eq_true, decide_eq_true_eq] at e; exact absurd (by omega) c3
            rw [if_neg c3] at hR
            rw [← hR]
            simp only [u4, d1, d2, d3, go_sem, ↓reduceIte, Nat.reduceEqDiff, Nat.reduceBEq, Nat.reduceAdd, Nat.reduceLeDiff, Nat.reduceLT, reduceCtorEq, Nat.reduceMul, Nat.reduceSub, Int.reduceEq, Int.reduceLT, Int.reduceLE, Int.reduceToNat]
            first
              | done
              | exact up_dup
              | exact up_dup2
              | exact up_dup3
              | exact Up.refl _ _
        · have d2 : (decide ((a : Int) < (st : Int)) && decide ((st : Int) < (((a + b) / 2 : Nat) : Int))) = false := by
            cases e : (decide ((a : Int) < (st : Int)) && decide ((st : Int) < (((a + b) / 2 : Nat) : Int))) with
            | false => rfl
            | true => simp only [Bool.and_eq_true, decide_eq_true_eq] at e; exact absurd (by omega) c2
          rw [if_neg c2] at hR
          have hN2 := hN1
          have l3 : (d).length = d.length := l1
          by_cases c3 : (a + b) / 2 < en ∧ en < b
          · have d3 : (decide ((((a + b) / 2 : Nat) : Int) < (en : Int)) && decide ((en : Int) < (b : Int))) = true := by simp only [Bool.and_eq_true, decide_eq_true_eq]; omega
            rw [if_pos c3] at hR
            have hI3 := ih ((a + b) / 2) en b (d) c3.1 c3.2 (by omega) (by omega) (by omega) hN2
            rw [l3] at hI3
            simp only [u4, d1, d2, d3, go_sem, ↓reduceIte, Nat.reduceEqDiff, Nat.reduceBEq, Nat.reduceAdd, Nat.reduceLeDiff, Nat.reduceLT, reduceCtorEq, Nat.reduceMul, Nat.reduceSub, Int.reduceEq, Int.reduceLT, Int.reduceLE, Int.reduceToNat]
            refine vcCall.x (hI3 _ _ (by first | exact hk | exact gc_same _ _ _) (by omega) (hc.of (by simp only [gc_cons, if_neg hkc]))) ?_
            rw [hR]
            simp only [u4, d1, d2, d3, go_sem, ↓reduceIte, Nat.reduceEqDiff, Nat.reduceBEq, Nat.reduceAdd, Nat.reduceLeDiff, Nat.reduceLT, reduceCtorEq, Nat.reduceMul, Nat.reduceSub, Int.reduceEq, Int.reduceLT, Int.reduceLE, Int.reduceToNat]
            first
              | done
              | exact up_dup
              | exact up_dup2
              | exact up_dup3
              | exact Up.refl _ _
          · have d3 : (decide ((((a + b) / 2 : Nat) : Int) < (en : Int)) && decide ((en : Int) < (b : Int))) = false := by
              cases e : (decide ((((a + b) / 2 : Nat) : Int) < (en : Int)) && decide ((en : Int) < (b : Int))) with
              | false => rfl
              | true => simp only [Bool.and_eq_true, decide_eq_true_eq] at e; exact absurd (by omega) c3
            rw [if_neg c3] at hR
            rw [← hR]
            simp only [u4, d1, d2, d3, go_sem, ↓reduceIte, Nat.reduceEqDiff, Nat.reduceBEq, Nat.reduceAdd, Nat.reduceLeDiff, Nat.reduceLT, reduceCtorEq, Nat.reduceMul, Nat.reduceSub, Int.reduceEq, Int.reduceLT, Int.reduceLE, Int.reduceToNat]
            first
              | done
              | exact up_dup
              | exact up_dup2
              | exact up_dup3
              | exact Up.refl _ _
    · rw [if_neg cmid, if_neg cmid] at hst
      have cd : ((((a + b) / 2 : Nat) : Int) < (mm : Int)) = False := eq_false (by omega)
      refine meetsUpd Try.func76 (by kernel_rfl) cc76 cr76 rfl trivial (fun hf => rw_lt hf (by assumption)) fun hf => ?_; unfold ck76
      have hkm := hkm hf
      simp only [u1, u1d, u2, u2d, u3, u5, u6, cd, go_sem, ↓reduceIte, Nat.reduceEqDiff, Nat.reduceBEq, Nat.reduceAdd, Nat.reduceLeDiff, Nat.reduceLT, reduceCtorEq, Nat.reduceMul, Nat.reduceSub, Int.reduceEq, Int.reduceLT, Int.reduceLE, Int.reduceToNat]
      refine loop (fun p : (Nat × Nat) × Nat => ⟨[(0, .rw k g d.length), (1, .i .i64 a), (2, .i .i64 mm), (3, .i .i64 b), (4, .fn f [.bx c 0]), (18, .i .i64 ((a + b) / 2 : Nat)), (19, .i .i64 ((a + b) / 2 + mm : Nat)), (20, .i .i64 p.1.1), (21, .i .i64 p.1.2), (22, .i .i64 ((a + b) / 2 + mm - 1 : Nat))], (k, .rw g 1 (mapC nuC d)) :: hp, p.2⟩)
        (fun p => a ≤ p.1.1 ∧ p.1.1 ≤ p.1.2 ∧ p.1.2 ≤ mm ∧ m ≤ p.2 ∧ bs1 (fun c => !lt (rd d ((a + b) / 2 + mm - 1 - c)) (rd d c)) p.1.1 p.1.2 = st) (fun p => p.1.2 - p.1.1) ((a, mm), m) ?_ ?_ (fun ⟨⟨i, j⟩, q⟩ hj => ?_)
      · exact ⟨Nat.le_refl _, by dsimp only; omega, Nat.le_refl _, Nat.le_refl _, hst⟩
      · refine weak_ok ?_ (Sub.cons hk (Sub.refl _)) (Nat.le_refl _)
        simp only [go_sem, ↓reduceIte, Nat.reduceEqDiff, Nat.reduceBEq, Nat.reduceAdd, Nat.reduceLeDiff, Nat.reduceLT, reduceCtorEq, Nat.reduceMul, Nat.reduceSub, Int.reduceEq, Int.reduceLT, Int.reduceLE, Int.reduceToNat]
      dsimp only at hj
      obtain ⟨i1, i2, i3, i4, i5⟩ := hj
      rw [bs1] at i5
      by_cases hij : i < j
      · have hijd : ((i : Int) < (j : Int)) = True := eq_true (by omega)
        rw [if_pos hij] at i5
        have hh := half_eq i j (by omega)
        obtain ⟨H, hH⟩ : ∃ H, (i + j) / 2 = H := ⟨_, rfl⟩
        rw [hH] at hh i5
        have hH1 : i ≤ H ∧ H < j := by omega
        have qH : H < d.length := by omega
        have qP : (a + b) / 2 + mm - 1 - H < d.length := by omega
        have w1 : IntKind.i64.wrap (((((a + b) / 2 + mm - 1 : Nat)) : Int) - (H : Int)) = (((a + b) / 2 + mm - 1 - H : Nat) : Int) := by rw [wr64 (by omega)]; omega
        have g1 := get_rdC qH
        have g2 := get_rdC qP
        have hcc := hc (rd d ((a + b) / 2 + mm - 1 - H)) (rd d H) (allLt_rd hN qP) (allLt_rd hN qH)
        have e1 := hcm (rd d ((a + b) / 2 + mm - 1 - H)) (rd d H)
        have tk : d.take d.length = d := List.take_length
        simp only [hijd, hh, tk, w1, qH, qP, getK_s g1, getK_s g2, g1, g2, go_sem, ↓reduceIte, Nat.reduceEqDiff, Nat.reduceBEq, Nat.reduceAdd, Nat.reduceLeDiff, Nat.reduceLT, reduceCtorEq, Nat.reduceMul, Nat.reduceSub, Int.reduceEq, Int.reduceLT, Int.reduceLE, Int.reduceToNat]
        refine dCall.f (fun _ hp' hh' => hcc hp' _ (by rw [hh' c (.inl (by omega)), gc_ne _ _ hkc])) ?_
        simp only [go_sem, ↓reduceIte, Nat.reduceEqDiff, Nat.reduceBEq, Nat.reduceAdd, Nat.reduceLeDiff, Nat.reduceLT, reduceCtorEq, Nat.reduceMul, Nat.reduceSub, Int.reduceEq, Int.reduceLT, Int.reduceLE, Int.reduceToNat]
        refine cdK_of (fun t => ?_) (fun t => ?_)
        · have t : (!lt (rd d ((a + b) / 2 + mm - 1 - H)) (rd d H)) = true := by rw [e1]; exact t
          rw [if_pos t] at i5
          simp only [wr64s H (by omega), go_sem, ↓reduceIte, Nat.reduceEqDiff, Nat.reduceBEq, Nat.reduceAdd, Nat.reduceLeDiff, Nat.reduceLT, reduceCtorEq, Nat.reduceMul, Nat.reduceSub, Int.reduceEq, Int.reduceLT, Int.reduceLE, Int.reduceToNat]
          refine ⟨((H + 1, j), _), ⟨by dsimp only; omega, by dsimp only; omega, i3, by dsimp only; omega, i5⟩, by dsimp only; omega, weak_ok ?_ (Sub.refl _) (Nat.le_refl _)⟩
          simp only [go_sem, ↓reduceIte, Nat.reduceEqDiff, Nat.reduceBEq, Nat.reduceAdd, Nat.reduceLeDiff, Nat.reduceLT, reduceCtorEq, Nat.reduceMul, Nat.reduceSub, Int.reduceEq, Int.reduceLT, Int.reduceLE, Int.reduceToNat]
        · have t : ¬ (!lt (rd d ((a + b) / 2 + mm - 1 - H)) (rd d H)) = true := by rw [e1, t]; simp
          rw [if_neg t] at i5
          simp only [go_sem, ↓reduceIte, Nat.reduceEqDiff, Nat.reduceBEq, Nat.reduceAdd, Nat.reduceLeDiff, Nat.reduceLT, reduceCtorEq, Nat.reduceMul, Nat.reduceSub, Int.reduceEq, Int.reduceLT, Int.reduceLE, Int.reduceToNat]
          refine ⟨((i, H), _), ⟨i1, by dsimp only; omega, by dsimp only; omega, by dsimp only; omega, i5⟩, by dsimp only; omega, weak_ok ?_ (Sub.refl _) (Nat.le_refl _)⟩
          simp only [go_sem, ↓reduceIte, Nat.reduceEqDiff, Nat.reduceBEq, Nat.reduceAdd, Nat.reduceLeDiff, Nat.reduceLT, reduceCtorEq, Nat.reduceMul, Nat.reduceSub, Int.reduceEq, Int.reduceLT, Int.reduceLE, Int.reduceToNat]
      have hijd : ((i : Int) < (j : Int)) = False := eq_false (by omega)
      rw [if_neg hij] at i5
      have i6 := i5.symm
      subst i6
      have u4 : IntKind.i64.wrap ((((a + b) / 2 + mm : Nat) : Int) - (st : Int)) = (((a + b) / 2 + mm - st : Nat) : Int) := by rw [wr64 (by omega)]; omega
      obtain ⟨en, hen⟩ : ∃ en, (a + b) / 2 + mm - st = en := ⟨_, rfl⟩
      rw [hen] at u4 hR hN1 b4
      simp only [hijd, u4, go_sem, ↓reduceIte, Nat.reduceEqDiff, Nat.reduceBEq, Nat.reduceAdd, Nat.reduceLeDiff, Nat.reduceLT, reduceCtorEq, Nat.reduceMul, Nat.reduceSub, Int.reduceEq, Int.reduceLT, Int.reduceLE, Int.reduceToNat]
      have qd : d.length ≤ 1000000000000 := hm
      by_cases c1 : st < mm ∧ mm < en
      · have d1 : (decide ((st : Int) < (mm : Int)) && decide ((mm : Int) < (en : Int))) = true := by simp; omega
        have hL1 : turnS st mm en d = pm d (rt st mm en) := by unfold turnS; rw [if_pos c1]
        rw [hL1] at hR hN1
        simp only [u4, d1, go_sem, ↓reduceIte, Nat.reduceEqDiff, Nat.reduceBEq, Nat.reduceAdd, Nat.reduceLeDiff, Nat.reduceLT, reduceCtorEq, Nat.reduceMul, Nat.reduceSub, Int.reduceEq, Int.reduceLT, Int.reduceLE, Int.reduceToNat]
        refine vcCall.x (rot_ok d st mm en c1.1 c1.2 (by omega) hm k g f c _ _ (by first | exact hk | exact gc_same _ _ _)) ?_
        have l1 : (pm d (rt st mm en)).length = d.length := pm_len _ _
        by_cases c2 : a < st ∧ st < (a + b) / 2
        · have d2 : (decide ((a : Int) < (st : Int)) && decide ((st : Int) < (((a + b) / 2 : Nat) : Int))) = true := by simp only [Bool.and_eq_true, decide_eq_true_eq]; omega
          rw [if_pos c2] at hR
          have hI := ih a st ((a + b) / 2) (pm d (rt st mm en)) c2.1 c2.2 (by omega) (by omega) (by omega) hN1
          have hN2 := symF_lt lt N fu a st ((a + b) / 2) (pm d (rt st mm en)) hN1 c2.1 c2.2 (by omega)
          have l2 := symF_len lt fu a st ((a + b) / 2) (pm d (rt st mm en))
          rw [l1] at l2 hI
          simp only [u4, d1, d2, go_sem, ↓reduceIte, Nat.reduceEqDiff, Nat.reduceBEq, Nat.reduceAdd, Nat.reduceLeDiff, Nat.reduceLT, reduceCtorEq, Nat.reduceMul, Nat.reduceSub, Int.reduceEq, Int.reduceLT, Int.reduceLE, Int.reduceToNat]
          refine vcCall.x (hI _ _ (by first | exact hk | exact gc_same _ _ _) (by omega) (hc.of (by simp only [gc_cons, if_neg hkc]))) ?_
          generalize symF lt fu a st ((a + b) / 2) (pm d (rt st mm en)) = L2 at hR hN2 l2 ⊢
          have l3 : (L2).length = d.length := l2
          by_cases c3 : (a + b) / 2 < en ∧ en < b
          · have d3 : (decide ((((a + b) / 2 : Nat) : Int) < (en : Int)) && decide ((en : Int) < (b : Int))) = true := by simp only [Bool.and_eq_true, decide_eq_true_eq]; omega
            rw [if_pos c3] at hR
            have hI3 := ih ((a + b) / 2) en b (L2) c3.1 c3.2 (by omega) (by omega) (by omega) hN2
            rw [l3] at hI3
            simp only [u4, d1, d2, d3, go_sem, ↓reduceIte, Nat.reduceEqDiff, Nat.reduceBEq, Nat.reduceAdd, Nat.reduceLeDiff, Nat.reduceLT, reduceCtorEq, Nat.reduceMul, Nat.reduceSub, Int.reduceEq, Int.reduceLT, Int.reduceLE, Int.reduceToNat]
            refine vcCall.x (hI3 _ _ (by first | exact hk | exact gc_same _ _ _) (by omega) (hc.of (by simp only [gc_cons, if_neg hkc]))) ?_
            rw [hR]
            simp only [u4, d1, d2, d3, go_sem, ↓reduceIte, Nat.reduceEqDiff, Nat.reduceBEq, Nat.reduceAdd, Nat.reduceLeDiff, Nat.reduceLT, reduceCtorEq, Nat.reduceMul, Nat.reduceSub, Int.reduceEq, Int.reduceLT, Int.reduceLE, Int.reduceToNat]
            first
              | done
              | exact up_dup
              | exact up_dup2
              | exact up_dup3
              | exact Up.refl _ _
          · have d3 : (decide ((((a + b) / 2 : Nat) : Int) < (en : Int)) && decide ((en : Int) < (b : Int))) = false := by
              cases e : (decide ((((a + b) / 2 : Nat) : Int) < (en : Int)) && decide ((en : Int) < (b : Int))) with
              | false => rfl
              | true => simp only [Bool.and_eq_true, decide_eq_true_eq] at e; exact absurd (by omega) c3
            rw [if_neg c3] at hR
            rw [← hR]
            simp only [u4, d1, d2, d3, go_sem, ↓reduceIte, Nat.reduceEqDiff, Nat.reduceBEq, Nat.reduceAdd, Nat.reduceLeDiff, Nat.reduceLT, reduceCtorEq, Nat.reduceMul, Nat.reduceSub, Int.reduceEq, Int.reduceLT, Int.reduceLE, Int.reduceToNat]
            first
              | done
              | exact up_dup
              | exact up_dup2
              | exact up_dup3
              | exact Up.refl _ _
        · have d2 : (decide ((a : Int) < (st : Int)) && decide ((st : Int) < (((a + b) / 2 : Nat) : Int))) = false := by
            cases e : (decide ((a : Int) < (st : Int)) && decide ((st : Int) < (((a + b) / 2 : Nat) : Int))) with
            | false => rfl
            | true => simp only [Bool.and_eq_true, decide_eq_true_eq] at e; exact absurd (by omega) c2
          rw [if_neg c2] at hR
          have hN2 := hN1
          have l3 : (pm d (rt st mm en)).length = d.length := l1
          by_cases c3 : (a + b) / 2 < en ∧ en < b
          · have d3 : (decide ((((a + b) / 2 : Nat) : Int) < (en : Int)) && decide ((en : Int) < (b : Int))) = true := by simp only [Bool.and_eq_true, decide_eq_true_eq]; omega
            rw [if_pos c3] at hR
            have hI3 := ih ((a + b) / 2) en b (pm d (rt st mm en)) c3.1 c3.2 (by omega) (by omega) (by omega) hN2
            rw [l3] at hI3
            simp only [u4, d1, d2, d3, go_sem, ↓reduceIte, Nat.reduceEqDiff, Nat.reduceBEq, Nat.reduceAdd, Nat.reduceLeDiff, Nat.reduceLT, reduceCtorEq, Nat.reduceMul, Nat.reduceSub, Int.reduceEq, Int.reduceLT, Int.reduceLE, Int.reduceToNat]
            refine vcCall.x (hI3 _ _ (by first | exact hk | exact gc_same _ _ _) (by omega) (hc.of (by simp only [gc_cons, if_neg hkc]))) ?_
            rw [hR]
            simp only [u4, d1, d2, d3, go_sem, ↓reduceIte, Nat.reduceEqDiff, Nat.reduceBEq, Nat.reduceAdd, Nat.reduceLeDiff, Nat.reduceLT, reduceCtorEq, Nat.reduceMul, Nat.reduceSub, Int.reduceEq, Int.reduceLT, Int.reduceLE, Int.reduceToNat]
            first
              | done
              | exact up_dup
              | exact up_dup2
              | exact up_dup3
              | exact Up.refl _ _
          · have d3 : (decide ((((a + b) / 2 : Nat) : Int) < (en : Int)) && decide ((en : Int) < (b : Int))) = false := by
              cases e : (decide ((((a + b) / 2 : Nat) : Int) < (en : Int)) && decide ((en : Int) < (b : Int))) with
              | false => rfl
              | true => simp only [Bool.and_eq_true, decide_eq_true_eq] at e; exact absurd (by omega) c3
            rw [if_neg c3] at hR
            rw [← hR]
            simp only [u4, d1, d2, d3, go_sem, ↓reduceIte, Nat.reduceEqDiff, Nat.reduceBEq, Nat.reduceAdd, Nat.reduceLeDiff, Nat.reduceLT, reduceCtorEq, Nat.reduceMul, Nat.reduceSub, Int.reduceEq, Int.reduceLT, Int.reduceLE, Int.reduceToNat]
            first
              | done
              | exact up_dup
              | exact up_dup2
              | exact up_dup3
              | exact Up.refl _ _
      · have d1 : (decide ((st : Int) < (mm : Int)) && decide ((mm : Int) < (en : Int))) = false := by
          cases e : (decide ((st : Int) < (mm : Int)) && decide ((mm : Int) < (en : Int))) with
          | false => rfl
          | true => simp at e; exact absurd (by omega) c1
        have hL1 : turnS st mm en d = d := by unfold turnS; rw [if_neg c1]
        rw [hL1] at hR hN1
        have l1 : (d).length = d.length := rfl
        by_cases c2 : a < st ∧ st < (a + b) / 2
        · have d2 : (decide ((a : Int) < (st : Int)) && decide ((st : Int) < (((a + b) / 2 : Nat) : Int))) = true := by simp only [Bool.and_eq_true, decide_eq_true_eq]; omega
          rw [if_pos c2] at hR
          have hI := ih a st ((a + b) / 2) (d) c2.1 c2.2 (by omega) (by omega) (by omega) hN1
          have hN2 := symF_lt lt N fu a st ((a + b) / 2) (d) hN1 c2.1 c2.2 (by omega)
          have l2 := symF_len lt fu a st ((a + b) / 2) (d)
          rw [l1] at l2 hI
          simp only [u4, d1, d2, go_sem, ↓reduceIte, Nat.reduceEqDiff, Nat.reduceBEq, Nat.reduceAdd, Nat.reduceLeDiff, Nat.reduceLT, reduceCtorEq, Nat.reduceMul, Nat.reduceSub, Int.reduceEq, Int.reduceLT, Int.reduceLE, Int.reduceToNat]
          refine vcCall.x (hI _ _ (by first | exact hk | exact gc_same _ _ _) (by omega) (hc.of (by simp only [gc_cons, if_neg hkc]))) ?_
          generalize symF lt fu a st ((a + b) / 2) (d) = L2 at hR hN2 l2 ⊢
          have l3 : (L2).length = d.length := l2
          by_cases c3 : (a + b) / 2 < en ∧ en < b
          · have d3 : (decide ((((a + b) / 2 : Nat) : Int) < (en : Int)) && decide ((en : Int) < (b : Int))) = true := by simp only [Bool.and_eq_true, decide_eq_true_eq]; omega
            rw [if_pos c3] at hR
            have hI3 := ih ((a + b) / 2) en b (L2) c3.1 c3.2 (by omega) (by omega) (by omega) hN2
            rw [l3] at hI3
            simp only [u4, d1, d2, d3, go_sem, ↓reduceIte, Nat.reduceEqDiff, Nat.reduceBEq, Nat.reduceAdd, Nat.reduceLeDiff, Nat.reduceLT, reduceCtorEq, Nat.reduceMul, Nat.reduceSub, Int.reduceEq, Int.reduceLT, Int.reduceLE, Int.reduceToNat]
            refine vcCall.x (hI3 _ _ (by first | exact hk | exact gc_same _ _ _) (by omega) (hc.of (by simp only [gc_cons, if_neg hkc]))) ?_
            rw [hR]
            simp only [u4, d1, d2, d3, go_sem, ↓reduceIte, Nat.reduceEqDiff, Nat.reduceBEq, Nat.reduceAdd, Nat.reduceLeDiff, Nat.reduceLT, reduceCtorEq, Nat.reduceMul, Nat.reduceSub, Int.reduceEq, Int.reduceLT, Int.reduceLE, Int.reduceToNat]
            first
              | done
              | exact up_dup
              | exact up_dup2
              | exact up_dup3
              | exact Up.refl _ _
          · have d3 : (decide ((((a + b) / 2 : Nat) : Int) < (en : Int)) && decide ((en : Int) < (b : Int))) = false := by
              cases e : (decide ((((a + b) / 2 : Nat) : Int) < (en : Int)) && decide ((en : Int) < (b : Int))) with
              | false => rfl
              | true => simp only [Bool.and_eq_true, decide_eq_true_eq] at e; exact absurd (by omega) c3
            rw [if_neg c3] at hR
            rw [← hR]
            simp only [u4, d1, d2, d3, go_sem, ↓reduceIte, Nat.reduceEqDiff, Nat.reduceBEq, Nat.reduceAdd, Nat.reduceLeDiff, Nat.reduceLT, reduceCtorEq, Nat.reduceMul, Nat.reduceSub, Int.reduceEq, Int.reduceLT, Int.reduceLE, Int.reduceToNat]
            first
              | done
              | exact up_dup
              | exact up_dup2
              | exact up_dup3
              | exact Up.refl _ _
        · have d2 : (decide ((a : Int) < (st : Int)) && decide ((st : Int) < (((a + b) / 2 : Nat) : Int))) = false := by
            cases e : (decide ((a : Int) < (st : Int)) && decide ((st : Int) < (((a + b) / 2 : Nat) : Int))) with
            | false => rfl
            | true => simp only [Bool.and_eq_true, decide_eq_true_eq] at e; exact absurd (by omega) c2
          rw [if_neg c2] at hR
          have hN2 := hN1
          have l3 : (d).length = d.length := l1
          by_cases c3 : (a + b) / 2 < en ∧ en < b
          · have d3 : (decide ((((a + b) / 2 : Nat) : Int) < (en : Int)) && decide ((en : Int) < (b : Int))) = true := by simp only [Bool.and_eq_true, decide_eq_true_eq]; omega
            rw [if_pos c3] at hR
            have hI3 := ih ((a + b) / 2) en b (d) c3.1 c3.2 (by omega) (by omega) (by omega) hN2
            rw [l3] at hI3
            simp only [u4, d1, d2, d3, go_sem, ↓reduceIte, Nat.reduceEqDiff, Nat.reduceBEq, Nat.reduceAdd, Nat.reduceLeDiff, Nat.reduceLT, reduceCtorEq, Nat.reduceMul, Nat.reduceSub, Int.reduceEq, Int.reduceLT, Int.reduceLE, Int.reduceToNat]
            refine vcCall.x (hI3 _ _ (by first | exact hk | exact gc_same _ _ _) (by omega) (hc.of (by simp only [gc_cons, if_neg hkc]))) ?_
            rw [hR]
            simp only [u4, d1, d2, d3, go_sem, ↓reduceIte, Nat.reduceEqDiff, Nat.reduceBEq, Nat.reduceAdd, Nat.reduceLeDiff, Nat.reduceLT, reduceCtorEq, Nat.reduceMul, Nat.reduceSub, Int.reduceEq, Int.reduceLT, Int.reduceLE, Int.reduceToNat]
            first
              | done
              | exact up_dup
              | exact up_dup2
              | exact up_dup3
              | exact Up.refl _ _
          · have d3 : (decide ((((a + b) / 2 : Nat) : Int) < (en : Int)) && decide ((en : Int) < (b : Int))) = false := by
              cases e : (decide ((((a + b) / 2 : Nat) : Int) < (en : Int)) && decide ((en : Int) < (b : Int))) with
              | false => rfl
              | true => simp only [Bool.and_eq_true, decide_eq_true_eq] at e; exact absurd (by omega) c3
            rw [if_neg c3] at hR
            rw [← hR]
            simp only [u4, d1, d2, d3, go_sem, ↓reduceIte, Nat.reduceEqDiff, Nat.reduceBEq, Nat.reduceAdd, Nat.reduceLeDiff, Nat.reduceLT, reduceCtorEq, Nat.reduceMul, Nat.reduceSub, Int.reduceEq, Int.reduceLT, Int.reduceLE, Int.reduceToNat]
            first
              | done
              | exact up_dup
              | exact up_dup2
              | exact up_dup3
              | exact Up.refl _ _
end Go.Proofs.Ytaeablbcfkamjaa
