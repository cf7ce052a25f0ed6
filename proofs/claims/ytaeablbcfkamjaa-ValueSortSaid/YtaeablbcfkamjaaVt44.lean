/-
  The parts VsE of the proof, in one file. Conditions: none.
-/
import Derived.Test.YtaeablbcfkamjaaVt43
namespace Go.Proofs.Ytaeablbcfkamjaa
open Go.Eng Vs
set_option linter.unusedVariables false
set_option linter.unusedSimpArgs false
set_option maxRecDepth 20000
set_option maxHeartbeats 1000000
theorem sub_same {k : Nat} {X Y : Chunk} {hp : CH} (h : X = Y) : Sub ((k, X) :: hp) ((k, Y) :: hp) := by
  subst h
  exact Sub.refl _
theorem half_eq (i j : Nat) (h : i + j ≤ 4000000000000) : IntKind.i64.wrap (shrI .u64 (IntKind.u64.wrap (IntKind.i64.wrap ((i : Int) + (j : Int)))) 1) = (((i + j) / 2 : Nat) : Int) := by
  have e0 : IntKind.i64.wrap ((i : Int) + (j : Int)) = (i : Int) + (j : Int) := wr64 (by omega)
  rw [e0]
  have e : IntKind.u64.wrap ((i : Int) + (j : Int)) = ((i + j : Nat) : Int) := by simp [IntKind.wrap, IntKind.bits, IntKind.signed]; omega
  rw [e]
  have e2 : shrI .u64 ((i + j : Nat) : Int) 1 = (((i + j) / 2 : Nat) : Int) := by
    unfold shrI
    rw [show min ((1 : Int)).toNat IntKind.u64.bits = 1 by decide, Int.fdiv_eq_ediv_of_nonneg _ (by decide)]
    omega
  rw [e2, wr64 (by omega)]
theorem allLt_rd {N : Nat} {L : List Nat} (h : allLt N L) {i : Nat} (hi : i < L.length) : rd L i < N := allLt_getD h hi
theorem allLt_pm {N : Nat} {L : List Nat} (h : allLt N L) {σ : Nat → Nat} (hs : ∀ k, k < L.length → σ k < L.length) : allLt N (pm L σ) := fun x hx => by
  obtain ⟨k, hk, rfl⟩ := List.mem_map.1 hx
  exact allLt_rd h (hs k (by simpa using hk))
theorem allLt_mvR {N : Nat} {L : List Nat} (h : allLt N L) {a t : Nat} (ha : a ≤ t) (ht : t < L.length) : allLt N (pm L (mvR a t)) := allLt_pm h fun k hk => by
  unfold mvR
  repeat' split
  all_goals omega
theorem allLt_mvL {N : Nat} {L : List Nat} (h : allLt N L) {m t : Nat} (hm : m < L.length) : allLt N (pm L (mvL m t)) := allLt_pm h fun k hk => by
  unfold mvL
  repeat' split
  all_goals omega
theorem allLt_turn {N : Nat} {L : List Nat} (h : allLt N L) {s m e : Nat} (he : e ≤ L.length) : allLt N (turnS s m e L) := by
  unfold turnS
  split
  · refine allLt_pm h fun k hk => ?_
    unfold rt
    repeat' split
    all_goals omega
  · exact h
section
variable (lt : Nat → Nat → Bool) (cm : Nat → Nat → Int) (hcm : ∀ x y, lt x y = decide (cm x y < 0)) (N : Nat) (k g f c : Nat)
/-- What the comparison answers. -/
def CmpK (cm : Nat → Nat → Int) (N f c : Nat) (hp : CH) : Prop := ∀ x y, x < N → y < N → ∀ hp' n, gc hp' c = gc hp c → MeetsF Try.prog f hp' n [.i .i64 x, .i .i64 y, .bx c 0] (.i .i64 (cm x y))
theorem CmpK.of {cm : Nat → Nat → Int} {N f c : Nat} {hp hp' : CH} (h : CmpK cm N f c hp) (e : gc hp' c = gc hp c) : CmpK cm N f c hp' := fun x y hx hy hp2 n e2 => h x y hx hy hp2 n (e2.trans e)
/-- One element ahead of a part. -/
theorem symL_ok (d : List Nat) (hN : allLt N d) (a b : Nat) (h1 : a + 1 < b) (hb : b ≤ d.length) (hm : d.length ≤ 1000000000000) (fu : Nat) (hp : CH) (m : Nat) (hk : gc hp k = .rw g 1 (mapC nuC d)) (hkc : k ≠ c) (hc0 : c < m) (hc : CmpK cm N f c hp) (hcm : ∀ x y, lt x y = decide (cm x y < 0)) :
    MeetsX Try.prog 76 hp m [.rw k g d.length, .i .i64 a, .i .i64 (a + 1 : Nat), .i .i64 b, .fn f [.bx c 0]] ((k, .rw g 1 (mapC nuC (pm d (mvR a (bs1 (fun h => lt (rd d h) (rd d a)) (a + 1) b - 1))))) :: hp) m (.tp []) := by
  obtain ⟨R, hR⟩ : ∃ R, bs1 (fun h => lt (rd d h) (rd d a)) (a + 1) b = R := ⟨_, rfl⟩
  rw [hR]
  have u1 : IntKind.i64.wrap (((a + 1 : Nat) : Int) - (a : Int)) = 1 := by rw [wr64 (by omega)]; omega
  have tk : d.take d.length = d := List.take_length
  have hRs := bs1_spec (fun h => lt (rd d h) (rd d a)) _ (a + 1) b (a + 1) b (Nat.le_refl _) (by omega) (Nat.le_refl _) (Nat.le_refl _) (.inl rfl) (.inl rfl)
  rw [hR] at hRs
  refine meetsUpd Try.func76 (by kernel_rfl) cc76 cr76 rfl trivial (fun hf => rw_lt hf (by assumption)) fun hf => ?_; unfold ck76
  have hkm := rw_lt hf hk
  simp only [u1, go_sem, ↓reduceIte, Nat.reduceEqDiff, Nat.reduceBEq, Nat.reduceAdd, Nat.reduceLeDiff, Nat.reduceLT, reduceCtorEq, Nat.reduceMul, Nat.reduceSub, Int.reduceEq, Int.reduceLT, Int.reduceLE, Int.reduceToNat]
  refine loop (fun p : (Nat × Nat) × Nat => ⟨[(0, .rw k g d.length), (1, .i .i64 a), (4, .fn f [.bx c 0]), (10, .i .i64 p.1.1), (11, .i .i64 p.1.2)], (k, .rw g 1 (mapC nuC d)) :: hp, p.2⟩)
    (fun p => a < p.1.1 ∧ p.1.1 ≤ p.1.2 ∧ p.1.2 ≤ b ∧ m ≤ p.2 ∧ bs1 (fun h => lt (rd d h) (rd d a)) p.1.1 p.1.2 = R) (fun p => p.1.2 - p.1.1) ((a + 1, b), m) ?_ ?_ (fun ⟨⟨i, j⟩, q⟩ hj => ?_)
  · exact ⟨by dsimp only; omega, by dsimp only; omega, Nat.le_refl _, Nat.le_refl _, hR⟩
  · refine weak_ok ?_ (Sub.cons hk (Sub.refl _)) (Nat.le_refl _)
    simp only [go_sem, ↓reduceIte, Nat.reduceEqDiff, Nat.reduceBEq, Nat.reduceAdd, Nat.reduceLeDiff, Nat.reduceLT, reduceCtorEq, Nat.reduceMul, Nat.reduceSub, Int.reduceEq, Int.reduceLT, Int.reduceLE, Int.reduceToNat]
  dsimp only at hj
  obtain ⟨i1, i2, i3, i4, i5⟩ := hj
  rw [bs1] at i5
  by_cases hij : i < j
  · have hijd : ((i : Int) < (j : Int)) = True := eq_true (by omega)
    rw [if_pos hij] at i5
    have hh := half_eq i j (by omega)
    obtain ⟨H, hH⟩ : ∃ H, (i + j) / 2 = H := ⟨_, rfl⟩
    rw [hH] at hh i5
    have hH1 : i ≤ H ∧ H < j := by omega
    have qH : H < d.length := by omega
    have qa : a < d.length := by omega
    have g1 := get_rdC qH
    have g2 := get_rdC qa
    have hcc := hc (rd d H) (rd d a) (allLt_rd hN qH) (allLt_rd hN qa)
    simp only [hijd, hh, tk, qH, qa, getK_s g1, getK_s g2, g1, g2, go_sem, ↓reduceIte, Nat.reduceEqDiff, Nat.reduceBEq, Nat.reduceAdd, Nat.reduceLeDiff, Nat.reduceLT, reduceCtorEq, Nat.reduceMul, Nat.reduceSub, Int.reduceEq, Int.reduceLT, Int.reduceLE, Int.reduceToNat]
    refine dCall.f (fun _ hp' hh' => hcc hp' _ (by rw [hh' c (.inl (by omega)), gc_ne _ _ hkc])) ?_
    simp only [go_sem, ↓reduceIte, Nat.reduceEqDiff, Nat.reduceBEq, Nat.reduceAdd, Nat.reduceLeDiff, Nat.reduceLT, reduceCtorEq, Nat.reduceMul, Nat.reduceSub, Int.reduceEq, Int.reduceLT, Int.reduceLE, Int.reduceToNat]
    have e1 := hcm (rd d H) (rd d a)
    refine cdK_of (fun t => ?_) (fun t => ?_)
    · have t : lt (rd d H) (rd d a) = true := by rw [e1]; exact t
      rw [if_pos t] at i5
      simp only [wr64s H (by omega), go_sem, ↓reduceIte, Nat.reduceEqDiff, Nat.reduceBEq, Nat.reduceAdd, Nat.reduceLeDiff, Nat.reduceLT, reduceCtorEq, Nat.reduceMul, Nat.reduceSub, Int.reduceEq, Int.reduceLT, Int.reduceLE, Int.reduceToNat]
      refine ⟨((H + 1, j), _), ⟨by dsimp only; omega, by dsimp only; omega, i3, by dsimp only; omega, i5⟩, by dsimp only; omega, weak_ok ?_ (Sub.refl _) (Nat.le_refl _)⟩
      simp only [go_sem, ↓reduceIte, Nat.reduceEqDiff, Nat.reduceBEq, Nat.reduceAdd, Nat.reduceLeDiff, Nat.reduceLT, reduceCtorEq, Nat.reduceMul, Nat.reduceSub, Int.reduceEq, Int.reduceLT, Int.reduceLE, Int.reduceToNat]
    · have t : ¬ lt (rd d H) (rd d a) = true := by rw [e1]; simpa using t
      rw [if_neg t] at i5
      simp only [go_sem, ↓reduceIte, Nat.reduceEqDiff, Nat.reduceBEq, Nat.reduceAdd, Nat.reduceLeDiff, Nat.reduceLT, reduceCtorEq, Nat.reduceMul, Nat.reduceSub, Int.reduceEq, Int.reduceLT, Int.reduceLE, Int.reduceToNat]
      refine ⟨((i, H), _), ⟨i1, by dsimp only; omega, by dsimp only; omega, by dsimp only; omega, i5⟩, by dsimp only; omega, weak_ok ?_ (Sub.refl _) (Nat.le_refl _)⟩
      simp only [go_sem, ↓reduceIte, Nat.reduceEqDiff, Nat.reduceBEq, Nat.reduceAdd, Nat.reduceLeDiff, Nat.reduceLT, reduceCtorEq, Nat.reduceMul, Nat.reduceSub, Int.reduceEq, Int.reduceLT, Int.reduceLE, Int.reduceToNat]
  · have hijd : ((i : Int) < (j : Int)) = False := eq_false (by omega)
    rw [if_neg hij] at i5
    subst i5
    have u2 : IntKind.i64.wrap ((i : Int) - 1) = ((i - 1 : Nat) : Int) := by rw [wr64 (by omega)]; omega
    have m0 : pm d (mvR a a) = d := pm_id fun k hk => by
      unfold mvR
      repeat' split
      all_goals omega
    simp only [hijd, go_sem, ↓reduceIte, Nat.reduceEqDiff, Nat.reduceBEq, Nat.reduceAdd, Nat.reduceLeDiff, Nat.reduceLT, reduceCtorEq, Nat.reduceMul, Nat.reduceSub, Int.reduceEq, Int.reduceLT, Int.reduceLE, Int.reduceToNat]
    refine loop (fun p : Nat × Nat => ⟨[(0, .rw k g d.length), (10, .i .i64 i), (13, .i .i64 p.1)], (k, .rw g 1 (mapC nuC (pm d (mvR a p.1)))) :: hp, p.2⟩) (fun p => a ≤ p.1 ∧ p.1 ≤ i - 1 ∧ m ≤ p.2) (fun p => i - p.1) (a, q) ?_ ?_ (fun ⟨t, q2⟩ hi => ?_)
    · exact ⟨Nat.le_refl _, by dsimp only; omega, i4⟩
    · refine weak_ok ?_ (sub_same ?_) (Nat.le_refl _)
      all_goals
        simp only [m0, go_sem, ↓reduceIte, Nat.reduceEqDiff, Nat.reduceBEq, Nat.reduceAdd, Nat.reduceLeDiff, Nat.reduceLT, reduceCtorEq, Nat.reduceMul, Nat.reduceSub, Int.reduceEq, Int.reduceLT, Int.reduceLE, Int.reduceToNat]
    dsimp only at hi
    obtain ⟨hi1, hi2, hi3⟩ := hi
    simp only [u2, go_sem, ↓reduceIte, Nat.reduceEqDiff, Nat.reduceBEq, Nat.reduceAdd, Nat.reduceLeDiff, Nat.reduceLT, reduceCtorEq, Nat.reduceMul, Nat.reduceSub, Int.reduceEq, Int.reduceLT, Int.reduceLE, Int.reduceToNat]
    refine cdK_of (fun w => ?_) (fun w => ?_)
    · have w : t < i - 1 := by simpa using w
      have hst := mvR_step (d := d) (a := a) (t := t) hi1 (by omega)
      have hl := pm_len d (mvR a t)
      generalize pm d (mvR a t) = K at hst hl
      have ht : K.take d.length = K := List.take_of_length_le (by omega)
      have ht2 : ∀ x, (K.set t x).take d.length = K.set t x := fun x => List.take_of_length_le (by simp; omega)
      have q1 : t < d.length := by omega
      have q3 : t + 1 < d.length := by omega
      have g1 := get_rdC (L := K) (i := t) (by omega)
      have g2 := get_rdC (L := K) (i := t + 1) (by omega)
      have g3 := get_rdC (L := K.set t (rd K (t + 1))) (i := t + 1) (by simp; omega)
      simp only [wr64s t (by omega), ht, ht2, hl, q1, q3, getK_s g1, getK_s g2, g1, g2, g3, List.length_set, go_sem, ↓reduceIte, Nat.reduceEqDiff, Nat.reduceBEq, Nat.reduceAdd, Nat.reduceLeDiff, Nat.reduceLT, reduceCtorEq, Nat.reduceMul, Nat.reduceSub, Int.reduceEq, Int.reduceLT, Int.reduceLE, Int.reduceToNat]
      rw [hst]
      refine ⟨(t + 1, _), ⟨by dsimp only; omega, by dsimp only; omega, by dsimp only; omega⟩, by dsimp only; omega, weak_ok ?_ (sub_dup (sub_dup (Sub.refl _))) (Nat.le_refl _)⟩
      simp only [go_sem, ↓reduceIte, Nat.reduceEqDiff, Nat.reduceBEq, Nat.reduceAdd, Nat.reduceLeDiff, Nat.reduceLT, reduceCtorEq, Nat.reduceMul, Nat.reduceSub, Int.reduceEq, Int.reduceLT, Int.reduceLE, Int.reduceToNat]
    · have w : t = i - 1 := by simp at w; omega
      subst w
      simp only [go_sem, ↓reduceIte, Nat.reduceEqDiff, Nat.reduceBEq, Nat.reduceAdd, Nat.reduceLeDiff, Nat.reduceLT, reduceCtorEq, Nat.reduceMul, Nat.reduceSub, Int.reduceEq, Int.reduceLT, Int.reduceLE, Int.reduceToNat]
/-- One element behind a part. -/
theorem symR_ok (d : List Nat) (hN : allLt N d) (a mm : Nat) (h1 : a + 1 < mm) (hb : mm + 1 ≤ d.length) (hm : d.length ≤ 1000000000000) (hp : CH) (m : Nat) (hk : gc hp k = .rw g 1 (mapC nuC d)) (hkc : k ≠ c) (hc0 : c < m) (hc : CmpK cm N f c hp) (hcm : ∀ x y, lt x y = decide (cm x y < 0)) :
    MeetsX Try.prog 76 hp m [.rw k g d.length, .i .i64 a, .i .i64 mm, .i .i64 (mm + 1 : Nat), .fn f [.bx c 0]] ((k, .rw g 1 (mapC nuC (pm d (mvL mm (bs1 (fun h => !lt (rd d mm) (rd d h)) a mm))))) :: hp) m (.tp []) := by
  obtain ⟨R, hR⟩ : ∃ R, bs1 (fun h => !lt (rd d mm) (rd d h)) a mm = R := ⟨_, rfl⟩
  rw [hR]
  have u1 : IntKind.i64.wrap ((mm : Int) - (a : Int)) = ((mm - a : Nat) : Int) := by rw [wr64 (by omega)]; omega
  have u1d : (((mm - a : Nat) : Int) = 1) = False := eq_false (by omega)
  have u2 : IntKind.i64.wrap (((mm + 1 : Nat) : Int) - (mm : Int)) = 1 := by rw [wr64 (by omega)]; omega
  have tk : d.take d.length = d := List.take_length
  refine meetsUpd Try.func76 (by kernel_rfl) cc76 cr76 rfl trivial (fun hf => rw_lt hf (by assumption)) fun hf => ?_; unfold ck76
  have hkm := rw_lt hf hk
  simp only [u1, u1d, u2, go_sem, ↓reduceIte, Nat.reduceEqDiff, Nat.reduceBEq, Nat.reduceAdd, Nat.reduceLeDiff, Nat.reduceLT, reduceCtorEq, Nat.reduceMul, Nat.reduceSub, Int.reduceEq, Int.reduceLT, Int.reduceLE, Int.reduceToNat]
  refine loop (fun p : (Nat × Nat) × Nat => ⟨[(0, .rw k g d.length), (2, .i .i64 mm), (4, .fn f [.bx c 0]), (14, .i .i64 p.1.1), (15, .i .i64 p.1.2)], (k, .rw g 1 (mapC nuC d)) :: hp, p.2⟩)
    (fun p => a ≤ p.1.1 ∧ p.1.1 ≤ p.1.2 ∧ p.1.2 ≤ mm ∧ m ≤ p.2 ∧ bs1 (fun h => !lt (rd d mm) (rd d h)) p.1.1 p.1.2 = R) (fun p => p.1.2 - p.1.1) ((a, mm), m) ?_ ?_ (fun ⟨⟨i, j⟩, q⟩ hj => ?_)
  · exact ⟨Nat.le_refl _, by dsimp only; omega, Nat.le_refl _, Nat.le_refl _, hR⟩
  · refine weak_ok ?_ (Sub.cons hk (Sub.refl _)) (Nat.le_refl _)
    simp only [go_sem, ↓reduceIte, Nat.reduceEqDiff, Nat.reduceBEq, Nat.reduceAdd, Nat.reduceLeDiff, Nat.reduceLT, reduceCtorEq, Nat.reduceMul, Nat.reduceSub, Int.reduceEq, Int.reduceLT, Int.reduceLE, Int.reduceToNat]
  dsimp only at hj
  obtain ⟨i1, i2, i3, i4, i5⟩ := hj
  rw [bs1] at i5
  by_cases hij : i < j
  · have hijd : ((i : Int) < (j : Int)) = True := eq_true (by omega)
    rw [if_pos hij] at i5
    have hh := half_eq i j (by omega)
    obtain ⟨H, hH⟩ : ∃ H, (i + j) / 2 = H := ⟨_, rfl⟩
    rw [hH] at hh i5
    have hH1 : i ≤ H ∧ H < j := by omega
    have qH : H < d.length := by omega
    have qa : mm < d.length := by omega
    have g1 := get_rdC qH
    have g2 := get_rdC qa
    have hcc := hc (rd d mm) (rd d H) (allLt_rd hN qa) (allLt_rd hN qH)
    simp only [hijd, hh, tk, qH, qa, getK_s g1, getK_s g2, g1, g2, go_sem, ↓reduceIte, Nat.reduceEqDiff, Nat.reduceBEq, Nat.reduceAdd, Nat.reduceLeDiff, Nat.reduceLT, reduceCtorEq, Nat.reduceMul, Nat.reduceSub, Int.reduceEq, Int.reduceLT, Int.reduceLE, Int.reduceToNat]
    refine dCall.f (fun _ hp' hh' => hcc hp' _ (by rw [hh' c (.inl (by omega)), gc_ne _ _ hkc])) ?_
    simp only [go_sem, ↓reduceIte, Nat.reduceEqDiff, Nat.reduceBEq, Nat.reduceAdd, Nat.reduceLeDiff, Nat.reduceLT, reduceCtorEq, Nat.reduceMul, Nat.reduceSub, Int.reduceEq, Int.reduceLT, Int.reduceLE, Int.reduceToNat]
    have e1 := hcm (rd d mm) (rd d H)
    refine cdK_of (fun t => ?_) (fun t => ?_)
    · have t : (!lt (rd d mm) (rd d H)) = true := by rw [e1]; exact t
      rw [if_pos t] at i5
      simp only [wr64s H (by omega), go_sem, ↓reduceIte, Nat.reduceEqDiff, Nat.reduceBEq, Nat.reduceAdd, Nat.reduceLeDiff, Nat.reduceLT, reduceCtorEq, Nat.reduceMul, Nat.reduceSub, Int.reduceEq, Int.reduceLT, Int.reduceLE, Int.reduceToNat]
      refine ⟨((H + 1, j), _), ⟨by dsimp only; omega, by dsimp only; omega, i3, by dsimp only; omega, i5⟩, by dsimp only; omega, weak_ok ?_ (Sub.refl _) (Nat.le_refl _)⟩
      simp only [go_sem, ↓reduceIte, Nat.reduceEqDiff, Nat.reduceBEq, Nat.reduceAdd, Nat.reduceLeDiff, Nat.reduceLT, reduceCtorEq, Nat.reduceMul, Nat.reduceSub, Int.reduceEq, Int.reduceLT, Int.reduceLE, Int.reduceToNat]
    · have t : ¬ (!lt (rd d mm) (rd d H)) = true := by rw [e1, t]; simp
      rw [if_neg t] at i5
      simp only [go_sem, ↓reduceIte, Nat.reduceEqDiff, Nat.reduceBEq, Nat.reduceAdd, Nat.reduceLeDiff, Nat.reduceLT, reduceCtorEq, Nat.reduceMul, Nat.reduceSub, Int.reduceEq, Int.reduceLT, Int.reduceLE, Int.reduceToNat]
      refine ⟨((i, H), _), ⟨i1, by dsimp only; omega, by dsimp only; omega, by dsimp only; omega, i5⟩, by dsimp only; omega, weak_ok ?_ (Sub.refl _) (Nat.le_refl _)⟩
      simp only [go_sem, ↓reduceIte, Nat.reduceEqDiff, Nat.reduceBEq, Nat.reduceAdd, Nat.reduceLeDiff, Nat.reduceLT, reduceCtorEq, Nat.reduceMul, Nat.reduceSub, Int.reduceEq, Int.reduceLT, Int.reduceLE, Int.reduceToNat]
  · have hijd : ((i : Int) < (j : Int)) = False := eq_false (by omega)
    rw [if_neg hij] at i5
    subst i5
    simp only [hijd, go_sem, ↓reduceIte, Nat.reduceEqDiff, Nat.reduceBEq, Nat.reduceAdd, Nat.reduceLeDiff, Nat.reduceLT, reduceCtorEq, Nat.reduceMul, Nat.reduceSub, Int.reduceEq, Int.reduceLT, Int.reduceLE, Int.reduceToNat]
    refine loop (fun p : Nat × Nat => ⟨[(0, .rw k g d.length), (14, .i .i64 i), (17, .i .i64 p.1)], (k, .rw g 1 (mapC nuC (pm d (mvL mm p.1)))) :: hp, p.2⟩) (fun p => i ≤ p.1 ∧ p.1 ≤ mm ∧ m ≤ p.2) (fun p => p.1 - i) (mm, q) ?_ ?_ (fun ⟨t, q2⟩ hi => ?_)
    · exact ⟨by dsimp only; omega, Nat.le_refl _, i4⟩
    · refine weak_ok ?_ (sub_same ?_) (Nat.le_refl _)
      all_goals
        simp only [mvL_self, go_sem, ↓reduceIte, Nat.reduceEqDiff, Nat.reduceBEq, Nat.reduceAdd, Nat.reduceLeDiff, Nat.reduceLT, reduceCtorEq, Nat.reduceMul, Nat.reduceSub, Int.reduceEq, Int.reduceLT, Int.reduceLE, Int.reduceToNat]
    dsimp only at hi
    obtain ⟨hi1, hi2, hi3⟩ := hi
    by_cases w : i < t
    · have wd : ((i : Int) < (t : Int)) = True := eq_true (by omega)
      obtain ⟨t, rfl⟩ : ∃ s, t = s + 1 := ⟨t - 1, by omega⟩
      have w1 : IntKind.i64.wrap (((t + 1 : Nat) : Int) - 1) = (t : Int) := by rw [wr64 (by omega)]; omega
      have hst := mvL_step (d := d) (m := mm) (t := t) (by omega) (by omega)
      have hl := pm_len d (mvL mm (t + 1))
      generalize pm d (mvL mm (t + 1)) = K at hst hl
      have ht : K.take d.length = K := List.take_of_length_le (by omega)
      have ht2 : ∀ x, (K.set (t + 1) x).take d.length = K.set (t + 1) x := fun x => List.take_of_length_le (by simp; omega)
      have q1 : t < d.length := by omega
      have q3 : t + 1 < d.length := by omega
      have g1 := get_rdC (L := K) (i := t) (by omega)
      have g2 := get_rdC (L := K) (i := t + 1) (by omega)
      have g3 := get_rdC (L := K.set (t + 1) (rd K t)) (i := t) (by simp; omega)
      simp only [wd, w1, ht, ht2, hl, q1, q3, getK_s g1, getK_s g2, g1, g2, g3, List.length_set, go_sem, ↓reduceIte, Nat.reduceEqDiff, Nat.reduceBEq, Nat.reduceAdd, Nat.reduceLeDiff, Nat.reduceLT, reduceCtorEq, Nat.reduceMul, Nat.reduceSub, Int.reduceEq, Int.reduceLT, Int.reduceLE, Int.reduceToNat]
      rw [hst]
      refine ⟨(t, _), ⟨by dsimp only; omega, by dsimp only; omega, by dsimp only; omega⟩, by dsimp only; omega, weak_ok ?_ (sub_dup (sub_dup (Sub.refl _))) (Nat.le_refl _)⟩
      simp only [go_sem, ↓reduceIte, Nat.reduceEqDiff, Nat.reduceBEq, Nat.reduceAdd, Nat.reduceLeDiff, Nat.reduceLT, reduceCtorEq, Nat.reduceMul, Nat.reduceSub, Int.reduceEq, Int.reduceLT, Int.reduceLE, Int.reduceToNat]
    · have wd : ((i : Int) < (t : Int)) = False := eq_false (by omega)
      have w : t = i := by omega
      subst w
      simp only [wd, go_sem, ↓reduceIte, Nat.reduceEqDiff, Nat.reduceBEq, Nat.reduceAdd, Nat.reduceLeDiff, Nat.reduceLT, reduceCtorEq, Nat.reduceMul, Nat.reduceSub, Int.reduceEq, Int.reduceLT, Int.reduceLE, Int.reduceToNat]
end
end Go.Proofs.Ytaeablbcfkamjaa
