/-
  The parts VsH of the proof, in one file. Conditions: none.
-/
import Derived.Test.YtaeablbcfkamjaaVt48
namespace Go.Proofs.Ytaeablbcfkamjaa
open Go.Eng Vs
set_option linter.unusedVariables false
set_option linter.unusedSimpArgs false
set_option maxRecDepth 20000
set_option maxHeartbeats 1000000
theorem sink_eq (lt : Nat → Nat → Bool) (a : Nat) : ∀ (j : Nat) (L : List Nat), sink lt a j L = sinkS lt a j L
  | 0, L => rfl
  | j + 1, L => by rw [sink, sinkS, sink_eq lt a j]; rfl
theorem insA_eq (lt : Nat → Nat → Bool) (a : Nat) : ∀ (c i : Nat) (L : List Nat), insA lt a c i L = insS lt a c i L
  | 0, i, L => rfl
  | c + 1, i, L => by rw [insA, insS, sink_eq, insA_eq lt a c]
/-- The order of places: by key, then by place. -/
def TT (l : List ByteArray) (x y : Nat) : Prop := cs (l.getD x ⟨#[]⟩) (l.getD y ⟨#[]⟩) < 0 ∨ (cs (l.getD x ⟨#[]⟩) (l.getD y ⟨#[]⟩) = 0 ∧ x < y)
instance (l : List ByteArray) : DecidableRel (TT l) := fun x y => by unfold TT; infer_instance
theorem TT_trans (l : List ByteArray) : ∀ x y z, TT l x y → TT l y z → TT l x z := fun x y z h1 h2 => by
  have h := cs_tri (l.getD x ⟨#[]⟩) (l.getD y ⟨#[]⟩) (l.getD z ⟨#[]⟩)
  unfold Tri at h
  unfold TT at *
  omega
theorem TT_irr (l : List ByteArray) : ∀ x, ¬ TT l x x := fun x h => by
  unfold TT at h
  rw [cs_refl] at h
  omega
theorem TT_asym (l : List ByteArray) : ∀ x y, TT l x y → ¬ TT l y x := fun x y h1 h2 => by
  have := TT_trans l x y x h1 h2
  exact TT_irr l x this
theorem TT_lt (l : List ByteArray) : ∀ x y, x < y → (ltK l y x = true → TT l y x) ∧ (ltK l y x = false → TT l x y) := fun x y h => by
  have := cs_anti (l.getD x ⟨#[]⟩) (l.getD y ⟨#[]⟩)
  unfold TT ltK
  refine ⟨fun q => .inl (by simpa using q), fun q => ?_⟩
  simp only [decide_eq_false_iff_not] at q
  omega
theorem allLt_range (n : Nat) : allLt n (List.range n) := fun x hx => by simpa using hx
theorem ord_ordL (l : List ByteArray) : Ord (TT l) l.length (ordL l) := by
  have hl := ordL_len l
  have hlt := ordL_lt l
  rcases Nat.eq_zero_or_pos l.length with h0 | h0
  · exact ⟨hl, fun k hk => by omega, fun i j _ _ hj => by omega⟩
  · have hb := Blk.step (lt := ltK l) (TT_trans l) (TT_lt l) (s := l.length) (q := 0) (A := 0) (B := l.length) (Blk.zero (TT l) l.length l.length) (by simp) (Nat.zero_le _) (by omega) (Nat.le_refl _)
    have e : insS (ltK l) 0 (l.length - (0 + 1)) (0 + 1) (List.range l.length) = ordL l := by rw [ordL, insA_eq]
    rw [e] at hb
    exact hb.ord (Nat.le_refl _) fun k hk => allLt_rd hlt (by omega)
theorem ordL_one (l : List ByteArray) {c : List Nat} (h : Ord (TT l) l.length c) : c = ordL l := Ord.one (TT_irr l) (TT_asym l) h (ord_ordL l)
theorem stable_cmp (l : List ByteArray) (hn : l.length ≤ 1000000000) (k g f c : Nat) (hp : CH) (m : Nat) (hk : gc hp k = .rw g 1 (mapC nuC (List.range l.length))) (hkc : k ≠ c) (hcm : c < m)
    (hc : CmpK (fun x y => cs (l.getD x ⟨#[]⟩) (l.getD y ⟨#[]⟩)) l.length f c hp) :
    MeetsX Try.prog 67 hp m [.rw k g l.length, .i .i64 (l.length : Nat), .fn f [.bx c 0]] ((k, .rw g 1 (mapC nuC (ordL l))) :: hp) m (.tp []) := by
  obtain ⟨R, hR⟩ : ∃ R, ordL l = R := ⟨_, rfl⟩
  have h1 := fun c (h : Ord (TT l) l.length c) => ordL_one l h
  rw [hR] at h1 ⊢
  obtain ⟨n, hnn⟩ : ∃ n, l.length = n := ⟨_, rfl⟩
  have hlc : ∀ x y, ltK l x y = decide (cs (l.getD x ⟨#[]⟩) (l.getD y ⟨#[]⟩) < 0) := fun x y => rfl
  have hins := fun (L : List Nat) (hN : allLt n L) (hL : L.length = n) (a b : Nat) (hab : a ≤ b) (hb : b ≤ n) (hp' : CH) (m' : Nat) (e1 : gc hp' k = .rw g 1 (mapC nuC L)) (e2 : gc hp' c = gc hp c) (e3 : c < m') =>
    ins_ok (ltK l) (fun x y => cs (l.getD x ⟨#[]⟩) (l.getD y ⟨#[]⟩)) hlc n L hN a b hab (by omega) (by omega) k g f c hp' m' e1 hkc e3 (fun x y hx hy hp2 n2 e => hc x y (by omega) (by omega) hp2 n2 (e.trans e2))
  have hsym := fun (L : List Nat) (hN : allLt n L) (hL : L.length = n) (a mm b : Nat) (h1 : a < mm) (h2 : mm < b) (h3 : b ≤ n) (hp' : CH) (m' : Nat) (e1 : gc hp' k = .rw g 1 (mapC nuC L)) (e2 : gc hp' c = gc hp c) (e3 : c < m') =>
    sym_ok (ltK l) (fun x y => cs (l.getD x ⟨#[]⟩) (l.getD y ⟨#[]⟩)) n k g f c hkc hlc (b - a) a mm b L h1 h2 (by omega) (by omega) (Nat.le_refl _) hN hp' m' e1 e3 (fun x y hx hy hp2 n2 e => hc x y (by omega) (by omega) hp2 n2 (e.trans e2))
  have hT := TT_trans l
  have hx := TT_lt l
  have hN0 := allLt_range n
  have hB0 := Blk.zero (TT l) n 20
  have hlt := ordL_lt l
  rw [hnn] at hk h1 ⊢
  clear hc hlc
  refine meetsUpd Try.func67 (by kernel_rfl) cc67 cr67 rfl trivial (fun hf => rw_lt hf (by assumption)) fun hf => ?_; unfold ck67
  have hkm := rw_lt hf hk
  simp only [go_sem, ↓reduceIte, Nat.reduceEqDiff, Nat.reduceBEq, Nat.reduceAdd, Nat.reduceLeDiff, Nat.reduceLT, reduceCtorEq, Nat.reduceMul, Nat.reduceSub, Int.reduceEq, Int.reduceLT, Int.reduceLE, Int.reduceToNat]
  refine loop (fun p : (Nat × List Nat) × Nat => ⟨[(0, .rw k g n), (1, .i .i64 n), (2, .fn f [.bx c 0]), (6, .i .i64 20), (7, .i .i64 (p.1.1 * 20 : Nat)), (8, .i .i64 (p.1.1 * 20 + 20 : Nat))], (k, .rw g 1 (mapC nuC p.1.2)) :: hp, p.2⟩)
    (fun p => p.1.1 * 20 ≤ n ∧ allLt n p.1.2 ∧ m ≤ p.2 ∧ Blk (TT l) n 20 (p.1.1 * 20) p.1.2) (fun p => n - p.1.1 * 20) ((0, List.range n), m) ?_ ?_ (fun ⟨⟨q, L⟩, u⟩ hj => ?_)
  · exact ⟨by simp, hN0, Nat.le_refl _, hB0⟩
  · refine weak_ok ?_ (Sub.cons hk (Sub.refl _)) (Nat.le_refl _)
    simp only [go_sem, ↓reduceIte, Nat.reduceEqDiff, Nat.reduceBEq, Nat.reduceAdd, Nat.reduceLeDiff, Nat.reduceLT, reduceCtorEq, Nat.reduceMul, Nat.reduceSub, Int.reduceEq, Int.reduceLT, Int.reduceLE, Int.reduceToNat]
  dsimp only at hj
  obtain ⟨hj1, hj2, hj3, hj4⟩ := hj
  have hLl := hj4.len
  have hi := fun b hab hb => hins L hj2 hLl (q * 20) b hab hb
  rw [hLl] at hi
  by_cases cq : q * 20 + 20 ≤ n
  · have cd : (((q * 20 + 20 : Nat) : Int) ≤ (n : Int)) = True := eq_true (by omega)
    have wq : IntKind.i64.wrap (((q * 20 + 20 : Nat) : Int) + 20) = (((q + 1) * 20 + 20 : Nat) : Int) := by rw [wr64 (by omega)]; omega
    have eq1 : (q + 1) * 20 = q * 20 + 20 := by omega
    have hst := Blk.step (lt := ltK l) hT hx hj4 rfl (B := q * 20 + 20) (by omega) (Nat.le_refl _) cq
    rw [← insA_eq] at hst
    have hN2 : allLt n (insA (ltK l) (q * 20) (q * 20 + 20 - (q * 20 + 1)) (q * 20 + 1) L) := insA_lt _ _ _ _ _ _ (by omega) hj2
    simp only [cd, go_sem, ↓reduceIte, Nat.reduceEqDiff, Nat.reduceBEq, Nat.reduceAdd, Nat.reduceLeDiff, Nat.reduceLT, reduceCtorEq, Nat.reduceMul, Nat.reduceSub, Int.reduceEq, Int.reduceLT, Int.reduceLE, Int.reduceToNat]
    refine vcCall.x (hi (q * 20 + 20) (by omega) cq _ _ (gc_same _ _ _) (by rw [gc_ne _ _ hkc]) (by omega)) ?_
    generalize insA (ltK l) (q * 20) (q * 20 + 20 - (q * 20 + 1)) (q * 20 + 1) L = L2 at hst hN2
    simp only [wq, go_sem, ↓reduceIte, Nat.reduceEqDiff, Nat.reduceBEq, Nat.reduceAdd, Nat.reduceLeDiff, Nat.reduceLT, reduceCtorEq, Nat.reduceMul, Nat.reduceSub, Int.reduceEq, Int.reduceLT, Int.reduceLE, Int.reduceToNat]
    refine ⟨((q + 1, L2), _), ⟨by dsimp only; omega, hN2, hj3, by dsimp only; rw [eq1]; exact hst⟩, by dsimp only; omega, weak_ok ?_ (sub_dup (Sub.refl _)) (Nat.le_refl _)⟩
    simp only [eq1, go_sem, ↓reduceIte, Nat.reduceEqDiff, Nat.reduceBEq, Nat.reduceAdd, Nat.reduceLeDiff, Nat.reduceLT, reduceCtorEq, Nat.reduceMul, Nat.reduceSub, Int.reduceEq, Int.reduceLT, Int.reduceLE, Int.reduceToNat]
  · have cd : (((q * 20 + 20 : Nat) : Int) ≤ (n : Int)) = False := eq_false (by omega)
    have hst := Blk.step (lt := ltK l) hT hx hj4 rfl (B := n) (by omega) (by omega) (Nat.le_refl _)
    rw [← insA_eq] at hst
    have hN2 : allLt n (insA (ltK l) (q * 20) (n - (q * 20 + 1)) (q * 20 + 1) L) := by
      by_cases e : q * 20 + 1 ≤ n
      · exact insA_lt _ _ _ _ _ _ (by omega) hj2
      · rw [show n - (q * 20 + 1) = 0 by omega, insA]; exact hj2
    simp only [cd, go_sem, ↓reduceIte, Nat.reduceEqDiff, Nat.reduceBEq, Nat.reduceAdd, Nat.reduceLeDiff, Nat.reduceLT, reduceCtorEq, Nat.reduceMul, Nat.reduceSub, Int.reduceEq, Int.reduceLT, Int.reduceLE, Int.reduceToNat]
    refine vcCall.x (hi n hj1 (Nat.le_refl _) _ _ (gc_same _ _ _) (by rw [gc_ne _ _ hkc]) (by omega)) ?_
    generalize insA (ltK l) (q * 20) (n - (q * 20 + 1)) (q * 20 + 1) L = L2 at hst hN2
    clear hi hj4 hLl
    simp only [go_sem, ↓reduceIte, Nat.reduceEqDiff, Nat.reduceBEq, Nat.reduceAdd, Nat.reduceLeDiff, Nat.reduceLT, reduceCtorEq, Nat.reduceMul, Nat.reduceSub, Int.reduceEq, Int.reduceLT, Int.reduceLE, Int.reduceToNat]
    refine loop (fun p : (Nat × List Nat) × Nat => ⟨[(0, .rw k g n), (1, .i .i64 n), (2, .fn f [.bx c 0]), (6, .i .i64 p.1.1)], (k, .rw g 1 (mapC nuC p.1.2)) :: hp, p.2⟩)
      (fun p => 1 ≤ p.1.1 ∧ p.1.1 ≤ 4000000000 ∧ allLt n p.1.2 ∧ m ≤ p.2 ∧ Blk (TT l) n p.1.1 n p.1.2) (fun p => n - p.1.1) ((20, L2), u) ?_ ?_ (fun ⟨⟨s, c2⟩, u2⟩ hj => ?_)
    · exact ⟨by dsimp only; omega, by dsimp only; omega, hN2, hj3, hst⟩
    · refine weak_ok ?_ (sub_dup (Sub.refl _)) (Nat.le_refl _)
      simp only [go_sem, ↓reduceIte, Nat.reduceEqDiff, Nat.reduceBEq, Nat.reduceAdd, Nat.reduceLeDiff, Nat.reduceLT, reduceCtorEq, Nat.reduceMul, Nat.reduceSub, Int.reduceEq, Int.reduceLT, Int.reduceLE, Int.reduceToNat]
    dsimp only at hj
    obtain ⟨s1, s2, s3, s4, s5⟩ := hj
    clear hst hN2 hj1 hj2 hj3 cq cd
    by_cases cs : s < n
    · have cd : ((s : Int) < (n : Int)) = True := eq_true (by omega)
      have w2 : IntKind.i64.wrap (2 * (s : Int)) = ((2 * s : Nat) : Int) := by rw [wr64 (by omega)]; omega
      have w3 : IntKind.i64.wrap ((s : Int) * 2) = ((s * 2 : Nat) : Int) := by rw [wr64 (by omega)]; omega
      simp only [cd, w2, go_sem, ↓reduceIte, Nat.reduceEqDiff, Nat.reduceBEq, Nat.reduceAdd, Nat.reduceLeDiff, Nat.reduceLT, reduceCtorEq, Nat.reduceMul, Nat.reduceSub, Int.reduceEq, Int.reduceLT, Int.reduceLE, Int.reduceToNat]
      refine loop (fun p : (Nat × List Nat) × Nat => ⟨[(0, .rw k g n), (1, .i .i64 n), (2, .fn f [.bx c 0]), (6, .i .i64 s), (7, .i .i64 p.1.1), (8, .i .i64 (p.1.1 + 2 * s : Nat))], (k, .rw g 1 (mapC nuC p.1.2)) :: hp, p.2⟩)
        (fun p => p.1.1 ≤ n ∧ (∃ q, p.1.1 = 2 * q * s) ∧ allLt n p.1.2 ∧ m ≤ p.2 ∧ Pas (TT l) n s p.1.1 p.1.2) (fun p => n - p.1.1) ((0, c2), u2) ?_ ?_ (fun ⟨⟨A, c3⟩, u3⟩ hi => ?_)
      · exact ⟨Nat.zero_le _, ⟨0, by simp⟩, s3, s4, s5.pas⟩
      · refine weak_ok ?_ (Sub.refl _) (Nat.le_refl _)
        simp only [Nat.zero_add, go_sem, ↓reduceIte, Nat.reduceEqDiff, Nat.reduceBEq, Nat.reduceAdd, Nat.reduceLeDiff, Nat.reduceLT, reduceCtorEq, Nat.reduceMul, Nat.reduceSub, Int.reduceEq, Int.reduceLT, Int.reduceLE, Int.reduceToNat]
      dsimp only at hi
      obtain ⟨a1, ⟨q, a2⟩, a3, a4, a5⟩ := hi
      have cl := a5.len
      have wA : IntKind.i64.wrap ((A : Int) + (s : Int)) = ((A + s : Nat) : Int) := by rw [wr64 (by omega)]; omega
      have hs := hsym c3 a3 cl A (A + s)
      rw [cl] at hs
      by_cases ci : A + 2 * s ≤ n
      · have cid : (((A + 2 * s : Nat) : Int) ≤ (n : Int)) = True := eq_true (by omega)
        have w4 : IntKind.i64.wrap (((A + 2 * s : Nat) : Int) + ((2 * s : Nat) : Int)) = ((A + 2 * s + 2 * s : Nat) : Int) := by rw [wr64 (by omega)]; omega
        have M := symF_mrg hT _ A (A + s) (A + 2 * s) c3 (a5.pre hx s1 a2 (by omega) (by omega) ci) (by omega) (by omega) (by omega) (Nat.le_refl _)
        have hN3 := symF_lt (ltK l) n (A + 2 * s - A) A (A + s) (A + 2 * s) c3 a3 (by omega) (by omega) (by omega)
        have hP := a5.step s1 a2 (by omega) (by omega) ci (.inl (by omega)) M
        simp only [cid, wA, go_sem, ↓reduceIte, Nat.reduceEqDiff, Nat.reduceBEq, Nat.reduceAdd, Nat.reduceLeDiff, Nat.reduceLT, reduceCtorEq, Nat.reduceMul, Nat.reduceSub, Int.reduceEq, Int.reduceLT, Int.reduceLE, Int.reduceToNat]
        refine vcCall.x (hs (A + 2 * s) (by omega) (by omega) ci _ _ (gc_same _ _ _) (by rw [gc_ne _ _ hkc]) (by omega)) ?_
        generalize symF (ltK l) (A + 2 * s - A) A (A + s) (A + 2 * s) c3 = c4 at M hN3 hP
        simp only [w2, w4, go_sem, ↓reduceIte, Nat.reduceEqDiff, Nat.reduceBEq, Nat.reduceAdd, Nat.reduceLeDiff, Nat.reduceLT, reduceCtorEq, Nat.reduceMul, Nat.reduceSub, Int.reduceEq, Int.reduceLT, Int.reduceLE, Int.reduceToNat]
        refine ⟨((A + 2 * s, c4), _), ⟨ci, ⟨q + 1, ?_⟩, hN3, a4, hP⟩, by dsimp only; omega, weak_ok ?_ (sub_dup (Sub.refl _)) (Nat.le_refl _)⟩
        · dsimp only
          rw [a2, Nat.mul_add, Nat.mul_one, Nat.add_mul]
        simp only [go_sem, ↓reduceIte, Nat.reduceEqDiff, Nat.reduceBEq, Nat.reduceAdd, Nat.reduceLeDiff, Nat.reduceLT, reduceCtorEq, Nat.reduceMul, Nat.reduceSub, Int.reduceEq, Int.reduceLT, Int.reduceLE, Int.reduceToNat]
      · have cid : (((A + 2 * s : Nat) : Int) ≤ (n : Int)) = False := eq_false (by omega)
        by_cases ce : A + s < n
        · have ced : (((A + s : Nat) : Int) < (n : Int)) = True := eq_true (by omega)
          have M := symF_mrg hT _ A (A + s) n c3 (a5.pre hx s1 a2 (by omega) (by omega) (Nat.le_refl _)) (by omega) (by omega) (by omega) (Nat.le_refl _)
          have hN3 := symF_lt (ltK l) n (n - A) A (A + s) n c3 a3 (by omega) (by omega) (by omega)
          have hP := a5.step s1 a2 (by omega) (by omega) (Nat.le_refl _) (.inr rfl) M
          simp only [cid, wA, ced, go_sem, ↓reduceIte, Nat.reduceEqDiff, Nat.reduceBEq, Nat.reduceAdd, Nat.reduceLeDiff, Nat.reduceLT, reduceCtorEq, Nat.reduceMul, Nat.reduceSub, Int.reduceEq, Int.reduceLT, Int.reduceLE, Int.reduceToNat]
          refine vcCall.x (hs n (by omega) (by omega) (Nat.le_refl _) _ _ (gc_same _ _ _) (by rw [gc_ne _ _ hkc]) (by omega)) ?_
          generalize symF (ltK l) (n - A) A (A + s) n c3 = c4 at M hN3 hP
          simp only [w3, go_sem, ↓reduceIte, Nat.reduceEqDiff, Nat.reduceBEq, Nat.reduceAdd, Nat.reduceLeDiff, Nat.reduceLT, reduceCtorEq, Nat.reduceMul, Nat.reduceSub, Int.reduceEq, Int.reduceLT, Int.reduceLE, Int.reduceToNat]
          refine ⟨((s * 2, c4), _), ⟨by dsimp only; omega, by dsimp only; omega, hN3, a4, hP.blk⟩, by dsimp only; omega, weak_ok ?_ (sub_dup (Sub.refl _)) (Nat.le_refl _)⟩
          simp only [go_sem, ↓reduceIte, Nat.reduceEqDiff, Nat.reduceBEq, Nat.reduceAdd, Nat.reduceLeDiff, Nat.reduceLT, reduceCtorEq, Nat.reduceMul, Nat.reduceSub, Int.reduceEq, Int.reduceLT, Int.reduceLE, Int.reduceToNat]
        · have ced : (((A + s : Nat) : Int) < (n : Int)) = False := eq_false (by omega)
          have hP := a5.last a2 (by omega) a1
          simp only [cid, wA, ced, w3, go_sem, ↓reduceIte, Nat.reduceEqDiff, Nat.reduceBEq, Nat.reduceAdd, Nat.reduceLeDiff, Nat.reduceLT, reduceCtorEq, Nat.reduceMul, Nat.reduceSub, Int.reduceEq, Int.reduceLT, Int.reduceLE, Int.reduceToNat]
          refine ⟨((s * 2, c3), _), ⟨by dsimp only; omega, by dsimp only; omega, a3, a4, hP.blk⟩, by dsimp only; omega, weak_ok ?_ (Sub.refl _) (Nat.le_refl _)⟩
          simp only [go_sem, ↓reduceIte, Nat.reduceEqDiff, Nat.reduceBEq, Nat.reduceAdd, Nat.reduceLeDiff, Nat.reduceLT, reduceCtorEq, Nat.reduceMul, Nat.reduceSub, Int.reduceEq, Int.reduceLT, Int.reduceLE, Int.reduceToNat]
    · have cd : ((s : Int) < (n : Int)) = False := eq_false (by omega)
      have hc2 := h1 c2 (s5.ord (by omega) fun j hj => allLt_rd s3 (by rw [s5.len]; exact hj))
      subst hc2
      simp only [cd, go_sem, ↓reduceIte, Nat.reduceEqDiff, Nat.reduceBEq, Nat.reduceAdd, Nat.reduceLeDiff, Nat.reduceLT, reduceCtorEq, Nat.reduceMul, Nat.reduceSub, Int.reduceEq, Int.reduceLT, Int.reduceLE, Int.reduceToNat]
theorem stable_ok (n : Nat) (hn : n ≤ 1000000000) : StOk n := by
  intro l k g f c hp m hl hk hkc hcm h
  refine meetsUpd Try.func56 (by kernel_rfl) cc56 cr56 rfl trivial (fun hf => rw_lt hf (by assumption)) fun hf => ?_; unfold ck56
  have := rw_lt hf hk
  simp only [hk, List.length_range, le_len_range, go_sem, ↓reduceIte, Nat.reduceEqDiff, Nat.reduceBEq, Nat.reduceAdd, Nat.reduceLeDiff, Nat.reduceLT, reduceCtorEq, Nat.reduceMul, Nat.reduceSub, Int.reduceEq, Int.reduceLT, Int.reduceLE, Int.reduceToNat]
  refine vcCall.x (stable_cmp l (by omega) k g f c _ _ hk hkc hcm fun x y hx hy hp' n' e => h x y hx hy hp' n' e) ?_
  simp only [go_sem, ↓reduceIte, Nat.reduceEqDiff, Nat.reduceBEq, Nat.reduceAdd, Nat.reduceLeDiff, Nat.reduceLT, reduceCtorEq, Nat.reduceMul, Nat.reduceSub, Int.reduceEq, Int.reduceLT, Int.reduceLE, Int.reduceToNat]
theorem sok_of (v : Val) : wtV v ≤ 1000000000 → SOk v := by
  refine Val.ind (Q := fun v => wtV v ≤ 1000000000 → SOk v) (fun v ih h => ?_) v
  rw [wtV_eq] at h
  refine .mk v (stable_ok _ (by omega)) fun x hx => ih x hx ?_
  have := wtL_mem hx
  omega
end Go.Proofs.Ytaeablbcfkamjaa
