/-
  The parts DaC of the proof, in one file. Conditions: none.
-/
import Derived.Test.YthiifoleopdieaaPu33
namespace Go.Proofs.Ythiifoleopdieaa
open Go.Eng
set_option linter.unusedVariables false
set_option linter.unusedSimpArgs false
set_option maxRecDepth 20000
/-- Where a cell with a field and arguments is, or -1. -/
def atI (f a : ByteArray) (l : List Cel) : Int := fidx (fun c : Cel => decide (c.f = f) && decide (c.a = a)) l 0
theorem fidx_lt {α : Type} (q : α → Bool) : ∀ (l : List α) (j : Nat), fidx q l j = -1 ∨ ((j : Int) ≤ fidx q l j ∧ fidx q l j < (j + l.length : Nat))
  | [], j => .inl rfl
  | x :: r, j => by
    rw [fidx]
    split
    · right; simp; omega
    · have := fidx_lt q r (j + 1)
      simp at this ⊢
      omega
/-- The value of the cell at a place. -/
def cellV (l : List Cel) (i : Int) : Val := if 0 ≤ i then (match l[i.toNat]? with | some c => c.v | none => zVal) else zVal
theorem at_cell {l : List Cel} {f a : ByteArray} (h : 0 ≤ atI f a l) : ∃ (j : Nat) (c : Cel), atI f a l = j ∧ l[j]? = some c ∧ cellV l (atI f a l) = c.v := by
  have h2 := fidx_lt (fun c : Cel => decide (c.f = f) && decide (c.a = a)) l 0
  have h3 : atI f a l < l.length := by unfold atI at h ⊢; simp at h2; omega
  refine ⟨(atI f a l).toNat, l[(atI f a l).toNat]'(by omega), by omega, by simp, ?_⟩
  rw [cellV, if_pos h]
  have : l[(atI f a l).toNat]? = some (l[(atI f a l).toNat]'(by omega)) := by simp
  rw [this]
theorem at_ok (l : List Cel) (hl : l.length ≤ 1256584718000) (f a : ByteArray) (hp : CH) (m : Nat) : MeetsF Try.prog 57 hp m [.ds (mapC celC l), .s f, .s a] (.i .i64 (atI f a l)) := by
  obtain ⟨R, hR⟩ : ∃ R, atI f a l = R := ⟨_, rfl⟩
  rw [hR]
  refine meetsF Try.func57 (by kernel_rfl) cc57 cr57 rfl fun hf => ?_; unfold ck57
  simp only [go_sem, ↓reduceIte, Nat.reduceEqDiff, Nat.reduceBEq, Nat.reduceAdd, Nat.reduceLeDiff, Nat.reduceLT, reduceCtorEq, Nat.reduceMul, Nat.reduceSub, Int.reduceEq, Int.reduceLT, Int.reduceLE, Int.reduceToNat]
  refine loop (fun p : Nat × Nat => ⟨[(0, .ds (mapC celC l)), (1, .s f), (2, .s a), (7, .i .i64 p.1)], hp, p.2⟩)
    (fun p => p.1 ≤ l.length ∧ m ≤ p.2 ∧ R = fidx (fun c : Cel => decide (c.f = f) && decide (c.a = a)) (l.drop p.1) p.1) (fun p => l.length - p.1) (0, m) ?_ ?_ (fun ⟨j, n⟩ hj => ?_)
  · exact ⟨by simp, by simp, hR.symm⟩
  · refine weak_ok ?_ (Sub.refl _) (Nat.le_refl _)
    simp only [go_sem, ↓reduceIte, Nat.reduceEqDiff, Nat.reduceBEq, Nat.reduceAdd, Nat.reduceLeDiff, Nat.reduceLT, reduceCtorEq, Nat.reduceMul, Nat.reduceSub, Int.reduceEq, Int.reduceLT, Int.reduceLE, Int.reduceToNat]
  dsimp only at hj
  obtain ⟨hj1, hj2, hj3⟩ := hj
  simp only [go_sem, ↓reduceIte, Nat.reduceEqDiff, Nat.reduceBEq, Nat.reduceAdd, Nat.reduceLeDiff, Nat.reduceLT, reduceCtorEq, Nat.reduceMul, Nat.reduceSub, Int.reduceEq, Int.reduceLT, Int.reduceLE, Int.reduceToNat]
  refine cdK_of (fun q => ?_) (fun q => ?_)
  · have q : j < l.length := by simpa using q
    obtain ⟨x, ex⟩ : ∃ x, l[j]? = some x := ⟨l[j], by simp [q]⟩
    rw [drop_at ex, fidx] at hj3
    simp only [q, getK_s (mapC_get celC ex), go_sem, ↓reduceIte, Nat.reduceEqDiff, Nat.reduceBEq, Nat.reduceAdd, Nat.reduceLeDiff, Nat.reduceLT, reduceCtorEq, Nat.reduceMul, Nat.reduceSub, Int.reduceEq, Int.reduceLT, Int.reduceLE, Int.reduceToNat]
    refine grK_of (fun g => ?_) (fun g => ?_)
    · rw [g, Bool.true_and] at hj3
      simp only [q, g, getK_s (mapC_get celC ex), go_sem, ↓reduceIte, Nat.reduceEqDiff, Nat.reduceBEq, Nat.reduceAdd, Nat.reduceLeDiff, Nat.reduceLT, reduceCtorEq, Nat.reduceMul, Nat.reduceSub, Int.reduceEq, Int.reduceLT, Int.reduceLE, Int.reduceToNat]
      refine cdK_of (fun g2 => ?_) (fun g2 => ?_)
      · rw [if_pos g2] at hj3
        subst hj3
        simp only [go_sem, ↓reduceIte, Nat.reduceEqDiff, Nat.reduceBEq, Nat.reduceAdd, Nat.reduceLeDiff, Nat.reduceLT, reduceCtorEq, Nat.reduceMul, Nat.reduceSub, Int.reduceEq, Int.reduceLT, Int.reduceLE, Int.reduceToNat]
      · rw [if_neg (by simp [g2])] at hj3
        simp only [go_sem, ↓reduceIte, Nat.reduceEqDiff, Nat.reduceBEq, Nat.reduceAdd, Nat.reduceLeDiff, Nat.reduceLT, reduceCtorEq, Nat.reduceMul, Nat.reduceSub, Int.reduceEq, Int.reduceLT, Int.reduceLE, Int.reduceToNat]
        refine ⟨(j + 1, _), ⟨by dsimp only; omega, by dsimp only; omega, hj3⟩, by dsimp only; omega, weak_ok ?_ (Sub.refl _) (Nat.le_refl _)⟩
        simp only [wr64s j (by omega), go_sem, ↓reduceIte, Nat.reduceEqDiff, Nat.reduceBEq, Nat.reduceAdd, Nat.reduceLeDiff, Nat.reduceLT, reduceCtorEq, Nat.reduceMul, Nat.reduceSub, Int.reduceEq, Int.reduceLT, Int.reduceLE, Int.reduceToNat]
    · rw [g, Bool.false_and, if_neg (by simp)] at hj3
      simp only [q, g, go_sem, ↓reduceIte, Nat.reduceEqDiff, Nat.reduceBEq, Nat.reduceAdd, Nat.reduceLeDiff, Nat.reduceLT, reduceCtorEq, Nat.reduceMul, Nat.reduceSub, Int.reduceEq, Int.reduceLT, Int.reduceLE, Int.reduceToNat]
      refine ⟨(j + 1, _), ⟨by dsimp only; omega, by dsimp only; omega, hj3⟩, by dsimp only; omega, weak_ok ?_ (Sub.refl _) (Nat.le_refl _)⟩
      simp only [wr64s j (by omega), go_sem, ↓reduceIte, Nat.reduceEqDiff, Nat.reduceBEq, Nat.reduceAdd, Nat.reduceLeDiff, Nat.reduceLT, reduceCtorEq, Nat.reduceMul, Nat.reduceSub, Int.reduceEq, Int.reduceLT, Int.reduceLE, Int.reduceToNat]
  · have q : j = l.length := by simp at q; omega
    subst q
    rw [List.drop_length, fidx] at hj3
    simp only [hj3, go_sem, ↓reduceIte, Nat.reduceEqDiff, Nat.reduceBEq, Nat.reduceAdd, Nat.reduceLeDiff, Nat.reduceLT, reduceCtorEq, Nat.reduceMul, Nat.reduceSub, Int.reduceEq, Int.reduceLT, Int.reduceLE, Int.reduceToNat]
def lgC : List Cel → Int → Int
  | [], n => n
  | c :: r, n => if n ≤ 600 then lgC r (IntKind.i64.wrap (n + szV c.v)) else n
def lgI : List Itm → Int → Int
  | [], n => n
  | x :: r, n => lgI r (lgC x.l (IntKind.i64.wrap (n + x.l.length)))
/-- A large dataset. -/
def lgD (d : Dat) : Bool := decide (60 < (d.i.length : Int)) || decide (60 < (d.w.length : Int)) || decide (600 < lgI d.i 0)
theorem large_ok (d : Dat) (hd : d.Fit) (hp : CH) (m : Nat) : MeetsF Try.prog 14 hp m [dx d] (.b (lgD d)) := by
  have h1 := hd.li
  obtain ⟨R, hR⟩ : ∃ R, lgD d = R := ⟨_, rfl⟩
  have e := hR
  rw [lgD] at e
  rw [hR]
  obtain ⟨N, hN⟩ : ∃ N, lgI d.i 0 = N := ⟨_, rfl⟩
  rw [hN] at e
  refine meetsF Try.func14 (by kernel_rfl) cc14 cr14 rfl fun hf => ?_; unfold ck14
  simp only [go_sem, ↓reduceIte, Nat.reduceEqDiff, Nat.reduceBEq, Nat.reduceAdd, Nat.reduceLeDiff, Nat.reduceLT, reduceCtorEq, Nat.reduceMul, Nat.reduceSub, Int.reduceEq, Int.reduceLT, Int.reduceLE, Int.reduceToNat]
  refine cdK_of (fun c => ?_) (fun c => ?_)
  · rw [c, Bool.true_or] at e
    subst e
    simp only [go_sem, ↓reduceIte, Nat.reduceEqDiff, Nat.reduceBEq, Nat.reduceAdd, Nat.reduceLeDiff, Nat.reduceLT, reduceCtorEq, Nat.reduceMul, Nat.reduceSub, Int.reduceEq, Int.reduceLT, Int.reduceLE, Int.reduceToNat]
  rw [c, Bool.false_or] at e
  subst e
  simp only [go_sem, ↓reduceIte, Nat.reduceEqDiff, Nat.reduceBEq, Nat.reduceAdd, Nat.reduceLeDiff, Nat.reduceLT, reduceCtorEq, Nat.reduceMul, Nat.reduceSub, Int.reduceEq, Int.reduceLT, Int.reduceLE, Int.reduceToNat]
  refine loop (fun p : Nat × Int × Nat => ⟨[(1, .bx m 0), (3, .i .i64 p.2.1), (4, .i .i64 p.1)], (m, .bx [.ds (mapC itC d.i), .ds (mapC wrC d.w)]) :: hp, p.2.2⟩)
    (fun p => p.1 ≤ d.i.length ∧ m + 1 ≤ p.2.2 ∧ N = lgI (d.i.drop p.1) p.2.1) (fun p => d.i.length - p.1) (0, 0, m + 1) ?_ ?_ (fun ⟨j, a, n⟩ hj => ?_)
  · exact ⟨by simp, by simp, hN.symm⟩
  · refine weak_ok ?_ (Sub.refl _) (Nat.le_refl _)
    simp only [go_sem, ↓reduceIte, Nat.reduceEqDiff, Nat.reduceBEq, Nat.reduceAdd, Nat.reduceLeDiff, Nat.reduceLT, reduceCtorEq, Nat.reduceMul, Nat.reduceSub, Int.reduceEq, Int.reduceLT, Int.reduceLE, Int.reduceToNat]
  dsimp only at hj
  obtain ⟨hj1, hj2, hj3⟩ := hj
  have z1 : ¬ n = m := by omega
  have z2 : m ≤ n := by omega
  simp only [z1, z2, go_sem, ↓reduceIte, Nat.reduceEqDiff, Nat.reduceBEq, Nat.reduceAdd, Nat.reduceLeDiff, Nat.reduceLT, reduceCtorEq, Nat.reduceMul, Nat.reduceSub, Int.reduceEq, Int.reduceLT, Int.reduceLE, Int.reduceToNat]
  refine cdK_of (fun q => ?_) (fun q => ?_)
  · have q : j < d.i.length := by simpa using q
    obtain ⟨x, ex⟩ : ∃ x, d.i[j]? = some x := ⟨d.i[j], by simp [q]⟩
    have hx := List.mem_of_getElem? ex
    have hl := hd.ll hx
    rw [drop_at ex, lgI] at hj3
    obtain ⟨C, hC⟩ : ∃ C, lgC x.l (IntKind.i64.wrap (a + x.l.length)) = C := ⟨_, rfl⟩
    rw [hC] at hj3
    simp only [z1, z2, q, getK_s (mapC_get itC ex), go_sem, ↓reduceIte, Nat.reduceEqDiff, Nat.reduceBEq, Nat.reduceAdd, Nat.reduceLeDiff, Nat.reduceLT, reduceCtorEq, Nat.reduceMul, Nat.reduceSub, Int.reduceEq, Int.reduceLT, Int.reduceLE, Int.reduceToNat]
    refine loop (fun p : Nat × Int × Nat => ⟨[(1, .bx m 0), (3, .i .i64 p.2.1), (4, .i .i64 j), (5, .i .i64 p.1)], (m, .bx [.ds (mapC itC d.i), .ds (mapC wrC d.w)]) :: hp, p.2.2⟩)
      (fun p => p.1 ≤ x.l.length ∧ m + 1 ≤ p.2.2 ∧ C = lgC (x.l.drop p.1) p.2.1) (fun p => x.l.length - p.1) (0, IntKind.i64.wrap (a + x.l.length), n) ?_ ?_ (fun ⟨i, b, n⟩ hi => ?_)
    · exact ⟨by simp, hj2, hC.symm⟩
    · refine weak_ok ?_ (Sub.refl _) (Nat.le_refl _)
      simp only [z1, z2, go_sem, ↓reduceIte, Nat.reduceEqDiff, Nat.reduceBEq, Nat.reduceAdd, Nat.reduceLeDiff, Nat.reduceLT, reduceCtorEq, Nat.reduceMul, Nat.reduceSub, Int.reduceEq, Int.reduceLT, Int.reduceLE, Int.reduceToNat]
    dsimp only at hi
    obtain ⟨hi1, hi2, hi3⟩ := hi
    have z1 : ¬ n = m := by omega
    have z2 : m ≤ n := by omega
    simp only [z1, z2, q, getK_s (mapC_get itC ex), go_sem, ↓reduceIte, Nat.reduceEqDiff, Nat.reduceBEq, Nat.reduceAdd, Nat.reduceLeDiff, Nat.reduceLT, reduceCtorEq, Nat.reduceMul, Nat.reduceSub, Int.reduceEq, Int.reduceLT, Int.reduceLE, Int.reduceToNat]
    refine cdK_of (fun p => ?_) (fun p => ?_)
    · simp only [Bool.and_eq_true, decide_eq_true_eq] at p
      obtain ⟨p1, p2⟩ := p
      have p1 : i < x.l.length := by omega
      obtain ⟨y, ey⟩ : ∃ y, x.l[i]? = some y := ⟨x.l[i], by simp [p1]⟩
      have hy := List.mem_of_getElem? ey
      rw [drop_at ey, lgC, if_pos p2] at hi3
      simp only [z1, z2, q, p1, getK_s (mapC_get itC ex), getK_s (mapC_get celC ey), go_sem, ↓reduceIte, Nat.reduceEqDiff, Nat.reduceBEq, Nat.reduceAdd, Nat.reduceLeDiff, Nat.reduceLT, reduceCtorEq, Nat.reduceMul, Nat.reduceSub, Int.reduceEq, Int.reduceLT, Int.reduceLE, Int.reduceToNat]
      refine vcCall.f (size_ok y.v (hd.c hx hy) _ _) ?_
      simp only [z1, z2, go_sem, ↓reduceIte, Nat.reduceEqDiff, Nat.reduceBEq, Nat.reduceAdd, Nat.reduceLeDiff, Nat.reduceLT, reduceCtorEq, Nat.reduceMul, Nat.reduceSub, Int.reduceEq, Int.reduceLT, Int.reduceLE, Int.reduceToNat]
      refine ⟨(i + 1, IntKind.i64.wrap (b + szV y.v), _), ⟨by dsimp only; omega, by dsimp only; omega, hi3⟩, by dsimp only; omega, weak_ok ?_ (Sub.refl _) (Nat.le_refl _)⟩
      simp only [z1, z2, wr64s i (by omega), go_sem, ↓reduceIte, Nat.reduceEqDiff, Nat.reduceBEq, Nat.reduceAdd, Nat.reduceLeDiff, Nat.reduceLT, reduceCtorEq, Nat.reduceMul, Nat.reduceSub, Int.reduceEq, Int.reduceLT, Int.reduceLE, Int.reduceToNat]
    · have e2 : C = b := by
        simp only [Bool.and_eq_false_iff, decide_eq_false_iff_not] at p
        rw [hi3]
        rcases Nat.lt_or_ge i x.l.length with p1 | p1
        · obtain ⟨y, ey⟩ : ∃ y, x.l[i]? = some y := ⟨x.l[i], by simp [p1]⟩
          rw [drop_at ey, lgC, if_neg (by omega)]
        · rw [List.drop_eq_nil_of_le p1, lgC]
      rw [e2] at hj3
      simp only [z1, z2, go_sem, ↓reduceIte, Nat.reduceEqDiff, Nat.reduceBEq, Nat.reduceAdd, Nat.reduceLeDiff, Nat.reduceLT, reduceCtorEq, Nat.reduceMul, Nat.reduceSub, Int.reduceEq, Int.reduceLT, Int.reduceLE, Int.reduceToNat]
      refine ⟨(j + 1, b, _), ⟨by dsimp only; omega, by dsimp only; omega, hj3⟩, by dsimp only; omega, weak_ok ?_ (Sub.refl _) (Nat.le_refl _)⟩
      simp only [z1, z2, wr64s j (by omega), go_sem, ↓reduceIte, Nat.reduceEqDiff, Nat.reduceBEq, Nat.reduceAdd, Nat.reduceLeDiff, Nat.reduceLT, reduceCtorEq, Nat.reduceMul, Nat.reduceSub, Int.reduceEq, Int.reduceLT, Int.reduceLE, Int.reduceToNat]
  · have q : j = d.i.length := by simp at q; omega
    subst q
    rw [List.drop_length, lgI] at hj3
    subst hj3
    simp only [z1, z2, go_sem, ↓reduceIte, Nat.reduceEqDiff, Nat.reduceBEq, Nat.reduceAdd, Nat.reduceLeDiff, Nat.reduceLT, reduceCtorEq, Nat.reduceMul, Nat.reduceSub, Int.reduceEq, Int.reduceLT, Int.reduceLE, Int.reduceToNat]
end Go.Proofs.Ythiifoleopdieaa
