/-
  The parts DaC of the proof, in one file. Conditions: none.
-/
import Derived.Test.YtjalbhlahfgogaaQws35
namespace Go.Proofs.Ytjalbhlahfgogaa
open Go.Eng
set_option linter.unusedVariables false
set_option linter.unusedSimpArgs false
set_option maxRecDepth 20000
theorem root1_ok (x : Itm) (name : ByteArray) (c : Nat) (hp : CH) (m : Nat) (hc : gc hp c = .bx [.s name]) : MeetsF Try.prog 40 hp m [ix' x, .bx c 0] (.b (decide (x.t = name))) := by
  refine meetsF Try.func40 (by kernel_rfl) cc40 cr40 rfl fun hf => ?_; unfold ck40
  have hlt := bx_lt hf hc
  have z1 : ¬ c = m := by omega
  have z2 : ¬ m = c := by omega
  simp only [z1, z2, hc, go_sem, ↓reduceIte, Nat.reduceEqDiff, Nat.reduceBEq, Nat.reduceAdd, Nat.reduceLeDiff, Nat.reduceLT, reduceCtorEq, Nat.reduceMul, Nat.reduceSub, Int.reduceEq, Int.reduceLT, Int.reduceLE, Int.reduceToNat]
theorem dRoot_ok (d : Dat) (hd : d.Fit) (name : ByteArray) (hp : CH) (m : Nat) : MeetsF Try.prog 14 hp m [dx d, .s name] (resI (fidx (fun x : Itm => decide (x.t = name)) d.i 0)) := by
  have h1 := hd.li
  obtain ⟨R, hR⟩ : ∃ R, fidx (fun x : Itm => decide (x.t = name)) d.i 0 = R := ⟨_, rfl⟩
  have hfi := first_itm d.i (fun x : Itm => decide (x.t = name)) 40 [.bx (m + 1) 0] (by omega)
  rw [hR] at hfi ⊢
  refine meetsF Try.func14 (by kernel_rfl) cc14 cr14 rfl fun hf => ?_; unfold ck14
  simp only [go_sem, ↓reduceIte, Nat.reduceEqDiff, Nat.reduceBEq, Nat.reduceAdd, Nat.reduceLeDiff, Nat.reduceLT, reduceCtorEq, Nat.reduceMul, Nat.reduceSub, Int.reduceEq, Int.reduceLT, Int.reduceLE, Int.reduceToNat]
  refine vcCall.f (hfi _ _ fun x hx hp' n hn he => root1_ok x name (m + 1) hp' n ((he (m + 1) (by omega)).trans (by simp only [go_sem, ↓reduceIte, Nat.reduceEqDiff, Nat.reduceBEq, Nat.reduceAdd, Nat.reduceLeDiff, Nat.reduceLT, reduceCtorEq, Nat.reduceMul, Nat.reduceSub, Int.reduceEq, Int.reduceLT, Int.reduceLE, Int.reduceToNat]))) ?_
  simp only [go_sem, ↓reduceIte, Nat.reduceEqDiff, Nat.reduceBEq, Nat.reduceAdd, Nat.reduceLeDiff, Nat.reduceLT, reduceCtorEq, Nat.reduceMul, Nat.reduceSub, Int.reduceEq, Int.reduceLT, Int.reduceLE, Int.reduceToNat]
/-- Where a cell with a field and arguments is, or -1. -/
def atI (f a : ByteArray) (l : List Cel) : Int := fidx (fun c : Cel => decide (c.f = f) && decide (c.a = a)) l 0
theorem fidx_lt {α : Type} (q : α → Bool) : ∀ (l : List α) (j : Nat), fidx q l j = -1 ∨ ((j : Int) ≤ fidx q l j ∧ fidx q l j < (j + l.length : Nat))
  | [], j => .inl rfl
  | x :: r, j => by
    rw [fidx]
    split
    · right; simp; omega
    · have := fidx_lt q r (j + 1)
      simp at this ⊢
      omega
theorem lookup1_ok (x : Cel) (f a : ByteArray) (c1 c2 : Nat) (hp : CH) (m : Nat) (hc1 : gc hp c1 = .bx [.s f]) (hc2 : gc hp c2 = .bx [.s a]) : MeetsF Try.prog 43 hp m [cx x, .bx c1 0, .bx c2 0] (.b (decide (x.f = f) && decide (x.a = a))) := by
  refine meetsF Try.func43 (by kernel_rfl) cc43 cr43 rfl fun hf => ?_; unfold ck43
  have hlt := bx_lt hf hc1
  have hlt2 := bx_lt hf hc2
  have z1 : ¬ c1 = m := by omega
  have z2 : ¬ m = c1 := by omega
  have z3 : ¬ c2 = m := by omega
  have z4 : ¬ m = c2 := by omega
  simp only [z1, z2, z3, z4, hc1, hc2, go_sem, ↓reduceIte, Nat.reduceEqDiff, Nat.reduceBEq, Nat.reduceAdd, Nat.reduceLeDiff, Nat.reduceLT, reduceCtorEq, Nat.reduceMul, Nat.reduceSub, Int.reduceEq, Int.reduceLT, Int.reduceLE, Int.reduceToNat]
/-- The value of the cell at a place. -/
def cellV (l : List Cel) (i : Int) : Val := if 0 ≤ i then (match l[i.toNat]? with | some c => c.v | none => zVal) else zVal
def lookX (l : List Cel) (f a : ByteArray) : Val := if 0 ≤ atI f a l then cellV l (atI f a l) else cellV l (atI f ⟨#[]⟩ l)
def lookV (d : Dat) (i : Int) (f a : ByteArray) : Val := if i < 0 ∨ (d.i.length : Int) ≤ i then zVal else (match d.i[i.toNat]? with | some x => lookX x.l f a | none => zVal)
theorem at_cell {l : List Cel} {f a : ByteArray} (h : 0 ≤ atI f a l) : ∃ (j : Nat) (c : Cel), atI f a l = j ∧ l[j]? = some c ∧ cellV l (atI f a l) = c.v := by
  have h2 := fidx_lt (fun c : Cel => decide (c.f = f) && decide (c.a = a)) l 0
  have h3 : atI f a l < l.length := by unfold atI at h ⊢; simp at h2; omega
  refine ⟨(atI f a l).toNat, l[(atI f a l).toNat]'(by omega), by omega, by simp, ?_⟩
  rw [cellV, if_pos h]
  have : l[(atI f a l).toNat]? = some (l[(atI f a l).toNat]'(by omega)) := by simp
  rw [this]
theorem dLookup_ok (d : Dat) (hd : d.Fit) (i : Int) (f a : ByteArray) (hp : CH) (m : Nat) : MeetsF Try.prog 17 hp m [dx d, .i .i64 i, .s f, .s a] (vx (lookV d i f a)) := by
  have h1 := hd.li
  obtain ⟨R, hR⟩ : ∃ R, lookV d i f a = R := ⟨_, rfl⟩
  have e := hR
  rw [lookV] at e
  rw [hR]
  refine meetsF Try.func17 (by kernel_rfl) cc17 cr17 rfl fun hf => ?_; unfold ck17
  simp only [go_sem, ↓reduceIte, Nat.reduceEqDiff, Nat.reduceBEq, Nat.reduceAdd, Nat.reduceLeDiff, Nat.reduceLT, reduceCtorEq, Nat.reduceMul, Nat.reduceSub, Int.reduceEq, Int.reduceLT, Int.reduceLE, Int.reduceToNat]
  refine cdK_of (fun c => ?_) (fun c => ?_)
  · have c : i < 0 ∨ (d.i.length : Int) ≤ i := by simpa using c
    rw [if_pos c] at e
    subst e
    simp only [go_sem, ↓reduceIte, Nat.reduceEqDiff, Nat.reduceBEq, Nat.reduceAdd, Nat.reduceLeDiff, Nat.reduceLT, reduceCtorEq, Nat.reduceMul, Nat.reduceSub, Int.reduceEq, Int.reduceLT, Int.reduceLE, Int.reduceToNat]
    try rfl
  have c : ¬ (i < 0 ∨ (d.i.length : Int) ≤ i) := by simpa using c
  rw [if_neg c] at e
  obtain ⟨j, rfl⟩ : ∃ j : Nat, i = j := ⟨i.toNat, by omega⟩
  have q : j < d.i.length := by omega
  obtain ⟨x, ex⟩ : ∃ x, d.i[j]? = some x := ⟨d.i[j], by simp [q]⟩
  have hl := hd.ll (List.mem_of_getElem? ex)
  have hcf := fun c hc => hd.c (List.mem_of_getElem? ex) (c := c) hc
  simp only [Int.toNat_natCast, ex] at e
  simp only [q, getK_s (mapC_get itC ex), go_sem, ↓reduceIte, Nat.reduceEqDiff, Nat.reduceBEq, Nat.reduceAdd, Nat.reduceLeDiff, Nat.reduceLT, reduceCtorEq, Nat.reduceMul, Nat.reduceSub, Int.reduceEq, Int.reduceLT, Int.reduceLE, Int.reduceToNat]
  refine loop (fun p : Nat × Nat => ⟨[(6, .bx (m + 1) 0), (8, .bx (m + 2) 0), (9, .ds (mapC celC x.l)), (31, .ag [.s a, .s ⟨#[]⟩]), (32, .i .i64 p.1)],
      (m + 2, .bx [.i .i64 0, .i .i64 0, .s ⟨#[]⟩, .e0, .e0]) :: (m + 1, .bx [.s f]) :: (m, .bx [.ds (mapC itC d.i), .ds (mapC wrC d.w)]) :: hp, p.2⟩)
    (fun p => p.1 ≤ 2 ∧ m + 3 ≤ p.2 ∧ (1 ≤ p.1 → ¬ 0 ≤ atI f a x.l) ∧ (2 ≤ p.1 → ¬ 0 ≤ atI f ⟨#[]⟩ x.l)) (fun p => 2 - p.1) (0, m + 3) ?_ ?_ (fun ⟨k, n⟩ hj => ?_)
  · exact ⟨by simp, by simp, by simp, by simp⟩
  · refine weak_ok ?_ (Sub.refl _) (Nat.le_refl _)
    simp only [go_sem, ↓reduceIte, Nat.reduceEqDiff, Nat.reduceBEq, Nat.reduceAdd, Nat.reduceLeDiff, Nat.reduceLT, reduceCtorEq, Nat.reduceMul, Nat.reduceSub, Int.reduceEq, Int.reduceLT, Int.reduceLE, Int.reduceToNat]
  dsimp only at hj
  obtain ⟨hj1, hj2, hj3, hj4⟩ := hj
  have z1 : ¬ n = m := by omega
  have z2 : ¬ n = m + 1 := by omega
  have z3 : ¬ n = m + 2 := by omega
  have z4 : m ≤ n := by omega
  have z5 : ¬ m + 1 = n := by omega
  have z6 : ¬ m + 2 = n := by omega
  have w1 : IntKind.i64.wrap (0 + 1) = 1 := by decide
  have w2 : IntKind.i64.wrap (1 + 1) = 2 := by decide
  simp only [z1, z2, z3, z4, z5, z6, go_sem, ↓reduceIte, Nat.reduceEqDiff, Nat.reduceBEq, Nat.reduceAdd, Nat.reduceLeDiff, Nat.reduceLT, reduceCtorEq, Nat.reduceMul, Nat.reduceSub, Int.reduceEq, Int.reduceLT, Int.reduceLE, Int.reduceToNat]
  refine cdK_of (fun p => ?_) (fun p => ?_)
  · have p : k < 2 := by simp at p; omega
    have hk : k = 0 ∨ k = 1 := by omega
    rcases hk with hk | hk
    · subst hk
      have hl0 : 0 ≤ atI f a x.l → lookX x.l f a = cellV x.l (atI f a x.l) := fun h => by rw [lookX, if_pos h]
      have hfi := first_cel x.l (fun c : Cel => decide (c.f = f) && decide (c.a = a)) 43 [.bx (m + 1) 0, .bx n 0] (by omega)
      rw [show fidx (fun c : Cel => decide (c.f = f) && decide (c.a = a)) x.l 0 = atI f a x.l from rfl] at hfi
      simp only [z1, z2, z3, z4, z5, z6, go_sem, ↓reduceIte, Nat.reduceEqDiff, Nat.reduceBEq, Nat.reduceAdd, Nat.reduceLeDiff, Nat.reduceLT, reduceCtorEq, Nat.reduceMul, Nat.reduceSub, Int.reduceEq, Int.reduceLT, Int.reduceLE, Int.reduceToNat]
      refine vcCall.f (hfi _ _ fun y hy hp' n' hn he => lookup1_ok y f a (m + 1) n hp' n' ((he (m + 1) (by omega)).trans (by simp only [z1, z2, z3, z4, z5, z6, go_sem, ↓reduceIte, Nat.reduceEqDiff, Nat.reduceAdd, reduceCtorEq])) ((he n (by omega)).trans (by simp only [z1, z2, z3, z4, z5, z6, go_sem, ↓reduceIte, Nat.reduceEqDiff, Nat.reduceAdd, reduceCtorEq]))) ?_
      simp only [z1, z2, z3, z4, z5, z6, go_sem, ↓reduceIte, Nat.reduceEqDiff, Nat.reduceBEq, Nat.reduceAdd, Nat.reduceLeDiff, Nat.reduceLT, reduceCtorEq, Nat.reduceMul, Nat.reduceSub, Int.reduceEq, Int.reduceLT, Int.reduceLE, Int.reduceToNat]
      refine cdK_of (fun c1 => ?_) (fun c1 => ?_)
      · have c1 : 0 ≤ atI f a x.l := by simpa using c1
        obtain ⟨b, y, e1, ey, e2⟩ := at_cell c1
        have hb : b < x.l.length := (List.getElem?_eq_some_iff.1 ey).1
        rw [hl0 c1, e2] at e
        rw [e1]
        simp only [z1, z2, z3, z4, z5, z6, hb, getK_s (mapC_get celC ey), go_sem, ↓reduceIte, Nat.reduceEqDiff, Nat.reduceBEq, Nat.reduceAdd, Nat.reduceLeDiff, Nat.reduceLT, reduceCtorEq, Nat.reduceMul, Nat.reduceSub, Int.reduceEq, Int.reduceLT, Int.reduceLE, Int.reduceToNat]
        refine vcCall.f (copy_ok y.v (hcf y (List.mem_of_getElem? ey)) _ _) ?_
        simp only [z1, z2, z3, z4, z5, z6, go_sem, ↓reduceIte, Nat.reduceEqDiff, Nat.reduceBEq, Nat.reduceAdd, Nat.reduceLeDiff, Nat.reduceLT, reduceCtorEq, Nat.reduceMul, Nat.reduceSub, Int.reduceEq, Int.reduceLT, Int.reduceLE, Int.reduceToNat]
        rw [e]
      · have c1 : ¬ 0 ≤ atI f a x.l := by simpa using c1
        simp only [z1, z2, z3, z4, z5, z6, go_sem, ↓reduceIte, Nat.reduceEqDiff, Nat.reduceBEq, Nat.reduceAdd, Nat.reduceLeDiff, Nat.reduceLT, reduceCtorEq, Nat.reduceMul, Nat.reduceSub, Int.reduceEq, Int.reduceLT, Int.reduceLE, Int.reduceToNat]
        refine ⟨(1, _), ⟨by dsimp only; omega, by dsimp only; omega, fun _ => c1, fun h => absurd h (by simp)⟩, by dsimp only; omega, weak_ok ?_ (Sub.cons ?_ (Sub.cons ?_ (Sub.cons ?_ (Sub.base hf ?_)))) (Nat.le_refl _)⟩
        all_goals
          simp only [z1, z2, z3, z4, z5, z6, w1, w2, go_sem, ↓reduceIte, Nat.reduceEqDiff, Nat.reduceBEq, Nat.reduceAdd, Nat.reduceLeDiff, Nat.reduceLT, reduceCtorEq, Nat.reduceMul, Nat.reduceSub, Int.reduceEq, Int.reduceLT, Int.reduceLE, Int.reduceToNat]
    · subst hk
      have hl0 : 0 ≤ atI f ⟨#[]⟩ x.l → lookX x.l f a = cellV x.l (atI f ⟨#[]⟩ x.l) := fun _ => by rw [lookX, if_neg (hj3 (by simp))]
      have hfi := first_cel x.l (fun c : Cel => decide (c.f = f) && decide (c.a = ⟨#[]⟩)) 43 [.bx (m + 1) 0, .bx n 0] (by omega)
      rw [show fidx (fun c : Cel => decide (c.f = f) && decide (c.a = ⟨#[]⟩)) x.l 0 = atI f ⟨#[]⟩ x.l from rfl] at hfi
      simp only [z1, z2, z3, z4, z5, z6, go_sem, ↓reduceIte, Nat.reduceEqDiff, Nat.reduceBEq, Nat.reduceAdd, Nat.reduceLeDiff, Nat.reduceLT, reduceCtorEq, Nat.reduceMul, Nat.reduceSub, Int.reduceEq, Int.reduceLT, Int.reduceLE, Int.reduceToNat]
      refine vcCall.f (hfi _ _ fun y hy hp' n' hn he => lookup1_ok y f ⟨#[]⟩ (m + 1) n hp' n' ((he (m + 1) (by omega)).trans (by simp only [z1, z2, z3, z4, z5, z6, go_sem, ↓reduceIte, Nat.reduceEqDiff, Nat.reduceAdd, reduceCtorEq])) ((he n (by omega)).trans (by simp only [z1, z2, z3, z4, z5, z6, go_sem, ↓reduceIte, Nat.reduceEqDiff, Nat.reduceAdd, reduceCtorEq]))) ?_
      simp only [z1, z2, z3, z4, z5, z6, go_sem, ↓reduceIte, Nat.reduceEqDiff, Nat.reduceBEq, Nat.reduceAdd, Nat.reduceLeDiff, Nat.reduceLT, reduceCtorEq, Nat.reduceMul, Nat.reduceSub, Int.reduceEq, Int.reduceLT, Int.reduceLE, Int.reduceToNat]
      refine cdK_of (fun c1 => ?_) (fun c1 => ?_)
      · have c1 : 0 ≤ atI f ⟨#[]⟩ x.l := by simpa using c1
        obtain ⟨b, y, e1, ey, e2⟩ := at_cell c1
        have hb : b < x.l.length := (List.getElem?_eq_some_iff.1 ey).1
        rw [hl0 c1, e2] at e
        rw [e1]
        simp only [z1, z2, z3, z4, z5, z6, hb, getK_s (mapC_get celC ey), go_sem, ↓reduceIte, Nat.reduceEqDiff, Nat.reduceBEq, Nat.reduceAdd, Nat.reduceLeDiff, Nat.reduceLT, reduceCtorEq, Nat.reduceMul, Nat.reduceSub, Int.reduceEq, Int.reduceLT, Int.reduceLE, Int.reduceToNat]
        refine vcCall.f (copy_ok y.v (hcf y (List.mem_of_getElem? ey)) _ _) ?_
        simp only [z1, z2, z3, z4, z5, z6, go_sem, ↓reduceIte, Nat.reduceEqDiff, Nat.reduceBEq, Nat.reduceAdd, Nat.reduceLeDiff, Nat.reduceLT, reduceCtorEq, Nat.reduceMul, Nat.reduceSub, Int.reduceEq, Int.reduceLT, Int.reduceLE, Int.reduceToNat]
        rw [e]
      · have c1 : ¬ 0 ≤ atI f ⟨#[]⟩ x.l := by simpa using c1
        simp only [z1, z2, z3, z4, z5, z6, go_sem, ↓reduceIte, Nat.reduceEqDiff, Nat.reduceBEq, Nat.reduceAdd, Nat.reduceLeDiff, Nat.reduceLT, reduceCtorEq, Nat.reduceMul, Nat.reduceSub, Int.reduceEq, Int.reduceLT, Int.reduceLE, Int.reduceToNat]
        refine ⟨(2, _), ⟨by dsimp only; omega, by dsimp only; omega, fun _ => hj3 (by simp), fun _ => c1⟩, by dsimp only; omega, weak_ok ?_ (Sub.cons ?_ (Sub.cons ?_ (Sub.cons ?_ (Sub.base hf ?_)))) (Nat.le_refl _)⟩
        all_goals
          simp only [z1, z2, z3, z4, z5, z6, w1, w2, go_sem, ↓reduceIte, Nat.reduceEqDiff, Nat.reduceBEq, Nat.reduceAdd, Nat.reduceLeDiff, Nat.reduceLT, reduceCtorEq, Nat.reduceMul, Nat.reduceSub, Int.reduceEq, Int.reduceLT, Int.reduceLE, Int.reduceToNat]
  · have p : k = 2 := by simp at p; omega
    subst p
    have h3 := hj3 (by simp)
    have h4 := hj4 (by simp)
    rw [lookX, if_neg h3, cellV, if_neg h4] at e
    subst e
    simp only [z1, z2, z3, z4, z5, z6, go_sem, ↓reduceIte, Nat.reduceEqDiff, Nat.reduceBEq, Nat.reduceAdd, Nat.reduceLeDiff, Nat.reduceLT, reduceCtorEq, Nat.reduceMul, Nat.reduceSub, Int.reduceEq, Int.reduceLT, Int.reduceLE, Int.reduceToNat]
    try rfl
theorem at_ok (l : List Cel) (hl : l.length ≤ 1256584718000) (f a : ByteArray) (hp : CH) (m : Nat) : MeetsF Try.prog 45 hp m [.ds (mapC celC l), .s f, .s a] (.i .i64 (atI f a l)) := by
  obtain ⟨R, hR⟩ : ∃ R, atI f a l = R := ⟨_, rfl⟩
  rw [hR]
  refine meetsF Try.func45 (by kernel_rfl) cc45 cr45 rfl fun hf => ?_; unfold ck45
  simp only [go_sem, ↓reduceIte, Nat.reduceEqDiff, Nat.reduceBEq, Nat.reduceAdd, Nat.reduceLeDiff, Nat.reduceLT, reduceCtorEq, Nat.reduceMul, Nat.reduceSub, Int.reduceEq, Int.reduceLT, Int.reduceLE, Int.reduceToNat]
  refine loop (fun p : Nat × Nat => ⟨[(0, .ds (mapC celC l)), (1, .s f), (2, .s a), (7, .i .i64 p.1)], hp, p.2⟩)
    (fun p => p.1 ≤ l.length ∧ m ≤ p.2 ∧ R = fidx (fun c : Cel => decide (c.f = f) && decide (c.a = a)) (l.drop p.1) p.1) (fun p => l.length - p.1) (0, m) ?_ ?_ (fun ⟨j, n⟩ hj => ?_)
  · exact ⟨by simp, by simp, hR.symm⟩
  · refine weak_ok ?_ (Sub.refl _) (Nat.le_refl _)
    simp only [go_sem, ↓reduceIte, Nat.reduceEqDiff, Nat.reduceBEq, Nat.reduceAdd, Nat.reduceLeDiff, Nat.reduceLT, reduceCtorEq, Nat.reduceMul, Nat.reduceSub, Int.reduceEq, Int.reduceLT, Int.reduceLE, Int.reduceToNat]
  dsimp only at hj
  obtain ⟨hj1, hj2, hj3⟩ := hj
  simp only [go_sem, ↓reduceIte, Nat.reduceEqDiff, Nat.reduceBEq, Nat.reduceAdd, Nat.reduceLeDiff, Nat.reduceLT, reduceCtorEq, Nat.reduceMul, Nat.reduceSub, Int.reduceEq, Int.reduceLT, Int.reduceLE, Int.reduceToNat]
  refine cdK_of (fun q => ?_) (fun q => ?_)
  · have q : j < l.length := by simpa using q
    obtain ⟨x, ex⟩ : ∃ x, l[j]? = some x := ⟨l[j], by simp [q]⟩
    rw [drop_at ex, fidx] at hj3
    simp only [q, getK_s (mapC_get celC ex), go_sem, ↓reduceIte, Nat.reduceEqDiff, Nat.reduceBEq, Nat.reduceAdd, Nat.reduceLeDiff, Nat.reduceLT, reduceCtorEq, Nat.reduceMul, Nat.reduceSub, Int.reduceEq, Int.reduceLT, Int.reduceLE, Int.reduceToNat]
    refine grK_of (fun g => ?_) (fun g => ?_)
    · rw [g, Bool.true_and] at hj3
      simp only [q, g, getK_s (mapC_get celC ex), go_sem, ↓reduceIte, Nat.reduceEqDiff, Nat.reduceBEq, Nat.reduceAdd, Nat.reduceLeDiff, Nat.reduceLT, reduceCtorEq, Nat.reduceMul, Nat.reduceSub, Int.reduceEq, Int.reduceLT, Int.reduceLE, Int.reduceToNat]
      refine cdK_of (fun g2 => ?_) (fun g2 => ?_)
      · rw [if_pos g2] at hj3
        subst hj3
        simp only [go_sem, ↓reduceIte, Nat.reduceEqDiff, Nat.reduceBEq, Nat.reduceAdd, Nat.reduceLeDiff, Nat.reduceLT, reduceCtorEq, Nat.reduceMul, Nat.reduceSub, Int.reduceEq, Int.reduceLT, Int.reduceLE, Int.reduceToNat]
      · rw [if_neg (by simp [g2])] at hj3
        simp only [go_sem, ↓reduceIte, Nat.reduceEqDiff, Nat.reduceBEq, Nat.reduceAdd, Nat.reduceLeDiff, Nat.reduceLT, reduceCtorEq, Nat.reduceMul, Nat.reduceSub, Int.reduceEq, Int.reduceLT, Int.reduceLE, Int.reduceToNat]
        refine ⟨(j + 1, _), ⟨by dsimp only; omega, by dsimp only; omega, hj3⟩, by dsimp only; omega, weak_ok ?_ (Sub.refl _) (Nat.le_refl _)⟩
        simp only [wr64s j (by omega), go_sem, ↓reduceIte, Nat.reduceEqDiff, Nat.reduceBEq, Nat.reduceAdd, Nat.reduceLeDiff, Nat.reduceLT, reduceCtorEq, Nat.reduceMul, Nat.reduceSub, Int.reduceEq, Int.reduceLT, Int.reduceLE, Int.reduceToNat]
    · rw [g, Bool.false_and, if_neg (by simp)] at hj3
      simp only [q, g, go_sem, ↓reduceIte, Nat.reduceEqDiff, Nat.reduceBEq, Nat.reduceAdd, Nat.reduceLeDiff, Nat.reduceLT, reduceCtorEq, Nat.reduceMul, Nat.reduceSub, Int.reduceEq, Int.reduceLT, Int.reduceLE, Int.reduceToNat]
      refine ⟨(j + 1, _), ⟨by dsimp only; omega, by dsimp only; omega, hj3⟩, by dsimp only; omega, weak_ok ?_ (Sub.refl _) (Nat.le_refl _)⟩
      simp only [wr64s j (by omega), go_sem, ↓reduceIte, Nat.reduceEqDiff, Nat.reduceBEq, Nat.reduceAdd, Nat.reduceLeDiff, Nat.reduceLT, reduceCtorEq, Nat.reduceMul, Nat.reduceSub, Int.reduceEq, Int.reduceLT, Int.reduceLE, Int.reduceToNat]
  · have q : j = l.length := by simp at q; omega
    subst q
    rw [List.drop_length, fidx] at hj3
    simp only [hj3, go_sem, ↓reduceIte, Nat.reduceEqDiff, Nat.reduceBEq, Nat.reduceAdd, Nat.reduceLeDiff, Nat.reduceLT, reduceCtorEq, Nat.reduceMul, Nat.reduceSub, Int.reduceEq, Int.reduceLT, Int.reduceLE, Int.reduceToNat]
def lgC : List Cel → Int → Int
  | [], n => n
  | c :: r, n => if n ≤ 600 then lgC r (IntKind.i64.wrap (n + szV c.v)) else n
def lgI : List Itm → Int → Int
  | [], n => n
  | x :: r, n => lgI r (lgC x.l (IntKind.i64.wrap (n + x.l.length)))
/-- A large dataset. -/
def lgD (d : Dat) : Bool := decide (60 < (d.i.length : Int)) || decide (60 < (d.w.length : Int)) || decide (600 < lgI d.i 0)
theorem large_ok (d : Dat) (hd : d.Fit) (hp : CH) (m : Nat) : MeetsF Try.prog 10 hp m [dx d] (.b (lgD d)) := by
  have h1 := hd.li
  obtain ⟨R, hR⟩ : ∃ R, lgD d = R := ⟨_, rfl⟩
  have e := hR
  rw [lgD] at e
  rw [hR]
  obtain ⟨N, hN⟩ : ∃ N, lgI d.i 0 = N := ⟨_, rfl⟩
  rw [hN] at e
  refine meetsF Try.func10 (by kernel_rfl) cc10 cr10 rfl fun hf => ?_; unfold ck10
  simp only [go_sem, ↓reduceIte, Nat.reduceEqDiff, Nat.reduceBEq, Nat.reduceAdd, Nat.reduceLeDiff, Nat.reduceLT, reduceCtorEq, Nat.reduceMul, Nat.reduceSub, Int.reduceEq, Int.reduceLT, Int.reduceLE, Int.reduceToNat]
  refine cdK_of (fun c => ?_) (fun c => ?_)
  · rw [c, Bool.true_or] at e
    subst e
    simp only [go_sem, ↓reduceIte, Nat.reduceEqDiff, Nat.reduceBEq, Nat.reduceAdd, Nat.reduceLeDiff, Nat.reduceLT, reduceCtorEq, Nat.reduceMul, Nat.reduceSub, Int.reduceEq, Int.reduceLT, Int.reduceLE, Int.reduceToNat]
  rw [c, Bool.false_or] at e
  subst e
  simp only [go_sem, ↓reduceIte, Nat.reduceEqDiff, Nat.reduceBEq, Nat.reduceAdd, Nat.reduceLeDiff, Nat.reduceLT, reduceCtorEq, Nat.reduceMul, Nat.reduceSub, Int.reduceEq, Int.reduceLT, Int.reduceLE, Int.reduceToNat]
  refine loop (fun p : Nat × Int × Nat => ⟨[(1, .bx m 0), (3, .i .i64 p.2.1), (4, .i .i64 p.1)], (m, .bx [.ds (mapC itC d.i), .ds (mapC wrC d.w)]) :: hp, p.2.2⟩)
    (fun p => p.1 ≤ d.i.length ∧ m + 1 ≤ p.2.2 ∧ N = lgI (d.i.drop p.1) p.2.1) (fun p => d.i.length - p.1) (0, 0, m + 1) ?_ ?_ (fun ⟨j, a, n⟩ hj => ?_)
  · exact ⟨by simp, by simp, hN.symm⟩
  · refine weak_ok ?_ (Sub.refl _) (Nat.le_refl _)
    simp only [go_sem, ↓reduceIte, Nat.reduceEqDiff, Nat.reduceBEq, Nat.reduceAdd, Nat.reduceLeDiff, Nat.reduceLT, reduceCtorEq, Nat.reduceMul, Nat.reduceSub, Int.reduceEq, Int.reduceLT, Int.reduceLE, Int.reduceToNat]
  dsimp only at hj
  obtain ⟨hj1, hj2, hj3⟩ := hj
  have z1 : ¬ n = m := by omega
  have z2 : m ≤ n := by omega
  simp only [z1, z2, go_sem, ↓reduceIte, Nat.reduceEqDiff, Nat.reduceBEq, Nat.reduceAdd, Nat.reduceLeDiff, Nat.reduceLT, reduceCtorEq, Nat.reduceMul, Nat.reduceSub, Int.reduceEq, Int.reduceLT, Int.reduceLE, Int.reduceToNat]
  refine cdK_of (fun q => ?_) (fun q => ?_)
  · have q : j < d.i.length := by simpa using q
    obtain ⟨x, ex⟩ : ∃ x, d.i[j]? = some x := ⟨d.i[j], by simp [q]⟩
    have hx := List.mem_of_getElem? ex
    have hl := hd.ll hx
    rw [drop_at ex, lgI] at hj3
    obtain ⟨C, hC⟩ : ∃ C, lgC x.l (IntKind.i64.wrap (a + x.l.length)) = C := ⟨_, rfl⟩
    rw [hC] at hj3
    simp only [z1, z2, q, getK_s (mapC_get itC ex), go_sem, ↓reduceIte, Nat.reduceEqDiff, Nat.reduceBEq, Nat.reduceAdd, Nat.reduceLeDiff, Nat.reduceLT, reduceCtorEq, Nat.reduceMul, Nat.reduceSub, Int.reduceEq, Int.reduceLT, Int.reduceLE, Int.reduceToNat]
    refine loop (fun p : Nat × Int × Nat => ⟨[(1, .bx m 0), (3, .i .i64 p.2.1), (4, .i .i64 j), (5, .i .i64 p.1)], (m, .bx [.ds (mapC itC d.i), .ds (mapC wrC d.w)]) :: hp, p.2.2⟩)
      (fun p => p.1 ≤ x.l.length ∧ m + 1 ≤ p.2.2 ∧ C = lgC (x.l.drop p.1) p.2.1) (fun p => x.l.length - p.1) (0, IntKind.i64.wrap (a + x.l.length), n) ?_ ?_ (fun ⟨i, b, n⟩ hi => ?_)
    · exact ⟨by simp, hj2, hC.symm⟩
    · refine weak_ok ?_ (Sub.refl _) (Nat.le_refl _)
      simp only [z1, z2, go_sem, ↓reduceIte, Nat.reduceEqDiff, Nat.reduceBEq, Nat.reduceAdd, Nat.reduceLeDiff, Nat.reduceLT, reduceCtorEq, Nat.reduceMul, Nat.reduceSub, Int.reduceEq, Int.reduceLT, Int.reduceLE, Int.reduceToNat]
    dsimp only at hi
    obtain ⟨hi1, hi2, hi3⟩ := hi
    have z1 : ¬ n = m := by omega
    have z2 : m ≤ n := by omega
    simp only [z1, z2, q, getK_s (mapC_get itC ex), go_sem, ↓reduceIte, Nat.reduceEqDiff, Nat.reduceBEq, Nat.reduceAdd, Nat.reduceLeDiff, Nat.reduceLT, reduceCtorEq, Nat.reduceMul, Nat.reduceSub, Int.reduceEq, Int.reduceLT, Int.reduceLE, Int.reduceToNat]
    refine cdK_of (fun p => ?_) (fun p => ?_)
    · simp only [Bool.and_eq_true, decide_eq_true_eq] at p
      obtain ⟨p1, p2⟩ := p
      have p1 : i < x.l.length := by omega
      obtain ⟨y, ey⟩ : ∃ y, x.l[i]? = some y := ⟨x.l[i], by simp [p1]⟩
      have hy := List.mem_of_getElem? ey
      rw [drop_at ey, lgC, if_pos p2] at hi3
      simp only [z1, z2, q, p1, getK_s (mapC_get itC ex), getK_s (mapC_get celC ey), go_sem, ↓reduceIte, Nat.reduceEqDiff, Nat.reduceBEq, Nat.reduceAdd, Nat.reduceLeDiff, Nat.reduceLT, reduceCtorEq, Nat.reduceMul, Nat.reduceSub, Int.reduceEq, Int.reduceLT, Int.reduceLE, Int.reduceToNat]
      refine vcCall.f (size_ok y.v (hd.c hx hy) _ _) ?_
      simp only [z1, z2, go_sem, ↓reduceIte, Nat.reduceEqDiff, Nat.reduceBEq, Nat.reduceAdd, Nat.reduceLeDiff, Nat.reduceLT, reduceCtorEq, Nat.reduceMul, Nat.reduceSub, Int.reduceEq, Int.reduceLT, Int.reduceLE, Int.reduceToNat]
      refine ⟨(i + 1, IntKind.i64.wrap (b + szV y.v), _), ⟨by dsimp only; omega, by dsimp only; omega, hi3⟩, by dsimp only; omega, weak_ok ?_ (Sub.refl _) (Nat.le_refl _)⟩
      simp only [z1, z2, wr64s i (by omega), go_sem, ↓reduceIte, Nat.reduceEqDiff, Nat.reduceBEq, Nat.reduceAdd, Nat.reduceLeDiff, Nat.reduceLT, reduceCtorEq, Nat.reduceMul, Nat.reduceSub, Int.reduceEq, Int.reduceLT, Int.reduceLE, Int.reduceToNat]
    · have e2 : C = b := by
        simp only [Bool.and_eq_false_iff, decide_eq_false_iff_not] at p
        rw [hi3]
        rcases Nat.lt_or_ge i x.l.length with p1 | p1
        · obtain ⟨y, ey⟩ : ∃ y, x.l[i]? = some y := ⟨x.l[i], by simp [p1]⟩
          rw [drop_at ey, lgC, if_neg (by omega)]
        · rw [List.drop_eq_nil_of_le p1, lgC]
      rw [e2] at hj3
      simp only [z1, z2, go_sem, ↓reduceIte, Nat.reduceEqDiff, Nat.reduceBEq, Nat.reduceAdd, Nat.reduceLeDiff, Nat.reduceLT, reduceCtorEq, Nat.reduceMul, Nat.reduceSub, Int.reduceEq, Int.reduceLT, Int.reduceLE, Int.reduceToNat]
      refine ⟨(j + 1, b, _), ⟨by dsimp only; omega, by dsimp only; omega, hj3⟩, by dsimp only; omega, weak_ok ?_ (Sub.refl _) (Nat.le_refl _)⟩
      simp only [z1, z2, wr64s j (by omega), go_sem, ↓reduceIte, Nat.reduceEqDiff, Nat.reduceBEq, Nat.reduceAdd, Nat.reduceLeDiff, Nat.reduceLT, reduceCtorEq, Nat.reduceMul, Nat.reduceSub, Int.reduceEq, Int.reduceLT, Int.reduceLE, Int.reduceToNat]
  · have q : j = d.i.length := by simp at q; omega
    subst q
    rw [List.drop_length, lgI] at hj3
    subst hj3
    simp only [z1, z2, go_sem, ↓reduceIte, Nat.reduceEqDiff, Nat.reduceBEq, Nat.reduceAdd, Nat.reduceLeDiff, Nat.reduceLT, reduceCtorEq, Nat.reduceMul, Nat.reduceSub, Int.reduceEq, Int.reduceLT, Int.reduceLE, Int.reduceToNat]
end Go.Proofs.Ytjalbhlahfgogaa
