/-
  The parts VaD VaE VaF VaH VaI VaJ of the proof, in one file. Conditions: none.
-/
import Derived.Test.YtgollgfifnmaaaaDoorCmP427
namespace Go.Proofs.YtgollgfifnmaaaaDoor
open Go.Eng
set_option linter.unusedVariables false
set_option linter.unusedSimpArgs false
set_option maxRecDepth 20000
mutual
def szV : Val → Int
  | .mk _ _ _ i _ => szL i 1
def szL : List Val → Int → Int
  | [], n => n
  | x :: r, n => szL r (IntKind.i64.wrap (n + szV x))
end
def ci (a b : Int) : Int := if a < b then -1 else if b < a then 1 else 0
def cs (a b : ByteArray) : Int := if Op.bytesLess a.toList b.toList = true then -1 else if (!(Op.bytesLess a.toList b.toList || decide (a = b))) = true then 1 else 0
end Go.Proofs.YtgollgfifnmaaaaDoor
namespace Go.Proofs.YtgollgfifnmaaaaDoor
open Go.Eng
set_option linter.unusedVariables false
set_option linter.unusedSimpArgs false
set_option maxRecDepth 20000
theorem copies_r (l : List Val) (hl : l.length * 80 ≤ 140737488355327) (h : ∀ x ∈ l, ∀ hp m, MeetsF Tryd.prog 45 hp m [vx x] (vx x)) (hp : CH) (m : Nat) :
    MeetsX Tryd.prog 65 hp m [.ds (mapC valC l)] ((m, .rw 0 5 (mapC valC l)) :: hp) (m + 1) (.rw m 0 l.length) := by
  refine meetsOut (outs := [(5, mapC valC l)]) Tryd.func65 (by kernel_rfl) cc65 cr65 rfl fun hf => ?_; unfold ck65
  simp only [go_sem, ↓reduceIte, Nat.reduceEqDiff, Nat.reduceBEq, Nat.reduceAdd, Nat.reduceLeDiff, Nat.reduceLT, reduceCtorEq, Nat.reduceMul, Nat.reduceSub, Int.reduceEq, Int.reduceLT, Int.reduceLE, Int.reduceToNat]
  refine loop (fun p : Nat × Nat => ⟨[(3, .rw m p.1 p.1), (6, .ds (mapC valC l)), (7, .i .i64 l.length), (8, .i .i64 p.1)], (m, .rw p.1 5 (mapC valC (l.take p.1))) :: hp, p.2⟩) (fun p => p.1 ≤ l.length ∧ m + 1 ≤ p.2) (fun p => l.length - p.1) (0, m + 1) ?_ ?_ (fun ⟨j, n⟩ hj => ?_)
  · grind
  · refine (weak_e0 (t := 3) (m := 5) ?_).trans (weak_ok ?_ (Sub.cons ?_ (Sub.base hf ?_)) (Nat.le_refl _))
    all_goals simp only [go_sem, ↓reduceIte, Nat.reduceEqDiff, Nat.reduceBEq, Nat.reduceAdd, Nat.reduceLeDiff, Nat.reduceLT, reduceCtorEq, Nat.reduceMul, Nat.reduceSub, Int.reduceEq, Int.reduceLT, Int.reduceLE, Int.reduceToNat]
  dsimp only at hj
  have hne : n ≠ m := by omega
  have hne' : m ≠ n := by omega
  have hmn : m ≤ n := by omega
  simp only [hne, hne', hmn, go_sem, ↓reduceIte, Nat.reduceEqDiff, Nat.reduceBEq, Nat.reduceAdd, Nat.reduceLeDiff, Nat.reduceLT, reduceCtorEq, Nat.reduceMul, Nat.reduceSub, Int.reduceEq, Int.reduceLT, Int.reduceLE, Int.reduceToNat]
  refine cdK_of (fun c => ?_) (fun c => ?_)
  · have c : j < l.length := by simpa using c
    obtain ⟨x, ex⟩ : ∃ x, l[j]? = some x := ⟨l[j], by simp [c]⟩
    have hx := h x (List.mem_of_getElem? ex)
    have ht : (l.take j).length = j := by simp; omega
    simp only [hne, hne', hmn, c, getK_s (mapC_get valC ex), go_sem, ↓reduceIte, Nat.reduceEqDiff, Nat.reduceBEq, Nat.reduceAdd, Nat.reduceLeDiff, Nat.reduceLT, reduceCtorEq, Nat.reduceMul, Nat.reduceSub, Int.reduceEq, Int.reduceLT, Int.reduceLE, Int.reduceToNat]
    refine vcCall.f (hx _ _) ?_
    simp only [hne, hne', hmn, ht, go_sem, ↓reduceIte, Nat.reduceEqDiff, Nat.reduceBEq, Nat.reduceAdd, Nat.reduceLeDiff, Nat.reduceLT, reduceCtorEq, Nat.reduceMul, Nat.reduceSub, Int.reduceEq, Int.reduceLT, Int.reduceLE, Int.reduceToNat]
    refine ⟨by omega, by omega, (j + 1, n + 1), by dsimp only; omega, by dsimp only; omega, weak_ok ?_ (Sub.cons ?_ (Sub.base hf ?_)) (Nat.le_refl _)⟩
    all_goals
      simp only [hmn, go_sem, ↓reduceIte, Nat.reduceEqDiff, Nat.reduceBEq, Nat.reduceAdd, Nat.reduceLeDiff, Nat.reduceLT, reduceCtorEq, Nat.reduceMul, Nat.reduceSub, Int.reduceEq, Int.reduceLT, Int.reduceLE, Int.reduceToNat]
    · exact congrArg _ (wr64s j (by omega))
    · rw [take_snoc ex]
  · have c : j = l.length := by simp at c; omega
    subst c
    simp only [hne, hne', hmn, go_sem, ↓reduceIte, Nat.reduceEqDiff, Nat.reduceBEq, Nat.reduceAdd, Nat.reduceLeDiff, Nat.reduceLT, reduceCtorEq, Nat.reduceMul, Nat.reduceSub, Int.reduceEq, Int.reduceLT, Int.reduceLE, Int.reduceToNat]
abbrev vr (v : Val) (m : Nat) : AV := .ag [.i .i64 v.k, .i .i64 v.n, .s v.s, .rw m 0 v.items.length, .rw (m + 1) 0 v.keys.length]
theorem rcopies_r (l : List Val) (hl : l.length * 80 ≤ 140737488355327) (h : ∀ x ∈ l, ∀ hp m, MeetsF Tryd.prog 26 hp m [vx x] (vx x)) (hp : CH) (m : Nat) :
    MeetsX Tryd.prog 54 hp m [.ds (mapC valC l)] ((m, .rw 0 5 (mapC valC l)) :: hp) (m + 1) (.rw m 0 l.length) := by
  refine meetsOut (outs := [(5, mapC valC l)]) Tryd.func54 (by kernel_rfl) cc54 cr54 rfl fun hf => ?_; unfold ck54
  simp only [go_sem, ↓reduceIte, Nat.reduceEqDiff, Nat.reduceBEq, Nat.reduceAdd, Nat.reduceLeDiff, Nat.reduceLT, reduceCtorEq, Nat.reduceMul, Nat.reduceSub, Int.reduceEq, Int.reduceLT, Int.reduceLE, Int.reduceToNat]
  refine loop (fun p : Nat × Nat => ⟨[(3, .rw m p.1 p.1), (0, .ds (mapC valC l)), (4, .i .i64 p.1)], (m, .rw p.1 5 (mapC valC (l.take p.1))) :: hp, p.2⟩) (fun p => p.1 ≤ l.length ∧ m + 1 ≤ p.2) (fun p => l.length - p.1) (0, m + 1) ?_ ?_ (fun ⟨j, n⟩ hj => ?_)
  · grind
  · refine (weak_e0 (t := 3) (m := 5) ?_).trans (weak_ok ?_ (Sub.cons ?_ (Sub.base hf ?_)) (Nat.le_refl _))
    all_goals simp only [go_sem, ↓reduceIte, Nat.reduceEqDiff, Nat.reduceBEq, Nat.reduceAdd, Nat.reduceLeDiff, Nat.reduceLT, reduceCtorEq, Nat.reduceMul, Nat.reduceSub, Int.reduceEq, Int.reduceLT, Int.reduceLE, Int.reduceToNat]
  dsimp only at hj
  have hne : n ≠ m := by omega
  have hne' : m ≠ n := by omega
  have hmn : m ≤ n := by omega
  simp only [hne, hne', hmn, go_sem, ↓reduceIte, Nat.reduceEqDiff, Nat.reduceBEq, Nat.reduceAdd, Nat.reduceLeDiff, Nat.reduceLT, reduceCtorEq, Nat.reduceMul, Nat.reduceSub, Int.reduceEq, Int.reduceLT, Int.reduceLE, Int.reduceToNat]
  refine cdK_of (fun c => ?_) (fun c => ?_)
  · have c : j < l.length := by simpa using c
    obtain ⟨x, ex⟩ : ∃ x, l[j]? = some x := ⟨l[j], by simp [c]⟩
    have hx := h x (List.mem_of_getElem? ex)
    have ht : (l.take j).length = j := by simp; omega
    simp only [hne, hne', hmn, c, getK_s (mapC_get valC ex), go_sem, ↓reduceIte, Nat.reduceEqDiff, Nat.reduceBEq, Nat.reduceAdd, Nat.reduceLeDiff, Nat.reduceLT, reduceCtorEq, Nat.reduceMul, Nat.reduceSub, Int.reduceEq, Int.reduceLT, Int.reduceLE, Int.reduceToNat]
    refine vcCall.f (hx _ _) ?_
    simp only [hne, hne', hmn, ht, go_sem, ↓reduceIte, Nat.reduceEqDiff, Nat.reduceBEq, Nat.reduceAdd, Nat.reduceLeDiff, Nat.reduceLT, reduceCtorEq, Nat.reduceMul, Nat.reduceSub, Int.reduceEq, Int.reduceLT, Int.reduceLE, Int.reduceToNat]
    refine ⟨by omega, by omega, (j + 1, n), by dsimp only; omega, by dsimp only; omega, weak_ok ?_ (Sub.cons ?_ (Sub.base hf ?_)) (Nat.le_refl _)⟩
    all_goals
      simp only [hmn, go_sem, ↓reduceIte, Nat.reduceEqDiff, Nat.reduceBEq, Nat.reduceAdd, Nat.reduceLeDiff, Nat.reduceLT, reduceCtorEq, Nat.reduceMul, Nat.reduceSub, Int.reduceEq, Int.reduceLT, Int.reduceLE, Int.reduceToNat]
    · exact congrArg _ (wr64s j (by omega))
    · rw [take_snoc ex]
  · have c : j = l.length := by simp at c; omega
    subst c
    simp only [hne, hne', hmn, go_sem, ↓reduceIte, Nat.reduceEqDiff, Nat.reduceBEq, Nat.reduceAdd, Nat.reduceLeDiff, Nat.reduceLT, reduceCtorEq, Nat.reduceMul, Nat.reduceSub, Int.reduceEq, Int.reduceLT, Int.reduceLE, Int.reduceToNat]
theorem rcopy_r (v : Val) (hv : v.Fit) (hp : CH) (m : Nat) : MeetsX Tryd.prog 26 hp m [vx v] ((m, .rw 0 5 (mapC valC v.items)) :: (m + 1, .rw 0 1 (stC v.keys)) :: hp) (m + 2) (vr v m) := by
  have h1 := fun hp m => rcopies_r v.items hv.i (fun x hx => rcopy_ok x (hv.x hx)) hp m
  have h2 := hv.l
  refine meetsOut (outs := [(5, mapC valC v.items), (1, stC v.keys)]) Tryd.func26 (by kernel_rfl) cc26 cr26 rfl fun hf => ?_; unfold ck26
  simp only [go_sem, ↓reduceIte, Nat.reduceEqDiff, Nat.reduceBEq, Nat.reduceAdd, Nat.reduceLeDiff, Nat.reduceLT, reduceCtorEq, Nat.reduceMul, Nat.reduceSub, Int.reduceEq, Int.reduceLT, Int.reduceLE, Int.reduceToNat]
  refine dCallR.r (fun _ => h1 _ _) (by simp [mapC]) ?_
  simp only [go_sem, ↓reduceIte, Nat.reduceEqDiff, Nat.reduceBEq, Nat.reduceAdd, Nat.reduceLeDiff, Nat.reduceLT, reduceCtorEq, Nat.reduceMul, Nat.reduceSub, Int.reduceEq, Int.reduceLT, Int.reduceLE, Int.reduceToNat]
  omega
end Go.Proofs.YtgollgfifnmaaaaDoor
namespace Go.Proofs.YtgollgfifnmaaaaDoor
open Go.Eng
set_option linter.unusedVariables false
set_option linter.unusedSimpArgs false
set_option maxRecDepth 20000
def chL (c : Int) : Bool := decide (65 ≤ c) && decide (c ≤ 90) || decide (97 ≤ c) && decide (c ≤ 122) || decide (c = 95)
def chD (c : Int) : Bool := decide (48 ≤ c) && decide (c ≤ 57)
def nmL (l : List UInt8) : Bool := l.all fun c => chL c.toNat || chD c.toNat
theorem nmL_cons (x : UInt8) (l : List UInt8) : nmL (x :: l) = ((chL x.toNat || chD x.toNat) && nmL l) := rfl
/-- A name. -/
def nmS (s : ByteArray) : Bool := decide (0 < s.size) && decide (s.size ≤ 64) && !chD ((bs s).getD 0 0).toNat && nmL (bs s)
theorem letter_ok (c : Int) (hp : CH) (m : Nat) : MeetsF Tryd.prog 87 hp m [.i .u8 c] (.b (chL c)) := by
  refine meetsF Tryd.func87 (by kernel_rfl) cc87 cr87 rfl fun hf => ?_; unfold ck87
  simp only [go_sem, ↓reduceIte, Nat.reduceEqDiff, Nat.reduceBEq, Nat.reduceAdd, Nat.reduceLeDiff, Nat.reduceLT, reduceCtorEq, Nat.reduceMul, Nat.reduceSub, Int.reduceEq, Int.reduceLT, Int.reduceLE, Int.reduceToNat]
  rfl
theorem digit_ok (c : Int) (hp : CH) (m : Nat) : MeetsF Tryd.prog 88 hp m [.i .u8 c] (.b (chD c)) := by
  refine meetsF Tryd.func88 (by kernel_rfl) cc88 cr88 rfl fun hf => ?_; unfold ck88
  simp only [go_sem, ↓reduceIte, Nat.reduceEqDiff, Nat.reduceBEq, Nat.reduceAdd, Nat.reduceLeDiff, Nat.reduceLT, reduceCtorEq, Nat.reduceMul, Nat.reduceSub, Int.reduceEq, Int.reduceLT, Int.reduceLE, Int.reduceToNat]
  rfl
theorem size_bs (s : ByteArray) : (bs s).length = s.size := bs_len s
theorem nb1 (a b c : Bool) (h : (!a && (c || !b)) = true) : (a || b && !c) = false := by cases a <;> cases b <;> cases c <;> simp_all
theorem nb3 (a b c : Bool) (h : ¬ (a = true ∧ b = true)) : (true && true && !b && ((a || b) && c)) = ((a || b && !decide (0 = 0)) && c) := by cases a <;> cases b <;> cases c <;> simp_all
theorem nb2 (a b c : Bool) (h : (!a && (c || !b)) = false) : (a || b && !c) = true := by cases a <;> cases b <;> cases c <;> simp_all
theorem Name2_ok (s : ByteArray) (hp : CH) (m : Nat) : MeetsF Tryd.prog 70 hp m [.s s] (.b (nmS s)) := by
  refine meetsF Tryd.func70 (by kernel_rfl) cc70 cr70 rfl fun hf => ?_; unfold ck70
  simp only [go_sem, ↓reduceIte, Nat.reduceEqDiff, Nat.reduceBEq, Nat.reduceAdd, Nat.reduceLeDiff, Nat.reduceLT, reduceCtorEq, Nat.reduceMul, Nat.reduceSub, Int.reduceEq, Int.reduceLT, Int.reduceLE, Int.reduceToNat]
  refine cdK_of (fun c => ?_) (fun c => ?_)
  · simp only [go_sem, ↓reduceIte, Nat.reduceEqDiff, Nat.reduceBEq, Nat.reduceAdd, Nat.reduceLeDiff, Nat.reduceLT, reduceCtorEq, Nat.reduceMul, Nat.reduceSub, Int.reduceEq, Int.reduceLT, Int.reduceLE, Int.reduceToNat]
    simp only [Bool.or_eq_true, decide_eq_true_eq] at c
    have : nmS s = false := by
      rw [Bool.eq_false_iff]
      intro h
      simp only [nmS, Bool.and_eq_true, decide_eq_true_eq] at h
      omega
    rw [this]
  simp only [Bool.or_eq_false_iff, decide_eq_false_iff_not] at c
  obtain ⟨c1, c2⟩ := c
  simp only [go_sem, ↓reduceIte, Nat.reduceEqDiff, Nat.reduceBEq, Nat.reduceAdd, Nat.reduceLeDiff, Nat.reduceLT, reduceCtorEq, Nat.reduceMul, Nat.reduceSub, Int.reduceEq, Int.reduceLT, Int.reduceLE, Int.reduceToNat]
  refine loop (fun p : Nat × Nat => ⟨[(0, .s s), (3, .i .i64 p.1)], hp, p.2⟩) (fun p => p.1 ≤ s.size ∧ (0 < p.1 → nmS s = nmL ((bs s).drop p.1))) (fun p => s.size - p.1) (0, m) ?_ ?_ (fun ⟨j, n⟩ hj => ?_)
  · exact ⟨by simp, fun h => absurd h (by simp)⟩
  · refine weak_ok ?_ (Sub.refl _) (Nat.le_refl _)
    simp only [go_sem, ↓reduceIte, Nat.reduceEqDiff, Nat.reduceBEq, Nat.reduceAdd, Nat.reduceLeDiff, Nat.reduceLT, reduceCtorEq, Nat.reduceMul, Nat.reduceSub, Int.reduceEq, Int.reduceLT, Int.reduceLE, Int.reduceToNat]
  dsimp only at hj
  obtain ⟨hj1, hj2⟩ := hj
  simp only [go_sem, ↓reduceIte, Nat.reduceEqDiff, Nat.reduceBEq, Nat.reduceAdd, Nat.reduceLeDiff, Nat.reduceLT, reduceCtorEq, Nat.reduceMul, Nat.reduceSub, Int.reduceEq, Int.reduceLT, Int.reduceLE, Int.reduceToNat]
  refine cdK_of (fun d => ?_) (fun d => ?_)
  · have d : j < s.size := by simpa using d
    obtain ⟨x, ex⟩ : ∃ x, (bs s)[j]? = some x := ⟨(bs s)[j]'(by rw [size_bs]; exact d), by simp [size_bs, d]⟩
    have eg : (bs s).getD j 0 = x := by rw [List.getD, ex]; rfl
    have e2 : nmS s = ((chL x.toNat || chD x.toNat && !decide (j = 0)) && nmL ((bs s).drop (j + 1))) := by
      rcases Nat.eq_zero_or_pos j with h0 | h0
      · subst h0
        rw [nmS, eg]
        have hb := drop_at ex
        rw [List.drop_zero] at hb
        rw [hb, nmL_cons]
        have h64 : s.size ≤ 64 := by omega
        have hh : ¬ (chL x.toNat = true ∧ chD x.toNat = true) := by simp only [chL, chD, Bool.or_eq_true, Bool.and_eq_true, decide_eq_true_eq]; omega
        rw [decide_eq_true d, decide_eq_true h64]
        exact nb3 _ _ _ hh
      · rw [hj2 h0, drop_at ex, nmL_cons]
        have : ¬ j = 0 := by omega
        simp [this]
    simp only [d, eg, go_sem, ↓reduceIte, Nat.reduceEqDiff, Nat.reduceBEq, Nat.reduceAdd, Nat.reduceLeDiff, Nat.reduceLT, reduceCtorEq, Nat.reduceMul, Nat.reduceSub, Int.reduceEq, Int.reduceLT, Int.reduceLE, Int.reduceToNat]
    refine vcCall.f (letter_ok _ _ _) ?_
    simp only [go_sem, ↓reduceIte, Nat.reduceEqDiff, Nat.reduceBEq, Nat.reduceAdd, Nat.reduceLeDiff, Nat.reduceLT, reduceCtorEq, Nat.reduceMul, Nat.reduceSub, Int.reduceEq, Int.reduceLT, Int.reduceLE, Int.reduceToNat]
    refine ⟨fun _ => d, gCall.f (fun _ => digit_ok _ _ _) ?_⟩
    simp only [d, eg, go_sem, ↓reduceIte, Nat.reduceEqDiff, Nat.reduceBEq, Nat.reduceAdd, Nat.reduceLeDiff, Nat.reduceLT, reduceCtorEq, Nat.reduceMul, Nat.reduceSub, Int.reduceEq, Int.reduceLT, Int.reduceLE, Int.reduceToNat]
    refine cdK_of (fun q => ?_) (fun q => ?_)
    · have q : (chL x.toNat || chD x.toNat && !decide (j = 0)) = false := by
        have e3 : decide ((j : Int) = 0) = decide (j = 0) := by congr 1; simp
        rw [e3] at q
        exact nb1 _ _ _ q
      rw [e2, q, Bool.false_and]
      simp only [go_sem, ↓reduceIte, Nat.reduceEqDiff, Nat.reduceBEq, Nat.reduceAdd, Nat.reduceLeDiff, Nat.reduceLT, reduceCtorEq, Nat.reduceMul, Nat.reduceSub, Int.reduceEq, Int.reduceLT, Int.reduceLE, Int.reduceToNat]
    · have q : (chL x.toNat || chD x.toNat && !decide (j = 0)) = true := by
        have e3 : decide ((j : Int) = 0) = decide (j = 0) := by congr 1; simp
        rw [e3] at q
        exact nb2 _ _ _ q
      rw [q, Bool.true_and] at e2
      simp only [go_sem, ↓reduceIte, Nat.reduceEqDiff, Nat.reduceBEq, Nat.reduceAdd, Nat.reduceLeDiff, Nat.reduceLT, reduceCtorEq, Nat.reduceMul, Nat.reduceSub, Int.reduceEq, Int.reduceLT, Int.reduceLE, Int.reduceToNat]
      refine ⟨(j + 1, n), ⟨by dsimp only; omega, fun _ => e2⟩, by dsimp only; omega, weak_ok ?_ (Sub.refl _) (Nat.le_refl _)⟩
      simp only [wr64s j (by omega), go_sem, ↓reduceIte, Nat.reduceEqDiff, Nat.reduceBEq, Nat.reduceAdd, Nat.reduceLeDiff, Nat.reduceLT, reduceCtorEq, Nat.reduceMul, Nat.reduceSub, Int.reduceEq, Int.reduceLT, Int.reduceLE, Int.reduceToNat]
  · have d : j = s.size := by simp at d; omega
    have hj2 := hj2 (by omega)
    rw [d, ← size_bs, List.drop_length] at hj2
    rw [hj2]
    simp only [go_sem, ↓reduceIte, Nat.reduceEqDiff, Nat.reduceBEq, Nat.reduceAdd, Nat.reduceLeDiff, Nat.reduceLT, reduceCtorEq, Nat.reduceMul, Nat.reduceSub, Int.reduceEq, Int.reduceLT, Int.reduceLE, Int.reduceToNat]
    rfl
end Go.Proofs.YtgollgfifnmaaaaDoor
namespace Go.Proofs.YtgollgfifnmaaaaDoor
open Go.Eng
set_option linter.unusedVariables false
set_option linter.unusedSimpArgs false
set_option maxRecDepth 20000
def fidx {α : Type} (q : α → Bool) : List α → Nat → Int
  | [], _ => -1
  | x :: r, j => if q x = true then j else fidx q r (j + 1)
theorem fidx_any {α : Type} (q : α → Bool) : ∀ (l : List α) (j : Nat), decide (0 ≤ fidx q l j) = l.any q
  | [], j => rfl
  | x :: r, j => by
    rw [fidx, List.any_cons]
    cases h : q x
    · rw [if_neg (by simp), fidx_any q r (j + 1), Bool.false_or]
    · rw [if_pos rfl]; simp
attribute [go_sem] st1
abbrev sx (s : ByteArray) : AV := .s s
/-- Whether a string occurs twice. -/
noncomputable def tw (l : List ByteArray) : Bool := !decide l.Nodup
end Go.Proofs.YtgollgfifnmaaaaDoor
namespace Go.Proofs.YtgollgfifnmaaaaDoor
open Go.Eng
set_option linter.unusedVariables false
set_option linter.unusedSimpArgs false
set_option maxRecDepth 20000
mutual
def dpV : Val → Int
  | .mk _ _ _ i _ => IntKind.i64.wrap (dpL i 0 + 1)
def dpL : List Val → Int → Int
  | [], n => n
  | x :: r, n => dpL r (if n < dpV x then dpV x else n)
end
/-- A node that is right apart from its items. -/
noncomputable def nodeV (v : Val) (lit : Bool) : Bool :=
  if v.k = 0 then decide (v.n = 0) && decide (v.s = ⟨#[]⟩) && decide ((v.items.length : Int) = 0) && decide ((v.keys.length : Int) = 0)
  else if v.k = 1 then (decide (v.n = 0) || decide (v.n = 1)) && decide (v.s = ⟨#[]⟩) && decide ((v.items.length : Int) = 0) && decide ((v.keys.length : Int) = 0)
  else if v.k = 2 then decide (v.s = ⟨#[]⟩) && decide ((v.items.length : Int) = 0) && decide ((v.keys.length : Int) = 0)
  else if v.k = 3 then decide (v.n = 0) && decide ((v.items.length : Int) = 0) && decide ((v.keys.length : Int) = 0)
  else if v.k = 4 then decide (v.n = 0) && decide ((v.items.length : Int) = 0) && decide ((v.keys.length : Int) = 0) && nmS v.s && !decide (v.s = ⟨#[116, 114, 117, 101]⟩) && !decide (v.s = ⟨#[102, 97, 108, 115, 101]⟩) && !decide (v.s = ⟨#[110, 117, 108, 108]⟩)
  else if v.k = 5 then decide (v.n = 0) && decide (v.s = ⟨#[]⟩) && decide ((v.keys.length : Int) = 0)
  else if v.k = 6 then decide (v.n = 0) && decide (v.s = ⟨#[]⟩) && decide ((v.keys.length : Int) = v.items.length) && !tw v.keys
  else if v.k = 7 then lit && decide (v.n = 0) && decide ((v.items.length : Int) = 0) && decide ((v.keys.length : Int) = 0) && nmS v.s
  else false
/-- A node with keys that are names, if it is a literal's. -/
noncomputable def nodeW (v : Val) (lit : Bool) : Bool := nodeV v lit && !(lit && v.keys.any fun k => !nmS k)
end Go.Proofs.YtgollgfifnmaaaaDoor
namespace Go.Proofs.YtgollgfifnmaaaaDoor
open Go.Eng
set_option linter.unusedVariables false
set_option linter.unusedSimpArgs false
set_option maxRecDepth 20000
mutual
noncomputable def evV (lit : Bool) : Val → Bool
  | .mk k n s i l => nodeW (.mk k n s i l) lit && evL lit i
noncomputable def evL (lit : Bool) : List Val → Bool
  | [] => true
  | x :: r => evV lit x && evL lit r
end
/-- A right value. -/
noncomputable def rightV (lit : Bool) (v : Val) : Bool := decide (szV v ≤ 4096) && decide (dpV v ≤ 24) && evV lit v
end Go.Proofs.YtgollgfifnmaaaaDoor
