/-
  The parts MxA of the proof, in one file. Conditions: none.
-/
import Derived.Test.YtdodiembhgjecaaMc28
namespace Go.Proofs.Ytdodiembhgjecaa
open Go.Eng
set_option linter.unusedVariables false
set_option linter.unusedSimpArgs false
set_option maxRecDepth 20000
theorem ite_ne {α : Type} {k j : Nat} (h : ¬ k = j) (a b : α) : (if k = j then a else b) = b := if_neg h
inductive Msg where
  | mk (id : Int) (b : ByteArray)
deriving DecidableEq
def Msg.id : Msg → Int | .mk id _ => id
theorem Msg.id_mk (id : Int) (b : ByteArray) : (Msg.mk id b).id = id := rfl
def Msg.b : Msg → ByteArray | .mk _ b => b
theorem Msg.b_mk (id : Int) (b : ByteArray) : (Msg.mk id b).b = b := rfl
theorem Msg.ext {x y : Msg} (h0 : x.id = y.id) (h1 : x.b = y.b) : x = y := by cases x; cases y; simp only [Msg.id_mk, Msg.b_mk] at *; simp [*]
def mgC (x : Msg) : List AV := [.i .i64 x.id, .s x.b]
attribute [go_sem] mgC Msg.id_mk Msg.b_mk
attribute [grind =] Msg.id_mk Msg.b_mk
attribute [ext] Msg.ext
attribute [grind ext] Msg.ext
theorem up_ws2 {m c d : Nat} {X Y : Chunk} {hp a : CH} (hcd : c ≠ d) (h1 : gc a c = X) (h2 : gc a d = Y) (h3 : ∀ j, j < m → j ≠ c → j ≠ d → gc a j = gc hp j) : Up m ((c, X) :: (d, Y) :: hp) a := fun j hj => by
  by_cases e1 : c = j
  · subst e1
    rw [gc_same]
    exact h1
  rw [gc_ne _ _ e1]
  by_cases e2 : d = j
  · subst e2
    rw [gc_same]
    exact h2
  rw [gc_ne _ _ e2]
  exact h3 j hj (fun e => e1 e.symm) (fun e => e2 e.symm)
/-- A frame that only acknowledges, or asks. -/
def akF (k a : Int) : Frm := .mk k 0 0 a ⟨#[]⟩
theorem bx_lt' {hp : CH} {m c : Nat} {cs : List AV} (hf : ∀ k, m ≤ k → gc hp k = .no) (h : gc hp c = .bx cs) : c < m := by
  rcases Nat.lt_or_ge c m with q | q
  · exact q
  · rw [hf c q] at h; cases h
theorem chk_rng {f : Frm} (h : chk f = 0) : 0 ≤ f.s ∧ f.s ≤ 4294967295 := by
  unfold chk at h
  split at h
  · cases h
  split at h
  · cases h
  rename_i hw
  simp only [Bool.or_eq_true, not_or] at hw
  have := hw.1.2
  unfold wide at this
  simp at this
  omega
/-- The client after a frame: the answer, the error, the last number. -/
def clA (last : Int) (f : Frm) : List Frm :=
  if chk f ≠ 0 then [] else if f.k = 8 then [] else if ¬ (f.k = 5 ∨ f.k = 6 ∨ f.k = 7) then [] else if f.s ≤ last then [] else if f.s ≠ last + 1 then [akF 1 last] else [akF 4 f.s]
def clE (last : Int) (f : Frm) : Int :=
  if chk f ≠ 0 then 3 else if f.k = 8 then 0 else if ¬ (f.k = 5 ∨ f.k = 6 ∨ f.k = 7) then 9 else if f.s ≤ last then 0 else if f.s ≠ last + 1 then 13 else 0
def clT (last : Int) (f : Frm) : Bool := decide (chk f = 0) && (decide (f.k = 5 ∨ f.k = 6 ∨ f.k = 7) && decide (f.s = last + 1))
def clL (last : Int) (f : Frm) : Int := if clT last f = true then f.s else last
def clS (last : Int) (f : Frm) : Bool := clT last f && decide (f.k = 5)
theorem mOpen_ok (b : Bool) (last : Int) (α : AV) (c : Nat) (hp : CH) (hc : gc hp c = .bx [.b b, .i .i64 last, α]) (m : Nat) : MeetsF Try.prog 26 hp m [.bx c 0] (Frm.av (if b = true then akF 1 last else akF 0 0)) := by
  refine meetsF Try.func26 (by kernel_rfl) cc26 cr26 rfl fun hf => ?_; unfold ck26
  have hlt := bx_lt' hf hc
  cases b
  · simp (disch := omega) only [ite_ne, hc, go_sem, ↓reduceIte, Nat.reduceEqDiff, Nat.reduceBEq, Nat.reduceAdd, Nat.reduceLeDiff, Nat.reduceLT, reduceCtorEq, Nat.reduceMul, Nat.reduceSub, Int.reduceEq, Int.reduceLT, Int.reduceLE, Int.reduceToNat]
    try rfl
  · simp (disch := omega) only [ite_ne, hc, go_sem, ↓reduceIte, Nat.reduceEqDiff, Nat.reduceBEq, Nat.reduceAdd, Nat.reduceLeDiff, Nat.reduceLT, reduceCtorEq, Nat.reduceMul, Nat.reduceSub, Int.reduceEq, Int.reduceLT, Int.reduceLE, Int.reduceToNat]
    try rfl
end Go.Proofs.Ytdodiembhgjecaa
