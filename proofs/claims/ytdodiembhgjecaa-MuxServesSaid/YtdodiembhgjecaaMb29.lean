/-
  The parts MxA MxB of the proof, in one file. Conditions: none.
-/
import Derived.Test.YtdodiembhgjecaaMb28
namespace Go.Proofs.Ytdodiembhgjecaa
open Go.Eng
set_option linter.unusedVariables false
set_option linter.unusedSimpArgs false
set_option maxRecDepth 20000
theorem ite_ne {α : Type} {k j : Nat} (h : ¬ k = j) (a b : α) : (if k = j then a else b) = b := if_neg h
inductive Msg where
  | mk (id : Int) (b : ByteArray)
deriving DecidableEq
def Msg.id : Msg → Int | .mk id _ => id
theorem Msg.id_mk (id : Int) (b : ByteArray) : (Msg.mk id b).id = id := rfl
def Msg.b : Msg → ByteArray | .mk _ b => b
theorem Msg.b_mk (id : Int) (b : ByteArray) : (Msg.mk id b).b = b := rfl
theorem Msg.ext {x y : Msg} (h0 : x.id = y.id) (h1 : x.b = y.b) : x = y := by cases x; cases y; simp only [Msg.id_mk, Msg.b_mk] at *; simp [*]
attribute [go_sem] Msg.id_mk Msg.b_mk
attribute [grind =] Msg.id_mk Msg.b_mk
attribute [ext] Msg.ext
attribute [grind ext] Msg.ext
theorem up_ws2 {m c d : Nat} {X Y : Chunk} {hp a : CH} (hcd : c ≠ d) (h1 : gc a c = X) (h2 : gc a d = Y) (h3 : ∀ j, j < m → j ≠ c → j ≠ d → gc a j = gc hp j) : Up m ((c, X) :: (d, Y) :: hp) a := fun j hj => by
  by_cases e1 : c = j
  · subst e1
    rw [gc_same]
    exact h1
  rw [gc_ne _ _ e1]
  by_cases e2 : d = j
  · subst e2
    rw [gc_same]
    exact h2
  rw [gc_ne _ _ e2]
  exact h3 j hj (fun e => e1 e.symm) (fun e => e2 e.symm)
theorem bx_lt' {hp : CH} {m c : Nat} {cs : List AV} (hf : ∀ k, m ≤ k → gc hp k = .no) (h : gc hp c = .bx cs) : c < m := by
  rcases Nat.lt_or_ge c m with q | q
  · exact q
  · rw [hf c q] at h; cases h
end Go.Proofs.Ytdodiembhgjecaa
namespace Go.Proofs.Ytdodiembhgjecaa
open Go.Eng
set_option linter.unusedVariables false
set_option linter.unusedSimpArgs false
set_option maxRecDepth 20000
set_option maxHeartbeats 1000000
theorem kOk_of {f : Frm} (h : chk f = 0) : kOk f.k = true := by
  unfold chk at h
  split at h
  · cases h
  · simpa using (by assumption : ¬ kOk f.k = false)
end Go.Proofs.Ytdodiembhgjecaa
