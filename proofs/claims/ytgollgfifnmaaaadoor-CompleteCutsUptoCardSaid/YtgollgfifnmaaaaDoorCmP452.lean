/-
  The parts CmTA of the proof, in one file. Conditions: none.
-/
import Derived.Test.YtgollgfifnmaaaaDoorCmP451
namespace Go.Proofs.YtgollgfifnmaaaaDoor
open Go.Eng
set_option linter.unusedVariables false
set_option linter.unusedSimpArgs false
set_option maxRecDepth 20000
set_option maxHeartbeats 1000000
/-- What holds of a run's result. -/
theorem run_fit {doc : List Dfn} {l : List Pk} {v : Val} (h : CQ doc l v) (root : ByteArray) : (cplV doc v root [] l []).1.Fit ∧ (cplV doc v root [] l []).2.length ≤ 1000000000000 ∧ ∀ p ∈ (cplV doc v root [] l []).2, p.p.length ≤ 1000000000 ∧ ∀ x ∈ p.p, x.Fit := by
  have h1 := cpl_fit doc v h.vs.f root [] l [] h.p (by simp)
  have h2 := cpl_count doc v root [] l []
  have h3 := h.cnt
  have h4 := h.vs.w
  exact ⟨h1.1, by omega, fun p hp => ⟨by have := (h1.2 p hp).1; simp at this; omega, (h1.2 p hp).2⟩⟩
end Go.Proofs.YtgollgfifnmaaaaDoor
