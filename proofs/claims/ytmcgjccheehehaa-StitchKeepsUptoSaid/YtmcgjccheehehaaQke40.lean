/-
  The parts SaM of the proof, in one file. Conditions: none.
-/
import Derived.Test.YtmcgjccheehehaaQke39
namespace Go.Proofs.Ytmcgjccheehehaa
open Go.Eng
set_option linter.unusedVariables false
set_option linter.unusedSimpArgs false
set_option maxRecDepth 20000
set_option maxHeartbeats 2000000
theorem getV_out {K : List ByteArray} {I : List Val} (h : K.length = I.length) (k : ByteArray) : (getV (.mk 6 0 ⟨#[]⟩ I K) k).isSome = inB k K := by
  have h1 := ixO_out h k
  rw [getV_ix (by rfl)]
  by_cases c : inB k K = true
  · have h2 := h1.2 c
    obtain ⟨x, hx⟩ := ixO_at h2
    rw [if_pos h2, hx, c]
    rfl
  · rw [if_neg (fun q => c (h1.1 q))]
    simp only [Bool.not_eq_true] at c
    rw [c]
    rfl
end Go.Proofs.Ytmcgjccheehehaa
