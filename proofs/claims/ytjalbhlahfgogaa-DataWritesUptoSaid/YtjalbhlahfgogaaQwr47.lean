/-
  The parts DaX of the proof, in one file. Conditions: none.
-/
import Derived.Test.YtjalbhlahfgogaaQwr46
namespace Go.Proofs.Ytjalbhlahfgogaa
open Go.Eng
set_option linter.unusedVariables false
set_option linter.unusedSimpArgs false
theorem dat_small (d : Dat) (h : avw (dx d) ≤ 1048576) : d.w.length ≤ 1048576 ∧ ∀ x ∈ d.i, x.l.length ≤ 1048576 := by
  simp only [dx, avw, avL] at h
  have hw : d.w.length ≤ avLL (mapC wrC d.w) := mapC_len_le (fun x => by simp [wrC, avL, avw]; omega) _
  refine ⟨by omega, fun x hx => ?_⟩
  have h1 := avLL_mem (List.mem_map_of_mem (f := itC) hx)
  have h1 : avL (itC x) ≤ avLL (mapC itC d.i) := h1
  simp only [itC, avL, avw] at h1
  have h2 : x.l.length ≤ avLL (mapC celC x.l) := mapC_len_le (fun x => by have := celC_av x; omega) _
  omega
theorem dat_fit2 (d : Dat) (h : avw (dx d) ≤ 1048576) : d.Fit2 :=
  ⟨dat_fit d h, by have := (dat_small d h).1; omega, fun x hx => by have := (dat_small d h).2 x hx; omega⟩
theorem app_fit2 (d : Dat) (h : avw (dx d) ≤ 1048576) (f a : ByteArray) : (appV d f a).Fit2 :=
  appV_fit2 (dat_fit2 d h) (B := 1048576) (dat_small d h).2 (by have := (dat_small d h).1; omega) f a
end Go.Proofs.Ytjalbhlahfgogaa
