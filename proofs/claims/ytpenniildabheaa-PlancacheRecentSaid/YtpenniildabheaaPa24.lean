/-
  The parts CcV of the proof, in one file. Conditions: none.
-/
import Derived.Test.YtpenniildabheaaProg
import Derived.KernelRfl
import Derived.Test.YtpenniildabheaaPa23
namespace Go.Proofs.Ytpenniildabheaa
open Go.Eng
set_option maxRecDepth 100000
def ck38 : CC := (.sq (.rg [⟨(some 2), (.mv (.c .e0)), none, [1, 2, 3, 4, 5, 6, 7], false⟩]) (.sq (.sq (.rg [⟨(some 3), (.mv (.t 0)), none, [], false⟩, ⟨(some 4), (.nl false (.t 3)), none, [3], false⟩]) (.cd (.t 4) (.sq (.rg [⟨(some 2), (.mv (.c .e0)), none, [0, 4], false⟩]) .rt) .skip)) (.sq (.rg [⟨(some 5), (.bs false 2 []), none, [4], false⟩, ⟨(some 6), (.mv (.t 0)), none, [0], false⟩, ⟨(some 7), (.ap (.t 5) (.t 6) 2 32), none, [5, 6], false⟩, ⟨(some 2), (.mv (.t 7)), none, [7], false⟩]) .rt)))
theorem cc38 : (Try.f38.body.bind (ccode Try.prog 8)) = some ck38.erase := by kernel_rfl
theorem cr38 : rsv Try.prog 8 Try.f38.results.toList = some [(.t 2)] := by kernel_rfl
def ck39 : CC := (.sq (.rg [⟨(some 2), (.mv (.c .e0)), none, [1, 2, 3, 4, 5, 6, 7], false⟩]) (.sq (.sq (.rg [⟨(some 3), (.mv (.t 0)), none, [], false⟩, ⟨(some 4), (.nl false (.t 3)), none, [3], false⟩]) (.cd (.t 4) (.sq (.rg [⟨(some 2), (.mv (.c .e0)), none, [0, 4], false⟩]) .rt) .skip)) (.sq (.rg [⟨(some 5), (.bs false 1 []), none, [4], false⟩, ⟨(some 6), (.mv (.t 0)), none, [0], false⟩, ⟨(some 7), (.ap (.t 5) (.t 6) 1 16), none, [5, 6], false⟩, ⟨(some 2), (.mv (.t 7)), none, [7], false⟩]) .rt)))
theorem cc39 : (Try.f39.body.bind (ccode Try.prog 8)) = some ck39.erase := by kernel_rfl
theorem cr39 : rsv Try.prog 8 Try.f39.results.toList = some [(.t 2)] := by kernel_rfl
def ck40 : CC := (.sq (.rg [⟨(some 2), (.mv (.c .e0)), none, [1, 2, 3, 4, 5, 6, 7], false⟩]) (.sq (.sq (.rg [⟨(some 3), (.mv (.t 0)), none, [], false⟩, ⟨(some 4), (.nl false (.t 3)), none, [3], false⟩]) (.cd (.t 4) (.sq (.rg [⟨(some 2), (.mv (.c .e0)), none, [0, 4], false⟩]) .rt) .skip)) (.sq (.rg [⟨(some 5), (.bs false 1 []), none, [4], false⟩, ⟨(some 6), (.mv (.t 0)), none, [0], false⟩, ⟨(some 7), (.ap (.t 5) (.t 6) 1 8), none, [5, 6], false⟩, ⟨(some 2), (.mv (.t 7)), none, [7], false⟩]) .rt)))
theorem cc40 : (Try.f40.body.bind (ccode Try.prog 8)) = some ck40.erase := by kernel_rfl
theorem cr40 : rsv Try.prog 8 Try.f40.results.toList = some [(.t 2)] := by kernel_rfl
end Go.Proofs.Ytpenniildabheaa
