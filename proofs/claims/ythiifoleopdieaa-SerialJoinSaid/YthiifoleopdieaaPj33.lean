/-
  The parts CcD of the proof, in one file. Conditions: none.
-/
import Derived.Test.YthiifoleopdieaaProg
import Derived.KernelRfl
import Derived.Test.YthiifoleopdieaaPj32
namespace Go.Proofs.Ythiifoleopdieaa
open Go.Eng
set_option maxRecDepth 100000
def ck35 : CC := (.sq (.rg [⟨(some 4), (.mv (.c (.b false))), none, [2, 3, 4, 5, 6, 7], false⟩]) (.sq (.rg [⟨(some 5), (.mv (.t 0)), none, [0], false⟩, ⟨(some 6), (.mv (.t 1)), none, [1], false⟩, ⟨(some 7), (.cl 68 [(.t 5), (.t 6)]), none, [5, 6], false⟩, ⟨(some 8), (.bin .geq 0 (.t 7) (.c (.i .i64 0))), none, [7], false⟩, ⟨(some 4), (.mv (.t 8)), none, [8], false⟩]) .rt))
theorem cc35 : (Try.f35.body.bind (ccode Try.prog 9)) = some ck35.erase := by kernel_rfl
theorem cr35 : rsv Try.prog 9 Try.f35.results.toList = some [(.t 4)] := by kernel_rfl
def ck68 : CC := (.sq (.rg [⟨(some 4), (.mv (.c (.i .i64 0))), none, [2, 3, 4, 5, 6, 7], false⟩]) (.sq (.sq (.rg [⟨(some 6), (.mv (.t 0)), none, [], false⟩, ⟨(some 7), (.ln false (.t 6)), none, [6], false⟩, ⟨(some 8), (.mv (.c (.i .i64 0))), none, [], false⟩]) (.bl 0 (.lp (.sq (.rg [⟨(some 9), (.bin .lss 0 (.t 8) (.t 7)), none, [], false⟩]) (.sq (.cd (.t 9) .skip (.ex 0)) (.sq (.bl 1 (.sq (.rg [⟨(some 10), (.mv (.t 8)), none, [9], false⟩, ⟨(some 5), (.mv (.t 10)), none, [10], false⟩]) (.sq (.rg [⟨(some 11), (.mv (.t 1)), none, [], false⟩, ⟨(some 12), (.mv (.t 0)), none, [], false⟩, ⟨(some 13), (.mv (.t 5)), none, [], false⟩, ⟨(some 14), (.ia (.t 12) (.t 13) 10), none, [12, 13], false⟩, ⟨(some 15), (.ld (.t 14) 10 true), none, [14], false⟩, ⟨(some 16), (.cc (.t 11) [(.t 15)]), none, [11, 15], false⟩]) (.cd (.t 16) (.sq (.rg [⟨(some 17), (.mv (.t 5)), none, [0, 1, 5, 7, 8, 16], false⟩, ⟨(some 4), (.mv (.t 17)), none, [17], false⟩]) .rt) .skip)))) (.rg [⟨(some 18), (.bin .add 0 (.t 8) (.c (.i .i64 1))), none, [5, 8, 16], false⟩, ⟨(some 8), (.mv (.t 18)), none, [18], false⟩]))))))) (.sq (.rg [⟨(some 4), (.mv (.c (.i .i64 (-1)))), none, [0, 1, 7, 8, 9], false⟩]) .rt)))
theorem cc68 : (Try.f68.body.bind (ccode Try.prog 19)) = some ck68.erase := by kernel_rfl
theorem cr68 : rsv Try.prog 19 Try.f68.results.toList = some [(.t 4)] := by kernel_rfl
end Go.Proofs.Ythiifoleopdieaa
