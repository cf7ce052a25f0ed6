/-
  The parts MxZA of the proof, in one file. Conditions: none.
-/
import Derived.Test.YtdodiembhgjecaaMa35
namespace Go.Proofs.Ytdodiembhgjecaa
theorem mux_two : Rows.MuxNilSaid ∧ Rows.MuxListensSaid := ⟨nil_holds, listens_holds⟩
end Go.Proofs.Ytdodiembhgjecaa
