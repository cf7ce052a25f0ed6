/-
  The parts CmX of the proof, in one file. Conditions: none.
-/
import Derived.Test.YtgollgfifnmaaaaDoorCards
import Derived.Test.YtgollgfifnmaaaaDoorTie
import Derived.ProofKit
import Derived.OpenShut
import Derived.Deep.DeepHandedRow
import Derived.Lib.LaidTab
import Derived.Test.YtgollgfifnmaaaaDoorCmP449
namespace Go.Proofs.YtgollgfifnmaaaaDoor
open Go.Eng
open Go.ChangeShapes Go.WideShapes Go.ChangeAt Go.RowKit
set_option linter.unusedVariables false
set_option linter.unusedSimpArgs false
theorem tab_third {P : Program} {W : World} {x y : String × DataW Unit} {name : String} {k : IntKind} {zs : List Int} {g : Nat} {t e : TypeId} {n : Nat}
    (hg : P.globalNamed name = some g) (hty : (P.globals[g]?).map (·.type) = some t) (ht : P.underlying t = some (.array n e)) (he : P.underlying e = some (.int k)) (hce : P.cellsOf e = 1) (hct : P.cellsOf t = n)
    (h : laidMet P [x, y, (name, Lib.tabData k zs)] W) : ∃ t fr, W.heap[g]? = some (.cells (zs.map fun z => Value.int k z).toArray t fr) := by
  obtain ⟨ps, ⟨g1, t1, c1, f1, p1, q1, a1, a2, a3, a4, ⟨g2, t2, c2, f2, p2, q2, b1, b2, b3, b4, hz, e2⟩, e1⟩, hnd, hrows⟩ := h
  have hs : q2.Sublist ps := by
    rw [e1, e2]
    exact (List.sublist_append_right _ _).trans (List.sublist_append_right _ _)
  have ht' : Lib.TabIs P W name k zs := Lib.tabIs_of_head (rest := []) hg hty ht he hce hct ⟨q2, hz, hnd.sublist hs, fun b off hp => hrows b off (hs.subset hp)⟩
  unfold Lib.TabIs World.var? at ht'
  rw [hg] at ht'
  simp only [Option.bind_some] at ht'
  split at ht'
  · rename_i cs t fr hh
    cases ht'
    exact ⟨t, fr, hh⟩
  · cases ht'
theorem pow10_laid {w : World} (h : laidMetH Tryd.prog Rows.completeRunsUptoRow.laid w) : ∀ b vs, (b, vs) ∈ glTab → ∃ t fr, w.heap[b]? = some (.cells vs t fr) := by
  intro b vs hb
  simp only [glTab, List.mem_singleton, Prod.mk.injEq] at hb
  obtain ⟨rfl, rfl⟩ := hb
  exact tab_third (t := 142) (e := 135) (n := 20) (by kernel_rfl) (by kernel_rfl) (by kernel_rfl) (by kernel_rfl) (by kernel_rfl) (by kernel_rfl) h
noncomputable def valsOf : DataW Unit → Array Value
  | .agg l => (l.map fun x => match x with | .lit (.int k z) => Value.int k z | _ => Value.int .i64 0).toArray
  | _ => #[]
def setTab (vs : Array Value) : Obj → Obj
  | .cells _ t fr => .cells vs t fr
  | o => o
/-- A world for the witness: the settled one, the tables holding what their initialisers lay. -/
noncomputable def laidWorld (os : Os) : World :=
  { World.holding Tryd.prog os ⟨#[], #[], []⟩ with heap := (((World.holding Tryd.prog os ⟨#[], #[], []⟩).heap.modify 0 (setTab (valsOf Rows.laid_internal_strconv_uint64pow10))).modify 1 (setTab (valsOf Rows.laid_math_bits_deBruijn32tab))).modify 2 (setTab (valsOf Rows.laid_math_bits_deBruijn64tab)) }
abbrev case0 : Value := .agg #[.slice none 0 0, .string ⟨#[]⟩, .slice none 0 0, .int .i64 0, .int .i64 0, .string ⟨#[]⟩, .slice none 0 0, .slice none 0 0]
set_option maxRecDepth 100000 in
theorem laid_met (os : Os) (vs : Array Value) : laidMet Tryd.prog Rows.completeRunsUptoRow.laid ((laidWorld os).forCall (fun _ _ => 0) ⟨#[], vs, []⟩).memory :=
  laidMet_of_run' 8 (by kernel_rfl) (by kernel_rfl)
end Go.Proofs.YtgollgfifnmaaaaDoor
