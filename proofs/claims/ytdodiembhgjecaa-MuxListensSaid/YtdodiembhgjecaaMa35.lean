/-
  The parts MxZ of the proof, in one file. Conditions: none.
-/
import Derived.Test.YtdodiembhgjecaaRows
import Derived.WalkKit
import Derived.Test.YtdodiembhgjecaaMa34
namespace Go.Proofs.Ytdodiembhgjecaa
open Go.Eng
set_option linter.unusedVariables false
set_option linter.unusedSimpArgs false
theorem own : ownKnob Try.prog.godebug = none := by kernel_rfl
theorem kids : Kids Try.prog (· < Try.prog.types.size) := kids_rows (by kernel_rfl) (by kernel_rfl)
theorem sized {t e : TypeId} (ht : t < Try.prog.types.size) (hd : Try.prog.underlying t = some (.slice e)) : 0 < Try.prog.cellsOf e := slB_of (by kernel_rfl) ht hd
theorem shp_frame {L : List AV} (h : Shp Try.prog 32 L) : ∃ f : Frm, L = frC f := by
  obtain ⟨parts, rfl, hl, hp⟩ := shp_struct Try.underlying32 h
  obtain ⟨a, b, c, d, e, rfl⟩ := ds_n5 (show parts.length = 5 from hl)
  obtain ⟨a, rfl, _⟩ := shp_int Try.underlying3 (hp 0 _ a rfl rfl)
  obtain ⟨b, rfl, _⟩ := shp_int Try.underlying3 (hp 1 _ b rfl rfl)
  obtain ⟨c, rfl, _⟩ := shp_int Try.underlying3 (hp 2 _ c rfl rfl)
  obtain ⟨d, rfl, _⟩ := shp_int Try.underlying3 (hp 3 _ d rfl rfl)
  obtain ⟨e, rfl, _⟩ := shp_string Try.underlying9 (hp 4 _ e rfl rfl)
  exact ⟨⟨a, b, c, d, e⟩, rfl⟩
theorem reads_frame {α : AV} (h : AS Try.prog 32 α) : ∃ f : Frm, α = f.av ∧ True := by
  obtain ⟨L, rfl, h2⟩ := as_struct Try.underlying32 h
  obtain ⟨f, rfl⟩ := shp_frame h2
  exact ⟨f, rfl, trivial⟩
theorem reads_frames {α : AV} (h : AS Try.prog 35 α) : ∃ l : List Frm, α = .ds (mapC frC l) ∧ True := by
  obtain ⟨l, rfl, _, hx⟩ := as_slice Try.underlying35 h
  obtain ⟨m, rfl, _⟩ := mapC_of (c := frC) fun x h => shp_frame (hx x h)
  exact ⟨m, rfl, trivial⟩
theorem nil_law (αs : List AV) (h : ASs Try.prog [32] αs) : MeetsF Try.prog 6 [] 0 αs (.b true) := by
  obtain ⟨α1, rfl, h1⟩ := as_n1 h
  obtain ⟨x1, rfl, w1⟩ := reads_frame h1
  exact lawNil x1 [] 0
set_option maxRecDepth 100000 in
theorem nil_lifted (os : Os) (started : os.Started) (H : Type) (enc : TypeId × Value → H) :
    ReturnsInHanded {} Try.checked os 6 .any (Rows.muxNilSpec.pre6 enc Try.prog Try.f6 Rows.muxNilRow.domain false) (Rows.muxNilSpec.post enc Try.prog Try.f6 false true false false) := by
  refine returnsInHanded_of_change (C := Try.checked) own started (by kernel_rfl) Try.func6
    (ChangeSpec.witness6 (enc := enc) (C := Try.checked) false ⟨#[], #[.agg #[.int .i64 0, .int .i64 0, .int .i64 0, .int .i64 0, .string ⟨#[]⟩]], []⟩ 8 (by kernel_rfl) (by kernel_rfl) (by kernel_rfl) (by kernel_rfl)) ?_
  intro W base args ds gs before hval hW _ _
  refine law_contract (tb := 4) kids sized ?_ rfl (fun ds hl => ?_) rfl Try.underlying4 (fun αs h => nil_law αs h) hval hW
  · exact par_lt (by kernel_rfl)
  · obtain ⟨d1, rfl⟩ := ds_n1 (show ds.length = 1 from hl)
    exact ⟨rfl, rfl, rfl⟩
/-- The statement MuxNil. -/
theorem nil_holds : Rows.MuxNilSaid :=
  OpenClaim.holds_of_wide 6 Try.f6 rfl rfl rfl rfl rfl rfl rfl ⟨rfl, rfl, rfl, rfl, rfl⟩ rfl rfl rfl rfl rfl (by kernel_rfl) Try.func6 (by kernel_rfl)
    (of_decide_eq_true (by kernel_rfl)) (by unfold Func.isWrapper; first | (rw [if_pos (by decide +kernel)]; kernel_rfl) | (rw [if_neg (by decide +kernel)]; exact ⟨rfl, rfl⟩))
    (fun os started H enc _ => nil_lifted os started H enc)
theorem listens_law (αs : List AV) (h : ASs Try.prog [35] αs) : MeetsF Try.prog 4 [] 0 αs (.b true) := by
  obtain ⟨α1, rfl, h1⟩ := as_n1 h
  obtain ⟨x1, rfl, w1⟩ := reads_frames h1
  exact lawListens x1 [] 0
set_option maxRecDepth 100000 in
theorem listens_lifted (os : Os) (started : os.Started) (H : Type) (enc : TypeId × Value → H) :
    ReturnsInHanded {} Try.checked os 4 .any (Rows.muxListensSpec.pre6 enc Try.prog Try.f4 Rows.muxListensRow.domain false) (Rows.muxListensSpec.post enc Try.prog Try.f4 false true false false) := by
  refine returnsInHanded_of_change (C := Try.checked) own started (by kernel_rfl) Try.func4
    (ChangeSpec.witness6 (enc := enc) (C := Try.checked) false ⟨#[], #[.slice none 0 0], []⟩ 8 (by kernel_rfl) (by kernel_rfl) (by kernel_rfl) (by kernel_rfl)) ?_
  intro W base args ds gs before hval hW _ _
  refine law_contract (tb := 4) kids sized ?_ rfl (fun ds hl => ?_) rfl Try.underlying4 (fun αs h => listens_law αs h) hval hW
  · exact par_lt (by kernel_rfl)
  · obtain ⟨d1, rfl⟩ := ds_n1 (show ds.length = 1 from hl)
    exact ⟨rfl, rfl, rfl⟩
/-- The statement MuxListens. -/
theorem listens_holds : Rows.MuxListensSaid :=
  OpenClaim.holds_of_wide 4 Try.f4 rfl rfl rfl rfl rfl rfl rfl ⟨rfl, rfl, rfl, rfl, rfl⟩ rfl rfl rfl rfl rfl (by kernel_rfl) Try.func4 (by kernel_rfl)
    (of_decide_eq_true (by kernel_rfl)) (by unfold Func.isWrapper; first | (rw [if_pos (by decide +kernel)]; kernel_rfl) | (rw [if_neg (by decide +kernel)]; exact ⟨rfl, rfl⟩))
    (fun os started H enc _ => listens_lifted os started H enc)
end Go.Proofs.Ytdodiembhgjecaa
