/-
  The parts MxRZ of the proof, in one file. Conditions: none.
-/
import Derived.Test.YtdodiembhgjecaaRows
import Derived.WalkKit
import Derived.Test.YtdodiembhgjecaaMc51
namespace Go.Proofs.Ytdodiembhgjecaa
open Go.Eng
set_option linter.unusedVariables false
set_option linter.unusedSimpArgs false
theorem own : ownKnob Try.prog.godebug = none := by kernel_rfl
theorem kids : Kids Try.prog (· < Try.prog.types.size) := kids_rows (by kernel_rfl) (by kernel_rfl)
theorem sized {t e : TypeId} (ht : t < Try.prog.types.size) (hd : Try.prog.underlying t = some (.slice e)) : 0 < Try.prog.cellsOf e := slB_of (by kernel_rfl) ht hd
theorem shp_frame {L : List AV} (h : Shp Try.prog 32 L) : ∃ f : Frm, L = frC f := by
  obtain ⟨parts, rfl, hl, hp⟩ := shp_struct Try.underlying32 h
  obtain ⟨a, b, c, d, e, rfl⟩ := ds_n5 (show parts.length = 5 from hl)
  obtain ⟨a, rfl, _⟩ := shp_int Try.underlying3 (hp 0 _ a rfl rfl)
  obtain ⟨b, rfl, _⟩ := shp_int Try.underlying3 (hp 1 _ b rfl rfl)
  obtain ⟨c, rfl, _⟩ := shp_int Try.underlying3 (hp 2 _ c rfl rfl)
  obtain ⟨d, rfl, _⟩ := shp_int Try.underlying3 (hp 3 _ d rfl rfl)
  obtain ⟨e, rfl, _⟩ := shp_string Try.underlying9 (hp 4 _ e rfl rfl)
  exact ⟨⟨a, b, c, d, e⟩, rfl⟩
theorem shp_step {L : List AV} (h : Shp Try.prog 34 L) : ∃ x : Stp, L = spC x := by
  obtain ⟨parts, rfl, hl, hp⟩ := shp_struct Try.underlying34 h
  obtain ⟨a, b, rfl⟩ := ds_n2 (show parts.length = 2 from hl)
  obtain ⟨a, rfl, _⟩ := shp_int Try.underlying3 (hp 0 _ a rfl rfl)
  obtain ⟨f, rfl⟩ := shp_frame (hp 1 _ b rfl rfl)
  obtain ⟨k, i, s, c, b⟩ := f
  exact ⟨.mk a k i s c b, rfl⟩
theorem reads_steps {α : AV} (h : AS Try.prog 22 α) : ∃ l : List Stp, α = .ds (mapC spC l) ∧ True := by
  obtain ⟨l, rfl, _, hx⟩ := as_slice Try.underlying22 h
  obtain ⟨m, rfl, _⟩ := mapC_of (c := spC) fun x h => shp_step (hx x h)
  exact ⟨m, rfl, trivial⟩
theorem shp_bl {L : List AV} (h : Shp Try.prog 4 L) : ∃ b : Bool, L = bl1 b := by
  obtain ⟨b, rfl⟩ := shp_bool Try.underlying4 h
  exact ⟨b, rfl⟩
theorem reads_bools {α : AV} (h : AS Try.prog 55 α) : ∃ l : List Bool, α = .ds (mapC bl1 l) ∧ True := by
  obtain ⟨l, rfl, _, hx⟩ := as_slice Try.underlying55 h
  obtain ⟨m, rfl, _⟩ := mapC_of (c := bl1) fun x h => shp_bl (hx x h)
  exact ⟨m, rfl, trivial⟩
theorem recovers_law (αs : List AV) (h : ASs Try.prog [22, 55] αs) : MeetsF Try.prog 5 [] 0 αs (.b true) := by
  obtain ⟨α1, α2, rfl, h1, h2⟩ := as_n2 h
  obtain ⟨x1, rfl, w1⟩ := reads_steps h1
  obtain ⟨x2, rfl, w2⟩ := reads_bools h2
  exact lawRecovers x1 x2 [] 0
set_option maxRecDepth 100000 in
theorem recovers_lifted (os : Os) (started : os.Started) (H : Type) (enc : TypeId × Value → H) :
    ReturnsInHanded {} Try.checked os 5 .any (Rows.muxRecoversSpec.pre6 enc Try.prog Try.f5 Rows.muxRecoversRow.domain false) (Rows.muxRecoversSpec.post enc Try.prog Try.f5 false true false false) := by
  refine returnsInHanded_of_change (C := Try.checked) own started (by kernel_rfl) Try.func5
    (ChangeSpec.witness6 (enc := enc) (C := Try.checked) false ⟨#[], #[.slice none 0 0, .slice none 0 0], []⟩ 8 (by kernel_rfl) (by kernel_rfl) (by kernel_rfl) (by kernel_rfl)) ?_
  intro W base args ds gs before hval hW _ _
  refine law_contract (tb := 4) kids sized ?_ rfl (fun ds hl => ?_) rfl Try.underlying4 (fun αs h => recovers_law αs h) hval hW
  · exact par_lt (by kernel_rfl)
  · obtain ⟨d1, d2, rfl⟩ := ds_n2 (show ds.length = 2 from hl)
    exact ⟨rfl, rfl, rfl⟩
/-- The statement MuxRecovers. -/
theorem recovers_holds : Rows.MuxRecoversSaid :=
  OpenClaim.holds_of_wide 5 Try.f5 rfl rfl rfl rfl rfl rfl rfl ⟨rfl, rfl, rfl, rfl, rfl⟩ rfl rfl rfl rfl rfl (by kernel_rfl) Try.func5 (by kernel_rfl)
    (of_decide_eq_true (by kernel_rfl)) (by unfold Func.isWrapper; first | (rw [if_pos (by decide +kernel)]; kernel_rfl) | (rw [if_neg (by decide +kernel)]; exact ⟨rfl, rfl⟩))
    (fun os started H enc _ => recovers_lifted os started H enc)
theorem mux_recovers : Rows.MuxRecoversSaid ∧ True := ⟨recovers_holds, trivial⟩
end Go.Proofs.Ytdodiembhgjecaa
