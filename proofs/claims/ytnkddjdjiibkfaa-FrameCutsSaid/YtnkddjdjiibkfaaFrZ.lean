/-
  The statements about frames. Conditions: none.
-/
import Derived.Test.YtnkddjdjiibkfaaRows
import Derived.WalkKit
import Derived.Test.YtnkddjdjiibkfaaFrJ
import Derived.Test.YtnkddjdjiibkfaaEngX
namespace Go.Proofs.Ytnkddjdjiibkfaa
open Go.Eng
set_option linter.unusedVariables false
set_option linter.unusedSimpArgs false
theorem own : ownKnob Try.prog.godebug = none := by kernel_rfl
theorem kids : Kids Try.prog (· < Try.prog.types.size) := kids_rows (by kernel_rfl) (by kernel_rfl)
theorem sized {t e : TypeId} (ht : t < Try.prog.types.size) (hd : Try.prog.underlying t = some (.slice e)) : 0 < Try.prog.cellsOf e := slB_of (by kernel_rfl) ht hd
/-- Bytes, as they are read. -/
theorem reads_bytes {α : AV} (h : AS Try.prog 25 α) : ∃ b : List UInt8, α = .ds (byC b) ∧ True := by
  obtain ⟨l, rfl, _, hx⟩ := as_slice Try.underlying25 h
  obtain ⟨m, rfl, _⟩ := mapC_of (c := by1) fun x h => shp_byte Try.underlying5 (hx x h)
  exact ⟨m, rfl, trivial⟩
theorem reads_int {α : AV} (h : AS Try.prog 3 α) : ∃ n : Int, α = .i .i64 n ∧ True := by
  obtain ⟨n, rfl, _⟩ := as_int Try.underlying3 h
  exact ⟨n, rfl, trivial⟩
theorem shp_frame {L : List AV} (h : Shp Try.prog 23 L) : ∃ f : Frm, L = frC f := by
  obtain ⟨parts, rfl, hl, hp⟩ := shp_struct Try.underlying23 h
  obtain ⟨a, b, c, d, e, rfl⟩ := ds_n5 (show parts.length = 5 from hl)
  obtain ⟨a, rfl, _⟩ := shp_int Try.underlying3 (hp 0 _ a rfl rfl)
  obtain ⟨b, rfl, _⟩ := shp_int Try.underlying3 (hp 1 _ b rfl rfl)
  obtain ⟨c, rfl, _⟩ := shp_int Try.underlying3 (hp 2 _ c rfl rfl)
  obtain ⟨d, rfl, _⟩ := shp_int Try.underlying3 (hp 3 _ d rfl rfl)
  obtain ⟨e, rfl, _⟩ := shp_string Try.underlying9 (hp 4 _ e rfl rfl)
  exact ⟨⟨a, b, c, d, e⟩, rfl⟩
theorem reads_frame {α : AV} (h : AS Try.prog 23 α) : ∃ f : Frm, α = f.av ∧ True := by
  obtain ⟨L, rfl, h2⟩ := as_struct Try.underlying23 h
  obtain ⟨f, rfl⟩ := shp_frame h2
  exact ⟨f, rfl, trivial⟩
theorem reads_frames {α : AV} (h : AS Try.prog 33 α) : ∃ l : List Frm, α = .ds (mapC frC l) ∧ True := by
  obtain ⟨l, rfl, _, hx⟩ := as_slice Try.underlying33 h
  obtain ⟨m, rfl, _⟩ := mapC_of (c := frC) fun x h => shp_frame (hx x h)
  exact ⟨m, rfl, trivial⟩
theorem puts_law (αs : List AV) (h : ASs Try.prog [23] αs) : MeetsF Try.prog 3 [] 0 αs (.b true) := by
  obtain ⟨α1, rfl, h1⟩ := as_n1 h
  obtain ⟨x1, rfl, w1⟩ := reads_frame h1
  exact lawPuts x1 [] 0
set_option maxRecDepth 100000 in
theorem puts_lifted (os : Os) (started : os.Started) (H : Type) (enc : TypeId × Value → H) :
    ReturnsInHanded {} Try.checked os 3 .any (Rows.framePutsSpec.pre6 enc Try.prog Try.f3 Rows.framePutsRow.domain false) (Rows.framePutsSpec.post enc Try.prog Try.f3 false true false false) := by
  refine returnsInHanded_of_change (C := Try.checked) own started (by kernel_rfl) Try.func3
    (ChangeSpec.witness6 (enc := enc) (C := Try.checked) false ⟨#[], #[.agg #[.int .i64 0, .int .i64 0, .int .i64 0, .int .i64 0, .string ⟨#[]⟩]], []⟩ 8 (by kernel_rfl) (by kernel_rfl) (by kernel_rfl) (by kernel_rfl)) ?_
  intro W base args ds gs before hval hW _ _
  refine law_contract (tb := 4) kids sized ?_ rfl (fun ds hl => ?_) rfl Try.underlying4 (fun αs h => puts_law αs h) hval hW
  · exact par_lt (by kernel_rfl)
  · obtain ⟨d1, rfl⟩ := ds_n1 (show ds.length = 1 from hl)
    exact ⟨rfl, rfl, rfl⟩
/-- The statement FramePuts. -/
theorem puts_holds : Rows.FramePutsSaid :=
  OpenClaim.holds_of_wide 3 Try.f3 rfl rfl rfl rfl rfl rfl rfl ⟨rfl, rfl, rfl, rfl, rfl⟩ rfl rfl rfl rfl rfl (by kernel_rfl) Try.func3 (by kernel_rfl)
    (of_decide_eq_true (by kernel_rfl)) (by unfold Func.isWrapper; first | (rw [if_pos (by decide +kernel)]; kernel_rfl) | (rw [if_neg (by decide +kernel)]; exact ⟨rfl, rfl⟩))
    (fun os started H enc _ => puts_lifted os started H enc)
theorem gets_law (αs : List AV) (h : ASs Try.prog [25] αs) : MeetsF Try.prog 4 [] 0 αs (.b true) := by
  obtain ⟨α1, rfl, h1⟩ := as_n1 h
  obtain ⟨x1, rfl, w1⟩ := reads_bytes h1
  exact lawGets x1 [] 0
set_option maxRecDepth 100000 in
theorem gets_lifted (os : Os) (started : os.Started) (H : Type) (enc : TypeId × Value → H) :
    ReturnsInHanded {} Try.checked os 4 .any (Rows.frameGetsSpec.pre6 enc Try.prog Try.f4 Rows.frameGetsRow.domain false) (Rows.frameGetsSpec.post enc Try.prog Try.f4 false true false false) := by
  refine returnsInHanded_of_change (C := Try.checked) own started (by kernel_rfl) Try.func4
    (ChangeSpec.witness6 (enc := enc) (C := Try.checked) false ⟨#[], #[.slice none 0 0], []⟩ 8 (by kernel_rfl) (by kernel_rfl) (by kernel_rfl) (by kernel_rfl)) ?_
  intro W base args ds gs before hval hW _ _
  refine law_contract (tb := 4) kids sized ?_ rfl (fun ds hl => ?_) rfl Try.underlying4 (fun αs h => gets_law αs h) hval hW
  · exact par_lt (by kernel_rfl)
  · obtain ⟨d1, rfl⟩ := ds_n1 (show ds.length = 1 from hl)
    exact ⟨rfl, rfl, rfl⟩
/-- The statement FrameGets. -/
theorem gets_holds : Rows.FrameGetsSaid :=
  OpenClaim.holds_of_wide 4 Try.f4 rfl rfl rfl rfl rfl rfl rfl ⟨rfl, rfl, rfl, rfl, rfl⟩ rfl rfl rfl rfl rfl (by kernel_rfl) Try.func4 (by kernel_rfl)
    (of_decide_eq_true (by kernel_rfl)) (by unfold Func.isWrapper; first | (rw [if_pos (by decide +kernel)]; kernel_rfl) | (rw [if_neg (by decide +kernel)]; exact ⟨rfl, rfl⟩))
    (fun os started H enc _ => gets_lifted os started H enc)
theorem returns_law (αs : List AV) (h : ASs Try.prog [23, 25] αs) : MeetsF Try.prog 5 [] 0 αs (.b true) := by
  obtain ⟨α1, α2, rfl, h1, h2⟩ := as_n2 h
  obtain ⟨x1, rfl, w1⟩ := reads_frame h1
  obtain ⟨x2, rfl, w2⟩ := reads_bytes h2
  exact lawReturns x1 x2 [] 0
set_option maxRecDepth 100000 in
theorem returns_lifted (os : Os) (started : os.Started) (H : Type) (enc : TypeId × Value → H) :
    ReturnsInHanded {} Try.checked os 5 .any (Rows.frameReturnsSpec.pre6 enc Try.prog Try.f5 Rows.frameReturnsRow.domain false) (Rows.frameReturnsSpec.post enc Try.prog Try.f5 false true false false) := by
  refine returnsInHanded_of_change (C := Try.checked) own started (by kernel_rfl) Try.func5
    (ChangeSpec.witness6 (enc := enc) (C := Try.checked) false ⟨#[], #[.agg #[.int .i64 0, .int .i64 0, .int .i64 0, .int .i64 0, .string ⟨#[]⟩], .slice none 0 0], []⟩ 8 (by kernel_rfl) (by kernel_rfl) (by kernel_rfl) (by kernel_rfl)) ?_
  intro W base args ds gs before hval hW _ _
  refine law_contract (tb := 4) kids sized ?_ rfl (fun ds hl => ?_) rfl Try.underlying4 (fun αs h => returns_law αs h) hval hW
  · exact par_lt (by kernel_rfl)
  · obtain ⟨d1, d2, rfl⟩ := ds_n2 (show ds.length = 2 from hl)
    exact ⟨rfl, rfl, rfl⟩
/-- The statement FrameReturns. -/
theorem returns_holds : Rows.FrameReturnsSaid :=
  OpenClaim.holds_of_wide 5 Try.f5 rfl rfl rfl rfl rfl rfl rfl ⟨rfl, rfl, rfl, rfl, rfl⟩ rfl rfl rfl rfl rfl (by kernel_rfl) Try.func5 (by kernel_rfl)
    (of_decide_eq_true (by kernel_rfl)) (by unfold Func.isWrapper; first | (rw [if_pos (by decide +kernel)]; kernel_rfl) | (rw [if_neg (by decide +kernel)]; exact ⟨rfl, rfl⟩))
    (fun os started H enc _ => returns_lifted os started H enc)
theorem cuts_law (αs : List AV) (h : ASs Try.prog [23, 3] αs) : MeetsF Try.prog 6 [] 0 αs (.b true) := by
  obtain ⟨α1, α2, rfl, h1, h2⟩ := as_n2 h
  obtain ⟨x1, rfl, w1⟩ := reads_frame h1
  obtain ⟨x2, rfl, w2⟩ := reads_int h2
  exact lawCuts x1 x2 [] 0
set_option maxRecDepth 100000 in
theorem cuts_lifted (os : Os) (started : os.Started) (H : Type) (enc : TypeId × Value → H) :
    ReturnsInHanded {} Try.checked os 6 .any (Rows.frameCutsSpec.pre6 enc Try.prog Try.f6 Rows.frameCutsRow.domain false) (Rows.frameCutsSpec.post enc Try.prog Try.f6 false true false false) := by
  refine returnsInHanded_of_change (C := Try.checked) own started (by kernel_rfl) Try.func6
    (ChangeSpec.witness6 (enc := enc) (C := Try.checked) false ⟨#[], #[.agg #[.int .i64 0, .int .i64 0, .int .i64 0, .int .i64 0, .string ⟨#[]⟩], .int .i64 0], []⟩ 8 (by kernel_rfl) (by kernel_rfl) (by kernel_rfl) (by kernel_rfl)) ?_
  intro W base args ds gs before hval hW _ _
  refine law_contract (tb := 4) kids sized ?_ rfl (fun ds hl => ?_) rfl Try.underlying4 (fun αs h => cuts_law αs h) hval hW
  · exact par_lt (by kernel_rfl)
  · obtain ⟨d1, d2, rfl⟩ := ds_n2 (show ds.length = 2 from hl)
    exact ⟨rfl, rfl, rfl⟩
/-- The statement FrameCuts. -/
theorem cuts_holds : Rows.FrameCutsSaid :=
  OpenClaim.holds_of_wide 6 Try.f6 rfl rfl rfl rfl rfl rfl rfl ⟨rfl, rfl, rfl, rfl, rfl⟩ rfl rfl rfl rfl rfl (by kernel_rfl) Try.func6 (by kernel_rfl)
    (of_decide_eq_true (by kernel_rfl)) (by unfold Func.isWrapper; first | (rw [if_pos (by decide +kernel)]; kernel_rfl) | (rw [if_neg (by decide +kernel)]; exact ⟨rfl, rfl⟩))
    (fun os started H enc _ => cuts_lifted os started H enc)
theorem streams_law (αs : List AV) (h : ASs Try.prog [33, 3] αs) : MeetsF Try.prog 7 [] 0 αs (.b true) := by
  obtain ⟨α1, α2, rfl, h1, h2⟩ := as_n2 h
  obtain ⟨x1, rfl, w1⟩ := reads_frames h1
  obtain ⟨x2, rfl, w2⟩ := reads_int h2
  exact lawStreams x1 x2 [] 0
set_option maxRecDepth 100000 in
theorem streams_lifted (os : Os) (started : os.Started) (H : Type) (enc : TypeId × Value → H) :
    ReturnsInHanded {} Try.checked os 7 .any (Rows.frameStreamsSpec.pre6 enc Try.prog Try.f7 Rows.frameStreamsRow.domain false) (Rows.frameStreamsSpec.post enc Try.prog Try.f7 false true false false) := by
  refine returnsInHanded_of_change (C := Try.checked) own started (by kernel_rfl) Try.func7
    (ChangeSpec.witness6 (enc := enc) (C := Try.checked) false ⟨#[], #[.slice none 0 0, .int .i64 0], []⟩ 8 (by kernel_rfl) (by kernel_rfl) (by kernel_rfl) (by kernel_rfl)) ?_
  intro W base args ds gs before hval hW _ _
  refine law_contract (tb := 4) kids sized ?_ rfl (fun ds hl => ?_) rfl Try.underlying4 (fun αs h => streams_law αs h) hval hW
  · exact par_lt (by kernel_rfl)
  · obtain ⟨d1, d2, rfl⟩ := ds_n2 (show ds.length = 2 from hl)
    exact ⟨rfl, rfl, rfl⟩
/-- The statement FrameStreams. -/
theorem streams_holds : Rows.FrameStreamsSaid :=
  OpenClaim.holds_of_wide 7 Try.f7 rfl rfl rfl rfl rfl rfl rfl ⟨rfl, rfl, rfl, rfl, rfl⟩ rfl rfl rfl rfl rfl (by kernel_rfl) Try.func7 (by kernel_rfl)
    (of_decide_eq_true (by kernel_rfl)) (by unfold Func.isWrapper; first | (rw [if_pos (by decide +kernel)]; kernel_rfl) | (rw [if_neg (by decide +kernel)]; exact ⟨rfl, rfl⟩))
    (fun os started H enc _ => streams_lifted os started H enc)
end Go.Proofs.Ytnkddjdjiibkfaa
