/-
  The statements about frames. Conditions: none.
-/
import Derived.Test.YtnkddjdjiibkfaaRows
import Derived.WalkKit
import Derived.Test.YtnkddjdjiibkfaaFrH
import Derived.Test.YtnkddjdjiibkfaaEngX
namespace Go.Proofs.Ytnkddjdjiibkfaa
open Go.Eng
set_option linter.unusedVariables false
set_option linter.unusedSimpArgs false
theorem own : ownKnob Try.prog.godebug = none := by kernel_rfl
theorem kids : Kids Try.prog (· < Try.prog.types.size) := kids_rows (by kernel_rfl) (by kernel_rfl)
theorem sized {t e : TypeId} (ht : t < Try.prog.types.size) (hd : Try.prog.underlying t = some (.slice e)) : 0 < Try.prog.cellsOf e := slB_of (by kernel_rfl) ht hd
/-- Bytes, as they are read. -/
theorem reads_bytes {α : AV} (h : AS Try.prog 25 α) : ∃ b : List UInt8, α = .ds (byC b) := by
  obtain ⟨l, rfl, _, hx⟩ := as_slice Try.underlying25 h
  obtain ⟨m, rfl, _⟩ := mapC_of (c := by1) fun x h => shp_byte Try.underlying5 (hx x h)
  exact ⟨m, rfl⟩
theorem gets_ok (αs : List AV) (h : ASs Try.prog [25] αs) : MeetsF Try.prog 4 [] 0 αs (.b true) := by
  match αs, h with
  | [α], ⟨h, _⟩ =>
    obtain ⟨b, rfl⟩ := reads_bytes h
    exact lawGets b [] 0
  | [], h => exact h.elim
  | α :: β :: r, ⟨_, h⟩ => exact h.elim
set_option maxRecDepth 100000 in
theorem gets_lifted (os : Os) (started : os.Started) (H : Type) (enc : TypeId × Value → H) :
    ReturnsInHanded {} Try.checked os 4 .any (Rows.frameGetsSpec.pre6 enc Try.prog Try.f4 Rows.frameGetsRow.domain false) (Rows.frameGetsSpec.post enc Try.prog Try.f4 false true false false) := by
  refine returnsInHanded_of_change (C := Try.checked) own started (by kernel_rfl) Try.func4
    (ChangeSpec.witness6 (enc := enc) (C := Try.checked) false ⟨#[], #[.slice none 0 0], []⟩ 8 (by kernel_rfl) (by kernel_rfl) (by kernel_rfl) (by kernel_rfl)) ?_
  intro W base args ds gs before hval hW _ _
  refine law_contract (tb := 4) kids sized ?_ rfl (fun ds hl => ?_) rfl Try.underlying4 (fun αs h => gets_ok αs h) hval hW
  · intro t ht
    have : t = 25 := by simpa [show Try.f4.params = #[25] from rfl] using ht
    subst this
    exact of_decide_eq_true (by kernel_rfl)
  · obtain ⟨d, rfl⟩ : ∃ d, ds = [d] := by
      have hl : ds.length = 1 := hl
      cases ds with
      | nil => simp at hl
      | cons d r => cases r with
        | nil => exact ⟨d, rfl⟩
        | cons => simp at hl
    exact ⟨rfl, rfl, rfl⟩
theorem gets_holds : Rows.FrameGetsSaid :=
  OpenClaim.holds_of_wide 4 Try.f4 rfl rfl rfl rfl rfl rfl rfl ⟨rfl, rfl, rfl, rfl, rfl⟩ rfl rfl rfl rfl rfl (by kernel_rfl) Try.func4 (by kernel_rfl)
    (of_decide_eq_true (by kernel_rfl)) (by unfold Func.isWrapper; first | (rw [if_pos (by decide +kernel)]; kernel_rfl) | (rw [if_neg (by decide +kernel)]; exact ⟨rfl, rfl⟩))
    (fun os started H enc _ => gets_lifted os started H enc)
end Go.Proofs.Ytnkddjdjiibkfaa
