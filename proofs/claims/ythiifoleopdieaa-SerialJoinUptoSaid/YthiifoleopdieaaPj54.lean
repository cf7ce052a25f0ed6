/-
  The parts SeX of the proof, in one file. Conditions: none.
-/
import Derived.Test.YthiifoleopdieaaPj53
namespace Go.Proofs.Ythiifoleopdieaa
open Go.Eng
set_option linter.unusedVariables false
set_option linter.unusedSimpArgs false
theorem reads_valL {α : AV} (h : AS Try.prog 43 α) : ∃ l : List Val, α = .ds (mapC valC l) ∧ True := by
  obtain ⟨l, rfl, _, hx⟩ := as_slice Try.underlying43 h
  obtain ⟨m, rfl, _⟩ := mapC_of (c := valC) fun x h => shp_val (hx x h)
  exact ⟨m, rfl, trivial⟩
theorem valL_av : ∀ l : List Val, szJ l + l.length ≤ avLL (mapC valC l)
  | [] => by simp [szJ]
  | v :: l => by
    have h1 := valL_av l
    have h2 := valC_av v
    have h3 := wtL_len v.items
    have h4 := wtV_eq v
    have h5 : szJ (v :: l) = v.items.length + szJ l := by simp [szJ]
    rw [mapC_cons, avLL, h5, List.length_cons]
    omega
theorem valL_fit (l : List Val) (h : avLL (mapC valC l) ≤ 1048576) : ∀ v ∈ l, v.Fit := fun v hv => by
  have h1 : avL (valC v) ≤ avLL (mapC valC l) := avLL_mem (List.mem_map_of_mem (f := valC) hv)
  have h2 := valC_av v
  exact wtV_fit _ (by omega)
theorem sjoin_law (αs : List AV) (h : ASs Try.prog [43] αs) (hw : avL αs ≤ 1048576) : MeetsF Try.prog 4 [] 0 αs (.b true) := by
  obtain ⟨α1, rfl, h1⟩ := as_n1 h
  obtain ⟨x1, rfl, w1⟩ := reads_valL h1
  simp only [avL] at hw
  exact lawJoin x1 (by have := valL_av x1; simp only [avw] at hw; omega) (valL_fit x1 (by simp only [avw] at hw; omega)) (by have := valL_av x1; simp only [avw] at hw; omega) [] 0
set_option maxRecDepth 100000 in
theorem sjoin_lifted (os : Os) (started : os.Started) (H : Type) (enc : TypeId × Value → H) (F : Stop.Interp) :
    ReturnsInHanded {} Try.checked os 4 .any ((Rows.OpenSpec.upto Rows.serialJoinSpec).pre6 enc Try.prog Try.f4 Rows.serialJoinUptoRow.domain false) (((Rows.OpenSpec.upto Rows.serialJoinSpec).at F).post enc Try.prog Try.f4 false true false false) := by
  refine returnsInHanded_of_cond (C := Try.checked) (k := Rows.uptoSmall) rfl own started (by kernel_rfl) Try.func4
    (OpenSpec.witness (enc := enc) (C := Try.checked) (k := Rows.uptoSmall) rfl false ⟨#[], #[.slice none 0 0], []⟩ 8 (by kernel_rfl) (by kernel_rfl) (by kernel_rfl) (x := ([.nil], [], [])) (by kernel_rfl) (by kernel_rfl) (by kernel_rfl)) ?_
  intro W base args ds gs before hval hW _ hk _
  have hg : gs = [] := by
    obtain ⟨p, q, hA, hV, _⟩ := hW
    exact (ChangeShapes.trodVars_none hV).1
  subst hg
  have hk : Rows.uptoBulkAll ds ≤ 1048576 := by simpa [Rows.uptoSmall] using hk
  refine law_core (s := Rows.serialJoinSpec) (tb := 4) kids sized ?_ rfl (fun ds hl => ?_) rfl Try.underlying4 (m := fun αs h hb => sjoin_law αs h (Nat.le_trans hb hk)) hval hW
  · exact par_lt (by kernel_rfl)
  · obtain ⟨d1, rfl⟩ := ds_n1 (show ds.length = 1 from hl)
    exact ⟨rfl, rfl, rfl⟩
/-- The statement SerialJoin, where what it reads is not too much. -/
theorem sjoin_holds : Rows.SerialJoinUptoSaid :=
  OpenClaim.holds_of_cond 4 Try.f4 rfl rfl rfl rfl rfl rfl rfl ⟨rfl, rfl, rfl, rfl, rfl⟩ rfl rfl rfl rfl rfl (by kernel_rfl) Try.func4 (by kernel_rfl)
    (of_decide_eq_true (by kernel_rfl)) (by unfold Func.isWrapper; first | (rw [if_pos (by decide +kernel)]; kernel_rfl) | (rw [if_neg (by decide +kernel)]; exact ⟨rfl, rfl⟩))
    (fun os started H enc _ F => sjoin_lifted os started H enc F)
end Go.Proofs.Ythiifoleopdieaa
