/-
  The statement about merged patches. Conditions: none.
-/
import Derived.Test.YtmcgjccheehehaaVaR
import Derived.Test.YtmcgjccheehehaaDfK
namespace Go.Proofs.Ytmcgjccheehehaa
open Go.Eng
set_option linter.unusedVariables false
set_option linter.unusedSimpArgs false
theorem shp_prb {L : List AV} (h : Shp Try.prog 125 L) : ∃ x : Prb, L = prbC x := by
  obtain ⟨parts, rfl, hl, hp⟩ := shp_struct Try.underlying125 h
  obtain ⟨a, b, rfl⟩ := ds_n2 (show parts.length = 2 from hl)
  obtain ⟨l, rfl, _, hx⟩ := shp_slice Try.underlying22 (hp 0 _ a rfl rfl)
  obtain ⟨b, rfl, _⟩ := shp_string Try.underlying9 (hp 1 _ b rfl rfl)
  obtain ⟨vs, rfl, _⟩ := mapC_of (c := valC) fun x h => shp_val (hx x h)
  exact ⟨.mk vs b, rfl⟩
theorem shp_pat {L : List AV} (h : Shp Try.prog 32 L) : ∃ x : Pat, L = patC x := by
  obtain ⟨parts, rfl, hl, hp⟩ := shp_struct Try.underlying32 h
  obtain ⟨a, b, c, d, rfl⟩ := ds_n4 (show parts.length = 4 from hl)
  obtain ⟨a, rfl, _⟩ := shp_string Try.underlying9 (hp 0 _ a rfl rfl)
  obtain ⟨l, rfl, _, hx⟩ := shp_slice Try.underlying22 (hp 1 _ b rfl rfl)
  obtain ⟨vs, rfl, _⟩ := mapC_of (c := valC) fun x h => shp_val (hx x h)
  obtain ⟨v, rfl⟩ := shp_val (hp 2 _ c rfl rfl)
  obtain ⟨q, rfl, _, hy⟩ := shp_slice Try.underlying30 (hp 3 _ d rfl rfl)
  obtain ⟨ps, rfl, _⟩ := mapC_of (c := prbC) fun x h => shp_prb (hy x h)
  refine ⟨.mk a vs v ps, ?_⟩
  rw [valC_eq]
  rfl
theorem reads_patches {α : AV} (h : AS Try.prog 26 α) : ∃ l : List Pat, α = .ds (mapC patC l) ∧ True := by
  obtain ⟨l, rfl, _, hx⟩ := as_slice Try.underlying26 h
  obtain ⟨m, rfl, _⟩ := mapC_of (c := patC) fun x h => shp_pat (hx x h)
  exact ⟨m, rfl, trivial⟩
theorem pats_av : ∀ l : List Pat, wtP l + l.length ≤ avLL (mapC patC l)
  | [] => by simp [wtP]
  | x :: l => by
    have h1 := pats_av l
    have h2 := vx_av x.d
    simp only [vx, avw, avL] at h2
    rw [mapC_cons, avLL, wtP]
    simp only [patC, avL, avw, List.length_cons]
    omega
theorem merges_law (αs : List AV) (h : ASs Try.prog [25, 26] αs) (hw : avL αs ≤ 1048576) : MeetsF Try.prog 3 [] 0 αs (.b true) := by
  obtain ⟨α1, α2, rfl, h1, h2⟩ := as_n2 h
  obtain ⟨x1, rfl, w1⟩ := reads_val h1
  obtain ⟨x2, rfl, w2⟩ := reads_patches h2
  simp only [avL] at hw
  exact lawMerges x1 x2 (by have := pats_av x2; have := vx_av x1; simp only [vx, avw, avL] at *; omega) (by have := pats_av x2; have := vx_av x1; simp only [vx, avw, avL] at *; omega) [] 0
set_option maxRecDepth 100000 in
theorem merges_lifted (os : Os) (started : os.Started) (H : Type) (enc : TypeId × Value → H) (F : Stop.Interp) :
    ReturnsInHanded {} Try.checked os 3 .any ((Rows.OpenSpec.upto Rows.deferralMergesSpec).pre6 enc Try.prog Try.f3 Rows.deferralMergesUptoRow.domain false) (((Rows.OpenSpec.upto Rows.deferralMergesSpec).at F).post enc Try.prog Try.f3 false true false false) := by
  refine returnsInHanded_of_cond (C := Try.checked) (k := Rows.uptoSmall) rfl own started (by kernel_rfl) Try.func3
    (OpenSpec.witness (enc := enc) (C := Try.checked) (k := Rows.uptoSmall) rfl false ⟨#[], #[.agg #[.int .i64 0, .int .i64 0, .string ⟨#[]⟩, .slice none 0 0, .slice none 0 0], .slice none 0 0], []⟩ 8 (by kernel_rfl) (by kernel_rfl) (by kernel_rfl) (x := ([.agg [.lit (.int .i64 0), .lit (.int .i64 0), .lit (.string []), .nil, .nil], .nil], [], [])) (by kernel_rfl) (by kernel_rfl) (by kernel_rfl)) ?_
  intro W base args ds gs before hval hW _ hk _
  have hg : gs = [] := by
    obtain ⟨p, q, hA, hV, _⟩ := hW
    exact (ChangeShapes.trodVars_none hV).1
  subst hg
  have hk : Rows.uptoBulkAll ds ≤ 1048576 := by simpa [Rows.uptoSmall] using hk
  refine law_core (s := Rows.deferralMergesSpec) (tb := 4) kids sized ?_ rfl (fun ds hl => ?_) rfl Try.underlying4 (m := fun αs h hb => merges_law αs h (Nat.le_trans hb hk)) hval hW
  · exact par_lt (by kernel_rfl)
  · obtain ⟨d1, d2, rfl⟩ := ds_n2 (show ds.length = 2 from hl)
    exact ⟨rfl, rfl, rfl⟩
/-- The statement DeferralMerges, where what it reads is not too much. -/
theorem merges_holds : Rows.DeferralMergesUptoSaid :=
  OpenClaim.holds_of_cond 3 Try.f3 rfl rfl rfl rfl rfl rfl rfl ⟨rfl, rfl, rfl, rfl, rfl⟩ rfl rfl rfl rfl rfl (by kernel_rfl) Try.func3 (by kernel_rfl)
    (of_decide_eq_true (by kernel_rfl)) (by unfold Func.isWrapper; first | (rw [if_pos (by decide +kernel)]; kernel_rfl) | (rw [if_neg (by decide +kernel)]; exact ⟨rfl, rfl⟩))
    (fun os started H enc _ F => merges_lifted os started H enc F)
end Go.Proofs.Ytmcgjccheehehaa
