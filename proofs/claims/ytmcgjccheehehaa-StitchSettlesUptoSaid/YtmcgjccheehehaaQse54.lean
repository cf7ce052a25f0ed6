/-
  The parts SbY SbZSet of the proof, in one file. Conditions: none.
-/
import Derived.Test.YtmcgjccheehehaaQse53
namespace Go.Proofs.Ytmcgjccheehehaa
open Go.Eng
set_option linter.unusedVariables false
set_option linter.unusedSimpArgs false
theorem mul_b {a b H : Nat} (h : a + b ≤ H + H) : a * b ≤ H * H := by
  rcases Nat.le_total a H with q | q
  · rcases Nat.le_total b H with r | r
    · exact Nat.mul_le_mul q r
    · obtain ⟨d, rfl⟩ : ∃ d, b = H + d := ⟨b - H, by omega⟩
      obtain ⟨c, rfl⟩ : ∃ c, H = c + d := ⟨H - d, by omega⟩
      have h2 : a * (c + d + d) ≤ c * (c + d + d) := Nat.mul_le_mul_right _ (by omega)
      have h3 : (c + d) * (c + d) = c * (c + d) + d * (c + d) := Nat.add_mul ..
      have h5 : c * (c + d + d) = c * (c + d) + c * d := by rw [Nat.mul_add c (c + d) d]
      have h6 : c * d ≤ d * (c + d) := by rw [Nat.mul_add, Nat.mul_comm c d]; omega
      omega
  · obtain ⟨d, rfl⟩ : ∃ d, a = H + d := ⟨a - H, by omega⟩
    obtain ⟨c, rfl⟩ : ∃ c, H = c + d := ⟨H - d, by omega⟩
    have h2 : (c + d + d) * b ≤ (c + d + d) * c := Nat.mul_le_mul_left _ (by omega)
    have h3 : (c + d) * (c + d) = (c + d) * c + (c + d) * d := Nat.mul_add ..
    have h5 : (c + d + d) * c = (c + d) * c + d * c := by rw [Nat.add_mul (c + d) d]
    have h6 : d * c ≤ (c + d) * d := by rw [Nat.add_mul, Nat.mul_comm d c]; omega
    omega
theorem str_w (l : List Pk) (v : Val) (h : avw (.ds (mapC pkC l)) + avw (vx v) ≤ 1048576) : wtV (stripV v l) ≤ 100000000000 ∧ wtKs l ≤ 1048576 ∧ wtV v ≤ 1048576 := by
  have h1 := picks_av l
  have h2 := vx_av v
  have h3 : avw (.ds (mapC pkC l)) = avLL (mapC pkC l) + 1 := rfl
  refine ⟨?_, by omega, by omega⟩
  have h4 := wt_strip v l
  have h5 := mul_b (a := wtV v) (b := 9 * (1 + wtKs l)) (H := 524293) (by omega)
  rw [Nat.mul_assoc] at h4
  rw [Nat.mul_left_comm] at h5
  omega
end Go.Proofs.Ytmcgjccheehehaa
namespace Go.Proofs.Ytmcgjccheehehaa
open Go.Eng
set_option linter.unusedVariables false
set_option linter.unusedSimpArgs false
theorem settles_law (αs : List AV) (h : ASs Try.prog [38, 25] αs) (hw : avL αs ≤ 1048576) : MeetsF Try.prog 9 [] 0 αs (.b true) := by
  obtain ⟨α1, α2, rfl, h1, h2⟩ := as_n2 h
  obtain ⟨x1, rfl, w1⟩ := reads_picks h1
  obtain ⟨x2, rfl, w2⟩ := reads_val h2
  simp only [avL] at hw
  exact lawSettles x1 x2 (by have := (str_w x1 x2 (by omega)).2.1; omega) (by have := (str_w x1 x2 (by omega)).2.2; omega) ((str_w x1 x2 (by omega)).1) [] 0
set_option maxRecDepth 100000 in
theorem settles_lifted (os : Os) (started : os.Started) (H : Type) (enc : TypeId × Value → H) (F : Stop.Interp) :
    ReturnsInHanded {} Try.checked os 9 .any ((Rows.OpenSpec.upto Rows.stitchSettlesSpec).pre6 enc Try.prog Try.f9 Rows.stitchSettlesUptoRow.domain false) (((Rows.OpenSpec.upto Rows.stitchSettlesSpec).at F).post enc Try.prog Try.f9 false true false false) := by
  refine returnsInHanded_of_cond (C := Try.checked) (k := Rows.uptoSmall) rfl own started (by kernel_rfl) Try.func9
    (OpenSpec.witness (enc := enc) (C := Try.checked) (k := Rows.uptoSmall) rfl false ⟨#[], #[.slice none 0 0, .agg #[.int .i64 0, .int .i64 0, .string ⟨#[]⟩, .slice none 0 0, .slice none 0 0]], []⟩ 8 (by kernel_rfl) (by kernel_rfl) (by kernel_rfl) (x := ([.nil, .agg [.lit (.int .i64 0), .lit (.int .i64 0), .lit (.string []), .nil, .nil]], [], [])) (by kernel_rfl) (by kernel_rfl) (by kernel_rfl)) ?_
  intro W base args ds gs before hval hW _ hk _
  have hg : gs = [] := by
    obtain ⟨p, q, hA, hV, _⟩ := hW
    exact (ChangeShapes.trodVars_none hV).1
  subst hg
  have hk : Rows.uptoBulkAll ds ≤ 1048576 := by simpa [Rows.uptoSmall] using hk
  refine law_core (s := Rows.stitchSettlesSpec) (tb := 4) kids sized ?_ rfl (fun ds hl => ?_) rfl Try.underlying4 (m := fun αs h hb => settles_law αs h (Nat.le_trans hb hk)) hval hW
  · exact par_lt (by kernel_rfl)
  · obtain ⟨d1, d2, rfl⟩ := ds_n2 (show ds.length = 2 from hl)
    exact ⟨rfl, rfl, rfl⟩
/-- The statement StitchSettles, where what it reads is not too much. -/
theorem settles_holds : Rows.StitchSettlesUptoSaid :=
  OpenClaim.holds_of_cond 9 Try.f9 rfl rfl rfl rfl rfl rfl rfl ⟨rfl, rfl, rfl, rfl, rfl⟩ rfl rfl rfl rfl rfl (by kernel_rfl) Try.func9 (by kernel_rfl)
    (of_decide_eq_true (by kernel_rfl)) (by unfold Func.isWrapper; first | (rw [if_pos (by decide +kernel)]; kernel_rfl) | (rw [if_neg (by decide +kernel)]; exact ⟨rfl, rfl⟩))
    (fun os started H enc _ F => settles_lifted os started H enc F)
end Go.Proofs.Ytmcgjccheehehaa
