/-
  The parts SbY SbZKee of the proof, in one file. Conditions: none.
-/
import Derived.Test.YtmcgjccheehehaaQke53
namespace Go.Proofs.Ytmcgjccheehehaa
open Go.Eng
set_option linter.unusedVariables false
set_option linter.unusedSimpArgs false
theorem mul_b {a b H : Nat} (h : a + b ≤ H + H) : a * b ≤ H * H := by
  rcases Nat.le_total a H with q | q
  · rcases Nat.le_total b H with r | r
    · exact Nat.mul_le_mul q r
    · obtain ⟨d, rfl⟩ : ∃ d, b = H + d := ⟨b - H, by omega⟩
      obtain ⟨c, rfl⟩ : ∃ c, H = c + d := ⟨H - d, by omega⟩
      have h2 : a * (c + d + d) ≤ c * (c + d + d) := Nat.mul_le_mul_right _ (by omega)
      have h3 : (c + d) * (c + d) = c * (c + d) + d * (c + d) := Nat.add_mul ..
      have h5 : c * (c + d + d) = c * (c + d) + c * d := by rw [Nat.mul_add c (c + d) d]
      have h6 : c * d ≤ d * (c + d) := by rw [Nat.mul_add, Nat.mul_comm c d]; omega
      omega
  · obtain ⟨d, rfl⟩ : ∃ d, a = H + d := ⟨a - H, by omega⟩
    obtain ⟨c, rfl⟩ : ∃ c, H = c + d := ⟨H - d, by omega⟩
    have h2 : (c + d + d) * b ≤ (c + d + d) * c := Nat.mul_le_mul_left _ (by omega)
    have h3 : (c + d) * (c + d) = (c + d) * c + (c + d) * d := Nat.mul_add ..
    have h5 : (c + d + d) * c = (c + d) * c + d * c := by rw [Nat.add_mul (c + d) d]
    have h6 : d * c ≤ (c + d) * d := by rw [Nat.add_mul, Nat.mul_comm d c]; omega
    omega
theorem mrg_w (f : Fet) (v : Val) (r : List Val) (h : avw (fx f) + avw (vx v) + avw (.ds (mapC valC r)) ≤ 1048576) : wtV (mergeV f v r) ≤ 1000000000000 ∧ wtL r ≤ 1048576 ∧ ∀ x ∈ r, wtV x ≤ 1048576 := by
  have h1 := (fet_av f v (by omega)).2
  have h2 := vals_av r
  have h3 : avw (.ds (mapC valC r)) = avLL (mapC valC r) + 1 := rfl
  have hx : ∀ x ∈ r, wtV x ≤ wtL r := fun x hx => wtL_mem hx
  refine ⟨?_, by omega, fun x q => by have := hx x q; omega⟩
  have h4 := wt_merge f (3 + 2 * wtKs f.pk + wtL r) (fun m => by have := wt_failO f m; omega) v r fun x q => by have := hx x q; omega
  have h5 := mul_b (a := wtV v) (b := 1 + (wtKs f.pk + wtL r)) (H := 524288) (by omega)
  have h6 : wtV v * (1 + (3 + 2 * wtKs f.pk + wtL r)) ≤ 3 * (wtV v * (1 + (wtKs f.pk + wtL r))) + wtV v := by
    have e1 : ∀ a x : Nat, 3 * (a * x) + a = a * (3 * x + 1) := fun a x => by rw [Nat.mul_add, Nat.mul_one, Nat.mul_left_comm]
    rw [e1]
    exact Nat.mul_le_mul_left _ (by omega)
  omega
end Go.Proofs.Ytmcgjccheehehaa
namespace Go.Proofs.Ytmcgjccheehehaa
open Go.Eng
set_option linter.unusedVariables false
set_option linter.unusedSimpArgs false
theorem keeps_law (αs : List AV) (h : ASs Try.prog [47, 25, 22] αs) (hw : avL αs ≤ 1048576) : MeetsF Try.prog 10 [] 0 αs (.b true) := by
  obtain ⟨α1, α2, α3, rfl, h1, h2, h3⟩ := as_n3 h
  obtain ⟨x1, rfl, w1⟩ := reads_fet h1
  obtain ⟨x2, rfl, w2⟩ := reads_val h2
  obtain ⟨x3, rfl, w3⟩ := reads_vals h3
  simp only [avL] at hw
  exact lawKeeps x1 x2 x3 (fet_av x1 x2 (by omega)).1 (by have := (fet_av x1 x2 (by omega)).2; omega) (by have := (mrg_w x1 x2 x3 (by omega)).2.1; omega) (fun x hx => by have := (mrg_w x1 x2 x3 (by omega)).2.2 x hx; omega) (mrg_w x1 x2 x3 (by omega)).1 [] 0
set_option maxRecDepth 100000 in
theorem keeps_lifted (os : Os) (started : os.Started) (H : Type) (enc : TypeId × Value → H) (F : Stop.Interp) :
    ReturnsInHanded {} Try.checked os 10 .any ((Rows.OpenSpec.upto Rows.stitchKeepsSpec).pre6 enc Try.prog Try.f10 Rows.stitchKeepsUptoRow.domain false) (((Rows.OpenSpec.upto Rows.stitchKeepsSpec).at F).post enc Try.prog Try.f10 false true false false) := by
  refine returnsInHanded_of_cond (C := Try.checked) (k := Rows.uptoSmall) rfl own started (by kernel_rfl) Try.func10
    (OpenSpec.witness (enc := enc) (C := Try.checked) (k := Rows.uptoSmall) rfl false ⟨#[], #[.agg #[.int .i64 0, .int .i64 0, .slice none 0 0, .string ⟨#[]⟩, .slice none 0 0, .int .i64 0, .slice none 0 0, .slice none 0 0], .agg #[.int .i64 0, .int .i64 0, .string ⟨#[]⟩, .slice none 0 0, .slice none 0 0], .slice none 0 0], []⟩ 8 (by kernel_rfl) (by kernel_rfl) (by kernel_rfl) (x := ([.agg [.lit (.int .i64 0), .lit (.int .i64 0), .nil, .lit (.string []), .nil, .lit (.int .i64 0), .nil, .nil], .agg [.lit (.int .i64 0), .lit (.int .i64 0), .lit (.string []), .nil, .nil], .nil], [], [])) (by kernel_rfl) (by kernel_rfl) (by kernel_rfl)) ?_
  intro W base args ds gs before hval hW _ hk _
  have hg : gs = [] := by
    obtain ⟨p, q, hA, hV, _⟩ := hW
    exact (ChangeShapes.trodVars_none hV).1
  subst hg
  have hk : Rows.uptoBulkAll ds ≤ 1048576 := by simpa [Rows.uptoSmall] using hk
  refine law_core (s := Rows.stitchKeepsSpec) (tb := 4) kids sized ?_ rfl (fun ds hl => ?_) rfl Try.underlying4 (m := fun αs h hb => keeps_law αs h (Nat.le_trans hb hk)) hval hW
  · exact par_lt (by kernel_rfl)
  · obtain ⟨d1, d2, d3, rfl⟩ := ds_n3 (show ds.length = 3 from hl)
    exact ⟨rfl, rfl, rfl⟩
/-- The statement StitchKeeps, where what it reads is not too much. -/
theorem keeps_holds : Rows.StitchKeepsUptoSaid :=
  OpenClaim.holds_of_cond 10 Try.f10 rfl rfl rfl rfl rfl rfl rfl ⟨rfl, rfl, rfl, rfl, rfl⟩ rfl rfl rfl rfl rfl (by kernel_rfl) Try.func10 (by kernel_rfl)
    (of_decide_eq_true (by kernel_rfl)) (by unfold Func.isWrapper; first | (rw [if_pos (by decide +kernel)]; kernel_rfl) | (rw [if_neg (by decide +kernel)]; exact ⟨rfl, rfl⟩))
    (fun os started H enc _ F => keeps_lifted os started H enc F)
end Go.Proofs.Ytmcgjccheehehaa
