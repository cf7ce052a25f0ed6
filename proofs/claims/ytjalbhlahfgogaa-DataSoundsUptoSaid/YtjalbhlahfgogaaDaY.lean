/-
  The statements about items found by keys, and sound datasets. Conditions: none.
-/
import Derived.Test.YtjalbhlahfgogaaDaR
import Derived.Test.YtjalbhlahfgogaaDaI
namespace Go.Proofs.Ytjalbhlahfgogaa
open Go.Eng
set_option linter.unusedVariables false
set_option linter.unusedSimpArgs false
theorem shp_key {L : List AV} (h : Shp Try.prog 53 L) : ∃ x : Ky, L = kyC x := by
  obtain ⟨parts, rfl, hl, hp⟩ := shp_struct Try.underlying53 h
  obtain ⟨a, b, c, rfl⟩ := ds_n3 (show parts.length = 3 from hl)
  obtain ⟨a, rfl, _⟩ := shp_string Try.underlying9 (hp 0 _ a rfl rfl)
  obtain ⟨b, rfl, _⟩ := shp_int Try.underlying3 (hp 1 _ b rfl rfl)
  obtain ⟨l, rfl, _, hx⟩ := shp_slice Try.underlying32 (hp 2 _ c rfl rfl)
  obtain ⟨ks, rfl, _⟩ := mapC_of (c := st1) fun x h => by
    obtain ⟨s, rfl, _⟩ := shp_string Try.underlying9 (hx x h)
    exact ⟨s, rfl⟩
  exact ⟨.mk a b ks, rfl⟩
theorem reads_key {α : AV} (h : AS Try.prog 53 α) : ∃ k : Ky, α = kx k ∧ True := by
  obtain ⟨L, rfl, h2⟩ := as_struct Try.underlying53 h
  obtain ⟨k, rfl⟩ := shp_key h2
  exact ⟨k, rfl, trivial⟩
theorem reads_keys {α : AV} (h : AS Try.prog 56 α) : ∃ l : List Ky, α = .ds (mapC kyC l) ∧ True := by
  obtain ⟨l, rfl, _, hx⟩ := as_slice Try.underlying56 h
  obtain ⟨vs, rfl, _⟩ := mapC_of (c := kyC) fun x h => shp_key (hx x h)
  exact ⟨vs, rfl, trivial⟩
theorem reads_vals {α : AV} (h : AS Try.prog 31 α) : ∃ l : List Val, α = .ds (mapC valC l) ∧ True := by
  obtain ⟨l, rfl, _, hx⟩ := as_slice Try.underlying31 h
  obtain ⟨vs, rfl, _⟩ := mapC_of (c := valC) fun x h => shp_val (hx x h)
  exact ⟨vs, rfl, trivial⟩
theorem vals_fit (l : List Val) (h : avw (.ds (mapC valC l)) ≤ 1048576) : l.length ≤ 1000000000000 ∧ ∀ x ∈ l, x.Fit := by
  simp only [avw] at h
  have h1 : l.length ≤ avLL (mapC valC l) := mapC_len_le (fun x => by have := valC_av x; omega) _
  refine ⟨by omega, fun x hx => wtV_fit x ?_⟩
  have h2 : avL (valC x) ≤ avLL (mapC valC l) := avLL_mem (List.mem_map_of_mem (f := valC) hx)
  have := valC_av x
  omega
theorem keys_fit (l : List Ky) (h : avw (.ds (mapC kyC l)) ≤ 1048576) : l.length ≤ 1000000000 ∧ ∀ k ∈ l, k.l.length ≤ 1000000000 := by
  simp only [avw] at h
  have h1 : l.length ≤ avLL (mapC kyC l) := mapC_len_le (fun x => by simp [kyC, avL, avw]; omega) _
  refine ⟨by omega, fun k hk => ?_⟩
  have h2 : avL (kyC k) ≤ avLL (mapC kyC l) := avLL_mem (List.mem_map_of_mem (f := kyC) hk)
  simp only [kyC, avL, avw] at h2
  have h3 : k.l.length ≤ avLL (stC k.l) := mapC_len_le st1_av _
  omega
theorem finds_law (αs : List AV) (h : ASs Try.prog [25, 53, 31] αs) (hw : avL αs ≤ 1048576) : MeetsF Try.prog 8 [] 0 αs (.b true) := by
  obtain ⟨α1, α2, α3, rfl, h1, h2, h3⟩ := as_n3 h
  obtain ⟨x1, rfl, w1⟩ := reads_data h1
  obtain ⟨x2, rfl, w2⟩ := reads_key h2
  obtain ⟨x3, rfl, w3⟩ := reads_vals h3
  simp only [avL] at hw
  exact lawFinds x1 (dat_fit x1 (by omega)) x2.t x2.g x2.l x3 (vals_fit x3 (by omega)).1 (vals_fit x3 (by omega)).2 [] 0
set_option maxRecDepth 100000 in
theorem finds_lifted (os : Os) (started : os.Started) (H : Type) (enc : TypeId × Value → H) (F : Stop.Interp) :
    ReturnsInHanded {} Try.checked os 8 .any ((Rows.OpenSpec.upto Rows.dataFindsSpec).pre6 enc Try.prog Try.f8 Rows.dataFindsUptoRow.domain false) (((Rows.OpenSpec.upto Rows.dataFindsSpec).at F).post enc Try.prog Try.f8 false true false false) := by
  refine returnsInHanded_of_cond (C := Try.checked) (k := Rows.uptoSmall) rfl own started (by kernel_rfl) Try.func8
    (OpenSpec.witness (enc := enc) (C := Try.checked) (k := Rows.uptoSmall) rfl false ⟨#[], #[.agg #[.slice none 0 0, .slice none 0 0], .agg #[.string ⟨#[]⟩, .int .i64 0, .slice none 0 0], .slice none 0 0], []⟩ 8 (by kernel_rfl) (by kernel_rfl) (by kernel_rfl) (x := ([.agg [.nil, .nil], .agg [.lit (.string []), .lit (.int .i64 0), .nil], .nil], [], [])) (by kernel_rfl) (by kernel_rfl) (by kernel_rfl)) ?_
  intro W base args ds gs before hval hW _ hk _
  have hg : gs = [] := by
    obtain ⟨p, q, hA, hV, _⟩ := hW
    exact (ChangeShapes.trodVars_none hV).1
  subst hg
  have hk : Rows.uptoBulkAll ds ≤ 1048576 := by simpa [Rows.uptoSmall] using hk
  refine law_core (s := Rows.dataFindsSpec) (tb := 4) kids sized ?_ rfl (fun ds hl => ?_) rfl Try.underlying4 (m := fun αs h hb => finds_law αs h (Nat.le_trans hb hk)) hval hW
  · exact par_lt (by kernel_rfl)
  · obtain ⟨d1, d2, d3, rfl⟩ := ds_n3 (show ds.length = 3 from hl)
    exact ⟨rfl, rfl, rfl⟩
/-- The statement DataFinds, where what it reads is not too much. -/
theorem finds_holds : Rows.DataFindsUptoSaid :=
  OpenClaim.holds_of_cond 8 Try.f8 rfl rfl rfl rfl rfl rfl rfl ⟨rfl, rfl, rfl, rfl, rfl⟩ rfl rfl rfl rfl rfl (by kernel_rfl) Try.func8 (by kernel_rfl)
    (of_decide_eq_true (by kernel_rfl)) (by unfold Func.isWrapper; first | (rw [if_pos (by decide +kernel)]; kernel_rfl) | (rw [if_neg (by decide +kernel)]; exact ⟨rfl, rfl⟩))
    (fun os started H enc _ F => finds_lifted os started H enc F)
theorem sounds_law (αs : List AV) (h : ASs Try.prog [56, 25] αs) (hw : avL αs ≤ 1048576) : MeetsF Try.prog 9 [] 0 αs (.b true) := by
  obtain ⟨α1, α2, rfl, h1, h2⟩ := as_n2 h
  obtain ⟨x1, rfl, w1⟩ := reads_keys h1
  obtain ⟨x2, rfl, w2⟩ := reads_data h2
  simp only [avL] at hw
  exact lawSounds x2 (dat_fit x2 (by omega)) x1 (keys_fit x1 (by omega)).1 (keys_fit x1 (by omega)).2 [] 0
set_option maxRecDepth 100000 in
theorem sounds_lifted (os : Os) (started : os.Started) (H : Type) (enc : TypeId × Value → H) (F : Stop.Interp) :
    ReturnsInHanded {} Try.checked os 9 .any ((Rows.OpenSpec.upto Rows.dataSoundsSpec).pre6 enc Try.prog Try.f9 Rows.dataSoundsUptoRow.domain false) (((Rows.OpenSpec.upto Rows.dataSoundsSpec).at F).post enc Try.prog Try.f9 false true false false) := by
  refine returnsInHanded_of_cond (C := Try.checked) (k := Rows.uptoSmall) rfl own started (by kernel_rfl) Try.func9
    (OpenSpec.witness (enc := enc) (C := Try.checked) (k := Rows.uptoSmall) rfl false ⟨#[], #[.slice none 0 0, .agg #[.slice none 0 0, .slice none 0 0]], []⟩ 8 (by kernel_rfl) (by kernel_rfl) (by kernel_rfl) (x := ([.nil, .agg [.nil, .nil]], [], [])) (by kernel_rfl) (by kernel_rfl) (by kernel_rfl)) ?_
  intro W base args ds gs before hval hW _ hk _
  have hg : gs = [] := by
    obtain ⟨p, q, hA, hV, _⟩ := hW
    exact (ChangeShapes.trodVars_none hV).1
  subst hg
  have hk : Rows.uptoBulkAll ds ≤ 1048576 := by simpa [Rows.uptoSmall] using hk
  refine law_core (s := Rows.dataSoundsSpec) (tb := 4) kids sized ?_ rfl (fun ds hl => ?_) rfl Try.underlying4 (m := fun αs h hb => sounds_law αs h (Nat.le_trans hb hk)) hval hW
  · exact par_lt (by kernel_rfl)
  · obtain ⟨d1, d2, rfl⟩ := ds_n2 (show ds.length = 2 from hl)
    exact ⟨rfl, rfl, rfl⟩
/-- The statement DataSounds, where what it reads is not too much. -/
theorem sounds_holds : Rows.DataSoundsUptoSaid :=
  OpenClaim.holds_of_cond 9 Try.f9 rfl rfl rfl rfl rfl rfl rfl ⟨rfl, rfl, rfl, rfl, rfl⟩ rfl rfl rfl rfl rfl (by kernel_rfl) Try.func9 (by kernel_rfl)
    (of_decide_eq_true (by kernel_rfl)) (by unfold Func.isWrapper; first | (rw [if_pos (by decide +kernel)]; kernel_rfl) | (rw [if_neg (by decide +kernel)]; exact ⟨rfl, rfl⟩))
    (fun os started H enc _ F => sounds_lifted os started H enc F)
end Go.Proofs.Ytjalbhlahfgogaa
