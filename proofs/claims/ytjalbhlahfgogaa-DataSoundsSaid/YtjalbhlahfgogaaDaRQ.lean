/-
  Datasets, as the statements' arguments are read, with the bytes that they take. Conditions: none.
-/
import Derived.Test.YtjalbhlahfgogaaVaRQ
import Derived.Test.YtjalbhlahfgogaaDaR
namespace Go.Proofs.Ytjalbhlahfgogaa
open Go.Eng
set_option linter.unusedVariables false
set_option linter.unusedSimpArgs false
theorem bI : Try.prog.bytesOf 30 = 40 := by kernel_rfl
theorem bC : Try.prog.bytesOf 36 = 112 := by kernel_rfl
theorem bW : Try.prog.bytesOf 38 = 152 := by kernel_rfl
theorem shq_cel {L : List AV} (h : Shq Try.prog 36 L) : ∃ x : Cel, L = celC x ∧ x.v.Fit := by
  obtain ⟨parts, rfl, hl, hp⟩ := shq_struct Try.underlying36 h
  obtain ⟨a, b, c, rfl⟩ := ds_n3 (show parts.length = 3 from hl)
  obtain ⟨a, rfl, _⟩ := shp_string Try.underlying9 (hp 0 _ a rfl rfl).shp
  obtain ⟨b, rfl, _⟩ := shp_string Try.underlying9 (hp 1 _ b rfl rfl).shp
  have h2 : Shq Try.prog 34 c := hp 2 _ c rfl rfl
  obtain ⟨v, rfl⟩ := shp_val h2.shp
  refine ⟨.mk a b v, ?_, val_reach v h2⟩
  rw [valC_eq]
  rfl
theorem shq_itm {L : List AV} (h : Shq Try.prog 30 L) : ∃ x : Itm, L = itC x ∧ (x.l.length ≤ 3600000000000 ∧ ∀ c ∈ x.l, c.v.Fit) := by
  obtain ⟨parts, rfl, hl, hp⟩ := shq_struct Try.underlying30 h
  obtain ⟨a, b, rfl⟩ := ds_n2 (show parts.length = 2 from hl)
  obtain ⟨a, rfl, _⟩ := shp_string Try.underlying9 (hp 0 _ a rfl rfl).shp
  obtain ⟨l, rfl, h1, hx⟩ := shq_slice Try.underlying28 (hp 1 _ b rfl rfl)
  obtain ⟨cs, rfl, h2, h3⟩ := mapC_ofQ (c := celC) fun x h => shq_cel (hx x h)
  rw [bC, bR] at h1
  exact ⟨.mk a cs, rfl, show cs.length ≤ 3600000000000 by omega, h3⟩
theorem shq_wri {L : List AV} (h : Shq Try.prog 38 L) : ∃ x : Wri, L = wrC x ∧ x.c.v.Fit := by
  obtain ⟨parts, rfl, hl, hp⟩ := shq_struct Try.underlying38 h
  obtain ⟨a, b, c, d, rfl⟩ := ds_n4 (show parts.length = 4 from hl)
  obtain ⟨a, rfl, _⟩ := shp_string Try.underlying9 (hp 0 _ a rfl rfl).shp
  obtain ⟨b, rfl, _⟩ := shp_string Try.underlying9 (hp 1 _ b rfl rfl).shp
  obtain ⟨c, rfl, _⟩ := shp_int Try.underlying3 (hp 2 _ c rfl rfl).shp
  obtain ⟨x, rfl, hx⟩ := shq_cel (hp 3 _ d rfl rfl)
  exact ⟨.mk a b c x, rfl, hx⟩
theorem readq_data {α : AV} (h : AQ Try.prog 25 α) : ∃ d : Dat, α = dx d ∧ d.Fit := by
  obtain ⟨L, rfl, h2⟩ := aq_struct Try.underlying25 h
  obtain ⟨parts, rfl, hl, hp⟩ := shq_struct Try.underlying25 h2
  obtain ⟨a, b, rfl⟩ := ds_n2 (show parts.length = 2 from hl)
  obtain ⟨l, rfl, h1, hx⟩ := shq_slice Try.underlying22 (hp 0 _ a rfl rfl)
  obtain ⟨is, rfl, h3, h4⟩ := mapC_ofQ (c := itC) fun x h => shq_itm (hx x h)
  obtain ⟨l2, rfl, h5, hy⟩ := shq_slice Try.underlying23 (hp 1 _ b rfl rfl)
  obtain ⟨ws, rfl, h6, h7⟩ := mapC_ofQ (c := wrC) fun x h => shq_wri (hy x h)
  rw [bI, bR] at h1
  rw [bW, bR] at h5
  exact ⟨.mk is ws, rfl, .mk _ (show is.length ≤ 3600000000000 by omega) (show ws.length ≤ 3600000000000 by omega) h4 h7⟩
end Go.Proofs.Ytjalbhlahfgogaa
