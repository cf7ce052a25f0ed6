/-
  The parts DaR of the proof, in one file. Conditions: none.
-/
import Derived.Test.YthiifoleopdieaaPu52
namespace Go.Proofs.Ythiifoleopdieaa
open Go.Eng
set_option linter.unusedVariables false
set_option linter.unusedSimpArgs false
theorem shp_cel {L : List AV} (h : Shp Try.prog 69 L) : ∃ x : Cel, L = celC x := by
  obtain ⟨parts, rfl, hl, hp⟩ := shp_struct Try.underlying69 h
  obtain ⟨a, b, c, rfl⟩ := ds_n3 (show parts.length = 3 from hl)
  obtain ⟨a, rfl, _⟩ := shp_string Try.underlying9 (hp 0 _ a rfl rfl)
  obtain ⟨b, rfl, _⟩ := shp_string Try.underlying9 (hp 1 _ b rfl rfl)
  obtain ⟨v, rfl⟩ := shp_val (hp 2 _ c rfl rfl)
  refine ⟨.mk a b v, ?_⟩
  rw [valC_eq]
  rfl
theorem shp_itm {L : List AV} (h : Shp Try.prog 64 L) : ∃ x : Itm, L = itC x := by
  obtain ⟨parts, rfl, hl, hp⟩ := shp_struct Try.underlying64 h
  obtain ⟨a, b, rfl⟩ := ds_n2 (show parts.length = 2 from hl)
  obtain ⟨a, rfl, _⟩ := shp_string Try.underlying9 (hp 0 _ a rfl rfl)
  obtain ⟨l, rfl, _, hx⟩ := shp_slice Try.underlying62 (hp 1 _ b rfl rfl)
  obtain ⟨cs, rfl, _⟩ := mapC_of (c := celC) fun x h => shp_cel (hx x h)
  exact ⟨.mk a cs, rfl⟩
theorem shp_wri {L : List AV} (h : Shp Try.prog 71 L) : ∃ x : Wri, L = wrC x := by
  obtain ⟨parts, rfl, hl, hp⟩ := shp_struct Try.underlying71 h
  obtain ⟨a, b, c, d, rfl⟩ := ds_n4 (show parts.length = 4 from hl)
  obtain ⟨a, rfl, _⟩ := shp_string Try.underlying9 (hp 0 _ a rfl rfl)
  obtain ⟨b, rfl, _⟩ := shp_string Try.underlying9 (hp 1 _ b rfl rfl)
  obtain ⟨c, rfl, _⟩ := shp_int Try.underlying3 (hp 2 _ c rfl rfl)
  obtain ⟨x, rfl⟩ := shp_cel (hp 3 _ d rfl rfl)
  exact ⟨.mk a b c x, rfl⟩
theorem reads_data {α : AV} (h : AS Try.prog 33 α) : ∃ d : Dat, α = dx d ∧ True := by
  obtain ⟨L, rfl, h2⟩ := as_struct Try.underlying33 h
  obtain ⟨parts, rfl, hl, hp⟩ := shp_struct Try.underlying33 h2
  obtain ⟨a, b, rfl⟩ := ds_n2 (show parts.length = 2 from hl)
  obtain ⟨l, rfl, _, hx⟩ := shp_slice Try.underlying30 (hp 0 _ a rfl rfl)
  obtain ⟨is, rfl, _⟩ := mapC_of (c := itC) fun x h => shp_itm (hx x h)
  obtain ⟨l2, rfl, _, hy⟩ := shp_slice Try.underlying31 (hp 1 _ b rfl rfl)
  obtain ⟨ws, rfl, _⟩ := mapC_of (c := wrC) fun x h => shp_wri (hy x h)
  exact ⟨.mk is ws, rfl, trivial⟩
theorem reads_str {α : AV} (h : AS Try.prog 9 α) : ∃ s : ByteArray, α = .s s ∧ True := by
  obtain ⟨s, rfl, _⟩ := as_string Try.underlying9 h
  exact ⟨s, rfl, trivial⟩
theorem celC_av (c : Cel) : wtV c.v + 1 ≤ avL (celC c) := by
  have h := vx_av c.v
  simp only [vx, avw, avL, celC] at *
  omega
theorem dat_fit (d : Dat) (h : avw (dx d) ≤ 1048576) : d.Fit := by
  simp only [dx, avw, avL] at h
  have hi : d.i.length ≤ avLL (mapC itC d.i) := mapC_len_le (fun x => by simp [itC, avL, avw]; omega) _
  have hw : d.w.length ≤ avLL (mapC wrC d.w) := mapC_len_le (fun x => by simp [wrC, avL, avw]; omega) _
  refine .mk d (by omega) (by omega) (fun x hx => ?_) fun x hx => ?_
  · have h1 := avLL_mem (List.mem_map_of_mem (f := itC) hx)
    have h1 : avL (itC x) ≤ avLL (mapC itC d.i) := h1
    simp only [itC, avL, avw] at h1
    have h2 : x.l.length ≤ avLL (mapC celC x.l) := mapC_len_le (fun x => by have := celC_av x; omega) _
    refine ⟨by omega, fun c hc => wtV_fit _ ?_⟩
    have h3 : avL (celC c) ≤ avLL (mapC celC x.l) := avLL_mem (List.mem_map_of_mem (f := celC) hc)
    have := celC_av c
    omega
  · have h1 : avL (wrC x) ≤ avLL (mapC wrC d.w) := avLL_mem (List.mem_map_of_mem (f := wrC) hx)
    have h2 := vx_av x.c.v
    refine wtV_fit _ ?_
    simp only [wrC, vx, avw, avL] at h1 h2
    omega
end Go.Proofs.Ythiifoleopdieaa
