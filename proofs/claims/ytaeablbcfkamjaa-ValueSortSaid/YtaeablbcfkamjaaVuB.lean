/-
  Values, as the statements' arguments are read, with the bytes that they take. Conditions: none.
-/
import Derived.Test.YtaeablbcfkamjaaVuA
namespace Go.Proofs.Ytaeablbcfkamjaa
open Go.Eng
set_option linter.unusedVariables false
set_option linter.unusedSimpArgs false
theorem bV : Try.prog.bytesOf 25 = 80 := by kernel_rfl
theorem bS : Try.prog.bytesOf 9 = 16 := by kernel_rfl
theorem bR : reachBytes = 140737488351232 := rfl
/-- A value that is read fits. -/
theorem val_reach (v : Val) : Shq Try.prog 25 (valC v) → v.Fit := by
  refine Val.ind (Q := fun v => Shq Try.prog 25 (valC v) → v.Fit) (fun v ih h => ?_) v
  rw [valC_eq] at h
  obtain ⟨parts, e0, hl, hp⟩ := shq_struct Try.underlying25 h
  obtain ⟨a, b, c, d, e, rfl⟩ := ds_n5 (show parts.length = 5 from hl)
  obtain ⟨a, rfl, _⟩ := shp_int Try.underlying3 (hp 0 _ a rfl rfl).shp
  obtain ⟨b, rfl, _⟩ := shp_int Try.underlying3 (hp 1 _ b rfl rfl).shp
  obtain ⟨c, rfl, _⟩ := shp_string Try.underlying9 (hp 2 _ c rfl rfl).shp
  obtain ⟨l, rfl, hl1, hx⟩ := shq_slice Try.underlying22 (hp 3 _ d rfl rfl)
  obtain ⟨k, rfl, hk1, _⟩ := shq_slice Try.underlying23 (hp 4 _ e rfl rfl)
  simp only [List.flatten_cons, List.flatten_nil, List.cons_append, List.nil_append, List.cons.injEq, AV.ds.injEq, and_true] at e0
  obtain ⟨_, _, _, e2, e3⟩ := e0
  rw [bV, bR, ← e2] at hl1
  rw [bS, bR, ← e3] at hk1
  simp only [mapC, stC, List.length_map] at hl1 hk1
  refine .mk v (by omega) (by omega) fun x hx' => ih x hx' (hx _ ?_)
  rw [← e2]
  exact List.mem_map_of_mem (f := valC) hx'
theorem mapC_ofQ {β : Type} {c : β → List AV} {Q : β → Prop} : ∀ {l : List (List AV)}, (∀ x ∈ l, ∃ y, x = c y ∧ Q y) → ∃ m : List β, l = mapC c m ∧ m.length = l.length ∧ ∀ y ∈ m, Q y
  | [], _ => ⟨[], rfl, rfl, fun y h => by cases h⟩
  | x :: l, h => by
    obtain ⟨y, rfl, hq⟩ := h x (by simp)
    obtain ⟨m, e, hl, hm⟩ := mapC_ofQ (c := c) (Q := Q) (l := l) fun z hz => h z (by simp [hz])
    refine ⟨y :: m, by rw [e, mapC_cons], by simp [hl], fun z hz => ?_⟩
    rcases List.mem_cons.1 hz with rfl | hz
    · exact hq
    · exact hm z hz
theorem readq_val {α : AV} (h : AQ Try.prog 25 α) : ∃ v : Val, α = vx v ∧ v.Fit := by
  obtain ⟨L, rfl, h2⟩ := aq_struct Try.underlying25 h
  obtain ⟨v, rfl⟩ := shp_val h2.shp
  exact ⟨v, by rw [valC_eq], val_reach v h2⟩
end Go.Proofs.Ytaeablbcfkamjaa
