/-
  Values, as the statements' arguments are read, with the bytes that they take. Conditions: none.
-/
import Derived.Test.YtjalbhlahfgogaaVaR
import Derived.Test.YtjalbhlahfgogaaEngXQ
namespace Go.Proofs.Ytjalbhlahfgogaa
open Go.Eng
set_option linter.unusedVariables false
set_option linter.unusedSimpArgs false
theorem bV : Try.prog.bytesOf 34 = 80 := by kernel_rfl
theorem bS : Try.prog.bytesOf 9 = 16 := by kernel_rfl
theorem bR : reachBytes = 140737488351232 := rfl
/-- A value that is read fits. -/
theorem val_reach (v : Val) : Shq Try.prog 34 (valC v) → v.Fit := by
  refine Val.ind (Q := fun v => Shq Try.prog 34 (valC v) → v.Fit) (fun v ih h => ?_) v
  rw [valC_eq] at h
  obtain ⟨parts, e0, hl, hp⟩ := shq_struct Try.underlying34 h
  obtain ⟨a, b, c, d, e, rfl⟩ := ds_n5 (show parts.length = 5 from hl)
  obtain ⟨a, rfl, _⟩ := shp_int Try.underlying3 (hp 0 _ a rfl rfl).shp
  obtain ⟨b, rfl, _⟩ := shp_int Try.underlying3 (hp 1 _ b rfl rfl).shp
  obtain ⟨c, rfl, _⟩ := shp_string Try.underlying9 (hp 2 _ c rfl rfl).shp
  obtain ⟨l, rfl, hl1, hx⟩ := shq_slice Try.underlying31 (hp 3 _ d rfl rfl)
  obtain ⟨k, rfl, hk1, _⟩ := shq_slice Try.underlying32 (hp 4 _ e rfl rfl)
  simp only [List.flatten_cons, List.flatten_nil, List.cons_append, List.nil_append, List.cons.injEq, AV.ds.injEq, and_true] at e0
  obtain ⟨_, _, _, e2, e3⟩ := e0
  rw [bV, bR, ← e2] at hl1
  rw [bS, bR, ← e3] at hk1
  simp only [mapC, stC, List.length_map] at hl1 hk1
  refine .mk v (by omega) (by omega) fun x hx' => ih x hx' (hx _ ?_)
  rw [← e2]
  exact List.mem_map_of_mem (f := valC) hx'
theorem mapC_ofQ {β : Type} {c : β → List AV} {Q : β → Prop} : ∀ {l : List (List AV)}, (∀ x ∈ l, ∃ y, x = c y ∧ Q y) → ∃ m : List β, l = mapC c m ∧ m.length = l.length ∧ ∀ y ∈ m, Q y
  | [], _ => ⟨[], rfl, rfl, fun y h => by cases h⟩
  | x :: l, h => by
    obtain ⟨y, rfl, hq⟩ := h x (by simp)
    obtain ⟨m, e, hl, hm⟩ := mapC_ofQ (c := c) (Q := Q) (l := l) fun z hz => h z (by simp [hz])
    refine ⟨y :: m, by rw [e, mapC_cons], by simp [hl], fun z hz => ?_⟩
    rcases List.mem_cons.1 hz with rfl | hz
    · exact hq
    · exact hm z hz
theorem readq_val {α : AV} (h : AQ Try.prog 34 α) : ∃ v : Val, α = vx v ∧ v.Fit := by
  obtain ⟨L, rfl, h2⟩ := aq_struct Try.underlying34 h
  obtain ⟨v, rfl⟩ := shp_val h2.shp
  exact ⟨v, by rw [valC_eq], val_reach v h2⟩
theorem readq_str {α : AV} (h : AQ Try.prog 9 α) : ∃ s : ByteArray, α = .s s ∧ s.size ≤ 140737488351232 := by
  obtain ⟨s, rfl, hs⟩ := aq_string Try.underlying9 h
  exact ⟨s, rfl, hs⟩
theorem readq_num {α : AV} (h : AQ Try.prog 3 α) : ∃ n : Int, α = .i .i64 n ∧ True := by
  obtain ⟨n, rfl, _⟩ := as_int Try.underlying3 h.as
  exact ⟨n, rfl, trivial⟩
theorem shq_strs {α : AV} (h : Shq Try.prog 32 [α]) : ∃ l : List ByteArray, α = .ds (stC l) ∧ l.length * 16 ≤ 140737488355327 := by
  obtain ⟨l, e0, hl, hx⟩ := shq_slice Try.underlying32 h
  cases e0
  obtain ⟨ks, rfl, e⟩ := mapC_of (c := st1) fun x h => by
    obtain ⟨s, rfl, _⟩ := shp_string Try.underlying9 (hx x h).shp
    exact ⟨s, rfl⟩
  rw [bS, bR] at hl
  exact ⟨ks, rfl, by omega⟩
theorem shq_vals {α : AV} (h : Shq Try.prog 31 [α]) : ∃ l : List Val, α = .ds (mapC valC l) ∧ (l.length * 80 ≤ 140737488355327 ∧ ∀ x ∈ l, x.Fit) := by
  obtain ⟨l, e0, hl, hx⟩ := shq_slice Try.underlying31 h
  cases e0
  obtain ⟨vs, rfl, e⟩ := mapC_of (c := valC) fun x h => shp_val (hx x h).shp
  rw [bV, bR] at hl
  exact ⟨vs, rfl, by omega, fun x hx' => val_reach x (hx _ (List.mem_map_of_mem (f := valC) hx'))⟩
theorem readq_strs {α : AV} (h : AQ Try.prog 32 α) : ∃ l : List ByteArray, α = .ds (stC l) ∧ l.length * 16 ≤ 140737488355327 := by
  rcases h with ⟨fs, L, hs, _⟩ | ⟨_, h⟩
  · rw [Try.underlying32] at hs; cases hs
  · exact shq_strs h
theorem readq_vals {α : AV} (h : AQ Try.prog 31 α) : ∃ l : List Val, α = .ds (mapC valC l) ∧ (l.length * 80 ≤ 140737488355327 ∧ ∀ x ∈ l, x.Fit) := by
  rcases h with ⟨fs, L, hs, _⟩ | ⟨_, h⟩
  · rw [Try.underlying31] at hs; cases hs
  · exact shq_vals h
end Go.Proofs.Ytjalbhlahfgogaa
