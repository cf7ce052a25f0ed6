/-
  The parts EngSO of the proof, in one file. Conditions: none.
-/
import Derived.Shelf.Sort.Plain
import Derived.Sort.OwnSortedInts
import Derived.Shelf.Slices.In.SortNone
import Derived.Test.YthiifoleopdieaaPj44
namespace Go.Eng
open Go.Shelf Go.RowKit Go.Proofs Go.Sort
set_option linter.unusedVariables false
set_option linter.unusedSimpArgs false
def srtI (l : List Int) : List Int := l.mergeSort fun x y => decide (x ≤ y)
theorem srtI_len (l : List Int) : (srtI l).length = l.length := List.length_mergeSort _
variable {P : Program} {ρ : Ren}
theorem meets_sortI (Ly : Lays.n189 P ρ) {f : FuncId} (hf : ρ.f 189 = f) (hfn : ∃ fn, P.funcs[f]? = some fn ∧ (fn.name == "runtime.NumGoroutine") = false ∧ fn.body.isNone = false) {hp : CH} {n k g : Nat} {l : List Int}
    (hk : gc hp k = .rw g 1 (mapC in1 l)) (h0 : l ≠ []) (hlen : l.length < 4611686018427387904) :
    Meets P f hp n [.rw k g l.length] fun hp' n' r => hp' = (k, .rw g 1 (mapC in1 (srtI l))) :: hp ∧ n' = n ∧ r = .tp [] := by
  subst hf
  refine ⟨hfn, fun h ρ0 w vs hs ha => ?_⟩
  have hz : 0 < l.length := List.length_pos_iff.2 h0
  have s := hs.ch k
  rw [hk] at s
  obtain ⟨ob, cap, e1, e2, e3, e4, e5, e6⟩ := s
  rw [mapC_len] at e2
  obtain ⟨b, rfl⟩ : ∃ b, ob = some b := by
    cases ob with
    | none => have := e5 rfl; omega
    | some b => exact ⟨b, rfl⟩
  obtain ⟨cur, e, hb, hsz, hcell⟩ := e6 b rfl
  cases vs with
  | nil => cases ha.1
  | cons v1 r1 =>
  have x1 := ha.2 0 _ v1 rfl rfl
  have er : r1 = [] := by
    have := ha.1
    simp at this
    first | exact this | exact this.symm | exact List.eq_nil_of_length_eq_zero this.symm
  subst er
  obtain ⟨cap', rfl⟩ : ∃ cap', v1 = .slice (some ⟨b, 0, none⟩) l.length cap' := by
    cases x1 with
    | pu _ _ q => cases q
    | rw _ _ _ cap' a ob' q1 q2 q3 =>
      rw [e1] at q1
      cases q1
      exact ⟨_, by rw [q3 b rfl]⟩
  have hblk : b < w.heap.size := (Array.getElem?_eq_some_iff.1 hb).1
  have ht : cur.toList.take l.length = l.map (Value.int .i64) := by
    apply List.ext_getElem?
    intro j
    by_cases hj : j < l.length
    · rw [List.getElem?_take_of_lt hj, Array.getElem?_toList, List.getElem?_map, List.getElem?_eq_getElem hj]
      obtain ⟨u, u1, u2⟩ := hcell j (in1 l[j]) 0 (.i .i64 l[j]) (mapC_get in1 (List.getElem?_eq_getElem hj)) rfl
      rw [show 1 * j + 0 = j by omega] at u1
      rw [u1]
      cases u2
      rfl
    · rw [List.getElem?_take_eq_none (by omega), List.getElem?_eq_none (by simp; omega)]
  have lb : live ρ0 hp b := ⟨k, g, cap, by rw [hk]; rfl, e1⟩
  refine (Any.slices_Sort_int Ly b 0 cap' l w (holds_of_blockI hb ht) hblk hlen).mono fun ee w' ⟨he, nn, os, hw⟩ => ?_
  have hb' : w'.heap[b]? = some (.cells (putCells (Value.int .i64) 0 (srtI l).toArray cur) e (0, 0)) := by rw [hw]; exact heap_sortedI _ hb
  have hg : w.grownBy w' (some b) := by rw [hw]; exact grownBy_sortedI _
  have hkn : k < n := by
    rcases Nat.lt_or_ge k n with q | q
    · exact q
    · rw [hs.fr k g q] at e1; cases e1
  have hlive : ∀ x, live ρ0 ((k, .rw g 1 (mapC in1 (srtI l))) :: hp) x → live ρ0 hp x := by
    rintro x ⟨k', g', c', q1, q2⟩
    by_cases hkk : k = k'
    · subst hkk
      rw [gc_cons_same] at q1
      exact ⟨k, g', c', by rw [hk]; exact q1, q2⟩
    · rw [gc_cons_ne hkk] at q1
      exact ⟨k', g', c', q1, q2⟩
  have m : SatH h ρ0 ((k, .rw g 1 (mapC in1 (srtI l))) :: hp) n w' := by
    refine hs.put k _ (RLe.refl _) (fun _ _ _ => rfl) (fun x hx hq => hg.block x hx fun q => ?_) hg.size ?_ ?_ hs.fr ?_
    · cases q
      rcases hq with hq | ⟨k', g', c', q1, q2, q3⟩
      · exact hq (hs.hid _ lb)
      · exact q1 (hs.inj k' k g' g _ _ _ q2 (by rw [hk]; rfl) q3 e1)
    · refine ⟨some b, cap, e1, by rw [mapC_len, srtI_len]; exact e2, e3, (fun j x hx => mapC_all (c := in1) (n := 1) (fun _ => rfl) x (List.mem_of_getElem? hx)), e5, fun b' eb => ?_⟩
      cases eb
      refine ⟨_, e, hb', by simp [putCells, hsz], fun j x q α hx hq => ?_⟩
      have hj : j < (srtI l).length := by
        have := (List.getElem?_eq_some_iff.1 hx).1
        simpa [mapC_len] using this
      rw [mapC_get in1 (List.getElem?_eq_getElem hj)] at hx
      cases hx
      match q, hq with
      | 0, hq =>
        cases hq
        refine ⟨.int .i64 (srtI l)[j], ?_, .i _ _⟩
        have ht' := take_putCellsI cur (srtI l) (by rw [srtI_len, hsz]; omega)
        have : ((putCells (Value.int .i64) 0 (srtI l).toArray cur).toList.take (srtI l).length)[j]? = ((srtI l).map (Value.int .i64))[j]? := by rw [ht']
        rw [List.getElem?_take_of_lt hj, Array.getElem?_toList, List.getElem?_map, List.getElem?_eq_getElem hj] at this
        rw [show 1 * j + 0 = j by omega]
        exact this
    · intro g' x c' q1 q2
      have hl : live ρ0 hp x := ⟨k, g', c', by rw [hk]; exact q1, q2⟩
      exact ⟨hs.hid _ hl, Nat.lt_of_lt_of_le (hs.lt x hl) hg.size, fun k' g2 c2 hne q3 q4 => hne (hs.inj k' k g2 g' _ _ _ q3 (by rw [hk]; exact q1) q4 q2)⟩
    · intro g1 g' x q1 q2
      cases q1
      exact hs.gens k g g' x (by rw [hk]; rfl) q2
  exact ⟨_, he, h, ρ0, _, n, _, ⟨rfl, rfl, rfl⟩, HLe.refl _, RLe.refl _, m, .pu _ _ (.tp [] [] rfl fun j α v a _ => by cases a), ⟨hg.os, hg.tape, hg.output, hg.size, fun x hx hl => hg.block x hx fun q => hl (by cases q; exact lb)⟩, fun x hx => .inl (hlive x hx)⟩
theorem meets_sort0 (Ly : Lays.n189 P ρ) {f : FuncId} (hf : ρ.f 189 = f) (hfn : ∃ fn, P.funcs[f]? = some fn ∧ (fn.name == "runtime.NumGoroutine") = false ∧ fn.body.isNone = false) {hp : CH} {n k g : Nat} : MeetsF P f hp n [.rw k g 0] (.tp []) := by
  subst hf
  refine ⟨hfn, fun h ρ0 w vs hs ha => ?_⟩
  cases vs with
  | nil => cases ha.1
  | cons v1 r1 =>
  have x1 := ha.2 0 _ v1 rfl rfl
  have er : r1 = [] := by
    have := ha.1
    simp at this
    first | exact this | exact this.symm | exact List.eq_nil_of_length_eq_zero this.symm
  subst er
  obtain ⟨a, cap', rfl⟩ : ∃ a cap', v1 = .slice a 0 cap' := by
    cases x1 with
    | pu _ _ q => cases q
    | rw _ _ _ cap' a ob' q1 q2 q3 => exact ⟨_, _, rfl⟩
  refine (calls_of_every_depth fun D => AnyS.slices_Sort_int_none_in Ly D a cap' w).mono fun ee w' ⟨he, hw⟩ => ?_
  subst hw
  exact ⟨_, he, h, HLe.refl _, hs, .tp [] [] rfl fun j α v a _ => by (cases a), Keeps.refl _ _⟩
end Go.Eng
