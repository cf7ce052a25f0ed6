/-
  The parts MxV of the proof, in one file. Conditions: none.
-/
import Derived.Test.YtdodiembhgjecaaMc45
namespace Go.Proofs.Ytdodiembhgjecaa
open Go.Eng
set_option linter.unusedVariables false
set_option linter.unusedSimpArgs false
theorem drL_nodup {S : List Int} (hn : S.Nodup) (x : Int) : (drL x S).Nodup := List.Nodup.sublist List.filter_sublist hn
/-- What holds between two steps. -/
structure SvI (j : Nat) (last : Int) (KA : List Frm) (d : Nat) (S : List Int) : Prop where
  l0 : 0 ≤ last
  l1 : last ≤ j
  k1 : KA.length ≤ j
  d1 : d ≤ KA.length
  s1 : S.length ≤ j
  nd : S.Nodup
  asc : (KA.drop d).Pairwise (fun a b => a.s < b.s)
  top : ∀ f ∈ KA.drop d, f.s ≤ last
theorem sdN_le (E last : Int) : last ≤ sdN E last ∧ sdN E last ≤ last + 1 := by
  unfold sdN
  split <;> omega
theorem SvI.send {j : Nat} {last : Int} {KA : List Frm} {d : Nat} {S : List Int} (h : SvI j last KA d S) {E : Int} {f : Frm} {i : Nat × Nat × List Frm} (hi : sdP (KA.drop d) KA.length E f last i) : SvI (j + 1) (sdN E last) i.2.2 i.2.1 S := by
  obtain ⟨h1, h2, h3⟩ := hi
  have hN := sdN_le E last
  have h0 := h.l0
  have h4 := h.l1
  have h5 := h.k1
  have h6 := h.s1
  refine ⟨by omega, by omega, by omega, h1, by omega, h.nd, ?_, fun x hx => ?_⟩
  · rw [h3, List.pairwise_append]
    refine ⟨h.asc, ?_, fun a ha b hb => ?_⟩
    · unfold sdL
      split <;> simp
    · unfold sdL at hb
      split at hb
      · simp at hb
        subst hb
        have := h.top a ha
        show a.s < last + 1
        omega
      · simp at hb
  · rw [h3, List.mem_append] at hx
    rcases hx with hx | hx
    · have := h.top x hx; omega
    · unfold sdL at hx
      unfold sdN
      split at hx
      · rename_i q
        rw [if_pos q]
        simp at hx
        subst hx
        exact Int.le_refl _
      · simp at hx
theorem SvI.drop {j : Nat} {last : Int} {KA : List Frm} {d : Nat} {S : List Int} (h : SvI j last KA d S) (x : Int) : SvI j last KA d (drL x S) :=
  ⟨h.l0, h.l1, h.k1, h.d1, Nat.le_trans (List.length_filter_le _ _) h.s1, drL_nodup h.nd x, h.asc, h.top⟩
end Go.Proofs.Ytdodiembhgjecaa
