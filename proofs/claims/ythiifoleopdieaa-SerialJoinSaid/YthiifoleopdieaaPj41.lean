/-
  The parts DaJ of the proof, in one file. Conditions: none.
-/
import Derived.Test.YthiifoleopdieaaPj40
namespace Go.Proofs.Ythiifoleopdieaa
open Go.Eng
set_option linter.unusedVariables false
set_option linter.unusedSimpArgs false
set_option maxRecDepth 20000
/-- The elements of a row of items, whose cells lie in rows between lo and hi. -/
structure Nst (H : CH) (lo hi : Nat) (l : List Itm) (A : List (List AV)) : Prop where
  len : A.length = l.length
  get : ∀ (i : Nat) x, l[i]? = some x → ∃ k g, lo ≤ k ∧ k < hi ∧ A[i]? = some [.s x.t, .rw k g x.l.length] ∧ gc H k = .rw g 7 (mapC celC x.l)
  inj : ∀ (i i' : Nat) t t' k g g' z z', A[i]? = some [.s t, .rw k g z] → A[i']? = some [.s t', .rw k g' z'] → i = i'
theorem Nst.nil (H : CH) (lo hi : Nat) : Nst H lo hi [] [] := ⟨rfl, fun i x e => by simp at e, fun i i' t t' k g g' z z' e => by simp at e⟩
theorem Nst.frame {H H' : CH} {lo hi hi' : Nat} {l : List Itm} {A : List (List AV)} (h : Nst H lo hi l A) (hh : hi ≤ hi') (e : ∀ k, lo ≤ k → k < hi → gc H' k = gc H k) : Nst H' lo hi' l A :=
  ⟨h.len, fun i x q => by
    obtain ⟨k, g, h1, h2, h3, h4⟩ := h.get i x q
    exact ⟨k, g, h1, Nat.lt_of_lt_of_le h2 hh, h3, by rw [e k h1 h2]; exact h4⟩, h.inj⟩
theorem Nst.row {H : CH} {lo hi : Nat} {l : List Itm} {A : List (List AV)} (h : Nst H lo hi l A) {i : Nat} {t : ByteArray} {k g z : Nat} (e : A[i]? = some [.s t, .rw k g z]) : lo ≤ k ∧ k < hi := by
  have hi' : i < l.length := by rw [← h.len]; exact (List.getElem?_eq_some_iff.1 e).1
  obtain ⟨k', g', h1, h2, h3, _⟩ := h.get i l[i] (by simp [hi'])
  rw [e] at h3
  simp only [Option.some.injEq, List.cons.injEq, AV.rw.injEq] at h3
  omega
theorem Nst.snoc {H : CH} {lo hi hi' : Nat} {l : List Itm} {A : List (List AV)} (h : Nst H lo hi l A) {x : Itm} {k g : Nat} (hk : hi ≤ k) (hl : lo ≤ k) (hh : k < hi') (e : gc H k = .rw g 7 (mapC celC x.l)) :
    Nst H lo hi' (l ++ [x]) (A ++ [[.s x.t, .rw k g x.l.length]]) := by
  refine ⟨by simp [h.len], fun i y q => ?_, fun i i' t t' k1 g1 g2 z z' e1 e2 => ?_⟩
  · rw [List.getElem?_append] at q
    split at q
    · rename_i hi
      obtain ⟨k', g', h1, h2, h3, h4⟩ := h.get i y q
      exact ⟨k', g', h1, by omega, by rw [List.getElem?_append_left (by rw [h.len]; exact hi)]; exact h3, h4⟩
    · rename_i hi
      have : i - l.length = 0 := by have := (List.getElem?_eq_some_iff.1 q).1; simp at this; omega
      rw [this] at q
      simp at q
      subst q
      exact ⟨k, g, hl, hh, by rw [List.getElem?_append_right (by rw [h.len]; omega), h.len, this]; rfl, e⟩
  · rw [List.getElem?_append] at e1 e2
    have key : ∀ {j : Nat} {t : ByteArray} {k1 g1 z : Nat}, (if j < A.length then A[j]? else [[AV.s x.t, AV.rw k g x.l.length]][j - A.length]?) = some [AV.s t, AV.rw k1 g1 z] → (j < A.length ∧ k1 < hi) ∨ (j = A.length ∧ k1 = k) := fun {j t k1 g1 z} q => by
      split at q
      · rename_i hj
        exact .inl ⟨hj, (h.row q).2⟩
      · rename_i hj
        have : j - A.length = 0 := by have := (List.getElem?_eq_some_iff.1 q).1; simp at this; omega
        rw [this] at q
        simp only [List.getElem?_cons_zero, Option.some.injEq, List.cons.injEq, AV.rw.injEq] at q
        exact .inr ⟨by omega, q.2.1.1.symm⟩
    rcases key e1 with ⟨a1, a2⟩ | ⟨a1, a2⟩ <;> rcases key e2 with ⟨b1, b2⟩ | ⟨b1, b2⟩
    · rw [if_pos a1] at e1
      rw [if_pos b1] at e2
      exact h.inj i i' t t' k1 g1 g2 z z' e1 e2
    · omega
    · omega
    · omega
end Go.Proofs.Ythiifoleopdieaa
