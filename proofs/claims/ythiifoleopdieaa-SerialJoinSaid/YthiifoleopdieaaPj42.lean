/-
  The parts DaK of the proof, in one file. Conditions: none.
-/
import Derived.Test.YthiifoleopdieaaPj41
namespace Go.Proofs.Ythiifoleopdieaa
open Go.Eng
set_option linter.unusedVariables false
set_option linter.unusedSimpArgs false
set_option maxRecDepth 20000
def hits (f a : ByteArray) (w : Wri) : Bool := decide (w.f = f) && decide (w.a = a)
def argA (d : Dat) (f a : ByteArray) : ByteArray := if d.w.any (hits f a) = true then a else ⟨#[]⟩
/-- A row is changed. -/
theorem Nst.set {H H' : CH} {lo hi hi' : Nat} {l : List Itm} {A : List (List AV)} (h : Nst H lo hi l A) {i : Nat} {x : Itm} {k g z : Nat} (ex : l[i]? = some x) (eA : A[i]? = some [.s x.t, .rw k g z]) (hh : hi ≤ hi') {l' : List Cel} {g' : Nat}
    (hk : gc H' k = .rw g' 7 (mapC celC l')) (he : ∀ j, lo ≤ j → j < hi → j ≠ k → (∃ g c, gc H j = .rw g 7 c) → gc H' j = gc H j) : Nst H' lo hi' (l.set i (.mk x.t l')) (A.set i [.s x.t, .rw k g' l'.length]) := by
  have hiA : i < A.length := (List.getElem?_eq_some_iff.1 eA).1
  have hil : i < l.length := (List.getElem?_eq_some_iff.1 ex).1
  have hrow := h.row eA
  refine ⟨by simp [h.len], fun j y q => ?_, fun j j' t t' k1 g1 g2 z1 z2 e1 e2 => ?_⟩
  · by_cases e : i = j
    · subst e
      rw [List.getElem?_set_self hil] at q
      cases q
      exact ⟨k, g', hrow.1, by omega, by rw [List.getElem?_set_self hiA]; rfl, hk⟩
    · rw [List.getElem?_set_ne e] at q
      obtain ⟨k', g'', q1, q2, q3, q4⟩ := h.get j y q
      refine ⟨k', g'', q1, by omega, by rw [List.getElem?_set_ne e]; exact q3, ?_⟩
      rw [he k' q1 q2 (fun e2 => e (h.inj i j _ _ _ _ _ _ _ eA (by rw [e2] at q3; exact q3))) ⟨_, _, q4⟩]
      exact q4
  · have key : ∀ {j : Nat} {t : ByteArray} {k1 g1 z1 : Nat}, (A.set i [.s x.t, .rw k g' l'.length])[j]? = some [.s t, .rw k1 g1 z1] → ∃ t0 g0 z0, A[j]? = some [.s t0, .rw k1 g0 z0] := fun {j t k1 g1 z1} q => by
      by_cases e : i = j
      · subst e
        rw [List.getElem?_set_self hiA] at q
        simp only [Option.some.injEq, List.cons.injEq, AV.rw.injEq] at q
        exact ⟨_, _, _, by rw [eA, q.2.1.1]⟩
      · rw [List.getElem?_set_ne e] at q
        exact ⟨_, _, _, q⟩
    obtain ⟨t0, g0, z0, a1⟩ := key e1
    obtain ⟨t3, g3, z3, a2⟩ := key e2
    exact h.inj j j' _ _ _ _ _ _ _ a1 a2
end Go.Proofs.Ythiifoleopdieaa
