/-
  The parts DaL of the proof, in one file. Conditions: none.
-/
import Derived.Test.YthiifoleopdieaaPj42
namespace Go.Proofs.Ythiifoleopdieaa
open Go.Eng
set_option linter.unusedVariables false
set_option linter.unusedSimpArgs false
set_option maxRecDepth 20000
/-- At the head of the loop over the writes. -/
structure ApI (d : Dat) (B : List (Nat × List AV)) (m p ko kw gw go : Nat) (hp H : CH) (n : Nat) (cur : List Itm) (A : List (List AV)) : Prop where
  bx : ∀ x ∈ B, gc H x.1 = .bx x.2 ∧ m ≤ x.1 ∧ x.1 < p
  b2 : gc H p = .bx [.rw ko go cur.length, .rw kw gw d.w.length]
  b3 : gc H ko = .rn go 2 A
  b4 : gc H kw = .rw gw 10 (mapC wrC d.w)
  up : Up m hp H
  nst : Nst H m n cur A
  fr : ∀ k, n ≤ k → gc H k = .no
  lp : m ≤ p ∧ p < n
  lo : m ≤ ko ∧ ko < n
  lw : m ≤ kw ∧ kw < n
theorem ApI.same {d : Dat} {B : List (Nat × List AV)} {m p ko kw gw go : Nat} {hp H H' : CH} {n n' : Nat} {cur : List Itm} {A : List (List AV)} (h : ApI d B m p ko kw gw go hp H n cur A) (hn : n ≤ n') (he : ∀ j, j < n → gc H' j = gc H j) (hf : ∀ k, n' ≤ k → gc H' k = .no) : ApI d B m p ko kw gw go hp H' n' cur A := by
  obtain ⟨h1, h2, h3, h4, h5, h6, h7, h8, h9, h10⟩ := h
  exact ⟨fun x hx => ⟨by rw [he _ (by have := h1 x hx; omega)]; exact (h1 x hx).1, (h1 x hx).2⟩, by rw [he _ (by omega)]; exact h2, by rw [he _ (by omega)]; exact h3, by rw [he _ (by omega)]; exact h4,
    fun k hk => by rw [he _ (by omega)]; exact h5 k hk, h6.frame hn fun k _ hk => he k hk, hf, by omega, by omega, by omega⟩
theorem ApI.next {d : Dat} {B : List (Nat × List AV)} {m p ko kw gw go : Nat} {hp H H' : CH} {n n' : Nat} {cur : List Itm} {A : List (List AV)} (h : ApI d B m p ko kw gw go hp H n cur A) (hn : n ≤ n') {i : Nat} {x : Itm} {k g z : Nat} (ex : cur[i]? = some x) (eA : A[i]? = some [.s x.t, .rw k g z])
    (h0 : gc H k = .rw g 7 (mapC celC x.l)) {l' : List Cel} {g' : Nat} (hk : gc H' k = .rw g' 7 (mapC celC l')) (ho : gc H' ko = .rn go 2 (A.set i [.s x.t, .rw k g' l'.length])) (he : ∀ j, j < n → j ≠ k → j ≠ ko → gc H' j = gc H j) (hf : ∀ k, n' ≤ k → gc H' k = .no) :
    ApI d B m p ko kw gw go hp H' n' (cur.set i (.mk x.t l')) (A.set i [.s x.t, .rw k g' l'.length]) := by
  obtain ⟨h1, h2, h3, h4, h5, h6, h7, h8, h9, h10⟩ := h
  have r := h6.row eA
  have e1 : p ≠ k := fun e => by rw [← e, h2] at h0; cases h0
  have e2 : p ≠ ko := fun e => by rw [← e, h2] at h3; cases h3
  have e3 : kw ≠ k := fun e => by rw [← e, h4] at h0; cases h0
  have e4 : kw ≠ ko := fun e => by rw [← e, h4] at h3; cases h3
  refine ⟨fun y hy => ?_, by rw [he _ (by omega) e1 e2, List.length_set]; exact h2, ho, by rw [he _ (by omega) e3 e4]; exact h4, fun j hj => by rw [he _ (by omega) (by omega) (by omega)]; exact h5 j hj, ?_, hf, by omega, by omega, by omega⟩
  · obtain ⟨q1, q2, q3⟩ := h1 y hy
    refine ⟨?_, q2, q3⟩
    rw [he _ (by omega) (fun e => by rw [e, h0] at q1; cases q1) (fun e => by rw [e, h3] at q1; cases q1)]
    exact q1
  · refine h6.set ex eA hn hk fun j a b c ⟨g0, c0, q⟩ => he j b c fun e => by rw [e, h3] at q; cases q
end Go.Proofs.Ythiifoleopdieaa
