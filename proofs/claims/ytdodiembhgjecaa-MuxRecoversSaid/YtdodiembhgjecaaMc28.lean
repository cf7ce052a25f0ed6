/-
  The parts EngMI of the proof, in one file. Conditions: none.
-/
import Derived.Shelf.Spec.SlicesInsert
import Derived.Shelf.Spec.SlicesInsertGrow
import Derived.Test.YtdodiembhgjecaaMc27
namespace Go.Eng
open Go.Shelf Go.RowKit Go.Proofs Go.Lib
set_option linter.unusedVariables false
set_option linter.unusedSimpArgs false
section
variable {P : Program} {d : Option Nat} {env : EN} {hp : CH} {n : Nat} {K : St → Prop} {G : Bool}
end
variable {P : Program} {ρ : Ren}
theorem meets_insE (L : Lays2.n21 P ρ) {f : FuncId} (hf : ρ.f 21 = f) (hfn : ∃ fn, P.funcs[f]? = some fn ∧ (fn.name == "runtime.NumGoroutine") = false ∧ fn.body.isNone = false) {hp : CH} {n : Nat} (x : Int) :
    Meets P f hp n [.e0, .i .i64 0, .ds [[.i .i64 x]]] fun hp' n' r => hp' = (n, .rw 0 1 [[.i .i64 x]]) :: hp ∧ n' = n + 1 ∧ r = .rw n 0 1 := by
  subst hf
  refine ⟨hfn, fun h ρ0 w vs hs ha => ?_⟩
  obtain ⟨v1, v2, v3, rfl⟩ : ∃ v1 v2 v3, vs = [v1, v2, v3] := by
    have := ha.1
    match vs, this with
    | [a, b, c], _ => exact ⟨a, b, c, rfl⟩
  have x1 := ha.2 0 _ v1 rfl rfl
  have x2 := ha.2 1 _ v2 rfl rfl
  have x3 := ha.2 2 _ v3 rfl rfl
  obtain ⟨a, rfl⟩ : ∃ a, v1 = .slice a 0 0 := by
    cases x1 with
    | pu _ _ q => cases q with | e0 a => exact ⟨a, rfl⟩
  obtain rfl : v2 = .int .i64 0 := by
    cases x2 with
    | pu _ _ q => cases q; rfl
  obtain ⟨b, off, cap, rfl, hcell⟩ : ∃ b off cap, v3 = .slice (some ⟨b, off, none⟩) 1 cap ∧ w.cell? ⟨b, off, none⟩ = some (.int .i64 x) := by
    cases x3 with
    | pu _ _ q =>
      cases q with
      | ds _ q0 a cap us hc hn hp' hm =>
        obtain ⟨b, o, ea, hx⟩ := hm (by simp)
        have h1 := hx 0 _ 0 _ rfl rfl
        have h2 := hp' 0 _ 0 _ rfl rfl
        obtain ⟨u, hu⟩ : ∃ u, us 0 0 = u := ⟨_, rfl⟩
        rw [hu] at h1 h2
        obtain rfl : u = .int .i64 x := by cases h2; rfl
        refine ⟨b, o, cap, by rw [ea]; rfl, ?_⟩
        unfold cellAt at h1
        cases hb : h b with
        | none => simp [hb] at h1
        | some ob =>
          have hb' := hs.hh b ob hb
          rw [hb] at h1
          cases ob <;> simp at h1
          simp [World.cell?, hb', h1]
  refine (Any2.slices_Insert_int_end_grow L a 0 0 b off 1 cap [] [.int .i64 x] w (by omega) (by omega) (by omega) (by omega) rfl rfl (fun _ => rfl) (fun _ _ j v e => by simp at e) (fun j v e => ?_) (fun v hv => ?_)).mono fun ee w' ⟨he, hw⟩ => ?_
  · cases j with
    | zero => simp at e; subst e; simpa using hcell
    | succ j => simp at e
  · simp at hv; subst hv; rfl
  subst hw
  have hc1 := grownCap_ge w (0 + 1) 0 (ρ.t 3)
  have hc2 := grownCap_le_maxLen w (0 + 1) 0 (ρ.t 3) (by decide)
  obtain ⟨C, hC⟩ : ∃ C, grownCap w (0 + 1) 0 (ρ.t 3) = C := ⟨_, rfl⟩
  rw [hC] at he hc1 hc2 ⊢
  have hs2 : SatH h ρ0 hp n w.drew := hs.heap rfl
  have hk0 : ∀ g, ρ0 n g = none := fun g => hs.fr n g (Nat.le_refl _)
  obtain ⟨m, hr⟩ := hs2.new hk0 (.rw 0 1 [[.i .i64 x]]) (.cells (([] ++ [Value.int .i64 x]).toArray ++ Builtin.zeroCells (Value.int .i64 0).cells (C - (0 + 1))) (ρ.t 3)) C (by
    refine ⟨some w.drew.heap.size, C, rset_same _ _ _ _, by simpa using hc1, hc2, fun j e q => ?_, fun q => (by cases q), fun b' eb => ?_⟩
    · cases j with
      | zero => simp at q; subst q; rfl
      | succ j => simp at q
    · cases eb
      refine ⟨_, _, heap_alloc_new _ _, ?_, fun j y q α y1 y2 => ?_⟩
      · simp [Builtin.zeroCells, Value.cells]
        omega
      · cases j with
        | succ j => simp at y1
        | zero =>
          simp at y1
          subst y1
          cases q with
          | succ q => simp at y2
          | zero =>
            simp at y2
            subst y2
            exact ⟨.int .i64 x, by simp [Array.getElem?_append], .i _ _⟩)
  refine ⟨_, he, h, _, _, _, _, ⟨rfl, rfl, rfl⟩, HLe.refl _, hr, by rw [show n + 1 = max n (n + 1) by omega]; exact m, ?_, ?_, ?_⟩
  · exact .rw n 0 1 C _ _ (rset_same _ _ _ _) (by omega) fun b' eb => by cases eb; rfl
  · exact ⟨rfl, rfl, rfl, by simp, fun x hx _ => by first | exact heap_alloc_old _ _ hx | exact heap_alloc_old _ _ _ hx⟩
  · rintro b' ⟨k', g', c', q1, q2⟩
    by_cases e : n = k'
    · subst e
      rw [gc_cons_same] at q1
      have : g' = 0 := by
        have := (show (some 0 : Option Nat) = some g' from q1)
        cases this
        rfl
      subst this
      rw [rset_same] at q2
      cases q2
      exact .inr (Nat.le_refl _)
    · rw [gc_cons_ne e] at q1
      rw [rset_ne _ _ (fun q => e q.symm)] at q2
      exact .inl ⟨k', g', c', q1, q2⟩
end Go.Eng
