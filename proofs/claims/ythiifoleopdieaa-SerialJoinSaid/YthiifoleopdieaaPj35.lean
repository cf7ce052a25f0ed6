/-
  The parts DaB of the proof, in one file. Conditions: none.
-/
import Derived.Test.YthiifoleopdieaaPj34
namespace Go.Proofs.Ythiifoleopdieaa
open Go.Eng
set_option linter.unusedVariables false
set_option linter.unusedSimpArgs false
set_option maxRecDepth 20000
theorem idxf_wri (l : List Wri) (q : Wri → Bool) (k : FuncId) (caps : List AV) (hl : l.length ≤ 9223372036854775806) (hp : CH) (m : Nat) (h : ∀ x ∈ l, ∀ n, MeetsF Try.prog k hp n (wx x :: caps) (.b (q x))) : MeetsF Try.prog 68 hp m [.ds (mapC wrC l), .fn k caps] (.i .i64 (fidx q l 0)) := by
  refine meetsF Try.func68 (by kernel_rfl) cc68 cr68 rfl fun hf => ?_; unfold ck68
  simp only [go_sem, ↓reduceIte, Nat.reduceEqDiff, Nat.reduceBEq, Nat.reduceAdd, Nat.reduceLeDiff, Nat.reduceLT, reduceCtorEq, Nat.reduceMul, Nat.reduceSub, Int.reduceEq, Int.reduceLT, Int.reduceLE, Int.reduceToNat]
  refine loop (fun p : Nat × Nat => ⟨[(0, .ds (mapC wrC l)), (1, .fn k caps), (7, .i .i64 l.length), (8, .i .i64 p.1)], hp, p.2⟩) (fun p => p.1 ≤ l.length ∧ fidx q l 0 = fidx q (l.drop p.1) p.1) (fun p => l.length - p.1) (0, m) ?_ ?_ (fun ⟨j, n⟩ hj => ?_)
  · exact ⟨by simp, rfl⟩
  · refine weak_ok ?_ (Sub.refl _) (Nat.le_refl _)
    simp only [go_sem, ↓reduceIte, Nat.reduceEqDiff, Nat.reduceBEq, Nat.reduceAdd, Nat.reduceLeDiff, Nat.reduceLT, reduceCtorEq, Nat.reduceMul, Nat.reduceSub, Int.reduceEq, Int.reduceLT, Int.reduceLE, Int.reduceToNat]
  dsimp only at hj
  obtain ⟨hj1, hj2⟩ := hj
  simp only [go_sem, ↓reduceIte, Nat.reduceEqDiff, Nat.reduceBEq, Nat.reduceAdd, Nat.reduceLeDiff, Nat.reduceLT, reduceCtorEq, Nat.reduceMul, Nat.reduceSub, Int.reduceEq, Int.reduceLT, Int.reduceLE, Int.reduceToNat]
  refine cdK_of (fun c => ?_) (fun c => ?_)
  · have c : j < l.length := by simpa using c
    obtain ⟨x, ex⟩ : ∃ x, l[j]? = some x := ⟨l[j], by simp [c]⟩
    have hx := h x (List.mem_of_getElem? ex) n
    rw [drop_at ex, fidx] at hj2
    simp only [c, getK_s (mapC_get wrC ex), go_sem, ↓reduceIte, Nat.reduceEqDiff, Nat.reduceBEq, Nat.reduceAdd, Nat.reduceLeDiff, Nat.reduceLT, reduceCtorEq, Nat.reduceMul, Nat.reduceSub, Int.reduceEq, Int.reduceLT, Int.reduceLE, Int.reduceToNat]
    refine vcCall.f (hx) ?_
    simp only [go_sem, ↓reduceIte, Nat.reduceEqDiff, Nat.reduceBEq, Nat.reduceAdd, Nat.reduceLeDiff, Nat.reduceLT, reduceCtorEq, Nat.reduceMul, Nat.reduceSub, Int.reduceEq, Int.reduceLT, Int.reduceLE, Int.reduceToNat]
    refine cdK_of (fun c1 => ?_) (fun c1 => ?_)
    · rw [if_pos c1] at hj2
      simp only [go_sem, ↓reduceIte, Nat.reduceEqDiff, Nat.reduceBEq, Nat.reduceAdd, Nat.reduceLeDiff, Nat.reduceLT, reduceCtorEq, Nat.reduceMul, Nat.reduceSub, Int.reduceEq, Int.reduceLT, Int.reduceLE, Int.reduceToNat]
      rw [hj2]
    · rw [if_neg (by simp [c1])] at hj2
      simp only [go_sem, ↓reduceIte, Nat.reduceEqDiff, Nat.reduceBEq, Nat.reduceAdd, Nat.reduceLeDiff, Nat.reduceLT, reduceCtorEq, Nat.reduceMul, Nat.reduceSub, Int.reduceEq, Int.reduceLT, Int.reduceLE, Int.reduceToNat]
      refine ⟨(j + 1, n), ⟨by dsimp only; omega, hj2⟩, by dsimp only; omega, weak_ok ?_ (Sub.refl _) (Nat.le_refl _)⟩
      simp only [wr64s j (by omega), go_sem, ↓reduceIte, Nat.reduceEqDiff, Nat.reduceBEq, Nat.reduceAdd, Nat.reduceLeDiff, Nat.reduceLT, reduceCtorEq, Nat.reduceMul, Nat.reduceSub, Int.reduceEq, Int.reduceLT, Int.reduceLE, Int.reduceToNat]
  · have c : j = l.length := by simp at c; omega
    subst c
    rw [List.drop_length, fidx] at hj2
    simp only [go_sem, ↓reduceIte, Nat.reduceEqDiff, Nat.reduceBEq, Nat.reduceAdd, Nat.reduceLeDiff, Nat.reduceLT, reduceCtorEq, Nat.reduceMul, Nat.reduceSub, Int.reduceEq, Int.reduceLT, Int.reduceLE, Int.reduceToNat]
    rw [hj2]
theorem anyf_wri (l : List Wri) (q : Wri → Bool) (k : FuncId) (caps : List AV) (hl : l.length ≤ 9223372036854775806) (hp : CH) (m : Nat) (h : ∀ x ∈ l, ∀ n, MeetsF Try.prog k hp n (wx x :: caps) (.b (q x))) : MeetsF Try.prog 35 hp m [.ds (mapC wrC l), .fn k caps] (.b (l.any q)) := by
  rw [← fidx_any q l 0]
  refine meetsF Try.func35 (by kernel_rfl) cc35 cr35 rfl fun hf => ?_; unfold ck35
  simp only [go_sem, ↓reduceIte, Nat.reduceEqDiff, Nat.reduceBEq, Nat.reduceAdd, Nat.reduceLeDiff, Nat.reduceLT, reduceCtorEq, Nat.reduceMul, Nat.reduceSub, Int.reduceEq, Int.reduceLT, Int.reduceLE, Int.reduceToNat]
  refine vcCall.f (idxf_wri l q k caps hl _ _ h) ?_
  simp only [go_sem, ↓reduceIte, Nat.reduceEqDiff, Nat.reduceBEq, Nat.reduceAdd, Nat.reduceLeDiff, Nat.reduceLT, reduceCtorEq, Nat.reduceMul, Nat.reduceSub, Int.reduceEq, Int.reduceLT, Int.reduceLE, Int.reduceToNat]
inductive Dat.Fit : Dat → Prop
  | mk (d : Dat) : d.i.length ≤ 1000000000000 → d.w.length ≤ 1000000000000 → (∀ x ∈ d.i, x.l.length ≤ 1000000000000 ∧ ∀ c ∈ x.l, c.v.Fit) → (∀ x ∈ d.w, x.c.v.Fit) → Dat.Fit d
theorem Dat.Fit.li {d : Dat} (h : d.Fit) : d.i.length ≤ 1000000000000 := by cases h; assumption
theorem Dat.Fit.lw {d : Dat} (h : d.Fit) : d.w.length ≤ 1000000000000 := by cases h; assumption
theorem Dat.Fit.c {d : Dat} (h : d.Fit) {x : Itm} (hx : x ∈ d.i) {c : Cel} (hc : c ∈ x.l) : c.v.Fit := by cases h; rename_i h _; exact (h x hx).2 c hc
theorem Dat.Fit.w {d : Dat} (h : d.Fit) {x : Wri} (hx : x ∈ d.w) : x.c.v.Fit := by cases h; rename_i h; exact h x hx
end Go.Proofs.Ythiifoleopdieaa
