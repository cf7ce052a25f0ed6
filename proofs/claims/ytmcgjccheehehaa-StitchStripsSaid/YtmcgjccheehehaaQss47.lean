/-
  The parts SbB of the proof, in one file. Conditions: none.
-/
import Derived.Test.YtmcgjccheehehaaQss46
namespace Go.Proofs.Ytmcgjccheehehaa
open Go.Eng
set_option linter.unusedVariables false
set_option linter.unusedSimpArgs false
set_option maxRecDepth 20000
set_option maxHeartbeats 1000000
mutual
/-- The number that stands for the picks of a pick. -/
def pkN : Pk → Int
  | .mk _ _ _ _ _ _ _ _ ps => pkNs ps ps.length
def pkNs : List Pk → Int → Int
  | [], a => a
  | p :: r, a => if a ≤ 200 then pkNs r (IntKind.i64.wrap (a + pkN p)) else a
end
theorem pkN_eq (p : Pk) : pkN p = pkNs p.picks p.picks.length := by cases p; rw [pkN]; rfl
theorem pkNs_at {l : List Pk} {j : Nat} {a : Int} (h : l.length ≤ j ∨ ¬ a ≤ 200) : pkNs (l.drop j) a = a := by
  cases e : l.drop j with
  | nil => rw [pkNs]
  | cons k r =>
    rw [pkNs, if_neg]
    rcases h with h | h
    · rw [List.drop_eq_nil_of_le h] at e; cases e
    · exact h
theorem picks_of (l : List Pk) (hl : l.length ≤ 1000000000000) (ih : ∀ p ∈ l, ∀ hp m, MeetsF Try.prog 36 hp m [.ds (mapC pkC p.picks)] (.i .i64 (pkN p))) (hp : CH) (m : Nat) :
    MeetsF Try.prog 36 hp m [.ds (mapC pkC l)] (.i .i64 (pkNs l l.length)) := by
  obtain ⟨R, hR⟩ : ∃ R, pkNs l l.length = R := ⟨_, rfl⟩
  rw [hR]
  refine meetsF Try.func36 (by kernel_rfl) cc36 cr36 rfl fun hf => ?_; unfold ck36
  simp only [go_sem, ↓reduceIte, Nat.reduceEqDiff, Nat.reduceBEq, Nat.reduceAdd, Nat.reduceLeDiff, Nat.reduceLT, reduceCtorEq, Nat.reduceMul, Nat.reduceSub, Int.reduceEq, Int.reduceLT, Int.reduceLE, Int.reduceToNat]
  refine loopg (fun q : Nat × Int => ⟨[(0, .ds (mapC pkC l)), (3, .i .i64 q.2), (4, .i .i64 q.1)], hp, m⟩)
    (fun q => q.1 ≤ l.length ∧ pkNs (l.drop q.1) q.2 = R) (fun q => l.length - q.1) (0, (l.length : Int)) ?_ ?_ (fun ⟨j, a⟩ hj => ?_)
  · exact ⟨Nat.zero_le _, hR⟩
  · refine weak_ok ?_ (Sub.base hf ?_) (Nat.le_refl _)
    all_goals first | (simp only [go_sem, ↓reduceIte, Nat.reduceEqDiff, Nat.reduceBEq, Nat.reduceAdd, Nat.reduceLeDiff, Nat.reduceLT, reduceCtorEq, Nat.reduceMul, Nat.reduceSub, Int.reduceEq, Int.reduceLT, Int.reduceLE, Int.reduceToNat]; done) | (dsimp only; omega) | trace_state
  dsimp only at hj
  obtain ⟨hj1, hj2⟩ := hj
  simp only [go_sem, ↓reduceIte, Nat.reduceEqDiff, Nat.reduceBEq, Nat.reduceAdd, Nat.reduceLeDiff, Nat.reduceLT, reduceCtorEq, Nat.reduceMul, Nat.reduceSub, Int.reduceEq, Int.reduceLT, Int.reduceLE, Int.reduceToNat]
  refine cdK_of (fun d => ?_) (fun d => ?_)
  · simp only [Bool.and_eq_true, decide_eq_true_eq] at d
    have d1 : j < l.length := by omega
    obtain ⟨p, ep⟩ : ∃ p, l[j]? = some p := ⟨l[j], by simp⟩
    rw [drop_at ep, pkNs, if_pos d.2] at hj2
    have k6 : j < 9223372036854775807 := by omega
    have hx := ih p (List.mem_of_getElem? ep)
    simp only [d1, getK_s (mapC_get pkC ep), go_sem, ↓reduceIte, Nat.reduceEqDiff, Nat.reduceBEq, Nat.reduceAdd, Nat.reduceLeDiff, Nat.reduceLT, reduceCtorEq, Nat.reduceMul, Nat.reduceSub, Int.reduceEq, Int.reduceLT, Int.reduceLE, Int.reduceToNat]
    refine vcCall.f (hx _ _) ?_
    simp only [wr64s j k6, go_sem, ↓reduceIte, Nat.reduceEqDiff, Nat.reduceBEq, Nat.reduceAdd, Nat.reduceLeDiff, Nat.reduceLT, reduceCtorEq, Nat.reduceMul, Nat.reduceSub, Int.reduceEq, Int.reduceLT, Int.reduceLE, Int.reduceToNat]
    refine ⟨(j + 1, IntKind.i64.wrap (a + pkN p)), ⟨d1, hj2⟩, by dsimp only; omega, weakG_ok ?_ (SubG.base hf ?_ ?_ ?_)⟩
    all_goals first | (simp only [go_sem, ↓reduceIte, Nat.reduceEqDiff, Nat.reduceBEq, Nat.reduceAdd, Nat.reduceLeDiff, Nat.reduceLT, reduceCtorEq, Nat.reduceMul, Nat.reduceSub, Int.reduceEq, Int.reduceLT, Int.reduceLE, Int.reduceToNat]; done) | (dsimp only; omega) | trace_state
  · have hab : a = R := by
      rw [← hj2, pkNs_at]
      simp only [Bool.and_eq_false_iff, decide_eq_false_iff_not] at d
      omega
    subst hab
    simp only [go_sem, ↓reduceIte, Nat.reduceEqDiff, Nat.reduceBEq, Nat.reduceAdd, Nat.reduceLeDiff, Nat.reduceLT, reduceCtorEq, Nat.reduceMul, Nat.reduceSub, Int.reduceEq, Int.reduceLT, Int.reduceLE, Int.reduceToNat]
theorem picks_ok (l : List Pk) (hl : wtKs l ≤ 1000000000000) (hp : CH) (m : Nat) : MeetsF Try.prog 36 hp m [.ds (mapC pkC l)] (.i .i64 (pkNs l l.length)) := by
  have key : ∀ p : Pk, wtK p ≤ 1000000000000 → ∀ hp m, MeetsF Try.prog 36 hp m [.ds (mapC pkC p.picks)] (.i .i64 (pkN p)) :=
    fun p => Pk.ind (Q := fun p => wtK p ≤ 1000000000000 → ∀ hp m, MeetsF Try.prog 36 hp m [.ds (mapC pkC p.picks)] (.i .i64 (pkN p))) (fun p ih hw hp m => by
      have := wtK_eq p
      have := wtKs_len p.picks
      rw [pkN_eq]
      exact picks_of p.picks (by omega) (fun q hq => ih q hq (by have := wtKs_mem hq; omega)) hp m) p
  have := wtKs_len l
  exact picks_of l (by omega) (fun p hp => key p (by have := wtKs_mem hp; omega)) hp m
theorem picks_okG (l : List Pk) (hl : PkR l) (hp : CH) (m : Nat) : MeetsF Try.prog 36 hp m [.ds (mapC pkC l)] (.i .i64 (pkNs l l.length)) := by
  have key : ∀ p : Pk, PkR p.picks → ∀ hp m, MeetsF Try.prog 36 hp m [.ds (mapC pkC p.picks)] (.i .i64 (pkN p)) :=
    fun p => Pk.ind (Q := fun p => PkR p.picks → ∀ hp m, MeetsF Try.prog 36 hp m [.ds (mapC pkC p.picks)] (.i .i64 (pkN p))) (fun p ih hw hp m => by
      have h1 := hw.n
      rw [pkN_eq]
      exact picks_of p.picks (by omega) (fun q hq => ih q hq (hw.x hq)) hp m) p
  have h1 := hl.n
  exact picks_of l (by omega) (fun p hp => key p (hl.x hp)) hp m
/-- No two picks have the same type and key, no key is __t. -/
inductive Sg : List Pk → Prop
  | mk (l : List Pk) : (∀ (i k : Nat) p q, k < i → l[k]? = some p → l[i]? = some q → ¬ (p.on = q.on ∧ p.key = q.key)) → (∀ p ∈ l, p.key ≠ ttN) → (∀ p ∈ l, Sg p.picks) → Sg l
theorem Sg.n {l : List Pk} (h : Sg l) : ∀ (i k : Nat) p q, k < i → l[k]? = some p → l[i]? = some q → ¬ (p.on = q.on ∧ p.key = q.key) := by cases h; assumption
theorem Sg.t {l : List Pk} (h : Sg l) : ∀ p ∈ l, p.key ≠ ttN := by cases h; assumption
theorem Sg.p {l : List Pk} (h : Sg l) : ∀ p ∈ l, Sg p.picks := by cases h; assumption
end Go.Proofs.Ytmcgjccheehehaa
