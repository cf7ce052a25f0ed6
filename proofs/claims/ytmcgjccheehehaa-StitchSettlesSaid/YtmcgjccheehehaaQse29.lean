/-
  The parts SaA of the proof, in one file. Conditions: none.
-/
import Derived.Test.YtmcgjccheehehaaQse28
namespace Go.Proofs.Ytmcgjccheehehaa
open Go.Eng
set_option linter.unusedVariables false
set_option linter.unusedSimpArgs false
set_option maxRecDepth 20000
/-- The type of a raw object. -/
noncomputable def typT (v : Val) : ByteArray := match getV v ⟨#[95, 95, 116]⟩ with
  | some t => if t.k = 3 then t.s else ⟨#[]⟩
  | none => ⟨#[]⟩
theorem stypeOf_ok (v : Val) (hv : v.Fit) (hp : CH) (m : Nat) : MeetsF Try.prog 59 hp m [vx v] (.s (typT v)) := by
  have h1 := get_ok v hv ⟨#[95, 95, 116]⟩
  obtain ⟨T, hT⟩ : ∃ T, typT v = T := ⟨_, rfl⟩
  have e := hT
  rw [typT] at e
  obtain ⟨G, hG⟩ : ∃ G, getV v ⟨#[95, 95, 116]⟩ = G := ⟨_, rfl⟩
  rw [hG] at e h1
  rw [hT]
  refine meetsF Try.func59 (by kernel_rfl) cc59 cr59 rfl fun hf => ?_; unfold ck59
  simp only [go_sem, ↓reduceIte, Nat.reduceEqDiff, Nat.reduceBEq, Nat.reduceAdd, Nat.reduceLeDiff, Nat.reduceLT, reduceCtorEq, Nat.reduceMul, Nat.reduceSub, Int.reduceEq, Int.reduceLT, Int.reduceLE, Int.reduceToNat]
  refine vcCall.f (h1 _ _) ?_
  simp only [go_sem, ↓reduceIte, Nat.reduceEqDiff, Nat.reduceBEq, Nat.reduceAdd, Nat.reduceLeDiff, Nat.reduceLT, reduceCtorEq, Nat.reduceMul, Nat.reduceSub, Int.reduceEq, Int.reduceLT, Int.reduceLE, Int.reduceToNat]
  cases G with
  | none =>
    subst e
    simp only [go_sem, ↓reduceIte, Nat.reduceEqDiff, Nat.reduceBEq, Nat.reduceAdd, Nat.reduceLeDiff, Nat.reduceLT, reduceCtorEq, Nat.reduceMul, Nat.reduceSub, Int.reduceEq, Int.reduceLT, Int.reduceLE, Int.reduceToNat]
  | some t =>
    simp only [go_sem, ↓reduceIte, Nat.reduceEqDiff, Nat.reduceBEq, Nat.reduceAdd, Nat.reduceLeDiff, Nat.reduceLT, reduceCtorEq, Nat.reduceMul, Nat.reduceSub, Int.reduceEq, Int.reduceLT, Int.reduceLE, Int.reduceToNat]
    refine cdK_of (fun c => ?_) (fun c => ?_)
    · have c : t.k = 3 := by simpa using c
      have e : (if t.k = 3 then t.s else (⟨#[]⟩ : ByteArray)) = T := e
      rw [if_pos c] at e
      simp only [e, go_sem, ↓reduceIte, Nat.reduceEqDiff, Nat.reduceBEq, Nat.reduceAdd, Nat.reduceLeDiff, Nat.reduceLT, reduceCtorEq, Nat.reduceMul, Nat.reduceSub, Int.reduceEq, Int.reduceLT, Int.reduceLE, Int.reduceToNat]
    · have c : ¬ t.k = 3 := by simpa using c
      have e : (if t.k = 3 then t.s else (⟨#[]⟩ : ByteArray)) = T := e
      rw [if_neg c] at e
      subst e
      simp only [go_sem, ↓reduceIte, Nat.reduceEqDiff, Nat.reduceBEq, Nat.reduceAdd, Nat.reduceLeDiff, Nat.reduceLT, reduceCtorEq, Nat.reduceMul, Nat.reduceSub, Int.reduceEq, Int.reduceLT, Int.reduceLE, Int.reduceToNat]
theorem rtypeOf_ok (v : Val) (hv : v.Fit) (hp : CH) (m : Nat) : MeetsF Try.prog 61 hp m [vx v] (.s (typT v)) := by
  have h1 := rget_ok v hv ⟨#[95, 95, 116]⟩
  obtain ⟨T, hT⟩ : ∃ T, typT v = T := ⟨_, rfl⟩
  have e := hT
  rw [typT] at e
  obtain ⟨G, hG⟩ : ∃ G, getV v ⟨#[95, 95, 116]⟩ = G := ⟨_, rfl⟩
  rw [hG] at e h1
  rw [hT]
  refine meetsF Try.func61 (by kernel_rfl) cc61 cr61 rfl fun hf => ?_; unfold ck61
  simp only [go_sem, ↓reduceIte, Nat.reduceEqDiff, Nat.reduceBEq, Nat.reduceAdd, Nat.reduceLeDiff, Nat.reduceLT, reduceCtorEq, Nat.reduceMul, Nat.reduceSub, Int.reduceEq, Int.reduceLT, Int.reduceLE, Int.reduceToNat]
  refine vcCall.f (h1 _ _) ?_
  simp only [go_sem, ↓reduceIte, Nat.reduceEqDiff, Nat.reduceBEq, Nat.reduceAdd, Nat.reduceLeDiff, Nat.reduceLT, reduceCtorEq, Nat.reduceMul, Nat.reduceSub, Int.reduceEq, Int.reduceLT, Int.reduceLE, Int.reduceToNat]
  cases G with
  | none =>
    subst e
    simp only [go_sem, ↓reduceIte, Nat.reduceEqDiff, Nat.reduceBEq, Nat.reduceAdd, Nat.reduceLeDiff, Nat.reduceLT, reduceCtorEq, Nat.reduceMul, Nat.reduceSub, Int.reduceEq, Int.reduceLT, Int.reduceLE, Int.reduceToNat]
  | some t =>
    simp only [go_sem, ↓reduceIte, Nat.reduceEqDiff, Nat.reduceBEq, Nat.reduceAdd, Nat.reduceLeDiff, Nat.reduceLT, reduceCtorEq, Nat.reduceMul, Nat.reduceSub, Int.reduceEq, Int.reduceLT, Int.reduceLE, Int.reduceToNat]
    refine cdK_of (fun c => ?_) (fun c => ?_)
    · have c : ¬ t.k = 3 := by simpa using c
      have e : (if t.k = 3 then t.s else (⟨#[]⟩ : ByteArray)) = T := e
      rw [if_neg c] at e
      subst e
      simp only [go_sem, ↓reduceIte, Nat.reduceEqDiff, Nat.reduceBEq, Nat.reduceAdd, Nat.reduceLeDiff, Nat.reduceLT, reduceCtorEq, Nat.reduceMul, Nat.reduceSub, Int.reduceEq, Int.reduceLT, Int.reduceLE, Int.reduceToNat]
    · have c : t.k = 3 := by simpa using c
      have e : (if t.k = 3 then t.s else (⟨#[]⟩ : ByteArray)) = T := e
      rw [if_pos c] at e
      simp only [e, go_sem, ↓reduceIte, Nat.reduceEqDiff, Nat.reduceBEq, Nat.reduceAdd, Nat.reduceLeDiff, Nat.reduceLT, reduceCtorEq, Nat.reduceMul, Nat.reduceSub, Int.reduceEq, Int.reduceLT, Int.reduceLE, Int.reduceToNat]
/-- A leaf value. -/
def lfB (v : Val) : Bool := decide (1 ≤ v.k) && decide (v.k ≤ 4)
theorem sleaf_ok (v : Val) (hp : CH) (m : Nat) : MeetsF Try.prog 89 hp m [vx v] (.b (lfB v)) := by
  rw [lfB]
  refine meetsF Try.func89 (by kernel_rfl) cc89 cr89 rfl fun hf => ?_; unfold ck89
  simp only [go_sem, ↓reduceIte, Nat.reduceEqDiff, Nat.reduceBEq, Nat.reduceAdd, Nat.reduceLeDiff, Nat.reduceLT, reduceCtorEq, Nat.reduceMul, Nat.reduceSub, Int.reduceEq, Int.reduceLT, Int.reduceLE, Int.reduceToNat]
/-- How many fields an object has. -/
def szO (v : Val) : Nat := min v.keys.length v.items.length
theorem szO_le (v : Val) : szO v ≤ v.keys.length ∧ szO v ≤ v.items.length := by unfold szO; omega
theorem ssize_ok (v : Val) (hp : CH) (m : Nat) : MeetsF Try.prog 94 hp m [vx v] (.i .i64 (szO v)) := by
  have e : (if (v.items.length : Int) < v.keys.length then (v.items.length : Int) else v.keys.length) = (szO v : Nat) := by unfold szO; split <;> omega
  refine meetsF Try.func94 (by kernel_rfl) cc94 cr94 rfl fun hf => ?_; unfold ck94
  simp only [e, go_sem, ↓reduceIte, Nat.reduceEqDiff, Nat.reduceBEq, Nat.reduceAdd, Nat.reduceLeDiff, Nat.reduceLT, reduceCtorEq, Nat.reduceMul, Nat.reduceSub, Int.reduceEq, Int.reduceLT, Int.reduceLE, Int.reduceToNat]
/-- The place of the first field with a key, or -1. -/
def ixO (v : Val) (k : ByteArray) : Int := ix k (v.keys.take (szO v)) 0
theorem sindex_ok (v : Val) (hv : v.Fit) (k : ByteArray) (hp : CH) (m : Nat) : MeetsF Try.prog 92 hp m [vx v, .s k] (.i .i64 (ixO v k)) := by
  have h1 := hv.l
  have h2 := szO_le v
  have h3 : (v.keys.take (szO v)).length ≤ 9223372036854775806 := by simp; omega
  have h4 := index_ok (v.keys.take (szO v)) k h3
  obtain ⟨X, hX⟩ : ∃ X, ixO v k = X := ⟨_, rfl⟩
  have e := hX
  unfold ixO at e
  rw [e] at h4
  rw [hX]
  obtain ⟨Z, hZ⟩ : ∃ Z, szO v = Z := ⟨_, rfl⟩
  have hs := ssize_ok v
  rw [hZ] at h4 hs h2
  refine meetsF Try.func92 (by kernel_rfl) cc92 cr92 rfl fun hf => ?_; unfold ck92
  simp only [go_sem, ↓reduceIte, Nat.reduceEqDiff, Nat.reduceBEq, Nat.reduceAdd, Nat.reduceLeDiff, Nat.reduceLT, reduceCtorEq, Nat.reduceMul, Nat.reduceSub, Int.reduceEq, Int.reduceLT, Int.reduceLE, Int.reduceToNat]
  first | refine dCallR.f (fun _ _ _ => hs _ _) ?_ | refine dCall.f (fun _ _ _ => hs _ _) ?_
  simp only [go_sem, ↓reduceIte, Nat.reduceEqDiff, Nat.reduceBEq, Nat.reduceAdd, Nat.reduceLeDiff, Nat.reduceLT, reduceCtorEq, Nat.reduceMul, Nat.reduceSub, Int.reduceEq, Int.reduceLT, Int.reduceLE, Int.reduceToNat]
  refine ⟨by omega, ?_⟩
  first | refine dCallR.f (fun _ _ _ => h4 _ _) ?_ | refine dCall.f (fun _ _ _ => h4 _ _) ?_
  simp only [go_sem, ↓reduceIte, Nat.reduceEqDiff, Nat.reduceBEq, Nat.reduceAdd, Nat.reduceLeDiff, Nat.reduceLT, reduceCtorEq, Nat.reduceMul, Nat.reduceSub, Int.reduceEq, Int.reduceLT, Int.reduceLE, Int.reduceToNat]
end Go.Proofs.Ytmcgjccheehehaa
