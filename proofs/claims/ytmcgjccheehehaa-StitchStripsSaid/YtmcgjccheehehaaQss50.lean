/-
  The parts SbH of the proof, in one file. Conditions: none.
-/
import Derived.Test.YtmcgjccheehehaaQss49
namespace Go.Proofs.Ytmcgjccheehehaa
open Go.Eng
set_option linter.unusedVariables false
set_option linter.unusedSimpArgs false
set_option maxRecDepth 20000
set_option maxHeartbeats 1000000
theorem coll_fit (on : ByteArray) (one : Pk → Val) (l : List Pk) (hl : l.length ≤ 879609302220) (h : ∀ p ∈ l, (one p).Fit) : (collV on one l).Fit := by
  have h1 := onP_len on l
  refine .mk _ ?_ ?_ fun x hx => ?_
  · simp only [collV, Val.items_mk, List.length_cons, List.length_map]; omega
  · simp only [collV, Val.keys_mk, List.length_cons, List.length_map]; omega
  · simp only [collV, Val.items_mk, List.mem_cons, List.mem_map] at hx
    rcases hx with rfl | ⟨p, hp, rfl⟩
    · exact .mk _ (by simp [Val.items_mk]) (by simp [Val.keys_mk]) (by simp [Val.items_mk])
    · exact h p (List.mem_filter.1 hp).1
theorem failV_fitG (s : ByteArray) : (failV s).Fit := .mk _ (by simp [failV, Val.items_mk]) (by simp [failV, Val.keys_mk]) (by simp [failV, Val.items_mk])
theorem stripV_fitG (v : Val) : v.Fit → ∀ l, PkR l → (stripV v l).Fit := by
  refine Val.ind (Q := fun v => v.Fit → ∀ l, PkR l → (stripV v l).Fit) (fun v ih hv l hl => ?_) v
  rw [stripV_eq]
  split
  · have := hv.i
    refine .mk _ (by simp only [Val.items_mk, List.length_map]; exact this) (by simp [Val.keys_mk]) fun x hx => ?_
    simp only [Val.items_mk, List.mem_map] at hx
    obtain ⟨y, hy, rfl⟩ := hx
    exact ih y hy (hv.x hy) l hl
  · split
    · refine coll_fit _ _ l hl.n fun p hp => ?_
      unfold stripE
      split
      · rename_i x hx
        exact ih x (getV_mem hx) (hv.x (getV_mem hx)) p.picks (hl.x hp)
      · exact failV_fitG _
    · exact hv
theorem lawStripsG (l : List Pk) (on s : ByteArray) (v : Val) (hl : PkR l) (hv : v.Fit) (hp : CH) (m : Nat) : MeetsF Try.prog 8 hp m [.ds (mapC pkC l), .s on, .s s, vx v] (.b true) := by
  have hS := stripV_fitG v hv l hl
  have g1 := picks_okG l hl
  have g2 := weight_ok 2000 v hv
  obtain ⟨A, eA⟩ : ∃ A, pkNs l l.length = A := ⟨_, rfl⟩
  obtain ⟨B, eB⟩ : ∃ B, wgV 2000 v = B := ⟨_, rfl⟩
  rw [eA] at g1
  rw [eB] at g2
  have h1 := strip_okG v hv l hl
  have h2 := rstrip_okG v hv l hl
  have h3 := equal_ok _ hS
  obtain ⟨J, eJ⟩ : ∃ J, stripV v l = J := ⟨_, rfl⟩
  rw [eJ] at h1 h2 h3
  have h4 := fail_ok l on s hl.n
  have h5 := rfail_ok l on s hl.n
  have h6 := equal_ok (collV on (fun _ => failV s) l) (coll_fit _ _ l hl.n fun _ _ => failV_fitG s)
  obtain ⟨K, eK⟩ : ∃ K, collV on (fun _ => failV s) l = K := ⟨_, rfl⟩
  rw [eK] at h4 h5 h6
  refine meetsF Try.func8 (by kernel_rfl) cc8 cr8 rfl fun hf => ?_; unfold ck8
  simp only [go_sem, ↓reduceIte, Nat.reduceEqDiff, Nat.reduceBEq, Nat.reduceAdd, Nat.reduceLeDiff, Nat.reduceLT, reduceCtorEq, Nat.reduceMul, Nat.reduceSub, Int.reduceEq, Int.reduceLT, Int.reduceLE, Int.reduceToNat]
  refine vcCall.f (g1 _ _) ?_
  simp only [go_sem, ↓reduceIte, Nat.reduceEqDiff, Nat.reduceBEq, Nat.reduceAdd, Nat.reduceLeDiff, Nat.reduceLT, reduceCtorEq, Nat.reduceMul, Nat.reduceSub, Int.reduceEq, Int.reduceLT, Int.reduceLE, Int.reduceToNat]
  refine gCall.f (fun _ => g2 _ _) ?_
  simp only [go_sem, ↓reduceIte, Nat.reduceEqDiff, Nat.reduceBEq, Nat.reduceAdd, Nat.reduceLeDiff, Nat.reduceLT, reduceCtorEq, Nat.reduceMul, Nat.reduceSub, Int.reduceEq, Int.reduceLT, Int.reduceLE, Int.reduceToNat]
  refine cdK_of (fun c => ?_) (fun c => ?_)
  · simp only [go_sem, ↓reduceIte, Nat.reduceEqDiff, Nat.reduceBEq, Nat.reduceAdd, Nat.reduceLeDiff, Nat.reduceLT, reduceCtorEq, Nat.reduceMul, Nat.reduceSub, Int.reduceEq, Int.reduceLT, Int.reduceLE, Int.reduceToNat]
    refine vcCall.f (ex36_ok _ _) ?_
    simp only [go_sem, ↓reduceIte, Nat.reduceEqDiff, Nat.reduceBEq, Nat.reduceAdd, Nat.reduceLeDiff, Nat.reduceLT, reduceCtorEq, Nat.reduceMul, Nat.reduceSub, Int.reduceEq, Int.reduceLT, Int.reduceLE, Int.reduceToNat]
  · simp only [go_sem, ↓reduceIte, Nat.reduceEqDiff, Nat.reduceBEq, Nat.reduceAdd, Nat.reduceLeDiff, Nat.reduceLT, reduceCtorEq, Nat.reduceMul, Nat.reduceSub, Int.reduceEq, Int.reduceLT, Int.reduceLE, Int.reduceToNat]
    first | refine dCallR.f (fun _ _ _ => h1 _ _) ?_ | refine dCall.f (fun _ _ _ => h1 _ _) ?_
    simp only [go_sem, ↓reduceIte, Nat.reduceEqDiff, Nat.reduceBEq, Nat.reduceAdd, Nat.reduceLeDiff, Nat.reduceLT, reduceCtorEq, Nat.reduceMul, Nat.reduceSub, Int.reduceEq, Int.reduceLT, Int.reduceLE, Int.reduceToNat]
    first | refine dCallR.f (fun _ _ _ => h2 _ _) ?_ | refine dCall.f (fun _ _ _ => h2 _ _) ?_
    simp only [go_sem, ↓reduceIte, Nat.reduceEqDiff, Nat.reduceBEq, Nat.reduceAdd, Nat.reduceLeDiff, Nat.reduceLT, reduceCtorEq, Nat.reduceMul, Nat.reduceSub, Int.reduceEq, Int.reduceLT, Int.reduceLE, Int.reduceToNat]
    first | refine dCallR.f (fun _ _ _ => h3 _ _) ?_ | refine dCall.f (fun _ _ _ => h3 _ _) ?_
    simp only [go_sem, ↓reduceIte, Nat.reduceEqDiff, Nat.reduceBEq, Nat.reduceAdd, Nat.reduceLeDiff, Nat.reduceLT, reduceCtorEq, Nat.reduceMul, Nat.reduceSub, Int.reduceEq, Int.reduceLT, Int.reduceLE, Int.reduceToNat]
    first | refine dCallR.f (fun _ _ _ => h4 _ _) ?_ | refine dCall.f (fun _ _ _ => h4 _ _) ?_
    simp only [go_sem, ↓reduceIte, Nat.reduceEqDiff, Nat.reduceBEq, Nat.reduceAdd, Nat.reduceLeDiff, Nat.reduceLT, reduceCtorEq, Nat.reduceMul, Nat.reduceSub, Int.reduceEq, Int.reduceLT, Int.reduceLE, Int.reduceToNat]
    first | refine dCallR.f (fun _ _ _ => h5 _ _) ?_ | refine dCall.f (fun _ _ _ => h5 _ _) ?_
    simp only [go_sem, ↓reduceIte, Nat.reduceEqDiff, Nat.reduceBEq, Nat.reduceAdd, Nat.reduceLeDiff, Nat.reduceLT, reduceCtorEq, Nat.reduceMul, Nat.reduceSub, Int.reduceEq, Int.reduceLT, Int.reduceLE, Int.reduceToNat]
    first | refine dCallR.f (fun _ _ _ => h6 _ _) ?_ | refine dCall.f (fun _ _ _ => h6 _ _) ?_
    simp only [go_sem, ↓reduceIte, Nat.reduceEqDiff, Nat.reduceBEq, Nat.reduceAdd, Nat.reduceLeDiff, Nat.reduceLT, reduceCtorEq, Nat.reduceMul, Nat.reduceSub, Int.reduceEq, Int.reduceLT, Int.reduceLE, Int.reduceToNat]
    first | refine dCallR.f (fun _ _ _ => ex36_ok _ _) ?_ | refine dCall.f (fun _ _ _ => ex36_ok _ _) ?_
    simp only [go_sem, ↓reduceIte, Nat.reduceEqDiff, Nat.reduceBEq, Nat.reduceAdd, Nat.reduceLeDiff, Nat.reduceLT, reduceCtorEq, Nat.reduceMul, Nat.reduceSub, Int.reduceEq, Int.reduceLT, Int.reduceLE, Int.reduceToNat]
end Go.Proofs.Ytmcgjccheehehaa
