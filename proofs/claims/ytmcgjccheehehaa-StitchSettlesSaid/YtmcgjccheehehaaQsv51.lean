/-
  The parts SbH of the proof, in one file. Conditions: none.
-/
import Derived.Test.YtmcgjccheehehaaQsv50
namespace Go.Proofs.Ytmcgjccheehehaa
open Go.Eng
set_option linter.unusedVariables false
set_option linter.unusedSimpArgs false
set_option maxRecDepth 20000
set_option maxHeartbeats 1000000
theorem coll_fit (on : ByteArray) (one : Pk → Val) (l : List Pk) (hl : l.length ≤ 879609302220) (h : ∀ p ∈ l, (one p).Fit) : (collV on one l).Fit := by
  have h1 := onP_len on l
  refine .mk _ ?_ ?_ fun x hx => ?_
  · simp only [collV, Val.items_mk, List.length_cons, List.length_map]; omega
  · simp only [collV, Val.keys_mk, List.length_cons, List.length_map]; omega
  · simp only [collV, Val.items_mk, List.mem_cons, List.mem_map] at hx
    rcases hx with rfl | ⟨p, hp, rfl⟩
    · exact .mk _ (by simp [Val.items_mk]) (by simp [Val.keys_mk]) (by simp [Val.items_mk])
    · exact h p (List.mem_filter.1 hp).1
theorem failV_fitG (s : ByteArray) : (failV s).Fit := .mk _ (by simp [failV, Val.items_mk]) (by simp [failV, Val.keys_mk]) (by simp [failV, Val.items_mk])
theorem stripV_fitG (v : Val) : v.Fit → ∀ l, PkR l → (stripV v l).Fit := by
  refine Val.ind (Q := fun v => v.Fit → ∀ l, PkR l → (stripV v l).Fit) (fun v ih hv l hl => ?_) v
  rw [stripV_eq]
  split
  · have := hv.i
    refine .mk _ (by simp only [Val.items_mk, List.length_map]; exact this) (by simp [Val.keys_mk]) fun x hx => ?_
    simp only [Val.items_mk, List.mem_map] at hx
    obtain ⟨y, hy, rfl⟩ := hx
    exact ih y hy (hv.x hy) l hl
  · split
    · refine coll_fit _ _ l hl.n fun p hp => ?_
      unfold stripE
      split
      · rename_i x hx
        exact ih x (getV_mem hx) (hv.x (getV_mem hx)) p.picks (hl.x hp)
      · exact failV_fitG _
    · exact hv
/-- Values whose lists memory bears. -/
inductive RN : Val → Prop
  | mk (v : Val) : v.items.length ≤ 1759218604390 → (∀ x ∈ v.items, RN x) → RN v
theorem RN.n {v : Val} (h : RN v) : v.items.length ≤ 1759218604390 := by cases h; assumption
theorem RN.x {v : Val} (h : RN v) : ∀ x ∈ v.items, RN x := by cases h; assumption
theorem cl_sf (v : Val) : Cl v → RN v → v.Fit → Sf v := by
  refine Val.ind (Q := fun v => Cl v → RN v → v.Fit → Sf v) (fun v ih h rn fv => ?_) v
  have c := h.c
  refine .mk v fv rn.n (fun h6 => ?_) fun x hx => ih x hx (h.x x hx) (rn.x x hx) (fv.x hx)
  have hl := c.c h6
  have hs : szO v = v.keys.length := by unfold szO; omega
  refine ⟨fun j x k y ex ek ey => ?_, fun k hk => ?_⟩
  · have hj := (List.getElem?_eq_some_iff.1 ex).1
    have hix : ixO v k = j := by
      unfold ixO
      rw [hs, List.take_length]
      exact ix_once ek fun q hq e => c.e j q k hq hj e ek
    rw [hix, Int.toNat_natCast, ex] at ey
    cases ey
    rfl
  · rw [hs, List.take_length]
    exact inB_iff.2 hk
theorem lawSettlesG (l : List Pk) (v : Val) (hl : PkR l) (fv : v.Fit) (rn : RN v) (hp : CH) (m : Nat) : MeetsF Try.prog 9 hp m [.ds (mapC pkC l), vx v] (.b true) := by
  have g1 := picks_okG l hl
  have g2 := weight_ok 2000 v fv
  obtain ⟨A, eA⟩ : ∃ A, pkNs l l.length = A := ⟨_, rfl⟩
  obtain ⟨B, eB⟩ : ∃ B, wgV 2000 v = B := ⟨_, rfl⟩
  rw [eA] at g1
  rw [eB] at g2
  obtain ⟨C, hC⟩ := exB (Cl v)
  obtain ⟨D, hD⟩ := exB (Sg l)
  have h1 := clean_ok v fv C hC
  have h2 := single_okG l hl D hD
  have h3 := fun c : C = true => join_okS v v (.inr ⟨rfl, cl_sf v (hC.1 c) rn fv⟩)
  have h4 := strip_okG v fv l hl
  have fs := stripV_fitG v fv l hl
  have h5 := strip_okG (stripV v l) fs l hl
  have h6 := weight_ok 20000 (stripV v l) fs
  have h7 := equal_ok (stripV v l) fs
  have h8 := equal_ok v fv
  have hss : D = true → stripV (stripV v l) l = stripV v l := fun d => strip_strip v l (hD.1 d)
  have hjj : C = true → joinV v v = v := fun c => join_self v (hC.1 c)
  obtain ⟨S, eS⟩ : ∃ S, stripV v l = S := ⟨_, rfl⟩
  rw [eS] at h4 h5 h6 h7 hss
  obtain ⟨W, eW⟩ : ∃ W, wgV 20000 S = W := ⟨_, rfl⟩
  rw [eW] at h6
  refine meetsF Try.func9 (by kernel_rfl) cc9 cr9 rfl fun hf => ?_; unfold ck9
  simp only [go_sem, ↓reduceIte, Nat.reduceEqDiff, Nat.reduceBEq, Nat.reduceAdd, Nat.reduceLeDiff, Nat.reduceLT, reduceCtorEq, Nat.reduceMul, Nat.reduceSub, Int.reduceEq, Int.reduceLT, Int.reduceLE, Int.reduceToNat]
  refine vcCall.f (g1 _ _) ?_
  simp only [go_sem, ↓reduceIte, Nat.reduceEqDiff, Nat.reduceBEq, Nat.reduceAdd, Nat.reduceLeDiff, Nat.reduceLT, reduceCtorEq, Nat.reduceMul, Nat.reduceSub, Int.reduceEq, Int.reduceLT, Int.reduceLE, Int.reduceToNat]
  refine gCall.f (fun _ => g2 _ _) ?_
  simp only [go_sem, ↓reduceIte, Nat.reduceEqDiff, Nat.reduceBEq, Nat.reduceAdd, Nat.reduceLeDiff, Nat.reduceLT, reduceCtorEq, Nat.reduceMul, Nat.reduceSub, Int.reduceEq, Int.reduceLT, Int.reduceLE, Int.reduceToNat]
  refine cdK_of (fun c => ?_) (fun c => ?_)
  · simp only [go_sem, ↓reduceIte, Nat.reduceEqDiff, Nat.reduceBEq, Nat.reduceAdd, Nat.reduceLeDiff, Nat.reduceLT, reduceCtorEq, Nat.reduceMul, Nat.reduceSub, Int.reduceEq, Int.reduceLT, Int.reduceLE, Int.reduceToNat]
    refine vcCall.f (ex36_ok _ _) ?_
    simp only [go_sem, ↓reduceIte, Nat.reduceEqDiff, Nat.reduceBEq, Nat.reduceAdd, Nat.reduceLeDiff, Nat.reduceLT, reduceCtorEq, Nat.reduceMul, Nat.reduceSub, Int.reduceEq, Int.reduceLT, Int.reduceLE, Int.reduceToNat]
  · simp only [go_sem, ↓reduceIte, Nat.reduceEqDiff, Nat.reduceBEq, Nat.reduceAdd, Nat.reduceLeDiff, Nat.reduceLT, reduceCtorEq, Nat.reduceMul, Nat.reduceSub, Int.reduceEq, Int.reduceLT, Int.reduceLE, Int.reduceToNat]
    first | refine dCallR.f (fun _ _ _ => h1 _ _) ?_ | refine dCall.f (fun _ _ _ => h1 _ _) ?_
    simp only [go_sem, ↓reduceIte, Nat.reduceEqDiff, Nat.reduceBEq, Nat.reduceAdd, Nat.reduceLeDiff, Nat.reduceLT, reduceCtorEq, Nat.reduceMul, Nat.reduceSub, Int.reduceEq, Int.reduceLT, Int.reduceLE, Int.reduceToNat]
    cases C with
    | true =>
      have h3 := h3 rfl
      rw [hjj rfl] at h3
      first | refine dCallR.f (fun _ _ _ => h3 _ _) ?_ | refine dCall.f (fun _ _ _ => h3 _ _) ?_
      simp only [go_sem, ↓reduceIte, Nat.reduceEqDiff, Nat.reduceBEq, Nat.reduceAdd, Nat.reduceLeDiff, Nat.reduceLT, reduceCtorEq, Nat.reduceMul, Nat.reduceSub, Int.reduceEq, Int.reduceLT, Int.reduceLE, Int.reduceToNat]
      first | refine dCallR.f (fun _ _ _ => h8 _ _) ?_ | refine dCall.f (fun _ _ _ => h8 _ _) ?_
      simp only [go_sem, ↓reduceIte, Nat.reduceEqDiff, Nat.reduceBEq, Nat.reduceAdd, Nat.reduceLeDiff, Nat.reduceLT, reduceCtorEq, Nat.reduceMul, Nat.reduceSub, Int.reduceEq, Int.reduceLT, Int.reduceLE, Int.reduceToNat]
      cases D with
      | true =>
        rw [hss rfl] at h5
        refine vcCall.f (h2 _ _) ?_
        simp only [go_sem, ↓reduceIte, Nat.reduceEqDiff, Nat.reduceBEq, Nat.reduceAdd, Nat.reduceLeDiff, Nat.reduceLT, reduceCtorEq, Nat.reduceMul, Nat.reduceSub, Int.reduceEq, Int.reduceLT, Int.reduceLE, Int.reduceToNat]
        refine vcCall.f (h4 _ _) ?_
        simp only [go_sem, ↓reduceIte, Nat.reduceEqDiff, Nat.reduceBEq, Nat.reduceAdd, Nat.reduceLeDiff, Nat.reduceLT, reduceCtorEq, Nat.reduceMul, Nat.reduceSub, Int.reduceEq, Int.reduceLT, Int.reduceLE, Int.reduceToNat]
        first | refine dCallR.f (fun _ _ _ => h6 _ _) ?_ | refine dCall.f (fun _ _ _ => h6 _ _) ?_
        simp only [go_sem, ↓reduceIte, Nat.reduceEqDiff, Nat.reduceBEq, Nat.reduceAdd, Nat.reduceLeDiff, Nat.reduceLT, reduceCtorEq, Nat.reduceMul, Nat.reduceSub, Int.reduceEq, Int.reduceLT, Int.reduceLE, Int.reduceToNat]
        by_cases w : 20000 < W
        · refine dCall.f (fun _ hp' _ => h5 hp' _) ?_
          simp only [w, go_sem, ↓reduceIte, Nat.reduceEqDiff, Nat.reduceBEq, Nat.reduceAdd, Nat.reduceLeDiff, Nat.reduceLT, reduceCtorEq, Nat.reduceMul, Nat.reduceSub, Int.reduceEq, Int.reduceLT, Int.reduceLE, Int.reduceToNat]
          refine dCall.f (fun _ hp' _ => h7 hp' _) ?_
          simp only [w, go_sem, ↓reduceIte, Nat.reduceEqDiff, Nat.reduceBEq, Nat.reduceAdd, Nat.reduceLeDiff, Nat.reduceLT, reduceCtorEq, Nat.reduceMul, Nat.reduceSub, Int.reduceEq, Int.reduceLT, Int.reduceLE, Int.reduceToNat]
          refine vcCall.f (h6 _ _) ?_
          simp only [go_sem, ↓reduceIte, Nat.reduceEqDiff, Nat.reduceBEq, Nat.reduceAdd, Nat.reduceLeDiff, Nat.reduceLT, reduceCtorEq, Nat.reduceMul, Nat.reduceSub, Int.reduceEq, Int.reduceLT, Int.reduceLE, Int.reduceToNat]
          simp only [w, go_sem, ↓reduceIte, Nat.reduceEqDiff, Nat.reduceBEq, Nat.reduceAdd, Nat.reduceLeDiff, Nat.reduceLT, reduceCtorEq, Nat.reduceMul, Nat.reduceSub, Int.reduceEq, Int.reduceLT, Int.reduceLE, Int.reduceToNat]
          refine gCall_t (vcCall.f (ex36_ok _ _) ?_)
          simp only [go_sem, ↓reduceIte, Nat.reduceEqDiff, Nat.reduceBEq, Nat.reduceAdd, Nat.reduceLeDiff, Nat.reduceLT, reduceCtorEq, Nat.reduceMul, Nat.reduceSub, Int.reduceEq, Int.reduceLT, Int.reduceLE, Int.reduceToNat]
        · refine dCall.f (fun _ hp' _ => h5 hp' _) ?_
          simp only [w, go_sem, ↓reduceIte, Nat.reduceEqDiff, Nat.reduceBEq, Nat.reduceAdd, Nat.reduceLeDiff, Nat.reduceLT, reduceCtorEq, Nat.reduceMul, Nat.reduceSub, Int.reduceEq, Int.reduceLT, Int.reduceLE, Int.reduceToNat]
          refine dCall.f (fun _ hp' _ => h7 hp' _) ?_
          simp only [w, go_sem, ↓reduceIte, Nat.reduceEqDiff, Nat.reduceBEq, Nat.reduceAdd, Nat.reduceLeDiff, Nat.reduceLT, reduceCtorEq, Nat.reduceMul, Nat.reduceSub, Int.reduceEq, Int.reduceLT, Int.reduceLE, Int.reduceToNat]
          refine vcCall.f (ex36_ok _ _) ?_
          simp only [go_sem, ↓reduceIte, Nat.reduceEqDiff, Nat.reduceBEq, Nat.reduceAdd, Nat.reduceLeDiff, Nat.reduceLT, reduceCtorEq, Nat.reduceMul, Nat.reduceSub, Int.reduceEq, Int.reduceLT, Int.reduceLE, Int.reduceToNat]
      | false =>
        refine vcCall.f (h2 _ _) ?_
        simp only [go_sem, ↓reduceIte, Nat.reduceEqDiff, Nat.reduceBEq, Nat.reduceAdd, Nat.reduceLeDiff, Nat.reduceLT, reduceCtorEq, Nat.reduceMul, Nat.reduceSub, Int.reduceEq, Int.reduceLT, Int.reduceLE, Int.reduceToNat]
        refine vcCall.f (ex36_ok _ _) ?_
        simp only [go_sem, ↓reduceIte, Nat.reduceEqDiff, Nat.reduceBEq, Nat.reduceAdd, Nat.reduceLeDiff, Nat.reduceLT, reduceCtorEq, Nat.reduceMul, Nat.reduceSub, Int.reduceEq, Int.reduceLT, Int.reduceLE, Int.reduceToNat]
    | false =>
      refine dCall.no ?_
      simp only [go_sem, ↓reduceIte, Nat.reduceEqDiff, Nat.reduceBEq, Nat.reduceAdd, Nat.reduceLeDiff, Nat.reduceLT, reduceCtorEq, Nat.reduceMul, Nat.reduceSub, Int.reduceEq, Int.reduceLT, Int.reduceLE, Int.reduceToNat]
      refine dCall.no ?_
      simp only [go_sem, ↓reduceIte, Nat.reduceEqDiff, Nat.reduceBEq, Nat.reduceAdd, Nat.reduceLeDiff, Nat.reduceLT, reduceCtorEq, Nat.reduceMul, Nat.reduceSub, Int.reduceEq, Int.reduceLT, Int.reduceLE, Int.reduceToNat]
      cases D with
      | true =>
        rw [hss rfl] at h5
        refine vcCall.f (h2 _ _) ?_
        simp only [go_sem, ↓reduceIte, Nat.reduceEqDiff, Nat.reduceBEq, Nat.reduceAdd, Nat.reduceLeDiff, Nat.reduceLT, reduceCtorEq, Nat.reduceMul, Nat.reduceSub, Int.reduceEq, Int.reduceLT, Int.reduceLE, Int.reduceToNat]
        refine vcCall.f (h4 _ _) ?_
        simp only [go_sem, ↓reduceIte, Nat.reduceEqDiff, Nat.reduceBEq, Nat.reduceAdd, Nat.reduceLeDiff, Nat.reduceLT, reduceCtorEq, Nat.reduceMul, Nat.reduceSub, Int.reduceEq, Int.reduceLT, Int.reduceLE, Int.reduceToNat]
        first | refine dCallR.f (fun _ _ _ => h6 _ _) ?_ | refine dCall.f (fun _ _ _ => h6 _ _) ?_
        simp only [go_sem, ↓reduceIte, Nat.reduceEqDiff, Nat.reduceBEq, Nat.reduceAdd, Nat.reduceLeDiff, Nat.reduceLT, reduceCtorEq, Nat.reduceMul, Nat.reduceSub, Int.reduceEq, Int.reduceLT, Int.reduceLE, Int.reduceToNat]
        by_cases w : 20000 < W
        · refine dCall.f (fun _ hp' _ => h5 hp' _) ?_
          simp only [w, go_sem, ↓reduceIte, Nat.reduceEqDiff, Nat.reduceBEq, Nat.reduceAdd, Nat.reduceLeDiff, Nat.reduceLT, reduceCtorEq, Nat.reduceMul, Nat.reduceSub, Int.reduceEq, Int.reduceLT, Int.reduceLE, Int.reduceToNat]
          refine dCall.f (fun _ hp' _ => h7 hp' _) ?_
          simp only [w, go_sem, ↓reduceIte, Nat.reduceEqDiff, Nat.reduceBEq, Nat.reduceAdd, Nat.reduceLeDiff, Nat.reduceLT, reduceCtorEq, Nat.reduceMul, Nat.reduceSub, Int.reduceEq, Int.reduceLT, Int.reduceLE, Int.reduceToNat]
          refine vcCall.f (h6 _ _) ?_
          simp only [go_sem, ↓reduceIte, Nat.reduceEqDiff, Nat.reduceBEq, Nat.reduceAdd, Nat.reduceLeDiff, Nat.reduceLT, reduceCtorEq, Nat.reduceMul, Nat.reduceSub, Int.reduceEq, Int.reduceLT, Int.reduceLE, Int.reduceToNat]
          simp only [w, go_sem, ↓reduceIte, Nat.reduceEqDiff, Nat.reduceBEq, Nat.reduceAdd, Nat.reduceLeDiff, Nat.reduceLT, reduceCtorEq, Nat.reduceMul, Nat.reduceSub, Int.reduceEq, Int.reduceLT, Int.reduceLE, Int.reduceToNat]
          refine gCall_t (vcCall.f (ex36_ok _ _) ?_)
          simp only [go_sem, ↓reduceIte, Nat.reduceEqDiff, Nat.reduceBEq, Nat.reduceAdd, Nat.reduceLeDiff, Nat.reduceLT, reduceCtorEq, Nat.reduceMul, Nat.reduceSub, Int.reduceEq, Int.reduceLT, Int.reduceLE, Int.reduceToNat]
        · refine dCall.f (fun _ hp' _ => h5 hp' _) ?_
          simp only [w, go_sem, ↓reduceIte, Nat.reduceEqDiff, Nat.reduceBEq, Nat.reduceAdd, Nat.reduceLeDiff, Nat.reduceLT, reduceCtorEq, Nat.reduceMul, Nat.reduceSub, Int.reduceEq, Int.reduceLT, Int.reduceLE, Int.reduceToNat]
          refine dCall.f (fun _ hp' _ => h7 hp' _) ?_
          simp only [w, go_sem, ↓reduceIte, Nat.reduceEqDiff, Nat.reduceBEq, Nat.reduceAdd, Nat.reduceLeDiff, Nat.reduceLT, reduceCtorEq, Nat.reduceMul, Nat.reduceSub, Int.reduceEq, Int.reduceLT, Int.reduceLE, Int.reduceToNat]
          refine vcCall.f (ex36_ok _ _) ?_
          simp only [go_sem, ↓reduceIte, Nat.reduceEqDiff, Nat.reduceBEq, Nat.reduceAdd, Nat.reduceLeDiff, Nat.reduceLT, reduceCtorEq, Nat.reduceMul, Nat.reduceSub, Int.reduceEq, Int.reduceLT, Int.reduceLE, Int.reduceToNat]
      | false =>
        refine vcCall.f (h2 _ _) ?_
        simp only [go_sem, ↓reduceIte, Nat.reduceEqDiff, Nat.reduceBEq, Nat.reduceAdd, Nat.reduceLeDiff, Nat.reduceLT, reduceCtorEq, Nat.reduceMul, Nat.reduceSub, Int.reduceEq, Int.reduceLT, Int.reduceLE, Int.reduceToNat]
        refine vcCall.f (ex36_ok _ _) ?_
        simp only [go_sem, ↓reduceIte, Nat.reduceEqDiff, Nat.reduceBEq, Nat.reduceAdd, Nat.reduceLeDiff, Nat.reduceLT, reduceCtorEq, Nat.reduceMul, Nat.reduceSub, Int.reduceEq, Int.reduceLT, Int.reduceLE, Int.reduceToNat]
end Go.Proofs.Ytmcgjccheehehaa
