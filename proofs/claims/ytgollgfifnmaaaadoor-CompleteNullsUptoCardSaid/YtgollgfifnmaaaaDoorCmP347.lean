/-
  The parts CmT CmZ CmQ VaR of the proof, in one file. Conditions: none.
-/
import Derived.Test.YtgollgfifnmaaaaDoorRows
import Derived.WalkKit
import Derived.Test.YtgollgfifnmaaaaDoorCmP346
namespace Go.Proofs.YtgollgfifnmaaaaDoor
open Go.Eng
set_option linter.unusedVariables false
set_option linter.unusedSimpArgs false
set_option maxRecDepth 20000
set_option maxHeartbeats 1000000
/-- The state of the document's completion in memory. -/
structure RunR (doc : List Dfn) (hp : CH) (c kp gp : Nat) (P : List Prb) : Prop where
  hc : gc hp c = .bx [.ds (mapC dfC doc), .rw kp gp P.length]
  hk : gc hp kp = .rw gp 2 (mapC prbC P)
def wsR (doc : List Dfn) (c kp gp : Nat) (P R : List Prb) : CH :=
  [(kp, .rw (gp + R.length) 2 (mapC prbC (P ++ R))), (c, .bx [.ds (mapC dfC doc), .rw kp (gp + R.length) (P.length + R.length)])]
section
variable {doc : List Dfn} {hp : CH} {c kp gp : Nat} {P R : List Prb}
theorem RunR.n2 (h : RunR doc hp c kp gp P) : ¬ c = kp := fun e => by have := h.hc; rw [e, h.hk] at this; cases this
theorem RunR.lt {n : Nat} (h : RunR doc hp c kp gp P) (hf : ∀ k, n ≤ k → gc hp k = .no) : c < n ∧ kp < n :=
  ⟨free_lt hf h.hc (fun e => by cases e), free_lt hf h.hk (fun e => by cases e)⟩
theorem RunR.wsLt {n : Nat} (h : RunR doc hp c kp gp P) (hf : ∀ k, n ≤ k → gc hp k = .no) : wsLt n (wsR doc c kp gp P R) := by
  obtain ⟨h1, h3⟩ := h.lt hf
  refine ⟨h3, trivial, h1, ?_, trivial⟩
  intro α hα
  simp only [List.mem_cons, List.not_mem_nil, or_false] at hα
  rcases hα with rfl | rfl
  · rfl
  · exact h3
theorem RunR.of {hp' : CH} (h : RunR doc hp c kp gp P) (e : ∀ j, (j = c ∨ j = kp) → gc hp' j = gc hp j) : RunR doc hp' c kp gp P :=
  ⟨(e c (.inl rfl)).trans h.hc, (e kp (.inr rfl)).trans h.hk⟩
end
end Go.Proofs.YtgollgfifnmaaaaDoor
namespace Go.Eng
set_option linter.unusedVariables false
end Go.Eng
namespace Go.Proofs.YtgollgfifnmaaaaDoor
open Go.Eng
set_option linter.unusedVariables false
set_option linter.unusedSimpArgs false
set_option maxRecDepth 20000
set_option maxHeartbeats 1000000
/-- Paths and values of a completion fit in memory. -/
def PrF (n : Nat) (R : CRes) : Prop := R.1.Fit ∧ ∀ p ∈ R.2, p.p.length ≤ n ∧ ∀ x ∈ p.p, x.Fit
theorem PrF.mono {n m : Nat} {R : CRes} (h : PrF n R) (hm : n ≤ m) : PrF m R := ⟨h.1, fun p hp => ⟨Nat.le_trans (h.2 p hp).1 hm, (h.2 p hp).2⟩⟩
theorem fits_app {path : List Val} (h : ∀ x ∈ path, x.Fit) {y : Val} (hy : y.Fit) : ∀ x ∈ path ++ [y], x.Fit := fun x hx => by
  rcases List.mem_append.1 hx with h1 | h1
  · exact h x h1
  · rw [List.mem_singleton.1 h1]; exact hy
theorem flatV_fit {v : Val} (h1 : v.items = []) (h2 : v.keys = []) : v.Fit := .mk v (by simp [h1]) (by simp [h2]) (by simp [h1])
theorem inV_fit (n : Int) : (inV n).Fit := flatV_fit rfl rfl
theorem txV_fit (s : ByteArray) : (txV s).Fit := flatV_fit rfl rfl
theorem cpl_fit (doc : List Dfn) (v : Val) : v.Fit → ∀ tn tw picks path, PFit picks → (∀ x ∈ path, x.Fit) → PrF (path.length + wtV v) (cplV doc v tn tw picks path) := by
  refine Val.ind (Q := fun v => v.Fit → ∀ tn tw picks path, PFit picks → (∀ x ∈ path, x.Fit) → PrF (path.length + wtV v) (cplV doc v tn tw picks path)) (fun v ih hv tn tw picks path hpk hpa => ?_) v
  have hz : ∀ tn tw picks path, (∀ x ∈ path, x.Fit) → PrF path.length (cplV doc zVal tn tw picks path) := fun tn tw picks path hpa => by
    rw [cplV_z, zFn, nulR]
    split
    · exact ⟨zval_fit, fun p hp => by rw [List.mem_singleton.1 (show p ∈ [Prb.mk path sNull] from hp)]; exact ⟨Nat.le_refl _, hpa⟩⟩
    · exact ⟨zval_fit, fun p hp => by cases hp⟩
  have hfail : ∀ s, PrF (path.length + wtV v) (failR path s) := fun s => ⟨zval_fit, fun p hp => by rw [List.mem_singleton.1 (show p ∈ [Prb.mk path s] from hp)]; exact ⟨Nat.le_add_right _ _, hpa⟩⟩
  refine cplV_cases (Q := fun R => PrF (path.length + wtV v) R) (fun s _ => hfail s) (fun h0 => ?_) (fun _ _ => ?_) (fun _ _ _ x hx => ?_) (fun h6 _ _ on _ _ _ => ?_)
  · rw [nulR]
    split
    · exact hfail _
    · exact ⟨zval_fit, fun p hp => by cases hp⟩
  · have hr : ∀ r ∈ lsR (v.items.map (cplV doc)) 0 tn (innW (nulW tw)) picks path, PrF (path.length + wtV v) r := fun r hr => by
      obtain ⟨i, f, e1, e2, _⟩ := mem_lsR _ _ _ _ _ _ _ hr
      rw [List.getElem?_map] at e1
      cases ex : v.items[i]? with
      | none => rw [ex] at e1; cases e1
      | some x =>
        rw [ex] at e1
        cases e1
        have hm := List.mem_of_getElem? ex
        have hw := wtL_mem hm
        subst e2
        refine (ih x hm (hv.x hm) _ _ _ _ hpk (fits_app hpa (inV_fit _))).mono ?_
        rw [List.length_append, wtV_eq v]
        simp only [List.length_cons, List.length_nil]
        omega
    refine ⟨?_, fun p hp => ?_⟩
    · dsimp only [listR]
      split
      · exact zval_fit
      · refine .mk _ ?_ (by show (0 : Nat) * 16 ≤ _; omega) fun x hx => ?_
        · show ((lsR _ 0 tn _ picks path).map (·.1)).length * 80 ≤ _
          rw [List.length_map, lsR_len, List.length_map]
          exact hv.i
        · obtain ⟨r, hm, rfl⟩ := List.mem_map.1 (show x ∈ (lsR _ 0 tn _ picks path).map (·.1) from hx)
          exact (hr r hm).1
    · obtain ⟨r, hm, hq⟩ := List.mem_flatMap.1 (show p ∈ (lsR _ 0 tn _ picks path).flatMap (·.2) from hp)
      exact (hr r hm).2 p hq
  · obtain ⟨_, _, h3, h4⟩ := leafC_k hx
    exact ⟨flatV_fit h3 h4, fun p hp => by cases hp⟩
  · have hr : ∀ r ∈ obS v.keys (v.items.map (cplV doc)) on path picks, PrF (path.length + wtV v) r.2 := fun r hr => by
      obtain ⟨hm, _, e⟩ := obS_mem h6 hr
      rw [e]
      cases hg : getV v r.1.key with
      | none =>
        refine (hz _ _ _ _ (fits_app hpa (txV_fit _))).mono ?_
        have := wtV_pos v
        rw [List.length_append]
        simp only [List.length_cons, List.length_nil]
        omega
      | some x =>
        have hx := getV_mem hg
        have hw := wtL_mem hx
        refine (ih x hx (hv.x hx) _ _ _ _ (hpk.x hm) (fits_app hpa (txV_fit _))).mono ?_
        rw [List.length_append, wtV_eq v]
        simp only [List.length_cons, List.length_nil]
        omega
    have hlen : (obS v.keys (v.items.map (cplV doc)) on path picks).length ≤ 1000000000 := by
      unfold obS
      rw [List.length_map]
      have := List.length_filter_le (fun p : Pk => decide (p.on = on)) picks
      have := hpk.len
      omega
    refine ⟨?_, fun p hp => ?_⟩
    · dsimp only [objR]
      split
      · exact zval_fit
      · refine .mk _ ?_ ?_ fun x hx => ?_
        · show ((obS v.keys (v.items.map (cplV doc)) on path picks).map (·.2.1)).length * 80 ≤ _
          rw [List.length_map]; omega
        · show ((obS v.keys (v.items.map (cplV doc)) on path picks).map (·.1.key)).length * 16 ≤ _
          rw [List.length_map]; omega
        · obtain ⟨r, hm, rfl⟩ := List.mem_map.1 (show x ∈ (obS v.keys (v.items.map (cplV doc)) on path picks).map (·.2.1) from hx)
          exact (hr r hm).1
    · obtain ⟨r, hm, hq⟩ := List.mem_flatMap.1 (show p ∈ (obS v.keys (v.items.map (cplV doc)) on path picks).flatMap (·.2.2) from hp)
      exact (hr r hm).2 p hq
end Go.Proofs.YtgollgfifnmaaaaDoor
namespace Go.Proofs.YtgollgfifnmaaaaDoor
open Go.Eng
set_option linter.unusedVariables false
set_option linter.unusedSimpArgs false
set_option maxRecDepth 20000
set_option maxHeartbeats 1000000
def xQuery : ByteArray := ⟨#[81, 117, 101, 114, 121]⟩
def xUser : ByteArray := ⟨#[85, 115, 101, 114]⟩
def xMe : ByteArray := ⟨#[109, 101]⟩
def xName : ByteArray := ⟨#[110, 97, 109, 101]⟩
def exDoc : List Dfn := [.mk 1 xQuery [] [] [.mk xMe [] xUser [] []] [] [], .mk 1 xUser [] [] [.mk xName [] sString [[.i .i64 1]] []] [] []]
def exPks : List Pk := [.mk xMe xQuery xMe [] xUser [] ⟨#[]⟩ (-1) [.mk xName xUser xName [] sString [1] ⟨#[]⟩ (-1) []]]
def exRaw : Val := obR [sT, xMe] [txV xQuery, obR [sT, xName] [txV xUser, zVal]]
theorem ex_run : cplV exDoc exRaw xQuery [] exPks [] = (obR [xMe] [zVal], [.mk [txV xMe, txV xName] sNull]) := by kernel_rfl
theorem exDoc_ok : DocOk exDoc := by
  refine ⟨fun t ht => ?_, fun t ht => ?_, fun t ht => ?_, by decide⟩
  all_goals
    simp only [exDoc, List.mem_cons, List.not_mem_nil, or_false] at ht
    rcases ht with rfl | rfl
  all_goals first
    | exact ⟨rfl, fun e h => by simp [Dfn.members_mk] at h⟩
    | simp [Dfn.impl_mk, Dfn.members_mk]
theorem exPks_ok : PFit exPks := by
  refine .mk _ (by decide) (fun p hp => ?_) (fun p hp => ?_)
  · simp only [exPks, List.mem_cons, List.not_mem_nil, or_false] at hp
    subst hp
    decide
  · simp only [exPks, List.mem_cons, List.not_mem_nil, or_false] at hp
    subst hp
    refine .mk _ (by decide) (fun p hp => ?_) (fun p hp => ?_)
    · simp only [Pk.picks, List.mem_cons, List.not_mem_nil, or_false] at hp
      subst hp
      decide
    · simp only [Pk.picks, List.mem_cons, List.not_mem_nil, or_false] at hp
      subst hp
      exact .mk _ (by decide) (fun p hp => by simp [Pk.picks] at hp) (fun p hp => by simp [Pk.picks] at hp)
theorem exRaw_fit : exRaw.Fit := wtV_fit _ (by decide)
theorem exRaw_rng : exRaw.Rng := by
  have hz : zVal.Rng := .mk _ (by decide) (by decide) (by simp [zVal, Val.items_mk])
  have ht : ∀ s, (txV s).Rng := fun s => .mk _ (show (-9223372036854775808 : Int) ≤ 0 by decide) (show (0 : Int) ≤ 9223372036854775807 by decide) (fun x hx => by simp [txV, Val.items_mk] at hx)
  have ho : ∀ ks l, (∀ x ∈ l, Val.Rng x) → (obR ks l).Rng := fun ks l h => .mk _ (show (-9223372036854775808 : Int) ≤ 0 by decide) (show (0 : Int) ≤ 9223372036854775807 by decide) h
  refine ho _ _ fun x hx => ?_
  simp only [List.mem_cons, List.not_mem_nil, or_false] at hx
  rcases hx with rfl | rfl
  · exact ht _
  · refine ho _ _ fun x hx => ?_
    simp only [List.mem_cons, List.not_mem_nil, or_false] at hx
    rcases hx with rfl | rfl
    · exact ht _
    · exact hz
theorem lobj_ok (on key : ByteArray) (v : Val) (hp : CH) (m : Nat) : MeetsF Tryd.prog 29 hp m [.s on, .s key, vx v] (vx (obR [sT, key] [txV on, v])) := by
  refine meetsF Tryd.func29 (by kernel_rfl) cc29 cr29 rfl fun hf => ?_; unfold ck29
  simp only [go_sem, ↓reduceIte, Nat.reduceEqDiff, Nat.reduceBEq, Nat.reduceAdd, Nat.reduceLeDiff, Nat.reduceLT, reduceCtorEq, Nat.reduceMul, Nat.reduceSub, Int.reduceEq, Int.reduceLT, Int.reduceLE, Int.reduceToNat]
  simp only [obR, liV, Val.k_mk, Val.n_mk, Val.s_mk, Val.items_mk, Val.keys_mk, mapC_cons, mapC_nil, valC_eq]
  rfl
theorem exh22_ok (hp : CH) (m : Nat) : MeetsF Tryd.prog 10 hp m [] (.b true) := by
  have hR := tRun_ok exDoc exDoc_ok xQuery exPks exPks_ok exRaw exRaw_fit exRaw_rng (by decide) (by decide)
  rw [ex_run] at hR
  have hL := tLeafC_ok exDoc exDoc_ok sID (inV 7) (by decide) (by decide)
  have eL : leafC exDoc sID (inV 7) = some (txV ⟨#[55]⟩) := by kernel_rfl
  rw [eL] at hL
  have hR : ∀ hp m, MeetsF Tryd.prog 11 hp m [docx exDoc, .s xQuery, .ds (mapC pkC exPks), vx exRaw] (.tp [.ag [.i .i64 6, .i .i64 0, .s ⟨#[]⟩, .ds [[.i .i64 0, .i .i64 0, .s ⟨#[]⟩, .ds [], .ds []]], .ds [[.s ⟨#[109, 101]⟩]]],
    .ds [[.ds [[.i .i64 3, .i .i64 0, .s ⟨#[109, 101]⟩, .ds [], .ds []], [.i .i64 3, .i .i64 0, .s ⟨#[110, 97, 109, 101]⟩, .ds [], .ds []]], .s ⟨#[110, 117, 108, 108]⟩]]]) := hR
  have hL : ∀ hp m, MeetsF Tryd.prog 17 hp m [docx exDoc, .s sID, vx (inV 7)] (.tp [.ag [.i .i64 3, .i .i64 0, .s ⟨#[55]⟩, .ds [], .ds []], .b true]) := hL
  have hS := tResp_ok zVal zval_fit [] ⟨by decide, fun p h => by cases h⟩
  have hS : ∀ hp m, MeetsF Tryd.prog 19 hp m [vx zVal, .ds []] (.ag [.i .i64 6, .i .i64 0, .s ⟨#[]⟩, .ds [[.i .i64 0, .i .i64 0, .s ⟨#[]⟩, .ds [], .ds []]], .ds [[.s ⟨#[100, 97, 116, 97]⟩]]]) := hS
  refine meetsF Tryd.func10 (by kernel_rfl) cc910 cr910 rfl fun hf => ?_; unfold ck910
  simp only [go_sem, ↓reduceIte, Nat.reduceEqDiff, Nat.reduceBEq, Nat.reduceAdd, Nat.reduceLeDiff, Nat.reduceLT, reduceCtorEq, Nat.reduceMul, Nat.reduceSub, Int.reduceEq, Int.reduceLT, Int.reduceLE, Int.reduceToNat]
  refine wk_of (((weak_sh (t := 5) (k := m + 9) (g := 0) (len := 1) (m := 9) (l := mapC pkC exPks) ?_ ?_ (by decide)).trans (weak_shb (c := m + 6) (i := 0) (k := m + 5) (g := 0) (len := 2) (m := 7) (cs := [.rw (m + 5) 0 2]) (l := mapC dfC exDoc) ?_ rfl ?_ (by decide))).trans
    (weak_ok (env' := [(5, .ds (mapC pkC exPks)), (3, .bx (m + 6) 0)]) (hp' := (m + 6, .bx [.ds (mapC dfC exDoc)]) :: hp) (n' := m + 10) ?_ (Sub.cons ?_ (Sub.base hf ?_)) ?_)) ?_
  · simp (disch := omega) only [ite_ne, go_sem, ↓reduceIte, Nat.reduceEqDiff, Nat.reduceBEq, Nat.reduceAdd, Nat.reduceLeDiff, Nat.reduceLT, reduceCtorEq, Nat.reduceMul, Nat.reduceSub, Int.reduceEq, Int.reduceLT, Int.reduceLE, Int.reduceToNat]
  · simp (disch := omega) only [ite_ne, go_sem, ↓reduceIte, Nat.reduceEqDiff, Nat.reduceBEq, Nat.reduceAdd, Nat.reduceLeDiff, Nat.reduceLT, reduceCtorEq, Nat.reduceMul, Nat.reduceSub, Int.reduceEq, Int.reduceLT, Int.reduceLE, Int.reduceToNat]
    rfl
  · simp (disch := omega) only [ite_ne, go_sem, ↓reduceIte, Nat.reduceEqDiff, Nat.reduceBEq, Nat.reduceAdd, Nat.reduceLeDiff, Nat.reduceLT, reduceCtorEq, Nat.reduceMul, Nat.reduceSub, Int.reduceEq, Int.reduceLT, Int.reduceLE, Int.reduceToNat]
  · simp (disch := omega) only [ite_ne, go_sem, ↓reduceIte, Nat.reduceEqDiff, Nat.reduceBEq, Nat.reduceAdd, Nat.reduceLeDiff, Nat.reduceLT, reduceCtorEq, Nat.reduceMul, Nat.reduceSub, Int.reduceEq, Int.reduceLT, Int.reduceLE, Int.reduceToNat]
    rfl
  · simp (disch := omega) only [ite_ne, go_sem, ↓reduceIte, Nat.reduceEqDiff, Nat.reduceBEq, Nat.reduceAdd, Nat.reduceLeDiff, Nat.reduceLT, reduceCtorEq, Nat.reduceMul, Nat.reduceSub, Int.reduceEq, Int.reduceLT, Int.reduceLE, Int.reduceToNat]
    rfl
  · simp (disch := omega) only [ite_ne, go_sem, ↓reduceIte, Nat.reduceEqDiff, Nat.reduceBEq, Nat.reduceAdd, Nat.reduceLeDiff, Nat.reduceLT, reduceCtorEq, Nat.reduceMul, Nat.reduceSub, Int.reduceEq, Int.reduceLT, Int.reduceLE, Int.reduceToNat]
    rfl
  · simp (disch := omega) only [ite_ne, go_sem, ↓reduceIte, Nat.reduceEqDiff, Nat.reduceBEq, Nat.reduceAdd, Nat.reduceLeDiff, Nat.reduceLT, reduceCtorEq, Nat.reduceMul, Nat.reduceSub, Int.reduceEq, Int.reduceLT, Int.reduceLE, Int.reduceToNat]
  · omega
  simp (disch := omega) only [ite_ne, go_sem, ↓reduceIte, Nat.reduceEqDiff, Nat.reduceBEq, Nat.reduceAdd, Nat.reduceLeDiff, Nat.reduceLT, reduceCtorEq, Nat.reduceMul, Nat.reduceSub, Int.reduceEq, Int.reduceLT, Int.reduceLE, Int.reduceToNat]
  refine dCallR.f (fun _ hp' e => (lobj_ok xUser xName zVal _ _).cv rfl) ?_
  simp (disch := omega) only [ite_ne, go_sem, ↓reduceIte, Nat.reduceEqDiff, Nat.reduceBEq, Nat.reduceAdd, Nat.reduceLeDiff, Nat.reduceLT, reduceCtorEq, Nat.reduceMul, Nat.reduceSub, Int.reduceEq, Int.reduceLT, Int.reduceLE, Int.reduceToNat]
  refine dCallR.f (fun _ hp' e => lobj_ok xQuery xMe (obR [sT, xName] [txV xUser, zVal]) _ _) ?_
  simp (disch := omega) only [ite_ne, go_sem, ↓reduceIte, Nat.reduceEqDiff, Nat.reduceBEq, Nat.reduceAdd, Nat.reduceLeDiff, Nat.reduceLT, reduceCtorEq, Nat.reduceMul, Nat.reduceSub, Int.reduceEq, Int.reduceLT, Int.reduceLE, Int.reduceToNat]
  refine dCallR.f (fun _ hp' e => hR _ _) ?_
  simp (disch := omega) only [ite_ne, go_sem, ↓reduceIte, Nat.reduceEqDiff, Nat.reduceBEq, Nat.reduceAdd, Nat.reduceLeDiff, Nat.reduceLT, reduceCtorEq, Nat.reduceMul, Nat.reduceSub, Int.reduceEq, Int.reduceLT, Int.reduceLE, Int.reduceToNat]
  refine vcCall.f ((hL _ _).cv rfl) ?_
  simp (disch := omega) only [ite_ne, go_sem, ↓reduceIte, Nat.reduceEqDiff, Nat.reduceBEq, Nat.reduceAdd, Nat.reduceLeDiff, Nat.reduceLT, reduceCtorEq, Nat.reduceMul, Nat.reduceSub, Int.reduceEq, Int.reduceLT, Int.reduceLE, Int.reduceToNat]
  refine vcCall.f ((hS _ _).cv rfl) ?_
  simp (disch := omega) only [ite_ne, go_sem, ↓reduceIte, Nat.reduceEqDiff, Nat.reduceBEq, Nat.reduceAdd, Nat.reduceLeDiff, Nat.reduceLT, reduceCtorEq, Nat.reduceMul, Nat.reduceSub, Int.reduceEq, Int.reduceLT, Int.reduceLE, Int.reduceToNat]
end Go.Proofs.YtgollgfifnmaaaaDoor
namespace Go.Proofs.YtgollgfifnmaaaaDoor
open Go.Eng
set_option linter.unusedVariables false
set_option linter.unusedSimpArgs false
theorem own : ownKnob Tryd.prog.godebug = none := by kernel_rfl
theorem kids : Kids Tryd.prog (· < Tryd.prog.types.size) := kids_rows (by kernel_rfl) (by kernel_rfl)
theorem sized {t e : TypeId} (ht : t < Tryd.prog.types.size) (hd : Tryd.prog.underlying t = some (.slice e)) : 0 < Tryd.prog.cellsOf e := slB_of (by kernel_rfl) ht hd
theorem avLL_mapC {α : Type} {c : α → List AV} {wt : α → Nat} : ∀ {l : List α}, (∀ x ∈ l, wt x ≤ avL (c x)) → (l.map wt).sum ≤ avLL (mapC c l)
  | [], _ => by simp
  | x :: l, h => by
    have h1 := avLL_mapC (c := c) (wt := wt) (l := l) fun y hy => h y (by simp [hy])
    have h2 := h x (by simp)
    rw [mapC_cons, avLL, List.map_cons, List.sum_cons]
    omega
theorem mapC_len_le {α : Type} {c : α → List AV} (h : ∀ x, 1 ≤ avL (c x)) : ∀ l : List α, l.length ≤ avLL (mapC c l)
  | [] => by simp
  | x :: l => by
    have h1 := mapC_len_le h l
    have h2 := h x
    rw [mapC_cons, avLL, List.length_cons]
    omega
theorem avLL_mem {x : List AV} : ∀ {l : List (List AV)}, x ∈ l → avL x ≤ avLL l
  | y :: l, h => by
    rw [avLL]
    rcases List.mem_cons.1 h with rfl | h
    · omega
    · have := avLL_mem h
      omega
theorem st1_av (s : ByteArray) : 1 ≤ avL (st1 s) := by simp [st1, avL, avw]
theorem wtL_sumR (l : List Val) : wtL l = (l.map wtV).sum := by
  induction l with
  | nil => rfl
  | cons x l ih => rw [wtL, ih, List.map_cons, List.sum_cons]
theorem valC_av (v : Val) : wtV v + 3 ≤ avL (valC v) := by
  refine Val.ind (Q := fun v => wtV v + 3 ≤ avL (valC v)) (fun v ih => ?_) v
  rw [valC_eq, wtV_eq, wtL_sumR]
  have h1 := avLL_mapC (c := valC) (wt := wtV) (l := v.items) fun x hx => by have := ih x hx; omega
  have h2 : v.keys.length ≤ avLL (stC v.keys) := mapC_len_le st1_av v.keys
  simp only [avL, avw]
  omega
/-- The cells of a value are those of a tree. -/
theorem shp_val {L : List AV} (h : Shp Tryd.prog 29 L) : ∃ v : Val, L = valC v := by
  suffices key : ∀ (n : Nat) (L : List AV), avL L ≤ n → Shp Tryd.prog 29 L → ∃ v : Val, L = valC v from key _ L (Nat.le_refl _) h
  intro n
  induction n with
  | zero =>
    intro L hn h
    obtain ⟨parts, rfl, hl, hp⟩ := shp_struct Tryd.underlying29 h
    obtain ⟨a, b, c, d, e, rfl⟩ := ds_n5 (show parts.length = 5 from hl)
    obtain ⟨a, rfl, _⟩ := shp_int Tryd.underlying3 (hp 0 _ a rfl rfl)
    simp [avL, avw] at hn
  | succ n ih =>
    intro L hn h
    obtain ⟨parts, rfl, hl, hp⟩ := shp_struct Tryd.underlying29 h
    obtain ⟨a, b, c, d, e, rfl⟩ := ds_n5 (show parts.length = 5 from hl)
    obtain ⟨a, rfl, _⟩ := shp_int Tryd.underlying3 (hp 0 _ a rfl rfl)
    obtain ⟨b, rfl, _⟩ := shp_int Tryd.underlying3 (hp 1 _ b rfl rfl)
    obtain ⟨c, rfl, _⟩ := shp_string Tryd.underlying9 (hp 2 _ c rfl rfl)
    obtain ⟨l, rfl, _, hx⟩ := shp_slice Tryd.underlying26 (hp 3 _ d rfl rfl)
    obtain ⟨k, rfl, _, hy⟩ := shp_slice Tryd.underlying27 (hp 4 _ e rfl rfl)
    obtain ⟨vs, rfl, _⟩ := mapC_of (c := valC) fun x h => ih x (by
      have := avLL_mem h
      simp [avL, avw] at hn
      omega) (hx x h)
    obtain ⟨ks, rfl, _⟩ := mapC_of (c := st1) fun x h => by
      obtain ⟨s, rfl, _⟩ := shp_string Tryd.underlying9 (hy x h)
      exact ⟨s, rfl⟩
    exact ⟨.mk a b c vs ks, by rw [valC_eq]; rfl⟩
end Go.Proofs.YtgollgfifnmaaaaDoor
