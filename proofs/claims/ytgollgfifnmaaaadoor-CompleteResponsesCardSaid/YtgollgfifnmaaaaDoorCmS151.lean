/-
  The parts CmQ VaR of the proof, in one file. Conditions: none.
-/
import Derived.Test.YtgollgfifnmaaaaDoorRows
import Derived.WalkKit
import Derived.Test.YtgollgfifnmaaaaDoorCmS150
namespace Go.Proofs.YtgollgfifnmaaaaDoor
open Go.Eng
set_option linter.unusedVariables false
set_option linter.unusedSimpArgs false
set_option maxRecDepth 20000
set_option maxHeartbeats 1000000
def xQuery : ByteArray := ⟨#[81, 117, 101, 114, 121]⟩
def xUser : ByteArray := ⟨#[85, 115, 101, 114]⟩
def xMe : ByteArray := ⟨#[109, 101]⟩
def xName : ByteArray := ⟨#[110, 97, 109, 101]⟩
def exDoc : List Dfn := [.mk 1 xQuery [] [] [.mk xMe [] xUser [] []] [] [], .mk 1 xUser [] [] [.mk xName [] sString [[.i .i64 1]] []] [] []]
def exPks : List Pk := [.mk xMe xQuery xMe [] xUser [] ⟨#[]⟩ (-1) [.mk xName xUser xName [] sString [1] ⟨#[]⟩ (-1) []]]
def exRaw : Val := obR [sT, xMe] [txV xQuery, obR [sT, xName] [txV xUser, zVal]]
theorem ex_run : cplV exDoc exRaw xQuery [] exPks [] = (obR [xMe] [zVal], [.mk [txV xMe, txV xName] sNull]) := by kernel_rfl
theorem exDoc_ok : DocOk exDoc := by
  refine ⟨fun t ht => ?_, fun t ht => ?_, fun t ht => ?_, by decide⟩
  all_goals
    simp only [exDoc, List.mem_cons, List.not_mem_nil, or_false] at ht
    rcases ht with rfl | rfl
  all_goals first
    | exact ⟨rfl, fun e h => by simp [Dfn.members_mk] at h⟩
    | simp [Dfn.impl_mk, Dfn.members_mk]
theorem exPks_ok : PFit exPks := by
  refine .mk _ (by decide) (fun p hp => ?_) (fun p hp => ?_)
  · simp only [exPks, List.mem_cons, List.not_mem_nil, or_false] at hp
    subst hp
    decide
  · simp only [exPks, List.mem_cons, List.not_mem_nil, or_false] at hp
    subst hp
    refine .mk _ (by decide) (fun p hp => ?_) (fun p hp => ?_)
    · simp only [Pk.picks, List.mem_cons, List.not_mem_nil, or_false] at hp
      subst hp
      decide
    · simp only [Pk.picks, List.mem_cons, List.not_mem_nil, or_false] at hp
      subst hp
      exact .mk _ (by decide) (fun p hp => by simp [Pk.picks] at hp) (fun p hp => by simp [Pk.picks] at hp)
theorem exRaw_fit : exRaw.Fit := wtV_fit _ (by decide)
theorem exRaw_rng : exRaw.Rng := by
  have hz : zVal.Rng := .mk _ (by decide) (by decide) (by simp [zVal, Val.items_mk])
  have ht : ∀ s, (txV s).Rng := fun s => .mk _ (show (-9223372036854775808 : Int) ≤ 0 by decide) (show (0 : Int) ≤ 9223372036854775807 by decide) (fun x hx => by simp [txV, Val.items_mk] at hx)
  have ho : ∀ ks l, (∀ x ∈ l, Val.Rng x) → (obR ks l).Rng := fun ks l h => .mk _ (show (-9223372036854775808 : Int) ≤ 0 by decide) (show (0 : Int) ≤ 9223372036854775807 by decide) h
  refine ho _ _ fun x hx => ?_
  simp only [List.mem_cons, List.not_mem_nil, or_false] at hx
  rcases hx with rfl | rfl
  · exact ht _
  · refine ho _ _ fun x hx => ?_
    simp only [List.mem_cons, List.not_mem_nil, or_false] at hx
    rcases hx with rfl | rfl
    · exact ht _
    · exact hz
theorem lobj_ok (on key : ByteArray) (v : Val) (hp : CH) (m : Nat) : MeetsF Tryd.prog 29 hp m [.s on, .s key, vx v] (vx (obR [sT, key] [txV on, v])) := by
  refine meetsF Tryd.func29 (by kernel_rfl) cc29 cr29 rfl fun hf => ?_; unfold ck29
  simp only [go_sem, ↓reduceIte, Nat.reduceEqDiff, Nat.reduceBEq, Nat.reduceAdd, Nat.reduceLeDiff, Nat.reduceLT, reduceCtorEq, Nat.reduceMul, Nat.reduceSub, Int.reduceEq, Int.reduceLT, Int.reduceLE, Int.reduceToNat]
  simp only [obR, liV, Val.k_mk, Val.n_mk, Val.s_mk, Val.items_mk, Val.keys_mk, mapC_cons, mapC_nil, valC_eq]
  rfl
theorem exh22_ok (hp : CH) (m : Nat) : MeetsF Tryd.prog 10 hp m [] (.b true) := by
  have hR := tRun_ok exDoc exDoc_ok xQuery exPks exPks_ok exRaw exRaw_fit exRaw_rng (by decide) (by decide)
  rw [ex_run] at hR
  have hL := tLeafC_ok exDoc exDoc_ok sID (inV 7) (by decide) (by decide)
  have eL : leafC exDoc sID (inV 7) = some (txV ⟨#[55]⟩) := by kernel_rfl
  rw [eL] at hL
  have hR : ∀ hp m, MeetsF Tryd.prog 11 hp m [docx exDoc, .s xQuery, .ds (mapC pkC exPks), vx exRaw] (.tp [.ag [.i .i64 6, .i .i64 0, .s ⟨#[]⟩, .ds [[.i .i64 0, .i .i64 0, .s ⟨#[]⟩, .ds [], .ds []]], .ds [[.s ⟨#[109, 101]⟩]]],
    .ds [[.ds [[.i .i64 3, .i .i64 0, .s ⟨#[109, 101]⟩, .ds [], .ds []], [.i .i64 3, .i .i64 0, .s ⟨#[110, 97, 109, 101]⟩, .ds [], .ds []]], .s ⟨#[110, 117, 108, 108]⟩]]]) := hR
  have hL : ∀ hp m, MeetsF Tryd.prog 17 hp m [docx exDoc, .s sID, vx (inV 7)] (.tp [.ag [.i .i64 3, .i .i64 0, .s ⟨#[55]⟩, .ds [], .ds []], .b true]) := hL
  have hS := tResp_ok zVal zval_fit [] ⟨by decide, fun p h => by cases h⟩
  have hS : ∀ hp m, MeetsF Tryd.prog 19 hp m [vx zVal, .ds []] (.ag [.i .i64 6, .i .i64 0, .s ⟨#[]⟩, .ds [[.i .i64 0, .i .i64 0, .s ⟨#[]⟩, .ds [], .ds []]], .ds [[.s ⟨#[100, 97, 116, 97]⟩]]]) := hS
  refine meetsF Tryd.func10 (by kernel_rfl) cc910 cr910 rfl fun hf => ?_; unfold ck910
  simp only [go_sem, ↓reduceIte, Nat.reduceEqDiff, Nat.reduceBEq, Nat.reduceAdd, Nat.reduceLeDiff, Nat.reduceLT, reduceCtorEq, Nat.reduceMul, Nat.reduceSub, Int.reduceEq, Int.reduceLT, Int.reduceLE, Int.reduceToNat]
  refine wk_of (((weak_sh (t := 5) (k := m + 9) (g := 0) (len := 1) (m := 9) (l := mapC pkC exPks) ?_ ?_ (by decide)).trans (weak_shb (c := m + 6) (i := 0) (k := m + 5) (g := 0) (len := 2) (m := 7) (cs := [.rw (m + 5) 0 2]) (l := mapC dfC exDoc) ?_ rfl ?_ (by decide))).trans
    (weak_ok (env' := [(5, .ds (mapC pkC exPks)), (3, .bx (m + 6) 0)]) (hp' := (m + 6, .bx [.ds (mapC dfC exDoc)]) :: hp) (n' := m + 10) ?_ (Sub.cons ?_ (Sub.base hf ?_)) ?_)) ?_
  · simp (disch := omega) only [ite_ne, go_sem, ↓reduceIte, Nat.reduceEqDiff, Nat.reduceBEq, Nat.reduceAdd, Nat.reduceLeDiff, Nat.reduceLT, reduceCtorEq, Nat.reduceMul, Nat.reduceSub, Int.reduceEq, Int.reduceLT, Int.reduceLE, Int.reduceToNat]
  · simp (disch := omega) only [ite_ne, go_sem, ↓reduceIte, Nat.reduceEqDiff, Nat.reduceBEq, Nat.reduceAdd, Nat.reduceLeDiff, Nat.reduceLT, reduceCtorEq, Nat.reduceMul, Nat.reduceSub, Int.reduceEq, Int.reduceLT, Int.reduceLE, Int.reduceToNat]
    rfl
  · simp (disch := omega) only [ite_ne, go_sem, ↓reduceIte, Nat.reduceEqDiff, Nat.reduceBEq, Nat.reduceAdd, Nat.reduceLeDiff, Nat.reduceLT, reduceCtorEq, Nat.reduceMul, Nat.reduceSub, Int.reduceEq, Int.reduceLT, Int.reduceLE, Int.reduceToNat]
  · simp (disch := omega) only [ite_ne, go_sem, ↓reduceIte, Nat.reduceEqDiff, Nat.reduceBEq, Nat.reduceAdd, Nat.reduceLeDiff, Nat.reduceLT, reduceCtorEq, Nat.reduceMul, Nat.reduceSub, Int.reduceEq, Int.reduceLT, Int.reduceLE, Int.reduceToNat]
    rfl
  · simp (disch := omega) only [ite_ne, go_sem, ↓reduceIte, Nat.reduceEqDiff, Nat.reduceBEq, Nat.reduceAdd, Nat.reduceLeDiff, Nat.reduceLT, reduceCtorEq, Nat.reduceMul, Nat.reduceSub, Int.reduceEq, Int.reduceLT, Int.reduceLE, Int.reduceToNat]
    rfl
  · simp (disch := omega) only [ite_ne, go_sem, ↓reduceIte, Nat.reduceEqDiff, Nat.reduceBEq, Nat.reduceAdd, Nat.reduceLeDiff, Nat.reduceLT, reduceCtorEq, Nat.reduceMul, Nat.reduceSub, Int.reduceEq, Int.reduceLT, Int.reduceLE, Int.reduceToNat]
    rfl
  · simp (disch := omega) only [ite_ne, go_sem, ↓reduceIte, Nat.reduceEqDiff, Nat.reduceBEq, Nat.reduceAdd, Nat.reduceLeDiff, Nat.reduceLT, reduceCtorEq, Nat.reduceMul, Nat.reduceSub, Int.reduceEq, Int.reduceLT, Int.reduceLE, Int.reduceToNat]
  · omega
  simp (disch := omega) only [ite_ne, go_sem, ↓reduceIte, Nat.reduceEqDiff, Nat.reduceBEq, Nat.reduceAdd, Nat.reduceLeDiff, Nat.reduceLT, reduceCtorEq, Nat.reduceMul, Nat.reduceSub, Int.reduceEq, Int.reduceLT, Int.reduceLE, Int.reduceToNat]
  refine dCallR.f (fun _ hp' e => (lobj_ok xUser xName zVal _ _).cv rfl) ?_
  simp (disch := omega) only [ite_ne, go_sem, ↓reduceIte, Nat.reduceEqDiff, Nat.reduceBEq, Nat.reduceAdd, Nat.reduceLeDiff, Nat.reduceLT, reduceCtorEq, Nat.reduceMul, Nat.reduceSub, Int.reduceEq, Int.reduceLT, Int.reduceLE, Int.reduceToNat]
  refine dCallR.f (fun _ hp' e => lobj_ok xQuery xMe (obR [sT, xName] [txV xUser, zVal]) _ _) ?_
  simp (disch := omega) only [ite_ne, go_sem, ↓reduceIte, Nat.reduceEqDiff, Nat.reduceBEq, Nat.reduceAdd, Nat.reduceLeDiff, Nat.reduceLT, reduceCtorEq, Nat.reduceMul, Nat.reduceSub, Int.reduceEq, Int.reduceLT, Int.reduceLE, Int.reduceToNat]
  refine dCallR.f (fun _ hp' e => hR _ _) ?_
  simp (disch := omega) only [ite_ne, go_sem, ↓reduceIte, Nat.reduceEqDiff, Nat.reduceBEq, Nat.reduceAdd, Nat.reduceLeDiff, Nat.reduceLT, reduceCtorEq, Nat.reduceMul, Nat.reduceSub, Int.reduceEq, Int.reduceLT, Int.reduceLE, Int.reduceToNat]
  refine vcCall.f ((hL _ _).cv rfl) ?_
  simp (disch := omega) only [ite_ne, go_sem, ↓reduceIte, Nat.reduceEqDiff, Nat.reduceBEq, Nat.reduceAdd, Nat.reduceLeDiff, Nat.reduceLT, reduceCtorEq, Nat.reduceMul, Nat.reduceSub, Int.reduceEq, Int.reduceLT, Int.reduceLE, Int.reduceToNat]
  refine vcCall.f ((hS _ _).cv rfl) ?_
  simp (disch := omega) only [ite_ne, go_sem, ↓reduceIte, Nat.reduceEqDiff, Nat.reduceBEq, Nat.reduceAdd, Nat.reduceLeDiff, Nat.reduceLT, reduceCtorEq, Nat.reduceMul, Nat.reduceSub, Int.reduceEq, Int.reduceLT, Int.reduceLE, Int.reduceToNat]
end Go.Proofs.YtgollgfifnmaaaaDoor
namespace Go.Proofs.YtgollgfifnmaaaaDoor
open Go.Eng
set_option linter.unusedVariables false
set_option linter.unusedSimpArgs false
theorem own : ownKnob Tryd.prog.godebug = none := by kernel_rfl
theorem kids : Kids Tryd.prog (· < Tryd.prog.types.size) := kids_rows (by kernel_rfl) (by kernel_rfl)
theorem sized {t e : TypeId} (ht : t < Tryd.prog.types.size) (hd : Tryd.prog.underlying t = some (.slice e)) : 0 < Tryd.prog.cellsOf e := slB_of (by kernel_rfl) ht hd
theorem avLL_mapC {α : Type} {c : α → List AV} {wt : α → Nat} : ∀ {l : List α}, (∀ x ∈ l, wt x ≤ avL (c x)) → (l.map wt).sum ≤ avLL (mapC c l)
  | [], _ => by simp
  | x :: l, h => by
    have h1 := avLL_mapC (c := c) (wt := wt) (l := l) fun y hy => h y (by simp [hy])
    have h2 := h x (by simp)
    rw [mapC_cons, avLL, List.map_cons, List.sum_cons]
    omega
theorem mapC_len_le {α : Type} {c : α → List AV} (h : ∀ x, 1 ≤ avL (c x)) : ∀ l : List α, l.length ≤ avLL (mapC c l)
  | [] => by simp
  | x :: l => by
    have h1 := mapC_len_le h l
    have h2 := h x
    rw [mapC_cons, avLL, List.length_cons]
    omega
theorem avLL_mem {x : List AV} : ∀ {l : List (List AV)}, x ∈ l → avL x ≤ avLL l
  | y :: l, h => by
    rw [avLL]
    rcases List.mem_cons.1 h with rfl | h
    · omega
    · have := avLL_mem h
      omega
theorem st1_av (s : ByteArray) : 1 ≤ avL (st1 s) := by simp [st1, avL, avw]
theorem wtL_sumR (l : List Val) : wtL l = (l.map wtV).sum := by
  induction l with
  | nil => rfl
  | cons x l ih => rw [wtL, ih, List.map_cons, List.sum_cons]
theorem valC_av (v : Val) : wtV v + 3 ≤ avL (valC v) := by
  refine Val.ind (Q := fun v => wtV v + 3 ≤ avL (valC v)) (fun v ih => ?_) v
  rw [valC_eq, wtV_eq, wtL_sumR]
  have h1 := avLL_mapC (c := valC) (wt := wtV) (l := v.items) fun x hx => by have := ih x hx; omega
  have h2 : v.keys.length ≤ avLL (stC v.keys) := mapC_len_le st1_av v.keys
  simp only [avL, avw]
  omega
/-- The cells of a value are those of a tree. -/
theorem shp_val {L : List AV} (h : Shp Tryd.prog 29 L) : ∃ v : Val, L = valC v := by
  suffices key : ∀ (n : Nat) (L : List AV), avL L ≤ n → Shp Tryd.prog 29 L → ∃ v : Val, L = valC v from key _ L (Nat.le_refl _) h
  intro n
  induction n with
  | zero =>
    intro L hn h
    obtain ⟨parts, rfl, hl, hp⟩ := shp_struct Tryd.underlying29 h
    obtain ⟨a, b, c, d, e, rfl⟩ := ds_n5 (show parts.length = 5 from hl)
    obtain ⟨a, rfl, _⟩ := shp_int Tryd.underlying3 (hp 0 _ a rfl rfl)
    simp [avL, avw] at hn
  | succ n ih =>
    intro L hn h
    obtain ⟨parts, rfl, hl, hp⟩ := shp_struct Tryd.underlying29 h
    obtain ⟨a, b, c, d, e, rfl⟩ := ds_n5 (show parts.length = 5 from hl)
    obtain ⟨a, rfl, _⟩ := shp_int Tryd.underlying3 (hp 0 _ a rfl rfl)
    obtain ⟨b, rfl, _⟩ := shp_int Tryd.underlying3 (hp 1 _ b rfl rfl)
    obtain ⟨c, rfl, _⟩ := shp_string Tryd.underlying9 (hp 2 _ c rfl rfl)
    obtain ⟨l, rfl, _, hx⟩ := shp_slice Tryd.underlying26 (hp 3 _ d rfl rfl)
    obtain ⟨k, rfl, _, hy⟩ := shp_slice Tryd.underlying27 (hp 4 _ e rfl rfl)
    obtain ⟨vs, rfl, _⟩ := mapC_of (c := valC) fun x h => ih x (by
      have := avLL_mem h
      simp [avL, avw] at hn
      omega) (hx x h)
    obtain ⟨ks, rfl, _⟩ := mapC_of (c := st1) fun x h => by
      obtain ⟨s, rfl, _⟩ := shp_string Tryd.underlying9 (hy x h)
      exact ⟨s, rfl⟩
    exact ⟨.mk a b c vs ks, by rw [valC_eq]; rfl⟩
end Go.Proofs.YtgollgfifnmaaaaDoor
