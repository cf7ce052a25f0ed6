/-
  The parts CmX CmS of the proof, in one file. Conditions: none.
-/
import Derived.Test.YtgollgfifnmaaaaDoorCards
import Derived.Test.YtgollgfifnmaaaaDoorTie
import Derived.ProofKit
import Derived.OpenShut
import Derived.Deep.DeepHandedRow
import Derived.Lib.LaidTab
import Derived.Test.YtgollgfifnmaaaaDoorCmS152
namespace Go.Proofs.YtgollgfifnmaaaaDoor
open Go.Eng
open Go.ChangeShapes Go.WideShapes Go.ChangeAt Go.RowKit
set_option linter.unusedVariables false
set_option linter.unusedSimpArgs false
theorem tab_third {P : Program} {W : World} {x y : String × DataW Unit} {name : String} {k : IntKind} {zs : List Int} {g : Nat} {t e : TypeId} {n : Nat}
    (hg : P.globalNamed name = some g) (hty : (P.globals[g]?).map (·.type) = some t) (ht : P.underlying t = some (.array n e)) (he : P.underlying e = some (.int k)) (hce : P.cellsOf e = 1) (hct : P.cellsOf t = n)
    (h : laidMet P [x, y, (name, Lib.tabData k zs)] W) : ∃ t fr, W.heap[g]? = some (.cells (zs.map fun z => Value.int k z).toArray t fr) := by
  obtain ⟨ps, ⟨g1, t1, c1, f1, p1, q1, a1, a2, a3, a4, ⟨g2, t2, c2, f2, p2, q2, b1, b2, b3, b4, hz, e2⟩, e1⟩, hnd, hrows⟩ := h
  have hs : q2.Sublist ps := by
    rw [e1, e2]
    exact (List.sublist_append_right _ _).trans (List.sublist_append_right _ _)
  have ht' : Lib.TabIs P W name k zs := Lib.tabIs_of_head (rest := []) hg hty ht he hce hct ⟨q2, hz, hnd.sublist hs, fun b off hp => hrows b off (hs.subset hp)⟩
  unfold Lib.TabIs World.var? at ht'
  rw [hg] at ht'
  simp only [Option.bind_some] at ht'
  split at ht'
  · rename_i cs t fr hh
    cases ht'
    exact ⟨t, fr, hh⟩
  · cases ht'
theorem pow10_laid {w : World} (h : laidMetH Tryd.prog Rows.completeRunsUptoRow.laid w) : ∀ b vs, (b, vs) ∈ glTab → ∃ t fr, w.heap[b]? = some (.cells vs t fr) := by
  intro b vs hb
  simp only [glTab, List.mem_singleton, Prod.mk.injEq] at hb
  obtain ⟨rfl, rfl⟩ := hb
  exact tab_third (t := 142) (e := 135) (n := 20) (by kernel_rfl) (by kernel_rfl) (by kernel_rfl) (by kernel_rfl) (by kernel_rfl) (by kernel_rfl) h
noncomputable def valsOf : DataW Unit → Array Value
  | .agg l => (l.map fun x => match x with | .lit (.int k z) => Value.int k z | _ => Value.int .i64 0).toArray
  | _ => #[]
def setTab (vs : Array Value) : Obj → Obj
  | .cells _ t fr => .cells vs t fr
  | o => o
/-- A world for the witness: the settled one, the tables holding what their initialisers lay. -/
noncomputable def laidWorld (os : Os) : World :=
  { World.holding Tryd.prog os ⟨#[], #[], []⟩ with heap := (((World.holding Tryd.prog os ⟨#[], #[], []⟩).heap.modify 0 (setTab (valsOf Rows.laid_internal_strconv_uint64pow10))).modify 1 (setTab (valsOf Rows.laid_math_bits_deBruijn32tab))).modify 2 (setTab (valsOf Rows.laid_math_bits_deBruijn64tab)) }
abbrev val0 : Value := .agg #[.int .i64 0, .int .i64 0, .string ⟨#[]⟩, .slice none 0 0, .slice none 0 0]
abbrev doc0 : Value := .agg #[.slice none 0 0]
abbrev str0 : Value := .string ⟨#[]⟩
abbrev prb0 : Value := .slice none 0 0
set_option maxRecDepth 100000 in
theorem laid_met (os : Os) (vs : Array Value) : laidMet Tryd.prog Rows.completeRunsUptoRow.laid ((laidWorld os).forCall (fun _ _ => 0) ⟨#[], vs, []⟩).memory :=
  laidMet_of_run' 8 (by kernel_rfl) (by kernel_rfl)
end Go.Proofs.YtgollgfifnmaaaaDoor
namespace Go.Proofs.YtgollgfifnmaaaaDoor
open Go.Eng
set_option linter.unusedVariables false
set_option linter.unusedSimpArgs false
set_option maxRecDepth 20000
set_option maxHeartbeats 1000000
theorem flat_fit {v : Val} (h1 : v.items = []) (h2 : v.keys = []) : v.Fit := .mk v (by simp [h1]) (by simp [h2]) (by simp [h1])
theorem leafC_fit (doc : List Dfn) (n : ByteArray) (v : Val) : ((leafC doc n v).getD zVal).Fit := by
  cases e : leafC doc n v with
  | none => exact zval_fit
  | some x =>
    obtain ⟨_, _, h3, h4⟩ := leafC_k e
    exact flat_fit h3 h4
theorem lawLeaves (doc : List Dfn) (hd : DocQ doc) (n : ByteArray) (v : Val) (hv : VS v) (hp : CH) (m : Nat) : MeetsF Tryd.prog 4 hp m [docx doc, .s n, vx v] (.b true) := by
  have h1 := tLeafC_ok doc hd.ok n v hv.r.l hv.r.u
  have h2 := rLeafV_ok doc hd.ok n v hv.r.l hv.r.u
  have hfx := leafC_fit doc n v
  obtain ⟨x, hx⟩ : ∃ x, (leafC doc n v).getD zVal = x := ⟨_, rfl⟩
  obtain ⟨s, hs⟩ : ∃ s, (leafC doc n v).isSome = s := ⟨_, rfl⟩
  unfold oV at h1 h2
  rw [hx, hs] at h1 h2
  rw [hx] at hfx
  refine meetsF Tryd.func4 (by kernel_rfl) cc4 cr4 rfl fun hf => ?_; unfold ck4
  simp only [go_sem, ↓reduceIte, Nat.reduceEqDiff, Nat.reduceBEq, Nat.reduceAdd, Nat.reduceLeDiff, Nat.reduceLT, reduceCtorEq, Nat.reduceMul, Nat.reduceSub, Int.reduceEq, Int.reduceLT, Int.reduceLE, Int.reduceToNat]
  refine vcCall.f (dWeight_ok 600 doc hd.ok hd.w _ _) ?_
  simp only [go_sem, ↓reduceIte, Nat.reduceEqDiff, Nat.reduceBEq, Nat.reduceAdd, Nat.reduceLeDiff, Nat.reduceLT, reduceCtorEq, Nat.reduceMul, Nat.reduceSub, Int.reduceEq, Int.reduceLT, Int.reduceLE, Int.reduceToNat]
  refine gCall.f (fun _ => weight_ok 2000 v hv.f _ _) ?_
  simp only [go_sem, ↓reduceIte, Nat.reduceEqDiff, Nat.reduceBEq, Nat.reduceAdd, Nat.reduceLeDiff, Nat.reduceLT, reduceCtorEq, Nat.reduceMul, Nat.reduceSub, Int.reduceEq, Int.reduceLT, Int.reduceLE, Int.reduceToNat]
  refine cdK_of (fun c => ?_) (fun c => ?_)
  · simp only [go_sem, ↓reduceIte, Nat.reduceEqDiff, Nat.reduceBEq, Nat.reduceAdd, Nat.reduceLeDiff, Nat.reduceLT, reduceCtorEq, Nat.reduceMul, Nat.reduceSub, Int.reduceEq, Int.reduceLT, Int.reduceLE, Int.reduceToNat]
    refine vcCall.f (exh22_ok _ _) ?_
    simp only [go_sem, ↓reduceIte, Nat.reduceEqDiff, Nat.reduceBEq, Nat.reduceAdd, Nat.reduceLeDiff, Nat.reduceLT, reduceCtorEq, Nat.reduceMul, Nat.reduceSub, Int.reduceEq, Int.reduceLT, Int.reduceLE, Int.reduceToNat]
  · simp only [go_sem, ↓reduceIte, Nat.reduceEqDiff, Nat.reduceBEq, Nat.reduceAdd, Nat.reduceLeDiff, Nat.reduceLT, reduceCtorEq, Nat.reduceMul, Nat.reduceSub, Int.reduceEq, Int.reduceLT, Int.reduceLE, Int.reduceToNat]
    refine vcCall.f (h1 _ _) ?_
    simp only [go_sem, ↓reduceIte, Nat.reduceEqDiff, Nat.reduceBEq, Nat.reduceAdd, Nat.reduceLeDiff, Nat.reduceLT, reduceCtorEq, Nat.reduceMul, Nat.reduceSub, Int.reduceEq, Int.reduceLT, Int.reduceLE, Int.reduceToNat]
    refine vcCall.f (h2 _ _) ?_
    simp only [go_sem, ↓reduceIte, Nat.reduceEqDiff, Nat.reduceBEq, Nat.reduceAdd, Nat.reduceLeDiff, Nat.reduceLT, reduceCtorEq, Nat.reduceMul, Nat.reduceSub, Int.reduceEq, Int.reduceLT, Int.reduceLE, Int.reduceToNat]
    refine vcCall.f (equal_ok x hfx _ _) ?_
    simp only [go_sem, ↓reduceIte, Nat.reduceEqDiff, Nat.reduceBEq, Nat.reduceAdd, Nat.reduceLeDiff, Nat.reduceLT, reduceCtorEq, Nat.reduceMul, Nat.reduceSub, Int.reduceEq, Int.reduceLT, Int.reduceLE, Int.reduceToNat]
    refine gCall.f (fun _ => exh22_ok _ _) ?_
    simp only [go_sem, ↓reduceIte, Nat.reduceEqDiff, Nat.reduceBEq, Nat.reduceAdd, Nat.reduceLeDiff, Nat.reduceLT, reduceCtorEq, Nat.reduceMul, Nat.reduceSub, Int.reduceEq, Int.reduceLT, Int.reduceLE, Int.reduceToNat]
    try simp
theorem errV_fit {p : Prb} (h : p.p.length * 80 ≤ 140737488355327 ∧ ∀ x ∈ p.p, x.Fit) : (errV p).Fit := by
  refine .mk _ (show 2 * 80 ≤ 140737488355327 by decide) (show 2 * 16 ≤ 140737488355327 by decide) fun x hx => ?_
  simp only [errV, obR, Val.items_mk, List.mem_cons, List.not_mem_nil, or_false] at hx
  rcases hx with rfl | rfl
  · exact flat_fit rfl rfl
  · exact .mk _ (by show p.p.length * 80 ≤ _; omega) (show 0 * 16 ≤ 140737488355327 by decide) h.2
theorem respV_fit {data : Val} (hd : data.Fit) {l : List Prb} (hl : PrbsFit l) : (respV data l).Fit := by
  unfold respV
  split
  · refine .mk _ (show 1 * 80 ≤ 140737488355327 by decide) (show 1 * 16 ≤ 140737488355327 by decide) fun x hx => ?_
    simp only [obR, Val.items_mk, List.mem_cons, List.not_mem_nil, or_false] at hx
    subst hx
    exact hd
  · refine .mk _ (show 2 * 80 ≤ 140737488355327 by decide) (show 2 * 16 ≤ 140737488355327 by decide) fun x hx => ?_
    simp only [obR, Val.items_mk, List.mem_cons, List.not_mem_nil, or_false] at hx
    rcases hx with rfl | rfl
    · exact hd
    · have := hl.1
      refine .mk _ (by show (l.map errV).length * 80 ≤ _; rw [List.length_map]; omega) (show 0 * 16 ≤ 140737488355327 by decide) fun x hx => ?_
      obtain ⟨p, hp, rfl⟩ := List.mem_map.1 (show x ∈ l.map errV from hx)
      exact errV_fit (hl.2 p hp)
theorem lawResponses (v : Val) (hv : VS v) (l : List Prb) (hl : PrbsFit l) (hp : CH) (m : Nat) : MeetsF Tryd.prog 5 hp m [vx v, .ds (mapC prbC l)] (.b true) := by
  have hfx := respV_fit hv.f hl
  have h1 := tResp_ok v hv.f l hl
  have h2 := rResp_ok v hv.f l hl
  obtain ⟨x, hx⟩ : ∃ x, respV v l = x := ⟨_, rfl⟩
  rw [hx] at hfx h1 h2
  have hlen := hl.1
  refine meetsF Tryd.func5 (by kernel_rfl) cc5 cr5 rfl fun hf => ?_; unfold ck5
  simp only [go_sem, ↓reduceIte, Nat.reduceEqDiff, Nat.reduceBEq, Nat.reduceAdd, Nat.reduceLeDiff, Nat.reduceLT, reduceCtorEq, Nat.reduceMul, Nat.reduceSub, Int.reduceEq, Int.reduceLT, Int.reduceLE, Int.reduceToNat]
  refine vcCall.f (weight_ok 2000 v hv.f _ _) ?_
  simp only [go_sem, ↓reduceIte, Nat.reduceEqDiff, Nat.reduceBEq, Nat.reduceAdd, Nat.reduceLeDiff, Nat.reduceLT, reduceCtorEq, Nat.reduceMul, Nat.reduceSub, Int.reduceEq, Int.reduceLT, Int.reduceLE, Int.reduceToNat]
  refine cdK_of (fun c => ?_) (fun c => ?_)
  · simp only [go_sem, ↓reduceIte, Nat.reduceEqDiff, Nat.reduceBEq, Nat.reduceAdd, Nat.reduceLeDiff, Nat.reduceLT, reduceCtorEq, Nat.reduceMul, Nat.reduceSub, Int.reduceEq, Int.reduceLT, Int.reduceLE, Int.reduceToNat]
    refine vcCall.f (exh22_ok _ _) ?_
    simp only [go_sem, ↓reduceIte, Nat.reduceEqDiff, Nat.reduceBEq, Nat.reduceAdd, Nat.reduceLeDiff, Nat.reduceLT, reduceCtorEq, Nat.reduceMul, Nat.reduceSub, Int.reduceEq, Int.reduceLT, Int.reduceLE, Int.reduceToNat]
  simp only [go_sem, ↓reduceIte, Nat.reduceEqDiff, Nat.reduceBEq, Nat.reduceAdd, Nat.reduceLeDiff, Nat.reduceLT, reduceCtorEq, Nat.reduceMul, Nat.reduceSub, Int.reduceEq, Int.reduceLT, Int.reduceLE, Int.reduceToNat]
  refine loop (fun p : Nat × Nat => ⟨[(1, .ds (mapC prbC l)), (2, .bx m 0), (5, .i .i64 p.1)], (m, .bx [.i .i64 v.k, .i .i64 v.n, .s v.s, .ds (mapC valC v.items), .ds (stC v.keys)]) :: hp, p.2⟩) (fun p => p.1 ≤ l.length ∧ m + 1 ≤ p.2) (fun p => l.length - p.1) (0, m + 1) ?_ ?_ (fun ⟨j, k⟩ hj => ?_)
  · exact ⟨by simp, by simp⟩
  · refine weak_ok ?_ (Sub.cons ?_ (Sub.base hf ?_)) (Nat.le_refl _)
    all_goals (simp (disch := omega) only [ite_ne, go_sem, ↓reduceIte, Nat.reduceEqDiff, Nat.reduceBEq, Nat.reduceAdd, Nat.reduceLeDiff, Nat.reduceLT, reduceCtorEq, Nat.reduceMul, Nat.reduceSub, Int.reduceEq, Int.reduceLT, Int.reduceLE, Int.reduceToNat])
  dsimp only at hj
  obtain ⟨hj1, hj2⟩ := hj
  simp (disch := omega) only [ite_ne, go_sem, ↓reduceIte, Nat.reduceEqDiff, Nat.reduceBEq, Nat.reduceAdd, Nat.reduceLeDiff, Nat.reduceLT, reduceCtorEq, Nat.reduceMul, Nat.reduceSub, Int.reduceEq, Int.reduceLT, Int.reduceLE, Int.reduceToNat]
  refine cdK_of (fun q => ?_) (fun q => ?_)
  · have q : j < l.length := by simpa using q
    obtain ⟨y, ey⟩ : ∃ y, l[j]? = some y := ⟨l[j], by simp [q]⟩
    have hy := hl.2 y (List.mem_of_getElem? ey)
    have hyf : (Val.mk 0 0 ⟨#[]⟩ y.p []).Fit := .mk _ (by show y.p.length * 80 ≤ _; omega) (show 0 * 16 ≤ 140737488355327 by decide) hy.2
    simp (disch := omega) only [ite_ne, q, getK_s (mapC_get prbC ey), go_sem, ↓reduceIte, Nat.reduceEqDiff, Nat.reduceBEq, Nat.reduceAdd, Nat.reduceLeDiff, Nat.reduceLT, reduceCtorEq, Nat.reduceMul, Nat.reduceSub, Int.reduceEq, Int.reduceLT, Int.reduceLE, Int.reduceToNat]
    refine vcCall.f ((weight_ok 100 _ hyf _ _).cv rfl) ?_
    simp (disch := omega) only [ite_ne, go_sem, ↓reduceIte, Nat.reduceEqDiff, Nat.reduceBEq, Nat.reduceAdd, Nat.reduceLeDiff, Nat.reduceLT, reduceCtorEq, Nat.reduceMul, Nat.reduceSub, Int.reduceEq, Int.reduceLT, Int.reduceLE, Int.reduceToNat]
    refine cdK_of (fun c => ?_) (fun c => ?_)
    · simp (disch := omega) only [ite_ne, go_sem, ↓reduceIte, Nat.reduceEqDiff, Nat.reduceBEq, Nat.reduceAdd, Nat.reduceLeDiff, Nat.reduceLT, reduceCtorEq, Nat.reduceMul, Nat.reduceSub, Int.reduceEq, Int.reduceLT, Int.reduceLE, Int.reduceToNat]
      refine vcCall.f (exh22_ok _ _) ?_
      simp (disch := omega) only [ite_ne, go_sem, ↓reduceIte, Nat.reduceEqDiff, Nat.reduceBEq, Nat.reduceAdd, Nat.reduceLeDiff, Nat.reduceLT, reduceCtorEq, Nat.reduceMul, Nat.reduceSub, Int.reduceEq, Int.reduceLT, Int.reduceLE, Int.reduceToNat]
    · simp (disch := omega) only [ite_ne, go_sem, ↓reduceIte, Nat.reduceEqDiff, Nat.reduceBEq, Nat.reduceAdd, Nat.reduceLeDiff, Nat.reduceLT, reduceCtorEq, Nat.reduceMul, Nat.reduceSub, Int.reduceEq, Int.reduceLT, Int.reduceLE, Int.reduceToNat]
      refine ⟨(j + 1, _), ⟨by dsimp only; omega, by dsimp only; omega⟩, by dsimp only; omega, weak_ok ?_ (Sub.cons ?_ (Sub.base hf ?_)) (Nat.le_refl _)⟩
      all_goals
        simp (disch := omega) only [ite_ne, wr64s j (by omega), go_sem, ↓reduceIte, Nat.reduceEqDiff, Nat.reduceBEq, Nat.reduceAdd, Nat.reduceLeDiff, Nat.reduceLT, reduceCtorEq, Nat.reduceMul, Nat.reduceSub, Int.reduceEq, Int.reduceLT, Int.reduceLE, Int.reduceToNat]
  · have q : j = l.length := by simp at q; omega
    subst q
    simp (disch := omega) only [ite_ne, go_sem, ↓reduceIte, Nat.reduceEqDiff, Nat.reduceBEq, Nat.reduceAdd, Nat.reduceLeDiff, Nat.reduceLT, reduceCtorEq, Nat.reduceMul, Nat.reduceSub, Int.reduceEq, Int.reduceLT, Int.reduceLE, Int.reduceToNat]
    refine dCallR.f (fun _ hp' e => h1 _ _) ?_
    simp (disch := omega) only [ite_ne, go_sem, ↓reduceIte, Nat.reduceEqDiff, Nat.reduceBEq, Nat.reduceAdd, Nat.reduceLeDiff, Nat.reduceLT, reduceCtorEq, Nat.reduceMul, Nat.reduceSub, Int.reduceEq, Int.reduceLT, Int.reduceLE, Int.reduceToNat]
    refine dCallR.f (fun _ hp' e => h2 _ _) ?_
    simp (disch := omega) only [ite_ne, go_sem, ↓reduceIte, Nat.reduceEqDiff, Nat.reduceBEq, Nat.reduceAdd, Nat.reduceLeDiff, Nat.reduceLT, reduceCtorEq, Nat.reduceMul, Nat.reduceSub, Int.reduceEq, Int.reduceLT, Int.reduceLE, Int.reduceToNat]
    refine dCallR.f (fun _ hp' e => equal_ok x hfx _ _) ?_
    simp (disch := omega) only [ite_ne, go_sem, ↓reduceIte, Nat.reduceEqDiff, Nat.reduceBEq, Nat.reduceAdd, Nat.reduceLeDiff, Nat.reduceLT, reduceCtorEq, Nat.reduceMul, Nat.reduceSub, Int.reduceEq, Int.reduceLT, Int.reduceLE, Int.reduceToNat]
    refine dCall.f (fun _ hp' e => exh22_ok _ _) ?_
    simp (disch := omega) only [ite_ne, go_sem, ↓reduceIte, Nat.reduceEqDiff, Nat.reduceBEq, Nat.reduceAdd, Nat.reduceLeDiff, Nat.reduceLT, reduceCtorEq, Nat.reduceMul, Nat.reduceSub, Int.reduceEq, Int.reduceLT, Int.reduceLE, Int.reduceToNat]
theorem lawResponsesS (v : Val) (hv : VS v) (l : List Prb) (hl : l.length ≤ 18000000000000 ∧ ∀ p ∈ l, p.p.length * 80 ≤ 140737488355327 ∧ ∀ x ∈ p.p, x.Fit) (hp : CH) (m : Nat) : MeetsF Tryd.prog 5 hp m [vx v, .ds (mapC prbC l)] (.b true) := by
  by_cases c1 : l.length ≤ 50
  · exact lawResponses v hv l ⟨by omega, hl.2⟩ hp m
  · have hlen := hl.1
    refine meetsF Tryd.func5 (by kernel_rfl) cc5 cr5 rfl fun hf => ?_; unfold ck5
    simp only [go_sem, ↓reduceIte, Nat.reduceEqDiff, Nat.reduceBEq, Nat.reduceAdd, Nat.reduceLeDiff, Nat.reduceLT, reduceCtorEq, Nat.reduceMul, Nat.reduceSub, Int.reduceEq, Int.reduceLT, Int.reduceLE, Int.reduceToNat]
    refine vcCall.f (weight_ok 2000 v hv.f _ _) ?_
    simp only [go_sem, ↓reduceIte, Nat.reduceEqDiff, Nat.reduceBEq, Nat.reduceAdd, Nat.reduceLeDiff, Nat.reduceLT, reduceCtorEq, Nat.reduceMul, Nat.reduceSub, Int.reduceEq, Int.reduceLT, Int.reduceLE, Int.reduceToNat]
    refine cdK_of (fun c => ?_) (fun c => ?_)
    · simp only [go_sem, ↓reduceIte, Nat.reduceEqDiff, Nat.reduceBEq, Nat.reduceAdd, Nat.reduceLeDiff, Nat.reduceLT, reduceCtorEq, Nat.reduceMul, Nat.reduceSub, Int.reduceEq, Int.reduceLT, Int.reduceLE, Int.reduceToNat]
      refine vcCall.f (exh22_ok _ _) ?_
      simp only [go_sem, ↓reduceIte, Nat.reduceEqDiff, Nat.reduceBEq, Nat.reduceAdd, Nat.reduceLeDiff, Nat.reduceLT, reduceCtorEq, Nat.reduceMul, Nat.reduceSub, Int.reduceEq, Int.reduceLT, Int.reduceLE, Int.reduceToNat]
    · exfalso
      simp at c
      omega
end Go.Proofs.YtgollgfifnmaaaaDoor
