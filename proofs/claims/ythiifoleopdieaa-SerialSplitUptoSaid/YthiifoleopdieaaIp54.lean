/-
  The parts IdWb IdSS IdSX of the proof, in one file. Conditions: none.
-/
import Derived.Test.YthiifoleopdieaaIp53
namespace Go.Proofs.Ythiifoleopdieaa
open Go.Eng
set_option linter.unusedVariables false
set_option linter.unusedSimpArgs false
theorem reads_case39 {α : AV} (h : AS Try.prog 38 α) (hb : avw α ≤ 1048576) : ∃ s d p, α = casex s d p ∧ COk s d p := by
  obtain ⟨L, rfl, h2⟩ := as_struct Try.underlying38 h
  obtain ⟨parts, rfl, hl, hp⟩ := shp_struct Try.underlying38 h2
  obtain ⟨a, b, c, rfl⟩ := ds_n3 (show parts.length = 3 from hl)
  simp only [List.flatten_cons, List.flatten_nil, avL_app, avL, avw] at hb
  obtain ⟨s, rfl, hs, hf⟩ := shp_supQ (hp 0 _ a rfl rfl) (by omega)
  obtain ⟨d, rfl, hd, hw⟩ := shp_datQ (hp 1 _ b rfl rfl) (by omega)
  obtain ⟨ts, rfl, hl2, hp2⟩ := shp_struct Try.underlying36 (hp 2 _ c rfl rfl)
  obtain ⟨t, u, rfl⟩ := ds_n2 (show ts.length = 2 from hl2)
  obtain ⟨k, rfl, _⟩ := shp_int Try.underlying3 (hp2 0 _ t rfl rfl)
  obtain ⟨l, rfl, _, hx⟩ := shp_slice Try.underlying34 (hp2 1 _ u rfl rfl)
  simp only [List.flatten_cons, List.flatten_nil, avL_app, avL, avw] at hb
  obtain ⟨ps, rfl, hps⟩ := mapC_ofQ (c := pkC) (Q := fun p => p.Ok) fun x h => shp_pkQ (hx x h) (by have := avLL_mem h; omega)
  have h1 := mapC_len_le pkC_one ps
  exact ⟨s, d, .mk k ps, rfl, ⟨hs, hf, hd, hw, by simp only [Pln.l_mk]; omega, hps⟩⟩
theorem in1_one (n : Int) : 1 ≤ avL (in1 n) := by simp [in1, avL, avw]
theorem pk_fit (p : Pk) : p.Ok → avL (pkC p) ≤ 1048576 → p.Fit := by
  refine Pk.ind (Q := fun p => p.Ok → avL (pkC p) ≤ 1048576 → p.Fit) (fun p ih ho hb => ?_) p
  rw [pkC_eq] at hb
  simp only [avL, avw] at hb
  have h1 := mapC_len_le in1_one p.tw
  have h2 := ho.a.n
  have h3 := ho.l
  refine .mk p (by omega) (by omega) (by omega) (fun a ha => (ho.a.v a ha).f) fun x hx => ih x hx (ho.x hx) ?_
  have := avLL_mem (List.mem_map_of_mem (f := pkC) hx)
  have h4 : avL (pkC x) ≤ avLL (mapC pkC p.picks) := this
  omega
theorem case_fit {s : Sup} {d : Dat} {p : Pln} (c : COk s d p) (hb : avw (casex s d p) ≤ 1048576) : ∀ x ∈ p.l, x.Fit := fun x hx => by
  simp only [casex, avL, avw] at hb
  have h4 : avL (pkC x) ≤ avLL (mapC pkC p.l) := avLL_mem (List.mem_map_of_mem (f := pkC) hx)
  exact pk_fit x (c.p x hx) (by omega)
end Go.Proofs.Ythiifoleopdieaa
namespace Go.Proofs.Ythiifoleopdieaa
open Go.Eng
set_option linter.unusedVariables false
set_option linter.unusedSimpArgs false
set_option maxRecDepth 20000
set_option maxHeartbeats 2000000
noncomputable def few39 (s : Sup) (d : Dat) (p : Pln) : Bool := (!lgX s d p.l && decide ((d.w.length : Int) ≤ 20)) && decide ((p.l.length : Int) ≤ 20)
theorem few39_ok (s : Sup) (d : Dat) (p : Pln) (c : COk s d p) (hp : CH) (m : Nat) : MeetsF Try.prog 6 hp m [casex s d p] (.b (few39 s d p)) := by
  have h1 := rLarge_ok s c.s c.f d c.d (by omega) p.l c.l c.p
  rw [few39]
  obtain ⟨x, hx⟩ : ∃ x, lgX s d p.l = x := ⟨_, rfl⟩
  rw [hx] at h1 ⊢
  refine meetsF Try.func6 (by kernel_rfl) cc6 cr6 rfl fun hf => ?_; unfold ck6
  simp (disch := omega) only [ite_ne, go_sem, ↓reduceIte, Nat.reduceEqDiff, Nat.reduceBEq, Nat.reduceAdd, Nat.reduceLeDiff, Nat.reduceLT, reduceCtorEq, Nat.reduceMul, Nat.reduceSub, Int.reduceEq, Int.reduceLT, Int.reduceLE, Int.reduceToNat]
  refine vcCall.f (h1 _ _) ?_
  simp (disch := omega) only [ite_ne, go_sem, ↓reduceIte, Nat.reduceEqDiff, Nat.reduceBEq, Nat.reduceAdd, Nat.reduceLeDiff, Nat.reduceLT, reduceCtorEq, Nat.reduceMul, Nat.reduceSub, Int.reduceEq, Int.reduceLT, Int.reduceLE, Int.reduceToNat]
theorem lawSplit (s : Sup) (d : Dat) (p : Pln) (c : COk s d p) (hfp : ∀ x ∈ p.l, x.Fit) (hp : CH) (m : Nat) : MeetsF Try.prog 3 hp m [casex s d p] (.b true) := by
  have hl := c.l
  have h1 := few39_ok s d p c
  have h2 := sSplit_ok p (by omega) hfp
  have hsl := splitP_len p
  obtain ⟨x, hx⟩ : ∃ x, few39 s d p = x := ⟨_, rfl⟩
  rw [hx] at h1
  refine meetsF Try.func3 (by kernel_rfl) cc3 cr3 rfl fun hf => ?_; unfold ck3
  simp (disch := omega) only [ite_ne, go_sem, ↓reduceIte, Nat.reduceEqDiff, Nat.reduceBEq, Nat.reduceAdd, Nat.reduceLeDiff, Nat.reduceLT, reduceCtorEq, Nat.reduceMul, Nat.reduceSub, Int.reduceEq, Int.reduceLT, Int.reduceLE, Int.reduceToNat]
  refine vcCall.f (h1 _ _) ?_
  cases x
  · simp (disch := omega) only [ite_ne, go_sem, ↓reduceIte, Nat.reduceEqDiff, Nat.reduceBEq, Nat.reduceAdd, Nat.reduceLeDiff, Nat.reduceLT, reduceCtorEq, Nat.reduceMul, Nat.reduceSub, Int.reduceEq, Int.reduceLT, Int.reduceLE, Int.reduceToNat]
    refine vcCall.f (knows_ok _ _) ?_
    simp (disch := omega) only [ite_ne, go_sem, ↓reduceIte, Nat.reduceEqDiff, Nat.reduceBEq, Nat.reduceAdd, Nat.reduceLeDiff, Nat.reduceLT, reduceCtorEq, Nat.reduceMul, Nat.reduceSub, Int.reduceEq, Int.reduceLT, Int.reduceLE, Int.reduceToNat]
  simp (disch := omega) only [ite_ne, go_sem, ↓reduceIte, Nat.reduceEqDiff, Nat.reduceBEq, Nat.reduceAdd, Nat.reduceLeDiff, Nat.reduceLT, reduceCtorEq, Nat.reduceMul, Nat.reduceSub, Int.reduceEq, Int.reduceLT, Int.reduceLE, Int.reduceToNat]
  refine vcCall.f (h2 _ _) ?_
  simp (disch := omega) only [ite_ne, hsl, go_sem, ↓reduceIte, Nat.reduceEqDiff, Nat.reduceBEq, Nat.reduceAdd, Nat.reduceLeDiff, Nat.reduceLT, reduceCtorEq, Nat.reduceMul, Nat.reduceSub, Int.reduceEq, Int.reduceLT, Int.reduceLE, Int.reduceToNat]
  refine loop (fun q : Nat × Nat => ⟨[(1, .bx m 0), (3, .ds (mapC plC (splitP p))), (4, .i .i64 q.1)], (m, .bx [.ds (stC s.g), .ds (mapC dfC s.doc), .ds (mapC kyC s.keys), .ds (mapC jnC s.joins), .ds (mapC itC d.i), .ds (mapC wrC d.w), .i .i64 p.k, .ds (mapC pkC p.l)]) :: hp, q.2⟩)
    (fun q => q.1 ≤ p.l.length ∧ m + 1 ≤ q.2) (fun q => p.l.length - q.1) (0, m + 1) ?_ ?_ (fun ⟨j, n⟩ hj => ?_)
  · simp
  · refine weak_ok ?_ (Sub.cons ?_ (Sub.base hf ?_)) (Nat.le_refl _)
    all_goals (simp (disch := omega) only [ite_ne, go_sem, ↓reduceIte, Nat.reduceEqDiff, Nat.reduceBEq, Nat.reduceAdd, Nat.reduceLeDiff, Nat.reduceLT, reduceCtorEq, Nat.reduceMul, Nat.reduceSub, Int.reduceEq, Int.reduceLT, Int.reduceLE, Int.reduceToNat])
  dsimp only at hj
  obtain ⟨hj1, hj2⟩ := hj
  have hmn : m ≤ n := by omega
  simp (disch := omega) only [ite_ne, hsl, go_sem, ↓reduceIte, Nat.reduceEqDiff, Nat.reduceBEq, Nat.reduceAdd, Nat.reduceLeDiff, Nat.reduceLT, reduceCtorEq, Nat.reduceMul, Nat.reduceSub, Int.reduceEq, Int.reduceLT, Int.reduceLE, Int.reduceToNat]
  refine cdK_of (fun q => ?_) (fun q => ?_)
  · have q : j < p.l.length := by simpa using q
    obtain ⟨x, ex⟩ : ∃ x, p.l[j]? = some x := ⟨p.l[j], by simp [q]⟩
    have hxo := c.p x (List.mem_of_getElem? ex)
    have h3 := rRun_ok s c.s d c.d (.mk p.k [x]) (by simp [Pln.l_mk]) (by simp [Pln.l_mk, hxo]) (fun _ => by have := c.w; simp only [Pln.l_mk, List.length_cons, List.length_nil]; omega)
    have hfit := runV_fit s d (.mk p.k [x]) c.d (by simp [Pln.l_mk]) (by simp [Pln.l_mk, hxo]) (fun _ => by have := c.w; simp only [Pln.l_mk, List.length_cons, List.length_nil]; omega)
    obtain ⟨T, hT⟩ : ∃ T, (runV s d (.mk p.k [x])).1 = T := ⟨_, rfl⟩
    obtain ⟨E, hE⟩ : ∃ E, (runV s d (.mk p.k [x])).2 = E := ⟨_, rfl⟩
    rw [hT] at h3 hfit
    rw [hE] at h3
    have e1 : mapC pkC [x] = [[AV.s x.key, .s x.on, .s x.name, .ds (mapC argC x.args), .s x.tn, .ds (mapC in1 x.tw), .s x.label, .i .i64 x.initial, .ds (mapC pkC x.picks)]] := by rw [mapC_cons, mapC_nil, pkC_eq]
    have e2 : plx (.mk p.k [x]) = .ag [.i .i64 p.k, .ds [[AV.s x.key, .s x.on, .s x.name, .ds (mapC argC x.args), .s x.tn, .ds (mapC in1 x.tw), .s x.label, .i .i64 x.initial, .ds (mapC pkC x.picks)]]] := by rw [← e1]; rfl
    rw [e2] at h3
    have e3 : (mapC plC (splitP p))[j]? = some [.i .i64 p.k, .ds [[AV.s x.key, .s x.on, .s x.name, .ds (mapC argC x.args), .s x.tn, .ds (mapC in1 x.tw), .s x.label, .i .i64 x.initial, .ds (mapC pkC x.picks)]]] := by
      rw [← e1]
      have e4 : (splitP p)[j]? = some (.mk p.k [x]) := by rw [splitP, List.getElem?_map, ex]; rfl
      exact mapC_get plC e4
    have e6 : (mapC pkC p.l)[j]? = some [AV.s x.key, .s x.on, .s x.name, .ds (mapC argC x.args), .s x.tn, .ds (mapC in1 x.tw), .s x.label, .i .i64 x.initial, .ds (mapC pkC x.picks)] := by rw [mapC_get pkC ex, pkC_eq]
    have z3 : (n + 53 = m) = False := eq_false (by omega)
    have z4 : (n + 54 = m) = False := eq_false (by omega)
    have h4 := same_ok T T hfit hfit
    rw [decide_eq_true (cmpV_refl _)] at h4
    have k4 : p.l.length - (j + 1) < p.l.length - j := by omega
    have k5 : ((j + 1 : Nat) : Int) ≤ (p.l.length : Int) := by omega
    have k6 : (j : Int) ≤ ((j + 1 : Nat) : Int) := by omega
    have z1 : (n + 30 = m) = False := eq_false (by omega)
    have z2 : (n + 31 = m) = False := eq_false (by omega)
    have w1 := wr64s j (by omega)
    simp (disch := omega) only [ite_ne, q, hsl, getK_s e3, getK_s (mapC_get pkC ex), e3, hmn, go_sem, ↓reduceIte, Nat.reduceEqDiff, Nat.reduceBEq, Nat.reduceAdd, Nat.reduceLeDiff, Nat.reduceLT, reduceCtorEq, Nat.reduceMul, Nat.reduceSub, Int.reduceEq, Int.reduceLT, Int.reduceLE, Int.reduceToNat]
    refine dCallR.f (fun _ hp' e => h3 _ _) ?_
    simp (disch := omega) only [ite_ne, q, hsl, getK_s e3, getK_s (mapC_get pkC ex), e3, hmn, go_sem, ↓reduceIte, Nat.reduceEqDiff, Nat.reduceBEq, Nat.reduceAdd, Nat.reduceLeDiff, Nat.reduceLT, reduceCtorEq, Nat.reduceMul, Nat.reduceSub, Int.reduceEq, Int.reduceLT, Int.reduceLE, Int.reduceToNat]
    have e5 : List.drop j (List.take (j + 1) p.l) = [x] := by
      apply List.ext_getElem?
      intro i
      rw [List.getElem?_drop, List.getElem?_take]
      cases i with
      | zero => simp [ex]
      | succ i => rw [if_neg (by omega)]; simp
    simp (disch := omega) only [ite_ne, z1, z2, w1, k5, k6, not_false_eq_true, true_and, e5, e1, go_sem, ↓reduceIte, Nat.reduceEqDiff, Nat.reduceBEq, Nat.reduceAdd, Nat.reduceLeDiff, Nat.reduceLT, reduceCtorEq, Nat.reduceMul, Nat.reduceSub, Int.reduceEq, Int.reduceLT, Int.reduceLE, Int.reduceToNat]
    refine dCallR.f (fun _ hp' e => h3 _ _) ?_
    simp (disch := omega) only [ite_ne, q, hsl, getK_s e3, getK_s (mapC_get pkC ex), e3, e6, hmn, z3, z4, not_false_eq_true, true_and, go_sem, ↓reduceIte, Nat.reduceEqDiff, Nat.reduceBEq, Nat.reduceAdd, Nat.reduceLeDiff, Nat.reduceLT, reduceCtorEq, Nat.reduceMul, Nat.reduceSub, Int.reduceEq, Int.reduceLT, Int.reduceLE, Int.reduceToNat]
    refine dCall.f (fun _ hp' e => h4 _ _) ?_
    simp (disch := omega) only [ite_ne, hmn, go_sem, ↓reduceIte, Nat.reduceEqDiff, Nat.reduceBEq, Nat.reduceAdd, Nat.reduceLeDiff, Nat.reduceLT, reduceCtorEq, Nat.reduceMul, Nat.reduceSub, Int.reduceEq, Int.reduceLT, Int.reduceLE, Int.reduceToNat]
    refine ⟨(j + 1, _), ⟨by dsimp only; omega, by dsimp only; omega⟩, k4, weak_ok ?_ (Sub.cons ?_ (Sub.base hf ?_)) (Nat.le_refl _)⟩
    all_goals
      simp (disch := omega) only [ite_ne, w1, hmn, go_sem, ↓reduceIte, Nat.reduceEqDiff, Nat.reduceBEq, Nat.reduceAdd, Nat.reduceLeDiff, Nat.reduceLT, reduceCtorEq, Nat.reduceMul, Nat.reduceSub, Int.reduceEq, Int.reduceLT, Int.reduceLE, Int.reduceToNat]
  · have q : j = p.l.length := by simp at q; omega
    subst q
    simp (disch := omega) only [ite_ne, hmn, go_sem, ↓reduceIte, Nat.reduceEqDiff, Nat.reduceBEq, Nat.reduceAdd, Nat.reduceLeDiff, Nat.reduceLT, reduceCtorEq, Nat.reduceMul, Nat.reduceSub, Int.reduceEq, Int.reduceLT, Int.reduceLE, Int.reduceToNat]
    refine vcCall.f (knows_ok _ _) ?_
    simp (disch := omega) only [ite_ne, hmn, go_sem, ↓reduceIte, Nat.reduceEqDiff, Nat.reduceBEq, Nat.reduceAdd, Nat.reduceLeDiff, Nat.reduceLT, reduceCtorEq, Nat.reduceMul, Nat.reduceSub, Int.reduceEq, Int.reduceLT, Int.reduceLE, Int.reduceToNat]
end Go.Proofs.Ythiifoleopdieaa
namespace Go.Proofs.Ythiifoleopdieaa
open Go.Eng
set_option linter.unusedVariables false
set_option linter.unusedSimpArgs false
theorem reads_any {t : TypeId} {α : AV} (h : AS Try.prog t α) : ∃ x : {β : AV // AS Try.prog t β}, α = x.1 ∧ True := ⟨⟨α, h⟩, rfl, trivial⟩
theorem lawSplitA (α : AV) (h : AS Try.prog 38 α) (hb : avw α ≤ 1048576) : MeetsF Try.prog 3 [] 0 [α] (.b true) := by
  obtain ⟨s, d, p, rfl, c⟩ := reads_case39 h hb
  exact lawSplit s d p c (case_fit c hb) [] 0
theorem ssplit_law (αs : List AV) (h : ASs Try.prog [38] αs) (hw : avL αs ≤ 1048576) : MeetsF Try.prog 3 [] 0 αs (.b true) := by
  obtain ⟨α1, rfl, h1⟩ := as_n1 h
  obtain ⟨x1, rfl, w1⟩ := reads_any h1
  simp only [avL] at hw
  exact lawSplitA x1.1 x1.2 (by omega)
set_option maxRecDepth 100000 in
theorem ssplit_lifted (os : Os) (started : os.Started) (H : Type) (enc : TypeId × Value → H) (F : Stop.Interp) :
    ReturnsInHanded {} Try.checked os 3 .any ((Rows.OpenSpec.upto Rows.serialSplitSpec).pre6 enc Try.prog Try.f3 Rows.serialSplitUptoRow.domain false) (((Rows.OpenSpec.upto Rows.serialSplitSpec).at F).post enc Try.prog Try.f3 false true false false) := by
  refine returnsInHanded_of_cond (C := Try.checked) (k := Rows.uptoSmall) rfl own started (by kernel_rfl) Try.func3
    (OpenSpec.witness (enc := enc) (C := Try.checked) (k := Rows.uptoSmall) rfl false ⟨#[], #[.agg #[.slice none 0 0, .slice none 0 0, .slice none 0 0, .slice none 0 0, .slice none 0 0, .slice none 0 0, .int .i64 0, .slice none 0 0]], []⟩ 8 (by kernel_rfl) (by kernel_rfl) (by kernel_rfl) (x := ([.agg [.agg [.nil, .agg [.nil], .nil, .nil], .agg [.nil, .nil], .agg [.lit (.int .i64 0), .nil]]], [], [])) (by kernel_rfl) (by kernel_rfl) (by kernel_rfl)) ?_
  intro W base args ds gs before hval hW _ hk _
  have hg : gs = [] := by
    obtain ⟨p, q, hA, hV, _⟩ := hW
    exact (ChangeShapes.trodVars_none hV).1
  subst hg
  have hk : Rows.uptoBulkAll ds ≤ 1048576 := by simpa [Rows.uptoSmall] using hk
  refine law_core (s := Rows.serialSplitSpec) (tb := 4) kids sized ?_ rfl (fun ds hl => ?_) rfl Try.underlying4 (m := fun αs h hb => ssplit_law αs h (Nat.le_trans hb hk)) hval hW
  · exact par_lt (by kernel_rfl)
  · obtain ⟨d1, rfl⟩ := ds_n1 (show ds.length = 1 from hl)
    exact ⟨rfl, rfl, rfl⟩
/-- The statement SerialSplit, where what it reads is not too much. -/
theorem ssplit_holds : Rows.SerialSplitUptoSaid :=
  OpenClaim.holds_of_cond 3 Try.f3 rfl rfl rfl rfl rfl rfl rfl ⟨rfl, rfl, rfl, rfl, rfl⟩ rfl rfl rfl rfl rfl (by kernel_rfl) Try.func3 (by kernel_rfl)
    (of_decide_eq_true (by kernel_rfl)) (by unfold Func.isWrapper; first | (rw [if_pos (by decide +kernel)]; kernel_rfl) | (rw [if_neg (by decide +kernel)]; exact ⟨rfl, rfl⟩))
    (fun os started H enc _ F => ssplit_lifted os started H enc F)
end Go.Proofs.Ythiifoleopdieaa
