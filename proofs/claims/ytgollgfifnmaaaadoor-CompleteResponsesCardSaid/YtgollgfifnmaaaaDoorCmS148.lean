/-
  The parts CmN of the proof, in one file. Conditions: none.
-/
import Derived.Test.YtgollgfifnmaaaaDoorCmS147
namespace Go.Proofs.YtgollgfifnmaaaaDoor
open Go.Eng
set_option linter.unusedVariables false
set_option linter.unusedSimpArgs false
set_option maxRecDepth 20000
set_option maxHeartbeats 1000000
def sData : ByteArray := ⟨#[100, 97, 116, 97]⟩
def sErrors : ByteArray := ⟨#[101, 114, 114, 111, 114, 115]⟩
def sMessage : ByteArray := ⟨#[109, 101, 115, 115, 97, 103, 101]⟩
def sPath : ByteArray := ⟨#[112, 97, 116, 104]⟩
def errV (p : Prb) : Val := obR [sMessage, sPath] [txV p.t, liV p.p]
def respV (data : Val) (l : List Prb) : Val := if l = [] then obR [sData] [data] else obR [sData, sErrors] [data, liV (l.map errV)]
theorem List_ok (l : List Val) (hl : l.length * 80 ≤ 140737488355327) (hxs : ∀ x ∈ l, x.Fit) (hp : CH) (m : Nat) : MeetsF Tryd.prog 48 hp m [.ds (mapC valC l)] (vx (liV l)) := by
  refine meetsF Tryd.func48 (by kernel_rfl) cc48 cr48 rfl fun hf => ?_; unfold ck48
  simp only [go_sem, ↓reduceIte, Nat.reduceEqDiff, Nat.reduceBEq, Nat.reduceAdd, Nat.reduceLeDiff, Nat.reduceLT, reduceCtorEq, Nat.reduceMul, Nat.reduceSub, Int.reduceEq, Int.reduceLT, Int.reduceLE, Int.reduceToNat]
  refine vcCall.f (copies_ok l hl (fun x hx hp m => copy_ok x (hxs x hx) hp m) _ _) ?_
  simp only [go_sem, ↓reduceIte, Nat.reduceEqDiff, Nat.reduceBEq, Nat.reduceAdd, Nat.reduceLeDiff, Nat.reduceLT, reduceCtorEq, Nat.reduceMul, Nat.reduceSub, Int.reduceEq, Int.reduceLT, Int.reduceLE, Int.reduceToNat]
  rfl
theorem cobject_ok (a : ByteArray) (x : Val) (b : ByteArray) (y : Val) (hp : CH) (m : Nat) : MeetsF Tryd.prog 46 hp m [.s a, vx x, .s b, vx y] (vx (obR [a, b] [x, y])) := by
  refine meetsF Tryd.func46 (by kernel_rfl) cc46 cr46 rfl fun hf => ?_; unfold ck46
  simp only [go_sem, ↓reduceIte, Nat.reduceEqDiff, Nat.reduceBEq, Nat.reduceAdd, Nat.reduceLeDiff, Nat.reduceLT, reduceCtorEq, Nat.reduceMul, Nat.reduceSub, Int.reduceEq, Int.reduceLT, Int.reduceLE, Int.reduceToNat]
  simp only [obR, liV, Val.k_mk, Val.n_mk, Val.s_mk, Val.items_mk, Val.keys_mk, mapC_cons, mapC_nil, valC_eq]
  rfl
def PrbsFit (l : List Prb) : Prop := l.length ≤ 1000000000 ∧ ∀ p ∈ l, p.p.length * 80 ≤ 140737488355327 ∧ ∀ x ∈ p.p, x.Fit
theorem tResp_ok (data : Val) (hdf : data.Fit) (l : List Prb) (hl : PrbsFit l) (hp : CH) (m : Nat) : MeetsF Tryd.prog 19 hp m [vx data, .ds (mapC prbC l)] (vx (respV data l)) := by
  have hlen := hl.1
  have hcp := copy_ok data hdf
  by_cases h0 : l = []
  · subst h0
    have hR : respV data [] = obR [sData] [data] := if_pos rfl
    rw [hR]
    refine meetsF Tryd.func19 (by kernel_rfl) cc919 cr919 rfl fun hf => ?_; unfold ck919
    simp only [go_sem, ↓reduceIte, Nat.reduceEqDiff, Nat.reduceBEq, Nat.reduceAdd, Nat.reduceLeDiff, Nat.reduceLT, reduceCtorEq, Nat.reduceMul, Nat.reduceSub, Int.reduceEq, Int.reduceLT, Int.reduceLE, Int.reduceToNat]
    refine vcCall.f (hcp _ _) ?_
    simp only [go_sem, ↓reduceIte, Nat.reduceEqDiff, Nat.reduceBEq, Nat.reduceAdd, Nat.reduceLeDiff, Nat.reduceLT, reduceCtorEq, Nat.reduceMul, Nat.reduceSub, Int.reduceEq, Int.reduceLT, Int.reduceLE, Int.reduceToNat]
    simp only [obR, liV, Val.k_mk, Val.n_mk, Val.s_mk, Val.items_mk, Val.keys_mk, mapC_cons, mapC_nil, valC_eq]
    rfl
  have hlp : 0 < l.length := List.length_pos_iff.2 h0
  have hR : respV data l = obR [sData, sErrors] [data, liV (l.map errV)] := if_neg h0
  rw [hR]
  have hz : (decide ((l.length : Int) = 0)) = false := by simp; omega
  refine meetsF Tryd.func19 (by kernel_rfl) cc919 cr919 rfl fun hf => ?_; unfold ck919
  simp (disch := omega) only [ite_ne, hz, go_sem, ↓reduceIte, Nat.reduceEqDiff, Nat.reduceBEq, Nat.reduceAdd, Nat.reduceLeDiff, Nat.reduceLT, reduceCtorEq, Nat.reduceMul, Nat.reduceSub, Int.reduceEq, Int.reduceLT, Int.reduceLE, Int.reduceToNat]
  refine loop (fun p : Nat × Nat => ⟨[(2, .bx m 0), (4, .bx (m + 1) 0), (5, .bx (m + 2) 0), (17, .ds (mapC prbC l)), (18, .i .i64 l.length), (19, .i .i64 p.1)],
      (m + 2, .bx [.i .i64 5, .i .i64 0, .s ⟨#[]⟩, .rw (m + 3) p.1 p.1, .e0]) :: (m + 3, .rw p.1 5 (mapC valC ((l.take p.1).map errV))) :: (m + 1, .bx [.i .i64 0, .i .i64 0, .s ⟨#[]⟩, .e0, .e0]) :: (m, .bx [.i .i64 data.k, .i .i64 data.n, .s data.s, .ds (mapC valC data.items), .ds (stC data.keys)]) :: hp, p.2⟩)
    (fun p => p.1 ≤ l.length ∧ m + 4 ≤ p.2) (fun p => l.length - p.1) (0, m + 4) ?_ ?_ (fun ⟨j, k⟩ hj => ?_)
  · exact ⟨by simp, by simp⟩
  · refine (weak_b0 (c := m + 2) (i := 3) (m := 5) (cs := [.i .i64 5, .i .i64 0, .s ⟨#[]⟩, .e0, .e0]) ?_ rfl).trans (weak_ok ?_ (Sub.cons ?_ (Sub.cons ?_ (Sub.cons ?_ (Sub.cons ?_ (Sub.base hf ?_))))) (Nat.le_refl _))
    all_goals first
      | ((simp (disch := omega) only [ite_ne, List.take_zero, List.map_nil, go_sem, ↓reduceIte, Nat.reduceEqDiff, Nat.reduceBEq, Nat.reduceAdd, Nat.reduceLeDiff, Nat.reduceLT, reduceCtorEq, Nat.reduceMul, Nat.reduceSub, Int.reduceEq, Int.reduceLT, Int.reduceLE, Int.reduceToNat])
         first | done | rfl)
  dsimp only at hj
  obtain ⟨hj1, hj2⟩ := hj
  have oL : ((l.take j).map errV).length = j := by simp; omega
  simp (disch := omega) only [ite_ne, oL, go_sem, ↓reduceIte, Nat.reduceEqDiff, Nat.reduceBEq, Nat.reduceAdd, Nat.reduceLeDiff, Nat.reduceLT, reduceCtorEq, Nat.reduceMul, Nat.reduceSub, Int.reduceEq, Int.reduceLT, Int.reduceLE, Int.reduceToNat]
  refine cdK_of (fun q => ?_) (fun q => ?_)
  · have q : j < l.length := by simpa using q
    obtain ⟨x, ex⟩ : ∃ x, l[j]? = some x := ⟨l[j], by simp [q]⟩
    have hxf := hl.2 x (List.mem_of_getElem? ex)
    have e1 : (l.take (j + 1)).map errV = (l.take j).map errV ++ [obR [sMessage, sPath] [txV x.t, liV x.p]] := by rw [← take_snoc ex, List.map_append]; rfl
    simp (disch := omega) only [ite_ne, q, getK_s (mapC_get prbC ex), go_sem, ↓reduceIte, Nat.reduceEqDiff, Nat.reduceBEq, Nat.reduceAdd, Nat.reduceLeDiff, Nat.reduceLT, reduceCtorEq, Nat.reduceMul, Nat.reduceSub, Int.reduceEq, Int.reduceLT, Int.reduceLE, Int.reduceToNat]
    refine dCallR.f (fun _ hp' e => Text_ok x.t _ _) ?_
    simp (disch := omega) only [ite_ne, go_sem, ↓reduceIte, Nat.reduceEqDiff, Nat.reduceBEq, Nat.reduceAdd, Nat.reduceLeDiff, Nat.reduceLT, reduceCtorEq, Nat.reduceMul, Nat.reduceSub, Int.reduceEq, Int.reduceLT, Int.reduceLE, Int.reduceToNat]
    refine dCallR.f (fun _ hp' e => List_ok x.p (by omega) hxf.2 _ _) ?_
    simp (disch := omega) only [ite_ne, go_sem, ↓reduceIte, Nat.reduceEqDiff, Nat.reduceBEq, Nat.reduceAdd, Nat.reduceLeDiff, Nat.reduceLT, reduceCtorEq, Nat.reduceMul, Nat.reduceSub, Int.reduceEq, Int.reduceLT, Int.reduceLE, Int.reduceToNat]
    refine dCallR.f (fun _ hp' e => cobject_ok sMessage (txV x.t) sPath (liV x.p) _ _) ?_
    simp (disch := omega) only [ite_ne, oL, go_sem, ↓reduceIte, Nat.reduceEqDiff, Nat.reduceBEq, Nat.reduceAdd, Nat.reduceLeDiff, Nat.reduceLT, reduceCtorEq, Nat.reduceMul, Nat.reduceSub, Int.reduceEq, Int.reduceLT, Int.reduceLE, Int.reduceToNat]
    refine ⟨⟨by omega, by omega⟩, (j + 1, _), ⟨by dsimp only; omega, by dsimp only; omega⟩, by dsimp only; omega, weak_ok ?_ (Sub.cons ?_ (Sub.cons ?_ (Sub.cons ?_ (Sub.cons ?_ (Sub.base hf ?_))))) (Nat.le_refl _)⟩
    all_goals
      simp (disch := omega) only [ite_ne, e1, wr64s j (by omega), go_sem, ↓reduceIte, Nat.reduceEqDiff, Nat.reduceBEq, Nat.reduceAdd, Nat.reduceLeDiff, Nat.reduceLT, reduceCtorEq, Nat.reduceMul, Nat.reduceSub, Int.reduceEq, Int.reduceLT, Int.reduceLE, Int.reduceToNat]
  · have q : j = l.length := by simp at q; omega
    subst q
    rw [List.take_length]
    rw [List.take_length] at oL
    simp (disch := omega) only [ite_ne, go_sem, ↓reduceIte, Nat.reduceEqDiff, Nat.reduceBEq, Nat.reduceAdd, Nat.reduceLeDiff, Nat.reduceLT, reduceCtorEq, Nat.reduceMul, Nat.reduceSub, Int.reduceEq, Int.reduceLT, Int.reduceLE, Int.reduceToNat]
    refine wk_of (weak_shb (c := m + 2) (i := 3) (k := m + 3) (g := l.length) (len := l.length) (m := 5) (cs := [.i .i64 5, .i .i64 0, .s ⟨#[]⟩, .rw (m + 3) l.length l.length, .e0]) (l := mapC valC (l.map errV)) ?_ rfl ?_ (by rw [mapC_len]; omega)) ?_
    · simp (disch := omega) only [ite_ne, go_sem, ↓reduceIte, Nat.reduceEqDiff, Nat.reduceBEq, Nat.reduceAdd, Nat.reduceLeDiff, Nat.reduceLT, reduceCtorEq, Nat.reduceMul, Nat.reduceSub, Int.reduceEq, Int.reduceLT, Int.reduceLE, Int.reduceToNat]
    · simp (disch := omega) only [ite_ne, go_sem, ↓reduceIte, Nat.reduceEqDiff, Nat.reduceBEq, Nat.reduceAdd, Nat.reduceLeDiff, Nat.reduceLT, reduceCtorEq, Nat.reduceMul, Nat.reduceSub, Int.reduceEq, Int.reduceLT, Int.reduceLE, Int.reduceToNat]
    have ht : (mapC valC (l.map errV)).take l.length = mapC valC (l.map errV) := List.take_of_length_le (by rw [mapC_len]; omega)
    simp only [List.set_cons_succ, List.set_cons_zero, ht]
    simp (disch := omega) only [ite_ne, go_sem, ↓reduceIte, Nat.reduceEqDiff, Nat.reduceBEq, Nat.reduceAdd, Nat.reduceLeDiff, Nat.reduceLT, reduceCtorEq, Nat.reduceMul, Nat.reduceSub, Int.reduceEq, Int.reduceLT, Int.reduceLE, Int.reduceToNat]
    refine dCallR.f (fun _ hp' e => hcp _ _) ?_
    simp (disch := omega) only [ite_ne, oL, go_sem, ↓reduceIte, Nat.reduceEqDiff, Nat.reduceBEq, Nat.reduceAdd, Nat.reduceLeDiff, Nat.reduceLT, reduceCtorEq, Nat.reduceMul, Nat.reduceSub, Int.reduceEq, Int.reduceLT, Int.reduceLE, Int.reduceToNat]
    refine dCallR.f (fun _ hp' e => (cobject_ok sData data sErrors (liV (l.map errV)) _ _).cv ?_) ?_
    case refine_2 =>
      simp (disch := omega) only [ite_ne, go_sem, ↓reduceIte, Nat.reduceEqDiff, Nat.reduceBEq, Nat.reduceAdd, Nat.reduceLeDiff, Nat.reduceLT, reduceCtorEq, Nat.reduceMul, Nat.reduceSub, Int.reduceEq, Int.reduceLT, Int.reduceLE, Int.reduceToNat]
    all_goals first | rfl | simp [cvT, cvA]
theorem rResp_ok (data : Val) (hdf : data.Fit) (l : List Prb) (hl : PrbsFit l) (hp : CH) (m : Nat) : MeetsF Tryd.prog 20 hp m [vx data, .ds (mapC prbC l)] (vx (respV data l)) := by
  have hlen := hl.1
  by_cases h0 : l = []
  · subst h0
    have hR : respV data [] = obR [sData] [data] := if_pos rfl
    rw [hR]
    refine meetsF Tryd.func20 (by kernel_rfl) cc20 cr20 rfl fun hf => ?_; unfold ck20
    simp only [go_sem, ↓reduceIte, Nat.reduceEqDiff, Nat.reduceBEq, Nat.reduceAdd, Nat.reduceLeDiff, Nat.reduceLT, reduceCtorEq, Nat.reduceMul, Nat.reduceSub, Int.reduceEq, Int.reduceLT, Int.reduceLE, Int.reduceToNat]
    simp only [obR, liV, Val.k_mk, Val.n_mk, Val.s_mk, Val.items_mk, Val.keys_mk, mapC_cons, mapC_nil, valC_eq]
    rfl
  have hlp : 0 < l.length := List.length_pos_iff.2 h0
  have hR : respV data l = obR [sData, sErrors] [data, liV (l.map errV)] := if_neg h0
  rw [hR]
  have hz : (decide ((l.length : Int) = 0)) = false := by simp; omega
  refine meetsF Tryd.func20 (by kernel_rfl) cc20 cr20 rfl fun hf => ?_; unfold ck20
  simp (disch := omega) only [ite_ne, hz, go_sem, ↓reduceIte, Nat.reduceEqDiff, Nat.reduceBEq, Nat.reduceAdd, Nat.reduceLeDiff, Nat.reduceLT, reduceCtorEq, Nat.reduceMul, Nat.reduceSub, Int.reduceEq, Int.reduceLT, Int.reduceLE, Int.reduceToNat]
  refine loop (fun p : Nat × Nat => ⟨[(1, .ds (mapC prbC l)), (4, .bx (m + 1) 0), (5, .bx (m + 4) 0), (6, .bx (m + 5) 0), (7, .i .i64 p.1)],
      (m + 5, .bx [.i .i64 5, .i .i64 0, .s ⟨#[]⟩, .rw (m + 6) p.1 p.1, .e0]) :: (m + 6, .rw p.1 5 (mapC valC ((l.take p.1).map errV))) :: (m + 4, .bx [.i .i64 6, .i .i64 0, .s ⟨#[]⟩, .rw (m + 3) 0 1, .rw (m + 2) 0 1]) :: (m + 3, .rw 0 5 [[.i .i64 data.k, .i .i64 data.n, .s data.s, .ds (mapC valC data.items), .ds (stC data.keys)]]) :: (m + 2, .rw 0 1 [[.s sData]]) :: (m + 1, .bx [.i .i64 0, .i .i64 0, .s ⟨#[]⟩, .e0, .e0]) :: hp, p.2⟩)
    (fun p => p.1 ≤ l.length ∧ m + 7 ≤ p.2) (fun p => l.length - p.1) (0, m + 7) ?_ ?_ (fun ⟨j, k⟩ hj => ?_)
  · exact ⟨by simp, by simp⟩
  · refine (weak_b0 (c := m + 5) (i := 3) (m := 5) (cs := [.i .i64 5, .i .i64 0, .s ⟨#[]⟩, .e0, .e0]) ?_ rfl).trans (weak_ok ?_ (Sub.cons ?_ (Sub.cons ?_ (Sub.cons ?_ (Sub.cons ?_ (Sub.cons ?_ (Sub.cons ?_ (Sub.base hf ?_))))))) (Nat.le_refl _))
    all_goals first
      | ((simp (disch := omega) only [ite_ne, List.take_zero, List.map_nil, go_sem, ↓reduceIte, Nat.reduceEqDiff, Nat.reduceBEq, Nat.reduceAdd, Nat.reduceLeDiff, Nat.reduceLT, reduceCtorEq, Nat.reduceMul, Nat.reduceSub, Int.reduceEq, Int.reduceLT, Int.reduceLE, Int.reduceToNat])
         first | done | rfl)
  dsimp only at hj
  obtain ⟨hj1, hj2⟩ := hj
  have oL : ((l.take j).map errV).length = j := by simp; omega
  simp (disch := omega) only [ite_ne, oL, go_sem, ↓reduceIte, Nat.reduceEqDiff, Nat.reduceBEq, Nat.reduceAdd, Nat.reduceLeDiff, Nat.reduceLT, reduceCtorEq, Nat.reduceMul, Nat.reduceSub, Int.reduceEq, Int.reduceLT, Int.reduceLE, Int.reduceToNat]
  refine cdK_of (fun q => ?_) (fun q => ?_)
  · have q : j < l.length := by simpa using q
    obtain ⟨x, ex⟩ : ∃ x, l[j]? = some x := ⟨l[j], by simp [q]⟩
    have e1 : mapC valC ((l.take (j + 1)).map errV) = mapC valC ((l.take j).map errV) ++ [[.i .i64 6, .i .i64 0, .s ⟨#[]⟩, .ds [[.i .i64 3, .i .i64 0, .s x.t, .ds [], .ds []], [.i .i64 5, .i .i64 0, .s ⟨#[]⟩, .ds (mapC valC x.p), .ds []]], .ds [[.s ⟨#[109, 101, 115, 115, 97, 103, 101]⟩], [.s ⟨#[112, 97, 116, 104]⟩]]]] := by
      rw [← take_snoc ex, List.map_append, ← mapC_cat]
      congr 1
      simp only [List.map_cons, List.map_nil, errV, obR, liV, txV, mapC_cons, mapC_nil, valC_eq, Val.k_mk, Val.n_mk, Val.s_mk, Val.items_mk, Val.keys_mk]
      rfl
    simp (disch := omega) only [ite_ne, q, oL, getK_s (mapC_get prbC ex), go_sem, ↓reduceIte, Nat.reduceEqDiff, Nat.reduceBEq, Nat.reduceAdd, Nat.reduceLeDiff, Nat.reduceLT, reduceCtorEq, Nat.reduceMul, Nat.reduceSub, Int.reduceEq, Int.reduceLT, Int.reduceLE, Int.reduceToNat]
    refine ⟨by omega, by omega, (j + 1, _), ⟨by dsimp only; omega, by dsimp only; omega⟩, by dsimp only; omega, weak_ok ?_ (Sub.cons ?_ (Sub.cons ?_ (Sub.cons ?_ (Sub.cons ?_ (Sub.cons ?_ (Sub.cons ?_ (Sub.base hf ?_))))))) (Nat.le_refl _)⟩
    all_goals
      simp (disch := omega) only [ite_ne, e1, wr64s j (by omega), go_sem, ↓reduceIte, Nat.reduceEqDiff, Nat.reduceBEq, Nat.reduceAdd, Nat.reduceLeDiff, Nat.reduceLT, reduceCtorEq, Nat.reduceMul, Nat.reduceSub, Int.reduceEq, Int.reduceLT, Int.reduceLE, Int.reduceToNat]
      try rfl
  · have q : j = l.length := by simp at q; omega
    subst q
    rw [List.take_length]
    rw [List.take_length] at oL
    simp (disch := omega) only [ite_ne, oL, go_sem, ↓reduceIte, Nat.reduceEqDiff, Nat.reduceBEq, Nat.reduceAdd, Nat.reduceLeDiff, Nat.reduceLT, reduceCtorEq, Nat.reduceMul, Nat.reduceSub, Int.reduceEq, Int.reduceLT, Int.reduceLE, Int.reduceToNat]
    have ht : (l.map errV).take l.length = l.map errV := List.take_of_length_le (by omega)
    simp only [obR, liV, Val.k_mk, Val.n_mk, Val.s_mk, Val.items_mk, Val.keys_mk, mapC_cons, mapC_nil, valC_eq]
    rw [ht]
    rfl
theorem rLeafV_ok (doc : List Dfn) (hd : DocOk doc) (n : ByteArray) (v : Val) (h0 : -9223372036854775808 ≤ v.n) (h1 : v.n ≤ 9223372036854775807) (hp : CH) (m : Nat) : MeetsF Tryd.prog 18 hp m [docx doc, .s n, vx v] (oV (leafC doc n v)) := by
  unfold oV
  obtain ⟨R, hR⟩ : ∃ R, leafC doc n v = R := ⟨_, rfl⟩
  rw [hR]
  have hf1 := rFind_ok' doc hd.len n
  have hg := hd.g n
  have hk : kindD doc n = ((findD' doc n).getD zDf).k := by
    unfold kindD
    cases findD' doc n <;> rfl
  have hno : (findD' doc n).isSome = false → ((findD' doc n).getD zDf).k = 0 := by
    cases findD' doc n <;> simp [zDf, Dfn.k_mk]
  unfold leafC at hR
  rw [hk] at hR
  unfold resD at hf1
  obtain ⟨t, ht⟩ : ∃ t, (findD' doc n).getD zDf = t := ⟨_, rfl⟩
  obtain ⟨s, hs⟩ : ∃ s, (findD' doc n).isSome = s := ⟨_, rfl⟩
  rw [ht, hs] at hf1 hno
  rw [ht] at hg hR
  obtain ⟨g1, g2, g3⟩ := hg
  have hsc := rScalar_ok n
  have i1 : scalB sInt = true := by decide
  have i2 : scalB sString = true := by decide
  have i3 : scalB sID = true := by decide
  have i4 : scalB sBoolean = true := by decide
  refine meetsF Tryd.func18 (by kernel_rfl) cc18 cr18 rfl fun hf => ?_; unfold ck18
  simp only [go_sem, ↓reduceIte, Nat.reduceEqDiff, Nat.reduceBEq, Nat.reduceAdd, Nat.reduceLeDiff, Nat.reduceLT, reduceCtorEq, Nat.reduceMul, Nat.reduceSub, Int.reduceEq, Int.reduceLT, Int.reduceLE, Int.reduceToNat]
  refine cdK_of (fun c => ?_) (fun c => ?_)
  · have c : n = sInt ∧ v.k = 2 ∧ -2147483648 ≤ v.n ∧ v.n ≤ 2147483647 := by
      have : n = sInt ∧ v.k = 2 ∧ -2147483648 ≤ v.n ∧ v.n < 2147483648 := by simpa [sInt, and_assoc] using c
      exact ⟨this.1, this.2.1, this.2.2.1, by omega⟩
    rw [c.1, if_pos i1, scaC, if_pos ⟨rfl, c.2⟩] at hR
    subst hR
    simp only [go_sem, ↓reduceIte, Nat.reduceEqDiff, Nat.reduceBEq, Nat.reduceAdd, Nat.reduceLeDiff, Nat.reduceLT, reduceCtorEq, Nat.reduceMul, Nat.reduceSub, Int.reduceEq, Int.reduceLT, Int.reduceLE, Int.reduceToNat]
    rfl
  have ca : ¬ (n = sInt ∧ v.k = 2 ∧ -2147483648 ≤ v.n ∧ v.n ≤ 2147483647) := by
    intro h
    have h4 : v.n < 2147483648 := by omega
    simp only [sInt] at h
    simp [h.1, h.2.1, h.2.2.1, h4] at c
  clear c
  simp only [go_sem, ↓reduceIte, Nat.reduceEqDiff, Nat.reduceBEq, Nat.reduceAdd, Nat.reduceLeDiff, Nat.reduceLT, reduceCtorEq, Nat.reduceMul, Nat.reduceSub, Int.reduceEq, Int.reduceLT, Int.reduceLE, Int.reduceToNat]
  refine cdK_of (fun c => ?_) (fun c => ?_)
  · simp (disch := omega) only [ite_ne, c, go_sem, ↓reduceIte, Nat.reduceEqDiff, Nat.reduceBEq, Nat.reduceAdd, Nat.reduceLeDiff, Nat.reduceLT, reduceCtorEq, Nat.reduceMul, Nat.reduceSub, Int.reduceEq, Int.reduceLT, Int.reduceLE, Int.reduceToNat]
    have c : n = sString ∧ v.k = 3 := by simpa [sString] using c
    rw [c.1, if_pos i2, scaC, if_neg (by rw [← c.1]; exact ca), if_pos ⟨.inl rfl, c.2⟩] at hR
    subst hR
    try rfl
  have cb : ¬ (n = sString ∧ v.k = 3) := by
    intro h
    simp only [sString] at h
    simp [h.1, h.2] at c
  simp only [go_sem, ↓reduceIte, Nat.reduceEqDiff, Nat.reduceBEq, Nat.reduceAdd, Nat.reduceLeDiff, Nat.reduceLT, reduceCtorEq, Nat.reduceMul, Nat.reduceSub, Int.reduceEq, Int.reduceLT, Int.reduceLE, Int.reduceToNat]
  refine cdK_of (fun c => ?_) (fun c => ?_)
  · have c : n = sID ∧ v.k = 3 := by simpa [sID] using c
    rw [c.1, if_pos i3, scaC, if_neg (by rw [← c.1]; exact ca), if_pos ⟨.inr rfl, c.2⟩] at hR
    subst hR
    simp only [go_sem, ↓reduceIte, Nat.reduceEqDiff, Nat.reduceBEq, Nat.reduceAdd, Nat.reduceLeDiff, Nat.reduceLT, reduceCtorEq, Nat.reduceMul, Nat.reduceSub, Int.reduceEq, Int.reduceLT, Int.reduceLE, Int.reduceToNat]
    try rfl
  have cc : ¬ (n = sID ∧ v.k = 3) := by
    intro h
    simp only [sID] at h
    simp [h.1, h.2] at c
  simp only [go_sem, ↓reduceIte, Nat.reduceEqDiff, Nat.reduceBEq, Nat.reduceAdd, Nat.reduceLeDiff, Nat.reduceLT, reduceCtorEq, Nat.reduceMul, Nat.reduceSub, Int.reduceEq, Int.reduceLT, Int.reduceLE, Int.reduceToNat]
  refine cdK_of (fun c => ?_) (fun c => ?_)
  · have c : n = sBoolean ∧ v.k = 1 := by simpa [sBoolean] using c
    have d1 : ¬ ((sBoolean = sString ∨ sBoolean = sID) ∧ v.k = 3) := fun h => by rw [c.2] at h; exact absurd h.2 (by decide)
    have d2 : ¬ (sBoolean = sID ∧ v.k = 2) := fun h => by rw [c.2] at h; exact absurd h.2 (by decide)
    rw [c.1, if_pos i4, scaC, if_neg (by rw [← c.1]; exact ca), if_neg d1, if_neg d2, if_pos ⟨rfl, c.2⟩] at hR
    subst hR
    simp only [go_sem, ↓reduceIte, Nat.reduceEqDiff, Nat.reduceBEq, Nat.reduceAdd, Nat.reduceLeDiff, Nat.reduceLT, reduceCtorEq, Nat.reduceMul, Nat.reduceSub, Int.reduceEq, Int.reduceLT, Int.reduceLE, Int.reduceToNat]
    try rfl
  have cd : ¬ (n = sBoolean ∧ v.k = 1) := by
    intro h
    simp only [sBoolean] at h
    simp [h.1, h.2] at c
  simp only [go_sem, ↓reduceIte, Nat.reduceEqDiff, Nat.reduceBEq, Nat.reduceAdd, Nat.reduceLeDiff, Nat.reduceLT, reduceCtorEq, Nat.reduceMul, Nat.reduceSub, Int.reduceEq, Int.reduceLT, Int.reduceLE, Int.reduceToNat]
  refine cdK_of (fun c => ?_) (fun c => ?_)
  · have c : n = sID ∧ v.k = 2 := by simpa [sID] using c
    have d1 : ¬ ((sID = sString ∨ sID = sID) ∧ v.k = 3) := fun h => by rw [c.2] at h; exact absurd h.2 (by decide)
    rw [c.1, if_pos i3, scaC, if_neg (by rw [← c.1]; exact ca), if_neg d1, if_pos ⟨rfl, c.2⟩] at hR
    subst hR
    simp only [go_sem, ↓reduceIte, Nat.reduceEqDiff, Nat.reduceBEq, Nat.reduceAdd, Nat.reduceLeDiff, Nat.reduceLT, reduceCtorEq, Nat.reduceMul, Nat.reduceSub, Int.reduceEq, Int.reduceLT, Int.reduceLE, Int.reduceToNat]
    refine vcCall.f (rDecimal_ok v.n h0 h1 _ _) ?_
    simp only [go_sem, ↓reduceIte, Nat.reduceEqDiff, Nat.reduceBEq, Nat.reduceAdd, Nat.reduceLeDiff, Nat.reduceLT, reduceCtorEq, Nat.reduceMul, Nat.reduceSub, Int.reduceEq, Int.reduceLT, Int.reduceLE, Int.reduceToNat]
    try rfl
  have ce : ¬ (n = sID ∧ v.k = 2) := by
    intro h
    simp only [sID] at h
    simp [h.1, h.2] at c
  have hsN : scaC n v = none := by
    rw [scaC, if_neg ca, if_neg (fun h => by rcases h with ⟨h | h, h2⟩; exact cb ⟨h, h2⟩; exact cc ⟨h, h2⟩), if_neg ce, if_neg cd]
  rw [hsN] at hR
  simp only [go_sem, ↓reduceIte, Nat.reduceEqDiff, Nat.reduceBEq, Nat.reduceAdd, Nat.reduceLeDiff, Nat.reduceLT, reduceCtorEq, Nat.reduceMul, Nat.reduceSub, Int.reduceEq, Int.reduceLT, Int.reduceLE, Int.reduceToNat]
  refine vcCall.f (hf1 _ _) ?_
  simp only [go_sem, ↓reduceIte, Nat.reduceEqDiff, Nat.reduceBEq, Nat.reduceAdd, Nat.reduceLeDiff, Nat.reduceLT, reduceCtorEq, Nat.reduceMul, Nat.reduceSub, Int.reduceEq, Int.reduceLT, Int.reduceLE, Int.reduceToNat]
  refine vcCall.f (hsc _ _) ?_
  simp only [go_sem, ↓reduceIte, Nat.reduceEqDiff, Nat.reduceBEq, Nat.reduceAdd, Nat.reduceLeDiff, Nat.reduceLT, reduceCtorEq, Nat.reduceMul, Nat.reduceSub, Int.reduceEq, Int.reduceLT, Int.reduceLE, Int.reduceToNat]
  refine cdK_of (fun c => ?_) (fun c => ?_)
  · have hRn : R = none := by
      rw [← hR]
      by_cases h1 : scalB n = true
      · rw [if_pos h1]
      · rw [if_neg h1]
        refine if_neg fun h => ?_
        have h1' : scalB n = false := by simpa using h1
        have hs1 : s = true := by
          cases hs2 : s with
          | true => rfl
          | false => have := hno hs2; rw [h.1] at this; exact absurd this (by decide)
        simp [h1', hs1, h.1, h.2.1] at c
    subst hRn
    simp only [go_sem, ↓reduceIte, Nat.reduceEqDiff, Nat.reduceBEq, Nat.reduceAdd, Nat.reduceLeDiff, Nat.reduceLT, reduceCtorEq, Nat.reduceMul, Nat.reduceSub, Int.reduceEq, Int.reduceLT, Int.reduceLE, Int.reduceToNat]
    try rfl
  have c : scalB n = false ∧ s = true ∧ t.k = 4 ∧ v.k = 4 := by simpa [and_assoc] using c
  have hR2 : R = if v.s ∈ unM t.members then some (enV v.s) else none := by
    rw [← hR]
    simp [c.1, c.2.2.1, c.2.2.2]
  have hR := hR2.symm
  have hml : ∀ e ∈ t.members, e.length = 2 := fun e he => by obtain ⟨x, y, rfl⟩ := g1.mem e he; rfl
  have hml := eq_true hml
  simp only [go_sem, ↓reduceIte, Nat.reduceEqDiff, Nat.reduceBEq, Nat.reduceAdd, Nat.reduceLeDiff, Nat.reduceLT, reduceCtorEq, Nat.reduceMul, Nat.reduceSub, Int.reduceEq, Int.reduceLT, Int.reduceLE, Int.reduceToNat]
  refine loop (fun p : Nat × Nat => ⟨[(5, .bx (m + 1) 0), (6, .bx (m + 2) 0), (8, .bx (m + 3) 0), (10, .i .i64 p.1)], (m + 3, .bx [.i .i64 t.k, .s t.n, .ds t.impl, .ds t.dirs, .ds (mapC fldC t.fields), .ds t.members, .ds t.inputs]) :: (m + 2, .bx [.i .i64 0, .i .i64 0, .s ⟨#[]⟩, .e0, .e0]) :: (m + 1, .bx [.i .i64 v.k, .i .i64 v.n, .s v.s, .ds (mapC valC v.items), .ds (stC v.keys)]) :: hp, p.2⟩)
    (fun p => p.1 ≤ t.members.length ∧ m + 4 ≤ p.2 ∧ (if v.s ∈ unM (t.members.drop p.1) then some (enV v.s) else none) = R) (fun p => t.members.length - p.1) (0, m + 4) ?_ ?_ (fun ⟨j, k⟩ hj => ?_)
  · exact ⟨by simp, by simp, hR⟩
  · refine weak_ok ?_ (Sub.cons ?_ (Sub.cons ?_ (Sub.cons ?_ (Sub.base hf ?_)))) (Nat.le_refl _)
    all_goals (simp (disch := omega) only [ite_ne, go_sem, ↓reduceIte, Nat.reduceEqDiff, Nat.reduceBEq, Nat.reduceAdd, Nat.reduceLeDiff, Nat.reduceLT, reduceCtorEq, Nat.reduceMul, Nat.reduceSub, Int.reduceEq, Int.reduceLT, Int.reduceLE, Int.reduceToNat])
  dsimp only at hj
  obtain ⟨hj1, hj2, hj3⟩ := hj
  simp (disch := omega) only [ite_ne, go_sem, ↓reduceIte, Nat.reduceEqDiff, Nat.reduceBEq, Nat.reduceAdd, Nat.reduceLeDiff, Nat.reduceLT, reduceCtorEq, Nat.reduceMul, Nat.reduceSub, Int.reduceEq, Int.reduceLT, Int.reduceLE, Int.reduceToNat]
  refine cdK_of (fun q => ?_) (fun q => ?_)
  · have q : j < t.members.length := by simpa using q
    obtain ⟨e, ee⟩ : ∃ e, t.members[j]? = some e := ⟨t.members[j], by simp [q]⟩
    obtain ⟨x, y, rfl⟩ := g1.mem e (List.mem_of_getElem? ee)
    rw [drop_at ee] at hj3
    have hj3 : (if v.s ∈ x :: unM (t.members.drop (j + 1)) then some (enV v.s) else none) = R := hj3
    simp (disch := omega) only [ite_ne, q, hml, getK_s ee, go_sem, ↓reduceIte, Nat.reduceEqDiff, Nat.reduceBEq, Nat.reduceAdd, Nat.reduceLeDiff, Nat.reduceLT, reduceCtorEq, Nat.reduceMul, Nat.reduceSub, Int.reduceEq, Int.reduceLT, Int.reduceLE, Int.reduceToNat]
    refine cdK_of (fun c1 => ?_) (fun c1 => ?_)
    · have c1 : x = v.s := by simpa using c1
      rw [if_pos (by simp [c1])] at hj3
      subst hj3
      simp (disch := omega) only [ite_ne, go_sem, ↓reduceIte, Nat.reduceEqDiff, Nat.reduceBEq, Nat.reduceAdd, Nat.reduceLeDiff, Nat.reduceLT, reduceCtorEq, Nat.reduceMul, Nat.reduceSub, Int.reduceEq, Int.reduceLT, Int.reduceLE, Int.reduceToNat]
      try rfl
    · have c1 : ¬ x = v.s := by simpa using c1
      have c2 : ¬ v.s = x := fun e => c1 e.symm
      simp (disch := omega) only [ite_ne, go_sem, ↓reduceIte, Nat.reduceEqDiff, Nat.reduceBEq, Nat.reduceAdd, Nat.reduceLeDiff, Nat.reduceLT, reduceCtorEq, Nat.reduceMul, Nat.reduceSub, Int.reduceEq, Int.reduceLT, Int.reduceLE, Int.reduceToNat]
      refine ⟨(j + 1, _), ⟨by dsimp only; omega, by dsimp only; omega, by rw [← hj3]; simp [c2]⟩, by dsimp only; omega, weak_ok ?_ (Sub.cons ?_ (Sub.cons ?_ (Sub.cons ?_ (Sub.base hf ?_)))) (Nat.le_refl _)⟩
      all_goals
        simp (disch := omega) only [ite_ne, wr64s j (by omega), go_sem, ↓reduceIte, Nat.reduceEqDiff, Nat.reduceBEq, Nat.reduceAdd, Nat.reduceLeDiff, Nat.reduceLT, reduceCtorEq, Nat.reduceMul, Nat.reduceSub, Int.reduceEq, Int.reduceLT, Int.reduceLE, Int.reduceToNat]
  · have q : j = t.members.length := by simp at q; omega
    subst q
    rw [List.drop_length, if_neg (by simp [unM])] at hj3
    subst hj3
    simp (disch := omega) only [ite_ne, go_sem, ↓reduceIte, Nat.reduceEqDiff, Nat.reduceBEq, Nat.reduceAdd, Nat.reduceLeDiff, Nat.reduceLT, reduceCtorEq, Nat.reduceMul, Nat.reduceSub, Int.reduceEq, Int.reduceLT, Int.reduceLE, Int.reduceToNat]
    try rfl
end Go.Proofs.YtgollgfifnmaaaaDoor
