/-
  The parts CmF of the proof, in one file. Conditions: none.
-/
import Derived.Test.YtgollgfifnmaaaaDoorCmP135
namespace Go.Proofs.YtgollgfifnmaaaaDoor
open Go.Eng
set_option linter.unusedVariables false
set_option linter.unusedSimpArgs false
set_option maxRecDepth 20000
set_option maxHeartbeats 1000000
theorem ix_mem' (k : ByteArray) : ∀ (l : List ByteArray) (j : Nat), decide (0 ≤ ix k l j) = decide (k ∈ l)
  | [], j => by simp [ix]
  | x :: l, j => by
    rw [ix]
    by_cases c : k = x
    · rw [if_pos c]
      subst c
      have : (0 : Int) ≤ (j : Int) := Int.natCast_nonneg _
      simp [this]
    · rw [if_neg c, ix_mem' k l (j + 1)]
      simp [c]
structure DocOk (doc : List Dfn) : Prop where
  ok : ∀ t ∈ doc, DefOk t
  im : ∀ t ∈ doc, t.impl.length ≤ 10000000000000
  me : ∀ t ∈ doc, t.members.length ≤ 10000000000000
  len : doc.length ≤ 1000000000000
theorem zDf_ok : DefOk zDf := ⟨rfl, fun e h => by simp [zDf, Dfn.members_mk] at h⟩
theorem findD_mem {l : List Dfn} {n : ByteArray} {t : Dfn} (h : findD' l n = some t) : t ∈ l := List.mem_of_find?_eq_some h
theorem DocOk.g {doc : List Dfn} (h : DocOk doc) (n : ByteArray) : DefOk ((findD' doc n).getD zDf) ∧ ((findD' doc n).getD zDf).impl.length ≤ 10000000000000 ∧ ((findD' doc n).getD zDf).members.length ≤ 10000000000000 := by
  cases e : findD' doc n with
  | none => exact ⟨zDf_ok, by simp [zDf, Dfn.impl_mk], by simp [zDf, Dfn.members_mk]⟩
  | some t => exact ⟨h.ok t (findD_mem e), h.im t (findD_mem e), h.me t (findD_mem e)⟩
theorem tImpl_ok (t : Dfn) (ht : DefOk t) (hl : t.impl.length ≤ 10000000000000) (n : ByteArray) (hp : CH) (m : Nat) : MeetsF Tryd.prog 69 hp m [dfx t, .s n] (.b (decide (n ∈ unS t.impl))) := by
  have h1 := contains_ok (unS t.impl) n (by rw [ht.impl] at hl; simp [mapC] at hl; omega)
  rw [← ht.impl, ix_mem'] at h1
  refine meetsF Tryd.func69 (by kernel_rfl) cc69 cr69 rfl fun hf => ?_; unfold ck69
  simp only [go_sem, ↓reduceIte, Nat.reduceEqDiff, Nat.reduceBEq, Nat.reduceAdd, Nat.reduceLeDiff, Nat.reduceLT, reduceCtorEq, Nat.reduceMul, Nat.reduceSub, Int.reduceEq, Int.reduceLT, Int.reduceLE, Int.reduceToNat]
  refine vcCall.f (h1 _ _) ?_
  simp only [go_sem, ↓reduceIte, Nat.reduceEqDiff, Nat.reduceBEq, Nat.reduceAdd, Nat.reduceLeDiff, Nat.reduceLT, reduceCtorEq, Nat.reduceMul, Nat.reduceSub, Int.reduceEq, Int.reduceLT, Int.reduceLE, Int.reduceToNat]
noncomputable def mayS (doc : List Dfn) (t : Dfn) (name : ByteArray) (sn : List ByteArray) (b : ByteArray) : Bool := may0 doc t name b && !(decide (b ∈ sn) && badT doc t name b)
theorem mayS_nil (doc : List Dfn) (t : Dfn) (name b : ByteArray) : mayS doc t name [] b = may0 doc t name b := by simp [mayS]
theorem badT_eq (doc : List Dfn) (t : Dfn) (name b : ByteArray) : badT doc t name b = (!(findD' doc b).isSome || (decide (((findD' doc b).getD zDf).k ≠ 1) || (decide (t.k = 2) && !decide (name ∈ unS ((findD' doc b).getD zDf).impl)))) := by
  unfold badT
  cases findD' doc b <;> simp
theorem lk_t {Q : ByteArray → Bool} {L : ME} (h : InM Q L) {b : ByteArray} (c : Q b = true) : mfind b L = some (.b true) := by rw [h.2 b, if_pos c]
theorem lk_f {Q : ByteArray → Bool} {L : ME} (h : InM Q L) {b : ByteArray} (c : ¬ Q b = true) : mfind b L = none := by rw [h.2 b, if_neg c]
theorem pos_ok (doc : List Dfn) (hd : DocOk doc) (name : ByteArray) (hp : CH) (m : Nat) : MeetsF Tryd.prog 51 hp m [docx doc, .s name] (.ds (stC (posL doc name))) := by
  have h1 := tFind_ok doc hd.len name
  have hg := hd.g name
  have hlen := hd.len
  rw [← posW_eq]
  unfold resD at h1
  obtain ⟨t, ht⟩ : ∃ t, (findD' doc name).getD zDf = t := ⟨_, rfl⟩
  rw [ht] at h1 hg ⊢
  obtain ⟨R, hR⟩ : ∃ R, posW (mayT doc t name) [] doc = R := ⟨_, rfl⟩
  rw [hR]
  obtain ⟨g1, g2, g3⟩ := hg
  refine meetsF Tryd.func51 (by kernel_rfl) cc51 cr51 rfl fun hf => ?_; unfold ck51
  simp only [go_sem, ↓reduceIte, Nat.reduceEqDiff, Nat.reduceBEq, Nat.reduceAdd, Nat.reduceLeDiff, Nat.reduceLT, reduceCtorEq, Nat.reduceMul, Nat.reduceSub, Int.reduceEq, Int.reduceLT, Int.reduceLE, Int.reduceToNat]
  refine vcCall.f (h1 _ _) ?_
  simp only [go_sem, ↓reduceIte, Nat.reduceEqDiff, Nat.reduceBEq, Nat.reduceAdd, Nat.reduceLeDiff, Nat.reduceLT, reduceCtorEq, Nat.reduceMul, Nat.reduceSub, Int.reduceEq, Int.reduceLT, Int.reduceLE, Int.reduceToNat]
  refine cdK_of (fun c1 => ?_) (fun c1 => ?_)
  · have c1 : t.k = 1 := by simpa using c1
    have hI : InM (may0 doc t name) (mput name (.b true) []) := InM.nil.put name fun b => by simp [may0, c1]
    obtain ⟨L, hL⟩ : ∃ L, mput name (AV.b true) [] = L := ⟨_, rfl⟩
    rw [hL] at hI
    have hL2 : [(name, AV.b true)] = L := by rw [← hL]; rfl
    simp (disch := omega) only [ite_ne, hL2, go_sem, ↓reduceIte, Nat.reduceEqDiff, Nat.reduceBEq, Nat.reduceAdd, Nat.reduceLeDiff, Nat.reduceLT, reduceCtorEq, Nat.reduceMul, Nat.reduceSub, Int.reduceEq, Int.reduceLT, Int.reduceLE, Int.reduceToNat]
    refine loop (fun p : (ME × List ByteArray) × Nat => ⟨[(1, .s name), (2, .bx m 0), (5, .bx (m + 1) 0), (7, .mp (m + 2)), (61, .mi (m + 2))], (m + 2, .mr p.1.1 p.1.2) :: (m, .bx [.ds (mapC dfC doc)]) :: (m + 1, .bx [.i .i64 t.k, .s t.n, .ds t.impl, .ds t.dirs, .ds (mapC fldC t.fields), .ds t.members, .ds t.inputs]) :: hp, p.2⟩)
      (fun p => m + 3 ≤ p.2 ∧ InM (mayS doc t name p.1.2) p.1.1) (fun p => unseen p.1.1 p.1.2) ((L, []), m + 3) ?_ ?_ (fun ⟨⟨L, sn⟩, k⟩ hj => ?_)
    · exact ⟨by dsimp only; omega, hI.ext (mayS_nil doc t name)⟩
    · refine weak_ok ?_ (Sub.cons ?_ (Sub.cons ?_ (Sub.cons ?_ (Sub.base hf ?_)))) (Nat.le_refl _)
      all_goals (simp (disch := omega) only [ite_ne, go_sem, ↓reduceIte, Nat.reduceEqDiff, Nat.reduceBEq, Nat.reduceAdd, Nat.reduceLeDiff, Nat.reduceLT, reduceCtorEq, Nat.reduceMul, Nat.reduceSub, Int.reduceEq, Int.reduceLT, Int.reduceLE, Int.reduceToNat])
    dsimp only at hj
    obtain ⟨hj1, hj2⟩ := hj
    simp (disch := omega) only [ite_ne, go_sem, ↓reduceIte, Nat.reduceEqDiff, Nat.reduceBEq, Nat.reduceAdd, Nat.reduceLeDiff, Nat.reduceLT, reduceCtorEq, Nat.reduceMul, Nat.reduceSub, Int.reduceEq, Int.reduceLT, Int.reduceLE, Int.reduceToNat]
    refine mx_of (fun hall => ?_) (fun j b α hb hns => ?_)
    · have hI3 : InM (mayT doc t name) L := hj2.ext fun b => by
        unfold mayS mayT
        cases c : may0 doc t name b with
        | false => simp
        | true =>
          by_cases hs : b ∈ sn
          · simp [hs]
          · have : badT doc t name b = false ∨ True := .inr trivial
            have hq : mayS doc t name sn b = true := by simp [mayS, c, hs]
            exact absurd (hall _ (hj2.mem hq)) hs
      simp (disch := omega) only [ite_ne, go_sem, ↓reduceIte, Nat.reduceEqDiff, Nat.reduceBEq, Nat.reduceAdd, Nat.reduceLeDiff, Nat.reduceLT, reduceCtorEq, Nat.reduceMul, Nat.reduceSub, Int.reduceEq, Int.reduceLT, Int.reduceLE, Int.reduceToNat]
      refine loop (fun p : (Nat × ME × List ByteArray) × Nat => ⟨[(7, .mp (m + 2)), (15, .rw k p.1.2.2.length p.1.2.2.length), (93, .ds (mapC dfC doc)), (94, .i .i64 doc.length), (95, .i .i64 p.1.1)], (k, .rw p.1.2.2.length 1 (stC p.1.2.2)) :: (m + 2, .mr p.1.2.1 sn) :: hp, p.2⟩)
        (fun p => p.1.1 ≤ doc.length ∧ k + 1 ≤ p.2 ∧ p.1.2.2.length ≤ p.1.1 ∧ InM (fun b => mayT doc t name b && !decide (b ∈ p.1.2.2)) p.1.2.1 ∧ R = posW (mayT doc t name) p.1.2.2 (doc.drop p.1.1)) (fun p => doc.length - p.1.1) ((0, L, []), k + 1) ?_ ?_ (fun ⟨⟨j, L, o⟩, n⟩ hi => ?_)
      · exact ⟨by simp, by simp, by simp, hI3.ext fun b => by simp, hR.symm⟩
      · refine (weak_e0 (t := 15) (m := 1) ?_).trans (weak_ok ?_ (Sub.cons ?_ (Sub.cons ?_ (Sub.base hf ?_))) (Nat.le_refl _))
        all_goals (simp (disch := omega) only [ite_ne, go_sem, ↓reduceIte, Nat.reduceEqDiff, Nat.reduceBEq, Nat.reduceAdd, Nat.reduceLeDiff, Nat.reduceLT, reduceCtorEq, Nat.reduceMul, Nat.reduceSub, Int.reduceEq, Int.reduceLT, Int.reduceLE, Int.reduceToNat])
      dsimp only at hi
      obtain ⟨hi1, hi2, hi3, hi4, hi5⟩ := hi
      simp (disch := omega) only [ite_ne, go_sem, ↓reduceIte, Nat.reduceEqDiff, Nat.reduceBEq, Nat.reduceAdd, Nat.reduceLeDiff, Nat.reduceLT, reduceCtorEq, Nat.reduceMul, Nat.reduceSub, Int.reduceEq, Int.reduceLT, Int.reduceLE, Int.reduceToNat]
      refine cdK_of (fun q => ?_) (fun q => ?_)
      · have q : j < doc.length := by simpa using q
        obtain ⟨x, ex⟩ : ∃ x, doc[j]? = some x := ⟨doc[j], by simp [q]⟩
        rw [drop_at ex, posW] at hi5
        by_cases c : mayT doc t name x.n = true ∧ x.n ∉ o
        · rw [if_pos c] at hi5
          have hl := lk_t hi4 (b := x.n) (by simp [c.1, c.2])
          have hg : mapC st1 o ++ [[AV.s x.n]] = mapC st1 (o ++ [x.n]) := mapC_snoc st1 o x.n
          simp (disch := omega) only [ite_ne, q, getK_s (mapC_get dfC ex), hl, go_sem, ↓reduceIte, Nat.reduceEqDiff, Nat.reduceBEq, Nat.reduceAdd, Nat.reduceLeDiff, Nat.reduceLT, reduceCtorEq, Nat.reduceMul, Nat.reduceSub, Int.reduceEq, Int.reduceLT, Int.reduceLE, Int.reduceToNat]
          refine ⟨by omega, by omega, ((j + 1, mdel x.n L, o ++ [x.n]), _), ⟨by dsimp only; omega, by dsimp only; omega, by simp; omega, hi4.del x.n fun b => ?_, hi5⟩, by dsimp only; omega, weak_ok ?_ (Sub.cons ?_ (Sub.cons ?_ (Sub.base hf ?_))) (Nat.le_refl _)⟩
          · by_cases e : b = x.n <;> simp [e]
          all_goals
            simp (disch := omega) only [ite_ne, wr64s j (by omega), List.length_append, List.length_cons, List.length_nil, go_sem, ↓reduceIte, Nat.reduceEqDiff, Nat.reduceBEq, Nat.reduceAdd, Nat.reduceLeDiff, Nat.reduceLT, reduceCtorEq, Nat.reduceMul, Nat.reduceSub, Int.reduceEq, Int.reduceLT, Int.reduceLE, Int.reduceToNat]
        · rw [if_neg c] at hi5
          have hl := lk_f hi4 (b := x.n) (by simpa using c)
          simp (disch := omega) only [ite_ne, q, getK_s (mapC_get dfC ex), hl, go_sem, ↓reduceIte, Nat.reduceEqDiff, Nat.reduceBEq, Nat.reduceAdd, Nat.reduceLeDiff, Nat.reduceLT, reduceCtorEq, Nat.reduceMul, Nat.reduceSub, Int.reduceEq, Int.reduceLT, Int.reduceLE, Int.reduceToNat]
          refine ⟨((j + 1, L, o), _), ⟨by dsimp only; omega, by dsimp only; omega, by dsimp only; omega, hi4, hi5⟩, by dsimp only; omega, weak_ok ?_ (Sub.cons ?_ (Sub.cons ?_ (Sub.base hf ?_))) (Nat.le_refl _)⟩
          all_goals
            simp (disch := omega) only [ite_ne, wr64s j (by omega), go_sem, ↓reduceIte, Nat.reduceEqDiff, Nat.reduceBEq, Nat.reduceAdd, Nat.reduceLeDiff, Nat.reduceLT, reduceCtorEq, Nat.reduceMul, Nat.reduceSub, Int.reduceEq, Int.reduceLT, Int.reduceLE, Int.reduceToNat]
      · have q : j = doc.length := by simp at q; omega
        subst q
        rw [List.drop_length, posW] at hi5
        subst hi5
        simp (disch := omega) only [ite_ne, go_sem, ↓reduceIte, Nat.reduceEqDiff, Nat.reduceBEq, Nat.reduceAdd, Nat.reduceLeDiff, Nat.reduceLT, reduceCtorEq, Nat.reduceMul, Nat.reduceSub, Int.reduceEq, Int.reduceLT, Int.reduceLE, Int.reduceToNat]
    · have hm := List.mem_of_getElem? hb
      obtain ⟨hq, rfl⟩ := hj2.get hm
      have hf1 := tFind_ok doc hd.len b
      have hg1 := hd.g b
      have hbad := badT_eq doc t name b
      unfold resD at hf1
      obtain ⟨o, ho⟩ : ∃ o, (findD' doc b).getD zDf = o := ⟨_, rfl⟩
      obtain ⟨s, hs⟩ : ∃ s, (findD' doc b).isSome = s := ⟨_, rfl⟩
      rw [ho] at hf1 hg1 hbad
      rw [hs] at hf1 hbad
      have hlt := unseen_lt hm hns
      have hdl := unseen_del L (sn ++ [b]) b
      simp (disch := omega) only [ite_ne, go_sem, ↓reduceIte, Nat.reduceEqDiff, Nat.reduceBEq, Nat.reduceAdd, Nat.reduceLeDiff, Nat.reduceLT, reduceCtorEq, Nat.reduceMul, Nat.reduceSub, Int.reduceEq, Int.reduceLT, Int.reduceLE, Int.reduceToNat]
      refine me_of (by simp) (mfind_get hj2.1 hm) ?_
      simp (disch := omega) only [ite_ne, go_sem, ↓reduceIte, Nat.reduceEqDiff, Nat.reduceBEq, Nat.reduceAdd, Nat.reduceLeDiff, Nat.reduceLT, reduceCtorEq, Nat.reduceMul, Nat.reduceSub, Int.reduceEq, Int.reduceLT, Int.reduceLE, Int.reduceToNat]
      refine vcCall.f (hf1 _ _) ?_
      simp (disch := omega) only [ite_ne, go_sem, ↓reduceIte, Nat.reduceEqDiff, Nat.reduceBEq, Nat.reduceAdd, Nat.reduceLeDiff, Nat.reduceLT, reduceCtorEq, Nat.reduceMul, Nat.reduceSub, Int.reduceEq, Int.reduceLT, Int.reduceLE, Int.reduceToNat]
      refine gCall.f (fun _ => tImpl_ok o hg1.1 hg1.2.1 name _ _) ?_
      simp (disch := omega) only [ite_ne, go_sem, ↓reduceIte, Nat.reduceEqDiff, Nat.reduceBEq, Nat.reduceAdd, Nat.reduceLeDiff, Nat.reduceLT, reduceCtorEq, Nat.reduceMul, Nat.reduceSub, Int.reduceEq, Int.reduceLT, Int.reduceLE, Int.reduceToNat]
      refine cdK_of (fun c => ?_) (fun c => ?_)
      · have hb : badT doc t name b = true := by rw [hbad]; revert c; cases s <;> simp <;> first | done | (intro h; first | exact h | (rcases h with h | h; exact .inl h; exact .inr h))
        simp (disch := omega) only [ite_ne, go_sem, ↓reduceIte, Nat.reduceEqDiff, Nat.reduceBEq, Nat.reduceAdd, Nat.reduceLeDiff, Nat.reduceLT, reduceCtorEq, Nat.reduceMul, Nat.reduceSub, Int.reduceEq, Int.reduceLT, Int.reduceLE, Int.reduceToNat]
        refine ⟨((mdel b L, sn ++ [b]), _), ⟨by dsimp only; omega, hj2.del b fun x => ?_⟩, by dsimp only; omega, weak_ok ?_ (Sub.cons ?_ (Sub.cons ?_ (Sub.cons ?_ (Sub.base hf ?_)))) (Nat.le_refl _)⟩
        · unfold mayS
          by_cases e : x = b
          · subst e; simp [hb]
          · simp [e]
        all_goals (simp (disch := omega) only [ite_ne, go_sem, ↓reduceIte, Nat.reduceEqDiff, Nat.reduceBEq, Nat.reduceAdd, Nat.reduceLeDiff, Nat.reduceLT, reduceCtorEq, Nat.reduceMul, Nat.reduceSub, Int.reduceEq, Int.reduceLT, Int.reduceLE, Int.reduceToNat])
      · have hb : badT doc t name b = false := by rw [hbad]; revert c; cases s <;> simp
        simp (disch := omega) only [ite_ne, go_sem, ↓reduceIte, Nat.reduceEqDiff, Nat.reduceBEq, Nat.reduceAdd, Nat.reduceLeDiff, Nat.reduceLT, reduceCtorEq, Nat.reduceMul, Nat.reduceSub, Int.reduceEq, Int.reduceLT, Int.reduceLE, Int.reduceToNat]
        refine ⟨((L, sn ++ [b]), _), ⟨by dsimp only; omega, hj2.ext fun x => ?_⟩, by dsimp only; omega, weak_ok ?_ (Sub.cons ?_ (Sub.cons ?_ (Sub.cons ?_ (Sub.base hf ?_)))) (Nat.le_refl _)⟩
        · unfold mayS
          by_cases e : x = b
          · subst e; simp [hb]
          · simp [e]
        all_goals (simp (disch := omega) only [ite_ne, go_sem, ↓reduceIte, Nat.reduceEqDiff, Nat.reduceBEq, Nat.reduceAdd, Nat.reduceLeDiff, Nat.reduceLT, reduceCtorEq, Nat.reduceMul, Nat.reduceSub, Int.reduceEq, Int.reduceLT, Int.reduceLE, Int.reduceToNat])
  have c1 : ¬ t.k = 1 := by simpa using c1
  simp only [go_sem, ↓reduceIte, Nat.reduceEqDiff, Nat.reduceBEq, Nat.reduceAdd, Nat.reduceLeDiff, Nat.reduceLT, reduceCtorEq, Nat.reduceMul, Nat.reduceSub, Int.reduceEq, Int.reduceLT, Int.reduceLE, Int.reduceToNat]
  refine cdK_of (fun c2 => ?_) (fun c2 => ?_)
  · have c2 : t.k = 2 := by simpa using c2
    simp (disch := omega) only [ite_ne, go_sem, ↓reduceIte, Nat.reduceEqDiff, Nat.reduceBEq, Nat.reduceAdd, Nat.reduceLeDiff, Nat.reduceLT, reduceCtorEq, Nat.reduceMul, Nat.reduceSub, Int.reduceEq, Int.reduceLT, Int.reduceLE, Int.reduceToNat]
    refine loop (fun p : (Nat × ME) × Nat => ⟨[(1, .s name), (2, .bx m 0), (5, .bx (m + 1) 0), (7, .mp (m + 2)), (34, .ds (mapC dfC doc)), (35, .i .i64 doc.length), (36, .i .i64 p.1.1)], (m + 2, .mp p.1.2) :: (m, .bx [.ds (mapC dfC doc)]) :: (m + 1, .bx [.i .i64 t.k, .s t.n, .ds t.impl, .ds t.dirs, .ds (mapC fldC t.fields), .ds t.members, .ds t.inputs]) :: hp, p.2⟩)
      (fun p => p.1.1 ≤ doc.length ∧ m + 3 ≤ p.2 ∧ InM (fun b => (doc.take p.1.1).any fun x => decide (x.n = b) && decide (name ∈ unS x.impl)) p.1.2) (fun p => doc.length - p.1.1) ((0, []), m + 3) ?_ ?_ (fun ⟨⟨j, L⟩, k⟩ hj => ?_)
    · exact ⟨by simp, by simp, InM.nil.ext fun b => by simp⟩
    · refine weak_ok ?_ (Sub.cons ?_ (Sub.cons ?_ (Sub.cons ?_ (Sub.base hf ?_)))) (Nat.le_refl _)
      all_goals (simp (disch := omega) only [ite_ne, go_sem, ↓reduceIte, Nat.reduceEqDiff, Nat.reduceBEq, Nat.reduceAdd, Nat.reduceLeDiff, Nat.reduceLT, reduceCtorEq, Nat.reduceMul, Nat.reduceSub, Int.reduceEq, Int.reduceLT, Int.reduceLE, Int.reduceToNat])
    dsimp only at hj
    obtain ⟨hj1, hj2, hj3⟩ := hj
    simp (disch := omega) only [ite_ne, go_sem, ↓reduceIte, Nat.reduceEqDiff, Nat.reduceBEq, Nat.reduceAdd, Nat.reduceLeDiff, Nat.reduceLT, reduceCtorEq, Nat.reduceMul, Nat.reduceSub, Int.reduceEq, Int.reduceLT, Int.reduceLE, Int.reduceToNat]
    refine cdK_of (fun q => ?_) (fun q => ?_)
    · have q : j < doc.length := by simpa using q
      obtain ⟨x, ex⟩ : ∃ x, doc[j]? = some x := ⟨doc[j], by simp [q]⟩
      have hx := List.mem_of_getElem? ex
      simp (disch := omega) only [ite_ne, q, getK_s (mapC_get dfC ex), go_sem, ↓reduceIte, Nat.reduceEqDiff, Nat.reduceBEq, Nat.reduceAdd, Nat.reduceLeDiff, Nat.reduceLT, reduceCtorEq, Nat.reduceMul, Nat.reduceSub, Int.reduceEq, Int.reduceLT, Int.reduceLE, Int.reduceToNat]
      refine vcCall.f (tImpl_ok x (hd.ok x hx) (hd.im x hx) name _ _) ?_
      simp (disch := omega) only [ite_ne, go_sem, ↓reduceIte, Nat.reduceEqDiff, Nat.reduceBEq, Nat.reduceAdd, Nat.reduceLeDiff, Nat.reduceLT, reduceCtorEq, Nat.reduceMul, Nat.reduceSub, Int.reduceEq, Int.reduceLT, Int.reduceLE, Int.reduceToNat]
      refine cdK_of (fun c => ?_) (fun c => ?_)
      · have c : name ∈ unS x.impl := by simpa using c
        simp (disch := omega) only [ite_ne, go_sem, ↓reduceIte, Nat.reduceEqDiff, Nat.reduceBEq, Nat.reduceAdd, Nat.reduceLeDiff, Nat.reduceLT, reduceCtorEq, Nat.reduceMul, Nat.reduceSub, Int.reduceEq, Int.reduceLT, Int.reduceLE, Int.reduceToNat]
        refine ⟨((j + 1, mput x.n (.b true) L), _), ⟨by dsimp only; omega, by dsimp only; omega, hj3.put x.n fun b => ?_⟩, by dsimp only; omega, weak_ok ?_ (Sub.cons ?_ (Sub.cons ?_ (Sub.cons ?_ (Sub.base hf ?_)))) (Nat.le_refl _)⟩
        · rw [← take_snoc ex, List.any_append]
          simp [c, Bool.or_comm, eq_comm]
        all_goals
          simp (disch := omega) only [ite_ne, wr64s j (by omega), go_sem, ↓reduceIte, Nat.reduceEqDiff, Nat.reduceBEq, Nat.reduceAdd, Nat.reduceLeDiff, Nat.reduceLT, reduceCtorEq, Nat.reduceMul, Nat.reduceSub, Int.reduceEq, Int.reduceLT, Int.reduceLE, Int.reduceToNat]
      · have c : ¬ name ∈ unS x.impl := by simpa using c
        simp (disch := omega) only [ite_ne, go_sem, ↓reduceIte, Nat.reduceEqDiff, Nat.reduceBEq, Nat.reduceAdd, Nat.reduceLeDiff, Nat.reduceLT, reduceCtorEq, Nat.reduceMul, Nat.reduceSub, Int.reduceEq, Int.reduceLT, Int.reduceLE, Int.reduceToNat]
        refine ⟨((j + 1, L), _), ⟨by dsimp only; omega, by dsimp only; omega, hj3.ext fun b => ?_⟩, by dsimp only; omega, weak_ok ?_ (Sub.cons ?_ (Sub.cons ?_ (Sub.cons ?_ (Sub.base hf ?_)))) (Nat.le_refl _)⟩
        · rw [← take_snoc ex, List.any_append]
          simp [c]
        all_goals
          simp (disch := omega) only [ite_ne, wr64s j (by omega), go_sem, ↓reduceIte, Nat.reduceEqDiff, Nat.reduceBEq, Nat.reduceAdd, Nat.reduceLeDiff, Nat.reduceLT, reduceCtorEq, Nat.reduceMul, Nat.reduceSub, Int.reduceEq, Int.reduceLT, Int.reduceLE, Int.reduceToNat]
    · have q : j = doc.length := by simp at q; omega
      subst q
      have hI : InM (may0 doc t name) L := hj3.ext fun b => by rw [List.take_length]; simp [may0, c2]
      simp (disch := omega) only [ite_ne, go_sem, ↓reduceIte, Nat.reduceEqDiff, Nat.reduceBEq, Nat.reduceAdd, Nat.reduceLeDiff, Nat.reduceLT, reduceCtorEq, Nat.reduceMul, Nat.reduceSub, Int.reduceEq, Int.reduceLT, Int.reduceLE, Int.reduceToNat]
      refine loop (fun p : (ME × List ByteArray) × Nat => ⟨[(1, .s name), (2, .bx m 0), (5, .bx (m + 1) 0), (7, .mp (m + 2)), (61, .mi (m + 2))], (m + 2, .mr p.1.1 p.1.2) :: (m, .bx [.ds (mapC dfC doc)]) :: (m + 1, .bx [.i .i64 t.k, .s t.n, .ds t.impl, .ds t.dirs, .ds (mapC fldC t.fields), .ds t.members, .ds t.inputs]) :: hp, p.2⟩)
        (fun p => m + 3 ≤ p.2 ∧ InM (mayS doc t name p.1.2) p.1.1) (fun p => unseen p.1.1 p.1.2) ((L, []), k) ?_ ?_ (fun ⟨⟨L, sn⟩, k⟩ hj => ?_)
      · exact ⟨by dsimp only; omega, hI.ext (mayS_nil doc t name)⟩
      · refine weak_ok ?_ (Sub.cons ?_ (Sub.cons ?_ (Sub.cons ?_ (Sub.base hf ?_)))) (Nat.le_refl _)
        all_goals (simp (disch := omega) only [ite_ne, go_sem, ↓reduceIte, Nat.reduceEqDiff, Nat.reduceBEq, Nat.reduceAdd, Nat.reduceLeDiff, Nat.reduceLT, reduceCtorEq, Nat.reduceMul, Nat.reduceSub, Int.reduceEq, Int.reduceLT, Int.reduceLE, Int.reduceToNat])
      dsimp only at hj
      obtain ⟨hj1, hj2⟩ := hj
      simp (disch := omega) only [ite_ne, go_sem, ↓reduceIte, Nat.reduceEqDiff, Nat.reduceBEq, Nat.reduceAdd, Nat.reduceLeDiff, Nat.reduceLT, reduceCtorEq, Nat.reduceMul, Nat.reduceSub, Int.reduceEq, Int.reduceLT, Int.reduceLE, Int.reduceToNat]
      refine mx_of (fun hall => ?_) (fun j b α hb hns => ?_)
      · have hI3 : InM (mayT doc t name) L := hj2.ext fun b => by
          unfold mayS mayT
          cases c : may0 doc t name b with
          | false => simp
          | true =>
            by_cases hs : b ∈ sn
            · simp [hs]
            · have : badT doc t name b = false ∨ True := .inr trivial
              have hq : mayS doc t name sn b = true := by simp [mayS, c, hs]
              exact absurd (hall _ (hj2.mem hq)) hs
        simp (disch := omega) only [ite_ne, go_sem, ↓reduceIte, Nat.reduceEqDiff, Nat.reduceBEq, Nat.reduceAdd, Nat.reduceLeDiff, Nat.reduceLT, reduceCtorEq, Nat.reduceMul, Nat.reduceSub, Int.reduceEq, Int.reduceLT, Int.reduceLE, Int.reduceToNat]
        refine loop (fun p : (Nat × ME × List ByteArray) × Nat => ⟨[(7, .mp (m + 2)), (15, .rw k p.1.2.2.length p.1.2.2.length), (93, .ds (mapC dfC doc)), (94, .i .i64 doc.length), (95, .i .i64 p.1.1)], (k, .rw p.1.2.2.length 1 (stC p.1.2.2)) :: (m + 2, .mr p.1.2.1 sn) :: hp, p.2⟩)
          (fun p => p.1.1 ≤ doc.length ∧ k + 1 ≤ p.2 ∧ p.1.2.2.length ≤ p.1.1 ∧ InM (fun b => mayT doc t name b && !decide (b ∈ p.1.2.2)) p.1.2.1 ∧ R = posW (mayT doc t name) p.1.2.2 (doc.drop p.1.1)) (fun p => doc.length - p.1.1) ((0, L, []), k + 1) ?_ ?_ (fun ⟨⟨j, L, o⟩, n⟩ hi => ?_)
        · exact ⟨by simp, by simp, by simp, hI3.ext fun b => by simp, hR.symm⟩
        · refine (weak_e0 (t := 15) (m := 1) ?_).trans (weak_ok ?_ (Sub.cons ?_ (Sub.cons ?_ (Sub.base hf ?_))) (Nat.le_refl _))
          all_goals (simp (disch := omega) only [ite_ne, go_sem, ↓reduceIte, Nat.reduceEqDiff, Nat.reduceBEq, Nat.reduceAdd, Nat.reduceLeDiff, Nat.reduceLT, reduceCtorEq, Nat.reduceMul, Nat.reduceSub, Int.reduceEq, Int.reduceLT, Int.reduceLE, Int.reduceToNat])
        dsimp only at hi
        obtain ⟨hi1, hi2, hi3, hi4, hi5⟩ := hi
        simp (disch := omega) only [ite_ne, go_sem, ↓reduceIte, Nat.reduceEqDiff, Nat.reduceBEq, Nat.reduceAdd, Nat.reduceLeDiff, Nat.reduceLT, reduceCtorEq, Nat.reduceMul, Nat.reduceSub, Int.reduceEq, Int.reduceLT, Int.reduceLE, Int.reduceToNat]
        refine cdK_of (fun q => ?_) (fun q => ?_)
        · have q : j < doc.length := by simpa using q
          obtain ⟨x, ex⟩ : ∃ x, doc[j]? = some x := ⟨doc[j], by simp [q]⟩
          rw [drop_at ex, posW] at hi5
          by_cases c : mayT doc t name x.n = true ∧ x.n ∉ o
          · rw [if_pos c] at hi5
            have hl := lk_t hi4 (b := x.n) (by simp [c.1, c.2])
            have hg : mapC st1 o ++ [[AV.s x.n]] = mapC st1 (o ++ [x.n]) := mapC_snoc st1 o x.n
            simp (disch := omega) only [ite_ne, q, getK_s (mapC_get dfC ex), hl, go_sem, ↓reduceIte, Nat.reduceEqDiff, Nat.reduceBEq, Nat.reduceAdd, Nat.reduceLeDiff, Nat.reduceLT, reduceCtorEq, Nat.reduceMul, Nat.reduceSub, Int.reduceEq, Int.reduceLT, Int.reduceLE, Int.reduceToNat]
            refine ⟨by omega, by omega, ((j + 1, mdel x.n L, o ++ [x.n]), _), ⟨by dsimp only; omega, by dsimp only; omega, by simp; omega, hi4.del x.n fun b => ?_, hi5⟩, by dsimp only; omega, weak_ok ?_ (Sub.cons ?_ (Sub.cons ?_ (Sub.base hf ?_))) (Nat.le_refl _)⟩
            · by_cases e : b = x.n <;> simp [e]
            all_goals
              simp (disch := omega) only [ite_ne, wr64s j (by omega), List.length_append, List.length_cons, List.length_nil, go_sem, ↓reduceIte, Nat.reduceEqDiff, Nat.reduceBEq, Nat.reduceAdd, Nat.reduceLeDiff, Nat.reduceLT, reduceCtorEq, Nat.reduceMul, Nat.reduceSub, Int.reduceEq, Int.reduceLT, Int.reduceLE, Int.reduceToNat]
          · rw [if_neg c] at hi5
            have hl := lk_f hi4 (b := x.n) (by simpa using c)
            simp (disch := omega) only [ite_ne, q, getK_s (mapC_get dfC ex), hl, go_sem, ↓reduceIte, Nat.reduceEqDiff, Nat.reduceBEq, Nat.reduceAdd, Nat.reduceLeDiff, Nat.reduceLT, reduceCtorEq, Nat.reduceMul, Nat.reduceSub, Int.reduceEq, Int.reduceLT, Int.reduceLE, Int.reduceToNat]
            refine ⟨((j + 1, L, o), _), ⟨by dsimp only; omega, by dsimp only; omega, by dsimp only; omega, hi4, hi5⟩, by dsimp only; omega, weak_ok ?_ (Sub.cons ?_ (Sub.cons ?_ (Sub.base hf ?_))) (Nat.le_refl _)⟩
            all_goals
              simp (disch := omega) only [ite_ne, wr64s j (by omega), go_sem, ↓reduceIte, Nat.reduceEqDiff, Nat.reduceBEq, Nat.reduceAdd, Nat.reduceLeDiff, Nat.reduceLT, reduceCtorEq, Nat.reduceMul, Nat.reduceSub, Int.reduceEq, Int.reduceLT, Int.reduceLE, Int.reduceToNat]
        · have q : j = doc.length := by simp at q; omega
          subst q
          rw [List.drop_length, posW] at hi5
          subst hi5
          simp (disch := omega) only [ite_ne, go_sem, ↓reduceIte, Nat.reduceEqDiff, Nat.reduceBEq, Nat.reduceAdd, Nat.reduceLeDiff, Nat.reduceLT, reduceCtorEq, Nat.reduceMul, Nat.reduceSub, Int.reduceEq, Int.reduceLT, Int.reduceLE, Int.reduceToNat]
      · have hm := List.mem_of_getElem? hb
        obtain ⟨hq, rfl⟩ := hj2.get hm
        have hf1 := tFind_ok doc hd.len b
        have hg1 := hd.g b
        have hbad := badT_eq doc t name b
        unfold resD at hf1
        obtain ⟨o, ho⟩ : ∃ o, (findD' doc b).getD zDf = o := ⟨_, rfl⟩
        obtain ⟨s, hs⟩ : ∃ s, (findD' doc b).isSome = s := ⟨_, rfl⟩
        rw [ho] at hf1 hg1 hbad
        rw [hs] at hf1 hbad
        have hlt := unseen_lt hm hns
        have hdl := unseen_del L (sn ++ [b]) b
        simp (disch := omega) only [ite_ne, go_sem, ↓reduceIte, Nat.reduceEqDiff, Nat.reduceBEq, Nat.reduceAdd, Nat.reduceLeDiff, Nat.reduceLT, reduceCtorEq, Nat.reduceMul, Nat.reduceSub, Int.reduceEq, Int.reduceLT, Int.reduceLE, Int.reduceToNat]
        refine me_of (by simp) (mfind_get hj2.1 hm) ?_
        simp (disch := omega) only [ite_ne, go_sem, ↓reduceIte, Nat.reduceEqDiff, Nat.reduceBEq, Nat.reduceAdd, Nat.reduceLeDiff, Nat.reduceLT, reduceCtorEq, Nat.reduceMul, Nat.reduceSub, Int.reduceEq, Int.reduceLT, Int.reduceLE, Int.reduceToNat]
        refine vcCall.f (hf1 _ _) ?_
        simp (disch := omega) only [ite_ne, go_sem, ↓reduceIte, Nat.reduceEqDiff, Nat.reduceBEq, Nat.reduceAdd, Nat.reduceLeDiff, Nat.reduceLT, reduceCtorEq, Nat.reduceMul, Nat.reduceSub, Int.reduceEq, Int.reduceLT, Int.reduceLE, Int.reduceToNat]
        refine gCall.f (fun _ => tImpl_ok o hg1.1 hg1.2.1 name _ _) ?_
        simp (disch := omega) only [ite_ne, go_sem, ↓reduceIte, Nat.reduceEqDiff, Nat.reduceBEq, Nat.reduceAdd, Nat.reduceLeDiff, Nat.reduceLT, reduceCtorEq, Nat.reduceMul, Nat.reduceSub, Int.reduceEq, Int.reduceLT, Int.reduceLE, Int.reduceToNat]
        refine cdK_of (fun c => ?_) (fun c => ?_)
        · have hb : badT doc t name b = true := by rw [hbad]; revert c; cases s <;> simp <;> first | done | (intro h; first | exact h | (rcases h with h | h; exact .inl h; exact .inr h))
          simp (disch := omega) only [ite_ne, go_sem, ↓reduceIte, Nat.reduceEqDiff, Nat.reduceBEq, Nat.reduceAdd, Nat.reduceLeDiff, Nat.reduceLT, reduceCtorEq, Nat.reduceMul, Nat.reduceSub, Int.reduceEq, Int.reduceLT, Int.reduceLE, Int.reduceToNat]
          refine ⟨((mdel b L, sn ++ [b]), _), ⟨by dsimp only; omega, hj2.del b fun x => ?_⟩, by dsimp only; omega, weak_ok ?_ (Sub.cons ?_ (Sub.cons ?_ (Sub.cons ?_ (Sub.base hf ?_)))) (Nat.le_refl _)⟩
          · unfold mayS
            by_cases e : x = b
            · subst e; simp [hb]
            · simp [e]
          all_goals (simp (disch := omega) only [ite_ne, go_sem, ↓reduceIte, Nat.reduceEqDiff, Nat.reduceBEq, Nat.reduceAdd, Nat.reduceLeDiff, Nat.reduceLT, reduceCtorEq, Nat.reduceMul, Nat.reduceSub, Int.reduceEq, Int.reduceLT, Int.reduceLE, Int.reduceToNat])
        · have hb : badT doc t name b = false := by rw [hbad]; revert c; cases s <;> simp
          simp (disch := omega) only [ite_ne, go_sem, ↓reduceIte, Nat.reduceEqDiff, Nat.reduceBEq, Nat.reduceAdd, Nat.reduceLeDiff, Nat.reduceLT, reduceCtorEq, Nat.reduceMul, Nat.reduceSub, Int.reduceEq, Int.reduceLT, Int.reduceLE, Int.reduceToNat]
          refine ⟨((L, sn ++ [b]), _), ⟨by dsimp only; omega, hj2.ext fun x => ?_⟩, by dsimp only; omega, weak_ok ?_ (Sub.cons ?_ (Sub.cons ?_ (Sub.cons ?_ (Sub.base hf ?_)))) (Nat.le_refl _)⟩
          · unfold mayS
            by_cases e : x = b
            · subst e; simp [hb]
            · simp [e]
          all_goals (simp (disch := omega) only [ite_ne, go_sem, ↓reduceIte, Nat.reduceEqDiff, Nat.reduceBEq, Nat.reduceAdd, Nat.reduceLeDiff, Nat.reduceLT, reduceCtorEq, Nat.reduceMul, Nat.reduceSub, Int.reduceEq, Int.reduceLT, Int.reduceLE, Int.reduceToNat])
  have c2 : ¬ t.k = 2 := by simpa using c2
  simp only [go_sem, ↓reduceIte, Nat.reduceEqDiff, Nat.reduceBEq, Nat.reduceAdd, Nat.reduceLeDiff, Nat.reduceLT, reduceCtorEq, Nat.reduceMul, Nat.reduceSub, Int.reduceEq, Int.reduceLT, Int.reduceLE, Int.reduceToNat]
  refine cdK_of (fun c3 => ?_) (fun c3 => ?_)
  · have c3 : t.k = 3 := by simpa using c3
    have hml : ∀ e ∈ t.members, e.length = 2 := fun e he => by obtain ⟨x, y, rfl⟩ := g1.mem e he; rfl
    have hml := eq_true hml
    simp (disch := omega) only [ite_ne, hml, go_sem, ↓reduceIte, Nat.reduceEqDiff, Nat.reduceBEq, Nat.reduceAdd, Nat.reduceLeDiff, Nat.reduceLT, reduceCtorEq, Nat.reduceMul, Nat.reduceSub, Int.reduceEq, Int.reduceLT, Int.reduceLE, Int.reduceToNat]
    refine loop (fun p : (Nat × ME) × Nat => ⟨[(1, .s name), (2, .bx m 0), (5, .bx (m + 1) 0), (7, .mp (m + 2)), (50, .ds t.members), (51, .i .i64 t.members.length), (52, .i .i64 p.1.1)], (m + 2, .mp p.1.2) :: (m, .bx [.ds (mapC dfC doc)]) :: (m + 1, .bx [.i .i64 t.k, .s t.n, .ds t.impl, .ds t.dirs, .ds (mapC fldC t.fields), .ds t.members, .ds t.inputs]) :: hp, p.2⟩)
      (fun p => p.1.1 ≤ t.members.length ∧ m + 3 ≤ p.2 ∧ InM (fun b => decide (b ∈ unM (t.members.take p.1.1))) p.1.2) (fun p => t.members.length - p.1.1) ((0, []), m + 3) ?_ ?_ (fun ⟨⟨j, L⟩, k⟩ hj => ?_)
    · exact ⟨by simp, by simp, InM.nil.ext fun b => by simp [unM]⟩
    · refine weak_ok ?_ (Sub.cons ?_ (Sub.cons ?_ (Sub.cons ?_ (Sub.base hf ?_)))) (Nat.le_refl _)
      all_goals (simp (disch := omega) only [ite_ne, go_sem, ↓reduceIte, Nat.reduceEqDiff, Nat.reduceBEq, Nat.reduceAdd, Nat.reduceLeDiff, Nat.reduceLT, reduceCtorEq, Nat.reduceMul, Nat.reduceSub, Int.reduceEq, Int.reduceLT, Int.reduceLE, Int.reduceToNat])
    dsimp only at hj
    obtain ⟨hj1, hj2, hj3⟩ := hj
    simp (disch := omega) only [ite_ne, go_sem, ↓reduceIte, Nat.reduceEqDiff, Nat.reduceBEq, Nat.reduceAdd, Nat.reduceLeDiff, Nat.reduceLT, reduceCtorEq, Nat.reduceMul, Nat.reduceSub, Int.reduceEq, Int.reduceLT, Int.reduceLE, Int.reduceToNat]
    refine cdK_of (fun q => ?_) (fun q => ?_)
    · have q : j < t.members.length := by simpa using q
      obtain ⟨e, ee⟩ : ∃ e, t.members[j]? = some e := ⟨t.members[j], by simp [q]⟩
      obtain ⟨x, y, rfl⟩ := g1.mem e (List.mem_of_getElem? ee)
      simp (disch := omega) only [ite_ne, q, hml, getK_s ee, go_sem, ↓reduceIte, Nat.reduceEqDiff, Nat.reduceBEq, Nat.reduceAdd, Nat.reduceLeDiff, Nat.reduceLT, reduceCtorEq, Nat.reduceMul, Nat.reduceSub, Int.reduceEq, Int.reduceLT, Int.reduceLE, Int.reduceToNat]
      refine ⟨((j + 1, mput x (.b true) L), _), ⟨by dsimp only; omega, by dsimp only; omega, hj3.put x fun b => ?_⟩, by dsimp only; omega, weak_ok ?_ (Sub.cons ?_ (Sub.cons ?_ (Sub.cons ?_ (Sub.base hf ?_)))) (Nat.le_refl _)⟩
      · rw [← take_snoc ee]
        simp [unM, Bool.or_comm]
      all_goals
        simp (disch := omega) only [ite_ne, wr64s j (by omega), go_sem, ↓reduceIte, Nat.reduceEqDiff, Nat.reduceBEq, Nat.reduceAdd, Nat.reduceLeDiff, Nat.reduceLT, reduceCtorEq, Nat.reduceMul, Nat.reduceSub, Int.reduceEq, Int.reduceLT, Int.reduceLE, Int.reduceToNat]
    · have q : j = t.members.length := by simp at q; omega
      subst q
      have hI : InM (may0 doc t name) L := hj3.ext fun b => by rw [List.take_length]; simp [may0, c1, c2, c3]
      simp (disch := omega) only [ite_ne, go_sem, ↓reduceIte, Nat.reduceEqDiff, Nat.reduceBEq, Nat.reduceAdd, Nat.reduceLeDiff, Nat.reduceLT, reduceCtorEq, Nat.reduceMul, Nat.reduceSub, Int.reduceEq, Int.reduceLT, Int.reduceLE, Int.reduceToNat]
      refine loop (fun p : (ME × List ByteArray) × Nat => ⟨[(1, .s name), (2, .bx m 0), (5, .bx (m + 1) 0), (7, .mp (m + 2)), (61, .mi (m + 2))], (m + 2, .mr p.1.1 p.1.2) :: (m, .bx [.ds (mapC dfC doc)]) :: (m + 1, .bx [.i .i64 t.k, .s t.n, .ds t.impl, .ds t.dirs, .ds (mapC fldC t.fields), .ds t.members, .ds t.inputs]) :: hp, p.2⟩)
        (fun p => m + 3 ≤ p.2 ∧ InM (mayS doc t name p.1.2) p.1.1) (fun p => unseen p.1.1 p.1.2) ((L, []), k) ?_ ?_ (fun ⟨⟨L, sn⟩, k⟩ hj => ?_)
      · exact ⟨by dsimp only; omega, hI.ext (mayS_nil doc t name)⟩
      · refine weak_ok ?_ (Sub.cons ?_ (Sub.cons ?_ (Sub.cons ?_ (Sub.base hf ?_)))) (Nat.le_refl _)
        all_goals (simp (disch := omega) only [ite_ne, go_sem, ↓reduceIte, Nat.reduceEqDiff, Nat.reduceBEq, Nat.reduceAdd, Nat.reduceLeDiff, Nat.reduceLT, reduceCtorEq, Nat.reduceMul, Nat.reduceSub, Int.reduceEq, Int.reduceLT, Int.reduceLE, Int.reduceToNat])
      dsimp only at hj
      obtain ⟨hj1, hj2⟩ := hj
      simp (disch := omega) only [ite_ne, go_sem, ↓reduceIte, Nat.reduceEqDiff, Nat.reduceBEq, Nat.reduceAdd, Nat.reduceLeDiff, Nat.reduceLT, reduceCtorEq, Nat.reduceMul, Nat.reduceSub, Int.reduceEq, Int.reduceLT, Int.reduceLE, Int.reduceToNat]
      refine mx_of (fun hall => ?_) (fun j b α hb hns => ?_)
      · have hI3 : InM (mayT doc t name) L := hj2.ext fun b => by
          unfold mayS mayT
          cases c : may0 doc t name b with
          | false => simp
          | true =>
            by_cases hs : b ∈ sn
            · simp [hs]
            · have : badT doc t name b = false ∨ True := .inr trivial
              have hq : mayS doc t name sn b = true := by simp [mayS, c, hs]
              exact absurd (hall _ (hj2.mem hq)) hs
        simp (disch := omega) only [ite_ne, go_sem, ↓reduceIte, Nat.reduceEqDiff, Nat.reduceBEq, Nat.reduceAdd, Nat.reduceLeDiff, Nat.reduceLT, reduceCtorEq, Nat.reduceMul, Nat.reduceSub, Int.reduceEq, Int.reduceLT, Int.reduceLE, Int.reduceToNat]
        refine loop (fun p : (Nat × ME × List ByteArray) × Nat => ⟨[(7, .mp (m + 2)), (15, .rw k p.1.2.2.length p.1.2.2.length), (93, .ds (mapC dfC doc)), (94, .i .i64 doc.length), (95, .i .i64 p.1.1)], (k, .rw p.1.2.2.length 1 (stC p.1.2.2)) :: (m + 2, .mr p.1.2.1 sn) :: hp, p.2⟩)
          (fun p => p.1.1 ≤ doc.length ∧ k + 1 ≤ p.2 ∧ p.1.2.2.length ≤ p.1.1 ∧ InM (fun b => mayT doc t name b && !decide (b ∈ p.1.2.2)) p.1.2.1 ∧ R = posW (mayT doc t name) p.1.2.2 (doc.drop p.1.1)) (fun p => doc.length - p.1.1) ((0, L, []), k + 1) ?_ ?_ (fun ⟨⟨j, L, o⟩, n⟩ hi => ?_)
        · exact ⟨by simp, by simp, by simp, hI3.ext fun b => by simp, hR.symm⟩
        · refine (weak_e0 (t := 15) (m := 1) ?_).trans (weak_ok ?_ (Sub.cons ?_ (Sub.cons ?_ (Sub.base hf ?_))) (Nat.le_refl _))
          all_goals (simp (disch := omega) only [ite_ne, go_sem, ↓reduceIte, Nat.reduceEqDiff, Nat.reduceBEq, Nat.reduceAdd, Nat.reduceLeDiff, Nat.reduceLT, reduceCtorEq, Nat.reduceMul, Nat.reduceSub, Int.reduceEq, Int.reduceLT, Int.reduceLE, Int.reduceToNat])
        dsimp only at hi
        obtain ⟨hi1, hi2, hi3, hi4, hi5⟩ := hi
        simp (disch := omega) only [ite_ne, go_sem, ↓reduceIte, Nat.reduceEqDiff, Nat.reduceBEq, Nat.reduceAdd, Nat.reduceLeDiff, Nat.reduceLT, reduceCtorEq, Nat.reduceMul, Nat.reduceSub, Int.reduceEq, Int.reduceLT, Int.reduceLE, Int.reduceToNat]
        refine cdK_of (fun q => ?_) (fun q => ?_)
        · have q : j < doc.length := by simpa using q
          obtain ⟨x, ex⟩ : ∃ x, doc[j]? = some x := ⟨doc[j], by simp [q]⟩
          rw [drop_at ex, posW] at hi5
          by_cases c : mayT doc t name x.n = true ∧ x.n ∉ o
          · rw [if_pos c] at hi5
            have hl := lk_t hi4 (b := x.n) (by simp [c.1, c.2])
            have hg : mapC st1 o ++ [[AV.s x.n]] = mapC st1 (o ++ [x.n]) := mapC_snoc st1 o x.n
            simp (disch := omega) only [ite_ne, q, getK_s (mapC_get dfC ex), hl, go_sem, ↓reduceIte, Nat.reduceEqDiff, Nat.reduceBEq, Nat.reduceAdd, Nat.reduceLeDiff, Nat.reduceLT, reduceCtorEq, Nat.reduceMul, Nat.reduceSub, Int.reduceEq, Int.reduceLT, Int.reduceLE, Int.reduceToNat]
            refine ⟨by omega, by omega, ((j + 1, mdel x.n L, o ++ [x.n]), _), ⟨by dsimp only; omega, by dsimp only; omega, by simp; omega, hi4.del x.n fun b => ?_, hi5⟩, by dsimp only; omega, weak_ok ?_ (Sub.cons ?_ (Sub.cons ?_ (Sub.base hf ?_))) (Nat.le_refl _)⟩
            · by_cases e : b = x.n <;> simp [e]
            all_goals
              simp (disch := omega) only [ite_ne, wr64s j (by omega), List.length_append, List.length_cons, List.length_nil, go_sem, ↓reduceIte, Nat.reduceEqDiff, Nat.reduceBEq, Nat.reduceAdd, Nat.reduceLeDiff, Nat.reduceLT, reduceCtorEq, Nat.reduceMul, Nat.reduceSub, Int.reduceEq, Int.reduceLT, Int.reduceLE, Int.reduceToNat]
          · rw [if_neg c] at hi5
            have hl := lk_f hi4 (b := x.n) (by simpa using c)
            simp (disch := omega) only [ite_ne, q, getK_s (mapC_get dfC ex), hl, go_sem, ↓reduceIte, Nat.reduceEqDiff, Nat.reduceBEq, Nat.reduceAdd, Nat.reduceLeDiff, Nat.reduceLT, reduceCtorEq, Nat.reduceMul, Nat.reduceSub, Int.reduceEq, Int.reduceLT, Int.reduceLE, Int.reduceToNat]
            refine ⟨((j + 1, L, o), _), ⟨by dsimp only; omega, by dsimp only; omega, by dsimp only; omega, hi4, hi5⟩, by dsimp only; omega, weak_ok ?_ (Sub.cons ?_ (Sub.cons ?_ (Sub.base hf ?_))) (Nat.le_refl _)⟩
            all_goals
              simp (disch := omega) only [ite_ne, wr64s j (by omega), go_sem, ↓reduceIte, Nat.reduceEqDiff, Nat.reduceBEq, Nat.reduceAdd, Nat.reduceLeDiff, Nat.reduceLT, reduceCtorEq, Nat.reduceMul, Nat.reduceSub, Int.reduceEq, Int.reduceLT, Int.reduceLE, Int.reduceToNat]
        · have q : j = doc.length := by simp at q; omega
          subst q
          rw [List.drop_length, posW] at hi5
          subst hi5
          simp (disch := omega) only [ite_ne, go_sem, ↓reduceIte, Nat.reduceEqDiff, Nat.reduceBEq, Nat.reduceAdd, Nat.reduceLeDiff, Nat.reduceLT, reduceCtorEq, Nat.reduceMul, Nat.reduceSub, Int.reduceEq, Int.reduceLT, Int.reduceLE, Int.reduceToNat]
      · have hm := List.mem_of_getElem? hb
        obtain ⟨hq, rfl⟩ := hj2.get hm
        have hf1 := tFind_ok doc hd.len b
        have hg1 := hd.g b
        have hbad := badT_eq doc t name b
        unfold resD at hf1
        obtain ⟨o, ho⟩ : ∃ o, (findD' doc b).getD zDf = o := ⟨_, rfl⟩
        obtain ⟨s, hs⟩ : ∃ s, (findD' doc b).isSome = s := ⟨_, rfl⟩
        rw [ho] at hf1 hg1 hbad
        rw [hs] at hf1 hbad
        have hlt := unseen_lt hm hns
        have hdl := unseen_del L (sn ++ [b]) b
        simp (disch := omega) only [ite_ne, go_sem, ↓reduceIte, Nat.reduceEqDiff, Nat.reduceBEq, Nat.reduceAdd, Nat.reduceLeDiff, Nat.reduceLT, reduceCtorEq, Nat.reduceMul, Nat.reduceSub, Int.reduceEq, Int.reduceLT, Int.reduceLE, Int.reduceToNat]
        refine me_of (by simp) (mfind_get hj2.1 hm) ?_
        simp (disch := omega) only [ite_ne, go_sem, ↓reduceIte, Nat.reduceEqDiff, Nat.reduceBEq, Nat.reduceAdd, Nat.reduceLeDiff, Nat.reduceLT, reduceCtorEq, Nat.reduceMul, Nat.reduceSub, Int.reduceEq, Int.reduceLT, Int.reduceLE, Int.reduceToNat]
        refine vcCall.f (hf1 _ _) ?_
        simp (disch := omega) only [ite_ne, go_sem, ↓reduceIte, Nat.reduceEqDiff, Nat.reduceBEq, Nat.reduceAdd, Nat.reduceLeDiff, Nat.reduceLT, reduceCtorEq, Nat.reduceMul, Nat.reduceSub, Int.reduceEq, Int.reduceLT, Int.reduceLE, Int.reduceToNat]
        refine gCall.f (fun _ => tImpl_ok o hg1.1 hg1.2.1 name _ _) ?_
        simp (disch := omega) only [ite_ne, go_sem, ↓reduceIte, Nat.reduceEqDiff, Nat.reduceBEq, Nat.reduceAdd, Nat.reduceLeDiff, Nat.reduceLT, reduceCtorEq, Nat.reduceMul, Nat.reduceSub, Int.reduceEq, Int.reduceLT, Int.reduceLE, Int.reduceToNat]
        refine cdK_of (fun c => ?_) (fun c => ?_)
        · have hb : badT doc t name b = true := by rw [hbad]; revert c; cases s <;> simp <;> first | done | (intro h; first | exact h | (rcases h with h | h; exact .inl h; exact .inr h))
          simp (disch := omega) only [ite_ne, go_sem, ↓reduceIte, Nat.reduceEqDiff, Nat.reduceBEq, Nat.reduceAdd, Nat.reduceLeDiff, Nat.reduceLT, reduceCtorEq, Nat.reduceMul, Nat.reduceSub, Int.reduceEq, Int.reduceLT, Int.reduceLE, Int.reduceToNat]
          refine ⟨((mdel b L, sn ++ [b]), _), ⟨by dsimp only; omega, hj2.del b fun x => ?_⟩, by dsimp only; omega, weak_ok ?_ (Sub.cons ?_ (Sub.cons ?_ (Sub.cons ?_ (Sub.base hf ?_)))) (Nat.le_refl _)⟩
          · unfold mayS
            by_cases e : x = b
            · subst e; simp [hb]
            · simp [e]
          all_goals (simp (disch := omega) only [ite_ne, go_sem, ↓reduceIte, Nat.reduceEqDiff, Nat.reduceBEq, Nat.reduceAdd, Nat.reduceLeDiff, Nat.reduceLT, reduceCtorEq, Nat.reduceMul, Nat.reduceSub, Int.reduceEq, Int.reduceLT, Int.reduceLE, Int.reduceToNat])
        · have hb : badT doc t name b = false := by rw [hbad]; revert c; cases s <;> simp
          simp (disch := omega) only [ite_ne, go_sem, ↓reduceIte, Nat.reduceEqDiff, Nat.reduceBEq, Nat.reduceAdd, Nat.reduceLeDiff, Nat.reduceLT, reduceCtorEq, Nat.reduceMul, Nat.reduceSub, Int.reduceEq, Int.reduceLT, Int.reduceLE, Int.reduceToNat]
          refine ⟨((L, sn ++ [b]), _), ⟨by dsimp only; omega, hj2.ext fun x => ?_⟩, by dsimp only; omega, weak_ok ?_ (Sub.cons ?_ (Sub.cons ?_ (Sub.cons ?_ (Sub.base hf ?_)))) (Nat.le_refl _)⟩
          · unfold mayS
            by_cases e : x = b
            · subst e; simp [hb]
            · simp [e]
          all_goals (simp (disch := omega) only [ite_ne, go_sem, ↓reduceIte, Nat.reduceEqDiff, Nat.reduceBEq, Nat.reduceAdd, Nat.reduceLeDiff, Nat.reduceLT, reduceCtorEq, Nat.reduceMul, Nat.reduceSub, Int.reduceEq, Int.reduceLT, Int.reduceLE, Int.reduceToNat])
  · have c3 : ¬ t.k = 3 := by simpa using c3
    have hI : InM (may0 doc t name) [] := InM.nil.ext fun b => by simp [may0, c1, c2, c3]
    obtain ⟨L, hL⟩ : ∃ L : ME, [] = L := ⟨_, rfl⟩
    rw [hL] at hI
    simp (disch := omega) only [ite_ne, go_sem, ↓reduceIte, Nat.reduceEqDiff, Nat.reduceBEq, Nat.reduceAdd, Nat.reduceLeDiff, Nat.reduceLT, reduceCtorEq, Nat.reduceMul, Nat.reduceSub, Int.reduceEq, Int.reduceLT, Int.reduceLE, Int.reduceToNat]
    rw [hL]
    refine loop (fun p : (ME × List ByteArray) × Nat => ⟨[(1, .s name), (2, .bx m 0), (5, .bx (m + 1) 0), (7, .mp (m + 2)), (61, .mi (m + 2))], (m + 2, .mr p.1.1 p.1.2) :: (m, .bx [.ds (mapC dfC doc)]) :: (m + 1, .bx [.i .i64 t.k, .s t.n, .ds t.impl, .ds t.dirs, .ds (mapC fldC t.fields), .ds t.members, .ds t.inputs]) :: hp, p.2⟩)
      (fun p => m + 3 ≤ p.2 ∧ InM (mayS doc t name p.1.2) p.1.1) (fun p => unseen p.1.1 p.1.2) ((L, []), m + 3) ?_ ?_ (fun ⟨⟨L, sn⟩, k⟩ hj => ?_)
    · exact ⟨by dsimp only; omega, hI.ext (mayS_nil doc t name)⟩
    · refine weak_ok ?_ (Sub.cons ?_ (Sub.cons ?_ (Sub.cons ?_ (Sub.base hf ?_)))) (Nat.le_refl _)
      all_goals (simp (disch := omega) only [ite_ne, go_sem, ↓reduceIte, Nat.reduceEqDiff, Nat.reduceBEq, Nat.reduceAdd, Nat.reduceLeDiff, Nat.reduceLT, reduceCtorEq, Nat.reduceMul, Nat.reduceSub, Int.reduceEq, Int.reduceLT, Int.reduceLE, Int.reduceToNat])
    dsimp only at hj
    obtain ⟨hj1, hj2⟩ := hj
    simp (disch := omega) only [ite_ne, go_sem, ↓reduceIte, Nat.reduceEqDiff, Nat.reduceBEq, Nat.reduceAdd, Nat.reduceLeDiff, Nat.reduceLT, reduceCtorEq, Nat.reduceMul, Nat.reduceSub, Int.reduceEq, Int.reduceLT, Int.reduceLE, Int.reduceToNat]
    refine mx_of (fun hall => ?_) (fun j b α hb hns => ?_)
    · have hI3 : InM (mayT doc t name) L := hj2.ext fun b => by
        unfold mayS mayT
        cases c : may0 doc t name b with
        | false => simp
        | true =>
          by_cases hs : b ∈ sn
          · simp [hs]
          · have : badT doc t name b = false ∨ True := .inr trivial
            have hq : mayS doc t name sn b = true := by simp [mayS, c, hs]
            exact absurd (hall _ (hj2.mem hq)) hs
      simp (disch := omega) only [ite_ne, go_sem, ↓reduceIte, Nat.reduceEqDiff, Nat.reduceBEq, Nat.reduceAdd, Nat.reduceLeDiff, Nat.reduceLT, reduceCtorEq, Nat.reduceMul, Nat.reduceSub, Int.reduceEq, Int.reduceLT, Int.reduceLE, Int.reduceToNat]
      refine loop (fun p : (Nat × ME × List ByteArray) × Nat => ⟨[(7, .mp (m + 2)), (15, .rw k p.1.2.2.length p.1.2.2.length), (93, .ds (mapC dfC doc)), (94, .i .i64 doc.length), (95, .i .i64 p.1.1)], (k, .rw p.1.2.2.length 1 (stC p.1.2.2)) :: (m + 2, .mr p.1.2.1 sn) :: hp, p.2⟩)
        (fun p => p.1.1 ≤ doc.length ∧ k + 1 ≤ p.2 ∧ p.1.2.2.length ≤ p.1.1 ∧ InM (fun b => mayT doc t name b && !decide (b ∈ p.1.2.2)) p.1.2.1 ∧ R = posW (mayT doc t name) p.1.2.2 (doc.drop p.1.1)) (fun p => doc.length - p.1.1) ((0, L, []), k + 1) ?_ ?_ (fun ⟨⟨j, L, o⟩, n⟩ hi => ?_)
      · exact ⟨by simp, by simp, by simp, hI3.ext fun b => by simp, hR.symm⟩
      · refine (weak_e0 (t := 15) (m := 1) ?_).trans (weak_ok ?_ (Sub.cons ?_ (Sub.cons ?_ (Sub.base hf ?_))) (Nat.le_refl _))
        all_goals (simp (disch := omega) only [ite_ne, go_sem, ↓reduceIte, Nat.reduceEqDiff, Nat.reduceBEq, Nat.reduceAdd, Nat.reduceLeDiff, Nat.reduceLT, reduceCtorEq, Nat.reduceMul, Nat.reduceSub, Int.reduceEq, Int.reduceLT, Int.reduceLE, Int.reduceToNat])
      dsimp only at hi
      obtain ⟨hi1, hi2, hi3, hi4, hi5⟩ := hi
      simp (disch := omega) only [ite_ne, go_sem, ↓reduceIte, Nat.reduceEqDiff, Nat.reduceBEq, Nat.reduceAdd, Nat.reduceLeDiff, Nat.reduceLT, reduceCtorEq, Nat.reduceMul, Nat.reduceSub, Int.reduceEq, Int.reduceLT, Int.reduceLE, Int.reduceToNat]
      refine cdK_of (fun q => ?_) (fun q => ?_)
      · have q : j < doc.length := by simpa using q
        obtain ⟨x, ex⟩ : ∃ x, doc[j]? = some x := ⟨doc[j], by simp [q]⟩
        rw [drop_at ex, posW] at hi5
        by_cases c : mayT doc t name x.n = true ∧ x.n ∉ o
        · rw [if_pos c] at hi5
          have hl := lk_t hi4 (b := x.n) (by simp [c.1, c.2])
          have hg : mapC st1 o ++ [[AV.s x.n]] = mapC st1 (o ++ [x.n]) := mapC_snoc st1 o x.n
          simp (disch := omega) only [ite_ne, q, getK_s (mapC_get dfC ex), hl, go_sem, ↓reduceIte, Nat.reduceEqDiff, Nat.reduceBEq, Nat.reduceAdd, Nat.reduceLeDiff, Nat.reduceLT, reduceCtorEq, Nat.reduceMul, Nat.reduceSub, Int.reduceEq, Int.reduceLT, Int.reduceLE, Int.reduceToNat]
          refine ⟨by omega, by omega, ((j + 1, mdel x.n L, o ++ [x.n]), _), ⟨by dsimp only; omega, by dsimp only; omega, by simp; omega, hi4.del x.n fun b => ?_, hi5⟩, by dsimp only; omega, weak_ok ?_ (Sub.cons ?_ (Sub.cons ?_ (Sub.base hf ?_))) (Nat.le_refl _)⟩
          · by_cases e : b = x.n <;> simp [e]
          all_goals
            simp (disch := omega) only [ite_ne, wr64s j (by omega), List.length_append, List.length_cons, List.length_nil, go_sem, ↓reduceIte, Nat.reduceEqDiff, Nat.reduceBEq, Nat.reduceAdd, Nat.reduceLeDiff, Nat.reduceLT, reduceCtorEq, Nat.reduceMul, Nat.reduceSub, Int.reduceEq, Int.reduceLT, Int.reduceLE, Int.reduceToNat]
        · rw [if_neg c] at hi5
          have hl := lk_f hi4 (b := x.n) (by simpa using c)
          simp (disch := omega) only [ite_ne, q, getK_s (mapC_get dfC ex), hl, go_sem, ↓reduceIte, Nat.reduceEqDiff, Nat.reduceBEq, Nat.reduceAdd, Nat.reduceLeDiff, Nat.reduceLT, reduceCtorEq, Nat.reduceMul, Nat.reduceSub, Int.reduceEq, Int.reduceLT, Int.reduceLE, Int.reduceToNat]
          refine ⟨((j + 1, L, o), _), ⟨by dsimp only; omega, by dsimp only; omega, by dsimp only; omega, hi4, hi5⟩, by dsimp only; omega, weak_ok ?_ (Sub.cons ?_ (Sub.cons ?_ (Sub.base hf ?_))) (Nat.le_refl _)⟩
          all_goals
            simp (disch := omega) only [ite_ne, wr64s j (by omega), go_sem, ↓reduceIte, Nat.reduceEqDiff, Nat.reduceBEq, Nat.reduceAdd, Nat.reduceLeDiff, Nat.reduceLT, reduceCtorEq, Nat.reduceMul, Nat.reduceSub, Int.reduceEq, Int.reduceLT, Int.reduceLE, Int.reduceToNat]
      · have q : j = doc.length := by simp at q; omega
        subst q
        rw [List.drop_length, posW] at hi5
        subst hi5
        simp (disch := omega) only [ite_ne, go_sem, ↓reduceIte, Nat.reduceEqDiff, Nat.reduceBEq, Nat.reduceAdd, Nat.reduceLeDiff, Nat.reduceLT, reduceCtorEq, Nat.reduceMul, Nat.reduceSub, Int.reduceEq, Int.reduceLT, Int.reduceLE, Int.reduceToNat]
    · have hm := List.mem_of_getElem? hb
      obtain ⟨hq, rfl⟩ := hj2.get hm
      have hf1 := tFind_ok doc hd.len b
      have hg1 := hd.g b
      have hbad := badT_eq doc t name b
      unfold resD at hf1
      obtain ⟨o, ho⟩ : ∃ o, (findD' doc b).getD zDf = o := ⟨_, rfl⟩
      obtain ⟨s, hs⟩ : ∃ s, (findD' doc b).isSome = s := ⟨_, rfl⟩
      rw [ho] at hf1 hg1 hbad
      rw [hs] at hf1 hbad
      have hlt := unseen_lt hm hns
      have hdl := unseen_del L (sn ++ [b]) b
      simp (disch := omega) only [ite_ne, go_sem, ↓reduceIte, Nat.reduceEqDiff, Nat.reduceBEq, Nat.reduceAdd, Nat.reduceLeDiff, Nat.reduceLT, reduceCtorEq, Nat.reduceMul, Nat.reduceSub, Int.reduceEq, Int.reduceLT, Int.reduceLE, Int.reduceToNat]
      refine me_of (by simp) (mfind_get hj2.1 hm) ?_
      simp (disch := omega) only [ite_ne, go_sem, ↓reduceIte, Nat.reduceEqDiff, Nat.reduceBEq, Nat.reduceAdd, Nat.reduceLeDiff, Nat.reduceLT, reduceCtorEq, Nat.reduceMul, Nat.reduceSub, Int.reduceEq, Int.reduceLT, Int.reduceLE, Int.reduceToNat]
      refine vcCall.f (hf1 _ _) ?_
      simp (disch := omega) only [ite_ne, go_sem, ↓reduceIte, Nat.reduceEqDiff, Nat.reduceBEq, Nat.reduceAdd, Nat.reduceLeDiff, Nat.reduceLT, reduceCtorEq, Nat.reduceMul, Nat.reduceSub, Int.reduceEq, Int.reduceLT, Int.reduceLE, Int.reduceToNat]
      refine gCall.f (fun _ => tImpl_ok o hg1.1 hg1.2.1 name _ _) ?_
      simp (disch := omega) only [ite_ne, go_sem, ↓reduceIte, Nat.reduceEqDiff, Nat.reduceBEq, Nat.reduceAdd, Nat.reduceLeDiff, Nat.reduceLT, reduceCtorEq, Nat.reduceMul, Nat.reduceSub, Int.reduceEq, Int.reduceLT, Int.reduceLE, Int.reduceToNat]
      refine cdK_of (fun c => ?_) (fun c => ?_)
      · have hb : badT doc t name b = true := by rw [hbad]; revert c; cases s <;> simp <;> first | done | (intro h; first | exact h | (rcases h with h | h; exact .inl h; exact .inr h))
        simp (disch := omega) only [ite_ne, go_sem, ↓reduceIte, Nat.reduceEqDiff, Nat.reduceBEq, Nat.reduceAdd, Nat.reduceLeDiff, Nat.reduceLT, reduceCtorEq, Nat.reduceMul, Nat.reduceSub, Int.reduceEq, Int.reduceLT, Int.reduceLE, Int.reduceToNat]
        refine ⟨((mdel b L, sn ++ [b]), _), ⟨by dsimp only; omega, hj2.del b fun x => ?_⟩, by dsimp only; omega, weak_ok ?_ (Sub.cons ?_ (Sub.cons ?_ (Sub.cons ?_ (Sub.base hf ?_)))) (Nat.le_refl _)⟩
        · unfold mayS
          by_cases e : x = b
          · subst e; simp [hb]
          · simp [e]
        all_goals (simp (disch := omega) only [ite_ne, go_sem, ↓reduceIte, Nat.reduceEqDiff, Nat.reduceBEq, Nat.reduceAdd, Nat.reduceLeDiff, Nat.reduceLT, reduceCtorEq, Nat.reduceMul, Nat.reduceSub, Int.reduceEq, Int.reduceLT, Int.reduceLE, Int.reduceToNat])
      · have hb : badT doc t name b = false := by rw [hbad]; revert c; cases s <;> simp
        simp (disch := omega) only [ite_ne, go_sem, ↓reduceIte, Nat.reduceEqDiff, Nat.reduceBEq, Nat.reduceAdd, Nat.reduceLeDiff, Nat.reduceLT, reduceCtorEq, Nat.reduceMul, Nat.reduceSub, Int.reduceEq, Int.reduceLT, Int.reduceLE, Int.reduceToNat]
        refine ⟨((L, sn ++ [b]), _), ⟨by dsimp only; omega, hj2.ext fun x => ?_⟩, by dsimp only; omega, weak_ok ?_ (Sub.cons ?_ (Sub.cons ?_ (Sub.cons ?_ (Sub.base hf ?_)))) (Nat.le_refl _)⟩
        · unfold mayS
          by_cases e : x = b
          · subst e; simp [hb]
          · simp [e]
        all_goals (simp (disch := omega) only [ite_ne, go_sem, ↓reduceIte, Nat.reduceEqDiff, Nat.reduceBEq, Nat.reduceAdd, Nat.reduceLeDiff, Nat.reduceLT, reduceCtorEq, Nat.reduceMul, Nat.reduceSub, Int.reduceEq, Int.reduceLT, Int.reduceLE, Int.reduceToNat])
end Go.Proofs.YtgollgfifnmaaaaDoor
