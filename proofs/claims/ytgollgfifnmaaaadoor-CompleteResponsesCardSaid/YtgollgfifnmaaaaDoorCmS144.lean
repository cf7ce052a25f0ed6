/-
  The parts CmK of the proof, in one file. Conditions: none.
-/
import Derived.Test.YtgollgfifnmaaaaDoorCmS143
namespace Go.Proofs.YtgollgfifnmaaaaDoor
open Go.Eng
set_option linter.unusedVariables false
set_option linter.unusedSimpArgs false
set_option maxRecDepth 20000
set_option maxHeartbeats 1000000
abbrev oV (o : Option Val) : AV := .tp [vx (o.getD zVal), .b o.isSome]
theorem Enum_ok (s : ByteArray) (hp : CH) (m : Nat) : MeetsF Tryd.prog 41 hp m [.s s] (vx (enV s)) := by
  refine meetsF Tryd.func41 (by kernel_rfl) cc41 cr41 rfl fun hf => ?_; unfold ck41
  simp only [go_sem, ↓reduceIte, Nat.reduceEqDiff, Nat.reduceBEq, Nat.reduceAdd, Nat.reduceLeDiff, Nat.reduceLT, reduceCtorEq, Nat.reduceMul, Nat.reduceSub, Int.reduceEq, Int.reduceLT, Int.reduceLE, Int.reduceToNat]
  rfl
/-- Members of a definition, with their names. -/
def memC (p : ByteArray × List (List AV)) : List AV := [.s p.1, .ds p.2]
attribute [go_sem] memC
def unP (l : List (List AV)) : List (ByteArray × List (List AV)) := l.map fun e => match e with
  | [.s x, .ds y] => (x, y)
  | _ => (⟨#[]⟩, [])
theorem unP_eq {t : Dfn} (ht : DefOk t) : t.members = mapC memC (unP t.members) := by
  have key : ∀ l : List (List AV), (∀ e ∈ l, ∃ x y, e = [.s x, .ds y]) → l = mapC memC (unP l) := by
    intro l
    induction l with
    | nil => intro _; rfl
    | cons e l ih =>
      intro h
      obtain ⟨x, y, rfl⟩ := h e (by simp)
      have := ih fun e he => h e (by simp [he])
      show _ :: l = memC (x, y) :: mapC memC (unP l)
      rw [← this]
      rfl
  exact key _ ht.mem
theorem unP_any (l : List (List AV)) (h : ∀ e ∈ l, ∃ x y, e = [.s x, .ds y]) (s : ByteArray) : ((unP l).any fun p => decide (p.1 = s)) = decide (s ∈ unM l) := by
  induction l with
  | nil => rfl
  | cons e l ih =>
    obtain ⟨x, y, rfl⟩ := h e (by simp)
    have h2 := ih fun e he => h e (by simp [he])
    show (decide (x = s) || (unP l).any fun p => decide (p.1 = s)) = decide (s ∈ x :: unM l)
    rw [h2]
    by_cases c : x = s
    · simp [c]
    · have c' : ¬ s = x := fun e => c e.symm
      simp [c, c']
theorem idxf_mem (l : List (ByteArray × List (List AV))) (q : (ByteArray × List (List AV)) → Bool) (k : FuncId) (caps : List AV) (hl : l.length ≤ 9223372036854775806) (hp : CH) (m : Nat) (h : ∀ x ∈ l, ∀ n, MeetsF Tryd.prog k hp n ((fun p : ByteArray × List (List AV) => AV.ag [.s p.1, .ds p.2]) x :: caps) (.b (q x))) : MeetsF Tryd.prog 63 hp m [.ds (mapC memC l), .fn k caps] (.i .i64 (fidx q l 0)) := by
  refine meetsF Tryd.func63 (by kernel_rfl) cc63 cr63 rfl fun hf => ?_; unfold ck63
  simp only [go_sem, ↓reduceIte, Nat.reduceEqDiff, Nat.reduceBEq, Nat.reduceAdd, Nat.reduceLeDiff, Nat.reduceLT, reduceCtorEq, Nat.reduceMul, Nat.reduceSub, Int.reduceEq, Int.reduceLT, Int.reduceLE, Int.reduceToNat]
  refine loop (fun p : Nat × Nat => ⟨[(0, .ds (mapC memC l)), (1, .fn k caps), (7, .i .i64 l.length), (8, .i .i64 p.1)], hp, p.2⟩) (fun p => p.1 ≤ l.length ∧ fidx q l 0 = fidx q (l.drop p.1) p.1) (fun p => l.length - p.1) (0, m) ?_ ?_ (fun ⟨j, n⟩ hj => ?_)
  · exact ⟨by simp, rfl⟩
  · refine weak_ok ?_ (Sub.refl _) (Nat.le_refl _)
    simp only [go_sem, ↓reduceIte, Nat.reduceEqDiff, Nat.reduceBEq, Nat.reduceAdd, Nat.reduceLeDiff, Nat.reduceLT, reduceCtorEq, Nat.reduceMul, Nat.reduceSub, Int.reduceEq, Int.reduceLT, Int.reduceLE, Int.reduceToNat]
  dsimp only at hj
  obtain ⟨hj1, hj2⟩ := hj
  simp only [go_sem, ↓reduceIte, Nat.reduceEqDiff, Nat.reduceBEq, Nat.reduceAdd, Nat.reduceLeDiff, Nat.reduceLT, reduceCtorEq, Nat.reduceMul, Nat.reduceSub, Int.reduceEq, Int.reduceLT, Int.reduceLE, Int.reduceToNat]
  refine cdK_of (fun c => ?_) (fun c => ?_)
  · have c : j < l.length := by simpa using c
    obtain ⟨x, ex⟩ : ∃ x, l[j]? = some x := ⟨l[j], by simp [c]⟩
    have hx := h x (List.mem_of_getElem? ex) n
    rw [drop_at ex, fidx] at hj2
    simp only [c, getK_s (mapC_get memC ex), go_sem, ↓reduceIte, Nat.reduceEqDiff, Nat.reduceBEq, Nat.reduceAdd, Nat.reduceLeDiff, Nat.reduceLT, reduceCtorEq, Nat.reduceMul, Nat.reduceSub, Int.reduceEq, Int.reduceLT, Int.reduceLE, Int.reduceToNat]
    refine vcCall.f (hx) ?_
    simp only [go_sem, ↓reduceIte, Nat.reduceEqDiff, Nat.reduceBEq, Nat.reduceAdd, Nat.reduceLeDiff, Nat.reduceLT, reduceCtorEq, Nat.reduceMul, Nat.reduceSub, Int.reduceEq, Int.reduceLT, Int.reduceLE, Int.reduceToNat]
    refine cdK_of (fun c1 => ?_) (fun c1 => ?_)
    · rw [if_pos c1] at hj2
      simp only [go_sem, ↓reduceIte, Nat.reduceEqDiff, Nat.reduceBEq, Nat.reduceAdd, Nat.reduceLeDiff, Nat.reduceLT, reduceCtorEq, Nat.reduceMul, Nat.reduceSub, Int.reduceEq, Int.reduceLT, Int.reduceLE, Int.reduceToNat]
      rw [hj2]
    · rw [if_neg (by simp [c1])] at hj2
      simp only [go_sem, ↓reduceIte, Nat.reduceEqDiff, Nat.reduceBEq, Nat.reduceAdd, Nat.reduceLeDiff, Nat.reduceLT, reduceCtorEq, Nat.reduceMul, Nat.reduceSub, Int.reduceEq, Int.reduceLT, Int.reduceLE, Int.reduceToNat]
      refine ⟨(j + 1, n), ⟨by dsimp only; omega, hj2⟩, by dsimp only; omega, weak_ok ?_ (Sub.refl _) (Nat.le_refl _)⟩
      simp only [wr64s j (by omega), go_sem, ↓reduceIte, Nat.reduceEqDiff, Nat.reduceBEq, Nat.reduceAdd, Nat.reduceLeDiff, Nat.reduceLT, reduceCtorEq, Nat.reduceMul, Nat.reduceSub, Int.reduceEq, Int.reduceLT, Int.reduceLE, Int.reduceToNat]
  · have c : j = l.length := by simp at c; omega
    subst c
    rw [List.drop_length, fidx] at hj2
    simp only [go_sem, ↓reduceIte, Nat.reduceEqDiff, Nat.reduceBEq, Nat.reduceAdd, Nat.reduceLeDiff, Nat.reduceLT, reduceCtorEq, Nat.reduceMul, Nat.reduceSub, Int.reduceEq, Int.reduceLT, Int.reduceLE, Int.reduceToNat]
    rw [hj2]
theorem anyf_mem (l : List (ByteArray × List (List AV))) (q : (ByteArray × List (List AV)) → Bool) (k : FuncId) (caps : List AV) (hl : l.length ≤ 9223372036854775806) (hp : CH) (m : Nat) (h : ∀ x ∈ l, ∀ n, MeetsF Tryd.prog k hp n ((fun p : ByteArray × List (List AV) => AV.ag [.s p.1, .ds p.2]) x :: caps) (.b (q x))) : MeetsF Tryd.prog 39 hp m [.ds (mapC memC l), .fn k caps] (.b (l.any q)) := by
  rw [← fidx_any q l 0]
  refine meetsF Tryd.func39 (by kernel_rfl) cc39 cr39 rfl fun hf => ?_; unfold ck39
  simp only [go_sem, ↓reduceIte, Nat.reduceEqDiff, Nat.reduceBEq, Nat.reduceAdd, Nat.reduceLeDiff, Nat.reduceLT, reduceCtorEq, Nat.reduceMul, Nat.reduceSub, Int.reduceEq, Int.reduceLT, Int.reduceLE, Int.reduceToNat]
  refine vcCall.f (idxf_mem l q k caps hl _ _ h) ?_
  simp only [go_sem, ↓reduceIte, Nat.reduceEqDiff, Nat.reduceBEq, Nat.reduceAdd, Nat.reduceLeDiff, Nat.reduceLT, reduceCtorEq, Nat.reduceMul, Nat.reduceSub, Int.reduceEq, Int.reduceLT, Int.reduceLE, Int.reduceToNat]
theorem leaf1_ok (v : Val) (k : Nat) (hp : CH) (hk : gc hp k = .bx [.i .i64 v.k, .i .i64 v.n, .s v.s, .ds (mapC valC v.items), .ds (stC v.keys)]) (x : ByteArray × List (List AV)) (m : Nat) :
    MeetsF Tryd.prog 40 hp m [.ag [.s x.1, .ds x.2], .bx k 0] (.b (decide (x.1 = v.s))) := by
  refine meetsF Tryd.func40 (by kernel_rfl) cc40 cr40 rfl fun hf => ?_; unfold ck40
  have hlt : k < m := free_lt hf hk (fun e => by cases e)
  simp (disch := omega) only [ite_ne, hk, go_sem, ↓reduceIte, Nat.reduceEqDiff, Nat.reduceBEq, Nat.reduceAdd, Nat.reduceLeDiff, Nat.reduceLT, reduceCtorEq, Nat.reduceMul, Nat.reduceSub, Int.reduceEq, Int.reduceLT, Int.reduceLE, Int.reduceToNat]
theorem tScalarV_ok (n : ByteArray) (v : Val) (h0 : -9223372036854775808 ≤ v.n) (h1 : v.n ≤ 9223372036854775807) (hp : CH) (m : Nat) : MeetsF Tryd.prog 37 hp m [.s n, vx v] (oV (scaC n v)) := by
  unfold oV
  obtain ⟨R, hR⟩ : ∃ R, scaC n v = R := ⟨_, rfl⟩
  rw [hR]
  unfold scaC at hR
  refine meetsF Tryd.func37 (by kernel_rfl) cc37 cr37 rfl fun hf => ?_; unfold ck37
  simp only [go_sem, ↓reduceIte, Nat.reduceEqDiff, Nat.reduceBEq, Nat.reduceAdd, Nat.reduceLeDiff, Nat.reduceLT, reduceCtorEq, Nat.reduceMul, Nat.reduceSub, Int.reduceEq, Int.reduceLT, Int.reduceLE, Int.reduceToNat]
  refine cdK_of (fun c => ?_) (fun c => ?_)
  · have c : n = sInt ∧ v.k = 2 ∧ -2147483648 ≤ v.n ∧ v.n ≤ 2147483647 := by simpa [sInt, and_assoc] using c
    rw [if_pos c] at hR
    subst hR
    simp only [go_sem, ↓reduceIte, Nat.reduceEqDiff, Nat.reduceBEq, Nat.reduceAdd, Nat.reduceLeDiff, Nat.reduceLT, reduceCtorEq, Nat.reduceMul, Nat.reduceSub, Int.reduceEq, Int.reduceLT, Int.reduceLE, Int.reduceToNat]
    refine vcCall.f (Int_ok _ _ _) ?_
    simp only [go_sem, ↓reduceIte, Nat.reduceEqDiff, Nat.reduceBEq, Nat.reduceAdd, Nat.reduceLeDiff, Nat.reduceLT, reduceCtorEq, Nat.reduceMul, Nat.reduceSub, Int.reduceEq, Int.reduceLT, Int.reduceLE, Int.reduceToNat]
  have c : ¬ (n = sInt ∧ v.k = 2 ∧ -2147483648 ≤ v.n ∧ v.n ≤ 2147483647) := by
    intro h
    simp only [sInt] at h
    simp [h.1, h.2.1, h.2.2.1, h.2.2.2] at c
  rw [if_neg c] at hR
  simp only [go_sem, ↓reduceIte, Nat.reduceEqDiff, Nat.reduceBEq, Nat.reduceAdd, Nat.reduceLeDiff, Nat.reduceLT, reduceCtorEq, Nat.reduceMul, Nat.reduceSub, Int.reduceEq, Int.reduceLT, Int.reduceLE, Int.reduceToNat]
  refine cdK_of (fun c => ?_) (fun c => ?_)
  · have c : (n = sString ∨ n = sID) ∧ v.k = 3 := by simpa [sString, sID] using c
    rw [if_pos c] at hR
    subst hR
    simp only [go_sem, ↓reduceIte, Nat.reduceEqDiff, Nat.reduceBEq, Nat.reduceAdd, Nat.reduceLeDiff, Nat.reduceLT, reduceCtorEq, Nat.reduceMul, Nat.reduceSub, Int.reduceEq, Int.reduceLT, Int.reduceLE, Int.reduceToNat]
    refine vcCall.f (Text_ok _ _ _) ?_
    simp only [go_sem, ↓reduceIte, Nat.reduceEqDiff, Nat.reduceBEq, Nat.reduceAdd, Nat.reduceLeDiff, Nat.reduceLT, reduceCtorEq, Nat.reduceMul, Nat.reduceSub, Int.reduceEq, Int.reduceLT, Int.reduceLE, Int.reduceToNat]
  have c : ¬ ((n = sString ∨ n = sID) ∧ v.k = 3) := by
    intro h
    simp only [sString, sID] at h
    rcases h with ⟨h | h, h2⟩ <;> simp [h, h2] at c
  rw [if_neg c] at hR
  simp only [go_sem, ↓reduceIte, Nat.reduceEqDiff, Nat.reduceBEq, Nat.reduceAdd, Nat.reduceLeDiff, Nat.reduceLT, reduceCtorEq, Nat.reduceMul, Nat.reduceSub, Int.reduceEq, Int.reduceLT, Int.reduceLE, Int.reduceToNat]
  refine cdK_of (fun c => ?_) (fun c => ?_)
  · have c : n = sID ∧ v.k = 2 := by simpa [sID] using c
    rw [if_pos c] at hR
    subst hR
    simp only [go_sem, ↓reduceIte, Nat.reduceEqDiff, Nat.reduceBEq, Nat.reduceAdd, Nat.reduceLeDiff, Nat.reduceLT, reduceCtorEq, Nat.reduceMul, Nat.reduceSub, Int.reduceEq, Int.reduceLT, Int.reduceLE, Int.reduceToNat]
    refine vcCall.f (tDecimal_ok v.n h0 h1 _ _) ?_
    simp only [go_sem, ↓reduceIte, Nat.reduceEqDiff, Nat.reduceBEq, Nat.reduceAdd, Nat.reduceLeDiff, Nat.reduceLT, reduceCtorEq, Nat.reduceMul, Nat.reduceSub, Int.reduceEq, Int.reduceLT, Int.reduceLE, Int.reduceToNat]
    refine vcCall.f (Text_ok _ _ _) ?_
    simp only [go_sem, ↓reduceIte, Nat.reduceEqDiff, Nat.reduceBEq, Nat.reduceAdd, Nat.reduceLeDiff, Nat.reduceLT, reduceCtorEq, Nat.reduceMul, Nat.reduceSub, Int.reduceEq, Int.reduceLT, Int.reduceLE, Int.reduceToNat]
  have c : ¬ (n = sID ∧ v.k = 2) := by
    intro h
    simp only [sID] at h
    simp [h.1, h.2] at c
  rw [if_neg c] at hR
  simp only [go_sem, ↓reduceIte, Nat.reduceEqDiff, Nat.reduceBEq, Nat.reduceAdd, Nat.reduceLeDiff, Nat.reduceLT, reduceCtorEq, Nat.reduceMul, Nat.reduceSub, Int.reduceEq, Int.reduceLT, Int.reduceLE, Int.reduceToNat]
  refine cdK_of (fun c => ?_) (fun c => ?_)
  · have c : n = sBoolean ∧ v.k = 1 := by simpa [sBoolean] using c
    rw [if_pos c] at hR
    subst hR
    simp only [go_sem, ↓reduceIte, Nat.reduceEqDiff, Nat.reduceBEq, Nat.reduceAdd, Nat.reduceLeDiff, Nat.reduceLT, reduceCtorEq, Nat.reduceMul, Nat.reduceSub, Int.reduceEq, Int.reduceLT, Int.reduceLE, Int.reduceToNat]
    rfl
  have c : ¬ (n = sBoolean ∧ v.k = 1) := by
    intro h
    simp only [sBoolean] at h
    simp [h.1, h.2] at c
  rw [if_neg c] at hR
  subst hR
  simp only [go_sem, ↓reduceIte, Nat.reduceEqDiff, Nat.reduceBEq, Nat.reduceAdd, Nat.reduceLeDiff, Nat.reduceLT, reduceCtorEq, Nat.reduceMul, Nat.reduceSub, Int.reduceEq, Int.reduceLT, Int.reduceLE, Int.reduceToNat]
theorem tLeafC_ok (doc : List Dfn) (hd : DocOk doc) (n : ByteArray) (v : Val) (h0 : -9223372036854775808 ≤ v.n) (h1 : v.n ≤ 9223372036854775807) (hp : CH) (m : Nat) : MeetsF Tryd.prog 17 hp m [docx doc, .s n, vx v] (oV (leafC doc n v)) := by
  have hf1 := tFind_ok doc hd.len n
  have hg := hd.g n
  have hs := tScalarV_ok n v h0 h1
  have hk : kindD doc n = ((findD' doc n).getD zDf).k := by
    unfold kindD
    cases findD' doc n <;> rfl
  unfold oV at hs ⊢
  unfold leafC
  rw [hk]
  unfold resD at hf1
  obtain ⟨t, ht⟩ : ∃ t, (findD' doc n).getD zDf = t := ⟨_, rfl⟩
  rw [ht] at hf1 hg ⊢
  obtain ⟨g1, g2, g3⟩ := hg
  have hsc := tScalar_ok n
  by_cases c : scalB n = true
  · rw [if_pos c]
    rw [c] at hsc
    refine meetsF Tryd.func17 (by kernel_rfl) cc17 cr17 rfl fun hf => ?_; unfold ck17
    simp only [go_sem, ↓reduceIte, Nat.reduceEqDiff, Nat.reduceBEq, Nat.reduceAdd, Nat.reduceLeDiff, Nat.reduceLT, reduceCtorEq, Nat.reduceMul, Nat.reduceSub, Int.reduceEq, Int.reduceLT, Int.reduceLE, Int.reduceToNat]
    refine vcCall.f (hsc _ _) ?_
    simp only [go_sem, ↓reduceIte, Nat.reduceEqDiff, Nat.reduceBEq, Nat.reduceAdd, Nat.reduceLeDiff, Nat.reduceLT, reduceCtorEq, Nat.reduceMul, Nat.reduceSub, Int.reduceEq, Int.reduceLT, Int.reduceLE, Int.reduceToNat]
    refine vcCall.f (hs _ _) ?_
    simp only [go_sem, ↓reduceIte, Nat.reduceEqDiff, Nat.reduceBEq, Nat.reduceAdd, Nat.reduceLeDiff, Nat.reduceLT, reduceCtorEq, Nat.reduceMul, Nat.reduceSub, Int.reduceEq, Int.reduceLT, Int.reduceLE, Int.reduceToNat]
  rw [if_neg c]
  have c : scalB n = false := by simpa using c
  rw [c] at hsc
  have hany := unP_any t.members g1.mem v.s
  have hme := unP_eq g1
  have hml : (unP t.members).length ≤ 9223372036854775806 := by rw [unP, List.length_map]; omega
  obtain ⟨M, hM⟩ : ∃ M, unP t.members = M := ⟨_, rfl⟩
  rw [hM] at hany hme hml
  obtain ⟨o, ho⟩ : ∃ o, (if t.k = 4 ∧ v.k = 4 ∧ v.s ∈ unM t.members then some (enV v.s) else none) = o := ⟨_, rfl⟩
  have hmm : o = if t.k = 4 ∧ v.k = 4 ∧ (M.any fun p => decide (p.1 = v.s)) = true then some (enV v.s) else none := by
    rw [← ho, hany]
    simp only [decide_eq_true_eq]
  rw [ho]
  refine meetsF Tryd.func17 (by kernel_rfl) cc17 cr17 rfl fun hf => ?_; unfold ck17
  simp (disch := omega) only [ite_ne, hme, go_sem, ↓reduceIte, Nat.reduceEqDiff, Nat.reduceBEq, Nat.reduceAdd, Nat.reduceLeDiff, Nat.reduceLT, reduceCtorEq, Nat.reduceMul, Nat.reduceSub, Int.reduceEq, Int.reduceLT, Int.reduceLE, Int.reduceToNat]
  refine vcCall.f (hsc _ _) ?_
  simp (disch := omega) only [ite_ne, hme, go_sem, ↓reduceIte, Nat.reduceEqDiff, Nat.reduceBEq, Nat.reduceAdd, Nat.reduceLeDiff, Nat.reduceLT, reduceCtorEq, Nat.reduceMul, Nat.reduceSub, Int.reduceEq, Int.reduceLT, Int.reduceLE, Int.reduceToNat]
  refine vcCall.f (hf1 _ _) ?_
  simp (disch := omega) only [ite_ne, hme, go_sem, ↓reduceIte, Nat.reduceEqDiff, Nat.reduceBEq, Nat.reduceAdd, Nat.reduceLeDiff, Nat.reduceLT, reduceCtorEq, Nat.reduceMul, Nat.reduceSub, Int.reduceEq, Int.reduceLT, Int.reduceLE, Int.reduceToNat]
  refine gCall.f (fun _ => anyf_mem M (fun p => decide (p.1 = v.s)) _ _ hml _ _ fun x hx k => leaf1_ok v (m + 1) _ (by (simp (disch := omega) only [ite_ne, go_sem, ↓reduceIte, Nat.reduceEqDiff, Nat.reduceBEq, Nat.reduceAdd, Nat.reduceLeDiff, Nat.reduceLT, reduceCtorEq, Nat.reduceMul, Nat.reduceSub, Int.reduceEq, Int.reduceLT, Int.reduceLE, Int.reduceToNat])) x k) ?_
  simp (disch := omega) only [ite_ne, hme, go_sem, ↓reduceIte, Nat.reduceEqDiff, Nat.reduceBEq, Nat.reduceAdd, Nat.reduceLeDiff, Nat.reduceLT, reduceCtorEq, Nat.reduceMul, Nat.reduceSub, Int.reduceEq, Int.reduceLT, Int.reduceLE, Int.reduceToNat]
  refine cdK_of (fun c => ?_) (fun c => ?_)
  · have c : ¬ (t.k = 4 ∧ v.k = 4 ∧ (M.any fun p => decide (p.1 = v.s)) = true) := fun h => by simp [h.1, h.2.1, h.2.2] at c
    rw [hmm, if_neg c]
    simp only [go_sem, ↓reduceIte, Nat.reduceEqDiff, Nat.reduceBEq, Nat.reduceAdd, Nat.reduceLeDiff, Nat.reduceLT, reduceCtorEq, Nat.reduceMul, Nat.reduceSub, Int.reduceEq, Int.reduceLT, Int.reduceLE, Int.reduceToNat]
  · have c : t.k = 4 ∧ v.k = 4 ∧ (M.any fun p => decide (p.1 = v.s)) = true := by simpa [and_assoc] using c
    rw [hmm, if_pos c]
    simp only [go_sem, ↓reduceIte, Nat.reduceEqDiff, Nat.reduceBEq, Nat.reduceAdd, Nat.reduceLeDiff, Nat.reduceLT, reduceCtorEq, Nat.reduceMul, Nat.reduceSub, Int.reduceEq, Int.reduceLT, Int.reduceLE, Int.reduceToNat]
    refine vcCall.f (Enum_ok _ _ _) ?_
    simp only [go_sem, ↓reduceIte, Nat.reduceEqDiff, Nat.reduceBEq, Nat.reduceAdd, Nat.reduceLeDiff, Nat.reduceLT, reduceCtorEq, Nat.reduceMul, Nat.reduceSub, Int.reduceEq, Int.reduceLT, Int.reduceLE, Int.reduceToNat]
theorem typeOf_ok (v : Val) (hv : v.Fit) (hp : CH) (m : Nat) : MeetsF Tryd.prog 76 hp m [vx v] (.tp [.s ((getV v sT).getD zVal).s, .b ((getV v sT).isSome && decide (((getV v sT).getD zVal).k = 3))]) := by
  have h1 := get_ok v hv sT
  rw [resV_eq] at h1
  obtain ⟨x, hx⟩ : ∃ x, (getV v sT).getD zVal = x := ⟨_, rfl⟩
  obtain ⟨s, hs⟩ : ∃ s, (getV v sT).isSome = s := ⟨_, rfl⟩
  rw [hx, hs] at h1 ⊢
  refine meetsF Tryd.func76 (by kernel_rfl) cc76 cr76 rfl fun hf => ?_; unfold ck76
  simp only [go_sem, ↓reduceIte, Nat.reduceEqDiff, Nat.reduceBEq, Nat.reduceAdd, Nat.reduceLeDiff, Nat.reduceLT, reduceCtorEq, Nat.reduceMul, Nat.reduceSub, Int.reduceEq, Int.reduceLT, Int.reduceLE, Int.reduceToNat]
  refine vcCall.f (h1 _ _) ?_
  simp only [go_sem, ↓reduceIte, Nat.reduceEqDiff, Nat.reduceBEq, Nat.reduceAdd, Nat.reduceLeDiff, Nat.reduceLT, reduceCtorEq, Nat.reduceMul, Nat.reduceSub, Int.reduceEq, Int.reduceLT, Int.reduceLE, Int.reduceToNat]
theorem typO_eq (v : Val) : typO v = if (getV v sT).isSome = true ∧ ((getV v sT).getD zVal).k = 3 then some ((getV v sT).getD zVal).s else none := by
  unfold typO
  cases getV v sT <;> simp
theorem nulR_f {tw : List Int} {path : List Val} (h : nnW tw = false) : nulR tw path = (zVal, []) := by rw [nulR, if_neg (by simp [h])]
theorem nullable_of (doc : List Dfn) (hd : DocOk doc) (v : Val) (hv : v.Fit) (h0 : -9223372036854775808 ≤ v.n) (h1 : v.n ≤ 9223372036854775807) (hL : LstK doc v) (hO : ObjK doc v) : NulK doc v := by
  intro tn tw picks path htw hpk hwt hp c km kp gp P kq gq cap len n hR hq hl hP
  subst hl
  have hRe := cplV_eq doc v
  obtain ⟨R, hRR⟩ : ∃ R, cplV doc v tn tw picks path = R := ⟨_, rfl⟩
  rw [hRR] at hP ⊢
  rw [hRe, cplB] at hRR
  have hNN := tIsNN_ok tn tw htw
  have hNu := tNullable_ok tn tw htw
  have hnl := nulW_len tw
  have hIL := tIsList_ok tn (nulW tw) (by omega)
  have hIn := tInner_ok tn (nulW tw) (by omega)
  have hinl := innW_len (nulW tw)
  have hpl : path.length ≤ 1000000000000 := by omega
  simp only [List.cons_append, List.nil_append]
  have hWS : (∀ k, n ≤ k → gc hp k = .no) → wsLt n (wsC doc (posF doc) c km kp gp P R.2) := fun hf => hR.wsLt hf
  have n1 := hR.n1
  have n2 := hR.n2
  have n3 := hR.n3
  have q1 : kq ≠ c := fun e => by have := hR.hc; rw [← e, hq] at this; cases this
  have q2 : kq ≠ km := fun e => by have := hR.hm; rw [← e, hq] at this; cases this
  have q3 : kq ≠ kp := fun e => by have := hR.hk; rw [← e, hq] at this; cases this
  have hc := hR.hc
  have hm := hR.hm
  have hk := hR.hk
  refine meetsW Tryd.func56 (by kernel_rfl) cc56 cr56 rfl hWS fun hf => ?_; unfold ck56
  obtain ⟨l1, l2, l3⟩ := hR.lt hf
  have l4 : kq < n := free_lt hf hq (fun e => by cases e)
  simp (disch := omega) only [ite_ne, go_sem, ↓reduceIte, Nat.reduceEqDiff, Nat.reduceBEq, Nat.reduceAdd, Nat.reduceLeDiff, Nat.reduceLT, reduceCtorEq, Nat.reduceMul, Nat.reduceSub, Int.reduceEq, Int.reduceLT, Int.reduceLE, Int.reduceToNat]
  refine cdK_of (fun c9 => ?_) (fun c9 => ?_)
  · have c9 : v.k = 9 := by simpa using c9
    rw [if_pos c9] at hRR
    have hRR : R = (zVal, [Prb.mk path v.s]) := hRR.symm
    subst hRR
    simp (disch := omega) only [ite_ne, go_sem, ↓reduceIte, Nat.reduceEqDiff, Nat.reduceBEq, Nat.reduceAdd, Nat.reduceLeDiff, Nat.reduceLT, reduceCtorEq, Nat.reduceMul, Nat.reduceSub, Int.reduceEq, Int.reduceLT, Int.reduceLE, Int.reduceToNat]
    refine vcCall.x (fail_ok (hR.of fun j hj => ?_) path hpl (by omega) v.s kq gq cap ?_ _) ?_
    · simp only [gc_cons]
      repeat rw [if_neg (by omega)]
    · simp only [gc_cons]
      repeat rw [if_neg (by omega)]
      exact hq
    simp only [wsC, List.cons_append, List.nil_append]
    simp (disch := omega) only [ite_ne, go_sem, ↓reduceIte, Nat.reduceEqDiff, Nat.reduceBEq, Nat.reduceAdd, Nat.reduceLeDiff, Nat.reduceLT, reduceCtorEq, Nat.reduceMul, Nat.reduceSub, Int.reduceEq, Int.reduceLT, Int.reduceLE, Int.reduceToNat]
    refine up_wsC (R := [.mk path v.s]) hR ?_ ?_ ?_ fun j hj j1 j2 j3 => ?_
    all_goals (simp (disch := omega) only [ite_ne, go_sem, ↓reduceIte, Nat.reduceEqDiff, Nat.reduceBEq, Nat.reduceAdd, Nat.reduceLeDiff, Nat.reduceLT, reduceCtorEq, Nat.reduceMul, Nat.reduceSub, Int.reduceEq, Int.reduceLT, Int.reduceLE, Int.reduceToNat])
  have c9 : ¬ v.k = 9 := by simpa using c9
  rw [if_neg c9] at hRR
  simp (disch := omega) only [ite_ne, go_sem, ↓reduceIte, Nat.reduceEqDiff, Nat.reduceBEq, Nat.reduceAdd, Nat.reduceLeDiff, Nat.reduceLT, reduceCtorEq, Nat.reduceMul, Nat.reduceSub, Int.reduceEq, Int.reduceLT, Int.reduceLE, Int.reduceToNat]
  refine gCall.f (fun _ => hNN _ _) ?_
  simp (disch := omega) only [ite_ne, go_sem, ↓reduceIte, Nat.reduceEqDiff, Nat.reduceBEq, Nat.reduceAdd, Nat.reduceLeDiff, Nat.reduceLT, reduceCtorEq, Nat.reduceMul, Nat.reduceSub, Int.reduceEq, Int.reduceLT, Int.reduceLE, Int.reduceToNat]
  refine cdK_of (fun c0 => ?_) (fun c0 => ?_)
  · have c0 : v.k = 0 ∧ nnW tw = true := by simpa using c0
    rw [if_pos c0.1, nulR, if_pos c0.2] at hRR
    have hRR : R = (zVal, [Prb.mk path sNull]) := hRR.symm
    subst hRR
    simp (disch := omega) only [ite_ne, go_sem, ↓reduceIte, Nat.reduceEqDiff, Nat.reduceBEq, Nat.reduceAdd, Nat.reduceLeDiff, Nat.reduceLT, reduceCtorEq, Nat.reduceMul, Nat.reduceSub, Int.reduceEq, Int.reduceLT, Int.reduceLE, Int.reduceToNat]
    refine vcCall.x (fail_ok (hR.of fun j hj => ?_) path hpl (by omega) sNull kq gq cap ?_ _) ?_
    · simp only [gc_cons]
      repeat rw [if_neg (by omega)]
    · simp only [gc_cons]
      repeat rw [if_neg (by omega)]
      exact hq
    simp only [wsC, List.cons_append, List.nil_append]
    simp (disch := omega) only [ite_ne, go_sem, ↓reduceIte, Nat.reduceEqDiff, Nat.reduceBEq, Nat.reduceAdd, Nat.reduceLeDiff, Nat.reduceLT, reduceCtorEq, Nat.reduceMul, Nat.reduceSub, Int.reduceEq, Int.reduceLT, Int.reduceLE, Int.reduceToNat]
    refine up_wsC (R := [.mk path sNull]) hR ?_ ?_ ?_ fun j hj j1 j2 j3 => ?_
    all_goals (simp (disch := omega) only [ite_ne, go_sem, ↓reduceIte, Nat.reduceEqDiff, Nat.reduceBEq, Nat.reduceAdd, Nat.reduceLeDiff, Nat.reduceLT, reduceCtorEq, Nat.reduceMul, Nat.reduceSub, Int.reduceEq, Int.reduceLT, Int.reduceLE, Int.reduceToNat])
  simp (disch := omega) only [ite_ne, go_sem, ↓reduceIte, Nat.reduceEqDiff, Nat.reduceBEq, Nat.reduceAdd, Nat.reduceLeDiff, Nat.reduceLT, reduceCtorEq, Nat.reduceMul, Nat.reduceSub, Int.reduceEq, Int.reduceLT, Int.reduceLE, Int.reduceToNat]
  refine cdK_of (fun c00 => ?_) (fun c00 => ?_)
  · have c00 : v.k = 0 := by simpa using c00
    have cn : nnW tw = false := by simpa [c00] using c0
    rw [if_pos c00, nulR_f cn] at hRR
    subst hRR
    simp (disch := omega) only [ite_ne, go_sem, ↓reduceIte, Nat.reduceEqDiff, Nat.reduceBEq, Nat.reduceAdd, Nat.reduceLeDiff, Nat.reduceLT, reduceCtorEq, Nat.reduceMul, Nat.reduceSub, Int.reduceEq, Int.reduceLT, Int.reduceLE, Int.reduceToNat]
    refine up_wsC hR ?_ ?_ ?_ fun j hj j1 j2 j3 => ?_
    all_goals (simp (disch := omega) only [ite_ne, hc, hm, hk, List.length_nil, Nat.add_zero, List.append_nil, go_sem, ↓reduceIte, Nat.reduceEqDiff, Nat.reduceBEq, Nat.reduceAdd, Nat.reduceLeDiff, Nat.reduceLT, reduceCtorEq, Nat.reduceMul, Nat.reduceSub, Int.reduceEq, Int.reduceLT, Int.reduceLE, Int.reduceToNat])
  have c00 : ¬ v.k = 0 := by simpa using c00
  rw [if_neg c00] at hRR
  simp (disch := omega) only [ite_ne, go_sem, ↓reduceIte, Nat.reduceEqDiff, Nat.reduceBEq, Nat.reduceAdd, Nat.reduceLeDiff, Nat.reduceLT, reduceCtorEq, Nat.reduceMul, Nat.reduceSub, Int.reduceEq, Int.reduceLT, Int.reduceLE, Int.reduceToNat]
  refine vcCall.f (hNu _ _) ?_
  simp (disch := omega) only [ite_ne, go_sem, ↓reduceIte, Nat.reduceEqDiff, Nat.reduceBEq, Nat.reduceAdd, Nat.reduceLeDiff, Nat.reduceLT, reduceCtorEq, Nat.reduceMul, Nat.reduceSub, Int.reduceEq, Int.reduceLT, Int.reduceLE, Int.reduceToNat]
  refine vcCall.f (hIL _ _) ?_
  simp (disch := omega) only [ite_ne, go_sem, ↓reduceIte, Nat.reduceEqDiff, Nat.reduceBEq, Nat.reduceAdd, Nat.reduceLeDiff, Nat.reduceLT, reduceCtorEq, Nat.reduceMul, Nat.reduceSub, Int.reduceEq, Int.reduceLT, Int.reduceLE, Int.reduceToNat]
  refine cdK_of (fun cl => ?_) (fun cl => ?_)
  · rw [if_pos cl] at hRR
    rw [if_pos cl] at hIn
    simp (disch := omega) only [ite_ne, go_sem, ↓reduceIte, Nat.reduceEqDiff, Nat.reduceBEq, Nat.reduceAdd, Nat.reduceLeDiff, Nat.reduceLT, reduceCtorEq, Nat.reduceMul, Nat.reduceSub, Int.reduceEq, Int.reduceLT, Int.reduceLE, Int.reduceToNat]
    refine cdK_of (fun c5 => ?_) (fun c5 => ?_)
    · have c5 : ¬ v.k = 5 := by simpa using c5
      rw [if_neg c5] at hRR
      have hRR : R = (zVal, [Prb.mk path sType]) := hRR.symm
      subst hRR
      simp (disch := omega) only [ite_ne, go_sem, ↓reduceIte, Nat.reduceEqDiff, Nat.reduceBEq, Nat.reduceAdd, Nat.reduceLeDiff, Nat.reduceLT, reduceCtorEq, Nat.reduceMul, Nat.reduceSub, Int.reduceEq, Int.reduceLT, Int.reduceLE, Int.reduceToNat]
      refine vcCall.x (fail_ok (hR.of fun j hj => ?_) path hpl (by omega) sType kq gq cap ?_ _) ?_
      · simp only [gc_cons]
        repeat rw [if_neg (by omega)]
      · simp only [gc_cons]
        repeat rw [if_neg (by omega)]
        exact hq
      simp only [wsC, List.cons_append, List.nil_append]
      simp (disch := omega) only [ite_ne, go_sem, ↓reduceIte, Nat.reduceEqDiff, Nat.reduceBEq, Nat.reduceAdd, Nat.reduceLeDiff, Nat.reduceLT, reduceCtorEq, Nat.reduceMul, Nat.reduceSub, Int.reduceEq, Int.reduceLT, Int.reduceLE, Int.reduceToNat]
      refine up_wsC (R := [.mk path sType]) hR ?_ ?_ ?_ fun j hj j1 j2 j3 => ?_
      all_goals (simp (disch := omega) only [ite_ne, go_sem, ↓reduceIte, Nat.reduceEqDiff, Nat.reduceBEq, Nat.reduceAdd, Nat.reduceLeDiff, Nat.reduceLT, reduceCtorEq, Nat.reduceMul, Nat.reduceSub, Int.reduceEq, Int.reduceLT, Int.reduceLE, Int.reduceToNat])
    have c5 : v.k = 5 := by simpa using c5
    rw [if_pos c5] at hRR
    subst hRR
    simp (disch := omega) only [ite_ne, go_sem, ↓reduceIte, Nat.reduceEqDiff, Nat.reduceBEq, Nat.reduceAdd, Nat.reduceLeDiff, Nat.reduceLT, reduceCtorEq, Nat.reduceMul, Nat.reduceSub, Int.reduceEq, Int.reduceLT, Int.reduceLE, Int.reduceToNat]
    refine vcCall.f (hIn _ _) ?_
    simp (disch := omega) only [ite_ne, go_sem, ↓reduceIte, Nat.reduceEqDiff, Nat.reduceBEq, Nat.reduceAdd, Nat.reduceLeDiff, Nat.reduceLT, reduceCtorEq, Nat.reduceMul, Nat.reduceSub, Int.reduceEq, Int.reduceLT, Int.reduceLE, Int.reduceToNat]
    refine vcCall.x (hL tn (innW (nulW tw)) picks path (by omega) hpk hwt _ c km kp gp P kq gq cap path.length _ (hR.of fun j hj => ?_) ?_ rfl hP) ?_
    · simp only [gc_cons]
      repeat rw [if_neg (by omega)]
    · simp only [gc_cons]
      repeat rw [if_neg (by omega)]
      exact hq
    simp only [wsC, List.cons_append, List.nil_append]
    simp (disch := omega) only [ite_ne, go_sem, ↓reduceIte, Nat.reduceEqDiff, Nat.reduceBEq, Nat.reduceAdd, Nat.reduceLeDiff, Nat.reduceLT, reduceCtorEq, Nat.reduceMul, Nat.reduceSub, Int.reduceEq, Int.reduceLT, Int.reduceLE, Int.reduceToNat]
    refine up_wsC hR ?_ ?_ ?_ fun j hj j1 j2 j3 => ?_
    all_goals (simp (disch := omega) only [ite_ne, go_sem, ↓reduceIte, Nat.reduceEqDiff, Nat.reduceBEq, Nat.reduceAdd, Nat.reduceLeDiff, Nat.reduceLT, reduceCtorEq, Nat.reduceMul, Nat.reduceSub, Int.reduceEq, Int.reduceLT, Int.reduceLE, Int.reduceToNat])
  rw [if_neg (by simp [cl])] at hRR
  simp (disch := omega) only [ite_ne, hc, go_sem, ↓reduceIte, Nat.reduceEqDiff, Nat.reduceBEq, Nat.reduceAdd, Nat.reduceLeDiff, Nat.reduceLT, reduceCtorEq, Nat.reduceMul, Nat.reduceSub, Int.reduceEq, Int.reduceLT, Int.reduceLE, Int.reduceToNat]
  refine dCallR.f (fun _ hp' e => tLeaf_ok doc hd.len tn _ _) ?_
  simp (disch := omega) only [ite_ne, go_sem, ↓reduceIte, Nat.reduceEqDiff, Nat.reduceBEq, Nat.reduceAdd, Nat.reduceLeDiff, Nat.reduceLT, reduceCtorEq, Nat.reduceMul, Nat.reduceSub, Int.reduceEq, Int.reduceLT, Int.reduceLE, Int.reduceToNat]
  refine cdK_of (fun cf => ?_) (fun cf => ?_)
  · rw [if_pos cf] at hRR
    have hlf := tLeafC_ok doc hd tn v h0 h1
    obtain ⟨o, ho⟩ : ∃ o, leafC doc tn v = o := ⟨_, rfl⟩
    rw [ho] at hlf hRR
    unfold oV at hlf
    simp (disch := omega) only [ite_ne, hc, go_sem, ↓reduceIte, Nat.reduceEqDiff, Nat.reduceBEq, Nat.reduceAdd, Nat.reduceLeDiff, Nat.reduceLT, reduceCtorEq, Nat.reduceMul, Nat.reduceSub, Int.reduceEq, Int.reduceLT, Int.reduceLE, Int.reduceToNat]
    refine dCallR.f (fun _ hp' e => hlf _ _) ?_
    simp (disch := omega) only [ite_ne, go_sem, ↓reduceIte, Nat.reduceEqDiff, Nat.reduceBEq, Nat.reduceAdd, Nat.reduceLeDiff, Nat.reduceLT, reduceCtorEq, Nat.reduceMul, Nat.reduceSub, Int.reduceEq, Int.reduceLT, Int.reduceLE, Int.reduceToNat]
    refine ⟨by omega, ?_⟩
    refine cdK_of (fun cs => ?_) (fun cs => ?_)
    · cases o with
      | none => cases cs
      | some x =>
        dsimp only at hRR
        subst hRR
        simp (disch := omega) only [ite_ne, go_sem, ↓reduceIte, Nat.reduceEqDiff, Nat.reduceBEq, Nat.reduceAdd, Nat.reduceLeDiff, Nat.reduceLT, reduceCtorEq, Nat.reduceMul, Nat.reduceSub, Int.reduceEq, Int.reduceLT, Int.reduceLE, Int.reduceToNat]
        refine up_wsC hR ?_ ?_ ?_ fun j hj j1 j2 j3 => ?_
        all_goals (simp (disch := omega) only [ite_ne, hc, hm, hk, List.length_nil, Nat.add_zero, List.append_nil, go_sem, ↓reduceIte, Nat.reduceEqDiff, Nat.reduceBEq, Nat.reduceAdd, Nat.reduceLeDiff, Nat.reduceLT, reduceCtorEq, Nat.reduceMul, Nat.reduceSub, Int.reduceEq, Int.reduceLT, Int.reduceLE, Int.reduceToNat])
    · cases o with
      | some x => cases cs
      | none =>
        have hRR : R = (zVal, [Prb.mk path sType]) := hRR.symm
        subst hRR
        simp (disch := omega) only [ite_ne, go_sem, ↓reduceIte, Nat.reduceEqDiff, Nat.reduceBEq, Nat.reduceAdd, Nat.reduceLeDiff, Nat.reduceLT, reduceCtorEq, Nat.reduceMul, Nat.reduceSub, Int.reduceEq, Int.reduceLT, Int.reduceLE, Int.reduceToNat]
        refine vcCall.x (fail_ok (hR.of fun j hj => ?_) path hpl (by omega) sType kq gq cap ?_ _) ?_
        · simp only [gc_cons]
          repeat rw [if_neg (by omega)]
        · simp only [gc_cons]
          repeat rw [if_neg (by omega)]
          exact hq
        simp only [wsC, List.cons_append, List.nil_append]
        simp (disch := omega) only [ite_ne, go_sem, ↓reduceIte, Nat.reduceEqDiff, Nat.reduceBEq, Nat.reduceAdd, Nat.reduceLeDiff, Nat.reduceLT, reduceCtorEq, Nat.reduceMul, Nat.reduceSub, Int.reduceEq, Int.reduceLT, Int.reduceLE, Int.reduceToNat]
        refine up_wsC (R := [.mk path sType]) hR ?_ ?_ ?_ fun j hj j1 j2 j3 => ?_
        all_goals (simp (disch := omega) only [ite_ne, go_sem, ↓reduceIte, Nat.reduceEqDiff, Nat.reduceBEq, Nat.reduceAdd, Nat.reduceLeDiff, Nat.reduceLT, reduceCtorEq, Nat.reduceMul, Nat.reduceSub, Int.reduceEq, Int.reduceLT, Int.reduceLE, Int.reduceToNat])
  rw [if_neg (by simp [cf])] at hRR
  have hty := typeOf_ok v hv
  have hte := typO_eq v
  obtain ⟨x, hx⟩ : ∃ x, (getV v sT).getD zVal = x := ⟨_, rfl⟩
  obtain ⟨s, hs⟩ : ∃ s, (getV v sT).isSome = s := ⟨_, rfl⟩
  rw [hx, hs] at hty hte
  have hcm := tComposite_ok doc hd.len tn
  simp (disch := omega) only [ite_ne, go_sem, ↓reduceIte, Nat.reduceEqDiff, Nat.reduceBEq, Nat.reduceAdd, Nat.reduceLeDiff, Nat.reduceLT, reduceCtorEq, Nat.reduceMul, Nat.reduceSub, Int.reduceEq, Int.reduceLT, Int.reduceLE, Int.reduceToNat]
  refine vcCall.f (hty _ _) ?_
  simp (disch := omega) only [ite_ne, hc, go_sem, ↓reduceIte, Nat.reduceEqDiff, Nat.reduceBEq, Nat.reduceAdd, Nat.reduceLeDiff, Nat.reduceLT, reduceCtorEq, Nat.reduceMul, Nat.reduceSub, Int.reduceEq, Int.reduceLT, Int.reduceLE, Int.reduceToNat]
  refine dCall.f (fun _ hp' e => hcm _ _) ?_
  simp (disch := omega) only [ite_ne, hc, go_sem, ↓reduceIte, Nat.reduceEqDiff, Nat.reduceBEq, Nat.reduceAdd, Nat.reduceLeDiff, Nat.reduceLT, reduceCtorEq, Nat.reduceMul, Nat.reduceSub, Int.reduceEq, Int.reduceLT, Int.reduceLE, Int.reduceToNat]
  refine dCall.f (fun _ hp' e => is_ok (α := .rw kp gp P.length) hd ((e c (.inl (by omega))).trans ?_) ((e km (.inl (by omega))).trans ?_) x.s tn _) ?_
  case refine_3 =>
    simp (disch := omega) only [ite_ne, go_sem, ↓reduceIte, Nat.reduceEqDiff, Nat.reduceBEq, Nat.reduceAdd, Nat.reduceLeDiff, Nat.reduceLT, reduceCtorEq, Nat.reduceMul, Nat.reduceSub, Int.reduceEq, Int.reduceLT, Int.reduceLE, Int.reduceToNat]
    refine cdK_of (fun cc => ?_) (fun cc => ?_)
    · have hfl : R = failR path sType := by
        rw [← hRR]
        cases ht : typO v with
        | none => rfl
        | some on =>
          rw [hte] at ht
          split at ht
          · rename_i hcnd
            cases ht
            have k6 : v.k = 6 := typO_k (by rw [hte, if_pos hcnd])
            dsimp only
            rw [if_neg (fun hh => by simp [k6, hcnd.1, hcnd.2, hh.1, hh.2] at cc)]
          · cases ht
      have hfl : R = (zVal, [Prb.mk path sType]) := hfl
      subst hfl
      simp (disch := omega) only [ite_ne, go_sem, ↓reduceIte, Nat.reduceEqDiff, Nat.reduceBEq, Nat.reduceAdd, Nat.reduceLeDiff, Nat.reduceLT, reduceCtorEq, Nat.reduceMul, Nat.reduceSub, Int.reduceEq, Int.reduceLT, Int.reduceLE, Int.reduceToNat]
      refine vcCall.x (fail_ok (hR.of fun j hj => ?_) path hpl (by omega) sType kq gq cap ?_ _) ?_
      · simp only [gc_cons]
        repeat rw [if_neg (by omega)]
      · simp only [gc_cons]
        repeat rw [if_neg (by omega)]
        exact hq
      simp only [wsC, List.cons_append, List.nil_append]
      simp (disch := omega) only [ite_ne, go_sem, ↓reduceIte, Nat.reduceEqDiff, Nat.reduceBEq, Nat.reduceAdd, Nat.reduceLeDiff, Nat.reduceLT, reduceCtorEq, Nat.reduceMul, Nat.reduceSub, Int.reduceEq, Int.reduceLT, Int.reduceLE, Int.reduceToNat]
      refine up_wsC (R := [.mk path sType]) hR ?_ ?_ ?_ fun j hj j1 j2 j3 => ?_
      all_goals (simp (disch := omega) only [ite_ne, go_sem, ↓reduceIte, Nat.reduceEqDiff, Nat.reduceBEq, Nat.reduceAdd, Nat.reduceLeDiff, Nat.reduceLT, reduceCtorEq, Nat.reduceMul, Nat.reduceSub, Int.reduceEq, Int.reduceLT, Int.reduceLE, Int.reduceToNat])
    · have hcc : v.k = 6 ∧ s = true ∧ x.k = 3 ∧ compB doc tn = true ∧ x.s ∈ posL doc tn := by simpa [and_assoc] using cc
      obtain ⟨k6, s1, x3, cb, xp⟩ := hcc
      rw [if_pos ⟨s1, x3⟩] at hte
      rw [hte] at hRR
      dsimp only at hRR
      rw [if_pos ⟨cb, xp⟩] at hRR
      subst hRR
      have hw2 : 2 ≤ wtV v := by
        cases hg : getV v sT with
        | none => rw [hg] at hs; subst s1; cases hs
        | some y =>
          have := wtL_mem (getV_mem hg)
          have := wtV_pos y
          rw [wtV_eq]
          omega
      simp (disch := omega) only [ite_ne, go_sem, ↓reduceIte, Nat.reduceEqDiff, Nat.reduceBEq, Nat.reduceAdd, Nat.reduceLeDiff, Nat.reduceLT, reduceCtorEq, Nat.reduceMul, Nat.reduceSub, Int.reduceEq, Int.reduceLT, Int.reduceLE, Int.reduceToNat]
      refine vcCall.x (hO x.s picks path k6 hw2 hpk hwt _ c km kp gp P kq gq cap path.length _ (hR.of fun j hj => ?_) ?_ rfl hP) ?_
      · simp only [gc_cons]
        repeat rw [if_neg (by omega)]
      · simp only [gc_cons]
        repeat rw [if_neg (by omega)]
        exact hq
      simp only [wsC, List.cons_append, List.nil_append]
      simp (disch := omega) only [ite_ne, go_sem, ↓reduceIte, Nat.reduceEqDiff, Nat.reduceBEq, Nat.reduceAdd, Nat.reduceLeDiff, Nat.reduceLT, reduceCtorEq, Nat.reduceMul, Nat.reduceSub, Int.reduceEq, Int.reduceLT, Int.reduceLE, Int.reduceToNat]
      refine up_wsC hR ?_ ?_ ?_ fun j hj j1 j2 j3 => ?_
      all_goals (simp (disch := omega) only [ite_ne, go_sem, ↓reduceIte, Nat.reduceEqDiff, Nat.reduceBEq, Nat.reduceAdd, Nat.reduceLeDiff, Nat.reduceLT, reduceCtorEq, Nat.reduceMul, Nat.reduceSub, Int.reduceEq, Int.reduceLT, Int.reduceLE, Int.reduceToNat])
  all_goals (simp (disch := omega) only [ite_ne, hc, hm, go_sem, ↓reduceIte, Nat.reduceEqDiff, Nat.reduceBEq, Nat.reduceAdd, Nat.reduceLeDiff, Nat.reduceLT, reduceCtorEq, Nat.reduceMul, Nat.reduceSub, Int.reduceEq, Int.reduceLT, Int.reduceLE, Int.reduceToNat])
/-- Whole numbers of values are of 64 bits. -/
theorem cpl_ok (doc : List Dfn) (hd : DocOk doc) (v : Val) : v.Fit → v.Rng → CplK doc v := by
  have hzf : zVal.Fit := zval_fit
  have hzr : zVal.Rng := .mk _ (by decide) (by decide) (by simp [zVal, Val.items_mk])
  have hz : CplK doc zVal := by
    refine complete_of doc zVal (nullable_of doc hd zVal hzf hzr.l hzr.u (list_of doc zVal hzf fun x hx => ?_) ?_)
    · simp [zVal, Val.items_mk] at hx
    · intro on picks path h6
      simp [zVal, Val.k_mk] at h6
  exact Val.ind (Q := fun v => v.Fit → v.Rng → CplK doc v) (fun v ih hv hr => complete_of doc v (nullable_of doc hd v hv hr.l hr.u (list_of doc v hv fun x hx => ih x hx (hv.x hx) (hr.x hx)) (object_of doc v hv (fun x hx => ih x hx (hv.x hx) (hr.x hx)) hz))) v
end Go.Proofs.YtgollgfifnmaaaaDoor
