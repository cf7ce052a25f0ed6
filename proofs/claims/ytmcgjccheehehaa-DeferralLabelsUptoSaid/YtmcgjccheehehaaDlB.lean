/-
  Labels by the reference. Conditions: none.
-/
import Derived.Test.YtmcgjccheehehaaDlA
namespace Go.Proofs.Ytmcgjccheehehaa
open Go.Eng
set_option linter.unusedVariables false
set_option linter.unusedSimpArgs false
set_option maxRecDepth 20000
def addA : List ByteArray → List ByteArray → List ByteArray
  | [], o => o
  | x :: r, o => addA r (if 0 ≤ ix x o 0 then o else o ++ [x])
def lbl (l : ByteArray) : List ByteArray := if l = ⟨#[]⟩ then [] else [l]
theorem ix_mem (k : ByteArray) : ∀ (l : List ByteArray) (j : Nat), 0 ≤ ix k l j ↔ k ∈ l
  | [], j => by simp [ix]
  | x :: r, j => by
    rw [ix]
    split
    · rename_i h; simp [h]
    · rename_i h; rw [ix_mem k r (j + 1)]; simp [h]
theorem addA_app : ∀ (a b o : List ByteArray), addA (a ++ b) o = addA b (addA a o)
  | [], b, o => rfl
  | x :: a, b, o => by rw [List.cons_append, addA, addA, addA_app a b]
theorem addA_mem {y : ByteArray} : ∀ (a o : List ByteArray), y ∈ addA a o ↔ y ∈ a ∨ y ∈ o
  | [], o => by simp [addA]
  | x :: a, o => by
    rw [addA, addA_mem a]
    split
    · rename_i h
      rw [ix_mem] at h
      simp
      constructor
      · rintro (h1 | h1) <;> simp [h1]
      · rintro ((h1 | h1) | h1)
        · subst h1; exact .inr h
        · exact .inl h1
        · exact .inr h1
    · simp
      constructor
      · rintro (h1 | h1 | h1) <;> simp [h1]
      · rintro ((h1 | h1) | h1) <;> simp [h1]
theorem addA_len : ∀ (a o : List ByteArray), o.length ≤ (addA a o).length ∧ (addA a o).length ≤ o.length + a.length
  | [], o => by simp [addA]
  | x :: a, o => by
    rw [addA]
    have := addA_len a (if 0 ≤ ix x o 0 then o else o ++ [x])
    split at this <;> rename_i h <;> simp [h] at this ⊢ <;> omega
theorem addA_dd : ∀ (ls acc out : List ByteArray), addA (addA ls acc) out = addA ls (addA acc out)
  | [], acc, out => rfl
  | x :: ls, acc, out => by
    rw [addA, addA_dd ls]
    show addA ls _ = addA (x :: ls) (addA acc out)
    rw [addA]
    congr 1
    by_cases h : x ∈ acc
    · rw [if_pos ((ix_mem x acc 0).2 h), if_pos ((ix_mem x _ 0).2 ((addA_mem acc out).2 (.inl h)))]
    · rw [if_neg (fun q => h ((ix_mem x acc 0).1 q)), addA_app]
      rfl
mutual
def flP : Pk → List ByteArray
  | .mk _ _ _ _ _ _ l _ p => lbl l ++ flL p
def flL : List Pk → List ByteArray
  | [] => []
  | p :: r => flP p ++ flL r
end
theorem flP_eq (p : Pk) : flP p = lbl p.label ++ flL p.picks := by cases p; rw [flP]; rfl
mutual
def owP : Pk → List ByteArray
  | .mk _ _ _ _ _ _ l _ p => lbl l ++ rlK p []
def rlK : List Pk → List ByteArray → List ByteArray
  | [], o => o
  | p :: r, o => rlK r (addA (owP p) o)
end
theorem owP_eq (p : Pk) : owP p = lbl p.label ++ rlK p.picks [] := by cases p; rw [owP]; rfl
theorem addLb_eq (l : ByteArray) (o : List ByteArray) : addLb l o = addA (lbl l) o := by
  unfold addLb lbl
  by_cases h : l = ⟨#[]⟩
  · simp [h, addA]
  · simp [h, addA]
    split <;> rename_i h2 <;> split <;> first | rfl | (exfalso; omega)
theorem labL_fl : ∀ (l : List Pk), (∀ p ∈ l, ∀ o, labL p.picks o = addA (flL p.picks) o) → ∀ o, labL l o = addA (flL l) o
  | [], _, o => rfl
  | p :: r, h, o => by
    rw [labL, labP_eq, flL, flP_eq, addA_app, addA_app, h p (by simp), addLb_eq]
    exact labL_fl r (fun q hq => h q (by simp [hq])) _
theorem rlK_fl : ∀ (l : List Pk), (∀ p ∈ l, ∀ o, rlK p.picks o = addA (flL p.picks) o) → ∀ o, rlK l o = addA (flL l) o
  | [], _, o => rfl
  | p :: r, h, o => by
    rw [rlK, owP_eq, flL, flP_eq, addA_app, addA_app, addA_app, h p (by simp), addA_dd]
    exact rlK_fl r (fun q hq => h q (by simp [hq])) _
theorem rl_lab (l : List Pk) (o : List ByteArray) : rlK l o = labL l o := by
  rw [rlK_fl l (fun p _ => Pk.ind (Q := fun p => ∀ o, rlK p.picks o = addA (flL p.picks) o) (fun v ih => rlK_fl v.picks ih) p),
    labL_fl l (fun p _ => Pk.ind (Q := fun p => ∀ o, labL p.picks o = addA (flL p.picks) o) (fun v ih => labL_fl v.picks ih) p)]
theorem lbl_len (l : ByteArray) : (lbl l).length ≤ 1 := by unfold lbl; split <;> simp
theorem rlK_len (l : List Pk) (o : List ByteArray) : o.length ≤ (rlK l o).length ∧ (rlK l o).length ≤ o.length + wtKs l := by
  rw [rl_lab]
  exact labL_lens l o
theorem owP_len (p : Pk) : (owP p).length ≤ wtK p := by
  rw [owP_eq, wtK_eq]
  have h1 := lbl_len p.label
  have h2 := rlK_len p.picks []
  simp at h2 ⊢
  omega
theorem has_r (l : List ByteArray) (k : ByteArray) (hl : l.length ≤ 1000000000000) (c g len : Nat) (hn : l.length = len) (hp : CH) (m : Nat) (hk : gc hp c = .rw g 1 (stC l)) : MeetsF Try.prog 53 hp m [.rw c g len, .s k] (.b (decide (0 ≤ ix k l 0))) := by
  subst hn
  refine meetsF Try.func53 (by kernel_rfl) cc53 cr53 rfl fun hf => ?_; unfold ck53
  simp only [hk, go_sem, ↓reduceIte, Nat.reduceEqDiff, Nat.reduceBEq, Nat.reduceAdd, Nat.reduceLeDiff, Nat.reduceLT, reduceCtorEq, Nat.reduceMul, Nat.reduceSub, Int.reduceEq, Int.reduceLT, Int.reduceLE, Int.reduceToNat]
  refine loop (fun p : Nat × Nat => ⟨[(0, .rw c g l.length), (1, .s k), (5, .i .i64 p.1)], hp, p.2⟩) (fun p => p.1 ≤ l.length ∧ ix k l 0 = ix k (l.drop p.1) p.1) (fun p => l.length - p.1) (0, m) ?_ ?_ (fun ⟨j, n⟩ hj => ?_)
  · exact ⟨by simp, rfl⟩
  · refine weak_ok ?_ (Sub.refl _) (Nat.le_refl _)
    simp only [go_sem, ↓reduceIte, Nat.reduceEqDiff, Nat.reduceBEq, Nat.reduceAdd, Nat.reduceLeDiff, Nat.reduceLT, reduceCtorEq, Nat.reduceMul, Nat.reduceSub, Int.reduceEq, Int.reduceLT, Int.reduceLE, Int.reduceToNat]
  dsimp only at hj
  simp only [hk, go_sem, ↓reduceIte, Nat.reduceEqDiff, Nat.reduceBEq, Nat.reduceAdd, Nat.reduceLeDiff, Nat.reduceLT, reduceCtorEq, Nat.reduceMul, Nat.reduceSub, Int.reduceEq, Int.reduceLT, Int.reduceLE, Int.reduceToNat]
  refine cdK_of (fun d => ?_) (fun d => ?_)
  · have d : j < l.length := by simpa using d
    obtain ⟨x, ex⟩ : ∃ x, l[j]? = some x := ⟨l[j], by simp [d]⟩
    have e := drop_at ex
    rw [e, ix] at hj
    simp only [hk, d, getK_s (mapC_get st1 ex), go_sem, ↓reduceIte, Nat.reduceEqDiff, Nat.reduceBEq, Nat.reduceAdd, Nat.reduceLeDiff, Nat.reduceLT, reduceCtorEq, Nat.reduceMul, Nat.reduceSub, Int.reduceEq, Int.reduceLT, Int.reduceLE, Int.reduceToNat]
    refine cdK_of (fun c1 => ?_) (fun c1 => ?_)
    · have c1 : k = x := by simp at c1; exact c1.symm
      rw [if_pos c1] at hj
      have e2 : decide (0 ≤ ix k l 0) = true := by rw [hj.2]; simp
      rw [e2]
      simp only [go_sem, ↓reduceIte, Nat.reduceEqDiff, Nat.reduceBEq, Nat.reduceAdd, Nat.reduceLeDiff, Nat.reduceLT, reduceCtorEq, Nat.reduceMul, Nat.reduceSub, Int.reduceEq, Int.reduceLT, Int.reduceLE, Int.reduceToNat]
    · have c1 : ¬ k = x := by simp at c1; exact fun e => c1 e.symm
      rw [if_neg c1] at hj
      simp only [go_sem, ↓reduceIte, Nat.reduceEqDiff, Nat.reduceBEq, Nat.reduceAdd, Nat.reduceLeDiff, Nat.reduceLT, reduceCtorEq, Nat.reduceMul, Nat.reduceSub, Int.reduceEq, Int.reduceLT, Int.reduceLE, Int.reduceToNat]
      refine ⟨(j + 1, n), by dsimp only; omega, by dsimp only; omega, weak_ok ?_ (Sub.refl _) (Nat.le_refl _)⟩
      simp only [wr64s j (by omega), go_sem, ↓reduceIte, Nat.reduceEqDiff, Nat.reduceBEq, Nat.reduceAdd, Nat.reduceLeDiff, Nat.reduceLT, reduceCtorEq, Nat.reduceMul, Nat.reduceSub, Int.reduceEq, Int.reduceLT, Int.reduceLE, Int.reduceToNat]
  · have d : j = l.length := by simp at d; omega
    subst d
    rw [List.drop_length, ix] at hj
    have e2 : decide (0 ≤ ix k l 0) = false := by rw [hj.2]; simp
    rw [e2]
    simp only [go_sem, ↓reduceIte, Nat.reduceEqDiff, Nat.reduceBEq, Nat.reduceAdd, Nat.reduceLeDiff, Nat.reduceLT, reduceCtorEq, Nat.reduceMul, Nat.reduceSub, Int.reduceEq, Int.reduceLT, Int.reduceLE, Int.reduceToNat]
theorem rlabels_of (l : List Pk) (hw : wtKs l ≤ 1000000000000) (h : ∀ p ∈ l, ∀ hp m, MeetsF Try.prog 19 hp m [.ds (mapC pkC p.picks)] (.ds (stC (rlK p.picks [])))) (hp : CH) (m : Nat) : MeetsF Try.prog 19 hp m [.ds (mapC pkC l)] (.ds (stC (rlK l []))) := by
  obtain ⟨L, hL⟩ : ∃ L, rlK l [] = L := ⟨_, rfl⟩
  have hlen := wtKs_len l
  rw [hL]
  refine meetsF Try.func19 (by kernel_rfl) cc19 cr19 rfl fun hf => ?_; unfold ck19
  simp only [go_sem, ↓reduceIte, Nat.reduceEqDiff, Nat.reduceBEq, Nat.reduceAdd, Nat.reduceLeDiff, Nat.reduceLT, reduceCtorEq, Nat.reduceMul, Nat.reduceSub, Int.reduceEq, Int.reduceLT, Int.reduceLE, Int.reduceToNat]
  refine loop (fun p : Nat × (List ByteArray × Nat) × Nat => ⟨[(0, .ds (mapC pkC l)), (3, .rw m p.2.1.2 p.2.1.1.length), (4, .i .i64 p.1)], (m, .rw p.2.1.2 1 (stC p.2.1.1)) :: hp, p.2.2⟩)
    (fun p => p.1 ≤ l.length ∧ m + 1 ≤ p.2.2 ∧ L = rlK (l.drop p.1) p.2.1.1 ∧ p.2.1.1.length + wtKs (l.drop p.1) ≤ 1000000000000) (fun p => l.length - p.1) (0, ([], 0), m + 1) ?_ ?_ (fun ⟨j, ⟨o, G⟩, n⟩ hj => ?_)
  · exact ⟨by simp, by simp, hL.symm, by simpa using hw⟩
  · refine (weak_e0 (t := 3) (m := 1) ?_).trans (weak_ok ?_ (Sub.cons ?_ (Sub.base hf ?_)) (Nat.le_refl _))
    all_goals simp only [go_sem, ↓reduceIte, Nat.reduceEqDiff, Nat.reduceBEq, Nat.reduceAdd, Nat.reduceLeDiff, Nat.reduceLT, reduceCtorEq, Nat.reduceMul, Nat.reduceSub, Int.reduceEq, Int.reduceLT, Int.reduceLE, Int.reduceToNat]
  dsimp only at hj
  obtain ⟨hj1, hj2, hj3, hj6⟩ := hj
  have z1 : ¬ n = m := by omega
  have z2 : m ≤ n := by omega
  have z3 : ¬ m = n := by omega
  simp only [z1, z2, z3, go_sem, ↓reduceIte, Nat.reduceEqDiff, Nat.reduceBEq, Nat.reduceAdd, Nat.reduceLeDiff, Nat.reduceLT, reduceCtorEq, Nat.reduceMul, Nat.reduceSub, Int.reduceEq, Int.reduceLT, Int.reduceLE, Int.reduceToNat]
  refine cdK_of (fun d => ?_) (fun d => ?_)
  · have d : j < l.length := by simpa using d
    obtain ⟨x, ex⟩ : ∃ x, l[j]? = some x := ⟨l[j], by simp [d]⟩
    have hx := h x (List.mem_of_getElem? ex)
    rw [drop_at ex] at hj3 hj6
    rw [rlK] at hj3
    rw [wtKs] at hj6
    have how := owP_len x
    have hwx := wtK_eq x
    have hrl := rlK_len x.picks []
    simp only [List.length_nil, Nat.zero_add] at hrl
    simp only [z1, z2, z3, d, getK_s (mapC_get pkC ex), go_sem, ↓reduceIte, Nat.reduceEqDiff, Nat.reduceBEq, Nat.reduceAdd, Nat.reduceLeDiff, Nat.reduceLT, reduceCtorEq, Nat.reduceMul, Nat.reduceSub, Int.reduceEq, Int.reduceLT, Int.reduceLE, Int.reduceToNat]
    refine cdK_of (fun c => ?_) (fun c => ?_)
    · have c : ¬ x.label = ⟨#[]⟩ := by simpa using c
      have e1 : owP x = [x.label] ++ rlK x.picks [] := by rw [owP_eq, lbl, if_neg c]
      obtain ⟨ow, hol⟩ : ∃ ow, [x.label] ++ rlK x.picks [] = ow := ⟨_, rfl⟩
      have how2 : ow.length = 1 + (rlK x.picks []).length := by rw [← hol]; simp; omega
      rw [e1, hol] at hj3
      have how3 : [AV.s x.label] :: mapC st1 (rlK x.picks []) = stC ow := by rw [← hol]; rfl
      have how4 : 1 + (rlK x.picks []).length = ow.length := how2.symm
      simp only [z1, z2, z3, d, getK_s (mapC_get pkC ex), go_sem, ↓reduceIte, Nat.reduceEqDiff, Nat.reduceBEq, Nat.reduceAdd, Nat.reduceLeDiff, Nat.reduceLT, reduceCtorEq, Nat.reduceMul, Nat.reduceSub, Int.reduceEq, Int.reduceLT, Int.reduceLE, Int.reduceToNat]
      refine vcCall.f (hx _ _) ?_
      simp only [z1, z2, z3, go_sem, ↓reduceIte, Nat.reduceEqDiff, Nat.reduceBEq, Nat.reduceAdd, Nat.reduceLeDiff, Nat.reduceLT, reduceCtorEq, Nat.reduceMul, Nat.reduceSub, Int.reduceEq, Int.reduceLT, Int.reduceLE, Int.reduceToNat]
      refine ⟨by omega, by omega, ?_⟩
      refine loop (fun p : Nat × (List ByteArray × Nat) × Nat => ⟨[(0, .ds (mapC pkC l)), (3, .rw m p.2.1.2 p.2.1.1.length), (4, .i .i64 j), (5, .rw n 1 ow.length), (6, .i .i64 p.1)], (m, .rw p.2.1.2 1 (stC p.2.1.1)) :: (n, .rw 1 1 (stC ow)) :: hp, p.2.2⟩)
        (fun p => p.1 ≤ ow.length ∧ n + 1 ≤ p.2.2 ∧ addA ow o = addA (ow.drop p.1) p.2.1.1 ∧ p.2.1.1.length + (ow.length - p.1) + wtKs (l.drop (j + 1)) ≤ 1000000000000) (fun p => ow.length - p.1) (0, (o, G), n + 1) ?_ ?_ (fun ⟨i, ⟨o2, G2⟩, n2⟩ hi => ?_)
      · exact ⟨by simp, by simp, rfl, by dsimp only; omega⟩
      · refine weak_ok ?_ (Sub.cons ?_ (Sub.cons ?_ (Sub.base hf ?_))) (Nat.le_refl _)
        all_goals
          simp only [z1, z2, z3, how3, how4, go_sem, ↓reduceIte, Nat.reduceEqDiff, Nat.reduceBEq, Nat.reduceAdd, Nat.reduceLeDiff, Nat.reduceLT, reduceCtorEq, Nat.reduceMul, Nat.reduceSub, Int.reduceEq, Int.reduceLT, Int.reduceLE, Int.reduceToNat]
      dsimp only at hi
      obtain ⟨hi1, hi2, hi3, hi4⟩ := hi
      simp only [z1, z2, z3, go_sem, ↓reduceIte, Nat.reduceEqDiff, Nat.reduceBEq, Nat.reduceAdd, Nat.reduceLeDiff, Nat.reduceLT, reduceCtorEq, Nat.reduceMul, Nat.reduceSub, Int.reduceEq, Int.reduceLT, Int.reduceLE, Int.reduceToNat]
      refine cdK_of (fun q => ?_) (fun q => ?_)
      · have q : i < ow.length := by simpa using q
        obtain ⟨y, ey⟩ : ∃ y, ow[i]? = some y := ⟨ow[i], by simp [q]⟩
        rw [drop_at ey, addA] at hi3
        simp only [z1, z2, z3, q, getK_s (mapC_get st1 ey), go_sem, ↓reduceIte, Nat.reduceEqDiff, Nat.reduceBEq, Nat.reduceAdd, Nat.reduceLeDiff, Nat.reduceLT, reduceCtorEq, Nat.reduceMul, Nat.reduceSub, Int.reduceEq, Int.reduceLT, Int.reduceLE, Int.reduceToNat]
        refine vcCall.f (has_r o2 y (by omega) m G2 _ rfl _ _ (by simp [gc_cons])) ?_
        simp only [z1, z2, z3, go_sem, ↓reduceIte, Nat.reduceEqDiff, Nat.reduceBEq, Nat.reduceAdd, Nat.reduceLeDiff, Nat.reduceLT, reduceCtorEq, Nat.reduceMul, Nat.reduceSub, Int.reduceEq, Int.reduceLT, Int.reduceLE, Int.reduceToNat]
        refine cdK_of (fun r => ?_) (fun r => ?_)
        · have r : ¬ 0 ≤ ix y o2 0 := by simpa using r
          rw [if_neg r] at hi3
          simp only [z1, z2, z3, q, getK_s (mapC_get st1 ey), go_sem, ↓reduceIte, Nat.reduceEqDiff, Nat.reduceBEq, Nat.reduceAdd, Nat.reduceLeDiff, Nat.reduceLT, reduceCtorEq, Nat.reduceMul, Nat.reduceSub, Int.reduceEq, Int.reduceLT, Int.reduceLE, Int.reduceToNat]
          refine ⟨by omega, by omega, (i + 1, (o2 ++ [y], G2 + 1), _), ?_, ?_, weak_ok ?_ (Sub.cons ?_ (Sub.cons ?_ (Sub.base hf ?_))) (Nat.le_refl _)⟩
          · exact ⟨by dsimp only; omega, by dsimp only; omega, hi3, by dsimp only; simp; omega⟩
          · dsimp only; omega
          all_goals
            simp only [z1, z2, z3, wr64s i (by omega), List.length_append, go_sem, ↓reduceIte, Nat.reduceEqDiff, Nat.reduceBEq, Nat.reduceAdd, Nat.reduceLeDiff, Nat.reduceLT, reduceCtorEq, Nat.reduceMul, Nat.reduceSub, Int.reduceEq, Int.reduceLT, Int.reduceLE, Int.reduceToNat]
        · have r : 0 ≤ ix y o2 0 := by simpa using r
          rw [if_pos r] at hi3
          simp only [z1, z2, z3, go_sem, ↓reduceIte, Nat.reduceEqDiff, Nat.reduceBEq, Nat.reduceAdd, Nat.reduceLeDiff, Nat.reduceLT, reduceCtorEq, Nat.reduceMul, Nat.reduceSub, Int.reduceEq, Int.reduceLT, Int.reduceLE, Int.reduceToNat]
          refine ⟨(i + 1, (o2, G2), _), ?_, ?_, weak_ok ?_ (Sub.refl _) (Nat.le_refl _)⟩
          · exact ⟨by dsimp only; omega, by dsimp only; omega, hi3, by dsimp only; omega⟩
          · dsimp only; omega
          · simp only [wr64s i (by omega), go_sem, ↓reduceIte, Nat.reduceEqDiff, Nat.reduceBEq, Nat.reduceAdd, Nat.reduceLeDiff, Nat.reduceLT, reduceCtorEq, Nat.reduceMul, Nat.reduceSub, Int.reduceEq, Int.reduceLT, Int.reduceLE, Int.reduceToNat]
      · have q : i = ow.length := by simp at q; omega
        subst q
        rw [List.drop_length, addA] at hi3
        rw [hi3] at hj3
        simp only [z1, z2, z3, go_sem, ↓reduceIte, Nat.reduceEqDiff, Nat.reduceBEq, Nat.reduceAdd, Nat.reduceLeDiff, Nat.reduceLT, reduceCtorEq, Nat.reduceMul, Nat.reduceSub, Int.reduceEq, Int.reduceLT, Int.reduceLE, Int.reduceToNat]
        refine ⟨(j + 1, (o2, G2), _), ?_, ?_, weak_ok ?_ (Sub.cons ?_ (Sub.base hf ?_)) (Nat.le_refl _)⟩
        · exact ⟨by dsimp only; omega, by dsimp only; omega, hj3, by dsimp only; omega⟩
        · dsimp only; omega
        all_goals
          simp only [z1, z2, z3, wr64s j (by omega), go_sem, ↓reduceIte, Nat.reduceEqDiff, Nat.reduceBEq, Nat.reduceAdd, Nat.reduceLeDiff, Nat.reduceLT, reduceCtorEq, Nat.reduceMul, Nat.reduceSub, Int.reduceEq, Int.reduceLT, Int.reduceLE, Int.reduceToNat]
    · have c : x.label = ⟨#[]⟩ := by simpa using c
      have e1 : owP x = rlK x.picks [] := by rw [owP_eq, lbl, if_pos c]; rfl
      obtain ⟨ow, hol⟩ : ∃ ow, rlK x.picks [] = ow := ⟨_, rfl⟩
      rw [e1, hol] at hj3
      have how3 : mapC st1 (rlK x.picks []) = stC ow := by rw [← hol]
      have how4 : (rlK x.picks []).length = ow.length := by rw [hol]
      simp only [z1, z2, z3, d, getK_s (mapC_get pkC ex), go_sem, ↓reduceIte, Nat.reduceEqDiff, Nat.reduceBEq, Nat.reduceAdd, Nat.reduceLeDiff, Nat.reduceLT, reduceCtorEq, Nat.reduceMul, Nat.reduceSub, Int.reduceEq, Int.reduceLT, Int.reduceLE, Int.reduceToNat]
      refine vcCall.f (hx _ _) ?_
      simp only [z1, z2, z3, go_sem, ↓reduceIte, Nat.reduceEqDiff, Nat.reduceBEq, Nat.reduceAdd, Nat.reduceLeDiff, Nat.reduceLT, reduceCtorEq, Nat.reduceMul, Nat.reduceSub, Int.reduceEq, Int.reduceLT, Int.reduceLE, Int.reduceToNat]
      refine ⟨by omega, by omega, ?_⟩
      refine loop (fun p : Nat × (List ByteArray × Nat) × Nat => ⟨[(0, .ds (mapC pkC l)), (3, .rw m p.2.1.2 p.2.1.1.length), (4, .i .i64 j), (5, .rw n 0 ow.length), (6, .i .i64 p.1)], (m, .rw p.2.1.2 1 (stC p.2.1.1)) :: (n, .rw 0 1 (stC ow)) :: hp, p.2.2⟩)
        (fun p => p.1 ≤ ow.length ∧ n + 1 ≤ p.2.2 ∧ addA ow o = addA (ow.drop p.1) p.2.1.1 ∧ p.2.1.1.length + (ow.length - p.1) + wtKs (l.drop (j + 1)) ≤ 1000000000000) (fun p => ow.length - p.1) (0, (o, G), n + 1) ?_ ?_ (fun ⟨i, ⟨o2, G2⟩, n2⟩ hi => ?_)
      · exact ⟨by simp, by simp, rfl, by dsimp only; omega⟩
      · refine weak_ok ?_ (Sub.cons ?_ (Sub.cons ?_ (Sub.base hf ?_))) (Nat.le_refl _)
        all_goals
          simp only [z1, z2, z3, how3, how4, go_sem, ↓reduceIte, Nat.reduceEqDiff, Nat.reduceBEq, Nat.reduceAdd, Nat.reduceLeDiff, Nat.reduceLT, reduceCtorEq, Nat.reduceMul, Nat.reduceSub, Int.reduceEq, Int.reduceLT, Int.reduceLE, Int.reduceToNat]
      dsimp only at hi
      obtain ⟨hi1, hi2, hi3, hi4⟩ := hi
      simp only [z1, z2, z3, go_sem, ↓reduceIte, Nat.reduceEqDiff, Nat.reduceBEq, Nat.reduceAdd, Nat.reduceLeDiff, Nat.reduceLT, reduceCtorEq, Nat.reduceMul, Nat.reduceSub, Int.reduceEq, Int.reduceLT, Int.reduceLE, Int.reduceToNat]
      refine cdK_of (fun q => ?_) (fun q => ?_)
      · have q : i < ow.length := by simpa using q
        obtain ⟨y, ey⟩ : ∃ y, ow[i]? = some y := ⟨ow[i], by simp [q]⟩
        rw [drop_at ey, addA] at hi3
        simp only [z1, z2, z3, q, getK_s (mapC_get st1 ey), go_sem, ↓reduceIte, Nat.reduceEqDiff, Nat.reduceBEq, Nat.reduceAdd, Nat.reduceLeDiff, Nat.reduceLT, reduceCtorEq, Nat.reduceMul, Nat.reduceSub, Int.reduceEq, Int.reduceLT, Int.reduceLE, Int.reduceToNat]
        refine vcCall.f (has_r o2 y (by omega) m G2 _ rfl _ _ (by simp [gc_cons])) ?_
        simp only [z1, z2, z3, go_sem, ↓reduceIte, Nat.reduceEqDiff, Nat.reduceBEq, Nat.reduceAdd, Nat.reduceLeDiff, Nat.reduceLT, reduceCtorEq, Nat.reduceMul, Nat.reduceSub, Int.reduceEq, Int.reduceLT, Int.reduceLE, Int.reduceToNat]
        refine cdK_of (fun r => ?_) (fun r => ?_)
        · have r : ¬ 0 ≤ ix y o2 0 := by simpa using r
          rw [if_neg r] at hi3
          simp only [z1, z2, z3, q, getK_s (mapC_get st1 ey), go_sem, ↓reduceIte, Nat.reduceEqDiff, Nat.reduceBEq, Nat.reduceAdd, Nat.reduceLeDiff, Nat.reduceLT, reduceCtorEq, Nat.reduceMul, Nat.reduceSub, Int.reduceEq, Int.reduceLT, Int.reduceLE, Int.reduceToNat]
          refine ⟨by omega, by omega, (i + 1, (o2 ++ [y], G2 + 1), _), ?_, ?_, weak_ok ?_ (Sub.cons ?_ (Sub.cons ?_ (Sub.base hf ?_))) (Nat.le_refl _)⟩
          · exact ⟨by dsimp only; omega, by dsimp only; omega, hi3, by dsimp only; simp; omega⟩
          · dsimp only; omega
          all_goals
            simp only [z1, z2, z3, wr64s i (by omega), List.length_append, go_sem, ↓reduceIte, Nat.reduceEqDiff, Nat.reduceBEq, Nat.reduceAdd, Nat.reduceLeDiff, Nat.reduceLT, reduceCtorEq, Nat.reduceMul, Nat.reduceSub, Int.reduceEq, Int.reduceLT, Int.reduceLE, Int.reduceToNat]
        · have r : 0 ≤ ix y o2 0 := by simpa using r
          rw [if_pos r] at hi3
          simp only [z1, z2, z3, go_sem, ↓reduceIte, Nat.reduceEqDiff, Nat.reduceBEq, Nat.reduceAdd, Nat.reduceLeDiff, Nat.reduceLT, reduceCtorEq, Nat.reduceMul, Nat.reduceSub, Int.reduceEq, Int.reduceLT, Int.reduceLE, Int.reduceToNat]
          refine ⟨(i + 1, (o2, G2), _), ?_, ?_, weak_ok ?_ (Sub.refl _) (Nat.le_refl _)⟩
          · exact ⟨by dsimp only; omega, by dsimp only; omega, hi3, by dsimp only; omega⟩
          · dsimp only; omega
          · simp only [wr64s i (by omega), go_sem, ↓reduceIte, Nat.reduceEqDiff, Nat.reduceBEq, Nat.reduceAdd, Nat.reduceLeDiff, Nat.reduceLT, reduceCtorEq, Nat.reduceMul, Nat.reduceSub, Int.reduceEq, Int.reduceLT, Int.reduceLE, Int.reduceToNat]
      · have q : i = ow.length := by simp at q; omega
        subst q
        rw [List.drop_length, addA] at hi3
        rw [hi3] at hj3
        simp only [z1, z2, z3, go_sem, ↓reduceIte, Nat.reduceEqDiff, Nat.reduceBEq, Nat.reduceAdd, Nat.reduceLeDiff, Nat.reduceLT, reduceCtorEq, Nat.reduceMul, Nat.reduceSub, Int.reduceEq, Int.reduceLT, Int.reduceLE, Int.reduceToNat]
        refine ⟨(j + 1, (o2, G2), _), ?_, ?_, weak_ok ?_ (Sub.cons ?_ (Sub.base hf ?_)) (Nat.le_refl _)⟩
        · exact ⟨by dsimp only; omega, by dsimp only; omega, hj3, by dsimp only; omega⟩
        · dsimp only; omega
        all_goals
          simp only [z1, z2, z3, wr64s j (by omega), go_sem, ↓reduceIte, Nat.reduceEqDiff, Nat.reduceBEq, Nat.reduceAdd, Nat.reduceLeDiff, Nat.reduceLT, reduceCtorEq, Nat.reduceMul, Nat.reduceSub, Int.reduceEq, Int.reduceLT, Int.reduceLE, Int.reduceToNat]
  · have d : j = l.length := by simp at d; omega
    subst d
    rw [List.drop_length, rlK] at hj3
    subst hj3
    simp only [z1, z2, z3, go_sem, ↓reduceIte, Nat.reduceEqDiff, Nat.reduceBEq, Nat.reduceAdd, Nat.reduceLeDiff, Nat.reduceLT, reduceCtorEq, Nat.reduceMul, Nat.reduceSub, Int.reduceEq, Int.reduceLT, Int.reduceLE, Int.reduceToNat]
end Go.Proofs.Ytmcgjccheehehaa
