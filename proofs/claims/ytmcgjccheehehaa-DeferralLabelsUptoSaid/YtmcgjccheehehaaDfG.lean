/-
  Lists of patches are merged. Conditions: none.
-/
import Derived.Test.YtmcgjccheehehaaDfF
namespace Go.Proofs.Ytmcgjccheehehaa
open Go.Eng
set_option linter.unusedVariables false
set_option linter.unusedSimpArgs false
set_option maxRecDepth 20000
inductive Prb where
  | mk (p : List Val) (t : ByteArray)
def Prb.p : Prb → List Val | .mk p _ => p
theorem Prb.p_mk (p : List Val) (t : ByteArray) : (Prb.mk p t).p = p := rfl
def Prb.t : Prb → ByteArray | .mk _ t => t
theorem Prb.t_mk (p : List Val) (t : ByteArray) : (Prb.mk p t).t = t := rfl
theorem Prb.eta (x : Prb) : Prb.mk x.p x.t = x := by cases x; rfl
theorem Prb.ext {x y : Prb} (h0 : x.p = y.p) (h1 : x.t = y.t) : x = y := by cases x; cases y; simp only [Prb.p_mk, Prb.t_mk] at *; simp [*]
def prbC (x : Prb) : List AV := [.ds (mapC valC x.p), .s x.t]
theorem elsOk_prbC (l : List Prb) : elsOk 2 (mapC prbC l) = True := elsOk_map fun _ => ⟨rfl, rfl⟩
attribute [go_sem] elsOk_prbC
attribute [go_sem] prbC Prb.p_mk Prb.t_mk
attribute [grind =] Prb.p_mk Prb.t_mk
attribute [ext] Prb.ext
attribute [grind ext] Prb.ext
inductive Pat where
  | mk (l : ByteArray) (p : List Val) (d : Val) (q : List Prb)
def Pat.l : Pat → ByteArray | .mk l _ _ _ => l
def Pat.p : Pat → List Val | .mk _ p _ _ => p
def Pat.d : Pat → Val | .mk _ _ d _ => d
def Pat.q : Pat → List Prb | .mk _ _ _ q => q
def patC (x : Pat) : List AV := [.s x.l, .ds (mapC valC x.p), .i .i64 x.d.k, .i .i64 x.d.n, .s x.d.s, .ds (mapC valC x.d.items), .ds (stC x.d.keys), .ds (mapC prbC x.q)]
attribute [go_sem] patC
theorem len_pat (l : List Pat) : (∀ e, e ∈ mapC patC l → e.length = 8) = True := eq_true fun e h => by
  obtain ⟨x, _, rfl⟩ := mapC_mem _ _ h
  rfl
attribute [go_sem] len_pat
def mgV : List Pat → Val → Val × Int
  | [], v => (v, 0)
  | p :: r, v => if (apV p.d p.p v).2 = 0 then mgV r (apV p.d p.p v).1 else (zVal, (apV p.d p.p v).2)
def wtP : List Pat → Nat
  | [] => 0
  | p :: r => wtV p.d + wtP r
theorem merge1_ok (v : Val) (l : List Pat) (hl : l.length ≤ 1000000000000) (hw : wtV v + wtP l ≤ 1000000000000) (hp : CH) (m : Nat) : MeetsF Try.prog 14 hp m [vx v, .ds (mapC patC l)] (resE (mgV l v)) := by
  have hv := wtV_fit v (by omega)
  obtain ⟨R, hR⟩ : ∃ R, mgV l v = R := ⟨_, rfl⟩
  rw [hR]
  refine meetsF Try.func14 (by kernel_rfl) cc14 cr14 rfl fun hf => ?_; unfold ck14
  simp only [go_sem, ↓reduceIte, Nat.reduceEqDiff, Nat.reduceBEq, Nat.reduceAdd, Nat.reduceLeDiff, Nat.reduceLT, reduceCtorEq, Nat.reduceMul, Nat.reduceSub, Int.reduceEq, Int.reduceLT, Int.reduceLE, Int.reduceToNat]
  refine vcCall.f (copy_ok v hv _ _) ?_
  simp only [go_sem, ↓reduceIte, Nat.reduceEqDiff, Nat.reduceBEq, Nat.reduceAdd, Nat.reduceLeDiff, Nat.reduceLT, reduceCtorEq, Nat.reduceMul, Nat.reduceSub, Int.reduceEq, Int.reduceLT, Int.reduceLE, Int.reduceToNat]
  refine loop (fun p : Nat × Val × Nat => ⟨[(4, .bx (m + 1) 0), (6, .bx (m + 2) 0), (13, .ds (mapC patC l)), (14, .i .i64 l.length), (15, .i .i64 p.1)],
      (m + 2, .bx [.i .i64 p.2.1.k, .i .i64 p.2.1.n, .s p.2.1.s, .ds (mapC valC p.2.1.items), .ds (stC p.2.1.keys)]) :: (m + 1, .bx [.i .i64 0, .i .i64 0, .s ⟨#[]⟩, .e0, .e0]) :: hp, p.2.2⟩)
    (fun p => p.1 ≤ l.length ∧ m + 3 ≤ p.2.2 ∧ R = mgV (l.drop p.1) p.2.1 ∧ wtV p.2.1 + wtP (l.drop p.1) ≤ 1000000000000) (fun p => l.length - p.1) (0, v, m + 3) ?_ ?_ (fun ⟨j, u, n⟩ hj => ?_)
  · exact ⟨by dsimp only; omega, by dsimp only; omega, hR.symm, hw⟩
  · refine weak_ok ?_ (Sub.cons ?_ (Sub.cons ?_ (Sub.base hf ?_))) (Nat.le_refl _)
    all_goals simp only [go_sem, ↓reduceIte, Nat.reduceEqDiff, Nat.reduceBEq, Nat.reduceAdd, Nat.reduceLeDiff, Nat.reduceLT, reduceCtorEq, Nat.reduceMul, Nat.reduceSub, Int.reduceEq, Int.reduceLT, Int.reduceLE, Int.reduceToNat]
  dsimp only at hj
  obtain ⟨hj1, hj2, hj3, hj4⟩ := hj
  simp only [go_sem, ↓reduceIte, Nat.reduceEqDiff, Nat.reduceBEq, Nat.reduceAdd, Nat.reduceLeDiff, Nat.reduceLT, reduceCtorEq, Nat.reduceMul, Nat.reduceSub, Int.reduceEq, Int.reduceLT, Int.reduceLE, Int.reduceToNat]
  refine cdK_of (fun d => ?_) (fun d => ?_)
  · have d : j < l.length := by simpa using d
    obtain ⟨x, ex⟩ : ∃ x, l[j]? = some x := ⟨l[j], by simp [d]⟩
    rw [drop_at ex] at hj3 hj4
    rw [mgV] at hj3
    rw [wtP] at hj4
    have z6 : m ≤ n := by omega
    have z1 : ¬ n = m + 1 := by omega
    have z2 : ¬ n = m + 2 := by omega
    have z3 : ¬ n + 1 = m + 1 := by omega
    have z4 : ¬ n + 1 = m + 2 := by omega
    have z5 : m ≤ n + 1 := by omega
    simp only [z1, z2, z3, z4, z5, z6, d, getK_s (mapC_get patC ex), go_sem, ↓reduceIte, Nat.reduceEqDiff, Nat.reduceBEq, Nat.reduceAdd, Nat.reduceLeDiff, Nat.reduceLT, reduceCtorEq, Nat.reduceMul, Nat.reduceSub, Int.reduceEq, Int.reduceLT, Int.reduceLE, Int.reduceToNat]
    refine vcCall.f (apply1_ok x.d x.p u (by omega) _ _) ?_
    simp only [z1, z2, z3, z4, z5, z6, d, go_sem, ↓reduceIte, Nat.reduceEqDiff, Nat.reduceBEq, Nat.reduceAdd, Nat.reduceLeDiff, Nat.reduceLT, reduceCtorEq, Nat.reduceMul, Nat.reduceSub, Int.reduceEq, Int.reduceLT, Int.reduceLE, Int.reduceToNat]
    have hs := apV_spec x.d x.p u
    refine cdK_of (fun c => ?_) (fun c => ?_)
    · have c : ¬ (apV x.d x.p u).2 = 0 := by simpa using c
      rw [if_neg c] at hj3
      subst hj3
      simp only [z1, z2, z3, z4, z5, z6, d, go_sem, ↓reduceIte, Nat.reduceEqDiff, Nat.reduceBEq, Nat.reduceAdd, Nat.reduceLeDiff, Nat.reduceLT, reduceCtorEq, Nat.reduceMul, Nat.reduceSub, Int.reduceEq, Int.reduceLT, Int.reduceLE, Int.reduceToNat]
    · have c : (apV x.d x.p u).2 = 0 := by simpa using c
      rw [if_pos c] at hj3
      have hs := hs c
      simp only [z1, z2, z3, z4, z5, z6, d, go_sem, ↓reduceIte, Nat.reduceEqDiff, Nat.reduceBEq, Nat.reduceAdd, Nat.reduceLeDiff, Nat.reduceLT, reduceCtorEq, Nat.reduceMul, Nat.reduceSub, Int.reduceEq, Int.reduceLT, Int.reduceLE, Int.reduceToNat]
      refine ⟨(j + 1, (apV x.d x.p u).1, _), ?_, ?_, weak_ok ?_ (Sub.cons ?_ (Sub.cons ?_ (Sub.base hf ?_))) (Nat.le_refl _)⟩
      · exact ⟨by dsimp only; omega, by dsimp only; omega, hj3, by dsimp only; omega⟩
      · dsimp only; omega
      all_goals
        simp only [z1, z2, z3, z4, z5, z6, wr64s j (by omega), go_sem, ↓reduceIte, Nat.reduceEqDiff, Nat.reduceBEq, Nat.reduceAdd, Nat.reduceLeDiff, Nat.reduceLT, reduceCtorEq, Nat.reduceMul, Nat.reduceSub, Int.reduceEq, Int.reduceLT, Int.reduceLE, Int.reduceToNat]
  · have d : j = l.length := by simp at d; omega
    subst d
    rw [List.drop_length, mgV] at hj3
    subst hj3
    simp only [go_sem, ↓reduceIte, Nat.reduceEqDiff, Nat.reduceBEq, Nat.reduceAdd, Nat.reduceLeDiff, Nat.reduceLT, reduceCtorEq, Nat.reduceMul, Nat.reduceSub, Int.reduceEq, Int.reduceLT, Int.reduceLE, Int.reduceToNat]
theorem merge2_ok (v : Val) (l : List Pat) (hl : l.length ≤ 1000000000000) (hw : wtV v + wtP l ≤ 1000000000000) (hpv : prd v = true) (hpl : ∀ x ∈ l, prd x.d = true) (hp : CH) (m : Nat) : MeetsF Try.prog 15 hp m [vx v, .ds (mapC patC l)] (resE (mgV l v)) := by
  have hv := wtV_fit v (by omega)
  obtain ⟨R, hR⟩ : ∃ R, mgV l v = R := ⟨_, rfl⟩
  rw [hR]
  refine meetsF Try.func15 (by kernel_rfl) cc15 cr15 rfl fun hf => ?_; unfold ck15
  simp only [go_sem, ↓reduceIte, Nat.reduceEqDiff, Nat.reduceBEq, Nat.reduceAdd, Nat.reduceLeDiff, Nat.reduceLT, reduceCtorEq, Nat.reduceMul, Nat.reduceSub, Int.reduceEq, Int.reduceLT, Int.reduceLE, Int.reduceToNat]
  refine vcCall.f (rcopy_ok v hv _ _) ?_
  simp only [go_sem, ↓reduceIte, Nat.reduceEqDiff, Nat.reduceBEq, Nat.reduceAdd, Nat.reduceLeDiff, Nat.reduceLT, reduceCtorEq, Nat.reduceMul, Nat.reduceSub, Int.reduceEq, Int.reduceLT, Int.reduceLE, Int.reduceToNat]
  refine loop (fun p : Nat × Val × Nat => ⟨[(1, .ds (mapC patC l)), (4, .bx (m + 1) 0), (6, .bx (m + 2) 0), (7, .i .i64 p.1)],
      (m + 2, .bx [.i .i64 p.2.1.k, .i .i64 p.2.1.n, .s p.2.1.s, .ds (mapC valC p.2.1.items), .ds (stC p.2.1.keys)]) :: (m + 1, .bx [.i .i64 0, .i .i64 0, .s ⟨#[]⟩, .e0, .e0]) :: hp, p.2.2⟩)
    (fun p => p.1 ≤ l.length ∧ m + 3 ≤ p.2.2 ∧ R = mgV (l.drop p.1) p.2.1 ∧ wtV p.2.1 + wtP (l.drop p.1) ≤ 1000000000000 ∧ prd p.2.1 = true) (fun p => l.length - p.1) (0, v, m + 3) ?_ ?_ (fun ⟨j, u, n⟩ hj => ?_)
  · exact ⟨by dsimp only; omega, by dsimp only; omega, hR.symm, hw, hpv⟩
  · refine weak_ok ?_ (Sub.cons ?_ (Sub.cons ?_ (Sub.base hf ?_))) (Nat.le_refl _)
    all_goals simp only [go_sem, ↓reduceIte, Nat.reduceEqDiff, Nat.reduceBEq, Nat.reduceAdd, Nat.reduceLeDiff, Nat.reduceLT, reduceCtorEq, Nat.reduceMul, Nat.reduceSub, Int.reduceEq, Int.reduceLT, Int.reduceLE, Int.reduceToNat]
  dsimp only at hj
  obtain ⟨hj1, hj2, hj3, hj4, hj5⟩ := hj
  simp only [go_sem, ↓reduceIte, Nat.reduceEqDiff, Nat.reduceBEq, Nat.reduceAdd, Nat.reduceLeDiff, Nat.reduceLT, reduceCtorEq, Nat.reduceMul, Nat.reduceSub, Int.reduceEq, Int.reduceLT, Int.reduceLE, Int.reduceToNat]
  refine cdK_of (fun d => ?_) (fun d => ?_)
  · have d : j < l.length := by simpa using d
    obtain ⟨x, ex⟩ : ∃ x, l[j]? = some x := ⟨l[j], by simp [d]⟩
    have hpx := hpl x (List.mem_of_getElem? ex)
    rw [drop_at ex] at hj3 hj4
    rw [mgV] at hj3
    rw [wtP] at hj4
    simp only [d, getK_s (mapC_get patC ex), go_sem, ↓reduceIte, Nat.reduceEqDiff, Nat.reduceBEq, Nat.reduceAdd, Nat.reduceLeDiff, Nat.reduceLT, reduceCtorEq, Nat.reduceMul, Nat.reduceSub, Int.reduceEq, Int.reduceLT, Int.reduceLE, Int.reduceToNat]
    first | refine dCallR.f (fun _ _ _ => apply2_ok x.d hpx x.p u hj5 (by omega) _ _) ?_ | refine dCall.f (fun _ _ _ => apply2_ok x.d hpx x.p u hj5 (by omega) _ _) ?_
    simp only [go_sem, ↓reduceIte, Nat.reduceEqDiff, Nat.reduceBEq, Nat.reduceAdd, Nat.reduceLeDiff, Nat.reduceLT, reduceCtorEq, Nat.reduceMul, Nat.reduceSub, Int.reduceEq, Int.reduceLT, Int.reduceLE, Int.reduceToNat]
    have z6 : m ≤ n + 15 := by omega
    have z1 : ¬ n + 15 = m + 1 := by omega
    have z2 : ¬ n + 15 = m + 2 := by omega
    have hs := apV_spec x.d x.p u
    refine ⟨by omega, ?_⟩
    refine cdK_of (fun c => ?_) (fun c => ?_)
    · have c : ¬ (apV x.d x.p u).2 = 0 := by simpa using c
      rw [if_neg c] at hj3
      subst hj3
      simp only [z1, z2, z6, d, go_sem, ↓reduceIte, Nat.reduceEqDiff, Nat.reduceBEq, Nat.reduceAdd, Nat.reduceLeDiff, Nat.reduceLT, reduceCtorEq, Nat.reduceMul, Nat.reduceSub, Int.reduceEq, Int.reduceLT, Int.reduceLE, Int.reduceToNat]
    · have c : (apV x.d x.p u).2 = 0 := by simpa using c
      rw [if_pos c] at hj3
      have hs := hs c
      simp only [z1, z2, z6, d, go_sem, ↓reduceIte, Nat.reduceEqDiff, Nat.reduceBEq, Nat.reduceAdd, Nat.reduceLeDiff, Nat.reduceLT, reduceCtorEq, Nat.reduceMul, Nat.reduceSub, Int.reduceEq, Int.reduceLT, Int.reduceLE, Int.reduceToNat]
      refine ⟨(j + 1, (apV x.d x.p u).1, _), ?_, ?_, weak_ok ?_ (Sub.cons ?_ (Sub.cons ?_ (Sub.base hf ?_))) (Nat.le_refl _)⟩
      · exact ⟨by dsimp only; omega, by dsimp only; omega, hj3, by dsimp only; omega, hs.2 hj5 hpx⟩
      · dsimp only; omega
      all_goals
        simp only [z1, z2, z6, wr64s j (by omega), go_sem, ↓reduceIte, Nat.reduceEqDiff, Nat.reduceBEq, Nat.reduceAdd, Nat.reduceLeDiff, Nat.reduceLT, reduceCtorEq, Nat.reduceMul, Nat.reduceSub, Int.reduceEq, Int.reduceLT, Int.reduceLE, Int.reduceToNat]
  · have d : j = l.length := by simp at d; omega
    subst d
    rw [List.drop_length, mgV] at hj3
    subst hj3
    simp only [go_sem, ↓reduceIte, Nat.reduceEqDiff, Nat.reduceBEq, Nat.reduceAdd, Nat.reduceLeDiff, Nat.reduceLT, reduceCtorEq, Nat.reduceMul, Nat.reduceSub, Int.reduceEq, Int.reduceLT, Int.reduceLE, Int.reduceToNat]
end Go.Proofs.Ytmcgjccheehehaa
