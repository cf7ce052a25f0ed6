/-
  Picks without labels and streams. Conditions: none.
-/
import Derived.Test.YtmcgjccheehehaaDlB
namespace Go.Proofs.Ytmcgjccheehehaa
open Go.Eng
set_option linter.unusedVariables false
set_option linter.unusedSimpArgs false
set_option maxRecDepth 20000
theorem rLabels_ok (l : List Pk) (hw : wtKs l ≤ 1000000000000) (hp : CH) (m : Nat) : MeetsF Try.prog 19 hp m [.ds (mapC pkC l)] (.ds (stC (labL l []))) := by
  have key : ∀ p : Pk, wtK p ≤ 1000000000000 → ∀ hp m, MeetsF Try.prog 19 hp m [.ds (mapC pkC p.picks)] (.ds (stC (rlK p.picks []))) := fun p => Pk.ind (Q := fun p => wtK p ≤ 1000000000000 → ∀ hp m, MeetsF Try.prog 19 hp m [.ds (mapC pkC p.picks)] (.ds (stC (rlK p.picks [])))) (fun v ih hv => by
    rw [wtK_eq] at hv
    exact rlabels_of v.picks (by omega) fun p hp => ih p hp (by have := wtKs_mem hp; omega)) p
  rw [← rl_lab]
  exact rlabels_of l hw (fun p hp => key p (by have := wtKs_mem hp; omega)) hp m
theorem raw_in (l : List Int) : (∀ e, e ∈ mapC in1 l → e.length = 1 ∧ e.all AV.one = true) = True := elsOk_in l
theorem len_arg (l : List Arg) : (∀ e, e ∈ mapC argC l → e.length = 6) = True := eq_true fun e h => by
  obtain ⟨x, _, rfl⟩ := mapC_mem _ _ h
  rfl
theorem snoc_arg (l : List Arg) (a : Arg) : mapC argC l ++ [[AV.s a.n, .i .i64 a.v.k, .i .i64 a.v.n, .s a.v.s, .ds (mapC valC a.v.items), .ds (stC a.v.keys)]] = mapC argC (l ++ [a]) := mapC_snoc argC l a
attribute [go_sem] raw_in len_arg snoc_arg argC
def wtA : List Arg → Nat
  | [] => 0
  | a :: r => 1 + wtV a.v + wtA r
theorem wtA_len : ∀ l : List Arg, l.length ≤ wtA l
  | [] => by simp
  | a :: r => by
    have := wtA_len r
    rw [wtA]
    simp
    omega
theorem wtA_mem {x : Arg} : ∀ {l : List Arg}, x ∈ l → wtV x.v ≤ wtA l
  | y :: r, h => by
    rw [wtA]
    rcases List.mem_cons.1 h with rfl | h
    · omega
    · have := wtA_mem h
      omega
mutual
def wtG : Pk → Nat
  | .mk _ _ _ a _ tw _ _ p => 1 + wtA a + tw.length + wtGs p
def wtGs : List Pk → Nat
  | [] => 0
  | p :: r => wtG p + wtGs r
end
theorem wtG_eq (p : Pk) : wtG p = 1 + wtA p.args + p.tw.length + wtGs p.picks := by cases p; rw [wtG]; rfl
theorem wtGs_mem {x : Pk} : ∀ {l : List Pk}, x ∈ l → wtG x ≤ wtGs l
  | y :: r, h => by
    rw [wtGs]
    rcases List.mem_cons.1 h with rfl | h
    · omega
    · have := wtGs_mem h
      omega
theorem wtGs_len : ∀ l : List Pk, l.length ≤ wtGs l
  | [] => by simp
  | y :: r => by
    have := wtGs_len r
    have := wtG_eq y
    rw [wtGs]
    simp
    omega
theorem wtK_G : ∀ (l : List Pk), (∀ p ∈ l, wtK p ≤ wtG p) → wtKs l ≤ wtGs l
  | [], _ => by simp [wtKs]
  | p :: r, h => by
    have h1 := h p (by simp)
    have h2 := wtK_G r fun q hq => h q (by simp [hq])
    rw [wtKs, wtGs]
    omega
theorem wtKs_Gs (l : List Pk) : wtKs l ≤ wtGs l := wtK_G l fun p _ => Pk.ind (Q := fun p => wtK p ≤ wtG p) (fun v ih => by
  have := wtK_G v.picks ih
  rw [wtK_eq, wtG_eq]
  omega) p
abbrev pkx (p : Pk) : AV := .ag [.s p.key, .s p.on, .s p.name, .ds (mapC argC p.args), .s p.tn, .ds (mapC in1 p.tw), .s p.label, .i .i64 p.initial, .ds (mapC pkC p.picks)]
abbrev pk0 (p : Pk) : AV := .ag [.s p.key, .s p.on, .s p.name, .ds (mapC argC p.args), .s p.tn, .ds (mapC in1 p.tw), .s p.label, .i .i64 p.initial, .ds []]
theorem cloneI_ok (l : List Int) (h : l.length * 8 ≤ 140737488355327) (hp : CH) (m : Nat) : MeetsF Try.prog 86 hp m [.ds (mapC in1 l)] (.ds (mapC in1 l)) := by
  refine meetsF Try.func86 (by kernel_rfl) cc86 cr86 rfl fun hf => ?_; unfold ck86
  simp only [go_sem, ↓reduceIte, Nat.reduceEqDiff, Nat.reduceBEq, Nat.reduceAdd, Nat.reduceLeDiff, Nat.reduceLT, reduceCtorEq, Nat.reduceMul, Nat.reduceSub, Int.reduceEq, Int.reduceLT, Int.reduceLE, Int.reduceToNat]
  exact ⟨fun e => by rw [e], by omega, by omega⟩
theorem clone1_ok (p : Pk) (hw : wtG p ≤ 1000000000000) (hp : CH) (m : Nat) : MeetsF Try.prog 55 hp m [pkx p] (pk0 p) := by
  have w1 := wtG_eq p
  have w2 := wtA_len p.args
  refine meetsF Try.func55 (by kernel_rfl) cc55 cr55 rfl fun hf => ?_; unfold ck55
  simp only [go_sem, ↓reduceIte, Nat.reduceEqDiff, Nat.reduceBEq, Nat.reduceAdd, Nat.reduceLeDiff, Nat.reduceLT, reduceCtorEq, Nat.reduceMul, Nat.reduceSub, Int.reduceEq, Int.reduceLT, Int.reduceLE, Int.reduceToNat]
  refine ⟨by omega, by omega, ?_⟩
  refine loop (fun q : Nat × Nat => ⟨[(1, .bx m 0), (2, .bx (m + 1) 0), (3, .rw (m + 2) q.1 q.1), (11, .ds (mapC argC p.args)), (12, .i .i64 p.args.length), (13, .i .i64 q.1)],
      (m + 2, .rw q.1 6 (mapC argC (p.args.take q.1))) :: (m + 1, .bx [.s ⟨#[]⟩, .s ⟨#[]⟩, .s ⟨#[]⟩, .e0, .s ⟨#[]⟩, .e0, .s ⟨#[]⟩, .i .i64 0, .e0]) ::
      (m, .bx [.s p.key, .s p.on, .s p.name, .ds (mapC argC p.args), .s p.tn, .ds (mapC in1 p.tw), .s p.label, .i .i64 p.initial, .ds (mapC pkC p.picks)]) :: hp, q.2⟩)
    (fun q => q.1 ≤ p.args.length ∧ m + 3 ≤ q.2) (fun q => p.args.length - q.1) (0, m + 3) ?_ ?_ (fun ⟨j, n⟩ hj => ?_)
  · exact ⟨by simp, by simp⟩
  · refine weak_ok ?_ (Sub.cons ?_ (Sub.cons ?_ (Sub.cons ?_ (Sub.base hf ?_)))) (Nat.le_refl _)
    all_goals simp only [go_sem, ↓reduceIte, Nat.reduceEqDiff, Nat.reduceBEq, Nat.reduceAdd, Nat.reduceLeDiff, Nat.reduceLT, reduceCtorEq, Nat.reduceMul, Nat.reduceSub, Int.reduceEq, Int.reduceLT, Int.reduceLE, Int.reduceToNat]
  dsimp only at hj
  have z0 : m ≤ n := by omega
  have z1 : ¬ n = m := by omega
  have z2 : ¬ n = m + 1 := by omega
  have z3 : ¬ n = m + 2 := by omega
  simp only [z0, z1, z2, z3, go_sem, ↓reduceIte, Nat.reduceEqDiff, Nat.reduceBEq, Nat.reduceAdd, Nat.reduceLeDiff, Nat.reduceLT, reduceCtorEq, Nat.reduceMul, Nat.reduceSub, Int.reduceEq, Int.reduceLT, Int.reduceLE, Int.reduceToNat]
  refine cdK_of (fun d => ?_) (fun d => ?_)
  · have d : j < p.args.length := by simpa using d
    obtain ⟨x, ex⟩ : ∃ x, p.args[j]? = some x := ⟨p.args[j], by simp [d]⟩
    have hx := wtA_mem (List.mem_of_getElem? ex)
    have ht : (p.args.take j).length = j := by simp; omega
    simp only [z0, z1, z2, z3, d, getK_s (mapC_get argC ex), go_sem, ↓reduceIte, Nat.reduceEqDiff, Nat.reduceBEq, Nat.reduceAdd, Nat.reduceLeDiff, Nat.reduceLT, reduceCtorEq, Nat.reduceMul, Nat.reduceSub, Int.reduceEq, Int.reduceLT, Int.reduceLE, Int.reduceToNat]
    first | refine dCallR.f (fun _ _ _ => copy_ok x.v (wtV_fit _ (by omega)) _ _) ?_ | refine dCall.f (fun _ _ _ => copy_ok x.v (wtV_fit _ (by omega)) _ _) ?_
    simp only [z0, z1, z2, z3, d, ht, go_sem, ↓reduceIte, Nat.reduceEqDiff, Nat.reduceBEq, Nat.reduceAdd, Nat.reduceLeDiff, Nat.reduceLT, reduceCtorEq, Nat.reduceMul, Nat.reduceSub, Int.reduceEq, Int.reduceLT, Int.reduceLE, Int.reduceToNat]
    refine ⟨⟨by omega, by omega⟩, (j + 1, _), ?_, ?_, weak_ok ?_ (Sub.cons ?_ (Sub.cons ?_ (Sub.cons ?_ (Sub.base hf ?_)))) (Nat.le_refl _)⟩
    · exact ⟨by dsimp only; omega, by dsimp only; omega⟩
    · dsimp only; omega
    all_goals
      simp only [z0, z1, z2, z3, wr64s j (by omega), take_snoc ex, go_sem, ↓reduceIte, Nat.reduceEqDiff, Nat.reduceBEq, Nat.reduceAdd, Nat.reduceLeDiff, Nat.reduceLT, reduceCtorEq, Nat.reduceMul, Nat.reduceSub, Int.reduceEq, Int.reduceLT, Int.reduceLE, Int.reduceToNat]
  · have d : j = p.args.length := by simp at d; omega
    subst d
    simp only [z0, z1, z2, z3, go_sem, ↓reduceIte, Nat.reduceEqDiff, Nat.reduceBEq, Nat.reduceAdd, Nat.reduceLeDiff, Nat.reduceLT, reduceCtorEq, Nat.reduceMul, Nat.reduceSub, Int.reduceEq, Int.reduceLT, Int.reduceLE, Int.reduceToNat]
    first | refine dCallR.f (fun _ _ _ => cloneI_ok p.tw (by omega) _ _) ?_ | refine dCall.f (fun _ _ _ => cloneI_ok p.tw (by omega) _ _) ?_
    simp only [z0, z1, z2, z3, List.take_length, go_sem, ↓reduceIte, Nat.reduceEqDiff, Nat.reduceBEq, Nat.reduceAdd, Nat.reduceLeDiff, Nat.reduceLT, reduceCtorEq, Nat.reduceMul, Nat.reduceSub, Int.reduceEq, Int.reduceLT, Int.reduceLE, Int.reduceToNat]
mutual
/-- A pick without labels and streams. -/
def plP : Pk → Pk
  | .mk k o n a tn tw _ _ p => .mk k o n a tn tw ⟨#[]⟩ (-1) (plL p)
def plL : List Pk → List Pk
  | [] => []
  | p :: r => plP p :: plL r
end
theorem plP_eq (p : Pk) : plP p = .mk p.key p.on p.name p.args p.tn p.tw ⟨#[]⟩ (-1) (plL p.picks) := by cases p; rw [plP]; rfl
theorem plL_len : ∀ l : List Pk, (plL l).length = l.length
  | [] => rfl
  | p :: r => by rw [plL, List.length_cons, List.length_cons, plL_len r]
theorem plL_app : ∀ a b : List Pk, plL (a ++ b) = plL a ++ plL b
  | [], b => rfl
  | p :: r, b => by rw [List.cons_append, plL, plL_app r b, plL, List.cons_append]
theorem snoc_pl (l : List Pk) (p : Pk) : mapC pkC (plL l) ++ [[AV.s p.key, .s p.on, .s p.name, .ds (mapC argC p.args), .s p.tn, .ds (mapC in1 p.tw), .s ⟨#[]⟩, .i .i64 (-1), .ds (mapC pkC (plL p.picks))]] = mapC pkC (plL (l ++ [p])) := by
  rw [plL_app, plL, plL, plP_eq, ← mapC_snoc, pkC_eq]
  rfl
theorem plain1_of (l : List Pk) (hw : wtGs l ≤ 800000000000) (h : ∀ p ∈ l, ∀ hp m, MeetsF Try.prog 21 hp m [.ds (mapC pkC p.picks)] (.ds (mapC pkC (plL p.picks)))) (hp : CH) (m : Nat) : MeetsF Try.prog 21 hp m [.ds (mapC pkC l)] (.ds (mapC pkC (plL l))) := by
  have hlen := wtGs_len l
  refine meetsF Try.func21 (by kernel_rfl) cc21 cr21 rfl fun hf => ?_; unfold ck21
  simp only [go_sem, ↓reduceIte, Nat.reduceEqDiff, Nat.reduceBEq, Nat.reduceAdd, Nat.reduceLeDiff, Nat.reduceLT, reduceCtorEq, Nat.reduceMul, Nat.reduceSub, Int.reduceEq, Int.reduceLT, Int.reduceLE, Int.reduceToNat]
  refine loop (fun q : Nat × Nat => ⟨[(3, .rw m q.1 q.1), (7, .ds (mapC pkC l)), (8, .i .i64 l.length), (9, .i .i64 q.1)], (m, .rw q.1 9 (mapC pkC (plL (l.take q.1)))) :: hp, q.2⟩)
    (fun q => q.1 ≤ l.length ∧ m + 1 ≤ q.2) (fun q => l.length - q.1) (0, m + 1) ?_ ?_ (fun ⟨j, n⟩ hj => ?_)
  · exact ⟨by simp, by simp⟩
  · refine (weak_e0 (t := 3) (m := 9) ?_).trans (weak_ok ?_ (Sub.cons ?_ (Sub.base hf ?_)) (Nat.le_refl _))
    all_goals
      simp only [plL, go_sem, ↓reduceIte, Nat.reduceEqDiff, Nat.reduceBEq, Nat.reduceAdd, Nat.reduceLeDiff, Nat.reduceLT, reduceCtorEq, Nat.reduceMul, Nat.reduceSub, Int.reduceEq, Int.reduceLT, Int.reduceLE, Int.reduceToNat]
  dsimp only at hj
  have z0 : m ≤ n := by omega
  have z1 : ¬ n = m := by omega
  have z2 : ¬ n + 1 = m := by omega
  have z3 : m ≤ n + 1 := by omega
  simp only [z0, z1, z2, z3, go_sem, ↓reduceIte, Nat.reduceEqDiff, Nat.reduceBEq, Nat.reduceAdd, Nat.reduceLeDiff, Nat.reduceLT, reduceCtorEq, Nat.reduceMul, Nat.reduceSub, Int.reduceEq, Int.reduceLT, Int.reduceLE, Int.reduceToNat]
  refine cdK_of (fun d => ?_) (fun d => ?_)
  · have d : j < l.length := by simpa using d
    obtain ⟨x, ex⟩ : ∃ x, l[j]? = some x := ⟨l[j], by simp [d]⟩
    have hx := wtGs_mem (List.mem_of_getElem? ex)
    have hr := h x (List.mem_of_getElem? ex)
    have ht : (plL (l.take j)).length = j := by rw [plL_len]; simp; omega
    simp only [z0, z1, z2, z3, d, getK_s (mapC_get pkC ex), go_sem, ↓reduceIte, Nat.reduceEqDiff, Nat.reduceBEq, Nat.reduceAdd, Nat.reduceLeDiff, Nat.reduceLT, reduceCtorEq, Nat.reduceMul, Nat.reduceSub, Int.reduceEq, Int.reduceLT, Int.reduceLE, Int.reduceToNat]
    refine vcCall.f (clone1_ok x (by omega) _ _) ?_
    simp only [z0, z1, z2, z3, d, go_sem, ↓reduceIte, Nat.reduceEqDiff, Nat.reduceBEq, Nat.reduceAdd, Nat.reduceLeDiff, Nat.reduceLT, reduceCtorEq, Nat.reduceMul, Nat.reduceSub, Int.reduceEq, Int.reduceLT, Int.reduceLE, Int.reduceToNat]
    refine vcCall.f (hr _ _) ?_
    simp only [z0, z1, z2, z3, d, ht, snoc_pl, go_sem, ↓reduceIte, Nat.reduceEqDiff, Nat.reduceBEq, Nat.reduceAdd, Nat.reduceLeDiff, Nat.reduceLT, reduceCtorEq, Nat.reduceMul, Nat.reduceSub, Int.reduceEq, Int.reduceLT, Int.reduceLE, Int.reduceToNat]
    refine ⟨by omega, by omega, (j + 1, _), ?_, ?_, weak_ok ?_ (Sub.cons ?_ (Sub.base hf ?_)) (Nat.le_refl _)⟩
    · exact ⟨by dsimp only; omega, by dsimp only; omega⟩
    · dsimp only; omega
    all_goals
      simp only [z0, z1, z2, z3, wr64s j (by omega), take_snoc ex, go_sem, ↓reduceIte, Nat.reduceEqDiff, Nat.reduceBEq, Nat.reduceAdd, Nat.reduceLeDiff, Nat.reduceLT, reduceCtorEq, Nat.reduceMul, Nat.reduceSub, Int.reduceEq, Int.reduceLT, Int.reduceLE, Int.reduceToNat]
  · have d : j = l.length := by simp at d; omega
    subst d
    have ht : (plL l).take l.length = plL l := by rw [List.take_of_length_le (by rw [plL_len]; exact Nat.le_refl _)]
    simp only [z0, z1, z2, z3, List.take_length, plL_len, Nat.le_refl, ht, go_sem, ↓reduceIte, Nat.reduceEqDiff, Nat.reduceBEq, Nat.reduceAdd, Nat.reduceLeDiff, Nat.reduceLT, reduceCtorEq, Nat.reduceMul, Nat.reduceSub, Int.reduceEq, Int.reduceLT, Int.reduceLE, Int.reduceToNat]
theorem plain1_ok (l : List Pk) (hw : wtGs l ≤ 800000000000) (hp : CH) (m : Nat) : MeetsF Try.prog 21 hp m [.ds (mapC pkC l)] (.ds (mapC pkC (plL l))) := by
  have key : ∀ p : Pk, wtG p ≤ 800000000000 → ∀ hp m, MeetsF Try.prog 21 hp m [.ds (mapC pkC p.picks)] (.ds (mapC pkC (plL p.picks))) := fun p => Pk.ind (Q := fun p => wtG p ≤ 800000000000 → ∀ hp m, MeetsF Try.prog 21 hp m [.ds (mapC pkC p.picks)] (.ds (mapC pkC (plL p.picks)))) (fun v ih hv => by
    rw [wtG_eq] at hv
    exact plain1_of v.picks (by omega) fun p hp => ih p hp (by have := wtGs_mem hp; omega)) p
  exact plain1_of l hw (fun p hp => key p (by have := wtGs_mem hp; omega)) hp m
theorem plain2_of (l : List Pk) (hw : wtGs l ≤ 800000000000) (h : ∀ p ∈ l, ∀ hp m, MeetsF Try.prog 22 hp m [.ds (mapC pkC p.picks)] (.ds (mapC pkC (plL p.picks)))) (hp : CH) (m : Nat) : MeetsF Try.prog 22 hp m [.ds (mapC pkC l)] (.ds (mapC pkC (plL l))) := by
  have hlen := wtGs_len l
  refine meetsF Try.func22 (by kernel_rfl) cc22 cr22 rfl fun hf => ?_; unfold ck22
  simp only [go_sem, ↓reduceIte, Nat.reduceEqDiff, Nat.reduceBEq, Nat.reduceAdd, Nat.reduceLeDiff, Nat.reduceLT, reduceCtorEq, Nat.reduceMul, Nat.reduceSub, Int.reduceEq, Int.reduceLT, Int.reduceLE, Int.reduceToNat]
  refine loop (fun q : Nat × Nat => ⟨[(0, .ds (mapC pkC l)), (3, .rw m q.1 q.1), (4, .i .i64 q.1)], (m, .rw q.1 9 (mapC pkC (plL (l.take q.1)))) :: hp, q.2⟩)
    (fun q => q.1 ≤ l.length ∧ m + 1 ≤ q.2) (fun q => l.length - q.1) (0, m + 1) ?_ ?_ (fun ⟨j, n⟩ hj => ?_)
  · exact ⟨by simp, by simp⟩
  · refine (weak_e0 (t := 3) (m := 9) ?_).trans (weak_ok ?_ (Sub.cons ?_ (Sub.base hf ?_)) (Nat.le_refl _))
    all_goals
      simp only [plL, go_sem, ↓reduceIte, Nat.reduceEqDiff, Nat.reduceBEq, Nat.reduceAdd, Nat.reduceLeDiff, Nat.reduceLT, reduceCtorEq, Nat.reduceMul, Nat.reduceSub, Int.reduceEq, Int.reduceLT, Int.reduceLE, Int.reduceToNat]
  dsimp only at hj
  have z0 : m ≤ n := by omega
  have z1 : ¬ n = m := by omega
  simp only [z0, z1, go_sem, ↓reduceIte, Nat.reduceEqDiff, Nat.reduceBEq, Nat.reduceAdd, Nat.reduceLeDiff, Nat.reduceLT, reduceCtorEq, Nat.reduceMul, Nat.reduceSub, Int.reduceEq, Int.reduceLT, Int.reduceLE, Int.reduceToNat]
  refine cdK_of (fun d => ?_) (fun d => ?_)
  · have d : j < l.length := by simpa using d
    obtain ⟨x, ex⟩ : ∃ x, l[j]? = some x := ⟨l[j], by simp [d]⟩
    have hr := h x (List.mem_of_getElem? ex)
    have ht : (plL (l.take j)).length = j := by rw [plL_len]; simp; omega
    simp only [z0, z1, d, getK_s (mapC_get pkC ex), go_sem, ↓reduceIte, Nat.reduceEqDiff, Nat.reduceBEq, Nat.reduceAdd, Nat.reduceLeDiff, Nat.reduceLT, reduceCtorEq, Nat.reduceMul, Nat.reduceSub, Int.reduceEq, Int.reduceLT, Int.reduceLE, Int.reduceToNat]
    refine vcCall.f (hr _ _) ?_
    simp only [z0, z1, d, ht, snoc_pl, go_sem, ↓reduceIte, Nat.reduceEqDiff, Nat.reduceBEq, Nat.reduceAdd, Nat.reduceLeDiff, Nat.reduceLT, reduceCtorEq, Nat.reduceMul, Nat.reduceSub, Int.reduceEq, Int.reduceLT, Int.reduceLE, Int.reduceToNat]
    refine ⟨by omega, by omega, (j + 1, _), ?_, ?_, weak_ok ?_ (Sub.cons ?_ (Sub.base hf ?_)) (Nat.le_refl _)⟩
    · exact ⟨by dsimp only; omega, by dsimp only; omega⟩
    · dsimp only; omega
    all_goals
      simp only [z0, z1, wr64s j (by omega), take_snoc ex, go_sem, ↓reduceIte, Nat.reduceEqDiff, Nat.reduceBEq, Nat.reduceAdd, Nat.reduceLeDiff, Nat.reduceLT, reduceCtorEq, Nat.reduceMul, Nat.reduceSub, Int.reduceEq, Int.reduceLT, Int.reduceLE, Int.reduceToNat]
  · have d : j = l.length := by simp at d; omega
    subst d
    have ht : (plL l).take l.length = plL l := by rw [List.take_of_length_le (by rw [plL_len]; exact Nat.le_refl _)]
    simp only [z0, z1, List.take_length, plL_len, Nat.le_refl, ht, go_sem, ↓reduceIte, Nat.reduceEqDiff, Nat.reduceBEq, Nat.reduceAdd, Nat.reduceLeDiff, Nat.reduceLT, reduceCtorEq, Nat.reduceMul, Nat.reduceSub, Int.reduceEq, Int.reduceLT, Int.reduceLE, Int.reduceToNat]
theorem plain2_ok (l : List Pk) (hw : wtGs l ≤ 800000000000) (hp : CH) (m : Nat) : MeetsF Try.prog 22 hp m [.ds (mapC pkC l)] (.ds (mapC pkC (plL l))) := by
  have key : ∀ p : Pk, wtG p ≤ 800000000000 → ∀ hp m, MeetsF Try.prog 22 hp m [.ds (mapC pkC p.picks)] (.ds (mapC pkC (plL p.picks))) := fun p => Pk.ind (Q := fun p => wtG p ≤ 800000000000 → ∀ hp m, MeetsF Try.prog 22 hp m [.ds (mapC pkC p.picks)] (.ds (mapC pkC (plL p.picks)))) (fun v ih hv => by
    rw [wtG_eq] at hv
    exact plain2_of v.picks (by omega) fun p hp => ih p hp (by have := wtGs_mem hp; omega)) p
  exact plain2_of l hw (fun p hp => key p (by have := wtGs_mem hp; omega)) hp m
end Go.Proofs.Ytmcgjccheehehaa
