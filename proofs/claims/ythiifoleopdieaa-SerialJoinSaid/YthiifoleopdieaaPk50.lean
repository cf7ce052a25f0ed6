/-
  The parts SeD of the proof, in one file. Conditions: none.
-/
import Derived.Test.YthiifoleopdieaaPk49
namespace Go.Proofs.Ythiifoleopdieaa
open Go.Eng
set_option linter.unusedVariables false
set_option linter.unusedSimpArgs false
set_option maxRecDepth 20000
/-- No list is too long for memory. -/
inductive Pk.Fit : Pk → Prop
  | mk (p : Pk) : p.args.length ≤ 100000000000 → p.tw.length ≤ 100000000000 → p.picks.length ≤ 100000000000 → (∀ a ∈ p.args, a.v.Fit) → (∀ x ∈ p.picks, Pk.Fit x) → Pk.Fit p
theorem Pk.Fit.a {p : Pk} (h : p.Fit) : p.args.length ≤ 100000000000 := by cases h; assumption
theorem Pk.Fit.w {p : Pk} (h : p.Fit) : p.tw.length ≤ 100000000000 := by cases h; assumption
theorem Pk.Fit.l {p : Pk} (h : p.Fit) : p.picks.length ≤ 100000000000 := by cases h; assumption
theorem Pk.Fit.v {p : Pk} (h : p.Fit) {a : Arg} (ha : a ∈ p.args) : a.v.Fit := by cases h with | mk _ _ _ _ h _ => exact h a ha
theorem Pk.Fit.x {p : Pk} (h : p.Fit) {x : Pk} (hx : x ∈ p.picks) : x.Fit := by cases h with | mk _ _ _ _ _ h => exact h x hx
theorem snoc_arg (l : List Arg) (a : Arg) : mapC argC l ++ [[AV.s a.n, .i .i64 a.v.k, .i .i64 a.v.n, .s a.v.s, .ds (mapC valC a.v.items), .ds (stC a.v.keys)]] = mapC argC (l ++ [a]) := mapC_snoc argC l a
theorem snoc_pk (l : List Pk) (p : Pk) : mapC pkC l ++ [[AV.s p.key, .s p.on, .s p.name, .ds (mapC argC p.args), .s p.tn, .ds (mapC in1 p.tw), .s p.label, .i .i64 p.initial, .ds (mapC pkC p.picks)]] = mapC pkC (l ++ [p]) := by rw [← pkC_eq, mapC_snoc]
attribute [go_sem] snoc_arg snoc_pk
theorem cloneI_ok (l : List Int) (h : l.length * 8 ≤ 140737488355327) (hp : CH) (m : Nat) : MeetsF Try.prog 49 hp m [.ds (mapC in1 l)] (.ds (mapC in1 l)) := by
  refine meetsF Try.func49 (by kernel_rfl) cc49 cr49 rfl fun hf => ?_; unfold ck49
  simp only [go_sem, ↓reduceIte, Nat.reduceEqDiff, Nat.reduceBEq, Nat.reduceAdd, Nat.reduceLeDiff, Nat.reduceLT, reduceCtorEq, Nat.reduceMul, Nat.reduceSub, Int.reduceEq, Int.reduceLT, Int.reduceLE, Int.reduceToNat]
  exact ⟨fun e => by rw [e], by omega, by omega⟩
theorem copied_of (p : Pk) (hp' : p.Fit) (h : ∀ x ∈ p.picks, ∀ hp m, MeetsF Try.prog 21 hp m [pkx x] (pkx x)) (hp : CH) (m : Nat) : MeetsF Try.prog 21 hp m [pkx p] (pkx p) := by
  have h1 := hp'.a
  have h2 := hp'.l
  have h3 := hp'.w
  refine meetsF Try.func21 (by kernel_rfl) cc21 cr21 rfl fun hf => ?_; unfold ck21
  simp only [go_sem, ↓reduceIte, Nat.reduceEqDiff, Nat.reduceBEq, Nat.reduceAdd, Nat.reduceLeDiff, Nat.reduceLT, reduceCtorEq, Nat.reduceMul, Nat.reduceSub, Int.reduceEq, Int.reduceLT, Int.reduceLE, Int.reduceToNat]
  refine loop (fun q : Nat × Nat => ⟨[(1, .bx m 0), (2, .bx (m + 1) 0), (3, .rw (m + 2) q.1 q.1), (10, .ds (mapC argC p.args)), (11, .i .i64 p.args.length), (12, .i .i64 q.1)],
      (m, .bx [.s p.key, .s p.on, .s p.name, .ds (mapC argC p.args), .s p.tn, .ds (mapC in1 p.tw), .s p.label, .i .i64 p.initial, .ds (mapC pkC p.picks)]) :: (m + 1, .bx [.s ⟨#[]⟩, .s ⟨#[]⟩, .s ⟨#[]⟩, .e0, .s ⟨#[]⟩, .e0, .s ⟨#[]⟩, .i .i64 0, .e0]) :: (m + 2, .rw q.1 6 (mapC argC (p.args.take q.1))) :: hp, q.2⟩)
    (fun q => q.1 ≤ p.args.length ∧ m + 3 ≤ q.2) (fun q => p.args.length - q.1) (0, m + 3) ?_ ?_ (fun ⟨j, n⟩ hj => ?_)
  · simp
  · refine (weak_e0 (t := 3) (m := 6) ?_).trans (weak_ok ?_ (Sub.cons ?_ (Sub.cons ?_ (Sub.cons ?_ (Sub.base hf ?_)))) (Nat.le_refl _))
    all_goals (simp (disch := omega) only [ite_ne, go_sem, ↓reduceIte, Nat.reduceEqDiff, Nat.reduceBEq, Nat.reduceAdd, Nat.reduceLeDiff, Nat.reduceLT, reduceCtorEq, Nat.reduceMul, Nat.reduceSub, Int.reduceEq, Int.reduceLT, Int.reduceLE, Int.reduceToNat])
    all_goals rfl
  dsimp only at hj
  obtain ⟨hj1, hj2⟩ := hj
  simp (disch := omega) only [ite_ne, go_sem, ↓reduceIte, Nat.reduceEqDiff, Nat.reduceBEq, Nat.reduceAdd, Nat.reduceLeDiff, Nat.reduceLT, reduceCtorEq, Nat.reduceMul, Nat.reduceSub, Int.reduceEq, Int.reduceLT, Int.reduceLE, Int.reduceToNat]
  refine cdK_of (fun q => ?_) (fun q => ?_)
  · have q : j < p.args.length := by simpa using q
    obtain ⟨a, ea⟩ : ∃ a, p.args[j]? = some a := ⟨p.args[j], by simp [q]⟩
    have haf := hp'.v (List.mem_of_getElem? ea)
    have ht : (p.args.take j).length = j := by simp; omega
    have k1 : (j + 1) * 96 ≤ 140737488355328 := by omega
    have k2 : j + 1 ≤ 9223372036854775807 := by omega
    have k3 : p.args.length - (j + 1) < p.args.length - j := by omega
    simp (disch := omega) only [ite_ne, q, getK_s (mapC_get argC ea), go_sem, ↓reduceIte, Nat.reduceEqDiff, Nat.reduceBEq, Nat.reduceAdd, Nat.reduceLeDiff, Nat.reduceLT, reduceCtorEq, Nat.reduceMul, Nat.reduceSub, Int.reduceEq, Int.reduceLT, Int.reduceLE, Int.reduceToNat]
    refine dCallR.f (fun _ hp' e => copy_ok a.v haf _ _) ?_
    simp (disch := omega) only [ite_ne, q, getK_s (mapC_get argC ea), ht, k1, k2, go_sem, ↓reduceIte, Nat.reduceEqDiff, Nat.reduceBEq, Nat.reduceAdd, Nat.reduceLeDiff, Nat.reduceLT, reduceCtorEq, Nat.reduceMul, Nat.reduceSub, Int.reduceEq, Int.reduceLT, Int.reduceLE, Int.reduceToNat]
    refine ⟨(j + 1, _), ⟨by dsimp only; omega, by dsimp only; omega⟩, k3, weak_ok ?_ (Sub.cons ?_ (Sub.cons ?_ (Sub.cons ?_ (Sub.base hf ?_)))) (Nat.le_refl _)⟩
    all_goals
      simp (disch := omega) only [ite_ne, wr64s j (by omega), take_snoc ea, go_sem, ↓reduceIte, Nat.reduceEqDiff, Nat.reduceBEq, Nat.reduceAdd, Nat.reduceLeDiff, Nat.reduceLT, reduceCtorEq, Nat.reduceMul, Nat.reduceSub, Int.reduceEq, Int.reduceLT, Int.reduceLE, Int.reduceToNat]
  · have q : j = p.args.length := by simp at q; omega
    subst q
    rw [List.take_length]
    simp (disch := omega) only [ite_ne, go_sem, ↓reduceIte, Nat.reduceEqDiff, Nat.reduceBEq, Nat.reduceAdd, Nat.reduceLeDiff, Nat.reduceLT, reduceCtorEq, Nat.reduceMul, Nat.reduceSub, Int.reduceEq, Int.reduceLT, Int.reduceLE, Int.reduceToNat]
    refine loop (fun q : Nat × Nat => ⟨[(1, .bx m 0), (2, .bx (m + 1) 0), (3, .rw (m + 2) p.args.length p.args.length), (6, .rw n q.1 q.1), (27, .ds (mapC pkC p.picks)), (28, .i .i64 p.picks.length), (29, .i .i64 q.1)],
        (m, .bx [.s p.key, .s p.on, .s p.name, .ds (mapC argC p.args), .s p.tn, .ds (mapC in1 p.tw), .s p.label, .i .i64 p.initial, .ds (mapC pkC p.picks)]) :: (m + 1, .bx [.s ⟨#[]⟩, .s ⟨#[]⟩, .s ⟨#[]⟩, .e0, .s ⟨#[]⟩, .e0, .s ⟨#[]⟩, .i .i64 0, .e0]) :: (m + 2, .rw p.args.length 6 (mapC argC p.args)) :: (n, .rw q.1 9 (mapC pkC (p.picks.take q.1))) :: hp, q.2⟩)
      (fun q => q.1 ≤ p.picks.length ∧ n + 1 ≤ q.2) (fun q => p.picks.length - q.1) (0, n + 1) ?_ ?_ (fun ⟨j, n2⟩ hj => ?_)
    · simp
    · refine (weak_e0 (t := 6) (m := 9) ?_).trans (weak_ok ?_ (Sub.cons ?_ (Sub.cons ?_ (Sub.cons ?_ (Sub.cons ?_ (Sub.base hf ?_))))) (Nat.le_refl _))
      all_goals (simp (disch := omega) only [ite_ne, go_sem, ↓reduceIte, Nat.reduceEqDiff, Nat.reduceBEq, Nat.reduceAdd, Nat.reduceLeDiff, Nat.reduceLT, reduceCtorEq, Nat.reduceMul, Nat.reduceSub, Int.reduceEq, Int.reduceLT, Int.reduceLE, Int.reduceToNat])
      all_goals rfl
    dsimp only at hj
    obtain ⟨hj1, hj3⟩ := hj
    simp (disch := omega) only [ite_ne, go_sem, ↓reduceIte, Nat.reduceEqDiff, Nat.reduceBEq, Nat.reduceAdd, Nat.reduceLeDiff, Nat.reduceLT, reduceCtorEq, Nat.reduceMul, Nat.reduceSub, Int.reduceEq, Int.reduceLT, Int.reduceLE, Int.reduceToNat]
    refine cdK_of (fun q => ?_) (fun q => ?_)
    · have q : j < p.picks.length := by simpa using q
      obtain ⟨x, ex⟩ : ∃ x, p.picks[j]? = some x := ⟨p.picks[j], by simp [q]⟩
      have hx := h x (List.mem_of_getElem? ex)
      have ht : (p.picks.take j).length = j := by simp; omega
      have k1 : (j + 1) * 160 ≤ 140737488355328 := by omega
      have k2 : j + 1 ≤ 9223372036854775807 := by omega
      have k3 : p.picks.length - (j + 1) < p.picks.length - j := by omega
      simp (disch := omega) only [ite_ne, q, getK_s (mapC_get pkC ex), go_sem, ↓reduceIte, Nat.reduceEqDiff, Nat.reduceBEq, Nat.reduceAdd, Nat.reduceLeDiff, Nat.reduceLT, reduceCtorEq, Nat.reduceMul, Nat.reduceSub, Int.reduceEq, Int.reduceLT, Int.reduceLE, Int.reduceToNat]
      refine vcCall.f (hx _ _) ?_
      simp (disch := omega) only [ite_ne, ht, k1, k2, go_sem, ↓reduceIte, Nat.reduceEqDiff, Nat.reduceBEq, Nat.reduceAdd, Nat.reduceLeDiff, Nat.reduceLT, reduceCtorEq, Nat.reduceMul, Nat.reduceSub, Int.reduceEq, Int.reduceLT, Int.reduceLE, Int.reduceToNat]
      refine ⟨(j + 1, _), ⟨by dsimp only; omega, by dsimp only; omega⟩, k3, weak_ok ?_ (Sub.cons ?_ (Sub.cons ?_ (Sub.cons ?_ (Sub.cons ?_ (Sub.base hf ?_))))) (Nat.le_refl _)⟩
      all_goals
        simp (disch := omega) only [ite_ne, wr64s j (by omega), take_snoc ex, go_sem, ↓reduceIte, Nat.reduceEqDiff, Nat.reduceBEq, Nat.reduceAdd, Nat.reduceLeDiff, Nat.reduceLT, reduceCtorEq, Nat.reduceMul, Nat.reduceSub, Int.reduceEq, Int.reduceLT, Int.reduceLE, Int.reduceToNat]
    · have q : j = p.picks.length := by simp at q; omega
      subst q
      have k1 : p.tw.length * 8 ≤ 140737488355327 := by omega
      rw [List.take_length]
      simp (disch := omega) only [ite_ne, go_sem, ↓reduceIte, Nat.reduceEqDiff, Nat.reduceBEq, Nat.reduceAdd, Nat.reduceLeDiff, Nat.reduceLT, reduceCtorEq, Nat.reduceMul, Nat.reduceSub, Int.reduceEq, Int.reduceLT, Int.reduceLE, Int.reduceToNat]
      refine vcCall.f (cloneI_ok p.tw k1 _ _) ?_
      simp (disch := omega) only [ite_ne, List.take_length, Nat.le_refl, go_sem, ↓reduceIte, Nat.reduceEqDiff, Nat.reduceBEq, Nat.reduceAdd, Nat.reduceLeDiff, Nat.reduceLT, reduceCtorEq, Nat.reduceMul, Nat.reduceSub, Int.reduceEq, Int.reduceLT, Int.reduceLE, Int.reduceToNat]
theorem copied_ok (p : Pk) (hf : p.Fit) (hp : CH) (m : Nat) : MeetsF Try.prog 21 hp m [pkx p] (pkx p) := by
  have := Pk.ind (Q := fun p => p.Fit → ∀ hp m, MeetsF Try.prog 21 hp m [pkx p] (pkx p)) (fun p ih hf hp m => copied_of p hf (fun x hx => ih x hx (hf.x hx)) hp m) p
  exact this hf hp m
inductive Pln where
  | mk (k : Int) (l : List Pk)
def Pln.k : Pln → Int | .mk k _ => k
theorem Pln.k_mk (k : Int) (l : List Pk) : (Pln.mk k l).k = k := rfl
def Pln.l : Pln → List Pk | .mk _ l => l
theorem Pln.l_mk (k : Int) (l : List Pk) : (Pln.mk k l).l = l := rfl
theorem Pln.eta (x : Pln) : Pln.mk x.k x.l = x := by cases x; rfl
theorem Pln.ext {x y : Pln} (h0 : x.k = y.k) (h1 : x.l = y.l) : x = y := by cases x; cases y; simp only [Pln.k_mk, Pln.l_mk] at *; simp [*]
def plC (x : Pln) : List AV := [.i .i64 x.k, .ds (mapC pkC x.l)]
attribute [go_sem] plC Pln.k_mk Pln.l_mk
attribute [grind =] Pln.k_mk Pln.l_mk
attribute [ext] Pln.ext
attribute [grind ext] Pln.ext
abbrev plx (x : Pln) : AV := .ag [.i .i64 x.k, .ds (mapC pkC x.l)]
theorem snoc_pl1 (l : List Pln) (k : Int) (p : Pk) : mapC plC l ++ [[AV.i .i64 k, .ds [[AV.s p.key, .s p.on, .s p.name, .ds (mapC argC p.args), .s p.tn, .ds (mapC in1 p.tw), .s p.label, .i .i64 p.initial, .ds (mapC pkC p.picks)]]]] = mapC plC (l ++ [.mk k [p]]) := by
  rw [← pkC_eq]
  exact mapC_snoc plC l (.mk k [p])
attribute [go_sem] snoc_pl1
def splitP (p : Pln) : List Pln := p.l.map fun x => .mk p.k [x]
theorem splitP_len (p : Pln) : (splitP p).length = p.l.length := by simp [splitP]
theorem splitP_step {k : Int} {l : List Pk} {j : Nat} {x : Pk} (h : l[j]? = some x) : splitP (.mk k (l.take j)) ++ [.mk k [x]] = splitP (.mk k (l.take (j + 1))) := by
  rw [← take_snoc h]
  simp [splitP, Pln.l_mk, Pln.k_mk]
theorem sSplit_ok (p : Pln) (hl : p.l.length ≤ 100000000000) (hfp : ∀ x ∈ p.l, x.Fit) (hp : CH) (m : Nat) : MeetsF Try.prog 8 hp m [plx p] (.ds (mapC plC (splitP p))) := by
  refine meetsF Try.func8 (by kernel_rfl) cc8 cr8 rfl fun hf => ?_; unfold ck8
  simp only [go_sem, ↓reduceIte, Nat.reduceEqDiff, Nat.reduceBEq, Nat.reduceAdd, Nat.reduceLeDiff, Nat.reduceLT, reduceCtorEq, Nat.reduceMul, Nat.reduceSub, Int.reduceEq, Int.reduceLT, Int.reduceLE, Int.reduceToNat]
  refine loop (fun q : Nat × Nat => ⟨[(1, .bx m 0), (3, .rw (m + 1) q.1 q.1), (7, .ds (mapC pkC p.l)), (8, .i .i64 p.l.length), (9, .i .i64 q.1)],
      (m, .bx [.i .i64 p.k, .ds (mapC pkC p.l)]) :: (m + 1, .rw q.1 2 (mapC plC (splitP (.mk p.k (p.l.take q.1))))) :: hp, q.2⟩)
    (fun q => q.1 ≤ p.l.length ∧ m + 2 ≤ q.2) (fun q => p.l.length - q.1) (0, m + 2) ?_ ?_ (fun ⟨j, n⟩ hj => ?_)
  · simp
  · refine (weak_e0 (t := 3) (m := 2) ?_).trans (weak_ok ?_ (Sub.cons ?_ (Sub.cons ?_ (Sub.base hf ?_))) (Nat.le_refl _))
    all_goals (simp (disch := omega) only [ite_ne, go_sem, ↓reduceIte, Nat.reduceEqDiff, Nat.reduceBEq, Nat.reduceAdd, Nat.reduceLeDiff, Nat.reduceLT, reduceCtorEq, Nat.reduceMul, Nat.reduceSub, Int.reduceEq, Int.reduceLT, Int.reduceLE, Int.reduceToNat])
    all_goals rfl
  dsimp only at hj
  obtain ⟨hj1, hj2⟩ := hj
  simp (disch := omega) only [ite_ne, go_sem, ↓reduceIte, Nat.reduceEqDiff, Nat.reduceBEq, Nat.reduceAdd, Nat.reduceLeDiff, Nat.reduceLT, reduceCtorEq, Nat.reduceMul, Nat.reduceSub, Int.reduceEq, Int.reduceLT, Int.reduceLE, Int.reduceToNat]
  refine cdK_of (fun q => ?_) (fun q => ?_)
  · have q : j < p.l.length := by simpa using q
    obtain ⟨x, ex⟩ : ∃ x, p.l[j]? = some x := ⟨p.l[j], by simp [q]⟩
    have hx := hfp x (List.mem_of_getElem? ex)
    have ht : (splitP (.mk p.k (p.l.take j))).length = j := by simp [splitP, Pln.l_mk]; omega
    have k1 : (j + 1) * 32 ≤ 140737488355328 := by omega
    have k2 : j + 1 ≤ 9223372036854775807 := by omega
    have k3 : p.l.length - (j + 1) < p.l.length - j := by omega
    simp (disch := omega) only [ite_ne, q, getK_s (mapC_get pkC ex), go_sem, ↓reduceIte, Nat.reduceEqDiff, Nat.reduceBEq, Nat.reduceAdd, Nat.reduceLeDiff, Nat.reduceLT, reduceCtorEq, Nat.reduceMul, Nat.reduceSub, Int.reduceEq, Int.reduceLT, Int.reduceLE, Int.reduceToNat]
    refine dCallR.f (fun _ hp' e => copied_ok x hx _ _) ?_
    simp (disch := omega) only [ite_ne, q, getK_s (mapC_get pkC ex), ht, k1, k2, go_sem, ↓reduceIte, Nat.reduceEqDiff, Nat.reduceBEq, Nat.reduceAdd, Nat.reduceLeDiff, Nat.reduceLT, reduceCtorEq, Nat.reduceMul, Nat.reduceSub, Int.reduceEq, Int.reduceLT, Int.reduceLE, Int.reduceToNat]
    refine ⟨(j + 1, _), ⟨by dsimp only; omega, by dsimp only; omega⟩, k3, weak_ok ?_ (Sub.cons ?_ (Sub.cons ?_ (Sub.base hf ?_))) (Nat.le_refl _)⟩
    all_goals
      simp (disch := omega) only [ite_ne, wr64s j (by omega), splitP_step ex, go_sem, ↓reduceIte, Nat.reduceEqDiff, Nat.reduceBEq, Nat.reduceAdd, Nat.reduceLeDiff, Nat.reduceLT, reduceCtorEq, Nat.reduceMul, Nat.reduceSub, Int.reduceEq, Int.reduceLT, Int.reduceLE, Int.reduceToNat]
  · have q : j = p.l.length := by simp at q; omega
    subst q
    rw [List.take_length]
    have e1 : splitP (.mk p.k p.l) = splitP p := by rw [Pln.eta]
    have e2 := splitP_len p
    have e3 : (splitP p).take p.l.length = splitP p := List.take_of_length_le (by omega)
    rw [e1]
    simp (disch := omega) only [ite_ne, e2, e3, Nat.le_refl, go_sem, ↓reduceIte, Nat.reduceEqDiff, Nat.reduceBEq, Nat.reduceAdd, Nat.reduceLeDiff, Nat.reduceLT, reduceCtorEq, Nat.reduceMul, Nat.reduceSub, Int.reduceEq, Int.reduceLT, Int.reduceLE, Int.reduceToNat]
end Go.Proofs.Ythiifoleopdieaa
