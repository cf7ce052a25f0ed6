/-
  The parts VaH of the proof, in one file. Conditions: none.
-/
import Derived.Test.YtjalbhlahfgogaaQws28
namespace Go.Proofs.Ytjalbhlahfgogaa
open Go.Eng
set_option linter.unusedVariables false
set_option linter.unusedSimpArgs false
set_option maxRecDepth 20000
def fidx {α : Type} (q : α → Bool) : List α → Nat → Int
  | [], _ => -1
  | x :: r, j => if q x = true then j else fidx q r (j + 1)
theorem fidx_any {α : Type} (q : α → Bool) : ∀ (l : List α) (j : Nat), decide (0 ≤ fidx q l j) = l.any q
  | [], j => rfl
  | x :: r, j => by
    rw [fidx, List.any_cons]
    cases h : q x
    · rw [if_neg (by simp), fidx_any q r (j + 1), Bool.false_or]
    · rw [if_pos rfl]; simp
attribute [go_sem] st1
abbrev sx (s : ByteArray) : AV := .s s
theorem idxf_val (l : List Val) (q : Val → Bool) (k : FuncId) (caps : List AV) (hl : l.length ≤ 9223372036854775806) (hp : CH) (m : Nat) (h : ∀ x ∈ l, ∀ n, MeetsF Try.prog k hp n (vx x :: caps) (.b (q x))) : MeetsF Try.prog 102 hp m [.ds (mapC valC l), .fn k caps] (.i .i64 (fidx q l 0)) := by
  refine meetsF Try.func102 (by kernel_rfl) cc102 cr102 rfl fun hf => ?_; unfold ck102
  simp only [go_sem, ↓reduceIte, Nat.reduceEqDiff, Nat.reduceBEq, Nat.reduceAdd, Nat.reduceLeDiff, Nat.reduceLT, reduceCtorEq, Nat.reduceMul, Nat.reduceSub, Int.reduceEq, Int.reduceLT, Int.reduceLE, Int.reduceToNat]
  refine loop (fun p : Nat × Nat => ⟨[(0, .ds (mapC valC l)), (1, .fn k caps), (7, .i .i64 l.length), (8, .i .i64 p.1)], hp, p.2⟩) (fun p => p.1 ≤ l.length ∧ fidx q l 0 = fidx q (l.drop p.1) p.1) (fun p => l.length - p.1) (0, m) ?_ ?_ (fun ⟨j, n⟩ hj => ?_)
  · exact ⟨by simp, rfl⟩
  · refine weak_ok ?_ (Sub.refl _) (Nat.le_refl _)
    simp only [go_sem, ↓reduceIte, Nat.reduceEqDiff, Nat.reduceBEq, Nat.reduceAdd, Nat.reduceLeDiff, Nat.reduceLT, reduceCtorEq, Nat.reduceMul, Nat.reduceSub, Int.reduceEq, Int.reduceLT, Int.reduceLE, Int.reduceToNat]
  dsimp only at hj
  obtain ⟨hj1, hj2⟩ := hj
  simp only [go_sem, ↓reduceIte, Nat.reduceEqDiff, Nat.reduceBEq, Nat.reduceAdd, Nat.reduceLeDiff, Nat.reduceLT, reduceCtorEq, Nat.reduceMul, Nat.reduceSub, Int.reduceEq, Int.reduceLT, Int.reduceLE, Int.reduceToNat]
  refine cdK_of (fun c => ?_) (fun c => ?_)
  · have c : j < l.length := by simpa using c
    obtain ⟨x, ex⟩ : ∃ x, l[j]? = some x := ⟨l[j], by simp [c]⟩
    have hx := h x (List.mem_of_getElem? ex) n
    rw [drop_at ex, fidx] at hj2
    simp only [c, getK_s (mapC_get valC ex), go_sem, ↓reduceIte, Nat.reduceEqDiff, Nat.reduceBEq, Nat.reduceAdd, Nat.reduceLeDiff, Nat.reduceLT, reduceCtorEq, Nat.reduceMul, Nat.reduceSub, Int.reduceEq, Int.reduceLT, Int.reduceLE, Int.reduceToNat]
    refine vcCall.f (hx) ?_
    simp only [go_sem, ↓reduceIte, Nat.reduceEqDiff, Nat.reduceBEq, Nat.reduceAdd, Nat.reduceLeDiff, Nat.reduceLT, reduceCtorEq, Nat.reduceMul, Nat.reduceSub, Int.reduceEq, Int.reduceLT, Int.reduceLE, Int.reduceToNat]
    refine cdK_of (fun c1 => ?_) (fun c1 => ?_)
    · rw [if_pos c1] at hj2
      simp only [go_sem, ↓reduceIte, Nat.reduceEqDiff, Nat.reduceBEq, Nat.reduceAdd, Nat.reduceLeDiff, Nat.reduceLT, reduceCtorEq, Nat.reduceMul, Nat.reduceSub, Int.reduceEq, Int.reduceLT, Int.reduceLE, Int.reduceToNat]
      rw [hj2]
    · rw [if_neg (by simp [c1])] at hj2
      simp only [go_sem, ↓reduceIte, Nat.reduceEqDiff, Nat.reduceBEq, Nat.reduceAdd, Nat.reduceLeDiff, Nat.reduceLT, reduceCtorEq, Nat.reduceMul, Nat.reduceSub, Int.reduceEq, Int.reduceLT, Int.reduceLE, Int.reduceToNat]
      refine ⟨(j + 1, n), ⟨by dsimp only; omega, hj2⟩, by dsimp only; omega, weak_ok ?_ (Sub.refl _) (Nat.le_refl _)⟩
      simp only [wr64s j (by omega), go_sem, ↓reduceIte, Nat.reduceEqDiff, Nat.reduceBEq, Nat.reduceAdd, Nat.reduceLeDiff, Nat.reduceLT, reduceCtorEq, Nat.reduceMul, Nat.reduceSub, Int.reduceEq, Int.reduceLT, Int.reduceLE, Int.reduceToNat]
  · have c : j = l.length := by simp at c; omega
    subst c
    rw [List.drop_length, fidx] at hj2
    simp only [go_sem, ↓reduceIte, Nat.reduceEqDiff, Nat.reduceBEq, Nat.reduceAdd, Nat.reduceLeDiff, Nat.reduceLT, reduceCtorEq, Nat.reduceMul, Nat.reduceSub, Int.reduceEq, Int.reduceLT, Int.reduceLE, Int.reduceToNat]
    rw [hj2]
theorem anyf_val (l : List Val) (q : Val → Bool) (k : FuncId) (caps : List AV) (hl : l.length ≤ 9223372036854775806) (hp : CH) (m : Nat) (h : ∀ x ∈ l, ∀ n, MeetsF Try.prog k hp n (vx x :: caps) (.b (q x))) : MeetsF Try.prog 94 hp m [.ds (mapC valC l), .fn k caps] (.b (l.any q)) := by
  rw [← fidx_any q l 0]
  refine meetsF Try.func94 (by kernel_rfl) cc94 cr94 rfl fun hf => ?_; unfold ck94
  simp only [go_sem, ↓reduceIte, Nat.reduceEqDiff, Nat.reduceBEq, Nat.reduceAdd, Nat.reduceLeDiff, Nat.reduceLT, reduceCtorEq, Nat.reduceMul, Nat.reduceSub, Int.reduceEq, Int.reduceLT, Int.reduceLE, Int.reduceToNat]
  refine vcCall.f (idxf_val l q k caps hl _ _ h) ?_
  simp only [go_sem, ↓reduceIte, Nat.reduceEqDiff, Nat.reduceBEq, Nat.reduceAdd, Nat.reduceLeDiff, Nat.reduceLT, reduceCtorEq, Nat.reduceMul, Nat.reduceSub, Int.reduceEq, Int.reduceLT, Int.reduceLE, Int.reduceToNat]
theorem idxf_str (l : List ByteArray) (q : ByteArray → Bool) (k : FuncId) (caps : List AV) (hl : l.length ≤ 9223372036854775806) (hp : CH) (m : Nat) (h : ∀ x ∈ l, ∀ n, MeetsF Try.prog k hp n (sx x :: caps) (.b (q x))) : MeetsF Try.prog 105 hp m [.ds (mapC st1 l), .fn k caps] (.i .i64 (fidx q l 0)) := by
  refine meetsF Try.func105 (by kernel_rfl) cc105 cr105 rfl fun hf => ?_; unfold ck105
  simp only [go_sem, ↓reduceIte, Nat.reduceEqDiff, Nat.reduceBEq, Nat.reduceAdd, Nat.reduceLeDiff, Nat.reduceLT, reduceCtorEq, Nat.reduceMul, Nat.reduceSub, Int.reduceEq, Int.reduceLT, Int.reduceLE, Int.reduceToNat]
  refine loop (fun p : Nat × Nat => ⟨[(0, .ds (mapC st1 l)), (1, .fn k caps), (7, .i .i64 l.length), (8, .i .i64 p.1)], hp, p.2⟩) (fun p => p.1 ≤ l.length ∧ fidx q l 0 = fidx q (l.drop p.1) p.1) (fun p => l.length - p.1) (0, m) ?_ ?_ (fun ⟨j, n⟩ hj => ?_)
  · exact ⟨by simp, rfl⟩
  · refine weak_ok ?_ (Sub.refl _) (Nat.le_refl _)
    simp only [go_sem, ↓reduceIte, Nat.reduceEqDiff, Nat.reduceBEq, Nat.reduceAdd, Nat.reduceLeDiff, Nat.reduceLT, reduceCtorEq, Nat.reduceMul, Nat.reduceSub, Int.reduceEq, Int.reduceLT, Int.reduceLE, Int.reduceToNat]
  dsimp only at hj
  obtain ⟨hj1, hj2⟩ := hj
  simp only [go_sem, ↓reduceIte, Nat.reduceEqDiff, Nat.reduceBEq, Nat.reduceAdd, Nat.reduceLeDiff, Nat.reduceLT, reduceCtorEq, Nat.reduceMul, Nat.reduceSub, Int.reduceEq, Int.reduceLT, Int.reduceLE, Int.reduceToNat]
  refine cdK_of (fun c => ?_) (fun c => ?_)
  · have c : j < l.length := by simpa using c
    obtain ⟨x, ex⟩ : ∃ x, l[j]? = some x := ⟨l[j], by simp [c]⟩
    have hx := h x (List.mem_of_getElem? ex) n
    rw [drop_at ex, fidx] at hj2
    simp only [c, getK_s (mapC_get st1 ex), go_sem, ↓reduceIte, Nat.reduceEqDiff, Nat.reduceBEq, Nat.reduceAdd, Nat.reduceLeDiff, Nat.reduceLT, reduceCtorEq, Nat.reduceMul, Nat.reduceSub, Int.reduceEq, Int.reduceLT, Int.reduceLE, Int.reduceToNat]
    refine vcCall.f (hx) ?_
    simp only [go_sem, ↓reduceIte, Nat.reduceEqDiff, Nat.reduceBEq, Nat.reduceAdd, Nat.reduceLeDiff, Nat.reduceLT, reduceCtorEq, Nat.reduceMul, Nat.reduceSub, Int.reduceEq, Int.reduceLT, Int.reduceLE, Int.reduceToNat]
    refine cdK_of (fun c1 => ?_) (fun c1 => ?_)
    · rw [if_pos c1] at hj2
      simp only [go_sem, ↓reduceIte, Nat.reduceEqDiff, Nat.reduceBEq, Nat.reduceAdd, Nat.reduceLeDiff, Nat.reduceLT, reduceCtorEq, Nat.reduceMul, Nat.reduceSub, Int.reduceEq, Int.reduceLT, Int.reduceLE, Int.reduceToNat]
      rw [hj2]
    · rw [if_neg (by simp [c1])] at hj2
      simp only [go_sem, ↓reduceIte, Nat.reduceEqDiff, Nat.reduceBEq, Nat.reduceAdd, Nat.reduceLeDiff, Nat.reduceLT, reduceCtorEq, Nat.reduceMul, Nat.reduceSub, Int.reduceEq, Int.reduceLT, Int.reduceLE, Int.reduceToNat]
      refine ⟨(j + 1, n), ⟨by dsimp only; omega, hj2⟩, by dsimp only; omega, weak_ok ?_ (Sub.refl _) (Nat.le_refl _)⟩
      simp only [wr64s j (by omega), go_sem, ↓reduceIte, Nat.reduceEqDiff, Nat.reduceBEq, Nat.reduceAdd, Nat.reduceLeDiff, Nat.reduceLT, reduceCtorEq, Nat.reduceMul, Nat.reduceSub, Int.reduceEq, Int.reduceLT, Int.reduceLE, Int.reduceToNat]
  · have c : j = l.length := by simp at c; omega
    subst c
    rw [List.drop_length, fidx] at hj2
    simp only [go_sem, ↓reduceIte, Nat.reduceEqDiff, Nat.reduceBEq, Nat.reduceAdd, Nat.reduceLeDiff, Nat.reduceLT, reduceCtorEq, Nat.reduceMul, Nat.reduceSub, Int.reduceEq, Int.reduceLT, Int.reduceLE, Int.reduceToNat]
    rw [hj2]
theorem anyf_str (l : List ByteArray) (q : ByteArray → Bool) (k : FuncId) (caps : List AV) (hl : l.length ≤ 9223372036854775806) (hp : CH) (m : Nat) (h : ∀ x ∈ l, ∀ n, MeetsF Try.prog k hp n (sx x :: caps) (.b (q x))) : MeetsF Try.prog 99 hp m [.ds (mapC st1 l), .fn k caps] (.b (l.any q)) := by
  rw [← fidx_any q l 0]
  refine meetsF Try.func99 (by kernel_rfl) cc99 cr99 rfl fun hf => ?_; unfold ck99
  simp only [go_sem, ↓reduceIte, Nat.reduceEqDiff, Nat.reduceBEq, Nat.reduceAdd, Nat.reduceLeDiff, Nat.reduceLT, reduceCtorEq, Nat.reduceMul, Nat.reduceSub, Int.reduceEq, Int.reduceLT, Int.reduceLE, Int.reduceToNat]
  refine vcCall.f (idxf_str l q k caps hl _ _ h) ?_
  simp only [go_sem, ↓reduceIte, Nat.reduceEqDiff, Nat.reduceBEq, Nat.reduceAdd, Nat.reduceLeDiff, Nat.reduceLT, reduceCtorEq, Nat.reduceMul, Nat.reduceSub, Int.reduceEq, Int.reduceLT, Int.reduceLE, Int.reduceToNat]
def tbC (l : List ByteArray) : List (ByteArray × AV) := l.map fun s => (s, .b true)
theorem tb_t (b : ByteArray) : ∀ l : List ByteArray, b ∈ l → mfind b (tbC l) = some (.b true)
  | x :: l, hm => by
    have ih := tb_t b l
    rw [tbC] at ih
    rw [tbC, List.map_cons, mfind]
    by_cases h : b = x
    · rw [if_pos h]
    · rw [if_neg h]
      exact ih (by simpa [h] using hm)
theorem tb_f (b : ByteArray) : ∀ l : List ByteArray, b ∉ l → mfind b (tbC l) = none
  | [], _ => rfl
  | x :: l, hm => by
    have ih := tb_f b l fun h => hm (by simp [h])
    have h : ¬ b = x := fun e => hm (by simp [e])
    rw [tbC] at ih
    rw [tbC, List.map_cons, mfind, if_neg h]
    exact ih
theorem tb_put (b : ByteArray) : ∀ l : List ByteArray, b ∉ l → mput b (.b true) (tbC l) = tbC (l ++ [b])
  | [], _ => rfl
  | x :: l, h => by
    have h1 : ¬ b = x := fun e => h (by simp [e])
    have ih := tb_put b l fun hm => h (by simp [hm])
    rw [tbC, List.map_cons, mput, if_neg h1]
    rw [tbC] at ih
    rw [ih]
    rfl
/-- Whether a string occurs twice. -/
noncomputable def tw (l : List ByteArray) : Bool := !decide l.Nodup
theorem nodup_snoc {l : List ByteArray} {x : ByteArray} (h : l.Nodup) (hx : x ∉ l) : (l ++ [x]).Nodup := by
  rw [List.nodup_append]
  exact ⟨h, by simp, fun a ha b hb e => by simp at hb; subst hb; subst e; exact hx ha⟩
theorem tw_at {l : List ByteArray} {j : Nat} {x : ByteArray} (ex : l[j]? = some x) (h : x ∈ l.take j) : tw l = true := by
  simp only [tw, Bool.not_eq_true', decide_eq_false_iff_not]
  intro hn
  have e : l = l.take j ++ x :: l.drop (j + 1) := by rw [← drop_at ex, List.take_append_drop]
  rw [e, List.nodup_append] at hn
  exact hn.2.2 x h x (by simp) rfl
theorem twice_ok (l : List ByteArray) (hl : l.length ≤ 9223372036854775806) (hp : CH) (m : Nat) : MeetsF Try.prog 101 hp m [.ds (stC l)] (.b (tw l)) := by
  refine meetsF Try.func101 (by kernel_rfl) cc101 cr101 rfl fun hf => ?_; unfold ck101
  simp only [go_sem, ↓reduceIte, Nat.reduceEqDiff, Nat.reduceBEq, Nat.reduceAdd, Nat.reduceLeDiff, Nat.reduceLT, reduceCtorEq, Nat.reduceMul, Nat.reduceSub, Int.reduceEq, Int.reduceLT, Int.reduceLE, Int.reduceToNat]
  refine loop (fun p : Nat × Nat => ⟨[(3, .mp m), (7, .ds (stC l)), (8, .i .i64 l.length), (9, .i .i64 p.1)], (m, .mp (tbC (l.take p.1))) :: hp, p.2⟩) (fun p => p.1 ≤ l.length ∧ m + 1 ≤ p.2 ∧ (l.take p.1).Nodup) (fun p => l.length - p.1) (0, m + 1) ?_ ?_ (fun ⟨j, n⟩ hj => ?_)
  · exact ⟨by simp, by simp, by simp⟩
  · refine weak_ok ?_ (Sub.cons ?_ (Sub.base hf ?_)) (Nat.le_refl _)
    all_goals simp only [go_sem, ↓reduceIte, Nat.reduceEqDiff, Nat.reduceBEq, Nat.reduceAdd, Nat.reduceLeDiff, Nat.reduceLT, reduceCtorEq, Nat.reduceMul, Nat.reduceSub, Int.reduceEq, Int.reduceLT, Int.reduceLE, Int.reduceToNat]
    all_goals rfl
  dsimp only at hj
  obtain ⟨hj1, hj2, hj3⟩ := hj
  simp only [go_sem, ↓reduceIte, Nat.reduceEqDiff, Nat.reduceBEq, Nat.reduceAdd, Nat.reduceLeDiff, Nat.reduceLT, reduceCtorEq, Nat.reduceMul, Nat.reduceSub, Int.reduceEq, Int.reduceLT, Int.reduceLE, Int.reduceToNat]
  refine cdK_of (fun c => ?_) (fun c => ?_)
  · have c : j < l.length := by simpa using c
    obtain ⟨x, ex⟩ : ∃ x, l[j]? = some x := ⟨l[j], by simp [c]⟩
    by_cases hx : x ∈ l.take j
    · have := tw_at ex hx
      rw [this]
      simp only [c, getK_s (mapC_get st1 ex), tb_t x _ hx, go_sem, ↓reduceIte, Nat.reduceEqDiff, Nat.reduceBEq, Nat.reduceAdd, Nat.reduceLeDiff, Nat.reduceLT, reduceCtorEq, Nat.reduceMul, Nat.reduceSub, Int.reduceEq, Int.reduceLT, Int.reduceLE, Int.reduceToNat]
    · have hb := tb_put x _ hx
      rw [take_snoc ex] at hb
      simp only [c, getK_s (mapC_get st1 ex), tb_f x _ hx, hb, go_sem, ↓reduceIte, Nat.reduceEqDiff, Nat.reduceBEq, Nat.reduceAdd, Nat.reduceLeDiff, Nat.reduceLT, reduceCtorEq, Nat.reduceMul, Nat.reduceSub, Int.reduceEq, Int.reduceLT, Int.reduceLE, Int.reduceToNat]
      refine ⟨(j + 1, _), ⟨by dsimp only; omega, by dsimp only; omega, by dsimp only; rw [← take_snoc ex]; exact nodup_snoc hj3 hx⟩, by dsimp only; omega, weak_ok ?_ (Sub.cons ?_ (Sub.base hf ?_)) (Nat.le_refl _)⟩
      all_goals
        simp only [wr64s j (by omega), go_sem, ↓reduceIte, Nat.reduceEqDiff, Nat.reduceBEq, Nat.reduceAdd, Nat.reduceLeDiff, Nat.reduceLT, reduceCtorEq, Nat.reduceMul, Nat.reduceSub, Int.reduceEq, Int.reduceLT, Int.reduceLE, Int.reduceToNat]
  · have c : j = l.length := by simp at c; omega
    subst c
    rw [List.take_length] at hj3
    have : tw l = false := by simp [tw, hj3]
    rw [this]
    simp only [go_sem, ↓reduceIte, Nat.reduceEqDiff, Nat.reduceBEq, Nat.reduceAdd, Nat.reduceLeDiff, Nat.reduceLT, reduceCtorEq, Nat.reduceMul, Nat.reduceSub, Int.reduceEq, Int.reduceLT, Int.reduceLE, Int.reduceToNat]
theorem twice2_ok (l : List ByteArray) (hl : l.length ≤ 9223372036854775806) (hp : CH) (m : Nat) : MeetsF Try.prog 103 hp m [.ds (stC l)] (.b (tw l)) := by
  refine meetsF Try.func103 (by kernel_rfl) cc103 cr103 rfl fun hf => ?_; unfold ck103
  simp only [go_sem, ↓reduceIte, Nat.reduceEqDiff, Nat.reduceBEq, Nat.reduceAdd, Nat.reduceLeDiff, Nat.reduceLT, reduceCtorEq, Nat.reduceMul, Nat.reduceSub, Int.reduceEq, Int.reduceLT, Int.reduceLE, Int.reduceToNat]
  refine loop (fun p : Nat × Nat => ⟨[(0, .ds (stC l)), (3, .i .i64 p.1)], hp, p.2⟩) (fun p => p.1 ≤ l.length ∧ m ≤ p.2 ∧ (l.take p.1).Nodup) (fun p => l.length - p.1) (0, m) ?_ ?_ (fun ⟨j, n⟩ hj => ?_)
  · exact ⟨by simp, by simp, by simp⟩
  · refine weak_ok ?_ (Sub.refl _) (Nat.le_refl _)
    simp only [go_sem, ↓reduceIte, Nat.reduceEqDiff, Nat.reduceBEq, Nat.reduceAdd, Nat.reduceLeDiff, Nat.reduceLT, reduceCtorEq, Nat.reduceMul, Nat.reduceSub, Int.reduceEq, Int.reduceLT, Int.reduceLE, Int.reduceToNat]
  dsimp only at hj
  obtain ⟨hj1, hj2, hj3⟩ := hj
  simp only [go_sem, ↓reduceIte, Nat.reduceEqDiff, Nat.reduceBEq, Nat.reduceAdd, Nat.reduceLeDiff, Nat.reduceLT, reduceCtorEq, Nat.reduceMul, Nat.reduceSub, Int.reduceEq, Int.reduceLT, Int.reduceLE, Int.reduceToNat]
  refine cdK_of (fun c => ?_) (fun c => ?_)
  · have c : j < l.length := by simpa using c
    obtain ⟨x, ex⟩ : ∃ x, l[j]? = some x := ⟨l[j], by simp [c]⟩
    simp only [go_sem, ↓reduceIte, Nat.reduceEqDiff, Nat.reduceBEq, Nat.reduceAdd, Nat.reduceLeDiff, Nat.reduceLT, reduceCtorEq, Nat.reduceMul, Nat.reduceSub, Int.reduceEq, Int.reduceLT, Int.reduceLE, Int.reduceToNat]
    refine loop (fun p : Nat × Nat => ⟨[(0, .ds (stC l)), (3, .i .i64 j), (4, .i .i64 p.1)], hp, p.2⟩) (fun p => p.1 ≤ j ∧ m ≤ p.2 ∧ x ∉ l.take p.1) (fun p => j - p.1) (0, n) ?_ ?_ (fun ⟨i, n2⟩ hi => ?_)
    · exact ⟨by simp, hj2, by simp⟩
    · refine weak_ok ?_ (Sub.refl _) (Nat.le_refl _)
      simp only [go_sem, ↓reduceIte, Nat.reduceEqDiff, Nat.reduceBEq, Nat.reduceAdd, Nat.reduceLeDiff, Nat.reduceLT, reduceCtorEq, Nat.reduceMul, Nat.reduceSub, Int.reduceEq, Int.reduceLT, Int.reduceLE, Int.reduceToNat]
    dsimp only at hi
    obtain ⟨hi1, hi2, hi3⟩ := hi
    simp only [go_sem, ↓reduceIte, Nat.reduceEqDiff, Nat.reduceBEq, Nat.reduceAdd, Nat.reduceLeDiff, Nat.reduceLT, reduceCtorEq, Nat.reduceMul, Nat.reduceSub, Int.reduceEq, Int.reduceLT, Int.reduceLE, Int.reduceToNat]
    refine cdK_of (fun d => ?_) (fun d => ?_)
    · have d : i < j := by simpa using d
      obtain ⟨y, ey⟩ : ∃ y, l[i]? = some y := ⟨l[i], by simp⟩
      have hil : i < l.length := by omega
      simp only [c, d, hil, getK_s (mapC_get st1 ex), getK_s (mapC_get st1 ey), go_sem, ↓reduceIte, Nat.reduceEqDiff, Nat.reduceBEq, Nat.reduceAdd, Nat.reduceLeDiff, Nat.reduceLT, reduceCtorEq, Nat.reduceMul, Nat.reduceSub, Int.reduceEq, Int.reduceLT, Int.reduceLE, Int.reduceToNat]
      refine cdK_of (fun q => ?_) (fun q => ?_)
      · have q : x = y := by simpa using q
        subst q
        have := tw_at ex (List.mem_of_getElem? (i := i) (by rw [List.getElem?_take, if_pos d]; exact ey))
        rw [this]
        simp only [go_sem, ↓reduceIte, Nat.reduceEqDiff, Nat.reduceBEq, Nat.reduceAdd, Nat.reduceLeDiff, Nat.reduceLT, reduceCtorEq, Nat.reduceMul, Nat.reduceSub, Int.reduceEq, Int.reduceLT, Int.reduceLE, Int.reduceToNat]
      · have q : ¬ x = y := by simpa using q
        simp only [go_sem, ↓reduceIte, Nat.reduceEqDiff, Nat.reduceBEq, Nat.reduceAdd, Nat.reduceLeDiff, Nat.reduceLT, reduceCtorEq, Nat.reduceMul, Nat.reduceSub, Int.reduceEq, Int.reduceLT, Int.reduceLE, Int.reduceToNat]
        refine ⟨(i + 1, _), ⟨by dsimp only; omega, by dsimp only; omega, ?_⟩, by dsimp only; omega, weak_ok ?_ (Sub.refl _) (Nat.le_refl _)⟩
        · dsimp only
          rw [← take_snoc ey]
          simp [hi3, q]
        · simp only [wr64s i (by omega), go_sem, ↓reduceIte, Nat.reduceEqDiff, Nat.reduceBEq, Nat.reduceAdd, Nat.reduceLeDiff, Nat.reduceLT, reduceCtorEq, Nat.reduceMul, Nat.reduceSub, Int.reduceEq, Int.reduceLT, Int.reduceLE, Int.reduceToNat]
    · have d : i = j := by simp at d; omega
      subst d
      simp only [go_sem, ↓reduceIte, Nat.reduceEqDiff, Nat.reduceBEq, Nat.reduceAdd, Nat.reduceLeDiff, Nat.reduceLT, reduceCtorEq, Nat.reduceMul, Nat.reduceSub, Int.reduceEq, Int.reduceLT, Int.reduceLE, Int.reduceToNat]
      refine ⟨(i + 1, n2), ⟨by dsimp only; omega, by dsimp only; omega, by dsimp only; rw [← take_snoc ex]; exact nodup_snoc hj3 hi3⟩, by dsimp only; omega, weak_ok ?_ (Sub.refl _) (Nat.le_refl _)⟩
      simp only [wr64s i (by omega), go_sem, ↓reduceIte, Nat.reduceEqDiff, Nat.reduceBEq, Nat.reduceAdd, Nat.reduceLeDiff, Nat.reduceLT, reduceCtorEq, Nat.reduceMul, Nat.reduceSub, Int.reduceEq, Int.reduceLT, Int.reduceLE, Int.reduceToNat]
  · have c : j = l.length := by simp at c; omega
    subst c
    rw [List.take_length] at hj3
    have : tw l = false := by simp [tw, hj3]
    rw [this]
    simp only [go_sem, ↓reduceIte, Nat.reduceEqDiff, Nat.reduceBEq, Nat.reduceAdd, Nat.reduceLeDiff, Nat.reduceLT, reduceCtorEq, Nat.reduceMul, Nat.reduceSub, Int.reduceEq, Int.reduceLT, Int.reduceLE, Int.reduceToNat]
end Go.Proofs.Ytjalbhlahfgogaa
