/-
  The parts VsJ of the proof, in one file. Conditions: none.
-/
import Derived.Test.YtaeablbcfkamjaaVt50
namespace Go.Proofs.Ytaeablbcfkamjaa
open Go.Eng Vs
set_option linter.unusedVariables false
set_option linter.unusedSimpArgs false
set_option maxRecDepth 20000
set_option maxHeartbeats 1000000
theorem TT_dec (l : List ByteArray) (x y : Nat) : decide (TT l x y) = (Op.bytesLess (l.getD x ⟨#[]⟩).toList (l.getD y ⟨#[]⟩).toList || (decide (l.getD x ⟨#[]⟩ = l.getD y ⟨#[]⟩) && decide (x < y))) := by
  rw [Bool.eq_iff_iff, decide_eq_true_eq]
  unfold TT
  generalize l.getD x ⟨#[]⟩ = a
  generalize l.getD y ⟨#[]⟩ = b
  unfold cs
  cases h : Op.bytesLess a.toList b.toList with
  | true => simp
  | false =>
    by_cases e : a = b
    · simp [e]
    · simp [e]
def cntR (l : List ByteArray) (i j : Nat) : Nat := (List.range j).countP fun y => decide (TT l y i)
theorem cntR_step (l : List ByteArray) (i j : Nat) : cntR l i (j + 1) = if decide (TT l j i) = true then cntR l i j + 1 else cntR l i j := by
  unfold cntR
  rw [List.range_succ, List.countP_append, List.countP_singleton]
  split <;> rfl
theorem cntR_le (l : List ByteArray) (i j : Nat) : cntR l i j ≤ j := by
  unfold cntR
  have := List.countP_le_length (p := fun y => decide (TT l y i)) (l := List.range j)
  rwa [List.length_range] at this
theorem before_ok (l : List ByteArray) (hl : l.length ≤ 1000000000) (i : Nat) (hi : i < l.length) (hp : CH) (m : Nat) : MeetsF Try.prog 59 hp m [.ds (stC l), .i .i64 i] (.i .i64 (rank (TT l) l.length i : Nat)) := by
  obtain ⟨R, hR⟩ : ∃ R, rank (TT l) l.length i = R := ⟨_, rfl⟩
  rw [hR]
  have ei : l[i]? = some (l.getD i ⟨#[]⟩) := by rw [List.getD_eq_getElem?_getD, List.getElem?_eq_getElem hi]; rfl
  refine meetsF Try.func59 (by kernel_rfl) cc59 cr59 rfl fun hf => ?_; unfold ck59
  simp only [go_sem, ↓reduceIte, Nat.reduceEqDiff, Nat.reduceBEq, Nat.reduceAdd, Nat.reduceLeDiff, Nat.reduceLT, reduceCtorEq, Nat.reduceMul, Nat.reduceSub, Int.reduceEq, Int.reduceLT, Int.reduceLE, Int.reduceToNat]
  refine loop (fun p : Nat × Nat => ⟨[(0, .ds (stC l)), (1, .i .i64 i), (5, .i .i64 (cntR l i p.1 : Nat)), (6, .i .i64 p.1)], hp, p.2⟩) (fun p => p.1 ≤ l.length) (fun p => l.length - p.1) (0, m) ?_ ?_ (fun ⟨j, n⟩ hj => ?_)
  · exact Nat.zero_le _
  · have h0 : cntR l i 0 = 0 := rfl
    refine weak_ok ?_ (Sub.refl _) (Nat.le_refl _)
    simp only [h0, go_sem, ↓reduceIte, Nat.reduceEqDiff, Nat.reduceBEq, Nat.reduceAdd, Nat.reduceLeDiff, Nat.reduceLT, reduceCtorEq, Nat.reduceMul, Nat.reduceSub, Int.reduceEq, Int.reduceLT, Int.reduceLE, Int.reduceToNat]
  dsimp only at hj
  have hc := cntR_le l i j
  simp only [go_sem, ↓reduceIte, Nat.reduceEqDiff, Nat.reduceBEq, Nat.reduceAdd, Nat.reduceLeDiff, Nat.reduceLT, reduceCtorEq, Nat.reduceMul, Nat.reduceSub, Int.reduceEq, Int.reduceLT, Int.reduceLE, Int.reduceToNat]
  refine cdK_of (fun q => ?_) (fun q => ?_)
  · have q : j < l.length := by simpa using q
    have ej : l[j]? = some (l.getD j ⟨#[]⟩) := by rw [List.getD_eq_getElem?_getD, List.getElem?_eq_getElem q]; rfl
    have ht := TT_dec l j i
    have hs := cntR_step l i j
    obtain ⟨x, hx⟩ : ∃ x, l.getD j ⟨#[]⟩ = x := ⟨_, rfl⟩
    obtain ⟨y, hy⟩ : ∃ y, l.getD i ⟨#[]⟩ = y := ⟨_, rfl⟩
    rw [hx] at ej ht
    rw [hy] at ei ht
    simp only [q, hi, getK_s (mapC_get st1 ej), getK_s (mapC_get st1 ei), mapC_get st1 ej, mapC_get st1 ei, go_sem, ↓reduceIte, Nat.reduceEqDiff, Nat.reduceBEq, Nat.reduceAdd, Nat.reduceLeDiff, Nat.reduceLT, reduceCtorEq, Nat.reduceMul, Nat.reduceSub, Int.reduceEq, Int.reduceLT, Int.reduceLE, Int.reduceToNat]
    have ec : ((j : Int) < (i : Int)) = (j < i) := propext Int.ofNat_lt
    refine cdK_of (fun c => ?_) (fun c => ?_)
    · rw [if_pos (by rw [ht]; simpa only [ec] using c)] at hs
      have w1 := wr64s (cntR l i j) (by omega)
      simp only [w1, wr64s j (by omega), go_sem, ↓reduceIte, Nat.reduceEqDiff, Nat.reduceBEq, Nat.reduceAdd, Nat.reduceLeDiff, Nat.reduceLT, reduceCtorEq, Nat.reduceMul, Nat.reduceSub, Int.reduceEq, Int.reduceLT, Int.reduceLE, Int.reduceToNat]
      refine ⟨(j + 1, _), by dsimp only; omega, by dsimp only; omega, weak_ok ?_ (Sub.refl _) (Nat.le_refl _)⟩
      simp only [hs, go_sem, ↓reduceIte, Nat.reduceEqDiff, Nat.reduceBEq, Nat.reduceAdd, Nat.reduceLeDiff, Nat.reduceLT, reduceCtorEq, Nat.reduceMul, Nat.reduceSub, Int.reduceEq, Int.reduceLT, Int.reduceLE, Int.reduceToNat]
    · rw [if_neg (by rw [ht]; simp only [ec] at c; rw [c]; simp)] at hs
      simp only [wr64s j (by omega), go_sem, ↓reduceIte, Nat.reduceEqDiff, Nat.reduceBEq, Nat.reduceAdd, Nat.reduceLeDiff, Nat.reduceLT, reduceCtorEq, Nat.reduceMul, Nat.reduceSub, Int.reduceEq, Int.reduceLT, Int.reduceLE, Int.reduceToNat]
      refine ⟨(j + 1, _), by dsimp only; omega, by dsimp only; omega, weak_ok ?_ (Sub.refl _) (Nat.le_refl _)⟩
      simp only [hs, go_sem, ↓reduceIte, Nat.reduceEqDiff, Nat.reduceBEq, Nat.reduceAdd, Nat.reduceLeDiff, Nat.reduceLT, reduceCtorEq, Nat.reduceMul, Nat.reduceSub, Int.reduceEq, Int.reduceLT, Int.reduceLE, Int.reduceToNat]
  · have q : j = l.length := by simp at q; omega
    subst q
    have : cntR l i l.length = R := hR
    rw [this]
    simp only [go_sem, ↓reduceIte, Nat.reduceEqDiff, Nat.reduceBEq, Nat.reduceAdd, Nat.reduceLeDiff, Nat.reduceLT, reduceCtorEq, Nat.reduceMul, Nat.reduceSub, Int.reduceEq, Int.reduceLT, Int.reduceLE, Int.reduceToNat]
def updF {α : Type} (r : Nat → Nat) (F : Nat → α) (l : List α) : Nat → List α
  | 0 => l
  | j + 1 => (updF r F l j).set (r j) (F j)
theorem updF_len {α : Type} (r : Nat → Nat) (F : Nat → α) (l : List α) : ∀ j, (updF r F l j).length = l.length
  | 0 => rfl
  | j + 1 => by rw [updF, List.length_set, updF_len r F l j]
theorem updF_get {α : Type} (r : Nat → Nat) (F : Nat → α) (l : List α) {n : Nat} (hr : ∀ x, x < n → r x < l.length) (hi : ∀ x y, x < n → y < n → r x = r y → x = y) : ∀ j, j ≤ n → ∀ i, i < j → (updF r F l j)[r i]? = some (F i)
  | 0, _, i, h => by omega
  | j + 1, hj, i, h => by
    rw [updF, List.getElem?_set]
    by_cases e : r j = r i
    · have : j = i := hi j i (by omega) (by omega) e
      subst this
      rw [if_pos rfl, if_pos (by rw [updF_len]; exact hr j (by omega))]
    · rw [if_neg e]
      have : i ≠ j := fun q => e (by rw [q])
      exact updF_get r F l hr hi j (by omega) i (by omega)
theorem updF_id {α : Type} (F : Nat → α) (l : List α) : updF (fun x => x) F l l.length = (List.range l.length).map F := by
  apply List.ext_getElem?
  intro i
  rcases Nat.lt_or_ge i l.length with h | h
  · rw [updF_get (fun x => x) F l (n := l.length) (fun x hx => hx) (fun x y _ _ e => e) l.length (Nat.le_refl _) i h, List.getElem?_map, List.getElem?_range h]
    rfl
  · rw [List.getElem?_eq_none (by rw [updF_len]; exact h), List.getElem?_eq_none (by simpa using h)]
theorem rank_lt (l : List ByteArray) {x : Nat} (h : x < l.length) : rank (TT l) l.length x < l.length := ((ord_ordL l).at (TT_irr l) (TT_asym l) h).1
theorem rank_inj (l : List ByteArray) {x y : Nat} (hx : x < l.length) (hy : y < l.length) (e : rank (TT l) l.length x = rank (TT l) l.length y) : x = y := by
  have h1 := ((ord_ordL l).at (TT_irr l) (TT_asym l) hx).2
  have h2 := ((ord_ordL l).at (TT_irr l) (TT_asym l) hy).2
  rw [← h1, ← h2, e]
theorem updF_rank {α : Type} (l : List ByteArray) (F : Nat → α) (L : List α) (h : L.length = l.length) : updF (rank (TT l) l.length) F L l.length = (ordL l).map F := by
  have ho := ord_ordL l
  apply List.ext_getElem?
  intro i
  rcases Nat.lt_or_ge i l.length with hi | hi
  · have h1 := ho.rank (TT_irr l) (TT_asym l) hi
    have h2 := ho.lt i hi
    have h3 := updF_get (rank (TT l) l.length) F L (n := l.length) (fun x hx => by rw [h]; exact rank_lt l hx) (fun x y hx hy e => rank_inj l hx hy e) l.length (Nat.le_refl _) _ h2
    rw [h1] at h3
    rw [h3, List.getElem?_map, get_rd (d := ordL l) (by rw [ho.len]; exact hi)]
    rfl
  · rw [List.getElem?_eq_none (by rw [updF_len, h]; exact hi), List.getElem?_eq_none (by rw [List.length_map, ho.len]; exact hi)]
theorem rsort_of (v : Val) (hv : v.Fit) (hw : wtV v ≤ 1000000000) (h : ∀ x ∈ v.items, ∀ hp m, MeetsF Try.prog 32 hp m [vx x] (vx (sortV x))) (hp : CH) (m : Nat) : MeetsF Try.prog 32 hp m [vx v] (vx (sortV v)) := by
  have h1 := hv.i
  have h2 := hv.l
  have e := sortV_eq v
  rw [wtV_eq] at hw
  obtain ⟨R, hR⟩ : ∃ R, sortV v = R := ⟨_, rfl⟩
  rw [hR] at e ⊢
  obtain ⟨F, hF⟩ : ∃ F : Nat → Val, F = fun q => (v.items.map sortV).getD q zVal := ⟨_, rfl⟩
  have hFx : ∀ j x, v.items[j]? = some x → F j = sortV x := fun j x ex => by
    rw [hF]
    dsimp only
    rw [List.getD_eq_getElem?_getD, List.getElem?_map, ex]
    rfl
  by_cases d : v.k = 6 ∧ v.keys.length = v.items.length
  · rw [if_pos d] at e
    obtain ⟨d6, dl⟩ := d
    obtain ⟨G, hG⟩ : ∃ G : Nat → ByteArray, G = fun q => v.keys.getD q ⟨#[]⟩ := ⟨_, rfl⟩
    rw [← hF, ← hG] at e
    obtain ⟨r, hr⟩ : ∃ r, r = rank (TT v.keys) v.keys.length := ⟨_, rfl⟩
    have hrl : ∀ x, x < v.keys.length → r x < v.keys.length := fun x hx => by rw [hr]; exact rank_lt v.keys hx
    have hbf := fun i hi => before_ok v.keys (by omega) i hi
    rw [← hr] at hbf
    have d6d : decide (v.k = 6) = true := decide_eq_true d6
    have dld : decide ((v.keys.length : Int) = (v.items.length : Int)) = true := decide_eq_true (by omega)
    have fin1 := updF_rank v.keys F v.items dl.symm
    have fin2 := updF_rank v.keys G v.keys rfl
    rw [← hr, dl] at fin1 fin2
    refine meetsF Try.func32 (by kernel_rfl) cc32 cr32 rfl fun hf => ?_; unfold ck32
    simp only [go_sem, ↓reduceIte, Nat.reduceEqDiff, Nat.reduceBEq, Nat.reduceAdd, Nat.reduceLeDiff, Nat.reduceLT, reduceCtorEq, Nat.reduceMul, Nat.reduceSub, Int.reduceEq, Int.reduceLT, Int.reduceLE, Int.reduceToNat]
    refine vcCall.x (rcopy_r v hv _ _) ?_
    simp only [go_sem, ↓reduceIte, Nat.reduceEqDiff, Nat.reduceBEq, Nat.reduceAdd, Nat.reduceLeDiff, Nat.reduceLT, reduceCtorEq, Nat.reduceMul, Nat.reduceSub, Int.reduceEq, Int.reduceLT, Int.reduceLE, Int.reduceToNat]
    refine loop (fun p : Nat × Nat => ⟨[(1, .bx m 0), (2, .bx (m + 1) 0), (3, .bx (m + 4) 0), (4, .i .i64 p.1)],
        (m + 4, .bx [.i .i64 v.k, .i .i64 v.n, .s v.s, .rw (m + 2) 0 v.items.length, .rw (m + 3) 0 v.keys.length]) :: (m + 2, .rw 0 5 (mapC valC (updF r F v.items p.1))) :: (m + 3, .rw 0 1 (stC (updF r G v.keys p.1))) :: (m + 1, .bx [.i .i64 0, .i .i64 0, .s ⟨#[]⟩, .e0, .e0]) :: (m, .bx [.i .i64 v.k, .i .i64 v.n, .s v.s, .ds (mapC valC v.items), .ds (stC v.keys)]) :: hp, p.2⟩) (fun p => p.1 ≤ v.items.length ∧ m + 5 ≤ p.2) (fun p => v.items.length - p.1) (0, m + 5) ?_ ?_ (fun ⟨j, n⟩ hj => ?_)
    · exact ⟨by simp, by simp⟩
    · refine weak_ok ?_ (Sub.cons ?_ (Sub.cons ?_ (Sub.cons ?_ (Sub.cons ?_ (Sub.cons ?_ (Sub.base hf ?_)))))) (Nat.le_refl _)
      all_goals
        simp only [updF, go_sem, ↓reduceIte, Nat.reduceEqDiff, Nat.reduceBEq, Nat.reduceAdd, Nat.reduceLeDiff, Nat.reduceLT, reduceCtorEq, Nat.reduceMul, Nat.reduceSub, Int.reduceEq, Int.reduceLT, Int.reduceLE, Int.reduceToNat]
    dsimp only at hj
    obtain ⟨hj1, hj2⟩ := hj
    have z1 : ¬ n = m := by omega
    have z2 : ¬ n = m + 1 := by omega
    have z3 : ¬ n = m + 2 := by omega
    have z4 : ¬ n = m + 3 := by omega
    have z5 : ¬ n = m + 4 := by omega
    have z6 : m ≤ n := by omega
    have l1 := updF_len r F v.items j
    have l2 := updF_len r G v.keys j
    have t1 : (updF r F v.items j).take v.items.length = updF r F v.items j := List.take_of_length_le (by omega)
    have t2 : (updF r G v.keys j).take v.keys.length = updF r G v.keys j := List.take_of_length_le (by omega)
    simp only [go_sem, ↓reduceIte, Nat.reduceEqDiff, Nat.reduceBEq, Nat.reduceAdd, Nat.reduceLeDiff, Nat.reduceLT, reduceCtorEq, Nat.reduceMul, Nat.reduceSub, Int.reduceEq, Int.reduceLT, Int.reduceLE, Int.reduceToNat]
    refine cdK_of (fun c => ?_) (fun c => ?_)
    · have c : j < v.items.length := by simpa using c
      have ck : j < v.keys.length := by omega
      have hrj := hrl j ck
      have hri : r j < v.items.length := by omega
      obtain ⟨x, ex⟩ : ∃ x, v.items[j]? = some x := ⟨v.items[j], by simp [c]⟩
      have ey : v.keys[j]? = some (G j) := by rw [hG]; dsimp only; rw [List.getD_eq_getElem?_getD, List.getElem?_eq_getElem ck]; rfl
      have hx := h x (List.mem_of_getElem? ex)
      rw [← hFx j x ex] at hx
      have s1 : (updF r F v.items j).set (r j) (F j) = updF r F v.items (j + 1) := rfl
      have s2 : (updF r G v.keys j).set (r j) (G j) = updF r G v.keys (j + 1) := rfl
      obtain ⟨y1, e1⟩ : ∃ y, (updF r F v.items j)[r j]? = some y := ⟨_, List.getElem?_eq_getElem (by omega)⟩
      obtain ⟨y2, e2⟩ : ∃ y, (updF r G v.keys j)[r j]? = some y := ⟨_, List.getElem?_eq_getElem (by omega)⟩
      simp only [c, d6d, dld, z1, z2, z3, z4, z5, z6, go_sem, ↓reduceIte, Nat.reduceEqDiff, Nat.reduceBEq, Nat.reduceAdd, Nat.reduceLeDiff, Nat.reduceLT, reduceCtorEq, Nat.reduceMul, Nat.reduceSub, Int.reduceEq, Int.reduceLT, Int.reduceLE, Int.reduceToNat]
      refine vcCall.f (hbf j ck _ _) ?_
      simp only [c, ck, hrj, hri, d6d, dld, z1, z2, z3, z4, z5, z6, l1, l2, t1, t2, getK_s (mapC_get st1 ey), getK_s (mapC_get valC ex), mapC_get valC e1, mapC_get st1 e2, go_sem, ↓reduceIte, Nat.reduceEqDiff, Nat.reduceBEq, Nat.reduceAdd, Nat.reduceLeDiff, Nat.reduceLT, reduceCtorEq, Nat.reduceMul, Nat.reduceSub, Int.reduceEq, Int.reduceLT, Int.reduceLE, Int.reduceToNat]
      refine dCallR.f (fun _ hp' e => hx _ _) ?_
      simp only [c, ck, hrj, hri, z1, z2, z3, z4, z5, z6, l1, l2, t1, t2, mapC_get valC e1, mapC_get st1 e2, set_st, s1, s2, go_sem, ↓reduceIte, Nat.reduceEqDiff, Nat.reduceBEq, Nat.reduceAdd, Nat.reduceLeDiff, Nat.reduceLT, reduceCtorEq, Nat.reduceMul, Nat.reduceSub, Int.reduceEq, Int.reduceLT, Int.reduceLE, Int.reduceToNat]
      refine ⟨(j + 1, _), ⟨by dsimp only; omega, by dsimp only; omega⟩, by dsimp only; omega, weak_ok ?_ (Sub.cons ?_ (Sub.cons ?_ (Sub.cons ?_ (Sub.cons ?_ (Sub.cons ?_ (Sub.base hf ?_)))))) (Nat.le_refl _)⟩
      all_goals
        simp only [wr64s j (by omega), z1, z2, z3, z4, z5, z6, set_st, s1, s2, go_sem, ↓reduceIte, Nat.reduceEqDiff, Nat.reduceBEq, Nat.reduceAdd, Nat.reduceLeDiff, Nat.reduceLT, reduceCtorEq, Nat.reduceMul, Nat.reduceSub, Int.reduceEq, Int.reduceLT, Int.reduceLE, Int.reduceToNat]
    · have c : j = v.items.length := by simp at c; omega
      subst c
      rw [fin1] at t1 l1 ⊢
      rw [fin2] at t2 l2 ⊢
      subst e
      have t3 : v.items.length ≤ ((ordL v.keys).map F).length := by omega
      have t4 : v.keys.length ≤ ((ordL v.keys).map G).length := by omega
      simp only [z1, z2, z3, z4, z5, z6, t1, t2, t3, t4, go_sem, ↓reduceIte, Nat.reduceEqDiff, Nat.reduceBEq, Nat.reduceAdd, Nat.reduceLeDiff, Nat.reduceLT, reduceCtorEq, Nat.reduceMul, Nat.reduceSub, Int.reduceEq, Int.reduceLT, Int.reduceLE, Int.reduceToNat]
  · rw [if_neg d] at e
    have dd : (decide (v.k = 6) && decide ((v.keys.length : Int) = (v.items.length : Int))) = false := by
      cases q : (decide (v.k = 6) && decide ((v.keys.length : Int) = (v.items.length : Int))) with
      | false => rfl
      | true => simp only [Bool.and_eq_true, decide_eq_true_eq] at q; exact absurd ⟨q.1, by omega⟩ d
    have fin1 := updF_id F v.items
    have fin2 : (List.range v.items.length).map F = v.items.map sortV := by
      rw [hF]
      have := getD_range (v.items.map sortV) zVal
      rwa [List.length_map] at this
    rw [fin2] at fin1
    refine meetsF Try.func32 (by kernel_rfl) cc32 cr32 rfl fun hf => ?_; unfold ck32
    simp only [go_sem, ↓reduceIte, Nat.reduceEqDiff, Nat.reduceBEq, Nat.reduceAdd, Nat.reduceLeDiff, Nat.reduceLT, reduceCtorEq, Nat.reduceMul, Nat.reduceSub, Int.reduceEq, Int.reduceLT, Int.reduceLE, Int.reduceToNat]
    refine vcCall.x (rcopy_r v hv _ _) ?_
    simp only [go_sem, ↓reduceIte, Nat.reduceEqDiff, Nat.reduceBEq, Nat.reduceAdd, Nat.reduceLeDiff, Nat.reduceLT, reduceCtorEq, Nat.reduceMul, Nat.reduceSub, Int.reduceEq, Int.reduceLT, Int.reduceLE, Int.reduceToNat]
    refine loop (fun p : Nat × Nat => ⟨[(1, .bx m 0), (2, .bx (m + 1) 0), (3, .bx (m + 4) 0), (4, .i .i64 p.1)],
        (m + 4, .bx [.i .i64 v.k, .i .i64 v.n, .s v.s, .rw (m + 2) 0 v.items.length, .rw (m + 3) 0 v.keys.length]) :: (m + 2, .rw 0 5 (mapC valC (updF (fun x => x) F v.items p.1))) :: (m + 3, .rw 0 1 (stC v.keys)) :: (m + 1, .bx [.i .i64 0, .i .i64 0, .s ⟨#[]⟩, .e0, .e0]) :: (m, .bx [.i .i64 v.k, .i .i64 v.n, .s v.s, .ds (mapC valC v.items), .ds (stC v.keys)]) :: hp, p.2⟩) (fun p => p.1 ≤ v.items.length ∧ m + 5 ≤ p.2) (fun p => v.items.length - p.1) (0, m + 5) ?_ ?_ (fun ⟨j, n⟩ hj => ?_)
    · exact ⟨by simp, by simp⟩
    · refine weak_ok ?_ (Sub.cons ?_ (Sub.cons ?_ (Sub.cons ?_ (Sub.cons ?_ (Sub.cons ?_ (Sub.base hf ?_)))))) (Nat.le_refl _)
      all_goals
        simp only [updF, go_sem, ↓reduceIte, Nat.reduceEqDiff, Nat.reduceBEq, Nat.reduceAdd, Nat.reduceLeDiff, Nat.reduceLT, reduceCtorEq, Nat.reduceMul, Nat.reduceSub, Int.reduceEq, Int.reduceLT, Int.reduceLE, Int.reduceToNat]
    dsimp only at hj
    obtain ⟨hj1, hj2⟩ := hj
    have z1 : ¬ n = m := by omega
    have z2 : ¬ n = m + 1 := by omega
    have z3 : ¬ n = m + 2 := by omega
    have z4 : ¬ n = m + 3 := by omega
    have z5 : ¬ n = m + 4 := by omega
    have z6 : m ≤ n := by omega
    have l1 := updF_len (fun x => x) F v.items j
    have t1 : (updF (fun x => x) F v.items j).take v.items.length = updF (fun x => x) F v.items j := List.take_of_length_le (by omega)
    simp only [go_sem, ↓reduceIte, Nat.reduceEqDiff, Nat.reduceBEq, Nat.reduceAdd, Nat.reduceLeDiff, Nat.reduceLT, reduceCtorEq, Nat.reduceMul, Nat.reduceSub, Int.reduceEq, Int.reduceLT, Int.reduceLE, Int.reduceToNat]
    refine cdK_of (fun c => ?_) (fun c => ?_)
    · have c : j < v.items.length := by simpa using c
      obtain ⟨x, ex⟩ : ∃ x, v.items[j]? = some x := ⟨v.items[j], by simp [c]⟩
      have hx := h x (List.mem_of_getElem? ex)
      rw [← hFx j x ex] at hx
      have s1 : (updF (fun x => x) F v.items j).set j (F j) = updF (fun x => x) F v.items (j + 1) := rfl
      obtain ⟨y1, e1⟩ : ∃ y, (updF (fun x => x) F v.items j)[j]? = some y := ⟨_, List.getElem?_eq_getElem (by omega)⟩
      generalize updF (fun x => x) F v.items j = K at l1 t1 s1 e1 ⊢
      simp only [c, dd, z1, z2, z3, z4, z5, z6, l1, t1, getK_s (mapC_get valC ex), mapC_get valC e1, go_sem, ↓reduceIte, Nat.reduceEqDiff, Nat.reduceBEq, Nat.reduceAdd, Nat.reduceLeDiff, Nat.reduceLT, reduceCtorEq, Nat.reduceMul, Nat.reduceSub, Int.reduceEq, Int.reduceLT, Int.reduceLE, Int.reduceToNat]
      refine dCallR.f (fun _ hp' e => hx _ _) ?_
      simp only [c, z1, z2, z3, z4, z5, z6, l1, t1, mapC_get valC e1, s1, go_sem, ↓reduceIte, Nat.reduceEqDiff, Nat.reduceBEq, Nat.reduceAdd, Nat.reduceLeDiff, Nat.reduceLT, reduceCtorEq, Nat.reduceMul, Nat.reduceSub, Int.reduceEq, Int.reduceLT, Int.reduceLE, Int.reduceToNat]
      refine ⟨(j + 1, _), ⟨by dsimp only; omega, by dsimp only; omega⟩, by dsimp only; omega, weak_ok ?_ (Sub.cons ?_ (Sub.cons ?_ (Sub.cons ?_ (Sub.cons ?_ (Sub.cons ?_ (Sub.base hf ?_)))))) (Nat.le_refl _)⟩
      all_goals
        simp only [wr64s j (by omega), z1, z2, z3, z4, z5, z6, s1, go_sem, ↓reduceIte, Nat.reduceEqDiff, Nat.reduceBEq, Nat.reduceAdd, Nat.reduceLeDiff, Nat.reduceLT, reduceCtorEq, Nat.reduceMul, Nat.reduceSub, Int.reduceEq, Int.reduceLT, Int.reduceLE, Int.reduceToNat]
    · have c : j = v.items.length := by simp at c; omega
      subst c
      rw [fin1] at t1 l1 ⊢
      subst e
      have t3 : v.items.length ≤ (v.items.map sortV).length := by omega
      simp only [z1, z2, z3, z4, z5, z6, t1, t3, go_sem, ↓reduceIte, Nat.reduceEqDiff, Nat.reduceBEq, Nat.reduceAdd, Nat.reduceLeDiff, Nat.reduceLT, reduceCtorEq, Nat.reduceMul, Nat.reduceSub, Int.reduceEq, Int.reduceLT, Int.reduceLE, Int.reduceToNat]
theorem rsort_ok (v : Val) : wtV v ≤ 1000000000 → ∀ hp m, MeetsF Try.prog 32 hp m [vx v] (vx (sortV v)) := by
  refine Val.ind (Q := fun v => wtV v ≤ 1000000000 → ∀ hp m, MeetsF Try.prog 32 hp m [vx v] (vx (sortV v))) (fun v ih hw => ?_) v
  refine rsort_of v (wtV_fit v (by omega)) hw fun x hx => ih x hx ?_
  have := wtL_mem hx
  rw [wtV_eq] at hw
  omega
end Go.Proofs.Ytaeablbcfkamjaa
