/-
  The parts PcK of the proof, in one file. Conditions: none.
-/
import Derived.Test.YtpenniildabheaaPa41
namespace Go.Proofs.Ytpenniildabheaa
open Go.Eng
set_option linter.unusedVariables false
set_option linter.unusedSimpArgs false
set_option maxRecDepth 20000
set_option maxHeartbeats 2000000
theorem mapC_set {α : Type} (c : α → List AV) : ∀ (l : List α) (i : Nat) (x : α), (mapC c l).set i (c x) = mapC c (l.set i x)
  | [], i, x => rfl
  | y :: r, 0, x => rfl
  | y :: r, i + 1, x => by rw [mapC_cons, List.set_cons_succ, List.set_cons_succ, mapC_cons, mapC_set c r i x]
theorem filter_self {α : Type} {p : α → Bool} : ∀ {l : List α}, (∀ x ∈ l, p x = true) → l.filter p = l
  | [], _ => rfl
  | x :: r, h => by rw [List.filter_cons_of_pos (h x (by simp)), filter_self fun y hy => h y (by simp [hy])]
theorem fidx_pre {α : Type} (q : α → Bool) : ∀ (l : List α) (i : Nat), i < l.findIdx q → ∀ x, l[i]? = some x → q x = false
  | [], i, h, x, e => by simp at e
  | y :: r, i, h, x, e => by
    rw [List.findIdx_cons] at h
    cases hq : q y with
    | true => rw [hq] at h; simp at h
    | false =>
      rw [hq] at h
      simp only [cond_false] at h
      cases i with
      | zero => simp at e; rw [← e]; exact hq
      | succ i => exact fidx_pre q r i (by omega) x (by simpa using e)
theorem up_ws1 {m c : Nat} {X : Chunk} {hp a : CH} (h1 : gc a c = X) (h2 : ∀ j, j < m → j ≠ c → gc a j = gc hp j) : Up m ((c, X) :: hp) a := up_upd h1 h2
/-- What stands in the row while entries are struck out. -/
structure DelI (q : Ent → Bool) (L D : List Ent) (i j : Nat) : Prop where
  len : D.length = L.length
  lt : i < j
  le : j ≤ L.length
  low : D.take i = (L.take j).filter fun x => !q x
  high : ∀ t, j ≤ t → D[t]? = L[t]?
theorem DelI.ilen {q : Ent → Bool} {L D : List Ent} {i j : Nat} (h : DelI q L D i j) : ((L.take j).filter fun x => !q x).length = i := by
  rw [← h.low, List.length_take]
  have := h.len
  have := h.lt
  have := h.le
  omega
theorem DelI.keep {q : Ent → Bool} {L D : List Ent} {i j : Nat} (h : DelI q L D i j) {x : Ent} (ex : L[j]? = some x) (hq : q x = false) : DelI q L (D.set i x) (i + 1) (j + 1) := by
  have hj : j < L.length := (List.getElem?_eq_some_iff.1 ex).1
  have h1 := h.lt
  have h2 := h.len
  refine ⟨by simp [h.len], by omega, hj, ?_, fun t ht => ?_⟩
  · have hi : i < D.length := by omega
    have e1 : L.take (j + 1) = L.take j ++ [x] := by rw [List.take_add_one, ex]; rfl
    rw [List.take_add_one, List.getElem?_set_self hi, List.take_set_of_le (Nat.le_refl _), h.low, e1, List.filter_append]
    simp [hq]
  · rw [List.getElem?_set_ne (by omega)]
    exact h.high t (by omega)
theorem DelI.skip {q : Ent → Bool} {L D : List Ent} {i j : Nat} (h : DelI q L D i j) {x : Ent} (ex : L[j]? = some x) (hq : q x = true) : DelI q L D i (j + 1) := by
  have hj : j < L.length := (List.getElem?_eq_some_iff.1 ex).1
  have h1 := h.lt
  refine ⟨h.len, by omega, hj, ?_, fun t ht => h.high t (by omega)⟩
  rw [h.low, List.take_add_one, ex, List.filter_append]
  simp [hq]
theorem DelI.start {q : Ent → Bool} {L : List Ent} {i : Nat} {x : Ent} (ex : L[i]? = some x) (hq : q x = true) (hb : ∀ t, t < i → ∀ y, L[t]? = some y → q y = false) : DelI q L L i (i + 1) := by
  have hj : i < L.length := (List.getElem?_eq_some_iff.1 ex).1
  refine ⟨rfl, by omega, hj, ?_, fun t ht => rfl⟩
  rw [List.take_add_one, ex, List.filter_append]
  simp only [Option.toList_some, List.filter_cons, hq, Bool.not_true, Bool.false_eq_true, if_false, List.filter_nil, List.append_nil]
  rw [filter_self]
  intro y hy
  obtain ⟨t, ht, rfl⟩ := List.mem_iff_getElem.1 hy
  have ht2 : t < i := by simp at ht; omega
  have : L[t]? = some (L.take i)[t] := by rw [List.getElem_take]; simp [show t < L.length by omega]
  rw [hb t ht2 _ this]
  rfl
theorem DelI.fin {q : Ent → Bool} {L D : List Ent} {i : Nat} (h : DelI q L D i L.length) : D.take i = L.filter fun x => !q x := by
  have := h.low
  rwa [List.take_length] at this
theorem delF (q : Ent → Bool) (k : FuncId) (caps : List AV) (L : List Ent) (hl : L.length ≤ 1000000) (kg g : Nat) (hp : CH) (hk : gc hp kg = .rw g 3 (mapC entC L)) (m : Nat)
    (h : ∀ x ∈ L, ∀ hp' n, (∀ j, j < m → j ≠ kg → gc hp' j = gc hp j) → MeetsF Try.prog k hp' n (.ag (entC x) :: caps) (.b (q x))) :
    MeetsX Try.prog 34 hp m [.rw kg g L.length, .fn k caps] ([(kg, .rw g 3 (mapC entC (L.filter fun x => !q x) ++ List.replicate (L.length - (L.filter fun x => !q x).length) [.s ⟨#[]⟩, .i .i64 0, .e0]))] ++ hp) m (.rw kg g (L.filter fun x => !q x).length) := by
  have hLl : (mapC entC L).length = L.length := mapC_len _ _
  have htk : (mapC entC L).take L.length = mapC entC L := List.take_of_length_le (by omega)
  have hI := idxE q k caps L hl kg g
  have hst : ∀ x, L[L.findIdx q]? = some x → q x = true := fun x ex => by
    have hlt : L.findIdx q < L.length := (List.getElem?_eq_some_iff.1 ex).1
    have := List.findIdx_getElem (w := hlt)
    rw [List.getElem?_eq_getElem hlt] at ex
    cases ex
    exact this
  have hpre := fidx_pre q L
  have hWS : (∀ k, m ≤ k → gc hp k = .no) → wsLt m [(kg, .rw g 3 (mapC entC (L.filter fun x => !q x) ++ List.replicate (L.length - (L.filter fun x => !q x).length) [.s ⟨#[]⟩, .i .i64 0, .e0]))] := fun hf => ⟨rw_lt hf hk, trivial, trivial⟩
  refine meetsW Try.func34 (by kernel_rfl) cc34 cr34 rfl hWS fun hf => ?_; unfold ck34
  have hlt2 := rw_lt hf hk
  obtain ⟨F, hF⟩ : ∃ F, L.filter (fun x => !q x) = F := ⟨_, rfl⟩
  rw [hF, List.cons_append, List.nil_append]
  rcases fidx_find q L 0 with ⟨h1, h2⟩ | ⟨h1, h2⟩
  · rw [Nat.zero_add] at h2
    obtain ⟨i0, hi0⟩ : ∃ i0, L.findIdx q = i0 := ⟨_, rfl⟩
    rw [hi0] at h1 h2 hst hpre
    rw [h2] at hI
    have hne1 : decide ((i0 : Int) = -1) = false := decide_eq_false (by omega)
    have hw : IntKind.i64.wrap ((i0 : Int) + 1) = ((i0 + 1 : Nat) : Int) := by rw [wr64 (by omega)]; omega
    simp (disch := omega) only [ite_ne, hk, go_sem, ↓reduceIte, Nat.reduceEqDiff, Nat.reduceBEq, Nat.reduceAdd, Nat.reduceLeDiff, Nat.reduceLT, reduceCtorEq, Nat.reduceMul, Nat.reduceSub, Int.reduceEq, Int.reduceLT, Int.reduceLE, Int.reduceToNat]
    refine vcCall.f (hI _ hk _ fun x hx n => h x hx _ n fun _ _ _ => rfl) ?_
    simp (disch := omega) only [ite_ne, hne1, hw, go_sem, ↓reduceIte, Nat.reduceEqDiff, Nat.reduceBEq, Nat.reduceAdd, Nat.reduceLeDiff, Nat.reduceLT, reduceCtorEq, Nat.reduceMul, Nat.reduceSub, Int.reduceEq, Int.reduceLT, Int.reduceLE, Int.reduceToNat]
    refine loop (fun p : Nat × Nat × List Ent × Nat => ⟨[(0, .rw kg g L.length), (1, .fn k caps), (5, .i .i64 p.1), (6, .i .i64 p.2.1)], (kg, .rw g 3 (mapC entC p.2.2.1)) :: hp, p.2.2.2⟩) (fun p => DelI q L p.2.2.1 p.1 p.2.1 ∧ m ≤ p.2.2.2) (fun p => L.length - p.2.1) (i0, i0 + 1, L, m) ?_ ?_ (fun ⟨i, j, D, n⟩ hj => ?_)
    · exact ⟨DelI.start (List.getElem?_eq_getElem h1) (hst _ (List.getElem?_eq_getElem h1)) hpre, Nat.le_refl _⟩
    · refine weak_ok ?_ (Sub.cons ?_ (Sub.base hf ?_)) (Nat.le_refl _)
      · simp (disch := omega) only [ite_ne, go_sem, ↓reduceIte, Nat.reduceEqDiff, Nat.reduceBEq, Nat.reduceAdd, Nat.reduceLeDiff, Nat.reduceLT, reduceCtorEq, Nat.reduceMul, Nat.reduceSub, Int.reduceEq, Int.reduceLT, Int.reduceLE, Int.reduceToNat]
      · simp (disch := omega) only [ite_ne, hk, go_sem, ↓reduceIte, Nat.reduceEqDiff, Nat.reduceBEq, Nat.reduceAdd, Nat.reduceLeDiff, Nat.reduceLT, reduceCtorEq, Nat.reduceMul, Nat.reduceSub, Int.reduceEq, Int.reduceLT, Int.reduceLE, Int.reduceToNat]
      · simp (disch := omega) only [ite_ne, go_sem, ↓reduceIte, Nat.reduceEqDiff, Nat.reduceBEq, Nat.reduceAdd, Nat.reduceLeDiff, Nat.reduceLT, reduceCtorEq, Nat.reduceMul, Nat.reduceSub, Int.reduceEq, Int.reduceLT, Int.reduceLE, Int.reduceToNat]
    dsimp only at hj
    obtain ⟨hI1, hj2⟩ := hj
    have hDl : (mapC entC D).length = L.length := (mapC_len _ _).trans hI1.len
    have htd : (mapC entC D).take L.length = mapC entC D := List.take_of_length_le (by omega)
    simp (disch := omega) only [ite_ne, hDl, Nat.le_refl, htd, go_sem, ↓reduceIte, Nat.reduceEqDiff, Nat.reduceBEq, Nat.reduceAdd, Nat.reduceLeDiff, Nat.reduceLT, reduceCtorEq, Nat.reduceMul, Nat.reduceSub, Int.reduceEq, Int.reduceLT, Int.reduceLE, Int.reduceToNat]
    refine cdK_of (fun c => ?_) (fun c => ?_)
    · have c : j < L.length := by simpa using c
      obtain ⟨x, ex⟩ : ∃ x, L[j]? = some x := ⟨L[j], by simp [c]⟩
      have exD : D[j]? = some x := (hI1.high j (Nat.le_refl _)).trans ex
      have hij := hI1.lt
      have hiL : i < L.length := by omega
      obtain ⟨y, eyD⟩ : ∃ y, D[i]? = some y := ⟨D[i]'(by rw [hI1.len]; exact hiL), by simp [hI1.len, hiL]⟩
      have hx := fun hp' n e => h x (List.mem_of_getElem? ex) hp' n e
      have hcx : [AV.s x.t, AV.i .i64 x.v, AV.ds [planC x.n]] = entC x := rfl
      simp only [entC] at hx
      simp (disch := omega) only [ite_ne, c, hDl, Nat.le_refl, htd, getK_s (mapC_get entC exD), go_sem, ↓reduceIte, Nat.reduceEqDiff, Nat.reduceBEq, Nat.reduceAdd, Nat.reduceLeDiff, Nat.reduceLT, reduceCtorEq, Nat.reduceMul, Nat.reduceSub, Int.reduceEq, Int.reduceLT, Int.reduceLE, Int.reduceToNat]
      refine vcCall.f (hx _ _ fun a ha hak => ?_) ?_
      · repeat rw [gc_ne _ _ (by omega)]
      simp (disch := omega) only [ite_ne, go_sem, ↓reduceIte, Nat.reduceEqDiff, Nat.reduceBEq, Nat.reduceAdd, Nat.reduceLeDiff, Nat.reduceLT, reduceCtorEq, Nat.reduceMul, Nat.reduceSub, Int.reduceEq, Int.reduceLT, Int.reduceLE, Int.reduceToNat]
      cases hq : q x with
      | true =>
        refine cdK_of (fun c1 => by simp at c1) (fun c1 => ?_)
        simp (disch := omega) only [ite_ne, go_sem, ↓reduceIte, Nat.reduceEqDiff, Nat.reduceBEq, Nat.reduceAdd, Nat.reduceLeDiff, Nat.reduceLT, reduceCtorEq, Nat.reduceMul, Nat.reduceSub, Int.reduceEq, Int.reduceLT, Int.reduceLE, Int.reduceToNat]
        refine ⟨(i, j + 1, D, _), ⟨hI1.skip ex hq, by dsimp only; omega⟩, by dsimp only; omega, weak_ok ?_ (SubX.sub (SubX.cons ?_ (SubX.base hf fun a ha hax => ?_))) (Nat.le_refl _)⟩
        · simp (disch := omega) only [ite_ne, wr64s j (by omega), go_sem, ↓reduceIte, Nat.reduceEqDiff, Nat.reduceBEq, Nat.reduceAdd, Nat.reduceLeDiff, Nat.reduceLT, reduceCtorEq, Nat.reduceMul, Nat.reduceSub, Int.reduceEq, Int.reduceLT, Int.reduceLE, Int.reduceToNat]
        · simp (disch := omega) only [ite_ne, go_sem, ↓reduceIte, Nat.reduceEqDiff, Nat.reduceBEq, Nat.reduceAdd, Nat.reduceLeDiff, Nat.reduceLT, reduceCtorEq, Nat.reduceMul, Nat.reduceSub, Int.reduceEq, Int.reduceLT, Int.reduceLE, Int.reduceToNat]
        · have hak : ¬ kg = a := fun e => hax (by simp [e])
          repeat rw [gc_ne _ _ (by omega)]
      | false =>
        refine cdK_of (fun c1 => ?_) (fun c1 => by simp at c1)
        simp (disch := omega) only [ite_ne, hDl, Nat.le_refl, htd, hiL, getK_s (mapC_get entC eyD), go_sem, ↓reduceIte, Nat.reduceEqDiff, Nat.reduceBEq, Nat.reduceAdd, Nat.reduceLeDiff, Nat.reduceLT, reduceCtorEq, Nat.reduceMul, Nat.reduceSub, Int.reduceEq, Int.reduceLT, Int.reduceLE, Int.reduceToNat]
        have hset : (mapC entC D).set i [AV.s x.t, AV.i .i64 x.v, AV.ds [planC x.n]] = mapC entC (D.set i x) := mapC_set entC D i x
        refine ⟨(i + 1, j + 1, D.set i x, _), ⟨hI1.keep ex hq, by dsimp only; omega⟩, by dsimp only; omega, weak_ok ?_ (SubX.sub (SubX.cons ?_ (SubX.base hf fun a ha hax => ?_))) (Nat.le_refl _)⟩
        · simp (disch := omega) only [ite_ne, wr64s j (by omega), wr64s i (by omega), go_sem, ↓reduceIte, Nat.reduceEqDiff, Nat.reduceBEq, Nat.reduceAdd, Nat.reduceLeDiff, Nat.reduceLT, reduceCtorEq, Nat.reduceMul, Nat.reduceSub, Int.reduceEq, Int.reduceLT, Int.reduceLE, Int.reduceToNat]
        · simp (disch := omega) only [ite_ne, hset, go_sem, ↓reduceIte, Nat.reduceEqDiff, Nat.reduceBEq, Nat.reduceAdd, Nat.reduceLeDiff, Nat.reduceLT, reduceCtorEq, Nat.reduceMul, Nat.reduceSub, Int.reduceEq, Int.reduceLT, Int.reduceLE, Int.reduceToNat]
        · have hak : ¬ kg = a := fun e => hax (by simp [e])
          repeat rw [gc_ne _ _ (by omega)]
    · have c : j = L.length := by have := hI1.le; simp at c; omega
      subst c
      have hfin := hI1.fin
      rw [hF] at hfin
      have hil := hI1.ilen
      rw [List.take_length, hF] at hil
      have hlt := hI1.lt
      cases i with
      | zero =>
        have hF0 : F = [] := List.eq_nil_of_length_eq_zero hil
        have hrl : (List.replicate L.length [AV.s ⟨#[]⟩, .i .i64 0, .e0]).length = L.length := List.length_replicate
        have hrt : (List.replicate L.length [AV.s ⟨#[]⟩, .i .i64 0, .e0]).take L.length = List.replicate L.length [AV.s ⟨#[]⟩, .i .i64 0, .e0] := List.take_of_length_le (by omega)
        rw [hF0]
        simp (disch := omega) only [ite_ne, hDl, Nat.le_refl, htd, hrl, hrt, List.nil_append, List.length_nil, Nat.sub_zero, go_sem, ↓reduceIte, Nat.reduceEqDiff, Nat.reduceBEq, Nat.reduceAdd, Nat.reduceLeDiff, Nat.reduceLT, reduceCtorEq, Nat.reduceMul, Nat.reduceSub, Int.reduceEq, Int.reduceLT, Int.reduceLE, Int.reduceToNat]
        refine ⟨⟨Int.le_refl _, mapC_all fun _ => rfl⟩, (fun e he => by rw [List.eq_of_mem_replicate he]; rfl), up_ws1 (gc_cons_same) (fun j hj hjk => ?_), hlt2⟩
        repeat rw [gc_ne _ _ (by omega)]
      | succ p =>
        have hZl : (mapC entC F ++ List.replicate (L.length - (p + 1)) [AV.s ⟨#[]⟩, .i .i64 0, .e0]).length = L.length := by rw [List.length_append, List.length_replicate, mapC_len, hil]; omega
        have hZt : (mapC entC F ++ List.replicate (L.length - (p + 1)) [AV.s ⟨#[]⟩, .i .i64 0, .e0]).take L.length = mapC entC F ++ List.replicate (L.length - (p + 1)) [AV.s ⟨#[]⟩, .i .i64 0, .e0] := List.take_of_length_le (by omega)
        have hpL : p + 1 + (L.length - (p + 1)) = L.length := by omega
        have hpl : p + 1 ≤ L.length := by omega
        have hpt : ((p : Int) + 1).toNat = p + 1 := by omega
        simp (disch := omega) only [ite_ne, hDl, Nat.le_refl, htd, hfin, hZl, hZt, hpL, hpl, hpt, hil, go_sem, ↓reduceIte, Nat.reduceEqDiff, Nat.reduceBEq, Nat.reduceAdd, Nat.reduceLeDiff, Nat.reduceLT, reduceCtorEq, Nat.reduceMul, Nat.reduceSub, Int.reduceEq, Int.reduceLT, Int.reduceLE, Int.reduceToNat]
        refine ⟨⟨⟨by omega, Int.le_refl _⟩, mapC_all fun _ => rfl⟩, ⟨by omega, fun e he => ?_⟩, up_ws1 (gc_cons_same) (fun j hj hjk => ?_), hlt2⟩
        · rcases List.mem_append.1 he with he | he
          · exact mapC_all (c := entC) (n := 3) (fun _ => rfl) e he
          · rw [List.eq_of_mem_replicate he]; rfl
        repeat rw [gc_ne _ _ (by omega)]
  · have hnone : ∀ x ∈ L, q x = false := fun x hx => by
      obtain ⟨t, ht, rfl⟩ := List.mem_iff_getElem.1 hx
      exact hpre t (by omega) _ (List.getElem?_eq_getElem ht)
    have hFL : F = L := by rw [← hF]; exact filter_self fun x hx => by rw [hnone x hx]; rfl
    subst hFL
    rw [h2] at hI
    simp (disch := omega) only [ite_ne, hk, go_sem, ↓reduceIte, Nat.reduceEqDiff, Nat.reduceBEq, Nat.reduceAdd, Nat.reduceLeDiff, Nat.reduceLT, reduceCtorEq, Nat.reduceMul, Nat.reduceSub, Int.reduceEq, Int.reduceLT, Int.reduceLE, Int.reduceToNat]
    refine vcCall.f (hI _ hk _ fun x hx n => h x hx _ n fun _ _ _ => rfl) ?_
    simp (disch := omega) only [ite_ne, go_sem, ↓reduceIte, Nat.reduceEqDiff, Nat.reduceBEq, Nat.reduceAdd, Nat.reduceLeDiff, Nat.reduceLT, reduceCtorEq, Nat.reduceMul, Nat.reduceSub, Int.reduceEq, Int.reduceLT, Int.reduceLE, Int.reduceToNat]
    refine ⟨up_ws1 ?_ (fun j hj hjk => rfl), hlt2⟩
    rw [Nat.sub_self, List.replicate_zero, List.append_nil]
    exact hk
/-- slices.DeleteFunc: the entries that are left. -/
theorem del_ok (q : Ent → Bool) (k : FuncId) (caps : List AV) (L : List Ent) (hl : L.length ≤ 1000000) (kg g : Nat) (hp : CH) (hk : gc hp kg = .rw g 3 (mapC entC L)) (m : Nat)
    (h : ∀ x ∈ L, ∀ hp' n, (∀ j, j < m → j ≠ kg → gc hp' j = gc hp j) → MeetsF Try.prog k hp' n (.ag (entC x) :: caps) (.b (q x))) :
    MeetsX Try.prog 34 hp m [.rw kg g L.length, .fn k caps] ((kg, .rw g 3 (mapC entC (L.filter fun x => !q x))) :: hp) m (.rw kg g (L.filter fun x => !q x).length) := by
  have := MeetsX.cut (L.filter fun x => !q x).length (delF q k caps L hl kg g hp hk m h)
  rw [List.take_left' (by rw [mapC_len])] at this
  exact this
end Go.Proofs.Ytpenniildabheaa
