/-
  The parts MxV of the proof, in one file. Conditions: none.
-/
import Derived.Test.YtdodiembhgjecaaMb48
namespace Go.Proofs.Ytdodiembhgjecaa
open Go.Eng
set_option linter.unusedVariables false
set_option linter.unusedSimpArgs false
theorem asc_ext : ∀ (A B : List Int), Asc A → Asc B → (∀ x, x ∈ A ↔ x ∈ B) → A = B
  | [], [], _, _, _ => rfl
  | [], b :: B, _, _, h => by have := (h b).2 (by simp); simp at this
  | a :: A, [], _, _, h => by have := (h a).1 (by simp); simp at this
  | a :: A, b :: B, ha, hb, h => by
    obtain ⟨a1, a2⟩ := List.pairwise_cons.1 ha
    obtain ⟨b1, b2⟩ := List.pairwise_cons.1 hb
    have hab : a = b := by
      rcases List.mem_cons.1 ((h a).1 (by simp)) with e | e
      · exact e
      · rcases List.mem_cons.1 ((h b).2 (by simp)) with e2 | e2
        · exact e2.symm
        · have := b1 a e
          have := a1 b e2
          omega
    subst hab
    rw [asc_ext A B a2 b2 fun x => ⟨fun hx => ?_, fun hx => ?_⟩]
    · rcases List.mem_cons.1 ((h x).1 (by simp [hx])) with e | e
      · have := a1 x hx; omega
      · exact e
    · rcases List.mem_cons.1 ((h x).2 (by simp [hx])) with e | e
      · have := b1 x hx; omega
      · exact e
theorem has_eq {S : List Int} (hn : S.Nodup) (x : Int) : hasI x (liveR S) = hasS x S := by
  have h := hasI_iff (x := x) (asc_liveR hn)
  rw [mem_liveR] at h
  unfold hasS
  cases hh : hasI x (liveR S) with
  | true => exact (decide_eq_true (h.1 hh)).symm
  | false => exact (decide_eq_false fun z => by rw [h.2 z] at hh; cases hh).symm
theorem asc_get {L : List Int} (h : Asc L) {i j : Nat} {x : Int} (h1 : L[i]? = some x) (h2 : L[j]? = some x) : i = j := by
  obtain ⟨i1, i2⟩ := List.getElem?_eq_some_iff.1 h1
  obtain ⟨j1, j2⟩ := List.getElem?_eq_some_iff.1 h2
  rcases Nat.lt_trichotomy i j with q | q | q
  · have := List.pairwise_iff_getElem.1 h i j i1 j1 q; omega
  · exact q
  · have := List.pairwise_iff_getElem.1 h j i j1 i1 q; omega
theorem drL_nodup {S : List Int} (hn : S.Nodup) (x : Int) : (drL x S).Nodup := List.Nodup.sublist List.filter_sublist hn
theorem st_eq {S : List Int} (hn : S.Nodup) (x : Int) : stL x (liveR S) = liveR (drL x S) := by
  have ha := asc_liveR hn
  refine asc_ext _ _ ?_ (asc_liveR (drL_nodup hn x)) fun y => ?_
  · unfold stL
    split
    · exact List.Pairwise.sublist (List.eraseIdx_sublist _ _) ha
    · exact ha
  rw [mem_liveR]
  unfold drL
  rw [List.mem_filter, decide_eq_true_eq]
  unfold stL
  split
  · rename_i h
    unfold hasI at h
    rw [decide_eq_true_eq] at h
    rw [List.mem_eraseIdx_iff_getElem?]
    constructor
    · rintro ⟨i, hi, e⟩
      exact ⟨mem_liveR.1 (List.mem_of_getElem? e), fun q => hi (asc_get ha (by rw [q] at e; exact e) h)⟩
    · rintro ⟨h1, h2⟩
      obtain ⟨i, hi, e⟩ := List.mem_iff_getElem.1 (mem_liveR.2 h1)
      have e' : (liveR S)[i]? = some y := by rw [List.getElem?_eq_getElem hi, e]
      exact ⟨i, fun q => h2 (by rw [q, h] at e'; exact (Option.some.inj e').symm), e'⟩
  · rename_i h
    rw [mem_liveR]
    refine ⟨fun h1 => ⟨h1, fun q => h ((hasI_iff ha).2 (mem_liveR.2 (by rw [← q]; exact h1)))⟩, fun h1 => h1.1⟩
theorem dW_eq (n : Int) : ∀ K : List Frm, K.Pairwise (fun a b => a.s < b.s) → K.drop (dW n K) = K.filter fun y => decide (n < y.s)
  | [], _ => rfl
  | f :: K, h => by
    obtain ⟨h1, h2⟩ := List.pairwise_cons.1 h
    unfold dW
    split
    · rename_i q
      rw [List.drop_succ_cons, dW_eq n K h2, List.filter_cons_of_neg (by simp; omega)]
    · rename_i q
      rw [List.drop_zero]
      refine (List.filter_eq_self.2 fun y hy => ?_).symm
      rcases List.mem_cons.1 hy with rfl | hy
      · simp; omega
      · have := h1 y hy; simp; omega
theorem cf_eq (n ack : Int) (K : List Frm) (h : K.Pairwise (fun a b => a.s < b.s)) : K.drop (akD n ack K) = cfL n ack K := by
  unfold akD cfL
  split
  · rfl
  · exact dW_eq n K h
/-- What holds between two steps. -/
structure SvI (j : Nat) (last : Int) (KA : List Frm) (d : Nat) (S : List Int) : Prop where
  l0 : 0 ≤ last
  l1 : last ≤ j
  k1 : KA.length ≤ j
  d1 : d ≤ KA.length
  s1 : S.length ≤ j
  nd : S.Nodup
  asc : (KA.drop d).Pairwise (fun a b => a.s < b.s)
  top : ∀ f ∈ KA.drop d, f.s ≤ last
theorem sdN_le (E last : Int) : last ≤ sdN E last ∧ sdN E last ≤ last + 1 := by
  unfold sdN
  split <;> omega
theorem SvI.send {j : Nat} {last : Int} {KA : List Frm} {d : Nat} {S : List Int} (h : SvI j last KA d S) {E : Int} {f : Frm} {i : Nat × Nat × List Frm} (hi : sdP (KA.drop d) KA.length E f last i) : SvI (j + 1) (sdN E last) i.2.2 i.2.1 S := by
  obtain ⟨h1, h2, h3⟩ := hi
  have hN := sdN_le E last
  have h0 := h.l0
  have h4 := h.l1
  have h5 := h.k1
  have h6 := h.s1
  refine ⟨by omega, by omega, by omega, h1, by omega, h.nd, ?_, fun x hx => ?_⟩
  · rw [h3, List.pairwise_append]
    refine ⟨h.asc, ?_, fun a ha b hb => ?_⟩
    · unfold sdL
      split <;> simp
    · unfold sdL at hb
      split at hb
      · simp at hb
        subst hb
        have := h.top a ha
        show a.s < last + 1
        omega
      · simp at hb
  · rw [h3, List.mem_append] at hx
    rcases hx with hx | hx
    · have := h.top x hx; omega
    · unfold sdL at hx
      unfold sdN
      split at hx
      · rename_i q
        rw [if_pos q]
        simp at hx
        subst hx
        exact Int.le_refl _
      · simp at hx
theorem SvI.drop {j : Nat} {last : Int} {KA : List Frm} {d : Nat} {S : List Int} (h : SvI j last KA d S) (x : Int) : SvI j last KA d (drL x S) :=
  ⟨h.l0, h.l1, h.k1, h.d1, Nat.le_trans (List.length_filter_le _ _) h.s1, drL_nodup h.nd x, h.asc, h.top⟩
theorem akD_le (n ack : Int) (K : List Frm) : akD n ack K ≤ K.length := by
  unfold akD
  split
  · omega
  · exact dW_le n K
theorem rvD_le (f : Frm) (last ack : Int) (K : List Frm) : rvD f last ack K ≤ K.length := by
  have := akD_le f.a ack K
  unfold rvD opD
  repeat' split
  all_goals omega
theorem SvI.recv {j : Nat} {last ack : Int} {KA : List Frm} {d : Nat} {S : List Int} (h : SvI j last KA d S) (f : Frm) : SvI (j + 1) last KA (d + rvD f last ack (KA.drop d)) (rgS f S) := by
  have h0 := h.l0
  have h4 := h.l1
  have h5 := h.k1
  have h6 := h.s1
  have h7 := h.d1
  have hD := rvD_le f last ack (KA.drop d)
  rw [List.length_drop] at hD
  refine ⟨h0, by omega, by omega, by omega, ?_, ?_, ?_, fun x hx => h.top x ?_⟩
  · have := List.length_filter_le (fun y => decide (y ≠ f.i)) S
    unfold rgS drL
    repeat' split
    all_goals (try rw [List.length_append, List.length_singleton])
    all_goals omega
  · unfold rgS
    split
    · exact h.nd
    split
    · split
      · rename_i q
        unfold bgS hasS at q
        simp at q
        rw [List.nodup_append]
        refine ⟨h.nd, by simp, fun a ha b hb => ?_⟩
        simp at hb
        subst hb
        exact fun e => q.1 (by rw [← e]; exact ha)
      · exact h.nd
    split
    · exact drL_nodup h.nd _
    · exact h.nd
  · rw [← List.drop_drop]
    exact List.Pairwise.sublist (List.drop_sublist _ _) h.asc
  · rw [← List.drop_drop] at hx
    exact List.mem_of_mem_drop hx
theorem rvE_eq {S : List Int} (hn : S.Nodup) (f : Frm) (last ack : Int) : rvE f last ack (liveR S) = rgE f last ack S := by
  unfold rvE rgE
  rw [has_eq hn, len_liveR]
theorem rvV_eq {S : List Int} (hn : S.Nodup) (f : Frm) : rvV f (liveR S) = liveR (rgS f S) := by
  have hb : bgI f.i (liveR S) = bgS f.i S := by unfold bgI bgS; rw [has_eq hn, len_liveR]
  unfold rvV rgS
  rw [hb]
  split
  · rfl
  split
  · split
    · rw [liveR_snoc]
    · rfl
  split
  · exact st_eq hn _
  · rfl
theorem rvL_eq (f : Frm) (last ack : Int) (K : List Frm) (h : K.Pairwise (fun a b => a.s < b.s)) : rvL f last ack K = rgA f last ack K := by
  unfold rvL rgA opL opR
  rw [cf_eq _ _ K h]
theorem rvK_eq (f : Frm) (last ack : Int) (K : List Frm) (h : K.Pairwise (fun a b => a.s < b.s)) : K.drop (rvD f last ack K) = rgL f last ack K := by
  have := cf_eq f.a ack K h
  unfold rvD rgL opD opC
  repeat' split
  all_goals first | rfl | exact this
theorem enV_eq {S : List Int} (hn : S.Nodup) (E x : Int) : enV E x (liveR S) = liveR (if E = 0 then drL x S else S) := by
  unfold enV
  split
  · exact st_eq hn x
  · rfl
end Go.Proofs.Ytdodiembhgjecaa
