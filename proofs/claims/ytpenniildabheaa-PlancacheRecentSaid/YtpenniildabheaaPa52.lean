/-
  The parts PcS of the proof, in one file. Conditions: none.
-/
import Derived.Test.YtpenniildabheaaPa51
namespace Go.Proofs.Ytpenniildabheaa
open Go.Eng
set_option linter.unusedVariables false
set_option linter.unusedSimpArgs false
set_option maxRecDepth 20000
set_option maxHeartbeats 4000000
/-- The text of number i. -/
def kyT (i : Nat) : ByteArray := ⟨#[116]⟩ ++ ⟨[UInt8.ofNat (48 + i)].toArray⟩
def kyE (i : Nat) : Ent := ⟨kyT i, (i : Int).tmod 3, i⟩
theorem kyT_inj {i j : Nat} (hi : i < 41) (hj : j < 41) (h : kyT i = kyT j) : i = j := by
  unfold kyT at h
  have h2 := congrArg ByteArray.data h
  simp only [ByteArray.data_append] at h2
  have h3 := Array.append_right_inj _ |>.1 h2
  simp at h3
  have h4 := congrArg UInt8.toNat h3
  simp at h4
  omega
theorem kyE_n (i : Nat) : (kyE i).n = i := rfl
/-- The entries after j of them were stored. -/
def rcX (j : Nat) : List Ent := (List.range j).reverse.map kyE
theorem rcX_len (j : Nat) : (rcX j).length = j := by simp [rcX]
theorem rcX_succ (j : Nat) : rcX (j + 1) = kyE j :: rcX j := by simp [rcX, List.range_succ]
theorem rcX_mem {j : Nat} {e : Ent} : e ∈ rcX j ↔ ∃ i, i < j ∧ e = kyE i := by
  simp only [rcX, List.mem_map, List.mem_reverse, List.mem_range]
  constructor
  · rintro ⟨i, h, rfl⟩; exact ⟨i, h, rfl⟩
  · rintro ⟨i, h, rfl⟩; exact ⟨i, h, rfl⟩
theorem rcX_put {most j : Nat} (hm : 0 < most) (hj : j < 41) : putL most (kyE j) ((rcX j).take most) = (rcX (j + 1)).take most := by
  have h1 : tkE (kyE j).t (kyE j).v ((rcX j).take most) = (rcX j).take most := tkE_none fun x hx ⟨e1, e2⟩ => by
    obtain ⟨i, hi, rfl⟩ := rcX_mem.1 (List.mem_of_mem_take hx)
    have := kyT_inj (by omega) hj e1
    omega
  have hl : ((rcX j).take most).length = min most j := by rw [List.length_take, rcX_len]
  unfold putL
  rw [h1, hl, rcX_succ]
  obtain ⟨p, rfl⟩ : ∃ p, most = p + 1 := ⟨most - 1, by omega⟩
  have e1 : ((p + 1 : Nat) : Int) - 1 = (p : Int) := by omega
  rw [e1, List.take_succ_cons]
  split
  · rename_i h
    rw [List.take_take, Int.toNat_natCast]
    congr 2
    omega
  · rename_i h
    have : j ≤ p := by omega
    rw [List.take_of_length_le (by rw [rcX_len]; omega), List.take_of_length_le (by rw [rcX_len]; omega)]
theorem rcX_uq {j : Nat} (hj : j ≤ 41) : Uq (rcX j) := by
  induction j with
  | zero => exact List.Pairwise.nil
  | succ j ih =>
    rw [rcX_succ]
    refine List.pairwise_cons.2 ⟨fun x hx ⟨e1, _⟩ => ?_, ih (by omega)⟩
    obtain ⟨i, hi, rfl⟩ := rcX_mem.1 hx
    have := kyT_inj (by omega) (by omega) e1
    omega
theorem rcX_take {most count : Nat} {e : Ent} : e ∈ (rcX count).take most ↔ ∃ i, i < count ∧ count ≤ i + most ∧ e = kyE i := by
  have hi : ∀ i, i < count → (rcX count)[count - 1 - i]? = some (kyE i) := fun i h => by
    simp only [rcX, List.getElem?_map]
    rw [List.getElem?_reverse (by simp; omega)]
    simp only [List.length_range]
    rw [show count - 1 - (count - 1 - i) = i by omega, List.getElem?_range h]
    rfl
  constructor
  · intro h
    obtain ⟨t, ht, he⟩ := List.mem_iff_getElem.1 h
    have ht2 : t < most ∧ t < count := by simp [rcX_len] at ht; omega
    refine ⟨count - 1 - t, by omega, by omega, ?_⟩
    have h2 := hi (count - 1 - t) (by omega)
    rw [show count - 1 - (count - 1 - t) = t by omega] at h2
    have h3 : ((rcX count).take most)[t]? = some (kyE (count - 1 - t)) := by rw [List.getElem?_take, if_pos ht2.1]; exact h2
    rw [List.getElem?_eq_getElem ht] at h3
    rw [← he]
    exact Option.some.inj h3
  · rintro ⟨i, h1, h2, rfl⟩
    have h3 : ((rcX count).take most)[count - 1 - i]? = some (kyE i) := by rw [List.getElem?_take, if_pos (by omega)]; exact hi i h1
    exact List.mem_of_getElem? h3
/-- The entries that are left are the last ones. -/
structure RI (most count : Nat) (L : List Ent) : Prop where
  mem : ∀ e, e ∈ L ↔ ∃ i, i < count ∧ count ≤ i + most ∧ e = kyE i
  uq : Uq L
  ll : (L.length : Int) ≤ most
theorem RI.start {most count : Nat} (hc : count ≤ 41) : RI most count ((rcX count).take most) := ⟨fun e => rcX_take, List.Pairwise.sublist (List.take_sublist _ _) (rcX_uq hc), by rw [List.length_take]; omega⟩
theorem RI.yes {most count i : Nat} {L : List Ent} (r : RI most count L) (hc : count ≤ 41) (hi : i < count) (h : count ≤ i + most) : L[L.findIdx (qE (kyT i) ((i : Int).tmod 3))]? = some (kyE i) := by
  have hm : kyE i ∈ L := (r.mem _).2 ⟨i, hi, h, rfl⟩
  have hlt : L.findIdx (qE (kyT i) ((i : Int).tmod 3)) < L.length := List.findIdx_lt_length_of_exists ⟨_, hm, qE_iff.2 ⟨rfl, rfl⟩⟩
  have hq := List.findIdx_getElem (w := hlt)
  obtain ⟨j, hj, hj2, e⟩ := (r.mem _).1 (List.getElem_mem hlt)
  rw [e] at hq
  have := kyT_inj (by omega) (by omega) (qE_iff.1 hq).1
  rw [List.getElem?_eq_getElem hlt, e, show j = i from this]
theorem RI.no {most count i : Nat} {L : List Ent} (r : RI most count L) (hc : count ≤ 41) (hi : i < count) (h : ¬ count ≤ i + most) : L.findIdx (qE (kyT i) ((i : Int).tmod 3)) = L.length :=
  List.findIdx_eq_length.2 fun x hx => by
    obtain ⟨j, hj, hj2, rfl⟩ := (r.mem x).1 hx
    cases hq : qE (kyT i) ((i : Int).tmod 3) (kyE j) with
    | false => rfl
    | true =>
      have := kyT_inj (by omega) (by omega) (qE_iff.1 hq).1
      omega
theorem RI.got {most count i : Nat} {L : List Ent} (r : RI most count L) (hc : count ≤ 41) (hi : i < count) (h : count ≤ i + most) (hm : 0 < most) : RI most count (putL most (kyE i) (tkE (kyT i) ((i : Int).tmod 3) L)) := by
  have hy := r.yes hc hi h
  have hlt := (List.getElem?_eq_some_iff.1 hy).1
  have h2 : tkE (kyE i).t (kyE i).v (tkE (kyT i) ((i : Int).tmod 3) L) = tkE (kyT i) ((i : Int).tmod 3) L := tkE_none fun y hy => ((tkE_mem r.uq).1 hy).2
  have h3 : (tkE (kyT i) ((i : Int).tmod 3) L).length = L.length - 1 := List.length_eraseIdx_of_lt hlt
  have hl := r.ll
  refine ⟨fun e => ?_, (r.uq.tk _ _).put _ _, (putL_len (by omega) _ _ (by omega)).1⟩
  unfold putL
  rw [h2, if_neg (by omega), List.mem_cons, tkE_mem r.uq, r.mem]
  constructor
  · rintro (rfl | ⟨h5, _⟩)
    · exact ⟨i, hi, h, rfl⟩
    · exact h5
  · rintro ⟨j, h5, h6, rfl⟩
    by_cases q : j = i
    · subst q; exact .inl rfl
    · exact .inr ⟨⟨j, h5, h6, rfl⟩, fun e => q (kyT_inj (by omega) (by omega) e.1)⟩
theorem lawRecent (rm nn : Int) (hr : 0 ≤ rm ∧ rm ≤ 255) (hn : 0 ≤ nn ∧ nn ≤ 255) (hp : CH) (m : Nat) : MeetsF Try.prog 3 hp m [.i .u8 rm, .i .u8 nn] (.b true) := by
  obtain ⟨q, hq⟩ : ∃ q : Nat, rm.tmod 20 = q := ⟨(rm.tmod 20).toNat, by have := Int.tmod_nonneg 20 hr.1; omega⟩
  obtain ⟨count, hcn⟩ : ∃ q : Nat, nn.tmod 41 = q := ⟨(nn.tmod 41).toNat, by have := Int.tmod_nonneg 41 hn.1; omega⟩
  have hq2 : q < 20 := by have := Int.tmod_lt_of_pos rm (show (0 : Int) < 20 by omega); omega
  have hc2 : count < 41 := by have := Int.tmod_lt_of_pos nn (show (0 : Int) < 41 by omega); omega
  have w1 : IntKind.i64.wrap rm = rm := wr64 (by omega)
  have w2 : IntKind.i64.wrap nn = nn := wr64 (by omega)
  obtain ⟨most, hmo⟩ : ∃ most : Nat, most = 1 + q := ⟨_, rfl⟩
  have w3 : IntKind.i64.wrap (1 + (q : Int)) = (most : Int) := by rw [wr64 (by omega)]; omega
  have hm0 : 0 < most := by omega
  refine meetsF Try.func3 (by kernel_rfl) cc3 cr3 rfl fun hf => ?_; unfold ck3
  simp (disch := omega) only [ite_ne, w1, w2, hq, w3, go_sem, ↓reduceIte, Nat.reduceEqDiff, Nat.reduceBEq, Nat.reduceAdd, Nat.reduceLeDiff, Nat.reduceLT, reduceCtorEq, Nat.reduceMul, Nat.reduceSub, Int.reduceEq, Int.reduceLT, Int.reduceLE, Int.reduceToNat]
  refine vcCall.r (new_ok most ⟨by omega, by omega⟩ _ _) fun hp' n' r ⟨e1, e2, e3⟩ => ?_
  subst e1
  subst e2
  subst e3
  simp (disch := omega) only [ite_ne, w1, w2, hq, w3, hcn, go_sem, ↓reduceIte, Nat.reduceEqDiff, Nat.reduceBEq, Nat.reduceAdd, Nat.reduceLeDiff, Nat.reduceLT, reduceCtorEq, Nat.reduceMul, Nat.reduceSub, Int.reduceEq, Int.reduceLT, Int.reduceLE, Int.reduceToNat]
  refine loop (fun p : Nat × Nat × Nat => ⟨[(5, .i .i64 most), (6, .bx m 0), (8, .i .i64 count), (9, .i .i64 p.1)], pcW m (m + 1) p.2.1 most 0 0 0 false ((rcX p.1).take most) ++ hp, p.2.2⟩)
    (fun p => p.1 ≤ count ∧ m + 2 ≤ p.2.2) (fun p => count - p.1) (0, 0, m + 2) ?_ ?_ (fun ⟨j, g, n⟩ hj => ?_)
  · exact ⟨by simp, by simp⟩
  · unfold pcW
    refine (weak_b0 (cs := [.i .i64 most, .e0, .i .i64 0, .i .i64 0, .i .i64 0, .b false]) (c := m) (i := 1) (m := 3) (by (simp (disch := omega) only [ite_ne, go_sem, ↓reduceIte, Nat.reduceEqDiff, Nat.reduceBEq, Nat.reduceAdd, Nat.reduceLeDiff, Nat.reduceLT, reduceCtorEq, Nat.reduceMul, Nat.reduceSub, Int.reduceEq, Int.reduceLT, Int.reduceLE, Int.reduceToNat])) rfl).trans
      (weak_ok ?_ (Sub.cons ?_ (Sub.cons ?_ (Sub.base hf ?_))) (Nat.le_refl _))
    all_goals simp only [List.set_cons_succ, List.set_cons_zero, show rcX 0 = [] from rfl, List.take_nil, List.length_nil, mapC_nil]
    all_goals (simp (disch := omega) only [ite_ne, go_sem, ↓reduceIte, Nat.reduceEqDiff, Nat.reduceBEq, Nat.reduceAdd, Nat.reduceLeDiff, Nat.reduceLT, reduceCtorEq, Nat.reduceMul, Nat.reduceSub, Int.reduceEq, Int.reduceLT, Int.reduceLE, Int.reduceToNat])
    all_goals first | rfl | exact fun _ _ => rfl
  dsimp only at hj
  obtain ⟨hj1, hj2⟩ := hj
  have hmn : m ≤ n := by omega
  have hLl : ((rcX j).take most).length ≤ most := by rw [List.length_take]; omega
  unfold pcW
  simp (disch := omega) only [ite_ne, go_sem, ↓reduceIte, Nat.reduceEqDiff, Nat.reduceBEq, Nat.reduceAdd, Nat.reduceLeDiff, Nat.reduceLT, reduceCtorEq, Nat.reduceMul, Nat.reduceSub, Int.reduceEq, Int.reduceLT, Int.reduceLE, Int.reduceToNat]
  refine cdK_of (fun q1 => ?_) (fun q1 => ?_)
  · have q1 : j < count := by simpa using q1
    have hP := rcX_put (most := most) (j := j) hm0 (by omega)
    have hG := cput_ok most 0 0 0 false ((rcX j).take most) ⟨by omega, by omega⟩ (by omega) m (m + 1) g
    have hG := fun hp hc hk n => hG hp hc hk n (kyT j) ((j : Int).tmod 3) j (.inl rfl)
    rw [show Ent.mk (kyT j) ((j : Int).tmod 3) (j : Int) = kyE j from rfl, hP] at hG
    have x1 : IntKind.i64.wrap (48 + (j : Int)) = 48 + (j : Int) := wr64 (by omega)
    have x2 : IntKind.u8.wrap (48 + (j : Int)) = 48 + (j : Int) := by
      unfold IntKind.wrap
      simp [IntKind.bits, IntKind.signed]
      omega
    have x3 : (48 + (j : Int)).toNat = 48 + j := by omega
    unfold pcW at hG
    simp (disch := omega) only [ite_ne, x1, x2, x3, go_sem, ↓reduceIte, Nat.reduceEqDiff, Nat.reduceBEq, Nat.reduceAdd, Nat.reduceLeDiff, Nat.reduceLT, reduceCtorEq, Nat.reduceMul, Nat.reduceSub, Int.reduceEq, Int.reduceLT, Int.reduceLE, Int.reduceToNat]
    refine ⟨by simp, ?_⟩
    refine dCallR.f (fun _ hp' e => plans_ok _ _ _) ?_
    simp (disch := omega) only [ite_ne, x1, x2, x3, go_sem, ↓reduceIte, Nat.reduceEqDiff, Nat.reduceBEq, Nat.reduceAdd, Nat.reduceLeDiff, Nat.reduceLT, reduceCtorEq, Nat.reduceMul, Nat.reduceSub, Int.reduceEq, Int.reduceLT, Int.reduceLE, Int.reduceToNat]
    have hkT : (⟨#[116]⟩ : ByteArray) ++ ⟨#[UInt8.ofNat (48 + j)]⟩ = kyT j := rfl
    refine dCallR.w (ws := [(m, .bx [.i .i64 most, .rw (m + 1) (g + 1) ((rcX (j + 1)).take most).length, .i .i64 0, .i .i64 0, .i .i64 0, .b false]), (m + 1, .rw (g + 1) 3 (mapC entC ((rcX (j + 1)).take most)))]) ?_ rfl (fun hp' e => hG hp' ((e m (.inl (by omega))).trans (by (simp (disch := omega) only [ite_ne, go_sem, ↓reduceIte, Nat.reduceEqDiff, Nat.reduceBEq, Nat.reduceAdd, Nat.reduceLeDiff, Nat.reduceLT, reduceCtorEq, Nat.reduceMul, Nat.reduceSub, Int.reduceEq, Int.reduceLT, Int.reduceLE, Int.reduceToNat]))) ((e (m + 1) (.inl (by omega))).trans (by (simp (disch := omega) only [ite_ne, go_sem, ↓reduceIte, Nat.reduceEqDiff, Nat.reduceBEq, Nat.reduceAdd, Nat.reduceLeDiff, Nat.reduceLT, reduceCtorEq, Nat.reduceMul, Nat.reduceSub, Int.reduceEq, Int.reduceLT, Int.reduceLE, Int.reduceToNat]))) _) ?_
    · simp (disch := omega) only [ite_ne, keys, List.map_cons, List.map_nil, go_sem, ↓reduceIte, Nat.reduceEqDiff, Nat.reduceBEq, Nat.reduceAdd, Nat.reduceLeDiff, Nat.reduceLT, reduceCtorEq, Nat.reduceMul, Nat.reduceSub, Int.reduceEq, Int.reduceLT, Int.reduceLE, Int.reduceToNat]
      first | done | (simp; done) | (simp; omega)
    simp (disch := omega) only [ite_ne, List.cons_append, List.nil_append, go_sem, ↓reduceIte, Nat.reduceEqDiff, Nat.reduceBEq, Nat.reduceAdd, Nat.reduceLeDiff, Nat.reduceLT, reduceCtorEq, Nat.reduceMul, Nat.reduceSub, Int.reduceEq, Int.reduceLT, Int.reduceLE, Int.reduceToNat]
    refine ⟨(j + 1, g + 1, _), ⟨by dsimp only; omega, by dsimp only; omega⟩, by dsimp only; omega, weak_ok ?_ ?_ (Nat.le_refl _)⟩
    · simp (disch := omega) only [ite_ne, wr64s j (by omega), go_sem, ↓reduceIte, Nat.reduceEqDiff, Nat.reduceBEq, Nat.reduceAdd, Nat.reduceLeDiff, Nat.reduceLT, reduceCtorEq, Nat.reduceMul, Nat.reduceSub, Int.reduceEq, Int.reduceLT, Int.reduceLE, Int.reduceToNat]
    · simp only [List.cons_append, List.nil_append]
      refine Sub.cons ?_ (Sub.cons ?_ (Sub.base hf ?_))
      all_goals (simp (disch := omega) only [ite_ne, go_sem, ↓reduceIte, Nat.reduceEqDiff, Nat.reduceBEq, Nat.reduceAdd, Nat.reduceLeDiff, Nat.reduceLT, reduceCtorEq, Nat.reduceMul, Nat.reduceSub, Int.reduceEq, Int.reduceLT, Int.reduceLE, Int.reduceToNat])
  have q1 : j = count := by simp at q1; omega
  subst q1
  simp (disch := omega) only [ite_ne, go_sem, ↓reduceIte, Nat.reduceEqDiff, Nat.reduceBEq, Nat.reduceAdd, Nat.reduceLeDiff, Nat.reduceLT, reduceCtorEq, Nat.reduceMul, Nat.reduceSub, Int.reduceEq, Int.reduceLT, Int.reduceLE, Int.reduceToNat]
  have w4 : IntKind.i64.wrap ((j : Int) - (most : Int)) = (j : Int) - most := wr64 (by omega)
  refine loop (fun p : Nat × (Int × Int × List Ent × Nat) × Nat => ⟨[(5, .i .i64 most), (6, .bx m 0), (8, .i .i64 j), (10, .i .i64 p.1)], pcW m (m + 1) p.2.1.2.2.2 most p.2.1.1 p.2.1.2.1 0 false p.2.1.2.2.1 ++ hp, p.2.2⟩)
    (fun p => p.1 ≤ j ∧ m + 2 ≤ p.2.2 ∧ RI most j p.2.1.2.2.1 ∧ (0 ≤ p.2.1.1 ∧ p.2.1.1 ≤ p.1) ∧ (0 ≤ p.2.1.2.1 ∧ p.2.1.2.1 ≤ p.1)) (fun p => j - p.1) (0, (0, 0, (rcX j).take most, g), n) ?_ ?_ (fun ⟨i, ⟨h, mi, L, g⟩, n⟩ hi => ?_)
  · exact ⟨by simp, hj2, RI.start (by omega), ⟨by simp, by simp⟩, ⟨by simp, by simp⟩⟩
  · unfold pcW
    refine weak_ok ?_ (Sub.cons ?_ (Sub.cons ?_ (Sub.base hf ?_))) (Nat.le_refl _)
    all_goals (simp (disch := omega) only [ite_ne, go_sem, ↓reduceIte, Nat.reduceEqDiff, Nat.reduceBEq, Nat.reduceAdd, Nat.reduceLeDiff, Nat.reduceLT, reduceCtorEq, Nat.reduceMul, Nat.reduceSub, Int.reduceEq, Int.reduceLT, Int.reduceLE, Int.reduceToNat])
    all_goals first | rfl | exact fun _ _ => rfl
  dsimp only at hi
  obtain ⟨hi1, hi2, hi3, hi4, hi5⟩ := hi
  have hmn : m ≤ n := by omega
  have hll := hi3.ll
  unfold pcW
  simp (disch := omega) only [ite_ne, go_sem, ↓reduceIte, Nat.reduceEqDiff, Nat.reduceBEq, Nat.reduceAdd, Nat.reduceLeDiff, Nat.reduceLT, reduceCtorEq, Nat.reduceMul, Nat.reduceSub, Int.reduceEq, Int.reduceLT, Int.reduceLE, Int.reduceToNat]
  refine cdK_of (fun q1 => ?_) (fun q1 => ?_)
  · have q1 : i < j := by simpa using q1
    have x1 : IntKind.i64.wrap (48 + (i : Int)) = 48 + (i : Int) := wr64 (by omega)
    have x2 : IntKind.u8.wrap (48 + (i : Int)) = 48 + (i : Int) := by
      unfold IntKind.wrap
      simp [IntKind.bits, IntKind.signed]
      omega
    have x3 : (48 + (i : Int)).toNat = 48 + i := by omega
    have hkT : (⟨#[116]⟩ : ByteArray) ++ ⟨#[UInt8.ofNat (48 + i)]⟩ = kyT i := rfl
    simp (disch := omega) only [ite_ne, x1, x2, x3, go_sem, ↓reduceIte, Nat.reduceEqDiff, Nat.reduceBEq, Nat.reduceAdd, Nat.reduceLeDiff, Nat.reduceLT, reduceCtorEq, Nat.reduceMul, Nat.reduceSub, Int.reduceEq, Int.reduceLT, Int.reduceLE, Int.reduceToNat]
    refine ⟨by simp, ?_⟩
    rw [hkT]
    by_cases hy : j ≤ i + most
    · have hyy := hi3.yes (by omega) q1 hy
      have hgot := hi3.got (by omega) q1 hy hm0
      have hG := cget_yes most h mi 0 false L ⟨by omega, by omega⟩ (by omega) m (m + 1) g
      have hG := fun hp hc hk n => hG hp hc hk n (kyT i) ((i : Int).tmod 3) (kyE i) ⟨by omega, by omega⟩ hyy
      rw [kyE_n, show Ent.mk (kyT i) ((i : Int).tmod 3) (i : Int) = kyE i from rfl] at hG
      obtain ⟨L2, hL2⟩ : ∃ L2, putL most (kyE i) (tkE (kyT i) ((i : Int).tmod 3) L) = L2 := ⟨_, rfl⟩
      rw [hL2] at hG hgot
      unfold pcW at hG
      refine vcCall.x (hG _ ?_ ?_ _) ?_
      · simp (disch := omega) only [ite_ne, go_sem, ↓reduceIte, Nat.reduceEqDiff, Nat.reduceBEq, Nat.reduceAdd, Nat.reduceLeDiff, Nat.reduceLT, reduceCtorEq, Nat.reduceMul, Nat.reduceSub, Int.reduceEq, Int.reduceLT, Int.reduceLE, Int.reduceToNat]
      · simp (disch := omega) only [ite_ne, go_sem, ↓reduceIte, Nat.reduceEqDiff, Nat.reduceBEq, Nat.reduceAdd, Nat.reduceLeDiff, Nat.reduceLT, reduceCtorEq, Nat.reduceMul, Nat.reduceSub, Int.reduceEq, Int.reduceLT, Int.reduceLE, Int.reduceToNat]
      simp (disch := omega) only [ite_ne, List.cons_append, List.nil_append, go_sem, ↓reduceIte, Nat.reduceEqDiff, Nat.reduceBEq, Nat.reduceAdd, Nat.reduceLeDiff, Nat.reduceLT, reduceCtorEq, Nat.reduceMul, Nat.reduceSub, Int.reduceEq, Int.reduceLT, Int.reduceLE, Int.reduceToNat]
      refine vcCall.f (number_ok _ _ _) ?_
      have d1 : decide ((j : Int) - (most : Int) ≤ (i : Int)) = true := decide_eq_true (by omega)
      simp (disch := omega) only [ite_ne, w4, d1, decide_true, go_sem, ↓reduceIte, Nat.reduceEqDiff, Nat.reduceBEq, Nat.reduceAdd, Nat.reduceLeDiff, Nat.reduceLT, reduceCtorEq, Nat.reduceMul, Nat.reduceSub, Int.reduceEq, Int.reduceLT, Int.reduceLE, Int.reduceToNat]
      refine ⟨(i + 1, (h + 1, mi, L2, g + 1), _), ⟨by dsimp only; omega, by dsimp only; omega, hgot, by dsimp only; omega, by dsimp only; omega⟩, by dsimp only; omega, weak_ok ?_ ?_ (Nat.le_refl _)⟩
      · simp (disch := omega) only [ite_ne, wr64s i (by omega), go_sem, ↓reduceIte, Nat.reduceEqDiff, Nat.reduceBEq, Nat.reduceAdd, Nat.reduceLeDiff, Nat.reduceLT, reduceCtorEq, Nat.reduceMul, Nat.reduceSub, Int.reduceEq, Int.reduceLT, Int.reduceLE, Int.reduceToNat]
      · simp only [List.cons_append, List.nil_append]
        refine Sub.cons ?_ (Sub.cons ?_ (Sub.base hf ?_))
        all_goals (simp (disch := omega) only [ite_ne, go_sem, ↓reduceIte, Nat.reduceEqDiff, Nat.reduceBEq, Nat.reduceAdd, Nat.reduceLeDiff, Nat.reduceLT, reduceCtorEq, Nat.reduceMul, Nat.reduceSub, Int.reduceEq, Int.reduceLT, Int.reduceLE, Int.reduceToNat])
    · have hyy := hi3.no (by omega) q1 hy
      have hG := cget_no most h mi 0 false L ⟨by omega, by omega⟩ (by omega) m (m + 1) g
      have hG := fun hp hc hk n => hG hp hc hk n (kyT i) ((i : Int).tmod 3) ⟨by omega, by omega⟩ hyy
      unfold pcW at hG
      refine vcCall.x (hG _ ?_ ?_ _) ?_
      · simp (disch := omega) only [ite_ne, go_sem, ↓reduceIte, Nat.reduceEqDiff, Nat.reduceBEq, Nat.reduceAdd, Nat.reduceLeDiff, Nat.reduceLT, reduceCtorEq, Nat.reduceMul, Nat.reduceSub, Int.reduceEq, Int.reduceLT, Int.reduceLE, Int.reduceToNat]
      · simp (disch := omega) only [ite_ne, go_sem, ↓reduceIte, Nat.reduceEqDiff, Nat.reduceBEq, Nat.reduceAdd, Nat.reduceLeDiff, Nat.reduceLT, reduceCtorEq, Nat.reduceMul, Nat.reduceSub, Int.reduceEq, Int.reduceLT, Int.reduceLE, Int.reduceToNat]
      simp (disch := omega) only [ite_ne, List.cons_append, List.nil_append, go_sem, ↓reduceIte, Nat.reduceEqDiff, Nat.reduceBEq, Nat.reduceAdd, Nat.reduceLeDiff, Nat.reduceLT, reduceCtorEq, Nat.reduceMul, Nat.reduceSub, Int.reduceEq, Int.reduceLT, Int.reduceLE, Int.reduceToNat]
      refine vcCall.f (number_0 _ _) ?_
      have d1 : decide ((j : Int) - (most : Int) ≤ (i : Int)) = false := decide_eq_false (by omega)
      simp (disch := omega) only [ite_ne, w4, d1, decide_true, go_sem, ↓reduceIte, Nat.reduceEqDiff, Nat.reduceBEq, Nat.reduceAdd, Nat.reduceLeDiff, Nat.reduceLT, reduceCtorEq, Nat.reduceMul, Nat.reduceSub, Int.reduceEq, Int.reduceLT, Int.reduceLE, Int.reduceToNat]
      refine ⟨(i + 1, (h, mi + 1, L, g), _), ⟨by dsimp only; omega, by dsimp only; omega, hi3, by dsimp only; omega, by dsimp only; omega⟩, by dsimp only; omega, weak_ok ?_ ?_ (Nat.le_refl _)⟩
      · simp (disch := omega) only [ite_ne, wr64s i (by omega), go_sem, ↓reduceIte, Nat.reduceEqDiff, Nat.reduceBEq, Nat.reduceAdd, Nat.reduceLeDiff, Nat.reduceLT, reduceCtorEq, Nat.reduceMul, Nat.reduceSub, Int.reduceEq, Int.reduceLT, Int.reduceLE, Int.reduceToNat]
      · simp only [List.cons_append, List.nil_append]
        refine Sub.cons ?_ (Sub.cons ?_ (Sub.base hf ?_))
        all_goals (simp (disch := omega) only [ite_ne, go_sem, ↓reduceIte, Nat.reduceEqDiff, Nat.reduceBEq, Nat.reduceAdd, Nat.reduceLeDiff, Nat.reduceLT, reduceCtorEq, Nat.reduceMul, Nat.reduceSub, Int.reduceEq, Int.reduceLT, Int.reduceLE, Int.reduceToNat])
  · simp (disch := omega) only [ite_ne, go_sem, ↓reduceIte, Nat.reduceEqDiff, Nat.reduceBEq, Nat.reduceAdd, Nat.reduceLeDiff, Nat.reduceLT, reduceCtorEq, Nat.reduceMul, Nat.reduceSub, Int.reduceEq, Int.reduceLT, Int.reduceLE, Int.reduceToNat]
    refine vcCall.f (exh_ok _ _) ?_
    simp (disch := omega) only [ite_ne, go_sem, ↓reduceIte, Nat.reduceEqDiff, Nat.reduceBEq, Nat.reduceAdd, Nat.reduceLeDiff, Nat.reduceLT, reduceCtorEq, Nat.reduceMul, Nat.reduceSub, Int.reduceEq, Int.reduceLT, Int.reduceLE, Int.reduceToNat]
end Go.Proofs.Ytpenniildabheaa
