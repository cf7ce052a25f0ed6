/-
  The parts MxU of the proof, in one file. Conditions: none.
-/
import Derived.Test.YtdodiembhgjecaaMb47
namespace Go.Proofs.Ytdodiembhgjecaa
open Go.Eng
set_option linter.unusedVariables false
set_option linter.unusedSimpArgs false
set_option maxRecDepth 20000
set_option maxHeartbeats 1000000
theorem mem_insL {L : List Int} {i : Nat} {x y : Int} : y ∈ insL L i x ↔ y = x ∨ y ∈ L := by
  unfold insL
  rw [List.mem_append, List.mem_cons]
  constructor
  · rintro (h | h | h)
    · exact .inr (List.mem_of_mem_take h)
    · exact .inl h
    · exact .inr (List.mem_of_mem_drop h)
  · rintro (h | h)
    · exact .inr (.inl h)
    · have : y ∈ L.take i ++ L.drop i := by rw [List.take_append_drop]; exact h
      rcases List.mem_append.1 this with h | h
      · exact .inl h
      · exact .inr (.inr h)
theorem asc_insL (x : Int) : ∀ L : List Int, Asc L → x ∉ L → Asc (insL L (posI x L) x)
  | [], _, _ => by simp [insL, posI]
  | y :: L, h, hn => by
    obtain ⟨h1, h2⟩ := List.pairwise_cons.1 h
    have hn2 : x ∉ L := fun q => hn (by simp [q])
    have hxy : x ≠ y := fun q => hn (by simp [q])
    unfold posI
    split
    · rename_i q
      have ih := asc_insL x L h2 hn2
      show Asc (y :: insL L (posI x L) x)
      refine List.pairwise_cons.2 ⟨fun z hz => ?_, ih⟩
      rcases mem_insL.1 hz with rfl | hz
      · exact q
      · exact h1 z hz
    · rename_i q
      show Asc (x :: y :: L)
      refine List.pairwise_cons.2 ⟨fun z hz => ?_, h⟩
      rcases List.mem_cons.1 hz with rfl | hz
      · omega
      · have := h1 z hz; omega
/-- The subscriptions in order. -/
def liveR (S : List Int) : List Int := S.foldl (fun O x => insL O (posI x O) x) []
theorem liveR_snoc (S : List Int) (x : Int) : liveR (S ++ [x]) = insL (liveR S) (posI x (liveR S)) x := by simp [liveR]
theorem mem_fold (y : Int) : ∀ (S O : List Int), y ∈ S.foldl (fun O x => insL O (posI x O) x) O ↔ y ∈ S ∨ y ∈ O
  | [], O => by simp
  | x :: S, O => by
    rw [List.foldl_cons, mem_fold y S, mem_insL, List.mem_cons]
    constructor
    · rintro (h | h | h)
      · exact .inl (.inr h)
      · exact .inl (.inl h)
      · exact .inr h
    · rintro ((h | h) | h)
      · exact .inr (.inl h)
      · exact .inl h
      · exact .inr (.inr h)
theorem mem_liveR {y : Int} {S : List Int} : y ∈ liveR S ↔ y ∈ S := by
  unfold liveR
  rw [mem_fold]
  simp
theorem len_fold : ∀ (S O : List Int), (S.foldl (fun O x => insL O (posI x O) x) O).length = S.length + O.length
  | [], O => by simp
  | x :: S, O => by
    rw [List.foldl_cons, len_fold S, insL_len (posI_le x O), List.length_cons]
    omega
theorem len_liveR (S : List Int) : (liveR S).length = S.length := by
  unfold liveR
  rw [len_fold]
  simp
theorem asc_fold : ∀ (S O : List Int), Asc O → S.Nodup → (∀ x ∈ S, x ∉ O) → Asc (S.foldl (fun O x => insL O (posI x O) x) O)
  | [], O, h, _, _ => h
  | x :: S, O, h, hn, hd => by
    obtain ⟨n1, n2⟩ := List.nodup_cons.1 hn
    rw [List.foldl_cons]
    refine asc_fold S _ (asc_insL x O h (hd x (by simp))) n2 fun y hy hm => ?_
    rcases mem_insL.1 hm with rfl | hm
    · exact n1 hy
    · exact hd y (by simp [hy]) hm
theorem asc_liveR {S : List Int} (h : S.Nodup) : Asc (liveR S) := asc_fold S [] (by simp) h (by simp)
theorem gKept_ok (room : Int) (hroom : 1 ≤ room) (last ack : Int) (r kL gL kS gS nS : Nat) (L : List Frm) (hp : CH) (hr : gc hp r = rfB room last ack kL gL L.length kS gS nS) (hk : gc hp kL = .rw gL 5 (mapC frC L)) (m : Nat) : MeetsF Try.prog 21 hp m [.bx r 0] (.i .i64 L.length) := by
  have hLl : (mapC frC L).length = L.length := mapC_len _ _
  have htL : (mapC frC L).take L.length = mapC frC L := List.take_of_length_le (by omega)
  have hM := fun hp' e1 n' => gMade_ok room hroom (.i .i64 last) (.i .i64 ack) (.rw kL gL L.length) (.rw kS gS nS) r hp' e1 n'
  unfold rfB at hr
  refine meetsF Try.func21 (by kernel_rfl) cc21 cr21 rfl fun hf => ?_; unfold ck21
  have hlt := bx_lt' hf hr
  simp only [go_sem, ↓reduceIte, Nat.reduceEqDiff, Nat.reduceBEq, Nat.reduceAdd, Nat.reduceLeDiff, Nat.reduceLT, reduceCtorEq, Nat.reduceMul, Nat.reduceSub, Int.reduceEq, Int.reduceLT, Int.reduceLE, Int.reduceToNat]
  refine vcCall.f (hM _ (by (simp (disch := omega) only [ite_ne, hr, go_sem, ↓reduceIte, Nat.reduceEqDiff, Nat.reduceBEq, Nat.reduceAdd, Nat.reduceLeDiff, Nat.reduceLT, reduceCtorEq, Nat.reduceMul, Nat.reduceSub, Int.reduceEq, Int.reduceLT, Int.reduceLE, Int.reduceToNat])) _) ?_
  simp (disch := omega) only [ite_ne, hr, hk, hLl, htL, Nat.le_refl, go_sem, ↓reduceIte, Nat.reduceEqDiff, Nat.reduceBEq, Nat.reduceAdd, Nat.reduceLeDiff, Nat.reduceLT, reduceCtorEq, Nat.reduceMul, Nat.reduceSub, Int.reduceEq, Int.reduceLT, Int.reduceLE, Int.reduceToNat]
theorem ints_eq (l : List Int) (hl : l.length ≤ 1000000) (hp : CH) (m : Nat) : MeetsF Try.prog 17 hp m [.ds (mapC in1 l), .ds (mapC in1 l)] (.b true) := by
  refine meetsF Try.func17 (by kernel_rfl) cc17 cr17 rfl fun hf => ?_; unfold ck17
  simp only [go_sem, ↓reduceIte, Nat.reduceEqDiff, Nat.reduceBEq, Nat.reduceAdd, Nat.reduceLeDiff, Nat.reduceLT, reduceCtorEq, Nat.reduceMul, Nat.reduceSub, Int.reduceEq, Int.reduceLT, Int.reduceLE, Int.reduceToNat]
  refine loop (fun q : Nat × Nat => ⟨[(0, .ds (mapC in1 l)), (1, .ds (mapC in1 l)), (5, .i .i64 q.1)], hp, q.2⟩) (fun q => q.1 ≤ l.length) (fun q => l.length - q.1) (0, m) ?_ ?_ (fun ⟨j, n⟩ hj => ?_)
  · simp
  · refine weak_ok ?_ (Sub.refl _) (Nat.le_refl _)
    simp only [go_sem, ↓reduceIte, Nat.reduceEqDiff, Nat.reduceBEq, Nat.reduceAdd, Nat.reduceLeDiff, Nat.reduceLT, reduceCtorEq, Nat.reduceMul, Nat.reduceSub, Int.reduceEq, Int.reduceLT, Int.reduceLE, Int.reduceToNat]
  dsimp only at hj
  simp (disch := omega) only [ite_ne, go_sem, ↓reduceIte, Nat.reduceEqDiff, Nat.reduceBEq, Nat.reduceAdd, Nat.reduceLeDiff, Nat.reduceLT, reduceCtorEq, Nat.reduceMul, Nat.reduceSub, Int.reduceEq, Int.reduceLT, Int.reduceLE, Int.reduceToNat]
  refine cdK_of (fun q => ?_) (fun q => ?_)
  · have q : j < l.length := by simpa using q
    obtain ⟨x, ex⟩ : ∃ x, l[j]? = some x := ⟨l[j], by simp [q]⟩
    simp (disch := omega) only [ite_ne, q, getK_s (mapC_get in1 ex), decide_true, go_sem, ↓reduceIte, Nat.reduceEqDiff, Nat.reduceBEq, Nat.reduceAdd, Nat.reduceLeDiff, Nat.reduceLT, reduceCtorEq, Nat.reduceMul, Nat.reduceSub, Int.reduceEq, Int.reduceLT, Int.reduceLE, Int.reduceToNat]
    refine ⟨(j + 1, _), by dsimp only; omega, by dsimp only; omega, weak_ok ?_ (Sub.refl _) (Nat.le_refl _)⟩
    simp (disch := omega) only [ite_ne, wr64s j (by omega), go_sem, ↓reduceIte, Nat.reduceEqDiff, Nat.reduceBEq, Nat.reduceAdd, Nat.reduceLeDiff, Nat.reduceLT, reduceCtorEq, Nat.reduceMul, Nat.reduceSub, Int.reduceEq, Int.reduceLT, Int.reduceLE, Int.reduceToNat]
  · simp only [go_sem, ↓reduceIte, Nat.reduceEqDiff, Nat.reduceBEq, Nat.reduceAdd, Nat.reduceLeDiff, Nat.reduceLT, reduceCtorEq, Nat.reduceMul, Nat.reduceSub, Int.reduceEq, Int.reduceLT, Int.reduceLE, Int.reduceToNat]
theorem gLiveL_ok (room : Int) (hroom : 1 ≤ room) (last ack : Int) (S : List Int) (hn : S.Nodup) (hS : S.length ≤ 1000000) (r kL gL nL kS gS : Nat) (hp : CH) (hr : gc hp r = rfB room last ack kL gL nL kS gS S.length) (hk : gc hp kS = .rw gS 1 (mapC in1 S)) (m : Nat) : MeetsF Try.prog 19 hp m [.bx r 0] (.ds (mapC in1 (liveR S))) := by
  have hSl : (mapC in1 S).length = S.length := mapC_len _ _
  have htS : (mapC in1 S).take S.length = mapC in1 S := List.take_of_length_le (by omega)
  have hM := fun hp' e1 n' => gMade_ok room hroom (.i .i64 last) (.i .i64 ack) (.rw kL gL nL) (.rw kS gS S.length) r hp' e1 n'
  have hasc := fun j => asc_liveR (List.Nodup.sublist (List.take_sublist j S) hn)
  have hlen := fun j => len_liveR (S.take j)
  have hstep := fun j x (h : S[j]? = some x) => (congrArg liveR (take_snoc h)).symm.trans (liveR_snoc (S.take j) x)
  unfold rfB at hr
  obtain ⟨R, hR⟩ : ∃ R, liveR S = R := ⟨_, rfl⟩
  rw [hR]
  refine meetsF Try.func19 (by kernel_rfl) cc19 cr19 rfl fun hf => ?_; unfold ck19
  have hlt := bx_lt' hf hr
  have hlt2 := rw_lt hf hk
  simp only [go_sem, ↓reduceIte, Nat.reduceEqDiff, Nat.reduceBEq, Nat.reduceAdd, Nat.reduceLeDiff, Nat.reduceLT, reduceCtorEq, Nat.reduceMul, Nat.reduceSub, Int.reduceEq, Int.reduceLT, Int.reduceLE, Int.reduceToNat]
  refine vcCall.f (hM _ (by (simp (disch := omega) only [ite_ne, hr, go_sem, ↓reduceIte, Nat.reduceEqDiff, Nat.reduceBEq, Nat.reduceAdd, Nat.reduceLeDiff, Nat.reduceLT, reduceCtorEq, Nat.reduceMul, Nat.reduceSub, Int.reduceEq, Int.reduceLT, Int.reduceLE, Int.reduceToNat])) _) ?_
  simp (disch := omega) only [ite_ne, hr, go_sem, ↓reduceIte, Nat.reduceEqDiff, Nat.reduceBEq, Nat.reduceAdd, Nat.reduceLeDiff, Nat.reduceLT, reduceCtorEq, Nat.reduceMul, Nat.reduceSub, Int.reduceEq, Int.reduceLT, Int.reduceLE, Int.reduceToNat]
  refine loop (fun q : Nat × List Int × Nat × Nat × Nat => ⟨[(0, .bx r 0), (3, .rw q.2.2.1 q.2.2.2.1 q.2.1.length), (4, .i .i64 q.1)], (q.2.2.1, .rw q.2.2.2.1 1 (mapC in1 q.2.1)) :: hp, q.2.2.2.2⟩)
    (fun q => q.1 ≤ S.length ∧ (m ≤ q.2.2.1 ∧ q.2.2.1 < q.2.2.2.2) ∧ q.2.1 = liveR (S.take q.1)) (fun q => S.length - q.1) (0, [], m, 0, m + 1) ?_ ?_ (fun ⟨j, O, kO, gO, n⟩ hj => ?_)
  · exact ⟨by simp, ⟨by simp, by simp⟩, rfl⟩
  · refine (weak_e0 (t := 3) (m := 1) ?_).trans (weak_ok ?_ (Sub.refl _) (Nat.le_refl _))
    all_goals (simp (disch := omega) only [ite_ne, go_sem, ↓reduceIte, Nat.reduceEqDiff, Nat.reduceBEq, Nat.reduceAdd, Nat.reduceLeDiff, Nat.reduceLT, reduceCtorEq, Nat.reduceMul, Nat.reduceSub, Int.reduceEq, Int.reduceLT, Int.reduceLE, Int.reduceToNat])
    all_goals rfl
  dsimp only at hj
  obtain ⟨hj1, ⟨hj2, hj3⟩, hj4⟩ := hj
  have hrm : ¬ kO = r := by omega
  have hkm : ¬ kO = kS := by omega
  simp (disch := omega) only [ite_ne, hr, hk, hrm, hkm, hSl, htS, Nat.le_refl, go_sem, ↓reduceIte, Nat.reduceEqDiff, Nat.reduceBEq, Nat.reduceAdd, Nat.reduceLeDiff, Nat.reduceLT, reduceCtorEq, Nat.reduceMul, Nat.reduceSub, Int.reduceEq, Int.reduceLT, Int.reduceLE, Int.reduceToNat]
  refine cdK_of (fun q => ?_) (fun q => ?_)
  · have q : j < S.length := by simpa using q
    obtain ⟨x, ex⟩ : ∃ x, S[j]? = some x := ⟨S[j], by simp [q]⟩
    have ha := hasc j
    have hl := hlen j
    have hs := hstep j x ex
    rw [← hj4] at ha hl hs
    rw [List.length_take] at hl
    have hpo := posI_lt x O ha
    have hple := posI_le x O
    obtain ⟨p, hp0⟩ : ∃ p, posI x O = p := ⟨_, rfl⟩
    rw [hp0] at hpo hple hs
    have hOl : (mapC in1 O).length = O.length := mapC_len _ _
    have htO : (mapC in1 O).take O.length = mapC in1 O := List.take_of_length_le (by omega)
    simp (disch := omega) only [ite_ne, q, go_sem, ↓reduceIte, Nat.reduceEqDiff, Nat.reduceBEq, Nat.reduceAdd, Nat.reduceLeDiff, Nat.reduceLT, reduceCtorEq, Nat.reduceMul, Nat.reduceSub, Int.reduceEq, Int.reduceLT, Int.reduceLE, Int.reduceToNat]
    refine loop (fun q : Nat × Nat => ⟨[(0, .bx r 0), (3, .rw kO gO O.length), (4, .i .i64 j), (5, .rw n q.1 q.1), (6, .i .i64 q.1)], (n, .rw q.1 1 (mapC in1 (O.take q.1))) :: (kO, .rw gO 1 (mapC in1 O)) :: hp, q.2⟩)
      (fun q => q.1 ≤ p ∧ n + 1 ≤ q.2) (fun q => p - q.1) (0, n + 1) ?_ ?_ (fun ⟨k, n2⟩ hk2 => ?_)
    · exact ⟨Nat.zero_le _, Nat.le_refl _⟩
    · refine (weak_e0 (t := 5) (m := 1) ?_).trans (weak_ok ?_ (Sub.refl _) (Nat.le_refl _))
      all_goals (simp (disch := omega) only [ite_ne, go_sem, ↓reduceIte, Nat.reduceEqDiff, Nat.reduceBEq, Nat.reduceAdd, Nat.reduceLeDiff, Nat.reduceLT, reduceCtorEq, Nat.reduceMul, Nat.reduceSub, Int.reduceEq, Int.reduceLT, Int.reduceLE, Int.reduceToNat])
      all_goals rfl
    dsimp only at hk2
    obtain ⟨hk3, hk4⟩ := hk2
    have c1 : ¬ n = kO := by omega
    have c2 : ¬ kO = n := by omega
    have c3 : ¬ n = r := by omega
    have c4 : ¬ n = kS := by omega
    by_cases hkp : k < p
    · have hkO : k < O.length := by omega
      obtain ⟨y, ey⟩ : ∃ y, O[k]? = some y := ⟨O[k], by simp [hkO]⟩
      have hyx : decide (y < x) = true := decide_eq_true ((hpo k y ey).2 hkp)
      have d1 : decide ((k : Int) < (O.length : Int)) = true := decide_eq_true (by omega)
      have htk : (mapC in1 (O.take k)).length = k := by rw [mapC_len, List.length_take]; omega
      have htt : (mapC in1 (O.take k)).take k = mapC in1 (O.take k) := List.take_of_length_le (by omega)
      have k1 : (k + 1) * 8 ≤ 140737488355328 := by omega
      have k2 : k + 1 ≤ 9223372036854775807 := by omega
      have hsn : mapC in1 (O.take k) ++ [[.i .i64 y]] = mapC in1 (O.take (k + 1)) := by rw [← take_snoc ey]; exact mapC_snoc in1 _ _
      have g1 : (mapC in1 O)[k]? = some [.i .i64 y] := mapC_get in1 ey
      have g2 : (mapC in1 S)[j]? = some [.i .i64 x] := mapC_get in1 ex
      simp (disch := omega) only [ite_ne, hr, hk, g1, g2, hrm, hkm, hSl, htS, Nat.le_refl, c1, c2, c3, c4, hOl, htO, hkO, q, d1, hyx, getK_s (mapC_get in1 ey), getK_s (mapC_get in1 ex), htk, htt, k1, k2, hsn, go_sem, ↓reduceIte, Nat.reduceEqDiff, Nat.reduceBEq, Nat.reduceAdd, Nat.reduceLeDiff, Nat.reduceLT, reduceCtorEq, Nat.reduceMul, Nat.reduceSub, Int.reduceEq, Int.reduceLT, Int.reduceLE, Int.reduceToNat]
      refine ⟨(k + 1, _), ⟨by dsimp only; omega, by dsimp only; omega⟩, by dsimp only; omega, weak_ok ?_ (SubX.sub (SubX.cons ?_ (SubX.cons ?_ (SubX.base hf fun a ha hax => ?_)))) (Nat.le_refl _)⟩
      · simp (disch := omega) only [ite_ne, wr64s k (by omega), go_sem, ↓reduceIte, Nat.reduceEqDiff, Nat.reduceBEq, Nat.reduceAdd, Nat.reduceLeDiff, Nat.reduceLT, reduceCtorEq, Nat.reduceMul, Nat.reduceSub, Int.reduceEq, Int.reduceLT, Int.reduceLE, Int.reduceToNat]
      · simp (disch := omega) only [ite_ne, hsn, go_sem, ↓reduceIte, Nat.reduceEqDiff, Nat.reduceBEq, Nat.reduceAdd, Nat.reduceLeDiff, Nat.reduceLT, reduceCtorEq, Nat.reduceMul, Nat.reduceSub, Int.reduceEq, Int.reduceLT, Int.reduceLE, Int.reduceToNat]
      · simp (disch := omega) only [ite_ne, c1, c2, go_sem, ↓reduceIte, Nat.reduceEqDiff, Nat.reduceBEq, Nat.reduceAdd, Nat.reduceLeDiff, Nat.reduceLT, reduceCtorEq, Nat.reduceMul, Nat.reduceSub, Int.reduceEq, Int.reduceLT, Int.reduceLE, Int.reduceToNat]
      · repeat rw [gc_ne _ _ (by omega)]
    · obtain rfl : k = p := by omega
      have g2 : (mapC in1 S)[j]? = some [.i .i64 x] := mapC_get in1 ex
      have htk : (mapC in1 (O.take k)).length = k := by rw [mapC_len, List.length_take]; omega
      have htt : (mapC in1 (O.take k)).take k = mapC in1 (O.take k) := List.take_of_length_le (by omega)
      have k1 : (k + 1) * 8 ≤ 140737488355328 := by omega
      have k2 : k + 1 ≤ 9223372036854775807 := by omega
      have hsn : mapC in1 (O.take k) ++ [[.i .i64 x]] = mapC in1 (O.take k ++ [x]) := mapC_snoc in1 _ _
      obtain ⟨N, hN⟩ : ∃ N, O.length - k = N := ⟨_, rfl⟩
      have hle : k + N ≤ O.length := by omega
      have htk3 : List.take N (List.drop k O) = List.drop k O := List.take_of_length_le (by rw [List.length_drop]; omega)
      have hln2 : (mapC in1 (List.drop k O)).length = N := by rw [mapC_len, List.length_drop]; exact hN
      have hall : ∀ e ∈ mapC in1 O, e.length = 1 := fun e he => mapC_all (c := in1) (n := 1) (fun _ => rfl) e he
      have k3 : (k + 1 + N) * 8 ≤ 140737488355328 := by omega
      have k4 : k + 1 + N ≤ 9223372036854775807 := by omega
      have hlt5 : (mapC in1 (O.take k ++ [x])).length = k + 1 := by rw [mapC_len, List.length_append, List.length_take]; simp; omega
      have htt5 : (mapC in1 (O.take k ++ [x])).take (k + 1) = mapC in1 (O.take k ++ [x]) := List.take_of_length_le (by omega)
      have hcat : mapC in1 (O.take k ++ [x]) ++ mapC in1 (O.drop k) = mapC in1 (insL O k x) := by rw [mapC_cat, List.append_assoc]; rfl
      have hil : k + 1 + N = (insL O k x).length := by rw [insL_len hple]; omega
      have z1 : (k : Int) ≤ (O.length : Int) := by omega
      cases ek : O[k]? with
      | none =>
        have hge : O.length ≤ k := by simpa using ek
        have d1 : decide ((k : Int) < (O.length : Int)) = false := decide_eq_false (by omega)
        have g1 : (mapC in1 O)[k]? = none := by simp [mapC, ek]
        simp (disch := omega) only [ite_ne, hr, hk, g1, g2, hrm, hkm, hSl, htS, Nat.le_refl, c1, c2, c3, c4, hOl, htO, q, d1, getK_s (mapC_get in1 ex), htk, htt, k1, k2, hsn, go_sem, ↓reduceIte, Nat.reduceEqDiff, Nat.reduceBEq, Nat.reduceAdd, Nat.reduceLeDiff, Nat.reduceLT, reduceCtorEq, Nat.reduceMul, Nat.reduceSub, Int.reduceEq, Int.reduceLT, Int.reduceLE, Int.reduceToNat]
        refine ⟨⟨⟨z1, Int.le_refl _⟩, hall⟩, ?_⟩
        clear g1 ek d1
        cases k with
        | zero =>
          have hN' : N = O.length := by omega
          subst hN'
          have hdz : List.drop 0 O = O := rfl
          rw [hdz] at hcat hln2
          simp (disch := omega) only [ite_ne, c1, c2, Nat.le_refl, hOl, htO, k3, k4, hlt5, htt5, hcat, hln2, go_sem, ↓reduceIte, Nat.reduceEqDiff, Nat.reduceBEq, Nat.reduceAdd, Nat.reduceLeDiff, Nat.reduceLT, reduceCtorEq, Nat.reduceMul, Nat.reduceSub, Int.reduceEq, Int.reduceLT, Int.reduceLE, Int.reduceToNat]
          have hil2 : 1 + O.length = (insL O 0 x).length := by rw [← hil] <;> omega
          have hcz : [AV.i .i64 x] :: mapC in1 O = mapC in1 (insL O 0 x) := rfl
          refine ⟨(j + 1, insL O 0 x, n, 2, _), ⟨by dsimp only; omega, ⟨by dsimp only; omega, by dsimp only; omega⟩, hs.symm⟩, by dsimp only; omega, weak_ok ?_ (SubX.sub (SubX.cons ?_ (SubX.base hf fun a ha hax => ?_))) (Nat.le_refl _)⟩
          · simp (disch := omega) only [ite_ne, wr64s j (by omega), hil2, go_sem, ↓reduceIte, Nat.reduceEqDiff, Nat.reduceBEq, Nat.reduceAdd, Nat.reduceLeDiff, Nat.reduceLT, reduceCtorEq, Nat.reduceMul, Nat.reduceSub, Int.reduceEq, Int.reduceLT, Int.reduceLE, Int.reduceToNat]
          · simp (disch := omega) only [ite_ne, hcz, go_sem, ↓reduceIte, Nat.reduceEqDiff, Nat.reduceBEq, Nat.reduceAdd, Nat.reduceLeDiff, Nat.reduceLT, reduceCtorEq, Nat.reduceMul, Nat.reduceSub, Int.reduceEq, Int.reduceLT, Int.reduceLE, Int.reduceToNat]
          · repeat rw [gc_ne _ _ (by omega)]
        | succ k =>
          have g3 : k + (1 + N) ≤ O.length := by omega
          have g4 : (k + (2 + N)) * 8 ≤ 140737488355328 := by omega
          have g5 : k + (2 + N) ≤ 9223372036854775807 := by omega
          have g6 : (mapC in1 (O.take (k + 1) ++ [x])).length = k + 2 := hlt5
          have g7 : (mapC in1 (O.take (k + 1) ++ [x])).take (k + 2) = mapC in1 (O.take (k + 1) ++ [x]) := htt5
          simp (disch := omega) only [ite_ne, c1, c2, hN, hle, htk3, hln2, k3, k4, hlt5, htt5, hcat, g3, g4, g5, g6, g7, go_sem, ↓reduceIte, Nat.reduceEqDiff, Nat.reduceBEq, Nat.reduceAdd, Nat.reduceLeDiff, Nat.reduceLT, reduceCtorEq, Nat.reduceMul, Nat.reduceSub, Int.reduceEq, Int.reduceLT, Int.reduceLE, Int.reduceToNat]
          have hil2 : k + (2 + N) = (insL O (k + 1) x).length := by rw [← hil] <;> omega
          refine ⟨(j + 1, insL O (k + 1) x, n, k + 3, _), ⟨by dsimp only; omega, ⟨by dsimp only; omega, by dsimp only; omega⟩, hs.symm⟩, by dsimp only; omega, weak_ok ?_ (SubX.sub (SubX.cons ?_ (SubX.base hf fun a ha hax => ?_))) (Nat.le_refl _)⟩
          · simp (disch := omega) only [ite_ne, wr64s j (by omega), hil2, go_sem, ↓reduceIte, Nat.reduceEqDiff, Nat.reduceBEq, Nat.reduceAdd, Nat.reduceLeDiff, Nat.reduceLT, reduceCtorEq, Nat.reduceMul, Nat.reduceSub, Int.reduceEq, Int.reduceLT, Int.reduceLE, Int.reduceToNat]
          · simp (disch := omega) only [ite_ne, hcat, go_sem, ↓reduceIte, Nat.reduceEqDiff, Nat.reduceBEq, Nat.reduceAdd, Nat.reduceLeDiff, Nat.reduceLT, reduceCtorEq, Nat.reduceMul, Nat.reduceSub, Int.reduceEq, Int.reduceLT, Int.reduceLE, Int.reduceToNat]
          · repeat rw [gc_ne _ _ (by omega)]
      | some y =>
        have hkO : k < O.length := (List.getElem?_eq_some_iff.1 ek).1
        have d1 : decide ((k : Int) < (O.length : Int)) = true := decide_eq_true (by omega)
        have hyx : decide (y < x) = false := decide_eq_false (fun z => by have := (hpo k y ek).1 z; omega)
        have g1 : (mapC in1 O)[k]? = some [.i .i64 y] := mapC_get in1 ek
        simp (disch := omega) only [ite_ne, hr, hk, g1, g2, hrm, hkm, hSl, htS, Nat.le_refl, c1, c2, c3, c4, hOl, htO, hkO, q, d1, hyx, getK_s (mapC_get in1 ek), getK_s (mapC_get in1 ex), htk, htt, k1, k2, hsn, go_sem, ↓reduceIte, Nat.reduceEqDiff, Nat.reduceBEq, Nat.reduceAdd, Nat.reduceLeDiff, Nat.reduceLT, reduceCtorEq, Nat.reduceMul, Nat.reduceSub, Int.reduceEq, Int.reduceLT, Int.reduceLE, Int.reduceToNat]
        refine ⟨⟨⟨z1, Int.le_refl _⟩, hall⟩, ?_⟩
        clear g1 ek d1
        cases k with
        | zero =>
          have hN' : N = O.length := by omega
          subst hN'
          have hdz : List.drop 0 O = O := rfl
          rw [hdz] at hcat hln2
          simp (disch := omega) only [ite_ne, c1, c2, Nat.le_refl, hOl, htO, k3, k4, hlt5, htt5, hcat, hln2, go_sem, ↓reduceIte, Nat.reduceEqDiff, Nat.reduceBEq, Nat.reduceAdd, Nat.reduceLeDiff, Nat.reduceLT, reduceCtorEq, Nat.reduceMul, Nat.reduceSub, Int.reduceEq, Int.reduceLT, Int.reduceLE, Int.reduceToNat]
          have hil2 : 1 + O.length = (insL O 0 x).length := by rw [← hil] <;> omega
          have hcz : [AV.i .i64 x] :: mapC in1 O = mapC in1 (insL O 0 x) := rfl
          refine ⟨(j + 1, insL O 0 x, n, 2, _), ⟨by dsimp only; omega, ⟨by dsimp only; omega, by dsimp only; omega⟩, hs.symm⟩, by dsimp only; omega, weak_ok ?_ (SubX.sub (SubX.cons ?_ (SubX.base hf fun a ha hax => ?_))) (Nat.le_refl _)⟩
          · simp (disch := omega) only [ite_ne, wr64s j (by omega), hil2, go_sem, ↓reduceIte, Nat.reduceEqDiff, Nat.reduceBEq, Nat.reduceAdd, Nat.reduceLeDiff, Nat.reduceLT, reduceCtorEq, Nat.reduceMul, Nat.reduceSub, Int.reduceEq, Int.reduceLT, Int.reduceLE, Int.reduceToNat]
          · simp (disch := omega) only [ite_ne, hcz, go_sem, ↓reduceIte, Nat.reduceEqDiff, Nat.reduceBEq, Nat.reduceAdd, Nat.reduceLeDiff, Nat.reduceLT, reduceCtorEq, Nat.reduceMul, Nat.reduceSub, Int.reduceEq, Int.reduceLT, Int.reduceLE, Int.reduceToNat]
          · repeat rw [gc_ne _ _ (by omega)]
        | succ k =>
          have g3 : k + (1 + N) ≤ O.length := by omega
          have g4 : (k + (2 + N)) * 8 ≤ 140737488355328 := by omega
          have g5 : k + (2 + N) ≤ 9223372036854775807 := by omega
          have g6 : (mapC in1 (O.take (k + 1) ++ [x])).length = k + 2 := hlt5
          have g7 : (mapC in1 (O.take (k + 1) ++ [x])).take (k + 2) = mapC in1 (O.take (k + 1) ++ [x]) := htt5
          simp (disch := omega) only [ite_ne, c1, c2, hN, hle, htk3, hln2, k3, k4, hlt5, htt5, hcat, g3, g4, g5, g6, g7, go_sem, ↓reduceIte, Nat.reduceEqDiff, Nat.reduceBEq, Nat.reduceAdd, Nat.reduceLeDiff, Nat.reduceLT, reduceCtorEq, Nat.reduceMul, Nat.reduceSub, Int.reduceEq, Int.reduceLT, Int.reduceLE, Int.reduceToNat]
          have hil2 : k + (2 + N) = (insL O (k + 1) x).length := by rw [← hil] <;> omega
          refine ⟨(j + 1, insL O (k + 1) x, n, k + 3, _), ⟨by dsimp only; omega, ⟨by dsimp only; omega, by dsimp only; omega⟩, hs.symm⟩, by dsimp only; omega, weak_ok ?_ (SubX.sub (SubX.cons ?_ (SubX.base hf fun a ha hax => ?_))) (Nat.le_refl _)⟩
          · simp (disch := omega) only [ite_ne, wr64s j (by omega), hil2, go_sem, ↓reduceIte, Nat.reduceEqDiff, Nat.reduceBEq, Nat.reduceAdd, Nat.reduceLeDiff, Nat.reduceLT, reduceCtorEq, Nat.reduceMul, Nat.reduceSub, Int.reduceEq, Int.reduceLT, Int.reduceLE, Int.reduceToNat]
          · simp (disch := omega) only [ite_ne, hcat, go_sem, ↓reduceIte, Nat.reduceEqDiff, Nat.reduceBEq, Nat.reduceAdd, Nat.reduceLeDiff, Nat.reduceLT, reduceCtorEq, Nat.reduceMul, Nat.reduceSub, Int.reduceEq, Int.reduceLT, Int.reduceLE, Int.reduceToNat]
          · repeat rw [gc_ne _ _ (by omega)]
  · have q : j = S.length := by simp at q; omega
    subst q
    rw [List.take_length, hR] at hj4
    subst hj4
    have hOl : (mapC in1 O).length = O.length := mapC_len _ _
    have htO : (mapC in1 O).take O.length = mapC in1 O := List.take_of_length_le (by omega)
    simp (disch := omega) only [ite_ne, hOl, htO, Nat.le_refl, go_sem, ↓reduceIte, Nat.reduceEqDiff, Nat.reduceBEq, Nat.reduceAdd, Nat.reduceLeDiff, Nat.reduceLT, reduceCtorEq, Nat.reduceMul, Nat.reduceSub, Int.reduceEq, Int.reduceLT, Int.reduceLE, Int.reduceToNat]
    try rfl
end Go.Proofs.Ytdodiembhgjecaa
