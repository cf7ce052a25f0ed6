/-
  The parts CmI of the proof, in one file. Conditions: none.
-/
import Derived.Test.YtgollgfifnmaaaaDoorCmS137
namespace Go.Proofs.YtgollgfifnmaaaaDoor
open Go.Eng
set_option linter.unusedVariables false
set_option linter.unusedSimpArgs false
set_option maxRecDepth 20000
set_option maxHeartbeats 1000000
/-- The elements so far. -/
noncomputable def lsD (fs : List CFn) (tn : ByteArray) (tw : List Int) (picks : List Pk) (path : List Val) (j : Nat) : List CRes := lsR (fs.take j) 0 tn tw picks path
noncomputable def lsP (fs : List CFn) (tn : ByteArray) (tw : List Int) (picks : List Pk) (path : List Val) (j : Nat) : List Prb := (lsD fs tn tw picks path j).flatMap (·.2)
noncomputable def lsO (fs : List CFn) (tn : ByteArray) (tw : List Int) (picks : List Pk) (path : List Val) (j : Nat) : List Val := (lsD fs tn tw picks path j).map (·.1)
noncomputable def lsL (fs : List CFn) (tn : ByteArray) (tw : List Int) (picks : List Pk) (path : List Val) (j : Nat) : Bool := (lsD fs tn tw picks path j).any fun r => lostB tw r.1
section
variable {fs : List CFn} {tn : ByteArray} {tw : List Int} {picks : List Pk} {path : List Val}
theorem lsD_step {j : Nat} {f : CFn} (h : fs[j]? = some f) : lsD fs tn tw picks path (j + 1) = lsD fs tn tw picks path j ++ [f tn tw picks (path ++ [inV (j : Nat)])] := by
  unfold lsD
  have hj : (fs.take j).length = j := by have := (List.getElem?_eq_some_iff.1 h).1; simp; omega
  rw [← take_snoc h, lsR_snoc, hj, Nat.zero_add]
theorem lsP_step {j : Nat} {f : CFn} (h : fs[j]? = some f) : lsP fs tn tw picks path (j + 1) = lsP fs tn tw picks path j ++ (f tn tw picks (path ++ [inV (j : Nat)])).2 := by
  unfold lsP
  rw [lsD_step h, List.flatMap_append]
  simp
theorem lsO_step {j : Nat} {f : CFn} (h : fs[j]? = some f) : lsO fs tn tw picks path (j + 1) = lsO fs tn tw picks path j ++ [(f tn tw picks (path ++ [inV (j : Nat)])).1] := by
  unfold lsO
  rw [lsD_step h, List.map_append]
  rfl
theorem lsL_step {j : Nat} {f : CFn} (h : fs[j]? = some f) : lsL fs tn tw picks path (j + 1) = (lsL fs tn tw picks path j || lostB tw (f tn tw picks (path ++ [inV (j : Nat)])).1) := by
  unfold lsL
  rw [lsD_step h, List.any_append]
  simp
theorem lsO_len {j : Nat} (h : j ≤ fs.length) : (lsO fs tn tw picks path j).length = j := by
  unfold lsO lsD
  rw [List.length_map, lsR_len, List.length_take]
  omega
theorem lsP_le : ∀ {k : Nat} {j : Nat}, j + k = fs.length → (lsP fs tn tw picks path j).length ≤ (lsP fs tn tw picks path fs.length).length
  | 0, j, h => by rw [show j = fs.length by omega]; exact Nat.le_refl _
  | k + 1, j, h => by
    have e : fs[j]? = some (fs[j]'(by omega)) := by simp [show j < fs.length by omega]
    have := lsP_le (k := k) (j := j + 1) (by omega)
    rw [lsP_step e, List.length_append] at this
    omega
theorem listR_eq : listR fs tn tw picks path = (if lsL fs tn tw picks path fs.length = true then zVal else liV (lsO fs tn tw picks path fs.length), lsP fs tn tw picks path fs.length) := by
  unfold listR lsL lsO lsP lsD
  rw [List.take_length]
end
theorem Int_ok (n : Int) (hp : CH) (m : Nat) : MeetsF Tryd.prog 61 hp m [.i .i64 n] (vx (inV n)) := by
  refine meetsF Tryd.func61 (by kernel_rfl) cc61 cr61 rfl fun hf => ?_; unfold ck61
  simp only [go_sem, ↓reduceIte, Nat.reduceEqDiff, Nat.reduceBEq, Nat.reduceAdd, Nat.reduceLeDiff, Nat.reduceLT, reduceCtorEq, Nat.reduceMul, Nat.reduceSub, Int.reduceEq, Int.reduceLT, Int.reduceLE, Int.reduceToNat]
  rfl
theorem Text_ok (s : ByteArray) (hp : CH) (m : Nat) : MeetsF Tryd.prog 47 hp m [.s s] (vx (txV s)) := by
  refine meetsF Tryd.func47 (by kernel_rfl) cc47 cr47 rfl fun hf => ?_; unfold ck47
  simp only [go_sem, ↓reduceIte, Nat.reduceEqDiff, Nat.reduceBEq, Nat.reduceAdd, Nat.reduceLeDiff, Nat.reduceLT, reduceCtorEq, Nat.reduceMul, Nat.reduceSub, Int.reduceEq, Int.reduceLT, Int.reduceLE, Int.reduceToNat]
  rfl
theorem take_vals (l : List Val) : (mapC valC l).take l.length = mapC valC l := by rw [mapC_take, List.take_length]
theorem le_self (n : Nat) : (n ≤ n) = True := eq_true (Nat.le_refl n)
theorem take_more (l : List Val) (x : Val) : (mapC valC (l ++ [x])).take l.length = mapC valC l := by rw [mapC_take, List.take_left' rfl]
theorem list_of (doc : List Dfn) (v : Val) (hv : v.Fit) (h : ∀ x ∈ v.items, CplK doc x) : LstK doc v := by
  intro tn tw picks path htw hpk hwt hp c km kp gp P kq gq cap len n hR hq hl hP
  subst hl
  rw [listR_eq] at hP ⊢
  have hlen := hv.i
  have hfl : (v.items.map (cplV doc)).length = v.items.length := by simp
  rw [hfl] at hP ⊢
  obtain ⟨fs, hfs⟩ : ∃ fs, v.items.map (cplV doc) = fs := ⟨_, rfl⟩
  rw [hfs] at hP hfl ⊢
  dsimp only at hP ⊢
  have hPle : ∀ j, j ≤ v.items.length → (lsP fs tn tw picks path j).length ≤ (lsP fs tn tw picks path v.items.length).length := fun j hj => by
    have := lsP_le (fs := fs) (tn := tn) (tw := tw) (picks := picks) (path := path) (k := v.items.length - j) (j := j) (by omega)
    rwa [hfl] at this
  obtain ⟨RP, hRP⟩ : ∃ RP, lsP fs tn tw picks path v.items.length = RP := ⟨_, rfl⟩
  obtain ⟨RV, hRV⟩ : ∃ RV, (if lsL fs tn tw picks path v.items.length = true then zVal else liV (lsO fs tn tw picks path v.items.length)) = RV := ⟨_, rfl⟩
  rw [hRP] at hP hPle ⊢
  rw [hRV]
  simp only [List.cons_append, List.nil_append]
  have hWS : (∀ k, n ≤ k → gc hp k = .no) → wsLt n (wsC doc (posF doc) c km kp gp P RP) := fun hf => hR.wsLt hf
  have n1 := hR.n1
  have n2 := hR.n2
  have n3 := hR.n3
  have q1 : kq ≠ c := fun e => by have := hR.hc; rw [← e, hq] at this; cases this
  have q2 : kq ≠ km := fun e => by have := hR.hm; rw [← e, hq] at this; cases this
  have q3 : kq ≠ kp := fun e => by have := hR.hk; rw [← e, hq] at this; cases this
  have hc := hR.hc
  have hm := hR.hm
  have hk := hR.hk
  refine meetsW Tryd.func75 (by kernel_rfl) cc75 cr75 rfl hWS fun hf => ?_; unfold ck75
  obtain ⟨l1, l2, l3⟩ := hR.lt hf
  have l4 : kq < n := free_lt hf hq (fun e => by cases e)
  simp (disch := omega) only [ite_ne, go_sem, ↓reduceIte, Nat.reduceEqDiff, Nat.reduceBEq, Nat.reduceAdd, Nat.reduceLeDiff, Nat.reduceLT, reduceCtorEq, Nat.reduceMul, Nat.reduceSub, Int.reduceEq, Int.reduceLT, Int.reduceLE, Int.reduceToNat]
  refine loop (fun p : Nat × Nat => ⟨[(0, .bx c 0), (2, .ds (mapC pkC picks)), (3, .rw kq gq path.length), (6, .bx n 0), (10, .bx (n + 2) 0), (11, .bx (n + 3) 0), (12, .b (lsL fs tn tw picks path p.1)), (19, .ds (mapC valC v.items)), (20, .i .i64 v.items.length), (21, .i .i64 p.1)],
      (n + 3, .bx [.i .i64 5, .i .i64 0, .s ⟨#[]⟩, .rw (n + 4) p.1 p.1, .e0]) :: (n + 4, .rw p.1 5 (mapC valC (lsO fs tn tw picks path p.1))) :: (n + 2, .bx [.i .i64 0, .i .i64 0, .s ⟨#[]⟩, .e0, .e0]) :: (n, .bx [.s tn, .ds (mapC in1 tw)]) ::
      (kq, .rc gq 5 cap (mapC valC path)) :: (kp, .rw (gp + (lsP fs tn tw picks path p.1).length) 2 (mapC prbC (P ++ lsP fs tn tw picks path p.1))) :: (c, .bx [.ds (mapC dfC doc), .mp km, .rw kp (gp + (lsP fs tn tw picks path p.1).length) (P.length + (lsP fs tn tw picks path p.1).length)]) :: (km, .mq (posF doc)) :: hp, p.2⟩)
    (fun p => p.1 ≤ v.items.length ∧ n + 5 ≤ p.2) (fun p => v.items.length - p.1) (0, n + 5) ?_ ?_ (fun ⟨j, k⟩ hj => ?_)
  · exact ⟨by simp, by simp⟩
  · refine (weak_b0 (c := n + 3) (i := 3) (m := 5) (cs := [.i .i64 5, .i .i64 0, .s ⟨#[]⟩, .e0, .e0]) ?_ rfl).trans (weak_ok ?_ (SubX.sub (SubX.cons ?_ (SubX.cons ?_ (SubX.cons ?_ (SubX.cons ?_ (SubX.cons ?_ (SubX.cons ?_ (SubX.cons ?_ (SubX.cons ?_ (SubX.base hf fun i hi hx => ?_)))))))))) (Nat.le_refl _))
    all_goals first
      | (simp only [List.mem_cons, List.not_mem_nil, or_false, not_or] at hx
         simp only [gc_cons]
         repeat rw [if_neg (by omega)]
         done)
      | ((simp (disch := omega) only [ite_ne, lsP, lsO, lsL, lsD, lsR, List.take_zero, List.flatMap_nil, List.map_nil, List.append_nil, hq, hc, hk, hm, go_sem, ↓reduceIte, Nat.reduceEqDiff, Nat.reduceBEq, Nat.reduceAdd, Nat.reduceLeDiff, Nat.reduceLT, reduceCtorEq, Nat.reduceMul, Nat.reduceSub, Int.reduceEq, Int.reduceLT, Int.reduceLE, Int.reduceToNat])
         first | done | rfl | (simp; done))
  dsimp only at hj
  obtain ⟨hj1, hj2⟩ := hj
  have oL : (lsO fs tn tw picks path j).length = j := lsO_len (by omega)
  simp (disch := omega) only [ite_ne, oL, go_sem, ↓reduceIte, Nat.reduceEqDiff, Nat.reduceBEq, Nat.reduceAdd, Nat.reduceLeDiff, Nat.reduceLT, reduceCtorEq, Nat.reduceMul, Nat.reduceSub, Int.reduceEq, Int.reduceLT, Int.reduceLE, Int.reduceToNat]
  refine cdK_of (fun q => ?_) (fun q => ?_)
  · have q : j < v.items.length := by simpa using q
    obtain ⟨x, ex⟩ : ∃ x, v.items[j]? = some x := ⟨v.items[j], by simp [q]⟩
    have hx := h x (List.mem_of_getElem? ex)
    have ef : fs[j]? = some (cplV doc x) := by rw [← hfs, List.getElem?_map, ex]; rfl
    have e1 := lsP_step (tn := tn) (tw := tw) (picks := picks) (path := path) ef
    have e2 := lsO_step (tn := tn) (tw := tw) (picks := picks) (path := path) ef
    have e3 := lsL_step (tn := tn) (tw := tw) (picks := picks) (path := path) ef
    have hle := hPle (j + 1) (by omega)
    have hwx : wtV x < wtV v := by have := wtL_mem (List.mem_of_getElem? ex); rw [wtV_eq v]; omega
    have hD := hx tn tw picks (path ++ [inV (j : Nat)]) htw hpk (by simp; omega)
    rw [e1, List.length_append] at hle
    obtain ⟨X, hX⟩ : ∃ X, cplV doc x tn tw picks (path ++ [inV (j : Nat)]) = X := ⟨_, rfl⟩
    rw [hX] at hD e1 e2 e3 hle
    have hjm : (1 : Int) ≤ 1 := Int.le_refl 1
    by_cases hcap : path.length + 1 ≤ cap
    · simp (disch := omega) only [ite_ne, q, getK_s (mapC_get valC ex), go_sem, ↓reduceIte, Nat.reduceEqDiff, Nat.reduceBEq, Nat.reduceAdd, Nat.reduceLeDiff, Nat.reduceLT, reduceCtorEq, Nat.reduceMul, Nat.reduceSub, Int.reduceEq, Int.reduceLT, Int.reduceLE, Int.reduceToNat]
      refine dCallR.f (fun _ hp' e => Int_ok j _ _) ?_
      simp (disch := omega) only [ite_ne, hcap, take_vals, le_self, go_sem, ↓reduceIte, Nat.reduceEqDiff, Nat.reduceBEq, Nat.reduceAdd, Nat.reduceLeDiff, Nat.reduceLT, reduceCtorEq, Nat.reduceMul, Nat.reduceSub, Int.reduceEq, Int.reduceLT, Int.reduceLE, Int.reduceToNat]
      refine ⟨⟨by omega, by omega⟩, by omega, by omega, dCallR.w (ws := wsC doc (posF doc) c km kp (gp + (lsP fs tn tw picks path j).length) (P ++ lsP fs tn tw picks path j) X.2) (wsOk_wsC ⟨?_, ?_, ?_⟩ (by omega) (by omega) (by omega)) rfl
        (fun hp' e => hD hp' c km kp _ (P ++ lsP fs tn tw picks path j) kq gq cap (path.length + 1) _ ⟨(e c (.inl (by omega))).trans ?_, (e km (.inl (by omega))).trans ?_, (e kp (.inl (by omega))).trans ?_⟩ ((e kq (.inl (by omega))).trans ?_) (by simp) (by rw [List.length_append]; omega)) ?_⟩
      case refine_8 =>
        simp only [wsC, List.cons_append, List.nil_append]
        simp (disch := omega) only [ite_ne, oL, go_sem, ↓reduceIte, Nat.reduceEqDiff, Nat.reduceBEq, Nat.reduceAdd, Nat.reduceLeDiff, Nat.reduceLT, reduceCtorEq, Nat.reduceMul, Nat.reduceSub, Int.reduceEq, Int.reduceLT, Int.reduceLE, Int.reduceToNat]
        refine ⟨⟨⟨by omega, by omega, by omega⟩, ⟨by omega, by omega⟩, by omega⟩, by omega, by omega, (j + 1, _), ⟨by dsimp only; omega, by dsimp only; omega⟩, by dsimp only; omega, (weak_rc (k := kq) (g := gq) (m := 5) (cap := cap) (l := mapC valC (path ++ [inV (j : Nat)])) (len := path.length) ?_ (by rw [mapC_len]; simp)).trans
          (weak_ok ?_ (SubX.sub (SubX.cons ?_ (SubX.cons ?_ (SubX.cons ?_ (SubX.cons ?_ (SubX.cons ?_ (SubX.cons ?_ (SubX.cons ?_ (SubX.cons ?_ (SubX.base hf fun i hi hx => ?_)))))))))) (Nat.le_refl _))⟩
        all_goals first
          | (simp only [List.mem_cons, List.not_mem_nil, or_false, not_or] at hx
             simp only [gc_cons]
             repeat rw [if_neg (by omega)]
             done)
          | ((simp (disch := omega) only [ite_ne, take_more, e1, e2, e3, wr64s j (by omega), List.length_append, List.append_assoc, Nat.add_assoc, List.length_cons, List.length_nil, go_sem, ↓reduceIte, Nat.reduceEqDiff, Nat.reduceBEq, Nat.reduceAdd, Nat.reduceLeDiff, Nat.reduceLT, reduceCtorEq, Nat.reduceMul, Nat.reduceSub, Int.reduceEq, Int.reduceLT, Int.reduceLE, Int.reduceToNat])
             first | done | rfl | (simp; done))
      all_goals (simp (disch := omega) only [ite_ne, List.length_append, go_sem, ↓reduceIte, Nat.reduceEqDiff, Nat.reduceBEq, Nat.reduceAdd, Nat.reduceLeDiff, Nat.reduceLT, reduceCtorEq, Nat.reduceMul, Nat.reduceSub, Int.reduceEq, Int.reduceLT, Int.reduceLE, Int.reduceToNat])
    · simp (disch := omega) only [ite_ne, q, getK_s (mapC_get valC ex), go_sem, ↓reduceIte, Nat.reduceEqDiff, Nat.reduceBEq, Nat.reduceAdd, Nat.reduceLeDiff, Nat.reduceLT, reduceCtorEq, Nat.reduceMul, Nat.reduceSub, Int.reduceEq, Int.reduceLT, Int.reduceLE, Int.reduceToNat]
      refine dCallR.f (fun _ hp' e => Int_ok j _ _) ?_
      simp (disch := omega) only [ite_ne, hcap, take_vals, le_self, go_sem, ↓reduceIte, Nat.reduceEqDiff, Nat.reduceBEq, Nat.reduceAdd, Nat.reduceLeDiff, Nat.reduceLT, reduceCtorEq, Nat.reduceMul, Nat.reduceSub, Int.reduceEq, Int.reduceLT, Int.reduceLE, Int.reduceToNat]
      refine ⟨⟨by omega, by omega⟩, by omega, dCallR.w (ws := wsC doc (posF doc) c km kp (gp + (lsP fs tn tw picks path j).length) (P ++ lsP fs tn tw picks path j) X.2) (wsOk_wsC ⟨?_, ?_, ?_⟩ (by omega) (by omega) (by omega)) rfl
        (fun hp' e => hD.rw ⟨_, Tryd.func30, by kernel_rfl, by kernel_rfl⟩ hp' c km kp _ (P ++ lsP fs tn tw picks path j) (k + 8) 0 (path.length + 1) _ ⟨(e c (.inl (by omega))).trans ?_, (e km (.inl (by omega))).trans ?_, (e kp (.inl (by omega))).trans ?_⟩ ((e (k + 8) (.inr ⟨7, by simp, by omega⟩)).trans ?_) (by omega) (by simp) (by rw [List.length_append]; omega)) ?_⟩
      case refine_8 =>
        simp only [wsC, List.cons_append, List.nil_append]
        simp (disch := omega) only [ite_ne, oL, go_sem, ↓reduceIte, Nat.reduceEqDiff, Nat.reduceBEq, Nat.reduceAdd, Nat.reduceLeDiff, Nat.reduceLT, reduceCtorEq, Nat.reduceMul, Nat.reduceSub, Int.reduceEq, Int.reduceLT, Int.reduceLE, Int.reduceToNat]
        refine ⟨⟨⟨by omega, by omega, by omega⟩, by omega, by omega⟩, by omega, by omega, (j + 1, _), ⟨by dsimp only; omega, by dsimp only; omega⟩, by dsimp only; omega,
          weak_ok ?_ (SubX.sub (SubX.cons ?_ (SubX.cons ?_ (SubX.cons ?_ (SubX.cons ?_ (SubX.cons ?_ (SubX.cons ?_ (SubX.cons ?_ (SubX.cons ?_ (SubX.base hf fun i hi hx => ?_)))))))))) (Nat.le_refl _)⟩
        all_goals first
          | (simp only [List.mem_cons, List.not_mem_nil, or_false, not_or] at hx
             simp only [gc_cons]
             repeat rw [if_neg (by omega)]
             done)
          | ((simp (disch := omega) only [ite_ne, take_more, e1, e2, e3, wr64s j (by omega), List.length_append, List.append_assoc, Nat.add_assoc, List.length_cons, List.length_nil, go_sem, ↓reduceIte, Nat.reduceEqDiff, Nat.reduceBEq, Nat.reduceAdd, Nat.reduceLeDiff, Nat.reduceLT, reduceCtorEq, Nat.reduceMul, Nat.reduceSub, Int.reduceEq, Int.reduceLT, Int.reduceLE, Int.reduceToNat])
             first | done | rfl | (simp; done))
      all_goals (simp (disch := omega) only [ite_ne, List.length_append, go_sem, ↓reduceIte, Nat.reduceEqDiff, Nat.reduceBEq, Nat.reduceAdd, Nat.reduceLeDiff, Nat.reduceLT, reduceCtorEq, Nat.reduceMul, Nat.reduceSub, Int.reduceEq, Int.reduceLT, Int.reduceLE, Int.reduceToNat])
  · have q : j = v.items.length := by simp at q; omega
    subst q
    simp (disch := omega) only [ite_ne, hRP, go_sem, ↓reduceIte, Nat.reduceEqDiff, Nat.reduceBEq, Nat.reduceAdd, Nat.reduceLeDiff, Nat.reduceLT, reduceCtorEq, Nat.reduceMul, Nat.reduceSub, Int.reduceEq, Int.reduceLT, Int.reduceLE, Int.reduceToNat]
    refine cdK_of (fun c1 => ?_) (fun c1 => ?_)
    · rw [if_pos c1] at hRV
      subst hRV
      simp (disch := omega) only [ite_ne, go_sem, ↓reduceIte, Nat.reduceEqDiff, Nat.reduceBEq, Nat.reduceAdd, Nat.reduceLeDiff, Nat.reduceLT, reduceCtorEq, Nat.reduceMul, Nat.reduceSub, Int.reduceEq, Int.reduceLT, Int.reduceLE, Int.reduceToNat]
      refine up_wsC hR ?_ ?_ ?_ fun j hj j1 j2 j3 => ?_
      all_goals (simp (disch := omega) only [ite_ne, go_sem, ↓reduceIte, Nat.reduceEqDiff, Nat.reduceBEq, Nat.reduceAdd, Nat.reduceLeDiff, Nat.reduceLT, reduceCtorEq, Nat.reduceMul, Nat.reduceSub, Int.reduceEq, Int.reduceLT, Int.reduceLE, Int.reduceToNat])
      by_cases e : kq = j
      · subst e; rw [if_pos rfl, hq]
      · rw [if_neg e]
    · rw [if_neg (by simp [c1])] at hRV
      subst hRV
      simp (disch := omega) only [ite_ne, oL, go_sem, ↓reduceIte, Nat.reduceEqDiff, Nat.reduceBEq, Nat.reduceAdd, Nat.reduceLeDiff, Nat.reduceLT, reduceCtorEq, Nat.reduceMul, Nat.reduceSub, Int.reduceEq, Int.reduceLT, Int.reduceLE, Int.reduceToNat]
      refine ⟨up_wsC hR ?_ ?_ ?_ fun j hj j1 j2 j3 => ?_, rfl, rfl, rfl, by rw [List.take_of_length_le (by omega)]; rfl, rfl⟩
      all_goals (simp (disch := omega) only [ite_ne, go_sem, ↓reduceIte, Nat.reduceEqDiff, Nat.reduceBEq, Nat.reduceAdd, Nat.reduceLeDiff, Nat.reduceLT, reduceCtorEq, Nat.reduceMul, Nat.reduceSub, Int.reduceEq, Int.reduceLT, Int.reduceLE, Int.reduceToNat])
      by_cases e : kq = j
      · subst e; rw [if_pos rfl, hq]
      · rw [if_neg e]
end Go.Proofs.YtgollgfifnmaaaaDoor
