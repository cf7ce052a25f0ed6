/-
  The parts CmJ of the proof, in one file. Conditions: none.
-/
import Derived.Test.YtgollgfifnmaaaaDoorCmS138
namespace Go.Proofs.YtgollgfifnmaaaaDoor
open Go.Eng
set_option linter.unusedVariables false
set_option linter.unusedSimpArgs false
set_option maxRecDepth 20000
set_option maxHeartbeats 1000000
section
variable {ks : List ByteArray} {fs : List CFn} {on : ByteArray} {picks : List Pk} {path : List Val}
noncomputable def obD (ks : List ByteArray) (fs : List CFn) (on : ByteArray) (picks : List Pk) (path : List Val) (j : Nat) : List (Pk × CRes) := obS ks fs on path (picks.take j)
noncomputable def obP (ks : List ByteArray) (fs : List CFn) (on : ByteArray) (picks : List Pk) (path : List Val) (j : Nat) : List Prb := (obD ks fs on picks path j).flatMap (·.2.2)
noncomputable def obO (ks : List ByteArray) (fs : List CFn) (on : ByteArray) (picks : List Pk) (path : List Val) (j : Nat) : List Val := (obD ks fs on picks path j).map (·.2.1)
noncomputable def obK (ks : List ByteArray) (fs : List CFn) (on : ByteArray) (picks : List Pk) (path : List Val) (j : Nat) : List ByteArray := (obD ks fs on picks path j).map (·.1.key)
noncomputable def obL (ks : List ByteArray) (fs : List CFn) (on : ByteArray) (picks : List Pk) (path : List Val) (j : Nat) : Bool := (obD ks fs on picks path j).any fun r => lostB r.1.tw r.2.1
theorem obD_step {j : Nat} {p : Pk} (h : picks[j]? = some p) : obD ks fs on picks path (j + 1) = if p.on = on then obD ks fs on picks path j ++ [(p, itF ks fs p.key p.tn p.tw p.picks (path ++ [txV p.key]))] else obD ks fs on picks path j := by
  unfold obD
  rw [← take_snoc h, obS_snoc]
theorem obD_len (j : Nat) : (obD ks fs on picks path j).length ≤ j := by
  unfold obD obS
  rw [List.length_map]
  have := List.length_filter_le (fun p : Pk => decide (p.on = on)) (picks.take j)
  rw [List.length_take] at this
  omega
theorem obO_len (j : Nat) : (obO ks fs on picks path j).length = (obD ks fs on picks path j).length := by simp [obO]
theorem obK_len (j : Nat) : (obK ks fs on picks path j).length = (obD ks fs on picks path j).length := by simp [obK]
theorem obP_le : ∀ {k : Nat} {j : Nat}, j + k = picks.length → (obP ks fs on picks path j).length ≤ (obP ks fs on picks path picks.length).length
  | 0, j, h => by rw [show j = picks.length by omega]; exact Nat.le_refl _
  | k + 1, j, h => by
    have e : picks[j]? = some (picks[j]'(by omega)) := by simp [show j < picks.length by omega]
    have h1 := obP_le (k := k) (j := j + 1) (by omega)
    have h2 : (obP ks fs on picks path j).length ≤ (obP ks fs on picks path (j + 1)).length := by
      unfold obP
      rw [obD_step e]
      split
      · rw [List.flatMap_append, List.length_append]; omega
      · exact Nat.le_refl _
    omega
theorem objR_eq : objR ks fs on picks path = (if obL ks fs on picks path picks.length = true then zVal else obR (obK ks fs on picks path picks.length) (obO ks fs on picks path picks.length), obP ks fs on picks path picks.length) := by
  unfold objR obL obK obO obP obD
  rw [List.take_length]
end
theorem resV_eq (o : Option Val) : resV o = .tp [vx (o.getD zVal), .b o.isSome] := by cases o <;> rfl
theorem object_of (doc : List Dfn) (v : Val) (hv : v.Fit) (h : ∀ x ∈ v.items, CplK doc x) (hz : CplK doc zVal) : ObjK doc v := by
  intro on picks path h6 hw2 hpk hwt hp c km kp gp P kq gq cap len n hR hq hl hP
  subst hl
  rw [objR_eq] at hP ⊢
  have hlen := hpk.len
  obtain ⟨fs, hfs⟩ : ∃ fs, v.items.map (cplV doc) = fs := ⟨_, rfl⟩
  rw [hfs] at hP ⊢
  dsimp only at hP ⊢
  have hPle : ∀ j, j ≤ picks.length → (obP v.keys fs on picks path j).length ≤ (obP v.keys fs on picks path picks.length).length := fun j hj => obP_le (k := picks.length - j) (by omega)
  obtain ⟨RP, hRP⟩ : ∃ RP, obP v.keys fs on picks path picks.length = RP := ⟨_, rfl⟩
  obtain ⟨RV, hRV⟩ : ∃ RV, (if obL v.keys fs on picks path picks.length = true then zVal else obR (obK v.keys fs on picks path picks.length) (obO v.keys fs on picks path picks.length)) = RV := ⟨_, rfl⟩
  rw [hRP] at hP hPle ⊢
  rw [hRV]
  simp only [List.cons_append, List.nil_append]
  have hWS : (∀ k, n ≤ k → gc hp k = .no) → wsLt n (wsC doc (posF doc) c km kp gp P RP) := fun hf => hR.wsLt hf
  have n1 := hR.n1
  have n2 := hR.n2
  have n3 := hR.n3
  have q1 : kq ≠ c := fun e => by have := hR.hc; rw [← e, hq] at this; cases this
  have q2 : kq ≠ km := fun e => by have := hR.hm; rw [← e, hq] at this; cases this
  have q3 : kq ≠ kp := fun e => by have := hR.hk; rw [← e, hq] at this; cases this
  have hc := hR.hc
  have hm := hR.hm
  have hk := hR.hk
  refine meetsW Tryd.func79 (by kernel_rfl) cc79 cr79 rfl hWS fun hf => ?_; unfold ck79
  obtain ⟨l1, l2, l3⟩ := hR.lt hf
  have l4 : kq < n := free_lt hf hq (fun e => by cases e)
  simp (disch := omega) only [ite_ne, go_sem, ↓reduceIte, Nat.reduceEqDiff, Nat.reduceBEq, Nat.reduceAdd, Nat.reduceLeDiff, Nat.reduceLT, reduceCtorEq, Nat.reduceMul, Nat.reduceSub, Int.reduceEq, Int.reduceLT, Int.reduceLE, Int.reduceToNat]
  refine loop (fun p : Nat × Nat => ⟨[(0, .bx c 0), (1, .s on), (3, .rw kq gq path.length), (9, .bx n 0), (10, .bx (n + 1) 0), (11, .bx (n + 2) 0), (12, .b (obL v.keys fs on picks path p.1)), (20, .ds (mapC pkC picks)), (21, .i .i64 picks.length), (22, .i .i64 p.1)],
      (n + 2, .bx [.i .i64 6, .i .i64 0, .s ⟨#[]⟩, .rw (n + 3) (obD v.keys fs on picks path p.1).length (obD v.keys fs on picks path p.1).length, .rw (n + 4) (obD v.keys fs on picks path p.1).length (obD v.keys fs on picks path p.1).length]) :: (n + 3, .rw (obD v.keys fs on picks path p.1).length 5 (mapC valC (obO v.keys fs on picks path p.1))) :: (n + 4, .rw (obD v.keys fs on picks path p.1).length 1 (stC (obK v.keys fs on picks path p.1))) ::
      (n + 1, .bx [.i .i64 0, .i .i64 0, .s ⟨#[]⟩, .e0, .e0]) :: (n, .bx [.i .i64 v.k, .i .i64 v.n, .s v.s, .ds (mapC valC v.items), .ds (stC v.keys)]) ::
      (kq, .rc gq 5 cap (mapC valC path)) :: (kp, .rw (gp + (obP v.keys fs on picks path p.1).length) 2 (mapC prbC (P ++ obP v.keys fs on picks path p.1))) :: (c, .bx [.ds (mapC dfC doc), .mp km, .rw kp (gp + (obP v.keys fs on picks path p.1).length) (P.length + (obP v.keys fs on picks path p.1).length)]) :: (km, .mq (posF doc)) :: hp, p.2⟩)
    (fun p => p.1 ≤ picks.length ∧ n + 5 ≤ p.2) (fun p => picks.length - p.1) (0, n + 5) ?_ ?_ (fun ⟨j, k⟩ hj => ?_)
  · exact ⟨by simp, by simp⟩
  · refine ((weak_b0 (c := n + 2) (i := 3) (m := 5) (cs := [.i .i64 6, .i .i64 0, .s ⟨#[]⟩, .e0, .e0]) ?_ rfl).trans (weak_b0 (c := n + 2) (i := 4) (m := 1) (cs := [.i .i64 6, .i .i64 0, .s ⟨#[]⟩, .rw (n + 3) 0 0, .e0]) ?_ rfl)).trans
      (weak_ok ?_ (SubX.sub (SubX.cons ?_ (SubX.cons ?_ (SubX.cons ?_ (SubX.cons ?_ (SubX.cons ?_ (SubX.cons ?_ (SubX.cons ?_ (SubX.cons ?_ (SubX.cons ?_ (SubX.base hf fun i hi hx => ?_))))))))))) (Nat.le_refl _))
    all_goals first
      | (simp only [List.mem_cons, List.not_mem_nil, or_false, not_or] at hx
         simp only [gc_cons]
         repeat rw [if_neg (by omega)]
         done)
      | ((simp (disch := omega) only [ite_ne, obP, obO, obK, obL, obD, obS, List.take_zero, List.filter_nil, List.flatMap_nil, List.map_nil, List.append_nil, hq, hc, hk, hm, go_sem, ↓reduceIte, Nat.reduceEqDiff, Nat.reduceBEq, Nat.reduceAdd, Nat.reduceLeDiff, Nat.reduceLT, reduceCtorEq, Nat.reduceMul, Nat.reduceSub, Int.reduceEq, Int.reduceLT, Int.reduceLE, Int.reduceToNat])
         first | done | rfl | (simp; done))
  dsimp only at hj
  obtain ⟨hj1, hj2⟩ := hj
  have oL := obO_len (ks := v.keys) (fs := fs) (on := on) (picks := picks) (path := path) j
  have kL := obK_len (ks := v.keys) (fs := fs) (on := on) (picks := picks) (path := path) j
  have dL := obD_len (ks := v.keys) (fs := fs) (on := on) (picks := picks) (path := path) j
  simp (disch := omega) only [ite_ne, oL, kL, go_sem, ↓reduceIte, Nat.reduceEqDiff, Nat.reduceBEq, Nat.reduceAdd, Nat.reduceLeDiff, Nat.reduceLT, reduceCtorEq, Nat.reduceMul, Nat.reduceSub, Int.reduceEq, Int.reduceLT, Int.reduceLE, Int.reduceToNat]
  refine cdK_of (fun q => ?_) (fun q => ?_)
  · have q : j < picks.length := by simpa using q
    obtain ⟨p, ex⟩ : ∃ p, picks[j]? = some p := ⟨picks[j], by simp [q]⟩
    have hpm := List.mem_of_getElem? ex
    have e0 := obD_step (ks := v.keys) (fs := fs) (on := on) (path := path) ex
    simp (disch := omega) only [ite_ne, q, getK_s (mapC_get pkC ex), go_sem, ↓reduceIte, Nat.reduceEqDiff, Nat.reduceBEq, Nat.reduceAdd, Nat.reduceLeDiff, Nat.reduceLT, reduceCtorEq, Nat.reduceMul, Nat.reduceSub, Int.reduceEq, Int.reduceLT, Int.reduceLE, Int.reduceToNat]
    refine cdK_of (fun c1 => ?_) (fun c1 => ?_)
    · have c1 : ¬ p.on = on := by simpa using c1
      rw [if_neg c1] at e0
      have e1 : obP v.keys fs on picks path (j + 1) = obP v.keys fs on picks path j := by unfold obP; rw [e0]
      have e2 : obO v.keys fs on picks path (j + 1) = obO v.keys fs on picks path j := by unfold obO; rw [e0]
      have e3 : obK v.keys fs on picks path (j + 1) = obK v.keys fs on picks path j := by unfold obK; rw [e0]
      have e4 : obL v.keys fs on picks path (j + 1) = obL v.keys fs on picks path j := by unfold obL; rw [e0]
      have e5 := e0
      simp (disch := omega) only [ite_ne, go_sem, ↓reduceIte, Nat.reduceEqDiff, Nat.reduceBEq, Nat.reduceAdd, Nat.reduceLeDiff, Nat.reduceLT, reduceCtorEq, Nat.reduceMul, Nat.reduceSub, Int.reduceEq, Int.reduceLT, Int.reduceLE, Int.reduceToNat]
      refine ⟨(j + 1, _), ⟨by dsimp only; omega, by dsimp only; omega⟩, by dsimp only; omega,
        weak_ok ?_ (SubX.sub (SubX.cons ?_ (SubX.cons ?_ (SubX.cons ?_ (SubX.cons ?_ (SubX.cons ?_ (SubX.cons ?_ (SubX.cons ?_ (SubX.cons ?_ (SubX.cons ?_ (SubX.base hf fun i hi hx => ?_))))))))))) (Nat.le_refl _)⟩
      all_goals first
        | (simp only [List.mem_cons, List.not_mem_nil, or_false, not_or] at hx
           simp only [gc_cons]
           repeat rw [if_neg (by omega)]
           done)
        | ((simp (disch := omega) only [ite_ne, take_more, e1, e2, e3, e4, e5, wr64s j (by omega), List.length_append, List.append_assoc, Nat.add_assoc, List.length_cons, List.length_nil, go_sem, ↓reduceIte, Nat.reduceEqDiff, Nat.reduceBEq, Nat.reduceAdd, Nat.reduceLeDiff, Nat.reduceLT, reduceCtorEq, Nat.reduceMul, Nat.reduceSub, Int.reduceEq, Int.reduceLT, Int.reduceLE, Int.reduceToNat])
           first | done | rfl | (simp; done))
    · have c1 : p.on = on := by simpa using c1
      rw [if_pos c1, ← hfs, itF_get doc v h6] at e0
      obtain ⟨y, hy⟩ : ∃ y, (getV v p.key).getD zVal = y := ⟨_, rfl⟩
      have hget := get_ok v hv p.key
      rw [resV_eq, hy] at hget
      rw [hy, hfs] at e0
      have hyk : CplK doc y ∧ wtV y < wtV v := by
        rw [← hy]
        cases eg : getV v p.key with
        | none =>
          refine ⟨hz, ?_⟩
          have : wtV (Option.getD (none : Option Val) zVal) = 1 := by rw [wtV_eq]; rfl
          omega
        | some x =>
          have hm := getV_mem eg
          refine ⟨h x hm, ?_⟩
          have := wtL_mem hm
          show wtV x < wtV v
          rw [wtV_eq v]
          omega
      obtain ⟨hyk, hyw⟩ := hyk
      have hD := hyk p.tn p.tw p.picks (path ++ [txV p.key]) (hpk.t hpm) (hpk.x hpm) (by simp; omega)
      obtain ⟨X, hX⟩ : ∃ X, cplV doc y p.tn p.tw p.picks (path ++ [txV p.key]) = X := ⟨_, rfl⟩
      rw [hX] at hD e0
      have e1 : obP v.keys fs on picks path (j + 1) = obP v.keys fs on picks path j ++ X.2 := by unfold obP; rw [e0, List.flatMap_append]; simp
      have e2 : obO v.keys fs on picks path (j + 1) = obO v.keys fs on picks path j ++ [X.1] := by unfold obO; rw [e0, List.map_append]; rfl
      have e3 : obK v.keys fs on picks path (j + 1) = obK v.keys fs on picks path j ++ [p.key] := by unfold obK; rw [e0, List.map_append]; rfl
      have e4 : obL v.keys fs on picks path (j + 1) = (obL v.keys fs on picks path j || lostB p.tw X.1) := by unfold obL; rw [e0, List.any_append]; simp
      have e5 : (obD v.keys fs on picks path (j + 1)).length = (obD v.keys fs on picks path j).length + 1 := by rw [e0]; simp
      have hle := hPle (j + 1) (by omega)
      rw [e1, List.length_append] at hle
      have lst := pos_cs 0
      simp (disch := omega) only [ite_ne, go_sem, ↓reduceIte, Nat.reduceEqDiff, Nat.reduceBEq, Nat.reduceAdd, Nat.reduceLeDiff, Nat.reduceLT, reduceCtorEq, Nat.reduceMul, Nat.reduceSub, Int.reduceEq, Int.reduceLT, Int.reduceLE, Int.reduceToNat]
      refine vcCall.f (hget _ _) ?_
      simp (disch := omega) only [ite_ne, go_sem, ↓reduceIte, Nat.reduceEqDiff, Nat.reduceBEq, Nat.reduceAdd, Nat.reduceLeDiff, Nat.reduceLT, reduceCtorEq, Nat.reduceMul, Nat.reduceSub, Int.reduceEq, Int.reduceLT, Int.reduceLE, Int.reduceToNat]
      refine dCallR.f (fun _ hp' e => Text_ok p.key _ _) ?_
      by_cases hcap : path.length + 1 ≤ cap
      · simp (disch := omega) only [ite_ne, hcap, take_vals, le_self, go_sem, ↓reduceIte, Nat.reduceEqDiff, Nat.reduceBEq, Nat.reduceAdd, Nat.reduceLeDiff, Nat.reduceLT, reduceCtorEq, Nat.reduceMul, Nat.reduceSub, Int.reduceEq, Int.reduceLT, Int.reduceLE, Int.reduceToNat]
        refine ⟨⟨by omega, by omega⟩, by omega, by omega, dCallR.w (ws := wsC doc (posF doc) c km kp (gp + (obP v.keys fs on picks path j).length) (P ++ obP v.keys fs on picks path j) X.2) (wsOk_wsC ⟨?_, ?_, ?_⟩ (by omega) (by omega) (by omega)) rfl
          (fun hp' e => hD hp' c km kp _ (P ++ obP v.keys fs on picks path j) kq gq cap (path.length + 1) _ ⟨(e c (.inl (by omega))).trans ?_, (e km (.inl (by omega))).trans ?_, (e kp (.inl (by omega))).trans ?_⟩ ((e kq (.inl (by omega))).trans ?_) (by simp) (by rw [List.length_append]; omega)) ?_⟩
        case refine_8 =>
          simp only [wsC, List.cons_append, List.nil_append]
          simp (disch := omega) only [ite_ne, oL, kL, go_sem, ↓reduceIte, Nat.reduceEqDiff, Nat.reduceBEq, Nat.reduceAdd, Nat.reduceLeDiff, Nat.reduceLT, reduceCtorEq, Nat.reduceMul, Nat.reduceSub, Int.reduceEq, Int.reduceLT, Int.reduceLE, Int.reduceToNat]
          refine ⟨⟨⟨by omega, by omega, by omega⟩, by omega, by omega⟩, by omega, by omega, by omega, by omega, (j + 1, _), ⟨by dsimp only; omega, by dsimp only; omega⟩, by dsimp only; omega, (weak_rc (k := kq) (g := gq) (m := 5) (cap := cap) (l := mapC valC (path ++ [txV p.key])) (len := path.length) ?_ (by rw [mapC_len]; simp)).trans
            (weak_ok ?_ (SubX.sub (SubX.cons ?_ (SubX.cons ?_ (SubX.cons ?_ (SubX.cons ?_ (SubX.cons ?_ (SubX.cons ?_ (SubX.cons ?_ (SubX.cons ?_ (SubX.cons ?_ (SubX.base hf fun i hi hx => ?_))))))))))) (Nat.le_refl _))⟩
          all_goals first
            | (simp only [List.mem_cons, List.not_mem_nil, or_false, not_or] at hx
               simp only [gc_cons]
               repeat rw [if_neg (by omega)]
               done)
            | ((simp (disch := omega) only [ite_ne, take_more, e1, e2, e3, e4, e5, wr64s j (by omega), List.length_append, List.append_assoc, Nat.add_assoc, List.length_cons, List.length_nil, go_sem, ↓reduceIte, Nat.reduceEqDiff, Nat.reduceBEq, Nat.reduceAdd, Nat.reduceLeDiff, Nat.reduceLT, reduceCtorEq, Nat.reduceMul, Nat.reduceSub, Int.reduceEq, Int.reduceLT, Int.reduceLE, Int.reduceToNat])
               first | done | rfl | (simp; done))
        all_goals (simp (disch := omega) only [ite_ne, List.length_append, go_sem, ↓reduceIte, Nat.reduceEqDiff, Nat.reduceBEq, Nat.reduceAdd, Nat.reduceLeDiff, Nat.reduceLT, reduceCtorEq, Nat.reduceMul, Nat.reduceSub, Int.reduceEq, Int.reduceLT, Int.reduceLE, Int.reduceToNat])
      · simp (disch := omega) only [ite_ne, hcap, take_vals, le_self, go_sem, ↓reduceIte, Nat.reduceEqDiff, Nat.reduceBEq, Nat.reduceAdd, Nat.reduceLeDiff, Nat.reduceLT, reduceCtorEq, Nat.reduceMul, Nat.reduceSub, Int.reduceEq, Int.reduceLT, Int.reduceLE, Int.reduceToNat]
        refine ⟨⟨by omega, by omega⟩, dCallR.w (ws := wsC doc (posF doc) c km kp (gp + (obP v.keys fs on picks path j).length) (P ++ obP v.keys fs on picks path j) X.2) (wsOk_wsC ⟨?_, ?_, ?_⟩ (by omega) (by omega) (by omega)) rfl
          (fun hp' e => hD.rw ⟨_, Tryd.func30, by kernel_rfl, by kernel_rfl⟩ hp' c km kp _ (P ++ obP v.keys fs on picks path j) (k + 12) 0 (path.length + 1) _ ⟨(e c (.inl (by omega))).trans ?_, (e km (.inl (by omega))).trans ?_, (e kp (.inl (by omega))).trans ?_⟩ ((e (k + 12) (.inr ⟨10, by simp, by omega⟩)).trans ?_) (by omega) (by simp) (by rw [List.length_append]; omega)) ?_⟩
        case refine_8 =>
          simp only [wsC, List.cons_append, List.nil_append]
          simp (disch := omega) only [ite_ne, oL, kL, go_sem, ↓reduceIte, Nat.reduceEqDiff, Nat.reduceBEq, Nat.reduceAdd, Nat.reduceLeDiff, Nat.reduceLT, reduceCtorEq, Nat.reduceMul, Nat.reduceSub, Int.reduceEq, Int.reduceLT, Int.reduceLE, Int.reduceToNat]
          refine ⟨⟨⟨by omega, by omega, by omega⟩, by omega⟩, by omega, by omega, by omega, by omega, (j + 1, _), ⟨by dsimp only; omega, by dsimp only; omega⟩, by dsimp only; omega,
            weak_ok ?_ (SubX.sub (SubX.cons ?_ (SubX.cons ?_ (SubX.cons ?_ (SubX.cons ?_ (SubX.cons ?_ (SubX.cons ?_ (SubX.cons ?_ (SubX.cons ?_ (SubX.cons ?_ (SubX.base hf fun i hi hx => ?_))))))))))) (Nat.le_refl _)⟩
          all_goals first
            | (simp only [List.mem_cons, List.not_mem_nil, or_false, not_or] at hx
               simp only [gc_cons]
               repeat rw [if_neg (by omega)]
               done)
            | ((simp (disch := omega) only [ite_ne, take_more, e1, e2, e3, e4, e5, wr64s j (by omega), List.length_append, List.append_assoc, Nat.add_assoc, List.length_cons, List.length_nil, go_sem, ↓reduceIte, Nat.reduceEqDiff, Nat.reduceBEq, Nat.reduceAdd, Nat.reduceLeDiff, Nat.reduceLT, reduceCtorEq, Nat.reduceMul, Nat.reduceSub, Int.reduceEq, Int.reduceLT, Int.reduceLE, Int.reduceToNat])
               first | done | rfl | (simp; done))
        all_goals (simp (disch := omega) only [ite_ne, List.length_append, go_sem, ↓reduceIte, Nat.reduceEqDiff, Nat.reduceBEq, Nat.reduceAdd, Nat.reduceLeDiff, Nat.reduceLT, reduceCtorEq, Nat.reduceMul, Nat.reduceSub, Int.reduceEq, Int.reduceLT, Int.reduceLE, Int.reduceToNat])
  · have q : j = picks.length := by simp at q; omega
    subst q
    simp (disch := omega) only [ite_ne, hRP, go_sem, ↓reduceIte, Nat.reduceEqDiff, Nat.reduceBEq, Nat.reduceAdd, Nat.reduceLeDiff, Nat.reduceLT, reduceCtorEq, Nat.reduceMul, Nat.reduceSub, Int.reduceEq, Int.reduceLT, Int.reduceLE, Int.reduceToNat]
    refine cdK_of (fun c1 => ?_) (fun c1 => ?_)
    · rw [if_pos c1] at hRV
      subst hRV
      simp (disch := omega) only [ite_ne, go_sem, ↓reduceIte, Nat.reduceEqDiff, Nat.reduceBEq, Nat.reduceAdd, Nat.reduceLeDiff, Nat.reduceLT, reduceCtorEq, Nat.reduceMul, Nat.reduceSub, Int.reduceEq, Int.reduceLT, Int.reduceLE, Int.reduceToNat]
      refine up_wsC hR ?_ ?_ ?_ fun j hj j1 j2 j3 => ?_
      all_goals (simp (disch := omega) only [ite_ne, go_sem, ↓reduceIte, Nat.reduceEqDiff, Nat.reduceBEq, Nat.reduceAdd, Nat.reduceLeDiff, Nat.reduceLT, reduceCtorEq, Nat.reduceMul, Nat.reduceSub, Int.reduceEq, Int.reduceLT, Int.reduceLE, Int.reduceToNat])
      by_cases e : kq = j
      · subst e; rw [if_pos rfl, hq]
      · rw [if_neg e]
    · rw [if_neg (by simp [c1])] at hRV
      subst hRV
      simp (disch := omega) only [ite_ne, oL, kL, go_sem, ↓reduceIte, Nat.reduceEqDiff, Nat.reduceBEq, Nat.reduceAdd, Nat.reduceLeDiff, Nat.reduceLT, reduceCtorEq, Nat.reduceMul, Nat.reduceSub, Int.reduceEq, Int.reduceLT, Int.reduceLE, Int.reduceToNat]
      refine ⟨up_wsC hR ?_ ?_ ?_ fun j hj j1 j2 j3 => ?_, rfl, rfl, rfl, by rw [List.take_of_length_le (by omega)]; rfl, by rw [List.take_of_length_le (by omega)]; rfl⟩
      all_goals (simp (disch := omega) only [ite_ne, go_sem, ↓reduceIte, Nat.reduceEqDiff, Nat.reduceBEq, Nat.reduceAdd, Nat.reduceLeDiff, Nat.reduceLT, reduceCtorEq, Nat.reduceMul, Nat.reduceSub, Int.reduceEq, Int.reduceLT, Int.reduceLE, Int.reduceToNat])
      by_cases e : kq = j
      · subst e; rw [if_pos rfl, hq]
      · rw [if_neg e]
end Go.Proofs.YtgollgfifnmaaaaDoor
