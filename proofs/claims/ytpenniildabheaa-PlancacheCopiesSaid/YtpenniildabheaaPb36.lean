/-
  The parts PcI of the proof, in one file. Conditions: none.
-/
import Derived.Test.YtpenniildabheaaPb35
namespace Go.Proofs.Ytpenniildabheaa
open Go.Eng
set_option linter.unusedVariables false
set_option linter.unusedSimpArgs false
set_option maxRecDepth 20000
set_option maxHeartbeats 2000000
theorem take_no (t : ByteArray) (v : Int) (L : List Ent) (hl : L.length ≤ 1000000) (c kg g : Nat) (A : List AV) (room : Int) (hp : CH) (hc : gc hp c = .bx (.i .i64 room :: .rw kg g L.length :: A)) (hk : gc hp kg = .rw g 3 (mapC entC L)) (m : Nat) (hno : fidx (qE t v) L 0 = -1) :
    MeetsF Try.prog 30 hp m [.bx c 0, .ag [.s t, .i .i64 v]] (.tp [.ds [], .b false]) := by
  have hI := indexE t v L hl c kg g A room
  rw [hno] at hI
  refine meetsF Try.func30 (by kernel_rfl) cc30 cr30 rfl fun hf => ?_; unfold ck30
  have hlt := bx_lt' hf hc
  have hlt2 := rw_lt hf hk
  simp (disch := omega) only [ite_ne, hc, go_sem, ↓reduceIte, Nat.reduceEqDiff, Nat.reduceBEq, Nat.reduceAdd, Nat.reduceLeDiff, Nat.reduceLT, reduceCtorEq, Nat.reduceMul, Nat.reduceSub, Int.reduceEq, Int.reduceLT, Int.reduceLE, Int.reduceToNat]
  refine vcCall.f (hI _ (by (simp (disch := omega) only [ite_ne, hc, go_sem, ↓reduceIte, Nat.reduceEqDiff, Nat.reduceBEq, Nat.reduceAdd, Nat.reduceLeDiff, Nat.reduceLT, reduceCtorEq, Nat.reduceMul, Nat.reduceSub, Int.reduceEq, Int.reduceLT, Int.reduceLE, Int.reduceToNat])) (by (simp (disch := omega) only [ite_ne, hk, go_sem, ↓reduceIte, Nat.reduceEqDiff, Nat.reduceBEq, Nat.reduceAdd, Nat.reduceLeDiff, Nat.reduceLT, reduceCtorEq, Nat.reduceMul, Nat.reduceSub, Int.reduceEq, Int.reduceLT, Int.reduceLE, Int.reduceToNat])) _) ?_
  simp (disch := omega) only [ite_ne, go_sem, ↓reduceIte, Nat.reduceEqDiff, Nat.reduceBEq, Nat.reduceAdd, Nat.reduceLeDiff, Nat.reduceLT, reduceCtorEq, Nat.reduceMul, Nat.reduceSub, Int.reduceEq, Int.reduceLT, Int.reduceLE, Int.reduceToNat]
  try rfl
theorem take_yes (t : ByteArray) (v : Int) (L : List Ent) (hl : L.length ≤ 1000000) (c kg g : Nat) (room h mi o : Int) (b : Bool) (hp : CH) (hc : gc hp c = .bx [.i .i64 room, .rw kg g L.length, .i .i64 h, .i .i64 mi, .i .i64 o, .b b]) (hk : gc hp kg = .rw g 3 (mapC entC L)) (m : Nat)
    (i : Nat) (x : Ent) (hi : fidx (qE t v) L 0 = i) (ex : L[i]? = some x) :
    MeetsX Try.prog 30 hp m [.bx c 0, .ag [.s t, .i .i64 v]] (pcW c kg g room h mi o b (L.eraseIdx i) ++ hp) m (.tp [.ds [planC x.n], .b true]) := by
  have hne : c ≠ kg := fun e => by subst e; rw [hc] at hk; cases hk
  have hne' : ¬ kg = c := fun e => hne e.symm
  have hLl : (mapC entC L).length = L.length := mapC_len _ _
  have htk : (mapC entC L).take L.length = mapC entC L := List.take_of_length_le (by omega)
  have hiL : i < L.length := (List.getElem?_eq_some_iff.1 ex).1
  have hel : (L.eraseIdx i).length = L.length - 1 := List.length_eraseIdx_of_lt hiL
  have hI := indexE t v L hl c kg g [.i .i64 h, .i .i64 mi, .i .i64 o, .b b] room
  rw [hi] at hI
  have hw : IntKind.i64.wrap ((i : Int) + 1) = (i : Int) + 1 := wr64 (by omega)
  have hi0 : decide ((i : Int) < 0) = false := decide_eq_false (by omega)
  have hD : ∀ (hp : CH) (m : Nat), gc hp kg = .rw g 3 (mapC entC L) → MeetsX Try.prog 42 hp m [.rw kg g L.length, .i .i64 i, .i .i64 ((i : Int) + 1)] ((kg, .rw g 3 (mapC entC (L.eraseIdx i))) :: hp) m (.rw kg g (L.length - 1)) := fun hp m hk => by
    have := meets_del (n := m) (i := i) hk (by omega) (ones_ent L)
    rw [hLl, mapC_erase] at this
    exact this
  have hWS := pcW_lt (n := m) (c := c) (kg := kg) (g := g) (room := room) (h := h) (mi := mi) (o := o) (b := b) (L := L.eraseIdx i) hc hk
  refine meetsW Try.func30 (by kernel_rfl) cc30 cr30 rfl hWS fun hf => ?_; unfold ck30
  have hlt := bx_lt' hf hc
  have hlt2 := rw_lt hf hk
  unfold pcW
  rw [hel]
  simp (disch := omega) only [ite_ne, hc, go_sem, ↓reduceIte, Nat.reduceEqDiff, Nat.reduceBEq, Nat.reduceAdd, Nat.reduceLeDiff, Nat.reduceLT, reduceCtorEq, Nat.reduceMul, Nat.reduceSub, Int.reduceEq, Int.reduceLT, Int.reduceLE, Int.reduceToNat]
  refine vcCall.f (hI _ (by (simp (disch := omega) only [ite_ne, hc, go_sem, ↓reduceIte, Nat.reduceEqDiff, Nat.reduceBEq, Nat.reduceAdd, Nat.reduceLeDiff, Nat.reduceLT, reduceCtorEq, Nat.reduceMul, Nat.reduceSub, Int.reduceEq, Int.reduceLT, Int.reduceLE, Int.reduceToNat])) (by (simp (disch := omega) only [ite_ne, hk, go_sem, ↓reduceIte, Nat.reduceEqDiff, Nat.reduceBEq, Nat.reduceAdd, Nat.reduceLeDiff, Nat.reduceLT, reduceCtorEq, Nat.reduceMul, Nat.reduceSub, Int.reduceEq, Int.reduceLT, Int.reduceLE, Int.reduceToNat])) _) ?_
  simp (disch := omega) only [ite_ne, hi0, hc, hk, hLl, Nat.le_refl, htk, hiL, getK_s (mapC_get entC ex), hw, go_sem, ↓reduceIte, Nat.reduceEqDiff, Nat.reduceBEq, Nat.reduceAdd, Nat.reduceLeDiff, Nat.reduceLT, reduceCtorEq, Nat.reduceMul, Nat.reduceSub, Int.reduceEq, Int.reduceLT, Int.reduceLE, Int.reduceToNat]
  refine vcCall.x (hD _ _ ?_) ?_
  · simp (disch := omega) only [ite_ne, hk, go_sem, ↓reduceIte, Nat.reduceEqDiff, Nat.reduceBEq, Nat.reduceAdd, Nat.reduceLeDiff, Nat.reduceLT, reduceCtorEq, Nat.reduceMul, Nat.reduceSub, Int.reduceEq, Int.reduceLT, Int.reduceLE, Int.reduceToNat]
  simp (disch := omega) only [ite_ne, hc, hk, hne, hne', go_sem, ↓reduceIte, Nat.reduceEqDiff, Nat.reduceBEq, Nat.reduceAdd, Nat.reduceLeDiff, Nat.reduceLT, reduceCtorEq, Nat.reduceMul, Nat.reduceSub, Int.reduceEq, Int.reduceLT, Int.reduceLE, Int.reduceToNat]
  refine up_ws2 hne ?_ ?_ (fun j h1 h2 h3 => ?_)
  · first | ((simp (disch := omega) only [ite_ne, hc, hk, hne, hne', go_sem, ↓reduceIte, Nat.reduceEqDiff, Nat.reduceBEq, Nat.reduceAdd, Nat.reduceLeDiff, Nat.reduceLT, reduceCtorEq, Nat.reduceMul, Nat.reduceSub, Int.reduceEq, Int.reduceLT, Int.reduceLE, Int.reduceToNat]); done) | (simp only [gc]; (simp (disch := omega) only [ite_ne, hc, hk, hne, hne', go_sem, ↓reduceIte, Nat.reduceEqDiff, Nat.reduceBEq, Nat.reduceAdd, Nat.reduceLeDiff, Nat.reduceLT, reduceCtorEq, Nat.reduceMul, Nat.reduceSub, Int.reduceEq, Int.reduceLT, Int.reduceLE, Int.reduceToNat]))
  · first | ((simp (disch := omega) only [ite_ne, hc, hk, hne, hne', go_sem, ↓reduceIte, Nat.reduceEqDiff, Nat.reduceBEq, Nat.reduceAdd, Nat.reduceLeDiff, Nat.reduceLT, reduceCtorEq, Nat.reduceMul, Nat.reduceSub, Int.reduceEq, Int.reduceLT, Int.reduceLE, Int.reduceToNat]); done) | (simp only [gc]; (simp (disch := omega) only [ite_ne, hc, hk, hne, hne', go_sem, ↓reduceIte, Nat.reduceEqDiff, Nat.reduceBEq, Nat.reduceAdd, Nat.reduceLeDiff, Nat.reduceLT, reduceCtorEq, Nat.reduceMul, Nat.reduceSub, Int.reduceEq, Int.reduceLT, Int.reduceLE, Int.reduceToNat]))
  · first | rfl | (repeat rw [gc_ne _ _ (by omega)])
/-- What is found. -/
def fdE (t : ByteArray) (v : Int) (L : List Ent) : List Ent := (L[L.findIdx (qE t v)]?).toList
def tkV (t : ByteArray) (v : Int) (L : List Ent) : AV := .tp [.ds ((fdE t v L).map fun x => planC x.n), .b (decide (L.findIdx (qE t v) < L.length))]
theorem take_all (t : ByteArray) (v : Int) (L : List Ent) (hl : L.length ≤ 1000000) (c kg g : Nat) (room h mi o : Int) (b : Bool) (hp : CH) (hc : gc hp c = .bx [.i .i64 room, .rw kg g L.length, .i .i64 h, .i .i64 mi, .i .i64 o, .b b]) (hk : gc hp kg = .rw g 3 (mapC entC L)) (m : Nat) :
    MeetsX Try.prog 30 hp m [.bx c 0, .ag [.s t, .i .i64 v]] (pcW c kg g room h mi o b (tkE t v L) ++ hp) m (tkV t v L) := by
  unfold tkV tkE fdE
  rcases fidx_find (qE t v) L 0 with ⟨h1, h2⟩ | ⟨h1, h2⟩
  · obtain ⟨x, ex⟩ : ∃ x, L[L.findIdx (qE t v)]? = some x := ⟨_, List.getElem?_eq_getElem h1⟩
    rw [ex, decide_eq_true h1]
    rw [Nat.zero_add] at h2
    exact take_yes t v L hl c kg g room h mi o b hp hc hk m _ x h2 ex
  · rw [h1, List.getElem?_eq_none (Nat.le_refl _), decide_eq_false (Nat.lt_irrefl _), List.eraseIdx_of_length_le (Nat.le_refl _)]
    refine (take_no t v L hl c kg g _ room hp hc hk m h2).to.imp fun hp' n' r ⟨e1, e2, e3⟩ => ?_
    subst e1
    subst e2
    subst e3
    refine ⟨_, fun j => ?_, rfl, rfl, rfl⟩
    unfold pcW
    by_cases q1 : c = j
    · subst q1
      rw [List.cons_append, gc_cons_same, hc]
    rw [List.cons_append, gc_cons_ne q1]
    by_cases q2 : kg = j
    · subst q2
      rw [List.cons_append, gc_cons_same, hk]
    · rw [List.cons_append, gc_cons_ne q2]
      rfl
theorem put_ok (t : ByteArray) (v x : Int) (L : List Ent) (hl : L.length ≤ 1000000) (c kg g : Nat) (room h mi o : Int) (hr : 1 ≤ room ∧ room ≤ 1000000) (b : Bool) (hp : CH) (hc : gc hp c = .bx [.i .i64 room, .rw kg g L.length, .i .i64 h, .i .i64 mi, .i .i64 o, .b b]) (hk : gc hp kg = .rw g 3 (mapC entC L)) (m : Nat) :
    MeetsX Try.prog 28 hp m [.bx c 0, .ag [.s t, .i .i64 v], .ds [planC x]] (pcW c kg (g + 1) room h mi o b (putL room ⟨t, v, x⟩ L) ++ hp) m (.tp []) := by
  have hne : c ≠ kg := fun e => by subst e; rw [hc] at hk; cases hk
  have hne' : ¬ kg = c := fun e => hne e.symm
  have hT := take_all t v L hl c kg g room h mi o b
  have hTl := tkE_len t v L
  obtain ⟨T, hTe⟩ : ∃ T, tkE t v L = T := ⟨_, rfl⟩
  obtain ⟨V, hVe⟩ : ∃ V, tkV t v L = V := ⟨_, rfl⟩
  have hp1 : putL room ⟨t, v, x⟩ L = ⟨t, v, x⟩ :: (if room ≤ (T.length : Int) then T.take (room - 1).toNat else T) := by unfold putL; rw [Ent.t_mk, Ent.v_mk, hTe]
  rw [hTe] at hTl
  rw [hTe, hVe] at hT
  have hLl : (mapC entC T).length = T.length := mapC_len _ _
  have hw : IntKind.i64.wrap (room - 1) = room - 1 := wr64 (by omega)
  have hI : ∀ (len : Nat) (hp : CH) (m : Nat), len ≤ T.length → gc hp kg = .rw g 3 (mapC entC T) → Meets Try.prog 36 hp m [.rw kg g len, .i .i64 0, .ds [[.s t, .i .i64 v, .ds [planC x]]]] fun hp2 n2 r2 => hp2 = [(kg, .rw (g + 1) 3 (mapC entC (⟨t, v, x⟩ :: T.take len)))] ++ hp ∧ n2 = m ∧ r2 = .rw kg (g + 1) (len + 1) := fun len hp m hle hk => by
    have := meets_ins (n := m) (len := len) (x := [.s t, .i .i64 v, .ds [planC x]]) hk (by omega) (ones_ent T) rfl rfl (by omega)
    rw [mapC_take] at this
    exact this
  have hWS := pcW_lt (n := m) (c := c) (kg := kg) (g := g + 1) (room := room) (h := h) (mi := mi) (o := o) (b := b) (L := putL room ⟨t, v, x⟩ L) hc hk
  refine meetsW Try.func28 (by kernel_rfl) cc28 cr28 rfl hWS fun hf => ?_; unfold ck28
  have hlt := bx_lt' hf hc
  have hlt2 := rw_lt hf hk
  rw [hp1]
  unfold pcW
  unfold pcW at hT
  simp (disch := omega) only [ite_ne, hc, go_sem, ↓reduceIte, Nat.reduceEqDiff, Nat.reduceBEq, Nat.reduceAdd, Nat.reduceLeDiff, Nat.reduceLT, reduceCtorEq, Nat.reduceMul, Nat.reduceSub, Int.reduceEq, Int.reduceLT, Int.reduceLE, Int.reduceToNat]
  refine vcCall.x (hT _ ?_ ?_ _) ?_
  · simp (disch := omega) only [ite_ne, hc, go_sem, ↓reduceIte, Nat.reduceEqDiff, Nat.reduceBEq, Nat.reduceAdd, Nat.reduceLeDiff, Nat.reduceLT, reduceCtorEq, Nat.reduceMul, Nat.reduceSub, Int.reduceEq, Int.reduceLT, Int.reduceLE, Int.reduceToNat]
  · simp (disch := omega) only [ite_ne, hk, go_sem, ↓reduceIte, Nat.reduceEqDiff, Nat.reduceBEq, Nat.reduceAdd, Nat.reduceLeDiff, Nat.reduceLT, reduceCtorEq, Nat.reduceMul, Nat.reduceSub, Int.reduceEq, Int.reduceLT, Int.reduceLE, Int.reduceToNat]
  simp (disch := omega) only [ite_ne, hc, hk, hne, hne', hLl, Nat.le_refl, List.cons_append, List.nil_append, go_sem, ↓reduceIte, Nat.reduceEqDiff, Nat.reduceBEq, Nat.reduceAdd, Nat.reduceLeDiff, Nat.reduceLT, reduceCtorEq, Nat.reduceMul, Nat.reduceSub, Int.reduceEq, Int.reduceLT, Int.reduceLE, Int.reduceToNat]
  refine cdK_of (fun q => ?_) (fun q => ?_)
  · have q : room ≤ (T.length : Int) := by simpa using q
    rw [if_pos q]
    have htl : (T.take (room - 1).toNat).length = (room - 1).toNat := by rw [List.length_take]; omega
    have hb1 : 0 ≤ room - 1 ∧ room - 1 ≤ (T.length : Int) := by omega
    have hb0 : (0 : Int) ≤ room - 1 := hb1.1
    have hb2 : room - 1 ≤ (T.length : Int) := hb1.2
    have hb3 : (room - 1).toNat ≤ T.length := by omega
    have hb4 : (T.length : Int).toNat = T.length := rfl
    have htk : (mapC entC T).take T.length = mapC entC T := List.take_of_length_le (by omega)
    simp (disch := omega) only [ite_ne, hc, hk, hne, hne', hLl, Nat.le_refl, List.cons_append, List.nil_append, hw, hb0, hb2, hb3, htk, go_sem, ↓reduceIte, Nat.reduceEqDiff, Nat.reduceBEq, Nat.reduceAdd, Nat.reduceLeDiff, Nat.reduceLT, reduceCtorEq, Nat.reduceMul, Nat.reduceSub, Int.reduceEq, Int.reduceLT, Int.reduceLE, Int.reduceToNat]
    refine ⟨mapC_all (fun _ => rfl), dCallR.wr (ws := [(kg, .rw (g + 1) 3 (mapC entC (⟨t, v, x⟩ :: T.take (room - 1).toNat)))]) ⟨by omega, ?_, trivial, trivial⟩ (by simp [aOk, keys]) (fun hp' e => hI _ hp' _ hb3 ((e kg (.inl (by omega))).trans (by (simp (disch := omega) only [ite_ne, hk, go_sem, ↓reduceIte, Nat.reduceEqDiff, Nat.reduceBEq, Nat.reduceAdd, Nat.reduceLeDiff, Nat.reduceLT, reduceCtorEq, Nat.reduceMul, Nat.reduceSub, Int.reduceEq, Int.reduceLT, Int.reduceLE, Int.reduceToNat])))) ?_⟩
    · simp (disch := omega) only [ite_ne, hk, go_sem, ↓reduceIte, Nat.reduceEqDiff, Nat.reduceBEq, Nat.reduceAdd, Nat.reduceLeDiff, Nat.reduceLT, reduceCtorEq, Nat.reduceMul, Nat.reduceSub, Int.reduceEq, Int.reduceLT, Int.reduceLE, Int.reduceToNat]
    simp (disch := omega) only [ite_ne, hc, hk, hne, hne', hLl, List.cons_append, List.nil_append, List.length_cons, htl, go_sem, ↓reduceIte, Nat.reduceEqDiff, Nat.reduceBEq, Nat.reduceAdd, Nat.reduceLeDiff, Nat.reduceLT, reduceCtorEq, Nat.reduceMul, Nat.reduceSub, Int.reduceEq, Int.reduceLT, Int.reduceLE, Int.reduceToNat]
    trace_state
    refine up_ws2 hne ?_ ?_ (fun j h1 h2 h3 => ?_)
    · first | ((simp (disch := omega) only [ite_ne, hc, hk, hne, hne', go_sem, ↓reduceIte, Nat.reduceEqDiff, Nat.reduceBEq, Nat.reduceAdd, Nat.reduceLeDiff, Nat.reduceLT, reduceCtorEq, Nat.reduceMul, Nat.reduceSub, Int.reduceEq, Int.reduceLT, Int.reduceLE, Int.reduceToNat]); done) | (simp only [gc]; (simp (disch := omega) only [ite_ne, hc, hk, hne, hne', go_sem, ↓reduceIte, Nat.reduceEqDiff, Nat.reduceBEq, Nat.reduceAdd, Nat.reduceLeDiff, Nat.reduceLT, reduceCtorEq, Nat.reduceMul, Nat.reduceSub, Int.reduceEq, Int.reduceLT, Int.reduceLE, Int.reduceToNat]))
    · first | ((simp (disch := omega) only [ite_ne, hc, hk, hne, hne', go_sem, ↓reduceIte, Nat.reduceEqDiff, Nat.reduceBEq, Nat.reduceAdd, Nat.reduceLeDiff, Nat.reduceLT, reduceCtorEq, Nat.reduceMul, Nat.reduceSub, Int.reduceEq, Int.reduceLT, Int.reduceLE, Int.reduceToNat]); done) | (simp only [gc]; (simp (disch := omega) only [ite_ne, hc, hk, hne, hne', go_sem, ↓reduceIte, Nat.reduceEqDiff, Nat.reduceBEq, Nat.reduceAdd, Nat.reduceLeDiff, Nat.reduceLT, reduceCtorEq, Nat.reduceMul, Nat.reduceSub, Int.reduceEq, Int.reduceLT, Int.reduceLE, Int.reduceToNat]))
    · first | rfl | (repeat rw [gc_ne _ _ (by omega)])
  · have q : ¬ room ≤ (T.length : Int) := by simpa using q
    rw [if_neg q]
    have hb3 : T.length ≤ T.length := Nat.le_refl _
    have htt : T.take T.length = T := List.take_length
    have htk : (mapC entC T).take T.length = mapC entC T := List.take_of_length_le (by omega)
    simp (disch := omega) only [ite_ne, hc, hk, hne, hne', hLl, Nat.le_refl, List.cons_append, List.nil_append, hw, htk, go_sem, ↓reduceIte, Nat.reduceEqDiff, Nat.reduceBEq, Nat.reduceAdd, Nat.reduceLeDiff, Nat.reduceLT, reduceCtorEq, Nat.reduceMul, Nat.reduceSub, Int.reduceEq, Int.reduceLT, Int.reduceLE, Int.reduceToNat]
    have hI2 := fun hp m => hI T.length hp m hb3
    rw [htt] at hI2
    refine dCallR.wr (ws := [(kg, .rw (g + 1) 3 (mapC entC (⟨t, v, x⟩ :: T)))]) ⟨by omega, ?_, trivial, trivial⟩ (by simp [aOk, keys]) (fun hp' e => hI2 hp' _ ((e kg (.inl (by omega))).trans (by (simp (disch := omega) only [ite_ne, hk, go_sem, ↓reduceIte, Nat.reduceEqDiff, Nat.reduceBEq, Nat.reduceAdd, Nat.reduceLeDiff, Nat.reduceLT, reduceCtorEq, Nat.reduceMul, Nat.reduceSub, Int.reduceEq, Int.reduceLT, Int.reduceLE, Int.reduceToNat])))) ?_
    · simp (disch := omega) only [ite_ne, hk, go_sem, ↓reduceIte, Nat.reduceEqDiff, Nat.reduceBEq, Nat.reduceAdd, Nat.reduceLeDiff, Nat.reduceLT, reduceCtorEq, Nat.reduceMul, Nat.reduceSub, Int.reduceEq, Int.reduceLT, Int.reduceLE, Int.reduceToNat]
    simp (disch := omega) only [ite_ne, hc, hk, hne, hne', hLl, List.cons_append, List.nil_append, List.length_cons, go_sem, ↓reduceIte, Nat.reduceEqDiff, Nat.reduceBEq, Nat.reduceAdd, Nat.reduceLeDiff, Nat.reduceLT, reduceCtorEq, Nat.reduceMul, Nat.reduceSub, Int.reduceEq, Int.reduceLT, Int.reduceLE, Int.reduceToNat]
    trace_state
    refine up_ws2 hne ?_ ?_ (fun j h1 h2 h3 => ?_)
    · first | ((simp (disch := omega) only [ite_ne, hc, hk, hne, hne', go_sem, ↓reduceIte, Nat.reduceEqDiff, Nat.reduceBEq, Nat.reduceAdd, Nat.reduceLeDiff, Nat.reduceLT, reduceCtorEq, Nat.reduceMul, Nat.reduceSub, Int.reduceEq, Int.reduceLT, Int.reduceLE, Int.reduceToNat]); done) | (simp only [gc]; (simp (disch := omega) only [ite_ne, hc, hk, hne, hne', go_sem, ↓reduceIte, Nat.reduceEqDiff, Nat.reduceBEq, Nat.reduceAdd, Nat.reduceLeDiff, Nat.reduceLT, reduceCtorEq, Nat.reduceMul, Nat.reduceSub, Int.reduceEq, Int.reduceLT, Int.reduceLE, Int.reduceToNat]))
    · first | ((simp (disch := omega) only [ite_ne, hc, hk, hne, hne', go_sem, ↓reduceIte, Nat.reduceEqDiff, Nat.reduceBEq, Nat.reduceAdd, Nat.reduceLeDiff, Nat.reduceLT, reduceCtorEq, Nat.reduceMul, Nat.reduceSub, Int.reduceEq, Int.reduceLT, Int.reduceLE, Int.reduceToNat]); done) | (simp only [gc]; (simp (disch := omega) only [ite_ne, hc, hk, hne, hne', go_sem, ↓reduceIte, Nat.reduceEqDiff, Nat.reduceBEq, Nat.reduceAdd, Nat.reduceLeDiff, Nat.reduceLT, reduceCtorEq, Nat.reduceMul, Nat.reduceSub, Int.reduceEq, Int.reduceLT, Int.reduceLE, Int.reduceToNat]))
    · first | rfl | (repeat rw [gc_ne _ _ (by omega)])
end Go.Proofs.Ytpenniildabheaa
