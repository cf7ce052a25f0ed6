/-
  The parts MxRB of the proof, in one file. Conditions: none.
-/
import Derived.Test.YtdodiembhgjecaaMc47
namespace Go.Proofs.Ytdodiembhgjecaa
open Go.Eng
set_option linter.unusedVariables false
set_option linter.unusedSimpArgs false
set_option maxRecDepth 20000
set_option maxHeartbeats 4000000
def bl1 (b : Bool) : List AV := [.b b]
/-- What the client got after c messages. -/
def gQ (Q : List Frm) (c : Nat) : List Msg := (Q.take c).map msg
inductive DvX
  | mk (a c d gk : Nat) (lost : List Bool)
inductive DvS
  | mk (n a c d gk : Nat) (l : List Frm) (lost : List Bool) (nx : Nat)
inductive DvT
  | mk (j a d : Nat) (l : List Frm) (lost : List Bool) (nx : Nat)
/-- What holds at the end of a delivery. -/
def dvP (fin : Bool) (Q KA : List Frm) (lost0 : List Bool) : DvX → Prop
  | .mk a c d gk lost => a ≤ c ∧ c ≤ Q.length ∧ d ≤ KA.length ∧ KA.drop d = Q.drop a ∧ lost.length ≤ lost0.length ∧ (fin = true → a = Q.length ∧ c = Q.length)
def dvW (Q KA : List Frm) (c0 kk g kl gl nl c1 kg : Nat) : DvX → CH
  | .mk a c d gk lost => [(c0, svB 100 Q.length a kk g d (KA.length - d) kl gl nl), (c1, .bx [.b true, .i .i64 c, .rw kg gk (gQ Q c).length]), (kg, .rw gk 2 (mapC mgC (gQ Q c)))]
def dvR : DvX → AV
  | .mk a c d gk lost => .ds (mapC bl1 lost)
/-- The state at the head of the loop over frames. -/
def dvO (Q KA : List Frm) (c0 kk g kl gl nl c1 kg : Nat) (hp : CH) : DvS → St
  | .mk n a c d gk l lost nx => ⟨[(0, .bx c0 0), (1, .bx c1 0), (2, .ds (mapC frC l)), (3, .ds (mapC bl1 lost)), (9, .i .i64 n)],
      (c0, .bx [.i .i64 100, .i .i64 Q.length, .i .i64 a, .rf kk g 5 d (KA.length - d), .rw kl gl nl]) :: (c1, .bx [.b true, .i .i64 c, .rw kg gk (gQ Q c).length]) :: (kg, .rw gk 2 (mapC mgC (gQ Q c))) :: hp, nx⟩
def dvI (fin : Bool) (Q KA : List Frm) (lost0 : List Bool) (m : Nat) : DvS → Prop
  | .mk n a c d gk l lost nx => a ≤ c ∧ c ≤ Q.length ∧ d ≤ KA.length ∧ KA.drop d = Q.drop a ∧ lost.length ≤ lost0.length ∧ n ≤ 500 ∧ m ≤ nx ∧ (∀ f ∈ l, Way Q f) ∧ l.length ≤ 62 * (n + 1) ∧
      (fin = true → lost = [] ∧ a = c ∧ n + l.length ≤ 61 ∧ ∃ pre, (∀ f ∈ pre, f.k = 8) ∧ l = pre ++ Q.drop c)
def dvM : DvS → Nat
  | .mk n a c d gk l lost nx => 500 - n
/-- The state at the head of the loop over answers. -/
def dvN (Q KA : List Frm) (c0 kk g kl gl nl c1 kg : Nat) (hp : CH) (n c gk : Nat) (A : List Frm) : DvT → St
  | .mk j a d l lost nx => ⟨[(0, .bx c0 0), (1, .bx c1 0), (2, .ds (mapC frC l)), (3, .ds (mapC bl1 lost)), (9, .i .i64 n), (12, .ds (mapC frC A)), (14, .i .i64 j)],
      (c0, .bx [.i .i64 100, .i .i64 Q.length, .i .i64 a, .rf kk g 5 d (KA.length - d), .rw kl gl nl]) :: (c1, .bx [.b true, .i .i64 c, .rw kg gk (gQ Q c).length]) :: (kg, .rw gk 2 (mapC mgC (gQ Q c))) :: hp, nx⟩
def dvJ (fin : Bool) (Q KA : List Frm) (lost0 : List Bool) (m n c : Nat) (A : List Frm) : DvT → Prop
  | .mk j a d l lost nx => a ≤ c ∧ d ≤ KA.length ∧ KA.drop d = Q.drop a ∧ lost.length ≤ lost0.length ∧ m ≤ nx ∧ j ≤ A.length ∧ (∀ f ∈ l, Way Q f) ∧ l.length ≤ 62 * (n + 1) + 61 * j ∧
      (fin = true → lost = [] ∧ (a = c ∨ j < A.length) ∧ (∀ x ∈ A, x = akF 4 c) ∧ n + 1 + l.length ≤ 61 ∧ ∃ pre, (∀ f ∈ pre, f.k = 8) ∧ l = pre ++ Q.drop c)
def dvL (A : List Frm) : DvT → Nat
  | .mk j a d l lost nx => A.length - j
theorem deliver_ok (fin : Bool) (Q : List Frm) (hQ : LogOk Q) (a c d gk : Nat) (KA : List Frm) (hKA : KA.length ≤ 100) (hd : d ≤ KA.length) (hKQ : KA.drop d = Q.drop a) (hac : a ≤ c) (hcQ : c ≤ Q.length) (V : List Int) (hV : Asc V) (hVl : V.length ≤ 4) (g gl : Nat)
    (l : List Frm) (hl : ∀ f ∈ l, Way Q f) (hll : l.length ≤ 61) (lost : List Bool) (hlo : lost.length ≤ 200) (hfin : fin = true → lost = [] ∧ a = c ∧ l = akF 8 Q.length :: Q.drop c) (c0 kk kl c1 kg : Nat) (hp : CH)
    (h1 : gc hp c0 = svB 100 Q.length a kk g d (KA.length - d) kl gl V.length) (h2 : gc hp kk = .rw g 5 (mapC frC KA)) (h3 : gc hp kl = .rw gl 1 (mapC in1 V)) (h4 : gc hp c1 = .bx [.b true, .i .i64 c, .rw kg gk (gQ Q c).length]) (h5 : gc hp kg = .rw gk 2 (mapC mgC (gQ Q c))) (m : Nat) :
    Meets Try.prog 31 hp m [.bx c0 0, .bx c1 0, .ds (mapC frC l), .ds (mapC bl1 lost)] (exQ (dvP fin Q KA lost) fun i hp' n' r' => hp' = dvW Q KA c0 kk g kl gl V.length c1 kg i ++ hp ∧ n' = m ∧ r' = dvR i) := by
  have d1 : ¬ c0 = c1 := fun e => by subst e; rw [h1] at h4; cases h4
  have d2 : ¬ c0 = kk := fun e => by subst e; rw [h1] at h2; cases h2
  have d3 : ¬ c0 = kl := fun e => by subst e; rw [h1] at h3; cases h3
  have d4 : ¬ c0 = kg := fun e => by subst e; rw [h1] at h5; cases h5
  have d5 : ¬ c1 = kk := fun e => by subst e; rw [h4] at h2; cases h2
  have d6 : ¬ c1 = kl := fun e => by subst e; rw [h4] at h3; cases h3
  have d7 : ¬ c1 = kg := fun e => by subst e; rw [h4] at h5; cases h5
  have d8 : ¬ kk = kl := fun e => by subst e; rw [h2] at h3; cases h3
  have d9 : ¬ kk = kg := fun e => by subst e; rw [h2] at h5; cases h5
  have d10 : ¬ kl = kg := fun e => by subst e; rw [h3] at h5; cases h5
  have e1 : ¬ c1 = c0 := fun e => d1 e.symm
  have e2 : ¬ kk = c0 := fun e => d2 e.symm
  have e3 : ¬ kl = c0 := fun e => d3 e.symm
  have e4 : ¬ kg = c0 := fun e => d4 e.symm
  have e5 : ¬ kk = c1 := fun e => d5 e.symm
  have e6 : ¬ kl = c1 := fun e => d6 e.symm
  have e7 : ¬ kg = c1 := fun e => d7 e.symm
  have e8 : ¬ kl = kk := fun e => d8 e.symm
  have e9 : ¬ kg = kk := fun e => d9 e.symm
  have e10 : ¬ kg = kl := fun e => d10 e.symm
  have hQl := hQ.len
  refine meetsWI (dvP fin Q KA lost) (dvW Q KA c0 kk g kl gl V.length c1 kg) dvR Try.func31 (by kernel_rfl) cc31 cr31 rfl (fun hf i hi => ?_) fun hf => ?_
  · have b1 : c0 < m := bx_lt' hf h1
    have b2 := rw_lt hf h2
    have b3 := rw_lt hf h3
    have b4 : c1 < m := bx_lt' hf h4
    have b5 := rw_lt hf h5
    cases i with
    | mk a' c' d' gk' lost' =>
    exact ⟨b1, fun α h => by simp at h; rcases h with rfl | rfl | rfl | rfl | rfl <;> first | exact b2 | exact b3 | rfl | simp [AV.lt1, AV.pur], b4, lt1_3 (by first | exact b5 | rfl | simp [AV.lt1, AV.pur]) (by first | exact b5 | rfl | simp [AV.lt1, AV.pur]) (by first | exact b5 | rfl | simp [AV.lt1, AV.pur]), b5, trivial, trivial⟩
  have b1 : c0 < m := bx_lt' hf h1
  have b2 := rw_lt hf h2
  have b3 := rw_lt hf h3
  have b4 : c1 < m := bx_lt' hf h4
  have b5 := rw_lt hf h5
  unfold svB at h1
  unfold ck31
  simp only [go_sem, ↓reduceIte, Nat.reduceEqDiff, Nat.reduceBEq, Nat.reduceAdd, Nat.reduceLeDiff, Nat.reduceLT, reduceCtorEq, Nat.reduceMul, Nat.reduceSub, Int.reduceEq, Int.reduceLT, Int.reduceLE, Int.reduceToNat]
  refine loop (dvO Q KA c0 kk g kl gl V.length c1 kg hp) (dvI fin Q KA lost m) dvM (.mk 0 a c d gk l lost m) ?_ ?_ (fun q hq => ?_)
  · refine ⟨hac, hcQ, hd, hKQ, Nat.le_refl _, by omega, Nat.le_refl _, hl, by omega, fun hF => ?_⟩
    obtain ⟨x1, x2, x3⟩ := hfin hF
    exact ⟨x1, x2, by rw [x3] at hll ⊢; simp at hll ⊢; omega, [akF 8 Q.length], by simp; rfl, x3⟩
  · simp only [dvO]
    refine weak_ok ?_ (Sub.cons ?_ (Sub.cons ?_ (Sub.cons ?_ (Sub.refl _)))) (Nat.le_refl _)
    · simp only [go_sem, ↓reduceIte, Nat.reduceEqDiff, Nat.reduceBEq, Nat.reduceAdd, Nat.reduceLeDiff, Nat.reduceLT, reduceCtorEq, Nat.reduceMul, Nat.reduceSub, Int.reduceEq, Int.reduceLT, Int.reduceLE, Int.reduceToNat]
    · exact h1
    · exact h4
    · exact h5
  obtain ⟨n, a, c, d, gk, l, lo, nx⟩ := q
  obtain ⟨hac, hcQ, hd, hKQ, hlo2, hn, hnx, hl, hll, hfin⟩ := hq
  simp only [dvO]
  have hLl : (mapC frC l).length = l.length := mapC_len _ _
  have hLo : (mapC bl1 lo).length = lo.length := mapC_len _ _
  by_cases hl0 : l = []
  · have dl : decide ((0 : Int) < (l.length : Int)) = false := by rw [hl0]; rfl
    simp (disch := omega) only [ite_ne, dl, go_sem, ↓reduceIte, Nat.reduceEqDiff, Nat.reduceBEq, Nat.reduceAdd, Nat.reduceLeDiff, Nat.reduceLT, reduceCtorEq, Nat.reduceMul, Nat.reduceSub, Int.reduceEq, Int.reduceLT, Int.reduceLE, Int.reduceToNat]
    refine exQ_of (.mk a c d gk lo) ⟨hac, hcQ, hd, hKQ, hlo2, fun hF => ?_⟩ ?_
    · obtain ⟨x1, x2, x3, pre, x4, x5⟩ := hfin hF
      rw [hl0] at x5
      have : Q.drop c = [] := (List.append_eq_nil_iff.1 x5.symm).2
      have := List.drop_eq_nil_iff.1 this
      omega
    simp only [dvW, svB, dvR]
    simp (disch := omega) only [ite_ne, hnx, go_sem, ↓reduceIte, Nat.reduceEqDiff, Nat.reduceBEq, Nat.reduceAdd, Nat.reduceLeDiff, Nat.reduceLT, reduceCtorEq, Nat.reduceMul, Nat.reduceSub, Int.reduceEq, Int.reduceLT, Int.reduceLE, Int.reduceToNat]
  have hlp : 0 < l.length := List.length_pos_iff.2 hl0
  have dl : decide ((0 : Int) < (l.length : Int)) = true := decide_eq_true (by omega)
  by_cases hn5 : n < 500
  case neg =>
    have dn : decide ((n : Int) < 500) = false := decide_eq_false (by omega)
    simp (disch := omega) only [ite_ne, dl, dn, go_sem, ↓reduceIte, Nat.reduceEqDiff, Nat.reduceBEq, Nat.reduceAdd, Nat.reduceLeDiff, Nat.reduceLT, reduceCtorEq, Nat.reduceMul, Nat.reduceSub, Int.reduceEq, Int.reduceLT, Int.reduceLE, Int.reduceToNat]
    refine exQ_of (.mk a c d gk lo) ⟨hac, hcQ, hd, hKQ, hlo2, fun hF => ?_⟩ ?_
    · obtain ⟨x1, x2, x3, pre, x4, x5⟩ := hfin hF
      omega
    simp only [dvW, svB, dvR]
    simp (disch := omega) only [ite_ne, hnx, go_sem, ↓reduceIte, Nat.reduceEqDiff, Nat.reduceBEq, Nat.reduceAdd, Nat.reduceLeDiff, Nat.reduceLT, reduceCtorEq, Nat.reduceMul, Nat.reduceSub, Int.reduceEq, Int.reduceLT, Int.reduceLE, Int.reduceToNat]
  have dn : decide ((n : Int) < 500) = true := decide_eq_true (by omega)
  obtain ⟨f, ef⟩ : ∃ f, l[0]? = some f := ⟨l[0], by simp [hlp]⟩
  obtain ⟨l', hl'⟩ : ∃ l', l.drop 1 = l' := ⟨_, rfl⟩
  have hfx : (mapC frC l)[0]? = some [AV.i .i64 f.k, .i .i64 f.i, .i .i64 f.s, .i .i64 f.a, .s f.b] := mapC_get frC ef
  have he5 : ∀ e ∈ mapC frC l, e.length = 5 := fun e he => by
    obtain ⟨x, _, rfl⟩ := List.mem_map.1 he
    rfl
  have he1 : ∀ e ∈ mapC bl1 lo, e.length = 1 := fun e he => by
    obtain ⟨x, _, rfl⟩ := List.mem_map.1 he
    rfl
  have hi1 : (1 : Int) ≤ (l.length : Int) := by omega
  obtain ⟨c', hc1, hc2, hcL, hcG, hcA, hc8, hcQ'⟩ := cl_step hQ hcQ (hl f (List.mem_of_getElem? ef))
  have hAl := clA_len c f
  have hC := fun hp' e1 e2 m' => mRecv_ok c (by omega) (gQ Q c) (by simp [gQ]; omega) c1 kg gk hp' e1 e2 f m'
  have hcG : clG (gQ Q c) c f = gQ Q c' := hcG
  rw [hcL, hcG] at hC
  obtain ⟨A, hA⟩ : ∃ A, clA c f = A := ⟨_, rfl⟩
  obtain ⟨E, hE⟩ : ∃ E, clE c f = E := ⟨_, rfl⟩
  obtain ⟨gk', hgk⟩ : ∃ y, clN gk c f = y := ⟨_, rfl⟩
  rw [hA, hE, hgk] at hC
  rw [hA] at hcA hc8 hcQ' hAl
  unfold clW at hC
  by_cases ho0 : lo = []
  · have do' : decide ((0 : Int) < (lo.length : Int)) = false := by rw [ho0]; rfl
    simp (disch := omega) only [ite_ne, dn, dl, hlp, getK_s (mapC_get frC ef), do', hi1, Int.le_refl, true_and, go_sem, ↓reduceIte, Nat.reduceEqDiff, Nat.reduceBEq, Nat.reduceAdd, Nat.reduceLeDiff, Nat.reduceLT, reduceCtorEq, Nat.reduceMul, Nat.reduceSub, Int.reduceEq, Int.reduceLT, Int.reduceLE, Int.reduceToNat]
    refine ⟨he5, ?_⟩
    rw [hl']
    obtain ⟨lo', hlo'⟩ : ∃ lo', lo = lo' := ⟨_, rfl⟩
    have hlo3 : lo'.length ≤ lost.length := by rw [← hlo']; exact hlo2
    have hfl : fin = true → lo' = [] := fun hF => by rw [← hlo', ho0]
    rw [hlo']
    refine vcCall.x (hC _ (by (simp (disch := omega) only [ite_ne, go_sem, ↓reduceIte, Nat.reduceEqDiff, Nat.reduceBEq, Nat.reduceAdd, Nat.reduceLeDiff, Nat.reduceLT, reduceCtorEq, Nat.reduceMul, Nat.reduceSub, Int.reduceEq, Int.reduceLT, Int.reduceLE, Int.reduceToNat])) (by (simp (disch := omega) only [ite_ne, go_sem, ↓reduceIte, Nat.reduceEqDiff, Nat.reduceBEq, Nat.reduceAdd, Nat.reduceLeDiff, Nat.reduceLT, reduceCtorEq, Nat.reduceMul, Nat.reduceSub, Int.reduceEq, Int.reduceLT, Int.reduceLE, Int.reduceToNat])) _) ?_
    simp only [List.cons_append, List.nil_append]
    simp (disch := omega) only [ite_ne, dn, go_sem, ↓reduceIte, Nat.reduceEqDiff, Nat.reduceBEq, Nat.reduceAdd, Nat.reduceLeDiff, Nat.reduceLT, reduceCtorEq, Nat.reduceMul, Nat.reduceSub, Int.reduceEq, Int.reduceLT, Int.reduceLE, Int.reduceToNat]
    refine loop (dvN Q KA c0 kk g kl gl V.length c1 kg hp n c' gk' A) (dvJ fin Q KA lost m n c' A) (dvL A) (.mk 0 a d l' lo' (nx + 1)) ?_ ?_ (fun q hq => ?_)
    · refine ⟨by omega, hd, hKQ, hlo3, by omega, Nat.zero_le _, fun y hy => hl y (by rw [← hl'] at hy; exact List.mem_of_mem_drop hy), by rw [← hl', List.length_drop]; omega, fun hF => ?_⟩
      obtain ⟨x1, x2, x3, pre, x4, x5⟩ := hfin hF
      cases pre with
      | nil =>
        rw [List.nil_append] at x5
        have x6 : Q[c]? = some f := by rw [x5, List.getElem?_drop, Nat.add_zero] at ef; exact ef
        obtain ⟨y1, y2⟩ := hcQ' x6
        refine ⟨hfl hF, .inr (by rw [y2]; simp), by rw [y2]; simp, by rw [← hl', List.length_drop]; omega, [], by simp, ?_⟩
        rw [← hl', x5, List.drop_drop, y1, List.nil_append]
      | cons p pre =>
        have x6 : f = p := by rw [x5] at ef; simpa using ef.symm
        obtain ⟨y1, y2⟩ := hc8 (by rw [x6]; exact x4 p (by simp))
        refine ⟨hfl hF, .inl (by omega), by rw [y2]; simp, by rw [← hl', List.length_drop]; omega, pre, fun y hy => x4 y (by simp [hy]), ?_⟩
        rw [← hl', x5, y1]
        rfl
    · simp only [dvN]
      refine weak_ok ?_ (SubX.sub (SubX.cons ?_ (SubX.cons ?_ (SubX.cons ?_ (SubX.base hf fun k hk hkx => ?_))))) (Nat.le_refl _)
      · simp (disch := omega) only [ite_ne, go_sem, ↓reduceIte, Nat.reduceEqDiff, Nat.reduceBEq, Nat.reduceAdd, Nat.reduceLeDiff, Nat.reduceLT, reduceCtorEq, Nat.reduceMul, Nat.reduceSub, Int.reduceEq, Int.reduceLT, Int.reduceLE, Int.reduceToNat]
      · simp (disch := omega) only [ite_ne, go_sem, ↓reduceIte, Nat.reduceEqDiff, Nat.reduceBEq, Nat.reduceAdd, Nat.reduceLeDiff, Nat.reduceLT, reduceCtorEq, Nat.reduceMul, Nat.reduceSub, Int.reduceEq, Int.reduceLT, Int.reduceLE, Int.reduceToNat]
      · simp (disch := omega) only [ite_ne, go_sem, ↓reduceIte, Nat.reduceEqDiff, Nat.reduceBEq, Nat.reduceAdd, Nat.reduceLeDiff, Nat.reduceLT, reduceCtorEq, Nat.reduceMul, Nat.reduceSub, Int.reduceEq, Int.reduceLT, Int.reduceLE, Int.reduceToNat]
      · simp (disch := omega) only [ite_ne, go_sem, ↓reduceIte, Nat.reduceEqDiff, Nat.reduceBEq, Nat.reduceAdd, Nat.reduceLeDiff, Nat.reduceLT, reduceCtorEq, Nat.reduceMul, Nat.reduceSub, Int.reduceEq, Int.reduceLT, Int.reduceLE, Int.reduceToNat]
      · have n1 : ¬ c0 = k := fun e => hkx (by simp [e])
        have n2 : ¬ c1 = k := fun e => hkx (by simp [e])
        have n3 : ¬ kg = k := fun e => hkx (by simp [e])
        repeat rw [gc_ne _ _ (by omega)]
    obtain ⟨j, a2, d2, l2, lo2, nx2⟩ := q
    obtain ⟨hac2, hd2, hKQ2, hlo4, hnx2, hjA, hl2, hll2, hfin2⟩ := hq
    simp only [dvN]
    have hLl2 : (mapC frC l2).length = l2.length := mapC_len _ _
    by_cases hj : j < A.length
    case neg =>
      have dj : decide ((j : Int) < (A.length : Int)) = false := decide_eq_false (by omega)
      simp (disch := omega) only [ite_ne, dj, go_sem, ↓reduceIte, Nat.reduceEqDiff, Nat.reduceBEq, Nat.reduceAdd, Nat.reduceLeDiff, Nat.reduceLT, reduceCtorEq, Nat.reduceMul, Nat.reduceSub, Int.reduceEq, Int.reduceLT, Int.reduceLE, Int.reduceToNat]
      refine ⟨.mk (n + 1) a2 c' d2 gk' l2 lo2 nx2, ⟨hac2, hc2, hd2, hKQ2, hlo4, by omega, hnx2, hl2, by omega, fun hF => ?_⟩, by show 500 - (n + 1) < 500 - n; omega, ?_⟩
      · obtain ⟨x1, x2, x3, x4, x5⟩ := hfin2 hF
        exact ⟨x1, by omega, by omega, x5⟩
      simp only [dvO]
      refine weak_ok ?_ (Sub.refl _) (Nat.le_refl _)
      simp (disch := omega) only [ite_ne, wr64s n (by omega), go_sem, ↓reduceIte, Nat.reduceEqDiff, Nat.reduceBEq, Nat.reduceAdd, Nat.reduceLeDiff, Nat.reduceLT, reduceCtorEq, Nat.reduceMul, Nat.reduceSub, Int.reduceEq, Int.reduceLT, Int.reduceLE, Int.reduceToNat]
    have dj : decide ((j : Int) < (A.length : Int)) = true := decide_eq_true (by omega)
    obtain ⟨x, ex⟩ : ∃ x, A[j]? = some x := ⟨A[j], by simp [hj]⟩
    obtain ⟨s1, s2, s3, s4, s5⟩ := sv_step hQ hac2 hc2 (hcA x (List.mem_of_getElem? ex)) V gl
    obtain ⟨B, hB⟩ : ∃ B, (if x.k = 1 then akF 8 Q.length :: Q.drop c' else []) = B := ⟨_, rfl⟩
    rw [hB] at s5
    have hBw : ∀ y ∈ B, Way Q y := by
      rw [← hB]
      split
      · exact way_more hQ c'
      · simp
    have hBl : B.length ≤ 61 := by
      rw [← hB]
      split
      · simp; omega
      · simp
    have z1 : (l2.length : Int) ≤ 1000000 := by omega
    by_cases ho2 : lo2 = []
    · have do2 : decide ((0 : Int) < (lo2.length : Int)) = false := by rw [ho2]; rfl
      simp (disch := omega) only [ite_ne, dj, hj, do2, getK_s (mapC_get frC ex), go_sem, ↓reduceIte, Nat.reduceEqDiff, Nat.reduceBEq, Nat.reduceAdd, Nat.reduceLeDiff, Nat.reduceLT, reduceCtorEq, Nat.reduceMul, Nat.reduceSub, Int.reduceEq, Int.reduceLT, Int.reduceLE, Int.reduceToNat]
      obtain ⟨lo3, hlo3e⟩ : ∃ y, lo2 = y := ⟨_, rfl⟩
      have hlo5 : lo3.length ≤ lost.length := by rw [← hlo3e]; exact hlo4
      have hfl2 : fin = true → lo3 = [] := fun hF => by rw [← hlo3e, ho2]
      rw [hlo3e]
      have hP := fun hp' e1 e2 e3 m' => sRecv_ok x 100 Q.length a2 (by omega) KA d2 (by omega) hd2 V hV (by omega) c0 kk g kl gl hp' e1 e2 e3 d8 m'
      rw [hKQ2, s1, s2, s3, s4, s5] at hP
      obtain ⟨E2, hE2⟩ : ∃ y, rvE x Q.length a2 V = y := ⟨_, rfl⟩
      rw [hE2] at hP
      unfold svB at hP
      refine vcCall.x (hP _ (by (simp (disch := omega) only [ite_ne, go_sem, ↓reduceIte, Nat.reduceEqDiff, Nat.reduceBEq, Nat.reduceAdd, Nat.reduceLeDiff, Nat.reduceLT, reduceCtorEq, Nat.reduceMul, Nat.reduceSub, Int.reduceEq, Int.reduceLT, Int.reduceLE, Int.reduceToNat])) (by (simp (disch := omega) only [ite_ne, h2, go_sem, ↓reduceIte, Nat.reduceEqDiff, Nat.reduceBEq, Nat.reduceAdd, Nat.reduceLeDiff, Nat.reduceLT, reduceCtorEq, Nat.reduceMul, Nat.reduceSub, Int.reduceEq, Int.reduceLT, Int.reduceLE, Int.reduceToNat])) (by (simp (disch := omega) only [ite_ne, h3, go_sem, ↓reduceIte, Nat.reduceEqDiff, Nat.reduceBEq, Nat.reduceAdd, Nat.reduceLeDiff, Nat.reduceLT, reduceCtorEq, Nat.reduceMul, Nat.reduceSub, Int.reduceEq, Int.reduceLT, Int.reduceLE, Int.reduceToNat])) _) ?_
      simp only [List.cons_append, List.nil_append]
      simp (disch := omega) only [ite_ne, dj, z1, go_sem, ↓reduceIte, Nat.reduceEqDiff, Nat.reduceBEq, Nat.reduceAdd, Nat.reduceLeDiff, Nat.reduceLT, reduceCtorEq, Nat.reduceMul, Nat.reduceSub, Int.reduceEq, Int.reduceLT, Int.reduceLE, Int.reduceToNat]
      have hdl : KA.length - d2 = Q.length - a2 := by have := congrArg List.length hKQ2; rwa [List.length_drop, List.length_drop] at this
      refine ⟨by omega, by omega, by omega, by omega, .mk (j + 1) c' (d2 + (c' - a2)) (l2 ++ B) lo3 (nx2 + 1), ⟨Nat.le_refl _, by omega, by rw [← List.drop_drop, hKQ2, List.drop_drop, show a2 + (c' - a2) = c' by omega], hlo5, by omega, by omega, fun y hy => (List.mem_append.1 hy).elim (hl2 y) (hBw y), by rw [List.length_append]; omega, fun hF => ?_⟩, by show A.length - (j + 1) < A.length - j; omega, ?_⟩
      · obtain ⟨x1, x2, x3, x4, pre, x5, x6⟩ := hfin2 hF
        have hx4 := x3 x (List.mem_of_getElem? ex)
        have hB0 : B = [] := by rw [← hB, hx4, if_neg (by show ¬ (4 : Int) = 1; decide)]
        rw [hB0, List.append_nil]
        exact ⟨hfl2 hF, .inl rfl, x3, x4, pre, x5, x6⟩
      simp only [dvN]
      have hLB : (mapC frC (l2 ++ B)).length = l2.length + B.length := by rw [mapC_len, List.length_append]
      refine (weak_sh (t := 2) (k := nx2) (g := 1) (len := l2.length + B.length) (m := 5) (l := mapC frC (l2 ++ B)) (by (simp (disch := omega) only [ite_ne, go_sem, ↓reduceIte, Nat.reduceEqDiff, Nat.reduceBEq, Nat.reduceAdd, Nat.reduceLeDiff, Nat.reduceLT, reduceCtorEq, Nat.reduceMul, Nat.reduceSub, Int.reduceEq, Int.reduceLT, Int.reduceLE, Int.reduceToNat])) (by (simp (disch := omega) only [ite_ne, go_sem, ↓reduceIte, Nat.reduceEqDiff, Nat.reduceBEq, Nat.reduceAdd, Nat.reduceLeDiff, Nat.reduceLT, reduceCtorEq, Nat.reduceMul, Nat.reduceSub, Int.reduceEq, Int.reduceLT, Int.reduceLE, Int.reduceToNat])) (by omega)).trans (weak_ok ?_ (SubX.sub (SubX.cons ?_ (SubX.cons ?_ (SubX.cons ?_ (SubX.base hf fun k hk hkx => ?_))))) (Nat.le_refl _))
      · have htk : (mapC frC (l2 ++ B)).take (l2.length + B.length) = mapC frC (l2 ++ B) := List.take_of_length_le (by omega)
        rw [htk]
        simp (disch := omega) only [ite_ne, wr64s j (by omega), go_sem, ↓reduceIte, Nat.reduceEqDiff, Nat.reduceBEq, Nat.reduceAdd, Nat.reduceLeDiff, Nat.reduceLT, reduceCtorEq, Nat.reduceMul, Nat.reduceSub, Int.reduceEq, Int.reduceLT, Int.reduceLE, Int.reduceToNat]
      · simp (disch := omega) only [ite_ne, go_sem, ↓reduceIte, Nat.reduceEqDiff, Nat.reduceBEq, Nat.reduceAdd, Nat.reduceLeDiff, Nat.reduceLT, reduceCtorEq, Nat.reduceMul, Nat.reduceSub, Int.reduceEq, Int.reduceLT, Int.reduceLE, Int.reduceToNat]
      · simp (disch := omega) only [ite_ne, go_sem, ↓reduceIte, Nat.reduceEqDiff, Nat.reduceBEq, Nat.reduceAdd, Nat.reduceLeDiff, Nat.reduceLT, reduceCtorEq, Nat.reduceMul, Nat.reduceSub, Int.reduceEq, Int.reduceLT, Int.reduceLE, Int.reduceToNat]
      · simp (disch := omega) only [ite_ne, go_sem, ↓reduceIte, Nat.reduceEqDiff, Nat.reduceBEq, Nat.reduceAdd, Nat.reduceLeDiff, Nat.reduceLT, reduceCtorEq, Nat.reduceMul, Nat.reduceSub, Int.reduceEq, Int.reduceLT, Int.reduceLE, Int.reduceToNat]
      · have n4 : kl = k ∨ ¬ kl = k := Decidable.em _
        rcases n4 with rfl | n4
        · have n1 : ¬ c0 = kl := fun e => hkx (by simp [e])
          rw [gc_ne _ _ (by omega), gc_ne _ _ (by omega), gc_ne _ _ (by omega), gc_ne _ _ (by omega), gc_same]
          exact h3.symm
        · have n1 : ¬ c0 = k := fun e => hkx (by simp [e])
          have n2 : ¬ c1 = k := fun e => hkx (by simp [e])
          have n3 : ¬ kg = k := fun e => hkx (by simp [e])
          repeat rw [gc_ne _ _ (by omega)]
    · have hop2 : 0 < lo2.length := List.length_pos_iff.2 ho2
      have do2 : decide ((0 : Int) < (lo2.length : Int)) = true := decide_eq_true (by omega)
      have hi3 : (1 : Int) ≤ (lo2.length : Int) := by omega
      obtain ⟨b2, eb2⟩ : ∃ b, lo2[0]? = some b := ⟨lo2[0], by simp [hop2]⟩
      have hbx2 : (mapC bl1 lo2)[0]? = some [AV.b b2] := mapC_get bl1 eb2
      simp (disch := omega) only [ite_ne, dj, hj, do2, hop2, getK_s hbx2, hi3, Int.le_refl, true_and, go_sem, ↓reduceIte, Nat.reduceEqDiff, Nat.reduceBEq, Nat.reduceAdd, Nat.reduceLeDiff, Nat.reduceLT, reduceCtorEq, Nat.reduceMul, Nat.reduceSub, Int.reduceEq, Int.reduceLT, Int.reduceLE, Int.reduceToNat]
      refine ⟨fun e he => mapC_all (c := bl1) (n := 1) (fun _ => rfl) e he, ?_⟩
      refine cdK_of (fun q => ?_) (fun q => ?_)
      · simp (disch := omega) only [ite_ne, dj, go_sem, ↓reduceIte, Nat.reduceEqDiff, Nat.reduceBEq, Nat.reduceAdd, Nat.reduceLeDiff, Nat.reduceLT, reduceCtorEq, Nat.reduceMul, Nat.reduceSub, Int.reduceEq, Int.reduceLT, Int.reduceLE, Int.reduceToNat]
        refine ⟨.mk (j + 1) a2 d2 l2 (lo2.drop 1) nx2, ⟨hac2, hd2, hKQ2, by rw [List.length_drop]; omega, hnx2, by omega, hl2, by omega, fun hF => absurd (hfin2 hF).1 ho2⟩, by show A.length - (j + 1) < A.length - j; omega, ?_⟩
        simp only [dvN]
        refine weak_ok ?_ (Sub.refl _) (Nat.le_refl _)
        simp (disch := omega) only [ite_ne, wr64s j (by omega), go_sem, ↓reduceIte, Nat.reduceEqDiff, Nat.reduceBEq, Nat.reduceAdd, Nat.reduceLeDiff, Nat.reduceLT, reduceCtorEq, Nat.reduceMul, Nat.reduceSub, Int.reduceEq, Int.reduceLT, Int.reduceLE, Int.reduceToNat]
      simp (disch := omega) only [ite_ne, dj, hj, getK_s (mapC_get frC ex), go_sem, ↓reduceIte, Nat.reduceEqDiff, Nat.reduceBEq, Nat.reduceAdd, Nat.reduceLeDiff, Nat.reduceLT, reduceCtorEq, Nat.reduceMul, Nat.reduceSub, Int.reduceEq, Int.reduceLT, Int.reduceLE, Int.reduceToNat]
      obtain ⟨lo3, hlo3e⟩ : ∃ y, lo2.drop 1 = y := ⟨_, rfl⟩
      have hlo5 : lo3.length ≤ lost.length := by rw [← hlo3e, List.length_drop]; omega
      have hfl2 : fin = true → lo3 = [] := fun hF => absurd (hfin2 hF).1 ho2
      rw [hlo3e]
      have hP := fun hp' e1 e2 e3 m' => sRecv_ok x 100 Q.length a2 (by omega) KA d2 (by omega) hd2 V hV (by omega) c0 kk g kl gl hp' e1 e2 e3 d8 m'
      rw [hKQ2, s1, s2, s3, s4, s5] at hP
      obtain ⟨E2, hE2⟩ : ∃ y, rvE x Q.length a2 V = y := ⟨_, rfl⟩
      rw [hE2] at hP
      unfold svB at hP
      refine vcCall.x (hP _ (by (simp (disch := omega) only [ite_ne, go_sem, ↓reduceIte, Nat.reduceEqDiff, Nat.reduceBEq, Nat.reduceAdd, Nat.reduceLeDiff, Nat.reduceLT, reduceCtorEq, Nat.reduceMul, Nat.reduceSub, Int.reduceEq, Int.reduceLT, Int.reduceLE, Int.reduceToNat])) (by (simp (disch := omega) only [ite_ne, h2, go_sem, ↓reduceIte, Nat.reduceEqDiff, Nat.reduceBEq, Nat.reduceAdd, Nat.reduceLeDiff, Nat.reduceLT, reduceCtorEq, Nat.reduceMul, Nat.reduceSub, Int.reduceEq, Int.reduceLT, Int.reduceLE, Int.reduceToNat])) (by (simp (disch := omega) only [ite_ne, h3, go_sem, ↓reduceIte, Nat.reduceEqDiff, Nat.reduceBEq, Nat.reduceAdd, Nat.reduceLeDiff, Nat.reduceLT, reduceCtorEq, Nat.reduceMul, Nat.reduceSub, Int.reduceEq, Int.reduceLT, Int.reduceLE, Int.reduceToNat])) _) ?_
      simp only [List.cons_append, List.nil_append]
      simp (disch := omega) only [ite_ne, dj, z1, go_sem, ↓reduceIte, Nat.reduceEqDiff, Nat.reduceBEq, Nat.reduceAdd, Nat.reduceLeDiff, Nat.reduceLT, reduceCtorEq, Nat.reduceMul, Nat.reduceSub, Int.reduceEq, Int.reduceLT, Int.reduceLE, Int.reduceToNat]
      have hdl : KA.length - d2 = Q.length - a2 := by have := congrArg List.length hKQ2; rwa [List.length_drop, List.length_drop] at this
      refine ⟨by omega, by omega, by omega, by omega, .mk (j + 1) c' (d2 + (c' - a2)) (l2 ++ B) lo3 (nx2 + 1), ⟨Nat.le_refl _, by omega, by rw [← List.drop_drop, hKQ2, List.drop_drop, show a2 + (c' - a2) = c' by omega], hlo5, by omega, by omega, fun y hy => (List.mem_append.1 hy).elim (hl2 y) (hBw y), by rw [List.length_append]; omega, fun hF => ?_⟩, by show A.length - (j + 1) < A.length - j; omega, ?_⟩
      · obtain ⟨x1, x2, x3, x4, pre, x5, x6⟩ := hfin2 hF
        have hx4 := x3 x (List.mem_of_getElem? ex)
        have hB0 : B = [] := by rw [← hB, hx4, if_neg (by show ¬ (4 : Int) = 1; decide)]
        rw [hB0, List.append_nil]
        exact ⟨hfl2 hF, .inl rfl, x3, x4, pre, x5, x6⟩
      simp only [dvN]
      have hLB : (mapC frC (l2 ++ B)).length = l2.length + B.length := by rw [mapC_len, List.length_append]
      refine (weak_sh (t := 2) (k := nx2) (g := 1) (len := l2.length + B.length) (m := 5) (l := mapC frC (l2 ++ B)) (by (simp (disch := omega) only [ite_ne, go_sem, ↓reduceIte, Nat.reduceEqDiff, Nat.reduceBEq, Nat.reduceAdd, Nat.reduceLeDiff, Nat.reduceLT, reduceCtorEq, Nat.reduceMul, Nat.reduceSub, Int.reduceEq, Int.reduceLT, Int.reduceLE, Int.reduceToNat])) (by (simp (disch := omega) only [ite_ne, go_sem, ↓reduceIte, Nat.reduceEqDiff, Nat.reduceBEq, Nat.reduceAdd, Nat.reduceLeDiff, Nat.reduceLT, reduceCtorEq, Nat.reduceMul, Nat.reduceSub, Int.reduceEq, Int.reduceLT, Int.reduceLE, Int.reduceToNat])) (by omega)).trans (weak_ok ?_ (SubX.sub (SubX.cons ?_ (SubX.cons ?_ (SubX.cons ?_ (SubX.base hf fun k hk hkx => ?_))))) (Nat.le_refl _))
      · have htk : (mapC frC (l2 ++ B)).take (l2.length + B.length) = mapC frC (l2 ++ B) := List.take_of_length_le (by omega)
        rw [htk]
        simp (disch := omega) only [ite_ne, wr64s j (by omega), go_sem, ↓reduceIte, Nat.reduceEqDiff, Nat.reduceBEq, Nat.reduceAdd, Nat.reduceLeDiff, Nat.reduceLT, reduceCtorEq, Nat.reduceMul, Nat.reduceSub, Int.reduceEq, Int.reduceLT, Int.reduceLE, Int.reduceToNat]
      · simp (disch := omega) only [ite_ne, go_sem, ↓reduceIte, Nat.reduceEqDiff, Nat.reduceBEq, Nat.reduceAdd, Nat.reduceLeDiff, Nat.reduceLT, reduceCtorEq, Nat.reduceMul, Nat.reduceSub, Int.reduceEq, Int.reduceLT, Int.reduceLE, Int.reduceToNat]
      · simp (disch := omega) only [ite_ne, go_sem, ↓reduceIte, Nat.reduceEqDiff, Nat.reduceBEq, Nat.reduceAdd, Nat.reduceLeDiff, Nat.reduceLT, reduceCtorEq, Nat.reduceMul, Nat.reduceSub, Int.reduceEq, Int.reduceLT, Int.reduceLE, Int.reduceToNat]
      · simp (disch := omega) only [ite_ne, go_sem, ↓reduceIte, Nat.reduceEqDiff, Nat.reduceBEq, Nat.reduceAdd, Nat.reduceLeDiff, Nat.reduceLT, reduceCtorEq, Nat.reduceMul, Nat.reduceSub, Int.reduceEq, Int.reduceLT, Int.reduceLE, Int.reduceToNat]
      · have n4 : kl = k ∨ ¬ kl = k := Decidable.em _
        rcases n4 with rfl | n4
        · have n1 : ¬ c0 = kl := fun e => hkx (by simp [e])
          rw [gc_ne _ _ (by omega), gc_ne _ _ (by omega), gc_ne _ _ (by omega), gc_ne _ _ (by omega), gc_same]
          exact h3.symm
        · have n1 : ¬ c0 = k := fun e => hkx (by simp [e])
          have n2 : ¬ c1 = k := fun e => hkx (by simp [e])
          have n3 : ¬ kg = k := fun e => hkx (by simp [e])
          repeat rw [gc_ne _ _ (by omega)]
  · have hop : 0 < lo.length := List.length_pos_iff.2 ho0
    have do' : decide ((0 : Int) < (lo.length : Int)) = true := decide_eq_true (by omega)
    have hi2 : (1 : Int) ≤ (lo.length : Int) := by omega
    obtain ⟨b, eb⟩ : ∃ b, lo[0]? = some b := ⟨lo[0], by simp [hop]⟩
    have hbx : (mapC bl1 lo)[0]? = some [AV.b b] := mapC_get bl1 eb
    simp (disch := omega) only [ite_ne, dn, dl, hlp, getK_s (mapC_get frC ef), do', hop, getK_s hbx, hi1, Int.le_refl, hi2, true_and, go_sem, ↓reduceIte, Nat.reduceEqDiff, Nat.reduceBEq, Nat.reduceAdd, Nat.reduceLeDiff, Nat.reduceLT, reduceCtorEq, Nat.reduceMul, Nat.reduceSub, Int.reduceEq, Int.reduceLT, Int.reduceLE, Int.reduceToNat]
    refine ⟨he5, he1, ?_⟩
    refine cdK_of (fun q => ?_) (fun q => ?_)
    · simp (disch := omega) only [ite_ne, dn, go_sem, ↓reduceIte, Nat.reduceEqDiff, Nat.reduceBEq, Nat.reduceAdd, Nat.reduceLeDiff, Nat.reduceLT, reduceCtorEq, Nat.reduceMul, Nat.reduceSub, Int.reduceEq, Int.reduceLT, Int.reduceLE, Int.reduceToNat]
      refine ⟨.mk (n + 1) a c d gk (l.drop 1) (lo.drop 1) (nx + 1), ⟨hac, hcQ, hd, hKQ, by rw [List.length_drop]; omega, by omega, by omega, fun y hy => hl y (List.mem_of_mem_drop hy), by rw [List.length_drop]; omega, fun hF => absurd (hfin hF).1 ho0⟩, by show 500 - (n + 1) < 500 - n; omega, ?_⟩
      simp only [dvO]
      refine weak_ok ?_ (SubX.sub (SubX.cons ?_ (SubX.cons ?_ (SubX.cons ?_ (SubX.base hf fun k hk hkx => ?_))))) (Nat.le_refl _)
      · simp (disch := omega) only [ite_ne, wr64s n (by omega), go_sem, ↓reduceIte, Nat.reduceEqDiff, Nat.reduceBEq, Nat.reduceAdd, Nat.reduceLeDiff, Nat.reduceLT, reduceCtorEq, Nat.reduceMul, Nat.reduceSub, Int.reduceEq, Int.reduceLT, Int.reduceLE, Int.reduceToNat]
      · simp (disch := omega) only [ite_ne, go_sem, ↓reduceIte, Nat.reduceEqDiff, Nat.reduceBEq, Nat.reduceAdd, Nat.reduceLeDiff, Nat.reduceLT, reduceCtorEq, Nat.reduceMul, Nat.reduceSub, Int.reduceEq, Int.reduceLT, Int.reduceLE, Int.reduceToNat]
      · simp (disch := omega) only [ite_ne, go_sem, ↓reduceIte, Nat.reduceEqDiff, Nat.reduceBEq, Nat.reduceAdd, Nat.reduceLeDiff, Nat.reduceLT, reduceCtorEq, Nat.reduceMul, Nat.reduceSub, Int.reduceEq, Int.reduceLT, Int.reduceLE, Int.reduceToNat]
      · simp (disch := omega) only [ite_ne, go_sem, ↓reduceIte, Nat.reduceEqDiff, Nat.reduceBEq, Nat.reduceAdd, Nat.reduceLeDiff, Nat.reduceLT, reduceCtorEq, Nat.reduceMul, Nat.reduceSub, Int.reduceEq, Int.reduceLT, Int.reduceLE, Int.reduceToNat]
      · have n1 : ¬ c0 = k := fun e => hkx (by simp [e])
        have n2 : ¬ c1 = k := fun e => hkx (by simp [e])
        have n3 : ¬ kg = k := fun e => hkx (by simp [e])
        repeat rw [gc_ne _ _ (by omega)]
    simp (disch := omega) only [ite_ne, dn, go_sem, ↓reduceIte, Nat.reduceEqDiff, Nat.reduceBEq, Nat.reduceAdd, Nat.reduceLeDiff, Nat.reduceLT, reduceCtorEq, Nat.reduceMul, Nat.reduceSub, Int.reduceEq, Int.reduceLT, Int.reduceLE, Int.reduceToNat]
    rw [hl']
    obtain ⟨lo', hlo'⟩ : ∃ lo', lo.drop 1 = lo' := ⟨_, rfl⟩
    have hlo3 : lo'.length ≤ lost.length := by rw [← hlo', List.length_drop]; omega
    have hfl : fin = true → lo' = [] := fun hF => absurd (hfin hF).1 ho0
    rw [hlo']
    refine vcCall.x (hC _ (by (simp (disch := omega) only [ite_ne, go_sem, ↓reduceIte, Nat.reduceEqDiff, Nat.reduceBEq, Nat.reduceAdd, Nat.reduceLeDiff, Nat.reduceLT, reduceCtorEq, Nat.reduceMul, Nat.reduceSub, Int.reduceEq, Int.reduceLT, Int.reduceLE, Int.reduceToNat])) (by (simp (disch := omega) only [ite_ne, go_sem, ↓reduceIte, Nat.reduceEqDiff, Nat.reduceBEq, Nat.reduceAdd, Nat.reduceLeDiff, Nat.reduceLT, reduceCtorEq, Nat.reduceMul, Nat.reduceSub, Int.reduceEq, Int.reduceLT, Int.reduceLE, Int.reduceToNat])) _) ?_
    simp only [List.cons_append, List.nil_append]
    simp (disch := omega) only [ite_ne, dn, go_sem, ↓reduceIte, Nat.reduceEqDiff, Nat.reduceBEq, Nat.reduceAdd, Nat.reduceLeDiff, Nat.reduceLT, reduceCtorEq, Nat.reduceMul, Nat.reduceSub, Int.reduceEq, Int.reduceLT, Int.reduceLE, Int.reduceToNat]
    refine loop (dvN Q KA c0 kk g kl gl V.length c1 kg hp n c' gk' A) (dvJ fin Q KA lost m n c' A) (dvL A) (.mk 0 a d l' lo' (nx + 1)) ?_ ?_ (fun q hq => ?_)
    · refine ⟨by omega, hd, hKQ, hlo3, by omega, Nat.zero_le _, fun y hy => hl y (by rw [← hl'] at hy; exact List.mem_of_mem_drop hy), by rw [← hl', List.length_drop]; omega, fun hF => ?_⟩
      obtain ⟨x1, x2, x3, pre, x4, x5⟩ := hfin hF
      cases pre with
      | nil =>
        rw [List.nil_append] at x5
        have x6 : Q[c]? = some f := by rw [x5, List.getElem?_drop, Nat.add_zero] at ef; exact ef
        obtain ⟨y1, y2⟩ := hcQ' x6
        refine ⟨hfl hF, .inr (by rw [y2]; simp), by rw [y2]; simp, by rw [← hl', List.length_drop]; omega, [], by simp, ?_⟩
        rw [← hl', x5, List.drop_drop, y1, List.nil_append]
      | cons p pre =>
        have x6 : f = p := by rw [x5] at ef; simpa using ef.symm
        obtain ⟨y1, y2⟩ := hc8 (by rw [x6]; exact x4 p (by simp))
        refine ⟨hfl hF, .inl (by omega), by rw [y2]; simp, by rw [← hl', List.length_drop]; omega, pre, fun y hy => x4 y (by simp [hy]), ?_⟩
        rw [← hl', x5, y1]
        rfl
    · simp only [dvN]
      refine weak_ok ?_ (SubX.sub (SubX.cons ?_ (SubX.cons ?_ (SubX.cons ?_ (SubX.base hf fun k hk hkx => ?_))))) (Nat.le_refl _)
      · simp (disch := omega) only [ite_ne, go_sem, ↓reduceIte, Nat.reduceEqDiff, Nat.reduceBEq, Nat.reduceAdd, Nat.reduceLeDiff, Nat.reduceLT, reduceCtorEq, Nat.reduceMul, Nat.reduceSub, Int.reduceEq, Int.reduceLT, Int.reduceLE, Int.reduceToNat]
      · simp (disch := omega) only [ite_ne, go_sem, ↓reduceIte, Nat.reduceEqDiff, Nat.reduceBEq, Nat.reduceAdd, Nat.reduceLeDiff, Nat.reduceLT, reduceCtorEq, Nat.reduceMul, Nat.reduceSub, Int.reduceEq, Int.reduceLT, Int.reduceLE, Int.reduceToNat]
      · simp (disch := omega) only [ite_ne, go_sem, ↓reduceIte, Nat.reduceEqDiff, Nat.reduceBEq, Nat.reduceAdd, Nat.reduceLeDiff, Nat.reduceLT, reduceCtorEq, Nat.reduceMul, Nat.reduceSub, Int.reduceEq, Int.reduceLT, Int.reduceLE, Int.reduceToNat]
      · simp (disch := omega) only [ite_ne, go_sem, ↓reduceIte, Nat.reduceEqDiff, Nat.reduceBEq, Nat.reduceAdd, Nat.reduceLeDiff, Nat.reduceLT, reduceCtorEq, Nat.reduceMul, Nat.reduceSub, Int.reduceEq, Int.reduceLT, Int.reduceLE, Int.reduceToNat]
      · have n1 : ¬ c0 = k := fun e => hkx (by simp [e])
        have n2 : ¬ c1 = k := fun e => hkx (by simp [e])
        have n3 : ¬ kg = k := fun e => hkx (by simp [e])
        repeat rw [gc_ne _ _ (by omega)]
    obtain ⟨j, a2, d2, l2, lo2, nx2⟩ := q
    obtain ⟨hac2, hd2, hKQ2, hlo4, hnx2, hjA, hl2, hll2, hfin2⟩ := hq
    simp only [dvN]
    have hLl2 : (mapC frC l2).length = l2.length := mapC_len _ _
    by_cases hj : j < A.length
    case neg =>
      have dj : decide ((j : Int) < (A.length : Int)) = false := decide_eq_false (by omega)
      simp (disch := omega) only [ite_ne, dj, go_sem, ↓reduceIte, Nat.reduceEqDiff, Nat.reduceBEq, Nat.reduceAdd, Nat.reduceLeDiff, Nat.reduceLT, reduceCtorEq, Nat.reduceMul, Nat.reduceSub, Int.reduceEq, Int.reduceLT, Int.reduceLE, Int.reduceToNat]
      refine ⟨.mk (n + 1) a2 c' d2 gk' l2 lo2 nx2, ⟨hac2, hc2, hd2, hKQ2, hlo4, by omega, hnx2, hl2, by omega, fun hF => ?_⟩, by show 500 - (n + 1) < 500 - n; omega, ?_⟩
      · obtain ⟨x1, x2, x3, x4, x5⟩ := hfin2 hF
        exact ⟨x1, by omega, by omega, x5⟩
      simp only [dvO]
      refine weak_ok ?_ (Sub.refl _) (Nat.le_refl _)
      simp (disch := omega) only [ite_ne, wr64s n (by omega), go_sem, ↓reduceIte, Nat.reduceEqDiff, Nat.reduceBEq, Nat.reduceAdd, Nat.reduceLeDiff, Nat.reduceLT, reduceCtorEq, Nat.reduceMul, Nat.reduceSub, Int.reduceEq, Int.reduceLT, Int.reduceLE, Int.reduceToNat]
    have dj : decide ((j : Int) < (A.length : Int)) = true := decide_eq_true (by omega)
    obtain ⟨x, ex⟩ : ∃ x, A[j]? = some x := ⟨A[j], by simp [hj]⟩
    obtain ⟨s1, s2, s3, s4, s5⟩ := sv_step hQ hac2 hc2 (hcA x (List.mem_of_getElem? ex)) V gl
    obtain ⟨B, hB⟩ : ∃ B, (if x.k = 1 then akF 8 Q.length :: Q.drop c' else []) = B := ⟨_, rfl⟩
    rw [hB] at s5
    have hBw : ∀ y ∈ B, Way Q y := by
      rw [← hB]
      split
      · exact way_more hQ c'
      · simp
    have hBl : B.length ≤ 61 := by
      rw [← hB]
      split
      · simp; omega
      · simp
    have z1 : (l2.length : Int) ≤ 1000000 := by omega
    by_cases ho2 : lo2 = []
    · have do2 : decide ((0 : Int) < (lo2.length : Int)) = false := by rw [ho2]; rfl
      simp (disch := omega) only [ite_ne, dj, hj, do2, getK_s (mapC_get frC ex), go_sem, ↓reduceIte, Nat.reduceEqDiff, Nat.reduceBEq, Nat.reduceAdd, Nat.reduceLeDiff, Nat.reduceLT, reduceCtorEq, Nat.reduceMul, Nat.reduceSub, Int.reduceEq, Int.reduceLT, Int.reduceLE, Int.reduceToNat]
      obtain ⟨lo3, hlo3e⟩ : ∃ y, lo2 = y := ⟨_, rfl⟩
      have hlo5 : lo3.length ≤ lost.length := by rw [← hlo3e]; exact hlo4
      have hfl2 : fin = true → lo3 = [] := fun hF => by rw [← hlo3e, ho2]
      rw [hlo3e]
      have hP := fun hp' e1 e2 e3 m' => sRecv_ok x 100 Q.length a2 (by omega) KA d2 (by omega) hd2 V hV (by omega) c0 kk g kl gl hp' e1 e2 e3 d8 m'
      rw [hKQ2, s1, s2, s3, s4, s5] at hP
      obtain ⟨E2, hE2⟩ : ∃ y, rvE x Q.length a2 V = y := ⟨_, rfl⟩
      rw [hE2] at hP
      unfold svB at hP
      refine vcCall.x (hP _ (by (simp (disch := omega) only [ite_ne, go_sem, ↓reduceIte, Nat.reduceEqDiff, Nat.reduceBEq, Nat.reduceAdd, Nat.reduceLeDiff, Nat.reduceLT, reduceCtorEq, Nat.reduceMul, Nat.reduceSub, Int.reduceEq, Int.reduceLT, Int.reduceLE, Int.reduceToNat])) (by (simp (disch := omega) only [ite_ne, h2, go_sem, ↓reduceIte, Nat.reduceEqDiff, Nat.reduceBEq, Nat.reduceAdd, Nat.reduceLeDiff, Nat.reduceLT, reduceCtorEq, Nat.reduceMul, Nat.reduceSub, Int.reduceEq, Int.reduceLT, Int.reduceLE, Int.reduceToNat])) (by (simp (disch := omega) only [ite_ne, h3, go_sem, ↓reduceIte, Nat.reduceEqDiff, Nat.reduceBEq, Nat.reduceAdd, Nat.reduceLeDiff, Nat.reduceLT, reduceCtorEq, Nat.reduceMul, Nat.reduceSub, Int.reduceEq, Int.reduceLT, Int.reduceLE, Int.reduceToNat])) _) ?_
      simp only [List.cons_append, List.nil_append]
      simp (disch := omega) only [ite_ne, dj, z1, go_sem, ↓reduceIte, Nat.reduceEqDiff, Nat.reduceBEq, Nat.reduceAdd, Nat.reduceLeDiff, Nat.reduceLT, reduceCtorEq, Nat.reduceMul, Nat.reduceSub, Int.reduceEq, Int.reduceLT, Int.reduceLE, Int.reduceToNat]
      have hdl : KA.length - d2 = Q.length - a2 := by have := congrArg List.length hKQ2; rwa [List.length_drop, List.length_drop] at this
      refine ⟨by omega, by omega, by omega, by omega, .mk (j + 1) c' (d2 + (c' - a2)) (l2 ++ B) lo3 (nx2 + 1), ⟨Nat.le_refl _, by omega, by rw [← List.drop_drop, hKQ2, List.drop_drop, show a2 + (c' - a2) = c' by omega], hlo5, by omega, by omega, fun y hy => (List.mem_append.1 hy).elim (hl2 y) (hBw y), by rw [List.length_append]; omega, fun hF => ?_⟩, by show A.length - (j + 1) < A.length - j; omega, ?_⟩
      · obtain ⟨x1, x2, x3, x4, pre, x5, x6⟩ := hfin2 hF
        have hx4 := x3 x (List.mem_of_getElem? ex)
        have hB0 : B = [] := by rw [← hB, hx4, if_neg (by show ¬ (4 : Int) = 1; decide)]
        rw [hB0, List.append_nil]
        exact ⟨hfl2 hF, .inl rfl, x3, x4, pre, x5, x6⟩
      simp only [dvN]
      have hLB : (mapC frC (l2 ++ B)).length = l2.length + B.length := by rw [mapC_len, List.length_append]
      refine (weak_sh (t := 2) (k := nx2) (g := 1) (len := l2.length + B.length) (m := 5) (l := mapC frC (l2 ++ B)) (by (simp (disch := omega) only [ite_ne, go_sem, ↓reduceIte, Nat.reduceEqDiff, Nat.reduceBEq, Nat.reduceAdd, Nat.reduceLeDiff, Nat.reduceLT, reduceCtorEq, Nat.reduceMul, Nat.reduceSub, Int.reduceEq, Int.reduceLT, Int.reduceLE, Int.reduceToNat])) (by (simp (disch := omega) only [ite_ne, go_sem, ↓reduceIte, Nat.reduceEqDiff, Nat.reduceBEq, Nat.reduceAdd, Nat.reduceLeDiff, Nat.reduceLT, reduceCtorEq, Nat.reduceMul, Nat.reduceSub, Int.reduceEq, Int.reduceLT, Int.reduceLE, Int.reduceToNat])) (by omega)).trans (weak_ok ?_ (SubX.sub (SubX.cons ?_ (SubX.cons ?_ (SubX.cons ?_ (SubX.base hf fun k hk hkx => ?_))))) (Nat.le_refl _))
      · have htk : (mapC frC (l2 ++ B)).take (l2.length + B.length) = mapC frC (l2 ++ B) := List.take_of_length_le (by omega)
        rw [htk]
        simp (disch := omega) only [ite_ne, wr64s j (by omega), go_sem, ↓reduceIte, Nat.reduceEqDiff, Nat.reduceBEq, Nat.reduceAdd, Nat.reduceLeDiff, Nat.reduceLT, reduceCtorEq, Nat.reduceMul, Nat.reduceSub, Int.reduceEq, Int.reduceLT, Int.reduceLE, Int.reduceToNat]
      · simp (disch := omega) only [ite_ne, go_sem, ↓reduceIte, Nat.reduceEqDiff, Nat.reduceBEq, Nat.reduceAdd, Nat.reduceLeDiff, Nat.reduceLT, reduceCtorEq, Nat.reduceMul, Nat.reduceSub, Int.reduceEq, Int.reduceLT, Int.reduceLE, Int.reduceToNat]
      · simp (disch := omega) only [ite_ne, go_sem, ↓reduceIte, Nat.reduceEqDiff, Nat.reduceBEq, Nat.reduceAdd, Nat.reduceLeDiff, Nat.reduceLT, reduceCtorEq, Nat.reduceMul, Nat.reduceSub, Int.reduceEq, Int.reduceLT, Int.reduceLE, Int.reduceToNat]
      · simp (disch := omega) only [ite_ne, go_sem, ↓reduceIte, Nat.reduceEqDiff, Nat.reduceBEq, Nat.reduceAdd, Nat.reduceLeDiff, Nat.reduceLT, reduceCtorEq, Nat.reduceMul, Nat.reduceSub, Int.reduceEq, Int.reduceLT, Int.reduceLE, Int.reduceToNat]
      · have n4 : kl = k ∨ ¬ kl = k := Decidable.em _
        rcases n4 with rfl | n4
        · have n1 : ¬ c0 = kl := fun e => hkx (by simp [e])
          rw [gc_ne _ _ (by omega), gc_ne _ _ (by omega), gc_ne _ _ (by omega), gc_ne _ _ (by omega), gc_same]
          exact h3.symm
        · have n1 : ¬ c0 = k := fun e => hkx (by simp [e])
          have n2 : ¬ c1 = k := fun e => hkx (by simp [e])
          have n3 : ¬ kg = k := fun e => hkx (by simp [e])
          repeat rw [gc_ne _ _ (by omega)]
    · have hop2 : 0 < lo2.length := List.length_pos_iff.2 ho2
      have do2 : decide ((0 : Int) < (lo2.length : Int)) = true := decide_eq_true (by omega)
      have hi3 : (1 : Int) ≤ (lo2.length : Int) := by omega
      obtain ⟨b2, eb2⟩ : ∃ b, lo2[0]? = some b := ⟨lo2[0], by simp [hop2]⟩
      have hbx2 : (mapC bl1 lo2)[0]? = some [AV.b b2] := mapC_get bl1 eb2
      simp (disch := omega) only [ite_ne, dj, hj, do2, hop2, getK_s hbx2, hi3, Int.le_refl, true_and, go_sem, ↓reduceIte, Nat.reduceEqDiff, Nat.reduceBEq, Nat.reduceAdd, Nat.reduceLeDiff, Nat.reduceLT, reduceCtorEq, Nat.reduceMul, Nat.reduceSub, Int.reduceEq, Int.reduceLT, Int.reduceLE, Int.reduceToNat]
      refine ⟨fun e he => mapC_all (c := bl1) (n := 1) (fun _ => rfl) e he, ?_⟩
      refine cdK_of (fun q => ?_) (fun q => ?_)
      · simp (disch := omega) only [ite_ne, dj, go_sem, ↓reduceIte, Nat.reduceEqDiff, Nat.reduceBEq, Nat.reduceAdd, Nat.reduceLeDiff, Nat.reduceLT, reduceCtorEq, Nat.reduceMul, Nat.reduceSub, Int.reduceEq, Int.reduceLT, Int.reduceLE, Int.reduceToNat]
        refine ⟨.mk (j + 1) a2 d2 l2 (lo2.drop 1) nx2, ⟨hac2, hd2, hKQ2, by rw [List.length_drop]; omega, hnx2, by omega, hl2, by omega, fun hF => absurd (hfin2 hF).1 ho2⟩, by show A.length - (j + 1) < A.length - j; omega, ?_⟩
        simp only [dvN]
        refine weak_ok ?_ (Sub.refl _) (Nat.le_refl _)
        simp (disch := omega) only [ite_ne, wr64s j (by omega), go_sem, ↓reduceIte, Nat.reduceEqDiff, Nat.reduceBEq, Nat.reduceAdd, Nat.reduceLeDiff, Nat.reduceLT, reduceCtorEq, Nat.reduceMul, Nat.reduceSub, Int.reduceEq, Int.reduceLT, Int.reduceLE, Int.reduceToNat]
      simp (disch := omega) only [ite_ne, dj, hj, getK_s (mapC_get frC ex), go_sem, ↓reduceIte, Nat.reduceEqDiff, Nat.reduceBEq, Nat.reduceAdd, Nat.reduceLeDiff, Nat.reduceLT, reduceCtorEq, Nat.reduceMul, Nat.reduceSub, Int.reduceEq, Int.reduceLT, Int.reduceLE, Int.reduceToNat]
      obtain ⟨lo3, hlo3e⟩ : ∃ y, lo2.drop 1 = y := ⟨_, rfl⟩
      have hlo5 : lo3.length ≤ lost.length := by rw [← hlo3e, List.length_drop]; omega
      have hfl2 : fin = true → lo3 = [] := fun hF => absurd (hfin2 hF).1 ho2
      rw [hlo3e]
      have hP := fun hp' e1 e2 e3 m' => sRecv_ok x 100 Q.length a2 (by omega) KA d2 (by omega) hd2 V hV (by omega) c0 kk g kl gl hp' e1 e2 e3 d8 m'
      rw [hKQ2, s1, s2, s3, s4, s5] at hP
      obtain ⟨E2, hE2⟩ : ∃ y, rvE x Q.length a2 V = y := ⟨_, rfl⟩
      rw [hE2] at hP
      unfold svB at hP
      refine vcCall.x (hP _ (by (simp (disch := omega) only [ite_ne, go_sem, ↓reduceIte, Nat.reduceEqDiff, Nat.reduceBEq, Nat.reduceAdd, Nat.reduceLeDiff, Nat.reduceLT, reduceCtorEq, Nat.reduceMul, Nat.reduceSub, Int.reduceEq, Int.reduceLT, Int.reduceLE, Int.reduceToNat])) (by (simp (disch := omega) only [ite_ne, h2, go_sem, ↓reduceIte, Nat.reduceEqDiff, Nat.reduceBEq, Nat.reduceAdd, Nat.reduceLeDiff, Nat.reduceLT, reduceCtorEq, Nat.reduceMul, Nat.reduceSub, Int.reduceEq, Int.reduceLT, Int.reduceLE, Int.reduceToNat])) (by (simp (disch := omega) only [ite_ne, h3, go_sem, ↓reduceIte, Nat.reduceEqDiff, Nat.reduceBEq, Nat.reduceAdd, Nat.reduceLeDiff, Nat.reduceLT, reduceCtorEq, Nat.reduceMul, Nat.reduceSub, Int.reduceEq, Int.reduceLT, Int.reduceLE, Int.reduceToNat])) _) ?_
      simp only [List.cons_append, List.nil_append]
      simp (disch := omega) only [ite_ne, dj, z1, go_sem, ↓reduceIte, Nat.reduceEqDiff, Nat.reduceBEq, Nat.reduceAdd, Nat.reduceLeDiff, Nat.reduceLT, reduceCtorEq, Nat.reduceMul, Nat.reduceSub, Int.reduceEq, Int.reduceLT, Int.reduceLE, Int.reduceToNat]
      have hdl : KA.length - d2 = Q.length - a2 := by have := congrArg List.length hKQ2; rwa [List.length_drop, List.length_drop] at this
      refine ⟨by omega, by omega, by omega, by omega, .mk (j + 1) c' (d2 + (c' - a2)) (l2 ++ B) lo3 (nx2 + 1), ⟨Nat.le_refl _, by omega, by rw [← List.drop_drop, hKQ2, List.drop_drop, show a2 + (c' - a2) = c' by omega], hlo5, by omega, by omega, fun y hy => (List.mem_append.1 hy).elim (hl2 y) (hBw y), by rw [List.length_append]; omega, fun hF => ?_⟩, by show A.length - (j + 1) < A.length - j; omega, ?_⟩
      · obtain ⟨x1, x2, x3, x4, pre, x5, x6⟩ := hfin2 hF
        have hx4 := x3 x (List.mem_of_getElem? ex)
        have hB0 : B = [] := by rw [← hB, hx4, if_neg (by show ¬ (4 : Int) = 1; decide)]
        rw [hB0, List.append_nil]
        exact ⟨hfl2 hF, .inl rfl, x3, x4, pre, x5, x6⟩
      simp only [dvN]
      have hLB : (mapC frC (l2 ++ B)).length = l2.length + B.length := by rw [mapC_len, List.length_append]
      refine (weak_sh (t := 2) (k := nx2) (g := 1) (len := l2.length + B.length) (m := 5) (l := mapC frC (l2 ++ B)) (by (simp (disch := omega) only [ite_ne, go_sem, ↓reduceIte, Nat.reduceEqDiff, Nat.reduceBEq, Nat.reduceAdd, Nat.reduceLeDiff, Nat.reduceLT, reduceCtorEq, Nat.reduceMul, Nat.reduceSub, Int.reduceEq, Int.reduceLT, Int.reduceLE, Int.reduceToNat])) (by (simp (disch := omega) only [ite_ne, go_sem, ↓reduceIte, Nat.reduceEqDiff, Nat.reduceBEq, Nat.reduceAdd, Nat.reduceLeDiff, Nat.reduceLT, reduceCtorEq, Nat.reduceMul, Nat.reduceSub, Int.reduceEq, Int.reduceLT, Int.reduceLE, Int.reduceToNat])) (by omega)).trans (weak_ok ?_ (SubX.sub (SubX.cons ?_ (SubX.cons ?_ (SubX.cons ?_ (SubX.base hf fun k hk hkx => ?_))))) (Nat.le_refl _))
      · have htk : (mapC frC (l2 ++ B)).take (l2.length + B.length) = mapC frC (l2 ++ B) := List.take_of_length_le (by omega)
        rw [htk]
        simp (disch := omega) only [ite_ne, wr64s j (by omega), go_sem, ↓reduceIte, Nat.reduceEqDiff, Nat.reduceBEq, Nat.reduceAdd, Nat.reduceLeDiff, Nat.reduceLT, reduceCtorEq, Nat.reduceMul, Nat.reduceSub, Int.reduceEq, Int.reduceLT, Int.reduceLE, Int.reduceToNat]
      · simp (disch := omega) only [ite_ne, go_sem, ↓reduceIte, Nat.reduceEqDiff, Nat.reduceBEq, Nat.reduceAdd, Nat.reduceLeDiff, Nat.reduceLT, reduceCtorEq, Nat.reduceMul, Nat.reduceSub, Int.reduceEq, Int.reduceLT, Int.reduceLE, Int.reduceToNat]
      · simp (disch := omega) only [ite_ne, go_sem, ↓reduceIte, Nat.reduceEqDiff, Nat.reduceBEq, Nat.reduceAdd, Nat.reduceLeDiff, Nat.reduceLT, reduceCtorEq, Nat.reduceMul, Nat.reduceSub, Int.reduceEq, Int.reduceLT, Int.reduceLE, Int.reduceToNat]
      · simp (disch := omega) only [ite_ne, go_sem, ↓reduceIte, Nat.reduceEqDiff, Nat.reduceBEq, Nat.reduceAdd, Nat.reduceLeDiff, Nat.reduceLT, reduceCtorEq, Nat.reduceMul, Nat.reduceSub, Int.reduceEq, Int.reduceLT, Int.reduceLE, Int.reduceToNat]
      · have n4 : kl = k ∨ ¬ kl = k := Decidable.em _
        rcases n4 with rfl | n4
        · have n1 : ¬ c0 = kl := fun e => hkx (by simp [e])
          rw [gc_ne _ _ (by omega), gc_ne _ _ (by omega), gc_ne _ _ (by omega), gc_ne _ _ (by omega), gc_same]
          exact h3.symm
        · have n1 : ¬ c0 = k := fun e => hkx (by simp [e])
          have n2 : ¬ c1 = k := fun e => hkx (by simp [e])
          have n3 : ¬ kg = k := fun e => hkx (by simp [e])
          repeat rw [gc_ne _ _ (by omega)]
end Go.Proofs.Ytdodiembhgjecaa
