/-
  The parts MxRC of the proof, in one file. Conditions: none.
-/
import Derived.Test.YtdodiembhgjecaaMc49
namespace Go.Proofs.Ytdodiembhgjecaa
open Go.Eng
set_option linter.unusedVariables false
set_option linter.unusedSimpArgs false
set_option maxRecDepth 20000
set_option maxHeartbeats 8000000
theorem got_pair (R : List Frm) (id : Int) : gotL (R.map msg) id = gotR R id := by
  unfold gotL gotR
  induction R with
  | nil => rfl
  | cons x R ih =>
    rw [List.map_cons]
    have e : (msg x).id = x.i := rfl
    by_cases c : x.i = id
    · rw [List.filter_cons_of_pos (by simp [e, c]), List.filter_cons_of_pos (by simp [c]), List.map_cons, List.map_cons, ih]; rfl
    · rw [List.filter_cons_of_neg (by simp [e, c]), List.filter_cons_of_neg (by simp [c]), ih]
inductive Stp where
  | mk (n : Int) (k : Int) (i : Int) (s : Int) (a : Int) (b : ByteArray)
deriving DecidableEq
def Stp.n : Stp → Int | .mk n _ _ _ _ _ => n
theorem Stp.n_mk (n : Int) (k : Int) (i : Int) (s : Int) (a : Int) (b : ByteArray) : (Stp.mk n k i s a b).n = n := rfl
def Stp.k : Stp → Int | .mk _ k _ _ _ _ => k
theorem Stp.k_mk (n : Int) (k : Int) (i : Int) (s : Int) (a : Int) (b : ByteArray) : (Stp.mk n k i s a b).k = k := rfl
def Stp.i : Stp → Int | .mk _ _ i _ _ _ => i
theorem Stp.i_mk (n : Int) (k : Int) (i : Int) (s : Int) (a : Int) (b : ByteArray) : (Stp.mk n k i s a b).i = i := rfl
def Stp.s : Stp → Int | .mk _ _ _ s _ _ => s
theorem Stp.s_mk (n : Int) (k : Int) (i : Int) (s : Int) (a : Int) (b : ByteArray) : (Stp.mk n k i s a b).s = s := rfl
def Stp.a : Stp → Int | .mk _ _ _ _ a _ => a
theorem Stp.a_mk (n : Int) (k : Int) (i : Int) (s : Int) (a : Int) (b : ByteArray) : (Stp.mk n k i s a b).a = a := rfl
def Stp.b : Stp → ByteArray | .mk _ _ _ _ _ b => b
theorem Stp.b_mk (n : Int) (k : Int) (i : Int) (s : Int) (a : Int) (b : ByteArray) : (Stp.mk n k i s a b).b = b := rfl
theorem Stp.ext {x y : Stp} (h0 : x.n = y.n) (h1 : x.k = y.k) (h2 : x.i = y.i) (h3 : x.s = y.s) (h4 : x.a = y.a) (h5 : x.b = y.b) : x = y := by cases x; cases y; simp only [Stp.n_mk, Stp.k_mk, Stp.i_mk, Stp.s_mk, Stp.a_mk, Stp.b_mk] at *; simp [*]
def spC (x : Stp) : List AV := [.i .i64 x.n, .i .i64 x.k, .i .i64 x.i, .i .i64 x.s, .i .i64 x.a, .s x.b]
attribute [go_sem] spC Stp.n_mk Stp.k_mk Stp.i_mk Stp.s_mk Stp.a_mk Stp.b_mk
attribute [grind =] Stp.n_mk Stp.k_mk Stp.i_mk Stp.s_mk Stp.a_mk Stp.b_mk
attribute [ext] Stp.ext
attribute [grind ext] Stp.ext
theorem Meets.e0d {P : Program} {f : FuncId} {hp : CH} {n : Nat} {args args' : List AV} {i : Nat} {R : CH → Nat → AV → Prop} (hi : args[i]? = some .e0) (ha : args' = args.set i (.ds [])) (c : Meets P f hp n args' R) : Meets P f hp n args R := by
  subst ha
  refine ⟨c.1, fun h ρ w vs hs ra => c.2 h ρ w vs hs ⟨by rw [List.length_set]; exact ra.1, fun j α v h1 h2 => ?_⟩⟩
  by_cases e : i = j
  · subst e
    rw [List.getElem?_set_self (List.getElem?_eq_some_iff.1 hi).1] at h1
    cases h1
    exact .pu _ _ (cvR_rel hs (ra.2 i _ v hi h2) rfl)
  · rw [List.getElem?_set_ne e] at h1
    exact ra.2 j α v h1 h2
/-- Memory between two steps. -/
def rcM (m : Nat) (hp : CH) (last : Int) (KA : List Frm) (a : Int) (d g : Nat) (V : List Int) (gl : Nat) (c : Int) (G : List Msg) (gk : Nat) (S1 : List ByteArray) (g1 : Nat) (S2 : List ByteArray) (g2 : Nat) (S3 : List ByteArray) (g3 : Nat) (S4 : List ByteArray) (g4 : Nat) : CH :=
  (m, .bx [.i .i64 100, .i .i64 last, .i .i64 a, .rf (m + 3) g 5 d (KA.length - d), .rw (m + 4) gl V.length]) :: (m + 3, .rw g 5 (mapC frC KA)) :: (m + 4, .rw gl 1 (mapC in1 V)) ::
  (m + 1, .bx [.b true, .i .i64 c, .rw (m + 5) gk G.length]) :: (m + 5, .rw gk 2 (mapC mgC G)) ::
  (m + 2, .bx [.e0, .rw (m + 6) g1 S1.length, .rw (m + 7) g2 S2.length, .rw (m + 8) g3 S3.length, .rw (m + 9) g4 S4.length]) :: (m + 6, .rw g1 1 (stC S1)) :: (m + 7, .rw g2 1 (stC S2)) :: (m + 8, .rw g3 1 (stC S3)) :: (m + 9, .rw g4 1 (stC S4)) :: hp
/-- The head of the loop over calls. -/
inductive R2
  | mk (i : Nat) (Q KA : List Frm) (a d g c gk g1 g2 g3 g4 : Nat) (lost : List Bool) (n : Nat)
def vL (j : Nat) : List Int := (List.range (j - 1)).map fun k : Nat => ((k : Int) + 1)
inductive R1
  | mk (j n : Nat)
def r1S (m : Nat) (hp : CH) (l : List Stp) (lost : List Bool) : R1 → St
  | .mk j n => ⟨[(0, .ds (mapC spC l)), (1, .ds (mapC bl1 lost)), (5, .bx m 0), (7, .bx (m + 1) 0), (8, .bx (m + 2) 0), (9, .i .i64 j)], rcM m hp 0 [] 0 0 0 (vL j) (j - 1) 0 [] 0 [] 0 [] 0 [] 0 [] 0, n⟩
def r1I (m : Nat) : R1 → Prop
  | .mk j n => (1 ≤ j ∧ j ≤ 5) ∧ m + 10 ≤ n
def r1M : R1 → Nat
  | .mk j n => 5 - j
def r2S (m : Nat) (hp : CH) (l : List Stp) : R2 → St
  | .mk i Q KA a d g c gk g1 g2 g3 g4 lost n => ⟨[(0, .ds (mapC spC l)), (1, .ds (mapC bl1 lost)), (5, .bx m 0), (7, .bx (m + 1) 0), (8, .bx (m + 2) 0), (12, .i .i64 i)], rcM m hp Q.length KA a d g (vL 5) 4 c (gQ Q c) gk (gotR Q 1) g1 (gotR Q 2) g2 (gotR Q 3) g3 (gotR Q 4) g4, n⟩
def r2I (m : Nat) (l : List Stp) : R2 → Prop
  | .mk i Q KA a d g c gk g1 g2 g3 g4 lost n => i ≤ l.length ∧ Q.length = i ∧ LogOk Q ∧ KA.length ≤ i ∧ d ≤ KA.length ∧ KA.drop d = Q.drop a ∧ a ≤ c ∧ c ≤ Q.length ∧ lost.length ≤ 200 ∧ m + 10 ≤ n
def r2M (l : List Stp) : R2 → Nat
  | .mk i Q KA a d g c gk g1 g2 g3 g4 lost n => l.length - i
theorem LogOk.snoc {Q : List Frm} (h : LogOk Q) (hl : Q.length < 60) {i : Int} {b : ByteArray} (hi : 1 ≤ i ∧ i ≤ 4) (hb : b.size ≤ 50) : LogOk (Q ++ [.mk 5 i ((Q.length : Int) + 1) 0 b]) := by
  refine ⟨by simp; omega, fun j f hj => ?_⟩
  rw [List.getElem?_append] at hj
  split at hj
  · exact h.mem j f hj
  · rename_i q
    have : j = Q.length := by
      rcases Nat.lt_or_ge (j - Q.length) 1 with z | z
      · omega
      · rw [List.getElem?_eq_none (by simpa using z)] at hj; cases hj
    subst this
    simp at hj
    exact ⟨i, b, hj.symm, hi, hb⟩
theorem gQ_snoc {Q : List Frm} {c : Nat} (hc : c ≤ Q.length) (f : Frm) : gQ (Q ++ [f]) c = gQ Q c := by
  unfold gQ
  rw [List.take_append_of_le_length hc]
theorem gotR_snoc (Q : List Frm) (f : Frm) (id : Int) : gotR (Q ++ [f]) id = if f.i = id then gotR Q id ++ [f.b] else gotR Q id := by
  unfold gotR
  rw [List.filter_append, List.map_append]
  by_cases q : f.i = id
  · rw [if_pos q]; simp [q]
  · rw [if_neg q]; simp [q]
theorem got_take (Q : List Frm) (c : Nat) (id : Int) : gotR (Q.take c) id = (gotR Q id).take (gotR (Q.take c) id).length := by
  have h : gotR Q id = gotR (Q.take c) id ++ gotR (Q.drop c) id := by
    unfold gotR
    rw [← List.map_append, ← List.filter_append, List.take_append_drop]
  rw [h, List.take_left']
  rfl
theorem got_len (Q : List Frm) (c : Nat) (id : Int) : (gotR (Q.take c) id).length ≤ (gotR Q id).length := by
  have h := congrArg List.length (got_take Q c id)
  rw [List.length_take] at h
  omega
theorem has_vL {i : Int} (h : 1 ≤ i ∧ i ≤ 4) : hasI i (vL 5) = true := by
  rcases (by omega : i = 1 ∨ i = 2 ∨ i = 3 ∨ i = 4) with rfl | rfl | rfl | rfl <;> decide
theorem texts_row (T S : List ByteArray) (hT : T = S.take T.length) (hl : S.length ≤ 1000000) (hTl : T.length ≤ S.length) {k g : Nat} {hp : CH} (hk : gc hp k = .rw g 1 (stC S)) (m : Nat) : MeetsF Try.prog 28 hp m [.ds (stC T), .rw k g T.length] (.b true) := by
  have hSl : (stC S).length = S.length := mapC_len _ _
  have ht : (stC S).take T.length = stC T := by
    conv => rhs; rw [hT]
    exact (List.map_take).symm
  refine MeetsF.lend (R := [(k, .sh g 1 (stC S))]) (B := []) ⟨.inl hk, trivial⟩ trivial ?_ rfl (texts_eq T (by omega) _ _)
  simp (disch := omega) only [ite_ne, hSl, ht, hTl, go_sem, ↓reduceIte, Nat.reduceEqDiff, Nat.reduceBEq, Nat.reduceAdd, Nat.reduceLeDiff, Nat.reduceLT, reduceCtorEq, Nat.reduceMul, Nat.reduceSub, Int.reduceEq, Int.reduceLT, Int.reduceLE, Int.reduceToNat]
  try rfl
theorem op_0 {Q : List Frm} (hQ : LogOk Q) {a c : Nat} (ha : a ≤ c) (hc : c ≤ Q.length) (V : List Int) : rvE (akF 1 c) Q.length a V = 0 := by
  have hl := hQ.len
  have h0 : chk (akF 1 c) = 0 := chk_ak (.inl rfl) (by omega)
  have k1 : (akF 1 c).k = 1 := rfl
  have k2 : (akF 1 c).a = c := rfl
  have h1 : ¬ ((Q.length : Int) < c) := by omega
  have h2 : ¬ ((c : Int) < a) := by omega
  simp [rvE, opE, h0, k1, k2, h1, h2]
def r3S (m : Nat) (hp : CH) (Q KA : List Frm) (d g gk g1 g2 g3 g4 : Nat) : R1 → St
  | .mk j n => ⟨[(5, .bx m 0), (7, .bx (m + 1) 0), (8, .bx (m + 2) 0), (18, .i .i64 0), (19, .i .i64 j)], rcM m hp Q.length KA Q.length d g (vL 5) 4 Q.length (gQ Q Q.length) gk (gotR Q 1) g1 (gotR Q 2) g2 (gotR Q 3) g3 (gotR Q 4) g4, n⟩
theorem lawRecovers (l : List Stp) (lost : List Bool) (hp : CH) (m : Nat) : MeetsF Try.prog 5 hp m [.ds (mapC spC l), .ds (mapC bl1 lost)] (.b true) := by
  have hll : (mapC spC l).length = l.length := mapC_len _ _
  have hlo : (mapC bl1 lost).length = lost.length := mapC_len _ _
  refine meetsF Try.func5 (by kernel_rfl) cc5 cr5 rfl fun hf => ?_; unfold ck5
  by_cases h60 : 60 < l.length
  · have d1 : decide ((60 : Int) < (l.length : Int)) = true := decide_eq_true (by omega)
    simp (disch := omega) only [ite_ne, d1, go_sem, ↓reduceIte, Nat.reduceEqDiff, Nat.reduceBEq, Nat.reduceAdd, Nat.reduceLeDiff, Nat.reduceLT, reduceCtorEq, Nat.reduceMul, Nat.reduceSub, Int.reduceEq, Int.reduceLT, Int.reduceLE, Int.reduceToNat]
    refine vcCall.f (exh47_ok _ _) ?_
    simp only [go_sem, ↓reduceIte, Nat.reduceEqDiff, Nat.reduceBEq, Nat.reduceAdd, Nat.reduceLeDiff, Nat.reduceLT, reduceCtorEq, Nat.reduceMul, Nat.reduceSub, Int.reduceEq, Int.reduceLT, Int.reduceLE, Int.reduceToNat]
  have d1 : decide ((60 : Int) < (l.length : Int)) = false := decide_eq_false (by omega)
  by_cases h200 : 200 < lost.length
  · have d2 : decide ((200 : Int) < (lost.length : Int)) = true := decide_eq_true (by omega)
    simp (disch := omega) only [ite_ne, d1, d2, go_sem, ↓reduceIte, Nat.reduceEqDiff, Nat.reduceBEq, Nat.reduceAdd, Nat.reduceLeDiff, Nat.reduceLT, reduceCtorEq, Nat.reduceMul, Nat.reduceSub, Int.reduceEq, Int.reduceLT, Int.reduceLE, Int.reduceToNat]
    refine vcCall.f (exh47_ok _ _) ?_
    simp only [go_sem, ↓reduceIte, Nat.reduceEqDiff, Nat.reduceBEq, Nat.reduceAdd, Nat.reduceLeDiff, Nat.reduceLT, reduceCtorEq, Nat.reduceMul, Nat.reduceSub, Int.reduceEq, Int.reduceLT, Int.reduceLE, Int.reduceToNat]
  have d2 : decide ((200 : Int) < (lost.length : Int)) = false := decide_eq_false (by omega)
  simp (disch := omega) only [ite_ne, d1, d2, go_sem, ↓reduceIte, Nat.reduceEqDiff, Nat.reduceBEq, Nat.reduceAdd, Nat.reduceLeDiff, Nat.reduceLT, reduceCtorEq, Nat.reduceMul, Nat.reduceSub, Int.reduceEq, Int.reduceLT, Int.reduceLE, Int.reduceToNat]
  refine vcCall.r (sNew_ok 100 (by omega) _ _) fun hp' n' r ⟨e1, e2, e3⟩ => ?_
  subst e1
  subst e2
  subst e3
  simp only [go_sem, ↓reduceIte, Nat.reduceEqDiff, Nat.reduceBEq, Nat.reduceAdd, Nat.reduceLeDiff, Nat.reduceLT, reduceCtorEq, Nat.reduceMul, Nat.reduceSub, Int.reduceEq, Int.reduceLT, Int.reduceLE, Int.reduceToNat]
  refine vcCall.r (cNew _ _) fun hp' n' r ⟨e1, e2, e3⟩ => ?_
  subst e1
  subst e2
  subst e3
  simp only [go_sem, ↓reduceIte, Nat.reduceEqDiff, Nat.reduceBEq, Nat.reduceAdd, Nat.reduceLeDiff, Nat.reduceLT, reduceCtorEq, Nat.reduceMul, Nat.reduceSub, Int.reduceEq, Int.reduceLT, Int.reduceLE, Int.reduceToNat]
  refine loop (r1S m hp l lost) (r1I m) r1M (.mk 1 (m + 10)) ?_ ?_ (fun q hj => ?_)
  · exact ⟨⟨by omega, by omega⟩, Nat.le_refl _⟩
  · simp only [r1S]
    simp only [rcM]
    refine (weak_b0 (cs := [.i .i64 100, .i .i64 0, .i .i64 0, .e0, .e0]) (c := m) (i := 3) (m := 5) (by first | ((simp (disch := omega) only [ite_ne, go_sem, ↓reduceIte, Nat.reduceEqDiff, Nat.reduceBEq, Nat.reduceAdd, Nat.reduceLeDiff, Nat.reduceLT, reduceCtorEq, Nat.reduceMul, Nat.reduceSub, Int.reduceEq, Int.reduceLT, Int.reduceLE, Int.reduceToNat]); done) | ((simp (disch := omega) only [ite_ne, go_sem, ↓reduceIte, Nat.reduceEqDiff, Nat.reduceBEq, Nat.reduceAdd, Nat.reduceLeDiff, Nat.reduceLT, reduceCtorEq, Nat.reduceMul, Nat.reduceSub, Int.reduceEq, Int.reduceLT, Int.reduceLE, Int.reduceToNat]); rfl)) rfl).trans
      ((weak_b0 (cs := [.i .i64 100, .i .i64 0, .i .i64 0, .rw (m + 3) 0 0, .e0]) (c := m) (i := 4) (m := 1) (by first | ((simp (disch := omega) only [ite_ne, go_sem, ↓reduceIte, Nat.reduceEqDiff, Nat.reduceBEq, Nat.reduceAdd, Nat.reduceLeDiff, Nat.reduceLT, reduceCtorEq, Nat.reduceMul, Nat.reduceSub, Int.reduceEq, Int.reduceLT, Int.reduceLE, Int.reduceToNat]); done) | ((simp (disch := omega) only [ite_ne, go_sem, ↓reduceIte, Nat.reduceEqDiff, Nat.reduceBEq, Nat.reduceAdd, Nat.reduceLeDiff, Nat.reduceLT, reduceCtorEq, Nat.reduceMul, Nat.reduceSub, Int.reduceEq, Int.reduceLT, Int.reduceLE, Int.reduceToNat]); rfl)) rfl).trans
      ((weak_b0 (cs := [.b true, .i .i64 0, .e0]) (c := m + 1) (i := 2) (m := 2) (by first | ((simp (disch := omega) only [ite_ne, go_sem, ↓reduceIte, Nat.reduceEqDiff, Nat.reduceBEq, Nat.reduceAdd, Nat.reduceLeDiff, Nat.reduceLT, reduceCtorEq, Nat.reduceMul, Nat.reduceSub, Int.reduceEq, Int.reduceLT, Int.reduceLE, Int.reduceToNat]); done) | ((simp (disch := omega) only [ite_ne, go_sem, ↓reduceIte, Nat.reduceEqDiff, Nat.reduceBEq, Nat.reduceAdd, Nat.reduceLeDiff, Nat.reduceLT, reduceCtorEq, Nat.reduceMul, Nat.reduceSub, Int.reduceEq, Int.reduceLT, Int.reduceLE, Int.reduceToNat]); rfl)) rfl).trans
      ((weak_b0 (cs := [.e0, .e0, .e0, .e0, .e0]) (c := m + 2) (i := 1) (m := 1) (by first | ((simp (disch := omega) only [ite_ne, go_sem, ↓reduceIte, Nat.reduceEqDiff, Nat.reduceBEq, Nat.reduceAdd, Nat.reduceLeDiff, Nat.reduceLT, reduceCtorEq, Nat.reduceMul, Nat.reduceSub, Int.reduceEq, Int.reduceLT, Int.reduceLE, Int.reduceToNat]); done) | ((simp (disch := omega) only [ite_ne, go_sem, ↓reduceIte, Nat.reduceEqDiff, Nat.reduceBEq, Nat.reduceAdd, Nat.reduceLeDiff, Nat.reduceLT, reduceCtorEq, Nat.reduceMul, Nat.reduceSub, Int.reduceEq, Int.reduceLT, Int.reduceLE, Int.reduceToNat]); rfl)) rfl).trans
      ((weak_b0 (cs := [.e0, .rw (m + 6) 0 0, .e0, .e0, .e0]) (c := m + 2) (i := 2) (m := 1) (by first | ((simp (disch := omega) only [ite_ne, go_sem, ↓reduceIte, Nat.reduceEqDiff, Nat.reduceBEq, Nat.reduceAdd, Nat.reduceLeDiff, Nat.reduceLT, reduceCtorEq, Nat.reduceMul, Nat.reduceSub, Int.reduceEq, Int.reduceLT, Int.reduceLE, Int.reduceToNat]); done) | ((simp (disch := omega) only [ite_ne, go_sem, ↓reduceIte, Nat.reduceEqDiff, Nat.reduceBEq, Nat.reduceAdd, Nat.reduceLeDiff, Nat.reduceLT, reduceCtorEq, Nat.reduceMul, Nat.reduceSub, Int.reduceEq, Int.reduceLT, Int.reduceLE, Int.reduceToNat]); rfl)) rfl).trans
      ((weak_b0 (cs := [.e0, .rw (m + 6) 0 0, .rw (m + 7) 0 0, .e0, .e0]) (c := m + 2) (i := 3) (m := 1) (by first | ((simp (disch := omega) only [ite_ne, go_sem, ↓reduceIte, Nat.reduceEqDiff, Nat.reduceBEq, Nat.reduceAdd, Nat.reduceLeDiff, Nat.reduceLT, reduceCtorEq, Nat.reduceMul, Nat.reduceSub, Int.reduceEq, Int.reduceLT, Int.reduceLE, Int.reduceToNat]); done) | ((simp (disch := omega) only [ite_ne, go_sem, ↓reduceIte, Nat.reduceEqDiff, Nat.reduceBEq, Nat.reduceAdd, Nat.reduceLeDiff, Nat.reduceLT, reduceCtorEq, Nat.reduceMul, Nat.reduceSub, Int.reduceEq, Int.reduceLT, Int.reduceLE, Int.reduceToNat]); rfl)) rfl).trans
      ((weak_b0 (cs := [.e0, .rw (m + 6) 0 0, .rw (m + 7) 0 0, .rw (m + 8) 0 0, .e0]) (c := m + 2) (i := 4) (m := 1) (by first | ((simp (disch := omega) only [ite_ne, go_sem, ↓reduceIte, Nat.reduceEqDiff, Nat.reduceBEq, Nat.reduceAdd, Nat.reduceLeDiff, Nat.reduceLT, reduceCtorEq, Nat.reduceMul, Nat.reduceSub, Int.reduceEq, Int.reduceLT, Int.reduceLE, Int.reduceToNat]); done) | ((simp (disch := omega) only [ite_ne, go_sem, ↓reduceIte, Nat.reduceEqDiff, Nat.reduceBEq, Nat.reduceAdd, Nat.reduceLeDiff, Nat.reduceLT, reduceCtorEq, Nat.reduceMul, Nat.reduceSub, Int.reduceEq, Int.reduceLT, Int.reduceLE, Int.reduceToNat]); rfl)) rfl).trans
      ((weak_bf (c := m) (i := 3) (k := m + 3) (g := 0) (m := 5) (len := 0) (cs := [.i .i64 100, .i .i64 0, .i .i64 0, .rw (m + 3) 0 0, .rw (m + 4) 0 0]) (by first | ((simp (disch := omega) only [ite_ne, go_sem, ↓reduceIte, Nat.reduceEqDiff, Nat.reduceBEq, Nat.reduceAdd, Nat.reduceLeDiff, Nat.reduceLT, reduceCtorEq, Nat.reduceMul, Nat.reduceSub, Int.reduceEq, Int.reduceLT, Int.reduceLE, Int.reduceToNat]); done) | ((simp (disch := omega) only [ite_ne, go_sem, ↓reduceIte, Nat.reduceEqDiff, Nat.reduceBEq, Nat.reduceAdd, Nat.reduceLeDiff, Nat.reduceLT, reduceCtorEq, Nat.reduceMul, Nat.reduceSub, Int.reduceEq, Int.reduceLT, Int.reduceLE, Int.reduceToNat]); rfl)) rfl).trans
      (weak_ok ?_ (SubX.sub (SubX.cons ?_ (SubX.cons ?_ (SubX.cons ?_ (SubX.cons ?_ (SubX.cons ?_ (SubX.cons ?_ (SubX.cons ?_ (SubX.cons ?_ (SubX.cons ?_ (SubX.cons ?_ (SubX.base hf fun k hk hkx => ?_)))))))))))) (Nat.le_refl _)))))))))
    · simp only [go_sem, ↓reduceIte, Nat.reduceEqDiff, Nat.reduceBEq, Nat.reduceAdd, Nat.reduceLeDiff, Nat.reduceLT, reduceCtorEq, Nat.reduceMul, Nat.reduceSub, Int.reduceEq, Int.reduceLT, Int.reduceLE, Int.reduceToNat]
    all_goals first | ((simp (disch := omega) only [ite_ne, go_sem, ↓reduceIte, Nat.reduceEqDiff, Nat.reduceBEq, Nat.reduceAdd, Nat.reduceLeDiff, Nat.reduceLT, reduceCtorEq, Nat.reduceMul, Nat.reduceSub, Int.reduceEq, Int.reduceLT, Int.reduceLE, Int.reduceToNat]); done) | ((simp (disch := omega) only [ite_ne, go_sem, ↓reduceIte, Nat.reduceEqDiff, Nat.reduceBEq, Nat.reduceAdd, Nat.reduceLeDiff, Nat.reduceLT, reduceCtorEq, Nat.reduceMul, Nat.reduceSub, Int.reduceEq, Int.reduceLT, Int.reduceLE, Int.reduceToNat]); rfl) | (repeat rw [gc_ne _ _ (by omega)])
  obtain ⟨j, n⟩ := q
  obtain ⟨⟨hj1, hj5⟩, hmn⟩ := hj
  simp only [r1S, rcM]
  rcases (by omega : j = 1 ∨ j = 2 ∨ j = 3 ∨ j = 4 ∨ j = 5) with rfl | rfl | rfl | rfl | rfl
  · have hP := fun hp' e1 e2 e3 m' => sRecv_ok (.mk 2 1 0 0 ⟨#[]⟩) 100 0 0 (by omega) [] 0 (by simp) (Nat.le_refl _) (vL 1) (by decide) (by decide) m (m + 3) 0 (m + 4) (1 - 1) hp' e1 e2 e3 (by omega) m'
    have x1 : rvA (.mk 2 1 0 0 ⟨#[]⟩) 0 0 = 0 := by decide
    have x2 : rvD (.mk 2 1 0 0 ⟨#[]⟩) 0 0 (List.drop 0 []) = 0 := by decide
    have x3 : rvV (.mk 2 1 0 0 ⟨#[]⟩) (vL 1) = vL (1 + 1) := by decide
    have x4 : rvG (.mk 2 1 0 0 ⟨#[]⟩) (vL 1) (1 - 1) = 1 := by decide
    have x5 : rvL (.mk 2 1 0 0 ⟨#[]⟩) 0 0 (List.drop 0 []) = [] := by decide
    have x6 : rvE (.mk 2 1 0 0 ⟨#[]⟩) 0 0 (vL 1) = 0 := by decide
    rw [x1, x2, x3, x4, x5, x6] at hP
    unfold svB at hP
    obtain ⟨V, hV⟩ : ∃ V, vL 1 = V := ⟨_, rfl⟩
    obtain ⟨V', hV'⟩ : ∃ V, vL (1 + 1) = V := ⟨_, rfl⟩
    rw [hV, hV'] at hP
    rw [hV]
    simp only [go_sem, ↓reduceIte, Nat.reduceEqDiff, Nat.reduceBEq, Nat.reduceAdd, Nat.reduceLeDiff, Nat.reduceLT, reduceCtorEq, Nat.reduceMul, Nat.reduceSub, Int.reduceEq, Int.reduceLT, Int.reduceLE, Int.reduceToNat]
    refine vcCall.x (hP _ (by (simp (disch := omega) only [ite_ne, go_sem, ↓reduceIte, Nat.reduceEqDiff, Nat.reduceBEq, Nat.reduceAdd, Nat.reduceLeDiff, Nat.reduceLT, reduceCtorEq, Nat.reduceMul, Nat.reduceSub, Int.reduceEq, Int.reduceLT, Int.reduceLE, Int.reduceToNat])) (by (simp (disch := omega) only [ite_ne, go_sem, ↓reduceIte, Nat.reduceEqDiff, Nat.reduceBEq, Nat.reduceAdd, Nat.reduceLeDiff, Nat.reduceLT, reduceCtorEq, Nat.reduceMul, Nat.reduceSub, Int.reduceEq, Int.reduceLT, Int.reduceLE, Int.reduceToNat])) (by (simp (disch := omega) only [ite_ne, go_sem, ↓reduceIte, Nat.reduceEqDiff, Nat.reduceBEq, Nat.reduceAdd, Nat.reduceLeDiff, Nat.reduceLT, reduceCtorEq, Nat.reduceMul, Nat.reduceSub, Int.reduceEq, Int.reduceLT, Int.reduceLE, Int.reduceToNat])) _) ?_
    simp only [List.cons_append, List.nil_append]
    simp only [go_sem, ↓reduceIte, Nat.reduceEqDiff, Nat.reduceBEq, Nat.reduceAdd, Nat.reduceLeDiff, Nat.reduceLT, reduceCtorEq, Nat.reduceMul, Nat.reduceSub, Int.reduceEq, Int.reduceLT, Int.reduceLE, Int.reduceToNat]
    refine ⟨.mk (1 + 1) n, ⟨by omega, hmn⟩, by show 5 - (1 + 1) < 5 - 1; omega, ?_⟩
    simp only [r1S, rcM]
    rw [hV']
    refine weak_ok ?_ (SubX.sub (SubX.cons ?_ (SubX.cons ?_ (SubX.cons ?_ (SubX.cons ?_ (SubX.cons ?_ (SubX.cons ?_ (SubX.cons ?_ (SubX.cons ?_ (SubX.cons ?_ (SubX.cons ?_ (SubX.base hf fun k hk hkx => ?_)))))))))))) (Nat.le_refl _)
    · simp only [go_sem, ↓reduceIte, Nat.reduceEqDiff, Nat.reduceBEq, Nat.reduceAdd, Nat.reduceLeDiff, Nat.reduceLT, reduceCtorEq, Nat.reduceMul, Nat.reduceSub, Int.reduceEq, Int.reduceLT, Int.reduceLE, Int.reduceToNat]
      rfl
    all_goals first | ((simp (disch := omega) only [ite_ne, go_sem, ↓reduceIte, Nat.reduceEqDiff, Nat.reduceBEq, Nat.reduceAdd, Nat.reduceLeDiff, Nat.reduceLT, reduceCtorEq, Nat.reduceMul, Nat.reduceSub, Int.reduceEq, Int.reduceLT, Int.reduceLE, Int.reduceToNat]); done) | ((simp (disch := omega) only [ite_ne, go_sem, ↓reduceIte, Nat.reduceEqDiff, Nat.reduceBEq, Nat.reduceAdd, Nat.reduceLeDiff, Nat.reduceLT, reduceCtorEq, Nat.reduceMul, Nat.reduceSub, Int.reduceEq, Int.reduceLT, Int.reduceLE, Int.reduceToNat]); rfl) | (repeat rw [gc_ne _ _ (by omega)])
  · have hP := fun hp' e1 e2 e3 m' => sRecv_ok (.mk 2 2 0 0 ⟨#[]⟩) 100 0 0 (by omega) [] 0 (by simp) (Nat.le_refl _) (vL 2) (by decide) (by decide) m (m + 3) 0 (m + 4) (2 - 1) hp' e1 e2 e3 (by omega) m'
    have x1 : rvA (.mk 2 2 0 0 ⟨#[]⟩) 0 0 = 0 := by decide
    have x2 : rvD (.mk 2 2 0 0 ⟨#[]⟩) 0 0 (List.drop 0 []) = 0 := by decide
    have x3 : rvV (.mk 2 2 0 0 ⟨#[]⟩) (vL 2) = vL (2 + 1) := by decide
    have x4 : rvG (.mk 2 2 0 0 ⟨#[]⟩) (vL 2) (2 - 1) = 2 := by decide
    have x5 : rvL (.mk 2 2 0 0 ⟨#[]⟩) 0 0 (List.drop 0 []) = [] := by decide
    have x6 : rvE (.mk 2 2 0 0 ⟨#[]⟩) 0 0 (vL 2) = 0 := by decide
    rw [x1, x2, x3, x4, x5, x6] at hP
    unfold svB at hP
    obtain ⟨V, hV⟩ : ∃ V, vL 2 = V := ⟨_, rfl⟩
    obtain ⟨V', hV'⟩ : ∃ V, vL (2 + 1) = V := ⟨_, rfl⟩
    rw [hV, hV'] at hP
    rw [hV]
    simp only [go_sem, ↓reduceIte, Nat.reduceEqDiff, Nat.reduceBEq, Nat.reduceAdd, Nat.reduceLeDiff, Nat.reduceLT, reduceCtorEq, Nat.reduceMul, Nat.reduceSub, Int.reduceEq, Int.reduceLT, Int.reduceLE, Int.reduceToNat]
    refine vcCall.x (hP _ (by (simp (disch := omega) only [ite_ne, go_sem, ↓reduceIte, Nat.reduceEqDiff, Nat.reduceBEq, Nat.reduceAdd, Nat.reduceLeDiff, Nat.reduceLT, reduceCtorEq, Nat.reduceMul, Nat.reduceSub, Int.reduceEq, Int.reduceLT, Int.reduceLE, Int.reduceToNat])) (by (simp (disch := omega) only [ite_ne, go_sem, ↓reduceIte, Nat.reduceEqDiff, Nat.reduceBEq, Nat.reduceAdd, Nat.reduceLeDiff, Nat.reduceLT, reduceCtorEq, Nat.reduceMul, Nat.reduceSub, Int.reduceEq, Int.reduceLT, Int.reduceLE, Int.reduceToNat])) (by (simp (disch := omega) only [ite_ne, go_sem, ↓reduceIte, Nat.reduceEqDiff, Nat.reduceBEq, Nat.reduceAdd, Nat.reduceLeDiff, Nat.reduceLT, reduceCtorEq, Nat.reduceMul, Nat.reduceSub, Int.reduceEq, Int.reduceLT, Int.reduceLE, Int.reduceToNat])) _) ?_
    simp only [List.cons_append, List.nil_append]
    simp only [go_sem, ↓reduceIte, Nat.reduceEqDiff, Nat.reduceBEq, Nat.reduceAdd, Nat.reduceLeDiff, Nat.reduceLT, reduceCtorEq, Nat.reduceMul, Nat.reduceSub, Int.reduceEq, Int.reduceLT, Int.reduceLE, Int.reduceToNat]
    refine ⟨.mk (2 + 1) n, ⟨by omega, hmn⟩, by show 5 - (2 + 1) < 5 - 2; omega, ?_⟩
    simp only [r1S, rcM]
    rw [hV']
    refine weak_ok ?_ (SubX.sub (SubX.cons ?_ (SubX.cons ?_ (SubX.cons ?_ (SubX.cons ?_ (SubX.cons ?_ (SubX.cons ?_ (SubX.cons ?_ (SubX.cons ?_ (SubX.cons ?_ (SubX.cons ?_ (SubX.base hf fun k hk hkx => ?_)))))))))))) (Nat.le_refl _)
    · simp only [go_sem, ↓reduceIte, Nat.reduceEqDiff, Nat.reduceBEq, Nat.reduceAdd, Nat.reduceLeDiff, Nat.reduceLT, reduceCtorEq, Nat.reduceMul, Nat.reduceSub, Int.reduceEq, Int.reduceLT, Int.reduceLE, Int.reduceToNat]
      rfl
    all_goals first | ((simp (disch := omega) only [ite_ne, go_sem, ↓reduceIte, Nat.reduceEqDiff, Nat.reduceBEq, Nat.reduceAdd, Nat.reduceLeDiff, Nat.reduceLT, reduceCtorEq, Nat.reduceMul, Nat.reduceSub, Int.reduceEq, Int.reduceLT, Int.reduceLE, Int.reduceToNat]); done) | ((simp (disch := omega) only [ite_ne, go_sem, ↓reduceIte, Nat.reduceEqDiff, Nat.reduceBEq, Nat.reduceAdd, Nat.reduceLeDiff, Nat.reduceLT, reduceCtorEq, Nat.reduceMul, Nat.reduceSub, Int.reduceEq, Int.reduceLT, Int.reduceLE, Int.reduceToNat]); rfl) | (repeat rw [gc_ne _ _ (by omega)])
  · have hP := fun hp' e1 e2 e3 m' => sRecv_ok (.mk 2 3 0 0 ⟨#[]⟩) 100 0 0 (by omega) [] 0 (by simp) (Nat.le_refl _) (vL 3) (by decide) (by decide) m (m + 3) 0 (m + 4) (3 - 1) hp' e1 e2 e3 (by omega) m'
    have x1 : rvA (.mk 2 3 0 0 ⟨#[]⟩) 0 0 = 0 := by decide
    have x2 : rvD (.mk 2 3 0 0 ⟨#[]⟩) 0 0 (List.drop 0 []) = 0 := by decide
    have x3 : rvV (.mk 2 3 0 0 ⟨#[]⟩) (vL 3) = vL (3 + 1) := by decide
    have x4 : rvG (.mk 2 3 0 0 ⟨#[]⟩) (vL 3) (3 - 1) = 3 := by decide
    have x5 : rvL (.mk 2 3 0 0 ⟨#[]⟩) 0 0 (List.drop 0 []) = [] := by decide
    have x6 : rvE (.mk 2 3 0 0 ⟨#[]⟩) 0 0 (vL 3) = 0 := by decide
    rw [x1, x2, x3, x4, x5, x6] at hP
    unfold svB at hP
    obtain ⟨V, hV⟩ : ∃ V, vL 3 = V := ⟨_, rfl⟩
    obtain ⟨V', hV'⟩ : ∃ V, vL (3 + 1) = V := ⟨_, rfl⟩
    rw [hV, hV'] at hP
    rw [hV]
    simp only [go_sem, ↓reduceIte, Nat.reduceEqDiff, Nat.reduceBEq, Nat.reduceAdd, Nat.reduceLeDiff, Nat.reduceLT, reduceCtorEq, Nat.reduceMul, Nat.reduceSub, Int.reduceEq, Int.reduceLT, Int.reduceLE, Int.reduceToNat]
    refine vcCall.x (hP _ (by (simp (disch := omega) only [ite_ne, go_sem, ↓reduceIte, Nat.reduceEqDiff, Nat.reduceBEq, Nat.reduceAdd, Nat.reduceLeDiff, Nat.reduceLT, reduceCtorEq, Nat.reduceMul, Nat.reduceSub, Int.reduceEq, Int.reduceLT, Int.reduceLE, Int.reduceToNat])) (by (simp (disch := omega) only [ite_ne, go_sem, ↓reduceIte, Nat.reduceEqDiff, Nat.reduceBEq, Nat.reduceAdd, Nat.reduceLeDiff, Nat.reduceLT, reduceCtorEq, Nat.reduceMul, Nat.reduceSub, Int.reduceEq, Int.reduceLT, Int.reduceLE, Int.reduceToNat])) (by (simp (disch := omega) only [ite_ne, go_sem, ↓reduceIte, Nat.reduceEqDiff, Nat.reduceBEq, Nat.reduceAdd, Nat.reduceLeDiff, Nat.reduceLT, reduceCtorEq, Nat.reduceMul, Nat.reduceSub, Int.reduceEq, Int.reduceLT, Int.reduceLE, Int.reduceToNat])) _) ?_
    simp only [List.cons_append, List.nil_append]
    simp only [go_sem, ↓reduceIte, Nat.reduceEqDiff, Nat.reduceBEq, Nat.reduceAdd, Nat.reduceLeDiff, Nat.reduceLT, reduceCtorEq, Nat.reduceMul, Nat.reduceSub, Int.reduceEq, Int.reduceLT, Int.reduceLE, Int.reduceToNat]
    refine ⟨.mk (3 + 1) n, ⟨by omega, hmn⟩, by show 5 - (3 + 1) < 5 - 3; omega, ?_⟩
    simp only [r1S, rcM]
    rw [hV']
    refine weak_ok ?_ (SubX.sub (SubX.cons ?_ (SubX.cons ?_ (SubX.cons ?_ (SubX.cons ?_ (SubX.cons ?_ (SubX.cons ?_ (SubX.cons ?_ (SubX.cons ?_ (SubX.cons ?_ (SubX.cons ?_ (SubX.base hf fun k hk hkx => ?_)))))))))))) (Nat.le_refl _)
    · simp only [go_sem, ↓reduceIte, Nat.reduceEqDiff, Nat.reduceBEq, Nat.reduceAdd, Nat.reduceLeDiff, Nat.reduceLT, reduceCtorEq, Nat.reduceMul, Nat.reduceSub, Int.reduceEq, Int.reduceLT, Int.reduceLE, Int.reduceToNat]
      rfl
    all_goals first | ((simp (disch := omega) only [ite_ne, go_sem, ↓reduceIte, Nat.reduceEqDiff, Nat.reduceBEq, Nat.reduceAdd, Nat.reduceLeDiff, Nat.reduceLT, reduceCtorEq, Nat.reduceMul, Nat.reduceSub, Int.reduceEq, Int.reduceLT, Int.reduceLE, Int.reduceToNat]); done) | ((simp (disch := omega) only [ite_ne, go_sem, ↓reduceIte, Nat.reduceEqDiff, Nat.reduceBEq, Nat.reduceAdd, Nat.reduceLeDiff, Nat.reduceLT, reduceCtorEq, Nat.reduceMul, Nat.reduceSub, Int.reduceEq, Int.reduceLT, Int.reduceLE, Int.reduceToNat]); rfl) | (repeat rw [gc_ne _ _ (by omega)])
  · have hP := fun hp' e1 e2 e3 m' => sRecv_ok (.mk 2 4 0 0 ⟨#[]⟩) 100 0 0 (by omega) [] 0 (by simp) (Nat.le_refl _) (vL 4) (by decide) (by decide) m (m + 3) 0 (m + 4) (4 - 1) hp' e1 e2 e3 (by omega) m'
    have x1 : rvA (.mk 2 4 0 0 ⟨#[]⟩) 0 0 = 0 := by decide
    have x2 : rvD (.mk 2 4 0 0 ⟨#[]⟩) 0 0 (List.drop 0 []) = 0 := by decide
    have x3 : rvV (.mk 2 4 0 0 ⟨#[]⟩) (vL 4) = vL (4 + 1) := by decide
    have x4 : rvG (.mk 2 4 0 0 ⟨#[]⟩) (vL 4) (4 - 1) = 4 := by decide
    have x5 : rvL (.mk 2 4 0 0 ⟨#[]⟩) 0 0 (List.drop 0 []) = [] := by decide
    have x6 : rvE (.mk 2 4 0 0 ⟨#[]⟩) 0 0 (vL 4) = 0 := by decide
    rw [x1, x2, x3, x4, x5, x6] at hP
    unfold svB at hP
    obtain ⟨V, hV⟩ : ∃ V, vL 4 = V := ⟨_, rfl⟩
    obtain ⟨V', hV'⟩ : ∃ V, vL (4 + 1) = V := ⟨_, rfl⟩
    rw [hV, hV'] at hP
    rw [hV]
    simp only [go_sem, ↓reduceIte, Nat.reduceEqDiff, Nat.reduceBEq, Nat.reduceAdd, Nat.reduceLeDiff, Nat.reduceLT, reduceCtorEq, Nat.reduceMul, Nat.reduceSub, Int.reduceEq, Int.reduceLT, Int.reduceLE, Int.reduceToNat]
    refine vcCall.x (hP _ (by (simp (disch := omega) only [ite_ne, go_sem, ↓reduceIte, Nat.reduceEqDiff, Nat.reduceBEq, Nat.reduceAdd, Nat.reduceLeDiff, Nat.reduceLT, reduceCtorEq, Nat.reduceMul, Nat.reduceSub, Int.reduceEq, Int.reduceLT, Int.reduceLE, Int.reduceToNat])) (by (simp (disch := omega) only [ite_ne, go_sem, ↓reduceIte, Nat.reduceEqDiff, Nat.reduceBEq, Nat.reduceAdd, Nat.reduceLeDiff, Nat.reduceLT, reduceCtorEq, Nat.reduceMul, Nat.reduceSub, Int.reduceEq, Int.reduceLT, Int.reduceLE, Int.reduceToNat])) (by (simp (disch := omega) only [ite_ne, go_sem, ↓reduceIte, Nat.reduceEqDiff, Nat.reduceBEq, Nat.reduceAdd, Nat.reduceLeDiff, Nat.reduceLT, reduceCtorEq, Nat.reduceMul, Nat.reduceSub, Int.reduceEq, Int.reduceLT, Int.reduceLE, Int.reduceToNat])) _) ?_
    simp only [List.cons_append, List.nil_append]
    simp only [go_sem, ↓reduceIte, Nat.reduceEqDiff, Nat.reduceBEq, Nat.reduceAdd, Nat.reduceLeDiff, Nat.reduceLT, reduceCtorEq, Nat.reduceMul, Nat.reduceSub, Int.reduceEq, Int.reduceLT, Int.reduceLE, Int.reduceToNat]
    refine ⟨.mk (4 + 1) n, ⟨by omega, hmn⟩, by show 5 - (4 + 1) < 5 - 4; omega, ?_⟩
    simp only [r1S, rcM]
    rw [hV']
    refine weak_ok ?_ (SubX.sub (SubX.cons ?_ (SubX.cons ?_ (SubX.cons ?_ (SubX.cons ?_ (SubX.cons ?_ (SubX.cons ?_ (SubX.cons ?_ (SubX.cons ?_ (SubX.cons ?_ (SubX.cons ?_ (SubX.base hf fun k hk hkx => ?_)))))))))))) (Nat.le_refl _)
    · simp only [go_sem, ↓reduceIte, Nat.reduceEqDiff, Nat.reduceBEq, Nat.reduceAdd, Nat.reduceLeDiff, Nat.reduceLT, reduceCtorEq, Nat.reduceMul, Nat.reduceSub, Int.reduceEq, Int.reduceLT, Int.reduceLE, Int.reduceToNat]
      rfl
    all_goals first | ((simp (disch := omega) only [ite_ne, go_sem, ↓reduceIte, Nat.reduceEqDiff, Nat.reduceBEq, Nat.reduceAdd, Nat.reduceLeDiff, Nat.reduceLT, reduceCtorEq, Nat.reduceMul, Nat.reduceSub, Int.reduceEq, Int.reduceLT, Int.reduceLE, Int.reduceToNat]); done) | ((simp (disch := omega) only [ite_ne, go_sem, ↓reduceIte, Nat.reduceEqDiff, Nat.reduceBEq, Nat.reduceAdd, Nat.reduceLeDiff, Nat.reduceLT, reduceCtorEq, Nat.reduceMul, Nat.reduceSub, Int.reduceEq, Int.reduceLT, Int.reduceLE, Int.reduceToNat]); rfl) | (repeat rw [gc_ne _ _ (by omega)])
  simp only [go_sem, ↓reduceIte, Nat.reduceEqDiff, Nat.reduceBEq, Nat.reduceAdd, Nat.reduceLeDiff, Nat.reduceLT, reduceCtorEq, Nat.reduceMul, Nat.reduceSub, Int.reduceEq, Int.reduceLT, Int.reduceLE, Int.reduceToNat]
  refine loop (r2S m hp l) (r2I m l) (r2M l) (.mk 0 [] [] 0 0 0 0 0 0 0 0 0 lost n) ?_ ?_ (fun q hj => ?_)
  · exact ⟨Nat.zero_le _, rfl, ⟨by simp, by simp⟩, by simp, by simp, rfl, by simp, by simp, by omega, hmn⟩
  · simp only [r2S, rcM]
    refine weak_ok ?_ (Sub.refl _) (Nat.le_refl _)
    simp only [go_sem, ↓reduceIte, Nat.reduceEqDiff, Nat.reduceBEq, Nat.reduceAdd, Nat.reduceLeDiff, Nat.reduceLT, reduceCtorEq, Nat.reduceMul, Nat.reduceSub, Int.reduceEq, Int.reduceLT, Int.reduceLE, Int.reduceToNat]
  obtain ⟨i, Q, KA, a, d, g, c, gk, g1, g2, g3, g4, lo, n⟩ := q
  obtain ⟨hi, hQi, hQ, hKl, hd, hKQ, hac, hcQ, hlo2, hmn⟩ := hj
  simp only [r2S, rcM]
  have hdl : KA.length - d = Q.length - a := by have := congrArg List.length hKQ; rwa [List.length_drop, List.length_drop] at this
  have hQl := hQ.len
  have hmn1 : m ≤ n := by omega
  by_cases hil : i < l.length
  case neg =>
    have di : decide ((i : Int) < (l.length : Int)) = false := decide_eq_false (by omega)
    simp (disch := omega) only [ite_ne, hll, di, go_sem, ↓reduceIte, Nat.reduceEqDiff, Nat.reduceBEq, Nat.reduceAdd, Nat.reduceLeDiff, Nat.reduceLT, reduceCtorEq, Nat.reduceMul, Nat.reduceSub, Int.reduceEq, Int.reduceLT, Int.reduceLE, Int.reduceToNat]
    have hO := mOpen_ok true c (.rw (m + 5) gk (gQ Q c).length) (m + 1)
    rw [if_pos rfl] at hO
    refine vcCall.f (hO _ (by (simp (disch := omega) only [ite_ne, go_sem, ↓reduceIte, Nat.reduceEqDiff, Nat.reduceBEq, Nat.reduceAdd, Nat.reduceLeDiff, Nat.reduceLT, reduceCtorEq, Nat.reduceMul, Nat.reduceSub, Int.reduceEq, Int.reduceLT, Int.reduceLE, Int.reduceToNat])) _) ?_
    simp (disch := omega) only [ite_ne, go_sem, ↓reduceIte, Nat.reduceEqDiff, Nat.reduceBEq, Nat.reduceAdd, Nat.reduceLeDiff, Nat.reduceLT, reduceCtorEq, Nat.reduceMul, Nat.reduceSub, Int.reduceEq, Int.reduceLT, Int.reduceLE, Int.reduceToNat]
    obtain ⟨s1, s2, s3, s4, s5⟩ := sv_step hQ hac hcQ (.inl rfl) (vL 5) 4
    rw [if_pos (show (akF 1 (c : Int)).k = 1 from rfl)] at s5
    have hP := fun hp' e1 e2 e3 m' => sRecv_ok (akF 1 c) 100 Q.length a (by omega) KA d (by omega) hd (vL 5) (by decide) (by decide) m (m + 3) g (m + 4) 4 hp' e1 e2 e3 (by omega) m'
    rw [hKQ, s1, s2, s3, s4, s5, op_0 hQ hac hcQ] at hP
    unfold svB at hP
    obtain ⟨B, hB⟩ : ∃ B, akF 8 Q.length :: Q.drop c = B := ⟨_, rfl⟩
    obtain ⟨d2, hd2⟩ : ∃ y, d + (c - a) = y := ⟨_, rfl⟩
    rw [hB, hd2] at hP
    refine vcCall.x (hP _ (by (simp (disch := omega) only [ite_ne, go_sem, ↓reduceIte, Nat.reduceEqDiff, Nat.reduceBEq, Nat.reduceAdd, Nat.reduceLeDiff, Nat.reduceLT, reduceCtorEq, Nat.reduceMul, Nat.reduceSub, Int.reduceEq, Int.reduceLT, Int.reduceLE, Int.reduceToNat])) (by (simp (disch := omega) only [ite_ne, go_sem, ↓reduceIte, Nat.reduceEqDiff, Nat.reduceBEq, Nat.reduceAdd, Nat.reduceLeDiff, Nat.reduceLT, reduceCtorEq, Nat.reduceMul, Nat.reduceSub, Int.reduceEq, Int.reduceLT, Int.reduceLE, Int.reduceToNat])) (by (simp (disch := omega) only [ite_ne, go_sem, ↓reduceIte, Nat.reduceEqDiff, Nat.reduceBEq, Nat.reduceAdd, Nat.reduceLeDiff, Nat.reduceLT, reduceCtorEq, Nat.reduceMul, Nat.reduceSub, Int.reduceEq, Int.reduceLT, Int.reduceLE, Int.reduceToNat])) _) ?_
    simp only [List.cons_append, List.nil_append]
    have hBw : ∀ y ∈ B, Way Q y := by rw [← hB]; exact way_more hQ c
    have hBl : B.length ≤ 61 := by rw [← hB]; simp; omega
    have hKQ2 : KA.drop d2 = Q.drop c := by rw [← hd2, ← List.drop_drop, hKQ, List.drop_drop, show a + (c - a) = c by omega]
    have hD := fun hp' h1 h2 h3 h4 h5 m' => deliver_ok true Q hQ c c d2 gk KA (by omega) (by omega) hKQ2 (Nat.le_refl _) hcQ (vL 5) (by decide) (by decide) g 4 B hBw hBl [] (by simp) (fun _ => ⟨rfl, rfl, hB.symm⟩) m (m + 3) (m + 4) (m + 1) (m + 5) hp' h1 h2 h3 h4 h5 m'
    unfold svB at hD
    simp (disch := omega) only [ite_ne, go_sem, ↓reduceIte, Nat.reduceEqDiff, Nat.reduceBEq, Nat.reduceAdd, Nat.reduceLeDiff, Nat.reduceLT, reduceCtorEq, Nat.reduceMul, Nat.reduceSub, Int.reduceEq, Int.reduceLT, Int.reduceLE, Int.reduceToNat]
    refine vcCall.r (Meets.e0d (i := 3) rfl rfl (hD _ (by (simp (disch := omega) only [ite_ne, go_sem, ↓reduceIte, Nat.reduceEqDiff, Nat.reduceBEq, Nat.reduceAdd, Nat.reduceLeDiff, Nat.reduceLT, reduceCtorEq, Nat.reduceMul, Nat.reduceSub, Int.reduceEq, Int.reduceLT, Int.reduceLE, Int.reduceToNat])) (by (simp (disch := omega) only [ite_ne, go_sem, ↓reduceIte, Nat.reduceEqDiff, Nat.reduceBEq, Nat.reduceAdd, Nat.reduceLeDiff, Nat.reduceLT, reduceCtorEq, Nat.reduceMul, Nat.reduceSub, Int.reduceEq, Int.reduceLT, Int.reduceLE, Int.reduceToNat])) (by (simp (disch := omega) only [ite_ne, go_sem, ↓reduceIte, Nat.reduceEqDiff, Nat.reduceBEq, Nat.reduceAdd, Nat.reduceLeDiff, Nat.reduceLT, reduceCtorEq, Nat.reduceMul, Nat.reduceSub, Int.reduceEq, Int.reduceLT, Int.reduceLE, Int.reduceToNat])) (by (simp (disch := omega) only [ite_ne, go_sem, ↓reduceIte, Nat.reduceEqDiff, Nat.reduceBEq, Nat.reduceAdd, Nat.reduceLeDiff, Nat.reduceLT, reduceCtorEq, Nat.reduceMul, Nat.reduceSub, Int.reduceEq, Int.reduceLT, Int.reduceLE, Int.reduceToNat])) (by (simp (disch := omega) only [ite_ne, go_sem, ↓reduceIte, Nat.reduceEqDiff, Nat.reduceBEq, Nat.reduceAdd, Nat.reduceLeDiff, Nat.reduceLT, reduceCtorEq, Nat.reduceMul, Nat.reduceSub, Int.reduceEq, Int.reduceLT, Int.reduceLE, Int.reduceToNat])) _)) fun hp' n' r ⟨i3, hi6, e1, e2, e3⟩ => ?_
    subst e1
    subst e2
    subst e3
    obtain ⟨a2, c2, d3, gk2, lo3⟩ := i3
    obtain ⟨hi6, hi7, hi8, hi9, hi10, hi11⟩ := hi6
    obtain ⟨rfl, rfl⟩ := hi11 rfl
    simp only [dvW, dvR, svB, List.cons_append, List.nil_append]
    have hK0 : KA.length - d3 = 0 := by have := congrArg List.length hi9; rw [List.length_drop, List.length_drop] at this; omega
    simp (disch := omega) only [ite_ne, go_sem, ↓reduceIte, Nat.reduceEqDiff, Nat.reduceBEq, Nat.reduceAdd, Nat.reduceLeDiff, Nat.reduceLT, reduceCtorEq, Nat.reduceMul, Nat.reduceSub, Int.reduceEq, Int.reduceLT, Int.reduceLE, Int.reduceToNat]
    refine loop (r3S m hp Q KA d3 g gk2 g1 g2 g3 g4) (r1I m) r1M (.mk 1 n') ?_ ?_ (fun q hj => ?_)
    · exact ⟨⟨by omega, by omega⟩, by omega⟩
    · simp only [r3S, rcM]
      refine weak_ok ?_ (SubX.sub (SubX.cons ?_ (SubX.cons ?_ (SubX.cons ?_ (SubX.cons ?_ (SubX.cons ?_ (SubX.cons ?_ (SubX.cons ?_ (SubX.cons ?_ (SubX.cons ?_ (SubX.cons ?_ (SubX.base hf fun k hk hkx => ?_)))))))))))) (Nat.le_refl _)
      · simp only [go_sem, ↓reduceIte, Nat.reduceEqDiff, Nat.reduceBEq, Nat.reduceAdd, Nat.reduceLeDiff, Nat.reduceLT, reduceCtorEq, Nat.reduceMul, Nat.reduceSub, Int.reduceEq, Int.reduceLT, Int.reduceLE, Int.reduceToNat]
        try rfl
      all_goals first | ((simp (disch := omega) only [ite_ne, go_sem, ↓reduceIte, Nat.reduceEqDiff, Nat.reduceBEq, Nat.reduceAdd, Nat.reduceLeDiff, Nat.reduceLT, reduceCtorEq, Nat.reduceMul, Nat.reduceSub, Int.reduceEq, Int.reduceLT, Int.reduceLE, Int.reduceToNat]); done) | ((simp (disch := omega) only [ite_ne, go_sem, ↓reduceIte, Nat.reduceEqDiff, Nat.reduceBEq, Nat.reduceAdd, Nat.reduceLeDiff, Nat.reduceLT, reduceCtorEq, Nat.reduceMul, Nat.reduceSub, Int.reduceEq, Int.reduceLT, Int.reduceLE, Int.reduceToNat]); rfl) | (repeat rw [gc_ne _ _ (by omega)])
    obtain ⟨j, n2⟩ := q
    obtain ⟨⟨hj1, hj5⟩, hmn2⟩ := hj
    simp only [r3S, rcM]
    rcases (by omega : j = 1 ∨ j = 2 ∨ j = 3 ∨ j = 4 ∨ j = 5) with rfl | rfl | rfl | rfl | rfl
    · have hG := mGot_ok true Q.length (gQ Q Q.length) (by simp [gQ]; omega) (m + 1) (m + 5) gk2 1
      rw [show gotL (gQ Q Q.length) 1 = gotR (Q.take Q.length) 1 from got_pair _ _, List.take_length] at hG
      have hTl := gotR_len Q 1
      have hTx := fun hp' (e : gc hp' (m + 6) = .rw g1 1 (stC (gotR Q 1))) n' => texts_row (gotR Q 1) (gotR Q 1) List.take_length.symm (by omega) (Nat.le_refl _) e n'
      simp only [go_sem, ↓reduceIte, Nat.reduceEqDiff, Nat.reduceBEq, Nat.reduceAdd, Nat.reduceLeDiff, Nat.reduceLT, reduceCtorEq, Nat.reduceMul, Nat.reduceSub, Int.reduceEq, Int.reduceLT, Int.reduceLE, Int.reduceToNat]
      refine dCallR.f (fun _ hp' e => hG hp' ((e (m + 1) (.inl (by omega))).trans (by (simp (disch := omega) only [ite_ne, go_sem, ↓reduceIte, Nat.reduceEqDiff, Nat.reduceBEq, Nat.reduceAdd, Nat.reduceLeDiff, Nat.reduceLT, reduceCtorEq, Nat.reduceMul, Nat.reduceSub, Int.reduceEq, Int.reduceLT, Int.reduceLE, Int.reduceToNat]))) ((e (m + 5) (.inl (by omega))).trans (by (simp (disch := omega) only [ite_ne, go_sem, ↓reduceIte, Nat.reduceEqDiff, Nat.reduceBEq, Nat.reduceAdd, Nat.reduceLeDiff, Nat.reduceLT, reduceCtorEq, Nat.reduceMul, Nat.reduceSub, Int.reduceEq, Int.reduceLT, Int.reduceLE, Int.reduceToNat]))) _) ?_
      simp (disch := omega) only [ite_ne, go_sem, ↓reduceIte, Nat.reduceEqDiff, Nat.reduceBEq, Nat.reduceAdd, Nat.reduceLeDiff, Nat.reduceLT, reduceCtorEq, Nat.reduceMul, Nat.reduceSub, Int.reduceEq, Int.reduceLT, Int.reduceLE, Int.reduceToNat]
      refine dCallR.f (fun _ hp' e => hTx hp' ((e (m + 6) (.inl (by omega))).trans (by (simp (disch := omega) only [ite_ne, go_sem, ↓reduceIte, Nat.reduceEqDiff, Nat.reduceBEq, Nat.reduceAdd, Nat.reduceLeDiff, Nat.reduceLT, reduceCtorEq, Nat.reduceMul, Nat.reduceSub, Int.reduceEq, Int.reduceLT, Int.reduceLE, Int.reduceToNat]))) _) ?_
      simp (disch := omega) only [ite_ne, go_sem, ↓reduceIte, Nat.reduceEqDiff, Nat.reduceBEq, Nat.reduceAdd, Nat.reduceLeDiff, Nat.reduceLT, reduceCtorEq, Nat.reduceMul, Nat.reduceSub, Int.reduceEq, Int.reduceLT, Int.reduceLE, Int.reduceToNat]
      refine ⟨.mk (1 + 1) (n2 + 8), ⟨by omega, by omega⟩, by show 5 - (1 + 1) < 5 - 1; omega, ?_⟩
      simp only [r3S, rcM]
      refine weak_ok ?_ (Sub.refl _) (Nat.le_refl _)
      simp only [go_sem, ↓reduceIte, Nat.reduceEqDiff, Nat.reduceBEq, Nat.reduceAdd, Nat.reduceLeDiff, Nat.reduceLT, reduceCtorEq, Nat.reduceMul, Nat.reduceSub, Int.reduceEq, Int.reduceLT, Int.reduceLE, Int.reduceToNat]
      rfl
    · have hG := mGot_ok true Q.length (gQ Q Q.length) (by simp [gQ]; omega) (m + 1) (m + 5) gk2 2
      rw [show gotL (gQ Q Q.length) 2 = gotR (Q.take Q.length) 2 from got_pair _ _, List.take_length] at hG
      have hTl := gotR_len Q 2
      have hTx := fun hp' (e : gc hp' (m + 7) = .rw g2 1 (stC (gotR Q 2))) n' => texts_row (gotR Q 2) (gotR Q 2) List.take_length.symm (by omega) (Nat.le_refl _) e n'
      simp only [go_sem, ↓reduceIte, Nat.reduceEqDiff, Nat.reduceBEq, Nat.reduceAdd, Nat.reduceLeDiff, Nat.reduceLT, reduceCtorEq, Nat.reduceMul, Nat.reduceSub, Int.reduceEq, Int.reduceLT, Int.reduceLE, Int.reduceToNat]
      refine dCallR.f (fun _ hp' e => hG hp' ((e (m + 1) (.inl (by omega))).trans (by (simp (disch := omega) only [ite_ne, go_sem, ↓reduceIte, Nat.reduceEqDiff, Nat.reduceBEq, Nat.reduceAdd, Nat.reduceLeDiff, Nat.reduceLT, reduceCtorEq, Nat.reduceMul, Nat.reduceSub, Int.reduceEq, Int.reduceLT, Int.reduceLE, Int.reduceToNat]))) ((e (m + 5) (.inl (by omega))).trans (by (simp (disch := omega) only [ite_ne, go_sem, ↓reduceIte, Nat.reduceEqDiff, Nat.reduceBEq, Nat.reduceAdd, Nat.reduceLeDiff, Nat.reduceLT, reduceCtorEq, Nat.reduceMul, Nat.reduceSub, Int.reduceEq, Int.reduceLT, Int.reduceLE, Int.reduceToNat]))) _) ?_
      simp (disch := omega) only [ite_ne, go_sem, ↓reduceIte, Nat.reduceEqDiff, Nat.reduceBEq, Nat.reduceAdd, Nat.reduceLeDiff, Nat.reduceLT, reduceCtorEq, Nat.reduceMul, Nat.reduceSub, Int.reduceEq, Int.reduceLT, Int.reduceLE, Int.reduceToNat]
      refine dCallR.f (fun _ hp' e => hTx hp' ((e (m + 7) (.inl (by omega))).trans (by (simp (disch := omega) only [ite_ne, go_sem, ↓reduceIte, Nat.reduceEqDiff, Nat.reduceBEq, Nat.reduceAdd, Nat.reduceLeDiff, Nat.reduceLT, reduceCtorEq, Nat.reduceMul, Nat.reduceSub, Int.reduceEq, Int.reduceLT, Int.reduceLE, Int.reduceToNat]))) _) ?_
      simp (disch := omega) only [ite_ne, go_sem, ↓reduceIte, Nat.reduceEqDiff, Nat.reduceBEq, Nat.reduceAdd, Nat.reduceLeDiff, Nat.reduceLT, reduceCtorEq, Nat.reduceMul, Nat.reduceSub, Int.reduceEq, Int.reduceLT, Int.reduceLE, Int.reduceToNat]
      refine ⟨.mk (2 + 1) (n2 + 8), ⟨by omega, by omega⟩, by show 5 - (2 + 1) < 5 - 2; omega, ?_⟩
      simp only [r3S, rcM]
      refine weak_ok ?_ (Sub.refl _) (Nat.le_refl _)
      simp only [go_sem, ↓reduceIte, Nat.reduceEqDiff, Nat.reduceBEq, Nat.reduceAdd, Nat.reduceLeDiff, Nat.reduceLT, reduceCtorEq, Nat.reduceMul, Nat.reduceSub, Int.reduceEq, Int.reduceLT, Int.reduceLE, Int.reduceToNat]
      rfl
    · have hG := mGot_ok true Q.length (gQ Q Q.length) (by simp [gQ]; omega) (m + 1) (m + 5) gk2 3
      rw [show gotL (gQ Q Q.length) 3 = gotR (Q.take Q.length) 3 from got_pair _ _, List.take_length] at hG
      have hTl := gotR_len Q 3
      have hTx := fun hp' (e : gc hp' (m + 8) = .rw g3 1 (stC (gotR Q 3))) n' => texts_row (gotR Q 3) (gotR Q 3) List.take_length.symm (by omega) (Nat.le_refl _) e n'
      simp only [go_sem, ↓reduceIte, Nat.reduceEqDiff, Nat.reduceBEq, Nat.reduceAdd, Nat.reduceLeDiff, Nat.reduceLT, reduceCtorEq, Nat.reduceMul, Nat.reduceSub, Int.reduceEq, Int.reduceLT, Int.reduceLE, Int.reduceToNat]
      refine dCallR.f (fun _ hp' e => hG hp' ((e (m + 1) (.inl (by omega))).trans (by (simp (disch := omega) only [ite_ne, go_sem, ↓reduceIte, Nat.reduceEqDiff, Nat.reduceBEq, Nat.reduceAdd, Nat.reduceLeDiff, Nat.reduceLT, reduceCtorEq, Nat.reduceMul, Nat.reduceSub, Int.reduceEq, Int.reduceLT, Int.reduceLE, Int.reduceToNat]))) ((e (m + 5) (.inl (by omega))).trans (by (simp (disch := omega) only [ite_ne, go_sem, ↓reduceIte, Nat.reduceEqDiff, Nat.reduceBEq, Nat.reduceAdd, Nat.reduceLeDiff, Nat.reduceLT, reduceCtorEq, Nat.reduceMul, Nat.reduceSub, Int.reduceEq, Int.reduceLT, Int.reduceLE, Int.reduceToNat]))) _) ?_
      simp (disch := omega) only [ite_ne, go_sem, ↓reduceIte, Nat.reduceEqDiff, Nat.reduceBEq, Nat.reduceAdd, Nat.reduceLeDiff, Nat.reduceLT, reduceCtorEq, Nat.reduceMul, Nat.reduceSub, Int.reduceEq, Int.reduceLT, Int.reduceLE, Int.reduceToNat]
      refine dCallR.f (fun _ hp' e => hTx hp' ((e (m + 8) (.inl (by omega))).trans (by (simp (disch := omega) only [ite_ne, go_sem, ↓reduceIte, Nat.reduceEqDiff, Nat.reduceBEq, Nat.reduceAdd, Nat.reduceLeDiff, Nat.reduceLT, reduceCtorEq, Nat.reduceMul, Nat.reduceSub, Int.reduceEq, Int.reduceLT, Int.reduceLE, Int.reduceToNat]))) _) ?_
      simp (disch := omega) only [ite_ne, go_sem, ↓reduceIte, Nat.reduceEqDiff, Nat.reduceBEq, Nat.reduceAdd, Nat.reduceLeDiff, Nat.reduceLT, reduceCtorEq, Nat.reduceMul, Nat.reduceSub, Int.reduceEq, Int.reduceLT, Int.reduceLE, Int.reduceToNat]
      refine ⟨.mk (3 + 1) (n2 + 8), ⟨by omega, by omega⟩, by show 5 - (3 + 1) < 5 - 3; omega, ?_⟩
      simp only [r3S, rcM]
      refine weak_ok ?_ (Sub.refl _) (Nat.le_refl _)
      simp only [go_sem, ↓reduceIte, Nat.reduceEqDiff, Nat.reduceBEq, Nat.reduceAdd, Nat.reduceLeDiff, Nat.reduceLT, reduceCtorEq, Nat.reduceMul, Nat.reduceSub, Int.reduceEq, Int.reduceLT, Int.reduceLE, Int.reduceToNat]
      rfl
    · have hG := mGot_ok true Q.length (gQ Q Q.length) (by simp [gQ]; omega) (m + 1) (m + 5) gk2 4
      rw [show gotL (gQ Q Q.length) 4 = gotR (Q.take Q.length) 4 from got_pair _ _, List.take_length] at hG
      have hTl := gotR_len Q 4
      have hTx := fun hp' (e : gc hp' (m + 9) = .rw g4 1 (stC (gotR Q 4))) n' => texts_row (gotR Q 4) (gotR Q 4) List.take_length.symm (by omega) (Nat.le_refl _) e n'
      simp only [go_sem, ↓reduceIte, Nat.reduceEqDiff, Nat.reduceBEq, Nat.reduceAdd, Nat.reduceLeDiff, Nat.reduceLT, reduceCtorEq, Nat.reduceMul, Nat.reduceSub, Int.reduceEq, Int.reduceLT, Int.reduceLE, Int.reduceToNat]
      refine dCallR.f (fun _ hp' e => hG hp' ((e (m + 1) (.inl (by omega))).trans (by (simp (disch := omega) only [ite_ne, go_sem, ↓reduceIte, Nat.reduceEqDiff, Nat.reduceBEq, Nat.reduceAdd, Nat.reduceLeDiff, Nat.reduceLT, reduceCtorEq, Nat.reduceMul, Nat.reduceSub, Int.reduceEq, Int.reduceLT, Int.reduceLE, Int.reduceToNat]))) ((e (m + 5) (.inl (by omega))).trans (by (simp (disch := omega) only [ite_ne, go_sem, ↓reduceIte, Nat.reduceEqDiff, Nat.reduceBEq, Nat.reduceAdd, Nat.reduceLeDiff, Nat.reduceLT, reduceCtorEq, Nat.reduceMul, Nat.reduceSub, Int.reduceEq, Int.reduceLT, Int.reduceLE, Int.reduceToNat]))) _) ?_
      simp (disch := omega) only [ite_ne, go_sem, ↓reduceIte, Nat.reduceEqDiff, Nat.reduceBEq, Nat.reduceAdd, Nat.reduceLeDiff, Nat.reduceLT, reduceCtorEq, Nat.reduceMul, Nat.reduceSub, Int.reduceEq, Int.reduceLT, Int.reduceLE, Int.reduceToNat]
      refine dCallR.f (fun _ hp' e => hTx hp' ((e (m + 9) (.inl (by omega))).trans (by (simp (disch := omega) only [ite_ne, go_sem, ↓reduceIte, Nat.reduceEqDiff, Nat.reduceBEq, Nat.reduceAdd, Nat.reduceLeDiff, Nat.reduceLT, reduceCtorEq, Nat.reduceMul, Nat.reduceSub, Int.reduceEq, Int.reduceLT, Int.reduceLE, Int.reduceToNat]))) _) ?_
      simp (disch := omega) only [ite_ne, go_sem, ↓reduceIte, Nat.reduceEqDiff, Nat.reduceBEq, Nat.reduceAdd, Nat.reduceLeDiff, Nat.reduceLT, reduceCtorEq, Nat.reduceMul, Nat.reduceSub, Int.reduceEq, Int.reduceLT, Int.reduceLE, Int.reduceToNat]
      refine ⟨.mk (4 + 1) (n2 + 8), ⟨by omega, by omega⟩, by show 5 - (4 + 1) < 5 - 4; omega, ?_⟩
      simp only [r3S, rcM]
      refine weak_ok ?_ (Sub.refl _) (Nat.le_refl _)
      simp only [go_sem, ↓reduceIte, Nat.reduceEqDiff, Nat.reduceBEq, Nat.reduceAdd, Nat.reduceLeDiff, Nat.reduceLT, reduceCtorEq, Nat.reduceMul, Nat.reduceSub, Int.reduceEq, Int.reduceLT, Int.reduceLE, Int.reduceToNat]
      rfl
    simp only [go_sem, ↓reduceIte, Nat.reduceEqDiff, Nat.reduceBEq, Nat.reduceAdd, Nat.reduceLeDiff, Nat.reduceLT, reduceCtorEq, Nat.reduceMul, Nat.reduceSub, Int.reduceEq, Int.reduceLT, Int.reduceLE, Int.reduceToNat]
    have hK := sKept_ok 100 Q.length Q.length m (m + 3) g d3 (KA.length - d3) (m + 4) 4 (vL 5).length (mapC frC KA)
    unfold svB at hK
    refine gCall.f (fun _ => hK _ (by (simp (disch := omega) only [ite_ne, go_sem, ↓reduceIte, Nat.reduceEqDiff, Nat.reduceBEq, Nat.reduceAdd, Nat.reduceLeDiff, Nat.reduceLT, reduceCtorEq, Nat.reduceMul, Nat.reduceSub, Int.reduceEq, Int.reduceLT, Int.reduceLE, Int.reduceToNat])) (by (simp (disch := omega) only [ite_ne, go_sem, ↓reduceIte, Nat.reduceEqDiff, Nat.reduceBEq, Nat.reduceAdd, Nat.reduceLeDiff, Nat.reduceLT, reduceCtorEq, Nat.reduceMul, Nat.reduceSub, Int.reduceEq, Int.reduceLT, Int.reduceLE, Int.reduceToNat])) (by rw [mapC_len]; omega) _) ?_
    simp (disch := omega) only [ite_ne, hK0, go_sem, ↓reduceIte, Nat.reduceEqDiff, Nat.reduceBEq, Nat.reduceAdd, Nat.reduceLeDiff, Nat.reduceLT, reduceCtorEq, Nat.reduceMul, Nat.reduceSub, Int.reduceEq, Int.reduceLT, Int.reduceLE, Int.reduceToNat]
    refine gCall.f (fun _ => exh47_ok _ _) ?_
    simp (disch := omega) only [ite_ne, go_sem, ↓reduceIte, Nat.reduceEqDiff, Nat.reduceBEq, Nat.reduceAdd, Nat.reduceLeDiff, Nat.reduceLT, reduceCtorEq, Nat.reduceMul, Nat.reduceSub, Int.reduceEq, Int.reduceLT, Int.reduceLE, Int.reduceToNat]
    try rfl
  have di : decide ((i : Int) < (l.length : Int)) = true := decide_eq_true (by omega)
  obtain ⟨x, ex⟩ : ∃ x, l[i]? = some x := ⟨l[i], by simp [hil]⟩
  obtain ⟨xn, xk, xi, xs, xa, xb⟩ := x
  by_cases q1 : xi < 1
  · simp (disch := omega) only [ite_ne, hll, di, hil, getK_s (mapC_get spC ex), decide_eq_true q1, go_sem, ↓reduceIte, Nat.reduceEqDiff, Nat.reduceBEq, Nat.reduceAdd, Nat.reduceLeDiff, Nat.reduceLT, reduceCtorEq, Nat.reduceMul, Nat.reduceSub, Int.reduceEq, Int.reduceLT, Int.reduceLE, Int.reduceToNat]
    refine vcCall.f (exh47_ok _ _) ?_
    simp only [go_sem, ↓reduceIte, Nat.reduceEqDiff, Nat.reduceBEq, Nat.reduceAdd, Nat.reduceLeDiff, Nat.reduceLT, reduceCtorEq, Nat.reduceMul, Nat.reduceSub, Int.reduceEq, Int.reduceLT, Int.reduceLE, Int.reduceToNat]
  by_cases q2 : 4 < xi
  · simp (disch := omega) only [ite_ne, hll, di, hil, getK_s (mapC_get spC ex), decide_eq_false q1, decide_eq_true q2, go_sem, ↓reduceIte, Nat.reduceEqDiff, Nat.reduceBEq, Nat.reduceAdd, Nat.reduceLeDiff, Nat.reduceLT, reduceCtorEq, Nat.reduceMul, Nat.reduceSub, Int.reduceEq, Int.reduceLT, Int.reduceLE, Int.reduceToNat]
    refine vcCall.f (exh47_ok _ _) ?_
    simp only [go_sem, ↓reduceIte, Nat.reduceEqDiff, Nat.reduceBEq, Nat.reduceAdd, Nat.reduceLeDiff, Nat.reduceLT, reduceCtorEq, Nat.reduceMul, Nat.reduceSub, Int.reduceEq, Int.reduceLT, Int.reduceLE, Int.reduceToNat]
  by_cases q3 : (50 : Int) < (xb.size : Int)
  · simp (disch := omega) only [ite_ne, hll, di, hil, getK_s (mapC_get spC ex), decide_eq_false q1, decide_eq_false q2, decide_eq_true q3, go_sem, ↓reduceIte, Nat.reduceEqDiff, Nat.reduceBEq, Nat.reduceAdd, Nat.reduceLeDiff, Nat.reduceLT, reduceCtorEq, Nat.reduceMul, Nat.reduceSub, Int.reduceEq, Int.reduceLT, Int.reduceLE, Int.reduceToNat]
    refine vcCall.f (exh47_ok _ _) ?_
    simp only [go_sem, ↓reduceIte, Nat.reduceEqDiff, Nat.reduceBEq, Nat.reduceAdd, Nat.reduceLeDiff, Nat.reduceLT, reduceCtorEq, Nat.reduceMul, Nat.reduceSub, Int.reduceEq, Int.reduceLT, Int.reduceLE, Int.reduceToNat]
  have hid : 1 ≤ xi ∧ xi ≤ 4 := by omega
  have hE : sdE (hasI xi (vL 5)) xb.size 100 (KA.length - d) = 0 := by
    rw [has_vL hid]
    unfold sdE
    rw [if_neg (by simp), if_neg (by omega), if_neg (by omega)]
  have hP := fun hp' e1 e2 e3 m' => sPub_ok xi xb 100 Q.length a (by omega) (by omega) KA d (by omega) hd (vL 5) (by decide) (by decide) m (m + 3) g (m + 4) 4 hp' e1 e2 e3 (by omega) m' 0 hE _ rfl
  have hQ2 := hQ.snoc (by omega) hid (b := xb) (by omega)
  unfold svB at hP
  simp (disch := omega) only [ite_ne, hll, di, hil, getK_s (mapC_get spC ex), decide_eq_false q1, decide_eq_false q2, decide_eq_false q3, go_sem, ↓reduceIte, Nat.reduceEqDiff, Nat.reduceBEq, Nat.reduceAdd, Nat.reduceLeDiff, Nat.reduceLT, reduceCtorEq, Nat.reduceMul, Nat.reduceSub, Int.reduceEq, Int.reduceLT, Int.reduceLE, Int.reduceToNat]
  refine vcCall.r (hP _ (by (simp (disch := omega) only [ite_ne, go_sem, ↓reduceIte, Nat.reduceEqDiff, Nat.reduceBEq, Nat.reduceAdd, Nat.reduceLeDiff, Nat.reduceLT, reduceCtorEq, Nat.reduceMul, Nat.reduceSub, Int.reduceEq, Int.reduceLT, Int.reduceLE, Int.reduceToNat])) (by (simp (disch := omega) only [ite_ne, go_sem, ↓reduceIte, Nat.reduceEqDiff, Nat.reduceBEq, Nat.reduceAdd, Nat.reduceLeDiff, Nat.reduceLT, reduceCtorEq, Nat.reduceMul, Nat.reduceSub, Int.reduceEq, Int.reduceLT, Int.reduceLE, Int.reduceToNat])) (by (simp (disch := omega) only [ite_ne, go_sem, ↓reduceIte, Nat.reduceEqDiff, Nat.reduceBEq, Nat.reduceAdd, Nat.reduceLeDiff, Nat.reduceLT, reduceCtorEq, Nat.reduceMul, Nat.reduceSub, Int.reduceEq, Int.reduceLT, Int.reduceLE, Int.reduceToNat])) _) fun hp' n' r ⟨i2, hi2, e1, e2, e3⟩ => ?_
  subst e1
  subst e2
  subst e3
  obtain ⟨g', d', KA'⟩ := i2
  obtain ⟨hi3, hi4, hi5⟩ := hi2
  dsimp only at hi3 hi4 hi5
  have hsd : sdL 0 (.mk 5 xi 0 0 xb) Q.length = [.mk 5 xi ((Q.length : Int) + 1) 0 xb] := rfl
  have hsn : sdN 0 Q.length = (Q.length : Int) + 1 := rfl
  unfold svW svB
  simp only [List.cons_append, List.nil_append]
  rw [hsd, hKQ] at hi5
  rw [hsd, hsn]
  have hKQ' : KA'.drop d' = (Q ++ [Frm.mk 5 xi ((Q.length : Int) + 1) 0 xb]).drop a := by rw [hi5, List.drop_append_of_le_length (by omega)]
  have hgQ := gQ_snoc hcQ (.mk 5 xi ((Q.length : Int) + 1) 0 xb)
  have hgR : ∀ id : Int, gotR (Q ++ [Frm.mk 5 xi ((Q.length : Int) + 1) 0 xb]) id = if xi = id then gotR Q id ++ [xb] else gotR Q id := fun id => gotR_snoc Q (.mk 5 xi ((Q.length : Int) + 1) 0 xb) id
  have hQl2 : ((Q.length : Int) + 1) = ((Q ++ [Frm.mk 5 xi ((Q.length : Int) + 1) 0 xb]).length : Nat) := by simp
  obtain ⟨f, hf0⟩ : ∃ f, Frm.mk 5 xi ((Q.length : Int) + 1) 0 xb = f := ⟨_, rfl⟩
  rw [hf0] at hQ2 hKQ' hgQ hgR hQl2 ⊢
  obtain ⟨Q2, hQ2e⟩ : ∃ Q2, Q ++ [f] = Q2 := ⟨_, rfl⟩
  have hfm : f ∈ Q2 := by rw [← hQ2e]; simp
  have hQl3 : Q2.length = Q.length + 1 := by rw [← hQ2e]; simp
  rw [hQ2e] at hQ2 hKQ' hgQ hgR hQl2
  rw [hQl2, ← hgQ]
  have hgR1 := hgR 1
  have hgR2 := hgR 2
  have hgR3 := hgR 3
  have hgR4 := hgR 4
  have hG2 : (gQ Q2 c).length ≤ 60 := by have := hQ2.len; simp [gQ]; omega
  have hgl1 := gotR_len Q 1
  have hgl2 := gotR_len Q 2
  have hgl3 := gotR_len Q 3
  have hgl4 := gotR_len Q 4
  obtain ⟨S1, hS1⟩ : ∃ S, gotR Q 1 = S := ⟨_, rfl⟩
  obtain ⟨S2, hS2⟩ : ∃ S, gotR Q 2 = S := ⟨_, rfl⟩
  obtain ⟨S3, hS3⟩ : ∃ S, gotR Q 3 = S := ⟨_, rfl⟩
  obtain ⟨S4, hS4⟩ : ∃ S, gotR Q 4 = S := ⟨_, rfl⟩
  rw [hS1] at hgR1 hgl1 ⊢
  rw [hS2] at hgR2 hgl2 ⊢
  rw [hS3] at hgR3 hgl3 ⊢
  rw [hS4] at hgR4 hgl4 ⊢
  rcases (by omega : xi = 1 ∨ xi = 2 ∨ xi = 3 ∨ xi = 4) with rfl | rfl | rfl | rfl
  · have k1 : (S1.length + 1) * 16 ≤ 140737488355328 := by omega
    have k2 : S1.length ≤ 9223372036854775806 := by omega
    have hD := fun hp' h1 h2 h3 h4 h5 m' => deliver_ok false Q2 hQ2 a c d' gk KA' (by omega) hi3 hKQ' hac (by omega) (vL 5) (by decide) (by decide) g' 4 [f] (fun y hy => .inl (by rw [List.mem_singleton.1 hy]; exact hfm)) (by simp) lo hlo2 (fun h => (by cases h)) m (m + 3) (m + 4) (m + 1) (m + 5) hp' h1 h2 h3 h4 h5 m'
    unfold svB at hD
    simp (disch := omega) only [ite_ne, hll, di, hil, getK_s (mapC_get spC ex), k1, k2, true_and, go_sem, ↓reduceIte, Nat.reduceEqDiff, Nat.reduceBEq, Nat.reduceAdd, Nat.reduceLeDiff, Nat.reduceLT, reduceCtorEq, Nat.reduceMul, Nat.reduceSub, Int.reduceEq, Int.reduceLT, Int.reduceLE, Int.reduceToNat]
    refine vcCall.r (hD _ (by (simp (disch := omega) only [ite_ne, go_sem, ↓reduceIte, Nat.reduceEqDiff, Nat.reduceBEq, Nat.reduceAdd, Nat.reduceLeDiff, Nat.reduceLT, reduceCtorEq, Nat.reduceMul, Nat.reduceSub, Int.reduceEq, Int.reduceLT, Int.reduceLE, Int.reduceToNat])) (by (simp (disch := omega) only [ite_ne, go_sem, ↓reduceIte, Nat.reduceEqDiff, Nat.reduceBEq, Nat.reduceAdd, Nat.reduceLeDiff, Nat.reduceLT, reduceCtorEq, Nat.reduceMul, Nat.reduceSub, Int.reduceEq, Int.reduceLT, Int.reduceLE, Int.reduceToNat])) (by (simp (disch := omega) only [ite_ne, go_sem, ↓reduceIte, Nat.reduceEqDiff, Nat.reduceBEq, Nat.reduceAdd, Nat.reduceLeDiff, Nat.reduceLT, reduceCtorEq, Nat.reduceMul, Nat.reduceSub, Int.reduceEq, Int.reduceLT, Int.reduceLE, Int.reduceToNat])) (by (simp (disch := omega) only [ite_ne, go_sem, ↓reduceIte, Nat.reduceEqDiff, Nat.reduceBEq, Nat.reduceAdd, Nat.reduceLeDiff, Nat.reduceLT, reduceCtorEq, Nat.reduceMul, Nat.reduceSub, Int.reduceEq, Int.reduceLT, Int.reduceLE, Int.reduceToNat])) (by (simp (disch := omega) only [ite_ne, go_sem, ↓reduceIte, Nat.reduceEqDiff, Nat.reduceBEq, Nat.reduceAdd, Nat.reduceLeDiff, Nat.reduceLT, reduceCtorEq, Nat.reduceMul, Nat.reduceSub, Int.reduceEq, Int.reduceLT, Int.reduceLE, Int.reduceToNat])) _) fun hp' n' r ⟨i3, hi6, e1, e2, e3⟩ => ?_
    subst e1
    subst e2
    subst e3
    obtain ⟨a2, c2, d2, gk2, lo3⟩ := i3
    obtain ⟨hi6, hi7, hi8, hi9, hi10, hi11⟩ := hi6
    simp only [dvW, dvR, svB, List.cons_append, List.nil_append]
    have hG := mGot_ok true c2 (gQ Q2 c2) (by have := hQ2.len; simp [gQ]; omega) (m + 1) (m + 5) gk2 1
    rw [show gotL (gQ Q2 c2) 1 = gotR (Q2.take c2) 1 from got_pair _ _] at hG
    have hT1 := got_take Q2 c2 1
    have hT2 := got_len Q2 c2 1
    obtain ⟨T, hT⟩ : ∃ T, gotR (Q2.take c2) 1 = T := ⟨_, rfl⟩
    rw [hT] at hG hT1 hT2
    rw [hgR1, if_pos rfl] at hT1 hT2
    have hT3 : T.length ≤ S1.length + 1 := by simpa using hT2
    have hsn2 : stC S1 ++ [[.s xb]] = stC (S1 ++ [xb]) := mapC_snoc st1 _ _
    have hSl : S1.length + 1 = (S1 ++ [xb]).length := by simp
    obtain ⟨S', hS'⟩ : ∃ S', S1 ++ [xb] = S' := ⟨_, rfl⟩
    rw [hS'] at hsn2 hSl hT1 hT2
    have hSl2 : (stC S').length = S'.length := mapC_len _ _
    have hSt : (stC S').take S'.length = stC S' := List.take_of_length_le (by omega)
    have dT : decide ((S'.length : Int) < (T.length : Int)) = false := decide_eq_false (by omega)
    have hT0 : (T.length : Int) ≤ (S'.length : Int) := by omega
    rw [hsn2, hSl]
    simp (disch := omega) only [ite_ne, go_sem, ↓reduceIte, Nat.reduceEqDiff, Nat.reduceBEq, Nat.reduceAdd, Nat.reduceLeDiff, Nat.reduceLT, reduceCtorEq, Nat.reduceMul, Nat.reduceSub, Int.reduceEq, Int.reduceLT, Int.reduceLE, Int.reduceToNat]
    refine vcCall.f (hG _ (by (simp (disch := omega) only [ite_ne, go_sem, ↓reduceIte, Nat.reduceEqDiff, Nat.reduceBEq, Nat.reduceAdd, Nat.reduceLeDiff, Nat.reduceLT, reduceCtorEq, Nat.reduceMul, Nat.reduceSub, Int.reduceEq, Int.reduceLT, Int.reduceLE, Int.reduceToNat])) (by (simp (disch := omega) only [ite_ne, go_sem, ↓reduceIte, Nat.reduceEqDiff, Nat.reduceBEq, Nat.reduceAdd, Nat.reduceLeDiff, Nat.reduceLT, reduceCtorEq, Nat.reduceMul, Nat.reduceSub, Int.reduceEq, Int.reduceLT, Int.reduceLE, Int.reduceToNat])) _) ?_
    simp (disch := omega) only [ite_ne, dT, hT3, hSl2, hSt, Nat.le_refl, hT0, go_sem, ↓reduceIte, Nat.reduceEqDiff, Nat.reduceBEq, Nat.reduceAdd, Nat.reduceLeDiff, Nat.reduceLT, reduceCtorEq, Nat.reduceMul, Nat.reduceSub, Int.reduceEq, Int.reduceLT, Int.reduceLE, Int.reduceToNat]
    refine ⟨fun e he => mapC_all (c := st1) (n := 1) (fun _ => rfl) e he, ?_⟩
    refine gCall.f (fun _ => texts_row T S' hT1 (by omega) hT2 (by (simp (disch := omega) only [ite_ne, hsn2, go_sem, ↓reduceIte, Nat.reduceEqDiff, Nat.reduceBEq, Nat.reduceAdd, Nat.reduceLeDiff, Nat.reduceLT, reduceCtorEq, Nat.reduceMul, Nat.reduceSub, Int.reduceEq, Int.reduceLT, Int.reduceLE, Int.reduceToNat])) _) ?_
    simp (disch := omega) only [ite_ne, go_sem, ↓reduceIte, Nat.reduceEqDiff, Nat.reduceBEq, Nat.reduceAdd, Nat.reduceLeDiff, Nat.reduceLT, reduceCtorEq, Nat.reduceMul, Nat.reduceSub, Int.reduceEq, Int.reduceLT, Int.reduceLE, Int.reduceToNat]
    refine ⟨.mk (i + 1) Q2 KA' a2 d2 g' c2 gk2 (g1 + 1) g2 g3 g4 lo3 (n' + 14), ⟨by omega, by omega, hQ2, by omega, hi8, hi9, hi6, hi7, by omega, by omega⟩, by show l.length - (i + 1) < l.length - i; omega, ?_⟩
    simp only [r2S, rcM]
    rw [hgR1, hgR2, hgR3, hgR4]
    simp only [Int.reduceEq, ↓reduceIte]
    rw [hS']
    refine weak_ok ?_ (SubX.sub (SubX.cons ?_ (SubX.cons ?_ (SubX.cons ?_ (SubX.cons ?_ (SubX.cons ?_ (SubX.cons ?_ (SubX.cons ?_ (SubX.cons ?_ (SubX.cons ?_ (SubX.cons ?_ (SubX.base hf fun k hk hkx => ?_)))))))))))) (Nat.le_refl _)
    · simp (disch := omega) only [ite_ne, wr64s i (by omega), go_sem, ↓reduceIte, Nat.reduceEqDiff, Nat.reduceBEq, Nat.reduceAdd, Nat.reduceLeDiff, Nat.reduceLT, reduceCtorEq, Nat.reduceMul, Nat.reduceSub, Int.reduceEq, Int.reduceLT, Int.reduceLE, Int.reduceToNat]
    all_goals first | ((simp (disch := omega) only [ite_ne, go_sem, ↓reduceIte, Nat.reduceEqDiff, Nat.reduceBEq, Nat.reduceAdd, Nat.reduceLeDiff, Nat.reduceLT, reduceCtorEq, Nat.reduceMul, Nat.reduceSub, Int.reduceEq, Int.reduceLT, Int.reduceLE, Int.reduceToNat]); done) | ((simp (disch := omega) only [ite_ne, go_sem, ↓reduceIte, Nat.reduceEqDiff, Nat.reduceBEq, Nat.reduceAdd, Nat.reduceLeDiff, Nat.reduceLT, reduceCtorEq, Nat.reduceMul, Nat.reduceSub, Int.reduceEq, Int.reduceLT, Int.reduceLE, Int.reduceToNat]); rfl) | (repeat rw [gc_ne _ _ (by omega)])
  · have k1 : (S2.length + 1) * 16 ≤ 140737488355328 := by omega
    have k2 : S2.length ≤ 9223372036854775806 := by omega
    have hD := fun hp' h1 h2 h3 h4 h5 m' => deliver_ok false Q2 hQ2 a c d' gk KA' (by omega) hi3 hKQ' hac (by omega) (vL 5) (by decide) (by decide) g' 4 [f] (fun y hy => .inl (by rw [List.mem_singleton.1 hy]; exact hfm)) (by simp) lo hlo2 (fun h => (by cases h)) m (m + 3) (m + 4) (m + 1) (m + 5) hp' h1 h2 h3 h4 h5 m'
    unfold svB at hD
    simp (disch := omega) only [ite_ne, hll, di, hil, getK_s (mapC_get spC ex), k1, k2, true_and, go_sem, ↓reduceIte, Nat.reduceEqDiff, Nat.reduceBEq, Nat.reduceAdd, Nat.reduceLeDiff, Nat.reduceLT, reduceCtorEq, Nat.reduceMul, Nat.reduceSub, Int.reduceEq, Int.reduceLT, Int.reduceLE, Int.reduceToNat]
    refine vcCall.r (hD _ (by (simp (disch := omega) only [ite_ne, go_sem, ↓reduceIte, Nat.reduceEqDiff, Nat.reduceBEq, Nat.reduceAdd, Nat.reduceLeDiff, Nat.reduceLT, reduceCtorEq, Nat.reduceMul, Nat.reduceSub, Int.reduceEq, Int.reduceLT, Int.reduceLE, Int.reduceToNat])) (by (simp (disch := omega) only [ite_ne, go_sem, ↓reduceIte, Nat.reduceEqDiff, Nat.reduceBEq, Nat.reduceAdd, Nat.reduceLeDiff, Nat.reduceLT, reduceCtorEq, Nat.reduceMul, Nat.reduceSub, Int.reduceEq, Int.reduceLT, Int.reduceLE, Int.reduceToNat])) (by (simp (disch := omega) only [ite_ne, go_sem, ↓reduceIte, Nat.reduceEqDiff, Nat.reduceBEq, Nat.reduceAdd, Nat.reduceLeDiff, Nat.reduceLT, reduceCtorEq, Nat.reduceMul, Nat.reduceSub, Int.reduceEq, Int.reduceLT, Int.reduceLE, Int.reduceToNat])) (by (simp (disch := omega) only [ite_ne, go_sem, ↓reduceIte, Nat.reduceEqDiff, Nat.reduceBEq, Nat.reduceAdd, Nat.reduceLeDiff, Nat.reduceLT, reduceCtorEq, Nat.reduceMul, Nat.reduceSub, Int.reduceEq, Int.reduceLT, Int.reduceLE, Int.reduceToNat])) (by (simp (disch := omega) only [ite_ne, go_sem, ↓reduceIte, Nat.reduceEqDiff, Nat.reduceBEq, Nat.reduceAdd, Nat.reduceLeDiff, Nat.reduceLT, reduceCtorEq, Nat.reduceMul, Nat.reduceSub, Int.reduceEq, Int.reduceLT, Int.reduceLE, Int.reduceToNat])) _) fun hp' n' r ⟨i3, hi6, e1, e2, e3⟩ => ?_
    subst e1
    subst e2
    subst e3
    obtain ⟨a2, c2, d2, gk2, lo3⟩ := i3
    obtain ⟨hi6, hi7, hi8, hi9, hi10, hi11⟩ := hi6
    simp only [dvW, dvR, svB, List.cons_append, List.nil_append]
    have hG := mGot_ok true c2 (gQ Q2 c2) (by have := hQ2.len; simp [gQ]; omega) (m + 1) (m + 5) gk2 2
    rw [show gotL (gQ Q2 c2) 2 = gotR (Q2.take c2) 2 from got_pair _ _] at hG
    have hT1 := got_take Q2 c2 2
    have hT2 := got_len Q2 c2 2
    obtain ⟨T, hT⟩ : ∃ T, gotR (Q2.take c2) 2 = T := ⟨_, rfl⟩
    rw [hT] at hG hT1 hT2
    rw [hgR2, if_pos rfl] at hT1 hT2
    have hT3 : T.length ≤ S2.length + 1 := by simpa using hT2
    have hsn2 : stC S2 ++ [[.s xb]] = stC (S2 ++ [xb]) := mapC_snoc st1 _ _
    have hSl : S2.length + 1 = (S2 ++ [xb]).length := by simp
    obtain ⟨S', hS'⟩ : ∃ S', S2 ++ [xb] = S' := ⟨_, rfl⟩
    rw [hS'] at hsn2 hSl hT1 hT2
    have hSl2 : (stC S').length = S'.length := mapC_len _ _
    have hSt : (stC S').take S'.length = stC S' := List.take_of_length_le (by omega)
    have dT : decide ((S'.length : Int) < (T.length : Int)) = false := decide_eq_false (by omega)
    have hT0 : (T.length : Int) ≤ (S'.length : Int) := by omega
    rw [hsn2, hSl]
    simp (disch := omega) only [ite_ne, go_sem, ↓reduceIte, Nat.reduceEqDiff, Nat.reduceBEq, Nat.reduceAdd, Nat.reduceLeDiff, Nat.reduceLT, reduceCtorEq, Nat.reduceMul, Nat.reduceSub, Int.reduceEq, Int.reduceLT, Int.reduceLE, Int.reduceToNat]
    refine vcCall.f (hG _ (by (simp (disch := omega) only [ite_ne, go_sem, ↓reduceIte, Nat.reduceEqDiff, Nat.reduceBEq, Nat.reduceAdd, Nat.reduceLeDiff, Nat.reduceLT, reduceCtorEq, Nat.reduceMul, Nat.reduceSub, Int.reduceEq, Int.reduceLT, Int.reduceLE, Int.reduceToNat])) (by (simp (disch := omega) only [ite_ne, go_sem, ↓reduceIte, Nat.reduceEqDiff, Nat.reduceBEq, Nat.reduceAdd, Nat.reduceLeDiff, Nat.reduceLT, reduceCtorEq, Nat.reduceMul, Nat.reduceSub, Int.reduceEq, Int.reduceLT, Int.reduceLE, Int.reduceToNat])) _) ?_
    simp (disch := omega) only [ite_ne, dT, hT3, hSl2, hSt, Nat.le_refl, hT0, go_sem, ↓reduceIte, Nat.reduceEqDiff, Nat.reduceBEq, Nat.reduceAdd, Nat.reduceLeDiff, Nat.reduceLT, reduceCtorEq, Nat.reduceMul, Nat.reduceSub, Int.reduceEq, Int.reduceLT, Int.reduceLE, Int.reduceToNat]
    refine ⟨fun e he => mapC_all (c := st1) (n := 1) (fun _ => rfl) e he, ?_⟩
    refine gCall.f (fun _ => texts_row T S' hT1 (by omega) hT2 (by (simp (disch := omega) only [ite_ne, hsn2, go_sem, ↓reduceIte, Nat.reduceEqDiff, Nat.reduceBEq, Nat.reduceAdd, Nat.reduceLeDiff, Nat.reduceLT, reduceCtorEq, Nat.reduceMul, Nat.reduceSub, Int.reduceEq, Int.reduceLT, Int.reduceLE, Int.reduceToNat])) _) ?_
    simp (disch := omega) only [ite_ne, go_sem, ↓reduceIte, Nat.reduceEqDiff, Nat.reduceBEq, Nat.reduceAdd, Nat.reduceLeDiff, Nat.reduceLT, reduceCtorEq, Nat.reduceMul, Nat.reduceSub, Int.reduceEq, Int.reduceLT, Int.reduceLE, Int.reduceToNat]
    refine ⟨.mk (i + 1) Q2 KA' a2 d2 g' c2 gk2 g1 (g2 + 1) g3 g4 lo3 (n' + 14), ⟨by omega, by omega, hQ2, by omega, hi8, hi9, hi6, hi7, by omega, by omega⟩, by show l.length - (i + 1) < l.length - i; omega, ?_⟩
    simp only [r2S, rcM]
    rw [hgR1, hgR2, hgR3, hgR4]
    simp only [Int.reduceEq, ↓reduceIte]
    rw [hS']
    refine weak_ok ?_ (SubX.sub (SubX.cons ?_ (SubX.cons ?_ (SubX.cons ?_ (SubX.cons ?_ (SubX.cons ?_ (SubX.cons ?_ (SubX.cons ?_ (SubX.cons ?_ (SubX.cons ?_ (SubX.cons ?_ (SubX.base hf fun k hk hkx => ?_)))))))))))) (Nat.le_refl _)
    · simp (disch := omega) only [ite_ne, wr64s i (by omega), go_sem, ↓reduceIte, Nat.reduceEqDiff, Nat.reduceBEq, Nat.reduceAdd, Nat.reduceLeDiff, Nat.reduceLT, reduceCtorEq, Nat.reduceMul, Nat.reduceSub, Int.reduceEq, Int.reduceLT, Int.reduceLE, Int.reduceToNat]
    all_goals first | ((simp (disch := omega) only [ite_ne, go_sem, ↓reduceIte, Nat.reduceEqDiff, Nat.reduceBEq, Nat.reduceAdd, Nat.reduceLeDiff, Nat.reduceLT, reduceCtorEq, Nat.reduceMul, Nat.reduceSub, Int.reduceEq, Int.reduceLT, Int.reduceLE, Int.reduceToNat]); done) | ((simp (disch := omega) only [ite_ne, go_sem, ↓reduceIte, Nat.reduceEqDiff, Nat.reduceBEq, Nat.reduceAdd, Nat.reduceLeDiff, Nat.reduceLT, reduceCtorEq, Nat.reduceMul, Nat.reduceSub, Int.reduceEq, Int.reduceLT, Int.reduceLE, Int.reduceToNat]); rfl) | (repeat rw [gc_ne _ _ (by omega)])
  · have k1 : (S3.length + 1) * 16 ≤ 140737488355328 := by omega
    have k2 : S3.length ≤ 9223372036854775806 := by omega
    have hD := fun hp' h1 h2 h3 h4 h5 m' => deliver_ok false Q2 hQ2 a c d' gk KA' (by omega) hi3 hKQ' hac (by omega) (vL 5) (by decide) (by decide) g' 4 [f] (fun y hy => .inl (by rw [List.mem_singleton.1 hy]; exact hfm)) (by simp) lo hlo2 (fun h => (by cases h)) m (m + 3) (m + 4) (m + 1) (m + 5) hp' h1 h2 h3 h4 h5 m'
    unfold svB at hD
    simp (disch := omega) only [ite_ne, hll, di, hil, getK_s (mapC_get spC ex), k1, k2, true_and, go_sem, ↓reduceIte, Nat.reduceEqDiff, Nat.reduceBEq, Nat.reduceAdd, Nat.reduceLeDiff, Nat.reduceLT, reduceCtorEq, Nat.reduceMul, Nat.reduceSub, Int.reduceEq, Int.reduceLT, Int.reduceLE, Int.reduceToNat]
    refine vcCall.r (hD _ (by (simp (disch := omega) only [ite_ne, go_sem, ↓reduceIte, Nat.reduceEqDiff, Nat.reduceBEq, Nat.reduceAdd, Nat.reduceLeDiff, Nat.reduceLT, reduceCtorEq, Nat.reduceMul, Nat.reduceSub, Int.reduceEq, Int.reduceLT, Int.reduceLE, Int.reduceToNat])) (by (simp (disch := omega) only [ite_ne, go_sem, ↓reduceIte, Nat.reduceEqDiff, Nat.reduceBEq, Nat.reduceAdd, Nat.reduceLeDiff, Nat.reduceLT, reduceCtorEq, Nat.reduceMul, Nat.reduceSub, Int.reduceEq, Int.reduceLT, Int.reduceLE, Int.reduceToNat])) (by (simp (disch := omega) only [ite_ne, go_sem, ↓reduceIte, Nat.reduceEqDiff, Nat.reduceBEq, Nat.reduceAdd, Nat.reduceLeDiff, Nat.reduceLT, reduceCtorEq, Nat.reduceMul, Nat.reduceSub, Int.reduceEq, Int.reduceLT, Int.reduceLE, Int.reduceToNat])) (by (simp (disch := omega) only [ite_ne, go_sem, ↓reduceIte, Nat.reduceEqDiff, Nat.reduceBEq, Nat.reduceAdd, Nat.reduceLeDiff, Nat.reduceLT, reduceCtorEq, Nat.reduceMul, Nat.reduceSub, Int.reduceEq, Int.reduceLT, Int.reduceLE, Int.reduceToNat])) (by (simp (disch := omega) only [ite_ne, go_sem, ↓reduceIte, Nat.reduceEqDiff, Nat.reduceBEq, Nat.reduceAdd, Nat.reduceLeDiff, Nat.reduceLT, reduceCtorEq, Nat.reduceMul, Nat.reduceSub, Int.reduceEq, Int.reduceLT, Int.reduceLE, Int.reduceToNat])) _) fun hp' n' r ⟨i3, hi6, e1, e2, e3⟩ => ?_
    subst e1
    subst e2
    subst e3
    obtain ⟨a2, c2, d2, gk2, lo3⟩ := i3
    obtain ⟨hi6, hi7, hi8, hi9, hi10, hi11⟩ := hi6
    simp only [dvW, dvR, svB, List.cons_append, List.nil_append]
    have hG := mGot_ok true c2 (gQ Q2 c2) (by have := hQ2.len; simp [gQ]; omega) (m + 1) (m + 5) gk2 3
    rw [show gotL (gQ Q2 c2) 3 = gotR (Q2.take c2) 3 from got_pair _ _] at hG
    have hT1 := got_take Q2 c2 3
    have hT2 := got_len Q2 c2 3
    obtain ⟨T, hT⟩ : ∃ T, gotR (Q2.take c2) 3 = T := ⟨_, rfl⟩
    rw [hT] at hG hT1 hT2
    rw [hgR3, if_pos rfl] at hT1 hT2
    have hT3 : T.length ≤ S3.length + 1 := by simpa using hT2
    have hsn2 : stC S3 ++ [[.s xb]] = stC (S3 ++ [xb]) := mapC_snoc st1 _ _
    have hSl : S3.length + 1 = (S3 ++ [xb]).length := by simp
    obtain ⟨S', hS'⟩ : ∃ S', S3 ++ [xb] = S' := ⟨_, rfl⟩
    rw [hS'] at hsn2 hSl hT1 hT2
    have hSl2 : (stC S').length = S'.length := mapC_len _ _
    have hSt : (stC S').take S'.length = stC S' := List.take_of_length_le (by omega)
    have dT : decide ((S'.length : Int) < (T.length : Int)) = false := decide_eq_false (by omega)
    have hT0 : (T.length : Int) ≤ (S'.length : Int) := by omega
    rw [hsn2, hSl]
    simp (disch := omega) only [ite_ne, go_sem, ↓reduceIte, Nat.reduceEqDiff, Nat.reduceBEq, Nat.reduceAdd, Nat.reduceLeDiff, Nat.reduceLT, reduceCtorEq, Nat.reduceMul, Nat.reduceSub, Int.reduceEq, Int.reduceLT, Int.reduceLE, Int.reduceToNat]
    refine vcCall.f (hG _ (by (simp (disch := omega) only [ite_ne, go_sem, ↓reduceIte, Nat.reduceEqDiff, Nat.reduceBEq, Nat.reduceAdd, Nat.reduceLeDiff, Nat.reduceLT, reduceCtorEq, Nat.reduceMul, Nat.reduceSub, Int.reduceEq, Int.reduceLT, Int.reduceLE, Int.reduceToNat])) (by (simp (disch := omega) only [ite_ne, go_sem, ↓reduceIte, Nat.reduceEqDiff, Nat.reduceBEq, Nat.reduceAdd, Nat.reduceLeDiff, Nat.reduceLT, reduceCtorEq, Nat.reduceMul, Nat.reduceSub, Int.reduceEq, Int.reduceLT, Int.reduceLE, Int.reduceToNat])) _) ?_
    simp (disch := omega) only [ite_ne, dT, hT3, hSl2, hSt, Nat.le_refl, hT0, go_sem, ↓reduceIte, Nat.reduceEqDiff, Nat.reduceBEq, Nat.reduceAdd, Nat.reduceLeDiff, Nat.reduceLT, reduceCtorEq, Nat.reduceMul, Nat.reduceSub, Int.reduceEq, Int.reduceLT, Int.reduceLE, Int.reduceToNat]
    refine ⟨fun e he => mapC_all (c := st1) (n := 1) (fun _ => rfl) e he, ?_⟩
    refine gCall.f (fun _ => texts_row T S' hT1 (by omega) hT2 (by (simp (disch := omega) only [ite_ne, hsn2, go_sem, ↓reduceIte, Nat.reduceEqDiff, Nat.reduceBEq, Nat.reduceAdd, Nat.reduceLeDiff, Nat.reduceLT, reduceCtorEq, Nat.reduceMul, Nat.reduceSub, Int.reduceEq, Int.reduceLT, Int.reduceLE, Int.reduceToNat])) _) ?_
    simp (disch := omega) only [ite_ne, go_sem, ↓reduceIte, Nat.reduceEqDiff, Nat.reduceBEq, Nat.reduceAdd, Nat.reduceLeDiff, Nat.reduceLT, reduceCtorEq, Nat.reduceMul, Nat.reduceSub, Int.reduceEq, Int.reduceLT, Int.reduceLE, Int.reduceToNat]
    refine ⟨.mk (i + 1) Q2 KA' a2 d2 g' c2 gk2 g1 g2 (g3 + 1) g4 lo3 (n' + 14), ⟨by omega, by omega, hQ2, by omega, hi8, hi9, hi6, hi7, by omega, by omega⟩, by show l.length - (i + 1) < l.length - i; omega, ?_⟩
    simp only [r2S, rcM]
    rw [hgR1, hgR2, hgR3, hgR4]
    simp only [Int.reduceEq, ↓reduceIte]
    rw [hS']
    refine weak_ok ?_ (SubX.sub (SubX.cons ?_ (SubX.cons ?_ (SubX.cons ?_ (SubX.cons ?_ (SubX.cons ?_ (SubX.cons ?_ (SubX.cons ?_ (SubX.cons ?_ (SubX.cons ?_ (SubX.cons ?_ (SubX.base hf fun k hk hkx => ?_)))))))))))) (Nat.le_refl _)
    · simp (disch := omega) only [ite_ne, wr64s i (by omega), go_sem, ↓reduceIte, Nat.reduceEqDiff, Nat.reduceBEq, Nat.reduceAdd, Nat.reduceLeDiff, Nat.reduceLT, reduceCtorEq, Nat.reduceMul, Nat.reduceSub, Int.reduceEq, Int.reduceLT, Int.reduceLE, Int.reduceToNat]
    all_goals first | ((simp (disch := omega) only [ite_ne, go_sem, ↓reduceIte, Nat.reduceEqDiff, Nat.reduceBEq, Nat.reduceAdd, Nat.reduceLeDiff, Nat.reduceLT, reduceCtorEq, Nat.reduceMul, Nat.reduceSub, Int.reduceEq, Int.reduceLT, Int.reduceLE, Int.reduceToNat]); done) | ((simp (disch := omega) only [ite_ne, go_sem, ↓reduceIte, Nat.reduceEqDiff, Nat.reduceBEq, Nat.reduceAdd, Nat.reduceLeDiff, Nat.reduceLT, reduceCtorEq, Nat.reduceMul, Nat.reduceSub, Int.reduceEq, Int.reduceLT, Int.reduceLE, Int.reduceToNat]); rfl) | (repeat rw [gc_ne _ _ (by omega)])
  · have k1 : (S4.length + 1) * 16 ≤ 140737488355328 := by omega
    have k2 : S4.length ≤ 9223372036854775806 := by omega
    have hD := fun hp' h1 h2 h3 h4 h5 m' => deliver_ok false Q2 hQ2 a c d' gk KA' (by omega) hi3 hKQ' hac (by omega) (vL 5) (by decide) (by decide) g' 4 [f] (fun y hy => .inl (by rw [List.mem_singleton.1 hy]; exact hfm)) (by simp) lo hlo2 (fun h => (by cases h)) m (m + 3) (m + 4) (m + 1) (m + 5) hp' h1 h2 h3 h4 h5 m'
    unfold svB at hD
    simp (disch := omega) only [ite_ne, hll, di, hil, getK_s (mapC_get spC ex), k1, k2, true_and, go_sem, ↓reduceIte, Nat.reduceEqDiff, Nat.reduceBEq, Nat.reduceAdd, Nat.reduceLeDiff, Nat.reduceLT, reduceCtorEq, Nat.reduceMul, Nat.reduceSub, Int.reduceEq, Int.reduceLT, Int.reduceLE, Int.reduceToNat]
    refine vcCall.r (hD _ (by (simp (disch := omega) only [ite_ne, go_sem, ↓reduceIte, Nat.reduceEqDiff, Nat.reduceBEq, Nat.reduceAdd, Nat.reduceLeDiff, Nat.reduceLT, reduceCtorEq, Nat.reduceMul, Nat.reduceSub, Int.reduceEq, Int.reduceLT, Int.reduceLE, Int.reduceToNat])) (by (simp (disch := omega) only [ite_ne, go_sem, ↓reduceIte, Nat.reduceEqDiff, Nat.reduceBEq, Nat.reduceAdd, Nat.reduceLeDiff, Nat.reduceLT, reduceCtorEq, Nat.reduceMul, Nat.reduceSub, Int.reduceEq, Int.reduceLT, Int.reduceLE, Int.reduceToNat])) (by (simp (disch := omega) only [ite_ne, go_sem, ↓reduceIte, Nat.reduceEqDiff, Nat.reduceBEq, Nat.reduceAdd, Nat.reduceLeDiff, Nat.reduceLT, reduceCtorEq, Nat.reduceMul, Nat.reduceSub, Int.reduceEq, Int.reduceLT, Int.reduceLE, Int.reduceToNat])) (by (simp (disch := omega) only [ite_ne, go_sem, ↓reduceIte, Nat.reduceEqDiff, Nat.reduceBEq, Nat.reduceAdd, Nat.reduceLeDiff, Nat.reduceLT, reduceCtorEq, Nat.reduceMul, Nat.reduceSub, Int.reduceEq, Int.reduceLT, Int.reduceLE, Int.reduceToNat])) (by (simp (disch := omega) only [ite_ne, go_sem, ↓reduceIte, Nat.reduceEqDiff, Nat.reduceBEq, Nat.reduceAdd, Nat.reduceLeDiff, Nat.reduceLT, reduceCtorEq, Nat.reduceMul, Nat.reduceSub, Int.reduceEq, Int.reduceLT, Int.reduceLE, Int.reduceToNat])) _) fun hp' n' r ⟨i3, hi6, e1, e2, e3⟩ => ?_
    subst e1
    subst e2
    subst e3
    obtain ⟨a2, c2, d2, gk2, lo3⟩ := i3
    obtain ⟨hi6, hi7, hi8, hi9, hi10, hi11⟩ := hi6
    simp only [dvW, dvR, svB, List.cons_append, List.nil_append]
    have hG := mGot_ok true c2 (gQ Q2 c2) (by have := hQ2.len; simp [gQ]; omega) (m + 1) (m + 5) gk2 4
    rw [show gotL (gQ Q2 c2) 4 = gotR (Q2.take c2) 4 from got_pair _ _] at hG
    have hT1 := got_take Q2 c2 4
    have hT2 := got_len Q2 c2 4
    obtain ⟨T, hT⟩ : ∃ T, gotR (Q2.take c2) 4 = T := ⟨_, rfl⟩
    rw [hT] at hG hT1 hT2
    rw [hgR4, if_pos rfl] at hT1 hT2
    have hT3 : T.length ≤ S4.length + 1 := by simpa using hT2
    have hsn2 : stC S4 ++ [[.s xb]] = stC (S4 ++ [xb]) := mapC_snoc st1 _ _
    have hSl : S4.length + 1 = (S4 ++ [xb]).length := by simp
    obtain ⟨S', hS'⟩ : ∃ S', S4 ++ [xb] = S' := ⟨_, rfl⟩
    rw [hS'] at hsn2 hSl hT1 hT2
    have hSl2 : (stC S').length = S'.length := mapC_len _ _
    have hSt : (stC S').take S'.length = stC S' := List.take_of_length_le (by omega)
    have dT : decide ((S'.length : Int) < (T.length : Int)) = false := decide_eq_false (by omega)
    have hT0 : (T.length : Int) ≤ (S'.length : Int) := by omega
    rw [hsn2, hSl]
    simp (disch := omega) only [ite_ne, go_sem, ↓reduceIte, Nat.reduceEqDiff, Nat.reduceBEq, Nat.reduceAdd, Nat.reduceLeDiff, Nat.reduceLT, reduceCtorEq, Nat.reduceMul, Nat.reduceSub, Int.reduceEq, Int.reduceLT, Int.reduceLE, Int.reduceToNat]
    refine vcCall.f (hG _ (by (simp (disch := omega) only [ite_ne, go_sem, ↓reduceIte, Nat.reduceEqDiff, Nat.reduceBEq, Nat.reduceAdd, Nat.reduceLeDiff, Nat.reduceLT, reduceCtorEq, Nat.reduceMul, Nat.reduceSub, Int.reduceEq, Int.reduceLT, Int.reduceLE, Int.reduceToNat])) (by (simp (disch := omega) only [ite_ne, go_sem, ↓reduceIte, Nat.reduceEqDiff, Nat.reduceBEq, Nat.reduceAdd, Nat.reduceLeDiff, Nat.reduceLT, reduceCtorEq, Nat.reduceMul, Nat.reduceSub, Int.reduceEq, Int.reduceLT, Int.reduceLE, Int.reduceToNat])) _) ?_
    simp (disch := omega) only [ite_ne, dT, hT3, hSl2, hSt, Nat.le_refl, hT0, go_sem, ↓reduceIte, Nat.reduceEqDiff, Nat.reduceBEq, Nat.reduceAdd, Nat.reduceLeDiff, Nat.reduceLT, reduceCtorEq, Nat.reduceMul, Nat.reduceSub, Int.reduceEq, Int.reduceLT, Int.reduceLE, Int.reduceToNat]
    refine ⟨fun e he => mapC_all (c := st1) (n := 1) (fun _ => rfl) e he, ?_⟩
    refine gCall.f (fun _ => texts_row T S' hT1 (by omega) hT2 (by (simp (disch := omega) only [ite_ne, hsn2, go_sem, ↓reduceIte, Nat.reduceEqDiff, Nat.reduceBEq, Nat.reduceAdd, Nat.reduceLeDiff, Nat.reduceLT, reduceCtorEq, Nat.reduceMul, Nat.reduceSub, Int.reduceEq, Int.reduceLT, Int.reduceLE, Int.reduceToNat])) _) ?_
    simp (disch := omega) only [ite_ne, go_sem, ↓reduceIte, Nat.reduceEqDiff, Nat.reduceBEq, Nat.reduceAdd, Nat.reduceLeDiff, Nat.reduceLT, reduceCtorEq, Nat.reduceMul, Nat.reduceSub, Int.reduceEq, Int.reduceLT, Int.reduceLE, Int.reduceToNat]
    refine ⟨.mk (i + 1) Q2 KA' a2 d2 g' c2 gk2 g1 g2 g3 (g4 + 1) lo3 (n' + 14), ⟨by omega, by omega, hQ2, by omega, hi8, hi9, hi6, hi7, by omega, by omega⟩, by show l.length - (i + 1) < l.length - i; omega, ?_⟩
    simp only [r2S, rcM]
    rw [hgR1, hgR2, hgR3, hgR4]
    simp only [Int.reduceEq, ↓reduceIte]
    rw [hS']
    refine weak_ok ?_ (SubX.sub (SubX.cons ?_ (SubX.cons ?_ (SubX.cons ?_ (SubX.cons ?_ (SubX.cons ?_ (SubX.cons ?_ (SubX.cons ?_ (SubX.cons ?_ (SubX.cons ?_ (SubX.cons ?_ (SubX.base hf fun k hk hkx => ?_)))))))))))) (Nat.le_refl _)
    · simp (disch := omega) only [ite_ne, wr64s i (by omega), go_sem, ↓reduceIte, Nat.reduceEqDiff, Nat.reduceBEq, Nat.reduceAdd, Nat.reduceLeDiff, Nat.reduceLT, reduceCtorEq, Nat.reduceMul, Nat.reduceSub, Int.reduceEq, Int.reduceLT, Int.reduceLE, Int.reduceToNat]
    all_goals first | ((simp (disch := omega) only [ite_ne, go_sem, ↓reduceIte, Nat.reduceEqDiff, Nat.reduceBEq, Nat.reduceAdd, Nat.reduceLeDiff, Nat.reduceLT, reduceCtorEq, Nat.reduceMul, Nat.reduceSub, Int.reduceEq, Int.reduceLT, Int.reduceLE, Int.reduceToNat]); done) | ((simp (disch := omega) only [ite_ne, go_sem, ↓reduceIte, Nat.reduceEqDiff, Nat.reduceBEq, Nat.reduceAdd, Nat.reduceLeDiff, Nat.reduceLT, reduceCtorEq, Nat.reduceMul, Nat.reduceSub, Int.reduceEq, Int.reduceLT, Int.reduceLE, Int.reduceToNat]); rfl) | (repeat rw [gc_ne _ _ (by omega)])
end Go.Proofs.Ytdodiembhgjecaa
