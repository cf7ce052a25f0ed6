/-
  The parts MxW of the proof, in one file. Conditions: none.
-/
import Derived.Test.YtdodiembhgjecaaMb51
namespace Go.Proofs.Ytdodiembhgjecaa
open Go.Eng
set_option linter.unusedVariables false
set_option linter.unusedSimpArgs false
set_option maxRecDepth 20000
set_option maxHeartbeats 4000000
inductive Stp where
  | mk (n : Int) (k : Int) (i : Int) (s : Int) (a : Int) (b : ByteArray)
deriving DecidableEq
def Stp.n : Stp → Int | .mk n _ _ _ _ _ => n
theorem Stp.n_mk (n : Int) (k : Int) (i : Int) (s : Int) (a : Int) (b : ByteArray) : (Stp.mk n k i s a b).n = n := rfl
def Stp.k : Stp → Int | .mk _ k _ _ _ _ => k
theorem Stp.k_mk (n : Int) (k : Int) (i : Int) (s : Int) (a : Int) (b : ByteArray) : (Stp.mk n k i s a b).k = k := rfl
def Stp.i : Stp → Int | .mk _ _ i _ _ _ => i
theorem Stp.i_mk (n : Int) (k : Int) (i : Int) (s : Int) (a : Int) (b : ByteArray) : (Stp.mk n k i s a b).i = i := rfl
def Stp.s : Stp → Int | .mk _ _ _ s _ _ => s
theorem Stp.s_mk (n : Int) (k : Int) (i : Int) (s : Int) (a : Int) (b : ByteArray) : (Stp.mk n k i s a b).s = s := rfl
def Stp.a : Stp → Int | .mk _ _ _ _ a _ => a
theorem Stp.a_mk (n : Int) (k : Int) (i : Int) (s : Int) (a : Int) (b : ByteArray) : (Stp.mk n k i s a b).a = a := rfl
def Stp.b : Stp → ByteArray | .mk _ _ _ _ _ b => b
theorem Stp.b_mk (n : Int) (k : Int) (i : Int) (s : Int) (a : Int) (b : ByteArray) : (Stp.mk n k i s a b).b = b := rfl
theorem Stp.ext {x y : Stp} (h0 : x.n = y.n) (h1 : x.k = y.k) (h2 : x.i = y.i) (h3 : x.s = y.s) (h4 : x.a = y.a) (h5 : x.b = y.b) : x = y := by cases x; cases y; simp only [Stp.n_mk, Stp.k_mk, Stp.i_mk, Stp.s_mk, Stp.a_mk, Stp.b_mk] at *; simp [*]
def spC (x : Stp) : List AV := [.i .i64 x.n, .i .i64 x.k, .i .i64 x.i, .i .i64 x.s, .i .i64 x.a, .s x.b]
attribute [go_sem] spC Stp.n_mk Stp.k_mk Stp.i_mk Stp.s_mk Stp.a_mk Stp.b_mk
attribute [grind =] Stp.n_mk Stp.k_mk Stp.i_mk Stp.s_mk Stp.a_mk Stp.b_mk
attribute [ext] Stp.ext
attribute [grind ext] Stp.ext
inductive Ix47
  | mk (j : Nat) (last ack : Int) (KA : List Frm) (d g : Nat) (V : List Int) (gl : Nat) (L : List Frm) (gL : Nat) (S : List Int) (gS n : Nat)
def I47 (m : Nat) (room : Int) (l : List Stp) (hp : CH) : Ix47 → St
  | .mk j last ack KA d g V gl L gL S gS n => ⟨[(1, .ds (mapC spC l)), (5, .bx m 0), (7, .bx (m + 1) 0), (9, .i .i64 j)],
      (m, .bx [.i .i64 room, .i .i64 last, .i .i64 ack, .rf (m + 2) g 5 d (KA.length - d), .rw (m + 3) gl V.length]) :: (m + 2, .rw g 5 (mapC frC KA)) :: (m + 3, .rw gl 1 (mapC in1 V)) ::
      (m + 1, .bx [.i .i64 room, .i .i64 last, .i .i64 ack, .rw (m + 4) gL L.length, .rw (m + 5) gS S.length]) :: (m + 4, .rw gL 5 (mapC frC L)) :: (m + 5, .rw gS 1 (mapC in1 S)) :: hp, n⟩
def φ47 (m : Nat) (l : List Stp) : Ix47 → Prop
  | .mk j last ack KA d g V gl L gL S gS n => j ≤ l.length ∧ m + 6 ≤ n ∧ SvI j last KA d S ∧ V = liveR S ∧ L = KA.drop d
def μ47 (l : List Stp) : Ix47 → Nat
  | .mk j _ _ _ _ _ _ _ _ _ _ _ _ => l.length - j
theorem lawServes (room : Int) (l : List Stp) (hp : CH) (m : Nat) : MeetsF Try.prog 3 hp m [.i .i64 room, .ds (mapC spC l)] (.b true) := by
  have hll : (mapC spC l).length = l.length := mapC_len _ _
  refine meetsF Try.func3 (by kernel_rfl) cc3 cr3 rfl fun hf => ?_; unfold ck3
  by_cases hroom : 1 ≤ room ∧ room ≤ 4096
  case neg =>
    simp (disch := omega) only [ite_ne, hll, go_sem, ↓reduceIte, Nat.reduceEqDiff, Nat.reduceBEq, Nat.reduceAdd, Nat.reduceLeDiff, Nat.reduceLT, reduceCtorEq, Nat.reduceMul, Nat.reduceSub, Int.reduceEq, Int.reduceLT, Int.reduceLE, Int.reduceToNat]
    refine vcCall.f (sNew_no room hroom _ _) ?_
    simp (disch := omega) only [ite_ne, hll, go_sem, ↓reduceIte, Nat.reduceEqDiff, Nat.reduceBEq, Nat.reduceAdd, Nat.reduceLeDiff, Nat.reduceLT, reduceCtorEq, Nat.reduceMul, Nat.reduceSub, Int.reduceEq, Int.reduceLT, Int.reduceLE, Int.reduceToNat]
    refine vcCall.f (gNew2_no room hroom _ _) ?_
    simp (disch := omega) only [ite_ne, hll, go_sem, ↓reduceIte, Nat.reduceEqDiff, Nat.reduceBEq, Nat.reduceAdd, Nat.reduceLeDiff, Nat.reduceLT, reduceCtorEq, Nat.reduceMul, Nat.reduceSub, Int.reduceEq, Int.reduceLT, Int.reduceLE, Int.reduceToNat]
    refine cdK_of (fun q => ?_) (fun q => ?_)
    · simp only [go_sem, ↓reduceIte, Nat.reduceEqDiff, Nat.reduceBEq, Nat.reduceAdd, Nat.reduceLeDiff, Nat.reduceLT, reduceCtorEq, Nat.reduceMul, Nat.reduceSub, Int.reduceEq, Int.reduceLT, Int.reduceLE, Int.reduceToNat]
      refine gCall.f (fun _ => exh47_ok _ _) ?_
      simp only [go_sem, ↓reduceIte, Nat.reduceEqDiff, Nat.reduceBEq, Nat.reduceAdd, Nat.reduceLeDiff, Nat.reduceLT, reduceCtorEq, Nat.reduceMul, Nat.reduceSub, Int.reduceEq, Int.reduceLT, Int.reduceLE, Int.reduceToNat]
    have hl2 : l.length ≤ 200 := by simp at q; omega
    have hF := frames_eq [] (by simp)
    have hT := ints_eq [] (by simp)
    have hz : mapC frC ([] : List Frm) = [] := rfl
    have hz1 : mapC in1 ([] : List Int) = [] := rfl
    rw [hz] at hF
    rw [hz1] at hT
    simp only [go_sem, ↓reduceIte, Nat.reduceEqDiff, Nat.reduceBEq, Nat.reduceAdd, Nat.reduceLeDiff, Nat.reduceLT, reduceCtorEq, Nat.reduceMul, Nat.reduceSub, Int.reduceEq, Int.reduceLT, Int.reduceLE, Int.reduceToNat]
    refine loop (fun q : Nat × Nat => ⟨[(1, .ds (mapC spC l)), (5, .np), (7, .np), (9, .i .i64 q.1)], hp, q.2⟩) (fun q => q.1 ≤ l.length ∧ m ≤ q.2) (fun q => l.length - q.1) (0, m) ?_ ?_ (fun ⟨j, n⟩ hj => ?_)
    · exact ⟨Nat.zero_le _, Nat.le_refl _⟩
    · refine weak_ok ?_ (Sub.refl _) (Nat.le_refl _)
      simp only [go_sem, ↓reduceIte, Nat.reduceEqDiff, Nat.reduceBEq, Nat.reduceAdd, Nat.reduceLeDiff, Nat.reduceLT, reduceCtorEq, Nat.reduceMul, Nat.reduceSub, Int.reduceEq, Int.reduceLT, Int.reduceLE, Int.reduceToNat]
    dsimp only at hj
    obtain ⟨hj, hmn⟩ := hj
    simp (disch := omega) only [ite_ne, hll, go_sem, ↓reduceIte, Nat.reduceEqDiff, Nat.reduceBEq, Nat.reduceAdd, Nat.reduceLeDiff, Nat.reduceLT, reduceCtorEq, Nat.reduceMul, Nat.reduceSub, Int.reduceEq, Int.reduceLT, Int.reduceLE, Int.reduceToNat]
    refine cdK_of (fun q => ?_) (fun q => ?_)
    · have q : j < l.length := by simpa using q
      obtain ⟨x, ex⟩ : ∃ x, l[j]? = some x := ⟨l[j], by simp [q]⟩
      obtain ⟨sn, sk, si, ss, sa, sb⟩ := x
      by_cases k2 : sn = 2
      · subst k2
        simp (disch := omega) only [ite_ne, q, hll, getK_s (mapC_get spC ex), go_sem, ↓reduceIte, Nat.reduceEqDiff, Nat.reduceBEq, Nat.reduceAdd, Nat.reduceLeDiff, Nat.reduceLT, reduceCtorEq, Nat.reduceMul, Nat.reduceSub, Int.reduceEq, Int.reduceLT, Int.reduceLE, Int.reduceToNat]
        refine vcCall.f (sPub_nil _ _ _ _) ?_
        simp only [go_sem, ↓reduceIte, Nat.reduceEqDiff, Nat.reduceBEq, Nat.reduceAdd, Nat.reduceLeDiff, Nat.reduceLT, reduceCtorEq, Nat.reduceMul, Nat.reduceSub, Int.reduceEq, Int.reduceLT, Int.reduceLE, Int.reduceToNat]
        refine vcCall.f (gPub_nil _ _ _ _) ?_
        simp only [go_sem, ↓reduceIte, Nat.reduceEqDiff, Nat.reduceBEq, Nat.reduceAdd, Nat.reduceLeDiff, Nat.reduceLT, reduceCtorEq, Nat.reduceMul, Nat.reduceSub, Int.reduceEq, Int.reduceLT, Int.reduceLE, Int.reduceToNat]
        refine vcCall.f (hF _ _) ?_
        simp only [go_sem, ↓reduceIte, Nat.reduceEqDiff, Nat.reduceBEq, Nat.reduceAdd, Nat.reduceLeDiff, Nat.reduceLT, reduceCtorEq, Nat.reduceMul, Nat.reduceSub, Int.reduceEq, Int.reduceLT, Int.reduceLE, Int.reduceToNat]
        refine gCall.f (fun _ => sLive_nil _ _) ?_
        simp only [go_sem, ↓reduceIte, Nat.reduceEqDiff, Nat.reduceBEq, Nat.reduceAdd, Nat.reduceLeDiff, Nat.reduceLT, reduceCtorEq, Nat.reduceMul, Nat.reduceSub, Int.reduceEq, Int.reduceLT, Int.reduceLE, Int.reduceToNat]
        refine gCall.f (fun _ => gLive_nil _ _) ?_
        simp only [go_sem, ↓reduceIte, Nat.reduceEqDiff, Nat.reduceBEq, Nat.reduceAdd, Nat.reduceLeDiff, Nat.reduceLT, reduceCtorEq, Nat.reduceMul, Nat.reduceSub, Int.reduceEq, Int.reduceLT, Int.reduceLE, Int.reduceToNat]
        refine gCall.f (fun _ => hT _ _) ?_
        simp only [go_sem, ↓reduceIte, Nat.reduceEqDiff, Nat.reduceBEq, Nat.reduceAdd, Nat.reduceLeDiff, Nat.reduceLT, reduceCtorEq, Nat.reduceMul, Nat.reduceSub, Int.reduceEq, Int.reduceLT, Int.reduceLE, Int.reduceToNat]
        refine gCall.f (fun _ => sKept_nil _ _) ?_
        simp only [go_sem, ↓reduceIte, Nat.reduceEqDiff, Nat.reduceBEq, Nat.reduceAdd, Nat.reduceLeDiff, Nat.reduceLT, reduceCtorEq, Nat.reduceMul, Nat.reduceSub, Int.reduceEq, Int.reduceLT, Int.reduceLE, Int.reduceToNat]
        refine gCall.f (fun _ => gKept_nil _ _) ?_
        simp only [go_sem, ↓reduceIte, Nat.reduceEqDiff, Nat.reduceBEq, Nat.reduceAdd, Nat.reduceLeDiff, Nat.reduceLT, reduceCtorEq, Nat.reduceMul, Nat.reduceSub, Int.reduceEq, Int.reduceLT, Int.reduceLE, Int.reduceToNat]
        refine ⟨(j + 1, _), ⟨by dsimp only; omega, by dsimp only; omega⟩, by dsimp only; omega, weak_ok ?_ (Sub.base hf ?_) (Nat.le_refl _)⟩
        · simp (disch := omega) only [ite_ne, wr64s j (by omega), go_sem, ↓reduceIte, Nat.reduceEqDiff, Nat.reduceBEq, Nat.reduceAdd, Nat.reduceLeDiff, Nat.reduceLT, reduceCtorEq, Nat.reduceMul, Nat.reduceSub, Int.reduceEq, Int.reduceLT, Int.reduceLE, Int.reduceToNat]
        · intro a ha
          repeat rw [gc_ne _ _ (by omega)]
      have d2 := decide_eq_false k2
      by_cases k3 : sn = 3
      · subst k3
        simp (disch := omega) only [ite_ne, q, hll, getK_s (mapC_get spC ex), go_sem, ↓reduceIte, Nat.reduceEqDiff, Nat.reduceBEq, Nat.reduceAdd, Nat.reduceLeDiff, Nat.reduceLT, reduceCtorEq, Nat.reduceMul, Nat.reduceSub, Int.reduceEq, Int.reduceLT, Int.reduceLE, Int.reduceToNat]
        refine vcCall.f (sEnd_nil _ _ _) ?_
        simp only [go_sem, ↓reduceIte, Nat.reduceEqDiff, Nat.reduceBEq, Nat.reduceAdd, Nat.reduceLeDiff, Nat.reduceLT, reduceCtorEq, Nat.reduceMul, Nat.reduceSub, Int.reduceEq, Int.reduceLT, Int.reduceLE, Int.reduceToNat]
        refine vcCall.f (gEnd_nil _ _ _) ?_
        simp only [go_sem, ↓reduceIte, Nat.reduceEqDiff, Nat.reduceBEq, Nat.reduceAdd, Nat.reduceLeDiff, Nat.reduceLT, reduceCtorEq, Nat.reduceMul, Nat.reduceSub, Int.reduceEq, Int.reduceLT, Int.reduceLE, Int.reduceToNat]
        refine vcCall.f (hF _ _) ?_
        simp only [go_sem, ↓reduceIte, Nat.reduceEqDiff, Nat.reduceBEq, Nat.reduceAdd, Nat.reduceLeDiff, Nat.reduceLT, reduceCtorEq, Nat.reduceMul, Nat.reduceSub, Int.reduceEq, Int.reduceLT, Int.reduceLE, Int.reduceToNat]
        refine gCall.f (fun _ => sLive_nil _ _) ?_
        simp only [go_sem, ↓reduceIte, Nat.reduceEqDiff, Nat.reduceBEq, Nat.reduceAdd, Nat.reduceLeDiff, Nat.reduceLT, reduceCtorEq, Nat.reduceMul, Nat.reduceSub, Int.reduceEq, Int.reduceLT, Int.reduceLE, Int.reduceToNat]
        refine gCall.f (fun _ => gLive_nil _ _) ?_
        simp only [go_sem, ↓reduceIte, Nat.reduceEqDiff, Nat.reduceBEq, Nat.reduceAdd, Nat.reduceLeDiff, Nat.reduceLT, reduceCtorEq, Nat.reduceMul, Nat.reduceSub, Int.reduceEq, Int.reduceLT, Int.reduceLE, Int.reduceToNat]
        refine gCall.f (fun _ => hT _ _) ?_
        simp only [go_sem, ↓reduceIte, Nat.reduceEqDiff, Nat.reduceBEq, Nat.reduceAdd, Nat.reduceLeDiff, Nat.reduceLT, reduceCtorEq, Nat.reduceMul, Nat.reduceSub, Int.reduceEq, Int.reduceLT, Int.reduceLE, Int.reduceToNat]
        refine gCall.f (fun _ => sKept_nil _ _) ?_
        simp only [go_sem, ↓reduceIte, Nat.reduceEqDiff, Nat.reduceBEq, Nat.reduceAdd, Nat.reduceLeDiff, Nat.reduceLT, reduceCtorEq, Nat.reduceMul, Nat.reduceSub, Int.reduceEq, Int.reduceLT, Int.reduceLE, Int.reduceToNat]
        refine gCall.f (fun _ => gKept_nil _ _) ?_
        simp only [go_sem, ↓reduceIte, Nat.reduceEqDiff, Nat.reduceBEq, Nat.reduceAdd, Nat.reduceLeDiff, Nat.reduceLT, reduceCtorEq, Nat.reduceMul, Nat.reduceSub, Int.reduceEq, Int.reduceLT, Int.reduceLE, Int.reduceToNat]
        refine ⟨(j + 1, _), ⟨by dsimp only; omega, by dsimp only; omega⟩, by dsimp only; omega, weak_ok ?_ (Sub.base hf ?_) (Nat.le_refl _)⟩
        · simp (disch := omega) only [ite_ne, wr64s j (by omega), go_sem, ↓reduceIte, Nat.reduceEqDiff, Nat.reduceBEq, Nat.reduceAdd, Nat.reduceLeDiff, Nat.reduceLT, reduceCtorEq, Nat.reduceMul, Nat.reduceSub, Int.reduceEq, Int.reduceLT, Int.reduceLE, Int.reduceToNat]
        · intro a ha
          repeat rw [gc_ne _ _ (by omega)]
      have d3 := decide_eq_false k3
      simp (disch := omega) only [ite_ne, q, hll, d2, d3, getK_s (mapC_get spC ex), go_sem, ↓reduceIte, Nat.reduceEqDiff, Nat.reduceBEq, Nat.reduceAdd, Nat.reduceLeDiff, Nat.reduceLT, reduceCtorEq, Nat.reduceMul, Nat.reduceSub, Int.reduceEq, Int.reduceLT, Int.reduceLE, Int.reduceToNat]
      refine vcCall.f (sRecv_nil (.mk sk si ss sa sb) _ _) ?_
      simp only [go_sem, ↓reduceIte, Nat.reduceEqDiff, Nat.reduceBEq, Nat.reduceAdd, Nat.reduceLeDiff, Nat.reduceLT, reduceCtorEq, Nat.reduceMul, Nat.reduceSub, Int.reduceEq, Int.reduceLT, Int.reduceLE, Int.reduceToNat]
      refine vcCall.f (gRecv_nil (.mk sk si ss sa sb) _ _) ?_
      simp only [go_sem, ↓reduceIte, Nat.reduceEqDiff, Nat.reduceBEq, Nat.reduceAdd, Nat.reduceLeDiff, Nat.reduceLT, reduceCtorEq, Nat.reduceMul, Nat.reduceSub, Int.reduceEq, Int.reduceLT, Int.reduceLE, Int.reduceToNat]
      refine vcCall.f (hF _ _) ?_
      simp only [go_sem, ↓reduceIte, Nat.reduceEqDiff, Nat.reduceBEq, Nat.reduceAdd, Nat.reduceLeDiff, Nat.reduceLT, reduceCtorEq, Nat.reduceMul, Nat.reduceSub, Int.reduceEq, Int.reduceLT, Int.reduceLE, Int.reduceToNat]
      refine gCall.f (fun _ => sLive_nil _ _) ?_
      simp only [go_sem, ↓reduceIte, Nat.reduceEqDiff, Nat.reduceBEq, Nat.reduceAdd, Nat.reduceLeDiff, Nat.reduceLT, reduceCtorEq, Nat.reduceMul, Nat.reduceSub, Int.reduceEq, Int.reduceLT, Int.reduceLE, Int.reduceToNat]
      refine gCall.f (fun _ => gLive_nil _ _) ?_
      simp only [go_sem, ↓reduceIte, Nat.reduceEqDiff, Nat.reduceBEq, Nat.reduceAdd, Nat.reduceLeDiff, Nat.reduceLT, reduceCtorEq, Nat.reduceMul, Nat.reduceSub, Int.reduceEq, Int.reduceLT, Int.reduceLE, Int.reduceToNat]
      refine gCall.f (fun _ => hT _ _) ?_
      simp only [go_sem, ↓reduceIte, Nat.reduceEqDiff, Nat.reduceBEq, Nat.reduceAdd, Nat.reduceLeDiff, Nat.reduceLT, reduceCtorEq, Nat.reduceMul, Nat.reduceSub, Int.reduceEq, Int.reduceLT, Int.reduceLE, Int.reduceToNat]
      refine gCall.f (fun _ => sKept_nil _ _) ?_
      simp only [go_sem, ↓reduceIte, Nat.reduceEqDiff, Nat.reduceBEq, Nat.reduceAdd, Nat.reduceLeDiff, Nat.reduceLT, reduceCtorEq, Nat.reduceMul, Nat.reduceSub, Int.reduceEq, Int.reduceLT, Int.reduceLE, Int.reduceToNat]
      refine gCall.f (fun _ => gKept_nil _ _) ?_
      simp only [go_sem, ↓reduceIte, Nat.reduceEqDiff, Nat.reduceBEq, Nat.reduceAdd, Nat.reduceLeDiff, Nat.reduceLT, reduceCtorEq, Nat.reduceMul, Nat.reduceSub, Int.reduceEq, Int.reduceLT, Int.reduceLE, Int.reduceToNat]
      refine ⟨(j + 1, _), ⟨by dsimp only; omega, by dsimp only; omega⟩, by dsimp only; omega, weak_ok ?_ (Sub.base hf ?_) (Nat.le_refl _)⟩
      · simp (disch := omega) only [ite_ne, wr64s j (by omega), go_sem, ↓reduceIte, Nat.reduceEqDiff, Nat.reduceBEq, Nat.reduceAdd, Nat.reduceLeDiff, Nat.reduceLT, reduceCtorEq, Nat.reduceMul, Nat.reduceSub, Int.reduceEq, Int.reduceLT, Int.reduceLE, Int.reduceToNat]
      · intro a ha
        repeat rw [gc_ne _ _ (by omega)]
    · simp (disch := omega) only [ite_ne, go_sem, ↓reduceIte, Nat.reduceEqDiff, Nat.reduceBEq, Nat.reduceAdd, Nat.reduceLeDiff, Nat.reduceLT, reduceCtorEq, Nat.reduceMul, Nat.reduceSub, Int.reduceEq, Int.reduceLT, Int.reduceLE, Int.reduceToNat]
      refine vcCall.f (exh47_ok _ _) ?_
      simp (disch := omega) only [ite_ne, go_sem, ↓reduceIte, Nat.reduceEqDiff, Nat.reduceBEq, Nat.reduceAdd, Nat.reduceLeDiff, Nat.reduceLT, reduceCtorEq, Nat.reduceMul, Nat.reduceSub, Int.reduceEq, Int.reduceLT, Int.reduceLE, Int.reduceToNat]
  simp (disch := omega) only [ite_ne, hll, go_sem, ↓reduceIte, Nat.reduceEqDiff, Nat.reduceBEq, Nat.reduceAdd, Nat.reduceLeDiff, Nat.reduceLT, reduceCtorEq, Nat.reduceMul, Nat.reduceSub, Int.reduceEq, Int.reduceLT, Int.reduceLE, Int.reduceToNat]
  refine vcCall.r (sNew_ok room hroom _ _) fun hp' n' r ⟨e1, e2, e3⟩ => ?_
  subst e1
  subst e2
  subst e3
  simp (disch := omega) only [ite_ne, hll, go_sem, ↓reduceIte, Nat.reduceEqDiff, Nat.reduceBEq, Nat.reduceAdd, Nat.reduceLeDiff, Nat.reduceLT, reduceCtorEq, Nat.reduceMul, Nat.reduceSub, Int.reduceEq, Int.reduceLT, Int.reduceLE, Int.reduceToNat]
  refine vcCall.r (gNew2_ok room hroom _ _) fun hp' n' r ⟨e1, e2, e3⟩ => ?_
  subst e1
  subst e2
  subst e3
  simp (disch := omega) only [ite_ne, hll, go_sem, ↓reduceIte, Nat.reduceEqDiff, Nat.reduceBEq, Nat.reduceAdd, Nat.reduceLeDiff, Nat.reduceLT, reduceCtorEq, Nat.reduceMul, Nat.reduceSub, Int.reduceEq, Int.reduceLT, Int.reduceLE, Int.reduceToNat]
  refine cdK_of (fun q => ?_) (fun q => ?_)
  · simp only [go_sem, ↓reduceIte, Nat.reduceEqDiff, Nat.reduceBEq, Nat.reduceAdd, Nat.reduceLeDiff, Nat.reduceLT, reduceCtorEq, Nat.reduceMul, Nat.reduceSub, Int.reduceEq, Int.reduceLT, Int.reduceLE, Int.reduceToNat]
    refine gCall.f (fun _ => exh47_ok _ _) ?_
    simp only [go_sem, ↓reduceIte, Nat.reduceEqDiff, Nat.reduceBEq, Nat.reduceAdd, Nat.reduceLeDiff, Nat.reduceLT, reduceCtorEq, Nat.reduceMul, Nat.reduceSub, Int.reduceEq, Int.reduceLT, Int.reduceLE, Int.reduceToNat]
  have hl2 : l.length ≤ 200 := by simp at q; omega
  simp only [go_sem, ↓reduceIte, Nat.reduceEqDiff, Nat.reduceBEq, Nat.reduceAdd, Nat.reduceLeDiff, Nat.reduceLT, reduceCtorEq, Nat.reduceMul, Nat.reduceSub, Int.reduceEq, Int.reduceLT, Int.reduceLE, Int.reduceToNat]
  refine loop (I47 m room l hp) (φ47 m l) (μ47 l) (.mk 0 0 0 [] 0 0 [] 0 [] 0 [] 0 (m + 6)) ?_ ?_ (fun q hj => ?_)
  · exact ⟨Nat.zero_le _, Nat.le_refl _, ⟨Int.le_refl _, Int.le_refl _, Nat.le_refl _, Nat.le_refl _, Nat.le_refl _, by simp, by simp, by simp⟩, rfl, rfl⟩
  · simp only [I47]
    refine (weak_b0 (cs := [.i .i64 room, .i .i64 0, .i .i64 0, .e0, .e0]) (c := m) (i := 3) (m := 5) (by first | ((simp (disch := omega) only [ite_ne, go_sem, ↓reduceIte, Nat.reduceEqDiff, Nat.reduceBEq, Nat.reduceAdd, Nat.reduceLeDiff, Nat.reduceLT, reduceCtorEq, Nat.reduceMul, Nat.reduceSub, Int.reduceEq, Int.reduceLT, Int.reduceLE, Int.reduceToNat]); done) | ((simp (disch := omega) only [ite_ne, go_sem, ↓reduceIte, Nat.reduceEqDiff, Nat.reduceBEq, Nat.reduceAdd, Nat.reduceLeDiff, Nat.reduceLT, reduceCtorEq, Nat.reduceMul, Nat.reduceSub, Int.reduceEq, Int.reduceLT, Int.reduceLE, Int.reduceToNat]); rfl)) rfl).trans ((weak_b0 (cs := [.i .i64 room, .i .i64 0, .i .i64 0, .rw (m + 2) 0 0, .e0]) (c := m) (i := 4) (m := 1) (by first | ((simp (disch := omega) only [ite_ne, go_sem, ↓reduceIte, Nat.reduceEqDiff, Nat.reduceBEq, Nat.reduceAdd, Nat.reduceLeDiff, Nat.reduceLT, reduceCtorEq, Nat.reduceMul, Nat.reduceSub, Int.reduceEq, Int.reduceLT, Int.reduceLE, Int.reduceToNat]); done) | ((simp (disch := omega) only [ite_ne, go_sem, ↓reduceIte, Nat.reduceEqDiff, Nat.reduceBEq, Nat.reduceAdd, Nat.reduceLeDiff, Nat.reduceLT, reduceCtorEq, Nat.reduceMul, Nat.reduceSub, Int.reduceEq, Int.reduceLT, Int.reduceLE, Int.reduceToNat]); rfl)) rfl).trans ((weak_b0 (cs := [.i .i64 room, .i .i64 0, .i .i64 0, .e0, .e0]) (c := m + 1) (i := 3) (m := 5) (by first | ((simp (disch := omega) only [ite_ne, go_sem, ↓reduceIte, Nat.reduceEqDiff, Nat.reduceBEq, Nat.reduceAdd, Nat.reduceLeDiff, Nat.reduceLT, reduceCtorEq, Nat.reduceMul, Nat.reduceSub, Int.reduceEq, Int.reduceLT, Int.reduceLE, Int.reduceToNat]); done) | ((simp (disch := omega) only [ite_ne, go_sem, ↓reduceIte, Nat.reduceEqDiff, Nat.reduceBEq, Nat.reduceAdd, Nat.reduceLeDiff, Nat.reduceLT, reduceCtorEq, Nat.reduceMul, Nat.reduceSub, Int.reduceEq, Int.reduceLT, Int.reduceLE, Int.reduceToNat]); rfl)) rfl).trans ((weak_b0 (cs := [.i .i64 room, .i .i64 0, .i .i64 0, .rw (m + 4) 0 0, .e0]) (c := m + 1) (i := 4) (m := 1) (by first | ((simp (disch := omega) only [ite_ne, go_sem, ↓reduceIte, Nat.reduceEqDiff, Nat.reduceBEq, Nat.reduceAdd, Nat.reduceLeDiff, Nat.reduceLT, reduceCtorEq, Nat.reduceMul, Nat.reduceSub, Int.reduceEq, Int.reduceLT, Int.reduceLE, Int.reduceToNat]); done) | ((simp (disch := omega) only [ite_ne, go_sem, ↓reduceIte, Nat.reduceEqDiff, Nat.reduceBEq, Nat.reduceAdd, Nat.reduceLeDiff, Nat.reduceLT, reduceCtorEq, Nat.reduceMul, Nat.reduceSub, Int.reduceEq, Int.reduceLT, Int.reduceLE, Int.reduceToNat]); rfl)) rfl).trans ((weak_bf (c := m) (i := 3) (k := m + 2) (g := 0) (m := 5) (len := 0) (cs := [.i .i64 room, .i .i64 0, .i .i64 0, .rw (m + 2) 0 0, .rw (m + 3) 0 0]) (by first | ((simp (disch := omega) only [ite_ne, go_sem, ↓reduceIte, Nat.reduceEqDiff, Nat.reduceBEq, Nat.reduceAdd, Nat.reduceLeDiff, Nat.reduceLT, reduceCtorEq, Nat.reduceMul, Nat.reduceSub, Int.reduceEq, Int.reduceLT, Int.reduceLE, Int.reduceToNat]); done) | ((simp (disch := omega) only [ite_ne, go_sem, ↓reduceIte, Nat.reduceEqDiff, Nat.reduceBEq, Nat.reduceAdd, Nat.reduceLeDiff, Nat.reduceLT, reduceCtorEq, Nat.reduceMul, Nat.reduceSub, Int.reduceEq, Int.reduceLT, Int.reduceLE, Int.reduceToNat]); rfl)) rfl).trans (weak_ok ?_ (Sub.cons ?_ (Sub.cons ?_ (Sub.cons ?_ (Sub.cons ?_ (Sub.cons ?_ (Sub.cons ?_ (Sub.base hf ?_))))))) (Nat.le_refl _))))))
    all_goals (try (simp (disch := omega) only [ite_ne, go_sem, ↓reduceIte, Nat.reduceEqDiff, Nat.reduceBEq, Nat.reduceAdd, Nat.reduceLeDiff, Nat.reduceLT, reduceCtorEq, Nat.reduceMul, Nat.reduceSub, Int.reduceEq, Int.reduceLT, Int.reduceLE, Int.reduceToNat]))
    all_goals (try rfl)
  obtain ⟨j, last, ack, KA, d, g, V, gl, L, gL, S, gS, n⟩ := q
  obtain ⟨hj1, hmn, hI, rfl, rfl⟩ := hj
  simp only [I47]
  have hmn1 : m ≤ n := by omega
  simp (disch := omega) only [ite_ne, hll, go_sem, ↓reduceIte, Nat.reduceEqDiff, Nat.reduceBEq, Nat.reduceAdd, Nat.reduceLeDiff, Nat.reduceLT, reduceCtorEq, Nat.reduceMul, Nat.reduceSub, Int.reduceEq, Int.reduceLT, Int.reduceLE, Int.reduceToNat]
  refine cdK_of (fun q => ?_) (fun q => ?_)
  · have q : j < l.length := by simpa using q
    obtain ⟨x, ex⟩ : ∃ x, l[j]? = some x := ⟨l[j], by simp [q]⟩
    obtain ⟨sn, sk, si, ss, sa, sb⟩ := x
    by_cases k2 : sn = 2
    · subst k2
      have hE : sdE (hasI si (liveR S)) sb.size room (KA.length - d) = sdE (hasI si (liveR S)) sb.size room (KA.length - d) := rfl
      obtain ⟨E, hEe⟩ : ∃ E, sdE (hasI si (liveR S)) sb.size room (KA.length - d) = E := ⟨_, rfl⟩
      have hEr : sdE (decide (si ∈ S)) sb.size room (KA.drop d).length = E := by
        rw [List.length_drop, ← hEe, has_eq hI.nd]; rfl
      have hP := fun hp' e1 e2 e3 m' => sPub_ok si sb room last ack hroom.1 ⟨hI.l0, by have := hI.l1; omega⟩ KA d (by have := hI.k1; omega) hI.d1 (liveR S) (asc_liveR hI.nd) (by rw [len_liveR]; have := hI.s1; omega) m (m + 2) g (m + 3) gl hp' e1 e2 e3 (by omega) m' E hEe _ rfl
      have hG := fun hp' e1 e2 e3 m' => gPub_ok si sb room last ack hroom.1 ⟨hI.l0, by have := hI.l1; omega⟩ (KA.drop d) (by rw [List.length_drop]; have := hI.k1; omega) S (by have := hI.s1; omega) (m + 1) (m + 4) gL (m + 5) gS hp' e1 e2 e3 m' E hEr _ rfl
      unfold svB at hP
      unfold rfB at hG
      obtain ⟨V, hV⟩ : ∃ V, liveR S = V := ⟨_, rfl⟩
      rw [hV] at hP ⊢
      simp (disch := omega) only [ite_ne, q, hll, getK_s (mapC_get spC ex), go_sem, ↓reduceIte, Nat.reduceEqDiff, Nat.reduceBEq, Nat.reduceAdd, Nat.reduceLeDiff, Nat.reduceLT, reduceCtorEq, Nat.reduceMul, Nat.reduceSub, Int.reduceEq, Int.reduceLT, Int.reduceLE, Int.reduceToNat]
      refine vcCall.r (hP _ (by (simp (disch := omega) only [ite_ne, go_sem, ↓reduceIte, Nat.reduceEqDiff, Nat.reduceBEq, Nat.reduceAdd, Nat.reduceLeDiff, Nat.reduceLT, reduceCtorEq, Nat.reduceMul, Nat.reduceSub, Int.reduceEq, Int.reduceLT, Int.reduceLE, Int.reduceToNat])) (by (simp (disch := omega) only [ite_ne, go_sem, ↓reduceIte, Nat.reduceEqDiff, Nat.reduceBEq, Nat.reduceAdd, Nat.reduceLeDiff, Nat.reduceLT, reduceCtorEq, Nat.reduceMul, Nat.reduceSub, Int.reduceEq, Int.reduceLT, Int.reduceLE, Int.reduceToNat])) (by (simp (disch := omega) only [ite_ne, go_sem, ↓reduceIte, Nat.reduceEqDiff, Nat.reduceBEq, Nat.reduceAdd, Nat.reduceLeDiff, Nat.reduceLT, reduceCtorEq, Nat.reduceMul, Nat.reduceSub, Int.reduceEq, Int.reduceLT, Int.reduceLE, Int.reduceToNat])) _) fun hp' n' r ⟨i, hi, e1, e2, e3⟩ => ?_
      subst e1
      subst e2
      subst e3
      have hI2 := hI.send hi
      have hi3 := hi.2.2
      obtain ⟨g2, d2, KA2⟩ := i
      dsimp only at hI2 hi3
      unfold svW svB
      simp only [List.cons_append, List.nil_append]
      obtain ⟨A, hA⟩ : ∃ A, sdL E (.mk 5 si 0 0 sb) last = A := ⟨_, rfl⟩
      have hAl : A.length ≤ 1 := by rw [← hA]; unfold sdL; split <;> simp
      obtain ⟨last2, hl22⟩ : ∃ y, sdN E last = y := ⟨_, rfl⟩
      rw [hA, hl22] at hG
      rw [hA, hl22]
      rw [hl22] at hI2
      rw [hA] at hi3
      obtain ⟨gL2, hgL2⟩ : ∃ y, sgG E gL = y := ⟨_, rfl⟩
      rw [hgL2, ← hi3] at hG
      simp (disch := omega) only [ite_ne, q, hll, getK_s (mapC_get spC ex), go_sem, ↓reduceIte, Nat.reduceEqDiff, Nat.reduceBEq, Nat.reduceAdd, Nat.reduceLeDiff, Nat.reduceLT, reduceCtorEq, Nat.reduceMul, Nat.reduceSub, Int.reduceEq, Int.reduceLT, Int.reduceLE, Int.reduceToNat]
      refine vcCall.x (hG _ (by (simp (disch := omega) only [ite_ne, go_sem, ↓reduceIte, Nat.reduceEqDiff, Nat.reduceBEq, Nat.reduceAdd, Nat.reduceLeDiff, Nat.reduceLT, reduceCtorEq, Nat.reduceMul, Nat.reduceSub, Int.reduceEq, Int.reduceLT, Int.reduceLE, Int.reduceToNat])) (by (simp (disch := omega) only [ite_ne, go_sem, ↓reduceIte, Nat.reduceEqDiff, Nat.reduceBEq, Nat.reduceAdd, Nat.reduceLeDiff, Nat.reduceLT, reduceCtorEq, Nat.reduceMul, Nat.reduceSub, Int.reduceEq, Int.reduceLT, Int.reduceLE, Int.reduceToNat])) (by (simp (disch := omega) only [ite_ne, go_sem, ↓reduceIte, Nat.reduceEqDiff, Nat.reduceBEq, Nat.reduceAdd, Nat.reduceLeDiff, Nat.reduceLT, reduceCtorEq, Nat.reduceMul, Nat.reduceSub, Int.reduceEq, Int.reduceLT, Int.reduceLE, Int.reduceToNat])) _) ?_
      simp only [List.cons_append, List.nil_append]
      have hV2 := hV
      have hAk := hI2.k1
      have hAs := hI2.s1
      have hAd := hI2.d1
      have hVl : (V).length ≤ 1000000 := by rw [← hV2, len_liveR]; omega
      have hF := frames_eq A (by omega)
      have hIt := ints_eq (V) hVl
      have hL1 := sLive_ok room last2 (ack) (V) hVl m (m + 2) g2 d2 (KA2.length - d2) (m + 3) (gl)
      have hL2 := gLiveL_ok room hroom.1 last2 (ack) (S) hI2.nd (by omega) (m + 1) (m + 4) gL2 (KA2.drop d2).length (m + 5) (gS)
      rw [hV2] at hL2
      have hK1 := sKept_ok room last2 (ack) m (m + 2) g2 d2 (KA2.length - d2) (m + 3) (gl) (V).length (mapC frC KA2)
      have hK2 := gKept_ok room hroom.1 last2 (ack) (m + 1) (m + 4) gL2 (m + 5) (gS) (S).length (KA2.drop d2)
      have hDl : (KA2.drop d2).length = KA2.length - d2 := List.length_drop
      have hle3 : d2 + (KA2.length - d2) ≤ (mapC frC KA2).length := by rw [mapC_len]; omega
      rw [hDl] at hL2 hK2
      unfold svB at hL1 hK1
      unfold rfB at hL2 hK2
      simp (disch := omega) only [ite_ne, hDl, go_sem, ↓reduceIte, Nat.reduceEqDiff, Nat.reduceBEq, Nat.reduceAdd, Nat.reduceLeDiff, Nat.reduceLT, reduceCtorEq, Nat.reduceMul, Nat.reduceSub, Int.reduceEq, Int.reduceLT, Int.reduceLE, Int.reduceToNat]
      refine vcCall.f (hF _ _) ?_
      simp (disch := omega) only [ite_ne, hDl, go_sem, ↓reduceIte, Nat.reduceEqDiff, Nat.reduceBEq, Nat.reduceAdd, Nat.reduceLeDiff, Nat.reduceLT, reduceCtorEq, Nat.reduceMul, Nat.reduceSub, Int.reduceEq, Int.reduceLT, Int.reduceLE, Int.reduceToNat]
      refine gCall.f (fun _ => hL1 _ (by (simp (disch := omega) only [ite_ne, go_sem, ↓reduceIte, Nat.reduceEqDiff, Nat.reduceBEq, Nat.reduceAdd, Nat.reduceLeDiff, Nat.reduceLT, reduceCtorEq, Nat.reduceMul, Nat.reduceSub, Int.reduceEq, Int.reduceLT, Int.reduceLE, Int.reduceToNat])) (by (simp (disch := omega) only [ite_ne, go_sem, ↓reduceIte, Nat.reduceEqDiff, Nat.reduceBEq, Nat.reduceAdd, Nat.reduceLeDiff, Nat.reduceLT, reduceCtorEq, Nat.reduceMul, Nat.reduceSub, Int.reduceEq, Int.reduceLT, Int.reduceLE, Int.reduceToNat])) _) ?_
      simp (disch := omega) only [ite_ne, hDl, go_sem, ↓reduceIte, Nat.reduceEqDiff, Nat.reduceBEq, Nat.reduceAdd, Nat.reduceLeDiff, Nat.reduceLT, reduceCtorEq, Nat.reduceMul, Nat.reduceSub, Int.reduceEq, Int.reduceLT, Int.reduceLE, Int.reduceToNat]
      refine gCall.f (fun _ => hL2 _ (by (simp (disch := omega) only [ite_ne, go_sem, ↓reduceIte, Nat.reduceEqDiff, Nat.reduceBEq, Nat.reduceAdd, Nat.reduceLeDiff, Nat.reduceLT, reduceCtorEq, Nat.reduceMul, Nat.reduceSub, Int.reduceEq, Int.reduceLT, Int.reduceLE, Int.reduceToNat])) (by (simp (disch := omega) only [ite_ne, go_sem, ↓reduceIte, Nat.reduceEqDiff, Nat.reduceBEq, Nat.reduceAdd, Nat.reduceLeDiff, Nat.reduceLT, reduceCtorEq, Nat.reduceMul, Nat.reduceSub, Int.reduceEq, Int.reduceLT, Int.reduceLE, Int.reduceToNat])) _) ?_
      simp (disch := omega) only [ite_ne, hDl, go_sem, ↓reduceIte, Nat.reduceEqDiff, Nat.reduceBEq, Nat.reduceAdd, Nat.reduceLeDiff, Nat.reduceLT, reduceCtorEq, Nat.reduceMul, Nat.reduceSub, Int.reduceEq, Int.reduceLT, Int.reduceLE, Int.reduceToNat]
      refine gCall.f (fun _ => hIt _ _) ?_
      simp (disch := omega) only [ite_ne, hDl, go_sem, ↓reduceIte, Nat.reduceEqDiff, Nat.reduceBEq, Nat.reduceAdd, Nat.reduceLeDiff, Nat.reduceLT, reduceCtorEq, Nat.reduceMul, Nat.reduceSub, Int.reduceEq, Int.reduceLT, Int.reduceLE, Int.reduceToNat]
      refine gCall.f (fun _ => hK1 _ (by (simp (disch := omega) only [ite_ne, go_sem, ↓reduceIte, Nat.reduceEqDiff, Nat.reduceBEq, Nat.reduceAdd, Nat.reduceLeDiff, Nat.reduceLT, reduceCtorEq, Nat.reduceMul, Nat.reduceSub, Int.reduceEq, Int.reduceLT, Int.reduceLE, Int.reduceToNat])) (by (simp (disch := omega) only [ite_ne, go_sem, ↓reduceIte, Nat.reduceEqDiff, Nat.reduceBEq, Nat.reduceAdd, Nat.reduceLeDiff, Nat.reduceLT, reduceCtorEq, Nat.reduceMul, Nat.reduceSub, Int.reduceEq, Int.reduceLT, Int.reduceLE, Int.reduceToNat])) hle3 _) ?_
      simp (disch := omega) only [ite_ne, hDl, go_sem, ↓reduceIte, Nat.reduceEqDiff, Nat.reduceBEq, Nat.reduceAdd, Nat.reduceLeDiff, Nat.reduceLT, reduceCtorEq, Nat.reduceMul, Nat.reduceSub, Int.reduceEq, Int.reduceLT, Int.reduceLE, Int.reduceToNat]
      refine gCall.f (fun _ => hK2 _ (by (simp (disch := omega) only [ite_ne, go_sem, ↓reduceIte, Nat.reduceEqDiff, Nat.reduceBEq, Nat.reduceAdd, Nat.reduceLeDiff, Nat.reduceLT, reduceCtorEq, Nat.reduceMul, Nat.reduceSub, Int.reduceEq, Int.reduceLT, Int.reduceLE, Int.reduceToNat])) (by (simp (disch := omega) only [ite_ne, go_sem, ↓reduceIte, Nat.reduceEqDiff, Nat.reduceBEq, Nat.reduceAdd, Nat.reduceLeDiff, Nat.reduceLT, reduceCtorEq, Nat.reduceMul, Nat.reduceSub, Int.reduceEq, Int.reduceLT, Int.reduceLE, Int.reduceToNat])) _) ?_
      simp (disch := omega) only [ite_ne, hDl, decide_true, go_sem, ↓reduceIte, Nat.reduceEqDiff, Nat.reduceBEq, Nat.reduceAdd, Nat.reduceLeDiff, Nat.reduceLT, reduceCtorEq, Nat.reduceMul, Nat.reduceSub, Int.reduceEq, Int.reduceLT, Int.reduceLE, Int.reduceToNat]
      refine ⟨.mk (j + 1) last2 (ack) KA2 d2 g2 (V) (gl) (KA2.drop d2) gL2 (S) (gS) (n + 1), ⟨by omega, by omega, hI2, hV2.symm, rfl⟩, by show l.length - (j + 1) < l.length - j; omega, ?_⟩
      simp only [I47]
      refine weak_ok ?_ (SubX.sub (SubX.cons ?_ (SubX.cons ?_ (SubX.cons ?_ (SubX.cons ?_ (SubX.cons ?_ (SubX.cons ?_ (SubX.base hf fun a ha hax => ?_)))))))) (Nat.le_refl _)
      · simp (disch := omega) only [ite_ne, wr64s j (by omega), go_sem, ↓reduceIte, Nat.reduceEqDiff, Nat.reduceBEq, Nat.reduceAdd, Nat.reduceLeDiff, Nat.reduceLT, reduceCtorEq, Nat.reduceMul, Nat.reduceSub, Int.reduceEq, Int.reduceLT, Int.reduceLE, Int.reduceToNat]
      · (simp (disch := omega) only [ite_ne, hDl, go_sem, ↓reduceIte, Nat.reduceEqDiff, Nat.reduceBEq, Nat.reduceAdd, Nat.reduceLeDiff, Nat.reduceLT, reduceCtorEq, Nat.reduceMul, Nat.reduceSub, Int.reduceEq, Int.reduceLT, Int.reduceLE, Int.reduceToNat])
      · (simp (disch := omega) only [ite_ne, hDl, go_sem, ↓reduceIte, Nat.reduceEqDiff, Nat.reduceBEq, Nat.reduceAdd, Nat.reduceLeDiff, Nat.reduceLT, reduceCtorEq, Nat.reduceMul, Nat.reduceSub, Int.reduceEq, Int.reduceLT, Int.reduceLE, Int.reduceToNat])
      · (simp (disch := omega) only [ite_ne, hDl, go_sem, ↓reduceIte, Nat.reduceEqDiff, Nat.reduceBEq, Nat.reduceAdd, Nat.reduceLeDiff, Nat.reduceLT, reduceCtorEq, Nat.reduceMul, Nat.reduceSub, Int.reduceEq, Int.reduceLT, Int.reduceLE, Int.reduceToNat])
      · (simp (disch := omega) only [ite_ne, hDl, go_sem, ↓reduceIte, Nat.reduceEqDiff, Nat.reduceBEq, Nat.reduceAdd, Nat.reduceLeDiff, Nat.reduceLT, reduceCtorEq, Nat.reduceMul, Nat.reduceSub, Int.reduceEq, Int.reduceLT, Int.reduceLE, Int.reduceToNat])
      · (simp (disch := omega) only [ite_ne, hDl, go_sem, ↓reduceIte, Nat.reduceEqDiff, Nat.reduceBEq, Nat.reduceAdd, Nat.reduceLeDiff, Nat.reduceLT, reduceCtorEq, Nat.reduceMul, Nat.reduceSub, Int.reduceEq, Int.reduceLT, Int.reduceLE, Int.reduceToNat])
      · (simp (disch := omega) only [ite_ne, hDl, go_sem, ↓reduceIte, Nat.reduceEqDiff, Nat.reduceBEq, Nat.reduceAdd, Nat.reduceLeDiff, Nat.reduceLT, reduceCtorEq, Nat.reduceMul, Nat.reduceSub, Int.reduceEq, Int.reduceLT, Int.reduceLE, Int.reduceToNat])
      · repeat rw [gc_ne _ _ (by omega)]
    by_cases k3 : sn = 3
    · subst k3
      obtain ⟨E, hEe⟩ : ∃ E, sdE (hasI si (liveR S)) ((⟨#[]⟩ : ByteArray).size : Int) room (KA.length - d) = E := ⟨_, rfl⟩
      have hEr : sdE (decide (si ∈ S)) ((⟨#[]⟩ : ByteArray).size : Int) room (KA.drop d).length = E := by
        rw [List.length_drop, ← hEe, has_eq hI.nd]; rfl
      have hP := fun hp' e1 e2 e3 m' => sEnd_ok si room last ack hroom.1 ⟨hI.l0, by have := hI.l1; omega⟩ KA d (by have := hI.k1; omega) hI.d1 (liveR S) (asc_liveR hI.nd) (by rw [len_liveR]; have := hI.s1; omega) m (m + 2) g (m + 3) gl hp' e1 e2 e3 (by omega) m' E hEe _ rfl
      have hG := fun hp' e1 e2 e3 m' => gEnd_ok si room last ack hroom.1 ⟨hI.l0, by have := hI.l1; omega⟩ (KA.drop d) (by rw [List.length_drop]; have := hI.k1; omega) S (by have := hI.s1; omega) (m + 1) (m + 4) gL (m + 5) gS hp' e1 e2 e3 (by omega) m' E hEr _ rfl
      unfold svB at hP
      unfold rfB at hG
      have hVe := enV_eq hI.nd E si
      have hIs : ∀ {j last KA d}, SvI j last KA d S → SvI j last KA d (if E = 0 then drL si S else S) := fun h => by
        split
        · exact h.drop si
        · exact h
      obtain ⟨V2, hV2e⟩ : ∃ V2, enV E si (liveR S) = V2 := ⟨_, rfl⟩
      obtain ⟨S2, hS2e⟩ : ∃ S2, (if E = 0 then drL si S else S) = S2 := ⟨_, rfl⟩
      rw [hV2e, hS2e] at hVe
      have hV2 := hVe.symm
      rw [hV2e] at hP
      rw [hS2e] at hG
      rw [hS2e] at hIs
      obtain ⟨V, hV⟩ : ∃ V, liveR S = V := ⟨_, rfl⟩
      rw [hV] at hP ⊢
      obtain ⟨gl2, hgl2⟩ : ∃ y, enG E si V gl = y := ⟨_, rfl⟩
      rw [hgl2] at hP
      simp (disch := omega) only [ite_ne, q, hll, getK_s (mapC_get spC ex), go_sem, ↓reduceIte, Nat.reduceEqDiff, Nat.reduceBEq, Nat.reduceAdd, Nat.reduceLeDiff, Nat.reduceLT, reduceCtorEq, Nat.reduceMul, Nat.reduceSub, Int.reduceEq, Int.reduceLT, Int.reduceLE, Int.reduceToNat]
      refine vcCall.r (hP _ (by (simp (disch := omega) only [ite_ne, go_sem, ↓reduceIte, Nat.reduceEqDiff, Nat.reduceBEq, Nat.reduceAdd, Nat.reduceLeDiff, Nat.reduceLT, reduceCtorEq, Nat.reduceMul, Nat.reduceSub, Int.reduceEq, Int.reduceLT, Int.reduceLE, Int.reduceToNat])) (by (simp (disch := omega) only [ite_ne, go_sem, ↓reduceIte, Nat.reduceEqDiff, Nat.reduceBEq, Nat.reduceAdd, Nat.reduceLeDiff, Nat.reduceLT, reduceCtorEq, Nat.reduceMul, Nat.reduceSub, Int.reduceEq, Int.reduceLT, Int.reduceLE, Int.reduceToNat])) (by (simp (disch := omega) only [ite_ne, go_sem, ↓reduceIte, Nat.reduceEqDiff, Nat.reduceBEq, Nat.reduceAdd, Nat.reduceLeDiff, Nat.reduceLT, reduceCtorEq, Nat.reduceMul, Nat.reduceSub, Int.reduceEq, Int.reduceLT, Int.reduceLE, Int.reduceToNat])) _) fun hp' n' r ⟨i, hi, e1, e2, e3⟩ => ?_
      subst e1
      subst e2
      subst e3
      have hI2 := hIs (hI.send hi)
      have hi3 := hi.2.2
      obtain ⟨g2, d2, KA2⟩ := i
      dsimp only at hI2 hi3
      unfold svW svB
      simp only [List.cons_append, List.nil_append]
      obtain ⟨A, hA⟩ : ∃ A, sdL E (.mk 6 si 0 0 ⟨#[]⟩) last = A := ⟨_, rfl⟩
      have hAl : A.length ≤ 1 := by rw [← hA]; unfold sdL; split <;> simp
      obtain ⟨last2, hl22⟩ : ∃ y, sdN E last = y := ⟨_, rfl⟩
      rw [hA, hl22] at hG
      rw [hA, hl22]
      rw [hl22] at hI2
      rw [hA] at hi3
      obtain ⟨gL2, hgL2⟩ : ∃ y, sgG E gL = y := ⟨_, rfl⟩
      obtain ⟨gS2, hgS2⟩ : ∃ y, sgG E gS = y := ⟨_, rfl⟩
      rw [hgL2, hgS2, ← hi3] at hG
      simp (disch := omega) only [ite_ne, q, hll, getK_s (mapC_get spC ex), go_sem, ↓reduceIte, Nat.reduceEqDiff, Nat.reduceBEq, Nat.reduceAdd, Nat.reduceLeDiff, Nat.reduceLT, reduceCtorEq, Nat.reduceMul, Nat.reduceSub, Int.reduceEq, Int.reduceLT, Int.reduceLE, Int.reduceToNat]
      refine vcCall.x (hG _ (by (simp (disch := omega) only [ite_ne, go_sem, ↓reduceIte, Nat.reduceEqDiff, Nat.reduceBEq, Nat.reduceAdd, Nat.reduceLeDiff, Nat.reduceLT, reduceCtorEq, Nat.reduceMul, Nat.reduceSub, Int.reduceEq, Int.reduceLT, Int.reduceLE, Int.reduceToNat])) (by (simp (disch := omega) only [ite_ne, go_sem, ↓reduceIte, Nat.reduceEqDiff, Nat.reduceBEq, Nat.reduceAdd, Nat.reduceLeDiff, Nat.reduceLT, reduceCtorEq, Nat.reduceMul, Nat.reduceSub, Int.reduceEq, Int.reduceLT, Int.reduceLE, Int.reduceToNat])) (by (simp (disch := omega) only [ite_ne, go_sem, ↓reduceIte, Nat.reduceEqDiff, Nat.reduceBEq, Nat.reduceAdd, Nat.reduceLeDiff, Nat.reduceLT, reduceCtorEq, Nat.reduceMul, Nat.reduceSub, Int.reduceEq, Int.reduceLT, Int.reduceLE, Int.reduceToNat])) _) ?_
      simp only [List.cons_append, List.nil_append]
      have hAk := hI2.k1
      have hAs := hI2.s1
      have hAd := hI2.d1
      have hVl : (V2).length ≤ 1000000 := by rw [← hV2, len_liveR]; omega
      have hF := frames_eq A (by omega)
      have hIt := ints_eq (V2) hVl
      have hL1 := sLive_ok room last2 (ack) (V2) hVl m (m + 2) g2 d2 (KA2.length - d2) (m + 3) (gl2)
      have hL2 := gLiveL_ok room hroom.1 last2 (ack) (S2) hI2.nd (by omega) (m + 1) (m + 4) gL2 (KA2.drop d2).length (m + 5) (gS2)
      rw [hV2] at hL2
      have hK1 := sKept_ok room last2 (ack) m (m + 2) g2 d2 (KA2.length - d2) (m + 3) (gl2) (V2).length (mapC frC KA2)
      have hK2 := gKept_ok room hroom.1 last2 (ack) (m + 1) (m + 4) gL2 (m + 5) (gS2) (S2).length (KA2.drop d2)
      have hDl : (KA2.drop d2).length = KA2.length - d2 := List.length_drop
      have hle3 : d2 + (KA2.length - d2) ≤ (mapC frC KA2).length := by rw [mapC_len]; omega
      rw [hDl] at hL2 hK2
      unfold svB at hL1 hK1
      unfold rfB at hL2 hK2
      simp (disch := omega) only [ite_ne, hDl, go_sem, ↓reduceIte, Nat.reduceEqDiff, Nat.reduceBEq, Nat.reduceAdd, Nat.reduceLeDiff, Nat.reduceLT, reduceCtorEq, Nat.reduceMul, Nat.reduceSub, Int.reduceEq, Int.reduceLT, Int.reduceLE, Int.reduceToNat]
      refine vcCall.f (hF _ _) ?_
      simp (disch := omega) only [ite_ne, hDl, go_sem, ↓reduceIte, Nat.reduceEqDiff, Nat.reduceBEq, Nat.reduceAdd, Nat.reduceLeDiff, Nat.reduceLT, reduceCtorEq, Nat.reduceMul, Nat.reduceSub, Int.reduceEq, Int.reduceLT, Int.reduceLE, Int.reduceToNat]
      refine gCall.f (fun _ => hL1 _ (by (simp (disch := omega) only [ite_ne, go_sem, ↓reduceIte, Nat.reduceEqDiff, Nat.reduceBEq, Nat.reduceAdd, Nat.reduceLeDiff, Nat.reduceLT, reduceCtorEq, Nat.reduceMul, Nat.reduceSub, Int.reduceEq, Int.reduceLT, Int.reduceLE, Int.reduceToNat])) (by (simp (disch := omega) only [ite_ne, go_sem, ↓reduceIte, Nat.reduceEqDiff, Nat.reduceBEq, Nat.reduceAdd, Nat.reduceLeDiff, Nat.reduceLT, reduceCtorEq, Nat.reduceMul, Nat.reduceSub, Int.reduceEq, Int.reduceLT, Int.reduceLE, Int.reduceToNat])) _) ?_
      simp (disch := omega) only [ite_ne, hDl, go_sem, ↓reduceIte, Nat.reduceEqDiff, Nat.reduceBEq, Nat.reduceAdd, Nat.reduceLeDiff, Nat.reduceLT, reduceCtorEq, Nat.reduceMul, Nat.reduceSub, Int.reduceEq, Int.reduceLT, Int.reduceLE, Int.reduceToNat]
      refine gCall.f (fun _ => hL2 _ (by (simp (disch := omega) only [ite_ne, go_sem, ↓reduceIte, Nat.reduceEqDiff, Nat.reduceBEq, Nat.reduceAdd, Nat.reduceLeDiff, Nat.reduceLT, reduceCtorEq, Nat.reduceMul, Nat.reduceSub, Int.reduceEq, Int.reduceLT, Int.reduceLE, Int.reduceToNat])) (by (simp (disch := omega) only [ite_ne, go_sem, ↓reduceIte, Nat.reduceEqDiff, Nat.reduceBEq, Nat.reduceAdd, Nat.reduceLeDiff, Nat.reduceLT, reduceCtorEq, Nat.reduceMul, Nat.reduceSub, Int.reduceEq, Int.reduceLT, Int.reduceLE, Int.reduceToNat])) _) ?_
      simp (disch := omega) only [ite_ne, hDl, go_sem, ↓reduceIte, Nat.reduceEqDiff, Nat.reduceBEq, Nat.reduceAdd, Nat.reduceLeDiff, Nat.reduceLT, reduceCtorEq, Nat.reduceMul, Nat.reduceSub, Int.reduceEq, Int.reduceLT, Int.reduceLE, Int.reduceToNat]
      refine gCall.f (fun _ => hIt _ _) ?_
      simp (disch := omega) only [ite_ne, hDl, go_sem, ↓reduceIte, Nat.reduceEqDiff, Nat.reduceBEq, Nat.reduceAdd, Nat.reduceLeDiff, Nat.reduceLT, reduceCtorEq, Nat.reduceMul, Nat.reduceSub, Int.reduceEq, Int.reduceLT, Int.reduceLE, Int.reduceToNat]
      refine gCall.f (fun _ => hK1 _ (by (simp (disch := omega) only [ite_ne, go_sem, ↓reduceIte, Nat.reduceEqDiff, Nat.reduceBEq, Nat.reduceAdd, Nat.reduceLeDiff, Nat.reduceLT, reduceCtorEq, Nat.reduceMul, Nat.reduceSub, Int.reduceEq, Int.reduceLT, Int.reduceLE, Int.reduceToNat])) (by (simp (disch := omega) only [ite_ne, go_sem, ↓reduceIte, Nat.reduceEqDiff, Nat.reduceBEq, Nat.reduceAdd, Nat.reduceLeDiff, Nat.reduceLT, reduceCtorEq, Nat.reduceMul, Nat.reduceSub, Int.reduceEq, Int.reduceLT, Int.reduceLE, Int.reduceToNat])) hle3 _) ?_
      simp (disch := omega) only [ite_ne, hDl, go_sem, ↓reduceIte, Nat.reduceEqDiff, Nat.reduceBEq, Nat.reduceAdd, Nat.reduceLeDiff, Nat.reduceLT, reduceCtorEq, Nat.reduceMul, Nat.reduceSub, Int.reduceEq, Int.reduceLT, Int.reduceLE, Int.reduceToNat]
      refine gCall.f (fun _ => hK2 _ (by (simp (disch := omega) only [ite_ne, go_sem, ↓reduceIte, Nat.reduceEqDiff, Nat.reduceBEq, Nat.reduceAdd, Nat.reduceLeDiff, Nat.reduceLT, reduceCtorEq, Nat.reduceMul, Nat.reduceSub, Int.reduceEq, Int.reduceLT, Int.reduceLE, Int.reduceToNat])) (by (simp (disch := omega) only [ite_ne, go_sem, ↓reduceIte, Nat.reduceEqDiff, Nat.reduceBEq, Nat.reduceAdd, Nat.reduceLeDiff, Nat.reduceLT, reduceCtorEq, Nat.reduceMul, Nat.reduceSub, Int.reduceEq, Int.reduceLT, Int.reduceLE, Int.reduceToNat])) _) ?_
      simp (disch := omega) only [ite_ne, hDl, decide_true, go_sem, ↓reduceIte, Nat.reduceEqDiff, Nat.reduceBEq, Nat.reduceAdd, Nat.reduceLeDiff, Nat.reduceLT, reduceCtorEq, Nat.reduceMul, Nat.reduceSub, Int.reduceEq, Int.reduceLT, Int.reduceLE, Int.reduceToNat]
      refine ⟨.mk (j + 1) last2 (ack) KA2 d2 g2 (V2) (gl2) (KA2.drop d2) gL2 (S2) (gS2) (n + 1), ⟨by omega, by omega, hI2, hV2.symm, rfl⟩, by show l.length - (j + 1) < l.length - j; omega, ?_⟩
      simp only [I47]
      refine weak_ok ?_ (SubX.sub (SubX.cons ?_ (SubX.cons ?_ (SubX.cons ?_ (SubX.cons ?_ (SubX.cons ?_ (SubX.cons ?_ (SubX.base hf fun a ha hax => ?_)))))))) (Nat.le_refl _)
      · simp (disch := omega) only [ite_ne, wr64s j (by omega), go_sem, ↓reduceIte, Nat.reduceEqDiff, Nat.reduceBEq, Nat.reduceAdd, Nat.reduceLeDiff, Nat.reduceLT, reduceCtorEq, Nat.reduceMul, Nat.reduceSub, Int.reduceEq, Int.reduceLT, Int.reduceLE, Int.reduceToNat]
      · (simp (disch := omega) only [ite_ne, hDl, go_sem, ↓reduceIte, Nat.reduceEqDiff, Nat.reduceBEq, Nat.reduceAdd, Nat.reduceLeDiff, Nat.reduceLT, reduceCtorEq, Nat.reduceMul, Nat.reduceSub, Int.reduceEq, Int.reduceLT, Int.reduceLE, Int.reduceToNat])
      · (simp (disch := omega) only [ite_ne, hDl, go_sem, ↓reduceIte, Nat.reduceEqDiff, Nat.reduceBEq, Nat.reduceAdd, Nat.reduceLeDiff, Nat.reduceLT, reduceCtorEq, Nat.reduceMul, Nat.reduceSub, Int.reduceEq, Int.reduceLT, Int.reduceLE, Int.reduceToNat])
      · (simp (disch := omega) only [ite_ne, hDl, go_sem, ↓reduceIte, Nat.reduceEqDiff, Nat.reduceBEq, Nat.reduceAdd, Nat.reduceLeDiff, Nat.reduceLT, reduceCtorEq, Nat.reduceMul, Nat.reduceSub, Int.reduceEq, Int.reduceLT, Int.reduceLE, Int.reduceToNat])
      · (simp (disch := omega) only [ite_ne, hDl, go_sem, ↓reduceIte, Nat.reduceEqDiff, Nat.reduceBEq, Nat.reduceAdd, Nat.reduceLeDiff, Nat.reduceLT, reduceCtorEq, Nat.reduceMul, Nat.reduceSub, Int.reduceEq, Int.reduceLT, Int.reduceLE, Int.reduceToNat])
      · (simp (disch := omega) only [ite_ne, hDl, go_sem, ↓reduceIte, Nat.reduceEqDiff, Nat.reduceBEq, Nat.reduceAdd, Nat.reduceLeDiff, Nat.reduceLT, reduceCtorEq, Nat.reduceMul, Nat.reduceSub, Int.reduceEq, Int.reduceLT, Int.reduceLE, Int.reduceToNat])
      · (simp (disch := omega) only [ite_ne, hDl, go_sem, ↓reduceIte, Nat.reduceEqDiff, Nat.reduceBEq, Nat.reduceAdd, Nat.reduceLeDiff, Nat.reduceLT, reduceCtorEq, Nat.reduceMul, Nat.reduceSub, Int.reduceEq, Int.reduceLT, Int.reduceLE, Int.reduceToNat])
      · repeat rw [gc_ne _ _ (by omega)]
    have e2 := decide_eq_false k2
    have e3 := decide_eq_false k3
    have hP := fun hp' e1 e2 e3 m' => sRecv_ok (.mk sk si ss sa sb) room last ack hroom.1 KA d (by have := hI.k1; omega) hI.d1 (liveR S) (asc_liveR hI.nd) (by rw [len_liveR]; have := hI.s1; omega) m (m + 2) g (m + 3) gl hp' e1 e2 e3 (by omega) m'
    have hG := fun hp' e1 e2 e3 m' => gRecv2_ok (.mk sk si ss sa sb) room last ack hroom.1 (KA.drop d) (by rw [List.length_drop]; have := hI.k1; omega) S (by have := hI.s1; omega) (m + 1) (m + 4) gL (m + 5) gS hp' e1 e2 e3 (by omega) m' _ rfl
    have hI2 := hI.recv (ack := ack) (.mk sk si ss sa sb)
    have hK := rvK_eq (.mk sk si ss sa sb) last ack (KA.drop d) hI.asc
    rw [List.drop_drop] at hK
    have hAe := rvL_eq (.mk sk si ss sa sb) last ack (KA.drop d) hI.asc
    have hEe := rvE_eq hI.nd (.mk sk si ss sa sb) last ack
    have hVe := rvV_eq hI.nd (.mk sk si ss sa sb)
    have hAl : (rgA (.mk sk si ss sa sb) last ack (KA.drop d)).length ≤ 201 := by
      rw [← hAe]
      have := hI.k1
      unfold rvL opL
      repeat' split
      all_goals simp
      all_goals omega
    rw [← hK] at hG
    rw [hAe, hEe, hVe] at hP
    obtain ⟨V, hV⟩ : ∃ V, liveR S = V := ⟨_, rfl⟩
    rw [hV] at hP ⊢
    obtain ⟨S2, hS2e⟩ : ∃ S2, rgS (.mk sk si ss sa sb) S = S2 := ⟨_, rfl⟩
    rw [hS2e] at hG hP hI2
    obtain ⟨V2, hV2⟩ : ∃ V2, liveR S2 = V2 := ⟨_, rfl⟩
    rw [hV2] at hP
    obtain ⟨d2, hd2⟩ : ∃ y, d + rvD (.mk sk si ss sa sb) last ack (KA.drop d) = y := ⟨_, rfl⟩
    rw [hd2] at hG hP hI2
    obtain ⟨A, hA⟩ : ∃ A, rgA (.mk sk si ss sa sb) last ack (KA.drop d) = A := ⟨_, rfl⟩
    rw [hA] at hG hP hAl
    obtain ⟨E, hE⟩ : ∃ E, rgE (.mk sk si ss sa sb) last ack S = E := ⟨_, rfl⟩
    rw [hE] at hG hP
    obtain ⟨ack2, hack2⟩ : ∃ y, rvA (.mk sk si ss sa sb) last ack = y := ⟨_, rfl⟩
    rw [hack2] at hG hP
    obtain ⟨gl2, hgl2⟩ : ∃ y, rvG (.mk sk si ss sa sb) V gl = y := ⟨_, rfl⟩
    rw [hgl2] at hP
    obtain ⟨gL2, hgL2⟩ : ∃ y, rgG (.mk sk si ss sa sb) last ack gL = y := ⟨_, rfl⟩
    obtain ⟨gS2, hgS2⟩ : ∃ y, rgH (.mk sk si ss sa sb) S gS = y := ⟨_, rfl⟩
    rw [hgL2, hgS2] at hG
    unfold svB at hP
    unfold rfB at hG
    simp (disch := omega) only [ite_ne, q, hll, e2, e3, getK_s (mapC_get spC ex), go_sem, ↓reduceIte, Nat.reduceEqDiff, Nat.reduceBEq, Nat.reduceAdd, Nat.reduceLeDiff, Nat.reduceLT, reduceCtorEq, Nat.reduceMul, Nat.reduceSub, Int.reduceEq, Int.reduceLT, Int.reduceLE, Int.reduceToNat]
    refine vcCall.x (hP _ (by (simp (disch := omega) only [ite_ne, go_sem, ↓reduceIte, Nat.reduceEqDiff, Nat.reduceBEq, Nat.reduceAdd, Nat.reduceLeDiff, Nat.reduceLT, reduceCtorEq, Nat.reduceMul, Nat.reduceSub, Int.reduceEq, Int.reduceLT, Int.reduceLE, Int.reduceToNat])) (by (simp (disch := omega) only [ite_ne, go_sem, ↓reduceIte, Nat.reduceEqDiff, Nat.reduceBEq, Nat.reduceAdd, Nat.reduceLeDiff, Nat.reduceLT, reduceCtorEq, Nat.reduceMul, Nat.reduceSub, Int.reduceEq, Int.reduceLT, Int.reduceLE, Int.reduceToNat])) (by (simp (disch := omega) only [ite_ne, go_sem, ↓reduceIte, Nat.reduceEqDiff, Nat.reduceBEq, Nat.reduceAdd, Nat.reduceLeDiff, Nat.reduceLT, reduceCtorEq, Nat.reduceMul, Nat.reduceSub, Int.reduceEq, Int.reduceLT, Int.reduceLE, Int.reduceToNat])) _) ?_
    simp only [List.cons_append, List.nil_append]
    simp (disch := omega) only [ite_ne, q, hll, e2, e3, getK_s (mapC_get spC ex), go_sem, ↓reduceIte, Nat.reduceEqDiff, Nat.reduceBEq, Nat.reduceAdd, Nat.reduceLeDiff, Nat.reduceLT, reduceCtorEq, Nat.reduceMul, Nat.reduceSub, Int.reduceEq, Int.reduceLT, Int.reduceLE, Int.reduceToNat]
    refine vcCall.x (hG _ (by (simp (disch := omega) only [ite_ne, go_sem, ↓reduceIte, Nat.reduceEqDiff, Nat.reduceBEq, Nat.reduceAdd, Nat.reduceLeDiff, Nat.reduceLT, reduceCtorEq, Nat.reduceMul, Nat.reduceSub, Int.reduceEq, Int.reduceLT, Int.reduceLE, Int.reduceToNat])) (by (simp (disch := omega) only [ite_ne, go_sem, ↓reduceIte, Nat.reduceEqDiff, Nat.reduceBEq, Nat.reduceAdd, Nat.reduceLeDiff, Nat.reduceLT, reduceCtorEq, Nat.reduceMul, Nat.reduceSub, Int.reduceEq, Int.reduceLT, Int.reduceLE, Int.reduceToNat])) (by (simp (disch := omega) only [ite_ne, go_sem, ↓reduceIte, Nat.reduceEqDiff, Nat.reduceBEq, Nat.reduceAdd, Nat.reduceLeDiff, Nat.reduceLT, reduceCtorEq, Nat.reduceMul, Nat.reduceSub, Int.reduceEq, Int.reduceLT, Int.reduceLE, Int.reduceToNat])) _) ?_
    simp only [List.cons_append, List.nil_append]
    have hAk := hI2.k1
    have hAs := hI2.s1
    have hAd := hI2.d1
    have hVl : (V2).length ≤ 1000000 := by rw [← hV2, len_liveR]; omega
    have hF := frames_eq A (by omega)
    have hIt := ints_eq (V2) hVl
    have hL1 := sLive_ok room last (ack2) (V2) hVl m (m + 2) g d2 (KA.length - d2) (m + 3) (gl2)
    have hL2 := gLiveL_ok room hroom.1 last (ack2) (S2) hI2.nd (by omega) (m + 1) (m + 4) gL2 (KA.drop d2).length (m + 5) (gS2)
    rw [hV2] at hL2
    have hK1 := sKept_ok room last (ack2) m (m + 2) g d2 (KA.length - d2) (m + 3) (gl2) (V2).length (mapC frC KA)
    have hK2 := gKept_ok room hroom.1 last (ack2) (m + 1) (m + 4) gL2 (m + 5) (gS2) (S2).length (KA.drop d2)
    have hDl : (KA.drop d2).length = KA.length - d2 := List.length_drop
    have hle3 : d2 + (KA.length - d2) ≤ (mapC frC KA).length := by rw [mapC_len]; omega
    rw [hDl] at hL2 hK2
    unfold svB at hL1 hK1
    unfold rfB at hL2 hK2
    simp (disch := omega) only [ite_ne, hDl, go_sem, ↓reduceIte, Nat.reduceEqDiff, Nat.reduceBEq, Nat.reduceAdd, Nat.reduceLeDiff, Nat.reduceLT, reduceCtorEq, Nat.reduceMul, Nat.reduceSub, Int.reduceEq, Int.reduceLT, Int.reduceLE, Int.reduceToNat]
    refine vcCall.f (hF _ _) ?_
    simp (disch := omega) only [ite_ne, hDl, go_sem, ↓reduceIte, Nat.reduceEqDiff, Nat.reduceBEq, Nat.reduceAdd, Nat.reduceLeDiff, Nat.reduceLT, reduceCtorEq, Nat.reduceMul, Nat.reduceSub, Int.reduceEq, Int.reduceLT, Int.reduceLE, Int.reduceToNat]
    refine gCall.f (fun _ => hL1 _ (by (simp (disch := omega) only [ite_ne, go_sem, ↓reduceIte, Nat.reduceEqDiff, Nat.reduceBEq, Nat.reduceAdd, Nat.reduceLeDiff, Nat.reduceLT, reduceCtorEq, Nat.reduceMul, Nat.reduceSub, Int.reduceEq, Int.reduceLT, Int.reduceLE, Int.reduceToNat])) (by (simp (disch := omega) only [ite_ne, go_sem, ↓reduceIte, Nat.reduceEqDiff, Nat.reduceBEq, Nat.reduceAdd, Nat.reduceLeDiff, Nat.reduceLT, reduceCtorEq, Nat.reduceMul, Nat.reduceSub, Int.reduceEq, Int.reduceLT, Int.reduceLE, Int.reduceToNat])) _) ?_
    simp (disch := omega) only [ite_ne, hDl, go_sem, ↓reduceIte, Nat.reduceEqDiff, Nat.reduceBEq, Nat.reduceAdd, Nat.reduceLeDiff, Nat.reduceLT, reduceCtorEq, Nat.reduceMul, Nat.reduceSub, Int.reduceEq, Int.reduceLT, Int.reduceLE, Int.reduceToNat]
    refine gCall.f (fun _ => hL2 _ (by (simp (disch := omega) only [ite_ne, go_sem, ↓reduceIte, Nat.reduceEqDiff, Nat.reduceBEq, Nat.reduceAdd, Nat.reduceLeDiff, Nat.reduceLT, reduceCtorEq, Nat.reduceMul, Nat.reduceSub, Int.reduceEq, Int.reduceLT, Int.reduceLE, Int.reduceToNat])) (by (simp (disch := omega) only [ite_ne, go_sem, ↓reduceIte, Nat.reduceEqDiff, Nat.reduceBEq, Nat.reduceAdd, Nat.reduceLeDiff, Nat.reduceLT, reduceCtorEq, Nat.reduceMul, Nat.reduceSub, Int.reduceEq, Int.reduceLT, Int.reduceLE, Int.reduceToNat])) _) ?_
    simp (disch := omega) only [ite_ne, hDl, go_sem, ↓reduceIte, Nat.reduceEqDiff, Nat.reduceBEq, Nat.reduceAdd, Nat.reduceLeDiff, Nat.reduceLT, reduceCtorEq, Nat.reduceMul, Nat.reduceSub, Int.reduceEq, Int.reduceLT, Int.reduceLE, Int.reduceToNat]
    refine gCall.f (fun _ => hIt _ _) ?_
    simp (disch := omega) only [ite_ne, hDl, go_sem, ↓reduceIte, Nat.reduceEqDiff, Nat.reduceBEq, Nat.reduceAdd, Nat.reduceLeDiff, Nat.reduceLT, reduceCtorEq, Nat.reduceMul, Nat.reduceSub, Int.reduceEq, Int.reduceLT, Int.reduceLE, Int.reduceToNat]
    refine gCall.f (fun _ => hK1 _ (by (simp (disch := omega) only [ite_ne, go_sem, ↓reduceIte, Nat.reduceEqDiff, Nat.reduceBEq, Nat.reduceAdd, Nat.reduceLeDiff, Nat.reduceLT, reduceCtorEq, Nat.reduceMul, Nat.reduceSub, Int.reduceEq, Int.reduceLT, Int.reduceLE, Int.reduceToNat])) (by (simp (disch := omega) only [ite_ne, go_sem, ↓reduceIte, Nat.reduceEqDiff, Nat.reduceBEq, Nat.reduceAdd, Nat.reduceLeDiff, Nat.reduceLT, reduceCtorEq, Nat.reduceMul, Nat.reduceSub, Int.reduceEq, Int.reduceLT, Int.reduceLE, Int.reduceToNat])) hle3 _) ?_
    simp (disch := omega) only [ite_ne, hDl, go_sem, ↓reduceIte, Nat.reduceEqDiff, Nat.reduceBEq, Nat.reduceAdd, Nat.reduceLeDiff, Nat.reduceLT, reduceCtorEq, Nat.reduceMul, Nat.reduceSub, Int.reduceEq, Int.reduceLT, Int.reduceLE, Int.reduceToNat]
    refine gCall.f (fun _ => hK2 _ (by (simp (disch := omega) only [ite_ne, go_sem, ↓reduceIte, Nat.reduceEqDiff, Nat.reduceBEq, Nat.reduceAdd, Nat.reduceLeDiff, Nat.reduceLT, reduceCtorEq, Nat.reduceMul, Nat.reduceSub, Int.reduceEq, Int.reduceLT, Int.reduceLE, Int.reduceToNat])) (by (simp (disch := omega) only [ite_ne, go_sem, ↓reduceIte, Nat.reduceEqDiff, Nat.reduceBEq, Nat.reduceAdd, Nat.reduceLeDiff, Nat.reduceLT, reduceCtorEq, Nat.reduceMul, Nat.reduceSub, Int.reduceEq, Int.reduceLT, Int.reduceLE, Int.reduceToNat])) _) ?_
    simp (disch := omega) only [ite_ne, hDl, decide_true, go_sem, ↓reduceIte, Nat.reduceEqDiff, Nat.reduceBEq, Nat.reduceAdd, Nat.reduceLeDiff, Nat.reduceLT, reduceCtorEq, Nat.reduceMul, Nat.reduceSub, Int.reduceEq, Int.reduceLT, Int.reduceLE, Int.reduceToNat]
    refine ⟨.mk (j + 1) last (ack2) KA d2 g (V2) (gl2) (KA.drop d2) gL2 (S2) (gS2) (n + 1), ⟨by omega, by omega, hI2, hV2.symm, rfl⟩, by show l.length - (j + 1) < l.length - j; omega, ?_⟩
    simp only [I47]
    refine weak_ok ?_ (SubX.sub (SubX.cons ?_ (SubX.cons ?_ (SubX.cons ?_ (SubX.cons ?_ (SubX.cons ?_ (SubX.cons ?_ (SubX.base hf fun a ha hax => ?_)))))))) (Nat.le_refl _)
    · simp (disch := omega) only [ite_ne, wr64s j (by omega), go_sem, ↓reduceIte, Nat.reduceEqDiff, Nat.reduceBEq, Nat.reduceAdd, Nat.reduceLeDiff, Nat.reduceLT, reduceCtorEq, Nat.reduceMul, Nat.reduceSub, Int.reduceEq, Int.reduceLT, Int.reduceLE, Int.reduceToNat]
    · (simp (disch := omega) only [ite_ne, hDl, go_sem, ↓reduceIte, Nat.reduceEqDiff, Nat.reduceBEq, Nat.reduceAdd, Nat.reduceLeDiff, Nat.reduceLT, reduceCtorEq, Nat.reduceMul, Nat.reduceSub, Int.reduceEq, Int.reduceLT, Int.reduceLE, Int.reduceToNat])
    · (simp (disch := omega) only [ite_ne, hDl, go_sem, ↓reduceIte, Nat.reduceEqDiff, Nat.reduceBEq, Nat.reduceAdd, Nat.reduceLeDiff, Nat.reduceLT, reduceCtorEq, Nat.reduceMul, Nat.reduceSub, Int.reduceEq, Int.reduceLT, Int.reduceLE, Int.reduceToNat])
    · (simp (disch := omega) only [ite_ne, hDl, go_sem, ↓reduceIte, Nat.reduceEqDiff, Nat.reduceBEq, Nat.reduceAdd, Nat.reduceLeDiff, Nat.reduceLT, reduceCtorEq, Nat.reduceMul, Nat.reduceSub, Int.reduceEq, Int.reduceLT, Int.reduceLE, Int.reduceToNat])
    · (simp (disch := omega) only [ite_ne, hDl, go_sem, ↓reduceIte, Nat.reduceEqDiff, Nat.reduceBEq, Nat.reduceAdd, Nat.reduceLeDiff, Nat.reduceLT, reduceCtorEq, Nat.reduceMul, Nat.reduceSub, Int.reduceEq, Int.reduceLT, Int.reduceLE, Int.reduceToNat])
    · (simp (disch := omega) only [ite_ne, hDl, go_sem, ↓reduceIte, Nat.reduceEqDiff, Nat.reduceBEq, Nat.reduceAdd, Nat.reduceLeDiff, Nat.reduceLT, reduceCtorEq, Nat.reduceMul, Nat.reduceSub, Int.reduceEq, Int.reduceLT, Int.reduceLE, Int.reduceToNat])
    · (simp (disch := omega) only [ite_ne, hDl, go_sem, ↓reduceIte, Nat.reduceEqDiff, Nat.reduceBEq, Nat.reduceAdd, Nat.reduceLeDiff, Nat.reduceLT, reduceCtorEq, Nat.reduceMul, Nat.reduceSub, Int.reduceEq, Int.reduceLT, Int.reduceLE, Int.reduceToNat])
    · repeat rw [gc_ne _ _ (by omega)]
  · simp (disch := omega) only [ite_ne, go_sem, ↓reduceIte, Nat.reduceEqDiff, Nat.reduceBEq, Nat.reduceAdd, Nat.reduceLeDiff, Nat.reduceLT, reduceCtorEq, Nat.reduceMul, Nat.reduceSub, Int.reduceEq, Int.reduceLT, Int.reduceLE, Int.reduceToNat]
    refine vcCall.f (exh47_ok _ _) ?_
    simp (disch := omega) only [ite_ne, go_sem, ↓reduceIte, Nat.reduceEqDiff, Nat.reduceBEq, Nat.reduceAdd, Nat.reduceLeDiff, Nat.reduceLT, reduceCtorEq, Nat.reduceMul, Nat.reduceSub, Int.reduceEq, Int.reduceLT, Int.reduceLE, Int.reduceToNat]
end Go.Proofs.Ytdodiembhgjecaa
