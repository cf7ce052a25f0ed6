/-
  The parts VaF VaH PcH of the proof, in one file. Conditions: none.
-/
import Derived.Test.YtpenniildabheaaPb34
namespace Go.Proofs.Ytpenniildabheaa
open Go.Eng
set_option linter.unusedVariables false
set_option linter.unusedSimpArgs false
set_option maxRecDepth 20000
def chL (c : Int) : Bool := decide (65 ≤ c) && decide (c ≤ 90) || decide (97 ≤ c) && decide (c ≤ 122) || decide (c = 95)
end Go.Proofs.Ytpenniildabheaa
namespace Go.Proofs.Ytpenniildabheaa
open Go.Eng
set_option linter.unusedVariables false
set_option linter.unusedSimpArgs false
set_option maxRecDepth 20000
def fidx {α : Type} (q : α → Bool) : List α → Nat → Int
  | [], _ => -1
  | x :: r, j => if q x = true then j else fidx q r (j + 1)
attribute [go_sem] st1
abbrev sx (s : ByteArray) : AV := .s s
end Go.Proofs.Ytpenniildabheaa
namespace Go.Proofs.Ytpenniildabheaa
open Go.Eng
set_option linter.unusedVariables false
set_option linter.unusedSimpArgs false
set_option maxRecDepth 20000
set_option maxHeartbeats 2000000
inductive Ent where
  | mk (t : ByteArray) (v : Int) (n : Int)
deriving DecidableEq
def Ent.t : Ent → ByteArray | .mk t _ _ => t
theorem Ent.t_mk (t : ByteArray) (v : Int) (n : Int) : (Ent.mk t v n).t = t := rfl
def Ent.v : Ent → Int | .mk _ v _ => v
theorem Ent.v_mk (t : ByteArray) (v : Int) (n : Int) : (Ent.mk t v n).v = v := rfl
def Ent.n : Ent → Int | .mk _ _ n => n
theorem Ent.n_mk (t : ByteArray) (v : Int) (n : Int) : (Ent.mk t v n).n = n := rfl
theorem Ent.ext {x y : Ent} (h0 : x.t = y.t) (h1 : x.v = y.v) (h2 : x.n = y.n) : x = y := by cases x; cases y; simp only [Ent.t_mk, Ent.v_mk, Ent.n_mk] at *; simp [*]
def entC (x : Ent) : List AV := [.s x.t, .i .i64 x.v, .ds [planC x.n]]
attribute [go_sem] entC Ent.t_mk Ent.v_mk Ent.n_mk
attribute [grind =] Ent.t_mk Ent.v_mk Ent.n_mk
attribute [ext] Ent.ext
attribute [grind ext] Ent.ext
theorem ones_ent (L : List Ent) : ∀ x ∈ mapC entC L, ones x = true := fun x hx => by
  obtain ⟨y, _, rfl⟩ := mapC_mem _ _ hx
  rfl
theorem mapC_erase {α : Type} (c : α → List AV) : ∀ (l : List α) (i : Nat), (mapC c l).eraseIdx i = mapC c (l.eraseIdx i)
  | [], i => rfl
  | x :: r, 0 => rfl
  | x :: r, i + 1 => by
    rw [mapC_cons, List.eraseIdx_cons_succ, List.eraseIdx_cons_succ, mapC_cons, mapC_erase c r i]
def qE (t : ByteArray) (v : Int) (x : Ent) : Bool := decide (x.t = t) && decide (x.v = v)
theorem fidx_find {α : Type} (q : α → Bool) : ∀ (l : List α) (j : Nat), (l.findIdx q < l.length ∧ fidx q l j = ((j + l.findIdx q : Nat) : Int)) ∨ (l.findIdx q = l.length ∧ fidx q l j = -1)
  | [], j => .inr ⟨rfl, rfl⟩
  | x :: r, j => by
    rw [fidx, List.findIdx_cons]
    cases h : q x with
    | true => left; simp
    | false =>
      simp only [cond_false, Bool.false_eq_true, if_false, List.length_cons]
      rcases fidx_find q r (j + 1) with ⟨h1, h2⟩ | ⟨h1, h2⟩
      · left; exact ⟨by omega, by rw [h2]; congr 1; omega⟩
      · right; exact ⟨by omega, h2⟩
def tkE (t : ByteArray) (v : Int) (L : List Ent) : List Ent := L.eraseIdx (L.findIdx (qE t v))
theorem tkE_len (t : ByteArray) (v : Int) (L : List Ent) : (tkE t v L).length ≤ L.length := List.length_eraseIdx_le _ _
def putL (room : Int) (e : Ent) (L : List Ent) : List Ent := e :: (if room ≤ ((tkE e.t e.v L).length : Int) then (tkE e.t e.v L).take (room - 1).toNat else tkE e.t e.v L)
/-- The memory of a cache. -/
def pcW (c kg g : Nat) (room h mi o : Int) (b : Bool) (L : List Ent) : CH := [(c, .bx [.i .i64 room, .rw kg g L.length, .i .i64 h, .i .i64 mi, .i .i64 o, .b b]), (kg, .rw g 3 (mapC entC L))]
theorem bx_lt' {hp : CH} {m c : Nat} {cs : List AV} (hf : ∀ k, m ≤ k → gc hp k = .no) (h : gc hp c = .bx cs) : c < m := by
  rcases Nat.lt_or_ge c m with q | q
  · exact q
  · rw [hf c q] at h; cases h
theorem up_ws2 {m c d : Nat} {X Y : Chunk} {hp a : CH} (hcd : c ≠ d) (h1 : gc a c = X) (h2 : gc a d = Y) (h3 : ∀ j, j < m → j ≠ c → j ≠ d → gc a j = gc hp j) : Up m ((c, X) :: (d, Y) :: hp) a := fun j hj => by
  by_cases e1 : c = j
  · subst e1
    rw [gc_same]
    exact h1
  rw [gc_ne _ _ e1]
  by_cases e2 : d = j
  · subst e2
    rw [gc_same]
    exact h2
  rw [gc_ne _ _ e2]
  exact h3 j hj (fun e => e1 e.symm) (fun e => e2 e.symm)
theorem pcW_lt {hp : CH} {n c kg g g0 : Nat} {room h mi o : Int} {b : Bool} {L : List Ent} {cs : List AV} {l : List (List AV)} (hc : gc hp c = .bx cs) (hk : gc hp kg = .rw g0 3 l) : (∀ k, n ≤ k → gc hp k = .no) → wsLt n (pcW c kg g room h mi o b L) := fun hf => by
  have h1 := bx_lt' hf hc
  have h2 := rw_lt hf hk
  refine ⟨h1, fun α hα => ?_, h2, trivial, trivial⟩
  simp only [List.mem_cons, List.not_mem_nil, or_false] at hα
  rcases hα with rfl | rfl | rfl | rfl | rfl | rfl <;> first | exact h2 | rfl
theorem closE (t : ByteArray) (v : Int) (x : Ent) (c : Nat) (hp : CH) (hc : gc hp c = .bx [.s t, .i .i64 v]) (m : Nat) : MeetsF Try.prog 49 hp m [.ag (entC x), .bx c 0] (.b (qE t v x)) := by
  refine meetsF Try.func49 (by kernel_rfl) cc49 cr49 rfl fun hf => ?_; unfold ck49
  have hlt := bx_lt' hf hc
  simp (disch := omega) only [ite_ne, hc, qE, go_sem, ↓reduceIte, Nat.reduceEqDiff, Nat.reduceBEq, Nat.reduceAdd, Nat.reduceLeDiff, Nat.reduceLT, reduceCtorEq, Nat.reduceMul, Nat.reduceSub, Int.reduceEq, Int.reduceLT, Int.reduceLE, Int.reduceToNat]
  try simp
theorem idxE (q : Ent → Bool) (k : FuncId) (caps : List AV) (L : List Ent) (hl : L.length ≤ 1000000) (kg g : Nat) (hp : CH) (hk : gc hp kg = .rw g 3 (mapC entC L)) (m : Nat) (h : ∀ x ∈ L, ∀ n, MeetsF Try.prog k hp n (.ag (entC x) :: caps) (.b (q x))) :
    MeetsF Try.prog 45 hp m [.rw kg g L.length, .fn k caps] (.i .i64 (fidx q L 0)) := by
  have hLl : (mapC entC L).length = L.length := mapC_len _ _
  have htk : (mapC entC L).take L.length = mapC entC L := List.take_of_length_le (by omega)
  obtain ⟨R, hR⟩ : ∃ R, fidx q L 0 = R := ⟨_, rfl⟩
  rw [hR]
  refine meetsF Try.func45 (by kernel_rfl) cc45 cr45 rfl fun hf => ?_; unfold ck45
  have hlt2 := rw_lt hf hk
  simp (disch := omega) only [ite_ne, hk, hLl, Nat.le_refl, htk, go_sem, ↓reduceIte, Nat.reduceEqDiff, Nat.reduceBEq, Nat.reduceAdd, Nat.reduceLeDiff, Nat.reduceLT, reduceCtorEq, Nat.reduceMul, Nat.reduceSub, Int.reduceEq, Int.reduceLT, Int.reduceLE, Int.reduceToNat]
  refine loop (fun p : Nat × Nat => ⟨[(0, .rw kg g L.length), (1, .fn k caps), (7, .i .i64 L.length), (8, .i .i64 p.1)], hp, p.2⟩) (fun p => p.1 ≤ L.length ∧ m ≤ p.2 ∧ R = fidx q (L.drop p.1) p.1) (fun p => L.length - p.1) (0, m) ?_ ?_ (fun ⟨j, n⟩ hj => ?_)
  · exact ⟨by simp, by simp, hR.symm⟩
  · refine weak_ok ?_ (Sub.refl _) (Nat.le_refl _)
    simp (disch := omega) only [ite_ne, go_sem, ↓reduceIte, Nat.reduceEqDiff, Nat.reduceBEq, Nat.reduceAdd, Nat.reduceLeDiff, Nat.reduceLT, reduceCtorEq, Nat.reduceMul, Nat.reduceSub, Int.reduceEq, Int.reduceLT, Int.reduceLE, Int.reduceToNat]
  dsimp only at hj
  obtain ⟨hj1, hj2, hj3⟩ := hj
  simp (disch := omega) only [ite_ne, go_sem, ↓reduceIte, Nat.reduceEqDiff, Nat.reduceBEq, Nat.reduceAdd, Nat.reduceLeDiff, Nat.reduceLT, reduceCtorEq, Nat.reduceMul, Nat.reduceSub, Int.reduceEq, Int.reduceLT, Int.reduceLE, Int.reduceToNat]
  refine cdK_of (fun c => ?_) (fun c => ?_)
  · have c : j < L.length := by simpa using c
    obtain ⟨x, ex⟩ : ∃ x, L[j]? = some x := ⟨L[j], by simp [c]⟩
    have hx := h x (List.mem_of_getElem? ex)
    rw [drop_at ex, fidx] at hj3
    simp only [entC] at hx
    have ha := fun n => hx n
    simp (disch := omega) only [ite_ne, c, hk, hLl, Nat.le_refl, htk, getK_s (mapC_get entC ex), go_sem, ↓reduceIte, Nat.reduceEqDiff, Nat.reduceBEq, Nat.reduceAdd, Nat.reduceLeDiff, Nat.reduceLT, reduceCtorEq, Nat.reduceMul, Nat.reduceSub, Int.reduceEq, Int.reduceLT, Int.reduceLE, Int.reduceToNat]
    refine vcCall.f (hx n) ?_
    simp (disch := omega) only [ite_ne, go_sem, ↓reduceIte, Nat.reduceEqDiff, Nat.reduceBEq, Nat.reduceAdd, Nat.reduceLeDiff, Nat.reduceLT, reduceCtorEq, Nat.reduceMul, Nat.reduceSub, Int.reduceEq, Int.reduceLT, Int.reduceLE, Int.reduceToNat]
    refine cdK_of (fun c1 => ?_) (fun c1 => ?_)
    · rw [if_pos c1] at hj3
      simp (disch := omega) only [ite_ne, hj3, go_sem, ↓reduceIte, Nat.reduceEqDiff, Nat.reduceBEq, Nat.reduceAdd, Nat.reduceLeDiff, Nat.reduceLT, reduceCtorEq, Nat.reduceMul, Nat.reduceSub, Int.reduceEq, Int.reduceLT, Int.reduceLE, Int.reduceToNat]
    · rw [if_neg (by simp [c1])] at hj3
      simp (disch := omega) only [ite_ne, go_sem, ↓reduceIte, Nat.reduceEqDiff, Nat.reduceBEq, Nat.reduceAdd, Nat.reduceLeDiff, Nat.reduceLT, reduceCtorEq, Nat.reduceMul, Nat.reduceSub, Int.reduceEq, Int.reduceLT, Int.reduceLE, Int.reduceToNat]
      refine ⟨(j + 1, _), ⟨by dsimp only; omega, by dsimp only; omega, hj3⟩, by dsimp only; omega, weak_ok ?_ (Sub.refl _) (Nat.le_refl _)⟩
      simp (disch := omega) only [ite_ne, wr64s j (by omega), go_sem, ↓reduceIte, Nat.reduceEqDiff, Nat.reduceBEq, Nat.reduceAdd, Nat.reduceLeDiff, Nat.reduceLT, reduceCtorEq, Nat.reduceMul, Nat.reduceSub, Int.reduceEq, Int.reduceLT, Int.reduceLE, Int.reduceToNat]
  · have c : j = L.length := by simp at c; omega
    subst c
    rw [List.drop_length, fidx] at hj3
    simp (disch := omega) only [ite_ne, hj3, go_sem, ↓reduceIte, Nat.reduceEqDiff, Nat.reduceBEq, Nat.reduceAdd, Nat.reduceLeDiff, Nat.reduceLT, reduceCtorEq, Nat.reduceMul, Nat.reduceSub, Int.reduceEq, Int.reduceLT, Int.reduceLE, Int.reduceToNat]
theorem indexE (t : ByteArray) (v : Int) (L : List Ent) (hl : L.length ≤ 1000000) (c kg g : Nat) (A : List AV) (room : Int) (hp : CH) (hc : gc hp c = .bx (.i .i64 room :: .rw kg g L.length :: A)) (hk : gc hp kg = .rw g 3 (mapC entC L)) (m : Nat) :
    MeetsF Try.prog 41 hp m [.bx c 0, .ag [.s t, .i .i64 v]] (.i .i64 (fidx (qE t v) L 0)) := by
  refine meetsF Try.func41 (by kernel_rfl) cc41 cr41 rfl fun hf => ?_; unfold ck41
  have hlt := bx_lt' hf hc
  have hlt2 := rw_lt hf hk
  have hmm : ¬ m = kg := by omega
  simp (disch := omega) only [ite_ne, hc, go_sem, ↓reduceIte, Nat.reduceEqDiff, Nat.reduceBEq, Nat.reduceAdd, Nat.reduceLeDiff, Nat.reduceLT, reduceCtorEq, Nat.reduceMul, Nat.reduceSub, Int.reduceEq, Int.reduceLT, Int.reduceLE, Int.reduceToNat]
  refine vcCall.f (idxE (qE t v) _ _ L hl kg g _ (by (simp (disch := omega) only [ite_ne, hk, go_sem, ↓reduceIte, Nat.reduceEqDiff, Nat.reduceBEq, Nat.reduceAdd, Nat.reduceLeDiff, Nat.reduceLT, reduceCtorEq, Nat.reduceMul, Nat.reduceSub, Int.reduceEq, Int.reduceLT, Int.reduceLE, Int.reduceToNat])) _ fun x hx n => closE t v x m _ (by (simp (disch := omega) only [ite_ne, go_sem, ↓reduceIte, Nat.reduceEqDiff, Nat.reduceBEq, Nat.reduceAdd, Nat.reduceLeDiff, Nat.reduceLT, reduceCtorEq, Nat.reduceMul, Nat.reduceSub, Int.reduceEq, Int.reduceLT, Int.reduceLE, Int.reduceToNat])) _) ?_
  simp (disch := omega) only [ite_ne, go_sem, ↓reduceIte, Nat.reduceEqDiff, Nat.reduceBEq, Nat.reduceAdd, Nat.reduceLeDiff, Nat.reduceLT, reduceCtorEq, Nat.reduceMul, Nat.reduceSub, Int.reduceEq, Int.reduceLT, Int.reduceLE, Int.reduceToNat]
end Go.Proofs.Ytpenniildabheaa
