/-
  The parts PcO PcP of the proof, in one file. Conditions: none.
-/
import Derived.Test.YtpenniildabheaaPb39
namespace Go.Proofs.Ytpenniildabheaa
open Go.Eng
set_option linter.unusedVariables false
set_option linter.unusedSimpArgs false
set_option maxRecDepth 20000
/-- No key twice. -/
def Uq (L : List Ent) : Prop := L.Pairwise fun x y => ¬ (x.t = y.t ∧ x.v = y.v)
theorem qE_iff {t : ByteArray} {v : Int} {x : Ent} : qE t v x = true ↔ x.t = t ∧ x.v = v := by simp [qE]
theorem tkE_none {t : ByteArray} {v : Int} {L : List Ent} (h : ∀ x ∈ L, ¬ (x.t = t ∧ x.v = v)) : tkE t v L = L := by
  unfold tkE
  have : L.findIdx (qE t v) = L.length := List.findIdx_eq_length.2 fun x hx => by
    cases hq : qE t v x with
    | false => rfl
    | true => exact absurd (qE_iff.1 hq) (h x hx)
  rw [this, List.eraseIdx_of_length_le (Nat.le_refl _)]
theorem Uq.tk {L : List Ent} (u : Uq L) (t : ByteArray) (v : Int) : Uq (tkE t v L) := List.Pairwise.sublist (List.eraseIdx_sublist _ _) u
theorem tkE_mem {L : List Ent} (u : Uq L) {t : ByteArray} {v : Int} {x : Ent} : x ∈ tkE t v L ↔ x ∈ L ∧ ¬ (x.t = t ∧ x.v = v) := by
  unfold tkE
  induction L with
  | nil => simp
  | cons y r ih =>
    have u2 := List.pairwise_cons.1 u
    rw [List.findIdx_cons]
    cases hq : qE t v y with
    | true =>
      have hy := qE_iff.1 hq
      simp only [cond_true, List.eraseIdx_zero, List.tail_cons, List.mem_cons]
      constructor
      · intro hx
        exact ⟨.inr hx, fun e => u2.1 x hx ⟨hy.1.trans e.1.symm, hy.2.trans e.2.symm⟩⟩
      · rintro ⟨rfl | hx, hn⟩
        · exact absurd hy hn
        · exact hx
    | false =>
      have hy : ¬ (y.t = t ∧ y.v = v) := fun e => by rw [qE_iff.2 e] at hq; cases hq
      simp only [cond_false, List.eraseIdx_cons_succ, List.mem_cons]
      rw [ih u2.2]
      constructor
      · rintro (rfl | ⟨h1, h2⟩)
        · exact ⟨.inl rfl, hy⟩
        · exact ⟨.inr h1, h2⟩
      · rintro ⟨rfl | h1, h2⟩
        · exact .inl rfl
        · exact .inr ⟨h1, h2⟩
theorem Uq.put {L : List Ent} (u : Uq L) (room : Int) (e : Ent) : Uq (putL room e L) := by
  have h1 := u.tk e.t e.v
  have h2 : ∀ x ∈ tkE e.t e.v L, ¬ (e.t = x.t ∧ e.v = x.v) := fun x hx ⟨a, b⟩ => (tkE_mem u).1 hx |>.2 ⟨a.symm, b.symm⟩
  unfold putL
  split
  · exact List.pairwise_cons.2 ⟨fun x hx => h2 x (List.mem_of_mem_take hx), List.Pairwise.sublist (List.take_sublist _ _) h1⟩
  · exact List.pairwise_cons.2 ⟨h2, h1⟩
theorem Uq.dr {L : List Ent} (u : Uq L) (v : Int) : Uq (drL v L) := List.Pairwise.sublist List.filter_sublist u
theorem drL_len (v : Int) (L : List Ent) : (drL v L).length ≤ L.length := List.length_filter_le _ _
/-- What holds of a cache after k calls. -/
structure CI (room h mi : Int) (L : List Ent) (k : Nat) : Prop where
  r1 : 1 ≤ room
  r2 : room ≤ 1024
  h0 : 0 ≤ h
  m0 : 0 ≤ mi
  hm : h + mi ≤ k
  ll : (L.length : Int) ≤ room
  uq : Uq L
theorem CI.put {room h mi : Int} {L : List Ent} {k : Nat} (c : CI room h mi L k) (e : Ent) : CI room h mi (putL room e L) (k + 1) := ⟨c.r1, c.r2, c.h0, c.m0, by have := c.hm; omega, (putL_len c.r1 e L c.ll).1, c.uq.put room e⟩
theorem CI.no {room h mi : Int} {L : List Ent} {k : Nat} (c : CI room h mi L k) : CI room h mi L (k + 1) := ⟨c.r1, c.r2, c.h0, c.m0, by have := c.hm; omega, c.ll, c.uq⟩
theorem CI.dr {room h mi : Int} {L : List Ent} {k : Nat} (c : CI room h mi L k) (v : Int) : CI room h mi (drL v L) (k + 1) := ⟨c.r1, c.r2, c.h0, c.m0, by have := c.hm; omega, by have := drL_len v L; have := c.ll; omega, c.uq.dr v⟩
end Go.Proofs.Ytpenniildabheaa
namespace Go.Proofs.Ytpenniildabheaa
open Go.Eng
set_option linter.unusedVariables false
set_option linter.unusedSimpArgs false
set_option maxRecDepth 20000
set_option maxHeartbeats 4000000
inductive Stp where
  | mk (k : Int) (t : ByteArray) (v : Int) (n : Int)
deriving DecidableEq
def Stp.k : Stp → Int | .mk k _ _ _ => k
theorem Stp.k_mk (k : Int) (t : ByteArray) (v : Int) (n : Int) : (Stp.mk k t v n).k = k := rfl
def Stp.t : Stp → ByteArray | .mk _ t _ _ => t
theorem Stp.t_mk (k : Int) (t : ByteArray) (v : Int) (n : Int) : (Stp.mk k t v n).t = t := rfl
def Stp.v : Stp → Int | .mk _ _ v _ => v
theorem Stp.v_mk (k : Int) (t : ByteArray) (v : Int) (n : Int) : (Stp.mk k t v n).v = v := rfl
def Stp.n : Stp → Int | .mk _ _ _ n => n
theorem Stp.n_mk (k : Int) (t : ByteArray) (v : Int) (n : Int) : (Stp.mk k t v n).n = n := rfl
theorem Stp.ext {x y : Stp} (h0 : x.k = y.k) (h1 : x.t = y.t) (h2 : x.v = y.v) (h3 : x.n = y.n) : x = y := by cases x; cases y; simp only [Stp.k_mk, Stp.t_mk, Stp.v_mk, Stp.n_mk] at *; simp [*]
attribute [go_sem] Stp.k_mk Stp.t_mk Stp.v_mk Stp.n_mk
attribute [grind =] Stp.k_mk Stp.t_mk Stp.v_mk Stp.n_mk
attribute [ext] Stp.ext
attribute [grind ext] Stp.ext
section
variable (room h mi o : Int) (b : Bool) (L : List Ent) (k : Nat) (ci : CI room h mi L k) (hk60 : k ≤ 1000) (c kg g r : Nat) (hcr : c ≠ r) (hkr : kg ≠ r) (hp : CH) (hc : gc hp c = .bx [.i .i64 room, .rw kg g L.length, .i .i64 h, .i .i64 mi, .i .i64 o, .b b]) (hk : gc hp kg = .rw g 3 (mapC entC L)) (hr : gc hp r = .bx [.i .i64 room, .ds (mapC entC L), .i .i64 h, .i .i64 mi, .i .i64 o, .b b]) (m : Nat)
include hcr hkr ci hk60 hc hk hr
end
end Go.Proofs.Ytpenniildabheaa
