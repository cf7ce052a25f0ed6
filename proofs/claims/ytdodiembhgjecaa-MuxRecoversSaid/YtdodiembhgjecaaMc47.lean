/-
  The parts MxRA of the proof, in one file. Conditions: none.
-/
import Derived.Test.YtdodiembhgjecaaMc46
namespace Go.Proofs.Ytdodiembhgjecaa
open Go.Eng
set_option linter.unusedVariables false
set_option linter.unusedSimpArgs false
set_option maxRecDepth 20000
/-- A message of a frame. -/
def msg (f : Frm) : Msg := .mk f.i f.b
theorem cNew (hp : CH) (m : Nat) : Meets Try.prog 22 hp m [] fun hp' n' r => hp' = (m, .bx [.b true, .i .i64 0, .e0]) :: hp ∧ n' = m + 1 ∧ r = .bx m 0 := by
  refine meets Try.func22 (by kernel_rfl) cc22 cr22 rfl ?_; unfold ck22
  simp only [go_sem, ↓reduceIte, Nat.reduceEqDiff, Nat.reduceBEq, Nat.reduceAdd, Nat.reduceLeDiff, Nat.reduceLT, reduceCtorEq, Nat.reduceMul, Nat.reduceSub, Int.reduceEq, Int.reduceLT, Int.reduceLE, Int.reduceToNat]
theorem clA_len (last : Int) (f : Frm) : (clA last f).length ≤ 1 := by
  unfold clA
  repeat' split
  all_goals simp
/-- The messages of a session that were published, numbered from 1 on. -/
structure LogOk (Q : List Frm) : Prop where
  len : Q.length ≤ 60
  mem : ∀ (j : Nat) f, Q[j]? = some f → ∃ i b, f = .mk 5 i ((j : Int) + 1) 0 b ∧ (1 ≤ i ∧ i ≤ 4) ∧ b.size ≤ 50
theorem chk_log {i s : Int} {b : ByteArray} (h : 1 ≤ i ∧ i ≤ 4) (hs : 0 ≤ s ∧ s ≤ 1000) (hb : b.size ≤ 50) : chk (.mk 5 i s 0 b) = 0 := by
  have k1 : kOk 5 = true := by decide
  have k2 : hI 5 = true := by decide
  have k3 : hS 5 = true := by decide
  have k4 : hB 5 = true := by decide
  have w1 : wide i = false := by unfold wide; simp; omega
  have w2 : wide s = false := by unfold wide; simp; omega
  have w3 : wide 0 = false := by decide
  have w4 : ¬ (65536 : Int) < (b.size : Int) := by omega
  simp [chk, oth, k1, k2, k3, k4, w1, w2, w3, w4, Frm.k_mk, Frm.i_mk, Frm.s_mk, Frm.a_mk, Frm.b_mk]
theorem chk_ak {k c : Int} (hk : k = 1 ∨ k = 4 ∨ k = 8) (hc : 0 ≤ c ∧ c ≤ 1000) : chk (akF k c) = 0 := by
  have w2 : wide c = false := by unfold wide; simp; omega
  have w3 : wide 0 = false := by decide
  have k0 : kOk k = true := by rcases hk with rfl | rfl | rfl <;> decide
  have k1 : hA k = true := by rcases hk with rfl | rfl | rfl <;> decide
  have e0 : (⟨#[]⟩ : ByteArray).size = 0 := rfl
  simp [chk, akF, oth, k0, k1, w2, w3, e0, Frm.k_mk, Frm.i_mk, Frm.s_mk, Frm.a_mk, Frm.b_mk]
/-- A frame on its way to the client. -/
def Way (Q : List Frm) (f : Frm) : Prop := f ∈ Q ∨ (f.k = 8 ∧ chk f = 0)
/-- The client after a frame. -/
theorem cl_step {Q : List Frm} (hQ : LogOk Q) {c : Nat} (hc : c ≤ Q.length) {f : Frm} (hf : Way Q f) : ∃ c' : Nat, c ≤ c' ∧ c' ≤ Q.length ∧ clL c f = c' ∧ clG ((Q.take c).map msg) c f = (Q.take c').map msg ∧
    (∀ x ∈ clA c f, x = akF 1 c' ∨ x = akF 4 c') ∧ (f.k = 8 → c' = c ∧ clA c f = []) ∧ (Q[c]? = some f → c' = c + 1 ∧ clA c f = [akF 4 c']) := by
  have hl := hQ.len
  rcases hf with hf | ⟨h8, h0⟩
  · obtain ⟨j, hj⟩ := List.mem_iff_getElem?.1 hf
    obtain ⟨i, b, rfl, hi, hb⟩ := hQ.mem j f hj
    have hjl : j < Q.length := (List.getElem?_eq_some_iff.1 hj).1
    have h0 : chk (.mk 5 i ((j : Int) + 1) 0 b) = 0 := chk_log hi (by omega) hb
    by_cases q1 : j = c
    · subst q1
      have t1 : clT j (.mk 5 i ((j : Int) + 1) 0 b) = true := by simp [clT, h0, Frm.k_mk, Frm.s_mk]
      have t2 : clS j (.mk 5 i ((j : Int) + 1) 0 b) = true := by simp [clS, t1, Frm.k_mk]
      have t3 : clA j (.mk 5 i ((j : Int) + 1) 0 b) = [akF 4 ((j : Int) + 1)] := by
        have : ¬ ((j : Int) + 1 ≤ j) := by omega
        simp [clA, h0, this, Frm.k_mk, Frm.s_mk]
      have e1 : (((j + 1 : Nat)) : Int) = (j : Int) + 1 := by omega
      refine ⟨j + 1, by omega, by omega, ?_, ?_, fun x hx => ?_, fun h => ?_, fun _ => ⟨rfl, ?_⟩⟩
      · simp [clL, t1, Frm.s_mk]
      · unfold clG
        rw [if_pos t2, ← take_snoc hj, List.map_append]
        rfl
      · rw [t3] at hx
        simp at hx
        exact .inr (by rw [hx, e1])
      · simp [Frm.k_mk] at h
      · rw [t3, e1]
    · have q2 : ¬ ((j : Int) + 1 = c + 1) := by omega
      have q3 : ¬ ((j : Int) = c) := by omega
      have t1 : clT c (.mk 5 i ((j : Int) + 1) 0 b) = false := by simp [clT, q3, Frm.k_mk, Frm.s_mk]
      have t2 : clS c (.mk 5 i ((j : Int) + 1) 0 b) = false := by simp [clS, t1]
      refine ⟨c, Nat.le_refl _, hc, by simp [clL, t1], ?_, fun x hx => ?_, fun h => ?_, fun h => ?_⟩
      · unfold clG
        rw [if_neg (by simp [t2])]
      · left
        by_cases q4 : (j : Int) + 1 ≤ c
        · have t3 : clA c (.mk 5 i ((j : Int) + 1) 0 b) = [] := by simp [clA, h0, q4, Frm.k_mk, Frm.s_mk]
          rw [t3] at hx
          simp at hx
        · have t3 : clA c (.mk 5 i ((j : Int) + 1) 0 b) = [akF 1 c] := by simp [clA, h0, q4, q3, Frm.k_mk, Frm.s_mk]
          rw [t3] at hx
          simpa using hx
      · simp [Frm.k_mk] at h
      · obtain ⟨i2, b2, e, _⟩ := hQ.mem c _ h
        simp only [Frm.mk.injEq] at e
        omega
  · have t1 : clT c f = false := by simp [clT, h8]
    have t2 : clS c f = false := by simp [clS, t1]
    have t3 : clA c f = [] := by simp [clA, h0, h8]
    refine ⟨c, Nat.le_refl _, hc, by simp [clL, t1], ?_, fun x hx => ?_, fun _ => ⟨rfl, t3⟩, fun h => ?_⟩
    · unfold clG
      rw [if_neg (by simp [t2])]
    · rw [t3] at hx
      simp at hx
    · obtain ⟨i2, b2, rfl, _⟩ := hQ.mem c _ h
      simp [Frm.k_mk] at h8
theorem dW_log {Q : List Frm} (hQ : LogOk Q) (n : Nat) : ∀ (k a : Nat), n - a = k → a ≤ n → n ≤ Q.length → dW n (Q.drop a) = n - a
  | 0, a, hk, ha, hn => by
    have e : a = n := by omega
    subst e
    cases hd : Q.drop a with
    | nil => simp [dW]
    | cons f K =>
      have : (Q.drop a)[0]? = some f := by rw [hd]; rfl
      rw [List.getElem?_drop, Nat.add_zero] at this
      obtain ⟨i, b, rfl, _⟩ := hQ.mem a f this
      have : ¬ ((a : Int) + 1 ≤ a) := by omega
      simp [dW, Frm.s_mk, this]
  | k + 1, a, hk, ha, hn => by
    have hlt : a < Q.length := by omega
    rw [List.drop_eq_getElem_cons hlt]
    obtain ⟨i, b, e, _⟩ := hQ.mem a _ (List.getElem?_eq_getElem hlt)
    have h1 := dW_log hQ n k (a + 1) (by omega) (by omega) hn
    have h2 : (Q[a]).s ≤ n := by rw [e, Frm.s_mk]; omega
    unfold dW
    rw [if_pos h2, h1]
    omega
/-- What the server drops. -/
theorem akD_log {Q : List Frm} (hQ : LogOk Q) {a n : Nat} (ha : a ≤ n) (hn : n ≤ Q.length) : akD n a (Q.drop a) = n - a := by
  unfold akD
  split
  · omega
  · exact dW_log hQ n _ a rfl ha hn
theorem akA_log {a n : Nat} (ha : a ≤ n) : akA n a = n := by
  unfold akA
  split
  · omega
  · rfl
/-- The server after an answer of the client. -/
theorem sv_step {Q : List Frm} (hQ : LogOk Q) {a c : Nat} (ha : a ≤ c) (hc : c ≤ Q.length) {x : Frm} (hx : x = akF 1 c ∨ x = akF 4 c) (V : List Int) (gl : Nat) :
    rvA x Q.length a = c ∧ rvD x Q.length a (Q.drop a) = c - a ∧ rvV x V = V ∧ rvG x V gl = gl ∧
      rvL x Q.length a (Q.drop a) = if x.k = 1 then akF 8 Q.length :: Q.drop c else [] := by
  have hl := hQ.len
  have hD := akD_log hQ ha hc
  have hA := akA_log ha
  have h1 : ¬ ((Q.length : Int) < c) := by omega
  have h2 : ¬ ((c : Int) < a) := by omega
  have h3 : c - a + a = c := by omega
  rcases hx with rfl | rfl
  · have h0 : chk (akF 1 c) = 0 := chk_ak (.inl rfl) (by omega)
    have k1 : (akF 1 c).k = 1 := rfl
    have k2 : (akF 1 c).a = c := rfl
    refine ⟨?_, ?_, ?_, ?_, ?_⟩
    · simp [rvA, opA, h0, k1, k2, h1, h2, hA]
    · simp [rvD, opD, h0, k1, k2, h1, h2, hD]
    · simp [rvV, h0, k1]
    · simp [rvG, h0, k1]
    · rw [if_pos k1]
      have h4 : (Q.drop a).drop (c - a) = Q.drop c := by rw [List.drop_drop, show a + (c - a) = c by omega]
      unfold rvL
      rw [if_neg (by rw [h0]; simp), if_pos k1]
      unfold opL
      rw [k2, if_neg h1, if_neg h2, hD, h4]
      rfl
  · have h0 : chk (akF 4 c) = 0 := chk_ak (.inr (.inl rfl)) (by omega)
    have k1 : (akF 4 c).k = 4 := rfl
    have k2 : (akF 4 c).a = c := rfl
    refine ⟨?_, ?_, ?_, ?_, ?_⟩
    · simp [rvA, h0, k1, k2, h1, hA]
    · simp [rvD, h0, k1, k2, h1, hD]
    · simp [rvV, h0, k1]
    · simp [rvG, h0, k1]
    · rw [if_neg (by rw [k1]; decide)]
      simp [rvL, h0, k1]
theorem way_more {Q : List Frm} (hQ : LogOk Q) (c : Nat) : ∀ f ∈ akF 8 Q.length :: Q.drop c, Way Q f := fun f hf => by
  have hl := hQ.len
  rcases List.mem_cons.1 hf with rfl | hf
  · exact .inr ⟨rfl, chk_ak (.inr (.inr rfl)) (by omega)⟩
  · exact .inl (List.mem_of_mem_drop hf)
end Go.Proofs.Ytdodiembhgjecaa
