/-
  The parts PcP of the proof, in one file. Conditions: none.
-/
import Derived.Test.YtpenniildabheaaPa46
namespace Go.Proofs.Ytpenniildabheaa
open Go.Eng
set_option linter.unusedVariables false
set_option linter.unusedSimpArgs false
set_option maxRecDepth 20000
set_option maxHeartbeats 4000000
inductive Stp where
  | mk (k : Int) (t : ByteArray) (v : Int) (n : Int)
deriving DecidableEq
def Stp.k : Stp → Int | .mk k _ _ _ => k
theorem Stp.k_mk (k : Int) (t : ByteArray) (v : Int) (n : Int) : (Stp.mk k t v n).k = k := rfl
def Stp.t : Stp → ByteArray | .mk _ t _ _ => t
theorem Stp.t_mk (k : Int) (t : ByteArray) (v : Int) (n : Int) : (Stp.mk k t v n).t = t := rfl
def Stp.v : Stp → Int | .mk _ _ v _ => v
theorem Stp.v_mk (k : Int) (t : ByteArray) (v : Int) (n : Int) : (Stp.mk k t v n).v = v := rfl
def Stp.n : Stp → Int | .mk _ _ _ n => n
theorem Stp.n_mk (k : Int) (t : ByteArray) (v : Int) (n : Int) : (Stp.mk k t v n).n = n := rfl
theorem Stp.ext {x y : Stp} (h0 : x.k = y.k) (h1 : x.t = y.t) (h2 : x.v = y.v) (h3 : x.n = y.n) : x = y := by cases x; cases y; simp only [Stp.k_mk, Stp.t_mk, Stp.v_mk, Stp.n_mk] at *; simp [*]
def stpC (x : Stp) : List AV := [.i .u8 x.k, .s x.t, .i .i64 x.v, .i .i64 x.n]
attribute [go_sem] stpC Stp.k_mk Stp.t_mk Stp.v_mk Stp.n_mk
attribute [grind =] Stp.k_mk Stp.t_mk Stp.v_mk Stp.n_mk
attribute [ext] Stp.ext
attribute [grind ext] Stp.ext
theorem texts_eq (l : List ByteArray) (hl : l.length ≤ 1000000) (hp : CH) (m : Nat) : MeetsF Try.prog 23 hp m [.ds (stC l), .ds (stC l)] (.b true) := by
  refine meetsF Try.func23 (by kernel_rfl) cc23 cr23 rfl fun hf => ?_; unfold ck23
  simp only [go_sem, ↓reduceIte, Nat.reduceEqDiff, Nat.reduceBEq, Nat.reduceAdd, Nat.reduceLeDiff, Nat.reduceLT, reduceCtorEq, Nat.reduceMul, Nat.reduceSub, Int.reduceEq, Int.reduceLT, Int.reduceLE, Int.reduceToNat]
  refine loop (fun q : Nat × Nat => ⟨[(0, .ds (stC l)), (1, .ds (stC l)), (5, .i .i64 q.1)], hp, q.2⟩) (fun q => q.1 ≤ l.length) (fun q => l.length - q.1) (0, m) ?_ ?_ (fun ⟨j, n⟩ hj => ?_)
  · simp
  · refine weak_ok ?_ (Sub.refl _) (Nat.le_refl _)
    simp only [go_sem, ↓reduceIte, Nat.reduceEqDiff, Nat.reduceBEq, Nat.reduceAdd, Nat.reduceLeDiff, Nat.reduceLT, reduceCtorEq, Nat.reduceMul, Nat.reduceSub, Int.reduceEq, Int.reduceLT, Int.reduceLE, Int.reduceToNat]
  dsimp only at hj
  simp (disch := omega) only [ite_ne, go_sem, ↓reduceIte, Nat.reduceEqDiff, Nat.reduceBEq, Nat.reduceAdd, Nat.reduceLeDiff, Nat.reduceLT, reduceCtorEq, Nat.reduceMul, Nat.reduceSub, Int.reduceEq, Int.reduceLT, Int.reduceLE, Int.reduceToNat]
  refine cdK_of (fun q => ?_) (fun q => ?_)
  · have q : j < l.length := by simpa using q
    obtain ⟨x, ex⟩ : ∃ x, l[j]? = some x := ⟨l[j], by simp [q]⟩
    simp (disch := omega) only [ite_ne, q, getK_s (mapC_get st1 ex), decide_true, go_sem, ↓reduceIte, Nat.reduceEqDiff, Nat.reduceBEq, Nat.reduceAdd, Nat.reduceLeDiff, Nat.reduceLT, reduceCtorEq, Nat.reduceMul, Nat.reduceSub, Int.reduceEq, Int.reduceLT, Int.reduceLE, Int.reduceToNat]
    refine ⟨(j + 1, _), by dsimp only; omega, by dsimp only; omega, weak_ok ?_ (Sub.refl _) (Nat.le_refl _)⟩
    simp (disch := omega) only [ite_ne, wr64s j (by omega), go_sem, ↓reduceIte, Nat.reduceEqDiff, Nat.reduceBEq, Nat.reduceAdd, Nat.reduceLeDiff, Nat.reduceLT, reduceCtorEq, Nat.reduceMul, Nat.reduceSub, Int.reduceEq, Int.reduceLT, Int.reduceLE, Int.reduceToNat]
  · simp only [go_sem, ↓reduceIte, Nat.reduceEqDiff, Nat.reduceBEq, Nat.reduceAdd, Nat.reduceLeDiff, Nat.reduceLT, reduceCtorEq, Nat.reduceMul, Nat.reduceSub, Int.reduceEq, Int.reduceLT, Int.reduceLE, Int.reduceToNat]
theorem ws3_lt {hp : CH} {n c kg g g0 r : Nat} {room h mi o : Int} {b : Bool} {L : List Ent} {cs ds : List AV} {l : List (List AV)} (hc : gc hp c = .bx cs) (hk : gc hp kg = .rw g0 3 l) (hr : gc hp r = .bx ds) : (∀ k, n ≤ k → gc hp k = .no) → wsLt n (pcW c kg g room h mi o b L ++ rcW r room h mi o b L) := fun hf => by
  obtain ⟨a1, a2, a3, a4, _⟩ := pcW_lt (n := n) (room := room) (h := h) (mi := mi) (o := o) (b := b) (L := L) (g := g) hc hk hf
  exact ⟨a1, a2, a3, a4, rcW_lt hr hf⟩
theorem up_ws3 {m c d e : Nat} {X Y Z : Chunk} {hp a : CH} (hcd : c ≠ d) (hce : c ≠ e) (hde : d ≠ e) (h1 : gc a c = X) (h2 : gc a d = Y) (h3 : gc a e = Z) (h4 : ∀ j, j < m → j ≠ c → j ≠ d → j ≠ e → gc a j = gc hp j) : Up m ((c, X) :: (d, Y) :: (e, Z) :: hp) a := fun j hj => by
  by_cases e1 : c = j
  · subst e1
    rw [gc_same]
    exact h1
  rw [gc_ne _ _ e1]
  by_cases e2 : d = j
  · subst e2
    rw [gc_same]
    exact h2
  rw [gc_ne _ _ e2]
  by_cases e3 : e = j
  · subst e3
    rw [gc_same]
    exact h3
  rw [gc_ne _ _ e3]
  exact h4 j hj (fun q => e1 q.symm) (fun q => e2 q.symm) (fun q => e3 q.symm)
section
variable (room h mi o : Int) (b : Bool) (L : List Ent) (k : Nat) (ci : CI room h mi L k) (hk60 : k ≤ 1000) (c kg g r : Nat) (hcr : c ≠ r) (hkr : kg ≠ r) (hp : CH) (hc : gc hp c = .bx [.i .i64 room, .rw kg g L.length, .i .i64 h, .i .i64 mi, .i .i64 o, .b b]) (hk : gc hp kg = .rw g 3 (mapC entC L)) (hr : gc hp r = .bx [.i .i64 room, .ds (mapC entC L), .i .i64 h, .i .i64 mi, .i .i64 o, .b b]) (m : Nat)
include hcr hkr ci hk60 hc hk hr
theorem step_miss (x : Stp) (hx : x.k.tmod 4 = 0) (hno : L.findIdx (qE x.t x.v) = L.length) : MeetsX Try.prog 16 hp m [.bx c 0, .bx r 0, .ag (stpC x)] ((pcW c kg g room h (mi + 1) o b L ++ rcW r room h (mi + 1) o b L) ++ hp) m (.b true) := by
  have n1 : c ≠ kg := fun e => by subst e; rw [hc] at hk; cases hk
  have n1' : ¬ kg = c := fun e => n1 e.symm
  have n2 := hcr
  have n3 := hkr
  have n2' : ¬ r = c := fun e => n2 e.symm
  have n3' : ¬ r = kg := fun e => n3 e.symm
  have hci := ci
  obtain ⟨c1, c2, c3, c4, c5, c6, c7⟩ := hci
  have hG := fun hp hc hk m => cget_no room h mi o b L ⟨c1, c2⟩ (by omega) c kg g hp hc hk m x.t x.v ⟨by omega, by omega⟩ hno
  have hR := fun hp hr m => rget_no room h mi o b L (by omega) r hp hr m x.t x.v ⟨by omega, by omega⟩ hno
  have hd : decide (x.k.tmod 4 = 0) = true := decide_eq_true hx
  have hWS := ws3_lt (n := m) (g := g) (room := room) (h := h) (mi := mi + 1) (o := o) (b := b) (L := L) hc hk hr
  simp only [stpC]
  refine meetsW Try.func16 (by kernel_rfl) cc16 cr16 rfl hWS fun hf => ?_; unfold ck16
  have hlt := bx_lt' hf hc
  have hlt2 := rw_lt hf hk
  have hlt3 := bx_lt' hf hr
  unfold pcW rcW at *
  simp (disch := omega) only [ite_ne, hd, go_sem, ↓reduceIte, Nat.reduceEqDiff, Nat.reduceBEq, Nat.reduceAdd, Nat.reduceLeDiff, Nat.reduceLT, reduceCtorEq, Nat.reduceMul, Nat.reduceSub, Int.reduceEq, Int.reduceLT, Int.reduceLE, Int.reduceToNat]
  refine vcCall.x (hG _ ?_ ?_ _) ?_
  · simp (disch := omega) only [ite_ne, hc, go_sem, ↓reduceIte, Nat.reduceEqDiff, Nat.reduceBEq, Nat.reduceAdd, Nat.reduceLeDiff, Nat.reduceLT, reduceCtorEq, Nat.reduceMul, Nat.reduceSub, Int.reduceEq, Int.reduceLT, Int.reduceLE, Int.reduceToNat]
  · simp (disch := omega) only [ite_ne, hk, go_sem, ↓reduceIte, Nat.reduceEqDiff, Nat.reduceBEq, Nat.reduceAdd, Nat.reduceLeDiff, Nat.reduceLT, reduceCtorEq, Nat.reduceMul, Nat.reduceSub, Int.reduceEq, Int.reduceLT, Int.reduceLE, Int.reduceToNat]
  simp (disch := omega) only [ite_ne, hc, hk, hr, n1, n2, n3, n1', n2', n3', List.cons_append, List.nil_append, go_sem, ↓reduceIte, Nat.reduceEqDiff, Nat.reduceBEq, Nat.reduceAdd, Nat.reduceLeDiff, Nat.reduceLT, reduceCtorEq, Nat.reduceMul, Nat.reduceSub, Int.reduceEq, Int.reduceLT, Int.reduceLE, Int.reduceToNat]
  refine vcCall.x (hR _ ?_ _) ?_
  · simp (disch := omega) only [ite_ne, hc, hk, hr, n1, n2, n3, n1', n2', n3', go_sem, ↓reduceIte, Nat.reduceEqDiff, Nat.reduceBEq, Nat.reduceAdd, Nat.reduceLeDiff, Nat.reduceLT, reduceCtorEq, Nat.reduceMul, Nat.reduceSub, Int.reduceEq, Int.reduceLT, Int.reduceLE, Int.reduceToNat]
  simp (disch := omega) only [ite_ne, hc, hk, hr, n1, n2, n3, n1', n2', n3', List.cons_append, List.nil_append, go_sem, ↓reduceIte, Nat.reduceEqDiff, Nat.reduceBEq, Nat.reduceAdd, Nat.reduceLeDiff, Nat.reduceLT, reduceCtorEq, Nat.reduceMul, Nat.reduceSub, Int.reduceEq, Int.reduceLT, Int.reduceLE, Int.reduceToNat]
  refine up_ws3 n1 n2 n3 ?_ ?_ ?_ (fun j q1 q2 q3 q4 => ?_)
  · first | ((simp (disch := omega) only [ite_ne, hc, hk, hr, n1, n2, n3, n1', n2', n3', go_sem, ↓reduceIte, Nat.reduceEqDiff, Nat.reduceBEq, Nat.reduceAdd, Nat.reduceLeDiff, Nat.reduceLT, reduceCtorEq, Nat.reduceMul, Nat.reduceSub, Int.reduceEq, Int.reduceLT, Int.reduceLE, Int.reduceToNat]); done) | (simp only [gc]; (simp (disch := omega) only [ite_ne, hc, hk, hr, n1, n2, n3, n1', n2', n3', go_sem, ↓reduceIte, Nat.reduceEqDiff, Nat.reduceBEq, Nat.reduceAdd, Nat.reduceLeDiff, Nat.reduceLT, reduceCtorEq, Nat.reduceMul, Nat.reduceSub, Int.reduceEq, Int.reduceLT, Int.reduceLE, Int.reduceToNat]))
  · first | ((simp (disch := omega) only [ite_ne, hc, hk, hr, n1, n2, n3, n1', n2', n3', go_sem, ↓reduceIte, Nat.reduceEqDiff, Nat.reduceBEq, Nat.reduceAdd, Nat.reduceLeDiff, Nat.reduceLT, reduceCtorEq, Nat.reduceMul, Nat.reduceSub, Int.reduceEq, Int.reduceLT, Int.reduceLE, Int.reduceToNat]); done) | (simp only [gc]; (simp (disch := omega) only [ite_ne, hc, hk, hr, n1, n2, n3, n1', n2', n3', go_sem, ↓reduceIte, Nat.reduceEqDiff, Nat.reduceBEq, Nat.reduceAdd, Nat.reduceLeDiff, Nat.reduceLT, reduceCtorEq, Nat.reduceMul, Nat.reduceSub, Int.reduceEq, Int.reduceLT, Int.reduceLE, Int.reduceToNat]))
  · first | ((simp (disch := omega) only [ite_ne, hc, hk, hr, n1, n2, n3, n1', n2', n3', go_sem, ↓reduceIte, Nat.reduceEqDiff, Nat.reduceBEq, Nat.reduceAdd, Nat.reduceLeDiff, Nat.reduceLT, reduceCtorEq, Nat.reduceMul, Nat.reduceSub, Int.reduceEq, Int.reduceLT, Int.reduceLE, Int.reduceToNat]); done) | (simp only [gc]; (simp (disch := omega) only [ite_ne, hc, hk, hr, n1, n2, n3, n1', n2', n3', go_sem, ↓reduceIte, Nat.reduceEqDiff, Nat.reduceBEq, Nat.reduceAdd, Nat.reduceLeDiff, Nat.reduceLT, reduceCtorEq, Nat.reduceMul, Nat.reduceSub, Int.reduceEq, Int.reduceLT, Int.reduceLE, Int.reduceToNat]))
  · first | rfl | (repeat rw [gc_ne _ _ (by omega)])
theorem step_hit (x : Stp) (hx : x.k.tmod 4 = 0) (y : Ent) (hy : L[L.findIdx (qE x.t x.v)]? = some y) : MeetsX Try.prog 16 hp m [.bx c 0, .bx r 0, .ag (stpC x)] ((pcW c kg (g + 1) room (h + 1) mi o b (putL room ⟨x.t, x.v, y.n⟩ (tkE x.t x.v L)) ++ rcW r room (h + 1) mi o b (putL room ⟨x.t, x.v, y.n⟩ (tkE x.t x.v L))) ++ hp) m (.b true) := by
  have n1 : c ≠ kg := fun e => by subst e; rw [hc] at hk; cases hk
  have n1' : ¬ kg = c := fun e => n1 e.symm
  have n2 := hcr
  have n3 := hkr
  have n2' : ¬ r = c := fun e => n2 e.symm
  have n3' : ¬ r = kg := fun e => n3 e.symm
  have hci := ci
  obtain ⟨c1, c2, c3, c4, c5, c6, c7⟩ := hci
  have hG := fun hp hc hk m => cget_yes room h mi o b L ⟨c1, c2⟩ (by omega) c kg g hp hc hk m x.t x.v y ⟨by omega, by omega⟩ hy
  have hR := fun hp hr m => rget_yes room h mi o b L (by omega) r hp hr m x.t x.v y _ ⟨by omega, by omega⟩ rfl hy
  rw [get_ref c7 c1 c6 hy] at hR
  have hd : decide (x.k.tmod 4 = 0) = true := decide_eq_true hx
  have hN := number_ok y.n
  obtain ⟨F, hF⟩ : ∃ F, putL room ⟨x.t, x.v, y.n⟩ (tkE x.t x.v L) = F := ⟨_, rfl⟩
  rw [hF] at hG hR ⊢
  have hWS := ws3_lt (n := m) (g := g + 1) (room := room) (h := h + 1) (mi := mi) (o := o) (b := b) (L := F) hc hk hr
  simp only [stpC]
  refine meetsW Try.func16 (by kernel_rfl) cc16 cr16 rfl hWS fun hf => ?_; unfold ck16
  have hlt := bx_lt' hf hc
  have hlt2 := rw_lt hf hk
  have hlt3 := bx_lt' hf hr
  unfold pcW rcW at *
  simp (disch := omega) only [ite_ne, hd, go_sem, ↓reduceIte, Nat.reduceEqDiff, Nat.reduceBEq, Nat.reduceAdd, Nat.reduceLeDiff, Nat.reduceLT, reduceCtorEq, Nat.reduceMul, Nat.reduceSub, Int.reduceEq, Int.reduceLT, Int.reduceLE, Int.reduceToNat]
  refine vcCall.x (hG _ ?_ ?_ _) ?_
  · simp (disch := omega) only [ite_ne, hc, go_sem, ↓reduceIte, Nat.reduceEqDiff, Nat.reduceBEq, Nat.reduceAdd, Nat.reduceLeDiff, Nat.reduceLT, reduceCtorEq, Nat.reduceMul, Nat.reduceSub, Int.reduceEq, Int.reduceLT, Int.reduceLE, Int.reduceToNat]
  · simp (disch := omega) only [ite_ne, hk, go_sem, ↓reduceIte, Nat.reduceEqDiff, Nat.reduceBEq, Nat.reduceAdd, Nat.reduceLeDiff, Nat.reduceLT, reduceCtorEq, Nat.reduceMul, Nat.reduceSub, Int.reduceEq, Int.reduceLT, Int.reduceLE, Int.reduceToNat]
  simp (disch := omega) only [ite_ne, hc, hk, hr, n1, n2, n3, n1', n2', n3', List.cons_append, List.nil_append, go_sem, ↓reduceIte, Nat.reduceEqDiff, Nat.reduceBEq, Nat.reduceAdd, Nat.reduceLeDiff, Nat.reduceLT, reduceCtorEq, Nat.reduceMul, Nat.reduceSub, Int.reduceEq, Int.reduceLT, Int.reduceLE, Int.reduceToNat]
  refine vcCall.x (hR _ ?_ _) ?_
  · simp (disch := omega) only [ite_ne, hc, hk, hr, n1, n2, n3, n1', n2', n3', go_sem, ↓reduceIte, Nat.reduceEqDiff, Nat.reduceBEq, Nat.reduceAdd, Nat.reduceLeDiff, Nat.reduceLT, reduceCtorEq, Nat.reduceMul, Nat.reduceSub, Int.reduceEq, Int.reduceLT, Int.reduceLE, Int.reduceToNat]
  simp (disch := omega) only [ite_ne, hc, hk, hr, n1, n2, n3, n1', n2', n3', List.cons_append, List.nil_append, go_sem, ↓reduceIte, Nat.reduceEqDiff, Nat.reduceBEq, Nat.reduceAdd, Nat.reduceLeDiff, Nat.reduceLT, reduceCtorEq, Nat.reduceMul, Nat.reduceSub, Int.reduceEq, Int.reduceLT, Int.reduceLE, Int.reduceToNat]
  refine vcCall.f (hN _ _) ?_
  simp (disch := omega) only [ite_ne, hc, hk, hr, n1, n2, n3, n1', n2', n3', List.cons_append, List.nil_append, go_sem, ↓reduceIte, Nat.reduceEqDiff, Nat.reduceBEq, Nat.reduceAdd, Nat.reduceLeDiff, Nat.reduceLT, reduceCtorEq, Nat.reduceMul, Nat.reduceSub, Int.reduceEq, Int.reduceLT, Int.reduceLE, Int.reduceToNat]
  refine vcCall.f (hN _ _) ?_
  simp (disch := omega) only [ite_ne, hc, hk, hr, n1, n2, n3, n1', n2', n3', List.cons_append, List.nil_append, decide_true, Bool.true_and, go_sem, ↓reduceIte, Nat.reduceEqDiff, Nat.reduceBEq, Nat.reduceAdd, Nat.reduceLeDiff, Nat.reduceLT, reduceCtorEq, Nat.reduceMul, Nat.reduceSub, Int.reduceEq, Int.reduceLT, Int.reduceLE, Int.reduceToNat]
  try refine ⟨?_, trivial⟩
  refine up_ws3 n1 n2 n3 ?_ ?_ ?_ (fun j q1 q2 q3 q4 => ?_)
  · first | ((simp (disch := omega) only [ite_ne, hc, hk, hr, n1, n2, n3, n1', n2', n3', go_sem, ↓reduceIte, Nat.reduceEqDiff, Nat.reduceBEq, Nat.reduceAdd, Nat.reduceLeDiff, Nat.reduceLT, reduceCtorEq, Nat.reduceMul, Nat.reduceSub, Int.reduceEq, Int.reduceLT, Int.reduceLE, Int.reduceToNat]); done) | (simp only [gc]; (simp (disch := omega) only [ite_ne, hc, hk, hr, n1, n2, n3, n1', n2', n3', go_sem, ↓reduceIte, Nat.reduceEqDiff, Nat.reduceBEq, Nat.reduceAdd, Nat.reduceLeDiff, Nat.reduceLT, reduceCtorEq, Nat.reduceMul, Nat.reduceSub, Int.reduceEq, Int.reduceLT, Int.reduceLE, Int.reduceToNat]))
  · first | ((simp (disch := omega) only [ite_ne, hc, hk, hr, n1, n2, n3, n1', n2', n3', go_sem, ↓reduceIte, Nat.reduceEqDiff, Nat.reduceBEq, Nat.reduceAdd, Nat.reduceLeDiff, Nat.reduceLT, reduceCtorEq, Nat.reduceMul, Nat.reduceSub, Int.reduceEq, Int.reduceLT, Int.reduceLE, Int.reduceToNat]); done) | (simp only [gc]; (simp (disch := omega) only [ite_ne, hc, hk, hr, n1, n2, n3, n1', n2', n3', go_sem, ↓reduceIte, Nat.reduceEqDiff, Nat.reduceBEq, Nat.reduceAdd, Nat.reduceLeDiff, Nat.reduceLT, reduceCtorEq, Nat.reduceMul, Nat.reduceSub, Int.reduceEq, Int.reduceLT, Int.reduceLE, Int.reduceToNat]))
  · first | ((simp (disch := omega) only [ite_ne, hc, hk, hr, n1, n2, n3, n1', n2', n3', go_sem, ↓reduceIte, Nat.reduceEqDiff, Nat.reduceBEq, Nat.reduceAdd, Nat.reduceLeDiff, Nat.reduceLT, reduceCtorEq, Nat.reduceMul, Nat.reduceSub, Int.reduceEq, Int.reduceLT, Int.reduceLE, Int.reduceToNat]); done) | (simp only [gc]; (simp (disch := omega) only [ite_ne, hc, hk, hr, n1, n2, n3, n1', n2', n3', go_sem, ↓reduceIte, Nat.reduceEqDiff, Nat.reduceBEq, Nat.reduceAdd, Nat.reduceLeDiff, Nat.reduceLT, reduceCtorEq, Nat.reduceMul, Nat.reduceSub, Int.reduceEq, Int.reduceLT, Int.reduceLE, Int.reduceToNat]))
  · first | rfl | (repeat rw [gc_ne _ _ (by omega)])
theorem step_drop (x : Stp) (hx : x.k.tmod 4 = 3) (hx2 : x.n.tmod 2 = 0) : MeetsX Try.prog 16 hp m [.bx c 0, .bx r 0, .ag (stpC x)] ((pcW c kg g room h mi (drO x.v o b) true (drL x.v L) ++ rcW r room h mi (drO x.v o b) true (drL x.v L)) ++ hp) m (.b true) := by
  have u0 := hk60
  have n1 : c ≠ kg := fun e => by subst e; rw [hc] at hk; cases hk
  have n1' : ¬ kg = c := fun e => n1 e.symm
  have n2 := hcr
  have n3 := hkr
  have n2' : ¬ r = c := fun e => n2 e.symm
  have n3' : ¬ r = kg := fun e => n3 e.symm
  have hci := ci
  obtain ⟨c1, c2, c3, c4, c5, c6, c7⟩ := hci
  have hG := fun hp hc hk m => cdrop_ok room h mi o b L ⟨c1, c2⟩ (by omega) c kg g hp hc hk m x.v
  have hR := fun hp hr m => rdrop_ok room h mi o b L (by omega) r hp hr m x.v
  have hd : decide (x.k.tmod 4 = 0) = false := decide_eq_false (by omega)
  have hd3 : decide (x.k.tmod 4 = 3) = true := decide_eq_true hx
  have hd2 : decide (x.n.tmod 2 = 0) = true := decide_eq_true hx2
  obtain ⟨F, hF⟩ : ∃ F, drL x.v L = F := ⟨_, rfl⟩
  obtain ⟨O, hO⟩ : ∃ O, drO x.v o b = O := ⟨_, rfl⟩
  rw [hF, hO] at hG hR ⊢
  have hWS := ws3_lt (n := m) (g := g) (room := room) (h := h) (mi := mi) (o := O) (b := true) (L := F) hc hk hr
  simp only [stpC]
  refine meetsW Try.func16 (by kernel_rfl) cc16 cr16 rfl hWS fun hf => ?_; unfold ck16
  have hlt := bx_lt' hf hc
  have hlt2 := rw_lt hf hk
  have hlt3 := bx_lt' hf hr
  unfold pcW rcW at *
  simp (disch := omega) only [ite_ne, hd, hd3, hd2, go_sem, ↓reduceIte, Nat.reduceEqDiff, Nat.reduceBEq, Nat.reduceAdd, Nat.reduceLeDiff, Nat.reduceLT, reduceCtorEq, Nat.reduceMul, Nat.reduceSub, Int.reduceEq, Int.reduceLT, Int.reduceLE, Int.reduceToNat]
  refine dCallR.w (ws := [(c, .bx [.i .i64 room, .rw kg g F.length, .i .i64 h, .i .i64 mi, .i .i64 O, .b true]), (kg, .rw g 3 (mapC entC F))]) ?_ rfl (fun hp' e => hG hp' ((e c (.inl (by omega))).trans (by (simp (disch := omega) only [ite_ne, hc, hk, n1, n1', go_sem, ↓reduceIte, Nat.reduceEqDiff, Nat.reduceBEq, Nat.reduceAdd, Nat.reduceLeDiff, Nat.reduceLT, reduceCtorEq, Nat.reduceMul, Nat.reduceSub, Int.reduceEq, Int.reduceLT, Int.reduceLE, Int.reduceToNat]))) ((e kg (.inl (by omega))).trans (by (simp (disch := omega) only [ite_ne, hc, hk, n1, n1', go_sem, ↓reduceIte, Nat.reduceEqDiff, Nat.reduceBEq, Nat.reduceAdd, Nat.reduceLeDiff, Nat.reduceLT, reduceCtorEq, Nat.reduceMul, Nat.reduceSub, Int.reduceEq, Int.reduceLT, Int.reduceLE, Int.reduceToNat]))) _) ?_
  · simp (disch := omega) only [ite_ne, hc, hk, n1, n1', keys, List.map_cons, List.map_nil, hlt, hlt2, go_sem, ↓reduceIte, Nat.reduceEqDiff, Nat.reduceBEq, Nat.reduceAdd, Nat.reduceLeDiff, Nat.reduceLT, reduceCtorEq, Nat.reduceMul, Nat.reduceSub, Int.reduceEq, Int.reduceLT, Int.reduceLE, Int.reduceToNat]
    try simp
  simp (disch := omega) only [ite_ne, hc, hk, hr, n1, n2, n3, n1', n2', n3', List.cons_append, List.nil_append, go_sem, ↓reduceIte, Nat.reduceEqDiff, Nat.reduceBEq, Nat.reduceAdd, Nat.reduceLeDiff, Nat.reduceLT, reduceCtorEq, Nat.reduceMul, Nat.reduceSub, Int.reduceEq, Int.reduceLT, Int.reduceLE, Int.reduceToNat]
  refine ⟨⟨by omega, by omega⟩, ?_⟩
  refine dCallR.w (ws := [(r, .bx [.i .i64 room, .ds (mapC entC F), .i .i64 h, .i .i64 mi, .i .i64 O, .b true])]) ?_ rfl (fun hp' e => hR hp' ((e r (.inl (by omega))).trans (by (simp (disch := omega) only [ite_ne, hc, hk, hr, n1, n2, n3, n1', n2', n3', go_sem, ↓reduceIte, Nat.reduceEqDiff, Nat.reduceBEq, Nat.reduceAdd, Nat.reduceLeDiff, Nat.reduceLT, reduceCtorEq, Nat.reduceMul, Nat.reduceSub, Int.reduceEq, Int.reduceLT, Int.reduceLE, Int.reduceToNat]))) _) ?_
  · simp (disch := omega) only [ite_ne, hc, hk, hr, n1, n2, n3, n1', n2', n3', keys, List.map_cons, List.map_nil, hlt3, go_sem, ↓reduceIte, Nat.reduceEqDiff, Nat.reduceBEq, Nat.reduceAdd, Nat.reduceLeDiff, Nat.reduceLT, reduceCtorEq, Nat.reduceMul, Nat.reduceSub, Int.reduceEq, Int.reduceLT, Int.reduceLE, Int.reduceToNat]
    try simp
  simp (disch := omega) only [ite_ne, hc, hk, hr, n1, n2, n3, n1', n2', n3', List.cons_append, List.nil_append, decide_true, go_sem, ↓reduceIte, Nat.reduceEqDiff, Nat.reduceBEq, Nat.reduceAdd, Nat.reduceLeDiff, Nat.reduceLT, reduceCtorEq, Nat.reduceMul, Nat.reduceSub, Int.reduceEq, Int.reduceLT, Int.reduceLE, Int.reduceToNat]
  refine up_ws3 n1 n2 n3 ?_ ?_ ?_ (fun j q1 q2 q3 q4 => ?_)
  · first | ((simp (disch := omega) only [ite_ne, hc, hk, hr, n1, n2, n3, n1', n2', n3', go_sem, ↓reduceIte, Nat.reduceEqDiff, Nat.reduceBEq, Nat.reduceAdd, Nat.reduceLeDiff, Nat.reduceLT, reduceCtorEq, Nat.reduceMul, Nat.reduceSub, Int.reduceEq, Int.reduceLT, Int.reduceLE, Int.reduceToNat]); done) | (simp only [gc]; (simp (disch := omega) only [ite_ne, hc, hk, hr, n1, n2, n3, n1', n2', n3', go_sem, ↓reduceIte, Nat.reduceEqDiff, Nat.reduceBEq, Nat.reduceAdd, Nat.reduceLeDiff, Nat.reduceLT, reduceCtorEq, Nat.reduceMul, Nat.reduceSub, Int.reduceEq, Int.reduceLT, Int.reduceLE, Int.reduceToNat]))
  · first | ((simp (disch := omega) only [ite_ne, hc, hk, hr, n1, n2, n3, n1', n2', n3', go_sem, ↓reduceIte, Nat.reduceEqDiff, Nat.reduceBEq, Nat.reduceAdd, Nat.reduceLeDiff, Nat.reduceLT, reduceCtorEq, Nat.reduceMul, Nat.reduceSub, Int.reduceEq, Int.reduceLT, Int.reduceLE, Int.reduceToNat]); done) | (simp only [gc]; (simp (disch := omega) only [ite_ne, hc, hk, hr, n1, n2, n3, n1', n2', n3', go_sem, ↓reduceIte, Nat.reduceEqDiff, Nat.reduceBEq, Nat.reduceAdd, Nat.reduceLeDiff, Nat.reduceLT, reduceCtorEq, Nat.reduceMul, Nat.reduceSub, Int.reduceEq, Int.reduceLT, Int.reduceLE, Int.reduceToNat]))
  · first | ((simp (disch := omega) only [ite_ne, hc, hk, hr, n1, n2, n3, n1', n2', n3', go_sem, ↓reduceIte, Nat.reduceEqDiff, Nat.reduceBEq, Nat.reduceAdd, Nat.reduceLeDiff, Nat.reduceLT, reduceCtorEq, Nat.reduceMul, Nat.reduceSub, Int.reduceEq, Int.reduceLT, Int.reduceLE, Int.reduceToNat]); done) | (simp only [gc]; (simp (disch := omega) only [ite_ne, hc, hk, hr, n1, n2, n3, n1', n2', n3', go_sem, ↓reduceIte, Nat.reduceEqDiff, Nat.reduceBEq, Nat.reduceAdd, Nat.reduceLeDiff, Nat.reduceLT, reduceCtorEq, Nat.reduceMul, Nat.reduceSub, Int.reduceEq, Int.reduceLT, Int.reduceLE, Int.reduceToNat]))
  · first | rfl | (repeat rw [gc_ne _ _ (by omega)])
theorem step_put (x : Stp) (hx : ¬ x.k.tmod 4 = 0) (hx2 : ¬ (x.k.tmod 4 = 3 ∧ x.n.tmod 2 = 0)) (hok : b = false ∨ o ≤ x.v) : MeetsX Try.prog 16 hp m [.bx c 0, .bx r 0, .ag (stpC x)] ((pcW c kg (g + 1) room h mi o b (putL room ⟨x.t, x.v, x.n⟩ L) ++ rcW r room h mi o b (putL room ⟨x.t, x.v, x.n⟩ L)) ++ hp) m (.b true) := by
  have u0 := hk60
  have n1 : c ≠ kg := fun e => by subst e; rw [hc] at hk; cases hk
  have n1' : ¬ kg = c := fun e => n1 e.symm
  have n2 := hcr
  have n3 := hkr
  have n2' : ¬ r = c := fun e => n2 e.symm
  have n3' : ¬ r = kg := fun e => n3 e.symm
  have hci := ci
  obtain ⟨c1, c2, c3, c4, c5, c6, c7⟩ := hci
  have hG := fun hp hc hk m => cput_ok room h mi o b L ⟨c1, c2⟩ (by omega) c kg g hp hc hk m x.t x.v x.n hok
  have hR := fun hp hr m => rput_ok room h mi o b L (by omega) r hp hr m x.t x.v x.n hok
  rw [put_ref c7 c1 c6] at hR
  have hd : decide (x.k.tmod 4 = 0) = false := decide_eq_false hx
  obtain ⟨F, hF⟩ : ∃ F, putL room ⟨x.t, x.v, x.n⟩ L = F := ⟨_, rfl⟩
  rw [hF] at hG hR ⊢
  have hWS := ws3_lt (n := m) (g := g + 1) (room := room) (h := h) (mi := mi) (o := o) (b := b) (L := F) hc hk hr
  simp only [stpC]
  refine meetsW Try.func16 (by kernel_rfl) cc16 cr16 rfl hWS fun hf => ?_; unfold ck16
  have hlt := bx_lt' hf hc
  have hlt2 := rw_lt hf hk
  have hlt3 := bx_lt' hf hr
  unfold pcW rcW at *
  by_cases q : x.k.tmod 4 = 3
  · have hd3 : decide (x.k.tmod 4 = 3) = true := decide_eq_true q
    have hd2 : decide (x.n.tmod 2 = 0) = false := decide_eq_false fun e => hx2 ⟨q, e⟩
    simp (disch := omega) only [ite_ne, hd, hd3, hd2, go_sem, ↓reduceIte, Nat.reduceEqDiff, Nat.reduceBEq, Nat.reduceAdd, Nat.reduceLeDiff, Nat.reduceLT, reduceCtorEq, Nat.reduceMul, Nat.reduceSub, Int.reduceEq, Int.reduceLT, Int.reduceLE, Int.reduceToNat]
    refine dCallR.f (fun _ hp' e => plans_ok _ _ _) ?_
    simp (disch := omega) only [ite_ne, hc, hk, hr, go_sem, ↓reduceIte, Nat.reduceEqDiff, Nat.reduceBEq, Nat.reduceAdd, Nat.reduceLeDiff, Nat.reduceLT, reduceCtorEq, Nat.reduceMul, Nat.reduceSub, Int.reduceEq, Int.reduceLT, Int.reduceLE, Int.reduceToNat]
    refine dCallR.w (ws := [(c, .bx [.i .i64 room, .rw kg (g + 1) F.length, .i .i64 h, .i .i64 mi, .i .i64 o, .b b]), (kg, .rw (g + 1) 3 (mapC entC F))]) ?_ rfl (fun hp' e => hG hp' ((e c (.inl (by omega))).trans (by (simp (disch := omega) only [ite_ne, hc, hk, n1, n1', go_sem, ↓reduceIte, Nat.reduceEqDiff, Nat.reduceBEq, Nat.reduceAdd, Nat.reduceLeDiff, Nat.reduceLT, reduceCtorEq, Nat.reduceMul, Nat.reduceSub, Int.reduceEq, Int.reduceLT, Int.reduceLE, Int.reduceToNat]))) ((e kg (.inl (by omega))).trans (by (simp (disch := omega) only [ite_ne, hc, hk, n1, n1', go_sem, ↓reduceIte, Nat.reduceEqDiff, Nat.reduceBEq, Nat.reduceAdd, Nat.reduceLeDiff, Nat.reduceLT, reduceCtorEq, Nat.reduceMul, Nat.reduceSub, Int.reduceEq, Int.reduceLT, Int.reduceLE, Int.reduceToNat]))) _) ?_
    · simp (disch := omega) only [ite_ne, hc, hk, n1, n1', keys, List.map_cons, List.map_nil, hlt, hlt2, go_sem, ↓reduceIte, Nat.reduceEqDiff, Nat.reduceBEq, Nat.reduceAdd, Nat.reduceLeDiff, Nat.reduceLT, reduceCtorEq, Nat.reduceMul, Nat.reduceSub, Int.reduceEq, Int.reduceLT, Int.reduceLE, Int.reduceToNat]
      try simp
    simp (disch := omega) only [ite_ne, hc, hk, hr, n1, n2, n3, n1', n2', n3', List.cons_append, List.nil_append, go_sem, ↓reduceIte, Nat.reduceEqDiff, Nat.reduceBEq, Nat.reduceAdd, Nat.reduceLeDiff, Nat.reduceLT, reduceCtorEq, Nat.reduceMul, Nat.reduceSub, Int.reduceEq, Int.reduceLT, Int.reduceLE, Int.reduceToNat]
    refine ⟨⟨by omega, by omega⟩, ⟨by omega, by omega⟩, ⟨by omega, by omega⟩, dCallR.f (fun _ hp' e => plans_ok _ _ _) ?_⟩
    simp (disch := omega) only [ite_ne, hc, hk, hr, n1, n2, n3, n1', n2', n3', List.cons_append, List.nil_append, go_sem, ↓reduceIte, Nat.reduceEqDiff, Nat.reduceBEq, Nat.reduceAdd, Nat.reduceLeDiff, Nat.reduceLT, reduceCtorEq, Nat.reduceMul, Nat.reduceSub, Int.reduceEq, Int.reduceLT, Int.reduceLE, Int.reduceToNat]
    refine dCallR.w (ws := [(r, .bx [.i .i64 room, .ds (mapC entC F), .i .i64 h, .i .i64 mi, .i .i64 o, .b b])]) ?_ rfl (fun hp' e => hR hp' ((e r (.inl (by omega))).trans (by (simp (disch := omega) only [ite_ne, hc, hk, hr, n1, n2, n3, n1', n2', n3', go_sem, ↓reduceIte, Nat.reduceEqDiff, Nat.reduceBEq, Nat.reduceAdd, Nat.reduceLeDiff, Nat.reduceLT, reduceCtorEq, Nat.reduceMul, Nat.reduceSub, Int.reduceEq, Int.reduceLT, Int.reduceLE, Int.reduceToNat]))) _) ?_
    · simp (disch := omega) only [ite_ne, hc, hk, hr, n1, n2, n3, n1', n2', n3', keys, List.map_cons, List.map_nil, hlt3, go_sem, ↓reduceIte, Nat.reduceEqDiff, Nat.reduceBEq, Nat.reduceAdd, Nat.reduceLeDiff, Nat.reduceLT, reduceCtorEq, Nat.reduceMul, Nat.reduceSub, Int.reduceEq, Int.reduceLT, Int.reduceLE, Int.reduceToNat]
      try simp
    simp (disch := omega) only [ite_ne, hc, hk, hr, n1, n2, n3, n1', n2', n3', List.cons_append, List.nil_append, decide_true, go_sem, ↓reduceIte, Nat.reduceEqDiff, Nat.reduceBEq, Nat.reduceAdd, Nat.reduceLeDiff, Nat.reduceLT, reduceCtorEq, Nat.reduceMul, Nat.reduceSub, Int.reduceEq, Int.reduceLT, Int.reduceLE, Int.reduceToNat]
    refine up_ws3 n1 n2 n3 ?_ ?_ ?_ (fun j q1 q2 q3 q4 => ?_)
    · first | ((simp (disch := omega) only [ite_ne, hc, hk, hr, n1, n2, n3, n1', n2', n3', go_sem, ↓reduceIte, Nat.reduceEqDiff, Nat.reduceBEq, Nat.reduceAdd, Nat.reduceLeDiff, Nat.reduceLT, reduceCtorEq, Nat.reduceMul, Nat.reduceSub, Int.reduceEq, Int.reduceLT, Int.reduceLE, Int.reduceToNat]); done) | (simp only [gc]; (simp (disch := omega) only [ite_ne, hc, hk, hr, n1, n2, n3, n1', n2', n3', go_sem, ↓reduceIte, Nat.reduceEqDiff, Nat.reduceBEq, Nat.reduceAdd, Nat.reduceLeDiff, Nat.reduceLT, reduceCtorEq, Nat.reduceMul, Nat.reduceSub, Int.reduceEq, Int.reduceLT, Int.reduceLE, Int.reduceToNat]))
    · first | ((simp (disch := omega) only [ite_ne, hc, hk, hr, n1, n2, n3, n1', n2', n3', go_sem, ↓reduceIte, Nat.reduceEqDiff, Nat.reduceBEq, Nat.reduceAdd, Nat.reduceLeDiff, Nat.reduceLT, reduceCtorEq, Nat.reduceMul, Nat.reduceSub, Int.reduceEq, Int.reduceLT, Int.reduceLE, Int.reduceToNat]); done) | (simp only [gc]; (simp (disch := omega) only [ite_ne, hc, hk, hr, n1, n2, n3, n1', n2', n3', go_sem, ↓reduceIte, Nat.reduceEqDiff, Nat.reduceBEq, Nat.reduceAdd, Nat.reduceLeDiff, Nat.reduceLT, reduceCtorEq, Nat.reduceMul, Nat.reduceSub, Int.reduceEq, Int.reduceLT, Int.reduceLE, Int.reduceToNat]))
    · first | ((simp (disch := omega) only [ite_ne, hc, hk, hr, n1, n2, n3, n1', n2', n3', go_sem, ↓reduceIte, Nat.reduceEqDiff, Nat.reduceBEq, Nat.reduceAdd, Nat.reduceLeDiff, Nat.reduceLT, reduceCtorEq, Nat.reduceMul, Nat.reduceSub, Int.reduceEq, Int.reduceLT, Int.reduceLE, Int.reduceToNat]); done) | (simp only [gc]; (simp (disch := omega) only [ite_ne, hc, hk, hr, n1, n2, n3, n1', n2', n3', go_sem, ↓reduceIte, Nat.reduceEqDiff, Nat.reduceBEq, Nat.reduceAdd, Nat.reduceLeDiff, Nat.reduceLT, reduceCtorEq, Nat.reduceMul, Nat.reduceSub, Int.reduceEq, Int.reduceLT, Int.reduceLE, Int.reduceToNat]))
    · first | rfl | (repeat rw [gc_ne _ _ (by omega)])
  · have hd3 : decide (x.k.tmod 4 = 3) = false := decide_eq_false q
    simp (disch := omega) only [ite_ne, hd, hd3, go_sem, ↓reduceIte, Nat.reduceEqDiff, Nat.reduceBEq, Nat.reduceAdd, Nat.reduceLeDiff, Nat.reduceLT, reduceCtorEq, Nat.reduceMul, Nat.reduceSub, Int.reduceEq, Int.reduceLT, Int.reduceLE, Int.reduceToNat]
    refine dCallR.f (fun _ hp' e => plans_ok _ _ _) ?_
    simp (disch := omega) only [ite_ne, hc, hk, hr, go_sem, ↓reduceIte, Nat.reduceEqDiff, Nat.reduceBEq, Nat.reduceAdd, Nat.reduceLeDiff, Nat.reduceLT, reduceCtorEq, Nat.reduceMul, Nat.reduceSub, Int.reduceEq, Int.reduceLT, Int.reduceLE, Int.reduceToNat]
    refine dCallR.w (ws := [(c, .bx [.i .i64 room, .rw kg (g + 1) F.length, .i .i64 h, .i .i64 mi, .i .i64 o, .b b]), (kg, .rw (g + 1) 3 (mapC entC F))]) ?_ rfl (fun hp' e => hG hp' ((e c (.inl (by omega))).trans (by (simp (disch := omega) only [ite_ne, hc, hk, n1, n1', go_sem, ↓reduceIte, Nat.reduceEqDiff, Nat.reduceBEq, Nat.reduceAdd, Nat.reduceLeDiff, Nat.reduceLT, reduceCtorEq, Nat.reduceMul, Nat.reduceSub, Int.reduceEq, Int.reduceLT, Int.reduceLE, Int.reduceToNat]))) ((e kg (.inl (by omega))).trans (by (simp (disch := omega) only [ite_ne, hc, hk, n1, n1', go_sem, ↓reduceIte, Nat.reduceEqDiff, Nat.reduceBEq, Nat.reduceAdd, Nat.reduceLeDiff, Nat.reduceLT, reduceCtorEq, Nat.reduceMul, Nat.reduceSub, Int.reduceEq, Int.reduceLT, Int.reduceLE, Int.reduceToNat]))) _) ?_
    · simp (disch := omega) only [ite_ne, hc, hk, n1, n1', keys, List.map_cons, List.map_nil, hlt, hlt2, go_sem, ↓reduceIte, Nat.reduceEqDiff, Nat.reduceBEq, Nat.reduceAdd, Nat.reduceLeDiff, Nat.reduceLT, reduceCtorEq, Nat.reduceMul, Nat.reduceSub, Int.reduceEq, Int.reduceLT, Int.reduceLE, Int.reduceToNat]
      try simp
    simp (disch := omega) only [ite_ne, hc, hk, hr, n1, n2, n3, n1', n2', n3', List.cons_append, List.nil_append, go_sem, ↓reduceIte, Nat.reduceEqDiff, Nat.reduceBEq, Nat.reduceAdd, Nat.reduceLeDiff, Nat.reduceLT, reduceCtorEq, Nat.reduceMul, Nat.reduceSub, Int.reduceEq, Int.reduceLT, Int.reduceLE, Int.reduceToNat]
    refine ⟨⟨by omega, by omega⟩, ⟨by omega, by omega⟩, ⟨by omega, by omega⟩, dCallR.f (fun _ hp' e => plans_ok _ _ _) ?_⟩
    simp (disch := omega) only [ite_ne, hc, hk, hr, n1, n2, n3, n1', n2', n3', List.cons_append, List.nil_append, go_sem, ↓reduceIte, Nat.reduceEqDiff, Nat.reduceBEq, Nat.reduceAdd, Nat.reduceLeDiff, Nat.reduceLT, reduceCtorEq, Nat.reduceMul, Nat.reduceSub, Int.reduceEq, Int.reduceLT, Int.reduceLE, Int.reduceToNat]
    refine dCallR.w (ws := [(r, .bx [.i .i64 room, .ds (mapC entC F), .i .i64 h, .i .i64 mi, .i .i64 o, .b b])]) ?_ rfl (fun hp' e => hR hp' ((e r (.inl (by omega))).trans (by (simp (disch := omega) only [ite_ne, hc, hk, hr, n1, n2, n3, n1', n2', n3', go_sem, ↓reduceIte, Nat.reduceEqDiff, Nat.reduceBEq, Nat.reduceAdd, Nat.reduceLeDiff, Nat.reduceLT, reduceCtorEq, Nat.reduceMul, Nat.reduceSub, Int.reduceEq, Int.reduceLT, Int.reduceLE, Int.reduceToNat]))) _) ?_
    · simp (disch := omega) only [ite_ne, hc, hk, hr, n1, n2, n3, n1', n2', n3', keys, List.map_cons, List.map_nil, hlt3, go_sem, ↓reduceIte, Nat.reduceEqDiff, Nat.reduceBEq, Nat.reduceAdd, Nat.reduceLeDiff, Nat.reduceLT, reduceCtorEq, Nat.reduceMul, Nat.reduceSub, Int.reduceEq, Int.reduceLT, Int.reduceLE, Int.reduceToNat]
      try simp
    simp (disch := omega) only [ite_ne, hc, hk, hr, n1, n2, n3, n1', n2', n3', List.cons_append, List.nil_append, decide_true, go_sem, ↓reduceIte, Nat.reduceEqDiff, Nat.reduceBEq, Nat.reduceAdd, Nat.reduceLeDiff, Nat.reduceLT, reduceCtorEq, Nat.reduceMul, Nat.reduceSub, Int.reduceEq, Int.reduceLT, Int.reduceLE, Int.reduceToNat]
    refine up_ws3 n1 n2 n3 ?_ ?_ ?_ (fun j q1 q2 q3 q4 => ?_)
    · first | ((simp (disch := omega) only [ite_ne, hc, hk, hr, n1, n2, n3, n1', n2', n3', go_sem, ↓reduceIte, Nat.reduceEqDiff, Nat.reduceBEq, Nat.reduceAdd, Nat.reduceLeDiff, Nat.reduceLT, reduceCtorEq, Nat.reduceMul, Nat.reduceSub, Int.reduceEq, Int.reduceLT, Int.reduceLE, Int.reduceToNat]); done) | (simp only [gc]; (simp (disch := omega) only [ite_ne, hc, hk, hr, n1, n2, n3, n1', n2', n3', go_sem, ↓reduceIte, Nat.reduceEqDiff, Nat.reduceBEq, Nat.reduceAdd, Nat.reduceLeDiff, Nat.reduceLT, reduceCtorEq, Nat.reduceMul, Nat.reduceSub, Int.reduceEq, Int.reduceLT, Int.reduceLE, Int.reduceToNat]))
    · first | ((simp (disch := omega) only [ite_ne, hc, hk, hr, n1, n2, n3, n1', n2', n3', go_sem, ↓reduceIte, Nat.reduceEqDiff, Nat.reduceBEq, Nat.reduceAdd, Nat.reduceLeDiff, Nat.reduceLT, reduceCtorEq, Nat.reduceMul, Nat.reduceSub, Int.reduceEq, Int.reduceLT, Int.reduceLE, Int.reduceToNat]); done) | (simp only [gc]; (simp (disch := omega) only [ite_ne, hc, hk, hr, n1, n2, n3, n1', n2', n3', go_sem, ↓reduceIte, Nat.reduceEqDiff, Nat.reduceBEq, Nat.reduceAdd, Nat.reduceLeDiff, Nat.reduceLT, reduceCtorEq, Nat.reduceMul, Nat.reduceSub, Int.reduceEq, Int.reduceLT, Int.reduceLE, Int.reduceToNat]))
    · first | ((simp (disch := omega) only [ite_ne, hc, hk, hr, n1, n2, n3, n1', n2', n3', go_sem, ↓reduceIte, Nat.reduceEqDiff, Nat.reduceBEq, Nat.reduceAdd, Nat.reduceLeDiff, Nat.reduceLT, reduceCtorEq, Nat.reduceMul, Nat.reduceSub, Int.reduceEq, Int.reduceLT, Int.reduceLE, Int.reduceToNat]); done) | (simp only [gc]; (simp (disch := omega) only [ite_ne, hc, hk, hr, n1, n2, n3, n1', n2', n3', go_sem, ↓reduceIte, Nat.reduceEqDiff, Nat.reduceBEq, Nat.reduceAdd, Nat.reduceLeDiff, Nat.reduceLT, reduceCtorEq, Nat.reduceMul, Nat.reduceSub, Int.reduceEq, Int.reduceLT, Int.reduceLE, Int.reduceToNat]))
    · first | rfl | (repeat rw [gc_ne _ _ (by omega)])
theorem step_stale (x : Stp) (hx : ¬ x.k.tmod 4 = 0) (hx2 : ¬ (x.k.tmod 4 = 3 ∧ x.n.tmod 2 = 0)) (hb : b = true) (hv : x.v < o) : MeetsX Try.prog 16 hp m [.bx c 0, .bx r 0, .ag (stpC x)] ((pcW c kg g room h mi o b L ++ rcW r room h mi o b L) ++ hp) m (.b true) := by
  have u0 := hk60
  have n1 : c ≠ kg := fun e => by subst e; rw [hc] at hk; cases hk
  have n1' : ¬ kg = c := fun e => n1 e.symm
  have n2 := hcr
  have n3 := hkr
  have n2' : ¬ r = c := fun e => n2 e.symm
  have n3' : ¬ r = kg := fun e => n3 e.symm
  have hci := ci
  obtain ⟨c1, c2, c3, c4, c5, c6, c7⟩ := hci
  have hG := fun hp hc hk m => cput_no room h mi o b L ⟨c1, c2⟩ (by omega) c kg g hp hc hk m x.t x.v (.ds [planC x.n]) hb hv
  have hR := fun hp hr m => rput_no room h mi o b L (by omega) r hp hr m x.t x.v (.ds [planC x.n]) hb hv
  have hd : decide (x.k.tmod 4 = 0) = false := decide_eq_false hx
  have hWS := ws3_lt (n := m) (g := g) (room := room) (h := h) (mi := mi) (o := o) (b := b) (L := L) hc hk hr
  simp only [stpC]
  refine meetsW Try.func16 (by kernel_rfl) cc16 cr16 rfl hWS fun hf => ?_; unfold ck16
  have hlt := bx_lt' hf hc
  have hlt2 := rw_lt hf hk
  have hlt3 := bx_lt' hf hr
  unfold pcW rcW at *
  by_cases q : x.k.tmod 4 = 3
  · have hd3 : decide (x.k.tmod 4 = 3) = true := decide_eq_true q
    have hd2 : decide (x.n.tmod 2 = 0) = false := decide_eq_false fun e => hx2 ⟨q, e⟩
    simp (disch := omega) only [ite_ne, hd, hd3, hd2, go_sem, ↓reduceIte, Nat.reduceEqDiff, Nat.reduceBEq, Nat.reduceAdd, Nat.reduceLeDiff, Nat.reduceLT, reduceCtorEq, Nat.reduceMul, Nat.reduceSub, Int.reduceEq, Int.reduceLT, Int.reduceLE, Int.reduceToNat]
    refine dCallR.f (fun _ hp' e => plans_ok _ _ _) ?_
    simp (disch := omega) only [ite_ne, hc, hk, hr, go_sem, ↓reduceIte, Nat.reduceEqDiff, Nat.reduceBEq, Nat.reduceAdd, Nat.reduceLeDiff, Nat.reduceLT, reduceCtorEq, Nat.reduceMul, Nat.reduceSub, Int.reduceEq, Int.reduceLT, Int.reduceLE, Int.reduceToNat]
    refine dCallR.f (fun _ hp' e => hG hp' ((e c (.inl (by omega))).trans (by (simp (disch := omega) only [ite_ne, hc, go_sem, ↓reduceIte, Nat.reduceEqDiff, Nat.reduceBEq, Nat.reduceAdd, Nat.reduceLeDiff, Nat.reduceLT, reduceCtorEq, Nat.reduceMul, Nat.reduceSub, Int.reduceEq, Int.reduceLT, Int.reduceLE, Int.reduceToNat]))) ((e kg (.inl (by omega))).trans (by (simp (disch := omega) only [ite_ne, hk, go_sem, ↓reduceIte, Nat.reduceEqDiff, Nat.reduceBEq, Nat.reduceAdd, Nat.reduceLeDiff, Nat.reduceLT, reduceCtorEq, Nat.reduceMul, Nat.reduceSub, Int.reduceEq, Int.reduceLT, Int.reduceLE, Int.reduceToNat]))) _) ?_
    simp (disch := omega) only [ite_ne, hc, hk, hr, n1, n2, n3, n1', n2', n3', List.cons_append, List.nil_append, go_sem, ↓reduceIte, Nat.reduceEqDiff, Nat.reduceBEq, Nat.reduceAdd, Nat.reduceLeDiff, Nat.reduceLT, reduceCtorEq, Nat.reduceMul, Nat.reduceSub, Int.reduceEq, Int.reduceLT, Int.reduceLE, Int.reduceToNat]
    refine dCallR.f (fun _ hp' e => plans_ok _ _ _) ?_
    simp (disch := omega) only [ite_ne, hc, hk, hr, n1, n2, n3, n1', n2', n3', List.cons_append, List.nil_append, go_sem, ↓reduceIte, Nat.reduceEqDiff, Nat.reduceBEq, Nat.reduceAdd, Nat.reduceLeDiff, Nat.reduceLT, reduceCtorEq, Nat.reduceMul, Nat.reduceSub, Int.reduceEq, Int.reduceLT, Int.reduceLE, Int.reduceToNat]
    refine dCallR.f (fun _ hp' e => hR hp' ((e r (.inl (by omega))).trans (by (simp (disch := omega) only [ite_ne, hr, go_sem, ↓reduceIte, Nat.reduceEqDiff, Nat.reduceBEq, Nat.reduceAdd, Nat.reduceLeDiff, Nat.reduceLT, reduceCtorEq, Nat.reduceMul, Nat.reduceSub, Int.reduceEq, Int.reduceLT, Int.reduceLE, Int.reduceToNat]))) _) ?_
    simp (disch := omega) only [ite_ne, hc, hk, hr, n1, n2, n3, n1', n2', n3', List.cons_append, List.nil_append, decide_true, go_sem, ↓reduceIte, Nat.reduceEqDiff, Nat.reduceBEq, Nat.reduceAdd, Nat.reduceLeDiff, Nat.reduceLT, reduceCtorEq, Nat.reduceMul, Nat.reduceSub, Int.reduceEq, Int.reduceLT, Int.reduceLE, Int.reduceToNat]
    refine up_ws3 n1 n2 n3 ?_ ?_ ?_ (fun j q1 q2 q3 q4 => ?_)
    · first | ((simp (disch := omega) only [ite_ne, hc, hk, hr, n1, n2, n3, n1', n2', n3', go_sem, ↓reduceIte, Nat.reduceEqDiff, Nat.reduceBEq, Nat.reduceAdd, Nat.reduceLeDiff, Nat.reduceLT, reduceCtorEq, Nat.reduceMul, Nat.reduceSub, Int.reduceEq, Int.reduceLT, Int.reduceLE, Int.reduceToNat]); done) | (simp only [gc]; (simp (disch := omega) only [ite_ne, hc, hk, hr, n1, n2, n3, n1', n2', n3', go_sem, ↓reduceIte, Nat.reduceEqDiff, Nat.reduceBEq, Nat.reduceAdd, Nat.reduceLeDiff, Nat.reduceLT, reduceCtorEq, Nat.reduceMul, Nat.reduceSub, Int.reduceEq, Int.reduceLT, Int.reduceLE, Int.reduceToNat]))
    · first | ((simp (disch := omega) only [ite_ne, hc, hk, hr, n1, n2, n3, n1', n2', n3', go_sem, ↓reduceIte, Nat.reduceEqDiff, Nat.reduceBEq, Nat.reduceAdd, Nat.reduceLeDiff, Nat.reduceLT, reduceCtorEq, Nat.reduceMul, Nat.reduceSub, Int.reduceEq, Int.reduceLT, Int.reduceLE, Int.reduceToNat]); done) | (simp only [gc]; (simp (disch := omega) only [ite_ne, hc, hk, hr, n1, n2, n3, n1', n2', n3', go_sem, ↓reduceIte, Nat.reduceEqDiff, Nat.reduceBEq, Nat.reduceAdd, Nat.reduceLeDiff, Nat.reduceLT, reduceCtorEq, Nat.reduceMul, Nat.reduceSub, Int.reduceEq, Int.reduceLT, Int.reduceLE, Int.reduceToNat]))
    · first | ((simp (disch := omega) only [ite_ne, hc, hk, hr, n1, n2, n3, n1', n2', n3', go_sem, ↓reduceIte, Nat.reduceEqDiff, Nat.reduceBEq, Nat.reduceAdd, Nat.reduceLeDiff, Nat.reduceLT, reduceCtorEq, Nat.reduceMul, Nat.reduceSub, Int.reduceEq, Int.reduceLT, Int.reduceLE, Int.reduceToNat]); done) | (simp only [gc]; (simp (disch := omega) only [ite_ne, hc, hk, hr, n1, n2, n3, n1', n2', n3', go_sem, ↓reduceIte, Nat.reduceEqDiff, Nat.reduceBEq, Nat.reduceAdd, Nat.reduceLeDiff, Nat.reduceLT, reduceCtorEq, Nat.reduceMul, Nat.reduceSub, Int.reduceEq, Int.reduceLT, Int.reduceLE, Int.reduceToNat]))
    · first | rfl | (repeat rw [gc_ne _ _ (by omega)])
  · have hd3 : decide (x.k.tmod 4 = 3) = false := decide_eq_false q
    simp (disch := omega) only [ite_ne, hd, hd3, go_sem, ↓reduceIte, Nat.reduceEqDiff, Nat.reduceBEq, Nat.reduceAdd, Nat.reduceLeDiff, Nat.reduceLT, reduceCtorEq, Nat.reduceMul, Nat.reduceSub, Int.reduceEq, Int.reduceLT, Int.reduceLE, Int.reduceToNat]
    refine dCallR.f (fun _ hp' e => plans_ok _ _ _) ?_
    simp (disch := omega) only [ite_ne, hc, hk, hr, go_sem, ↓reduceIte, Nat.reduceEqDiff, Nat.reduceBEq, Nat.reduceAdd, Nat.reduceLeDiff, Nat.reduceLT, reduceCtorEq, Nat.reduceMul, Nat.reduceSub, Int.reduceEq, Int.reduceLT, Int.reduceLE, Int.reduceToNat]
    refine dCallR.f (fun _ hp' e => hG hp' ((e c (.inl (by omega))).trans (by (simp (disch := omega) only [ite_ne, hc, go_sem, ↓reduceIte, Nat.reduceEqDiff, Nat.reduceBEq, Nat.reduceAdd, Nat.reduceLeDiff, Nat.reduceLT, reduceCtorEq, Nat.reduceMul, Nat.reduceSub, Int.reduceEq, Int.reduceLT, Int.reduceLE, Int.reduceToNat]))) ((e kg (.inl (by omega))).trans (by (simp (disch := omega) only [ite_ne, hk, go_sem, ↓reduceIte, Nat.reduceEqDiff, Nat.reduceBEq, Nat.reduceAdd, Nat.reduceLeDiff, Nat.reduceLT, reduceCtorEq, Nat.reduceMul, Nat.reduceSub, Int.reduceEq, Int.reduceLT, Int.reduceLE, Int.reduceToNat]))) _) ?_
    simp (disch := omega) only [ite_ne, hc, hk, hr, n1, n2, n3, n1', n2', n3', List.cons_append, List.nil_append, go_sem, ↓reduceIte, Nat.reduceEqDiff, Nat.reduceBEq, Nat.reduceAdd, Nat.reduceLeDiff, Nat.reduceLT, reduceCtorEq, Nat.reduceMul, Nat.reduceSub, Int.reduceEq, Int.reduceLT, Int.reduceLE, Int.reduceToNat]
    refine dCallR.f (fun _ hp' e => plans_ok _ _ _) ?_
    simp (disch := omega) only [ite_ne, hc, hk, hr, n1, n2, n3, n1', n2', n3', List.cons_append, List.nil_append, go_sem, ↓reduceIte, Nat.reduceEqDiff, Nat.reduceBEq, Nat.reduceAdd, Nat.reduceLeDiff, Nat.reduceLT, reduceCtorEq, Nat.reduceMul, Nat.reduceSub, Int.reduceEq, Int.reduceLT, Int.reduceLE, Int.reduceToNat]
    refine dCallR.f (fun _ hp' e => hR hp' ((e r (.inl (by omega))).trans (by (simp (disch := omega) only [ite_ne, hr, go_sem, ↓reduceIte, Nat.reduceEqDiff, Nat.reduceBEq, Nat.reduceAdd, Nat.reduceLeDiff, Nat.reduceLT, reduceCtorEq, Nat.reduceMul, Nat.reduceSub, Int.reduceEq, Int.reduceLT, Int.reduceLE, Int.reduceToNat]))) _) ?_
    simp (disch := omega) only [ite_ne, hc, hk, hr, n1, n2, n3, n1', n2', n3', List.cons_append, List.nil_append, decide_true, go_sem, ↓reduceIte, Nat.reduceEqDiff, Nat.reduceBEq, Nat.reduceAdd, Nat.reduceLeDiff, Nat.reduceLT, reduceCtorEq, Nat.reduceMul, Nat.reduceSub, Int.reduceEq, Int.reduceLT, Int.reduceLE, Int.reduceToNat]
    refine up_ws3 n1 n2 n3 ?_ ?_ ?_ (fun j q1 q2 q3 q4 => ?_)
    · first | ((simp (disch := omega) only [ite_ne, hc, hk, hr, n1, n2, n3, n1', n2', n3', go_sem, ↓reduceIte, Nat.reduceEqDiff, Nat.reduceBEq, Nat.reduceAdd, Nat.reduceLeDiff, Nat.reduceLT, reduceCtorEq, Nat.reduceMul, Nat.reduceSub, Int.reduceEq, Int.reduceLT, Int.reduceLE, Int.reduceToNat]); done) | (simp only [gc]; (simp (disch := omega) only [ite_ne, hc, hk, hr, n1, n2, n3, n1', n2', n3', go_sem, ↓reduceIte, Nat.reduceEqDiff, Nat.reduceBEq, Nat.reduceAdd, Nat.reduceLeDiff, Nat.reduceLT, reduceCtorEq, Nat.reduceMul, Nat.reduceSub, Int.reduceEq, Int.reduceLT, Int.reduceLE, Int.reduceToNat]))
    · first | ((simp (disch := omega) only [ite_ne, hc, hk, hr, n1, n2, n3, n1', n2', n3', go_sem, ↓reduceIte, Nat.reduceEqDiff, Nat.reduceBEq, Nat.reduceAdd, Nat.reduceLeDiff, Nat.reduceLT, reduceCtorEq, Nat.reduceMul, Nat.reduceSub, Int.reduceEq, Int.reduceLT, Int.reduceLE, Int.reduceToNat]); done) | (simp only [gc]; (simp (disch := omega) only [ite_ne, hc, hk, hr, n1, n2, n3, n1', n2', n3', go_sem, ↓reduceIte, Nat.reduceEqDiff, Nat.reduceBEq, Nat.reduceAdd, Nat.reduceLeDiff, Nat.reduceLT, reduceCtorEq, Nat.reduceMul, Nat.reduceSub, Int.reduceEq, Int.reduceLT, Int.reduceLE, Int.reduceToNat]))
    · first | ((simp (disch := omega) only [ite_ne, hc, hk, hr, n1, n2, n3, n1', n2', n3', go_sem, ↓reduceIte, Nat.reduceEqDiff, Nat.reduceBEq, Nat.reduceAdd, Nat.reduceLeDiff, Nat.reduceLT, reduceCtorEq, Nat.reduceMul, Nat.reduceSub, Int.reduceEq, Int.reduceLT, Int.reduceLE, Int.reduceToNat]); done) | (simp only [gc]; (simp (disch := omega) only [ite_ne, hc, hk, hr, n1, n2, n3, n1', n2', n3', go_sem, ↓reduceIte, Nat.reduceEqDiff, Nat.reduceBEq, Nat.reduceAdd, Nat.reduceLeDiff, Nat.reduceLT, reduceCtorEq, Nat.reduceMul, Nat.reduceSub, Int.reduceEq, Int.reduceLT, Int.reduceLE, Int.reduceToNat]))
    · first | rfl | (repeat rw [gc_ne _ _ (by omega)])
end
theorem step_ok (room h mi o : Int) (b : Bool) (L : List Ent) (k : Nat) (ci : CI room h mi L k) (hk60 : k ≤ 1000) (c kg g r : Nat) (hcr : c ≠ r) (hkr : kg ≠ r) (x : Stp) :
    ∃ h' mi' o' b' L' g', CI room h' mi' L' (k + 1) ∧ ∀ hp, gc hp c = .bx [.i .i64 room, .rw kg g L.length, .i .i64 h, .i .i64 mi, .i .i64 o, .b b] → gc hp kg = .rw g 3 (mapC entC L) → gc hp r = .bx [.i .i64 room, .ds (mapC entC L), .i .i64 h, .i .i64 mi, .i .i64 o, .b b] → ∀ m,
      MeetsX Try.prog 16 hp m [.bx c 0, .bx r 0, .ag (stpC x)] ((pcW c kg g' room h' mi' o' b' L' ++ rcW r room h' mi' o' b' L') ++ hp) m (.b true) := by
  by_cases q : x.k.tmod 4 = 0
  · rcases fidx_find (qE x.t x.v) L 0 with ⟨h1, h2⟩ | ⟨h1, h2⟩
    · obtain ⟨y, hy⟩ : ∃ y, L[L.findIdx (qE x.t x.v)]? = some y := ⟨_, List.getElem?_eq_getElem h1⟩
      exact ⟨_, _, o, b, _, _, ci.hit x.t x.v ⟨x.t, x.v, y.n⟩, fun hp hc hk hr m => step_hit room h mi o b L k ci hk60 c kg g r hcr hkr hp hc hk hr m x q y hy⟩
    · exact ⟨_, _, o, b, _, _, ci.miss, fun hp hc hk hr m => step_miss room h mi o b L k ci hk60 c kg g r hcr hkr hp hc hk hr m x q h1⟩
  · by_cases q2 : x.k.tmod 4 = 3 ∧ x.n.tmod 2 = 0
    · exact ⟨_, _, _, _, _, _, ci.dr x.v, fun hp hc hk hr m => step_drop room h mi o b L k ci hk60 c kg g r hcr hkr hp hc hk hr m x q2.1 q2.2⟩
    · by_cases q3 : b = false ∨ o ≤ x.v
      · exact ⟨_, _, o, b, _, _, ci.put ⟨x.t, x.v, x.n⟩, fun hp hc hk hr m => step_put room h mi o b L k ci hk60 c kg g r hcr hkr hp hc hk hr m x q q2 q3⟩
      · have q4 : b = true ∧ x.v < o := by
          cases b
          · exact absurd (.inl rfl) q3
          · exact ⟨rfl, by omega⟩
        exact ⟨_, _, o, b, _, _, ci.no, fun hp hc hk hr m => step_stale room h mi o b L k ci hk60 c kg g r hcr hkr hp hc hk hr m x q q2 q4.1 q4.2⟩
end Go.Proofs.Ytpenniildabheaa
