/-
  Numbers are read from bytes. Conditions: none.
-/
import Derived.Test.YtnkddjdjiibkfaaFrA
namespace Go.Proofs.Ytnkddjdjiibkfaa
open Go.Eng
set_option linter.unusedVariables false
set_option linter.unusedSimpArgs false
set_option maxRecDepth 20000

def be (a b c d : UInt8) : Int := a.toNat * 16777216 + b.toNat * 65536 + c.toNat * 256 + d.toNat
theorem orI_nat (x y : Nat) (hx : x < 2 ^ 63) (hy : y < 2 ^ 63) : orI .i64 (x : Int) (y : Int) = ((x ||| y : Nat) : Int) := by
  have h := Nat.or_lt_two_pow hx hy
  have e : (BitVec.ofInt 64 (x : Int) ||| BitVec.ofInt 64 (y : Int)).toNat = x ||| y := by
    rw [BitVec.ofInt_natCast, BitVec.ofInt_natCast, BitVec.toNat_or, BitVec.toNat_ofNat, BitVec.toNat_ofNat, Nat.mod_eq_of_lt (by omega), Nat.mod_eq_of_lt (by omega)]
  show IntKind.i64.wrap (((BitVec.ofInt 64 (x : Int) ||| BitVec.ofInt 64 (y : Int)).toNat : Nat) : Int) = _
  rw [e]
  exact wr64 (by omega)
theorem shlI_nat (x k : Nat) (hk : k ≤ 64) (hx : x * 2 ^ k < 2 ^ 63) : shlI .i64 (x : Int) (k : Int) = ((x * 2 ^ k : Nat) : Int) := by
  unfold shlI
  have : min ((k : Int)).toNat IntKind.i64.bits = k := by simp [IntKind.bits]; omega
  rw [this]
  have e : (x : Int) * 2 ^ k = ((x * 2 ^ k : Nat) : Int) := by simp
  rw [e]
  exact wr64 (by omega)
theorem or_add (a b k : Nat) (h : b < 2 ^ k) : a * 2 ^ k ||| b = a * 2 ^ k + b := by
  have := Nat.shiftLeft_add_eq_or_of_lt h a
  rw [Nat.shiftLeft_eq] at this
  exact this.symm
theorem be_or (a b c d : UInt8) : orI .i64 (orI .i64 (orI .i64 (shlI .i64 (IntKind.i64.wrap (a.toNat : Int)) 24) (shlI .i64 (IntKind.i64.wrap (b.toNat : Int)) 16)) (shlI .i64 (IntKind.i64.wrap (c.toNat : Int)) 8)) (IntKind.i64.wrap (d.toNat : Int)) = hide (be a b c d) := by
  rw [hide_eq]
  have ba := a.toNat_lt
  have bb := b.toNat_lt
  have bc := c.toNat_lt
  have bd := d.toNat_lt
  rw [wr64 (x := (a.toNat : Int)) (by omega), wr64 (x := (b.toNat : Int)) (by omega), wr64 (x := (c.toNat : Int)) (by omega), wr64 (x := (d.toNat : Int)) (by omega)]
  have s1 := shlI_nat a.toNat 24 (by omega) (by omega)
  have s2 := shlI_nat b.toNat 16 (by omega) (by omega)
  have s3 := shlI_nat c.toNat 8 (by omega) (by omega)
  simp only [Int.cast_ofNat_Int] at s1 s2 s3
  rw [s1, s2, s3]
  have p1 : a.toNat * 2 ^ 24 ||| b.toNat * 2 ^ 16 = a.toNat * 2 ^ 24 + b.toNat * 2 ^ 16 := or_add a.toNat (b.toNat * 2 ^ 16) 24 (by omega)
  have p2 : (a.toNat * 2 ^ 24 + b.toNat * 2 ^ 16) ||| c.toNat * 2 ^ 8 = a.toNat * 2 ^ 24 + b.toNat * 2 ^ 16 + c.toNat * 2 ^ 8 := by
    have := or_add (a.toNat * 2 ^ 8 + b.toNat) (c.toNat * 2 ^ 8) 16 (by omega)
    rw [show (a.toNat * 2 ^ 8 + b.toNat) * 2 ^ 16 = a.toNat * 2 ^ 24 + b.toNat * 2 ^ 16 by omega] at this
    exact this
  have p3 : (a.toNat * 2 ^ 24 + b.toNat * 2 ^ 16 + c.toNat * 2 ^ 8) ||| d.toNat = a.toNat * 2 ^ 24 + b.toNat * 2 ^ 16 + c.toNat * 2 ^ 8 + d.toNat := by
    have := or_add (a.toNat * 2 ^ 16 + b.toNat * 2 ^ 8 + c.toNat) d.toNat 8 (by omega)
    rw [show (a.toNat * 2 ^ 16 + b.toNat * 2 ^ 8 + c.toNat) * 2 ^ 8 = a.toNat * 2 ^ 24 + b.toNat * 2 ^ 16 + c.toNat * 2 ^ 8 by omega] at this
    exact this
  rw [orI_nat _ _ (by omega) (by omega), p1, orI_nat _ _ (by omega) (by omega), p2, orI_nat _ _ (by omega) (by omega), p3]
  unfold be
  omega
noncomputable def numAt (l : List UInt8) (j : Nat) : Int := hide (be (l.getD j 0) (l.getD (j + 1) 0) (l.getD (j + 2) 0) (l.getD (j + 3) 0))
theorem numAt_nn (l : List UInt8) (j : Nat) : 0 ≤ numAt l j := by rw [numAt, hide_eq]; unfold be; omega
theorem gd {l : List UInt8} {J : Int} {i : Nat} {x : UInt8} (h : l[J.toNat]? = some x) (e : J.toNat = i) : l.getD i 0 = x := by
  subst e
  simp [List.getD, h]
theorem numT (l : List UInt8) (J : Int) (j : Nat) (hJ : J = j) (hl : j + 3 < l.length) (hj : j < 1000000) (hp : CH) (m : Nat) : MeetsF Try.prog 24 hp m [.ds (byC l), .i .i64 J] (.i .i64 (numAt l j)) := by
  refine meetsF Try.func24 (by kernel_rfl) cc24 cr24 rfl fun hf => ?_; unfold ck24
  have e1 : IntKind.i64.wrap (J + 1) = J + 1 := wr64 (by omega)
  have e2 : IntKind.i64.wrap (J + 2) = J + 2 := wr64 (by omega)
  have e3 : IntKind.i64.wrap (J + 3) = J + 3 := wr64 (by omega)
  simp only [go_sem, ↓reduceIte, Nat.reduceEqDiff, Nat.reduceAdd, Nat.reduceLeDiff, Nat.reduceLT, reduceCtorEq, Nat.reduceMul, Nat.reduceSub, Int.reduceEq, Int.reduceLT, Int.reduceLE, Int.reduceToNat]
  repeat' (first
    | ((with_reducible refine cdK_of (fun _ => ?_) (fun _ => ?_)) <;> (try simp only [go_sem, ↓reduceIte, Nat.reduceEqDiff, Nat.reduceAdd, Nat.reduceLeDiff, Nat.reduceLT, reduceCtorEq, Nat.reduceMul, Nat.reduceSub, Int.reduceEq, Int.reduceLT, Int.reduceLE, Int.reduceToNat]))
    | ((with_reducible refine grK_of (fun _ => ?_) (fun _ => ?_)) <;> (try simp only [go_sem, ↓reduceIte, Nat.reduceEqDiff, Nat.reduceAdd, Nat.reduceLeDiff, Nat.reduceLT, reduceCtorEq, Nat.reduceMul, Nat.reduceSub, Int.reduceEq, Int.reduceLT, Int.reduceLE, Int.reduceToNat]))
    | ((with_reducible refine gCall.s (vcIf_of (fun _ => ?_) (fun _ => ?_))) <;> (try simp only [go_sem, ↓reduceIte, Nat.reduceEqDiff, Nat.reduceAdd, Nat.reduceLeDiff, Nat.reduceLT, reduceCtorEq, Nat.reduceMul, Nat.reduceSub, Int.reduceEq, Int.reduceLT, Int.reduceLE, Int.reduceToNat]))
    | ((with_reducible refine getK.m ?_ (fun _ _ => ?_)); rotate_left; try simp only [go_sem, ↓reduceIte, Nat.reduceEqDiff, Nat.reduceAdd, Nat.reduceLeDiff, Nat.reduceLT, reduceCtorEq, Nat.reduceMul, Nat.reduceSub, Int.reduceEq, Int.reduceLT, Int.reduceLE, Int.reduceToNat])
    | exact mapC_all (fun _ => rfl)
    | exact mapC_alln (fun _ => ⟨rfl, rfl⟩)
    | with_reducible refine And.intro ?_ ?_)
  all_goals try omega
  rename_i a ha b hb c hc d hd
  rw [be_or, numAt, gd ha (by omega), gd hb (by omega), gd hc (by omega), gd hd (by omega)]
theorem numA (l : List UInt8) (J : Int) (j : Nat) (hJ : J = j) (hl : j + 3 < l.length) (hj : j < 1000000) (hp : CH) (m : Nat) : MeetsF Try.prog 27 hp m [.ds (byC l), .i .i64 J] (.i .i64 (numAt l j)) := by
  refine meetsF Try.func27 (by kernel_rfl) cc27 cr27 rfl fun hf => ?_; unfold ck27
  have e1 : IntKind.i64.wrap (J + 1) = J + 1 := wr64 (by omega)
  have e2 : IntKind.i64.wrap (J + 2) = J + 2 := wr64 (by omega)
  have e3 : IntKind.i64.wrap (J + 3) = J + 3 := wr64 (by omega)
  simp only [go_sem, ↓reduceIte, Nat.reduceEqDiff, Nat.reduceAdd, Nat.reduceLeDiff, Nat.reduceLT, reduceCtorEq, Nat.reduceMul, Nat.reduceSub, Int.reduceEq, Int.reduceLT, Int.reduceLE, Int.reduceToNat]
  repeat' (first
    | ((with_reducible refine cdK_of (fun _ => ?_) (fun _ => ?_)) <;> (try simp only [go_sem, ↓reduceIte, Nat.reduceEqDiff, Nat.reduceAdd, Nat.reduceLeDiff, Nat.reduceLT, reduceCtorEq, Nat.reduceMul, Nat.reduceSub, Int.reduceEq, Int.reduceLT, Int.reduceLE, Int.reduceToNat]))
    | ((with_reducible refine grK_of (fun _ => ?_) (fun _ => ?_)) <;> (try simp only [go_sem, ↓reduceIte, Nat.reduceEqDiff, Nat.reduceAdd, Nat.reduceLeDiff, Nat.reduceLT, reduceCtorEq, Nat.reduceMul, Nat.reduceSub, Int.reduceEq, Int.reduceLT, Int.reduceLE, Int.reduceToNat]))
    | ((with_reducible refine gCall.s (vcIf_of (fun _ => ?_) (fun _ => ?_))) <;> (try simp only [go_sem, ↓reduceIte, Nat.reduceEqDiff, Nat.reduceAdd, Nat.reduceLeDiff, Nat.reduceLT, reduceCtorEq, Nat.reduceMul, Nat.reduceSub, Int.reduceEq, Int.reduceLT, Int.reduceLE, Int.reduceToNat]))
    | ((with_reducible refine getK.m ?_ (fun _ _ => ?_)); rotate_left; try simp only [go_sem, ↓reduceIte, Nat.reduceEqDiff, Nat.reduceAdd, Nat.reduceLeDiff, Nat.reduceLT, reduceCtorEq, Nat.reduceMul, Nat.reduceSub, Int.reduceEq, Int.reduceLT, Int.reduceLE, Int.reduceToNat])
    | exact mapC_all (fun _ => rfl)
    | exact mapC_alln (fun _ => ⟨rfl, rfl⟩)
    | with_reducible refine And.intro ?_ ?_)
  all_goals try omega
  rename_i a ha b hb c hc d hd
  rw [numAt, hide_eq, gd ha (by omega), gd hb (by omega), gd hc (by omega), gd hd (by omega)]
  have := a.toNat_lt
  have := b.toNat_lt
  have := c.toNat_lt
  have := d.toNat_lt
  grind [be]
end Go.Proofs.Ytnkddjdjiibkfaa
