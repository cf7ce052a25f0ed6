/-
  Frames are written. Conditions: none.
-/
import Derived.Test.YtnkddjdjiibkfaaFrD
import Derived.Test.YtnkddjdjiibkfaaEngQ
namespace Go.Proofs.Ytnkddjdjiibkfaa
open Go.Eng
set_option linter.unusedVariables false
set_option linter.unusedSimpArgs false
set_option maxRecDepth 20000
def n4 (n : Int) : List UInt8 := [u8 (n / 16777216), u8 (n / 65536), u8 (n / 256), u8 n]
def putB (f : Frm) : List UInt8 := u8 f.k :: (n4 f.i ++ n4 f.s ++ n4 f.a ++ n4 f.b.size ++ bs f.b)
def putS (f : Frm) : List UInt8 := if chk f = 0 then putB f else []
theorem add_kind (l : List UInt8) (n : Int) (k g : Nat) (hl : l.length ≤ 1000000) (hp : CH) (m : Nat) (hk : gc hp k = .rw g 1 (byC l)) :
    MeetsX Try.prog 20 hp m [.rw k g l.length, .fc 42 (.i .u8 (IntKind.u8.wrap n))] ((k, .rw (g + 1) 1 (byC l ++ byC [u8 n])) :: hp) m (.rw k (g + 1) (l.length + 1)) := by
  refine meets Try.func20 (by kernel_rfl) cc20 cr20 rfl ?_; unfold ck20
  rw [wr8]
  simp only [hk, go_sem, ↓reduceIte, Nat.reduceEqDiff, Nat.reduceAdd, Nat.reduceLeDiff, Nat.reduceLT, reduceCtorEq, Nat.reduceMul, Nat.reduceSub, Int.reduceEq, Int.reduceLT, Int.reduceLE, Int.reduceToNat]
  omega
theorem sh8 (n : Int) (h : 0 ≤ n ∧ n < 4294967296) (k : Nat) (hk : k ≤ 32) : IntKind.u8.wrap (shrI .u32 (IntKind.u32.wrap n) (k : Int)) = ((u8 (n / 2 ^ k)).toNat : Int) := by
  have e : IntKind.u32.wrap n = n := by simp [IntKind.wrap, IntKind.bits, IntKind.signed]; omega
  rw [e, wr8]
  unfold shrI
  rw [show min ((k : Int)).toNat IntKind.u32.bits = k by simp [IntKind.bits]; omega, Int.fdiv_eq_ediv_of_nonneg _ (by exact Int.le_of_lt (Int.pow_pos (by omega)))]
theorem add_num (l : List UInt8) (n : Int) (h : 0 ≤ n ∧ n < 4294967296) (k g : Nat) (hl : l.length ≤ 1000000) (hp : CH) (m : Nat) (hk : gc hp k = .rw g 1 (byC l)) :
    MeetsX Try.prog 20 hp m [.rw k g l.length, .fc 44 (.i .u32 (IntKind.u32.wrap n))] ((k, .rw (g + 1) 1 (byC l ++ byC (n4 n))) :: hp) m (.rw k (g + 1) (l.length + 4)) := by
  have e0 : IntKind.u8.wrap (IntKind.u32.wrap n) = ((u8 n).toNat : Int) := by
    rw [show IntKind.u32.wrap n = n by simp [IntKind.wrap, IntKind.bits, IntKind.signed]; omega, wr8]
  have e1 := sh8 n h 24 (by omega)
  have e2 := sh8 n h 16 (by omega)
  have e3 := sh8 n h 8 (by omega)
  obtain ⟨x, hx⟩ : ∃ x, IntKind.u32.wrap n = x := ⟨_, rfl⟩
  rw [hx] at e0 e1 e2 e3 ⊢
  simp only [Int.cast_ofNat_Int] at e1 e2 e3
  unfold n4
  refine meets Try.func20 (by kernel_rfl) cc20 cr20 rfl ?_; unfold ck20
  simp only [hk, e0, e1, e2, e3, go_sem, ↓reduceIte, Nat.reduceEqDiff, Nat.reduceAdd, Nat.reduceLeDiff, Nat.reduceLT, reduceCtorEq, Nat.reduceMul, Nat.reduceSub, Int.reduceEq, Int.reduceLT, Int.reduceLE, Int.reduceToNat]
  refine ⟨by omega, by omega, by simp⟩
theorem add_body (l : List UInt8) (b : ByteArray) (k g : Nat) (hl : l.length ≤ 1000000) (hb : b.size ≤ 1000000) (hp : CH) (m : Nat) (hk : gc hp k = .rw g 1 (byC l)) :
    MeetsX Try.prog 20 hp m [.rw k g l.length, .fc 45 (.s b)] ((k, .rw (g + 1) 1 (byC l ++ byC (bs b))) :: hp) m (.rw k (g + 1) (l.length + b.size)) := by
  refine meets Try.func20 (by kernel_rfl) cc20 cr20 rfl ?_; unfold ck20
  simp only [hk, go_sem, ↓reduceIte, Nat.reduceEqDiff, Nat.reduceAdd, Nat.reduceLeDiff, Nat.reduceLT, reduceCtorEq, Nat.reduceMul, Nat.reduceSub, Int.reduceEq, Int.reduceLT, Int.reduceLE, Int.reduceToNat]
  omega
theorem q64 (n c : Int) (h : 0 ≤ n ∧ n < 4611686018427387904) (hc : 0 < c) : IntKind.i64.wrap (n.tdiv c) = n / c ∧ 0 ≤ n / c := by
  have h1 : 0 ≤ n / c := Int.ediv_nonneg h.1 (by omega)
  have h2 : n / c ≤ n := Int.ediv_le_self _ h.1
  rw [Int.tdiv_eq_ediv_of_nonneg h.1]
  exact ⟨wr64 (by omega), h1⟩
theorem m8 (x : Int) (h : 0 ≤ x) : IntKind.u8.wrap (x.tmod 256) = ((u8 x).toNat : Int) := by
  rw [Int.tmod_eq_emod_of_nonneg h, wr8]
  unfold u8
  rw [Int.emod_emod_of_dvd x (by exact Int.dvd_refl _)]
theorem four_ok (L : List (List AV)) (len : Nat) (n : Int) (h : 0 ≤ n ∧ n < 4611686018427387904) (k g : Nat) (hl : L.length = len) (hlen : len ≤ 1000000) (hp : CH) (m : Nat) (hk : gc hp k = .rw g 1 L) :
    MeetsX Try.prog 22 hp m [.rw k g len, .i .i64 n] ((k, .rw (g + 1) 1 (L ++ byC (n4 n))) :: hp) m (.rw k (g + 1) (len + 4)) := by
  obtain ⟨a1, a2⟩ := q64 n 16777216 h (by omega)
  obtain ⟨b1, b2⟩ := q64 n 65536 h (by omega)
  obtain ⟨c1, c2⟩ := q64 n 256 h (by omega)
  have e0 := wr8 (n / 16777216)
  have e1 := m8 _ b2
  have e2 := m8 _ c2
  have e3 := m8 _ h.1
  unfold n4
  refine meets Try.func22 (by kernel_rfl) cc22 cr22 rfl ?_; unfold ck22
  simp only [hk, hl, a1, b1, c1, e0, e1, e2, e3, go_sem, ↓reduceIte, Nat.reduceEqDiff, Nat.reduceAdd, Nat.reduceLeDiff, Nat.reduceLT, reduceCtorEq, Nat.reduceMul, Nat.reduceSub, Int.reduceEq, Int.reduceLT, Int.reduceLE, Int.reduceToNat]
  omega
/-- The bytes of the first j parts. -/
def pre (f : Frm) : Nat → List UInt8
  | 0 => []
  | 1 => [u8 f.k]
  | 2 => [u8 f.k] ++ n4 f.i
  | 3 => [u8 f.k] ++ n4 f.i ++ n4 f.s
  | 4 => [u8 f.k] ++ n4 f.i ++ n4 f.s ++ n4 f.a
  | 5 => [u8 f.k] ++ n4 f.i ++ n4 f.s ++ n4 f.a ++ n4 f.b.size
  | _ => [u8 f.k] ++ n4 f.i ++ n4 f.s ++ n4 f.a ++ n4 f.b.size ++ bs f.b
theorem chk_num {f : Frm} (h : chk f = 0) : (0 ≤ f.i ∧ f.i < 4294967296) ∧ (0 ≤ f.s ∧ f.s < 4294967296) ∧ (0 ≤ f.a ∧ f.a < 4294967296) ∧ f.b.size ≤ 65536 := by
  unfold chk at h
  grind [wide]
/-- Put, its bytes in a row of their own. -/
theorem put_r (f : Frm) (hb : f.b.size ≤ 1000000) (hp : CH) (m : Nat) : MeetsX Try.prog 9 hp m [f.av] ((m, .rw 0 1 (byC (putS f))) :: hp) (m + 1) (.tp [.rw m 0 (putS f).length, .i .i64 (chk f)]) := by
  refine meetsOut (outs := [(1, byC (putS f))]) Try.func9 (by kernel_rfl) cc9 cr9 rfl fun hf => ?_; unfold ck9
  simp only [go_sem, ↓reduceIte, Nat.reduceEqDiff, Nat.reduceAdd, Nat.reduceLeDiff, Nat.reduceLT, reduceCtorEq, Nat.reduceMul, Nat.reduceSub, Int.reduceEq, Int.reduceLT, Int.reduceLE, Int.reduceToNat]
  refine vcCall.f (check_ok f _ _) ?_
  simp only [go_sem, ↓reduceIte, Nat.reduceEqDiff, Nat.reduceAdd, Nat.reduceLeDiff, Nat.reduceLT, reduceCtorEq, Nat.reduceMul, Nat.reduceSub, Int.reduceEq, Int.reduceLT, Int.reduceLE, Int.reduceToNat]
  refine cdK_of (fun h0 => ?_) (fun h0 => ?_)
  · simp only [go_sem, ↓reduceIte, Nat.reduceEqDiff, Nat.reduceAdd, Nat.reduceLeDiff, Nat.reduceLT, reduceCtorEq, Nat.reduceMul, Nat.reduceSub, Int.reduceEq, Int.reduceLT, Int.reduceLE, Int.reduceToNat]
    grind [putS]
  have h0 : chk f = 0 := by simpa using h0
  obtain ⟨hi, hs, ha, hz⟩ := chk_num h0
  have hz' : 0 ≤ (f.b.size : Int) ∧ (f.b.size : Int) < 4294967296 := by omega
  have hw : IntKind.i64.wrap (17 + (f.b.size : Int)) = 17 + f.b.size := wr64 (by omega)
  simp only [hw, go_sem, ↓reduceIte, Nat.reduceEqDiff, Nat.reduceAdd, Nat.reduceLeDiff, Nat.reduceLT, reduceCtorEq, Nat.reduceMul, Nat.reduceSub, Int.reduceEq, Int.reduceLT, Int.reduceLE, Int.reduceToNat]
  refine ⟨by omega, by omega, by omega, ?_⟩
  refine loop (fun j : Nat => ⟨[(5, .rw (m + 1) j (pre f j).length), (42, .rw (m + 2) 0 6), (43, .i .i64 6), (44, .i .i64 j)], (m + 1, .rw j 1 (byC (pre f j))) :: (m + 2, .rw 0 1 [[.fc 42 (.i .u8 (IntKind.u8.wrap f.k))], [.fc 44 (.i .u32 (IntKind.u32.wrap f.i))], [.fc 44 (.i .u32 (IntKind.u32.wrap f.s))], [.fc 44 (.i .u32 (IntKind.u32.wrap f.a))], [.fc 44 (.i .u32 (IntKind.u32.wrap (f.b.size : Int)))], [.fc 45 (.s f.b)]]) :: hp, m + 3⟩) (fun j => j ≤ 6) (fun j => 6 - j) 0 ?_ ?_ (fun j hj => ?_)
  · omega
  · refine weak_ok ?_ ?_ (Nat.le_refl _)
    · simp only [go_sem, ↓reduceIte, Nat.reduceEqDiff, Nat.reduceAdd, Nat.reduceLeDiff, Nat.reduceLT, reduceCtorEq, Nat.reduceMul, Nat.reduceSub, Int.reduceEq, Int.reduceLT, Int.reduceLE, Int.reduceToNat]
      rfl
    · refine Sub.cons ?_ (Sub.cons ?_ (Sub.base hf ?_))
      · simp only [go_sem, ↓reduceIte, Nat.reduceEqDiff, Nat.reduceAdd, Nat.reduceLeDiff, Nat.reduceLT, reduceCtorEq, Nat.reduceMul, Nat.reduceSub, Int.reduceEq, Int.reduceLT, Int.reduceLE, Int.reduceToNat]
        rfl
      · simp only [go_sem, ↓reduceIte, Nat.reduceEqDiff, Nat.reduceAdd, Nat.reduceLeDiff, Nat.reduceLT, reduceCtorEq, Nat.reduceMul, Nat.reduceSub, Int.reduceEq, Int.reduceLT, Int.reduceLE, Int.reduceToNat]
      · simp only [go_sem, ↓reduceIte, Nat.reduceEqDiff, Nat.reduceAdd, Nat.reduceLeDiff, Nat.reduceLT, reduceCtorEq, Nat.reduceMul, Nat.reduceSub, Int.reduceEq, Int.reduceLT, Int.reduceLE, Int.reduceToNat]
  · have hL : (pre f j).length ≤ 1000000 := by
      unfold pre; split <;> simp [n4, bs_len] <;> omega
    simp only [go_sem, ↓reduceIte, Nat.reduceEqDiff, Nat.reduceAdd, Nat.reduceLeDiff, Nat.reduceLT, reduceCtorEq, Nat.reduceMul, Nat.reduceSub, Int.reduceEq, Int.reduceLT, Int.reduceLE, Int.reduceToNat]
    refine cdK_of (fun h1 => ?_) (fun h1 => ?_)
    · have : j = 0 ∨ j = 1 ∨ j = 2 ∨ j = 3 ∨ j = 4 ∨ j = 5 := by grind
      rcases this with rfl | rfl | rfl | rfl | rfl | rfl
      · simp only [go_sem, ↓reduceIte, Nat.reduceEqDiff, Nat.reduceAdd, Nat.reduceLeDiff, Nat.reduceLT, reduceCtorEq, Nat.reduceMul, Nat.reduceSub, Int.reduceEq, Int.reduceLT, Int.reduceLE, Int.reduceToNat]
        refine vcCall.x (add_kind _ _ _ _ hL _ _ (by simp only [go_sem, ↓reduceIte, Nat.reduceEqDiff, Nat.reduceAdd, Nat.reduceLeDiff, Nat.reduceLT, reduceCtorEq, Nat.reduceMul, Nat.reduceSub, Int.reduceEq, Int.reduceLT, Int.reduceLE, Int.reduceToNat])) ?_
        simp only [go_sem, ↓reduceIte, Nat.reduceEqDiff, Nat.reduceAdd, Nat.reduceLeDiff, Nat.reduceLT, reduceCtorEq, Nat.reduceMul, Nat.reduceSub, Int.reduceEq, Int.reduceLT, Int.reduceLE, Int.reduceToNat]
        refine ⟨1, by omega, by omega, weak_ok ?_ (Sub.cons ?_ (Sub.cons ?_ (Sub.base hf ?_))) (Nat.le_refl _)⟩
        all_goals (try simp only [go_sem, ↓reduceIte, Nat.reduceEqDiff, Nat.reduceAdd, Nat.reduceLeDiff, Nat.reduceLT, reduceCtorEq, Nat.reduceMul, Nat.reduceSub, Int.reduceEq, Int.reduceLT, Int.reduceLE, Int.reduceToNat])
        all_goals (simp [pre, n4, mapC, by1, bs_len, wr64]; try omega)
      · simp only [go_sem, ↓reduceIte, Nat.reduceEqDiff, Nat.reduceAdd, Nat.reduceLeDiff, Nat.reduceLT, reduceCtorEq, Nat.reduceMul, Nat.reduceSub, Int.reduceEq, Int.reduceLT, Int.reduceLE, Int.reduceToNat]
        refine vcCall.x (add_num _ _ hi _ _ hL _ _ (by simp only [go_sem, ↓reduceIte, Nat.reduceEqDiff, Nat.reduceAdd, Nat.reduceLeDiff, Nat.reduceLT, reduceCtorEq, Nat.reduceMul, Nat.reduceSub, Int.reduceEq, Int.reduceLT, Int.reduceLE, Int.reduceToNat])) ?_
        simp only [go_sem, ↓reduceIte, Nat.reduceEqDiff, Nat.reduceAdd, Nat.reduceLeDiff, Nat.reduceLT, reduceCtorEq, Nat.reduceMul, Nat.reduceSub, Int.reduceEq, Int.reduceLT, Int.reduceLE, Int.reduceToNat]
        refine ⟨2, by omega, by omega, weak_ok ?_ (Sub.cons ?_ (Sub.cons ?_ (Sub.base hf ?_))) (Nat.le_refl _)⟩
        all_goals (try simp only [go_sem, ↓reduceIte, Nat.reduceEqDiff, Nat.reduceAdd, Nat.reduceLeDiff, Nat.reduceLT, reduceCtorEq, Nat.reduceMul, Nat.reduceSub, Int.reduceEq, Int.reduceLT, Int.reduceLE, Int.reduceToNat])
        all_goals (simp [pre, n4, mapC, by1, bs_len, wr64]; try omega)
      · simp only [go_sem, ↓reduceIte, Nat.reduceEqDiff, Nat.reduceAdd, Nat.reduceLeDiff, Nat.reduceLT, reduceCtorEq, Nat.reduceMul, Nat.reduceSub, Int.reduceEq, Int.reduceLT, Int.reduceLE, Int.reduceToNat]
        refine vcCall.x (add_num _ _ hs _ _ hL _ _ (by simp only [go_sem, ↓reduceIte, Nat.reduceEqDiff, Nat.reduceAdd, Nat.reduceLeDiff, Nat.reduceLT, reduceCtorEq, Nat.reduceMul, Nat.reduceSub, Int.reduceEq, Int.reduceLT, Int.reduceLE, Int.reduceToNat])) ?_
        simp only [go_sem, ↓reduceIte, Nat.reduceEqDiff, Nat.reduceAdd, Nat.reduceLeDiff, Nat.reduceLT, reduceCtorEq, Nat.reduceMul, Nat.reduceSub, Int.reduceEq, Int.reduceLT, Int.reduceLE, Int.reduceToNat]
        refine ⟨3, by omega, by omega, weak_ok ?_ (Sub.cons ?_ (Sub.cons ?_ (Sub.base hf ?_))) (Nat.le_refl _)⟩
        all_goals (try simp only [go_sem, ↓reduceIte, Nat.reduceEqDiff, Nat.reduceAdd, Nat.reduceLeDiff, Nat.reduceLT, reduceCtorEq, Nat.reduceMul, Nat.reduceSub, Int.reduceEq, Int.reduceLT, Int.reduceLE, Int.reduceToNat])
        all_goals (simp [pre, n4, mapC, by1, bs_len, wr64]; try omega)
      · simp only [go_sem, ↓reduceIte, Nat.reduceEqDiff, Nat.reduceAdd, Nat.reduceLeDiff, Nat.reduceLT, reduceCtorEq, Nat.reduceMul, Nat.reduceSub, Int.reduceEq, Int.reduceLT, Int.reduceLE, Int.reduceToNat]
        refine vcCall.x (add_num _ _ ha _ _ hL _ _ (by simp only [go_sem, ↓reduceIte, Nat.reduceEqDiff, Nat.reduceAdd, Nat.reduceLeDiff, Nat.reduceLT, reduceCtorEq, Nat.reduceMul, Nat.reduceSub, Int.reduceEq, Int.reduceLT, Int.reduceLE, Int.reduceToNat])) ?_
        simp only [go_sem, ↓reduceIte, Nat.reduceEqDiff, Nat.reduceAdd, Nat.reduceLeDiff, Nat.reduceLT, reduceCtorEq, Nat.reduceMul, Nat.reduceSub, Int.reduceEq, Int.reduceLT, Int.reduceLE, Int.reduceToNat]
        refine ⟨4, by omega, by omega, weak_ok ?_ (Sub.cons ?_ (Sub.cons ?_ (Sub.base hf ?_))) (Nat.le_refl _)⟩
        all_goals (try simp only [go_sem, ↓reduceIte, Nat.reduceEqDiff, Nat.reduceAdd, Nat.reduceLeDiff, Nat.reduceLT, reduceCtorEq, Nat.reduceMul, Nat.reduceSub, Int.reduceEq, Int.reduceLT, Int.reduceLE, Int.reduceToNat])
        all_goals (simp [pre, n4, mapC, by1, bs_len, wr64]; try omega)
      · simp only [go_sem, ↓reduceIte, Nat.reduceEqDiff, Nat.reduceAdd, Nat.reduceLeDiff, Nat.reduceLT, reduceCtorEq, Nat.reduceMul, Nat.reduceSub, Int.reduceEq, Int.reduceLT, Int.reduceLE, Int.reduceToNat]
        refine vcCall.x (add_num _ _ hz' _ _ hL _ _ (by simp only [go_sem, ↓reduceIte, Nat.reduceEqDiff, Nat.reduceAdd, Nat.reduceLeDiff, Nat.reduceLT, reduceCtorEq, Nat.reduceMul, Nat.reduceSub, Int.reduceEq, Int.reduceLT, Int.reduceLE, Int.reduceToNat])) ?_
        simp only [go_sem, ↓reduceIte, Nat.reduceEqDiff, Nat.reduceAdd, Nat.reduceLeDiff, Nat.reduceLT, reduceCtorEq, Nat.reduceMul, Nat.reduceSub, Int.reduceEq, Int.reduceLT, Int.reduceLE, Int.reduceToNat]
        refine ⟨5, by omega, by omega, weak_ok ?_ (Sub.cons ?_ (Sub.cons ?_ (Sub.base hf ?_))) (Nat.le_refl _)⟩
        all_goals (try simp only [go_sem, ↓reduceIte, Nat.reduceEqDiff, Nat.reduceAdd, Nat.reduceLeDiff, Nat.reduceLT, reduceCtorEq, Nat.reduceMul, Nat.reduceSub, Int.reduceEq, Int.reduceLT, Int.reduceLE, Int.reduceToNat])
        all_goals (simp [pre, n4, mapC, by1, bs_len, wr64]; try omega)
      · simp only [go_sem, ↓reduceIte, Nat.reduceEqDiff, Nat.reduceAdd, Nat.reduceLeDiff, Nat.reduceLT, reduceCtorEq, Nat.reduceMul, Nat.reduceSub, Int.reduceEq, Int.reduceLT, Int.reduceLE, Int.reduceToNat]
        refine vcCall.x (add_body _ _ _ _ hL hb _ _ (by simp only [go_sem, ↓reduceIte, Nat.reduceEqDiff, Nat.reduceAdd, Nat.reduceLeDiff, Nat.reduceLT, reduceCtorEq, Nat.reduceMul, Nat.reduceSub, Int.reduceEq, Int.reduceLT, Int.reduceLE, Int.reduceToNat])) ?_
        simp only [go_sem, ↓reduceIte, Nat.reduceEqDiff, Nat.reduceAdd, Nat.reduceLeDiff, Nat.reduceLT, reduceCtorEq, Nat.reduceMul, Nat.reduceSub, Int.reduceEq, Int.reduceLT, Int.reduceLE, Int.reduceToNat]
        refine ⟨6, by omega, by omega, weak_ok ?_ (Sub.cons ?_ (Sub.cons ?_ (Sub.base hf ?_))) (Nat.le_refl _)⟩
        all_goals (try simp only [go_sem, ↓reduceIte, Nat.reduceEqDiff, Nat.reduceAdd, Nat.reduceLeDiff, Nat.reduceLT, reduceCtorEq, Nat.reduceMul, Nat.reduceSub, Int.reduceEq, Int.reduceLT, Int.reduceLE, Int.reduceToNat])
        all_goals (simp [pre, n4, mapC, by1, bs_len, wr64]; try omega)
    · simp only [go_sem, ↓reduceIte, Nat.reduceEqDiff, Nat.reduceAdd, Nat.reduceLeDiff, Nat.reduceLT, reduceCtorEq, Nat.reduceMul, Nat.reduceSub, Int.reduceEq, Int.reduceLT, Int.reduceLE, Int.reduceToNat]
      have : j = 6 := by grind
      subst this
      simp [putS, putB, pre, h0]
theorem put_ok (f : Frm) (hb : f.b.size ≤ 1000000) (hp : CH) (m : Nat) : MeetsF Try.prog 9 hp m [f.av] (.tp [.ds (byC (putS f)), .i .i64 (chk f)]) := by
  refine (put_r f hb hp m).toF ?_
  simp only [go_sem, ↓reduceIte, Nat.reduceEqDiff, Nat.reduceAdd, Nat.reduceLeDiff, Nat.reduceLT, reduceCtorEq, Nat.reduceMul, Nat.reduceSub, Int.reduceEq, Int.reduceLT, Int.reduceLE, Int.reduceToNat]
theorem put_ok' (f : Frm) (hb : f.b.size ≤ 1000000) (hp : CH) (m : Nat) : MeetsF Try.prog 10 hp m [f.av] (.tp [.ds (byC (putS f)), .i .i64 (chk f)]) := by
  refine meetsF Try.func10 (by kernel_rfl) cc10 cr10 rfl fun hf => ?_; unfold ck10
  simp only [go_sem, ↓reduceIte, Nat.reduceEqDiff, Nat.reduceAdd, Nat.reduceLeDiff, Nat.reduceLT, reduceCtorEq, Nat.reduceMul, Nat.reduceSub, Int.reduceEq, Int.reduceLT, Int.reduceLE, Int.reduceToNat]
  refine vcCall.f (check_ok' f _ _) ?_
  simp only [go_sem, ↓reduceIte, Nat.reduceEqDiff, Nat.reduceAdd, Nat.reduceLeDiff, Nat.reduceLT, reduceCtorEq, Nat.reduceMul, Nat.reduceSub, Int.reduceEq, Int.reduceLT, Int.reduceLE, Int.reduceToNat]
  refine cdK_of (fun h0 => ?_) (fun h0 => ?_)
  · simp only [go_sem, ↓reduceIte, Nat.reduceEqDiff, Nat.reduceAdd, Nat.reduceLeDiff, Nat.reduceLT, reduceCtorEq, Nat.reduceMul, Nat.reduceSub, Int.reduceEq, Int.reduceLT, Int.reduceLE, Int.reduceToNat]
    grind [putS]
  have h0 : chk f = 0 := by simpa using h0
  obtain ⟨hi, hs, ha, hz⟩ := chk_num h0
  have hz' : 0 ≤ (f.b.size : Int) ∧ (f.b.size : Int) < 4611686018427387904 := by omega
  simp only [wr8, go_sem, ↓reduceIte, Nat.reduceEqDiff, Nat.reduceAdd, Nat.reduceLeDiff, Nat.reduceLT, reduceCtorEq, Nat.reduceMul, Nat.reduceSub, Int.reduceEq, Int.reduceLT, Int.reduceLE, Int.reduceToNat]
  refine vcCall.x (four_ok _ _ f.i (by omega) _ _ (by simp) (by simp) _ _ (gc_same _ _ _)) ?_
  simp only [go_sem, ↓reduceIte, Nat.reduceEqDiff, Nat.reduceAdd, Nat.reduceLeDiff, Nat.reduceLT, reduceCtorEq, Nat.reduceMul, Nat.reduceSub, Int.reduceEq, Int.reduceLT, Int.reduceLE, Int.reduceToNat]
  refine vcCall.x (four_ok _ _ f.s (by omega) _ _ (by simp [n4]) (by simp) _ _ (gc_same _ _ _)) ?_
  simp only [go_sem, ↓reduceIte, Nat.reduceEqDiff, Nat.reduceAdd, Nat.reduceLeDiff, Nat.reduceLT, reduceCtorEq, Nat.reduceMul, Nat.reduceSub, Int.reduceEq, Int.reduceLT, Int.reduceLE, Int.reduceToNat]
  refine vcCall.x (four_ok _ _ f.a (by omega) _ _ (by simp [n4]) (by simp) _ _ (gc_same _ _ _)) ?_
  simp only [go_sem, ↓reduceIte, Nat.reduceEqDiff, Nat.reduceAdd, Nat.reduceLeDiff, Nat.reduceLT, reduceCtorEq, Nat.reduceMul, Nat.reduceSub, Int.reduceEq, Int.reduceLT, Int.reduceLE, Int.reduceToNat]
  refine vcCall.x (four_ok _ _ (f.b.size : Int) hz' _ _ (by simp [n4]) (by simp) _ _ (gc_same _ _ _)) ?_
  simp only [go_sem, ↓reduceIte, Nat.reduceEqDiff, Nat.reduceAdd, Nat.reduceLeDiff, Nat.reduceLT, reduceCtorEq, Nat.reduceMul, Nat.reduceSub, Int.reduceEq, Int.reduceLT, Int.reduceLE, Int.reduceToNat]
  refine loop (fun j : Nat => ⟨[(1, .bx m 0), (5, .rw (m + 1) (4 + j) (pre f 5 ++ (bs f.b).take j).length), (6, .i .i64 j)], (m + 1, .rw (4 + j) 1 (byC (pre f 5 ++ (bs f.b).take j))) :: (m, .bx [.i .i64 f.k, .i .i64 f.i, .i .i64 f.s, .i .i64 f.a, .s f.b]) :: hp, m + 2⟩) (fun j => j ≤ f.b.size) (fun j => f.b.size - j) 0 ?_ ?_ (fun j hj => ?_)
  · omega
  · refine weak_ok ?_ (Sub.cons ?_ (Sub.cons ?_ (Sub.base hf ?_))) (Nat.le_refl _)
    all_goals simp only [go_sem, ↓reduceIte, Nat.reduceEqDiff, Nat.reduceAdd, Nat.reduceLeDiff, Nat.reduceLT, reduceCtorEq, Nat.reduceMul, Nat.reduceSub, Int.reduceEq, Int.reduceLT, Int.reduceLE, Int.reduceToNat]
    · simp [pre, n4]
    · simp [pre, n4, mapC, by1]
  · have hL : (pre f 5 ++ (bs f.b).take j).length = 17 + j := by
      simp [pre, n4, bs_len]; omega
    simp only [go_sem, ↓reduceIte, Nat.reduceEqDiff, Nat.reduceAdd, Nat.reduceLeDiff, Nat.reduceLT, reduceCtorEq, Nat.reduceMul, Nat.reduceSub, Int.reduceEq, Int.reduceLT, Int.reduceLE, Int.reduceToNat]
    repeat' (first
      | ((with_reducible refine cdK_of (fun _ => ?_) (fun _ => ?_)) <;> (try simp only [go_sem, ↓reduceIte, Nat.reduceEqDiff, Nat.reduceAdd, Nat.reduceLeDiff, Nat.reduceLT, reduceCtorEq, Nat.reduceMul, Nat.reduceSub, Int.reduceEq, Int.reduceLT, Int.reduceLE, Int.reduceToNat]))
      | ((with_reducible refine grK_of (fun _ => ?_) (fun _ => ?_)) <;> (try simp only [go_sem, ↓reduceIte, Nat.reduceEqDiff, Nat.reduceAdd, Nat.reduceLeDiff, Nat.reduceLT, reduceCtorEq, Nat.reduceMul, Nat.reduceSub, Int.reduceEq, Int.reduceLT, Int.reduceLE, Int.reduceToNat]))
      | ((with_reducible refine gCall.s (vcIf_of (fun _ => ?_) (fun _ => ?_))) <;> (try simp only [go_sem, ↓reduceIte, Nat.reduceEqDiff, Nat.reduceAdd, Nat.reduceLeDiff, Nat.reduceLT, reduceCtorEq, Nat.reduceMul, Nat.reduceSub, Int.reduceEq, Int.reduceLT, Int.reduceLE, Int.reduceToNat]))
      | ((with_reducible refine ⟨(j + 1), ?_, ?_, weak_ok ?_ ?_ (Nat.le_refl _)⟩) <;> (try simp only [go_sem, ↓reduceIte, Nat.reduceEqDiff, Nat.reduceAdd, Nat.reduceLeDiff, Nat.reduceLT, reduceCtorEq, Nat.reduceMul, Nat.reduceSub, Int.reduceEq, Int.reduceLT, Int.reduceLE, Int.reduceToNat]))
      | with_reducible exact Sub.refl _
      | ((with_reducible refine Sub.cons ?_ ?_) <;> (try simp only [go_sem, ↓reduceIte, Nat.reduceEqDiff, Nat.reduceAdd, Nat.reduceLeDiff, Nat.reduceLT, reduceCtorEq, Nat.reduceMul, Nat.reduceSub, Int.reduceEq, Int.reduceLT, Int.reduceLE, Int.reduceToNat]))
      | ((with_reducible refine Sub.base hf ?_); try simp only [go_sem, ↓reduceIte, Nat.reduceEqDiff, Nat.reduceAdd, Nat.reduceLeDiff, Nat.reduceLT, reduceCtorEq, Nat.reduceMul, Nat.reduceSub, Int.reduceEq, Int.reduceLT, Int.reduceLE, Int.reduceToNat])
      | ((with_reducible refine getK.m ?_ (fun _ _ => ?_)); rotate_left; try simp only [go_sem, ↓reduceIte, Nat.reduceEqDiff, Nat.reduceAdd, Nat.reduceLeDiff, Nat.reduceLT, reduceCtorEq, Nat.reduceMul, Nat.reduceSub, Int.reduceEq, Int.reduceLT, Int.reduceLE, Int.reduceToNat])
      | exact mapC_all (fun _ => rfl)
      | exact mapC_alln (fun _ => ⟨rfl, rfl⟩)
      | with_reducible refine And.intro ?_ ?_)
    all_goals clear hf
    all_goals grind [putS, putB, pre, List.take_add_one]
end Go.Proofs.Ytnkddjdjiibkfaa
