/-
  Plain facts of frames and their bytes. Conditions: none.
-/
import Derived.Test.YtnkddjdjiibkfaaFrF
namespace Go.Proofs.Ytnkddjdjiibkfaa
open Go.Eng
set_option linter.unusedVariables false
set_option linter.unusedSimpArgs false
set_option maxRecDepth 20000
theorem be_n4 (n : Int) (h : 0 ≤ n ∧ n < 4294967296) : be (u8 (n / 16777216)) (u8 (n / 65536)) (u8 (n / 256)) (u8 n) = n := by
  have t : ∀ x : Int, ((u8 x).toNat : Int) = x % 256 := fun x => by
    unfold u8
    have : (x % 256).toNat < 256 := by omega
    simp [Nat.mod_eq_of_lt this]
    omega
  unfold be
  rw [t, t, t, t]
  omega
theorem numAt_at (p q : List UInt8) (n : Int) (h : 0 ≤ n ∧ n < 4294967296) : numAt (p ++ (n4 n ++ q)) p.length = n := by
  unfold numAt n4
  rw [hide_eq]
  have g : ∀ i, (p ++ ([u8 (n / 16777216), u8 (n / 65536), u8 (n / 256), u8 n] ++ q)).getD (p.length + i) 0 = ([u8 (n / 16777216), u8 (n / 65536), u8 (n / 256), u8 n] ++ q).getD i 0 := by
    intro i
    have : ¬ (p.length + i < p.length) := by omega
    simp [List.getD, List.getElem?_append, this]
  have g0 := g 0
  simp only [Nat.add_zero] at g0
  rw [g0, g 1, g 2, g 3]
  exact be_n4 n h
theorem n4_len (n : Int) : (n4 n).length = 4 := rfl
theorem chk_k {f : Frm} (h : chk f = 0) : kOk f.k = true ∧ oth f f.b.size = false := by
  unfold chk at h
  grind
theorem bs_take (f : Frm) : (⟨⟨bs f.b⟩⟩ : ByteArray) = f.b := rfl
/-- The bytes of a frame are read back. -/
theorem getS_put (f : Frm) (h : chk f = 0) (r : List UInt8) : getS (putB f ++ r) = (f, r, 0) := by
  obtain ⟨hi, hs, ha, hz⟩ := chk_num h
  obtain ⟨hk, ho⟩ := chk_k h
  have hz' : 0 ≤ (f.b.size : Int) ∧ (f.b.size : Int) < 4294967296 := by omega
  have e : putB f ++ r = [u8 f.k] ++ (n4 f.i ++ (n4 f.s ++ (n4 f.a ++ (n4 f.b.size ++ (bs f.b ++ r))))) := by simp [putB, List.append_assoc]
  have e1 : numAt (putB f ++ r) 1 = f.i := by rw [e]; exact numAt_at [u8 f.k] _ _ hi
  have e5 : numAt (putB f ++ r) 5 = f.s := by
    rw [e]
    have := numAt_at ([u8 f.k] ++ n4 f.i) (n4 f.a ++ (n4 f.b.size ++ (bs f.b ++ r))) _ hs
    simpa [n4_len] using this
  have e9 : numAt (putB f ++ r) 9 = f.a := by
    rw [e]
    have := numAt_at ([u8 f.k] ++ n4 f.i ++ n4 f.s) (n4 f.b.size ++ (bs f.b ++ r)) _ ha
    simpa [n4_len] using this
  have e13 : numAt (putB f ++ r) 13 = f.b.size := by
    rw [e]
    have := numAt_at ([u8 f.k] ++ n4 f.i ++ n4 f.s ++ n4 f.a) (bs f.b ++ r) _ hz'
    simpa [n4_len] using this
  have ek : kOf (putB f ++ r) = f.k := by
    rw [kOf_eq]
    have hb : 1 ≤ f.k ∧ f.k ≤ 8 := by simpa [kOk] using hk
    simp [putB, u8]
    omega
  have hlen : (putB f ++ r).length = 17 + f.b.size + r.length := by simp [putB, n4_len]; omega
  have hd : (putB f ++ r).drop 17 = bs f.b ++ r := by
    rw [e]
    simp [n4]
  have hne : putB f ++ r ≠ [] := by intro h; rw [h] at hlen; simp at hlen; omega
  have ho' : oth (headF (putB f ++ r)) (f.b.size : Int) = false := by
    have : oth (headF (putB f ++ r)) (f.b.size : Int) = oth f f.b.size := by simp [oth, headF, ek, e1, e5, e9, Frm.k_mk, Frm.i_mk, Frm.s_mk, Frm.a_mk]
    rw [this, ho]
  unfold getS
  rw [if_neg hne, ek, if_neg (by simp [hk]), if_neg (by omega), e13, if_neg (by simp [ho']), if_neg (by omega), if_neg (by omega), e1, e5, e9, hd]
  have d2 : (putB f ++ r).drop (17 + f.b.size) = r := by
    rw [← List.drop_drop, hd, List.drop_append_of_le_length (by simp)]
    simp [← bs_len]
  have t2 : (bs f.b ++ r).take f.b.size = bs f.b := by
    rw [← bs_len, List.take_left']
    rfl
  simp only [Int.toNat_natCast, d2, t2]
  refine Prod.ext ?_ rfl
  exact Frm.ext rfl rfl rfl rfl rfl
theorem u8_of {x : Int} {a : UInt8} (h : x % 256 = (a.toNat : Int)) : u8 x = a := by
  have := a.toNat_lt
  apply UInt8.toNat_inj.1
  unfold u8
  rw [h]
  simp
theorem n4_be (a b c d : UInt8) : n4 (be a b c d) = [a, b, c, d] := by
  have := a.toNat_lt
  have := b.toNat_lt
  have := c.toNat_lt
  have := d.toNat_lt
  unfold n4 be
  rw [u8_of (a := a) (by omega), u8_of (a := b) (by omega), u8_of (a := c) (by omega), u8_of (a := d) (by omega)]
theorem be_lt (a b c d : UInt8) : 0 ≤ be a b c d ∧ be a b c d < 4294967296 := by
  have := a.toNat_lt
  have := b.toNat_lt
  have := c.toNat_lt
  have := d.toNat_lt
  unfold be
  omega
theorem getS_err (b : List UInt8) (h : (getS b).2.2 ≠ 0) : (getS b).2.1 = [] := by
  unfold getS at h ⊢
  grind
theorem size_mk (l : List UInt8) : (⟨⟨l⟩⟩ : ByteArray).size = l.length := rfl
theorem putB_mk (k i s a : Int) (b : ByteArray) : putB ⟨k, i, s, a, b⟩ = u8 k :: (n4 i ++ n4 s ++ n4 a ++ n4 b.size ++ bs b) := rfl
theorem chk_mk (k i s a : Int) (b : ByteArray) : chk ⟨k, i, s, a, b⟩ = if kOk k = false then 9 else if wide i || wide s || wide a then 2 else if oth ⟨k, i, s, a, b⟩ b.size then 3 else if 65536 < (b.size : Int) then 4 else 0 := rfl
theorem oth_mk (k i s a : Int) (b b' : ByteArray) (n : Int) : oth ⟨k, i, s, a, b⟩ n = oth ⟨k, i, s, a, b'⟩ n := rfl
theorem back_aux (x0 x1 x2 x3 x4 x5 x6 x7 x8 x9 x10 x11 x12 x13 x14 x15 x16 : UInt8) (b : List UInt8) (n1 n5 n9 z : Int) (q1 : n4 n1 = [x1, x2, x3, x4]) (q5 : n4 n5 = [x5, x6, x7, x8]) (q9 : n4 n9 = [x9, x10, x11, x12]) (q13 : n4 z = [x13, x14, x15, x16])
    (a1 : 0 ≤ n1 ∧ n1 < 4294967296) (a5 : 0 ≤ n5 ∧ n5 < 4294967296) (a9 : 0 ≤ n9 ∧ n9 < 4294967296) (h2 : kOk (x0.toNat : Int) = true) (h4 : oth ⟨(x0.toNat : Int), n1, n5, n9, ⟨#[]⟩⟩ z = false) (h5 : z ≤ 65536) (hn : 0 ≤ z) (hsz : z.toNat ≤ b.length) (B : ByteArray) (hBs : (B.size : Int) = z) (hBb : bs B = List.take z.toNat b) :
    chk ⟨(x0.toNat : Int), n1, n5, n9, B⟩ = 0 ∧ putB ⟨(x0.toNat : Int), n1, n5, n9, B⟩ ++ List.drop z.toNat b = x0 :: x1 :: x2 :: x3 :: x4 :: x5 :: x6 :: x7 :: x8 :: x9 :: x10 :: x11 :: x12 :: x13 :: x14 :: x15 :: x16 :: b := by
  constructor
  · rw [chk_mk, hBs, if_neg (by simp [h2]), if_neg (by simp [wide]; omega), if_neg (by rw [oth_mk _ _ _ _ _ ⟨#[]⟩, h4]; simp), if_neg (by omega)]
  · rw [putB_mk, hBs, hBb, q1, q5, q9, q13, u8_nat]
    show x0 :: x1 :: x2 :: x3 :: x4 :: x5 :: x6 :: x7 :: x8 :: x9 :: x10 :: x11 :: x12 :: x13 :: x14 :: x15 :: x16 :: (List.take z.toNat b ++ List.drop z.toNat b) = _
    rw [List.take_append_drop]
theorem n4_beh (a b c d : UInt8) : n4 (hide (be a b c d)) = [a, b, c, d] := by rw [hide_eq]; exact n4_be a b c d
theorem be_lth (a b c d : UInt8) : 0 ≤ hide (be a b c d) ∧ hide (be a b c d) < 4294967296 := by rw [hide_eq]; exact be_lt a b c d
theorem getS_back (b : List UInt8) (h : (getS b).2.2 = 0) : chk (getS b).1 = 0 ∧ putB (getS b).1 ++ (getS b).2.1 = b := by
  have hh : b ≠ [] ∧ kOk (kOf b) = true ∧ 17 ≤ b.length ∧ oth (headF b) (numAt b 13) = false ∧ numAt b 13 ≤ 65536 ∧ numAt b 13 ≤ (b.length : Int) - 17 ∧
      getS b = (⟨kOf b, numAt b 1, numAt b 5, numAt b 9, ⟨((b.drop 17).take (numAt b 13).toNat).toArray⟩⟩, b.drop (17 + (numAt b 13).toNat), 0) := by
    unfold getS at h
    by_cases c1 : b = []
    · rw [if_pos c1] at h; exact absurd h (by simp)
    rw [if_neg c1] at h
    by_cases c2 : kOk (kOf b) = false
    · rw [if_pos c2] at h; exact absurd h (by simp)
    rw [if_neg c2] at h
    by_cases c3 : b.length < 17
    · rw [if_pos c3] at h; exact absurd h (by simp)
    rw [if_neg c3] at h
    by_cases c4 : oth (headF b) (numAt b 13) = true
    · rw [if_pos c4] at h; exact absurd h (by simp)
    rw [if_neg c4] at h
    by_cases c5 : 65536 < numAt b 13
    · rw [if_pos c5] at h; exact absurd h (by simp)
    rw [if_neg c5] at h
    by_cases c6 : (b.length : Int) - 17 < numAt b 13
    · rw [if_pos c6] at h; exact absurd h (by simp)
    refine ⟨c1, by simpa using c2, by omega, by simpa using c4, by omega, by omega, ?_⟩
    unfold getS
    rw [if_neg c1, if_neg c2, if_neg c3, if_neg c4, if_neg c5, if_neg c6]
  obtain ⟨h1, h2, hl, h4, h5, h6, h7⟩ := hh
  rw [h7]
  dsimp only
  have hn := numAt_nn b 13
  obtain ⟨x0, b, rfl⟩ : ∃ x r, b = x :: r := by cases b with | nil => simp at hl | cons x r => exact ⟨x, r, rfl⟩
  obtain ⟨x1, b, rfl⟩ : ∃ x r, b = x :: r := by cases b with | nil => simp at hl | cons x r => exact ⟨x, r, rfl⟩
  obtain ⟨x2, b, rfl⟩ : ∃ x r, b = x :: r := by cases b with | nil => simp at hl | cons x r => exact ⟨x, r, rfl⟩
  obtain ⟨x3, b, rfl⟩ : ∃ x r, b = x :: r := by cases b with | nil => simp at hl | cons x r => exact ⟨x, r, rfl⟩
  obtain ⟨x4, b, rfl⟩ : ∃ x r, b = x :: r := by cases b with | nil => simp at hl | cons x r => exact ⟨x, r, rfl⟩
  obtain ⟨x5, b, rfl⟩ : ∃ x r, b = x :: r := by cases b with | nil => simp at hl | cons x r => exact ⟨x, r, rfl⟩
  obtain ⟨x6, b, rfl⟩ : ∃ x r, b = x :: r := by cases b with | nil => simp at hl | cons x r => exact ⟨x, r, rfl⟩
  obtain ⟨x7, b, rfl⟩ : ∃ x r, b = x :: r := by cases b with | nil => simp at hl | cons x r => exact ⟨x, r, rfl⟩
  obtain ⟨x8, b, rfl⟩ : ∃ x r, b = x :: r := by cases b with | nil => simp at hl | cons x r => exact ⟨x, r, rfl⟩
  obtain ⟨x9, b, rfl⟩ : ∃ x r, b = x :: r := by cases b with | nil => simp at hl | cons x r => exact ⟨x, r, rfl⟩
  obtain ⟨x10, b, rfl⟩ : ∃ x r, b = x :: r := by cases b with | nil => simp at hl | cons x r => exact ⟨x, r, rfl⟩
  obtain ⟨x11, b, rfl⟩ : ∃ x r, b = x :: r := by cases b with | nil => simp at hl | cons x r => exact ⟨x, r, rfl⟩
  obtain ⟨x12, b, rfl⟩ : ∃ x r, b = x :: r := by cases b with | nil => simp at hl | cons x r => exact ⟨x, r, rfl⟩
  obtain ⟨x13, b, rfl⟩ : ∃ x r, b = x :: r := by cases b with | nil => simp at hl | cons x r => exact ⟨x, r, rfl⟩
  obtain ⟨x14, b, rfl⟩ : ∃ x r, b = x :: r := by cases b with | nil => simp at hl | cons x r => exact ⟨x, r, rfl⟩
  obtain ⟨x15, b, rfl⟩ : ∃ x r, b = x :: r := by cases b with | nil => simp at hl | cons x r => exact ⟨x, r, rfl⟩
  obtain ⟨x16, b, rfl⟩ : ∃ x r, b = x :: r := by cases b with | nil => simp at hl | cons x r => exact ⟨x, r, rfl⟩
  have k0 : kOf (x0 :: x1 :: x2 :: x3 :: x4 :: x5 :: x6 :: x7 :: x8 :: x9 :: x10 :: x11 :: x12 :: x13 :: x14 :: x15 :: x16 :: b) = x0.toNat := by rw [kOf_eq]; simp
  have k1 : numAt (x0 :: x1 :: x2 :: x3 :: x4 :: x5 :: x6 :: x7 :: x8 :: x9 :: x10 :: x11 :: x12 :: x13 :: x14 :: x15 :: x16 :: b) 1 = hide (be x1 x2 x3 x4) := by unfold numAt; simp
  have k5 : numAt (x0 :: x1 :: x2 :: x3 :: x4 :: x5 :: x6 :: x7 :: x8 :: x9 :: x10 :: x11 :: x12 :: x13 :: x14 :: x15 :: x16 :: b) 5 = hide (be x5 x6 x7 x8) := by unfold numAt; simp
  have k9 : numAt (x0 :: x1 :: x2 :: x3 :: x4 :: x5 :: x6 :: x7 :: x8 :: x9 :: x10 :: x11 :: x12 :: x13 :: x14 :: x15 :: x16 :: b) 9 = hide (be x9 x10 x11 x12) := by unfold numAt; simp
  have k13 : numAt (x0 :: x1 :: x2 :: x3 :: x4 :: x5 :: x6 :: x7 :: x8 :: x9 :: x10 :: x11 :: x12 :: x13 :: x14 :: x15 :: x16 :: b) 13 = hide (be x13 x14 x15 x16) := by unfold numAt; simp
  unfold headF at h4
  rw [k0] at h2
  rw [k13] at hn h5 h6
  rw [k0, k1, k5, k9, k13] at h4
  have hb : b.length + 17 = (x0 :: x1 :: x2 :: x3 :: x4 :: x5 :: x6 :: x7 :: x8 :: x9 :: x10 :: x11 :: x12 :: x13 :: x14 :: x15 :: x16 :: b).length := by simp
  have hsz : (hide (be x13 x14 x15 x16)).toNat ≤ b.length := by omega
  have hd : (x0 :: x1 :: x2 :: x3 :: x4 :: x5 :: x6 :: x7 :: x8 :: x9 :: x10 :: x11 :: x12 :: x13 :: x14 :: x15 :: x16 :: b).drop 17 = b := rfl
  have hd2 : (x0 :: x1 :: x2 :: x3 :: x4 :: x5 :: x6 :: x7 :: x8 :: x9 :: x10 :: x11 :: x12 :: x13 :: x14 :: x15 :: x16 :: b).drop (17 + (hide (be x13 x14 x15 x16)).toNat) = b.drop (hide (be x13 x14 x15 x16)).toNat := by rw [← List.drop_drop, hd]
  rw [k0, k1, k5, k9, k13, hd, hd2]
  exact back_aux x0 x1 x2 x3 x4 x5 x6 x7 x8 x9 x10 x11 x12 x13 x14 x15 x16 b _ _ _ _ (n4_beh x1 x2 x3 x4) (n4_beh x5 x6 x7 x8) (n4_beh x9 x10 x11 x12) (n4_beh x13 x14 x15 x16) (be_lth _ _ _ _) (be_lth _ _ _ _) (be_lth _ _ _ _) h2 h4 h5 hn hsz _ (by rw [size_mk]; simp; omega) (bs_mk _)
theorem getD_take (l : List UInt8) (n i : Nat) (h : i < n) : (l.take n).getD i 0 = l.getD i 0 := by
  simp [List.getD, List.getElem?_take, h]
theorem numAt_take (l : List UInt8) (n j : Nat) (h : j + 3 < n) : numAt (l.take n) j = numAt l j := by
  unfold numAt
  rw [getD_take _ _ _ (by omega), getD_take _ _ _ (by omega), getD_take _ _ _ (by omega), getD_take _ _ _ (by omega)]
/-- What is read of a frame's bytes. -/
theorem put_nums (f : Frm) (h : chk f = 0) : kOf (putB f) = f.k ∧ numAt (putB f) 1 = f.i ∧ numAt (putB f) 5 = f.s ∧ numAt (putB f) 9 = f.a ∧ numAt (putB f) 13 = f.b.size ∧ (putB f).length = 17 + f.b.size := by
  have e := getS_put f h []
  rw [List.append_nil] at e
  have hl : (putB f).length = 17 + f.b.size := by simp [putB, n4_len]; omega
  have c := getS_back (putB f) (by rw [e])
  obtain ⟨hi, hs, ha, hz⟩ := chk_num h
  obtain ⟨hk, ho⟩ := chk_k h
  have hz' : 0 ≤ (f.b.size : Int) ∧ (f.b.size : Int) < 4294967296 := by omega
  have hp : putB f = [u8 f.k] ++ (n4 f.i ++ (n4 f.s ++ (n4 f.a ++ (n4 f.b.size ++ bs f.b)))) := by simp [putB, List.append_assoc]
  refine ⟨?_, ?_, ?_, ?_, ?_, hl⟩
  · rw [kOf_eq]
    have hb : 1 ≤ f.k ∧ f.k ≤ 8 := by simpa [kOk] using hk
    simp [putB, u8]
    omega
  · rw [hp]; exact numAt_at [u8 f.k] _ _ hi
  · rw [hp]
    have := numAt_at ([u8 f.k] ++ n4 f.i) (n4 f.a ++ (n4 f.b.size ++ bs f.b)) _ hs
    simpa [n4_len] using this
  · rw [hp]
    have := numAt_at ([u8 f.k] ++ n4 f.i ++ n4 f.s) (n4 f.b.size ++ bs f.b) _ ha
    simpa [n4_len] using this
  · rw [hp]
    have := numAt_at ([u8 f.k] ++ n4 f.i ++ n4 f.s ++ n4 f.a) (bs f.b) _ hz'
    simpa [n4_len] using this
/-- A proper prefix of a frame's bytes is not complete. -/
theorem getS_cut (f : Frm) (h : chk f = 0) (n : Nat) (hn : n < (putB f).length) : getS ((putB f).take n) = (zFr, [], 8) := by
  obtain ⟨k0, k1, k5, k9, k13, hl⟩ := put_nums f h
  obtain ⟨hi, hs, ha, hz⟩ := chk_num h
  obtain ⟨hk, ho⟩ := chk_k h
  have hlen : ((putB f).take n).length = n := by simp; omega
  by_cases n0 : n = 0
  · subst n0
    simp [getS]
  have hne : (putB f).take n ≠ [] := by intro e; rw [e] at hlen; simp at hlen; omega
  have hk0 : kOf ((putB f).take n) = f.k := by
    rw [kOf_eq, getD_take _ _ _ (by omega), ← kOf_eq, k0]
  unfold getS
  rw [if_neg hne, hk0, if_neg (by simp [hk])]
  by_cases hs17 : n < 17
  · rw [if_pos (by omega)]
  have e1 := (numAt_take (putB f) n 1 (by omega)).trans k1
  have e5 := (numAt_take (putB f) n 5 (by omega)).trans k5
  have e9 := (numAt_take (putB f) n 9 (by omega)).trans k9
  have e13 := (numAt_take (putB f) n 13 (by omega)).trans k13
  have ho' : oth (headF ((putB f).take n)) (f.b.size : Int) = false := by
    have : oth (headF ((putB f).take n)) (f.b.size : Int) = oth f f.b.size := by simp [oth, headF, hk0, e1, e5, e9, Frm.k_mk, Frm.i_mk, Frm.s_mk, Frm.a_mk]
    rw [this, ho]
  rw [if_neg (by omega), e13, if_neg (by simp [ho']), if_neg (by omega), if_pos (by omega)]
end Go.Proofs.Ytnkddjdjiibkfaa
