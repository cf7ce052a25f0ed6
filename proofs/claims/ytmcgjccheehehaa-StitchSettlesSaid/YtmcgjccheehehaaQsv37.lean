/-
  The parts SaJ of the proof, in one file. Conditions: none.
-/
import Derived.Test.YtmcgjccheehehaaQse36
namespace Go.Proofs.Ytmcgjccheehehaa
open Go.Eng
set_option linter.unusedVariables false
set_option linter.unusedSimpArgs false
set_option maxRecDepth 20000
set_option maxHeartbeats 2000000
theorem ix_nn (k : ByteArray) : ∀ (l : List ByteArray) (j : Nat), 0 ≤ ix k l j ↔ inB k l = true
  | [], j => by simp [ix, inB]
  | x :: l, j => by
    have h := ix_nn k l (j + 1)
    unfold ix
    by_cases e : x = k
    · simp [inB, e]
    · rw [if_neg (by first | exact e | exact fun q => e q.symm), h]
      simp [inB, e]
theorem sindex_len (v : Val) (h1 : v.keys.length * 16 ≤ 140737488355327) (k : ByteArray) (hp : CH) (m : Nat) : MeetsF Try.prog 92 hp m [vx v, .s k] (.i .i64 (ixO v k)) := by
  have h2 := szO_le v
  have h3 : (v.keys.take (szO v)).length ≤ 9223372036854775806 := by rw [List.length_take]; omega
  have h4 := index_ok (v.keys.take (szO v)) k h3
  obtain ⟨X, hX⟩ : ∃ X, ixO v k = X := ⟨_, rfl⟩
  have e := hX
  unfold ixO at e
  rw [e] at h4
  rw [hX]
  obtain ⟨Z, hZ⟩ : ∃ Z, szO v = Z := ⟨_, rfl⟩
  have hs := ssize_ok v
  rw [hZ] at h4 hs h2
  refine meetsF Try.func92 (by kernel_rfl) cc92 cr92 rfl fun hf => ?_; unfold ck92
  simp only [go_sem, ↓reduceIte, Nat.reduceEqDiff, Nat.reduceBEq, Nat.reduceAdd, Nat.reduceLeDiff, Nat.reduceLT, reduceCtorEq, Nat.reduceMul, Nat.reduceSub, Int.reduceEq, Int.reduceLT, Int.reduceLE, Int.reduceToNat]
  first | refine dCallR.f (fun _ _ _ => hs _ _) ?_ | refine dCall.f (fun _ _ _ => hs _ _) ?_
  simp only [go_sem, ↓reduceIte, Nat.reduceEqDiff, Nat.reduceBEq, Nat.reduceAdd, Nat.reduceLeDiff, Nat.reduceLT, reduceCtorEq, Nat.reduceMul, Nat.reduceSub, Int.reduceEq, Int.reduceLT, Int.reduceLE, Int.reduceToNat]
  refine ⟨by omega, ?_⟩
  first | refine dCallR.f (fun _ _ _ => h4 _ _) ?_ | refine dCall.f (fun _ _ _ => h4 _ _) ?_
  simp only [go_sem, ↓reduceIte, Nat.reduceEqDiff, Nat.reduceBEq, Nat.reduceAdd, Nat.reduceLeDiff, Nat.reduceLT, reduceCtorEq, Nat.reduceMul, Nat.reduceSub, Int.reduceEq, Int.reduceLT, Int.reduceLE, Int.reduceToNat]
/-- The place of a key in an object that is being made. -/
theorem ixO_out {K : List ByteArray} {I : List Val} (h : K.length = I.length) (k : ByteArray) : 0 ≤ ixO (.mk 6 0 ⟨#[]⟩ I K) k ↔ inB k K = true := by
  unfold ixO
  rw [show szO (.mk 6 0 ⟨#[]⟩ I K) = K.length by unfold szO; simp only [Val.keys_mk, Val.items_mk]; omega]
  simp only [Val.keys_mk]
  rw [List.take_length, ix_nn]
theorem addF_end {K ks : List ByteArray} {I r : List Val} (h : ks = [] ∨ r = []) : addF K I ks r = (K, I) := by
  rcases h with h | h
  · subst h
    rw [addF]
    simp
  · subst h
    rw [addF]
    simp
/-- Values that may be joined with themselves. -/
inductive Sf : Val → Prop
  | mk (v : Val) : v.Fit → v.items.length ≤ 1759218604390 → (v.k = 6 → (∀ (j : Nat) x k y, v.items[j]? = some x → v.keys[j]? = some k → v.items[(ixO v k).toNat]? = some y → y = x) ∧ ∀ k ∈ v.keys, inB k (v.keys.take (szO v)) = true) → (∀ x ∈ v.items, Sf x) → Sf v
theorem Sf.f {v : Val} (h : Sf v) : v.Fit := by cases h; assumption
theorem Sf.n {v : Val} (h : Sf v) : v.items.length ≤ 1759218604390 := by cases h; assumption
theorem Sf.o {v : Val} (h : Sf v) : v.k = 6 → (∀ (j : Nat) x k y, v.items[j]? = some x → v.keys[j]? = some k → v.items[(ixO v k).toNat]? = some y → y = x) ∧ ∀ k ∈ v.keys, inB k (v.keys.take (szO v)) = true := by cases h; assumption
theorem Sf.x {v : Val} (h : Sf v) : ∀ x ∈ v.items, Sf x := by cases h; assumption
/-- What is joined is not too long. -/
def Jb (a b : Val) : Prop := (a.items.length ≤ 100000000000 ∧ b.items.length ≤ 100000000000) ∨ (a.items.length ≤ 1759218604390 ∧ ∀ k ∈ b.keys, inB k (a.keys.take (szO a)) = true)
theorem jobj_of (a b : Val) (fa : a.Fit) (fb : b.Fit) (JC : Jb a b) (hb6 : b.k = 6)
    (ih : ∀ (j : Nat) x k y, a.items[j]? = some x → a.keys[j]? = some k → b.items[(ixO b k).toNat]? = some y → ∀ hp m, MeetsF Try.prog 34 hp m [vx x, vx y] (vx (joinV x y))) (hp : CH) (m : Nat) :
    MeetsF Try.prog 66 hp m [vx a, vx b] (vx (joinO a b)) := by
  have la : a.items.length ≤ 1759218604441 := by have := fa.i; omega
  have lb : b.items.length ≤ 1759218604441 := by have := fb.i; omega
  have hs1 := ssize_ok a
  have hs2 := ssize_ok b
  have sa := szO_le a
  have sb := szO_le b
  obtain ⟨Za, hZa⟩ : ∃ Z, szO a = Z := ⟨_, rfl⟩
  obtain ⟨Zb, hZb⟩ : ∃ Z, szO b = Z := ⟨_, rfl⟩
  obtain ⟨R, hR⟩ : ∃ R, joinF a b = R := ⟨_, rfl⟩
  have eR := hR
  unfold joinO
  rw [hR]
  unfold joinF at eR
  rw [hZa] at hs1 sa eR
  rw [hZb] at hs2 sb
  refine meetsF Try.func66 (by kernel_rfl) cc66 cr66 rfl fun hf => ?_; unfold ck66
  simp only [go_sem, ↓reduceIte, Nat.reduceEqDiff, Nat.reduceBEq, Nat.reduceAdd, Nat.reduceLeDiff, Nat.reduceLT, reduceCtorEq, Nat.reduceMul, Nat.reduceSub, Int.reduceEq, Int.reduceLT, Int.reduceLE, Int.reduceToNat]
  first | refine dCallR.f (fun _ _ _ => hs1 _ _) ?_ | refine dCall.f (fun _ _ _ => hs1 _ _) ?_
  simp only [go_sem, ↓reduceIte, Nat.reduceEqDiff, Nat.reduceBEq, Nat.reduceAdd, Nat.reduceLeDiff, Nat.reduceLT, reduceCtorEq, Nat.reduceMul, Nat.reduceSub, Int.reduceEq, Int.reduceLT, Int.reduceLE, Int.reduceToNat]
  refine ⟨by omega, ?_⟩
  have hta : (a.keys.take Za).length = Za := by rw [List.length_take]; omega
  have htb : (b.keys.take Zb).length = Zb := by rw [List.length_take]; omega
  have hIl : ∀ j, j ≤ Za → (joinI (a.items.take j) (a.keys.take j) b).length = j := fun j hj => by rw [joinI_len, List.length_take, List.length_take]; omega
  have hKl : ∀ j, j ≤ Za → (a.keys.take j).length = j := fun j hj => by rw [List.length_take]; omega
  refine loop (fun p : Nat × Nat => ⟨[(2, .bx m 0), (3, .bx (m + 1) 0), (4, .bx (m + 2) 0), (5, .bx (m + 3) 0), (17, .ds (stC (a.keys.take Za))), (18, .i .i64 Za), (19, .i .i64 p.1)],
      (m + 3, .bx [.i .i64 6, .i .i64 0, .s ⟨#[]⟩, .rw (m + 11) p.1 p.1, .rw (m + 12) p.1 p.1]) :: (m + 11, .rw p.1 5 (mapC valC (joinI (a.items.take p.1) (a.keys.take p.1) b))) :: (m + 12, .rw p.1 1 (stC (a.keys.take p.1))) ::
      (m + 2, .bx [.i .i64 0, .i .i64 0, .s ⟨#[]⟩, .e0, .e0]) :: (m + 1, .bx [.i .i64 b.k, .i .i64 b.n, .s b.s, .ds (mapC valC b.items), .ds (stC b.keys)]) ::
      (m, .bx [.i .i64 a.k, .i .i64 a.n, .s a.s, .ds (mapC valC a.items), .ds (stC a.keys)]) :: hp, p.2⟩)
    (fun p => p.1 ≤ Za ∧ m + 13 ≤ p.2) (fun p => Za - p.1) (0, m + 13) ?_ ?_ (fun ⟨j, n⟩ hj => ?_)
  · exact ⟨Nat.zero_le _, Nat.le_refl _⟩
  · refine (weak_b0 (c := m + 3) (i := 3) (m := 5) (cs := [.i .i64 6, .i .i64 0, .s ⟨#[]⟩, .e0, .e0]) gc_cons_same rfl).trans ((weak_b0 (c := m + 3) (i := 4) (m := 1) (cs := [.i .i64 6, .i .i64 0, .s ⟨#[]⟩, .rw (m + 11) 0 0, .e0]) gc_cons_same rfl).trans (weak_ok ?_ (Sub.cons ?_ (Sub.cons ?_ (Sub.cons ?_ (Sub.cons ?_ (Sub.cons ?_ (Sub.cons ?_ (Sub.base hf ?_))))))) (Nat.le_refl _)))
    all_goals first | ((simp only [hta, go_sem, ↓reduceIte, Nat.reduceEqDiff, Nat.reduceBEq, Nat.reduceAdd, Nat.reduceLeDiff, Nat.reduceLT, reduceCtorEq, Nat.reduceMul, Nat.reduceSub, Int.reduceEq, Int.reduceLT, Int.reduceLE, Int.reduceToNat]); done) | exact gc_cons_same | (simp only [List.take_zero, joinI]; (simp only [hta, go_sem, ↓reduceIte, Nat.reduceEqDiff, Nat.reduceBEq, Nat.reduceAdd, Nat.reduceLeDiff, Nat.reduceLT, reduceCtorEq, Nat.reduceMul, Nat.reduceSub, Int.reduceEq, Int.reduceLT, Int.reduceLE, Int.reduceToNat]); done) | trace_state
  dsimp only at hj
  obtain ⟨hj1, hj2⟩ := hj
  have p0 : ¬ n = m := by omega
  have q0 : ¬ m = n := by omega
  have r0 : m ≤ n := by omega
  have p1 : ¬ n + 1 = m := by omega
  have q1 : ¬ m = n + 1 := by omega
  have r1 : m ≤ n + 1 := by omega
  have p2 : ¬ n + 2 = m := by omega
  have q2 : ¬ m = n + 2 := by omega
  have r2 : m ≤ n + 2 := by omega
  have p3 : ¬ n + 3 = m := by omega
  have q3 : ¬ m = n + 3 := by omega
  have r3 : m ≤ n + 3 := by omega
  have p4 : ¬ n + 4 = m := by omega
  have q4 : ¬ m = n + 4 := by omega
  have r4 : m ≤ n + 4 := by omega
  have p5 : ¬ n + 5 = m := by omega
  have q5 : ¬ m = n + 5 := by omega
  have r5 : m ≤ n + 5 := by omega
  have p6 : ¬ n + 6 = m := by omega
  have q6 : ¬ m = n + 6 := by omega
  have r6 : m ≤ n + 6 := by omega
  have p7 : ¬ n + 7 = m := by omega
  have q7 : ¬ m = n + 7 := by omega
  have r7 : m ≤ n + 7 := by omega
  have p8 : ¬ n + 8 = m := by omega
  have q8 : ¬ m = n + 8 := by omega
  have r8 : m ≤ n + 8 := by omega
  have p9 : ¬ n + 9 = m := by omega
  have q9 : ¬ m = n + 9 := by omega
  have r9 : m ≤ n + 9 := by omega
  have p10 : ¬ n + 10 = m := by omega
  have q10 : ¬ m = n + 10 := by omega
  have r10 : m ≤ n + 10 := by omega
  have p11 : ¬ n + 11 = m := by omega
  have q11 : ¬ m = n + 11 := by omega
  have r11 : m ≤ n + 11 := by omega
  have p12 : ¬ n + 12 = m := by omega
  have q12 : ¬ m = n + 12 := by omega
  have r12 : m ≤ n + 12 := by omega
  have p13 : ¬ n + 13 = m := by omega
  have q13 : ¬ m = n + 13 := by omega
  have r13 : m ≤ n + 13 := by omega
  have p14 : ¬ n + 14 = m := by omega
  have q14 : ¬ m = n + 14 := by omega
  have r14 : m ≤ n + 14 := by omega
  have p15 : ¬ n + 15 = m := by omega
  have q15 : ¬ m = n + 15 := by omega
  have r15 : m ≤ n + 15 := by omega
  have p16 : ¬ n + 16 = m := by omega
  have q16 : ¬ m = n + 16 := by omega
  have r16 : m ≤ n + 16 := by omega
  have u1 : ¬ n = m + 1 := by omega
  have v1 : ¬ m + 1 = n := by omega
  have u2 : ¬ n = m + 2 := by omega
  have v2 : ¬ m + 2 = n := by omega
  have u3 : ¬ n = m + 3 := by omega
  have v3 : ¬ m + 3 = n := by omega
  have u4 : ¬ n = m + 4 := by omega
  have v4 : ¬ m + 4 = n := by omega
  have u5 : ¬ n = m + 5 := by omega
  have v5 : ¬ m + 5 = n := by omega
  have u6 : ¬ n = m + 6 := by omega
  have v6 : ¬ m + 6 = n := by omega
  have u7 : ¬ n = m + 7 := by omega
  have v7 : ¬ m + 7 = n := by omega
  have u8 : ¬ n = m + 8 := by omega
  have v8 : ¬ m + 8 = n := by omega
  have u9 : ¬ n = m + 9 := by omega
  have v9 : ¬ m + 9 = n := by omega
  have u10 : ¬ n = m + 10 := by omega
  have v10 : ¬ m + 10 = n := by omega
  have u11 : ¬ n = m + 11 := by omega
  have v11 : ¬ m + 11 = n := by omega
  have u12 : ¬ n = m + 12 := by omega
  have v12 : ¬ m + 12 = n := by omega
  obtain ⟨Y, hY⟩ : ∃ Y, joinI (a.items.take j) (a.keys.take j) b = Y := ⟨_, rfl⟩
  have hYl := hIl j hj1
  have hKj := hKl j hj1
  rw [hY] at hYl ⊢
  simp only [p0, q0, r0, p1, q1, r1, p2, q2, r2, p3, q3, r3, p4, q4, r4, p5, q5, r5, p6, q6, r6, p7, q7, r7, p8, q8, r8, p9, q9, r9, p10, q10, r10, p11, q11, r11, p12, q12, r12, p13, q13, r13, p14, q14, r14, p15, q15, r15, p16, q16, r16, u1, v1, u2, v2, u3, v3, u4, v4, u5, v5, u6, v6, u7, v7, u8, v8, u9, v9, u10, v10, u11, v11, u12, v12, go_sem, ↓reduceIte, Nat.reduceEqDiff, Nat.reduceBEq, Nat.reduceAdd, Nat.reduceLeDiff, Nat.reduceLT, reduceCtorEq, Nat.reduceMul, Nat.reduceSub, Int.reduceEq, Int.reduceLT, Int.reduceLE, Int.reduceToNat]
  refine cdK_of (fun c => ?_) (fun c => ?_)
  · have c : j < Za := by simpa using c
    obtain ⟨x, ex⟩ : ∃ x, a.items[j]? = some x := ⟨a.items[j]'(by omega), by simp⟩
    obtain ⟨k, ek⟩ : ∃ k, a.keys[j]? = some k := ⟨a.keys[j]'(by omega), by simp⟩
    have ek' : (a.keys.take Za)[j]? = some k := by rw [List.getElem?_take, if_pos c]; exact ek
    have hxm := List.mem_of_getElem? ex
    have fx := fa.x hxm
    have hsn := joinI_snoc b a.items a.keys j ex ek
    rw [hY] at hsn
    have hsk := take_snoc ek
    have hix := sindex_ok b fb k
    have hgi := getV_ix hb6 k
    have k1 : j < a.items.length := by omega
    have k2 : (j + 1) * 80 ≤ 140737488355328 := by omega
    have k3 : (j + 1) * 16 ≤ 140737488355328 := by omega
    have k4 : j ≤ 9223372036854775806 := by omega
    have k5 : Za - (j + 1) < Za - j := by omega
    have k6 : j < 9223372036854775807 := by omega
    simp only [p0, q0, r0, p1, q1, r1, p2, q2, r2, p3, q3, r3, p4, q4, r4, p5, q5, r5, p6, q6, r6, p7, q7, r7, p8, q8, r8, p9, q9, r9, p10, q10, r10, p11, q11, r11, p12, q12, r12, p13, q13, r13, p14, q14, r14, p15, q15, r15, p16, q16, r16, u1, v1, u2, v2, u3, v3, u4, v4, u5, v5, u6, v6, u7, v7, u8, v8, u9, v9, u10, v10, u11, v11, u12, v12, c, hta, getK_s (mapC_get st1 ek'), getK_s (mapC_get valC ex), go_sem, ↓reduceIte, Nat.reduceEqDiff, Nat.reduceBEq, Nat.reduceAdd, Nat.reduceLeDiff, Nat.reduceLT, reduceCtorEq, Nat.reduceMul, Nat.reduceSub, Int.reduceEq, Int.reduceLT, Int.reduceLE, Int.reduceToNat]
    refine ⟨k1, vcCall.f (copy_ok x fx _ _) ?_⟩
    simp only [p0, q0, r0, p1, q1, r1, p2, q2, r2, p3, q3, r3, p4, q4, r4, p5, q5, r5, p6, q6, r6, p7, q7, r7, p8, q8, r8, p9, q9, r9, p10, q10, r10, p11, q11, r11, p12, q12, r12, p13, q13, r13, p14, q14, r14, p15, q15, r15, p16, q16, r16, u1, v1, u2, v2, u3, v3, u4, v4, u5, v5, u6, v6, u7, v7, u8, v8, u9, v9, u10, v10, u11, v11, u12, v12, go_sem, ↓reduceIte, Nat.reduceEqDiff, Nat.reduceBEq, Nat.reduceAdd, Nat.reduceLeDiff, Nat.reduceLT, reduceCtorEq, Nat.reduceMul, Nat.reduceSub, Int.reduceEq, Int.reduceLT, Int.reduceLE, Int.reduceToNat]
    refine vcCall.f (hix _ _) ?_
    simp only [p0, q0, r0, p1, q1, r1, p2, q2, r2, p3, q3, r3, p4, q4, r4, p5, q5, r5, p6, q6, r6, p7, q7, r7, p8, q8, r8, p9, q9, r9, p10, q10, r10, p11, q11, r11, p12, q12, r12, p13, q13, r13, p14, q14, r14, p15, q15, r15, p16, q16, r16, u1, v1, u2, v2, u3, v3, u4, v4, u5, v5, u6, v6, u7, v7, u8, v8, u9, v9, u10, v10, u11, v11, u12, v12, go_sem, ↓reduceIte, Nat.reduceEqDiff, Nat.reduceBEq, Nat.reduceAdd, Nat.reduceLeDiff, Nat.reduceLT, reduceCtorEq, Nat.reduceMul, Nat.reduceSub, Int.reduceEq, Int.reduceLT, Int.reduceLE, Int.reduceToNat]
    refine cdK_of (fun d => ?_) (fun d => ?_)
    · have d : 0 ≤ ixO b k := by simpa using d
      obtain ⟨y, ey⟩ := ixO_at d
      rw [if_pos d, ey] at hgi
      have hE : joinE x k b = joinV x y := by unfold joinE; rw [hgi]
      rw [hE] at hsn
      have hih := ih j x k y ex ek ey
      obtain ⟨J, hJ⟩ : ∃ J : Nat, ixO b k = J := ⟨(ixO b k).toNat, by omega⟩
      rw [hJ] at ey ⊢
      rw [Int.toNat_natCast] at ey
      have hJl : J < b.items.length := (List.getElem?_eq_some_iff.1 ey).1
      simp only [p0, q0, r0, p1, q1, r1, p2, q2, r2, p3, q3, r3, p4, q4, r4, p5, q5, r5, p6, q6, r6, p7, q7, r7, p8, q8, r8, p9, q9, r9, p10, q10, r10, p11, q11, r11, p12, q12, r12, p13, q13, r13, p14, q14, r14, p15, q15, r15, p16, q16, r16, u1, v1, u2, v2, u3, v3, u4, v4, u5, v5, u6, v6, u7, v7, u8, v8, u9, v9, u10, v10, u11, v11, u12, v12, hJl, getK_s (mapC_get valC ey), go_sem, ↓reduceIte, Nat.reduceEqDiff, Nat.reduceBEq, Nat.reduceAdd, Nat.reduceLeDiff, Nat.reduceLT, reduceCtorEq, Nat.reduceMul, Nat.reduceSub, Int.reduceEq, Int.reduceLT, Int.reduceLE, Int.reduceToNat]
      refine dCallR.f (fun _ hp' _ => hih hp' _) ?_
      simp only [p0, q0, r0, p1, q1, r1, p2, q2, r2, p3, q3, r3, p4, q4, r4, p5, q5, r5, p6, q6, r6, p7, q7, r7, p8, q8, r8, p9, q9, r9, p10, q10, r10, p11, q11, r11, p12, q12, r12, p13, q13, r13, p14, q14, r14, p15, q15, r15, p16, q16, r16, u1, v1, u2, v2, u3, v3, u4, v4, u5, v5, u6, v6, u7, v7, u8, v8, u9, v9, u10, v10, u11, v11, u12, v12, hKj, hYl, k2, k3, k4, go_sem, ↓reduceIte, Nat.reduceEqDiff, Nat.reduceBEq, Nat.reduceAdd, Nat.reduceLeDiff, Nat.reduceLT, reduceCtorEq, Nat.reduceMul, Nat.reduceSub, Int.reduceEq, Int.reduceLT, Int.reduceLE, Int.reduceToNat]
      refine ⟨(j + 1, _), ⟨c, ?_⟩, k5, weak_ok ?_ (Sub.cons ?_ (Sub.cons ?_ (Sub.cons ?_ (Sub.cons ?_ (Sub.cons ?_ (Sub.cons ?_ (Sub.base hf ?_))))))) (Nat.le_refl _)⟩
      all_goals first | ((simp only [p0, q0, r0, p1, q1, r1, p2, q2, r2, p3, q3, r3, p4, q4, r4, p5, q5, r5, p6, q6, r6, p7, q7, r7, p8, q8, r8, p9, q9, r9, p10, q10, r10, p11, q11, r11, p12, q12, r12, p13, q13, r13, p14, q14, r14, p15, q15, r15, p16, q16, r16, u1, v1, u2, v2, u3, v3, u4, v4, u5, v5, u6, v6, u7, v7, u8, v8, u9, v9, u10, v10, u11, v11, u12, v12, wr64s j k6, hsn, hsk, go_sem, ↓reduceIte, Nat.reduceEqDiff, Nat.reduceBEq, Nat.reduceAdd, Nat.reduceLeDiff, Nat.reduceLT, reduceCtorEq, Nat.reduceMul, Nat.reduceSub, Int.reduceEq, Int.reduceLT, Int.reduceLE, Int.reduceToNat]); done) | (dsimp only; omega) | trace_state
    · have d : ¬ 0 ≤ ixO b k := by simpa using d
      rw [if_neg d] at hgi
      have hE : joinE x k b = x := by unfold joinE; rw [hgi]
      rw [hE] at hsn
      simp only [p0, q0, r0, p1, q1, r1, p2, q2, r2, p3, q3, r3, p4, q4, r4, p5, q5, r5, p6, q6, r6, p7, q7, r7, p8, q8, r8, p9, q9, r9, p10, q10, r10, p11, q11, r11, p12, q12, r12, p13, q13, r13, p14, q14, r14, p15, q15, r15, p16, q16, r16, u1, v1, u2, v2, u3, v3, u4, v4, u5, v5, u6, v6, u7, v7, u8, v8, u9, v9, u10, v10, u11, v11, u12, v12, hKj, hYl, k2, k3, k4, go_sem, ↓reduceIte, Nat.reduceEqDiff, Nat.reduceBEq, Nat.reduceAdd, Nat.reduceLeDiff, Nat.reduceLT, reduceCtorEq, Nat.reduceMul, Nat.reduceSub, Int.reduceEq, Int.reduceLT, Int.reduceLE, Int.reduceToNat]
      refine ⟨(j + 1, _), ⟨c, ?_⟩, k5, weak_ok ?_ (Sub.cons ?_ (Sub.cons ?_ (Sub.cons ?_ (Sub.cons ?_ (Sub.cons ?_ (Sub.cons ?_ (Sub.base hf ?_))))))) (Nat.le_refl _)⟩
      all_goals first | ((simp only [p0, q0, r0, p1, q1, r1, p2, q2, r2, p3, q3, r3, p4, q4, r4, p5, q5, r5, p6, q6, r6, p7, q7, r7, p8, q8, r8, p9, q9, r9, p10, q10, r10, p11, q11, r11, p12, q12, r12, p13, q13, r13, p14, q14, r14, p15, q15, r15, p16, q16, r16, u1, v1, u2, v2, u3, v3, u4, v4, u5, v5, u6, v6, u7, v7, u8, v8, u9, v9, u10, v10, u11, v11, u12, v12, wr64s j k6, hsn, hsk, go_sem, ↓reduceIte, Nat.reduceEqDiff, Nat.reduceBEq, Nat.reduceAdd, Nat.reduceLeDiff, Nat.reduceLT, reduceCtorEq, Nat.reduceMul, Nat.reduceSub, Int.reduceEq, Int.reduceLT, Int.reduceLE, Int.reduceToNat]); done) | (dsimp only; omega) | trace_state
  · have c : j = Za := by simp at c; omega
    subst c
    have hI0 : joinI (a.items.take j) (a.keys.take j) b = joinI a.items a.keys b := by
      have h := joinI_take b a.items a.keys
      rw [show min a.keys.length a.items.length = j from hZa] at h
      exact h
    rw [hI0] at hY
    rw [hY] at eR
    have eR0 := eR
    simp only [p0, q0, r0, p1, q1, r1, p2, q2, r2, p3, q3, r3, p4, q4, r4, p5, q5, r5, p6, q6, r6, p7, q7, r7, p8, q8, r8, p9, q9, r9, p10, q10, r10, p11, q11, r11, p12, q12, r12, p13, q13, r13, p14, q14, r14, p15, q15, r15, p16, q16, r16, u1, v1, u2, v2, u3, v3, u4, v4, u5, v5, u6, v6, u7, v7, u8, v8, u9, v9, u10, v10, u11, v11, u12, v12, go_sem, ↓reduceIte, Nat.reduceEqDiff, Nat.reduceBEq, Nat.reduceAdd, Nat.reduceLeDiff, Nat.reduceLT, reduceCtorEq, Nat.reduceMul, Nat.reduceSub, Int.reduceEq, Int.reduceLT, Int.reduceLE, Int.reduceToNat]
    refine dCallR.f (fun _ hp' _ => hs2 hp' _) ?_
    simp only [p0, q0, r0, p1, q1, r1, p2, q2, r2, p3, q3, r3, p4, q4, r4, p5, q5, r5, p6, q6, r6, p7, q7, r7, p8, q8, r8, p9, q9, r9, p10, q10, r10, p11, q11, r11, p12, q12, r12, p13, q13, r13, p14, q14, r14, p15, q15, r15, p16, q16, r16, u1, v1, u2, v2, u3, v3, u4, v4, u5, v5, u6, v6, u7, v7, u8, v8, u9, v9, u10, v10, u11, v11, u12, v12, go_sem, ↓reduceIte, Nat.reduceEqDiff, Nat.reduceBEq, Nat.reduceAdd, Nat.reduceLeDiff, Nat.reduceLT, reduceCtorEq, Nat.reduceMul, Nat.reduceSub, Int.reduceEq, Int.reduceLT, Int.reduceLE, Int.reduceToNat]
    refine ⟨by omega, ?_⟩
    refine loop (fun p : Nat × List ByteArray × List Val × Nat => ⟨[(3, .bx (m + 1) 0), (4, .bx (m + 2) 0), (5, .bx (m + 3) 0), (59, .ds (stC (b.keys.take Zb))), (60, .i .i64 Zb), (61, .i .i64 p.1)],
        (m + 3, .bx [.i .i64 6, .i .i64 0, .s ⟨#[]⟩, .rw (m + 11) p.2.2.1.length p.2.2.1.length, .rw (m + 12) p.2.1.length p.2.1.length]) :: (m + 11, .rw p.2.2.1.length 5 (mapC valC p.2.2.1)) :: (m + 12, .rw p.2.1.length 1 (stC p.2.1)) ::
        (m + 2, .bx [.i .i64 0, .i .i64 0, .s ⟨#[]⟩, .e0, .e0]) :: (m + 1, .bx [.i .i64 b.k, .i .i64 b.n, .s b.s, .ds (mapC valC b.items), .ds (stC b.keys)]) :: hp, p.2.2.2⟩)
      (fun p => p.1 ≤ Zb ∧ m + 13 ≤ p.2.2.2 ∧ p.2.1.length = p.2.2.1.length ∧ ((a.items.length ≤ 100000000000 ∧ b.items.length ≤ 100000000000 ∧ p.2.1.length ≤ j + p.1) ∨ (a.items.length ≤ 1759218604390 ∧ (∀ k ∈ b.keys, inB k (a.keys.take j) = true) ∧ p.2.1 = a.keys.take j)) ∧ addF (a.keys.take j) Y b.keys b.items = addF p.2.1 p.2.2.1 (b.keys.drop p.1) (b.items.drop p.1)) (fun p => Zb - p.1) (0, a.keys.take j, Y, n + 7) ?_ ?_ (fun ⟨i, K, I, o⟩ hi => ?_)
    · exact ⟨Nat.zero_le _, by dsimp only; omega, by dsimp only; omega, JC.elim (fun s => .inl ⟨s.1, s.2, by dsimp only; omega⟩) (fun s => .inr ⟨s.1, fun k hk => by have h := s.2 k hk; rw [hZa] at h; exact h, rfl⟩), rfl⟩
    · refine weak_ok ?_ (Sub.cons ?_ (Sub.cons ?_ (Sub.cons ?_ (Sub.cons ?_ (Sub.cons ?_ (Sub.base hf ?_)))))) (Nat.le_refl _)
      all_goals first | ((simp only [p0, q0, r0, p1, q1, r1, p2, q2, r2, p3, q3, r3, p4, q4, r4, p5, q5, r5, p6, q6, r6, p7, q7, r7, p8, q8, r8, p9, q9, r9, p10, q10, r10, p11, q11, r11, p12, q12, r12, p13, q13, r13, p14, q14, r14, p15, q15, r15, p16, q16, r16, u1, v1, u2, v2, u3, v3, u4, v4, u5, v5, u6, v6, u7, v7, u8, v8, u9, v9, u10, v10, u11, v11, u12, v12, htb, hYl, hKj, go_sem, ↓reduceIte, Nat.reduceEqDiff, Nat.reduceBEq, Nat.reduceAdd, Nat.reduceLeDiff, Nat.reduceLT, reduceCtorEq, Nat.reduceMul, Nat.reduceSub, Int.reduceEq, Int.reduceLT, Int.reduceLE, Int.reduceToNat]); done) | trace_state
    dsimp only at hi
    obtain ⟨hi1, hi2, hi3, hi4, hi5⟩ := hi
    have hI : I.length ≤ 1759218604390 ∧ K.length ≤ 1759218604390 := by
      rcases hi4 with ⟨s1, s2, h⟩ | ⟨s1, _, h⟩
      · omega
      · have h2 : K.length = j := by rw [h]; exact hta
        omega
    rw [hi5] at eR
    have op0 : ¬ o = m := by omega
    have oq0 : ¬ m = o := by omega
    have or0 : m ≤ o := by omega
    have op1 : ¬ o + 1 = m := by omega
    have oq1 : ¬ m = o + 1 := by omega
    have or1 : m ≤ o + 1 := by omega
    have op2 : ¬ o + 2 = m := by omega
    have oq2 : ¬ m = o + 2 := by omega
    have or2 : m ≤ o + 2 := by omega
    have op3 : ¬ o + 3 = m := by omega
    have oq3 : ¬ m = o + 3 := by omega
    have or3 : m ≤ o + 3 := by omega
    have op4 : ¬ o + 4 = m := by omega
    have oq4 : ¬ m = o + 4 := by omega
    have or4 : m ≤ o + 4 := by omega
    have op5 : ¬ o + 5 = m := by omega
    have oq5 : ¬ m = o + 5 := by omega
    have or5 : m ≤ o + 5 := by omega
    have op6 : ¬ o + 6 = m := by omega
    have oq6 : ¬ m = o + 6 := by omega
    have or6 : m ≤ o + 6 := by omega
    have op7 : ¬ o + 7 = m := by omega
    have oq7 : ¬ m = o + 7 := by omega
    have or7 : m ≤ o + 7 := by omega
    have op8 : ¬ o + 8 = m := by omega
    have oq8 : ¬ m = o + 8 := by omega
    have or8 : m ≤ o + 8 := by omega
    have op9 : ¬ o + 9 = m := by omega
    have oq9 : ¬ m = o + 9 := by omega
    have or9 : m ≤ o + 9 := by omega
    have op10 : ¬ o + 10 = m := by omega
    have oq10 : ¬ m = o + 10 := by omega
    have or10 : m ≤ o + 10 := by omega
    have op11 : ¬ o + 11 = m := by omega
    have oq11 : ¬ m = o + 11 := by omega
    have or11 : m ≤ o + 11 := by omega
    have op12 : ¬ o + 12 = m := by omega
    have oq12 : ¬ m = o + 12 := by omega
    have or12 : m ≤ o + 12 := by omega
    have op13 : ¬ o + 13 = m := by omega
    have oq13 : ¬ m = o + 13 := by omega
    have or13 : m ≤ o + 13 := by omega
    have op14 : ¬ o + 14 = m := by omega
    have oq14 : ¬ m = o + 14 := by omega
    have or14 : m ≤ o + 14 := by omega
    have op15 : ¬ o + 15 = m := by omega
    have oq15 : ¬ m = o + 15 := by omega
    have or15 : m ≤ o + 15 := by omega
    have op16 : ¬ o + 16 = m := by omega
    have oq16 : ¬ m = o + 16 := by omega
    have or16 : m ≤ o + 16 := by omega
    have ou1 : ¬ o = m + 1 := by omega
    have ov1 : ¬ m + 1 = o := by omega
    have ou2 : ¬ o = m + 2 := by omega
    have ov2 : ¬ m + 2 = o := by omega
    have ou3 : ¬ o = m + 3 := by omega
    have ov3 : ¬ m + 3 = o := by omega
    have ou4 : ¬ o = m + 4 := by omega
    have ov4 : ¬ m + 4 = o := by omega
    have ou5 : ¬ o = m + 5 := by omega
    have ov5 : ¬ m + 5 = o := by omega
    have ou6 : ¬ o = m + 6 := by omega
    have ov6 : ¬ m + 6 = o := by omega
    have ou7 : ¬ o = m + 7 := by omega
    have ov7 : ¬ m + 7 = o := by omega
    have ou8 : ¬ o = m + 8 := by omega
    have ov8 : ¬ m + 8 = o := by omega
    have ou9 : ¬ o = m + 9 := by omega
    have ov9 : ¬ m + 9 = o := by omega
    have ou10 : ¬ o = m + 10 := by omega
    have ov10 : ¬ m + 10 = o := by omega
    have ou11 : ¬ o = m + 11 := by omega
    have ov11 : ¬ m + 11 = o := by omega
    have ou12 : ¬ o = m + 12 := by omega
    have ov12 : ¬ m + 12 = o := by omega
    simp only [op0, oq0, or0, op1, oq1, or1, op2, oq2, or2, op3, oq3, or3, op4, oq4, or4, op5, oq5, or5, op6, oq6, or6, op7, oq7, or7, op8, oq8, or8, op9, oq9, or9, op10, oq10, or10, op11, oq11, or11, op12, oq12, or12, op13, oq13, or13, op14, oq14, or14, op15, oq15, or15, op16, oq16, or16, ou1, ov1, ou2, ov2, ou3, ov3, ou4, ov4, ou5, ov5, ou6, ov6, ou7, ov7, ou8, ov8, ou9, ov9, ou10, ov10, ou11, ov11, ou12, ov12, go_sem, ↓reduceIte, Nat.reduceEqDiff, Nat.reduceBEq, Nat.reduceAdd, Nat.reduceLeDiff, Nat.reduceLT, reduceCtorEq, Nat.reduceMul, Nat.reduceSub, Int.reduceEq, Int.reduceLT, Int.reduceLE, Int.reduceToNat]
    refine cdK_of (fun c => ?_) (fun c => ?_)
    · have c : i < Zb := by simpa using c
      obtain ⟨y, ey⟩ : ∃ y, b.items[i]? = some y := ⟨b.items[i]'(by omega), by simp⟩
      obtain ⟨k, ek⟩ : ∃ k, b.keys[i]? = some k := ⟨b.keys[i]'(by omega), by simp⟩
      have ek' : (b.keys.take Zb)[i]? = some k := by rw [List.getElem?_take, if_pos c]; exact ek
      have fy := fb.x (List.mem_of_getElem? ey)
      have hst := addF_step (K := K) (I := I) (ks := b.keys.drop (i + 1)) (r := b.items.drop (i + 1)) (k := k) (y := y)
      rw [← drop_at ek, ← drop_at ey] at hst
      have hix := sindex_len (.mk 6 0 ⟨#[]⟩ I K) (by simp only [Val.keys_mk]; omega) k
      have hio := ixO_out hi3 k
      obtain ⟨X, hX⟩ : ∃ X, ixO (.mk 6 0 ⟨#[]⟩ I K) k = X := ⟨_, rfl⟩
      rw [hX] at hix hio
      have k1 : i < b.items.length := by omega
      have k2 : (I.length + 1) * 80 ≤ 140737488355328 := by omega
      have k3 : (K.length + 1) * 16 ≤ 140737488355328 := by omega
      have k4 : I.length ≤ 9223372036854775806 := by omega
      have k5 : Zb - (i + 1) < Zb - i := by omega
      have k6 : i < 9223372036854775807 := by omega
      have k7 : K.length ≤ 9223372036854775806 := by omega
      simp only [op0, oq0, or0, op1, oq1, or1, op2, oq2, or2, op3, oq3, or3, op4, oq4, or4, op5, oq5, or5, op6, oq6, or6, op7, oq7, or7, op8, oq8, or8, op9, oq9, or9, op10, oq10, or10, op11, oq11, or11, op12, oq12, or12, op13, oq13, or13, op14, oq14, or14, op15, oq15, or15, op16, oq16, or16, ou1, ov1, ou2, ov2, ou3, ov3, ou4, ov4, ou5, ov5, ou6, ov6, ou7, ov7, ou8, ov8, ou9, ov9, ou10, ov10, ou11, ov11, ou12, ov12, c, htb, getK_s (mapC_get st1 ek'), getK_s (mapC_get valC ey), go_sem, ↓reduceIte, Nat.reduceEqDiff, Nat.reduceBEq, Nat.reduceAdd, Nat.reduceLeDiff, Nat.reduceLT, reduceCtorEq, Nat.reduceMul, Nat.reduceSub, Int.reduceEq, Int.reduceLT, Int.reduceLE, Int.reduceToNat]
      refine vcCall.f (MeetsF.lend (R := [(m + 11, .sh I.length 5 (mapC valC I)), (m + 12, .sh K.length 1 (stC K))]) (B := []) ?_ ?_ ?_ rfl (hix _ _)) ?_
      · simp only [op0, oq0, or0, op1, oq1, or1, op2, oq2, or2, op3, oq3, or3, op4, oq4, or4, op5, oq5, or5, op6, oq6, or6, op7, oq7, or7, op8, oq8, or8, op9, oq9, or9, op10, oq10, or10, op11, oq11, or11, op12, oq12, or12, op13, oq13, or13, op14, oq14, or14, op15, oq15, or15, op16, oq16, or16, ou1, ov1, ou2, ov2, ou3, ov3, ou4, ov4, ou5, ov5, ou6, ov6, ou7, ov7, ou8, ov8, ou9, ov9, ou10, ov10, ou11, ov11, ou12, ov12, go_sem, ↓reduceIte, Nat.reduceEqDiff, Nat.reduceBEq, Nat.reduceAdd, Nat.reduceLeDiff, Nat.reduceLT, reduceCtorEq, Nat.reduceMul, Nat.reduceSub, Int.reduceEq, Int.reduceLT, Int.reduceLE, Int.reduceToNat]
      · simp only [go_sem, ↓reduceIte, Nat.reduceEqDiff, Nat.reduceBEq, Nat.reduceAdd, Nat.reduceLeDiff, Nat.reduceLT, reduceCtorEq, Nat.reduceMul, Nat.reduceSub, Int.reduceEq, Int.reduceLT, Int.reduceLE, Int.reduceToNat]
      · simp only [op0, oq0, or0, op1, oq1, or1, op2, oq2, or2, op3, oq3, or3, op4, oq4, or4, op5, oq5, or5, op6, oq6, or6, op7, oq7, or7, op8, oq8, or8, op9, oq9, or9, op10, oq10, or10, op11, oq11, or11, op12, oq12, or12, op13, oq13, or13, op14, oq14, or14, op15, oq15, or15, op16, oq16, or16, ou1, ov1, ou2, ov2, ou3, ov3, ou4, ov4, ou5, ov5, ou6, ov6, ou7, ov7, ou8, ov8, ou9, ov9, ou10, ov10, ou11, ov11, ou12, ov12, go_sem, ↓reduceIte, Nat.reduceEqDiff, Nat.reduceBEq, Nat.reduceAdd, Nat.reduceLeDiff, Nat.reduceLT, reduceCtorEq, Nat.reduceMul, Nat.reduceSub, Int.reduceEq, Int.reduceLT, Int.reduceLE, Int.reduceToNat]
      simp only [op0, oq0, or0, op1, oq1, or1, op2, oq2, or2, op3, oq3, or3, op4, oq4, or4, op5, oq5, or5, op6, oq6, or6, op7, oq7, or7, op8, oq8, or8, op9, oq9, or9, op10, oq10, or10, op11, oq11, or11, op12, oq12, or12, op13, oq13, or13, op14, oq14, or14, op15, oq15, or15, op16, oq16, or16, ou1, ov1, ou2, ov2, ou3, ov3, ou4, ov4, ou5, ov5, ou6, ov6, ou7, ov7, ou8, ov8, ou9, ov9, ou10, ov10, ou11, ov11, ou12, ov12, go_sem, ↓reduceIte, Nat.reduceEqDiff, Nat.reduceBEq, Nat.reduceAdd, Nat.reduceLeDiff, Nat.reduceLT, reduceCtorEq, Nat.reduceMul, Nat.reduceSub, Int.reduceEq, Int.reduceLT, Int.reduceLE, Int.reduceToNat]
      refine cdK_of (fun d => ?_) (fun d => ?_)
      · have d : ¬ inB k K = true := by
          rw [← hio]
          have d : X < 0 := by simpa using d
          omega
        rw [if_neg d] at hst
        have k8 : (I.length + 1) * 16 ≤ 140737488355328 := by omega
        have hi4N : ((a.items.length ≤ 100000000000 ∧ b.items.length ≤ 100000000000 ∧ (K ++ [k]).length ≤ j + (i + 1)) ∨ (a.items.length ≤ 1759218604390 ∧ (∀ k ∈ b.keys, inB k (a.keys.take j) = true) ∧ (K ++ [k]) = a.keys.take j)) := by
          rcases hi4 with ⟨s1, s2, h⟩ | ⟨s1, s2, h⟩
          · exact .inl ⟨s1, s2, by simp only [List.length_append, List.length_cons, List.length_nil]; omega⟩
          · exact absurd (by rw [h]; exact s2 k (List.mem_of_getElem? ek)) d
        simp only [op0, oq0, or0, op1, oq1, or1, op2, oq2, or2, op3, oq3, or3, op4, oq4, or4, op5, oq5, or5, op6, oq6, or6, op7, oq7, or7, op8, oq8, or8, op9, oq9, or9, op10, oq10, or10, op11, oq11, or11, op12, oq12, or12, op13, oq13, or13, op14, oq14, or14, op15, oq15, or15, op16, oq16, or16, ou1, ov1, ou2, ov2, ou3, ov3, ou4, ov4, ou5, ov5, ou6, ov6, ou7, ov7, ou8, ov8, ou9, ov9, ou10, ov10, ou11, ov11, ou12, ov12, hi3, k2, k8, k4, k1, getK_s (mapC_get valC ey), go_sem, ↓reduceIte, Nat.reduceEqDiff, Nat.reduceBEq, Nat.reduceAdd, Nat.reduceLeDiff, Nat.reduceLT, reduceCtorEq, Nat.reduceMul, Nat.reduceSub, Int.reduceEq, Int.reduceLT, Int.reduceLE, Int.reduceToNat]
        refine dCallR.f (fun _ hp' _ => copy_ok y fy hp' _) ?_
        simp only [op0, oq0, or0, op1, oq1, or1, op2, oq2, or2, op3, oq3, or3, op4, oq4, or4, op5, oq5, or5, op6, oq6, or6, op7, oq7, or7, op8, oq8, or8, op9, oq9, or9, op10, oq10, or10, op11, oq11, or11, op12, oq12, or12, op13, oq13, or13, op14, oq14, or14, op15, oq15, or15, op16, oq16, or16, ou1, ov1, ou2, ov2, ou3, ov3, ou4, ov4, ou5, ov5, ou6, ov6, ou7, ov7, ou8, ov8, ou9, ov9, ou10, ov10, ou11, ov11, ou12, ov12, hi3, k2, k4, go_sem, ↓reduceIte, Nat.reduceEqDiff, Nat.reduceBEq, Nat.reduceAdd, Nat.reduceLeDiff, Nat.reduceLT, reduceCtorEq, Nat.reduceMul, Nat.reduceSub, Int.reduceEq, Int.reduceLT, Int.reduceLE, Int.reduceToNat]
        refine ⟨(i + 1, K ++ [k], I ++ [y], _), ⟨c, ?_, ?_, hi4N, hi5.trans hst⟩, k5, weak_ok ?_ (Sub.cons ?_ (Sub.cons ?_ (Sub.cons ?_ (Sub.cons ?_ (Sub.cons ?_ (Sub.base hf ?_)))))) (Nat.le_refl _)⟩
        all_goals first | ((simp only [op0, oq0, or0, op1, oq1, or1, op2, oq2, or2, op3, oq3, or3, op4, oq4, or4, op5, oq5, or5, op6, oq6, or6, op7, oq7, or7, op8, oq8, or8, op9, oq9, or9, op10, oq10, or10, op11, oq11, or11, op12, oq12, or12, op13, oq13, or13, op14, oq14, or14, op15, oq15, or15, op16, oq16, or16, ou1, ov1, ou2, ov2, ou3, ov3, ou4, ov4, ou5, ov5, ou6, ov6, ou7, ov7, ou8, ov8, ou9, ov9, ou10, ov10, ou11, ov11, ou12, ov12, wr64s i k6, List.length_append, List.length_singleton, hi3, and_self, go_sem, ↓reduceIte, Nat.reduceEqDiff, Nat.reduceBEq, Nat.reduceAdd, Nat.reduceLeDiff, Nat.reduceLT, reduceCtorEq, Nat.reduceMul, Nat.reduceSub, Int.reduceEq, Int.reduceLT, Int.reduceLE, Int.reduceToNat]); done) | (dsimp only; omega) | (simp only [List.length_append, List.length_singleton]; omega) | trace_state
      · have d : inB k K = true := by
          rw [← hio]
          have d : ¬ X < 0 := by simpa using d
          omega
        rw [if_pos d] at hst
        simp only [op0, oq0, or0, op1, oq1, or1, op2, oq2, or2, op3, oq3, or3, op4, oq4, or4, op5, oq5, or5, op6, oq6, or6, op7, oq7, or7, op8, oq8, or8, op9, oq9, or9, op10, oq10, or10, op11, oq11, or11, op12, oq12, or12, op13, oq13, or13, op14, oq14, or14, op15, oq15, or15, op16, oq16, or16, ou1, ov1, ou2, ov2, ou3, ov3, ou4, ov4, ou5, ov5, ou6, ov6, ou7, ov7, ou8, ov8, ou9, ov9, ou10, ov10, ou11, ov11, ou12, ov12, go_sem, ↓reduceIte, Nat.reduceEqDiff, Nat.reduceBEq, Nat.reduceAdd, Nat.reduceLeDiff, Nat.reduceLT, reduceCtorEq, Nat.reduceMul, Nat.reduceSub, Int.reduceEq, Int.reduceLT, Int.reduceLE, Int.reduceToNat]
        refine ⟨(i + 1, K, I, _), ⟨c, ?_, hi3, hi4.elim (fun s => .inl ⟨s.1, s.2.1, by have := s.2.2; dsimp only; omega⟩) .inr, hi5.trans hst⟩, k5, weak_ok ?_ (Sub.cons ?_ (Sub.cons ?_ (Sub.cons ?_ (Sub.cons ?_ (Sub.cons ?_ (Sub.base hf ?_)))))) (Nat.le_refl _)⟩
        all_goals first | ((simp only [op0, oq0, or0, op1, oq1, or1, op2, oq2, or2, op3, oq3, or3, op4, oq4, or4, op5, oq5, or5, op6, oq6, or6, op7, oq7, or7, op8, oq8, or8, op9, oq9, or9, op10, oq10, or10, op11, oq11, or11, op12, oq12, or12, op13, oq13, or13, op14, oq14, or14, op15, oq15, or15, op16, oq16, or16, ou1, ov1, ou2, ov2, ou3, ov3, ou4, ov4, ou5, ov5, ou6, ov6, ou7, ov7, ou8, ov8, ou9, ov9, ou10, ov10, ou11, ov11, ou12, ov12, wr64s i k6, go_sem, ↓reduceIte, Nat.reduceEqDiff, Nat.reduceBEq, Nat.reduceAdd, Nat.reduceLeDiff, Nat.reduceLT, reduceCtorEq, Nat.reduceMul, Nat.reduceSub, Int.reduceEq, Int.reduceLT, Int.reduceLE, Int.reduceToNat]); done) | (dsimp only; omega) | trace_state
    · have c : i = Zb := by simp at c; omega
      subst c
      rw [addF_end (by rw [List.drop_eq_nil_iff, List.drop_eq_nil_iff]; have := hZb; unfold szO at this; omega)] at eR
      subst eR
      simp only [op0, oq0, or0, op1, oq1, or1, op2, oq2, or2, op3, oq3, or3, op4, oq4, or4, op5, oq5, or5, op6, oq6, or6, op7, oq7, or7, op8, oq8, or8, op9, oq9, or9, op10, oq10, or10, op11, oq11, or11, op12, oq12, or12, op13, oq13, or13, op14, oq14, or14, op15, oq15, or15, op16, oq16, or16, ou1, ov1, ou2, ov2, ou3, ov3, ou4, ov4, ou5, ov5, ou6, ov6, ou7, ov7, ou8, ov8, ou9, ov9, ou10, ov10, ou11, ov11, ou12, ov12, go_sem, ↓reduceIte, Nat.reduceEqDiff, Nat.reduceBEq, Nat.reduceAdd, Nat.reduceLeDiff, Nat.reduceLT, reduceCtorEq, Nat.reduceMul, Nat.reduceSub, Int.reduceEq, Int.reduceLT, Int.reduceLE, Int.reduceToNat]
end Go.Proofs.Ytmcgjccheehehaa
