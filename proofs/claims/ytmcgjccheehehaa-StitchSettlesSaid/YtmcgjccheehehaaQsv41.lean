/-
  The parts SaQ of the proof, in one file. Conditions: none.
-/
import Derived.Test.YtmcgjccheehehaaQsv40
namespace Go.Proofs.Ytmcgjccheehehaa
open Go.Eng
set_option linter.unusedVariables false
set_option linter.unusedSimpArgs false
set_option maxRecDepth 20000
set_option maxHeartbeats 2000000
abbrev svN : ByteArray := ⟨#[115, 101, 114, 118, 105, 99, 101]⟩
/-- The value with the picks alone. -/
noncomputable def stripV (v : Val) (l : List Pk) : Val :=
  if v.k = 5 then .mk 5 0 ⟨#[]⟩ (v.items.attach.map fun x => stripV x.1 l) []
  else if v.k = 6 then collV (typT v) (fun p => match h : getV v p.key with | some x => stripV x p.picks | none => failV svN) l
  else v
termination_by SizeOf.sizeOf v
decreasing_by
  · exact Val.items_lt v x.1 x.2
  · exact Val.items_lt v x (getV_mem h)
noncomputable def stripE (v : Val) (p : Pk) : Val := match getV v p.key with | some x => stripV x p.picks | none => failV svN
theorem stripV_eq (v : Val) (l : List Pk) : stripV v l =
    if v.k = 5 then .mk 5 0 ⟨#[]⟩ (v.items.map fun x => stripV x l) []
    else if v.k = 6 then collV (typT v) (stripE v) l else v := by
  rw [stripV]
  split
  · congr 1
    conv => rhs; rw [← List.attach_map_subtype_val v.items, List.map_map]
    rfl
  · split
    · congr 1
      funext p
      unfold stripE
      split <;> rename_i h
      · rw [h]
      · rw [h]
    · rfl
/-- Picks that memory bears. -/
inductive PkR : List Pk → Prop
  | mk (l : List Pk) : l.length ≤ 879609302220 → (∀ p ∈ l, PkR p.picks) → PkR l
theorem PkR.n {l : List Pk} (h : PkR l) : l.length ≤ 879609302220 := by cases h; assumption
theorem PkR.x {l : List Pk} (h : PkR l) {p : Pk} (hp : p ∈ l) : PkR p.picks := by cases h with | mk _ _ h => exact h p hp
theorem pkR_wt (l : List Pk) (hl : wtKs l ≤ 100000000000) : PkR l := by
  have key : ∀ p : Pk, wtK p ≤ 100000000000 → PkR p.picks := fun p =>
    Pk.ind (Q := fun p => wtK p ≤ 100000000000 → PkR p.picks) (fun p ih hw => by
      have h1 := wtK_eq p
      have h2 := wtKs_len p.picks
      exact .mk _ (by omega) fun q hq => ih q hq (by have := wtKs_mem hq; omega)) p
  have h2 := wtKs_len l
  exact .mk _ (by omega) fun p hp => key p (by have := wtKs_mem hp; omega)
theorem strip_of (v : Val) (fv : v.Fit) (ih : ∀ x ∈ v.items, ∀ (l : List Pk), PkR l → ∀ hp m, MeetsF Try.prog 37 hp m [.ds (mapC pkC l), vx x] (vx (stripV x l)))
    (l : List Pk) (hl : PkR l) (hp : CH) (m : Nat) : MeetsF Try.prog 37 hp m [.ds (mapC pkC l), vx v] (vx (stripV v l)) := by
  have lv : v.items.length ≤ 1759218604441 := by have := fv.i; omega
  have ll := hl.n
  have one1 : ∀ p ∈ l, ∀ (c : Nat) hp m, gc hp c = .bx [.i .i64 v.k, .i .i64 v.n, .s v.s, .ds (mapC valC v.items), .ds (stC v.keys)] → c < m → MeetsF Try.prog 69 hp m [px p, .bx c 0] (vx (stripE v p)) := fun p hpm c hp m hc hcm => by
    have hg := get_ok v fv p.key
    have hpl := hl.x hpm
    have z0 : ¬ m = c := by omega
    have z1 : ¬ m + 1 = c := by omega
    have z2 : ¬ m + 2 = c := by omega
    obtain ⟨G, hG⟩ : ∃ G, getV v p.key = G := ⟨_, rfl⟩
    have hE : stripE v p = G.elim (failV svN) (fun x => stripV x p.picks) := by unfold stripE; rw [hG]; cases G <;> rfl
    rw [hG] at hg
    rw [hE]
    refine meetsF Try.func69 (by kernel_rfl) cc69 cr69 rfl fun hf => ?_; unfold ck69
    simp only [z0, z1, z2, hc, go_sem, ↓reduceIte, Nat.reduceEqDiff, Nat.reduceBEq, Nat.reduceAdd, Nat.reduceLeDiff, Nat.reduceLT, reduceCtorEq, Nat.reduceMul, Nat.reduceSub, Int.reduceEq, Int.reduceLT, Int.reduceLE, Int.reduceToNat]
    refine vcCall.f (hg _ _) ?_
    cases G with
    | none =>
      dsimp only [Option.elim]
      unfold failV
      simp only [z0, z1, z2, hc, go_sem, ↓reduceIte, Nat.reduceEqDiff, Nat.reduceBEq, Nat.reduceAdd, Nat.reduceLeDiff, Nat.reduceLT, reduceCtorEq, Nat.reduceMul, Nat.reduceSub, Int.reduceEq, Int.reduceLT, Int.reduceLE, Int.reduceToNat]
    | some x =>
      dsimp only [Option.elim]
      have hs := ih x (getV_mem hG) p.picks hpl
      obtain ⟨S, hS⟩ : ∃ S, stripV x p.picks = S := ⟨_, rfl⟩
      rw [hS] at hs ⊢
      simp only [z0, z1, z2, hc, go_sem, ↓reduceIte, Nat.reduceEqDiff, Nat.reduceBEq, Nat.reduceAdd, Nat.reduceLeDiff, Nat.reduceLT, reduceCtorEq, Nat.reduceMul, Nat.reduceSub, Int.reduceEq, Int.reduceLT, Int.reduceLE, Int.reduceToNat]
      refine vcCall.f (hs _ _) ?_
      simp only [z0, z1, z2, hc, go_sem, ↓reduceIte, Nat.reduceEqDiff, Nat.reduceBEq, Nat.reduceAdd, Nat.reduceLeDiff, Nat.reduceLT, reduceCtorEq, Nat.reduceMul, Nat.reduceSub, Int.reduceEq, Int.reduceLT, Int.reduceLE, Int.reduceToNat]
  have e := stripV_eq v l
  have hcv := copy_ok v fv
  have hcl := collect_ok l (typT v) (stripE v) 69
  obtain ⟨R, hR⟩ : ∃ R, stripV v l = R := ⟨_, rfl⟩
  rw [hR] at e ⊢
  refine meetsF Try.func37 (by kernel_rfl) cc37 cr37 rfl fun hf => ?_; unfold ck37
  simp only [go_sem, ↓reduceIte, Nat.reduceEqDiff, Nat.reduceBEq, Nat.reduceAdd, Nat.reduceLeDiff, Nat.reduceLT, reduceCtorEq, Nat.reduceMul, Nat.reduceSub, Int.reduceEq, Int.reduceLT, Int.reduceLE, Int.reduceToNat]
  refine cdK_of (fun c => ?_) (fun c => ?_)
  · have c : v.k = 5 := by simpa using c
    rw [if_pos c] at e
    subst e
    simp only [go_sem, ↓reduceIte, Nat.reduceEqDiff, Nat.reduceBEq, Nat.reduceAdd, Nat.reduceLeDiff, Nat.reduceLT, reduceCtorEq, Nat.reduceMul, Nat.reduceSub, Int.reduceEq, Int.reduceLT, Int.reduceLE, Int.reduceToNat]
    refine loop (fun p : Nat × Nat => ⟨[(0, .ds (mapC pkC l)), (4, .bx (m + 1) 0), (5, .bx (m + 2) 0), (14, .ds (mapC valC v.items)), (15, .i .i64 v.items.length), (16, .i .i64 p.1)],
        (m + 2, .bx [.i .i64 5, .i .i64 0, .s ⟨#[]⟩, .rw (m + 3) p.1 p.1, .e0]) :: (m + 3, .rw p.1 5 (mapC valC ((v.items.take p.1).map fun x => stripV x l))) ::
        (m + 1, .bx [.i .i64 0, .i .i64 0, .s ⟨#[]⟩, .e0, .e0]) :: hp, p.2⟩)
      (fun p => p.1 ≤ v.items.length ∧ m + 4 ≤ p.2) (fun p => v.items.length - p.1) (0, m + 4) ?_ ?_ (fun ⟨j, n⟩ hj => ?_)
    · exact ⟨Nat.zero_le _, Nat.le_refl _⟩
    · refine (weak_b0 (c := m + 2) (i := 3) (m := 5) (cs := [.i .i64 5, .i .i64 0, .s ⟨#[]⟩, .e0, .e0]) gc_cons_same rfl).trans (weak_ok ?_ (Sub.cons ?_ (Sub.cons ?_ (Sub.cons ?_ (Sub.base hf ?_)))) (Nat.le_refl _))
      all_goals first | (simp only [go_sem, ↓reduceIte, Nat.reduceEqDiff, Nat.reduceBEq, Nat.reduceAdd, Nat.reduceLeDiff, Nat.reduceLT, reduceCtorEq, Nat.reduceMul, Nat.reduceSub, Int.reduceEq, Int.reduceLT, Int.reduceLE, Int.reduceToNat]; done) | exact gc_cons_same | (simp only [List.take_zero, List.map_nil]; simp only [go_sem, ↓reduceIte, Nat.reduceEqDiff, Nat.reduceBEq, Nat.reduceAdd, Nat.reduceLeDiff, Nat.reduceLT, reduceCtorEq, Nat.reduceMul, Nat.reduceSub, Int.reduceEq, Int.reduceLT, Int.reduceLE, Int.reduceToNat]; done) | trace_state
    dsimp only at hj
    obtain ⟨hj1, hj2⟩ := hj
    have p0 : ¬ n = m := by omega
    have q0 : ¬ m = n := by omega
    have r0 : m ≤ n := by omega
    have p1 : ¬ n + 1 = m := by omega
    have q1 : ¬ m = n + 1 := by omega
    have r1 : m ≤ n + 1 := by omega
    have p2 : ¬ n + 2 = m := by omega
    have q2 : ¬ m = n + 2 := by omega
    have r2 : m ≤ n + 2 := by omega
    have p3 : ¬ n + 3 = m := by omega
    have q3 : ¬ m = n + 3 := by omega
    have r3 : m ≤ n + 3 := by omega
    have p4 : ¬ n + 4 = m := by omega
    have q4 : ¬ m = n + 4 := by omega
    have r4 : m ≤ n + 4 := by omega
    have p5 : ¬ n + 5 = m := by omega
    have q5 : ¬ m = n + 5 := by omega
    have r5 : m ≤ n + 5 := by omega
    have p6 : ¬ n + 6 = m := by omega
    have q6 : ¬ m = n + 6 := by omega
    have r6 : m ≤ n + 6 := by omega
    have p7 : ¬ n + 7 = m := by omega
    have q7 : ¬ m = n + 7 := by omega
    have r7 : m ≤ n + 7 := by omega
    have p8 : ¬ n + 8 = m := by omega
    have q8 : ¬ m = n + 8 := by omega
    have r8 : m ≤ n + 8 := by omega
    have p9 : ¬ n + 9 = m := by omega
    have q9 : ¬ m = n + 9 := by omega
    have r9 : m ≤ n + 9 := by omega
    have p10 : ¬ n + 10 = m := by omega
    have q10 : ¬ m = n + 10 := by omega
    have r10 : m ≤ n + 10 := by omega
    have p11 : ¬ n + 11 = m := by omega
    have q11 : ¬ m = n + 11 := by omega
    have r11 : m ≤ n + 11 := by omega
    have p12 : ¬ n + 12 = m := by omega
    have q12 : ¬ m = n + 12 := by omega
    have r12 : m ≤ n + 12 := by omega
    have p13 : ¬ n + 13 = m := by omega
    have q13 : ¬ m = n + 13 := by omega
    have r13 : m ≤ n + 13 := by omega
    have p14 : ¬ n + 14 = m := by omega
    have q14 : ¬ m = n + 14 := by omega
    have r14 : m ≤ n + 14 := by omega
    have p15 : ¬ n + 15 = m := by omega
    have q15 : ¬ m = n + 15 := by omega
    have r15 : m ≤ n + 15 := by omega
    have p16 : ¬ n + 16 = m := by omega
    have q16 : ¬ m = n + 16 := by omega
    have r16 : m ≤ n + 16 := by omega
    have u1 : ¬ n = m + 1 := by omega
    have v1 : ¬ m + 1 = n := by omega
    have u2 : ¬ n = m + 2 := by omega
    have v2 : ¬ m + 2 = n := by omega
    have u3 : ¬ n = m + 3 := by omega
    have v3 : ¬ m + 3 = n := by omega
    obtain ⟨Y, hY⟩ : ∃ Y, (v.items.take j).map (fun x => stripV x l) = Y := ⟨_, rfl⟩
    have hYl : Y.length = j := by rw [← hY, List.length_map, List.length_take]; omega
    rw [hY]
    simp only [p0, q0, r0, p1, q1, r1, p2, q2, r2, p3, q3, r3, p4, q4, r4, p5, q5, r5, p6, q6, r6, p7, q7, r7, p8, q8, r8, p9, q9, r9, p10, q10, r10, p11, q11, r11, p12, q12, r12, p13, q13, r13, p14, q14, r14, p15, q15, r15, p16, q16, r16, u1, v1, u2, v2, u3, v3, go_sem, ↓reduceIte, Nat.reduceEqDiff, Nat.reduceBEq, Nat.reduceAdd, Nat.reduceLeDiff, Nat.reduceLT, reduceCtorEq, Nat.reduceMul, Nat.reduceSub, Int.reduceEq, Int.reduceLT, Int.reduceLE, Int.reduceToNat]
    refine cdK_of (fun d => ?_) (fun d => ?_)
    · have d : j < v.items.length := by simpa using d
      obtain ⟨x, ex⟩ : ∃ x, v.items[j]? = some x := ⟨v.items[j]'(by omega), by simp⟩
      have hx := ih x (List.mem_of_getElem? ex) l hl
      obtain ⟨S, hS⟩ : ∃ S, stripV x l = S := ⟨_, rfl⟩
      have hsn : (v.items.take (j + 1)).map (fun x => stripV x l) = Y ++ [S] := by rw [← take_snoc ex, List.map_append, hY, ← hS]; rfl
      rw [hS] at hx
      have k2 : (j + 1) * 80 ≤ 140737488355328 := by omega
      have k4 : j ≤ 9223372036854775806 := by omega
      have k5 : v.items.length - (j + 1) < v.items.length - j := by omega
      have k6 : j < 9223372036854775807 := by omega
      simp only [p0, q0, r0, p1, q1, r1, p2, q2, r2, p3, q3, r3, p4, q4, r4, p5, q5, r5, p6, q6, r6, p7, q7, r7, p8, q8, r8, p9, q9, r9, p10, q10, r10, p11, q11, r11, p12, q12, r12, p13, q13, r13, p14, q14, r14, p15, q15, r15, p16, q16, r16, u1, v1, u2, v2, u3, v3, d, getK_s (mapC_get valC ex), go_sem, ↓reduceIte, Nat.reduceEqDiff, Nat.reduceBEq, Nat.reduceAdd, Nat.reduceLeDiff, Nat.reduceLT, reduceCtorEq, Nat.reduceMul, Nat.reduceSub, Int.reduceEq, Int.reduceLT, Int.reduceLE, Int.reduceToNat]
      refine dCallR.f (fun _ hp' _ => hx hp' _) ?_
      simp only [p0, q0, r0, p1, q1, r1, p2, q2, r2, p3, q3, r3, p4, q4, r4, p5, q5, r5, p6, q6, r6, p7, q7, r7, p8, q8, r8, p9, q9, r9, p10, q10, r10, p11, q11, r11, p12, q12, r12, p13, q13, r13, p14, q14, r14, p15, q15, r15, p16, q16, r16, u1, v1, u2, v2, u3, v3, hYl, k2, k4, go_sem, ↓reduceIte, Nat.reduceEqDiff, Nat.reduceBEq, Nat.reduceAdd, Nat.reduceLeDiff, Nat.reduceLT, reduceCtorEq, Nat.reduceMul, Nat.reduceSub, Int.reduceEq, Int.reduceLT, Int.reduceLE, Int.reduceToNat]
      refine ⟨(j + 1, _), ⟨d, ?_⟩, k5, weak_ok ?_ (Sub.cons ?_ (Sub.cons ?_ (Sub.cons ?_ (Sub.base hf ?_)))) (Nat.le_refl _)⟩
      all_goals first | ((simp only [p0, q0, r0, p1, q1, r1, p2, q2, r2, p3, q3, r3, p4, q4, r4, p5, q5, r5, p6, q6, r6, p7, q7, r7, p8, q8, r8, p9, q9, r9, p10, q10, r10, p11, q11, r11, p12, q12, r12, p13, q13, r13, p14, q14, r14, p15, q15, r15, p16, q16, r16, u1, v1, u2, v2, u3, v3, wr64s j k6, hsn, go_sem, ↓reduceIte, Nat.reduceEqDiff, Nat.reduceBEq, Nat.reduceAdd, Nat.reduceLeDiff, Nat.reduceLT, reduceCtorEq, Nat.reduceMul, Nat.reduceSub, Int.reduceEq, Int.reduceLT, Int.reduceLE, Int.reduceToNat]); done) | (dsimp only; omega) | trace_state
    · have d : j = v.items.length := by simp at d; omega
      subst d
      rw [List.take_length] at hY
      rw [hY]
      have ht : Y.take v.items.length = Y := List.take_of_length_le (by omega)
      simp only [p0, q0, r0, p1, q1, r1, p2, q2, r2, p3, q3, r3, p4, q4, r4, p5, q5, r5, p6, q6, r6, p7, q7, r7, p8, q8, r8, p9, q9, r9, p10, q10, r10, p11, q11, r11, p12, q12, r12, p13, q13, r13, p14, q14, r14, p15, q15, r15, p16, q16, r16, u1, v1, u2, v2, u3, v3, hYl, ht, go_sem, ↓reduceIte, Nat.reduceEqDiff, Nat.reduceBEq, Nat.reduceAdd, Nat.reduceLeDiff, Nat.reduceLT, reduceCtorEq, Nat.reduceMul, Nat.reduceSub, Int.reduceEq, Int.reduceLT, Int.reduceLE, Int.reduceToNat]
  have c : ¬ v.k = 5 := by simpa using c
  rw [if_neg c] at e
  simp only [go_sem, ↓reduceIte, Nat.reduceEqDiff, Nat.reduceBEq, Nat.reduceAdd, Nat.reduceLeDiff, Nat.reduceLT, reduceCtorEq, Nat.reduceMul, Nat.reduceSub, Int.reduceEq, Int.reduceLT, Int.reduceLE, Int.reduceToNat]
  refine cdK_of (fun c1 => ?_) (fun c1 => ?_)
  · have c1 : v.k = 6 := by simpa using c1
    rw [if_pos c1] at e
    obtain ⟨C, hC⟩ : ∃ C, collV (typT v) (stripE v) l = C := ⟨_, rfl⟩
    rw [hC] at hcl e
    subst e
    simp only [go_sem, ↓reduceIte, Nat.reduceEqDiff, Nat.reduceBEq, Nat.reduceAdd, Nat.reduceLeDiff, Nat.reduceLT, reduceCtorEq, Nat.reduceMul, Nat.reduceSub, Int.reduceEq, Int.reduceLT, Int.reduceLE, Int.reduceToNat]
    refine vcCall.f (stypeOf_ok v fv _ _) ?_
    simp only [go_sem, ↓reduceIte, Nat.reduceEqDiff, Nat.reduceBEq, Nat.reduceAdd, Nat.reduceLeDiff, Nat.reduceLT, reduceCtorEq, Nat.reduceMul, Nat.reduceSub, Int.reduceEq, Int.reduceLT, Int.reduceLE, Int.reduceToNat]
    refine vcCall.f (hcl [.bx m 0] ll _ _ fun p hpm hp' n' hh hn => one1 p hpm m hp' n' ?_ (by omega)) ?_
    · rw [hh m (by omega)]
      simp only [go_sem, ↓reduceIte, Nat.reduceEqDiff, Nat.reduceBEq, Nat.reduceAdd, Nat.reduceLeDiff, Nat.reduceLT, reduceCtorEq, Nat.reduceMul, Nat.reduceSub, Int.reduceEq, Int.reduceLT, Int.reduceLE, Int.reduceToNat]
    simp only [go_sem, ↓reduceIte, Nat.reduceEqDiff, Nat.reduceBEq, Nat.reduceAdd, Nat.reduceLeDiff, Nat.reduceLT, reduceCtorEq, Nat.reduceMul, Nat.reduceSub, Int.reduceEq, Int.reduceLT, Int.reduceLE, Int.reduceToNat]
  have c1 : ¬ v.k = 6 := by simpa using c1
  rw [if_neg c1] at e
  subst e
  simp only [go_sem, ↓reduceIte, Nat.reduceEqDiff, Nat.reduceBEq, Nat.reduceAdd, Nat.reduceLeDiff, Nat.reduceLT, reduceCtorEq, Nat.reduceMul, Nat.reduceSub, Int.reduceEq, Int.reduceLT, Int.reduceLE, Int.reduceToNat]
  refine vcCall.f (hcv _ _) ?_
  simp only [go_sem, ↓reduceIte, Nat.reduceEqDiff, Nat.reduceBEq, Nat.reduceAdd, Nat.reduceLeDiff, Nat.reduceLT, reduceCtorEq, Nat.reduceMul, Nat.reduceSub, Int.reduceEq, Int.reduceLT, Int.reduceLE, Int.reduceToNat]
theorem strip_okG (v : Val) : v.Fit → ∀ (l : List Pk), PkR l → ∀ hp m, MeetsF Try.prog 37 hp m [.ds (mapC pkC l), vx v] (vx (stripV v l)) :=
  Val.ind (Q := fun v => v.Fit → ∀ (l : List Pk), PkR l → ∀ hp m, MeetsF Try.prog 37 hp m [.ds (mapC pkC l), vx v] (vx (stripV v l)))
    (fun v ih hw l hl hp m => strip_of v hw (fun x hx l hl => ih x hx (hw.x hx) l hl) l hl hp m) v
theorem strip_ok (v : Val) (hw : wtV v ≤ 100000000000) (l : List Pk) (hl : wtKs l ≤ 100000000000) (hp : CH) (m : Nat) : MeetsF Try.prog 37 hp m [.ds (mapC pkC l), vx v] (vx (stripV v l)) :=
  strip_okG v (wtV_fit v (by omega)) l (pkR_wt l hl) hp m
end Go.Proofs.Ytmcgjccheehehaa
