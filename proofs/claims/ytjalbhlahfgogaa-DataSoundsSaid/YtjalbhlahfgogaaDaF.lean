/-
  Keys of datasets: their parts. Conditions: none.
-/
import Derived.Test.YtjalbhlahfgogaaDaE
namespace Go.Proofs.Ytjalbhlahfgogaa
open Go.Eng
set_option linter.unusedVariables false
set_option linter.unusedSimpArgs false
set_option maxRecDepth 20000
inductive Ky where
  | mk (t : ByteArray) (g : Int) (l : List ByteArray)
def Ky.t : Ky → ByteArray | .mk t _ _ => t
theorem Ky.t_mk (t : ByteArray) (g : Int) (l : List ByteArray) : (Ky.mk t g l).t = t := rfl
def Ky.g : Ky → Int | .mk _ g _ => g
theorem Ky.g_mk (t : ByteArray) (g : Int) (l : List ByteArray) : (Ky.mk t g l).g = g := rfl
def Ky.l : Ky → List ByteArray | .mk _ _ l => l
theorem Ky.l_mk (t : ByteArray) (g : Int) (l : List ByteArray) : (Ky.mk t g l).l = l := rfl
theorem Ky.eta (x : Ky) : Ky.mk x.t x.g x.l = x := by cases x; rfl
theorem Ky.ext {x y : Ky} (h0 : x.t = y.t) (h1 : x.g = y.g) (h2 : x.l = y.l) : x = y := by cases x; cases y; simp only [Ky.t_mk, Ky.g_mk, Ky.l_mk] at *; simp [*]
def kyC (x : Ky) : List AV := [.s x.t, .i .i64 x.g, .ds (stC x.l)]
theorem elsOk_kyC (l : List Ky) : elsOk 3 (mapC kyC l) = True := elsOk_map fun _ => ⟨rfl, rfl⟩
attribute [go_sem] elsOk_kyC
attribute [go_sem] kyC Ky.t_mk Ky.g_mk Ky.l_mk
attribute [grind =] Ky.t_mk Ky.g_mk Ky.l_mk
attribute [ext] Ky.ext
attribute [grind ext] Ky.ext
abbrev kx (k : Ky) : AV := .ag [.s k.t, .i .i64 k.g, .ds (stC k.l)]
abbrev sx' (K : List Ky) : AV := .ag [.e0, .e0, .ds (mapC kyC K), .e0]
theorem len_kyo (l : List Ky) : (∀ e, e ∈ mapC kyC l → e.length = 3) = True := eq_true fun e h => ((of_eq_true (elsOk_kyC l)) e h).1
attribute [go_sem] len_kyo
theorem idxf_kyo (l : List Ky) (q : Ky → Bool) (k : FuncId) (caps : List AV) (hl : l.length ≤ 9223372036854775806) (hp : CH) (m : Nat) (h : ∀ x ∈ l, ∀ n, MeetsF Try.prog k hp n (kx x :: caps) (.b (q x))) : MeetsF Try.prog 88 hp m [.ds (mapC kyC l), .fn k caps] (.i .i64 (fidx q l 0)) := by
  refine meetsF Try.func88 (by kernel_rfl) cc88 cr88 rfl fun hf => ?_; unfold ck88
  simp only [go_sem, ↓reduceIte, Nat.reduceEqDiff, Nat.reduceBEq, Nat.reduceAdd, Nat.reduceLeDiff, Nat.reduceLT, reduceCtorEq, Nat.reduceMul, Nat.reduceSub, Int.reduceEq, Int.reduceLT, Int.reduceLE, Int.reduceToNat]
  refine loop (fun p : Nat × Nat => ⟨[(0, .ds (mapC kyC l)), (1, .fn k caps), (7, .i .i64 l.length), (8, .i .i64 p.1)], hp, p.2⟩) (fun p => p.1 ≤ l.length ∧ fidx q l 0 = fidx q (l.drop p.1) p.1) (fun p => l.length - p.1) (0, m) ?_ ?_ (fun ⟨j, n⟩ hj => ?_)
  · exact ⟨by simp, rfl⟩
  · refine weak_ok ?_ (Sub.refl _) (Nat.le_refl _)
    simp only [go_sem, ↓reduceIte, Nat.reduceEqDiff, Nat.reduceBEq, Nat.reduceAdd, Nat.reduceLeDiff, Nat.reduceLT, reduceCtorEq, Nat.reduceMul, Nat.reduceSub, Int.reduceEq, Int.reduceLT, Int.reduceLE, Int.reduceToNat]
  dsimp only at hj
  obtain ⟨hj1, hj2⟩ := hj
  simp only [go_sem, ↓reduceIte, Nat.reduceEqDiff, Nat.reduceBEq, Nat.reduceAdd, Nat.reduceLeDiff, Nat.reduceLT, reduceCtorEq, Nat.reduceMul, Nat.reduceSub, Int.reduceEq, Int.reduceLT, Int.reduceLE, Int.reduceToNat]
  refine cdK_of (fun c => ?_) (fun c => ?_)
  · have c : j < l.length := by simpa using c
    obtain ⟨x, ex⟩ : ∃ x, l[j]? = some x := ⟨l[j], by simp [c]⟩
    have hx := h x (List.mem_of_getElem? ex) n
    rw [drop_at ex, fidx] at hj2
    simp only [c, getK_s (mapC_get kyC ex), go_sem, ↓reduceIte, Nat.reduceEqDiff, Nat.reduceBEq, Nat.reduceAdd, Nat.reduceLeDiff, Nat.reduceLT, reduceCtorEq, Nat.reduceMul, Nat.reduceSub, Int.reduceEq, Int.reduceLT, Int.reduceLE, Int.reduceToNat]
    refine vcCall.f (hx) ?_
    simp only [go_sem, ↓reduceIte, Nat.reduceEqDiff, Nat.reduceBEq, Nat.reduceAdd, Nat.reduceLeDiff, Nat.reduceLT, reduceCtorEq, Nat.reduceMul, Nat.reduceSub, Int.reduceEq, Int.reduceLT, Int.reduceLE, Int.reduceToNat]
    refine cdK_of (fun c1 => ?_) (fun c1 => ?_)
    · rw [if_pos c1] at hj2
      simp only [go_sem, ↓reduceIte, Nat.reduceEqDiff, Nat.reduceBEq, Nat.reduceAdd, Nat.reduceLeDiff, Nat.reduceLT, reduceCtorEq, Nat.reduceMul, Nat.reduceSub, Int.reduceEq, Int.reduceLT, Int.reduceLE, Int.reduceToNat]
      rw [hj2]
    · rw [if_neg (by simp [c1])] at hj2
      simp only [go_sem, ↓reduceIte, Nat.reduceEqDiff, Nat.reduceBEq, Nat.reduceAdd, Nat.reduceLeDiff, Nat.reduceLT, reduceCtorEq, Nat.reduceMul, Nat.reduceSub, Int.reduceEq, Int.reduceLT, Int.reduceLE, Int.reduceToNat]
      refine ⟨(j + 1, n), ⟨by dsimp only; omega, hj2⟩, by dsimp only; omega, weak_ok ?_ (Sub.refl _) (Nat.le_refl _)⟩
      simp only [wr64s j (by omega), go_sem, ↓reduceIte, Nat.reduceEqDiff, Nat.reduceBEq, Nat.reduceAdd, Nat.reduceLeDiff, Nat.reduceLT, reduceCtorEq, Nat.reduceMul, Nat.reduceSub, Int.reduceEq, Int.reduceLT, Int.reduceLE, Int.reduceToNat]
  · have c : j = l.length := by simp at c; omega
    subst c
    rw [List.drop_length, fidx] at hj2
    simp only [go_sem, ↓reduceIte, Nat.reduceEqDiff, Nat.reduceBEq, Nat.reduceAdd, Nat.reduceLeDiff, Nat.reduceLT, reduceCtorEq, Nat.reduceMul, Nat.reduceSub, Int.reduceEq, Int.reduceLT, Int.reduceLE, Int.reduceToNat]
    rw [hj2]
theorem anyf_kyo (l : List Ky) (q : Ky → Bool) (k : FuncId) (caps : List AV) (hl : l.length ≤ 9223372036854775806) (hp : CH) (m : Nat) (h : ∀ x ∈ l, ∀ n, MeetsF Try.prog k hp n (kx x :: caps) (.b (q x))) : MeetsF Try.prog 79 hp m [.ds (mapC kyC l), .fn k caps] (.b (l.any q)) := by
  rw [← fidx_any q l 0]
  refine meetsF Try.func79 (by kernel_rfl) cc79 cr79 rfl fun hf => ?_; unfold ck79
  simp only [go_sem, ↓reduceIte, Nat.reduceEqDiff, Nat.reduceBEq, Nat.reduceAdd, Nat.reduceLeDiff, Nat.reduceLT, reduceCtorEq, Nat.reduceMul, Nat.reduceSub, Int.reduceEq, Int.reduceLT, Int.reduceLE, Int.reduceToNat]
  refine vcCall.f (idxf_kyo l q k caps hl _ _ h) ?_
  simp only [go_sem, ↓reduceIte, Nat.reduceEqDiff, Nat.reduceBEq, Nat.reduceAdd, Nat.reduceLeDiff, Nat.reduceLT, reduceCtorEq, Nat.reduceMul, Nat.reduceSub, Int.reduceEq, Int.reduceLT, Int.reduceLE, Int.reduceToNat]
/-- The type of an item. -/
def typD (d : Dat) (i : Int) : ByteArray := ((d.i[i.toNat]?).map Itm.t).getD ⟨#[]⟩
theorem typD_at {d : Dat} {j : Nat} {x : Itm} (h : d.i[j]? = some x) : typD d j = x.t := by rw [typD, Int.toNat_natCast, h]; rfl
noncomputable def keyW (on f : ByteArray) (k : Ky) : Bool := decide (k.t = on) && decide (0 ≤ ix f k.l 0)
/-- A write that changes a field of a key. -/
noncomputable def mvW (d : Dat) (K : List Ky) (w : Wri) : Bool := decide (0 ≤ w.i) && decide (w.i < (d.i.length : Int)) && K.any (keyW (typD d w.i) w.c.f)
theorem wk1_ok (k : Ky) (hk : k.l.length ≤ 9223372036854775806) (w : Wri) (on : ByteArray) (c1 c2 : Nat) (hp : CH) (m : Nat) (h1 : gc hp c1 = .bx [.s on]) (h2 : gc hp c2 = .bx (wrC w)) :
    MeetsF Try.prog 80 hp m [kx k, .bx c1 0, .bx c2 0] (.b (keyW on w.c.f k)) := by
  rw [keyW]
  simp only [wrC] at h2
  refine meetsF Try.func80 (by kernel_rfl) cc80 cr80 rfl fun hf => ?_; unfold ck80
  have z1 := bx_lt hf h1
  have z2 := bx_lt hf h2
  have y1 : ¬ c1 = m := by omega
  have y2 : ¬ m = c1 := by omega
  have y3 : ¬ c2 = m := by omega
  have y4 : ¬ m = c2 := by omega
  simp only [y1, y2, y3, y4, h1, h2, go_sem, ↓reduceIte, Nat.reduceEqDiff, Nat.reduceBEq, Nat.reduceAdd, Nat.reduceLeDiff, Nat.reduceLT, reduceCtorEq, Nat.reduceMul, Nat.reduceSub, Int.reduceEq, Int.reduceLT, Int.reduceLE, Int.reduceToNat]
  refine gCall.f (fun _ => contains_ok k.l w.c.f hk _ _) ?_
  simp only [go_sem, ↓reduceIte, Nat.reduceEqDiff, Nat.reduceBEq, Nat.reduceAdd, Nat.reduceLeDiff, Nat.reduceLT, reduceCtorEq, Nat.reduceMul, Nat.reduceSub, Int.reduceEq, Int.reduceLT, Int.reduceLE, Int.reduceToNat]
theorem dWritesKey_ok (d : Dat) (hd : d.Fit) (K : List Ky) (hK : K.length ≤ 1000000000000) (hkl : ∀ k ∈ K, k.l.length ≤ 9223372036854775806) (hp : CH) (m : Nat) : MeetsF Try.prog 54 hp m [sx' K, dx d] (.b (d.w.any (mvW d K))) := by
  have hlw := hd.lw
  obtain ⟨R, hR⟩ : ∃ R, d.w.any (mvW d K) = R := ⟨_, rfl⟩
  rw [hR]
  refine meetsF Try.func54 (by kernel_rfl) cc54 cr54 rfl fun hf => ?_; unfold ck54
  simp only [go_sem, ↓reduceIte, Nat.reduceEqDiff, Nat.reduceBEq, Nat.reduceAdd, Nat.reduceLeDiff, Nat.reduceLT, reduceCtorEq, Nat.reduceMul, Nat.reduceSub, Int.reduceEq, Int.reduceLT, Int.reduceLE, Int.reduceToNat]
  refine loop (fun p : Nat × Nat => ⟨[(2, .bx m 0), (3, .bx (m + 1) 0), (9, .ds (mapC wrC d.w)), (10, .i .i64 d.w.length), (11, .i .i64 p.1)], (m + 1, .bx [.ds (mapC itC d.i), .ds (mapC wrC d.w)]) :: (m, .bx [.e0, .e0, .ds (mapC kyC K), .e0]) :: hp, p.2⟩)
    (fun p => p.1 ≤ d.w.length ∧ m + 2 ≤ p.2 ∧ R = (d.w.drop p.1).any (mvW d K)) (fun p => d.w.length - p.1) (0, m + 2) ?_ ?_ (fun ⟨j, n⟩ hj => ?_)
  · exact ⟨by simp, by simp, hR.symm⟩
  · refine weak_ok ?_ (Sub.refl _) (Nat.le_refl _)
    simp only [go_sem, ↓reduceIte, Nat.reduceEqDiff, Nat.reduceBEq, Nat.reduceAdd, Nat.reduceLeDiff, Nat.reduceLT, reduceCtorEq, Nat.reduceMul, Nat.reduceSub, Int.reduceEq, Int.reduceLT, Int.reduceLE, Int.reduceToNat]
  dsimp only at hj
  obtain ⟨hj1, hj2, hj3⟩ := hj
  have z1 : ¬ n = m := by omega
  have z2 : ¬ n = m + 1 := by omega
  have z3 : m ≤ n := by omega
  have z4 : ¬ n + 1 = m := by omega
  have z5 : ¬ n + 1 = m + 1 := by omega
  have z6 : m ≤ n + 1 := by omega
  simp only [z1, z2, z3, go_sem, ↓reduceIte, Nat.reduceEqDiff, Nat.reduceBEq, Nat.reduceAdd, Nat.reduceLeDiff, Nat.reduceLT, reduceCtorEq, Nat.reduceMul, Nat.reduceSub, Int.reduceEq, Int.reduceLT, Int.reduceLE, Int.reduceToNat]
  refine cdK_of (fun q => ?_) (fun q => ?_)
  · have q : j < d.w.length := by simpa using q
    obtain ⟨w, ew⟩ : ∃ w, d.w[j]? = some w := ⟨d.w[j], by simp [q]⟩
    rw [drop_at ew, List.any_cons] at hj3
    simp only [z1, z2, z3, q, getK_s (mapC_get wrC ew), go_sem, ↓reduceIte, Nat.reduceEqDiff, Nat.reduceBEq, Nat.reduceAdd, Nat.reduceLeDiff, Nat.reduceLT, reduceCtorEq, Nat.reduceMul, Nat.reduceSub, Int.reduceEq, Int.reduceLT, Int.reduceLE, Int.reduceToNat]
    refine cdK_of (fun c => ?_) (fun c => ?_)
    · have c : ¬ (0 ≤ w.i ∧ w.i < (d.i.length : Int)) := by simp only [Bool.or_eq_true, decide_eq_true_eq] at c; omega
      have e : mvW d K w = false := by
        rw [mvW, ← Bool.decide_and, decide_eq_false c, Bool.false_and]
      rw [e, Bool.false_or] at hj3
      simp only [z1, z2, z3, go_sem, ↓reduceIte, Nat.reduceEqDiff, Nat.reduceBEq, Nat.reduceAdd, Nat.reduceLeDiff, Nat.reduceLT, reduceCtorEq, Nat.reduceMul, Nat.reduceSub, Int.reduceEq, Int.reduceLT, Int.reduceLE, Int.reduceToNat]
      refine ⟨(j + 1, _), ⟨by dsimp only; omega, by dsimp only; omega, hj3⟩, by dsimp only; omega, weak_ok ?_ (Sub.cons ?_ (Sub.cons ?_ (Sub.base hf ?_))) (Nat.le_refl _)⟩
      all_goals
        simp only [z1, z2, z3, wr64s j (by omega), go_sem, ↓reduceIte, Nat.reduceEqDiff, Nat.reduceBEq, Nat.reduceAdd, Nat.reduceLeDiff, Nat.reduceLT, reduceCtorEq, Nat.reduceMul, Nat.reduceSub, Int.reduceEq, Int.reduceLT, Int.reduceLE, Int.reduceToNat]
    have c : 0 ≤ w.i ∧ w.i < (d.i.length : Int) := by simp only [Bool.or_eq_false_iff, decide_eq_false_iff_not] at c; omega
    obtain ⟨i, ei⟩ : ∃ i : Nat, w.i = i := ⟨w.i.toNat, by omega⟩
    have hi : i < d.i.length := by omega
    obtain ⟨x, ex⟩ : ∃ x, d.i[i]? = some x := ⟨d.i[i], by simp [hi]⟩
    have e : mvW d K w = K.any (keyW x.t w.c.f) := by
      rw [mvW, ← Bool.decide_and, decide_eq_true c, Bool.true_and, ei, typD_at ex]
    rw [e] at hj3
    simp only [z1, z2, z3, z4, z5, z6, ei, hi, getK_s (mapC_get itC ex), go_sem, ↓reduceIte, Nat.reduceEqDiff, Nat.reduceBEq, Nat.reduceAdd, Nat.reduceLeDiff, Nat.reduceLT, reduceCtorEq, Nat.reduceMul, Nat.reduceSub, Int.reduceEq, Int.reduceLT, Int.reduceLE, Int.reduceToNat]
    refine vcCall.f (anyf_kyo K (keyW x.t w.c.f) _ [.bx (n + 1) 0, .bx n 0] (by omega) _ _ fun k hk n' => wk1_ok k (hkl k hk) w x.t (n + 1) n _ _ ?_ ?_) ?_
    · simp only [z1, z2, z3, z4, z5, z6, ei, go_sem, ↓reduceIte, Nat.reduceEqDiff, Nat.reduceBEq, Nat.reduceAdd, Nat.reduceLeDiff, Nat.reduceLT, reduceCtorEq, Nat.reduceMul, Nat.reduceSub, Int.reduceEq, Int.reduceLT, Int.reduceLE, Int.reduceToNat]
    · simp only [z1, z2, z3, z4, z5, z6, ei, go_sem, ↓reduceIte, Nat.reduceEqDiff, Nat.reduceBEq, Nat.reduceAdd, Nat.reduceLeDiff, Nat.reduceLT, reduceCtorEq, Nat.reduceMul, Nat.reduceSub, Int.reduceEq, Int.reduceLT, Int.reduceLE, Int.reduceToNat]
    simp only [z1, z2, z3, z4, z5, z6, go_sem, ↓reduceIte, Nat.reduceEqDiff, Nat.reduceBEq, Nat.reduceAdd, Nat.reduceLeDiff, Nat.reduceLT, reduceCtorEq, Nat.reduceMul, Nat.reduceSub, Int.reduceEq, Int.reduceLT, Int.reduceLE, Int.reduceToNat]
    refine cdK_of (fun c2 => ?_) (fun c2 => ?_)
    · rw [c2, Bool.true_or] at hj3
      simp only [z1, z2, z3, z4, z5, z6, hj3, go_sem, ↓reduceIte, Nat.reduceEqDiff, Nat.reduceBEq, Nat.reduceAdd, Nat.reduceLeDiff, Nat.reduceLT, reduceCtorEq, Nat.reduceMul, Nat.reduceSub, Int.reduceEq, Int.reduceLT, Int.reduceLE, Int.reduceToNat]
    · rw [c2, Bool.false_or] at hj3
      simp only [z1, z2, z3, z4, z5, z6, go_sem, ↓reduceIte, Nat.reduceEqDiff, Nat.reduceBEq, Nat.reduceAdd, Nat.reduceLeDiff, Nat.reduceLT, reduceCtorEq, Nat.reduceMul, Nat.reduceSub, Int.reduceEq, Int.reduceLT, Int.reduceLE, Int.reduceToNat]
      refine ⟨(j + 1, _), ⟨by dsimp only; omega, by dsimp only; omega, hj3⟩, by dsimp only; omega, weak_ok ?_ (Sub.cons ?_ (Sub.cons ?_ (Sub.base hf ?_))) (Nat.le_refl _)⟩
      all_goals
        simp only [z1, z2, z3, z4, z5, z6, wr64s j (by omega), go_sem, ↓reduceIte, Nat.reduceEqDiff, Nat.reduceBEq, Nat.reduceAdd, Nat.reduceLeDiff, Nat.reduceLT, reduceCtorEq, Nat.reduceMul, Nat.reduceSub, Int.reduceEq, Int.reduceLT, Int.reduceLE, Int.reduceToNat]
  · have q : j = d.w.length := by simp at q; omega
    subst q
    rw [List.drop_length, List.any_nil] at hj3
    simp only [hj3, go_sem, ↓reduceIte, Nat.reduceEqDiff, Nat.reduceBEq, Nat.reduceAdd, Nat.reduceLeDiff, Nat.reduceLT, reduceCtorEq, Nat.reduceMul, Nat.reduceSub, Int.reduceEq, Int.reduceLT, Int.reduceLE, Int.reduceToNat]
end Go.Proofs.Ytjalbhlahfgogaa
