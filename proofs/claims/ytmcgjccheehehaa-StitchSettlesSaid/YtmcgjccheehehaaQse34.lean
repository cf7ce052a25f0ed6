/-
  The parts SaF of the proof, in one file. Conditions: none.
-/
import Derived.Test.YtmcgjccheehehaaQse33
namespace Go.Proofs.Ytmcgjccheehehaa
open Go.Eng
set_option linter.unusedVariables false
set_option linter.unusedSimpArgs false
set_option maxRecDepth 20000
inductive Fet where
  | mk (g : Int) (d : Int) (p : List Hop) (t : ByteArray) (ks : List ByteArray) (ky : Int) (pk : List Pk) (af : List Int)
def Fet.g : Fet → Int | .mk g _ _ _ _ _ _ _ => g
theorem Fet.g_mk (g : Int) (d : Int) (p : List Hop) (t : ByteArray) (ks : List ByteArray) (ky : Int) (pk : List Pk) (af : List Int) : (Fet.mk g d p t ks ky pk af).g = g := rfl
def Fet.d : Fet → Int | .mk _ d _ _ _ _ _ _ => d
theorem Fet.d_mk (g : Int) (d : Int) (p : List Hop) (t : ByteArray) (ks : List ByteArray) (ky : Int) (pk : List Pk) (af : List Int) : (Fet.mk g d p t ks ky pk af).d = d := rfl
def Fet.p : Fet → List Hop | .mk _ _ p _ _ _ _ _ => p
theorem Fet.p_mk (g : Int) (d : Int) (p : List Hop) (t : ByteArray) (ks : List ByteArray) (ky : Int) (pk : List Pk) (af : List Int) : (Fet.mk g d p t ks ky pk af).p = p := rfl
def Fet.t : Fet → ByteArray | .mk _ _ _ t _ _ _ _ => t
theorem Fet.t_mk (g : Int) (d : Int) (p : List Hop) (t : ByteArray) (ks : List ByteArray) (ky : Int) (pk : List Pk) (af : List Int) : (Fet.mk g d p t ks ky pk af).t = t := rfl
def Fet.ks : Fet → List ByteArray | .mk _ _ _ _ ks _ _ _ => ks
theorem Fet.ks_mk (g : Int) (d : Int) (p : List Hop) (t : ByteArray) (ks : List ByteArray) (ky : Int) (pk : List Pk) (af : List Int) : (Fet.mk g d p t ks ky pk af).ks = ks := rfl
def Fet.ky : Fet → Int | .mk _ _ _ _ _ ky _ _ => ky
theorem Fet.ky_mk (g : Int) (d : Int) (p : List Hop) (t : ByteArray) (ks : List ByteArray) (ky : Int) (pk : List Pk) (af : List Int) : (Fet.mk g d p t ks ky pk af).ky = ky := rfl
def Fet.pk : Fet → List Pk | .mk _ _ _ _ _ _ pk _ => pk
theorem Fet.pk_mk (g : Int) (d : Int) (p : List Hop) (t : ByteArray) (ks : List ByteArray) (ky : Int) (pk : List Pk) (af : List Int) : (Fet.mk g d p t ks ky pk af).pk = pk := rfl
def Fet.af : Fet → List Int | .mk _ _ _ _ _ _ _ af => af
theorem Fet.af_mk (g : Int) (d : Int) (p : List Hop) (t : ByteArray) (ks : List ByteArray) (ky : Int) (pk : List Pk) (af : List Int) : (Fet.mk g d p t ks ky pk af).af = af := rfl
theorem Fet.eta (x : Fet) : Fet.mk x.g x.d x.p x.t x.ks x.ky x.pk x.af = x := by cases x; rfl
theorem Fet.ext {x y : Fet} (h0 : x.g = y.g) (h1 : x.d = y.d) (h2 : x.p = y.p) (h3 : x.t = y.t) (h4 : x.ks = y.ks) (h5 : x.ky = y.ky) (h6 : x.pk = y.pk) (h7 : x.af = y.af) : x = y := by cases x; cases y; simp only [Fet.g_mk, Fet.d_mk, Fet.p_mk, Fet.t_mk, Fet.ks_mk, Fet.ky_mk, Fet.pk_mk, Fet.af_mk] at *; simp [*]
attribute [go_sem] Fet.g_mk Fet.d_mk Fet.p_mk Fet.t_mk Fet.ks_mk Fet.ky_mk Fet.pk_mk Fet.af_mk
attribute [grind =] Fet.g_mk Fet.d_mk Fet.p_mk Fet.t_mk Fet.ks_mk Fet.ky_mk Fet.pk_mk Fet.af_mk
attribute [ext] Fet.ext
attribute [grind ext] Fet.ext
abbrev fx (f : Fet) : AV := .ag [.i .i64 f.g, .i .i64 f.d, .ds (mapC hopC f.p), .s f.t, .ds (stC f.ks), .i .i64 f.ky, .ds (mapC pkC f.pk), .ds (mapC in1 f.af)]
theorem text_ok (s : ByteArray) (hp : CH) (m : Nat) : MeetsF Try.prog 88 hp m [.s s] (vx (.mk 3 0 s [] [])) := by
  refine meetsF Try.func88 (by kernel_rfl) cc88 cr88 rfl fun hf => ?_; unfold ck88
  simp only [go_sem, ↓reduceIte, Nat.reduceEqDiff, Nat.reduceBEq, Nat.reduceAdd, Nat.reduceLeDiff, Nat.reduceLT, reduceCtorEq, Nat.reduceMul, Nat.reduceSub, Int.reduceEq, Int.reduceLT, Int.reduceLE, Int.reduceToNat]
theorem rtext_ok (s : ByteArray) (hp : CH) (m : Nat) : MeetsF Try.prog 71 hp m [.s s] (vx (.mk 3 0 s [] [])) := by
  refine meetsF Try.func71 (by kernel_rfl) cc71 cr71 rfl fun hf => ?_; unfold ck71
  simp only [go_sem, ↓reduceIte, Nat.reduceEqDiff, Nat.reduceBEq, Nat.reduceAdd, Nat.reduceLeDiff, Nat.reduceLT, reduceCtorEq, Nat.reduceMul, Nat.reduceSub, Int.reduceEq, Int.reduceLT, Int.reduceLE, Int.reduceToNat]
/-- Keys that have been seen. -/
def seC (l : List ByteArray) : List (ByteArray × AV) := l.map fun s => (s, .ag [])
theorem se_t (b : ByteArray) : ∀ l : List ByteArray, b ∈ l → mfind b (seC l) = some (.ag [])
  | x :: l, hm => by
    have ih := se_t b l
    rw [seC] at ih
    rw [seC, List.map_cons, mfind]
    by_cases h : b = x
    · rw [if_pos h]
    · rw [if_neg h]
      exact ih (by simpa [h] using hm)
theorem se_f (b : ByteArray) : ∀ l : List ByteArray, b ∉ l → mfind b (seC l) = none
  | [], _ => rfl
  | x :: l, hm => by
    have ih := se_f b l fun h => hm (by simp [h])
    have h : ¬ b = x := fun e => hm (by simp [e])
    rw [seC] at ih
    rw [seC, List.map_cons, mfind, if_neg h]
    exact ih
theorem se_put (b : ByteArray) : ∀ l : List ByteArray, b ∉ l → mput b (.ag []) (seC l) = seC (l ++ [b])
  | [], _ => rfl
  | x :: l, h => by
    have h1 : ¬ b = x := fun e => h (by simp [e])
    have ih := se_put b l fun hm => h (by simp [hm])
    rw [seC, List.map_cons, mput, if_neg h1]
    rw [seC] at ih
    rw [ih]
    rfl
/-- The key of a field that represents an object. -/
abbrev knm (s : ByteArray) : ByteArray := ⟨#[95, 95, 107, 95]⟩ ++ s
noncomputable def lfV (x : Val) : Val := if lfB x = true then x else zVal
def inB (s : ByteArray) (K : List ByteArray) : Bool := K.any fun y => decide (y = s)
theorem inB_iff {s : ByteArray} {K : List ByteArray} : inB s K = true ↔ s ∈ K := by simp [inB]
theorem lfV_fit {x : Val} (h : x.Fit) : (lfV x).Fit := by
  unfold lfV
  split
  · exact h
  · exact .mk _ (by decide) (by decide) fun y hy => by cases hy
theorem getV_fit' {v x : Val} (hv : v.Fit) {k : ByteArray} (h : getV v k = some x) : x.Fit := hv.x (getV_mem h)
noncomputable def repS (v : Val) (key : Int) : Nat → List ByteArray → List ByteArray → List Val → Option (List ByteArray × List Val)
  | i, [], K, I => some (K, I)
  | i, s :: r, K, I => match getV v (knm s) with
    | none => none
    | some x => if x.k = 9 ∨ ((i : Int) < key ∧ lfB x = false) then none
      else if inB s K = true then repS v key (i + 1) r K I
      else repS v key (i + 1) r (K ++ [s]) (I ++ [lfV x])
noncomputable def repV (f : Fet) (v : Val) : Val := match repS v f.ky 0 f.ks [] [] with
  | none => zVal
  | some (K, I) => .mk 6 0 ⟨#[]⟩ (.mk 3 0 f.t [] [] :: I) (⟨#[95, 95, 116, 121, 112, 101, 110, 97, 109, 101]⟩ :: K)
abbrev tnm : ByteArray := ⟨#[95, 95, 116, 121, 112, 101, 110, 97, 109, 101]⟩
set_option maxHeartbeats 2000000 in
theorem rep_ok (f : Fet) (v : Val) (hv : v.Fit) (hl : f.ks.length * 80 ≤ 100000000000000) (hs : ∀ s ∈ f.ks, s.size ≤ 100000000000000) (hp : CH) (m : Nat) : MeetsF Try.prog 60 hp m [fx f, vx v] (vx (repV f v)) := by
  obtain ⟨R, hR⟩ : ∃ R, repV f v = R := ⟨_, rfl⟩
  have e := hR
  unfold repV at e
  rw [hR]
  refine meetsF Try.func60 (by kernel_rfl) cc60 cr60 rfl fun hf => ?_; unfold ck60
  simp only [go_sem, ↓reduceIte, Nat.reduceEqDiff, Nat.reduceBEq, Nat.reduceAdd, Nat.reduceLeDiff, Nat.reduceLT, reduceCtorEq, Nat.reduceMul, Nat.reduceSub, Int.reduceEq, Int.reduceLT, Int.reduceLE, Int.reduceToNat]
  refine vcCall.f (text_ok _ _ _) ?_
  simp only [go_sem, ↓reduceIte, Nat.reduceEqDiff, Nat.reduceBEq, Nat.reduceAdd, Nat.reduceLeDiff, Nat.reduceLT, reduceCtorEq, Nat.reduceMul, Nat.reduceSub, Int.reduceEq, Int.reduceLT, Int.reduceLE, Int.reduceToNat]
  refine loop (fun p : Nat × List ByteArray × List Val × Nat => ⟨[(2, .bx m 0), (3, .bx (m + 1) 0), (4, .bx (m + 2) 0), (5, .bx (m + 5) 0), (6, .mp (m + 6)), (21, .ds (stC f.ks)), (22, .i .i64 f.ks.length), (23, .i .i64 p.1)],
      (m + 6, .mp (seC p.2.1)) :: (m + 5, .bx [.i .i64 6, .i .i64 0, .s ⟨#[]⟩, .rw (m + 4) p.2.2.1.length (p.2.2.1.length + 1), .rw (m + 3) p.2.1.length (p.2.1.length + 1)]) ::
      (m + 4, .rw p.2.2.1.length 5 (mapC valC (.mk 3 0 f.t [] [] :: p.2.2.1))) :: (m + 3, .rw p.2.1.length 1 (stC (tnm :: p.2.1))) ::
      (m + 2, .bx [.i .i64 0, .i .i64 0, .s ⟨#[]⟩, .e0, .e0]) :: (m + 1, .bx [.i .i64 v.k, .i .i64 v.n, .s v.s, .ds (mapC valC v.items), .ds (stC v.keys)]) ::
      (m, .bx [.i .i64 f.g, .i .i64 f.d, .ds (mapC hopC f.p), .s f.t, .ds (stC f.ks), .i .i64 f.ky, .ds (mapC pkC f.pk), .ds (mapC in1 f.af)]) :: hp, p.2.2.2⟩)
    (fun p => p.1 ≤ f.ks.length ∧ m + 7 ≤ p.2.2.2 ∧ p.2.1.length = p.2.2.1.length ∧ p.2.1.length ≤ p.1 ∧ repS v f.ky 0 f.ks [] [] = repS v f.ky p.1 (f.ks.drop p.1) p.2.1 p.2.2.1)
    (fun p => f.ks.length - p.1) (0, [], [], m + 7) ?_ ?_ (fun ⟨j, K, I, n⟩ hj => ?_)
  · exact ⟨by simp, by simp, rfl, by simp, rfl⟩
  · refine weak_ok ?_ (Sub.cons ?_ (Sub.cons ?_ (Sub.cons ?_ (Sub.cons ?_ (Sub.cons ?_ (Sub.cons ?_ (Sub.cons ?_ (Sub.base hf ?_)))))))) (Nat.le_refl _)
    all_goals
      simp only [go_sem, ↓reduceIte, Nat.reduceEqDiff, Nat.reduceBEq, Nat.reduceAdd, Nat.reduceLeDiff, Nat.reduceLT, reduceCtorEq, Nat.reduceMul, Nat.reduceSub, Int.reduceEq, Int.reduceLT, Int.reduceLE, Int.reduceToNat]
    all_goals rfl
  dsimp only at hj
  obtain ⟨hj1, hj2, hj3, hj4, hj5⟩ := hj
  have hne : ∀ i, i ≤ 6 → ¬ n = m + i := fun i hi => by omega
  have z0 : ¬ n = m := by omega
  have z1 := hne 1 (by omega)
  have z2 := hne 2 (by omega)
  have z3 := hne 3 (by omega)
  have z4 := hne 4 (by omega)
  have z5 := hne 5 (by omega)
  have z6 := hne 6 (by omega)
  have z7 : m ≤ n := by omega
  have y0 : ¬ m = n := by omega
  have y1 : ¬ m + 1 = n := by omega
  have y2 : ¬ m + 2 = n := by omega
  have y3 : ¬ m + 3 = n := by omega
  have y4 : ¬ m + 4 = n := by omega
  have y5 : ¬ m + 5 = n := by omega
  have y6 : ¬ m + 6 = n := by omega
  have y7 : ¬ n + 1 = m := by omega
  have y8 : m ≤ n + 1 := by omega
  rw [hj5] at e
  simp only [z0, z1, z2, z3, z4, z5, z6, z7, y0, y1, y2, y3, y4, y5, y6, y7, y8, go_sem, ↓reduceIte, Nat.reduceEqDiff, Nat.reduceBEq, Nat.reduceAdd, Nat.reduceLeDiff, Nat.reduceLT, reduceCtorEq, Nat.reduceMul, Nat.reduceSub, Int.reduceEq, Int.reduceLT, Int.reduceLE, Int.reduceToNat]
  refine cdK_of (fun c => ?_) (fun c => ?_)
  · have c : j < f.ks.length := by simpa using c
    obtain ⟨x, ex⟩ : ∃ x, f.ks[j]? = some x := ⟨f.ks[j], by simp⟩
    have hxs := hs x (List.mem_of_getElem? ex)
    rw [drop_at ex, repS] at e
    have hg := get_ok v hv (knm x)
    obtain ⟨G, hG⟩ : ∃ G, getV v (knm x) = G := ⟨_, rfl⟩
    rw [hG] at hg e
    simp only [z0, z1, z2, z3, z4, z5, z6, z7, y0, y1, y2, y3, y4, y5, y6, y7, y8, c, getK_s (mapC_get st1 ex), go_sem, ↓reduceIte, Nat.reduceEqDiff, Nat.reduceBEq, Nat.reduceAdd, Nat.reduceLeDiff, Nat.reduceLT, reduceCtorEq, Nat.reduceMul, Nat.reduceSub, Int.reduceEq, Int.reduceLT, Int.reduceLE, Int.reduceToNat]
    refine ⟨by rw [show (⟨#[95, 95, 107, 95]⟩ : ByteArray).size = 4 from rfl]; omega, ?_⟩
    refine vcCall.f (hg _ _) ?_
    simp only [z0, z1, z2, z3, z4, z5, z6, z7, y0, y1, y2, y3, y4, y5, y6, y7, y8, go_sem, ↓reduceIte, Nat.reduceEqDiff, Nat.reduceBEq, Nat.reduceAdd, Nat.reduceLeDiff, Nat.reduceLT, reduceCtorEq, Nat.reduceMul, Nat.reduceSub, Int.reduceEq, Int.reduceLT, Int.reduceLE, Int.reduceToNat]
    cases G with
    | none =>
      dsimp only at e
      subst e
      simp only [z0, z1, z2, z3, z4, z5, z6, z7, y0, y1, y2, y3, y4, y5, y6, y7, y8, go_sem, ↓reduceIte, Nat.reduceEqDiff, Nat.reduceBEq, Nat.reduceAdd, Nat.reduceLeDiff, Nat.reduceLT, reduceCtorEq, Nat.reduceMul, Nat.reduceSub, Int.reduceEq, Int.reduceLT, Int.reduceLE, Int.reduceToNat]
      refine gCall.f (r := .b false) (fun h => by cases h) ?_
      simp only [z0, z1, z2, z3, z4, z5, z6, z7, y0, y1, y2, y3, y4, y5, y6, y7, y8, go_sem, ↓reduceIte, Nat.reduceEqDiff, Nat.reduceBEq, Nat.reduceAdd, Nat.reduceLeDiff, Nat.reduceLT, reduceCtorEq, Nat.reduceMul, Nat.reduceSub, Int.reduceEq, Int.reduceLT, Int.reduceLE, Int.reduceToNat]
    | some y =>
      dsimp only at e
      simp only [z0, z1, z2, z3, z4, z5, z6, z7, y0, y1, y2, y3, y4, y5, y6, y7, y8, go_sem, ↓reduceIte, Nat.reduceEqDiff, Nat.reduceBEq, Nat.reduceAdd, Nat.reduceLeDiff, Nat.reduceLT, reduceCtorEq, Nat.reduceMul, Nat.reduceSub, Int.reduceEq, Int.reduceLT, Int.reduceLE, Int.reduceToNat]
      refine gCall.f (fun h => sleaf_ok y _ _) ?_
      simp only [z0, z1, z2, z3, z4, z5, z6, z7, y0, y1, y2, y3, y4, y5, y6, y7, y8, go_sem, ↓reduceIte, Nat.reduceEqDiff, Nat.reduceBEq, Nat.reduceAdd, Nat.reduceLeDiff, Nat.reduceLT, reduceCtorEq, Nat.reduceMul, Nat.reduceSub, Int.reduceEq, Int.reduceLT, Int.reduceLE, Int.reduceToNat]
      refine cdK_of (fun d => ?_) (fun d => ?_)
      · have d : y.k = 9 ∨ ((j : Int) < f.ky ∧ lfB y = false) := by simpa using d
        rw [if_pos d] at e
        dsimp only at e
        subst e
        simp only [z0, z1, z2, z3, z4, z5, z6, z7, y0, y1, y2, y3, y4, y5, y6, y7, y8, go_sem, ↓reduceIte, Nat.reduceEqDiff, Nat.reduceBEq, Nat.reduceAdd, Nat.reduceLeDiff, Nat.reduceLT, reduceCtorEq, Nat.reduceMul, Nat.reduceSub, Int.reduceEq, Int.reduceLT, Int.reduceLE, Int.reduceToNat]
      · have d : ¬ (y.k = 9 ∨ ((j : Int) < f.ky ∧ lfB y = false)) := by
          intro q
          rcases q with q | ⟨q1, q2⟩
          · simp [q] at d
          · simp [q1, q2] at d
        rw [if_neg d] at e
        by_cases hx : x ∈ K
        · rw [if_pos (inB_iff.2 hx)] at e
          simp only [z0, z1, z2, z3, z4, z5, z6, z7, y0, y1, y2, y3, y4, y5, y6, y7, y8, se_t x K hx, go_sem, ↓reduceIte, Nat.reduceEqDiff, Nat.reduceBEq, Nat.reduceAdd, Nat.reduceLeDiff, Nat.reduceLT, reduceCtorEq, Nat.reduceMul, Nat.reduceSub, Int.reduceEq, Int.reduceLT, Int.reduceLE, Int.reduceToNat]
          refine ⟨(j + 1, K, I, _), ⟨c, by dsimp only; omega, hj3, by dsimp only; omega, hj5.trans (by rw [drop_at ex, repS, hG]; dsimp only; rw [if_neg d, if_pos (inB_iff.2 hx)])⟩, by dsimp only; omega, weak_ok ?_ (Sub.cons ?_ (Sub.cons ?_ (Sub.cons ?_ (Sub.cons ?_ (Sub.cons ?_ (Sub.cons ?_ (Sub.cons ?_ (Sub.base hf ?_)))))))) (Nat.le_refl _)⟩
          all_goals first | ((simp only [z0, z1, z2, z3, z4, z5, z6, z7, y0, y1, y2, y3, y4, y5, y6, y7, y8, wr64s j (by omega), go_sem, ↓reduceIte, Nat.reduceEqDiff, Nat.reduceBEq, Nat.reduceAdd, Nat.reduceLeDiff, Nat.reduceLT, reduceCtorEq, Nat.reduceMul, Nat.reduceSub, Int.reduceEq, Int.reduceLT, Int.reduceLE, Int.reduceToNat]); done) | trace_state
        · rw [if_neg (fun q => hx (inB_iff.1 q))] at e
          have hb := se_put x K hx
          have hcp := copy_ok (lfV y) (lfV_fit (getV_fit' hv hG))
          simp only [z0, z1, z2, z3, z4, z5, z6, z7, y0, y1, y2, y3, y4, y5, y6, y7, y8, se_f x K hx, go_sem, ↓reduceIte, Nat.reduceEqDiff, Nat.reduceBEq, Nat.reduceAdd, Nat.reduceLeDiff, Nat.reduceLT, reduceCtorEq, Nat.reduceMul, Nat.reduceSub, Int.reduceEq, Int.reduceLT, Int.reduceLE, Int.reduceToNat]
          refine vcCall.f (sleaf_ok y _ _) ?_
          simp only [z0, z1, z2, z3, z4, z5, z6, z7, y0, y1, y2, y3, y4, y5, y6, y7, y8, go_sem, ↓reduceIte, Nat.reduceEqDiff, Nat.reduceBEq, Nat.reduceAdd, Nat.reduceLeDiff, Nat.reduceLT, reduceCtorEq, Nat.reduceMul, Nat.reduceSub, Int.reduceEq, Int.reduceLT, Int.reduceLE, Int.reduceToNat]
          rw [hb]
          have hn : repS v f.ky j (f.ks.drop j) K I = repS v f.ky (j + 1) (f.ks.drop (j + 1)) (K ++ [x]) (I ++ [lfV y]) := by
            rw [drop_at ex, repS, hG]
            dsimp only
            rw [if_neg d, if_neg (fun q => hx (inB_iff.1 q))]
          have k1 : (K.length + 2) * 16 ≤ 140737488355328 := by omega
          have k2 : K.length ≤ 9223372036854775805 := by omega
          have k3 : (I.length + 2) * 80 ≤ 140737488355328 := by omega
          have k5 : ∀ z, (K ++ [x]).length = (I ++ [z]).length := fun z => by simp [hj3]
          have k6 : (K ++ [x]).length ≤ j + 1 := by simp; omega
          have k7 : f.ks.length - (j + 1) < f.ks.length - j := by omega
          have k8 : j < 9223372036854775807 := by omega
          have kz : mapC valC (I ++ [zVal]) = mapC valC I ++ [[.i .i64 0, .i .i64 0, .s ⟨#[]⟩, .ds [], .ds []]] := by simp [mapC]; rfl
          have k4 : I.length ≤ 9223372036854775805 := by omega
          cases hL : lfB y with
          | false =>
            have hlf : lfV y = zVal := by unfold lfV; rw [hL]; rfl
            rw [hlf] at hcp hn
            refine cdK_of (fun q => ?_) (fun q => by cases q)
            simp only [z0, z1, z2, z3, z4, z5, z6, z7, y0, y1, y2, y3, y4, y5, y6, y7, y8, go_sem, ↓reduceIte, Nat.reduceEqDiff, Nat.reduceBEq, Nat.reduceAdd, Nat.reduceLeDiff, Nat.reduceLT, reduceCtorEq, Nat.reduceMul, Nat.reduceSub, Int.reduceEq, Int.reduceLT, Int.reduceLE, Int.reduceToNat]
            refine ⟨k1, k2, ?_⟩
            refine dCallR.f (fun _ hp' hh => MeetsF.cv (args' := [vx zVal]) rfl (hcp hp' _)) ?_
            simp only [z0, z1, z2, z3, z4, z5, z6, z7, y0, y1, y2, y3, y4, y5, y6, y7, y8, go_sem, ↓reduceIte, Nat.reduceEqDiff, Nat.reduceBEq, Nat.reduceAdd, Nat.reduceLeDiff, Nat.reduceLT, reduceCtorEq, Nat.reduceMul, Nat.reduceSub, Int.reduceEq, Int.reduceLT, Int.reduceLE, Int.reduceToNat]
            refine ⟨⟨k3, k4⟩, ?_⟩
            refine ⟨(j + 1, K ++ [x], I ++ [zVal], _), ⟨c, ?_, k5 _, k6, hj5.trans hn⟩, k7, weak_ok ?_ (Sub.cons ?_ (Sub.cons ?_ (Sub.cons ?_ (Sub.cons ?_ (Sub.cons ?_ (Sub.cons ?_ (Sub.cons ?_ (Sub.base hf ?_)))))))) (Nat.le_refl _)⟩
            all_goals first | ((simp only [z0, z1, z2, z3, z4, z5, z6, z7, y0, y1, y2, y3, y4, y5, y6, y7, y8, wr64s j k8, List.length_append, List.length_singleton, and_self, go_sem, ↓reduceIte, Nat.reduceEqDiff, Nat.reduceBEq, Nat.reduceAdd, Nat.reduceLeDiff, Nat.reduceLT, reduceCtorEq, Nat.reduceMul, Nat.reduceSub, Int.reduceEq, Int.reduceLT, Int.reduceLE, Int.reduceToNat]); done) | (dsimp only; omega) | ((simp only [z0, z1, z2, z3, z4, z5, z6, z7, y0, y1, y2, y3, y4, y5, y6, y7, y8, wr64s j k8, List.length_append, List.length_singleton, and_self, go_sem, ↓reduceIte, Nat.reduceEqDiff, Nat.reduceBEq, Nat.reduceAdd, Nat.reduceLeDiff, Nat.reduceLT, reduceCtorEq, Nat.reduceMul, Nat.reduceSub, Int.reduceEq, Int.reduceLT, Int.reduceLE, Int.reduceToNat]); exact congrArg (fun l => Chunk.rw (I.length + 1) 5 ([.i .i64 3, .i .i64 0, .s f.t, .ds [], .ds []] :: l)) kz.symm) | ((simp only [z0, z1, z2, z3, z4, z5, z6, z7, y0, y1, y2, y3, y4, y5, y6, y7, y8, wr64s j k8, List.length_append, List.length_singleton, and_self, go_sem, ↓reduceIte, Nat.reduceEqDiff, Nat.reduceBEq, Nat.reduceAdd, Nat.reduceLeDiff, Nat.reduceLT, reduceCtorEq, Nat.reduceMul, Nat.reduceSub, Int.reduceEq, Int.reduceLT, Int.reduceLE, Int.reduceToNat]); trace_state)
          | true =>
            have hlf : lfV y = y := by unfold lfV; rw [hL]; rfl
            rw [hlf] at hcp hn
            refine cdK_of (fun q => by cases q) (fun q => ?_)
            simp only [z0, z1, z2, z3, z4, z5, z6, z7, y0, y1, y2, y3, y4, y5, y6, y7, y8, go_sem, ↓reduceIte, Nat.reduceEqDiff, Nat.reduceBEq, Nat.reduceAdd, Nat.reduceLeDiff, Nat.reduceLT, reduceCtorEq, Nat.reduceMul, Nat.reduceSub, Int.reduceEq, Int.reduceLT, Int.reduceLE, Int.reduceToNat]
            refine ⟨k1, k2, ?_⟩
            refine dCallR.f (fun _ hp' hh => hcp hp' _) ?_
            simp only [z0, z1, z2, z3, z4, z5, z6, z7, y0, y1, y2, y3, y4, y5, y6, y7, y8, go_sem, ↓reduceIte, Nat.reduceEqDiff, Nat.reduceBEq, Nat.reduceAdd, Nat.reduceLeDiff, Nat.reduceLT, reduceCtorEq, Nat.reduceMul, Nat.reduceSub, Int.reduceEq, Int.reduceLT, Int.reduceLE, Int.reduceToNat]
            refine ⟨⟨k3, k4⟩, ?_⟩
            refine ⟨(j + 1, K ++ [x], I ++ [y], _), ⟨c, ?_, k5 _, k6, hj5.trans hn⟩, k7, weak_ok ?_ (Sub.cons ?_ (Sub.cons ?_ (Sub.cons ?_ (Sub.cons ?_ (Sub.cons ?_ (Sub.cons ?_ (Sub.cons ?_ (Sub.base hf ?_)))))))) (Nat.le_refl _)⟩
            all_goals first | ((simp only [z0, z1, z2, z3, z4, z5, z6, z7, y0, y1, y2, y3, y4, y5, y6, y7, y8, wr64s j k8, List.length_append, List.length_singleton, and_self, go_sem, ↓reduceIte, Nat.reduceEqDiff, Nat.reduceBEq, Nat.reduceAdd, Nat.reduceLeDiff, Nat.reduceLT, reduceCtorEq, Nat.reduceMul, Nat.reduceSub, Int.reduceEq, Int.reduceLT, Int.reduceLE, Int.reduceToNat]); done) | (dsimp only; omega) | ((simp only [z0, z1, z2, z3, z4, z5, z6, z7, y0, y1, y2, y3, y4, y5, y6, y7, y8, wr64s j k8, List.length_append, List.length_singleton, and_self, go_sem, ↓reduceIte, Nat.reduceEqDiff, Nat.reduceBEq, Nat.reduceAdd, Nat.reduceLeDiff, Nat.reduceLT, reduceCtorEq, Nat.reduceMul, Nat.reduceSub, Int.reduceEq, Int.reduceLT, Int.reduceLE, Int.reduceToNat]); exact congrArg (fun l => Chunk.rw (I.length + 1) 5 ([.i .i64 3, .i .i64 0, .s f.t, .ds [], .ds []] :: l)) kz.symm) | ((simp only [z0, z1, z2, z3, z4, z5, z6, z7, y0, y1, y2, y3, y4, y5, y6, y7, y8, wr64s j k8, List.length_append, List.length_singleton, and_self, go_sem, ↓reduceIte, Nat.reduceEqDiff, Nat.reduceBEq, Nat.reduceAdd, Nat.reduceLeDiff, Nat.reduceLT, reduceCtorEq, Nat.reduceMul, Nat.reduceSub, Int.reduceEq, Int.reduceLT, Int.reduceLE, Int.reduceToNat]); trace_state)
  · have c : j = f.ks.length := by simp at c; omega
    subst c
    rw [List.drop_length, repS] at e
    dsimp only at e
    subst e
    simp only [z0, z1, z2, z3, z4, z5, z6, z7, y0, y1, y2, y3, y4, y5, y6, y7, y8, go_sem, ↓reduceIte, Nat.reduceEqDiff, Nat.reduceBEq, Nat.reduceAdd, Nat.reduceLeDiff, Nat.reduceLT, reduceCtorEq, Nat.reduceMul, Nat.reduceSub, Int.reduceEq, Int.reduceLT, Int.reduceLE, Int.reduceToNat]
end Go.Proofs.Ytmcgjccheehehaa
