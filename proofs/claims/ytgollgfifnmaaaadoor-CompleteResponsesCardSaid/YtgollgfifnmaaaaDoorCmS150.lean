/-
  The parts CmP of the proof, in one file. Conditions: none.
-/
import Derived.Test.YtgollgfifnmaaaaDoorCmS149
namespace Go.Proofs.YtgollgfifnmaaaaDoor
open Go.Eng
set_option linter.unusedVariables false
set_option linter.unusedSimpArgs false
set_option maxRecDepth 20000
set_option maxHeartbeats 1000000
inductive Dir where
  | mk (n : ByteArray) (args : List Arg)
def Dir.n : Dir → ByteArray | .mk n _ => n
theorem Dir.n_mk (n : ByteArray) (args : List Arg) : (Dir.mk n args).n = n := rfl
def Dir.args : Dir → List Arg | .mk _ args => args
theorem Dir.args_mk (n : ByteArray) (args : List Arg) : (Dir.mk n args).args = args := rfl
theorem Dir.ext {x y : Dir} (h0 : x.n = y.n) (h1 : x.args = y.args) : x = y := by cases x; cases y; simp only [Dir.n_mk, Dir.args_mk] at *; simp [*]
def dirC (x : Dir) : List AV := [.s x.n, .ds (mapC argC x.args)]
attribute [go_sem] dirC Dir.n_mk Dir.args_mk
attribute [grind =] Dir.n_mk Dir.args_mk
attribute [ext] Dir.ext
attribute [grind ext] Dir.ext
inductive Inp where
  | mk (n : ByteArray) (tn : ByteArray) (tw : List Int) (has : Bool) (d : Val) (dirs : List Dir)
def Inp.n : Inp → ByteArray | .mk n _ _ _ _ _ => n
theorem Inp.n_mk (n : ByteArray) (tn : ByteArray) (tw : List Int) (has : Bool) (d : Val) (dirs : List Dir) : (Inp.mk n tn tw has d dirs).n = n := rfl
def Inp.tn : Inp → ByteArray | .mk _ tn _ _ _ _ => tn
theorem Inp.tn_mk (n : ByteArray) (tn : ByteArray) (tw : List Int) (has : Bool) (d : Val) (dirs : List Dir) : (Inp.mk n tn tw has d dirs).tn = tn := rfl
def Inp.tw : Inp → List Int | .mk _ _ tw _ _ _ => tw
theorem Inp.tw_mk (n : ByteArray) (tn : ByteArray) (tw : List Int) (has : Bool) (d : Val) (dirs : List Dir) : (Inp.mk n tn tw has d dirs).tw = tw := rfl
def Inp.has : Inp → Bool | .mk _ _ _ has _ _ => has
theorem Inp.has_mk (n : ByteArray) (tn : ByteArray) (tw : List Int) (has : Bool) (d : Val) (dirs : List Dir) : (Inp.mk n tn tw has d dirs).has = has := rfl
def Inp.d : Inp → Val | .mk _ _ _ _ d _ => d
theorem Inp.d_mk (n : ByteArray) (tn : ByteArray) (tw : List Int) (has : Bool) (d : Val) (dirs : List Dir) : (Inp.mk n tn tw has d dirs).d = d := rfl
def Inp.dirs : Inp → List Dir | .mk _ _ _ _ _ dirs => dirs
theorem Inp.dirs_mk (n : ByteArray) (tn : ByteArray) (tw : List Int) (has : Bool) (d : Val) (dirs : List Dir) : (Inp.mk n tn tw has d dirs).dirs = dirs := rfl
theorem Inp.ext {x y : Inp} (h0 : x.n = y.n) (h1 : x.tn = y.tn) (h2 : x.tw = y.tw) (h3 : x.has = y.has) (h4 : x.d = y.d) (h5 : x.dirs = y.dirs) : x = y := by cases x; cases y; simp only [Inp.n_mk, Inp.tn_mk, Inp.tw_mk, Inp.has_mk, Inp.d_mk, Inp.dirs_mk] at *; simp [*]
attribute [go_sem] Inp.n_mk Inp.tn_mk Inp.tw_mk Inp.has_mk Inp.d_mk Inp.dirs_mk
attribute [grind =] Inp.n_mk Inp.tn_mk Inp.tw_mk Inp.has_mk Inp.d_mk Inp.dirs_mk
attribute [ext] Inp.ext
attribute [grind ext] Inp.ext
def inpC (x : Inp) : List AV := [.s x.n, .s x.tn, .ds (mapC in1 x.tw), .b x.has, .i .i64 x.d.k, .i .i64 x.d.n, .s x.d.s, .ds (mapC valC x.d.items), .ds (stC x.d.keys), .ds (mapC dirC x.dirs)]
attribute [go_sem] inpC
def DirOk (d : Dir) : Prop := d.args.length ≤ 18000000000000 ∧ ∀ a ∈ d.args, a.v.Fit
def DirsOk (l : List (List AV)) : Prop := ∃ ds : List Dir, l = mapC dirC ds ∧ ds.length ≤ 18000000000000 ∧ ∀ d ∈ ds, DirOk d
def InpOk (x : Inp) : Prop := x.tw.length ≤ 18000000000000 ∧ x.d.Fit ∧ x.dirs.length ≤ 18000000000000 ∧ ∀ d ∈ x.dirs, DirOk d
def InpsOk (l : List (List AV)) : Prop := ∃ is : List Inp, l = mapC inpC is ∧ is.length ≤ 18000000000000 ∧ ∀ x ∈ is, InpOk x
structure DfnW (t : Dfn) : Prop where
  dirs : DirsOk t.dirs
  inputs : InpsOk t.inputs
  fl : t.fields.length ≤ 18000000000000
  fields : ∀ f ∈ t.fields, InpsOk f.args ∧ DirsOk f.dirs ∧ f.tw.length ≤ 18000000000000
  members : ∀ e ∈ t.members, ∃ x y, e = [.s x, .ds y] ∧ DirsOk y
def waD (lim : Int) : List Arg → Int → Int
  | [], a => a
  | x :: r, a => if a ≤ lim then waD lim r (IntKind.i64.wrap (IntKind.i64.wrap (a + 1) + wgV lim x.v)) else a
def wdD (lim : Int) : List Dir → Int → Int
  | [], a => a
  | d :: r, a => if a ≤ lim then wdD lim r (waD lim d.args (IntKind.i64.wrap (a + 1))) else a
def wiD (lim : Int) : List Inp → Int → Int
  | [], a => a
  | x :: r, a => if a ≤ lim then wiD lim r (IntKind.i64.wrap (IntKind.i64.wrap (IntKind.i64.wrap (IntKind.i64.wrap (a + 1) + x.tw.length) + wgV lim x.d) + wdD lim x.dirs 0)) else a
theorem waD_at {lim : Int} {l : List Arg} {j : Nat} {a : Int} (h : l.length ≤ j ∨ ¬ a ≤ lim) : waD lim (l.drop j) a = a := by
  cases e : l.drop j with
  | nil => rw [waD]
  | cons k r =>
    rw [waD, if_neg]
    rcases h with h | h
    · rw [List.drop_eq_nil_of_le h] at e; cases e
    · exact h
theorem wdD_at {lim : Int} {l : List Dir} {j : Nat} {a : Int} (h : l.length ≤ j ∨ ¬ a ≤ lim) : wdD lim (l.drop j) a = a := by
  cases e : l.drop j with
  | nil => rw [wdD]
  | cons k r =>
    rw [wdD, if_neg]
    rcases h with h | h
    · rw [List.drop_eq_nil_of_le h] at e; cases e
    · exact h
theorem wiD_at {lim : Int} {l : List Inp} {j : Nat} {a : Int} (h : l.length ≤ j ∨ ¬ a ≤ lim) : wiD lim (l.drop j) a = a := by
  cases e : l.drop j with
  | nil => rw [wiD]
  | cons k r =>
    rw [wiD, if_neg]
    rcases h with h | h
    · rw [List.drop_eq_nil_of_le h] at e; cases e
    · exact h
theorem wDirs_ok (lim : Int) (l : List Dir) (hl : l.length ≤ 18000000000000) (hd : ∀ d ∈ l, DirOk d) (hp : CH) (m : Nat) : MeetsF Tryd.prog 34 hp m [.ds (mapC dirC l), .i .i64 lim] (.i .i64 (wdD lim l 0)) := by
  obtain ⟨R, hR⟩ : ∃ R, wdD lim l 0 = R := ⟨_, rfl⟩
  rw [hR]
  refine meetsF Tryd.func34 (by kernel_rfl) cc34 cr34 rfl fun hf => ?_; unfold ck34
  simp only [go_sem, ↓reduceIte, Nat.reduceEqDiff, Nat.reduceBEq, Nat.reduceAdd, Nat.reduceLeDiff, Nat.reduceLT, reduceCtorEq, Nat.reduceMul, Nat.reduceSub, Int.reduceEq, Int.reduceLT, Int.reduceLE, Int.reduceToNat]
  refine loop (fun q : (Nat × Int) × Nat => ⟨[(0, .ds (mapC dirC l)), (1, .i .i64 lim), (5, .i .i64 q.1.2), (6, .i .i64 q.1.1)], hp, q.2⟩) (fun q => q.1.1 ≤ l.length ∧ m ≤ q.2 ∧ wdD lim (l.drop q.1.1) q.1.2 = R) (fun q => l.length - q.1.1) ((0, 0), m) ?_ ?_ (fun ⟨⟨j, a⟩, k⟩ hj => ?_)
  · exact ⟨Nat.zero_le _, Nat.le_refl _, hR⟩
  · refine weak_ok ?_ (Sub.refl _) (Nat.le_refl _)
    simp only [go_sem, ↓reduceIte, Nat.reduceEqDiff, Nat.reduceBEq, Nat.reduceAdd, Nat.reduceLeDiff, Nat.reduceLT, reduceCtorEq, Nat.reduceMul, Nat.reduceSub, Int.reduceEq, Int.reduceLT, Int.reduceLE, Int.reduceToNat]
  dsimp only at hj
  obtain ⟨hj1, hj2, hj3⟩ := hj
  simp (disch := omega) only [ite_ne, go_sem, ↓reduceIte, Nat.reduceEqDiff, Nat.reduceBEq, Nat.reduceAdd, Nat.reduceLeDiff, Nat.reduceLT, reduceCtorEq, Nat.reduceMul, Nat.reduceSub, Int.reduceEq, Int.reduceLT, Int.reduceLE, Int.reduceToNat]
  refine cdK_of (fun d => ?_) (fun d => ?_)
  · simp only [Bool.and_eq_true, decide_eq_true_eq] at d
    have d1 : j < l.length := by omega
    obtain ⟨x, ex⟩ : ∃ x, l[j]? = some x := ⟨l[j], by simp⟩
    have hx := hd x (List.mem_of_getElem? ex)
    rw [drop_at ex, wdD, if_pos d.2] at hj3
    obtain ⟨A, hA⟩ : ∃ A, waD lim x.args (IntKind.i64.wrap (a + 1)) = A := ⟨_, rfl⟩
    rw [hA] at hj3
    have hxl := hx.1
    simp (disch := omega) only [ite_ne, d1, getK_s (mapC_get dirC ex), go_sem, ↓reduceIte, Nat.reduceEqDiff, Nat.reduceBEq, Nat.reduceAdd, Nat.reduceLeDiff, Nat.reduceLT, reduceCtorEq, Nat.reduceMul, Nat.reduceSub, Int.reduceEq, Int.reduceLT, Int.reduceLE, Int.reduceToNat]
    refine loop (fun q : (Nat × Int) × Nat => ⟨[(0, .ds (mapC dirC l)), (1, .i .i64 lim), (5, .i .i64 q.1.2), (6, .i .i64 j), (7, .i .i64 q.1.1)], hp, q.2⟩) (fun q => q.1.1 ≤ x.args.length ∧ m ≤ q.2 ∧ waD lim (x.args.drop q.1.1) q.1.2 = A) (fun q => x.args.length - q.1.1) ((0, IntKind.i64.wrap (a + 1)), k) ?_ ?_ (fun ⟨⟨i, b⟩, k2⟩ hi => ?_)
    · exact ⟨Nat.zero_le _, hj2, hA⟩
    · refine weak_ok ?_ (Sub.refl _) (Nat.le_refl _)
      simp only [go_sem, ↓reduceIte, Nat.reduceEqDiff, Nat.reduceBEq, Nat.reduceAdd, Nat.reduceLeDiff, Nat.reduceLT, reduceCtorEq, Nat.reduceMul, Nat.reduceSub, Int.reduceEq, Int.reduceLT, Int.reduceLE, Int.reduceToNat]
    dsimp only at hi
    obtain ⟨hi1, hi2, hi3⟩ := hi
    simp (disch := omega) only [ite_ne, d1, getK_s (mapC_get dirC ex), go_sem, ↓reduceIte, Nat.reduceEqDiff, Nat.reduceBEq, Nat.reduceAdd, Nat.reduceLeDiff, Nat.reduceLT, reduceCtorEq, Nat.reduceMul, Nat.reduceSub, Int.reduceEq, Int.reduceLT, Int.reduceLE, Int.reduceToNat]
    refine cdK_of (fun d2 => ?_) (fun d2 => ?_)
    · simp only [Bool.and_eq_true, decide_eq_true_eq] at d2
      have d3 : i < x.args.length := by omega
      obtain ⟨y, ey⟩ : ∃ y, x.args[i]? = some y := ⟨x.args[i], by simp⟩
      have hy := hx.2 y (List.mem_of_getElem? ey)
      rw [drop_at ey, waD, if_pos d2.2] at hi3
      simp (disch := omega) only [ite_ne, d1, d3, getK_s (mapC_get dirC ex), getK_s (mapC_get argC ey), go_sem, ↓reduceIte, Nat.reduceEqDiff, Nat.reduceBEq, Nat.reduceAdd, Nat.reduceLeDiff, Nat.reduceLT, reduceCtorEq, Nat.reduceMul, Nat.reduceSub, Int.reduceEq, Int.reduceLT, Int.reduceLE, Int.reduceToNat]
      refine vcCall.f (weight_ok lim y.v hy _ _) ?_
      simp (disch := omega) only [ite_ne, go_sem, ↓reduceIte, Nat.reduceEqDiff, Nat.reduceBEq, Nat.reduceAdd, Nat.reduceLeDiff, Nat.reduceLT, reduceCtorEq, Nat.reduceMul, Nat.reduceSub, Int.reduceEq, Int.reduceLT, Int.reduceLE, Int.reduceToNat]
      refine ⟨((i + 1, IntKind.i64.wrap (IntKind.i64.wrap (b + 1) + wgV lim y.v)), _), ⟨by dsimp only; omega, by dsimp only; omega, hi3⟩, by dsimp only; omega, weak_ok ?_ (Sub.refl _) (Nat.le_refl _)⟩
      simp (disch := omega) only [ite_ne, wr64s i (by omega), go_sem, ↓reduceIte, Nat.reduceEqDiff, Nat.reduceBEq, Nat.reduceAdd, Nat.reduceLeDiff, Nat.reduceLT, reduceCtorEq, Nat.reduceMul, Nat.reduceSub, Int.reduceEq, Int.reduceLT, Int.reduceLE, Int.reduceToNat]
    · have hab : b = A := by
        rw [← hi3, waD_at]
        simp only [Bool.and_eq_false_iff, decide_eq_false_iff_not] at d2
        omega
      subst hab
      simp (disch := omega) only [ite_ne, go_sem, ↓reduceIte, Nat.reduceEqDiff, Nat.reduceBEq, Nat.reduceAdd, Nat.reduceLeDiff, Nat.reduceLT, reduceCtorEq, Nat.reduceMul, Nat.reduceSub, Int.reduceEq, Int.reduceLT, Int.reduceLE, Int.reduceToNat]
      refine ⟨((j + 1, _), _), ⟨by dsimp only; omega, by dsimp only; omega, hj3⟩, by dsimp only; omega, weak_ok ?_ (Sub.refl _) (Nat.le_refl _)⟩
      simp (disch := omega) only [ite_ne, wr64s j (by omega), go_sem, ↓reduceIte, Nat.reduceEqDiff, Nat.reduceBEq, Nat.reduceAdd, Nat.reduceLeDiff, Nat.reduceLT, reduceCtorEq, Nat.reduceMul, Nat.reduceSub, Int.reduceEq, Int.reduceLT, Int.reduceLE, Int.reduceToNat]
  · have hab : a = R := by
      rw [← hj3, wdD_at]
      simp only [Bool.and_eq_false_iff, decide_eq_false_iff_not] at d
      omega
    subst hab
    simp (disch := omega) only [ite_ne, go_sem, ↓reduceIte, Nat.reduceEqDiff, Nat.reduceBEq, Nat.reduceAdd, Nat.reduceLeDiff, Nat.reduceLT, reduceCtorEq, Nat.reduceMul, Nat.reduceSub, Int.reduceEq, Int.reduceLT, Int.reduceLE, Int.reduceToNat]
theorem wInps_ok (lim : Int) (l : List Inp) (hl : l.length ≤ 18000000000000) (hd : ∀ d ∈ l, InpOk d) (hp : CH) (m : Nat) : MeetsF Tryd.prog 35 hp m [.ds (mapC inpC l), .i .i64 lim] (.i .i64 (wiD lim l 0)) := by
  obtain ⟨R, hR⟩ : ∃ R, wiD lim l 0 = R := ⟨_, rfl⟩
  rw [hR]
  refine meetsF Tryd.func35 (by kernel_rfl) cc35 cr35 rfl fun hf => ?_; unfold ck35
  simp only [go_sem, ↓reduceIte, Nat.reduceEqDiff, Nat.reduceBEq, Nat.reduceAdd, Nat.reduceLeDiff, Nat.reduceLT, reduceCtorEq, Nat.reduceMul, Nat.reduceSub, Int.reduceEq, Int.reduceLT, Int.reduceLE, Int.reduceToNat]
  refine loop (fun q : (Nat × Int) × Nat => ⟨[(0, .ds (mapC inpC l)), (1, .i .i64 lim), (5, .i .i64 q.1.2), (6, .i .i64 q.1.1)], hp, q.2⟩) (fun q => q.1.1 ≤ l.length ∧ m ≤ q.2 ∧ wiD lim (l.drop q.1.1) q.1.2 = R) (fun q => l.length - q.1.1) ((0, 0), m) ?_ ?_ (fun ⟨⟨j, a⟩, k⟩ hj => ?_)
  · exact ⟨Nat.zero_le _, Nat.le_refl _, hR⟩
  · refine weak_ok ?_ (Sub.refl _) (Nat.le_refl _)
    simp only [go_sem, ↓reduceIte, Nat.reduceEqDiff, Nat.reduceBEq, Nat.reduceAdd, Nat.reduceLeDiff, Nat.reduceLT, reduceCtorEq, Nat.reduceMul, Nat.reduceSub, Int.reduceEq, Int.reduceLT, Int.reduceLE, Int.reduceToNat]
  dsimp only at hj
  obtain ⟨hj1, hj2, hj3⟩ := hj
  simp (disch := omega) only [ite_ne, go_sem, ↓reduceIte, Nat.reduceEqDiff, Nat.reduceBEq, Nat.reduceAdd, Nat.reduceLeDiff, Nat.reduceLT, reduceCtorEq, Nat.reduceMul, Nat.reduceSub, Int.reduceEq, Int.reduceLT, Int.reduceLE, Int.reduceToNat]
  refine cdK_of (fun d => ?_) (fun d => ?_)
  · simp only [Bool.and_eq_true, decide_eq_true_eq] at d
    have d1 : j < l.length := by omega
    obtain ⟨x, ex⟩ : ∃ x, l[j]? = some x := ⟨l[j], by simp⟩
    have hx := hd x (List.mem_of_getElem? ex)
    obtain ⟨x1, x2, x3, x4⟩ := hx
    rw [drop_at ex, wiD, if_pos d.2] at hj3
    simp (disch := omega) only [ite_ne, d1, getK_s (mapC_get inpC ex), go_sem, ↓reduceIte, Nat.reduceEqDiff, Nat.reduceBEq, Nat.reduceAdd, Nat.reduceLeDiff, Nat.reduceLT, reduceCtorEq, Nat.reduceMul, Nat.reduceSub, Int.reduceEq, Int.reduceLT, Int.reduceLE, Int.reduceToNat]
    refine dCallR.f (fun _ hp' e => weight_ok lim x.d x2 _ _) ?_
    simp (disch := omega) only [ite_ne, d1, getK_s (mapC_get inpC ex), go_sem, ↓reduceIte, Nat.reduceEqDiff, Nat.reduceBEq, Nat.reduceAdd, Nat.reduceLeDiff, Nat.reduceLT, reduceCtorEq, Nat.reduceMul, Nat.reduceSub, Int.reduceEq, Int.reduceLT, Int.reduceLE, Int.reduceToNat]
    refine dCallR.f (fun _ hp' e => wDirs_ok lim x.dirs x3 x4 _ _) ?_
    simp (disch := omega) only [ite_ne, go_sem, ↓reduceIte, Nat.reduceEqDiff, Nat.reduceBEq, Nat.reduceAdd, Nat.reduceLeDiff, Nat.reduceLT, reduceCtorEq, Nat.reduceMul, Nat.reduceSub, Int.reduceEq, Int.reduceLT, Int.reduceLE, Int.reduceToNat]
    refine ⟨((j + 1, IntKind.i64.wrap (IntKind.i64.wrap (IntKind.i64.wrap (IntKind.i64.wrap (a + 1) + x.tw.length) + wgV lim x.d) + wdD lim x.dirs 0)), _), ⟨by dsimp only; omega, by dsimp only; omega, hj3⟩, by dsimp only; omega, weak_ok ?_ (Sub.refl _) (Nat.le_refl _)⟩
    simp (disch := omega) only [ite_ne, wr64s j (by omega), go_sem, ↓reduceIte, Nat.reduceEqDiff, Nat.reduceBEq, Nat.reduceAdd, Nat.reduceLeDiff, Nat.reduceLT, reduceCtorEq, Nat.reduceMul, Nat.reduceSub, Int.reduceEq, Int.reduceLT, Int.reduceLE, Int.reduceToNat]
  · have hab : a = R := by
      rw [← hj3, wiD_at]
      simp only [Bool.and_eq_false_iff, decide_eq_false_iff_not] at d
      omega
    subst hab
    simp (disch := omega) only [ite_ne, go_sem, ↓reduceIte, Nat.reduceEqDiff, Nat.reduceBEq, Nat.reduceAdd, Nat.reduceLeDiff, Nat.reduceLT, reduceCtorEq, Nat.reduceMul, Nat.reduceSub, Int.reduceEq, Int.reduceLT, Int.reduceLE, Int.reduceToNat]
open Classical in
/-- The measure of raw directives. -/
noncomputable def wdR (lim : Int) (l : List (List AV)) : Int := if h : DirsOk l then wdD lim (Classical.choose h) 0 else 0
open Classical in
noncomputable def wiR (lim : Int) (l : List (List AV)) : Int := if h : InpsOk l then wiD lim (Classical.choose h) 0 else 0
theorem wDirsR_ok (lim : Int) (l : List (List AV)) (h : DirsOk l) (hp : CH) (m : Nat) : MeetsF Tryd.prog 34 hp m [.ds l, .i .i64 lim] (.i .i64 (wdR lim l)) := by
  obtain ⟨h1, h2, h3⟩ := Classical.choose_spec h
  have e : wdR lim l = wdD lim (Classical.choose h) 0 := by unfold wdR; rw [dif_pos h]
  have := wDirs_ok lim (Classical.choose h) h2 h3 hp m
  rw [← h1, ← e] at this
  exact this
theorem wInpsR_ok (lim : Int) (l : List (List AV)) (h : InpsOk l) (hp : CH) (m : Nat) : MeetsF Tryd.prog 35 hp m [.ds l, .i .i64 lim] (.i .i64 (wiR lim l)) := by
  obtain ⟨h1, h2, h3⟩ := Classical.choose_spec h
  have e : wiR lim l = wiD lim (Classical.choose h) 0 := by unfold wiR; rw [dif_pos h]
  have := wInps_ok lim (Classical.choose h) h2 h3 hp m
  rw [← h1, ← e] at this
  exact this
noncomputable def wfD (lim : Int) : List Fld → Int → Int
  | [], a => a
  | f :: r, a => if a ≤ lim then wfD lim r (IntKind.i64.wrap (IntKind.i64.wrap (IntKind.i64.wrap (IntKind.i64.wrap (a + 1) + f.tw.length) + wiR lim f.args) + wdR lim f.dirs)) else a
def memD (e : List AV) : List (List AV) := match e with
  | [.s _, .ds y] => y
  | _ => []
noncomputable def wmD (lim : Int) : List (List AV) → Int → Int
  | [], a => a
  | e :: r, a => if a ≤ lim then wmD lim r (IntKind.i64.wrap (IntKind.i64.wrap (a + 1) + wdR lim (memD e))) else a
noncomputable def wtD (lim : Int) : List Dfn → Int → Int
  | [], a => a
  | t :: r, a => if a ≤ lim then wtD lim r (wmD lim t.members (wfD lim t.fields (IntKind.i64.wrap (IntKind.i64.wrap (IntKind.i64.wrap (a + t.impl.length) + wdR lim t.dirs) + wiR lim t.inputs)))) else a
theorem wfD_at {lim : Int} {l : List Fld} {j : Nat} {a : Int} (h : l.length ≤ j ∨ ¬ a ≤ lim) : wfD lim (l.drop j) a = a := by
  cases e : l.drop j with
  | nil => rw [wfD]
  | cons k r =>
    rw [wfD, if_neg]
    rcases h with h | h
    · rw [List.drop_eq_nil_of_le h] at e; cases e
    · exact h
theorem wmD_at {lim : Int} {l : List (List AV)} {j : Nat} {a : Int} (h : l.length ≤ j ∨ ¬ a ≤ lim) : wmD lim (l.drop j) a = a := by
  cases e : l.drop j with
  | nil => rw [wmD]
  | cons k r =>
    rw [wmD, if_neg]
    rcases h with h | h
    · rw [List.drop_eq_nil_of_le h] at e; cases e
    · exact h
theorem wtD_at {lim : Int} {l : List Dfn} {j : Nat} {a : Int} (h : l.length ≤ j ∨ ¬ a ≤ lim) : wtD lim (l.drop j) a = a := by
  cases e : l.drop j with
  | nil => rw [wtD]
  | cons k r =>
    rw [wtD, if_neg]
    rcases h with h | h
    · rw [List.drop_eq_nil_of_le h] at e; cases e
    · exact h
theorem dWeight_ok (lim : Int) (l : List Dfn) (hd : DocOk l) (hw : ∀ t ∈ l, DfnW t) (hp : CH) (m : Nat) : MeetsF Tryd.prog 15 hp m [docx l, .i .i64 lim] (.i .i64 (wtD lim l l.length)) := by
  have hlen := hd.len
  obtain ⟨R, hR⟩ : ∃ R, wtD lim l l.length = R := ⟨_, rfl⟩
  rw [hR]
  refine meetsF Tryd.func15 (by kernel_rfl) cc15 cr15 rfl fun hf => ?_; unfold ck15
  simp only [go_sem, ↓reduceIte, Nat.reduceEqDiff, Nat.reduceBEq, Nat.reduceAdd, Nat.reduceLeDiff, Nat.reduceLT, reduceCtorEq, Nat.reduceMul, Nat.reduceSub, Int.reduceEq, Int.reduceLT, Int.reduceLE, Int.reduceToNat]
  refine loop (fun q : (Nat × Int) × Nat => ⟨[(1, .i .i64 lim), (2, .bx m 0), (5, .i .i64 q.1.2), (6, .i .i64 q.1.1)], (m, .bx [.ds (mapC dfC l)]) :: hp, q.2⟩) (fun q => q.1.1 ≤ l.length ∧ m + 1 ≤ q.2 ∧ wtD lim (l.drop q.1.1) q.1.2 = R) (fun q => l.length - q.1.1) ((0, (l.length : Int)), m + 1) ?_ ?_ (fun ⟨⟨j, a⟩, k⟩ hj => ?_)
  · exact ⟨Nat.zero_le _, Nat.le_refl _, hR⟩
  · refine weak_ok ?_ (Sub.cons ?_ (Sub.base hf ?_)) (Nat.le_refl _)
    all_goals (simp (disch := omega) only [ite_ne, go_sem, ↓reduceIte, Nat.reduceEqDiff, Nat.reduceBEq, Nat.reduceAdd, Nat.reduceLeDiff, Nat.reduceLT, reduceCtorEq, Nat.reduceMul, Nat.reduceSub, Int.reduceEq, Int.reduceLT, Int.reduceLE, Int.reduceToNat])
  dsimp only at hj
  obtain ⟨hj1, hj2, hj3⟩ := hj
  simp (disch := omega) only [ite_ne, go_sem, ↓reduceIte, Nat.reduceEqDiff, Nat.reduceBEq, Nat.reduceAdd, Nat.reduceLeDiff, Nat.reduceLT, reduceCtorEq, Nat.reduceMul, Nat.reduceSub, Int.reduceEq, Int.reduceLT, Int.reduceLE, Int.reduceToNat]
  refine cdK_of (fun d => ?_) (fun d => ?_)
  · simp only [Bool.and_eq_true, decide_eq_true_eq] at d
    have d1 : j < l.length := by omega
    obtain ⟨x, ex⟩ : ∃ x, l[j]? = some x := ⟨l[j], by simp⟩
    have hxm := List.mem_of_getElem? ex
    have hx := hw x hxm
    have xml := hd.me x hxm
    have xfl := hx.fl
    rw [drop_at ex, wtD, if_pos d.2] at hj3
    obtain ⟨A, hA⟩ : ∃ A, IntKind.i64.wrap (IntKind.i64.wrap (IntKind.i64.wrap (a + x.impl.length) + wdR lim x.dirs) + wiR lim x.inputs) = A := ⟨_, rfl⟩
    obtain ⟨B, hB⟩ : ∃ B, wfD lim x.fields A = B := ⟨_, rfl⟩
    obtain ⟨D, hD⟩ : ∃ D, wmD lim x.members B = D := ⟨_, rfl⟩
    rw [hA, hB, hD] at hj3
    have hml : ∀ e ∈ x.members, e.length = 2 := fun e he => by obtain ⟨u, y, rfl, _⟩ := hx.members e he; rfl
    have hml := eq_true hml
    simp (disch := omega) only [ite_ne, d1, getK_s (mapC_get dfC ex), go_sem, ↓reduceIte, Nat.reduceEqDiff, Nat.reduceBEq, Nat.reduceAdd, Nat.reduceLeDiff, Nat.reduceLT, reduceCtorEq, Nat.reduceMul, Nat.reduceSub, Int.reduceEq, Int.reduceLT, Int.reduceLE, Int.reduceToNat]
    refine dCallR.f (fun _ hp' e => wDirsR_ok lim x.dirs hx.dirs _ _) ?_
    simp (disch := omega) only [ite_ne, go_sem, ↓reduceIte, Nat.reduceEqDiff, Nat.reduceBEq, Nat.reduceAdd, Nat.reduceLeDiff, Nat.reduceLT, reduceCtorEq, Nat.reduceMul, Nat.reduceSub, Int.reduceEq, Int.reduceLT, Int.reduceLE, Int.reduceToNat]
    refine dCallR.f (fun _ hp' e => wInpsR_ok lim x.inputs hx.inputs _ _) ?_
    simp (disch := omega) only [ite_ne, hA, go_sem, ↓reduceIte, Nat.reduceEqDiff, Nat.reduceBEq, Nat.reduceAdd, Nat.reduceLeDiff, Nat.reduceLT, reduceCtorEq, Nat.reduceMul, Nat.reduceSub, Int.reduceEq, Int.reduceLT, Int.reduceLE, Int.reduceToNat]
    refine loop (fun q : (Nat × Int) × Nat => ⟨[(1, .i .i64 lim), (2, .bx m 0), (5, .i .i64 q.1.2), (6, .i .i64 j), (7, .bx k 0), (8, .i .i64 q.1.1)], (k, .bx [.i .i64 x.k, .s x.n, .ds x.impl, .ds x.dirs, .ds (mapC fldC x.fields), .ds x.members, .ds x.inputs]) :: (m, .bx [.ds (mapC dfC l)]) :: hp, q.2⟩) (fun q => q.1.1 ≤ x.fields.length ∧ k + 1 ≤ q.2 ∧ wfD lim (x.fields.drop q.1.1) q.1.2 = B) (fun q => x.fields.length - q.1.1) ((0, A), k + 17) ?_ ?_ (fun ⟨⟨i, b⟩, k2⟩ hi => ?_)
    · exact ⟨Nat.zero_le _, by dsimp only; omega, hB⟩
    · refine weak_ok ?_ (Sub.cons ?_ (Sub.cons ?_ (Sub.base hf ?_))) (by omega)
      all_goals (simp (disch := omega) only [ite_ne, go_sem, ↓reduceIte, Nat.reduceEqDiff, Nat.reduceBEq, Nat.reduceAdd, Nat.reduceLeDiff, Nat.reduceLT, reduceCtorEq, Nat.reduceMul, Nat.reduceSub, Int.reduceEq, Int.reduceLT, Int.reduceLE, Int.reduceToNat])
    dsimp only at hi
    obtain ⟨hi1, hi2, hi3⟩ := hi
    simp (disch := omega) only [ite_ne, go_sem, ↓reduceIte, Nat.reduceEqDiff, Nat.reduceBEq, Nat.reduceAdd, Nat.reduceLeDiff, Nat.reduceLT, reduceCtorEq, Nat.reduceMul, Nat.reduceSub, Int.reduceEq, Int.reduceLT, Int.reduceLE, Int.reduceToNat]
    refine cdK_of (fun d2 => ?_) (fun d2 => ?_)
    · simp only [Bool.and_eq_true, decide_eq_true_eq] at d2
      have d3 : i < x.fields.length := by omega
      obtain ⟨y, ey⟩ : ∃ y, x.fields[i]? = some y := ⟨x.fields[i], by simp⟩
      obtain ⟨y1, y2, y3⟩ := hx.fields y (List.mem_of_getElem? ey)
      rw [drop_at ey, wfD, if_pos d2.2] at hi3
      simp (disch := omega) only [ite_ne, d3, getK_s (mapC_get fldC ey), go_sem, ↓reduceIte, Nat.reduceEqDiff, Nat.reduceBEq, Nat.reduceAdd, Nat.reduceLeDiff, Nat.reduceLT, reduceCtorEq, Nat.reduceMul, Nat.reduceSub, Int.reduceEq, Int.reduceLT, Int.reduceLE, Int.reduceToNat]
      refine dCallR.f (fun _ hp' e => wInpsR_ok lim y.args y1 _ _) ?_
      simp (disch := omega) only [ite_ne, d3, getK_s (mapC_get fldC ey), go_sem, ↓reduceIte, Nat.reduceEqDiff, Nat.reduceBEq, Nat.reduceAdd, Nat.reduceLeDiff, Nat.reduceLT, reduceCtorEq, Nat.reduceMul, Nat.reduceSub, Int.reduceEq, Int.reduceLT, Int.reduceLE, Int.reduceToNat]
      refine dCallR.f (fun _ hp' e => wDirsR_ok lim y.dirs y2 _ _) ?_
      simp (disch := omega) only [ite_ne, go_sem, ↓reduceIte, Nat.reduceEqDiff, Nat.reduceBEq, Nat.reduceAdd, Nat.reduceLeDiff, Nat.reduceLT, reduceCtorEq, Nat.reduceMul, Nat.reduceSub, Int.reduceEq, Int.reduceLT, Int.reduceLE, Int.reduceToNat]
      refine ⟨((i + 1, IntKind.i64.wrap (IntKind.i64.wrap (IntKind.i64.wrap (IntKind.i64.wrap (b + 1) + y.tw.length) + wiR lim y.args) + wdR lim y.dirs)), _), ⟨by dsimp only; omega, by dsimp only; omega, hi3⟩, by dsimp only; omega, weak_ok ?_ (Sub.cons ?_ (Sub.cons ?_ (Sub.base hf ?_))) (Nat.le_refl _)⟩
      all_goals (simp (disch := omega) only [ite_ne, wr64s i (by omega), go_sem, ↓reduceIte, Nat.reduceEqDiff, Nat.reduceBEq, Nat.reduceAdd, Nat.reduceLeDiff, Nat.reduceLT, reduceCtorEq, Nat.reduceMul, Nat.reduceSub, Int.reduceEq, Int.reduceLT, Int.reduceLE, Int.reduceToNat])
    · have hab : b = B := by
        rw [← hi3, wfD_at]
        simp only [Bool.and_eq_false_iff, decide_eq_false_iff_not] at d2
        omega
      subst hab
      simp (disch := omega) only [ite_ne, go_sem, ↓reduceIte, Nat.reduceEqDiff, Nat.reduceBEq, Nat.reduceAdd, Nat.reduceLeDiff, Nat.reduceLT, reduceCtorEq, Nat.reduceMul, Nat.reduceSub, Int.reduceEq, Int.reduceLT, Int.reduceLE, Int.reduceToNat]
      refine loop (fun q : (Nat × Int) × Nat => ⟨[(1, .i .i64 lim), (2, .bx m 0), (5, .i .i64 q.1.2), (6, .i .i64 j), (7, .bx k 0), (9, .i .i64 q.1.1)], (k, .bx [.i .i64 x.k, .s x.n, .ds x.impl, .ds x.dirs, .ds (mapC fldC x.fields), .ds x.members, .ds x.inputs]) :: (m, .bx [.ds (mapC dfC l)]) :: hp, q.2⟩) (fun q => q.1.1 ≤ x.members.length ∧ k + 1 ≤ q.2 ∧ wmD lim (x.members.drop q.1.1) q.1.2 = D) (fun q => x.members.length - q.1.1) ((0, b), k2) ?_ ?_ (fun ⟨⟨g, b2⟩, k3⟩ hg => ?_)
      · exact ⟨Nat.zero_le _, hi2, hD⟩
      · refine weak_ok ?_ (Sub.cons ?_ (Sub.cons ?_ (Sub.base hf ?_))) (Nat.le_refl _)
        all_goals (simp (disch := omega) only [ite_ne, go_sem, ↓reduceIte, Nat.reduceEqDiff, Nat.reduceBEq, Nat.reduceAdd, Nat.reduceLeDiff, Nat.reduceLT, reduceCtorEq, Nat.reduceMul, Nat.reduceSub, Int.reduceEq, Int.reduceLT, Int.reduceLE, Int.reduceToNat])
      dsimp only at hg
      obtain ⟨hg1, hg2, hg3⟩ := hg
      simp (disch := omega) only [ite_ne, go_sem, ↓reduceIte, Nat.reduceEqDiff, Nat.reduceBEq, Nat.reduceAdd, Nat.reduceLeDiff, Nat.reduceLT, reduceCtorEq, Nat.reduceMul, Nat.reduceSub, Int.reduceEq, Int.reduceLT, Int.reduceLE, Int.reduceToNat]
      refine cdK_of (fun d4 => ?_) (fun d4 => ?_)
      · simp only [Bool.and_eq_true, decide_eq_true_eq] at d4
        have d5 : g < x.members.length := by omega
        obtain ⟨e, ee⟩ : ∃ e, x.members[g]? = some e := ⟨x.members[g], by simp⟩
        obtain ⟨u, y, rfl, y2⟩ := hx.members e (List.mem_of_getElem? ee)
        rw [drop_at ee, wmD, if_pos d4.2] at hg3
        have hg3 : wmD lim (x.members.drop (g + 1)) (IntKind.i64.wrap (IntKind.i64.wrap (b2 + 1) + wdR lim y)) = D := hg3
        simp (disch := omega) only [ite_ne, d5, hml, getK_s ee, go_sem, ↓reduceIte, Nat.reduceEqDiff, Nat.reduceBEq, Nat.reduceAdd, Nat.reduceLeDiff, Nat.reduceLT, reduceCtorEq, Nat.reduceMul, Nat.reduceSub, Int.reduceEq, Int.reduceLT, Int.reduceLE, Int.reduceToNat]
        refine vcCall.f (wDirsR_ok lim y y2 _ _) ?_
        simp (disch := omega) only [ite_ne, go_sem, ↓reduceIte, Nat.reduceEqDiff, Nat.reduceBEq, Nat.reduceAdd, Nat.reduceLeDiff, Nat.reduceLT, reduceCtorEq, Nat.reduceMul, Nat.reduceSub, Int.reduceEq, Int.reduceLT, Int.reduceLE, Int.reduceToNat]
        refine ⟨((g + 1, IntKind.i64.wrap (IntKind.i64.wrap (b2 + 1) + wdR lim y)), _), ⟨by dsimp only; omega, by dsimp only; omega, hg3⟩, by dsimp only; omega, weak_ok ?_ (Sub.cons ?_ (Sub.cons ?_ (Sub.base hf ?_))) (Nat.le_refl _)⟩
        all_goals (simp (disch := omega) only [ite_ne, wr64s g (by omega), go_sem, ↓reduceIte, Nat.reduceEqDiff, Nat.reduceBEq, Nat.reduceAdd, Nat.reduceLeDiff, Nat.reduceLT, reduceCtorEq, Nat.reduceMul, Nat.reduceSub, Int.reduceEq, Int.reduceLT, Int.reduceLE, Int.reduceToNat])
      · have hab : b2 = D := by
          rw [← hg3, wmD_at]
          simp only [Bool.and_eq_false_iff, decide_eq_false_iff_not] at d4
          omega
        subst hab
        simp (disch := omega) only [ite_ne, go_sem, ↓reduceIte, Nat.reduceEqDiff, Nat.reduceBEq, Nat.reduceAdd, Nat.reduceLeDiff, Nat.reduceLT, reduceCtorEq, Nat.reduceMul, Nat.reduceSub, Int.reduceEq, Int.reduceLT, Int.reduceLE, Int.reduceToNat]
        refine ⟨((j + 1, b2), _), ⟨by dsimp only; omega, by dsimp only; omega, hj3⟩, by dsimp only; omega, weak_ok ?_ (Sub.cons ?_ (Sub.base hf ?_)) (Nat.le_refl _)⟩
        all_goals (simp (disch := omega) only [ite_ne, wr64s j (by omega), go_sem, ↓reduceIte, Nat.reduceEqDiff, Nat.reduceBEq, Nat.reduceAdd, Nat.reduceLeDiff, Nat.reduceLT, reduceCtorEq, Nat.reduceMul, Nat.reduceSub, Int.reduceEq, Int.reduceLT, Int.reduceLE, Int.reduceToNat])
  · have hab : a = R := by
      rw [← hj3, wtD_at]
      simp only [Bool.and_eq_false_iff, decide_eq_false_iff_not] at d
      omega
    subst hab
    simp (disch := omega) only [ite_ne, go_sem, ↓reduceIte, Nat.reduceEqDiff, Nat.reduceBEq, Nat.reduceAdd, Nat.reduceLeDiff, Nat.reduceLT, reduceCtorEq, Nat.reduceMul, Nat.reduceSub, Int.reduceEq, Int.reduceLT, Int.reduceLE, Int.reduceToNat]
end Go.Proofs.YtgollgfifnmaaaaDoor
