/-
  The parts DaA of the proof, in one file. Conditions: none.
-/
import Derived.Test.YtjalbhlahfgogaaQws33
namespace Go.Proofs.Ytjalbhlahfgogaa
open Go.Eng
set_option linter.unusedVariables false
set_option linter.unusedSimpArgs false
set_option maxRecDepth 20000
inductive Cel where
  | mk (f a : ByteArray) (v : Val)
def Cel.f : Cel → ByteArray | .mk f _ _ => f
def Cel.a : Cel → ByteArray | .mk _ a _ => a
def Cel.v : Cel → Val | .mk _ _ v => v
theorem Cel.f_mk (f a : ByteArray) (v : Val) : (Cel.mk f a v).f = f := rfl
theorem Cel.a_mk (f a : ByteArray) (v : Val) : (Cel.mk f a v).a = a := rfl
theorem Cel.v_mk (f a : ByteArray) (v : Val) : (Cel.mk f a v).v = v := rfl
def celC (x : Cel) : List AV := [.s x.f, .s x.a, .i .i64 x.v.k, .i .i64 x.v.n, .s x.v.s, .ds (mapC valC x.v.items), .ds (stC x.v.keys)]
attribute [go_sem] celC Cel.f_mk Cel.a_mk Cel.v_mk
abbrev cx (x : Cel) : AV := .ag [.s x.f, .s x.a, .i .i64 x.v.k, .i .i64 x.v.n, .s x.v.s, .ds (mapC valC x.v.items), .ds (stC x.v.keys)]
inductive Itm where
  | mk (t : ByteArray) (l : List Cel)
def Itm.t : Itm → ByteArray | .mk t _ => t
theorem Itm.t_mk (t : ByteArray) (l : List Cel) : (Itm.mk t l).t = t := rfl
def Itm.l : Itm → List Cel | .mk _ l => l
theorem Itm.l_mk (t : ByteArray) (l : List Cel) : (Itm.mk t l).l = l := rfl
theorem Itm.eta (x : Itm) : Itm.mk x.t x.l = x := by cases x; rfl
theorem Itm.ext {x y : Itm} (h0 : x.t = y.t) (h1 : x.l = y.l) : x = y := by cases x; cases y; simp only [Itm.t_mk, Itm.l_mk] at *; simp [*]
def itC (x : Itm) : List AV := [.s x.t, .ds (mapC celC x.l)]
attribute [go_sem] itC Itm.t_mk Itm.l_mk
attribute [grind =] Itm.t_mk Itm.l_mk
attribute [ext] Itm.ext
attribute [grind ext] Itm.ext
abbrev ix' (x : Itm) : AV := .ag [.s x.t, .ds (mapC celC x.l)]
inductive Wri where
  | mk (f a : ByteArray) (i : Int) (c : Cel)
def Wri.f : Wri → ByteArray | .mk f _ _ _ => f
def Wri.a : Wri → ByteArray | .mk _ a _ _ => a
def Wri.i : Wri → Int | .mk _ _ i _ => i
def Wri.c : Wri → Cel | .mk _ _ _ c => c
theorem Wri.f_mk (f a : ByteArray) (i : Int) (c : Cel) : (Wri.mk f a i c).f = f := rfl
theorem Wri.a_mk (f a : ByteArray) (i : Int) (c : Cel) : (Wri.mk f a i c).a = a := rfl
theorem Wri.i_mk (f a : ByteArray) (i : Int) (c : Cel) : (Wri.mk f a i c).i = i := rfl
theorem Wri.c_mk (f a : ByteArray) (i : Int) (c : Cel) : (Wri.mk f a i c).c = c := rfl
def wrC (x : Wri) : List AV := [.s x.f, .s x.a, .i .i64 x.i, .s x.c.f, .s x.c.a, .i .i64 x.c.v.k, .i .i64 x.c.v.n, .s x.c.v.s, .ds (mapC valC x.c.v.items), .ds (stC x.c.v.keys)]
attribute [go_sem] wrC Wri.f_mk Wri.a_mk Wri.i_mk Wri.c_mk
abbrev wx (x : Wri) : AV := .ag [.s x.f, .s x.a, .i .i64 x.i, .s x.c.f, .s x.c.a, .i .i64 x.c.v.k, .i .i64 x.c.v.n, .s x.c.v.s, .ds (mapC valC x.c.v.items), .ds (stC x.c.v.keys)]
inductive Dat where
  | mk (i : List Itm) (w : List Wri)
def Dat.i : Dat → List Itm | .mk i _ => i
theorem Dat.i_mk (i : List Itm) (w : List Wri) : (Dat.mk i w).i = i := rfl
def Dat.w : Dat → List Wri | .mk _ w => w
theorem Dat.w_mk (i : List Itm) (w : List Wri) : (Dat.mk i w).w = w := rfl
theorem Dat.eta (x : Dat) : Dat.mk x.i x.w = x := by cases x; rfl
theorem Dat.ext {x y : Dat} (h0 : x.i = y.i) (h1 : x.w = y.w) : x = y := by cases x; cases y; simp only [Dat.i_mk, Dat.w_mk] at *; simp [*]
attribute [go_sem] Dat.i_mk Dat.w_mk
attribute [grind =] Dat.i_mk Dat.w_mk
attribute [ext] Dat.ext
attribute [grind ext] Dat.ext
abbrev dx (x : Dat) : AV := .ag [.ds (mapC itC x.i), .ds (mapC wrC x.w)]
/-- A reference or a failure that is well-formed. -/
noncomputable def refV (v : Val) : Bool := decide ((v.items.length : Int) = 0) && decide ((v.keys.length : Int) = 0) && (decide (v.k = 8) && decide (0 ≤ v.n) && decide (v.s = ⟨#[]⟩) || decide (v.k = 9) && decide (v.n = 0))
mutual
noncomputable def plV : Val → Val × Bool
  | .mk k n s i l => if k = 8 ∨ k = 9 then (zVal, refV (.mk k n s i l)) else (.mk k n s (plL i).1 l, (plL i).2)
noncomputable def plL : List Val → List Val × Bool
  | [] => ([], true)
  | x :: r => ((plV x).1 :: (plL r).1, (plV x).2 && (plL r).2)
end
theorem plV_eq (v : Val) : plV v = if v.k = 8 ∨ v.k = 9 then (zVal, refV v) else (.mk v.k v.n v.s (plL v.items).1 v.keys, (plL v.items).2) := by cases v; rw [plV]; rfl
noncomputable def resP (x : Val × Bool) : AV := .tp [vx x.1, .b x.2]
attribute [go_sem] resP
theorem plain_of (v : Val) (hv : v.Fit) (h : ∀ x ∈ v.items, ∀ hp m, MeetsF Try.prog 66 hp m [vx x] (resP (plV x))) (hp : CH) (m : Nat) : MeetsF Try.prog 66 hp m [vx v] (resP (plV v)) := by
  have h1 := hv.i
  have e := plV_eq v
  obtain ⟨R, hR⟩ : ∃ R, plV v = R := ⟨_, rfl⟩
  rw [hR] at e ⊢
  refine meetsF Try.func66 (by kernel_rfl) cc66 cr66 rfl fun hf => ?_; unfold ck66
  simp only [go_sem, ↓reduceIte, Nat.reduceEqDiff, Nat.reduceBEq, Nat.reduceAdd, Nat.reduceLeDiff, Nat.reduceLT, reduceCtorEq, Nat.reduceMul, Nat.reduceSub, Int.reduceEq, Int.reduceLT, Int.reduceLE, Int.reduceToNat]
  refine cdK_of (fun c => ?_) (fun c => ?_)
  · have c : v.k = 8 ∨ v.k = 9 := by simpa using c
    rw [if_pos c] at e
    simp only [go_sem, ↓reduceIte, Nat.reduceEqDiff, Nat.reduceBEq, Nat.reduceAdd, Nat.reduceLeDiff, Nat.reduceLT, reduceCtorEq, Nat.reduceMul, Nat.reduceSub, Int.reduceEq, Int.reduceLT, Int.reduceLE, Int.reduceToNat]
    rw [e]
    rfl
  have c : ¬ (v.k = 8 ∨ v.k = 9) := by simpa using c
  rw [if_neg c] at e
  simp only [go_sem, ↓reduceIte, Nat.reduceEqDiff, Nat.reduceBEq, Nat.reduceAdd, Nat.reduceLeDiff, Nat.reduceLT, reduceCtorEq, Nat.reduceMul, Nat.reduceSub, Int.reduceEq, Int.reduceLT, Int.reduceLE, Int.reduceToNat]
  refine loop (fun p : Nat × List Val × Bool × Nat => ⟨[(1, .bx m 0), (2, .bx (m + 1) 0), (5, .b p.2.2.1), (59, .ds (mapC valC v.items)), (60, .i .i64 v.items.length), (61, .i .i64 p.1)],
      (m, .bx [.i .i64 v.k, .i .i64 v.n, .s v.s, .rw (m + 2) p.1 p.1, .ds (stC v.keys)]) :: (m + 2, .rw p.1 5 (mapC valC p.2.1)) :: (m + 1, .bx [.i .i64 0, .i .i64 0, .s ⟨#[]⟩, .e0, .e0]) :: hp, p.2.2.2⟩)
    (fun p => p.1 ≤ v.items.length ∧ m + 3 ≤ p.2.2.2 ∧ p.2.1.length = p.1 ∧ plL v.items = (p.2.1 ++ (plL (v.items.drop p.1)).1, p.2.2.1 && (plL (v.items.drop p.1)).2)) (fun p => v.items.length - p.1) (0, [], true, m + 3) ?_ ?_ (fun ⟨j, acc, ok, n⟩ hj => ?_)
  · exact ⟨by simp, by simp, by simp, by simp⟩
  · refine (weak_b0 (c := m) (i := 3) (m := 5) (gc_same _ _ _) rfl).trans (weak_ok ?_ (Sub.cons ?_ (Sub.cons ?_ (Sub.cons ?_ (Sub.base hf ?_)))) (Nat.le_refl _))
    all_goals simp only [go_sem, ↓reduceIte, Nat.reduceEqDiff, Nat.reduceBEq, Nat.reduceAdd, Nat.reduceLeDiff, Nat.reduceLT, reduceCtorEq, Nat.reduceMul, Nat.reduceSub, Int.reduceEq, Int.reduceLT, Int.reduceLE, Int.reduceToNat]
    rfl
  dsimp only at hj
  obtain ⟨hj1, hj2, hj3, hj4⟩ := hj
  have z1 : ¬ n = m := by omega
  have z2 : ¬ n = m + 1 := by omega
  have z3 : ¬ n = m + 2 := by omega
  have z4 : ¬ n + 1 = m := by omega
  have z5 : ¬ n + 1 = m + 1 := by omega
  have z6 : ¬ n + 1 = m + 2 := by omega
  have z7 : m ≤ n := by omega
  have z8 : m ≤ n + 1 := by omega
  simp only [go_sem, ↓reduceIte, Nat.reduceEqDiff, Nat.reduceBEq, Nat.reduceAdd, Nat.reduceLeDiff, Nat.reduceLT, reduceCtorEq, Nat.reduceMul, Nat.reduceSub, Int.reduceEq, Int.reduceLT, Int.reduceLE, Int.reduceToNat]
  refine cdK_of (fun d => ?_) (fun d => ?_)
  · have d : j < v.items.length := by simpa using d
    obtain ⟨x, ex⟩ : ∃ x, v.items[j]? = some x := ⟨v.items[j], by simp [d]⟩
    have hx := h x (List.mem_of_getElem? ex)
    rw [drop_at ex, plL] at hj4
    simp only [d, z1, z2, z3, z4, z5, z6, z7, z8, getK_s (mapC_get valC ex), go_sem, ↓reduceIte, Nat.reduceEqDiff, Nat.reduceBEq, Nat.reduceAdd, Nat.reduceLeDiff, Nat.reduceLT, reduceCtorEq, Nat.reduceMul, Nat.reduceSub, Int.reduceEq, Int.reduceLT, Int.reduceLE, Int.reduceToNat]
    refine vcCall.f (hx _ _) ?_
    simp only [z1, z2, z3, z4, z5, z6, z7, z8, hj3, go_sem, ↓reduceIte, Nat.reduceEqDiff, Nat.reduceBEq, Nat.reduceAdd, Nat.reduceLeDiff, Nat.reduceLT, reduceCtorEq, Nat.reduceMul, Nat.reduceSub, Int.reduceEq, Int.reduceLT, Int.reduceLE, Int.reduceToNat]
    refine ⟨by omega, by omega, (j + 1, acc ++ [(plV x).1], ok && (plV x).2, _), ?_, by dsimp only; omega, weak_ok ?_ (Sub.cons ?_ (Sub.cons ?_ (Sub.cons ?_ (Sub.base hf ?_)))) (Nat.le_refl _)⟩
    · exact ⟨by dsimp only; omega, by dsimp only; omega, by simp [hj3], by rw [hj4]; simp [Bool.and_assoc]⟩
    all_goals
      simp only [z1, z2, z3, z4, z5, z6, z7, z8, wr64s j (by omega), go_sem, ↓reduceIte, Nat.reduceEqDiff, Nat.reduceBEq, Nat.reduceAdd, Nat.reduceLeDiff, Nat.reduceLT, reduceCtorEq, Nat.reduceMul, Nat.reduceSub, Int.reduceEq, Int.reduceLT, Int.reduceLE, Int.reduceToNat]
  · have d : j = v.items.length := by simp at d; omega
    subst d
    rw [List.drop_length, plL] at hj4
    rw [hj4] at e
    simp only [List.append_nil, Bool.and_true] at e
    subst e
    simp only [z1, z2, z3, z7, hj3, go_sem, ↓reduceIte, Nat.reduceEqDiff, Nat.reduceBEq, Nat.reduceAdd, Nat.reduceLeDiff, Nat.reduceLT, reduceCtorEq, Nat.reduceMul, Nat.reduceSub, Int.reduceEq, Int.reduceLT, Int.reduceLE, Int.reduceToNat]
    rw [List.take_of_length_le (by omega)]
theorem plain_ok (v : Val) (hv : v.Fit) (hp : CH) (m : Nat) : MeetsF Try.prog 66 hp m [vx v] (resP (plV v)) := by
  have := Val.ind (Q := fun v => v.Fit → ∀ hp m, MeetsF Try.prog 66 hp m [vx v] (resP (plV v))) (fun v ih hv hp m => plain_of v hv (fun x hx => ih x hx (hv.x hx)) hp m) v
  exact this hv hp m
theorem zVal_fit : zVal.Fit := .mk _ (by simp [zVal, Val.items_mk]) (by simp [zVal, Val.keys_mk]) (by simp [zVal, Val.items_mk])
theorem plL_len : ∀ l : List Val, (plL l).1.length = l.length
  | [] => by rw [plL]
  | x :: r => by rw [plL, List.length_cons, List.length_cons, plL_len r]
theorem plL_mem : ∀ (l : List Val) (y : Val), y ∈ (plL l).1 → ∃ x ∈ l, y = (plV x).1
  | [], y, h => by rw [plL] at h; simp at h
  | x :: r, y, h => by
    rw [plL] at h
    rcases List.mem_cons.1 h with h | h
    · exact ⟨x, by simp, h⟩
    · obtain ⟨z, hz, e⟩ := plL_mem r y h
      exact ⟨z, by simp [hz], e⟩
theorem plV_fit (v : Val) (hv : v.Fit) : (plV v).1.Fit := by
  have := Val.ind (Q := fun v => v.Fit → (plV v).1.Fit) (fun v ih hv => by
    rw [plV_eq]
    split
    · exact zVal_fit
    · refine .mk _ ?_ ?_ ?_
      · simp only [Val.items_mk]; rw [plL_len]; exact hv.i
      · simp only [Val.keys_mk]; exact hv.l
      · intro y hy
        simp only [Val.items_mk] at hy
        obtain ⟨x, hx, rfl⟩ := plL_mem _ _ hy
        exact ih x hx (hv.x hx)) v
  exact this hv
/-- A right cell. -/
noncomputable def okC (c : Cel) : Bool := (plV c.v).2 && nmS c.f && rightV false (plV c.v).1
theorem may_ok (c : Cel) (hc : c.v.Fit) (hp : CH) (m : Nat) : MeetsF Try.prog 34 hp m [cx c] (.b (okC c)) := by
  have hf2 := plV_fit c.v hc
  have h1 := plain_ok c.v hc
  obtain ⟨R, hR⟩ : ∃ R, plV c.v = R := ⟨_, rfl⟩
  rw [hR] at hf2 h1
  rw [okC, hR]
  refine meetsF Try.func34 (by kernel_rfl) cc34 cr34 rfl fun hf => ?_; unfold ck34
  simp only [go_sem, ↓reduceIte, Nat.reduceEqDiff, Nat.reduceBEq, Nat.reduceAdd, Nat.reduceLeDiff, Nat.reduceLT, reduceCtorEq, Nat.reduceMul, Nat.reduceSub, Int.reduceEq, Int.reduceLT, Int.reduceLE, Int.reduceToNat]
  refine vcCall.f (h1 _ _) ?_
  simp only [go_sem, ↓reduceIte, Nat.reduceEqDiff, Nat.reduceBEq, Nat.reduceAdd, Nat.reduceLeDiff, Nat.reduceLT, reduceCtorEq, Nat.reduceMul, Nat.reduceSub, Int.reduceEq, Int.reduceLT, Int.reduceLE, Int.reduceToNat]
  refine gCall.f (fun _ => Name_ok _ _ _) ?_
  simp only [go_sem, ↓reduceIte, Nat.reduceEqDiff, Nat.reduceBEq, Nat.reduceAdd, Nat.reduceLeDiff, Nat.reduceLT, reduceCtorEq, Nat.reduceMul, Nat.reduceSub, Int.reduceEq, Int.reduceLT, Int.reduceLE, Int.reduceToNat]
  refine gCall.f (fun _ => vRight_ok R.1 hf2 _ _) ?_
  simp only [go_sem, ↓reduceIte, Nat.reduceEqDiff, Nat.reduceBEq, Nat.reduceAdd, Nat.reduceLeDiff, Nat.reduceLT, reduceCtorEq, Nat.reduceMul, Nat.reduceSub, Int.reduceEq, Int.reduceLT, Int.reduceLE, Int.reduceToNat]
end Go.Proofs.Ytjalbhlahfgogaa
