/-
  The parts VaG PkA of the proof, in one file. Conditions: none.
-/
import Derived.Test.YtmcgjccheehehaaQse26
namespace Go.Proofs.Ytmcgjccheehehaa
open Go.Eng
set_option linter.unusedVariables false
set_option linter.unusedSimpArgs false
set_option maxRecDepth 20000
/-- An object's item. -/
noncomputable def getV (v : Val) (k : ByteArray) : Option Val := if v.k = 6 then (if 0 ≤ ix k v.keys 0 then v.items[(ix k v.keys 0).toNat]? else none) else none
noncomputable def resV (o : Option Val) : AV := .tp [vx (o.getD zVal), .b o.isSome]
attribute [go_sem] resV zVal Option.getD_none Option.getD_some Option.isSome_none Option.isSome_some
theorem get_ok (v : Val) (hv : v.Fit) (k : ByteArray) (hp : CH) (m : Nat) : MeetsF Try.prog 70 hp m [vx v, .s k] (resV (getV v k)) := by
  refine meetsF Try.func70 (by kernel_rfl) cc70 cr70 rfl fun hf => ?_; unfold ck70
  have h1 := hv.l
  have h2 := ix_lt k v.keys 0
  simp only [go_sem, ↓reduceIte, Nat.reduceEqDiff, Nat.reduceBEq, Nat.reduceAdd, Nat.reduceLeDiff, Nat.reduceLT, reduceCtorEq, Nat.reduceMul, Nat.reduceSub, Int.reduceEq, Int.reduceLT, Int.reduceLE, Int.reduceToNat]
  refine vcCall.f (index_ok v.keys k (by omega) _ _) ?_
  simp only [go_sem, ↓reduceIte, Nat.reduceEqDiff, Nat.reduceBEq, Nat.reduceAdd, Nat.reduceLeDiff, Nat.reduceLT, reduceCtorEq, Nat.reduceMul, Nat.reduceSub, Int.reduceEq, Int.reduceLT, Int.reduceLE, Int.reduceToNat]
  refine cdK_of (fun c => ?_) (fun c => ?_)
  · have e : getV v k = none := by
      unfold getV
      simp at c
      grind
    rw [e]
    simp only [go_sem, ↓reduceIte, Nat.reduceEqDiff, Nat.reduceBEq, Nat.reduceAdd, Nat.reduceLeDiff, Nat.reduceLT, reduceCtorEq, Nat.reduceMul, Nat.reduceSub, Int.reduceEq, Int.reduceLT, Int.reduceLE, Int.reduceToNat]
  · simp at c
    obtain ⟨x, ex⟩ : ∃ x, v.items[(ix k v.keys 0).toNat]? = some x := ⟨v.items[(ix k v.keys 0).toNat], List.getElem?_eq_getElem (by omega)⟩
    have e : getV v k = some x := by unfold getV; rw [if_pos c.1.1, if_pos c.1.2, ex]
    have hx := hv.x (List.mem_of_getElem? ex)
    have c3 : (ix k v.keys 0).toNat < v.items.length := by omega
    rw [e]
    simp only [c3, c.1.2, getK_s (mapC_get valC ex), go_sem, ↓reduceIte, Nat.reduceEqDiff, Nat.reduceBEq, Nat.reduceAdd, Nat.reduceLeDiff, Nat.reduceLT, reduceCtorEq, Nat.reduceMul, Nat.reduceSub, Int.reduceEq, Int.reduceLT, Int.reduceLE, Int.reduceToNat]
    refine vcCall.f (copy_ok x hx _ _) ?_
    simp only [go_sem, ↓reduceIte, Nat.reduceEqDiff, Nat.reduceBEq, Nat.reduceAdd, Nat.reduceLeDiff, Nat.reduceLT, reduceCtorEq, Nat.reduceMul, Nat.reduceSub, Int.reduceEq, Int.reduceLT, Int.reduceLE, Int.reduceToNat]
theorem getV_none {v : Val} {k : ByteArray} (h : v.k ≠ 6) : getV v k = none := by unfold getV; rw [if_neg h]
theorem rget_ok (v : Val) (hv : v.Fit) (k : ByteArray) (hp : CH) (m : Nat) : MeetsF Try.prog 72 hp m [vx v, .s k] (resV (getV v k)) := by
  refine meetsF Try.func72 (by kernel_rfl) cc72 cr72 rfl fun hf => ?_; unfold ck72
  have h1 := hv.l
  have h3 := hv.i
  simp only [go_sem, ↓reduceIte, Nat.reduceEqDiff, Nat.reduceBEq, Nat.reduceAdd, Nat.reduceLeDiff, Nat.reduceLT, reduceCtorEq, Nat.reduceMul, Nat.reduceSub, Int.reduceEq, Int.reduceLT, Int.reduceLE, Int.reduceToNat]
  refine cdK_of (fun c => ?_) (fun c => ?_)
  · have c : v.k ≠ 6 := by simpa using c
    rw [getV_none c]
    simp only [go_sem, ↓reduceIte, Nat.reduceEqDiff, Nat.reduceBEq, Nat.reduceAdd, Nat.reduceLeDiff, Nat.reduceLT, reduceCtorEq, Nat.reduceMul, Nat.reduceSub, Int.reduceEq, Int.reduceLT, Int.reduceLE, Int.reduceToNat]
  have c : v.k = 6 := by simpa using c
  simp only [go_sem, ↓reduceIte, Nat.reduceEqDiff, Nat.reduceBEq, Nat.reduceAdd, Nat.reduceLeDiff, Nat.reduceLT, reduceCtorEq, Nat.reduceMul, Nat.reduceSub, Int.reduceEq, Int.reduceLT, Int.reduceLE, Int.reduceToNat]
  refine loop (fun p : Nat × Nat => ⟨[(1, .s k), (2, .bx m 0), (4, .bx (m + 1) 0), (6, .i .i64 p.1)], (m + 1, .bx [.i .i64 0, .i .i64 0, .s ⟨#[]⟩, .e0, .e0]) :: (m, .bx [.i .i64 v.k, .i .i64 v.n, .s v.s, .ds (mapC valC v.items), .ds (stC v.keys)]) :: hp, p.2⟩)
    (fun p => p.1 ≤ v.keys.length ∧ m + 2 ≤ p.2 ∧ ix k v.keys 0 = ix k (v.keys.drop p.1) p.1) (fun p => v.keys.length - p.1) (0, m + 2) ?_ ?_ (fun ⟨j, n⟩ hj => ?_)
  · grind
  · refine weak_ok ?_ (Sub.refl _) (Nat.le_refl _)
    simp only [go_sem, ↓reduceIte, Nat.reduceEqDiff, Nat.reduceBEq, Nat.reduceAdd, Nat.reduceLeDiff, Nat.reduceLT, reduceCtorEq, Nat.reduceMul, Nat.reduceSub, Int.reduceEq, Int.reduceLT, Int.reduceLE, Int.reduceToNat]
  dsimp only at hj
  simp only [go_sem, ↓reduceIte, Nat.reduceEqDiff, Nat.reduceBEq, Nat.reduceAdd, Nat.reduceLeDiff, Nat.reduceLT, reduceCtorEq, Nat.reduceMul, Nat.reduceSub, Int.reduceEq, Int.reduceLT, Int.reduceLE, Int.reduceToNat]
  refine cdK_of (fun d => ?_) (fun d => ?_)
  · have d : j < v.keys.length := by simpa using d
    obtain ⟨y, ey⟩ : ∃ y, v.keys[j]? = some y := ⟨v.keys[j], by simp [d]⟩
    have e := drop_at ey
    rw [e, ix] at hj
    simp only [d, getK_s (mapC_get st1 ey), go_sem, ↓reduceIte, Nat.reduceEqDiff, Nat.reduceBEq, Nat.reduceAdd, Nat.reduceLeDiff, Nat.reduceLT, reduceCtorEq, Nat.reduceMul, Nat.reduceSub, Int.reduceEq, Int.reduceLT, Int.reduceLE, Int.reduceToNat]
    refine cdK_of (fun d1 => ?_) (fun d1 => ?_)
    · have d1 : k = y := by simp at d1; exact d1.symm
      rw [if_pos d1] at hj
      simp only [go_sem, ↓reduceIte, Nat.reduceEqDiff, Nat.reduceBEq, Nat.reduceAdd, Nat.reduceLeDiff, Nat.reduceLT, reduceCtorEq, Nat.reduceMul, Nat.reduceSub, Int.reduceEq, Int.reduceLT, Int.reduceLE, Int.reduceToNat]
      refine cdK_of (fun d2 => ?_) (fun d2 => ?_)
      · have e : getV v k = none := by
          unfold getV
          rw [if_pos c, hj.2.2, if_pos (by omega), List.getElem?_eq_none (by simp at d2; omega)]
        rw [e]
        simp only [go_sem, ↓reduceIte, Nat.reduceEqDiff, Nat.reduceBEq, Nat.reduceAdd, Nat.reduceLeDiff, Nat.reduceLT, reduceCtorEq, Nat.reduceMul, Nat.reduceSub, Int.reduceEq, Int.reduceLT, Int.reduceLE, Int.reduceToNat]
      · have d2 : j < v.items.length := by simp at d2; omega
        obtain ⟨x, ex⟩ : ∃ x, v.items[j]? = some x := ⟨v.items[j], by simp [d2]⟩
        have e : getV v k = some x := by
          unfold getV
          rw [if_pos c, hj.2.2, if_pos (by omega), Int.toNat_natCast, ex]
        rw [e]
        have hx := hv.x (List.mem_of_getElem? ex)
        simp only [d2, getK_s (mapC_get valC ex), go_sem, ↓reduceIte, Nat.reduceEqDiff, Nat.reduceBEq, Nat.reduceAdd, Nat.reduceLeDiff, Nat.reduceLT, reduceCtorEq, Nat.reduceMul, Nat.reduceSub, Int.reduceEq, Int.reduceLT, Int.reduceLE, Int.reduceToNat]
        refine vcCall.f (rcopy_ok x hx _ _) ?_
        simp only [go_sem, ↓reduceIte, Nat.reduceEqDiff, Nat.reduceBEq, Nat.reduceAdd, Nat.reduceLeDiff, Nat.reduceLT, reduceCtorEq, Nat.reduceMul, Nat.reduceSub, Int.reduceEq, Int.reduceLT, Int.reduceLE, Int.reduceToNat]
    · have d1 : ¬ k = y := by simp at d1; exact fun e => d1 e.symm
      rw [if_neg d1] at hj
      simp only [go_sem, ↓reduceIte, Nat.reduceEqDiff, Nat.reduceBEq, Nat.reduceAdd, Nat.reduceLeDiff, Nat.reduceLT, reduceCtorEq, Nat.reduceMul, Nat.reduceSub, Int.reduceEq, Int.reduceLT, Int.reduceLE, Int.reduceToNat]
      refine ⟨(j + 1, n), by dsimp only; omega, by dsimp only; omega, weak_ok ?_ (Sub.refl _) (Nat.le_refl _)⟩
      simp only [wr64s j (by omega), go_sem, ↓reduceIte, Nat.reduceEqDiff, Nat.reduceBEq, Nat.reduceAdd, Nat.reduceLeDiff, Nat.reduceLT, reduceCtorEq, Nat.reduceMul, Nat.reduceSub, Int.reduceEq, Int.reduceLT, Int.reduceLE, Int.reduceToNat]
  · have d : j = v.keys.length := by simp at d; omega
    subst d
    rw [List.drop_length, ix] at hj
    have e : getV v k = none := by
      unfold getV
      rw [if_pos c, hj.2.2, if_neg (by omega)]
    rw [e]
    simp only [go_sem, ↓reduceIte, Nat.reduceEqDiff, Nat.reduceBEq, Nat.reduceAdd, Nat.reduceLeDiff, Nat.reduceLT, reduceCtorEq, Nat.reduceMul, Nat.reduceSub, Int.reduceEq, Int.reduceLT, Int.reduceLE, Int.reduceToNat]
theorem getV_mem {v x : Val} {k : ByteArray} (h : getV v k = some x) : x ∈ v.items := by
  unfold getV at h
  split at h
  · split at h
    · exact List.mem_of_getElem? h
    · cases h
  · cases h
end Go.Proofs.Ytmcgjccheehehaa
namespace Go.Proofs.Ytmcgjccheehehaa
open Go.Eng
set_option linter.unusedVariables false
set_option linter.unusedSimpArgs false
set_option maxRecDepth 20000
inductive Arg where
  | mk (n : ByteArray) (v : Val)
def Arg.n : Arg → ByteArray | .mk n _ => n
theorem Arg.n_mk (n : ByteArray) (v : Val) : (Arg.mk n v).n = n := rfl
def Arg.v : Arg → Val | .mk _ v => v
theorem Arg.v_mk (n : ByteArray) (v : Val) : (Arg.mk n v).v = v := rfl
theorem Arg.eta (x : Arg) : Arg.mk x.n x.v = x := by cases x; rfl
theorem Arg.ext {x y : Arg} (h0 : x.n = y.n) (h1 : x.v = y.v) : x = y := by cases x; cases y; simp only [Arg.n_mk, Arg.v_mk] at *; simp [*]
attribute [go_sem] Arg.n_mk Arg.v_mk
attribute [grind =] Arg.n_mk Arg.v_mk
attribute [ext] Arg.ext
attribute [grind ext] Arg.ext
def argC (x : Arg) : List AV := [.s x.n, .i .i64 x.v.k, .i .i64 x.v.n, .s x.v.s, .ds (mapC valC x.v.items), .ds (stC x.v.keys)]
inductive Pk where
  | mk (key on name : ByteArray) (args : List Arg) (tn : ByteArray) (tw : List Int) (label : ByteArray) (initial : Int) (picks : List Pk)
def Pk.key : Pk → ByteArray | .mk x _ _ _ _ _ _ _ _ => x
def Pk.on : Pk → ByteArray | .mk _ x _ _ _ _ _ _ _ => x
def Pk.name : Pk → ByteArray | .mk _ _ x _ _ _ _ _ _ => x
def Pk.args : Pk → List Arg | .mk _ _ _ x _ _ _ _ _ => x
def Pk.tn : Pk → ByteArray | .mk _ _ _ _ x _ _ _ _ => x
def Pk.tw : Pk → List Int | .mk _ _ _ _ _ x _ _ _ => x
def Pk.label : Pk → ByteArray | .mk _ _ _ _ _ _ x _ _ => x
def Pk.initial : Pk → Int | .mk _ _ _ _ _ _ _ x _ => x
def Pk.picks : Pk → List Pk | .mk _ _ _ _ _ _ _ _ x => x
mutual
def pkC : Pk → List AV
  | .mk k o n a tn tw l i p => [.s k, .s o, .s n, .ds (mapC argC a), .s tn, .ds (mapC in1 tw), .s l, .i .i64 i, .ds (pksC p)]
def pksC : List Pk → List (List AV)
  | [] => []
  | p :: r => pkC p :: pksC r
end
theorem pksC_eq (l : List Pk) : pksC l = mapC pkC l := by
  induction l with
  | nil => rfl
  | cons v l ih => rw [pksC, mapC_cons, ih]
theorem pkC_eq (p : Pk) : pkC p = [.s p.key, .s p.on, .s p.name, .ds (mapC argC p.args), .s p.tn, .ds (mapC in1 p.tw), .s p.label, .i .i64 p.initial, .ds (mapC pkC p.picks)] := by
  cases p
  rw [pkC, pksC_eq]
  rfl
attribute [go_sem] pkC_eq
theorem Pk.picks_lt (v x : Pk) (h : x ∈ v.picks) : SizeOf.sizeOf x < SizeOf.sizeOf v := by
  cases v
  have := List.sizeOf_lt_of_mem h
  simp only [Pk.picks] at this
  simp
  omega
theorem Pk.ind {Q : Pk → Prop} (h : ∀ v, (∀ x ∈ v.picks, Q x) → Q v) (v : Pk) : Q v := h v fun x hx => Pk.ind h x
termination_by SizeOf.sizeOf v
decreasing_by exact Pk.picks_lt v x hx
mutual
def wtK : Pk → Nat
  | .mk _ _ _ _ _ _ _ _ p => 1 + wtKs p
def wtKs : List Pk → Nat
  | [] => 0
  | p :: r => wtK p + wtKs r
end
theorem wtK_eq (p : Pk) : wtK p = 1 + wtKs p.picks := by cases p; rw [wtK]; rfl
theorem wtKs_mem {x : Pk} : ∀ {l : List Pk}, x ∈ l → wtK x ≤ wtKs l
  | y :: r, h => by
    rw [wtKs]
    rcases List.mem_cons.1 h with rfl | h
    · omega
    · have := wtKs_mem h
      omega
theorem wtKs_len : ∀ l : List Pk, l.length ≤ wtKs l
  | [] => by simp
  | y :: r => by
    have := wtKs_len r
    have := wtK_eq y
    rw [wtKs]
    simp
    omega
end Go.Proofs.Ytmcgjccheehehaa
