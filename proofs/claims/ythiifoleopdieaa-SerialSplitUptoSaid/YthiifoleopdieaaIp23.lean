/-
  The parts VaA PkA VaB VaC of the proof, in one file. Conditions: none.
-/
import Derived.Test.YthiifoleopdieaaIp22
namespace Go.Proofs.Ythiifoleopdieaa
open Go.Eng
set_option linter.unusedVariables false
set_option linter.unusedSimpArgs false
inductive Val where
  | mk (k n : Int) (s : ByteArray) (items : List Val) (keys : List ByteArray)
def Val.k : Val → Int | .mk k _ _ _ _ => k
def Val.n : Val → Int | .mk _ n _ _ _ => n
def Val.s : Val → ByteArray | .mk _ _ s _ _ => s
def Val.items : Val → List Val | .mk _ _ _ i _ => i
def Val.keys : Val → List ByteArray | .mk _ _ _ _ l => l
section
variable (k n : Int) (s : ByteArray) (i : List Val) (l : List ByteArray)
theorem Val.k_mk : (Val.mk k n s i l).k = k := rfl
theorem Val.n_mk : (Val.mk k n s i l).n = n := rfl
theorem Val.s_mk : (Val.mk k n s i l).s = s := rfl
theorem Val.items_mk : (Val.mk k n s i l).items = i := rfl
theorem Val.keys_mk : (Val.mk k n s i l).keys = l := rfl
end
theorem Val.eta (v : Val) : Val.mk v.k v.n v.s v.items v.keys = v := by cases v; rfl
theorem Val.ext {v w : Val} (h1 : v.k = w.k) (h2 : v.n = w.n) (h3 : v.s = w.s) (h4 : v.items = w.items) (h5 : v.keys = w.keys) : v = w := by
  cases v; cases w
  simp only [Val.k_mk, Val.n_mk, Val.s_mk, Val.items_mk, Val.keys_mk] at *
  simp [*]
mutual
def valC : Val → List AV
  | .mk k n s i l => [.i .i64 k, .i .i64 n, .s s, .ds (valsC i), .ds (stC l)]
def valsC : List Val → List (List AV)
  | [] => []
  | v :: r => valC v :: valsC r
end
theorem valsC_eq (l : List Val) : valsC l = mapC valC l := by
  induction l with
  | nil => rfl
  | cons v l ih => rw [valsC, mapC_cons, ih]
theorem valC_eq (v : Val) : valC v = [.i .i64 v.k, .i .i64 v.n, .s v.s, .ds (mapC valC v.items), .ds (stC v.keys)] := by
  cases v
  rw [valC, valsC_eq]
  rfl
def Val.av (v : Val) : AV := .ag (valC v)
theorem Val.av_eq (v : Val) : v.av = .ag (valC v) := rfl
theorem Val.items_lt (v x : Val) (h : x ∈ v.items) : SizeOf.sizeOf x < SizeOf.sizeOf v := by
  cases v
  have := List.sizeOf_lt_of_mem h
  simp only [Val.items_mk] at this
  simp
  omega
/-- What holds of a value if it holds of its items holds of all. -/
theorem Val.ind {Q : Val → Prop} (h : ∀ v, (∀ x ∈ v.items, Q x) → Q v) (v : Val) : Q v := h v fun x hx => Val.ind h x
termination_by SizeOf.sizeOf v
decreasing_by exact Val.items_lt v x hx
/-- No list is too long for memory. -/
inductive Val.Fit : Val → Prop
  | mk (v : Val) : v.items.length * 80 ≤ 140737488355327 → v.keys.length * 16 ≤ 140737488355327 → (∀ x ∈ v.items, Val.Fit x) → Val.Fit v
theorem Val.Fit.i {v : Val} (h : v.Fit) : v.items.length * 80 ≤ 140737488355327 := by cases h; assumption
theorem Val.Fit.l {v : Val} (h : v.Fit) : v.keys.length * 16 ≤ 140737488355327 := by cases h; assumption
theorem Val.Fit.x {v : Val} (h : v.Fit) {x : Val} (hx : x ∈ v.items) : x.Fit := by cases h with | mk _ _ _ h => exact h x hx
/-- A value as a struct. -/
abbrev vx (v : Val) : AV := .ag [.i .i64 v.k, .i .i64 v.n, .s v.s, .ds (mapC valC v.items), .ds (stC v.keys)]
theorem snoc_val (l : List Val) (v : Val) : mapC valC l ++ [[AV.i .i64 v.k, .i .i64 v.n, .s v.s, .ds (mapC valC v.items), .ds (stC v.keys)]] = mapC valC (l ++ [v]) := by rw [← valC_eq, mapC_snoc]
theorem take_snoc {α : Type} {l : List α} {j : Nat} {x : α} (h : l[j]? = some x) : l.take j ++ [x] = l.take (j + 1) := by rw [List.take_add_one, h]; rfl
theorem snoc_st (l : List ByteArray) (y : ByteArray) : mapC st1 l ++ [[AV.s y]] = mapC st1 (l ++ [y]) := mapC_snoc st1 l y
theorem pos_sn (n : Nat) : (0 < n + 1) = True := by simp
attribute [go_sem] pos_sn
attribute [go_sem] snoc_st AV.one
attribute [go_sem] snoc_val vx
attribute [go_sem] valC_eq Val.av_eq Val.k_mk Val.n_mk Val.s_mk Val.items_mk Val.keys_mk
attribute [grind =] Val.k_mk Val.n_mk Val.s_mk Val.items_mk Val.keys_mk
theorem drop_at {α : Type} {l : List α} {j : Nat} {x : α} (h : l[j]? = some x) : l.drop j = x :: l.drop (j + 1) := by
  obtain ⟨hj, rfl⟩ := List.getElem?_eq_some_iff.1 h
  exact List.drop_eq_getElem_cons hj
/-- The place of a key, counted from j on, or -1. -/
def ix (k : ByteArray) : List ByteArray → Nat → Int
  | [], _ => -1
  | x :: r, j => if k = x then j else ix k r (j + 1)
mutual
/-- How much a value weighs. -/
def wtV : Val → Nat
  | .mk _ _ _ i l => 1 + wtL i + l.length
def wtL : List Val → Nat
  | [] => 0
  | x :: r => wtV x + wtL r
end
theorem wtV_eq (v : Val) : wtV v = 1 + wtL v.items + v.keys.length := by cases v; rw [wtV]; rfl
theorem wtV_pos (v : Val) : 1 ≤ wtV v := by rw [wtV_eq]; omega
theorem wtL_mem {x : Val} : ∀ {l : List Val}, x ∈ l → wtV x ≤ wtL l
  | y :: r, h => by
    rw [wtL]
    rcases List.mem_cons.1 h with rfl | h
    · omega
    · have := wtL_mem h
      omega
theorem wtL_len : ∀ l : List Val, l.length ≤ wtL l
  | [] => by simp
  | y :: r => by
    have := wtL_len r
    have := wtV_pos y
    rw [wtL]
    simp
    omega
theorem wtV_fit (v : Val) (h : wtV v ≤ 1000000000000) : v.Fit := by
  have := Val.ind (Q := fun v => wtV v ≤ 1000000000000 → v.Fit) (fun v ih h => by
    rw [wtV_eq] at h
    have := wtL_len v.items
    exact .mk v (by omega) (by omega) fun x hx => ih x hx (by have := wtL_mem hx; omega)) v
  exact this h
def zVal : Val := .mk 0 0 ⟨#[]⟩ [] []
noncomputable instance : DecidableEq Val := fun _ _ => Classical.propDecidable _
end Go.Proofs.Ythiifoleopdieaa
namespace Go.Proofs.Ythiifoleopdieaa
open Go.Eng
set_option linter.unusedVariables false
set_option linter.unusedSimpArgs false
set_option maxRecDepth 20000
inductive Arg where
  | mk (n : ByteArray) (v : Val)
def Arg.n : Arg → ByteArray | .mk n _ => n
theorem Arg.n_mk (n : ByteArray) (v : Val) : (Arg.mk n v).n = n := rfl
def Arg.v : Arg → Val | .mk _ v => v
theorem Arg.v_mk (n : ByteArray) (v : Val) : (Arg.mk n v).v = v := rfl
theorem Arg.eta (x : Arg) : Arg.mk x.n x.v = x := by cases x; rfl
theorem Arg.ext {x y : Arg} (h0 : x.n = y.n) (h1 : x.v = y.v) : x = y := by cases x; cases y; simp only [Arg.n_mk, Arg.v_mk] at *; simp [*]
attribute [go_sem] Arg.n_mk Arg.v_mk
attribute [grind =] Arg.n_mk Arg.v_mk
attribute [ext] Arg.ext
attribute [grind ext] Arg.ext
def argC (x : Arg) : List AV := [.s x.n, .i .i64 x.v.k, .i .i64 x.v.n, .s x.v.s, .ds (mapC valC x.v.items), .ds (stC x.v.keys)]
inductive Pk where
  | mk (key on name : ByteArray) (args : List Arg) (tn : ByteArray) (tw : List Int) (label : ByteArray) (initial : Int) (picks : List Pk)
def Pk.key : Pk → ByteArray | .mk x _ _ _ _ _ _ _ _ => x
def Pk.on : Pk → ByteArray | .mk _ x _ _ _ _ _ _ _ => x
def Pk.name : Pk → ByteArray | .mk _ _ x _ _ _ _ _ _ => x
def Pk.args : Pk → List Arg | .mk _ _ _ x _ _ _ _ _ => x
def Pk.tn : Pk → ByteArray | .mk _ _ _ _ x _ _ _ _ => x
def Pk.tw : Pk → List Int | .mk _ _ _ _ _ x _ _ _ => x
def Pk.label : Pk → ByteArray | .mk _ _ _ _ _ _ x _ _ => x
def Pk.initial : Pk → Int | .mk _ _ _ _ _ _ _ x _ => x
def Pk.picks : Pk → List Pk | .mk _ _ _ _ _ _ _ _ x => x
mutual
def pkC : Pk → List AV
  | .mk k o n a tn tw l i p => [.s k, .s o, .s n, .ds (mapC argC a), .s tn, .ds (mapC in1 tw), .s l, .i .i64 i, .ds (pksC p)]
def pksC : List Pk → List (List AV)
  | [] => []
  | p :: r => pkC p :: pksC r
end
theorem pksC_eq (l : List Pk) : pksC l = mapC pkC l := by
  induction l with
  | nil => rfl
  | cons v l ih => rw [pksC, mapC_cons, ih]
theorem pkC_eq (p : Pk) : pkC p = [.s p.key, .s p.on, .s p.name, .ds (mapC argC p.args), .s p.tn, .ds (mapC in1 p.tw), .s p.label, .i .i64 p.initial, .ds (mapC pkC p.picks)] := by
  cases p
  rw [pkC, pksC_eq]
  rfl
attribute [go_sem] pkC_eq
theorem len_pk (l : List Pk) : (∀ e, e ∈ mapC pkC l → e.length = 9) = True := eq_true fun e h => by
  obtain ⟨x, _, rfl⟩ := mapC_mem _ _ h
  rw [pkC_eq]
  rfl
attribute [go_sem] len_pk
theorem Pk.picks_lt (v x : Pk) (h : x ∈ v.picks) : SizeOf.sizeOf x < SizeOf.sizeOf v := by
  cases v
  have := List.sizeOf_lt_of_mem h
  simp only [Pk.picks] at this
  simp
  omega
theorem Pk.ind {Q : Pk → Prop} (h : ∀ v, (∀ x ∈ v.picks, Q x) → Q v) (v : Pk) : Q v := h v fun x hx => Pk.ind h x
termination_by SizeOf.sizeOf v
decreasing_by exact Pk.picks_lt v x hx
end Go.Proofs.Ythiifoleopdieaa
namespace Go.Proofs.Ythiifoleopdieaa
open Go.Eng
set_option linter.unusedVariables false
set_option linter.unusedSimpArgs false
set_option maxRecDepth 20000
theorem clone_ok (l : List ByteArray) (h : l.length * 16 ≤ 140737488355327) (hp : CH) (m : Nat) : MeetsF Try.prog 66 hp m [.ds (stC l)] (.ds (stC l)) := by
  refine meetsF Try.func66 (by kernel_rfl) cc66 cr66 rfl fun hf => ?_; unfold ck66
  simp only [go_sem, ↓reduceIte, Nat.reduceEqDiff, Nat.reduceBEq, Nat.reduceAdd, Nat.reduceLeDiff, Nat.reduceLT, reduceCtorEq, Nat.reduceMul, Nat.reduceSub, Int.reduceEq, Int.reduceLT, Int.reduceLE, Int.reduceToNat]
  exact ⟨fun e => by rw [e], by omega, by omega⟩
theorem copies_ok (l : List Val) (hl : l.length * 80 ≤ 140737488355327) (h : ∀ x ∈ l, ∀ hp m, MeetsF Try.prog 32 hp m [vx x] (vx x)) (hp : CH) (m : Nat) :
    MeetsF Try.prog 65 hp m [.ds (mapC valC l)] (.ds (mapC valC l)) := by
  refine meetsF Try.func65 (by kernel_rfl) cc65 cr65 rfl fun hf => ?_; unfold ck65
  simp only [go_sem, ↓reduceIte, Nat.reduceEqDiff, Nat.reduceBEq, Nat.reduceAdd, Nat.reduceLeDiff, Nat.reduceLT, reduceCtorEq, Nat.reduceMul, Nat.reduceSub, Int.reduceEq, Int.reduceLT, Int.reduceLE, Int.reduceToNat]
  refine loop (fun p : Nat × Nat => ⟨[(3, .rw m p.1 p.1), (6, .ds (mapC valC l)), (7, .i .i64 l.length), (8, .i .i64 p.1)], (m, .rw p.1 5 (mapC valC (l.take p.1))) :: hp, p.2⟩) (fun p => p.1 ≤ l.length ∧ m + 1 ≤ p.2) (fun p => l.length - p.1) (0, m + 1) ?_ ?_ (fun ⟨j, n⟩ hj => ?_)
  · grind
  · refine (weak_e0 (t := 3) (m := 5) ?_).trans (weak_ok ?_ (Sub.cons ?_ (Sub.base hf ?_)) (Nat.le_refl _))
    all_goals simp only [go_sem, ↓reduceIte, Nat.reduceEqDiff, Nat.reduceBEq, Nat.reduceAdd, Nat.reduceLeDiff, Nat.reduceLT, reduceCtorEq, Nat.reduceMul, Nat.reduceSub, Int.reduceEq, Int.reduceLT, Int.reduceLE, Int.reduceToNat]
  dsimp only at hj
  have hne : n ≠ m := by omega
  have hne' : m ≠ n := by omega
  have hmn : m ≤ n := by omega
  simp only [hne, hne', hmn, go_sem, ↓reduceIte, Nat.reduceEqDiff, Nat.reduceBEq, Nat.reduceAdd, Nat.reduceLeDiff, Nat.reduceLT, reduceCtorEq, Nat.reduceMul, Nat.reduceSub, Int.reduceEq, Int.reduceLT, Int.reduceLE, Int.reduceToNat]
  refine cdK_of (fun c => ?_) (fun c => ?_)
  · have c : j < l.length := by simpa using c
    obtain ⟨x, ex⟩ : ∃ x, l[j]? = some x := ⟨l[j], by simp [c]⟩
    have hx := h x (List.mem_of_getElem? ex)
    have ht : (l.take j).length = j := by simp; omega
    simp only [hne, hne', hmn, c, getK_s (mapC_get valC ex), go_sem, ↓reduceIte, Nat.reduceEqDiff, Nat.reduceBEq, Nat.reduceAdd, Nat.reduceLeDiff, Nat.reduceLT, reduceCtorEq, Nat.reduceMul, Nat.reduceSub, Int.reduceEq, Int.reduceLT, Int.reduceLE, Int.reduceToNat]
    refine vcCall.f (hx _ _) ?_
    simp only [hne, hne', hmn, ht, go_sem, ↓reduceIte, Nat.reduceEqDiff, Nat.reduceBEq, Nat.reduceAdd, Nat.reduceLeDiff, Nat.reduceLT, reduceCtorEq, Nat.reduceMul, Nat.reduceSub, Int.reduceEq, Int.reduceLT, Int.reduceLE, Int.reduceToNat]
    refine ⟨by omega, by omega, (j + 1, n + 1), by dsimp only; omega, by dsimp only; omega, weak_ok ?_ (Sub.cons ?_ (Sub.base hf ?_)) (Nat.le_refl _)⟩
    all_goals
      simp only [hmn, go_sem, ↓reduceIte, Nat.reduceEqDiff, Nat.reduceBEq, Nat.reduceAdd, Nat.reduceLeDiff, Nat.reduceLT, reduceCtorEq, Nat.reduceMul, Nat.reduceSub, Int.reduceEq, Int.reduceLT, Int.reduceLE, Int.reduceToNat]
    · exact congrArg _ (wr64s j (by omega))
    · rw [take_snoc ex]
  · have c : j = l.length := by simp at c; omega
    subst c
    simp only [hne, hne', hmn, go_sem, ↓reduceIte, Nat.reduceEqDiff, Nat.reduceBEq, Nat.reduceAdd, Nat.reduceLeDiff, Nat.reduceLT, reduceCtorEq, Nat.reduceMul, Nat.reduceSub, Int.reduceEq, Int.reduceLT, Int.reduceLE, Int.reduceToNat]
    try simp
theorem copy_of (v : Val) (hv : v.keys.length * 16 ≤ 140737488355327) (h : ∀ hp m, MeetsF Try.prog 65 hp m [.ds (mapC valC v.items)] (.ds (mapC valC v.items))) (hp : CH) (m : Nat) : MeetsF Try.prog 32 hp m [vx v] (vx v) := by
  refine meetsF Try.func32 (by kernel_rfl) cc32 cr32 rfl fun hf => ?_; unfold ck32
  simp only [go_sem, ↓reduceIte, Nat.reduceEqDiff, Nat.reduceBEq, Nat.reduceAdd, Nat.reduceLeDiff, Nat.reduceLT, reduceCtorEq, Nat.reduceMul, Nat.reduceSub, Int.reduceEq, Int.reduceLT, Int.reduceLE, Int.reduceToNat]
  refine vcCall.f (h _ _) ?_
  simp only [go_sem, ↓reduceIte, Nat.reduceEqDiff, Nat.reduceBEq, Nat.reduceAdd, Nat.reduceLeDiff, Nat.reduceLT, reduceCtorEq, Nat.reduceMul, Nat.reduceSub, Int.reduceEq, Int.reduceLT, Int.reduceLE, Int.reduceToNat]
  refine vcCall.f (clone_ok v.keys hv _ _) ?_
  simp only [go_sem, ↓reduceIte, Nat.reduceEqDiff, Nat.reduceBEq, Nat.reduceAdd, Nat.reduceLeDiff, Nat.reduceLT, reduceCtorEq, Nat.reduceMul, Nat.reduceSub, Int.reduceEq, Int.reduceLT, Int.reduceLE, Int.reduceToNat]
theorem copy_ok (v : Val) (hv : v.Fit) (hp : CH) (m : Nat) : MeetsF Try.prog 32 hp m [vx v] (vx v) := by
  have := Val.ind (Q := fun v => v.Fit → ∀ hp m, MeetsF Try.prog 32 hp m [vx v] (vx v)) (fun v ih hv hp m => copy_of v hv.l (copies_ok v.items hv.i fun x hx => ih x hx (hv.x hx)) hp m) v
  exact this hv hp m
end Go.Proofs.Ythiifoleopdieaa
namespace Go.Proofs.Ythiifoleopdieaa
open Go.Eng
set_option linter.unusedVariables false
set_option linter.unusedSimpArgs false
set_option maxRecDepth 20000
theorem rcopies_ok (l : List Val) (hl : l.length * 80 ≤ 140737488355327) (h : ∀ x ∈ l, ∀ hp m, MeetsF Try.prog 34 hp m [vx x] (vx x)) (hp : CH) (m : Nat) :
    MeetsF Try.prog 67 hp m [.ds (mapC valC l)] (.ds (mapC valC l)) := by
  refine meetsF Try.func67 (by kernel_rfl) cc67 cr67 rfl fun hf => ?_; unfold ck67
  simp only [go_sem, ↓reduceIte, Nat.reduceEqDiff, Nat.reduceBEq, Nat.reduceAdd, Nat.reduceLeDiff, Nat.reduceLT, reduceCtorEq, Nat.reduceMul, Nat.reduceSub, Int.reduceEq, Int.reduceLT, Int.reduceLE, Int.reduceToNat]
  refine loop (fun p : Nat × Nat => ⟨[(3, .rw m p.1 p.1), (0, .ds (mapC valC l)), (4, .i .i64 p.1)], (m, .rw p.1 5 (mapC valC (l.take p.1))) :: hp, p.2⟩) (fun p => p.1 ≤ l.length ∧ m + 1 ≤ p.2) (fun p => l.length - p.1) (0, m + 1) ?_ ?_ (fun ⟨j, n⟩ hj => ?_)
  · grind
  · refine (weak_e0 (t := 3) (m := 5) ?_).trans (weak_ok ?_ (Sub.cons ?_ (Sub.base hf ?_)) (Nat.le_refl _))
    all_goals simp only [go_sem, ↓reduceIte, Nat.reduceEqDiff, Nat.reduceBEq, Nat.reduceAdd, Nat.reduceLeDiff, Nat.reduceLT, reduceCtorEq, Nat.reduceMul, Nat.reduceSub, Int.reduceEq, Int.reduceLT, Int.reduceLE, Int.reduceToNat]
  dsimp only at hj
  have hne : n ≠ m := by omega
  have hne' : m ≠ n := by omega
  have hmn : m ≤ n := by omega
  simp only [hne, hne', hmn, go_sem, ↓reduceIte, Nat.reduceEqDiff, Nat.reduceBEq, Nat.reduceAdd, Nat.reduceLeDiff, Nat.reduceLT, reduceCtorEq, Nat.reduceMul, Nat.reduceSub, Int.reduceEq, Int.reduceLT, Int.reduceLE, Int.reduceToNat]
  refine cdK_of (fun c => ?_) (fun c => ?_)
  · have c : j < l.length := by simpa using c
    obtain ⟨x, ex⟩ : ∃ x, l[j]? = some x := ⟨l[j], by simp [c]⟩
    have hx := h x (List.mem_of_getElem? ex)
    have ht : (l.take j).length = j := by simp; omega
    simp only [hne, hne', hmn, c, getK_s (mapC_get valC ex), go_sem, ↓reduceIte, Nat.reduceEqDiff, Nat.reduceBEq, Nat.reduceAdd, Nat.reduceLeDiff, Nat.reduceLT, reduceCtorEq, Nat.reduceMul, Nat.reduceSub, Int.reduceEq, Int.reduceLT, Int.reduceLE, Int.reduceToNat]
    refine vcCall.f (hx _ _) ?_
    simp only [hne, hne', hmn, ht, go_sem, ↓reduceIte, Nat.reduceEqDiff, Nat.reduceBEq, Nat.reduceAdd, Nat.reduceLeDiff, Nat.reduceLT, reduceCtorEq, Nat.reduceMul, Nat.reduceSub, Int.reduceEq, Int.reduceLT, Int.reduceLE, Int.reduceToNat]
    refine ⟨by omega, by omega, (j + 1, n), by dsimp only; omega, by dsimp only; omega, weak_ok ?_ (Sub.cons ?_ (Sub.base hf ?_)) (Nat.le_refl _)⟩
    all_goals
      simp only [hmn, go_sem, ↓reduceIte, Nat.reduceEqDiff, Nat.reduceBEq, Nat.reduceAdd, Nat.reduceLeDiff, Nat.reduceLT, reduceCtorEq, Nat.reduceMul, Nat.reduceSub, Int.reduceEq, Int.reduceLT, Int.reduceLE, Int.reduceToNat]
    · exact congrArg _ (wr64s j (by omega))
    · rw [take_snoc ex]
  · have c : j = l.length := by simp at c; omega
    subst c
    simp only [hne, hne', hmn, go_sem, ↓reduceIte, Nat.reduceEqDiff, Nat.reduceBEq, Nat.reduceAdd, Nat.reduceLeDiff, Nat.reduceLT, reduceCtorEq, Nat.reduceMul, Nat.reduceSub, Int.reduceEq, Int.reduceLT, Int.reduceLE, Int.reduceToNat]
    try simp
theorem rcopy_of (v : Val) (hv : v.keys.length * 16 ≤ 140737488355327) (h : ∀ hp m, MeetsF Try.prog 67 hp m [.ds (mapC valC v.items)] (.ds (mapC valC v.items))) (hp : CH) (m : Nat) : MeetsF Try.prog 34 hp m [vx v] (vx v) := by
  refine meetsF Try.func34 (by kernel_rfl) cc34 cr34 rfl fun hf => ?_; unfold ck34
  simp only [go_sem, ↓reduceIte, Nat.reduceEqDiff, Nat.reduceBEq, Nat.reduceAdd, Nat.reduceLeDiff, Nat.reduceLT, reduceCtorEq, Nat.reduceMul, Nat.reduceSub, Int.reduceEq, Int.reduceLT, Int.reduceLE, Int.reduceToNat]
  first | refine dCallR.f (fun _ _ _ => h _ _) ?_ | refine dCall.f (fun _ _ _ => h _ _) ?_
  simp only [go_sem, ↓reduceIte, Nat.reduceEqDiff, Nat.reduceBEq, Nat.reduceAdd, Nat.reduceLeDiff, Nat.reduceLT, reduceCtorEq, Nat.reduceMul, Nat.reduceSub, Int.reduceEq, Int.reduceLT, Int.reduceLE, Int.reduceToNat]
  omega
theorem rcopy_ok (v : Val) (hv : v.Fit) (hp : CH) (m : Nat) : MeetsF Try.prog 34 hp m [vx v] (vx v) := by
  have := Val.ind (Q := fun v => v.Fit → ∀ hp m, MeetsF Try.prog 34 hp m [vx v] (vx v)) (fun v ih hv hp m => rcopy_of v hv.l (rcopies_ok v.items hv.i fun x hx => ih x hx (hv.x hx)) hp m) v
  exact this hv hp m
theorem index_ok (l : List ByteArray) (k : ByteArray) (hl : l.length ≤ 9223372036854775806) (hp : CH) (m : Nat) : MeetsF Try.prog 64 hp m [.ds (stC l), .s k] (.i .i64 (ix k l 0)) := by
  refine meetsF Try.func64 (by kernel_rfl) cc64 cr64 rfl fun hf => ?_; unfold ck64
  simp only [go_sem, ↓reduceIte, Nat.reduceEqDiff, Nat.reduceBEq, Nat.reduceAdd, Nat.reduceLeDiff, Nat.reduceLT, reduceCtorEq, Nat.reduceMul, Nat.reduceSub, Int.reduceEq, Int.reduceLT, Int.reduceLE, Int.reduceToNat]
  refine loop (fun p : Nat × Nat => ⟨[(0, .ds (stC l)), (1, .s k), (7, .i .i64 l.length), (8, .i .i64 p.1)], hp, p.2⟩) (fun p => p.1 ≤ l.length ∧ ix k l 0 = ix k (l.drop p.1) p.1) (fun p => l.length - p.1) (0, m) ?_ ?_ (fun ⟨j, n⟩ hj => ?_)
  · grind
  · refine weak_ok ?_ (Sub.refl _) (Nat.le_refl _)
    simp only [go_sem, ↓reduceIte, Nat.reduceEqDiff, Nat.reduceBEq, Nat.reduceAdd, Nat.reduceLeDiff, Nat.reduceLT, reduceCtorEq, Nat.reduceMul, Nat.reduceSub, Int.reduceEq, Int.reduceLT, Int.reduceLE, Int.reduceToNat]
  dsimp only at hj
  simp only [go_sem, ↓reduceIte, Nat.reduceEqDiff, Nat.reduceBEq, Nat.reduceAdd, Nat.reduceLeDiff, Nat.reduceLT, reduceCtorEq, Nat.reduceMul, Nat.reduceSub, Int.reduceEq, Int.reduceLT, Int.reduceLE, Int.reduceToNat]
  refine cdK_of (fun c => ?_) (fun c => ?_)
  · have c : j < l.length := by simpa using c
    obtain ⟨x, ex⟩ : ∃ x, l[j]? = some x := ⟨l[j], by simp [c]⟩
    have e := drop_at ex
    rw [e, ix] at hj
    simp only [c, getK_s (mapC_get st1 ex), go_sem, ↓reduceIte, Nat.reduceEqDiff, Nat.reduceBEq, Nat.reduceAdd, Nat.reduceLeDiff, Nat.reduceLT, reduceCtorEq, Nat.reduceMul, Nat.reduceSub, Int.reduceEq, Int.reduceLT, Int.reduceLE, Int.reduceToNat]
    refine cdK_of (fun c1 => ?_) (fun c1 => ?_)
    · have c1 : k = x := by simpa using c1
      simp only [go_sem, ↓reduceIte, Nat.reduceEqDiff, Nat.reduceBEq, Nat.reduceAdd, Nat.reduceLeDiff, Nat.reduceLT, reduceCtorEq, Nat.reduceMul, Nat.reduceSub, Int.reduceEq, Int.reduceLT, Int.reduceLE, Int.reduceToNat]
      rw [hj.2, if_pos c1]
    · have c1 : ¬ k = x := by simpa using c1
      rw [if_neg c1] at hj
      simp only [go_sem, ↓reduceIte, Nat.reduceEqDiff, Nat.reduceBEq, Nat.reduceAdd, Nat.reduceLeDiff, Nat.reduceLT, reduceCtorEq, Nat.reduceMul, Nat.reduceSub, Int.reduceEq, Int.reduceLT, Int.reduceLE, Int.reduceToNat]
      refine ⟨(j + 1, n), by dsimp only; omega, by dsimp only; omega, weak_ok ?_ (Sub.refl _) (Nat.le_refl _)⟩
      simp only [wr64s j (by omega), go_sem, ↓reduceIte, Nat.reduceEqDiff, Nat.reduceBEq, Nat.reduceAdd, Nat.reduceLeDiff, Nat.reduceLT, reduceCtorEq, Nat.reduceMul, Nat.reduceSub, Int.reduceEq, Int.reduceLT, Int.reduceLE, Int.reduceToNat]
  · have c : j = l.length := by simp at c; omega
    subst c
    rw [List.drop_length, ix] at hj
    simp only [go_sem, ↓reduceIte, Nat.reduceEqDiff, Nat.reduceBEq, Nat.reduceAdd, Nat.reduceLeDiff, Nat.reduceLT, reduceCtorEq, Nat.reduceMul, Nat.reduceSub, Int.reduceEq, Int.reduceLT, Int.reduceLE, Int.reduceToNat]
    rw [hj.2]
theorem contains_ok (l : List ByteArray) (k : ByteArray) (hl : l.length ≤ 9223372036854775806) (hp : CH) (m : Nat) : MeetsF Try.prog 31 hp m [.ds (stC l), .s k] (.b (decide (0 ≤ ix k l 0))) := by
  refine meetsF Try.func31 (by kernel_rfl) cc31 cr31 rfl fun hf => ?_; unfold ck31
  simp only [go_sem, ↓reduceIte, Nat.reduceEqDiff, Nat.reduceBEq, Nat.reduceAdd, Nat.reduceLeDiff, Nat.reduceLT, reduceCtorEq, Nat.reduceMul, Nat.reduceSub, Int.reduceEq, Int.reduceLT, Int.reduceLE, Int.reduceToNat]
  refine vcCall.f (index_ok l k hl _ _) ?_
  simp only [go_sem, ↓reduceIte, Nat.reduceEqDiff, Nat.reduceBEq, Nat.reduceAdd, Nat.reduceLeDiff, Nat.reduceLT, reduceCtorEq, Nat.reduceMul, Nat.reduceSub, Int.reduceEq, Int.reduceLT, Int.reduceLE, Int.reduceToNat]
end Go.Proofs.Ythiifoleopdieaa
