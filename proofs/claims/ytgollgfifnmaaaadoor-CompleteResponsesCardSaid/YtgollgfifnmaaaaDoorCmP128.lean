/-
  The parts PkA VaB VaC VaD VaF VaH VaI VaJ of the proof, in one file. Conditions: none.
-/
import Derived.Test.YtgollgfifnmaaaaDoorCmP127
namespace Go.Proofs.YtgollgfifnmaaaaDoor
open Go.Eng
set_option linter.unusedVariables false
set_option linter.unusedSimpArgs false
set_option maxRecDepth 20000
inductive Arg where
  | mk (n : ByteArray) (v : Val)
def Arg.n : Arg → ByteArray | .mk n _ => n
theorem Arg.n_mk (n : ByteArray) (v : Val) : (Arg.mk n v).n = n := rfl
def Arg.v : Arg → Val | .mk _ v => v
theorem Arg.v_mk (n : ByteArray) (v : Val) : (Arg.mk n v).v = v := rfl
theorem Arg.ext {x y : Arg} (h0 : x.n = y.n) (h1 : x.v = y.v) : x = y := by cases x; cases y; simp only [Arg.n_mk, Arg.v_mk] at *; simp [*]
attribute [go_sem] Arg.n_mk Arg.v_mk
attribute [grind =] Arg.n_mk Arg.v_mk
attribute [ext] Arg.ext
attribute [grind ext] Arg.ext
def argC (x : Arg) : List AV := [.s x.n, .i .i64 x.v.k, .i .i64 x.v.n, .s x.v.s, .ds (mapC valC x.v.items), .ds (stC x.v.keys)]
inductive Pk where
  | mk (key on name : ByteArray) (args : List Arg) (tn : ByteArray) (tw : List Int) (label : ByteArray) (initial : Int) (picks : List Pk)
def Pk.key : Pk → ByteArray | .mk x _ _ _ _ _ _ _ _ => x
def Pk.on : Pk → ByteArray | .mk _ x _ _ _ _ _ _ _ => x
def Pk.name : Pk → ByteArray | .mk _ _ x _ _ _ _ _ _ => x
def Pk.args : Pk → List Arg | .mk _ _ _ x _ _ _ _ _ => x
def Pk.tn : Pk → ByteArray | .mk _ _ _ _ x _ _ _ _ => x
def Pk.tw : Pk → List Int | .mk _ _ _ _ _ x _ _ _ => x
def Pk.label : Pk → ByteArray | .mk _ _ _ _ _ _ x _ _ => x
def Pk.initial : Pk → Int | .mk _ _ _ _ _ _ _ x _ => x
def Pk.picks : Pk → List Pk | .mk _ _ _ _ _ _ _ _ x => x
mutual
def pkC : Pk → List AV
  | .mk k o n a tn tw l i p => [.s k, .s o, .s n, .ds (mapC argC a), .s tn, .ds (mapC in1 tw), .s l, .i .i64 i, .ds (pksC p)]
def pksC : List Pk → List (List AV)
  | [] => []
  | p :: r => pkC p :: pksC r
end
theorem pksC_eq (l : List Pk) : pksC l = mapC pkC l := by
  induction l with
  | nil => rfl
  | cons v l ih => rw [pksC, mapC_cons, ih]
theorem pkC_eq (p : Pk) : pkC p = [.s p.key, .s p.on, .s p.name, .ds (mapC argC p.args), .s p.tn, .ds (mapC in1 p.tw), .s p.label, .i .i64 p.initial, .ds (mapC pkC p.picks)] := by
  cases p
  rw [pkC, pksC_eq]
  rfl
attribute [go_sem] pkC_eq
theorem Pk.picks_lt (v x : Pk) (h : x ∈ v.picks) : SizeOf.sizeOf x < SizeOf.sizeOf v := by
  cases v
  have := List.sizeOf_lt_of_mem h
  simp only [Pk.picks] at this
  simp
  omega
theorem Pk.ind {Q : Pk → Prop} (h : ∀ v, (∀ x ∈ v.picks, Q x) → Q v) (v : Pk) : Q v := h v fun x hx => Pk.ind h x
termination_by SizeOf.sizeOf v
decreasing_by exact Pk.picks_lt v x hx
mutual
def wtK : Pk → Nat
  | .mk _ _ _ _ _ _ _ _ p => 1 + wtKs p
def wtKs : List Pk → Nat
  | [] => 0
  | p :: r => wtK p + wtKs r
end
theorem wtK_eq (p : Pk) : wtK p = 1 + wtKs p.picks := by cases p; rw [wtK]; rfl
end Go.Proofs.YtgollgfifnmaaaaDoor
namespace Go.Proofs.YtgollgfifnmaaaaDoor
open Go.Eng
set_option linter.unusedVariables false
set_option linter.unusedSimpArgs false
set_option maxRecDepth 20000
theorem clone_ok (l : List ByteArray) (h : l.length * 16 ≤ 140737488355327) (hp : CH) (m : Nat) : MeetsF Tryd.prog 66 hp m [.ds (stC l)] (.ds (stC l)) := by
  refine meetsF Tryd.func66 (by kernel_rfl) cc66 cr66 rfl fun hf => ?_; unfold ck66
  simp only [go_sem, ↓reduceIte, Nat.reduceEqDiff, Nat.reduceBEq, Nat.reduceAdd, Nat.reduceLeDiff, Nat.reduceLT, reduceCtorEq, Nat.reduceMul, Nat.reduceSub, Int.reduceEq, Int.reduceLT, Int.reduceLE, Int.reduceToNat]
  exact ⟨fun e => by rw [e], by omega, by omega⟩
theorem copies_ok (l : List Val) (hl : l.length * 80 ≤ 140737488355327) (h : ∀ x ∈ l, ∀ hp m, MeetsF Tryd.prog 45 hp m [vx x] (vx x)) (hp : CH) (m : Nat) :
    MeetsF Tryd.prog 65 hp m [.ds (mapC valC l)] (.ds (mapC valC l)) := by
  refine meetsF Tryd.func65 (by kernel_rfl) cc65 cr65 rfl fun hf => ?_; unfold ck65
  simp only [go_sem, ↓reduceIte, Nat.reduceEqDiff, Nat.reduceBEq, Nat.reduceAdd, Nat.reduceLeDiff, Nat.reduceLT, reduceCtorEq, Nat.reduceMul, Nat.reduceSub, Int.reduceEq, Int.reduceLT, Int.reduceLE, Int.reduceToNat]
  refine loop (fun p : Nat × Nat => ⟨[(3, .rw m p.1 p.1), (6, .ds (mapC valC l)), (7, .i .i64 l.length), (8, .i .i64 p.1)], (m, .rw p.1 5 (mapC valC (l.take p.1))) :: hp, p.2⟩) (fun p => p.1 ≤ l.length ∧ m + 1 ≤ p.2) (fun p => l.length - p.1) (0, m + 1) ?_ ?_ (fun ⟨j, n⟩ hj => ?_)
  · grind
  · refine (weak_e0 (t := 3) (m := 5) ?_).trans (weak_ok ?_ (Sub.cons ?_ (Sub.base hf ?_)) (Nat.le_refl _))
    all_goals simp only [go_sem, ↓reduceIte, Nat.reduceEqDiff, Nat.reduceBEq, Nat.reduceAdd, Nat.reduceLeDiff, Nat.reduceLT, reduceCtorEq, Nat.reduceMul, Nat.reduceSub, Int.reduceEq, Int.reduceLT, Int.reduceLE, Int.reduceToNat]
  dsimp only at hj
  have hne : n ≠ m := by omega
  have hne' : m ≠ n := by omega
  have hmn : m ≤ n := by omega
  simp only [hne, hne', hmn, go_sem, ↓reduceIte, Nat.reduceEqDiff, Nat.reduceBEq, Nat.reduceAdd, Nat.reduceLeDiff, Nat.reduceLT, reduceCtorEq, Nat.reduceMul, Nat.reduceSub, Int.reduceEq, Int.reduceLT, Int.reduceLE, Int.reduceToNat]
  refine cdK_of (fun c => ?_) (fun c => ?_)
  · have c : j < l.length := by simpa using c
    obtain ⟨x, ex⟩ : ∃ x, l[j]? = some x := ⟨l[j], by simp [c]⟩
    have hx := h x (List.mem_of_getElem? ex)
    have ht : (l.take j).length = j := by simp; omega
    simp only [hne, hne', hmn, c, getK_s (mapC_get valC ex), go_sem, ↓reduceIte, Nat.reduceEqDiff, Nat.reduceBEq, Nat.reduceAdd, Nat.reduceLeDiff, Nat.reduceLT, reduceCtorEq, Nat.reduceMul, Nat.reduceSub, Int.reduceEq, Int.reduceLT, Int.reduceLE, Int.reduceToNat]
    refine vcCall.f (hx _ _) ?_
    simp only [hne, hne', hmn, ht, go_sem, ↓reduceIte, Nat.reduceEqDiff, Nat.reduceBEq, Nat.reduceAdd, Nat.reduceLeDiff, Nat.reduceLT, reduceCtorEq, Nat.reduceMul, Nat.reduceSub, Int.reduceEq, Int.reduceLT, Int.reduceLE, Int.reduceToNat]
    refine ⟨by omega, by omega, (j + 1, n + 1), by dsimp only; omega, by dsimp only; omega, weak_ok ?_ (Sub.cons ?_ (Sub.base hf ?_)) (Nat.le_refl _)⟩
    all_goals
      simp only [hmn, go_sem, ↓reduceIte, Nat.reduceEqDiff, Nat.reduceBEq, Nat.reduceAdd, Nat.reduceLeDiff, Nat.reduceLT, reduceCtorEq, Nat.reduceMul, Nat.reduceSub, Int.reduceEq, Int.reduceLT, Int.reduceLE, Int.reduceToNat]
    · exact congrArg _ (wr64s j (by omega))
    · rw [take_snoc ex]
  · have c : j = l.length := by simp at c; omega
    subst c
    simp only [hne, hne', hmn, go_sem, ↓reduceIte, Nat.reduceEqDiff, Nat.reduceBEq, Nat.reduceAdd, Nat.reduceLeDiff, Nat.reduceLT, reduceCtorEq, Nat.reduceMul, Nat.reduceSub, Int.reduceEq, Int.reduceLT, Int.reduceLE, Int.reduceToNat]
    try simp
theorem copy_of (v : Val) (hv : v.keys.length * 16 ≤ 140737488355327) (h : ∀ hp m, MeetsF Tryd.prog 65 hp m [.ds (mapC valC v.items)] (.ds (mapC valC v.items))) (hp : CH) (m : Nat) : MeetsF Tryd.prog 45 hp m [vx v] (vx v) := by
  refine meetsF Tryd.func45 (by kernel_rfl) cc45 cr45 rfl fun hf => ?_; unfold ck45
  simp only [go_sem, ↓reduceIte, Nat.reduceEqDiff, Nat.reduceBEq, Nat.reduceAdd, Nat.reduceLeDiff, Nat.reduceLT, reduceCtorEq, Nat.reduceMul, Nat.reduceSub, Int.reduceEq, Int.reduceLT, Int.reduceLE, Int.reduceToNat]
  refine vcCall.f (h _ _) ?_
  simp only [go_sem, ↓reduceIte, Nat.reduceEqDiff, Nat.reduceBEq, Nat.reduceAdd, Nat.reduceLeDiff, Nat.reduceLT, reduceCtorEq, Nat.reduceMul, Nat.reduceSub, Int.reduceEq, Int.reduceLT, Int.reduceLE, Int.reduceToNat]
  refine vcCall.f (clone_ok v.keys hv _ _) ?_
  simp only [go_sem, ↓reduceIte, Nat.reduceEqDiff, Nat.reduceBEq, Nat.reduceAdd, Nat.reduceLeDiff, Nat.reduceLT, reduceCtorEq, Nat.reduceMul, Nat.reduceSub, Int.reduceEq, Int.reduceLT, Int.reduceLE, Int.reduceToNat]
theorem copy_ok (v : Val) (hv : v.Fit) (hp : CH) (m : Nat) : MeetsF Tryd.prog 45 hp m [vx v] (vx v) := by
  have := Val.ind (Q := fun v => v.Fit → ∀ hp m, MeetsF Tryd.prog 45 hp m [vx v] (vx v)) (fun v ih hv hp m => copy_of v hv.l (copies_ok v.items hv.i fun x hx => ih x hx (hv.x hx)) hp m) v
  exact this hv hp m
end Go.Proofs.YtgollgfifnmaaaaDoor
namespace Go.Proofs.YtgollgfifnmaaaaDoor
open Go.Eng
set_option linter.unusedVariables false
set_option linter.unusedSimpArgs false
set_option maxRecDepth 20000
theorem index_ok (l : List ByteArray) (k : ByteArray) (hl : l.length ≤ 9223372036854775806) (hp : CH) (m : Nat) : MeetsF Tryd.prog 96 hp m [.ds (stC l), .s k] (.i .i64 (ix k l 0)) := by
  refine meetsF Tryd.func96 (by kernel_rfl) cc96 cr96 rfl fun hf => ?_; unfold ck96
  simp only [go_sem, ↓reduceIte, Nat.reduceEqDiff, Nat.reduceBEq, Nat.reduceAdd, Nat.reduceLeDiff, Nat.reduceLT, reduceCtorEq, Nat.reduceMul, Nat.reduceSub, Int.reduceEq, Int.reduceLT, Int.reduceLE, Int.reduceToNat]
  refine loop (fun p : Nat × Nat => ⟨[(0, .ds (stC l)), (1, .s k), (7, .i .i64 l.length), (8, .i .i64 p.1)], hp, p.2⟩) (fun p => p.1 ≤ l.length ∧ ix k l 0 = ix k (l.drop p.1) p.1) (fun p => l.length - p.1) (0, m) ?_ ?_ (fun ⟨j, n⟩ hj => ?_)
  · grind
  · refine weak_ok ?_ (Sub.refl _) (Nat.le_refl _)
    simp only [go_sem, ↓reduceIte, Nat.reduceEqDiff, Nat.reduceBEq, Nat.reduceAdd, Nat.reduceLeDiff, Nat.reduceLT, reduceCtorEq, Nat.reduceMul, Nat.reduceSub, Int.reduceEq, Int.reduceLT, Int.reduceLE, Int.reduceToNat]
  dsimp only at hj
  simp only [go_sem, ↓reduceIte, Nat.reduceEqDiff, Nat.reduceBEq, Nat.reduceAdd, Nat.reduceLeDiff, Nat.reduceLT, reduceCtorEq, Nat.reduceMul, Nat.reduceSub, Int.reduceEq, Int.reduceLT, Int.reduceLE, Int.reduceToNat]
  refine cdK_of (fun c => ?_) (fun c => ?_)
  · have c : j < l.length := by simpa using c
    obtain ⟨x, ex⟩ : ∃ x, l[j]? = some x := ⟨l[j], by simp [c]⟩
    have e := drop_at ex
    rw [e, ix] at hj
    simp only [c, getK_s (mapC_get st1 ex), go_sem, ↓reduceIte, Nat.reduceEqDiff, Nat.reduceBEq, Nat.reduceAdd, Nat.reduceLeDiff, Nat.reduceLT, reduceCtorEq, Nat.reduceMul, Nat.reduceSub, Int.reduceEq, Int.reduceLT, Int.reduceLE, Int.reduceToNat]
    refine cdK_of (fun c1 => ?_) (fun c1 => ?_)
    · have c1 : k = x := by simpa using c1
      simp only [go_sem, ↓reduceIte, Nat.reduceEqDiff, Nat.reduceBEq, Nat.reduceAdd, Nat.reduceLeDiff, Nat.reduceLT, reduceCtorEq, Nat.reduceMul, Nat.reduceSub, Int.reduceEq, Int.reduceLT, Int.reduceLE, Int.reduceToNat]
      rw [hj.2, if_pos c1]
    · have c1 : ¬ k = x := by simpa using c1
      rw [if_neg c1] at hj
      simp only [go_sem, ↓reduceIte, Nat.reduceEqDiff, Nat.reduceBEq, Nat.reduceAdd, Nat.reduceLeDiff, Nat.reduceLT, reduceCtorEq, Nat.reduceMul, Nat.reduceSub, Int.reduceEq, Int.reduceLT, Int.reduceLE, Int.reduceToNat]
      refine ⟨(j + 1, n), by dsimp only; omega, by dsimp only; omega, weak_ok ?_ (Sub.refl _) (Nat.le_refl _)⟩
      simp only [wr64s j (by omega), go_sem, ↓reduceIte, Nat.reduceEqDiff, Nat.reduceBEq, Nat.reduceAdd, Nat.reduceLeDiff, Nat.reduceLT, reduceCtorEq, Nat.reduceMul, Nat.reduceSub, Int.reduceEq, Int.reduceLT, Int.reduceLE, Int.reduceToNat]
  · have c : j = l.length := by simp at c; omega
    subst c
    rw [List.drop_length, ix] at hj
    simp only [go_sem, ↓reduceIte, Nat.reduceEqDiff, Nat.reduceBEq, Nat.reduceAdd, Nat.reduceLeDiff, Nat.reduceLT, reduceCtorEq, Nat.reduceMul, Nat.reduceSub, Int.reduceEq, Int.reduceLT, Int.reduceLE, Int.reduceToNat]
    rw [hj.2]
theorem contains_ok (l : List ByteArray) (k : ByteArray) (hl : l.length ≤ 9223372036854775806) (hp : CH) (m : Nat) : MeetsF Tryd.prog 86 hp m [.ds (stC l), .s k] (.b (decide (0 ≤ ix k l 0))) := by
  refine meetsF Tryd.func86 (by kernel_rfl) cc86 cr86 rfl fun hf => ?_; unfold ck86
  simp only [go_sem, ↓reduceIte, Nat.reduceEqDiff, Nat.reduceBEq, Nat.reduceAdd, Nat.reduceLeDiff, Nat.reduceLT, reduceCtorEq, Nat.reduceMul, Nat.reduceSub, Int.reduceEq, Int.reduceLT, Int.reduceLE, Int.reduceToNat]
  refine vcCall.f (index_ok l k hl _ _) ?_
  simp only [go_sem, ↓reduceIte, Nat.reduceEqDiff, Nat.reduceBEq, Nat.reduceAdd, Nat.reduceLeDiff, Nat.reduceLT, reduceCtorEq, Nat.reduceMul, Nat.reduceSub, Int.reduceEq, Int.reduceLT, Int.reduceLE, Int.reduceToNat]
end Go.Proofs.YtgollgfifnmaaaaDoor
namespace Go.Proofs.YtgollgfifnmaaaaDoor
open Go.Eng
set_option linter.unusedVariables false
set_option linter.unusedSimpArgs false
set_option maxRecDepth 20000
mutual
def szV : Val → Int
  | .mk _ _ _ i _ => szL i 1
def szL : List Val → Int → Int
  | [], n => n
  | x :: r, n => szL r (IntKind.i64.wrap (n + szV x))
end
def ci (a b : Int) : Int := if a < b then -1 else if b < a then 1 else 0
def cs (a b : ByteArray) : Int := if Op.bytesLess a.toList b.toList = true then -1 else if (!(Op.bytesLess a.toList b.toList || decide (a = b))) = true then 1 else 0
end Go.Proofs.YtgollgfifnmaaaaDoor
namespace Go.Proofs.YtgollgfifnmaaaaDoor
open Go.Eng
set_option linter.unusedVariables false
set_option linter.unusedSimpArgs false
set_option maxRecDepth 20000
def chL (c : Int) : Bool := decide (65 ≤ c) && decide (c ≤ 90) || decide (97 ≤ c) && decide (c ≤ 122) || decide (c = 95)
def chD (c : Int) : Bool := decide (48 ≤ c) && decide (c ≤ 57)
def nmL (l : List UInt8) : Bool := l.all fun c => chL c.toNat || chD c.toNat
/-- A name. -/
def nmS (s : ByteArray) : Bool := decide (0 < s.size) && decide (s.size ≤ 64) && !chD ((bs s).getD 0 0).toNat && nmL (bs s)
end Go.Proofs.YtgollgfifnmaaaaDoor
namespace Go.Proofs.YtgollgfifnmaaaaDoor
open Go.Eng
set_option linter.unusedVariables false
set_option linter.unusedSimpArgs false
set_option maxRecDepth 20000
def fidx {α : Type} (q : α → Bool) : List α → Nat → Int
  | [], _ => -1
  | x :: r, j => if q x = true then j else fidx q r (j + 1)
theorem fidx_any {α : Type} (q : α → Bool) : ∀ (l : List α) (j : Nat), decide (0 ≤ fidx q l j) = l.any q
  | [], j => rfl
  | x :: r, j => by
    rw [fidx, List.any_cons]
    cases h : q x
    · rw [if_neg (by simp), fidx_any q r (j + 1), Bool.false_or]
    · rw [if_pos rfl]; simp
attribute [go_sem] st1
abbrev sx (s : ByteArray) : AV := .s s
/-- Whether a string occurs twice. -/
noncomputable def tw (l : List ByteArray) : Bool := !decide l.Nodup
end Go.Proofs.YtgollgfifnmaaaaDoor
namespace Go.Proofs.YtgollgfifnmaaaaDoor
open Go.Eng
set_option linter.unusedVariables false
set_option linter.unusedSimpArgs false
set_option maxRecDepth 20000
mutual
def dpV : Val → Int
  | .mk _ _ _ i _ => IntKind.i64.wrap (dpL i 0 + 1)
def dpL : List Val → Int → Int
  | [], n => n
  | x :: r, n => dpL r (if n < dpV x then dpV x else n)
end
/-- A node that is right apart from its items. -/
noncomputable def nodeV (v : Val) (lit : Bool) : Bool :=
  if v.k = 0 then decide (v.n = 0) && decide (v.s = ⟨#[]⟩) && decide ((v.items.length : Int) = 0) && decide ((v.keys.length : Int) = 0)
  else if v.k = 1 then (decide (v.n = 0) || decide (v.n = 1)) && decide (v.s = ⟨#[]⟩) && decide ((v.items.length : Int) = 0) && decide ((v.keys.length : Int) = 0)
  else if v.k = 2 then decide (v.s = ⟨#[]⟩) && decide ((v.items.length : Int) = 0) && decide ((v.keys.length : Int) = 0)
  else if v.k = 3 then decide (v.n = 0) && decide ((v.items.length : Int) = 0) && decide ((v.keys.length : Int) = 0)
  else if v.k = 4 then decide (v.n = 0) && decide ((v.items.length : Int) = 0) && decide ((v.keys.length : Int) = 0) && nmS v.s && !decide (v.s = ⟨#[116, 114, 117, 101]⟩) && !decide (v.s = ⟨#[102, 97, 108, 115, 101]⟩) && !decide (v.s = ⟨#[110, 117, 108, 108]⟩)
  else if v.k = 5 then decide (v.n = 0) && decide (v.s = ⟨#[]⟩) && decide ((v.keys.length : Int) = 0)
  else if v.k = 6 then decide (v.n = 0) && decide (v.s = ⟨#[]⟩) && decide ((v.keys.length : Int) = v.items.length) && !tw v.keys
  else if v.k = 7 then lit && decide (v.n = 0) && decide ((v.items.length : Int) = 0) && decide ((v.keys.length : Int) = 0) && nmS v.s
  else false
/-- A node with keys that are names, if it is a literal's. -/
noncomputable def nodeW (v : Val) (lit : Bool) : Bool := nodeV v lit && !(lit && v.keys.any fun k => !nmS k)
end Go.Proofs.YtgollgfifnmaaaaDoor
namespace Go.Proofs.YtgollgfifnmaaaaDoor
open Go.Eng
set_option linter.unusedVariables false
set_option linter.unusedSimpArgs false
set_option maxRecDepth 20000
mutual
noncomputable def evV (lit : Bool) : Val → Bool
  | .mk k n s i l => nodeW (.mk k n s i l) lit && evL lit i
noncomputable def evL (lit : Bool) : List Val → Bool
  | [] => true
  | x :: r => evV lit x && evL lit r
end
/-- A right value. -/
noncomputable def rightV (lit : Bool) (v : Val) : Bool := decide (szV v ≤ 4096) && decide (dpV v ≤ 24) && evV lit v
end Go.Proofs.YtgollgfifnmaaaaDoor
