/-
  The parts PkA of the proof, in one file. Conditions: none.
-/
import Derived.Test.YtmcgjccheehehaaQst27
namespace Go.Proofs.Ytmcgjccheehehaa
open Go.Eng
set_option linter.unusedVariables false
set_option linter.unusedSimpArgs false
set_option maxRecDepth 20000
inductive Arg where
  | mk (n : ByteArray) (v : Val)
def Arg.n : Arg → ByteArray | .mk n _ => n
theorem Arg.n_mk (n : ByteArray) (v : Val) : (Arg.mk n v).n = n := rfl
def Arg.v : Arg → Val | .mk _ v => v
theorem Arg.v_mk (n : ByteArray) (v : Val) : (Arg.mk n v).v = v := rfl
theorem Arg.eta (x : Arg) : Arg.mk x.n x.v = x := by cases x; rfl
theorem Arg.ext {x y : Arg} (h0 : x.n = y.n) (h1 : x.v = y.v) : x = y := by cases x; cases y; simp only [Arg.n_mk, Arg.v_mk] at *; simp [*]
attribute [go_sem] Arg.n_mk Arg.v_mk
attribute [grind =] Arg.n_mk Arg.v_mk
attribute [ext] Arg.ext
attribute [grind ext] Arg.ext
def argC (x : Arg) : List AV := [.s x.n, .i .i64 x.v.k, .i .i64 x.v.n, .s x.v.s, .ds (mapC valC x.v.items), .ds (stC x.v.keys)]
inductive Pk where
  | mk (key on name : ByteArray) (args : List Arg) (tn : ByteArray) (tw : List Int) (label : ByteArray) (initial : Int) (picks : List Pk)
def Pk.key : Pk → ByteArray | .mk x _ _ _ _ _ _ _ _ => x
def Pk.on : Pk → ByteArray | .mk _ x _ _ _ _ _ _ _ => x
def Pk.name : Pk → ByteArray | .mk _ _ x _ _ _ _ _ _ => x
def Pk.args : Pk → List Arg | .mk _ _ _ x _ _ _ _ _ => x
def Pk.tn : Pk → ByteArray | .mk _ _ _ _ x _ _ _ _ => x
def Pk.tw : Pk → List Int | .mk _ _ _ _ _ x _ _ _ => x
def Pk.label : Pk → ByteArray | .mk _ _ _ _ _ _ x _ _ => x
def Pk.initial : Pk → Int | .mk _ _ _ _ _ _ _ x _ => x
def Pk.picks : Pk → List Pk | .mk _ _ _ _ _ _ _ _ x => x
mutual
def pkC : Pk → List AV
  | .mk k o n a tn tw l i p => [.s k, .s o, .s n, .ds (mapC argC a), .s tn, .ds (mapC in1 tw), .s l, .i .i64 i, .ds (pksC p)]
def pksC : List Pk → List (List AV)
  | [] => []
  | p :: r => pkC p :: pksC r
end
theorem pksC_eq (l : List Pk) : pksC l = mapC pkC l := by
  induction l with
  | nil => rfl
  | cons v l ih => rw [pksC, mapC_cons, ih]
theorem pkC_eq (p : Pk) : pkC p = [.s p.key, .s p.on, .s p.name, .ds (mapC argC p.args), .s p.tn, .ds (mapC in1 p.tw), .s p.label, .i .i64 p.initial, .ds (mapC pkC p.picks)] := by
  cases p
  rw [pkC, pksC_eq]
  rfl
attribute [go_sem] pkC_eq
theorem Pk.picks_lt (v x : Pk) (h : x ∈ v.picks) : SizeOf.sizeOf x < SizeOf.sizeOf v := by
  cases v
  have := List.sizeOf_lt_of_mem h
  simp only [Pk.picks] at this
  simp
  omega
theorem Pk.ind {Q : Pk → Prop} (h : ∀ v, (∀ x ∈ v.picks, Q x) → Q v) (v : Pk) : Q v := h v fun x hx => Pk.ind h x
termination_by SizeOf.sizeOf v
decreasing_by exact Pk.picks_lt v x hx
mutual
def wtK : Pk → Nat
  | .mk _ _ _ _ _ _ _ _ p => 1 + wtKs p
def wtKs : List Pk → Nat
  | [] => 0
  | p :: r => wtK p + wtKs r
end
theorem wtK_eq (p : Pk) : wtK p = 1 + wtKs p.picks := by cases p; rw [wtK]; rfl
theorem wtKs_mem {x : Pk} : ∀ {l : List Pk}, x ∈ l → wtK x ≤ wtKs l
  | y :: r, h => by
    rw [wtKs]
    rcases List.mem_cons.1 h with rfl | h
    · omega
    · have := wtKs_mem h
      omega
theorem wtKs_len : ∀ l : List Pk, l.length ≤ wtKs l
  | [] => by simp
  | y :: r => by
    have := wtKs_len r
    have := wtK_eq y
    rw [wtKs]
    simp
    omega
end Go.Proofs.Ytmcgjccheehehaa
