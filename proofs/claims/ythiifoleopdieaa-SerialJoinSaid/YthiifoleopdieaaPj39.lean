/-
  The parts IdP of the proof, in one file. Conditions: none.
-/
import Derived.Lib.ItoaLen
import Derived.Lib.Join
import Derived.Test.YthiifoleopdieaaPj38
namespace Go.Proofs.Ythiifoleopdieaa
open Go.Eng
set_option linter.unusedVariables false
set_option linter.unusedSimpArgs false
set_option maxRecDepth 20000
inductive Jn where
  | mk (t : ByteArray) (f : ByteArray) (g : Int) (x : Bool) (req : List ByteArray) (prov : List ByteArray)
def Jn.t : Jn → ByteArray | .mk t _ _ _ _ _ => t
theorem Jn.t_mk (t : ByteArray) (f : ByteArray) (g : Int) (x : Bool) (req : List ByteArray) (prov : List ByteArray) : (Jn.mk t f g x req prov).t = t := rfl
def Jn.f : Jn → ByteArray | .mk _ f _ _ _ _ => f
theorem Jn.f_mk (t : ByteArray) (f : ByteArray) (g : Int) (x : Bool) (req : List ByteArray) (prov : List ByteArray) : (Jn.mk t f g x req prov).f = f := rfl
def Jn.g : Jn → Int | .mk _ _ g _ _ _ => g
theorem Jn.g_mk (t : ByteArray) (f : ByteArray) (g : Int) (x : Bool) (req : List ByteArray) (prov : List ByteArray) : (Jn.mk t f g x req prov).g = g := rfl
def Jn.x : Jn → Bool | .mk _ _ _ x _ _ => x
theorem Jn.x_mk (t : ByteArray) (f : ByteArray) (g : Int) (x : Bool) (req : List ByteArray) (prov : List ByteArray) : (Jn.mk t f g x req prov).x = x := rfl
def Jn.req : Jn → List ByteArray | .mk _ _ _ _ req _ => req
theorem Jn.req_mk (t : ByteArray) (f : ByteArray) (g : Int) (x : Bool) (req : List ByteArray) (prov : List ByteArray) : (Jn.mk t f g x req prov).req = req := rfl
def Jn.prov : Jn → List ByteArray | .mk _ _ _ _ _ prov => prov
theorem Jn.prov_mk (t : ByteArray) (f : ByteArray) (g : Int) (x : Bool) (req : List ByteArray) (prov : List ByteArray) : (Jn.mk t f g x req prov).prov = prov := rfl
theorem Jn.eta (x : Jn) : Jn.mk x.t x.f x.g x.x x.req x.prov = x := by cases x; rfl
theorem Jn.ext {x y : Jn} (h0 : x.t = y.t) (h1 : x.f = y.f) (h2 : x.g = y.g) (h3 : x.x = y.x) (h4 : x.req = y.req) (h5 : x.prov = y.prov) : x = y := by cases x; cases y; simp only [Jn.t_mk, Jn.f_mk, Jn.g_mk, Jn.x_mk, Jn.req_mk, Jn.prov_mk] at *; simp [*]
attribute [go_sem] Jn.t_mk Jn.f_mk Jn.g_mk Jn.x_mk Jn.req_mk Jn.prov_mk
attribute [grind =] Jn.t_mk Jn.f_mk Jn.g_mk Jn.x_mk Jn.req_mk Jn.prov_mk
attribute [ext] Jn.ext
attribute [grind ext] Jn.ext
inductive Fld where
  | mk (n : ByteArray) (args : List (List AV)) (tn : ByteArray) (tw : List (List AV)) (dirs : List (List AV))
def Fld.n : Fld → ByteArray | .mk n _ _ _ _ => n
theorem Fld.n_mk (n : ByteArray) (args : List (List AV)) (tn : ByteArray) (tw : List (List AV)) (dirs : List (List AV)) : (Fld.mk n args tn tw dirs).n = n := rfl
def Fld.args : Fld → List (List AV) | .mk _ args _ _ _ => args
theorem Fld.args_mk (n : ByteArray) (args : List (List AV)) (tn : ByteArray) (tw : List (List AV)) (dirs : List (List AV)) : (Fld.mk n args tn tw dirs).args = args := rfl
def Fld.tn : Fld → ByteArray | .mk _ _ tn _ _ => tn
theorem Fld.tn_mk (n : ByteArray) (args : List (List AV)) (tn : ByteArray) (tw : List (List AV)) (dirs : List (List AV)) : (Fld.mk n args tn tw dirs).tn = tn := rfl
def Fld.tw : Fld → List (List AV) | .mk _ _ _ tw _ => tw
theorem Fld.tw_mk (n : ByteArray) (args : List (List AV)) (tn : ByteArray) (tw : List (List AV)) (dirs : List (List AV)) : (Fld.mk n args tn tw dirs).tw = tw := rfl
def Fld.dirs : Fld → List (List AV) | .mk _ _ _ _ dirs => dirs
theorem Fld.dirs_mk (n : ByteArray) (args : List (List AV)) (tn : ByteArray) (tw : List (List AV)) (dirs : List (List AV)) : (Fld.mk n args tn tw dirs).dirs = dirs := rfl
theorem Fld.eta (x : Fld) : Fld.mk x.n x.args x.tn x.tw x.dirs = x := by cases x; rfl
theorem Fld.ext {x y : Fld} (h0 : x.n = y.n) (h1 : x.args = y.args) (h2 : x.tn = y.tn) (h3 : x.tw = y.tw) (h4 : x.dirs = y.dirs) : x = y := by cases x; cases y; simp only [Fld.n_mk, Fld.args_mk, Fld.tn_mk, Fld.tw_mk, Fld.dirs_mk] at *; simp [*]
attribute [go_sem] Fld.n_mk Fld.args_mk Fld.tn_mk Fld.tw_mk Fld.dirs_mk
attribute [grind =] Fld.n_mk Fld.args_mk Fld.tn_mk Fld.tw_mk Fld.dirs_mk
attribute [ext] Fld.ext
attribute [grind ext] Fld.ext
inductive Dfn where
  | mk (k : Int) (n : ByteArray) (impl : List (List AV)) (dirs : List (List AV)) (fields : List Fld) (members : List (List AV)) (inputs : List (List AV))
def Dfn.k : Dfn → Int | .mk k _ _ _ _ _ _ => k
theorem Dfn.k_mk (k : Int) (n : ByteArray) (impl : List (List AV)) (dirs : List (List AV)) (fields : List Fld) (members : List (List AV)) (inputs : List (List AV)) : (Dfn.mk k n impl dirs fields members inputs).k = k := rfl
def Dfn.n : Dfn → ByteArray | .mk _ n _ _ _ _ _ => n
theorem Dfn.n_mk (k : Int) (n : ByteArray) (impl : List (List AV)) (dirs : List (List AV)) (fields : List Fld) (members : List (List AV)) (inputs : List (List AV)) : (Dfn.mk k n impl dirs fields members inputs).n = n := rfl
def Dfn.impl : Dfn → List (List AV) | .mk _ _ impl _ _ _ _ => impl
theorem Dfn.impl_mk (k : Int) (n : ByteArray) (impl : List (List AV)) (dirs : List (List AV)) (fields : List Fld) (members : List (List AV)) (inputs : List (List AV)) : (Dfn.mk k n impl dirs fields members inputs).impl = impl := rfl
def Dfn.dirs : Dfn → List (List AV) | .mk _ _ _ dirs _ _ _ => dirs
theorem Dfn.dirs_mk (k : Int) (n : ByteArray) (impl : List (List AV)) (dirs : List (List AV)) (fields : List Fld) (members : List (List AV)) (inputs : List (List AV)) : (Dfn.mk k n impl dirs fields members inputs).dirs = dirs := rfl
def Dfn.fields : Dfn → List Fld | .mk _ _ _ _ fields _ _ => fields
theorem Dfn.fields_mk (k : Int) (n : ByteArray) (impl : List (List AV)) (dirs : List (List AV)) (fields : List Fld) (members : List (List AV)) (inputs : List (List AV)) : (Dfn.mk k n impl dirs fields members inputs).fields = fields := rfl
def Dfn.members : Dfn → List (List AV) | .mk _ _ _ _ _ members _ => members
theorem Dfn.members_mk (k : Int) (n : ByteArray) (impl : List (List AV)) (dirs : List (List AV)) (fields : List Fld) (members : List (List AV)) (inputs : List (List AV)) : (Dfn.mk k n impl dirs fields members inputs).members = members := rfl
def Dfn.inputs : Dfn → List (List AV) | .mk _ _ _ _ _ _ inputs => inputs
theorem Dfn.inputs_mk (k : Int) (n : ByteArray) (impl : List (List AV)) (dirs : List (List AV)) (fields : List Fld) (members : List (List AV)) (inputs : List (List AV)) : (Dfn.mk k n impl dirs fields members inputs).inputs = inputs := rfl
theorem Dfn.eta (x : Dfn) : Dfn.mk x.k x.n x.impl x.dirs x.fields x.members x.inputs = x := by cases x; rfl
theorem Dfn.ext {x y : Dfn} (h0 : x.k = y.k) (h1 : x.n = y.n) (h2 : x.impl = y.impl) (h3 : x.dirs = y.dirs) (h4 : x.fields = y.fields) (h5 : x.members = y.members) (h6 : x.inputs = y.inputs) : x = y := by cases x; cases y; simp only [Dfn.k_mk, Dfn.n_mk, Dfn.impl_mk, Dfn.dirs_mk, Dfn.fields_mk, Dfn.members_mk, Dfn.inputs_mk] at *; simp [*]
attribute [go_sem] Dfn.k_mk Dfn.n_mk Dfn.impl_mk Dfn.dirs_mk Dfn.fields_mk Dfn.members_mk Dfn.inputs_mk
attribute [grind =] Dfn.k_mk Dfn.n_mk Dfn.impl_mk Dfn.dirs_mk Dfn.fields_mk Dfn.members_mk Dfn.inputs_mk
attribute [ext] Dfn.ext
attribute [grind ext] Dfn.ext
inductive Sup where
  | mk (g : List ByteArray) (doc : List Dfn) (keys : List Ky) (joins : List Jn)
def Sup.g : Sup → List ByteArray | .mk g _ _ _ => g
theorem Sup.g_mk (g : List ByteArray) (doc : List Dfn) (keys : List Ky) (joins : List Jn) : (Sup.mk g doc keys joins).g = g := rfl
def Sup.doc : Sup → List Dfn | .mk _ doc _ _ => doc
theorem Sup.doc_mk (g : List ByteArray) (doc : List Dfn) (keys : List Ky) (joins : List Jn) : (Sup.mk g doc keys joins).doc = doc := rfl
def Sup.keys : Sup → List Ky | .mk _ _ keys _ => keys
theorem Sup.keys_mk (g : List ByteArray) (doc : List Dfn) (keys : List Ky) (joins : List Jn) : (Sup.mk g doc keys joins).keys = keys := rfl
def Sup.joins : Sup → List Jn | .mk _ _ _ joins => joins
theorem Sup.joins_mk (g : List ByteArray) (doc : List Dfn) (keys : List Ky) (joins : List Jn) : (Sup.mk g doc keys joins).joins = joins := rfl
theorem Sup.eta (x : Sup) : Sup.mk x.g x.doc x.keys x.joins = x := by cases x; rfl
theorem Sup.ext {x y : Sup} (h0 : x.g = y.g) (h1 : x.doc = y.doc) (h2 : x.keys = y.keys) (h3 : x.joins = y.joins) : x = y := by cases x; cases y; simp only [Sup.g_mk, Sup.doc_mk, Sup.keys_mk, Sup.joins_mk] at *; simp [*]
attribute [go_sem] Sup.g_mk Sup.doc_mk Sup.keys_mk Sup.joins_mk
attribute [grind =] Sup.g_mk Sup.doc_mk Sup.keys_mk Sup.joins_mk
attribute [ext] Sup.ext
attribute [grind ext] Sup.ext
abbrev pkx (p : Pk) : AV := .ag [.s p.key, .s p.on, .s p.name, .ds (mapC argC p.args), .s p.tn, .ds (mapC in1 p.tw), .s p.label, .i .i64 p.initial, .ds (mapC pkC p.picks)]
attribute [go_sem] argC
/-- All numbers are of 64 bits. -/
inductive Val.Rng : Val → Prop
  | mk (v : Val) : -9223372036854775808 ≤ v.n → v.n ≤ 9223372036854775807 → (∀ x ∈ v.items, Val.Rng x) → Val.Rng v
theorem Val.Rng.l {v : Val} (h : v.Rng) : -9223372036854775808 ≤ v.n := by cases h; assumption
theorem Val.Rng.u {v : Val} (h : v.Rng) : v.n ≤ 9223372036854775807 := by cases h; assumption
theorem Val.Rng.x {v : Val} (h : v.Rng) {x : Val} (hx : x ∈ v.items) : x.Rng := by cases h with | mk _ _ _ h => exact h x hx
end Go.Proofs.Ythiifoleopdieaa
