/- Proof. Conditions: none. -/
import Derived.Test.YthiifoleopdieaaGreatDoorIt30
open List renaming length_nil→zle
namespace Go.Proofs.YthiifoleopdieaaGreatDoor
open Go.Eng
set_option linter.all false
set_option maxRecDepth 20000
theorem s_cat (a b:List UInt8) (h:a.length+b.length≤9223372036854775807):((ofL a).size+(ofL b).size≤9223372036854775807)=True:=eq_true (by rw [ofL_size,ofL_size];exact h)
theorem w01:IntKind.i64.wrap ((0:Int)+1)=1:=wr64 (by omega)
theorem litS (l:List UInt8):l.toArray.size=l.length:=by simp
structure VOk (v:Val):Prop where
 f:v.Fit
 r:v.Rng
 b:avL (valC v)≤1000000000
theorem VOk.x {v:Val} (h:VOk v) {x:Val} (hx:x∈v.items):VOk x:=by
 have h1:=h.b
 have h2:avL (valC x)≤avLL (mapC valC v.items):=avLL_in (List.mem_map_of_mem (f:=valC) hx)
 rw [avL_val] at h1
 exact ⟨h.f.x hx,h.r.x hx,by omega⟩
theorem args_len:∀(l:List Arg),(∀a∈l,VOk a.v)→jnB (l.map argL)≤32*avLL (mapC argC l)
 | [],_=>by simp [jnB]
 | a::l,h=>by
  have h1:=wrtV_len a.v (h a (by simp)).r
  have h2:=args_len l fun y hy=>h y (by simp [hy])
  have h3:(argL a).length=a.n.size+2+(wrtV a.v).length:=by simp [argL,fieldL,bs_len];omega
  have h4:avL (argC a)=a.n.size+1+avL (valC a.v):=by
   rw [valC_eq]
   simp only [argC,avL,avw]
  rw [List.map_cons,jnB_cons,mapC_cons,avLL_cons,h3,h4]
  omega
end Go.Proofs.YthiifoleopdieaaGreatDoor
namespace Go.Proofs.YthiifoleopdieaaGreatDoor
open Go.Eng
set_option linter.all false
set_option maxRecDepth 20000
theorem prnV_len (v:Val) (hr:v.Rng):(prnV v).length+8≤32*avL (valC v):=by
 have h1:=itoa_len v.n hr.l hr.u
 have h2:=quoL_len v.s
 rw [avL_val]
 unfold prnV
 repeat' split
 all_goals try simp only [List.length_cons,List.length_append,zle]
 all_goals omega
theorem prn_len:∀(l:List Val),(∀v∈l,v.Rng)→jnB (l.map prnV)≤32*avLL (mapC valC l)
 | [],_=>by simp [jnB]
 | x::i,h=>by
  have h1:=prnV_len x (h x (by simp))
  have h2:=prn_len i fun y hy=>h y (by simp [hy])
  rw [List.map_cons,jnB_cons,mapC_cons,avLL_cons]
  omega
theorem jc_le:∀xs:List (List UInt8),(jc xs).length≤jnB xs
 | []=>by simp [jc_nil]
 | [x]=>by rw [jc_one,jnB_cons];omega
 | x::y::r=>by
  have ih:=jc_le (y::r)
  have e:jc (x::y::r)=x++([44]++jc (y::r)):=by simp [jc,Lib.join,List.intercalate]
  rw [e,jnB_cons]
  simp only [List.length_append,List.length_cons,zle]
  omega
theorem jc_at {α:Type} (f:α→List UInt8) {l:List α} {j:Nat} {x:α} (h:l[j]?=some x) (hj:0<j):jc ((l.take (j+1)).map f)=jc ((l.take j).map f)++44::f x:=by
 have hl:=(List.getElem?_eq_some_iff.1 h).1
 rw [←take_snoc h,List.map_append,List.map_cons,List.map_nil,jc_snoc]
 ·rfl
 intro e
 have:=congrArg List.length e
 rw [List.length_map,List.length_take,zle] at this
 omega
theorem jc_0 {α:Type} (f:α→List UInt8) {l:List α} {x:α} (h:l[0]?=some x):jc ((l.take 1).map f)=f x:=by
 rw [←take_snoc h]
 simp [jc_one]
theorem jc_len_take {α:Type} (f:α→List UInt8) (l:List α) (j:Nat):(jc ((l.take j).map f)).length≤jnB (l.map f):=by
 have h1:=jc_le ((l.take j).map f)
 rw [List.map_take] at h1
 have h2:=jnB_take (l.map f) j
 rw [List.map_take]
 omega
structure LOk (v:Val):Prop where
 r:v.Rng
 l:0≤v.k
 u:v.k≤4
 s:v.s.size≤1000000000
end Go.Proofs.YthiifoleopdieaaGreatDoor
