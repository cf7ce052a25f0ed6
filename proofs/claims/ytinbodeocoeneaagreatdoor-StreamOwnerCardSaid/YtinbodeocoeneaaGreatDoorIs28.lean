/- Proof. Conditions: none. -/
import Derived.Lib.ItoaLen
import Derived.Lib.Join
import Derived.Test.YtinbodeocoeneaaGreatDoorIs27
open List renaming length_cons→zlc,length_append→zld,length_nil→zle,map_cons→zln
namespace Go.Proofs.YtinbodeocoeneaaGreatDoor
open Go.Eng
set_option linter.all false
set_option maxRecDepth 20000
theorem ite_ne {α:Type} {k j:Nat} (h:¬k=j) (a b:α):(if k=j then a else b)=b:=if_neg h
inductive Jn where
 | mk (t:ByteArray) (f:ByteArray) (g:Int) (x:Bool) (req:List ByteArray) (prov:List ByteArray)
def Jn.t:Jn→ByteArray | .mk t _ _ _ _ _=>t
theorem Jn.t_mk (t:ByteArray) (f:ByteArray) (g:Int) (x:Bool) (req:List ByteArray) (prov:List ByteArray):(Jn.mk t f g x req prov).t=t:=rfl
def Jn.f:Jn→ByteArray | .mk _ f _ _ _ _=>f
theorem Jn.f_mk (t:ByteArray) (f:ByteArray) (g:Int) (x:Bool) (req:List ByteArray) (prov:List ByteArray):(Jn.mk t f g x req prov).f=f:=rfl
def Jn.g:Jn→Int | .mk _ _ g _ _ _=>g
theorem Jn.g_mk (t:ByteArray) (f:ByteArray) (g:Int) (x:Bool) (req:List ByteArray) (prov:List ByteArray):(Jn.mk t f g x req prov).g=g:=rfl
def Jn.x:Jn→Bool | .mk _ _ _ x _ _=>x
theorem Jn.x_mk (t:ByteArray) (f:ByteArray) (g:Int) (x:Bool) (req:List ByteArray) (prov:List ByteArray):(Jn.mk t f g x req prov).x=x:=rfl
def Jn.req:Jn→List ByteArray | .mk _ _ _ _ req _=>req
theorem Jn.req_mk (t:ByteArray) (f:ByteArray) (g:Int) (x:Bool) (req:List ByteArray) (prov:List ByteArray):(Jn.mk t f g x req prov).req=req:=rfl
def Jn.prov:Jn→List ByteArray | .mk _ _ _ _ _ prov=>prov
theorem Jn.prov_mk (t:ByteArray) (f:ByteArray) (g:Int) (x:Bool) (req:List ByteArray) (prov:List ByteArray):(Jn.mk t f g x req prov).prov=prov:=rfl
theorem Jn.eta (x:Jn):Jn.mk x.t x.f x.g x.x x.req x.prov=x:=by cases x;rfl
theorem Jn.ext {x y:Jn} (h0:x.t=y.t) (h1:x.f=y.f) (h2:x.g=y.g) (h3:x.x=y.x) (h4:x.req=y.req) (h5:x.prov=y.prov):x=y:=by cases x;cases y;simp only [Jn.t_mk,Jn.f_mk,Jn.g_mk,Jn.x_mk,Jn.req_mk,Jn.prov_mk] at *;simp [*]
def jnC (x:Jn):List AV:=[.s x.t,.s x.f,.i .i64 x.g,.b x.x,.ds (stC x.req),.ds (stC x.prov)]
attribute [go_sem] jnC Jn.t_mk Jn.f_mk Jn.g_mk Jn.x_mk Jn.req_mk Jn.prov_mk
attribute [grind =] Jn.t_mk Jn.f_mk Jn.g_mk Jn.x_mk Jn.req_mk Jn.prov_mk
attribute [ext] Jn.ext
attribute [grind ext] Jn.ext
inductive Fld where
 | mk (n:ByteArray) (args:List (List AV)) (tn:ByteArray) (tw:List (List AV)) (dirs:List (List AV))
def Fld.n:Fld→ByteArray | .mk n _ _ _ _=>n
theorem Fld.n_mk (n:ByteArray) (args:List (List AV)) (tn:ByteArray) (tw:List (List AV)) (dirs:List (List AV)):(Fld.mk n args tn tw dirs).n=n:=rfl
def Fld.args:Fld→List (List AV) | .mk _ args _ _ _=>args
theorem Fld.args_mk (n:ByteArray) (args:List (List AV)) (tn:ByteArray) (tw:List (List AV)) (dirs:List (List AV)):(Fld.mk n args tn tw dirs).args=args:=rfl
def Fld.tn:Fld→ByteArray | .mk _ _ tn _ _=>tn
theorem Fld.tn_mk (n:ByteArray) (args:List (List AV)) (tn:ByteArray) (tw:List (List AV)) (dirs:List (List AV)):(Fld.mk n args tn tw dirs).tn=tn:=rfl
def Fld.tw:Fld→List (List AV) | .mk _ _ _ tw _=>tw
theorem Fld.tw_mk (n:ByteArray) (args:List (List AV)) (tn:ByteArray) (tw:List (List AV)) (dirs:List (List AV)):(Fld.mk n args tn tw dirs).tw=tw:=rfl
def Fld.dirs:Fld→List (List AV) | .mk _ _ _ _ dirs=>dirs
theorem Fld.dirs_mk (n:ByteArray) (args:List (List AV)) (tn:ByteArray) (tw:List (List AV)) (dirs:List (List AV)):(Fld.mk n args tn tw dirs).dirs=dirs:=rfl
theorem Fld.eta (x:Fld):Fld.mk x.n x.args x.tn x.tw x.dirs=x:=by cases x;rfl
theorem Fld.ext {x y:Fld} (h0:x.n=y.n) (h1:x.args=y.args) (h2:x.tn=y.tn) (h3:x.tw=y.tw) (h4:x.dirs=y.dirs):x=y:=by cases x;cases y;simp only [Fld.n_mk,Fld.args_mk,Fld.tn_mk,Fld.tw_mk,Fld.dirs_mk] at *;simp [*]
def fldC (x:Fld):List AV:=[.s x.n,.ds x.args,.s x.tn,.ds x.tw,.ds x.dirs]
attribute [go_sem] fldC Fld.n_mk Fld.args_mk Fld.tn_mk Fld.tw_mk Fld.dirs_mk
attribute [grind =] Fld.n_mk Fld.args_mk Fld.tn_mk Fld.tw_mk Fld.dirs_mk
attribute [ext] Fld.ext
attribute [grind ext] Fld.ext
inductive Dfn where
 | mk (k:Int) (n:ByteArray) (impl:List (List AV)) (dirs:List (List AV)) (fields:List Fld) (members:List (List AV)) (inputs:List (List AV))
def Dfn.k:Dfn→Int | .mk k _ _ _ _ _ _=>k
theorem Dfn.k_mk (k:Int) (n:ByteArray) (impl:List (List AV)) (dirs:List (List AV)) (fields:List Fld) (members:List (List AV)) (inputs:List (List AV)):(Dfn.mk k n impl dirs fields members inputs).k=k:=rfl
def Dfn.n:Dfn→ByteArray | .mk _ n _ _ _ _ _=>n
theorem Dfn.n_mk (k:Int) (n:ByteArray) (impl:List (List AV)) (dirs:List (List AV)) (fields:List Fld) (members:List (List AV)) (inputs:List (List AV)):(Dfn.mk k n impl dirs fields members inputs).n=n:=rfl
def Dfn.impl:Dfn→List (List AV) | .mk _ _ impl _ _ _ _=>impl
theorem Dfn.impl_mk (k:Int) (n:ByteArray) (impl:List (List AV)) (dirs:List (List AV)) (fields:List Fld) (members:List (List AV)) (inputs:List (List AV)):(Dfn.mk k n impl dirs fields members inputs).impl=impl:=rfl
def Dfn.dirs:Dfn→List (List AV) | .mk _ _ _ dirs _ _ _=>dirs
theorem Dfn.dirs_mk (k:Int) (n:ByteArray) (impl:List (List AV)) (dirs:List (List AV)) (fields:List Fld) (members:List (List AV)) (inputs:List (List AV)):(Dfn.mk k n impl dirs fields members inputs).dirs=dirs:=rfl
def Dfn.fields:Dfn→List Fld | .mk _ _ _ _ fields _ _=>fields
theorem Dfn.fields_mk (k:Int) (n:ByteArray) (impl:List (List AV)) (dirs:List (List AV)) (fields:List Fld) (members:List (List AV)) (inputs:List (List AV)):(Dfn.mk k n impl dirs fields members inputs).fields=fields:=rfl
def Dfn.members:Dfn→List (List AV) | .mk _ _ _ _ _ members _=>members
theorem Dfn.members_mk (k:Int) (n:ByteArray) (impl:List (List AV)) (dirs:List (List AV)) (fields:List Fld) (members:List (List AV)) (inputs:List (List AV)):(Dfn.mk k n impl dirs fields members inputs).members=members:=rfl
def Dfn.inputs:Dfn→List (List AV) | .mk _ _ _ _ _ _ inputs=>inputs
theorem Dfn.inputs_mk (k:Int) (n:ByteArray) (impl:List (List AV)) (dirs:List (List AV)) (fields:List Fld) (members:List (List AV)) (inputs:List (List AV)):(Dfn.mk k n impl dirs fields members inputs).inputs=inputs:=rfl
theorem Dfn.eta (x:Dfn):Dfn.mk x.k x.n x.impl x.dirs x.fields x.members x.inputs=x:=by cases x;rfl
theorem Dfn.ext {x y:Dfn} (h0:x.k=y.k) (h1:x.n=y.n) (h2:x.impl=y.impl) (h3:x.dirs=y.dirs) (h4:x.fields=y.fields) (h5:x.members=y.members) (h6:x.inputs=y.inputs):x=y:=by cases x;cases y;simp only [Dfn.k_mk,Dfn.n_mk,Dfn.impl_mk,Dfn.dirs_mk,Dfn.fields_mk,Dfn.members_mk,Dfn.inputs_mk] at *;simp [*]
def dfC (x:Dfn):List AV:=[.i .i64 x.k,.s x.n,.ds x.impl,.ds x.dirs,.ds (mapC fldC x.fields),.ds x.members,.ds x.inputs]
attribute [go_sem] dfC Dfn.k_mk Dfn.n_mk Dfn.impl_mk Dfn.dirs_mk Dfn.fields_mk Dfn.members_mk Dfn.inputs_mk
attribute [grind =] Dfn.k_mk Dfn.n_mk Dfn.impl_mk Dfn.dirs_mk Dfn.fields_mk Dfn.members_mk Dfn.inputs_mk
attribute [ext] Dfn.ext
attribute [grind ext] Dfn.ext
inductive Sup where
 | mk (g:List ByteArray) (doc:List Dfn) (keys:List Ky) (joins:List Jn)
def Sup.g:Sup→List ByteArray | .mk g _ _ _=>g
theorem Sup.g_mk (g:List ByteArray) (doc:List Dfn) (keys:List Ky) (joins:List Jn):(Sup.mk g doc keys joins).g=g:=rfl
def Sup.doc:Sup→List Dfn | .mk _ doc _ _=>doc
theorem Sup.doc_mk (g:List ByteArray) (doc:List Dfn) (keys:List Ky) (joins:List Jn):(Sup.mk g doc keys joins).doc=doc:=rfl
def Sup.keys:Sup→List Ky | .mk _ _ keys _=>keys
theorem Sup.keys_mk (g:List ByteArray) (doc:List Dfn) (keys:List Ky) (joins:List Jn):(Sup.mk g doc keys joins).keys=keys:=rfl
def Sup.joins:Sup→List Jn | .mk _ _ _ joins=>joins
theorem Sup.joins_mk (g:List ByteArray) (doc:List Dfn) (keys:List Ky) (joins:List Jn):(Sup.mk g doc keys joins).joins=joins:=rfl
theorem Sup.eta (x:Sup):Sup.mk x.g x.doc x.keys x.joins=x:=by cases x;rfl
theorem Sup.ext {x y:Sup} (h0:x.g=y.g) (h1:x.doc=y.doc) (h2:x.keys=y.keys) (h3:x.joins=y.joins):x=y:=by cases x;cases y;simp only [Sup.g_mk,Sup.doc_mk,Sup.keys_mk,Sup.joins_mk] at *;simp [*]
attribute [go_sem] Sup.g_mk Sup.doc_mk Sup.keys_mk Sup.joins_mk
attribute [grind =] Sup.g_mk Sup.doc_mk Sup.keys_mk Sup.joins_mk
attribute [ext] Sup.ext
attribute [grind ext] Sup.ext
abbrev docx (l:List Dfn):AV:=.ag [.ds (mapC dfC l)]
abbrev dfx (t:Dfn):AV:=.ag [.i .i64 t.k,.s t.n,.ds t.impl,.ds t.dirs,.ds (mapC fldC t.fields),.ds t.members,.ds t.inputs]
abbrev supx (s:Sup):AV:=.ag [.ds (stC s.g),.ds (mapC dfC s.doc),.ds (mapC kyC s.keys),.ds (mapC jnC s.joins)]
abbrev pkx (p:Pk):AV:=.ag [.s p.key,.s p.on,.s p.name,.ds (mapC argC p.args),.s p.tn,.ds (mapC in1 p.tw),.s p.label,.i .i64 p.initial,.ds (mapC pkC p.picks)]
attribute [go_sem] argC
inductive Val.Rng:Val→Prop
 | mk (v:Val):-9223372036854775808≤v.n→v.n≤9223372036854775807→(∀x∈v.items,Val.Rng x)→Val.Rng v
theorem Val.Rng.l {v:Val} (h:v.Rng):-9223372036854775808≤v.n:=by cases h;assumption
theorem Val.Rng.u {v:Val} (h:v.Rng):v.n≤9223372036854775807:=by cases h;assumption
theorem Val.Rng.x {v:Val} (h:v.Rng) {x:Val} (hx:x∈v.items):x.Rng:=by cases h with | mk _ _ _ h=>exact h x hx
def jn (xs:List (List UInt8)):List UInt8:=Lib.join xs [44,32]
def ofL (l:List UInt8):ByteArray:=⟨l.toArray⟩
theorem mk_ofL (l:List UInt8):ByteArray.mk l.toArray=ofL l:=rfl
theorem ofL_app (a b:List UInt8):ofL a++ofL b=ofL (a++b):=by
 apply ByteArray.ext
 rw [ByteArray.data_append]
 simp [ofL]
theorem bs_ofL (l:List UInt8):bs (ofL l)=l:=by simp [ofL,bs]
theorem ofL_bs (s:ByteArray):ofL (bs s)=s:=by
 apply ByteArray.ext
 simp [ofL,bs]
def hexd (n:Nat):UInt8:=if n<10 then u8 (48+(n:Int)) else u8 (87+(n:Int))
def escL (c:UInt8):List UInt8 :=
 if c.toNat=34 then [92,34] else if c.toNat=92 then [92,92] else if c.toNat=10 then [92,110] else if c.toNat=13 then [92,114] else if c.toNat=9 then [92,116]
 else if c.toNat<32∨126<c.toNat then [92,117,48,48,hexd (c.toNat / 16),hexd (c.toNat % 16)] else [c]
def quoL (s:ByteArray):List UInt8:=34::((bs s).flatMap escL++[34])
theorem escL_len (c:UInt8):(escL c).length≤6:=by
 unfold escL
 repeat' split
 all_goals simp
theorem flat_len (l:List UInt8):(l.flatMap escL).length≤6*l.length:=by
 induction l with
 | nil=>simp
 | cons c l ih =>
  have:=escL_len c
  rw [List.flatMap_cons,zld,zlc]
  omega
theorem quoL_len (s:ByteArray):(quoL s).length≤6*s.size+2:=by
 have:=flat_len (bs s)
 rw [bs_len] at this
 simp only [quoL,zlc,zld,zle]
 omega
theorem ofL_size (l:List UInt8):(ofL l).size=l.length:=by simp [ofL,ByteArray.size]
def fieldL (k:ByteArray) (x:List UInt8):List UInt8:=bs k++([58,32]++x)
mutual
def wrtV:Val→List UInt8
 | .mk k n s i l=>if k=0 then [110,117,108,108] else if k=1 then (if n=0 then [102,97,108,115,101] else [116,114,117,101]) else if k=2 then Lib.itoa n
  else if k=3 then quoL s else if k=4 then bs s else if k=7 then 36::bs s else if k=5 then 91::(jn (wrtL i)++[93])
  else if k=6 then 123::(jn (List.zipWith fieldL l (wrtL i))++[125]) else []
def wrtL:List Val→List (List UInt8)
 | []=>[]
 | x::r=>wrtV x::wrtL r
end
theorem wrtL_eq (l:List Val):wrtL l=l.map wrtV:=by
 induction l with
 | nil=>rw [wrtL,List.map_nil]
 | cons x l ih=>rw [wrtL,ih,zln]
theorem wrtV_eq (v:Val):wrtV v=if v.k=0 then [110,117,108,108] else if v.k=1 then (if v.n=0 then [102,97,108,115,101] else [116,114,117,101]) else if v.k=2 then Lib.itoa v.n
  else if v.k=3 then quoL v.s else if v.k=4 then bs v.s else if v.k=7 then 36::bs v.s else if v.k=5 then 91::(jn (v.items.map wrtV)++[93])
  else if v.k=6 then 123::(jn (List.zipWith fieldL v.keys (v.items.map wrtV))++[125]) else []:=by
 cases v
 rw [wrtV,wrtL_eq]
 rfl
def argL (a:Arg):List UInt8:=fieldL a.n (wrtV a.v)
def argsL (l:List Arg):List UInt8:=jn (l.map argL)
theorem jn_nil:jn []=[]:=rfl
theorem jn_one (x:List UInt8):jn [x]=x:=by simp [jn,Lib.join,List.intercalate]
theorem jn_snoc:∀(xs:List (List UInt8)) (x:List UInt8),xs≠[]→jn (xs++[x])=jn xs++([44,32]++x)
 | [],x,h=>absurd rfl h
 | [y],x,_=>by simp [jn,Lib.join,List.intercalate]
 | y::z::r,x,_=>by
  have ih:=jn_snoc (z::r) x (by simp)
  simp only [jn,Lib.join,List.intercalate,List.cons_append,List.intersperse,List.flatten_cons] at ih ⊢
  rw [ih]
  simp
def jnB (xs:List (List UInt8)):Nat:=(xs.map fun x=>x.length+2).sum
theorem jnB_cons (x:List UInt8) (xs:List (List UInt8)):jnB (x::xs)=x.length+2+jnB xs:=by simp [jnB]
theorem jnB_app (xs ys:List (List UInt8)):jnB (xs++ys)=jnB xs+jnB ys:=by simp [jnB]
theorem jnB_take (xs:List (List UInt8)) (j:Nat):jnB (xs.take j)≤jnB xs:=by
 have:=jnB_app (xs.take j) (xs.drop j)
 rw [List.take_append_drop] at this
 omega
theorem jn_le:∀xs:List (List UInt8),(jn xs).length≤jnB xs
 | []=>by simp [jn_nil]
 | [x]=>by rw [jn_one,jnB_cons];omega
 | x::y::r=>by
  have ih:=jn_le (y::r)
  have e:jn (x::y::r)=x++([44,32]++jn (y::r)):=by simp [jn,Lib.join,List.intercalate]
  rw [e,jnB_cons]
  simp only [zld,zlc,zle]
  omega
theorem itoa_len (n:Int) (h0:-9223372036854775808≤n) (h1:n≤9223372036854775807):(Lib.itoa n).length≤21:=Lib.itoa_length_le n h0 h1
theorem avLL_cons (x:List AV) (l:List (List AV)):avLL (x::l)=avL x+avLL l:=rfl
theorem avLL_in {x:List AV}:∀{l:List (List AV)},x∈l→avL x≤avLL l
 | y::l,h=>by
  rw [avLL]
  rcases List.mem_cons.1 h with rfl | h
  .omega
  .have:=avLL_in h
   omega
theorem zip_len:∀(l:List ByteArray) (i:List Val),(∀x∈i,(wrtV x).length+8≤32*avL (valC x))→jnB (List.zipWith fieldL l (i.map wrtV))≤32*avLL (stC l)+32*avLL (mapC valC i)
 | [],i,_=>by simp [jnB]
 | k::l,[],_=>by simp [jnB]
 | k::l,x::i,h=>by
  have h1:=h x (by simp)
  have h2:=zip_len l i fun y hy=>h y (by simp [hy])
  rw [zln,List.zipWith_cons_cons,jnB_cons,show stC (k::l)=st1 k::stC l from rfl,mapC_cons,avLL_cons,avLL_cons]
  have h3:(fieldL k (wrtV x)).length=k.size+2+(wrtV x).length:=by simp [fieldL,bs_len];omega
  have h4:avL (st1 k)=k.size+1:=by simp [st1,avL,avw]
  rw [h3,h4]
  omega
theorem list_len:∀(i:List Val),(∀x∈i,(wrtV x).length+8≤32*avL (valC x))→jnB (i.map wrtV)≤32*avLL (mapC valC i)
 | [],_=>by simp [jnB]
 | x::i,h=>by
  have h1:=h x (by simp)
  have h2:=list_len i fun y hy=>h y (by simp [hy])
  rw [zln,jnB_cons,mapC_cons,avLL_cons]
  omega
theorem avL_val (v:Val):avL (valC v)=v.s.size+avLL (mapC valC v.items)+avLL (stC v.keys)+5:=by
 rw [valC_eq]
 simp only [avL,avw]
 omega
theorem wrtV_len (v:Val) (hr:v.Rng):(wrtV v).length+8≤32*avL (valC v):=by
 refine Val.ind (Q:=fun v=>v.Rng→(wrtV v).length+8≤32*avL (valC v)) (fun v ih hr=>?_) v hr
 have h1:=itoa_len v.n hr.l hr.u
 have h2:=quoL_len v.s
 have h3:=zip_len v.keys v.items fun x hx=>ih x hx (hr.x hx)
 have h4:=list_len v.items fun x hx=>ih x hx (hr.x hx)
 have h5:=jn_le (v.items.map wrtV)
 have h6:=jn_le (List.zipWith fieldL v.keys (v.items.map wrtV))
 rw [wrtV_eq,avL_val]
 repeat' split
 all_goals try simp only [zlc,zld,zle,bs_len]
 all_goals omega
def prnV (v:Val):List UInt8:=if v.k=0 then [110,117,108,108] else if v.k=1 then (if v.n=0 then [102,97,108,115,101] else [116,114,117,101]) else if v.k=2 then Lib.itoa v.n else quoL v.s
def jc (xs:List (List UInt8)):List UInt8:=Lib.join xs [44]
theorem jc_nil:jc []=[]:=rfl
theorem jc_one (x:List UInt8):jc [x]=x:=by simp [jc,Lib.join,List.intercalate]
theorem jc_snoc:∀(xs:List (List UInt8)) (x:List UInt8),xs≠[]→jc (xs++[x])=jc xs++([44]++x)
 | [],x,h=>absurd rfl h
 | [y],x,_=>by simp [jc,Lib.join,List.intercalate]
 | y::z::r,x,_=>by
  have ih:=jc_snoc (z::r) x (by simp)
  simp only [jc,Lib.join,List.intercalate,List.cons_append,List.intersperse,List.flatten_cons] at ih ⊢
  rw [ih]
  simp
def prnL (l:List Val):List UInt8:=91::(jc (l.map prnV)++[93])
noncomputable def findD' (l:List Dfn) (n:ByteArray):Option Dfn:=l.find? fun t=>decide (t.n=n)
def scalB (n:ByteArray):Bool:=decide (n=⟨#[73,110,116]⟩)||(decide (n=⟨#[83,116,114,105,110,103]⟩)||(decide (n=⟨#[66,111,111,108,101,97,110]⟩)||decide (n=⟨#[73,68]⟩)))
noncomputable def kindD (l:List Dfn) (n:ByteArray):Int:=((findD' l n).map Dfn.k).getD 0
noncomputable def compB (l:List Dfn) (n:ByteArray):Bool:=!scalB n&&(decide (kindD l n=1)||(decide (kindD l n=2)||decide (kindD l n=3)))
noncomputable def reqJ (J:List Jn) (t f:ByteArray):List ByteArray:=((J.find? fun j=>decide (j.t=t)&&(decide (j.f=f)&&decide (0<j.req.length))).map Jn.req).getD []
def exB (d:Dat) (i:Int):Bool:=decide (0≤i)&&decide (i<(d.i.length:Int))
noncomputable def needL (s:Sup) (d:Dat) (i:Int) (p:Pk):List ByteArray:=if exB d i=true then reqJ s.joins (typD d i) p.name else []
noncomputable def leafOf (v:Val):Val:=if leafV v=true then v else zVal
def badV (d:Dat) (v:Val):Bool:=decide (v.k=9)||(decide (v.k=6)||(decide (v.k=8)&&exB d v.n))
noncomputable def needV (s:Sup) (d:Dat) (i:Int) (p:Pk):List Val:=(needL s d i p).map fun f=>leafOf (lookV d i f ⟨#[]⟩)
noncomputable def argT (s:Sup) (d:Dat) (i:Int) (p:Pk):List UInt8:=argsL p.args++(if needL s d i p=[] then [] else 124::prnL (needV s d i p))
noncomputable def failB (s:Sup) (d:Dat) (i:Int) (p:Pk):Bool:=(needL s d i p).any fun f=>badV d (lookV d i f ⟨#[]⟩)
def failV (t:ByteArray):Val:=.mk 9 0 t [] []
def listV (l:List Val):Val:=.mk 5 0 ⟨#[]⟩ l []
def sObject:ByteArray:=⟨#[111,98,106,101,99,116]⟩
def sLeaf:ByteArray:=⟨#[108,101,97,102]⟩
def sKey:ByteArray:=⟨#[107,101,121]⟩
def sT:ByteArray:=⟨#[95,95,116]⟩
def sTypename:ByteArray:=⟨#[95,95,116,121,112,101,110,97,109,101]⟩
mutual
def rawW (d:Dat) (comp:Bool) (ob:Int→Val):Val→Val
 | .mk k n s i l=>if (0≤k∧k≤4)∨k=9 then .mk k n s i l else if k=5 then listV (rawWs d comp ob i) else if k=6 then failV sObject
  else if k=8 then (if exB d n=true then (if comp=true then ob n else failV sLeaf) else zVal) else zVal
def rawWs (d:Dat) (comp:Bool) (ob:Int→Val):List Val→List Val
 | []=>[]
 | x::r=>rawW d comp ob x::rawWs d comp ob r
end
theorem rawWs_eq (d:Dat) (comp:Bool) (ob:Int→Val) (l:List Val):rawWs d comp ob l=l.map (rawW d comp ob):=by
 induction l with
 | nil=>rw [rawWs,List.map_nil]
 | cons x l ih=>rw [rawWs,ih,zln]
theorem rawW_eq (d:Dat) (comp:Bool) (ob:Int→Val) (v:Val):rawW d comp ob v=if (0≤v.k∧v.k≤4)∨v.k=9 then v else if v.k=5 then listV (v.items.map (rawW d comp ob)) else if v.k=6 then failV sObject
  else if v.k=8 then (if exB d v.n=true then (if comp=true then ob v.n else failV sLeaf) else zVal) else zVal:=by
 cases v
 rw [rawW,rawWs_eq]
 rfl
def objV (t:ByteArray) (l:List (ByteArray × Val)):Val:=.mk 6 0 ⟨#[]⟩ (txV t::l.map (·.2)) (sT::l.map (·.1))
noncomputable def pickW (s:Sup) (d:Dat) (i:Int) (p:Pk) (ob:Int→Val):Val :=
 if p.name=sTypename then txV (typD d i) else if failB s d i p=true then failV sKey else rawW d (compB s.doc p.tn) ob (lookV d i p.name (ofL (argT s d i p)))
mutual
noncomputable def fieldsV (s:Sup) (d:Dat):List Pk→Int→List (ByteArray × Val)
 | [],_=>[]
 | p::r,i=>if p.on=typD d i then (p.key,pickV s d p i)::fieldsV s d r i else fieldsV s d r i
noncomputable def pickV (s:Sup) (d:Dat):Pk→Int→Val
 | .mk key on name args tn tw label initial picks,i=>pickW s d i (.mk key on name args tn tw label initial picks) fun j=>if exB d j=true then objV (typD d j) (fieldsV s d picks j) else zVal
end
noncomputable def objectV (s:Sup) (d:Dat) (l:List Pk) (i:Int):Val:=if exB d i=true then objV (typD d i) (fieldsV s d l i) else zVal
theorem pickV_eq (s:Sup) (d:Dat) (p:Pk) (i:Int):pickV s d p i=pickW s d i p (objectV s d p.picks):=by
 cases p
 rw [pickV]
 rfl
theorem fieldsV_eq (s:Sup) (d:Dat) (i:Int) (l:List Pk):fieldsV s d l i=(l.filter fun p=>decide (p.on=typD d i)).map fun p=>(p.key,pickV s d p i):=by
 induction l with
 | nil=>rw [fieldsV];rfl
 | cons p l ih =>
  rw [fieldsV]
  by_cases c:p.on=typD d i
  .rw [if_pos c,ih,List.filter_cons_of_pos (by simp [c]),zln]
  .rw [if_neg c,ih,List.filter_cons_of_neg (by simp [c])]
end Go.Proofs.YtinbodeocoeneaaGreatDoor
