/- Proof. Conditions: none. -/
import Derived.Lib.ItoaLen
import Derived.Lib.Join
import Derived.Test.YtgfidgoefioigaaGreatDoorIj20
noncomputable section
open Bool renaming or_assoc->z2x
open Go.Proofs.Tryz
open List renaming mem_of_getElem?->zla,length_cons->zlc,cons_append->zlh,drop_length->zll
open Nat renaming le_refl->zna
namespace Go.Proofs.YtgfidgoefioigaaGreatDoor
open Go.Eng
set_option linter.all false
set_option maxRecDepth 20000
theorem Agy {U:Type} {k j:Nat} (h:¬k=j) (a b:U):(if k=j then a else b)=b:=iN h
attribute [go_sem] Agy
inductive Jn where
 | mk (t:qB) (f:qB) (g:Int) (x:Bool) (req:List qB) (prov:List qB)
def Jn.t:Jn->qB | .mk t _ _ _ _ _=>t
theorem Jn.t_mk (t:qB) (f:qB) (g:Int) (x:Bool) (req:List qB) (prov:List qB):(Jn.mk t f g x req prov).t=t:=rfl
def Jn.f:Jn->qB | .mk _ f _ _ _ _=>f
theorem Jn.f_mk (t:qB) (f:qB) (g:Int) (x:Bool) (req:List qB) (prov:List qB):(Jn.mk t f g x req prov).f=f:=rfl
def Jn.g:Jn->Int | .mk _ _ g _ _ _=>g
theorem Jn.g_mk (t:qB) (f:qB) (g:Int) (x:Bool) (req:List qB) (prov:List qB):(Jn.mk t f g x req prov).g=g:=rfl
def Jn.x:Jn->Bool | .mk _ _ _ x _ _=>x
theorem Jn.x_mk (t:qB) (f:qB) (g:Int) (x:Bool) (req:List qB) (prov:List qB):(Jn.mk t f g x req prov).x=x:=rfl
def Jn.req:Jn->List qB | .mk _ _ _ _ req _=>req
theorem Jn.req_mk (t:qB) (f:qB) (g:Int) (x:Bool) (req:List qB) (prov:List qB):(Jn.mk t f g x req prov).req=req:=rfl
def Jn.prov:Jn->List qB | .mk _ _ _ _ _ prov=>prov
theorem Jn.prov_mk (t:qB) (f:qB) (g:Int) (x:Bool) (req:List qB) (prov:List qB):(Jn.mk t f g x req prov).prov=prov:=rfl
theorem Jn.ext {x y:Jn} (h0:x.t=y.t) (h1:x.f=y.f) (h2:x.g=y.g) (h3:x.x=y.x) (h4:x.req=y.req) (h5:x.prov=y.prov):x=y:=by cases x;cases y;simp only [Jn.t_mk,Jn.f_mk,Jn.g_mk,Jn.x_mk,Jn.req_mk,Jn.prov_mk] at *;simp [*]
attribute [go_sem] Jn.t_mk Jn.f_mk Jn.g_mk Jn.x_mk Jn.req_mk Jn.prov_mk
attribute [grind =] Jn.t_mk Jn.f_mk Jn.g_mk Jn.x_mk Jn.req_mk Jn.prov_mk
attribute [ext] Jn.ext
attribute [grind ext] Jn.ext
inductive Cy where
 | mk (n:qB) (args:List (List AV)) (tn:qB) (tw:List (List AV)) (dirs:List (List AV))
def Cy.n:Cy->qB | .mk n _ _ _ _=>n
theorem Cy.n_mk (n:qB) (args:List (List AV)) (tn:qB) (tw:List (List AV)) (dirs:List (List AV)):(Cy.mk n args tn tw dirs).n=n:=rfl
def Cy.args:Cy->List (List AV) | .mk _ args _ _ _=>args
theorem Cy.args_mk (n:qB) (args:List (List AV)) (tn:qB) (tw:List (List AV)) (dirs:List (List AV)):(Cy.mk n args tn tw dirs).args=args:=rfl
def Cy.tn:Cy->qB | .mk _ _ tn _ _=>tn
theorem Cy.tn_mk (n:qB) (args:List (List AV)) (tn:qB) (tw:List (List AV)) (dirs:List (List AV)):(Cy.mk n args tn tw dirs).tn=tn:=rfl
def Cy.tw:Cy->List (List AV) | .mk _ _ _ tw _=>tw
theorem Cy.tw_mk (n:qB) (args:List (List AV)) (tn:qB) (tw:List (List AV)) (dirs:List (List AV)):(Cy.mk n args tn tw dirs).tw=tw:=rfl
def Cy.dirs:Cy->List (List AV) | .mk _ _ _ _ dirs=>dirs
theorem Cy.dirs_mk (n:qB) (args:List (List AV)) (tn:qB) (tw:List (List AV)) (dirs:List (List AV)):(Cy.mk n args tn tw dirs).dirs=dirs:=rfl
theorem Cy.ext {x y:Cy} (h0:x.n=y.n) (h1:x.args=y.args) (h2:x.tn=y.tn) (h3:x.tw=y.tw) (h4:x.dirs=y.dirs):x=y:=by cases x;cases y;simp only [Cy.n_mk,Cy.args_mk,Cy.tn_mk,Cy.tw_mk,Cy.dirs_mk] at *;simp [*]
def Bv (x:Cy):List AV:=[.s x.n,.ds x.args,.s x.tn,.ds x.tw,.ds x.dirs]
theorem KT (l:List Cy):Ew 5 (Ab Bv l)=True:=DT fun _=>⟨rfl,rfl⟩
attribute [go_sem] KT
attribute [go_sem] Bv Cy.n_mk Cy.args_mk Cy.tn_mk Cy.tw_mk Cy.dirs_mk
attribute [grind =] Cy.n_mk Cy.args_mk Cy.tn_mk Cy.tw_mk Cy.dirs_mk
attribute [ext] Cy.ext
attribute [grind ext] Cy.ext
inductive Aw where
 | mk (k:Int) (n:qB) (impl:List (List AV)) (dirs:List (List AV)) (fields:List Cy) (members:List (List AV)) (inputs:List (List AV))
def Aw.k:Aw->Int | .mk k _ _ _ _ _ _=>k
theorem Aw.k_mk (k:Int) (n:qB) (impl:List (List AV)) (dirs:List (List AV)) (fields:List Cy) (members:List (List AV)) (inputs:List (List AV)):(Aw.mk k n impl dirs fields members inputs).k=k:=rfl
def Aw.n:Aw->qB | .mk _ n _ _ _ _ _=>n
theorem Aw.n_mk (k:Int) (n:qB) (impl:List (List AV)) (dirs:List (List AV)) (fields:List Cy) (members:List (List AV)) (inputs:List (List AV)):(Aw.mk k n impl dirs fields members inputs).n=n:=rfl
def Aw.impl:Aw->List (List AV) | .mk _ _ impl _ _ _ _=>impl
theorem Aw.impl_mk (k:Int) (n:qB) (impl:List (List AV)) (dirs:List (List AV)) (fields:List Cy) (members:List (List AV)) (inputs:List (List AV)):(Aw.mk k n impl dirs fields members inputs).impl=impl:=rfl
def Aw.dirs:Aw->List (List AV) | .mk _ _ _ dirs _ _ _=>dirs
theorem Aw.dirs_mk (k:Int) (n:qB) (impl:List (List AV)) (dirs:List (List AV)) (fields:List Cy) (members:List (List AV)) (inputs:List (List AV)):(Aw.mk k n impl dirs fields members inputs).dirs=dirs:=rfl
def Aw.fields:Aw->List Cy | .mk _ _ _ _ fields _ _=>fields
theorem Aw.fields_mk (k:Int) (n:qB) (impl:List (List AV)) (dirs:List (List AV)) (fields:List Cy) (members:List (List AV)) (inputs:List (List AV)):(Aw.mk k n impl dirs fields members inputs).fields=fields:=rfl
def Aw.members:Aw->List (List AV) | .mk _ _ _ _ _ members _=>members
theorem Aw.members_mk (k:Int) (n:qB) (impl:List (List AV)) (dirs:List (List AV)) (fields:List Cy) (members:List (List AV)) (inputs:List (List AV)):(Aw.mk k n impl dirs fields members inputs).members=members:=rfl
def Aw.inputs:Aw->List (List AV) | .mk _ _ _ _ _ _ inputs=>inputs
theorem Aw.inputs_mk (k:Int) (n:qB) (impl:List (List AV)) (dirs:List (List AV)) (fields:List Cy) (members:List (List AV)) (inputs:List (List AV)):(Aw.mk k n impl dirs fields members inputs).inputs=inputs:=rfl
theorem Aw.ext {x y:Aw} (h0:x.k=y.k) (h1:x.n=y.n) (h2:x.impl=y.impl) (h3:x.dirs=y.dirs) (h4:x.fields=y.fields) (h5:x.members=y.members) (h6:x.inputs=y.inputs):x=y:=by cases x;cases y;simp only [Aw.k_mk,Aw.n_mk,Aw.impl_mk,Aw.dirs_mk,Aw.fields_mk,Aw.members_mk,Aw.inputs_mk] at *;simp [*]
def B8 (x:Aw):List AV:=[.i .i64 x.k,.s x.n,.ds x.impl,.ds x.dirs,.ds (Ab Bv x.fields),.ds x.members,.ds x.inputs]
attribute [go_sem] B8 Aw.k_mk Aw.n_mk Aw.impl_mk Aw.dirs_mk Aw.fields_mk Aw.members_mk Aw.inputs_mk
attribute [grind =] Aw.k_mk Aw.n_mk Aw.impl_mk Aw.dirs_mk Aw.fields_mk Aw.members_mk Aw.inputs_mk
attribute [ext] Aw.ext
attribute [grind ext] Aw.ext
inductive HA where
 | mk (g:List qB) (doc:List Aw) (keys:List Ky) (joins:List Jn)
def HA.g:HA->List qB | .mk g _ _ _=>g
theorem HA.g_mk (g:List qB) (doc:List Aw) (keys:List Ky) (joins:List Jn):(HA.mk g doc keys joins).g=g:=rfl
def HA.doc:HA->List Aw | .mk _ doc _ _=>doc
theorem HA.doc_mk (g:List qB) (doc:List Aw) (keys:List Ky) (joins:List Jn):(HA.mk g doc keys joins).doc=doc:=rfl
def HA.keys:HA->List Ky | .mk _ _ keys _=>keys
theorem HA.keys_mk (g:List qB) (doc:List Aw) (keys:List Ky) (joins:List Jn):(HA.mk g doc keys joins).keys=keys:=rfl
def HA.joins:HA->List Jn | .mk _ _ _ joins=>joins
theorem HA.joins_mk (g:List qB) (doc:List Aw) (keys:List Ky) (joins:List Jn):(HA.mk g doc keys joins).joins=joins:=rfl
theorem HA.ext {x y:HA} (h0:x.g=y.g) (h1:x.doc=y.doc) (h2:x.keys=y.keys) (h3:x.joins=y.joins):x=y:=by cases x;cases y;simp only [HA.g_mk,HA.doc_mk,HA.keys_mk,HA.joins_mk] at *;simp [*]
attribute [go_sem] HA.g_mk HA.doc_mk HA.keys_mk HA.joins_mk
attribute [grind =] HA.g_mk HA.doc_mk HA.keys_mk HA.joins_mk
attribute [ext] HA.ext
attribute [grind ext] HA.ext
abbrev B0 (l:List Aw):AV:=.ag [.ds (Ab B8 l)]
abbrev Mc (t:Aw):AV:=.ag [.i .i64 t.k,.s t.n,.ds t.impl,.ds t.dirs,.ds (Ab Bv t.fields),.ds t.members,.ds t.inputs]
abbrev pkx (p:Pk):AV:=.ag [.s p.key,.s p.on,.s p.name,.ds (Ab BB p.args),.s p.tn,.ds (Ab D0 p.tw),.s p.label,.i .i64 p.initial,.ds (Ab AJ p.picks)]
theorem ZX (l:List Cy):(∀e,e∈Ab Bv l->e.length=5)=True:=eq_true fun e h=>((of_eq_true (KT l)) e h).1
attribute [go_sem] ZX BB
inductive Ag.Rng:Ag->Prop
 | mk (v:Ag):-9223372036854775808<=v.n->v.n<=9223372036854775807->(∀x∈v.items,Ag.Rng x)->Ag.Rng v
theorem Ag.Rng.l {v:Ag} (h:v.Rng):-9223372036854775808<=v.n:=by cases h;assumption
theorem Ag.Rng.u {v:Ag} (h:v.Rng):v.n<=9223372036854775807:=by cases h;assumption
theorem Ag.Rng.x {v:Ag} (h:v.Rng) {x:Ag} (hx:x∈v.items):x.Rng:=by cases h with | mk _ _ _ h=>exact h x hx
def Uv (l:List UInt8):qB:=⟨l.toArray⟩
theorem Xi (l:List UInt8):ByteArray.mk l.toArray=Uv l:=rfl
theorem TO (a b:List UInt8):Uv a++Uv b=Uv (a++b):=by
 apply ByteArray.ext
 rw [ByteArray.data_append]
 simp [Uv]
theorem PS (l:List UInt8):(Uv l).size=l.length:=by simp [Uv,ByteArray.size]
theorem SP {x:List AV}:∀{l:List (List AV)},x∈l->Cf x<=Er l
 |y::l,h=>by
  rw [Er]
  rcases List.mem_cons.1 h with rfl | h
  .omega
  .have:=SP h
   omega
theorem Zu (v:Ag):Cf (Ar v)=v.s.size+Er (Ab Ar v.items)+Er (Bd v.keys)+5:=by
 rw [B4]
 simp only [Cf,Gv]
 omega
def Az (l:List Aw) (n:qB):Option Aw:=l.find? fun t=>decide (t.n=n)
def BU (n:qB):Bool:=decide (n=⟨#[73,110,116]⟩)||(decide (n=⟨#[83,116,114,105,110,103]⟩)||(decide (n=⟨#[66,111,111,108,101,97,110]⟩)||decide (n=⟨#[73,68]⟩)))
def Ff (l:List Aw) (n:qB):Int:=((Az l n).map Aw.k).getD 0
def F0 (l:List Aw) (n:qB):Bool:=!BU n&&(decide (Ff l n=1)||(decide (Ff l n=2)||decide (Ff l n=3)))
def sT:qB:=⟨#[95,95,116]⟩
open Go.Eng Go.KL
set_option maxRecDepth 100000
def ck8:CC:=cK (a:=cF [] [] [] f8) (by delta f8;simp only [go_sem];rfl)
theorem cc8:A3 f8=(false,some ck8.erase,some [(.t 2)]):=by kernel_rfl
def ck19:CC:=cK (a:=cF [] [] [] f19) (by delta f19;simp (config := { maxSteps := 9999999 }) only [go_sem];rfl)
theorem cc19:A3 f19=(false,some ck19.erase,some [(.t 2)]):=by kernel_rfl
def ck35:CC:=cK (a:=cF [] [] [] f35) (by delta f35;simp only [go_sem];rfl)
theorem cc35:A3 f35=(false,some ck35.erase,some [(.c 2 5 true)]):=by kernel_rfl
def ck36:CC:=cK (a:=cF [] [] [] f36) (by delta f36;simp only [go_sem];rfl)
theorem cc36:A3 f36=(false,some ck36.erase,some [(.c 10 5 true),(.t 11)]):=by kernel_rfl
def ck37:CC:=cK (a:=cF [] [] [] f37) (by delta f37;simp only [go_sem];rfl)
theorem cc37:A3 f37=(false,some ck37.erase,some [(.c 2 2 true)]):=by kernel_rfl
def ck46:CC:=cK (a:=cF [] [] [] f46) (by delta f46;simp only [go_sem];rfl)
theorem cc46:A3 f46=(false,some ck46.erase,some [(.c 4 7 true),(.t 5)]):=by kernel_rfl
def ck57:CC:=cK (a:=cF [] [] [] f57) (by delta f57;simp only [go_sem];rfl)
theorem cc57:A3 f57=(false,some ck57.erase,some [(.c 10 5 true),(.t 11)]):=by kernel_rfl
def ck58:CC:=cK (a:=cF [] [] [] f58) (by delta f58;simp only [go_sem];rfl)
theorem cc58:A3 f58=(false,some ck58.erase,some [(.c 2 2 true)]):=by kernel_rfl
def ck72:CC:=cK (a:=cF [] [] [] f72) (by delta f72;simp (config := { maxSteps := 9999999 }) only [go_sem];rfl)
theorem cc72:A3 f72=(false,some ck72.erase,some [(.c 10 5 true)]):=by kernel_rfl
def ck73:CC:=cK (a:=cF [] [] [] f73) (by delta f73;simp only [go_sem];rfl)
theorem cc73:A3 f73=(false,some ck73.erase,some [(.t 2)]):=by kernel_rfl
def ck90:CC:=cK (a:=cF [] [] [] f90) (by delta f90;simp (config := { maxSteps := 9999999 }) only [go_sem];rfl)
theorem cc90:A3 f90=(false,some ck90.erase,some [(.t 4)]):=by kernel_rfl
def ck99:CC:=cK (a:=cF [] [] [] f99) (by delta f99;simp only [go_sem];rfl)
theorem cc99:A3 f99=(false,some ck99.erase,some [(.c 2 2 true),(.t 3)]):=by kernel_rfl
def ck101:CC:=cK (a:=cF [] [] [] f101) (by delta f101;simp only [go_sem];rfl)
theorem cc101:A3 f101=(false,some ck101.erase,some [(.t 2)]):=by kernel_rfl
def ck102:CC:=cK (a:=cF [] [] [] f102) (by delta f102;simp only [go_sem];rfl)
theorem cc102:A3 f102=(false,some ck102.erase,some []):=by kernel_rfl
def ck103:CC:=cK (a:=cF [] [] [] f103) (by delta f103;simp (config := { maxSteps := 9999999 }) only [go_sem];rfl)
theorem cc103:A3 f103=(false,some ck103.erase,some [(.c 10 5 true)]):=by kernel_rfl
def ck104:CC:=cK (a:=cF [] [9] [] f104) (by delta f104;simp only [go_sem];rfl)
theorem cc104:A3 f104=(false,some ck104.erase,some [(.c 2 2 true)]):=by kernel_rfl
def ck106:CC:=cK (a:=cF [] [] [] f106) (by delta f106;simp only [go_sem];rfl)
theorem cc106:A3 f106=(false,some ck106.erase,some [(.c 2 2 true),(.t 3)]):=by kernel_rfl
def ck107:CC:=cK (a:=cF [] [] [] f107) (by delta f107;simp only [go_sem];rfl)
theorem cc107:A3 f107=(false,some ck107.erase,some [(.c 6 5 true)]):=by kernel_rfl
def ck108:CC:=cK (a:=cF [] [] [] f108) (by delta f108;simp only [go_sem];rfl)
theorem cc108:A3 f108=(false,some ck108.erase,some [(.c 2 2 true)]):=by kernel_rfl
def ck109:CC:=cK (a:=cF [] [] [] f109) (by delta f109;simp only [go_sem];rfl)
theorem cc109:A3 f109=(false,some ck109.erase,some [(.t 2)]):=by kernel_rfl
def ck110:CC:=cK (a:=cF [] [] [(36,[7,6,5])] f110) (by delta f110;simp (config := { maxSteps := 9999999 }) only [go_sem];rfl)
theorem cc110:A3 f110=(false,some ck110.erase,some [(.c 10 5 true)]):=by kernel_rfl
def ck111:CC:=cK (a:=cF [] [] [] f111) (by delta f111;simp only [go_sem];rfl)
theorem cc111:A3 f111=(false,some ck111.erase,some [(.t 4)]):=by kernel_rfl
def ck112:CC:=cK (a:=cF [] [] [] f112) (by delta f112;simp only [go_sem];rfl)
theorem cc112:A3 f112=(false,some ck112.erase,some [(.c 6 5 true),(.t 7)]):=by kernel_rfl
def ck113:CC:=cK (a:=cF [] [] [] f113) (by delta f113;simp only [go_sem];rfl)
theorem cc113:A3 f113=(false,some ck113.erase,some [(.t 2),(.t 3)]):=by kernel_rfl
def ck114:CC:=cK (a:=cF [] [] [] f114) (by delta f114;simp only [go_sem];rfl)
theorem cc114:A3 f114=(false,some ck114.erase,some [(.t 4)]):=by kernel_rfl
def ck115:CC:=cK (a:=cF [] [] [] f115) (by delta f115;simp only [go_sem];rfl)
theorem cc115:A3 f115=(false,some ck115.erase,some [(.t 6)]):=by kernel_rfl
def ck116:CC:=cK (a:=cF [] [] [(50,[10,9,8])] f116) (by delta f116;simp (config := { maxSteps := 9999999 }) only [go_sem];rfl)
theorem cc116:A3 f116=(false,some ck116.erase,some [(.c 10 5 true)]):=by kernel_rfl
def ck123:CC:=cK (a:=cF [] [] [] f123) (by delta f123;simp only [go_sem];rfl)
theorem cc123:A3 f123=(false,some ck123.erase,some [(.t 2)]):=by kernel_rfl
def ck132:CC:=cK (a:=cF [] [] [] f132) (by delta f132;simp only [go_sem];rfl)
theorem cc132:A3 f132=(false,some ck132.erase,some [(.t 4)]):=by kernel_rfl
def ck134:CC:=cK (a:=cF [] [] [] f134) (by delta f134;simp only [go_sem];rfl)
theorem cc134:A3 f134=(false,some ck134.erase,some [(.t 4)]):=by kernel_rfl
def ck136:CC:=cK (a:=cF [] [] [] f136) (by delta f136;simp only [go_sem];rfl)
theorem cc136:A3 f136=(false,some ck136.erase,some [(.t 4)]):=by kernel_rfl
def ck137:CC:=cK (a:=cF [] [] [] f137) (by delta f137;simp only [go_sem];rfl)
theorem cc137:A3 f137=(false,some ck137.erase,some [(.t 2)]):=by kernel_rfl
def ck142:CC:=cK (a:=cF [] [] [] f142) (by delta f142;simp only [go_sem];rfl)
theorem cc142:A3 f142=(false,some ck142.erase,some [(.t 4)]):=by kernel_rfl
def ck143:CC:=cK (a:=cF [] [] [] f143) (by delta f143;simp (config := { maxSteps := 9999999 }) only [go_sem];rfl)
theorem cc143:A3 f143=(false,some ck143.erase,some [(.c 10 5 true)]):=by kernel_rfl
def ck144:CC:=cK (a:=cF [] [] [] f144) (by delta f144;simp (config := { maxSteps := 9999999 }) only [go_sem];rfl)
theorem cc144:A3 f144=(false,some ck144.erase,some [(.c 6 5 true),(.t 7)]):=by kernel_rfl
def ck145:CC:=cK (a:=cF [] [] [] f145) (by delta f145;simp only [go_sem];rfl)
theorem cc145:A3 f145=(false,some ck145.erase,some [(.t 4)]):=by kernel_rfl
def ck146:CC:=cK (a:=cF [] [] [] f146) (by delta f146;simp only [go_sem];rfl)
theorem cc146:A3 f146=(false,some ck146.erase,some [(.t 6)]):=by kernel_rfl
def ck147:CC:=cK (a:=cF [] [] [] f147) (by delta f147;simp (config := { maxSteps := 9999999 }) only [go_sem];rfl)
theorem cc147:A3 f147=(false,some ck147.erase,some [(.c 10 5 true)]):=by kernel_rfl
def ck148:CC:=cK (a:=cF [] [5] [] f148) (by delta f148;simp only [go_sem];rfl)
theorem cc148:A3 f148=(false,some ck148.erase,some [(.c 2 2 true)]):=by kernel_rfl
def ck150:CC:=cK (a:=cF [] [] [] f150) (by delta f150;simp only [go_sem];rfl)
theorem cc150:A3 f150=(false,some ck150.erase,some [(.t 2)]):=by kernel_rfl
def ck151:CC:=cK (a:=cF [] [] [] f151) (by delta f151;simp only [go_sem];rfl)
theorem cc151:A3 f151=(false,some ck151.erase,some [(.t 4)]):=by kernel_rfl
def ck152:CC:=cK (a:=cF [] [] [] f152) (by delta f152;simp (config := { maxSteps := 9999999 }) only [go_sem];rfl)
theorem cc152:A3 f152=(false,some ck152.erase,some [(.c 4 5 true),(.t 5)]):=by kernel_rfl
def ck153:CC:=cK (a:=cF [] [] [] f153) (by delta f153;simp only [go_sem];rfl)
theorem cc153:A3 f153=(false,some ck153.erase,some [(.c 4 7 true),(.t 5)]):=by kernel_rfl
def ck154:CC:=cK (a:=cF [] [] [] f154) (by delta f154;simp only [go_sem];rfl)
theorem cc154:A3 f154=(false,some ck154.erase,some [(.t 4)]):=by kernel_rfl
def ck155:CC:=cK (a:=cF [] [] [] f155) (by delta f155;simp only [go_sem];rfl)
theorem cc155:A3 f155=(false,some ck155.erase,some [(.t 3)]):=by kernel_rfl
def ck157:CC:=cK (a:=cF [] [] [] f157) (by delta f157;simp (config := { maxSteps := 9999999 }) only [go_sem];rfl)
theorem cc157:A3 f157=(false,some ck157.erase,some [(.t 4)]):=by kernel_rfl
def ck169:CC:=cK (a:=cF [] [] [] f169) (by delta f169;simp only [go_sem];rfl)
theorem cc169:A3 f169=(false,some ck169.erase,some [(.t 4)]):=by kernel_rfl
def ck170:CC:=cK (a:=cF [] [] [] f170) (by delta f170;simp only [go_sem];rfl)
theorem cc170:A3 f170=(false,some ck170.erase,some [(.t 2)]):=by kernel_rfl
def ck171:CC:=cK (a:=cF [] [] [] f171) (by delta f171;simp only [go_sem];rfl)
theorem cc171:A3 f171=(false,some ck171.erase,some [(.t 2)]):=by kernel_rfl
def ck172:CC:=cK (a:=cF [] [] [] f172) (by delta f172;simp only [go_sem];rfl)
theorem cc172:A3 f172=(false,some ck172.erase,some [(.t 4)]):=by kernel_rfl
def ck173:CC:=cK (a:=cF [] [] [] f173) (by delta f173;simp only [go_sem];rfl)
theorem cc173:A3 f173=(false,some ck173.erase,some [(.t 4)]):=by kernel_rfl
def ck177:CC:=cK (a:=cF [] [8] [] f177) (by delta f177;simp only [go_sem];rfl)
theorem cc177:A3 f177=(false,some ck177.erase,some [(.t 2)]):=by kernel_rfl
set_option maxRecDepth 20000
section
variable {v:Ag} {k:qB}
def Dz:Aw:=.mk 0 ⟨#[]⟩ [] [] [] [] []
def Eh (o:Option Aw):AV:=.tp [Mc (o.getD Dz),.b o.isSome]
theorem He (t:Aw) (l:List Aw) (n:qB):Az (t::l) n=if t.n=n then some t else Az l n:=by
 unfold Az
 rw [List.find?_cons]
 by_cases c:t.n=n
 .simp [c]
 .simp [c]
theorem EF (l:List Aw) (hl:l.length<=1000000000000) (n:qB) (hp:CH) (m:Nat):Af prog 153 hp m [B0 l,.s n] (Eh (Az l n)):=by
 obtain ⟨R,hR⟩:=A5 (Az l n)
 rw [hR,Eh]
 refine Aj func153 (tA cc153) (tB cc153) (tC cc153) rfl fun hf=>?_;unfold ck153
 simp only [go_sem]
 refine loop (fun p:Nat×Nat=>⟨[(1,.s n),(4,.bx (m+1) 0),(9,.ds (Ab B8 l)),(10,.i .i64 l.length),(11,.i .i64 p.1)],(m+1,.bx [.i .i64 0,.s ⟨#[]⟩,.e0,.e0,.e0,.e0,.e0])::hp,p.2⟩)
  (fun p=>p.1<=l.length∧m+2<=p.2∧R=Az (l.drop p.1) n) (fun p=>l.length - p.1) (0,m+2) ?_ ?_ (fun ⟨j,k⟩ hj=>?_)
 .exact ⟨by simp,by simp,hR.symm⟩
 .refine Gu hf ?_ ?_ ?_ (zna _)
  all_goals (simp (disch:=omega) only [go_sem])
 dsimp only at hj
 obtain ⟨Cg,Bc,As⟩:=hj
 simp (disch:=omega) only [go_sem]
 refine Ae (fun q=>?_) (fun q=>?_)
 .have q:j<l.length:=by simpa using q
  obtain ⟨t,et⟩:∃t,l[j]?=some t:=⟨l[j],by simp [q]⟩
  rw [A2 et,He] at As
  have O4:m<=k:=by omega
  simp (disch:=omega) only [q,Ad (Aa B8 et),go_sem]
  refine Ae (fun c=>?_) (fun c=>?_)
  .have c:t.n=n:=by simpa using c
   rw [iP c] at As
   subst As
   simp (disch:=omega) only [O4,go_sem]
  .have c:¬t.n=n:=by simpa using c
   rw [iN c] at As
   simp (disch:=omega) only [go_sem]
   refine ⟨(j+1,_),⟨by dsimp only;omega,by dsimp only;omega,As⟩,by dsimp only;omega,Gu hf ?_ ?_ ?_ (zna _)⟩
   all_goals
    simp (disch:=omega) only [Ap j (by omega),O4,go_sem]
 .have q:j=l.length:=by simp at q;omega
  subst q
  rw [zll] at As
  have As:R=none:=As
  subst As
  simp (disch:=omega) only [go_sem]
  rfl
theorem BI (l:List Aw) (hl:l.length<=1000000000000) (n:qB) (hp:CH) (m:Nat):Af prog 46 hp m [B0 l,.s n] (Eh (Az l n)):=by
 obtain ⟨R,hR⟩:=A5 (Az l n)
 rw [hR,Eh]
 refine Aj func46 (tA cc46) (tB cc46) (tC cc46) rfl fun hf=>?_;unfold ck46
 simp only [go_sem]
 refine loop (fun p:Nat×Nat=>⟨[(1,.s n),(2,.bx m 0),(4,.bx (m+1) 0),(6,.i .i64 p.1)],(m,.bx [.ds (Ab B8 l)])::(m+1,.bx [.i .i64 0,.s ⟨#[]⟩,.e0,.e0,.e0,.e0,.e0])::hp,p.2⟩)
  (fun p=>p.1<=l.length∧m+2<=p.2∧R=Az (l.drop p.1) n) (fun p=>l.length - p.1) (0,m+2) ?_ ?_ (fun ⟨j,k⟩ hj=>?_)
 .exact ⟨by simp,by simp,hR.symm⟩
 .refine JT hf ?_ ?_ ?_ ?_ (zna _)
  all_goals (simp (disch:=omega) only [go_sem])
 dsimp only at hj
 obtain ⟨Cg,Bc,As⟩:=hj
 simp (disch:=omega) only [go_sem]
 refine Ae (fun q=>?_) (fun q=>?_)
 .have q:j<l.length:=by simpa using q
  obtain ⟨t,et⟩:∃t,l[j]?=some t:=⟨l[j],by simp [q]⟩
  rw [A2 et,He] at As
  have O4:m<=k:=by omega
  simp (disch:=omega) only [q,Ad (Aa B8 et),go_sem]
  refine Ae (fun c=>?_) (fun c=>?_)
  .have c:t.n=n:=by simpa using c
   rw [iP c] at As
   subst As
   simp (disch:=omega) only [O4,q,Ad (Aa B8 et),go_sem]
  .have c:¬t.n=n:=by simpa using c
   rw [iN c] at As
   simp (disch:=omega) only [go_sem]
   refine ⟨(j+1,_),⟨by dsimp only;omega,by dsimp only;omega,As⟩,by dsimp only;omega,JT hf ?_ ?_ ?_ ?_ (zna _)⟩
   all_goals
    simp (disch:=omega) only [Ap j (by omega),O4,go_sem]
 .have q:j=l.length:=by simp at q;omega
  subst q
  rw [zll] at As
  have As:R=none:=As
  subst As
  simp (disch:=omega) only [go_sem]
  rfl
theorem HI (n:qB) (hp:CH) (m:Nat):Af prog 150 hp m [.s n] (.b (BU n)):=by
 unfold BU
 refine Aj func150 (tA cc150) (tB cc150) (tC cc150) rfl fun hf=>?_;unfold ck150
 simp only [z2x,go_sem]
theorem CP (n:qB) (hp:CH) (m:Nat):Af prog 123 hp m [.s n] (.b (BU n)):=by
 unfold BU
 refine Aj func123 (tA cc123) (tB cc123) (tC cc123) rfl fun hf=>?_;unfold ck123
 simp only [z2x,go_sem]
theorem TP (l:List Aw) (hl:l.length<=1000000000000) (n:qB) (hp:CH) (m:Nat):Af prog 151 hp m [B0 l,.s n] (.i .i64 (Ff l n)):=by
 have h1:=EF l hl n
 have e:Ff l n=((Az l n).getD Dz).k:=by
  unfold Ff
  cases Az l n<;>rfl
 rw [e]
 obtain ⟨R,hR⟩:=A5 (Az l n)
 rw [hR] at h1 ⊢
 rw [Eh] at h1
 refine Aj func151 (tA cc151) (tB cc151) (tC cc151) rfl fun hf=>?_;unfold ck151
 simp only [go_sem]
 refine Ac.f (h1 _ _) ?_
 simp only [go_sem]
theorem Mn (l:List Aw) (hl:l.length<=1000000000000) (n:qB) (hp:CH) (m:Nat):Af prog 114 hp m [B0 l,.s n] (.b (F0 l n)):=by
 unfold F0
 refine Aj func114 (tA cc114) (tB cc114) (tC cc114) rfl fun hf=>?_;unfold ck114
 simp only [go_sem]
 refine Ac.f (TP l hl n _ _) ?_
 simp only [go_sem]
 refine Ac.f (HI n _ _) ?_
 simp only [z2x,go_sem]
theorem Fi (l:List Aw) (hl:l.length<=1000000000000) (n:qB) (hp:CH) (m:Nat):Af prog 145 hp m [B0 l,.s n] (.b (F0 l n)):=by
 have h1:=BI l hl n
 have e:F0 l n=(!BU n&&(Az l n).isSome&&(decide (((Az l n).getD Dz).k=1)||(decide (((Az l n).getD Dz).k=2)||decide (((Az l n).getD Dz).k=3)))):=by
  unfold F0 Ff
  cases Az l n<;>simp
 rw [e]
 obtain ⟨R,hR⟩:=A5 (Az l n)
 rw [hR] at h1 ⊢
 rw [Eh] at h1
 refine Aj func145 (tA cc145) (tB cc145) (tC cc145) rfl fun hf=>?_;unfold ck145
 simp only [go_sem]
 refine Ac.f (h1 _ _) ?_
 simp only [go_sem]
 refine Ac.f (CP n _ _) ?_
 simp only [z2x,go_sem]
def G3 (k:Int):qB:=if k=1 then ⟨#[81,117,101,114,121]⟩ else if k=2 then ⟨#[77,117,116,97,116,105,111,110]⟩ else if k=3 then ⟨#[83,117,98,115,99,114,105,112,116,105,111,110]⟩ else ⟨#[]⟩
theorem Jm (k:Int) (hp:CH) (m:Nat):Af prog 8 hp m [.i .i64 k] (.s (G3 k)):=by
 refine Aj func8 (tA cc8) (tB cc8) (tC cc8) rfl fun hf=>?_;unfold ck8
 simp only [go_sem]
 repeat' (first
  | ((with_reducible refine Ae (fun _=>?_) (fun _=>?_))<;>(try simp only [go_sem]))
  | ((with_reducible refine Jo (fun _=>?_) (fun _=>?_))<;>(try simp only [go_sem]))
  | ((with_reducible refine AH.s (Ki (fun _=>?_) (fun _=>?_)))<;>(try simp only [go_sem]))
  | ((with_reducible refine GQ.m ?_ (fun _ _=>?_));rotate_left;try simp only [go_sem])
  |exact I3 (fun _=>rfl)
  |exact Hh (fun _=>⟨rfl,rfl⟩)
  | with_reducible refine And.intro ?_ ?_)
 all_goals clear hf
 all_goals grind [G3]
def VP (n:Int):Int:=IntKind.i64.wrap n
def Xo:List Cy->Int->Int
 | [],n=>n
 |f::r,n=>Xo r (VP (n+VP (f.args.length+f.dirs.length)))
def Ahu (t:Aw):Int:=VP (VP (VP (VP (VP (1+t.fields.length)+t.members.length)+t.inputs.length)+t.dirs.length)+t.impl.length)
def TY:List Aw->Int->Int
 | [],n=>n
 |t::r,n=>TY r (Xo t.fields (VP (n+Ahu t)))
def P6 (l:List Aw):Bool:=if 70<(l.length:Int) then true else decide (1000<TY l 0)
theorem RI (l:List Aw) (hl:l.length<=1000000000000) (hF:∀t∈l,t.fields.length<=1000000000000) (hp:CH) (m:Nat):Af prog 19 hp m [B0 l] (.b (P6 l)):=by
 obtain ⟨R,hR⟩:=A5 (P6 l)
 have e:=hR
 rw [P6] at e
 rw [hR]
 refine Aj func19 (tA cc19) (tB cc19) (tC cc19) rfl fun hf=>?_;unfold ck19
 simp only [go_sem]
 refine Ae (fun c=>?_) (fun c=>?_)
 .have c:70<(l.length:Int):=by simpa using c
  rw [iP c] at e
  subst e
  simp only [go_sem]
 have c:¬70<(l.length:Int):=by simpa using c
 rw [iN c] at e
 simp only [go_sem]
 refine loop (fun p:Nat×Int×Nat=>⟨[(1,.bx m 0),(3,.i .i64 p.2.1),(4,.i .i64 p.1)],(m,.bx [.ds (Ab B8 l)])::hp,p.2.2⟩)
  (fun p=>p.1<=l.length∧m+1<=p.2.2∧R=decide (1000<TY (l.drop p.1) p.2.1)) (fun p=>l.length - p.1) (0,0,m+1) ?_ ?_ (fun ⟨j,z,k⟩ hj=>?_)
 .exact ⟨by simp,by simp,e.symm⟩
 .refine Gu hf ?_ ?_ ?_ (zna _)
  all_goals (simp (disch:=omega) only [go_sem])
 dsimp only at hj
 obtain ⟨Cg,Bc,As⟩:=hj
 simp (disch:=omega) only [go_sem]
 refine Ae (fun q=>?_) (fun q=>?_)
 .have q:j<l.length:=by simpa using q
  obtain ⟨t,et⟩:∃t,l[j]?=some t:=⟨l[j],by simp [q]⟩
  have htF:=hF t (zla et)
  rw [A2 et,TY] at As
  have O4:m<=k:=by omega
  simp (disch:=omega) only [q,Ad (Aa B8 et),go_sem]
  refine loop (fun p:Nat×Int×Nat=>⟨[(1,.bx m 0),(3,.i .i64 p.2.1),(4,.i .i64 j),(5,.bx k 0),(6,.i .i64 p.1)],(m,.bx [.ds (Ab B8 l)])::(k,.bx [.i .i64 t.k,.s t.n,.ds t.impl,.ds t.dirs,.ds (Ab Bv t.fields),.ds t.members,.ds t.inputs])::hp,p.2.2⟩)
   (fun p=>p.1<=t.fields.length∧k+1<=p.2.2∧R=decide (1000<TY (l.drop (j+1)) (Xo (t.fields.drop p.1) p.2.1))) (fun p=>t.fields.length - p.1) (0,VP (z+Ahu t),k+1) ?_ ?_ (fun ⟨i,z2,k2⟩ hi=>?_)
  .exact ⟨by simp,by simp,As⟩
  .refine JT hf ?_ ?_ ?_ ?_ (zna _)
   all_goals (simp (disch:=omega) only [O4,go_sem])
   all_goals rfl
  dsimp only at hi
  obtain ⟨LX,HG,Dw⟩:=hi
  simp (disch:=omega) only [go_sem]
  refine Ae (fun q2=>?_) (fun q2=>?_)
  .have q2:i<t.fields.length:=by simpa using q2
   obtain ⟨f,ef⟩:∃f,t.fields[i]?=some f:=⟨t.fields[i],by simp [q2]⟩
   rw [A2 ef,Xo] at Dw
   simp (disch:=omega) only [q2,Ad (Aa Bv ef),go_sem]
   refine ⟨(i+1,VP (z2+VP (f.args.length+f.dirs.length)),_),⟨by dsimp only;omega,by dsimp only;omega,Dw⟩,by dsimp only;omega,JT hf ?_ ?_ ?_ ?_ (zna _)⟩
   all_goals
    simp (disch:=omega) only [Ap i (by omega),O4,VP,go_sem]
  .have q2:i=t.fields.length:=by simp at q2;omega
   subst q2
   rw [zll,Xo] at Dw
   simp (disch:=omega) only [go_sem]
   refine ⟨(j+1,z2,_),⟨by dsimp only;omega,by dsimp only;omega,Dw⟩,by dsimp only;omega,Gu hf ?_ ?_ ?_ (zna _)⟩
   all_goals
    simp (disch:=omega) only [Ap j (by omega),O4,go_sem]
 .have q:j=l.length:=by simp at q;omega
  subst q
  rw [zll,TY] at As
  subst As
  simp (disch:=omega) only [go_sem]
def AA (v:Ag) (k:qB):Option Ag:=if v.k=6 then (if 0<=ix k v.keys 0 then v.items[(ix k v.keys 0).toNat]? else none) else none
def KQ (o:Option Ag):AV:=.tp [vx (o.getD A6),.b o.isSome]
attribute [go_sem] KQ A6 Option.getD_none Option.getD_some Option.isSome_none Option.isSome_some
theorem IY (v:Ag) (hv:v.Fit) (k:qB) (hp:CH) (m:Nat):Af prog 96 hp m [vx v,.s k] (KQ (AA v k)):=by
 refine Aj func96 (tA cc96) (tB cc96) (tC cc96) rfl fun hf=>?_;unfold ck96
 have h1:=hv.l
 have h2:=Nl k v.keys 0
 simp only [go_sem]
 refine Ac.f (ID v.keys k (by omega) _ _) ?_
 simp only [go_sem]
 refine Ae (fun c=>?_) (fun c=>?_)
 .have e:AA v k=none:=by
   unfold AA
   simp at c
   grind
  rw [e]
  simp only [go_sem]
 .simp at c
  obtain ⟨x,ex⟩:∃x,v.items[(ix k v.keys 0).toNat]?=some x:=⟨v.items[(ix k v.keys 0).toNat],List.getElem?_eq_getElem (by omega)⟩
  have e:AA v k=some x:=by unfold AA;rw [iP c.1.1,iP c.1.2,ex]
  have hx:=hv.x (zla ex)
  have c3:(ix k v.keys 0).toNat<v.items.length:=by omega
  rw [e]
  simp only [c3,c.1.2,Ad (Aa Ar ex),go_sem]
  refine Ac.f (FY x hx _ _) ?_
  simp only [go_sem]
theorem DZ (h:v.k≠6):AA v k=none:=by unfold AA;rw [iN h]
theorem DA (v:Ag) (hv:v.Fit) (k:qB) (hp:CH) (m:Nat):Af prog 18 hp m [vx v,.s k] (KQ (AA v k)):=by
 refine Aj func18 (tA cc18) (tB cc18) (tC cc18) rfl fun hf=>?_;unfold ck18
 have h1:=hv.l
 have h3:=hv.i
 simp only [go_sem]
 refine Ae (fun c=>?_) (fun c=>?_)
 .have c:v.k≠6:=by simpa using c
  rw [DZ c]
  simp only [go_sem]
 have c:v.k=6:=by simpa using c
 simp only [go_sem]
 refine loop (fun p:Nat×Nat=>⟨[(1,.s k),(2,.bx m 0),(4,.bx (m+1) 0),(6,.i .i64 p.1)],(m+1,.bx [.i .i64 0,.i .i64 0,.s ⟨#[]⟩,.e0,.e0])::(m,.bx [.i .i64 v.k,.i .i64 v.n,.s v.s,.ds (Ab Ar v.items),.ds (Bd v.keys)])::hp,p.2⟩)
  (fun p=>p.1<=v.keys.length∧m+2<=p.2∧ix k v.keys 0=ix k (v.keys.drop p.1) p.1) (fun p=>v.keys.length - p.1) (0,m+2) ?_ ?_ (fun ⟨j,n⟩ hj=>?_)
 .grind
 .refine Di ?_
  simp only [go_sem]
 dsimp only at hj
 simp only [go_sem]
 refine Ae (fun d=>?_) (fun d=>?_)
 .have d:j<v.keys.length:=by simpa using d
  obtain ⟨y,ey⟩:∃y,v.keys[j]?=some y:=⟨v.keys[j],by simp [d]⟩
  have e:=A2 ey
  rw [e,ix] at hj
  simp only [d,Ad (Aa Cz ey),go_sem]
  refine Ae (fun d1=>?_) (fun d1=>?_)
  .have d1:k=y:=by simp at d1;exact d1.symm
   rw [iP d1] at hj
   simp only [go_sem]
   refine Ae (fun d2=>?_) (fun d2=>?_)
   .have e:AA v k=none:=by
     unfold AA
     rw [iP c,hj.2.2,iP (by omega),List.getElem?_eq_none (by simp at d2;omega)]
    rw [e]
    simp only [go_sem]
   .have d2:j<v.items.length:=by simp at d2;omega
    obtain ⟨x,ex⟩:∃x,v.items[j]?=some x:=⟨v.items[j],by simp [d2]⟩
    have e:AA v k=some x:=by
     unfold AA
     rw [iP c,hj.2.2,iP (by omega),Int.toNat_natCast,ex]
    rw [e]
    have hx:=hv.x (zla ex)
    simp only [d2,Ad (Aa Ar ex),go_sem]
    refine Ac.f (Pv x hx _ _) ?_
    simp only [go_sem]
  .have d1:¬k=y:=by simp at d1;exact fun e=>d1 e.symm
   rw [iN d1] at hj
   simp only [go_sem]
   refine ⟨(j+1,n),by dsimp only;omega,by dsimp only;omega,Di ?_⟩
   simp only [Ap j (by omega),go_sem]
 .have d:j=v.keys.length:=by simp at d;omega
  subst d
  rw [zll,ix] at hj
  have e:AA v k=none:=by
   unfold AA
   rw [iP c,hj.2.2,iN (by omega)]
  rw [e]
  simp only [go_sem]
theorem DC:A6.Fit:=.mk _ (by simp [A6,Ag.items_mk]) (by simp [A6,Ag.keys_mk]) (by simp [A6,Ag.items_mk])
theorem CB {x:Ag} (h:AA v k=some x):x∈v.items:=by
 unfold AA at h
 split at h
 .split at h
  .exact zla h
  .cases h
 .cases h
theorem GU (hv:v.Fit) (k:qB):((AA v k).getD A6).Fit:=by
 cases h:AA v k with
 |none=>exact DC
 |some x=>exact hv.x (CB h)
inductive Dc where
 | mk (p:List Ag) (t:qB)
end
def Dc.p:Dc->List Ag | .mk p _=>p
theorem Dc.p_mk (p:List Ag) (t:qB):(Dc.mk p t).p=p:=rfl
def Dc.t:Dc->qB | .mk _ t=>t
theorem Dc.t_mk (p:List Ag) (t:qB):(Dc.mk p t).t=t:=rfl
theorem Dc.ext {x y:Dc} (h0:x.p=y.p) (h1:x.t=y.t):x=y:=by cases x;cases y;simp only [Dc.p_mk,Dc.t_mk] at *;simp [*]
def BD (x:Dc):List AV:=[.ds (Ab Ar x.p),.s x.t]
attribute [go_sem] BD Dc.p_mk Dc.t_mk
attribute [grind =] Dc.p_mk Dc.t_mk
attribute [ext] Dc.ext
attribute [grind ext] Dc.ext
instance bytesLawful:LawfulBEq qB where
 eq_of_beq h:=by rw [DS] at h;simpa using h
 rfl:=by intro a;rw [DS];simp
def Gk (w:List Int):Bool:=decide (w.head?=some 1)
def Cp (w:List Int):List Int:=if Gk w=true then w.tail else w
def Cu (w:List Int):Bool:=decide ((Cp w).head?=some 2)
def DM (w:List Int):List Int:=(Cp w).tail
theorem C8 (w:List Int):(Cp w).length<=w.length:=by
 unfold Cp
 split
 .simp
 .exact zna _
theorem Lw (w:List Int):(DM w).length<=w.length:=by
 have:=C8 w
 simp only [DM,List.length_tail]
 omega
def Hu (l:List (List AV)):List qB:=l.map fun e=>match e with
 | [.s x]=>x
 |_=>⟨#[]⟩
theorem Afh (l:List qB):Hu (Bd l)=l:=by
 induction l with
 |nil=>rfl
 |cons x l ih=>
  have:Hu (Bd (x::l))=x::Hu (Bd l):=rfl
  rw [this,ih]
def F7 (l:List (List AV)):List qB:=l.map fun e=>match e with
 | .s x::_=>x
 |_=>⟨#[]⟩
structure DefOk (t:Aw):Prop where
 impl:t.impl=Bd (Hu t.impl)
 mem:∀e∈t.members,∃x y,e=[.s x,.ds y]
def Mp (t:Aw) (name:qB) (x:Aw):Bool :=
 (decide (t.k=1)&&decide (x.n=name))||((decide (t.k=2)&&decide (name∈Hu x.impl))||(decide (t.k=3)&&decide (x.n∈F7 t.members)))
def GG (t:Aw) (name:qB):List qB->List Aw->List qB
 |_,[]=>[]
 |seen,x::r=>if x.n ∉ seen∧x.k=1∧Mp t name x=true then x.n::GG t name (seen++[x.n]) r else GG t name (seen++[x.n]) r
def Et (doc:List Aw) (name:qB):List qB:=match Az doc name with
 |none=>[]
 |some t=>GG t name [] doc
theorem I2 (t:Aw) (name:qB):∀(l:List Aw) (seen:List qB),(GG t name seen l).length<=l.length
 | [],seen=>by simp [GG]
 |x::r,seen=>by
  rw [GG]
  split
  .simp only [zlc]
   have:=I2 t name r (seen++[x.n])
   omega
  .simp only [zlc]
   have:=I2 t name r (seen++[x.n])
   omega
theorem LA (doc:List Aw) (name:qB):(Et doc name).length<=doc.length:=by
 unfold Et
 split
 .simp
 .exact I2 _ _ _ _
theorem MQ (t:Aw) (name:qB) (x:Aw):∀(l:List Aw) (seen:List qB),GG t name seen (l++[x])=GG t name seen l++(if x.n ∉ seen++l.map Aw.n∧x.k=1∧Mp t name x=true then [x.n] else [])
 | [],seen=>by
  rw [List.nil_append,GG,GG,GG,List.map_nil,List.append_nil]
  split<;>simp
 |y::l,seen=>by
  have e:seen++(y::l).map Aw.n=(seen++[y.n])++l.map Aw.n:=by simp
  rw [zlh,GG,GG,MQ t name x l,e]
  split<;>simp
def Fo (n:Int):Ag:=.mk 2 n ⟨#[]⟩ [] []
def enV (s:qB):Ag:=.mk 4 0 s [] []
def boV (n:Int):Ag:=.mk 1 n ⟨#[]⟩ [] []
def IM (l:List Ag):Ag:=.mk 5 0 ⟨#[]⟩ l []
def EV (ks:List qB) (l:List Ag):Ag:=.mk 6 0 ⟨#[]⟩ l ks
def H1:qB:=⟨#[73,110,116]⟩
def BF:qB:=⟨#[83,116,114,105,110,103]⟩
def B2:qB:=⟨#[66,111,111,108,101,97,110]⟩
def Gy:qB:=⟨#[73,68]⟩
def GN:qB:=⟨#[110,117,108,108]⟩
def CR:qB:=⟨#[116,121,112,101]⟩
def Ju (n:qB) (v:Ag):Option Ag :=
 if n=H1∧v.k=2∧-2147483648<=v.n∧v.n<=2147483647 then some (Fo v.n)
 else if (n=BF∨n=Gy)∧v.k=3 then some (CW v.s)
 else if n=Gy∧v.k=2 then some (CW (Uv (Lib.itoa v.n)))
 else if n=B2∧v.k=1 then some (boV v.n)
 else none
def EK (doc:List Aw) (n:qB) (v:Ag):Option Ag :=
 if BU n=true then Ju n v
 else if Ff doc n=4∧v.k=4∧v.s∈F7 ((Az doc n).getD Dz).members then some (enV v.s) else none
def Ex (doc:List Aw) (n:qB):Bool:=BU n||decide (Ff doc n=4)
abbrev Gt:=Ag × List Dc
abbrev GZ:=qB->List Int->List Pk->List Ag->Gt
def Ey (path:List Ag) (s:qB):Gt:=(A6,[.mk path s])
def Ja (tw:List Int) (path:List Ag):Gt:=if Gk tw=true then Ey path GN else (A6,[])
def zFn:GZ:=fun _ tw _ path=>Ja tw path
def Fu (tw:List Int) (v:Ag):Bool:=decide (v.k=0)&&Gk tw
def Gz (fs:List GZ) (j:Nat) (tn:qB) (tw:List Int) (picks:List Pk) (path:List Ag):List Gt:=match fs with
 | []=>[]
 |f::r=>f tn tw picks (path++[Fo j])::Gz r (j+1) tn tw picks path
def itF (ks:List qB) (fs:List GZ) (key:qB):GZ:=if 0<=ix key ks 0 then (fs[(ix key ks 0).toNat]?).getD zFn else zFn
def Gx (ks:List qB) (fs:List GZ) (on:qB) (path:List Ag) (picks:List Pk):List (Pk×Gt) :=
 (picks.filter fun p=>decide (p.on=on)).map fun p=>(p,itF ks fs p.key p.tn p.tw p.picks (path++[CW p.key]))
def Gl (fs:List GZ) (tn:qB) (tw:List Int) (picks:List Pk) (path:List Ag):Gt :=
 ((if (Gz fs 0 tn tw picks path).any (fun r=>Fu tw r.1)=true then A6 else IM ((Gz fs 0 tn tw picks path).map (·.1))),(Gz fs 0 tn tw picks path).flatMap (·.2))
def H0 (ks:List qB) (fs:List GZ) (on:qB) (picks:List Pk) (path:List Ag):Gt :=
 ((if (Gx ks fs on path picks).any (fun r=>Fu r.1.tw r.2.1)=true then A6 else EV ((Gx ks fs on path picks).map (·.1.key)) ((Gx ks fs on path picks).map (·.2.1))),(Gx ks fs on path picks).flatMap (·.2.2))
def typO (v:Ag):Option qB:=match AA v sT with
 |none=>none
 |some t=>if t.k=3 then some t.s else none
def JW (doc:List Aw) (v:Ag) (fs:List GZ):GZ:=fun tn tw picks path=>
 if v.k=9 then Ey path v.s
 else if v.k=0 then Ja tw path
 else if Cu (Cp tw)=true then (if v.k=5 then Gl fs tn (DM (Cp tw)) picks path else Ey path CR)
 else if Ex doc tn=true then (match EK doc tn v with
  |some x=>(x,[])
  |none=>Ey path CR)
 else match typO v with
  |none=>Ey path CR
  |some on=>if F0 doc tn=true∧on∈Et doc tn then H0 v.keys fs on picks path else Ey path CR
mutual
def A7 (doc:List Aw):Ag->GZ
 | .mk k n s i l=>JW doc (.mk k n s i l) (Yl doc i)
def Yl (doc:List Aw):List Ag->List GZ
 | []=>[]
 |v::r=>A7 doc v::Yl doc r
end
theorem Y7 (doc:List Aw) (l:List Ag):Yl doc l=l.map (A7 doc):=by
 induction l with
 |nil=>rw [Yl];rfl
 |cons v l ih=>rw [Yl,ih,List.map_cons]
theorem CV (doc:List Aw) (v:Ag):A7 doc v=JW doc v (v.items.map (A7 doc)):=by
 cases v
 rw [A7,Y7]
 rfl
theorem NV (doc:List Aw):A7 doc A6=zFn:=by
 rw [CV]
 funext tn tw picks path
 rfl
theorem Ho (doc:List Aw) (v:Ag) (hv:v.k=6) (key:qB):itF v.keys (v.items.map (A7 doc)) key=A7 doc ((AA v key).getD A6):=by
 unfold itF AA
 rw [iP hv]
 split
 .rw [List.getElem?_map]
  cases v.items[(ix key v.keys 0).toNat]? with
  |none=>exact (NV doc).symm
  |some x=>rfl
 .exact (NV doc).symm
theorem Kk:∀(fs:List GZ) (j:Nat) (tn:qB) (tw:List Int) (picks:List Pk) (path:List Ag),(Gz fs j tn tw picks path).length=fs.length
 | [],j,tn,tw,picks,path=>by rw [Gz];rfl
 |f::r,j,tn,tw,picks,path=>by rw [Gz,zlc,zlc,Kk r]
theorem PV (f:GZ):∀(fs:List GZ) (j:Nat) (tn:qB) (tw:List Int) (picks:List Pk) (path:List Ag),Gz (fs++[f]) j tn tw picks path=Gz fs j tn tw picks path++[f tn tw picks (path++[Fo (j+fs.length:Nat)])]
 | [],j,tn,tw,picks,path=>by rw [List.nil_append,Gz,Gz,Gz];rfl
 |x::fs,j,tn,tw,picks,path=>by
  rw [zlh,Gz,Gz,PV f fs,zlh,zlc]
  have e:(j+1+fs.length:Nat)=j+(fs.length+1):=by omega
  rw [e]
theorem Wg (ks:List qB) (fs:List GZ) (on:qB) (path:List Ag) (l:List Pk) (p:Pk) :
 Gx ks fs on path (l++[p])=if p.on=on then Gx ks fs on path l++[(p,itF ks fs p.key p.tn p.tw p.picks (path++[CW p.key]))] else Gx ks fs on path l:=by
 unfold Gx
 rw [List.filter_append,List.map_append]
 by_cases c:p.on=on
 .rw [iP c];simp [c]
 .rw [iN c];simp [c]
theorem Ov {v:Ag} {on:qB} (h:typO v=some on):v.k=6:=by
 unfold typO AA at h
 split at h
 .cases h
 .rename_i t ht
  split at ht
  .assumption
  .cases ht
