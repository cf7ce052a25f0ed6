/- Proof. Conditions: none. -/
import Derived.Lib.ItoaLen
import Derived.Lib.Join
import Derived.Test.YtgfidgoefioigaaGreatDoorIk20
noncomputable section
open Bool renaming or_assoc->z39
open Go.Proofs.Tryz
open List renaming mem_of_getElem?->zla,length_cons->zlc,cons_append->zlh,drop_length->zll
open Nat renaming le_refl->zna
namespace Go.Proofs.YtgfidgoefioigaaGreatDoor
open Go.Eng
set_option linter.all false
set_option maxRecDepth 20000
theorem Agm {α:Type} {k j:Nat} (h:¬k=j) (a b:α):(if k=j then a else b)=b:=iN h
attribute [go_sem] Agm
inductive Jn where
 | mk (t:qB) (f:qB) (g:Int) (x:Bool) (req:List qB) (prov:List qB)
def Jn.t:Jn->qB | .mk t _ _ _ _ _=>t
theorem Jn.t_mk (t:qB) (f:qB) (g:Int) (x:Bool) (req:List qB) (prov:List qB):(Jn.mk t f g x req prov).t=t:=rfl
def Jn.f:Jn->qB | .mk _ f _ _ _ _=>f
theorem Jn.f_mk (t:qB) (f:qB) (g:Int) (x:Bool) (req:List qB) (prov:List qB):(Jn.mk t f g x req prov).f=f:=rfl
def Jn.g:Jn->Int | .mk _ _ g _ _ _=>g
theorem Jn.g_mk (t:qB) (f:qB) (g:Int) (x:Bool) (req:List qB) (prov:List qB):(Jn.mk t f g x req prov).g=g:=rfl
def Jn.x:Jn->Bool | .mk _ _ _ x _ _=>x
theorem Jn.x_mk (t:qB) (f:qB) (g:Int) (x:Bool) (req:List qB) (prov:List qB):(Jn.mk t f g x req prov).x=x:=rfl
def Jn.req:Jn->List qB | .mk _ _ _ _ req _=>req
theorem Jn.req_mk (t:qB) (f:qB) (g:Int) (x:Bool) (req:List qB) (prov:List qB):(Jn.mk t f g x req prov).req=req:=rfl
def Jn.prov:Jn->List qB | .mk _ _ _ _ _ prov=>prov
theorem Jn.prov_mk (t:qB) (f:qB) (g:Int) (x:Bool) (req:List qB) (prov:List qB):(Jn.mk t f g x req prov).prov=prov:=rfl
theorem Jn.ext {x y:Jn} (h0:x.t=y.t) (h1:x.f=y.f) (h2:x.g=y.g) (h3:x.x=y.x) (h4:x.req=y.req) (h5:x.prov=y.prov):x=y:=by cases x;cases y;simp only [Jn.t_mk,Jn.f_mk,Jn.g_mk,Jn.x_mk,Jn.req_mk,Jn.prov_mk] at *;simp [*]
attribute [go_sem] Jn.t_mk Jn.f_mk Jn.g_mk Jn.x_mk Jn.req_mk Jn.prov_mk
attribute [grind =] Jn.t_mk Jn.f_mk Jn.g_mk Jn.x_mk Jn.req_mk Jn.prov_mk
attribute [ext] Jn.ext
attribute [grind ext] Jn.ext
inductive Cr where
 | mk (n:qB) (args:List (List AV)) (tn:qB) (tw:List (List AV)) (dirs:List (List AV))
def Cr.n:Cr->qB | .mk n _ _ _ _=>n
theorem Cr.n_mk (n:qB) (args:List (List AV)) (tn:qB) (tw:List (List AV)) (dirs:List (List AV)):(Cr.mk n args tn tw dirs).n=n:=rfl
def Cr.args:Cr->List (List AV) | .mk _ args _ _ _=>args
theorem Cr.args_mk (n:qB) (args:List (List AV)) (tn:qB) (tw:List (List AV)) (dirs:List (List AV)):(Cr.mk n args tn tw dirs).args=args:=rfl
def Cr.tn:Cr->qB | .mk _ _ tn _ _=>tn
theorem Cr.tn_mk (n:qB) (args:List (List AV)) (tn:qB) (tw:List (List AV)) (dirs:List (List AV)):(Cr.mk n args tn tw dirs).tn=tn:=rfl
def Cr.tw:Cr->List (List AV) | .mk _ _ _ tw _=>tw
theorem Cr.tw_mk (n:qB) (args:List (List AV)) (tn:qB) (tw:List (List AV)) (dirs:List (List AV)):(Cr.mk n args tn tw dirs).tw=tw:=rfl
def Cr.dirs:Cr->List (List AV) | .mk _ _ _ _ dirs=>dirs
theorem Cr.dirs_mk (n:qB) (args:List (List AV)) (tn:qB) (tw:List (List AV)) (dirs:List (List AV)):(Cr.mk n args tn tw dirs).dirs=dirs:=rfl
theorem Cr.ext {x y:Cr} (h0:x.n=y.n) (h1:x.args=y.args) (h2:x.tn=y.tn) (h3:x.tw=y.tw) (h4:x.dirs=y.dirs):x=y:=by cases x;cases y;simp only [Cr.n_mk,Cr.args_mk,Cr.tn_mk,Cr.tw_mk,Cr.dirs_mk] at *;simp [*]
def Bu (x:Cr):List AV:=[.s x.n,.ds x.args,.s x.tn,.ds x.tw,.ds x.dirs]
theorem Kj (l:List Cr):Eu 5 (Ab Bu l)=True:=Em fun _=>⟨rfl,rfl⟩
attribute [go_sem] Kj
attribute [go_sem] Bu Cr.n_mk Cr.args_mk Cr.tn_mk Cr.tw_mk Cr.dirs_mk
attribute [grind =] Cr.n_mk Cr.args_mk Cr.tn_mk Cr.tw_mk Cr.dirs_mk
attribute [ext] Cr.ext
attribute [grind ext] Cr.ext
inductive Av where
 | mk (k:Int) (n:qB) (impl:List (List AV)) (dirs:List (List AV)) (fields:List Cr) (members:List (List AV)) (inputs:List (List AV))
def Av.k:Av->Int | .mk k _ _ _ _ _ _=>k
theorem Av.k_mk (k:Int) (n:qB) (impl:List (List AV)) (dirs:List (List AV)) (fields:List Cr) (members:List (List AV)) (inputs:List (List AV)):(Av.mk k n impl dirs fields members inputs).k=k:=rfl
def Av.n:Av->qB | .mk _ n _ _ _ _ _=>n
theorem Av.n_mk (k:Int) (n:qB) (impl:List (List AV)) (dirs:List (List AV)) (fields:List Cr) (members:List (List AV)) (inputs:List (List AV)):(Av.mk k n impl dirs fields members inputs).n=n:=rfl
def Av.impl:Av->List (List AV) | .mk _ _ impl _ _ _ _=>impl
theorem Av.impl_mk (k:Int) (n:qB) (impl:List (List AV)) (dirs:List (List AV)) (fields:List Cr) (members:List (List AV)) (inputs:List (List AV)):(Av.mk k n impl dirs fields members inputs).impl=impl:=rfl
def Av.dirs:Av->List (List AV) | .mk _ _ _ dirs _ _ _=>dirs
theorem Av.dirs_mk (k:Int) (n:qB) (impl:List (List AV)) (dirs:List (List AV)) (fields:List Cr) (members:List (List AV)) (inputs:List (List AV)):(Av.mk k n impl dirs fields members inputs).dirs=dirs:=rfl
def Av.fields:Av->List Cr | .mk _ _ _ _ fields _ _=>fields
theorem Av.fields_mk (k:Int) (n:qB) (impl:List (List AV)) (dirs:List (List AV)) (fields:List Cr) (members:List (List AV)) (inputs:List (List AV)):(Av.mk k n impl dirs fields members inputs).fields=fields:=rfl
def Av.members:Av->List (List AV) | .mk _ _ _ _ _ members _=>members
theorem Av.members_mk (k:Int) (n:qB) (impl:List (List AV)) (dirs:List (List AV)) (fields:List Cr) (members:List (List AV)) (inputs:List (List AV)):(Av.mk k n impl dirs fields members inputs).members=members:=rfl
def Av.inputs:Av->List (List AV) | .mk _ _ _ _ _ _ inputs=>inputs
theorem Av.inputs_mk (k:Int) (n:qB) (impl:List (List AV)) (dirs:List (List AV)) (fields:List Cr) (members:List (List AV)) (inputs:List (List AV)):(Av.mk k n impl dirs fields members inputs).inputs=inputs:=rfl
theorem Av.ext {x y:Av} (h0:x.k=y.k) (h1:x.n=y.n) (h2:x.impl=y.impl) (h3:x.dirs=y.dirs) (h4:x.fields=y.fields) (h5:x.members=y.members) (h6:x.inputs=y.inputs):x=y:=by cases x;cases y;simp only [Av.k_mk,Av.n_mk,Av.impl_mk,Av.dirs_mk,Av.fields_mk,Av.members_mk,Av.inputs_mk] at *;simp [*]
def BB (x:Av):List AV:=[.i .i64 x.k,.s x.n,.ds x.impl,.ds x.dirs,.ds (Ab Bu x.fields),.ds x.members,.ds x.inputs]
attribute [go_sem] BB Av.k_mk Av.n_mk Av.impl_mk Av.dirs_mk Av.fields_mk Av.members_mk Av.inputs_mk
attribute [grind =] Av.k_mk Av.n_mk Av.impl_mk Av.dirs_mk Av.fields_mk Av.members_mk Av.inputs_mk
attribute [ext] Av.ext
attribute [grind ext] Av.ext
inductive Hk where
 | mk (g:List qB) (doc:List Av) (keys:List Ky) (joins:List Jn)
def Hk.g:Hk->List qB | .mk g _ _ _=>g
theorem Hk.g_mk (g:List qB) (doc:List Av) (keys:List Ky) (joins:List Jn):(Hk.mk g doc keys joins).g=g:=rfl
def Hk.doc:Hk->List Av | .mk _ doc _ _=>doc
theorem Hk.doc_mk (g:List qB) (doc:List Av) (keys:List Ky) (joins:List Jn):(Hk.mk g doc keys joins).doc=doc:=rfl
def Hk.keys:Hk->List Ky | .mk _ _ keys _=>keys
theorem Hk.keys_mk (g:List qB) (doc:List Av) (keys:List Ky) (joins:List Jn):(Hk.mk g doc keys joins).keys=keys:=rfl
def Hk.joins:Hk->List Jn | .mk _ _ _ joins=>joins
theorem Hk.joins_mk (g:List qB) (doc:List Av) (keys:List Ky) (joins:List Jn):(Hk.mk g doc keys joins).joins=joins:=rfl
theorem Hk.ext {x y:Hk} (h0:x.g=y.g) (h1:x.doc=y.doc) (h2:x.keys=y.keys) (h3:x.joins=y.joins):x=y:=by cases x;cases y;simp only [Hk.g_mk,Hk.doc_mk,Hk.keys_mk,Hk.joins_mk] at *;simp [*]
attribute [go_sem] Hk.g_mk Hk.doc_mk Hk.keys_mk Hk.joins_mk
attribute [grind =] Hk.g_mk Hk.doc_mk Hk.keys_mk Hk.joins_mk
attribute [ext] Hk.ext
attribute [grind ext] Hk.ext
abbrev B9 (l:List Av):AV:=.ag [.ds (Ab BB l)]
abbrev Lw (t:Av):AV:=.ag [.i .i64 t.k,.s t.n,.ds t.impl,.ds t.dirs,.ds (Ab Bu t.fields),.ds t.members,.ds t.inputs]
abbrev pkx (p:Pk):AV:=.ag [.s p.key,.s p.on,.s p.name,.ds (Ab B7 p.args),.s p.tn,.ds (Ab D2 p.tw),.s p.label,.i .i64 p.initial,.ds (Ab Bi p.picks)]
theorem ZG (l:List Cr):(∀e,e∈Ab Bu l->e.length=5)=True:=eq_true fun e h=>((of_eq_true (Kj l)) e h).1
attribute [go_sem] ZG B7
inductive Ag.Rng:Ag->Prop
 | mk (v:Ag):-9223372036854775808<=v.n->v.n<=9223372036854775807->(∀x∈v.items,Ag.Rng x)->Ag.Rng v
theorem Ag.Rng.l {v:Ag} (h:v.Rng):-9223372036854775808<=v.n:=by cases h;assumption
theorem Ag.Rng.u {v:Ag} (h:v.Rng):v.n<=9223372036854775807:=by cases h;assumption
theorem Ag.Rng.x {v:Ag} (h:v.Rng) {x:Ag} (hx:x∈v.items):x.Rng:=by cases h with | mk _ _ _ h=>exact h x hx
def TU (l:List UInt8):qB:=⟨l.toArray⟩
theorem WJ (l:List UInt8):ByteArray.mk l.toArray=TU l:=rfl
theorem Tw (a b:List UInt8):TU a++TU b=TU (a++b):=by
 apply ByteArray.ext
 rw [ByteArray.data_append]
 simp [TU]
theorem P0 (l:List UInt8):(TU l).size=l.length:=by simp [TU,ByteArray.size]
theorem Sn {x:List AV}:∀{l:List (List AV)},x∈l->BO x<=Df l
 |y::l,h=>by
  rw [Df]
  rcases List.mem_cons.1 h with rfl | h
  .omega
  .have:=Sn h
   omega
theorem YI (v:Ag):BO (Aw v)=v.s.size+Df (Ab Aw v.items)+Df (Bq v.keys)+5:=by
 rw [B3]
 simp only [BO,ET]
 omega
def Ay (l:List Av) (n:qB):Option Av:=l.find? fun t=>decide (t.n=n)
def BV (n:qB):Bool:=decide (n=⟨#[73,110,116]⟩)||(decide (n=⟨#[83,116,114,105,110,103]⟩)||(decide (n=⟨#[66,111,111,108,101,97,110]⟩)||decide (n=⟨#[73,68]⟩)))
def Fq (l:List Av) (n:qB):Int:=((Ay l n).map Av.k).getD 0
def FU (l:List Av) (n:qB):Bool:=!BV n&&(decide (Fq l n=1)||(decide (Fq l n=2)||decide (Fq l n=3)))
def sT:qB:=⟨#[95,95,116]⟩
open Go.Eng Go.KL
set_option maxRecDepth 100000
def ck8:CC:=cK (a:=cF [] [] [] f8) (by delta f8;simp only [go_sem];rfl)
theorem cc8:A4 f8=(false,some ck8.erase,some [(.t 2)]):=by kernel_rfl
def ck19:CC:=cK (a:=cF [] [] [] f19) (by delta f19;simp (config := { maxSteps := 9999999 }) only [go_sem];rfl)
theorem cc19:A4 f19=(false,some ck19.erase,some [(.t 2)]):=by kernel_rfl
def ck36:CC:=cK (a:=cF [] [] [] f36) (by delta f36;simp only [go_sem];rfl)
theorem cc36:A4 f36=(false,some ck36.erase,some [(.c 10 5 true),(.t 11)]):=by kernel_rfl
def ck37:CC:=cK (a:=cF [] [] [] f37) (by delta f37;simp only [go_sem];rfl)
theorem cc37:A4 f37=(false,some ck37.erase,some [(.c 2 2 true)]):=by kernel_rfl
def ck46:CC:=cK (a:=cF [] [] [] f46) (by delta f46;simp only [go_sem];rfl)
theorem cc46:A4 f46=(false,some ck46.erase,some [(.c 4 7 true),(.t 5)]):=by kernel_rfl
def ck72:CC:=cK (a:=cF [] [] [] f72) (by delta f72;simp (config := { maxSteps := 9999999 }) only [go_sem];rfl)
theorem cc72:A4 f72=(false,some ck72.erase,some [(.c 10 5 true)]):=by kernel_rfl
def ck73:CC:=cK (a:=cF [] [] [] f73) (by delta f73;simp only [go_sem];rfl)
theorem cc73:A4 f73=(false,some ck73.erase,some [(.t 2)]):=by kernel_rfl
def ck90:CC:=cK (a:=cF [] [] [] f90) (by delta f90;simp (config := { maxSteps := 9999999 }) only [go_sem];rfl)
theorem cc90:A4 f90=(false,some ck90.erase,some [(.t 4)]):=by kernel_rfl
def ck99:CC:=cK (a:=cF [] [] [] f99) (by delta f99;simp only [go_sem];rfl)
theorem cc99:A4 f99=(false,some ck99.erase,some [(.c 2 2 true),(.t 3)]):=by kernel_rfl
def ck101:CC:=cK (a:=cF [] [] [] f101) (by delta f101;simp only [go_sem];rfl)
theorem cc101:A4 f101=(false,some ck101.erase,some [(.t 2)]):=by kernel_rfl
def ck104:CC:=cK (a:=cF [] [9] [] f104) (by delta f104;simp only [go_sem];rfl)
theorem cc104:A4 f104=(false,some ck104.erase,some [(.c 2 2 true)]):=by kernel_rfl
def ck106:CC:=cK (a:=cF [] [] [] f106) (by delta f106;simp only [go_sem];rfl)
theorem cc106:A4 f106=(false,some ck106.erase,some [(.c 2 2 true),(.t 3)]):=by kernel_rfl
def ck107:CC:=cK (a:=cF [] [] [] f107) (by delta f107;simp only [go_sem];rfl)
theorem cc107:A4 f107=(false,some ck107.erase,some [(.c 6 5 true)]):=by kernel_rfl
def ck108:CC:=cK (a:=cF [] [] [] f108) (by delta f108;simp only [go_sem];rfl)
theorem cc108:A4 f108=(false,some ck108.erase,some [(.c 2 2 true)]):=by kernel_rfl
def ck109:CC:=cK (a:=cF [] [] [] f109) (by delta f109;simp only [go_sem];rfl)
theorem cc109:A4 f109=(false,some ck109.erase,some [(.t 2)]):=by kernel_rfl
def ck110:CC:=cK (a:=cF [] [] [(36,[7,6,5])] f110) (by delta f110;simp (config := { maxSteps := 9999999 }) only [go_sem];rfl)
theorem cc110:A4 f110=(false,some ck110.erase,some [(.c 10 5 true)]):=by kernel_rfl
def ck111:CC:=cK (a:=cF [] [] [] f111) (by delta f111;simp only [go_sem];rfl)
theorem cc111:A4 f111=(false,some ck111.erase,some [(.t 4)]):=by kernel_rfl
def ck112:CC:=cK (a:=cF [] [] [] f112) (by delta f112;simp only [go_sem];rfl)
theorem cc112:A4 f112=(false,some ck112.erase,some [(.c 6 5 true),(.t 7)]):=by kernel_rfl
def ck113:CC:=cK (a:=cF [] [] [] f113) (by delta f113;simp only [go_sem];rfl)
theorem cc113:A4 f113=(false,some ck113.erase,some [(.t 2),(.t 3)]):=by kernel_rfl
def ck114:CC:=cK (a:=cF [] [] [] f114) (by delta f114;simp only [go_sem];rfl)
theorem cc114:A4 f114=(false,some ck114.erase,some [(.t 4)]):=by kernel_rfl
def ck115:CC:=cK (a:=cF [] [] [] f115) (by delta f115;simp only [go_sem];rfl)
theorem cc115:A4 f115=(false,some ck115.erase,some [(.t 6)]):=by kernel_rfl
def ck116:CC:=cK (a:=cF [] [] [(50,[10,9,8])] f116) (by delta f116;simp (config := { maxSteps := 9999999 }) only [go_sem];rfl)
theorem cc116:A4 f116=(false,some ck116.erase,some [(.c 10 5 true)]):=by kernel_rfl
def ck123:CC:=cK (a:=cF [] [] [] f123) (by delta f123;simp only [go_sem];rfl)
theorem cc123:A4 f123=(false,some ck123.erase,some [(.t 2)]):=by kernel_rfl
def ck132:CC:=cK (a:=cF [] [] [] f132) (by delta f132;simp only [go_sem];rfl)
theorem cc132:A4 f132=(false,some ck132.erase,some [(.t 4)]):=by kernel_rfl
def ck134:CC:=cK (a:=cF [] [] [] f134) (by delta f134;simp only [go_sem];rfl)
theorem cc134:A4 f134=(false,some ck134.erase,some [(.t 4)]):=by kernel_rfl
def ck136:CC:=cK (a:=cF [] [] [] f136) (by delta f136;simp only [go_sem];rfl)
theorem cc136:A4 f136=(false,some ck136.erase,some [(.t 4)]):=by kernel_rfl
def ck137:CC:=cK (a:=cF [] [] [] f137) (by delta f137;simp only [go_sem];rfl)
theorem cc137:A4 f137=(false,some ck137.erase,some [(.t 2)]):=by kernel_rfl
def ck142:CC:=cK (a:=cF [] [] [] f142) (by delta f142;simp only [go_sem];rfl)
theorem cc142:A4 f142=(false,some ck142.erase,some [(.t 4)]):=by kernel_rfl
def ck146:CC:=cK (a:=cF [] [] [] f146) (by delta f146;simp only [go_sem];rfl)
theorem cc146:A4 f146=(false,some ck146.erase,some [(.t 6)]):=by kernel_rfl
def ck148:CC:=cK (a:=cF [] [5] [] f148) (by delta f148;simp only [go_sem];rfl)
theorem cc148:A4 f148=(false,some ck148.erase,some [(.c 2 2 true)]):=by kernel_rfl
def ck150:CC:=cK (a:=cF [] [] [] f150) (by delta f150;simp only [go_sem];rfl)
theorem cc150:A4 f150=(false,some ck150.erase,some [(.t 2)]):=by kernel_rfl
def ck151:CC:=cK (a:=cF [] [] [] f151) (by delta f151;simp only [go_sem];rfl)
theorem cc151:A4 f151=(false,some ck151.erase,some [(.t 4)]):=by kernel_rfl
def ck152:CC:=cK (a:=cF [] [] [] f152) (by delta f152;simp (config := { maxSteps := 9999999 }) only [go_sem];rfl)
theorem cc152:A4 f152=(false,some ck152.erase,some [(.c 4 5 true),(.t 5)]):=by kernel_rfl
def ck153:CC:=cK (a:=cF [] [] [] f153) (by delta f153;simp only [go_sem];rfl)
theorem cc153:A4 f153=(false,some ck153.erase,some [(.c 4 7 true),(.t 5)]):=by kernel_rfl
def ck154:CC:=cK (a:=cF [] [] [] f154) (by delta f154;simp only [go_sem];rfl)
theorem cc154:A4 f154=(false,some ck154.erase,some [(.t 4)]):=by kernel_rfl
def ck155:CC:=cK (a:=cF [] [] [] f155) (by delta f155;simp only [go_sem];rfl)
theorem cc155:A4 f155=(false,some ck155.erase,some [(.t 3)]):=by kernel_rfl
def ck157:CC:=cK (a:=cF [] [] [] f157) (by delta f157;simp (config := { maxSteps := 9999999 }) only [go_sem];rfl)
theorem cc157:A4 f157=(false,some ck157.erase,some [(.t 4)]):=by kernel_rfl
def ck170:CC:=cK (a:=cF [] [] [] f170) (by delta f170;simp only [go_sem];rfl)
theorem cc170:A4 f170=(false,some ck170.erase,some [(.t 2)]):=by kernel_rfl
def ck171:CC:=cK (a:=cF [] [] [] f171) (by delta f171;simp only [go_sem];rfl)
theorem cc171:A4 f171=(false,some ck171.erase,some [(.t 2)]):=by kernel_rfl
def ck172:CC:=cK (a:=cF [] [] [] f172) (by delta f172;simp only [go_sem];rfl)
theorem cc172:A4 f172=(false,some ck172.erase,some [(.t 4)]):=by kernel_rfl
def ck173:CC:=cK (a:=cF [] [] [] f173) (by delta f173;simp only [go_sem];rfl)
theorem cc173:A4 f173=(false,some ck173.erase,some [(.t 4)]):=by kernel_rfl
def ck177:CC:=cK (a:=cF [] [8] [] f177) (by delta f177;simp only [go_sem];rfl)
theorem cc177:A4 f177=(false,some ck177.erase,some [(.t 2)]):=by kernel_rfl
set_option maxRecDepth 20000
section
variable {v:Ag} {k:qB}
def DJ:Av:=.mk 0 ⟨#[]⟩ [] [] [] [] []
def Eh (o:Option Av):AV:=.tp [Lw (o.getD DJ),.b o.isSome]
theorem GK (t:Av) (l:List Av) (n:qB):Ay (t::l) n=if t.n=n then some t else Ay l n:=by
 unfold Ay
 rw [List.find?_cons]
 by_cases c:t.n=n
 .simp [c]
 .simp [c]
theorem Ez (l:List Av) (hl:l.length<=1000000000000) (n:qB) (hp:CH) (m:Nat):Ae prog 153 hp m [B9 l,.s n] (Eh (Ay l n)):=by
 obtain ⟨R,hR⟩:=A7 (Ay l n)
 rw [hR,Eh]
 refine Al func153 (tA cc153) (tB cc153) (tC cc153) rfl fun hf=>?_;unfold ck153
 simp only [go_sem]
 refine loop (fun p:Nat×Nat=>⟨[(1,.s n),(4,.bx (m+1) 0),(9,.ds (Ab BB l)),(10,.i .i64 l.length),(11,.i .i64 p.1)],(m+1,.bx [.i .i64 0,.s ⟨#[]⟩,.e0,.e0,.e0,.e0,.e0])::hp,p.2⟩)
  (fun p=>p.1<=l.length∧m+2<=p.2∧R=Ay (l.drop p.1) n) (fun p=>l.length - p.1) (0,m+2) ?_ ?_ (fun ⟨j,k⟩ hj=>?_)
 .exact ⟨by simp,by simp,hR.symm⟩
 .refine Fo hf ?_ ?_ ?_ (zna _)
  all_goals (simp (disch:=omega) only [go_sem])
 dsimp only at hj
 obtain ⟨Cq,Be,At⟩:=hj
 simp (disch:=omega) only [go_sem]
 refine Af (fun q=>?_) (fun q=>?_)
 .have q:j<l.length:=by simpa using q
  obtain ⟨t,et⟩:∃t,l[j]?=some t:=⟨l[j],by simp [q]⟩
  rw [A2 et,GK] at At
  have NL:m<=k:=by omega
  simp (disch:=omega) only [q,Ad (Aa BB et),go_sem]
  refine Af (fun c=>?_) (fun c=>?_)
  .have c:t.n=n:=by simpa using c
   rw [iP c] at At
   subst At
   simp (disch:=omega) only [NL,go_sem]
  .have c:¬t.n=n:=by simpa using c
   rw [iN c] at At
   simp (disch:=omega) only [go_sem]
   refine ⟨(j+1,_),⟨by dsimp only;omega,by dsimp only;omega,At⟩,by dsimp only;omega,Fo hf ?_ ?_ ?_ (zna _)⟩
   all_goals
    simp (disch:=omega) only [Ao j (by omega),NL,go_sem]
 .have q:j=l.length:=by simp at q;omega
  subst q
  rw [zll] at At
  have At:R=none:=At
  subst At
  simp (disch:=omega) only [go_sem]
  rfl
theorem BW (l:List Av) (hl:l.length<=1000000000000) (n:qB) (hp:CH) (m:Nat):Ae prog 46 hp m [B9 l,.s n] (Eh (Ay l n)):=by
 obtain ⟨R,hR⟩:=A7 (Ay l n)
 rw [hR,Eh]
 refine Al func46 (tA cc46) (tB cc46) (tC cc46) rfl fun hf=>?_;unfold ck46
 simp only [go_sem]
 refine loop (fun p:Nat×Nat=>⟨[(1,.s n),(2,.bx m 0),(4,.bx (m+1) 0),(6,.i .i64 p.1)],(m,.bx [.ds (Ab BB l)])::(m+1,.bx [.i .i64 0,.s ⟨#[]⟩,.e0,.e0,.e0,.e0,.e0])::hp,p.2⟩)
  (fun p=>p.1<=l.length∧m+2<=p.2∧R=Ay (l.drop p.1) n) (fun p=>l.length - p.1) (0,m+2) ?_ ?_ (fun ⟨j,k⟩ hj=>?_)
 .exact ⟨by simp,by simp,hR.symm⟩
 .refine ID hf ?_ ?_ ?_ ?_ (zna _)
  all_goals (simp (disch:=omega) only [go_sem])
 dsimp only at hj
 obtain ⟨Cq,Be,At⟩:=hj
 simp (disch:=omega) only [go_sem]
 refine Af (fun q=>?_) (fun q=>?_)
 .have q:j<l.length:=by simpa using q
  obtain ⟨t,et⟩:∃t,l[j]?=some t:=⟨l[j],by simp [q]⟩
  rw [A2 et,GK] at At
  have NL:m<=k:=by omega
  simp (disch:=omega) only [q,Ad (Aa BB et),go_sem]
  refine Af (fun c=>?_) (fun c=>?_)
  .have c:t.n=n:=by simpa using c
   rw [iP c] at At
   subst At
   simp (disch:=omega) only [NL,q,Ad (Aa BB et),go_sem]
  .have c:¬t.n=n:=by simpa using c
   rw [iN c] at At
   simp (disch:=omega) only [go_sem]
   refine ⟨(j+1,_),⟨by dsimp only;omega,by dsimp only;omega,At⟩,by dsimp only;omega,ID hf ?_ ?_ ?_ ?_ (zna _)⟩
   all_goals
    simp (disch:=omega) only [Ao j (by omega),NL,go_sem]
 .have q:j=l.length:=by simp at q;omega
  subst q
  rw [zll] at At
  have At:R=none:=At
  subst At
  simp (disch:=omega) only [go_sem]
  rfl
theorem Hr (n:qB) (hp:CH) (m:Nat):Ae prog 150 hp m [.s n] (.b (BV n)):=by
 unfold BV
 refine Al func150 (tA cc150) (tB cc150) (tC cc150) rfl fun hf=>?_;unfold ck150
 simp only [z39,go_sem]
theorem DE (n:qB) (hp:CH) (m:Nat):Ae prog 123 hp m [.s n] (.b (BV n)):=by
 unfold BV
 refine Al func123 (tA cc123) (tB cc123) (tC cc123) rfl fun hf=>?_;unfold ck123
 simp only [z39,go_sem]
theorem Tx (l:List Av) (hl:l.length<=1000000000000) (n:qB) (hp:CH) (m:Nat):Ae prog 151 hp m [B9 l,.s n] (.i .i64 (Fq l n)):=by
 have h1:=Ez l hl n
 have e:Fq l n=((Ay l n).getD DJ).k:=by
  unfold Fq
  cases Ay l n<;>rfl
 rw [e]
 obtain ⟨R,hR⟩:=A7 (Ay l n)
 rw [hR] at h1 ⊢
 rw [Eh] at h1
 refine Al func151 (tA cc151) (tB cc151) (tC cc151) rfl fun hf=>?_;unfold ck151
 simp only [go_sem]
 refine Ac.f (h1 _ _) ?_
 simp only [go_sem]
theorem LF (l:List Av) (hl:l.length<=1000000000000) (n:qB) (hp:CH) (m:Nat):Ae prog 114 hp m [B9 l,.s n] (.b (FU l n)):=by
 unfold FU
 refine Al func114 (tA cc114) (tB cc114) (tC cc114) rfl fun hf=>?_;unfold ck114
 simp only [go_sem]
 refine Ac.f (Tx l hl n _ _) ?_
 simp only [go_sem]
 refine Ac.f (Hr n _ _) ?_
 simp only [z39,go_sem]
def Gi (k:Int):qB:=if k=1 then ⟨#[81,117,101,114,121]⟩ else if k=2 then ⟨#[77,117,116,97,116,105,111,110]⟩ else if k=3 then ⟨#[83,117,98,115,99,114,105,112,116,105,111,110]⟩ else ⟨#[]⟩
theorem IH (k:Int) (hp:CH) (m:Nat):Ae prog 8 hp m [.i .i64 k] (.s (Gi k)):=by
 refine Al func8 (tA cc8) (tB cc8) (tC cc8) rfl fun hf=>?_;unfold ck8
 simp only [go_sem]
 repeat' (first
  | ((with_reducible refine Af (fun _=>?_) (fun _=>?_))<;>(try simp only [go_sem]))
  | ((with_reducible refine II (fun _=>?_) (fun _=>?_))<;>(try simp only [go_sem]))
  | ((with_reducible refine AH.s (J5 (fun _=>?_) (fun _=>?_)))<;>(try simp only [go_sem]))
  | ((with_reducible refine G2.m ?_ (fun _ _=>?_));rotate_left;try simp only [go_sem])
  |exact HZ (fun _=>rfl)
  |exact GN (fun _=>⟨rfl,rfl⟩)
  | with_reducible refine And.intro ?_ ?_)
 all_goals clear hf
 all_goals grind [Gi]
def Vq (n:Int):Int:=IntKind.i64.wrap n
def WP:List Cr->Int->Int
 | [],n=>n
 |f::r,n=>WP r (Vq (n+Vq (f.args.length+f.dirs.length)))
def Ahj (t:Av):Int:=Vq (Vq (Vq (Vq (Vq (1+t.fields.length)+t.members.length)+t.inputs.length)+t.dirs.length)+t.impl.length)
def T7:List Av->Int->Int
 | [],n=>n
 |t::r,n=>T7 r (WP t.fields (Vq (n+Ahj t)))
def Pc (l:List Av):Bool:=if 70<(l.length:Int) then true else decide (1000<T7 l 0)
theorem Rr (l:List Av) (hl:l.length<=1000000000000) (hF:∀t∈l,t.fields.length<=1000000000000) (hp:CH) (m:Nat):Ae prog 19 hp m [B9 l] (.b (Pc l)):=by
 obtain ⟨R,hR⟩:=A7 (Pc l)
 have e:=hR
 rw [Pc] at e
 rw [hR]
 refine Al func19 (tA cc19) (tB cc19) (tC cc19) rfl fun hf=>?_;unfold ck19
 simp only [go_sem]
 refine Af (fun c=>?_) (fun c=>?_)
 .have c:70<(l.length:Int):=by simpa using c
  rw [iP c] at e
  subst e
  simp only [go_sem]
 have c:¬70<(l.length:Int):=by simpa using c
 rw [iN c] at e
 simp only [go_sem]
 refine loop (fun p:Nat×Int×Nat=>⟨[(1,.bx m 0),(3,.i .i64 p.2.1),(4,.i .i64 p.1)],(m,.bx [.ds (Ab BB l)])::hp,p.2.2⟩)
  (fun p=>p.1<=l.length∧m+1<=p.2.2∧R=decide (1000<T7 (l.drop p.1) p.2.1)) (fun p=>l.length - p.1) (0,0,m+1) ?_ ?_ (fun ⟨j,z,k⟩ hj=>?_)
 .exact ⟨by simp,by simp,e.symm⟩
 .refine Fo hf ?_ ?_ ?_ (zna _)
  all_goals (simp (disch:=omega) only [go_sem])
 dsimp only at hj
 obtain ⟨Cq,Be,At⟩:=hj
 simp (disch:=omega) only [go_sem]
 refine Af (fun q=>?_) (fun q=>?_)
 .have q:j<l.length:=by simpa using q
  obtain ⟨t,et⟩:∃t,l[j]?=some t:=⟨l[j],by simp [q]⟩
  have htF:=hF t (zla et)
  rw [A2 et,T7] at At
  have NL:m<=k:=by omega
  simp (disch:=omega) only [q,Ad (Aa BB et),go_sem]
  refine loop (fun p:Nat×Int×Nat=>⟨[(1,.bx m 0),(3,.i .i64 p.2.1),(4,.i .i64 j),(5,.bx k 0),(6,.i .i64 p.1)],(m,.bx [.ds (Ab BB l)])::(k,.bx [.i .i64 t.k,.s t.n,.ds t.impl,.ds t.dirs,.ds (Ab Bu t.fields),.ds t.members,.ds t.inputs])::hp,p.2.2⟩)
   (fun p=>p.1<=t.fields.length∧k+1<=p.2.2∧R=decide (1000<T7 (l.drop (j+1)) (WP (t.fields.drop p.1) p.2.1))) (fun p=>t.fields.length - p.1) (0,Vq (z+Ahj t),k+1) ?_ ?_ (fun ⟨i,z2,k2⟩ hi=>?_)
  .exact ⟨by simp,by simp,At⟩
  .refine ID hf ?_ ?_ ?_ ?_ (zna _)
   all_goals (simp (disch:=omega) only [NL,go_sem])
   all_goals rfl
  dsimp only at hi
  obtain ⟨NN,Is,Ed⟩:=hi
  simp (disch:=omega) only [go_sem]
  refine Af (fun q2=>?_) (fun q2=>?_)
  .have q2:i<t.fields.length:=by simpa using q2
   obtain ⟨f,ef⟩:∃f,t.fields[i]?=some f:=⟨t.fields[i],by simp [q2]⟩
   rw [A2 ef,WP] at Ed
   simp (disch:=omega) only [q2,Ad (Aa Bu ef),go_sem]
   refine ⟨(i+1,Vq (z2+Vq (f.args.length+f.dirs.length)),_),⟨by dsimp only;omega,by dsimp only;omega,Ed⟩,by dsimp only;omega,ID hf ?_ ?_ ?_ ?_ (zna _)⟩
   all_goals
    simp (disch:=omega) only [Ao i (by omega),NL,Vq,go_sem]
  .have q2:i=t.fields.length:=by simp at q2;omega
   subst q2
   rw [zll,WP] at Ed
   simp (disch:=omega) only [go_sem]
   refine ⟨(j+1,z2,_),⟨by dsimp only;omega,by dsimp only;omega,Ed⟩,by dsimp only;omega,Fo hf ?_ ?_ ?_ (zna _)⟩
   all_goals
    simp (disch:=omega) only [Ao j (by omega),NL,go_sem]
 .have q:j=l.length:=by simp at q;omega
  subst q
  rw [zll,T7] at At
  subst At
  simp (disch:=omega) only [go_sem]
def AB (v:Ag) (k:qB):Option Ag:=if v.k=6 then (if 0<=ix k v.keys 0 then v.items[(ix k v.keys 0).toNat]? else none) else none
def Nc (o:Option Ag):AV:=.tp [vx (o.getD A8),.b o.isSome]
attribute [go_sem] Nc A8 Option.getD_none Option.getD_some Option.isSome_none Option.isSome_some
theorem I4 (v:Ag) (hv:v.Fit) (k:qB) (hp:CH) (m:Nat):Ae prog 96 hp m [vx v,.s k] (Nc (AB v k)):=by
 refine Al func96 (tA cc96) (tB cc96) (tC cc96) rfl fun hf=>?_;unfold ck96
 have h1:=hv.l
 have h2:=PV k v.keys 0
 simp only [go_sem]
 refine Ac.f (Ii v.keys k (by omega) _ _) ?_
 simp only [go_sem]
 refine Af (fun c=>?_) (fun c=>?_)
 .have e:AB v k=none:=by
   unfold AB
   simp at c
   grind
  rw [e]
  simp only [go_sem]
 .simp at c
  obtain ⟨x,ex⟩:∃x,v.items[(ix k v.keys 0).toNat]?=some x:=⟨v.items[(ix k v.keys 0).toNat],List.getElem?_eq_getElem (by omega)⟩
  have e:AB v k=some x:=by unfold AB;rw [iP c.1.1,iP c.1.2,ex]
  have hx:=hv.x (zla ex)
  have c3:(ix k v.keys 0).toNat<v.items.length:=by omega
  rw [e]
  simp only [c3,c.1.2,Ad (Aa Aw ex),go_sem]
  refine Ac.f (FG x hx _ _) ?_
  simp only [go_sem]
theorem DF (h:v.k≠6):AB v k=none:=by unfold AB;rw [iN h]
theorem J8 (v:Ag) (hv:v.Fit) (k:qB) (hp:CH) (m:Nat):Ae prog 18 hp m [vx v,.s k] (Nc (AB v k)):=by
 refine Al func18 (tA cc18) (tB cc18) (tC cc18) rfl fun hf=>?_;unfold ck18
 have h1:=hv.l
 have h3:=hv.i
 simp only [go_sem]
 refine Af (fun c=>?_) (fun c=>?_)
 .have c:v.k≠6:=by simpa using c
  rw [DF c]
  simp only [go_sem]
 have c:v.k=6:=by simpa using c
 simp only [go_sem]
 refine loop (fun p:Nat×Nat=>⟨[(1,.s k),(2,.bx m 0),(4,.bx (m+1) 0),(6,.i .i64 p.1)],(m+1,.bx [.i .i64 0,.i .i64 0,.s ⟨#[]⟩,.e0,.e0])::(m,.bx [.i .i64 v.k,.i .i64 v.n,.s v.s,.ds (Ab Aw v.items),.ds (Bq v.keys)])::hp,p.2⟩)
  (fun p=>p.1<=v.keys.length∧m+2<=p.2∧ix k v.keys 0=ix k (v.keys.drop p.1) p.1) (fun p=>v.keys.length - p.1) (0,m+2) ?_ ?_ (fun ⟨j,n⟩ hj=>?_)
 .grind
 .refine Dd ?_
  simp only [go_sem]
 dsimp only at hj
 simp only [go_sem]
 refine Af (fun d=>?_) (fun d=>?_)
 .have d:j<v.keys.length:=by simpa using d
  obtain ⟨y,ey⟩:∃y,v.keys[j]?=some y:=⟨v.keys[j],by simp [d]⟩
  have e:=A2 ey
  rw [e,ix] at hj
  simp only [d,Ad (Aa C3 ey),go_sem]
  refine Af (fun d1=>?_) (fun d1=>?_)
  .have d1:k=y:=by simp at d1;exact d1.symm
   rw [iP d1] at hj
   simp only [go_sem]
   refine Af (fun d2=>?_) (fun d2=>?_)
   .have e:AB v k=none:=by
     unfold AB
     rw [iP c,hj.2.2,iP (by omega),List.getElem?_eq_none (by simp at d2;omega)]
    rw [e]
    simp only [go_sem]
   .have d2:j<v.items.length:=by simp at d2;omega
    obtain ⟨x,ex⟩:∃x,v.items[j]?=some x:=⟨v.items[j],by simp [d2]⟩
    have e:AB v k=some x:=by
     unfold AB
     rw [iP c,hj.2.2,iP (by omega),Int.toNat_natCast,ex]
    rw [e]
    have hx:=hv.x (zla ex)
    simp only [d2,Ad (Aa Aw ex),go_sem]
    refine Ac.f (OQ x hx _ _) ?_
    simp only [go_sem]
  .have d1:¬k=y:=by simp at d1;exact fun e=>d1 e.symm
   rw [iN d1] at hj
   simp only [go_sem]
   refine ⟨(j+1,n),by dsimp only;omega,by dsimp only;omega,Dd ?_⟩
   simp only [Ao j (by omega),go_sem]
 .have d:j=v.keys.length:=by simp at d;omega
  subst d
  rw [zll,ix] at hj
  have e:AB v k=none:=by
   unfold AB
   rw [iP c,hj.2.2,iN (by omega)]
  rw [e]
  simp only [go_sem]
theorem DQ:A8.Fit:=.mk _ (by simp [A8,Ag.items_mk]) (by simp [A8,Ag.keys_mk]) (by simp [A8,Ag.items_mk])
theorem CG {x:Ag} (h:AB v k=some x):x∈v.items:=by
 unfold AB at h
 split at h
 .split at h
  .exact zla h
  .cases h
 .cases h
theorem Qj (hv:v.Fit) (k:qB):((AB v k).getD A8).Fit:=by
 cases h:AB v k with
 |none=>exact DQ
 |some x=>exact hv.x (CG h)
inductive DI where
 | mk (p:List Ag) (t:qB)
end
def DI.p:DI->List Ag | .mk p _=>p
theorem DI.p_mk (p:List Ag) (t:qB):(DI.mk p t).p=p:=rfl
def DI.t:DI->qB | .mk _ t=>t
theorem DI.t_mk (p:List Ag) (t:qB):(DI.mk p t).t=t:=rfl
theorem DI.ext {x y:DI} (h0:x.p=y.p) (h1:x.t=y.t):x=y:=by cases x;cases y;simp only [DI.p_mk,DI.t_mk] at *;simp [*]
def Dr (x:DI):List AV:=[.ds (Ab Aw x.p),.s x.t]
attribute [go_sem] Dr DI.p_mk DI.t_mk
attribute [grind =] DI.p_mk DI.t_mk
attribute [ext] DI.ext
attribute [grind ext] DI.ext
instance bytesLawful:LawfulBEq qB where
 eq_of_beq h:=by rw [D8] at h;simpa using h
 rfl:=by intro a;rw [D8];simp
def Ga (w:List Int):Bool:=decide (w.head?=some 1)
def B0 (w:List Int):List Int:=if Ga w=true then w.tail else w
def Ca (w:List Int):Bool:=decide ((B0 w).head?=some 2)
def Cg (w:List Int):List Int:=(B0 w).tail
theorem CB (w:List Int):(B0 w).length<=w.length:=by
 unfold B0
 split
 .simp
 .exact zna _
theorem P5 (w:List Int):(Cg w).length<=w.length:=by
 have:=CB w
 simp only [Cg,List.length_tail]
 omega
def GX (l:List (List AV)):List qB:=l.map fun e=>match e with
 | [.s x]=>x
 |_=>⟨#[]⟩
theorem Ae1 (l:List qB):GX (Bq l)=l:=by
 induction l with
 |nil=>rfl
 |cons x l ih=>
  have:GX (Bq (x::l))=x::GX (Bq l):=rfl
  rw [this,ih]
def Gc (l:List (List AV)):List qB:=l.map fun e=>match e with
 | .s x::_=>x
 |_=>⟨#[]⟩
structure DefOk (t:Av):Prop where
 impl:t.impl=Bq (GX t.impl)
 mem:∀e∈t.members,∃x y,e=[.s x,.ds y]
def Jy (t:Av) (name:qB) (x:Av):Bool :=
 (decide (t.k=1)&&decide (x.n=name))||((decide (t.k=2)&&decide (name∈GX x.impl))||(decide (t.k=3)&&decide (x.n∈Gc t.members)))
def E0 (t:Av) (name:qB):List qB->List Av->List qB
 |_,[]=>[]
 |seen,x::r=>if x.n ∉ seen∧x.k=1∧Jy t name x=true then x.n::E0 t name (seen++[x.n]) r else E0 t name (seen++[x.n]) r
def Dj (doc:List Av) (name:qB):List qB:=match Ay doc name with
 |none=>[]
 |some t=>E0 t name [] doc
theorem HY (t:Av) (name:qB):∀(l:List Av) (seen:List qB),(E0 t name seen l).length<=l.length
 | [],seen=>by simp [E0]
 |x::r,seen=>by
  rw [E0]
  split
  .simp only [zlc]
   have:=HY t name r (seen++[x.n])
   omega
  .simp only [zlc]
   have:=HY t name r (seen++[x.n])
   omega
theorem KP (doc:List Av) (name:qB):(Dj doc name).length<=doc.length:=by
 unfold Dj
 split
 .simp
 .exact HY _ _ _ _
theorem Mq (t:Av) (name:qB) (x:Av):∀(l:List Av) (seen:List qB),E0 t name seen (l++[x])=E0 t name seen l++(if x.n ∉ seen++l.map Av.n∧x.k=1∧Jy t name x=true then [x.n] else [])
 | [],seen=>by
  rw [List.nil_append,E0,E0,E0,List.map_nil,List.append_nil]
  split<;>simp
 |y::l,seen=>by
  have e:seen++(y::l).map Av.n=(seen++[y.n])++l.map Av.n:=by simp
  rw [zlh,E0,E0,Mq t name x l,e]
  split<;>simp
def Ff (n:Int):Ag:=.mk 2 n ⟨#[]⟩ [] []
def enV (s:qB):Ag:=.mk 4 0 s [] []
def boV (n:Int):Ag:=.mk 1 n ⟨#[]⟩ [] []
def EB (l:List Ag):Ag:=.mk 5 0 ⟨#[]⟩ l []
def Cw (ks:List qB) (l:List Ag):Ag:=.mk 6 0 ⟨#[]⟩ l ks
def LI:qB:=⟨#[73,110,116]⟩
def Cv:qB:=⟨#[83,116,114,105,110,103]⟩
def Cz:qB:=⟨#[66,111,111,108,101,97,110]⟩
def Lv:qB:=⟨#[73,68]⟩
def PM:qB:=⟨#[110,117,108,108]⟩
def EP:qB:=⟨#[116,121,112,101]⟩
def UY (n:qB) (v:Ag):Option Ag :=
 if n=LI∧v.k=2∧-2147483648<=v.n∧v.n<=2147483647 then some (Ff v.n)
 else if (n=Cv∨n=Lv)∧v.k=3 then some (CY v.s)
 else if n=Lv∧v.k=2 then some (CY (TU (Lib.itoa v.n)))
 else if n=Cz∧v.k=1 then some (boV v.n)
 else none
def Ho (doc:List Av) (n:qB) (v:Ag):Option Ag :=
 if BV n=true then UY n v
 else if Fq doc n=4∧v.k=4∧v.s∈Gc ((Ay doc n).getD DJ).members then some (enV v.s) else none
def CX (doc:List Av) (n:qB):Bool:=BV n||decide (Fq doc n=4)
abbrev Ge:=Ag × List DI
abbrev GW:=qB->List Int->List Pk->List Ag->Ge
def FV (path:List Ag) (s:qB):Ge:=(A8,[.mk path s])
def H4 (tw:List Int) (path:List Ag):Ge:=if Ga tw=true then FV path PM else (A8,[])
def zFn:GW:=fun _ tw _ path=>H4 tw path
def Ex (tw:List Int) (v:Ag):Bool:=decide (v.k=0)&&Ga tw
def FN (fs:List GW) (j:Nat) (tn:qB) (tw:List Int) (picks:List Pk) (path:List Ag):List Ge:=match fs with
 | []=>[]
 |f::r=>f tn tw picks (path++[Ff j])::FN r (j+1) tn tw picks path
def itF (ks:List qB) (fs:List GW) (key:qB):GW:=if 0<=ix key ks 0 then (fs[(ix key ks 0).toNat]?).getD zFn else zFn
def Gd (ks:List qB) (fs:List GW) (on:qB) (path:List Ag) (picks:List Pk):List (Pk×Ge) :=
 (picks.filter fun p=>decide (p.on=on)).map fun p=>(p,itF ks fs p.key p.tn p.tw p.picks (path++[CY p.key]))
def Gs (fs:List GW) (tn:qB) (tw:List Int) (picks:List Pk) (path:List Ag):Ge :=
 ((if (FN fs 0 tn tw picks path).any (fun r=>Ex tw r.1)=true then A8 else EB ((FN fs 0 tn tw picks path).map (·.1))),(FN fs 0 tn tw picks path).flatMap (·.2))
def KH (ks:List qB) (fs:List GW) (on:qB) (picks:List Pk) (path:List Ag):Ge :=
 ((if (Gd ks fs on path picks).any (fun r=>Ex r.1.tw r.2.1)=true then A8 else Cw ((Gd ks fs on path picks).map (·.1.key)) ((Gd ks fs on path picks).map (·.2.1))),(Gd ks fs on path picks).flatMap (·.2.2))
def typO (v:Ag):Option qB:=match AB v sT with
 |none=>none
 |some t=>if t.k=3 then some t.s else none
def NF (doc:List Av) (v:Ag) (fs:List GW):GW:=fun tn tw picks path=>
 if v.k=9 then FV path v.s
 else if v.k=0 then H4 tw path
 else if Ca (B0 tw)=true then (if v.k=5 then Gs fs tn (Cg (B0 tw)) picks path else FV path EP)
 else if CX doc tn=true then (match Ho doc tn v with
  |some x=>(x,[])
  |none=>FV path EP)
 else match typO v with
  |none=>FV path EP
  |some on=>if FU doc tn=true∧on∈Dj doc tn then KH v.keys fs on picks path else FV path EP
mutual
def A6 (doc:List Av):Ag->GW
 | .mk k n s i l=>NF doc (.mk k n s i l) (XG doc i)
def XG (doc:List Av):List Ag->List GW
 | []=>[]
 |v::r=>A6 doc v::XG doc r
end
theorem Ye (doc:List Av) (l:List Ag):XG doc l=l.map (A6 doc):=by
 induction l with
 |nil=>rw [XG];rfl
 |cons v l ih=>rw [XG,ih,List.map_cons]
theorem EL (doc:List Av) (v:Ag):A6 doc v=NF doc v (v.items.map (A6 doc)):=by
 cases v
 rw [A6,Ye]
 rfl
theorem I9 (doc:List Av):A6 doc A8=zFn:=by
 rw [EL]
 funext tn tw picks path
 rfl
theorem FJ (doc:List Av) (v:Ag) (hv:v.k=6) (key:qB):itF v.keys (v.items.map (A6 doc)) key=A6 doc ((AB v key).getD A8):=by
 unfold itF AB
 rw [iP hv]
 split
 .rw [List.getElem?_map]
  cases v.items[(ix key v.keys 0).toNat]? with
  |none=>exact (I9 doc).symm
  |some x=>rfl
 .exact (I9 doc).symm
theorem J6:∀(fs:List GW) (j:Nat) (tn:qB) (tw:List Int) (picks:List Pk) (path:List Ag),(FN fs j tn tw picks path).length=fs.length
 | [],j,tn,tw,picks,path=>by rw [FN];rfl
 |f::r,j,tn,tw,picks,path=>by rw [FN,zlc,zlc,J6 r]
theorem P2 (f:GW):∀(fs:List GW) (j:Nat) (tn:qB) (tw:List Int) (picks:List Pk) (path:List Ag),FN (fs++[f]) j tn tw picks path=FN fs j tn tw picks path++[f tn tw picks (path++[Ff (j+fs.length:Nat)])]
 | [],j,tn,tw,picks,path=>by rw [List.nil_append,FN,FN,FN];rfl
 |x::fs,j,tn,tw,picks,path=>by
  rw [zlh,FN,FN,P2 f fs,zlh,zlc]
  have e:(j+1+fs.length:Nat)=j+(fs.length+1):=by omega
  rw [e]
theorem V4 (ks:List qB) (fs:List GW) (on:qB) (path:List Ag) (l:List Pk) (p:Pk) :
 Gd ks fs on path (l++[p])=if p.on=on then Gd ks fs on path l++[(p,itF ks fs p.key p.tn p.tw p.picks (path++[CY p.key]))] else Gd ks fs on path l:=by
 unfold Gd
 rw [List.filter_append,List.map_append]
 by_cases c:p.on=on
 .rw [iP c];simp [c]
 .rw [iN c];simp [c]
theorem IR {v:Ag} {on:qB} (h:typO v=some on):v.k=6:=by
 unfold typO AB at h
 split at h
 .cases h
 .rename_i t ht
  split at ht
  .assumption
  .cases ht
