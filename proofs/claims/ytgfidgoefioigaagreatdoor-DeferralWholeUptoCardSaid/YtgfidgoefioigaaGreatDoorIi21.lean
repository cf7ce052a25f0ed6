/- Proof. Conditions: none. -/
import Derived.Lib.ItoaLen
import Derived.Lib.Join
import Derived.Test.YtgfidgoefioigaaGreatDoorProg
import Derived.KernelRfl
import Derived.Test.YtgfidgoefioigaaGreatDoorIi20
open Go.Proofs.Tryz
namespace Go.Proofs.YtgfidgoefioigaaGreatDoor
open Go.Eng
set_option linter.all false
set_option maxRecDepth 20000
theorem Aa {α:Type} {k j:Nat} (h:¬k=j) (a b:α):(if k=j then a else b)=b:=if_neg h
inductive Jn where
 | mk (t:ByteArray) (f:ByteArray) (g:Int) (x:Bool) (req:List ByteArray) (prov:List ByteArray)
def Jn.t:Jn→ByteArray | .mk t _ _ _ _ _=>t
theorem Jn.t_mk (t:ByteArray) (f:ByteArray) (g:Int) (x:Bool) (req:List ByteArray) (prov:List ByteArray):(Jn.mk t f g x req prov).t=t:=rfl
def Jn.f:Jn→ByteArray | .mk _ f _ _ _ _=>f
theorem Jn.f_mk (t:ByteArray) (f:ByteArray) (g:Int) (x:Bool) (req:List ByteArray) (prov:List ByteArray):(Jn.mk t f g x req prov).f=f:=rfl
def Jn.g:Jn→Int | .mk _ _ g _ _ _=>g
theorem Jn.g_mk (t:ByteArray) (f:ByteArray) (g:Int) (x:Bool) (req:List ByteArray) (prov:List ByteArray):(Jn.mk t f g x req prov).g=g:=rfl
def Jn.x:Jn→Bool | .mk _ _ _ x _ _=>x
theorem Jn.x_mk (t:ByteArray) (f:ByteArray) (g:Int) (x:Bool) (req:List ByteArray) (prov:List ByteArray):(Jn.mk t f g x req prov).x=x:=rfl
def Jn.req:Jn→List ByteArray | .mk _ _ _ _ req _=>req
theorem Jn.req_mk (t:ByteArray) (f:ByteArray) (g:Int) (x:Bool) (req:List ByteArray) (prov:List ByteArray):(Jn.mk t f g x req prov).req=req:=rfl
def Jn.prov:Jn→List ByteArray | .mk _ _ _ _ _ prov=>prov
theorem Jn.prov_mk (t:ByteArray) (f:ByteArray) (g:Int) (x:Bool) (req:List ByteArray) (prov:List ByteArray):(Jn.mk t f g x req prov).prov=prov:=rfl
theorem Jn.ext {x y:Jn} (h0:x.t=y.t) (h1:x.f=y.f) (h2:x.g=y.g) (h3:x.x=y.x) (h4:x.req=y.req) (h5:x.prov=y.prov):x=y:=by cases x;cases y;simp only [Jn.t_mk,Jn.f_mk,Jn.g_mk,Jn.x_mk,Jn.req_mk,Jn.prov_mk] at *;simp [*]
attribute [go_sem] Jn.t_mk Jn.f_mk Jn.g_mk Jn.x_mk Jn.req_mk Jn.prov_mk
attribute [grind =] Jn.t_mk Jn.f_mk Jn.g_mk Jn.x_mk Jn.req_mk Jn.prov_mk
attribute [ext] Jn.ext
attribute [grind ext] Jn.ext
inductive Cd where
 | mk (n:ByteArray) (args:List (List AV)) (tn:ByteArray) (tw:List (List AV)) (dirs:List (List AV))
def Cd.n:Cd→ByteArray | .mk n _ _ _ _=>n
theorem Cd.n_mk (n:ByteArray) (args:List (List AV)) (tn:ByteArray) (tw:List (List AV)) (dirs:List (List AV)):(Cd.mk n args tn tw dirs).n=n:=rfl
def Cd.args:Cd→List (List AV) | .mk _ args _ _ _=>args
theorem Cd.args_mk (n:ByteArray) (args:List (List AV)) (tn:ByteArray) (tw:List (List AV)) (dirs:List (List AV)):(Cd.mk n args tn tw dirs).args=args:=rfl
def Cd.tn:Cd→ByteArray | .mk _ _ tn _ _=>tn
theorem Cd.tn_mk (n:ByteArray) (args:List (List AV)) (tn:ByteArray) (tw:List (List AV)) (dirs:List (List AV)):(Cd.mk n args tn tw dirs).tn=tn:=rfl
def Cd.tw:Cd→List (List AV) | .mk _ _ _ tw _=>tw
theorem Cd.tw_mk (n:ByteArray) (args:List (List AV)) (tn:ByteArray) (tw:List (List AV)) (dirs:List (List AV)):(Cd.mk n args tn tw dirs).tw=tw:=rfl
def Cd.dirs:Cd→List (List AV) | .mk _ _ _ _ dirs=>dirs
theorem Cd.dirs_mk (n:ByteArray) (args:List (List AV)) (tn:ByteArray) (tw:List (List AV)) (dirs:List (List AV)):(Cd.mk n args tn tw dirs).dirs=dirs:=rfl
theorem Cd.ext {x y:Cd} (h0:x.n=y.n) (h1:x.args=y.args) (h2:x.tn=y.tn) (h3:x.tw=y.tw) (h4:x.dirs=y.dirs):x=y:=by cases x;cases y;simp only [Cd.n_mk,Cd.args_mk,Cd.tn_mk,Cd.tw_mk,Cd.dirs_mk] at *;simp [*]
def Bq (x:Cd):List AV:=[.s x.n,.ds x.args,.s x.tn,.ds x.tw,.ds x.dirs]
theorem Js (l:List Cd):DP 5 (Ad Bq l)=True:=DL fun _=>⟨rfl,rfl⟩
attribute [go_sem] Js
attribute [go_sem] Bq Cd.n_mk Cd.args_mk Cd.tn_mk Cd.tw_mk Cd.dirs_mk
attribute [grind =] Cd.n_mk Cd.args_mk Cd.tn_mk Cd.tw_mk Cd.dirs_mk
attribute [ext] Cd.ext
attribute [grind ext] Cd.ext
inductive Az where
 | mk (k:Int) (n:ByteArray) (impl:List (List AV)) (dirs:List (List AV)) (fields:List Cd) (members:List (List AV)) (inputs:List (List AV))
def Az.k:Az→Int | .mk k _ _ _ _ _ _=>k
theorem Az.k_mk (k:Int) (n:ByteArray) (impl:List (List AV)) (dirs:List (List AV)) (fields:List Cd) (members:List (List AV)) (inputs:List (List AV)):(Az.mk k n impl dirs fields members inputs).k=k:=rfl
def Az.n:Az→ByteArray | .mk _ n _ _ _ _ _=>n
theorem Az.n_mk (k:Int) (n:ByteArray) (impl:List (List AV)) (dirs:List (List AV)) (fields:List Cd) (members:List (List AV)) (inputs:List (List AV)):(Az.mk k n impl dirs fields members inputs).n=n:=rfl
def Az.impl:Az→List (List AV) | .mk _ _ impl _ _ _ _=>impl
theorem Az.impl_mk (k:Int) (n:ByteArray) (impl:List (List AV)) (dirs:List (List AV)) (fields:List Cd) (members:List (List AV)) (inputs:List (List AV)):(Az.mk k n impl dirs fields members inputs).impl=impl:=rfl
def Az.dirs:Az→List (List AV) | .mk _ _ _ dirs _ _ _=>dirs
theorem Az.dirs_mk (k:Int) (n:ByteArray) (impl:List (List AV)) (dirs:List (List AV)) (fields:List Cd) (members:List (List AV)) (inputs:List (List AV)):(Az.mk k n impl dirs fields members inputs).dirs=dirs:=rfl
def Az.fields:Az→List Cd | .mk _ _ _ _ fields _ _=>fields
theorem Az.fields_mk (k:Int) (n:ByteArray) (impl:List (List AV)) (dirs:List (List AV)) (fields:List Cd) (members:List (List AV)) (inputs:List (List AV)):(Az.mk k n impl dirs fields members inputs).fields=fields:=rfl
def Az.members:Az→List (List AV) | .mk _ _ _ _ _ members _=>members
theorem Az.members_mk (k:Int) (n:ByteArray) (impl:List (List AV)) (dirs:List (List AV)) (fields:List Cd) (members:List (List AV)) (inputs:List (List AV)):(Az.mk k n impl dirs fields members inputs).members=members:=rfl
def Az.inputs:Az→List (List AV) | .mk _ _ _ _ _ _ inputs=>inputs
theorem Az.inputs_mk (k:Int) (n:ByteArray) (impl:List (List AV)) (dirs:List (List AV)) (fields:List Cd) (members:List (List AV)) (inputs:List (List AV)):(Az.mk k n impl dirs fields members inputs).inputs=inputs:=rfl
theorem Az.ext {x y:Az} (h0:x.k=y.k) (h1:x.n=y.n) (h2:x.impl=y.impl) (h3:x.dirs=y.dirs) (h4:x.fields=y.fields) (h5:x.members=y.members) (h6:x.inputs=y.inputs):x=y:=by cases x;cases y;simp only [Az.k_mk,Az.n_mk,Az.impl_mk,Az.dirs_mk,Az.fields_mk,Az.members_mk,Az.inputs_mk] at *;simp [*]
def BB (x:Az):List AV:=[.i .i64 x.k,.s x.n,.ds x.impl,.ds x.dirs,.ds (Ad Bq x.fields),.ds x.members,.ds x.inputs]
attribute [go_sem] BB Az.k_mk Az.n_mk Az.impl_mk Az.dirs_mk Az.fields_mk Az.members_mk Az.inputs_mk
attribute [grind =] Az.k_mk Az.n_mk Az.impl_mk Az.dirs_mk Az.fields_mk Az.members_mk Az.inputs_mk
attribute [ext] Az.ext
attribute [grind ext] Az.ext
inductive Gv where
 | mk (g:List ByteArray) (doc:List Az) (keys:List Ky) (joins:List Jn)
def Gv.g:Gv→List ByteArray | .mk g _ _ _=>g
theorem Gv.g_mk (g:List ByteArray) (doc:List Az) (keys:List Ky) (joins:List Jn):(Gv.mk g doc keys joins).g=g:=rfl
def Gv.doc:Gv→List Az | .mk _ doc _ _=>doc
theorem Gv.doc_mk (g:List ByteArray) (doc:List Az) (keys:List Ky) (joins:List Jn):(Gv.mk g doc keys joins).doc=doc:=rfl
def Gv.keys:Gv→List Ky | .mk _ _ keys _=>keys
theorem Gv.keys_mk (g:List ByteArray) (doc:List Az) (keys:List Ky) (joins:List Jn):(Gv.mk g doc keys joins).keys=keys:=rfl
def Gv.joins:Gv→List Jn | .mk _ _ _ joins=>joins
theorem Gv.joins_mk (g:List ByteArray) (doc:List Az) (keys:List Ky) (joins:List Jn):(Gv.mk g doc keys joins).joins=joins:=rfl
theorem Gv.ext {x y:Gv} (h0:x.g=y.g) (h1:x.doc=y.doc) (h2:x.keys=y.keys) (h3:x.joins=y.joins):x=y:=by cases x;cases y;simp only [Gv.g_mk,Gv.doc_mk,Gv.keys_mk,Gv.joins_mk] at *;simp [*]
attribute [go_sem] Gv.g_mk Gv.doc_mk Gv.keys_mk Gv.joins_mk
attribute [grind =] Gv.g_mk Gv.doc_mk Gv.keys_mk Gv.joins_mk
attribute [ext] Gv.ext
attribute [grind ext] Gv.ext
abbrev B5 (l:List Az):AV:=.ag [.ds (Ad BB l)]
abbrev JN (t:Az):AV:=.ag [.i .i64 t.k,.s t.n,.ds t.impl,.ds t.dirs,.ds (Ad Bq t.fields),.ds t.members,.ds t.inputs]
abbrev pkx (p:Pk):AV:=.ag [.s p.key,.s p.on,.s p.name,.ds (Ad BC p.args),.s p.tn,.ds (Ad Dx p.tw),.s p.label,.i .i64 p.initial,.ds (Ad Bo p.picks)]
theorem Xk (l:List Cd):(∀e,e∈Ad Bq l→e.length=5)=True:=eq_true fun e h=>((of_eq_true (Js l)) e h).1
attribute [go_sem] Xk BC
inductive Ak.Rng:Ak→Prop
 | mk (v:Ak):-9223372036854775808≤v.n→v.n≤9223372036854775807→(∀x∈v.items,Ak.Rng x)→Ak.Rng v
theorem Ak.Rng.l {v:Ak} (h:v.Rng):-9223372036854775808≤v.n:=by cases h;assumption
theorem Ak.Rng.u {v:Ak} (h:v.Rng):v.n≤9223372036854775807:=by cases h;assumption
theorem Ak.Rng.x {v:Ak} (h:v.Rng) {x:Ak} (hx:x∈v.items):x.Rng:=by cases h with | mk _ _ _ h=>exact h x hx
def R4 (l:List UInt8):ByteArray:=⟨l.toArray⟩
theorem Un (l:List UInt8):ByteArray.mk l.toArray=R4 l:=rfl
theorem Qs (a b:List UInt8):R4 a++R4 b=R4 (a++b):=by
 apply ByteArray.ext
 rw [ByteArray.data_append]
 simp [R4]
theorem MJ (l:List UInt8):(R4 l).size=l.length:=by simp [R4,ByteArray.size]
theorem Qg {x:List AV}:∀{l:List (List AV)},x∈l→BG x≤CG l
 | y::l,h=>by
  rw [CG]
  rcases List.mem_cons.1 h with rfl | h
  .omega
  .have:=Qg h
   omega
theorem Xu (v:Ak):BG (A2 v)=v.s.size+CG (Ad A2 v.items)+CG (Bv v.keys)+5:=by
 rw [Bz]
 simp only [BG,Ez]
 omega
noncomputable def A1 (l:List Az) (n:ByteArray):Option Az:=l.find? fun t=>decide (t.n=n)
def Ck (n:ByteArray):Bool:=decide (n=⟨#[73,110,116]⟩)||(decide (n=⟨#[83,116,114,105,110,103]⟩)||(decide (n=⟨#[66,111,111,108,101,97,110]⟩)||decide (n=⟨#[73,68]⟩)))
noncomputable def Ft (l:List Az) (n:ByteArray):Int:=((A1 l n).map Az.k).getD 0
noncomputable def Mw (l:List Az) (n:ByteArray):Bool:=!Ck n&&(decide (Ft l n=1)||(decide (Ft l n=2)||decide (Ft l n=3)))
def sT:ByteArray:=⟨#[95,95,116]⟩
open Go.Eng Go.KL
set_option maxRecDepth 100000
def ck8:CC:=cK (a:=cF [] [] [] f8) (by delta f8;simp (config := { maxSteps := 9999999 }) only [go_sem];rfl)
theorem cc8:Bf f8 10=some ck8.erase:=by kernel_rfl
theorem cr8:Bh f8 10=some [(.t 2)]:=by kernel_rfl
def ck19:CC:=cK (a:=cF [] [] [] f19) (by delta f19;simp (config := { maxSteps := 9999999 }) only [go_sem];rfl)
theorem cc19:Bf f19 71=some ck19.erase:=by kernel_rfl
theorem cr19:Bh f19 71=some [(.t 2)]:=by kernel_rfl
def ck35:CC:=cK (a:=cF [] [] [] f35) (by delta f35;simp (config := { maxSteps := 9999999 }) only [go_sem];rfl)
theorem cc35:Bf f35 6=some ck35.erase:=by kernel_rfl
theorem cr35:Bh f35 6=some [(.c 2 5 true)]:=by kernel_rfl
def ck36:CC:=cK (a:=cF [] [] [] f36) (by delta f36;simp (config := { maxSteps := 9999999 }) only [go_sem];rfl)
theorem cc36:Bf f36 27=some ck36.erase:=by kernel_rfl
theorem cr36:Bh f36 27=some [(.c 10 5 true),(.t 11)]:=by kernel_rfl
def ck37:CC:=cK (a:=cF [] [] [] f37) (by delta f37;simp (config := { maxSteps := 9999999 }) only [go_sem];rfl)
theorem cc37:Bf f37 5=some ck37.erase:=by kernel_rfl
theorem cr37:Bh f37 5=some [(.c 2 2 true)]:=by kernel_rfl
def ck46:CC:=cK (a:=cF [] [] [] f46) (by delta f46;simp (config := { maxSteps := 9999999 }) only [go_sem];rfl)
theorem cc46:Bf f46 28=some ck46.erase:=by kernel_rfl
theorem cr46:Bh f46 28=some [(.c 4 7 true),(.t 5)]:=by kernel_rfl
def ck72:CC:=cK (a:=cF [] [] [] f72) (by delta f72;simp (config := { maxSteps := 9999999 }) only [go_sem];rfl)
theorem cc72:Bf f72 126=some ck72.erase:=by kernel_rfl
theorem cr72:Bh f72 126=some [(.c 10 5 true)]:=by kernel_rfl
def ck73:CC:=cK (a:=cF [] [] [] f73) (by delta f73;simp (config := { maxSteps := 9999999 }) only [go_sem];rfl)
theorem cc73:Bf f73 14=some ck73.erase:=by kernel_rfl
theorem cr73:Bh f73 14=some [(.t 2)]:=by kernel_rfl
def ck90:CC:=cK (a:=cF [] [] [] f90) (by delta f90;simp (config := { maxSteps := 9999999 }) only [go_sem];rfl)
theorem cc90:Bf f90 81=some ck90.erase:=by kernel_rfl
theorem cr90:Bh f90 81=some [(.t 4)]:=by kernel_rfl
def ck99:CC:=cK (a:=cF [] [] [] f99) (by delta f99;simp (config := { maxSteps := 9999999 }) only [go_sem];rfl)
theorem cc99:Bf f99 15=some ck99.erase:=by kernel_rfl
theorem cr99:Bh f99 15=some [(.c 2 2 true),(.t 3)]:=by kernel_rfl
def ck101:CC:=cK (a:=cF [] [] [] f101) (by delta f101;simp (config := { maxSteps := 9999999 }) only [go_sem];rfl)
theorem cc101:Bf f101 14=some ck101.erase:=by kernel_rfl
theorem cr101:Bh f101 14=some [(.t 2)]:=by kernel_rfl
def ck104:CC:=cK (a:=cF [] [9] [] f104) (by delta f104;simp (config := { maxSteps := 9999999 }) only [go_sem];rfl)
theorem cc104:Bf f104 14=some ck104.erase:=by kernel_rfl
theorem cr104:Bh f104 14=some [(.c 2 2 true)]:=by kernel_rfl
def ck106:CC:=cK (a:=cF [] [] [] f106) (by delta f106;simp (config := { maxSteps := 9999999 }) only [go_sem];rfl)
theorem cc106:Bf f106 11=some ck106.erase:=by kernel_rfl
theorem cr106:Bh f106 11=some [(.c 2 2 true),(.t 3)]:=by kernel_rfl
def ck107:CC:=cK (a:=cF [] [] [] f107) (by delta f107;simp (config := { maxSteps := 9999999 }) only [go_sem];rfl)
theorem cc107:Bf f107 21=some ck107.erase:=by kernel_rfl
theorem cr107:Bh f107 21=some [(.c 6 5 true)]:=by kernel_rfl
def ck108:CC:=cK (a:=cF [] [] [] f108) (by delta f108;simp (config := { maxSteps := 9999999 }) only [go_sem];rfl)
theorem cc108:Bf f108 15=some ck108.erase:=by kernel_rfl
theorem cr108:Bh f108 15=some [(.c 2 2 true)]:=by kernel_rfl
def ck109:CC:=cK (a:=cF [] [] [] f109) (by delta f109;simp (config := { maxSteps := 9999999 }) only [go_sem];rfl)
theorem cc109:Bf f109 16=some ck109.erase:=by kernel_rfl
theorem cr109:Bh f109 16=some [(.t 2)]:=by kernel_rfl
def ck110:CC:=cK (a:=cF [] [] [(36,[7,6,5])] f110) (by delta f110;simp (config := { maxSteps := 9999999 }) only [go_sem];rfl)
theorem cc110:Bf f110 53=some ck110.erase:=by kernel_rfl
theorem cr110:Bh f110 53=some [(.c 10 5 true)]:=by kernel_rfl
def ck111:CC:=cK (a:=cF [] [] [] f111) (by delta f111;simp (config := { maxSteps := 9999999 }) only [go_sem];rfl)
theorem cc111:Bf f111 13=some ck111.erase:=by kernel_rfl
theorem cr111:Bh f111 13=some [(.t 4)]:=by kernel_rfl
def ck112:CC:=cK (a:=cF [] [] [] f112) (by delta f112;simp (config := { maxSteps := 9999999 }) only [go_sem];rfl)
theorem cc112:Bf f112 42=some ck112.erase:=by kernel_rfl
theorem cr112:Bh f112 42=some [(.c 6 5 true),(.t 7)]:=by kernel_rfl
def ck113:CC:=cK (a:=cF [] [] [] f113) (by delta f113;simp (config := { maxSteps := 9999999 }) only [go_sem];rfl)
theorem cc113:Bf f113 19=some ck113.erase:=by kernel_rfl
theorem cr113:Bh f113 19=some [(.t 2),(.t 3)]:=by kernel_rfl
def ck114:CC:=cK (a:=cF [] [] [] f114) (by delta f114;simp (config := { maxSteps := 9999999 }) only [go_sem];rfl)
theorem cc114:Bf f114 24=some ck114.erase:=by kernel_rfl
theorem cr114:Bh f114 24=some [(.t 4)]:=by kernel_rfl
def ck115:CC:=cK (a:=cF [] [] [] f115) (by delta f115;simp (config := { maxSteps := 9999999 }) only [go_sem];rfl)
theorem cc115:Bf f115 35=some ck115.erase:=by kernel_rfl
theorem cr115:Bh f115 35=some [(.t 6)]:=by kernel_rfl
def ck116:CC:=cK (a:=cF [] [] [(50,[10,9,8])] f116) (by delta f116;simp (config := { maxSteps := 9999999 }) only [go_sem];rfl)
theorem cc116:Bf f116 74=some ck116.erase:=by kernel_rfl
theorem cr116:Bh f116 74=some [(.c 10 5 true)]:=by kernel_rfl
def ck123:CC:=cK (a:=cF [] [] [] f123) (by delta f123;simp (config := { maxSteps := 9999999 }) only [go_sem];rfl)
theorem cc123:Bf f123 17=some ck123.erase:=by kernel_rfl
theorem cr123:Bh f123 17=some [(.t 2)]:=by kernel_rfl
def ck132:CC:=cK (a:=cF [] [] [] f132) (by delta f132;simp (config := { maxSteps := 9999999 }) only [go_sem];rfl)
theorem cc132:Bf f132 18=some ck132.erase:=by kernel_rfl
theorem cr132:Bh f132 18=some [(.t 4)]:=by kernel_rfl
def ck134:CC:=cK (a:=cF [] [] [] f134) (by delta f134;simp (config := { maxSteps := 9999999 }) only [go_sem];rfl)
theorem cc134:Bf f134 21=some ck134.erase:=by kernel_rfl
theorem cr134:Bh f134 21=some [(.t 4)]:=by kernel_rfl
def ck136:CC:=cK (a:=cF [] [] [] f136) (by delta f136;simp (config := { maxSteps := 9999999 }) only [go_sem];rfl)
theorem cc136:Bf f136 24=some ck136.erase:=by kernel_rfl
theorem cr136:Bh f136 24=some [(.t 4)]:=by kernel_rfl
def ck137:CC:=cK (a:=cF [] [] [] f137) (by delta f137;simp (config := { maxSteps := 9999999 }) only [go_sem];rfl)
theorem cc137:Bf f137 17=some ck137.erase:=by kernel_rfl
theorem cr137:Bh f137 17=some [(.t 2)]:=by kernel_rfl
def ck142:CC:=cK (a:=cF [] [] [] f142) (by delta f142;simp (config := { maxSteps := 9999999 }) only [go_sem];rfl)
theorem cc142:Bf f142 23=some ck142.erase:=by kernel_rfl
theorem cr142:Bh f142 23=some [(.t 4)]:=by kernel_rfl
def ck146:CC:=cK (a:=cF [] [] [] f146) (by delta f146;simp (config := { maxSteps := 9999999 }) only [go_sem];rfl)
theorem cc146:Bf f146 12=some ck146.erase:=by kernel_rfl
theorem cr146:Bh f146 12=some [(.t 6)]:=by kernel_rfl
def ck148:CC:=cK (a:=cF [] [5] [] f148) (by delta f148;simp (config := { maxSteps := 9999999 }) only [go_sem];rfl)
theorem cc148:Bf f148 11=some ck148.erase:=by kernel_rfl
theorem cr148:Bh f148 11=some [(.c 2 2 true)]:=by kernel_rfl
def ck150:CC:=cK (a:=cF [] [] [] f150) (by delta f150;simp (config := { maxSteps := 9999999 }) only [go_sem];rfl)
theorem cc150:Bf f150 17=some ck150.erase:=by kernel_rfl
theorem cr150:Bh f150 17=some [(.t 2)]:=by kernel_rfl
def ck151:CC:=cK (a:=cF [] [] [] f151) (by delta f151;simp (config := { maxSteps := 9999999 }) only [go_sem];rfl)
theorem cc151:Bf f151 15=some ck151.erase:=by kernel_rfl
theorem cr151:Bh f151 15=some [(.t 4)]:=by kernel_rfl
def ck152:CC:=cK (a:=cF [] [] [] f152) (by delta f152;simp (config := { maxSteps := 9999999 }) only [go_sem];rfl)
theorem cc152:Bf f152 66=some ck152.erase:=by kernel_rfl
theorem cr152:Bh f152 66=some [(.c 4 5 true),(.t 5)]:=by kernel_rfl
def ck153:CC:=cK (a:=cF [] [] [] f153) (by delta f153;simp (config := { maxSteps := 9999999 }) only [go_sem];rfl)
theorem cc153:Bf f153 22=some ck153.erase:=by kernel_rfl
theorem cr153:Bh f153 22=some [(.c 4 7 true),(.t 5)]:=by kernel_rfl
def ck154:CC:=cK (a:=cF [] [] [] f154) (by delta f154;simp (config := { maxSteps := 9999999 }) only [go_sem];rfl)
theorem cc154:Bf f154 9=some ck154.erase:=by kernel_rfl
theorem cr154:Bh f154 9=some [(.t 4)]:=by kernel_rfl
def ck155:CC:=cK (a:=cF [] [] [] f155) (by delta f155;simp (config := { maxSteps := 9999999 }) only [go_sem];rfl)
theorem cc155:Bf f155 9=some ck155.erase:=by kernel_rfl
theorem cr155:Bh f155 9=some [(.t 3)]:=by kernel_rfl
def ck157:CC:=cK (a:=cF [] [] [] f157) (by delta f157;simp (config := { maxSteps := 9999999 }) only [go_sem];rfl)
theorem cc157:Bf f157 113=some ck157.erase:=by kernel_rfl
theorem cr157:Bh f157 113=some [(.t 4)]:=by kernel_rfl
def ck170:CC:=cK (a:=cF [] [] [] f170) (by delta f170;simp (config := { maxSteps := 9999999 }) only [go_sem];rfl)
theorem cc170:Bf f170 11=some ck170.erase:=by kernel_rfl
theorem cr170:Bh f170 11=some [(.t 2)]:=by kernel_rfl
def ck171:CC:=cK (a:=cF [] [] [] f171) (by delta f171;simp (config := { maxSteps := 9999999 }) only [go_sem];rfl)
theorem cc171:Bf f171 5=some ck171.erase:=by kernel_rfl
theorem cr171:Bh f171 5=some [(.t 2)]:=by kernel_rfl
def ck172:CC:=cK (a:=cF [] [] [] f172) (by delta f172;simp (config := { maxSteps := 9999999 }) only [go_sem];rfl)
theorem cc172:Bf f172 19=some ck172.erase:=by kernel_rfl
theorem cr172:Bh f172 19=some [(.t 4)]:=by kernel_rfl
def ck173:CC:=cK (a:=cF [] [] [] f173) (by delta f173;simp (config := { maxSteps := 9999999 }) only [go_sem];rfl)
theorem cc173:Bf f173 9=some ck173.erase:=by kernel_rfl
theorem cr173:Bh f173 9=some [(.t 4)]:=by kernel_rfl
def ck177:CC:=cK (a:=cF [] [8] [] f177) (by delta f177;simp (config := { maxSteps := 9999999 }) only [go_sem];rfl)
theorem cc177:Bf f177 18=some ck177.erase:=by kernel_rfl
theorem cr177:Bh f177 18=some [(.t 2)]:=by kernel_rfl
end Go.Proofs.YtgfidgoefioigaaGreatDoor
