/- Proof. Conditions: none. -/
import Derived.Test.YtgfidgoefioigaaGreatDoorProg
import Derived.WalkKit
import Derived.Lib.Bytealg
import Derived.KernelRfl
import Derived.Test.YtgfidgoefioigaaGreatDoorIi19
open Go.Proofs.Tryz
namespace Go.Proofs.YtgfidgoefioigaaGreatDoor
open Go.Eng
set_option linter.all false
open Go.Eng Go.KL
set_option maxRecDepth 100000
def ck7:CC:=cK (a:=cF [] [6,8,10,12] [] f7) (by delta f7;simp (config := { maxSteps := 9999999 }) only [go_sem];rfl)
theorem cc7:Bf f7 51=some ck7.erase:=by kernel_rfl
theorem cr7:Bh f7 51=some [(.t 0)]:=by kernel_rfl
def ck14:CC:=cK (a:=cF [] [] [] f14) (by delta f14;simp (config := { maxSteps := 9999999 }) only [go_sem];rfl)
theorem cc14:Bf f14 27=some ck14.erase:=by kernel_rfl
theorem cr14:Bh f14 27=some [(.t 2)]:=by kernel_rfl
def ck16:CC:=cK (a:=cF [] [] [] f16) (by delta f16;simp (config := { maxSteps := 9999999 }) only [go_sem];rfl)
theorem cc16:Bf f16 35=some ck16.erase:=by kernel_rfl
theorem cr16:Bh f16 35=some [(.c 4 5 true),(.t 5)]:=by kernel_rfl
def ck20:CC:=cK (a:=cF [] [] [] f20) (by delta f20;simp (config := { maxSteps := 9999999 }) only [go_sem];rfl)
theorem cc20:Bf f20 36=some ck20.erase:=by kernel_rfl
theorem cr20:Bh f20 36=some [(.t 4)]:=by kernel_rfl
def ck26:CC:=cK (a:=cF [] [] [] f26) (by delta f26;simp (config := { maxSteps := 9999999 }) only [go_sem];rfl)
theorem cc26:Bf f26 5=some ck26.erase:=by kernel_rfl
theorem cr26:Bh f26 5=some [(.t 2)]:=by kernel_rfl
def ck39:CC:=cK (a:=cF [] [] [] f39) (by delta f39;simp (config := { maxSteps := 9999999 }) only [go_sem];rfl)
theorem cc39:Bf f39 88=some ck39.erase:=by kernel_rfl
theorem cr39:Bh f39 88=some [(.c 6 5 true),(.t 7)]:=by kernel_rfl
def ck49:CC:=cK (a:=cF [] [] [] f49) (by delta f49;simp (config := { maxSteps := 9999999 }) only [go_sem];rfl)
theorem cc49:Bf f49 34=some ck49.erase:=by kernel_rfl
theorem cr49:Bh f49 34=some [(.t 4)]:=by kernel_rfl
def ck76:CC:=cK (a:=cF [] [] [] f76) (by delta f76;simp (config := { maxSteps := 9999999 }) only [go_sem];rfl)
theorem cc76:Bf f76 70=some ck76.erase:=by kernel_rfl
theorem cr76:Bh f76 70=some [(.c 4 5 true),(.t 5)]:=by kernel_rfl
def ck77:CC:=cK (a:=cF [] [] [] f77) (by delta f77;simp (config := { maxSteps := 9999999 }) only [go_sem];rfl)
theorem cc77:Bf f77 50=some ck77.erase:=by kernel_rfl
theorem cr77:Bh f77 50=some [(.t 4)]:=by kernel_rfl
def ck139:CC:=cK (a:=cF [] [] [] f139) (by delta f139;simp (config := { maxSteps := 9999999 }) only [go_sem];rfl)
theorem cc139:Bf f139 17=some ck139.erase:=by kernel_rfl
theorem cr139:Bh f139 17=some [(.t 4)]:=by kernel_rfl
def ck166:CC:=cK (a:=cF [] [] [] f166) (by delta f166;simp (config := { maxSteps := 9999999 }) only [go_sem];rfl)
theorem cc166:Bf f166 26=some ck166.erase:=by kernel_rfl
theorem cr166:Bh f166 26=some [(.t 4)]:=by kernel_rfl
def ck149:CC:=cK (a:=cF [] [5] [] f149) (by delta f149;simp (config := { maxSteps := 9999999 }) only [go_sem];rfl)
theorem cc149:Bf f149 8=some ck149.erase:=by kernel_rfl
theorem cr149:Bh f149 8=some [(.t 2)]:=by kernel_rfl
set_option maxRecDepth 20000
inductive Ho where
 | mk (f a:ByteArray) (v:Ak)
def Ho.f:Ho→ByteArray | .mk f _ _=>f
def Ho.a:Ho→ByteArray | .mk _ a _=>a
def Ho.v:Ho→Ak | .mk _ _ v=>v
theorem Ho.f_mk (f a:ByteArray) (v:Ak):(Ho.mk f a v).f=f:=rfl
theorem Ho.a_mk (f a:ByteArray) (v:Ak):(Ho.mk f a v).a=a:=rfl
theorem Ho.v_mk (f a:ByteArray) (v:Ak):(Ho.mk f a v).v=v:=rfl
attribute [go_sem] Ho.f_mk Ho.a_mk Ho.v_mk
abbrev cx (x:Ho):AV:=.ag [.s x.f,.s x.a,.i .i64 x.v.k,.i .i64 x.v.n,.s x.v.s,.ds (Ad A2 x.v.items),.ds (Bv x.v.keys)]
inductive Jh where
 | mk (t:ByteArray) (l:List Ho)
def Jh.t:Jh→ByteArray | .mk t _=>t
theorem Jh.t_mk (t:ByteArray) (l:List Ho):(Jh.mk t l).t=t:=rfl
def Jh.l:Jh→List Ho | .mk _ l=>l
theorem Jh.l_mk (t:ByteArray) (l:List Ho):(Jh.mk t l).l=l:=rfl
theorem Jh.ext {x y:Jh} (h0:x.t=y.t) (h1:x.l=y.l):x=y:=by cases x;cases y;simp only [Jh.t_mk,Jh.l_mk] at *;simp [*]
attribute [go_sem] Jh.t_mk Jh.l_mk
attribute [grind =] Jh.t_mk Jh.l_mk
attribute [ext] Jh.ext
attribute [grind ext] Jh.ext
inductive If where
 | mk (f a:ByteArray) (i:Int) (c:Ho)
def If.f:If→ByteArray | .mk f _ _ _=>f
def If.a:If→ByteArray | .mk _ a _ _=>a
def If.i:If→Int | .mk _ _ i _=>i
def If.c:If→Ho | .mk _ _ _ c=>c
theorem If.f_mk (f a:ByteArray) (i:Int) (c:Ho):(If.mk f a i c).f=f:=rfl
theorem If.a_mk (f a:ByteArray) (i:Int) (c:Ho):(If.mk f a i c).a=a:=rfl
theorem If.i_mk (f a:ByteArray) (i:Int) (c:Ho):(If.mk f a i c).i=i:=rfl
theorem If.c_mk (f a:ByteArray) (i:Int) (c:Ho):(If.mk f a i c).c=c:=rfl
attribute [go_sem] If.f_mk If.a_mk If.i_mk If.c_mk
abbrev wx (x:If):AV:=.ag [.s x.f,.s x.a,.i .i64 x.i,.s x.c.f,.s x.c.a,.i .i64 x.c.v.k,.i .i64 x.c.v.n,.s x.c.v.s,.ds (Ad A2 x.c.v.items),.ds (Bv x.c.v.keys)]
inductive Hn where
 | mk (i:List Jh) (w:List If)
def Hn.i:Hn→List Jh | .mk i _=>i
theorem Hn.i_mk (i:List Jh) (w:List If):(Hn.mk i w).i=i:=rfl
def Hn.w:Hn→List If | .mk _ w=>w
theorem Hn.w_mk (i:List Jh) (w:List If):(Hn.mk i w).w=w:=rfl
theorem Hn.ext {x y:Hn} (h0:x.i=y.i) (h1:x.w=y.w):x=y:=by cases x;cases y;simp only [Hn.i_mk,Hn.w_mk] at *;simp [*]
attribute [go_sem] Hn.i_mk Hn.w_mk
attribute [grind =] Hn.i_mk Hn.w_mk
attribute [ext] Hn.ext
attribute [grind ext] Hn.ext
noncomputable def Ajl (v:Ak):Bool:=decide ((v.items.length:Int)=0)&&decide ((v.keys.length:Int)=0)&&(decide (v.k=8)&&decide (0≤v.n)&&decide (v.s=⟨#[]⟩)||decide (v.k=9)&&decide (v.n=0))
mutual
noncomputable def plV:Ak→Ak × Bool
 | .mk k n s i l=>if k=8∨k=9 then (AB,Ajl (.mk k n s i l)) else (.mk k n s (plL i).1 l,(plL i).2)
noncomputable def plL:List Ak→List Ak × Bool
 | []=>([],true)
 | x::r=>((plV x).1::(plL r).1,(plV x).2&&(plL r).2)
end
noncomputable def Y1 (c:Ho):Bool:=(plV c.v).2&&ES c.f&&Dn false (plV c.v).1
inductive Hn.Fit:Hn→Prop
 | mk (d:Hn):d.i.length≤1000000000000→d.w.length≤1000000000000→(∀x∈d.i,x.l.length≤1000000000000∧∀c∈x.l,c.v.Fit)→(∀x∈d.w,x.c.v.Fit)→Hn.Fit d
theorem Hn.Fit.lw {d:Hn} (h:d.Fit):d.w.length≤1000000000000:=by cases h;assumption
theorem Hn.Fit.c {d:Hn} (h:d.Fit) {x:Jh} (hx:x∈d.i) {c:Ho} (hc:c∈x.l):c.v.Fit:=by cases h;rename_i h _;exact (h x hx).2 c hc
theorem Hn.Fit.w {d:Hn} (h:d.Fit) {x:If} (hx:x∈d.w):x.c.v.Fit:=by cases h;rename_i h;exact h x hx
def Hp (s:ByteArray):Ak:=.mk 3 0 s [] []
inductive Ky where
 | mk (t:ByteArray) (g:Int) (l:List ByteArray)
def Ky.t:Ky→ByteArray | .mk t _ _=>t
theorem Ky.t_mk (t:ByteArray) (g:Int) (l:List ByteArray):(Ky.mk t g l).t=t:=rfl
def Ky.g:Ky→Int | .mk _ g _=>g
theorem Ky.g_mk (t:ByteArray) (g:Int) (l:List ByteArray):(Ky.mk t g l).g=g:=rfl
def Ky.l:Ky→List ByteArray | .mk _ _ l=>l
theorem Ky.l_mk (t:ByteArray) (g:Int) (l:List ByteArray):(Ky.mk t g l).l=l:=rfl
theorem Ky.ext {x y:Ky} (h0:x.t=y.t) (h1:x.g=y.g) (h2:x.l=y.l):x=y:=by cases x;cases y;simp only [Ky.t_mk,Ky.g_mk,Ky.l_mk] at *;simp [*]
attribute [go_sem] Ky.t_mk Ky.g_mk Ky.l_mk
attribute [grind =] Ky.t_mk Ky.g_mk Ky.l_mk
attribute [ext] Ky.ext
attribute [grind ext] Ky.ext
end Go.Proofs.YtgfidgoefioigaaGreatDoor
