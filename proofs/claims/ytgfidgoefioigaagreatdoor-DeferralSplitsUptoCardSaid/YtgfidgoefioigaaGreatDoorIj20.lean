/- Proof. Conditions: none. -/
import Derived.WalkKit
import Derived.Lib.Bytealg
import Derived.Test.YtgfidgoefioigaaGreatDoorIj19
noncomputable section
open Go.Proofs.Tryz
namespace Go.Proofs.YtgfidgoefioigaaGreatDoor
open Go.Eng
set_option linter.all false
open Go.Eng Go.KL
set_option maxRecDepth 100000
def ck7:CC:=cK (a:=cF [] [6,8,10,12] [] f7) (by delta f7;simp (config := { maxSteps := 9999999 }) only [go_sem];rfl)
theorem cc7:A3 f7=(false,some ck7.erase,some [(.t 0)]):=by kernel_rfl
def ck16:CC:=cK (a:=cF [] [] [] f16) (by delta f16;simp only [go_sem];rfl)
theorem cc16:A3 f16=(false,some ck16.erase,some [(.c 4 5 true),(.t 5)]):=by kernel_rfl
def ck20:CC:=cK (a:=cF [] [] [] f20) (by delta f20;simp only [go_sem];rfl)
theorem cc20:A3 f20=(false,some ck20.erase,some [(.t 4)]):=by kernel_rfl
def ck26:CC:=cK (a:=cF [] [] [] f26) (by delta f26;simp only [go_sem];rfl)
theorem cc26:A3 f26=(false,some ck26.erase,some [(.t 2)]):=by kernel_rfl
def ck39:CC:=cK (a:=cF [] [] [] f39) (by delta f39;simp (config := { maxSteps := 9999999 }) only [go_sem];rfl)
theorem cc39:A3 f39=(false,some ck39.erase,some [(.c 6 5 true),(.t 7)]):=by kernel_rfl
def ck49:CC:=cK (a:=cF [] [] [] f49) (by delta f49;simp only [go_sem];rfl)
theorem cc49:A3 f49=(false,some ck49.erase,some [(.t 4)]):=by kernel_rfl
def ck76:CC:=cK (a:=cF [] [] [] f76) (by delta f76;simp (config := { maxSteps := 9999999 }) only [go_sem];rfl)
theorem cc76:A3 f76=(false,some ck76.erase,some [(.c 4 5 true),(.t 5)]):=by kernel_rfl
def ck77:CC:=cK (a:=cF [] [] [] f77) (by delta f77;simp only [go_sem];rfl)
theorem cc77:A3 f77=(false,some ck77.erase,some [(.t 4)]):=by kernel_rfl
def ck105:CC:=cK (a:=cF [] [] [] f105) (by delta f105;simp only [go_sem];rfl)
theorem cc105:A3 f105=(false,some ck105.erase,some [(.t 4)]):=by kernel_rfl
def ck139:CC:=cK (a:=cF [] [] [] f139) (by delta f139;simp only [go_sem];rfl)
theorem cc139:A3 f139=(false,some ck139.erase,some [(.t 4)]):=by kernel_rfl
def ck166:CC:=cK (a:=cF [] [] [] f166) (by delta f166;simp only [go_sem];rfl)
theorem cc166:A3 f166=(false,some ck166.erase,some [(.t 4)]):=by kernel_rfl
def ck149:CC:=cK (a:=cF [] [5] [] f149) (by delta f149;simp only [go_sem];rfl)
theorem cc149:A3 f149=(false,some ck149.erase,some [(.t 2)]):=by kernel_rfl
set_option maxRecDepth 20000
inductive IL where
 | mk (f a:qB) (v:Ag)
def IL.f:IL->qB | .mk f _ _=>f
def IL.a:IL->qB | .mk _ a _=>a
def IL.v:IL->Ag | .mk _ _ v=>v
theorem IL.f_mk (f a:qB) (v:Ag):(IL.mk f a v).f=f:=rfl
theorem IL.a_mk (f a:qB) (v:Ag):(IL.mk f a v).a=a:=rfl
theorem IL.v_mk (f a:qB) (v:Ag):(IL.mk f a v).v=v:=rfl
attribute [go_sem] IL.f_mk IL.a_mk IL.v_mk
abbrev cx (x:IL):AV:=.ag [.s x.f,.s x.a,.i .i64 x.v.k,.i .i64 x.v.n,.s x.v.s,.ds (Ab Ar x.v.items),.ds (Bd x.v.keys)]
inductive LG where
 | mk (t:qB) (l:List IL)
def LG.t:LG->qB | .mk t _=>t
theorem LG.t_mk (t:qB) (l:List IL):(LG.mk t l).t=t:=rfl
def LG.l:LG->List IL | .mk _ l=>l
theorem LG.l_mk (t:qB) (l:List IL):(LG.mk t l).l=l:=rfl
theorem LG.ext {x y:LG} (h0:x.t=y.t) (h1:x.l=y.l):x=y:=by cases x;cases y;simp only [LG.t_mk,LG.l_mk] at *;simp [*]
attribute [go_sem] LG.t_mk LG.l_mk
attribute [grind =] LG.t_mk LG.l_mk
attribute [ext] LG.ext
attribute [grind ext] LG.ext
inductive JL where
 | mk (f a:qB) (i:Int) (c:IL)
def JL.f:JL->qB | .mk f _ _ _=>f
def JL.a:JL->qB | .mk _ a _ _=>a
def JL.i:JL->Int | .mk _ _ i _=>i
def JL.c:JL->IL | .mk _ _ _ c=>c
theorem JL.f_mk (f a:qB) (i:Int) (c:IL):(JL.mk f a i c).f=f:=rfl
theorem JL.a_mk (f a:qB) (i:Int) (c:IL):(JL.mk f a i c).a=a:=rfl
theorem JL.i_mk (f a:qB) (i:Int) (c:IL):(JL.mk f a i c).i=i:=rfl
theorem JL.c_mk (f a:qB) (i:Int) (c:IL):(JL.mk f a i c).c=c:=rfl
attribute [go_sem] JL.f_mk JL.a_mk JL.i_mk JL.c_mk
abbrev wx (x:JL):AV:=.ag [.s x.f,.s x.a,.i .i64 x.i,.s x.c.f,.s x.c.a,.i .i64 x.c.v.k,.i .i64 x.c.v.n,.s x.c.v.s,.ds (Ab Ar x.c.v.items),.ds (Bd x.c.v.keys)]
inductive IN where
 | mk (i:List LG) (w:List JL)
def IN.i:IN->List LG | .mk i _=>i
theorem IN.i_mk (i:List LG) (w:List JL):(IN.mk i w).i=i:=rfl
def IN.w:IN->List JL | .mk _ w=>w
theorem IN.w_mk (i:List LG) (w:List JL):(IN.mk i w).w=w:=rfl
theorem IN.ext {x y:IN} (h0:x.i=y.i) (h1:x.w=y.w):x=y:=by cases x;cases y;simp only [IN.i_mk,IN.w_mk] at *;simp [*]
attribute [go_sem] IN.i_mk IN.w_mk
attribute [grind =] IN.i_mk IN.w_mk
attribute [ext] IN.ext
attribute [grind ext] IN.ext
def Ao3 (v:Ag):Bool:=decide ((v.items.length:Int)=0)&&decide ((v.keys.length:Int)=0)&&(decide (v.k=8)&&decide (0<=v.n)&&decide (v.s=⟨#[]⟩)||decide (v.k=9)&&decide (v.n=0))
mutual
def plV:Ag->Ag×Bool
 | .mk k n s i l=>if k=8∨k=9 then (A6,Ao3 (.mk k n s i l)) else (.mk k n s (plL i).1 l,(plL i).2)
def plL:List Ag->List Ag×Bool
 | []=>([],true)
 |x::r=>((plV x).1::(plL r).1,(plV x).2&&(plL r).2)
end
def okC (c:IL):Bool:=(plV c.v).2&&Gb c.f&&DU false (plV c.v).1
inductive IN.Fit:IN->Prop
 | mk (d:IN):d.i.length<=1000000000000->d.w.length<=1000000000000->(∀x∈d.i,x.l.length<=1000000000000∧∀c∈x.l,c.v.Fit)->(∀x∈d.w,x.c.v.Fit)->IN.Fit d
theorem IN.Fit.lw {d:IN} (h:d.Fit):d.w.length<=1000000000000:=by cases h;assumption
theorem IN.Fit.c {d:IN} (h:d.Fit) {x:LG} (hx:x∈d.i) {c:IL} (hc:c∈x.l):c.v.Fit:=by cases h;rename_i h _;exact (h x hx).2 c hc
theorem IN.Fit.w {d:IN} (h:d.Fit) {x:JL} (hx:x∈d.w):x.c.v.Fit:=by cases h;rename_i h;exact h x hx
def CW (s:qB):Ag:=.mk 3 0 s [] []
inductive Ky where
 | mk (t:qB) (g:Int) (l:List qB)
def Ky.t:Ky->qB | .mk t _ _=>t
theorem Ky.t_mk (t:qB) (g:Int) (l:List qB):(Ky.mk t g l).t=t:=rfl
def Ky.g:Ky->Int | .mk _ g _=>g
theorem Ky.g_mk (t:qB) (g:Int) (l:List qB):(Ky.mk t g l).g=g:=rfl
def Ky.l:Ky->List qB | .mk _ _ l=>l
theorem Ky.l_mk (t:qB) (g:Int) (l:List qB):(Ky.mk t g l).l=l:=rfl
theorem Ky.ext {x y:Ky} (h0:x.t=y.t) (h1:x.g=y.g) (h2:x.l=y.l):x=y:=by cases x;cases y;simp only [Ky.t_mk,Ky.g_mk,Ky.l_mk] at *;simp [*]
attribute [go_sem] Ky.t_mk Ky.g_mk Ky.l_mk
attribute [grind =] Ky.t_mk Ky.g_mk Ky.l_mk
attribute [ext] Ky.ext
attribute [grind ext] Ky.ext
