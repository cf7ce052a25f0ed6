/- Proof. Conditions: none. -/
import Derived.WalkKit
import Derived.Lib.Bytealg
import Derived.Test.YtgfidgoefioigaaGreatDoorIk19
noncomputable section
open Go.Proofs.Tryz
namespace Go.Proofs.YtgfidgoefioigaaGreatDoor
open Go.Eng
set_option linter.all false
open Go.Eng Go.KL
set_option maxRecDepth 100000
def ck7:CC:=cK (a:=cF [] [6,8,10,12] [] f7) (by delta f7;simp (config := { maxSteps := 9999999 }) only [go_sem];rfl)
theorem cc7:A4 f7=(false,some ck7.erase,some [(.t 0)]):=by kernel_rfl
def ck14:CC:=cK (a:=cF [] [] [] f14) (by delta f14;simp only [go_sem];rfl)
theorem cc14:A4 f14=(false,some ck14.erase,some [(.t 2)]):=by kernel_rfl
def ck16:CC:=cK (a:=cF [] [] [] f16) (by delta f16;simp only [go_sem];rfl)
theorem cc16:A4 f16=(false,some ck16.erase,some [(.c 4 5 true),(.t 5)]):=by kernel_rfl
def ck20:CC:=cK (a:=cF [] [] [] f20) (by delta f20;simp only [go_sem];rfl)
theorem cc20:A4 f20=(false,some ck20.erase,some [(.t 4)]):=by kernel_rfl
def ck26:CC:=cK (a:=cF [] [] [] f26) (by delta f26;simp only [go_sem];rfl)
theorem cc26:A4 f26=(false,some ck26.erase,some [(.t 2)]):=by kernel_rfl
def ck39:CC:=cK (a:=cF [] [] [] f39) (by delta f39;simp (config := { maxSteps := 9999999 }) only [go_sem];rfl)
theorem cc39:A4 f39=(false,some ck39.erase,some [(.c 6 5 true),(.t 7)]):=by kernel_rfl
def ck49:CC:=cK (a:=cF [] [] [] f49) (by delta f49;simp only [go_sem];rfl)
theorem cc49:A4 f49=(false,some ck49.erase,some [(.t 4)]):=by kernel_rfl
def ck76:CC:=cK (a:=cF [] [] [] f76) (by delta f76;simp (config := { maxSteps := 9999999 }) only [go_sem];rfl)
theorem cc76:A4 f76=(false,some ck76.erase,some [(.c 4 5 true),(.t 5)]):=by kernel_rfl
def ck77:CC:=cK (a:=cF [] [] [] f77) (by delta f77;simp only [go_sem];rfl)
theorem cc77:A4 f77=(false,some ck77.erase,some [(.t 4)]):=by kernel_rfl
def ck139:CC:=cK (a:=cF [] [] [] f139) (by delta f139;simp only [go_sem];rfl)
theorem cc139:A4 f139=(false,some ck139.erase,some [(.t 4)]):=by kernel_rfl
def ck166:CC:=cK (a:=cF [] [] [] f166) (by delta f166;simp only [go_sem];rfl)
theorem cc166:A4 f166=(false,some ck166.erase,some [(.t 4)]):=by kernel_rfl
def ck149:CC:=cK (a:=cF [] [5] [] f149) (by delta f149;simp only [go_sem];rfl)
theorem cc149:A4 f149=(false,some ck149.erase,some [(.t 2)]):=by kernel_rfl
set_option maxRecDepth 20000
inductive Io where
 | mk (f a:qB) (v:Ag)
def Io.f:Io->qB | .mk f _ _=>f
def Io.a:Io->qB | .mk _ a _=>a
def Io.v:Io->Ag | .mk _ _ v=>v
theorem Io.f_mk (f a:qB) (v:Ag):(Io.mk f a v).f=f:=rfl
theorem Io.a_mk (f a:qB) (v:Ag):(Io.mk f a v).a=a:=rfl
theorem Io.v_mk (f a:qB) (v:Ag):(Io.mk f a v).v=v:=rfl
attribute [go_sem] Io.f_mk Io.a_mk Io.v_mk
abbrev cx (x:Io):AV:=.ag [.s x.f,.s x.a,.i .i64 x.v.k,.i .i64 x.v.n,.s x.v.s,.ds (Ab Aw x.v.items),.ds (Bq x.v.keys)]
inductive KU where
 | mk (t:qB) (l:List Io)
def KU.t:KU->qB | .mk t _=>t
theorem KU.t_mk (t:qB) (l:List Io):(KU.mk t l).t=t:=rfl
def KU.l:KU->List Io | .mk _ l=>l
theorem KU.l_mk (t:qB) (l:List Io):(KU.mk t l).l=l:=rfl
theorem KU.ext {x y:KU} (h0:x.t=y.t) (h1:x.l=y.l):x=y:=by cases x;cases y;simp only [KU.t_mk,KU.l_mk] at *;simp [*]
attribute [go_sem] KU.t_mk KU.l_mk
attribute [grind =] KU.t_mk KU.l_mk
attribute [ext] KU.ext
attribute [grind ext] KU.ext
inductive Jq where
 | mk (f a:qB) (i:Int) (c:Io)
def Jq.f:Jq->qB | .mk f _ _ _=>f
def Jq.a:Jq->qB | .mk _ a _ _=>a
def Jq.i:Jq->Int | .mk _ _ i _=>i
def Jq.c:Jq->Io | .mk _ _ _ c=>c
theorem Jq.f_mk (f a:qB) (i:Int) (c:Io):(Jq.mk f a i c).f=f:=rfl
theorem Jq.a_mk (f a:qB) (i:Int) (c:Io):(Jq.mk f a i c).a=a:=rfl
theorem Jq.i_mk (f a:qB) (i:Int) (c:Io):(Jq.mk f a i c).i=i:=rfl
theorem Jq.c_mk (f a:qB) (i:Int) (c:Io):(Jq.mk f a i c).c=c:=rfl
attribute [go_sem] Jq.f_mk Jq.a_mk Jq.i_mk Jq.c_mk
abbrev wx (x:Jq):AV:=.ag [.s x.f,.s x.a,.i .i64 x.i,.s x.c.f,.s x.c.a,.i .i64 x.c.v.k,.i .i64 x.c.v.n,.s x.c.v.s,.ds (Ab Aw x.c.v.items),.ds (Bq x.c.v.keys)]
inductive Iq where
 | mk (i:List KU) (w:List Jq)
def Iq.i:Iq->List KU | .mk i _=>i
theorem Iq.i_mk (i:List KU) (w:List Jq):(Iq.mk i w).i=i:=rfl
def Iq.w:Iq->List Jq | .mk _ w=>w
theorem Iq.w_mk (i:List KU) (w:List Jq):(Iq.mk i w).w=w:=rfl
theorem Iq.ext {x y:Iq} (h0:x.i=y.i) (h1:x.w=y.w):x=y:=by cases x;cases y;simp only [Iq.i_mk,Iq.w_mk] at *;simp [*]
attribute [go_sem] Iq.i_mk Iq.w_mk
attribute [grind =] Iq.i_mk Iq.w_mk
attribute [ext] Iq.ext
attribute [grind ext] Iq.ext
def Aot (v:Ag):Bool:=decide ((v.items.length:Int)=0)&&decide ((v.keys.length:Int)=0)&&(decide (v.k=8)&&decide (0<=v.n)&&decide (v.s=⟨#[]⟩)||decide (v.k=9)&&decide (v.n=0))
mutual
def plV:Ag->Ag×Bool
 | .mk k n s i l=>if k=8∨k=9 then (A8,Aot (.mk k n s i l)) else (.mk k n s (plL i).1 l,(plL i).2)
def plL:List Ag->List Ag×Bool
 | []=>([],true)
 |x::r=>((plV x).1::(plL r).1,(plV x).2&&(plL r).2)
end
def okC (c:Io):Bool:=(plV c.v).2&&FI c.f&&D9 false (plV c.v).1
inductive Iq.Fit:Iq->Prop
 | mk (d:Iq):d.i.length<=1000000000000->d.w.length<=1000000000000->(∀x∈d.i,x.l.length<=1000000000000∧∀c∈x.l,c.v.Fit)->(∀x∈d.w,x.c.v.Fit)->Iq.Fit d
theorem Iq.Fit.lw {d:Iq} (h:d.Fit):d.w.length<=1000000000000:=by cases h;assumption
theorem Iq.Fit.c {d:Iq} (h:d.Fit) {x:KU} (hx:x∈d.i) {c:Io} (hc:c∈x.l):c.v.Fit:=by cases h;rename_i h _;exact (h x hx).2 c hc
theorem Iq.Fit.w {d:Iq} (h:d.Fit) {x:Jq} (hx:x∈d.w):x.c.v.Fit:=by cases h;rename_i h;exact h x hx
def CY (s:qB):Ag:=.mk 3 0 s [] []
inductive Ky where
 | mk (t:qB) (g:Int) (l:List qB)
def Ky.t:Ky->qB | .mk t _ _=>t
theorem Ky.t_mk (t:qB) (g:Int) (l:List qB):(Ky.mk t g l).t=t:=rfl
def Ky.g:Ky->Int | .mk _ g _=>g
theorem Ky.g_mk (t:qB) (g:Int) (l:List qB):(Ky.mk t g l).g=g:=rfl
def Ky.l:Ky->List qB | .mk _ _ l=>l
theorem Ky.l_mk (t:qB) (g:Int) (l:List qB):(Ky.mk t g l).l=l:=rfl
theorem Ky.ext {x y:Ky} (h0:x.t=y.t) (h1:x.g=y.g) (h2:x.l=y.l):x=y:=by cases x;cases y;simp only [Ky.t_mk,Ky.g_mk,Ky.l_mk] at *;simp [*]
attribute [go_sem] Ky.t_mk Ky.g_mk Ky.l_mk
attribute [grind =] Ky.t_mk Ky.g_mk Ky.l_mk
attribute [ext] Ky.ext
attribute [grind ext] Ky.ext
