/- Proof. Conditions: none. -/
import Derived.KernelRfl
import Derived.Test.YtgfidgoefioigaaGreatDoorIj12
open Nat renaming max_eq_right->z36,le_succ->z3s
namespace Go.Eng
set_option linter.all false
theorem nd {U:Sort _} {a b:U} (h:a=b):a=b:=h
/-! ### Ways to go on -/
def BJ {U:Type}:Option U->(U->Prop)->Prop
 |some a,K=>K a
 |none,_=>False
theorem Vf {U:Type} (a:U) (K:U->Prop):BJ (some a) K=K a:=nd rfl
def avB:AV->(Bool->Prop)->Prop
 | .b x,K=>K x
 |_,_=>False
theorem Aiu (x:Bool) (K:Bool->Prop):avB (.b x) K=K x:=nd rfl
def gdK:AV->Bool->(Bool->Prop)->Prop
 | .b x,w,K=>K (x == w)
 | .gd c (.b x),w,K=>K (c&&(x == w))
 | .gd false .un,_,K=>K false
 |_,_,_=>False
theorem Akz (x w:Bool) (K:Bool->Prop):gdK (.b x) w K=K (x == w):=nd rfl
theorem Aig (c x w:Bool) (K:Bool->Prop):gdK (.gd c (.b x)) w K=K (c&&(x == w)):=nd rfl
def avS:AV->(qB->Prop)->Prop
 | .s x,K=>K x
 |_,_=>False
def avF:AV->(Nat->List AV->Prop)->Prop
 | .fn g i8,K=>K g i8
 |_,_=>False
theorem Aks (g:Nat) (i8:List AV) (K:Nat->List AV->Prop):avF (.fn g i8) K=K g i8:=nd rfl
def chB:Ak->(List AV->Prop)->Prop
 | .bx cs,K=>K cs
 |_,_=>False
def VO:Ak->(List AV->Prop)->Prop
 | .bx cs,K=>K cs
 | .ro cs,K=>K cs
 |_,_=>False
theorem Aje (cs:List AV) (K:List AV->Prop):VO (.bx cs) K=K cs:=nd rfl
theorem Ajl (cs:List AV) (K:List AV->Prop):chB (.bx cs) K=K cs:=nd rfl
def AK (env:EN):Bj->AV:=fun s=>Bf (s.ev env)
theorem Ah1 (env:EN) (n:Nat):AK env (.t n)=Bf (ge env n):=nd rfl
theorem Aj0 (env:EN) (U:AV):AK env (.c U)=Bf U:=nd rfl
attribute [go_sem] Vf Aiu Akz Aig Aks Aje Ajl Ah1 Aj0
def ldB (off m:Nat) (ag:Bool) (L:AV->Prop) (cs:List AV):Prop:=off+m<=cs.length∧L (Vr ag ((cs.drop off).take m))
def ldF (z off m:Nat) (ag:Bool) (L:AV->Prop) (e:List AV):Prop:=(e.length=z∧off+m<=e.length)∧L (Vr ag ((e.drop off).take m))
def ldE (i z off m:Nat) (ag:Bool) (L:AV->Prop) (l:List (List AV)):Prop:=GQ l i (ldF z off m ag L)
def ldK (hp:CH) (m:Nat) (ag:Bool) (L:AV->Prop):AV->Prop
 | .bx k off=>VO (gc hp k) (ldB off m ag L)
 | .ep U z i off=>BJ (sl hp U) (ldE i z off m ag L)
 |_=>False
theorem Aie (hp:CH) (m:Nat) (ag:Bool) (L:AV->Prop) (k off:Nat):ldK hp m ag L (.bx k off)=VO (gc hp k) (ldB off m ag L):=nd rfl
theorem Aia (hp:CH) (m:Nat) (ag:Bool) (L:AV->Prop) (U:AV) (z i off:Nat):ldK hp m ag L (.ep U z i off)=BJ (sl hp U) (ldE i z off m ag L):=nd rfl
theorem Ade (off m:Nat) (ag:Bool) (L:AV->Prop) (cs:List AV):ldB off m ag L cs=(off+m<=cs.length∧L (Vr ag ((cs.drop off).take m))):=nd rfl
theorem Aff (i z off m:Nat) (ag:Bool) (L:AV->Prop) (l:List (List AV)):ldE i z off m ag L l=GQ l i (ldF z off m ag L):=nd rfl
theorem Afa (z off m:Nat) (ag:Bool) (L:AV->Prop) (e:List AV):ldF z off m ag L e=((e.length=z∧off+m<=e.length)∧L (Vr ag ((e.drop off).take m))):=nd rfl
attribute [go_sem] Aie Aia Ade Aff Afa
theorem W5 {hp:CH} {m:Nat} {ag:Bool} {L:AV->Prop} {x:Bj} {f:Bj->AV}:IV hp f (.ld x m ag) L=ldK hp m ag L (f x):=by
 unfold IV
 simp only
 cases f x with
 |bx k off=>simp only [ldK];cases gc hp k<;>rfl
 |ep U z i off=>simp only [ldK];cases sl hp U<;>rfl
 |_=>rfl
def QP (b:Bool) (e:LE) (l:List LE):List LE:=match b with
 |true=>e::l
 |false=>l
/-! ### Code -/
section
variable {P:Program} {env:EN} {hp:CH} {n:Nat} {Q:Exit->St->Prop}
section
variable {b a c:CC} {st s:St} {dp:List Nat} {id i:Nat}
def sqK (P:Program) (b:CC) (Q:Exit->St->Prop):Exit->St->Prop
 | .normal,s=>vc P b s Q
 |e,s=>Q e s
def wkP (P:Program) (b:CC) (Q:Exit->St->Prop) (st:St):Prop:=∃I:St->Prop,WR st I∧∀s',I s'->vc P b s' Q
theorem LF {s':St} (h:CM st s') (k:vc P b s' Q):wkP P b Q st:=⟨_,h.s,fun _ e=>by subst e;exact k⟩
def Alm (P:Program) (b:CC) (Q:Exit->St->Prop):Exit->St->Prop
 | .normal,s=>wkP P b Q s
 |e,s=>Q e s
def blK (id:Nat) (Q:Exit->St->Prop):Exit->St->Prop
 | .exit i,s=>if i=id then Q .normal s else Q (.exit i) s
 |e,s=>Q e s
def cdK (P:Program) (a b:CC) (st:St) (Q:Exit->St->Prop) (x:Bool):Prop:=HR x (vc P a st Q) (vc P b st Q)
theorem Ale:cdK P a b st Q true=vc P a st Q:=by simp [cdK,HR]
theorem Aji:cdK P a b st Q false=vc P b st Q:=by simp [cdK,HR]
theorem Ae {x:Bool} (h1:x=true->vc P a st Q) (h2:x=false->vc P b st Q):cdK P a b st Q x:=⟨h1,h2⟩
def drQ (Q:Exit->St->Prop) (dp:List Nat) (n:Nat) (env:EN) (hp:CH):Prop:=Q .normal ⟨EN.drop dp env,hp,n⟩
theorem Ac1:drQ Q dp n env hp=Q .normal ⟨EN.drop dp env,hp,n⟩:=nd rfl
theorem Aa4:vc P .skip st Q=Q .normal st:=nd rfl
theorem Ai6 {l:List CO}:vc P (.rg l) st Q=Bg P l st (Q .normal):=nd rfl
theorem Aib:vc P (.sq a b) st Q=vc P a st (sqK P b Q):=by
 show vc P a st _=_
 congr 1
 funext e s
 cases e<;>rfl
theorem Af4:vc P (.sqw a b) st Q=vc P a st (Alm P b Q):=by
 show vc P a st _=_
 congr 1
 funext e s
 cases e<;>rfl
theorem Akl {c:Bj}:vc P (.cd c a b) ⟨env,hp,n⟩ Q=(EU true (c.ev env)∧avB (AK env c) (cdK P a b ⟨env,hp,n⟩ Q)):=by
 show (_∧_)=(_∧avB (Bf (c.ev env)) _)
 cases Bf (c.ev env)<;>rfl
theorem Ajh:vc P (.bl id c) st Q=vc P c st (blK id Q):=by
 show vc P c st _=_
 congr 1
 funext e s
 cases e<;>rfl
theorem Aip:vc P (.lp c) st Q=NR (vc P c) st Q:=nd rfl
theorem Ajk:vc P (.ex id) st Q=Q (.exit id) st:=nd rfl
theorem Ait:vc P .rt st Q=Q .ret st:=nd rfl
theorem Akw {l:List DO}:vc P (.dr l dp) ⟨env,hp,n⟩ Q=Mq P n (n+l.length) 0 l env hp [] (drQ Q dp (n+l.length)):=nd rfl
theorem Ail:sqK P b Q .normal s=vc P b s Q:=nd rfl
theorem Ahx:sqK P b Q .ret s=Q .ret s:=nd rfl
theorem Ahw:sqK P b Q (.exit i) s=Q (.exit i) s:=nd rfl
theorem Ac3:Alm P b Q .normal s=wkP P b Q s:=nd rfl
theorem Ak6:blK id Q .normal s=Q .normal s:=nd rfl
theorem Aj1:blK id Q .ret s=Q .ret s:=nd rfl
theorem Ah0:blK id Q (.exit i) s=if i=id then Q .normal s else Q (.exit i) s:=nd rfl
end
end
attribute [go_sem] Af4 Ac3 Ac1 Aa4 Ai6 Aib Akl Ajh Aip Ajk Ait Akw Ail Ahx Ahw Ak6 Aj1 Ah0 Ale Aji
/-! ### Operations -/
def kC (P:Program) (d:Option Nat) (dp:List Nat) (r:List CO) (env:EN) (K:St->Prop) (hp:CH) (n:Nat) (a:AV):Prop:=Bg P r ⟨EN.drop dp (EN.set env d a),hp,n⟩ K
theorem Aih (P:Program) (d:Option Nat) (dp:List Nat) (r:List CO) (env:EN) (K:St->Prop) (hp:CH) (n:Nat) (a:AV):kC P d dp r env K hp n a=Bg P r ⟨EN.drop dp (EN.set env d a),hp,n⟩ K:=nd rfl
def boK (L:CH->Nat->AV->Prop) (hp:CH) (n:Nat) (cs:List AV):Prop:=L ((n,.bx cs)::hp) (n+1) (.bx n 0)
def stO (L:CH->Nat->AV->Prop) (hp:CH) (n k off:Nat) (cs old:List AV):Prop:=off+cs.length<=old.length∧L ((k,.bx (old.take off++cs++old.drop (off+cs.length)))::hp) n .un
def chW:Ak->(Bool->Nat->Nat->List (List AV)->Prop)->Prop
 | .rw g n l,K=>K false g n l
 | .rn g n l,K=>K true g n l
 |_,_=>False
theorem Akf (g n:Nat) (l:List (List AV)) (K:Bool->Nat->Nat->List (List AV)->Prop):chW (.rw g n l) K=K false g n l:=nd rfl
def stQ (L:CH->Nat->AV->Prop) (hp:CH) (n k i off:Nat) (cs:List AV) (nb:Bool) (g' n':Nat) (l:List (List AV)) (e:List AV):Prop:=L ((k,G9 nb g' n' (l.set i (e.take off++cs++e.drop (off+cs.length))))::hp) n .un
def stP (L:CH->Nat->AV->Prop) (hp:CH) (n k g z i off:Nat) (cs:List AV) (nb:Bool) (g' n':Nat) (l:List (List AV)):Prop:=(g=g'∧z=n'∧off+cs.length<=z∧okC nb cs=true)∧GQ l i (stQ L hp n k i off cs nb g' n' l)
def stW (L:CH->Nat->AV->Prop) (hp:CH) (n:Nat) (cs:List AV):AV->Prop
 | .bx k off=>chB (gc hp k) (stO L hp n k off cs)
 | .ep (.rw k g _) z i off=>chW (gc hp k) (stP L hp n k g z i off cs)
 |_=>False
def stB (L:CH->Nat->AV->Prop) (hp:CH) (n m:Nat) (p:AV) (cs:List AV):Prop:=cs.length=m∧ones cs=true∧stW L hp n cs p
def chM:Ak->(List (qB×AV)->Prop)->Prop
 | .mp l,K=>K l
 |_,_=>False
theorem Ahy (l:List (qB × AV)) (K:List (qB × AV)->Prop):chM (.mp l) K=K l:=nd rfl
def muM (L:CH->Nat->AV->Prop) (hp:CH) (n k:Nat) (b:qB) (y:AV) (l:List (qB × AV)):Prop:=y.purR=true∧L ((k,.mp (DP b y l))::hp) n .un
def muB (L:CH->Nat->AV->Prop) (hp:CH) (n:Nat) (y:AV):AV->AV->Prop
 | .mp k,.s b=>chM (gc hp k) (muM L hp n k b y)
 |_,_=>False
def nlB (L:CH->Nat->AV->Prop) (hp:CH) (n:Nat) (neg:Bool):AV->Prop
 | .ds l=>(l=[]->L hp n (.b (!neg)))∧L hp n (.b neg)
 | .rw k g len=>(nlZ hp k g len->L hp n (.b (!neg)))∧L hp n (.b neg)
 | .e0=>L hp n (.b (!neg))∧L hp n (.b neg)
 |_=>False
def bsK (L:CH->Nat->AV->Prop) (hp:CH) (n n0:Nat) (l:List (List AV)):Prop:=L ((n,.rw 0 n0 l)::hp) (n+1) (.rw n 0 l.length)
def bsT (L:CH->Nat->AV->Prop) (hp:CH) (n:Nat) (l:List (List AV)):Prop:=L hp n (.ds l)
def apB (L:CH->Nat->AV->Prop) (hp:CH) (a:AV × (Nat × Ak) × Nat):Prop:=L (a.2.1::hp) a.2.2 a.1
def apA (L:CH->Nat->AV->Prop) (hp:CH) (n m b:Nat) (x:AV) (l2:List (List AV)):Prop:=Ew m l2∧(C1 x+l2.length)*b<=140737488355328∧C1 x+l2.length<=9223372036854775807∧BJ (HQ hp n n m x l2) (apB L hp)
def ccK (P:Program) (L:CH->Nat->AV->Prop) (hp:CH) (n:Nat) (args:List AV) (g:Nat) (i8:List AV):Prop:=Ac P g hp n (args++i8) L
section
variable {L:CH->Nat->AV->Prop} {hp:CH} {n:Nat}
section
variable {cs:List AV} {k off g len z i g' n' m:Nat} {nb neg:Bool} {l:List (List AV)} {b:qB} {y:AV}
theorem Agb:boK L hp n cs=L ((n,.bx cs)::hp) (n+1) (.bx n 0):=nd rfl
theorem Ag0 {old:List AV}:stO L hp n k off cs old=(off+cs.length<=old.length∧L ((k,.bx (old.take off++cs++old.drop (off+cs.length)))::hp) n .un):=nd rfl
theorem Akm:stW L hp n cs (.bx k off)=chB (gc hp k) (stO L hp n k off cs):=nd rfl
theorem Aht:stW L hp n cs (.ep (.rw k g len) z i off)=chW (gc hp k) (stP L hp n k g z i off cs):=nd rfl
theorem Ac4:stP L hp n k g z i off cs nb g' n' l=((g=g'∧z=n'∧off+cs.length<=z∧okC nb cs=true)∧GQ l i (stQ L hp n k i off cs nb g' n' l)):=nd rfl
theorem Afz {e:List AV}:stQ L hp n k i off cs nb g' n' l e=L ((k,G9 nb g' n' (l.set i (e.take off++cs++e.drop (off+cs.length))))::hp) n .un:=nd rfl
theorem Af1 {l:List (qB × AV)}:muM L hp n k b y l=(y.purR=true∧L ((k,.mp (DP b y l))::hp) n .un):=nd rfl
theorem Akq:muB L hp n y (.mp k) (.s b)=chM (gc hp k) (muM L hp n k b y):=nd rfl
theorem Aik:nlB L hp n neg (.ds l)=((l=[]->L hp n (.b (!neg)))∧L hp n (.b neg)):=nd rfl
theorem Aiy:nlB L hp n neg (.rw k g len)=((nlZ hp k g len->L hp n (.b (!neg)))∧L hp n (.b neg)):=nd rfl
theorem Afq {p:AV}:stB L hp n m p cs=(cs.length=m∧ones cs=true∧stW L hp n cs p):=nd rfl
theorem Aek {n0:Nat}:bsK L hp n n0 l=L ((n,.rw 0 n0 l)::hp) (n+1) (.rw n 0 l.length):=nd rfl
theorem Adp:bsT L hp n l=L hp n (.ds l):=nd rfl
theorem Aez {U:AV} {c:Nat × Ak}:apB L hp (U,c,n')=L (c::hp) n' U:=nd rfl
theorem Agg {b:Nat} {x:AV} {l2:List (List AV)}:apA L hp n m b x l2=(Ew m l2∧(C1 x+l2.length)*b<=140737488355328∧C1 x+l2.length<=9223372036854775807∧BJ (HQ hp n n m x l2) (apB L hp)):=nd rfl
theorem Aeg {P:Program} {args:List AV} {i8:List AV}:ccK P L hp n args g i8=Ac P g hp n (args++i8) L:=nd rfl
theorem Ux (m:Nat):Ew m []=True:=by simp [Ew]
theorem Sa (m:Nat) (e:List AV) (l:List (List AV)):Ew m (e::l)=((e.length=m∧FW e=true)∧Ew m l):=by simp [Ew]
end
end
attribute [go_sem] nlZ Aih Agb Ag0 Akm Aht Ac4 Afz Akf Ahy Af1 Akq Aik Aiy Afq Aek Adp Aez Agg Aeg Ux Sa
def S4 (P:Program) (dp:List Nat) (r:List CO) (K:St->Prop) (s:St):Prop:=Bg P r ⟨EN.drop dp s.env,s.hp,s.n⟩ K
def gC (env:EN) (d:Option Nat) (K:St->Prop) (hp:CH) (n:Nat) (a:AV):Prop:=K ⟨EN.set env d a,hp,n⟩
def gK (P:Program) (d:Option Nat) (op:Au) (g:Option (Nat × Bool)) (st:St) (K:St->Prop) (G:Bool):Prop:=Ro P ⟨d,op,g,[],false⟩ st G K
def ZP (P:Program) (o:CO) (d:Option Nat) (st:St) (K:St->Prop) (G:Bool):Prop:=HR G (Bg P [o] st K) (K ⟨EN.set st.env d (.gd false .un),st.hp,st.n⟩)
section
variable {P:Program} {d:Option Nat} {dp:List Nat} {r:List CO} {env:EN} {hp:CH} {n:Nat} {K:St->Prop}
section
variable {o:CO} {x y s:Bj} {m n0 k:Nat} {ps xs:List Bj} {b:qB} {l:List (qB × AV)} {sn:List qB} {U:AV} {L:CH->Nat->AV->Prop} {op:Au}
theorem X1:S4 P dp r K ⟨env,hp,n⟩=Bg P r ⟨EN.drop dp env,hp,n⟩ K:=nd rfl
theorem Ali {a:AV}:gC env d K hp n a=K ⟨EN.set env d a,hp,n⟩:=nd rfl
theorem Alk:ZP P o d ⟨env,hp,n⟩ K true=Bg P [o] ⟨env,hp,n⟩ K:=by simp [ZP,HR]
theorem Akh:ZP P o d ⟨env,hp,n⟩ K false=K ⟨EN.set env d (.gd false .un),hp,n⟩:=by simp [ZP,HR]
theorem Jo {G:Bool} (h1:G=true->Bg P [o] ⟨env,hp,n⟩ K) (h2:G=false->K ⟨EN.set env d (.gd false .un),hp,n⟩):ZP P o d ⟨env,hp,n⟩ K G:=⟨h1,h2⟩
theorem Aku {st:St}:Bg P [] st K=K st:=nd rfl
theorem Am6 {ag:Bool}:Bg P (⟨d,.ld x m ag,none,dp,false⟩::r) ⟨env,hp,n⟩ K=(EU true (x.ev env)∧ldK hp m ag (kC P d dp r env K hp n) (AK env x)):=by
 show (_∧_)=_
 congr 1
 exact W5 (f:=AK env)
theorem Amr {z:List AV}:Bg P (⟨d,.al z,none,dp,false⟩::r) ⟨env,hp,n⟩ K=Bg P r ⟨EN.drop dp (EN.set env d (.bx n 0)),(n,.bx z)::hp,n+1⟩ K:=by
 show (True∧_)=_
 rw [true_and]
 show Bg P r ⟨_,_,max n (n+1)⟩ K=_
 rw [z36 (z3s n)]
theorem Aop:Bg P (⟨d,.bo x,none,dp,false⟩::r) ⟨env,hp,n⟩ K=(EU true (x.ev env)∧BJ (AK env x).cl (boK (kC P d dp r env K) hp n)):=by
 show (_∧_)=(_∧BJ (Bf (x.ev env)).cl _)
 congr 1
 cases h:(Bf (x.ev env)).cl with
 |none=>simp only [D9,h];rfl
 |some cs=>
  simp only [h]
  show Bg P r ⟨_,_,max n (n+1)⟩ K=_
  rw [z36 (z3s n)]
  rfl
theorem Amy:Bg P (⟨d,.st x y m,none,dp,false⟩::r) ⟨env,hp,n⟩ K=((EU true (x.ev env)∧EU true (y.ev env))∧BJ (AK env y).cl (stB (kC P d dp r env K) hp n m (AK env x))):=by
 show (_∧_)=(_∧BJ (Bf (y.ev env)).cl _)
 congr 1
 cases h:(Bf (y.ev env)).cl with
 |none=>simp only [D9,h];rfl
 |some cs=>
  simp only [h]
  show (_∧_∧stK hp (Bf (x.ev env)) cs _)=(_∧_∧stW _ hp n cs (Bf (x.ev env)))
  congr 2
  unfold stK
  cases Bf (x.ev env) with
  |bx k off=>simp only [stW];cases gc hp k<;>rfl
  |ep U z i off=>
   cases U with
   |rw k g len=>simp only [stW];cases gc hp k<;>rfl
   |_=>rfl
  |_=>rfl
theorem Amj:Bg P (⟨d,.mk,none,dp,false⟩::r) ⟨env,hp,n⟩ K=(True∧kC P d dp r env K ((n,.mp [])::hp) (n+1) (.mp n)):=by
 show (_∧_)=(_∧_)
 refine congrArg _ ?_
 show Bg P r ⟨_,_,max n (n+1)⟩ K=_
 rw [z36 (z3s n)]
 rfl
theorem Ao1:Bg P (⟨d,.mu x s y,none,dp,false⟩::r) ⟨env,hp,n⟩ K=((EU true (x.ev env)∧EU true (s.ev env)∧EU true (y.ev env))∧muB (kC P d dp r env K) hp n (AK env y) (AK env x) (AK env s)):=by
 show (_∧_)=(_∧_)
 refine congrArg _ ?_
 show muK hp (Bf (x.ev env)) (Bf (s.ev env)) (Bf (y.ev env)) _=muB _ hp n (Bf (y.ev env)) (Bf (x.ev env)) (Bf (s.ev env))
 cases Bf (x.ev env) with
 |mp k=>cases Bf (s.ev env) with
  |s b=>simp only [muK,muB];cases gc hp k<;>rfl
  |_=>rfl
 |_=>rfl
theorem Aoj {neg:Bool}:Bg P (⟨d,.nl neg x,none,dp,false⟩::r) ⟨env,hp,n⟩ K=(EU true (x.ev env)∧nlB (kC P d dp r env K) hp n neg (AK env x)):=by
 show (_∧_)=(_∧_)
 refine congrArg _ ?_
 show nlK hp (Bf (x.ev env)) neg _=nlB _ hp n neg (Bf (x.ev env))
 cases Bf (x.ev env)<;>rfl
theorem Ans:Bg P (⟨d,.bs false n0 ps,none,dp,false⟩::r) ⟨env,hp,n⟩ K=(Gc env true ps∧BJ (CG (shutP hp (ps.map (AK env))) n0 (ps.map (AK env))) (bsK (kC P d dp r env K) (shutP hp (ps.map (AK env))) n n0)):=by
 show (_∧_)=(_∧_)
 congr 1
 show (match CG (shutP hp (ps.map (AK env))) n0 (ps.map (AK env)) with | some l=>_ | none=>False)=_
 cases h:CG (shutP hp (ps.map (AK env))) n0 (ps.map (AK env)) with
 |none=>rfl
 |some l=>
  show Bg P r ⟨_,_,max n (n+1)⟩ K=_
  rw [z36 (z3s n)]
  rfl
theorem Alb:Bg P (⟨d,.bs true n0 ps,none,dp,false⟩::r) ⟨env,hp,n⟩ K=(Gc env true ps∧BJ (CG (shutP hp (ps.map (AK env))) n0 (ps.map (AK env))) (bsT (kC P d dp r env K) (shutP hp (ps.map (AK env))) n)):=by
 show (_∧_)=(_∧_)
 congr 1
 show (match CG (shutP hp (ps.map (AK env))) n0 (ps.map (AK env)) with | some l=>_ | none=>False)=_
 cases h:CG (shutP hp (ps.map (AK env))) n0 (ps.map (AK env))<;>rfl
theorem Am7 {b:Nat}:Bg P (⟨d,.ap x y m b,none,dp,false⟩::r) ⟨env,hp,n⟩ K=((EU true (x.ev env)∧EU true (y.ev env))∧BJ (sl hp (AK env y)) (apA (kC P d dp r env K) hp n m b (AK env x))):=by
 show (_∧_)=(_∧BJ (sl hp (Bf (y.ev env))) _)
 congr 1
 cases h:sl hp (Bf (y.ev env)) with
 |none=>simp only [D9,h];rfl
 |some l2=>
  simp only [h]
  show (_∧_∧_∧_)=(_∧_∧_∧BJ (HQ hp n n m (Bf (x.ev env)) l2) _)
  congr 3
  cases h2:HQ hp n n m (Bf (x.ev env)) l2 with
  |none=>rfl
  |some a=>rfl
attribute [go_sem] frz Aau List.map_cons List.map_nil
/-! maps that are gone through -/
def mgC (L:CH->Nat->AV->Prop) (n:Nat) (U:AV) (hp:CH):Prop:=L hp n U
def meC (L:CH->Nat->AV->Prop) (hp:CH) (n:Nat) (U:AV):Prop:=L hp n U
def mdC (L:CH->Nat->AV->Prop) (n:Nat) (hp:CH):Prop:=L hp n .un
def mgX (k:Nat) (hp:CH) (K:AV->CH->Prop):Ak->Prop
 | .mp l=>K (.mi k) ((k,.mr l [])::hp)
 |_=>False
def mxP (k:Nat) (hp:CH) (K:AV->CH->Prop) (l:List (qB×AV)) (sn:List qB):Prop :=
 ((∀p∈l,p.1∈sn)->K (.tp [.b false]) hp)∧∀(j:Nat) b U,l[j]?=some (b,U)->b ∉ sn->K (.tp [.b true,.s b,U]) ((k,.mr l (sn++[b]))::hp)
def mxX (k:Nat) (hp:CH) (K:AV->CH->Prop):Ak->Prop
 | .mr l sn=>mxP k hp K l sn
 |_=>False
def meP (K:AV->Prop) (l:List (qB × AV)) (sn:List qB):Prop:=∃b,sn.getLast?=some b∧∃U,B9 b l=some U∧K (.tp [.s b,U])
def meX (K:AV->Prop):Ak->Prop
 | .mr l sn=>meP K l sn
 |_=>False
def mdX (k:Nat) (b:qB) (hp:CH) (K:CH->Prop):Ak->Prop
 | .mp l=>K ((k,.mp (De b l))::hp)
 | .mr l sn=>K ((k,.mr (De b l) sn)::hp)
 |_=>False
theorem SI {hp:CH} {K:AV->CH->Prop} (h1:(∀p∈l,p.1∈sn)->K (.tp [.b false]) hp)
 (h2:∀(j:Nat) b U,l[j]?=some (b,U)->b ∉ sn->K (.tp [.b true,.s b,U]) ((k,.mr l (sn++[b]))::hp)):mxP k hp K l sn:=⟨h1,h2⟩
theorem T4 {K:AV->Prop} (h1:sn.getLast?=some b) (h2:B9 b l=some U) (h3:K (.tp [.s b,U])):meP K l sn:=⟨b,h1,U,h2,h3⟩
theorem Aex {n:Nat} {hp:CH}:mgC L n U hp=L hp n U:=nd rfl
theorem Afv {n:Nat} {hp:CH}:meC L hp n U=L hp n U:=nd rfl
theorem Ae3 {n:Nat} {hp:CH}:mdC L n hp=L hp n .un:=nd rfl
theorem Aec {hp:CH} {K:AV->CH->Prop}:mgK hp (.mp k) K=mgX k hp K (gc hp k):=nd (by unfold mgK mgX;dsimp only;generalize gc hp k=c;cases c<;>rfl)
theorem Afl {hp:CH} {K:AV->CH->Prop}:mxK hp (.mi k) K=mxX k hp K (gc hp k):=nd (by unfold mxK mxX;dsimp only;generalize gc hp k=c;cases c<;>rfl)
theorem Ag4 {hp:CH} {K:AV->Prop}:meK hp (.mi k) K=meX K (gc hp k):=nd (by unfold meK meX;dsimp only;generalize gc hp k=c;cases c<;>rfl)
theorem Af3 {hp:CH} {K:CH->Prop}:mdK hp (.mp k) (.s b) K=mdX k b hp K (gc hp k):=nd (by unfold mdK mdX;dsimp only;generalize gc hp k=c;cases c<;>rfl)
theorem Afn {hp:CH} {K:AV->CH->Prop}:mgX k hp K (.mp l)=K (.mi k) ((k,.mr l [])::hp):=nd rfl
theorem Ael {hp:CH} {K:AV->CH->Prop}:mxX k hp K (.mr l sn)=mxP k hp K l sn:=nd rfl
theorem Ag2 {K:AV->Prop}:meX K (.mr l sn)=meP K l sn:=nd rfl
theorem Ae1 {hp:CH} {K:CH->Prop}:mdX k b hp K (.mr l sn)=K ((k,.mr (De b l) sn)::hp):=nd rfl
theorem Ah3:Bg P (⟨d,.mpg x,none,dp,false⟩::r) ⟨env,hp,n⟩ K=(EU true (x.ev env)∧mgK hp (AK env x) (mgC (kC P d dp r env K) n)):=nd rfl
theorem Aj5:Bg P (⟨d,.mpn x,none,dp,false⟩::r) ⟨env,hp,n⟩ K=(EU true (x.ev env)∧mxK hp (AK env x) (mgC (kC P d dp r env K) n)):=nd rfl
theorem Ajb:Bg P (⟨d,.mpe x,none,dp,false⟩::r) ⟨env,hp,n⟩ K=(EU true (x.ev env)∧meK hp (AK env x) (meC (kC P d dp r env K) hp n)):=nd rfl
theorem Ajw:Bg P (⟨d,.mpd x s,none,dp,false⟩::r) ⟨env,hp,n⟩ K=((EU true (x.ev env)∧EU true (s.ev env))∧mdK hp (AK env x) (AK env s) (mdC (kC P d dp r env K) n)):=nd rfl
attribute [go_sem] Aex Afv Ae3 Aec Afl Ag4 Af3 Afn Ael Ag2 Ae1 Ah3 Aj5 Ajb Ajw
theorem Apk {f:Nat}:Bg P (⟨d,.cl f xs,none,dp,false⟩::r) ⟨env,hp,n⟩ K=(Gc env true xs∧Ac P f hp n (xs.map (AK env)) (kC P d dp r env K)):=nd rfl
theorem Ao0 {f:Bj}:Bg P (⟨d,.cc f xs,none,dp,false⟩::r) ⟨env,hp,n⟩ K=((EU true (f.ev env)∧Gc env true xs)∧avF (AK env f) (ccK P (kC P d dp r env K) hp n (xs.map (AK env)))):=by
 show (_∧_)=(_∧avF (Bf (f.ev env)) _)
 congr 1
 cases h:Bf (f.ev env)<;>first | (simp only [D9,h,avF];done) | (simp only [D9,h,avF];rfl)
theorem q_g {t:Nat} {i7:Bool}:Bg P (⟨d,op,some (t,i7),dp,false⟩::r) ⟨env,hp,n⟩ K=gdK (ge env t) i7 (gK P d op (some (t,i7)) ⟨env,hp,n⟩ (S4 P dp r K)):=by
 have key:∀G,Ro P ⟨d,op,some (t,i7),dp,false⟩ ⟨env,hp,n⟩ G (fun c8=>Bg P r ⟨EN.drop dp c8.env,c8.hp,c8.n⟩ K)=gK P d op (some (t,i7)) ⟨env,hp,n⟩ (S4 P dp r K) G:=fun G=>rfl
 suffices key0:J8 P ⟨d,op,some (t,i7),dp,false⟩ ⟨env,hp,n⟩ (fun c8=>Bg P r ⟨EN.drop dp c8.env,c8.hp,c8.n⟩ K)=gdK (ge env t) i7 (gK P d op (some (t,i7)) ⟨env,hp,n⟩ (S4 P dp r K)) from key0
 unfold J8
 simp only
 cases h:ge env t with
 |gd c x=>cases x<;>first | rfl | exact key _ | (cases c<;>first | rfl | exact key _)
 |_=>first | rfl | exact key _
def Au.isL:Au->Bool
 | .ld _ _ _=>true
 |_=>false
theorem Ab7 (h1:op.isV=true) (h2:op.isL=false) (L:AV->Prop):IV hp (AK env) op L=(Au.pre hp (AK env) op∧BJ (Au.val hp (AK env) op) L):=by
 cases op<;>first | (simp [Au.isL] at h2;done) | rfl | (unfold IV;simp only;first | done | (congr 1;first | done | (cases Au.val hp (AK env) _<;>rfl)))
theorem QN (h1:op.isV=true) (h2:op.isL=false):Bg P (⟨d,op,none,dp,false⟩::r) ⟨env,hp,n⟩ K=(Au.obsB env true op∧Au.pre hp (AK env) op∧BJ (Au.val hp (AK env) op) (kC P d dp r env K hp n)):=by
 cases op<;>first | (simp [Au.isV] at h1;done) | exact congrArg (_∧·) (Ab7 h1 h2 _)
def dV (K:AV->CH->List Nat->Bool->Prop) (R:List Nat) (U:AV):Prop:=K U [] R false
theorem Ajo {K:AV->CH->List Nat->Bool->Prop} {R:List Nat}:dV K R U=K U [] R false:=nd rfl
theorem VK {N1 i:Nat} {un bf:List Nat} {lg:Bool} {K:AV->CH->List Nat->Bool->Prop} (h1:op.isV=true) (h2:op.isL=false):Ds P n0 N1 i ⟨⟨d,op,none,dp,false⟩,un,lg,bf⟩ env hp K=(Au.obsB env true op∧Au.pre hp (AK env) op∧BJ (Au.val hp (AK env) op) (dV K (Au.rd (AK env) op))):=by
 cases op<;>first | (simp [Au.isV] at h1;done) | exact congrArg (_∧·) (Ab7 h1 h2 (dV K (Au.rd (AK env) _)))
end
end
section
variable {P:Program} {d:Option Nat} {dp un bf:List Nat} {r:List CO} {env:EN} {hp:CH} {n n0 N1 i:Nat} {K:St->Prop} {lg:Bool}
attribute [go_sem] X1 Ali Alk Akh Ajo Aku Am6 Amr Aop Amy Aoj Amj Ao1 Ans Alb Am7 Apk Ao0 q_g
theorem Apq {x}:Bg P (⟨d,.mv x,none,dp,false⟩::r) ⟨env,hp,n⟩ K=(Au.obsB env true (.mv x)∧Au.pre hp (AK env) (.mv x)∧BJ (Au.val hp (AK env) (.mv x)) (kC P d dp r env K hp n)):=QN rfl rfl
theorem Aol {K:AV->CH->List Nat->Bool->Prop} {x}:Ds P n0 N1 i ⟨⟨d,.mv x,none,dp,false⟩,un,lg,bf⟩ env hp K=(Au.obsB env true (.mv x)∧Au.pre hp (AK env) (.mv x)∧BJ (Au.val hp (AK env) (.mv x)) (dV K (Au.rd (AK env) (.mv x)))):=VK rfl rfl
attribute [go_sem] Apq Aol
theorem Ami {c} {a} {b}:Bg P (⟨d,.pk c a b,none,dp,false⟩::r) ⟨env,hp,n⟩ K=(Au.obsB env true (.pk c a b)∧Au.pre hp (AK env) (.pk c a b)∧BJ (Au.val hp (AK env) (.pk c a b)) (kC P d dp r env K hp n)):=QN rfl rfl
theorem Amb {K:AV->CH->List Nat->Bool->Prop} {c} {a} {b}:Ds P n0 N1 i ⟨⟨d,.pk c a b,none,dp,false⟩,un,lg,bf⟩ env hp K=(Au.obsB env true (.pk c a b)∧Au.pre hp (AK env) (.pk c a b)∧BJ (Au.val hp (AK env) (.pk c a b)) (dV K (Au.rd (AK env) (.pk c a b)))):=VK rfl rfl
attribute [go_sem] Ami Amb
theorem Apz {z} {ps}:Bg P (⟨d,.bd z ps,none,dp,false⟩::r) ⟨env,hp,n⟩ K=(Au.obsB env true (.bd z ps)∧Au.pre hp (AK env) (.bd z ps)∧BJ (Au.val hp (AK env) (.bd z ps)) (kC P d dp r env K hp n)):=QN rfl rfl
theorem Apj {K:AV->CH->List Nat->Bool->Prop} {z} {ps}:Ds P n0 N1 i ⟨⟨d,.bd z ps,none,dp,false⟩,un,lg,bf⟩ env hp K=(Au.obsB env true (.bd z ps)∧Au.pre hp (AK env) (.bd z ps)∧BJ (Au.val hp (AK env) (.bd z ps)) (dV K (Au.rd (AK env) (.bd z ps)))):=VK rfl rfl
attribute [go_sem] Apz Apj
theorem Alf {op} {c} {x} {y}:Bg P (⟨d,.bin op c x y,none,dp,false⟩::r) ⟨env,hp,n⟩ K=(Au.obsB env true (.bin op c x y)∧Au.pre hp (AK env) (.bin op c x y)∧BJ (Au.val hp (AK env) (.bin op c x y)) (kC P d dp r env K hp n)):=QN rfl rfl
theorem Aio {K:AV->CH->List Nat->Bool->Prop} {op} {c} {x} {y}:Ds P n0 N1 i ⟨⟨d,.bin op c x y,none,dp,false⟩,un,lg,bf⟩ env hp K=(Au.obsB env true (.bin op c x y)∧Au.pre hp (AK env) (.bin op c x y)∧BJ (Au.val hp (AK env) (.bin op c x y)) (dV K (Au.rd (AK env) (.bin op c x y)))):=VK rfl rfl
attribute [go_sem] Alf Aio
theorem Am3 {op} {x}:Bg P (⟨d,.un op x,none,dp,false⟩::r) ⟨env,hp,n⟩ K=(Au.obsB env true (.un op x)∧Au.pre hp (AK env) (.un op x)∧BJ (Au.val hp (AK env) (.un op x)) (kC P d dp r env K hp n)):=QN rfl rfl
theorem Apb {K:AV->CH->List Nat->Bool->Prop} {op} {x}:Ds P n0 N1 i ⟨⟨d,.un op x,none,dp,false⟩,un,lg,bf⟩ env hp K=(Au.obsB env true (.un op x)∧Au.pre hp (AK env) (.un op x)∧BJ (Au.val hp (AK env) (.un op x)) (dV K (Au.rd (AK env) (.un op x)))):=VK rfl rfl
attribute [go_sem] Am3 Apb
theorem Apr {k} {x}:Bg P (⟨d,.ci k x,none,dp,false⟩::r) ⟨env,hp,n⟩ K=(Au.obsB env true (.ci k x)∧Au.pre hp (AK env) (.ci k x)∧BJ (Au.val hp (AK env) (.ci k x)) (kC P d dp r env K hp n)):=QN rfl rfl
attribute [go_sem] Apr
theorem Apt {x}:Bg P (⟨d,.cb x,none,dp,false⟩::r) ⟨env,hp,n⟩ K=(Au.obsB env true (.cb x)∧Au.pre hp (AK env) (.cb x)∧BJ (Au.val hp (AK env) (.cb x)) (kC P d dp r env K hp n)):=QN rfl rfl
attribute [go_sem] Apt
theorem Api {x} {off}:Bg P (⟨d,.fa x off,none,dp,false⟩::r) ⟨env,hp,n⟩ K=(Au.obsB env true (.fa x off)∧Au.pre hp (AK env) (.fa x off)∧BJ (Au.val hp (AK env) (.fa x off)) (kC P d dp r env K hp n)):=QN rfl rfl
theorem Ao7 {K:AV->CH->List Nat->Bool->Prop} {x} {off}:Ds P n0 N1 i ⟨⟨d,.fa x off,none,dp,false⟩,un,lg,bf⟩ env hp K=(Au.obsB env true (.fa x off)∧Au.pre hp (AK env) (.fa x off)∧BJ (Au.val hp (AK env) (.fa x off)) (dV K (Au.rd (AK env) (.fa x off)))):=VK rfl rfl
attribute [go_sem] Api Ao7
theorem An5 {x} {j} {z}:Bg P (⟨d,.ia x j z,none,dp,false⟩::r) ⟨env,hp,n⟩ K=(Au.obsB env true (.ia x j z)∧Au.pre hp (AK env) (.ia x j z)∧BJ (Au.val hp (AK env) (.ia x j z)) (kC P d dp r env K hp n)):=QN rfl rfl
theorem Aot {K:AV->CH->List Nat->Bool->Prop} {x} {j} {z}:Ds P n0 N1 i ⟨⟨d,.ia x j z,none,dp,false⟩,un,lg,bf⟩ env hp K=(Au.obsB env true (.ia x j z)∧Au.pre hp (AK env) (.ia x j z)∧BJ (Au.val hp (AK env) (.ia x j z)) (dV K (Au.rd (AK env) (.ia x j z)))):=VK rfl rfl
attribute [go_sem] An5 Aot
theorem Anp {x} {j}:Bg P (⟨d,.ex x j,none,dp,false⟩::r) ⟨env,hp,n⟩ K=(Au.obsB env true (.ex x j)∧Au.pre hp (AK env) (.ex x j)∧BJ (Au.val hp (AK env) (.ex x j)) (kC P d dp r env K hp n)):=QN rfl rfl
theorem Aou {K:AV->CH->List Nat->Bool->Prop} {x} {j}:Ds P n0 N1 i ⟨⟨d,.ex x j,none,dp,false⟩,un,lg,bf⟩ env hp K=(Au.obsB env true (.ex x j)∧Au.pre hp (AK env) (.ex x j)∧BJ (Au.val hp (AK env) (.ex x j)) (dV K (Au.rd (AK env) (.ex x j)))):=VK rfl rfl
attribute [go_sem] Anp Aou
theorem Ani {str} {x}:Bg P (⟨d,.ln str x,none,dp,false⟩::r) ⟨env,hp,n⟩ K=(Au.obsB env true (.ln str x)∧Au.pre hp (AK env) (.ln str x)∧BJ (Au.val hp (AK env) (.ln str x)) (kC P d dp r env K hp n)):=QN rfl rfl
theorem Anv {K:AV->CH->List Nat->Bool->Prop} {str} {x}:Ds P n0 N1 i ⟨⟨d,.ln str x,none,dp,false⟩,un,lg,bf⟩ env hp K=(Au.obsB env true (.ln str x)∧Au.pre hp (AK env) (.ln str x)∧BJ (Au.val hp (AK env) (.ln str x)) (dV K (Au.rd (AK env) (.ln str x)))):=VK rfl rfl
attribute [go_sem] Ani Anv
theorem Ang {x} {lo} {hi} {z}:Bg P (⟨d,.sc x lo hi z,none,dp,false⟩::r) ⟨env,hp,n⟩ K=(Au.obsB env true (.sc x lo hi z)∧Au.pre hp (AK env) (.sc x lo hi z)∧BJ (Au.val hp (AK env) (.sc x lo hi z)) (kC P d dp r env K hp n)):=QN rfl rfl
theorem Aph {K:AV->CH->List Nat->Bool->Prop} {x} {lo} {hi} {z}:Ds P n0 N1 i ⟨⟨d,.sc x lo hi z,none,dp,false⟩,un,lg,bf⟩ env hp K=(Au.obsB env true (.sc x lo hi z)∧Au.pre hp (AK env) (.sc x lo hi z)∧BJ (Au.val hp (AK env) (.sc x lo hi z)) (dV K (Au.rd (AK env) (.sc x lo hi z)))):=VK rfl rfl
attribute [go_sem] Ang Aph
theorem Amg {x} {j}:Bg P (⟨d,.ix x j,none,dp,false⟩::r) ⟨env,hp,n⟩ K=(Au.obsB env true (.ix x j)∧Au.pre hp (AK env) (.ix x j)∧BJ (Au.val hp (AK env) (.ix x j)) (kC P d dp r env K hp n)):=QN rfl rfl
attribute [go_sem] Amg
theorem Ame {mx} {x} {y}:Bg P (⟨d,.mm mx x y,none,dp,false⟩::r) ⟨env,hp,n⟩ K=(Au.obsB env true (.mm mx x y)∧Au.pre hp (AK env) (.mm mx x y)∧BJ (Au.val hp (AK env) (.mm mx x y)) (kC P d dp r env K hp n)):=QN rfl rfl
theorem Amn {K:AV->CH->List Nat->Bool->Prop} {mx} {x} {y}:Ds P n0 N1 i ⟨⟨d,.mm mx x y,none,dp,false⟩,un,lg,bf⟩ env hp K=(Au.obsB env true (.mm mx x y)∧Au.pre hp (AK env) (.mm mx x y)∧BJ (Au.val hp (AK env) (.mm mx x y)) (dV K (Au.rd (AK env) (.mm mx x y)))):=VK rfl rfl
attribute [go_sem] Ame Amn
theorem Ao5 {x}:Bg P (⟨d,.nc x,none,dp,false⟩::r) ⟨env,hp,n⟩ K=(Au.obsB env true (.nc x)∧Au.pre hp (AK env) (.nc x)∧BJ (Au.val hp (AK env) (.nc x)) (kC P d dp r env K hp n)):=QN rfl rfl
theorem Anj {K:AV->CH->List Nat->Bool->Prop} {x}:Ds P n0 N1 i ⟨⟨d,.nc x,none,dp,false⟩,un,lg,bf⟩ env hp K=(Au.obsB env true (.nc x)∧Au.pre hp (AK env) (.nc x)∧BJ (Au.val hp (AK env) (.nc x)) (dV K (Au.rd (AK env) (.nc x)))):=VK rfl rfl
attribute [go_sem] Ao5 Anj
theorem Am5 {x} {s} {ok} {z}:Bg P (⟨d,.lk x s ok z,none,dp,false⟩::r) ⟨env,hp,n⟩ K=(Au.obsB env true (.lk x s ok z)∧Au.pre hp (AK env) (.lk x s ok z)∧BJ (Au.val hp (AK env) (.lk x s ok z)) (kC P d dp r env K hp n)):=QN rfl rfl
attribute [go_sem] Am5
/-! ### Under a guard -/
end
section
variable {P:Program} {d:Option Nat} {env:EN} {hp:CH} {n:Nat} {K:St->Prop} {g:Option (Nat × Bool)} {G:Bool}
section
variable {op:Au} {x:Bj} {m off:Nat} {ag:Bool}
theorem FC (h:Mm op env=true):gK P d op g ⟨env,hp,n⟩ K G=(Au.obsB env G op∧imp G (Au.pre hp (AK env) op)∧imp G ((Au.val hp (AK env) op).isSome=true)∧K ⟨EN.set env d (.gd G ((Au.val hp (AK env) op).getD .un)),hp,n⟩):=by
 unfold gK Ro
 rw [if_pos h]
 rfl
theorem Aoq {f:Nat} {xs:List Bj}:gK P d (.cl f xs) g ⟨env,hp,n⟩ K G=(Gc env G xs∧AH P f hp n (xs.map (AK env)) G (gC env d K)):=nd rfl
theorem Ais (h:Mm op env=false) (h2:op.isC=false):gK P d op g ⟨env,hp,n⟩ K G=ZP P ⟨d,op,none,[],false⟩ d ⟨env,hp,n⟩ K G:=by
 unfold gK Ro
 rw [if_neg (by simpa using h)]
 cases op<;>first | rfl | (simp [Au.isC] at h2)
def glK (P:Program) (d:Option Nat) (x:Bj) (m:Nat) (ag:Bool) (env:EN) (hp:CH) (n:Nat) (K:St->Prop) (G:Bool):AV->Prop
 | .ep _ _ _ _=>ZP P ⟨d,.ld x m ag,none,[],false⟩ d ⟨env,hp,n⟩ K G
 | U=>EU G (x.ev env)∧imp G ((J9 hp m U).isSome=true)∧K ⟨EN.set env d (.gd G (((J9 hp m U).map (Vr ag)).getD .un)),hp,n⟩
theorem Ab8 {U:AV} {z i:Nat}:glK P d x m ag env hp n K G (.ep U z i off)=ZP P ⟨d,.ld x m ag,none,[],false⟩ d ⟨env,hp,n⟩ K G:=nd rfl
theorem Aiw {k:Nat}:glK P d x m ag env hp n K G (.bx k off)=(EU G (x.ev env)∧imp G ((J9 hp m (.bx k off)).isSome=true)∧K ⟨EN.set env d (.gd G (((J9 hp m (.bx k off)).map (Vr ag)).getD .un)),hp,n⟩):=nd rfl
theorem Ac9 (ag:Bool):(fun cs:List AV=>if ag then AV.ag cs else cs.getD 0 .un)=Vr ag:=by
 funext cs
 cases ag<;>rfl
theorem Ank:gK P d (.ld x m ag) g ⟨env,hp,n⟩ K G=glK P d x m ag env hp n K G (AK env x):=by
 have hv:∀(h:Mm (.ld x m ag) env=true),gK P d (.ld x m ag) g ⟨env,hp,n⟩ K G=(EU G (x.ev env)∧imp G ((J9 hp m (AK env x)).isSome=true)∧K ⟨EN.set env d (.gd G (((J9 hp m (AK env x)).map (Vr ag)).getD .un)),hp,n⟩):=by
  intro h
  rw [FC h]
  simp only [Au.obsB,Au.pre,Au.val,Ac9,Option.isSome_map,imp,implies_true,true_and]
 show _=glK P d x m ag env hp n K G (Bf (x.ev env))
 cases h:Bf (x.ev env) with
 |ep U z i off=>
  rw [Ab8]
  unfold gK Ro
  rw [if_neg (by simp [Mm,h])]
  rfl
 |_=>exact (hv (by simp only [Mm,h])).trans (by simp only [glK,AK,h])
end
end
attribute [go_sem] Aoq Ab8 Aiw Ank
/-! ### Regions that draw -/
def dK (P:Program) (n0 N1 i:Nat) (un:List Nat) (lg:Bool) (d:Option Nat) (r:List DO) (env:EN) (hp:CH) (l:List LE) (K:EN->CH->Prop) (U:AV) (ws:CH) (R:List Nat) (c:Bool):Prop :=
 cfs n0 i un R (keys ws) c l∧Mq P n0 N1 (i+1) r (EN.set env d U) (ws++hp) (QP lg ⟨i,R,keys ws,c⟩ l) K
def dE (K:AV->CH->List Nat->Bool->Prop) (a:AV × CH × List Nat):Prop:=K a.1 a.2.1 a.2.2 false
def dCR (K:AV->CH->List Nat->Bool->Prop) (r:AV) (ws:CH):Prop:=K r ws [] true
def dCg (K:AV->CH->List Nat->Bool->Prop) (G:Bool) (r:AV):Prop:=K (.gd G r) [] [] true
def OA (P:Program) (n0 N1 i:Nat) (op:Au) (bf:List Nat) (env:EN) (hp:CH) (K:AV->CH->List Nat->Bool->Prop) (G:Bool):Prop:=dG P n0 N1 i ⟨⟨none,op,none,[],false⟩,[],false,bf⟩ env hp G K
section
variable {P:Program} {n0 N1 i:Nat} {d:Option Nat} {dp un bf:List Nat} {lg:Bool} {env:EN} {hp:CH} {K:AV->CH->List Nat->Bool->Prop}
section
variable {r:List DO} {l:List LE} {U:AV} {ws:CH} {R:List Nat} {G:Bool} {op:Au} {f:Nat} {xs:List Bj}
theorem Akd {K:EN->CH->Prop} {c:Bool}:dK P n0 N1 i un lg d r env hp l K U ws R c=(cfs n0 i un R (keys ws) c l∧Mq P n0 N1 (i+1) r (EN.set env d U) (ws++hp) (QP lg ⟨i,R,keys ws,c⟩ l) K):=nd rfl
theorem Ako:dE K (U,ws,R)=K U ws R false:=nd rfl
theorem Ag7 {r:AV}:dCR K r ws=K r ws [] true:=nd rfl
theorem Ae9 {r:AV}:dCg K G r=K (.gd G r) [] [] true:=nd rfl
theorem Ajy {K:EN->CH->Prop}:Mq P n0 N1 i [] env hp l K=K env hp:=nd rfl
theorem Af9 {o:CO} {K:EN->CH->Prop}:Mq P n0 N1 i (⟨o,un,lg,bf⟩::r) env hp l K=Ds P n0 N1 i ⟨o,un,lg,bf⟩ env hp (dK P n0 N1 i un lg o.dst r env hp l K):=by
 show Ds P n0 N1 i _ env hp _=_
 congr 1
theorem Amw {x:Bj} {m:Nat} {ag:Bool}:Ds P n0 N1 i ⟨⟨d,.ld x m ag,none,dp,false⟩,un,lg,bf⟩ env hp K=(EU true (x.ev env)∧ldK hp m ag (dV K (AK env x).ids) (AK env x)):=by
 show (_∧_)=_
 congr 1
 unfold JA
 simp only [Au.isV]
 exact W5 (f:=AK env)
theorem ON (h1:op.isV=false) (h2:op.isC=false):Ds P n0 N1 i ⟨⟨d,op,none,dp,false⟩,un,lg,bf⟩ env hp K=(Au.obsB env true op∧op.effP hp (AK env)∧BJ (op.eff hp (AK env) (n0+i)) (dE K)):=by
 show (_∧_)=(_∧_)
 congr 1
 unfold JA
 generalize hE:Au.eff hp (AK env) (n0+i) op=E
 have hE':Au.eff hp (fun s=>Bf (s.ev env)) (n0+i) op=E:=hE
 cases op<;>first | (simp [Au.isC] at h2;done) | (simp [Au.isV] at h1;done) | skip
 all_goals
  simp only [Au.isV,EX]
  rw [hE']
  cases E<;>rfl
theorem Amd:Ds P n0 N1 i ⟨⟨d,.cl f xs,none,dp,false⟩,un,lg,bf⟩ env hp K=(Gc env true xs∧Aq P f n0 bf hp N1 (xs.map (AK env)) (n0+i) (dCR K)):=nd rfl
theorem d_g {t:Nat} {i7:Bool}:Ds P n0 N1 i ⟨⟨d,op,some (t,i7),dp,false⟩,un,lg,bf⟩ env hp K=gdK (ge env t) i7 (OA P n0 N1 i op bf env hp K):=by
 have key:∀G,dG P n0 N1 i ⟨⟨d,op,some (t,i7),dp,false⟩,un,lg,bf⟩ env hp G K=OA P n0 N1 i op bf env hp K G:=fun G=>by
  unfold OA
  cases op<;>rfl
 unfold Ds Mg
 simp only
 cases h:ge env t with
 |gd c x=>cases x<;>first | rfl | exact key _ | (cases c<;>first | rfl | exact key _)
 |_=>first | rfl | exact key _
theorem Ga (h:op.isV=true):OA P n0 N1 i op bf env hp K G=(Au.obsB env G op∧imp G (Au.pre hp (AK env) op)∧imp G ((Au.val hp (AK env) op).isSome=true)∧K (.gd G ((Au.val hp (AK env) op).getD .un)) [] (Au.rd (AK env) op) false):=by
 unfold OA dG
 cases op<;>first | (simp [Au.isV] at h;done) | rfl
theorem Ai7:OA P n0 N1 i (.cl f xs) bf env hp K G=(Gc env G xs∧AC P f n0 bf hp N1 (xs.map (AK env)) G (dCg K G)):=nd rfl
theorem Aet (h1:op.isV=false) (h2:op.isC=false):OA P n0 N1 i op bf env hp K G=(Au.obsB env G op∧((G=true∧(op.effP hp (AK env)∧BJ (op.eff hp (AK env) (n0+i)) (dE K)))∨(G=false∧K (.gd false .un) [] [] false))):=by
 unfold OA dG
 generalize hE:Au.eff hp (AK env) (n0+i) op=E
 have hE':Au.eff hp (fun s=>Bf (s.ev env)) (n0+i) op=E:=hE
 cases op<;>first | (simp [Au.isC] at h2;done) | (simp [Au.isV] at h1;done) | skip
 all_goals
  simp only [Au.isV,EX]
  rw [hE']
  cases E<;>rfl
end
end
section
variable {P:Program} {n0 N1 i m n id k:Nat} {bf dp un:List Nat} {env:EN} {hp Al:CH} {K:AV->CH->List Nat->Bool->Prop} {G lg:Bool} {d:Option Nat} {g:Option (Nat × Bool)} {args e:List AV} {L:List (List AV)} {fn:Func}
attribute [go_sem] Akd Ako Ag7 Ae9 Ajy Af9 QP Amw Amd d_g Ai7
theorem An9 {x:Bj} {ag:Bool}:OA P n0 N1 i (.ld x m ag) bf env hp K G=(Au.obsB env G (.ld x m ag)∧imp G (Au.pre hp (AK env) (.ld x m ag))∧imp G ((Au.val hp (AK env) (.ld x m ag)).isSome=true)∧K (.gd G ((Au.val hp (AK env) (.ld x m ag)).getD .un)) [] (Au.rd (AK env) (.ld x m ag)) false):=Ga rfl
attribute [go_sem] An9
theorem Aod {K:St->Prop} {x}:gK P d (.mv x) g ⟨env,hp,n⟩ K G=(Au.obsB env G (.mv x)∧imp G (Au.pre hp (AK env) (.mv x))∧imp G ((Au.val hp (AK env) (.mv x)).isSome=true)∧K ⟨EN.set env d (.gd G ((Au.val hp (AK env) (.mv x)).getD .un)),hp,n⟩):=FC rfl
theorem Anh {x}:OA P n0 N1 i (.mv x) bf env hp K G=(Au.obsB env G (.mv x)∧imp G (Au.pre hp (AK env) (.mv x))∧imp G ((Au.val hp (AK env) (.mv x)).isSome=true)∧K (.gd G ((Au.val hp (AK env) (.mv x)).getD .un)) [] (Au.rd (AK env) (.mv x)) false):=Ga rfl
attribute [go_sem] Aod Anh
theorem Apf {K:St->Prop} {c} {a} {b}:gK P d (.pk c a b) g ⟨env,hp,n⟩ K G=(Au.obsB env G (.pk c a b)∧imp G (Au.pre hp (AK env) (.pk c a b))∧imp G ((Au.val hp (AK env) (.pk c a b)).isSome=true)∧K ⟨EN.set env d (.gd G ((Au.val hp (AK env) (.pk c a b)).getD .un)),hp,n⟩):=FC rfl
attribute [go_sem] Apf
theorem Ao2 {K:St->Prop} {z} {ps}:gK P d (.bd z ps) g ⟨env,hp,n⟩ K G=(Au.obsB env G (.bd z ps)∧imp G (Au.pre hp (AK env) (.bd z ps))∧imp G ((Au.val hp (AK env) (.bd z ps)).isSome=true)∧K ⟨EN.set env d (.gd G ((Au.val hp (AK env) (.bd z ps)).getD .un)),hp,n⟩):=FC rfl
attribute [go_sem] Ao2
theorem Aka {K:St->Prop} {op} {c} {x} {y}:gK P d (.bin op c x y) g ⟨env,hp,n⟩ K G=(Au.obsB env G (.bin op c x y)∧imp G (Au.pre hp (AK env) (.bin op c x y))∧imp G ((Au.val hp (AK env) (.bin op c x y)).isSome=true)∧K ⟨EN.set env d (.gd G ((Au.val hp (AK env) (.bin op c x y)).getD .un)),hp,n⟩):=FC rfl
theorem Ajg {op} {c} {x} {y}:OA P n0 N1 i (.bin op c x y) bf env hp K G=(Au.obsB env G (.bin op c x y)∧imp G (Au.pre hp (AK env) (.bin op c x y))∧imp G ((Au.val hp (AK env) (.bin op c x y)).isSome=true)∧K (.gd G ((Au.val hp (AK env) (.bin op c x y)).getD .un)) [] (Au.rd (AK env) (.bin op c x y)) false):=Ga rfl
attribute [go_sem] Aka Ajg
theorem Am2 {K:St->Prop} {op} {x}:gK P d (.un op x) g ⟨env,hp,n⟩ K G=(Au.obsB env G (.un op x)∧imp G (Au.pre hp (AK env) (.un op x))∧imp G ((Au.val hp (AK env) (.un op x)).isSome=true)∧K ⟨EN.set env d (.gd G ((Au.val hp (AK env) (.un op x)).getD .un)),hp,n⟩):=FC rfl
theorem Amq {op} {x}:OA P n0 N1 i (.un op x) bf env hp K G=(Au.obsB env G (.un op x)∧imp G (Au.pre hp (AK env) (.un op x))∧imp G ((Au.val hp (AK env) (.un op x)).isSome=true)∧K (.gd G ((Au.val hp (AK env) (.un op x)).getD .un)) [] (Au.rd (AK env) (.un op x)) false):=Ga rfl
attribute [go_sem] Am2 Amq
theorem Anc {K:St->Prop} {f} {xs}:gK P d (.mf f xs) g ⟨env,hp,n⟩ K G=(Au.obsB env G (.mf f xs)∧imp G (Au.pre hp (AK env) (.mf f xs))∧imp G ((Au.val hp (AK env) (.mf f xs)).isSome=true)∧K ⟨EN.set env d (.gd G ((Au.val hp (AK env) (.mf f xs)).getD .un)),hp,n⟩):=FC rfl
attribute [go_sem] Anc
theorem Amf {K:St->Prop} {x} {off}:gK P d (.fa x off) g ⟨env,hp,n⟩ K G=(Au.obsB env G (.fa x off)∧imp G (Au.pre hp (AK env) (.fa x off))∧imp G ((Au.val hp (AK env) (.fa x off)).isSome=true)∧K ⟨EN.set env d (.gd G ((Au.val hp (AK env) (.fa x off)).getD .un)),hp,n⟩):=FC rfl
theorem Ao8 {x} {off}:OA P n0 N1 i (.fa x off) bf env hp K G=(Au.obsB env G (.fa x off)∧imp G (Au.pre hp (AK env) (.fa x off))∧imp G ((Au.val hp (AK env) (.fa x off)).isSome=true)∧K (.gd G ((Au.val hp (AK env) (.fa x off)).getD .un)) [] (Au.rd (AK env) (.fa x off)) false):=Ga rfl
attribute [go_sem] Amf Ao8
theorem An8 {K:St->Prop} {x} {j} {z}:gK P d (.ia x j z) g ⟨env,hp,n⟩ K G=(Au.obsB env G (.ia x j z)∧imp G (Au.pre hp (AK env) (.ia x j z))∧imp G ((Au.val hp (AK env) (.ia x j z)).isSome=true)∧K ⟨EN.set env d (.gd G ((Au.val hp (AK env) (.ia x j z)).getD .un)),hp,n⟩):=FC rfl
theorem Ant {x} {j} {z}:OA P n0 N1 i (.ia x j z) bf env hp K G=(Au.obsB env G (.ia x j z)∧imp G (Au.pre hp (AK env) (.ia x j z))∧imp G ((Au.val hp (AK env) (.ia x j z)).isSome=true)∧K (.gd G ((Au.val hp (AK env) (.ia x j z)).getD .un)) [] (Au.rd (AK env) (.ia x j z)) false):=Ga rfl
attribute [go_sem] An8 Ant
theorem Am0 {K:St->Prop} {str} {x}:gK P d (.ln str x) g ⟨env,hp,n⟩ K G=(Au.obsB env G (.ln str x)∧imp G (Au.pre hp (AK env) (.ln str x))∧imp G ((Au.val hp (AK env) (.ln str x)).isSome=true)∧K ⟨EN.set env d (.gd G ((Au.val hp (AK env) (.ln str x)).getD .un)),hp,n⟩):=FC rfl
theorem Amm {str} {x}:OA P n0 N1 i (.ln str x) bf env hp K G=(Au.obsB env G (.ln str x)∧imp G (Au.pre hp (AK env) (.ln str x))∧imp G ((Au.val hp (AK env) (.ln str x)).isSome=true)∧K (.gd G ((Au.val hp (AK env) (.ln str x)).getD .un)) [] (Au.rd (AK env) (.ln str x)) false):=Ga rfl
attribute [go_sem] Am0 Amm
theorem Am1 {K:St->Prop} {x} {lo} {hi} {z}:gK P d (.sc x lo hi z) g ⟨env,hp,n⟩ K G=(Au.obsB env G (.sc x lo hi z)∧imp G (Au.pre hp (AK env) (.sc x lo hi z))∧imp G ((Au.val hp (AK env) (.sc x lo hi z)).isSome=true)∧K ⟨EN.set env d (.gd G ((Au.val hp (AK env) (.sc x lo hi z)).getD .un)),hp,n⟩):=FC rfl
theorem An4 {x} {lo} {hi} {z}:OA P n0 N1 i (.sc x lo hi z) bf env hp K G=(Au.obsB env G (.sc x lo hi z)∧imp G (Au.pre hp (AK env) (.sc x lo hi z))∧imp G ((Au.val hp (AK env) (.sc x lo hi z)).isSome=true)∧K (.gd G ((Au.val hp (AK env) (.sc x lo hi z)).getD .un)) [] (Au.rd (AK env) (.sc x lo hi z)) false):=Ga rfl
attribute [go_sem] Am1 An4
theorem Aos {K:St->Prop} {x} {j}:gK P d (.ix x j) g ⟨env,hp,n⟩ K G=(Au.obsB env G (.ix x j)∧imp G (Au.pre hp (AK env) (.ix x j))∧imp G ((Au.val hp (AK env) (.ix x j)).isSome=true)∧K ⟨EN.set env d (.gd G ((Au.val hp (AK env) (.ix x j)).getD .un)),hp,n⟩):=FC rfl
attribute [go_sem] Aos
theorem Aok {K:St->Prop} {x}:gK P d (.nc x) g ⟨env,hp,n⟩ K G=(Au.obsB env G (.nc x)∧imp G (Au.pre hp (AK env) (.nc x))∧imp G ((Au.val hp (AK env) (.nc x)).isSome=true)∧K ⟨EN.set env d (.gd G ((Au.val hp (AK env) (.nc x)).getD .un)),hp,n⟩):=FC rfl
theorem Anm {x}:OA P n0 N1 i (.nc x) bf env hp K G=(Au.obsB env G (.nc x)∧imp G (Au.pre hp (AK env) (.nc x))∧imp G ((Au.val hp (AK env) (.nc x)).isSome=true)∧K (.gd G ((Au.val hp (AK env) (.nc x)).getD .un)) [] (Au.rd (AK env) (.nc x)) false):=Ga rfl
attribute [go_sem] Aok Anm
theorem Amo {z}:Ds P n0 N1 i ⟨⟨d,.al z,none,dp,false⟩,un,lg,bf⟩ env hp K=(Au.obsB env true (.al z)∧Au.effP hp (AK env) (.al z)∧BJ (Au.eff hp (AK env) (n0+i) (.al z)) (dE K)):=ON rfl rfl
attribute [go_sem] Amo
theorem Aow {x} {y} {m}:Ds P n0 N1 i ⟨⟨d,.st x y m,none,dp,false⟩,un,lg,bf⟩ env hp K=(Au.obsB env true (.st x y m)∧Au.effP hp (AK env) (.st x y m)∧BJ (Au.eff hp (AK env) (n0+i) (.st x y m)) (dE K)):=ON rfl rfl
attribute [go_sem] Aow
theorem g_mk {K:St->Prop} :gK P d (.mk ) g ⟨env,hp,n⟩ K G=ZP P ⟨d,.mk ,none,[],false⟩ d ⟨env,hp,n⟩ K G:=Ais rfl rfl
theorem d_mk :Ds P n0 N1 i ⟨⟨d,.mk ,none,dp,false⟩,un,lg,bf⟩ env hp K=(Au.obsB env true (.mk )∧Au.effP hp (AK env) (.mk )∧BJ (Au.eff hp (AK env) (n0+i) (.mk )) (dE K)):=ON rfl rfl
theorem e_mk :OA P n0 N1 i (.mk ) bf env hp K G=(Au.obsB env G (.mk )∧((G=true∧(Au.effP hp (AK env) (.mk )∧BJ (Au.eff hp (AK env) (n0+i) (.mk )) (dE K)))∨(G=false∧K (.gd false .un) [] [] false))):=Aet rfl rfl
attribute [go_sem] g_mk d_mk e_mk
theorem Aoa {fz} {m} {ps}:Ds P n0 N1 i ⟨⟨d,.bs fz m ps,none,dp,false⟩,un,lg,bf⟩ env hp K=(Au.obsB env true (.bs fz m ps)∧Au.effP hp (AK env) (.bs fz m ps)∧BJ (Au.eff hp (AK env) (n0+i) (.bs fz m ps)) (dE K)):=ON rfl rfl
attribute [go_sem] Aoa
theorem Ao4 {x} {y} {m} {b}:Ds P n0 N1 i ⟨⟨d,.ap x y m b,none,dp,false⟩,un,lg,bf⟩ env hp K=(Au.obsB env true (.ap x y m b)∧Au.effP hp (AK env) (.ap x y m b)∧BJ (Au.eff hp (AK env) (n0+i) (.ap x y m b)) (dE K)):=ON rfl rfl
attribute [go_sem] Ao4
attribute [go_sem] Au.obsB Au.pre Au.val Au.eff Au.effP Au.rd Bj.ev ge EN.set Bf EU Gc U7 Aan Agd Adh eqB Ae5 unV J9 Vr Uw sl AV.cl AV.one ones AV.pur FW Lt X8 SK RS.ok JD RS.ev single CK Yq eqk eqc Xq s0V ncV pkV lkV B9 DP AV.purR Xw HB GE Bp shd Rf shutC shutL D7 EI CG shutP HQ Qp XH G9 okC nst Jk C1 byt AV.ids keys cfs Pf
attribute [go_sem] Option.map_some Option.map_none Option.getD_some Option.getD_none Option.isSome_some Option.isSome_none List.map_cons List.map_nil List.length_cons List.length_nil List.take_zero List.take_succ_cons List.take_nil List.drop_zero List.drop_succ_cons List.drop_nil List.all_cons List.all_nil List.getD_cons_zero List.getD_cons_succ List.getElem?_cons_zero List.getElem?_cons_succ List.cons_append List.nil_append List.append_nil List.filter_cons List.filter_nil List.contains_cons List.contains_nil List.take_length
theorem Mv (A B:Prop):HR true A B=A:=by simp [HR]
theorem L9 (A B:Prop):HR false A B=B:=by simp [HR]
theorem Ki {x:Bool} {A B:Prop} (a:x=true->A) (b:x=false->B):HR x A B:=⟨a,b⟩
theorem AH.f {f:FuncId} {K:CH->Nat->AV->Prop} {r:AV} (m:G=true->Af P f hp n args r) (k:K hp n (.gd G r)):AH P f hp n args G K:=.inl ⟨r,m,k⟩
theorem AH.s {f:FuncId} {K:CH->Nat->AV->Prop} (h:HR G (Ac P f hp n args K) (K hp n (.gd false .un))):AH P f hp n args G K:=.inr h
theorem FZ {f:FuncId} {K:CH->Nat->AV->Prop} (h:Ac P f hp n args K):AH P f hp n args true K:=.inr ((Mv _ _).symm ▸ h)
theorem BL {f:FuncId} {K:CH->Nat->AV->Prop} (h:K hp n (.gd false .un)):AH P f hp n args false K:=.inr ((L9 _ _).symm ▸ h)
theorem AC.f {f:FuncId} {K:AV->Prop} {r:AV} (m:G=true->∀Al,(∀k,(k<n0∨∃j∈bf,k=n0+j)->gc Al k=gc hp k)->Af P f Al n args r) (k:K r):AC P f n0 bf hp n args G K:=⟨r,m,k⟩
theorem Aq.f {f:FuncId} {K:AV->CH->Prop} {r:AV} (m:True->∀Al,(∀k,(k<n0∨∃j∈bf,k=n0+j)->gc Al k=gc hp k)->Af P f Al n args r) (k:K r []):Aq P f n0 bf hp n args id K:=.inl ⟨r,m trivial,k⟩
theorem Aq.r {f:FuncId} {K:AV->CH->Prop} {len:Nat} {l:List (List AV)} (mt:∀Al,AO P f Al n args fun En n2 r2=>En=(n,.rw 0 m l)::Al∧n2=n+1∧r2=.rw n 0 len) (hl:l.length=len) (k:K (.rw id 0 len) [(id,.rw 0 m l)]):Aq P f n0 bf hp n args id K:=by
 subst hl
 exact .inr (.inl ⟨m,l,fun Al _=>mt Al,k⟩)
theorem Aq.w {f:FuncId} {K:AV->CH->Prop} {r:AV} {ws:CH} (h1:JQ hp n0 (keys ws) ws) (h2:r.purR=true) (m:∀Al,(∀k,(k<n0∨∃j∈bf,k=n0+j)->gc Al k=gc hp k)->AO P f Al n args fun En n2 r2=>En=ws++Al∧n2=n∧r2=r) (k:K r ws):Aq P f n0 bf hp n args id K:=.inr (.inr ⟨r,ws,h1,.inl h2,m,k⟩)
attribute [go_sem] JQ nOk cOk ZO aOk
theorem AC.no {f:FuncId} {K:AV->Prop} (k:K .un):AC P f n0 bf hp n args false K:=⟨.un,fun h=>(by cases h),k⟩
theorem GQ.f {K:List AV->Prop} (h:L[i]?=some e) (k:K e):GQ L i K:=⟨e,h,k⟩
theorem Ad {K:List AV->Prop} (h:L[i]?=some e):GQ L i K=K e:=by simp [GQ,h]
theorem Agi (e:List AV) (L:List (List AV)) (i:Nat) (K:List AV->Prop):GQ (e::L) i K=BJ (e::L)[i]? K:=by
 unfold GQ
 cases h:(e::L)[i]?<;>simp [BJ]
attribute [go_sem] Agi Mv L9
theorem Ax (k:Nat) (c:Ak) (r:CH):gc ((k,c)::r) k=c:=by simp [gc]
theorem Ai {j:Nat} (c:Ak) (r:CH) (h:k≠j):gc ((k,c)::r) j=gc r j:=by simp [gc,h]
theorem A8 (k j:Nat) (c:Ak) (r:CH):gc ((k,c)::r) j=if k=j then c else gc r j:=nd rfl
attribute [go_sem] A8
/-! ### Small facts -/
def nin (x:Nat):List Nat->Prop
 | []=>True
 |y::r=>x≠y∧nin x r
def KP (n:Nat):List Nat->Prop
 | []=>True
 |x::r=>x=n∧KP n r
theorem Ad1 (x:Nat) (l:List Nat):nin x l=∀y∈l,x≠y:=by
 induction l with
 |nil=>simp [nin]
 |cons y r ih=>simp [nin,ih]
theorem X5 (n:Nat) (l:List Nat):KP n l=∀x∈l,x=n:=by
 induction l with
 |nil=>simp [KP]
 |cons y r ih=>simp [KP,ih]
theorem Zs (l:List Nat):SV [] l=True:=by simp [SV]
theorem Xy (x:Nat) (a b:List Nat):SV (x::a) b=(nin x b∧SV a b):=by simp [SV,Ad1]
theorem Ala (n0 i:Nat) (R W:List Nat) (c:Bool) (j:Nat) (R' W':List Nat) (c':Bool):cf n0 i R W c ⟨j,R',W',c'⟩=(SV W' R∧SV W' W∧SV W R'∧imp c (KP (n0+j) W')∧imp c' (KP (n0+i) W)):=by
 simp only [cf,X5,imp]
theorem Aon (h:Decidable True):@decide True h=true:=by simp
theorem An1 (h:Decidable False):@decide False h=false:=by simp
theorem Apu:(¬True)=False:=by simp
theorem Aor:(¬False)=True:=by simp
theorem Anw {U:Sort _} (a b:U):(a≠b)=¬(a=b):=rfl
theorem Anb (n:Nat):(0<=(n:Int))=True:=by simp
theorem Anu (p:Prop) [Decidable p]:(some (AV.b false)=some (AV.b (decide p)))=¬p:=by simp
theorem Aog (n:Nat):max n (n+1)=n+1:=z36 (z3s n)
attribute [go_sem] Aog Anb Anu or_false false_or or_true true_or nin KP Zs Xy Ala Aon An1 Apu Aor Anw
theorem Af2 (env:EN):EN.drop [] env=env:=nd rfl
theorem Apg (a:Nat) (dp:List Nat):EN.drop (a::dp) []=[]:=nd rfl
def inL (a:Nat):List Nat->Bool
 | []=>false
 |b::r=>if a=b then true else inL a r
theorem Aee (a:Nat) (l:List Nat):inL a l=l.contains a:=by
 induction l with
 |nil=>rfl
 |cons b r ih=>
  rw [List.contains_cons,<-ih]
  show (if a=b then true else inL a r)=_
  by_cases h:a=b<;>simp [h]
theorem Amk (a:Nat) (dp:List Nat) (t:Nat) (U:AV) (env:EN):EN.drop (a::dp) ((t,U)::env)=if inL t (a::dp)=true then EN.drop (a::dp) env else (t,U)::EN.drop (a::dp) env:=by
 rw [Aee]
 show List.filter _ _=_
 rw [List.filter_cons]
 by_cases h:(a::dp).contains t=true
 .rw [h,if_pos rfl]
  rfl
 .rw [Bool.eq_false_iff.2 h]
  rfl
theorem Bl (q:Prop):imp true q=q:=by simp [imp]
theorem Ak1 (q:Prop):imp false q=True:=by simp [imp]
theorem Aix (b:Bool):imp b (b=true)=True:=by simp [imp]
theorem Akb (b:Bool):imp b True=True:=by simp [imp]
theorem ZD (b:Bool):(b == true)=b:=by simp
theorem Aat (b:Bool):(b == false)=!b:=by simp
theorem Ad5 (x y:Bool):(bif x then true else y)=(x||y):=by cases x<;>rfl
theorem Abv (x y:Bool):(bif x then y else false)=(x&&y):=by cases x<;>rfl
theorem Ai8 (n:Nat):(n<=n)=True:=by simp
theorem Adw (n:Nat):((n:Int)).toNat=n:=Int.toNat_natCast n
theorem Ak9 (n m k:Nat):(n+m=n+k)=(m=k):=by simp
theorem Ajq (n k:Nat):(n=n+k)=(k=0):=by simp
theorem Ajv (n k:Nat):(n+k=n)=(k=0):=by simp
attribute [go_sem] Int.cast_ofNat_Int List.replicate_zero List.replicate_succ Af2 Apg Amk inL Bl Ak1 Aix Akb ZD Aat Ad5 Abv Ai8 Adw Ak9 Ajq Ajv Nat.add_assoc Bool.and_true Bool.true_and Bool.and_false Bool.false_and Bool.or_true Bool.true_or Bool.or_false Bool.false_or Bool.not_true Bool.not_false Bool.not_not Nat.le_add_right Nat.le_refl true_and and_true and_self Nat.zero_add Nat.add_zero decide_true decide_false eq_self
theorem bd {k:CC} (h:fn.body.bind (BX P fn.ntmps)=some k):∃c,fn.body=some c∧BX P fn.ntmps c=some k:=by
 cases hb:fn.body with
 |none=>rw [hb] at h;cases h
 |some c=>rw [hb] at h;exact ⟨c,rfl,h⟩
theorem J5 {f : FuncId} {k : CC} {rs : List RS} (hf : P.funcs[f]? = some fn) (FN : (fn.name == "runtime.NumGoroutine") = false)
 (hc:fn.body.bind (BX P fn.ntmps)=some k.erase) (Ic:OB P fn.ntmps fn.results.toList=some rs) {hp:CH} {n:Nat} {args:List AV} {R:CH->Nat->AV->Prop} (Bn:Nat.ble args.length fn.ntmps=true)
 (hv:vc P k ⟨CK 0 args,hp,n⟩ (Lt rs R)):AO P f hp n args R:=by
 obtain ⟨c,hb,hc⟩:=bd hc
 exact OT hf FN hb hc Ic (Nat.le_of_ble_eq_true Bn) hv
def Up (n:Nat) (hp Al:CH):Prop:=∀k,k<n->gc Al k=gc hp k
theorem Up.refl (n:Nat) (hp:CH):Up n hp hp:=fun _ _=>rfl
theorem Up.cons (h:Up n hp Al) (c:Ak) (hk:n<=k):Up n hp ((k,c)::Al):=fun j hj=>by
 rw [Ai c Al (by omega)]
 exact h j hj
theorem SatH.cut {h:HP} {J:RO} {w:World} (hu:Up n hp Al) (m0:SatH h J Al m w) (Ce:∀k,n<=k->gc hp k=.no):SatH h J hp m w:=by
 have EO:∀k g,(gc hp k).own g->k<n∧gc Al k=gc hp k:=by
  intro k g e
  rcases Nat.lt_or_ge k n with hk | hk
  .exact ⟨hk,hu k hk⟩
  .rw [Ce k hk] at e;cases e
 have hl:∀b,AI J hp b->AI J Al b:=fun b ⟨k,g,c,e,r⟩=>⟨k,g,c,by rw [(EO k g e).2];exact e,r⟩
 refine ⟨m0.hh,fun k=>?_,fun k k' g g' b c c' e e' r r'=>m0.inj k k' g g' b c c' (by rw [(EO k g e).2];exact e) (by rw [(EO k' g' e').2];exact e') r r',fun b hb=>m0.hid b (hl b hb),fun b hb=>m0.lt b (hl b hb),m0.fr,fun k g g' x e r=>?_,m0.gl⟩
 .rcases Nat.lt_or_ge k n with hk | hk
  .have:=m0.ch k
   rwa [hu k hk] at this
  .rw [Ce k hk]
   trivial
 .have:=EO k g (Ak.gen_own (Ak.rgen_gen e))
  exact m0.gens k g g' x (by rw [this.2];exact e) r
end
