/- Proof. Conditions: none. -/
import Derived.KernelRfl
import Derived.Test.YtgfidgoefioigaaGreatDoorIk12
open Nat renaming max_eq_right->z3f,le_succ->z3z
namespace Go.Eng
set_option linter.all false
theorem nd {α:Sort _} {a b:α} (h:a=b):a=b:=h
/-! ### Ways to go on -/
def BC {α:Type}:Option α->(α->Prop)->Prop
 |some a,K=>K a
 |none,_=>False
theorem UC {α:Type} (a:α) (K:α->Prop):BC (some a) K=K a:=nd rfl
def avB:AV->(Bool->Prop)->Prop
 | .b x,K=>K x
 |_,_=>False
theorem Aij (x:Bool) (K:Bool->Prop):avB (.b x) K=K x:=nd rfl
def gdK:AV->Bool->(Bool->Prop)->Prop
 | .b x,w,K=>K (x == w)
 | .gd c (.b x),w,K=>K (c&&(x == w))
 | .gd false .un,_,K=>K false
 |_,_,_=>False
theorem Akq (x w:Bool) (K:Bool->Prop):gdK (.b x) w K=K (x == w):=nd rfl
theorem Ah5 (c x w:Bool) (K:Bool->Prop):gdK (.gd c (.b x)) w K=K (c&&(x == w)):=nd rfl
def avS:AV->(qB->Prop)->Prop
 | .s x,K=>K x
 |_,_=>False
def avF:AV->(Nat->List AV->Prop)->Prop
 | .fn g i8,K=>K g i8
 |_,_=>False
theorem Akj (g:Nat) (i8:List AV) (K:Nat->List AV->Prop):avF (.fn g i8) K=K g i8:=nd rfl
def chB:Ai->(List AV->Prop)->Prop
 | .bx cs,K=>K cs
 |_,_=>False
def Vo:Ai->(List AV->Prop)->Prop
 | .bx cs,K=>K cs
 | .ro cs,K=>K cs
 |_,_=>False
theorem Ai1 (cs:List AV) (K:List AV->Prop):Vo (.bx cs) K=K cs:=nd rfl
theorem Ai9 (cs:List AV) (K:List AV->Prop):chB (.bx cs) K=K cs:=nd rfl
def AG (env:EN):Bj->AV:=fun s=>Bf (s.ev env)
theorem Ahq (env:EN) (n:Nat):AG env (.t n)=Bf (ge env n):=nd rfl
theorem Ajr (env:EN) (α:AV):AG env (.c α)=Bf α:=nd rfl
attribute [go_sem] UC Aij Akq Ah5 Akj Ai1 Ai9 Ahq Ajr
def ldB (off m:Nat) (ag:Bool) (L:AV->Prop) (cs:List AV):Prop:=off+m<=cs.length∧L (UN ag ((cs.drop off).take m))
def ldF (z off m:Nat) (ag:Bool) (L:AV->Prop) (e:List AV):Prop:=(e.length=z∧off+m<=e.length)∧L (UN ag ((e.drop off).take m))
def ldE (i z off m:Nat) (ag:Bool) (L:AV->Prop) (l:List (List AV)):Prop:=G2 l i (ldF z off m ag L)
def ldK (hp:CH) (m:Nat) (ag:Bool) (L:AV->Prop):AV->Prop
 | .bx k off=>Vo (gc hp k) (ldB off m ag L)
 | .ep α z i off=>BC (sl hp α) (ldE i z off m ag L)
 |_=>False
theorem Ah3 (hp:CH) (m:Nat) (ag:Bool) (L:AV->Prop) (k off:Nat):ldK hp m ag L (.bx k off)=Vo (gc hp k) (ldB off m ag L):=nd rfl
theorem Ahy (hp:CH) (m:Nat) (ag:Bool) (L:AV->Prop) (α:AV) (z i off:Nat):ldK hp m ag L (.ep α z i off)=BC (sl hp α) (ldE i z off m ag L):=nd rfl
theorem Acz (off m:Nat) (ag:Bool) (L:AV->Prop) (cs:List AV):ldB off m ag L cs=(off+m<=cs.length∧L (UN ag ((cs.drop off).take m))):=nd rfl
theorem Ae0 (i z off m:Nat) (ag:Bool) (L:AV->Prop) (l:List (List AV)):ldE i z off m ag L l=G2 l i (ldF z off m ag L):=nd rfl
theorem Aew (z off m:Nat) (ag:Bool) (L:AV->Prop) (e:List AV):ldF z off m ag L e=((e.length=z∧off+m<=e.length)∧L (UN ag ((e.drop off).take m))):=nd rfl
attribute [go_sem] Ah3 Ahy Acz Ae0 Aew
theorem VY {hp:CH} {m:Nat} {ag:Bool} {L:AV->Prop} {x:Bj} {f:Bj->AV}:I1 hp f (.ld x m ag) L=ldK hp m ag L (f x):=by
 unfold I1
 simp only
 cases f x with
 |bx k off=>simp only [ldK];cases gc hp k<;>rfl
 |ep α z i off=>simp only [ldK];cases sl hp α<;>rfl
 |_=>rfl
def Q6 (b:Bool) (e:LE) (l:List LE):List LE:=match b with
 |true=>e::l
 |false=>l
/-! ### Code -/
section
variable {P:Program} {env:EN} {hp:CH} {n:Nat} {Q:Exit->St->Prop}
section
variable {b a c:CC} {st s:St} {dp:List Nat} {id i:Nat}
def sqK (P:Program) (b:CC) (Q:Exit->St->Prop):Exit->St->Prop
 | .normal,s=>vc P b s Q
 |e,s=>Q e s
def wkP (P:Program) (b:CC) (Q:Exit->St->Prop) (st:St):Prop:=∃I:St->Prop,Wy st I∧∀s',I s'->vc P b s' Q
theorem Qd {s':St} (h:CD st s') (k:vc P b s' Q):wkP P b Q st:=⟨_,h.s,fun _ e=>by subst e;exact k⟩
def Alc (P:Program) (b:CC) (Q:Exit->St->Prop):Exit->St->Prop
 | .normal,s=>wkP P b Q s
 |e,s=>Q e s
def blK (id:Nat) (Q:Exit->St->Prop):Exit->St->Prop
 | .exit i,s=>if i=id then Q .normal s else Q (.exit i) s
 |e,s=>Q e s
def cdK (P:Program) (a b:CC) (st:St) (Q:Exit->St->Prop) (x:Bool):Prop:=H3 x (vc P a st Q) (vc P b st Q)
theorem Ak5:cdK P a b st Q true=vc P a st Q:=by simp [cdK,H3]
theorem Ai5:cdK P a b st Q false=vc P b st Q:=by simp [cdK,H3]
theorem Af {x:Bool} (h1:x=true->vc P a st Q) (h2:x=false->vc P b st Q):cdK P a b st Q x:=⟨h1,h2⟩
def drQ (Q:Exit->St->Prop) (dp:List Nat) (n:Nat) (env:EN) (hp:CH):Prop:=Q .normal ⟨EN.drop dp env,hp,n⟩
theorem Acn:drQ Q dp n env hp=Q .normal ⟨EN.drop dp env,hp,n⟩:=nd rfl
theorem Aan:vc P .skip st Q=Q .normal st:=nd rfl
theorem Ait {l:List CO}:vc P (.rg l) st Q=Bg P l st (Q .normal):=nd rfl
theorem Ahz:vc P (.sq a b) st Q=vc P a st (sqK P b Q):=by
 show vc P a st _=_
 congr 1
 funext e s
 cases e<;>rfl
theorem Afp:vc P (.sqw a b) st Q=vc P a st (Alc P b Q):=by
 show vc P a st _=_
 congr 1
 funext e s
 cases e<;>rfl
theorem Akd {c:Bj}:vc P (.cd c a b) ⟨env,hp,n⟩ Q=(EF true (c.ev env)∧avB (AG env c) (cdK P a b ⟨env,hp,n⟩ Q)):=by
 show (_∧_)=(_∧avB (Bf (c.ev env)) _)
 cases Bf (c.ev env)<;>rfl
theorem Ai4:vc P (.bl id c) st Q=vc P c st (blK id Q):=by
 show vc P c st _=_
 congr 1
 funext e s
 cases e<;>rfl
theorem Aie:vc P (.lp c) st Q=Nl (vc P c) st Q:=nd rfl
theorem Ai8:vc P (.ex id) st Q=Q (.exit id) st:=nd rfl
theorem Aih:vc P .rt st Q=Q .ret st:=nd rfl
theorem Akn {l:List DO}:vc P (.dr l dp) ⟨env,hp,n⟩ Q=LJ P n (n+l.length) 0 l env hp [] (drQ Q dp (n+l.length)):=nd rfl
theorem Aia:sqK P b Q .normal s=vc P b s Q:=nd rfl
theorem Ahm:sqK P b Q .ret s=Q .ret s:=nd rfl
theorem Ahl:sqK P b Q (.exit i) s=Q (.exit i) s:=nd rfl
theorem Acp:Alc P b Q .normal s=wkP P b Q s:=nd rfl
theorem Akx:blK id Q .normal s=Q .normal s:=nd rfl
theorem Ajs:blK id Q .ret s=Q .ret s:=nd rfl
theorem Ahp:blK id Q (.exit i) s=if i=id then Q .normal s else Q (.exit i) s:=nd rfl
end
end
attribute [go_sem] Afp Acp Acn Aan Ait Ahz Akd Ai4 Aie Ai8 Aih Akn Aia Ahm Ahl Akx Ajs Ahp Ak5 Ai5
/-! ### Operations -/
def kC (P:Program) (d:Option Nat) (dp:List Nat) (r:List CO) (env:EN) (K:St->Prop) (hp:CH) (n:Nat) (a:AV):Prop:=Bg P r ⟨EN.drop dp (EN.set env d a),hp,n⟩ K
theorem Ah6 (P:Program) (d:Option Nat) (dp:List Nat) (r:List CO) (env:EN) (K:St->Prop) (hp:CH) (n:Nat) (a:AV):kC P d dp r env K hp n a=Bg P r ⟨EN.drop dp (EN.set env d a),hp,n⟩ K:=nd rfl
def boK (L:CH->Nat->AV->Prop) (hp:CH) (n:Nat) (cs:List AV):Prop:=L ((n,.bx cs)::hp) (n+1) (.bx n 0)
def stO (L:CH->Nat->AV->Prop) (hp:CH) (n k off:Nat) (cs old:List AV):Prop:=off+cs.length<=old.length∧L ((k,.bx (old.take off++cs++old.drop (off+cs.length)))::hp) n .un
def chW:Ai->(Bool->Nat->Nat->List (List AV)->Prop)->Prop
 | .rw g n l,K=>K false g n l
 | .rn g n l,K=>K true g n l
 |_,_=>False
theorem Aj7 (g n:Nat) (l:List (List AV)) (K:Bool->Nat->Nat->List (List AV)->Prop):chW (.rw g n l) K=K false g n l:=nd rfl
def stQ (L:CH->Nat->AV->Prop) (hp:CH) (n k i off:Nat) (cs:List AV) (nb:Bool) (g' n':Nat) (l:List (List AV)) (e:List AV):Prop:=L ((k,Gq nb g' n' (l.set i (e.take off++cs++e.drop (off+cs.length))))::hp) n .un
def stP (L:CH->Nat->AV->Prop) (hp:CH) (n k g z i off:Nat) (cs:List AV) (nb:Bool) (g' n':Nat) (l:List (List AV)):Prop:=(g=g'∧z=n'∧off+cs.length<=z∧okC nb cs=true)∧G2 l i (stQ L hp n k i off cs nb g' n' l)
def stW (L:CH->Nat->AV->Prop) (hp:CH) (n:Nat) (cs:List AV):AV->Prop
 | .bx k off=>chB (gc hp k) (stO L hp n k off cs)
 | .ep (.rw k g _) z i off=>chW (gc hp k) (stP L hp n k g z i off cs)
 |_=>False
def stB (L:CH->Nat->AV->Prop) (hp:CH) (n m:Nat) (p:AV) (cs:List AV):Prop:=cs.length=m∧ones cs=true∧stW L hp n cs p
def chM:Ai->(List (qB×AV)->Prop)->Prop
 | .mp l,K=>K l
 |_,_=>False
theorem Ahn (l:List (qB × AV)) (K:List (qB × AV)->Prop):chM (.mp l) K=K l:=nd rfl
def muM (L:CH->Nat->AV->Prop) (hp:CH) (n k:Nat) (b:qB) (y:AV) (l:List (qB × AV)):Prop:=y.purR=true∧L ((k,.mp (D4 b y l))::hp) n .un
def muB (L:CH->Nat->AV->Prop) (hp:CH) (n:Nat) (y:AV):AV->AV->Prop
 | .mp k,.s b=>chM (gc hp k) (muM L hp n k b y)
 |_,_=>False
def nlB (L:CH->Nat->AV->Prop) (hp:CH) (n:Nat) (neg:Bool):AV->Prop
 | .ds l=>(l=[]->L hp n (.b (!neg)))∧L hp n (.b neg)
 | .rw k g len=>(nlZ hp k g len->L hp n (.b (!neg)))∧L hp n (.b neg)
 | .e0=>L hp n (.b (!neg))∧L hp n (.b neg)
 |_=>False
def bsK (L:CH->Nat->AV->Prop) (hp:CH) (n n0:Nat) (l:List (List AV)):Prop:=L ((n,.rw 0 n0 l)::hp) (n+1) (.rw n 0 l.length)
def bsT (L:CH->Nat->AV->Prop) (hp:CH) (n:Nat) (l:List (List AV)):Prop:=L hp n (.ds l)
def apB (L:CH->Nat->AV->Prop) (hp:CH) (a:AV × (Nat × Ai) × Nat):Prop:=L (a.2.1::hp) a.2.2 a.1
def apA (L:CH->Nat->AV->Prop) (hp:CH) (n m b:Nat) (x:AV) (l2:List (List AV)):Prop:=Eu m l2∧(Cs x+l2.length)*b<=140737488355328∧Cs x+l2.length<=9223372036854775807∧BC (H0 hp n n m x l2) (apB L hp)
def ccK (P:Program) (L:CH->Nat->AV->Prop) (hp:CH) (n:Nat) (args:List AV) (g:Nat) (i8:List AV):Prop:=Ac P g hp n (args++i8) L
section
variable {L:CH->Nat->AV->Prop} {hp:CH} {n:Nat}
section
variable {cs:List AV} {k off g len z i g' n' m:Nat} {nb neg:Bool} {l:List (List AV)} {b:qB} {y:AV}
theorem Afx:boK L hp n cs=L ((n,.bx cs)::hp) (n+1) (.bx n 0):=nd rfl
theorem Ago {old:List AV}:stO L hp n k off cs old=(off+cs.length<=old.length∧L ((k,.bx (old.take off++cs++old.drop (off+cs.length)))::hp) n .un):=nd rfl
theorem Ake:stW L hp n cs (.bx k off)=chB (gc hp k) (stO L hp n k off cs):=nd rfl
theorem Ahi:stW L hp n cs (.ep (.rw k g len) z i off)=chW (gc hp k) (stP L hp n k g z i off cs):=nd rfl
theorem Acq:stP L hp n k g z i off cs nb g' n' l=((g=g'∧z=n'∧off+cs.length<=z∧okC nb cs=true)∧G2 l i (stQ L hp n k i off cs nb g' n' l)):=nd rfl
theorem Afj {e:List AV}:stQ L hp n k i off cs nb g' n' l e=L ((k,Gq nb g' n' (l.set i (e.take off++cs++e.drop (off+cs.length))))::hp) n .un:=nd rfl
theorem Afm {l:List (qB × AV)}:muM L hp n k b y l=(y.purR=true∧L ((k,.mp (D4 b y l))::hp) n .un):=nd rfl
theorem Akh:muB L hp n y (.mp k) (.s b)=chM (gc hp k) (muM L hp n k b y):=nd rfl
theorem Ah9:nlB L hp n neg (.ds l)=((l=[]->L hp n (.b (!neg)))∧L hp n (.b neg)):=nd rfl
theorem Aim:nlB L hp n neg (.rw k g len)=((nlZ hp k g len->L hp n (.b (!neg)))∧L hp n (.b neg)):=nd rfl
theorem Afa {p:AV}:stB L hp n m p cs=(cs.length=m∧ones cs=true∧stW L hp n cs p):=nd rfl
theorem Ad6 {n0:Nat}:bsK L hp n n0 l=L ((n,.rw 0 n0 l)::hp) (n+1) (.rw n 0 l.length):=nd rfl
theorem Ada:bsT L hp n l=L hp n (.ds l):=nd rfl
theorem Aem {α:AV} {c:Nat × Ai}:apB L hp (α,c,n')=L (c::hp) n' α:=nd rfl
theorem Af2 {b:Nat} {x:AV} {l2:List (List AV)}:apA L hp n m b x l2=(Eu m l2∧(Cs x+l2.length)*b<=140737488355328∧Cs x+l2.length<=9223372036854775807∧BC (H0 hp n n m x l2) (apB L hp)):=nd rfl
theorem Ad2 {P:Program} {args:List AV} {i8:List AV}:ccK P L hp n args g i8=Ac P g hp n (args++i8) L:=nd rfl
theorem TW (m:Nat):Eu m []=True:=by simp [Eu]
theorem R4 (m:Nat) (e:List AV) (l:List (List AV)):Eu m (e::l)=((e.length=m∧FE e=true)∧Eu m l):=by simp [Eu]
end
end
attribute [go_sem] nlZ Ah6 Afx Ago Ake Ahi Acq Afj Aj7 Ahn Afm Akh Ah9 Aim Afa Ad6 Ada Aem Af2 Ad2 TW R4
def RX (P:Program) (dp:List Nat) (r:List CO) (K:St->Prop) (s:St):Prop:=Bg P r ⟨EN.drop dp s.env,s.hp,s.n⟩ K
def gC (env:EN) (d:Option Nat) (K:St->Prop) (hp:CH) (n:Nat) (a:AV):Prop:=K ⟨EN.set env d a,hp,n⟩
def gK (P:Program) (d:Option Nat) (op:Ap) (g:Option (Nat × Bool)) (st:St) (K:St->Prop) (G:Bool):Prop:=QQ P ⟨d,op,g,[],false⟩ st G K
def Z6 (P:Program) (o:CO) (d:Option Nat) (st:St) (K:St->Prop) (G:Bool):Prop:=H3 G (Bg P [o] st K) (K ⟨EN.set st.env d (.gd false .un),st.hp,st.n⟩)
section
variable {P:Program} {d:Option Nat} {dp:List Nat} {r:List CO} {env:EN} {hp:CH} {n:Nat} {K:St->Prop}
section
variable {o:CO} {x y s:Bj} {m n0 k:Nat} {ps xs:List Bj} {b:qB} {l:List (qB × AV)} {sn:List qB} {α:AV} {L:CH->Nat->AV->Prop} {op:Ap}
theorem WZ:RX P dp r K ⟨env,hp,n⟩=Bg P r ⟨EN.drop dp env,hp,n⟩ K:=nd rfl
theorem Ak9 {a:AV}:gC env d K hp n a=K ⟨EN.set env d a,hp,n⟩:=nd rfl
theorem Alb:Z6 P o d ⟨env,hp,n⟩ K true=Bg P [o] ⟨env,hp,n⟩ K:=by simp [Z6,H3]
theorem Aj9:Z6 P o d ⟨env,hp,n⟩ K false=K ⟨EN.set env d (.gd false .un),hp,n⟩:=by simp [Z6,H3]
theorem II {G:Bool} (h1:G=true->Bg P [o] ⟨env,hp,n⟩ K) (h2:G=false->K ⟨EN.set env d (.gd false .un),hp,n⟩):Z6 P o d ⟨env,hp,n⟩ K G:=⟨h1,h2⟩
theorem Akl {st:St}:Bg P [] st K=K st:=nd rfl
theorem Amv {ag:Bool}:Bg P (⟨d,.ld x m ag,none,dp,false⟩::r) ⟨env,hp,n⟩ K=(EF true (x.ev env)∧ldK hp m ag (kC P d dp r env K hp n) (AG env x)):=by
 show (_∧_)=_
 congr 1
 exact VY (f:=AG env)
theorem Amh {z:List AV}:Bg P (⟨d,.al z,none,dp,false⟩::r) ⟨env,hp,n⟩ K=Bg P r ⟨EN.drop dp (EN.set env d (.bx n 0)),(n,.bx z)::hp,n+1⟩ K:=by
 show (True∧_)=_
 rw [true_and]
 show Bg P r ⟨_,_,max n (n+1)⟩ K=_
 rw [z3f (z3z n)]
theorem Aoe:Bg P (⟨d,.bo x,none,dp,false⟩::r) ⟨env,hp,n⟩ K=(EF true (x.ev env)∧BC (AG env x).cl (boK (kC P d dp r env K) hp n)):=by
 show (_∧_)=(_∧BC (Bf (x.ev env)).cl _)
 congr 1
 cases h:(Bf (x.ev env)).cl with
 |none=>simp only [Dv,h];rfl
 |some cs=>
  simp only [h]
  show Bg P r ⟨_,_,max n (n+1)⟩ K=_
  rw [z3f (z3z n)]
  rfl
theorem Amo:Bg P (⟨d,.st x y m,none,dp,false⟩::r) ⟨env,hp,n⟩ K=((EF true (x.ev env)∧EF true (y.ev env))∧BC (AG env y).cl (stB (kC P d dp r env K) hp n m (AG env x))):=by
 show (_∧_)=(_∧BC (Bf (y.ev env)).cl _)
 congr 1
 cases h:(Bf (y.ev env)).cl with
 |none=>simp only [Dv,h];rfl
 |some cs=>
  simp only [h]
  show (_∧_∧stK hp (Bf (x.ev env)) cs _)=(_∧_∧stW _ hp n cs (Bf (x.ev env)))
  congr 2
  unfold stK
  cases Bf (x.ev env) with
  |bx k off=>simp only [stW];cases gc hp k<;>rfl
  |ep α z i off=>
   cases α with
   |rw k g len=>simp only [stW];cases gc hp k<;>rfl
   |_=>rfl
  |_=>rfl
theorem Ama:Bg P (⟨d,.mk,none,dp,false⟩::r) ⟨env,hp,n⟩ K=(True∧kC P d dp r env K ((n,.mp [])::hp) (n+1) (.mp n)):=by
 show (_∧_)=(_∧_)
 refine congrArg _ ?_
 show Bg P r ⟨_,_,max n (n+1)⟩ K=_
 rw [z3f (z3z n)]
 rfl
theorem Aoq:Bg P (⟨d,.mu x s y,none,dp,false⟩::r) ⟨env,hp,n⟩ K=((EF true (x.ev env)∧EF true (s.ev env)∧EF true (y.ev env))∧muB (kC P d dp r env K) hp n (AG env y) (AG env x) (AG env s)):=by
 show (_∧_)=(_∧_)
 refine congrArg _ ?_
 show muK hp (Bf (x.ev env)) (Bf (s.ev env)) (Bf (y.ev env)) _=muB _ hp n (Bf (y.ev env)) (Bf (x.ev env)) (Bf (s.ev env))
 cases Bf (x.ev env) with
 |mp k=>cases Bf (s.ev env) with
  |s b=>simp only [muK,muB];cases gc hp k<;>rfl
  |_=>rfl
 |_=>rfl
theorem An8 {neg:Bool}:Bg P (⟨d,.nl neg x,none,dp,false⟩::r) ⟨env,hp,n⟩ K=(EF true (x.ev env)∧nlB (kC P d dp r env K) hp n neg (AG env x)):=by
 show (_∧_)=(_∧_)
 refine congrArg _ ?_
 show nlK hp (Bf (x.ev env)) neg _=nlB _ hp n neg (Bf (x.ev env))
 cases Bf (x.ev env)<;>rfl
theorem Ang:Bg P (⟨d,.bs false n0 ps,none,dp,false⟩::r) ⟨env,hp,n⟩ K=(FK env true ps∧BC (C5 (shutP hp (ps.map (AG env))) n0 (ps.map (AG env))) (bsK (kC P d dp r env K) (shutP hp (ps.map (AG env))) n n0)):=by
 show (_∧_)=(_∧_)
 congr 1
 show (match C5 (shutP hp (ps.map (AG env))) n0 (ps.map (AG env)) with | some l=>_ | none=>False)=_
 cases h:C5 (shutP hp (ps.map (AG env))) n0 (ps.map (AG env)) with
 |none=>rfl
 |some l=>
  show Bg P r ⟨_,_,max n (n+1)⟩ K=_
  rw [z3f (z3z n)]
  rfl
theorem Ak2:Bg P (⟨d,.bs true n0 ps,none,dp,false⟩::r) ⟨env,hp,n⟩ K=(FK env true ps∧BC (C5 (shutP hp (ps.map (AG env))) n0 (ps.map (AG env))) (bsT (kC P d dp r env K) (shutP hp (ps.map (AG env))) n)):=by
 show (_∧_)=(_∧_)
 congr 1
 show (match C5 (shutP hp (ps.map (AG env))) n0 (ps.map (AG env)) with | some l=>_ | none=>False)=_
 cases h:C5 (shutP hp (ps.map (AG env))) n0 (ps.map (AG env))<;>rfl
theorem Amw {b:Nat}:Bg P (⟨d,.ap x y m b,none,dp,false⟩::r) ⟨env,hp,n⟩ K=((EF true (x.ev env)∧EF true (y.ev env))∧BC (sl hp (AG env y)) (apA (kC P d dp r env K) hp n m b (AG env x))):=by
 show (_∧_)=(_∧BC (sl hp (Bf (y.ev env))) _)
 congr 1
 cases h:sl hp (Bf (y.ev env)) with
 |none=>simp only [Dv,h];rfl
 |some l2=>
  simp only [h]
  show (_∧_∧_∧_)=(_∧_∧_∧BC (H0 hp n n m (Bf (x.ev env)) l2) _)
  congr 3
  cases h2:H0 hp n n m (Bf (x.ev env)) l2 with
  |none=>rfl
  |some a=>rfl
attribute [go_sem] frz Aac List.map_cons List.map_nil
/-! maps that are gone through -/
def mgC (L:CH->Nat->AV->Prop) (n:Nat) (α:AV) (hp:CH):Prop:=L hp n α
def meC (L:CH->Nat->AV->Prop) (hp:CH) (n:Nat) (α:AV):Prop:=L hp n α
def mdC (L:CH->Nat->AV->Prop) (n:Nat) (hp:CH):Prop:=L hp n .un
def mgX (k:Nat) (hp:CH) (K:AV->CH->Prop):Ai->Prop
 | .mp l=>K (.mi k) ((k,.mr l [])::hp)
 |_=>False
def mxP (k:Nat) (hp:CH) (K:AV->CH->Prop) (l:List (qB×AV)) (sn:List qB):Prop :=
 ((∀p∈l,p.1∈sn)->K (.tp [.b false]) hp)∧∀(j:Nat) b α,l[j]?=some (b,α)->b ∉ sn->K (.tp [.b true,.s b,α]) ((k,.mr l (sn++[b]))::hp)
def mxX (k:Nat) (hp:CH) (K:AV->CH->Prop):Ai->Prop
 | .mr l sn=>mxP k hp K l sn
 |_=>False
def meP (K:AV->Prop) (l:List (qB × AV)) (sn:List qB):Prop:=∃b,sn.getLast?=some b∧∃α,B5 b l=some α∧K (.tp [.s b,α])
def meX (K:AV->Prop):Ai->Prop
 | .mr l sn=>meP K l sn
 |_=>False
def mdX (k:Nat) (b:qB) (hp:CH) (K:CH->Prop):Ai->Prop
 | .mp l=>K ((k,.mp (CS b l))::hp)
 | .mr l sn=>K ((k,.mr (CS b l) sn)::hp)
 |_=>False
theorem Sg {hp:CH} {K:AV->CH->Prop} (h1:(∀p∈l,p.1∈sn)->K (.tp [.b false]) hp)
 (h2:∀(j:Nat) b α,l[j]?=some (b,α)->b ∉ sn->K (.tp [.b true,.s b,α]) ((k,.mr l (sn++[b]))::hp)):mxP k hp K l sn:=⟨h1,h2⟩
theorem Tc {K:AV->Prop} (h1:sn.getLast?=some b) (h2:B5 b l=some α) (h3:K (.tp [.s b,α])):meP K l sn:=⟨b,h1,α,h2,h3⟩
theorem Aek {n:Nat} {hp:CH}:mgC L n α hp=L hp n α:=nd rfl
theorem Afg {n:Nat} {hp:CH}:meC L hp n α=L hp n α:=nd rfl
theorem Aep {n:Nat} {hp:CH}:mdC L n hp=L hp n .un:=nd rfl
theorem Adx {hp:CH} {K:AV->CH->Prop}:mgK hp (.mp k) K=mgX k hp K (gc hp k):=nd (by unfold mgK mgX;dsimp only;generalize gc hp k=c;cases c<;>rfl)
theorem Ae5 {hp:CH} {K:AV->CH->Prop}:mxK hp (.mi k) K=mxX k hp K (gc hp k):=nd (by unfold mxK mxX;dsimp only;generalize gc hp k=c;cases c<;>rfl)
theorem Ags {hp:CH} {K:AV->Prop}:meK hp (.mi k) K=meX K (gc hp k):=nd (by unfold meK meX;dsimp only;generalize gc hp k=c;cases c<;>rfl)
theorem Afo {hp:CH} {K:CH->Prop}:mdK hp (.mp k) (.s b) K=mdX k b hp K (gc hp k):=nd (by unfold mdK mdX;dsimp only;generalize gc hp k=c;cases c<;>rfl)
theorem Ae7 {hp:CH} {K:AV->CH->Prop}:mgX k hp K (.mp l)=K (.mi k) ((k,.mr l [])::hp):=nd rfl
theorem Ad7 {hp:CH} {K:AV->CH->Prop}:mxX k hp K (.mr l sn)=mxP k hp K l sn:=nd rfl
theorem Agq {K:AV->Prop}:meX K (.mr l sn)=meP K l sn:=nd rfl
theorem Aen {hp:CH} {K:CH->Prop}:mdX k b hp K (.mr l sn)=K ((k,.mr (CS b l) sn)::hp):=nd rfl
theorem Ahs:Bg P (⟨d,.mpg x,none,dp,false⟩::r) ⟨env,hp,n⟩ K=(EF true (x.ev env)∧mgK hp (AG env x) (mgC (kC P d dp r env K) n)):=nd rfl
theorem Ajw:Bg P (⟨d,.mpn x,none,dp,false⟩::r) ⟨env,hp,n⟩ K=(EF true (x.ev env)∧mxK hp (AG env x) (mgC (kC P d dp r env K) n)):=nd rfl
theorem Aiy:Bg P (⟨d,.mpe x,none,dp,false⟩::r) ⟨env,hp,n⟩ K=(EF true (x.ev env)∧meK hp (AG env x) (meC (kC P d dp r env K) hp n)):=nd rfl
theorem Ajn:Bg P (⟨d,.mpd x s,none,dp,false⟩::r) ⟨env,hp,n⟩ K=((EF true (x.ev env)∧EF true (s.ev env))∧mdK hp (AG env x) (AG env s) (mdC (kC P d dp r env K) n)):=nd rfl
attribute [go_sem] Aek Afg Aep Adx Ae5 Ags Afo Ae7 Ad7 Agq Aen Ahs Ajw Aiy Ajn
theorem Apa {f:Nat}:Bg P (⟨d,.cl f xs,none,dp,false⟩::r) ⟨env,hp,n⟩ K=(FK env true xs∧Ac P f hp n (xs.map (AG env)) (kC P d dp r env K)):=nd rfl
theorem Aop {f:Bj}:Bg P (⟨d,.cc f xs,none,dp,false⟩::r) ⟨env,hp,n⟩ K=((EF true (f.ev env)∧FK env true xs)∧avF (AG env f) (ccK P (kC P d dp r env K) hp n (xs.map (AG env)))):=by
 show (_∧_)=(_∧avF (Bf (f.ev env)) _)
 congr 1
 cases h:Bf (f.ev env)<;>first | (simp only [Dv,h,avF];done) | (simp only [Dv,h,avF];rfl)
theorem q_g {t:Nat} {i7:Bool}:Bg P (⟨d,op,some (t,i7),dp,false⟩::r) ⟨env,hp,n⟩ K=gdK (ge env t) i7 (gK P d op (some (t,i7)) ⟨env,hp,n⟩ (RX P dp r K)):=by
 have key:∀G,QQ P ⟨d,op,some (t,i7),dp,false⟩ ⟨env,hp,n⟩ G (fun c8=>Bg P r ⟨EN.drop dp c8.env,c8.hp,c8.n⟩ K)=gK P d op (some (t,i7)) ⟨env,hp,n⟩ (RX P dp r K) G:=fun G=>rfl
 suffices key0:Jd P ⟨d,op,some (t,i7),dp,false⟩ ⟨env,hp,n⟩ (fun c8=>Bg P r ⟨EN.drop dp c8.env,c8.hp,c8.n⟩ K)=gdK (ge env t) i7 (gK P d op (some (t,i7)) ⟨env,hp,n⟩ (RX P dp r K)) from key0
 unfold Jd
 simp only
 cases h:ge env t with
 |gd c x=>cases x<;>first | rfl | exact key _ | (cases c<;>first | rfl | exact key _)
 |_=>first | rfl | exact key _
def Ap.isL:Ap->Bool
 | .ld _ _ _=>true
 |_=>false
theorem Abw (h1:op.isV=true) (h2:op.isL=false) (L:AV->Prop):I1 hp (AG env) op L=(Ap.pre hp (AG env) op∧BC (Ap.val hp (AG env) op) L):=by
 cases op<;>first | (simp [Ap.isL] at h2;done) | rfl | (unfold I1;simp only;first | done | (congr 1;first | done | (cases Ap.val hp (AG env) _<;>rfl)))
theorem Q4 (h1:op.isV=true) (h2:op.isL=false):Bg P (⟨d,op,none,dp,false⟩::r) ⟨env,hp,n⟩ K=(Ap.obsB env true op∧Ap.pre hp (AG env) op∧BC (Ap.val hp (AG env) op) (kC P d dp r env K hp n)):=by
 cases op<;>first | (simp [Ap.isV] at h1;done) | exact congrArg (_∧·) (Abw h1 h2 _)
def dV (K:AV->CH->List Nat->Bool->Prop) (R:List Nat) (α:AV):Prop:=K α [] R false
theorem Ajf {K:AV->CH->List Nat->Bool->Prop} {R:List Nat}:dV K R α=K α [] R false:=nd rfl
theorem Vl {N1 i:Nat} {un bf:List Nat} {lg:Bool} {K:AV->CH->List Nat->Bool->Prop} (h1:op.isV=true) (h2:op.isL=false):Di P n0 N1 i ⟨⟨d,op,none,dp,false⟩,un,lg,bf⟩ env hp K=(Ap.obsB env true op∧Ap.pre hp (AG env) op∧BC (Ap.val hp (AG env) op) (dV K (Ap.rd (AG env) op))):=by
 cases op<;>first | (simp [Ap.isV] at h1;done) | exact congrArg (_∧·) (Abw h1 h2 (dV K (Ap.rd (AG env) _)))
end
end
section
variable {P:Program} {d:Option Nat} {dp un bf:List Nat} {r:List CO} {env:EN} {hp:CH} {n n0 N1 i:Nat} {K:St->Prop} {lg:Bool}
attribute [go_sem] WZ Ak9 Alb Aj9 Ajf Akl Amv Amh Aoe Amo An8 Ama Aoq Ang Ak2 Amw Apa Aop q_g
theorem Apg {x}:Bg P (⟨d,.mv x,none,dp,false⟩::r) ⟨env,hp,n⟩ K=(Ap.obsB env true (.mv x)∧Ap.pre hp (AG env) (.mv x)∧BC (Ap.val hp (AG env) (.mv x)) (kC P d dp r env K hp n)):=Q4 rfl rfl
theorem Aoa {K:AV->CH->List Nat->Bool->Prop} {x}:Di P n0 N1 i ⟨⟨d,.mv x,none,dp,false⟩,un,lg,bf⟩ env hp K=(Ap.obsB env true (.mv x)∧Ap.pre hp (AG env) (.mv x)∧BC (Ap.val hp (AG env) (.mv x)) (dV K (Ap.rd (AG env) (.mv x)))):=Vl rfl rfl
attribute [go_sem] Apg Aoa
theorem Al9 {c} {a} {b}:Bg P (⟨d,.pk c a b,none,dp,false⟩::r) ⟨env,hp,n⟩ K=(Ap.obsB env true (.pk c a b)∧Ap.pre hp (AG env) (.pk c a b)∧BC (Ap.val hp (AG env) (.pk c a b)) (kC P d dp r env K hp n)):=Q4 rfl rfl
theorem Al2 {K:AV->CH->List Nat->Bool->Prop} {c} {a} {b}:Di P n0 N1 i ⟨⟨d,.pk c a b,none,dp,false⟩,un,lg,bf⟩ env hp K=(Ap.obsB env true (.pk c a b)∧Ap.pre hp (AG env) (.pk c a b)∧BC (Ap.val hp (AG env) (.pk c a b)) (dV K (Ap.rd (AG env) (.pk c a b)))):=Vl rfl rfl
attribute [go_sem] Al9 Al2
theorem App {z} {ps}:Bg P (⟨d,.bd z ps,none,dp,false⟩::r) ⟨env,hp,n⟩ K=(Ap.obsB env true (.bd z ps)∧Ap.pre hp (AG env) (.bd z ps)∧BC (Ap.val hp (AG env) (.bd z ps)) (kC P d dp r env K hp n)):=Q4 rfl rfl
theorem Ao9 {K:AV->CH->List Nat->Bool->Prop} {z} {ps}:Di P n0 N1 i ⟨⟨d,.bd z ps,none,dp,false⟩,un,lg,bf⟩ env hp K=(Ap.obsB env true (.bd z ps)∧Ap.pre hp (AG env) (.bd z ps)∧BC (Ap.val hp (AG env) (.bd z ps)) (dV K (Ap.rd (AG env) (.bd z ps)))):=Vl rfl rfl
attribute [go_sem] App Ao9
theorem Ak6 {op} {c} {x} {y}:Bg P (⟨d,.bin op c x y,none,dp,false⟩::r) ⟨env,hp,n⟩ K=(Ap.obsB env true (.bin op c x y)∧Ap.pre hp (AG env) (.bin op c x y)∧BC (Ap.val hp (AG env) (.bin op c x y)) (kC P d dp r env K hp n)):=Q4 rfl rfl
theorem Aid {K:AV->CH->List Nat->Bool->Prop} {op} {c} {x} {y}:Di P n0 N1 i ⟨⟨d,.bin op c x y,none,dp,false⟩,un,lg,bf⟩ env hp K=(Ap.obsB env true (.bin op c x y)∧Ap.pre hp (AG env) (.bin op c x y)∧BC (Ap.val hp (AG env) (.bin op c x y)) (dV K (Ap.rd (AG env) (.bin op c x y)))):=Vl rfl rfl
attribute [go_sem] Ak6 Aid
theorem Ams {op} {x}:Bg P (⟨d,.un op x,none,dp,false⟩::r) ⟨env,hp,n⟩ K=(Ap.obsB env true (.un op x)∧Ap.pre hp (AG env) (.un op x)∧BC (Ap.val hp (AG env) (.un op x)) (kC P d dp r env K hp n)):=Q4 rfl rfl
theorem Ao1 {K:AV->CH->List Nat->Bool->Prop} {op} {x}:Di P n0 N1 i ⟨⟨d,.un op x,none,dp,false⟩,un,lg,bf⟩ env hp K=(Ap.obsB env true (.un op x)∧Ap.pre hp (AG env) (.un op x)∧BC (Ap.val hp (AG env) (.un op x)) (dV K (Ap.rd (AG env) (.un op x)))):=Vl rfl rfl
attribute [go_sem] Ams Ao1
theorem Aph {k} {x}:Bg P (⟨d,.ci k x,none,dp,false⟩::r) ⟨env,hp,n⟩ K=(Ap.obsB env true (.ci k x)∧Ap.pre hp (AG env) (.ci k x)∧BC (Ap.val hp (AG env) (.ci k x)) (kC P d dp r env K hp n)):=Q4 rfl rfl
attribute [go_sem] Aph
theorem Apj {x}:Bg P (⟨d,.cb x,none,dp,false⟩::r) ⟨env,hp,n⟩ K=(Ap.obsB env true (.cb x)∧Ap.pre hp (AG env) (.cb x)∧BC (Ap.val hp (AG env) (.cb x)) (kC P d dp r env K hp n)):=Q4 rfl rfl
attribute [go_sem] Apj
theorem Ao8 {x} {off}:Bg P (⟨d,.fa x off,none,dp,false⟩::r) ⟨env,hp,n⟩ K=(Ap.obsB env true (.fa x off)∧Ap.pre hp (AG env) (.fa x off)∧BC (Ap.val hp (AG env) (.fa x off)) (kC P d dp r env K hp n)):=Q4 rfl rfl
theorem Aox {K:AV->CH->List Nat->Bool->Prop} {x} {off}:Di P n0 N1 i ⟨⟨d,.fa x off,none,dp,false⟩,un,lg,bf⟩ env hp K=(Ap.obsB env true (.fa x off)∧Ap.pre hp (AG env) (.fa x off)∧BC (Ap.val hp (AG env) (.fa x off)) (dV K (Ap.rd (AG env) (.fa x off)))):=Vl rfl rfl
attribute [go_sem] Ao8 Aox
theorem Ans {x} {j} {z}:Bg P (⟨d,.ia x j z,none,dp,false⟩::r) ⟨env,hp,n⟩ K=(Ap.obsB env true (.ia x j z)∧Ap.pre hp (AG env) (.ia x j z)∧BC (Ap.val hp (AG env) (.ia x j z)) (kC P d dp r env K hp n)):=Q4 rfl rfl
theorem Aoi {K:AV->CH->List Nat->Bool->Prop} {x} {j} {z}:Di P n0 N1 i ⟨⟨d,.ia x j z,none,dp,false⟩,un,lg,bf⟩ env hp K=(Ap.obsB env true (.ia x j z)∧Ap.pre hp (AG env) (.ia x j z)∧BC (Ap.val hp (AG env) (.ia x j z)) (dV K (Ap.rd (AG env) (.ia x j z)))):=Vl rfl rfl
attribute [go_sem] Ans Aoi
theorem Anc {x} {j}:Bg P (⟨d,.ex x j,none,dp,false⟩::r) ⟨env,hp,n⟩ K=(Ap.obsB env true (.ex x j)∧Ap.pre hp (AG env) (.ex x j)∧BC (Ap.val hp (AG env) (.ex x j)) (kC P d dp r env K hp n)):=Q4 rfl rfl
theorem Aoj {K:AV->CH->List Nat->Bool->Prop} {x} {j}:Di P n0 N1 i ⟨⟨d,.ex x j,none,dp,false⟩,un,lg,bf⟩ env hp K=(Ap.obsB env true (.ex x j)∧Ap.pre hp (AG env) (.ex x j)∧BC (Ap.val hp (AG env) (.ex x j)) (dV K (Ap.rd (AG env) (.ex x j)))):=Vl rfl rfl
attribute [go_sem] Anc Aoj
theorem Am5 {str} {x}:Bg P (⟨d,.ln str x,none,dp,false⟩::r) ⟨env,hp,n⟩ K=(Ap.obsB env true (.ln str x)∧Ap.pre hp (AG env) (.ln str x)∧BC (Ap.val hp (AG env) (.ln str x)) (kC P d dp r env K hp n)):=Q4 rfl rfl
theorem Anj {K:AV->CH->List Nat->Bool->Prop} {str} {x}:Di P n0 N1 i ⟨⟨d,.ln str x,none,dp,false⟩,un,lg,bf⟩ env hp K=(Ap.obsB env true (.ln str x)∧Ap.pre hp (AG env) (.ln str x)∧BC (Ap.val hp (AG env) (.ln str x)) (dV K (Ap.rd (AG env) (.ln str x)))):=Vl rfl rfl
attribute [go_sem] Am5 Anj
theorem Am3 {x} {lo} {hi} {z}:Bg P (⟨d,.sc x lo hi z,none,dp,false⟩::r) ⟨env,hp,n⟩ K=(Ap.obsB env true (.sc x lo hi z)∧Ap.pre hp (AG env) (.sc x lo hi z)∧BC (Ap.val hp (AG env) (.sc x lo hi z)) (kC P d dp r env K hp n)):=Q4 rfl rfl
theorem Ao7 {K:AV->CH->List Nat->Bool->Prop} {x} {lo} {hi} {z}:Di P n0 N1 i ⟨⟨d,.sc x lo hi z,none,dp,false⟩,un,lg,bf⟩ env hp K=(Ap.obsB env true (.sc x lo hi z)∧Ap.pre hp (AG env) (.sc x lo hi z)∧BC (Ap.val hp (AG env) (.sc x lo hi z)) (dV K (Ap.rd (AG env) (.sc x lo hi z)))):=Vl rfl rfl
attribute [go_sem] Am3 Ao7
theorem Al7 {x} {j}:Bg P (⟨d,.ix x j,none,dp,false⟩::r) ⟨env,hp,n⟩ K=(Ap.obsB env true (.ix x j)∧Ap.pre hp (AG env) (.ix x j)∧BC (Ap.val hp (AG env) (.ix x j)) (kC P d dp r env K hp n)):=Q4 rfl rfl
attribute [go_sem] Al7
theorem Al5 {mx} {x} {y}:Bg P (⟨d,.mm mx x y,none,dp,false⟩::r) ⟨env,hp,n⟩ K=(Ap.obsB env true (.mm mx x y)∧Ap.pre hp (AG env) (.mm mx x y)∧BC (Ap.val hp (AG env) (.mm mx x y)) (kC P d dp r env K hp n)):=Q4 rfl rfl
theorem Amd {K:AV->CH->List Nat->Bool->Prop} {mx} {x} {y}:Di P n0 N1 i ⟨⟨d,.mm mx x y,none,dp,false⟩,un,lg,bf⟩ env hp K=(Ap.obsB env true (.mm mx x y)∧Ap.pre hp (AG env) (.mm mx x y)∧BC (Ap.val hp (AG env) (.mm mx x y)) (dV K (Ap.rd (AG env) (.mm mx x y)))):=Vl rfl rfl
attribute [go_sem] Al5 Amd
theorem Aov {x}:Bg P (⟨d,.nc x,none,dp,false⟩::r) ⟨env,hp,n⟩ K=(Ap.obsB env true (.nc x)∧Ap.pre hp (AG env) (.nc x)∧BC (Ap.val hp (AG env) (.nc x)) (kC P d dp r env K hp n)):=Q4 rfl rfl
theorem Am6 {K:AV->CH->List Nat->Bool->Prop} {x}:Di P n0 N1 i ⟨⟨d,.nc x,none,dp,false⟩,un,lg,bf⟩ env hp K=(Ap.obsB env true (.nc x)∧Ap.pre hp (AG env) (.nc x)∧BC (Ap.val hp (AG env) (.nc x)) (dV K (Ap.rd (AG env) (.nc x)))):=Vl rfl rfl
attribute [go_sem] Aov Am6
theorem Amu {x} {s} {ok} {z}:Bg P (⟨d,.lk x s ok z,none,dp,false⟩::r) ⟨env,hp,n⟩ K=(Ap.obsB env true (.lk x s ok z)∧Ap.pre hp (AG env) (.lk x s ok z)∧BC (Ap.val hp (AG env) (.lk x s ok z)) (kC P d dp r env K hp n)):=Q4 rfl rfl
attribute [go_sem] Amu
/-! ### Under a guard -/
end
section
variable {P:Program} {d:Option Nat} {env:EN} {hp:CH} {n:Nat} {K:St->Prop} {g:Option (Nat × Bool)} {G:Bool}
section
variable {op:Ap} {x:Bj} {m off:Nat} {ag:Bool}
theorem Fn (h:LD op env=true):gK P d op g ⟨env,hp,n⟩ K G=(Ap.obsB env G op∧imp G (Ap.pre hp (AG env) op)∧imp G ((Ap.val hp (AG env) op).isSome=true)∧K ⟨EN.set env d (.gd G ((Ap.val hp (AG env) op).getD .un)),hp,n⟩):=by
 unfold gK QQ
 rw [if_pos h]
 rfl
theorem Aof {f:Nat} {xs:List Bj}:gK P d (.cl f xs) g ⟨env,hp,n⟩ K G=(FK env G xs∧AH P f hp n (xs.map (AG env)) G (gC env d K)):=nd rfl
theorem Aig (h:LD op env=false) (h2:op.isC=false):gK P d op g ⟨env,hp,n⟩ K G=Z6 P ⟨d,op,none,[],false⟩ d ⟨env,hp,n⟩ K G:=by
 unfold gK QQ
 rw [if_neg (by simpa using h)]
 cases op<;>first | rfl | (simp [Ap.isC] at h2)
def glK (P:Program) (d:Option Nat) (x:Bj) (m:Nat) (ag:Bool) (env:EN) (hp:CH) (n:Nat) (K:St->Prop) (G:Bool):AV->Prop
 | .ep _ _ _ _=>Z6 P ⟨d,.ld x m ag,none,[],false⟩ d ⟨env,hp,n⟩ K G
 | α=>EF G (x.ev env)∧imp G ((Je hp m α).isSome=true)∧K ⟨EN.set env d (.gd G (((Je hp m α).map (UN ag)).getD .un)),hp,n⟩
theorem Abx {α:AV} {z i:Nat}:glK P d x m ag env hp n K G (.ep α z i off)=Z6 P ⟨d,.ld x m ag,none,[],false⟩ d ⟨env,hp,n⟩ K G:=nd rfl
theorem Aik {k:Nat}:glK P d x m ag env hp n K G (.bx k off)=(EF G (x.ev env)∧imp G ((Je hp m (.bx k off)).isSome=true)∧K ⟨EN.set env d (.gd G (((Je hp m (.bx k off)).map (UN ag)).getD .un)),hp,n⟩):=nd rfl
theorem Acv (ag:Bool):(fun cs:List AV=>if ag then AV.ag cs else cs.getD 0 .un)=UN ag:=by
 funext cs
 cases ag<;>rfl
theorem Am7:gK P d (.ld x m ag) g ⟨env,hp,n⟩ K G=glK P d x m ag env hp n K G (AG env x):=by
 have hv:∀(h:LD (.ld x m ag) env=true),gK P d (.ld x m ag) g ⟨env,hp,n⟩ K G=(EF G (x.ev env)∧imp G ((Je hp m (AG env x)).isSome=true)∧K ⟨EN.set env d (.gd G (((Je hp m (AG env x)).map (UN ag)).getD .un)),hp,n⟩):=by
  intro h
  rw [Fn h]
  simp only [Ap.obsB,Ap.pre,Ap.val,Acv,Option.isSome_map,imp,implies_true,true_and]
 show _=glK P d x m ag env hp n K G (Bf (x.ev env))
 cases h:Bf (x.ev env) with
 |ep α z i off=>
  rw [Abx]
  unfold gK QQ
  rw [if_neg (by simp [LD,h])]
  rfl
 |_=>exact (hv (by simp only [LD,h])).trans (by simp only [glK,AG,h])
end
end
attribute [go_sem] Aof Abx Aik Am7
/-! ### Regions that draw -/
def dK (P:Program) (n0 N1 i:Nat) (un:List Nat) (lg:Bool) (d:Option Nat) (r:List DO) (env:EN) (hp:CH) (l:List LE) (K:EN->CH->Prop) (α:AV) (ws:CH) (R:List Nat) (c:Bool):Prop :=
 cfs n0 i un R (keys ws) c l∧LJ P n0 N1 (i+1) r (EN.set env d α) (ws++hp) (Q6 lg ⟨i,R,keys ws,c⟩ l) K
def dE (K:AV->CH->List Nat->Bool->Prop) (a:AV × CH × List Nat):Prop:=K a.1 a.2.1 a.2.2 false
def dCR (K:AV->CH->List Nat->Bool->Prop) (r:AV) (ws:CH):Prop:=K r ws [] true
def dCg (K:AV->CH->List Nat->Bool->Prop) (G:Bool) (r:AV):Prop:=K (.gd G r) [] [] true
def Nw (P:Program) (n0 N1 i:Nat) (op:Ap) (bf:List Nat) (env:EN) (hp:CH) (K:AV->CH->List Nat->Bool->Prop) (G:Bool):Prop:=dG P n0 N1 i ⟨⟨none,op,none,[],false⟩,[],false,bf⟩ env hp G K
section
variable {P:Program} {n0 N1 i:Nat} {d:Option Nat} {dp un bf:List Nat} {lg:Bool} {env:EN} {hp:CH} {K:AV->CH->List Nat->Bool->Prop}
section
variable {r:List DO} {l:List LE} {α:AV} {ws:CH} {R:List Nat} {G:Bool} {op:Ap} {f:Nat} {xs:List Bj}
theorem Aj5 {K:EN->CH->Prop} {c:Bool}:dK P n0 N1 i un lg d r env hp l K α ws R c=(cfs n0 i un R (keys ws) c l∧LJ P n0 N1 (i+1) r (EN.set env d α) (ws++hp) (Q6 lg ⟨i,R,keys ws,c⟩ l) K):=nd rfl
theorem Akg:dE K (α,ws,R)=K α ws R false:=nd rfl
theorem Agw {r:AV}:dCR K r ws=K r ws [] true:=nd rfl
theorem Aev {r:AV}:dCg K G r=K (.gd G r) [] [] true:=nd rfl
theorem Ajp {K:EN->CH->Prop}:LJ P n0 N1 i [] env hp l K=K env hp:=nd rfl
theorem Afv {o:CO} {K:EN->CH->Prop}:LJ P n0 N1 i (⟨o,un,lg,bf⟩::r) env hp l K=Di P n0 N1 i ⟨o,un,lg,bf⟩ env hp (dK P n0 N1 i un lg o.dst r env hp l K):=by
 show Di P n0 N1 i _ env hp _=_
 congr 1
theorem Amm {x:Bj} {m:Nat} {ag:Bool}:Di P n0 N1 i ⟨⟨d,.ld x m ag,none,dp,false⟩,un,lg,bf⟩ env hp K=(EF true (x.ev env)∧ldK hp m ag (dV K (AG env x).ids) (AG env x)):=by
 show (_∧_)=_
 congr 1
 unfold Jf
 simp only [Ap.isV]
 exact VY (f:=AG env)
theorem Oh (h1:op.isV=false) (h2:op.isC=false):Di P n0 N1 i ⟨⟨d,op,none,dp,false⟩,un,lg,bf⟩ env hp K=(Ap.obsB env true op∧op.effP hp (AG env)∧BC (op.eff hp (AG env) (n0+i)) (dE K)):=by
 show (_∧_)=(_∧_)
 congr 1
 unfold Jf
 generalize hE:Ap.eff hp (AG env) (n0+i) op=E
 have hE':Ap.eff hp (fun s=>Bf (s.ev env)) (n0+i) op=E:=hE
 cases op<;>first | (simp [Ap.isC] at h2;done) | (simp [Ap.isV] at h1;done) | skip
 all_goals
  simp only [Ap.isV,EG]
  rw [hE']
  cases E<;>rfl
theorem Al4:Di P n0 N1 i ⟨⟨d,.cl f xs,none,dp,false⟩,un,lg,bf⟩ env hp K=(FK env true xs∧Au P f n0 bf hp N1 (xs.map (AG env)) (n0+i) (dCR K)):=nd rfl
theorem d_g {t:Nat} {i7:Bool}:Di P n0 N1 i ⟨⟨d,op,some (t,i7),dp,false⟩,un,lg,bf⟩ env hp K=gdK (ge env t) i7 (Nw P n0 N1 i op bf env hp K):=by
 have key:∀G,dG P n0 N1 i ⟨⟨d,op,some (t,i7),dp,false⟩,un,lg,bf⟩ env hp G K=Nw P n0 N1 i op bf env hp K G:=fun G=>by
  unfold Nw
  cases op<;>rfl
 unfold Di L3
 simp only
 cases h:ge env t with
 |gd c x=>cases x<;>first | rfl | exact key _ | (cases c<;>first | rfl | exact key _)
 |_=>first | rfl | exact key _
theorem ES (h:op.isV=true):Nw P n0 N1 i op bf env hp K G=(Ap.obsB env G op∧imp G (Ap.pre hp (AG env) op)∧imp G ((Ap.val hp (AG env) op).isSome=true)∧K (.gd G ((Ap.val hp (AG env) op).getD .un)) [] (Ap.rd (AG env) op) false):=by
 unfold Nw dG
 cases op<;>first | (simp [Ap.isV] at h;done) | rfl
theorem Aiu:Nw P n0 N1 i (.cl f xs) bf env hp K G=(FK env G xs∧AJ P f n0 bf hp N1 (xs.map (AG env)) G (dCg K G)):=nd rfl
theorem Aeh (h1:op.isV=false) (h2:op.isC=false):Nw P n0 N1 i op bf env hp K G=(Ap.obsB env G op∧((G=true∧(op.effP hp (AG env)∧BC (op.eff hp (AG env) (n0+i)) (dE K)))∨(G=false∧K (.gd false .un) [] [] false))):=by
 unfold Nw dG
 generalize hE:Ap.eff hp (AG env) (n0+i) op=E
 have hE':Ap.eff hp (fun s=>Bf (s.ev env)) (n0+i) op=E:=hE
 cases op<;>first | (simp [Ap.isC] at h2;done) | (simp [Ap.isV] at h1;done) | skip
 all_goals
  simp only [Ap.isV,EG]
  rw [hE']
  cases E<;>rfl
end
end
section
variable {P:Program} {n0 N1 i m n id k:Nat} {bf dp un:List Nat} {env:EN} {hp Am:CH} {K:AV->CH->List Nat->Bool->Prop} {G lg:Bool} {d:Option Nat} {g:Option (Nat × Bool)} {args e:List AV} {L:List (List AV)} {fn:Func}
attribute [go_sem] Aj5 Akg Agw Aev Ajp Afv Q6 Amm Al4 d_g Aiu
theorem Anx {x:Bj} {ag:Bool}:Nw P n0 N1 i (.ld x m ag) bf env hp K G=(Ap.obsB env G (.ld x m ag)∧imp G (Ap.pre hp (AG env) (.ld x m ag))∧imp G ((Ap.val hp (AG env) (.ld x m ag)).isSome=true)∧K (.gd G ((Ap.val hp (AG env) (.ld x m ag)).getD .un)) [] (Ap.rd (AG env) (.ld x m ag)) false):=ES rfl
attribute [go_sem] Anx
theorem An2 {K:St->Prop} {x}:gK P d (.mv x) g ⟨env,hp,n⟩ K G=(Ap.obsB env G (.mv x)∧imp G (Ap.pre hp (AG env) (.mv x))∧imp G ((Ap.val hp (AG env) (.mv x)).isSome=true)∧K ⟨EN.set env d (.gd G ((Ap.val hp (AG env) (.mv x)).getD .un)),hp,n⟩):=Fn rfl
theorem Am4 {x}:Nw P n0 N1 i (.mv x) bf env hp K G=(Ap.obsB env G (.mv x)∧imp G (Ap.pre hp (AG env) (.mv x))∧imp G ((Ap.val hp (AG env) (.mv x)).isSome=true)∧K (.gd G ((Ap.val hp (AG env) (.mv x)).getD .un)) [] (Ap.rd (AG env) (.mv x)) false):=ES rfl
attribute [go_sem] An2 Am4
theorem Ao5 {K:St->Prop} {c} {a} {b}:gK P d (.pk c a b) g ⟨env,hp,n⟩ K G=(Ap.obsB env G (.pk c a b)∧imp G (Ap.pre hp (AG env) (.pk c a b))∧imp G ((Ap.val hp (AG env) (.pk c a b)).isSome=true)∧K ⟨EN.set env d (.gd G ((Ap.val hp (AG env) (.pk c a b)).getD .un)),hp,n⟩):=Fn rfl
theorem Ant {c} {a} {b}:Nw P n0 N1 i (.pk c a b) bf env hp K G=(Ap.obsB env G (.pk c a b)∧imp G (Ap.pre hp (AG env) (.pk c a b))∧imp G ((Ap.val hp (AG env) (.pk c a b)).isSome=true)∧K (.gd G ((Ap.val hp (AG env) (.pk c a b)).getD .un)) [] (Ap.rd (AG env) (.pk c a b)) false):=ES rfl
attribute [go_sem] Ao5 Ant
theorem Aos {K:St->Prop} {z} {ps}:gK P d (.bd z ps) g ⟨env,hp,n⟩ K G=(Ap.obsB env G (.bd z ps)∧imp G (Ap.pre hp (AG env) (.bd z ps))∧imp G ((Ap.val hp (AG env) (.bd z ps)).isSome=true)∧K ⟨EN.set env d (.gd G ((Ap.val hp (AG env) (.bd z ps)).getD .un)),hp,n⟩):=Fn rfl
attribute [go_sem] Aos
theorem Aj1 {K:St->Prop} {op} {c} {x} {y}:gK P d (.bin op c x y) g ⟨env,hp,n⟩ K G=(Ap.obsB env G (.bin op c x y)∧imp G (Ap.pre hp (AG env) (.bin op c x y))∧imp G ((Ap.val hp (AG env) (.bin op c x y)).isSome=true)∧K ⟨EN.set env d (.gd G ((Ap.val hp (AG env) (.bin op c x y)).getD .un)),hp,n⟩):=Fn rfl
theorem Ai3 {op} {c} {x} {y}:Nw P n0 N1 i (.bin op c x y) bf env hp K G=(Ap.obsB env G (.bin op c x y)∧imp G (Ap.pre hp (AG env) (.bin op c x y))∧imp G ((Ap.val hp (AG env) (.bin op c x y)).isSome=true)∧K (.gd G ((Ap.val hp (AG env) (.bin op c x y)).getD .un)) [] (Ap.rd (AG env) (.bin op c x y)) false):=ES rfl
attribute [go_sem] Aj1 Ai3
theorem Amr {K:St->Prop} {op} {x}:gK P d (.un op x) g ⟨env,hp,n⟩ K G=(Ap.obsB env G (.un op x)∧imp G (Ap.pre hp (AG env) (.un op x))∧imp G ((Ap.val hp (AG env) (.un op x)).isSome=true)∧K ⟨EN.set env d (.gd G ((Ap.val hp (AG env) (.un op x)).getD .un)),hp,n⟩):=Fn rfl
theorem Amg {op} {x}:Nw P n0 N1 i (.un op x) bf env hp K G=(Ap.obsB env G (.un op x)∧imp G (Ap.pre hp (AG env) (.un op x))∧imp G ((Ap.val hp (AG env) (.un op x)).isSome=true)∧K (.gd G ((Ap.val hp (AG env) (.un op x)).getD .un)) [] (Ap.rd (AG env) (.un op x)) false):=ES rfl
attribute [go_sem] Amr Amg
theorem Am1 {K:St->Prop} {f} {xs}:gK P d (.mf f xs) g ⟨env,hp,n⟩ K G=(Ap.obsB env G (.mf f xs)∧imp G (Ap.pre hp (AG env) (.mf f xs))∧imp G ((Ap.val hp (AG env) (.mf f xs)).isSome=true)∧K ⟨EN.set env d (.gd G ((Ap.val hp (AG env) (.mf f xs)).getD .un)),hp,n⟩):=Fn rfl
attribute [go_sem] Am1
theorem Al6 {K:St->Prop} {x} {off}:gK P d (.fa x off) g ⟨env,hp,n⟩ K G=(Ap.obsB env G (.fa x off)∧imp G (Ap.pre hp (AG env) (.fa x off))∧imp G ((Ap.val hp (AG env) (.fa x off)).isSome=true)∧K ⟨EN.set env d (.gd G ((Ap.val hp (AG env) (.fa x off)).getD .un)),hp,n⟩):=Fn rfl
theorem Aoy {x} {off}:Nw P n0 N1 i (.fa x off) bf env hp K G=(Ap.obsB env G (.fa x off)∧imp G (Ap.pre hp (AG env) (.fa x off))∧imp G ((Ap.val hp (AG env) (.fa x off)).isSome=true)∧K (.gd G ((Ap.val hp (AG env) (.fa x off)).getD .un)) [] (Ap.rd (AG env) (.fa x off)) false):=ES rfl
attribute [go_sem] Al6 Aoy
theorem Anw {K:St->Prop} {x} {j} {z}:gK P d (.ia x j z) g ⟨env,hp,n⟩ K G=(Ap.obsB env G (.ia x j z)∧imp G (Ap.pre hp (AG env) (.ia x j z))∧imp G ((Ap.val hp (AG env) (.ia x j z)).isSome=true)∧K ⟨EN.set env d (.gd G ((Ap.val hp (AG env) (.ia x j z)).getD .un)),hp,n⟩):=Fn rfl
theorem Anh {x} {j} {z}:Nw P n0 N1 i (.ia x j z) bf env hp K G=(Ap.obsB env G (.ia x j z)∧imp G (Ap.pre hp (AG env) (.ia x j z))∧imp G ((Ap.val hp (AG env) (.ia x j z)).isSome=true)∧K (.gd G ((Ap.val hp (AG env) (.ia x j z)).getD .un)) [] (Ap.rd (AG env) (.ia x j z)) false):=ES rfl
attribute [go_sem] Anw Anh
theorem Amp {K:St->Prop} {str} {x}:gK P d (.ln str x) g ⟨env,hp,n⟩ K G=(Ap.obsB env G (.ln str x)∧imp G (Ap.pre hp (AG env) (.ln str x))∧imp G ((Ap.val hp (AG env) (.ln str x)).isSome=true)∧K ⟨EN.set env d (.gd G ((Ap.val hp (AG env) (.ln str x)).getD .un)),hp,n⟩):=Fn rfl
theorem Amc {str} {x}:Nw P n0 N1 i (.ln str x) bf env hp K G=(Ap.obsB env G (.ln str x)∧imp G (Ap.pre hp (AG env) (.ln str x))∧imp G ((Ap.val hp (AG env) (.ln str x)).isSome=true)∧K (.gd G ((Ap.val hp (AG env) (.ln str x)).getD .un)) [] (Ap.rd (AG env) (.ln str x)) false):=ES rfl
attribute [go_sem] Amp Amc
theorem Amq {K:St->Prop} {x} {lo} {hi} {z}:gK P d (.sc x lo hi z) g ⟨env,hp,n⟩ K G=(Ap.obsB env G (.sc x lo hi z)∧imp G (Ap.pre hp (AG env) (.sc x lo hi z))∧imp G ((Ap.val hp (AG env) (.sc x lo hi z)).isSome=true)∧K ⟨EN.set env d (.gd G ((Ap.val hp (AG env) (.sc x lo hi z)).getD .un)),hp,n⟩):=Fn rfl
theorem Anr {x} {lo} {hi} {z}:Nw P n0 N1 i (.sc x lo hi z) bf env hp K G=(Ap.obsB env G (.sc x lo hi z)∧imp G (Ap.pre hp (AG env) (.sc x lo hi z))∧imp G ((Ap.val hp (AG env) (.sc x lo hi z)).isSome=true)∧K (.gd G ((Ap.val hp (AG env) (.sc x lo hi z)).getD .un)) [] (Ap.rd (AG env) (.sc x lo hi z)) false):=ES rfl
attribute [go_sem] Amq Anr
theorem Aoh {K:St->Prop} {x} {j}:gK P d (.ix x j) g ⟨env,hp,n⟩ K G=(Ap.obsB env G (.ix x j)∧imp G (Ap.pre hp (AG env) (.ix x j))∧imp G ((Ap.val hp (AG env) (.ix x j)).isSome=true)∧K ⟨EN.set env d (.gd G ((Ap.val hp (AG env) (.ix x j)).getD .un)),hp,n⟩):=Fn rfl
attribute [go_sem] Aoh
theorem An9 {K:St->Prop} {x}:gK P d (.nc x) g ⟨env,hp,n⟩ K G=(Ap.obsB env G (.nc x)∧imp G (Ap.pre hp (AG env) (.nc x))∧imp G ((Ap.val hp (AG env) (.nc x)).isSome=true)∧K ⟨EN.set env d (.gd G ((Ap.val hp (AG env) (.nc x)).getD .un)),hp,n⟩):=Fn rfl
theorem Am9 {x}:Nw P n0 N1 i (.nc x) bf env hp K G=(Ap.obsB env G (.nc x)∧imp G (Ap.pre hp (AG env) (.nc x))∧imp G ((Ap.val hp (AG env) (.nc x)).isSome=true)∧K (.gd G ((Ap.val hp (AG env) (.nc x)).getD .un)) [] (Ap.rd (AG env) (.nc x)) false):=ES rfl
attribute [go_sem] An9 Am9
theorem Ame {z}:Di P n0 N1 i ⟨⟨d,.al z,none,dp,false⟩,un,lg,bf⟩ env hp K=(Ap.obsB env true (.al z)∧Ap.effP hp (AG env) (.al z)∧BC (Ap.eff hp (AG env) (n0+i) (.al z)) (dE K)):=Oh rfl rfl
attribute [go_sem] Ame
theorem Aol {x} {y} {m}:Di P n0 N1 i ⟨⟨d,.st x y m,none,dp,false⟩,un,lg,bf⟩ env hp K=(Ap.obsB env true (.st x y m)∧Ap.effP hp (AG env) (.st x y m)∧BC (Ap.eff hp (AG env) (n0+i) (.st x y m)) (dE K)):=Oh rfl rfl
attribute [go_sem] Aol
theorem g_mk {K:St->Prop} :gK P d (.mk ) g ⟨env,hp,n⟩ K G=Z6 P ⟨d,.mk ,none,[],false⟩ d ⟨env,hp,n⟩ K G:=Aig rfl rfl
theorem d_mk :Di P n0 N1 i ⟨⟨d,.mk ,none,dp,false⟩,un,lg,bf⟩ env hp K=(Ap.obsB env true (.mk )∧Ap.effP hp (AG env) (.mk )∧BC (Ap.eff hp (AG env) (n0+i) (.mk )) (dE K)):=Oh rfl rfl
theorem e_mk :Nw P n0 N1 i (.mk ) bf env hp K G=(Ap.obsB env G (.mk )∧((G=true∧(Ap.effP hp (AG env) (.mk )∧BC (Ap.eff hp (AG env) (n0+i) (.mk )) (dE K)))∨(G=false∧K (.gd false .un) [] [] false))):=Aeh rfl rfl
attribute [go_sem] g_mk d_mk e_mk
theorem Anz {fz} {m} {ps}:Di P n0 N1 i ⟨⟨d,.bs fz m ps,none,dp,false⟩,un,lg,bf⟩ env hp K=(Ap.obsB env true (.bs fz m ps)∧Ap.effP hp (AG env) (.bs fz m ps)∧BC (Ap.eff hp (AG env) (n0+i) (.bs fz m ps)) (dE K)):=Oh rfl rfl
attribute [go_sem] Anz
theorem Aou {x} {y} {m} {b}:Di P n0 N1 i ⟨⟨d,.ap x y m b,none,dp,false⟩,un,lg,bf⟩ env hp K=(Ap.obsB env true (.ap x y m b)∧Ap.effP hp (AG env) (.ap x y m b)∧BC (Ap.eff hp (AG env) (n0+i) (.ap x y m b)) (dE K)):=Oh rfl rfl
attribute [go_sem] Aou
attribute [go_sem] Ap.obsB Ap.pre Ap.val Ap.eff Ap.effP Ap.rd Bj.ev ge EN.set Bf EF FK Uf ZV Afz Ac2 eqB Aer unV Je UN TV sl AV.cl AV.one ones AV.pur FE K7 Xg Si RS.ok Ji RS.ev single C9 XN eqk eqc WQ s0V ncV pkV lkV B5 D4 AV.purR WU Hl Gv AY shd QK shutC shutL Du E3 C5 shutP H0 PS Xo Gq okC nst IG Cs byt AV.ids keys cfs O9
attribute [go_sem] Option.map_some Option.map_none Option.getD_some Option.getD_none Option.isSome_some Option.isSome_none List.map_cons List.map_nil List.length_cons List.length_nil List.take_zero List.take_succ_cons List.take_nil List.drop_zero List.drop_succ_cons List.drop_nil List.all_cons List.all_nil List.getD_cons_zero List.getD_cons_succ List.getElem?_cons_zero List.getElem?_cons_succ List.cons_append List.nil_append List.append_nil List.filter_cons List.filter_nil List.contains_cons List.contains_nil List.take_length
theorem LP (A B:Prop):H3 true A B=A:=by simp [H3]
theorem KO (A B:Prop):H3 false A B=B:=by simp [H3]
theorem J5 {x:Bool} {A B:Prop} (a:x=true->A) (b:x=false->B):H3 x A B:=⟨a,b⟩
theorem AH.f {f:FuncId} {K:CH->Nat->AV->Prop} {r:AV} (m:G=true->Ae P f hp n args r) (k:K hp n (.gd G r)):AH P f hp n args G K:=.inl ⟨r,m,k⟩
theorem AH.s {f:FuncId} {K:CH->Nat->AV->Prop} (h:H3 G (Ac P f hp n args K) (K hp n (.gd false .un))):AH P f hp n args G K:=.inr h
theorem JC {f:FuncId} {K:CH->Nat->AV->Prop} (h:Ac P f hp n args K):AH P f hp n args true K:=.inr ((LP _ _).symm ▸ h)
theorem BU {f:FuncId} {K:CH->Nat->AV->Prop} (h:K hp n (.gd false .un)):AH P f hp n args false K:=.inr ((KO _ _).symm ▸ h)
theorem AJ.f {f:FuncId} {K:AV->Prop} {r:AV} (m:G=true->∀Am,(∀k,(k<n0∨∃j∈bf,k=n0+j)->gc Am k=gc hp k)->Ae P f Am n args r) (k:K r):AJ P f n0 bf hp n args G K:=⟨r,m,k⟩
theorem Au.f {f:FuncId} {K:AV->CH->Prop} {r:AV} (m:True->∀Am,(∀k,(k<n0∨∃j∈bf,k=n0+j)->gc Am k=gc hp k)->Ae P f Am n args r) (k:K r []):Au P f n0 bf hp n args id K:=.inl ⟨r,m trivial,k⟩
theorem Au.r {f:FuncId} {K:AV->CH->Prop} {len:Nat} {l:List (List AV)} (mt:∀Am,AK P f Am n args fun DX n2 r2=>DX=(n,.rw 0 m l)::Am∧n2=n+1∧r2=.rw n 0 len) (hl:l.length=len) (k:K (.rw id 0 len) [(id,.rw 0 m l)]):Au P f n0 bf hp n args id K:=by
 subst hl
 exact .inr (.inl ⟨m,l,fun Am _=>mt Am,k⟩)
theorem Au.w {f:FuncId} {K:AV->CH->Prop} {r:AV} {ws:CH} (h1:Kc hp n0 (keys ws) ws) (h2:r.purR=true) (m:∀Am,(∀k,(k<n0∨∃j∈bf,k=n0+j)->gc Am k=gc hp k)->AK P f Am n args fun DX n2 r2=>DX=ws++Am∧n2=n∧r2=r) (k:K r ws):Au P f n0 bf hp n args id K:=.inr (.inr ⟨r,ws,h1,.inl h2,m,k⟩)
attribute [go_sem] Kc nOk cOk Z5 aOk
theorem AJ.no {f:FuncId} {K:AV->Prop} (k:K .un):AJ P f n0 bf hp n args false K:=⟨.un,fun h=>(by cases h),k⟩
theorem G2.f {K:List AV->Prop} (h:L[i]?=some e) (k:K e):G2 L i K:=⟨e,h,k⟩
theorem Ad {K:List AV->Prop} (h:L[i]?=some e):G2 L i K=K e:=by simp [G2,h]
theorem Af4 (e:List AV) (L:List (List AV)) (i:Nat) (K:List AV->Prop):G2 (e::L) i K=BC (e::L)[i]? K:=by
 unfold G2
 cases h:(e::L)[i]?<;>simp [BC]
attribute [go_sem] Af4 LP KO
theorem Ar (k:Nat) (c:Ai) (r:CH):gc ((k,c)::r) k=c:=by simp [gc]
theorem Ak {j:Nat} (c:Ai) (r:CH) (h:k≠j):gc ((k,c)::r) j=gc r j:=by simp [gc,h]
theorem AA (k j:Nat) (c:Ai) (r:CH):gc ((k,c)::r) j=if k=j then c else gc r j:=nd rfl
attribute [go_sem] AA
/-! ### Small facts -/
def nin (x:Nat):List Nat->Prop
 | []=>True
 |y::r=>x≠y∧nin x r
def Kh (n:Nat):List Nat->Prop
 | []=>True
 |x::r=>x=n∧Kh n r
theorem Adl (x:Nat) (l:List Nat):nin x l=∀y∈l,x≠y:=by
 induction l with
 |nil=>simp [nin]
 |cons y r ih=>simp [nin,ih]
theorem Xd (n:Nat) (l:List Nat):Kh n l=∀x∈l,x=n:=by
 induction l with
 |nil=>simp [Kh]
 |cons y r ih=>simp [Kh,ih]
theorem YD (l:List Nat):Sx [] l=True:=by simp [Sx]
theorem WW (x:Nat) (a b:List Nat):Sx (x::a) b=(nin x b∧Sx a b):=by simp [Sx,Adl]
theorem Ak1 (n0 i:Nat) (R W:List Nat) (c:Bool) (j:Nat) (R' W':List Nat) (c':Bool):cf n0 i R W c ⟨j,R',W',c'⟩=(Sx W' R∧Sx W' W∧Sx W R'∧imp c (Kh (n0+j) W')∧imp c' (Kh (n0+i) W)):=by
 simp only [cf,Xd,imp]
theorem Aoc (h:Decidable True):@decide True h=true:=by simp
theorem Ano (h:Decidable False):@decide False h=false:=by simp
theorem Apk:(¬True)=False:=by simp
theorem Aog:(¬False)=True:=by simp
theorem Ank {α:Sort _} (a b:α):(a≠b)=¬(a=b):=rfl
theorem Am0 (n:Nat):(0<=(n:Int))=True:=by simp
theorem Ani (p:Prop) [Decidable p]:(some (AV.b false)=some (AV.b (decide p)))=¬p:=by simp
theorem An5 (n:Nat):max n (n+1)=n+1:=z3f (z3z n)
attribute [go_sem] An5 Am0 Ani or_false false_or or_true true_or nin Kh YD WW Ak1 Aoc Ano Apk Aog Ank
theorem Afn (env:EN):EN.drop [] env=env:=nd rfl
theorem Ao6 (a:Nat) (dp:List Nat):EN.drop (a::dp) []=[]:=nd rfl
def inL (a:Nat):List Nat->Bool
 | []=>false
 |b::r=>if a=b then true else inL a r
theorem Adz (a:Nat) (l:List Nat):inL a l=l.contains a:=by
 induction l with
 |nil=>rfl
 |cons b r ih=>
  rw [List.contains_cons,<-ih]
  show (if a=b then true else inL a r)=_
  by_cases h:a=b<;>simp [h]
theorem Amb (a:Nat) (dp:List Nat) (t:Nat) (α:AV) (env:EN):EN.drop (a::dp) ((t,α)::env)=if inL t (a::dp)=true then EN.drop (a::dp) env else (t,α)::EN.drop (a::dp) env:=by
 rw [Adz]
 show List.filter _ _=_
 rw [List.filter_cons]
 by_cases h:(a::dp).contains t=true
 .rw [h,if_pos rfl]
  rfl
 .rw [Bool.eq_false_iff.2 h]
  rfl
theorem Bt (q:Prop):imp true q=q:=by simp [imp]
theorem Aks (q:Prop):imp false q=True:=by simp [imp]
theorem Ail (b:Bool):imp b (b=true)=True:=by simp [imp]
theorem Aj2 (b:Bool):imp b True=True:=by simp [imp]
theorem Zr (b:Bool):(b == true)=b:=by simp
theorem Aab (b:Bool):(b == false)=!b:=by simp
theorem Adq (x y:Bool):(bif x then true else y)=(x||y):=by cases x<;>rfl
theorem Abk (x y:Bool):(bif x then y else false)=(x&&y):=by cases x<;>rfl
theorem Aiv (n:Nat):(n<=n)=True:=by simp
theorem Adf (n:Nat):((n:Int)).toNat=n:=Int.toNat_natCast n
theorem Ak0 (n m k:Nat):(n+m=n+k)=(m=k):=by simp
theorem Ajh (n k:Nat):(n=n+k)=(k=0):=by simp
theorem Ajm (n k:Nat):(n+k=n)=(k=0):=by simp
attribute [go_sem] Int.cast_ofNat_Int List.replicate_zero List.replicate_succ Afn Ao6 Amb inL Bt Aks Ail Aj2 Zr Aab Adq Abk Aiv Adf Ak0 Ajh Ajm Nat.add_assoc Bool.and_true Bool.true_and Bool.and_false Bool.false_and Bool.or_true Bool.true_or Bool.or_false Bool.false_or Bool.not_true Bool.not_false Bool.not_not Nat.le_add_right Nat.le_refl true_and and_true and_self Nat.zero_add Nat.add_zero decide_true decide_false eq_self
theorem bd {k:CC} (h:fn.body.bind (BP P fn.ntmps)=some k):∃c,fn.body=some c∧BP P fn.ntmps c=some k:=by
 cases hb:fn.body with
 |none=>rw [hb] at h;cases h
 |some c=>rw [hb] at h;exact ⟨c,rfl,h⟩
theorem Jb {f : FuncId} {k : CC} {rs : List RS} (hf : P.funcs[f]? = some fn) (FZ : (fn.name == "runtime.NumGoroutine") = false)
 (hc:fn.body.bind (BP P fn.ntmps)=some k.erase) (HG:NS P fn.ntmps fn.results.toList=some rs) {hp:CH} {n:Nat} {args:List AV} {R:CH->Nat->AV->Prop} (AZ:Nat.ble args.length fn.ntmps=true)
 (hv:vc P k ⟨C9 0 args,hp,n⟩ (K7 rs R)):AK P f hp n args R:=by
 obtain ⟨c,hb,hc⟩:=bd hc
 exact Oq hf FZ hb hc HG (Nat.le_of_ble_eq_true AZ) hv
def Up (n:Nat) (hp Am:CH):Prop:=∀k,k<n->gc Am k=gc hp k
theorem Up.refl (n:Nat) (hp:CH):Up n hp hp:=fun _ _=>rfl
theorem Up.cons (h:Up n hp Am) (c:Ai) (hk:n<=k):Up n hp ((k,c)::Am):=fun j hj=>by
 rw [Ak c Am (by omega)]
 exact h j hj
theorem SatH.cut {h:HP} {J:RO} {w:World} (hu:Up n hp Am) (m0:SatH h J Am m w) (BZ:∀k,n<=k->gc hp k=.no):SatH h J hp m w:=by
 have E7:∀k g,(gc hp k).own g->k<n∧gc Am k=gc hp k:=by
  intro k g e
  rcases Nat.lt_or_ge k n with hk | hk
  .exact ⟨hk,hu k hk⟩
  .rw [BZ k hk] at e;cases e
 have hl:∀b,AF J hp b->AF J Am b:=fun b ⟨k,g,c,e,r⟩=>⟨k,g,c,by rw [(E7 k g e).2];exact e,r⟩
 refine ⟨m0.hh,fun k=>?_,fun k k' g g' b c c' e e' r r'=>m0.inj k k' g g' b c c' (by rw [(E7 k g e).2];exact e) (by rw [(E7 k' g' e').2];exact e') r r',fun b hb=>m0.hid b (hl b hb),fun b hb=>m0.lt b (hl b hb),m0.fr,fun k g g' x e r=>?_,m0.gl⟩
 .rcases Nat.lt_or_ge k n with hk | hk
  .have:=m0.ch k
   rwa [hu k hk] at this
  .rw [BZ k hk]
   trivial
 .have:=E7 k g (Ai.gen_own (Ai.rgen_gen e))
  exact m0.gens k g g' x (by rw [this.2];exact e) r
end
