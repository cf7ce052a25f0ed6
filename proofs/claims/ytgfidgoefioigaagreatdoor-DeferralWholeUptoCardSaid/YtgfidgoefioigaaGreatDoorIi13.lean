/- Proof. Conditions: none. -/
import Derived.KernelRfl
import Derived.Test.YtgfidgoefioigaaGreatDoorIi12
namespace Go.Eng
set_option linter.all false
theorem nd {α:Sort _} {a b:α} (h:a=b):a=b:=h
/-! ### Ways to go on -/
def B4 {α:Type}:Option α→(α→Prop)→Prop
 | some a,K=>K a
 | none,_=>False
theorem R3 {α:Type} (a:α) (K:α→Prop):B4 (some a) K=K a:=nd rfl
def avB:AV→(Bool→Prop)→Prop
 | .b x,K=>K x
 | _,_=>False
theorem Add (x:Bool) (K:Bool→Prop):avB (.b x) K=K x:=nd rfl
def gdK:AV→Bool→(Bool→Prop)→Prop
 | .b x,w,K=>K (x == w)
 | .gd c (.b x),w,K=>K (c&&(x == w))
 | .gd false .un,_,K=>K false
 | _,_,_=>False
theorem Acd (x w:Bool) (K:Bool→Prop):gdK (.b x) w K=K (x == w):=nd rfl
theorem Aff (c x w:Bool) (K:Bool→Prop):gdK (.gd c (.b x)) w K=K (c&&(x == w)):=nd rfl
def avS:AV→(ByteArray→Prop)→Prop
 | .s x,K=>K x
 | _,_=>False
def avF:AV→(Nat→List AV→Prop)→Prop
 | .fn g caps,K=>K g caps
 | _,_=>False
theorem Adv (g:Nat) (caps:List AV) (K:Nat→List AV→Prop):avF (.fn g caps) K=K g caps:=nd rfl
def chB:Ap→(List AV→Prop)→Prop
 | .bx cs,K=>K cs
 | _,_=>False
def SE:Ap→(List AV→Prop)→Prop
 | .bx cs,K=>K cs
 | .ro cs,K=>K cs
 | _,_=>False
theorem Acc (cs:List AV) (K:List AV→Prop):SE (.bx cs) K=K cs:=nd rfl
theorem Ae7 (cs:List AV) (K:List AV→Prop):chB (.bx cs) K=K cs:=nd rfl
def AE (env:EN):AX→AV:=fun s=>AR (s.ev env)
theorem Acf (env:EN) (n:Nat):AE env (.t n)=AR (ge env n):=nd rfl
theorem Acr (env:EN) (α:AV):AE env (.c α)=AR α:=nd rfl
attribute [go_sem] R3 Add Acd Aff Adv Acc Ae7 Acf Acr
def ldB (off m:Nat) (ag:Bool) (L:AV→Prop) (cs:List AV):Prop:=off+m≤cs.length∧L (Rc ag ((cs.drop off).take m))
def ldF (z off m:Nat) (ag:Bool) (L:AV→Prop) (e:List AV):Prop:=(e.length=z∧off+m≤e.length)∧L (Rc ag ((e.drop off).take m))
def ldE (i z off m:Nat) (ag:Bool) (L:AV→Prop) (l:List (List AV)):Prop:=F5 l i (ldF z off m ag L)
def Y2 (hp:CH) (m:Nat) (ag:Bool) (L:AV→Prop):AV→Prop
 | .bx k off=>SE (gc hp k) (ldB off m ag L)
 | .ep α z i off=>B4 (sl hp α) (ldE i z off m ag L)
 | _=>False
theorem Ae0 (hp:CH) (m:Nat) (ag:Bool) (L:AV→Prop) (k off:Nat):Y2 hp m ag L (.bx k off)=SE (gc hp k) (ldB off m ag L):=nd rfl
theorem Acm (hp:CH) (m:Nat) (ag:Bool) (L:AV→Prop) (α:AV) (z i off:Nat):Y2 hp m ag L (.ep α z i off)=B4 (sl hp α) (ldE i z off m ag L):=nd rfl
theorem ZA (off m:Nat) (ag:Bool) (L:AV→Prop) (cs:List AV):ldB off m ag L cs=(off+m≤cs.length∧L (Rc ag ((cs.drop off).take m))):=nd rfl
theorem Aad (i z off m:Nat) (ag:Bool) (L:AV→Prop) (l:List (List AV)):ldE i z off m ag L l=F5 l i (ldF z off m ag L):=nd rfl
theorem YG (z off m:Nat) (ag:Bool) (L:AV→Prop) (e:List AV):ldF z off m ag L e=((e.length=z∧off+m≤e.length)∧L (Rc ag ((e.drop off).take m))):=nd rfl
attribute [go_sem] Ae0 Acm ZA Aad YG
theorem Uw {hp:CH} {m:Nat} {ag:Bool} {L:AV→Prop} {x:AX} {f:AX→AV}:Hr hp f (.ld x m ag) L=Y2 hp m ag L (f x):=by
 unfold Hr
 simp only
 cases f x with
 | bx k off=>simp only [Y2];cases gc hp k<;>rfl
 | ep α z i off=>simp only [Y2];cases sl hp α<;>rfl
 | _=>rfl
def Oj (b:Bool) (e:LE) (l:List LE):List LE:=match b with
 | true=>e::l
 | false=>l
/-! ### Code -/
section
variable {P:Program} {env:EN} {hp:CH} {n:Nat} {Q:Exit→St→Prop}
def sqK (P:Program) (b:CC) (Q:Exit→St→Prop):Exit→St→Prop
 | .normal,s=>vc P b s Q
 | e,s=>Q e s
def wkP (P:Program) (b:CC) (Q:Exit→St→Prop) (st:St):Prop:=∃I:St→Prop,T5 st I∧∀s',I s'→vc P b s' Q
theorem Tv {b:CC} {st s':St} (h:Ej st s') (k:vc P b s' Q):wkP P b Q st:=⟨_,h.s,fun _ e=>by subst e;exact k⟩
def Acy (P:Program) (b:CC) (Q:Exit→St→Prop):Exit→St→Prop
 | .normal,s=>wkP P b Q s
 | e,s=>Q e s
def blK (id:Nat) (Q:Exit→St→Prop):Exit→St→Prop
 | .exit i,s=>if i=id then Q .normal s else Q (.exit i) s
 | e,s=>Q e s
def cdK (P:Program) (a b:CC) (st:St) (Q:Exit→St→Prop) (x:Bool):Prop:=GD x (vc P a st Q) (vc P b st Q)
theorem Afk {a b:CC} {st:St}:cdK P a b st Q true=vc P a st Q:=by simp [cdK,GD]
theorem Ae5 {a b:CC} {st:St}:cdK P a b st Q false=vc P b st Q:=by simp [cdK,GD]
theorem Ai {a b:CC} {st:St} {x:Bool} (h1:x=true→vc P a st Q) (h2:x=false→vc P b st Q):cdK P a b st Q x:=⟨h1,h2⟩
def drQ (Q:Exit→St→Prop) (dp:List Nat) (n:Nat) (env:EN) (hp:CH):Prop:=Q .normal ⟨EN.drop dp env,hp,n⟩
theorem Yy {dp:List Nat}:drQ Q dp n env hp=Q .normal ⟨EN.drop dp env,hp,n⟩:=nd rfl
theorem WN {st:St}:vc P .skip st Q=Q .normal st:=nd rfl
theorem Aez {l:List CO} {st:St}:vc P (.rg l) st Q=AW P l st (Q .normal):=nd rfl
theorem Adi {a b:CC} {st:St}:vc P (.sq a b) st Q=vc P a st (sqK P b Q):=by
 show vc P a st _=_
 congr 1
 funext e s
 cases e<;>rfl
theorem YU {a b:CC} {st:St}:vc P (.sqw a b) st Q=vc P a st (Acy P b Q):=by
 show vc P a st _=_
 congr 1
 funext e s
 cases e<;>rfl
theorem Acx {c:AX} {a b:CC}:vc P (.cd c a b) ⟨env,hp,n⟩ Q=(Em true (c.ev env)∧avB (AE env c) (cdK P a b ⟨env,hp,n⟩ Q)):=by
 show (_∧_)=(_∧avB (AR (c.ev env)) _)
 cases AR (c.ev env)<;>rfl
theorem Aeb {id:Nat} {c:CC} {st:St}:vc P (.bl id c) st Q=vc P c st (blK id Q):=by
 show vc P c st _=_
 congr 1
 funext e s
 cases e<;>rfl
theorem Acu {c:CC} {st:St}:vc P (.lp c) st Q=L5 (vc P c) st Q:=nd rfl
theorem Ab1 {id:Nat} {st:St}:vc P (.ex id) st Q=Q (.exit id) st:=nd rfl
theorem Adr {st:St}:vc P .rt st Q=Q .ret st:=nd rfl
theorem Ab2 {l:List DO} {dp:List Nat}:vc P (.dr l dp) ⟨env,hp,n⟩ Q=Kb P n (n+l.length) 0 l env hp [] (drQ Q dp (n+l.length)):=nd rfl
theorem Adj {b:CC} {s:St}:sqK P b Q .normal s=vc P b s Q:=nd rfl
theorem Acn {b:CC} {s:St}:sqK P b Q .ret s=Q .ret s:=nd rfl
theorem Acl {b:CC} {i:Nat} {s:St}:sqK P b Q (.exit i) s=Q (.exit i) s:=nd rfl
theorem Aa0 {b:CC} {s:St}:Acy P b Q .normal s=wkP P b Q s:=nd rfl
theorem Ads {id:Nat} {s:St}:blK id Q .normal s=Q .normal s:=nd rfl
theorem Adq {id:Nat} {s:St}:blK id Q .ret s=Q .ret s:=nd rfl
theorem Ab7 {id i:Nat} {s:St}:blK id Q (.exit i) s=if i=id then Q .normal s else Q (.exit i) s:=nd rfl
end
attribute [go_sem] YU Aa0 Yy WN Aez Adi Acx Aeb Acu Ab1 Adr Ab2 Adj Acn Acl Ads Adq Ab7 Afk Ae5
/-! ### Operations -/
def kC (P:Program) (d:Option Nat) (dp:List Nat) (r:List CO) (env:EN) (K:St→Prop) (hp:CH) (n:Nat) (a:AV):Prop:=AW P r ⟨EN.drop dp (EN.set env d a),hp,n⟩ K
theorem Aco (P:Program) (d:Option Nat) (dp:List Nat) (r:List CO) (env:EN) (K:St→Prop) (hp:CH) (n:Nat) (a:AV):kC P d dp r env K hp n a=AW P r ⟨EN.drop dp (EN.set env d a),hp,n⟩ K:=nd rfl
def boK (L:CH→Nat→AV→Prop) (hp:CH) (n:Nat) (cs:List AV):Prop:=L ((n,.bx cs)::hp) (n+1) (.bx n 0)
def stO (L:CH→Nat→AV→Prop) (hp:CH) (n k off:Nat) (cs old:List AV):Prop:=off+cs.length≤old.length∧L ((k,.bx (old.take off++cs++old.drop (off+cs.length)))::hp) n .un
def chW:Ap→(Bool→Nat→Nat→List (List AV)→Prop)→Prop
 | .rw g n l,K=>K false g n l
 | .rn g n l,K=>K true g n l
 | _,_=>False
theorem Ab6 (g n:Nat) (l:List (List AV)) (K:Bool→Nat→Nat→List (List AV)→Prop):chW (.rw g n l) K=K false g n l:=nd rfl
def stQ (L:CH→Nat→AV→Prop) (hp:CH) (n k i off:Nat) (cs:List AV) (nb:Bool) (g' n':Nat) (l:List (List AV)) (e:List AV):Prop:=L ((k,Fv nb g' n' (l.set i (e.take off++cs++e.drop (off+cs.length))))::hp) n .un
def stP (L:CH→Nat→AV→Prop) (hp:CH) (n k g z i off:Nat) (cs:List AV) (nb:Bool) (g' n':Nat) (l:List (List AV)):Prop:=(g=g'∧z=n'∧off+cs.length≤z∧Y1 nb cs=true)∧F5 l i (stQ L hp n k i off cs nb g' n' l)
def Z8 (L:CH→Nat→AV→Prop) (hp:CH) (n:Nat) (cs:List AV):AV→Prop
 | .bx k off=>chB (gc hp k) (stO L hp n k off cs)
 | .ep (.rw k g _) z i off=>chW (gc hp k) (stP L hp n k g z i off cs)
 | _=>False
def stB (L:CH→Nat→AV→Prop) (hp:CH) (n m:Nat) (p:AV) (cs:List AV):Prop:=cs.length=m∧ones cs=true∧Z8 L hp n cs p
def chM:Ap→(List (ByteArray × AV)→Prop)→Prop
 | .mp l,K=>K l
 | _,_=>False
theorem Aes (l:List (ByteArray × AV)) (K:List (ByteArray × AV)→Prop):chM (.mp l) K=K l:=nd rfl
def muM (L:CH→Nat→AV→Prop) (hp:CH) (n k:Nat) (b:ByteArray) (y:AV) (l:List (ByteArray × AV)):Prop:=y.purR=true∧L ((k,.mp (Dg b y l))::hp) n .un
def muB (L:CH→Nat→AV→Prop) (hp:CH) (n:Nat) (y:AV):AV→AV→Prop
 | .mp k,.s b=>chM (gc hp k) (muM L hp n k b y)
 | _,_=>False
def nlB (L:CH→Nat→AV→Prop) (hp:CH) (n:Nat) (neg:Bool):AV→Prop
 | .ds l=>(l=[]→L hp n (.b (!neg)))∧L hp n (.b neg)
 | .rw k g len=>(nlZ hp k g len→L hp n (.b (!neg)))∧L hp n (.b neg)
 | .e0=>L hp n (.b (!neg))∧L hp n (.b neg)
 | _=>False
def bsK (L:CH→Nat→AV→Prop) (hp:CH) (n n0:Nat) (l:List (List AV)):Prop:=L ((n,.rw 0 n0 l)::hp) (n+1) (.rw n 0 l.length)
def bsT (L:CH→Nat→AV→Prop) (hp:CH) (n:Nat) (l:List (List AV)):Prop:=L hp n (.ds l)
def apB (L:CH→Nat→AV→Prop) (hp:CH) (a:AV × (Nat × Ap) × Nat):Prop:=L (a.2.1::hp) a.2.2 a.1
def apA (L:CH→Nat→AV→Prop) (hp:CH) (n m b:Nat) (x:AV) (l2:List (List AV)):Prop:=DP m l2∧(Cf x+l2.length)*b≤140737488355328∧Cf x+l2.length≤9223372036854775807∧B4 (GB hp n n m x l2) (apB L hp)
def ccK (P:Program) (L:CH→Nat→AV→Prop) (hp:CH) (n:Nat) (args:List AV) (g:Nat) (caps:List AV):Prop:=Af P g hp n (args++caps) L
section
variable {L:CH→Nat→AV→Prop} {hp:CH} {n:Nat}
theorem ZU {cs:List AV}:boK L hp n cs=L ((n,.bx cs)::hp) (n+1) (.bx n 0):=nd rfl
theorem Aap {k off:Nat} {cs old:List AV}:stO L hp n k off cs old=(off+cs.length≤old.length∧L ((k,.bx (old.take off++cs++old.drop (off+cs.length)))::hp) n .un):=nd rfl
theorem Ac2 {k off:Nat} {cs:List AV}:Z8 L hp n cs (.bx k off)=chB (gc hp k) (stO L hp n k off cs):=nd rfl
theorem Ae9 {k g len z i off:Nat} {cs:List AV}:Z8 L hp n cs (.ep (.rw k g len) z i off)=chW (gc hp k) (stP L hp n k g z i off cs):=nd rfl
theorem Aa4 {k g z i off:Nat} {cs:List AV} {nb:Bool} {g' n':Nat} {l:List (List AV)}:stP L hp n k g z i off cs nb g' n' l=((g=g'∧z=n'∧off+cs.length≤z∧Y1 nb cs=true)∧F5 l i (stQ L hp n k i off cs nb g' n' l)):=nd rfl
theorem Aat {k i off:Nat} {cs:List AV} {nb:Bool} {g' n':Nat} {l:List (List AV)} {e:List AV}:stQ L hp n k i off cs nb g' n' l e=L ((k,Fv nb g' n' (l.set i (e.take off++cs++e.drop (off+cs.length))))::hp) n .un:=nd rfl
theorem ZS {k:Nat} {b:ByteArray} {y:AV} {l:List (ByteArray × AV)}:muM L hp n k b y l=(y.purR=true∧L ((k,.mp (Dg b y l))::hp) n .un):=nd rfl
theorem Afm {k:Nat} {b:ByteArray} {y:AV}:muB L hp n y (.mp k) (.s b)=chM (gc hp k) (muM L hp n k b y):=nd rfl
theorem Afn {neg:Bool} {l:List (List AV)}:nlB L hp n neg (.ds l)=((l=[]→L hp n (.b (!neg)))∧L hp n (.b neg)):=nd rfl
theorem Aed {neg:Bool} {k g len:Nat}:nlB L hp n neg (.rw k g len)=((nlZ hp k g len→L hp n (.b (!neg)))∧L hp n (.b neg)):=nd rfl
theorem Aaa {m:Nat} {p:AV} {cs:List AV}:stB L hp n m p cs=(cs.length=m∧ones cs=true∧Z8 L hp n cs p):=nd rfl
theorem ZN {n0:Nat} {l:List (List AV)}:bsK L hp n n0 l=L ((n,.rw 0 n0 l)::hp) (n+1) (.rw n 0 l.length):=nd rfl
theorem Zm {l:List (List AV)}:bsT L hp n l=L hp n (.ds l):=nd rfl
theorem Z7 {α:AV} {c:Nat × Ap} {n':Nat}:apB L hp (α,c,n')=L (c::hp) n' α:=nd rfl
theorem Yb {m b:Nat} {x:AV} {l2:List (List AV)}:apA L hp n m b x l2=(DP m l2∧(Cf x+l2.length)*b≤140737488355328∧Cf x+l2.length≤9223372036854775807∧B4 (GB hp n n m x l2) (apB L hp)):=nd rfl
theorem Y0 {P:Program} {args:List AV} {g:Nat} {caps:List AV}:ccK P L hp n args g caps=Af P g hp n (args++caps) L:=nd rfl
theorem Sf (m:Nat):DP m []=True:=by simp [DP]
theorem Oz (m:Nat) (e:List AV) (l:List (List AV)):DP m (e::l)=((e.length=m∧EU e=true)∧DP m l):=by simp [DP]
end
attribute [go_sem] nlZ Aco ZU Aap Ac2 Ae9 Aa4 Aat Ab6 Aes ZS Afm Afn Aed Aaa ZN Zm Z7 Yb Y0 Sf Oz
def PR (P:Program) (dp:List Nat) (r:List CO) (K:St→Prop) (s:St):Prop:=AW P r ⟨EN.drop dp s.env,s.hp,s.n⟩ K
def gC (env:EN) (d:Option Nat) (K:St→Prop) (hp:CH) (n:Nat) (a:AV):Prop:=K ⟨EN.set env d a,hp,n⟩
def gK (P:Program) (d:Option Nat) (op:As) (g:Option (Nat × Bool)) (st:St) (K:St→Prop) (G:Bool):Prop:=Pz P ⟨d,op,g,[],false⟩ st G K
def WB (P:Program) (o:CO) (d:Option Nat) (st:St) (K:St→Prop) (G:Bool):Prop:=GD G (AW P [o] st K) (K ⟨EN.set st.env d (.gd false .un),st.hp,st.n⟩)
section
variable {P:Program} {d:Option Nat} {dp:List Nat} {r:List CO} {env:EN} {hp:CH} {n:Nat} {K:St→Prop}
theorem TC:PR P dp r K ⟨env,hp,n⟩=AW P r ⟨EN.drop dp env,hp,n⟩ K:=nd rfl
theorem Ack {a:AV}:gC env d K hp n a=K ⟨EN.set env d a,hp,n⟩:=nd rfl
theorem Afd {o:CO}:WB P o d ⟨env,hp,n⟩ K true=AW P [o] ⟨env,hp,n⟩ K:=by simp [WB,GD]
theorem Ad3 {o:CO}:WB P o d ⟨env,hp,n⟩ K false=K ⟨EN.set env d (.gd false .un),hp,n⟩:=by simp [WB,GD]
theorem HD {o:CO} {G:Bool} (h1:G=true→AW P [o] ⟨env,hp,n⟩ K) (h2:G=false→K ⟨EN.set env d (.gd false .un),hp,n⟩):WB P o d ⟨env,hp,n⟩ K G:=⟨h1,h2⟩
theorem Ad8 {st:St}:AW P [] st K=K st:=nd rfl
theorem Aih {x:AX} {m:Nat} {ag:Bool}:AW P (⟨d,.ld x m ag,none,dp,false⟩::r) ⟨env,hp,n⟩ K=(Em true (x.ev env)∧Y2 hp m ag (kC P d dp r env K hp n) (AE env x)):=by
 show (_∧_)=_
 congr 1
 exact Uw (f:=AE env)
theorem Aji {z:List AV}:AW P (⟨d,.al z,none,dp,false⟩::r) ⟨env,hp,n⟩ K=AW P r ⟨EN.drop dp (EN.set env d (.bx n 0)),(n,.bx z)::hp,n+1⟩ K:=by
 show (True∧_)=_
 rw [true_and]
 show AW P r ⟨_,_,max n (n+1)⟩ K=_
 rw [Nat.max_eq_right (Nat.le_succ n)]
theorem Aid {x:AX}:AW P (⟨d,.bo x,none,dp,false⟩::r) ⟨env,hp,n⟩ K=(Em true (x.ev env)∧B4 (AE env x).cl (boK (kC P d dp r env K) hp n)):=by
 show (_∧_)=(_∧B4 (AR (x.ev env)).cl _)
 congr 1
 cases h:(AR (x.ev env)).cl with
 | none=>simp only [CT,h];rfl
 | some cs =>
  simp only [h]
  show AW P r ⟨_,_,max n (n+1)⟩ K=_
  rw [Nat.max_eq_right (Nat.le_succ n)]
  rfl
theorem Agl {x y:AX} {m:Nat}:AW P (⟨d,.st x y m,none,dp,false⟩::r) ⟨env,hp,n⟩ K=((Em true (x.ev env)∧Em true (y.ev env))∧B4 (AE env y).cl (stB (kC P d dp r env K) hp n m (AE env x))):=by
 show (_∧_)=(_∧B4 (AR (y.ev env)).cl _)
 congr 1
 cases h:(AR (y.ev env)).cl with
 | none=>simp only [CT,h];rfl
 | some cs =>
  simp only [h]
  show (_∧_∧XS hp (AR (x.ev env)) cs _)=(_∧_∧Z8 _ hp n cs (AR (x.ev env)))
  congr 2
  unfold XS
  cases AR (x.ev env) with
  | bx k off=>simp only [Z8];cases gc hp k<;>rfl
  | ep α z i off =>
   cases α with
   | rw k g len=>simp only [Z8];cases gc hp k<;>rfl
   | _=>rfl
  | _=>rfl
theorem Ah6:AW P (⟨d,.mk,none,dp,false⟩::r) ⟨env,hp,n⟩ K=(True∧kC P d dp r env K ((n,.mp [])::hp) (n+1) (.mp n)):=by
 show (_∧_)=(_∧_)
 refine congrArg _ ?_
 show AW P r ⟨_,_,max n (n+1)⟩ K=_
 rw [Nat.max_eq_right (Nat.le_succ n)]
 rfl
theorem Ajc {x s y:AX}:AW P (⟨d,.mu x s y,none,dp,false⟩::r) ⟨env,hp,n⟩ K=((Em true (x.ev env)∧Em true (s.ev env)∧Em true (y.ev env))∧muB (kC P d dp r env K) hp n (AE env y) (AE env x) (AE env s)):=by
 show (_∧_)=(_∧_)
 refine congrArg _ ?_
 show muK hp (AR (x.ev env)) (AR (s.ev env)) (AR (y.ev env)) _=muB _ hp n (AR (y.ev env)) (AR (x.ev env)) (AR (s.ev env))
 cases AR (x.ev env) with
 | mp k=>cases AR (s.ev env) with
  | s b=>simp only [muK,muB];cases gc hp k<;>rfl
  | _=>rfl
 | _=>rfl
theorem Agc {neg:Bool} {x:AX}:AW P (⟨d,.nl neg x,none,dp,false⟩::r) ⟨env,hp,n⟩ K=(Em true (x.ev env)∧nlB (kC P d dp r env K) hp n neg (AE env x)):=by
 show (_∧_)=(_∧_)
 refine congrArg _ ?_
 show nlK hp (AR (x.ev env)) neg _=nlB _ hp n neg (AR (x.ev env))
 cases AR (x.ev env)<;>rfl
theorem Ai2 {n0:Nat} {ps:List AX}:AW P (⟨d,.bs false n0 ps,none,dp,false⟩::r) ⟨env,hp,n⟩ K=(EV env true ps∧B4 (Cp (shutP hp (ps.map (AE env))) n0 (ps.map (AE env))) (bsK (kC P d dp r env K) (shutP hp (ps.map (AE env))) n n0)):=by
 show (_∧_)=(_∧_)
 congr 1
 show (match Cp (shutP hp (ps.map (AE env))) n0 (ps.map (AE env)) with | some l=>_ | none=>False)=_
 cases h:Cp (shutP hp (ps.map (AE env))) n0 (ps.map (AE env)) with
 | none=>rfl
 | some l =>
  show AW P r ⟨_,_,max n (n+1)⟩ K=_
  rw [Nat.max_eq_right (Nat.le_succ n)]
  rfl
theorem Adf {n0:Nat} {ps:List AX}:AW P (⟨d,.bs true n0 ps,none,dp,false⟩::r) ⟨env,hp,n⟩ K=(EV env true ps∧B4 (Cp (shutP hp (ps.map (AE env))) n0 (ps.map (AE env))) (bsT (kC P d dp r env K) (shutP hp (ps.map (AE env))) n)):=by
 show (_∧_)=(_∧_)
 congr 1
 show (match Cp (shutP hp (ps.map (AE env))) n0 (ps.map (AE env)) with | some l=>_ | none=>False)=_
 cases h:Cp (shutP hp (ps.map (AE env))) n0 (ps.map (AE env))<;>rfl
theorem Ajp {x y:AX} {m b:Nat}:AW P (⟨d,.ap x y m b,none,dp,false⟩::r) ⟨env,hp,n⟩ K=((Em true (x.ev env)∧Em true (y.ev env))∧B4 (sl hp (AE env y)) (apA (kC P d dp r env K) hp n m b (AE env x))):=by
 show (_∧_)=(_∧B4 (sl hp (AR (y.ev env))) _)
 congr 1
 cases h:sl hp (AR (y.ev env)) with
 | none=>simp only [CT,h];rfl
 | some l2 =>
  simp only [h]
  show (_∧_∧_∧_)=(_∧_∧_∧B4 (GB hp n n m (AR (x.ev env)) l2) _)
  congr 3
  cases h2:GB hp n n m (AR (x.ev env)) l2 with
  | none=>rfl
  | some a=>rfl
attribute [go_sem] frz W3 List.map_cons List.map_nil
/-! maps that are gone through -/
def mgC (L:CH→Nat→AV→Prop) (n:Nat) (α:AV) (hp:CH):Prop:=L hp n α
def meC (L:CH→Nat→AV→Prop) (hp:CH) (n:Nat) (α:AV):Prop:=L hp n α
def mdC (L:CH→Nat→AV→Prop) (n:Nat) (hp:CH):Prop:=L hp n .un
def mgX (k:Nat) (hp:CH) (K:AV→CH→Prop):Ap→Prop
 | .mp l=>K (.mi k) ((k,.mr l [])::hp)
 | _=>False
def mxP (k:Nat) (hp:CH) (K:AV→CH→Prop) (l:List (ByteArray × AV)) (sn:List ByteArray):Prop :=
 ((∀p∈l,p.1∈sn)→K (.tp [.b false]) hp)∧∀(j:Nat) b α,l[j]?=some (b,α)→b ∉ sn→K (.tp [.b true,.s b,α]) ((k,.mr l (sn++[b]))::hp)
def mxX (k:Nat) (hp:CH) (K:AV→CH→Prop):Ap→Prop
 | .mr l sn=>mxP k hp K l sn
 | _=>False
def meP (K:AV→Prop) (l:List (ByteArray × AV)) (sn:List ByteArray):Prop:=∃b,sn.getLast?=some b∧∃α,By b l=some α∧K (.tp [.s b,α])
def meX (K:AV→Prop):Ap→Prop
 | .mr l sn=>meP K l sn
 | _=>False
def mdX (k:Nat) (b:ByteArray) (hp:CH) (K:CH→Prop):Ap→Prop
 | .mp l=>K ((k,.mp (C3 b l))::hp)
 | .mr l sn=>K ((k,.mr (C3 b l) sn)::hp)
 | _=>False
theorem Q4 {k:Nat} {hp:CH} {K:AV→CH→Prop} {l:List (ByteArray × AV)} {sn:List ByteArray} (h1:(∀p∈l,p.1∈sn)→K (.tp [.b false]) hp)
  (h2:∀(j:Nat) b α,l[j]?=some (b,α)→b ∉ sn→K (.tp [.b true,.s b,α]) ((k,.mr l (sn++[b]))::hp)):mxP k hp K l sn:=⟨h1,h2⟩
theorem Qa {K:AV→Prop} {l:List (ByteArray × AV)} {sn:List ByteArray} {b:ByteArray} {α:AV} (h1:sn.getLast?=some b) (h2:By b l=some α) (h3:K (.tp [.s b,α])):meP K l sn:=⟨b,h1,α,h2,h3⟩
theorem Z5 {L:CH→Nat→AV→Prop} {n:Nat} {α:AV} {hp:CH}:mgC L n α hp=L hp n α:=nd rfl
theorem Aak {L:CH→Nat→AV→Prop} {n:Nat} {α:AV} {hp:CH}:meC L hp n α=L hp n α:=nd rfl
theorem YB {L:CH→Nat→AV→Prop} {n:Nat} {hp:CH}:mdC L n hp=L hp n .un:=nd rfl
theorem Y8 {k:Nat} {hp:CH} {K:AV→CH→Prop}:mgK hp (.mp k) K=mgX k hp K (gc hp k):=nd (by unfold mgK mgX;dsimp only;generalize gc hp k=c;cases c<;>rfl)
theorem Aa2 {k:Nat} {hp:CH} {K:AV→CH→Prop}:mxK hp (.mi k) K=mxX k hp K (gc hp k):=nd (by unfold mxK mxX;dsimp only;generalize gc hp k=c;cases c<;>rfl)
theorem YN {k:Nat} {hp:CH} {K:AV→Prop}:meK hp (.mi k) K=meX K (gc hp k):=nd (by unfold meK meX;dsimp only;generalize gc hp k=c;cases c<;>rfl)
theorem YD {k:Nat} {b:ByteArray} {hp:CH} {K:CH→Prop}:mdK hp (.mp k) (.s b) K=mdX k b hp K (gc hp k):=nd (by unfold mdK mdX;dsimp only;generalize gc hp k=c;cases c<;>rfl)
theorem YE {k:Nat} {hp:CH} {K:AV→CH→Prop} {l:List (ByteArray × AV)}:mgX k hp K (.mp l)=K (.mi k) ((k,.mr l [])::hp):=nd rfl
theorem ZY {k:Nat} {hp:CH} {K:AV→CH→Prop} {l:List (ByteArray × AV)} {sn:List ByteArray}:mxX k hp K (.mr l sn)=mxP k hp K l sn:=nd rfl
theorem Aab {K:AV→Prop} {l:List (ByteArray × AV)} {sn:List ByteArray}:meX K (.mr l sn)=meP K l sn:=nd rfl
theorem ZQ {k:Nat} {b:ByteArray} {hp:CH} {K:CH→Prop} {l:List (ByteArray × AV)} {sn:List ByteArray}:mdX k b hp K (.mr l sn)=K ((k,.mr (C3 b l) sn)::hp):=nd rfl
theorem Aby {x:AX}:AW P (⟨d,.mpg x,none,dp,false⟩::r) ⟨env,hp,n⟩ K=(Em true (x.ev env)∧mgK hp (AE env x) (mgC (kC P d dp r env K) n)):=nd rfl
theorem Acw {x:AX}:AW P (⟨d,.mpn x,none,dp,false⟩::r) ⟨env,hp,n⟩ K=(Em true (x.ev env)∧mxK hp (AE env x) (mgC (kC P d dp r env K) n)):=nd rfl
theorem Abq {x:AX}:AW P (⟨d,.mpe x,none,dp,false⟩::r) ⟨env,hp,n⟩ K=(Em true (x.ev env)∧meK hp (AE env x) (meC (kC P d dp r env K) hp n)):=nd rfl
theorem Ael {x s:AX}:AW P (⟨d,.mpd x s,none,dp,false⟩::r) ⟨env,hp,n⟩ K=((Em true (x.ev env)∧Em true (s.ev env))∧mdK hp (AE env x) (AE env s) (mdC (kC P d dp r env K) n)):=nd rfl
attribute [go_sem] Z5 Aak YB Y8 Aa2 YN YD YE ZY Aab ZQ Aby Acw Abq Ael
theorem Ai6 {f:Nat} {xs:List AX}:AW P (⟨d,.cl f xs,none,dp,false⟩::r) ⟨env,hp,n⟩ K=(EV env true xs∧Af P f hp n (xs.map (AE env)) (kC P d dp r env K)):=nd rfl
theorem Aik {f:AX} {xs:List AX}:AW P (⟨d,.cc f xs,none,dp,false⟩::r) ⟨env,hp,n⟩ K=((Em true (f.ev env)∧EV env true xs)∧avF (AE env f) (ccK P (kC P d dp r env K) hp n (xs.map (AE env)))):=by
 show (_∧_)=(_∧avF (AR (f.ev env)) _)
 congr 1
 cases h:AR (f.ev env)<;>first | (simp only [CT,h,avF];done) | (simp only [CT,h,avF];rfl)
theorem q_g {op:As} {t:Nat} {want:Bool}:AW P (⟨d,op,some (t,want),dp,false⟩::r) ⟨env,hp,n⟩ K=gdK (ge env t) want (gK P d op (some (t,want)) ⟨env,hp,n⟩ (PR P dp r K)):=by
 have key:∀G,Pz P ⟨d,op,some (t,want),dp,false⟩ ⟨env,hp,n⟩ G (fun st'=>AW P r ⟨EN.drop dp st'.env,st'.hp,st'.n⟩ K)=gK P d op (some (t,want)) ⟨env,hp,n⟩ (PR P dp r K) G:=fun G=>rfl
 suffices key0:Ig P ⟨d,op,some (t,want),dp,false⟩ ⟨env,hp,n⟩ (fun st'=>AW P r ⟨EN.drop dp st'.env,st'.hp,st'.n⟩ K)=gdK (ge env t) want (gK P d op (some (t,want)) ⟨env,hp,n⟩ (PR P dp r K)) from key0
 unfold Ig
 simp only
 cases h:ge env t with
 | gd c x=>cases x<;>first | rfl | exact key _ | (cases c<;>first | rfl | exact key _)
 | _=>first | rfl | exact key _
def As.isL:As→Bool
 | .ld _ _ _=>true
 | _=>false
theorem XQ {op:As} (h1:op.isV=true) (h2:op.isL=false) (L:AV→Prop):Hr hp (AE env) op L=(As.pre hp (AE env) op∧B4 (As.val hp (AE env) op) L):=by
 cases op<;>first | (simp [As.isL] at h2;done) | rfl | (unfold Hr;simp only;first | done | (congr 1;first | done | (cases As.val hp (AE env) _<;>rfl)))
theorem Oh {op:As} (h1:op.isV=true) (h2:op.isL=false):AW P (⟨d,op,none,dp,false⟩::r) ⟨env,hp,n⟩ K=(As.obsB env true op∧As.pre hp (AE env) op∧B4 (As.val hp (AE env) op) (kC P d dp r env K hp n)):=by
 cases op<;>first | (simp [As.isV] at h1;done) | exact congrArg (_∧·) (XQ h1 h2 _)
def dV (K:AV→CH→List Nat→Bool→Prop) (R:List Nat) (α:AV):Prop:=K α [] R false
theorem Afh {K:AV→CH→List Nat→Bool→Prop} {R:List Nat} {α:AV}:dV K R α=K α [] R false:=nd rfl
theorem Td {n0 N1 i:Nat} {un bf:List Nat} {lg:Bool} {K:AV→CH→List Nat→Bool→Prop} {op:As} (h1:op.isV=true) (h2:op.isL=false):CJ P n0 N1 i ⟨⟨d,op,none,dp,false⟩,un,lg,bf⟩ env hp K=(As.obsB env true op∧As.pre hp (AE env) op∧B4 (As.val hp (AE env) op) (dV K (As.rd (AE env) op))):=by
 cases op<;>first | (simp [As.isV] at h1;done) | exact congrArg (_∧·) (XQ h1 h2 (dV K (As.rd (AE env) _)))
end
attribute [go_sem] TC Ack Afd Ad3 Afh Ad8 Aih Aji Aid Agl Agc Ah6 Ajc Ai2 Adf Ajp Ai6 Aik q_g
theorem Ail {P:Program} {d:Option Nat} {dp:List Nat} {r:List CO} {env:EN} {hp:CH} {n:Nat} {K:St→Prop} {x}:AW P (⟨d,.mv x,none,dp,false⟩::r) ⟨env,hp,n⟩ K=(As.obsB env true (.mv x)∧As.pre hp (AE env) (.mv x)∧B4 (As.val hp (AE env) (.mv x)) (kC P d dp r env K hp n)):=Oh rfl rfl
theorem Ahg {P:Program} {n0 N1 i:Nat} {d:Option Nat} {dp un bf:List Nat} {lg:Bool} {env:EN} {hp:CH} {K:AV→CH→List Nat→Bool→Prop} {x}:CJ P n0 N1 i ⟨⟨d,.mv x,none,dp,false⟩,un,lg,bf⟩ env hp K=(As.obsB env true (.mv x)∧As.pre hp (AE env) (.mv x)∧B4 (As.val hp (AE env) (.mv x)) (dV K (As.rd (AE env) (.mv x)))):=Td rfl rfl
attribute [go_sem] Ail Ahg
theorem Ahf {P:Program} {d:Option Nat} {dp:List Nat} {r:List CO} {env:EN} {hp:CH} {n:Nat} {K:St→Prop} {c} {a} {b}:AW P (⟨d,.pk c a b,none,dp,false⟩::r) ⟨env,hp,n⟩ K=(As.obsB env true (.pk c a b)∧As.pre hp (AE env) (.pk c a b)∧B4 (As.val hp (AE env) (.pk c a b)) (kC P d dp r env K hp n)):=Oh rfl rfl
theorem Agm {P:Program} {n0 N1 i:Nat} {d:Option Nat} {dp un bf:List Nat} {lg:Bool} {env:EN} {hp:CH} {K:AV→CH→List Nat→Bool→Prop} {c} {a} {b}:CJ P n0 N1 i ⟨⟨d,.pk c a b,none,dp,false⟩,un,lg,bf⟩ env hp K=(As.obsB env true (.pk c a b)∧As.pre hp (AE env) (.pk c a b)∧B4 (As.val hp (AE env) (.pk c a b)) (dV K (As.rd (AE env) (.pk c a b)))):=Td rfl rfl
attribute [go_sem] Ahf Agm
theorem Ahn {P:Program} {d:Option Nat} {dp:List Nat} {r:List CO} {env:EN} {hp:CH} {n:Nat} {K:St→Prop} {z} {ps}:AW P (⟨d,.bd z ps,none,dp,false⟩::r) ⟨env,hp,n⟩ K=(As.obsB env true (.bd z ps)∧As.pre hp (AE env) (.bd z ps)∧B4 (As.val hp (AE env) (.bd z ps)) (kC P d dp r env K hp n)):=Oh rfl rfl
theorem Ags {P:Program} {n0 N1 i:Nat} {d:Option Nat} {dp un bf:List Nat} {lg:Bool} {env:EN} {hp:CH} {K:AV→CH→List Nat→Bool→Prop} {z} {ps}:CJ P n0 N1 i ⟨⟨d,.bd z ps,none,dp,false⟩,un,lg,bf⟩ env hp K=(As.obsB env true (.bd z ps)∧As.pre hp (AE env) (.bd z ps)∧B4 (As.val hp (AE env) (.bd z ps)) (dV K (As.rd (AE env) (.bd z ps)))):=Td rfl rfl
attribute [go_sem] Ahn Ags
theorem Ab5 {P:Program} {d:Option Nat} {dp:List Nat} {r:List CO} {env:EN} {hp:CH} {n:Nat} {K:St→Prop} {op} {c} {x} {y}:AW P (⟨d,.bin op c x y,none,dp,false⟩::r) ⟨env,hp,n⟩ K=(As.obsB env true (.bin op c x y)∧As.pre hp (AE env) (.bin op c x y)∧B4 (As.val hp (AE env) (.bin op c x y)) (kC P d dp r env K hp n)):=Oh rfl rfl
theorem Abz {P:Program} {n0 N1 i:Nat} {d:Option Nat} {dp un bf:List Nat} {lg:Bool} {env:EN} {hp:CH} {K:AV→CH→List Nat→Bool→Prop} {op} {c} {x} {y}:CJ P n0 N1 i ⟨⟨d,.bin op c x y,none,dp,false⟩,un,lg,bf⟩ env hp K=(As.obsB env true (.bin op c x y)∧As.pre hp (AE env) (.bin op c x y)∧B4 (As.val hp (AE env) (.bin op c x y)) (dV K (As.rd (AE env) (.bin op c x y)))):=Td rfl rfl
attribute [go_sem] Ab5 Abz
theorem Ag9 {P:Program} {d:Option Nat} {dp:List Nat} {r:List CO} {env:EN} {hp:CH} {n:Nat} {K:St→Prop} {op} {x}:AW P (⟨d,.un op x,none,dp,false⟩::r) ⟨env,hp,n⟩ K=(As.obsB env true (.un op x)∧As.pre hp (AE env) (.un op x)∧B4 (As.val hp (AE env) (.un op x)) (kC P d dp r env K hp n)):=Oh rfl rfl
theorem Ahu {P:Program} {n0 N1 i:Nat} {d:Option Nat} {dp un bf:List Nat} {lg:Bool} {env:EN} {hp:CH} {K:AV→CH→List Nat→Bool→Prop} {op} {x}:CJ P n0 N1 i ⟨⟨d,.un op x,none,dp,false⟩,un,lg,bf⟩ env hp K=(As.obsB env true (.un op x)∧As.pre hp (AE env) (.un op x)∧B4 (As.val hp (AE env) (.un op x)) (dV K (As.rd (AE env) (.un op x)))):=Td rfl rfl
attribute [go_sem] Ag9 Ahu
theorem Ah1 {P:Program} {d:Option Nat} {dp:List Nat} {r:List CO} {env:EN} {hp:CH} {n:Nat} {K:St→Prop} {k} {x}:AW P (⟨d,.ci k x,none,dp,false⟩::r) ⟨env,hp,n⟩ K=(As.obsB env true (.ci k x)∧As.pre hp (AE env) (.ci k x)∧B4 (As.val hp (AE env) (.ci k x)) (kC P d dp r env K hp n)):=Oh rfl rfl
attribute [go_sem] Ah1
theorem Ahd {P:Program} {d:Option Nat} {dp:List Nat} {r:List CO} {env:EN} {hp:CH} {n:Nat} {K:St→Prop} {x}:AW P (⟨d,.cb x,none,dp,false⟩::r) ⟨env,hp,n⟩ K=(As.obsB env true (.cb x)∧As.pre hp (AE env) (.cb x)∧B4 (As.val hp (AE env) (.cb x)) (kC P d dp r env K hp n)):=Oh rfl rfl
attribute [go_sem] Ahd
theorem Aha {P:Program} {d:Option Nat} {dp:List Nat} {r:List CO} {env:EN} {hp:CH} {n:Nat} {K:St→Prop} {x} {off}:AW P (⟨d,.fa x off,none,dp,false⟩::r) ⟨env,hp,n⟩ K=(As.obsB env true (.fa x off)∧As.pre hp (AE env) (.fa x off)∧B4 (As.val hp (AE env) (.fa x off)) (kC P d dp r env K hp n)):=Oh rfl rfl
theorem Ajw {P:Program} {n0 N1 i:Nat} {d:Option Nat} {dp un bf:List Nat} {lg:Bool} {env:EN} {hp:CH} {K:AV→CH→List Nat→Bool→Prop} {x} {off}:CJ P n0 N1 i ⟨⟨d,.fa x off,none,dp,false⟩,un,lg,bf⟩ env hp K=(As.obsB env true (.fa x off)∧As.pre hp (AE env) (.fa x off)∧B4 (As.val hp (AE env) (.fa x off)) (dV K (As.rd (AE env) (.fa x off)))):=Td rfl rfl
attribute [go_sem] Aha Ajw
theorem Ag3 {P:Program} {d:Option Nat} {dp:List Nat} {r:List CO} {env:EN} {hp:CH} {n:Nat} {K:St→Prop} {x} {j} {z}:AW P (⟨d,.ia x j z,none,dp,false⟩::r) ⟨env,hp,n⟩ K=(As.obsB env true (.ia x j z)∧As.pre hp (AE env) (.ia x j z)∧B4 (As.val hp (AE env) (.ia x j z)) (kC P d dp r env K hp n)):=Oh rfl rfl
theorem Aia {P:Program} {n0 N1 i:Nat} {d:Option Nat} {dp un bf:List Nat} {lg:Bool} {env:EN} {hp:CH} {K:AV→CH→List Nat→Bool→Prop} {x} {j} {z}:CJ P n0 N1 i ⟨⟨d,.ia x j z,none,dp,false⟩,un,lg,bf⟩ env hp K=(As.obsB env true (.ia x j z)∧As.pre hp (AE env) (.ia x j z)∧B4 (As.val hp (AE env) (.ia x j z)) (dV K (As.rd (AE env) (.ia x j z)))):=Td rfl rfl
attribute [go_sem] Ag3 Aia
theorem Aij {P:Program} {d:Option Nat} {dp:List Nat} {r:List CO} {env:EN} {hp:CH} {n:Nat} {K:St→Prop} {x} {j}:AW P (⟨d,.ex x j,none,dp,false⟩::r) ⟨env,hp,n⟩ K=(As.obsB env true (.ex x j)∧As.pre hp (AE env) (.ex x j)∧B4 (As.val hp (AE env) (.ex x j)) (kC P d dp r env K hp n)):=Oh rfl rfl
theorem Ai4 {P:Program} {n0 N1 i:Nat} {d:Option Nat} {dp un bf:List Nat} {lg:Bool} {env:EN} {hp:CH} {K:AV→CH→List Nat→Bool→Prop} {x} {j}:CJ P n0 N1 i ⟨⟨d,.ex x j,none,dp,false⟩,un,lg,bf⟩ env hp K=(As.obsB env true (.ex x j)∧As.pre hp (AE env) (.ex x j)∧B4 (As.val hp (AE env) (.ex x j)) (dV K (As.rd (AE env) (.ex x j)))):=Td rfl rfl
attribute [go_sem] Aij Ai4
theorem Agw {P:Program} {d:Option Nat} {dp:List Nat} {r:List CO} {env:EN} {hp:CH} {n:Nat} {K:St→Prop} {str} {x}:AW P (⟨d,.ln str x,none,dp,false⟩::r) ⟨env,hp,n⟩ K=(As.obsB env true (.ln str x)∧As.pre hp (AE env) (.ln str x)∧B4 (As.val hp (AE env) (.ln str x)) (kC P d dp r env K hp n)):=Oh rfl rfl
theorem Aip {P:Program} {n0 N1 i:Nat} {d:Option Nat} {dp un bf:List Nat} {lg:Bool} {env:EN} {hp:CH} {K:AV→CH→List Nat→Bool→Prop} {str} {x}:CJ P n0 N1 i ⟨⟨d,.ln str x,none,dp,false⟩,un,lg,bf⟩ env hp K=(As.obsB env true (.ln str x)∧As.pre hp (AE env) (.ln str x)∧B4 (As.val hp (AE env) (.ln str x)) (dV K (As.rd (AE env) (.ln str x)))):=Td rfl rfl
attribute [go_sem] Agw Aip
theorem Ah9 {P:Program} {d:Option Nat} {dp:List Nat} {r:List CO} {env:EN} {hp:CH} {n:Nat} {K:St→Prop} {x} {lo} {hi} {z}:AW P (⟨d,.sc x lo hi z,none,dp,false⟩::r) ⟨env,hp,n⟩ K=(As.obsB env true (.sc x lo hi z)∧As.pre hp (AE env) (.sc x lo hi z)∧B4 (As.val hp (AE env) (.sc x lo hi z)) (kC P d dp r env K hp n)):=Oh rfl rfl
theorem Ag5 {P:Program} {n0 N1 i:Nat} {d:Option Nat} {dp un bf:List Nat} {lg:Bool} {env:EN} {hp:CH} {K:AV→CH→List Nat→Bool→Prop} {x} {lo} {hi} {z}:CJ P n0 N1 i ⟨⟨d,.sc x lo hi z,none,dp,false⟩,un,lg,bf⟩ env hp K=(As.obsB env true (.sc x lo hi z)∧As.pre hp (AE env) (.sc x lo hi z)∧B4 (As.val hp (AE env) (.sc x lo hi z)) (dV K (As.rd (AE env) (.sc x lo hi z)))):=Td rfl rfl
attribute [go_sem] Ah9 Ag5
theorem Ahy {P:Program} {d:Option Nat} {dp:List Nat} {r:List CO} {env:EN} {hp:CH} {n:Nat} {K:St→Prop} {x} {j}:AW P (⟨d,.ix x j,none,dp,false⟩::r) ⟨env,hp,n⟩ K=(As.obsB env true (.ix x j)∧As.pre hp (AE env) (.ix x j)∧B4 (As.val hp (AE env) (.ix x j)) (kC P d dp r env K hp n)):=Oh rfl rfl
attribute [go_sem] Ahy
theorem Ah8 {P:Program} {d:Option Nat} {dp:List Nat} {r:List CO} {env:EN} {hp:CH} {n:Nat} {K:St→Prop} {mx} {x} {y}:AW P (⟨d,.mm mx x y,none,dp,false⟩::r) ⟨env,hp,n⟩ K=(As.obsB env true (.mm mx x y)∧As.pre hp (AE env) (.mm mx x y)∧B4 (As.val hp (AE env) (.mm mx x y)) (kC P d dp r env K hp n)):=Oh rfl rfl
attribute [go_sem] Ah8
theorem Ajm {P:Program} {d:Option Nat} {dp:List Nat} {r:List CO} {env:EN} {hp:CH} {n:Nat} {K:St→Prop} {x}:AW P (⟨d,.nc x,none,dp,false⟩::r) ⟨env,hp,n⟩ K=(As.obsB env true (.nc x)∧As.pre hp (AE env) (.nc x)∧B4 (As.val hp (AE env) (.nc x)) (kC P d dp r env K hp n)):=Oh rfl rfl
theorem Ag0 {P:Program} {n0 N1 i:Nat} {d:Option Nat} {dp un bf:List Nat} {lg:Bool} {env:EN} {hp:CH} {K:AV→CH→List Nat→Bool→Prop} {x}:CJ P n0 N1 i ⟨⟨d,.nc x,none,dp,false⟩,un,lg,bf⟩ env hp K=(As.obsB env true (.nc x)∧As.pre hp (AE env) (.nc x)∧B4 (As.val hp (AE env) (.nc x)) (dV K (As.rd (AE env) (.nc x)))):=Td rfl rfl
attribute [go_sem] Ajm Ag0
theorem Ahb {P:Program} {d:Option Nat} {dp:List Nat} {r:List CO} {env:EN} {hp:CH} {n:Nat} {K:St→Prop} {x} {s} {ok} {z}:AW P (⟨d,.lk x s ok z,none,dp,false⟩::r) ⟨env,hp,n⟩ K=(As.obsB env true (.lk x s ok z)∧As.pre hp (AE env) (.lk x s ok z)∧B4 (As.val hp (AE env) (.lk x s ok z)) (kC P d dp r env K hp n)):=Oh rfl rfl
attribute [go_sem] Ahb
/-! ### Under a guard -/
section
variable {P:Program} {d:Option Nat} {env:EN} {hp:CH} {n:Nat} {K:St→Prop} {g:Option (Nat × Bool)} {G:Bool}
theorem EC {op:As} (h:Kc op env=true):gK P d op g ⟨env,hp,n⟩ K G=(As.obsB env G op∧imp G (As.pre hp (AE env) op)∧imp G ((As.val hp (AE env) op).isSome=true)∧K ⟨EN.set env d (.gd G ((As.val hp (AE env) op).getD .un)),hp,n⟩):=by
 unfold gK Pz
 rw [if_pos h]
 rfl
theorem Ai1 {f:Nat} {xs:List AX}:gK P d (.cl f xs) g ⟨env,hp,n⟩ K G=(EV env G xs∧AA P f hp n (xs.map (AE env)) G (gC env d K)):=nd rfl
theorem Aej {op:As} (h:Kc op env=false) (h2:op.isC=false):gK P d op g ⟨env,hp,n⟩ K G=WB P ⟨d,op,none,[],false⟩ d ⟨env,hp,n⟩ K G:=by
 unfold gK Pz
 rw [if_neg (by simpa using h)]
 cases op<;>first | rfl | (simp [As.isC] at h2)
def glK (P:Program) (d:Option Nat) (x:AX) (m:Nat) (ag:Bool) (env:EN) (hp:CH) (n:Nat) (K:St→Prop) (G:Bool):AV→Prop
 | .ep _ _ _ _=>WB P ⟨d,.ld x m ag,none,[],false⟩ d ⟨env,hp,n⟩ K G
 | α=>Em G (x.ev env)∧imp G ((HR hp m α).isSome=true)∧K ⟨EN.set env d (.gd G (((HR hp m α).map (Rc ag)).getD .un)),hp,n⟩
theorem XL {x:AX} {m:Nat} {ag:Bool} {α:AV} {z i off:Nat}:glK P d x m ag env hp n K G (.ep α z i off)=WB P ⟨d,.ld x m ag,none,[],false⟩ d ⟨env,hp,n⟩ K G:=nd rfl
theorem Adu {x:AX} {m:Nat} {ag:Bool} {k off:Nat}:glK P d x m ag env hp n K G (.bx k off)=(Em G (x.ev env)∧imp G ((HR hp m (.bx k off)).isSome=true)∧K ⟨EN.set env d (.gd G (((HR hp m (.bx k off)).map (Rc ag)).getD .un)),hp,n⟩):=nd rfl
theorem Yr (ag:Bool):(fun cs:List AV=>if ag then AV.ag cs else cs.getD 0 .un)=Rc ag:=by
 funext cs
 cases ag<;>rfl
theorem Ah0 {x:AX} {m:Nat} {ag:Bool}:gK P d (.ld x m ag) g ⟨env,hp,n⟩ K G=glK P d x m ag env hp n K G (AE env x):=by
 have hv:∀(h:Kc (.ld x m ag) env=true),gK P d (.ld x m ag) g ⟨env,hp,n⟩ K G=(Em G (x.ev env)∧imp G ((HR hp m (AE env x)).isSome=true)∧K ⟨EN.set env d (.gd G (((HR hp m (AE env x)).map (Rc ag)).getD .un)),hp,n⟩):=by
  intro h
  rw [EC h]
  simp only [As.obsB,As.pre,As.val,Yr,Option.isSome_map,imp,implies_true,true_and]
 show _=glK P d x m ag env hp n K G (AR (x.ev env))
 cases h:AR (x.ev env) with
 | ep α z i off =>
  rw [XL]
  unfold gK Pz
  rw [if_neg (by simp [Kc,h])]
  rfl
 | _=>exact (hv (by simp only [Kc,h])).trans (by simp only [glK,AE,h])
end
attribute [go_sem] Ai1 XL Adu Ah0
/-! ### Regions that draw -/
def dK (P:Program) (n0 N1 i:Nat) (un:List Nat) (lg:Bool) (d:Option Nat) (r:List DO) (env:EN) (hp:CH) (l:List LE) (K:EN→CH→Prop) (α:AV) (ws:CH) (R:List Nat) (c:Bool):Prop :=
 X7 n0 i un R (keys ws) c l∧Kb P n0 N1 (i+1) r (EN.set env d α) (ws++hp) (Oj lg ⟨i,R,keys ws,c⟩ l) K
def dE (K:AV→CH→List Nat→Bool→Prop) (a:AV × CH × List Nat):Prop:=K a.1 a.2.1 a.2.2 false
def dCR (K:AV→CH→List Nat→Bool→Prop) (r:AV) (ws:CH):Prop:=K r ws [] true
def dCg (K:AV→CH→List Nat→Bool→Prop) (G:Bool) (r:AV):Prop:=K (.gd G r) [] [] true
def LZ (P:Program) (n0 N1 i:Nat) (op:As) (bf:List Nat) (env:EN) (hp:CH) (K:AV→CH→List Nat→Bool→Prop) (G:Bool):Prop:=dG P n0 N1 i ⟨⟨none,op,none,[],false⟩,[],false,bf⟩ env hp G K
section
variable {P:Program} {n0 N1 i:Nat} {d:Option Nat} {dp un bf:List Nat} {lg:Bool} {env:EN} {hp:CH} {K:AV→CH→List Nat→Bool→Prop}
theorem Ad1 {r:List DO} {l:List LE} {K:EN→CH→Prop} {α:AV} {ws:CH} {R:List Nat} {c:Bool}:dK P n0 N1 i un lg d r env hp l K α ws R c=(X7 n0 i un R (keys ws) c l∧Kb P n0 N1 (i+1) r (EN.set env d α) (ws++hp) (Oj lg ⟨i,R,keys ws,c⟩ l) K):=nd rfl
theorem Adt {α:AV} {ws:CH} {R:List Nat}:dE K (α,ws,R)=K α ws R false:=nd rfl
theorem Zy {r:AV} {ws:CH}:dCR K r ws=K r ws [] true:=nd rfl
theorem Aao {G:Bool} {r:AV}:dCg K G r=K (.gd G r) [] [] true:=nd rfl
theorem Afl {l:List LE} {K:EN→CH→Prop}:Kb P n0 N1 i [] env hp l K=K env hp:=nd rfl
theorem YQ {o:CO} {r:List DO} {l:List LE} {K:EN→CH→Prop}:Kb P n0 N1 i (⟨o,un,lg,bf⟩::r) env hp l K=CJ P n0 N1 i ⟨o,un,lg,bf⟩ env hp (dK P n0 N1 i un lg o.dst r env hp l K):=by
 show CJ P n0 N1 i _ env hp _=_
 congr 1
theorem Ah7 {x:AX} {m:Nat} {ag:Bool}:CJ P n0 N1 i ⟨⟨d,.ld x m ag,none,dp,false⟩,un,lg,bf⟩ env hp K=(Em true (x.ev env)∧Y2 hp m ag (dV K (AE env x).ids) (AE env x)):=by
 show (_∧_)=_
 congr 1
 unfold HY
 simp only [As.isV]
 exact Uw (f:=AE env)
theorem Nh {op:As} (h1:op.isV=false) (h2:op.isC=false):CJ P n0 N1 i ⟨⟨d,op,none,dp,false⟩,un,lg,bf⟩ env hp K=(As.obsB env true op∧op.effP hp (AE env)∧B4 (op.eff hp (AE env) (n0+i)) (dE K)):=by
 show (_∧_)=(_∧_)
 congr 1
 unfold HY
 generalize hE:As.eff hp (AE env) (n0+i) op=E
 have hE':As.eff hp (fun s=>AR (s.ev env)) (n0+i) op=E:=hE
 cases op<;>first | (simp [As.isC] at h2;done) | (simp [As.isV] at h1;done) | skip
 all_goals
  simp only [As.isV,Ek]
  rw [hE']
  cases E<;>rfl
theorem Aio {f:Nat} {xs:List AX}:CJ P n0 N1 i ⟨⟨d,.cl f xs,none,dp,false⟩,un,lg,bf⟩ env hp K=(EV env true xs∧A3 P f n0 bf hp N1 (xs.map (AE env)) (n0+i) (dCR K)):=nd rfl
theorem d_g {op:As} {t:Nat} {want:Bool}:CJ P n0 N1 i ⟨⟨d,op,some (t,want),dp,false⟩,un,lg,bf⟩ env hp K=gdK (ge env t) want (LZ P n0 N1 i op bf env hp K):=by
 have key:∀G,dG P n0 N1 i ⟨⟨d,op,some (t,want),dp,false⟩,un,lg,bf⟩ env hp G K=LZ P n0 N1 i op bf env hp K G:=fun G=>by
  unfold LZ
  cases op<;>rfl
 unfold CJ Ki
 simp only
 cases h:ge env t with
 | gd c x=>cases x<;>first | rfl | exact key _ | (cases c<;>first | rfl | exact key _)
 | _=>first | rfl | exact key _
theorem ET {op:As} {G:Bool} (h:op.isV=true):LZ P n0 N1 i op bf env hp K G=(As.obsB env G op∧imp G (As.pre hp (AE env) op)∧imp G ((As.val hp (AE env) op).isSome=true)∧K (.gd G ((As.val hp (AE env) op).getD .un)) [] (As.rd (AE env) op) false):=by
 unfold LZ dG
 cases op<;>first | (simp [As.isV] at h;done) | rfl
theorem Ac4 {f:Nat} {xs:List AX} {G:Bool}:LZ P n0 N1 i (.cl f xs) bf env hp K G=(EV env G xs∧AG P f n0 bf hp N1 (xs.map (AE env)) G (dCg K G)):=nd rfl
theorem Zo {op:As} {G:Bool} (h1:op.isV=false) (h2:op.isC=false):LZ P n0 N1 i op bf env hp K G=(As.obsB env G op∧((G=true∧(op.effP hp (AE env)∧B4 (op.eff hp (AE env) (n0+i)) (dE K)))∨(G=false∧K (.gd false .un) [] [] false))):=by
 unfold LZ dG
 generalize hE:As.eff hp (AE env) (n0+i) op=E
 have hE':As.eff hp (fun s=>AR (s.ev env)) (n0+i) op=E:=hE
 cases op<;>first | (simp [As.isC] at h2;done) | (simp [As.isV] at h1;done) | skip
 all_goals
  simp only [As.isV,Ek]
  rw [hE']
  cases E<;>rfl
end
attribute [go_sem] Ad1 Adt Zy Aao Afl YQ Oj Ah7 Aio d_g Ac4
theorem Ai8 {P:Program} {n0 N1 i:Nat} {bf:List Nat} {env:EN} {hp:CH} {K:AV→CH→List Nat→Bool→Prop} {G:Bool} {x:AX} {m:Nat} {ag:Bool}:LZ P n0 N1 i (.ld x m ag) bf env hp K G=(As.obsB env G (.ld x m ag)∧imp G (As.pre hp (AE env) (.ld x m ag))∧imp G ((As.val hp (AE env) (.ld x m ag)).isSome=true)∧K (.gd G ((As.val hp (AE env) (.ld x m ag)).getD .un)) [] (As.rd (AE env) (.ld x m ag)) false):=ET rfl
attribute [go_sem] Ai8
theorem Ai9 {P:Program} {d:Option Nat} {env:EN} {hp:CH} {n:Nat} {K:St→Prop} {g:Option (Nat × Bool)} {G:Bool} {x}:gK P d (.mv x) g ⟨env,hp,n⟩ K G=(As.obsB env G (.mv x)∧imp G (As.pre hp (AE env) (.mv x))∧imp G ((As.val hp (AE env) (.mv x)).isSome=true)∧K ⟨EN.set env d (.gd G ((As.val hp (AE env) (.mv x)).getD .un)),hp,n⟩):=EC rfl
theorem Ahx {P:Program} {n0 N1 i:Nat} {bf:List Nat} {env:EN} {hp:CH} {K:AV→CH→List Nat→Bool→Prop} {G:Bool} {x}:LZ P n0 N1 i (.mv x) bf env hp K G=(As.obsB env G (.mv x)∧imp G (As.pre hp (AE env) (.mv x))∧imp G ((As.val hp (AE env) (.mv x)).isSome=true)∧K (.gd G ((As.val hp (AE env) (.mv x)).getD .un)) [] (As.rd (AE env) (.mv x)) false):=ET rfl
attribute [go_sem] Ai9 Ahx
theorem Agk {P:Program} {d:Option Nat} {env:EN} {hp:CH} {n:Nat} {K:St→Prop} {g:Option (Nat × Bool)} {G:Bool} {c} {a} {b}:gK P d (.pk c a b) g ⟨env,hp,n⟩ K G=(As.obsB env G (.pk c a b)∧imp G (As.pre hp (AE env) (.pk c a b))∧imp G ((As.val hp (AE env) (.pk c a b)).isSome=true)∧K ⟨EN.set env d (.gd G ((As.val hp (AE env) (.pk c a b)).getD .un)),hp,n⟩):=EC rfl
attribute [go_sem] Agk
theorem Agt {P:Program} {d:Option Nat} {env:EN} {hp:CH} {n:Nat} {K:St→Prop} {g:Option (Nat × Bool)} {G:Bool} {z} {ps}:gK P d (.bd z ps) g ⟨env,hp,n⟩ K G=(As.obsB env G (.bd z ps)∧imp G (As.pre hp (AE env) (.bd z ps))∧imp G ((As.val hp (AE env) (.bd z ps)).isSome=true)∧K ⟨EN.set env d (.gd G ((As.val hp (AE env) (.bd z ps)).getD .un)),hp,n⟩):=EC rfl
attribute [go_sem] Agt
theorem Adm {P:Program} {d:Option Nat} {env:EN} {hp:CH} {n:Nat} {K:St→Prop} {g:Option (Nat × Bool)} {G:Bool} {op} {c} {x} {y}:gK P d (.bin op c x y) g ⟨env,hp,n⟩ K G=(As.obsB env G (.bin op c x y)∧imp G (As.pre hp (AE env) (.bin op c x y))∧imp G ((As.val hp (AE env) (.bin op c x y)).isSome=true)∧K ⟨EN.set env d (.gd G ((As.val hp (AE env) (.bin op c x y)).getD .un)),hp,n⟩):=EC rfl
theorem Abp {P:Program} {n0 N1 i:Nat} {bf:List Nat} {env:EN} {hp:CH} {K:AV→CH→List Nat→Bool→Prop} {G:Bool} {op} {c} {x} {y}:LZ P n0 N1 i (.bin op c x y) bf env hp K G=(As.obsB env G (.bin op c x y)∧imp G (As.pre hp (AE env) (.bin op c x y))∧imp G ((As.val hp (AE env) (.bin op c x y)).isSome=true)∧K (.gd G ((As.val hp (AE env) (.bin op c x y)).getD .un)) [] (As.rd (AE env) (.bin op c x y)) false):=ET rfl
attribute [go_sem] Adm Abp
theorem Aim {P:Program} {d:Option Nat} {env:EN} {hp:CH} {n:Nat} {K:St→Prop} {g:Option (Nat × Bool)} {G:Bool} {op} {x}:gK P d (.un op x) g ⟨env,hp,n⟩ K G=(As.obsB env G (.un op x)∧imp G (As.pre hp (AE env) (.un op x))∧imp G ((As.val hp (AE env) (.un op x)).isSome=true)∧K ⟨EN.set env d (.gd G ((As.val hp (AE env) (.un op x)).getD .un)),hp,n⟩):=EC rfl
theorem Air {P:Program} {n0 N1 i:Nat} {bf:List Nat} {env:EN} {hp:CH} {K:AV→CH→List Nat→Bool→Prop} {G:Bool} {op} {x}:LZ P n0 N1 i (.un op x) bf env hp K G=(As.obsB env G (.un op x)∧imp G (As.pre hp (AE env) (.un op x))∧imp G ((As.val hp (AE env) (.un op x)).isSome=true)∧K (.gd G ((As.val hp (AE env) (.un op x)).getD .un)) [] (As.rd (AE env) (.un op x)) false):=ET rfl
attribute [go_sem] Aim Air
theorem Ag7 {P:Program} {d:Option Nat} {env:EN} {hp:CH} {n:Nat} {K:St→Prop} {g:Option (Nat × Bool)} {G:Bool} {f} {xs}:gK P d (.mf f xs) g ⟨env,hp,n⟩ K G=(As.obsB env G (.mf f xs)∧imp G (As.pre hp (AE env) (.mf f xs))∧imp G ((As.val hp (AE env) (.mf f xs)).isSome=true)∧K ⟨EN.set env d (.gd G ((As.val hp (AE env) (.mf f xs)).getD .un)),hp,n⟩):=EC rfl
attribute [go_sem] Ag7
theorem Agv {P:Program} {d:Option Nat} {env:EN} {hp:CH} {n:Nat} {K:St→Prop} {g:Option (Nat × Bool)} {G:Bool} {x} {off}:gK P d (.fa x off) g ⟨env,hp,n⟩ K G=(As.obsB env G (.fa x off)∧imp G (As.pre hp (AE env) (.fa x off))∧imp G ((As.val hp (AE env) (.fa x off)).isSome=true)∧K ⟨EN.set env d (.gd G ((As.val hp (AE env) (.fa x off)).getD .un)),hp,n⟩):=EC rfl
theorem Ais {P:Program} {n0 N1 i:Nat} {bf:List Nat} {env:EN} {hp:CH} {K:AV→CH→List Nat→Bool→Prop} {G:Bool} {x} {off}:LZ P n0 N1 i (.fa x off) bf env hp K G=(As.obsB env G (.fa x off)∧imp G (As.pre hp (AE env) (.fa x off))∧imp G ((As.val hp (AE env) (.fa x off)).isSome=true)∧K (.gd G ((As.val hp (AE env) (.fa x off)).getD .un)) [] (As.rd (AE env) (.fa x off)) false):=ET rfl
attribute [go_sem] Agv Ais
theorem Ahe {P:Program} {d:Option Nat} {env:EN} {hp:CH} {n:Nat} {K:St→Prop} {g:Option (Nat × Bool)} {G:Bool} {x} {j} {z}:gK P d (.ia x j z) g ⟨env,hp,n⟩ K G=(As.obsB env G (.ia x j z)∧imp G (As.pre hp (AE env) (.ia x j z))∧imp G ((As.val hp (AE env) (.ia x j z)).isSome=true)∧K ⟨EN.set env d (.gd G ((As.val hp (AE env) (.ia x j z)).getD .un)),hp,n⟩):=EC rfl
theorem Ahi {P:Program} {n0 N1 i:Nat} {bf:List Nat} {env:EN} {hp:CH} {K:AV→CH→List Nat→Bool→Prop} {G:Bool} {x} {j} {z}:LZ P n0 N1 i (.ia x j z) bf env hp K G=(As.obsB env G (.ia x j z)∧imp G (As.pre hp (AE env) (.ia x j z))∧imp G ((As.val hp (AE env) (.ia x j z)).isSome=true)∧K (.gd G ((As.val hp (AE env) (.ia x j z)).getD .un)) [] (As.rd (AE env) (.ia x j z)) false):=ET rfl
attribute [go_sem] Ahe Ahi
theorem Ahc {P:Program} {d:Option Nat} {env:EN} {hp:CH} {n:Nat} {K:St→Prop} {g:Option (Nat × Bool)} {G:Bool} {str} {x}:gK P d (.ln str x) g ⟨env,hp,n⟩ K G=(As.obsB env G (.ln str x)∧imp G (As.pre hp (AE env) (.ln str x))∧imp G ((As.val hp (AE env) (.ln str x)).isSome=true)∧K ⟨EN.set env d (.gd G ((As.val hp (AE env) (.ln str x)).getD .un)),hp,n⟩):=EC rfl
theorem Ai5 {P:Program} {n0 N1 i:Nat} {bf:List Nat} {env:EN} {hp:CH} {K:AV→CH→List Nat→Bool→Prop} {G:Bool} {str} {x}:LZ P n0 N1 i (.ln str x) bf env hp K G=(As.obsB env G (.ln str x)∧imp G (As.pre hp (AE env) (.ln str x))∧imp G ((As.val hp (AE env) (.ln str x)).isSome=true)∧K (.gd G ((As.val hp (AE env) (.ln str x)).getD .un)) [] (As.rd (AE env) (.ln str x)) false):=ET rfl
attribute [go_sem] Ahc Ai5
theorem Ahz {P:Program} {d:Option Nat} {env:EN} {hp:CH} {n:Nat} {K:St→Prop} {g:Option (Nat × Bool)} {G:Bool} {x} {lo} {hi} {z}:gK P d (.sc x lo hi z) g ⟨env,hp,n⟩ K G=(As.obsB env G (.sc x lo hi z)∧imp G (As.pre hp (AE env) (.sc x lo hi z))∧imp G ((As.val hp (AE env) (.sc x lo hi z)).isSome=true)∧K ⟨EN.set env d (.gd G ((As.val hp (AE env) (.sc x lo hi z)).getD .un)),hp,n⟩):=EC rfl
theorem Age {P:Program} {n0 N1 i:Nat} {bf:List Nat} {env:EN} {hp:CH} {K:AV→CH→List Nat→Bool→Prop} {G:Bool} {x} {lo} {hi} {z}:LZ P n0 N1 i (.sc x lo hi z) bf env hp K G=(As.obsB env G (.sc x lo hi z)∧imp G (As.pre hp (AE env) (.sc x lo hi z))∧imp G ((As.val hp (AE env) (.sc x lo hi z)).isSome=true)∧K (.gd G ((As.val hp (AE env) (.sc x lo hi z)).getD .un)) [] (As.rd (AE env) (.sc x lo hi z)) false):=ET rfl
attribute [go_sem] Ahz Age
theorem Ag6 {P:Program} {d:Option Nat} {env:EN} {hp:CH} {n:Nat} {K:St→Prop} {g:Option (Nat × Bool)} {G:Bool} {x} {j}:gK P d (.ix x j) g ⟨env,hp,n⟩ K G=(As.obsB env G (.ix x j)∧imp G (As.pre hp (AE env) (.ix x j))∧imp G ((As.val hp (AE env) (.ix x j)).isSome=true)∧K ⟨EN.set env d (.gd G ((As.val hp (AE env) (.ix x j)).getD .un)),hp,n⟩):=EC rfl
attribute [go_sem] Ag6
theorem Aje {P:Program} {d:Option Nat} {env:EN} {hp:CH} {n:Nat} {K:St→Prop} {g:Option (Nat × Bool)} {G:Bool} {x}:gK P d (.nc x) g ⟨env,hp,n⟩ K G=(As.obsB env G (.nc x)∧imp G (As.pre hp (AE env) (.nc x))∧imp G ((As.val hp (AE env) (.nc x)).isSome=true)∧K ⟨EN.set env d (.gd G ((As.val hp (AE env) (.nc x)).getD .un)),hp,n⟩):=EC rfl
theorem Ajn {P:Program} {n0 N1 i:Nat} {bf:List Nat} {env:EN} {hp:CH} {K:AV→CH→List Nat→Bool→Prop} {G:Bool} {x}:LZ P n0 N1 i (.nc x) bf env hp K G=(As.obsB env G (.nc x)∧imp G (As.pre hp (AE env) (.nc x))∧imp G ((As.val hp (AE env) (.nc x)).isSome=true)∧K (.gd G ((As.val hp (AE env) (.nc x)).getD .un)) [] (As.rd (AE env) (.nc x)) false):=ET rfl
attribute [go_sem] Aje Ajn
theorem Ahq {P:Program} {n0 N1 i:Nat} {d:Option Nat} {dp un bf:List Nat} {lg:Bool} {env:EN} {hp:CH} {K:AV→CH→List Nat→Bool→Prop} {z}:CJ P n0 N1 i ⟨⟨d,.al z,none,dp,false⟩,un,lg,bf⟩ env hp K=(As.obsB env true (.al z)∧As.effP hp (AE env) (.al z)∧B4 (As.eff hp (AE env) (n0+i) (.al z)) (dE K)):=Nh rfl rfl
attribute [go_sem] Ahq
theorem Aif {P:Program} {n0 N1 i:Nat} {d:Option Nat} {dp un bf:List Nat} {lg:Bool} {env:EN} {hp:CH} {K:AV→CH→List Nat→Bool→Prop} {x} {y} {m}:CJ P n0 N1 i ⟨⟨d,.st x y m,none,dp,false⟩,un,lg,bf⟩ env hp K=(As.obsB env true (.st x y m)∧As.effP hp (AE env) (.st x y m)∧B4 (As.eff hp (AE env) (n0+i) (.st x y m)) (dE K)):=Nh rfl rfl
attribute [go_sem] Aif
theorem g_mk {P:Program} {d:Option Nat} {env:EN} {hp:CH} {n:Nat} {K:St→Prop} {g:Option (Nat × Bool)} {G:Bool} :gK P d (.mk ) g ⟨env,hp,n⟩ K G=WB P ⟨d,.mk ,none,[],false⟩ d ⟨env,hp,n⟩ K G:=Aej rfl rfl
theorem d_mk {P:Program} {n0 N1 i:Nat} {d:Option Nat} {dp un bf:List Nat} {lg:Bool} {env:EN} {hp:CH} {K:AV→CH→List Nat→Bool→Prop} :CJ P n0 N1 i ⟨⟨d,.mk ,none,dp,false⟩,un,lg,bf⟩ env hp K=(As.obsB env true (.mk )∧As.effP hp (AE env) (.mk )∧B4 (As.eff hp (AE env) (n0+i) (.mk )) (dE K)):=Nh rfl rfl
theorem e_mk {P:Program} {n0 N1 i:Nat} {bf:List Nat} {env:EN} {hp:CH} {K:AV→CH→List Nat→Bool→Prop} {G:Bool} :LZ P n0 N1 i (.mk ) bf env hp K G=(As.obsB env G (.mk )∧((G=true∧(As.effP hp (AE env) (.mk )∧B4 (As.eff hp (AE env) (n0+i) (.mk )) (dE K)))∨(G=false∧K (.gd false .un) [] [] false))):=Zo rfl rfl
attribute [go_sem] g_mk d_mk e_mk
theorem Ag8 {P:Program} {n0 N1 i:Nat} {d:Option Nat} {dp un bf:List Nat} {lg:Bool} {env:EN} {hp:CH} {K:AV→CH→List Nat→Bool→Prop} {fz} {m} {ps}:CJ P n0 N1 i ⟨⟨d,.bs fz m ps,none,dp,false⟩,un,lg,bf⟩ env hp K=(As.obsB env true (.bs fz m ps)∧As.effP hp (AE env) (.bs fz m ps)∧B4 (As.eff hp (AE env) (n0+i) (.bs fz m ps)) (dE K)):=Nh rfl rfl
attribute [go_sem] Ag8
theorem Agu {P:Program} {n0 N1 i:Nat} {d:Option Nat} {dp un bf:List Nat} {lg:Bool} {env:EN} {hp:CH} {K:AV→CH→List Nat→Bool→Prop} {x} {y} {m} {b}:CJ P n0 N1 i ⟨⟨d,.ap x y m b,none,dp,false⟩,un,lg,bf⟩ env hp K=(As.obsB env true (.ap x y m b)∧As.effP hp (AE env) (.ap x y m b)∧B4 (As.eff hp (AE env) (n0+i) (.ap x y m b)) (dE K)):=Nh rfl rfl
attribute [go_sem] Agu
attribute [go_sem] As.obsB As.pre As.val As.eff As.effP As.rd AX.ev ge EN.set AR Em EV R5 VD ZJ ZR eqB YC unV HR Rc RJ sl AV.cl AV.one ones AV.pur EU Ji Tj QD RS.ok Id RS.ev single Cu Vs eqk X5 Ua s0V ncV pkV lkV By Dg AV.purR Tl Gu Fz CM WT P1 shutC shutL Di Ec Cp shutP GB M8 TG Fv Y1 nst H3 Cf byt AV.ids keys X7 Nm
attribute [go_sem] Option.map_some Option.map_none Option.getD_some Option.getD_none Option.isSome_some Option.isSome_none List.map_cons List.map_nil List.length_cons List.length_nil List.take_zero List.take_succ_cons List.take_nil List.drop_zero List.drop_succ_cons List.drop_nil List.all_cons List.all_nil List.getD_cons_zero List.getD_cons_succ List.getElem?_cons_zero List.getElem?_cons_succ List.cons_append List.nil_append List.append_nil List.filter_cons List.filter_nil List.contains_cons List.contains_nil List.take_length
theorem Kt (A B:Prop):GD true A B=A:=by simp [GD]
theorem IW (A B:Prop):GD false A B=B:=by simp [GD]
theorem Ix {x:Bool} {A B:Prop} (a:x=true→A) (b:x=false→B):GD x A B:=⟨a,b⟩
theorem AA.f {P:Program} {f:FuncId} {hp:CH} {n:Nat} {args:List AV} {G:Bool} {K:CH→Nat→AV→Prop} {r:AV} (m:G=true→Ah P f hp n args r) (k:K hp n (.gd G r)):AA P f hp n args G K:=.inl ⟨r,m,k⟩
theorem AA.s {P:Program} {f:FuncId} {hp:CH} {n:Nat} {args:List AV} {G:Bool} {K:CH→Nat→AV→Prop} (h:GD G (Af P f hp n args K) (K hp n (.gd false .un))):AA P f hp n args G K:=.inr h
theorem EL {P:Program} {f:FuncId} {hp:CH} {n:Nat} {args:List AV} {K:CH→Nat→AV→Prop} (h:Af P f hp n args K):AA P f hp n args true K:=.inr ((Kt _ _).symm ▸ h)
theorem BK {P:Program} {f:FuncId} {hp:CH} {n:Nat} {args:List AV} {K:CH→Nat→AV→Prop} (h:K hp n (.gd false .un)):AA P f hp n args false K:=.inr ((IW _ _).symm ▸ h)
theorem AG.f {P:Program} {f:FuncId} {n0:Nat} {bf:List Nat} {hp:CH} {n:Nat} {args:List AV} {G:Bool} {K:AV→Prop} {r:AV} (m:G=true→∀Ao,(∀k,(k<n0∨∃j∈bf,k=n0+j)→gc Ao k=gc hp k)→Ah P f Ao n args r) (k:K r):AG P f n0 bf hp n args G K:=⟨r,m,k⟩
theorem A3.f {P:Program} {f:FuncId} {n0:Nat} {bf:List Nat} {hp:CH} {n id:Nat} {args:List AV} {K:AV→CH→Prop} {r:AV} (m:True→∀Ao,(∀k,(k<n0∨∃j∈bf,k=n0+j)→gc Ao k=gc hp k)→Ah P f Ao n args r) (k:K r []):A3 P f n0 bf hp n args id K:=.inl ⟨r,m trivial,k⟩
theorem A3.r {P:Program} {f:FuncId} {n0:Nat} {bf:List Nat} {hp:CH} {n id:Nat} {args:List AV} {K:AV→CH→Prop} {m len:Nat} {l:List (List AV)} (mt:∀Ao,AI P f Ao n args fun D6 n2 r2=>D6=(n,.rw 0 m l)::Ao∧n2=n+1∧r2=.rw n 0 len) (hl:l.length=len) (k:K (.rw id 0 len) [(id,.rw 0 m l)]):A3 P f n0 bf hp n args id K:=by
 subst hl
 exact .inr (.inl ⟨m,l,fun Ao _=>mt Ao,k⟩)
theorem A3.w {P:Program} {f:FuncId} {n0:Nat} {bf:List Nat} {hp:CH} {n id:Nat} {args:List AV} {K:AV→CH→Prop} {r:AV} {ws:CH} (h1:Ka hp n0 (keys ws) ws) (h2:r.purR=true) (m:∀Ao,(∀k,(k<n0∨∃j∈bf,k=n0+j)→gc Ao k=gc hp k)→AI P f Ao n args fun D6 n2 r2=>D6=ws++Ao∧n2=n∧r2=r) (k:K r ws):A3 P f n0 bf hp n args id K:=.inr (.inr ⟨r,ws,h1,.inl h2,m,k⟩)
attribute [go_sem] Ka nOk cOk VN aOk
theorem AG.no {P:Program} {f:FuncId} {n0:Nat} {bf:List Nat} {hp:CH} {n:Nat} {args:List AV} {K:AV→Prop} (k:K .un):AG P f n0 bf hp n args false K:=⟨.un,fun h=>(by cases h),k⟩
theorem F5.f {L:List (List AV)} {i:Nat} {K:List AV→Prop} {e:List AV} (h:L[i]?=some e) (k:K e):F5 L i K:=⟨e,h,k⟩
theorem Ag {L:List (List AV)} {i:Nat} {K:List AV→Prop} {e:List AV} (h:L[i]?=some e):F5 L i K=K e:=by simp [F5,h]
theorem YI (e:List AV) (L:List (List AV)) (i:Nat) (K:List AV→Prop):F5 (e::L) i K=B4 (e::L)[i]? K:=by
 unfold F5
 cases h:(e::L)[i]?<;>simp [B4]
attribute [go_sem] YI Kt IW
theorem Av (k:Nat) (c:Ap) (r:CH):gc ((k,c)::r) k=c:=by simp [gc]
theorem Aq {k j:Nat} (c:Ap) (r:CH) (h:k≠j):gc ((k,c)::r) j=gc r j:=by simp [gc,h]
theorem AC (k j:Nat) (c:Ap) (r:CH):gc ((k,c)::r) j=if k=j then c else gc r j:=nd rfl
attribute [go_sem] AC
/-! ### Small facts -/
def nin (x:Nat):List Nat→Prop
 | []=>True
 | y::r=>x≠y∧nin x r
def Jb (n:Nat):List Nat→Prop
 | []=>True
 | x::r=>x=n∧Jb n r
theorem Ym (x:Nat) (l:List Nat):nin x l=∀y∈l,x≠y:=by
 induction l with
 | nil=>simp [nin]
 | cons y r ih=>simp [nin,ih]
theorem U1 (n:Nat) (l:List Nat):Jb n l=∀x∈l,x=n:=by
 induction l with
 | nil=>simp [Jb]
 | cons y r ih=>simp [Jb,ih]
theorem VW (l:List Nat):QB [] l=True:=by simp [QB]
theorem Vg (x:Nat) (a b:List Nat):QB (x::a) b=(nin x b∧QB a b):=by simp [QB,Ym]
theorem Aef (n0 i:Nat) (R W:List Nat) (c:Bool) (j:Nat) (R' W':List Nat) (c':Bool):cf n0 i R W c ⟨j,R',W',c'⟩=(QB W' R∧QB W' W∧QB W R'∧imp c (Jb (n0+j) W')∧imp c' (Jb (n0+i) W)):=by
 simp only [cf,U1,imp]
theorem Agi (h:Decidable True):@decide True h=true:=by simp
theorem Agq (h:Decidable False):@decide False h=false:=by simp
theorem Agh:(¬True)=False:=by simp
theorem Aiy:(¬False)=True:=by simp
theorem Ait {α:Sort _} (a b:α):(a≠b)=¬(a=b):=rfl
theorem Aht (n:Nat):(0≤(n:Int))=True:=by simp
theorem Aiv (p:Prop) [Decidable p]:(some (AV.b false)=some (AV.b (decide p)))=¬p:=by simp
theorem Aig (n:Nat):max n (n+1)=n+1:=Nat.max_eq_right (Nat.le_succ n)
attribute [go_sem] Aig Aht Aiv or_false false_or or_true true_or nin Jb VW Vg Aef Agi Agq Agh Aiy Ait
theorem Yn (env:EN):EN.drop [] env=env:=nd rfl
theorem Ahv (a:Nat) (dp:List Nat):EN.drop (a::dp) []=[]:=nd rfl
def inL (a:Nat):List Nat→Bool
 | []=>false
 | b::r=>if a=b then true else inL a r
theorem Yo (a:Nat) (l:List Nat):inL a l=l.contains a:=by
 induction l with
 | nil=>rfl
 | cons b r ih =>
  rw [List.contains_cons,←ih]
  show (if a=b then true else inL a r)=_
  by_cases h:a=b<;>simp [h]
theorem Aja (a:Nat) (dp:List Nat) (t:Nat) (α:AV) (env:EN):EN.drop (a::dp) ((t,α)::env)=if inL t (a::dp)=true then EN.drop (a::dp) env else (t,α)::EN.drop (a::dp) env:=by
 rw [Yo]
 show List.filter _ _=_
 rw [List.filter_cons]
 by_cases h:(a::dp).contains t=true
 .rw [h,if_pos rfl]
  rfl
 .rw [Bool.eq_false_iff.2 h]
  rfl
theorem Bp (q:Prop):imp true q=q:=by simp [imp]
theorem Afc (q:Prop):imp false q=True:=by simp [imp]
theorem Abw (b:Bool):imp b (b=true)=True:=by simp [imp]
theorem Ac7 (b:Bool):imp b True=True:=by simp [imp]
theorem Wp (b:Bool):(b == true)=b:=by simp
theorem WQ (b:Bool):(b == false)=!b:=by simp
theorem Yz (x y:Bool):(bif x then true else y)=(x||y):=by cases x<;>rfl
theorem WS (x y:Bool):(bif x then y else false)=(x&&y):=by cases x<;>rfl
theorem Aer (n:Nat):(n≤n)=True:=by simp
theorem Aaw (n:Nat):((n:Int)).toNat=n:=Int.toNat_natCast n
theorem Ac8 (n m k:Nat):(n+m=n+k)=(m=k):=by simp
theorem Abt (n k:Nat):(n=n+k)=(k=0):=by simp
theorem Ae4 (n k:Nat):(n+k=n)=(k=0):=by simp
attribute [go_sem] Int.cast_ofNat_Int List.replicate_zero List.replicate_succ Yn Ahv Aja inL Bp Afc Abw Ac7 Wp WQ Yz WS Aer Aaw Ac8 Abt Ae4 Nat.add_assoc Bool.and_true Bool.true_and Bool.and_false Bool.false_and Bool.or_true Bool.true_or Bool.or_false Bool.false_or Bool.not_true Bool.not_false Bool.not_not Nat.le_add_right Nat.le_refl true_and and_true and_self Nat.zero_add Nat.add_zero decide_true decide_false eq_self
theorem bd {fn:Func} {P:Program} {k:CC} (h:fn.body.bind (BL P fn.ntmps)=some k):∃c,fn.body=some c∧BL P fn.ntmps c=some k:=by
 cases hb:fn.body with
 | none=>rw [hb] at h;cases h
 | some c=>rw [hb] at h;exact ⟨c,rfl,h⟩
theorem Ib {P : Program} {f : FuncId} {fn : Func} {k : CC} {rs : List RS} (hf : P.funcs[f]? = some fn) (Fn : (fn.name == "runtime.NumGoroutine") = false)
  (hc:fn.body.bind (BL P fn.ntmps)=some k.erase) (GG:MW P fn.ntmps fn.results.toList=some rs) {hp:CH} {n:Nat} {args:List AV} {R:CH→Nat→AV→Prop} (Bb:Nat.ble args.length fn.ntmps=true)
  (hv:vc P k ⟨Cu 0 args,hp,n⟩ (Ji rs R)):AI P f hp n args R:=by
 obtain ⟨c,hb,hc⟩:=bd hc
 exact NR hf Fn hb hc GG (Nat.le_of_ble_eq_true Bb) hv
def Up (n:Nat) (hp Ao:CH):Prop:=∀k,k<n→gc Ao k=gc hp k
theorem Up.refl (n:Nat) (hp:CH):Up n hp hp:=fun _ _=>rfl
theorem Up.cons {n:Nat} {hp Ao:CH} (h:Up n hp Ao) {k:Nat} (c:Ap) (hk:n≤k):Up n hp ((k,c)::Ao):=fun j hj=>by
 rw [Aq c Ao (by omega)]
 exact h j hj
theorem SatH.cut {h:HP} {ρ:RO} {hp Ao:CH} {n m:Nat} {w:World} (hu:Up n hp Ao) (m0:SatH h ρ Ao m w) (BP:∀k,n≤k→gc hp k=.no):SatH h ρ hp m w:=by
 have Eh:∀k g,(gc hp k).own g→k<n∧gc Ao k=gc hp k:=by
  intro k g e
  rcases Nat.lt_or_ge k n with hk | hk
  .exact ⟨hk,hu k hk⟩
  .rw [BP k hk] at e;cases e
 have hl:∀b,A9 ρ hp b→A9 ρ Ao b:=fun b ⟨k,g,c,e,r⟩=>⟨k,g,c,by rw [(Eh k g e).2];exact e,r⟩
 refine ⟨m0.hh,fun k=>?_,fun k k' g g' b c c' e e' r r'=>m0.inj k k' g g' b c c' (by rw [(Eh k g e).2];exact e) (by rw [(Eh k' g' e').2];exact e') r r',fun b hb=>m0.hid b (hl b hb),fun b hb=>m0.lt b (hl b hb),m0.fr,fun k g g' x e r=>?_,m0.gl⟩
 .rcases Nat.lt_or_ge k n with hk | hk
  .have:=m0.ch k
   rwa [hu k hk] at this
  .rw [BP k hk]
   trivial
 .have:=Eh k g (Ap.gen_own (Ap.rgen_gen e))
  exact m0.gens k g g' x (by rw [this.2];exact e) r
end Go.Eng
