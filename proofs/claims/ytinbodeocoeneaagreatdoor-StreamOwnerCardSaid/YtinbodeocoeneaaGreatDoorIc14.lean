/- Proof. Conditions: none. -/
import Derived.KernelRfl
import Derived.Test.YtinbodeocoeneaaGreatDoorIc13
namespace Go.Eng
set_option linter.all false
theorem nd {α:Sort _} {a b:α} (h:a=b):a=b:=h
/-! ### Ways to go on -/
def optK {α:Type}:Option α→(α→Prop)→Prop
 | some a,K=>K a
 | none,_=>False
theorem optK_some {α:Type} (a:α) (K:α→Prop):optK (some a) K=K a:=nd rfl
def avB:AV→(Bool→Prop)→Prop
 | .b x,K=>K x
 | _,_=>False
theorem avB_b (x:Bool) (K:Bool→Prop):avB (.b x) K=K x:=nd rfl
def gdK:AV→Bool→(Bool→Prop)→Prop
 | .b x,w,K=>K (x == w)
 | .gd c (.b x),w,K=>K (c&&(x == w))
 | .gd false .un,_,K=>K false
 | _,_,_=>False
theorem gdK_b (x w:Bool) (K:Bool→Prop):gdK (.b x) w K=K (x == w):=nd rfl
theorem gdK_g (c x w:Bool) (K:Bool→Prop):gdK (.gd c (.b x)) w K=K (c&&(x == w)):=nd rfl
def avS:AV→(ByteArray→Prop)→Prop
 | .s x,K=>K x
 | _,_=>False
def avF:AV→(Nat→List AV→Prop)→Prop
 | .fn g caps,K=>K g caps
 | _,_=>False
theorem avF_f (g:Nat) (caps:List AV) (K:Nat→List AV→Prop):avF (.fn g caps) K=K g caps:=nd rfl
def chB:Chunk→(List AV→Prop)→Prop
 | .bx cs,K=>K cs
 | _,_=>False
def chL:Chunk→(List AV→Prop)→Prop
 | .bx cs,K=>K cs
 | .ro cs,K=>K cs
 | _,_=>False
theorem chL_b (cs:List AV) (K:List AV→Prop):chL (.bx cs) K=K cs:=nd rfl
theorem chL_r (cs:List AV) (K:List AV→Prop):chL (.ro cs) K=K cs:=nd rfl
theorem chB_b (cs:List AV) (K:List AV→Prop):chB (.bx cs) K=K cs:=nd rfl
def evF (env:EN):Src→AV:=fun s=>fet (s.ev env)
theorem evF_t (env:EN) (n:Nat):evF env (.t n)=fet (ge env n):=nd rfl
theorem evF_c (env:EN) (α:AV):evF env (.c α)=fet α:=nd rfl
attribute [go_sem] optK_some avB_b gdK_b gdK_g avF_f chL_b chL_r chB_b evF_t evF_c
def ldB (off m:Nat) (ag:Bool) (L:AV→Prop) (cs:List AV):Prop:=off+m≤cs.length∧L (ldV ag ((cs.drop off).take m))
def ldF (z off m:Nat) (ag:Bool) (L:AV→Prop) (e:List AV):Prop:=(e.length=z∧off+m≤e.length)∧L (ldV ag ((e.drop off).take m))
def ldE (i z off m:Nat) (ag:Bool) (L:AV→Prop) (l:List (List AV)):Prop:=getK l i (ldF z off m ag L)
def ldK (hp:CH) (m:Nat) (ag:Bool) (L:AV→Prop):AV→Prop
 | .bx k off=>chL (gc hp k) (ldB off m ag L)
 | .ep α z i off=>optK (sl hp α) (ldE i z off m ag L)
 | _=>False
theorem ldK_b (hp:CH) (m:Nat) (ag:Bool) (L:AV→Prop) (k off:Nat):ldK hp m ag L (.bx k off)=chL (gc hp k) (ldB off m ag L):=nd rfl
theorem ldK_e (hp:CH) (m:Nat) (ag:Bool) (L:AV→Prop) (α:AV) (z i off:Nat):ldK hp m ag L (.ep α z i off)=optK (sl hp α) (ldE i z off m ag L):=nd rfl
theorem ldB_eq (off m:Nat) (ag:Bool) (L:AV→Prop) (cs:List AV):ldB off m ag L cs=(off+m≤cs.length∧L (ldV ag ((cs.drop off).take m))):=nd rfl
theorem ldE_eq (i z off m:Nat) (ag:Bool) (L:AV→Prop) (l:List (List AV)):ldE i z off m ag L l=getK l i (ldF z off m ag L):=nd rfl
theorem ldF_eq (z off m:Nat) (ag:Bool) (L:AV→Prop) (e:List AV):ldF z off m ag L e=((e.length=z∧off+m≤e.length)∧L (ldV ag ((e.drop off).take m))):=nd rfl
attribute [go_sem] ldK_b ldK_e ldB_eq ldE_eq ldF_eq
theorem ldK_of {hp:CH} {m:Nat} {ag:Bool} {L:AV→Prop} {x:Src} {f:Src→AV}:valK hp f (.ld x m ag) L=ldK hp m ag L (f x):=by
 unfold valK
 simp only
 cases f x with
 | bx k off=>simp only [ldK];cases gc hp k<;>rfl
 | ep α z i off=>simp only [ldK];cases sl hp α<;>rfl
 | _=>rfl
def lgK (b:Bool) (e:LE) (l:List LE):List LE:=match b with
 | true=>e::l
 | false=>l
/-! ### Code -/
section
variable {P:Program} {env:EN} {hp:CH} {n:Nat} {Q:Exit→St→Prop}
def sqK (P:Program) (b:CC) (Q:Exit→St→Prop):Exit→St→Prop
 | .normal,s=>vc P b s Q
 | e,s=>Q e s
def wkP (P:Program) (b:CC) (Q:Exit→St→Prop) (st:St):Prop:=∃s',Weak st s'∧vc P b s' Q
theorem wk_of {b:CC} {st s':St} (h:Weak st s') (k:vc P b s' Q):wkP P b Q st:=⟨s',h,k⟩
def sqwK (P:Program) (b:CC) (Q:Exit→St→Prop):Exit→St→Prop
 | .normal,s=>wkP P b Q s
 | e,s=>Q e s
def blK (id:Nat) (Q:Exit→St→Prop):Exit→St→Prop
 | .exit i,s=>if i=id then Q .normal s else Q (.exit i) s
 | e,s=>Q e s
def cdK (P:Program) (a b:CC) (st:St) (Q:Exit→St→Prop) (x:Bool):Prop:=vcIf x (vc P a st Q) (vc P b st Q)
theorem cdK_t {a b:CC} {st:St}:cdK P a b st Q true=vc P a st Q:=by simp [cdK,vcIf]
theorem cdK_f {a b:CC} {st:St}:cdK P a b st Q false=vc P b st Q:=by simp [cdK,vcIf]
theorem cdK_of {a b:CC} {st:St} {x:Bool} (h1:x=true→vc P a st Q) (h2:x=false→vc P b st Q):cdK P a b st Q x:=⟨h1,h2⟩
def drQ (Q:Exit→St→Prop) (dp:List Nat) (n:Nat) (env:EN) (hp:CH):Prop:=Q .normal ⟨EN.drop dp env,hp,n⟩
theorem drQ_eq {dp:List Nat}:drQ Q dp n env hp=Q .normal ⟨EN.drop dp env,hp,n⟩:=nd rfl
theorem vc_skip {st:St}:vc P .skip st Q=Q .normal st:=nd rfl
theorem vc_rg {l:List CO} {st:St}:vc P (.rg l) st Q=vcOps P l st (Q .normal):=nd rfl
theorem vc_sq {a b:CC} {st:St}:vc P (.sq a b) st Q=vc P a st (sqK P b Q):=by
 show vc P a st _=_
 congr 1
 funext e s
 cases e<;>rfl
theorem vc_sqw {a b:CC} {st:St}:vc P (.sqw a b) st Q=vc P a st (sqwK P b Q):=by
 show vc P a st _=_
 congr 1
 funext e s
 cases e<;>rfl
theorem vc_cd {c:Src} {a b:CC}:vc P (.cd c a b) ⟨env,hp,n⟩ Q=(obB true (c.ev env)∧avB (evF env c) (cdK P a b ⟨env,hp,n⟩ Q)):=by
 show (_∧_)=(_∧avB (fet (c.ev env)) _)
 cases fet (c.ev env)<;>rfl
theorem vc_bl {id:Nat} {c:CC} {st:St}:vc P (.bl id c) st Q=vc P c st (blK id Q):=by
 show vc P c st _=_
 congr 1
 funext e s
 cases e<;>rfl
theorem vc_lp {c:CC} {st:St}:vc P (.lp c) st Q=vcLoop (vc P c) st Q:=nd rfl
theorem vc_ex {id:Nat} {st:St}:vc P (.ex id) st Q=Q (.exit id) st:=nd rfl
theorem vc_rt {st:St}:vc P .rt st Q=Q .ret st:=nd rfl
theorem vc_dr {l:List DO} {dp:List Nat}:vc P (.dr l dp) ⟨env,hp,n⟩ Q=vcD2 P n (n+l.length) 0 l env hp [] (drQ Q dp (n+l.length)):=nd rfl
theorem sqK_n {b:CC} {s:St}:sqK P b Q .normal s=vc P b s Q:=nd rfl
theorem sqK_r {b:CC} {s:St}:sqK P b Q .ret s=Q .ret s:=nd rfl
theorem sqK_e {b:CC} {i:Nat} {s:St}:sqK P b Q (.exit i) s=Q (.exit i) s:=nd rfl
theorem sqwK_n {b:CC} {s:St}:sqwK P b Q .normal s=wkP P b Q s:=nd rfl
theorem blK_n {id:Nat} {s:St}:blK id Q .normal s=Q .normal s:=nd rfl
theorem blK_r {id:Nat} {s:St}:blK id Q .ret s=Q .ret s:=nd rfl
theorem blK_e {id i:Nat} {s:St}:blK id Q (.exit i) s=if i=id then Q .normal s else Q (.exit i) s:=nd rfl
end
attribute [go_sem] vc_sqw sqwK_n drQ_eq vc_skip vc_rg vc_sq vc_cd vc_bl vc_lp vc_ex vc_rt vc_dr sqK_n sqK_r sqK_e blK_n blK_r blK_e cdK_t cdK_f
/-! ### Operations -/
def kC (P:Program) (d:Option Nat) (dp:List Nat) (r:List CO) (env:EN) (K:St→Prop) (hp:CH) (n:Nat) (a:AV):Prop:=vcOps P r ⟨EN.drop dp (EN.set env d a),hp,n⟩ K
theorem kC_eq (P:Program) (d:Option Nat) (dp:List Nat) (r:List CO) (env:EN) (K:St→Prop) (hp:CH) (n:Nat) (a:AV):kC P d dp r env K hp n a=vcOps P r ⟨EN.drop dp (EN.set env d a),hp,n⟩ K:=nd rfl
def boK (L:CH→Nat→AV→Prop) (hp:CH) (n:Nat) (cs:List AV):Prop:=L ((n,.bx cs)::hp) (n+1) (.bx n 0)
def stO (L:CH→Nat→AV→Prop) (hp:CH) (n k off:Nat) (cs old:List AV):Prop:=off+cs.length≤old.length∧L ((k,.bx (old.take off++cs++old.drop (off+cs.length)))::hp) n .un
def chW:Chunk→(Bool→Nat→Nat→List (List AV)→Prop)→Prop
 | .rw g n l,K=>K false g n l
 | .rn g n l,K=>K true g n l
 | _,_=>False
theorem chW_w (g n:Nat) (l:List (List AV)) (K:Bool→Nat→Nat→List (List AV)→Prop):chW (.rw g n l) K=K false g n l:=nd rfl
theorem chW_n (g n:Nat) (l:List (List AV)) (K:Bool→Nat→Nat→List (List AV)→Prop):chW (.rn g n l) K=K true g n l:=nd rfl
def stQ (L:CH→Nat→AV→Prop) (hp:CH) (n k i off:Nat) (cs:List AV) (nb:Bool) (g' n':Nat) (l:List (List AV)) (e:List AV):Prop:=L ((k,rowC nb g' n' (l.set i (e.take off++cs++e.drop (off+cs.length))))::hp) n .un
def stP (L:CH→Nat→AV→Prop) (hp:CH) (n k g z i off:Nat) (cs:List AV) (nb:Bool) (g' n':Nat) (l:List (List AV)):Prop:=(g=g'∧z=n'∧off+cs.length≤z∧okC nb cs=true)∧getK l i (stQ L hp n k i off cs nb g' n' l)
def stW (L:CH→Nat→AV→Prop) (hp:CH) (n:Nat) (cs:List AV):AV→Prop
 | .bx k off=>chB (gc hp k) (stO L hp n k off cs)
 | .ep (.rw k g _) z i off=>chW (gc hp k) (stP L hp n k g z i off cs)
 | _=>False
def stB (L:CH→Nat→AV→Prop) (hp:CH) (n m:Nat) (p:AV) (cs:List AV):Prop:=cs.length=m∧ones cs=true∧stW L hp n cs p
def chM:Chunk→(List (ByteArray × AV)→Prop)→Prop
 | .mp l,K=>K l
 | _,_=>False
theorem chM_m (l:List (ByteArray × AV)) (K:List (ByteArray × AV)→Prop):chM (.mp l) K=K l:=nd rfl
def muM (L:CH→Nat→AV→Prop) (hp:CH) (n k:Nat) (b:ByteArray) (y:AV) (l:List (ByteArray × AV)):Prop:=y.purR=true∧L ((k,.mp (mput b y l))::hp) n .un
def muB (L:CH→Nat→AV→Prop) (hp:CH) (n:Nat) (y:AV):AV→AV→Prop
 | .mp k,.s b=>chM (gc hp k) (muM L hp n k b y)
 | _,_=>False
def nlB (L:CH→Nat→AV→Prop) (hp:CH) (n:Nat) (neg:Bool):AV→Prop
 | .ds l=>(l=[]→L hp n (.b (!neg)))∧L hp n (.b neg)
 | .rw k g len=>(nlZ hp k g len→L hp n (.b (!neg)))∧L hp n (.b neg)
 | .e0=>L hp n (.b (!neg))∧L hp n (.b neg)
 | _=>False
def bsK (L:CH→Nat→AV→Prop) (hp:CH) (n n0:Nat) (l:List (List AV)):Prop:=L ((n,.rw 0 n0 l)::hp) (n+1) (.rw n 0 l.length)
def bsT (L:CH→Nat→AV→Prop) (hp:CH) (n:Nat) (l:List (List AV)):Prop:=L hp n (.ds l)
def apB (L:CH→Nat→AV→Prop) (hp:CH) (a:AV × (Nat × Chunk) × Nat):Prop:=L (a.2.1::hp) a.2.2 a.1
def elsOkN (m:Nat) (l:List (List AV)):Prop:=∀e∈l,e.length=m∧ones e=true
def bsN (L:CH→Nat→AV→Prop) (hp:CH) (n n0:Nat) (l:List (List AV)):Prop:=L ((n,.rn 0 n0 l)::hp) (n+1) (.rw n 0 l.length)
def optE {α:Type} (x:Option α) (A:α→Prop) (B:Prop):Prop:=match x with
 | some a=>A a
 | none=>B
theorem optE_s {α:Type} (x:α) (A:α→Prop) (B:Prop):optE (some x) A B=A x:=nd rfl
def apA (L:CH→Nat→AV→Prop) (hp:CH) (n m b:Nat) (x:AV) (l2:List (List AV)):Prop:=elsOk m l2∧(apLen x+l2.length)*b≤140737488355328∧apLen x+l2.length≤9223372036854775807∧optK (apR hp n n m x l2) (apB L hp)
def ccK (P:Program) (L:CH→Nat→AV→Prop) (hp:CH) (n:Nat) (args:List AV) (g:Nat) (caps:List AV):Prop:=vcCall P g hp n (args++caps) L
section
variable {L:CH→Nat→AV→Prop} {hp:CH} {n:Nat}
theorem boK_eq {cs:List AV}:boK L hp n cs=L ((n,.bx cs)::hp) (n+1) (.bx n 0):=nd rfl
theorem stC_eq {k off:Nat} {cs old:List AV}:stO L hp n k off cs old=(off+cs.length≤old.length∧L ((k,.bx (old.take off++cs++old.drop (off+cs.length)))::hp) n .un):=nd rfl
theorem stW_b {k off:Nat} {cs:List AV}:stW L hp n cs (.bx k off)=chB (gc hp k) (stO L hp n k off cs):=nd rfl
theorem stW_e {k g len z i off:Nat} {cs:List AV}:stW L hp n cs (.ep (.rw k g len) z i off)=chW (gc hp k) (stP L hp n k g z i off cs):=nd rfl
theorem stP_eq {k g z i off:Nat} {cs:List AV} {nb:Bool} {g' n':Nat} {l:List (List AV)}:stP L hp n k g z i off cs nb g' n' l=((g=g'∧z=n'∧off+cs.length≤z∧okC nb cs=true)∧getK l i (stQ L hp n k i off cs nb g' n' l)):=nd rfl
theorem stQ_eq {k i off:Nat} {cs:List AV} {nb:Bool} {g' n':Nat} {l:List (List AV)} {e:List AV}:stQ L hp n k i off cs nb g' n' l e=L ((k,rowC nb g' n' (l.set i (e.take off++cs++e.drop (off+cs.length))))::hp) n .un:=nd rfl
theorem muM_eq {k:Nat} {b:ByteArray} {y:AV} {l:List (ByteArray × AV)}:muM L hp n k b y l=(y.purR=true∧L ((k,.mp (mput b y l))::hp) n .un):=nd rfl
theorem muB_m {k:Nat} {b:ByteArray} {y:AV}:muB L hp n y (.mp k) (.s b)=chM (gc hp k) (muM L hp n k b y):=nd rfl
theorem nlB_d {neg:Bool} {l:List (List AV)}:nlB L hp n neg (.ds l)=((l=[]→L hp n (.b (!neg)))∧L hp n (.b neg)):=nd rfl
theorem stB_eq {m:Nat} {p:AV} {cs:List AV}:stB L hp n m p cs=(cs.length=m∧ones cs=true∧stW L hp n cs p):=nd rfl
theorem bsK_eq {n0:Nat} {l:List (List AV)}:bsK L hp n n0 l=L ((n,.rw 0 n0 l)::hp) (n+1) (.rw n 0 l.length):=nd rfl
theorem bsT_eq {l:List (List AV)}:bsT L hp n l=L hp n (.ds l):=nd rfl
theorem apB_eq {α:AV} {c:Nat × Chunk} {n':Nat}:apB L hp (α,c,n')=L (c::hp) n' α:=nd rfl
theorem apA_eq {m b:Nat} {x:AV} {l2:List (List AV)}:apA L hp n m b x l2=(elsOk m l2∧(apLen x+l2.length)*b≤140737488355328∧apLen x+l2.length≤9223372036854775807∧optK (apR hp n n m x l2) (apB L hp)):=nd rfl
theorem ccK_eq {P:Program} {args:List AV} {g:Nat} {caps:List AV}:ccK P L hp n args g caps=vcCall P g hp n (args++caps) L:=nd rfl
theorem elsOk_nil (m:Nat):elsOk m []=True:=by simp [elsOk]
theorem elsOk_cons (m:Nat) (e:List AV) (l:List (List AV)):elsOk m (e::l)=((e.length=m∧purs e=true)∧elsOk m l):=by simp [elsOk]
theorem elsOkN_nil (m:Nat):elsOkN m []=True:=by simp [elsOkN]
theorem elsOkN_cons (m:Nat) (e:List AV) (l:List (List AV)):elsOkN m (e::l)=((e.length=m∧ones e=true)∧elsOkN m l):=by simp [elsOkN]
theorem bsN_eq {n0:Nat} {l:List (List AV)}:bsN L hp n n0 l=L ((n,.rn 0 n0 l)::hp) (n+1) (.rw n 0 l.length):=nd rfl
end
attribute [go_sem] chW_n elsOkN_nil elsOkN_cons bsN_eq optE_s nlZ kC_eq boK_eq stC_eq stW_b stW_e stP_eq stQ_eq chW_w chM_m muM_eq muB_m nlB_d stB_eq bsK_eq bsT_eq apB_eq apA_eq ccK_eq elsOk_nil elsOk_cons
def dropK (P:Program) (dp:List Nat) (r:List CO) (K:St→Prop) (s:St):Prop:=vcOps P r ⟨EN.drop dp s.env,s.hp,s.n⟩ K
def gC (env:EN) (d:Option Nat) (K:St→Prop) (hp:CH) (n:Nat) (a:AV):Prop:=K ⟨EN.set env d a,hp,n⟩
def gK (P:Program) (d:Option Nat) (op:COp) (g:Option (Nat × Bool)) (st:St) (K:St→Prop) (G:Bool):Prop:=vcG P ⟨d,op,g,[],false⟩ st G K
def grK (P:Program) (o:CO) (d:Option Nat) (st:St) (K:St→Prop) (G:Bool):Prop:=vcIf G (vcOps P [o] st K) (K ⟨EN.set st.env d (.gd false .un),st.hp,st.n⟩)
section
variable {P:Program} {d:Option Nat} {dp:List Nat} {r:List CO} {env:EN} {hp:CH} {n:Nat} {K:St→Prop}
theorem dropK_eq:dropK P dp r K ⟨env,hp,n⟩=vcOps P r ⟨EN.drop dp env,hp,n⟩ K:=nd rfl
theorem gC_eq {a:AV}:gC env d K hp n a=K ⟨EN.set env d a,hp,n⟩:=nd rfl
theorem grK_t {o:CO}:grK P o d ⟨env,hp,n⟩ K true=vcOps P [o] ⟨env,hp,n⟩ K:=by simp [grK,vcIf]
theorem grK_of {o:CO} {G:Bool} (h1:G=true→vcOps P [o] ⟨env,hp,n⟩ K) (h2:G=false→K ⟨EN.set env d (.gd false .un),hp,n⟩):grK P o d ⟨env,hp,n⟩ K G:=⟨h1,h2⟩
theorem q_nil {st:St}:vcOps P [] st K=K st:=nd rfl
theorem q_ld {x:Src} {m:Nat} {ag:Bool}:vcOps P (⟨d,.ld x m ag,none,dp,false⟩::r) ⟨env,hp,n⟩ K=(obB true (x.ev env)∧ldK hp m ag (kC P d dp r env K hp n) (evF env x)):=by
 show (_∧_)=_
 congr 1
 exact ldK_of (f:=evF env)
theorem q_al {z:List AV}:vcOps P (⟨d,.al z,none,dp,false⟩::r) ⟨env,hp,n⟩ K=vcOps P r ⟨EN.drop dp (EN.set env d (.bx n 0)),(n,.bx z)::hp,n+1⟩ K:=by
 show (True∧_)=_
 rw [true_and]
 show vcOps P r ⟨_,_,max n (n+1)⟩ K=_
 rw [Nat.max_eq_right (Nat.le_succ n)]
theorem q_bo {x:Src}:vcOps P (⟨d,.bo x,none,dp,false⟩::r) ⟨env,hp,n⟩ K=(obB true (x.ev env)∧optK (evF env x).cl (boK (kC P d dp r env K) hp n)):=by
 show (_∧_)=(_∧optK (fet (x.ev env)).cl _)
 congr 1
 cases h:(fet (x.ev env)).cl with
 | none=>simp only [vcRun,h];rfl
 | some cs =>
  simp only [h]
  show vcOps P r ⟨_,_,max n (n+1)⟩ K=_
  rw [Nat.max_eq_right (Nat.le_succ n)]
  rfl
theorem q_st {x y:Src} {m:Nat}:vcOps P (⟨d,.st x y m,none,dp,false⟩::r) ⟨env,hp,n⟩ K=((obB true (x.ev env)∧obB true (y.ev env))∧optK (evF env y).cl (stB (kC P d dp r env K) hp n m (evF env x))):=by
 show (_∧_)=(_∧optK (fet (y.ev env)).cl _)
 congr 1
 cases h:(fet (y.ev env)).cl with
 | none=>simp only [vcRun,h];rfl
 | some cs =>
  simp only [h]
  show (_∧_∧stK hp (fet (x.ev env)) cs _)=(_∧_∧stW _ hp n cs (fet (x.ev env)))
  congr 2
  unfold stK
  cases fet (x.ev env) with
  | bx k off=>simp only [stW];cases gc hp k<;>rfl
  | ep α z i off =>
   cases α with
   | rw k g len=>simp only [stW];cases gc hp k<;>rfl
   | _=>rfl
  | _=>rfl
theorem q_alb {T e:Nat}:vcOps P (⟨d,.alb T e,none,dp,false⟩::r) ⟨env,hp,n⟩ K=(True∧kC P d dp r env K ((n,.sb T e 0 ⟨#[]⟩)::hp) (n+1) (.bx n 0)):=by
 show (_∧_)=(_∧_)
 refine congrArg _ ?_
 show vcOps P r ⟨_,_,max n (n+1)⟩ K=_
 rw [Nat.max_eq_right (Nat.le_succ n)]
 rfl
theorem q_mk:vcOps P (⟨d,.mk,none,dp,false⟩::r) ⟨env,hp,n⟩ K=(True∧kC P d dp r env K ((n,.mp [])::hp) (n+1) (.mp n)):=by
 show (_∧_)=(_∧_)
 refine congrArg _ ?_
 show vcOps P r ⟨_,_,max n (n+1)⟩ K=_
 rw [Nat.max_eq_right (Nat.le_succ n)]
 rfl
theorem q_mu {x s y:Src}:vcOps P (⟨d,.mu x s y,none,dp,false⟩::r) ⟨env,hp,n⟩ K=((obB true (x.ev env)∧obB true (s.ev env)∧obB true (y.ev env))∧muB (kC P d dp r env K) hp n (evF env y) (evF env x) (evF env s)):=by
 show (_∧_)=(_∧_)
 refine congrArg _ ?_
 show muK hp (fet (x.ev env)) (fet (s.ev env)) (fet (y.ev env)) _=muB _ hp n (fet (y.ev env)) (fet (x.ev env)) (fet (s.ev env))
 cases fet (x.ev env) with
 | mp k=>cases fet (s.ev env) with
  | s b=>simp only [muK,muB];cases gc hp k<;>rfl
  | _=>rfl
 | _=>rfl
theorem q_nl {neg:Bool} {x:Src}:vcOps P (⟨d,.nl neg x,none,dp,false⟩::r) ⟨env,hp,n⟩ K=(obB true (x.ev env)∧nlB (kC P d dp r env K) hp n neg (evF env x)):=by
 show (_∧_)=(_∧_)
 refine congrArg _ ?_
 show nlK hp (fet (x.ev env)) neg _=nlB _ hp n neg (fet (x.ev env))
 cases fet (x.ev env)<;>rfl
theorem q_bs {n0:Nat} {ps:List Src}:vcOps P (⟨d,.bs false n0 ps,none,dp,false⟩::r) ⟨env,hp,n⟩ K=(oblB env true ps∧optK (partsL (shutP hp (ps.map (evF env))) n0 (ps.map (evF env))) (bsK (kC P d dp r env K) (shutP hp (ps.map (evF env))) n n0)):=by
 show (_∧_)=(_∧_)
 congr 1
 show (match partsL (shutP hp (ps.map (evF env))) n0 (ps.map (evF env)) with | some l=>_ | none=>False)=_
 cases h:partsL (shutP hp (ps.map (evF env))) n0 (ps.map (evF env)) with
 | none=>rfl
 | some l =>
  show vcOps P r ⟨_,_,max n (n+1)⟩ K=_
  rw [Nat.max_eq_right (Nat.le_succ n)]
  rfl
theorem q_bst {n0:Nat} {ps:List Src}:vcOps P (⟨d,.bs true n0 ps,none,dp,false⟩::r) ⟨env,hp,n⟩ K=(oblB env true ps∧optK (partsL (shutP hp (ps.map (evF env))) n0 (ps.map (evF env))) (bsT (kC P d dp r env K) (shutP hp (ps.map (evF env))) n)):=by
 show (_∧_)=(_∧_)
 congr 1
 show (match partsL (shutP hp (ps.map (evF env))) n0 (ps.map (evF env)) with | some l=>_ | none=>False)=_
 cases h:partsL (shutP hp (ps.map (evF env))) n0 (ps.map (evF env))<;>rfl
theorem q_bsN {fz:Bool} {n0:Nat} {ps:List Src}:vcOps P (⟨d,.bs fz n0 ps,none,dp,true⟩::r) ⟨env,hp,n⟩ K=(oblB env true ps∧optK (partsN n0 (ps.map (evF env))) (bsN (kC P d dp r env K) hp n n0)):=by
 show (_∧_)=(_∧_)
 congr 1
 show (match partsN n0 (ps.map (evF env)) with | some l=>_ | none=>False)=_
 cases h:partsN n0 (ps.map (evF env)) with
 | none=>rfl
 | some l =>
  show vcOps P r ⟨_,_,max n (n+1)⟩ K=_
  rw [Nat.max_eq_right (Nat.le_succ n)]
  rfl
attribute [go_sem] q_bsN
theorem q_ap {x y:Src} {m b:Nat}:vcOps P (⟨d,.ap x y m b,none,dp,false⟩::r) ⟨env,hp,n⟩ K=((obB true (x.ev env)∧obB true (y.ev env))∧optK (sl hp (evF env y)) (apA (kC P d dp r env K) hp n m b (evF env x))):=by
 show (_∧_)=(_∧optK (sl hp (fet (y.ev env))) _)
 congr 1
 cases h:sl hp (fet (y.ev env)) with
 | none=>simp only [vcRun,h];rfl
 | some l2 =>
  simp only [h]
  show (_∧_∧_∧_)=(_∧_∧_∧optK (apR hp n n m (fet (x.ev env)) l2) _)
  congr 3
  cases h2:apR hp n n m (fet (x.ev env)) l2 with
  | none=>rfl
  | some a=>rfl
def azB (P:Program) (d:Option Nat) (dp:List Nat) (r:List CO) (env:EN) (K:St→Prop) (hp:CH) (n k g m len:Nat) (l2:List (List AV)):Chunk→Prop
 | .rw g' n' l=>(g=g'∧m=n'∧len=l.length)∧vcOps P r ⟨EN.drop dp (frz k g l (l++l2) (EN.set env d (.rw k (g+1) (len+l2.length)))),(k,.sh (g+1) m (l++l2))::(k,.rw (g+1) m (l++l2))::hp,n⟩ K
 | _=>False
def azA (P:Program) (d:Option Nat) (dp:List Nat) (r:List CO) (env:EN) (K:St→Prop) (hp:CH) (n m:Nat) (l2:List (List AV)):AV→Prop
 | .rw k g len=>azB P d dp r env K hp n k g m len l2 (gc hp k)
 | _=>False
def azE (P:Program) (d:Option Nat) (dp:List Nat) (r:List CO) (env:EN) (K:St→Prop) (hp:CH) (n m b:Nat) (x:AV) (l2:List (List AV)):Prop:=elsOk m l2∧(apLen x+l2.length)*b≤140737488355328∧apLen x+l2.length≤9223372036854775807∧azA P d dp r env K hp n m l2 x
theorem azA_rw {m k g len:Nat} {l2:List (List AV)}:azA P d dp r env K hp n m l2 (.rw k g len)=azB P d dp r env K hp n k g m len l2 (gc hp k):=nd rfl
theorem azE_eq {m b:Nat} {x:AV} {l2:List (List AV)}:azE P d dp r env K hp n m b x l2=(elsOk m l2∧(apLen x+l2.length)*b≤140737488355328∧apLen x+l2.length≤9223372036854775807∧azA P d dp r env K hp n m l2 x):=nd rfl
attribute [go_sem] azA_rw azE_eq frz frzV List.map_cons List.map_nil
def apNZ (P:Program) (d:Option Nat) (dp:List Nat) (r:List CO) (env:EN) (K:St→Prop) (hp:CH) (n m b:Nat) (x y:Src) (l2:List (List AV)):Prop :=
 (obB true (x.ev env)∧obB true (y.ev env))∧elsOkN m l2∧(apLen (evF env x)+l2.length)*b≤140737488355328∧apLen (evF env x)+l2.length≤9223372036854775807∧optK (apRN true hp n n m (evF env x) l2) (apB (kC P d dp r env K) hp)
theorem apNZ_eq {m b:Nat} {x y:Src} {l2:List (List AV)}:apNZ P d dp r env K hp n m b x y l2=((obB true (x.ev env)∧obB true (y.ev env))∧elsOkN m l2∧(apLen (evF env x)+l2.length)*b≤140737488355328∧apLen (evF env x)+l2.length≤9223372036854775807∧optK (apRN true hp n n m (evF env x) l2) (apB (kC P d dp r env K) hp)):=nd rfl
theorem q_apz {x y:Src} {m b:Nat}:vcOps P (⟨d,.ap x y m b,none,dp,true⟩::r) ⟨env,hp,n⟩ K=optE (nst hp (evF env y)) (apNZ P d dp r env K hp n m b x y) ((obB true (x.ev env)∧obB true (y.ev env))∧optK (sl hp (evF env y)) (azE P d dp r env K hp n m b (evF env x))):=by
 show (match nst hp (fet (y.ev env)) with | some _=>_ | none=>_)=optE (nst hp (fet (y.ev env))) _ _
 cases hs:nst hp (fet (y.ev env)) with
 | some l2 =>
  show (_∧(match nst hp (fet (y.ev env)) with | some l2=>_ | none=>_))=(_∧_)
  rw [hs]
  congr 1
  show (_∧_∧_∧_)=(_∧_∧_∧optK (apRN true hp n n m (fet (x.ev env)) l2) _)
  congr 3
  cases h2:apRN true hp n n m (fet (x.ev env)) l2 with
  | none=>rfl
  | some a=>rfl
 | none =>
  show (_∧_)=(_∧optK (sl hp (fet (y.ev env))) _)
  congr 1
  cases h:sl hp (fet (y.ev env)) with
  | none=>rfl
  | some l2 =>
   show (_∧_∧_∧_)=(_∧_∧_∧azA P d dp r env K hp n m l2 (fet (x.ev env)))
   congr 3
attribute [go_sem] apNZ_eq
theorem q_cl {f:Nat} {xs:List Src}:vcOps P (⟨d,.cl f xs,none,dp,false⟩::r) ⟨env,hp,n⟩ K=(oblB env true xs∧vcCall P f hp n (xs.map (evF env)) (kC P d dp r env K)):=nd rfl
theorem q_cc {f:Src} {xs:List Src}:vcOps P (⟨d,.cc f xs,none,dp,false⟩::r) ⟨env,hp,n⟩ K=((obB true (f.ev env)∧oblB env true xs)∧avF (evF env f) (ccK P (kC P d dp r env K) hp n (xs.map (evF env)))):=by
 show (_∧_)=(_∧avF (fet (f.ev env)) _)
 congr 1
 cases h:fet (f.ev env)<;>first | (simp only [vcRun,h,avF];done) | (simp only [vcRun,h,avF];rfl)
theorem q_g {op:COp} {t:Nat} {want:Bool}:vcOps P (⟨d,op,some (t,want),dp,false⟩::r) ⟨env,hp,n⟩ K=gdK (ge env t) want (gK P d op (some (t,want)) ⟨env,hp,n⟩ (dropK P dp r K)):=by
 have key:∀G,vcG P ⟨d,op,some (t,want),dp,false⟩ ⟨env,hp,n⟩ G (fun st'=>vcOps P r ⟨EN.drop dp st'.env,st'.hp,st'.n⟩ K)=gK P d op (some (t,want)) ⟨env,hp,n⟩ (dropK P dp r K) G:=fun G=>rfl
 suffices key0:vcOp1 P ⟨d,op,some (t,want),dp,false⟩ ⟨env,hp,n⟩ (fun st'=>vcOps P r ⟨EN.drop dp st'.env,st'.hp,st'.n⟩ K)=gdK (ge env t) want (gK P d op (some (t,want)) ⟨env,hp,n⟩ (dropK P dp r K)) from key0
 unfold vcOp1
 simp only
 cases h:ge env t with
 | gd c x=>cases x<;>first | rfl | exact key _ | (cases c<;>first | rfl | exact key _)
 | _=>first | rfl | exact key _
def COp.isL:COp→Bool
 | .ld _ _ _=>true
 | _=>false
theorem key_v {op:COp} (h1:op.isV=true) (h2:op.isL=false) (L:AV→Prop):valK hp (evF env) op L=(COp.pre hp (evF env) op∧optK (COp.val hp (evF env) op) L):=by
 cases op<;>first | (simp [COp.isL] at h2;done) | rfl | (unfold valK;simp only;first | done | (congr 1;first | done | (cases COp.val hp (evF env) _<;>rfl)))
theorem q_v {op:COp} (h1:op.isV=true) (h2:op.isL=false):vcOps P (⟨d,op,none,dp,false⟩::r) ⟨env,hp,n⟩ K=(COp.obsB env true op∧COp.pre hp (evF env) op∧optK (COp.val hp (evF env) op) (kC P d dp r env K hp n)):=by
 cases op<;>first | (simp [COp.isV] at h1;done) | exact congrArg (_∧·) (key_v h1 h2 _)
def dV (K:AV→CH→List Nat→Bool→Prop) (R:List Nat) (α:AV):Prop:=K α [] R false
theorem dV_eq {K:AV→CH→List Nat→Bool→Prop} {R:List Nat} {α:AV}:dV K R α=K α [] R false:=nd rfl
theorem d_v {n0 N1 i:Nat} {un bf:List Nat} {lg:Bool} {K:AV→CH→List Nat→Bool→Prop} {op:COp} (h1:op.isV=true) (h2:op.isL=false):dOp2 P n0 N1 i ⟨⟨d,op,none,dp,false⟩,un,lg,bf⟩ env hp K=(COp.obsB env true op∧COp.pre hp (evF env) op∧optK (COp.val hp (evF env) op) (dV K (COp.rd (evF env) op))):=by
 cases op<;>first | (simp [COp.isV] at h1;done) | exact congrArg (_∧·) (key_v h1 h2 (dV K (COp.rd (evF env) _)))
end
attribute [go_sem] dropK_eq gC_eq grK_t dV_eq q_nil q_ld q_al q_bo q_st q_nl q_mk q_alb q_mu q_bs q_bst q_ap q_apz q_apz q_cl q_cc q_g
theorem q_mv {P:Program} {d:Option Nat} {dp:List Nat} {r:List CO} {env:EN} {hp:CH} {n:Nat} {K:St→Prop} {x}:vcOps P (⟨d,.mv x,none,dp,false⟩::r) ⟨env,hp,n⟩ K=(COp.obsB env true (.mv x)∧COp.pre hp (evF env) (.mv x)∧optK (COp.val hp (evF env) (.mv x)) (kC P d dp r env K hp n)):=q_v rfl rfl
theorem d_mv {P:Program} {n0 N1 i:Nat} {d:Option Nat} {dp un bf:List Nat} {lg:Bool} {env:EN} {hp:CH} {K:AV→CH→List Nat→Bool→Prop} {x}:dOp2 P n0 N1 i ⟨⟨d,.mv x,none,dp,false⟩,un,lg,bf⟩ env hp K=(COp.obsB env true (.mv x)∧COp.pre hp (evF env) (.mv x)∧optK (COp.val hp (evF env) (.mv x)) (dV K (COp.rd (evF env) (.mv x)))):=d_v rfl rfl
attribute [go_sem] q_mv d_mv
theorem q_pk {P:Program} {d:Option Nat} {dp:List Nat} {r:List CO} {env:EN} {hp:CH} {n:Nat} {K:St→Prop} {c} {a} {b}:vcOps P (⟨d,.pk c a b,none,dp,false⟩::r) ⟨env,hp,n⟩ K=(COp.obsB env true (.pk c a b)∧COp.pre hp (evF env) (.pk c a b)∧optK (COp.val hp (evF env) (.pk c a b)) (kC P d dp r env K hp n)):=q_v rfl rfl
theorem d_pk {P:Program} {n0 N1 i:Nat} {d:Option Nat} {dp un bf:List Nat} {lg:Bool} {env:EN} {hp:CH} {K:AV→CH→List Nat→Bool→Prop} {c} {a} {b}:dOp2 P n0 N1 i ⟨⟨d,.pk c a b,none,dp,false⟩,un,lg,bf⟩ env hp K=(COp.obsB env true (.pk c a b)∧COp.pre hp (evF env) (.pk c a b)∧optK (COp.val hp (evF env) (.pk c a b)) (dV K (COp.rd (evF env) (.pk c a b)))):=d_v rfl rfl
attribute [go_sem] q_pk d_pk
theorem q_bd {P:Program} {d:Option Nat} {dp:List Nat} {r:List CO} {env:EN} {hp:CH} {n:Nat} {K:St→Prop} {z} {ps}:vcOps P (⟨d,.bd z ps,none,dp,false⟩::r) ⟨env,hp,n⟩ K=(COp.obsB env true (.bd z ps)∧COp.pre hp (evF env) (.bd z ps)∧optK (COp.val hp (evF env) (.bd z ps)) (kC P d dp r env K hp n)):=q_v rfl rfl
theorem d_bd {P:Program} {n0 N1 i:Nat} {d:Option Nat} {dp un bf:List Nat} {lg:Bool} {env:EN} {hp:CH} {K:AV→CH→List Nat→Bool→Prop} {z} {ps}:dOp2 P n0 N1 i ⟨⟨d,.bd z ps,none,dp,false⟩,un,lg,bf⟩ env hp K=(COp.obsB env true (.bd z ps)∧COp.pre hp (evF env) (.bd z ps)∧optK (COp.val hp (evF env) (.bd z ps)) (dV K (COp.rd (evF env) (.bd z ps)))):=d_v rfl rfl
attribute [go_sem] q_bd d_bd
theorem q_bin {P:Program} {d:Option Nat} {dp:List Nat} {r:List CO} {env:EN} {hp:CH} {n:Nat} {K:St→Prop} {op} {c} {x} {y}:vcOps P (⟨d,.bin op c x y,none,dp,false⟩::r) ⟨env,hp,n⟩ K=(COp.obsB env true (.bin op c x y)∧COp.pre hp (evF env) (.bin op c x y)∧optK (COp.val hp (evF env) (.bin op c x y)) (kC P d dp r env K hp n)):=q_v rfl rfl
theorem d_bin {P:Program} {n0 N1 i:Nat} {d:Option Nat} {dp un bf:List Nat} {lg:Bool} {env:EN} {hp:CH} {K:AV→CH→List Nat→Bool→Prop} {op} {c} {x} {y}:dOp2 P n0 N1 i ⟨⟨d,.bin op c x y,none,dp,false⟩,un,lg,bf⟩ env hp K=(COp.obsB env true (.bin op c x y)∧COp.pre hp (evF env) (.bin op c x y)∧optK (COp.val hp (evF env) (.bin op c x y)) (dV K (COp.rd (evF env) (.bin op c x y)))):=d_v rfl rfl
attribute [go_sem] q_bin d_bin
theorem q_un {P:Program} {d:Option Nat} {dp:List Nat} {r:List CO} {env:EN} {hp:CH} {n:Nat} {K:St→Prop} {op} {x}:vcOps P (⟨d,.un op x,none,dp,false⟩::r) ⟨env,hp,n⟩ K=(COp.obsB env true (.un op x)∧COp.pre hp (evF env) (.un op x)∧optK (COp.val hp (evF env) (.un op x)) (kC P d dp r env K hp n)):=q_v rfl rfl
theorem d_un {P:Program} {n0 N1 i:Nat} {d:Option Nat} {dp un bf:List Nat} {lg:Bool} {env:EN} {hp:CH} {K:AV→CH→List Nat→Bool→Prop} {op} {x}:dOp2 P n0 N1 i ⟨⟨d,.un op x,none,dp,false⟩,un,lg,bf⟩ env hp K=(COp.obsB env true (.un op x)∧COp.pre hp (evF env) (.un op x)∧optK (COp.val hp (evF env) (.un op x)) (dV K (COp.rd (evF env) (.un op x)))):=d_v rfl rfl
attribute [go_sem] q_un d_un
theorem q_ci {P:Program} {d:Option Nat} {dp:List Nat} {r:List CO} {env:EN} {hp:CH} {n:Nat} {K:St→Prop} {k} {x}:vcOps P (⟨d,.ci k x,none,dp,false⟩::r) ⟨env,hp,n⟩ K=(COp.obsB env true (.ci k x)∧COp.pre hp (evF env) (.ci k x)∧optK (COp.val hp (evF env) (.ci k x)) (kC P d dp r env K hp n)):=q_v rfl rfl
attribute [go_sem] q_ci
theorem q_cb {P:Program} {d:Option Nat} {dp:List Nat} {r:List CO} {env:EN} {hp:CH} {n:Nat} {K:St→Prop} {x}:vcOps P (⟨d,.cb x,none,dp,false⟩::r) ⟨env,hp,n⟩ K=(COp.obsB env true (.cb x)∧COp.pre hp (evF env) (.cb x)∧optK (COp.val hp (evF env) (.cb x)) (kC P d dp r env K hp n)):=q_v rfl rfl
attribute [go_sem] q_cb
theorem q_mf {P:Program} {d:Option Nat} {dp:List Nat} {r:List CO} {env:EN} {hp:CH} {n:Nat} {K:St→Prop} {f} {xs}:vcOps P (⟨d,.mf f xs,none,dp,false⟩::r) ⟨env,hp,n⟩ K=(COp.obsB env true (.mf f xs)∧COp.pre hp (evF env) (.mf f xs)∧optK (COp.val hp (evF env) (.mf f xs)) (kC P d dp r env K hp n)):=q_v rfl rfl
attribute [go_sem] q_mf
theorem q_fa {P:Program} {d:Option Nat} {dp:List Nat} {r:List CO} {env:EN} {hp:CH} {n:Nat} {K:St→Prop} {x} {off}:vcOps P (⟨d,.fa x off,none,dp,false⟩::r) ⟨env,hp,n⟩ K=(COp.obsB env true (.fa x off)∧COp.pre hp (evF env) (.fa x off)∧optK (COp.val hp (evF env) (.fa x off)) (kC P d dp r env K hp n)):=q_v rfl rfl
theorem d_fa {P:Program} {n0 N1 i:Nat} {d:Option Nat} {dp un bf:List Nat} {lg:Bool} {env:EN} {hp:CH} {K:AV→CH→List Nat→Bool→Prop} {x} {off}:dOp2 P n0 N1 i ⟨⟨d,.fa x off,none,dp,false⟩,un,lg,bf⟩ env hp K=(COp.obsB env true (.fa x off)∧COp.pre hp (evF env) (.fa x off)∧optK (COp.val hp (evF env) (.fa x off)) (dV K (COp.rd (evF env) (.fa x off)))):=d_v rfl rfl
attribute [go_sem] q_fa d_fa
theorem q_ia {P:Program} {d:Option Nat} {dp:List Nat} {r:List CO} {env:EN} {hp:CH} {n:Nat} {K:St→Prop} {x} {j} {z}:vcOps P (⟨d,.ia x j z,none,dp,false⟩::r) ⟨env,hp,n⟩ K=(COp.obsB env true (.ia x j z)∧COp.pre hp (evF env) (.ia x j z)∧optK (COp.val hp (evF env) (.ia x j z)) (kC P d dp r env K hp n)):=q_v rfl rfl
theorem d_ia {P:Program} {n0 N1 i:Nat} {d:Option Nat} {dp un bf:List Nat} {lg:Bool} {env:EN} {hp:CH} {K:AV→CH→List Nat→Bool→Prop} {x} {j} {z}:dOp2 P n0 N1 i ⟨⟨d,.ia x j z,none,dp,false⟩,un,lg,bf⟩ env hp K=(COp.obsB env true (.ia x j z)∧COp.pre hp (evF env) (.ia x j z)∧optK (COp.val hp (evF env) (.ia x j z)) (dV K (COp.rd (evF env) (.ia x j z)))):=d_v rfl rfl
attribute [go_sem] q_ia d_ia
theorem q_ex {P:Program} {d:Option Nat} {dp:List Nat} {r:List CO} {env:EN} {hp:CH} {n:Nat} {K:St→Prop} {x} {j}:vcOps P (⟨d,.ex x j,none,dp,false⟩::r) ⟨env,hp,n⟩ K=(COp.obsB env true (.ex x j)∧COp.pre hp (evF env) (.ex x j)∧optK (COp.val hp (evF env) (.ex x j)) (kC P d dp r env K hp n)):=q_v rfl rfl
theorem d_ex {P:Program} {n0 N1 i:Nat} {d:Option Nat} {dp un bf:List Nat} {lg:Bool} {env:EN} {hp:CH} {K:AV→CH→List Nat→Bool→Prop} {x} {j}:dOp2 P n0 N1 i ⟨⟨d,.ex x j,none,dp,false⟩,un,lg,bf⟩ env hp K=(COp.obsB env true (.ex x j)∧COp.pre hp (evF env) (.ex x j)∧optK (COp.val hp (evF env) (.ex x j)) (dV K (COp.rd (evF env) (.ex x j)))):=d_v rfl rfl
attribute [go_sem] q_ex d_ex
theorem q_ln {P:Program} {d:Option Nat} {dp:List Nat} {r:List CO} {env:EN} {hp:CH} {n:Nat} {K:St→Prop} {str} {x}:vcOps P (⟨d,.ln str x,none,dp,false⟩::r) ⟨env,hp,n⟩ K=(COp.obsB env true (.ln str x)∧COp.pre hp (evF env) (.ln str x)∧optK (COp.val hp (evF env) (.ln str x)) (kC P d dp r env K hp n)):=q_v rfl rfl
theorem d_ln {P:Program} {n0 N1 i:Nat} {d:Option Nat} {dp un bf:List Nat} {lg:Bool} {env:EN} {hp:CH} {K:AV→CH→List Nat→Bool→Prop} {str} {x}:dOp2 P n0 N1 i ⟨⟨d,.ln str x,none,dp,false⟩,un,lg,bf⟩ env hp K=(COp.obsB env true (.ln str x)∧COp.pre hp (evF env) (.ln str x)∧optK (COp.val hp (evF env) (.ln str x)) (dV K (COp.rd (evF env) (.ln str x)))):=d_v rfl rfl
attribute [go_sem] q_ln d_ln
theorem d_sc {P:Program} {n0 N1 i:Nat} {d:Option Nat} {dp un bf:List Nat} {lg:Bool} {env:EN} {hp:CH} {K:AV→CH→List Nat→Bool→Prop} {x} {lo} {hi} {z}:dOp2 P n0 N1 i ⟨⟨d,.sc x lo hi z,none,dp,false⟩,un,lg,bf⟩ env hp K=(COp.obsB env true (.sc x lo hi z)∧COp.pre hp (evF env) (.sc x lo hi z)∧optK (COp.val hp (evF env) (.sc x lo hi z)) (dV K (COp.rd (evF env) (.sc x lo hi z)))):=d_v rfl rfl
attribute [go_sem] d_sc
theorem q_ix {P:Program} {d:Option Nat} {dp:List Nat} {r:List CO} {env:EN} {hp:CH} {n:Nat} {K:St→Prop} {x} {j}:vcOps P (⟨d,.ix x j,none,dp,false⟩::r) ⟨env,hp,n⟩ K=(COp.obsB env true (.ix x j)∧COp.pre hp (evF env) (.ix x j)∧optK (COp.val hp (evF env) (.ix x j)) (kC P d dp r env K hp n)):=q_v rfl rfl
attribute [go_sem] q_ix
theorem q_mm {P:Program} {d:Option Nat} {dp:List Nat} {r:List CO} {env:EN} {hp:CH} {n:Nat} {K:St→Prop} {mx} {x} {y}:vcOps P (⟨d,.mm mx x y,none,dp,false⟩::r) ⟨env,hp,n⟩ K=(COp.obsB env true (.mm mx x y)∧COp.pre hp (evF env) (.mm mx x y)∧optK (COp.val hp (evF env) (.mm mx x y)) (kC P d dp r env K hp n)):=q_v rfl rfl
attribute [go_sem] q_mm
theorem q_nc {P:Program} {d:Option Nat} {dp:List Nat} {r:List CO} {env:EN} {hp:CH} {n:Nat} {K:St→Prop} {x}:vcOps P (⟨d,.nc x,none,dp,false⟩::r) ⟨env,hp,n⟩ K=(COp.obsB env true (.nc x)∧COp.pre hp (evF env) (.nc x)∧optK (COp.val hp (evF env) (.nc x)) (kC P d dp r env K hp n)):=q_v rfl rfl
theorem d_nc {P:Program} {n0 N1 i:Nat} {d:Option Nat} {dp un bf:List Nat} {lg:Bool} {env:EN} {hp:CH} {K:AV→CH→List Nat→Bool→Prop} {x}:dOp2 P n0 N1 i ⟨⟨d,.nc x,none,dp,false⟩,un,lg,bf⟩ env hp K=(COp.obsB env true (.nc x)∧COp.pre hp (evF env) (.nc x)∧optK (COp.val hp (evF env) (.nc x)) (dV K (COp.rd (evF env) (.nc x)))):=d_v rfl rfl
attribute [go_sem] q_nc d_nc
theorem q_lk {P:Program} {d:Option Nat} {dp:List Nat} {r:List CO} {env:EN} {hp:CH} {n:Nat} {K:St→Prop} {x} {s} {ok} {z}:vcOps P (⟨d,.lk x s ok z,none,dp,false⟩::r) ⟨env,hp,n⟩ K=(COp.obsB env true (.lk x s ok z)∧COp.pre hp (evF env) (.lk x s ok z)∧optK (COp.val hp (evF env) (.lk x s ok z)) (kC P d dp r env K hp n)):=q_v rfl rfl
attribute [go_sem] q_lk
theorem q_ai {P:Program} {d:Option Nat} {dp:List Nat} {r:List CO} {env:EN} {hp:CH} {n:Nat} {K:St→Prop} {x} {j} {len} {m} {ag}:vcOps P (⟨d,.ai x j len m ag,none,dp,false⟩::r) ⟨env,hp,n⟩ K=(COp.obsB env true (.ai x j len m ag)∧COp.pre hp (evF env) (.ai x j len m ag)∧optK (COp.val hp (evF env) (.ai x j len m ag)) (kC P d dp r env K hp n)):=q_v rfl rfl
attribute [go_sem] q_ai
/-! ### Under a guard -/
section
variable {P:Program} {d:Option Nat} {env:EN} {hp:CH} {n:Nat} {K:St→Prop} {g:Option (Nat × Bool)} {G:Bool}
theorem g_val {op:COp} (h:soft op env=true):gK P d op g ⟨env,hp,n⟩ K G=(COp.obsB env G op∧imp G (COp.pre hp (evF env) op)∧imp G ((COp.val hp (evF env) op).isSome=true)∧K ⟨EN.set env d (.gd G ((COp.val hp (evF env) op).getD .un)),hp,n⟩):=by
 unfold gK vcG
 rw [if_pos h]
 rfl
theorem g_cl {f:Nat} {xs:List Src}:gK P d (.cl f xs) g ⟨env,hp,n⟩ K G=(oblB env G xs∧gCall P f hp n (xs.map (evF env)) G (gC env d K)):=nd rfl
theorem g_run {op:COp} (h:soft op env=false) (h2:op.isC=false):gK P d op g ⟨env,hp,n⟩ K G=grK P ⟨d,op,none,[],false⟩ d ⟨env,hp,n⟩ K G:=by
 unfold gK vcG
 rw [if_neg (by simpa using h)]
 cases op<;>first | rfl | (simp [COp.isC] at h2)
def glK (P:Program) (d:Option Nat) (x:Src) (m:Nat) (ag:Bool) (env:EN) (hp:CH) (n:Nat) (K:St→Prop) (G:Bool):AV→Prop
 | .ep _ _ _ _=>grK P ⟨d,.ld x m ag,none,[],false⟩ d ⟨env,hp,n⟩ K G
 | α=>obB G (x.ev env)∧imp G ((ldc hp m α).isSome=true)∧K ⟨EN.set env d (.gd G (((ldc hp m α).map (ldV ag)).getD .un)),hp,n⟩
theorem glK_e {x:Src} {m:Nat} {ag:Bool} {α:AV} {z i off:Nat}:glK P d x m ag env hp n K G (.ep α z i off)=grK P ⟨d,.ld x m ag,none,[],false⟩ d ⟨env,hp,n⟩ K G:=nd rfl
theorem glK_b {x:Src} {m:Nat} {ag:Bool} {k off:Nat}:glK P d x m ag env hp n K G (.bx k off)=(obB G (x.ev env)∧imp G ((ldc hp m (.bx k off)).isSome=true)∧K ⟨EN.set env d (.gd G (((ldc hp m (.bx k off)).map (ldV ag)).getD .un)),hp,n⟩):=nd rfl
theorem ldV_eq (ag:Bool):(fun cs:List AV=>if ag then AV.ag cs else cs.getD 0 .un)=ldV ag:=by
 funext cs
 cases ag<;>rfl
theorem g_ld {x:Src} {m:Nat} {ag:Bool}:gK P d (.ld x m ag) g ⟨env,hp,n⟩ K G=glK P d x m ag env hp n K G (evF env x):=by
 have hv:∀(h:soft (.ld x m ag) env=true),gK P d (.ld x m ag) g ⟨env,hp,n⟩ K G=(obB G (x.ev env)∧imp G ((ldc hp m (evF env x)).isSome=true)∧K ⟨EN.set env d (.gd G (((ldc hp m (evF env x)).map (ldV ag)).getD .un)),hp,n⟩):=by
  intro h
  rw [g_val h]
  simp only [COp.obsB,COp.pre,COp.val,ldV_eq,Option.isSome_map,imp,implies_true,true_and]
 show _=glK P d x m ag env hp n K G (fet (x.ev env))
 cases h:fet (x.ev env) with
 | ep α z i off =>
  rw [glK_e]
  unfold gK vcG
  rw [if_neg (by simp [soft,h])]
  rfl
 | _=>exact (hv (by simp only [soft,h])).trans (by simp only [glK,evF,h])
end
attribute [go_sem] g_cl glK_e glK_b g_ld
/-! ### Regions that draw -/
def dK (P:Program) (n0 N1 i:Nat) (un:List Nat) (lg:Bool) (d:Option Nat) (r:List DO) (env:EN) (hp:CH) (l:List LE) (K:EN→CH→Prop) (α:AV) (ws:CH) (R:List Nat) (c:Bool):Prop :=
 cfs n0 i un R (keys ws) c l∧vcD2 P n0 N1 (i+1) r (EN.set env d α) (ws++hp) (lgK lg ⟨i,R,keys ws,c⟩ l) K
def dE (K:AV→CH→List Nat→Bool→Prop) (a:AV × CH × List Nat):Prop:=K a.1 a.2.1 a.2.2 false
def dCR (K:AV→CH→List Nat→Bool→Prop) (r:AV) (ws:CH):Prop:=K r ws [] true
def dCg (K:AV→CH→List Nat→Bool→Prop) (G:Bool) (r:AV):Prop:=K (.gd G r) [] [] true
def dgK (P:Program) (n0 N1 i:Nat) (op:COp) (bf:List Nat) (env:EN) (hp:CH) (K:AV→CH→List Nat→Bool→Prop) (G:Bool):Prop:=dG P n0 N1 i ⟨⟨none,op,none,[],false⟩,[],false,bf⟩ env hp G K
section
variable {P:Program} {n0 N1 i:Nat} {d:Option Nat} {dp un bf:List Nat} {lg:Bool} {env:EN} {hp:CH} {K:AV→CH→List Nat→Bool→Prop}
theorem dK_eq {r:List DO} {l:List LE} {K:EN→CH→Prop} {α:AV} {ws:CH} {R:List Nat} {c:Bool}:dK P n0 N1 i un lg d r env hp l K α ws R c=(cfs n0 i un R (keys ws) c l∧vcD2 P n0 N1 (i+1) r (EN.set env d α) (ws++hp) (lgK lg ⟨i,R,keys ws,c⟩ l) K):=nd rfl
theorem dE_eq {α:AV} {ws:CH} {R:List Nat}:dE K (α,ws,R)=K α ws R false:=nd rfl
theorem dCR_eq {r:AV} {ws:CH}:dCR K r ws=K r ws [] true:=nd rfl
theorem dCg_eq {G:Bool} {r:AV}:dCg K G r=K (.gd G r) [] [] true:=nd rfl
theorem D_nil {l:List LE} {K:EN→CH→Prop}:vcD2 P n0 N1 i [] env hp l K=K env hp:=nd rfl
theorem D_cons {o:CO} {r:List DO} {l:List LE} {K:EN→CH→Prop}:vcD2 P n0 N1 i (⟨o,un,lg,bf⟩::r) env hp l K=dOp2 P n0 N1 i ⟨o,un,lg,bf⟩ env hp (dK P n0 N1 i un lg o.dst r env hp l K):=by
 show dOp2 P n0 N1 i _ env hp _=_
 congr 1
theorem d_ld {x:Src} {m:Nat} {ag:Bool}:dOp2 P n0 N1 i ⟨⟨d,.ld x m ag,none,dp,false⟩,un,lg,bf⟩ env hp K=(obB true (x.ev env)∧ldK hp m ag (dV K (evF env x).ids) (evF env x)):=by
 show (_∧_)=_
 congr 1
 unfold dRun2
 simp only [COp.isV]
 exact ldK_of (f:=evF env)
theorem d_eff {op:COp} (h1:op.isV=false) (h2:op.isC=false):dOp2 P n0 N1 i ⟨⟨d,op,none,dp,false⟩,un,lg,bf⟩ env hp K=(COp.obsB env true op∧op.effP hp (evF env)∧optK (op.eff hp (evF env) (n0+i)) (dE K)):=by
 show (_∧_)=(_∧_)
 congr 1
 unfold dRun2
 generalize hE:COp.eff hp (evF env) (n0+i) op=E
 have hE':COp.eff hp (fun s=>fet (s.ev env)) (n0+i) op=E:=hE
 cases op<;>first | (simp [COp.isC] at h2;done) | (simp [COp.isV] at h1;done) | skip
 all_goals
  simp only [COp.isV,dRun]
  rw [hE']
  cases E<;>rfl
theorem d_cl {f:Nat} {xs:List Src}:dOp2 P n0 N1 i ⟨⟨d,.cl f xs,none,dp,false⟩,un,lg,bf⟩ env hp K=(oblB env true xs∧dCallR P f n0 bf hp N1 (xs.map (evF env)) (n0+i) (dCR K)):=nd rfl
theorem d_g {op:COp} {t:Nat} {want:Bool}:dOp2 P n0 N1 i ⟨⟨d,op,some (t,want),dp,false⟩,un,lg,bf⟩ env hp K=gdK (ge env t) want (dgK P n0 N1 i op bf env hp K):=by
 have key:∀G,dG P n0 N1 i ⟨⟨d,op,some (t,want),dp,false⟩,un,lg,bf⟩ env hp G K=dgK P n0 N1 i op bf env hp K G:=fun G=>by
  unfold dgK
  cases op<;>rfl
 unfold dOp2 dOp
 simp only
 cases h:ge env t with
 | gd c x=>cases x<;>first | rfl | exact key _ | (cases c<;>first | rfl | exact key _)
 | _=>first | rfl | exact key _
theorem dG_val {op:COp} {G:Bool} (h:op.isV=true):dgK P n0 N1 i op bf env hp K G=(COp.obsB env G op∧imp G (COp.pre hp (evF env) op)∧imp G ((COp.val hp (evF env) op).isSome=true)∧K (.gd G ((COp.val hp (evF env) op).getD .un)) [] (COp.rd (evF env) op) false):=by
 unfold dgK dG
 cases op<;>first | (simp [COp.isV] at h;done) | rfl
theorem dG_cl {f:Nat} {xs:List Src} {G:Bool}:dgK P n0 N1 i (.cl f xs) bf env hp K G=(oblB env G xs∧dCall P f n0 bf hp N1 (xs.map (evF env)) G (dCg K G)):=nd rfl
end
attribute [go_sem] dK_eq dE_eq dCR_eq dCg_eq D_nil D_cons lgK d_ld d_cl d_g dG_cl
theorem e_ld {P:Program} {n0 N1 i:Nat} {bf:List Nat} {env:EN} {hp:CH} {K:AV→CH→List Nat→Bool→Prop} {G:Bool} {x:Src} {m:Nat} {ag:Bool}:dgK P n0 N1 i (.ld x m ag) bf env hp K G=(COp.obsB env G (.ld x m ag)∧imp G (COp.pre hp (evF env) (.ld x m ag))∧imp G ((COp.val hp (evF env) (.ld x m ag)).isSome=true)∧K (.gd G ((COp.val hp (evF env) (.ld x m ag)).getD .un)) [] (COp.rd (evF env) (.ld x m ag)) false):=dG_val rfl
attribute [go_sem] e_ld
theorem g_mv {P:Program} {d:Option Nat} {env:EN} {hp:CH} {n:Nat} {K:St→Prop} {g:Option (Nat × Bool)} {G:Bool} {x}:gK P d (.mv x) g ⟨env,hp,n⟩ K G=(COp.obsB env G (.mv x)∧imp G (COp.pre hp (evF env) (.mv x))∧imp G ((COp.val hp (evF env) (.mv x)).isSome=true)∧K ⟨EN.set env d (.gd G ((COp.val hp (evF env) (.mv x)).getD .un)),hp,n⟩):=g_val rfl
theorem e_mv {P:Program} {n0 N1 i:Nat} {bf:List Nat} {env:EN} {hp:CH} {K:AV→CH→List Nat→Bool→Prop} {G:Bool} {x}:dgK P n0 N1 i (.mv x) bf env hp K G=(COp.obsB env G (.mv x)∧imp G (COp.pre hp (evF env) (.mv x))∧imp G ((COp.val hp (evF env) (.mv x)).isSome=true)∧K (.gd G ((COp.val hp (evF env) (.mv x)).getD .un)) [] (COp.rd (evF env) (.mv x)) false):=dG_val rfl
attribute [go_sem] g_mv e_mv
theorem g_pk {P:Program} {d:Option Nat} {env:EN} {hp:CH} {n:Nat} {K:St→Prop} {g:Option (Nat × Bool)} {G:Bool} {c} {a} {b}:gK P d (.pk c a b) g ⟨env,hp,n⟩ K G=(COp.obsB env G (.pk c a b)∧imp G (COp.pre hp (evF env) (.pk c a b))∧imp G ((COp.val hp (evF env) (.pk c a b)).isSome=true)∧K ⟨EN.set env d (.gd G ((COp.val hp (evF env) (.pk c a b)).getD .un)),hp,n⟩):=g_val rfl
attribute [go_sem] g_pk
theorem g_bd {P:Program} {d:Option Nat} {env:EN} {hp:CH} {n:Nat} {K:St→Prop} {g:Option (Nat × Bool)} {G:Bool} {z} {ps}:gK P d (.bd z ps) g ⟨env,hp,n⟩ K G=(COp.obsB env G (.bd z ps)∧imp G (COp.pre hp (evF env) (.bd z ps))∧imp G ((COp.val hp (evF env) (.bd z ps)).isSome=true)∧K ⟨EN.set env d (.gd G ((COp.val hp (evF env) (.bd z ps)).getD .un)),hp,n⟩):=g_val rfl
attribute [go_sem] g_bd
theorem g_bin {P:Program} {d:Option Nat} {env:EN} {hp:CH} {n:Nat} {K:St→Prop} {g:Option (Nat × Bool)} {G:Bool} {op} {c} {x} {y}:gK P d (.bin op c x y) g ⟨env,hp,n⟩ K G=(COp.obsB env G (.bin op c x y)∧imp G (COp.pre hp (evF env) (.bin op c x y))∧imp G ((COp.val hp (evF env) (.bin op c x y)).isSome=true)∧K ⟨EN.set env d (.gd G ((COp.val hp (evF env) (.bin op c x y)).getD .un)),hp,n⟩):=g_val rfl
theorem e_bin {P:Program} {n0 N1 i:Nat} {bf:List Nat} {env:EN} {hp:CH} {K:AV→CH→List Nat→Bool→Prop} {G:Bool} {op} {c} {x} {y}:dgK P n0 N1 i (.bin op c x y) bf env hp K G=(COp.obsB env G (.bin op c x y)∧imp G (COp.pre hp (evF env) (.bin op c x y))∧imp G ((COp.val hp (evF env) (.bin op c x y)).isSome=true)∧K (.gd G ((COp.val hp (evF env) (.bin op c x y)).getD .un)) [] (COp.rd (evF env) (.bin op c x y)) false):=dG_val rfl
attribute [go_sem] g_bin e_bin
theorem g_un {P:Program} {d:Option Nat} {env:EN} {hp:CH} {n:Nat} {K:St→Prop} {g:Option (Nat × Bool)} {G:Bool} {op} {x}:gK P d (.un op x) g ⟨env,hp,n⟩ K G=(COp.obsB env G (.un op x)∧imp G (COp.pre hp (evF env) (.un op x))∧imp G ((COp.val hp (evF env) (.un op x)).isSome=true)∧K ⟨EN.set env d (.gd G ((COp.val hp (evF env) (.un op x)).getD .un)),hp,n⟩):=g_val rfl
theorem e_un {P:Program} {n0 N1 i:Nat} {bf:List Nat} {env:EN} {hp:CH} {K:AV→CH→List Nat→Bool→Prop} {G:Bool} {op} {x}:dgK P n0 N1 i (.un op x) bf env hp K G=(COp.obsB env G (.un op x)∧imp G (COp.pre hp (evF env) (.un op x))∧imp G ((COp.val hp (evF env) (.un op x)).isSome=true)∧K (.gd G ((COp.val hp (evF env) (.un op x)).getD .un)) [] (COp.rd (evF env) (.un op x)) false):=dG_val rfl
attribute [go_sem] g_un e_un
theorem g_mf {P:Program} {d:Option Nat} {env:EN} {hp:CH} {n:Nat} {K:St→Prop} {g:Option (Nat × Bool)} {G:Bool} {f} {xs}:gK P d (.mf f xs) g ⟨env,hp,n⟩ K G=(COp.obsB env G (.mf f xs)∧imp G (COp.pre hp (evF env) (.mf f xs))∧imp G ((COp.val hp (evF env) (.mf f xs)).isSome=true)∧K ⟨EN.set env d (.gd G ((COp.val hp (evF env) (.mf f xs)).getD .un)),hp,n⟩):=g_val rfl
attribute [go_sem] g_mf
theorem g_fa {P:Program} {d:Option Nat} {env:EN} {hp:CH} {n:Nat} {K:St→Prop} {g:Option (Nat × Bool)} {G:Bool} {x} {off}:gK P d (.fa x off) g ⟨env,hp,n⟩ K G=(COp.obsB env G (.fa x off)∧imp G (COp.pre hp (evF env) (.fa x off))∧imp G ((COp.val hp (evF env) (.fa x off)).isSome=true)∧K ⟨EN.set env d (.gd G ((COp.val hp (evF env) (.fa x off)).getD .un)),hp,n⟩):=g_val rfl
theorem e_fa {P:Program} {n0 N1 i:Nat} {bf:List Nat} {env:EN} {hp:CH} {K:AV→CH→List Nat→Bool→Prop} {G:Bool} {x} {off}:dgK P n0 N1 i (.fa x off) bf env hp K G=(COp.obsB env G (.fa x off)∧imp G (COp.pre hp (evF env) (.fa x off))∧imp G ((COp.val hp (evF env) (.fa x off)).isSome=true)∧K (.gd G ((COp.val hp (evF env) (.fa x off)).getD .un)) [] (COp.rd (evF env) (.fa x off)) false):=dG_val rfl
attribute [go_sem] g_fa e_fa
theorem g_ia {P:Program} {d:Option Nat} {env:EN} {hp:CH} {n:Nat} {K:St→Prop} {g:Option (Nat × Bool)} {G:Bool} {x} {j} {z}:gK P d (.ia x j z) g ⟨env,hp,n⟩ K G=(COp.obsB env G (.ia x j z)∧imp G (COp.pre hp (evF env) (.ia x j z))∧imp G ((COp.val hp (evF env) (.ia x j z)).isSome=true)∧K ⟨EN.set env d (.gd G ((COp.val hp (evF env) (.ia x j z)).getD .un)),hp,n⟩):=g_val rfl
theorem e_ia {P:Program} {n0 N1 i:Nat} {bf:List Nat} {env:EN} {hp:CH} {K:AV→CH→List Nat→Bool→Prop} {G:Bool} {x} {j} {z}:dgK P n0 N1 i (.ia x j z) bf env hp K G=(COp.obsB env G (.ia x j z)∧imp G (COp.pre hp (evF env) (.ia x j z))∧imp G ((COp.val hp (evF env) (.ia x j z)).isSome=true)∧K (.gd G ((COp.val hp (evF env) (.ia x j z)).getD .un)) [] (COp.rd (evF env) (.ia x j z)) false):=dG_val rfl
attribute [go_sem] g_ia e_ia
theorem g_ln {P:Program} {d:Option Nat} {env:EN} {hp:CH} {n:Nat} {K:St→Prop} {g:Option (Nat × Bool)} {G:Bool} {str} {x}:gK P d (.ln str x) g ⟨env,hp,n⟩ K G=(COp.obsB env G (.ln str x)∧imp G (COp.pre hp (evF env) (.ln str x))∧imp G ((COp.val hp (evF env) (.ln str x)).isSome=true)∧K ⟨EN.set env d (.gd G ((COp.val hp (evF env) (.ln str x)).getD .un)),hp,n⟩):=g_val rfl
theorem e_ln {P:Program} {n0 N1 i:Nat} {bf:List Nat} {env:EN} {hp:CH} {K:AV→CH→List Nat→Bool→Prop} {G:Bool} {str} {x}:dgK P n0 N1 i (.ln str x) bf env hp K G=(COp.obsB env G (.ln str x)∧imp G (COp.pre hp (evF env) (.ln str x))∧imp G ((COp.val hp (evF env) (.ln str x)).isSome=true)∧K (.gd G ((COp.val hp (evF env) (.ln str x)).getD .un)) [] (COp.rd (evF env) (.ln str x)) false):=dG_val rfl
attribute [go_sem] g_ln e_ln
theorem g_ix {P:Program} {d:Option Nat} {env:EN} {hp:CH} {n:Nat} {K:St→Prop} {g:Option (Nat × Bool)} {G:Bool} {x} {j}:gK P d (.ix x j) g ⟨env,hp,n⟩ K G=(COp.obsB env G (.ix x j)∧imp G (COp.pre hp (evF env) (.ix x j))∧imp G ((COp.val hp (evF env) (.ix x j)).isSome=true)∧K ⟨EN.set env d (.gd G ((COp.val hp (evF env) (.ix x j)).getD .un)),hp,n⟩):=g_val rfl
attribute [go_sem] g_ix
theorem g_nc {P:Program} {d:Option Nat} {env:EN} {hp:CH} {n:Nat} {K:St→Prop} {g:Option (Nat × Bool)} {G:Bool} {x}:gK P d (.nc x) g ⟨env,hp,n⟩ K G=(COp.obsB env G (.nc x)∧imp G (COp.pre hp (evF env) (.nc x))∧imp G ((COp.val hp (evF env) (.nc x)).isSome=true)∧K ⟨EN.set env d (.gd G ((COp.val hp (evF env) (.nc x)).getD .un)),hp,n⟩):=g_val rfl
attribute [go_sem] g_nc
theorem d_al {P:Program} {n0 N1 i:Nat} {d:Option Nat} {dp un bf:List Nat} {lg:Bool} {env:EN} {hp:CH} {K:AV→CH→List Nat→Bool→Prop} {z}:dOp2 P n0 N1 i ⟨⟨d,.al z,none,dp,false⟩,un,lg,bf⟩ env hp K=(COp.obsB env true (.al z)∧COp.effP hp (evF env) (.al z)∧optK (COp.eff hp (evF env) (n0+i) (.al z)) (dE K)):=d_eff rfl rfl
attribute [go_sem] d_al
theorem d_st {P:Program} {n0 N1 i:Nat} {d:Option Nat} {dp un bf:List Nat} {lg:Bool} {env:EN} {hp:CH} {K:AV→CH→List Nat→Bool→Prop} {x} {y} {m}:dOp2 P n0 N1 i ⟨⟨d,.st x y m,none,dp,false⟩,un,lg,bf⟩ env hp K=(COp.obsB env true (.st x y m)∧COp.effP hp (evF env) (.st x y m)∧optK (COp.eff hp (evF env) (n0+i) (.st x y m)) (dE K)):=d_eff rfl rfl
attribute [go_sem] d_st
theorem g_mk {P:Program} {d:Option Nat} {env:EN} {hp:CH} {n:Nat} {K:St→Prop} {g:Option (Nat × Bool)} {G:Bool} :gK P d (.mk ) g ⟨env,hp,n⟩ K G=grK P ⟨d,.mk ,none,[],false⟩ d ⟨env,hp,n⟩ K G:=g_run rfl rfl
attribute [go_sem] g_mk
theorem d_bs {P:Program} {n0 N1 i:Nat} {d:Option Nat} {dp un bf:List Nat} {lg:Bool} {env:EN} {hp:CH} {K:AV→CH→List Nat→Bool→Prop} {fz} {m} {ps}:dOp2 P n0 N1 i ⟨⟨d,.bs fz m ps,none,dp,false⟩,un,lg,bf⟩ env hp K=(COp.obsB env true (.bs fz m ps)∧COp.effP hp (evF env) (.bs fz m ps)∧optK (COp.eff hp (evF env) (n0+i) (.bs fz m ps)) (dE K)):=d_eff rfl rfl
attribute [go_sem] d_bs
theorem d_ap {P:Program} {n0 N1 i:Nat} {d:Option Nat} {dp un bf:List Nat} {lg:Bool} {env:EN} {hp:CH} {K:AV→CH→List Nat→Bool→Prop} {x} {y} {m} {b}:dOp2 P n0 N1 i ⟨⟨d,.ap x y m b,none,dp,false⟩,un,lg,bf⟩ env hp K=(COp.obsB env true (.ap x y m b)∧COp.effP hp (evF env) (.ap x y m b)∧optK (COp.eff hp (evF env) (n0+i) (.ap x y m b)) (dE K)):=d_eff rfl rfl
attribute [go_sem] d_ap
attribute [go_sem] COp.obsB COp.pre COp.val COp.eff COp.effP COp.rd Src.ev ge EN.set fet obB oblB oboB binV binI binS eqB binP unV ldc ldV fadr sl AV.cl AV.one ones AV.pur purs endQ vcRes rsoks RS.ok rsevs RS.ev single argEnv bdl eqk eqc lenV s0V ncV pkV lkV mfind mput AV.purR intV bndLo bndHi cutV shd bndP shutC shutL pureC pureL partsL shutP apR apRN rowK rowC okC nst partsN apLen byt AV.ids keys cfs pureV
attribute [go_sem] Option.map_some Option.map_none Option.getD_some Option.getD_none Option.isSome_some Option.isSome_none List.map_cons List.map_nil List.length_cons List.length_nil List.take_zero List.take_succ_cons List.take_nil List.drop_zero List.drop_succ_cons List.drop_nil List.all_cons List.all_nil List.getD_cons_zero List.getD_cons_succ List.getElem?_cons_zero List.getElem?_cons_succ List.cons_append List.nil_append List.append_nil List.filter_cons List.filter_nil List.contains_cons List.contains_nil List.take_length
theorem vcIf_true (A B:Prop):vcIf true A B=A:=by simp [vcIf]
theorem vcIf_false (A B:Prop):vcIf false A B=B:=by simp [vcIf]
theorem vcIf_of {x:Bool} {A B:Prop} (a:x=true→A) (b:x=false→B):vcIf x A B:=⟨a,b⟩
theorem gCall.f {P:Program} {f:FuncId} {hp:CH} {n:Nat} {args:List AV} {G:Bool} {K:CH→Nat→AV→Prop} {r:AV} (m:G=true→MeetsF P f hp n args r) (k:K hp n (.gd G r)):gCall P f hp n args G K:=.inl ⟨r,m,k⟩
theorem gCall.s {P:Program} {f:FuncId} {hp:CH} {n:Nat} {args:List AV} {G:Bool} {K:CH→Nat→AV→Prop} (h:vcIf G (vcCall P f hp n args K) (K hp n (.gd false .un))):gCall P f hp n args G K:=.inr h
theorem gCall_t {P:Program} {f:FuncId} {hp:CH} {n:Nat} {args:List AV} {K:CH→Nat→AV→Prop} (h:vcCall P f hp n args K):gCall P f hp n args true K:=.inr ((vcIf_true _ _).symm ▸ h)
theorem gCall_f {P:Program} {f:FuncId} {hp:CH} {n:Nat} {args:List AV} {K:CH→Nat→AV→Prop} (h:K hp n (.gd false .un)):gCall P f hp n args false K:=.inr ((vcIf_false _ _).symm ▸ h)
theorem dCall.f {P:Program} {f:FuncId} {n0:Nat} {bf:List Nat} {hp:CH} {n:Nat} {args:List AV} {G:Bool} {K:AV→Prop} {r:AV} (m:G=true→∀hp',(∀k,(k<n0∨∃j∈bf,k=n0+j)→gc hp' k=gc hp k)→MeetsF P f hp' n args r) (k:K r):dCall P f n0 bf hp n args G K:=⟨r,m,k⟩
theorem dCallR.f {P:Program} {f:FuncId} {n0:Nat} {bf:List Nat} {hp:CH} {n id:Nat} {args:List AV} {K:AV→CH→Prop} {r:AV} (m:True→∀hp',(∀k,(k<n0∨∃j∈bf,k=n0+j)→gc hp' k=gc hp k)→MeetsF P f hp' n args r) (k:K r []):dCallR P f n0 bf hp n args id K:=.inl ⟨r,m trivial,k⟩
theorem dCallR.r {P:Program} {f:FuncId} {n0:Nat} {bf:List Nat} {hp:CH} {n id:Nat} {args:List AV} {K:AV→CH→Prop} {m len:Nat} {l:List (List AV)} (mt:∀hp',Meets P f hp' n args fun hp2 n2 r2=>hp2=(n,.rw 0 m l)::hp'∧n2=n+1∧r2=.rw n 0 len) (hl:l.length=len) (k:K (.rw id 0 len) [(id,.rw 0 m l)]):dCallR P f n0 bf hp n args id K:=by
 subst hl
 exact .inr (.inl ⟨m,l,fun hp' _=>mt hp',k⟩)
theorem dCallR.w {P:Program} {f:FuncId} {n0:Nat} {bf:List Nat} {hp:CH} {n id:Nat} {args:List AV} {K:AV→CH→Prop} {r:AV} {ws:CH} (h1:wsOk hp n0 (keys ws) ws) (h2:r.purR=true) (m:∀hp',(∀k,(k<n0∨∃j∈bf,k=n0+j)→gc hp' k=gc hp k)→Meets P f hp' n args fun hp2 n2 r2=>hp2=ws++hp'∧n2=n∧r2=r) (k:K r ws):dCallR P f n0 bf hp n args id K:=.inr (.inr ⟨r,ws,h1,h2,m,k⟩)
attribute [go_sem] wsOk nOk cOk asOk aOk
theorem dCall.no {P:Program} {f:FuncId} {n0:Nat} {bf:List Nat} {hp:CH} {n:Nat} {args:List AV} {K:AV→Prop} (k:K .un):dCall P f n0 bf hp n args false K:=⟨.un,fun h=>(by cases h),k⟩
theorem getK.f {L:List (List AV)} {i:Nat} {K:List AV→Prop} {e:List AV} (h:L[i]?=some e) (k:K e):getK L i K:=⟨e,h,k⟩
theorem getK_s {L:List (List AV)} {i:Nat} {K:List AV→Prop} {e:List AV} (h:L[i]?=some e):getK L i K=K e:=by simp [getK,h]
theorem getK_o (e:List AV) (L:List (List AV)) (i:Nat) (K:List AV→Prop):getK (e::L) i K=optK (e::L)[i]? K:=by
 unfold getK
 cases h:(e::L)[i]?<;>simp [optK]
attribute [go_sem] getK_o vcIf_true vcIf_false
theorem gc_same (k:Nat) (c:Chunk) (r:CH):gc ((k,c)::r) k=c:=by simp [gc]
theorem gc_ne {k j:Nat} (c:Chunk) (r:CH) (h:k≠j):gc ((k,c)::r) j=gc r j:=by simp [gc,h]
theorem gc_cons (k j:Nat) (c:Chunk) (r:CH):gc ((k,c)::r) j=if k=j then c else gc r j:=nd rfl
attribute [go_sem] gc_cons
/-! ### Small facts -/
def nin (x:Nat):List Nat→Prop
 | []=>True
 | y::r=>x≠y∧nin x r
def allEq (n:Nat):List Nat→Prop
 | []=>True
 | x::r=>x=n∧allEq n r
theorem nin_eq (x:Nat) (l:List Nat):nin x l=∀y∈l,x≠y:=by
 induction l with
 | nil=>simp [nin]
 | cons y r ih=>simp [nin,ih]
theorem allEq_eq (n:Nat) (l:List Nat):allEq n l=∀x∈l,x=n:=by
 induction l with
 | nil=>simp [allEq]
 | cons y r ih=>simp [allEq,ih]
theorem dis_nil (l:List Nat):dis [] l=True:=by simp [dis]
theorem dis_cons (x:Nat) (a b:List Nat):dis (x::a) b=(nin x b∧dis a b):=by simp [dis,nin_eq]
theorem cf_mk (n0 i:Nat) (R W:List Nat) (c:Bool) (j:Nat) (R' W':List Nat) (c':Bool):cf n0 i R W c ⟨j,R',W',c'⟩=(dis W' R∧dis W' W∧dis W R'∧imp c (allEq (n0+j) W')∧imp c' (allEq (n0+i) W)):=by
 simp only [cf,allEq_eq,imp]
theorem e_dt (h:Decidable True):@decide True h=true:=by simp
theorem e_df (h:Decidable False):@decide False h=false:=by simp
theorem e_nt:(¬True)=False:=by simp
theorem e_nf:(¬False)=True:=by simp
theorem e_ne {α:Sort _} (a b:α):(a≠b)=¬(a=b):=rfl
theorem e_nn (n:Nat):(0≤(n:Int))=True:=by simp
theorem e_mx (n:Nat):max n (n+1)=n+1:=Nat.max_eq_right (Nat.le_succ n)
attribute [go_sem] e_mx e_nn or_false false_or or_true true_or nin allEq dis_nil dis_cons cf_mk e_dt e_df e_nt e_nf e_ne
theorem dp_nil (env:EN):EN.drop [] env=env:=nd rfl
theorem dp_c (a:Nat) (dp:List Nat):EN.drop (a::dp) []=[]:=nd rfl
def inL (a:Nat):List Nat→Bool
 | []=>false
 | b::r=>if a=b then true else inL a r
theorem inL_eq (a:Nat) (l:List Nat):inL a l=l.contains a:=by
 induction l with
 | nil=>rfl
 | cons b r ih =>
  rw [List.contains_cons,←ih]
  show (if a=b then true else inL a r)=_
  by_cases h:a=b<;>simp [h]
theorem dp_k (a:Nat) (dp:List Nat) (t:Nat) (α:AV) (env:EN):EN.drop (a::dp) ((t,α)::env)=if inL t (a::dp)=true then EN.drop (a::dp) env else (t,α)::EN.drop (a::dp) env:=by
 rw [inL_eq]
 show List.filter _ _=_
 rw [List.filter_cons]
 by_cases h:(a::dp).contains t=true
 .rw [h,if_pos rfl]
  rfl
 .rw [Bool.eq_false_iff.2 h]
  rfl
theorem imp_t (q:Prop):imp true q=q:=by simp [imp]
theorem imp_f (q:Prop):imp false q=True:=by simp [imp]
theorem imp_s (b:Bool):imp b (b=true)=True:=by simp [imp]
theorem imp_T (b:Bool):imp b True=True:=by simp [imp]
theorem e_beq_t (b:Bool):(b == true)=b:=by simp
theorem e_beq_f (b:Bool):(b == false)=!b:=by simp
theorem e_c_or (x y:Bool):(bif x then true else y)=(x||y):=by cases x<;>rfl
theorem e_c_and (x y:Bool):(bif x then y else false)=(x&&y):=by cases x<;>rfl
theorem e_len (n:Nat):(n≤n)=True:=by simp
theorem e_cast (n:Nat):((n:Int)).toNat=n:=Int.toNat_natCast n
theorem e_eqa (n m k:Nat):(n+m=n+k)=(m=k):=by simp
theorem e_eqb (n k:Nat):(n=n+k)=(k=0):=by simp
theorem e_eqc (n k:Nat):(n+k=n)=(k=0):=by simp
attribute [go_sem] Int.cast_ofNat_Int List.replicate_zero List.replicate_succ dp_nil dp_c dp_k inL imp_t imp_f imp_s imp_T e_beq_t e_beq_f e_c_or e_c_and e_len e_cast e_eqa e_eqb e_eqc Nat.add_assoc Bool.and_true Bool.true_and Bool.and_false Bool.false_and Bool.or_true Bool.true_or Bool.or_false Bool.false_or Bool.not_true Bool.not_false Bool.not_not Nat.le_add_right Nat.le_refl true_and and_true and_self Nat.zero_add Nat.add_zero decide_true decide_false eq_self
theorem bd {fn:Func} {P:Program} {k:CC} (h:fn.body.bind (ccode P fn.ntmps)=some k):∃c,fn.body=some c∧ccode P fn.ntmps c=some k:=by
 cases hb:fn.body with
 | none=>rw [hb] at h;cases h
 | some c=>rw [hb] at h;exact ⟨c,rfl,h⟩
theorem meets {P : Program} {f : FuncId} {fn : Func} {k : CC} {rs : List RS} (hf : P.funcs[f]? = some fn) (hnm : (fn.name == "runtime.NumGoroutine") = false)
  (hc:fn.body.bind (ccode P fn.ntmps)=some k.erase) (hrs:rsv P fn.ntmps fn.results.toList=some rs) {hp:CH} {n:Nat} {args:List AV} {R:CH→Nat→AV→Prop} (hlen:Nat.ble args.length fn.ntmps=true)
  (hv:vc P k ⟨argEnv 0 args,hp,n⟩ (endQ rs R)):Meets P f hp n args R:=by
 obtain ⟨c,hb,hc⟩:=bd hc
 exact meets_of_vc hf hnm hb hc hrs (Nat.le_of_ble_eq_true hlen) hv
def Up (n:Nat) (hp hp':CH):Prop:=∀k,k<n→gc hp' k=gc hp k
theorem Up.refl (n:Nat) (hp:CH):Up n hp hp:=fun _ _=>rfl
theorem Up.cons {n:Nat} {hp hp':CH} (h:Up n hp hp') {k:Nat} (c:Chunk) (hk:n≤k):Up n hp ((k,c)::hp'):=fun j hj=>by
 rw [gc_ne c hp' (by omega)]
 exact h j hj
theorem SatH.cut {h:HP} {ρ:RO} {hp hp':CH} {n m:Nat} {w:World} (hu:Up n hp hp') (m0:SatH h ρ hp' m w) (hfree:∀k,n≤k→gc hp k=.no):SatH h ρ hp m w:=by
 have hgen:∀k g,(gc hp k).own g→k<n∧gc hp' k=gc hp k:=by
  intro k g e
  rcases Nat.lt_or_ge k n with hk | hk
  .exact ⟨hk,hu k hk⟩
  .rw [hfree k hk] at e;cases e
 have hl:∀b,live ρ hp b→live ρ hp' b:=fun b ⟨k,g,c,e,r⟩=>⟨k,g,c,by rw [(hgen k g e).2];exact e,r⟩
 refine ⟨m0.hh,fun k=>?_,fun k k' g g' b c c' e e' r r'=>m0.inj k k' g g' b c c' (by rw [(hgen k g e).2];exact e) (by rw [(hgen k' g' e').2];exact e') r r',fun b hb=>m0.hid b (hl b hb),fun b hb=>m0.lt b (hl b hb),m0.fr,fun k g g' x e r=>?_,m0.gl⟩
 .rcases Nat.lt_or_ge k n with hk | hk
  .have:=m0.ch k
   rwa [hu k hk] at this
  .rw [hfree k hk]
   trivial
 .have:=hgen k g (Chunk.gen_own (Chunk.rgen_gen e))
  exact m0.gens k g g' x (by rw [this.2];exact e) r
end Go.Eng
