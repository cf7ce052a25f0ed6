/- Proof. Conditions: none. -/
import Derived.Test.YtgfidgoefioigaaGreatDoorIj29
open List renaming drop_eq_nil_of_le->z1i
open Nat renaming zero_add->z1b
open Bool renaming and_eq_true->zj
open Go.Proofs.Tryz
open List renaming mem_of_getElem?->zla,length_cons->zlc,length_append->zld,length_nil->zle,drop_length->zll
open Nat renaming le_refl->zna
namespace Go.Proofs.YtgfidgoefioigaaGreatDoor
open Go.Eng
set_option linter.all false
set_option maxRecDepth 20000
set_option maxHeartbeats 1000000
inductive GR where
 | mk (n:qB) (args:List HD)
def GR.n:GR->qB | .mk n _=>n
theorem GR.n_mk (n:qB) (args:List HD):(GR.mk n args).n=n:=rfl
def GR.args:GR->List HD | .mk _ args=>args
theorem GR.args_mk (n:qB) (args:List HD):(GR.mk n args).args=args:=rfl
theorem GR.ext {x y:GR} (h0:x.n=y.n) (h1:x.args=y.args):x=y:=by cases x;cases y;simp only [GR.n_mk,GR.args_mk] at *;simp [*]
def FT (x:GR):List AV:=[.s x.n,.ds (Ab BB x.args)]
attribute [go_sem] FT GR.n_mk GR.args_mk
attribute [grind =] GR.n_mk GR.args_mk
attribute [ext] GR.ext
attribute [grind ext] GR.ext
inductive BN where
 | mk (n:qB) (tn:qB) (tw:List Int) (has:Bool) (d:Ag) (dirs:List GR)
section
variable {hp:CH} {m B c:Nat} {v:Ag} {X:Ak}
def BN.n:BN->qB | .mk n _ _ _ _ _=>n
theorem BN.n_mk (n:qB) (tn:qB) (tw:List Int) (has:Bool) (d:Ag) (dirs:List GR):(BN.mk n tn tw has d dirs).n=n:=rfl
def BN.tn:BN->qB | .mk _ tn _ _ _ _=>tn
theorem BN.tn_mk (n:qB) (tn:qB) (tw:List Int) (has:Bool) (d:Ag) (dirs:List GR):(BN.mk n tn tw has d dirs).tn=tn:=rfl
def BN.tw:BN->List Int | .mk _ _ tw _ _ _=>tw
theorem BN.tw_mk (n:qB) (tn:qB) (tw:List Int) (has:Bool) (d:Ag) (dirs:List GR):(BN.mk n tn tw has d dirs).tw=tw:=rfl
def BN.has:BN->Bool | .mk _ _ _ has _ _=>has
theorem BN.has_mk (n:qB) (tn:qB) (tw:List Int) (has:Bool) (d:Ag) (dirs:List GR):(BN.mk n tn tw has d dirs).has=has:=rfl
def BN.d:BN->Ag | .mk _ _ _ _ d _=>d
theorem BN.d_mk (n:qB) (tn:qB) (tw:List Int) (has:Bool) (d:Ag) (dirs:List GR):(BN.mk n tn tw has d dirs).d=d:=rfl
def BN.dirs:BN->List GR | .mk _ _ _ _ _ dirs=>dirs
theorem BN.dirs_mk (n:qB) (tn:qB) (tw:List Int) (has:Bool) (d:Ag) (dirs:List GR):(BN.mk n tn tw has d dirs).dirs=dirs:=rfl
theorem BN.ext {x y:BN} (h0:x.n=y.n) (h1:x.tn=y.tn) (h2:x.tw=y.tw) (h3:x.has=y.has) (h4:x.d=y.d) (h5:x.dirs=y.dirs):x=y:=by cases x;cases y;simp only [BN.n_mk,BN.tn_mk,BN.tw_mk,BN.has_mk,BN.d_mk,BN.dirs_mk] at *;simp [*]
attribute [go_sem] BN.n_mk BN.tn_mk BN.tw_mk BN.has_mk BN.d_mk BN.dirs_mk
attribute [grind =] BN.n_mk BN.tn_mk BN.tw_mk BN.has_mk BN.d_mk BN.dirs_mk
attribute [ext] BN.ext
attribute [grind ext] BN.ext
def AD (x:BN):List AV:=[.s x.n,.s x.tn,.ds (Ab D0 x.tw),.b x.has,.i .i64 x.d.k,.i .i64 x.d.n,.s x.d.s,.ds (Ab Ar x.d.items),.ds (Bd x.d.keys),.ds (Ab FT x.dirs)]
theorem U4 (l:List BN):Ew 10 (Ab AD l)=True:=DT fun _=>⟨rfl,rfl⟩
theorem Z4 (l:List BN):(∀e,e∈Ab AD l->e.length=10)=True:=eq_true fun e h=>((of_eq_true (U4 l)) e h).1
attribute [go_sem] AD Z4
def Nq (d:GR):Prop:=d.args.length<=1000000000∧∀a∈d.args,a.v.Fit
def EH (l:List (List AV)):Prop:=∃ds:List GR,l=Ab FT ds∧ds.length<=1000000000∧∀d∈ds,Nq d
def H7 (x:BN):Prop:=x.tw.length<=1000000000∧(x.d.Fit∧x.d.Rng)∧x.dirs.length<=1000000000∧∀d∈x.dirs,Nq d
def Es (l:List (List AV)):Prop:=∃is:List BN,l=Ab AD is∧is.length<=1000000000∧∀x∈is,H7 x
structure DfnW (t:Aw):Prop where
 dirs:EH t.dirs
 inputs:Es t.inputs
 fl:t.fields.length<=1000000000
 fields:∀f∈t.fields,Es f.args∧EH f.dirs∧f.tw.length<=1000000000
 members:∀e∈t.members,∃x y,e=[.s x,.ds y]∧EH y
def Ah2 (e:List AV):List (List AV):=match e with
 | [.s _,.ds y]=>y
 |_=>[]
mutual
def QQ:Ag->Bool
 | .mk k _ _ i l=>!(decide (k=6)&&!decide (l.length=i.length))&&UO i
def UO:List Ag->Bool
 | []=>true
 |x::r=>QQ x&&UO r
end
theorem K3 (v:Ag):QQ v=(!(decide (v.k=6)&&!decide (v.keys.length=v.items.length))&&UO v.items):=by cases v;rw [QQ];rfl
theorem GM (l:List Ag):UO l=true↔∀x∈l,QQ x=true:=by
 induction l with
 |nil=>simp [UO]
 |cons x r ih=>rw [UO];simp [ih]
def T2:List qB->List Ag->List qB->List Ag->Option (List qB×List Ag)
 |k::l,x::r,ks,is=>if 0<=ix k ks 0 then none else T2 l r (ks++[k]) (is++[x])
 | [],_,ks,is=>some (ks,is)
 |_::_,[],ks,is=>some (ks,is)
def adR (v:Ag) (o:Option (List qB×List Ag)):Ag×Int :=
 match o with
 |some (ks,is)=>(.mk v.k v.n v.s is ks,0)
 |none=>(A6,7)
def Lv (v d:Ag):Ag × Int:=if v.k=6∧d.k=6 then adR v (T2 d.keys d.items v.keys v.items) else if d.k=0 then (v,0) else (A6,8)
def L1 (v s:Ag):Int :=
 if s.k=3∧v.k=6 then (if ix s.s v.keys 0<v.items.length then ix s.s v.keys 0 else -1)
 else if s.k=2∧v.k=5∧0<=s.n∧s.n<v.items.length then s.n else -1
def Jc (d:Ag):List Ag->Ag->Ag×Int
 | [],v=>Lv v d
 |s::p,v=>if p.length=0∧s.k=2∧v.k=5∧s.n=v.items.length then (.mk v.k v.n v.s (v.items++[d]) v.keys,0)
  else if L1 v s<0 then (A6,8)
  else match v.items[(L1 v s).toNat]? with
   |none=>(A6,8)
   |some x=>if (Jc d p x).2=0 then (.mk v.k v.n v.s (v.items.set (L1 v s).toNat (Jc d p x).1) v.keys,0) else (A6,(Jc d p x).2)
def RB (x:Ag × Int):AV:=.tp [vx x.1,.i .i64 x.2]
attribute [go_sem] RB
theorem M1 (v s:Ag) (hv:v.Fit) (hp:CH) (m:Nat):Af prog 77 hp m [vx v,vx s] (.i .i64 (L1 v s)):=by
 have h1:=hv.l
 have h2:=Nl s.s v.keys 0
 refine Aj func77 (tA cc77) (tB cc77) (tC cc77) rfl fun hf=>?_;unfold ck77
 simp only [go_sem]
 refine Ae (fun c=>?_) (fun c=>?_)
 .have c:s.k=3∧v.k=6:=by simpa using c
  simp only [go_sem]
  refine Ac.f (ID v.keys s.s (by omega) _ _) ?_
  simp only [go_sem]
  refine Ae (fun c2=>?_) (fun c2=>?_)
  .have c2:ix s.s v.keys 0<v.items.length:=by simpa using c2
   simp only [go_sem]
   rw [L1,iP c,iP c2]
  .have c2:¬ix s.s v.keys 0<v.items.length:=by simpa using c2
   simp only [go_sem]
   rw [L1,iP c,iN c2]
 .have c:¬(s.k=3∧v.k=6):=by simpa using c
  simp only [go_sem]
  refine Ae (fun c2=>?_) (fun c2=>?_)
  .have c2:s.k=2∧v.k=5∧0<=s.n∧s.n<v.items.length:=by simpa [and_assoc] using c2
   simp only [go_sem]
   rw [L1,iN c,iP c2]
  .have c2:¬(s.k=2∧v.k=5∧0<=s.n∧s.n<v.items.length):=by simpa [and_assoc] using c2
   simp only [go_sem]
   rw [L1,iN c,iN c2]
theorem Z6 (l:List qB) (k:qB) (hl:l.length<=9223372036854775806) (c g len:Nat) (hn:l.length=len) (hp:CH) (m:Nat) (hk:gc hp c=.rw g 1 (Bd l)):Af prog 94 hp m [.rw c g len,.s k] (.i .i64 (ix k l 0)):=by
 subst hn
 refine Aj func94 (tA cc94) (tB cc94) (tC cc94) rfl fun hf=>?_;unfold ck94
 simp only [hk,go_sem]
 refine loop (fun p:Nat×Nat=>⟨[(0,.rw c g l.length),(1,.s k),(7,.i .i64 l.length),(8,.i .i64 p.1)],hp,p.2⟩) (fun p=>p.1<=l.length∧ix k l 0=ix k (l.drop p.1) p.1) (fun p=>l.length - p.1) (0,m) ?_ ?_ (fun ⟨j,n⟩ hj=>?_)
 .grind
 .refine Di ?_
  simp only [go_sem]
 dsimp only at hj
 simp only [hk,go_sem]
 refine Ae (fun d=>?_) (fun d=>?_)
 .have d:j<l.length:=by simpa using d
  obtain ⟨x,ex⟩:∃x,l[j]?=some x:=⟨l[j],by simp [d]⟩
  have e:=A2 ex
  rw [e,ix] at hj
  simp only [hk,d,Ad (Aa Cz ex),go_sem]
  refine Ae (fun c1=>?_) (fun c1=>?_)
  .have c1:k=x:=by simpa using c1
   simp only [go_sem]
   rw [hj.2,iP c1]
  .have c1:¬k=x:=by simpa using c1
   rw [iN c1] at hj
   simp only [go_sem]
   refine ⟨(j+1,n),by dsimp only;omega,by dsimp only;omega,Di ?_⟩
   simp only [Ap j (by omega),go_sem]
 .have d:j=l.length:=by simp at d;omega
  subst d
  rw [zll,ix] at hj
  simp only [go_sem]
  rw [hj.2]
theorem Ge (l:List qB) (k:qB) (hl:l.length<=9223372036854775806) (c g len:Nat) (hn:l.length=len) (hp:CH) (m:Nat) (hk:gc hp c=.rw g 1 (Bd l)):Af prog 52 hp m [.rw c g len,.s k] (.b (decide (0<=ix k l 0))):=by
 refine Aj func52 (tA cc52) (tB cc52) (tC cc52) rfl fun hf=>?_;unfold ck52
 simp only [hk,go_sem]
 refine Ac.f (Z6 l k hl c g len hn _ _ hk) ?_
 simp only [go_sem]
theorem Abm (v d:Ag) (hv:v.Fit) (hd:d.Fit) (hi:(v.items.length+d.items.length)*80<=140737488355327) (hk:(v.keys.length+d.keys.length)*16<=140737488355327) (hp:CH) (m:Nat):Af prog 76 hp m [vx v,vx d] (RB (Lv v d)):=by
 refine Aj func76 (tA cc76) (tB cc76) (tC cc76) rfl fun hf=>?_;unfold ck76
 simp only [go_sem]
 refine Ae (fun c=>?_) (fun c=>?_)
 .have c:v.k=6∧d.k=6:=by simpa using c
  rw [Lv,iP c]
  simp only [go_sem]
  refine Ac.x (Sf v hv _ _) ?_
  simp only [go_sem]
  refine loop (fun p:Nat×(List qB×List Ag)×Nat=>⟨[(3,.bx (m+1) 0),(4,.bx (m+2) 0),(6,.bx (m+5) 0),(7,.i .i64 p.1)],
   (m+5,.bx [.i .i64 v.k,.i .i64 v.n,.s v.s,.rw (m+3) p.1 p.2.1.2.length,.rw (m+4) p.1 p.2.1.1.length])::(m+3,.rw p.1 5 (Ab Ar p.2.1.2))::(m+4,.rw p.1 1 (Bd p.2.1.1))::(m+2,.bx [.i .i64 0,.i .i64 0,.s ⟨#[]⟩,.e0,.e0]) ::
   (m+1,.bx [.i .i64 d.k,.i .i64 d.n,.s d.s,.ds (Ab Ar d.items),.ds (Bd d.keys)])::hp,p.2.2⟩)
   (fun p=>p.1<=d.keys.length∧p.1<=d.items.length∧p.2.1.2.length=v.items.length+p.1∧p.2.1.1.length=v.keys.length+p.1∧m+6<=p.2.2∧T2 d.keys d.items v.keys v.items=T2 (d.keys.drop p.1) (d.items.drop p.1) p.2.1.1 p.2.1.2)
   (fun p=>d.keys.length - p.1) (0,(v.keys,v.items),m+6) ?_ ?_ (fun ⟨j,⟨ks,is⟩,n⟩ hj=>?_)
  .exact ⟨by simp,by simp,by simp,by simp,by simp,rfl⟩
  .refine wS5 hf ?_ ?_ ?_ ?_ ?_ ?_ ?_ (zna _)
   all_goals simp only [go_sem]
  dsimp only at hj
  obtain ⟨Cg,Bc,As,Ct,Dh,Kv⟩:=hj
  simp only [go_sem]
  refine Ae (fun q=>?_) (fun q=>?_)
  .simp at q
   obtain ⟨q1,q2⟩:=q
   obtain ⟨y,ey⟩:∃y,d.keys[j]?=some y:=⟨d.keys[j],by simp [q1]⟩
   obtain ⟨x,ex⟩:∃x,d.items[j]?=some x:=⟨d.items[j],by simp [q2]⟩
   have hx:=hd.x (zla ex)
   rw [A2 ey,A2 ex,T2] at Kv
   simp only [q1,q2,Ad (Aa Ar ex),Ad (Aa Cz ey),go_sem]
   refine Aq.f (fun _ Al hh=>Ge ks y (by omega) (m+4) j _ rfl _ _ ((hh _ (.inl (by omega))).trans (by simp only [go_sem]))) ?_
   simp only [go_sem]
   refine Ae (fun q3=>?_) (fun q3=>?_)
   .have q3:0<=ix y ks 0:=by simpa using q3
    rw [Kv,iP q3,adR]
    simp only [go_sem]
   .have q3:¬0<=ix y ks 0:=by simpa using q3
    rw [iN q3] at Kv
    simp only [q1,q2,Ad (Aa Ar ex),Ad (Aa Cz ey),go_sem]
    first | refine ⟨⟨by omega,by omega⟩,?_⟩ | skip
    first | refine Aq.f (fun _ _ _=>FY x hx _ _) ?_ | refine AC.f (fun _ _ _=>FY x hx _ _) ?_
    simp only [go_sem]
    refine ⟨⟨by omega,by omega⟩,(j+1,(ks++[y],is++[x]),_),?_,?_,wS5 hf ?_ ?_ ?_ ?_ ?_ ?_ ?_ (zna _)⟩
    .exact ⟨by dsimp only;omega,by dsimp only;omega,by dsimp only;simp;omega,by dsimp only;simp;omega,by dsimp only;omega,Kv⟩
    .dsimp only;omega
    all_goals
     simp only [Ap j (by omega),zld,go_sem]
  .have e:T2 (d.keys.drop j) (d.items.drop j) ks is=some (ks,is):=by
    simp at q
    rcases Nat.lt_or_ge j d.keys.length with q1 | q1
    .obtain ⟨y,ey⟩:∃y,d.keys[j]?=some y:=⟨d.keys[j],by simp [q1]⟩
     have e3:d.items.drop j=[]:=z1i (by have:=q q1;omega)
     rw [A2 ey,e3,T2]
    .rw [z1i q1,T2]
   rw [Kv,e,adR]
   simp only [go_sem]
 .have c:¬(v.k=6∧d.k=6):=by simpa using c
  rw [Lv,iN c]
  simp only [go_sem]
  refine Ae (fun q=>?_) (fun q=>?_)
  .have q:d.k=0:=by simpa using q
   rw [iP q]
   simp only [go_sem]
  .have q:¬d.k=0:=by simpa using q
   rw [iN q]
   simp only [go_sem]
theorem Pq {a g n:Nat} {l:List (List AV)} (hf:∀k,m<=k->gc hp k=.no) (h:gc hp a=.rw g n l):a<m:=by
 rcases Nat.lt_or_ge a m with q | q
 .exact q
 .rw [hf a q] at h;cases h
theorem Adj (v s:Ag):L1 v s=-1∨(0<=L1 v s∧L1 v s<v.items.length):=by
 have:=Nl s.s v.keys 0
 unfold L1
 split
 .split<;>omega
 .split<;>omega
theorem Ui (d s:Ag) (p:List Ag) (ih:∀v,AG v+AG d<=1000000000000->∀hp m,Af prog 39 hp m [vx v,.ds (Ab Ar p),vx d] (RB (Jc d p v))) (v:Ag) (hw:AG v+AG d<=1000000000000) (hp:CH) (m:Nat) :
 Af prog 39 hp m [vx v,.ds (Ab Ar (s::p)),vx d] (RB (Jc d (s::p) v)):=by
 have hv:=CZ v (by omega)
 have hd:=CZ d (by omega)
 have h1:=hv.i
 have Hr:((p.length+1:Nat):Int)=1↔p.length=0:=by omega
 obtain ⟨R,hR⟩:=A5 (Jc d (s::p) v)
 rw [hR]
 rw [Jc] at hR
 refine Aj func39 (tA cc39) (tB cc39) (tC cc39) rfl fun hf=>?_;unfold ck39
 simp only [go_sem]
 have e0:decide (((p.length+1:Nat):Int)=0)=false:=by simp;omega
 rw [e0]
 simp only [e0,go_sem]
 refine Ae (fun c=>?_) (fun c=>?_)
 .have c:p.length=0∧s.k=2∧v.k=5∧s.n=v.items.length:=by
   simp only [zj,decide_eq_true_eq] at c
   exact ⟨by omega,c.1.1.2,c.1.2,c.2⟩
  have hw1:=Is v.items
  have VG:=AE v
  rw [iP c] at hR
  subst hR
  simp only [go_sem]
  refine Ac.x (Sf v hv _ _) ?_
  simp only [go_sem]
  first | refine Aq.f (fun _ _ _=>FY d hd _ _) ?_ | refine AC.f (fun _ _ _=>FY d hd _ _) ?_
  simp only [go_sem]
  omega
 .have c:¬(p.length=0∧s.k=2∧v.k=5∧s.n=v.items.length):=fun h=>by
   have:((p.length+1:Nat):Int)=1:=by omega
   simp [this,h.2.1,h.2.2.1,h.2.2.2] at c
  have hs:=Adj v s
  rw [iN c] at hR
  simp only [go_sem]
  first | refine Aq.f (fun _ _ _=>M1 v s hv _ _) ?_ | refine AC.f (fun _ _ _=>M1 v s hv _ _) ?_
  simp only [go_sem]
  refine Ae (fun c1=>?_) (fun c1=>?_)
  .have c1:L1 v s<0:=of_decide_eq_true c1
   rw [iP c1] at hR
   subst hR
   simp only [go_sem]
  have c1:¬L1 v s<0:=of_decide_eq_false c1
  have c2:(L1 v s).toNat<v.items.length:=by omega
  have c3:0<=L1 v s:=by omega
  obtain ⟨x,ex⟩:∃x,v.items[(L1 v s).toNat]?=some x:=⟨_,List.getElem?_eq_getElem c2⟩
  have hx:=hv.x (zla ex)
  have hwx:=B1 (zla ex)
  have VG:=AE v
  simp only [iN c1,ex] at hR
  simp only [c2,c3,Ad (Aa Ar ex),go_sem]
  first | refine ⟨⟨by omega,by omega⟩,?_⟩ | skip
  first | refine Aq.f (fun _ _ _=>ih x (by omega) _ _) ?_ | refine AC.f (fun _ _ _=>ih x (by omega) _ _) ?_
  simp only [go_sem]
  refine Ae (fun c4=>?_) (fun c4=>?_)
  .have c4:¬(Jc d p x).2=0:=by simpa using c4
   rw [iN c4] at hR
   subst hR
   simp only [go_sem]
  .have c4:(Jc d p x).2=0:=by simpa using c4
   rw [iP c4] at hR
   subst hR
   simp only [go_sem]
   refine Ac.x (Sf v hv _ _) ?_
   simp only [c2,c3,Ad (Aa Ar ex),go_sem]
theorem M2 (d:Ag):∀(p:List Ag) (v:Ag),AG v+AG d<=1000000000000->∀hp m,Af prog 39 hp m [vx v,.ds (Ab Ar p),vx d] (RB (Jc d p v))
 |s::p,v,hw,hp,m=>Ui d s p (M2 d p) v hw hp m
 | [],v,hw,hp,m=>by
  have hv:=CZ v (by omega)
  have hd:=CZ d (by omega)
  have w1:=AE v
  have w2:=AE d
  have w3:=Is v.items
  have w4:=Is d.items
  obtain ⟨R,hR⟩:=A5 (Lv v d)
  rw [Jc,hR]
  have h0:=Abm v d hv hd (by omega) (by omega)
  rw [hR] at h0
  refine Aj func39 (tA cc39) (tB cc39) (tC cc39) rfl fun hf=>?_;unfold ck39
  simp only [go_sem]
  refine Ac.f (h0 _ _) ?_
  simp only [go_sem]
theorem SD {x:Ag} (h:QQ v=true) (hx:x∈v.items):QQ x=true:=by
 rw [K3] at h
 simp only [zj] at h
 exact (GM _).1 h.2 x hx
theorem Aa7 (h:QQ v=true) (h6:v.k=6):v.keys.length=v.items.length:=by
 rw [K3] at h
 simp [h6] at h
 exact h.1
theorem Q5:∀(l:List qB) (r:List Ag) (ks:List qB) (is:List Ag) (ks':List qB) (is':List Ag),T2 l r ks is=some (ks',is') ->
 Ci is'<=Ci is+Ci r∧ks'.length<=ks.length+l.length∧ks'.length+is.length=ks.length+is'.length∧((∀x∈is,QQ x=true)->(∀x∈r,QQ x=true)->∀x∈is',QQ x=true)
 | [],r,ks,is,ks',is',h=>by
  rw [T2] at h
  cases h
  exact ⟨by omega,by omega,by omega,fun a _=>a⟩
 |k::l,[],ks,is,ks',is',h=>by
  rw [T2] at h
  cases h
  exact ⟨by omega,by omega,by omega,fun a _=>a⟩
 |k::l,x::r,ks,is,ks',is',h=>by
  rw [T2] at h
  split at h
  .cases h
  .obtain ⟨h1,h2,h3,h4⟩:=Q5 l r _ _ _ _ h
   rw [Ou,Ci,Ci] at h1
   simp only [zld,zlc,zle] at h2 h3
   refine ⟨by rw [Ci];omega,by simp;omega,by omega,fun a b=>h4 (fun y hy=>?_) (fun y hy=>b y (by simp [hy]))⟩
   rcases List.mem_append.1 hy with hy | hy
   .exact a y hy
   .simp at hy;subst hy;exact b _ (by simp)
theorem S6 (y:Ag):∀(l:List Ag) (i:Nat) (x:Ag),l[i]?=some x->Ci (l.set i y)+AG x=Ci l+AG y
 |z::l,0,x,h=>by
  simp at h
  subst h
  rw [List.set_cons_zero,Ci,Ci]
  omega
 |z::l,i+1,x,h=>by
  have:=S6 y l i x (by simpa using h)
  rw [List.set_cons_succ,Ci,Ci]
  omega
theorem UD (v d:Ag) (h:(Lv v d).2=0):AG (Lv v d).1<=AG v+AG d∧(QQ v=true->QQ d=true->QQ (Lv v d).1=true):=by
 rw [Lv] at h ⊢
 by_cases c:v.k=6∧d.k=6
 .rw [iP c] at h ⊢
  cases e:T2 d.keys d.items v.keys v.items with
  |none=>rw [e,adR] at h;exact absurd h (by decide)
  |some o=>
   obtain ⟨ks,is⟩:=o
   obtain ⟨h1,h2,h3,h4⟩:=Q5 _ _ _ _ _ _ e
   rw [adR]
   refine ⟨?_,fun a b=>?_⟩
   .rw [AE v,AE d,AE]
    simp only [Ag.items_mk,Ag.keys_mk]
    omega
   .have q:=Aa7 a c.1
    rw [K3]
    simp only [Ag.items_mk,Ag.keys_mk,Ag.k_mk,zj]
    refine ⟨?_,(GM _).2 (h4 (fun x hx=>SD a hx) (fun x hx=>SD b hx))⟩
    have:ks.length=is.length:=by omega
    simp [this]
 .rw [iN c] at h ⊢
  by_cases c2:d.k=0
  .rw [iP c2] at h ⊢
   exact ⟨by dsimp only;omega,fun a _=>a⟩
  .rw [iN c2] at h
   exact absurd h (by decide)
theorem Ph (d:Ag):∀(p:List Ag) (v:Ag),(Jc d p v).2=0->AG (Jc d p v).1<=AG v+AG d∧(QQ v=true->QQ d=true->QQ (Jc d p v).1=true)
 | [],v,h=>by
  rw [Jc] at h ⊢
  exact UD v d h
 |s::p,v,h=>by
  rw [Jc] at h ⊢
  by_cases c:p.length=0∧s.k=2∧v.k=5∧s.n=v.items.length
  .rw [iP c] at h ⊢
   refine ⟨?_,fun a b=>?_⟩
   .rw [AE v,AE (Ag.mk v.k v.n v.s (v.items++[d]) v.keys)]
    simp only [Ag.items_mk,Ag.keys_mk]
    rw [Ou,Ci,Ci]
    omega
   .rw [K3]
    simp only [Ag.items_mk,Ag.keys_mk,Ag.k_mk,zj]
    refine ⟨by simp [c.2.2.1],(GM _).2 fun x hx=>?_⟩
    rcases List.mem_append.1 hx with hx | hx
    .exact SD a hx
    .simp at hx;subst hx;exact b
  .rw [iN c] at h ⊢
   by_cases c1:L1 v s<0
   .rw [iP c1] at h
    exact absurd h (by decide)
   rw [iN c1] at h ⊢
   cases ex:v.items[(L1 v s).toNat]? with
   |none=>rw [ex] at h;exact absurd (show (8:Int)=0 from h) (by decide)
   |some x=>
    rw [ex] at h
    simp only at h ⊢
    by_cases c2:(Jc d p x).2=0
    .rw [iP c2] at h ⊢
     obtain ⟨i1,i2⟩:=Ph d p x c2
     have hs:=S6 (Jc d p x).1 v.items _ x ex
     refine ⟨?_,fun a b=>?_⟩
     .rw [AE v,AE (Ag.mk v.k v.n v.s _ v.keys)]
      simp only [Ag.items_mk,Ag.keys_mk]
      omega
     .have hx:=i2 (SD a (zla ex)) b
      rw [K3] at a ⊢
      simp only [zj] at a
      simp only [Ag.items_mk,Ag.keys_mk,Ag.k_mk,zj,List.length_set]
      refine ⟨a.1,(GM _).2 fun y hy=>?_⟩
      rcases List.mem_or_eq_of_mem_set hy with hy | hy
      .exact (GM _).1 a.2 y hy
      .subst hy;exact hx
    .rw [iN c2] at h
     exact absurd h c2
inductive DB where
 | mk (l:qB) (p:List Ag) (d:Ag) (q:List Dc)
def DB.l:DB->qB | .mk l _ _ _=>l
def DB.p:DB->List Ag | .mk _ p _ _=>p
def DB.d:DB->Ag | .mk _ _ d _=>d
def DB.q:DB->List Dc | .mk _ _ _ q=>q
def Bi (x:DB):List AV:=[.s x.l,.ds (Ab Ar x.p),.i .i64 x.d.k,.i .i64 x.d.n,.s x.d.s,.ds (Ab Ar x.d.items),.ds (Bd x.d.keys),.ds (Ab BD x.q)]
attribute [go_sem] Bi
def YX:List DB->Ag->Ag×Int
 | [],v=>(v,0)
 |p::r,v=>if (Jc p.d p.p v).2=0 then YX r (Jc p.d p.p v).1 else (A6,(Jc p.d p.p v).2)
def wtP:List DB->Nat
 | []=>0
 |p::r=>AG p.d+wtP r
def MgB (B:Nat):List DB->Ag->Prop
 | [],v=>AG v<=B
 |p::r,v=>AG v+AG p.d<=B∧((Jc p.d p.p v).2=0->MgB B r (Jc p.d p.p v).1)
theorem MgB.wt:∀{l:List DB} {v:Ag},MgB B l v->AG v<=B
 | [],_,h=>h
 |p::r,v,h=>by have:=h.1;omega
theorem Yg:∀(l:List DB) (v:Ag),AG v+wtP l<=B->MgB B l v
 | [],v,h=>by rw [wtP] at h;exact h
 |p::r,v,h=>by
  rw [wtP] at h
  refine ⟨by omega,fun c=>Yg r _ ?_⟩
  have:=(Ph p.d p.p v c).1
  omega
theorem RN (v:Ag) (l:List DB) (hl:l.length<=1000000000000) (hw:MgB 1000000000000 l v) (hp:CH) (m:Nat):Af prog 16 hp m [vx v,.ds (Ab Bi l)] (RB (YX l v)):=by
 have hv:=CZ v hw.wt
 obtain ⟨R,hR⟩:=A5 (YX l v)
 rw [hR]
 refine Aj func16 (tA cc16) (tB cc16) (tC cc16) rfl fun hf=>?_;unfold ck16
 simp only [go_sem]
 refine Ac.f (FY v hv _ _) ?_
 simp only [go_sem]
 refine loop (fun p:Nat×Ag×Nat=>⟨[(4,.bx (m+1) 0),(6,.bx (m+2) 0),(13,.ds (Ab Bi l)),(14,.i .i64 l.length),(15,.i .i64 p.1)],
  (m+2,.bx [.i .i64 p.2.1.k,.i .i64 p.2.1.n,.s p.2.1.s,.ds (Ab Ar p.2.1.items),.ds (Bd p.2.1.keys)])::(m+1,.bx [.i .i64 0,.i .i64 0,.s ⟨#[]⟩,.e0,.e0])::hp,p.2.2⟩)
  (fun p=>p.1<=l.length∧m+3<=p.2.2∧R=YX (l.drop p.1) p.2.1∧MgB 1000000000000 (l.drop p.1) p.2.1) (fun p=>l.length - p.1) (0,v,m+3) ?_ ?_ (fun ⟨j,u,n⟩ hj=>?_)
 .exact ⟨by dsimp only;omega,by dsimp only;omega,hR.symm,hw⟩
 .refine JT hf ?_ ?_ ?_ ?_ (zna _)
  all_goals simp only [go_sem]
 dsimp only at hj
 obtain ⟨Cg,Bc,As,Ct⟩:=hj
 simp only [go_sem]
 refine Ae (fun d=>?_) (fun d=>?_)
 .have d:j<l.length:=by simpa using d
  obtain ⟨x,ex⟩:∃x,l[j]?=some x:=⟨l[j],by simp [d]⟩
  rw [A2 ex] at As Ct
  rw [YX] at As
  obtain ⟨Ct,Dh⟩:=Ct
  have z6:m<=n:=by omega
  have z1:¬n=m+1:=by omega
  have z2:¬n=m+2:=by omega
  have z3:¬n+1=m+1:=by omega
  have z4:¬n+1=m+2:=by omega
  have z5:m<=n+1:=by omega
  simp only [z1,z2,z3,z4,z5,z6,d,Ad (Aa Bi ex),go_sem]
  refine Ac.f (M2 x.d x.p u (by omega) _ _) ?_
  simp only [z1,z2,z3,z4,z5,z6,d,go_sem]
  refine Ae (fun c=>?_) (fun c=>?_)
  .have c:¬(Jc x.d x.p u).2=0:=by simpa using c
   rw [iN c] at As
   subst As
   simp only [z1,z2,z3,z4,z5,z6,d,go_sem]
  .have c:(Jc x.d x.p u).2=0:=by simpa using c
   rw [iP c] at As
   have Dh:=Dh c
   simp only [z1,z2,z3,z4,z5,z6,d,go_sem]
   refine ⟨(j+1,(Jc x.d x.p u).1,_),?_,?_,JT hf ?_ ?_ ?_ ?_ (zna _)⟩
   .exact ⟨by dsimp only;omega,by dsimp only;omega,As,Dh⟩
   .dsimp only;omega
   all_goals
    simp only [z1,z2,z3,z4,z5,z6,Ap j (by omega),go_sem]
 .have d:j=l.length:=by simp at d;omega
  subst d
  rw [zll,YX] at As
  subst As
  simp only [go_sem]
theorem V5 (v:Ag) (l:List DB) (hl:l.length<=1000000000000) (hw:AG v+wtP l<=1000000000000) (hp:CH) (m:Nat):Af prog 16 hp m [vx v,.ds (Ab Bi l)] (RB (YX l v)):=RN v l hl (Yg l v hw) hp m
def Cc (l:qB) (out:List qB):List qB:=if ¬l=⟨#[]⟩∧¬0<=ix l out 0 then out++[l] else out
mutual
def Zo:Pk->List qB->List qB
 | .mk _ _ _ _ _ _ l _ p,out=>C9 p (Cc l out)
def C9:List Pk->List qB->List qB
 | [],out=>out
 |p::r,out=>C9 r (Zo p out)
end
theorem NZ (p:Pk) (out:List qB):Zo p out=C9 p.picks (Cc p.label out):=by cases p;rw [Zo];rfl
theorem M0 (l:qB) (out:List qB):out.length<=(Cc l out).length∧(Cc l out).length<=out.length+1:=by
 unfold Cc
 split<;>simp
theorem KJ:∀(l:List Pk),(∀p∈l,∀out,out.length<=(C9 p.picks out).length∧(C9 p.picks out).length<=out.length+AF p.picks)->∀out,out.length<=(C9 l out).length∧(C9 l out).length<=out.length+AF l
 | [],_,out=>by rw [C9,AF];omega
 |p::r,h,out=>by
  rw [C9,AF,NZ,Cs]
  have h1:=KJ r (fun q hq=>h q (by simp [hq])) (C9 p.picks (Cc p.label out))
  have h2:=h p (by simp) (Cc p.label out)
  have h3:=M0 p.label out
  omega
theorem E8 (l:List Pk) (out:List qB):out.length<=(C9 l out).length∧(C9 l out).length<=out.length+AF l:=by
 refine KJ l (fun p _=>?_) out
 exact Pk.ind (Q:=fun p=>∀out,out.length<=(C9 p.picks out).length∧(C9 p.picks out).length<=out.length+AF p.picks) (fun v ih=>KJ v.picks ih) p
theorem Sq {a:CH} (h1:gc a c=X) (h2:∀j,j<m->j≠c->gc a j=gc hp j):Up m ((c,X)::hp) a:=fun j hj=>by
 by_cases hc:c=j
 .subst hc
  rw [Ax]
  exact h1
 .rw [Ai _ _ hc]
  exact h2 j hj (fun e=>hc e.symm)
theorem G4 (hf:∀k,m<=k->gc hp k=.no) (hc:c<m):∀k,m<=k->gc ((c,X)::hp) k=.no:=fun k hk=>by
 rw [Ai _ _ (by omega)]
 exact hf k hk
theorem Qc {P : Program} {f : FuncId} {fn : Func} {k : CC} {rs : List RS} (hf : P.funcs[f]? = some fn) (FN : (fn.name == "runtime.NumGoroutine") = false)
 (hc:fn.body.bind (BX P fn.ntmps)=some k.erase) (Ic:OB P fn.ntmps fn.results.toList=some rs) {hp:CH} {n c:Nat} {X:Ak} {args:List AV} {r:AV} (Bn:Nat.ble args.length fn.ntmps=true)
 (hX:X.lt1 n) (Da:(∀k,n<=k->gc hp k=.no)->c<n) (hv:(∀k,n<=k->gc hp k=.no)->vc P k ⟨CK 0 args,hp,n⟩ (Lt rs (Me ((c,X)::hp) n [] r))):AU P f hp n args ((c,X)::hp) n r:=by
 have Ka := (by obtain ⟨c, hb, Mt⟩ := bd hc; exact ⟨fn, hf, FN, by rw [hb]; rfl⟩ : ∃ fn, P.funcs[f]? = some fn ∧ (fn.name == "runtime.NumGoroutine") = false ∧ fn.body.isNone = false)
 refine ⟨Ka,fun h J w vs hs ha=>?_⟩
 refine (AO.out (outs:=[]) (fun k hk=>?_) (G4 hs.free (Da hs.free)) (J5 hf FN hc Ic Bn (hv hs.free))).2 h J w vs hs ha
 by_cases hkc:c=k
 .subst hkc
  rw [Ax]
  exact .inr hX
 .rw [Ai _ _ hkc]
  exact .inl rfl
def Lab (l:List Pk):Prop:=∀(out:List qB) (c g len:Nat) (hp:CH) (m:Nat),out.length=len->gc hp c=.rw g 1 (Bd out)->out.length+AF l<=1000000000000 ->
 AU prog 49 hp m [.ds (Ab AJ l),.rw c g len] ((c,.rw (g+((C9 l out).length - len)) 1 (Bd (C9 l out)))::hp) m (.rw c (g+((C9 l out).length - len)) (C9 l out).length)
theorem M9 (l:List Pk) (h:∀p∈l,Lab p.picks):Lab l:=by
 intro out c g len hp m hn hk hw
 subst hn
 obtain ⟨L,hL⟩:=A5 (C9 l out)
 have BS:=E8 l out
 have Bn:=Eg l
 rw [hL] at BS ⊢
 refine Qc func49 (tA cc49) (tB cc49) (tC cc49) rfl trivial (fun hf=>Pq hf (by assumption)) fun hf=>?_;unfold ck49
 have hc:=Pq hf hk
 simp only [hk,go_sem]
 refine loop (fun p:Nat×(List qB×Nat)×Nat=>⟨[(1,.rw c p.2.1.2 p.2.1.1.length),(7,.ds (Ab AJ l)),(8,.i .i64 l.length),(9,.i .i64 p.1)],(c,.rw p.2.1.2 1 (Bd p.2.1.1))::hp,p.2.2⟩)
  (fun p=>p.1<=l.length∧m<=p.2.2∧L=C9 (l.drop p.1) p.2.1.1∧p.2.1.2+out.length=g+p.2.1.1.length∧out.length<=p.2.1.1.length∧p.2.1.1.length+AF (l.drop p.1)<=1000000000000) (fun p=>l.length - p.1) (0,(out,g),m) ?_ ?_ (fun ⟨j,⟨o,G⟩,n⟩ hj=>?_)
 .exact ⟨by simp,by simp,hL.symm,by simp,by simp,hw⟩
 .refine AP ?_ (H2.cons ?_ (H2.refl _)) (zna _)
  all_goals
   simp only [hk,go_sem]
 dsimp only at hj
 obtain ⟨Cg,Bc,As,Ct,Dh,Kv⟩:=hj
 simp only [go_sem]
 refine Ae (fun d=>?_) (fun d=>?_)
 .have d:j<l.length:=by simpa using d
  obtain ⟨x,ex⟩:∃x,l[j]?=some x:=⟨l[j],by simp [d]⟩
  have hx:=h x (zla ex)
  rw [A2 ex] at As Kv
  rw [C9,NZ] at As
  rw [AF,Cs] at Kv
  have z1:¬n=c:=by omega
  have z3:¬c=n:=by omega
  have z2:m<=n:=Bc
  simp only [z1,z2,d,Ad (Aa AJ ex),go_sem]
  refine AH.f (fun _=>Ge o x.label (by omega) c G _ rfl _ _ (by simp only [A8,iN z1];simp)) ?_
  simp only [z1,z2,z3,go_sem]
  refine Ae (fun q=>?_) (fun q=>?_)
  .have q:¬x.label=⟨#[]⟩∧¬0<=ix x.label o 0:=by
    simp only [zj,Bool.not_eq_true',decide_eq_false_iff_not] at q
    exact q
   rw [Cc,iP q] at As
   have G2:=E8 x.picks (o++[x.label])
   simp only [zld,zlc,zle,z1b] at G2
   simp only [z1,z2,z3,go_sem]
   refine ⟨by omega,by omega,?_⟩
   refine Ac.x (hx (o++[x.label]) c (G+1) (o.length+1) _ _ (by simp) (Ax _ _ _) (by simp;omega)) ?_
   simp only [z1,z2,z3,go_sem]
   refine ⟨(j+1,(C9 x.picks (o++[x.label]),G+(1+((C9 x.picks (o++[x.label])).length - (o.length+1)))),_),?_,?_,AP ?_ (H2.base (G4 hf hc) (Sq ?_ fun i hi hn=>?_)) (zna _)⟩
   .exact ⟨by dsimp only;omega,by dsimp only;omega,As,by dsimp only;omega,by dsimp only;omega,by dsimp only;omega⟩
   .dsimp only;omega
   .simp only [Ap j (by omega),go_sem]
   .exact Ax _ _ _
   .simp only [A8]
    repeat rw [iN (by omega)]
  .have q:¬(¬x.label=⟨#[]⟩∧¬0<=ix x.label o 0):=fun hq=>by
    simp [hq.1] at q
    exact hq.2 q
   rw [Cc,iN q] at As
   have G2:=E8 x.picks o
   simp only [z1,z2,z3,go_sem]
   refine Ac.x (hx o c G o.length _ _ rfl (by simp only [A8,iN z1];simp) (by omega)) ?_
   simp only [z1,z2,z3,go_sem]
   refine ⟨(j+1,(C9 x.picks o,G+((C9 x.picks o).length - o.length)),_),?_,?_,AP ?_ (H2.base (G4 hf hc) (Sq ?_ fun i hi hn=>?_)) (zna _)⟩
   .exact ⟨by dsimp only;omega,by dsimp only;omega,As,by dsimp only;omega,by dsimp only;omega,by dsimp only;omega⟩
   .dsimp only;omega
   .simp only [Ap j (by omega),go_sem]
   .exact Ax _ _ _
   .simp only [A8]
    repeat rw [iN (by omega)]
 .have d:j=l.length:=by simp at d;omega
  subst d
  rw [zll,C9] at As
  subst As
  simp only [go_sem]
  have e:g+(L.length - out.length)=G:=by omega
  rw [e]
  exact ⟨fun _ _=>rfl,rfl,hc⟩
theorem WA (l:List Pk):Lab l:=M9 l fun p _=>Pk.ind (Q:=fun p=>Lab p.picks) (fun v ih=>M9 v.picks ih) p
theorem Yx (l:List Pk) (hw:AF l<=1000000000000) (hp:CH) (m:Nat):Af prog 49 hp m [.ds (Ab AJ l),.e0] (.ds (Bd (C9 l []))):=by
 obtain ⟨L,hL⟩:=A5 (C9 l [])
 have BS:=E8 l []
 have Bn:=Eg l
 rw [hL] at BS ⊢
 simp only [zle,z1b] at BS
 refine Aj func49 (tA cc49) (tB cc49) (tC cc49) rfl fun hf=>?_;unfold ck49
 simp only [go_sem]
 refine loop (fun p:Nat×(List qB×Nat)×Nat=>⟨[(1,.rw m p.2.1.2 p.2.1.1.length),(7,.ds (Ab AJ l)),(8,.i .i64 l.length),(9,.i .i64 p.1)],(m,.rw p.2.1.2 1 (Bd p.2.1.1))::hp,p.2.2⟩)
  (fun p=>p.1<=l.length∧m+1<=p.2.2∧L=C9 (l.drop p.1) p.2.1.1∧p.2.1.1.length+AF (l.drop p.1)<=1000000000000) (fun p=>l.length - p.1) (0,([],0),m+1) ?_ ?_ (fun ⟨j,⟨o,G⟩,n⟩ hj=>?_)
 .exact ⟨by simp,by simp,hL.symm,by simpa using hw⟩
 .refine (Bo (t:=1) (m:=1) ?_).trans (Gu hf ?_ ?_ ?_ (zna _))
  all_goals simp only [go_sem]
 dsimp only at hj
 obtain ⟨Cg,Bc,As,Kv⟩:=hj
 simp only [go_sem]
 refine Ae (fun d=>?_) (fun d=>?_)
 .have d:j<l.length:=by simpa using d
  obtain ⟨x,ex⟩:∃x,l[j]?=some x:=⟨l[j],by simp [d]⟩
  have hx:=WA x.picks
  rw [A2 ex] at As Kv
  rw [C9,NZ] at As
  rw [AF,Cs] at Kv
  have z1:¬n=m:=by omega
  have z3:¬m=n:=by omega
  have z2:m<=n:=by omega
  simp only [z1,z2,d,Ad (Aa AJ ex),go_sem]
  refine AH.f (fun _=>Ge o x.label (by omega) m G _ rfl _ _ (by simp only [A8,iN z1];simp)) ?_
  simp only [z1,z2,z3,go_sem]
  refine Ae (fun q=>?_) (fun q=>?_)
  .have q:¬x.label=⟨#[]⟩∧¬0<=ix x.label o 0:=by
    simp only [zj,Bool.not_eq_true',decide_eq_false_iff_not] at q
    exact q
   rw [Cc,iP q] at As
   have G2:=E8 x.picks (o++[x.label])
   simp only [zld,zlc,zle,z1b] at G2
   simp only [z1,z2,z3,go_sem]
   refine ⟨by omega,by omega,?_⟩
   refine Ac.x (hx (o++[x.label]) m (G+1) (o.length+1) _ _ (by simp) (Ax _ _ _) (by simp;omega)) ?_
   simp only [z1,z2,z3,go_sem]
   refine ⟨(j+1,(C9 x.picks (o++[x.label]),G+1+((C9 x.picks (o++[x.label])).length - (o.length+1))),_),?_,?_,Gu hf ?_ ?_ ?_ (zna _)⟩
   .exact ⟨by dsimp only;omega,by dsimp only;omega,As,by dsimp only;omega⟩
   .dsimp only;omega
   all_goals
    simp only [z1,z2,z3,Ap j (by omega),go_sem]
  .have q:¬(¬x.label=⟨#[]⟩∧¬0<=ix x.label o 0):=fun hq=>by
    simp [hq.1] at q
    exact hq.2 q
   rw [Cc,iN q] at As
   have G2:=E8 x.picks o
   simp only [z1,z2,z3,go_sem]
   refine Ac.x (hx o m G o.length _ _ rfl (by simp only [A8,iN z1];simp) (by omega)) ?_
   simp only [z1,z2,z3,go_sem]
   refine ⟨(j+1,(C9 x.picks o,G+((C9 x.picks o).length - o.length)),_),?_,?_,Gu hf ?_ ?_ ?_ (zna _)⟩
   .exact ⟨by dsimp only;omega,by dsimp only;omega,As,by dsimp only;omega⟩
   .dsimp only;omega
   all_goals
    simp only [z1,z2,z3,Ap j (by omega),go_sem]
 .have d:j=l.length:=by simp at d;omega
  subst d
  rw [zll,C9] at As
  subst As
  simp only [go_sem]
theorem UT (l:List Pk) (hw:AF l<=1000000000000) (hp:CH) (m:Nat):Af prog 26 hp m [.ds (Ab AJ l)] (.ds (Bd (C9 l []))):=by
 refine Aj func26 (tA cc26) (tB cc26) (tC cc26) rfl fun hf=>?_;unfold ck26
 simp only [go_sem]
 refine Ac.f (Yx l hw _ _) ?_
 simp only [go_sem]
theorem Tv (n:Int) (hp:CH) (m:Nat):Af prog 25 hp m [.i .i64 n] (vx (.mk 2 n ⟨#[]⟩ [] [])):=by
 refine Aj func25 (tA cc25) (tB cc25) (tC cc25) rfl fun hf=>?_;unfold ck25
 simp only [go_sem]
def mjA:Ag:=.mk 6 0 ⟨#[]⟩ [.mk 2 1 ⟨#[]⟩ [] []] [⟨#[97]⟩]
def mjB:Ag:=.mk 6 0 ⟨#[]⟩ [.mk 2 2 ⟨#[]⟩ [] []] [⟨#[98]⟩]
def mjC:Ag:=.mk 6 0 ⟨#[]⟩ [.mk 2 1 ⟨#[]⟩ [] [],.mk 2 2 ⟨#[]⟩ [] []] [⟨#[97]⟩,⟨#[98]⟩]
theorem mjM:YX [.mk ⟨#[120]⟩ [] mjB []] mjA=(mjC,0):=by
 have h:Lv mjA mjB=(mjC,0):=by
  simp [Lv,mjA,mjB,mjC,T2,adR,ix,Ag.k_mk,Ag.keys_mk,Ag.items_mk,Ag.n_mk,Ag.s_mk]
 rw [YX,DB.d,DB.p,Jc,h,iP rfl,YX]
theorem mjW:AG mjA+wtP [.mk ⟨#[120]⟩ [] mjB []]<=1000000000000:=by
 simp [wtP,DB.d,mjA,mjB,AG,Ci]
def mjP:Pk:=.mk ⟨#[97]⟩ ⟨#[]⟩ ⟨#[]⟩ [] ⟨#[]⟩ [] ⟨#[120]⟩ 0 []
theorem mjL:C9 [mjP] []=[⟨#[120]⟩]:=by
 simp [C9,mjP,Zo,Cc,ix]
theorem Acc (hp:CH) (m:Nat):Af prog 7 hp m [] (.b true):=by
 have hM:=V5 mjA [.mk ⟨#[120]⟩ [] mjB []] (by decide) mjW
 have hL:=UT [mjP] (by simp [AF,I8,mjP])
 rw [mjM] at hM
 rw [mjL] at hL
 refine Aj func7 (tA cc7) (tB cc7) (tC cc7) rfl fun hf=>?_;unfold ck7
 simp only [go_sem]
 refine Ac.f (Tv 1 _ _) ?_
 simp only [go_sem]
 refine Ac.f (Tv 2 _ _) ?_
 simp only [go_sem]
 refine Ac.q (args':=[vx mjA,.ds (Ab Bi [.mk ⟨#[120]⟩ [] mjB []])]) (hM _ _) (by simp only [go_sem]<;>rfl) ?_
 simp only [go_sem]
 refine Ac.q (args':=[.ds (Ab AJ [mjP])]) (hL _ _) (by simp only [go_sem]<;>rfl) ?_
 simp only [mjC,go_sem]
mutual
def lgP:Pk->Int->Bool
 | .mk _ _ _ _ _ _ _ _ p,n=>decide (0<(p.length:Int))&&((decide (IntKind.i64.wrap (n - 1)<=0)||decide (60<(p.length:Int)))||lgL p (IntKind.i64.wrap (n - 1)))
def lgL:List Pk->Int->Bool
 | [],_=>false
 |p::r,n=>lgP p n||lgL r n
end
def QP (l:List Pk) (n:Int):Bool:=(decide (n<=0)||decide (60<(l.length:Int)))||lgL l n
theorem Ag1 (p:Pk) (n:Int):lgP p n=(decide (0<(p.picks.length:Int))&&QP p.picks (IntKind.i64.wrap (n - 1))):=by cases p;rw [lgP];rfl
theorem XF (l:List Pk) (hl:l.length<=1000000000000) (h:∀p∈l,∀n hp m,Af prog 20 hp m [.ds (Ab AJ p.picks),.i .i64 n] (.b (QP p.picks n))) (n:Int) (hp:CH) (m:Nat):Af prog 20 hp m [.ds (Ab AJ l),.i .i64 n] (.b (QP l n)):=by
 refine Aj func20 (tA cc20) (tB cc20) (tC cc20) rfl fun hf=>?_;unfold ck20
 simp only [go_sem]
 refine Ae (fun c=>?_) (fun c=>?_)
 .rw [QP,c]
  simp only [go_sem]
 rw [QP,c]
 simp only [go_sem]
 refine loop (fun p:Nat×Nat=>⟨[(0,.ds (Ab AJ l)),(1,.i .i64 n),(5,.i .i64 p.1)],hp,p.2⟩) (fun p=>p.1<=l.length∧lgL l n=lgL (l.drop p.1) n) (fun p=>l.length - p.1) (0,m) ?_ ?_ (fun ⟨j,N⟩ hj=>?_)
 .exact ⟨by simp,rfl⟩
 .refine Di ?_
  simp only [go_sem]
 dsimp only at hj
 simp only [go_sem]
 refine Ae (fun d=>?_) (fun d=>?_)
 .have d:j<l.length:=by simpa using d
  obtain ⟨x,ex⟩:∃x,l[j]?=some x:=⟨l[j],by simp [d]⟩
  have hx:=h x (zla ex)
  rw [A2 ex,lgL,Ag1] at hj
  simp only [d,Ad (Aa AJ ex),go_sem]
  by_cases g:decide (0<(x.picks.length:Int))=true
  .rw [g] at hj
   simp only [g]
   simp only [d,Ad (Aa AJ ex),go_sem]
   simp only [Bool.true_and] at hj
   refine FZ (Ac.f (hx _ _ _) ?_)
   simp only [d,go_sem]
   refine Ae (fun q=>?_) (fun q=>?_)
   .have q:QP x.picks (IntKind.i64.wrap (n - 1))=true:=by simpa using q
    rw [hj.2,q]
    simp only [go_sem]
   .have q:QP x.picks (IntKind.i64.wrap (n - 1))=false:=by simpa using q
    rw [q,Bool.false_or] at hj
    simp only [go_sem]
    refine ⟨(j+1,N),⟨by dsimp only;omega,hj.2⟩,by dsimp only;omega,Di ?_⟩
    simp only [Ap j (by omega),go_sem]
  .have g:decide (0<(x.picks.length:Int))=false:=by simpa using g
   rw [g] at hj
   simp only [g]
   simp only [d,Ad (Aa AJ ex),go_sem]
   simp only [Bool.false_and,Bool.false_or] at hj
   refine BL ?_
   simp only [d,go_sem]
   refine ⟨(j+1,N),⟨by dsimp only;omega,hj.2⟩,by dsimp only;omega,Di ?_⟩
   simp only [Ap j (by omega),go_sem]
 .have d:j=l.length:=by simp at d;omega
  subst d
  rw [zll,lgL] at hj
  rw [hj.2]
  simp only [go_sem]
theorem Ad2 (l:List Pk) (hw:AF l<=1000000000000) (n:Int) (hp:CH) (m:Nat):Af prog 20 hp m [.ds (Ab AJ l),.i .i64 n] (.b (QP l n)):=by
 have key:∀p:Pk,I8 p<=1000000000000->∀n hp m,Af prog 20 hp m [.ds (Ab AJ p.picks),.i .i64 n] (.b (QP p.picks n)):=fun p=>Pk.ind (Q:=fun p=>I8 p<=1000000000000->∀n hp m,Af prog 20 hp m [.ds (Ab AJ p.picks),.i .i64 n] (.b (QP p.picks n))) (fun v ih hv=>by
  rw [Cs] at hv
  have:=Eg v.picks
  exact XF v.picks (by omega) fun p hp=>ih p hp (by have:=CA hp;omega)) p
 have:=Eg l
 exact XF l (by omega) (fun p hp=>key p (by have:=CA hp;omega)) n hp m
theorem WS (k:qB):∀(l:List qB) (j:Nat),0<=ix k l j↔k∈l
 | [],j=>by simp [ix]
 |x::r,j=>by
  rw [ix]
  split
  .rename_i h;simp [h]
  .rename_i h;rw [WS k r (j+1)];simp [h]
theorem All (l:List qB) (k:qB) (hl:l.length<=1000000000000) (c g len:Nat) (hn:l.length=len) (hp:CH) (m:Nat) (hk:gc hp c=.rw g 1 (Bd l)):Af prog 105 hp m [.rw c g len,.s k] (.b (decide (0<=ix k l 0))):=by
 subst hn
 refine Aj func105 (tA cc105) (tB cc105) (tC cc105) rfl fun hf=>?_;unfold ck105
 simp only [hk,go_sem]
 refine loop (fun p:Nat×Nat=>⟨[(0,.rw c g l.length),(1,.s k),(5,.i .i64 p.1)],hp,p.2⟩) (fun p=>p.1<=l.length∧ix k l 0=ix k (l.drop p.1) p.1) (fun p=>l.length - p.1) (0,m) ?_ ?_ (fun ⟨j,n⟩ hj=>?_)
 .exact ⟨by simp,rfl⟩
 .refine Di ?_
  simp only [go_sem]
 dsimp only at hj
 simp only [hk,go_sem]
 refine Ae (fun d=>?_) (fun d=>?_)
 .have d:j<l.length:=by simpa using d
  obtain ⟨x,ex⟩:∃x,l[j]?=some x:=⟨l[j],by simp [d]⟩
  have e:=A2 ex
  rw [e,ix] at hj
  simp only [hk,d,Ad (Aa Cz ex),go_sem]
  refine Ae (fun c1=>?_) (fun c1=>?_)
  .have c1:k=x:=by simp at c1;exact c1.symm
   rw [iP c1] at hj
   have e2:decide (0<=ix k l 0)=true:=by rw [hj.2];simp
   rw [e2]
   simp only [go_sem]
  .have c1:¬k=x:=by simp at c1;exact fun e=>c1 e.symm
   rw [iN c1] at hj
   simp only [go_sem]
   refine ⟨(j+1,n),by dsimp only;omega,by dsimp only;omega,Di ?_⟩
   simp only [Ap j (by omega),go_sem]
 .have d:j=l.length:=by simp at d;omega
  subst d
  rw [zll,ix] at hj
  have e2:decide (0<=ix k l 0)=false:=by rw [hj.2];simp
  rw [e2]
  simp only [go_sem]
end
