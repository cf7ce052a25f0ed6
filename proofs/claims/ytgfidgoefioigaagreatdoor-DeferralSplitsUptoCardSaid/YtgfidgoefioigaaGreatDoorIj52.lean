/- Proof. Conditions: none. -/
import Derived.Test.YtgfidgoefioigaaGreatDoorIj51
noncomputable section
open List renaming drop_succ_cons->za,drop_zero->ze,take_succ_cons->z7,getD_cons_zero->zk,getD_cons_succ->zo
open Option renaming map_some->z8,map_none->zr,isSome_some->zb,isSome_none->zn,getD_some->zc
open Nat renaming add_assoc->zd
open Bool renaming true_and->zv,not_true->zp,false_and->z11,not_false->zi
open Go.Proofs.Tryz
open List renaming mem_of_getElem?->zla,length_cons->zlc,length_append->zld,length_nil->zle,append_assoc->zlf,nil_append->zli,take_of_length_le->zlk,drop_length->zll,take_zero->zlr
open Nat renaming le_refl->zna,le_trans->znc
namespace Go.Proofs.YtgfidgoefioigaaGreatDoor
open Go.Eng
set_option linter.all false
set_option maxRecDepth 20000
set_option maxHeartbeats 2000000
def Hx (doc:List Aw) (nb:Bool) (j:Nat) (t:Aw):List Dn:=Uq doc t j ++
 (if t.k=1 then R5 doc t else if t.k=2 then R5 doc t else if t.k=4 then UV t else if t.k=5 then Px doc (Bm t.inputs) (t.n++⟨#[46]⟩) ⟨#[]⟩ else [])
theorem PK {doc:List Aw} (nb:Bool) (j:Nat) {t:Aw} (ht:DfnB t):(Hx doc nb j t).length<=3269:=by
 unfold Hx
 have h1:=QI doc t j
 have h2:=Q0 doc t ht.fl
 have h3:=P3 t ht.ml
 have h4:=Ft doc (Dv t.inputs) (t.n++⟨#[46]⟩) ⟨#[]⟩
 rw [zld]
 repeat' split
 all_goals (try simp only [zle]);omega
def NA (doc:List Aw) (nb:Bool):List Dn:=Hw (Hx doc nb) doc doc.length++(if nb=true∧(Az doc ⟨#[81,117,101,114,121]⟩).isSome=false then [.mk 30 ⟨#[81,117,101,114,121]⟩] else [])
theorem Rg (doc:List Aw) (hd:DocB doc) (nb:Bool) (hp:CH) (m:Nat):AO prog 43 hp m [B0 doc,.b nb] (UI (fun l:List Dn=>l=NA doc nb) fun l Al n' r'=>Al=Ch m [(2,Ab AR l)]++([]++hp)∧n'=m+1∧r'=.rw m 0 l.length):=by
 have G0:=hd.l
 obtain ⟨RR,A9⟩:=A5 (NA doc nb)
 rw [A9]
 unfold NA at A9
 refine ZK (fun l:List Dn=>[(2,Ab AR l)]) (fun l:List Dn=>l=RR) (fun _=>[]) (fun l=>.rw m 0 l.length) func43 (tA cc43) (tB cc43) (tC cc43) rfl (fun hf i hi=>trivial) fun hf=>?_
 unfold ck43
 simp only [go_sem]
 refine loop (fun p:RY=>match p with
  | .mk j g L n=>⟨[(1,.b nb),(2,.bx m 0),(5,.rw (m+1) g L.length),(6,.i .i64 j)],(m+1,.rw g 2 (Ab AR L))::(m,.bx [.ds (Ab B8 doc)])::hp,n⟩)
  (fun p=>match p with | .mk j g L n=>j<=doc.length∧m+2<=n∧L=Hw (Hx doc nb) doc j) (fun p=>match p with | .mk j g L n=>doc.length - j) (.mk 0 0 [] (m+2)) ?_ ?_ (fun p hj=>?_)
 .exact ⟨Nat.zero_le _,zna _,rfl⟩
 .dsimp only
  refine (Bo (t:=5) (m:=2) (by (simp (disch:=omega) only [go_sem]))).trans (Mb hf ?_ ?_ ?_ (fun a ha c7=>?_) (zna _))
  .simp (disch:=omega) only [go_sem]
  .simp (disch:=omega) only [go_sem]
   try rfl
  .simp (disch:=omega) only [go_sem]
  .repeat rw [Ai _ _ (by omega)]
 obtain ⟨j,g,L,n⟩:=p
 obtain ⟨Cg,Bc,As⟩:=hj
 have hLb:L.length<=3269*j:=by rw [As];exact D4 (fun j x e=>PK nb j (hd.d x (zla e))) j
 have BS:(Ab AR L).length=L.length:=Ao _ _
 have LV:(Ab AR L).take L.length=Ab AR L:=zlk (by omega)
 have BC:m<=n:=by omega
 dsimp only
 simp (disch:=omega) only [go_sem]
 refine Ae (fun q=>?_) (fun q=>?_)
 .have q:j<doc.length:=by simpa using q
  obtain ⟨t,et⟩:∃x,doc[j]?=some x:=⟨doc[j],by simp [q]⟩
  have ht:=hd.d t (zla et)
  obtain ⟨LX,HG,Dw⟩:=BO ht.i
  have C6:=F5 (A:=Hx doc nb) et
  have l1:=Q0 doc t ht.fl
  have l2:=P3 t ht.ml
  have l3:=Ft doc (Dv t.inputs) (t.n++⟨#[46]⟩) ⟨#[]⟩
  obtain ⟨iz,hiz⟩:=A5 (Bm t.inputs)
  rw [hiz] at LX HG Dw l3
  have htn:=ht.n
  have z1:t.n.size+(#[46]:Array UInt8).size<=9223372036854775807:=by show t.n.size+1<=9223372036854775807;omega
  simp (disch:=omega) only [q,Ad (Aa B8 et),go_sem]
  refine Ac.r (Xg doc hd j t et _ _) ?_
  rintro Al n' r ⟨F1,O7,e1,e2,e3⟩
  subst e1
  subst e2
  subst e3
  have H4:F1=_:=O7
  have O7:F1.length<=5:=by rw [H4];exact QI _ _ _
  have k1:(L.length+F1.length)*24<=140737488355328:=by omega
  have k2:L.length+F1.length<=9223372036854775807:=by omega
  have DI:(Ab AR F1).length=F1.length:=Ao _ _
  have Kx:(Ab AR (L++F1)).length=L.length+F1.length:=by rw [Ao,zld]
  simp only [zli]
  by_cases c1:t.k=1
  .simp (disch:=omega) only [q,Ad (Aa B8 et),BS,DI,k1,k2,Ay,dT c1,true_and,go_sem]
   refine Ac.r (M6 doc G0 t ht _ _) ?_
   rintro Al n' r ⟨F2,IP,e1,e2,e3⟩
   subst e1
   subst e2
   subst e3
   have EM:F2=_:=IP
   have IP:F2.length<=3264:=by rw [EM];exact znc l1 (by decide)
   have V7:Hx doc nb j t=F1++F2:=by unfold Hx;rw [iP c1,<-H4,EM]
   simp only [zli]
   have k5:(L.length+(F1.length+F2.length))*24<=140737488355328:=by omega
   have k6:L.length+(F1.length+F2.length)<=9223372036854775807:=by omega
   have Jw:(Ab AR F2).length=F2.length:=Ao _ _
   simp (disch:=omega) only [q,Ad (Aa B8 et),BS,DI,Kx,Jw,k1,k2,k5,k6,Ay,Av,zd,zld,zlc,zle,Ao,go_sem]
   refine ⟨.mk (j+1) (g+1+1) (L++F1++F2) (n+400),⟨show j+1<=doc.length by omega,show m+2<=n+400 by omega,by show _=_;rw [C6,V7,As];try simp only [zlf]⟩,by show doc.length - (j+1)<doc.length - j;omega,?_⟩
   dsimp only
   refine Mb hf ?_ ?_ ?_ (fun a ha c7=>?_) (by omega)
   .simp (disch:=omega) only [Ap j (by omega),zld,zlc,zle,go_sem]
    try simp [zd]
   .simp (disch:=omega) only [Ay,Av,zlf,go_sem]
    try simp [zlf]
   .simp (disch:=omega) only [go_sem]
   .repeat rw [Ai _ _ (by omega)]
  by_cases c2:t.k=2
  .simp (disch:=omega) only [q,Ad (Aa B8 et),BS,DI,k1,k2,Ay,dF c1,dT c2,true_and,go_sem]
   refine Ac.r (M6 doc G0 t ht _ _) ?_
   rintro Al n' r ⟨F2,IP,e1,e2,e3⟩
   subst e1
   subst e2
   subst e3
   have EM:F2=_:=IP
   have IP:F2.length<=3264:=by rw [EM];exact znc l1 (by decide)
   have V7:Hx doc nb j t=F1++F2:=by unfold Hx;rw [iN c1,iP c2,<-H4,EM]
   simp only [zli]
   have k5:(L.length+(F1.length+F2.length))*24<=140737488355328:=by omega
   have k6:L.length+(F1.length+F2.length)<=9223372036854775807:=by omega
   have Jw:(Ab AR F2).length=F2.length:=Ao _ _
   simp (disch:=omega) only [q,Ad (Aa B8 et),BS,DI,Kx,Jw,k1,k2,k5,k6,Ay,Av,zd,zld,zlc,zle,Ao,go_sem]
   refine ⟨.mk (j+1) (g+1+1) (L++F1++F2) (n+400),⟨show j+1<=doc.length by omega,show m+2<=n+400 by omega,by show _=_;rw [C6,V7,As];try simp only [zlf]⟩,by show doc.length - (j+1)<doc.length - j;omega,?_⟩
   dsimp only
   refine Mb hf ?_ ?_ ?_ (fun a ha c7=>?_) (by omega)
   .simp (disch:=omega) only [Ap j (by omega),zld,zlc,zle,go_sem]
    try simp [zd]
   .simp (disch:=omega) only [Ay,Av,zlf,go_sem]
    try simp [zlf]
   .simp (disch:=omega) only [go_sem]
   .repeat rw [Ai _ _ (by omega)]
  by_cases c4:t.k=4
  .simp (disch:=omega) only [q,Ad (Aa B8 et),BS,DI,k1,k2,Ay,dF c1,dF c2,dT c4,true_and,go_sem]
   refine Ac.r (RQ t ht.n ht.ml ht.m _ _) ?_
   rintro Al n' r ⟨F2,IP,e1,e2,e3⟩
   subst e1
   subst e2
   subst e3
   have EM:F2=_:=IP
   have IP:F2.length<=3264:=by rw [EM];exact znc l2 (by decide)
   have V7:Hx doc nb j t=F1++F2:=by unfold Hx;rw [iN c1,iN c2,iP c4,<-H4,EM]
   simp only [zli]
   have k5:(L.length+(F1.length+F2.length))*24<=140737488355328:=by omega
   have k6:L.length+(F1.length+F2.length)<=9223372036854775807:=by omega
   have Jw:(Ab AR F2).length=F2.length:=Ao _ _
   simp (disch:=omega) only [q,Ad (Aa B8 et),BS,DI,Kx,Jw,k1,k2,k5,k6,Ay,Av,zd,zld,zlc,zle,Ao,go_sem]
   refine ⟨.mk (j+1) (g+1+1) (L++F1++F2) (n+400),⟨show j+1<=doc.length by omega,show m+2<=n+400 by omega,by show _=_;rw [C6,V7,As];try simp only [zlf]⟩,by show doc.length - (j+1)<doc.length - j;omega,?_⟩
   dsimp only
   refine Mb hf ?_ ?_ ?_ (fun a ha c7=>?_) (by omega)
   .simp (disch:=omega) only [Ap j (by omega),zld,zlc,zle,go_sem]
    try simp [zd]
   .simp (disch:=omega) only [Ay,Av,zlf,go_sem]
    try simp [zlf]
   .simp (disch:=omega) only [go_sem]
   .repeat rw [Ai _ _ (by omega)]
  by_cases c5:t.k=5
  .simp (disch:=omega) only [q,Ad (Aa B8 et),BS,DI,k1,k2,Ay,dF c1,dF c2,dF c4,dT c5,true_and,LX,z1,go_sem]
   refine Ac.r (Hf doc G0 iz HG (fun x hx=>(Dw x hx).2) _ _ ?_ ?_ _ _) ?_
   .simp only [ByteArray.size_append,e46];omega
   .decide
   rintro Al n' r ⟨F2,IP,e1,e2,e3⟩
   subst e1
   subst e2
   subst e3
   have EM:F2=_:=IP
   have IP:F2.length<=3264:=by rw [EM];exact znc l3 (by decide)
   have V7:Hx doc nb j t=F1++F2:=by unfold Hx;rw [iN c1,iN c2,iN c4,iP c5,hiz,<-H4,EM]
   simp only [zli]
   have k5:(L.length+(F1.length+F2.length))*24<=140737488355328:=by omega
   have k6:L.length+(F1.length+F2.length)<=9223372036854775807:=by omega
   have Jw:(Ab AR F2).length=F2.length:=Ao _ _
   simp (disch:=omega) only [q,Ad (Aa B8 et),BS,DI,Kx,Jw,k1,k2,k5,k6,Ay,Av,zd,zld,zlc,zle,Ao,go_sem]
   refine ⟨.mk (j+1) (g+1+1) (L++F1++F2) (n+400),⟨show j+1<=doc.length by omega,show m+2<=n+400 by omega,by show _=_;rw [C6,V7,As];try simp only [zlf]⟩,by show doc.length - (j+1)<doc.length - j;omega,?_⟩
   dsimp only
   refine Mb hf ?_ ?_ ?_ (fun a ha c7=>?_) (by omega)
   .simp (disch:=omega) only [Ap j (by omega),zld,zlc,zle,go_sem]
    try simp [zd]
   .simp (disch:=omega) only [Ay,Av,zlf,go_sem]
    try simp [zlf]
   .simp (disch:=omega) only [go_sem]
   .repeat rw [Ai _ _ (by omega)]
  .simp (disch:=omega) only [q,Ad (Aa B8 et),BS,DI,k1,k2,Ay,dF c1,dF c2,dF c4,dF c5,true_and,go_sem]
   have V7:Hx doc nb j t=F1:=by unfold Hx;rw [iN c1,iN c2,iN c4,iN c5,<-H4,List.append_nil]
   refine ⟨.mk (j+1) (g+1) (L++F1) (n+400),⟨show j+1<=doc.length by omega,show m+2<=n+400 by omega,by show _=_;rw [C6,V7,As];try simp only [zlf]⟩,by show doc.length - (j+1)<doc.length - j;omega,?_⟩
   dsimp only
   refine Mb hf ?_ ?_ ?_ (fun a ha c7=>?_) (by omega)
   .simp (disch:=omega) only [Ap j (by omega),zld,zlc,zle,go_sem]
    try simp [zd]
   .simp (disch:=omega) only [Ay,Av,zlf,go_sem]
    try simp [zlf]
   .simp (disch:=omega) only [go_sem]
   .repeat rw [Ai _ _ (by omega)]
 have q:j=doc.length:=by simp at q;omega
 subst q
 rw [<-As] at A9
 have hF:=BI doc (by omega) ⟨#[81,117,101,114,121]⟩
 unfold Eh at hF
 obtain ⟨X,hX⟩:=A5 (Az doc ⟨#[81,117,101,114,121]⟩)
 rw [hX] at hF A9
 obtain ⟨xb,hxb⟩:=A5 (X.isSome)
 rw [hxb] at hF A9
 have k1:(L.length+1)*24<=140737488355328:=by omega
 have k2:L.length<=9223372036854775806:=by omega
 simp (disch:=omega) only [go_sem]
 refine Ac.f (hF _ _) ?_
 cases nb<;>cases xb
 case' true.false=>
  simp (disch:=omega) only [BS,k1,k2,Av,true_and,go_sem]
  refine Cw (L++[.mk 30 ⟨#[81,117,101,114,121]⟩]) (by rw [<-A9,iP ⟨rfl,rfl⟩]) ?_
  simp (disch:=omega) only [BC,BS,zna,zld,zlc,zle,go_sem]
 all_goals
  try (simp (disch:=omega) only [go_sem])
  refine Cw L (by rw [<-A9,iN (by decide),List.append_nil]) ?_
  simp (disch:=omega) only [BC,BS,zna,go_sem]
set_option maxHeartbeats 1000000
theorem W2 {doc:List Aw} (hd:DocB doc) (nb:Bool):(NA doc nb).length<=1000000:=by
 have h1:=D4 (A:=Hx doc nb) (l:=doc) (fun j x e=>PK nb j (hd.d x (zla e))) doc.length
 have h2:=hd.l
 unfold NA
 rw [zld]
 split
 .simp only [zlc,zle];omega
 .simp only [zle];omega
def Xt (doc:List Aw):List Dn:=if 0<((NA doc true).length:Int) then NA doc true else NA doc true++doc.flatMap (HN doc)++doc.flatMap (KY doc)
theorem Vx (doc:List Aw) (hd:DocB doc) (hk:DocOk doc) (hp:CH) (m:Nat):Af prog 23 hp m [B0 doc] (.ds (Ab AR (Xt doc))):=by
 obtain ⟨RR,A9⟩:=A5 (Xt doc)
 rw [A9]
 unfold Xt at A9
 have lC:=W2 hd true
 have G0:=hd.l
 have hA:=X7 doc hk hd
 have hB:=K2 doc hd
 have lA:=LL hd doc hd.d
 have lB:=Lg (doc:=doc) doc hd.d
 obtain ⟨FA,hFA⟩:=A5 (doc.flatMap (HN doc))
 obtain ⟨FB,hFB⟩:=A5 (doc.flatMap (KY doc))
 rw [hFA] at hA lA A9
 rw [hFB] at hB lB A9
 have Kx:(Ab AR FA).length=FA.length:=Ao _ _
 have hBl:(Ab AR FB).length=FB.length:=Ao _ _
 refine Aj func23 (tA cc23) (tB cc23) (tC cc23) rfl fun hf=>?_;unfold ck23
 simp (disch:=omega) only [go_sem]
 refine Ac.r (Rg doc hd true _ _) ?_
 rintro Al n' r ⟨F1,O7,e1,e2,e3⟩
 subst e1
 subst e2
 subst e3
 have O7:F1=NA doc true:=O7
 rw [<-O7] at lC A9
 have hF1l:(Ab AR F1).length=F1.length:=Ao _ _
 simp only [zli]
 have LV:(Ab AR F1).take F1.length=Ab AR F1:=zlk (by omega)
 simp (disch:=omega) only [go_sem]
 refine Ae (fun c=>?_) (fun c=>?_)
 .rw [iP (by simpa using c)] at A9
  subst A9
  simp (disch:=omega) only [zna,LV,hF1l,go_sem]
 .rw [iN (by simpa using c)] at A9
  have k1:(F1.length+FA.length)*24<=140737488355328:=by omega
  have k2:F1.length+FA.length<=9223372036854775807:=by omega
  have k3:(F1.length+FA.length+FB.length)*24<=140737488355328:=by omega
  have k4:F1.length+FA.length+FB.length<=9223372036854775807:=by omega
  have k3':(F1.length+(FA.length+FB.length))*24<=140737488355328:=by omega
  have k4':F1.length+(FA.length+FB.length)<=9223372036854775807:=by omega
  simp (disch:=omega) only [go_sem]
  refine Ac.f (hA _ _) ?_
  simp (disch:=omega) only [hF1l,Kx,k1,k2,Ay,true_and,go_sem]
  refine Ac.f (hB _ _) ?_
  have G2:(Ab AR (F1++FA)).length=F1.length+FA.length:=by rw [Ao,zld]
  have hl3:(Ab AR (F1++FA++FB)).length=F1.length+FA.length+FB.length:=by rw [Ao,zld,zld]
  have ht3:(F1++FA++FB).take (F1.length+(FA.length+FB.length))=F1++FA++FB:=zlk (by simp only [zld];omega)
  subst A9
  simp (disch:=omega) only [hF1l,Kx,hBl,G2,k3,k4,k3',k4',Ay,true_and,zna,hl3,ht3,go_sem]
theorem KW (l:List Pk) (hw:AF l<=1000000000000) (h:∀p∈l,∀hp m,Af prog 47 hp m [.ds (Ab AJ p.picks)] (.i .i64 (AF p.picks))) (hp:CH) (m:Nat):Af prog 47 hp m [.ds (Ab AJ l)] (.i .i64 (AF l)):=by
 have hl:=Eg l
 obtain ⟨R,hR⟩:=A5 (AF l)
 rw [hR]
 refine Aj func47 (tA cc47) (tB cc47) (tC cc47) rfl fun hf=>?_;unfold ck47
 simp only [go_sem]
 refine loop (fun p:Nat×Nat×Nat=>⟨[(0,.ds (Ab AJ l)),(3,.i .i64 p.2.1),(4,.i .i64 p.1)],hp,p.2.2⟩) (fun p=>p.1<=l.length∧R+(l.length - p.1)=p.2.1+AF (l.drop p.1)) (fun p=>l.length - p.1) (0,l.length,m) ?_ ?_ (fun ⟨j,c,n⟩ hj=>?_)
 .exact ⟨by simp,by simp;omega⟩
 .refine Di ?_
  simp only [go_sem]
 dsimp only at hj
 obtain ⟨Cg,Bc⟩:=hj
 simp only [go_sem]
 refine Ae (fun d=>?_) (fun d=>?_)
 .have d:j<l.length:=by simpa using d
  obtain ⟨x,ex⟩:∃x,l[j]?=some x:=⟨l[j],by simp [d]⟩
  rw [A2 ex,AF,Cs] at Bc
  simp only [d,Ad (Aa AJ ex),go_sem]
  refine Ac.f (h x (zla ex) _ _) ?_
  have k1:IntKind.i64.wrap ((c:Int)+(AF x.picks:Nat))=((c+AF x.picks:Nat):Int):=by
   rw [<-Int.natCast_add];exact Ub (by omega)
  simp only [k1,go_sem]
  refine ⟨(j+1,c+AF x.picks,n),⟨by dsimp only;omega,by dsimp only;omega⟩,by dsimp only;omega,Di ?_⟩
  simp only [Ap j (by omega),go_sem]
 .have d:j=l.length:=by simp at d;omega
  subst d
  rw [zll,AF] at Bc
  have Bc:R=c:=by omega
  subst Bc
  simp only [go_sem]
theorem Rk (l:List Pk) (hw:AF l<=1000000000000) (hp:CH) (m:Nat):Af prog 47 hp m [.ds (Ab AJ l)] (.i .i64 (AF l)):=by
 have key:∀p:Pk,I8 p<=1000000000000->∀hp m,Af prog 47 hp m [.ds (Ab AJ p.picks)] (.i .i64 (AF p.picks)):=fun p=>Pk.ind (Q:=fun p=>I8 p<=1000000000000->∀hp m,Af prog 47 hp m [.ds (Ab AJ p.picks)] (.i .i64 (AF p.picks))) (fun v ih hv=>by
  rw [Cs] at hv
  exact KW v.picks (by omega) fun p hp=>ih p hp (by have:=CA hp;omega)) p
 exact KW l hw (fun p hp=>key p (by have:=CA hp;omega)) hp m
def LR (doc:List Aw):List BN->List HD->Bool
 | [],l=>decide (l=[])
 |d::ds,l=>match l with
  | []=>!(d.has||Gk d.tw)&&LR doc ds []
  |a::r=>if a.n=d.n then decide ((Vs doc false d.tn d.tw a.v).2=0)&&(DU false a.v&&(decide (FV (Vs doc false d.tn d.tw a.v).1 a.v=0)&&LR doc ds r)) else !(d.has||Gk d.tw)&&LR doc ds (a::r)
def Qe (l:List HD):Prop:=∀a∈l,a.v.Fit∧a.v.Rng
theorem Us (doc:List Aw) (hd:DocB doc) (is:List BN) (LX:is.length<=16) (HG:∀x∈is,H7 x∧x.n.size<=64) (l:List HD) (hl:l.length<=1000000000) (hr:Qe l) (hp:CH) (m:Nat):Af prog 141 hp m [B0 doc,.ds (Ab AD is),.ds (Ab BB l)] (.b (LR doc is l)):=by
 obtain ⟨R,hR⟩:=A5 (LR doc is l)
 rw [hR]
 refine Aj func141 (tA cc141) (tB cc141) (tC cc141) rfl fun hf=>?_;unfold ck141
 simp (disch:=omega) only [go_sem]
 refine loop (fun p:Nat×Nat×Nat=>⟨[(1,.ds (Ab AD is)),(2,.ds (Ab BB l)),(3,.bx m 0),(7,.i .i64 p.2.1),(8,.i .i64 p.1)],(m,.bx [.ds (Ab B8 doc)])::hp,p.2.2⟩)
  (fun p=>p.1<=is.length∧p.2.1<=l.length∧m+1<=p.2.2∧R=LR doc (is.drop p.1) (l.drop p.2.1)) (fun p=>is.length - p.1) (0,0,m+1) ?_ ?_ (fun ⟨j,k,n⟩ hj=>?_)
 .exact ⟨by simp,by simp,by simp,hR.symm⟩
 .refine Gu hf ?_ ?_ ?_ (zna _)
  all_goals (simp (disch:=omega) only [go_sem])
 dsimp only at hj
 obtain ⟨Cg,Bc,As,Ct⟩:=hj
 simp (disch:=omega) only [go_sem]
 refine Ae (fun d=>?_) (fun d=>?_)
 case' refine_2=>
  have d:j=is.length:=by simp at d;omega
  subst d
  rw [zll,LR] at Ct
  have e:decide ((k:Int)=(l.length:Int))=decide (l.drop k=[]):=by
   rw [decide_eq_decide,List.drop_eq_nil_iff]
   omega
  simp only [e,<-Ct,go_sem]
 have d:j<is.length:=by simpa using d
 obtain ⟨x,ex⟩:∃x,is[j]?=some x:=⟨is[j],by simp [d]⟩
 rw [A2 ex] at Ct
 obtain ⟨⟨x1,⟨x2,x3⟩,x4⟩,x5⟩:=HG x (zla ex)
 have hN:=DE x.tn x.tw (by omega)
 by_cases q:k<l.length
 .obtain ⟨a,ea⟩:∃a,l[k]?=some a:=⟨l[k],by simp [q]⟩
  obtain ⟨a1,a2⟩:=hr a (zla ea)
  rw [A2 ea,LR] at Ct
  have dq:decide ((k:Int)<(l.length:Int))=true:=by simp;exact q
  by_cases c:a.n=x.n
  .rw [iP c] at Ct
   have hI:=R0 doc hd x.tn x.tw a.v x1 a1 a2
   have hF:=Aax doc hd false x.tn x.tw a.v x1 a1 a2
   obtain ⟨W,hW⟩:=A5 (Vs doc false x.tn x.tw a.v)
   rw [hW] at hI hF Ct
   have hRt:=Vo a.v a1
   have hSm:=Ij W.1 a.v hF a1
   have eg:(Ab BB l)[k]?=some (BB a):=Aa BB ea
   have ei:(Ab AD is)[j]?=some (AD x):=Aa AD ex
   simp (disch:=omega) only [d,q,dq,Ad (Aa AD ex),Ad (Aa BB ea),dT c,eg,ei,zlc,zle,za,ze,z7,zlr,z8,zr,zb,zn,zc,zk,zo,and_self,Bl,true_and,AD,BB,go_sem]
   refine Aq.f (fun _ _ _=>hI _ _) ?_
   have u1:¬n+32=m:=by omega
   have BC:m<=n:=by omega
   by_cases w:W.2=0
   .rw [dT w,zv] at Ct
    simp (disch:=omega) only [d,q,dq,Ad (Aa AD ex),Ad (Aa BB ea),dT c,eg,ei,dT w,zp,zlc,zle,za,ze,z7,zlr,z8,zr,zb,zn,zc,zk,zo,and_self,Bl,true_and,AD,BB,go_sem]
    refine ⟨u1,AC.f (fun _ _ _=>hRt _ _) ?_⟩
    cases VQ:DU false a.v
    .rw [VQ,z11] at Ct
     subst Ct
     simp (disch:=omega) only [d,q,dq,Ad (Aa AD ex),Ad (Aa BB ea),dT c,eg,ei,dT w,zp,zi,zlc,zle,za,ze,z7,zlr,z8,zr,zb,zn,zc,zk,zo,and_self,Bl,true_and,AD,BB,go_sem]
     refine AC.no ?_
     simp (disch:=omega) only [BC,zp,zi,go_sem]
    .rw [VQ,zv] at Ct
     simp (disch:=omega) only [d,q,dq,Ad (Aa AD ex),Ad (Aa BB ea),dT c,eg,ei,dT w,zp,zi,zlc,zle,za,ze,z7,zlr,z8,zr,zb,zn,zc,zk,zo,and_self,Bl,true_and,AD,BB,go_sem]
     refine AC.f (fun _ _ _=>hSm _ _) ?_
     cases VC:decide (FV W.1 a.v=0)
     .rw [VC,z11] at Ct
      subst Ct
      simp (disch:=omega) only [BC,zp,zi,go_sem]
     .rw [VC,zv] at Ct
      simp (disch:=omega) only [BC,zp,zi,go_sem]
      refine ⟨(j+1,(k+1),n+100),⟨show j+1<=is.length by omega,by dsimp only;omega,show m+1<=n+100 by omega,Ct⟩,by show is.length - (j+1)<is.length - j;omega,Gu hf ?_ ?_ ?_ (by dsimp only;omega)⟩
      .simp (disch:=omega) only [Ap j (by omega),Ap k (by omega),go_sem]
      .simp (disch:=omega) only [go_sem]
      .simp (disch:=omega) only [go_sem]
   .rw [dF w,z11] at Ct
    subst Ct
    simp (disch:=omega) only [d,q,dq,Ad (Aa AD ex),Ad (Aa BB ea),dT c,eg,ei,dF w,zp,zi,zlc,zle,za,ze,z7,zlr,z8,zr,zb,zn,zc,zk,zo,and_self,Bl,true_and,AD,BB,go_sem]
    refine ⟨u1,AC.no ?_⟩
    simp (disch:=omega) only [d,q,dq,Ad (Aa AD ex),Ad (Aa BB ea),dT c,eg,ei,dF w,zp,zi,zlc,zle,za,ze,z7,zlr,z8,zr,zb,zn,zc,zk,zo,and_self,Bl,true_and,AD,BB,go_sem]
    refine AC.no ?_
    simp (disch:=omega) only [BC,zp,zi,go_sem]
  .rw [iN c] at Ct
   have eg:(Ab BB l)[k]?=some (BB a):=Aa BB ea
   have ei:(Ab AD is)[j]?=some (AD x):=Aa AD ex
   simp (disch:=omega) only [d,q,dq,Ad (Aa AD ex),Ad (Aa BB ea),dF c,eg,ei,zlc,zle,za,ze,z7,zlr,z8,zr,zb,zn,zc,zk,zo,and_self,Bl,true_and,AD,BB,go_sem]
   by_cases hb:x.has=true
   .simp only [hb,Bool.true_or,zp,z11] at Ct
    subst Ct
    try simp only [hb]
    simp (disch:=omega) only [d,eg,Ad (Aa AD ex),ei,zp,zlc,zle,za,ze,z7,zlr,z8,zr,zb,zn,zc,zk,zo,and_self,Bl,true_and,AD,BB,go_sem]
    refine BL ?_
    have BC:m<=n:=by omega
    simp (disch:=omega) only [d,eg,Ad (Aa AD ex),ei,zp,BC,zlc,zle,za,ze,z7,zlr,z8,zr,zb,zn,zc,zk,zo,and_self,Bl,true_and,AD,BB,go_sem]
   .have hb:x.has=false:=by simpa using hb
    simp only [hb,Bool.false_or] at Ct
    simp only [hb]
    obtain ⟨nn,hnn⟩:=A5 (Gk x.tw)
    rw [hnn] at hN Ct
    simp (disch:=omega) only [d,eg,Ad (Aa AD ex),ei,zi,zlc,zle,za,ze,z7,zlr,z8,zr,zb,zn,zc,zk,zo,and_self,Bl,true_and,AD,BB,go_sem]
    refine FZ (Ac.f (hN _ _) ?_)
    cases nn
    .simp only [zi,zv] at Ct
     simp (disch:=omega) only [d,eg,Ad (Aa AD ex),ei,zi,zlc,zle,za,ze,z7,zlr,z8,zr,zb,zn,zc,zk,zo,and_self,Bl,true_and,AD,BB,go_sem]
     refine ⟨(j+1,k,n+100),⟨show j+1<=is.length by omega,by dsimp only;omega,show m+1<=n+100 by omega,by rw [A2 ea];exact Ct⟩,by show is.length - (j+1)<is.length - j;omega,Gu hf ?_ ?_ ?_ (by dsimp only;omega)⟩
     .simp (disch:=omega) only [Ap j (by omega),Ap k (by omega),go_sem]
     .simp (disch:=omega) only [go_sem]
     .simp (disch:=omega) only [go_sem]
    .simp only [zp,z11] at Ct
     subst Ct
     simp (disch:=omega) only [d,eg,Ad (Aa AD ex),ei,zi,zlc,zle,za,ze,z7,zlr,z8,zr,zb,zn,zc,zk,zo,and_self,Bl,true_and,AD,BB,go_sem]
     try (have BC:m<=n:=by omega;(simp (disch:=omega) only [BC,go_sem]))
 .have dq:decide ((k:Int)<(l.length:Int))=false:=by simp;omega
  have hk:k=l.length:=by omega
  subst hk
  rw [zll,LR] at Ct
  have eg:(Ab BB l)[l.length]?=none:=List.getElem?_eq_none (by rw [Ao];exact zna _)
  have ei:(Ab AD is)[j]?=some (AD x):=Aa AD ex
  simp (disch:=omega) only [d,q,dq,Ad (Aa AD ex),eg,ei,zlc,zle,za,ze,z7,zlr,z8,zr,zb,zn,zc,zk,zo,and_self,Bl,true_and,AD,BB,go_sem]
  obtain ⟨k,hk⟩:=A5 (l.length)
  have hdr:l.drop k=[]:=by rw [<-hk];exact zll
  rw [hk] at q dq eg Bc
  simp only [hk]
  by_cases hb:x.has=true
  .simp only [hb,Bool.true_or,zp,z11] at Ct
   subst Ct
   try simp only [hb]
   simp (disch:=omega) only [d,eg,Ad (Aa AD ex),ei,zp,zlc,zle,za,ze,z7,zlr,z8,zr,zb,zn,zc,zk,zo,and_self,Bl,true_and,AD,BB,go_sem]
   refine BL ?_
   have BC:m<=n:=by omega
   simp (disch:=omega) only [d,eg,Ad (Aa AD ex),ei,zp,BC,zlc,zle,za,ze,z7,zlr,z8,zr,zb,zn,zc,zk,zo,and_self,Bl,true_and,AD,BB,go_sem]
  .have hb:x.has=false:=by simpa using hb
   simp only [hb,Bool.false_or] at Ct
   simp only [hb]
   obtain ⟨nn,hnn⟩:=A5 (Gk x.tw)
   rw [hnn] at hN Ct
   simp (disch:=omega) only [d,eg,Ad (Aa AD ex),ei,zi,zlc,zle,za,ze,z7,zlr,z8,zr,zb,zn,zc,zk,zo,and_self,Bl,true_and,AD,BB,go_sem]
   refine FZ (Ac.f (hN _ _) ?_)
   cases nn
   .simp only [zi,zv] at Ct
    simp (disch:=omega) only [d,eg,Ad (Aa AD ex),ei,zi,zlc,zle,za,ze,z7,zlr,z8,zr,zb,zn,zc,zk,zo,and_self,Bl,true_and,AD,BB,go_sem]
    refine ⟨(j+1,k,n+100),⟨show j+1<=is.length by omega,by dsimp only;omega,show m+1<=n+100 by omega,by rw [hdr];exact Ct⟩,by show is.length - (j+1)<is.length - j;omega,Gu hf ?_ ?_ ?_ (by dsimp only;omega)⟩
    .simp (disch:=omega) only [Ap j (by omega),Ap k (by omega),go_sem]
    .simp (disch:=omega) only [go_sem]
    .simp (disch:=omega) only [go_sem]
   .simp only [zp,z11] at Ct
    subst Ct
    simp (disch:=omega) only [d,eg,Ad (Aa AD ex),ei,zi,zlc,zle,za,ze,z7,zlr,z8,zr,zb,zn,zc,zk,zo,and_self,Bl,true_and,AD,BB,go_sem]
    try (have BC:m<=n:=by omega;(simp (disch:=omega) only [BC,go_sem]))
