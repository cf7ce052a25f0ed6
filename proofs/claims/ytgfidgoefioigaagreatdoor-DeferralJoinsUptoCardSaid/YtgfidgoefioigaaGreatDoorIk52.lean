/- Proof. Conditions: none. -/
import Derived.Test.YtgfidgoefioigaaGreatDoorIk51
noncomputable section
open List renaming drop_succ_cons->za,drop_zero->zf,take_succ_cons->z8,getD_cons_zero->zk,getD_cons_succ->zo
open Option renaming map_some->z7,map_none->zr,isSome_some->zb,isSome_none->zn,getD_some->zc
open Nat renaming add_assoc->ze
open Bool renaming true_and->zt,not_true->zu,false_and->zy,not_false->zp
open Go.Proofs.Tryz
open List renaming mem_of_getElem?->zla,length_cons->zlc,length_append->zld,length_nil->zle,append_assoc->zlf,nil_append->zli,take_of_length_le->zlk,drop_length->zll,take_zero->zlr
open Nat renaming le_refl->zna,le_trans->znc
namespace Go.Proofs.YtgfidgoefioigaaGreatDoor
open Go.Eng
set_option linter.all false
set_option maxRecDepth 20000
set_option maxHeartbeats 2000000
def Gw (doc:List Av) (nb:Bool) (j:Nat) (t:Av):List Da:=QJ doc t j ++
 (if t.k=1 then Re doc t else if t.k=2 then Re doc t else if t.k=4 then U2 t else if t.k=5 then OS doc (Bl t.inputs) (t.n++⟨#[46]⟩) ⟨#[]⟩ else [])
theorem Pr {doc:List Av} (nb:Bool) (j:Nat) {t:Av} (ht:DfnB t):(Gw doc nb j t).length<=3269:=by
 unfold Gw
 have h1:=Qt doc t j
 have h2:=Qb doc t ht.fl
 have h3:=OZ t ht.ml
 have h4:=EZ doc (Dl t.inputs) (t.n++⟨#[46]⟩) ⟨#[]⟩
 rw [zld]
 repeat' split
 all_goals (try simp only [zle]);omega
def JY (doc:List Av) (nb:Bool):List Da:=Gn (Gw doc nb) doc doc.length++(if nb=true∧(Ay doc ⟨#[81,117,101,114,121]⟩).isSome=false then [.mk 30 ⟨#[81,117,101,114,121]⟩] else [])
theorem QL (doc:List Av) (hd:DocB doc) (nb:Bool) (hp:CH) (m:Nat):AK prog 43 hp m [B9 doc,.b nb] (Uq (fun l:List Da=>l=JY doc nb) fun l Am n' r'=>Am=Cb m [(2,Ab AM l)]++([]++hp)∧n'=m+1∧r'=.rw m 0 l.length):=by
 have GB:=hd.l
 obtain ⟨RR,AC⟩:=A7 (JY doc nb)
 rw [AC]
 unfold JY at AC
 refine Z2 (fun l:List Da=>[(2,Ab AM l)]) (fun l:List Da=>l=RR) (fun _=>[]) (fun l=>.rw m 0 l.length) func43 (tA cc43) (tB cc43) (tC cc43) rfl (fun hf i hi=>trivial) fun hf=>?_
 unfold ck43
 simp only [go_sem]
 refine loop (fun p:R1=>match p with
  | .mk j g L n=>⟨[(1,.b nb),(2,.bx m 0),(5,.rw (m+1) g L.length),(6,.i .i64 j)],(m+1,.rw g 2 (Ab AM L))::(m,.bx [.ds (Ab BB doc)])::hp,n⟩)
  (fun p=>match p with | .mk j g L n=>j<=doc.length∧m+2<=n∧L=Gn (Gw doc nb) doc j) (fun p=>match p with | .mk j g L n=>doc.length - j) (.mk 0 0 [] (m+2)) ?_ ?_ (fun p hj=>?_)
 .exact ⟨Nat.zero_le _,zna _,rfl⟩
 .dsimp only
  refine (By (t:=5) (m:=2) (by (simp (disch:=omega) only [go_sem]))).trans (Lt hf ?_ ?_ ?_ (fun a ha d5=>?_) (zna _))
  .simp (disch:=omega) only [go_sem]
  .simp (disch:=omega) only [go_sem]
   try rfl
  .simp (disch:=omega) only [go_sem]
  .repeat rw [Ak _ _ (by omega)]
 obtain ⟨j,g,L,n⟩:=p
 obtain ⟨Cq,Be,At⟩:=hj
 have hLb:L.length<=3269*j:=by rw [At];exact Ds (fun j x e=>Pr nb j (hd.d x (zla e))) j
 have Ck:(Ab AM L).length=L.length:=As _ _
 have Lq:(Ab AM L).take L.length=Ab AM L:=zlk (by omega)
 have BD:m<=n:=by omega
 dsimp only
 simp (disch:=omega) only [go_sem]
 refine Af (fun q=>?_) (fun q=>?_)
 .have q:j<doc.length:=by simpa using q
  obtain ⟨t,et⟩:∃x,doc[j]?=some x:=⟨doc[j],by simp [q]⟩
  have ht:=hd.d t (zla et)
  obtain ⟨NN,Is,Ed⟩:=BH ht.i
  have D6:=Fi (A:=Gw doc nb) et
  have l1:=Qb doc t ht.fl
  have l2:=OZ t ht.ml
  have l3:=EZ doc (Dl t.inputs) (t.n++⟨#[46]⟩) ⟨#[]⟩
  obtain ⟨iz,hiz⟩:=A7 (Bl t.inputs)
  rw [hiz] at NN Is Ed l3
  have htn:=ht.n
  have z1:t.n.size+(#[46]:Array UInt8).size<=9223372036854775807:=by show t.n.size+1<=9223372036854775807;omega
  simp (disch:=omega) only [q,Ad (Aa BB et),go_sem]
  refine Ac.r (WH doc hd j t et _ _) ?_
  rintro Am n' r ⟨F1,NO,e1,e2,e3⟩
  subst e1
  subst e2
  subst e3
  have Hg:F1=_:=NO
  have NO:F1.length<=5:=by rw [Hg];exact Qt _ _ _
  have k1:(L.length+F1.length)*24<=140737488355328:=by omega
  have k2:L.length+F1.length<=9223372036854775807:=by omega
  have Dz:(Ab AM F1).length=F1.length:=As _ _
  have JK:(Ab AM (L++F1)).length=L.length+F1.length:=by rw [As,zld]
  simp only [zli]
  by_cases c1:t.k=1
  .simp (disch:=omega) only [q,Ad (Aa BB et),Ck,Dz,k1,k2,Ax,dT c1,true_and,go_sem]
   refine Ac.r (LX doc GB t ht _ _) ?_
   rintro Am n' r ⟨F2,Ir,e1,e2,e3⟩
   subst e1
   subst e2
   subst e3
   have E6:F2=_:=Ir
   have Ir:F2.length<=3264:=by rw [E6];exact znc l1 (by decide)
   have hE2:Gw doc nb j t=F1++F2:=by unfold Gw;rw [iP c1,<-Hg,E6]
   simp only [zli]
   have k5:(L.length+(F1.length+F2.length))*24<=140737488355328:=by omega
   have k6:L.length+(F1.length+F2.length)<=9223372036854775807:=by omega
   have IV:(Ab AM F2).length=F2.length:=As _ _
   simp (disch:=omega) only [q,Ad (Aa BB et),Ck,Dz,JK,IV,k1,k2,k5,k6,Ax,Aq,ze,zld,zlc,zle,As,go_sem]
   refine ⟨.mk (j+1) (g+1+1) (L++F1++F2) (n+400),⟨show j+1<=doc.length by omega,show m+2<=n+400 by omega,by show _=_;rw [D6,hE2,At];try simp only [zlf]⟩,by show doc.length - (j+1)<doc.length - j;omega,?_⟩
   dsimp only
   refine Lt hf ?_ ?_ ?_ (fun a ha d5=>?_) (by omega)
   .simp (disch:=omega) only [Ao j (by omega),zld,zlc,zle,go_sem]
    try simp [ze]
   .simp (disch:=omega) only [Ax,Aq,zlf,go_sem]
    try simp [zlf]
   .simp (disch:=omega) only [go_sem]
   .repeat rw [Ak _ _ (by omega)]
  by_cases c2:t.k=2
  .simp (disch:=omega) only [q,Ad (Aa BB et),Ck,Dz,k1,k2,Ax,dF c1,dT c2,true_and,go_sem]
   refine Ac.r (LX doc GB t ht _ _) ?_
   rintro Am n' r ⟨F2,Ir,e1,e2,e3⟩
   subst e1
   subst e2
   subst e3
   have E6:F2=_:=Ir
   have Ir:F2.length<=3264:=by rw [E6];exact znc l1 (by decide)
   have hE2:Gw doc nb j t=F1++F2:=by unfold Gw;rw [iN c1,iP c2,<-Hg,E6]
   simp only [zli]
   have k5:(L.length+(F1.length+F2.length))*24<=140737488355328:=by omega
   have k6:L.length+(F1.length+F2.length)<=9223372036854775807:=by omega
   have IV:(Ab AM F2).length=F2.length:=As _ _
   simp (disch:=omega) only [q,Ad (Aa BB et),Ck,Dz,JK,IV,k1,k2,k5,k6,Ax,Aq,ze,zld,zlc,zle,As,go_sem]
   refine ⟨.mk (j+1) (g+1+1) (L++F1++F2) (n+400),⟨show j+1<=doc.length by omega,show m+2<=n+400 by omega,by show _=_;rw [D6,hE2,At];try simp only [zlf]⟩,by show doc.length - (j+1)<doc.length - j;omega,?_⟩
   dsimp only
   refine Lt hf ?_ ?_ ?_ (fun a ha d5=>?_) (by omega)
   .simp (disch:=omega) only [Ao j (by omega),zld,zlc,zle,go_sem]
    try simp [ze]
   .simp (disch:=omega) only [Ax,Aq,zlf,go_sem]
    try simp [zlf]
   .simp (disch:=omega) only [go_sem]
   .repeat rw [Ak _ _ (by omega)]
  by_cases c4:t.k=4
  .simp (disch:=omega) only [q,Ad (Aa BB et),Ck,Dz,k1,k2,Ax,dF c1,dF c2,dT c4,true_and,go_sem]
   refine Ac.r (Rw t ht.n ht.ml ht.m _ _) ?_
   rintro Am n' r ⟨F2,Ir,e1,e2,e3⟩
   subst e1
   subst e2
   subst e3
   have E6:F2=_:=Ir
   have Ir:F2.length<=3264:=by rw [E6];exact znc l2 (by decide)
   have hE2:Gw doc nb j t=F1++F2:=by unfold Gw;rw [iN c1,iN c2,iP c4,<-Hg,E6]
   simp only [zli]
   have k5:(L.length+(F1.length+F2.length))*24<=140737488355328:=by omega
   have k6:L.length+(F1.length+F2.length)<=9223372036854775807:=by omega
   have IV:(Ab AM F2).length=F2.length:=As _ _
   simp (disch:=omega) only [q,Ad (Aa BB et),Ck,Dz,JK,IV,k1,k2,k5,k6,Ax,Aq,ze,zld,zlc,zle,As,go_sem]
   refine ⟨.mk (j+1) (g+1+1) (L++F1++F2) (n+400),⟨show j+1<=doc.length by omega,show m+2<=n+400 by omega,by show _=_;rw [D6,hE2,At];try simp only [zlf]⟩,by show doc.length - (j+1)<doc.length - j;omega,?_⟩
   dsimp only
   refine Lt hf ?_ ?_ ?_ (fun a ha d5=>?_) (by omega)
   .simp (disch:=omega) only [Ao j (by omega),zld,zlc,zle,go_sem]
    try simp [ze]
   .simp (disch:=omega) only [Ax,Aq,zlf,go_sem]
    try simp [zlf]
   .simp (disch:=omega) only [go_sem]
   .repeat rw [Ak _ _ (by omega)]
  by_cases c5:t.k=5
  .simp (disch:=omega) only [q,Ad (Aa BB et),Ck,Dz,k1,k2,Ax,dF c1,dF c2,dF c4,dT c5,true_and,NN,z1,go_sem]
   refine Ac.r (GL doc GB iz Is (fun x hx=>(Ed x hx).2) _ _ ?_ ?_ _ _) ?_
   .simp only [ByteArray.size_append,e46];omega
   .decide
   rintro Am n' r ⟨F2,Ir,e1,e2,e3⟩
   subst e1
   subst e2
   subst e3
   have E6:F2=_:=Ir
   have Ir:F2.length<=3264:=by rw [E6];exact znc l3 (by decide)
   have hE2:Gw doc nb j t=F1++F2:=by unfold Gw;rw [iN c1,iN c2,iN c4,iP c5,hiz,<-Hg,E6]
   simp only [zli]
   have k5:(L.length+(F1.length+F2.length))*24<=140737488355328:=by omega
   have k6:L.length+(F1.length+F2.length)<=9223372036854775807:=by omega
   have IV:(Ab AM F2).length=F2.length:=As _ _
   simp (disch:=omega) only [q,Ad (Aa BB et),Ck,Dz,JK,IV,k1,k2,k5,k6,Ax,Aq,ze,zld,zlc,zle,As,go_sem]
   refine ⟨.mk (j+1) (g+1+1) (L++F1++F2) (n+400),⟨show j+1<=doc.length by omega,show m+2<=n+400 by omega,by show _=_;rw [D6,hE2,At];try simp only [zlf]⟩,by show doc.length - (j+1)<doc.length - j;omega,?_⟩
   dsimp only
   refine Lt hf ?_ ?_ ?_ (fun a ha d5=>?_) (by omega)
   .simp (disch:=omega) only [Ao j (by omega),zld,zlc,zle,go_sem]
    try simp [ze]
   .simp (disch:=omega) only [Ax,Aq,zlf,go_sem]
    try simp [zlf]
   .simp (disch:=omega) only [go_sem]
   .repeat rw [Ak _ _ (by omega)]
  .simp (disch:=omega) only [q,Ad (Aa BB et),Ck,Dz,k1,k2,Ax,dF c1,dF c2,dF c4,dF c5,true_and,go_sem]
   have hE2:Gw doc nb j t=F1:=by unfold Gw;rw [iN c1,iN c2,iN c4,iN c5,<-Hg,List.append_nil]
   refine ⟨.mk (j+1) (g+1) (L++F1) (n+400),⟨show j+1<=doc.length by omega,show m+2<=n+400 by omega,by show _=_;rw [D6,hE2,At];try simp only [zlf]⟩,by show doc.length - (j+1)<doc.length - j;omega,?_⟩
   dsimp only
   refine Lt hf ?_ ?_ ?_ (fun a ha d5=>?_) (by omega)
   .simp (disch:=omega) only [Ao j (by omega),zld,zlc,zle,go_sem]
    try simp [ze]
   .simp (disch:=omega) only [Ax,Aq,zlf,go_sem]
    try simp [zlf]
   .simp (disch:=omega) only [go_sem]
   .repeat rw [Ak _ _ (by omega)]
 have q:j=doc.length:=by simp at q;omega
 subst q
 rw [<-At] at AC
 have hF:=BW doc (by omega) ⟨#[81,117,101,114,121]⟩
 unfold Eh at hF
 obtain ⟨X,hX⟩:=A7 (Ay doc ⟨#[81,117,101,114,121]⟩)
 rw [hX] at hF AC
 obtain ⟨xb,hxb⟩:=A7 (X.isSome)
 rw [hxb] at hF AC
 have k1:(L.length+1)*24<=140737488355328:=by omega
 have k2:L.length<=9223372036854775806:=by omega
 simp (disch:=omega) only [go_sem]
 refine Ac.f (hF _ _) ?_
 cases nb<;>cases xb
 case' true.false=>
  simp (disch:=omega) only [Ck,k1,k2,Aq,true_and,go_sem]
  refine Co (L++[.mk 30 ⟨#[81,117,101,114,121]⟩]) (by rw [<-AC,iP ⟨rfl,rfl⟩]) ?_
  simp (disch:=omega) only [BD,Ck,zna,zld,zlc,zle,go_sem]
 all_goals
  try (simp (disch:=omega) only [go_sem])
  refine Co L (by rw [<-AC,iN (by decide),List.append_nil]) ?_
  simp (disch:=omega) only [BD,Ck,zna,go_sem]
set_option maxHeartbeats 1000000
theorem VW {doc:List Av} (hd:DocB doc) (nb:Bool):(JY doc nb).length<=1000000:=by
 have h1:=Ds (A:=Gw doc nb) (l:=doc) (fun j x e=>Pr nb j (hd.d x (zla e))) doc.length
 have h2:=hd.l
 unfold JY
 rw [zld]
 split
 .simp only [zlc,zle];omega
 .simp only [zle];omega
def Pt (doc:List Av):List Da:=if 0<((JY doc true).length:Int) then JY doc true else JY doc true++doc.flatMap (Hy doc)++doc.flatMap (Kn doc)
theorem UU (doc:List Av) (hd:DocB doc) (hk:DocOk doc) (hp:CH) (m:Nat):Ae prog 23 hp m [B9 doc] (.ds (Ab AM (Pt doc))):=by
 obtain ⟨RR,AC⟩:=A7 (Pt doc)
 rw [AC]
 unfold Pt at AC
 have lC:=VW hd true
 have GB:=hd.l
 have hA:=Xf doc hk hd
 have hB:=JM doc hd
 have lA:=Lb hd doc hd.d
 have lB:=Kv (doc:=doc) doc hd.d
 obtain ⟨FA,hFA⟩:=A7 (doc.flatMap (Hy doc))
 obtain ⟨FB,hFB⟩:=A7 (doc.flatMap (Kn doc))
 rw [hFA] at hA lA AC
 rw [hFB] at hB lB AC
 have JK:(Ab AM FA).length=FA.length:=As _ _
 have hBl:(Ab AM FB).length=FB.length:=As _ _
 refine Al func23 (tA cc23) (tB cc23) (tC cc23) rfl fun hf=>?_;unfold ck23
 simp (disch:=omega) only [go_sem]
 refine Ac.r (QL doc hd true _ _) ?_
 rintro Am n' r ⟨F1,NO,e1,e2,e3⟩
 subst e1
 subst e2
 subst e3
 have NO:F1=JY doc true:=NO
 rw [<-NO] at lC AC
 have hF1l:(Ab AM F1).length=F1.length:=As _ _
 simp only [zli]
 have Lq:(Ab AM F1).take F1.length=Ab AM F1:=zlk (by omega)
 simp (disch:=omega) only [go_sem]
 refine Af (fun c=>?_) (fun c=>?_)
 .rw [iP (by simpa using c)] at AC
  subst AC
  simp (disch:=omega) only [zna,Lq,hF1l,go_sem]
 .rw [iN (by simpa using c)] at AC
  have k1:(F1.length+FA.length)*24<=140737488355328:=by omega
  have k2:F1.length+FA.length<=9223372036854775807:=by omega
  have k3:(F1.length+FA.length+FB.length)*24<=140737488355328:=by omega
  have k4:F1.length+FA.length+FB.length<=9223372036854775807:=by omega
  have k3':(F1.length+(FA.length+FB.length))*24<=140737488355328:=by omega
  have k4':F1.length+(FA.length+FB.length)<=9223372036854775807:=by omega
  simp (disch:=omega) only [go_sem]
  refine Ac.f (hA _ _) ?_
  simp (disch:=omega) only [hF1l,JK,k1,k2,Ax,true_and,go_sem]
  refine Ac.f (hB _ _) ?_
  have Gh:(Ab AM (F1++FA)).length=F1.length+FA.length:=by rw [As,zld]
  have hl3:(Ab AM (F1++FA++FB)).length=F1.length+FA.length+FB.length:=by rw [As,zld,zld]
  have ht3:(F1++FA++FB).take (F1.length+(FA.length+FB.length))=F1++FA++FB:=zlk (by simp only [zld];omega)
  subst AC
  simp (disch:=omega) only [hF1l,JK,hBl,Gh,k3,k4,k3',k4',Ax,true_and,zna,hl3,ht3,go_sem]
theorem Kl (l:List Pk) (hw:A5 l<=1000000000000) (h:∀p∈l,∀hp m,Ae prog 47 hp m [.ds (Ab Bi p.picks)] (.i .i64 (A5 p.picks))) (hp:CH) (m:Nat):Ae prog 47 hp m [.ds (Ab Bi l)] (.i .i64 (A5 l)):=by
 have hl:=Ew l
 obtain ⟨R,hR⟩:=A7 (A5 l)
 rw [hR]
 refine Al func47 (tA cc47) (tB cc47) (tC cc47) rfl fun hf=>?_;unfold ck47
 simp only [go_sem]
 refine loop (fun p:Nat×Nat×Nat=>⟨[(0,.ds (Ab Bi l)),(3,.i .i64 p.2.1),(4,.i .i64 p.1)],hp,p.2.2⟩) (fun p=>p.1<=l.length∧R+(l.length - p.1)=p.2.1+A5 (l.drop p.1)) (fun p=>l.length - p.1) (0,l.length,m) ?_ ?_ (fun ⟨j,c,n⟩ hj=>?_)
 .exact ⟨by simp,by simp;omega⟩
 .refine Dd ?_
  simp only [go_sem]
 dsimp only at hj
 obtain ⟨Cq,Be⟩:=hj
 simp only [go_sem]
 refine Af (fun d=>?_) (fun d=>?_)
 .have d:j<l.length:=by simpa using d
  obtain ⟨x,ex⟩:∃x,l[j]?=some x:=⟨l[j],by simp [d]⟩
  rw [A2 ex,A5,Ci] at Be
  simp only [d,Ad (Aa Bi ex),go_sem]
  refine Ac.f (h x (zla ex) _ _) ?_
  have k1:IntKind.i64.wrap ((c:Int)+(A5 x.picks:Nat))=((c+A5 x.picks:Nat):Int):=by
   rw [<-Int.natCast_add];exact TA (by omega)
  simp only [k1,go_sem]
  refine ⟨(j+1,c+A5 x.picks,n),⟨by dsimp only;omega,by dsimp only;omega⟩,by dsimp only;omega,Dd ?_⟩
  simp only [Ao j (by omega),go_sem]
 .have d:j=l.length:=by simp at d;omega
  subst d
  rw [zll,A5] at Be
  have Be:R=c:=by omega
  subst Be
  simp only [go_sem]
theorem QM (l:List Pk) (hw:A5 l<=1000000000000) (hp:CH) (m:Nat):Ae prog 47 hp m [.ds (Ab Bi l)] (.i .i64 (A5 l)):=by
 have key:∀p:Pk,IL p<=1000000000000->∀hp m,Ae prog 47 hp m [.ds (Ab Bi p.picks)] (.i .i64 (A5 p.picks)):=fun p=>Pk.ind (Q:=fun p=>IL p<=1000000000000->∀hp m,Ae prog 47 hp m [.ds (Ab Bi p.picks)] (.i .i64 (A5 p.picks))) (fun v ih hv=>by
  rw [Ci] at hv
  exact Kl v.picks (by omega) fun p hp=>ih p hp (by have:=DP hp;omega)) p
 exact Kl l hw (fun p hp=>key p (by have:=DP hp;omega)) hp m
def Lj (doc:List Av):List BG->List GS->Bool
 | [],l=>decide (l=[])
 |d::ds,l=>match l with
  | []=>!(d.has||Ga d.tw)&&Lj doc ds []
  |a::r=>if a.n=d.n then decide ((UO doc false d.tn d.tw a.v).2=0)&&(D9 false a.v&&(decide (FD (UO doc false d.tn d.tw a.v).1 a.v=0)&&Lj doc ds r)) else !(d.has||Ga d.tw)&&Lj doc ds (a::r)
def PD (l:List GS):Prop:=∀a∈l,a.v.Fit∧a.v.Rng
theorem TR (doc:List Av) (hd:DocB doc) (is:List BG) (NN:is.length<=16) (Is:∀x∈is,Hi x∧x.n.size<=64) (l:List GS) (hl:l.length<=1000000000) (hr:PD l) (hp:CH) (m:Nat):Ae prog 141 hp m [B9 doc,.ds (Ab AD is),.ds (Ab B7 l)] (.b (Lj doc is l)):=by
 obtain ⟨R,hR⟩:=A7 (Lj doc is l)
 rw [hR]
 refine Al func141 (tA cc141) (tB cc141) (tC cc141) rfl fun hf=>?_;unfold ck141
 simp (disch:=omega) only [go_sem]
 refine loop (fun p:Nat×Nat×Nat=>⟨[(1,.ds (Ab AD is)),(2,.ds (Ab B7 l)),(3,.bx m 0),(7,.i .i64 p.2.1),(8,.i .i64 p.1)],(m,.bx [.ds (Ab BB doc)])::hp,p.2.2⟩)
  (fun p=>p.1<=is.length∧p.2.1<=l.length∧m+1<=p.2.2∧R=Lj doc (is.drop p.1) (l.drop p.2.1)) (fun p=>is.length - p.1) (0,0,m+1) ?_ ?_ (fun ⟨j,k,n⟩ hj=>?_)
 .exact ⟨by simp,by simp,by simp,hR.symm⟩
 .refine Fo hf ?_ ?_ ?_ (zna _)
  all_goals (simp (disch:=omega) only [go_sem])
 dsimp only at hj
 obtain ⟨Cq,Be,At,Cl⟩:=hj
 simp (disch:=omega) only [go_sem]
 refine Af (fun d=>?_) (fun d=>?_)
 case' refine_2=>
  have d:j=is.length:=by simp at d;omega
  subst d
  rw [zll,Lj] at Cl
  have e:decide ((k:Int)=(l.length:Int))=decide (l.drop k=[]):=by
   rw [decide_eq_decide,List.drop_eq_nil_iff]
   omega
  simp only [e,<-Cl,go_sem]
 have d:j<is.length:=by simpa using d
 obtain ⟨x,ex⟩:∃x,is[j]?=some x:=⟨is[j],by simp [d]⟩
 rw [A2 ex] at Cl
 obtain ⟨⟨x1,⟨x2,x3⟩,x4⟩,x5⟩:=Is x (zla ex)
 have hN:=DT x.tn x.tw (by omega)
 by_cases q:k<l.length
 .obtain ⟨a,ea⟩:∃a,l[k]?=some a:=⟨l[k],by simp [q]⟩
  obtain ⟨a1,a2⟩:=hr a (zla ea)
  rw [A2 ea,Lj] at Cl
  have dq:decide ((k:Int)<(l.length:Int))=true:=by simp;exact q
  by_cases c:a.n=x.n
  .rw [iP c] at Cl
   have hI:=Ra doc hd x.tn x.tw a.v x1 a1 a2
   have hF:=Aaf doc hd false x.tn x.tw a.v x1 a1 a2
   obtain ⟨W,hW⟩:=A7 (UO doc false x.tn x.tw a.v)
   rw [hW] at hI hF Cl
   have hRt:=UL a.v a1
   have hSm:=So W.1 a.v hF a1
   have eg:(Ab B7 l)[k]?=some (B7 a):=Aa B7 ea
   have ei:(Ab AD is)[j]?=some (AD x):=Aa AD ex
   simp (disch:=omega) only [d,q,dq,Ad (Aa AD ex),Ad (Aa B7 ea),dT c,eg,ei,zlc,zle,za,zf,z8,zlr,z7,zr,zb,zn,zc,zk,zo,and_self,Bt,true_and,AD,B7,go_sem]
   refine Au.f (fun _ _ _=>hI _ _) ?_
   have u1:¬n+32=m:=by omega
   have BD:m<=n:=by omega
   by_cases w:W.2=0
   .rw [dT w,zt] at Cl
    simp (disch:=omega) only [d,q,dq,Ad (Aa AD ex),Ad (Aa B7 ea),dT c,eg,ei,dT w,zu,zlc,zle,za,zf,z8,zlr,z7,zr,zb,zn,zc,zk,zo,and_self,Bt,true_and,AD,B7,go_sem]
    refine ⟨u1,AJ.f (fun _ _ _=>hRt _ _) ?_⟩
    cases Vr:D9 false a.v
    .rw [Vr,zy] at Cl
     subst Cl
     simp (disch:=omega) only [d,q,dq,Ad (Aa AD ex),Ad (Aa B7 ea),dT c,eg,ei,dT w,zu,zp,zlc,zle,za,zf,z8,zlr,z7,zr,zb,zn,zc,zk,zo,and_self,Bt,true_and,AD,B7,go_sem]
     refine AJ.no ?_
     simp (disch:=omega) only [BD,zu,zp,go_sem]
    .rw [Vr,zt] at Cl
     simp (disch:=omega) only [d,q,dq,Ad (Aa AD ex),Ad (Aa B7 ea),dT c,eg,ei,dT w,zu,zp,zlc,zle,za,zf,z8,zlr,z7,zr,zb,zn,zc,zk,zo,and_self,Bt,true_and,AD,B7,go_sem]
     refine AJ.f (fun _ _ _=>hSm _ _) ?_
     cases Vh:decide (FD W.1 a.v=0)
     .rw [Vh,zy] at Cl
      subst Cl
      simp (disch:=omega) only [BD,zu,zp,go_sem]
     .rw [Vh,zt] at Cl
      simp (disch:=omega) only [BD,zu,zp,go_sem]
      refine ⟨(j+1,(k+1),n+100),⟨show j+1<=is.length by omega,by dsimp only;omega,show m+1<=n+100 by omega,Cl⟩,by show is.length - (j+1)<is.length - j;omega,Fo hf ?_ ?_ ?_ (by dsimp only;omega)⟩
      .simp (disch:=omega) only [Ao j (by omega),Ao k (by omega),go_sem]
      .simp (disch:=omega) only [go_sem]
      .simp (disch:=omega) only [go_sem]
   .rw [dF w,zy] at Cl
    subst Cl
    simp (disch:=omega) only [d,q,dq,Ad (Aa AD ex),Ad (Aa B7 ea),dT c,eg,ei,dF w,zu,zp,zlc,zle,za,zf,z8,zlr,z7,zr,zb,zn,zc,zk,zo,and_self,Bt,true_and,AD,B7,go_sem]
    refine ⟨u1,AJ.no ?_⟩
    simp (disch:=omega) only [d,q,dq,Ad (Aa AD ex),Ad (Aa B7 ea),dT c,eg,ei,dF w,zu,zp,zlc,zle,za,zf,z8,zlr,z7,zr,zb,zn,zc,zk,zo,and_self,Bt,true_and,AD,B7,go_sem]
    refine AJ.no ?_
    simp (disch:=omega) only [BD,zu,zp,go_sem]
  .rw [iN c] at Cl
   have eg:(Ab B7 l)[k]?=some (B7 a):=Aa B7 ea
   have ei:(Ab AD is)[j]?=some (AD x):=Aa AD ex
   simp (disch:=omega) only [d,q,dq,Ad (Aa AD ex),Ad (Aa B7 ea),dF c,eg,ei,zlc,zle,za,zf,z8,zlr,z7,zr,zb,zn,zc,zk,zo,and_self,Bt,true_and,AD,B7,go_sem]
   by_cases hb:x.has=true
   .simp only [hb,Bool.true_or,zu,zy] at Cl
    subst Cl
    try simp only [hb]
    simp (disch:=omega) only [d,eg,Ad (Aa AD ex),ei,zu,zlc,zle,za,zf,z8,zlr,z7,zr,zb,zn,zc,zk,zo,and_self,Bt,true_and,AD,B7,go_sem]
    refine BU ?_
    have BD:m<=n:=by omega
    simp (disch:=omega) only [d,eg,Ad (Aa AD ex),ei,zu,BD,zlc,zle,za,zf,z8,zlr,z7,zr,zb,zn,zc,zk,zo,and_self,Bt,true_and,AD,B7,go_sem]
   .have hb:x.has=false:=by simpa using hb
    simp only [hb,Bool.false_or] at Cl
    simp only [hb]
    obtain ⟨nn,T2⟩:=A7 (Ga x.tw)
    rw [T2] at hN Cl
    simp (disch:=omega) only [d,eg,Ad (Aa AD ex),ei,zp,zlc,zle,za,zf,z8,zlr,z7,zr,zb,zn,zc,zk,zo,and_self,Bt,true_and,AD,B7,go_sem]
    refine JC (Ac.f (hN _ _) ?_)
    cases nn
    .simp only [zp,zt] at Cl
     simp (disch:=omega) only [d,eg,Ad (Aa AD ex),ei,zp,zlc,zle,za,zf,z8,zlr,z7,zr,zb,zn,zc,zk,zo,and_self,Bt,true_and,AD,B7,go_sem]
     refine ⟨(j+1,k,n+100),⟨show j+1<=is.length by omega,by dsimp only;omega,show m+1<=n+100 by omega,by rw [A2 ea];exact Cl⟩,by show is.length - (j+1)<is.length - j;omega,Fo hf ?_ ?_ ?_ (by dsimp only;omega)⟩
     .simp (disch:=omega) only [Ao j (by omega),Ao k (by omega),go_sem]
     .simp (disch:=omega) only [go_sem]
     .simp (disch:=omega) only [go_sem]
    .simp only [zu,zy] at Cl
     subst Cl
     simp (disch:=omega) only [d,eg,Ad (Aa AD ex),ei,zp,zlc,zle,za,zf,z8,zlr,z7,zr,zb,zn,zc,zk,zo,and_self,Bt,true_and,AD,B7,go_sem]
     try (have BD:m<=n:=by omega;(simp (disch:=omega) only [BD,go_sem]))
 .have dq:decide ((k:Int)<(l.length:Int))=false:=by simp;omega
  have hk:k=l.length:=by omega
  subst hk
  rw [zll,Lj] at Cl
  have eg:(Ab B7 l)[l.length]?=none:=List.getElem?_eq_none (by rw [As];exact zna _)
  have ei:(Ab AD is)[j]?=some (AD x):=Aa AD ex
  simp (disch:=omega) only [d,q,dq,Ad (Aa AD ex),eg,ei,zlc,zle,za,zf,z8,zlr,z7,zr,zb,zn,zc,zk,zo,and_self,Bt,true_and,AD,B7,go_sem]
  obtain ⟨k,hk⟩:=A7 (l.length)
  have hdr:l.drop k=[]:=by rw [<-hk];exact zll
  rw [hk] at q dq eg Be
  simp only [hk]
  by_cases hb:x.has=true
  .simp only [hb,Bool.true_or,zu,zy] at Cl
   subst Cl
   try simp only [hb]
   simp (disch:=omega) only [d,eg,Ad (Aa AD ex),ei,zu,zlc,zle,za,zf,z8,zlr,z7,zr,zb,zn,zc,zk,zo,and_self,Bt,true_and,AD,B7,go_sem]
   refine BU ?_
   have BD:m<=n:=by omega
   simp (disch:=omega) only [d,eg,Ad (Aa AD ex),ei,zu,BD,zlc,zle,za,zf,z8,zlr,z7,zr,zb,zn,zc,zk,zo,and_self,Bt,true_and,AD,B7,go_sem]
  .have hb:x.has=false:=by simpa using hb
   simp only [hb,Bool.false_or] at Cl
   simp only [hb]
   obtain ⟨nn,T2⟩:=A7 (Ga x.tw)
   rw [T2] at hN Cl
   simp (disch:=omega) only [d,eg,Ad (Aa AD ex),ei,zp,zlc,zle,za,zf,z8,zlr,z7,zr,zb,zn,zc,zk,zo,and_self,Bt,true_and,AD,B7,go_sem]
   refine JC (Ac.f (hN _ _) ?_)
   cases nn
   .simp only [zp,zt] at Cl
    simp (disch:=omega) only [d,eg,Ad (Aa AD ex),ei,zp,zlc,zle,za,zf,z8,zlr,z7,zr,zb,zn,zc,zk,zo,and_self,Bt,true_and,AD,B7,go_sem]
    refine ⟨(j+1,k,n+100),⟨show j+1<=is.length by omega,by dsimp only;omega,show m+1<=n+100 by omega,by rw [hdr];exact Cl⟩,by show is.length - (j+1)<is.length - j;omega,Fo hf ?_ ?_ ?_ (by dsimp only;omega)⟩
    .simp (disch:=omega) only [Ao j (by omega),Ao k (by omega),go_sem]
    .simp (disch:=omega) only [go_sem]
    .simp (disch:=omega) only [go_sem]
   .simp only [zu,zy] at Cl
    subst Cl
    simp (disch:=omega) only [d,eg,Ad (Aa AD ex),ei,zp,zlc,zle,za,zf,z8,zlr,z7,zr,zb,zn,zc,zk,zo,and_self,Bt,true_and,AD,B7,go_sem]
    try (have BD:m<=n:=by omega;(simp (disch:=omega) only [BD,go_sem]))
