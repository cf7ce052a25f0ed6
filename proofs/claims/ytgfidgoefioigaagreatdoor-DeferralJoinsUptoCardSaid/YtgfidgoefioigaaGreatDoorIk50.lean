/- Proof. Conditions: none. -/
import Derived.Test.YtgfidgoefioigaaGreatDoorIk49
noncomputable section
open List renaming mem_of_mem_take->z34
open Nat renaming add_assoc->ze
open Go.Proofs.Tryz
open List renaming mem_of_getElem?->zla,length_cons->zlc,length_append->zld,length_nil->zle,append_assoc->zlf
open Nat renaming le_refl->zna
namespace Go.Proofs.YtgfidgoefioigaaGreatDoor
open Go.Eng
set_option linter.all false
set_option maxRecDepth 20000
set_option maxHeartbeats 2000000
section
variable {doc:List Av} {t:Av}
theorem OC (ms:List (List AV)) (hm:∀e∈ms,∃x y,e=[AV.s x,.ds y]) (hl:ms.length<=1000000000000) (s:qB) (hp:CH) (m:Nat):Ae prog 134 hp m [.ag [.i .i64 0,.s ⟨#[]⟩,.e0,.e0,.e0,.ds ms,.e0],.s s] (.b (decide (s∈Gc ms))):=by
 obtain ⟨R,hR⟩:=A7 (decide (s∈Gc ms))
 rw [hR]
 have LO:∀e∈ms,e.length=2:=fun e he=>by obtain ⟨x,y,rfl⟩:=hm e he;rfl
 have LO:=eq_true LO
 refine Al func134 (tA cc134) (tB cc134) (tC cc134) rfl fun hf=>?_;unfold ck134
 simp only [go_sem]
 refine loop (fun p:Nat×Nat=>⟨[(1,.s s),(2,.bx m 0),(5,.i .i64 p.1)],(m,.bx [.i .i64 0,.s ⟨#[]⟩,.e0,.e0,.e0,.ds ms,.e0])::hp,p.2⟩) (fun p=>p.1<=ms.length∧m+1<=p.2∧R=decide (s∈Gc (ms.drop p.1))) (fun p=>ms.length - p.1) (0,m+1) ?_ ?_ (fun ⟨j,n⟩ hj=>?_)
 .exact ⟨by simp,by simp,hR.symm⟩
 .refine Fo hf ?_ ?_ ?_ (zna _)
  all_goals (simp (disch:=omega) only [go_sem])
 dsimp only at hj
 obtain ⟨Cq,Be,At⟩:=hj
 simp (disch:=omega) only [go_sem]
 refine Af (fun q=>?_) (fun q=>?_)
 .have q:j<ms.length:=by simpa using q
  obtain ⟨e,ee⟩:∃e,ms[j]?=some e:=⟨ms[j],by simp [q]⟩
  obtain ⟨x,y,rfl⟩:=hm e (zla ee)
  rw [A2 ee] at At
  have At:R=decide (s∈x::Gc (ms.drop (j+1))):=At
  simp (disch:=omega) only [q,LO,Ad ee,go_sem]
  refine Af (fun c=>?_) (fun c=>?_)
  .have c:x=s:=by simpa using c
   have:R=true:=by rw [At];simp [c]
   subst this
   simp (disch:=omega) only [go_sem]
  .have c:¬x=s:=by simpa using c
   have c':¬s=x:=fun e=>c e.symm
   simp (disch:=omega) only [go_sem]
   refine ⟨(j+1,_),⟨by dsimp only;omega,by dsimp only;omega,by rw [At];simp [c']⟩,by dsimp only;omega,Fo hf ?_ ?_ ?_ (zna _)⟩
   all_goals
    simp (disch:=omega) only [Ao j (by omega),go_sem]
 .have q:j=ms.length:=by simp at q;omega
  subst q
  rw [List.drop_length] at At
  have:R=false:=by rw [At];simp [Gc]
  subst this
  simp (disch:=omega) only [go_sem]
def Uy (doc:List Av) (t:Av) (nm:qB) (j:Nat):List Da :=
 if P7 doc nm 1=0 then (if nm∈Gc (t.members.take j) then [.mk 7 (t.n++⟨#[46]⟩++nm)] else []) else [.mk (P7 doc nm 1) (t.n++⟨#[46]⟩++nm)]
def L9 (doc:List Av) (t:Av) (n:Nat):List Da:=(List.range n).flatMap fun j=>match (t.members[j]?:Option (List AV)) with | some [AV.s nm,AV.ds _]=>Uy doc t nm j | _=>[]
theorem Ux {j:Nat} {nm:qB} {y:List (List AV)} (e:t.members[j]?=some [.s nm,.ds y]):L9 doc t (j+1)=L9 doc t j++Uy doc t nm j:=by
 unfold L9
 rw [List.range_succ,List.flatMap_append]
 simp [e]
theorem X1 (doc:List Av) (t:Av) (nm:qB) (j:Nat):(Uy doc t nm j).length<=1:=by
 unfold Uy
 split
 .split<;>simp
 .simp
theorem Of (doc:List Av) (t:Av) (n:Nat):(L9 doc t n).length<=n*1:=by
 have:=El (A:=fun j=>match (t.members[j]?:Option (List AV)) with | some [AV.s nm,AV.ds _]=>Uy doc t nm j | _=>[]) (B:=1) (fun j=>by
  split
  .exact X1 ..
  .simp) (List.range n)
 rw [List.length_range] at this
 exact this
theorem Rh (doc:List Av) (hd:DocOk doc) (t:Av) (ht:DfnB t) (hp:CH) (m:Nat):Ae prog 88 hp m [B9 doc,Lw t] (.ds (Ab AM (L9 doc t t.members.length))):=by
 have LO:=ht.ml
 have hm:=ht.m
 have htn:=ht.n
 obtain ⟨RR,AC⟩:=A7 (L9 doc t t.members.length)
 rw [AC]
 have T3:∀e∈t.members,e.length=2:=fun e he=>by obtain ⟨x,y,rfl,_⟩:=hm e he;rfl
 have T3:=eq_true T3
 refine Al func88 (tA cc88) (tB cc88) (tC cc88) rfl fun hf=>?_;unfold ck88
 simp (disch:=omega) only [go_sem]
 refine loop (fun p:R1=>match p with
  | .mk j g L n=>⟨[(2,.bx m 0),(3,.bx (m+1) 0),(5,.rw (m+2) g L.length),(6,.i .i64 j)],(m+2,.rw g 2 (Ab AM L))::(m,.bx [.ds (Ab BB doc)])::(m+1,.bx [.i .i64 t.k,.s t.n,.ds t.impl,.ds t.dirs,.ds (Ab Bu t.fields),.ds t.members,.ds t.inputs])::hp,n⟩)
  (fun p=>match p with | .mk j g L n=>j<=t.members.length∧m+3<=n∧L=L9 doc t j) (fun p=>match p with | .mk j g L n=>t.members.length - j) (.mk 0 0 [] (m+3)) ?_ ?_ (fun p hj=>?_)
 .exact ⟨Nat.zero_le _,zna _,rfl⟩
 .dsimp only
  refine (By (t:=5) (m:=2) (by (simp (disch:=omega) only [go_sem]))).trans (EU hf ?_ ?_ ?_ ?_ (fun a ha d5=>?_) (zna _))
  .simp (disch:=omega) only [go_sem]
  .simp (disch:=omega) only [go_sem]
   try rfl
  .simp (disch:=omega) only [go_sem]
  .simp (disch:=omega) only [go_sem]
  .repeat rw [Ak _ _ (by omega)]
 obtain ⟨j,g,L,n⟩:=p
 obtain ⟨Cq,Be,At⟩:=hj
 have Ck:(Ab AM L).length=L.length:=As _ _
 have Ve:L.length<=64:=by rw [At];have:=Of doc t j;omega
 have BD:m<=n:=by omega
 dsimp only
 simp (disch:=omega) only [go_sem]
 refine Af (fun q=>?_) (fun q=>?_)
 case' refine_2=>
  have q:j=t.members.length:=by simp at q;omega
  subst q
  rw [AC] at At
  subst At
  simp (disch:=omega) only [BD,Ck,zna,go_sem]
 have q:j<t.members.length:=by simpa using q
 obtain ⟨e,ee⟩:∃x,t.members[j]?=some x:=⟨t.members[j],by simp [q]⟩
 obtain ⟨nm,y,rfl,FZ⟩:=hm e (zla ee)
 have hK:=Mr doc hd.len nm 1
 have hH:=OC (t.members.take j) (fun e he=>let ⟨x,y,h,_⟩:=hm e (z34 he);⟨x,y,h⟩) (by rw [List.length_take];omega) nm
 have D6:=Ux (doc:=doc) ee
 unfold Uy at D6
 obtain ⟨e0,he0⟩:=A7 (P7 doc nm 1)
 rw [he0] at hK D6
 have z1:t.n.size+(#[46]:Array UInt8).size<=9223372036854775807:=by show t.n.size+1<=9223372036854775807;omega
 have z2:t.n.size+((#[46]:Array UInt8).size+nm.size)<=9223372036854775807:=by show t.n.size+(1+nm.size)<=9223372036854775807;omega
 have z3:0<=(j:Int)∧(j:Int)<=(t.members.length:Int):=by omega
 have k1:(L.length+1)*24<=140737488355328:=by omega
 have k2:L.length<=9223372036854775806:=by omega
 simp (disch:=omega) only [q,T3,Ad ee,go_sem]
 refine Ac.f (hK _ _) ?_
 by_cases c0:e0=0
 .subst c0
  rw [iP rfl] at D6
  simp (disch:=omega) only [q,T3,Ad ee,z3.1,z3.2,decide_true,true_and,go_sem]
  refine AH.f (fun _=>hH _ _) ?_
  by_cases c1:nm∈Gc (t.members.take j)
  .rw [iP c1] at D6
   simp (disch:=omega) only [q,T3,Ad ee,dT c1,Ck,k1,k2,z1,z2,Aq,true_and,go_sem]
   refine ⟨.mk (j+1) (g+1) (L++[.mk 7 (t.n++⟨#[46]⟩++nm)]) (n+200),⟨show j+1<=t.members.length by omega,show m+3<=n+200 by omega,?_⟩,by show t.members.length - (j+1)<t.members.length - j;omega,?_⟩
   .show _=_
    rw [D6,<-At]
    try simp
   dsimp only
   refine EU hf ?_ ?_ ?_ ?_ (fun a ha d5=>?_) (by omega)
   .simp (disch:=omega) only [Ao j (by omega),zld,zlc,zle,go_sem]
    try simp [ze]
   .simp (disch:=omega) only [Ax,Aq,zlf,go_sem]
    try simp [zlf]
   .simp (disch:=omega) only [go_sem]
   .simp (disch:=omega) only [go_sem]
   .repeat rw [Ak _ _ (by omega)]
  .rw [iN c1] at D6
   simp (disch:=omega) only [q,T3,Ad ee,dF c1,Ck,true_and,go_sem]
   refine ⟨.mk (j+1) (g) (L) (n+200),⟨show j+1<=t.members.length by omega,show m+3<=n+200 by omega,?_⟩,by show t.members.length - (j+1)<t.members.length - j;omega,?_⟩
   .show _=_
    rw [D6,<-At]
    try simp
   dsimp only
   refine EU hf ?_ ?_ ?_ ?_ (fun a ha d5=>?_) (by omega)
   .simp (disch:=omega) only [Ao j (by omega),zld,zlc,zle,go_sem]
    try simp [ze]
   .simp (disch:=omega) only [Ax,Aq,zlf,go_sem]
    try simp [zlf]
   .simp (disch:=omega) only [go_sem]
   .simp (disch:=omega) only [go_sem]
   .repeat rw [Ak _ _ (by omega)]
 .rw [iN c0] at D6
  simp (disch:=omega) only [q,T3,Ad ee,z3.1,z3.2,dF c0,true_and,go_sem]
  refine BU ?_
  simp (disch:=omega) only [q,T3,Ad ee,dF c0,Ck,k1,k2,z1,z2,Aq,true_and,go_sem]
  refine ⟨.mk (j+1) (g+1) (L++[.mk e0 (t.n++⟨#[46]⟩++nm)]) (n+200),⟨show j+1<=t.members.length by omega,show m+3<=n+200 by omega,?_⟩,by show t.members.length - (j+1)<t.members.length - j;omega,?_⟩
  .show _=_
   rw [D6,<-At]
   try simp
  dsimp only
  refine EU hf ?_ ?_ ?_ ?_ (fun a ha d5=>?_) (by omega)
  .simp (disch:=omega) only [Ao j (by omega),zld,zlc,zle,go_sem]
   try simp [ze]
  .simp (disch:=omega) only [Ax,Aq,zlf,go_sem]
   try simp [zlf]
  .simp (disch:=omega) only [go_sem]
  .simp (disch:=omega) only [go_sem]
  .repeat rw [Ak _ _ (by omega)]
def Hy (doc:List Av) (t:Av):List Da:=if t.k=1 then L1 doc t (GX t.impl) (GX t.impl).length else if t.k=3 then L9 doc t t.members.length else []
theorem PQ (hb:DocB doc) (ht:DfnB t):(Hy doc t).length<=135168:=by
 unfold Hy
 split
 .have:=Ql hb t (GX t.impl) (GX t.impl).length;have:=ht.il;omega
 .split
  .have:=Of doc t t.members.length;have:=ht.ml;omega
  .simp
theorem Lb (hb:DocB doc):∀l:List Av,(∀t∈l,DfnB t)->(l.flatMap (Hy doc)).length<=l.length*135168
 | [],_=>by simp
 |t::l,h=>by
  have h1:=PQ hb (h t (List.mem_cons_self ..))
  have h2:=Lb hb l fun t ht=>h t (List.mem_cons_of_mem _ ht)
  rw [List.flatMap_cons,zld,zlc,Nat.add_mul]
  omega
theorem Xf (doc:List Av) (hd:DocOk doc) (hb:DocB doc) (hp:CH) (m:Nat):Ae prog 44 hp m [B9 doc] (.ds (Ab AM (doc.flatMap (Hy doc)))):=by
 have GB:=hb.l
 obtain ⟨RR,AC⟩:=A7 (doc.flatMap (Hy doc))
 rw [AC]
 refine Al func44 (tA cc44) (tB cc44) (tC cc44) rfl fun hf=>?_;unfold ck44
 simp (disch:=omega) only [go_sem]
 refine loop (fun p:R1=>match p with
  | .mk j g L n=>⟨[(1,.bx m 0),(3,.rw (m+1) g L.length),(4,.i .i64 j)],(m+1,.rw g 2 (Ab AM L))::(m,.bx [.ds (Ab BB doc)])::hp,n⟩)
  (fun p=>match p with | .mk j g L n=>j<=doc.length∧m+2<=n∧L=(doc.take j).flatMap (Hy doc)) (fun p=>match p with | .mk j g L n=>doc.length - j) (.mk 0 0 [] (m+2)) ?_ ?_ (fun p hj=>?_)
 .exact ⟨Nat.zero_le _,zna _,by simp⟩
 .dsimp only
  refine (By (t:=3) (m:=2) (by (simp (disch:=omega) only [go_sem]))).trans (Lt hf ?_ ?_ ?_ (fun a ha d5=>?_) (zna _))
  .simp (disch:=omega) only [go_sem]
  .simp (disch:=omega) only [go_sem]
   try rfl
  .simp (disch:=omega) only [go_sem]
  .repeat rw [Ak _ _ (by omega)]
 obtain ⟨j,g,L,n⟩:=p
 obtain ⟨Cq,Be,At⟩:=hj
 have Ck:(Ab AM L).length=L.length:=As _ _
 have Ve:L.length<=8650752:=by rw [At];have:=Lb hb (doc.take j) (fun t ht=>hb.d t (z34 ht));rw [List.length_take] at this;omega
 have BD:m<=n:=by omega
 dsimp only
 simp (disch:=omega) only [go_sem]
 refine Af (fun q=>?_) (fun q=>?_)
 case' refine_2=>
  have q:j=doc.length:=by simp at q;omega
  subst q
  rw [List.take_length,AC] at At
  subst At
  simp (disch:=omega) only [BD,Ck,zna,go_sem]
 have q:j<doc.length:=by simpa using q
 obtain ⟨t,et⟩:∃x,doc[j]?=some x:=⟨doc[j],by simp [q]⟩
 have ht:=hb.d t (zla et)
 have D6:=Bo (A:=Hy doc) et
 have Hf:=PQ hb ht
 have hO:=Oy doc hd hb t ht
 have hU:=Rh doc hd t ht
 by_cases k1:t.k=1
 .have e1:Hy doc t=L1 doc t (GX t.impl) (GX t.impl).length:=by unfold Hy;rw [iP k1]
  rw [e1] at D6 Hf
  obtain ⟨F,hF⟩:=A7 (L1 doc t (GX t.impl) (GX t.impl).length)
  rw [hF] at hO D6 Hf
  have Dz:(Ab AM F).length=F.length:=As _ _
  have k3:(L.length+F.length)*24<=140737488355328:=by omega
  have k4:L.length+F.length<=9223372036854775807:=by omega
  simp (disch:=omega) only [q,Ad (Aa BB et),dT k1,go_sem]
  refine Au.f (fun _ _ _=>hO _ _) ?_
  simp (disch:=omega) only [q,Ad (Aa BB et),Ck,Dz,k3,k4,Ax,true_and,go_sem]
  refine ⟨.mk (j+1) (g+1) (L++F) (n+200),⟨show j+1<=doc.length by omega,show m+2<=n+200 by omega,?_⟩,by show doc.length - (j+1)<doc.length - j;omega,?_⟩
  .show _=_
   rw [D6,<-At]
   try simp
  dsimp only
  refine Lt hf ?_ ?_ ?_ (fun a ha d5=>?_) (by omega)
  .simp (disch:=omega) only [Ao j (by omega),zld,zlc,zle,go_sem]
   try simp [ze]
  .simp (disch:=omega) only [Ax,Aq,zlf,go_sem]
   try simp [zlf]
  .simp (disch:=omega) only [go_sem]
  .repeat rw [Ak _ _ (by omega)]
 by_cases k2:t.k=3
 .have e1:Hy doc t=L9 doc t t.members.length:=by unfold Hy;rw [iN k1,iP k2]
  rw [e1] at D6 Hf
  obtain ⟨F,hF⟩:=A7 (L9 doc t t.members.length)
  rw [hF] at hU D6 Hf
  have Dz:(Ab AM F).length=F.length:=As _ _
  have k3:(L.length+F.length)*24<=140737488355328:=by omega
  have k4:L.length+F.length<=9223372036854775807:=by omega
  simp (disch:=omega) only [q,Ad (Aa BB et),dF k1,dT k2,go_sem]
  refine Au.f (fun _ _ _=>hU _ _) ?_
  simp (disch:=omega) only [q,Ad (Aa BB et),Ck,Dz,k3,k4,Ax,true_and,go_sem]
  refine ⟨.mk (j+1) (g+1) (L++F) (n+200),⟨show j+1<=doc.length by omega,show m+2<=n+200 by omega,?_⟩,by show doc.length - (j+1)<doc.length - j;omega,?_⟩
  .show _=_
   rw [D6,<-At]
   try simp
  dsimp only
  refine Lt hf ?_ ?_ ?_ (fun a ha d5=>?_) (by omega)
  .simp (disch:=omega) only [Ao j (by omega),zld,zlc,zle,go_sem]
   try simp [ze]
  .simp (disch:=omega) only [Ax,Aq,zlf,go_sem]
   try simp [zlf]
  .simp (disch:=omega) only [go_sem]
  .repeat rw [Ak _ _ (by omega)]
 .have e1:Hy doc t=[]:=by unfold Hy;rw [iN k1,iN k2]
  rw [e1] at D6
  simp (disch:=omega) only [q,Ad (Aa BB et),dF k1,dF k2,go_sem]
  refine ⟨.mk (j+1) (g) (L) (n+200),⟨show j+1<=doc.length by omega,show m+2<=n+200 by omega,?_⟩,by show doc.length - (j+1)<doc.length - j;omega,?_⟩
  .show _=_
   rw [D6,<-At]
   try simp
  dsimp only
  refine Lt hf ?_ ?_ ?_ (fun a ha d5=>?_) (by omega)
  .simp (disch:=omega) only [Ao j (by omega),zld,zlc,zle,go_sem]
   try simp [ze]
  .simp (disch:=omega) only [Ax,Aq,zlf,go_sem]
   try simp [zlf]
  .simp (disch:=omega) only [go_sem]
  .repeat rw [Ak _ _ (by omega)]
end
