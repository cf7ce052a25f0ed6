/- Proof. Conditions: none. -/
import Derived.Test.YtgfidgoefioigaaGreatDoorIi49
open Go.Proofs.Tryz
open List renaming mem_of_getElem?→zla,length_cons→zlc,length_append→zld,length_nil→zle,append_assoc→zlf,nil_append→zli,take_of_length_le→zlk,drop_length→zll,take_zero→zlr
open Nat renaming le_refl→zna,le_trans→znc
namespace Go.Proofs.YtgfidgoefioigaaGreatDoor
open Go.Eng
set_option linter.all false
set_option maxRecDepth 20000
set_option maxHeartbeats 2000000
noncomputable def Gi (doc:List Az) (nb:Bool) (j:Nat) (t:Az):List C6:=Rz doc t j ++
 (if t.k=1 then OE doc t else if t.k=2 then OE doc t else if t.k=4 then QV t else if t.k=5 then MY doc (AZ t.inputs) (t.n++⟨#[46]⟩) ⟨#[]⟩ else [])
theorem ND {doc:List Az} (nb:Bool) (j:Nat) {t:Az} (ht:DfnB t):(Gi doc nb j t).length≤3269:=by
 unfold Gi
 have h1:=MI doc t j
 have h2:=NW doc t ht.fl
 have h3:=NV t ht.ml
 have h4:=E7 doc (CE t.inputs) (t.n++⟨#[46]⟩) ⟨#[]⟩
 rw [zld]
 repeat' split
 all_goals (try simp only [zle]);omega
noncomputable def Lh (doc:List Az) (nb:Bool):List C6:=Gj (Gi doc nb) doc doc.length++(if nb=true∧(A1 doc ⟨#[81,117,101,114,121]⟩).isSome=false then [.mk 30 ⟨#[81,117,101,114,121]⟩] else [])
theorem Pv (doc:List Az) (hd:DocB doc) (nb:Bool) (hp:CH) (m:Nat):AI prog 43 hp m [B5 doc,.b nb] (Rx (fun l:List C6=>l=Lh doc nb) fun l Ao n' r'=>Ao=BR m [(2,Ad AK l)]++([]++hp)∧n'=m+1∧r'=.rw m 0 l.length):=by
 have FH:=hd.l
 obtain ⟨RR,AD⟩:∃RR,Lh doc nb=RR:=⟨_,rfl⟩
 rw [AD]
 unfold Lh at AD
 refine Xp (fun l:List C6=>[(2,Ad AK l)]) (fun l:List C6=>l=RR) (fun _=>[]) (fun l=>.rw m 0 l.length) func43 (by kernel_rfl) cc43 cr43 rfl (fun hf i hi=>trivial) fun hf=>?_
 unfold ck43
 simp only [go_sem]
 refine loop (fun p:OI=>match p with
  | .mk j g L n=>⟨[(1,.b nb),(2,.bx m 0),(5,.rw (m+1) g L.length),(6,.i .i64 j)],(m+1,.rw g 2 (Ad AK L))::(m,.bx [.ds (Ad BB doc)])::hp,n⟩)
  (fun p=>match p with | .mk j g L n=>j≤doc.length∧m+2≤n∧L=Gj (Gi doc nb) doc j) (fun p=>match p with | .mk j g L n=>doc.length - j) (.mk 0 0 [] (m+2)) ?_ ?_ (fun p hj=>?_)
 .exact ⟨Nat.zero_le _,zna _,rfl⟩
 .dsimp only
  refine (B0 (t:=5) (m:=2) (by (simp (disch:=omega) only [Aa,go_sem]))).trans (Ac ?_ (Ae.sub (Ae.cons ?_ (Ae.cons ?_ (Ae.base hf fun a ha hax=>?_)))) (zna _))
  .simp (disch:=omega) only [Aa,go_sem]
  .simp (disch:=omega) only [Aa,go_sem]
   try rfl
  .simp (disch:=omega) only [Aa,go_sem]
  .repeat rw [Aq _ _ (by omega)]
 obtain ⟨j,g,L,n⟩:=p
 obtain ⟨Cm,Ba,Aw⟩:=hj
 have hLb:L.length≤3269*j:=by rw [Aw];exact CV (fun j x e=>ND nb j (hd.d x (zla e))) j
 have Cb:(Ad AK L).length=L.length:=Ax _ _
 have JJ:(Ad AK L).take L.length=Ad AK L:=zlk (by omega)
 have BO:m≤n:=by omega
 dsimp only
 simp (disch:=omega) only [Aa,go_sem]
 refine Ai (fun q=>?_) (fun q=>?_)
 .have q:j<doc.length:=by simpa using q
  obtain ⟨t,et⟩:∃x,doc[j]?=some x:=⟨doc[j],by simp [q]⟩
  have ht:=hd.d t (zla et)
  obtain ⟨Md,Ij,Ex⟩:=B9 ht.i
  have Dj:=EE (A:=Gi doc nb) et
  have l1:=NW doc t ht.fl
  have l2:=NV t ht.ml
  have l3:=E7 doc (CE t.inputs) (t.n++⟨#[46]⟩) ⟨#[]⟩
  obtain ⟨iz,hiz⟩:∃z,AZ t.inputs=z:=⟨_,rfl⟩
  rw [hiz] at Md Ij Ex l3
  have htn:=ht.n
  have z1:t.n.size+(#[46]:Array UInt8).size≤9223372036854775807:=by show t.n.size+1≤9223372036854775807;omega
  simp (disch:=omega) only [Aa,q,Ag (Ab BB et),go_sem]
  refine Af.r (Ul doc hd j t et _ _) ?_
  rintro Ao n' r ⟨F1,LV,e1,e2,e3⟩
  subst e1
  subst e2
  subst e3
  have Gl:F1=_:=LV
  have LV:F1.length≤5:=by rw [Gl];exact MI _ _ _
  have k1:(L.length+F1.length)*24≤140737488355328:=by omega
  have k2:L.length+F1.length≤9223372036854775807:=by omega
  have Db:(Ad AK F1).length=F1.length:=Ax _ _
  have JQ:(Ad AK (L++F1)).length=L.length+F1.length:=by rw [Ax,zld]
  simp only [zli]
  by_cases c1:t.k=1
  .simp (disch:=omega) only [Aa,q,Ag (Ab BB et),Cb,Db,k1,k2,Au,decide_eq_true c1,true_and,go_sem]
   refine Af.r (Kp doc FH t ht _ _) ?_
   rintro Ao n' r ⟨F2,Hq,e1,e2,e3⟩
   subst e1
   subst e2
   subst e3
   have Ef:F2=_:=Hq
   have Hq:F2.length≤3264:=by rw [Ef];exact znc l1 (by decide)
   have hE2:Gi doc nb j t=F1++F2:=by unfold Gi;rw [if_pos c1,←Gl,Ef]
   simp only [zli]
   have k5:(L.length+(F1.length+F2.length))*24≤140737488355328:=by omega
   have k6:L.length+(F1.length+F2.length)≤9223372036854775807:=by omega
   have HI:(Ad AK F2).length=F2.length:=Ax _ _
   simp (disch:=omega) only [Aa,q,Ag (Ab BB et),Cb,Db,JQ,HI,k1,k2,k5,k6,Au,Ar,Nat.add_assoc,zld,zlc,zle,Ax,go_sem]
   refine ⟨.mk (j+1) (g+1+1) (L++F1++F2) (n+400),⟨show j+1≤doc.length by omega,show m+2≤n+400 by omega,by show _=_;rw [Dj,hE2,Aw];try simp only [zlf]⟩,by show doc.length - (j+1)<doc.length - j;omega,?_⟩
   dsimp only
   refine Ac ?_ (Ae.sub (Ae.cons ?_ (Ae.cons ?_ (Ae.base hf fun a ha hax=>?_)))) (by omega)
   .simp (disch:=omega) only [Aa,At j (by omega),zld,zlc,zle,go_sem]
    try simp [Nat.add_assoc]
   .simp (disch:=omega) only [Aa,Au,Ar,zlf,go_sem]
    try simp [zlf]
   .simp (disch:=omega) only [Aa,go_sem]
   .repeat rw [Aq _ _ (by omega)]
  by_cases c2:t.k=2
  .simp (disch:=omega) only [Aa,q,Ag (Ab BB et),Cb,Db,k1,k2,Au,decide_eq_false c1,decide_eq_true c2,true_and,go_sem]
   refine Af.r (Kp doc FH t ht _ _) ?_
   rintro Ao n' r ⟨F2,Hq,e1,e2,e3⟩
   subst e1
   subst e2
   subst e3
   have Ef:F2=_:=Hq
   have Hq:F2.length≤3264:=by rw [Ef];exact znc l1 (by decide)
   have hE2:Gi doc nb j t=F1++F2:=by unfold Gi;rw [if_neg c1,if_pos c2,←Gl,Ef]
   simp only [zli]
   have k5:(L.length+(F1.length+F2.length))*24≤140737488355328:=by omega
   have k6:L.length+(F1.length+F2.length)≤9223372036854775807:=by omega
   have HI:(Ad AK F2).length=F2.length:=Ax _ _
   simp (disch:=omega) only [Aa,q,Ag (Ab BB et),Cb,Db,JQ,HI,k1,k2,k5,k6,Au,Ar,Nat.add_assoc,zld,zlc,zle,Ax,go_sem]
   refine ⟨.mk (j+1) (g+1+1) (L++F1++F2) (n+400),⟨show j+1≤doc.length by omega,show m+2≤n+400 by omega,by show _=_;rw [Dj,hE2,Aw];try simp only [zlf]⟩,by show doc.length - (j+1)<doc.length - j;omega,?_⟩
   dsimp only
   refine Ac ?_ (Ae.sub (Ae.cons ?_ (Ae.cons ?_ (Ae.base hf fun a ha hax=>?_)))) (by omega)
   .simp (disch:=omega) only [Aa,At j (by omega),zld,zlc,zle,go_sem]
    try simp [Nat.add_assoc]
   .simp (disch:=omega) only [Aa,Au,Ar,zlf,go_sem]
    try simp [zlf]
   .simp (disch:=omega) only [Aa,go_sem]
   .repeat rw [Aq _ _ (by omega)]
  by_cases c4:t.k=4
  .simp (disch:=omega) only [Aa,q,Ag (Ab BB et),Cb,Db,k1,k2,Au,decide_eq_false c1,decide_eq_false c2,decide_eq_true c4,true_and,go_sem]
   refine Af.r (Pb t ht.n ht.ml ht.m _ _) ?_
   rintro Ao n' r ⟨F2,Hq,e1,e2,e3⟩
   subst e1
   subst e2
   subst e3
   have Ef:F2=_:=Hq
   have Hq:F2.length≤3264:=by rw [Ef];exact znc l2 (by decide)
   have hE2:Gi doc nb j t=F1++F2:=by unfold Gi;rw [if_neg c1,if_neg c2,if_pos c4,←Gl,Ef]
   simp only [zli]
   have k5:(L.length+(F1.length+F2.length))*24≤140737488355328:=by omega
   have k6:L.length+(F1.length+F2.length)≤9223372036854775807:=by omega
   have HI:(Ad AK F2).length=F2.length:=Ax _ _
   simp (disch:=omega) only [Aa,q,Ag (Ab BB et),Cb,Db,JQ,HI,k1,k2,k5,k6,Au,Ar,Nat.add_assoc,zld,zlc,zle,Ax,go_sem]
   refine ⟨.mk (j+1) (g+1+1) (L++F1++F2) (n+400),⟨show j+1≤doc.length by omega,show m+2≤n+400 by omega,by show _=_;rw [Dj,hE2,Aw];try simp only [zlf]⟩,by show doc.length - (j+1)<doc.length - j;omega,?_⟩
   dsimp only
   refine Ac ?_ (Ae.sub (Ae.cons ?_ (Ae.cons ?_ (Ae.base hf fun a ha hax=>?_)))) (by omega)
   .simp (disch:=omega) only [Aa,At j (by omega),zld,zlc,zle,go_sem]
    try simp [Nat.add_assoc]
   .simp (disch:=omega) only [Aa,Au,Ar,zlf,go_sem]
    try simp [zlf]
   .simp (disch:=omega) only [Aa,go_sem]
   .repeat rw [Aq _ _ (by omega)]
  by_cases c5:t.k=5
  .simp (disch:=omega) only [Aa,q,Ag (Ab BB et),Cb,Db,k1,k2,Au,decide_eq_false c1,decide_eq_false c2,decide_eq_false c4,decide_eq_true c5,true_and,Md,z1,go_sem]
   refine Af.r (FX doc FH iz Ij (fun x hx=>(Ex x hx).2) _ _ ?_ ?_ _ _) ?_
   .simp only [ByteArray.size_append,e46];omega
   .decide
   rintro Ao n' r ⟨F2,Hq,e1,e2,e3⟩
   subst e1
   subst e2
   subst e3
   have Ef:F2=_:=Hq
   have Hq:F2.length≤3264:=by rw [Ef];exact znc l3 (by decide)
   have hE2:Gi doc nb j t=F1++F2:=by unfold Gi;rw [if_neg c1,if_neg c2,if_neg c4,if_pos c5,hiz,←Gl,Ef]
   simp only [zli]
   have k5:(L.length+(F1.length+F2.length))*24≤140737488355328:=by omega
   have k6:L.length+(F1.length+F2.length)≤9223372036854775807:=by omega
   have HI:(Ad AK F2).length=F2.length:=Ax _ _
   simp (disch:=omega) only [Aa,q,Ag (Ab BB et),Cb,Db,JQ,HI,k1,k2,k5,k6,Au,Ar,Nat.add_assoc,zld,zlc,zle,Ax,go_sem]
   refine ⟨.mk (j+1) (g+1+1) (L++F1++F2) (n+400),⟨show j+1≤doc.length by omega,show m+2≤n+400 by omega,by show _=_;rw [Dj,hE2,Aw];try simp only [zlf]⟩,by show doc.length - (j+1)<doc.length - j;omega,?_⟩
   dsimp only
   refine Ac ?_ (Ae.sub (Ae.cons ?_ (Ae.cons ?_ (Ae.base hf fun a ha hax=>?_)))) (by omega)
   .simp (disch:=omega) only [Aa,At j (by omega),zld,zlc,zle,go_sem]
    try simp [Nat.add_assoc]
   .simp (disch:=omega) only [Aa,Au,Ar,zlf,go_sem]
    try simp [zlf]
   .simp (disch:=omega) only [Aa,go_sem]
   .repeat rw [Aq _ _ (by omega)]
  .simp (disch:=omega) only [Aa,q,Ag (Ab BB et),Cb,Db,k1,k2,Au,decide_eq_false c1,decide_eq_false c2,decide_eq_false c4,decide_eq_false c5,true_and,go_sem]
   have hE2:Gi doc nb j t=F1:=by unfold Gi;rw [if_neg c1,if_neg c2,if_neg c4,if_neg c5,←Gl,List.append_nil]
   refine ⟨.mk (j+1) (g+1) (L++F1) (n+400),⟨show j+1≤doc.length by omega,show m+2≤n+400 by omega,by show _=_;rw [Dj,hE2,Aw];try simp only [zlf]⟩,by show doc.length - (j+1)<doc.length - j;omega,?_⟩
   dsimp only
   refine Ac ?_ (Ae.sub (Ae.cons ?_ (Ae.cons ?_ (Ae.base hf fun a ha hax=>?_)))) (by omega)
   .simp (disch:=omega) only [Aa,At j (by omega),zld,zlc,zle,go_sem]
    try simp [Nat.add_assoc]
   .simp (disch:=omega) only [Aa,Au,Ar,zlf,go_sem]
    try simp [zlf]
   .simp (disch:=omega) only [Aa,go_sem]
   .repeat rw [Aq _ _ (by omega)]
 have q:j=doc.length:=by simp at q;omega
 subst q
 rw [←Aw] at AD
 have hF:=BM doc (by omega) ⟨#[81,117,101,114,121]⟩
 unfold DH at hF
 obtain ⟨X,hX⟩:∃X,A1 doc ⟨#[81,117,101,114,121]⟩=X:=⟨_,rfl⟩
 rw [hX] at hF AD
 obtain ⟨xb,hxb⟩:∃x,X.isSome=x:=⟨_,rfl⟩
 rw [hxb] at hF AD
 have k1:(L.length+1)*24≤140737488355328:=by omega
 have k2:L.length≤9223372036854775806:=by omega
 simp (disch:=omega) only [Aa,go_sem]
 refine Af.f (hF _ _) ?_
 cases nb<;>cases xb
 case' true.false =>
  simp (disch:=omega) only [Aa,Cb,k1,k2,Ar,true_and,go_sem]
  refine BY (L++[.mk 30 ⟨#[81,117,101,114,121]⟩]) (by rw [←AD,if_pos ⟨rfl,rfl⟩]) ?_
  simp (disch:=omega) only [Aa,BO,Cb,zna,zld,zlc,zle,go_sem]
 all_goals
  try (simp (disch:=omega) only [Aa,go_sem])
  refine BY L (by rw [←AD,if_neg (by decide),List.append_nil]) ?_
  simp (disch:=omega) only [Aa,BO,Cb,zna,go_sem]
set_option maxHeartbeats 1000000
theorem UH {doc:List Az} (hd:DocB doc) (nb:Bool):(Lh doc nb).length≤1000000:=by
 have h1:=CV (A:=Gi doc nb) (l:=doc) (fun j x e=>ND nb j (hd.d x (zla e))) doc.length
 have h2:=hd.l
 unfold Lh
 rw [zld]
 split
 .simp only [zlc,zle];omega
 .simp only [zle];omega
noncomputable def Um (doc:List Az):List C6:=if 0<((Lh doc true).length:Int) then Lh doc true else Lh doc true++doc.flatMap (G3 doc)++doc.flatMap (Jl doc)
theorem Sy (doc:List Az) (hd:DocB doc) (hk:DocOk doc) (hp:CH) (m:Nat):Ah prog 23 hp m [B5 doc] (.ds (Ad AK (Um doc))):=by
 obtain ⟨RR,AD⟩:∃RR,Um doc=RR:=⟨_,rfl⟩
 rw [AD]
 unfold Um at AD
 have lC:=UH hd true
 have FH:=hd.l
 have hA:=T4 doc hk hd
 have hB:=Jo doc hd
 have lA:=JE hd doc hd.d
 have lB:=Jr (doc:=doc) doc hd.d
 obtain ⟨FA,hFA⟩:∃x,doc.flatMap (G3 doc)=x:=⟨_,rfl⟩
 obtain ⟨FB,hFB⟩:∃x,doc.flatMap (Jl doc)=x:=⟨_,rfl⟩
 rw [hFA] at hA lA AD
 rw [hFB] at hB lB AD
 have JQ:(Ad AK FA).length=FA.length:=Ax _ _
 have hBl:(Ad AK FB).length=FB.length:=Ax _ _
 refine Am func23 (by kernel_rfl) cc23 cr23 rfl fun hf=>?_;unfold ck23
 simp (disch:=omega) only [Aa,go_sem]
 refine Af.r (Pv doc hd true _ _) ?_
 rintro Ao n' r ⟨F1,LV,e1,e2,e3⟩
 subst e1
 subst e2
 subst e3
 have LV:F1=Lh doc true:=LV
 rw [←LV] at lC AD
 have hF1l:(Ad AK F1).length=F1.length:=Ax _ _
 simp only [zli]
 have JJ:(Ad AK F1).take F1.length=Ad AK F1:=zlk (by omega)
 simp (disch:=omega) only [Aa,go_sem]
 refine Ai (fun c=>?_) (fun c=>?_)
 .rw [if_pos (by simpa using c)] at AD
  subst AD
  simp (disch:=omega) only [Aa,zna,JJ,hF1l,go_sem]
 .rw [if_neg (by simpa using c)] at AD
  have k1:(F1.length+FA.length)*24≤140737488355328:=by omega
  have k2:F1.length+FA.length≤9223372036854775807:=by omega
  have k3:(F1.length+FA.length+FB.length)*24≤140737488355328:=by omega
  have k4:F1.length+FA.length+FB.length≤9223372036854775807:=by omega
  have k3':(F1.length+(FA.length+FB.length))*24≤140737488355328:=by omega
  have k4':F1.length+(FA.length+FB.length)≤9223372036854775807:=by omega
  simp (disch:=omega) only [Aa,go_sem]
  refine Af.f (hA _ _) ?_
  simp (disch:=omega) only [Aa,hF1l,JQ,k1,k2,Au,true_and,go_sem]
  refine Af.f (hB _ _) ?_
  have Fm:(Ad AK (F1++FA)).length=F1.length+FA.length:=by rw [Ax,zld]
  have hl3:(Ad AK (F1++FA++FB)).length=F1.length+FA.length+FB.length:=by rw [Ax,zld,zld]
  have ht3:(F1++FA++FB).take (F1.length+(FA.length+FB.length))=F1++FA++FB:=zlk (by simp only [zld];omega)
  subst AD
  simp (disch:=omega) only [Aa,hF1l,JQ,hBl,Fm,k3,k4,k3',k4',Au,true_and,zna,hl3,ht3,go_sem]
theorem Jz (l:List Pk) (hw:A8 l≤1000000000000) (h:∀p∈l,∀hp m,Ah prog 47 hp m [.ds (Ad Bo p.picks)] (.i .i64 (A8 p.picks))) (hp:CH) (m:Nat):Ah prog 47 hp m [.ds (Ad Bo l)] (.i .i64 (A8 l)):=by
 have hl:=DS l
 obtain ⟨R,hR⟩:∃R,A8 l=R:=⟨_,rfl⟩
 rw [hR]
 refine Am func47 (by kernel_rfl) cc47 cr47 rfl fun hf=>?_;unfold ck47
 simp only [go_sem]
 refine loop (fun p:Nat × Nat × Nat=>⟨[(0,.ds (Ad Bo l)),(3,.i .i64 p.2.1),(4,.i .i64 p.1)],hp,p.2.2⟩) (fun p=>p.1≤l.length∧R+(l.length - p.1)=p.2.1+A8 (l.drop p.1)) (fun p=>l.length - p.1) (0,l.length,m) ?_ ?_ (fun ⟨j,c,n⟩ hj=>?_)
 .exact ⟨by simp,by simp;omega⟩
 .refine Ac ?_ (A6.refl _) (zna _)
  simp only [go_sem]
 dsimp only at hj
 obtain ⟨Cm,Ba⟩:=hj
 simp only [go_sem]
 refine Ai (fun d=>?_) (fun d=>?_)
 .have d:j<l.length:=by simpa using d
  obtain ⟨x,ex⟩:∃x,l[j]?=some x:=⟨l[j],by simp [d]⟩
  rw [A5 ex,A8,CD] at Ba
  simp only [d,Ag (Ab Bo ex),go_sem]
  refine Af.f (h x (zla ex) _ _) ?_
  have k1:IntKind.i64.wrap ((c:Int)+(A8 x.picks:Nat))=((c+A8 x.picks:Nat):Int):=by
   rw [←Int.natCast_add];exact Ry (by omega)
  simp only [k1,go_sem]
  refine ⟨(j+1,c+A8 x.picks,n),⟨by dsimp only;omega,by dsimp only;omega⟩,by dsimp only;omega,Ac ?_ (A6.refl _) (zna _)⟩
  simp only [At j (by omega),go_sem]
 .have d:j=l.length:=by simp at d;omega
  subst d
  rw [zll,A8] at Ba
  have Ba:R=c:=by omega
  subst Ba
  simp only [go_sem]
theorem P7 (l:List Pk) (hw:A8 l≤1000000000000) (hp:CH) (m:Nat):Ah prog 47 hp m [.ds (Ad Bo l)] (.i .i64 (A8 l)):=by
 have key:∀p:Pk,PO p≤1000000000000→∀hp m,Ah prog 47 hp m [.ds (Ad Bo p.picks)] (.i .i64 (A8 p.picks)):=fun p=>Pk.ind (Q:=fun p=>PO p≤1000000000000→∀hp m,Ah prog 47 hp m [.ds (Ad Bo p.picks)] (.i .i64 (A8 p.picks))) (fun v ih hv=>by
  rw [CD] at hv
  exact Jz v.picks (by omega) fun p hp=>ih p hp (by have:=DV hp;omega)) p
 exact Jz l hw (fun p hp=>key p (by have:=DV hp;omega)) hp m
noncomputable def IN (doc:List Az):List B6→List FZ→Bool
 | [],l=>decide (l=[])
 | d::ds,l=>match l with
  | []=>!(d.has||FSw d.tw)&&IN doc ds []
  | a::r=>if a.n=d.n then decide ((Rq doc false d.tn d.tw a.v).2=0)&&(Dn false a.v&&(decide (EO (Rq doc false d.tn d.tw a.v).1 a.v=0)&&IN doc ds r)) else !(d.has||FSw d.tw)&&IN doc ds (a::r)
def Mz (l:List FZ):Prop:=∀a∈l,a.v.Fit∧a.v.Rng
theorem R7 (doc:List Az) (hd:DocB doc) (is:List B6) (Md:is.length≤16) (Ij:∀x∈is,Gt x∧x.n.size≤64) (l:List FZ) (hl:l.length≤1000000000) (hr:Mz l) (hp:CH) (m:Nat):Ah prog 141 hp m [B5 doc,.ds (Ad A7 is),.ds (Ad BC l)] (.b (IN doc is l)):=by
 obtain ⟨R,hR⟩:∃R,IN doc is l=R:=⟨_,rfl⟩
 rw [hR]
 refine Am func141 (by kernel_rfl) cc141 cr141 rfl fun hf=>?_;unfold ck141
 simp (disch:=omega) only [Aa,go_sem]
 refine loop (fun p:Nat × Nat × Nat=>⟨[(1,.ds (Ad A7 is)),(2,.ds (Ad BC l)),(3,.bx m 0),(7,.i .i64 p.2.1),(8,.i .i64 p.1)],(m,.bx [.ds (Ad BB doc)])::hp,p.2.2⟩)
  (fun p=>p.1≤is.length∧p.2.1≤l.length∧m+1≤p.2.2∧R=IN doc (is.drop p.1) (l.drop p.2.1)) (fun p=>is.length - p.1) (0,0,m+1) ?_ ?_ (fun ⟨j,k,n⟩ hj=>?_)
 .exact ⟨by simp,by simp,by simp,hR.symm⟩
 .refine Ac ?_ (A6.cons ?_ (A6.base hf ?_)) (zna _)
  all_goals (simp (disch:=omega) only [Aa,go_sem])
 dsimp only at hj
 obtain ⟨Cm,Ba,Aw,Cc⟩:=hj
 simp (disch:=omega) only [Aa,go_sem]
 refine Ai (fun d=>?_) (fun d=>?_)
 case' refine_2 =>
  have d:j=is.length:=by simp at d;omega
  subst d
  rw [zll,IN] at Cc
  have e:decide ((k:Int)=(l.length:Int))=decide (l.drop k=[]):=by
   rw [decide_eq_decide,List.drop_eq_nil_iff]
   omega
  simp only [e,←Cc,go_sem]
 have d:j<is.length:=by simpa using d
 obtain ⟨x,ex⟩:∃x,is[j]?=some x:=⟨is[j],by simp [d]⟩
 rw [A5 ex] at Cc
 obtain ⟨⟨x1,⟨x2,x3⟩,x4⟩,x5⟩:=Ij x (zla ex)
 have hN:=D0 x.tn x.tw (by omega)
 by_cases q:k<l.length
 .obtain ⟨a,ea⟩:∃a,l[k]?=some a:=⟨l[k],by simp [q]⟩
  obtain ⟨a1,a2⟩:=hr a (zla ea)
  rw [A5 ea,IN] at Cc
  have dq:decide ((k:Int)<(l.length:Int))=true:=by simp;exact q
  by_cases c:a.n=x.n
  .rw [if_pos c] at Cc
   have hI:=O8 doc hd x.tn x.tw a.v x1 a1 a2
   have hF:=WW doc hd false x.tn x.tw a.v x1 a1 a2
   obtain ⟨W,hW⟩:∃W,Rq doc false x.tn x.tw a.v=W:=⟨_,rfl⟩
   rw [hW] at hI hF Cc
   have hRt:=RW a.v a1
   have hSm:=LH W.1 a.v hF a1
   have eg:(Ad BC l)[k]?=some (BC a):=Ab BC ea
   have ei:(Ad A7 is)[j]?=some (A7 x):=Ab A7 ex
   simp (disch:=omega) only [Aa,d,q,dq,Ag (Ab A7 ex),Ag (Ab BC ea),decide_eq_true c,eg,ei,zlc,zle,List.drop_succ_cons,List.drop_zero,List.take_succ_cons,zlr,Option.map_some,Option.map_none,Option.isSome_some,Option.isSome_none,Option.getD_some,List.getD_cons_zero,List.getD_cons_succ,and_self,Bp,true_and,A7,BC,go_sem]
   refine A3.f (fun _ _ _=>hI _ _) ?_
   have u1:¬n+32=m:=by omega
   have BO:m≤n:=by omega
   by_cases w:W.2=0
   .rw [decide_eq_true w,Bool.true_and] at Cc
    simp (disch:=omega) only [Aa,d,q,dq,Ag (Ab A7 ex),Ag (Ab BC ea),decide_eq_true c,eg,ei,decide_eq_true w,Bool.not_true,zlc,zle,List.drop_succ_cons,List.drop_zero,List.take_succ_cons,zlr,Option.map_some,Option.map_none,Option.isSome_some,Option.isSome_none,Option.getD_some,List.getD_cons_zero,List.getD_cons_succ,and_self,Bp,true_and,A7,BC,go_sem]
    refine ⟨u1,AG.f (fun _ _ _=>hRt _ _) ?_⟩
    cases SS:Dn false a.v
    .rw [SS,Bool.false_and] at Cc
     subst Cc
     simp (disch:=omega) only [Aa,d,q,dq,Ag (Ab A7 ex),Ag (Ab BC ea),decide_eq_true c,eg,ei,decide_eq_true w,Bool.not_true,Bool.not_false,zlc,zle,List.drop_succ_cons,List.drop_zero,List.take_succ_cons,zlr,Option.map_some,Option.map_none,Option.isSome_some,Option.isSome_none,Option.getD_some,List.getD_cons_zero,List.getD_cons_succ,and_self,Bp,true_and,A7,BC,go_sem]
     refine AG.no ?_
     simp (disch:=omega) only [Aa,BO,Bool.not_true,Bool.not_false,go_sem]
    .rw [SS,Bool.true_and] at Cc
     simp (disch:=omega) only [Aa,d,q,dq,Ag (Ab A7 ex),Ag (Ab BC ea),decide_eq_true c,eg,ei,decide_eq_true w,Bool.not_true,Bool.not_false,zlc,zle,List.drop_succ_cons,List.drop_zero,List.take_succ_cons,zlr,Option.map_some,Option.map_none,Option.isSome_some,Option.isSome_none,Option.getD_some,List.getD_cons_zero,List.getD_cons_succ,and_self,Bp,true_and,A7,BC,go_sem]
     refine AG.f (fun _ _ _=>hSm _ _) ?_
     cases S9:decide (EO W.1 a.v=0)
     .rw [S9,Bool.false_and] at Cc
      subst Cc
      simp (disch:=omega) only [Aa,BO,Bool.not_true,Bool.not_false,go_sem]
     .rw [S9,Bool.true_and] at Cc
      simp (disch:=omega) only [Aa,BO,Bool.not_true,Bool.not_false,go_sem]
      refine ⟨(j+1,(k+1),n+100),⟨show j+1≤is.length by omega,by dsimp only;omega,show m+1≤n+100 by omega,Cc⟩,by show is.length - (j+1)<is.length - j;omega,Ac ?_ (A6.cons ?_ (A6.base hf ?_)) (by dsimp only;omega)⟩
      .simp (disch:=omega) only [Aa,At j (by omega),At k (by omega),go_sem]
      .simp (disch:=omega) only [Aa,go_sem]
      .simp (disch:=omega) only [Aa,go_sem]
   .rw [decide_eq_false w,Bool.false_and] at Cc
    subst Cc
    simp (disch:=omega) only [Aa,d,q,dq,Ag (Ab A7 ex),Ag (Ab BC ea),decide_eq_true c,eg,ei,decide_eq_false w,Bool.not_true,Bool.not_false,zlc,zle,List.drop_succ_cons,List.drop_zero,List.take_succ_cons,zlr,Option.map_some,Option.map_none,Option.isSome_some,Option.isSome_none,Option.getD_some,List.getD_cons_zero,List.getD_cons_succ,and_self,Bp,true_and,A7,BC,go_sem]
    refine ⟨u1,AG.no ?_⟩
    simp (disch:=omega) only [Aa,d,q,dq,Ag (Ab A7 ex),Ag (Ab BC ea),decide_eq_true c,eg,ei,decide_eq_false w,Bool.not_true,Bool.not_false,zlc,zle,List.drop_succ_cons,List.drop_zero,List.take_succ_cons,zlr,Option.map_some,Option.map_none,Option.isSome_some,Option.isSome_none,Option.getD_some,List.getD_cons_zero,List.getD_cons_succ,and_self,Bp,true_and,A7,BC,go_sem]
    refine AG.no ?_
    simp (disch:=omega) only [Aa,BO,Bool.not_true,Bool.not_false,go_sem]
  .rw [if_neg c] at Cc
   have eg:(Ad BC l)[k]?=some (BC a):=Ab BC ea
   have ei:(Ad A7 is)[j]?=some (A7 x):=Ab A7 ex
   simp (disch:=omega) only [Aa,d,q,dq,Ag (Ab A7 ex),Ag (Ab BC ea),decide_eq_false c,eg,ei,zlc,zle,List.drop_succ_cons,List.drop_zero,List.take_succ_cons,zlr,Option.map_some,Option.map_none,Option.isSome_some,Option.isSome_none,Option.getD_some,List.getD_cons_zero,List.getD_cons_succ,and_self,Bp,true_and,A7,BC,go_sem]
   by_cases hb:x.has=true
   .simp only [hb,Bool.true_or,Bool.not_true,Bool.false_and] at Cc
    subst Cc
    try simp only [hb]
    simp (disch:=omega) only [Aa,d,eg,Ag (Ab A7 ex),ei,Bool.not_true,zlc,zle,List.drop_succ_cons,List.drop_zero,List.take_succ_cons,zlr,Option.map_some,Option.map_none,Option.isSome_some,Option.isSome_none,Option.getD_some,List.getD_cons_zero,List.getD_cons_succ,and_self,Bp,true_and,A7,BC,go_sem]
    refine BK ?_
    have BO:m≤n:=by omega
    simp (disch:=omega) only [Aa,d,eg,Ag (Ab A7 ex),ei,Bool.not_true,BO,zlc,zle,List.drop_succ_cons,List.drop_zero,List.take_succ_cons,zlr,Option.map_some,Option.map_none,Option.isSome_some,Option.isSome_none,Option.getD_some,List.getD_cons_zero,List.getD_cons_succ,and_self,Bp,true_and,A7,BC,go_sem]
   .have hb:x.has=false:=by simpa using hb
    simp only [hb,Bool.false_or] at Cc
    simp only [hb]
    obtain ⟨nn,hnn⟩:∃b,FSw x.tw=b:=⟨_,rfl⟩
    rw [hnn] at hN Cc
    simp (disch:=omega) only [Aa,d,eg,Ag (Ab A7 ex),ei,Bool.not_false,zlc,zle,List.drop_succ_cons,List.drop_zero,List.take_succ_cons,zlr,Option.map_some,Option.map_none,Option.isSome_some,Option.isSome_none,Option.getD_some,List.getD_cons_zero,List.getD_cons_succ,and_self,Bp,true_and,A7,BC,go_sem]
    refine EL (Af.f (hN _ _) ?_)
    cases nn
    .simp only [Bool.not_false,Bool.true_and] at Cc
     simp (disch:=omega) only [Aa,d,eg,Ag (Ab A7 ex),ei,Bool.not_false,zlc,zle,List.drop_succ_cons,List.drop_zero,List.take_succ_cons,zlr,Option.map_some,Option.map_none,Option.isSome_some,Option.isSome_none,Option.getD_some,List.getD_cons_zero,List.getD_cons_succ,and_self,Bp,true_and,A7,BC,go_sem]
     refine ⟨(j+1,k,n+100),⟨show j+1≤is.length by omega,by dsimp only;omega,show m+1≤n+100 by omega,by rw [A5 ea];exact Cc⟩,by show is.length - (j+1)<is.length - j;omega,Ac ?_ (A6.cons ?_ (A6.base hf ?_)) (by dsimp only;omega)⟩
     .simp (disch:=omega) only [Aa,At j (by omega),At k (by omega),go_sem]
     .simp (disch:=omega) only [Aa,go_sem]
     .simp (disch:=omega) only [Aa,go_sem]
    .simp only [Bool.not_true,Bool.false_and] at Cc
     subst Cc
     simp (disch:=omega) only [Aa,d,eg,Ag (Ab A7 ex),ei,Bool.not_false,zlc,zle,List.drop_succ_cons,List.drop_zero,List.take_succ_cons,zlr,Option.map_some,Option.map_none,Option.isSome_some,Option.isSome_none,Option.getD_some,List.getD_cons_zero,List.getD_cons_succ,and_self,Bp,true_and,A7,BC,go_sem]
     try (have BO:m≤n:=by omega;(simp (disch:=omega) only [Aa,BO,go_sem]))
 .have dq:decide ((k:Int)<(l.length:Int))=false:=by simp;omega
  have hk:k=l.length:=by omega
  subst hk
  rw [zll,IN] at Cc
  have eg:(Ad BC l)[l.length]?=none:=List.getElem?_eq_none (by rw [Ax];exact zna _)
  have ei:(Ad A7 is)[j]?=some (A7 x):=Ab A7 ex
  simp (disch:=omega) only [Aa,d,q,dq,Ag (Ab A7 ex),eg,ei,zlc,zle,List.drop_succ_cons,List.drop_zero,List.take_succ_cons,zlr,Option.map_some,Option.map_none,Option.isSome_some,Option.isSome_none,Option.getD_some,List.getD_cons_zero,List.getD_cons_succ,and_self,Bp,true_and,A7,BC,go_sem]
  obtain ⟨k,hk⟩:∃k,l.length=k:=⟨_,rfl⟩
  have hdr:l.drop k=[]:=by rw [←hk];exact zll
  rw [hk] at q dq eg Ba
  simp only [hk]
  by_cases hb:x.has=true
  .simp only [hb,Bool.true_or,Bool.not_true,Bool.false_and] at Cc
   subst Cc
   try simp only [hb]
   simp (disch:=omega) only [Aa,d,eg,Ag (Ab A7 ex),ei,Bool.not_true,zlc,zle,List.drop_succ_cons,List.drop_zero,List.take_succ_cons,zlr,Option.map_some,Option.map_none,Option.isSome_some,Option.isSome_none,Option.getD_some,List.getD_cons_zero,List.getD_cons_succ,and_self,Bp,true_and,A7,BC,go_sem]
   refine BK ?_
   have BO:m≤n:=by omega
   simp (disch:=omega) only [Aa,d,eg,Ag (Ab A7 ex),ei,Bool.not_true,BO,zlc,zle,List.drop_succ_cons,List.drop_zero,List.take_succ_cons,zlr,Option.map_some,Option.map_none,Option.isSome_some,Option.isSome_none,Option.getD_some,List.getD_cons_zero,List.getD_cons_succ,and_self,Bp,true_and,A7,BC,go_sem]
  .have hb:x.has=false:=by simpa using hb
   simp only [hb,Bool.false_or] at Cc
   simp only [hb]
   obtain ⟨nn,hnn⟩:∃b,FSw x.tw=b:=⟨_,rfl⟩
   rw [hnn] at hN Cc
   simp (disch:=omega) only [Aa,d,eg,Ag (Ab A7 ex),ei,Bool.not_false,zlc,zle,List.drop_succ_cons,List.drop_zero,List.take_succ_cons,zlr,Option.map_some,Option.map_none,Option.isSome_some,Option.isSome_none,Option.getD_some,List.getD_cons_zero,List.getD_cons_succ,and_self,Bp,true_and,A7,BC,go_sem]
   refine EL (Af.f (hN _ _) ?_)
   cases nn
   .simp only [Bool.not_false,Bool.true_and] at Cc
    simp (disch:=omega) only [Aa,d,eg,Ag (Ab A7 ex),ei,Bool.not_false,zlc,zle,List.drop_succ_cons,List.drop_zero,List.take_succ_cons,zlr,Option.map_some,Option.map_none,Option.isSome_some,Option.isSome_none,Option.getD_some,List.getD_cons_zero,List.getD_cons_succ,and_self,Bp,true_and,A7,BC,go_sem]
    refine ⟨(j+1,k,n+100),⟨show j+1≤is.length by omega,by dsimp only;omega,show m+1≤n+100 by omega,by rw [hdr];exact Cc⟩,by show is.length - (j+1)<is.length - j;omega,Ac ?_ (A6.cons ?_ (A6.base hf ?_)) (by dsimp only;omega)⟩
    .simp (disch:=omega) only [Aa,At j (by omega),At k (by omega),go_sem]
    .simp (disch:=omega) only [Aa,go_sem]
    .simp (disch:=omega) only [Aa,go_sem]
   .simp only [Bool.not_true,Bool.false_and] at Cc
    subst Cc
    simp (disch:=omega) only [Aa,d,eg,Ag (Ab A7 ex),ei,Bool.not_false,zlc,zle,List.drop_succ_cons,List.drop_zero,List.take_succ_cons,zlr,Option.map_some,Option.map_none,Option.isSome_some,Option.isSome_none,Option.getD_some,List.getD_cons_zero,List.getD_cons_succ,and_self,Bp,true_and,A7,BC,go_sem]
    try (have BO:m≤n:=by omega;(simp (disch:=omega) only [Aa,BO,go_sem]))
end Go.Proofs.YtgfidgoefioigaaGreatDoor
