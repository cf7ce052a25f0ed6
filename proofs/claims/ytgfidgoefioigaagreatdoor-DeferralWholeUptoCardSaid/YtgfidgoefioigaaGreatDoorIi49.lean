/- Proof. Conditions: none. -/
import Derived.Test.YtgfidgoefioigaaGreatDoorIi48
open Go.Proofs.Tryz
open List renaming mem_of_getElem?→zla,length_cons→zlc,length_append→zld,length_nil→zle,append_assoc→zlf,nil_append→zli,take_length→zlj,take_of_length_le→zlk,length_take→zlo
open Nat renaming le_refl→zna
namespace Go.Proofs.YtgfidgoefioigaaGreatDoor
open Go.Eng
set_option linter.all false
set_option maxRecDepth 20000
set_option maxHeartbeats 1000000
noncomputable def Rp (doc:List Az) (tn:ByteArray) (tw:List Int) (v:Ak):Ak × Int:=by
 classical
 exact if h:∃R:Ak × Int,∀(hp:CH) (n:Nat),Ah prog 135 hp n [B5 doc,DC tn tw,vx v,.ag [.i .i64 0,.i .i64 0,.s ⟨#[]⟩,.e0,.e0]] (.tp [vx R.1,.i .i64 R.2]) then Classical.choose h else (AB,0)
theorem Xi (doc:List Az) (hd:DocB doc) (tn:ByteArray) (tw:List Int) (v:Ak) (Fk:tw.length≤1000000000) (hv:v.Fit) (hr:v.Rng) (hp:CH) (n:Nat):Ah prog 135 hp n [B5 doc,DC tn tw,vx v,.ag [.i .i64 0,.i .i64 0,.s ⟨#[]⟩,.e0,.e0]] (.tp [vx (Rp doc tn tw v).1,.i .i64 (Rp doc tn tw v).2]):=by
 have h2:=Li doc hd tn tw v Fk hv hr
 unfold Rp
 rw [dif_pos h2]
 exact Classical.choose_spec h2 hp n
noncomputable def Jg (doc:List Az) (b e:ByteArray) (x:B6):List C6:=if x.has=true∧(Rp doc x.tn x.tw x.d).2≠0 then [.mk 23 (b++x.n++e)] else []
theorem GM (doc:List Az) (b e:ByteArray) (x:B6):(Jg doc b e x).length≤1:=by
 unfold Jg
 split<;>simp
theorem Gs (doc:List Az) (hd:DocB doc) (is:List B6) (Md:is.length≤16) (Ij:∀x∈is,Gt x∧x.n.size≤64) (pl op en:ByteArray) (h1:pl.size≤1000) (h2:op.size≤1000) (h3:en.size≤1000) (hp:CH) (m:Nat):Ah prog 89 hp m [B5 doc,.ds (Ad A7 is),.s pl,.s op,.s en] (.ds (Ad AK (is.flatMap (Jg doc (pl++op) en)))):=by
 obtain ⟨RR,AD⟩:∃RR,is.flatMap (Jg doc (pl++op) en)=RR:=⟨_,rfl⟩
 rw [AD]
 refine Am func89 (by kernel_rfl) cc89 cr89 rfl fun hf=>?_;unfold ck89
 simp (disch:=omega) only [Aa,go_sem]
 refine loop (fun p:OI=>match p with
  | .mk j g L n=>⟨[(1,.ds (Ad A7 is)),(2,.s pl),(3,.s op),(4,.s en),(5,.bx m 0),(11,.rw (m+1) g L.length),(12,.i .i64 j)],(m+1,.rw g 2 (Ad AK L))::(m,.bx [.ds (Ad BB doc)])::hp,n⟩)
  (fun p=>match p with | .mk j g L n=>j≤is.length∧m+2≤n∧L=(is.take j).flatMap (Jg doc (pl++op) en)) (fun p=>match p with | .mk j g L n=>is.length - j) (.mk 0 0 [] (m+2)) ?_ ?_ (fun p hj=>?_)
 .exact ⟨Nat.zero_le _,zna _,by simp⟩
 .dsimp only
  refine (B0 (t:=11) (m:=2) (by (simp (disch:=omega) only [Aa,go_sem]))).trans (Ac ?_ (Ae.sub (Ae.cons ?_ (Ae.cons ?_ (Ae.base hf fun a ha hax=>?_)))) (zna _))
  .simp (disch:=omega) only [Aa,go_sem]
  .simp (disch:=omega) only [Aa,go_sem]
   try rfl
  .simp (disch:=omega) only [Aa,go_sem]
  .repeat rw [Aq _ _ (by omega)]
 obtain ⟨j,g,L,n⟩:=p
 obtain ⟨Cm,Ba,Aw⟩:=hj
 have Cb:(Ad AK L).length=L.length:=Ax _ _
 have GF:=BU (GM doc (pl++op) en) (is.take j)
 have SU:L.length≤16:=by rw [Aw];rw [zlo] at GF;omega
 have BO:m≤n:=by omega
 dsimp only
 simp (disch:=omega) only [Aa,go_sem]
 refine Ai (fun q=>?_) (fun q=>?_)
 case' refine_2 =>
  have q:j=is.length:=by simp at q;omega
  subst q
  rw [zlj,AD] at Aw
  subst Aw
  simp (disch:=omega) only [Aa,BO,Cb,zna,go_sem]
 have q:j<is.length:=by simpa using q
 obtain ⟨x,ex⟩:∃x,is[j]?=some x:=⟨is[j],by simp [q]⟩
 obtain ⟨⟨x1,⟨x2,x3⟩,x4⟩,x5⟩:=Ij x (zla ex)
 have hL:=Xi doc hd x.tn x.tw x.d x1 x2 x3
 have hA:Jg doc (pl++op) en x=if x.has=true∧(Rp doc x.tn x.tw x.d).2≠0 then [.mk 23 (pl++op++x.n++en)] else []:=rfl
 obtain ⟨R,hR⟩:∃R,Rp doc x.tn x.tw x.d=R:=⟨_,rfl⟩
 rw [hR] at hL hA
 simp (disch:=omega) only [Aa,q,Ag (Ab A7 ex),go_sem]
 have u1:¬n+16=m:=by omega
 have y1:pl.size+op.size≤9223372036854775807:=by omega
 have y2:pl.size+(op.size+x.n.size)≤9223372036854775807:=by omega
 have y3:pl.size+(op.size+(x.n.size+en.size))≤9223372036854775807:=by omega
 have k1:(L.length+1)*24≤140737488355328:=by omega
 have k2:L.length≤9223372036854775806:=by omega
 refine Ai (fun w=>?_) (fun w=>?_)
 .have w:x.has=false:=by simpa using w
  rw [if_neg (by simp [w])] at hA
  simp (disch:=omega) only [Aa,go_sem]
  refine ⟨.mk (j+1) (g) (L) (n+80),⟨show j+1≤is.length by omega,show m+2≤n+80 by omega,?_⟩,by show is.length - (j+1)<is.length - j;omega,?_⟩
  .show _=_
   rw [Bj ex,hA,Aw]
   try simp
  dsimp only
  refine Ac ?_ (Ae.sub (Ae.cons ?_ (Ae.cons ?_ (Ae.base hf fun a ha hax=>?_)))) (by omega)
  .simp (disch:=omega) only [Aa,At j (by omega),zld,zlc,zle,go_sem]
   try simp [Nat.add_assoc]
  .simp (disch:=omega) only [Aa,Au,Ar,zlf,go_sem]
   try simp [zlf]
  .simp (disch:=omega) only [Aa,go_sem]
  .repeat rw [Aq _ _ (by omega)]
 .have w:x.has=true:=by simpa using w
  simp (disch:=omega) only [Aa,q,Ag (Ab A7 ex),go_sem]
  refine A3.f (fun _ _ _=>hL _ _) ?_
  by_cases w2:R.2=0
  .rw [if_neg (by simp [w2])] at hA
   simp (disch:=omega) only [Aa,q,Ag (Ab A7 ex),decide_eq_true w2,go_sem]
   refine ⟨u1,?_⟩
   refine ⟨.mk (j+1) (g) (L) (n+80),⟨show j+1≤is.length by omega,show m+2≤n+80 by omega,?_⟩,by show is.length - (j+1)<is.length - j;omega,?_⟩
   .show _=_
    rw [Bj ex,hA,Aw]
    try simp
   dsimp only
   refine Ac ?_ (Ae.sub (Ae.cons ?_ (Ae.cons ?_ (Ae.base hf fun a ha hax=>?_)))) (by omega)
   .simp (disch:=omega) only [Aa,At j (by omega),zld,zlc,zle,go_sem]
    try simp [Nat.add_assoc]
   .simp (disch:=omega) only [Aa,Au,Ar,zlf,go_sem]
    try simp [zlf]
   .simp (disch:=omega) only [Aa,go_sem]
   .repeat rw [Aq _ _ (by omega)]
  .rw [if_pos ⟨w,w2⟩] at hA
   simp (disch:=omega) only [Aa,q,Ag (Ab A7 ex),decide_eq_false w2,Cb,k1,k2,y1,y2,y3,Ar,true_and,go_sem]
   refine ⟨u1,?_⟩
   refine ⟨.mk (j+1) (g+1) (L++[.mk 23 (pl++op++x.n++en)]) (n+80),⟨show j+1≤is.length by omega,show m+2≤n+80 by omega,?_⟩,by show is.length - (j+1)<is.length - j;omega,?_⟩
   .show _=_
    rw [Bj ex,hA,Aw]
    try simp
   dsimp only
   refine Ac ?_ (Ae.sub (Ae.cons ?_ (Ae.cons ?_ (Ae.base hf fun a ha hax=>?_)))) (by omega)
   .simp (disch:=omega) only [Aa,At j (by omega),zld,zlc,zle,go_sem]
    try simp [Nat.add_assoc]
   .simp (disch:=omega) only [Aa,Au,Ar,zlf,go_sem]
    try simp [zlf]
   .simp (disch:=omega) only [Aa,go_sem]
   .repeat rw [Aq _ _ (by omega)]
set_option maxHeartbeats 600000
noncomputable def OQ (doc:List Az) (t:Az) (f:Cd):List C6:=(AZ f.args).flatMap (Jg doc (t.n++⟨#[46]⟩++f.n++⟨#[40]⟩) ⟨#[41]⟩)
noncomputable def Jl (doc:List Az) (t:Az):List C6:=t.fields.flatMap (OQ doc t)++(AZ t.inputs).flatMap (Jg doc (t.n++⟨#[46]⟩) ⟨#[]⟩)
theorem IT (doc:List Az) (t:Az) (f:Cd):(OQ doc t f).length≤16:=Nat.le_trans (BU (GM doc _ _) _) (CE _)
theorem Uc {doc:List Az} {t:Az} (ht:DfnB t):(Jl doc t).length≤1040:=by
 unfold Jl
 have h1:=DM (IT doc t) t.fields
 have h2:=BU (GM doc (t.n++⟨#[46]⟩) ⟨#[]⟩) (AZ t.inputs)
 have h3:=CE t.inputs
 have h4:=ht.fl
 rw [zld]
 omega
theorem Jr {doc:List Az}:∀l:List Az,(∀t∈l,DfnB t)→(l.flatMap (Jl doc)).length≤l.length*1040
 | [],_=>by simp
 | t::l,h=>by
  have h1:=Uc (doc:=doc) (h t (List.mem_cons_self ..))
  have h2:=Jr (doc:=doc) l fun t ht=>h t (List.mem_cons_of_mem _ ht)
  rw [List.flatMap_cons,zld,zlc,Nat.add_mul]
  omega
theorem Jo (doc:List Az) (hd:DocB doc) (hp:CH) (m:Nat):Ah prog 45 hp m [B5 doc] (.ds (Ad AK (doc.flatMap (Jl doc)))):=by
 have FH:=hd.l
 obtain ⟨RR,AD⟩:∃RR,doc.flatMap (Jl doc)=RR:=⟨_,rfl⟩
 rw [AD]
 refine Am func45 (by kernel_rfl) cc45 cr45 rfl fun hf=>?_;unfold ck45
 simp (disch:=omega) only [Aa,go_sem]
 refine loop (fun p:OI=>match p with
  | .mk j g L n=>⟨[(1,.bx m 0),(3,.rw (m+1) g L.length),(4,.i .i64 j)],(m+1,.rw g 2 (Ad AK L))::(m,.bx [.ds (Ad BB doc)])::hp,n⟩)
  (fun p=>match p with | .mk j g L n=>j≤doc.length∧m+2≤n∧L=(doc.take j).flatMap (Jl doc)) (fun p=>match p with | .mk j g L n=>doc.length - j) (.mk 0 0 [] (m+2)) ?_ ?_ (fun p hj=>?_)
 .exact ⟨Nat.zero_le _,zna _,by simp⟩
 .dsimp only
  refine (B0 (t:=3) (m:=2) (by (simp (disch:=omega) only [Aa,go_sem]))).trans (Ac ?_ (Ae.sub (Ae.cons ?_ (Ae.cons ?_ (Ae.base hf fun a ha hax=>?_)))) (zna _))
  .simp (disch:=omega) only [Aa,go_sem]
  .simp (disch:=omega) only [Aa,go_sem]
   try rfl
  .simp (disch:=omega) only [Aa,go_sem]
  .repeat rw [Aq _ _ (by omega)]
 obtain ⟨j,g,L,n⟩:=p
 obtain ⟨Cm,Ba,Aw⟩:=hj
 have Cb:(Ad AK L).length=L.length:=Ax _ _
 have GF:=Jr (doc:=doc) (doc.take j) (fun t ht=>hd.d t (List.mem_of_mem_take ht))
 have SU:L.length≤66560:=by rw [Aw];rw [zlo] at GF;omega
 have BO:m≤n:=by omega
 dsimp only
 simp (disch:=omega) only [Aa,go_sem]
 refine Ai (fun q=>?_) (fun q=>?_)
 case' refine_2 =>
  have q:j=doc.length:=by simp at q;omega
  subst q
  rw [zlj,AD] at Aw
  subst Aw
  simp (disch:=omega) only [Aa,BO,Cb,zna,go_sem]
 have q:j<doc.length:=by simpa using q
 obtain ⟨t,et⟩:∃x,doc[j]?=some x:=⟨doc[j],by simp [q]⟩
 have ht:=hd.d t (zla et)
 simp (disch:=omega) only [Aa,q,Ag (Ab BB et),go_sem]
 have htn:=ht.n
 have Dj:=Bj (A:=Jl doc) et
 refine loop (fun p:OI=>match p with
  | .mk i g' L' n'=>⟨[(1,.bx m 0),(3,.rw (m+1) g' L'.length),(4,.i .i64 j),(5,.bx n 0),(6,.i .i64 i)],(m+1,.rw g' 2 (Ad AK L'))::(n,.bx [.i .i64 t.k,.s t.n,.ds t.impl,.ds t.dirs,.ds (Ad Bq t.fields),.ds t.members,.ds t.inputs])::(m,.bx [.ds (Ad BB doc)])::hp,n'⟩)
  (fun p=>match p with | .mk i g' L' n'=>i≤t.fields.length∧n+1≤n'∧L'=L++(t.fields.take i).flatMap (OQ doc t)) (fun p=>match p with | .mk i g' L' n'=>t.fields.length - i) (.mk 0 g L (n+20)) ?_ ?_ (fun p hi=>?_)
 .exact ⟨Nat.zero_le _,show n+1≤n+20 by omega,by simp⟩
 .dsimp only
  refine Ac ?_ (Ae.sub (Ae.cons ?_ (Ae.cons ?_ (Ae.cons ?_ (Ae.base hf fun a ha hax=>?_))))) (by omega)
  .simp (disch:=omega) only [Aa,go_sem]
  .simp (disch:=omega) only [Aa,go_sem]
  .simp (disch:=omega) only [Aa,go_sem]
  .simp (disch:=omega) only [Aa,go_sem]
  .repeat rw [Aq _ _ (by omega)]
 obtain ⟨i,g',L',n'⟩:=p
 obtain ⟨Md,Ij,Ex⟩:=hi
 have hLl':(Ad AK L').length=L'.length:=Ax _ _
 have hfl':=DM (IT doc t) (t.fields.take i)
 have hf4:=ht.fl
 have hLn':L'.length≤67600:=by rw [Ex,zld];rw [zlo] at hfl';omega
 dsimp only
 simp (disch:=omega) only [Aa,go_sem]
 refine Ai (fun q2=>?_) (fun q2=>?_)
 .have q2:i<t.fields.length:=by simpa using q2
  obtain ⟨f,ef⟩:∃y,t.fields[i]?=some y:=⟨t.fields[i],by simp [q2]⟩
  have On:=ht.f f (zla ef)
  obtain ⟨fa1,fa2,fa3⟩:=B9 On.a
  have hfn:=On.n
  have z1:(t.n++⟨#[46]⟩++f.n:ByteArray).size≤1000:=by rw [ByteArray.size_append,ByteArray.size_append];show t.n.size+1+f.n.size≤1000;omega
  have hR:=Gs doc hd (AZ f.args) fa2 fa3 (t.n++⟨#[46]⟩++f.n) ⟨#[40]⟩ ⟨#[41]⟩ z1 (by decide) (by decide)
  rw [←fa1] at hR
  have hSn:=Bj (A:=OQ doc t) ef
  have hRl:=IT doc t f
  have hE:(AZ f.args).flatMap (Jg doc (t.n++⟨#[46]⟩++f.n++⟨#[40]⟩) ⟨#[41]⟩)=OQ doc t f:=rfl
  rw [hE] at hR
  obtain ⟨F,hF⟩:∃F,OQ doc t f=F:=⟨_,rfl⟩
  rw [hF] at hR hRl hSn
  have z2:t.n.size+(#[46]:Array UInt8).size≤9223372036854775807:=by show t.n.size+1≤9223372036854775807;omega
  have z3:t.n.size+((#[46]:Array UInt8).size+f.n.size)≤9223372036854775807:=by show t.n.size+(1+f.n.size)≤9223372036854775807;omega
  have k3:(L'.length+F.length)*24≤140737488355328:=by omega
  have k4:L'.length+F.length≤9223372036854775807:=by omega
  have Db:(Ad AK F).length=F.length:=Ax _ _
  simp (disch:=omega) only [Aa,q2,Ag (Ab Bq ef),z2,z3,true_and,go_sem]
  refine A3.f (fun _ _ _=>hR _ _) ?_
  simp (disch:=omega) only [Aa,q2,Ag (Ab Bq ef),hLl',Db,k3,k4,Au,true_and,go_sem]
  refine ⟨.mk (i+1) (g'+1) (L'++F) (n'+100),⟨show i+1≤t.fields.length by omega,show n+1≤n'+100 by omega,?_⟩,by show t.fields.length - (i+1)<t.fields.length - i;omega,?_⟩
  .show _=_
   rw [hSn,Ex,zlf]
  dsimp only
  refine Ac ?_ (Ae.sub (Ae.cons ?_ (Ae.cons ?_ (Ae.cons ?_ (Ae.base hf fun a ha hax=>?_))))) (by omega)
  .simp (disch:=omega) only [Aa,At i (by omega),zld,zlc,zle,go_sem]
  .simp (disch:=omega) only [Aa,go_sem]
  .simp (disch:=omega) only [Aa,go_sem]
  .simp (disch:=omega) only [Aa,go_sem]
  .repeat rw [Aq _ _ (by omega)]
 have q2:i=t.fields.length:=by simp at q2;omega
 subst q2
 rw [zlj] at Ex
 obtain ⟨fa1,fa2,fa3⟩:=B9 ht.i
 have hR:=Gs doc hd (AZ t.inputs) fa2 fa3 t.n ⟨#[46]⟩ ⟨#[]⟩ (by omega) (by decide) (by decide)
 rw [←fa1] at hR
 have hRl:=BU (GM doc (t.n++⟨#[46]⟩) ⟨#[]⟩) (AZ t.inputs)
 have Dj:(doc.take (j+1)).flatMap (Jl doc)=(doc.take j).flatMap (Jl doc)++(t.fields.flatMap (OQ doc t)++(AZ t.inputs).flatMap (Jg doc (t.n++⟨#[46]⟩) ⟨#[]⟩)):=Dj
 obtain ⟨F,hF⟩:∃F,(AZ t.inputs).flatMap (Jg doc (t.n++⟨#[46]⟩) ⟨#[]⟩)=F:=⟨_,rfl⟩
 rw [hF] at hR hRl Dj
 have k3:(L'.length+F.length)*24≤140737488355328:=by omega
 have k4:L'.length+F.length≤9223372036854775807:=by omega
 have Db:(Ad AK F).length=F.length:=Ax _ _
 simp (disch:=omega) only [Aa,go_sem]
 refine Af.f (hR _ _) ?_
 simp (disch:=omega) only [Aa,hLl',Db,k3,k4,Au,true_and,go_sem]
 refine ⟨.mk (j+1) (g'+1) (L'++F) (n'+100),⟨show j+1≤doc.length by omega,show m+2≤n'+100 by omega,?_⟩,by show doc.length - (j+1)<doc.length - j;omega,?_⟩
 .show _=_
  rw [Dj,Ex,Aw,zlf]
 dsimp only
 refine Ac ?_ (Ae.sub (Ae.cons ?_ (Ae.cons ?_ (Ae.base hf fun a ha hax=>?_)))) (by omega)
 .simp (disch:=omega) only [Aa,At j (by omega),zld,zlc,zle,go_sem]
 .simp (disch:=omega) only [Aa,go_sem]
 .simp (disch:=omega) only [Aa,go_sem]
 .repeat rw [Aq _ _ (by omega)]
set_option maxHeartbeats 2000000
theorem whK {x:Nat} (h:x≤2):x≤9223372036854775804∧(x+1)*24≤140737488355328∧x≤9223372036854775806∧(x+1+1)*24≤140737488355328∧x+1≤9223372036854775806∧(x+1+1+1)*24≤140737488355328∧x+1+1≤9223372036854775806∧(x+2)*24≤140737488355328∧x≤9223372036854775805∧(x+3)*24≤140737488355328:=by omega
inductive WhS
 | mk (b:Bool) (j:Nat) (n:Nat)
theorem Xn (nm:ByteArray) (bad before:Bool) (at':ByteArray) (hp:CH) (m:Nat):AQ prog 124 hp m [.s nm,.b bad,.b before,.s at'] ((m,.rw 0 2 (Ad AK (Ff nm bad before at')))::hp) (m+1) (.rw m 0 (Ff nm bad before at').length):=by
 obtain ⟨ab,ST⟩:∃b,Vc nm=b:=⟨_,rfl⟩
 have hA:=I6 nm
 obtain ⟨F,hF⟩:∃F,Ff nm bad before at'=F:=⟨_,rfl⟩
 rw [hF]
 unfold Ff at hF
 rw [ST] at hA hF
 refine Fy (outs:=[(2,Ad AK F)]) func124 (by kernel_rfl) cc124 cr124 rfl fun hf=>?_;unfold ck124
 simp only [go_sem]
 refine AA.f (fun _=>hA _ _) ?_
 cases bad<;>cases ab<;>cases before<;>simp at hF<;>subst hF
 all_goals
  simp (disch:=omega) only [Aa,go_sem]
  try simp [Ad,AK]
def Yq (doc:List Az) (nm:ByteArray) (j:Nat):Bool:=Ck nm||decide (nm∈(doc.take j).map Az.n)
theorem U6 {doc:List Az} {nm:ByteArray} {j:Nat} {x:Az} (e:doc[j]?=some x):Yq doc nm (j+1)=(Yq doc nm j||decide (x.n=nm)):=by
 unfold Yq
 rw [←Bg e,Bool.or_assoc,List.map_append]
 congr 1
 rw [Bool.eq_iff_iff]
 simp
 constructor
 .rintro (h | h)
  .exact .inl h
  .exact .inr h.symm
 .rintro (h | h)
  .exact .inl h
  .exact .inr h.symm
def rtK (t:Az):Bool:=(decide (t.n=⟨#[81,117,101,114,121]⟩)||decide (t.n=⟨#[77,117,116,97,116,105,111,110]⟩)||decide (t.n=⟨#[83,117,98,115,99,114,105,112,116,105,111,110]⟩))&&!decide (t.k=1)||decide (t.k<1)||decide (5<t.k)
noncomputable def Rz (doc:List Az) (t:Az) (j:Nat):List C6 :=
 Ff t.n false (Yq doc t.n j) t.n++(if ON t=true then [.mk 8 t.n] else [])++(if rtK t=true then [.mk 9 t.n] else [])++(if VE doc t=true then [.mk 5 t.n] else [])
theorem MI (doc:List Az) (t:Az) (j:Nat):(Rz doc t j).length≤5:=by
 unfold Rz
 have h1:=DU t.n false (Yq doc t.n j) t.n
 rw [zld,zld,zld]
 split<;>split<;>split<;>simp only [zlc,zle]<;>omega
theorem Ul (doc:List Az) (hd:DocB doc) (i:Nat) (t:Az) (et:doc[i]?=some t) (hp:CH) (m:Nat):GS 83 hp m [B5 doc,.i .i64 i] (Rz doc t i):=by
 obtain ⟨RR,AD⟩:∃RR,Rz doc t i=RR:=⟨_,rfl⟩
 rw [AD]
 unfold Rz at AD
 have FH:=hd.l
 have hmt:=zla et
 have ht:=hd.d t hmt
 have SR:i<doc.length:=(List.getElem?_eq_some_iff.1 et).1
 refine ER (fun l:List C6=>l=RR) (fun _=>[]) (fun l=>.ds (Ad AK l)) func83 (by kernel_rfl) cc83 cr83 rfl (fun hf i hi=>trivial) fun hf=>?_
 unfold ck83
 simp (disch:=omega) only [Aa,SR,Ag (Ab BB et),go_sem]
 refine Af.f (Ds _ _ _) ?_
 simp (disch:=omega) only [Aa,go_sem]
 refine loop (fun p:WhS=>match p with
  | .mk b j n=>⟨[(1,.i .i64 i),(2,.bx m 0),(5,.bx (m+1) 0),(6,.b b),(7,.i .i64 j)],(m,.bx [.ds (Ad BB doc)])::(m+1,.bx [.i .i64 t.k,.s t.n,.ds t.impl,.ds t.dirs,.ds (Ad Bq t.fields),.ds t.members,.ds t.inputs])::hp,n⟩)
  (fun p=>match p with | .mk b j n=>j≤i∧m+2≤n∧b=Yq doc t.n j) (fun p=>match p with | .mk b j n=>i - j) (.mk (Ck t.n) 0 (m+2)) ?_ ?_ (fun p hj=>?_)
 .exact ⟨Nat.zero_le _,zna _,by simp [Yq]⟩
 .dsimp only
  refine Ac ?_ (A6.cons ?_ (A6.cons ?_ (A6.base hf ?_))) (zna _)
  all_goals (simp (disch:=omega) only [Aa,go_sem])
 obtain ⟨b,j,n⟩:=p
 obtain ⟨Cm,Ba,Aw⟩:=hj
 dsimp only
 simp (disch:=omega) only [Aa,go_sem]
 refine Ai (fun q=>?_) (fun q=>?_)
 .have q:j<i:=by simp at q;omega
  have q3:j<doc.length:=by omega
  obtain ⟨x,ex⟩:∃x,doc[j]?=some x:=⟨doc[j],by simp [q3]⟩
  have eg:(Ad BB doc)[j]?=some [AV.i .i64 x.k,.s x.n,.ds x.impl,.ds x.dirs,.ds (Ad Bq x.fields),.ds x.members,.ds x.inputs]:=Ab BB ex
  have hbs:=U6 (nm:=t.n) ex
  rw [←Aw] at hbs
  clear Aw
  cases b with
  | true =>
   simp (disch:=omega) only [Aa,q3,eg,Ag (Ab BB ex),zlc,zle,List.drop_succ_cons,List.drop_zero,List.take_succ_cons,List.take_zero,Option.map_some,Option.isSome_some,and_self,go_sem]
   refine ⟨.mk true (j+1) (n+100),⟨show j+1≤i by omega,show m+2≤n+100 by omega,by rw [hbs];first | rfl | simp⟩,by show i - (j+1)<i - j;omega,?_⟩
   dsimp only
   refine Ac ?_ (A6.cons ?_ (A6.cons ?_ (A6.base hf ?_))) (by omega)
   all_goals
    simp (disch:=omega) only [Aa,At j (by omega),go_sem]
  | false =>
   simp (disch:=omega) only [Aa,q3,eg,Ag (Ab BB ex),zlc,zle,List.drop_succ_cons,List.drop_zero,List.take_succ_cons,List.take_zero,Option.map_some,Option.isSome_some,and_self,go_sem]
   refine ⟨.mk (decide (x.n=t.n)) (j+1) (n+100),⟨show j+1≤i by omega,show m+2≤n+100 by omega,by rw [hbs];first | rfl | simp⟩,by show i - (j+1)<i - j;omega,?_⟩
   dsimp only
   refine Ac ?_ (A6.cons ?_ (A6.cons ?_ (A6.base hf ?_))) (by omega)
   all_goals
    simp (disch:=omega) only [Aa,At j (by omega),go_sem]
 .have q:j=i:=by simp at q;omega
  subst q
  rw [←Aw] at AD
  simp (disch:=omega) only [Aa,go_sem]
  refine Af.x (Xn _ _ _ _ _ _) ?_
  have LV:=DU t.n false b t.n
  obtain ⟨F1,hF⟩:∃F,Ff t.n false b t.n=F:=⟨_,rfl⟩
  rw [hF] at LV AD ⊢
  clear hF
  have BO:m≤n:=by omega
  simp (disch:=omega) only [Aa,go_sem]
  have Db:(Ad AK F1).length=F1.length:=Ax _ _
  obtain ⟨k0,k1,k2,k3,k4,k5,k6,k7,k8,k9⟩:=whK LV
  have kl1:∀a:List C6,(Ad AK a).length=a.length:=fun a=>Ax _ _
  refine Af.f (UW t _ _) ?_
  cases hE:ON t with
  | false =>
   rw [hE,if_neg (by decide),List.append_nil] at AD
   simp (disch:=omega) only [Aa,go_sem]
   refine Ai (fun c=>?_) (fun c=>?_)
   .rw [if_pos (show rtK t=true from c)] at AD
    simp (disch:=omega) only [Aa,Db,kl1,zld,zlc,zle,Au,Ar,k0,k1,k2,k3,k4,k5,k6,k7,k8,k9,true_and,go_sem]
    refine Af.r (Er doc hd t ht.i _ _) ?_
    rintro Ao n'' r ⟨cb,hcb,e1,e2,e3⟩
    rw [←hcb] at AD
    subst e1
    subst e2
    subst e3
    simp only [zli]
    cases cb with
    | false =>
     rw [if_neg (by decide),List.append_nil] at AD
     simp (disch:=omega) only [Aa,Db,kl1,zld,zlc,zle,Au,Ar,k0,k1,k2,k3,k4,k5,k6,k7,k8,k9,true_and,zna,BO,zlj,go_sem]
     refine BY (F1++[.mk 9 t.n]) (by rw [←AD]) ?_
     simp (disch:=omega) only [Aa,Db,kl1,zld,zlc,zle,Au,Ar,k0,k1,k2,k3,k4,k5,k6,k7,k8,k9,true_and,zna,BO,zlj,go_sem]
     first | done | rfl | exact congrArg (fun x=>AV.ds (Ad AK x)) (zlk (by simp))
    | true =>
     rw [if_pos rfl] at AD
     simp (disch:=omega) only [Aa,Db,kl1,zld,zlc,zle,Au,Ar,k0,k1,k2,k3,k4,k5,k6,k7,k8,k9,true_and,zna,BO,zlj,go_sem]
     refine BY (F1++[.mk 9 t.n]++[.mk 5 t.n]) (by rw [←AD]) ?_
     simp (disch:=omega) only [Aa,Db,kl1,zld,zlc,zle,Au,Ar,k0,k1,k2,k3,k4,k5,k6,k7,k8,k9,true_and,zna,BO,zlj,go_sem]
     first | done | rfl | exact congrArg (fun x=>AV.ds (Ad AK x)) (zlk (by simp))
   .rw [if_neg (by rw [show rtK t=false from c];decide),List.append_nil] at AD
    simp (disch:=omega) only [Aa,go_sem]
    refine Af.r (Er doc hd t ht.i _ _) ?_
    rintro Ao n'' r ⟨cb,hcb,e1,e2,e3⟩
    rw [←hcb] at AD
    subst e1
    subst e2
    subst e3
    simp only [zli]
    cases cb with
    | false =>
     rw [if_neg (by decide),List.append_nil] at AD
     simp (disch:=omega) only [Aa,Db,kl1,zld,zlc,zle,Au,Ar,k0,k1,k2,k3,k4,k5,k6,k7,k8,k9,true_and,zna,BO,zlj,go_sem]
     refine BY (F1) (by rw [←AD]) ?_
     simp (disch:=omega) only [Aa,Db,kl1,zld,zlc,zle,Au,Ar,k0,k1,k2,k3,k4,k5,k6,k7,k8,k9,true_and,zna,BO,zlj,go_sem]
     first | done | rfl | exact congrArg (fun x=>AV.ds (Ad AK x)) (zlk (by simp))
    | true =>
     rw [if_pos rfl] at AD
     simp (disch:=omega) only [Aa,Db,kl1,zld,zlc,zle,Au,Ar,k0,k1,k2,k3,k4,k5,k6,k7,k8,k9,true_and,zna,BO,zlj,go_sem]
     refine BY (F1++[.mk 5 t.n]) (by rw [←AD]) ?_
     simp (disch:=omega) only [Aa,Db,kl1,zld,zlc,zle,Au,Ar,k0,k1,k2,k3,k4,k5,k6,k7,k8,k9,true_and,zna,BO,zlj,go_sem]
     first | done | rfl | exact congrArg (fun x=>AV.ds (Ad AK x)) (zlk (by simp))
  | true =>
   rw [hE,if_pos rfl] at AD
   simp (disch:=omega) only [Aa,Db,kl1,zld,zlc,zle,Au,Ar,k0,k1,k2,k3,k4,k5,k6,k7,k8,k9,true_and,go_sem]
   refine Ai (fun c=>?_) (fun c=>?_)
   .rw [if_pos (show rtK t=true from c)] at AD
    simp (disch:=omega) only [Aa,Db,kl1,zld,zlc,zle,Au,Ar,k0,k1,k2,k3,k4,k5,k6,k7,k8,k9,true_and,go_sem]
    refine Af.r (Er doc hd t ht.i _ _) ?_
    rintro Ao n'' r ⟨cb,hcb,e1,e2,e3⟩
    rw [←hcb] at AD
    subst e1
    subst e2
    subst e3
    simp only [zli]
    cases cb with
    | false =>
     rw [if_neg (by decide),List.append_nil] at AD
     simp (disch:=omega) only [Aa,Db,kl1,zld,zlc,zle,Au,Ar,k0,k1,k2,k3,k4,k5,k6,k7,k8,k9,true_and,zna,BO,zlj,go_sem]
     refine BY (F1++[.mk 8 t.n]++[.mk 9 t.n]) (by rw [←AD]) ?_
     simp (disch:=omega) only [Aa,Db,kl1,zld,zlc,zle,Au,Ar,k0,k1,k2,k3,k4,k5,k6,k7,k8,k9,true_and,zna,BO,zlj,go_sem]
     first | done | rfl | exact congrArg (fun x=>AV.ds (Ad AK x)) (zlk (by simp))
    | true =>
     rw [if_pos rfl] at AD
     simp (disch:=omega) only [Aa,Db,kl1,zld,zlc,zle,Au,Ar,k0,k1,k2,k3,k4,k5,k6,k7,k8,k9,true_and,zna,BO,zlj,go_sem]
     refine BY (F1++[.mk 8 t.n]++[.mk 9 t.n]++[.mk 5 t.n]) (by rw [←AD]) ?_
     simp (disch:=omega) only [Aa,Db,kl1,zld,zlc,zle,Au,Ar,k0,k1,k2,k3,k4,k5,k6,k7,k8,k9,true_and,zna,BO,zlj,go_sem]
     first | done | rfl | exact congrArg (fun x=>AV.ds (Ad AK x)) (zlk (by simp))
   .rw [if_neg (by rw [show rtK t=false from c];decide),List.append_nil] at AD
    simp (disch:=omega) only [Aa,Db,kl1,zld,zlc,zle,Au,Ar,k0,k1,k2,k3,k4,k5,k6,k7,k8,k9,true_and,go_sem]
    refine Af.r (Er doc hd t ht.i _ _) ?_
    rintro Ao n'' r ⟨cb,hcb,e1,e2,e3⟩
    rw [←hcb] at AD
    subst e1
    subst e2
    subst e3
    simp only [zli]
    cases cb with
    | false =>
     rw [if_neg (by decide),List.append_nil] at AD
     simp (disch:=omega) only [Aa,Db,kl1,zld,zlc,zle,Au,Ar,k0,k1,k2,k3,k4,k5,k6,k7,k8,k9,true_and,zna,BO,zlj,go_sem]
     refine BY (F1++[.mk 8 t.n]) (by rw [←AD]) ?_
     simp (disch:=omega) only [Aa,Db,kl1,zld,zlc,zle,Au,Ar,k0,k1,k2,k3,k4,k5,k6,k7,k8,k9,true_and,zna,BO,zlj,go_sem]
     first | done | rfl | exact congrArg (fun x=>AV.ds (Ad AK x)) (zlk (by simp))
    | true =>
     rw [if_pos rfl] at AD
     simp (disch:=omega) only [Aa,Db,kl1,zld,zlc,zle,Au,Ar,k0,k1,k2,k3,k4,k5,k6,k7,k8,k9,true_and,zna,BO,zlj,go_sem]
     refine BY (F1++[.mk 8 t.n]++[.mk 5 t.n]) (by rw [←AD]) ?_
     simp (disch:=omega) only [Aa,Db,kl1,zld,zlc,zle,Au,Ar,k0,k1,k2,k3,k4,k5,k6,k7,k8,k9,true_and,zna,BO,zlj,go_sem]
     first | done | rfl | exact congrArg (fun x=>AV.ds (Ad AK x)) (zlk (by simp))
end Go.Proofs.YtgfidgoefioigaaGreatDoor
