/- Proof. Conditions: none. -/
import Derived.Test.YtgfidgoefioigaaGreatDoorIk50
noncomputable section
open List renaming drop_succ_cons->za,take_succ_cons->z8,append_nil->zj
open Option renaming map_some->z7,isSome_some->zb
open Nat renaming zero_le->zw,add_assoc->ze
open ByteArray renaming size_append->z25
open Go.Proofs.Tryz
open List renaming mem_of_getElem?->zla,length_cons->zlc,length_append->zld,length_nil->zle,append_assoc->zlf,nil_append->zli,take_length->zlj,take_of_length_le->zlk,length_take->zlo
open Nat renaming le_refl->zna
namespace Go.Proofs.YtgfidgoefioigaaGreatDoor
open Go.Eng
set_option linter.all false
set_option maxRecDepth 20000
set_option maxHeartbeats 1000000
def Us (doc:List Av) (tn:qB) (tw:List Int) (v:Ag):Ag×Int:=by
 classical
 exact if h:∃R:Ag×Int,∀(hp:CH) (n:Nat),Ae prog 135 hp n [B9 doc,DW tn tw,vx v,.ag [.i .i64 0,.i .i64 0,.s ⟨#[]⟩,.e0,.e0]] (.tp [vx R.1,.i .i64 R.2]) then Classical.choose h else (A8,0)
theorem ZS (doc:List Av) (hd:DocB doc) (tn:qB) (tw:List Int) (v:Ag) (FQ:tw.length<=1000000000) (hv:v.Fit) (hr:v.Rng) (hp:CH) (n:Nat):Ae prog 135 hp n [B9 doc,DW tn tw,vx v,.ag [.i .i64 0,.i .i64 0,.s ⟨#[]⟩,.e0,.e0]] (.tp [vx (Us doc tn tw v).1,.i .i64 (Us doc tn tw v).2]):=by
 have h2:=MN doc hd tn tw v FQ hv hr
 unfold Us
 rw [dif_pos h2]
 exact Classical.choose_spec h2 hp n
def Kf (doc:List Av) (b e:qB) (x:BG):List Da:=if x.has=true∧(Us doc x.tn x.tw x.d).2≠0 then [.mk 23 (b++x.n++e)] else []
theorem HU (doc:List Av) (b e:qB) (x:BG):(Kf doc b e x).length<=1:=by
 unfold Kf
 split<;>simp
theorem Hj (doc:List Av) (hd:DocB doc) (is:List BG) (NN:is.length<=16) (Is:∀x∈is,Hi x∧x.n.size<=64) (pl op en:qB) (h1:pl.size<=1000) (h2:op.size<=1000) (h3:en.size<=1000) (hp:CH) (m:Nat):Ae prog 89 hp m [B9 doc,.ds (Ab AD is),.s pl,.s op,.s en] (.ds (Ab AM (is.flatMap (Kf doc (pl++op) en)))):=by
 obtain ⟨RR,AC⟩:=A7 (is.flatMap (Kf doc (pl++op) en))
 rw [AC]
 refine Al func89 (tA cc89) (tB cc89) (tC cc89) rfl fun hf=>?_;unfold ck89
 simp (disch:=omega) only [go_sem]
 refine loop (fun p:R1=>match p with
  | .mk j g L n=>⟨[(1,.ds (Ab AD is)),(2,.s pl),(3,.s op),(4,.s en),(5,.bx m 0),(11,.rw (m+1) g L.length),(12,.i .i64 j)],(m+1,.rw g 2 (Ab AM L))::(m,.bx [.ds (Ab BB doc)])::hp,n⟩)
  (fun p=>match p with | .mk j g L n=>j<=is.length∧m+2<=n∧L=(is.take j).flatMap (Kf doc (pl++op) en)) (fun p=>match p with | .mk j g L n=>is.length - j) (.mk 0 0 [] (m+2)) ?_ ?_ (fun p hj=>?_)
 .exact ⟨zw _,zna _,by simp⟩
 .dsimp only
  refine (By (t:=11) (m:=2) (by (simp (disch:=omega) only [go_sem]))).trans (Lt hf ?_ ?_ ?_ (fun a ha d5=>?_) (zna _))
  .simp (disch:=omega) only [go_sem]
  .simp (disch:=omega) only [go_sem]
   try rfl
  .simp (disch:=omega) only [go_sem]
  .repeat rw [Ak _ _ (by omega)]
 obtain ⟨j,g,L,n⟩:=p
 obtain ⟨Cq,Be,At⟩:=hj
 have Ck:(Ab AM L).length=L.length:=As _ _
 have Hf:=Cc (HU doc (pl++op) en) (is.take j)
 have Ve:L.length<=16:=by rw [At];rw [zlo] at Hf;omega
 have BD:m<=n:=by omega
 dsimp only
 simp (disch:=omega) only [go_sem]
 refine Af (fun q=>?_) (fun q=>?_)
 case' refine_2=>
  have q:j=is.length:=by simp at q;omega
  subst q
  rw [zlj,AC] at At
  subst At
  simp (disch:=omega) only [BD,Ck,zna,go_sem]
 have q:j<is.length:=by simpa using q
 obtain ⟨x,ex⟩:∃x,is[j]?=some x:=⟨is[j],by simp [q]⟩
 obtain ⟨⟨x1,⟨x2,x3⟩,x4⟩,x5⟩:=Is x (zla ex)
 have hL:=ZS doc hd x.tn x.tw x.d x1 x2 x3
 have hA:Kf doc (pl++op) en x=if x.has=true∧(Us doc x.tn x.tw x.d).2≠0 then [.mk 23 (pl++op++x.n++en)] else []:=rfl
 obtain ⟨R,hR⟩:=A7 (Us doc x.tn x.tw x.d)
 rw [hR] at hL hA
 simp (disch:=omega) only [q,Ad (Aa AD ex),go_sem]
 have u1:¬n+16=m:=by omega
 have y1:pl.size+op.size<=9223372036854775807:=by omega
 have y2:pl.size+(op.size+x.n.size)<=9223372036854775807:=by omega
 have y3:pl.size+(op.size+(x.n.size+en.size))<=9223372036854775807:=by omega
 have k1:(L.length+1)*24<=140737488355328:=by omega
 have k2:L.length<=9223372036854775806:=by omega
 refine Af (fun w=>?_) (fun w=>?_)
 .have w:x.has=false:=by simpa using w
  rw [iN (by simp [w])] at hA
  simp (disch:=omega) only [go_sem]
  refine ⟨.mk (j+1) (g) (L) (n+80),⟨show j+1<=is.length by omega,show m+2<=n+80 by omega,?_⟩,by show is.length - (j+1)<is.length - j;omega,?_⟩
  .show _=_
   rw [Bo ex,hA,At]
   try simp
  dsimp only
  refine Lt hf ?_ ?_ ?_ (fun a ha d5=>?_) (by omega)
  .simp (disch:=omega) only [Ao j (by omega),zld,zlc,zle,go_sem]
   try simp [ze]
  .simp (disch:=omega) only [Ax,Aq,zlf,go_sem]
   try simp [zlf]
  .simp (disch:=omega) only [go_sem]
  .repeat rw [Ak _ _ (by omega)]
 .have w:x.has=true:=by simpa using w
  simp (disch:=omega) only [q,Ad (Aa AD ex),go_sem]
  refine Au.f (fun _ _ _=>hL _ _) ?_
  by_cases w2:R.2=0
  .rw [iN (by simp [w2])] at hA
   simp (disch:=omega) only [q,Ad (Aa AD ex),dT w2,go_sem]
   refine ⟨u1,?_⟩
   refine ⟨.mk (j+1) (g) (L) (n+80),⟨show j+1<=is.length by omega,show m+2<=n+80 by omega,?_⟩,by show is.length - (j+1)<is.length - j;omega,?_⟩
   .show _=_
    rw [Bo ex,hA,At]
    try simp
   dsimp only
   refine Lt hf ?_ ?_ ?_ (fun a ha d5=>?_) (by omega)
   .simp (disch:=omega) only [Ao j (by omega),zld,zlc,zle,go_sem]
    try simp [ze]
   .simp (disch:=omega) only [Ax,Aq,zlf,go_sem]
    try simp [zlf]
   .simp (disch:=omega) only [go_sem]
   .repeat rw [Ak _ _ (by omega)]
  .rw [iP ⟨w,w2⟩] at hA
   simp (disch:=omega) only [q,Ad (Aa AD ex),dF w2,Ck,k1,k2,y1,y2,y3,Aq,true_and,go_sem]
   refine ⟨u1,?_⟩
   refine ⟨.mk (j+1) (g+1) (L++[.mk 23 (pl++op++x.n++en)]) (n+80),⟨show j+1<=is.length by omega,show m+2<=n+80 by omega,?_⟩,by show is.length - (j+1)<is.length - j;omega,?_⟩
   .show _=_
    rw [Bo ex,hA,At]
    try simp
   dsimp only
   refine Lt hf ?_ ?_ ?_ (fun a ha d5=>?_) (by omega)
   .simp (disch:=omega) only [Ao j (by omega),zld,zlc,zle,go_sem]
    try simp [ze]
   .simp (disch:=omega) only [Ax,Aq,zlf,go_sem]
    try simp [zlf]
   .simp (disch:=omega) only [go_sem]
   .repeat rw [Ak _ _ (by omega)]
set_option maxHeartbeats 600000
def QP (doc:List Av) (t:Av) (f:Cr):List Da:=(Bl f.args).flatMap (Kf doc (t.n++⟨#[46]⟩++f.n++⟨#[40]⟩) ⟨#[41]⟩)
def Kn (doc:List Av) (t:Av):List Da:=t.fields.flatMap (QP doc t)++(Bl t.inputs).flatMap (Kf doc (t.n++⟨#[46]⟩) ⟨#[]⟩)
theorem Ld (doc:List Av) (t:Av) (f:Cr):(QP doc t f).length<=16:=Nat.le_trans (Cc (HU doc _ _) _) (Dl _)
theorem XH {doc:List Av} {t:Av} (ht:DfnB t):(Kn doc t).length<=1040:=by
 unfold Kn
 have h1:=El (Ld doc t) t.fields
 have h2:=Cc (HU doc (t.n++⟨#[46]⟩) ⟨#[]⟩) (Bl t.inputs)
 have h3:=Dl t.inputs
 have h4:=ht.fl
 rw [zld]
 omega
theorem Kv {doc:List Av}:∀l:List Av,(∀t∈l,DfnB t)->(l.flatMap (Kn doc)).length<=l.length*1040
 | [],_=>by simp
 |t::l,h=>by
  have h1:=XH (doc:=doc) (h t (List.mem_cons_self ..))
  have h2:=Kv (doc:=doc) l fun t ht=>h t (List.mem_cons_of_mem _ ht)
  rw [List.flatMap_cons,zld,zlc,Nat.add_mul]
  omega
theorem JM (doc:List Av) (hd:DocB doc) (hp:CH) (m:Nat):Ae prog 45 hp m [B9 doc] (.ds (Ab AM (doc.flatMap (Kn doc)))):=by
 have GB:=hd.l
 obtain ⟨RR,AC⟩:=A7 (doc.flatMap (Kn doc))
 rw [AC]
 refine Al func45 (tA cc45) (tB cc45) (tC cc45) rfl fun hf=>?_;unfold ck45
 simp (disch:=omega) only [go_sem]
 refine loop (fun p:R1=>match p with
  | .mk j g L n=>⟨[(1,.bx m 0),(3,.rw (m+1) g L.length),(4,.i .i64 j)],(m+1,.rw g 2 (Ab AM L))::(m,.bx [.ds (Ab BB doc)])::hp,n⟩)
  (fun p=>match p with | .mk j g L n=>j<=doc.length∧m+2<=n∧L=(doc.take j).flatMap (Kn doc)) (fun p=>match p with | .mk j g L n=>doc.length - j) (.mk 0 0 [] (m+2)) ?_ ?_ (fun p hj=>?_)
 .exact ⟨zw _,zna _,by simp⟩
 .dsimp only
  refine (By (t:=3) (m:=2) (by (simp (disch:=omega) only [go_sem]))).trans (Lt hf ?_ ?_ ?_ (fun a ha d5=>?_) (zna _))
  .simp (disch:=omega) only [go_sem]
  .simp (disch:=omega) only [go_sem]
   try rfl
  .simp (disch:=omega) only [go_sem]
  .repeat rw [Ak _ _ (by omega)]
 obtain ⟨j,g,L,n⟩:=p
 obtain ⟨Cq,Be,At⟩:=hj
 have Ck:(Ab AM L).length=L.length:=As _ _
 have Hf:=Kv (doc:=doc) (doc.take j) (fun t ht=>hd.d t (List.mem_of_mem_take ht))
 have Ve:L.length<=66560:=by rw [At];rw [zlo] at Hf;omega
 have BD:m<=n:=by omega
 dsimp only
 simp (disch:=omega) only [go_sem]
 refine Af (fun q=>?_) (fun q=>?_)
 case' refine_2=>
  have q:j=doc.length:=by simp at q;omega
  subst q
  rw [zlj,AC] at At
  subst At
  simp (disch:=omega) only [BD,Ck,zna,go_sem]
 have q:j<doc.length:=by simpa using q
 obtain ⟨t,et⟩:∃x,doc[j]?=some x:=⟨doc[j],by simp [q]⟩
 have ht:=hd.d t (zla et)
 simp (disch:=omega) only [q,Ad (Aa BB et),go_sem]
 have htn:=ht.n
 have D6:=Bo (A:=Kn doc) et
 refine loop (fun p:R1=>match p with
  | .mk i g' L' n'=>⟨[(1,.bx m 0),(3,.rw (m+1) g' L'.length),(4,.i .i64 j),(5,.bx n 0),(6,.i .i64 i)],(m+1,.rw g' 2 (Ab AM L'))::(n,.bx [.i .i64 t.k,.s t.n,.ds t.impl,.ds t.dirs,.ds (Ab Bu t.fields),.ds t.members,.ds t.inputs])::(m,.bx [.ds (Ab BB doc)])::hp,n'⟩)
  (fun p=>match p with | .mk i g' L' n'=>i<=t.fields.length∧n+1<=n'∧L'=L++(t.fields.take i).flatMap (QP doc t)) (fun p=>match p with | .mk i g' L' n'=>t.fields.length - i) (.mk 0 g L (n+20)) ?_ ?_ (fun p hi=>?_)
 .exact ⟨zw _,show n+1<=n+20 by omega,by simp⟩
 .dsimp only
  refine EU hf ?_ ?_ ?_ ?_ (fun a ha d5=>?_) (by omega)
  .simp (disch:=omega) only [go_sem]
  .simp (disch:=omega) only [go_sem]
  .simp (disch:=omega) only [go_sem]
  .simp (disch:=omega) only [go_sem]
  .repeat rw [Ak _ _ (by omega)]
 obtain ⟨i,g',L',n'⟩:=p
 obtain ⟨NN,Is,Ed⟩:=hi
 have hLl':(Ab AM L').length=L'.length:=As _ _
 have hfl':=El (Ld doc t) (t.fields.take i)
 have hf4:=ht.fl
 have hLn':L'.length<=67600:=by rw [Ed,zld];rw [zlo] at hfl';omega
 dsimp only
 simp (disch:=omega) only [go_sem]
 refine Af (fun q2=>?_) (fun q2=>?_)
 .have q2:i<t.fields.length:=by simpa using q2
  obtain ⟨f,ef⟩:∃y,t.fields[i]?=some y:=⟨t.fields[i],by simp [q2]⟩
  have QA:=ht.f f (zla ef)
  obtain ⟨fa1,fa2,fa3⟩:=BH QA.a
  have hfn:=QA.n
  have z1:(t.n++⟨#[46]⟩++f.n:qB).size<=1000:=by rw [z25,z25];show t.n.size+1+f.n.size<=1000;omega
  have hR:=Hj doc hd (Bl f.args) fa2 fa3 (t.n++⟨#[46]⟩++f.n) ⟨#[40]⟩ ⟨#[41]⟩ z1 (by decide) (by decide)
  rw [<-fa1] at hR
  have hSn:=Bo (A:=QP doc t) ef
  have hRl:=Ld doc t f
  have hE:(Bl f.args).flatMap (Kf doc (t.n++⟨#[46]⟩++f.n++⟨#[40]⟩) ⟨#[41]⟩)=QP doc t f:=rfl
  rw [hE] at hR
  obtain ⟨F,hF⟩:=A7 (QP doc t f)
  rw [hF] at hR hRl hSn
  have z2:t.n.size+(#[46]:Array UInt8).size<=9223372036854775807:=by show t.n.size+1<=9223372036854775807;omega
  have z3:t.n.size+((#[46]:Array UInt8).size+f.n.size)<=9223372036854775807:=by show t.n.size+(1+f.n.size)<=9223372036854775807;omega
  have k3:(L'.length+F.length)*24<=140737488355328:=by omega
  have k4:L'.length+F.length<=9223372036854775807:=by omega
  have Dz:(Ab AM F).length=F.length:=As _ _
  simp (disch:=omega) only [q2,Ad (Aa Bu ef),z2,z3,true_and,go_sem]
  refine Au.f (fun _ _ _=>hR _ _) ?_
  simp (disch:=omega) only [q2,Ad (Aa Bu ef),hLl',Dz,k3,k4,Ax,true_and,go_sem]
  refine ⟨.mk (i+1) (g'+1) (L'++F) (n'+100),⟨show i+1<=t.fields.length by omega,show n+1<=n'+100 by omega,?_⟩,by show t.fields.length - (i+1)<t.fields.length - i;omega,?_⟩
  .show _=_
   rw [hSn,Ed,zlf]
  dsimp only
  refine EU hf ?_ ?_ ?_ ?_ (fun a ha d5=>?_) (by omega)
  .simp (disch:=omega) only [Ao i (by omega),zld,zlc,zle,go_sem]
  .simp (disch:=omega) only [go_sem]
  .simp (disch:=omega) only [go_sem]
  .simp (disch:=omega) only [go_sem]
  .repeat rw [Ak _ _ (by omega)]
 have q2:i=t.fields.length:=by simp at q2;omega
 subst q2
 rw [zlj] at Ed
 obtain ⟨fa1,fa2,fa3⟩:=BH ht.i
 have hR:=Hj doc hd (Bl t.inputs) fa2 fa3 t.n ⟨#[46]⟩ ⟨#[]⟩ (by omega) (by decide) (by decide)
 rw [<-fa1] at hR
 have hRl:=Cc (HU doc (t.n++⟨#[46]⟩) ⟨#[]⟩) (Bl t.inputs)
 have D6:(doc.take (j+1)).flatMap (Kn doc)=(doc.take j).flatMap (Kn doc)++(t.fields.flatMap (QP doc t)++(Bl t.inputs).flatMap (Kf doc (t.n++⟨#[46]⟩) ⟨#[]⟩)):=D6
 obtain ⟨F,hF⟩:=A7 ((Bl t.inputs).flatMap (Kf doc (t.n++⟨#[46]⟩) ⟨#[]⟩))
 rw [hF] at hR hRl D6
 have k3:(L'.length+F.length)*24<=140737488355328:=by omega
 have k4:L'.length+F.length<=9223372036854775807:=by omega
 have Dz:(Ab AM F).length=F.length:=As _ _
 simp (disch:=omega) only [go_sem]
 refine Ac.f (hR _ _) ?_
 simp (disch:=omega) only [hLl',Dz,k3,k4,Ax,true_and,go_sem]
 refine ⟨.mk (j+1) (g'+1) (L'++F) (n'+100),⟨show j+1<=doc.length by omega,show m+2<=n'+100 by omega,?_⟩,by show doc.length - (j+1)<doc.length - j;omega,?_⟩
 .show _=_
  rw [D6,Ed,At,zlf]
 dsimp only
 refine Lt hf ?_ ?_ ?_ (fun a ha d5=>?_) (by omega)
 .simp (disch:=omega) only [Ao j (by omega),zld,zlc,zle,go_sem]
 .simp (disch:=omega) only [go_sem]
 .simp (disch:=omega) only [go_sem]
 .repeat rw [Ak _ _ (by omega)]
set_option maxHeartbeats 2000000
theorem whK {x:Nat} (h:x<=2):x<=9223372036854775804∧(x+1)*24<=140737488355328∧x<=9223372036854775806∧(x+1+1)*24<=140737488355328∧x+1<=9223372036854775806∧(x+1+1+1)*24<=140737488355328∧x+1+1<=9223372036854775806∧(x+2)*24<=140737488355328∧x<=9223372036854775805∧(x+3)*24<=140737488355328:=by omega
inductive WhS
 | mk (b:Bool) (j:Nat) (n:Nat)
theorem ZW (nm:qB) (s8 e8:Bool) (j7:qB) (hp:CH) (m:Nat):AO prog 124 hp m [.s nm,.b s8,.b e8,.s j7] ((m,.rw 0 2 (Ab AM (F7 nm s8 e8 j7)))::hp) (m+1) (.rw m 0 (F7 nm s8 e8 j7).length):=by
 obtain ⟨ab,Vs⟩:=A7 (Yj nm)
 have hA:=JU nm
 obtain ⟨F,hF⟩:=A7 (F7 nm s8 e8 j7)
 rw [hF]
 unfold F7 at hF
 rw [Vs] at hA hF
 refine E4 (outs:=[(2,Ab AM F)]) func124 (tA cc124) (tB cc124) (tC cc124) rfl fun hf=>?_;unfold ck124
 simp only [go_sem]
 refine AH.f (fun _=>hA _ _) ?_
 cases s8<;>cases ab<;>cases e8<;>simp at hF<;>subst hF
 all_goals
  simp (disch:=omega) only [go_sem]
  try simp [Ab,AM]
def bfD (doc:List Av) (nm:qB) (j:Nat):Bool:=BV nm||decide (nm∈(doc.take j).map Av.n)
theorem Wt {doc:List Av} {nm:qB} {j:Nat} {x:Av} (e:doc[j]?=some x):bfD doc nm (j+1)=(bfD doc nm j||decide (x.n=nm)):=by
 unfold bfD
 rw [<-Bc e,Bool.or_assoc,List.map_append]
 congr 1
 rw [Bool.eq_iff_iff]
 simp
 constructor
 .rintro (h | h)
  .exact .inl h
  .exact .inr h.symm
 .rintro (h | h)
  .exact .inl h
  .exact .inr h.symm
def rtK (t:Av):Bool:=(decide (t.n=⟨#[81,117,101,114,121]⟩)||decide (t.n=⟨#[77,117,116,97,116,105,111,110]⟩)||decide (t.n=⟨#[83,117,98,115,99,114,105,112,116,105,111,110]⟩))&&!decide (t.k=1)||decide (t.k<1)||decide (5<t.k)
def QJ (doc:List Av) (t:Av) (j:Nat):List Da :=
 F7 t.n false (bfD doc t.n j) t.n++(if QB t=true then [.mk 8 t.n] else [])++(if rtK t=true then [.mk 9 t.n] else [])++(if ZU doc t=true then [.mk 5 t.n] else [])
theorem Qt (doc:List Av) (t:Av) (j:Nat):(QJ doc t j).length<=5:=by
 unfold QJ
 have h1:=Ey t.n false (bfD doc t.n j) t.n
 rw [zld,zld,zld]
 split<;>split<;>split<;>simp only [zlc,zle]<;>omega
theorem WH (doc:List Av) (hd:DocB doc) (i:Nat) (t:Av) (et:doc[i]?=some t) (hp:CH) (m:Nat):Ie 83 hp m [B9 doc,.i .i64 i] (QJ doc t i):=by
 obtain ⟨RR,AC⟩:=A7 (QJ doc t i)
 rw [AC]
 unfold QJ at AC
 have GB:=hd.l
 have hmt:=zla et
 have ht:=hd.d t hmt
 have Vt:i<doc.length:=(List.getElem?_eq_some_iff.1 et).1
 refine F4 (fun l:List Da=>l=RR) (fun _=>[]) (fun l=>.ds (Ab AM l)) func83 (tA cc83) (tB cc83) (tC cc83) rfl (fun hf i hi=>trivial) fun hf=>?_
 unfold ck83
 simp (disch:=omega) only [Vt,Ad (Aa BB et),go_sem]
 refine Ac.f (DE _ _ _) ?_
 simp (disch:=omega) only [go_sem]
 refine loop (fun p:WhS=>match p with
  | .mk b j n=>⟨[(1,.i .i64 i),(2,.bx m 0),(5,.bx (m+1) 0),(6,.b b),(7,.i .i64 j)],(m,.bx [.ds (Ab BB doc)])::(m+1,.bx [.i .i64 t.k,.s t.n,.ds t.impl,.ds t.dirs,.ds (Ab Bu t.fields),.ds t.members,.ds t.inputs])::hp,n⟩)
  (fun p=>match p with | .mk b j n=>j<=i∧m+2<=n∧b=bfD doc t.n j) (fun p=>match p with | .mk b j n=>i - j) (.mk (BV t.n) 0 (m+2)) ?_ ?_ (fun p hj=>?_)
 .exact ⟨zw _,zna _,by simp [bfD]⟩
 .dsimp only
  refine ID hf ?_ ?_ ?_ ?_ (zna _)
  all_goals (simp (disch:=omega) only [go_sem])
 obtain ⟨b,j,n⟩:=p
 obtain ⟨Cq,Be,At⟩:=hj
 dsimp only
 simp (disch:=omega) only [go_sem]
 refine Af (fun q=>?_) (fun q=>?_)
 .have q:j<i:=by simp at q;omega
  have q3:j<doc.length:=by omega
  obtain ⟨x,ex⟩:∃x,doc[j]?=some x:=⟨doc[j],by simp [q3]⟩
  have eg:(Ab BB doc)[j]?=some [AV.i .i64 x.k,.s x.n,.ds x.impl,.ds x.dirs,.ds (Ab Bu x.fields),.ds x.members,.ds x.inputs]:=Aa BB ex
  have y5:=Wt (nm:=t.n) ex
  rw [<-At] at y5
  clear At
  cases b with
  |true=>
   simp (disch:=omega) only [q3,eg,Ad (Aa BB ex),zlc,zle,za,List.drop_zero,z8,List.take_zero,z7,zb,and_self,go_sem]
   refine ⟨.mk true (j+1) (n+100),⟨show j+1<=i by omega,show m+2<=n+100 by omega,by rw [y5];first | rfl | simp⟩,by show i - (j+1)<i - j;omega,?_⟩
   dsimp only
   refine ID hf ?_ ?_ ?_ ?_ (by omega)
   all_goals
    simp (disch:=omega) only [Ao j (by omega),go_sem]
  |false=>
   simp (disch:=omega) only [q3,eg,Ad (Aa BB ex),zlc,zle,za,List.drop_zero,z8,List.take_zero,z7,zb,and_self,go_sem]
   refine ⟨.mk (decide (x.n=t.n)) (j+1) (n+100),⟨show j+1<=i by omega,show m+2<=n+100 by omega,by rw [y5];first | rfl | simp⟩,by show i - (j+1)<i - j;omega,?_⟩
   dsimp only
   refine ID hf ?_ ?_ ?_ ?_ (by omega)
   all_goals
    simp (disch:=omega) only [Ao j (by omega),go_sem]
 .have q:j=i:=by simp at q;omega
  subst q
  rw [<-At] at AC
  simp (disch:=omega) only [go_sem]
  refine Ac.x (ZW _ _ _ _ _ _) ?_
  have NO:=Ey t.n false b t.n
  obtain ⟨F1,hF⟩:=A7 (F7 t.n false b t.n)
  rw [hF] at NO AC ⊢
  clear hF
  have BD:m<=n:=by omega
  simp (disch:=omega) only [go_sem]
  have Dz:(Ab AM F1).length=F1.length:=As _ _
  obtain ⟨k0,k1,k2,k3,k4,k5,k6,k7,k8,k9⟩:=whK NO
  have p9:∀a:List Da,(Ab AM a).length=a.length:=fun a=>As _ _
  refine Ac.f (X0 t _ _) ?_
  cases hE:QB t with
  |false=>
   rw [hE,iN (by decide),zj] at AC
   simp (disch:=omega) only [go_sem]
   refine Af (fun c=>?_) (fun c=>?_)
   .rw [iP (show rtK t=true from c)] at AC
    simp (disch:=omega) only [Dz,p9,zld,zlc,zle,Ax,Aq,k0,k1,k2,k3,k4,k5,k6,k7,k8,k9,true_and,go_sem]
    refine Ac.r (EQ doc hd t ht.i _ _) ?_
    rintro Am n4 r ⟨cb,hcb,e1,e2,e3⟩
    rw [<-hcb] at AC
    subst e1
    subst e2
    subst e3
    simp only [zli]
    cases cb with
    |false=>
     rw [iN (by decide),zj] at AC
     simp (disch:=omega) only [Dz,p9,zld,zlc,zle,Ax,Aq,k0,k1,k2,k3,k4,k5,k6,k7,k8,k9,true_and,zna,BD,zlj,go_sem]
     refine Co (F1++[.mk 9 t.n]) (by rw [<-AC]) ?_
     simp (disch:=omega) only [Dz,p9,zld,zlc,zle,Ax,Aq,k0,k1,k2,k3,k4,k5,k6,k7,k8,k9,true_and,zna,BD,zlj,go_sem]
     first | done | rfl | exact congrArg (fun x=>AV.ds (Ab AM x)) (zlk (by simp))
    |true=>
     rw [iP rfl] at AC
     simp (disch:=omega) only [Dz,p9,zld,zlc,zle,Ax,Aq,k0,k1,k2,k3,k4,k5,k6,k7,k8,k9,true_and,zna,BD,zlj,go_sem]
     refine Co (F1++[.mk 9 t.n]++[.mk 5 t.n]) (by rw [<-AC]) ?_
     simp (disch:=omega) only [Dz,p9,zld,zlc,zle,Ax,Aq,k0,k1,k2,k3,k4,k5,k6,k7,k8,k9,true_and,zna,BD,zlj,go_sem]
     first | done | rfl | exact congrArg (fun x=>AV.ds (Ab AM x)) (zlk (by simp))
   .rw [iN (by rw [show rtK t=false from c];decide),zj] at AC
    simp (disch:=omega) only [go_sem]
    refine Ac.r (EQ doc hd t ht.i _ _) ?_
    rintro Am n4 r ⟨cb,hcb,e1,e2,e3⟩
    rw [<-hcb] at AC
    subst e1
    subst e2
    subst e3
    simp only [zli]
    cases cb with
    |false=>
     rw [iN (by decide),zj] at AC
     simp (disch:=omega) only [Dz,p9,zld,zlc,zle,Ax,Aq,k0,k1,k2,k3,k4,k5,k6,k7,k8,k9,true_and,zna,BD,zlj,go_sem]
     refine Co (F1) (by rw [<-AC]) ?_
     simp (disch:=omega) only [Dz,p9,zld,zlc,zle,Ax,Aq,k0,k1,k2,k3,k4,k5,k6,k7,k8,k9,true_and,zna,BD,zlj,go_sem]
     first | done | rfl | exact congrArg (fun x=>AV.ds (Ab AM x)) (zlk (by simp))
    |true=>
     rw [iP rfl] at AC
     simp (disch:=omega) only [Dz,p9,zld,zlc,zle,Ax,Aq,k0,k1,k2,k3,k4,k5,k6,k7,k8,k9,true_and,zna,BD,zlj,go_sem]
     refine Co (F1++[.mk 5 t.n]) (by rw [<-AC]) ?_
     simp (disch:=omega) only [Dz,p9,zld,zlc,zle,Ax,Aq,k0,k1,k2,k3,k4,k5,k6,k7,k8,k9,true_and,zna,BD,zlj,go_sem]
     first | done | rfl | exact congrArg (fun x=>AV.ds (Ab AM x)) (zlk (by simp))
  |true=>
   rw [hE,iP rfl] at AC
   simp (disch:=omega) only [Dz,p9,zld,zlc,zle,Ax,Aq,k0,k1,k2,k3,k4,k5,k6,k7,k8,k9,true_and,go_sem]
   refine Af (fun c=>?_) (fun c=>?_)
   .rw [iP (show rtK t=true from c)] at AC
    simp (disch:=omega) only [Dz,p9,zld,zlc,zle,Ax,Aq,k0,k1,k2,k3,k4,k5,k6,k7,k8,k9,true_and,go_sem]
    refine Ac.r (EQ doc hd t ht.i _ _) ?_
    rintro Am n4 r ⟨cb,hcb,e1,e2,e3⟩
    rw [<-hcb] at AC
    subst e1
    subst e2
    subst e3
    simp only [zli]
    cases cb with
    |false=>
     rw [iN (by decide),zj] at AC
     simp (disch:=omega) only [Dz,p9,zld,zlc,zle,Ax,Aq,k0,k1,k2,k3,k4,k5,k6,k7,k8,k9,true_and,zna,BD,zlj,go_sem]
     refine Co (F1++[.mk 8 t.n]++[.mk 9 t.n]) (by rw [<-AC]) ?_
     simp (disch:=omega) only [Dz,p9,zld,zlc,zle,Ax,Aq,k0,k1,k2,k3,k4,k5,k6,k7,k8,k9,true_and,zna,BD,zlj,go_sem]
     first | done | rfl | exact congrArg (fun x=>AV.ds (Ab AM x)) (zlk (by simp))
    |true=>
     rw [iP rfl] at AC
     simp (disch:=omega) only [Dz,p9,zld,zlc,zle,Ax,Aq,k0,k1,k2,k3,k4,k5,k6,k7,k8,k9,true_and,zna,BD,zlj,go_sem]
     refine Co (F1++[.mk 8 t.n]++[.mk 9 t.n]++[.mk 5 t.n]) (by rw [<-AC]) ?_
     simp (disch:=omega) only [Dz,p9,zld,zlc,zle,Ax,Aq,k0,k1,k2,k3,k4,k5,k6,k7,k8,k9,true_and,zna,BD,zlj,go_sem]
     first | done | rfl | exact congrArg (fun x=>AV.ds (Ab AM x)) (zlk (by simp))
   .rw [iN (by rw [show rtK t=false from c];decide),zj] at AC
    simp (disch:=omega) only [Dz,p9,zld,zlc,zle,Ax,Aq,k0,k1,k2,k3,k4,k5,k6,k7,k8,k9,true_and,go_sem]
    refine Ac.r (EQ doc hd t ht.i _ _) ?_
    rintro Am n4 r ⟨cb,hcb,e1,e2,e3⟩
    rw [<-hcb] at AC
    subst e1
    subst e2
    subst e3
    simp only [zli]
    cases cb with
    |false=>
     rw [iN (by decide),zj] at AC
     simp (disch:=omega) only [Dz,p9,zld,zlc,zle,Ax,Aq,k0,k1,k2,k3,k4,k5,k6,k7,k8,k9,true_and,zna,BD,zlj,go_sem]
     refine Co (F1++[.mk 8 t.n]) (by rw [<-AC]) ?_
     simp (disch:=omega) only [Dz,p9,zld,zlc,zle,Ax,Aq,k0,k1,k2,k3,k4,k5,k6,k7,k8,k9,true_and,zna,BD,zlj,go_sem]
     first | done | rfl | exact congrArg (fun x=>AV.ds (Ab AM x)) (zlk (by simp))
    |true=>
     rw [iP rfl] at AC
     simp (disch:=omega) only [Dz,p9,zld,zlc,zle,Ax,Aq,k0,k1,k2,k3,k4,k5,k6,k7,k8,k9,true_and,zna,BD,zlj,go_sem]
     refine Co (F1++[.mk 8 t.n]++[.mk 5 t.n]) (by rw [<-AC]) ?_
     simp (disch:=omega) only [Dz,p9,zld,zlc,zle,Ax,Aq,k0,k1,k2,k3,k4,k5,k6,k7,k8,k9,true_and,zna,BD,zlj,go_sem]
     first | done | rfl | exact congrArg (fun x=>AV.ds (Ab AM x)) (zlk (by simp))
