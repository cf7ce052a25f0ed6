/- Proof. Conditions: none. -/
import Derived.Test.YtgfidgoefioigaaGreatDoorIj50
noncomputable section
open List renaming drop_succ_cons->za,take_succ_cons->z7,append_nil->zg
open Option renaming map_some->z8,isSome_some->zb
open Nat renaming zero_le->zt,add_assoc->zd
open ByteArray renaming size_append->z24
open Go.Proofs.Tryz
open List renaming mem_of_getElem?->zla,length_cons->zlc,length_append->zld,length_nil->zle,append_assoc->zlf,nil_append->zli,take_length->zlj,take_of_length_le->zlk,length_take->zlo
open Nat renaming le_refl->zna
namespace Go.Proofs.YtgfidgoefioigaaGreatDoor
open Go.Eng
set_option linter.all false
set_option maxRecDepth 20000
set_option maxHeartbeats 1000000
def UJ (doc:List Aw) (tn:qB) (tw:List Int) (v:Ag):Ag×Int:=by
 classical
 exact if h:∃R:Ag×Int,∀(hp:CH) (n:Nat),Af prog 135 hp n [B0 doc,D1 tn tw,vx v,.ag [.i .i64 0,.i .i64 0,.s ⟨#[]⟩,.e0,.e0]] (.tp [vx R.1,.i .i64 R.2]) then Classical.choose h else (A6,0)
theorem Aal (doc:List Aw) (hd:DocB doc) (tn:qB) (tw:List Int) (v:Ag) (DG:tw.length<=1000000000) (hv:v.Fit) (hr:v.Rng) (hp:CH) (n:Nat):Af prog 135 hp n [B0 doc,D1 tn tw,vx v,.ag [.i .i64 0,.i .i64 0,.s ⟨#[]⟩,.e0,.e0]] (.tp [vx (UJ doc tn tw v).1,.i .i64 (UJ doc tn tw v).2]):=by
 have h2:=N4 doc hd tn tw v DG hv hr
 unfold UJ
 rw [dif_pos h2]
 exact Classical.choose_spec h2 hp n
def KN (doc:List Aw) (b e:qB) (x:BN):List Dn:=if x.has=true∧(UJ doc x.tn x.tw x.d).2≠0 then [.mk 23 (b++x.n++e)] else []
theorem Iw (doc:List Aw) (b e:qB) (x:BN):(KN doc b e x).length<=1:=by
 unfold KN
 split<;>simp
theorem H8 (doc:List Aw) (hd:DocB doc) (is:List BN) (LX:is.length<=16) (HG:∀x∈is,H7 x∧x.n.size<=64) (pl op en:qB) (h1:pl.size<=1000) (h2:op.size<=1000) (h3:en.size<=1000) (hp:CH) (m:Nat):Af prog 89 hp m [B0 doc,.ds (Ab AD is),.s pl,.s op,.s en] (.ds (Ab AR (is.flatMap (KN doc (pl++op) en)))):=by
 obtain ⟨RR,A9⟩:=A5 (is.flatMap (KN doc (pl++op) en))
 rw [A9]
 refine Aj func89 (tA cc89) (tB cc89) (tC cc89) rfl fun hf=>?_;unfold ck89
 simp (disch:=omega) only [go_sem]
 refine loop (fun p:RY=>match p with
  | .mk j g L n=>⟨[(1,.ds (Ab AD is)),(2,.s pl),(3,.s op),(4,.s en),(5,.bx m 0),(11,.rw (m+1) g L.length),(12,.i .i64 j)],(m+1,.rw g 2 (Ab AR L))::(m,.bx [.ds (Ab B8 doc)])::hp,n⟩)
  (fun p=>match p with | .mk j g L n=>j<=is.length∧m+2<=n∧L=(is.take j).flatMap (KN doc (pl++op) en)) (fun p=>match p with | .mk j g L n=>is.length - j) (.mk 0 0 [] (m+2)) ?_ ?_ (fun p hj=>?_)
 .exact ⟨zt _,zna _,by simp⟩
 .dsimp only
  refine (Bo (t:=11) (m:=2) (by (simp (disch:=omega) only [go_sem]))).trans (Mb hf ?_ ?_ ?_ (fun a ha c7=>?_) (zna _))
  .simp (disch:=omega) only [go_sem]
  .simp (disch:=omega) only [go_sem]
   try rfl
  .simp (disch:=omega) only [go_sem]
  .repeat rw [Ai _ _ (by omega)]
 obtain ⟨j,g,L,n⟩:=p
 obtain ⟨Cg,Bc,As⟩:=hj
 have BS:(Ab AR L).length=L.length:=Ao _ _
 have Fn:=Cj (Iw doc (pl++op) en) (is.take j)
 have QK:L.length<=16:=by rw [As];rw [zlo] at Fn;omega
 have BC:m<=n:=by omega
 dsimp only
 simp (disch:=omega) only [go_sem]
 refine Ae (fun q=>?_) (fun q=>?_)
 case' refine_2=>
  have q:j=is.length:=by simp at q;omega
  subst q
  rw [zlj,A9] at As
  subst As
  simp (disch:=omega) only [BC,BS,zna,go_sem]
 have q:j<is.length:=by simpa using q
 obtain ⟨x,ex⟩:∃x,is[j]?=some x:=⟨is[j],by simp [q]⟩
 obtain ⟨⟨x1,⟨x2,x3⟩,x4⟩,x5⟩:=HG x (zla ex)
 have hL:=Aal doc hd x.tn x.tw x.d x1 x2 x3
 have hA:KN doc (pl++op) en x=if x.has=true∧(UJ doc x.tn x.tw x.d).2≠0 then [.mk 23 (pl++op++x.n++en)] else []:=rfl
 obtain ⟨R,hR⟩:=A5 (UJ doc x.tn x.tw x.d)
 rw [hR] at hL hA
 simp (disch:=omega) only [q,Ad (Aa AD ex),go_sem]
 have u1:¬n+16=m:=by omega
 have y1:pl.size+op.size<=9223372036854775807:=by omega
 have y2:pl.size+(op.size+x.n.size)<=9223372036854775807:=by omega
 have y3:pl.size+(op.size+(x.n.size+en.size))<=9223372036854775807:=by omega
 have k1:(L.length+1)*24<=140737488355328:=by omega
 have k2:L.length<=9223372036854775806:=by omega
 refine Ae (fun w=>?_) (fun w=>?_)
 .have w:x.has=false:=by simpa using w
  rw [iN (by simp [w])] at hA
  simp (disch:=omega) only [go_sem]
  refine ⟨.mk (j+1) (g) (L) (n+80),⟨show j+1<=is.length by omega,show m+2<=n+80 by omega,?_⟩,by show is.length - (j+1)<is.length - j;omega,?_⟩
  .show _=_
   rw [Bs ex,hA,As]
   try simp
  dsimp only
  refine Mb hf ?_ ?_ ?_ (fun a ha c7=>?_) (by omega)
  .simp (disch:=omega) only [Ap j (by omega),zld,zlc,zle,go_sem]
   try simp [zd]
  .simp (disch:=omega) only [Ay,Av,zlf,go_sem]
   try simp [zlf]
  .simp (disch:=omega) only [go_sem]
  .repeat rw [Ai _ _ (by omega)]
 .have w:x.has=true:=by simpa using w
  simp (disch:=omega) only [q,Ad (Aa AD ex),go_sem]
  refine Aq.f (fun _ _ _=>hL _ _) ?_
  by_cases w2:R.2=0
  .rw [iN (by simp [w2])] at hA
   simp (disch:=omega) only [q,Ad (Aa AD ex),dT w2,go_sem]
   refine ⟨u1,?_⟩
   refine ⟨.mk (j+1) (g) (L) (n+80),⟨show j+1<=is.length by omega,show m+2<=n+80 by omega,?_⟩,by show is.length - (j+1)<is.length - j;omega,?_⟩
   .show _=_
    rw [Bs ex,hA,As]
    try simp
   dsimp only
   refine Mb hf ?_ ?_ ?_ (fun a ha c7=>?_) (by omega)
   .simp (disch:=omega) only [Ap j (by omega),zld,zlc,zle,go_sem]
    try simp [zd]
   .simp (disch:=omega) only [Ay,Av,zlf,go_sem]
    try simp [zlf]
   .simp (disch:=omega) only [go_sem]
   .repeat rw [Ai _ _ (by omega)]
  .rw [iP ⟨w,w2⟩] at hA
   simp (disch:=omega) only [q,Ad (Aa AD ex),dF w2,BS,k1,k2,y1,y2,y3,Av,true_and,go_sem]
   refine ⟨u1,?_⟩
   refine ⟨.mk (j+1) (g+1) (L++[.mk 23 (pl++op++x.n++en)]) (n+80),⟨show j+1<=is.length by omega,show m+2<=n+80 by omega,?_⟩,by show is.length - (j+1)<is.length - j;omega,?_⟩
   .show _=_
    rw [Bs ex,hA,As]
    try simp
   dsimp only
   refine Mb hf ?_ ?_ ?_ (fun a ha c7=>?_) (by omega)
   .simp (disch:=omega) only [Ap j (by omega),zld,zlc,zle,go_sem]
    try simp [zd]
   .simp (disch:=omega) only [Ay,Av,zlf,go_sem]
    try simp [zlf]
   .simp (disch:=omega) only [go_sem]
   .repeat rw [Ai _ _ (by omega)]
set_option maxHeartbeats 600000
def Rn (doc:List Aw) (t:Aw) (f:Cy):List Dn:=(Bm f.args).flatMap (KN doc (t.n++⟨#[46]⟩++f.n++⟨#[40]⟩) ⟨#[41]⟩)
def KY (doc:List Aw) (t:Aw):List Dn:=t.fields.flatMap (Rn doc t)++(Bm t.inputs).flatMap (KN doc (t.n++⟨#[46]⟩) ⟨#[]⟩)
theorem LN (doc:List Aw) (t:Aw) (f:Cy):(Rn doc t f).length<=16:=Nat.le_trans (Cj (Iw doc _ _) _) (Dv _)
theorem Ym {doc:List Aw} {t:Aw} (ht:DfnB t):(KY doc t).length<=1040:=by
 unfold KY
 have h1:=E7 (LN doc t) t.fields
 have h2:=Cj (Iw doc (t.n++⟨#[46]⟩) ⟨#[]⟩) (Bm t.inputs)
 have h3:=Dv t.inputs
 have h4:=ht.fl
 rw [zld]
 omega
theorem Lg {doc:List Aw}:∀l:List Aw,(∀t∈l,DfnB t)->(l.flatMap (KY doc)).length<=l.length*1040
 | [],_=>by simp
 |t::l,h=>by
  have h1:=Ym (doc:=doc) (h t (List.mem_cons_self ..))
  have h2:=Lg (doc:=doc) l fun t ht=>h t (List.mem_cons_of_mem _ ht)
  rw [List.flatMap_cons,zld,zlc,Nat.add_mul]
  omega
theorem K2 (doc:List Aw) (hd:DocB doc) (hp:CH) (m:Nat):Af prog 45 hp m [B0 doc] (.ds (Ab AR (doc.flatMap (KY doc)))):=by
 have G0:=hd.l
 obtain ⟨RR,A9⟩:=A5 (doc.flatMap (KY doc))
 rw [A9]
 refine Aj func45 (tA cc45) (tB cc45) (tC cc45) rfl fun hf=>?_;unfold ck45
 simp (disch:=omega) only [go_sem]
 refine loop (fun p:RY=>match p with
  | .mk j g L n=>⟨[(1,.bx m 0),(3,.rw (m+1) g L.length),(4,.i .i64 j)],(m+1,.rw g 2 (Ab AR L))::(m,.bx [.ds (Ab B8 doc)])::hp,n⟩)
  (fun p=>match p with | .mk j g L n=>j<=doc.length∧m+2<=n∧L=(doc.take j).flatMap (KY doc)) (fun p=>match p with | .mk j g L n=>doc.length - j) (.mk 0 0 [] (m+2)) ?_ ?_ (fun p hj=>?_)
 .exact ⟨zt _,zna _,by simp⟩
 .dsimp only
  refine (Bo (t:=3) (m:=2) (by (simp (disch:=omega) only [go_sem]))).trans (Mb hf ?_ ?_ ?_ (fun a ha c7=>?_) (zna _))
  .simp (disch:=omega) only [go_sem]
  .simp (disch:=omega) only [go_sem]
   try rfl
  .simp (disch:=omega) only [go_sem]
  .repeat rw [Ai _ _ (by omega)]
 obtain ⟨j,g,L,n⟩:=p
 obtain ⟨Cg,Bc,As⟩:=hj
 have BS:(Ab AR L).length=L.length:=Ao _ _
 have Fn:=Lg (doc:=doc) (doc.take j) (fun t ht=>hd.d t (List.mem_of_mem_take ht))
 have QK:L.length<=66560:=by rw [As];rw [zlo] at Fn;omega
 have BC:m<=n:=by omega
 dsimp only
 simp (disch:=omega) only [go_sem]
 refine Ae (fun q=>?_) (fun q=>?_)
 case' refine_2=>
  have q:j=doc.length:=by simp at q;omega
  subst q
  rw [zlj,A9] at As
  subst As
  simp (disch:=omega) only [BC,BS,zna,go_sem]
 have q:j<doc.length:=by simpa using q
 obtain ⟨t,et⟩:∃x,doc[j]?=some x:=⟨doc[j],by simp [q]⟩
 have ht:=hd.d t (zla et)
 simp (disch:=omega) only [q,Ad (Aa B8 et),go_sem]
 have htn:=ht.n
 have C6:=Bs (A:=KY doc) et
 refine loop (fun p:RY=>match p with
  | .mk i g' L' n'=>⟨[(1,.bx m 0),(3,.rw (m+1) g' L'.length),(4,.i .i64 j),(5,.bx n 0),(6,.i .i64 i)],(m+1,.rw g' 2 (Ab AR L'))::(n,.bx [.i .i64 t.k,.s t.n,.ds t.impl,.ds t.dirs,.ds (Ab Bv t.fields),.ds t.members,.ds t.inputs])::(m,.bx [.ds (Ab B8 doc)])::hp,n'⟩)
  (fun p=>match p with | .mk i g' L' n'=>i<=t.fields.length∧n+1<=n'∧L'=L++(t.fields.take i).flatMap (Rn doc t)) (fun p=>match p with | .mk i g' L' n'=>t.fields.length - i) (.mk 0 g L (n+20)) ?_ ?_ (fun p hi=>?_)
 .exact ⟨zt _,show n+1<=n+20 by omega,by simp⟩
 .dsimp only
  refine Fm hf ?_ ?_ ?_ ?_ (fun a ha c7=>?_) (by omega)
  .simp (disch:=omega) only [go_sem]
  .simp (disch:=omega) only [go_sem]
  .simp (disch:=omega) only [go_sem]
  .simp (disch:=omega) only [go_sem]
  .repeat rw [Ai _ _ (by omega)]
 obtain ⟨i,g',L',n'⟩:=p
 obtain ⟨LX,HG,Dw⟩:=hi
 have hLl':(Ab AR L').length=L'.length:=Ao _ _
 have hfl':=E7 (LN doc t) (t.fields.take i)
 have hf4:=ht.fl
 have hLn':L'.length<=67600:=by rw [Dw,zld];rw [zlo] at hfl';omega
 dsimp only
 simp (disch:=omega) only [go_sem]
 refine Ae (fun q2=>?_) (fun q2=>?_)
 .have q2:i<t.fields.length:=by simpa using q2
  obtain ⟨f,ef⟩:∃y,t.fields[i]?=some y:=⟨t.fields[i],by simp [q2]⟩
  have QU:=ht.f f (zla ef)
  obtain ⟨fa1,fa2,fa3⟩:=BO QU.a
  have hfn:=QU.n
  have z1:(t.n++⟨#[46]⟩++f.n:qB).size<=1000:=by rw [z24,z24];show t.n.size+1+f.n.size<=1000;omega
  have hR:=H8 doc hd (Bm f.args) fa2 fa3 (t.n++⟨#[46]⟩++f.n) ⟨#[40]⟩ ⟨#[41]⟩ z1 (by decide) (by decide)
  rw [<-fa1] at hR
  have hSn:=Bs (A:=Rn doc t) ef
  have hRl:=LN doc t f
  have hE:(Bm f.args).flatMap (KN doc (t.n++⟨#[46]⟩++f.n++⟨#[40]⟩) ⟨#[41]⟩)=Rn doc t f:=rfl
  rw [hE] at hR
  obtain ⟨F,hF⟩:=A5 (Rn doc t f)
  rw [hF] at hR hRl hSn
  have z2:t.n.size+(#[46]:Array UInt8).size<=9223372036854775807:=by show t.n.size+1<=9223372036854775807;omega
  have z3:t.n.size+((#[46]:Array UInt8).size+f.n.size)<=9223372036854775807:=by show t.n.size+(1+f.n.size)<=9223372036854775807;omega
  have k3:(L'.length+F.length)*24<=140737488355328:=by omega
  have k4:L'.length+F.length<=9223372036854775807:=by omega
  have DI:(Ab AR F).length=F.length:=Ao _ _
  simp (disch:=omega) only [q2,Ad (Aa Bv ef),z2,z3,true_and,go_sem]
  refine Aq.f (fun _ _ _=>hR _ _) ?_
  simp (disch:=omega) only [q2,Ad (Aa Bv ef),hLl',DI,k3,k4,Ay,true_and,go_sem]
  refine ⟨.mk (i+1) (g'+1) (L'++F) (n'+100),⟨show i+1<=t.fields.length by omega,show n+1<=n'+100 by omega,?_⟩,by show t.fields.length - (i+1)<t.fields.length - i;omega,?_⟩
  .show _=_
   rw [hSn,Dw,zlf]
  dsimp only
  refine Fm hf ?_ ?_ ?_ ?_ (fun a ha c7=>?_) (by omega)
  .simp (disch:=omega) only [Ap i (by omega),zld,zlc,zle,go_sem]
  .simp (disch:=omega) only [go_sem]
  .simp (disch:=omega) only [go_sem]
  .simp (disch:=omega) only [go_sem]
  .repeat rw [Ai _ _ (by omega)]
 have q2:i=t.fields.length:=by simp at q2;omega
 subst q2
 rw [zlj] at Dw
 obtain ⟨fa1,fa2,fa3⟩:=BO ht.i
 have hR:=H8 doc hd (Bm t.inputs) fa2 fa3 t.n ⟨#[46]⟩ ⟨#[]⟩ (by omega) (by decide) (by decide)
 rw [<-fa1] at hR
 have hRl:=Cj (Iw doc (t.n++⟨#[46]⟩) ⟨#[]⟩) (Bm t.inputs)
 have C6:(doc.take (j+1)).flatMap (KY doc)=(doc.take j).flatMap (KY doc)++(t.fields.flatMap (Rn doc t)++(Bm t.inputs).flatMap (KN doc (t.n++⟨#[46]⟩) ⟨#[]⟩)):=C6
 obtain ⟨F,hF⟩:=A5 ((Bm t.inputs).flatMap (KN doc (t.n++⟨#[46]⟩) ⟨#[]⟩))
 rw [hF] at hR hRl C6
 have k3:(L'.length+F.length)*24<=140737488355328:=by omega
 have k4:L'.length+F.length<=9223372036854775807:=by omega
 have DI:(Ab AR F).length=F.length:=Ao _ _
 simp (disch:=omega) only [go_sem]
 refine Ac.f (hR _ _) ?_
 simp (disch:=omega) only [hLl',DI,k3,k4,Ay,true_and,go_sem]
 refine ⟨.mk (j+1) (g'+1) (L'++F) (n'+100),⟨show j+1<=doc.length by omega,show m+2<=n'+100 by omega,?_⟩,by show doc.length - (j+1)<doc.length - j;omega,?_⟩
 .show _=_
  rw [C6,Dw,As,zlf]
 dsimp only
 refine Mb hf ?_ ?_ ?_ (fun a ha c7=>?_) (by omega)
 .simp (disch:=omega) only [Ap j (by omega),zld,zlc,zle,go_sem]
 .simp (disch:=omega) only [go_sem]
 .simp (disch:=omega) only [go_sem]
 .repeat rw [Ai _ _ (by omega)]
set_option maxHeartbeats 2000000
theorem whK {x:Nat} (h:x<=2):x<=9223372036854775804∧(x+1)*24<=140737488355328∧x<=9223372036854775806∧(x+1+1)*24<=140737488355328∧x+1<=9223372036854775806∧(x+1+1+1)*24<=140737488355328∧x+1+1<=9223372036854775806∧(x+2)*24<=140737488355328∧x<=9223372036854775805∧(x+3)*24<=140737488355328:=by omega
inductive WhS
 | mk (b:Bool) (j:Nat) (n:Nat)
theorem Aao (nm:qB) (u9 e8:Bool) (d8:qB) (hp:CH) (m:Nat):AU prog 124 hp m [.s nm,.b u9,.b e8,.s d8] ((m,.rw 0 2 (Ab AR (Gr nm u9 e8 d8)))::hp) (m+1) (.rw m 0 (Gr nm u9 e8 d8).length):=by
 obtain ⟨ab,VT⟩:=A5 (YD nm)
 have hA:=KD nm
 obtain ⟨F,hF⟩:=A5 (Gr nm u9 e8 d8)
 rw [hF]
 unfold Gr at hF
 rw [VT] at hA hF
 refine GP (outs:=[(2,Ab AR F)]) func124 (tA cc124) (tB cc124) (tC cc124) rfl fun hf=>?_;unfold ck124
 simp only [go_sem]
 refine AH.f (fun _=>hA _ _) ?_
 cases u9<;>cases ab<;>cases e8<;>simp at hF<;>subst hF
 all_goals
  simp (disch:=omega) only [go_sem]
  try simp [Ab,AR]
def bfD (doc:List Aw) (nm:qB) (j:Nat):Bool:=BU nm||decide (nm∈(doc.take j).map Aw.n)
theorem WN {doc:List Aw} {nm:qB} {j:Nat} {x:Aw} (e:doc[j]?=some x):bfD doc nm (j+1)=(bfD doc nm j||decide (x.n=nm)):=by
 unfold bfD
 rw [<-AN e,Bool.or_assoc,List.map_append]
 congr 1
 rw [Bool.eq_iff_iff]
 simp
 constructor
 .rintro (h | h)
  .exact .inl h
  .exact .inr h.symm
 .rintro (h | h)
  .exact .inl h
  .exact .inr h.symm
def rtK (t:Aw):Bool:=(decide (t.n=⟨#[81,117,101,114,121]⟩)||decide (t.n=⟨#[77,117,116,97,116,105,111,110]⟩)||decide (t.n=⟨#[83,117,98,115,99,114,105,112,116,105,111,110]⟩))&&!decide (t.k=1)||decide (t.k<1)||decide (5<t.k)
def Uq (doc:List Aw) (t:Aw) (j:Nat):List Dn :=
 Gr t.n false (bfD doc t.n j) t.n++(if QV t=true then [.mk 8 t.n] else [])++(if rtK t=true then [.mk 9 t.n] else [])++(if Aam doc t=true then [.mk 5 t.n] else [])
theorem QI (doc:List Aw) (t:Aw) (j:Nat):(Uq doc t j).length<=5:=by
 unfold Uq
 have h1:=EE t.n false (bfD doc t.n j) t.n
 rw [zld,zld,zld]
 split<;>split<;>split<;>simp only [zlc,zle]<;>omega
theorem Xg (doc:List Aw) (hd:DocB doc) (i:Nat) (t:Aw) (et:doc[i]?=some t) (hp:CH) (m:Nat):IA 83 hp m [B0 doc,.i .i64 i] (Uq doc t i):=by
 obtain ⟨RR,A9⟩:=A5 (Uq doc t i)
 rw [A9]
 unfold Uq at A9
 have G0:=hd.l
 have hmt:=zla et
 have ht:=hd.d t hmt
 have VV:i<doc.length:=(List.getElem?_eq_some_iff.1 et).1
 refine FP (fun l:List Dn=>l=RR) (fun _=>[]) (fun l=>.ds (Ab AR l)) func83 (tA cc83) (tB cc83) (tC cc83) rfl (fun hf i hi=>trivial) fun hf=>?_
 unfold ck83
 simp (disch:=omega) only [VV,Ad (Aa B8 et),go_sem]
 refine Ac.f (CP _ _ _) ?_
 simp (disch:=omega) only [go_sem]
 refine loop (fun p:WhS=>match p with
  | .mk b j n=>⟨[(1,.i .i64 i),(2,.bx m 0),(5,.bx (m+1) 0),(6,.b b),(7,.i .i64 j)],(m,.bx [.ds (Ab B8 doc)])::(m+1,.bx [.i .i64 t.k,.s t.n,.ds t.impl,.ds t.dirs,.ds (Ab Bv t.fields),.ds t.members,.ds t.inputs])::hp,n⟩)
  (fun p=>match p with | .mk b j n=>j<=i∧m+2<=n∧b=bfD doc t.n j) (fun p=>match p with | .mk b j n=>i - j) (.mk (BU t.n) 0 (m+2)) ?_ ?_ (fun p hj=>?_)
 .exact ⟨zt _,zna _,by simp [bfD]⟩
 .dsimp only
  refine JT hf ?_ ?_ ?_ ?_ (zna _)
  all_goals (simp (disch:=omega) only [go_sem])
 obtain ⟨b,j,n⟩:=p
 obtain ⟨Cg,Bc,As⟩:=hj
 dsimp only
 simp (disch:=omega) only [go_sem]
 refine Ae (fun q=>?_) (fun q=>?_)
 .have q:j<i:=by simp at q;omega
  have q3:j<doc.length:=by omega
  obtain ⟨x,ex⟩:∃x,doc[j]?=some x:=⟨doc[j],by simp [q3]⟩
  have eg:(Ab B8 doc)[j]?=some [AV.i .i64 x.k,.s x.n,.ds x.impl,.ds x.dirs,.ds (Ab Bv x.fields),.ds x.members,.ds x.inputs]:=Aa B8 ex
  have hbs:=WN (nm:=t.n) ex
  rw [<-As] at hbs
  clear As
  cases b with
  |true=>
   simp (disch:=omega) only [q3,eg,Ad (Aa B8 ex),zlc,zle,za,List.drop_zero,z7,List.take_zero,z8,zb,and_self,go_sem]
   refine ⟨.mk true (j+1) (n+100),⟨show j+1<=i by omega,show m+2<=n+100 by omega,by rw [hbs];first | rfl | simp⟩,by show i - (j+1)<i - j;omega,?_⟩
   dsimp only
   refine JT hf ?_ ?_ ?_ ?_ (by omega)
   all_goals
    simp (disch:=omega) only [Ap j (by omega),go_sem]
  |false=>
   simp (disch:=omega) only [q3,eg,Ad (Aa B8 ex),zlc,zle,za,List.drop_zero,z7,List.take_zero,z8,zb,and_self,go_sem]
   refine ⟨.mk (decide (x.n=t.n)) (j+1) (n+100),⟨show j+1<=i by omega,show m+2<=n+100 by omega,by rw [hbs];first | rfl | simp⟩,by show i - (j+1)<i - j;omega,?_⟩
   dsimp only
   refine JT hf ?_ ?_ ?_ ?_ (by omega)
   all_goals
    simp (disch:=omega) only [Ap j (by omega),go_sem]
 .have q:j=i:=by simp at q;omega
  subst q
  rw [<-As] at A9
  simp (disch:=omega) only [go_sem]
  refine Ac.x (Aao _ _ _ _ _ _) ?_
  have O7:=EE t.n false b t.n
  obtain ⟨F1,hF⟩:=A5 (Gr t.n false b t.n)
  rw [hF] at O7 A9 ⊢
  clear hF
  have BC:m<=n:=by omega
  simp (disch:=omega) only [go_sem]
  have DI:(Ab AR F1).length=F1.length:=Ao _ _
  obtain ⟨k0,k1,k2,k3,k4,k5,k6,k7,k8,k9⟩:=whK O7
  have r7:∀a:List Dn,(Ab AR a).length=a.length:=fun a=>Ao _ _
  refine Ac.f (XT t _ _) ?_
  cases hE:QV t with
  |false=>
   rw [hE,iN (by decide),zg] at A9
   simp (disch:=omega) only [go_sem]
   refine Ae (fun c=>?_) (fun c=>?_)
   .rw [iP (show rtK t=true from c)] at A9
    simp (disch:=omega) only [DI,r7,zld,zlc,zle,Ay,Av,k0,k1,k2,k3,k4,k5,k6,k7,k8,k9,true_and,go_sem]
    refine Ac.r (Fg doc hd t ht.i _ _) ?_
    rintro Al l7 r ⟨cb,hcb,e1,e2,e3⟩
    rw [<-hcb] at A9
    subst e1
    subst e2
    subst e3
    simp only [zli]
    cases cb with
    |false=>
     rw [iN (by decide),zg] at A9
     simp (disch:=omega) only [DI,r7,zld,zlc,zle,Ay,Av,k0,k1,k2,k3,k4,k5,k6,k7,k8,k9,true_and,zna,BC,zlj,go_sem]
     refine Cw (F1++[.mk 9 t.n]) (by rw [<-A9]) ?_
     simp (disch:=omega) only [DI,r7,zld,zlc,zle,Ay,Av,k0,k1,k2,k3,k4,k5,k6,k7,k8,k9,true_and,zna,BC,zlj,go_sem]
     first | done | rfl | exact congrArg (fun x=>AV.ds (Ab AR x)) (zlk (by simp))
    |true=>
     rw [iP rfl] at A9
     simp (disch:=omega) only [DI,r7,zld,zlc,zle,Ay,Av,k0,k1,k2,k3,k4,k5,k6,k7,k8,k9,true_and,zna,BC,zlj,go_sem]
     refine Cw (F1++[.mk 9 t.n]++[.mk 5 t.n]) (by rw [<-A9]) ?_
     simp (disch:=omega) only [DI,r7,zld,zlc,zle,Ay,Av,k0,k1,k2,k3,k4,k5,k6,k7,k8,k9,true_and,zna,BC,zlj,go_sem]
     first | done | rfl | exact congrArg (fun x=>AV.ds (Ab AR x)) (zlk (by simp))
   .rw [iN (by rw [show rtK t=false from c];decide),zg] at A9
    simp (disch:=omega) only [go_sem]
    refine Ac.r (Fg doc hd t ht.i _ _) ?_
    rintro Al l7 r ⟨cb,hcb,e1,e2,e3⟩
    rw [<-hcb] at A9
    subst e1
    subst e2
    subst e3
    simp only [zli]
    cases cb with
    |false=>
     rw [iN (by decide),zg] at A9
     simp (disch:=omega) only [DI,r7,zld,zlc,zle,Ay,Av,k0,k1,k2,k3,k4,k5,k6,k7,k8,k9,true_and,zna,BC,zlj,go_sem]
     refine Cw (F1) (by rw [<-A9]) ?_
     simp (disch:=omega) only [DI,r7,zld,zlc,zle,Ay,Av,k0,k1,k2,k3,k4,k5,k6,k7,k8,k9,true_and,zna,BC,zlj,go_sem]
     first | done | rfl | exact congrArg (fun x=>AV.ds (Ab AR x)) (zlk (by simp))
    |true=>
     rw [iP rfl] at A9
     simp (disch:=omega) only [DI,r7,zld,zlc,zle,Ay,Av,k0,k1,k2,k3,k4,k5,k6,k7,k8,k9,true_and,zna,BC,zlj,go_sem]
     refine Cw (F1++[.mk 5 t.n]) (by rw [<-A9]) ?_
     simp (disch:=omega) only [DI,r7,zld,zlc,zle,Ay,Av,k0,k1,k2,k3,k4,k5,k6,k7,k8,k9,true_and,zna,BC,zlj,go_sem]
     first | done | rfl | exact congrArg (fun x=>AV.ds (Ab AR x)) (zlk (by simp))
  |true=>
   rw [hE,iP rfl] at A9
   simp (disch:=omega) only [DI,r7,zld,zlc,zle,Ay,Av,k0,k1,k2,k3,k4,k5,k6,k7,k8,k9,true_and,go_sem]
   refine Ae (fun c=>?_) (fun c=>?_)
   .rw [iP (show rtK t=true from c)] at A9
    simp (disch:=omega) only [DI,r7,zld,zlc,zle,Ay,Av,k0,k1,k2,k3,k4,k5,k6,k7,k8,k9,true_and,go_sem]
    refine Ac.r (Fg doc hd t ht.i _ _) ?_
    rintro Al l7 r ⟨cb,hcb,e1,e2,e3⟩
    rw [<-hcb] at A9
    subst e1
    subst e2
    subst e3
    simp only [zli]
    cases cb with
    |false=>
     rw [iN (by decide),zg] at A9
     simp (disch:=omega) only [DI,r7,zld,zlc,zle,Ay,Av,k0,k1,k2,k3,k4,k5,k6,k7,k8,k9,true_and,zna,BC,zlj,go_sem]
     refine Cw (F1++[.mk 8 t.n]++[.mk 9 t.n]) (by rw [<-A9]) ?_
     simp (disch:=omega) only [DI,r7,zld,zlc,zle,Ay,Av,k0,k1,k2,k3,k4,k5,k6,k7,k8,k9,true_and,zna,BC,zlj,go_sem]
     first | done | rfl | exact congrArg (fun x=>AV.ds (Ab AR x)) (zlk (by simp))
    |true=>
     rw [iP rfl] at A9
     simp (disch:=omega) only [DI,r7,zld,zlc,zle,Ay,Av,k0,k1,k2,k3,k4,k5,k6,k7,k8,k9,true_and,zna,BC,zlj,go_sem]
     refine Cw (F1++[.mk 8 t.n]++[.mk 9 t.n]++[.mk 5 t.n]) (by rw [<-A9]) ?_
     simp (disch:=omega) only [DI,r7,zld,zlc,zle,Ay,Av,k0,k1,k2,k3,k4,k5,k6,k7,k8,k9,true_and,zna,BC,zlj,go_sem]
     first | done | rfl | exact congrArg (fun x=>AV.ds (Ab AR x)) (zlk (by simp))
   .rw [iN (by rw [show rtK t=false from c];decide),zg] at A9
    simp (disch:=omega) only [DI,r7,zld,zlc,zle,Ay,Av,k0,k1,k2,k3,k4,k5,k6,k7,k8,k9,true_and,go_sem]
    refine Ac.r (Fg doc hd t ht.i _ _) ?_
    rintro Al l7 r ⟨cb,hcb,e1,e2,e3⟩
    rw [<-hcb] at A9
    subst e1
    subst e2
    subst e3
    simp only [zli]
    cases cb with
    |false=>
     rw [iN (by decide),zg] at A9
     simp (disch:=omega) only [DI,r7,zld,zlc,zle,Ay,Av,k0,k1,k2,k3,k4,k5,k6,k7,k8,k9,true_and,zna,BC,zlj,go_sem]
     refine Cw (F1++[.mk 8 t.n]) (by rw [<-A9]) ?_
     simp (disch:=omega) only [DI,r7,zld,zlc,zle,Ay,Av,k0,k1,k2,k3,k4,k5,k6,k7,k8,k9,true_and,zna,BC,zlj,go_sem]
     first | done | rfl | exact congrArg (fun x=>AV.ds (Ab AR x)) (zlk (by simp))
    |true=>
     rw [iP rfl] at A9
     simp (disch:=omega) only [DI,r7,zld,zlc,zle,Ay,Av,k0,k1,k2,k3,k4,k5,k6,k7,k8,k9,true_and,zna,BC,zlj,go_sem]
     refine Cw (F1++[.mk 8 t.n]++[.mk 5 t.n]) (by rw [<-A9]) ?_
     simp (disch:=omega) only [DI,r7,zld,zlc,zle,Ay,Av,k0,k1,k2,k3,k4,k5,k6,k7,k8,k9,true_and,zna,BC,zlj,go_sem]
     first | done | rfl | exact congrArg (fun x=>AV.ds (Ab AR x)) (zlk (by simp))
