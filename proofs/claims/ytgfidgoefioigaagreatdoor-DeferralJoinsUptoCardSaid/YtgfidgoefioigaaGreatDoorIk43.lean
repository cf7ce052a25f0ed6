/- Proof. Conditions: none. -/
import Derived.Test.YtgfidgoefioigaaGreatDoorIk42
noncomputable section
open List renaming drop_succ_cons->za,drop_zero->zf,take_succ_cons->z8
open Option renaming map_some->z7,isSome_some->zb,getD_some->zc
open Nat renaming zero_le->zw,add_assoc->ze
open Bool renaming false_and->zy,false_eq_true->z1p,and_false->z26,not_true->zu,not_false->zp,true_and->zt,and_true->z2n
open Go.Proofs.Tryz
open List renaming mem_of_getElem?->zla,length_cons->zlc,length_append->zld,length_nil->zle,append_assoc->zlf,take_length->zlj,length_take->zlo,take_zero->zlr
open Nat renaming le_refl->zna
namespace Go.Proofs.YtgfidgoefioigaaGreatDoor
open Go.Eng
set_option linter.all false
set_option maxRecDepth 20000
set_option maxHeartbeats 2000000
def XP (doc:List Av) (n:qB) (w:List Int) (n':qB) (w':List Int):Bool:=by
 classical
 exact if h:∃r:Bool,∀hp m,Ae prog 163 hp m [B9 doc,DW n w,DW n' w'] (.b r) then Classical.choose h else false
theorem Zy (doc:List Av) (hd:DocOk doc) (n n':qB) (w w':List Int) (h:w.length+w'.length<=1000000) (hp:CH) (m:Nat):Ae prog 163 hp m [B9 doc,DW n w,DW n' w'] (.b (XP doc n w n' w')):=by
 have h2:=Afq doc hd n n' _ w w' rfl h
 unfold XP
 rw [dif_pos h2]
 exact Classical.choose_spec h2 hp m
def MZ (j7:qB) (xs:List BG) (a:BG):List Da:=if ((BY xs a.n).isSome&&LB ((BY xs a.n).getD UH).tn ((BY xs a.n).getD UH).tw a.tn a.tw)=true then [] else [.mk 22 (j7++⟨#[40]⟩++a.n++⟨#[41]⟩)]
def R8 (j7:qB) (fs:List BG) (a:BG):List Da:=if (!(BY fs a.n).isSome&&Ga a.tw&&!a.has)=true then [.mk 22 (j7++⟨#[40]⟩++a.n++⟨#[41]⟩)] else []
theorem G6 (j7:qB) (xs:List BG) (a:BG):(MZ j7 xs a).length<=1:=by
 unfold MZ;split<;>simp
theorem K1 (j7:qB) (xs:List BG) (a:BG):(R8 j7 xs a).length<=1:=by
 unfold R8;split<;>simp
theorem Cc {α β:Type} {A:α->List β} (h:∀x,(A x).length<=1) (l:List α):(l.flatMap A).length<=l.length:=by
 induction l with
 |nil=>simp
 |cons a l ih=>rw [List.flatMap_cons,zld,zlc];have:=h a;omega
theorem Bo {α β:Type} {A:α->List β} {l:List α} {j:Nat} {x:α} (e:l[j]?=some x):(l.take (j+1)).flatMap A=(l.take j).flatMap A++A x:=by
 rw [List.take_add_one,e,List.flatMap_append]
 simp
def Nd (doc:List Av) (AT:qB) (f:Cr):Option Cr->List Da
 |none=>[.mk 20 AT]
 |some x=>(if XP doc x.tn (IX x.tw) f.tn (IX f.tw)=true then [] else [.mk 10 AT])++(Bl f.args).flatMap (MZ AT (Bl x.args))++(Bl x.args).flatMap (R8 AT (Bl f.args))
def Gx (doc:List Av) (t:Av) (f:Cr):List Da:=Nd doc (t.n++⟨#[46]⟩++f.n) f (Dq t.fields f.n)
theorem Bt (x:Bool):imp x (true=true)=True:=eq_true fun _=>rfl
theorem Tg {l:List BG} (h:∀x∈l,Hi x∧x.n.size<=64) (n:qB):((BY l n).getD UH).tw.length<=1000000000:=by
 cases e:BY l n with
 |none=>show ([]:List Int).length<=_;simp
 |some y=>exact (h y (List.mem_of_find?_eq_some e)).1.1
theorem Qh (doc:List Av) (hd:DocOk doc) (t:Av) (ht:DfnB t) (f:Cr) (QA:FldB f) (hp:CH) (m:Nat):Ae prog 133 hp m [B9 doc,Lw t,flx f] (.ds (Ab AM (Gx doc t f))):=by
 have hF:=M6 t (by have:=ht.fl;omega) f.n
 have htn:=ht.n
 have hfn:=QA.n
 have z1:t.n.size+(#[46]:Array UInt8).size<=9223372036854775807:=by show t.n.size+1<=9223372036854775807;omega
 have z2:t.n.size+((#[46]:Array UInt8).size+f.n.size)<=9223372036854775807:=by show t.n.size+(1+f.n.size)<=9223372036854775807;omega
 have hxB:∀x,Dq t.fields f.n=some x->FldB x:=fun x h=>ht.f x (List.mem_of_find?_eq_some h)
 unfold Gx
 obtain ⟨X,hX⟩:=A7 (Dq t.fields f.n)
 obtain ⟨AT,hAT⟩:=A7 (t.n++⟨#[46]⟩++f.n)
 have hATs:AT.size<=129:=by rw [<-hAT];simp only [ByteArray.size_append,e46];omega
 rw [hX,hAT]
 rw [hX] at hF hxB
 unfold Rb at hF
 obtain ⟨fa1,fa2,fa3⟩:=BH QA.a
 cases X with
 |none=>
  refine Al func133 (tA cc133) (tB cc133) (tC cc133) rfl fun hf=>?_;unfold ck133
  simp (disch:=omega) only [z1,z2,true_and,hAT,go_sem]
  refine Ac.f (hF _ _) ?_
  simp (disch:=omega) only [go_sem]
  try rfl
 |some x=>
  have hx:=hxB x rfl
  obtain ⟨xa1,xa2,xa3⟩:=BH hx.a
  have hS:=Zy doc hd x.tn f.tn (IX x.tw) (IX f.tw) (by rw [Ig,Ig];have:=hx.tl;have:=QA.tl;omega)
  unfold Nd
  obtain ⟨sb,Vh⟩:=A7 (XP doc x.tn (IX x.tw) f.tn (IX f.tw))
  obtain ⟨xs,hxs⟩:=A7 (Bl x.args)
  obtain ⟨fs,Qw⟩:=A7 (Bl f.args)
  rw [hxs] at xa1 xa2 xa3
  rw [Qw] at fa1 fa2 fa3
  rw [Vh] at hS
  simp only [Vh,hxs,Qw]
  unfold DW at hS
  rw [<-hx.tw,<-QA.tw] at hS
  obtain ⟨P,hP⟩:∃P:List Da,(if sb=true then [] else [.mk 10 AT])=P:=⟨_,rfl⟩
  have hPl:P.length<=1:=by rw [<-hP];split<;>simp
  rw [hP]
  refine Al func133 (tA cc133) (tB cc133) (tC cc133) rfl fun hf=>?_;unfold ck133
  simp (disch:=omega) only [z1,z2,true_and,hAT,go_sem]
  refine Ac.f (hF _ _) ?_
  simp (disch:=omega) only [fa1,xa1,hAT,go_sem]
  refine Ac.f (hS _ _) ?_
  cases sb with
  |true=>
   simp (disch:=omega) only [go_sem]
   have hP:([]:List Da)=P:=hP
   subst hP
   refine loop (fun p:R1=>match p with
    | .mk j g L n=>⟨[(5,.bx (m+2) 0),(7,.s AT),(8,.bx (m+3) 0),(10,.rw (m+4) g L.length),(11,.i .i64 j)],(m+4,.rw g 2 (Ab AM L))::(m+3,.bx [.s x.n,.ds (Ab AD xs),.s x.tn,.ds x.tw,.ds x.dirs])::(m+2,.bx [.s f.n,.ds (Ab AD fs),.s f.tn,.ds f.tw,.ds f.dirs])::hp,n⟩)
    (fun p=>match p with | .mk j g L n=>j<=fs.length∧m+5<=n∧L=([])++(fs.take j).flatMap (MZ AT xs)) (fun p=>match p with | .mk j g L n=>fs.length - j) (.mk 0 0 ([]) (m+5)) ?_ ?_ (fun p hj=>?_)
   .exact ⟨zw _,zna _,by simp⟩
   .dsimp only
    refine (By (t:=10) (m:=2) (by (simp (disch:=omega) only [go_sem]))).trans (EU hf ?_ ?_ ?_ ?_ (fun a ha d5=>?_) (zna _))
    .simp (disch:=omega) only [go_sem]
     try rfl
    .simp (disch:=omega) only [go_sem]
     try rfl
    .simp (disch:=omega) only [go_sem]
     try rfl
    .simp (disch:=omega) only [go_sem]
     try rfl
    .repeat rw [Ak _ _ (by omega)]
   obtain ⟨j,g,L,n⟩:=p
   obtain ⟨Cq,Be,At⟩:=hj
   have Ck:(Ab AM L).length=L.length:=As _ _
   have Hf:=Cc (G6 AT xs) (fs.take j)
   have Ve:L.length<=17:=by rw [At,zld];rw [zlo] at Hf;simp only [zlc,zle];omega
   dsimp only
   simp (disch:=omega) only [go_sem]
   refine Af (fun q=>?_) (fun q=>?_)
   .have q:j<fs.length:=by simpa using q
    obtain ⟨a,ea⟩:∃x,fs[j]?=some x:=⟨fs[j],by simp [q]⟩
    have ham:=fa3 a (zla ea)
    have hI:=D7 xs (by omega) a.n
    have hyl:=Tg xa3 a.n
    have E8:MZ AT xs a=if ((BY xs a.n).isSome&&LB ((BY xs a.n).getD UH).tn ((BY xs a.n).getD UH).tw a.tn a.tw)=true then [] else [.mk 22 (AT++⟨#[40]⟩++a.n++⟨#[41]⟩)]:=rfl
    obtain ⟨R,hR⟩:=A7 (BY xs a.n)
    rw [hR] at hI hyl E8
    unfold PK at hI
    obtain ⟨y,hy⟩:=A7 (R.getD UH)
    obtain ⟨rb,Vr⟩:=A7 (R.isSome)
    rw [hy] at hI hyl E8
    rw [Vr] at hI E8
    have hQ:=GF y.tn a.tn y.tw a.tw (by omega) (by have:=ham.1.1;omega)
    obtain ⟨sb,Vh⟩:=A7 (LB y.tn y.tw a.tn a.tw)
    rw [Vh] at hQ E8
    unfold DW at hQ
    have y1:AT.size+((#[40]:Array UInt8).size+(a.n.size+(#[41]:Array UInt8).size))<=9223372036854775807:=by show AT.size+(1+(a.n.size+1))<=9223372036854775807;omega
    have y2:AT.size+((#[40]:Array UInt8).size+a.n.size)<=9223372036854775807:=by show AT.size+(1+a.n.size)<=9223372036854775807;omega
    have y3:AT.size+(#[40]:Array UInt8).size<=9223372036854775807:=by show AT.size+1<=9223372036854775807;omega
    have u1:¬n+10=m:=by omega
    have u2:¬n+9=m:=by omega
    have k1:(L.length+1)*24<=140737488355328:=by omega
    have k2:L.length<=9223372036854775806:=by omega
    have eg:(Ab AD fs)[j]?=some [.s a.n,.s a.tn,.ds (Ab D2 a.tw),.b a.has,.i .i64 a.d.k,.i .i64 a.d.n,.s a.d.s,.ds (Ab Aw a.d.items),.ds (Bq a.d.keys),.ds (Ab F9 a.dirs)]:=Aa AD ea
    simp only [AD] at hI
    simp (disch:=omega) only [q,Ad (Aa AD ea),go_sem]
    refine Au.f (fun _ _ _=>hI _ _) ?_
    simp (disch:=omega) only [q,Ad (Aa AD ea),go_sem]
    refine ⟨⟨u1,u2⟩,?_⟩
    simp (disch:=omega) only [eg,zlc,zle,za,zf,z8,zlr,z7,zb,zc,and_self,Bt,true_and,go_sem]
    refine AJ.f (fun _ _ _=>hQ _ _) ?_
    cases rb with
    |false=>
     simp only [zy,z1p,if_false] at E8
     simp (disch:=omega) only [q,Ad (Aa AD ea),Ck,k1,k2,y1,y2,y3,true_and,Aq,go_sem]
     refine ⟨.mk (j+1) (g+1) (L++[.mk 22 (AT++⟨#[40]⟩++a.n++⟨#[41]⟩)]) (n+200),⟨show j+1<=fs.length by omega,show m+5<=n+200 by omega,?_⟩,by show fs.length - (j+1)<fs.length - j;omega,?_⟩
     .show _=_
      rw [Bo ea,E8,At]
      simp [zlf]
     dsimp only
     refine EU hf ?_ ?_ ?_ ?_ (fun a ha d5=>?_) (by omega)
     .simp (disch:=omega) only [Ao j (by omega),zld,zlc,zle,go_sem]
      try simp [ze]
     .simp (disch:=omega) only [Ax,Aq,zlf,go_sem]
      try simp [zlf]
     .simp (disch:=omega) only [go_sem]
     .simp (disch:=omega) only [go_sem]
     .repeat rw [Ak _ _ (by omega)]
    |true=>
     cases sb with
     |false=>
      simp only [z26,z1p,if_false] at E8
      simp (disch:=omega) only [q,Ad (Aa AD ea),Ck,k1,k2,y1,y2,y3,true_and,Aq,go_sem]
      refine ⟨.mk (j+1) (g+1) (L++[.mk 22 (AT++⟨#[40]⟩++a.n++⟨#[41]⟩)]) (n+200),⟨show j+1<=fs.length by omega,show m+5<=n+200 by omega,?_⟩,by show fs.length - (j+1)<fs.length - j;omega,?_⟩
      .show _=_
       rw [Bo ea,E8,At]
       simp [zlf]
      dsimp only
      refine EU hf ?_ ?_ ?_ ?_ (fun a ha d5=>?_) (by omega)
      .simp (disch:=omega) only [Ao j (by omega),zld,zlc,zle,go_sem]
       try simp [ze]
      .simp (disch:=omega) only [Ax,Aq,zlf,go_sem]
       try simp [zlf]
      .simp (disch:=omega) only [go_sem]
      .simp (disch:=omega) only [go_sem]
      .repeat rw [Ak _ _ (by omega)]
     |true=>
      simp only [Bool.and_self,if_true] at E8
      simp (disch:=omega) only [q,Ad (Aa AD ea),Ck,k1,k2,true_and,go_sem]
      refine ⟨.mk (j+1) (g) (L) (n+200),⟨show j+1<=fs.length by omega,show m+5<=n+200 by omega,?_⟩,by show fs.length - (j+1)<fs.length - j;omega,?_⟩
      .show _=_
       rw [Bo ea,E8,At]
       simp [zlf]
      dsimp only
      refine EU hf ?_ ?_ ?_ ?_ (fun a ha d5=>?_) (by omega)
      .simp (disch:=omega) only [Ao j (by omega),zld,zlc,zle,go_sem]
       try simp [ze]
      .simp (disch:=omega) only [Ax,Aq,zlf,go_sem]
       try simp [zlf]
      .simp (disch:=omega) only [go_sem]
      .simp (disch:=omega) only [go_sem]
      .repeat rw [Ak _ _ (by omega)]
   have q:j=fs.length:=by simp at q;omega
   subst q
   rw [zlj] at At
   simp (disch:=omega) only [go_sem]
   refine loop (fun p:R1=>match p with
    | .mk j g L n=>⟨[(5,.bx (m+2) 0),(7,.s AT),(8,.bx (m+3) 0),(10,.rw (m+4) g L.length),(14,.i .i64 j)],(m+4,.rw g 2 (Ab AM L))::(m+3,.bx [.s x.n,.ds (Ab AD xs),.s x.tn,.ds x.tw,.ds x.dirs])::(m+2,.bx [.s f.n,.ds (Ab AD fs),.s f.tn,.ds f.tw,.ds f.dirs])::hp,n⟩)
    (fun p=>match p with | .mk j g L n=>j<=xs.length∧m+5<=n∧L=([])++fs.flatMap (MZ AT xs)++(xs.take j).flatMap (R8 AT fs)) (fun p=>match p with | .mk j g L n=>xs.length - j) (.mk 0 g L n) ?_ ?_ (fun p hj=>?_)
   .exact ⟨zw _,Be,by rw [At];simp⟩
   .dsimp only
    refine EU hf ?_ ?_ ?_ ?_ (fun a ha d5=>?_) (zna _)
    .simp (disch:=omega) only [go_sem]
    .simp (disch:=omega) only [go_sem]
    .simp (disch:=omega) only [go_sem]
    .simp (disch:=omega) only [go_sem]
    .repeat rw [Ak _ _ (by omega)]
   clear Be At Ck Ve
   obtain ⟨j,g,L,n⟩:=p
   obtain ⟨Cq,Be,At⟩:=hj
   have Ck:(Ab AM L).length=L.length:=As _ _
   have hfl2:=Cc (G6 AT xs) fs
   have Hf:=Cc (K1 AT fs) (xs.take j)
   have Ve:L.length<=33:=by rw [At,zld,zld];rw [zlo] at Hf;simp only [zlc,zle];omega
   dsimp only
   simp (disch:=omega) only [go_sem]
   refine Af (fun q=>?_) (fun q=>?_)
   .have q:j<xs.length:=by simpa using q
    obtain ⟨a,ea⟩:∃x,xs[j]?=some x:=⟨xs[j],by simp [q]⟩
    have ham:=xa3 a (zla ea)
    have hI:=D7 fs (by omega) a.n
    have E8:R8 AT fs a=if (!(BY fs a.n).isSome&&Ga a.tw&&!a.has)=true then [.mk 22 (AT++⟨#[40]⟩++a.n++⟨#[41]⟩)] else []:=rfl
    obtain ⟨R,hR⟩:=A7 (BY fs a.n)
    rw [hR] at hI E8
    unfold PK at hI
    obtain ⟨y,hy⟩:=A7 (R.getD UH)
    obtain ⟨rb,Vr⟩:=A7 (R.isSome)
    rw [hy] at hI
    rw [Vr] at hI E8
    have hQ:=DT a.tn a.tw (by have:=ham.1.1;omega)
    obtain ⟨nb,hnb⟩:=A7 (Ga a.tw)
    obtain ⟨ab,Vs⟩:=A7 (a.has)
    rw [hnb] at hQ E8
    rw [Vs] at E8
    unfold DW at hQ
    have y1:AT.size+((#[40]:Array UInt8).size+(a.n.size+(#[41]:Array UInt8).size))<=9223372036854775807:=by show AT.size+(1+(a.n.size+1))<=9223372036854775807;omega
    have y2:AT.size+((#[40]:Array UInt8).size+a.n.size)<=9223372036854775807:=by show AT.size+(1+a.n.size)<=9223372036854775807;omega
    have y3:AT.size+(#[40]:Array UInt8).size<=9223372036854775807:=by show AT.size+1<=9223372036854775807;omega
    have u1:¬n+10=m:=by omega
    have u2:¬n+9=m:=by omega
    have k1:(L.length+1)*24<=140737488355328:=by omega
    have k2:L.length<=9223372036854775806:=by omega
    have eg:(Ab AD xs)[j]?=some [.s a.n,.s a.tn,.ds (Ab D2 a.tw),.b ab,.i .i64 a.d.k,.i .i64 a.d.n,.s a.d.s,.ds (Ab Aw a.d.items),.ds (Bq a.d.keys),.ds (Ab F9 a.dirs)]:=by rw [<-Vs];exact Aa AD ea
    simp only [AD] at hI
    simp (disch:=omega) only [q,Ad eg,go_sem]
    refine Au.f (fun _ _ _=>hI _ _) ?_
    simp (disch:=omega) only [q,Ad eg,eg,zlc,zle,za,zf,z8,zlr,z7,zb,and_self,go_sem]
    refine ⟨⟨u2,u1⟩,?_⟩
    cases rb with
    |true=>
     simp only [zu,zp,zy,zt,z2n,z26,z1p,if_false,if_true] at E8
     simp (disch:=omega) only [q,Ad eg,eg,zlc,zle,za,zf,z8,zlr,z7,zb,zc,and_self,Bt,true_and,go_sem]
     refine BU ?_
     simp (disch:=omega) only [q,Ad eg,Ck,eg,zlc,zle,za,zf,z8,zlr,z7,zb,zc,and_self,Bt,true_and,go_sem]
     refine ⟨.mk (j+1) (g) (L) (n+200),⟨show j+1<=xs.length by omega,show m+5<=n+200 by omega,?_⟩,by show xs.length - (j+1)<xs.length - j;omega,?_⟩
     .show _=_
      rw [Bo ea,E8,At]
      simp [zlf]
     dsimp only
     refine EU hf ?_ ?_ ?_ ?_ (fun a ha d5=>?_) (by omega)
     .simp (disch:=omega) only [Ao j (by omega),zld,zlc,zle,go_sem]
      try simp [ze]
     .simp (disch:=omega) only [Ax,Aq,zlf,go_sem]
      try simp [zlf]
     .simp (disch:=omega) only [go_sem]
     .simp (disch:=omega) only [go_sem]
     .repeat rw [Ak _ _ (by omega)]
    |false=>
     simp (disch:=omega) only [q,Ad eg,eg,zlc,zle,za,zf,z8,zlr,z7,zb,zc,and_self,Bt,true_and,go_sem]
     refine AH.f (fun _=>hQ _ _) ?_
     cases nb with
     |false=>
      simp only [zu,zp,zy,zt,z2n,z26,z1p,if_false,if_true] at E8
      simp (disch:=omega) only [q,Ad eg,Ck,eg,zlc,zle,za,zf,z8,zlr,z7,zb,zc,and_self,Bt,true_and,go_sem]
      refine ⟨.mk (j+1) (g) (L) (n+200),⟨show j+1<=xs.length by omega,show m+5<=n+200 by omega,?_⟩,by show xs.length - (j+1)<xs.length - j;omega,?_⟩
      .show _=_
       rw [Bo ea,E8,At]
       simp [zlf]
      dsimp only
      refine EU hf ?_ ?_ ?_ ?_ (fun a ha d5=>?_) (by omega)
      .simp (disch:=omega) only [Ao j (by omega),zld,zlc,zle,go_sem]
       try simp [ze]
      .simp (disch:=omega) only [Ax,Aq,zlf,go_sem]
       try simp [zlf]
      .simp (disch:=omega) only [go_sem]
      .simp (disch:=omega) only [go_sem]
      .repeat rw [Ak _ _ (by omega)]
     |true=>
      cases ab with
      |true=>
       simp only [zu,zp,zy,zt,z2n,z26,z1p,if_false,if_true] at E8
       simp (disch:=omega) only [q,Ad eg,Ck,eg,zlc,zle,za,zf,z8,zlr,z7,zb,zc,and_self,Bt,true_and,go_sem]
       refine ⟨.mk (j+1) (g) (L) (n+200),⟨show j+1<=xs.length by omega,show m+5<=n+200 by omega,?_⟩,by show xs.length - (j+1)<xs.length - j;omega,?_⟩
       .show _=_
        rw [Bo ea,E8,At]
        simp [zlf]
       dsimp only
       refine EU hf ?_ ?_ ?_ ?_ (fun a ha d5=>?_) (by omega)
       .simp (disch:=omega) only [Ao j (by omega),zld,zlc,zle,go_sem]
        try simp [ze]
       .simp (disch:=omega) only [Ax,Aq,zlf,go_sem]
        try simp [zlf]
       .simp (disch:=omega) only [go_sem]
       .simp (disch:=omega) only [go_sem]
       .repeat rw [Ak _ _ (by omega)]
      |false=>
       simp only [zu,zp,zy,zt,z2n,z26,z1p,if_false,if_true] at E8
       simp (disch:=omega) only [q,Ad eg,Ck,k1,k2,y1,y2,y3,Aq,eg,zlc,zle,za,zf,z8,zlr,z7,zb,zc,and_self,Bt,true_and,go_sem]
       refine ⟨.mk (j+1) (g+1) (L++[.mk 22 (AT++⟨#[40]⟩++a.n++⟨#[41]⟩)]) (n+200),⟨show j+1<=xs.length by omega,show m+5<=n+200 by omega,?_⟩,by show xs.length - (j+1)<xs.length - j;omega,?_⟩
       .show _=_
        rw [Bo ea,E8,At]
        simp [zlf]
       dsimp only
       refine EU hf ?_ ?_ ?_ ?_ (fun a ha d5=>?_) (by omega)
       .simp (disch:=omega) only [Ao j (by omega),zld,zlc,zle,go_sem]
        try simp [ze]
       .simp (disch:=omega) only [Ax,Aq,zlf,go_sem]
        try simp [zlf]
       .simp (disch:=omega) only [go_sem]
       .simp (disch:=omega) only [go_sem]
       .repeat rw [Ak _ _ (by omega)]
   have q:j=xs.length:=by simp at q;omega
   subst q
   rw [zlj] at At
   try subst At
   simp (disch:=omega) only [go_sem]
  |false=>
   simp (disch:=omega) only [go_sem]
   have hP:[Da.mk 10 AT]=P:=hP
   subst hP
   refine loop (fun p:R1=>match p with
    | .mk j g L n=>⟨[(5,.bx (m+2) 0),(7,.s AT),(8,.bx (m+3) 0),(10,.rw (m+4) g L.length),(11,.i .i64 j)],(m+4,.rw g 2 (Ab AM L))::(m+3,.bx [.s x.n,.ds (Ab AD xs),.s x.tn,.ds x.tw,.ds x.dirs])::(m+2,.bx [.s f.n,.ds (Ab AD fs),.s f.tn,.ds f.tw,.ds f.dirs])::hp,n⟩)
    (fun p=>match p with | .mk j g L n=>j<=fs.length∧m+5<=n∧L=([.mk 10 AT])++(fs.take j).flatMap (MZ AT xs)) (fun p=>match p with | .mk j g L n=>fs.length - j) (.mk 0 0 ([.mk 10 AT]) (m+5)) ?_ ?_ (fun p hj=>?_)
   .exact ⟨zw _,zna _,by simp⟩
   .dsimp only
    refine EU hf ?_ ?_ ?_ ?_ (fun a ha d5=>?_) (zna _)
    .simp (disch:=omega) only [go_sem]
     try rfl
    .simp (disch:=omega) only [go_sem]
     try rfl
    .simp (disch:=omega) only [go_sem]
     try rfl
    .simp (disch:=omega) only [go_sem]
     try rfl
    .repeat rw [Ak _ _ (by omega)]
   obtain ⟨j,g,L,n⟩:=p
   obtain ⟨Cq,Be,At⟩:=hj
   have Ck:(Ab AM L).length=L.length:=As _ _
   have Hf:=Cc (G6 AT xs) (fs.take j)
   have Ve:L.length<=17:=by rw [At,zld];rw [zlo] at Hf;simp only [zlc,zle];omega
   dsimp only
   simp (disch:=omega) only [go_sem]
   refine Af (fun q=>?_) (fun q=>?_)
   .have q:j<fs.length:=by simpa using q
    obtain ⟨a,ea⟩:∃x,fs[j]?=some x:=⟨fs[j],by simp [q]⟩
    have ham:=fa3 a (zla ea)
    have hI:=D7 xs (by omega) a.n
    have hyl:=Tg xa3 a.n
    have E8:MZ AT xs a=if ((BY xs a.n).isSome&&LB ((BY xs a.n).getD UH).tn ((BY xs a.n).getD UH).tw a.tn a.tw)=true then [] else [.mk 22 (AT++⟨#[40]⟩++a.n++⟨#[41]⟩)]:=rfl
    obtain ⟨R,hR⟩:=A7 (BY xs a.n)
    rw [hR] at hI hyl E8
    unfold PK at hI
    obtain ⟨y,hy⟩:=A7 (R.getD UH)
    obtain ⟨rb,Vr⟩:=A7 (R.isSome)
    rw [hy] at hI hyl E8
    rw [Vr] at hI E8
    have hQ:=GF y.tn a.tn y.tw a.tw (by omega) (by have:=ham.1.1;omega)
    obtain ⟨sb,Vh⟩:=A7 (LB y.tn y.tw a.tn a.tw)
    rw [Vh] at hQ E8
    unfold DW at hQ
    have y1:AT.size+((#[40]:Array UInt8).size+(a.n.size+(#[41]:Array UInt8).size))<=9223372036854775807:=by show AT.size+(1+(a.n.size+1))<=9223372036854775807;omega
    have y2:AT.size+((#[40]:Array UInt8).size+a.n.size)<=9223372036854775807:=by show AT.size+(1+a.n.size)<=9223372036854775807;omega
    have y3:AT.size+(#[40]:Array UInt8).size<=9223372036854775807:=by show AT.size+1<=9223372036854775807;omega
    have u1:¬n+10=m:=by omega
    have u2:¬n+9=m:=by omega
    have k1:(L.length+1)*24<=140737488355328:=by omega
    have k2:L.length<=9223372036854775806:=by omega
    have eg:(Ab AD fs)[j]?=some [.s a.n,.s a.tn,.ds (Ab D2 a.tw),.b a.has,.i .i64 a.d.k,.i .i64 a.d.n,.s a.d.s,.ds (Ab Aw a.d.items),.ds (Bq a.d.keys),.ds (Ab F9 a.dirs)]:=Aa AD ea
    simp only [AD] at hI
    simp (disch:=omega) only [q,Ad (Aa AD ea),go_sem]
    refine Au.f (fun _ _ _=>hI _ _) ?_
    simp (disch:=omega) only [q,Ad (Aa AD ea),go_sem]
    refine ⟨⟨u1,u2⟩,?_⟩
    simp (disch:=omega) only [eg,zlc,zle,za,zf,z8,zlr,z7,zb,zc,and_self,Bt,true_and,go_sem]
    refine AJ.f (fun _ _ _=>hQ _ _) ?_
    cases rb with
    |false=>
     simp only [zy,z1p,if_false] at E8
     simp (disch:=omega) only [q,Ad (Aa AD ea),Ck,k1,k2,y1,y2,y3,true_and,Aq,go_sem]
     refine ⟨.mk (j+1) (g+1) (L++[.mk 22 (AT++⟨#[40]⟩++a.n++⟨#[41]⟩)]) (n+200),⟨show j+1<=fs.length by omega,show m+5<=n+200 by omega,?_⟩,by show fs.length - (j+1)<fs.length - j;omega,?_⟩
     .show _=_
      rw [Bo ea,E8,At]
      simp [zlf]
     dsimp only
     refine EU hf ?_ ?_ ?_ ?_ (fun a ha d5=>?_) (by omega)
     .simp (disch:=omega) only [Ao j (by omega),zld,zlc,zle,go_sem]
      try simp [ze]
     .simp (disch:=omega) only [Ax,Aq,zlf,go_sem]
      try simp [zlf]
     .simp (disch:=omega) only [go_sem]
     .simp (disch:=omega) only [go_sem]
     .repeat rw [Ak _ _ (by omega)]
    |true=>
     cases sb with
     |false=>
      simp only [z26,z1p,if_false] at E8
      simp (disch:=omega) only [q,Ad (Aa AD ea),Ck,k1,k2,y1,y2,y3,true_and,Aq,go_sem]
      refine ⟨.mk (j+1) (g+1) (L++[.mk 22 (AT++⟨#[40]⟩++a.n++⟨#[41]⟩)]) (n+200),⟨show j+1<=fs.length by omega,show m+5<=n+200 by omega,?_⟩,by show fs.length - (j+1)<fs.length - j;omega,?_⟩
      .show _=_
       rw [Bo ea,E8,At]
       simp [zlf]
      dsimp only
      refine EU hf ?_ ?_ ?_ ?_ (fun a ha d5=>?_) (by omega)
      .simp (disch:=omega) only [Ao j (by omega),zld,zlc,zle,go_sem]
       try simp [ze]
      .simp (disch:=omega) only [Ax,Aq,zlf,go_sem]
       try simp [zlf]
      .simp (disch:=omega) only [go_sem]
      .simp (disch:=omega) only [go_sem]
      .repeat rw [Ak _ _ (by omega)]
     |true=>
      simp only [Bool.and_self,if_true] at E8
      simp (disch:=omega) only [q,Ad (Aa AD ea),Ck,k1,k2,true_and,go_sem]
      refine ⟨.mk (j+1) (g) (L) (n+200),⟨show j+1<=fs.length by omega,show m+5<=n+200 by omega,?_⟩,by show fs.length - (j+1)<fs.length - j;omega,?_⟩
      .show _=_
       rw [Bo ea,E8,At]
       simp [zlf]
      dsimp only
      refine EU hf ?_ ?_ ?_ ?_ (fun a ha d5=>?_) (by omega)
      .simp (disch:=omega) only [Ao j (by omega),zld,zlc,zle,go_sem]
       try simp [ze]
      .simp (disch:=omega) only [Ax,Aq,zlf,go_sem]
       try simp [zlf]
      .simp (disch:=omega) only [go_sem]
      .simp (disch:=omega) only [go_sem]
      .repeat rw [Ak _ _ (by omega)]
   have q:j=fs.length:=by simp at q;omega
   subst q
   rw [zlj] at At
   simp (disch:=omega) only [go_sem]
   refine loop (fun p:R1=>match p with
    | .mk j g L n=>⟨[(5,.bx (m+2) 0),(7,.s AT),(8,.bx (m+3) 0),(10,.rw (m+4) g L.length),(14,.i .i64 j)],(m+4,.rw g 2 (Ab AM L))::(m+3,.bx [.s x.n,.ds (Ab AD xs),.s x.tn,.ds x.tw,.ds x.dirs])::(m+2,.bx [.s f.n,.ds (Ab AD fs),.s f.tn,.ds f.tw,.ds f.dirs])::hp,n⟩)
    (fun p=>match p with | .mk j g L n=>j<=xs.length∧m+5<=n∧L=([.mk 10 AT])++fs.flatMap (MZ AT xs)++(xs.take j).flatMap (R8 AT fs)) (fun p=>match p with | .mk j g L n=>xs.length - j) (.mk 0 g L n) ?_ ?_ (fun p hj=>?_)
   .exact ⟨zw _,Be,by rw [At];simp⟩
   .dsimp only
    refine EU hf ?_ ?_ ?_ ?_ (fun a ha d5=>?_) (zna _)
    .simp (disch:=omega) only [go_sem]
    .simp (disch:=omega) only [go_sem]
    .simp (disch:=omega) only [go_sem]
    .simp (disch:=omega) only [go_sem]
    .repeat rw [Ak _ _ (by omega)]
   clear Be At Ck Ve
   obtain ⟨j,g,L,n⟩:=p
   obtain ⟨Cq,Be,At⟩:=hj
   have Ck:(Ab AM L).length=L.length:=As _ _
   have hfl2:=Cc (G6 AT xs) fs
   have Hf:=Cc (K1 AT fs) (xs.take j)
   have Ve:L.length<=33:=by rw [At,zld,zld];rw [zlo] at Hf;simp only [zlc,zle];omega
   dsimp only
   simp (disch:=omega) only [go_sem]
   refine Af (fun q=>?_) (fun q=>?_)
   .have q:j<xs.length:=by simpa using q
    obtain ⟨a,ea⟩:∃x,xs[j]?=some x:=⟨xs[j],by simp [q]⟩
    have ham:=xa3 a (zla ea)
    have hI:=D7 fs (by omega) a.n
    have E8:R8 AT fs a=if (!(BY fs a.n).isSome&&Ga a.tw&&!a.has)=true then [.mk 22 (AT++⟨#[40]⟩++a.n++⟨#[41]⟩)] else []:=rfl
    obtain ⟨R,hR⟩:=A7 (BY fs a.n)
    rw [hR] at hI E8
    unfold PK at hI
    obtain ⟨y,hy⟩:=A7 (R.getD UH)
    obtain ⟨rb,Vr⟩:=A7 (R.isSome)
    rw [hy] at hI
    rw [Vr] at hI E8
    have hQ:=DT a.tn a.tw (by have:=ham.1.1;omega)
    obtain ⟨nb,hnb⟩:=A7 (Ga a.tw)
    obtain ⟨ab,Vs⟩:=A7 (a.has)
    rw [hnb] at hQ E8
    rw [Vs] at E8
    unfold DW at hQ
    have y1:AT.size+((#[40]:Array UInt8).size+(a.n.size+(#[41]:Array UInt8).size))<=9223372036854775807:=by show AT.size+(1+(a.n.size+1))<=9223372036854775807;omega
    have y2:AT.size+((#[40]:Array UInt8).size+a.n.size)<=9223372036854775807:=by show AT.size+(1+a.n.size)<=9223372036854775807;omega
    have y3:AT.size+(#[40]:Array UInt8).size<=9223372036854775807:=by show AT.size+1<=9223372036854775807;omega
    have u1:¬n+10=m:=by omega
    have u2:¬n+9=m:=by omega
    have k1:(L.length+1)*24<=140737488355328:=by omega
    have k2:L.length<=9223372036854775806:=by omega
    have eg:(Ab AD xs)[j]?=some [.s a.n,.s a.tn,.ds (Ab D2 a.tw),.b ab,.i .i64 a.d.k,.i .i64 a.d.n,.s a.d.s,.ds (Ab Aw a.d.items),.ds (Bq a.d.keys),.ds (Ab F9 a.dirs)]:=by rw [<-Vs];exact Aa AD ea
    simp only [AD] at hI
    simp (disch:=omega) only [q,Ad eg,go_sem]
    refine Au.f (fun _ _ _=>hI _ _) ?_
    simp (disch:=omega) only [q,Ad eg,eg,zlc,zle,za,zf,z8,zlr,z7,zb,and_self,go_sem]
    refine ⟨⟨u2,u1⟩,?_⟩
    cases rb with
    |true=>
     simp only [zu,zp,zy,zt,z2n,z26,z1p,if_false,if_true] at E8
     simp (disch:=omega) only [q,Ad eg,eg,zlc,zle,za,zf,z8,zlr,z7,zb,zc,and_self,Bt,true_and,go_sem]
     refine BU ?_
     simp (disch:=omega) only [q,Ad eg,Ck,eg,zlc,zle,za,zf,z8,zlr,z7,zb,zc,and_self,Bt,true_and,go_sem]
     refine ⟨.mk (j+1) (g) (L) (n+200),⟨show j+1<=xs.length by omega,show m+5<=n+200 by omega,?_⟩,by show xs.length - (j+1)<xs.length - j;omega,?_⟩
     .show _=_
      rw [Bo ea,E8,At]
      simp [zlf]
     dsimp only
     refine EU hf ?_ ?_ ?_ ?_ (fun a ha d5=>?_) (by omega)
     .simp (disch:=omega) only [Ao j (by omega),zld,zlc,zle,go_sem]
      try simp [ze]
     .simp (disch:=omega) only [Ax,Aq,zlf,go_sem]
      try simp [zlf]
     .simp (disch:=omega) only [go_sem]
     .simp (disch:=omega) only [go_sem]
     .repeat rw [Ak _ _ (by omega)]
    |false=>
     simp (disch:=omega) only [q,Ad eg,eg,zlc,zle,za,zf,z8,zlr,z7,zb,zc,and_self,Bt,true_and,go_sem]
     refine AH.f (fun _=>hQ _ _) ?_
     cases nb with
     |false=>
      simp only [zu,zp,zy,zt,z2n,z26,z1p,if_false,if_true] at E8
      simp (disch:=omega) only [q,Ad eg,Ck,eg,zlc,zle,za,zf,z8,zlr,z7,zb,zc,and_self,Bt,true_and,go_sem]
      refine ⟨.mk (j+1) (g) (L) (n+200),⟨show j+1<=xs.length by omega,show m+5<=n+200 by omega,?_⟩,by show xs.length - (j+1)<xs.length - j;omega,?_⟩
      .show _=_
       rw [Bo ea,E8,At]
       simp [zlf]
      dsimp only
      refine EU hf ?_ ?_ ?_ ?_ (fun a ha d5=>?_) (by omega)
      .simp (disch:=omega) only [Ao j (by omega),zld,zlc,zle,go_sem]
       try simp [ze]
      .simp (disch:=omega) only [Ax,Aq,zlf,go_sem]
       try simp [zlf]
      .simp (disch:=omega) only [go_sem]
      .simp (disch:=omega) only [go_sem]
      .repeat rw [Ak _ _ (by omega)]
     |true=>
      cases ab with
      |true=>
       simp only [zu,zp,zy,zt,z2n,z26,z1p,if_false,if_true] at E8
       simp (disch:=omega) only [q,Ad eg,Ck,eg,zlc,zle,za,zf,z8,zlr,z7,zb,zc,and_self,Bt,true_and,go_sem]
       refine ⟨.mk (j+1) (g) (L) (n+200),⟨show j+1<=xs.length by omega,show m+5<=n+200 by omega,?_⟩,by show xs.length - (j+1)<xs.length - j;omega,?_⟩
       .show _=_
        rw [Bo ea,E8,At]
        simp [zlf]
       dsimp only
       refine EU hf ?_ ?_ ?_ ?_ (fun a ha d5=>?_) (by omega)
       .simp (disch:=omega) only [Ao j (by omega),zld,zlc,zle,go_sem]
        try simp [ze]
       .simp (disch:=omega) only [Ax,Aq,zlf,go_sem]
        try simp [zlf]
       .simp (disch:=omega) only [go_sem]
       .simp (disch:=omega) only [go_sem]
       .repeat rw [Ak _ _ (by omega)]
      |false=>
       simp only [zu,zp,zy,zt,z2n,z26,z1p,if_false,if_true] at E8
       simp (disch:=omega) only [q,Ad eg,Ck,k1,k2,y1,y2,y3,Aq,eg,zlc,zle,za,zf,z8,zlr,z7,zb,zc,and_self,Bt,true_and,go_sem]
       refine ⟨.mk (j+1) (g+1) (L++[.mk 22 (AT++⟨#[40]⟩++a.n++⟨#[41]⟩)]) (n+200),⟨show j+1<=xs.length by omega,show m+5<=n+200 by omega,?_⟩,by show xs.length - (j+1)<xs.length - j;omega,?_⟩
       .show _=_
        rw [Bo ea,E8,At]
        simp [zlf]
       dsimp only
       refine EU hf ?_ ?_ ?_ ?_ (fun a ha d5=>?_) (by omega)
       .simp (disch:=omega) only [Ao j (by omega),zld,zlc,zle,go_sem]
        try simp [ze]
       .simp (disch:=omega) only [Ax,Aq,zlf,go_sem]
        try simp [zlf]
       .simp (disch:=omega) only [go_sem]
       .simp (disch:=omega) only [go_sem]
       .repeat rw [Ak _ _ (by omega)]
   have q:j=xs.length:=by simp at q;omega
   subst q
   rw [zlj] at At
   try subst At
   simp (disch:=omega) only [go_sem]
