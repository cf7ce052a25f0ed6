/- Proof. Conditions: none. -/
import Derived.Test.YtgfidgoefioigaaGreatDoorIj40
noncomputable section
open List renaming drop_succ_cons->za,drop_zero->ze,take_succ_cons->z7
open Option renaming map_some->z8,isSome_some->zb,getD_some->zc
open Nat renaming zero_le->zt,add_assoc->zd
open Bool renaming false_and->z11,false_eq_true->z1m,and_false->z25,not_true->zp,not_false->zi,true_and->zv,and_true->z2n
open Go.Proofs.Tryz
open List renaming mem_of_getElem?->zla,length_cons->zlc,length_append->zld,length_nil->zle,append_assoc->zlf,take_length->zlj,length_take->zlo,take_zero->zlr
open Nat renaming le_refl->zna
namespace Go.Proofs.YtgfidgoefioigaaGreatDoor
open Go.Eng
set_option linter.all false
set_option maxRecDepth 20000
set_option maxHeartbeats 2000000
def Ys (doc:List Aw) (n:qB) (w:List Int) (n':qB) (w':List Int):Bool:=by
 classical
 exact if h:∃r:Bool,∀hp m,Af prog 163 hp m [B0 doc,D1 n w,D1 n' w'] (.b r) then Classical.choose h else false
theorem ZI (doc:List Aw) (hd:DocOk doc) (n n':qB) (w w':List Int) (h:w.length+w'.length<=1000000) (hp:CH) (m:Nat):Af prog 163 hp m [B0 doc,D1 n w,D1 n' w'] (.b (Ys doc n w n' w')):=by
 have h2:=Af5 doc hd n n' _ w w' rfl h
 unfold Ys
 rw [dif_pos h2]
 exact Classical.choose_spec h2 hp m
def NF (d8:qB) (xs:List BN) (a:BN):List Dn:=if ((Cd xs a.n).isSome&&Ml ((Cd xs a.n).getD Vk).tn ((Cd xs a.n).getD Vk).tw a.tn a.tw)=true then [] else [.mk 22 (d8++⟨#[40]⟩++a.n++⟨#[41]⟩)]
def Se (d8:qB) (fs:List BN) (a:BN):List Dn:=if (!(Cd fs a.n).isSome&&Gk a.tw&&!a.has)=true then [.mk 22 (d8++⟨#[40]⟩++a.n++⟨#[41]⟩)] else []
theorem GT (d8:qB) (xs:List BN) (a:BN):(NF d8 xs a).length<=1:=by
 unfold NF;split<;>simp
theorem Lm (d8:qB) (xs:List BN) (a:BN):(Se d8 xs a).length<=1:=by
 unfold Se;split<;>simp
theorem Cj {U β:Type} {A:U->List β} (h:∀x,(A x).length<=1) (l:List U):(l.flatMap A).length<=l.length:=by
 induction l with
 |nil=>simp
 |cons a l ih=>rw [List.flatMap_cons,zld,zlc];have:=h a;omega
theorem Bs {U β:Type} {A:U->List β} {l:List U} {j:Nat} {x:U} (e:l[j]?=some x):(l.take (j+1)).flatMap A=(l.take j).flatMap A++A x:=by
 rw [List.take_add_one,e,List.flatMap_append]
 simp
def NK (doc:List Aw) (AT:qB) (f:Cy):Option Cy->List Dn
 |none=>[.mk 20 AT]
 |some x=>(if Ys doc x.tn (J0 x.tw) f.tn (J0 f.tw)=true then [] else [.mk 10 AT])++(Bm f.args).flatMap (NF AT (Bm x.args))++(Bm x.args).flatMap (Se AT (Bm f.args))
def GH (doc:List Aw) (t:Aw) (f:Cy):List Dn:=NK doc (t.n++⟨#[46]⟩++f.n) f (D3 t.fields f.n)
theorem Bl (x:Bool):imp x (true=true)=True:=eq_true fun _=>rfl
theorem T9 {l:List BN} (h:∀x∈l,H7 x∧x.n.size<=64) (n:qB):((Cd l n).getD Vk).tw.length<=1000000000:=by
 cases e:Cd l n with
 |none=>show ([]:List Int).length<=_;simp
 |some y=>exact (h y (List.mem_of_find?_eq_some e)).1.1
theorem Q4 (doc:List Aw) (hd:DocOk doc) (t:Aw) (ht:DfnB t) (f:Cy) (QU:FldB f) (hp:CH) (m:Nat):Af prog 133 hp m [B0 doc,Mc t,flx f] (.ds (Ab AR (GH doc t f))):=by
 have hF:=No t (by have:=ht.fl;omega) f.n
 have htn:=ht.n
 have hfn:=QU.n
 have z1:t.n.size+(#[46]:Array UInt8).size<=9223372036854775807:=by show t.n.size+1<=9223372036854775807;omega
 have z2:t.n.size+((#[46]:Array UInt8).size+f.n.size)<=9223372036854775807:=by show t.n.size+(1+f.n.size)<=9223372036854775807;omega
 have hxB:∀x,D3 t.fields f.n=some x->FldB x:=fun x h=>ht.f x (List.mem_of_find?_eq_some h)
 unfold GH
 obtain ⟨X,hX⟩:=A5 (D3 t.fields f.n)
 obtain ⟨AT,hAT⟩:=A5 (t.n++⟨#[46]⟩++f.n)
 have hATs:AT.size<=129:=by rw [<-hAT];simp only [ByteArray.size_append,e46];omega
 rw [hX,hAT]
 rw [hX] at hF hxB
 unfold R1 at hF
 obtain ⟨fa1,fa2,fa3⟩:=BO QU.a
 cases X with
 |none=>
  refine Aj func133 (tA cc133) (tB cc133) (tC cc133) rfl fun hf=>?_;unfold ck133
  simp (disch:=omega) only [z1,z2,true_and,hAT,go_sem]
  refine Ac.f (hF _ _) ?_
  simp (disch:=omega) only [go_sem]
  try rfl
 |some x=>
  have hx:=hxB x rfl
  obtain ⟨xa1,xa2,xa3⟩:=BO hx.a
  have hS:=ZI doc hd x.tn f.tn (J0 x.tw) (J0 f.tw) (by rw [IB,IB];have:=hx.tl;have:=QU.tl;omega)
  unfold NK
  obtain ⟨sb,VC⟩:=A5 (Ys doc x.tn (J0 x.tw) f.tn (J0 f.tw))
  obtain ⟨xs,hxs⟩:=A5 (Bm x.args)
  obtain ⟨fs,Ku⟩:=A5 (Bm f.args)
  rw [hxs] at xa1 xa2 xa3
  rw [Ku] at fa1 fa2 fa3
  rw [VC] at hS
  simp only [VC,hxs,Ku]
  unfold D1 at hS
  rw [<-hx.tw,<-QU.tw] at hS
  obtain ⟨P,hP⟩:∃P:List Dn,(if sb=true then [] else [.mk 10 AT])=P:=⟨_,rfl⟩
  have hPl:P.length<=1:=by rw [<-hP];split<;>simp
  rw [hP]
  refine Aj func133 (tA cc133) (tB cc133) (tC cc133) rfl fun hf=>?_;unfold ck133
  simp (disch:=omega) only [z1,z2,true_and,hAT,go_sem]
  refine Ac.f (hF _ _) ?_
  simp (disch:=omega) only [fa1,xa1,hAT,go_sem]
  refine Ac.f (hS _ _) ?_
  cases sb with
  |true=>
   simp (disch:=omega) only [go_sem]
   have hP:([]:List Dn)=P:=hP
   subst hP
   refine loop (fun p:RY=>match p with
    | .mk j g L n=>⟨[(5,.bx (m+2) 0),(7,.s AT),(8,.bx (m+3) 0),(10,.rw (m+4) g L.length),(11,.i .i64 j)],(m+4,.rw g 2 (Ab AR L))::(m+3,.bx [.s x.n,.ds (Ab AD xs),.s x.tn,.ds x.tw,.ds x.dirs])::(m+2,.bx [.s f.n,.ds (Ab AD fs),.s f.tn,.ds f.tw,.ds f.dirs])::hp,n⟩)
    (fun p=>match p with | .mk j g L n=>j<=fs.length∧m+5<=n∧L=([])++(fs.take j).flatMap (NF AT xs)) (fun p=>match p with | .mk j g L n=>fs.length - j) (.mk 0 0 ([]) (m+5)) ?_ ?_ (fun p hj=>?_)
   .exact ⟨zt _,zna _,by simp⟩
   .dsimp only
    refine (Bo (t:=10) (m:=2) (by (simp (disch:=omega) only [go_sem]))).trans (Fm hf ?_ ?_ ?_ ?_ (fun a ha c7=>?_) (zna _))
    .simp (disch:=omega) only [go_sem]
     try rfl
    .simp (disch:=omega) only [go_sem]
     try rfl
    .simp (disch:=omega) only [go_sem]
     try rfl
    .simp (disch:=omega) only [go_sem]
     try rfl
    .repeat rw [Ai _ _ (by omega)]
   obtain ⟨j,g,L,n⟩:=p
   obtain ⟨Cg,Bc,As⟩:=hj
   have BS:(Ab AR L).length=L.length:=Ao _ _
   have Fn:=Cj (GT AT xs) (fs.take j)
   have QK:L.length<=17:=by rw [As,zld];rw [zlo] at Fn;simp only [zlc,zle];omega
   dsimp only
   simp (disch:=omega) only [go_sem]
   refine Ae (fun q=>?_) (fun q=>?_)
   .have q:j<fs.length:=by simpa using q
    obtain ⟨a,ea⟩:∃x,fs[j]?=some x:=⟨fs[j],by simp [q]⟩
    have ham:=fa3 a (zla ea)
    have hI:=DR xs (by omega) a.n
    have hyl:=T9 xa3 a.n
    have EP:NF AT xs a=if ((Cd xs a.n).isSome&&Ml ((Cd xs a.n).getD Vk).tn ((Cd xs a.n).getD Vk).tw a.tn a.tw)=true then [] else [.mk 22 (AT++⟨#[40]⟩++a.n++⟨#[41]⟩)]:=rfl
    obtain ⟨R,hR⟩:=A5 (Cd xs a.n)
    rw [hR] at hI hyl EP
    unfold Qi at hI
    obtain ⟨y,hy⟩:=A5 (R.getD Vk)
    obtain ⟨rb,VQ⟩:=A5 (R.isSome)
    rw [hy] at hI hyl EP
    rw [VQ] at hI EP
    have hQ:=GY y.tn a.tn y.tw a.tw (by omega) (by have:=ham.1.1;omega)
    obtain ⟨sb,VC⟩:=A5 (Ml y.tn y.tw a.tn a.tw)
    rw [VC] at hQ EP
    unfold D1 at hQ
    have y1:AT.size+((#[40]:Array UInt8).size+(a.n.size+(#[41]:Array UInt8).size))<=9223372036854775807:=by show AT.size+(1+(a.n.size+1))<=9223372036854775807;omega
    have y2:AT.size+((#[40]:Array UInt8).size+a.n.size)<=9223372036854775807:=by show AT.size+(1+a.n.size)<=9223372036854775807;omega
    have y3:AT.size+(#[40]:Array UInt8).size<=9223372036854775807:=by show AT.size+1<=9223372036854775807;omega
    have u1:¬n+10=m:=by omega
    have u2:¬n+9=m:=by omega
    have k1:(L.length+1)*24<=140737488355328:=by omega
    have k2:L.length<=9223372036854775806:=by omega
    have eg:(Ab AD fs)[j]?=some [.s a.n,.s a.tn,.ds (Ab D0 a.tw),.b a.has,.i .i64 a.d.k,.i .i64 a.d.n,.s a.d.s,.ds (Ab Ar a.d.items),.ds (Bd a.d.keys),.ds (Ab FT a.dirs)]:=Aa AD ea
    simp only [AD] at hI
    simp (disch:=omega) only [q,Ad (Aa AD ea),go_sem]
    refine Aq.f (fun _ _ _=>hI _ _) ?_
    simp (disch:=omega) only [q,Ad (Aa AD ea),go_sem]
    refine ⟨⟨u1,u2⟩,?_⟩
    simp (disch:=omega) only [eg,zlc,zle,za,ze,z7,zlr,z8,zb,zc,and_self,Bl,true_and,go_sem]
    refine AC.f (fun _ _ _=>hQ _ _) ?_
    cases rb with
    |false=>
     simp only [z11,z1m,if_false] at EP
     simp (disch:=omega) only [q,Ad (Aa AD ea),BS,k1,k2,y1,y2,y3,true_and,Av,go_sem]
     refine ⟨.mk (j+1) (g+1) (L++[.mk 22 (AT++⟨#[40]⟩++a.n++⟨#[41]⟩)]) (n+200),⟨show j+1<=fs.length by omega,show m+5<=n+200 by omega,?_⟩,by show fs.length - (j+1)<fs.length - j;omega,?_⟩
     .show _=_
      rw [Bs ea,EP,As]
      simp [zlf]
     dsimp only
     refine Fm hf ?_ ?_ ?_ ?_ (fun a ha c7=>?_) (by omega)
     .simp (disch:=omega) only [Ap j (by omega),zld,zlc,zle,go_sem]
      try simp [zd]
     .simp (disch:=omega) only [Ay,Av,zlf,go_sem]
      try simp [zlf]
     .simp (disch:=omega) only [go_sem]
     .simp (disch:=omega) only [go_sem]
     .repeat rw [Ai _ _ (by omega)]
    |true=>
     cases sb with
     |false=>
      simp only [z25,z1m,if_false] at EP
      simp (disch:=omega) only [q,Ad (Aa AD ea),BS,k1,k2,y1,y2,y3,true_and,Av,go_sem]
      refine ⟨.mk (j+1) (g+1) (L++[.mk 22 (AT++⟨#[40]⟩++a.n++⟨#[41]⟩)]) (n+200),⟨show j+1<=fs.length by omega,show m+5<=n+200 by omega,?_⟩,by show fs.length - (j+1)<fs.length - j;omega,?_⟩
      .show _=_
       rw [Bs ea,EP,As]
       simp [zlf]
      dsimp only
      refine Fm hf ?_ ?_ ?_ ?_ (fun a ha c7=>?_) (by omega)
      .simp (disch:=omega) only [Ap j (by omega),zld,zlc,zle,go_sem]
       try simp [zd]
      .simp (disch:=omega) only [Ay,Av,zlf,go_sem]
       try simp [zlf]
      .simp (disch:=omega) only [go_sem]
      .simp (disch:=omega) only [go_sem]
      .repeat rw [Ai _ _ (by omega)]
     |true=>
      simp only [Bool.and_self,if_true] at EP
      simp (disch:=omega) only [q,Ad (Aa AD ea),BS,k1,k2,true_and,go_sem]
      refine ⟨.mk (j+1) (g) (L) (n+200),⟨show j+1<=fs.length by omega,show m+5<=n+200 by omega,?_⟩,by show fs.length - (j+1)<fs.length - j;omega,?_⟩
      .show _=_
       rw [Bs ea,EP,As]
       simp [zlf]
      dsimp only
      refine Fm hf ?_ ?_ ?_ ?_ (fun a ha c7=>?_) (by omega)
      .simp (disch:=omega) only [Ap j (by omega),zld,zlc,zle,go_sem]
       try simp [zd]
      .simp (disch:=omega) only [Ay,Av,zlf,go_sem]
       try simp [zlf]
      .simp (disch:=omega) only [go_sem]
      .simp (disch:=omega) only [go_sem]
      .repeat rw [Ai _ _ (by omega)]
   have q:j=fs.length:=by simp at q;omega
   subst q
   rw [zlj] at As
   simp (disch:=omega) only [go_sem]
   refine loop (fun p:RY=>match p with
    | .mk j g L n=>⟨[(5,.bx (m+2) 0),(7,.s AT),(8,.bx (m+3) 0),(10,.rw (m+4) g L.length),(14,.i .i64 j)],(m+4,.rw g 2 (Ab AR L))::(m+3,.bx [.s x.n,.ds (Ab AD xs),.s x.tn,.ds x.tw,.ds x.dirs])::(m+2,.bx [.s f.n,.ds (Ab AD fs),.s f.tn,.ds f.tw,.ds f.dirs])::hp,n⟩)
    (fun p=>match p with | .mk j g L n=>j<=xs.length∧m+5<=n∧L=([])++fs.flatMap (NF AT xs)++(xs.take j).flatMap (Se AT fs)) (fun p=>match p with | .mk j g L n=>xs.length - j) (.mk 0 g L n) ?_ ?_ (fun p hj=>?_)
   .exact ⟨zt _,Bc,by rw [As];simp⟩
   .dsimp only
    refine Fm hf ?_ ?_ ?_ ?_ (fun a ha c7=>?_) (zna _)
    .simp (disch:=omega) only [go_sem]
    .simp (disch:=omega) only [go_sem]
    .simp (disch:=omega) only [go_sem]
    .simp (disch:=omega) only [go_sem]
    .repeat rw [Ai _ _ (by omega)]
   clear Bc As BS QK
   obtain ⟨j,g,L,n⟩:=p
   obtain ⟨Cg,Bc,As⟩:=hj
   have BS:(Ab AR L).length=L.length:=Ao _ _
   have hfl2:=Cj (GT AT xs) fs
   have Fn:=Cj (Lm AT fs) (xs.take j)
   have QK:L.length<=33:=by rw [As,zld,zld];rw [zlo] at Fn;simp only [zlc,zle];omega
   dsimp only
   simp (disch:=omega) only [go_sem]
   refine Ae (fun q=>?_) (fun q=>?_)
   .have q:j<xs.length:=by simpa using q
    obtain ⟨a,ea⟩:∃x,xs[j]?=some x:=⟨xs[j],by simp [q]⟩
    have ham:=xa3 a (zla ea)
    have hI:=DR fs (by omega) a.n
    have EP:Se AT fs a=if (!(Cd fs a.n).isSome&&Gk a.tw&&!a.has)=true then [.mk 22 (AT++⟨#[40]⟩++a.n++⟨#[41]⟩)] else []:=rfl
    obtain ⟨R,hR⟩:=A5 (Cd fs a.n)
    rw [hR] at hI EP
    unfold Qi at hI
    obtain ⟨y,hy⟩:=A5 (R.getD Vk)
    obtain ⟨rb,VQ⟩:=A5 (R.isSome)
    rw [hy] at hI
    rw [VQ] at hI EP
    have hQ:=DE a.tn a.tw (by have:=ham.1.1;omega)
    obtain ⟨nb,hnb⟩:=A5 (Gk a.tw)
    obtain ⟨ab,VT⟩:=A5 (a.has)
    rw [hnb] at hQ EP
    rw [VT] at EP
    unfold D1 at hQ
    have y1:AT.size+((#[40]:Array UInt8).size+(a.n.size+(#[41]:Array UInt8).size))<=9223372036854775807:=by show AT.size+(1+(a.n.size+1))<=9223372036854775807;omega
    have y2:AT.size+((#[40]:Array UInt8).size+a.n.size)<=9223372036854775807:=by show AT.size+(1+a.n.size)<=9223372036854775807;omega
    have y3:AT.size+(#[40]:Array UInt8).size<=9223372036854775807:=by show AT.size+1<=9223372036854775807;omega
    have u1:¬n+10=m:=by omega
    have u2:¬n+9=m:=by omega
    have k1:(L.length+1)*24<=140737488355328:=by omega
    have k2:L.length<=9223372036854775806:=by omega
    have eg:(Ab AD xs)[j]?=some [.s a.n,.s a.tn,.ds (Ab D0 a.tw),.b ab,.i .i64 a.d.k,.i .i64 a.d.n,.s a.d.s,.ds (Ab Ar a.d.items),.ds (Bd a.d.keys),.ds (Ab FT a.dirs)]:=by rw [<-VT];exact Aa AD ea
    simp only [AD] at hI
    simp (disch:=omega) only [q,Ad eg,go_sem]
    refine Aq.f (fun _ _ _=>hI _ _) ?_
    simp (disch:=omega) only [q,Ad eg,eg,zlc,zle,za,ze,z7,zlr,z8,zb,and_self,go_sem]
    refine ⟨⟨u2,u1⟩,?_⟩
    cases rb with
    |true=>
     simp only [zp,zi,z11,zv,z2n,z25,z1m,if_false,if_true] at EP
     simp (disch:=omega) only [q,Ad eg,eg,zlc,zle,za,ze,z7,zlr,z8,zb,zc,and_self,Bl,true_and,go_sem]
     refine BL ?_
     simp (disch:=omega) only [q,Ad eg,BS,eg,zlc,zle,za,ze,z7,zlr,z8,zb,zc,and_self,Bl,true_and,go_sem]
     refine ⟨.mk (j+1) (g) (L) (n+200),⟨show j+1<=xs.length by omega,show m+5<=n+200 by omega,?_⟩,by show xs.length - (j+1)<xs.length - j;omega,?_⟩
     .show _=_
      rw [Bs ea,EP,As]
      simp [zlf]
     dsimp only
     refine Fm hf ?_ ?_ ?_ ?_ (fun a ha c7=>?_) (by omega)
     .simp (disch:=omega) only [Ap j (by omega),zld,zlc,zle,go_sem]
      try simp [zd]
     .simp (disch:=omega) only [Ay,Av,zlf,go_sem]
      try simp [zlf]
     .simp (disch:=omega) only [go_sem]
     .simp (disch:=omega) only [go_sem]
     .repeat rw [Ai _ _ (by omega)]
    |false=>
     simp (disch:=omega) only [q,Ad eg,eg,zlc,zle,za,ze,z7,zlr,z8,zb,zc,and_self,Bl,true_and,go_sem]
     refine AH.f (fun _=>hQ _ _) ?_
     cases nb with
     |false=>
      simp only [zp,zi,z11,zv,z2n,z25,z1m,if_false,if_true] at EP
      simp (disch:=omega) only [q,Ad eg,BS,eg,zlc,zle,za,ze,z7,zlr,z8,zb,zc,and_self,Bl,true_and,go_sem]
      refine ⟨.mk (j+1) (g) (L) (n+200),⟨show j+1<=xs.length by omega,show m+5<=n+200 by omega,?_⟩,by show xs.length - (j+1)<xs.length - j;omega,?_⟩
      .show _=_
       rw [Bs ea,EP,As]
       simp [zlf]
      dsimp only
      refine Fm hf ?_ ?_ ?_ ?_ (fun a ha c7=>?_) (by omega)
      .simp (disch:=omega) only [Ap j (by omega),zld,zlc,zle,go_sem]
       try simp [zd]
      .simp (disch:=omega) only [Ay,Av,zlf,go_sem]
       try simp [zlf]
      .simp (disch:=omega) only [go_sem]
      .simp (disch:=omega) only [go_sem]
      .repeat rw [Ai _ _ (by omega)]
     |true=>
      cases ab with
      |true=>
       simp only [zp,zi,z11,zv,z2n,z25,z1m,if_false,if_true] at EP
       simp (disch:=omega) only [q,Ad eg,BS,eg,zlc,zle,za,ze,z7,zlr,z8,zb,zc,and_self,Bl,true_and,go_sem]
       refine ⟨.mk (j+1) (g) (L) (n+200),⟨show j+1<=xs.length by omega,show m+5<=n+200 by omega,?_⟩,by show xs.length - (j+1)<xs.length - j;omega,?_⟩
       .show _=_
        rw [Bs ea,EP,As]
        simp [zlf]
       dsimp only
       refine Fm hf ?_ ?_ ?_ ?_ (fun a ha c7=>?_) (by omega)
       .simp (disch:=omega) only [Ap j (by omega),zld,zlc,zle,go_sem]
        try simp [zd]
       .simp (disch:=omega) only [Ay,Av,zlf,go_sem]
        try simp [zlf]
       .simp (disch:=omega) only [go_sem]
       .simp (disch:=omega) only [go_sem]
       .repeat rw [Ai _ _ (by omega)]
      |false=>
       simp only [zp,zi,z11,zv,z2n,z25,z1m,if_false,if_true] at EP
       simp (disch:=omega) only [q,Ad eg,BS,k1,k2,y1,y2,y3,Av,eg,zlc,zle,za,ze,z7,zlr,z8,zb,zc,and_self,Bl,true_and,go_sem]
       refine ⟨.mk (j+1) (g+1) (L++[.mk 22 (AT++⟨#[40]⟩++a.n++⟨#[41]⟩)]) (n+200),⟨show j+1<=xs.length by omega,show m+5<=n+200 by omega,?_⟩,by show xs.length - (j+1)<xs.length - j;omega,?_⟩
       .show _=_
        rw [Bs ea,EP,As]
        simp [zlf]
       dsimp only
       refine Fm hf ?_ ?_ ?_ ?_ (fun a ha c7=>?_) (by omega)
       .simp (disch:=omega) only [Ap j (by omega),zld,zlc,zle,go_sem]
        try simp [zd]
       .simp (disch:=omega) only [Ay,Av,zlf,go_sem]
        try simp [zlf]
       .simp (disch:=omega) only [go_sem]
       .simp (disch:=omega) only [go_sem]
       .repeat rw [Ai _ _ (by omega)]
   have q:j=xs.length:=by simp at q;omega
   subst q
   rw [zlj] at As
   try subst As
   simp (disch:=omega) only [go_sem]
  |false=>
   simp (disch:=omega) only [go_sem]
   have hP:[Dn.mk 10 AT]=P:=hP
   subst hP
   refine loop (fun p:RY=>match p with
    | .mk j g L n=>⟨[(5,.bx (m+2) 0),(7,.s AT),(8,.bx (m+3) 0),(10,.rw (m+4) g L.length),(11,.i .i64 j)],(m+4,.rw g 2 (Ab AR L))::(m+3,.bx [.s x.n,.ds (Ab AD xs),.s x.tn,.ds x.tw,.ds x.dirs])::(m+2,.bx [.s f.n,.ds (Ab AD fs),.s f.tn,.ds f.tw,.ds f.dirs])::hp,n⟩)
    (fun p=>match p with | .mk j g L n=>j<=fs.length∧m+5<=n∧L=([.mk 10 AT])++(fs.take j).flatMap (NF AT xs)) (fun p=>match p with | .mk j g L n=>fs.length - j) (.mk 0 0 ([.mk 10 AT]) (m+5)) ?_ ?_ (fun p hj=>?_)
   .exact ⟨zt _,zna _,by simp⟩
   .dsimp only
    refine Fm hf ?_ ?_ ?_ ?_ (fun a ha c7=>?_) (zna _)
    .simp (disch:=omega) only [go_sem]
     try rfl
    .simp (disch:=omega) only [go_sem]
     try rfl
    .simp (disch:=omega) only [go_sem]
     try rfl
    .simp (disch:=omega) only [go_sem]
     try rfl
    .repeat rw [Ai _ _ (by omega)]
   obtain ⟨j,g,L,n⟩:=p
   obtain ⟨Cg,Bc,As⟩:=hj
   have BS:(Ab AR L).length=L.length:=Ao _ _
   have Fn:=Cj (GT AT xs) (fs.take j)
   have QK:L.length<=17:=by rw [As,zld];rw [zlo] at Fn;simp only [zlc,zle];omega
   dsimp only
   simp (disch:=omega) only [go_sem]
   refine Ae (fun q=>?_) (fun q=>?_)
   .have q:j<fs.length:=by simpa using q
    obtain ⟨a,ea⟩:∃x,fs[j]?=some x:=⟨fs[j],by simp [q]⟩
    have ham:=fa3 a (zla ea)
    have hI:=DR xs (by omega) a.n
    have hyl:=T9 xa3 a.n
    have EP:NF AT xs a=if ((Cd xs a.n).isSome&&Ml ((Cd xs a.n).getD Vk).tn ((Cd xs a.n).getD Vk).tw a.tn a.tw)=true then [] else [.mk 22 (AT++⟨#[40]⟩++a.n++⟨#[41]⟩)]:=rfl
    obtain ⟨R,hR⟩:=A5 (Cd xs a.n)
    rw [hR] at hI hyl EP
    unfold Qi at hI
    obtain ⟨y,hy⟩:=A5 (R.getD Vk)
    obtain ⟨rb,VQ⟩:=A5 (R.isSome)
    rw [hy] at hI hyl EP
    rw [VQ] at hI EP
    have hQ:=GY y.tn a.tn y.tw a.tw (by omega) (by have:=ham.1.1;omega)
    obtain ⟨sb,VC⟩:=A5 (Ml y.tn y.tw a.tn a.tw)
    rw [VC] at hQ EP
    unfold D1 at hQ
    have y1:AT.size+((#[40]:Array UInt8).size+(a.n.size+(#[41]:Array UInt8).size))<=9223372036854775807:=by show AT.size+(1+(a.n.size+1))<=9223372036854775807;omega
    have y2:AT.size+((#[40]:Array UInt8).size+a.n.size)<=9223372036854775807:=by show AT.size+(1+a.n.size)<=9223372036854775807;omega
    have y3:AT.size+(#[40]:Array UInt8).size<=9223372036854775807:=by show AT.size+1<=9223372036854775807;omega
    have u1:¬n+10=m:=by omega
    have u2:¬n+9=m:=by omega
    have k1:(L.length+1)*24<=140737488355328:=by omega
    have k2:L.length<=9223372036854775806:=by omega
    have eg:(Ab AD fs)[j]?=some [.s a.n,.s a.tn,.ds (Ab D0 a.tw),.b a.has,.i .i64 a.d.k,.i .i64 a.d.n,.s a.d.s,.ds (Ab Ar a.d.items),.ds (Bd a.d.keys),.ds (Ab FT a.dirs)]:=Aa AD ea
    simp only [AD] at hI
    simp (disch:=omega) only [q,Ad (Aa AD ea),go_sem]
    refine Aq.f (fun _ _ _=>hI _ _) ?_
    simp (disch:=omega) only [q,Ad (Aa AD ea),go_sem]
    refine ⟨⟨u1,u2⟩,?_⟩
    simp (disch:=omega) only [eg,zlc,zle,za,ze,z7,zlr,z8,zb,zc,and_self,Bl,true_and,go_sem]
    refine AC.f (fun _ _ _=>hQ _ _) ?_
    cases rb with
    |false=>
     simp only [z11,z1m,if_false] at EP
     simp (disch:=omega) only [q,Ad (Aa AD ea),BS,k1,k2,y1,y2,y3,true_and,Av,go_sem]
     refine ⟨.mk (j+1) (g+1) (L++[.mk 22 (AT++⟨#[40]⟩++a.n++⟨#[41]⟩)]) (n+200),⟨show j+1<=fs.length by omega,show m+5<=n+200 by omega,?_⟩,by show fs.length - (j+1)<fs.length - j;omega,?_⟩
     .show _=_
      rw [Bs ea,EP,As]
      simp [zlf]
     dsimp only
     refine Fm hf ?_ ?_ ?_ ?_ (fun a ha c7=>?_) (by omega)
     .simp (disch:=omega) only [Ap j (by omega),zld,zlc,zle,go_sem]
      try simp [zd]
     .simp (disch:=omega) only [Ay,Av,zlf,go_sem]
      try simp [zlf]
     .simp (disch:=omega) only [go_sem]
     .simp (disch:=omega) only [go_sem]
     .repeat rw [Ai _ _ (by omega)]
    |true=>
     cases sb with
     |false=>
      simp only [z25,z1m,if_false] at EP
      simp (disch:=omega) only [q,Ad (Aa AD ea),BS,k1,k2,y1,y2,y3,true_and,Av,go_sem]
      refine ⟨.mk (j+1) (g+1) (L++[.mk 22 (AT++⟨#[40]⟩++a.n++⟨#[41]⟩)]) (n+200),⟨show j+1<=fs.length by omega,show m+5<=n+200 by omega,?_⟩,by show fs.length - (j+1)<fs.length - j;omega,?_⟩
      .show _=_
       rw [Bs ea,EP,As]
       simp [zlf]
      dsimp only
      refine Fm hf ?_ ?_ ?_ ?_ (fun a ha c7=>?_) (by omega)
      .simp (disch:=omega) only [Ap j (by omega),zld,zlc,zle,go_sem]
       try simp [zd]
      .simp (disch:=omega) only [Ay,Av,zlf,go_sem]
       try simp [zlf]
      .simp (disch:=omega) only [go_sem]
      .simp (disch:=omega) only [go_sem]
      .repeat rw [Ai _ _ (by omega)]
     |true=>
      simp only [Bool.and_self,if_true] at EP
      simp (disch:=omega) only [q,Ad (Aa AD ea),BS,k1,k2,true_and,go_sem]
      refine ⟨.mk (j+1) (g) (L) (n+200),⟨show j+1<=fs.length by omega,show m+5<=n+200 by omega,?_⟩,by show fs.length - (j+1)<fs.length - j;omega,?_⟩
      .show _=_
       rw [Bs ea,EP,As]
       simp [zlf]
      dsimp only
      refine Fm hf ?_ ?_ ?_ ?_ (fun a ha c7=>?_) (by omega)
      .simp (disch:=omega) only [Ap j (by omega),zld,zlc,zle,go_sem]
       try simp [zd]
      .simp (disch:=omega) only [Ay,Av,zlf,go_sem]
       try simp [zlf]
      .simp (disch:=omega) only [go_sem]
      .simp (disch:=omega) only [go_sem]
      .repeat rw [Ai _ _ (by omega)]
   have q:j=fs.length:=by simp at q;omega
   subst q
   rw [zlj] at As
   simp (disch:=omega) only [go_sem]
   refine loop (fun p:RY=>match p with
    | .mk j g L n=>⟨[(5,.bx (m+2) 0),(7,.s AT),(8,.bx (m+3) 0),(10,.rw (m+4) g L.length),(14,.i .i64 j)],(m+4,.rw g 2 (Ab AR L))::(m+3,.bx [.s x.n,.ds (Ab AD xs),.s x.tn,.ds x.tw,.ds x.dirs])::(m+2,.bx [.s f.n,.ds (Ab AD fs),.s f.tn,.ds f.tw,.ds f.dirs])::hp,n⟩)
    (fun p=>match p with | .mk j g L n=>j<=xs.length∧m+5<=n∧L=([.mk 10 AT])++fs.flatMap (NF AT xs)++(xs.take j).flatMap (Se AT fs)) (fun p=>match p with | .mk j g L n=>xs.length - j) (.mk 0 g L n) ?_ ?_ (fun p hj=>?_)
   .exact ⟨zt _,Bc,by rw [As];simp⟩
   .dsimp only
    refine Fm hf ?_ ?_ ?_ ?_ (fun a ha c7=>?_) (zna _)
    .simp (disch:=omega) only [go_sem]
    .simp (disch:=omega) only [go_sem]
    .simp (disch:=omega) only [go_sem]
    .simp (disch:=omega) only [go_sem]
    .repeat rw [Ai _ _ (by omega)]
   clear Bc As BS QK
   obtain ⟨j,g,L,n⟩:=p
   obtain ⟨Cg,Bc,As⟩:=hj
   have BS:(Ab AR L).length=L.length:=Ao _ _
   have hfl2:=Cj (GT AT xs) fs
   have Fn:=Cj (Lm AT fs) (xs.take j)
   have QK:L.length<=33:=by rw [As,zld,zld];rw [zlo] at Fn;simp only [zlc,zle];omega
   dsimp only
   simp (disch:=omega) only [go_sem]
   refine Ae (fun q=>?_) (fun q=>?_)
   .have q:j<xs.length:=by simpa using q
    obtain ⟨a,ea⟩:∃x,xs[j]?=some x:=⟨xs[j],by simp [q]⟩
    have ham:=xa3 a (zla ea)
    have hI:=DR fs (by omega) a.n
    have EP:Se AT fs a=if (!(Cd fs a.n).isSome&&Gk a.tw&&!a.has)=true then [.mk 22 (AT++⟨#[40]⟩++a.n++⟨#[41]⟩)] else []:=rfl
    obtain ⟨R,hR⟩:=A5 (Cd fs a.n)
    rw [hR] at hI EP
    unfold Qi at hI
    obtain ⟨y,hy⟩:=A5 (R.getD Vk)
    obtain ⟨rb,VQ⟩:=A5 (R.isSome)
    rw [hy] at hI
    rw [VQ] at hI EP
    have hQ:=DE a.tn a.tw (by have:=ham.1.1;omega)
    obtain ⟨nb,hnb⟩:=A5 (Gk a.tw)
    obtain ⟨ab,VT⟩:=A5 (a.has)
    rw [hnb] at hQ EP
    rw [VT] at EP
    unfold D1 at hQ
    have y1:AT.size+((#[40]:Array UInt8).size+(a.n.size+(#[41]:Array UInt8).size))<=9223372036854775807:=by show AT.size+(1+(a.n.size+1))<=9223372036854775807;omega
    have y2:AT.size+((#[40]:Array UInt8).size+a.n.size)<=9223372036854775807:=by show AT.size+(1+a.n.size)<=9223372036854775807;omega
    have y3:AT.size+(#[40]:Array UInt8).size<=9223372036854775807:=by show AT.size+1<=9223372036854775807;omega
    have u1:¬n+10=m:=by omega
    have u2:¬n+9=m:=by omega
    have k1:(L.length+1)*24<=140737488355328:=by omega
    have k2:L.length<=9223372036854775806:=by omega
    have eg:(Ab AD xs)[j]?=some [.s a.n,.s a.tn,.ds (Ab D0 a.tw),.b ab,.i .i64 a.d.k,.i .i64 a.d.n,.s a.d.s,.ds (Ab Ar a.d.items),.ds (Bd a.d.keys),.ds (Ab FT a.dirs)]:=by rw [<-VT];exact Aa AD ea
    simp only [AD] at hI
    simp (disch:=omega) only [q,Ad eg,go_sem]
    refine Aq.f (fun _ _ _=>hI _ _) ?_
    simp (disch:=omega) only [q,Ad eg,eg,zlc,zle,za,ze,z7,zlr,z8,zb,and_self,go_sem]
    refine ⟨⟨u2,u1⟩,?_⟩
    cases rb with
    |true=>
     simp only [zp,zi,z11,zv,z2n,z25,z1m,if_false,if_true] at EP
     simp (disch:=omega) only [q,Ad eg,eg,zlc,zle,za,ze,z7,zlr,z8,zb,zc,and_self,Bl,true_and,go_sem]
     refine BL ?_
     simp (disch:=omega) only [q,Ad eg,BS,eg,zlc,zle,za,ze,z7,zlr,z8,zb,zc,and_self,Bl,true_and,go_sem]
     refine ⟨.mk (j+1) (g) (L) (n+200),⟨show j+1<=xs.length by omega,show m+5<=n+200 by omega,?_⟩,by show xs.length - (j+1)<xs.length - j;omega,?_⟩
     .show _=_
      rw [Bs ea,EP,As]
      simp [zlf]
     dsimp only
     refine Fm hf ?_ ?_ ?_ ?_ (fun a ha c7=>?_) (by omega)
     .simp (disch:=omega) only [Ap j (by omega),zld,zlc,zle,go_sem]
      try simp [zd]
     .simp (disch:=omega) only [Ay,Av,zlf,go_sem]
      try simp [zlf]
     .simp (disch:=omega) only [go_sem]
     .simp (disch:=omega) only [go_sem]
     .repeat rw [Ai _ _ (by omega)]
    |false=>
     simp (disch:=omega) only [q,Ad eg,eg,zlc,zle,za,ze,z7,zlr,z8,zb,zc,and_self,Bl,true_and,go_sem]
     refine AH.f (fun _=>hQ _ _) ?_
     cases nb with
     |false=>
      simp only [zp,zi,z11,zv,z2n,z25,z1m,if_false,if_true] at EP
      simp (disch:=omega) only [q,Ad eg,BS,eg,zlc,zle,za,ze,z7,zlr,z8,zb,zc,and_self,Bl,true_and,go_sem]
      refine ⟨.mk (j+1) (g) (L) (n+200),⟨show j+1<=xs.length by omega,show m+5<=n+200 by omega,?_⟩,by show xs.length - (j+1)<xs.length - j;omega,?_⟩
      .show _=_
       rw [Bs ea,EP,As]
       simp [zlf]
      dsimp only
      refine Fm hf ?_ ?_ ?_ ?_ (fun a ha c7=>?_) (by omega)
      .simp (disch:=omega) only [Ap j (by omega),zld,zlc,zle,go_sem]
       try simp [zd]
      .simp (disch:=omega) only [Ay,Av,zlf,go_sem]
       try simp [zlf]
      .simp (disch:=omega) only [go_sem]
      .simp (disch:=omega) only [go_sem]
      .repeat rw [Ai _ _ (by omega)]
     |true=>
      cases ab with
      |true=>
       simp only [zp,zi,z11,zv,z2n,z25,z1m,if_false,if_true] at EP
       simp (disch:=omega) only [q,Ad eg,BS,eg,zlc,zle,za,ze,z7,zlr,z8,zb,zc,and_self,Bl,true_and,go_sem]
       refine ⟨.mk (j+1) (g) (L) (n+200),⟨show j+1<=xs.length by omega,show m+5<=n+200 by omega,?_⟩,by show xs.length - (j+1)<xs.length - j;omega,?_⟩
       .show _=_
        rw [Bs ea,EP,As]
        simp [zlf]
       dsimp only
       refine Fm hf ?_ ?_ ?_ ?_ (fun a ha c7=>?_) (by omega)
       .simp (disch:=omega) only [Ap j (by omega),zld,zlc,zle,go_sem]
        try simp [zd]
       .simp (disch:=omega) only [Ay,Av,zlf,go_sem]
        try simp [zlf]
       .simp (disch:=omega) only [go_sem]
       .simp (disch:=omega) only [go_sem]
       .repeat rw [Ai _ _ (by omega)]
      |false=>
       simp only [zp,zi,z11,zv,z2n,z25,z1m,if_false,if_true] at EP
       simp (disch:=omega) only [q,Ad eg,BS,k1,k2,y1,y2,y3,Av,eg,zlc,zle,za,ze,z7,zlr,z8,zb,zc,and_self,Bl,true_and,go_sem]
       refine ⟨.mk (j+1) (g+1) (L++[.mk 22 (AT++⟨#[40]⟩++a.n++⟨#[41]⟩)]) (n+200),⟨show j+1<=xs.length by omega,show m+5<=n+200 by omega,?_⟩,by show xs.length - (j+1)<xs.length - j;omega,?_⟩
       .show _=_
        rw [Bs ea,EP,As]
        simp [zlf]
       dsimp only
       refine Fm hf ?_ ?_ ?_ ?_ (fun a ha c7=>?_) (by omega)
       .simp (disch:=omega) only [Ap j (by omega),zld,zlc,zle,go_sem]
        try simp [zd]
       .simp (disch:=omega) only [Ay,Av,zlf,go_sem]
        try simp [zlf]
       .simp (disch:=omega) only [go_sem]
       .simp (disch:=omega) only [go_sem]
       .repeat rw [Ai _ _ (by omega)]
   have q:j=xs.length:=by simp at q;omega
   subst q
   rw [zlj] at As
   try subst As
   simp (disch:=omega) only [go_sem]
