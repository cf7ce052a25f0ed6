/- Proof. Conditions: none. -/
import Derived.Test.YtgfidgoefioigaaGreatDoorIi43
open Go.Proofs.Tryz
open List renaming mem_of_getElem?→zla,length_cons→zlc,length_append→zld,length_nil→zle,append_assoc→zlf,take_length→zlj,length_take→zlo,take_zero→zlr
open Nat renaming le_refl→zna
namespace Go.Proofs.YtgfidgoefioigaaGreatDoor
open Go.Eng
set_option linter.all false
set_option maxRecDepth 20000
set_option maxHeartbeats 2000000
noncomputable def Vd (doc:List Az) (n:ByteArray) (w:List Int) (n':ByteArray) (w':List Int):Bool:=by
 classical
 exact if h:∃r:Bool,∀hp m,Ah prog 163 hp m [B5 doc,DC n w,DC n' w'] (.b r) then Classical.choose h else false
theorem VJ (doc:List Az) (hd:DocOk doc) (n n':ByteArray) (w w':List Int) (h:w.length+w'.length≤1000000) (hp:CH) (m:Nat):Ah prog 163 hp m [B5 doc,DC n w,DC n' w'] (.b (Vd doc n w n' w')):=by
 have h2:=ZC doc hd n n' _ w w' rfl h
 unfold Vd
 rw [dif_pos h2]
 exact Classical.choose_spec h2 hp m
def LP (at':ByteArray) (xs:List B6) (a:B6):List C6:=if ((BN xs a.n).isSome&&Kf ((BN xs a.n).getD Sp).tn ((BN xs a.n).getD Sp).tw a.tn a.tw)=true then [] else [.mk 22 (at'++⟨#[40]⟩++a.n++⟨#[41]⟩)]
def OM (at':ByteArray) (fs:List B6) (a:B6):List C6:=if (!(BN fs a.n).isSome&&FSw a.tw&&!a.has)=true then [.mk 22 (at'++⟨#[40]⟩++a.n++⟨#[41]⟩)] else []
theorem Fu (at':ByteArray) (xs:List B6) (a:B6):(LP at' xs a).length≤1:=by
 unfold LP;split<;>simp
theorem JF (at':ByteArray) (xs:List B6) (a:B6):(OM at' xs a).length≤1:=by
 unfold OM;split<;>simp
theorem BU {α β:Type} {A:α→List β} (h:∀x,(A x).length≤1) (l:List α):(l.flatMap A).length≤l.length:=by
 induction l with
 | nil=>simp
 | cons a l ih=>rw [List.flatMap_cons,zld,zlc];have:=h a;omega
theorem Bj {α β:Type} {A:α→List β} {l:List α} {j:Nat} {x:α} (e:l[j]?=some x):(l.take (j+1)).flatMap A=(l.take j).flatMap A++A x:=by
 rw [List.take_add_one,e,List.flatMap_append]
 simp
noncomputable def L6 (doc:List Az) (AT:ByteArray) (f:Cd):Option Cd→List C6
 | none=>[.mk 20 AT]
 | some x=>(if Vd doc x.tn (HJ x.tw) f.tn (HJ f.tw)=true then [] else [.mk 10 AT])++(AZ f.args).flatMap (LP AT (AZ x.args))++(AZ x.args).flatMap (OM AT (AZ f.args))
noncomputable def FD (doc:List Az) (t:Az) (f:Cd):List C6:=L6 doc (t.n++⟨#[46]⟩++f.n) f (CS t.fields f.n)
theorem Bp (x:Bool):imp x (true=true)=True:=eq_true fun _=>rfl
theorem Qc {l:List B6} (h:∀x∈l,Gt x∧x.n.size≤64) (n:ByteArray):((BN l n).getD Sp).tw.length≤1000000000:=by
 cases e:BN l n with
 | none=>show ([]:List Int).length≤_;simp
 | some y=>exact (h y (List.mem_of_find?_eq_some e)).1.1
theorem NM (doc:List Az) (hd:DocOk doc) (t:Az) (ht:DfnB t) (f:Cd) (On:FldB f) (hp:CH) (m:Nat):Ah prog 133 hp m [B5 doc,JN t,flx f] (.ds (Ad AK (FD doc t f))):=by
 have hF:=Kv t (by have:=ht.fl;omega) f.n
 have htn:=ht.n
 have hfn:=On.n
 have z1:t.n.size+(#[46]:Array UInt8).size≤9223372036854775807:=by show t.n.size+1≤9223372036854775807;omega
 have z2:t.n.size+((#[46]:Array UInt8).size+f.n.size)≤9223372036854775807:=by show t.n.size+(1+f.n.size)≤9223372036854775807;omega
 have hxB:∀x,CS t.fields f.n=some x→FldB x:=fun x h=>ht.f x (List.mem_of_find?_eq_some h)
 unfold FD
 obtain ⟨X,hX⟩:∃X,CS t.fields f.n=X:=⟨_,rfl⟩
 obtain ⟨AT,hAT⟩:∃X,t.n++⟨#[46]⟩++f.n=X:=⟨_,rfl⟩
 have hATs:AT.size≤129:=by rw [←hAT];simp only [ByteArray.size_append,e46];omega
 rw [hX,hAT]
 rw [hX] at hF hxB
 unfold P5 at hF
 obtain ⟨fa1,fa2,fa3⟩:=B9 On.a
 cases X with
 | none =>
  refine Am func133 (by kernel_rfl) cc133 cr133 rfl fun hf=>?_;unfold ck133
  simp (disch:=omega) only [Aa,z1,z2,true_and,hAT,go_sem]
  refine Af.f (hF _ _) ?_
  simp (disch:=omega) only [Aa,go_sem]
  try rfl
 | some x =>
  have hx:=hxB x rfl
  obtain ⟨xa1,xa2,xa3⟩:=B9 hx.a
  have hS:=VJ doc hd x.tn f.tn (HJ x.tw) (HJ f.tw) (by rw [GV,GV];have:=hx.tl;have:=On.tl;omega)
  unfold L6
  obtain ⟨sb,S9⟩:∃b,Vd doc x.tn (HJ x.tw) f.tn (HJ f.tw)=b:=⟨_,rfl⟩
  obtain ⟨xs,hxs⟩:∃b,AZ x.args=b:=⟨_,rfl⟩
  obtain ⟨fs,Of⟩:∃b,AZ f.args=b:=⟨_,rfl⟩
  rw [hxs] at xa1 xa2 xa3
  rw [Of] at fa1 fa2 fa3
  rw [S9] at hS
  simp only [S9,hxs,Of]
  unfold DC at hS
  rw [←hx.tw,←On.tw] at hS
  obtain ⟨P,hP⟩:∃P:List C6,(if sb=true then [] else [.mk 10 AT])=P:=⟨_,rfl⟩
  have hPl:P.length≤1:=by rw [←hP];split<;>simp
  rw [hP]
  refine Am func133 (by kernel_rfl) cc133 cr133 rfl fun hf=>?_;unfold ck133
  simp (disch:=omega) only [Aa,z1,z2,true_and,hAT,go_sem]
  refine Af.f (hF _ _) ?_
  simp (disch:=omega) only [Aa,fa1,xa1,hAT,go_sem]
  refine Af.f (hS _ _) ?_
  cases sb with
  | true =>
   simp (disch:=omega) only [Aa,go_sem]
   have hP:([]:List C6)=P:=hP
   subst hP
   refine loop (fun p:OI=>match p with
    | .mk j g L n=>⟨[(5,.bx (m+2) 0),(7,.s AT),(8,.bx (m+3) 0),(10,.rw (m+4) g L.length),(11,.i .i64 j)],(m+4,.rw g 2 (Ad AK L))::(m+3,.bx [.s x.n,.ds (Ad A7 xs),.s x.tn,.ds x.tw,.ds x.dirs])::(m+2,.bx [.s f.n,.ds (Ad A7 fs),.s f.tn,.ds f.tw,.ds f.dirs])::hp,n⟩)
    (fun p=>match p with | .mk j g L n=>j≤fs.length∧m+5≤n∧L=([])++(fs.take j).flatMap (LP AT xs)) (fun p=>match p with | .mk j g L n=>fs.length - j) (.mk 0 0 ([]) (m+5)) ?_ ?_ (fun p hj=>?_)
   .exact ⟨Nat.zero_le _,zna _,by simp⟩
   .dsimp only
    refine (B0 (t:=10) (m:=2) (by (simp (disch:=omega) only [Aa,go_sem]))).trans (Ac ?_ (Ae.sub (Ae.cons ?_ (Ae.cons ?_ (Ae.cons ?_ (Ae.base hf fun a ha hax=>?_))))) (zna _))
    .simp (disch:=omega) only [Aa,go_sem]
     try rfl
    .simp (disch:=omega) only [Aa,go_sem]
     try rfl
    .simp (disch:=omega) only [Aa,go_sem]
     try rfl
    .simp (disch:=omega) only [Aa,go_sem]
     try rfl
    .repeat rw [Aq _ _ (by omega)]
   obtain ⟨j,g,L,n⟩:=p
   obtain ⟨Cm,Ba,Aw⟩:=hj
   have Cb:(Ad AK L).length=L.length:=Ax _ _
   have GF:=BU (Fu AT xs) (fs.take j)
   have SU:L.length≤17:=by rw [Aw,zld];rw [zlo] at GF;simp only [zlc,zle];omega
   dsimp only
   simp (disch:=omega) only [Aa,go_sem]
   refine Ai (fun q=>?_) (fun q=>?_)
   .have q:j<fs.length:=by simpa using q
    obtain ⟨a,ea⟩:∃x,fs[j]?=some x:=⟨fs[j],by simp [q]⟩
    have ham:=fa3 a (zla ea)
    have hI:=Dl xs (by omega) a.n
    have hyl:=Qc xa3 a.n
    have Eg:LP AT xs a=if ((BN xs a.n).isSome&&Kf ((BN xs a.n).getD Sp).tn ((BN xs a.n).getD Sp).tw a.tn a.tw)=true then [] else [.mk 22 (AT++⟨#[40]⟩++a.n++⟨#[41]⟩)]:=rfl
    obtain ⟨R,hR⟩:∃R,BN xs a.n=R:=⟨_,rfl⟩
    rw [hR] at hI hyl Eg
    unfold Ns at hI
    obtain ⟨y,hy⟩:∃y,R.getD Sp=y:=⟨_,rfl⟩
    obtain ⟨rb,SS⟩:∃b,R.isSome=b:=⟨_,rfl⟩
    rw [hy] at hI hyl Eg
    rw [SS] at hI Eg
    have hQ:=FU y.tn a.tn y.tw a.tw (by omega) (by have:=ham.1.1;omega)
    obtain ⟨sb,S9⟩:∃b,Kf y.tn y.tw a.tn a.tw=b:=⟨_,rfl⟩
    rw [S9] at hQ Eg
    unfold DC at hQ
    have y1:AT.size+((#[40]:Array UInt8).size+(a.n.size+(#[41]:Array UInt8).size))≤9223372036854775807:=by show AT.size+(1+(a.n.size+1))≤9223372036854775807;omega
    have y2:AT.size+((#[40]:Array UInt8).size+a.n.size)≤9223372036854775807:=by show AT.size+(1+a.n.size)≤9223372036854775807;omega
    have y3:AT.size+(#[40]:Array UInt8).size≤9223372036854775807:=by show AT.size+1≤9223372036854775807;omega
    have u1:¬n+10=m:=by omega
    have u2:¬n+9=m:=by omega
    have k1:(L.length+1)*24≤140737488355328:=by omega
    have k2:L.length≤9223372036854775806:=by omega
    have eg:(Ad A7 fs)[j]?=some [.s a.n,.s a.tn,.ds (Ad Dx a.tw),.b a.has,.i .i64 a.d.k,.i .i64 a.d.n,.s a.d.s,.ds (Ad A2 a.d.items),.ds (Bv a.d.keys),.ds (Ad EM a.dirs)]:=Ab A7 ea
    simp only [A7] at hI
    simp (disch:=omega) only [Aa,q,Ag (Ab A7 ea),go_sem]
    refine A3.f (fun _ _ _=>hI _ _) ?_
    simp (disch:=omega) only [Aa,q,Ag (Ab A7 ea),go_sem]
    refine ⟨⟨u1,u2⟩,?_⟩
    simp (disch:=omega) only [Aa,eg,zlc,zle,List.drop_succ_cons,List.drop_zero,List.take_succ_cons,zlr,Option.map_some,Option.isSome_some,Option.getD_some,and_self,Bp,true_and,go_sem]
    refine AG.f (fun _ _ _=>hQ _ _) ?_
    cases rb with
    | false =>
     simp only [Bool.false_and,Bool.false_eq_true,if_false] at Eg
     simp (disch:=omega) only [Aa,q,Ag (Ab A7 ea),Cb,k1,k2,y1,y2,y3,true_and,Ar,go_sem]
     refine ⟨.mk (j+1) (g+1) (L++[.mk 22 (AT++⟨#[40]⟩++a.n++⟨#[41]⟩)]) (n+200),⟨show j+1≤fs.length by omega,show m+5≤n+200 by omega,?_⟩,by show fs.length - (j+1)<fs.length - j;omega,?_⟩
     .show _=_
      rw [Bj ea,Eg,Aw]
      simp [zlf]
     dsimp only
     refine Ac ?_ (Ae.sub (Ae.cons ?_ (Ae.cons ?_ (Ae.cons ?_ (Ae.base hf fun a ha hax=>?_))))) (by omega)
     .simp (disch:=omega) only [Aa,At j (by omega),zld,zlc,zle,go_sem]
      try simp [Nat.add_assoc]
     .simp (disch:=omega) only [Aa,Au,Ar,zlf,go_sem]
      try simp [zlf]
     .simp (disch:=omega) only [Aa,go_sem]
     .simp (disch:=omega) only [Aa,go_sem]
     .repeat rw [Aq _ _ (by omega)]
    | true =>
     cases sb with
     | false =>
      simp only [Bool.and_false,Bool.false_eq_true,if_false] at Eg
      simp (disch:=omega) only [Aa,q,Ag (Ab A7 ea),Cb,k1,k2,y1,y2,y3,true_and,Ar,go_sem]
      refine ⟨.mk (j+1) (g+1) (L++[.mk 22 (AT++⟨#[40]⟩++a.n++⟨#[41]⟩)]) (n+200),⟨show j+1≤fs.length by omega,show m+5≤n+200 by omega,?_⟩,by show fs.length - (j+1)<fs.length - j;omega,?_⟩
      .show _=_
       rw [Bj ea,Eg,Aw]
       simp [zlf]
      dsimp only
      refine Ac ?_ (Ae.sub (Ae.cons ?_ (Ae.cons ?_ (Ae.cons ?_ (Ae.base hf fun a ha hax=>?_))))) (by omega)
      .simp (disch:=omega) only [Aa,At j (by omega),zld,zlc,zle,go_sem]
       try simp [Nat.add_assoc]
      .simp (disch:=omega) only [Aa,Au,Ar,zlf,go_sem]
       try simp [zlf]
      .simp (disch:=omega) only [Aa,go_sem]
      .simp (disch:=omega) only [Aa,go_sem]
      .repeat rw [Aq _ _ (by omega)]
     | true =>
      simp only [Bool.and_self,if_true] at Eg
      simp (disch:=omega) only [Aa,q,Ag (Ab A7 ea),Cb,k1,k2,true_and,go_sem]
      refine ⟨.mk (j+1) (g) (L) (n+200),⟨show j+1≤fs.length by omega,show m+5≤n+200 by omega,?_⟩,by show fs.length - (j+1)<fs.length - j;omega,?_⟩
      .show _=_
       rw [Bj ea,Eg,Aw]
       simp [zlf]
      dsimp only
      refine Ac ?_ (Ae.sub (Ae.cons ?_ (Ae.cons ?_ (Ae.cons ?_ (Ae.base hf fun a ha hax=>?_))))) (by omega)
      .simp (disch:=omega) only [Aa,At j (by omega),zld,zlc,zle,go_sem]
       try simp [Nat.add_assoc]
      .simp (disch:=omega) only [Aa,Au,Ar,zlf,go_sem]
       try simp [zlf]
      .simp (disch:=omega) only [Aa,go_sem]
      .simp (disch:=omega) only [Aa,go_sem]
      .repeat rw [Aq _ _ (by omega)]
   have q:j=fs.length:=by simp at q;omega
   subst q
   rw [zlj] at Aw
   simp (disch:=omega) only [Aa,go_sem]
   refine loop (fun p:OI=>match p with
    | .mk j g L n=>⟨[(5,.bx (m+2) 0),(7,.s AT),(8,.bx (m+3) 0),(10,.rw (m+4) g L.length),(14,.i .i64 j)],(m+4,.rw g 2 (Ad AK L))::(m+3,.bx [.s x.n,.ds (Ad A7 xs),.s x.tn,.ds x.tw,.ds x.dirs])::(m+2,.bx [.s f.n,.ds (Ad A7 fs),.s f.tn,.ds f.tw,.ds f.dirs])::hp,n⟩)
    (fun p=>match p with | .mk j g L n=>j≤xs.length∧m+5≤n∧L=([])++fs.flatMap (LP AT xs)++(xs.take j).flatMap (OM AT fs)) (fun p=>match p with | .mk j g L n=>xs.length - j) (.mk 0 g L n) ?_ ?_ (fun p hj=>?_)
   .exact ⟨Nat.zero_le _,Ba,by rw [Aw];simp⟩
   .dsimp only
    refine Ac ?_ (Ae.sub (Ae.cons ?_ (Ae.cons ?_ (Ae.cons ?_ (Ae.base hf fun a ha hax=>?_))))) (zna _)
    .simp (disch:=omega) only [Aa,go_sem]
    .simp (disch:=omega) only [Aa,go_sem]
    .simp (disch:=omega) only [Aa,go_sem]
    .simp (disch:=omega) only [Aa,go_sem]
    .repeat rw [Aq _ _ (by omega)]
   clear Ba Aw Cb SU
   obtain ⟨j,g,L,n⟩:=p
   obtain ⟨Cm,Ba,Aw⟩:=hj
   have Cb:(Ad AK L).length=L.length:=Ax _ _
   have hfl2:=BU (Fu AT xs) fs
   have GF:=BU (JF AT fs) (xs.take j)
   have SU:L.length≤33:=by rw [Aw,zld,zld];rw [zlo] at GF;simp only [zlc,zle];omega
   dsimp only
   simp (disch:=omega) only [Aa,go_sem]
   refine Ai (fun q=>?_) (fun q=>?_)
   .have q:j<xs.length:=by simpa using q
    obtain ⟨a,ea⟩:∃x,xs[j]?=some x:=⟨xs[j],by simp [q]⟩
    have ham:=xa3 a (zla ea)
    have hI:=Dl fs (by omega) a.n
    have Eg:OM AT fs a=if (!(BN fs a.n).isSome&&FSw a.tw&&!a.has)=true then [.mk 22 (AT++⟨#[40]⟩++a.n++⟨#[41]⟩)] else []:=rfl
    obtain ⟨R,hR⟩:∃R,BN fs a.n=R:=⟨_,rfl⟩
    rw [hR] at hI Eg
    unfold Ns at hI
    obtain ⟨y,hy⟩:∃y,R.getD Sp=y:=⟨_,rfl⟩
    obtain ⟨rb,SS⟩:∃b,R.isSome=b:=⟨_,rfl⟩
    rw [hy] at hI
    rw [SS] at hI Eg
    have hQ:=D0 a.tn a.tw (by have:=ham.1.1;omega)
    obtain ⟨nb,hnb⟩:∃b,FSw a.tw=b:=⟨_,rfl⟩
    obtain ⟨ab,ST⟩:∃b,a.has=b:=⟨_,rfl⟩
    rw [hnb] at hQ Eg
    rw [ST] at Eg
    unfold DC at hQ
    have y1:AT.size+((#[40]:Array UInt8).size+(a.n.size+(#[41]:Array UInt8).size))≤9223372036854775807:=by show AT.size+(1+(a.n.size+1))≤9223372036854775807;omega
    have y2:AT.size+((#[40]:Array UInt8).size+a.n.size)≤9223372036854775807:=by show AT.size+(1+a.n.size)≤9223372036854775807;omega
    have y3:AT.size+(#[40]:Array UInt8).size≤9223372036854775807:=by show AT.size+1≤9223372036854775807;omega
    have u1:¬n+10=m:=by omega
    have u2:¬n+9=m:=by omega
    have k1:(L.length+1)*24≤140737488355328:=by omega
    have k2:L.length≤9223372036854775806:=by omega
    have eg:(Ad A7 xs)[j]?=some [.s a.n,.s a.tn,.ds (Ad Dx a.tw),.b ab,.i .i64 a.d.k,.i .i64 a.d.n,.s a.d.s,.ds (Ad A2 a.d.items),.ds (Bv a.d.keys),.ds (Ad EM a.dirs)]:=by rw [←ST];exact Ab A7 ea
    simp only [A7] at hI
    simp (disch:=omega) only [Aa,q,Ag eg,go_sem]
    refine A3.f (fun _ _ _=>hI _ _) ?_
    simp (disch:=omega) only [Aa,q,Ag eg,eg,zlc,zle,List.drop_succ_cons,List.drop_zero,List.take_succ_cons,zlr,Option.map_some,Option.isSome_some,and_self,go_sem]
    refine ⟨⟨u2,u1⟩,?_⟩
    cases rb with
    | true =>
     simp only [Bool.not_true,Bool.not_false,Bool.false_and,Bool.true_and,Bool.and_true,Bool.and_false,Bool.false_eq_true,if_false,if_true] at Eg
     simp (disch:=omega) only [Aa,q,Ag eg,eg,zlc,zle,List.drop_succ_cons,List.drop_zero,List.take_succ_cons,zlr,Option.map_some,Option.isSome_some,Option.getD_some,and_self,Bp,true_and,go_sem]
     refine BK ?_
     simp (disch:=omega) only [Aa,q,Ag eg,Cb,eg,zlc,zle,List.drop_succ_cons,List.drop_zero,List.take_succ_cons,zlr,Option.map_some,Option.isSome_some,Option.getD_some,and_self,Bp,true_and,go_sem]
     refine ⟨.mk (j+1) (g) (L) (n+200),⟨show j+1≤xs.length by omega,show m+5≤n+200 by omega,?_⟩,by show xs.length - (j+1)<xs.length - j;omega,?_⟩
     .show _=_
      rw [Bj ea,Eg,Aw]
      simp [zlf]
     dsimp only
     refine Ac ?_ (Ae.sub (Ae.cons ?_ (Ae.cons ?_ (Ae.cons ?_ (Ae.base hf fun a ha hax=>?_))))) (by omega)
     .simp (disch:=omega) only [Aa,At j (by omega),zld,zlc,zle,go_sem]
      try simp [Nat.add_assoc]
     .simp (disch:=omega) only [Aa,Au,Ar,zlf,go_sem]
      try simp [zlf]
     .simp (disch:=omega) only [Aa,go_sem]
     .simp (disch:=omega) only [Aa,go_sem]
     .repeat rw [Aq _ _ (by omega)]
    | false =>
     simp (disch:=omega) only [Aa,q,Ag eg,eg,zlc,zle,List.drop_succ_cons,List.drop_zero,List.take_succ_cons,zlr,Option.map_some,Option.isSome_some,Option.getD_some,and_self,Bp,true_and,go_sem]
     refine AA.f (fun _=>hQ _ _) ?_
     cases nb with
     | false =>
      simp only [Bool.not_true,Bool.not_false,Bool.false_and,Bool.true_and,Bool.and_true,Bool.and_false,Bool.false_eq_true,if_false,if_true] at Eg
      simp (disch:=omega) only [Aa,q,Ag eg,Cb,eg,zlc,zle,List.drop_succ_cons,List.drop_zero,List.take_succ_cons,zlr,Option.map_some,Option.isSome_some,Option.getD_some,and_self,Bp,true_and,go_sem]
      refine ⟨.mk (j+1) (g) (L) (n+200),⟨show j+1≤xs.length by omega,show m+5≤n+200 by omega,?_⟩,by show xs.length - (j+1)<xs.length - j;omega,?_⟩
      .show _=_
       rw [Bj ea,Eg,Aw]
       simp [zlf]
      dsimp only
      refine Ac ?_ (Ae.sub (Ae.cons ?_ (Ae.cons ?_ (Ae.cons ?_ (Ae.base hf fun a ha hax=>?_))))) (by omega)
      .simp (disch:=omega) only [Aa,At j (by omega),zld,zlc,zle,go_sem]
       try simp [Nat.add_assoc]
      .simp (disch:=omega) only [Aa,Au,Ar,zlf,go_sem]
       try simp [zlf]
      .simp (disch:=omega) only [Aa,go_sem]
      .simp (disch:=omega) only [Aa,go_sem]
      .repeat rw [Aq _ _ (by omega)]
     | true =>
      cases ab with
      | true =>
       simp only [Bool.not_true,Bool.not_false,Bool.false_and,Bool.true_and,Bool.and_true,Bool.and_false,Bool.false_eq_true,if_false,if_true] at Eg
       simp (disch:=omega) only [Aa,q,Ag eg,Cb,eg,zlc,zle,List.drop_succ_cons,List.drop_zero,List.take_succ_cons,zlr,Option.map_some,Option.isSome_some,Option.getD_some,and_self,Bp,true_and,go_sem]
       refine ⟨.mk (j+1) (g) (L) (n+200),⟨show j+1≤xs.length by omega,show m+5≤n+200 by omega,?_⟩,by show xs.length - (j+1)<xs.length - j;omega,?_⟩
       .show _=_
        rw [Bj ea,Eg,Aw]
        simp [zlf]
       dsimp only
       refine Ac ?_ (Ae.sub (Ae.cons ?_ (Ae.cons ?_ (Ae.cons ?_ (Ae.base hf fun a ha hax=>?_))))) (by omega)
       .simp (disch:=omega) only [Aa,At j (by omega),zld,zlc,zle,go_sem]
        try simp [Nat.add_assoc]
       .simp (disch:=omega) only [Aa,Au,Ar,zlf,go_sem]
        try simp [zlf]
       .simp (disch:=omega) only [Aa,go_sem]
       .simp (disch:=omega) only [Aa,go_sem]
       .repeat rw [Aq _ _ (by omega)]
      | false =>
       simp only [Bool.not_true,Bool.not_false,Bool.false_and,Bool.true_and,Bool.and_true,Bool.and_false,Bool.false_eq_true,if_false,if_true] at Eg
       simp (disch:=omega) only [Aa,q,Ag eg,Cb,k1,k2,y1,y2,y3,Ar,eg,zlc,zle,List.drop_succ_cons,List.drop_zero,List.take_succ_cons,zlr,Option.map_some,Option.isSome_some,Option.getD_some,and_self,Bp,true_and,go_sem]
       refine ⟨.mk (j+1) (g+1) (L++[.mk 22 (AT++⟨#[40]⟩++a.n++⟨#[41]⟩)]) (n+200),⟨show j+1≤xs.length by omega,show m+5≤n+200 by omega,?_⟩,by show xs.length - (j+1)<xs.length - j;omega,?_⟩
       .show _=_
        rw [Bj ea,Eg,Aw]
        simp [zlf]
       dsimp only
       refine Ac ?_ (Ae.sub (Ae.cons ?_ (Ae.cons ?_ (Ae.cons ?_ (Ae.base hf fun a ha hax=>?_))))) (by omega)
       .simp (disch:=omega) only [Aa,At j (by omega),zld,zlc,zle,go_sem]
        try simp [Nat.add_assoc]
       .simp (disch:=omega) only [Aa,Au,Ar,zlf,go_sem]
        try simp [zlf]
       .simp (disch:=omega) only [Aa,go_sem]
       .simp (disch:=omega) only [Aa,go_sem]
       .repeat rw [Aq _ _ (by omega)]
   have q:j=xs.length:=by simp at q;omega
   subst q
   rw [zlj] at Aw
   try subst Aw
   simp (disch:=omega) only [Aa,go_sem]
  | false =>
   simp (disch:=omega) only [Aa,go_sem]
   have hP:[C6.mk 10 AT]=P:=hP
   subst hP
   refine loop (fun p:OI=>match p with
    | .mk j g L n=>⟨[(5,.bx (m+2) 0),(7,.s AT),(8,.bx (m+3) 0),(10,.rw (m+4) g L.length),(11,.i .i64 j)],(m+4,.rw g 2 (Ad AK L))::(m+3,.bx [.s x.n,.ds (Ad A7 xs),.s x.tn,.ds x.tw,.ds x.dirs])::(m+2,.bx [.s f.n,.ds (Ad A7 fs),.s f.tn,.ds f.tw,.ds f.dirs])::hp,n⟩)
    (fun p=>match p with | .mk j g L n=>j≤fs.length∧m+5≤n∧L=([.mk 10 AT])++(fs.take j).flatMap (LP AT xs)) (fun p=>match p with | .mk j g L n=>fs.length - j) (.mk 0 0 ([.mk 10 AT]) (m+5)) ?_ ?_ (fun p hj=>?_)
   .exact ⟨Nat.zero_le _,zna _,by simp⟩
   .dsimp only
    refine Ac ?_ (Ae.sub (Ae.cons ?_ (Ae.cons ?_ (Ae.cons ?_ (Ae.base hf fun a ha hax=>?_))))) (zna _)
    .simp (disch:=omega) only [Aa,go_sem]
     try rfl
    .simp (disch:=omega) only [Aa,go_sem]
     try rfl
    .simp (disch:=omega) only [Aa,go_sem]
     try rfl
    .simp (disch:=omega) only [Aa,go_sem]
     try rfl
    .repeat rw [Aq _ _ (by omega)]
   obtain ⟨j,g,L,n⟩:=p
   obtain ⟨Cm,Ba,Aw⟩:=hj
   have Cb:(Ad AK L).length=L.length:=Ax _ _
   have GF:=BU (Fu AT xs) (fs.take j)
   have SU:L.length≤17:=by rw [Aw,zld];rw [zlo] at GF;simp only [zlc,zle];omega
   dsimp only
   simp (disch:=omega) only [Aa,go_sem]
   refine Ai (fun q=>?_) (fun q=>?_)
   .have q:j<fs.length:=by simpa using q
    obtain ⟨a,ea⟩:∃x,fs[j]?=some x:=⟨fs[j],by simp [q]⟩
    have ham:=fa3 a (zla ea)
    have hI:=Dl xs (by omega) a.n
    have hyl:=Qc xa3 a.n
    have Eg:LP AT xs a=if ((BN xs a.n).isSome&&Kf ((BN xs a.n).getD Sp).tn ((BN xs a.n).getD Sp).tw a.tn a.tw)=true then [] else [.mk 22 (AT++⟨#[40]⟩++a.n++⟨#[41]⟩)]:=rfl
    obtain ⟨R,hR⟩:∃R,BN xs a.n=R:=⟨_,rfl⟩
    rw [hR] at hI hyl Eg
    unfold Ns at hI
    obtain ⟨y,hy⟩:∃y,R.getD Sp=y:=⟨_,rfl⟩
    obtain ⟨rb,SS⟩:∃b,R.isSome=b:=⟨_,rfl⟩
    rw [hy] at hI hyl Eg
    rw [SS] at hI Eg
    have hQ:=FU y.tn a.tn y.tw a.tw (by omega) (by have:=ham.1.1;omega)
    obtain ⟨sb,S9⟩:∃b,Kf y.tn y.tw a.tn a.tw=b:=⟨_,rfl⟩
    rw [S9] at hQ Eg
    unfold DC at hQ
    have y1:AT.size+((#[40]:Array UInt8).size+(a.n.size+(#[41]:Array UInt8).size))≤9223372036854775807:=by show AT.size+(1+(a.n.size+1))≤9223372036854775807;omega
    have y2:AT.size+((#[40]:Array UInt8).size+a.n.size)≤9223372036854775807:=by show AT.size+(1+a.n.size)≤9223372036854775807;omega
    have y3:AT.size+(#[40]:Array UInt8).size≤9223372036854775807:=by show AT.size+1≤9223372036854775807;omega
    have u1:¬n+10=m:=by omega
    have u2:¬n+9=m:=by omega
    have k1:(L.length+1)*24≤140737488355328:=by omega
    have k2:L.length≤9223372036854775806:=by omega
    have eg:(Ad A7 fs)[j]?=some [.s a.n,.s a.tn,.ds (Ad Dx a.tw),.b a.has,.i .i64 a.d.k,.i .i64 a.d.n,.s a.d.s,.ds (Ad A2 a.d.items),.ds (Bv a.d.keys),.ds (Ad EM a.dirs)]:=Ab A7 ea
    simp only [A7] at hI
    simp (disch:=omega) only [Aa,q,Ag (Ab A7 ea),go_sem]
    refine A3.f (fun _ _ _=>hI _ _) ?_
    simp (disch:=omega) only [Aa,q,Ag (Ab A7 ea),go_sem]
    refine ⟨⟨u1,u2⟩,?_⟩
    simp (disch:=omega) only [Aa,eg,zlc,zle,List.drop_succ_cons,List.drop_zero,List.take_succ_cons,zlr,Option.map_some,Option.isSome_some,Option.getD_some,and_self,Bp,true_and,go_sem]
    refine AG.f (fun _ _ _=>hQ _ _) ?_
    cases rb with
    | false =>
     simp only [Bool.false_and,Bool.false_eq_true,if_false] at Eg
     simp (disch:=omega) only [Aa,q,Ag (Ab A7 ea),Cb,k1,k2,y1,y2,y3,true_and,Ar,go_sem]
     refine ⟨.mk (j+1) (g+1) (L++[.mk 22 (AT++⟨#[40]⟩++a.n++⟨#[41]⟩)]) (n+200),⟨show j+1≤fs.length by omega,show m+5≤n+200 by omega,?_⟩,by show fs.length - (j+1)<fs.length - j;omega,?_⟩
     .show _=_
      rw [Bj ea,Eg,Aw]
      simp [zlf]
     dsimp only
     refine Ac ?_ (Ae.sub (Ae.cons ?_ (Ae.cons ?_ (Ae.cons ?_ (Ae.base hf fun a ha hax=>?_))))) (by omega)
     .simp (disch:=omega) only [Aa,At j (by omega),zld,zlc,zle,go_sem]
      try simp [Nat.add_assoc]
     .simp (disch:=omega) only [Aa,Au,Ar,zlf,go_sem]
      try simp [zlf]
     .simp (disch:=omega) only [Aa,go_sem]
     .simp (disch:=omega) only [Aa,go_sem]
     .repeat rw [Aq _ _ (by omega)]
    | true =>
     cases sb with
     | false =>
      simp only [Bool.and_false,Bool.false_eq_true,if_false] at Eg
      simp (disch:=omega) only [Aa,q,Ag (Ab A7 ea),Cb,k1,k2,y1,y2,y3,true_and,Ar,go_sem]
      refine ⟨.mk (j+1) (g+1) (L++[.mk 22 (AT++⟨#[40]⟩++a.n++⟨#[41]⟩)]) (n+200),⟨show j+1≤fs.length by omega,show m+5≤n+200 by omega,?_⟩,by show fs.length - (j+1)<fs.length - j;omega,?_⟩
      .show _=_
       rw [Bj ea,Eg,Aw]
       simp [zlf]
      dsimp only
      refine Ac ?_ (Ae.sub (Ae.cons ?_ (Ae.cons ?_ (Ae.cons ?_ (Ae.base hf fun a ha hax=>?_))))) (by omega)
      .simp (disch:=omega) only [Aa,At j (by omega),zld,zlc,zle,go_sem]
       try simp [Nat.add_assoc]
      .simp (disch:=omega) only [Aa,Au,Ar,zlf,go_sem]
       try simp [zlf]
      .simp (disch:=omega) only [Aa,go_sem]
      .simp (disch:=omega) only [Aa,go_sem]
      .repeat rw [Aq _ _ (by omega)]
     | true =>
      simp only [Bool.and_self,if_true] at Eg
      simp (disch:=omega) only [Aa,q,Ag (Ab A7 ea),Cb,k1,k2,true_and,go_sem]
      refine ⟨.mk (j+1) (g) (L) (n+200),⟨show j+1≤fs.length by omega,show m+5≤n+200 by omega,?_⟩,by show fs.length - (j+1)<fs.length - j;omega,?_⟩
      .show _=_
       rw [Bj ea,Eg,Aw]
       simp [zlf]
      dsimp only
      refine Ac ?_ (Ae.sub (Ae.cons ?_ (Ae.cons ?_ (Ae.cons ?_ (Ae.base hf fun a ha hax=>?_))))) (by omega)
      .simp (disch:=omega) only [Aa,At j (by omega),zld,zlc,zle,go_sem]
       try simp [Nat.add_assoc]
      .simp (disch:=omega) only [Aa,Au,Ar,zlf,go_sem]
       try simp [zlf]
      .simp (disch:=omega) only [Aa,go_sem]
      .simp (disch:=omega) only [Aa,go_sem]
      .repeat rw [Aq _ _ (by omega)]
   have q:j=fs.length:=by simp at q;omega
   subst q
   rw [zlj] at Aw
   simp (disch:=omega) only [Aa,go_sem]
   refine loop (fun p:OI=>match p with
    | .mk j g L n=>⟨[(5,.bx (m+2) 0),(7,.s AT),(8,.bx (m+3) 0),(10,.rw (m+4) g L.length),(14,.i .i64 j)],(m+4,.rw g 2 (Ad AK L))::(m+3,.bx [.s x.n,.ds (Ad A7 xs),.s x.tn,.ds x.tw,.ds x.dirs])::(m+2,.bx [.s f.n,.ds (Ad A7 fs),.s f.tn,.ds f.tw,.ds f.dirs])::hp,n⟩)
    (fun p=>match p with | .mk j g L n=>j≤xs.length∧m+5≤n∧L=([.mk 10 AT])++fs.flatMap (LP AT xs)++(xs.take j).flatMap (OM AT fs)) (fun p=>match p with | .mk j g L n=>xs.length - j) (.mk 0 g L n) ?_ ?_ (fun p hj=>?_)
   .exact ⟨Nat.zero_le _,Ba,by rw [Aw];simp⟩
   .dsimp only
    refine Ac ?_ (Ae.sub (Ae.cons ?_ (Ae.cons ?_ (Ae.cons ?_ (Ae.base hf fun a ha hax=>?_))))) (zna _)
    .simp (disch:=omega) only [Aa,go_sem]
    .simp (disch:=omega) only [Aa,go_sem]
    .simp (disch:=omega) only [Aa,go_sem]
    .simp (disch:=omega) only [Aa,go_sem]
    .repeat rw [Aq _ _ (by omega)]
   clear Ba Aw Cb SU
   obtain ⟨j,g,L,n⟩:=p
   obtain ⟨Cm,Ba,Aw⟩:=hj
   have Cb:(Ad AK L).length=L.length:=Ax _ _
   have hfl2:=BU (Fu AT xs) fs
   have GF:=BU (JF AT fs) (xs.take j)
   have SU:L.length≤33:=by rw [Aw,zld,zld];rw [zlo] at GF;simp only [zlc,zle];omega
   dsimp only
   simp (disch:=omega) only [Aa,go_sem]
   refine Ai (fun q=>?_) (fun q=>?_)
   .have q:j<xs.length:=by simpa using q
    obtain ⟨a,ea⟩:∃x,xs[j]?=some x:=⟨xs[j],by simp [q]⟩
    have ham:=xa3 a (zla ea)
    have hI:=Dl fs (by omega) a.n
    have Eg:OM AT fs a=if (!(BN fs a.n).isSome&&FSw a.tw&&!a.has)=true then [.mk 22 (AT++⟨#[40]⟩++a.n++⟨#[41]⟩)] else []:=rfl
    obtain ⟨R,hR⟩:∃R,BN fs a.n=R:=⟨_,rfl⟩
    rw [hR] at hI Eg
    unfold Ns at hI
    obtain ⟨y,hy⟩:∃y,R.getD Sp=y:=⟨_,rfl⟩
    obtain ⟨rb,SS⟩:∃b,R.isSome=b:=⟨_,rfl⟩
    rw [hy] at hI
    rw [SS] at hI Eg
    have hQ:=D0 a.tn a.tw (by have:=ham.1.1;omega)
    obtain ⟨nb,hnb⟩:∃b,FSw a.tw=b:=⟨_,rfl⟩
    obtain ⟨ab,ST⟩:∃b,a.has=b:=⟨_,rfl⟩
    rw [hnb] at hQ Eg
    rw [ST] at Eg
    unfold DC at hQ
    have y1:AT.size+((#[40]:Array UInt8).size+(a.n.size+(#[41]:Array UInt8).size))≤9223372036854775807:=by show AT.size+(1+(a.n.size+1))≤9223372036854775807;omega
    have y2:AT.size+((#[40]:Array UInt8).size+a.n.size)≤9223372036854775807:=by show AT.size+(1+a.n.size)≤9223372036854775807;omega
    have y3:AT.size+(#[40]:Array UInt8).size≤9223372036854775807:=by show AT.size+1≤9223372036854775807;omega
    have u1:¬n+10=m:=by omega
    have u2:¬n+9=m:=by omega
    have k1:(L.length+1)*24≤140737488355328:=by omega
    have k2:L.length≤9223372036854775806:=by omega
    have eg:(Ad A7 xs)[j]?=some [.s a.n,.s a.tn,.ds (Ad Dx a.tw),.b ab,.i .i64 a.d.k,.i .i64 a.d.n,.s a.d.s,.ds (Ad A2 a.d.items),.ds (Bv a.d.keys),.ds (Ad EM a.dirs)]:=by rw [←ST];exact Ab A7 ea
    simp only [A7] at hI
    simp (disch:=omega) only [Aa,q,Ag eg,go_sem]
    refine A3.f (fun _ _ _=>hI _ _) ?_
    simp (disch:=omega) only [Aa,q,Ag eg,eg,zlc,zle,List.drop_succ_cons,List.drop_zero,List.take_succ_cons,zlr,Option.map_some,Option.isSome_some,and_self,go_sem]
    refine ⟨⟨u2,u1⟩,?_⟩
    cases rb with
    | true =>
     simp only [Bool.not_true,Bool.not_false,Bool.false_and,Bool.true_and,Bool.and_true,Bool.and_false,Bool.false_eq_true,if_false,if_true] at Eg
     simp (disch:=omega) only [Aa,q,Ag eg,eg,zlc,zle,List.drop_succ_cons,List.drop_zero,List.take_succ_cons,zlr,Option.map_some,Option.isSome_some,Option.getD_some,and_self,Bp,true_and,go_sem]
     refine BK ?_
     simp (disch:=omega) only [Aa,q,Ag eg,Cb,eg,zlc,zle,List.drop_succ_cons,List.drop_zero,List.take_succ_cons,zlr,Option.map_some,Option.isSome_some,Option.getD_some,and_self,Bp,true_and,go_sem]
     refine ⟨.mk (j+1) (g) (L) (n+200),⟨show j+1≤xs.length by omega,show m+5≤n+200 by omega,?_⟩,by show xs.length - (j+1)<xs.length - j;omega,?_⟩
     .show _=_
      rw [Bj ea,Eg,Aw]
      simp [zlf]
     dsimp only
     refine Ac ?_ (Ae.sub (Ae.cons ?_ (Ae.cons ?_ (Ae.cons ?_ (Ae.base hf fun a ha hax=>?_))))) (by omega)
     .simp (disch:=omega) only [Aa,At j (by omega),zld,zlc,zle,go_sem]
      try simp [Nat.add_assoc]
     .simp (disch:=omega) only [Aa,Au,Ar,zlf,go_sem]
      try simp [zlf]
     .simp (disch:=omega) only [Aa,go_sem]
     .simp (disch:=omega) only [Aa,go_sem]
     .repeat rw [Aq _ _ (by omega)]
    | false =>
     simp (disch:=omega) only [Aa,q,Ag eg,eg,zlc,zle,List.drop_succ_cons,List.drop_zero,List.take_succ_cons,zlr,Option.map_some,Option.isSome_some,Option.getD_some,and_self,Bp,true_and,go_sem]
     refine AA.f (fun _=>hQ _ _) ?_
     cases nb with
     | false =>
      simp only [Bool.not_true,Bool.not_false,Bool.false_and,Bool.true_and,Bool.and_true,Bool.and_false,Bool.false_eq_true,if_false,if_true] at Eg
      simp (disch:=omega) only [Aa,q,Ag eg,Cb,eg,zlc,zle,List.drop_succ_cons,List.drop_zero,List.take_succ_cons,zlr,Option.map_some,Option.isSome_some,Option.getD_some,and_self,Bp,true_and,go_sem]
      refine ⟨.mk (j+1) (g) (L) (n+200),⟨show j+1≤xs.length by omega,show m+5≤n+200 by omega,?_⟩,by show xs.length - (j+1)<xs.length - j;omega,?_⟩
      .show _=_
       rw [Bj ea,Eg,Aw]
       simp [zlf]
      dsimp only
      refine Ac ?_ (Ae.sub (Ae.cons ?_ (Ae.cons ?_ (Ae.cons ?_ (Ae.base hf fun a ha hax=>?_))))) (by omega)
      .simp (disch:=omega) only [Aa,At j (by omega),zld,zlc,zle,go_sem]
       try simp [Nat.add_assoc]
      .simp (disch:=omega) only [Aa,Au,Ar,zlf,go_sem]
       try simp [zlf]
      .simp (disch:=omega) only [Aa,go_sem]
      .simp (disch:=omega) only [Aa,go_sem]
      .repeat rw [Aq _ _ (by omega)]
     | true =>
      cases ab with
      | true =>
       simp only [Bool.not_true,Bool.not_false,Bool.false_and,Bool.true_and,Bool.and_true,Bool.and_false,Bool.false_eq_true,if_false,if_true] at Eg
       simp (disch:=omega) only [Aa,q,Ag eg,Cb,eg,zlc,zle,List.drop_succ_cons,List.drop_zero,List.take_succ_cons,zlr,Option.map_some,Option.isSome_some,Option.getD_some,and_self,Bp,true_and,go_sem]
       refine ⟨.mk (j+1) (g) (L) (n+200),⟨show j+1≤xs.length by omega,show m+5≤n+200 by omega,?_⟩,by show xs.length - (j+1)<xs.length - j;omega,?_⟩
       .show _=_
        rw [Bj ea,Eg,Aw]
        simp [zlf]
       dsimp only
       refine Ac ?_ (Ae.sub (Ae.cons ?_ (Ae.cons ?_ (Ae.cons ?_ (Ae.base hf fun a ha hax=>?_))))) (by omega)
       .simp (disch:=omega) only [Aa,At j (by omega),zld,zlc,zle,go_sem]
        try simp [Nat.add_assoc]
       .simp (disch:=omega) only [Aa,Au,Ar,zlf,go_sem]
        try simp [zlf]
       .simp (disch:=omega) only [Aa,go_sem]
       .simp (disch:=omega) only [Aa,go_sem]
       .repeat rw [Aq _ _ (by omega)]
      | false =>
       simp only [Bool.not_true,Bool.not_false,Bool.false_and,Bool.true_and,Bool.and_true,Bool.and_false,Bool.false_eq_true,if_false,if_true] at Eg
       simp (disch:=omega) only [Aa,q,Ag eg,Cb,k1,k2,y1,y2,y3,Ar,eg,zlc,zle,List.drop_succ_cons,List.drop_zero,List.take_succ_cons,zlr,Option.map_some,Option.isSome_some,Option.getD_some,and_self,Bp,true_and,go_sem]
       refine ⟨.mk (j+1) (g+1) (L++[.mk 22 (AT++⟨#[40]⟩++a.n++⟨#[41]⟩)]) (n+200),⟨show j+1≤xs.length by omega,show m+5≤n+200 by omega,?_⟩,by show xs.length - (j+1)<xs.length - j;omega,?_⟩
       .show _=_
        rw [Bj ea,Eg,Aw]
        simp [zlf]
       dsimp only
       refine Ac ?_ (Ae.sub (Ae.cons ?_ (Ae.cons ?_ (Ae.cons ?_ (Ae.base hf fun a ha hax=>?_))))) (by omega)
       .simp (disch:=omega) only [Aa,At j (by omega),zld,zlc,zle,go_sem]
        try simp [Nat.add_assoc]
       .simp (disch:=omega) only [Aa,Au,Ar,zlf,go_sem]
        try simp [zlf]
       .simp (disch:=omega) only [Aa,go_sem]
       .simp (disch:=omega) only [Aa,go_sem]
       .repeat rw [Aq _ _ (by omega)]
   have q:j=xs.length:=by simp at q;omega
   subst q
   rw [zlj] at Aw
   try subst Aw
   simp (disch:=omega) only [Aa,go_sem]
end Go.Proofs.YtgfidgoefioigaaGreatDoor
