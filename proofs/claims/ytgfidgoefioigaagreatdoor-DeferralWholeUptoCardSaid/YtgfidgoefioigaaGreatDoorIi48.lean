/- Proof. Conditions: none. -/
import Derived.Test.YtgfidgoefioigaaGreatDoorIi47
open Go.Proofs.Tryz
open List renaming mem_of_getElem?→zla,length_cons→zlc,length_append→zld,length_nil→zle,append_assoc→zlf,length_take→zlo,take_zero→zlr
open Nat renaming le_refl→zna
namespace Go.Proofs.YtgfidgoefioigaaGreatDoor
open Go.Eng
set_option linter.all false
set_option maxRecDepth 20000
set_option maxHeartbeats 2000000
theorem G0 (doc:List Az) (t:Az) (f:Cd):(FD doc t f).length≤33:=by
 unfold FD
 cases CS t.fields f.n with
 | none=>simp [L6]
 | some x =>
  unfold L6
  have h1:=BU (Fu (t.n++⟨#[46]⟩++f.n) (AZ x.args)) (AZ f.args)
  have h2:=BU (JF (t.n++⟨#[46]⟩++f.n) (AZ f.args)) (AZ x.args)
  have h3:=CE f.args
  have h4:=CE x.args
  have h5:(if Vd doc x.tn (HJ x.tw) f.tn (HJ f.tw)=true then ([]:List C6) else [.mk 10 (t.n++⟨#[46]⟩++f.n)]).length≤1:=by split<;>simp
  rw [zld,zld]
  omega
theorem DM {α β:Type} {A:α→List β} {B:Nat} (h:∀x,(A x).length≤B) (l:List α):(l.flatMap A).length≤l.length*B:=by
 induction l with
 | nil=>simp
 | cons a l ih=>rw [List.flatMap_cons,zld,zlc,Nat.add_mul];have:=h a;omega
theorem LB {doc:List Az} (hd:DocB doc) (n:ByteArray):((A1 doc n).getD Dv).fields.length≤64∧∀f∈((A1 doc n).getD Dv).fields,FldB f:=by
 cases h:A1 doc n with
 | none=>exact ⟨by simp [Dv,Az.fields_mk],by intro f hf;simp [Dv,Az.fields_mk] at hf⟩
 | some t=>exact ⟨(hd.d t (List.mem_of_find?_eq_some h)).fl,(hd.d t (List.mem_of_find?_eq_some h)).f⟩
noncomputable def Su (doc:List Az) (t:Az) (im:List ByteArray) (nm:ByteArray) (j:Nat):List C6 :=
 if M3 doc nm 2=0 then (if nm∈im.take j then [.mk 7 t.n] else ((A1 doc nm).getD Dv).fields.flatMap (FD doc t)) else [.mk (M3 doc nm 2) t.n]
noncomputable def JX (doc:List Az) (t:Az) (im:List ByteArray) (n:Nat):List C6:=(List.range n).flatMap fun j=>match im[j]? with | some nm=>Su doc t im nm j | none=>[]
theorem QS {doc:List Az} {t:Az} {im:List ByteArray} {j:Nat} {nm:ByteArray} (e:im[j]?=some nm):JX doc t im (j+1)=JX doc t im j++Su doc t im nm j:=by
 unfold JX
 rw [List.range_succ,List.flatMap_append]
 simp [e]
theorem Vy {doc:List Az} (hd:DocB doc) (t:Az) (im:List ByteArray) (nm:ByteArray) (j:Nat):(Su doc t im nm j).length≤2112:=by
 unfold Su
 have h1:=DM (G0 doc t) ((A1 doc nm).getD Dv).fields
 have h2:=(LB hd nm).1
 split
 .split
  .simp
  .omega
 .simp
theorem NP {doc:List Az} (hd:DocB doc) (t:Az) (im:List ByteArray) (n:Nat):(JX doc t im n).length≤n*2112:=by
 have:=DM (A:=fun j=>match im[j]? with | some nm=>Su doc t im nm j | none=>[]) (B:=2112) (fun j=>by
  cases im[j]? with
  | none=>simp
  | some nm=>exact Vy hd t im nm j) (List.range n)
 rw [List.length_range] at this
 exact this
theorem Mo (doc:List Az) (hd:DocOk doc) (hb:DocB doc) (t:Az) (ht:DfnB t) (hp:CH) (m:Nat):Ah prog 87 hp m [B5 doc,JN t] (.ds (Ad AK (JX doc t (Gg t.impl) (Gg t.impl).length))):=by
 have SA:=ht.im
 have SR:=ht.il
 have FH:=hb.l
 obtain ⟨im,hime⟩:∃x,Gg t.impl=x:=⟨_,rfl⟩
 rw [hime] at SA SR ⊢
 obtain ⟨RR,AD⟩:∃x,JX doc t im im.length=x:=⟨_,rfl⟩
 rw [AD]
 refine Am func87 (by kernel_rfl) cc87 cr87 rfl fun hf=>?_;unfold ck87
 simp (disch:=omega) only [Aa,SA,go_sem]
 refine loop (fun p:OI=>match p with
  | .mk j g L n=>⟨[(2,.bx m 0),(3,.bx (m+1) 0),(5,.rw (m+2) g L.length),(6,.i .i64 j)],(m+2,.rw g 2 (Ad AK L))::(m,.bx [.ds (Ad BB doc)])::(m+1,.bx [.i .i64 t.k,.s t.n,.ds (Bv im),.ds t.dirs,.ds (Ad Bq t.fields),.ds t.members,.ds t.inputs])::hp,n⟩)
  (fun p=>match p with | .mk j g L n=>j≤im.length∧m+3≤n∧L=JX doc t im j) (fun p=>match p with | .mk j g L n=>im.length - j) (.mk 0 0 [] (m+3)) ?_ ?_ (fun p hj=>?_)
 .exact ⟨Nat.zero_le _,zna _,rfl⟩
 .dsimp only
  refine (B0 (t:=5) (m:=2) (by (simp (disch:=omega) only [Aa,go_sem]))).trans (Ac ?_ (Ae.sub (Ae.cons ?_ (Ae.cons ?_ (Ae.cons ?_ (Ae.base hf fun a ha hax=>?_))))) (zna _))
  .simp (disch:=omega) only [Aa,go_sem]
  .simp (disch:=omega) only [Aa,go_sem]
   try rfl
  .simp (disch:=omega) only [Aa,go_sem]
  .simp (disch:=omega) only [Aa,go_sem]
  .repeat rw [Aq _ _ (by omega)]
 obtain ⟨j,g,L,n⟩:=p
 obtain ⟨Cm,Ba,Aw⟩:=hj
 have Cb:(Ad AK L).length=L.length:=Ax _ _
 have SU:L.length≤135168:=by rw [Aw];have:=NP hb t im j;omega
 have BO:m≤n:=by omega
 dsimp only
 simp (disch:=omega) only [Aa,go_sem]
 refine Ai (fun q=>?_) (fun q=>?_)
 case' refine_2 =>
  have q:j=im.length:=by simp at q;omega
  subst q
  rw [AD] at Aw
  subst Aw
  simp (disch:=omega) only [Aa,BO,Cb,zna,go_sem]
 have q:j<im.length:=by simpa using q
 obtain ⟨nm,en⟩:∃x,im[j]?=some x:=⟨im[j],by simp [q]⟩
 have hK:=KM doc hd.len nm 2
 have hH:=Lc (im.take j) nm (by rw [zlo];omega)
 have hFi:=BM doc hd.len nm
 have Dj:=QS (doc:=doc) (t:=t) en
 unfold Su at Dj
 obtain ⟨e0,he0⟩:∃x,M3 doc nm 2=x:=⟨_,rfl⟩
 rw [he0] at hK Dj
 obtain ⟨hx1,FI⟩:=LB hb nm
 obtain ⟨X,hX⟩:∃X,A1 doc nm=X:=⟨_,rfl⟩
 rw [hX] at hFi hx1 FI Dj
 unfold DH at hFi
 obtain ⟨x,hx⟩:∃x,X.getD Dv=x:=⟨_,rfl⟩
 rw [hx] at hFi hx1 FI Dj
 have z3:0≤(j:Int)∧(j:Int)≤(im.length:Int):=by omega
 have k1:(L.length+1)*24≤140737488355328:=by omega
 have k2:L.length≤9223372036854775806:=by omega
 simp (disch:=omega) only [Aa,q,Ag (Ab C9 en),go_sem]
 refine A3.f (fun _ _ _=>hK _ _) ?_
 by_cases c0:e0=0
 .subst c0
  rw [if_pos rfl] at Dj
  have eg:(Bv im)[j]?=some [.s nm]:=Ab C9 en
  simp (disch:=omega) only [Aa,q,Ag (Ab C9 en),z3.1,z3.2,decide_true,eg,zlc,zle,List.drop_succ_cons,List.drop_zero,List.take_succ_cons,zlr,Option.map_some,Option.isSome_some,Option.getD_some,List.getD_cons_zero,and_self,Bp,true_and,go_sem]
  refine AG.f (fun _ _ _=>hH _ _) ?_
  by_cases c1:nm∈im.take j
  .rw [if_pos c1] at Dj
   simp (disch:=omega) only [Aa,q,Ag (Ab C9 en),decide_eq_true c1,Cb,k1,k2,Ar,eg,zlc,zle,List.drop_succ_cons,List.drop_zero,List.take_succ_cons,zlr,Option.map_some,Option.isSome_some,Option.getD_some,List.getD_cons_zero,and_self,Bp,true_and,go_sem]
   refine ⟨.mk (j+1) (g+1) (L++[.mk 7 t.n]) (n+200),⟨show j+1≤im.length by omega,show m+3≤n+200 by omega,?_⟩,by show im.length - (j+1)<im.length - j;omega,?_⟩
   .show _=_
    rw [Dj,←Aw]
   dsimp only
   refine Ac ?_ (Ae.sub (Ae.cons ?_ (Ae.cons ?_ (Ae.cons ?_ (Ae.base hf fun a ha hax=>?_))))) (by omega)
   .simp (disch:=omega) only [Aa,At j (by omega),zld,zlc,zle,go_sem]
    try simp [Nat.add_assoc]
   .simp (disch:=omega) only [Aa,Au,Ar,zlf,go_sem]
    try simp [zlf]
   .simp (disch:=omega) only [Aa,go_sem]
   .simp (disch:=omega) only [Aa,go_sem]
   .repeat rw [Aq _ _ (by omega)]
  .rw [if_neg c1] at Dj
   simp (disch:=omega) only [Aa,q,Ag (Ab C9 en),decide_eq_false c1,eg,zlc,zle,List.drop_succ_cons,List.drop_zero,List.take_succ_cons,zlr,Option.map_some,Option.isSome_some,Option.getD_some,List.getD_cons_zero,and_self,Bp,true_and,go_sem]
   refine A3.f (fun _ _ _=>hFi _ _) ?_
   simp (disch:=omega) only [Aa,q,Ag (Ab C9 en),go_sem]
   have u1:¬n+31=m:=by omega
   have u2:¬n+32=m:=by omega
   refine ⟨⟨u1,u2⟩,?_⟩
   refine loop (fun p:OI=>match p with
    | .mk i g' L' n'=>⟨[(2,.bx m 0),(3,.bx (m+1) 0),(5,.rw (m+2) g' L'.length),(6,.i .i64 j),(8,.bx (n+32) 0),(10,.i .i64 i)],(m+2,.rw g' 2 (Ad AK L'))::(n+32,.bx [.i .i64 x.k,.s x.n,.ds x.impl,.ds x.dirs,.ds (Ad Bq x.fields),.ds x.members,.ds x.inputs])::(m,.bx [.ds (Ad BB doc)])::(m+1,.bx [.i .i64 t.k,.s t.n,.ds (Bv im),.ds t.dirs,.ds (Ad Bq t.fields),.ds t.members,.ds t.inputs])::hp,n'⟩)
    (fun p=>match p with | .mk i g' L' n'=>i≤x.fields.length∧n+33≤n'∧L'=L++(x.fields.take i).flatMap (FD doc t)) (fun p=>match p with | .mk i g' L' n'=>x.fields.length - i) (.mk 0 g L (n+100)) ?_ ?_ (fun p hi=>?_)
   .exact ⟨Nat.zero_le _,show n+33≤n+100 by omega,by simp⟩
   .dsimp only
    refine Ac ?_ (Ae.sub (Ae.cons ?_ (Ae.cons ?_ (Ae.cons ?_ (Ae.cons ?_ (Ae.base hf fun a ha hax=>?_)))))) (by omega)
    .simp (disch:=omega) only [Aa,go_sem]
    .simp (disch:=omega) only [Aa,go_sem]
    .simp (disch:=omega) only [Aa,go_sem]
    .simp (disch:=omega) only [Aa,go_sem]
    .simp (disch:=omega) only [Aa,go_sem]
    .repeat rw [Aq _ _ (by omega)]
   obtain ⟨i,g',L',n'⟩:=p
   obtain ⟨Md,Ij,Ex⟩:=hi
   have hLl':(Ad AK L').length=L'.length:=Ax _ _
   have GF:=DM (G0 doc t) (x.fields.take i)
   have hLn':L'.length≤137280:=by rw [Ex,zld];rw [zlo] at GF;omega
   dsimp only
   simp (disch:=omega) only [Aa,go_sem]
   refine Ai (fun q2=>?_) (fun q2=>?_)
   .have q2:i<x.fields.length:=by simpa using q2
    obtain ⟨f,ef⟩:∃y,x.fields[i]?=some y:=⟨x.fields[i],by simp [q2]⟩
    have On:=FI f (zla ef)
    have hR:=NM doc hd t ht f On
    have hRl:=G0 doc t f
    have hSn:=Bj (A:=FD doc t) ef
    obtain ⟨F,hF⟩:∃F,FD doc t f=F:=⟨_,rfl⟩
    rw [hF] at hR hRl hSn
    simp only [JN,flx] at hR
    rw [SA] at hR
    have k3:(L'.length+F.length)*24≤140737488355328:=by omega
    have k4:L'.length+F.length≤9223372036854775807:=by omega
    have Db:(Ad AK F).length=F.length:=Ax _ _
    simp (disch:=omega) only [Aa,q2,Ag (Ab Bq ef),go_sem]
    refine A3.f (fun _ _ _=>hR _ _) ?_
    simp (disch:=omega) only [Aa,q2,Ag (Ab Bq ef),hLl',Db,k3,k4,Au,true_and,go_sem]
    refine ⟨.mk (i+1) (g'+1) (L'++F) (n'+200),⟨show i+1≤x.fields.length by omega,show n+33≤n'+200 by omega,?_⟩,by show x.fields.length - (i+1)<x.fields.length - i;omega,?_⟩
    .show _=_
     rw [hSn,Ex,zlf]
    dsimp only
    refine Ac ?_ (Ae.sub (Ae.cons ?_ (Ae.cons ?_ (Ae.cons ?_ (Ae.cons ?_ (Ae.base hf fun a ha hax=>?_)))))) (by omega)
    .simp (disch:=omega) only [Aa,At i (by omega),zld,zlc,zle,go_sem]
    .simp (disch:=omega) only [Aa,Au,Ar,zlf,go_sem]
    .simp (disch:=omega) only [Aa,go_sem]
    .simp (disch:=omega) only [Aa,go_sem]
    .simp (disch:=omega) only [Aa,go_sem]
    .repeat rw [Aq _ _ (by omega)]
   have q2:i=x.fields.length:=by simp at q2;omega
   subst q2
   rw [List.take_length] at Ex
   simp (disch:=omega) only [Aa,go_sem]
   refine ⟨.mk (j+1) (g') (L') (n'+200),⟨show j+1≤im.length by omega,show m+3≤n'+200 by omega,?_⟩,by show im.length - (j+1)<im.length - j;omega,?_⟩
   .show _=_
    rw [Dj,←Aw,Ex]
   dsimp only
   refine Ac ?_ (Ae.sub (Ae.cons ?_ (Ae.cons ?_ (Ae.cons ?_ (Ae.base hf fun a ha hax=>?_))))) (by omega)
   .simp (disch:=omega) only [Aa,At j (by omega),zld,zlc,zle,go_sem]
    try simp [Nat.add_assoc]
   .simp (disch:=omega) only [Aa,Au,Ar,zlf,go_sem]
    try simp [zlf]
   .simp (disch:=omega) only [Aa,go_sem]
   .simp (disch:=omega) only [Aa,go_sem]
   .repeat rw [Aq _ _ (by omega)]
 .rw [if_neg c0] at Dj
  simp (disch:=omega) only [Aa,q,Ag (Ab C9 en),z3.1,z3.2,decide_eq_false c0,true_and,go_sem]
  refine AG.no ?_
  simp (disch:=omega) only [Aa,q,Ag (Ab C9 en),decide_eq_false c0,Cb,k1,k2,true_and,Ar,go_sem]
  refine ⟨.mk (j+1) (g+1) (L++[.mk e0 t.n]) (n+200),⟨show j+1≤im.length by omega,show m+3≤n+200 by omega,?_⟩,by show im.length - (j+1)<im.length - j;omega,?_⟩
  .show _=_
   rw [Dj,←Aw]
  dsimp only
  refine Ac ?_ (Ae.sub (Ae.cons ?_ (Ae.cons ?_ (Ae.cons ?_ (Ae.base hf fun a ha hax=>?_))))) (by omega)
  .simp (disch:=omega) only [Aa,At j (by omega),zld,zlc,zle,go_sem]
   try simp [Nat.add_assoc]
  .simp (disch:=omega) only [Aa,Au,Ar,zlf,go_sem]
   try simp [zlf]
  .simp (disch:=omega) only [Aa,go_sem]
  .simp (disch:=omega) only [Aa,go_sem]
  .repeat rw [Aq _ _ (by omega)]
theorem MH (ms:List (List AV)) (hm:∀e∈ms,∃x y,e=[AV.s x,.ds y]) (hl:ms.length≤1000000000000) (s:ByteArray) (hp:CH) (m:Nat):Ah prog 134 hp m [.ag [.i .i64 0,.s ⟨#[]⟩,.e0,.e0,.e0,.ds ms,.e0],.s s] (.b (decide (s∈Fh ms))):=by
 obtain ⟨R,hR⟩:∃R,decide (s∈Fh ms)=R:=⟨_,rfl⟩
 rw [hR]
 have Km:∀e∈ms,e.length=2:=fun e he=>by obtain ⟨x,y,rfl⟩:=hm e he;rfl
 have Km:=eq_true Km
 refine Am func134 (by kernel_rfl) cc134 cr134 rfl fun hf=>?_;unfold ck134
 simp only [go_sem]
 refine loop (fun p:Nat × Nat=>⟨[(1,.s s),(2,.bx m 0),(5,.i .i64 p.1)],(m,.bx [.i .i64 0,.s ⟨#[]⟩,.e0,.e0,.e0,.ds ms,.e0])::hp,p.2⟩) (fun p=>p.1≤ms.length∧m+1≤p.2∧R=decide (s∈Fh (ms.drop p.1))) (fun p=>ms.length - p.1) (0,m+1) ?_ ?_ (fun ⟨j,n⟩ hj=>?_)
 .exact ⟨by simp,by simp,hR.symm⟩
 .refine Ac ?_ (A6.cons ?_ (A6.base hf ?_)) (zna _)
  all_goals (simp (disch:=omega) only [Aa,go_sem])
 dsimp only at hj
 obtain ⟨Cm,Ba,Aw⟩:=hj
 simp (disch:=omega) only [Aa,go_sem]
 refine Ai (fun q=>?_) (fun q=>?_)
 .have q:j<ms.length:=by simpa using q
  obtain ⟨e,ee⟩:∃e,ms[j]?=some e:=⟨ms[j],by simp [q]⟩
  obtain ⟨x,y,rfl⟩:=hm e (zla ee)
  rw [A5 ee] at Aw
  have Aw:R=decide (s∈x::Fh (ms.drop (j+1))):=Aw
  simp (disch:=omega) only [Aa,q,Km,Ag ee,go_sem]
  refine Ai (fun c=>?_) (fun c=>?_)
  .have c:x=s:=by simpa using c
   have:R=true:=by rw [Aw];simp [c]
   subst this
   simp (disch:=omega) only [Aa,go_sem]
  .have c:¬x=s:=by simpa using c
   have c':¬s=x:=fun e=>c e.symm
   simp (disch:=omega) only [Aa,go_sem]
   refine ⟨(j+1,_),⟨by dsimp only;omega,by dsimp only;omega,by rw [Aw];simp [c']⟩,by dsimp only;omega,Ac ?_ (A6.cons ?_ (A6.base hf ?_)) (zna _)⟩
   all_goals
    simp (disch:=omega) only [Aa,At j (by omega),go_sem]
 .have q:j=ms.length:=by simp at q;omega
  subst q
  rw [List.drop_length] at Aw
  have:R=false:=by rw [Aw];simp [Fh]
  subst this
  simp (disch:=omega) only [Aa,go_sem]
noncomputable def Sg (doc:List Az) (t:Az) (nm:ByteArray) (j:Nat):List C6 :=
 if M3 doc nm 1=0 then (if nm∈Fh (t.members.take j) then [.mk 7 (t.n++⟨#[46]⟩++nm)] else []) else [.mk (M3 doc nm 1) (t.n++⟨#[46]⟩++nm)]
noncomputable def JY (doc:List Az) (t:Az) (n:Nat):List C6:=(List.range n).flatMap fun j=>match (t.members[j]?:Option (List AV)) with | some [AV.s nm,AV.ds _]=>Sg doc t nm j | _=>[]
theorem S4 {doc:List Az} {t:Az} {j:Nat} {nm:ByteArray} {y:List (List AV)} (e:t.members[j]?=some [.s nm,.ds y]):JY doc t (j+1)=JY doc t j++Sg doc t nm j:=by
 unfold JY
 rw [List.range_succ,List.flatMap_append]
 simp [e]
theorem TT (doc:List Az) (t:Az) (nm:ByteArray) (j:Nat):(Sg doc t nm j).length≤1:=by
 unfold Sg
 split
 .split<;>simp
 .simp
theorem Oa (doc:List Az) (t:Az) (n:Nat):(JY doc t n).length≤n*1:=by
 have:=DM (A:=fun j=>match (t.members[j]?:Option (List AV)) with | some [AV.s nm,AV.ds _]=>Sg doc t nm j | _=>[]) (B:=1) (fun j=>by
  split
  .exact TT ..
  .simp) (List.range n)
 rw [List.length_range] at this
 exact this
theorem P4 (doc:List Az) (hd:DocOk doc) (t:Az) (ht:DfnB t) (hp:CH) (m:Nat):Ah prog 88 hp m [B5 doc,JN t] (.ds (Ad AK (JY doc t t.members.length))):=by
 have Km:=ht.ml
 have hm:=ht.m
 have htn:=ht.n
 obtain ⟨RR,AD⟩:∃x,JY doc t t.members.length=x:=⟨_,rfl⟩
 rw [AD]
 have QP:∀e∈t.members,e.length=2:=fun e he=>by obtain ⟨x,y,rfl,_⟩:=hm e he;rfl
 have QP:=eq_true QP
 refine Am func88 (by kernel_rfl) cc88 cr88 rfl fun hf=>?_;unfold ck88
 simp (disch:=omega) only [Aa,go_sem]
 refine loop (fun p:OI=>match p with
  | .mk j g L n=>⟨[(2,.bx m 0),(3,.bx (m+1) 0),(5,.rw (m+2) g L.length),(6,.i .i64 j)],(m+2,.rw g 2 (Ad AK L))::(m,.bx [.ds (Ad BB doc)])::(m+1,.bx [.i .i64 t.k,.s t.n,.ds t.impl,.ds t.dirs,.ds (Ad Bq t.fields),.ds t.members,.ds t.inputs])::hp,n⟩)
  (fun p=>match p with | .mk j g L n=>j≤t.members.length∧m+3≤n∧L=JY doc t j) (fun p=>match p with | .mk j g L n=>t.members.length - j) (.mk 0 0 [] (m+3)) ?_ ?_ (fun p hj=>?_)
 .exact ⟨Nat.zero_le _,zna _,rfl⟩
 .dsimp only
  refine (B0 (t:=5) (m:=2) (by (simp (disch:=omega) only [Aa,go_sem]))).trans (Ac ?_ (Ae.sub (Ae.cons ?_ (Ae.cons ?_ (Ae.cons ?_ (Ae.base hf fun a ha hax=>?_))))) (zna _))
  .simp (disch:=omega) only [Aa,go_sem]
  .simp (disch:=omega) only [Aa,go_sem]
   try rfl
  .simp (disch:=omega) only [Aa,go_sem]
  .simp (disch:=omega) only [Aa,go_sem]
  .repeat rw [Aq _ _ (by omega)]
 obtain ⟨j,g,L,n⟩:=p
 obtain ⟨Cm,Ba,Aw⟩:=hj
 have Cb:(Ad AK L).length=L.length:=Ax _ _
 have SU:L.length≤64:=by rw [Aw];have:=Oa doc t j;omega
 have BO:m≤n:=by omega
 dsimp only
 simp (disch:=omega) only [Aa,go_sem]
 refine Ai (fun q=>?_) (fun q=>?_)
 case' refine_2 =>
  have q:j=t.members.length:=by simp at q;omega
  subst q
  rw [AD] at Aw
  subst Aw
  simp (disch:=omega) only [Aa,BO,Cb,zna,go_sem]
 have q:j<t.members.length:=by simpa using q
 obtain ⟨e,ee⟩:∃x,t.members[j]?=some x:=⟨t.members[j],by simp [q]⟩
 obtain ⟨nm,y,rfl,Fn⟩:=hm e (zla ee)
 have hK:=KM doc hd.len nm 1
 have hH:=MH (t.members.take j) (fun e he=>let ⟨x,y,h,_⟩:=hm e (List.mem_of_mem_take he);⟨x,y,h⟩) (by rw [zlo];omega) nm
 have Dj:=S4 (doc:=doc) ee
 unfold Sg at Dj
 obtain ⟨e0,he0⟩:∃x,M3 doc nm 1=x:=⟨_,rfl⟩
 rw [he0] at hK Dj
 have z1:t.n.size+(#[46]:Array UInt8).size≤9223372036854775807:=by show t.n.size+1≤9223372036854775807;omega
 have z2:t.n.size+((#[46]:Array UInt8).size+nm.size)≤9223372036854775807:=by show t.n.size+(1+nm.size)≤9223372036854775807;omega
 have z3:0≤(j:Int)∧(j:Int)≤(t.members.length:Int):=by omega
 have k1:(L.length+1)*24≤140737488355328:=by omega
 have k2:L.length≤9223372036854775806:=by omega
 simp (disch:=omega) only [Aa,q,QP,Ag ee,go_sem]
 refine Af.f (hK _ _) ?_
 by_cases c0:e0=0
 .subst c0
  rw [if_pos rfl] at Dj
  simp (disch:=omega) only [Aa,q,QP,Ag ee,z3.1,z3.2,decide_true,true_and,go_sem]
  refine AA.f (fun _=>hH _ _) ?_
  by_cases c1:nm∈Fh (t.members.take j)
  .rw [if_pos c1] at Dj
   simp (disch:=omega) only [Aa,q,QP,Ag ee,decide_eq_true c1,Cb,k1,k2,z1,z2,Ar,true_and,go_sem]
   refine ⟨.mk (j+1) (g+1) (L++[.mk 7 (t.n++⟨#[46]⟩++nm)]) (n+200),⟨show j+1≤t.members.length by omega,show m+3≤n+200 by omega,?_⟩,by show t.members.length - (j+1)<t.members.length - j;omega,?_⟩
   .show _=_
    rw [Dj,←Aw]
    try simp
   dsimp only
   refine Ac ?_ (Ae.sub (Ae.cons ?_ (Ae.cons ?_ (Ae.cons ?_ (Ae.base hf fun a ha hax=>?_))))) (by omega)
   .simp (disch:=omega) only [Aa,At j (by omega),zld,zlc,zle,go_sem]
    try simp [Nat.add_assoc]
   .simp (disch:=omega) only [Aa,Au,Ar,zlf,go_sem]
    try simp [zlf]
   .simp (disch:=omega) only [Aa,go_sem]
   .simp (disch:=omega) only [Aa,go_sem]
   .repeat rw [Aq _ _ (by omega)]
  .rw [if_neg c1] at Dj
   simp (disch:=omega) only [Aa,q,QP,Ag ee,decide_eq_false c1,Cb,true_and,go_sem]
   refine ⟨.mk (j+1) (g) (L) (n+200),⟨show j+1≤t.members.length by omega,show m+3≤n+200 by omega,?_⟩,by show t.members.length - (j+1)<t.members.length - j;omega,?_⟩
   .show _=_
    rw [Dj,←Aw]
    try simp
   dsimp only
   refine Ac ?_ (Ae.sub (Ae.cons ?_ (Ae.cons ?_ (Ae.cons ?_ (Ae.base hf fun a ha hax=>?_))))) (by omega)
   .simp (disch:=omega) only [Aa,At j (by omega),zld,zlc,zle,go_sem]
    try simp [Nat.add_assoc]
   .simp (disch:=omega) only [Aa,Au,Ar,zlf,go_sem]
    try simp [zlf]
   .simp (disch:=omega) only [Aa,go_sem]
   .simp (disch:=omega) only [Aa,go_sem]
   .repeat rw [Aq _ _ (by omega)]
 .rw [if_neg c0] at Dj
  simp (disch:=omega) only [Aa,q,QP,Ag ee,z3.1,z3.2,decide_eq_false c0,true_and,go_sem]
  refine BK ?_
  simp (disch:=omega) only [Aa,q,QP,Ag ee,decide_eq_false c0,Cb,k1,k2,z1,z2,Ar,true_and,go_sem]
  refine ⟨.mk (j+1) (g+1) (L++[.mk e0 (t.n++⟨#[46]⟩++nm)]) (n+200),⟨show j+1≤t.members.length by omega,show m+3≤n+200 by omega,?_⟩,by show t.members.length - (j+1)<t.members.length - j;omega,?_⟩
  .show _=_
   rw [Dj,←Aw]
   try simp
  dsimp only
  refine Ac ?_ (Ae.sub (Ae.cons ?_ (Ae.cons ?_ (Ae.cons ?_ (Ae.base hf fun a ha hax=>?_))))) (by omega)
  .simp (disch:=omega) only [Aa,At j (by omega),zld,zlc,zle,go_sem]
   try simp [Nat.add_assoc]
  .simp (disch:=omega) only [Aa,Au,Ar,zlf,go_sem]
   try simp [zlf]
  .simp (disch:=omega) only [Aa,go_sem]
  .simp (disch:=omega) only [Aa,go_sem]
  .repeat rw [Aq _ _ (by omega)]
noncomputable def G3 (doc:List Az) (t:Az):List C6:=if t.k=1 then JX doc t (Gg t.impl) (Gg t.impl).length else if t.k=3 then JY doc t t.members.length else []
theorem N2 {doc:List Az} (hb:DocB doc) {t:Az} (ht:DfnB t):(G3 doc t).length≤135168:=by
 unfold G3
 split
 .have:=NP hb t (Gg t.impl) (Gg t.impl).length;have:=ht.il;omega
 .split
  .have:=Oa doc t t.members.length;have:=ht.ml;omega
  .simp
theorem JE {doc:List Az} (hb:DocB doc):∀l:List Az,(∀t∈l,DfnB t)→(l.flatMap (G3 doc)).length≤l.length*135168
 | [],_=>by simp
 | t::l,h=>by
  have h1:=N2 hb (h t (List.mem_cons_self ..))
  have h2:=JE hb l fun t ht=>h t (List.mem_cons_of_mem _ ht)
  rw [List.flatMap_cons,zld,zlc,Nat.add_mul]
  omega
theorem T4 (doc:List Az) (hd:DocOk doc) (hb:DocB doc) (hp:CH) (m:Nat):Ah prog 44 hp m [B5 doc] (.ds (Ad AK (doc.flatMap (G3 doc)))):=by
 have FH:=hb.l
 obtain ⟨RR,AD⟩:∃x,doc.flatMap (G3 doc)=x:=⟨_,rfl⟩
 rw [AD]
 refine Am func44 (by kernel_rfl) cc44 cr44 rfl fun hf=>?_;unfold ck44
 simp (disch:=omega) only [Aa,go_sem]
 refine loop (fun p:OI=>match p with
  | .mk j g L n=>⟨[(1,.bx m 0),(3,.rw (m+1) g L.length),(4,.i .i64 j)],(m+1,.rw g 2 (Ad AK L))::(m,.bx [.ds (Ad BB doc)])::hp,n⟩)
  (fun p=>match p with | .mk j g L n=>j≤doc.length∧m+2≤n∧L=(doc.take j).flatMap (G3 doc)) (fun p=>match p with | .mk j g L n=>doc.length - j) (.mk 0 0 [] (m+2)) ?_ ?_ (fun p hj=>?_)
 .exact ⟨Nat.zero_le _,zna _,by simp⟩
 .dsimp only
  refine (B0 (t:=3) (m:=2) (by (simp (disch:=omega) only [Aa,go_sem]))).trans (Ac ?_ (Ae.sub (Ae.cons ?_ (Ae.cons ?_ (Ae.base hf fun a ha hax=>?_)))) (zna _))
  .simp (disch:=omega) only [Aa,go_sem]
  .simp (disch:=omega) only [Aa,go_sem]
   try rfl
  .simp (disch:=omega) only [Aa,go_sem]
  .repeat rw [Aq _ _ (by omega)]
 obtain ⟨j,g,L,n⟩:=p
 obtain ⟨Cm,Ba,Aw⟩:=hj
 have Cb:(Ad AK L).length=L.length:=Ax _ _
 have SU:L.length≤8650752:=by rw [Aw];have:=JE hb (doc.take j) (fun t ht=>hb.d t (List.mem_of_mem_take ht));rw [zlo] at this;omega
 have BO:m≤n:=by omega
 dsimp only
 simp (disch:=omega) only [Aa,go_sem]
 refine Ai (fun q=>?_) (fun q=>?_)
 case' refine_2 =>
  have q:j=doc.length:=by simp at q;omega
  subst q
  rw [List.take_length,AD] at Aw
  subst Aw
  simp (disch:=omega) only [Aa,BO,Cb,zna,go_sem]
 have q:j<doc.length:=by simpa using q
 obtain ⟨t,et⟩:∃x,doc[j]?=some x:=⟨doc[j],by simp [q]⟩
 have ht:=hb.d t (zla et)
 have Dj:=Bj (A:=G3 doc) et
 have GF:=N2 hb ht
 have hO:=Mo doc hd hb t ht
 have hU:=P4 doc hd t ht
 by_cases k1:t.k=1
 .have e1:G3 doc t=JX doc t (Gg t.impl) (Gg t.impl).length:=by unfold G3;rw [if_pos k1]
  rw [e1] at Dj GF
  obtain ⟨F,hF⟩:∃F,JX doc t (Gg t.impl) (Gg t.impl).length=F:=⟨_,rfl⟩
  rw [hF] at hO Dj GF
  have Db:(Ad AK F).length=F.length:=Ax _ _
  have k3:(L.length+F.length)*24≤140737488355328:=by omega
  have k4:L.length+F.length≤9223372036854775807:=by omega
  simp (disch:=omega) only [Aa,q,Ag (Ab BB et),decide_eq_true k1,go_sem]
  refine A3.f (fun _ _ _=>hO _ _) ?_
  simp (disch:=omega) only [Aa,q,Ag (Ab BB et),Cb,Db,k3,k4,Au,true_and,go_sem]
  refine ⟨.mk (j+1) (g+1) (L++F) (n+200),⟨show j+1≤doc.length by omega,show m+2≤n+200 by omega,?_⟩,by show doc.length - (j+1)<doc.length - j;omega,?_⟩
  .show _=_
   rw [Dj,←Aw]
   try simp
  dsimp only
  refine Ac ?_ (Ae.sub (Ae.cons ?_ (Ae.cons ?_ (Ae.base hf fun a ha hax=>?_)))) (by omega)
  .simp (disch:=omega) only [Aa,At j (by omega),zld,zlc,zle,go_sem]
   try simp [Nat.add_assoc]
  .simp (disch:=omega) only [Aa,Au,Ar,zlf,go_sem]
   try simp [zlf]
  .simp (disch:=omega) only [Aa,go_sem]
  .repeat rw [Aq _ _ (by omega)]
 by_cases k2:t.k=3
 .have e1:G3 doc t=JY doc t t.members.length:=by unfold G3;rw [if_neg k1,if_pos k2]
  rw [e1] at Dj GF
  obtain ⟨F,hF⟩:∃F,JY doc t t.members.length=F:=⟨_,rfl⟩
  rw [hF] at hU Dj GF
  have Db:(Ad AK F).length=F.length:=Ax _ _
  have k3:(L.length+F.length)*24≤140737488355328:=by omega
  have k4:L.length+F.length≤9223372036854775807:=by omega
  simp (disch:=omega) only [Aa,q,Ag (Ab BB et),decide_eq_false k1,decide_eq_true k2,go_sem]
  refine A3.f (fun _ _ _=>hU _ _) ?_
  simp (disch:=omega) only [Aa,q,Ag (Ab BB et),Cb,Db,k3,k4,Au,true_and,go_sem]
  refine ⟨.mk (j+1) (g+1) (L++F) (n+200),⟨show j+1≤doc.length by omega,show m+2≤n+200 by omega,?_⟩,by show doc.length - (j+1)<doc.length - j;omega,?_⟩
  .show _=_
   rw [Dj,←Aw]
   try simp
  dsimp only
  refine Ac ?_ (Ae.sub (Ae.cons ?_ (Ae.cons ?_ (Ae.base hf fun a ha hax=>?_)))) (by omega)
  .simp (disch:=omega) only [Aa,At j (by omega),zld,zlc,zle,go_sem]
   try simp [Nat.add_assoc]
  .simp (disch:=omega) only [Aa,Au,Ar,zlf,go_sem]
   try simp [zlf]
  .simp (disch:=omega) only [Aa,go_sem]
  .repeat rw [Aq _ _ (by omega)]
 .have e1:G3 doc t=[]:=by unfold G3;rw [if_neg k1,if_neg k2]
  rw [e1] at Dj
  simp (disch:=omega) only [Aa,q,Ag (Ab BB et),decide_eq_false k1,decide_eq_false k2,go_sem]
  refine ⟨.mk (j+1) (g) (L) (n+200),⟨show j+1≤doc.length by omega,show m+2≤n+200 by omega,?_⟩,by show doc.length - (j+1)<doc.length - j;omega,?_⟩
  .show _=_
   rw [Dj,←Aw]
   try simp
  dsimp only
  refine Ac ?_ (Ae.sub (Ae.cons ?_ (Ae.cons ?_ (Ae.base hf fun a ha hax=>?_)))) (by omega)
  .simp (disch:=omega) only [Aa,At j (by omega),zld,zlc,zle,go_sem]
   try simp [Nat.add_assoc]
  .simp (disch:=omega) only [Aa,Au,Ar,zlf,go_sem]
   try simp [zlf]
  .simp (disch:=omega) only [Aa,go_sem]
  .repeat rw [Aq _ _ (by omega)]
end Go.Proofs.YtgfidgoefioigaaGreatDoor
