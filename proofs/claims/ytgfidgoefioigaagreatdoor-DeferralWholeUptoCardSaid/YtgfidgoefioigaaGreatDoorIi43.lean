/- Proof. Conditions: none. -/
import Derived.Test.YtgfidgoefioigaaGreatDoorIi42
open Go.Proofs.Tryz
open List renaming mem_of_getElem?→zla,length_cons→zlc,length_append→zld,length_nil→zle,append_assoc→zlf,nil_append→zli
open Nat renaming le_refl→zna
namespace Go.Proofs.YtgfidgoefioigaaGreatDoor
open Go.Eng
set_option linter.all false
set_option maxRecDepth 20000
set_option maxHeartbeats 2000000
def zFl:Cd:=.mk ⟨#[]⟩ [] ⟨#[]⟩ [] []
abbrev flx (x:Cd):AV:=.ag [.s x.n,.ds x.args,.s x.tn,.ds x.tw,.ds x.dirs]
def CS (l:List Cd) (n:ByteArray):Option Cd:=l.find? fun f=>decide (f.n=n)
noncomputable def P5 (o:Option Cd):AV:=.tp [flx (o.getD zFl),.b o.isSome]
theorem IU (t:Cd) (l:List Cd) (n:ByteArray):CS (t::l) n=if t.n=n then some t else CS l n:=by
 unfold CS
 rw [List.find?_cons]
 by_cases c:t.n=n
 .simp [c]
 .simp [c]
theorem Kv (t:Az) (hl:t.fields.length≤1000000000000) (n:ByteArray) (hp:CH) (m:Nat):Ah prog 127 hp m [JN t,.s n] (P5 (CS t.fields n)):=by
 obtain ⟨l,hle⟩:∃l,t.fields=l:=⟨_,rfl⟩
 rw [hle] at hl ⊢
 obtain ⟨R,hR⟩:∃R,CS l n=R:=⟨_,rfl⟩
 rw [hR,P5]
 show Ah prog 127 hp m [.ag [.i .i64 t.k,.s t.n,.ds t.impl,.ds t.dirs,.ds (Ad Bq t.fields),.ds t.members,.ds t.inputs],.s n] _
 rw [hle]
 refine Am func127 (by kernel_rfl) cc127 cr127 rfl fun hf=>?_;unfold ck127
 simp only [go_sem]
 refine loop (fun p:Nat × Nat=>⟨[(1,.s n),(2,.bx m 0),(4,.bx (m+1) 0),(6,.i .i64 p.1)],(m,.bx [.i .i64 t.k,.s t.n,.ds t.impl,.ds t.dirs,.ds (Ad Bq l),.ds t.members,.ds t.inputs])::(m+1,.bx [.s ⟨#[]⟩,.e0,.s ⟨#[]⟩,.e0,.e0])::hp,p.2⟩)
  (fun p=>p.1≤l.length∧m+2≤p.2∧R=CS (l.drop p.1) n) (fun p=>l.length - p.1) (0,m+2) ?_ ?_ (fun ⟨j,k⟩ hj=>?_)
 .exact ⟨by simp,by simp,hR.symm⟩
 .refine Ac ?_ (A6.cons ?_ (A6.cons ?_ (A6.base hf ?_))) (zna _)
  all_goals (simp (disch:=omega) only [Aa,go_sem])
 dsimp only at hj
 obtain ⟨Cm,Ba,Aw⟩:=hj
 simp (disch:=omega) only [Aa,go_sem]
 refine Ai (fun q=>?_) (fun q=>?_)
 .have q:j<l.length:=by simpa using q
  obtain ⟨y,et⟩:∃y,l[j]?=some y:=⟨l[j],by simp [q]⟩
  rw [A5 et,IU] at Aw
  have LW:m≤k:=by omega
  simp (disch:=omega) only [Aa,q,Ag (Ab Bq et),go_sem]
  refine Ai (fun c=>?_) (fun c=>?_)
  .have c:y.n=n:=by simpa using c
   rw [if_pos c] at Aw
   subst Aw
   simp (disch:=omega) only [Aa,LW,q,Ag (Ab Bq et),go_sem]
  .have c:¬y.n=n:=by simpa using c
   rw [if_neg c] at Aw
   simp (disch:=omega) only [Aa,go_sem]
   refine ⟨(j+1,_),⟨by dsimp only;omega,by dsimp only;omega,Aw⟩,by dsimp only;omega,Ac ?_ (A6.cons ?_ (A6.cons ?_ (A6.base hf ?_))) (zna _)⟩
   all_goals
    simp (disch:=omega) only [Aa,At j (by omega),LW,go_sem]
 .have q:j=l.length:=by simp at q;omega
  subst q
  rw [List.drop_length] at Aw
  have Aw:R=none:=Aw
  subst Aw
  simp (disch:=omega) only [Aa,go_sem]
  rfl
theorem Pc (l:List Cd) (hl:l.length≤1000000000000) (n:ByteArray) (hp:CH) (m:Nat):Ah prog 127 hp m [.ag [.i .i64 0,.s ⟨#[]⟩,.e0,.e0,.ds (Ad Bq l),.e0,.e0],.s n] (P5 (CS l n)):=by
 obtain ⟨R,hR⟩:∃R,CS l n=R:=⟨_,rfl⟩
 rw [hR,P5]
 refine Am func127 (by kernel_rfl) cc127 cr127 rfl fun hf=>?_;unfold ck127
 simp only [go_sem]
 refine loop (fun p:Nat × Nat=>⟨[(1,.s n),(2,.bx m 0),(4,.bx (m+1) 0),(6,.i .i64 p.1)],(m,.bx [.i .i64 0,.s ⟨#[]⟩,.e0,.e0,.ds (Ad Bq l),.e0,.e0])::(m+1,.bx [.s ⟨#[]⟩,.e0,.s ⟨#[]⟩,.e0,.e0])::hp,p.2⟩)
  (fun p=>p.1≤l.length∧m+2≤p.2∧R=CS (l.drop p.1) n) (fun p=>l.length - p.1) (0,m+2) ?_ ?_ (fun ⟨j,k⟩ hj=>?_)
 .exact ⟨by simp,by simp,hR.symm⟩
 .refine Ac ?_ (A6.cons ?_ (A6.cons ?_ (A6.base hf ?_))) (zna _)
  all_goals (simp (disch:=omega) only [Aa,go_sem])
 dsimp only at hj
 obtain ⟨Cm,Ba,Aw⟩:=hj
 simp (disch:=omega) only [Aa,go_sem]
 refine Ai (fun q=>?_) (fun q=>?_)
 .have q:j<l.length:=by simpa using q
  obtain ⟨y,et⟩:∃y,l[j]?=some y:=⟨l[j],by simp [q]⟩
  rw [A5 et,IU] at Aw
  have LW:m≤k:=by omega
  simp (disch:=omega) only [Aa,q,Ag (Ab Bq et),go_sem]
  refine Ai (fun c=>?_) (fun c=>?_)
  .have c:y.n=n:=by simpa using c
   rw [if_pos c] at Aw
   subst Aw
   simp (disch:=omega) only [Aa,LW,q,Ag (Ab Bq et),go_sem]
  .have c:¬y.n=n:=by simpa using c
   rw [if_neg c] at Aw
   simp (disch:=omega) only [Aa,go_sem]
   refine ⟨(j+1,_),⟨by dsimp only;omega,by dsimp only;omega,Aw⟩,by dsimp only;omega,Ac ?_ (A6.cons ?_ (A6.cons ?_ (A6.base hf ?_))) (zna _)⟩
   all_goals
    simp (disch:=omega) only [Aa,At j (by omega),LW,go_sem]
 .have q:j=l.length:=by simp at q;omega
  subst q
  rw [List.drop_length] at Aw
  have Aw:R=none:=Aw
  subst Aw
  simp (disch:=omega) only [Aa,go_sem]
  rfl
inductive MbS
 | mk (i:Nat) (b:Bool) (n:Nat)
noncomputable def ZE (ms:List (List AV)) (x:ByteArray) (i:Nat):Bool:=decide (x∈Fh (ms.take i))
noncomputable def Pn (t:Az) (ms:List (List AV)) (j:Nat) (e:List AV):List C6:=match e with
 | [AV.s x,AV.ds _]=>Ff x (decide (x=⟨#[116,114,117,101]⟩)||(decide (x=⟨#[102,97,108,115,101]⟩)||decide (x=⟨#[110,117,108,108]⟩))) (ZE ms x j) (t.n++⟨#[46]⟩++x)
 | _=>[]
theorem J0 (t:Az) (ms:List (List AV)) (j:Nat) (e:List AV):(Pn t ms j e).length≤2:=by
 unfold Pn
 split
 .exact DU _ _ _ _
 .simp
noncomputable def QV (t:Az):List C6:=Gj (Pn t t.members) t.members t.members.length
theorem NV (t:Az) (h:t.members.length≤64):(QV t).length≤128:=by
 have:=CV (A:=Pn t t.members) (l:=t.members) (fun j x _=>J0 t t.members j x) t.members.length
 unfold QV
 omega
theorem UZ {ms:List (List AV)} {x x2:ByteArray} {y2:List (List AV)} {i:Nat} (e:ms[i]?=some [.s x2,.ds y2]):ZE ms x (i+1)=(ZE ms x i||decide (x2=x)):=by
 unfold ZE
 rw [←Bg e,Bool.eq_iff_iff]
 have:Fh (ms.take i++[[AV.s x2,.ds y2]])=Fh (ms.take i)++[x2]:=by unfold Fh;rw [List.map_append];rfl
 rw [this]
 simp
 constructor
 .rintro (h | h)
  .exact .inl h
  .exact .inr h.symm
 .rintro (h | h)
  .exact .inl h
  .exact .inr h.symm
theorem Pb (t:Az) (hn:t.n.size≤64) (hl:t.members.length≤64) (hm:∀e∈t.members,∃x y,e=[AV.s x,.ds y]∧x.size≤64) (hp:CH) (m:Nat):GS 85 hp m [JN t] (QV t):=by
 obtain ⟨RR,AD⟩:∃RR,QV t=RR:=⟨_,rfl⟩
 rw [AD]
 unfold QV at AD
 refine ER (fun l:List C6=>l=RR) (fun _=>[]) (fun l=>.ds (Ad AK l)) func85 (by kernel_rfl) cc85 cr85 rfl (fun hf i hi=>trivial) fun hf=>?_
 unfold ck85
 obtain ⟨is,his⟩:∃is,t.members=is:=⟨_,rfl⟩
 simp only [JN]
 rw [his]
 rw [his] at hl hm AD
 simp only [go_sem]
 refine loop (fun p:OI=>match p with
  | .mk j g L n=>⟨[(1,.bx m 0),(3,.rw (m+1) g L.length),(4,.i .i64 j)],(m+1,.rw g 2 (Ad AK L))::(m,.bx [.i .i64 t.k,.s t.n,.ds t.impl,.ds t.dirs,.ds (Ad Bq t.fields),.ds is,.ds t.inputs])::hp,n⟩)
  (fun p=>match p with | .mk j g L n=>j≤is.length∧m+2≤n∧L=Gj (Pn t is) is j) (fun p=>match p with | .mk j g L n=>is.length - j) (.mk 0 0 [] (m+2)) ?_ ?_ (fun p hj=>?_)
 .exact ⟨Nat.zero_le _,zna _,rfl⟩
 .dsimp only
  refine (B0 (t:=3) (m:=2) ?_).trans (Ac ?_ (Ae.sub (Ae.cons ?_ (Ae.cons ?_ (Ae.base hf fun a ha hax=>?_)))) (zna _))
  .simp (disch:=omega) only [Aa,go_sem]
  .simp (disch:=omega) only [Aa,go_sem]
  .simp (disch:=omega) only [Aa,go_sem]
   try rfl
  .simp (disch:=omega) only [Aa,go_sem]
  .repeat rw [Aq _ _ (by omega)]
 obtain ⟨j,g,L,n⟩:=p
 obtain ⟨Cm,Ba,Aw⟩:=hj
 have hLb:L.length≤2*j:=by rw [Aw];exact CV (fun j x _=>J0 t is j x) j
 have Cb:(Ad AK L).length=L.length:=Ax _ _
 have JJ:(Ad AK L).take L.length=Ad AK L:=List.take_of_length_le (by omega)
 dsimp only
 simp (disch:=omega) only [Aa,go_sem]
 refine Ai (fun q=>?_) (fun q=>?_)
 case' refine_2 =>
  have BO:m≤n:=by omega
  have q:j=is.length:=by simp at q;omega
  subst q
  rw [AD] at Aw
  simp (disch:=omega) only [Aa,go_sem]
  refine BY L Aw ?_
  simp (disch:=omega) only [Aa,BO,Cb,zna,JJ,go_sem]
 have q:j<is.length:=by simpa using q
 obtain ⟨e,ex⟩:∃x,is[j]?=some x:=⟨is[j],by simp [q]⟩
 obtain ⟨x,y,rfl,hx⟩:=hm e (zla ex)
 have Dj:=EE (A:=Pn t is) ex
 simp (disch:=omega) only [Aa,q,Ag ex,go_sem]
 refine loop (fun p:MbS=>match p with
  | .mk i b o=>⟨[(1,.bx m 0),(3,.rw (m+1) g L.length),(4,.i .i64 j),(5,.s x),(6,.b b),(7,.i .i64 i)],(m+1,.rw g 2 (Ad AK L))::(m,.bx [.i .i64 t.k,.s t.n,.ds t.impl,.ds t.dirs,.ds (Ad Bq t.fields),.ds is,.ds t.inputs])::hp,o⟩)
  (fun p=>match p with | .mk i b o=>i≤j∧n≤o∧b=ZE is x i) (fun p=>match p with | .mk i b o=>j - i) (.mk 0 false n) ?_ ?_ (fun p hi=>?_)
 .exact ⟨Nat.zero_le _,zna _,by simp [ZE,Fh]⟩
 .dsimp only
  refine Ac ?_ (A6.refl _) (zna _)
  simp only [go_sem]
 obtain ⟨i,b,o⟩:=p
 obtain ⟨Md,Ij,Ex⟩:=hi
 dsimp only
 simp (disch:=omega) only [Aa,go_sem]
 refine Ai (fun q2=>?_) (fun q2=>?_)
 .have q2:i<j:=by simp at q2;omega
  have q3:i<is.length:=by omega
  obtain ⟨e2,ey⟩:∃x,is[i]?=some x:=⟨is[i],by simp [q3]⟩
  obtain ⟨x2,y2,rfl,_⟩:=hm e2 (zla ey)
  have hbs:=UZ (x:=x) ey
  rw [←Ex] at hbs
  clear Ex
  cases b with
  | true =>
   simp (disch:=omega) only [Aa,go_sem]
   refine ⟨.mk (i+1) true (o+100),⟨show i+1≤j by omega,show n≤o+100 by omega,by rw [hbs];first | rfl | simp⟩,by show j - (i+1)<j - i;omega,?_⟩
   dsimp only
   refine Ac ?_ (A6.refl _) (by omega)
   simp (disch:=omega) only [Aa,At i (by omega),go_sem]
  | false =>
   simp (disch:=omega) only [Aa,q3,Ag ey,go_sem]
   refine ⟨.mk (i+1) (decide (x2=x)) (o+100),⟨show i+1≤j by omega,show n≤o+100 by omega,by rw [hbs];first | rfl | simp⟩,by show j - (i+1)<j - i;omega,?_⟩
   dsimp only
   refine Ac ?_ (A6.refl _) (by omega)
   simp (disch:=omega) only [Aa,At i (by omega),go_sem]
 .have z1:t.n.size+(#[46]:Array UInt8).size≤9223372036854775807:=by show t.n.size+1≤9223372036854775807;omega
  have z2:t.n.size+((#[46]:Array UInt8).size+x.size)≤9223372036854775807:=by show t.n.size+(1+x.size)≤9223372036854775807;omega
  have hmo:m≤o:=by omega
  have q2:j=i:=by simp at q2;omega
  subst q2
  have hE:Pn t is j [.s x,.ds y]=Ff x (decide (x=⟨#[116,114,117,101]⟩)||(decide (x=⟨#[102,97,108,115,101]⟩)||decide (x=⟨#[110,117,108,108]⟩))) (ZE is x j) (t.n++⟨#[46]⟩++x):=rfl
  rw [←Ex] at hE
  simp (disch:=omega) only [Aa,z1,z2,go_sem]
  refine Af.r (Jv _ _ _ _ _ _) ?_
  rintro Ao n' r ⟨F1,LV,e1,e2,e3⟩
  subst e1
  subst e2
  subst e3
  have Gl:F1=_:=LV
  rw [Bool.or_assoc,←hE] at Gl
  have LV:F1.length≤2:=by rw [Gl];exact J0 _ _ _ _
  have k1:(L.length+F1.length)*24≤140737488355328:=by omega
  have k2:L.length+F1.length≤9223372036854775807:=by omega
  have Db:(Ad AK F1).length=F1.length:=Ax _ _
  have JQ:(Ad AK (L++F1)).length=L.length+F1.length:=by rw [Ax,zld]
  simp only [zli]
  simp (disch:=omega) only [Aa,q,Ag ex,Cb,Db,k1,k2,Au,go_sem]
  refine ⟨.mk (j+1) (g+1) (L++F1) (n'+200),⟨show j+1≤is.length by omega,show m+2≤n'+200 by omega,by show _=_;rw [Dj,Gl,Aw]⟩,by show is.length - (j+1)<is.length - j;omega,?_⟩
  dsimp only
  refine Ac ?_ (Ae.sub (Ae.cons ?_ (Ae.cons ?_ (Ae.base hf fun a ha hax=>?_)))) (by omega)
  .simp (disch:=omega) only [Aa,At j (by omega),zld,zlc,zle,go_sem]
   try simp [Nat.add_assoc]
  .simp (disch:=omega) only [Aa,Au,Ar,zlf,go_sem]
   try simp [zlf]
  .simp (disch:=omega) only [Aa,go_sem]
  .repeat rw [Aq _ _ (by omega)]
theorem e46:(⟨#[46]⟩:ByteArray).size=1:=rfl
theorem e40:(⟨#[40]⟩:ByteArray).size=1:=rfl
theorem e41:(⟨#[41]⟩:ByteArray).size=1:=rfl
noncomputable def OY (doc:List Az) (t:Az) (fs:List Cd) (j:Nat) (f:Cd):List C6 :=
 Ff f.n false (CS (fs.take j) f.n).isSome (t.n++⟨#[46]⟩++f.n)++(if (Ck f.tn||(A1 doc f.tn).isSome)=false then [.mk 8 (t.n++⟨#[46]⟩++f.n)] else if (!Ck f.tn&&(A1 doc f.tn).isSome&&decide (((A1 doc f.tn).getD Dv).k=5))=true then [.mk 10 (t.n++⟨#[46]⟩++f.n)] else []) ++
  MY doc (AZ f.args) (t.n++⟨#[46]⟩++f.n++⟨#[40]⟩) ⟨#[41]⟩
theorem CE (l:List (List AV)):(AZ l).length≤16:=by
 by_cases h:Fd l
 .exact (B9 h).2.1
 .unfold AZ
  rw [dif_neg h]
  simp
theorem Nq (doc:List Az) (t:Az) (fs:List Cd) (j:Nat) (f:Cd):(OY doc t fs j f).length≤51:=by
 unfold OY
 rw [zld,zld]
 have h1:=DU f.n false (CS (fs.take j) f.n).isSome (t.n++⟨#[46]⟩++f.n)
 have h2:=E7 doc (CE f.args) (t.n++⟨#[46]⟩++f.n++⟨#[40]⟩) ⟨#[41]⟩
 split
 .simp only [zlc,zle];omega
 .split
  .simp only [zlc,zle];omega
  .simp only [zle];omega
noncomputable def OE (doc:List Az) (t:Az):List C6:=Gj (OY doc t t.fields) t.fields t.fields.length
theorem NW (doc:List Az) (t:Az) (h:t.fields.length≤64):(OE doc t).length≤3264:=by
 have:=CV (A:=OY doc t t.fields) (l:=t.fields) (fun j x _=>Nq doc t t.fields j x) t.fields.length
 unfold OE
 omega
theorem Kp (doc:List Az) (FH:doc.length≤64) (t:Az) (ht:DfnB t) (hp:CH) (m:Nat):GS 84 hp m [B5 doc,JN t] (OE doc t):=by
 obtain ⟨RR,AD⟩:∃RR,OE doc t=RR:=⟨_,rfl⟩
 rw [AD]
 unfold OE at AD
 refine ER (fun l:List C6=>l=RR) (fun _=>[]) (fun l=>.ds (Ad AK l)) func84 (by kernel_rfl) cc84 cr84 rfl (fun hf i hi=>trivial) fun hf=>?_
 unfold ck84
 have htn:=ht.n
 have hl:=ht.fl
 have hb:=ht.f
 obtain ⟨fs,Of⟩:∃fs,t.fields=fs:=⟨_,rfl⟩
 rw [Of] at hl hb AD
 simp only [JN]
 rw [Of]
 simp only [go_sem]
 refine loop (fun p:OI=>match p with
  | .mk j g L n=>⟨[(2,.bx m 0),(3,.bx (m+1) 0),(5,.rw (m+2) g L.length),(6,.i .i64 j)],(m+2,.rw g 2 (Ad AK L))::(m,.bx [.ds (Ad BB doc)])::(m+1,.bx [.i .i64 t.k,.s t.n,.ds t.impl,.ds t.dirs,.ds (Ad Bq fs),.ds t.members,.ds t.inputs])::hp,n⟩)
  (fun p=>match p with | .mk j g L n=>j≤fs.length∧m+3≤n∧L=Gj (OY doc t fs) fs j) (fun p=>match p with | .mk j g L n=>fs.length - j) (.mk 0 0 [] (m+3)) ?_ ?_ (fun p hj=>?_)
 .exact ⟨Nat.zero_le _,zna _,rfl⟩
 .dsimp only
  refine (B0 (t:=5) (m:=2) ?_).trans (Ac ?_ (Ae.sub (Ae.cons ?_ (Ae.cons ?_ (Ae.cons ?_ (Ae.base hf fun a ha hax=>?_))))) (zna _))
  .simp (disch:=omega) only [Aa,go_sem]
  .simp (disch:=omega) only [Aa,go_sem]
  .simp (disch:=omega) only [Aa,go_sem]
   try rfl
  .simp (disch:=omega) only [Aa,go_sem]
  .simp (disch:=omega) only [Aa,go_sem]
  .repeat rw [Aq _ _ (by omega)]
 obtain ⟨j,g,L,n⟩:=p
 obtain ⟨Cm,Ba,Aw⟩:=hj
 have hLb:L.length≤51*j:=by rw [Aw];exact CV (fun j x _=>Nq doc t fs j x) j
 have Cb:(Ad AK L).length=L.length:=Ax _ _
 have JJ:(Ad AK L).take L.length=Ad AK L:=List.take_of_length_le (by omega)
 dsimp only
 simp (disch:=omega) only [Aa,go_sem]
 refine Ai (fun q=>?_) (fun q=>?_)
 case' refine_2 =>
  have BO:m≤n:=by omega
  have q:j=fs.length:=by simp at q;omega
  subst q
  rw [AD] at Aw
  simp (disch:=omega) only [Aa,go_sem]
  refine BY L Aw ?_
  simp (disch:=omega) only [Aa,BO,Cb,zna,JJ,go_sem]
 have q:j<fs.length:=by simpa using q
 obtain ⟨f,ef⟩:∃x,fs[j]?=some x:=⟨fs[j],by simp [q]⟩
 have On:=hb f (zla ef)
 obtain ⟨ha1,ha2,ha3⟩:=B9 On.a
 have Dj:=EE (A:=OY doc t fs) ef
 have hE:OY doc t fs j f=Ff f.n false (CS (fs.take j) f.n).isSome (t.n++⟨#[46]⟩++f.n)++(if (Ck f.tn||(A1 doc f.tn).isSome)=false then [.mk 8 (t.n++⟨#[46]⟩++f.n)] else if (!Ck f.tn&&(A1 doc f.tn).isSome&&decide (((A1 doc f.tn).getD Dv).k=5))=true then [.mk 10 (t.n++⟨#[46]⟩++f.n)] else [])++MY doc (AZ f.args) (t.n++⟨#[46]⟩++f.n++⟨#[40]⟩) ⟨#[41]⟩:=rfl
 obtain ⟨az,haz⟩:∃z,AZ f.args=z:=⟨_,rfl⟩
 rw [haz] at ha1 ha2 ha3 hE
 have hApp:t.n++⟨#[46]⟩++f.n++⟨#[40]⟩=t.n++⟨#[46]⟩++f.n++⟨#[40]⟩:=rfl
 have hfn:=On.n
 have hI:=Pc (fs.take j) (by rw [List.length_take];omega) f.n
 obtain ⟨R,hR⟩:∃R,CS (fs.take j) f.n=R:=⟨_,rfl⟩
 rw [hR] at hI hE
 unfold P5 at hI
 have hF:=BM doc (by omega) f.tn
 have hK:=NJ doc FH f.tn
 obtain ⟨X,hX⟩:∃X,A1 doc f.tn=X:=⟨_,rfl⟩
 rw [hX] at hF hK hE
 unfold DH at hF
 obtain ⟨kb,hkb⟩:∃y,(Ck f.tn||X.isSome)=y:=⟨_,rfl⟩
 rw [hkb] at hK hE
 have hS:=Ds f.tn
 obtain ⟨sb,S9⟩:∃y,Ck f.tn=y:=⟨_,rfl⟩
 rw [S9] at hS hE
 have z1:t.n.size+(#[46]:Array UInt8).size≤9223372036854775807:=by show t.n.size+1≤9223372036854775807;omega
 have z2:t.n.size+((#[46]:Array UInt8).size+f.n.size)≤9223372036854775807:=by show t.n.size+(1+f.n.size)≤9223372036854775807;omega
 have z4:t.n.size+((#[46]:Array UInt8).size+(f.n.size+(#[40]:Array UInt8).size))≤9223372036854775807:=by show t.n.size+(1+(f.n.size+1))≤9223372036854775807;omega
 have z3:0≤(j:Int)∧(j:Int)≤(fs.length:Int):=by omega
 simp (disch:=omega) only [Aa,q,Ag (Ab Bq ef),z1,z2,z3.1,z3.2,true_and,go_sem]
 refine A3.f (fun _ _ _=>hI _ _) ?_
 simp (disch:=omega) only [Aa,q,Ag (Ab Bq ef),go_sem]
 refine ⟨by omega,?_⟩
 refine Af.r (Jv _ _ _ _ _ _) ?_
 rintro Ao n' r ⟨F1,LV,e1,e2,e3⟩
 subst e1
 subst e2
 subst e3
 have Gl:F1=_:=LV
 rw [←Gl] at hE
 have LV:F1.length≤2:=by rw [Gl];exact DU _ _ _ _
 have k1:(L.length+F1.length)*24≤140737488355328:=by omega
 have k2:L.length+F1.length≤9223372036854775807:=by omega
 have k3:(L.length+(F1.length+1))*24≤140737488355328:=by omega
 have k4:L.length+(F1.length+1)≤9223372036854775807:=by omega
 have Db:(Ad AK F1).length=F1.length:=Ax _ _
 have JQ:(Ad AK (L++F1)).length=L.length+F1.length:=by rw [Ax,zld]
 simp only [zli]
 simp (disch:=omega) only [Aa,q,Ag (Ab Bq ef),Cb,Db,k1,k2,Au,go_sem]
 refine Af.f (hF _ _) ?_
 simp (disch:=omega) only [Aa,q,Ag (Ab Bq ef),Cb,Db,k1,k2,Au,go_sem]
 refine Af.f (hK _ _) ?_
 cases kb with
 | false =>
  rw [if_pos rfl] at hE
  simp (disch:=omega) only [Aa,q,Ag (Ab Bq ef),Cb,Db,JQ,k1,k2,k3,k4,Au,Ar,ha1,z4,true_and,go_sem]
  refine Af.r (FX doc FH az ha2 (fun x hx=>(ha3 x hx).2) _ _ ?_ ?_ _ _) ?_
  .simp only [ByteArray.size_append,e46,e40];omega
  .simp only [e41];omega
  rintro Ao n' r ⟨F2,Hq,e1,e2,e3⟩
  subst e1
  subst e2
  subst e3
  have Ef:F2=_:=Hq
  rw [hApp] at Ef
  have Hq:F2.length≤48:=by rw [Ef];exact E7 doc ha2 _ _
  simp only [zli]
  have k5:(L.length+(F1.length+F2.length))*24≤140737488355328:=by omega
  have k6:L.length+(F1.length+F2.length)≤9223372036854775807:=by omega
  have k7:(L.length+(F1.length+(1+F2.length)))*24≤140737488355328:=by omega
  have k8:L.length+(F1.length+(1+F2.length))≤9223372036854775807:=by omega
  have HI:(Ad AK F2).length=F2.length:=Ax _ _
  simp (disch:=omega) only [Aa,q,Ag (Ab Bq ef),Cb,Db,JQ,HI,k1,k2,k3,k4,k5,k6,k7,k8,Au,Ar,Nat.add_assoc,zld,zlc,zle,Ax,go_sem]
  refine ⟨.mk (j+1) (g+1+1+1) (L++F1++[.mk 8 (t.n++⟨#[46]⟩++f.n)]++F2) (n+400),⟨show j+1≤fs.length by omega,show m+3≤n+400 by omega,by show _=_;rw [Dj,hE,Aw,Ef];try simp only [zlf]⟩,by show fs.length - (j+1)<fs.length - j;omega,?_⟩
  dsimp only
  refine Ac ?_ (Ae.sub (Ae.cons ?_ (Ae.cons ?_ (Ae.cons ?_ (Ae.base hf fun a ha hax=>?_))))) (by omega)
  .simp (disch:=omega) only [Aa,At j (by omega),zld,zlc,zle,go_sem]
   try simp [Nat.add_assoc]
  .simp (disch:=omega) only [Aa,Au,Ar,zlf,go_sem]
   try simp [zlf]
  .simp (disch:=omega) only [Aa,go_sem]
  .simp (disch:=omega) only [Aa,go_sem]
  .repeat rw [Aq _ _ (by omega)]
 | true =>
 rw [if_neg (by decide)] at hE
 simp (disch:=omega) only [Aa,q,Ag (Ab Bq ef),Cb,Db,JQ,k1,k2,Au,ha1,go_sem]
 refine Af.f (hS _ _) ?_
 simp (disch:=omega) only [Aa,q,Ag (Ab Bq ef),Cb,Db,JQ,k1,k2,Au,ha1,go_sem]
 refine Ai (fun c=>?_) (fun c=>?_)
 .rw [if_pos c] at hE
  simp (disch:=omega) only [Aa,q,Ag (Ab Bq ef),Cb,Db,JQ,k1,k2,k3,k4,Au,Ar,ha1,z4,true_and,go_sem]
  refine Af.r (FX doc FH az ha2 (fun x hx=>(ha3 x hx).2) _ _ ?_ ?_ _ _) ?_
  .simp only [ByteArray.size_append,e46,e40];omega
  .simp only [e41];omega
  rintro Ao n' r ⟨F2,Hq,e1,e2,e3⟩
  subst e1
  subst e2
  subst e3
  have Ef:F2=_:=Hq
  rw [hApp] at Ef
  have Hq:F2.length≤48:=by rw [Ef];exact E7 doc ha2 _ _
  simp only [zli]
  have k5:(L.length+(F1.length+F2.length))*24≤140737488355328:=by omega
  have k6:L.length+(F1.length+F2.length)≤9223372036854775807:=by omega
  have k7:(L.length+(F1.length+(1+F2.length)))*24≤140737488355328:=by omega
  have k8:L.length+(F1.length+(1+F2.length))≤9223372036854775807:=by omega
  have HI:(Ad AK F2).length=F2.length:=Ax _ _
  simp (disch:=omega) only [Aa,q,Ag (Ab Bq ef),Cb,Db,JQ,HI,k1,k2,k3,k4,k5,k6,k7,k8,Au,Ar,Nat.add_assoc,zld,zlc,zle,Ax,go_sem]
  refine ⟨.mk (j+1) (g+1+1+1) (L++F1++[.mk 10 (t.n++⟨#[46]⟩++f.n)]++F2) (n+400),⟨show j+1≤fs.length by omega,show m+3≤n+400 by omega,by show _=_;rw [Dj,hE,Aw,Ef];try simp only [zlf]⟩,by show fs.length - (j+1)<fs.length - j;omega,?_⟩
  dsimp only
  refine Ac ?_ (Ae.sub (Ae.cons ?_ (Ae.cons ?_ (Ae.cons ?_ (Ae.base hf fun a ha hax=>?_))))) (by omega)
  .simp (disch:=omega) only [Aa,At j (by omega),zld,zlc,zle,go_sem]
   try simp [Nat.add_assoc]
  .simp (disch:=omega) only [Aa,Au,Ar,zlf,go_sem]
   try simp [zlf]
  .simp (disch:=omega) only [Aa,go_sem]
  .simp (disch:=omega) only [Aa,go_sem]
  .repeat rw [Aq _ _ (by omega)]
 .rw [if_neg (by rw [c];decide),List.append_nil] at hE
  simp (disch:=omega) only [Aa,q,Ag (Ab Bq ef),Cb,Db,JQ,k1,k2,k3,k4,Au,Ar,ha1,z4,true_and,go_sem]
  refine Af.r (FX doc FH az ha2 (fun x hx=>(ha3 x hx).2) _ _ ?_ ?_ _ _) ?_
  .simp only [ByteArray.size_append,e46,e40];omega
  .simp only [e41];omega
  rintro Ao n' r ⟨F2,Hq,e1,e2,e3⟩
  subst e1
  subst e2
  subst e3
  have Ef:F2=_:=Hq
  rw [hApp] at Ef
  have Hq:F2.length≤48:=by rw [Ef];exact E7 doc ha2 _ _
  simp only [zli]
  have k5:(L.length+(F1.length+F2.length))*24≤140737488355328:=by omega
  have k6:L.length+(F1.length+F2.length)≤9223372036854775807:=by omega
  have k7:(L.length+(F1.length+(1+F2.length)))*24≤140737488355328:=by omega
  have k8:L.length+(F1.length+(1+F2.length))≤9223372036854775807:=by omega
  have HI:(Ad AK F2).length=F2.length:=Ax _ _
  simp (disch:=omega) only [Aa,q,Ag (Ab Bq ef),Cb,Db,JQ,HI,k1,k2,k3,k4,k5,k6,k7,k8,Au,Ar,Nat.add_assoc,zld,zlc,zle,Ax,go_sem]
  refine ⟨.mk (j+1) (g+1+1) (L++F1++F2) (n+400),⟨show j+1≤fs.length by omega,show m+3≤n+400 by omega,by show _=_;rw [Dj,hE,Aw,Ef];try simp only [zlf]⟩,by show fs.length - (j+1)<fs.length - j;omega,?_⟩
  dsimp only
  refine Ac ?_ (Ae.sub (Ae.cons ?_ (Ae.cons ?_ (Ae.cons ?_ (Ae.base hf fun a ha hax=>?_))))) (by omega)
  .simp (disch:=omega) only [Aa,At j (by omega),zld,zlc,zle,go_sem]
   try simp [Nat.add_assoc]
  .simp (disch:=omega) only [Aa,Au,Ar,zlf,go_sem]
   try simp [zlf]
  .simp (disch:=omega) only [Aa,go_sem]
  .simp (disch:=omega) only [Aa,go_sem]
  .repeat rw [Aq _ _ (by omega)]
end Go.Proofs.YtgfidgoefioigaaGreatDoor
