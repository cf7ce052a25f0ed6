/- Proof. Conditions: none. -/
import Derived.Test.YtgfidgoefioigaaGreatDoorIk41
noncomputable section
open List renaming take_of_length_le->z14
open Nat renaming zero_le->zw,add_assoc->ze
open ByteArray renaming size_append->z25
open Go.Proofs.Tryz
open List renaming mem_of_getElem?->zla,length_cons->zlc,length_append->zld,length_nil->zle,append_assoc->zlf,nil_append->zli
open Nat renaming le_refl->zna
namespace Go.Proofs.YtgfidgoefioigaaGreatDoor
open Go.Eng
set_option linter.all false
set_option maxRecDepth 20000
set_option maxHeartbeats 2000000
def zFl:Cr:=.mk ⟨#[]⟩ [] ⟨#[]⟩ [] []
abbrev flx (x:Cr):AV:=.ag [.s x.n,.ds x.args,.s x.tn,.ds x.tw,.ds x.dirs]
def Dq (l:List Cr) (n:qB):Option Cr:=l.find? fun f=>decide (f.n=n)
def Rb (o:Option Cr):AV:=.tp [flx (o.getD zFl),.b o.isSome]
theorem JR (t:Cr) (l:List Cr) (n:qB):Dq (t::l) n=if t.n=n then some t else Dq l n:=by
 unfold Dq
 rw [List.find?_cons]
 by_cases c:t.n=n
 .simp [c]
 .simp [c]
theorem M6 (t:Av) (hl:t.fields.length<=1000000000000) (n:qB) (hp:CH) (m:Nat):Ae prog 127 hp m [Lw t,.s n] (Rb (Dq t.fields n)):=by
 obtain ⟨l,hle⟩:=A7 (t.fields)
 rw [hle] at hl ⊢
 obtain ⟨R,hR⟩:=A7 (Dq l n)
 rw [hR,Rb]
 show Ae prog 127 hp m [.ag [.i .i64 t.k,.s t.n,.ds t.impl,.ds t.dirs,.ds (Ab Bu t.fields),.ds t.members,.ds t.inputs],.s n] _
 rw [hle]
 refine Al func127 (tA cc127) (tB cc127) (tC cc127) rfl fun hf=>?_;unfold ck127
 simp only [go_sem]
 refine loop (fun p:Nat×Nat=>⟨[(1,.s n),(2,.bx m 0),(4,.bx (m+1) 0),(6,.i .i64 p.1)],(m,.bx [.i .i64 t.k,.s t.n,.ds t.impl,.ds t.dirs,.ds (Ab Bu l),.ds t.members,.ds t.inputs])::(m+1,.bx [.s ⟨#[]⟩,.e0,.s ⟨#[]⟩,.e0,.e0])::hp,p.2⟩)
  (fun p=>p.1<=l.length∧m+2<=p.2∧R=Dq (l.drop p.1) n) (fun p=>l.length - p.1) (0,m+2) ?_ ?_ (fun ⟨j,k⟩ hj=>?_)
 .exact ⟨by simp,by simp,hR.symm⟩
 .refine ID hf ?_ ?_ ?_ ?_ (zna _)
  all_goals (simp (disch:=omega) only [go_sem])
 dsimp only at hj
 obtain ⟨Cq,Be,At⟩:=hj
 simp (disch:=omega) only [go_sem]
 refine Af (fun q=>?_) (fun q=>?_)
 .have q:j<l.length:=by simpa using q
  obtain ⟨y,et⟩:∃y,l[j]?=some y:=⟨l[j],by simp [q]⟩
  rw [A2 et,JR] at At
  have NL:m<=k:=by omega
  simp (disch:=omega) only [q,Ad (Aa Bu et),go_sem]
  refine Af (fun c=>?_) (fun c=>?_)
  .have c:y.n=n:=by simpa using c
   rw [iP c] at At
   subst At
   simp (disch:=omega) only [NL,q,Ad (Aa Bu et),go_sem]
  .have c:¬y.n=n:=by simpa using c
   rw [iN c] at At
   simp (disch:=omega) only [go_sem]
   refine ⟨(j+1,_),⟨by dsimp only;omega,by dsimp only;omega,At⟩,by dsimp only;omega,ID hf ?_ ?_ ?_ ?_ (zna _)⟩
   all_goals
    simp (disch:=omega) only [Ao j (by omega),NL,go_sem]
 .have q:j=l.length:=by simp at q;omega
  subst q
  rw [List.drop_length] at At
  have At:R=none:=At
  subst At
  simp (disch:=omega) only [go_sem]
  rfl
theorem RC (l:List Cr) (hl:l.length<=1000000000000) (n:qB) (hp:CH) (m:Nat):Ae prog 127 hp m [.ag [.i .i64 0,.s ⟨#[]⟩,.e0,.e0,.ds (Ab Bu l),.e0,.e0],.s n] (Rb (Dq l n)):=by
 obtain ⟨R,hR⟩:=A7 (Dq l n)
 rw [hR,Rb]
 refine Al func127 (tA cc127) (tB cc127) (tC cc127) rfl fun hf=>?_;unfold ck127
 simp only [go_sem]
 refine loop (fun p:Nat×Nat=>⟨[(1,.s n),(2,.bx m 0),(4,.bx (m+1) 0),(6,.i .i64 p.1)],(m,.bx [.i .i64 0,.s ⟨#[]⟩,.e0,.e0,.ds (Ab Bu l),.e0,.e0])::(m+1,.bx [.s ⟨#[]⟩,.e0,.s ⟨#[]⟩,.e0,.e0])::hp,p.2⟩)
  (fun p=>p.1<=l.length∧m+2<=p.2∧R=Dq (l.drop p.1) n) (fun p=>l.length - p.1) (0,m+2) ?_ ?_ (fun ⟨j,k⟩ hj=>?_)
 .exact ⟨by simp,by simp,hR.symm⟩
 .refine ID hf ?_ ?_ ?_ ?_ (zna _)
  all_goals (simp (disch:=omega) only [go_sem])
 dsimp only at hj
 obtain ⟨Cq,Be,At⟩:=hj
 simp (disch:=omega) only [go_sem]
 refine Af (fun q=>?_) (fun q=>?_)
 .have q:j<l.length:=by simpa using q
  obtain ⟨y,et⟩:∃y,l[j]?=some y:=⟨l[j],by simp [q]⟩
  rw [A2 et,JR] at At
  have NL:m<=k:=by omega
  simp (disch:=omega) only [q,Ad (Aa Bu et),go_sem]
  refine Af (fun c=>?_) (fun c=>?_)
  .have c:y.n=n:=by simpa using c
   rw [iP c] at At
   subst At
   simp (disch:=omega) only [NL,q,Ad (Aa Bu et),go_sem]
  .have c:¬y.n=n:=by simpa using c
   rw [iN c] at At
   simp (disch:=omega) only [go_sem]
   refine ⟨(j+1,_),⟨by dsimp only;omega,by dsimp only;omega,At⟩,by dsimp only;omega,ID hf ?_ ?_ ?_ ?_ (zna _)⟩
   all_goals
    simp (disch:=omega) only [Ao j (by omega),NL,go_sem]
 .have q:j=l.length:=by simp at q;omega
  subst q
  rw [List.drop_length] at At
  have At:R=none:=At
  subst At
  simp (disch:=omega) only [go_sem]
  rfl
inductive MbS
 | mk (i:Nat) (b:Bool) (n:Nat)
def bfB (ms:List (List AV)) (x:qB) (i:Nat):Bool:=decide (x∈Gc (ms.take i))
def Rz (t:Av) (ms:List (List AV)) (j:Nat) (e:List AV):List Da:=match e with
 | [AV.s x,AV.ds _]=>F7 x (decide (x=⟨#[116,114,117,101]⟩)||(decide (x=⟨#[102,97,108,115,101]⟩)||decide (x=⟨#[110,117,108,108]⟩))) (bfB ms x j) (t.n++⟨#[46]⟩++x)
 |_=>[]
theorem Kz (t:Av) (ms:List (List AV)) (j:Nat) (e:List AV):(Rz t ms j e).length<=2:=by
 unfold Rz
 split
 .exact Ey _ _ _ _
 .simp
def U2 (t:Av):List Da:=Gn (Rz t t.members) t.members t.members.length
theorem OZ (t:Av) (h:t.members.length<=64):(U2 t).length<=128:=by
 have:=Ds (A:=Rz t t.members) (l:=t.members) (fun j x _=>Kz t t.members j x) t.members.length
 unfold U2
 omega
theorem X2 {ms:List (List AV)} {x x2:qB} {y2:List (List AV)} {i:Nat} (e:ms[i]?=some [.s x2,.ds y2]):bfB ms x (i+1)=(bfB ms x i||decide (x2=x)):=by
 unfold bfB
 rw [<-Bc e,Bool.eq_iff_iff]
 have:Gc (ms.take i++[[AV.s x2,.ds y2]])=Gc (ms.take i)++[x2]:=by unfold Gc;rw [List.map_append];rfl
 rw [this]
 simp
 constructor
 .rintro (h | h)
  .exact .inl h
  .exact .inr h.symm
 .rintro (h | h)
  .exact .inl h
  .exact .inr h.symm
theorem Rw (t:Av) (hn:t.n.size<=64) (hl:t.members.length<=64) (hm:∀e∈t.members,∃x y,e=[AV.s x,.ds y]∧x.size<=64) (hp:CH) (m:Nat):Ie 85 hp m [Lw t] (U2 t):=by
 obtain ⟨RR,AC⟩:=A7 (U2 t)
 rw [AC]
 unfold U2 at AC
 refine F4 (fun l:List Da=>l=RR) (fun _=>[]) (fun l=>.ds (Ab AM l)) func85 (tA cc85) (tB cc85) (tC cc85) rfl (fun hf i hi=>trivial) fun hf=>?_
 unfold ck85
 obtain ⟨is,his⟩:=A7 (t.members)
 simp only [Lw]
 rw [his]
 rw [his] at hl hm AC
 simp only [go_sem]
 refine loop (fun p:R1=>match p with
  | .mk j g L n=>⟨[(1,.bx m 0),(3,.rw (m+1) g L.length),(4,.i .i64 j)],(m+1,.rw g 2 (Ab AM L))::(m,.bx [.i .i64 t.k,.s t.n,.ds t.impl,.ds t.dirs,.ds (Ab Bu t.fields),.ds is,.ds t.inputs])::hp,n⟩)
  (fun p=>match p with | .mk j g L n=>j<=is.length∧m+2<=n∧L=Gn (Rz t is) is j) (fun p=>match p with | .mk j g L n=>is.length - j) (.mk 0 0 [] (m+2)) ?_ ?_ (fun p hj=>?_)
 .exact ⟨zw _,zna _,rfl⟩
 .dsimp only
  refine (By (t:=3) (m:=2) ?_).trans (Lt hf ?_ ?_ ?_ (fun a ha d5=>?_) (zna _))
  .simp (disch:=omega) only [go_sem]
  .simp (disch:=omega) only [go_sem]
  .simp (disch:=omega) only [go_sem]
   try rfl
  .simp (disch:=omega) only [go_sem]
  .repeat rw [Ak _ _ (by omega)]
 obtain ⟨j,g,L,n⟩:=p
 obtain ⟨Cq,Be,At⟩:=hj
 have hLb:L.length<=2*j:=by rw [At];exact Ds (fun j x _=>Kz t is j x) j
 have Ck:(Ab AM L).length=L.length:=As _ _
 have Lq:(Ab AM L).take L.length=Ab AM L:=z14 (by omega)
 dsimp only
 simp (disch:=omega) only [go_sem]
 refine Af (fun q=>?_) (fun q=>?_)
 case' refine_2=>
  have BD:m<=n:=by omega
  have q:j=is.length:=by simp at q;omega
  subst q
  rw [AC] at At
  simp (disch:=omega) only [go_sem]
  refine Co L At ?_
  simp (disch:=omega) only [BD,Ck,zna,Lq,go_sem]
 have q:j<is.length:=by simpa using q
 obtain ⟨e,ex⟩:∃x,is[j]?=some x:=⟨is[j],by simp [q]⟩
 obtain ⟨x,y,rfl,hx⟩:=hm e (zla ex)
 have D6:=Fi (A:=Rz t is) ex
 simp (disch:=omega) only [q,Ad ex,go_sem]
 refine loop (fun p:MbS=>match p with
  | .mk i b o=>⟨[(1,.bx m 0),(3,.rw (m+1) g L.length),(4,.i .i64 j),(5,.s x),(6,.b b),(7,.i .i64 i)],(m+1,.rw g 2 (Ab AM L))::(m,.bx [.i .i64 t.k,.s t.n,.ds t.impl,.ds t.dirs,.ds (Ab Bu t.fields),.ds is,.ds t.inputs])::hp,o⟩)
  (fun p=>match p with | .mk i b o=>i<=j∧n<=o∧b=bfB is x i) (fun p=>match p with | .mk i b o=>j - i) (.mk 0 false n) ?_ ?_ (fun p hi=>?_)
 .exact ⟨zw _,zna _,by simp [bfB,Gc]⟩
 .dsimp only
  refine Dd ?_
  simp only [go_sem]
 obtain ⟨i,b,o⟩:=p
 obtain ⟨NN,Is,Ed⟩:=hi
 dsimp only
 simp (disch:=omega) only [go_sem]
 refine Af (fun q2=>?_) (fun q2=>?_)
 .have q2:i<j:=by simp at q2;omega
  have q3:i<is.length:=by omega
  obtain ⟨e2,ey⟩:∃x,is[i]?=some x:=⟨is[i],by simp [q3]⟩
  obtain ⟨x2,y2,rfl,_⟩:=hm e2 (zla ey)
  have y5:=X2 (x:=x) ey
  rw [<-Ed] at y5
  clear Ed
  cases b with
  |true=>
   simp (disch:=omega) only [go_sem]
   refine ⟨.mk (i+1) true (o+100),⟨show i+1<=j by omega,show n<=o+100 by omega,by rw [y5];first | rfl | simp⟩,by show j - (i+1)<j - i;omega,?_⟩
   dsimp only
   refine AR ?_ (Hd.refl _) (by omega)
   simp (disch:=omega) only [Ao i (by omega),go_sem]
  |false=>
   simp (disch:=omega) only [q3,Ad ey,go_sem]
   refine ⟨.mk (i+1) (decide (x2=x)) (o+100),⟨show i+1<=j by omega,show n<=o+100 by omega,by rw [y5];first | rfl | simp⟩,by show j - (i+1)<j - i;omega,?_⟩
   dsimp only
   refine AR ?_ (Hd.refl _) (by omega)
   simp (disch:=omega) only [Ao i (by omega),go_sem]
 .have z1:t.n.size+(#[46]:Array UInt8).size<=9223372036854775807:=by show t.n.size+1<=9223372036854775807;omega
  have z2:t.n.size+((#[46]:Array UInt8).size+x.size)<=9223372036854775807:=by show t.n.size+(1+x.size)<=9223372036854775807;omega
  have hmo:m<=o:=by omega
  have q2:j=i:=by simp at q2;omega
  subst q2
  have hE:Rz t is j [.s x,.ds y]=F7 x (decide (x=⟨#[116,114,117,101]⟩)||(decide (x=⟨#[102,97,108,115,101]⟩)||decide (x=⟨#[110,117,108,108]⟩))) (bfB is x j) (t.n++⟨#[46]⟩++x):=rfl
  rw [<-Ed] at hE
  simp (disch:=omega) only [z1,z2,go_sem]
  refine Ac.r (K6 _ _ _ _ _ _) ?_
  rintro Am n' r ⟨F1,NO,e1,e2,e3⟩
  subst e1
  subst e2
  subst e3
  have Hg:F1=_:=NO
  rw [Bool.or_assoc,<-hE] at Hg
  have NO:F1.length<=2:=by rw [Hg];exact Kz _ _ _ _
  have k1:(L.length+F1.length)*24<=140737488355328:=by omega
  have k2:L.length+F1.length<=9223372036854775807:=by omega
  have Dz:(Ab AM F1).length=F1.length:=As _ _
  have JK:(Ab AM (L++F1)).length=L.length+F1.length:=by rw [As,zld]
  simp only [zli]
  simp (disch:=omega) only [q,Ad ex,Ck,Dz,k1,k2,Ax,go_sem]
  refine ⟨.mk (j+1) (g+1) (L++F1) (n'+200),⟨show j+1<=is.length by omega,show m+2<=n'+200 by omega,by show _=_;rw [D6,Hg,At]⟩,by show is.length - (j+1)<is.length - j;omega,?_⟩
  dsimp only
  refine Lt hf ?_ ?_ ?_ (fun a ha d5=>?_) (by omega)
  .simp (disch:=omega) only [Ao j (by omega),zld,zlc,zle,go_sem]
   try simp [ze]
  .simp (disch:=omega) only [Ax,Aq,zlf,go_sem]
   try simp [zlf]
  .simp (disch:=omega) only [go_sem]
  .repeat rw [Ak _ _ (by omega)]
theorem e46:(⟨#[46]⟩:qB).size=1:=rfl
theorem e40:(⟨#[40]⟩:qB).size=1:=rfl
theorem e41:(⟨#[41]⟩:qB).size=1:=rfl
def R7 (doc:List Av) (t:Av) (fs:List Cr) (j:Nat) (f:Cr):List Da :=
 F7 f.n false (Dq (fs.take j) f.n).isSome (t.n++⟨#[46]⟩++f.n)++(if (BV f.tn||(Ay doc f.tn).isSome)=false then [.mk 8 (t.n++⟨#[46]⟩++f.n)] else if (!BV f.tn&&(Ay doc f.tn).isSome&&decide (((Ay doc f.tn).getD DJ).k=5))=true then [.mk 10 (t.n++⟨#[46]⟩++f.n)] else []) ++
  OS doc (Bl f.args) (t.n++⟨#[46]⟩++f.n++⟨#[40]⟩) ⟨#[41]⟩
theorem Dl (l:List (List AV)):(Bl l).length<=16:=by
 by_cases h:FY l
 .exact (BH h).2.1
 .unfold Bl
  rw [dif_neg h]
  simp
theorem OV (doc:List Av) (t:Av) (fs:List Cr) (j:Nat) (f:Cr):(R7 doc t fs j f).length<=51:=by
 unfold R7
 rw [zld,zld]
 have h1:=Ey f.n false (Dq (fs.take j) f.n).isSome (t.n++⟨#[46]⟩++f.n)
 have h2:=EZ doc (Dl f.args) (t.n++⟨#[46]⟩++f.n++⟨#[40]⟩) ⟨#[41]⟩
 split
 .simp only [zlc,zle];omega
 .split
  .simp only [zlc,zle];omega
  .simp only [zle];omega
def Re (doc:List Av) (t:Av):List Da:=Gn (R7 doc t t.fields) t.fields t.fields.length
theorem Qb (doc:List Av) (t:Av) (h:t.fields.length<=64):(Re doc t).length<=3264:=by
 have:=Ds (A:=R7 doc t t.fields) (l:=t.fields) (fun j x _=>OV doc t t.fields j x) t.fields.length
 unfold Re
 omega
theorem LX (doc:List Av) (GB:doc.length<=64) (t:Av) (ht:DfnB t) (hp:CH) (m:Nat):Ie 84 hp m [B9 doc,Lw t] (Re doc t):=by
 obtain ⟨RR,AC⟩:=A7 (Re doc t)
 rw [AC]
 unfold Re at AC
 refine F4 (fun l:List Da=>l=RR) (fun _=>[]) (fun l=>.ds (Ab AM l)) func84 (tA cc84) (tB cc84) (tC cc84) rfl (fun hf i hi=>trivial) fun hf=>?_
 unfold ck84
 have htn:=ht.n
 have hl:=ht.fl
 have hb:=ht.f
 obtain ⟨fs,Qw⟩:=A7 (t.fields)
 rw [Qw] at hl hb AC
 simp only [Lw]
 rw [Qw]
 simp only [go_sem]
 refine loop (fun p:R1=>match p with
  | .mk j g L n=>⟨[(2,.bx m 0),(3,.bx (m+1) 0),(5,.rw (m+2) g L.length),(6,.i .i64 j)],(m+2,.rw g 2 (Ab AM L))::(m,.bx [.ds (Ab BB doc)])::(m+1,.bx [.i .i64 t.k,.s t.n,.ds t.impl,.ds t.dirs,.ds (Ab Bu fs),.ds t.members,.ds t.inputs])::hp,n⟩)
  (fun p=>match p with | .mk j g L n=>j<=fs.length∧m+3<=n∧L=Gn (R7 doc t fs) fs j) (fun p=>match p with | .mk j g L n=>fs.length - j) (.mk 0 0 [] (m+3)) ?_ ?_ (fun p hj=>?_)
 .exact ⟨zw _,zna _,rfl⟩
 .dsimp only
  refine (By (t:=5) (m:=2) ?_).trans (EU hf ?_ ?_ ?_ ?_ (fun a ha d5=>?_) (zna _))
  .simp (disch:=omega) only [go_sem]
  .simp (disch:=omega) only [go_sem]
  .simp (disch:=omega) only [go_sem]
   try rfl
  .simp (disch:=omega) only [go_sem]
  .simp (disch:=omega) only [go_sem]
  .repeat rw [Ak _ _ (by omega)]
 obtain ⟨j,g,L,n⟩:=p
 obtain ⟨Cq,Be,At⟩:=hj
 have hLb:L.length<=51*j:=by rw [At];exact Ds (fun j x _=>OV doc t fs j x) j
 have Ck:(Ab AM L).length=L.length:=As _ _
 have Lq:(Ab AM L).take L.length=Ab AM L:=z14 (by omega)
 dsimp only
 simp (disch:=omega) only [go_sem]
 refine Af (fun q=>?_) (fun q=>?_)
 case' refine_2=>
  have BD:m<=n:=by omega
  have q:j=fs.length:=by simp at q;omega
  subst q
  rw [AC] at At
  simp (disch:=omega) only [go_sem]
  refine Co L At ?_
  simp (disch:=omega) only [BD,Ck,zna,Lq,go_sem]
 have q:j<fs.length:=by simpa using q
 obtain ⟨f,ef⟩:∃x,fs[j]?=some x:=⟨fs[j],by simp [q]⟩
 have QA:=hb f (zla ef)
 obtain ⟨ha1,ha2,ha3⟩:=BH QA.a
 have D6:=Fi (A:=R7 doc t fs) ef
 have hE:R7 doc t fs j f=F7 f.n false (Dq (fs.take j) f.n).isSome (t.n++⟨#[46]⟩++f.n)++(if (BV f.tn||(Ay doc f.tn).isSome)=false then [.mk 8 (t.n++⟨#[46]⟩++f.n)] else if (!BV f.tn&&(Ay doc f.tn).isSome&&decide (((Ay doc f.tn).getD DJ).k=5))=true then [.mk 10 (t.n++⟨#[46]⟩++f.n)] else [])++OS doc (Bl f.args) (t.n++⟨#[46]⟩++f.n++⟨#[40]⟩) ⟨#[41]⟩:=rfl
 obtain ⟨az,haz⟩:=A7 (Bl f.args)
 rw [haz] at ha1 ha2 ha3 hE
 have hApp:t.n++⟨#[46]⟩++f.n++⟨#[40]⟩=t.n++⟨#[46]⟩++f.n++⟨#[40]⟩:=rfl
 have hfn:=QA.n
 have hI:=RC (fs.take j) (by rw [List.length_take];omega) f.n
 obtain ⟨R,hR⟩:=A7 (Dq (fs.take j) f.n)
 rw [hR] at hI hE
 unfold Rb at hI
 have hF:=BW doc (by omega) f.tn
 have hK:=Pi doc GB f.tn
 obtain ⟨X,hX⟩:=A7 (Ay doc f.tn)
 rw [hX] at hF hK hE
 unfold Eh at hF
 obtain ⟨kb,hkb⟩:=A7 ((BV f.tn||X.isSome))
 rw [hkb] at hK hE
 have hS:=DE f.tn
 obtain ⟨sb,Vh⟩:=A7 (BV f.tn)
 rw [Vh] at hS hE
 have z1:t.n.size+(#[46]:Array UInt8).size<=9223372036854775807:=by show t.n.size+1<=9223372036854775807;omega
 have z2:t.n.size+((#[46]:Array UInt8).size+f.n.size)<=9223372036854775807:=by show t.n.size+(1+f.n.size)<=9223372036854775807;omega
 have z4:t.n.size+((#[46]:Array UInt8).size+(f.n.size+(#[40]:Array UInt8).size))<=9223372036854775807:=by show t.n.size+(1+(f.n.size+1))<=9223372036854775807;omega
 have z3:0<=(j:Int)∧(j:Int)<=(fs.length:Int):=by omega
 simp (disch:=omega) only [q,Ad (Aa Bu ef),z1,z2,z3.1,z3.2,true_and,go_sem]
 refine Au.f (fun _ _ _=>hI _ _) ?_
 simp (disch:=omega) only [q,Ad (Aa Bu ef),go_sem]
 refine ⟨by omega,?_⟩
 refine Ac.r (K6 _ _ _ _ _ _) ?_
 rintro Am n' r ⟨F1,NO,e1,e2,e3⟩
 subst e1
 subst e2
 subst e3
 have Hg:F1=_:=NO
 rw [<-Hg] at hE
 have NO:F1.length<=2:=by rw [Hg];exact Ey _ _ _ _
 have k1:(L.length+F1.length)*24<=140737488355328:=by omega
 have k2:L.length+F1.length<=9223372036854775807:=by omega
 have k3:(L.length+(F1.length+1))*24<=140737488355328:=by omega
 have k4:L.length+(F1.length+1)<=9223372036854775807:=by omega
 have Dz:(Ab AM F1).length=F1.length:=As _ _
 have JK:(Ab AM (L++F1)).length=L.length+F1.length:=by rw [As,zld]
 simp only [zli]
 simp (disch:=omega) only [q,Ad (Aa Bu ef),Ck,Dz,k1,k2,Ax,go_sem]
 refine Ac.f (hF _ _) ?_
 simp (disch:=omega) only [q,Ad (Aa Bu ef),Ck,Dz,k1,k2,Ax,go_sem]
 refine Ac.f (hK _ _) ?_
 cases kb with
 |false=>
  rw [iP rfl] at hE
  simp (disch:=omega) only [q,Ad (Aa Bu ef),Ck,Dz,JK,k1,k2,k3,k4,Ax,Aq,ha1,z4,true_and,go_sem]
  refine Ac.r (GL doc GB az ha2 (fun x hx=>(ha3 x hx).2) _ _ ?_ ?_ _ _) ?_
  .simp only [z25,e46,e40];omega
  .simp only [e41];omega
  rintro Am n' r ⟨F2,Ir,e1,e2,e3⟩
  subst e1
  subst e2
  subst e3
  have E6:F2=_:=Ir
  rw [hApp] at E6
  have Ir:F2.length<=48:=by rw [E6];exact EZ doc ha2 _ _
  simp only [zli]
  have k5:(L.length+(F1.length+F2.length))*24<=140737488355328:=by omega
  have k6:L.length+(F1.length+F2.length)<=9223372036854775807:=by omega
  have k7:(L.length+(F1.length+(1+F2.length)))*24<=140737488355328:=by omega
  have k8:L.length+(F1.length+(1+F2.length))<=9223372036854775807:=by omega
  have IV:(Ab AM F2).length=F2.length:=As _ _
  simp (disch:=omega) only [q,Ad (Aa Bu ef),Ck,Dz,JK,IV,k1,k2,k3,k4,k5,k6,k7,k8,Ax,Aq,ze,zld,zlc,zle,As,go_sem]
  refine ⟨.mk (j+1) (g+1+1+1) (L++F1++[.mk 8 (t.n++⟨#[46]⟩++f.n)]++F2) (n+400),⟨show j+1<=fs.length by omega,show m+3<=n+400 by omega,by show _=_;rw [D6,hE,At,E6];try simp only [zlf]⟩,by show fs.length - (j+1)<fs.length - j;omega,?_⟩
  dsimp only
  refine EU hf ?_ ?_ ?_ ?_ (fun a ha d5=>?_) (by omega)
  .simp (disch:=omega) only [Ao j (by omega),zld,zlc,zle,go_sem]
   try simp [ze]
  .simp (disch:=omega) only [Ax,Aq,zlf,go_sem]
   try simp [zlf]
  .simp (disch:=omega) only [go_sem]
  .simp (disch:=omega) only [go_sem]
  .repeat rw [Ak _ _ (by omega)]
 |true=>
 rw [iN (by decide)] at hE
 simp (disch:=omega) only [q,Ad (Aa Bu ef),Ck,Dz,JK,k1,k2,Ax,ha1,go_sem]
 refine Ac.f (hS _ _) ?_
 simp (disch:=omega) only [q,Ad (Aa Bu ef),Ck,Dz,JK,k1,k2,Ax,ha1,go_sem]
 refine Af (fun c=>?_) (fun c=>?_)
 .rw [iP c] at hE
  simp (disch:=omega) only [q,Ad (Aa Bu ef),Ck,Dz,JK,k1,k2,k3,k4,Ax,Aq,ha1,z4,true_and,go_sem]
  refine Ac.r (GL doc GB az ha2 (fun x hx=>(ha3 x hx).2) _ _ ?_ ?_ _ _) ?_
  .simp only [z25,e46,e40];omega
  .simp only [e41];omega
  rintro Am n' r ⟨F2,Ir,e1,e2,e3⟩
  subst e1
  subst e2
  subst e3
  have E6:F2=_:=Ir
  rw [hApp] at E6
  have Ir:F2.length<=48:=by rw [E6];exact EZ doc ha2 _ _
  simp only [zli]
  have k5:(L.length+(F1.length+F2.length))*24<=140737488355328:=by omega
  have k6:L.length+(F1.length+F2.length)<=9223372036854775807:=by omega
  have k7:(L.length+(F1.length+(1+F2.length)))*24<=140737488355328:=by omega
  have k8:L.length+(F1.length+(1+F2.length))<=9223372036854775807:=by omega
  have IV:(Ab AM F2).length=F2.length:=As _ _
  simp (disch:=omega) only [q,Ad (Aa Bu ef),Ck,Dz,JK,IV,k1,k2,k3,k4,k5,k6,k7,k8,Ax,Aq,ze,zld,zlc,zle,As,go_sem]
  refine ⟨.mk (j+1) (g+1+1+1) (L++F1++[.mk 10 (t.n++⟨#[46]⟩++f.n)]++F2) (n+400),⟨show j+1<=fs.length by omega,show m+3<=n+400 by omega,by show _=_;rw [D6,hE,At,E6];try simp only [zlf]⟩,by show fs.length - (j+1)<fs.length - j;omega,?_⟩
  dsimp only
  refine EU hf ?_ ?_ ?_ ?_ (fun a ha d5=>?_) (by omega)
  .simp (disch:=omega) only [Ao j (by omega),zld,zlc,zle,go_sem]
   try simp [ze]
  .simp (disch:=omega) only [Ax,Aq,zlf,go_sem]
   try simp [zlf]
  .simp (disch:=omega) only [go_sem]
  .simp (disch:=omega) only [go_sem]
  .repeat rw [Ak _ _ (by omega)]
 .rw [iN (by rw [c];decide),List.append_nil] at hE
  simp (disch:=omega) only [q,Ad (Aa Bu ef),Ck,Dz,JK,k1,k2,k3,k4,Ax,Aq,ha1,z4,true_and,go_sem]
  refine Ac.r (GL doc GB az ha2 (fun x hx=>(ha3 x hx).2) _ _ ?_ ?_ _ _) ?_
  .simp only [z25,e46,e40];omega
  .simp only [e41];omega
  rintro Am n' r ⟨F2,Ir,e1,e2,e3⟩
  subst e1
  subst e2
  subst e3
  have E6:F2=_:=Ir
  rw [hApp] at E6
  have Ir:F2.length<=48:=by rw [E6];exact EZ doc ha2 _ _
  simp only [zli]
  have k5:(L.length+(F1.length+F2.length))*24<=140737488355328:=by omega
  have k6:L.length+(F1.length+F2.length)<=9223372036854775807:=by omega
  have k7:(L.length+(F1.length+(1+F2.length)))*24<=140737488355328:=by omega
  have k8:L.length+(F1.length+(1+F2.length))<=9223372036854775807:=by omega
  have IV:(Ab AM F2).length=F2.length:=As _ _
  simp (disch:=omega) only [q,Ad (Aa Bu ef),Ck,Dz,JK,IV,k1,k2,k3,k4,k5,k6,k7,k8,Ax,Aq,ze,zld,zlc,zle,As,go_sem]
  refine ⟨.mk (j+1) (g+1+1) (L++F1++F2) (n+400),⟨show j+1<=fs.length by omega,show m+3<=n+400 by omega,by show _=_;rw [D6,hE,At,E6];try simp only [zlf]⟩,by show fs.length - (j+1)<fs.length - j;omega,?_⟩
  dsimp only
  refine EU hf ?_ ?_ ?_ ?_ (fun a ha d5=>?_) (by omega)
  .simp (disch:=omega) only [Ao j (by omega),zld,zlc,zle,go_sem]
   try simp [ze]
  .simp (disch:=omega) only [Ax,Aq,zlf,go_sem]
   try simp [zlf]
  .simp (disch:=omega) only [go_sem]
  .simp (disch:=omega) only [go_sem]
  .repeat rw [Ak _ _ (by omega)]
