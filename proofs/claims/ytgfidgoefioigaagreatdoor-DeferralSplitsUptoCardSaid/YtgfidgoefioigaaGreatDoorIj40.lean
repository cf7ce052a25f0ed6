/- Proof. Conditions: none. -/
import Derived.Test.YtgfidgoefioigaaGreatDoorIj39
noncomputable section
open List renaming take_of_length_le->z10
open Nat renaming zero_le->zt,add_assoc->zd
open ByteArray renaming size_append->z24
open Go.Proofs.Tryz
open List renaming mem_of_getElem?->zla,length_cons->zlc,length_append->zld,length_nil->zle,append_assoc->zlf,nil_append->zli
open Nat renaming le_refl->zna
namespace Go.Proofs.YtgfidgoefioigaaGreatDoor
open Go.Eng
set_option linter.all false
set_option maxRecDepth 20000
set_option maxHeartbeats 2000000
def zFl:Cy:=.mk ⟨#[]⟩ [] ⟨#[]⟩ [] []
abbrev flx (x:Cy):AV:=.ag [.s x.n,.ds x.args,.s x.tn,.ds x.tw,.ds x.dirs]
def D3 (l:List Cy) (n:qB):Option Cy:=l.find? fun f=>decide (f.n=n)
def R1 (o:Option Cy):AV:=.tp [flx (o.getD zFl),.b o.isSome]
theorem K9 (t:Cy) (l:List Cy) (n:qB):D3 (t::l) n=if t.n=n then some t else D3 l n:=by
 unfold D3
 rw [List.find?_cons]
 by_cases c:t.n=n
 .simp [c]
 .simp [c]
theorem No (t:Aw) (hl:t.fields.length<=1000000000000) (n:qB) (hp:CH) (m:Nat):Af prog 127 hp m [Mc t,.s n] (R1 (D3 t.fields n)):=by
 obtain ⟨l,hle⟩:=A5 (t.fields)
 rw [hle] at hl ⊢
 obtain ⟨R,hR⟩:=A5 (D3 l n)
 rw [hR,R1]
 show Af prog 127 hp m [.ag [.i .i64 t.k,.s t.n,.ds t.impl,.ds t.dirs,.ds (Ab Bv t.fields),.ds t.members,.ds t.inputs],.s n] _
 rw [hle]
 refine Aj func127 (tA cc127) (tB cc127) (tC cc127) rfl fun hf=>?_;unfold ck127
 simp only [go_sem]
 refine loop (fun p:Nat×Nat=>⟨[(1,.s n),(2,.bx m 0),(4,.bx (m+1) 0),(6,.i .i64 p.1)],(m,.bx [.i .i64 t.k,.s t.n,.ds t.impl,.ds t.dirs,.ds (Ab Bv l),.ds t.members,.ds t.inputs])::(m+1,.bx [.s ⟨#[]⟩,.e0,.s ⟨#[]⟩,.e0,.e0])::hp,p.2⟩)
  (fun p=>p.1<=l.length∧m+2<=p.2∧R=D3 (l.drop p.1) n) (fun p=>l.length - p.1) (0,m+2) ?_ ?_ (fun ⟨j,k⟩ hj=>?_)
 .exact ⟨by simp,by simp,hR.symm⟩
 .refine JT hf ?_ ?_ ?_ ?_ (zna _)
  all_goals (simp (disch:=omega) only [go_sem])
 dsimp only at hj
 obtain ⟨Cg,Bc,As⟩:=hj
 simp (disch:=omega) only [go_sem]
 refine Ae (fun q=>?_) (fun q=>?_)
 .have q:j<l.length:=by simpa using q
  obtain ⟨y,et⟩:∃y,l[j]?=some y:=⟨l[j],by simp [q]⟩
  rw [A2 et,K9] at As
  have O4:m<=k:=by omega
  simp (disch:=omega) only [q,Ad (Aa Bv et),go_sem]
  refine Ae (fun c=>?_) (fun c=>?_)
  .have c:y.n=n:=by simpa using c
   rw [iP c] at As
   subst As
   simp (disch:=omega) only [O4,q,Ad (Aa Bv et),go_sem]
  .have c:¬y.n=n:=by simpa using c
   rw [iN c] at As
   simp (disch:=omega) only [go_sem]
   refine ⟨(j+1,_),⟨by dsimp only;omega,by dsimp only;omega,As⟩,by dsimp only;omega,JT hf ?_ ?_ ?_ ?_ (zna _)⟩
   all_goals
    simp (disch:=omega) only [Ap j (by omega),O4,go_sem]
 .have q:j=l.length:=by simp at q;omega
  subst q
  rw [List.drop_length] at As
  have As:R=none:=As
  subst As
  simp (disch:=omega) only [go_sem]
  rfl
theorem Sg (l:List Cy) (hl:l.length<=1000000000000) (n:qB) (hp:CH) (m:Nat):Af prog 127 hp m [.ag [.i .i64 0,.s ⟨#[]⟩,.e0,.e0,.ds (Ab Bv l),.e0,.e0],.s n] (R1 (D3 l n)):=by
 obtain ⟨R,hR⟩:=A5 (D3 l n)
 rw [hR,R1]
 refine Aj func127 (tA cc127) (tB cc127) (tC cc127) rfl fun hf=>?_;unfold ck127
 simp only [go_sem]
 refine loop (fun p:Nat×Nat=>⟨[(1,.s n),(2,.bx m 0),(4,.bx (m+1) 0),(6,.i .i64 p.1)],(m,.bx [.i .i64 0,.s ⟨#[]⟩,.e0,.e0,.ds (Ab Bv l),.e0,.e0])::(m+1,.bx [.s ⟨#[]⟩,.e0,.s ⟨#[]⟩,.e0,.e0])::hp,p.2⟩)
  (fun p=>p.1<=l.length∧m+2<=p.2∧R=D3 (l.drop p.1) n) (fun p=>l.length - p.1) (0,m+2) ?_ ?_ (fun ⟨j,k⟩ hj=>?_)
 .exact ⟨by simp,by simp,hR.symm⟩
 .refine JT hf ?_ ?_ ?_ ?_ (zna _)
  all_goals (simp (disch:=omega) only [go_sem])
 dsimp only at hj
 obtain ⟨Cg,Bc,As⟩:=hj
 simp (disch:=omega) only [go_sem]
 refine Ae (fun q=>?_) (fun q=>?_)
 .have q:j<l.length:=by simpa using q
  obtain ⟨y,et⟩:∃y,l[j]?=some y:=⟨l[j],by simp [q]⟩
  rw [A2 et,K9] at As
  have O4:m<=k:=by omega
  simp (disch:=omega) only [q,Ad (Aa Bv et),go_sem]
  refine Ae (fun c=>?_) (fun c=>?_)
  .have c:y.n=n:=by simpa using c
   rw [iP c] at As
   subst As
   simp (disch:=omega) only [O4,q,Ad (Aa Bv et),go_sem]
  .have c:¬y.n=n:=by simpa using c
   rw [iN c] at As
   simp (disch:=omega) only [go_sem]
   refine ⟨(j+1,_),⟨by dsimp only;omega,by dsimp only;omega,As⟩,by dsimp only;omega,JT hf ?_ ?_ ?_ ?_ (zna _)⟩
   all_goals
    simp (disch:=omega) only [Ap j (by omega),O4,go_sem]
 .have q:j=l.length:=by simp at q;omega
  subst q
  rw [List.drop_length] at As
  have As:R=none:=As
  subst As
  simp (disch:=omega) only [go_sem]
  rfl
inductive MbS
 | mk (i:Nat) (b:Bool) (n:Nat)
def bfB (ms:List (List AV)) (x:qB) (i:Nat):Bool:=decide (x∈F7 (ms.take i))
def RW (t:Aw) (ms:List (List AV)) (j:Nat) (e:List AV):List Dn:=match e with
 | [AV.s x,AV.ds _]=>Gr x (decide (x=⟨#[116,114,117,101]⟩)||(decide (x=⟨#[102,97,108,115,101]⟩)||decide (x=⟨#[110,117,108,108]⟩))) (bfB ms x j) (t.n++⟨#[46]⟩++x)
 |_=>[]
theorem Lj (t:Aw) (ms:List (List AV)) (j:Nat) (e:List AV):(RW t ms j e).length<=2:=by
 unfold RW
 split
 .exact EE _ _ _ _
 .simp
def UV (t:Aw):List Dn:=Hw (RW t t.members) t.members t.members.length
theorem P3 (t:Aw) (h:t.members.length<=64):(UV t).length<=128:=by
 have:=D4 (A:=RW t t.members) (l:=t.members) (fun j x _=>Lj t t.members j x) t.members.length
 unfold UV
 omega
theorem XW {ms:List (List AV)} {x x2:qB} {y2:List (List AV)} {i:Nat} (e:ms[i]?=some [.s x2,.ds y2]):bfB ms x (i+1)=(bfB ms x i||decide (x2=x)):=by
 unfold bfB
 rw [<-AN e,Bool.eq_iff_iff]
 have:F7 (ms.take i++[[AV.s x2,.ds y2]])=F7 (ms.take i)++[x2]:=by unfold F7;rw [List.map_append];rfl
 rw [this]
 simp
 constructor
 .rintro (h | h)
  .exact .inl h
  .exact .inr h.symm
 .rintro (h | h)
  .exact .inl h
  .exact .inr h.symm
theorem RQ (t:Aw) (hn:t.n.size<=64) (hl:t.members.length<=64) (hm:∀e∈t.members,∃x y,e=[AV.s x,.ds y]∧x.size<=64) (hp:CH) (m:Nat):IA 85 hp m [Mc t] (UV t):=by
 obtain ⟨RR,A9⟩:=A5 (UV t)
 rw [A9]
 unfold UV at A9
 refine FP (fun l:List Dn=>l=RR) (fun _=>[]) (fun l=>.ds (Ab AR l)) func85 (tA cc85) (tB cc85) (tC cc85) rfl (fun hf i hi=>trivial) fun hf=>?_
 unfold ck85
 obtain ⟨is,his⟩:=A5 (t.members)
 simp only [Mc]
 rw [his]
 rw [his] at hl hm A9
 simp only [go_sem]
 refine loop (fun p:RY=>match p with
  | .mk j g L n=>⟨[(1,.bx m 0),(3,.rw (m+1) g L.length),(4,.i .i64 j)],(m+1,.rw g 2 (Ab AR L))::(m,.bx [.i .i64 t.k,.s t.n,.ds t.impl,.ds t.dirs,.ds (Ab Bv t.fields),.ds is,.ds t.inputs])::hp,n⟩)
  (fun p=>match p with | .mk j g L n=>j<=is.length∧m+2<=n∧L=Hw (RW t is) is j) (fun p=>match p with | .mk j g L n=>is.length - j) (.mk 0 0 [] (m+2)) ?_ ?_ (fun p hj=>?_)
 .exact ⟨zt _,zna _,rfl⟩
 .dsimp only
  refine (Bo (t:=3) (m:=2) ?_).trans (Mb hf ?_ ?_ ?_ (fun a ha c7=>?_) (zna _))
  .simp (disch:=omega) only [go_sem]
  .simp (disch:=omega) only [go_sem]
  .simp (disch:=omega) only [go_sem]
   try rfl
  .simp (disch:=omega) only [go_sem]
  .repeat rw [Ai _ _ (by omega)]
 obtain ⟨j,g,L,n⟩:=p
 obtain ⟨Cg,Bc,As⟩:=hj
 have hLb:L.length<=2*j:=by rw [As];exact D4 (fun j x _=>Lj t is j x) j
 have BS:(Ab AR L).length=L.length:=Ao _ _
 have LV:(Ab AR L).take L.length=Ab AR L:=z10 (by omega)
 dsimp only
 simp (disch:=omega) only [go_sem]
 refine Ae (fun q=>?_) (fun q=>?_)
 case' refine_2=>
  have BC:m<=n:=by omega
  have q:j=is.length:=by simp at q;omega
  subst q
  rw [A9] at As
  simp (disch:=omega) only [go_sem]
  refine Cw L As ?_
  simp (disch:=omega) only [BC,BS,zna,LV,go_sem]
 have q:j<is.length:=by simpa using q
 obtain ⟨e,ex⟩:∃x,is[j]?=some x:=⟨is[j],by simp [q]⟩
 obtain ⟨x,y,rfl,hx⟩:=hm e (zla ex)
 have C6:=F5 (A:=RW t is) ex
 simp (disch:=omega) only [q,Ad ex,go_sem]
 refine loop (fun p:MbS=>match p with
  | .mk i b o=>⟨[(1,.bx m 0),(3,.rw (m+1) g L.length),(4,.i .i64 j),(5,.s x),(6,.b b),(7,.i .i64 i)],(m+1,.rw g 2 (Ab AR L))::(m,.bx [.i .i64 t.k,.s t.n,.ds t.impl,.ds t.dirs,.ds (Ab Bv t.fields),.ds is,.ds t.inputs])::hp,o⟩)
  (fun p=>match p with | .mk i b o=>i<=j∧n<=o∧b=bfB is x i) (fun p=>match p with | .mk i b o=>j - i) (.mk 0 false n) ?_ ?_ (fun p hi=>?_)
 .exact ⟨zt _,zna _,by simp [bfB,F7]⟩
 .dsimp only
  refine Di ?_
  simp only [go_sem]
 obtain ⟨i,b,o⟩:=p
 obtain ⟨LX,HG,Dw⟩:=hi
 dsimp only
 simp (disch:=omega) only [go_sem]
 refine Ae (fun q2=>?_) (fun q2=>?_)
 .have q2:i<j:=by simp at q2;omega
  have q3:i<is.length:=by omega
  obtain ⟨e2,ey⟩:∃x,is[i]?=some x:=⟨is[i],by simp [q3]⟩
  obtain ⟨x2,y2,rfl,_⟩:=hm e2 (zla ey)
  have hbs:=XW (x:=x) ey
  rw [<-Dw] at hbs
  clear Dw
  cases b with
  |true=>
   simp (disch:=omega) only [go_sem]
   refine ⟨.mk (i+1) true (o+100),⟨show i+1<=j by omega,show n<=o+100 by omega,by rw [hbs];first | rfl | simp⟩,by show j - (i+1)<j - i;omega,?_⟩
   dsimp only
   refine AP ?_ (H2.refl _) (by omega)
   simp (disch:=omega) only [Ap i (by omega),go_sem]
  |false=>
   simp (disch:=omega) only [q3,Ad ey,go_sem]
   refine ⟨.mk (i+1) (decide (x2=x)) (o+100),⟨show i+1<=j by omega,show n<=o+100 by omega,by rw [hbs];first | rfl | simp⟩,by show j - (i+1)<j - i;omega,?_⟩
   dsimp only
   refine AP ?_ (H2.refl _) (by omega)
   simp (disch:=omega) only [Ap i (by omega),go_sem]
 .have z1:t.n.size+(#[46]:Array UInt8).size<=9223372036854775807:=by show t.n.size+1<=9223372036854775807;omega
  have z2:t.n.size+((#[46]:Array UInt8).size+x.size)<=9223372036854775807:=by show t.n.size+(1+x.size)<=9223372036854775807;omega
  have hmo:m<=o:=by omega
  have q2:j=i:=by simp at q2;omega
  subst q2
  have hE:RW t is j [.s x,.ds y]=Gr x (decide (x=⟨#[116,114,117,101]⟩)||(decide (x=⟨#[102,97,108,115,101]⟩)||decide (x=⟨#[110,117,108,108]⟩))) (bfB is x j) (t.n++⟨#[46]⟩++x):=rfl
  rw [<-Dw] at hE
  simp (disch:=omega) only [z1,z2,go_sem]
  refine Ac.r (Ls _ _ _ _ _ _) ?_
  rintro Al n' r ⟨F1,O7,e1,e2,e3⟩
  subst e1
  subst e2
  subst e3
  have H4:F1=_:=O7
  rw [Bool.or_assoc,<-hE] at H4
  have O7:F1.length<=2:=by rw [H4];exact Lj _ _ _ _
  have k1:(L.length+F1.length)*24<=140737488355328:=by omega
  have k2:L.length+F1.length<=9223372036854775807:=by omega
  have DI:(Ab AR F1).length=F1.length:=Ao _ _
  have Kx:(Ab AR (L++F1)).length=L.length+F1.length:=by rw [Ao,zld]
  simp only [zli]
  simp (disch:=omega) only [q,Ad ex,BS,DI,k1,k2,Ay,go_sem]
  refine ⟨.mk (j+1) (g+1) (L++F1) (n'+200),⟨show j+1<=is.length by omega,show m+2<=n'+200 by omega,by show _=_;rw [C6,H4,As]⟩,by show is.length - (j+1)<is.length - j;omega,?_⟩
  dsimp only
  refine Mb hf ?_ ?_ ?_ (fun a ha c7=>?_) (by omega)
  .simp (disch:=omega) only [Ap j (by omega),zld,zlc,zle,go_sem]
   try simp [zd]
  .simp (disch:=omega) only [Ay,Av,zlf,go_sem]
   try simp [zlf]
  .simp (disch:=omega) only [go_sem]
  .repeat rw [Ai _ _ (by omega)]
theorem e46:(⟨#[46]⟩:qB).size=1:=rfl
theorem e40:(⟨#[40]⟩:qB).size=1:=rfl
theorem e41:(⟨#[41]⟩:qB).size=1:=rfl
def Sd (doc:List Aw) (t:Aw) (fs:List Cy) (j:Nat) (f:Cy):List Dn :=
 Gr f.n false (D3 (fs.take j) f.n).isSome (t.n++⟨#[46]⟩++f.n)++(if (BU f.tn||(Az doc f.tn).isSome)=false then [.mk 8 (t.n++⟨#[46]⟩++f.n)] else if (!BU f.tn&&(Az doc f.tn).isSome&&decide (((Az doc f.tn).getD Dz).k=5))=true then [.mk 10 (t.n++⟨#[46]⟩++f.n)] else []) ++
  Px doc (Bm f.args) (t.n++⟨#[46]⟩++f.n++⟨#[40]⟩) ⟨#[41]⟩
theorem Dv (l:List (List AV)):(Bm l).length<=16:=by
 by_cases h:Gp l
 .exact (BO h).2.1
 .unfold Bm
  rw [dif_neg h]
  simp
theorem Pz (doc:List Aw) (t:Aw) (fs:List Cy) (j:Nat) (f:Cy):(Sd doc t fs j f).length<=51:=by
 unfold Sd
 rw [zld,zld]
 have h1:=EE f.n false (D3 (fs.take j) f.n).isSome (t.n++⟨#[46]⟩++f.n)
 have h2:=Ft doc (Dv f.args) (t.n++⟨#[46]⟩++f.n++⟨#[40]⟩) ⟨#[41]⟩
 split
 .simp only [zlc,zle];omega
 .split
  .simp only [zlc,zle];omega
  .simp only [zle];omega
def R5 (doc:List Aw) (t:Aw):List Dn:=Hw (Sd doc t t.fields) t.fields t.fields.length
theorem Q0 (doc:List Aw) (t:Aw) (h:t.fields.length<=64):(R5 doc t).length<=3264:=by
 have:=D4 (A:=Sd doc t t.fields) (l:=t.fields) (fun j x _=>Pz doc t t.fields j x) t.fields.length
 unfold R5
 omega
theorem M6 (doc:List Aw) (G0:doc.length<=64) (t:Aw) (ht:DfnB t) (hp:CH) (m:Nat):IA 84 hp m [B0 doc,Mc t] (R5 doc t):=by
 obtain ⟨RR,A9⟩:=A5 (R5 doc t)
 rw [A9]
 unfold R5 at A9
 refine FP (fun l:List Dn=>l=RR) (fun _=>[]) (fun l=>.ds (Ab AR l)) func84 (tA cc84) (tB cc84) (tC cc84) rfl (fun hf i hi=>trivial) fun hf=>?_
 unfold ck84
 have htn:=ht.n
 have hl:=ht.fl
 have hb:=ht.f
 obtain ⟨fs,Ku⟩:=A5 (t.fields)
 rw [Ku] at hl hb A9
 simp only [Mc]
 rw [Ku]
 simp only [go_sem]
 refine loop (fun p:RY=>match p with
  | .mk j g L n=>⟨[(2,.bx m 0),(3,.bx (m+1) 0),(5,.rw (m+2) g L.length),(6,.i .i64 j)],(m+2,.rw g 2 (Ab AR L))::(m,.bx [.ds (Ab B8 doc)])::(m+1,.bx [.i .i64 t.k,.s t.n,.ds t.impl,.ds t.dirs,.ds (Ab Bv fs),.ds t.members,.ds t.inputs])::hp,n⟩)
  (fun p=>match p with | .mk j g L n=>j<=fs.length∧m+3<=n∧L=Hw (Sd doc t fs) fs j) (fun p=>match p with | .mk j g L n=>fs.length - j) (.mk 0 0 [] (m+3)) ?_ ?_ (fun p hj=>?_)
 .exact ⟨zt _,zna _,rfl⟩
 .dsimp only
  refine (Bo (t:=5) (m:=2) ?_).trans (Fm hf ?_ ?_ ?_ ?_ (fun a ha c7=>?_) (zna _))
  .simp (disch:=omega) only [go_sem]
  .simp (disch:=omega) only [go_sem]
  .simp (disch:=omega) only [go_sem]
   try rfl
  .simp (disch:=omega) only [go_sem]
  .simp (disch:=omega) only [go_sem]
  .repeat rw [Ai _ _ (by omega)]
 obtain ⟨j,g,L,n⟩:=p
 obtain ⟨Cg,Bc,As⟩:=hj
 have hLb:L.length<=51*j:=by rw [As];exact D4 (fun j x _=>Pz doc t fs j x) j
 have BS:(Ab AR L).length=L.length:=Ao _ _
 have LV:(Ab AR L).take L.length=Ab AR L:=z10 (by omega)
 dsimp only
 simp (disch:=omega) only [go_sem]
 refine Ae (fun q=>?_) (fun q=>?_)
 case' refine_2=>
  have BC:m<=n:=by omega
  have q:j=fs.length:=by simp at q;omega
  subst q
  rw [A9] at As
  simp (disch:=omega) only [go_sem]
  refine Cw L As ?_
  simp (disch:=omega) only [BC,BS,zna,LV,go_sem]
 have q:j<fs.length:=by simpa using q
 obtain ⟨f,ef⟩:∃x,fs[j]?=some x:=⟨fs[j],by simp [q]⟩
 have QU:=hb f (zla ef)
 obtain ⟨ha1,ha2,ha3⟩:=BO QU.a
 have C6:=F5 (A:=Sd doc t fs) ef
 have hE:Sd doc t fs j f=Gr f.n false (D3 (fs.take j) f.n).isSome (t.n++⟨#[46]⟩++f.n)++(if (BU f.tn||(Az doc f.tn).isSome)=false then [.mk 8 (t.n++⟨#[46]⟩++f.n)] else if (!BU f.tn&&(Az doc f.tn).isSome&&decide (((Az doc f.tn).getD Dz).k=5))=true then [.mk 10 (t.n++⟨#[46]⟩++f.n)] else [])++Px doc (Bm f.args) (t.n++⟨#[46]⟩++f.n++⟨#[40]⟩) ⟨#[41]⟩:=rfl
 obtain ⟨az,haz⟩:=A5 (Bm f.args)
 rw [haz] at ha1 ha2 ha3 hE
 have hApp:t.n++⟨#[46]⟩++f.n++⟨#[40]⟩=t.n++⟨#[46]⟩++f.n++⟨#[40]⟩:=rfl
 have hfn:=QU.n
 have hI:=Sg (fs.take j) (by rw [List.length_take];omega) f.n
 obtain ⟨R,hR⟩:=A5 (D3 (fs.take j) f.n)
 rw [hR] at hI hE
 unfold R1 at hI
 have hF:=BI doc (by omega) f.tn
 have hK:=P9 doc G0 f.tn
 obtain ⟨X,hX⟩:=A5 (Az doc f.tn)
 rw [hX] at hF hK hE
 unfold Eh at hF
 obtain ⟨kb,hkb⟩:=A5 ((BU f.tn||X.isSome))
 rw [hkb] at hK hE
 have hS:=CP f.tn
 obtain ⟨sb,VC⟩:=A5 (BU f.tn)
 rw [VC] at hS hE
 have z1:t.n.size+(#[46]:Array UInt8).size<=9223372036854775807:=by show t.n.size+1<=9223372036854775807;omega
 have z2:t.n.size+((#[46]:Array UInt8).size+f.n.size)<=9223372036854775807:=by show t.n.size+(1+f.n.size)<=9223372036854775807;omega
 have z4:t.n.size+((#[46]:Array UInt8).size+(f.n.size+(#[40]:Array UInt8).size))<=9223372036854775807:=by show t.n.size+(1+(f.n.size+1))<=9223372036854775807;omega
 have z3:0<=(j:Int)∧(j:Int)<=(fs.length:Int):=by omega
 simp (disch:=omega) only [q,Ad (Aa Bv ef),z1,z2,z3.1,z3.2,true_and,go_sem]
 refine Aq.f (fun _ _ _=>hI _ _) ?_
 simp (disch:=omega) only [q,Ad (Aa Bv ef),go_sem]
 refine ⟨by omega,?_⟩
 refine Ac.r (Ls _ _ _ _ _ _) ?_
 rintro Al n' r ⟨F1,O7,e1,e2,e3⟩
 subst e1
 subst e2
 subst e3
 have H4:F1=_:=O7
 rw [<-H4] at hE
 have O7:F1.length<=2:=by rw [H4];exact EE _ _ _ _
 have k1:(L.length+F1.length)*24<=140737488355328:=by omega
 have k2:L.length+F1.length<=9223372036854775807:=by omega
 have k3:(L.length+(F1.length+1))*24<=140737488355328:=by omega
 have k4:L.length+(F1.length+1)<=9223372036854775807:=by omega
 have DI:(Ab AR F1).length=F1.length:=Ao _ _
 have Kx:(Ab AR (L++F1)).length=L.length+F1.length:=by rw [Ao,zld]
 simp only [zli]
 simp (disch:=omega) only [q,Ad (Aa Bv ef),BS,DI,k1,k2,Ay,go_sem]
 refine Ac.f (hF _ _) ?_
 simp (disch:=omega) only [q,Ad (Aa Bv ef),BS,DI,k1,k2,Ay,go_sem]
 refine Ac.f (hK _ _) ?_
 cases kb with
 |false=>
  rw [iP rfl] at hE
  simp (disch:=omega) only [q,Ad (Aa Bv ef),BS,DI,Kx,k1,k2,k3,k4,Ay,Av,ha1,z4,true_and,go_sem]
  refine Ac.r (Hf doc G0 az ha2 (fun x hx=>(ha3 x hx).2) _ _ ?_ ?_ _ _) ?_
  .simp only [z24,e46,e40];omega
  .simp only [e41];omega
  rintro Al n' r ⟨F2,IP,e1,e2,e3⟩
  subst e1
  subst e2
  subst e3
  have EM:F2=_:=IP
  rw [hApp] at EM
  have IP:F2.length<=48:=by rw [EM];exact Ft doc ha2 _ _
  simp only [zli]
  have k5:(L.length+(F1.length+F2.length))*24<=140737488355328:=by omega
  have k6:L.length+(F1.length+F2.length)<=9223372036854775807:=by omega
  have k7:(L.length+(F1.length+(1+F2.length)))*24<=140737488355328:=by omega
  have k8:L.length+(F1.length+(1+F2.length))<=9223372036854775807:=by omega
  have Jw:(Ab AR F2).length=F2.length:=Ao _ _
  simp (disch:=omega) only [q,Ad (Aa Bv ef),BS,DI,Kx,Jw,k1,k2,k3,k4,k5,k6,k7,k8,Ay,Av,zd,zld,zlc,zle,Ao,go_sem]
  refine ⟨.mk (j+1) (g+1+1+1) (L++F1++[.mk 8 (t.n++⟨#[46]⟩++f.n)]++F2) (n+400),⟨show j+1<=fs.length by omega,show m+3<=n+400 by omega,by show _=_;rw [C6,hE,As,EM];try simp only [zlf]⟩,by show fs.length - (j+1)<fs.length - j;omega,?_⟩
  dsimp only
  refine Fm hf ?_ ?_ ?_ ?_ (fun a ha c7=>?_) (by omega)
  .simp (disch:=omega) only [Ap j (by omega),zld,zlc,zle,go_sem]
   try simp [zd]
  .simp (disch:=omega) only [Ay,Av,zlf,go_sem]
   try simp [zlf]
  .simp (disch:=omega) only [go_sem]
  .simp (disch:=omega) only [go_sem]
  .repeat rw [Ai _ _ (by omega)]
 |true=>
 rw [iN (by decide)] at hE
 simp (disch:=omega) only [q,Ad (Aa Bv ef),BS,DI,Kx,k1,k2,Ay,ha1,go_sem]
 refine Ac.f (hS _ _) ?_
 simp (disch:=omega) only [q,Ad (Aa Bv ef),BS,DI,Kx,k1,k2,Ay,ha1,go_sem]
 refine Ae (fun c=>?_) (fun c=>?_)
 .rw [iP c] at hE
  simp (disch:=omega) only [q,Ad (Aa Bv ef),BS,DI,Kx,k1,k2,k3,k4,Ay,Av,ha1,z4,true_and,go_sem]
  refine Ac.r (Hf doc G0 az ha2 (fun x hx=>(ha3 x hx).2) _ _ ?_ ?_ _ _) ?_
  .simp only [z24,e46,e40];omega
  .simp only [e41];omega
  rintro Al n' r ⟨F2,IP,e1,e2,e3⟩
  subst e1
  subst e2
  subst e3
  have EM:F2=_:=IP
  rw [hApp] at EM
  have IP:F2.length<=48:=by rw [EM];exact Ft doc ha2 _ _
  simp only [zli]
  have k5:(L.length+(F1.length+F2.length))*24<=140737488355328:=by omega
  have k6:L.length+(F1.length+F2.length)<=9223372036854775807:=by omega
  have k7:(L.length+(F1.length+(1+F2.length)))*24<=140737488355328:=by omega
  have k8:L.length+(F1.length+(1+F2.length))<=9223372036854775807:=by omega
  have Jw:(Ab AR F2).length=F2.length:=Ao _ _
  simp (disch:=omega) only [q,Ad (Aa Bv ef),BS,DI,Kx,Jw,k1,k2,k3,k4,k5,k6,k7,k8,Ay,Av,zd,zld,zlc,zle,Ao,go_sem]
  refine ⟨.mk (j+1) (g+1+1+1) (L++F1++[.mk 10 (t.n++⟨#[46]⟩++f.n)]++F2) (n+400),⟨show j+1<=fs.length by omega,show m+3<=n+400 by omega,by show _=_;rw [C6,hE,As,EM];try simp only [zlf]⟩,by show fs.length - (j+1)<fs.length - j;omega,?_⟩
  dsimp only
  refine Fm hf ?_ ?_ ?_ ?_ (fun a ha c7=>?_) (by omega)
  .simp (disch:=omega) only [Ap j (by omega),zld,zlc,zle,go_sem]
   try simp [zd]
  .simp (disch:=omega) only [Ay,Av,zlf,go_sem]
   try simp [zlf]
  .simp (disch:=omega) only [go_sem]
  .simp (disch:=omega) only [go_sem]
  .repeat rw [Ai _ _ (by omega)]
 .rw [iN (by rw [c];decide),List.append_nil] at hE
  simp (disch:=omega) only [q,Ad (Aa Bv ef),BS,DI,Kx,k1,k2,k3,k4,Ay,Av,ha1,z4,true_and,go_sem]
  refine Ac.r (Hf doc G0 az ha2 (fun x hx=>(ha3 x hx).2) _ _ ?_ ?_ _ _) ?_
  .simp only [z24,e46,e40];omega
  .simp only [e41];omega
  rintro Al n' r ⟨F2,IP,e1,e2,e3⟩
  subst e1
  subst e2
  subst e3
  have EM:F2=_:=IP
  rw [hApp] at EM
  have IP:F2.length<=48:=by rw [EM];exact Ft doc ha2 _ _
  simp only [zli]
  have k5:(L.length+(F1.length+F2.length))*24<=140737488355328:=by omega
  have k6:L.length+(F1.length+F2.length)<=9223372036854775807:=by omega
  have k7:(L.length+(F1.length+(1+F2.length)))*24<=140737488355328:=by omega
  have k8:L.length+(F1.length+(1+F2.length))<=9223372036854775807:=by omega
  have Jw:(Ab AR F2).length=F2.length:=Ao _ _
  simp (disch:=omega) only [q,Ad (Aa Bv ef),BS,DI,Kx,Jw,k1,k2,k3,k4,k5,k6,k7,k8,Ay,Av,zd,zld,zlc,zle,Ao,go_sem]
  refine ⟨.mk (j+1) (g+1+1) (L++F1++F2) (n+400),⟨show j+1<=fs.length by omega,show m+3<=n+400 by omega,by show _=_;rw [C6,hE,As,EM];try simp only [zlf]⟩,by show fs.length - (j+1)<fs.length - j;omega,?_⟩
  dsimp only
  refine Fm hf ?_ ?_ ?_ ?_ (fun a ha c7=>?_) (by omega)
  .simp (disch:=omega) only [Ap j (by omega),zld,zlc,zle,go_sem]
   try simp [zd]
  .simp (disch:=omega) only [Ay,Av,zlf,go_sem]
   try simp [zlf]
  .simp (disch:=omega) only [go_sem]
  .simp (disch:=omega) only [go_sem]
  .repeat rw [Ai _ _ (by omega)]
