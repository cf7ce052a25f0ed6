/- Proof. Conditions: none. -/
import Derived.Test.YtgfidgoefioigaaGreatDoorIk52
noncomputable section
open List renaming drop_succ_cons->za,drop_zero->zf,take_succ_cons->z8,getD_cons_zero->zk,getD_cons_succ->zo,flatten_nil->z1w
open Option renaming isSome_none->zn,getD_some->zc,isSome_some->zb,map_some->z7,map_none->zr
open Bool renaming and_eq_true->zd,not_true->zu,not_false->zp
open Go.Proofs.Tryz
open List renaming length_cons->zlc,length_nil->zle,take_zero->zlr,mem_map_of_mem->zls,flatten_cons->zlt
namespace Go.Proofs.YtgfidgoefioigaaGreatDoor
open Go.Eng
set_option linter.all false
set_option maxRecDepth 20000
set_option maxHeartbeats 1000000
theorem X8 (l:List qB) (k:qB) (hl:l.length<=1000000000000) (hp:CH) (m:Nat):Ae prog 91 hp m [.ds (Bq l),.s k] (.i .i64 (ix k l 0)):=by
 refine Al func91 (tA cc91) (tB cc91) (tC cc91) rfl fun hf=>?_;unfold ck91
 simp only [go_sem]
 refine loop (fun p:Nat×Nat=>⟨[(0,.ds (Bq l)),(1,.s k),(5,.i .i64 p.1)],hp,p.2⟩) (fun p=>p.1<=l.length∧ix k l 0=ix k (l.drop p.1) p.1) (fun p=>l.length - p.1) (0,m) ?_ ?_ (fun ⟨j,n⟩ hj=>?_)
 .exact ⟨by simp,rfl⟩
 .refine Dd ?_
  simp only [go_sem]
 dsimp only at hj
 simp only [go_sem]
 refine Af (fun d=>?_) (fun d=>?_)
 .have d:j<l.length:=by simpa using d
  obtain ⟨x,ex⟩:∃x,l[j]?=some x:=⟨l[j],by simp [d]⟩
  have e:=A2 ex
  rw [e,ix] at hj
  simp only [d,Ad (Aa C3 ex),go_sem]
  refine Af (fun c1=>?_) (fun c1=>?_)
  .have c1:k=x:=by simp at c1;exact c1.symm
   rw [iP c1] at hj
   rw [hj.2]
   simp only [go_sem]
  .have c1:¬k=x:=by simp at c1;exact fun e=>c1 e.symm
   rw [iN c1] at hj
   simp only [go_sem]
   refine ⟨(j+1,n),by dsimp only;omega,by dsimp only;omega,Dd ?_⟩
   simp only [Ao j (by omega),go_sem]
 .have d:j=l.length:=by simp at d;omega
  subst d
  rw [List.drop_length,ix] at hj
  rw [hj.2]
  simp only [go_sem]
theorem O5 (hp:CH) (m:Nat):Ae prog 140 hp m [] (DW Cv [1]):=by
 refine Al func140 (tA cc140) (tB cc140) (tC cc140) rfl fun hf=>?_;unfold ck140
 simp (disch:=omega) only [go_sem]
 rfl
def RH:qB:=⟨#[95,95,116,121,112,101,110,97,109,101]⟩
def pkB (doc:List Av) (p:Pk):Bool :=
 if p.initial < -1∨(0<=p.initial∧Ca p.tw=false) then false
 else if FI p.key=false∨(ZA p.key=true∧(¬p.key=RH∨¬p.name=RH)) then false
 else if p.name=RH then LB p.tn p.tw Cv [1]&&(decide (p.args.length=0)&&decide (p.picks.length=0))
 else match Dq ((Ay doc p.on).getD DJ).fields p.name with
  |none=>false
  |some f=>if LB f.tn (IX f.tw) p.tn p.tw=true∧Lj doc (Bl f.args) p.args=true then (decide (p.picks.length=0)||!CX doc p.tn) else false
theorem U7 (doc:List Av) (hd:DocB doc) (p:Pk) (hi:-9223372036854775808<=p.initial∧p.initial<=9223372036854775807) (FQ:p.tw.length<=1000000000) (hl:p.args.length<=1000000000) (hr:PD p.args) (JH:p.picks.length<=1000000000) (hp:CH) (m:Nat):Ae prog 92 hp m [B9 doc,pkx p] (.b (pkB doc p)):=by
 have GB:=hd.l
 have hL:=JV p.tn p.tw (by omega)
 have hN:=BN p.key
 have hV:=Jp p.key
 have hT:=O5
 have hS:=GF p.tn Cv p.tw [1] (by omega) (by simp)
 have hF:=BW doc (by omega) p.on
 have hLf:=ON doc (by omega) p.tn
 obtain ⟨hx1,GD⟩:=Nf hd p.on
 obtain ⟨RR,AC⟩:=A7 (pkB doc p)
 rw [AC]
 unfold pkB at AC
 obtain ⟨lw,hlw⟩:=A7 (Ca p.tw)
 obtain ⟨kn,Bx⟩:=A7 (FI p.key)
 obtain ⟨kr,hkr⟩:=A7 (ZA p.key)
 rw [hlw] at hL AC
 rw [Bx] at hN AC
 rw [hkr] at hV AC
 refine Al func92 (tA cc92) (tB cc92) (tC cc92) rfl fun hf=>?_;unfold ck92
 simp (disch:=omega) only [go_sem]
 refine AH.f (fun _=>hL _ _) ?_
 simp (disch:=omega) only [go_sem]
 refine Af (fun c=>?_) (fun c=>?_)
 .rw [iP (by simpa using c)] at AC
  subst AC
  simp (disch:=omega) only [go_sem]
 rw [iN (by simpa using c)] at AC
 clear c
 simp (disch:=omega) only [go_sem]
 refine Ac.f (hN _ _) ?_
 simp (disch:=omega) only [go_sem]
 refine AH.f (fun _=>hV _ _) ?_
 simp (disch:=omega) only [go_sem]
 refine Af (fun c=>?_) (fun c=>?_)
 .rw [iP (by simpa only [RH,Bool.or_eq_true,zd,Bool.not_eq_true',decide_eq_false_iff_not] using c)] at AC
  subst AC
  simp (disch:=omega) only [go_sem]
 rw [iN (fun h=>by rw [show (!kn||kr&&(!decide (p.key={ data:=#[95,95,116,121,112,101,110,97,109,101] })||!decide (p.name={ data:=#[95,95,116,121,112,101,110,97,109,101] })))=true by simpa only [RH,Bool.or_eq_true,zd,Bool.not_eq_true',decide_eq_false_iff_not] using h] at c;cases c)] at AC
 clear c
 simp (disch:=omega) only [go_sem]
 refine Af (fun c=>?_) (fun c=>?_)
 .rw [iP (by simpa [RH] using c)] at AC
  simp (disch:=omega) only [go_sem]
  refine Au.f (fun _ _ _=>hT _ _) ?_
  simp (disch:=omega) only [go_sem]
  refine Au.f (fun _ _ _=>hS _ _) ?_
  simp (disch:=omega) only [go_sem]
  subst AC
  simp [Bool.and_assoc]
 rw [iN (by simpa [RH] using c)] at AC
 clear c
 simp (disch:=omega) only [go_sem]
 obtain ⟨t,ht⟩:=A7 ((Ay doc p.on).getD DJ)
 unfold Eh at hF
 rw [ht] at hF hx1 GD AC
 obtain ⟨tb,htb⟩:=A7 ((Ay doc p.on).isSome)
 rw [htb] at hF
 refine Ac.f (hF _ _) ?_
 have hFo:=M6 t (by omega) p.name
 unfold Rb at hFo
 simp (disch:=omega) only [go_sem]
 refine Ac.f (hFo _ _) ?_
 cases hX:Dq t.fields p.name with
 |none=>
  rw [hX] at AC
  dsimp only at AC
  subst AC
  simp (disch:=omega) only [zn,go_sem]
  refine BU ?_
  simp (disch:=omega) only [go_sem]
  refine BU ?_
  simp (disch:=omega) only [go_sem]
 |some f=>
  rw [hX] at AC
  dsimp only at AC
  have QA:=GD f (List.mem_of_find?_eq_some hX)
  obtain ⟨fa1,fa2,fa3⟩:=BH QA.a
  have hSf:=GF f.tn p.tn (IX f.tw) p.tw (by rw [Ig];have:=QA.tl;omega) (by omega)
  simp only [DW] at hSf
  rw [<-QA.tw] at hSf
  have hA:=TR doc hd (Bl f.args) fa2 fa3 p.args hl hr
  rw [<-fa1] at hA
  obtain ⟨b1,x9⟩:=A7 (LB f.tn (IX f.tw) p.tn p.tw)
  obtain ⟨b2,ED⟩:=A7 (Lj doc (Bl f.args) p.args)
  obtain ⟨b3,hb3⟩:=A7 (CX doc p.tn)
  rw [x9] at hSf AC
  rw [ED] at hA AC
  rw [hb3] at hLf AC
  simp only [zc,flx]
  simp (disch:=omega) only [zb,go_sem]
  refine AH.f (fun _=>hSf _ _) ?_
  simp (disch:=omega) only [go_sem]
  refine AH.f (fun _=>hA _ _) ?_
  simp (disch:=omega) only [go_sem]
  refine Af (fun c=>?_) (fun c=>?_)
  .rw [iN (fun h=>by rw [h.1,h.2] at c;cases c)] at AC
   subst AC
   simp (disch:=omega) only [go_sem]
  rw [iP (by simpa using c)] at AC
  simp (disch:=omega) only [go_sem]
  refine AH.f (fun _=>hLf _ _) ?_
  simp (disch:=omega) only [go_sem]
  subst AC
  simp
inductive FO:List Pk->Prop
 | mk (l:List Pk):l.length<=1000000000->(∀p∈l,(-9223372036854775808<=p.initial∧p.initial<=9223372036854775807)∧p.tw.length<=1000000000∧p.args.length<=1000000000∧PD p.args)->(∀p∈l,FO p.picks)->FO l
theorem FO.l {l:List Pk}:FO l->l.length<=1000000000 | .mk _ h _ _=>h
theorem FO.p {l:List Pk}:FO l->∀p∈l,(-9223372036854775808<=p.initial∧p.initial<=9223372036854775807)∧p.tw.length<=1000000000∧p.args.length<=1000000000∧PD p.args | .mk _ _ h _=>h
theorem FO.x {l:List Pk}:FO l->∀p∈l,FO p.picks | .mk _ _ _ h=>h
def Kg (p:Pk) (l:List Pk):Bool:=l.any fun q=>decide (q.on=p.on)&&decide (q.key=p.key)
def Qr (doc:List Av) (types:List qB) (c7:Int):List (Pk×Bool)->List Pk->Int->Bool
 | [],_,_=>true
 | (p,b)::r,seen,r9=>
  if 24<c7∨ix p.on types 0<r9∨pkB doc p=false∨b=false then false
  else if Kg p seen=true then false else Qr doc types c7 r (seen++[p]) (ix p.on types 0)
mutual
def Y5 (doc:List Av):Pk->Int->Bool
 | .mk k o n a tn tw l i p,c7=>Qr doc (Dj doc tn) (IntKind.i64.wrap (c7+1)) (lrL doc p (IntKind.i64.wrap (c7+1))) [] 0
def lrL (doc:List Av):List Pk->Int->List (Pk×Bool)
 | [],_=>[]
 |p::r,c7=>(p,Y5 doc p c7)::lrL doc r c7
end
def V8 (doc:List Av) (tn:qB) (l:List Pk) (c7:Int):Bool:=Qr doc (Dj doc tn) c7 (lrL doc l c7) [] 0
theorem QW (doc:List Av) (p:Pk) (c7:Int):Y5 doc p c7=V8 doc p.tn p.picks (IntKind.i64.wrap (c7+1)):=by cases p;rw [Y5];rfl
theorem Aas (doc:List Av) (l:List Pk) (c7:Int):lrL doc l c7=l.map fun p=>(p,Y5 doc p c7):=by
 induction l with
 |nil=>rw [lrL];rfl
 |cons p l ih=>rw [lrL,ih];rfl
theorem M1 (doc:List Av) (hd:DocB doc) (hk:DocOk doc) (l:List Pk) (hl:FO l) (tn:qB) (c7:Int) (h:∀p∈l,∀hp m,Ae prog 48 hp m [B9 doc,.s p.tn,.ds (Ab Bi p.picks),.i .i64 (IntKind.i64.wrap (c7+1))] (.b (Y5 doc p c7))) (hp:CH) (m:Nat):Ae prog 48 hp m [B9 doc,.s tn,.ds (Ab Bi l),.i .i64 c7] (.b (V8 doc tn l c7)):=by
 have hll:=hl.l
 have hP:=Qo doc hk tn
 have hPl:=KP doc tn
 have GB:=hd.l
 obtain ⟨R,hR⟩:=A7 (V8 doc tn l c7)
 rw [hR]
 unfold V8 at hR
 obtain ⟨T,hT⟩:=A7 (Dj doc tn)
 rw [hT] at hP hPl hR
 have hTl:T.length<=1000000000000:=by omega
 refine Al func48 (tA cc48) (tB cc48) (tC cc48) rfl fun hf=>?_;unfold ck48
 simp (disch:=omega) only [go_sem]
 refine Ac.f (hP _ _) ?_
 simp (disch:=omega) only [go_sem]
 refine loop (fun p:Nat×Int×Nat=>⟨[(2,.ds (Ab Bi l)),(3,.i .i64 c7),(4,.bx m 0),(9,.ds (Bq T)),(10,.i .i64 p.2.1),(11,.i .i64 p.1)],(m,.bx [.ds (Ab BB doc)])::hp,p.2.2⟩)
  (fun p=>p.1<=l.length∧m+1<=p.2.2∧R=Qr doc T c7 (lrL doc (l.drop p.1) c7) (l.take p.1) p.2.1) (fun p=>l.length - p.1) (0,0,m+1) ?_ ?_ (fun ⟨j,r9,n⟩ hj=>?_)
 .exact ⟨by simp,by simp,by simpa using hR.symm⟩
 .refine Fo hf ?_ ?_ ?_ (Nat.le_refl _)
  all_goals (simp (disch:=omega) only [go_sem])
 dsimp only at hj
 obtain ⟨Cq,Be,At⟩:=hj
 have BD:m<=n:=by omega
 simp (disch:=omega) only [go_sem]
 refine Af (fun d=>?_) (fun d=>?_)
 case' refine_2=>
  have d:j=l.length:=by simp at d;omega
  subst d
  rw [List.drop_length,lrL,Qr] at At
  subst At
  simp (disch:=omega) only [BD,go_sem]
 have d:j<l.length:=by simpa using d
 obtain ⟨x,ex⟩:∃x,l[j]?=some x:=⟨l[j],by simp [d]⟩
 have Q0:=List.mem_of_getElem? ex
 obtain ⟨p1,p2,p3,p4⟩:=hl.p x Q0
 have JH:=(hl.x x Q0).l
 have hx:=h x Q0
 have MF:=U7 doc hd x p1 p2 p3 p4 JH
 rw [A2 ex,lrL,Qr] at At
 obtain ⟨b1,x9⟩:=A7 (pkB doc x)
 obtain ⟨b2,ED⟩:=A7 (Y5 doc x c7)
 rw [x9] at MF At
 rw [ED] at hx At
 have eg:(Ab Bi l)[j]?=some (Bi x):=Aa Bi ex
 simp (disch:=omega) only [d,Ad (Aa Bi ex),go_sem]
 refine Ac.f (X8 T x.on hTl _ _) ?_
 obtain ⟨a,ha⟩:=A7 (ix x.on T 0)
 rw [ha] at At
 rw [ha]
 by_cases c1:24<c7∨a<r9
 .rw [iP (by rcases c1 with c | c;exact .inl c;exact .inr (.inl c))] at At
  subst At
  have e1:(decide (24<c7)||decide (a<r9))=true:=by simpa using c1
  simp (disch:=omega) only [d,Ad (Aa Bi ex),eg,e1,zlc,zle,za,zf,z8,zlr,z7,zr,zb,zn,zc,zk,zo,and_self,Bt,true_and,Ch,zu,zp,go_sem]
  refine AJ.no ?_
  simp (disch:=omega) only [d,Ad (Aa Bi ex),eg,e1,zlc,zle,za,zf,z8,zlr,z7,zr,zb,zn,zc,zk,zo,and_self,Bt,true_and,Ch,zu,zp,go_sem]
  refine AJ.no ?_
  simp (disch:=omega) only [d,Ad (Aa Bi ex),eg,e1,BD,zlc,zle,za,zf,z8,zlr,z7,zr,zb,zn,zc,zk,zo,and_self,Bt,true_and,Ch,zu,zp,go_sem]
 have e1:(decide (24<c7)||decide (a<r9))=false:=by simpa using c1
 simp (disch:=omega) only [d,Ad (Aa Bi ex),eg,e1,zlc,zle,za,zf,z8,zlr,z7,zr,zb,zn,zc,zk,zo,and_self,Bt,true_and,Ch,zu,zp,go_sem]
 refine AJ.f (fun _ _ _=>MF _ _) ?_
 cases b1
 .rw [iP (.inr (.inr (.inl rfl)))] at At
  subst At
  simp (disch:=omega) only [d,Ad (Aa Bi ex),eg,e1,zlc,zle,za,zf,z8,zlr,z7,zr,zb,zn,zc,zk,zo,and_self,Bt,true_and,Ch,zu,zp,go_sem]
  refine AJ.no ?_
  simp (disch:=omega) only [d,Ad (Aa Bi ex),eg,e1,BD,zlc,zle,za,zf,z8,zlr,z7,zr,zb,zn,zc,zk,zo,and_self,Bt,true_and,Ch,zu,zp,go_sem]
 simp (disch:=omega) only [d,Ad (Aa Bi ex),eg,e1,zlc,zle,za,zf,z8,zlr,z7,zr,zb,zn,zc,zk,zo,and_self,Bt,true_and,Ch,zu,zp,go_sem]
 refine AJ.f (fun _ _ _=>hx _ _) ?_
 cases b2
 .rw [iP (.inr (.inr (.inr rfl)))] at At
  subst At
  simp (disch:=omega) only [d,Ad (Aa Bi ex),eg,e1,BD,zlc,zle,za,zf,z8,zlr,z7,zr,zb,zn,zc,zk,zo,and_self,Bt,true_and,Ch,zu,zp,go_sem]
 rw [iN (by rintro (h | h | h | h);exact c1 (.inl h);exact c1 (.inr h);cases h;cases h)] at At
 simp (disch:=omega) only [d,Ad (Aa Bi ex),eg,e1,BD,zlc,zle,za,zf,z8,zlr,z7,zr,zb,zn,zc,zk,zo,and_self,Bt,true_and,Ch,zu,zp,go_sem]
 refine loop (fun p:Nat×Nat=>⟨[(2,.ds (Ab Bi l)),(3,.i .i64 c7),(4,.bx m 0),(9,.ds (Bq T)),(10,.i .i64 a),(11,.i .i64 j),(13,.i .i64 p.1)],(m,.bx [.ds (Ab BB doc)])::hp,p.2⟩)
  (fun p=>p.1<=j∧m+1<=p.2∧Kg x (l.take p.1)=false) (fun p=>j - p.1) (0,n+100) ?_ ?_ (fun ⟨i,n'⟩ hi=>?_)
 .exact ⟨by simp,by dsimp only;omega,by simp [Kg]⟩
 .refine Fo hf ?_ ?_ ?_ (by dsimp only;omega)
  all_goals (simp (disch:=omega) only [go_sem])
 dsimp only at hi
 obtain ⟨NN,Is,Ed⟩:=hi
 have hmn':m<=n':=by omega
 simp (disch:=omega) only [go_sem]
 refine Af (fun q=>?_) (fun q=>?_)
 .have q:i<j:=by simpa using q
  obtain ⟨y,ey⟩:∃y,l[i]?=some y:=⟨l[i]'(by omega),List.getElem?_eq_getElem (by omega)⟩
  have ey':(Ab Bi l)[i]?=some (Bi y):=Aa Bi ey
  have q2:i<l.length:=by omega
  have CR:Kg x (l.take (i+1))=(decide (y.on=x.on)&&decide (y.key=x.key)):=by
   rw [<-Bc ey]
   unfold Kg at Ed ⊢
   rw [List.any_append,Ed,Bool.false_or]
   simp
  simp (disch:=omega) only [d,q2,Ad (Aa Bi ex),Ad (Aa Bi ey),eg,ey',hmn',zlc,zle,za,zf,z8,zlr,z7,zr,zb,zn,zc,zk,zo,and_self,Bt,true_and,Ch,zu,zp,go_sem]
  refine Af (fun c=>?_) (fun c=>?_)
  .rw [c] at CR
   have:Kg x (l.take j)=true:=by
    unfold Kg at CR ⊢
    obtain ⟨z,hz,hz2⟩:=List.any_eq_true.1 CR
    refine List.any_eq_true.2 ⟨z,?_,hz2⟩
    exact (List.take_sublist_take_left (by omega:i+1<=j)).subset hz
   rw [iP this] at At
   subst At
   simp (disch:=omega) only [hmn',zlc,zle,za,zf,z8,zlr,z7,zr,zb,zn,zc,zk,zo,and_self,Bt,true_and,Ch,zu,zp,go_sem]
  .rw [c] at CR
   simp (disch:=omega) only [go_sem]
   refine ⟨(i+1,n'+50),⟨by dsimp only;omega,by dsimp only;omega,CR⟩,by dsimp only;omega,Fo hf ?_ ?_ ?_ (by dsimp only;omega)⟩
   .simp (disch:=omega) only [Ao i (by omega),go_sem]
   .simp (disch:=omega) only [go_sem]
   .simp (disch:=omega) only [go_sem]
 .have q:i=j:=by simp at q;omega
  subst q
  rw [iN (by rw [Ed];decide)] at At
  simp (disch:=omega) only [go_sem]
  refine ⟨(i+1,a,n'+50),⟨by dsimp only;omega,by dsimp only;omega,?_⟩,by dsimp only;omega,Fo hf ?_ ?_ ?_ (by dsimp only;omega)⟩
  .dsimp only
   rw [<-Bc ex]
   exact At
  .simp (disch:=omega) only [Ao i (by omega),go_sem]
  .simp (disch:=omega) only [go_sem]
  .simp (disch:=omega) only [go_sem]
theorem TF (doc:List Av) (hd:DocB doc) (hk:DocOk doc) (l:List Pk) (hl:FO l) (tn:qB) (c7:Int) (hp:CH) (m:Nat):Ae prog 48 hp m [B9 doc,.s tn,.ds (Ab Bi l),.i .i64 c7] (.b (V8 doc tn l c7)):=by
 have key:∀p:Pk,FO p.picks->∀tn c7 hp m,Ae prog 48 hp m [B9 doc,.s tn,.ds (Ab Bi p.picks),.i .i64 c7] (.b (V8 doc tn p.picks c7)):=fun p=>Pk.ind (Q:=fun p=>FO p.picks->∀tn c7 hp m,Ae prog 48 hp m [B9 doc,.s tn,.ds (Ab Bi p.picks),.i .i64 c7] (.b (V8 doc tn p.picks c7))) (fun v ih hv tn c7 hp m=>by
  refine M1 doc hd hk v.picks hv tn c7 (fun p hp Am m'=>?_) hp m
  rw [QW]
  exact ih p hp (hv.x p hp) p.tn _ Am m') p
 refine M1 doc hd hk l hl tn c7 (fun p hp Am m'=>?_) hp m
 rw [QW]
 exact key p (hl.x p hp) p.tn _ Am m'
def rgB (doc:List Av) (k:Int) (l:List Pk):Bool :=
 if (Ay doc (Gi k)).isSome=true∧((Ay doc (Gi k)).getD DJ).k=1∧(A5 l:Int)<=2048 then V8 doc ((Ay doc (Gi k)).getD DJ).n l 1 else false
abbrev plx (k:Int) (l:List Pk):AV:=.ag [.i .i64 k,.ds (Ab Bi l)]
theorem QC (doc:List Av) (hd:DocB doc) (hk:DocOk doc) (k:Int) (l:List Pk) (hl:FO l) (hw:A5 l<=1000000000000) (hp:CH) (m:Nat):Ae prog 24 hp m [B9 doc,plx k l] (.b (rgB doc k l)):=by
 have GB:=hd.l
 have hRo:=IH k
 have hF:=BW doc (by omega) (Gi k)
 unfold Eh at hF
 obtain ⟨R,hR⟩:=A7 (rgB doc k l)
 rw [hR]
 unfold rgB at hR
 obtain ⟨rs,HG⟩:=A7 (Gi k)
 rw [HG] at hRo hF hR
 obtain ⟨t,ht⟩:=A7 ((Ay doc rs).getD DJ)
 obtain ⟨tb,htb⟩:=A7 ((Ay doc rs).isSome)
 rw [ht,htb] at hF hR
 have hC:=QM l hw
 have hL:=TF doc hd hk l hl t.n 1
 obtain ⟨b,hb⟩:=A7 (V8 doc t.n l 1)
 rw [hb] at hL hR
 obtain ⟨c,hc⟩:∃c:Int,(A5 l:Int)=c:=⟨_,rfl⟩
 rw [hc] at hC hR
 refine Al func24 (tA cc24) (tB cc24) (tC cc24) rfl fun hf=>?_;unfold ck24
 simp (disch:=omega) only [go_sem]
 refine Au.f (fun _ _ _=>hRo _ _) ?_
 simp (disch:=omega) only [go_sem]
 refine Au.f (fun _ _ _=>hF _ _) ?_
 simp (disch:=omega) only [go_sem]
 refine AH.f (fun _=>hC _ _) ?_
 simp (disch:=omega) only [go_sem]
 refine AH.f (fun _=>hL _ _) ?_
 simp (disch:=omega) only [go_sem]
 subst hR
 by_cases c1:tb=true∧t.k=1∧c<=2048
 .rw [iP c1]
  simp [c1]
 .rw [iN c1]
  congr 2
  rw [Bool.and_eq_false_iff]
  refine .inl ?_
  cases tb
  .rfl
  .simp at c1 ⊢
   exact c1
structure DocR (doc:List Av):Prop where
 ok:DocOk doc
 r:∀t∈doc,DfnR t
 f:∀t∈doc,t.fields.length<=1000000000000
def drB (doc:List Av):Bool:=decide (1<=doc.length)&&(decide (doc.length<=64)&&doc.all Y1)
def Qn (doc:List Av) (k:Int) (l:List Pk) (v:Ag):Bool :=
 !Pc doc&&!Q6 l 8&&decide (Vm v<=400)&&drB doc&&decide (((Pt doc).length:Int)=0)&&rgB doc k l&&decide (v.k=6)&&(AB v sT).isSome&&decide (((AB v sT).getD A8).k=3)&&decide (((AB v sT).getD A8).s=Gi k)
theorem Abl (doc:List Av) (hd:DocR doc) (k:Int) (l:List Pk) (hl:FO l) (hw:A5 l<=1000000000000) (v:Ag) (hv:v.Fit) (hp:CH) (m:Nat):Ae prog 6 hp m [B9 doc,plx k l,vx v] (.b (Qn doc k l v)):=by
 have hG:=J8 v hv sT
 have hLg:=Rr doc hd.ok.len hd.f
 have hLp:=Adn l hw 8
 have hSz:=Nt v hv
 have hDr:=TZ doc hd.ok.len hd.r
 have hSc:=fun hb:DocB doc=>UU doc hb hd.ok
 have hRg:=fun hb:DocB doc=>QC doc hb hd.ok k l hl hw
 have hRo:=IH k
 have hDB:drB doc=true->DocB doc:=fun h=>YR hd.r h
 obtain ⟨R,hR⟩:=A7 (Qn doc k l v)
 rw [hR]
 unfold Qn at hR
 have hDr:∀(hp:CH) (m:Nat),Ae prog 22 hp m [B9 doc] (.b (drB doc)):=hDr
 obtain ⟨b1,x9⟩:=A7 (Pc doc)
 obtain ⟨b2,ED⟩:=A7 (Q6 l 8)
 obtain ⟨b3,hb3⟩:=A7 (Vm v)
 obtain ⟨b4,hb4⟩:=A7 (drB doc)
 obtain ⟨S,hS⟩:=A7 (Pt doc)
 obtain ⟨b6,hb6⟩:=A7 (rgB doc k l)
 obtain ⟨g,hg⟩:=A7 (AB v sT)
 obtain ⟨rs,HG⟩:=A7 (Gi k)
 simp only [x9] at hLg hR
 simp only [ED] at hLp hR
 simp only [hb3] at hSz hR
 simp only [hb4] at hDr hR hDB
 simp only [hS] at hSc hR
 simp only [hb6] at hRg hR
 simp only [hg] at hG hR
 simp only [HG] at hRo hR
 unfold Nc at hG
 have x8:(Ab AM S).length=S.length:=As _ _
 refine Al func6 (tA cc6) (tB cc6) (tC cc6) rfl fun hf=>?_;unfold ck6
 simp (disch:=omega) only [go_sem]
 refine Ac.f (hG _ _) ?_
 simp (disch:=omega) only [go_sem]
 refine Au.f (fun _ _ _=>hLg _ _) ?_
 simp (disch:=omega) only [go_sem]
 refine AJ.f (fun _ _ _=>hLp _ _) ?_
 simp (disch:=omega) only [go_sem]
 refine AJ.f (fun _ _ _=>hSz _ _) ?_
 simp (disch:=omega) only [go_sem]
 refine AJ.f (fun _ _ _=>hDr _ _) ?_
 cases b4 with
 |false=>
  simp (disch:=omega) only [go_sem]
  refine AJ.no ?_
  simp (disch:=omega) only [go_sem]
  refine AJ.no ?_
  simp (disch:=omega) only [go_sem]
  refine AJ.no ?_
  simp (disch:=omega) only [go_sem]
  rw [<-hR]
  simp
 |true=>
  replace hSc:=hSc (hDB rfl)
  replace hRg:=hRg (hDB rfl)
  simp (disch:=omega) only [go_sem]
  refine AJ.f (fun _ _ _=>hSc _ _) ?_
  simp (disch:=omega) only [x8,go_sem]
  refine AJ.f (fun _ _ _=>hRg _ _) ?_
  simp (disch:=omega) only [go_sem]
  refine AJ.f (fun _ _ _=>hRo _ _) ?_
  simp (disch:=omega) only [go_sem]
  rw [<-hR,Bool.and_true]
  try rfl
theorem SD {p:Pk} {l:List Pk} {q:Pk} (h:Kg p (l++[q])=false):Kg p l=false∧¬(q.on=p.on∧q.key=p.key):=by
 unfold Kg at h ⊢
 rw [List.any_append] at h
 obtain ⟨h1,h2⟩:=Bool.or_eq_false_iff.1 h
 refine ⟨h1,fun e=>?_⟩
 simp [e.1,e.2] at h2
theorem SR (doc:List Av) (T:List qB) (c7:Int):∀(L:List (Pk×Bool)) (seen:List Pk) (r9:Int),Qr doc T c7 L seen r9=true ->
 (∀x∈L,pkB doc x.1=true∧x.2=true∧Kg x.1 seen=false)∧∀(i j:Nat) p q,i<j->(L.map (·.1))[i]?=some p->(L.map (·.1))[j]?=some q->¬(p.on=q.on∧p.key=q.key)
 | [],seen,r9,_=>⟨fun x hx=>absurd hx (by simp),fun i j p q _ hp=>by simp at hp⟩
 | (p,b)::r,seen,r9,h=>by
  rw [Qr] at h
  split at h
  .cases h
  rename_i c1
  split at h
  .cases h
  rename_i c2
  obtain ⟨h1,h2⟩:=SR doc T c7 r _ _ h
  refine ⟨fun x hx=>?_,?_⟩
  .rcases List.mem_cons.1 hx with rfl | hx
   .refine ⟨?_,?_,by simpa using c2⟩
    .exact eq_true_of_ne_false fun e=>c1 (.inr (.inr (.inl e)))
    .exact eq_true_of_ne_false fun e=>c1 (.inr (.inr (.inr e)))
   .obtain ⟨a1,a2,a3⟩:=h1 x hx
    exact ⟨a1,a2,(SD a3).1⟩
  .rw [List.map_cons]
   refine S7 (fun q hq=>?_) h2
   obtain ⟨x,hx,rfl⟩:=List.mem_map.1 hq
   exact (SD (h1 x hx).2.2).2
theorem Aez {doc:List Av} {p:Pk} (h:pkB doc p=true):-1<=p.initial∧p.key≠sT∧(0<=p.initial->Ca p.tw=true):=by
 unfold pkB at h
 split at h
 .cases h
 rename_i c1
 split at h
 .cases h
 rename_i c2
 refine ⟨by omega,fun e=>c2 (.inr ⟨by rw [e];decide,.inl (by rw [e];decide)⟩),fun h0=>?_⟩
 exact eq_true_of_ne_false fun e=>c1 (.inr ⟨h0,e⟩)
theorem Xq (doc:List Av) (tn:qB) (l:List Pk) (c7:Int) (H:∀p∈l,∀lv,Y5 doc p lv=true->HC p.picks) (h:V8 doc tn l c7=true):HC l:=by
 unfold V8 at h
 rw [Aas] at h
 obtain ⟨h1,h2⟩:=SR doc _ c7 _ _ _ h
 rw [List.map_map] at h2
 have e:List.map ((fun x=>x.1) ∘ fun p=>(p,Y5 doc p c7)) l=l:=List.map_id' l
 rw [e] at h2
 refine .mk l h2 (fun p hp=>Aez (h1 _ (zls hp)).1) fun p hp=>H p hp c7 (h1 _ (zls hp)).2.1
theorem Aal (doc:List Av) (p:Pk):∀lv,Y5 doc p lv=true->HC p.picks :=
 Pk.ind (Q:=fun p=>∀lv,Y5 doc p lv=true->HC p.picks) (fun p ih lv h=>by
  rw [QW] at h
  exact Xq doc _ _ _ (fun q hq lv h=>ih q hq lv h) h) p
theorem Aed {doc:List Av} {k:Int} {l:List Pk} (h:rgB doc k l=true):HC l∧A5 l<=2048:=by
 unfold rgB at h
 split at h
 .rename_i c
  exact ⟨Xq doc _ _ _ (fun p _=>Aal doc p) h,by have:=c.2.2;omega⟩
 .cases h
def An1 (p:DM):Prop:=p.p.length<=1000000000000∧(∀x∈p.p,x.Fit)∧p.d.Fit∧Ah2 p.q
def Tm (l:List DM):Prop:=∀p∈l,An1 p
theorem Tm.app {l m:List DM} (h1:Tm l) (h2:Tm m):Tm (l++m):=fun p hp=>by
 rcases List.mem_append.1 hp with h | h
 .exact h1 p h
 .exact h2 p h
set_option maxHeartbeats 2000000
section
variable {doc:List Av} {l:List Pk} {v:Ag} {α:AV} {L:List AV}
structure SpIn (doc:List Av) (l:List Pk) (v:Ag):Prop where
 d:DocR doc
 r:FO l
 p:BQ l
 w:A5 l<=1000000000000
 vf:v.Fit
 vr:v.Rng
 vw:AE v<=4000000
theorem TD {k:Int} (h:Qn doc k l v=true):rgB doc k l=true∧v.k=6∧(AB v sT).isSome=true∧((AB v sT).getD A8).s=Gi k:=by
 unfold Qn at h
 simp only [zd,decide_eq_true_eq] at h
 exact ⟨h.1.1.1.1.2,h.1.1.1.2,h.1.1.2,h.2⟩
theorem SpIn.sz (h:SpIn doc l v) (hk:A5 l<=2048):Sz l v :=
 ⟨h.p,h.vr,by have:=h.vw;omega,by
  have h1:=h.vw
  have h2:AE v*(1+A5 l)<=4000000*2049:=Nat.mul_le_mul h1 (by omega)
  omega⟩
theorem ZP {root:qB} (hw:AE v<=4000000) (hk:A5 l<=2048):(Ha doc root l v).2.2.length<=100000000000:=by
 unfold Ha
 dsimp only
 split
 .refine Nat.le_trans (Wu doc l _ _ _) ?_
  exact Nat.le_trans (Nat.mul_le_mul hw hk) (by decide)
 .simp
theorem Ade (x:Cr) (h:Fy prog 92 (Bu x)):x.tw=Ab D2 (IX x.tw):=by
 obtain ⟨parts,e0,hl,hp⟩:=Bh underlying92 h
 obtain ⟨a,b,c,d,rfl⟩:=Ace (show parts.length=4 from hl)
 obtain ⟨a,rfl,_⟩:=AX underlying9 (hp 0 _ a rfl rfl)
 obtain ⟨l,rfl,_,hx⟩:=AL underlying88 (hp 1 _ b rfl rfl)
 obtain ⟨ts,rfl,Gh,DX⟩:=Bh underlying64 (hp 2 _ c rfl rfl)
 obtain ⟨t,u,rfl⟩:=HN (show ts.length=2 from Gh)
 obtain ⟨t,rfl,_⟩:=AX underlying9 (DX 0 _ t rfl rfl)
 obtain ⟨w,rfl,_,hy⟩:=AL underlying62 (DX 1 _ u rfl rfl)
 obtain ⟨ws,rfl,_⟩:=EM (c:=D2) fun x h=>by
  obtain ⟨n,rfl,_⟩:=CM underlying3 (hy x h)
  exact ⟨n,rfl⟩
 obtain ⟨l2,rfl,_,hz⟩:=AL underlying85 (hp 3 _ d rfl rfl)
 simp only [Bu,zlt,z1w,List.cons_append,List.nil_append,List.cons.injEq,AV.ds.injEq,true_and,and_true] at e0
 obtain ⟨_,_,_,e,_⟩:=e0
 rw [e,Aex]
theorem Aeb (t:Av) (h:Fy prog 90 (BB t)):∀f∈t.fields,f.tw=Ab D2 (IX f.tw):=by
 obtain ⟨parts,e0,hl,hp⟩:=Bh underlying90 h
 match parts,hl,hp,e0 with
 | [a,b,c,d,e,f,g],_,hp,e0=>
  obtain ⟨a,rfl,_⟩:=CM underlying3 (hp 0 _ a rfl rfl)
  obtain ⟨b,rfl,_⟩:=AX underlying9 (hp 1 _ b rfl rfl)
  obtain ⟨c,rfl,_,hc⟩:=AL underlying29 (hp 2 _ c rfl rfl)
  obtain ⟨d,rfl,_,hdd⟩:=AL underlying85 (hp 3 _ d rfl rfl)
  obtain ⟨l,rfl,_,hx⟩:=AL underlying86 (hp 4 _ e rfl rfl)
  obtain ⟨f,rfl,_,hm⟩:=AL underlying87 (hp 5 _ f rfl rfl)
  obtain ⟨g,rfl,_,hi⟩:=AL underlying88 (hp 6 _ g rfl rfl)
  simp only [BB,zlt,z1w,List.cons_append,List.nil_append,List.cons.injEq,AV.ds.injEq,true_and,and_true] at e0
  have e1:Ab Bu t.fields=l:=e0.2.2.2.2.1
  intro x hx'
  exact Ade x (hx _ (by rw [<-e1];exact zls (f:=Bu) hx'))
theorem Rt (h:AS prog 24 α) (hb:ET α<=1048576):∃doc,α=B9 doc∧DocR doc:=by
 obtain ⟨L,rfl,h2⟩:=I3 underlying24 h
 obtain ⟨ts,rfl,Gh,DX⟩:=Bh underlying24 h2
 match ts,Gh,DX,hb with
 | [t],_,DX,hb=>
  obtain ⟨t,rfl,_,ht⟩:=AL underlying22 (DX 0 _ t rfl rfl)
  simp only [zlt,z1w,CL,BO,ET] at hb
  obtain ⟨doc,rfl,EA⟩:=CV (c:=BB) (Q:=DfnQ) fun x h=>Ww (ht x h) (by have:=Cn h;omega)
  have h1:=Bp Zw doc
  refine ⟨doc,rfl,⟨⟨fun t ht=>(EA t ht).ok,fun t ht=>(EA t ht).im,fun t ht=>(EA t ht).me,by omega⟩,fun t h=>⟨(EA t h).ok,(EA t h).im,(EA t h).me,(EA t h).w,Aeb t (ht _ (zls (f:=BB) h))⟩,fun t h=>by have:=(EA t h).w.fl;omega⟩⟩
theorem VG (h:Fy prog 156 L) (hb:BO L<=1048576):∃x:GS,L=B7 x∧x.v.Fit∧x.v.Rng:=by
 obtain ⟨parts,rfl,hl,hp⟩:=Bh underlying156 h
 obtain ⟨a,b,rfl⟩:=HN (show parts.length=2 from hl)
 obtain ⟨a,rfl,_⟩:=AX underlying9 (hp 0 _ a rfl rfl)
 simp only [zlt,z1w,CL,BO,ET] at hb
 obtain ⟨v,rfl,hv⟩:=HV (hp 1 _ b rfl rfl) (by omega)
 refine ⟨.mk a v,?_,hv.f,hv.r⟩
 rw [B3]
 rfl
structure PkQ (p:Pk):Prop where
 i:-9223372036854775808<=p.initial∧p.initial<=9223372036854775807
 t:p.tw.length<=1000000000
 a:p.args.length<=1000000000
 r:PD p.args
 x:FO p.picks
 f:BQ p.picks
theorem W9 {ps:List Pk} (hl:ps.length<=1000000000) (h:∀p∈ps,PkQ p):FO ps∧BQ ps :=
 ⟨.mk _ hl (fun p hp=>⟨(h p hp).i,(h p hp).t,(h p hp).a,(h p hp).r⟩) fun p hp=>(h p hp).x,.mk _ hl (fun p hp=>by have:=(h p hp).t;omega) fun p hp=>(h p hp).f⟩
theorem Y8 (h:Fy prog 66 L) (hb:BO L<=1048576):∃x:Pk,L=Bi x∧PkQ x:=by
 suffices key:∀(n:Nat) (L:List AV),BO L<=n->BO L<=1048576->Fy prog 66 L->∃x:Pk,L=Bi x∧PkQ x from key _ L (Nat.le_refl _) hb h
 intro n
 induction n with
 |zero=>
  intro L hn hb h
  obtain ⟨parts,rfl,hl,hp⟩:=Bh underlying66 h
  match parts,hl,hp,hn with
  |a::r,_,hp,hn=>
   obtain ⟨a,rfl,_⟩:=AX underlying9 (hp 0 _ a rfl rfl)
   simp [BO,ET] at hn
 |succ n ih=>
  intro L hn hb h
  obtain ⟨parts,rfl,hl,hp⟩:=Bh underlying66 h
  match parts,hl,hp,hn,hb with
  | [a,b,c,d,e,f,g,i],_,hp,hn,hb=>
   obtain ⟨a,rfl,_⟩:=AX underlying9 (hp 0 _ a rfl rfl)
   obtain ⟨b,rfl,_⟩:=AX underlying9 (hp 1 _ b rfl rfl)
   obtain ⟨c,rfl,_⟩:=AX underlying9 (hp 2 _ c rfl rfl)
   obtain ⟨l,rfl,_,hx⟩:=AL underlying61 (hp 3 _ d rfl rfl)
   obtain ⟨ts,rfl,Gh,DX⟩:=Bh underlying64 (hp 4 _ e rfl rfl)
   obtain ⟨t,u,rfl⟩:=HN (show ts.length=2 from Gh)
   obtain ⟨t,rfl,_⟩:=AX underlying9 (DX 0 _ t rfl rfl)
   obtain ⟨w,rfl,_,hy⟩:=AL underlying62 (DX 1 _ u rfl rfl)
   obtain ⟨ws,rfl,_⟩:=EM (c:=D2) fun x h=>by
    obtain ⟨n,rfl,_⟩:=CM underlying3 (hy x h)
    exact ⟨n,rfl⟩
   obtain ⟨f,rfl,_⟩:=AX underlying9 (hp 5 _ f rfl rfl)
   obtain ⟨g,rfl,hg⟩:=CM underlying3 (hp 6 _ g rfl rfl)
   obtain ⟨p,rfl,_,hz⟩:=AL underlying25 (hp 7 _ i rfl rfl)
   simp only [zlt,z1w,CL,BO,ET] at hb hn
   obtain ⟨al,rfl,ha⟩:=CV (c:=B7) (Q:=fun a=>a.v.Fit∧a.v.Rng) fun x h=>VG (hx x h) (by have:=Cn h;omega)
   obtain ⟨ps,rfl,hps⟩:=CV (c:=Bi) (Q:=PkQ) fun x h=>ih x (by have:=Cn h;omega) (by have:=Cn h;omega) (hz x h)
   have h2:=Bp SE ps
   have h3:=Bp N6 ws
   have h4:=Bp Oc al
   obtain ⟨q1,q2⟩:=W9 (by omega) hps
   exact ⟨.mk a b c al t ws f g ps,by rw [Ch];rfl,⟨by simpa only [Pk.initial] using Ahx hg,by simp only [Pk.tw];omega,by simp only [Pk.args];omega,ha,q1,q2⟩⟩
theorem Od (h:AS prog 27 α) (hb:ET α<=1048576):∃k l,α=plx k l∧FO l∧BQ l∧A5 l<=1048576:=by
 obtain ⟨L,rfl,h2⟩:=I3 underlying27 h
 obtain ⟨parts,rfl,hl,hp⟩:=Bh underlying27 h2
 obtain ⟨a,b,rfl⟩:=HN (show parts.length=2 from hl)
 obtain ⟨a,rfl,_⟩:=CM underlying3 (hp 0 _ a rfl rfl)
 obtain ⟨l,rfl,_,hx⟩:=AL underlying25 (hp 1 _ b rfl rfl)
 simp only [zlt,z1w,CL,BO,ET] at hb
 obtain ⟨ps,rfl,hps⟩:=CV (c:=Bi) (Q:=PkQ) fun x h=>Y8 (hx x h) (by have:=Cn h;omega)
 have h1:=Bp SE ps
 have h3:=Ael ps
 obtain ⟨q1,q2⟩:=W9 (by omega) hps
 exact ⟨a,ps,rfl,q1,q2,by omega⟩
theorem Uo {α1 α2 α3:AV} (h1:AS prog 24 α1) (h2:AS prog 27 α2) (h3:AS prog 31 α3) (x9:ET α1<=1048576) (ED:ET α2<=1048576) (hb3:ET α3<=1048576) :
 ∃doc k l v,α1=B9 doc∧α2=plx k l∧α3=vx v∧SpIn doc l v:=by
 obtain ⟨doc,rfl,hd⟩:=Rt h1 x9
 obtain ⟨k,l,rfl,p1,p2,p3⟩:=Od h2 ED
 obtain ⟨v,rfl,hv⟩:=QZ h3 hb3
 exact ⟨doc,k,l,v,rfl,rfl,rfl,⟨hd,p1,p2,by omega,hv.f,hv.r,by have:=hv.w;omega⟩⟩
end
