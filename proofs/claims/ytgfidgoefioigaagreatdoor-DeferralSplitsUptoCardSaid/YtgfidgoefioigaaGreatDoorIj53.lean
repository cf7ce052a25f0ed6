/- Proof. Conditions: none. -/
import Derived.Test.YtgfidgoefioigaaGreatDoorIj52
noncomputable section
open List renaming drop_succ_cons->za,drop_zero->ze,take_succ_cons->z7,getD_cons_zero->zk,getD_cons_succ->zo,mem_append->z1k,mem_of_mem_drop->z4k,flatten_nil->z1u
open Option renaming isSome_none->zn,getD_some->zc,isSome_some->zb,map_some->z8,map_none->zr
open Bool renaming and_eq_true->zj,not_true->zp,not_false->zi
open Go.Proofs.Tryz
open List renaming length_cons->zlc,length_nil->zle,take_zero->zlr,mem_map_of_mem->zls,flatten_cons->zlt
open Nat renaming le_refl->zna
namespace Go.Proofs.YtgfidgoefioigaaGreatDoor
open Go.Eng
set_option linter.all false
set_option maxRecDepth 20000
set_option maxHeartbeats 1000000
section
variable {q:Pk} {doc:List Aw} {v:Ag} {f:PF}
theorem Yd (l:List qB) (k:qB) (hl:l.length<=1000000000000) (hp:CH) (m:Nat):Af prog 91 hp m [.ds (Bd l),.s k] (.i .i64 (ix k l 0)):=by
 refine Aj func91 (tA cc91) (tB cc91) (tC cc91) rfl fun hf=>?_;unfold ck91
 simp only [go_sem]
 refine loop (fun p:Nat×Nat=>⟨[(0,.ds (Bd l)),(1,.s k),(5,.i .i64 p.1)],hp,p.2⟩) (fun p=>p.1<=l.length∧ix k l 0=ix k (l.drop p.1) p.1) (fun p=>l.length - p.1) (0,m) ?_ ?_ (fun ⟨j,n⟩ hj=>?_)
 .exact ⟨by simp,rfl⟩
 .refine Di ?_
  simp only [go_sem]
 dsimp only at hj
 simp only [go_sem]
 refine Ae (fun d=>?_) (fun d=>?_)
 .have d:j<l.length:=by simpa using d
  obtain ⟨x,ex⟩:∃x,l[j]?=some x:=⟨l[j],by simp [d]⟩
  have e:=A2 ex
  rw [e,ix] at hj
  simp only [d,Ad (Aa Cz ex),go_sem]
  refine Ae (fun c1=>?_) (fun c1=>?_)
  .have c1:k=x:=by simp at c1;exact c1.symm
   rw [iP c1] at hj
   rw [hj.2]
   simp only [go_sem]
  .have c1:¬k=x:=by simp at c1;exact fun e=>c1 e.symm
   rw [iN c1] at hj
   simp only [go_sem]
   refine ⟨(j+1,n),by dsimp only;omega,by dsimp only;omega,Di ?_⟩
   simp only [Ap j (by omega),go_sem]
 .have d:j=l.length:=by simp at d;omega
  subst d
  rw [List.drop_length,ix] at hj
  rw [hj.2]
  simp only [go_sem]
theorem Pd (hp:CH) (m:Nat):Af prog 140 hp m [] (D1 BF [1]):=by
 refine Aj func140 (tA cc140) (tB cc140) (tC cc140) rfl fun hf=>?_;unfold ck140
 simp (disch:=omega) only [go_sem]
 rfl
def Sl:qB:=⟨#[95,95,116,121,112,101,110,97,109,101]⟩
def pkB (doc:List Aw) (p:Pk):Bool :=
 if p.initial < -1∨(0<=p.initial∧Cu p.tw=false) then false
 else if Gb p.key=false∨(ZT p.key=true∧(¬p.key=Sl∨¬p.name=Sl)) then false
 else if p.name=Sl then Ml p.tn p.tw BF [1]&&(decide (p.args.length=0)&&decide (p.picks.length=0))
 else match D3 ((Az doc p.on).getD Dz).fields p.name with
  |none=>false
  |some f=>if Ml f.tn (J0 f.tw) p.tn p.tw=true∧LR doc (Bm f.args) p.args=true then (decide (p.picks.length=0)||!Ex doc p.tn) else false
theorem Va (doc:List Aw) (hd:DocB doc) (p:Pk) (hi:-9223372036854775808<=p.initial∧p.initial<=9223372036854775807) (DG:p.tw.length<=1000000000) (hl:p.args.length<=1000000000) (hr:Qe p.args) (FM:p.picks.length<=1000000000) (hp:CH) (m:Nat):Af prog 92 hp m [B0 doc,pkx p] (.b (pkB doc p)):=by
 have G0:=hd.l
 have hL:=KF p.tn p.tw (by omega)
 have hN:=BW p.key
 have hV:=JK p.key
 have hT:=Pd
 have hS:=GY p.tn BF p.tw [1] (by omega) (by simp)
 have hF:=BI doc (by omega) p.on
 have hLf:=Io doc (by omega) p.tn
 obtain ⟨hx1,GX⟩:=NL hd p.on
 obtain ⟨RR,A9⟩:=A5 (pkB doc p)
 rw [A9]
 unfold pkB at A9
 obtain ⟨lw,hlw⟩:=A5 (Cu p.tw)
 obtain ⟨kn,Bz⟩:=A5 (Gb p.key)
 obtain ⟨kr,hkr⟩:=A5 (ZT p.key)
 rw [hlw] at hL A9
 rw [Bz] at hN A9
 rw [hkr] at hV A9
 refine Aj func92 (tA cc92) (tB cc92) (tC cc92) rfl fun hf=>?_;unfold ck92
 simp (disch:=omega) only [go_sem]
 refine AH.f (fun _=>hL _ _) ?_
 simp (disch:=omega) only [go_sem]
 refine Ae (fun c=>?_) (fun c=>?_)
 .rw [iP (by simpa using c)] at A9
  subst A9
  simp (disch:=omega) only [go_sem]
 rw [iN (by simpa using c)] at A9
 clear c
 simp (disch:=omega) only [go_sem]
 refine Ac.f (hN _ _) ?_
 simp (disch:=omega) only [go_sem]
 refine AH.f (fun _=>hV _ _) ?_
 simp (disch:=omega) only [go_sem]
 refine Ae (fun c=>?_) (fun c=>?_)
 .rw [iP (by simpa only [Sl,Bool.or_eq_true,zj,Bool.not_eq_true',decide_eq_false_iff_not] using c)] at A9
  subst A9
  simp (disch:=omega) only [go_sem]
 rw [iN (fun h=>by rw [show (!kn||kr&&(!decide (p.key={ data:=#[95,95,116,121,112,101,110,97,109,101] })||!decide (p.name={ data:=#[95,95,116,121,112,101,110,97,109,101] })))=true by simpa only [Sl,Bool.or_eq_true,zj,Bool.not_eq_true',decide_eq_false_iff_not] using h] at c;cases c)] at A9
 clear c
 simp (disch:=omega) only [go_sem]
 refine Ae (fun c=>?_) (fun c=>?_)
 .rw [iP (by simpa [Sl] using c)] at A9
  simp (disch:=omega) only [go_sem]
  refine Aq.f (fun _ _ _=>hT _ _) ?_
  simp (disch:=omega) only [go_sem]
  refine Aq.f (fun _ _ _=>hS _ _) ?_
  simp (disch:=omega) only [go_sem]
  subst A9
  simp [Bool.and_assoc]
 rw [iN (by simpa [Sl] using c)] at A9
 clear c
 simp (disch:=omega) only [go_sem]
 obtain ⟨t,ht⟩:=A5 ((Az doc p.on).getD Dz)
 unfold Eh at hF
 rw [ht] at hF hx1 GX A9
 obtain ⟨tb,htb⟩:=A5 ((Az doc p.on).isSome)
 rw [htb] at hF
 refine Ac.f (hF _ _) ?_
 have hFo:=No t (by omega) p.name
 unfold R1 at hFo
 simp (disch:=omega) only [go_sem]
 refine Ac.f (hFo _ _) ?_
 cases hX:D3 t.fields p.name with
 |none=>
  rw [hX] at A9
  dsimp only at A9
  subst A9
  simp (disch:=omega) only [zn,go_sem]
  refine BL ?_
  simp (disch:=omega) only [go_sem]
  refine BL ?_
  simp (disch:=omega) only [go_sem]
 |some f=>
  rw [hX] at A9
  dsimp only at A9
  have QU:=GX f (List.mem_of_find?_eq_some hX)
  obtain ⟨fa1,fa2,fa3⟩:=BO QU.a
  have hSf:=GY f.tn p.tn (J0 f.tw) p.tw (by rw [IB];have:=QU.tl;omega) (by omega)
  simp only [D1] at hSf
  rw [<-QU.tw] at hSf
  have hA:=Us doc hd (Bm f.args) fa2 fa3 p.args hl hr
  rw [<-fa1] at hA
  obtain ⟨b1,VB⟩:=A5 (Ml f.tn (J0 f.tw) p.tn p.tw)
  obtain ⟨b2,ER⟩:=A5 (LR doc (Bm f.args) p.args)
  obtain ⟨b3,hb3⟩:=A5 (Ex doc p.tn)
  rw [VB] at hSf A9
  rw [ER] at hA A9
  rw [hb3] at hLf A9
  simp only [zc,flx]
  simp (disch:=omega) only [zb,go_sem]
  refine AH.f (fun _=>hSf _ _) ?_
  simp (disch:=omega) only [go_sem]
  refine AH.f (fun _=>hA _ _) ?_
  simp (disch:=omega) only [go_sem]
  refine Ae (fun c=>?_) (fun c=>?_)
  .rw [iN (fun h=>by rw [h.1,h.2] at c;cases c)] at A9
   subst A9
   simp (disch:=omega) only [go_sem]
  rw [iP (by simpa using c)] at A9
  simp (disch:=omega) only [go_sem]
  refine AH.f (fun _=>hLf _ _) ?_
  simp (disch:=omega) only [go_sem]
  subst A9
  simp
inductive Gg:List Pk->Prop
 | mk (l:List Pk):l.length<=1000000000->(∀p∈l,(-9223372036854775808<=p.initial∧p.initial<=9223372036854775807)∧p.tw.length<=1000000000∧p.args.length<=1000000000∧Qe p.args)->(∀p∈l,Gg p.picks)->Gg l
theorem Gg.l {l:List Pk}:Gg l->l.length<=1000000000 | .mk _ h _ _=>h
theorem Gg.p {l:List Pk}:Gg l->∀p∈l,(-9223372036854775808<=p.initial∧p.initial<=9223372036854775807)∧p.tw.length<=1000000000∧p.args.length<=1000000000∧Qe p.args | .mk _ _ h _=>h
theorem Gg.x {l:List Pk}:Gg l->∀p∈l,Gg p.picks | .mk _ _ _ h=>h
def KO (p:Pk) (l:List Pk):Bool:=l.any fun q=>decide (q.on=p.on)&&decide (q.key=p.key)
def QG (doc:List Aw) (types:List qB) (c6:Int):List (Pk×Bool)->List Pk->Int->Bool
 | [],_,_=>true
 | (p,b)::r,seen,s8=>
  if 24<c6∨ix p.on types 0<s8∨pkB doc p=false∨b=false then false
  else if KO p seen=true then false else QG doc types c6 r (seen++[p]) (ix p.on types 0)
mutual
def YZ (doc:List Aw):Pk->Int->Bool
 | .mk k o n a tn tw l i p,c6=>QG doc (Et doc tn) (IntKind.i64.wrap (c6+1)) (lrL doc p (IntKind.i64.wrap (c6+1))) [] 0
def lrL (doc:List Aw):List Pk->Int->List (Pk×Bool)
 | [],_=>[]
 |p::r,c6=>(p,YZ doc p c6)::lrL doc r c6
end
def Wj (doc:List Aw) (tn:qB) (l:List Pk) (c6:Int):Bool:=QG doc (Et doc tn) c6 (lrL doc l c6) [] 0
theorem Rv (doc:List Aw) (p:Pk) (c6:Int):YZ doc p c6=Wj doc p.tn p.picks (IntKind.i64.wrap (c6+1)):=by cases p;rw [YZ];rfl
theorem Aa9 (doc:List Aw) (l:List Pk) (c6:Int):lrL doc l c6=l.map fun p=>(p,YZ doc p c6):=by
 induction l with
 |nil=>rw [lrL];rfl
 |cons p l ih=>rw [lrL,ih];rfl
theorem Ni (doc:List Aw) (hd:DocB doc) (hk:DocOk doc) (l:List Pk) (hl:Gg l) (tn:qB) (c6:Int) (h:∀p∈l,∀hp m,Af prog 48 hp m [B0 doc,.s p.tn,.ds (Ab AJ p.picks),.i .i64 (IntKind.i64.wrap (c6+1))] (.b (YZ doc p c6))) (hp:CH) (m:Nat):Af prog 48 hp m [B0 doc,.s tn,.ds (Ab AJ l),.i .i64 c6] (.b (Wj doc tn l c6)):=by
 have hll:=hl.l
 have hP:=QC doc hk tn
 have hPl:=LA doc tn
 have G0:=hd.l
 obtain ⟨R,hR⟩:=A5 (Wj doc tn l c6)
 rw [hR]
 unfold Wj at hR
 obtain ⟨T,hT⟩:=A5 (Et doc tn)
 rw [hT] at hP hPl hR
 have hTl:T.length<=1000000000000:=by omega
 refine Aj func48 (tA cc48) (tB cc48) (tC cc48) rfl fun hf=>?_;unfold ck48
 simp (disch:=omega) only [go_sem]
 refine Ac.f (hP _ _) ?_
 simp (disch:=omega) only [go_sem]
 refine loop (fun p:Nat×Int×Nat=>⟨[(2,.ds (Ab AJ l)),(3,.i .i64 c6),(4,.bx m 0),(9,.ds (Bd T)),(10,.i .i64 p.2.1),(11,.i .i64 p.1)],(m,.bx [.ds (Ab B8 doc)])::hp,p.2.2⟩)
  (fun p=>p.1<=l.length∧m+1<=p.2.2∧R=QG doc T c6 (lrL doc (l.drop p.1) c6) (l.take p.1) p.2.1) (fun p=>l.length - p.1) (0,0,m+1) ?_ ?_ (fun ⟨j,s8,n⟩ hj=>?_)
 .exact ⟨by simp,by simp,by simpa using hR.symm⟩
 .refine Gu hf ?_ ?_ ?_ (zna _)
  all_goals (simp (disch:=omega) only [go_sem])
 dsimp only at hj
 obtain ⟨Cg,Bc,As⟩:=hj
 have BC:m<=n:=by omega
 simp (disch:=omega) only [go_sem]
 refine Ae (fun d=>?_) (fun d=>?_)
 case' refine_2=>
  have d:j=l.length:=by simp at d;omega
  subst d
  rw [List.drop_length,lrL,QG] at As
  subst As
  simp (disch:=omega) only [BC,go_sem]
 have d:j<l.length:=by simpa using d
 obtain ⟨x,ex⟩:∃x,l[j]?=some x:=⟨l[j],by simp [d]⟩
 have Jy:=List.mem_of_getElem? ex
 obtain ⟨p1,p2,p3,p4⟩:=hl.p x Jy
 have FM:=(hl.x x Jy).l
 have hx:=h x Jy
 have Ht:=Va doc hd x p1 p2 p3 p4 FM
 rw [A2 ex,lrL,QG] at As
 obtain ⟨b1,VB⟩:=A5 (pkB doc x)
 obtain ⟨b2,ER⟩:=A5 (YZ doc x c6)
 rw [VB] at Ht As
 rw [ER] at hx As
 have eg:(Ab AJ l)[j]?=some (AJ x):=Aa AJ ex
 simp (disch:=omega) only [d,Ad (Aa AJ ex),go_sem]
 refine Ac.f (Yd T x.on hTl _ _) ?_
 obtain ⟨a,ha⟩:=A5 (ix x.on T 0)
 rw [ha] at As
 rw [ha]
 by_cases c1:24<c6∨a<s8
 .rw [iP (by rcases c1 with c | c;exact .inl c;exact .inr (.inl c))] at As
  subst As
  have e1:(decide (24<c6)||decide (a<s8))=true:=by simpa using c1
  simp (disch:=omega) only [d,Ad (Aa AJ ex),eg,e1,zlc,zle,za,ze,z7,zlr,z8,zr,zb,zn,zc,zk,zo,and_self,Bl,true_and,BH,zp,zi,go_sem]
  refine AC.no ?_
  simp (disch:=omega) only [d,Ad (Aa AJ ex),eg,e1,zlc,zle,za,ze,z7,zlr,z8,zr,zb,zn,zc,zk,zo,and_self,Bl,true_and,BH,zp,zi,go_sem]
  refine AC.no ?_
  simp (disch:=omega) only [d,Ad (Aa AJ ex),eg,e1,BC,zlc,zle,za,ze,z7,zlr,z8,zr,zb,zn,zc,zk,zo,and_self,Bl,true_and,BH,zp,zi,go_sem]
 have e1:(decide (24<c6)||decide (a<s8))=false:=by simpa using c1
 simp (disch:=omega) only [d,Ad (Aa AJ ex),eg,e1,zlc,zle,za,ze,z7,zlr,z8,zr,zb,zn,zc,zk,zo,and_self,Bl,true_and,BH,zp,zi,go_sem]
 refine AC.f (fun _ _ _=>Ht _ _) ?_
 cases b1
 .rw [iP (.inr (.inr (.inl rfl)))] at As
  subst As
  simp (disch:=omega) only [d,Ad (Aa AJ ex),eg,e1,zlc,zle,za,ze,z7,zlr,z8,zr,zb,zn,zc,zk,zo,and_self,Bl,true_and,BH,zp,zi,go_sem]
  refine AC.no ?_
  simp (disch:=omega) only [d,Ad (Aa AJ ex),eg,e1,BC,zlc,zle,za,ze,z7,zlr,z8,zr,zb,zn,zc,zk,zo,and_self,Bl,true_and,BH,zp,zi,go_sem]
 simp (disch:=omega) only [d,Ad (Aa AJ ex),eg,e1,zlc,zle,za,ze,z7,zlr,z8,zr,zb,zn,zc,zk,zo,and_self,Bl,true_and,BH,zp,zi,go_sem]
 refine AC.f (fun _ _ _=>hx _ _) ?_
 cases b2
 .rw [iP (.inr (.inr (.inr rfl)))] at As
  subst As
  simp (disch:=omega) only [d,Ad (Aa AJ ex),eg,e1,BC,zlc,zle,za,ze,z7,zlr,z8,zr,zb,zn,zc,zk,zo,and_self,Bl,true_and,BH,zp,zi,go_sem]
 rw [iN (by rintro (h | h | h | h);exact c1 (.inl h);exact c1 (.inr h);cases h;cases h)] at As
 simp (disch:=omega) only [d,Ad (Aa AJ ex),eg,e1,BC,zlc,zle,za,ze,z7,zlr,z8,zr,zb,zn,zc,zk,zo,and_self,Bl,true_and,BH,zp,zi,go_sem]
 refine loop (fun p:Nat×Nat=>⟨[(2,.ds (Ab AJ l)),(3,.i .i64 c6),(4,.bx m 0),(9,.ds (Bd T)),(10,.i .i64 a),(11,.i .i64 j),(13,.i .i64 p.1)],(m,.bx [.ds (Ab B8 doc)])::hp,p.2⟩)
  (fun p=>p.1<=j∧m+1<=p.2∧KO x (l.take p.1)=false) (fun p=>j - p.1) (0,n+100) ?_ ?_ (fun ⟨i,n'⟩ hi=>?_)
 .exact ⟨by simp,by dsimp only;omega,by simp [KO]⟩
 .refine Gu hf ?_ ?_ ?_ (by dsimp only;omega)
  all_goals (simp (disch:=omega) only [go_sem])
 dsimp only at hi
 obtain ⟨LX,HG,Dw⟩:=hi
 have hmn':m<=n':=by omega
 simp (disch:=omega) only [go_sem]
 refine Ae (fun q=>?_) (fun q=>?_)
 .have q:i<j:=by simpa using q
  obtain ⟨y,ey⟩:∃y,l[i]?=some y:=⟨l[i]'(by omega),List.getElem?_eq_getElem (by omega)⟩
  have ey':(Ab AJ l)[i]?=some (AJ y):=Aa AJ ey
  have q2:i<l.length:=by omega
  have Db:KO x (l.take (i+1))=(decide (y.on=x.on)&&decide (y.key=x.key)):=by
   rw [<-AN ey]
   unfold KO at Dw ⊢
   rw [List.any_append,Dw,Bool.false_or]
   simp
  simp (disch:=omega) only [d,q2,Ad (Aa AJ ex),Ad (Aa AJ ey),eg,ey',hmn',zlc,zle,za,ze,z7,zlr,z8,zr,zb,zn,zc,zk,zo,and_self,Bl,true_and,BH,zp,zi,go_sem]
  refine Ae (fun c=>?_) (fun c=>?_)
  .rw [c] at Db
   have:KO x (l.take j)=true:=by
    unfold KO at Db ⊢
    obtain ⟨z,hz,hz2⟩:=List.any_eq_true.1 Db
    refine List.any_eq_true.2 ⟨z,?_,hz2⟩
    exact (List.take_sublist_take_left (by omega:i+1<=j)).subset hz
   rw [iP this] at As
   subst As
   simp (disch:=omega) only [hmn',zlc,zle,za,ze,z7,zlr,z8,zr,zb,zn,zc,zk,zo,and_self,Bl,true_and,BH,zp,zi,go_sem]
  .rw [c] at Db
   simp (disch:=omega) only [go_sem]
   refine ⟨(i+1,n'+50),⟨by dsimp only;omega,by dsimp only;omega,Db⟩,by dsimp only;omega,Gu hf ?_ ?_ ?_ (by dsimp only;omega)⟩
   .simp (disch:=omega) only [Ap i (by omega),go_sem]
   .simp (disch:=omega) only [go_sem]
   .simp (disch:=omega) only [go_sem]
 .have q:i=j:=by simp at q;omega
  subst q
  rw [iN (by rw [Dw];decide)] at As
  simp (disch:=omega) only [go_sem]
  refine ⟨(i+1,a,n'+50),⟨by dsimp only;omega,by dsimp only;omega,?_⟩,by dsimp only;omega,Gu hf ?_ ?_ ?_ (by dsimp only;omega)⟩
  .dsimp only
   rw [<-AN ex]
   exact As
  .simp (disch:=omega) only [Ap i (by omega),go_sem]
  .simp (disch:=omega) only [go_sem]
  .simp (disch:=omega) only [go_sem]
theorem Ug (doc:List Aw) (hd:DocB doc) (hk:DocOk doc) (l:List Pk) (hl:Gg l) (tn:qB) (c6:Int) (hp:CH) (m:Nat):Af prog 48 hp m [B0 doc,.s tn,.ds (Ab AJ l),.i .i64 c6] (.b (Wj doc tn l c6)):=by
 have key:∀p:Pk,Gg p.picks->∀tn c6 hp m,Af prog 48 hp m [B0 doc,.s tn,.ds (Ab AJ p.picks),.i .i64 c6] (.b (Wj doc tn p.picks c6)):=fun p=>Pk.ind (Q:=fun p=>Gg p.picks->∀tn c6 hp m,Af prog 48 hp m [B0 doc,.s tn,.ds (Ab AJ p.picks),.i .i64 c6] (.b (Wj doc tn p.picks c6))) (fun v ih hv tn c6 hp m=>by
  refine Ni doc hd hk v.picks hv tn c6 (fun p hp Al m'=>?_) hp m
  rw [Rv]
  exact ih p hp (hv.x p hp) p.tn _ Al m') p
 refine Ni doc hd hk l hl tn c6 (fun p hp Al m'=>?_) hp m
 rw [Rv]
 exact key p (hl.x p hp) p.tn _ Al m'
def rgB (doc:List Aw) (k:Int) (l:List Pk):Bool :=
 if (Az doc (G3 k)).isSome=true∧((Az doc (G3 k)).getD Dz).k=1∧(AF l:Int)<=2048 then Wj doc ((Az doc (G3 k)).getD Dz).n l 1 else false
abbrev plx (k:Int) (l:List Pk):AV:=.ag [.i .i64 k,.ds (Ab AJ l)]
theorem QW (doc:List Aw) (hd:DocB doc) (hk:DocOk doc) (k:Int) (l:List Pk) (hl:Gg l) (hw:AF l<=1000000000000) (hp:CH) (m:Nat):Af prog 24 hp m [B0 doc,plx k l] (.b (rgB doc k l)):=by
 have G0:=hd.l
 have hRo:=Jm k
 have hF:=BI doc (by omega) (G3 k)
 unfold Eh at hF
 obtain ⟨R,hR⟩:=A5 (rgB doc k l)
 rw [hR]
 unfold rgB at hR
 obtain ⟨rs,Ic⟩:=A5 (G3 k)
 rw [Ic] at hRo hF hR
 obtain ⟨t,ht⟩:=A5 ((Az doc rs).getD Dz)
 obtain ⟨tb,htb⟩:=A5 ((Az doc rs).isSome)
 rw [ht,htb] at hF hR
 have hC:=Rk l hw
 have hL:=Ug doc hd hk l hl t.n 1
 obtain ⟨b,hb⟩:=A5 (Wj doc t.n l 1)
 rw [hb] at hL hR
 obtain ⟨c,hc⟩:∃c:Int,(AF l:Int)=c:=⟨_,rfl⟩
 rw [hc] at hC hR
 refine Aj func24 (tA cc24) (tB cc24) (tC cc24) rfl fun hf=>?_;unfold ck24
 simp (disch:=omega) only [go_sem]
 refine Aq.f (fun _ _ _=>hRo _ _) ?_
 simp (disch:=omega) only [go_sem]
 refine Aq.f (fun _ _ _=>hF _ _) ?_
 simp (disch:=omega) only [go_sem]
 refine AH.f (fun _=>hC _ _) ?_
 simp (disch:=omega) only [go_sem]
 refine AH.f (fun _=>hL _ _) ?_
 simp (disch:=omega) only [go_sem]
 subst hR
 by_cases c1:tb=true∧t.k=1∧c<=2048
 .rw [iP c1]
  simp [c1]
 .rw [iN c1]
  congr 2
  rw [Bool.and_eq_false_iff]
  refine .inl ?_
  cases tb
  .rfl
  .simp at c1 ⊢
   exact c1
structure DocR (doc:List Aw):Prop where
 ok:DocOk doc
 r:∀t∈doc,DfnR t
 f:∀t∈doc,t.fields.length<=1000000000000
def drB (doc:List Aw):Bool:=decide (1<=doc.length)&&(decide (doc.length<=64)&&doc.all YU)
def V3 (doc:List Aw) (k:Int) (l:List Pk) (v:Ag):Bool :=
 !P6 doc&&!QP l 8&&decide (VL v<=400)&&drB doc&&decide (((Xt doc).length:Int)=0)&&rgB doc k l&&decide (v.k=6)&&(AA v sT).isSome&&decide (((AA v sT).getD A6).k=3)&&decide (((AA v sT).getD A6).s=G3 k)
theorem Abw (doc:List Aw) (hd:DocR doc) (k:Int) (l:List Pk) (hl:Gg l) (hw:AF l<=1000000000000) (v:Ag) (hv:v.Fit) (hp:CH) (m:Nat):Af prog 6 hp m [B0 doc,plx k l,vx v] (.b (V3 doc k l v)):=by
 have hG:=DA v hv sT
 have hLg:=RI doc hd.ok.len hd.f
 have hLp:=Ad2 l hw 8
 have hSz:=Oa v hv
 have hDr:=U1 doc hd.ok.len hd.r
 have hSc:=fun hb:DocB doc=>Vx doc hb hd.ok
 have hRg:=fun hb:DocB doc=>QW doc hb hd.ok k l hl hw
 have hRo:=Jm k
 have hDB:drB doc=true->DocB doc:=fun h=>Z1 hd.r h
 obtain ⟨R,hR⟩:=A5 (V3 doc k l v)
 rw [hR]
 unfold V3 at hR
 have hDr:∀(hp:CH) (m:Nat),Af prog 22 hp m [B0 doc] (.b (drB doc)):=hDr
 obtain ⟨b1,VB⟩:=A5 (P6 doc)
 obtain ⟨b2,ER⟩:=A5 (QP l 8)
 obtain ⟨b3,hb3⟩:=A5 (VL v)
 obtain ⟨b4,hb4⟩:=A5 (drB doc)
 obtain ⟨S,hS⟩:=A5 (Xt doc)
 obtain ⟨b6,hb6⟩:=A5 (rgB doc k l)
 obtain ⟨g,hg⟩:=A5 (AA v sT)
 obtain ⟨rs,Ic⟩:=A5 (G3 k)
 simp only [VB] at hLg hR
 simp only [ER] at hLp hR
 simp only [hb3] at hSz hR
 simp only [hb4] at hDr hR hDB
 simp only [hS] at hSc hR
 simp only [hb6] at hRg hR
 simp only [hg] at hG hR
 simp only [Ic] at hRo hR
 unfold KQ at hG
 have hSl:(Ab AR S).length=S.length:=Ao _ _
 refine Aj func6 (tA cc6) (tB cc6) (tC cc6) rfl fun hf=>?_;unfold ck6
 simp (disch:=omega) only [go_sem]
 refine Ac.f (hG _ _) ?_
 simp (disch:=omega) only [go_sem]
 refine Aq.f (fun _ _ _=>hLg _ _) ?_
 simp (disch:=omega) only [go_sem]
 refine AC.f (fun _ _ _=>hLp _ _) ?_
 simp (disch:=omega) only [go_sem]
 refine AC.f (fun _ _ _=>hSz _ _) ?_
 simp (disch:=omega) only [go_sem]
 refine AC.f (fun _ _ _=>hDr _ _) ?_
 cases b4 with
 |false=>
  simp (disch:=omega) only [go_sem]
  refine AC.no ?_
  simp (disch:=omega) only [go_sem]
  refine AC.no ?_
  simp (disch:=omega) only [go_sem]
  refine AC.no ?_
  simp (disch:=omega) only [go_sem]
  rw [<-hR]
  simp
 |true=>
  replace hSc:=hSc (hDB rfl)
  replace hRg:=hRg (hDB rfl)
  simp (disch:=omega) only [go_sem]
  refine AC.f (fun _ _ _=>hSc _ _) ?_
  simp (disch:=omega) only [hSl,go_sem]
  refine AC.f (fun _ _ _=>hRg _ _) ?_
  simp (disch:=omega) only [go_sem]
  refine AC.f (fun _ _ _=>hRo _ _) ?_
  simp (disch:=omega) only [go_sem]
  rw [<-hR,Bool.and_true]
  try rfl
theorem Th {p:Pk} {l:List Pk} (h:KO p (l++[q])=false):KO p l=false∧¬(q.on=p.on∧q.key=p.key):=by
 unfold KO at h ⊢
 rw [List.any_append] at h
 obtain ⟨h1,h2⟩:=Bool.or_eq_false_iff.1 h
 refine ⟨h1,fun e=>?_⟩
 simp [e.1,e.2] at h2
theorem Tx (doc:List Aw) (T:List qB) (c6:Int):∀(L:List (Pk×Bool)) (seen:List Pk) (s8:Int),QG doc T c6 L seen s8=true ->
 (∀x∈L,pkB doc x.1=true∧x.2=true∧KO x.1 seen=false)∧∀(i j:Nat) p q,i<j->(L.map (·.1))[i]?=some p->(L.map (·.1))[j]?=some q->¬(p.on=q.on∧p.key=q.key)
 | [],seen,s8,_=>⟨fun x hx=>absurd hx (by simp),fun i j p q _ hp=>by simp at hp⟩
 | (p,b)::r,seen,s8,h=>by
  rw [QG] at h
  split at h
  .cases h
  rename_i c1
  split at h
  .cases h
  rename_i c2
  obtain ⟨h1,h2⟩:=Tx doc T c6 r _ _ h
  refine ⟨fun x hx=>?_,?_⟩
  .rcases List.mem_cons.1 hx with rfl | hx
   .refine ⟨?_,?_,by simpa using c2⟩
    .exact eq_true_of_ne_false fun e=>c1 (.inr (.inr (.inl e)))
    .exact eq_true_of_ne_false fun e=>c1 (.inr (.inr (.inr e)))
   .obtain ⟨a1,a2,a3⟩:=h1 x hx
    exact ⟨a1,a2,(Th a3).1⟩
  .rw [List.map_cons]
   refine Ta (fun q hq=>?_) h2
   obtain ⟨x,hx,rfl⟩:=List.mem_map.1 hq
   exact (Th (h1 x hx).2.2).2
theorem Afe {p:Pk} (h:pkB doc p=true):-1<=p.initial∧p.key≠sT∧(0<=p.initial->Cu p.tw=true):=by
 unfold pkB at h
 split at h
 .cases h
 rename_i c1
 split at h
 .cases h
 rename_i c2
 refine ⟨by omega,fun e=>c2 (.inr ⟨by rw [e];decide,.inl (by rw [e];decide)⟩),fun h0=>?_⟩
 exact eq_true_of_ne_false fun e=>c1 (.inr ⟨h0,e⟩)
theorem XI (doc:List Aw) (tn:qB) (l:List Pk) (c6:Int) (H:∀p∈l,∀lv,YZ doc p lv=true->HE p.picks) (h:Wj doc tn l c6=true):HE l:=by
 unfold Wj at h
 rw [Aa9] at h
 obtain ⟨h1,h2⟩:=Tx doc _ c6 _ _ _ h
 rw [List.map_map] at h2
 have e:List.map ((fun x=>x.1) ∘ fun p=>(p,YZ doc p c6)) l=l:=List.map_id' l
 rw [e] at h2
 refine .mk l h2 (fun p hp=>Afe (h1 _ (zls hp)).1) fun p hp=>H p hp c6 (h1 _ (zls hp)).2.1
theorem Aa2 (doc:List Aw) (p:Pk):∀lv,YZ doc p lv=true->HE p.picks :=
 Pk.ind (Q:=fun p=>∀lv,YZ doc p lv=true->HE p.picks) (fun p ih lv h=>by
  rw [Rv] at h
  exact XI doc _ _ _ (fun q hq lv h=>ih q hq lv h) h) p
theorem Aeq {k:Int} {l:List Pk} (h:rgB doc k l=true):HE l∧AF l<=2048:=by
 unfold rgB at h
 split at h
 .rename_i c
  exact ⟨XI doc _ _ _ (fun p _=>Aa2 doc p) h,by have:=c.2.2;omega⟩
 .cases h
def Aoc (p:DB):Prop:=p.p.length<=1000000000000∧(∀x∈p.p,x.Fit)∧p.d.Fit∧OR p.q
def EJ (l:List DB):Prop:=∀p∈l,Aoc p
theorem EJ.app {l m:List DB} (h1:EJ l) (h2:EJ m):EJ (l++m):=fun p hp=>by
 rcases z1k.1 hp with h | h
 .exact h1 p h
 .exact h2 p h
theorem Q6 {n:Nat} {Q:Gt} (hQ:VM n Q) (hn:n<=100000000000) (hc:Q.2.length<=1000000000000) {d8:List Ag} (ha:d8.length<=100000000000) (hf:∀x∈d8,x.Fit) (k:Nat):OR (Ef Q.2 d8 k):=by
 unfold Ef
 refine ⟨by rw [List.length_map];exact hc,fun p hp=>?_⟩
 obtain ⟨q,hq,rfl⟩:=List.mem_map.1 hp
 obtain ⟨h1,h2⟩:=hQ.2 q hq
 show (d8++q.p.drop k).length<=_∧∀x∈d8++q.p.drop k,x.Fit
 refine ⟨by rw [List.length_append,List.length_drop];omega,fun x hx=>?_⟩
 rcases z1k.1 hx with h | h
 .exact hf x h
 .exact h2 x (z4k h)
theorem LatF.prf {x c:Ag} (h:LatF doc q v x c) (DG:q.tw.length<=1000000000000) (on:qB) (ini:Int):VM 100000000000 (EW doc on q ini c):=by
 obtain ⟨h1,h2⟩:=h.cnt on ini
 obtain ⟨f1,f2,f3⟩:=h.fits DG on ini
 refine (Im doc (EV [sT,q.key] [CW on,c]) f2 on [] [B5 q ini] [] f1 (by simp)).mono ?_
 rw [zle]
 omega
theorem Pt (f:PF):∀(l ys:List Ag) (j:Nat) (path:List Ag) (p:DB),p∈Dy f l ys j path->∃x∈l,∃(y:Ag) (i:Nat),p∈Cb f x y (path++[Fo (i:Nat)])
 | [],ys,j,path,p,h=>by rw [Dy] at h;cases h
 |x::r,[],j,path,p,h=>by rw [Em] at h;cases h
 |x::r,y::r',j,path,p,h=>by
  rw [Dy] at h
  rcases z1k.1 h with h | h
  .exact ⟨x,by simp,y,j,h⟩
  .obtain ⟨x',hx,y',i,h2⟩:=Pt f r r' _ path p h
   exact ⟨x',by simp [hx],y',i,h2⟩
def PI (f:PF) (l:List Pk):Prop:=∀v d path,Sz l v->v.k=6->path.length+AG v<=1000000000->(∀x∈path,x.Fit)->EJ (f v d path)
theorem N9 {l:List Pk} (hf:PI f l) (raw:Ag):∀d path,Sz l raw->(raw.k=5∨raw.k=6->path.length+AG raw<=1000000000)->(∀x∈path,x.Fit)->EJ (Cb f raw d path):=by
 refine Ag.ind (Q:=fun raw=>∀d path,Sz l raw->(raw.k=5∨raw.k=6->path.length+AG raw<=1000000000)->(∀x∈path,x.Fit)->EJ (Cb f raw d path)) (fun raw ih d path sz hb hp=>?_) raw
 rw [Cq]
 split
 .rename_i c
  intro p h
  obtain ⟨x,hx,y,i,h2⟩:=Pt f _ _ _ _ _ h
  have hw:=B1 hx
  have hv:=AE raw
  have hb:=hb (.inl c.1)
  exact ih x hx y (path++[Fo i]) (sz.le sz.p (sz.r.x hx) (by omega) (zna _)) (fun _=>by simp;omega) (FI hp (Ol _)) p h2
 .split
  .rename_i c
   exact hf raw d path sz c.1 (hb (.inr c.1)) hp
  .intro p h;cases h
theorem Tp (DG:q.tw.length<=1000000000000) (hf:PI f q.picks) {cut:Ag->Ag} (hcr:∀x:Ag,x.Rng->(cut x).Rng) (hcw:∀x,AG (cut x)<=AG x) (on:qB) (ini:Int) {BM:List Ag} (sz:Sz q.picks v) (hh:∀x∈BM,x.Fit) (hl:BM.length+AG v<=1000000000) :
 ∀(l:List Ag) (j:Nat),(∀x∈l,x.Rng∧AG x+1<=AG v)->EJ (DN doc cut f on q.key (B5 q ini) BM l j)
 | [],j,h=>fun p hp=>by rw [DN] at hp;cases hp
 |x::l,j,h=>by
  rw [Fy]
  obtain ⟨hr,hw⟩:=h x (by simp)
  have TU:LatF doc q v x (cut x):=⟨sz,hr,by omega,hcr x hr,hcw x⟩
  obtain ⟨o1,o2,o3⟩:=TU.out DG on ini
  have O5:=TU.prf DG on ini
  have ha:=FI hh (Ol (j:Nat))
  refine EJ.app (l:=[_]) (fun p hp=>?_) (EJ.app (N9 hf x _ _ (sz.le sz.p hr (by omega) (zna _)) (fun _=>by simp;omega) ha) (Tp DG hf hcr hcw on ini sz hh hl l _ fun y hy=>h y (by simp [hy])))
  rw [List.mem_singleton.1 hp]
  exact ⟨show (BM++[Fo (j:Nat)]).length<=_ by simp;omega,ha,GU o2 q.key,Q6 O5 (by omega) o1 (by simp;omega) ha 1⟩
theorem Zw (DG:q.tw.length<=1000000000000) (hf:PI (Cx doc q.picks) q.picks) (v d:Ag) (path:List Ag) (sz:Sz q.picks v) (v6:v.k=6) (FM:path.length+AG v<=1000000000) (hp:∀x∈path,x.Fit):EJ (C3 doc q v d path):=by
 have m6:=KH sz.r q
 have p8:=NM v q
 have m9:=N2 v q
 have hh:=FI hp (Ow q.key)
 have hhl:(path++[CW q.key]).length=path.length+1:=by simp
 have y8:Sz q.picks (AW v q):=sz.le sz.p m6 p8 (zna _)
 rw [Hl]
 unfold OE
 split
 .exact N9 hf _ _ _ y8 (fun h=>by have:=m9 h;omega) hh
 .rename_i c
  have k5:(AW v q).k=5:=by omega
  have ht:=m9 (.inl k5)
  have hrw:=AE (AW v q)
  have htd:=QZ (AW v q).items (I5 q.initial (AW v q).items.length)
  have QT:AG (IM ((AW v q).items.take (I5 q.initial (AW v q).items.length)))<=AG (AW v q):=by rw [AE];simp only [IM,Ag.items_mk,Ag.keys_mk,zle];omega
  have szt:Sz q.picks (IM ((AW v q).items.take (I5 q.initial (AW v q).items.length))):=y8.le sz.p (Gf rfl fun y hy=>m6.x (List.mem_of_mem_take hy)) QT (zna _)
  refine EJ.app (N9 hf _ _ _ szt (fun h=>by omega) hh) ?_
  refine Tp DG hf (fun x hx=>Lr q x hx) (fun x=>NI q x) _ _ y8 hh (by omega) _ _ fun x hx=>?_
  have Jy:=z4k hx
  have hw:=B1 Jy
  exact ⟨m6.x Jy,by omega⟩
theorem TF {l:List Pk} (O5:B6 l) (H:∀p∈l,PI (Cx doc p.picks) p.picks):PI (Cx doc l) l:=by
 intro v d path sz v6 FM hp
 have Fn:∀q∈l,∀d,EJ (C3 doc q v d path):=fun q hq d=>Zw (O5.t hq) (H q hq) v d path (sz.le (O5.x hq) sz.r (zna _) (by have:=CA hq;have:=Cs q;omega)) v6 FM hp
 rw [Ke]
 have hpar:∀name d,EJ ((AB (typF v) name l).flatMap fun q=>C3 doc q v d path):=fun name d p h=>by
  obtain ⟨q,hq,h2⟩:=List.mem_flatMap.1 h
  obtain ⟨_,_,q',hq',_,rfl⟩:=Ee hq
  rw [GO] at h2
  exact Fn q' hq' d p h2
 refine EJ.app (fun p h=>?_) (hpar _ _)
 obtain ⟨name,hn,h2⟩:=List.mem_flatMap.1 h
 rcases List.mem_cons.1 h2 with rfl | h2
 .have szn:=(sz.par (typF v) name).cut
  have e1:=E6 doc (Bp (AB (typF v) name l) v) (typF v) [] (AM (AB (typF v) name l)) []
  have e2:=szn.c
  have e4:AG (Bp (AB (typF v) name l) v)<=100000000:=szn.w
  have e3:=(Im doc (Bp (AB (typF v) name l) v) szn.fit (typF v) [] (AM (AB (typF v) name l)) [] szn.p (by simp)).mono (m:=100000000000) (by rw [zle];omega)
  exact ⟨show path.length<=_ by omega,hp,e3.1,Q6 e3 (by omega) (by omega) (by omega) hp 0⟩
 .split at h2
  .exact hpar _ _ p h2
  .cases h2
theorem W4 (doc:List Aw) (l:List Pk) (O5:B6 l):PI (Cx doc l) l:=by
 have key:∀p:Pk,B6 p.picks->PI (Cx doc p.picks) p.picks:=fun p=>Pk.ind (Q:=fun p=>B6 p.picks->PI (Cx doc p.picks) p.picks) (fun p ih hp=>TF hp fun q hq=>ih q hq (hp.x hq)) p
 exact TF O5 fun p hp=>key p (O5.x hp)
theorem WK {root:qB} {l:List Pk} (sz:Sz l v) (Da:(GA doc root l v).2.2.length<=1000000000000):(GA doc root l v).1.Fit∧OR (GA doc root l v).2.1∧Ack (GA doc root l v).2.2:=by
 have szn:=sz.cut
 have hvw:=sz.w
 have e1:=E6 doc (Bp l v) root [] (AM l) []
 have e2:=szn.c
 have e4:AG (Bp l v)<=100000000:=szn.w
 have e3:=(Im doc (Bp l v) szn.fit root [] (AM l) [] szn.p (by simp)).mono (m:=100000000000) (by rw [zle];omega)
 unfold GA at Da ⊢
 dsimp only at Da ⊢
 refine ⟨e3.1,⟨by omega,fun p hp=>⟨by have:=(e3.2 p hp).1;omega,(e3.2 p hp).2⟩⟩,Da,?_⟩
 split
 .rename_i c
  exact W4 doc l sz.p v _ [] sz c.1 (by simp;omega) (by simp)
 .intro p hp;cases hp
end
set_option maxHeartbeats 2000000
section
variable {doc:List Aw} {l:List Pk} {v:Ag} {U:AV} {L:List AV}
structure SpIn (doc:List Aw) (l:List Pk) (v:Ag):Prop where
 d:DocR doc
 r:Gg l
 p:B6 l
 w:AF l<=1000000000000
 vf:v.Fit
 vr:v.Rng
 vw:AG v<=4000000
theorem Uf {k:Int} (h:V3 doc k l v=true):rgB doc k l=true∧v.k=6∧(AA v sT).isSome=true∧((AA v sT).getD A6).s=G3 k:=by
 unfold V3 at h
 simp only [zj,decide_eq_true_eq] at h
 exact ⟨h.1.1.1.1.2,h.1.1.1.2,h.1.1.2,h.2⟩
theorem SpIn.sz (h:SpIn doc l v) (hk:AF l<=2048):Sz l v :=
 ⟨h.p,h.vr,by have:=h.vw;omega,by
  have h1:=h.vw
  have h2:AG v*(1+AF l)<=4000000*2049:=Nat.mul_le_mul h1 (by omega)
  omega⟩
theorem Aah {root:qB} (hw:AG v<=4000000) (hk:AF l<=2048):(GA doc root l v).2.2.length<=100000000000:=by
 unfold GA
 dsimp only
 split
 .refine Nat.le_trans (WO doc l _ _ _) ?_
  exact Nat.le_trans (Nat.mul_le_mul hw hk) (by decide)
 .simp
theorem Vm (doc:List Aw) (k:Int) (l:List Pk) (v:Ag) (h:SpIn doc l v) (hp:CH) (m:Nat):Af prog 3 hp m [B0 doc,plx k l,vx v] (.b true):=by
 have hFt:=Abw doc h.d k l h.r h.w v h.vf
 obtain ⟨F,hF⟩:=A5 (V3 doc k l v)
 rw [hF] at hFt
 cases F with
 |false=>
  refine Aj func3 (tA cc3) (tB cc3) (tC cc3) rfl fun hf=>?_;unfold ck3
  simp (disch:=omega) only [go_sem]
  refine Ac.f (hFt _ _) ?_
  simp (disch:=omega) only [go_sem]
  refine Ac.f (Acc _ _) ?_
  simp (disch:=omega) only [go_sem]
 |true=>
  obtain ⟨f1,f2,f3,f4⟩:=Uf hF
  obtain ⟨hn,hk⟩:=Aeq f1
  have sz:=h.sz hk
  have hRo:=Jm k
  obtain ⟨rs,Ic⟩:=A5 (G3 k)
  rw [Ic] at hRo
  have Da:=Aah (doc:=doc) (root:=rs) h.vw hk
  have hS:=Y6 doc h.d.ok rs l v sz Da
  have hR:=Vi doc h.d.ok rs l v f2 sz (by rw [<-Wd doc rs hn v];exact Da)
  rw [<-Wd doc rs hn v] at hR
  obtain ⟨g1,g2,g3⟩:=WK (doc:=doc) (root:=rs) sz (by omega)
  obtain ⟨a,ha⟩:=A5 ((GA doc rs l v).1)
  obtain ⟨b,hb⟩:=A5 ((GA doc rs l v).2.1)
  obtain ⟨c,hc⟩:=A5 ((GA doc rs l v).2.2)
  rw [ha] at hS hR g1
  rw [hb] at hS hR g2
  rw [hc] at hS hR g3
  have hSm:=Ij a a g1 g1
  rw [Hk,dT rfl] at hSm
  have hPb:=La b g2
  have hPa:=Uc c g3
  refine Aj func3 (tA cc3) (tB cc3) (tC cc3) rfl fun hf=>?_;unfold ck3
  simp (disch:=omega) only [go_sem]
  refine Ac.f (hFt _ _) ?_
  simp (disch:=omega) only [go_sem]
  refine Ac.f (hRo _ _) ?_
  simp (disch:=omega) only [go_sem]
  refine Ac.f (hS _ _) ?_
  simp (disch:=omega) only [go_sem]
  refine Ac.f (hR _ _) ?_
  simp (disch:=omega) only [go_sem]
  refine Ac.f (hSm _ _) ?_
  simp (disch:=omega) only [go_sem]
  refine FZ (Ac.f (hPb _ _) ?_)
  simp (disch:=omega) only [go_sem]
  refine FZ (Ac.f (hPa _ _) ?_)
  simp (disch:=omega) only [go_sem]
  refine FZ (Ac.f (Acc _ _) ?_)
  simp (disch:=omega) only [go_sem]
theorem Adv (x:Cy) (h:FL prog 92 (Bv x)):x.tw=Ab D0 (J0 x.tw):=by
 obtain ⟨parts,e0,hl,hp⟩:=Bh underlying92 h
 obtain ⟨a,b,c,d,rfl⟩:=Acu (show parts.length=4 from hl)
 obtain ⟨a,rfl,_⟩:=Bb underlying9 (hp 0 _ a rfl rfl)
 obtain ⟨l,rfl,_,hx⟩:=AQ underlying88 (hp 1 _ b rfl rfl)
 obtain ⟨ts,rfl,G2,En⟩:=Bh underlying64 (hp 2 _ c rfl rfl)
 obtain ⟨t,u,rfl⟩:=Ip (show ts.length=2 from G2)
 obtain ⟨t,rfl,_⟩:=Bb underlying9 (En 0 _ t rfl rfl)
 obtain ⟨w,rfl,_,hy⟩:=AQ underlying62 (En 1 _ u rfl rfl)
 obtain ⟨ws,rfl,_⟩:=Eng.Fd (c:=D0) fun x h=>by
  obtain ⟨n,rfl,_⟩:=CY underlying3 (hy x h)
  exact ⟨n,rfl⟩
 obtain ⟨l2,rfl,_,hz⟩:=AQ underlying85 (hp 3 _ d rfl rfl)
 simp only [Bv,zlt,z1u,List.cons_append,List.nil_append,List.cons.injEq,AV.ds.injEq,true_and,and_true] at e0
 obtain ⟨_,_,_,e,_⟩:=e0
 rw [e,Afb]
theorem Aep (t:Aw) (h:FL prog 90 (B8 t)):∀f∈t.fields,f.tw=Ab D0 (J0 f.tw):=by
 obtain ⟨parts,e0,hl,hp⟩:=Bh underlying90 h
 match parts,hl,hp,e0 with
 | [a,b,c,d,e,f,g],_,hp,e0=>
  obtain ⟨a,rfl,_⟩:=CY underlying3 (hp 0 _ a rfl rfl)
  obtain ⟨b,rfl,_⟩:=Bb underlying9 (hp 1 _ b rfl rfl)
  obtain ⟨c,rfl,_,hc⟩:=AQ underlying29 (hp 2 _ c rfl rfl)
  obtain ⟨d,rfl,_,hdd⟩:=AQ underlying85 (hp 3 _ d rfl rfl)
  obtain ⟨l,rfl,_,hx⟩:=AQ underlying86 (hp 4 _ e rfl rfl)
  obtain ⟨f,rfl,_,hm⟩:=AQ underlying87 (hp 5 _ f rfl rfl)
  obtain ⟨g,rfl,_,hi⟩:=AQ underlying88 (hp 6 _ g rfl rfl)
  simp only [B8,zlt,z1u,List.cons_append,List.nil_append,List.cons.injEq,AV.ds.injEq,true_and,and_true] at e0
  have e1:Ab Bv t.fields=l:=e0.2.2.2.2.1
  intro x hx'
  exact Adv x (hx _ (by rw [<-e1];exact zls (f:=Bv) hx'))
theorem RL (h:AS prog 24 U) (hb:Gv U<=1048576):∃doc,U=B0 doc∧DocR doc:=by
 obtain ⟨L,rfl,h2⟩:=IX underlying24 h
 obtain ⟨ts,rfl,G2,En⟩:=Bh underlying24 h2
 match ts,G2,En,hb with
 | [t],_,En,hb=>
  obtain ⟨t,rfl,_,ht⟩:=AQ underlying22 (En 0 _ t rfl rfl)
  simp only [zlt,z1u,CX,Cf,Gv] at hb
  obtain ⟨doc,rfl,CI⟩:=Dj (c:=B8) (Q:=DfnQ) fun x h=>WP (ht x h) (by have:=Cv h;omega)
  have h1:=Bw ZG doc
  refine ⟨doc,rfl,⟨⟨fun t ht=>(CI t ht).ok,fun t ht=>(CI t ht).im,fun t ht=>(CI t ht).me,by omega⟩,fun t h=>⟨(CI t h).ok,(CI t h).im,(CI t h).me,(CI t h).w,Aep t (ht _ (zls (f:=B8) h))⟩,fun t h=>by have:=(CI t h).w.fl;omega⟩⟩
theorem Wp (h:FL prog 156 L) (hb:Cf L<=1048576):∃x:HD,L=BB x∧x.v.Fit∧x.v.Rng:=by
 obtain ⟨parts,rfl,hl,hp⟩:=Bh underlying156 h
 obtain ⟨a,b,rfl⟩:=Ip (show parts.length=2 from hl)
 obtain ⟨a,rfl,_⟩:=Bb underlying9 (hp 0 _ a rfl rfl)
 simp only [zlt,z1u,CX,Cf,Gv] at hb
 obtain ⟨v,rfl,hv⟩:=Iy (hp 1 _ b rfl rfl) (by omega)
 refine ⟨.mk a v,?_,hv.f,hv.r⟩
 rw [B4]
 rfl
structure PkQ (p:Pk):Prop where
 i:-9223372036854775808<=p.initial∧p.initial<=9223372036854775807
 t:p.tw.length<=1000000000
 a:p.args.length<=1000000000
 r:Qe p.args
 x:Gg p.picks
 f:B6 p.picks
theorem Xa {ps:List Pk} (hl:ps.length<=1000000000) (h:∀p∈ps,PkQ p):Gg ps∧B6 ps :=
 ⟨.mk _ hl (fun p hp=>⟨(h p hp).i,(h p hp).t,(h p hp).a,(h p hp).r⟩) fun p hp=>(h p hp).x,.mk _ hl (fun p hp=>by have:=(h p hp).t;omega) fun p hp=>(h p hp).f⟩
theorem Zn (h:FL prog 66 L) (hb:Cf L<=1048576):∃x:Pk,L=AJ x∧PkQ x:=by
 suffices key:∀(n:Nat) (L:List AV),Cf L<=n->Cf L<=1048576->FL prog 66 L->∃x:Pk,L=AJ x∧PkQ x from key _ L (zna _) hb h
 intro n
 induction n with
 |zero=>
  intro L hn hb h
  obtain ⟨parts,rfl,hl,hp⟩:=Bh underlying66 h
  match parts,hl,hp,hn with
  |a::r,_,hp,hn=>
   obtain ⟨a,rfl,_⟩:=Bb underlying9 (hp 0 _ a rfl rfl)
   simp [Cf,Gv] at hn
 |succ n ih=>
  intro L hn hb h
  obtain ⟨parts,rfl,hl,hp⟩:=Bh underlying66 h
  match parts,hl,hp,hn,hb with
  | [a,b,c,d,e,f,g,i],_,hp,hn,hb=>
   obtain ⟨a,rfl,_⟩:=Bb underlying9 (hp 0 _ a rfl rfl)
   obtain ⟨b,rfl,_⟩:=Bb underlying9 (hp 1 _ b rfl rfl)
   obtain ⟨c,rfl,_⟩:=Bb underlying9 (hp 2 _ c rfl rfl)
   obtain ⟨l,rfl,_,hx⟩:=AQ underlying61 (hp 3 _ d rfl rfl)
   obtain ⟨ts,rfl,G2,En⟩:=Bh underlying64 (hp 4 _ e rfl rfl)
   obtain ⟨t,u,rfl⟩:=Ip (show ts.length=2 from G2)
   obtain ⟨t,rfl,_⟩:=Bb underlying9 (En 0 _ t rfl rfl)
   obtain ⟨w,rfl,_,hy⟩:=AQ underlying62 (En 1 _ u rfl rfl)
   obtain ⟨ws,rfl,_⟩:=Eng.Fd (c:=D0) fun x h=>by
    obtain ⟨n,rfl,_⟩:=CY underlying3 (hy x h)
    exact ⟨n,rfl⟩
   obtain ⟨f,rfl,_⟩:=Bb underlying9 (hp 5 _ f rfl rfl)
   obtain ⟨g,rfl,hg⟩:=CY underlying3 (hp 6 _ g rfl rfl)
   obtain ⟨p,rfl,_,hz⟩:=AQ underlying25 (hp 7 _ i rfl rfl)
   simp only [zlt,z1u,CX,Cf,Gv] at hb hn
   obtain ⟨al,rfl,ha⟩:=Dj (c:=BB) (Q:=fun a=>a.v.Fit∧a.v.Rng) fun x h=>Wp (hx x h) (by have:=Cv h;omega)
   obtain ⟨ps,rfl,hps⟩:=Dj (c:=AJ) (Q:=PkQ) fun x h=>ih x (by have:=Cv h;omega) (by have:=Cv h;omega) (hz x h)
   have h2:=Bw Ti ps
   have h3:=Bw Om ws
   have h4:=Bw OJ al
   obtain ⟨q1,q2⟩:=Xa (by omega) hps
   exact ⟨.mk a b c al t ws f g ps,by rw [BH];rfl,⟨by simpa only [Pk.initial] using Ah9 hg,by simp only [Pk.tw];omega,by simp only [Pk.args];omega,ha,q1,q2⟩⟩
theorem OK (h:AS prog 27 U) (hb:Gv U<=1048576):∃k l,U=plx k l∧Gg l∧B6 l∧AF l<=1048576:=by
 obtain ⟨L,rfl,h2⟩:=IX underlying27 h
 obtain ⟨parts,rfl,hl,hp⟩:=Bh underlying27 h2
 obtain ⟨a,b,rfl⟩:=Ip (show parts.length=2 from hl)
 obtain ⟨a,rfl,_⟩:=CY underlying3 (hp 0 _ a rfl rfl)
 obtain ⟨l,rfl,_,hx⟩:=AQ underlying25 (hp 1 _ b rfl rfl)
 simp only [zlt,z1u,CX,Cf,Gv] at hb
 obtain ⟨ps,rfl,hps⟩:=Dj (c:=AJ) (Q:=PkQ) fun x h=>Zn (hx x h) (by have:=Cv h;omega)
 have h1:=Bw Ti ps
 have h3:=Aey ps
 obtain ⟨q1,q2⟩:=Xa (by omega) hps
 exact ⟨a,ps,rfl,q1,q2,by omega⟩
theorem UG {α1 α2 α3:AV} (h1:AS prog 24 α1) (h2:AS prog 27 α2) (h3:AS prog 31 α3) (VB:Gv α1<=1048576) (ER:Gv α2<=1048576) (hb3:Gv α3<=1048576) :
 ∃doc k l v,α1=B0 doc∧α2=plx k l∧α3=vx v∧SpIn doc l v:=by
 obtain ⟨doc,rfl,hd⟩:=RL h1 VB
 obtain ⟨k,l,rfl,p1,p2,p3⟩:=OK h2 ER
 obtain ⟨v,rfl,hv⟩:=Rz h3 hb3
 exact ⟨doc,k,l,v,rfl,rfl,rfl,⟨hd,p1,p2,by omega,hv.f,hv.r,by have:=hv.w;omega⟩⟩
end
