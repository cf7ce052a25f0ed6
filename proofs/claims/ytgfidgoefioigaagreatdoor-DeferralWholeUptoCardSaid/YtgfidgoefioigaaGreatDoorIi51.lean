/- Proof. Conditions: none. -/
import Derived.Test.YtgfidgoefioigaaGreatDoorIi50
open Go.Proofs.Tryz
open List renaming length_cons→zlc,length_nil→zle,take_zero→zlr
namespace Go.Proofs.YtgfidgoefioigaaGreatDoor
open Go.Eng
set_option linter.all false
set_option maxRecDepth 20000
set_option maxHeartbeats 1000000
theorem Tt (l:List ByteArray) (k:ByteArray) (hl:l.length≤1000000000000) (hp:CH) (m:Nat):Ah prog 91 hp m [.ds (Bv l),.s k] (.i .i64 (ix k l 0)):=by
 refine Am func91 (by kernel_rfl) cc91 cr91 rfl fun hf=>?_;unfold ck91
 simp only [go_sem]
 refine loop (fun p:Nat × Nat=>⟨[(0,.ds (Bv l)),(1,.s k),(5,.i .i64 p.1)],hp,p.2⟩) (fun p=>p.1≤l.length∧ix k l 0=ix k (l.drop p.1) p.1) (fun p=>l.length - p.1) (0,m) ?_ ?_ (fun ⟨j,n⟩ hj=>?_)
 .exact ⟨by simp,rfl⟩
 .refine Ac ?_ (A6.refl _) (Nat.le_refl _)
  simp only [go_sem]
 dsimp only at hj
 simp only [go_sem]
 refine Ai (fun d=>?_) (fun d=>?_)
 .have d:j<l.length:=by simpa using d
  obtain ⟨x,ex⟩:∃x,l[j]?=some x:=⟨l[j],by simp [d]⟩
  have e:=A5 ex
  rw [e,ix] at hj
  simp only [d,Ag (Ab C9 ex),go_sem]
  refine Ai (fun c1=>?_) (fun c1=>?_)
  .have c1:k=x:=by simp at c1;exact c1.symm
   rw [if_pos c1] at hj
   rw [hj.2]
   simp only [go_sem]
  .have c1:¬k=x:=by simp at c1;exact fun e=>c1 e.symm
   rw [if_neg c1] at hj
   simp only [go_sem]
   refine ⟨(j+1,n),by dsimp only;omega,by dsimp only;omega,Ac ?_ (A6.refl _) (Nat.le_refl _)⟩
   simp only [At j (by omega),go_sem]
 .have d:j=l.length:=by simp at d;omega
  subst d
  rw [List.drop_length,ix] at hj
  rw [hj.2]
  simp only [go_sem]
theorem Mu (hp:CH) (m:Nat):Ah prog 140 hp m [] (DC Ci [1]):=by
 refine Am func140 (by kernel_rfl) cc140 cr140 rfl fun hf=>?_;unfold ck140
 simp (disch:=omega) only [Aa,go_sem]
 rfl
def OT:ByteArray:=⟨#[95,95,116,121,112,101,110,97,109,101]⟩
noncomputable def XJ (doc:List Az) (p:Pk):Bool :=
 if p.initial < -1∨(0≤p.initial∧CK p.tw=false) then false
 else if ES p.key=false∨(WJ p.key=true∧(¬p.key=OT∨¬p.name=OT)) then false
 else if p.name=OT then Kf p.tn p.tw Ci [1]&&(decide (p.args.length=0)&&decide (p.picks.length=0))
 else match CS ((A1 doc p.on).getD Dv).fields p.name with
  | none=>false
  | some f=>if Kf f.tn (HJ f.tw) p.tn p.tw=true∧IN doc (AZ f.args) p.args=true then (decide (p.picks.length=0)||!E9 doc p.tn) else false
theorem Sx (doc:List Az) (hd:DocB doc) (p:Pk) (hi:-9223372036854775808≤p.initial∧p.initial≤9223372036854775807) (Fk:p.tw.length≤1000000000) (hl:p.args.length≤1000000000) (hr:Mz p.args) (JG:p.picks.length≤1000000000) (hp:CH) (m:Nat):Ah prog 92 hp m [B5 doc,pkx p] (.b (XJ doc p)):=by
 have FH:=hd.l
 have hL:=J1 p.tn p.tw (by omega)
 have hN:=BE p.key
 have hV:=HT p.key
 have hT:=Mu
 have hS:=FU p.tn Ci p.tw [1] (by omega) (by simp)
 have hF:=BM doc (by omega) p.on
 have hLf:=ML doc (by omega) p.tn
 obtain ⟨hx1,FI⟩:=LB hd p.on
 obtain ⟨RR,AD⟩:∃RR,XJ doc p=RR:=⟨_,rfl⟩
 rw [AD]
 unfold XJ at AD
 obtain ⟨lw,hlw⟩:∃b,CK p.tw=b:=⟨_,rfl⟩
 obtain ⟨kn,Bt⟩:∃b,ES p.key=b:=⟨_,rfl⟩
 obtain ⟨kr,hkr⟩:∃b,WJ p.key=b:=⟨_,rfl⟩
 rw [hlw] at hL AD
 rw [Bt] at hN AD
 rw [hkr] at hV AD
 refine Am func92 (by kernel_rfl) cc92 cr92 rfl fun hf=>?_;unfold ck92
 simp (disch:=omega) only [Aa,go_sem]
 refine AA.f (fun _=>hL _ _) ?_
 simp (disch:=omega) only [Aa,go_sem]
 refine Ai (fun c=>?_) (fun c=>?_)
 .rw [if_pos (by simpa using c)] at AD
  subst AD
  simp (disch:=omega) only [Aa,go_sem]
 rw [if_neg (by simpa using c)] at AD
 clear c
 simp (disch:=omega) only [Aa,go_sem]
 refine Af.f (hN _ _) ?_
 simp (disch:=omega) only [Aa,go_sem]
 refine AA.f (fun _=>hV _ _) ?_
 simp (disch:=omega) only [Aa,go_sem]
 refine Ai (fun c=>?_) (fun c=>?_)
 .rw [if_pos (by simpa only [OT,Bool.or_eq_true,Bool.and_eq_true,Bool.not_eq_true',decide_eq_false_iff_not] using c)] at AD
  subst AD
  simp (disch:=omega) only [Aa,go_sem]
 rw [if_neg (fun h=>by rw [show (!kn||kr&&(!decide (p.key={ data:=#[95,95,116,121,112,101,110,97,109,101] })||!decide (p.name={ data:=#[95,95,116,121,112,101,110,97,109,101] })))=true by simpa only [OT,Bool.or_eq_true,Bool.and_eq_true,Bool.not_eq_true',decide_eq_false_iff_not] using h] at c;cases c)] at AD
 clear c
 simp (disch:=omega) only [Aa,go_sem]
 refine Ai (fun c=>?_) (fun c=>?_)
 .rw [if_pos (by simpa [OT] using c)] at AD
  simp (disch:=omega) only [Aa,go_sem]
  refine A3.f (fun _ _ _=>hT _ _) ?_
  simp (disch:=omega) only [Aa,go_sem]
  refine A3.f (fun _ _ _=>hS _ _) ?_
  simp (disch:=omega) only [Aa,go_sem]
  subst AD
  simp [Bool.and_assoc]
 rw [if_neg (by simpa [OT] using c)] at AD
 clear c
 simp (disch:=omega) only [Aa,go_sem]
 obtain ⟨t,ht⟩:∃t,(A1 doc p.on).getD Dv=t:=⟨_,rfl⟩
 unfold DH at hF
 rw [ht] at hF hx1 FI AD
 obtain ⟨tb,htb⟩:∃b,(A1 doc p.on).isSome=b:=⟨_,rfl⟩
 rw [htb] at hF
 refine Af.f (hF _ _) ?_
 have hFo:=Kv t (by omega) p.name
 unfold P5 at hFo
 simp (disch:=omega) only [Aa,go_sem]
 refine Af.f (hFo _ _) ?_
 cases hX:CS t.fields p.name with
 | none =>
  rw [hX] at AD
  dsimp only at AD
  subst AD
  simp (disch:=omega) only [Aa,Option.isSome_none,go_sem]
  refine BK ?_
  simp (disch:=omega) only [Aa,go_sem]
  refine BK ?_
  simp (disch:=omega) only [Aa,go_sem]
 | some f =>
  rw [hX] at AD
  dsimp only at AD
  have On:=FI f (List.mem_of_find?_eq_some hX)
  obtain ⟨fa1,fa2,fa3⟩:=B9 On.a
  have hSf:=FU f.tn p.tn (HJ f.tw) p.tw (by rw [GV];have:=On.tl;omega) (by omega)
  simp only [DC] at hSf
  rw [←On.tw] at hSf
  have hA:=R7 doc hd (AZ f.args) fa2 fa3 p.args hl hr
  rw [←fa1] at hA
  obtain ⟨b1,hb1⟩:∃b,Kf f.tn (HJ f.tw) p.tn p.tw=b:=⟨_,rfl⟩
  obtain ⟨b2,Eo⟩:∃b,IN doc (AZ f.args) p.args=b:=⟨_,rfl⟩
  obtain ⟨b3,hb3⟩:∃b,E9 doc p.tn=b:=⟨_,rfl⟩
  rw [hb1] at hSf AD
  rw [Eo] at hA AD
  rw [hb3] at hLf AD
  simp only [Option.getD_some,flx]
  simp (disch:=omega) only [Aa,Option.isSome_some,go_sem]
  refine AA.f (fun _=>hSf _ _) ?_
  simp (disch:=omega) only [Aa,go_sem]
  refine AA.f (fun _=>hA _ _) ?_
  simp (disch:=omega) only [Aa,go_sem]
  refine Ai (fun c=>?_) (fun c=>?_)
  .rw [if_neg (fun h=>by rw [h.1,h.2] at c;cases c)] at AD
   subst AD
   simp (disch:=omega) only [Aa,go_sem]
  rw [if_pos (by simpa using c)] at AD
  simp (disch:=omega) only [Aa,go_sem]
  refine AA.f (fun _=>hLf _ _) ?_
  simp (disch:=omega) only [Aa,go_sem]
  subst AD
  simp
inductive EQ:List Pk→Prop
 | mk (l:List Pk):l.length≤1000000000→(∀p∈l,(-9223372036854775808≤p.initial∧p.initial≤9223372036854775807)∧p.tw.length≤1000000000∧p.args.length≤1000000000∧Mz p.args)→(∀p∈l,EQ p.picks)→EQ l
theorem EQ.l {l:List Pk}:EQ l→l.length≤1000000000 | .mk _ h _ _=>h
theorem EQ.p {l:List Pk}:EQ l→∀p∈l,(-9223372036854775808≤p.initial∧p.initial≤9223372036854775807)∧p.tw.length≤1000000000∧p.args.length≤1000000000∧Mz p.args | .mk _ _ h _=>h
theorem EQ.x {l:List Pk}:EQ l→∀p∈l,EQ p.picks | .mk _ _ _ h=>h
def Ju (p:Pk) (l:List Pk):Bool:=l.any fun q=>decide (q.on=p.on)&&decide (q.key=p.key)
noncomputable def N6 (doc:List Az) (types:List ByteArray) (level:Int):List (Pk × Bool)→List Pk→Int→Bool
 | [],_,_=>true
 | (p,b)::r,seen,last =>
  if 24<level∨ix p.on types 0<last∨XJ doc p=false∨b=false then false
  else if Ju p seen=true then false else N6 doc types level r (seen++[p]) (ix p.on types 0)
mutual
noncomputable def V9 (doc:List Az):Pk→Int→Bool
 | .mk k o n a tn tw l i p,level=>N6 doc (En doc tn) (IntKind.i64.wrap (level+1)) (Xd doc p (IntKind.i64.wrap (level+1))) [] 0
noncomputable def Xd (doc:List Az):List Pk→Int→List (Pk × Bool)
 | [],_=>[]
 | p::r,level=>(p,V9 doc p level)::Xd doc r level
end
noncomputable def TR (doc:List Az) (tn:ByteArray) (l:List Pk) (level:Int):Bool:=N6 doc (En doc tn) level (Xd doc l level) [] 0
theorem Pe (doc:List Az) (p:Pk) (level:Int):V9 doc p level=TR doc p.tn p.picks (IntKind.i64.wrap (level+1)):=by cases p;rw [V9];rfl
theorem WG (doc:List Az) (l:List Pk) (level:Int):Xd doc l level=l.map fun p=>(p,V9 doc p level):=by
 induction l with
 | nil=>rw [Xd];rfl
 | cons p l ih=>rw [Xd,ih];rfl
theorem Kn (doc:List Az) (hd:DocB doc) (hk:DocOk doc) (l:List Pk) (hl:EQ l) (tn:ByteArray) (level:Int) (h:∀p∈l,∀hp m,Ah prog 48 hp m [B5 doc,.s p.tn,.ds (Ad Bo p.picks),.i .i64 (IntKind.i64.wrap (level+1))] (.b (V9 doc p level))) (hp:CH) (m:Nat):Ah prog 48 hp m [B5 doc,.s tn,.ds (Ad Bo l),.i .i64 level] (.b (TR doc tn l level)):=by
 have hll:=hl.l
 have hP:=NF doc hk tn
 have hPl:=Jp doc tn
 have FH:=hd.l
 obtain ⟨R,hR⟩:∃R,TR doc tn l level=R:=⟨_,rfl⟩
 rw [hR]
 unfold TR at hR
 obtain ⟨T,hT⟩:∃T,En doc tn=T:=⟨_,rfl⟩
 rw [hT] at hP hPl hR
 have hTl:T.length≤1000000000000:=by omega
 refine Am func48 (by kernel_rfl) cc48 cr48 rfl fun hf=>?_;unfold ck48
 simp (disch:=omega) only [Aa,go_sem]
 refine Af.f (hP _ _) ?_
 simp (disch:=omega) only [Aa,go_sem]
 refine loop (fun p:Nat × Int × Nat=>⟨[(2,.ds (Ad Bo l)),(3,.i .i64 level),(4,.bx m 0),(9,.ds (Bv T)),(10,.i .i64 p.2.1),(11,.i .i64 p.1)],(m,.bx [.ds (Ad BB doc)])::hp,p.2.2⟩)
  (fun p=>p.1≤l.length∧m+1≤p.2.2∧R=N6 doc T level (Xd doc (l.drop p.1) level) (l.take p.1) p.2.1) (fun p=>l.length - p.1) (0,0,m+1) ?_ ?_ (fun ⟨j,last,n⟩ hj=>?_)
 .exact ⟨by simp,by simp,by simpa using hR.symm⟩
 .refine Ac ?_ (A6.cons ?_ (A6.base hf ?_)) (Nat.le_refl _)
  all_goals (simp (disch:=omega) only [Aa,go_sem])
 dsimp only at hj
 obtain ⟨Cm,Ba,Aw⟩:=hj
 have BO:m≤n:=by omega
 simp (disch:=omega) only [Aa,go_sem]
 refine Ai (fun d=>?_) (fun d=>?_)
 case' refine_2 =>
  have d:j=l.length:=by simp at d;omega
  subst d
  rw [List.drop_length,Xd,N6] at Aw
  subst Aw
  simp (disch:=omega) only [Aa,BO,go_sem]
 have d:j<l.length:=by simpa using d
 obtain ⟨x,ex⟩:∃x,l[j]?=some x:=⟨l[j],by simp [d]⟩
 have SB:=List.mem_of_getElem? ex
 obtain ⟨p1,p2,p3,p4⟩:=hl.p x SB
 have JG:=(hl.x x SB).l
 have hx:=h x SB
 have LQ:=Sx doc hd x p1 p2 p3 p4 JG
 rw [A5 ex,Xd,N6] at Aw
 obtain ⟨b1,hb1⟩:∃b,XJ doc x=b:=⟨_,rfl⟩
 obtain ⟨b2,Eo⟩:∃b,V9 doc x level=b:=⟨_,rfl⟩
 rw [hb1] at LQ Aw
 rw [Eo] at hx Aw
 have eg:(Ad Bo l)[j]?=some (Bo x):=Ab Bo ex
 simp (disch:=omega) only [Aa,d,Ag (Ab Bo ex),go_sem]
 refine Af.f (Tt T x.on hTl _ _) ?_
 obtain ⟨a,ha⟩:∃a,ix x.on T 0=a:=⟨_,rfl⟩
 rw [ha] at Aw
 rw [ha]
 by_cases c1:24<level∨a<last
 .rw [if_pos (by rcases c1 with c | c;exact .inl c;exact .inr (.inl c))] at Aw
  subst Aw
  have e1:(decide (24<level)||decide (a<last))=true:=by simpa using c1
  simp (disch:=omega) only [Aa,d,Ag (Ab Bo ex),eg,e1,zlc,zle,List.drop_succ_cons,List.drop_zero,List.take_succ_cons,zlr,Option.map_some,Option.map_none,Option.isSome_some,Option.isSome_none,Option.getD_some,List.getD_cons_zero,List.getD_cons_succ,and_self,Bp,true_and,Cg,Bool.not_true,Bool.not_false,go_sem]
  refine AG.no ?_
  simp (disch:=omega) only [Aa,d,Ag (Ab Bo ex),eg,e1,zlc,zle,List.drop_succ_cons,List.drop_zero,List.take_succ_cons,zlr,Option.map_some,Option.map_none,Option.isSome_some,Option.isSome_none,Option.getD_some,List.getD_cons_zero,List.getD_cons_succ,and_self,Bp,true_and,Cg,Bool.not_true,Bool.not_false,go_sem]
  refine AG.no ?_
  simp (disch:=omega) only [Aa,d,Ag (Ab Bo ex),eg,e1,BO,zlc,zle,List.drop_succ_cons,List.drop_zero,List.take_succ_cons,zlr,Option.map_some,Option.map_none,Option.isSome_some,Option.isSome_none,Option.getD_some,List.getD_cons_zero,List.getD_cons_succ,and_self,Bp,true_and,Cg,Bool.not_true,Bool.not_false,go_sem]
 have e1:(decide (24<level)||decide (a<last))=false:=by simpa using c1
 simp (disch:=omega) only [Aa,d,Ag (Ab Bo ex),eg,e1,zlc,zle,List.drop_succ_cons,List.drop_zero,List.take_succ_cons,zlr,Option.map_some,Option.map_none,Option.isSome_some,Option.isSome_none,Option.getD_some,List.getD_cons_zero,List.getD_cons_succ,and_self,Bp,true_and,Cg,Bool.not_true,Bool.not_false,go_sem]
 refine AG.f (fun _ _ _=>LQ _ _) ?_
 cases b1
 .rw [if_pos (.inr (.inr (.inl rfl)))] at Aw
  subst Aw
  simp (disch:=omega) only [Aa,d,Ag (Ab Bo ex),eg,e1,zlc,zle,List.drop_succ_cons,List.drop_zero,List.take_succ_cons,zlr,Option.map_some,Option.map_none,Option.isSome_some,Option.isSome_none,Option.getD_some,List.getD_cons_zero,List.getD_cons_succ,and_self,Bp,true_and,Cg,Bool.not_true,Bool.not_false,go_sem]
  refine AG.no ?_
  simp (disch:=omega) only [Aa,d,Ag (Ab Bo ex),eg,e1,BO,zlc,zle,List.drop_succ_cons,List.drop_zero,List.take_succ_cons,zlr,Option.map_some,Option.map_none,Option.isSome_some,Option.isSome_none,Option.getD_some,List.getD_cons_zero,List.getD_cons_succ,and_self,Bp,true_and,Cg,Bool.not_true,Bool.not_false,go_sem]
 simp (disch:=omega) only [Aa,d,Ag (Ab Bo ex),eg,e1,zlc,zle,List.drop_succ_cons,List.drop_zero,List.take_succ_cons,zlr,Option.map_some,Option.map_none,Option.isSome_some,Option.isSome_none,Option.getD_some,List.getD_cons_zero,List.getD_cons_succ,and_self,Bp,true_and,Cg,Bool.not_true,Bool.not_false,go_sem]
 refine AG.f (fun _ _ _=>hx _ _) ?_
 cases b2
 .rw [if_pos (.inr (.inr (.inr rfl)))] at Aw
  subst Aw
  simp (disch:=omega) only [Aa,d,Ag (Ab Bo ex),eg,e1,BO,zlc,zle,List.drop_succ_cons,List.drop_zero,List.take_succ_cons,zlr,Option.map_some,Option.map_none,Option.isSome_some,Option.isSome_none,Option.getD_some,List.getD_cons_zero,List.getD_cons_succ,and_self,Bp,true_and,Cg,Bool.not_true,Bool.not_false,go_sem]
 rw [if_neg (by rintro (h | h | h | h);exact c1 (.inl h);exact c1 (.inr h);cases h;cases h)] at Aw
 simp (disch:=omega) only [Aa,d,Ag (Ab Bo ex),eg,e1,BO,zlc,zle,List.drop_succ_cons,List.drop_zero,List.take_succ_cons,zlr,Option.map_some,Option.map_none,Option.isSome_some,Option.isSome_none,Option.getD_some,List.getD_cons_zero,List.getD_cons_succ,and_self,Bp,true_and,Cg,Bool.not_true,Bool.not_false,go_sem]
 refine loop (fun p:Nat × Nat=>⟨[(2,.ds (Ad Bo l)),(3,.i .i64 level),(4,.bx m 0),(9,.ds (Bv T)),(10,.i .i64 a),(11,.i .i64 j),(13,.i .i64 p.1)],(m,.bx [.ds (Ad BB doc)])::hp,p.2⟩)
  (fun p=>p.1≤j∧m+1≤p.2∧Ju x (l.take p.1)=false) (fun p=>j - p.1) (0,n+100) ?_ ?_ (fun ⟨i,n'⟩ hi=>?_)
 .exact ⟨by simp,by dsimp only;omega,by simp [Ju]⟩
 .refine Ac ?_ (A6.cons ?_ (A6.base hf ?_)) (by dsimp only;omega)
  all_goals (simp (disch:=omega) only [Aa,go_sem])
 dsimp only at hi
 obtain ⟨Md,Ij,Ex⟩:=hi
 have hmn':m≤n':=by omega
 simp (disch:=omega) only [Aa,go_sem]
 refine Ai (fun q=>?_) (fun q=>?_)
 .have q:i<j:=by simpa using q
  obtain ⟨y,ey⟩:∃y,l[i]?=some y:=⟨l[i]'(by omega),List.getElem?_eq_getElem (by omega)⟩
  have ey':(Ad Bo l)[i]?=some (Bo y):=Ab Bo ey
  have q2:i<l.length:=by omega
  have C1:Ju x (l.take (i+1))=(decide (y.on=x.on)&&decide (y.key=x.key)):=by
   rw [←Bg ey]
   unfold Ju at Ex ⊢
   rw [List.any_append,Ex,Bool.false_or]
   simp
  simp (disch:=omega) only [Aa,d,q2,Ag (Ab Bo ex),Ag (Ab Bo ey),eg,ey',hmn',zlc,zle,List.drop_succ_cons,List.drop_zero,List.take_succ_cons,zlr,Option.map_some,Option.map_none,Option.isSome_some,Option.isSome_none,Option.getD_some,List.getD_cons_zero,List.getD_cons_succ,and_self,Bp,true_and,Cg,Bool.not_true,Bool.not_false,go_sem]
  refine Ai (fun c=>?_) (fun c=>?_)
  .rw [c] at C1
   have:Ju x (l.take j)=true:=by
    unfold Ju at C1 ⊢
    obtain ⟨z,hz,hz2⟩:=List.any_eq_true.1 C1
    refine List.any_eq_true.2 ⟨z,?_,hz2⟩
    exact (List.take_sublist_take_left (by omega:i+1≤j)).subset hz
   rw [if_pos this] at Aw
   subst Aw
   simp (disch:=omega) only [Aa,hmn',zlc,zle,List.drop_succ_cons,List.drop_zero,List.take_succ_cons,zlr,Option.map_some,Option.map_none,Option.isSome_some,Option.isSome_none,Option.getD_some,List.getD_cons_zero,List.getD_cons_succ,and_self,Bp,true_and,Cg,Bool.not_true,Bool.not_false,go_sem]
  .rw [c] at C1
   simp (disch:=omega) only [Aa,go_sem]
   refine ⟨(i+1,n'+50),⟨by dsimp only;omega,by dsimp only;omega,C1⟩,by dsimp only;omega,Ac ?_ (A6.cons ?_ (A6.base hf ?_)) (by dsimp only;omega)⟩
   .simp (disch:=omega) only [Aa,At i (by omega),go_sem]
   .simp (disch:=omega) only [Aa,go_sem]
   .simp (disch:=omega) only [Aa,go_sem]
 .have q:i=j:=by simp at q;omega
  subst q
  rw [if_neg (by rw [Ex];decide)] at Aw
  simp (disch:=omega) only [Aa,go_sem]
  refine ⟨(i+1,a,n'+50),⟨by dsimp only;omega,by dsimp only;omega,?_⟩,by dsimp only;omega,Ac ?_ (A6.cons ?_ (A6.base hf ?_)) (by dsimp only;omega)⟩
  .dsimp only
   rw [←Bg ex]
   exact Aw
  .simp (disch:=omega) only [Aa,At i (by omega),go_sem]
  .simp (disch:=omega) only [Aa,go_sem]
  .simp (disch:=omega) only [Aa,go_sem]
theorem RC (doc:List Az) (hd:DocB doc) (hk:DocOk doc) (l:List Pk) (hl:EQ l) (tn:ByteArray) (level:Int) (hp:CH) (m:Nat):Ah prog 48 hp m [B5 doc,.s tn,.ds (Ad Bo l),.i .i64 level] (.b (TR doc tn l level)):=by
 have key:∀p:Pk,EQ p.picks→∀tn level hp m,Ah prog 48 hp m [B5 doc,.s tn,.ds (Ad Bo p.picks),.i .i64 level] (.b (TR doc tn p.picks level)):=fun p=>Pk.ind (Q:=fun p=>EQ p.picks→∀tn level hp m,Ah prog 48 hp m [B5 doc,.s tn,.ds (Ad Bo p.picks),.i .i64 level] (.b (TR doc tn p.picks level))) (fun v ih hv tn level hp m=>by
  refine Kn doc hd hk v.picks hv tn level (fun p hp Ao m'=>?_) hp m
  rw [Pe]
  exact ih p hp (hv.x p hp) p.tn _ Ao m') p
 refine Kn doc hd hk l hl tn level (fun p hp Ao m'=>?_) hp m
 rw [Pe]
 exact key p (hl.x p hp) p.tn _ Ao m'
end Go.Proofs.YtgfidgoefioigaaGreatDoor
