/- Proof. Conditions: none. -/
import Derived.Test.YtgfidgoefioigaaGreatDoorIi41
open Go.Proofs.Tryz
open List renaming length_cons→zlc,length_append→zld,length_nil→zle,append_assoc→zlf
open Nat renaming le_refl→zna
namespace Go.Proofs.YtgfidgoefioigaaGreatDoor
open Go.Eng
set_option linter.all false
set_option maxRecDepth 20000
set_option maxHeartbeats 2000000
theorem Au (a b:List C6):Ad AK a++Ad AK b=Ad AK (a++b):=List.map_append.symm
theorem Ar (a:List C6) (e:Int) (s:ByteArray):Ad AK a++[[AV.i .i64 e,.s s]]=Ad AK (a++[.mk e s]):=Bi AK a (.mk e s)
inductive OI
 | mk (j g:Nat) (l:List C6) (n:Nat)
noncomputable def O5 (doc:List Az) (is:List B6) (b e:ByteArray) (j:Nat) (x:B6):List C6 :=
 Ff x.n false (BN (is.take j) x.n).isSome (b++x.n++e)++(if (Ck x.tn||(A1 doc x.tn).isSome)=false then [.mk 8 (b++x.n++e)] else if HN doc x.tn=false then [.mk 10 (b++x.n++e)] else [])
theorem Od (doc:List Az) (is:List B6) (b e:ByteArray) (j:Nat) (x:B6):(O5 doc is b e j x).length≤3:=by
 unfold O5
 rw [zld]
 have:=DU x.n false (BN (is.take j) x.n).isSome (b++x.n++e)
 split
 .simp;omega
 .split
  .simp;omega
  .simp;omega
noncomputable def MY (doc:List Az) (is:List B6) (b e:ByteArray):List C6:=Gj (O5 doc is b e) is is.length
theorem E7 (doc:List Az) {is:List B6} (hl:is.length≤16) (b e:ByteArray):(MY doc is b e).length≤48:=by
 have:=CV (A:=O5 doc is b e) (l:=is) (fun j x _=>Od doc is b e j x) is.length
 unfold MY
 omega
theorem FX (doc:List Az) (FH:doc.length≤64) (is:List B6) (hl:is.length≤16) (hn:∀x∈is,x.n.size≤64) (b e:ByteArray) (hb:b.size≤100000) (he:e.size≤100000) (hp:CH) (m:Nat):GS 86 hp m [B5 doc,.ds (Ad A7 is),.s b,.s e] (MY doc is b e):=by
 obtain ⟨RR,AD⟩:∃RR,MY doc is b e=RR:=⟨_,rfl⟩
 rw [AD]
 unfold MY at AD
 refine ER (fun l:List C6=>l=RR) (fun _=>[]) (fun l=>.ds (Ad AK l)) func86 (by kernel_rfl) cc86 cr86 rfl (fun hf i hi=>trivial) fun hf=>?_
 unfold ck86
 simp only [go_sem]
 refine loop (fun p:OI=>match p with
  | .mk j g L n=>⟨[(1,.ds (Ad A7 is)),(2,.s b),(3,.s e),(4,.bx m 0),(9,.rw (m+1) g L.length),(10,.i .i64 j)],(m+1,.rw g 2 (Ad AK L))::(m,.bx [.ds (Ad BB doc)])::hp,n⟩)
  (fun p=>match p with | .mk j g L n=>j≤is.length∧m+2≤n∧L=Gj (O5 doc is b e) is j) (fun p=>match p with | .mk j g L n=>is.length - j) (.mk 0 0 [] (m+2)) ?_ ?_ (fun p hj=>?_)
 .exact ⟨Nat.zero_le _,zna _,rfl⟩
 .dsimp only
  refine (B0 (t:=9) (m:=2) ?_).trans (Ac ?_ (Ae.sub (Ae.cons ?_ (Ae.cons ?_ (Ae.base hf fun a ha hax=>?_)))) (zna _))
  .simp (disch:=omega) only [Aa,go_sem]
  .simp (disch:=omega) only [Aa,go_sem]
  .simp (disch:=omega) only [Aa,go_sem]
   try rfl
  .simp (disch:=omega) only [Aa,go_sem]
  .repeat rw [Aq _ _ (by omega)]
 obtain ⟨j,g,L,n⟩:=p
 obtain ⟨Cm,Ba,Aw⟩:=hj
 have hLb:L.length≤3*j:=by rw [Aw];exact CV (fun j x _=>Od doc is b e j x) j
 have Cb:(Ad AK L).length=L.length:=Ax _ _
 have JJ:(Ad AK L).take L.length=Ad AK L:=List.take_of_length_le (by omega)
 dsimp only
 simp (disch:=omega) only [Aa,go_sem]
 refine Ai (fun q=>?_) (fun q=>?_)
 case' refine_2 =>
  have BO:m≤n:=by omega
  have q:j=is.length:=by simp at q;omega
  subst q
  rw [AD] at Aw
  simp (disch:=omega) only [Aa,go_sem]
  refine BY L Aw ?_
  simp (disch:=omega) only [Aa,BO,Cb,zna,JJ,go_sem]
 have q:j<is.length:=by simpa using q
 obtain ⟨x,ex⟩:∃x,is[j]?=some x:=⟨is[j],by simp [q]⟩
 have hx:=hn x (List.mem_of_getElem? ex)
 have hI:=Dl (is.take j) (by rw [List.length_take];omega) x.n
 obtain ⟨R,hR⟩:∃R,BN (is.take j) x.n=R:=⟨_,rfl⟩
 have Dj:=EE (A:=O5 doc is b e) ex
 have hE:O5 doc is b e j x=Ff x.n false (BN (is.take j) x.n).isSome (b++x.n++e)++(if (Ck x.tn||(A1 doc x.tn).isSome)=false then [.mk 8 (b++x.n++e)] else if HN doc x.tn=false then [.mk 10 (b++x.n++e)] else []):=rfl
 rw [hR] at hI hE
 unfold Ns at hI
 have hK:=NJ doc FH x.tn
 obtain ⟨kb,hkb⟩:∃y,(Ck x.tn||(A1 doc x.tn).isSome)=y:=⟨_,rfl⟩
 rw [hkb] at hK hE
 have hY:=G2 doc FH x.tn
 obtain ⟨yb,hyb⟩:∃y,HN doc x.tn=y:=⟨_,rfl⟩
 rw [hyb] at hY hE
 have z1:b.size+x.n.size≤9223372036854775807:=by omega
 have z2:(b++x.n).size+e.size≤9223372036854775807:=by rw [ByteArray.size_append];omega
 have z3:0≤(j:Int)∧(j:Int)≤(is.length:Int):=by omega
 simp (disch:=omega) only [Aa,q,Ag (Ab A7 ex),z1,z2,z3.1,z3.2,true_and,go_sem]
 refine ⟨by omega,?_⟩
 refine A3.f (fun _ _ _=>hI _ _) ?_
 simp (disch:=omega) only [Aa,q,Ag (Ab A7 ex),go_sem]
 refine Af.r (Jv _ _ _ _ _ _) ?_
 rintro Ao n' r ⟨F1,LV,e1,e2,e3⟩
 subst e1
 subst e2
 subst e3
 have Gl:F1=_:=LV
 rw [←Gl] at hE
 have LV:F1.length≤2:=by rw [Gl];exact DU _ _ _ _
 have k1:(L.length+F1.length)*24≤140737488355328:=by omega
 have k2:L.length+F1.length≤9223372036854775807:=by omega
 have k3:(L.length+(F1.length+1))*24≤140737488355328:=by omega
 have k4:L.length+(F1.length+1)≤9223372036854775807:=by omega
 have Db:(Ad AK F1).length=F1.length:=Ax _ _
 have JQ:(Ad AK (L++F1)).length=L.length+F1.length:=by rw [Ax,zld]
 simp only [List.nil_append]
 simp (disch:=omega) only [Aa,q,Ag (Ab A7 ex),Cb,Db,k1,k2,Au,go_sem]
 refine A3.f (fun _ _ _=>hK _ _) ?_
 cases kb with
 | false =>
  rw [if_pos rfl] at hE
  simp (disch:=omega) only [Aa,q,Ag (Ab A7 ex),Cb,Db,JQ,k1,k2,k3,k4,Au,Ar,go_sem]
  refine ⟨.mk (j+1) (g+1+1) (L++F1++[.mk 8 (b++x.n++e)]) (n+200),⟨show j+1≤is.length by omega,show m+2≤n+200 by omega,by show _=_;rw [Dj,hE,Aw];try simp only [zlf]⟩,by show is.length - (j+1)<is.length - j;omega,?_⟩
  dsimp only
  refine Ac ?_ (Ae.sub (Ae.cons ?_ (Ae.cons ?_ (Ae.base hf fun a ha hax=>?_)))) (by omega)
  .simp (disch:=omega) only [Aa,At j (by omega),zld,zlc,zle,go_sem]
   try simp [Nat.add_assoc]
  .simp (disch:=omega) only [Aa,Au,Ar,zlf,go_sem]
   try simp [zlf]
  .simp (disch:=omega) only [Aa,go_sem]
  .repeat rw [Aq _ _ (by omega)]
 | true =>
 rw [if_neg (by decide)] at hE
 simp (disch:=omega) only [Aa,q,Ag (Ab A7 ex),Cb,Db,JQ,k1,k2,Au,go_sem]
 refine A3.f (fun _ _ _=>hY _ _) ?_
 cases yb with
 | false =>
  rw [if_pos rfl] at hE
  simp (disch:=omega) only [Aa,q,Ag (Ab A7 ex),Cb,Db,JQ,k1,k2,k3,k4,Au,Ar,go_sem]
  refine ⟨.mk (j+1) (g+1+1) (L++F1++[.mk 10 (b++x.n++e)]) (n+200),⟨show j+1≤is.length by omega,show m+2≤n+200 by omega,by show _=_;rw [Dj,hE,Aw];try simp only [zlf]⟩,by show is.length - (j+1)<is.length - j;omega,?_⟩
  dsimp only
  refine Ac ?_ (Ae.sub (Ae.cons ?_ (Ae.cons ?_ (Ae.base hf fun a ha hax=>?_)))) (by omega)
  .simp (disch:=omega) only [Aa,At j (by omega),zld,zlc,zle,go_sem]
   try simp [Nat.add_assoc]
  .simp (disch:=omega) only [Aa,Au,Ar,zlf,go_sem]
   try simp [zlf]
  .simp (disch:=omega) only [Aa,go_sem]
  .repeat rw [Aq _ _ (by omega)]
 | true =>
  rw [if_neg (by decide),List.append_nil] at hE
  simp (disch:=omega) only [Aa,q,Ag (Ab A7 ex),Cb,Db,JQ,k1,k2,Au,Ar,go_sem]
  refine ⟨.mk (j+1) (g+1) (L++F1) (n+200),⟨show j+1≤is.length by omega,show m+2≤n+200 by omega,by show _=_;rw [Dj,hE,Aw];try simp only [zlf]⟩,by show is.length - (j+1)<is.length - j;omega,?_⟩
  dsimp only
  refine Ac ?_ (Ae.sub (Ae.cons ?_ (Ae.cons ?_ (Ae.base hf fun a ha hax=>?_)))) (by omega)
  .simp (disch:=omega) only [Aa,At j (by omega),zld,zlc,zle,go_sem]
   try simp [Nat.add_assoc]
  .simp (disch:=omega) only [Aa,Au,Ar,zlf,go_sem]
   try simp [zlf]
  .simp (disch:=omega) only [Aa,go_sem]
  .repeat rw [Aq _ _ (by omega)]
theorem Rs (a b:List Int) (hl:a.length≤1000000000000) (Fm:b.length≤1000000000000) (hp:CH) (m:Nat):Ah prog 166 hp m [.ds (Ad Dx a),.ds (Ad Dx b)] (.b (decide (a=b))):=by
 obtain ⟨R,hR⟩:∃R,decide (a=b)=R:=⟨_,rfl⟩
 rw [hR]
 refine Am func166 (by kernel_rfl) cc166 cr166 rfl fun hf=>?_;unfold ck166
 simp only [go_sem]
 refine Ai (fun c=>?_) (fun c=>?_)
 .have c:¬a.length=b.length:=by
   intro h
   simp [h] at c
  have:R=false:=by rw [←hR,decide_eq_false_iff_not];intro h;exact c (by rw [h])
  subst this
  simp only [go_sem]
 have ST:a.length=b.length:=by simp at c;omega
 simp (disch:=omega) only [Aa,go_sem]
 refine loop (fun q:Nat × Nat=>⟨[(0,.ds (Ad Dx a)),(1,.ds (Ad Dx b)),(5,.i .i64 q.1)],hp,q.2⟩) (fun q=>q.1≤a.length∧m≤q.2∧R=decide (a.drop q.1=b.drop q.1)) (fun q=>a.length - q.1) (0,m) ?_ ?_ (fun ⟨j,n⟩ hj=>?_)
 .exact ⟨by simp,by simp,hR.symm⟩
 .refine Ac ?_ (A6.refl _) (zna _)
  simp only [go_sem]
 dsimp only at hj
 obtain ⟨Cm,Ba,Aw⟩:=hj
 simp (disch:=omega) only [Aa,go_sem]
 refine Ai (fun d=>?_) (fun d=>?_)
 .have d:j<a.length:=by simpa using d
  have d2:j<b.length:=by omega
  obtain ⟨x,ex⟩:∃x,a[j]?=some x:=⟨a[j],by simp [d]⟩
  obtain ⟨y,ey⟩:∃x,b[j]?=some x:=⟨b[j],by simp [d2]⟩
  rw [A5 ex,A5 ey] at Aw
  simp (disch:=omega) only [Aa,d,d2,Ag (Ab Dx ex),Ag (Ab Dx ey),go_sem]
  refine Ai (fun c2=>?_) (fun c2=>?_)
  .have c2:¬x=y:=by intro h;simp [h] at c2
   have Aw:R=false:=by rw [Aw];simp [c2]
   subst Aw
   simp (disch:=omega) only [Aa,Ba,go_sem]
  .have c2:x=y:=by simpa using c2
   have Aw:R=decide (a.drop (j+1)=b.drop (j+1)):=by rw [Aw];simp [c2]
   simp (disch:=omega) only [Aa,go_sem]
   refine ⟨(j+1,_),⟨by dsimp only;omega,by dsimp only;omega,Aw⟩,by dsimp only;omega,Ac ?_ (A6.refl _) (zna _)⟩
   simp (disch:=omega) only [Aa,At j (by omega),go_sem]
 .have d:j=a.length:=by simp at d;omega
  subst d
  rw [List.drop_length,ST,List.drop_length] at Aw
  have Aw:R=true:=by rw [Aw];simp
  subst Aw
  simp (disch:=omega) only [Aa,Ba,go_sem]
def Kf (n:ByteArray) (w:List Int) (n':ByteArray) (w':List Int):Bool:=decide (n=n')&&decide (w=w')
theorem FU (n n':ByteArray) (w w':List Int) (hl:w.length≤1000000000000) (Fm:w'.length≤1000000000000) (hp:CH) (m:Nat):Ah prog 139 hp m [DC n w,DC n' w'] (.b (Kf n w n' w')):=by
 have hS:=Rs w w' hl Fm
 unfold Kf
 obtain ⟨b,hb⟩:∃b,decide (w=w')=b:=⟨_,rfl⟩
 rw [hb] at hS ⊢
 refine Am func139 (by kernel_rfl) cc139 cr139 rfl fun hf=>?_;unfold ck139
 simp only [go_sem]
 refine AA.f (fun _=>hS _ _) ?_
 simp only [go_sem]
noncomputable def M3 (doc:List Az) (n:ByteArray) (k:Int):Int:=if (A1 doc n).isSome=false∧Ck n=false then 8 else if ((A1 doc n).getD Dv).k=k then 0 else 9
theorem KM (doc:List Az) (FH:doc.length≤1000000000000) (n:ByteArray) (k:Int) (hp:CH) (m:Nat):Ah prog 131 hp m [B5 doc,.s n,.i .i64 k] (.i .i64 (M3 doc n k)):=by
 have hF:=BM doc FH n
 have hS:=Ds n
 unfold M3
 obtain ⟨R,hR⟩:∃R,A1 doc n=R:=⟨_,rfl⟩
 rw [hR] at hF ⊢
 unfold DH at hF
 obtain ⟨sb,S9⟩:∃b,Ck n=b:=⟨_,rfl⟩
 rw [S9] at hS ⊢
 obtain ⟨t,ht⟩:∃t,R.getD Dv=t:=⟨_,rfl⟩
 rw [ht] at hF ⊢
 obtain ⟨rb,SS⟩:∃b,R.isSome=b:=⟨_,rfl⟩
 rw [SS] at hF ⊢
 refine Am func131 (by kernel_rfl) cc131 cr131 rfl fun hf=>?_;unfold ck131
 simp only [go_sem]
 refine Af.f (hF _ _) ?_
 simp (disch:=omega) only [Aa,go_sem]
 refine AA.f (fun _=>hS _ _) ?_
 cases rb<;>cases sb
 .simp (disch:=omega) only [Aa,go_sem]
  try rfl
 all_goals
  simp (disch:=omega) only [Aa,go_sem]
  refine Ai (fun c=>?_) (fun c=>?_)
  .have c:¬t.k=k:=by simpa using c
   simp only [c,if_false]
   simp (disch:=omega) only [Aa,go_sem]
   try rfl
  .have c:t.k=k:=by simpa using c
   simp only [c,if_true]
   simp (disch:=omega) only [Aa,go_sem]
   try rfl
theorem ZC (doc:List Az) (hd:DocOk doc) (n n':ByteArray):∀(N:Nat) (w w':List Int),w.length+w'.length=N→w.length+w'.length≤1000000→∃r:Bool,∀hp m,Ah prog 163 hp m [B5 doc,DC n w,DC n' w'] (.b r):=by
 intro N
 induction N using Nat.strongRecOn with
 | ind N ih =>
 intro w w' hN hB
 have h1:(Cz w).length≤w.length:=Cs w
 have h2:(Cz w').length≤w'.length:=Cs w'
 have e1:=D0 n' w' (by omega)
 have e2:=D0 n w (by omega)
 have e3:=DE n w (by omega)
 have e4:=DE n' w' (by omega)
 have e5:=Hv n w (by omega)
 have e6:=Hv n' w' (by omega)
 have e7:=Z1 doc hd n n'
 have nl:∀w:List Int,FSw w=true→(Cz w).length<w.length:=fun w h=>by
  cases w with
  | nil=>cases h
  | cons a w=>unfold Cz;rw [if_pos h];simp
 have il:∀w:List Int,CK w=true→(DT w).length<w.length:=fun w h=>by
  have:=Cs w
  unfold CK at h
  unfold DT
  cases hw:Cz w with
  | nil=>rw [hw] at h;cases h
  | cons a v=>rw [hw] at this;simp at this ⊢;omega
 by_cases c1:FSw w'=true
 .have:=nl w' c1
  rw [c1] at e1
  obtain ⟨r,hr⟩:=ih _ (by omega) (Cz w) (Cz w') rfl (by omega)
  by_cases c2:FSw w=true
  .rw [c2] at e2
   refine ⟨r,fun hp m=>?_⟩
   refine Am func163 (by kernel_rfl) cc163 cr163 rfl fun hf=>?_;unfold ck163
   simp only [go_sem]
   refine Af.f (e1 _ _) ?_
   simp (disch:=omega) only [Aa,go_sem]
   refine A3.f (fun _ _ _=>e2 _ _) ?_
   simp (disch:=omega) only [Aa,go_sem]
   refine AG.f (fun _ _ _=>e3 _ _) ?_
   simp (disch:=omega) only [Aa,go_sem]
   refine AG.f (fun _ _ _=>e4 _ _) ?_
   simp (disch:=omega) only [Aa,go_sem]
   refine AG.f (fun _ _ _=>hr _ _) ?_
   simp (disch:=omega) only [Aa,go_sem]
  .have c2:FSw w=false:=by simpa using c2
   rw [c2] at e2
   refine ⟨false,fun hp m=>?_⟩
   refine Am func163 (by kernel_rfl) cc163 cr163 rfl fun hf=>?_;unfold ck163
   simp only [go_sem]
   refine Af.f (e1 _ _) ?_
   simp (disch:=omega) only [Aa,go_sem]
   refine A3.f (fun _ _ _=>e2 _ _) ?_
   simp (disch:=omega) only [Aa,go_sem]
   refine AG.no ?_
   simp (disch:=omega) only [Aa,go_sem]
   refine AG.no ?_
   simp (disch:=omega) only [Aa,go_sem]
   refine AG.no ?_
   simp (disch:=omega) only [Aa,go_sem]
 have c1:FSw w'=false:=by simpa using c1
 rw [c1] at e1
 by_cases c2:FSw w=true
 .have:=nl w c2
  rw [c2] at e2
  obtain ⟨r,hr⟩:=ih _ (by omega) (Cz w) w' rfl (by omega)
  refine ⟨r,fun hp m=>?_⟩
  refine Am func163 (by kernel_rfl) cc163 cr163 rfl fun hf=>?_;unfold ck163
  simp only [go_sem]
  refine Af.f (e1 _ _) ?_
  simp (disch:=omega) only [Aa,go_sem]
  refine Af.f (e2 _ _) ?_
  simp (disch:=omega) only [Aa,go_sem]
  refine A3.f (fun _ _ _=>e3 _ _) ?_
  simp (disch:=omega) only [Aa,go_sem]
  refine A3.f (fun _ _ _=>hr _ _) ?_
  simp (disch:=omega) only [Aa,go_sem]
 have c2:FSw w=false:=by simpa using c2
 rw [c2] at e2
 by_cases c3:CK w=true
 .have k1:=il w c3
  rw [if_pos c3] at e5
  by_cases c4:CK w'=true
  .have k2:=il w' c4
   rw [if_pos c4] at e6
   obtain ⟨r,hr⟩:=ih _ (by omega) (DT w) (DT w') rfl (by omega)
   refine ⟨r,fun hp m=>?_⟩
   refine Am func163 (by kernel_rfl) cc163 cr163 rfl fun hf=>?_;unfold ck163
   simp only [go_sem]
   refine Af.f (e1 _ _) ?_
   simp (disch:=omega) only [Aa,go_sem]
   refine Af.f (e2 _ _) ?_
   simp (disch:=omega) only [Aa,go_sem]
   refine Af.f (e5 _ _) ?_
   simp (disch:=omega) only [Aa,go_sem]
   refine Af.f (e6 _ _) ?_
   simp (disch:=omega) only [Aa,go_sem]
   refine Af.f (hr _ _) ?_
   simp (disch:=omega) only [Aa,go_sem]
  .rw [if_neg c4] at e6
   refine ⟨false,fun hp m=>?_⟩
   refine Am func163 (by kernel_rfl) cc163 cr163 rfl fun hf=>?_;unfold ck163
   simp only [go_sem]
   refine Af.f (e1 _ _) ?_
   simp (disch:=omega) only [Aa,go_sem]
   refine Af.f (e2 _ _) ?_
   simp (disch:=omega) only [Aa,go_sem]
   refine Af.f (e5 _ _) ?_
   simp (disch:=omega) only [Aa,go_sem]
   refine Af.f (e6 _ _) ?_
   simp (disch:=omega) only [Aa,go_sem]
   try refine AA.f (fun _=>e7 _ _) ?_
   simp (disch:=omega) only [Aa,go_sem]
 .rw [if_neg c3] at e5
  by_cases c4:CK w'=true
  .rw [if_pos c4] at e6
   refine ⟨false,fun hp m=>?_⟩
   refine Am func163 (by kernel_rfl) cc163 cr163 rfl fun hf=>?_;unfold ck163
   simp only [go_sem]
   refine Af.f (e1 _ _) ?_
   simp (disch:=omega) only [Aa,go_sem]
   refine Af.f (e2 _ _) ?_
   simp (disch:=omega) only [Aa,go_sem]
   refine Af.f (e5 _ _) ?_
   simp (disch:=omega) only [Aa,go_sem]
   refine Af.f (e6 _ _) ?_
   simp (disch:=omega) only [Aa,go_sem]
   try refine AA.f (fun _=>e7 _ _) ?_
   simp (disch:=omega) only [Aa,go_sem]
  .rw [if_neg c4] at e6
   refine ⟨decide (n=n')||decide (n∈En doc n'),fun hp m=>?_⟩
   obtain ⟨ib,hib⟩:∃b,decide (n∈En doc n')=b:=⟨_,rfl⟩
   rw [hib] at e7 ⊢
   refine Am func163 (by kernel_rfl) cc163 cr163 rfl fun hf=>?_;unfold ck163
   simp only [go_sem]
   refine Af.f (e1 _ _) ?_
   simp (disch:=omega) only [Aa,go_sem]
   refine Af.f (e2 _ _) ?_
   simp (disch:=omega) only [Aa,go_sem]
   refine Af.f (e5 _ _) ?_
   simp (disch:=omega) only [Aa,go_sem]
   refine Af.f (e6 _ _) ?_
   simp (disch:=omega) only [Aa,go_sem]
   refine AA.f (fun _=>e7 _ _) ?_
   simp (disch:=omega) only [Aa,go_sem]
end Go.Proofs.YtgfidgoefioigaaGreatDoor
