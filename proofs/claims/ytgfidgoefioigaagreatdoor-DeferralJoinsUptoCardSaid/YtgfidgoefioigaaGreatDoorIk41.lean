/- Proof. Conditions: none. -/
import Derived.Test.YtgfidgoefioigaaGreatDoorIk40
noncomputable section
open Nat renaming le_refl->zv,add_assoc->ze
open Go.Proofs.Tryz
open List renaming length_cons->zlc,length_append->zld,length_nil->zle,append_assoc->zlf
namespace Go.Proofs.YtgfidgoefioigaaGreatDoor
open Go.Eng
set_option linter.all false
set_option maxRecDepth 20000
set_option maxHeartbeats 2000000
theorem Ax (a b:List Da):Ab AM a++Ab AM b=Ab AM (a++b):=List.map_append.symm
theorem Aq (a:List Da) (e:Int) (s:qB):Ab AM a++[[AV.i .i64 e,.s s]]=Ab AM (a++[.mk e s]):=Bd AM a (.mk e s)
inductive R1
 | mk (j g:Nat) (l:List Da) (n:Nat)
def QO (doc:List Av) (is:List BG) (b e:qB) (j:Nat) (x:BG):List Da :=
 F7 x.n false (BY (is.take j) x.n).isSome (b++x.n++e)++(if (BV x.tn||(Ay doc x.tn).isSome)=false then [.mk 8 (b++x.n++e)] else if Jj doc x.tn=false then [.mk 10 (b++x.n++e)] else [])
theorem Pj (doc:List Av) (is:List BG) (b e:qB) (j:Nat) (x:BG):(QO doc is b e j x).length<=3:=by
 unfold QO
 rw [zld]
 have:=Ey x.n false (BY (is.take j) x.n).isSome (b++x.n++e)
 split
 .simp;omega
 .split
  .simp;omega
  .simp;omega
def OS (doc:List Av) (is:List BG) (b e:qB):List Da:=Gn (QO doc is b e) is is.length
theorem EZ (doc:List Av) {is:List BG} (hl:is.length<=16) (b e:qB):(OS doc is b e).length<=48:=by
 have:=Ds (A:=QO doc is b e) (l:=is) (fun j x _=>Pj doc is b e j x) is.length
 unfold OS
 omega
theorem GL (doc:List Av) (GB:doc.length<=64) (is:List BG) (hl:is.length<=16) (hn:∀x∈is,x.n.size<=64) (b e:qB) (hb:b.size<=100000) (he:e.size<=100000) (hp:CH) (m:Nat):Ie 86 hp m [B9 doc,.ds (Ab AD is),.s b,.s e] (OS doc is b e):=by
 obtain ⟨RR,AC⟩:=A7 (OS doc is b e)
 rw [AC]
 unfold OS at AC
 refine F4 (fun l:List Da=>l=RR) (fun _=>[]) (fun l=>.ds (Ab AM l)) func86 (tA cc86) (tB cc86) (tC cc86) rfl (fun hf i hi=>trivial) fun hf=>?_
 unfold ck86
 simp only [go_sem]
 refine loop (fun p:R1=>match p with
  | .mk j g L n=>⟨[(1,.ds (Ab AD is)),(2,.s b),(3,.s e),(4,.bx m 0),(9,.rw (m+1) g L.length),(10,.i .i64 j)],(m+1,.rw g 2 (Ab AM L))::(m,.bx [.ds (Ab BB doc)])::hp,n⟩)
  (fun p=>match p with | .mk j g L n=>j<=is.length∧m+2<=n∧L=Gn (QO doc is b e) is j) (fun p=>match p with | .mk j g L n=>is.length - j) (.mk 0 0 [] (m+2)) ?_ ?_ (fun p hj=>?_)
 .exact ⟨Nat.zero_le _,zv _,rfl⟩
 .dsimp only
  refine (By (t:=9) (m:=2) ?_).trans (Lt hf ?_ ?_ ?_ (fun a ha d5=>?_) (zv _))
  .simp (disch:=omega) only [go_sem]
  .simp (disch:=omega) only [go_sem]
  .simp (disch:=omega) only [go_sem]
   try rfl
  .simp (disch:=omega) only [go_sem]
  .repeat rw [Ak _ _ (by omega)]
 obtain ⟨j,g,L,n⟩:=p
 obtain ⟨Cq,Be,At⟩:=hj
 have hLb:L.length<=3*j:=by rw [At];exact Ds (fun j x _=>Pj doc is b e j x) j
 have Ck:(Ab AM L).length=L.length:=As _ _
 have Lq:(Ab AM L).take L.length=Ab AM L:=List.take_of_length_le (by omega)
 dsimp only
 simp (disch:=omega) only [go_sem]
 refine Af (fun q=>?_) (fun q=>?_)
 case' refine_2=>
  have BD:m<=n:=by omega
  have q:j=is.length:=by simp at q;omega
  subst q
  rw [AC] at At
  simp (disch:=omega) only [go_sem]
  refine Co L At ?_
  simp (disch:=omega) only [BD,Ck,zv,Lq,go_sem]
 have q:j<is.length:=by simpa using q
 obtain ⟨x,ex⟩:∃x,is[j]?=some x:=⟨is[j],by simp [q]⟩
 have hx:=hn x (List.mem_of_getElem? ex)
 have hI:=D7 (is.take j) (by rw [List.length_take];omega) x.n
 obtain ⟨R,hR⟩:=A7 (BY (is.take j) x.n)
 have D6:=Fi (A:=QO doc is b e) ex
 have hE:QO doc is b e j x=F7 x.n false (BY (is.take j) x.n).isSome (b++x.n++e)++(if (BV x.tn||(Ay doc x.tn).isSome)=false then [.mk 8 (b++x.n++e)] else if Jj doc x.tn=false then [.mk 10 (b++x.n++e)] else []):=rfl
 rw [hR] at hI hE
 unfold PK at hI
 have hK:=Pi doc GB x.tn
 obtain ⟨kb,hkb⟩:=A7 ((BV x.tn||(Ay doc x.tn).isSome))
 rw [hkb] at hK hE
 have hY:=H8 doc GB x.tn
 obtain ⟨yb,hyb⟩:=A7 (Jj doc x.tn)
 rw [hyb] at hY hE
 have z1:b.size+x.n.size<=9223372036854775807:=by omega
 have z2:(b++x.n).size+e.size<=9223372036854775807:=by rw [ByteArray.size_append];omega
 have z3:0<=(j:Int)∧(j:Int)<=(is.length:Int):=by omega
 simp (disch:=omega) only [q,Ad (Aa AD ex),z1,z2,z3.1,z3.2,true_and,go_sem]
 refine ⟨by omega,?_⟩
 refine Au.f (fun _ _ _=>hI _ _) ?_
 simp (disch:=omega) only [q,Ad (Aa AD ex),go_sem]
 refine Ac.r (K6 _ _ _ _ _ _) ?_
 rintro Am n' r ⟨F1,NO,e1,e2,e3⟩
 subst e1
 subst e2
 subst e3
 have Hg:F1=_:=NO
 rw [<-Hg] at hE
 have NO:F1.length<=2:=by rw [Hg];exact Ey _ _ _ _
 have k1:(L.length+F1.length)*24<=140737488355328:=by omega
 have k2:L.length+F1.length<=9223372036854775807:=by omega
 have k3:(L.length+(F1.length+1))*24<=140737488355328:=by omega
 have k4:L.length+(F1.length+1)<=9223372036854775807:=by omega
 have Dz:(Ab AM F1).length=F1.length:=As _ _
 have JK:(Ab AM (L++F1)).length=L.length+F1.length:=by rw [As,zld]
 simp only [List.nil_append]
 simp (disch:=omega) only [q,Ad (Aa AD ex),Ck,Dz,k1,k2,Ax,go_sem]
 refine Au.f (fun _ _ _=>hK _ _) ?_
 cases kb with
 |false=>
  rw [iP rfl] at hE
  simp (disch:=omega) only [q,Ad (Aa AD ex),Ck,Dz,JK,k1,k2,k3,k4,Ax,Aq,go_sem]
  refine ⟨.mk (j+1) (g+1+1) (L++F1++[.mk 8 (b++x.n++e)]) (n+200),⟨show j+1<=is.length by omega,show m+2<=n+200 by omega,by show _=_;rw [D6,hE,At];try simp only [zlf]⟩,by show is.length - (j+1)<is.length - j;omega,?_⟩
  dsimp only
  refine Lt hf ?_ ?_ ?_ (fun a ha d5=>?_) (by omega)
  .simp (disch:=omega) only [Ao j (by omega),zld,zlc,zle,go_sem]
   try simp [ze]
  .simp (disch:=omega) only [Ax,Aq,zlf,go_sem]
   try simp [zlf]
  .simp (disch:=omega) only [go_sem]
  .repeat rw [Ak _ _ (by omega)]
 |true=>
 rw [iN (by decide)] at hE
 simp (disch:=omega) only [q,Ad (Aa AD ex),Ck,Dz,JK,k1,k2,Ax,go_sem]
 refine Au.f (fun _ _ _=>hY _ _) ?_
 cases yb with
 |false=>
  rw [iP rfl] at hE
  simp (disch:=omega) only [q,Ad (Aa AD ex),Ck,Dz,JK,k1,k2,k3,k4,Ax,Aq,go_sem]
  refine ⟨.mk (j+1) (g+1+1) (L++F1++[.mk 10 (b++x.n++e)]) (n+200),⟨show j+1<=is.length by omega,show m+2<=n+200 by omega,by show _=_;rw [D6,hE,At];try simp only [zlf]⟩,by show is.length - (j+1)<is.length - j;omega,?_⟩
  dsimp only
  refine Lt hf ?_ ?_ ?_ (fun a ha d5=>?_) (by omega)
  .simp (disch:=omega) only [Ao j (by omega),zld,zlc,zle,go_sem]
   try simp [ze]
  .simp (disch:=omega) only [Ax,Aq,zlf,go_sem]
   try simp [zlf]
  .simp (disch:=omega) only [go_sem]
  .repeat rw [Ak _ _ (by omega)]
 |true=>
  rw [iN (by decide),List.append_nil] at hE
  simp (disch:=omega) only [q,Ad (Aa AD ex),Ck,Dz,JK,k1,k2,Ax,Aq,go_sem]
  refine ⟨.mk (j+1) (g+1) (L++F1) (n+200),⟨show j+1<=is.length by omega,show m+2<=n+200 by omega,by show _=_;rw [D6,hE,At];try simp only [zlf]⟩,by show is.length - (j+1)<is.length - j;omega,?_⟩
  dsimp only
  refine Lt hf ?_ ?_ ?_ (fun a ha d5=>?_) (by omega)
  .simp (disch:=omega) only [Ao j (by omega),zld,zlc,zle,go_sem]
   try simp [ze]
  .simp (disch:=omega) only [Ax,Aq,zlf,go_sem]
   try simp [zlf]
  .simp (disch:=omega) only [go_sem]
  .repeat rw [Ak _ _ (by omega)]
theorem TK (a b:List Int) (hl:a.length<=1000000000000) (Gh:b.length<=1000000000000) (hp:CH) (m:Nat):Ae prog 166 hp m [.ds (Ab D2 a),.ds (Ab D2 b)] (.b (decide (a=b))):=by
 obtain ⟨R,hR⟩:=A7 (decide (a=b))
 rw [hR]
 refine Al func166 (tA cc166) (tB cc166) (tC cc166) rfl fun hf=>?_;unfold ck166
 simp only [go_sem]
 refine Af (fun c=>?_) (fun c=>?_)
 .have c:¬a.length=b.length:=by
   intro h
   simp [h] at c
  have:R=false:=by rw [<-hR,decide_eq_false_iff_not];intro h;exact c (by rw [h])
  subst this
  simp only [go_sem]
 have Vs:a.length=b.length:=by simp at c;omega
 simp (disch:=omega) only [go_sem]
 refine loop (fun q:Nat×Nat=>⟨[(0,.ds (Ab D2 a)),(1,.ds (Ab D2 b)),(5,.i .i64 q.1)],hp,q.2⟩) (fun q=>q.1<=a.length∧m<=q.2∧R=decide (a.drop q.1=b.drop q.1)) (fun q=>a.length - q.1) (0,m) ?_ ?_ (fun ⟨j,n⟩ hj=>?_)
 .exact ⟨by simp,by simp,hR.symm⟩
 .refine Dd ?_
  simp only [go_sem]
 dsimp only at hj
 obtain ⟨Cq,Be,At⟩:=hj
 simp (disch:=omega) only [go_sem]
 refine Af (fun d=>?_) (fun d=>?_)
 .have d:j<a.length:=by simpa using d
  have d2:j<b.length:=by omega
  obtain ⟨x,ex⟩:∃x,a[j]?=some x:=⟨a[j],by simp [d]⟩
  obtain ⟨y,ey⟩:∃x,b[j]?=some x:=⟨b[j],by simp [d2]⟩
  rw [A2 ex,A2 ey] at At
  simp (disch:=omega) only [d,d2,Ad (Aa D2 ex),Ad (Aa D2 ey),go_sem]
  refine Af (fun c2=>?_) (fun c2=>?_)
  .have c2:¬x=y:=by intro h;simp [h] at c2
   have At:R=false:=by rw [At];simp [c2]
   subst At
   simp (disch:=omega) only [Be,go_sem]
  .have c2:x=y:=by simpa using c2
   have At:R=decide (a.drop (j+1)=b.drop (j+1)):=by rw [At];simp [c2]
   simp (disch:=omega) only [go_sem]
   refine ⟨(j+1,_),⟨by dsimp only;omega,by dsimp only;omega,At⟩,by dsimp only;omega,Dd ?_⟩
   simp (disch:=omega) only [Ao j (by omega),go_sem]
 .have d:j=a.length:=by simp at d;omega
  subst d
  rw [List.drop_length,Vs,List.drop_length] at At
  have At:R=true:=by rw [At];simp
  subst At
  simp (disch:=omega) only [Be,go_sem]
def LB (n:qB) (w:List Int) (n':qB) (w':List Int):Bool:=decide (n=n')&&decide (w=w')
theorem GF (n n':qB) (w w':List Int) (hl:w.length<=1000000000000) (Gh:w'.length<=1000000000000) (hp:CH) (m:Nat):Ae prog 139 hp m [DW n w,DW n' w'] (.b (LB n w n' w')):=by
 have hS:=TK w w' hl Gh
 unfold LB
 obtain ⟨b,hb⟩:=A7 (decide (w=w'))
 rw [hb] at hS ⊢
 refine Al func139 (tA cc139) (tB cc139) (tC cc139) rfl fun hf=>?_;unfold ck139
 simp only [go_sem]
 refine AH.f (fun _=>hS _ _) ?_
 simp only [go_sem]
def P7 (doc:List Av) (n:qB) (k:Int):Int:=if (Ay doc n).isSome=false∧BV n=false then 8 else if ((Ay doc n).getD DJ).k=k then 0 else 9
theorem Mr (doc:List Av) (GB:doc.length<=1000000000000) (n:qB) (k:Int) (hp:CH) (m:Nat):Ae prog 131 hp m [B9 doc,.s n,.i .i64 k] (.i .i64 (P7 doc n k)):=by
 have hF:=BW doc GB n
 have hS:=DE n
 unfold P7
 obtain ⟨R,hR⟩:=A7 (Ay doc n)
 rw [hR] at hF ⊢
 unfold Eh at hF
 obtain ⟨sb,Vh⟩:=A7 (BV n)
 rw [Vh] at hS ⊢
 obtain ⟨t,ht⟩:=A7 (R.getD DJ)
 rw [ht] at hF ⊢
 obtain ⟨rb,Vr⟩:=A7 (R.isSome)
 rw [Vr] at hF ⊢
 refine Al func131 (tA cc131) (tB cc131) (tC cc131) rfl fun hf=>?_;unfold ck131
 simp only [go_sem]
 refine Ac.f (hF _ _) ?_
 simp (disch:=omega) only [go_sem]
 refine AH.f (fun _=>hS _ _) ?_
 cases rb<;>cases sb
 .simp (disch:=omega) only [go_sem]
  try rfl
 all_goals
  simp (disch:=omega) only [go_sem]
  refine Af (fun c=>?_) (fun c=>?_)
  .have c:¬t.k=k:=by simpa using c
   simp only [c,if_false]
   simp (disch:=omega) only [go_sem]
   try rfl
  .have c:t.k=k:=by simpa using c
   simp only [c,if_true]
   simp (disch:=omega) only [go_sem]
   try rfl
theorem Afq (doc:List Av) (hd:DocOk doc) (n n':qB):∀(N:Nat) (w w':List Int),w.length+w'.length=N->w.length+w'.length<=1000000->∃r:Bool,∀hp m,Ae prog 163 hp m [B9 doc,DW n w,DW n' w'] (.b r):=by
 intro N
 induction N using Nat.strongRecOn with
 |ind N ih=>
 intro w w' hN hB
 have h1:(B0 w).length<=w.length:=CB w
 have h2:(B0 w').length<=w'.length:=CB w'
 have e1:=DT n' w' (by omega)
 have e2:=DT n w (by omega)
 have e3:=Ei n w (by omega)
 have e4:=Ei n' w' (by omega)
 have e5:=IN n w (by omega)
 have e6:=IN n' w' (by omega)
 have e7:=Afc doc hd n n'
 have nl:∀w:List Int,Ga w=true->(B0 w).length<w.length:=fun w h=>by
  cases w with
  |nil=>cases h
  |cons a w=>unfold B0;rw [iP h];simp
 have il:∀w:List Int,Ca w=true->(Cg w).length<w.length:=fun w h=>by
  have:=CB w
  unfold Ca at h
  unfold Cg
  cases hw:B0 w with
  |nil=>rw [hw] at h;cases h
  |cons a v=>rw [hw] at this;simp at this ⊢;omega
 by_cases c1:Ga w'=true
 .have:=nl w' c1
  rw [c1] at e1
  obtain ⟨r,hr⟩:=ih _ (by omega) (B0 w) (B0 w') rfl (by omega)
  by_cases c2:Ga w=true
  .rw [c2] at e2
   refine ⟨r,fun hp m=>?_⟩
   refine Al func163 (tA cc163) (tB cc163) (tC cc163) rfl fun hf=>?_;unfold ck163
   simp only [go_sem]
   refine Ac.f (e1 _ _) ?_
   simp (disch:=omega) only [go_sem]
   refine Au.f (fun _ _ _=>e2 _ _) ?_
   simp (disch:=omega) only [go_sem]
   refine AJ.f (fun _ _ _=>e3 _ _) ?_
   simp (disch:=omega) only [go_sem]
   refine AJ.f (fun _ _ _=>e4 _ _) ?_
   simp (disch:=omega) only [go_sem]
   refine AJ.f (fun _ _ _=>hr _ _) ?_
   simp (disch:=omega) only [go_sem]
  .have c2:Ga w=false:=by simpa using c2
   rw [c2] at e2
   refine ⟨false,fun hp m=>?_⟩
   refine Al func163 (tA cc163) (tB cc163) (tC cc163) rfl fun hf=>?_;unfold ck163
   simp only [go_sem]
   refine Ac.f (e1 _ _) ?_
   simp (disch:=omega) only [go_sem]
   refine Au.f (fun _ _ _=>e2 _ _) ?_
   simp (disch:=omega) only [go_sem]
   refine AJ.no ?_
   simp (disch:=omega) only [go_sem]
   refine AJ.no ?_
   simp (disch:=omega) only [go_sem]
   refine AJ.no ?_
   simp (disch:=omega) only [go_sem]
 have c1:Ga w'=false:=by simpa using c1
 rw [c1] at e1
 by_cases c2:Ga w=true
 .have:=nl w c2
  rw [c2] at e2
  obtain ⟨r,hr⟩:=ih _ (by omega) (B0 w) w' rfl (by omega)
  refine ⟨r,fun hp m=>?_⟩
  refine Al func163 (tA cc163) (tB cc163) (tC cc163) rfl fun hf=>?_;unfold ck163
  simp only [go_sem]
  refine Ac.f (e1 _ _) ?_
  simp (disch:=omega) only [go_sem]
  refine Ac.f (e2 _ _) ?_
  simp (disch:=omega) only [go_sem]
  refine Au.f (fun _ _ _=>e3 _ _) ?_
  simp (disch:=omega) only [go_sem]
  refine Au.f (fun _ _ _=>hr _ _) ?_
  simp (disch:=omega) only [go_sem]
 have c2:Ga w=false:=by simpa using c2
 rw [c2] at e2
 by_cases c3:Ca w=true
 .have k1:=il w c3
  rw [iP c3] at e5
  by_cases c4:Ca w'=true
  .have k2:=il w' c4
   rw [iP c4] at e6
   obtain ⟨r,hr⟩:=ih _ (by omega) (Cg w) (Cg w') rfl (by omega)
   refine ⟨r,fun hp m=>?_⟩
   refine Al func163 (tA cc163) (tB cc163) (tC cc163) rfl fun hf=>?_;unfold ck163
   simp only [go_sem]
   refine Ac.f (e1 _ _) ?_
   simp (disch:=omega) only [go_sem]
   refine Ac.f (e2 _ _) ?_
   simp (disch:=omega) only [go_sem]
   refine Ac.f (e5 _ _) ?_
   simp (disch:=omega) only [go_sem]
   refine Ac.f (e6 _ _) ?_
   simp (disch:=omega) only [go_sem]
   refine Ac.f (hr _ _) ?_
   simp (disch:=omega) only [go_sem]
  .rw [iN c4] at e6
   refine ⟨false,fun hp m=>?_⟩
   refine Al func163 (tA cc163) (tB cc163) (tC cc163) rfl fun hf=>?_;unfold ck163
   simp only [go_sem]
   refine Ac.f (e1 _ _) ?_
   simp (disch:=omega) only [go_sem]
   refine Ac.f (e2 _ _) ?_
   simp (disch:=omega) only [go_sem]
   refine Ac.f (e5 _ _) ?_
   simp (disch:=omega) only [go_sem]
   refine Ac.f (e6 _ _) ?_
   simp (disch:=omega) only [go_sem]
   try refine AH.f (fun _=>e7 _ _) ?_
   simp (disch:=omega) only [go_sem]
 .rw [iN c3] at e5
  by_cases c4:Ca w'=true
  .rw [iP c4] at e6
   refine ⟨false,fun hp m=>?_⟩
   refine Al func163 (tA cc163) (tB cc163) (tC cc163) rfl fun hf=>?_;unfold ck163
   simp only [go_sem]
   refine Ac.f (e1 _ _) ?_
   simp (disch:=omega) only [go_sem]
   refine Ac.f (e2 _ _) ?_
   simp (disch:=omega) only [go_sem]
   refine Ac.f (e5 _ _) ?_
   simp (disch:=omega) only [go_sem]
   refine Ac.f (e6 _ _) ?_
   simp (disch:=omega) only [go_sem]
   try refine AH.f (fun _=>e7 _ _) ?_
   simp (disch:=omega) only [go_sem]
  .rw [iN c4] at e6
   refine ⟨decide (n=n')||decide (n∈Dj doc n'),fun hp m=>?_⟩
   obtain ⟨ib,hib⟩:=A7 (decide (n∈Dj doc n'))
   rw [hib] at e7 ⊢
   refine Al func163 (tA cc163) (tB cc163) (tC cc163) rfl fun hf=>?_;unfold ck163
   simp only [go_sem]
   refine Ac.f (e1 _ _) ?_
   simp (disch:=omega) only [go_sem]
   refine Ac.f (e2 _ _) ?_
   simp (disch:=omega) only [go_sem]
   refine Ac.f (e5 _ _) ?_
   simp (disch:=omega) only [go_sem]
   refine Ac.f (e6 _ _) ?_
   simp (disch:=omega) only [go_sem]
   refine AH.f (fun _=>e7 _ _) ?_
   simp (disch:=omega) only [go_sem]
