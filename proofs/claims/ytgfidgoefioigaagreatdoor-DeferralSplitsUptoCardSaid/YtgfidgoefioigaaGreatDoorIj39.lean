/- Proof. Conditions: none. -/
import Derived.Test.YtgfidgoefioigaaGreatDoorIj38
noncomputable section
open Nat renaming le_refl->zx,add_assoc->zd
open Go.Proofs.Tryz
open List renaming length_cons->zlc,length_append->zld,length_nil->zle,append_assoc->zlf
namespace Go.Proofs.YtgfidgoefioigaaGreatDoor
open Go.Eng
set_option linter.all false
set_option maxRecDepth 20000
set_option maxHeartbeats 2000000
theorem Ay (a b:List Dn):Ab AR a++Ab AR b=Ab AR (a++b):=List.map_append.symm
theorem Av (a:List Dn) (e:Int) (s:qB):Ab AR a++[[AV.i .i64 e,.s s]]=Ab AR (a++[.mk e s]):=AX AR a (.mk e s)
inductive RY
 | mk (j g:Nat) (l:List Dn) (n:Nat)
def Rm (doc:List Aw) (is:List BN) (b e:qB) (j:Nat) (x:BN):List Dn :=
 Gr x.n false (Cd (is.take j) x.n).isSome (b++x.n++e)++(if (BU x.tn||(Az doc x.tn).isSome)=false then [.mk 8 (b++x.n++e)] else if JF doc x.tn=false then [.mk 10 (b++x.n++e)] else [])
theorem PA (doc:List Aw) (is:List BN) (b e:qB) (j:Nat) (x:BN):(Rm doc is b e j x).length<=3:=by
 unfold Rm
 rw [zld]
 have:=EE x.n false (Cd (is.take j) x.n).isSome (b++x.n++e)
 split
 .simp;omega
 .split
  .simp;omega
  .simp;omega
def Px (doc:List Aw) (is:List BN) (b e:qB):List Dn:=Hw (Rm doc is b e) is is.length
theorem Ft (doc:List Aw) {is:List BN} (hl:is.length<=16) (b e:qB):(Px doc is b e).length<=48:=by
 have:=D4 (A:=Rm doc is b e) (l:=is) (fun j x _=>PA doc is b e j x) is.length
 unfold Px
 omega
theorem Hf (doc:List Aw) (G0:doc.length<=64) (is:List BN) (hl:is.length<=16) (hn:∀x∈is,x.n.size<=64) (b e:qB) (hb:b.size<=100000) (he:e.size<=100000) (hp:CH) (m:Nat):IA 86 hp m [B0 doc,.ds (Ab AD is),.s b,.s e] (Px doc is b e):=by
 obtain ⟨RR,A9⟩:=A5 (Px doc is b e)
 rw [A9]
 unfold Px at A9
 refine FP (fun l:List Dn=>l=RR) (fun _=>[]) (fun l=>.ds (Ab AR l)) func86 (tA cc86) (tB cc86) (tC cc86) rfl (fun hf i hi=>trivial) fun hf=>?_
 unfold ck86
 simp only [go_sem]
 refine loop (fun p:RY=>match p with
  | .mk j g L n=>⟨[(1,.ds (Ab AD is)),(2,.s b),(3,.s e),(4,.bx m 0),(9,.rw (m+1) g L.length),(10,.i .i64 j)],(m+1,.rw g 2 (Ab AR L))::(m,.bx [.ds (Ab B8 doc)])::hp,n⟩)
  (fun p=>match p with | .mk j g L n=>j<=is.length∧m+2<=n∧L=Hw (Rm doc is b e) is j) (fun p=>match p with | .mk j g L n=>is.length - j) (.mk 0 0 [] (m+2)) ?_ ?_ (fun p hj=>?_)
 .exact ⟨Nat.zero_le _,zx _,rfl⟩
 .dsimp only
  refine (Bo (t:=9) (m:=2) ?_).trans (Mb hf ?_ ?_ ?_ (fun a ha c7=>?_) (zx _))
  .simp (disch:=omega) only [go_sem]
  .simp (disch:=omega) only [go_sem]
  .simp (disch:=omega) only [go_sem]
   try rfl
  .simp (disch:=omega) only [go_sem]
  .repeat rw [Ai _ _ (by omega)]
 obtain ⟨j,g,L,n⟩:=p
 obtain ⟨Cg,Bc,As⟩:=hj
 have hLb:L.length<=3*j:=by rw [As];exact D4 (fun j x _=>PA doc is b e j x) j
 have BS:(Ab AR L).length=L.length:=Ao _ _
 have LV:(Ab AR L).take L.length=Ab AR L:=List.take_of_length_le (by omega)
 dsimp only
 simp (disch:=omega) only [go_sem]
 refine Ae (fun q=>?_) (fun q=>?_)
 case' refine_2=>
  have BC:m<=n:=by omega
  have q:j=is.length:=by simp at q;omega
  subst q
  rw [A9] at As
  simp (disch:=omega) only [go_sem]
  refine Cw L As ?_
  simp (disch:=omega) only [BC,BS,zx,LV,go_sem]
 have q:j<is.length:=by simpa using q
 obtain ⟨x,ex⟩:∃x,is[j]?=some x:=⟨is[j],by simp [q]⟩
 have hx:=hn x (List.mem_of_getElem? ex)
 have hI:=DR (is.take j) (by rw [List.length_take];omega) x.n
 obtain ⟨R,hR⟩:=A5 (Cd (is.take j) x.n)
 have C6:=F5 (A:=Rm doc is b e) ex
 have hE:Rm doc is b e j x=Gr x.n false (Cd (is.take j) x.n).isSome (b++x.n++e)++(if (BU x.tn||(Az doc x.tn).isSome)=false then [.mk 8 (b++x.n++e)] else if JF doc x.tn=false then [.mk 10 (b++x.n++e)] else []):=rfl
 rw [hR] at hI hE
 unfold Qi at hI
 have hK:=P9 doc G0 x.tn
 obtain ⟨kb,hkb⟩:=A5 ((BU x.tn||(Az doc x.tn).isSome))
 rw [hkb] at hK hE
 have hY:=HT doc G0 x.tn
 obtain ⟨yb,hyb⟩:=A5 (JF doc x.tn)
 rw [hyb] at hY hE
 have z1:b.size+x.n.size<=9223372036854775807:=by omega
 have z2:(b++x.n).size+e.size<=9223372036854775807:=by rw [ByteArray.size_append];omega
 have z3:0<=(j:Int)∧(j:Int)<=(is.length:Int):=by omega
 simp (disch:=omega) only [q,Ad (Aa AD ex),z1,z2,z3.1,z3.2,true_and,go_sem]
 refine ⟨by omega,?_⟩
 refine Aq.f (fun _ _ _=>hI _ _) ?_
 simp (disch:=omega) only [q,Ad (Aa AD ex),go_sem]
 refine Ac.r (Ls _ _ _ _ _ _) ?_
 rintro Al n' r ⟨F1,O7,e1,e2,e3⟩
 subst e1
 subst e2
 subst e3
 have H4:F1=_:=O7
 rw [<-H4] at hE
 have O7:F1.length<=2:=by rw [H4];exact EE _ _ _ _
 have k1:(L.length+F1.length)*24<=140737488355328:=by omega
 have k2:L.length+F1.length<=9223372036854775807:=by omega
 have k3:(L.length+(F1.length+1))*24<=140737488355328:=by omega
 have k4:L.length+(F1.length+1)<=9223372036854775807:=by omega
 have DI:(Ab AR F1).length=F1.length:=Ao _ _
 have Kx:(Ab AR (L++F1)).length=L.length+F1.length:=by rw [Ao,zld]
 simp only [List.nil_append]
 simp (disch:=omega) only [q,Ad (Aa AD ex),BS,DI,k1,k2,Ay,go_sem]
 refine Aq.f (fun _ _ _=>hK _ _) ?_
 cases kb with
 |false=>
  rw [iP rfl] at hE
  simp (disch:=omega) only [q,Ad (Aa AD ex),BS,DI,Kx,k1,k2,k3,k4,Ay,Av,go_sem]
  refine ⟨.mk (j+1) (g+1+1) (L++F1++[.mk 8 (b++x.n++e)]) (n+200),⟨show j+1<=is.length by omega,show m+2<=n+200 by omega,by show _=_;rw [C6,hE,As];try simp only [zlf]⟩,by show is.length - (j+1)<is.length - j;omega,?_⟩
  dsimp only
  refine Mb hf ?_ ?_ ?_ (fun a ha c7=>?_) (by omega)
  .simp (disch:=omega) only [Ap j (by omega),zld,zlc,zle,go_sem]
   try simp [zd]
  .simp (disch:=omega) only [Ay,Av,zlf,go_sem]
   try simp [zlf]
  .simp (disch:=omega) only [go_sem]
  .repeat rw [Ai _ _ (by omega)]
 |true=>
 rw [iN (by decide)] at hE
 simp (disch:=omega) only [q,Ad (Aa AD ex),BS,DI,Kx,k1,k2,Ay,go_sem]
 refine Aq.f (fun _ _ _=>hY _ _) ?_
 cases yb with
 |false=>
  rw [iP rfl] at hE
  simp (disch:=omega) only [q,Ad (Aa AD ex),BS,DI,Kx,k1,k2,k3,k4,Ay,Av,go_sem]
  refine ⟨.mk (j+1) (g+1+1) (L++F1++[.mk 10 (b++x.n++e)]) (n+200),⟨show j+1<=is.length by omega,show m+2<=n+200 by omega,by show _=_;rw [C6,hE,As];try simp only [zlf]⟩,by show is.length - (j+1)<is.length - j;omega,?_⟩
  dsimp only
  refine Mb hf ?_ ?_ ?_ (fun a ha c7=>?_) (by omega)
  .simp (disch:=omega) only [Ap j (by omega),zld,zlc,zle,go_sem]
   try simp [zd]
  .simp (disch:=omega) only [Ay,Av,zlf,go_sem]
   try simp [zlf]
  .simp (disch:=omega) only [go_sem]
  .repeat rw [Ai _ _ (by omega)]
 |true=>
  rw [iN (by decide),List.append_nil] at hE
  simp (disch:=omega) only [q,Ad (Aa AD ex),BS,DI,Kx,k1,k2,Ay,Av,go_sem]
  refine ⟨.mk (j+1) (g+1) (L++F1) (n+200),⟨show j+1<=is.length by omega,show m+2<=n+200 by omega,by show _=_;rw [C6,hE,As];try simp only [zlf]⟩,by show is.length - (j+1)<is.length - j;omega,?_⟩
  dsimp only
  refine Mb hf ?_ ?_ ?_ (fun a ha c7=>?_) (by omega)
  .simp (disch:=omega) only [Ap j (by omega),zld,zlc,zle,go_sem]
   try simp [zd]
  .simp (disch:=omega) only [Ay,Av,zlf,go_sem]
   try simp [zlf]
  .simp (disch:=omega) only [go_sem]
  .repeat rw [Ai _ _ (by omega)]
theorem Uj (a b:List Int) (hl:a.length<=1000000000000) (G2:b.length<=1000000000000) (hp:CH) (m:Nat):Af prog 166 hp m [.ds (Ab D0 a),.ds (Ab D0 b)] (.b (decide (a=b))):=by
 obtain ⟨R,hR⟩:=A5 (decide (a=b))
 rw [hR]
 refine Aj func166 (tA cc166) (tB cc166) (tC cc166) rfl fun hf=>?_;unfold ck166
 simp only [go_sem]
 refine Ae (fun c=>?_) (fun c=>?_)
 .have c:¬a.length=b.length:=by
   intro h
   simp [h] at c
  have:R=false:=by rw [<-hR,decide_eq_false_iff_not];intro h;exact c (by rw [h])
  subst this
  simp only [go_sem]
 have VT:a.length=b.length:=by simp at c;omega
 simp (disch:=omega) only [go_sem]
 refine loop (fun q:Nat×Nat=>⟨[(0,.ds (Ab D0 a)),(1,.ds (Ab D0 b)),(5,.i .i64 q.1)],hp,q.2⟩) (fun q=>q.1<=a.length∧m<=q.2∧R=decide (a.drop q.1=b.drop q.1)) (fun q=>a.length - q.1) (0,m) ?_ ?_ (fun ⟨j,n⟩ hj=>?_)
 .exact ⟨by simp,by simp,hR.symm⟩
 .refine Di ?_
  simp only [go_sem]
 dsimp only at hj
 obtain ⟨Cg,Bc,As⟩:=hj
 simp (disch:=omega) only [go_sem]
 refine Ae (fun d=>?_) (fun d=>?_)
 .have d:j<a.length:=by simpa using d
  have d2:j<b.length:=by omega
  obtain ⟨x,ex⟩:∃x,a[j]?=some x:=⟨a[j],by simp [d]⟩
  obtain ⟨y,ey⟩:∃x,b[j]?=some x:=⟨b[j],by simp [d2]⟩
  rw [A2 ex,A2 ey] at As
  simp (disch:=omega) only [d,d2,Ad (Aa D0 ex),Ad (Aa D0 ey),go_sem]
  refine Ae (fun c2=>?_) (fun c2=>?_)
  .have c2:¬x=y:=by intro h;simp [h] at c2
   have As:R=false:=by rw [As];simp [c2]
   subst As
   simp (disch:=omega) only [Bc,go_sem]
  .have c2:x=y:=by simpa using c2
   have As:R=decide (a.drop (j+1)=b.drop (j+1)):=by rw [As];simp [c2]
   simp (disch:=omega) only [go_sem]
   refine ⟨(j+1,_),⟨by dsimp only;omega,by dsimp only;omega,As⟩,by dsimp only;omega,Di ?_⟩
   simp (disch:=omega) only [Ap j (by omega),go_sem]
 .have d:j=a.length:=by simp at d;omega
  subst d
  rw [List.drop_length,VT,List.drop_length] at As
  have As:R=true:=by rw [As];simp
  subst As
  simp (disch:=omega) only [Bc,go_sem]
def Ml (n:qB) (w:List Int) (n':qB) (w':List Int):Bool:=decide (n=n')&&decide (w=w')
theorem GY (n n':qB) (w w':List Int) (hl:w.length<=1000000000000) (G2:w'.length<=1000000000000) (hp:CH) (m:Nat):Af prog 139 hp m [D1 n w,D1 n' w'] (.b (Ml n w n' w')):=by
 have hS:=Uj w w' hl G2
 unfold Ml
 obtain ⟨b,hb⟩:=A5 (decide (w=w'))
 rw [hb] at hS ⊢
 refine Aj func139 (tA cc139) (tB cc139) (tC cc139) rfl fun hf=>?_;unfold ck139
 simp only [go_sem]
 refine AH.f (fun _=>hS _ _) ?_
 simp only [go_sem]
def PY (doc:List Aw) (n:qB) (k:Int):Int:=if (Az doc n).isSome=false∧BU n=false then 8 else if ((Az doc n).getD Dz).k=k then 0 else 9
theorem MT (doc:List Aw) (G0:doc.length<=1000000000000) (n:qB) (k:Int) (hp:CH) (m:Nat):Af prog 131 hp m [B0 doc,.s n,.i .i64 k] (.i .i64 (PY doc n k)):=by
 have hF:=BI doc G0 n
 have hS:=CP n
 unfold PY
 obtain ⟨R,hR⟩:=A5 (Az doc n)
 rw [hR] at hF ⊢
 unfold Eh at hF
 obtain ⟨sb,VC⟩:=A5 (BU n)
 rw [VC] at hS ⊢
 obtain ⟨t,ht⟩:=A5 (R.getD Dz)
 rw [ht] at hF ⊢
 obtain ⟨rb,VQ⟩:=A5 (R.isSome)
 rw [VQ] at hF ⊢
 refine Aj func131 (tA cc131) (tB cc131) (tC cc131) rfl fun hf=>?_;unfold ck131
 simp only [go_sem]
 refine Ac.f (hF _ _) ?_
 simp (disch:=omega) only [go_sem]
 refine AH.f (fun _=>hS _ _) ?_
 cases rb<;>cases sb
 .simp (disch:=omega) only [go_sem]
  try rfl
 all_goals
  simp (disch:=omega) only [go_sem]
  refine Ae (fun c=>?_) (fun c=>?_)
  .have c:¬t.k=k:=by simpa using c
   simp only [c,if_false]
   simp (disch:=omega) only [go_sem]
   try rfl
  .have c:t.k=k:=by simpa using c
   simp only [c,if_true]
   simp (disch:=omega) only [go_sem]
   try rfl
theorem Af5 (doc:List Aw) (hd:DocOk doc) (n n':qB):∀(N:Nat) (w w':List Int),w.length+w'.length=N->w.length+w'.length<=1000000->∃r:Bool,∀hp m,Af prog 163 hp m [B0 doc,D1 n w,D1 n' w'] (.b r):=by
 intro N
 induction N using Nat.strongRecOn with
 |ind N ih=>
 intro w w' hN hB
 have h1:(Cp w).length<=w.length:=C8 w
 have h2:(Cp w').length<=w'.length:=C8 w'
 have e1:=DE n' w' (by omega)
 have e2:=DE n w (by omega)
 have e3:=D8 n w (by omega)
 have e4:=D8 n' w' (by omega)
 have e5:=FF n w (by omega)
 have e6:=FF n' w' (by omega)
 have e7:=NY doc hd n n'
 have nl:∀w:List Int,Gk w=true->(Cp w).length<w.length:=fun w h=>by
  cases w with
  |nil=>cases h
  |cons a w=>unfold Cp;rw [iP h];simp
 have il:∀w:List Int,Cu w=true->(DM w).length<w.length:=fun w h=>by
  have:=C8 w
  unfold Cu at h
  unfold DM
  cases hw:Cp w with
  |nil=>rw [hw] at h;cases h
  |cons a v=>rw [hw] at this;simp at this ⊢;omega
 by_cases c1:Gk w'=true
 .have:=nl w' c1
  rw [c1] at e1
  obtain ⟨r,hr⟩:=ih _ (by omega) (Cp w) (Cp w') rfl (by omega)
  by_cases c2:Gk w=true
  .rw [c2] at e2
   refine ⟨r,fun hp m=>?_⟩
   refine Aj func163 (tA cc163) (tB cc163) (tC cc163) rfl fun hf=>?_;unfold ck163
   simp only [go_sem]
   refine Ac.f (e1 _ _) ?_
   simp (disch:=omega) only [go_sem]
   refine Aq.f (fun _ _ _=>e2 _ _) ?_
   simp (disch:=omega) only [go_sem]
   refine AC.f (fun _ _ _=>e3 _ _) ?_
   simp (disch:=omega) only [go_sem]
   refine AC.f (fun _ _ _=>e4 _ _) ?_
   simp (disch:=omega) only [go_sem]
   refine AC.f (fun _ _ _=>hr _ _) ?_
   simp (disch:=omega) only [go_sem]
  .have c2:Gk w=false:=by simpa using c2
   rw [c2] at e2
   refine ⟨false,fun hp m=>?_⟩
   refine Aj func163 (tA cc163) (tB cc163) (tC cc163) rfl fun hf=>?_;unfold ck163
   simp only [go_sem]
   refine Ac.f (e1 _ _) ?_
   simp (disch:=omega) only [go_sem]
   refine Aq.f (fun _ _ _=>e2 _ _) ?_
   simp (disch:=omega) only [go_sem]
   refine AC.no ?_
   simp (disch:=omega) only [go_sem]
   refine AC.no ?_
   simp (disch:=omega) only [go_sem]
   refine AC.no ?_
   simp (disch:=omega) only [go_sem]
 have c1:Gk w'=false:=by simpa using c1
 rw [c1] at e1
 by_cases c2:Gk w=true
 .have:=nl w c2
  rw [c2] at e2
  obtain ⟨r,hr⟩:=ih _ (by omega) (Cp w) w' rfl (by omega)
  refine ⟨r,fun hp m=>?_⟩
  refine Aj func163 (tA cc163) (tB cc163) (tC cc163) rfl fun hf=>?_;unfold ck163
  simp only [go_sem]
  refine Ac.f (e1 _ _) ?_
  simp (disch:=omega) only [go_sem]
  refine Ac.f (e2 _ _) ?_
  simp (disch:=omega) only [go_sem]
  refine Aq.f (fun _ _ _=>e3 _ _) ?_
  simp (disch:=omega) only [go_sem]
  refine Aq.f (fun _ _ _=>hr _ _) ?_
  simp (disch:=omega) only [go_sem]
 have c2:Gk w=false:=by simpa using c2
 rw [c2] at e2
 by_cases c3:Cu w=true
 .have k1:=il w c3
  rw [iP c3] at e5
  by_cases c4:Cu w'=true
  .have k2:=il w' c4
   rw [iP c4] at e6
   obtain ⟨r,hr⟩:=ih _ (by omega) (DM w) (DM w') rfl (by omega)
   refine ⟨r,fun hp m=>?_⟩
   refine Aj func163 (tA cc163) (tB cc163) (tC cc163) rfl fun hf=>?_;unfold ck163
   simp only [go_sem]
   refine Ac.f (e1 _ _) ?_
   simp (disch:=omega) only [go_sem]
   refine Ac.f (e2 _ _) ?_
   simp (disch:=omega) only [go_sem]
   refine Ac.f (e5 _ _) ?_
   simp (disch:=omega) only [go_sem]
   refine Ac.f (e6 _ _) ?_
   simp (disch:=omega) only [go_sem]
   refine Ac.f (hr _ _) ?_
   simp (disch:=omega) only [go_sem]
  .rw [iN c4] at e6
   refine ⟨false,fun hp m=>?_⟩
   refine Aj func163 (tA cc163) (tB cc163) (tC cc163) rfl fun hf=>?_;unfold ck163
   simp only [go_sem]
   refine Ac.f (e1 _ _) ?_
   simp (disch:=omega) only [go_sem]
   refine Ac.f (e2 _ _) ?_
   simp (disch:=omega) only [go_sem]
   refine Ac.f (e5 _ _) ?_
   simp (disch:=omega) only [go_sem]
   refine Ac.f (e6 _ _) ?_
   simp (disch:=omega) only [go_sem]
   try refine AH.f (fun _=>e7 _ _) ?_
   simp (disch:=omega) only [go_sem]
 .rw [iN c3] at e5
  by_cases c4:Cu w'=true
  .rw [iP c4] at e6
   refine ⟨false,fun hp m=>?_⟩
   refine Aj func163 (tA cc163) (tB cc163) (tC cc163) rfl fun hf=>?_;unfold ck163
   simp only [go_sem]
   refine Ac.f (e1 _ _) ?_
   simp (disch:=omega) only [go_sem]
   refine Ac.f (e2 _ _) ?_
   simp (disch:=omega) only [go_sem]
   refine Ac.f (e5 _ _) ?_
   simp (disch:=omega) only [go_sem]
   refine Ac.f (e6 _ _) ?_
   simp (disch:=omega) only [go_sem]
   try refine AH.f (fun _=>e7 _ _) ?_
   simp (disch:=omega) only [go_sem]
  .rw [iN c4] at e6
   refine ⟨decide (n=n')||decide (n∈Et doc n'),fun hp m=>?_⟩
   obtain ⟨ib,hib⟩:=A5 (decide (n∈Et doc n'))
   rw [hib] at e7 ⊢
   refine Aj func163 (tA cc163) (tB cc163) (tC cc163) rfl fun hf=>?_;unfold ck163
   simp only [go_sem]
   refine Ac.f (e1 _ _) ?_
   simp (disch:=omega) only [go_sem]
   refine Ac.f (e2 _ _) ?_
   simp (disch:=omega) only [go_sem]
   refine Ac.f (e5 _ _) ?_
   simp (disch:=omega) only [go_sem]
   refine Ac.f (e6 _ _) ?_
   simp (disch:=omega) only [go_sem]
   refine AH.f (fun _=>e7 _ _) ?_
   simp (disch:=omega) only [go_sem]
