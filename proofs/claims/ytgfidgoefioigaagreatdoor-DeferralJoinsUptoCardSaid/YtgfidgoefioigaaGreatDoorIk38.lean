/- Proof. Conditions: none. -/
import Derived.Test.YtgfidgoefioigaaGreatDoorIk37
noncomputable section
open List renaming all_cons->z2a
open Bool renaming true_and->zt,and_assoc->z35
open Go.Proofs.Tryz
open List renaming mem_of_getElem?->zla,drop_length->zll
namespace Go.Proofs.YtgfidgoefioigaaGreatDoor
open Go.Eng
set_option linter.all false
set_option maxRecDepth 20000
set_option maxHeartbeats 1000000
def IX (l:List (List AV)):List Int:=l.map fun e=>match e with
 | [.i _ n]=>n
 |_=>0
theorem Aex (l:List Int):IX (Ab D2 l)=l:=by
 induction l with
 |nil=>rfl
 |cons x l ih=>
  have:IX (Ab D2 (x::l))=x::IX (Ab D2 l):=rfl
  rw [this,ih]
theorem Ig (l:List (List AV)):(IX l).length=l.length:=List.length_map ..
def fdR (f:Cr):Bool:=FI f.n&&(MS f.args&&(N0 f.tn (IX f.tw)&&L6 f.dirs))
def fsR (l:List Cr):Bool:=decide (1<=l.length)&&(decide (l.length<=64)&&l.all fdR)
theorem RG (l:List Cr) (hl:l.length<=1000000000) (hd:∀f∈l,Eb f.args∧E2 f.dirs∧f.tw.length<=1000000000∧f.tw=Ab D2 (IX f.tw)) (hp:CH) (m:Nat):Ae prog 80 hp m [.ds (Ab Bu l)] (.b (fsR l)):=by
 unfold fsR
 obtain ⟨R,hR⟩:=A7 (l.all fdR)
 rw [hR]
 refine Al func80 (tA cc80) (tB cc80) (tC cc80) rfl fun hf=>?_;unfold ck80
 by_cases q1:l.length<1
 .have e1:decide (1<=l.length)=false:=dF (by omega)
  have e2:decide ((l.length:Int)<1)=true:=dT (by omega)
  simp (disch:=omega) only [e1,e2,go_sem]
  try simp
 have e1:decide (1<=l.length)=true:=dT (by omega)
 have e2:decide ((l.length:Int)<1)=false:=dF (by omega)
 by_cases q2:64<l.length
 .have e3:decide (l.length<=64)=false:=dF (by omega)
  have e4:decide ((64:Int)<(l.length:Int))=true:=dT (by omega)
  simp (disch:=omega) only [e1,e2,e3,e4,go_sem]
  try simp
 have e3:decide (l.length<=64)=true:=dT (by omega)
 have e4:decide ((64:Int)<(l.length:Int))=false:=dF (by omega)
 rw [e1,e3,zt,zt]
 simp (disch:=omega) only [e2,e4,go_sem]
 refine loop (fun p:Nat×Nat=>⟨[(0,.ds (Ab Bu l)),(3,.i .i64 p.1)],hp,p.2⟩) (fun p=>p.1<=l.length∧m<=p.2∧R=(l.drop p.1).all fdR) (fun p=>l.length - p.1) (0,m) ?_ ?_ (fun ⟨j,n⟩ hj=>?_)
 .exact ⟨by simp,by simp,hR.symm⟩
 .refine Dd ?_
  simp only [go_sem]
 dsimp only at hj
 obtain ⟨Cq,Be,At⟩:=hj
 simp (disch:=omega) only [go_sem]
 refine Af (fun q=>?_) (fun q=>?_)
 case' refine_2=>
  have q:j=l.length:=by simp at q;omega
  subst q
  rw [zll] at At
  have At:R=true:=At
  subst At
  simp (disch:=omega) only [Be,go_sem]
  try simp
 have q:j<l.length:=by simpa using q
 obtain ⟨x,ex⟩:∃x,l[j]?=some x:=⟨l[j],by simp [q]⟩
 obtain ⟨x1,x2,x3,x4⟩:=hd x (zla ex)
 rw [A2 ex,z2a] at At
 have hN:=BN x.n
 have hI:=Jl x.args x1
 have hX:=Le x.tn (IX x.tw) (by rw [Ig];omega)
 unfold DW at hX
 rw [<-x4] at hX
 have hD:=IF x.dirs x2
 have j5:fdR x=false->R=false:=fun e=>by rw [At,e];rfl
 unfold fdR at j5 At
 simp (disch:=omega) only [q,Ad (Aa Bu ex),go_sem]
 cases hn:FI x.n with
 |false=>
  rw [hn] at hN j5
  obtain rfl:=j5 rfl
  refine Ac.f (hN _ _) ?_
  simp (disch:=omega) only [Be,go_sem]
  repeat (refine BU ?_;(simp (disch:=omega) only [Be,go_sem]))
  try simp
 |true=>
 rw [hn] at hN j5 At
 refine Ac.f (hN _ _) ?_
 simp (disch:=omega) only [q,Ad (Aa Bu ex),go_sem]
 cases hi:MS x.args with
 |false=>
  rw [hi] at hI j5
  obtain rfl:=j5 rfl
  refine AH.f (fun _=>hI _ _) ?_
  simp (disch:=omega) only [Be,go_sem]
  repeat (refine BU ?_;(simp (disch:=omega) only [Be,go_sem]))
  try simp
 |true=>
 rw [hi] at hI j5 At
 refine AH.f (fun _=>hI _ _) ?_
 simp (disch:=omega) only [q,Ad (Aa Bu ex),go_sem]
 cases hx:N0 x.tn (IX x.tw) with
 |false=>
  rw [hx] at hX j5
  obtain rfl:=j5 rfl
  refine AH.f (fun _=>hX _ _) ?_
  simp (disch:=omega) only [Be,go_sem]
  repeat (refine BU ?_;(simp (disch:=omega) only [Be,go_sem]))
  try simp
 |true=>
 rw [hx] at hX j5 At
 refine AH.f (fun _=>hX _ _) ?_
 simp (disch:=omega) only [q,Ad (Aa Bu ex),go_sem]
 cases hds:L6 x.dirs with
 |false=>
  rw [hds] at hD j5
  obtain rfl:=j5 rfl
  refine AH.f (fun _=>hD _ _) ?_
  simp (disch:=omega) only [Be,go_sem]
  repeat (refine BU ?_;(simp (disch:=omega) only [Be,go_sem]))
  try simp
 |true=>
 rw [hds] at hD j5 At
 refine AH.f (fun _=>hD _ _) ?_
 simp (disch:=omega) only [q,Ad (Aa Bu ex),go_sem]
 refine ⟨(j+1,_),⟨by dsimp only;omega,by dsimp only;omega,At⟩,by dsimp only;omega,Dd ?_⟩
 simp (disch:=omega) only [Ao j (by omega),go_sem]
def Aml (e:List AV):qB:=match e with
 | .s x::_=>x
 |_=>⟨#[]⟩
def mbR (pl:Bool) (e:List AV):Bool:=FI (Aml e)&&(L6 (Ahr e)&&!(pl&&decide (0<(Ahr e).length)))
def msR (pl:Bool) (l:List (List AV)):Bool:=decide (1<=l.length)&&(decide (l.length<=64)&&l.all (mbR pl))
theorem PO (pl:Bool) (l:List (List AV)) (hl:l.length<=1000000000000) (hd:∀e∈l,∃x y,e=[AV.s x,.ds y]∧E2 y) (hp:CH) (m:Nat):Ae prog 81 hp m [.ds l,.b pl] (.b (msR pl l)):=by
 unfold msR
 obtain ⟨R,hR⟩:=A7 (l.all (mbR pl))
 rw [hR]
 refine Al func81 (tA cc81) (tB cc81) (tC cc81) rfl fun hf=>?_;unfold ck81
 by_cases q1:l.length<1
 .have e1:decide (1<=l.length)=false:=dF (by omega)
  have e2:decide ((l.length:Int)<1)=true:=dT (by omega)
  simp (disch:=omega) only [e1,e2,go_sem]
  try simp
 have e1:decide (1<=l.length)=true:=dT (by omega)
 have e2:decide ((l.length:Int)<1)=false:=dF (by omega)
 by_cases q2:64<l.length
 .have e3:decide (l.length<=64)=false:=dF (by omega)
  have e4:decide ((64:Int)<(l.length:Int))=true:=dT (by omega)
  simp (disch:=omega) only [e1,e2,e3,e4,go_sem]
  try simp
 have e3:decide (l.length<=64)=true:=dT (by omega)
 have e4:decide ((64:Int)<(l.length:Int))=false:=dF (by omega)
 rw [e1,e3,zt,zt]
 simp (disch:=omega) only [e2,e4,go_sem]
 refine loop (fun p:Nat×Nat=>⟨[(0,.ds l),(1,.b pl),(5,.i .i64 p.1)],hp,p.2⟩) (fun p=>p.1<=l.length∧m<=p.2∧R=(l.drop p.1).all (mbR pl)) (fun p=>l.length - p.1) (0,m) ?_ ?_ (fun ⟨j,n⟩ hj=>?_)
 .exact ⟨by simp,by simp,hR.symm⟩
 .refine Dd ?_
  simp only [go_sem]
 dsimp only at hj
 obtain ⟨Cq,Be,At⟩:=hj
 simp (disch:=omega) only [go_sem]
 refine Af (fun q=>?_) (fun q=>?_)
 case' refine_2=>
  have q:j=l.length:=by simp at q;omega
  subst q
  rw [zll] at At
  have At:R=true:=At
  subst At
  simp (disch:=omega) only [Be,go_sem]
  try simp
 have q:j<l.length:=by simpa using q
 obtain ⟨e,ex⟩:∃x,l[j]?=some x:=⟨l[j],by simp [q]⟩
 obtain ⟨x,y,rfl,hy⟩:=hd e (zla ex)
 rw [A2 ex,z2a] at At
 have hN:=BN x
 have hD:=IF y hy
 have hmb:mbR pl [AV.s x,.ds y]=(FI x&&(L6 y&&!(pl&&decide (0<y.length)))):=rfl
 have j5:mbR pl [AV.s x,.ds y]=false->R=false:=fun e=>by rw [At,e];rfl
 rw [hmb] at j5 At
 simp (disch:=omega) only [q,Ad ex,go_sem]
 cases hn:FI x with
 |false=>
  rw [hn] at hN j5
  obtain rfl:=j5 rfl
  refine Ac.f (hN _ _) ?_
  cases pl
  .simp (disch:=omega) only [Be,go_sem]
   repeat (refine BU ?_;(simp (disch:=omega) only [Be,go_sem]))
   try simp
  .simp (disch:=omega) only [Be,go_sem]
   repeat (refine BU ?_;(simp (disch:=omega) only [Be,go_sem]))
   try simp
 |true=>
 rw [hn] at hN j5 At
 refine Ac.f (hN _ _) ?_
 simp (disch:=omega) only [q,Ad ex,go_sem]
 cases hds:L6 y with
 |false=>
  rw [hds] at hD j5
  obtain rfl:=j5 rfl
  refine AH.f (fun _=>hD _ _) ?_
  cases pl
  .simp (disch:=omega) only [Be,go_sem]
   repeat (refine BU ?_;(simp (disch:=omega) only [Be,go_sem]))
   try simp
  .simp (disch:=omega) only [Be,go_sem]
   repeat (refine BU ?_;(simp (disch:=omega) only [Be,go_sem]))
   try simp
 |true=>
 rw [hds] at hD j5 At
 refine AH.f (fun _=>hD _ _) ?_
 cases pl
 .simp (disch:=omega) only [q,Ad ex,go_sem]
  refine ⟨(j+1,_),⟨by dsimp only;omega,by dsimp only;omega,At⟩,by dsimp only;omega,Dd ?_⟩
  simp (disch:=omega) only [Ao j (by omega),go_sem]
 .simp (disch:=omega) only [q,Ad ex,go_sem]
  refine Af (fun c=>?_) (fun c=>?_)
  .have c:0<y.length:=by simp at c;omega
   obtain rfl:=j5 (by rw [dT c];rfl)
   simp (disch:=omega) only [Be,go_sem]
   try simp
  .have c:¬0<y.length:=by simp at c;simp [c]
   rw [dF c] at At
   simp (disch:=omega) only [go_sem]
   refine ⟨(j+1,_),⟨by dsimp only;omega,by dsimp only;omega,At⟩,by dsimp only;omega,Dd ?_⟩
   simp (disch:=omega) only [Ao j (by omega),go_sem]
def Y1 (t:Av):Bool :=
 (FI t.n&&(L6 t.dirs&&(decide (t.impl.length<=64)&&(GX t.impl).all FI))) &&
 (if t.k=1 then fsR t.fields&&(decide (t.members.length=0)&&decide (t.inputs.length=0))
  else if t.k=2 then decide (t.impl.length=0)&&(fsR t.fields&&(decide (t.members.length=0)&&decide (t.inputs.length=0)))
  else if t.k=3 then decide (t.impl.length=0)&&(decide (t.fields.length=0)&&(msR true t.members&&decide (t.inputs.length=0)))
  else if t.k=4 then decide (t.impl.length=0)&&(decide (t.fields.length=0)&&(msR false t.members&&decide (t.inputs.length=0)))
  else if t.k=5 then decide (t.impl.length=0)&&(decide (t.fields.length=0)&&(decide (t.members.length=0)&&(decide (0<t.inputs.length)&&MS t.inputs)))
  else false)
structure DfnR (t:Av):Prop where
 ok:DefOk t
 im:t.impl.length<=1000000000000
 me:t.members.length<=1000000000000
 w:DfnW t
 tw:∀f∈t.fields,f.tw=Ab D2 (IX f.tw)
theorem ZN (t:Av) (h:DfnR t) (hp:CH) (m:Nat):Ae prog 42 hp m [Lw t] (.b (Y1 t)):=by
 have h1:=h.im
 have h2:=h.me
 have Hf:=h.w.fl
 have hN:=BN t.n
 have hD:=IF t.dirs h.w.dirs
 have hF:=RG t.fields Hf fun f hf=>⟨(h.w.fields f hf).1,(h.w.fields f hf).2.1,(h.w.fields f hf).2.2,h.tw f hf⟩
 have hM:=fun pl=>PO pl t.members h2 h.w.members
 have hI:=Jl t.inputs h.w.inputs
 have Vf:=h.ok.impl
 obtain ⟨S,hS⟩:=A7 (GX t.impl)
 unfold Y1
 obtain ⟨R,hR⟩:=A7 (S.all FI)
 rw [hS,hR]
 rw [hS] at Vf
 have x8:t.impl.length=S.length:=by rw [Vf];exact As _ _
 refine Al func42 (tA cc42) (tB cc42) (tC cc42) rfl fun hf=>?_;unfold ck42
 rw [x8]
 simp only [Lw,BB]
 rw [Vf]
 simp only [go_sem]
 cases hn:FI t.n with
 |false=>
  rw [hn] at hN
  refine Ac.f (hN _ _) ?_
  simp (disch:=omega) only [go_sem]
  repeat (refine BU ?_;(simp (disch:=omega) only [go_sem]))
  try simp
 |true=>
 rw [hn] at hN
 refine Ac.f (hN _ _) ?_
 simp (disch:=omega) only [go_sem]
 cases hds:L6 t.dirs with
 |false=>
  rw [hds] at hD
  refine AH.f (fun _=>hD _ _) ?_
  simp (disch:=omega) only [go_sem]
  repeat (refine BU ?_;(simp (disch:=omega) only [go_sem]))
  try simp
 |true=>
 rw [hds] at hD
 refine AH.f (fun _=>hD _ _) ?_
 by_cases q2:64<S.length
 .have e3:decide (S.length<=64)=false:=dF (by omega)
  have e4:decide ((64:Int)<(S.length:Int))=true:=dT (by omega)
  simp (disch:=omega) only [e3,e4,go_sem]
  try simp
 have e3:decide (S.length<=64)=true:=dT (by omega)
 have e4:decide ((64:Int)<(S.length:Int))=false:=dF (by omega)
 rw [e3]
 simp only [zt]
 simp (disch:=omega) only [e4,go_sem]
 refine loop (fun p:Nat×Nat=>⟨[(1,.bx m 0),(3,.i .i64 p.1)],(m,.bx [.i .i64 t.k,.s t.n,.ds (Bq S),.ds t.dirs,.ds (Ab Bu t.fields),.ds t.members,.ds t.inputs])::hp,p.2⟩) (fun p=>p.1<=S.length∧m+1<=p.2∧R=(S.drop p.1).all FI) (fun p=>S.length - p.1) (0,m+1) ?_ ?_ (fun ⟨j,n⟩ hj=>?_)
 .exact ⟨by simp,by simp,hR.symm⟩
 .refine Fo hf ?_ ?_ ?_ (Nat.le_refl _)
  all_goals (simp (disch:=omega) only [go_sem])
 dsimp only at hj
 obtain ⟨Cq,Be,At⟩:=hj
 have BD:m<=n:=by omega
 simp (disch:=omega) only [go_sem]
 refine Af (fun q=>?_) (fun q=>?_)
 case' refine_1=>
  have q:j<S.length:=by simpa using q
  obtain ⟨x,ex⟩:∃x,S[j]?=some x:=⟨S[j],by simp [q]⟩
  rw [A2 ex,z2a] at At
  have hX:=BN x
  simp (disch:=omega) only [q,Ad (Aa C3 ex),go_sem]
  cases hx:FI x with
  |false=>
   rw [hx] at At hX
   have At:R=false:=At
   subst At
   refine Ac.f (hX _ _) ?_
   simp (disch:=omega) only [BD,go_sem]
  |true=>
   rw [hx,zt] at At
   rw [hx] at hX
   refine Ac.f (hX _ _) ?_
   simp (disch:=omega) only [go_sem]
   refine ⟨(j+1,n),⟨by dsimp only;omega,by dsimp only;omega,At⟩,by dsimp only;omega,Dd ?_⟩
   simp (disch:=omega) only [Ao j (by omega),go_sem]
 have q:j=S.length:=by simp at q;omega
 subst q
 rw [zll] at At
 have At:R=true:=At
 subst At
 have c1:∀n:Nat,decide ((n:Int)=0)=decide (n=0):=fun n=>by simp
 have c2:∀n:Nat,decide ((0:Int)<(n:Int))=decide (0<n):=fun n=>by simp
 by_cases k1:t.k=1
 .rw [iP k1]
  simp (disch:=omega) only [dT k1,c1,c2,go_sem]
  refine Ac.f (hF _ _) ?_
  simp (disch:=omega) only [c1,c2,BD,go_sem]
  try simp [z35]
 rw [iN k1]
 have k1:=dF k1
 by_cases k2:t.k=2
 .rw [iP k2]
  simp (disch:=omega) only [k1,dT k2,c1,c2,go_sem]
  refine AH.f (fun _=>hF _ _) ?_
  simp (disch:=omega) only [c1,c2,BD,go_sem]
  try simp [z35]
 rw [iN k2]
 have k2:=dF k2
 by_cases k3:t.k=3
 .rw [iP k3]
  simp (disch:=omega) only [k1,k2,dT k3,c1,c2,go_sem]
  refine AH.f (fun _=>hM true _ _) ?_
  simp (disch:=omega) only [c1,c2,BD,go_sem]
  try simp [z35]
 rw [iN k3]
 have k3:=dF k3
 by_cases k4:t.k=4
 .rw [iP k4]
  simp (disch:=omega) only [k1,k2,k3,dT k4,c1,c2,go_sem]
  refine AH.f (fun _=>hM false _ _) ?_
  simp (disch:=omega) only [c1,c2,BD,go_sem]
  try simp [z35]
 rw [iN k4]
 have k4:=dF k4
 by_cases k5:t.k=5
 .rw [iP k5]
  simp (disch:=omega) only [k1,k2,k3,k4,dT k5,c1,c2,go_sem]
  refine AH.f (fun _=>hI _ _) ?_
  simp (disch:=omega) only [c1,c2,BD,go_sem]
  try simp [z35]
 rw [iN k5]
 have k5:=dF k5
 simp (disch:=omega) only [k1,k2,k3,k4,k5,BD,go_sem]
theorem TZ (l:List Av) (hl:l.length<=1000000000000) (hd:∀t∈l,DfnR t) (hp:CH) (m:Nat):Ae prog 22 hp m [B9 l] (.b (decide (1<=l.length)&&(decide (l.length<=64)&&l.all Y1))):=by
 obtain ⟨R,hR⟩:=A7 (l.all Y1)
 rw [hR]
 refine Al func22 (tA cc22) (tB cc22) (tC cc22) rfl fun hf=>?_;unfold ck22
 by_cases q1:l.length<1
 .have e1:decide (1<=l.length)=false:=dF (by omega)
  have e2:decide ((l.length:Int)<1)=true:=dT (by omega)
  simp (disch:=omega) only [e1,e2,go_sem]
  try simp
 have e1:decide (1<=l.length)=true:=dT (by omega)
 have e2:decide ((l.length:Int)<1)=false:=dF (by omega)
 by_cases q2:64<l.length
 .have e3:decide (l.length<=64)=false:=dF (by omega)
  have e4:decide ((64:Int)<(l.length:Int))=true:=dT (by omega)
  simp (disch:=omega) only [e1,e2,e3,e4,go_sem]
  try simp
 have e3:decide (l.length<=64)=true:=dT (by omega)
 have e4:decide ((64:Int)<(l.length:Int))=false:=dF (by omega)
 rw [e1,e3,zt,zt]
 simp (disch:=omega) only [e2,e4,go_sem]
 refine loop (fun p:Nat×Nat=>⟨[(1,.bx m 0),(3,.i .i64 p.1)],(m,.bx [.ds (Ab BB l)])::hp,p.2⟩) (fun p=>p.1<=l.length∧m+1<=p.2∧R=(l.drop p.1).all Y1) (fun p=>l.length - p.1) (0,m+1) ?_ ?_ (fun ⟨j,n⟩ hj=>?_)
 .exact ⟨by simp,by simp,hR.symm⟩
 .refine Fo hf ?_ ?_ ?_ (Nat.le_refl _)
  all_goals (simp (disch:=omega) only [go_sem])
 dsimp only at hj
 obtain ⟨Cq,Be,At⟩:=hj
 have BD:m<=n:=by omega
 simp (disch:=omega) only [go_sem]
 refine Af (fun q=>?_) (fun q=>?_)
 .have q:j<l.length:=by simpa using q
  obtain ⟨x,ex⟩:∃x,l[j]?=some x:=⟨l[j],by simp [q]⟩
  rw [A2 ex,z2a] at At
  have hX:=ZN x (hd x (zla ex))
  simp (disch:=omega) only [q,Ad (Aa BB ex),go_sem]
  cases hx:Y1 x with
  |false=>
   rw [hx] at At hX
   have At:R=false:=At
   subst At
   refine Ac.f (hX _ _) ?_
   simp (disch:=omega) only [BD,go_sem]
  |true=>
   rw [hx,zt] at At
   rw [hx] at hX
   refine Ac.f (hX _ _) ?_
   simp (disch:=omega) only [go_sem]
   refine ⟨(j+1,_),⟨by dsimp only;omega,by dsimp only;omega,At⟩,by dsimp only;omega,Dd ?_⟩
   simp (disch:=omega) only [Ao j (by omega),go_sem]
 .have q:j=l.length:=by simp at q;omega
  subst q
  rw [zll] at At
  have At:R=true:=At
  subst At
  simp (disch:=omega) only [BD,go_sem]
