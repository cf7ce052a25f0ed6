/- Proof. Conditions: none. -/
import Derived.Test.YtgfidgoefioigaaGreatDoorIi37
open Go.Proofs.Tryz
open List renaming mem_of_getElem?→zla,drop_length→zll
open Nat renaming le_refl→zna
namespace Go.Proofs.YtgfidgoefioigaaGreatDoor
open Go.Eng
set_option linter.all false
set_option maxRecDepth 20000
set_option maxHeartbeats 1000000
def HJ (l:List (List AV)):List Int:=l.map fun e=>match e with
 | [.i _ n]=>n
 | _=>0
theorem Ys (l:List Int):HJ (Ad Dx l)=l:=by
 induction l with
 | nil=>rfl
 | cons x l ih =>
  have:HJ (Ad Dx (x::l))=x::HJ (Ad Dx l):=rfl
  rw [this,ih]
theorem GV (l:List (List AV)):(HJ l).length=l.length:=List.length_map ..
noncomputable def ZX (f:Cd):Bool:=ES f.n&&(L8 f.args&&(Lk f.tn (HJ f.tw)&&JV f.dirs))
noncomputable def fsR (l:List Cd):Bool:=decide (1≤l.length)&&(decide (l.length≤64)&&l.all ZX)
theorem OB (l:List Cd) (hl:l.length≤1000000000) (hd:∀f∈l,D9 f.args∧Ed f.dirs∧f.tw.length≤1000000000∧f.tw=Ad Dx (HJ f.tw)) (hp:CH) (m:Nat):Ah prog 80 hp m [.ds (Ad Bq l)] (.b (fsR l)):=by
 unfold fsR
 obtain ⟨R,hR⟩:∃R,l.all ZX=R:=⟨_,rfl⟩
 rw [hR]
 refine Am func80 (by kernel_rfl) cc80 cr80 rfl fun hf=>?_;unfold ck80
 by_cases q1:l.length<1
 .have e1:decide (1≤l.length)=false:=decide_eq_false (by omega)
  have e2:decide ((l.length:Int)<1)=true:=decide_eq_true (by omega)
  simp (disch:=omega) only [Aa,e1,e2,go_sem]
  try simp
 have e1:decide (1≤l.length)=true:=decide_eq_true (by omega)
 have e2:decide ((l.length:Int)<1)=false:=decide_eq_false (by omega)
 by_cases q2:64<l.length
 .have e3:decide (l.length≤64)=false:=decide_eq_false (by omega)
  have e4:decide ((64:Int)<(l.length:Int))=true:=decide_eq_true (by omega)
  simp (disch:=omega) only [Aa,e1,e2,e3,e4,go_sem]
  try simp
 have e3:decide (l.length≤64)=true:=decide_eq_true (by omega)
 have e4:decide ((64:Int)<(l.length:Int))=false:=decide_eq_false (by omega)
 rw [e1,e3,Bool.true_and,Bool.true_and]
 simp (disch:=omega) only [Aa,e2,e4,go_sem]
 refine loop (fun p:Nat × Nat=>⟨[(0,.ds (Ad Bq l)),(3,.i .i64 p.1)],hp,p.2⟩) (fun p=>p.1≤l.length∧m≤p.2∧R=(l.drop p.1).all ZX) (fun p=>l.length - p.1) (0,m) ?_ ?_ (fun ⟨j,n⟩ hj=>?_)
 .exact ⟨by simp,by simp,hR.symm⟩
 .refine Ac ?_ (A6.refl _) (zna _)
  simp only [go_sem]
 dsimp only at hj
 obtain ⟨Cm,Ba,Aw⟩:=hj
 simp (disch:=omega) only [Aa,go_sem]
 refine Ai (fun q=>?_) (fun q=>?_)
 case' refine_2 =>
  have q:j=l.length:=by simp at q;omega
  subst q
  rw [zll] at Aw
  have Aw:R=true:=Aw
  subst Aw
  simp (disch:=omega) only [Aa,Ba,go_sem]
  try simp
 have q:j<l.length:=by simpa using q
 obtain ⟨x,ex⟩:∃x,l[j]?=some x:=⟨l[j],by simp [q]⟩
 obtain ⟨x1,x2,x3,x4⟩:=hd x (zla ex)
 rw [A5 ex,List.all_cons] at Aw
 have hN:=BE x.n
 have hI:=HS x.args x1
 have hX:=IG x.tn (HJ x.tw) (by rw [GV];omega)
 unfold DC at hX
 rw [←x4] at hX
 have hD:=H4 x.dirs x2
 have fin:ZX x=false→R=false:=fun e=>by rw [Aw,e];rfl
 unfold ZX at fin Aw
 simp (disch:=omega) only [Aa,q,Ag (Ab Bq ex),go_sem]
 cases hn:ES x.n with
 | false =>
  rw [hn] at hN fin
  obtain rfl:=fin rfl
  refine Af.f (hN _ _) ?_
  simp (disch:=omega) only [Aa,Ba,go_sem]
  repeat (refine BK ?_;(simp (disch:=omega) only [Aa,Ba,go_sem]))
  try simp
 | true =>
 rw [hn] at hN fin Aw
 refine Af.f (hN _ _) ?_
 simp (disch:=omega) only [Aa,q,Ag (Ab Bq ex),go_sem]
 cases hi:L8 x.args with
 | false =>
  rw [hi] at hI fin
  obtain rfl:=fin rfl
  refine AA.f (fun _=>hI _ _) ?_
  simp (disch:=omega) only [Aa,Ba,go_sem]
  repeat (refine BK ?_;(simp (disch:=omega) only [Aa,Ba,go_sem]))
  try simp
 | true =>
 rw [hi] at hI fin Aw
 refine AA.f (fun _=>hI _ _) ?_
 simp (disch:=omega) only [Aa,q,Ag (Ab Bq ex),go_sem]
 cases hx:Lk x.tn (HJ x.tw) with
 | false =>
  rw [hx] at hX fin
  obtain rfl:=fin rfl
  refine AA.f (fun _=>hX _ _) ?_
  simp (disch:=omega) only [Aa,Ba,go_sem]
  repeat (refine BK ?_;(simp (disch:=omega) only [Aa,Ba,go_sem]))
  try simp
 | true =>
 rw [hx] at hX fin Aw
 refine AA.f (fun _=>hX _ _) ?_
 simp (disch:=omega) only [Aa,q,Ag (Ab Bq ex),go_sem]
 cases hds:JV x.dirs with
 | false =>
  rw [hds] at hD fin
  obtain rfl:=fin rfl
  refine AA.f (fun _=>hD _ _) ?_
  simp (disch:=omega) only [Aa,Ba,go_sem]
  repeat (refine BK ?_;(simp (disch:=omega) only [Aa,Ba,go_sem]))
  try simp
 | true =>
 rw [hds] at hD fin Aw
 refine AA.f (fun _=>hD _ _) ?_
 simp (disch:=omega) only [Aa,q,Ag (Ab Bq ex),go_sem]
 refine ⟨(j+1,_),⟨by dsimp only;omega,by dsimp only;omega,Aw⟩,by dsimp only;omega,Ac ?_ (A6.refl _) (zna _)⟩
 simp (disch:=omega) only [Aa,At j (by omega),go_sem]
def Ahk (e:List AV):ByteArray:=match e with
 | .s x::_=>x
 | _=>⟨#[]⟩
noncomputable def mbR (pl:Bool) (e:List AV):Bool:=ES (Ahk e)&&(JV (Adk e)&&!(pl&&decide (0<(Adk e).length)))
noncomputable def msR (pl:Bool) (l:List (List AV)):Bool:=decide (1≤l.length)&&(decide (l.length≤64)&&l.all (mbR pl))
theorem Mi (pl:Bool) (l:List (List AV)) (hl:l.length≤1000000000000) (hd:∀e∈l,∃x y,e=[AV.s x,.ds y]∧Ed y) (hp:CH) (m:Nat):Ah prog 81 hp m [.ds l,.b pl] (.b (msR pl l)):=by
 unfold msR
 obtain ⟨R,hR⟩:∃R,l.all (mbR pl)=R:=⟨_,rfl⟩
 rw [hR]
 refine Am func81 (by kernel_rfl) cc81 cr81 rfl fun hf=>?_;unfold ck81
 by_cases q1:l.length<1
 .have e1:decide (1≤l.length)=false:=decide_eq_false (by omega)
  have e2:decide ((l.length:Int)<1)=true:=decide_eq_true (by omega)
  simp (disch:=omega) only [Aa,e1,e2,go_sem]
  try simp
 have e1:decide (1≤l.length)=true:=decide_eq_true (by omega)
 have e2:decide ((l.length:Int)<1)=false:=decide_eq_false (by omega)
 by_cases q2:64<l.length
 .have e3:decide (l.length≤64)=false:=decide_eq_false (by omega)
  have e4:decide ((64:Int)<(l.length:Int))=true:=decide_eq_true (by omega)
  simp (disch:=omega) only [Aa,e1,e2,e3,e4,go_sem]
  try simp
 have e3:decide (l.length≤64)=true:=decide_eq_true (by omega)
 have e4:decide ((64:Int)<(l.length:Int))=false:=decide_eq_false (by omega)
 rw [e1,e3,Bool.true_and,Bool.true_and]
 simp (disch:=omega) only [Aa,e2,e4,go_sem]
 refine loop (fun p:Nat × Nat=>⟨[(0,.ds l),(1,.b pl),(5,.i .i64 p.1)],hp,p.2⟩) (fun p=>p.1≤l.length∧m≤p.2∧R=(l.drop p.1).all (mbR pl)) (fun p=>l.length - p.1) (0,m) ?_ ?_ (fun ⟨j,n⟩ hj=>?_)
 .exact ⟨by simp,by simp,hR.symm⟩
 .refine Ac ?_ (A6.refl _) (zna _)
  simp only [go_sem]
 dsimp only at hj
 obtain ⟨Cm,Ba,Aw⟩:=hj
 simp (disch:=omega) only [Aa,go_sem]
 refine Ai (fun q=>?_) (fun q=>?_)
 case' refine_2 =>
  have q:j=l.length:=by simp at q;omega
  subst q
  rw [zll] at Aw
  have Aw:R=true:=Aw
  subst Aw
  simp (disch:=omega) only [Aa,Ba,go_sem]
  try simp
 have q:j<l.length:=by simpa using q
 obtain ⟨e,ex⟩:∃x,l[j]?=some x:=⟨l[j],by simp [q]⟩
 obtain ⟨x,y,rfl,hy⟩:=hd e (zla ex)
 rw [A5 ex,List.all_cons] at Aw
 have hN:=BE x
 have hD:=H4 y hy
 have hmb:mbR pl [AV.s x,.ds y]=(ES x&&(JV y&&!(pl&&decide (0<y.length)))):=rfl
 have fin:mbR pl [AV.s x,.ds y]=false→R=false:=fun e=>by rw [Aw,e];rfl
 rw [hmb] at fin Aw
 simp (disch:=omega) only [Aa,q,Ag ex,go_sem]
 cases hn:ES x with
 | false =>
  rw [hn] at hN fin
  obtain rfl:=fin rfl
  refine Af.f (hN _ _) ?_
  cases pl
  .simp (disch:=omega) only [Aa,Ba,go_sem]
   repeat (refine BK ?_;(simp (disch:=omega) only [Aa,Ba,go_sem]))
   try simp
  .simp (disch:=omega) only [Aa,Ba,go_sem]
   repeat (refine BK ?_;(simp (disch:=omega) only [Aa,Ba,go_sem]))
   try simp
 | true =>
 rw [hn] at hN fin Aw
 refine Af.f (hN _ _) ?_
 simp (disch:=omega) only [Aa,q,Ag ex,go_sem]
 cases hds:JV y with
 | false =>
  rw [hds] at hD fin
  obtain rfl:=fin rfl
  refine AA.f (fun _=>hD _ _) ?_
  cases pl
  .simp (disch:=omega) only [Aa,Ba,go_sem]
   repeat (refine BK ?_;(simp (disch:=omega) only [Aa,Ba,go_sem]))
   try simp
  .simp (disch:=omega) only [Aa,Ba,go_sem]
   repeat (refine BK ?_;(simp (disch:=omega) only [Aa,Ba,go_sem]))
   try simp
 | true =>
 rw [hds] at hD fin Aw
 refine AA.f (fun _=>hD _ _) ?_
 cases pl
 .simp (disch:=omega) only [Aa,q,Ag ex,go_sem]
  refine ⟨(j+1,_),⟨by dsimp only;omega,by dsimp only;omega,Aw⟩,by dsimp only;omega,Ac ?_ (A6.refl _) (zna _)⟩
  simp (disch:=omega) only [Aa,At j (by omega),go_sem]
 .simp (disch:=omega) only [Aa,q,Ag ex,go_sem]
  refine Ai (fun c=>?_) (fun c=>?_)
  .have c:0<y.length:=by simp at c;omega
   obtain rfl:=fin (by rw [decide_eq_true c];rfl)
   simp (disch:=omega) only [Aa,Ba,go_sem]
   try simp
  .have c:¬0<y.length:=by simp at c;simp [c]
   rw [decide_eq_false c] at Aw
   simp (disch:=omega) only [Aa,go_sem]
   refine ⟨(j+1,_),⟨by dsimp only;omega,by dsimp only;omega,Aw⟩,by dsimp only;omega,Ac ?_ (A6.refl _) (zna _)⟩
   simp (disch:=omega) only [Aa,At j (by omega),go_sem]
noncomputable def V8 (t:Az):Bool :=
  (ES t.n&&(JV t.dirs&&(decide (t.impl.length≤64)&&(Gg t.impl).all ES))) &&
  (if t.k = 1 then fsR t.fields && (decide (t.members.length = 0) && decide (t.inputs.length = 0))
   else if t.k=2 then decide (t.impl.length=0)&&(fsR t.fields&&(decide (t.members.length=0)&&decide (t.inputs.length=0)))
   else if t.k=3 then decide (t.impl.length=0)&&(decide (t.fields.length=0)&&(msR true t.members&&decide (t.inputs.length=0)))
   else if t.k=4 then decide (t.impl.length=0)&&(decide (t.fields.length=0)&&(msR false t.members&&decide (t.inputs.length=0)))
   else if t.k=5 then decide (t.impl.length=0)&&(decide (t.fields.length=0)&&(decide (t.members.length=0)&&(decide (0<t.inputs.length)&&L8 t.inputs)))
   else false)
structure DfnR (t:Az):Prop where
 ok:DefOk t
 im:t.impl.length≤1000000000000
 me:t.members.length≤1000000000000
 w:DfnW t
 tw:∀f∈t.fields,f.tw=Ad Dx (HJ f.tw)
theorem VM (t:Az) (h:DfnR t) (hp:CH) (m:Nat):Ah prog 42 hp m [JN t] (.b (V8 t)):=by
 have h1:=h.im
 have h2:=h.me
 have GF:=h.w.fl
 have hN:=BE t.n
 have hD:=H4 t.dirs h.w.dirs
 have hF:=OB t.fields GF fun f hf=>⟨(h.w.fields f hf).1,(h.w.fields f hf).2.1,(h.w.fields f hf).2.2,h.tw f hf⟩
 have hM:=fun pl=>Mi pl t.members h2 h.w.members
 have hI:=HS t.inputs h.w.inputs
 have SA:=h.ok.impl
 obtain ⟨S,hS⟩:∃S,Gg t.impl=S:=⟨_,rfl⟩
 unfold V8
 obtain ⟨R,hR⟩:∃R,S.all ES=R:=⟨_,rfl⟩
 rw [hS,hR]
 rw [hS] at SA
 have hSl:t.impl.length=S.length:=by rw [SA];exact Ax _ _
 refine Am func42 (by kernel_rfl) cc42 cr42 rfl fun hf=>?_;unfold ck42
 rw [hSl]
 simp only [JN,BB]
 rw [SA]
 simp only [go_sem]
 cases hn:ES t.n with
 | false =>
  rw [hn] at hN
  refine Af.f (hN _ _) ?_
  simp (disch:=omega) only [Aa,go_sem]
  repeat (refine BK ?_;(simp (disch:=omega) only [Aa,go_sem]))
  try simp
 | true =>
 rw [hn] at hN
 refine Af.f (hN _ _) ?_
 simp (disch:=omega) only [Aa,go_sem]
 cases hds:JV t.dirs with
 | false =>
  rw [hds] at hD
  refine AA.f (fun _=>hD _ _) ?_
  simp (disch:=omega) only [Aa,go_sem]
  repeat (refine BK ?_;(simp (disch:=omega) only [Aa,go_sem]))
  try simp
 | true =>
 rw [hds] at hD
 refine AA.f (fun _=>hD _ _) ?_
 by_cases q2:64<S.length
 .have e3:decide (S.length≤64)=false:=decide_eq_false (by omega)
  have e4:decide ((64:Int)<(S.length:Int))=true:=decide_eq_true (by omega)
  simp (disch:=omega) only [Aa,e3,e4,go_sem]
  try simp
 have e3:decide (S.length≤64)=true:=decide_eq_true (by omega)
 have e4:decide ((64:Int)<(S.length:Int))=false:=decide_eq_false (by omega)
 rw [e3]
 simp only [Bool.true_and]
 simp (disch:=omega) only [Aa,e4,go_sem]
 refine loop (fun p:Nat × Nat=>⟨[(1,.bx m 0),(3,.i .i64 p.1)],(m,.bx [.i .i64 t.k,.s t.n,.ds (Bv S),.ds t.dirs,.ds (Ad Bq t.fields),.ds t.members,.ds t.inputs])::hp,p.2⟩) (fun p=>p.1≤S.length∧m+1≤p.2∧R=(S.drop p.1).all ES) (fun p=>S.length - p.1) (0,m+1) ?_ ?_ (fun ⟨j,n⟩ hj=>?_)
 .exact ⟨by simp,by simp,hR.symm⟩
 .refine Ac ?_ (A6.cons ?_ (A6.base hf ?_)) (zna _)
  all_goals (simp (disch:=omega) only [Aa,go_sem])
 dsimp only at hj
 obtain ⟨Cm,Ba,Aw⟩:=hj
 have BO:m≤n:=by omega
 simp (disch:=omega) only [Aa,go_sem]
 refine Ai (fun q=>?_) (fun q=>?_)
 case' refine_1 =>
  have q:j<S.length:=by simpa using q
  obtain ⟨x,ex⟩:∃x,S[j]?=some x:=⟨S[j],by simp [q]⟩
  rw [A5 ex,List.all_cons] at Aw
  have hX:=BE x
  simp (disch:=omega) only [Aa,q,Ag (Ab C9 ex),go_sem]
  cases hx:ES x with
  | false =>
   rw [hx] at Aw hX
   have Aw:R=false:=Aw
   subst Aw
   refine Af.f (hX _ _) ?_
   simp (disch:=omega) only [Aa,BO,go_sem]
  | true =>
   rw [hx,Bool.true_and] at Aw
   rw [hx] at hX
   refine Af.f (hX _ _) ?_
   simp (disch:=omega) only [Aa,go_sem]
   refine ⟨(j+1,n),⟨by dsimp only;omega,by dsimp only;omega,Aw⟩,by dsimp only;omega,Ac ?_ (A6.refl _) (zna _)⟩
   simp (disch:=omega) only [Aa,At j (by omega),go_sem]
 have q:j=S.length:=by simp at q;omega
 subst q
 rw [zll] at Aw
 have Aw:R=true:=Aw
 subst Aw
 have c1:∀n:Nat,decide ((n:Int)=0)=decide (n=0):=fun n=>by simp
 have c2:∀n:Nat,decide ((0:Int)<(n:Int))=decide (0<n):=fun n=>by simp
 by_cases k1:t.k=1
 .rw [if_pos k1]
  simp (disch:=omega) only [Aa,decide_eq_true k1,c1,c2,go_sem]
  refine Af.f (hF _ _) ?_
  simp (disch:=omega) only [Aa,c1,c2,BO,go_sem]
  try simp [Bool.and_assoc]
 rw [if_neg k1]
 have k1:=decide_eq_false k1
 by_cases k2:t.k=2
 .rw [if_pos k2]
  simp (disch:=omega) only [Aa,k1,decide_eq_true k2,c1,c2,go_sem]
  refine AA.f (fun _=>hF _ _) ?_
  simp (disch:=omega) only [Aa,c1,c2,BO,go_sem]
  try simp [Bool.and_assoc]
 rw [if_neg k2]
 have k2:=decide_eq_false k2
 by_cases k3:t.k=3
 .rw [if_pos k3]
  simp (disch:=omega) only [Aa,k1,k2,decide_eq_true k3,c1,c2,go_sem]
  refine AA.f (fun _=>hM true _ _) ?_
  simp (disch:=omega) only [Aa,c1,c2,BO,go_sem]
  try simp [Bool.and_assoc]
 rw [if_neg k3]
 have k3:=decide_eq_false k3
 by_cases k4:t.k=4
 .rw [if_pos k4]
  simp (disch:=omega) only [Aa,k1,k2,k3,decide_eq_true k4,c1,c2,go_sem]
  refine AA.f (fun _=>hM false _ _) ?_
  simp (disch:=omega) only [Aa,c1,c2,BO,go_sem]
  try simp [Bool.and_assoc]
 rw [if_neg k4]
 have k4:=decide_eq_false k4
 by_cases k5:t.k=5
 .rw [if_pos k5]
  simp (disch:=omega) only [Aa,k1,k2,k3,k4,decide_eq_true k5,c1,c2,go_sem]
  refine AA.f (fun _=>hI _ _) ?_
  simp (disch:=omega) only [Aa,c1,c2,BO,go_sem]
  try simp [Bool.and_assoc]
 rw [if_neg k5]
 have k5:=decide_eq_false k5
 simp (disch:=omega) only [Aa,k1,k2,k3,k4,k5,BO,go_sem]
theorem Rl (l:List Az) (hl:l.length≤1000000000000) (hd:∀t∈l,DfnR t) (hp:CH) (m:Nat):Ah prog 22 hp m [B5 l] (.b (decide (1≤l.length)&&(decide (l.length≤64)&&l.all V8))):=by
 obtain ⟨R,hR⟩:∃R,l.all V8=R:=⟨_,rfl⟩
 rw [hR]
 refine Am func22 (by kernel_rfl) cc22 cr22 rfl fun hf=>?_;unfold ck22
 by_cases q1:l.length<1
 .have e1:decide (1≤l.length)=false:=decide_eq_false (by omega)
  have e2:decide ((l.length:Int)<1)=true:=decide_eq_true (by omega)
  simp (disch:=omega) only [Aa,e1,e2,go_sem]
  try simp
 have e1:decide (1≤l.length)=true:=decide_eq_true (by omega)
 have e2:decide ((l.length:Int)<1)=false:=decide_eq_false (by omega)
 by_cases q2:64<l.length
 .have e3:decide (l.length≤64)=false:=decide_eq_false (by omega)
  have e4:decide ((64:Int)<(l.length:Int))=true:=decide_eq_true (by omega)
  simp (disch:=omega) only [Aa,e1,e2,e3,e4,go_sem]
  try simp
 have e3:decide (l.length≤64)=true:=decide_eq_true (by omega)
 have e4:decide ((64:Int)<(l.length:Int))=false:=decide_eq_false (by omega)
 rw [e1,e3,Bool.true_and,Bool.true_and]
 simp (disch:=omega) only [Aa,e2,e4,go_sem]
 refine loop (fun p:Nat × Nat=>⟨[(1,.bx m 0),(3,.i .i64 p.1)],(m,.bx [.ds (Ad BB l)])::hp,p.2⟩) (fun p=>p.1≤l.length∧m+1≤p.2∧R=(l.drop p.1).all V8) (fun p=>l.length - p.1) (0,m+1) ?_ ?_ (fun ⟨j,n⟩ hj=>?_)
 .exact ⟨by simp,by simp,hR.symm⟩
 .refine Ac ?_ (A6.cons ?_ (A6.base hf ?_)) (zna _)
  all_goals (simp (disch:=omega) only [Aa,go_sem])
 dsimp only at hj
 obtain ⟨Cm,Ba,Aw⟩:=hj
 have BO:m≤n:=by omega
 simp (disch:=omega) only [Aa,go_sem]
 refine Ai (fun q=>?_) (fun q=>?_)
 .have q:j<l.length:=by simpa using q
  obtain ⟨x,ex⟩:∃x,l[j]?=some x:=⟨l[j],by simp [q]⟩
  rw [A5 ex,List.all_cons] at Aw
  have hX:=VM x (hd x (zla ex))
  simp (disch:=omega) only [Aa,q,Ag (Ab BB ex),go_sem]
  cases hx:V8 x with
  | false =>
   rw [hx] at Aw hX
   have Aw:R=false:=Aw
   subst Aw
   refine Af.f (hX _ _) ?_
   simp (disch:=omega) only [Aa,BO,go_sem]
  | true =>
   rw [hx,Bool.true_and] at Aw
   rw [hx] at hX
   refine Af.f (hX _ _) ?_
   simp (disch:=omega) only [Aa,go_sem]
   refine ⟨(j+1,_),⟨by dsimp only;omega,by dsimp only;omega,Aw⟩,by dsimp only;omega,Ac ?_ (A6.refl _) (zna _)⟩
   simp (disch:=omega) only [Aa,At j (by omega),go_sem]
 .have q:j=l.length:=by simp at q;omega
  subst q
  rw [zll] at Aw
  have Aw:R=true:=Aw
  subst Aw
  simp (disch:=omega) only [Aa,BO,go_sem]
end Go.Proofs.YtgfidgoefioigaaGreatDoor
