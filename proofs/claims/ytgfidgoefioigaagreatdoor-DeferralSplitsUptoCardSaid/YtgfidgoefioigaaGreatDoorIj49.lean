/- Proof. Conditions: none. -/
import Derived.Test.YtgfidgoefioigaaGreatDoorIj48
noncomputable section
open List renaming flatMap_cons->zy,flatMap_nil->z22,not_mem_nil->zf
open Nat renaming zero_le->zt,add_assoc->zd
open Bool renaming not_true->zp,not_false->zi
open Go.Proofs.Tryz
open List renaming mem_of_getElem?->zla,length_append->zld,cons_append->zlh,nil_append->zli,map_append->zlq,mem_cons->zlw
open Nat renaming le_refl->zna
namespace Go.Proofs.YtgfidgoefioigaaGreatDoor
open Go.Eng
set_option linter.all false
set_option maxRecDepth 20000
set_option maxHeartbeats 4000000
def Jl (doc:List Aw) (l:List Pk) (v:Ag) (name:qB):Gt:=A7 doc (C5 (AB (typF v) name l) v) (typF v) [] (AM (AB (typF v) name l)) []
def Ul (doc:List Aw) (l:List Pk) (v:Ag) (path:List Ag) (name:qB):List DB :=
 .mk name path (Jl doc l v name).1 (Ef (Jl doc l v name).2 path 0)::JP doc (AB (typF v) name l) v (Jl doc l v name).1 path
def NU (doc:List Aw) (v data:Ag) (path:List Ag) (q:Pk):List DB:=if q.on=typF v∧q.label=⟨#[]⟩ then GI doc q v data path else []
theorem ZN (on:qB) (l:List Pk) (h:∀p∈l,p.on=on∧p.label=⟨#[]⟩) {β:Type} (f:Pk->List β) (hf:∀q,f (DL q)=f q):(AB on ⟨#[]⟩ l).flatMap f=l.flatMap f:=by
 induction l with
 |nil=>rfl
 |cons p l ih=>
  obtain ⟨h1,h2⟩:=h p (by simp)
  have e:AB on ⟨#[]⟩ (p::l)=DL p::AB on ⟨#[]⟩ l:=by
   unfold AB
   rw [List.filter_cons_of_pos (by simp [h1,h2]),List.map_cons]
  rw [e,zy,zy,hf,ih fun q hq=>h q (by simp [hq])]
theorem XZ (doc:List Aw) (l:List Pk) (v d:Ag) (path:List Ag) (name:qB):Dd doc (AB (typF v) name l) v d path=(AB (typF v) name l).flatMap fun q=>GI doc q v d path:=by
 rw [N0,Kq,z22,zli]
 exact ZN _ _ (fun p hp=>⟨(Ee hp).1,(Ee hp).2.1⟩) _ fun q=>by rw [L7]
theorem Y2 (doc:List Aw) (l:List Pk) (v data:Ag) (path:List Ag) (h6:v.k=6):Dd doc l v data path=(C0 (typF v) l []).flatMap (Ul doc l v path)++l.flatMap (NU doc v data path):=by
 rw [N0]
 congr 1
 .congr 1
  funext name
  unfold Ul JP Jl
  congr 1
  by_cases c:(A7 doc (C5 (AB (typF v) name l) v) (typF v) [] (AM (AB (typF v) name l)) []).1.k=6
  .rw [iP c,iP ⟨h6,c⟩,XZ]
  .rw [iN c,iN (fun h=>c h.2)]
 .unfold AB
  induction l with
  |nil=>rfl
  |cons p l ih=>
   rw [List.filter_cons,zy]
   by_cases c:p.on=typF v∧p.label=⟨#[]⟩
   .have e:NU doc v data path p=GI doc p v data path:=iP c
    rw [iP (by simp [c.1,c.2]),List.map_cons,zy,ih,L7,e]
   .have e:NU doc v data path p=[]:=iN c
    have c2:¬(decide (p.on=typF v)&&decide (p.label=⟨#[]⟩))=true:=by simpa using c
    rw [iN c2,ih,e,zli]
inductive VdS
 | mk (j g:Nat) (l:List DB) (n:Nat)
theorem Np (doc:List Aw) (CI:DocOk doc) (l:List Pk) (hF:∀q∈l,q.tw.length<=1000000000000∧Lk doc q.picks) (hP:∀on name,name∈C0 on l []->Lk doc (AB on name l)):Lk doc l:=by
 intro v data path hp m sz hd FM hb Da
 by_cases k6:v.k=6∧data.k=6
 case' neg=>
  have e:JP doc l v data path=[]:=iN k6
  rw [e] at Da ⊢
  refine Aj func33 (tA cc33) (tB cc33) (tC cc33) rfl fun hf=>?_;unfold ck33
  by_cases a:v.k=6
  .have b:¬data.k=6:=fun h=>k6 ⟨a,h⟩
   simp (disch:=omega) only [dT a,dF b,zp,zi,go_sem]
  .simp (disch:=omega) only [dF a,zi,go_sem]
 obtain ⟨v6,d6⟩:=k6
 have hb:=hb v6
 have e:JP doc l v data path=Dd doc l v data path:=iP ⟨v6,d6⟩
 rw [e] at Da ⊢
 have hvf:=sz.fit
 have hvw:=sz.w
 have TU:=sz.p.len
 have hKi:=MS v hvf
 rw [Y2 doc l v data path v6] at Da ⊢
 have hEa:=fun name=>PB (AB (typF v) name l) (sz.par (typF v) name).p v v6 (by omega)
 have hRu:=fun name=>((sz.par (typF v) name).wit).rrun CI (typF v)
 have x9:=fun name=>((sz.par (typF v) name).wit).prb (doc:=doc) (typF v)
 have hlab:∀name,Ul doc l v path name=.mk name path (Jl doc l v name).1 (Ef (Jl doc l v name).2 path 0)::JP doc (AB (typF v) name l) v (Jl doc l v name).1 path:=fun name=>rfl
 have hlon:∀q,NU doc v data path q=if q.on=typF v∧q.label=⟨#[]⟩ then GI doc q v data path else []:=fun q=>rfl
 have hRu:∀name hp m,Af prog 30 hp m [B0 doc,.s (typF v),.ds (Ab AJ (AM (AB (typF v) name l))),vx (C5 (AB (typF v) name l) v)] (.tp [vx (Jl doc l v name).1,.ds (Ab BD (Jl doc l v name).2)]):=hRu
 have x9:∀name,(Jl doc l v name).2.length<=10000000000∧(Jl doc l v name).1.Fit∧∀q∈(Jl doc l v name).2,q.p.length<=100000000:=x9
 obtain ⟨on,IH⟩:=A5 (typF v)
 simp only [IH] at hKi Da hEa hRu hlab hlon ⊢
 have hszp:=fun name=>sz.par on name
 have t8:=Ai2 l on (by omega)
 obtain ⟨K,hK⟩:=A5 (C0 on l [])
 rw [hK] at t8 Da ⊢
 have hKn:K.length<=l.length:=by rw [<-hK];have:=If on l [];rw [List.length_nil] at this;omega
 have hKl:(Bd K).length=K.length:=Ao _ _
 obtain ⟨R,A9⟩:=A5 (K.flatMap (Ul doc l v path)++l.flatMap (NU doc v data path))
 rw [A9] at Da ⊢
 obtain ⟨F3,hF3⟩:=A5 (l.flatMap (NU doc v data path))
 rw [hF3] at A9
 refine Aj func33 (tA cc33) (tB cc33) (tC cc33) rfl fun hf=>?_;unfold ck33
 simp (disch:=omega) only [dT v6,dT d6,zp,go_sem]
 refine Ac.f (hKi _ _) ?_
 simp (disch:=omega) only [go_sem]
 refine Ac.f (t8 _ _) ?_
 simp (disch:=omega) only [go_sem]
 refine loop (fun p:VdS=>match p with
  | .mk i g L n'=>⟨[(1,.ds (Ab AJ l)),(4,.ds (Ab Ar path)),(5,.bx m 0),(7,.bx (m+1) 0),(8,.bx (m+2) 0),(11,.s on),(12,.rw (m+3) g L.length),(13,.ds (Bd K)),(14,.i .i64 i)],(m+3,.rw g 8 (Ab Bi L))::(m,.bx [.ds (Ab B8 doc)]) ::
   (m+1,.bx [.i .i64 v.k,.i .i64 v.n,.s v.s,.ds (Ab Ar v.items),.ds (Bd v.keys)])::(m+2,.bx [.i .i64 data.k,.i .i64 data.n,.s data.s,.ds (Ab Ar data.items),.ds (Bd data.keys)])::hp,n'⟩)
  (fun p=>match p with | .mk i g L n'=>i<=K.length∧m+4<=n'∧R=L++((K.drop i).flatMap (Ul doc l v path)++F3)) (fun p=>match p with | .mk i g L n'=>K.length - i) (.mk 0 0 [] (m+4)) ?_ ?_ (fun p hi=>?_)
 .exact ⟨zt _,zna _,A9.symm⟩
 .dsimp only
  refine (Bo (t:=12) (m:=8) (by (simp (disch:=omega) only [go_sem]))).trans (Kd hf ?_ ?_ ?_ ?_ ?_ (fun a ha c7=>?_) (zna _))
  .simp (disch:=omega) only [go_sem]
  .simp (disch:=omega) only [go_sem]
   try rfl
  .simp (disch:=omega) only [go_sem]
  .simp (disch:=omega) only [go_sem]
  .simp (disch:=omega) only [go_sem]
  .simp only [zlw,zf,or_false,not_or] at c7
   repeat rw [Ai _ _ (by omega)]
 obtain ⟨i,gg,L,n'⟩:=p
 obtain ⟨LX,HG,Dw⟩:=hi
 have hLR:L.length<=R.length:=by rw [Dw,zld];omega
 have BS:(Ab Bi L).length=L.length:=Ao _ _
 dsimp only
 simp (disch:=omega) only [go_sem]
 refine Ae (fun e=>?_) (fun e=>?_)
 .have e:i<K.length:=by simpa using e
  obtain ⟨nm,en⟩:∃x,K[i]?=some x:=⟨K[i],by simp [e]⟩
  have FN:=zla en
  rw [A2 en,zy,hlab] at Dw
  have hPa:=Adq l on nm (by omega)
  have hEn:=hEa nm
  have hRn:=hRu nm
  obtain ⟨o1,o2,o3⟩:=x9 nm
  have hVp:=hP on nm (by rw [hK];exact FN)
  have hszn:=hszp nm
  obtain ⟨A,hA⟩:=A5 (AB on nm l)
  rw [hA] at hPa hEn hRn hVp Dw hszn
  have VW:=G8 A (by have:=hszn.k;omega)
  obtain ⟨Q,hQ⟩:=A5 (Jl doc l v nm)
  rw [hQ] at hRn o1 o2 o3 Dw
  have hMv:=Nm Q.2 (by omega) (fun q hq=>by have:=o3 q hq;omega) path (by omega) 0 (by decide)
  have hJ:=Hq path A6 (by omega)
  obtain ⟨MV,hMV⟩:=A5 (Ef Q.2 path 0)
  rw [hMV] at hMv Dw
  simp (disch:=omega) only [e,Ad (Aa Cz en),go_sem]
  refine Ac.f (hPa _ _) ?_
  simp (disch:=omega) only [go_sem]
  refine Aq.f (fun _ _ _=>VW _ _) ?_
  simp (disch:=omega) only [go_sem]
  refine Aq.f (fun _ _ _=>hEn _ _) ?_
  simp (disch:=omega) only [go_sem]
  have u1:¬n'+10=m:=by omega
  have u2:¬n'+11=m:=by omega
  have u3:¬n'+10=m+1:=by omega
  have u4:¬n'+10=m+3:=by omega
  have tkp:List.take path.length (path++[Ag.mk 0 0 ⟨#[]⟩ [] []])=path:=List.take_left
  have hpn:(path.length:Int)<=((path++[Ag.mk 0 0 ⟨#[]⟩ [] []]).length:Int):=by rw [zld,List.length_cons];omega
  have k1:(L.length+1)*144<=140737488355328:=by omega
  have k2:L.length+1<=9223372036854775807:=by omega
  have snp:Ab Bi L++[[AV.s nm,.ds (Ab Ar path),.i .i64 Q.1.k,.i .i64 Q.1.n,.s Q.1.s,.ds (Ab Ar Q.1.items),.ds (Bd Q.1.keys),.ds (Ab BD MV)]]=Ab Bi (L++[.mk nm path Q.1 MV]):=AX Bi L (.mk nm path Q.1 MV)
  refine Aq.f (fun _ _ _=>hRn _ _) ?_
  simp (disch:=omega) only [e,u1,u2,u3,u4,true_and,Ad (Aa Cz en),go_sem]
  refine Aq.f (fun _ _ _=>Af.cv (args':=[.ds (Ab Ar path),vx A6]) rfl (hJ _ _)) ?_
  simp (disch:=omega) only [e,u1,u2,u3,u4,true_and,tkp,hpn,Ad (Aa Cz en),go_sem]
  refine Aq.f (fun _ _ _=>hMv _ _) ?_
  simp (disch:=omega) only [e,u1,u2,u3,u4,true_and,tkp,BS,k1,k2,snp,Ad (Aa Cz en),go_sem]
  obtain ⟨L2,VD⟩:=A5 (L++[DB.mk nm path Q.1 MV])
  have hL2l:L2.length=L.length+1:=by rw [<-VD];simp
  rw [VD,<-hL2l]
  obtain ⟨W,hW⟩:=A5 (JP doc A v Q.1 path)
  rw [hW] at Dw
  have Gq:R=L2++W++((K.drop (i+1)).flatMap (Ul doc l v path)++F3):=by rw [Dw,<-VD];simp
  have hLW:L2.length+W.length<=R.length:=by rw [Gq,zld,zld];omega
  have hX:=fun Al n'=>hVp v Q.1 path Al n' hszn o2 FM (fun _=>hb) (by rw [hW];omega)
  rw [hW] at hX
  have hL2m:(Ab Bi L2).length=L2.length:=Ao _ _
  have hWm:(Ab Bi W).length=W.length:=Ao _ _
  have k3:(L2.length+W.length)*144<=140737488355328:=by omega
  have k4:L2.length+W.length<=9223372036854775807:=by omega
  have sna:Ab Bi L2++Ab Bi W=Ab Bi (L2++W):=zlq.symm
  refine Ac.f (hX _ _) ?_
  simp (disch:=omega) only [e,hL2m,hWm,k3,k4,sna,true_and,go_sem]
  refine ⟨I9 W,.mk (i+1) (gg+2) (L2++W) (n'+60),⟨show i+1<=K.length by omega,show m+4<=n'+60 by omega,Gq⟩,by show K.length - (i+1)<K.length - i;omega,?_⟩
  dsimp only
  refine Kd hf ?_ ?_ ?_ ?_ ?_ (fun a ha c7=>?_) (by omega)
  .simp (disch:=omega) only [Ap i (by omega),zld,go_sem]
  .simp (disch:=omega) only [go_sem]
  .simp (disch:=omega) only [go_sem]
  .simp (disch:=omega) only [go_sem]
  .simp (disch:=omega) only [go_sem]
  .simp only [zlw,zf,or_false,not_or] at c7
   repeat rw [Ai _ _ (by omega)]
 have e:i=K.length:=by simp at e;omega
 subst e
 rw [List.drop_length,z22,zli] at Dw
 simp (disch:=omega) only [go_sem]
 refine loop (fun p:VdS=>match p with
  | .mk j g L n'=>⟨[(1,.ds (Ab AJ l)),(4,.ds (Ab Ar path)),(5,.bx m 0),(7,.bx (m+1) 0),(8,.bx (m+2) 0),(11,.s on),(12,.rw (m+3) g L.length),(18,.i .i64 j)],(m+3,.rw g 8 (Ab Bi L))::(m,.bx [.ds (Ab B8 doc)]) ::
   (m+1,.bx [.i .i64 v.k,.i .i64 v.n,.s v.s,.ds (Ab Ar v.items),.ds (Bd v.keys)])::(m+2,.bx [.i .i64 data.k,.i .i64 data.n,.s data.s,.ds (Ab Ar data.items),.ds (Bd data.keys)])::hp,n'⟩)
  (fun p=>match p with | .mk j g L n'=>j<=l.length∧m+4<=n'∧R=L++(l.drop j).flatMap (NU doc v data path)) (fun p=>match p with | .mk j g L n'=>l.length - j) (.mk 0 gg L n') ?_ ?_ (fun p hj=>?_)
 .exact ⟨zt _,HG,by rw [List.drop_zero,hF3];exact Dw⟩
 .dsimp only
  refine Kd hf ?_ ?_ ?_ ?_ ?_ (fun a ha c7=>?_) (zna _)
  .simp (disch:=omega) only [go_sem]
  .simp (disch:=omega) only [go_sem]
  .simp (disch:=omega) only [go_sem]
  .simp (disch:=omega) only [go_sem]
  .simp (disch:=omega) only [go_sem]
  .simp only [zlw,zf,or_false,not_or] at c7
   repeat rw [Ai _ _ (by omega)]
 clear Dw hLR hF3 BS HG
 obtain ⟨j,g2,M,l7⟩:=p
 obtain ⟨Cg,Bc,As⟩:=hj
 have hMR:M.length<=R.length:=by rw [As,zld];omega
 have hMl:(Ab Bi M).length=M.length:=Ao _ _
 have BC:m<=l7:=by omega
 dsimp only
 simp (disch:=omega) only [go_sem]
 refine Ae (fun d=>?_) (fun d=>?_)
 case' refine_2=>
  have d:j=l.length:=by simp at d;omega
  subst d
  rw [List.drop_length,z22,List.append_nil] at As
  subst As
  simp (disch:=omega) only [BC,hMl,zna,go_sem]
 have d:j<l.length:=by simpa using d
 obtain ⟨q,eq⟩:∃x,l[j]?=some x:=⟨l[j],by simp [d]⟩
 have hqm:=zla eq
 rw [A2 eq,zy,hlon] at As
 simp (disch:=omega) only [d,Ad (Aa AJ eq),go_sem]
 refine Ae (fun c=>?_) (fun c=>?_)
 .have c:¬q.on=on∨¬q.label=⟨#[]⟩:=by simpa using c
  rw [iN (fun h=>c.elim (fun c=>c h.1) (fun c=>c h.2)),zli] at As
  simp (disch:=omega) only [go_sem]
  refine ⟨.mk (j+1) (g2) (M) (l7+60),⟨show j+1<=l.length by omega,show m+4<=l7+60 by omega,As⟩,by show l.length - (j+1)<l.length - j;omega,?_⟩
  dsimp only
  refine Kd hf ?_ ?_ ?_ ?_ ?_ (fun a ha c7=>?_) (by omega)
  .simp (disch:=omega) only [Ap j (by omega),zld,zd,go_sem]
  .simp (disch:=omega) only [go_sem]
  .simp (disch:=omega) only [go_sem]
  .simp (disch:=omega) only [go_sem]
  .simp (disch:=omega) only [go_sem]
  .simp only [zlw,zf,or_false,not_or] at c7
   repeat rw [Ai _ _ (by omega)]
 have c:q.on=on∧q.label=⟨#[]⟩:=by simpa using c
 rw [iP c,Kg] at As
 have szq:Sz q.picks v:=sz.le (sz.p.x hqm) sz.r (zna _) (by have:=CA hqm;have:=Cs q;omega)
 have TT:=DA v hvf q.key
 have TR:=DA data hd q.key
 unfold KQ at TT TR
 have hTx:=Nf q.key
 have hJ:=Hq path (CW q.key) (by omega)
 have m6:=KH szq.r q
 have p8:=NM v q
 have m9:=N2 v q
 have q8:(AW data q).Fit:=GU hd q.key
 have TT:∀hp m,Af prog 18 hp m [vx v,.s q.key] (.tp [vx (AW v q),.b (AA v q.key).isSome]):=TT
 have TR:∀hp m,Af prog 18 hp m [vx data,.s q.key] (.tp [vx (AW data q),.b (AA data q.key).isSome]):=TR
 unfold Ya at As
 rw [IH] at As
 obtain ⟨raw,hraw⟩:=A5 (AW v q)
 obtain ⟨y7,hdon⟩:=A5 (AW data q)
 rw [hraw] at TT As m6 p8 m9
 rw [hdon] at TR As q8
 obtain ⟨b1,VB⟩:=A5 ((AA v q.key).isSome)
 obtain ⟨b2,ER⟩:=A5 ((AA data q.key).isSome)
 rw [VB] at TT
 rw [ER] at TR
 obtain ⟨BM,hhere⟩:=A5 (path++[CW q.key])
 rw [hhere] at hJ As
 have hhl:BM.length=path.length+1:=by rw [<-hhere];simp
 have y8:Sz q.picks raw:=szq.le szq.p m6 p8 (zna _)
 obtain ⟨W,hW⟩:=A5 (Cb (Dd doc q.picks) raw y7 BM)
 rw [hW] at As
 obtain ⟨Z,hZ⟩:=A5 ((if 0<=q.initial∧raw.k=5∧y7.k=5 then DN doc (F9 q) (Dd doc q.picks) on q.key (B5 q (-1)) BM (raw.items.drop q.initial.toNat) q.initial.toNat else []))
 rw [hZ] at As
 have hMZ:M.length+W.length+Z.length<=R.length:=by rw [As];simp only [zld];omega
 have hT:=fun Al n'=>TG doc q (hF q hqm).2 raw y7 BM Al n' y8 q8 (by omega) (fun h=>by have:=m9 h;omega) (by rw [hW];omega)
 rw [hW] at hT
 have hWm:(Ab Bi W).length=W.length:=Ao _ _
 have k3:(M.length+W.length)*144<=140737488355328:=by omega
 have k4:M.length+W.length<=9223372036854775807:=by omega
 have sna:Ab Bi M++Ab Bi W=Ab Bi (M++W):=zlq.symm
 have hMW:(M++W).length=M.length+W.length:=zld
 simp (disch:=omega) only [go_sem]
 refine Ac.f (TT _ _) ?_
 simp (disch:=omega) only [go_sem]
 refine Ac.f (TR _ _) ?_
 simp (disch:=omega) only [go_sem]
 refine Ac.f (hTx _ _) ?_
 simp (disch:=omega) only [go_sem]
 refine Ac.f (hJ _ _) ?_
 simp (disch:=omega) only [go_sem]
 refine Ac.f (hT _ _) ?_
 simp (disch:=omega) only [hMl,hWm,k3,k4,sna,true_and,go_sem]
 refine ⟨I9 W,Ae (fun c2=>?_) (fun c2=>?_)⟩
 .have c2:(0<=q.initial∧raw.k=5)∧y7.k=5:=by simpa using c2
  obtain ⟨⟨z1,z2⟩,z3⟩:=c2
  rw [iP ⟨z1,z2,z3⟩] at hZ
  have hLt:=Aa8 doc CI q (hF q hqm).1 (hF q hqm).2 raw on BM y8 z1 (by have:=m9 (.inl z2);omega) (by rw [hZ];omega)
  rw [hZ] at hLt
  have hMWl:(Ab Bi (M++W)).length=M.length+W.length:=by rw [Ao];exact hMW
  have hZm:(Ab Bi Z).length=Z.length:=Ao _ _
  have k5:(M.length+W.length+Z.length)*144<=140737488355328:=by omega
  have k6:M.length+W.length+Z.length<=9223372036854775807:=by omega
  have snb:Ab Bi (M++W)++Ab Bi Z=Ab Bi (M++W++Z):=zlq.symm
  simp (disch:=omega) only [go_sem]
  refine Ac.f (hLt _ _) ?_
  have As:R=M++W++Z++(l.drop (j+1)).flatMap (NU doc v data path):=by rw [As];simp only [List.append_assoc]
  simp (disch:=omega) only [hMWl,hZm,k5,k6,snb,true_and,go_sem]
  refine ⟨I9 Z,by omega,by omega,?_⟩
  refine ⟨.mk (j+1) (g2+2) (M++W++Z) (l7+60),⟨show j+1<=l.length by omega,show m+4<=l7+60 by omega,As⟩,by show l.length - (j+1)<l.length - j;omega,?_⟩
  dsimp only
  refine Kd hf ?_ ?_ ?_ ?_ ?_ (fun a ha c7=>?_) (by omega)
  .simp (disch:=omega) only [Ap j (by omega),zld,zd,go_sem]
  .simp (disch:=omega) only [go_sem]
  .simp (disch:=omega) only [go_sem]
  .simp (disch:=omega) only [go_sem]
  .simp (disch:=omega) only [go_sem]
  .simp only [zlw,zf,or_false,not_or] at c7
   repeat rw [Ai _ _ (by omega)]
 .have c2:¬((0<=q.initial∧raw.k=5)∧y7.k=5):=by simpa using c2
  rw [iN (fun h=>c2 ⟨⟨h.1,h.2.1⟩,h.2.2⟩)] at hZ
  subst hZ
  have As:R=M++W++(l.drop (j+1)).flatMap (NU doc v data path):=by rw [As,List.append_nil,List.append_assoc]
  simp (disch:=omega) only [go_sem]
  refine ⟨.mk (j+1) (g2+1) (M++W) (l7+60),⟨show j+1<=l.length by omega,show m+4<=l7+60 by omega,As⟩,by show l.length - (j+1)<l.length - j;omega,?_⟩
  dsimp only
  refine Kd hf ?_ ?_ ?_ ?_ ?_ (fun a ha c7=>?_) (by omega)
  .simp (disch:=omega) only [Ap j (by omega),zld,zd,go_sem]
  .simp (disch:=omega) only [go_sem]
  .simp (disch:=omega) only [go_sem]
  .simp (disch:=omega) only [go_sem]
  .simp (disch:=omega) only [go_sem]
  .simp only [zlw,zf,or_false,not_or] at c7
   repeat rw [Ai _ _ (by omega)]
theorem SE (doc:List Aw) (CI:DocOk doc) (l:List Pk) (O5:B6 l) (H:∀p∈l,Lk doc p.picks):Lk doc l:=by
 refine Np doc CI l (fun q hq=>⟨O5.t hq,H q hq⟩) fun on name _=>?_
 refine Np doc CI (AB on name l) (fun q hq=>?_) fun y6 name' h=>?_
 .obtain ⟨p,hp,rfl⟩:∃p∈l,DL p=q:=by
   unfold AB at hq
   obtain ⟨p,hp,e⟩:=List.mem_map.1 hq
   exact ⟨p,(List.mem_filter.1 hp).1,e⟩
  exact ⟨show p.tw.length<=_ from O5.t hp,show Lk doc p.picks from H p hp⟩
 .rw [Kq] at h
  cases h
theorem Ane (doc:List Aw) (CI:DocOk doc) (l:List Pk) (O5:B6 l):Lk doc l:=by
 have key:∀p:Pk,B6 p.picks->Lk doc p.picks:=fun p=>Pk.ind (Q:=fun p=>B6 p.picks->Lk doc p.picks) (fun p ih hp=>SE doc CI p.picks hp fun q hq=>ih q hq (hp.x hq)) p
 exact SE doc CI l O5 fun p hp=>key p (O5.x hp)
theorem Vi (doc:List Aw) (CI:DocOk doc) (root:qB) (l:List Pk) (v:Ag) (h6:v.k=6) (sz:Sz l v) (Da:(Ri doc root l v).2.2.length<=100000000000) (hp:CH) (m:Nat) :
 Af prog 10 hp m [B0 doc,.s root,.ds (Ab AJ l),vx v] (.tp [vx (Ri doc root l v).1,.ds (Ab BD (Ri doc root l v).2.1),.ds (Ab Bi (Ri doc root l v).2.2)]):=by
 have hvw:=sz.w
 have hvf:=sz.fit
 have VW:=G8 l (by have:=sz.k;omega)
 have hCu:=PB l sz.p v h6 (by omega)
 have hRu:=sz.wit.rrun CI root
 obtain ⟨o1,o2,o3⟩:=sz.wit.prb (doc:=doc) root
 have hVi:=Ane doc CI l sz.p v
 unfold Ri at Da ⊢
 obtain ⟨Q,hQ⟩:=A5 (A7 doc (C5 l v) root [] (AM l) [])
 rw [hQ] at hRu o1 o2 o3 Da ⊢
 have hVi:=fun Al n'=>hVi Q.1 [] Al n' sz o2 (by simp) (fun _=>by simp;omega) Da
 dsimp only at Da ⊢
 have e:(if v.k=6∧Q.1.k=6 then Dd doc l v Q.1 [] else [])=JP doc l v Q.1 []:=rfl
 rw [e] at Da ⊢
 obtain ⟨R,A9⟩:=A5 (JP doc l v Q.1 [])
 rw [A9] at Da hVi ⊢
 refine Aj func10 (tA cc10) (tB cc10) (tC cc10) rfl fun hf=>?_;unfold ck10
 simp (disch:=omega) only [go_sem]
 refine Aq.f (fun _ _ _=>VW _ _) ?_
 simp (disch:=omega) only [go_sem]
 refine Aq.f (fun _ _ _=>hCu _ _) ?_
 simp (disch:=omega) only [go_sem]
 refine Aq.f (fun _ _ _=>hRu _ _) ?_
 simp (disch:=omega) only [go_sem]
 refine Aq.f (fun _ _ _=>Af.cv (args':=[B0 doc,.ds (Ab AJ l),vx v,vx Q.1,.ds []]) rfl (hVi _ _)) ?_
 simp (disch:=omega) only [go_sem]
theorem OL (l:List Ag) (hl:l.length*80<=140737488355327) (hxs:∀x∈l,x.Fit) (hp:CH) (m:Nat):Af prog 35 hp m [.ds (Ab Ar l)] (vx (IM l)):=by
 refine Aj func35 (tA cc35) (tB cc35) (tC cc35) rfl fun hf=>?_;unfold ck35
 simp only [go_sem]
 refine Ac.f (KC l hl (fun x hx hp m=>Pv x (hxs x hx) hp m) _ _) ?_
 simp only [go_sem]
 rfl
theorem Kl {l:List Ag} (h:l.length<=1000000000000) (hx:∀x∈l,x.Fit):(IM l).Fit:=.mk _ (by simp only [IM,Ag.items_mk];omega) (by simp [IM,Ag.keys_mk]) (by simpa [IM,Ag.items_mk] using hx)
def OR (l:List Dc):Prop:=l.length<=1000000000000∧∀p∈l,p.p.length<=1000000000000∧∀x∈p.p,x.Fit
theorem La (l:List Dc) (h:OR l) (hp:CH) (m:Nat):Af prog 12 hp m [.ds (Ab BD l),.ds (Ab BD l)] (.b true):=by
 have hl:=h.1
 refine Aj func12 (tA cc12) (tB cc12) (tC cc12) rfl fun hf=>?_;unfold ck12
 simp (disch:=omega) only [go_sem]
 refine loop (fun p:Nat×Nat=>⟨[(0,.ds (Ab BD l)),(1,.ds (Ab BD l)),(5,.i .i64 p.1)],hp,p.2⟩) (fun p=>p.1<=l.length) (fun p=>l.length - p.1) (0,m) ?_ ?_ (fun ⟨j,n⟩ hj=>?_)
 .exact zt _
 .refine Di ?_
  simp only [go_sem]
 dsimp only at hj
 simp (disch:=omega) only [go_sem]
 refine Ae (fun d=>?_) (fun d=>?_)
 case' refine_2=>
  simp (disch:=omega) only [go_sem]
 have d:j<l.length:=by simpa using d
 obtain ⟨x,ex⟩:∃x,l[j]?=some x:=⟨l[j],by simp [d]⟩
 obtain ⟨h1,h2⟩:=h.2 x (zla ex)
 have Su:=OL x.p (by omega) h2
 have hSa:=Ij (IM x.p) (IM x.p) (Kl h1 h2) (Kl h1 h2)
 rw [Hk,dT rfl] at hSa
 simp (disch:=omega) only [d,Ad (Aa BD ex),Aa BD ex,zp,zi,go_sem]
 refine AC.f (fun _ _ _=>Su _ _) ?_
 simp (disch:=omega) only [d,Ad (Aa BD ex),Aa BD ex,zp,zi,go_sem]
 refine AC.f (fun _ _ _=>Su _ _) ?_
 simp (disch:=omega) only [d,Ad (Aa BD ex),Aa BD ex,zp,zi,go_sem]
 refine AC.f (fun _ _ _=>hSa _ _) ?_
 simp (disch:=omega) only [d,Ad (Aa BD ex),Aa BD ex,zp,zi,go_sem]
 refine ⟨(j+1,_),by dsimp only;omega,by dsimp only;omega,Di ?_⟩
 simp (disch:=omega) only [Ap j (by omega),go_sem]
def Ack (l:List DB):Prop:=l.length<=1000000000000∧∀p∈l,p.p.length<=1000000000000∧(∀x∈p.p,x.Fit)∧p.d.Fit∧OR p.q
theorem Uc (l:List DB) (h:Ack l) (hp:CH) (m:Nat):Af prog 13 hp m [.ds (Ab Bi l),.ds (Ab Bi l)] (.b true):=by
 have hl:=h.1
 refine Aj func13 (tA cc13) (tB cc13) (tC cc13) rfl fun hf=>?_;unfold ck13
 simp (disch:=omega) only [go_sem]
 refine loop (fun p:Nat×Nat=>⟨[(0,.ds (Ab Bi l)),(1,.ds (Ab Bi l)),(5,.i .i64 p.1)],hp,p.2⟩) (fun p=>p.1<=l.length) (fun p=>l.length - p.1) (0,m) ?_ ?_ (fun ⟨j,n⟩ hj=>?_)
 .exact zt _
 .refine Di ?_
  simp only [go_sem]
 dsimp only at hj
 simp (disch:=omega) only [go_sem]
 refine Ae (fun d=>?_) (fun d=>?_)
 case' refine_2=>
  simp (disch:=omega) only [go_sem]
 have d:j<l.length:=by simpa using d
 obtain ⟨x,ex⟩:∃x,l[j]?=some x:=⟨l[j],by simp [d]⟩
 obtain ⟨h1,h2,h3,h4⟩:=h.2 x (zla ex)
 have Su:=OL x.p (by omega) h2
 have hSa:=Ij (IM x.p) (IM x.p) (Kl h1 h2) (Kl h1 h2)
 rw [Hk,dT rfl] at hSa
 have hSb:=Ij x.d x.d h3 h3
 rw [Hk,dT rfl] at hSb
 have hPb:=La x.q h4
 simp (disch:=omega) only [d,Ad (Aa Bi ex),Aa Bi ex,zp,zi,go_sem]
 refine AC.f (fun _ _ _=>Su _ _) ?_
 simp (disch:=omega) only [d,Ad (Aa Bi ex),Aa Bi ex,zp,zi,go_sem]
 refine AC.f (fun _ _ _=>Su _ _) ?_
 simp (disch:=omega) only [d,Ad (Aa Bi ex),Aa Bi ex,zp,zi,go_sem]
 refine AC.f (fun _ _ _=>hSa _ _) ?_
 simp (disch:=omega) only [d,Ad (Aa Bi ex),Aa Bi ex,zp,zi,go_sem]
 refine AC.f (fun _ _ _=>hSb _ _) ?_
 simp (disch:=omega) only [d,Ad (Aa Bi ex),Aa Bi ex,zp,zi,go_sem]
 refine AC.f (fun _ _ _=>hPb _ _) ?_
 simp (disch:=omega) only [d,Ad (Aa Bi ex),Aa Bi ex,zp,zi,go_sem]
 refine ⟨(j+1,_),by dsimp only;omega,by dsimp only;omega,Di ?_⟩
 simp (disch:=omega) only [Ap j (by omega),go_sem]
set_option maxHeartbeats 2000000
theorem Hp (e:Int) (s:Be):(Cn e s).1=s.1:=rfl
theorem Fw (e:Int) (he:e≠0) (s:Be):(Cn e s).2≠0:=by
 unfold Cn
 dsimp only
 split
 .exact he
 .assumption
theorem Py (lv:Nat) (s:Be) (h:s.1<=4096):(HC lv s).1<=4097∧((HC lv s).2=0->(HC lv s).1<=4096∧lv<=24):=by
 unfold HC
 by_cases c:24<lv
 .simp only [c,if_true]
  have h5:=Fw 5 (by decide) s
  split
  .exact ⟨by rw [Hp];show (Cn 5 s).1+1<=4097;rw [Hp];omega,fun e=>absurd e (Fw 4 (by decide) _)⟩
  .exact ⟨by show (Cn 5 s).1+1<=4097;rw [Hp];omega,fun e=>absurd e h5⟩
 .simp only [c,if_false]
  split
  .exact ⟨by rw [Hp];show s.1+1<=4097;omega,fun e=>absurd e (Fw 4 (by decide) _)⟩
  .exact ⟨by show s.1+1<=4097;omega,fun e=>⟨by show s.1+1<=4096;omega,by omega⟩⟩
theorem DW:A6.Fit:=.mk _ (by show 0*80<=_;decide) (by show 0*16<=_;decide) (fun x (hx:x∈([]:List Ag))=>(by cases hx))
theorem Vw:A6.Rng:=.mk _ (by show (-9223372036854775808:Int)<=0;decide) (by show (0:Int)<=_;decide) (fun x (hx:x∈([]:List Ag))=>(by cases hx))
theorem JI (doc:List Aw) (hd:DocB doc) (k:Nat) (hk:k<=24) (ih:1<=k->CoK doc k) (lit:Bool) (tn:qB) (tw:List Int) (v:Ag) (s:Be) (DG:tw.length<=1000000000) (hv:v.Fit) (hr:v.Rng) (hs:s.2=0) (Sr:s.1<=4096)
 (hp:CH) (c n:Nat) (h:gc hp c=BZ doc lit s):AU prog 176 hp n [.bx c 0,D1 tn tw,vx v,.i .i64 ((25 - k:Nat):Int)] ([(c,BZ doc lit (D6 doc (k+1) lit tn tw v s).2)]++hp) n (vx (D6 doc (k+1) lit tn tw v s).1):=by
 have Dg:(∀k,n<=k->gc hp k=.no)->wsLt n [(c,BZ doc lit (D6 doc (k+1) lit tn tw v s).2)]:=fun hf=>FSw (DD h hf)
 have hc:=h
 unfold BZ at hc
 have G0:=hd.l
 have hY:=HT doc G0 tn
 obtain ⟨RR,A9⟩:=A5 (D6 doc (k+1) lit tn tw v s)
 rw [A9] at Dg ⊢
 rw [D6] at A9
 have hF:=fun (Al:CH) (e:gc Al c=gc hp c) (n':Nat)=>CU (hp:=Al) (e.trans h) 10 n'
 have hz:∀hp m,Af prog 18 hp m [.ag [.i .i64 0,.i .i64 0,.s ⟨#[]⟩,.e0,.e0],.s v.s] (.tp [vx A6,.b false]):=fun hp m=>(DA A6 DW v.s hp m).cv rfl
 obtain ⟨ib,hib⟩:=A5 (JF doc tn)
 rw [hib] at hY A9
 refine BR func176 (tA cc176) (tB cc176) (tC cc176) rfl Dg fun hf=>?_;unfold ck176
 have l1:=DD h hf
 simp (disch:=omega) only [hc,go_sem]
 refine Aq.f (fun _ _ _=>hY _ _) ?_
 cases ib with
 |false=>
  rw [iP rfl] at A9
  subst A9
  have u1:¬n+6=c:=by omega
  simp (disch:=omega) only [go_sem]
  refine Ac.x (hF _ (by repeat rw [Ai _ _ (by omega)]) _) ?_
  simp (disch:=omega) only [go_sem]
  all_goals
   refine BK (Ax _ _ _) fun j hj j1=>?_
   try simp only [zlh,zli]
   repeat rw [Ai _ _ (by omega)]
   try rfl
 |true=>
 rw [iN (by decide)] at A9
 obtain ⟨S1,Nu⟩:=A5 (HC (25 - k) s)
 have hN:=Py (25 - k) s Sr
 have hNo:=fun (Al:CH) (e:gc Al c=BZ doc lit s) (n':Nat)=>UB (hp:=Al) e (25 - k) (by omega) (by omega) n'
 rw [Nu] at hN A9
 simp only [Nu] at hNo
 have IP:=fun (Al:CH) (e:gc Al c=BZ doc lit S1) (e2:Int) (n':Nat)=>CU (hp:=Al) e e2 n'
 have VX:=DE tn tw (by omega)
 by_cases hv7:lit=true∧v.k=7
 .obtain ⟨rfl,h7⟩:=hv7
  have A9:(if S1.2≠0 then (A6,S1) else (A6,if Gk tw=true then Cn 23 S1 else S1))=RR:=by
   dsimp only at A9
   simp only [h7,and_self,if_true,(rfl:A6.k=0)] at A9
   exact A9
  simp (disch:=omega) only [dT h7,hc,go_sem]
  refine Aq.f (fun _ _ _=>hz _ _) ?_
  simp (disch:=omega) only [hc,go_sem]
  refine ⟨by omega,?_⟩
  refine Ac.x (hNo _ (by (repeat rw [Ai _ _ (by omega)]);exact h) _) ?_
  simp only [BZ,zlh,zli]
  simp (disch:=omega) only [go_sem]
  refine Ae (fun w=>?_) (fun w=>?_)
  .have w:S1.2≠0:=by simpa using w
   rw [iP w] at A9
   subst A9
   simp (disch:=omega) only [go_sem]
   all_goals
    refine BK (Ax _ _ _) fun j hj j1=>?_
    repeat rw [Ai _ _ (by omega)]
  .have w:¬S1.2≠0:=by simpa using w
   rw [iN w] at A9
   simp (disch:=omega) only [go_sem]
   refine Ac.f (VX _ _) ?_
   simp (disch:=omega) only [go_sem]
   refine Ae (fun w2=>?_) (fun w2=>?_)
   .rw [iP w2] at A9
    subst A9
    simp (disch:=omega) only [go_sem]
    refine Ac.x (IP _ (by (repeat rw [Ai _ _ (by omega)]);exact Ax _ _ _) 23 _) ?_
    simp only [BZ,zlh,zli]
    simp (disch:=omega) only [go_sem]
    all_goals
     refine BK (Ax _ _ _) fun j hj j1=>?_
     repeat rw [Ai _ _ (by omega)]
   .rw [iN (by simp [w2])] at A9
    subst A9
    simp (disch:=omega) only [go_sem]
    all_goals
     refine BK (Ax _ _ _) fun j hj j1=>?_
     repeat rw [Ai _ _ (by omega)]
 .dsimp only at A9
  rw [iN hv7] at A9
  have e7:(lit&&decide (v.k=7))=false:=by
   cases lit with
   |false=>rfl
   |true=>simp;exact fun e=>hv7 ⟨rfl,e⟩
  simp (disch:=omega) only [hc,go_sem]
  refine Ae (fun w=>?_) (fun w=>?_)
  .rw [e7] at w;cases w
  have k1:¬n=c:=by omega
  simp (disch:=omega) only [go_sem]
  refine Ac.x (hNo _ (by (repeat rw [Ai _ _ (by omega)]);exact h) _) ?_
  simp only [BZ,zlh,zli]
  simp (disch:=omega) only [go_sem]
  refine Ae (fun w=>?_) (fun w=>?_)
  .have w:S1.2≠0:=by simpa using w
   rw [iP w] at A9
   subst A9
   simp (disch:=omega) only [go_sem]
   all_goals
    refine BK (Ax _ _ _) fun j hj j1=>?_
    repeat rw [Ai _ _ (by omega)]
  have w:¬S1.2≠0:=by simpa using w
  rw [iN w] at A9
  simp (disch:=omega) only [go_sem]
  have hk1:1<=k:=by have:=(hN.2 (Classical.not_not.1 w)).2;omega
  have hSk:S1.2=0:=Classical.not_not.1 w
  have hS4:S1.1<=4096:=(hN.2 hSk).1
  refine Ae (fun w0=>?_) (fun w0=>?_)
  .have w0:v.k=0:=by simpa using w0
   rw [iP w0] at A9
   simp (disch:=omega) only [go_sem]
   refine Ac.f (VX _ _) ?_
   simp (disch:=omega) only [go_sem]
   refine Ae (fun w2=>?_) (fun w2=>?_)
   .rw [iP w2] at A9
    subst A9
    simp (disch:=omega) only [go_sem]
    refine Ac.x (IP _ (by (repeat rw [Ai _ _ (by omega)]);exact Ax _ _ _) 23 _) ?_
    simp only [BZ,zlh,zli]
    simp (disch:=omega) only [go_sem]
    all_goals
     refine BK (Ax _ _ _) fun j hj j1=>?_
     repeat rw [Ai _ _ (by omega)]
   .rw [iN (by simp [w2])] at A9
    subst A9
    simp (disch:=omega) only [go_sem]
    all_goals
     refine BK (Ax _ _ _) fun j hj j1=>?_
     repeat rw [Ai _ _ (by omega)]
  have w0:¬v.k=0:=by simpa using w0
  rw [iN w0] at A9
  have hI:=FF tn tw (by omega)
  simp (disch:=omega) only [go_sem]
  refine Ac.f (hI _ _) ?_
  by_cases c3:Cu tw=true
  .rw [iP c3] at A9
   rw [iP c3]
   have il:(DM tw).length<=tw.length:=by
    unfold DM
    have:=C8 tw
    rw [List.length_tail]
    omega
   have hL:=fun (Al:CH) (e:gc Al c=BZ doc lit S1) (n':Nat)=>U0 doc k hk1 hk (ih hk1) lit tn (DM tw) v S1 (by omega) hv hr hN.1 (fun e=>(hN.2 e).1) Al c n' e
   rw [A9] at hL
   simp (disch:=omega) only [go_sem]
   refine Ac.x (hL _ (by (repeat rw [Ai _ _ (by omega)]);exact Ax _ _ _) _) ?_
   simp only [BZ,zlh,zli]
   simp (disch:=omega) only [go_sem]
   all_goals
    refine BK (Ax _ _ _) fun j hj j1=>?_
    repeat rw [Ai _ _ (by omega)]
  rw [iN c3] at A9
  rw [iN c3]
  simp (disch:=omega) only [go_sem]
  refine Ac.f (CP tn _ _) ?_
  simp (disch:=omega) only [go_sem]
  refine Ae (fun w4=>?_) (fun w4=>?_)
  .rw [iP w4] at A9
   have hL:=fun (Al:CH) (e:gc Al c=BZ doc lit S1) (n':Nat)=>OZ (hp:=Al) e tn v hr n'
   rw [A9] at hL
   simp (disch:=omega) only [go_sem]
   refine Ac.x (hL _ (by (repeat rw [Ai _ _ (by omega)]);exact Ax _ _ _) _) ?_
   simp only [BZ,zlh,zli]
   simp (disch:=omega) only [go_sem]
   all_goals
    refine BK (Ax _ _ _) fun j hj j1=>?_
    repeat rw [Ai _ _ (by omega)]
  rw [iN (by simp [w4])] at A9
  have hFi:=BI doc (by omega) tn
  unfold Eh at hFi
  have hb:=BO (Rq hd tn)
  have hme:(∀e∈((Az doc tn).getD Dz).members,∃x y,e=[AV.s x,.ds y])∧((Az doc tn).getD Dz).members.length<=1000000000000:=by
   cases e:Az doc tn with
   |none=>exact ⟨by intro f hf;simp [Dz,Aw.members_mk] at hf,by simp [Dz,Aw.members_mk]⟩
   |some t=>
    have hB:=hd.d t (List.mem_of_find?_eq_some e)
    exact ⟨fun e he=>let ⟨x,y,q,_⟩:=hB.m e he;⟨x,y,q⟩,by have:=hB.ml;show t.members.length<=_;omega⟩
  obtain ⟨t,het⟩:=A5 ((Az doc tn).getD Dz)
  rw [het] at hFi hb hme A9
  simp (disch:=omega) only [go_sem]
  refine Aq.f (fun _ _ _=>hFi _ _) ?_
  by_cases c4:t.k=4
  .rw [iP c4] at A9
   have hL:=fun (Al:CH) (e:gc Al c=BZ doc lit S1) (n':Nat)=>U3 (hp:=Al) e t hme.1 hme.2 v n'
   rw [A9] at hL
   have u22:¬n+22=c:=by omega
   simp (disch:=omega) only [dT c4,go_sem]
   refine ⟨u22,?_⟩
   refine Ac.x (hL _ (by (repeat rw [Ai _ _ (by omega)]);exact Ax _ _ _) _) ?_
   simp only [BZ,zlh,zli]
   simp (disch:=omega) only [go_sem]
   all_goals
    refine BK (Ax _ _ _) fun j hj j1=>?_
    repeat rw [Ai _ _ (by omega)]
  .rw [iN c4] at A9
   have hL:=fun (Al:CH) (e:gc Al c=BZ doc lit S1) (n':Nat)=>Pg doc k hk1 hk (ih hk1) lit t (Bm t.inputs) hb.1 hb.2.1 hb.2.2 v S1 hv hr hSk hS4 Al c n' e
   rw [A9] at hL
   have u22:¬n+22=c:=by omega
   simp (disch:=omega) only [dF c4,go_sem]
   refine ⟨u22,?_⟩
   refine Ac.x (hL _ (by (repeat rw [Ai _ _ (by omega)]);exact Ax _ _ _) _) ?_
   simp only [BZ,zlh,zli]
   simp (disch:=omega) only [go_sem]
   all_goals
    refine BK (Ax _ _ _) fun j hj j1=>?_
    repeat rw [Ai _ _ (by omega)]
