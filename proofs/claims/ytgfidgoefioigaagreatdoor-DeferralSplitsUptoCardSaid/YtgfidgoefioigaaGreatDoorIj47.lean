/- Proof. Conditions: none. -/
import Derived.Test.YtgfidgoefioigaaGreatDoorIj46
noncomputable section
open List renaming length_filter_le->z2c,flatMap_cons->zy,flatMap_nil->z22,append_nil->zg,mem_of_getElem?->zq,not_mem_nil->zf
open Nat renaming zero_le->zt,add_assoc->zd
open Go.Proofs.Tryz
open List renaming length_cons->zlc,length_append->zld,length_nil->zle,append_assoc->zlf,cons_append->zlh,nil_append->zli,take_of_length_le->zlk,length_take->zlo,mem_cons->zlw
open Nat renaming le_refl->zna
namespace Go.Proofs.YtgfidgoefioigaaGreatDoor
open Go.Eng
set_option linter.all false
set_option maxRecDepth 20000
set_option maxHeartbeats 4000000
def Hv (on:qB) (l:List Pk):List Pk:=l.filter fun p=>decide (p.on=on)
def JR (name:qB) (O:List Pk):List Pk:=(O.filter fun p=>decide (p.label=name)).map DL
theorem XD (on name:qB) (l:List Pk):JR name (Hv on l)=AB on name l:=by
 unfold JR Hv AB
 rw [List.filter_filter]
 congr 1
 apply List.filter_congr
 intro x _
 rw [Bool.and_comm]
theorem Uz (on:qB) (l:List Pk) (p:Pk):Hv on (l++[p])=if p.on=on then Hv on l++[p] else Hv on l:=by
 unfold Hv
 rw [List.filter_append]
 by_cases c:p.on=on
 .rw [iP c];simp [c]
 .rw [iN c];simp [c]
theorem Xz (on:qB) (l:List Pk):(Hv on l).length<=l.length:=z2c _ _
theorem Vz (name:qB) (l:List Pk) (p:Pk):JR name (l++[p])=if p.label=name then JR name l++[DL p] else JR name l:=by
 unfold JR
 rw [List.filter_append,List.map_append]
 by_cases c:p.label=name
 .rw [iP c];simp [c]
 .rw [iN c];simp [c]
theorem We (name:qB) (l:List Pk):(JR name l).length<=l.length:=by
 unfold JR
 rw [List.length_map]
 exact z2c _ _
theorem Jd (on:qB):∀(l:List Pk) (p:Pk) (o:List qB),C0 on (l++[p]) o=if p.on=on then Cc p.label (C0 on l o) else C0 on l o
 | [],p,o=>by rw [zli,C0,C0,C0]
 |q::l,p,o=>by rw [zlh,C0,C0,Jd on l p]
def YK (doc:List Aw) (l:List Pk) (v:Ag) (path:List Ag) (name:qB):List DB :=
 .mk name path (A7 doc (Bp (AB (typF v) name l) v) (typF v) [] (AM (AB (typF v) name l)) []).1 (Ef (A7 doc (Bp (AB (typF v) name l) v) (typF v) [] (AM (AB (typF v) name l)) []).2 path 0) ::
  (if (A7 doc (Bp (AB (typF v) name l) v) (typF v) [] (AM (AB (typF v) name l)) []).1.k=6 then (AB (typF v) name l).flatMap (fun q=>C3 doc q v (A7 doc (Bp (AB (typF v) name l) v) (typF v) [] (AM (AB (typF v) name l)) []).1 path) else [])
theorem Pr (doc:List Aw) (l:List Pk) (v data:Ag) (path:List Ag):Cx doc l v data path=(C0 (typF v) l []).flatMap (YK doc l v path)++(Hv (typF v) l).flatMap fun q=>if q.label=⟨#[]⟩ then C3 doc q v data path else []:=by
 rw [Ke]
 congr 1
 unfold AB Hv
 induction l with
 |nil=>rfl
 |cons p l ih=>
  rw [List.filter_cons,List.filter_cons]
  by_cases c:p.on=typF v
  .by_cases c2:p.label=⟨#[]⟩
   .rw [iP (by simp [c,c2]),iP (by simp [c]),List.map_cons,zy,zy,ih,GO,iP c2]
   .rw [iN (by simp [c2]),iP (by simp [c]),zy,iN c2,zli,ih]
  .rw [iN (by simp [c]),iN (by simp [c]),ih]
theorem Kq (on y6 name:qB) (l:List Pk):C0 on (AB y6 name l) []=[]:=by
 have:∀(m:List Pk) ,(∀p∈m,p.label=⟨#[]⟩)->C0 on m []=[]:=by
  intro m
  induction m with
  |nil=>intro _;rfl
  |cons p m ih=>
   intro h
   have e:Cc p.label []=[]:=by unfold Cc;rw [iN (fun c=>c.1 (h p (by simp)))]
   rw [C0,e]
   split
   .exact ih fun q hq=>h q (by simp [hq])
   .exact ih fun q hq=>h q (by simp [hq])
 exact this _ fun p hp=>(Ee hp).2.1
theorem ZE (on name:qB) (l:List Pk):Hv on (AB on name l)=AB on name l:=by
 unfold Hv
 rw [List.filter_eq_self]
 intro p hp
 simp [(Ee hp).1]
theorem Xb (doc:List Aw) (l:List Pk) (v d:Ag) (path:List Ag) (name:qB):Cx doc (AB (typF v) name l) v d path=(AB (typF v) name l).flatMap fun q=>C3 doc q v d path:=by
 rw [Pr,Kq,ZE,z22,zli]
 have:∀m:List Pk,(∀p∈m,p.label=⟨#[]⟩)->(m.flatMap fun q=>if q.label=⟨#[]⟩ then C3 doc q v d path else [])=m.flatMap fun q=>C3 doc q v d path:=by
  intro m
  induction m with
  |nil=>intro _;rfl
  |cons p m ih=>intro h;rw [zy,zy,iP (h p (by simp)),ih fun q hq=>h q (by simp [hq])]
 exact this _ fun p hp=>(Ee hp).2.1
inductive ViS
 | mk (j g1 g2:Nat) (o:List Pk) (k:List qB) (n:Nat)
inductive VnS
 | mk (j:Nat) (l:List DB) (n:Nat)
inductive VpS
 | mk (j g:Nat) (l:List Pk) (n:Nat)
theorem Q3 (doc:List Aw) (CI:DocOk doc) (l:List Pk) (hF:∀q∈l,Agt doc q) (hP:∀on name,name∈C0 on l []->Og doc (AB on name l)):Og doc l:=by
 intro v data path hp c kp gp P n sz v6 hd FM hR Da
 have hvf:=sz.fit
 have hvw:=sz.w
 have TU:=sz.p.len
 have hT:=Fc v hvf
 rw [Pr] at Da ⊢
 have n2:=hR.n2
 have m2:¬kp=c:=fun e=>n2 e.symm
 have hc:=hR.hc
 have hk:=hR.hk
 have hPt:=fun name d path=>Xb doc l v d path name
 have hcmp:=fun name=>Oy CI (sz.par (typF v) name) v6
 have x9:=fun name=>((sz.par (typF v) name).cut).prb (doc:=doc) (typF v)
 have hlab:∀name,YK doc l v path name=.mk name path (A7 doc (Bp (AB (typF v) name l) v) (typF v) [] (AM (AB (typF v) name l)) []).1 (Ef (A7 doc (Bp (AB (typF v) name l) v) (typF v) [] (AM (AB (typF v) name l)) []).2 path 0) ::
  (if (A7 doc (Bp (AB (typF v) name l) v) (typF v) [] (AM (AB (typF v) name l)) []).1.k=6 then (AB (typF v) name l).flatMap (fun q=>C3 doc q v (A7 doc (Bp (AB (typF v) name l) v) (typF v) [] (AM (AB (typF v) name l)) []).1 path) else []):=fun name=>rfl
 obtain ⟨on,IH⟩:=A5 (typF v)
 rw [IH] at hT Da ⊢
 simp only [IH] at hPt hcmp x9 hlab
 have hszp:=fun name=>sz.par on name
 obtain ⟨RR,A9⟩:∃R,(C0 on l []).flatMap (YK doc l v path)++(Hv on l).flatMap (fun q=>if q.label=⟨#[]⟩ then C3 doc q v data path else [])=R:=⟨_,rfl⟩
 rw [A9] at Da ⊢
 have Dg:(∀k,n<=k->gc hp k=.no)->wsLt n (JS doc c kp gp P RR):=fun hf=>hR.wsLt hf
 refine BR func29 (tA cc929) (tB cc929) (tC cc929) rfl Dg fun hf=>?_;unfold ck929
 obtain ⟨l1,l3⟩:=hR.lt hf
 simp (disch:=omega) only [go_sem]
 refine Ac.f (hT _ _) ?_
 simp (disch:=omega) only [go_sem]
 refine loop (fun p:ViS=>match p with
  | .mk j g1 g2 O K n'=>⟨[(0,.bx c 0),(4,.ds (Ab Ar path)),(6,.bx n 0),(8,.bx (n+1) 0),(10,.s on),(11,.rw (n+2) g1 O.length),(12,.rw (n+3) g2 K.length),(26,.ds (Ab AJ l)),(27,.i .i64 l.length),(28,.i .i64 j)],
   (n+2,.rw g1 9 (Ab AJ O))::(n+3,.rw g2 1 (Bd K))::(n,.bx [.i .i64 v.k,.i .i64 v.n,.s v.s,.ds (Ab Ar v.items),.ds (Bd v.keys)])::(n+1,.bx [.i .i64 data.k,.i .i64 data.n,.s data.s,.ds (Ab Ar data.items),.ds (Bd data.keys)])::hp,n'⟩)
  (fun p=>match p with | .mk j g1 g2 O K n'=>j<=l.length∧n+4<=n'∧O=Hv on (l.take j)∧K=C0 on (l.take j) []) (fun p=>match p with | .mk j g1 g2 O K n'=>l.length - j) (.mk 0 0 0 [] [] (n+4)) ?_ ?_ (fun p hj=>?_)
 .exact ⟨zt _,zna _,rfl,rfl⟩
 .dsimp only
  refine (Bo (t:=11) (m:=9) (by (simp (disch:=omega) only [go_sem]))).trans ((Bo (t:=12) (m:=1) (by (simp (disch:=omega) only [go_sem]))).trans (Kd hf ?_ ?_ ?_ ?_ ?_ (fun a ha c7=>?_) (zna _)))
  .simp (disch:=omega) only [go_sem]
  .simp (disch:=omega) only [go_sem]
   try rfl
  .simp (disch:=omega) only [go_sem]
   try rfl
  .simp (disch:=omega) only [go_sem]
  .simp (disch:=omega) only [go_sem]
  .repeat rw [Ai _ _ (by omega)]
 obtain ⟨j,g1,g2,O,K,n'⟩:=p
 obtain ⟨Cg,Bc,As,Ct⟩:=hj
 have hOl:(Ab AJ O).length=O.length:=Ao _ _
 have hKl:(Bd K).length=K.length:=Ao _ _
 have hOn:O.length<=l.length:=by rw [As];have:=Xz on (l.take j);rw [zlo] at this;omega
 have hKn:K.length<=l.length:=by rw [Ct];have:=If on (l.take j) [];rw [zlo,zle] at this;omega
 dsimp only
 simp (disch:=omega) only [go_sem]
 refine Ae (fun q=>?_) (fun q=>?_)
 .have q:j<l.length:=by simpa using q
  obtain ⟨x,ex⟩:∃x,l[j]?=some x:=⟨l[j],by simp [q]⟩
  have Nu:Hv on (l.take (j+1))=if x.on=on then Hv on (l.take j)++[x] else Hv on (l.take j):=by rw [<-AN ex,Uz]
  have hS2:C0 on (l.take (j+1)) []=if x.on=on then Cc x.label (C0 on (l.take j) []) else C0 on (l.take j) []:=by rw [<-AN ex,Jd]
  rw [<-As] at Nu
  rw [<-Ct] at hS2
  simp (disch:=omega) only [q,Ad (Aa AJ ex),go_sem]
  refine Ae (fun d=>?_) (fun d=>?_)
  .have d:¬x.on=on:=by simpa using d
   rw [iN d] at Nu hS2
   simp (disch:=omega) only [go_sem]
   refine ⟨.mk (j+1) (g1) (g2) (O) (K) (n'+60),⟨show j+1<=l.length by omega,show n+4<=n'+60 by omega,Nu.symm,hS2.symm⟩,by show l.length - (j+1)<l.length - j;omega,?_⟩
   dsimp only
   refine Kd hf ?_ ?_ ?_ ?_ ?_ (fun a ha c7=>?_) (by omega)
   .simp (disch:=omega) only [Ap j (by omega),zld,zlc,zle,go_sem]
   .simp (disch:=omega) only [go_sem]
   .simp (disch:=omega) only [go_sem]
   .simp (disch:=omega) only [go_sem]
   .simp (disch:=omega) only [go_sem]
   .repeat rw [Ai _ _ (by omega)]
  have d:x.on=on:=by simpa using d
  rw [iP d] at Nu hS2
  have k1:(O.length+1)*160<=140737488355328:=by omega
  have k2:O.length+1<=9223372036854775807:=by omega
  have k3:(K.length+1)*16<=140737488355328:=by omega
  have k4:K.length+1<=9223372036854775807:=by omega
  have sn1:Ab AJ O++[[AV.s x.key,.s x.on,.s x.name,.ds (Ab BB x.args),.s x.tn,.ds (Ab D0 x.tw),.s x.label,.i .i64 x.initial,.ds (Ab AJ x.picks)]]=Ab AJ (O++[x]):=by rw [<-AX AJ O x,BH]
  have x7:Bd K++[[.s x.label]]=Bd (K++[x.label]):=AX Cz _ _
  simp (disch:=omega) only [q,Ad (Aa AJ ex),hOl,k1,k2,sn1,go_sem]
  refine AH.f (fun _=>Ge K x.label (by omega) (n+3) g2 K.length rfl _ _ (by (simp (disch:=omega) only [go_sem]))) ?_
  simp (disch:=omega) only [go_sem]
  refine Ae (fun e=>?_) (fun e=>?_)
  .have e:¬x.label=⟨#[]⟩∧¬0<=ix x.label K 0:=by simpa using e
   unfold Cc at hS2
   rw [iP e] at hS2
   simp (disch:=omega) only [hKl,k3,k4,x7,go_sem]
   refine ⟨.mk (j+1) (g1+1) (g2+1) (O++[x]) (K++[x.label]) (n'+60),⟨show j+1<=l.length by omega,show n+4<=n'+60 by omega,Nu.symm,hS2.symm⟩,by show l.length - (j+1)<l.length - j;omega,?_⟩
   dsimp only
   refine Kd hf ?_ ?_ ?_ ?_ ?_ (fun a ha c7=>?_) (by omega)
   .simp (disch:=omega) only [Ap j (by omega),zld,zlc,zle,go_sem]
   .simp (disch:=omega) only [go_sem]
   .simp (disch:=omega) only [go_sem]
   .simp (disch:=omega) only [go_sem]
   .simp (disch:=omega) only [go_sem]
   .repeat rw [Ai _ _ (by omega)]
  .have e:¬(¬x.label=⟨#[]⟩∧¬0<=ix x.label K 0):=by simpa using e
   unfold Cc at hS2
   rw [iN e] at hS2
   simp (disch:=omega) only [go_sem]
   refine ⟨.mk (j+1) (g1+1) (g2) (O++[x]) (K) (n'+60),⟨show j+1<=l.length by omega,show n+4<=n'+60 by omega,Nu.symm,hS2.symm⟩,by show l.length - (j+1)<l.length - j;omega,?_⟩
   dsimp only
   refine Kd hf ?_ ?_ ?_ ?_ ?_ (fun a ha c7=>?_) (by omega)
   .simp (disch:=omega) only [Ap j (by omega),zld,zlc,zle,go_sem]
   .simp (disch:=omega) only [go_sem]
   .simp (disch:=omega) only [go_sem]
   .simp (disch:=omega) only [go_sem]
   .simp (disch:=omega) only [go_sem]
   .repeat rw [Ai _ _ (by omega)]
 have q:j=l.length:=by simp at q;omega
 subst q
 rw [List.take_length] at As Ct
 rw [<-As,<-Ct] at A9
 simp (disch:=omega) only [go_sem]
 refine LF ((NQ (t:=11) (k:=n+2) (g:=g1) (len:=O.length) (m:=9) (l:=Ab AJ O) (by (simp (disch:=omega) only [go_sem])) (by (simp (disch:=omega) only [go_sem])) (by omega)).trans (NQ (t:=12) (k:=n+3) (g:=g2) (len:=K.length) (m:=1) (l:=Bd K) (by (simp (disch:=omega) only [go_sem])) (by (simp (disch:=omega) only [go_sem])) (by omega))) ?_
 have tk1:(Ab AJ O).take O.length=Ab AJ O:=zlk (by omega)
 have tk2:(Bd K).take K.length=Bd K:=zlk (by omega)
 rw [tk1,tk2]
 simp (disch:=omega) only [hKl,go_sem]
 obtain ⟨F3,hF3⟩:∃F,O.flatMap (fun q=>if q.label=⟨#[]⟩ then C3 doc q v data path else [])=F:=⟨_,rfl⟩
 rw [hF3] at A9
 have hOm:∀x∈O,x∈l∧x.on=on:=fun x hx=>by
  rw [As] at hx
  obtain ⟨a1,a2⟩:=List.mem_filter.1 hx
  exact ⟨a1,by simpa using a2⟩
 refine loop (fun p:VnS=>match p with
  | .mk i L n'=>⟨[(0,.bx c 0),(4,.ds (Ab Ar path)),(6,.bx n 0),(8,.bx (n+1) 0),(11,.ds (Ab AJ O)),(56,.ds (Bd K)),(57,.i .i64 K.length),(58,.i .i64 i)],(kp,.rw (gp+L.length) 8 (Ab Bi (P++L)))::(c,.bx [.ds (Ab B8 doc),.rw kp (gp+L.length) (P.length+L.length)]) ::
   (n,.bx [.i .i64 v.k,.i .i64 v.n,.s v.s,.ds (Ab Ar v.items),.ds (Bd v.keys)])::(n+1,.bx [.i .i64 data.k,.i .i64 data.n,.s data.s,.ds (Ab Ar data.items),.ds (Bd data.keys)])::hp,n'⟩)
  (fun p=>match p with | .mk i L n'=>i<=K.length∧n+4<=n'∧RR=L++((K.drop i).flatMap (YK doc l v path)++F3)) (fun p=>match p with | .mk i L n'=>K.length - i) (.mk 0 [] n') ?_ ?_ (fun p hi=>?_)
 .exact ⟨zt _,Bc,A9.symm⟩
 .dsimp only
  refine Kd hf ?_ ?_ ?_ ?_ ?_ (fun a ha c7=>?_) (zna _)
  .simp (disch:=omega) only [go_sem]
  .simp (disch:=omega) only [hk,zg,zle,Nat.add_zero,go_sem]
  .simp (disch:=omega) only [hc,n2,m2,zg,zle,Nat.add_zero,go_sem]
  .simp (disch:=omega) only [go_sem]
  .simp (disch:=omega) only [go_sem]
  .repeat rw [Ai _ _ (by omega)]
 clear Bc
 obtain ⟨i,L,n'⟩:=p
 obtain ⟨LX,HG,Dw⟩:=hi
 have hLR:L.length<=RR.length:=by rw [Dw,zld];omega
 dsimp only
 simp (disch:=omega) only [n2,m2,go_sem]
 refine Ae (fun e=>?_) (fun e=>?_)
 .have e:i<K.length:=by simpa using e
  obtain ⟨nm,en⟩:∃x,K[i]?=some x:=⟨K[i],by simp [e]⟩
  have FN:=zq en
  rw [A2 en,zy] at Dw
  simp (disch:=omega) only [e,n2,m2,Ad (Aa Cz en),go_sem]
  refine loop (fun p:VpS=>match p with
   | .mk j g A l7=>⟨[(0,.bx c 0),(4,.ds (Ab Ar path)),(6,.bx n 0),(8,.bx (n+1) 0),(11,.ds (Ab AJ O)),(16,.s nm),(17,.rw n' g A.length),(56,.ds (Bd K)),(57,.i .i64 K.length),(58,.i .i64 i),(62,.ds (Ab AJ O)),(63,.i .i64 O.length),(64,.i .i64 j)],
    (n',.rw g 9 (Ab AJ A))::(kp,.rw (gp+L.length) 8 (Ab Bi (P++L)))::(c,.bx [.ds (Ab B8 doc),.rw kp (gp+L.length) (P.length+L.length)]) ::
    (n,.bx [.i .i64 v.k,.i .i64 v.n,.s v.s,.ds (Ab Ar v.items),.ds (Bd v.keys)])::(n+1,.bx [.i .i64 data.k,.i .i64 data.n,.s data.s,.ds (Ab Ar data.items),.ds (Bd data.keys)])::hp,l7⟩)
   (fun p=>match p with | .mk j g A l7=>j<=O.length∧n'+1<=l7∧A=JR nm (O.take j)) (fun p=>match p with | .mk j g A l7=>O.length - j) (.mk 0 0 [] (n'+1)) ?_ ?_ (fun p hj=>?_)
  .exact ⟨zt _,zna _,rfl⟩
  .dsimp only
   refine (Bo (t:=17) (m:=9) (by (simp (disch:=omega) only [go_sem]))).trans (X0 hf ?_ ?_ ?_ ?_ ?_ ?_ (fun a ha c7=>?_) (zna _))
   .simp (disch:=omega) only [hOl,go_sem]
   .simp (disch:=omega) only [go_sem]
    try rfl
   .simp (disch:=omega) only [go_sem]
   .simp (disch:=omega) only [n2,m2,go_sem]
   .simp (disch:=omega) only [go_sem]
   .simp (disch:=omega) only [go_sem]
   .simp only [zlw,zf,or_false,not_or] at c7
    repeat rw [Ai _ _ (by omega)]
  obtain ⟨j,g,A,l7⟩:=p
  obtain ⟨Cg,Bc,Dh⟩:=hj
  have Kx:(Ab AJ A).length=A.length:=Ao _ _
  have hAn:A.length<=O.length:=by rw [Dh];have:=We nm (O.take j);rw [zlo] at this;omega
  dsimp only
  simp (disch:=omega) only [go_sem]
  refine Ae (fun d=>?_) (fun d=>?_)
  .have d:j<O.length:=by simpa using d
   obtain ⟨x,ex⟩:∃x,O[j]?=some x:=⟨O[j],by simp [d]⟩
   have Nu:JR nm (O.take (j+1))=if x.label=nm then JR nm (O.take j)++[DL x] else JR nm (O.take j):=by rw [<-AN ex,Vz]
   rw [<-Dh] at Nu
   have k1:(A.length+1)*160<=140737488355328:=by omega
   have k2:A.length+1<=9223372036854775807:=by omega
   have sn1:Ab AJ A++[[AV.s x.key,.s x.on,.s x.name,.ds (Ab BB x.args),.s x.tn,.ds (Ab D0 x.tw),.s ⟨#[]⟩,.i .i64 x.initial,.ds (Ab AJ x.picks)]]=Ab AJ (A++[DL x]):=by rw [<-AX AJ A,BH];rfl
   simp (disch:=omega) only [d,Ad (Aa AJ ex),go_sem]
   refine Ae (fun o=>?_) (fun o=>?_)
   .have o:x.label=nm:=by simpa using o
    rw [iP o] at Nu
    simp (disch:=omega) only [d,Ad (Aa AJ ex),Kx,k1,k2,sn1,go_sem]
    refine ⟨.mk (j+1) (g+1) (A++[DL x]) (l7+60),⟨show j+1<=O.length by omega,show n'+1<=l7+60 by omega,Nu.symm⟩,by show O.length - (j+1)<O.length - j;omega,?_⟩
    dsimp only
    refine X0 hf ?_ ?_ ?_ ?_ ?_ ?_ (fun a ha c7=>?_) (by omega)
    .simp (disch:=omega) only [Ap j (by omega),zld,zlc,zle,go_sem]
    .simp (disch:=omega) only [go_sem]
    .simp (disch:=omega) only [go_sem]
    .simp (disch:=omega) only [n2,m2,go_sem]
    .simp (disch:=omega) only [go_sem]
    .simp (disch:=omega) only [go_sem]
    .simp only [zlw,zf,or_false,not_or] at c7
     repeat rw [Ai _ _ (by omega)]
   .have o:¬x.label=nm:=by simpa using o
    rw [iN o] at Nu
    simp (disch:=omega) only [go_sem]
    refine ⟨.mk (j+1) (g) (A) (l7+60),⟨show j+1<=O.length by omega,show n'+1<=l7+60 by omega,Nu.symm⟩,by show O.length - (j+1)<O.length - j;omega,?_⟩
    dsimp only
    refine X0 hf ?_ ?_ ?_ ?_ ?_ ?_ (fun a ha c7=>?_) (by omega)
    .simp (disch:=omega) only [Ap j (by omega),zld,zlc,zle,go_sem]
    .simp (disch:=omega) only [go_sem]
    .simp (disch:=omega) only [go_sem]
    .simp (disch:=omega) only [n2,m2,go_sem]
    .simp (disch:=omega) only [go_sem]
    .simp (disch:=omega) only [go_sem]
    .simp only [zlw,zf,or_false,not_or] at c7
     repeat rw [Ai _ _ (by omega)]
  have d:j=O.length:=by simp at d;omega
  subst d
  rw [List.take_length,As,XD] at Dh
  simp (disch:=omega) only [go_sem]
  refine LF (NQ (t:=17) (k:=n') (g:=g) (len:=A.length) (m:=9) (l:=Ab AJ A) (by (simp (disch:=omega) only [go_sem])) (by (simp (disch:=omega) only [go_sem])) (by omega)) ?_
  have tk3:(Ab AJ A).take A.length=Ab AJ A:=zlk (by omega)
  rw [tk3]
  have hcm:=hcmp nm
  obtain ⟨o1,o2,o3⟩:=x9 nm
  have hlb:=hlab nm
  have VW:=hPt nm
  have hVp:=hP on nm (by rw [<-Ct];exact FN)
  have hsz2:=hszp nm
  rw [<-Dh] at hcm o1 o2 o3 hlb VW hVp hsz2
  obtain ⟨Q,hQ⟩:=A5 (A7 doc (Bp A v) on [] (AM A) [])
  rw [hQ] at hcm o1 o2 o3 hlb
  have hMv:=Pw Q.2 (by omega) (fun q hq=>by have:=o3 q hq;omega) path (by omega) 0 (by decide)
  have hJn:=I6 path [] (by simp;omega)
  rw [zg] at hJn
  obtain ⟨MV,hMV⟩:=A5 (Ef Q.2 path 0)
  rw [hMV] at hMv hlb
  simp (disch:=omega) only [n2,m2,go_sem]
  have v1:¬l7+10=n:=by omega
  have v2:¬l7+10=c:=by omega
  have v3:¬l7+10=kp:=by omega
  have v4:¬l7+10=n+1:=by omega
  refine Aq.f (fun _ _ _=>hcm _ _) ?_
  simp (disch:=omega) only [n2,m2,v1,v2,v3,v4,true_and,go_sem]
  refine Aq.f (fun _ _ _=>Af.cv (args':=[.ds (Ab Ar path),.ds []]) rfl (hJn _ _)) ?_
  simp (disch:=omega) only [n2,m2,v1,v2,v3,v4,true_and,go_sem]
  refine Aq.f (fun _ _ _=>hMv _ _) ?_
  have hPl:(Ab Bi (P++L)).length=P.length+L.length:=by rw [Ao,zld]
  have k1:(P.length+(L.length+1))*144<=140737488355328:=by omega
  have k2:P.length+(L.length+1)<=9223372036854775807:=by omega
  have snp:Ab Bi (P++L)++[[AV.s nm,.ds (Ab Ar path),.i .i64 Q.1.k,.i .i64 Q.1.n,.s Q.1.s,.ds (Ab Ar Q.1.items),.ds (Bd Q.1.keys),.ds (Ab BD MV)]]=Ab Bi (P++(L++[.mk nm path Q.1 MV])):=by rw [<-zlf];exact AX Bi (P++L) (.mk nm path Q.1 MV)
  simp (disch:=omega) only [n2,m2,v1,v2,v3,v4,hPl,k1,k2,snp,true_and,go_sem]
  obtain ⟨L2,VD⟩:=A5 (L++[DB.mk nm path Q.1 MV])
  have hL2l:L2.length=L.length+1:=by rw [<-VD];simp
  rw [VD,<-hL2l]
  obtain ⟨W,hW⟩:∃W,(if Q.1.k=6 then A.flatMap (fun q=>C3 doc q v Q.1 path) else [])=W:=⟨_,rfl⟩
  rw [hW] at hlb
  have Gq:RR=L2++W++((K.drop (i+1)).flatMap (YK doc l v path)++F3):=by rw [Dw,hlb,<-VD];simp
  have hLW:L2.length+W.length<=RR.length:=by rw [Gq,zld,zld];omega
  refine Ae (fun q=>?_) (fun q=>?_)
  .have q:Q.1.k=6:=by simpa using q
   rw [iP q,<-VW] at hW
   have hX:=fun Al n' (e1:RunS doc Al c kp (gp+L2.length) (P++L2))=>hVp v Q.1 path Al c kp (gp+L2.length) (P++L2) n' hsz2 v6 o2 FM e1 (by rw [hW,zld];omega)
   rw [hW] at hX
   simp (disch:=omega) only [n2,m2,go_sem]
   refine Ac.x (hX _ _ ⟨?_,?_⟩) ?_
   .simp (disch:=omega) only [n2,m2,v1,v2,v3,v4,zld,go_sem]
   .simp (disch:=omega) only [n2,m2,v1,v2,v3,v4,go_sem]
   simp only [JS,zlh,zli]
   simp (disch:=omega) only [n2,m2,go_sem]
   refine ⟨.mk (i+1) (L2++W) (l7+60),⟨show i+1<=K.length by omega,show n+4<=l7+60 by omega,Gq⟩,by show K.length - (i+1)<K.length - i;omega,?_⟩
   dsimp only
   refine Kd hf ?_ ?_ ?_ ?_ ?_ (fun a ha c7=>?_) (by omega)
   .simp (disch:=omega) only [Ap i (by omega),go_sem]
   .simp (disch:=omega) only [n2,m2,v1,v2,v3,v4,zld,zlf,zd,go_sem]
   .simp (disch:=omega) only [n2,m2,v1,v2,v3,v4,zld,zlf,zd,go_sem]
   .simp (disch:=omega) only [go_sem]
   .simp (disch:=omega) only [go_sem]
   .simp only [zlw,zf,or_false,not_or] at c7
    repeat rw [Ai _ _ (by omega)]
  .have q:¬Q.1.k=6:=by simpa using q
   rw [iN q] at hW
   subst hW
   rw [zg] at Gq
   simp (disch:=omega) only [n2,m2,go_sem]
   refine ⟨.mk (i+1) (L2) (l7+60),⟨show i+1<=K.length by omega,show n+4<=l7+60 by omega,Gq⟩,by show K.length - (i+1)<K.length - i;omega,?_⟩
   dsimp only
   refine Kd hf ?_ ?_ ?_ ?_ ?_ (fun a ha c7=>?_) (by omega)
   .simp (disch:=omega) only [Ap i (by omega),go_sem]
   .simp (disch:=omega) only [n2,m2,v1,v2,v3,v4,zld,zlf,zd,go_sem]
   .simp (disch:=omega) only [n2,m2,v1,v2,v3,v4,zld,zlf,zd,go_sem]
   .simp (disch:=omega) only [go_sem]
   .simp (disch:=omega) only [go_sem]
   .simp only [zlw,zf,or_false,not_or] at c7
    repeat rw [Ai _ _ (by omega)]
 have e:i=K.length:=by simp at e;omega
 subst e
 rw [List.drop_length,z22,zli] at Dw
 simp (disch:=omega) only [n2,m2,go_sem]
 refine loop (fun p:VnS=>match p with
  | .mk j M l7=>⟨[(0,.bx c 0),(4,.ds (Ab Ar path)),(6,.bx n 0),(8,.bx (n+1) 0),(115,.ds (Ab AJ O)),(116,.i .i64 O.length),(117,.i .i64 j)],(kp,.rw (gp+M.length) 8 (Ab Bi (P++M)))::(c,.bx [.ds (Ab B8 doc),.rw kp (gp+M.length) (P.length+M.length)]) ::
   (n,.bx [.i .i64 v.k,.i .i64 v.n,.s v.s,.ds (Ab Ar v.items),.ds (Bd v.keys)])::(n+1,.bx [.i .i64 data.k,.i .i64 data.n,.s data.s,.ds (Ab Ar data.items),.ds (Bd data.keys)])::hp,l7⟩)
  (fun p=>match p with | .mk j M l7=>j<=O.length∧n+4<=l7∧RR=M++(O.drop j).flatMap (fun q=>if q.label=⟨#[]⟩ then C3 doc q v data path else [])) (fun p=>match p with | .mk j M l7=>O.length - j) (.mk 0 L n') ?_ ?_ (fun p hj=>?_)
 .exact ⟨zt _,HG,by rw [List.drop_zero,hF3];exact Dw⟩
 .dsimp only
  refine Kd hf ?_ ?_ ?_ ?_ ?_ (fun a ha c7=>?_) (zna _)
  .simp (disch:=omega) only [hOl,go_sem]
  .simp (disch:=omega) only [n2,m2,go_sem]
  .simp (disch:=omega) only [n2,m2,go_sem]
  .simp (disch:=omega) only [go_sem]
  .simp (disch:=omega) only [go_sem]
  .simp only [zlw,zf,or_false,not_or] at c7
   repeat rw [Ai _ _ (by omega)]
 clear Dw hLR hF3
 obtain ⟨j,M,l7⟩:=p
 obtain ⟨Cg,Bc,Dh⟩:=hj
 have hMR:M.length<=RR.length:=by rw [Dh,zld];omega
 dsimp only
 simp (disch:=omega) only [n2,m2,go_sem]
 refine Ae (fun d=>?_) (fun d=>?_)
 .have d:j<O.length:=by simpa using d
  obtain ⟨x,ex⟩:∃x,O[j]?=some x:=⟨O[j],by simp [d]⟩
  have Jy:=hOm x (zq ex)
  rw [A2 ex,zy] at Dh
  have szx:Sz x.picks v:=sz.le (sz.p.x Jy.1) sz.r (zna _) (by have:=CA Jy.1;have:=Cs x;omega)
  obtain ⟨W,hW⟩:=A5 ((if x.label=⟨#[]⟩ then C3 doc x v data path else []))
  rw [hW] at Dh
  have Kv:RR=M++W++(O.drop (j+1)).flatMap (fun q=>if q.label=⟨#[]⟩ then C3 doc q v data path else []):=by rw [Dh,zlf]
  have hMW:M.length+W.length<=RR.length:=by rw [Kv,zld,zld];omega
  simp (disch:=omega) only [d,n2,m2,Ad (Aa AJ ex),go_sem]
  refine Ae (fun q=>?_) (fun q=>?_)
  .have q:x.label=⟨#[]⟩:=by simpa using q
   rw [iP q] at hW
   have hX:=fun Al n' (e1:RunS doc Al c kp (gp+M.length) (P++M))=>hF x Jy.1 v data path Al c kp (gp+M.length) (P++M) n' szx v6 hd FM e1 (by rw [hW,zld];omega)
   rw [hW] at hX
   simp (disch:=omega) only [n2,m2,go_sem]
   refine Ac.x (hX _ _ ⟨?_,?_⟩) ?_
   .simp (disch:=omega) only [n2,m2,zld,go_sem]
   .simp (disch:=omega) only [n2,m2,go_sem]
   simp only [JS,zlh,zli]
   simp (disch:=omega) only [n2,m2,go_sem]
   refine ⟨.mk (j+1) (M++W) (l7+60),⟨show j+1<=O.length by omega,show n+4<=l7+60 by omega,Kv⟩,by show O.length - (j+1)<O.length - j;omega,?_⟩
   dsimp only
   refine Kd hf ?_ ?_ ?_ ?_ ?_ (fun a ha c7=>?_) (by omega)
   .simp (disch:=omega) only [Ap j (by omega),zld,zlf,zd,go_sem]
   .simp (disch:=omega) only [n2,m2,zld,zlf,zd,go_sem]
   .simp (disch:=omega) only [n2,m2,zld,zlf,zd,go_sem]
   .simp (disch:=omega) only [go_sem]
   .simp (disch:=omega) only [go_sem]
   .simp only [zlw,zf,or_false,not_or] at c7
    repeat rw [Ai _ _ (by omega)]
  .have q:¬x.label=⟨#[]⟩:=by simpa using q
   rw [iN q] at hW
   subst hW
   rw [zg] at Kv
   simp (disch:=omega) only [n2,m2,go_sem]
   refine ⟨.mk (j+1) (M) (l7+60),⟨show j+1<=O.length by omega,show n+4<=l7+60 by omega,Kv⟩,by show O.length - (j+1)<O.length - j;omega,?_⟩
   dsimp only
   refine Kd hf ?_ ?_ ?_ ?_ ?_ (fun a ha c7=>?_) (by omega)
   .simp (disch:=omega) only [Ap j (by omega),zld,zlf,zd,go_sem]
   .simp (disch:=omega) only [n2,m2,zld,zlf,zd,go_sem]
   .simp (disch:=omega) only [n2,m2,zld,zlf,zd,go_sem]
   .simp (disch:=omega) only [go_sem]
   .simp (disch:=omega) only [go_sem]
   .simp only [zlw,zf,or_false,not_or] at c7
    repeat rw [Ai _ _ (by omega)]
 have d:j=O.length:=by simp at d;omega
 subst d
 rw [List.drop_length,z22,zg] at Dh
 subst Dh
 simp (disch:=omega) only [n2,m2,go_sem]
 refine Jh ?_ ?_ fun j' Nv j1 j3=>?_
 .simp (disch:=omega) only [n2,m2,go_sem]
 .simp (disch:=omega) only [n2,m2,go_sem]
 .simp only [A8]
  repeat rw [iN (by omega)]
