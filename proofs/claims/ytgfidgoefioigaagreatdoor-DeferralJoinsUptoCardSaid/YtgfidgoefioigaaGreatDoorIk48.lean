/- Proof. Conditions: none. -/
import Derived.Test.YtgfidgoefioigaaGreatDoorIk47
noncomputable section
open List renaming length_filter_le->z2p,flatMap_cons->z12,flatMap_nil->z2o,append_nil->zj,mem_of_getElem?->zg,not_mem_nil->zm
open Nat renaming zero_le->zw,add_assoc->ze
open Go.Proofs.Tryz
open List renaming length_cons->zlc,length_append->zld,length_nil->zle,append_assoc->zlf,cons_append->zlh,nil_append->zli,take_of_length_le->zlk,length_take->zlo,mem_cons->zlw
open Nat renaming le_refl->zna
namespace Go.Proofs.YtgfidgoefioigaaGreatDoor
open Go.Eng
set_option linter.all false
set_option maxRecDepth 20000
set_option maxHeartbeats 4000000
def GY (on:qB) (l:List Pk):List Pk:=l.filter fun p=>decide (p.on=on)
def Ju (name:qB) (O:List Pk):List Pk:=(O.filter fun p=>decide (p.label=name)).map Es
theorem Xl (on name:qB) (l:List Pk):Ju name (GY on l)=AN on name l:=by
 unfold Ju GY AN
 rw [List.filter_filter]
 congr 1
 apply List.filter_congr
 intro x _
 rw [Bool.and_comm]
theorem TX (on:qB) (l:List Pk) (p:Pk):GY on (l++[p])=if p.on=on then GY on l++[p] else GY on l:=by
 unfold GY
 rw [List.filter_append]
 by_cases c:p.on=on
 .rw [iP c];simp [c]
 .rw [iN c];simp [c]
theorem WY (on:qB) (l:List Pk):(GY on l).length<=l.length:=z2p _ _
theorem UW (name:qB) (l:List Pk) (p:Pk):Ju name (l++[p])=if p.label=name then Ju name l++[Es p] else Ju name l:=by
 unfold Ju
 rw [List.filter_append,List.map_append]
 by_cases c:p.label=name
 .rw [iP c];simp [c]
 .rw [iN c];simp [c]
theorem Vz (name:qB) (l:List Pk):(Ju name l).length<=l.length:=by
 unfold Ju
 rw [List.length_map]
 exact z2p _ _
theorem Me (on:qB):∀(l:List Pk) (p:Pk) (o:List qB),CJ on (l++[p]) o=if p.on=on then Cm p.label (CJ on l o) else CJ on l o
 | [],p,o=>by rw [zli,CJ,CJ,CJ]
 |q::l,p,o=>by rw [zlh,CJ,CJ,Me on l p]
def Ys (doc:List Av) (l:List Pk) (v:Ag) (path:List Ag) (name:qB):List DM :=
 .mk name path (A6 doc (AY (AN (typF v) name l) v) (typF v) [] (AP (AN (typF v) name l)) []).1 (Gb (A6 doc (AY (AN (typF v) name l) v) (typF v) [] (AP (AN (typF v) name l)) []).2 path 0) ::
  (if (A6 doc (AY (AN (typF v) name l) v) (typF v) [] (AP (AN (typF v) name l)) []).1.k=6 then (AN (typF v) name l).flatMap (fun q=>C4 doc q v (A6 doc (AY (AN (typF v) name l) v) (typF v) [] (AP (AN (typF v) name l)) []).1 path) else [])
theorem OK (doc:List Av) (l:List Pk) (v data:Ag) (path:List Ag):C0 doc l v data path=(CJ (typF v) l []).flatMap (Ys doc l v path)++(GY (typF v) l).flatMap fun q=>if q.label=⟨#[]⟩ then C4 doc q v data path else []:=by
 rw [ML]
 congr 1
 unfold AN GY
 induction l with
 |nil=>rfl
 |cons p l ih=>
  rw [List.filter_cons,List.filter_cons]
  by_cases c:p.on=typF v
  .by_cases c2:p.label=⟨#[]⟩
   .rw [iP (by simp [c,c2]),iP (by simp [c]),List.map_cons,z12,z12,ih,G1,iP c2]
   .rw [iN (by simp [c2]),iP (by simp [c]),z12,iN c2,zli,ih]
  .rw [iN (by simp [c]),iN (by simp [c]),ih]
theorem Tb (on on' name:qB) (l:List Pk):CJ on (AN on' name l) []=[]:=by
 have:∀(m:List Pk) ,(∀p∈m,p.label=⟨#[]⟩)->CJ on m []=[]:=by
  intro m
  induction m with
  |nil=>intro _;rfl
  |cons p m ih=>
   intro h
   have e:Cm p.label []=[]:=by unfold Cm;rw [iN (fun c=>c.1 (h p (by simp)))]
   rw [CJ,e]
   split
   .exact ih fun q hq=>h q (by simp [hq])
   .exact ih fun q hq=>h q (by simp [hq])
 exact this _ fun p hp=>(EW hp).2.1
theorem Zs (on name:qB) (l:List Pk):GY on (AN on name l)=AN on name l:=by
 unfold GY
 rw [List.filter_eq_self]
 intro p hp
 simp [(EW hp).1]
theorem WA (doc:List Av) (l:List Pk) (v d:Ag) (path:List Ag) (name:qB):C0 doc (AN (typF v) name l) v d path=(AN (typF v) name l).flatMap fun q=>C4 doc q v d path:=by
 rw [OK,Tb,Zs,z2o,zli]
 have:∀m:List Pk,(∀p∈m,p.label=⟨#[]⟩)->(m.flatMap fun q=>if q.label=⟨#[]⟩ then C4 doc q v d path else [])=m.flatMap fun q=>C4 doc q v d path:=by
  intro m
  induction m with
  |nil=>intro _;rfl
  |cons p m ih=>intro h;rw [z12,z12,iP (h p (by simp)),ih fun q hq=>h q (by simp [hq])]
 exact this _ fun p hp=>(EW hp).2.1
inductive ViS
 | mk (j g1 g2:Nat) (o:List Pk) (k:List qB) (n:Nat)
inductive VnS
 | mk (j:Nat) (l:List DM) (n:Nat)
inductive VpS
 | mk (j g:Nat) (l:List Pk) (n:Nat)
theorem Qg (doc:List Av) (EA:DocOk doc) (l:List Pk) (hF:∀q∈l,Agg doc q) (hP:∀on name,name∈CJ on l []->Nz doc (AN on name l)):Nz doc l:=by
 intro v data path hp c kp gp P n sz v6 hd JH hR Fw
 have hvf:=sz.fit
 have hvw:=sz.w
 have hlf:=sz.p.len
 have hT:=EK v hvf
 rw [OK] at Fw ⊢
 have n2:=hR.n2
 have m2:¬kp=c:=fun e=>n2 e.symm
 have hc:=hR.hc
 have hk:=hR.hk
 have hPt:=fun name d path=>WA doc l v d path name
 have hcmp:=fun name=>NC EA (sz.par (typF v) name) v6
 have hprb:=fun name=>((sz.par (typF v) name).cut).prb (doc:=doc) (typF v)
 have hlab:∀name,Ys doc l v path name=.mk name path (A6 doc (AY (AN (typF v) name l) v) (typF v) [] (AP (AN (typF v) name l)) []).1 (Gb (A6 doc (AY (AN (typF v) name l) v) (typF v) [] (AP (AN (typF v) name l)) []).2 path 0) ::
  (if (A6 doc (AY (AN (typF v) name l) v) (typF v) [] (AP (AN (typF v) name l)) []).1.k=6 then (AN (typF v) name l).flatMap (fun q=>C4 doc q v (A6 doc (AY (AN (typF v) name l) v) (typF v) [] (AP (AN (typF v) name l)) []).1 path) else []):=fun name=>rfl
 obtain ⟨on,NK⟩:=A7 (typF v)
 rw [NK] at hT Fw ⊢
 simp only [NK] at hPt hcmp hprb hlab
 have hszp:=fun name=>sz.par on name
 obtain ⟨RR,AC⟩:∃R,(CJ on l []).flatMap (Ys doc l v path)++(GY on l).flatMap (fun q=>if q.label=⟨#[]⟩ then C4 doc q v data path else [])=R:=⟨_,rfl⟩
 rw [AC] at Fw ⊢
 have DV:(∀k,n<=k->gc hp k=.no)->wsLt n (Jv doc c kp gp P RR):=fun hf=>hR.wsLt hf
 refine Cp func29 (tA cc929) (tB cc929) (tC cc929) rfl DV fun hf=>?_;unfold ck929
 obtain ⟨l1,l3⟩:=hR.lt hf
 simp (disch:=omega) only [go_sem]
 refine Ac.f (hT _ _) ?_
 simp (disch:=omega) only [go_sem]
 refine loop (fun p:ViS=>match p with
  | .mk j g1 g2 O K n'=>⟨[(0,.bx c 0),(4,.ds (Ab Aw path)),(6,.bx n 0),(8,.bx (n+1) 0),(10,.s on),(11,.rw (n+2) g1 O.length),(12,.rw (n+3) g2 K.length),(26,.ds (Ab Bi l)),(27,.i .i64 l.length),(28,.i .i64 j)],
   (n+2,.rw g1 9 (Ab Bi O))::(n+3,.rw g2 1 (Bq K))::(n,.bx [.i .i64 v.k,.i .i64 v.n,.s v.s,.ds (Ab Aw v.items),.ds (Bq v.keys)])::(n+1,.bx [.i .i64 data.k,.i .i64 data.n,.s data.s,.ds (Ab Aw data.items),.ds (Bq data.keys)])::hp,n'⟩)
  (fun p=>match p with | .mk j g1 g2 O K n'=>j<=l.length∧n+4<=n'∧O=GY on (l.take j)∧K=CJ on (l.take j) []) (fun p=>match p with | .mk j g1 g2 O K n'=>l.length - j) (.mk 0 0 0 [] [] (n+4)) ?_ ?_ (fun p hj=>?_)
 .exact ⟨zw _,zna _,rfl,rfl⟩
 .dsimp only
  refine (By (t:=11) (m:=9) (by (simp (disch:=omega) only [go_sem]))).trans ((By (t:=12) (m:=1) (by (simp (disch:=omega) only [go_sem]))).trans (Q3 hf ?_ ?_ ?_ ?_ ?_ (fun a ha d5=>?_) (zna _)))
  .simp (disch:=omega) only [go_sem]
  .simp (disch:=omega) only [go_sem]
   try rfl
  .simp (disch:=omega) only [go_sem]
   try rfl
  .simp (disch:=omega) only [go_sem]
  .simp (disch:=omega) only [go_sem]
  .repeat rw [Ak _ _ (by omega)]
 obtain ⟨j,g1,g2,O,K,n'⟩:=p
 obtain ⟨Cq,Be,At,Cl⟩:=hj
 have hOl:(Ab Bi O).length=O.length:=As _ _
 have hKl:(Bq K).length=K.length:=As _ _
 have hOn:O.length<=l.length:=by rw [At];have:=WY on (l.take j);rw [zlo] at this;omega
 have hKn:K.length<=l.length:=by rw [Cl];have:=Ok on (l.take j) [];rw [zlo,zle] at this;omega
 dsimp only
 simp (disch:=omega) only [go_sem]
 refine Af (fun q=>?_) (fun q=>?_)
 .have q:j<l.length:=by simpa using q
  obtain ⟨x,ex⟩:∃x,l[j]?=some x:=⟨l[j],by simp [q]⟩
  have MC:GY on (l.take (j+1))=if x.on=on then GY on (l.take j)++[x] else GY on (l.take j):=by rw [<-Bc ex,TX]
  have hS2:CJ on (l.take (j+1)) []=if x.on=on then Cm x.label (CJ on (l.take j) []) else CJ on (l.take j) []:=by rw [<-Bc ex,Me]
  rw [<-At] at MC
  rw [<-Cl] at hS2
  simp (disch:=omega) only [q,Ad (Aa Bi ex),go_sem]
  refine Af (fun d=>?_) (fun d=>?_)
  .have d:¬x.on=on:=by simpa using d
   rw [iN d] at MC hS2
   simp (disch:=omega) only [go_sem]
   refine ⟨.mk (j+1) (g1) (g2) (O) (K) (n'+60),⟨show j+1<=l.length by omega,show n+4<=n'+60 by omega,MC.symm,hS2.symm⟩,by show l.length - (j+1)<l.length - j;omega,?_⟩
   dsimp only
   refine Q3 hf ?_ ?_ ?_ ?_ ?_ (fun a ha d5=>?_) (by omega)
   .simp (disch:=omega) only [Ao j (by omega),zld,zlc,zle,go_sem]
   .simp (disch:=omega) only [go_sem]
   .simp (disch:=omega) only [go_sem]
   .simp (disch:=omega) only [go_sem]
   .simp (disch:=omega) only [go_sem]
   .repeat rw [Ak _ _ (by omega)]
  have d:x.on=on:=by simpa using d
  rw [iP d] at MC hS2
  have k1:(O.length+1)*160<=140737488355328:=by omega
  have k2:O.length+1<=9223372036854775807:=by omega
  have k3:(K.length+1)*16<=140737488355328:=by omega
  have k4:K.length+1<=9223372036854775807:=by omega
  have sn1:Ab Bi O++[[AV.s x.key,.s x.on,.s x.name,.ds (Ab B7 x.args),.s x.tn,.ds (Ab D2 x.tw),.s x.label,.i .i64 x.initial,.ds (Ab Bi x.picks)]]=Ab Bi (O++[x]):=by rw [<-Bd Bi O x,Ch]
  have w7:Bq K++[[.s x.label]]=Bq (K++[x.label]):=Bd C3 _ _
  simp (disch:=omega) only [q,Ad (Aa Bi ex),hOl,k1,k2,sn1,go_sem]
  refine AH.f (fun _=>FM K x.label (by omega) (n+3) g2 K.length rfl _ _ (by (simp (disch:=omega) only [go_sem]))) ?_
  simp (disch:=omega) only [go_sem]
  refine Af (fun e=>?_) (fun e=>?_)
  .have e:¬x.label=⟨#[]⟩∧¬0<=ix x.label K 0:=by simpa using e
   unfold Cm at hS2
   rw [iP e] at hS2
   simp (disch:=omega) only [hKl,k3,k4,w7,go_sem]
   refine ⟨.mk (j+1) (g1+1) (g2+1) (O++[x]) (K++[x.label]) (n'+60),⟨show j+1<=l.length by omega,show n+4<=n'+60 by omega,MC.symm,hS2.symm⟩,by show l.length - (j+1)<l.length - j;omega,?_⟩
   dsimp only
   refine Q3 hf ?_ ?_ ?_ ?_ ?_ (fun a ha d5=>?_) (by omega)
   .simp (disch:=omega) only [Ao j (by omega),zld,zlc,zle,go_sem]
   .simp (disch:=omega) only [go_sem]
   .simp (disch:=omega) only [go_sem]
   .simp (disch:=omega) only [go_sem]
   .simp (disch:=omega) only [go_sem]
   .repeat rw [Ak _ _ (by omega)]
  .have e:¬(¬x.label=⟨#[]⟩∧¬0<=ix x.label K 0):=by simpa using e
   unfold Cm at hS2
   rw [iN e] at hS2
   simp (disch:=omega) only [go_sem]
   refine ⟨.mk (j+1) (g1+1) (g2) (O++[x]) (K) (n'+60),⟨show j+1<=l.length by omega,show n+4<=n'+60 by omega,MC.symm,hS2.symm⟩,by show l.length - (j+1)<l.length - j;omega,?_⟩
   dsimp only
   refine Q3 hf ?_ ?_ ?_ ?_ ?_ (fun a ha d5=>?_) (by omega)
   .simp (disch:=omega) only [Ao j (by omega),zld,zlc,zle,go_sem]
   .simp (disch:=omega) only [go_sem]
   .simp (disch:=omega) only [go_sem]
   .simp (disch:=omega) only [go_sem]
   .simp (disch:=omega) only [go_sem]
   .repeat rw [Ak _ _ (by omega)]
 have q:j=l.length:=by simp at q;omega
 subst q
 rw [List.take_length] at At Cl
 rw [<-At,<-Cl] at AC
 simp (disch:=omega) only [go_sem]
 refine Qd ((Nk (t:=11) (k:=n+2) (g:=g1) (len:=O.length) (m:=9) (l:=Ab Bi O) (by (simp (disch:=omega) only [go_sem])) (by (simp (disch:=omega) only [go_sem])) (by omega)).trans (Nk (t:=12) (k:=n+3) (g:=g2) (len:=K.length) (m:=1) (l:=Bq K) (by (simp (disch:=omega) only [go_sem])) (by (simp (disch:=omega) only [go_sem])) (by omega))) ?_
 have tk1:(Ab Bi O).take O.length=Ab Bi O:=zlk (by omega)
 have tk2:(Bq K).take K.length=Bq K:=zlk (by omega)
 rw [tk1,tk2]
 simp (disch:=omega) only [hKl,go_sem]
 obtain ⟨F3,hF3⟩:∃F,O.flatMap (fun q=>if q.label=⟨#[]⟩ then C4 doc q v data path else [])=F:=⟨_,rfl⟩
 rw [hF3] at AC
 have hOm:∀x∈O,x∈l∧x.on=on:=fun x hx=>by
  rw [At] at hx
  obtain ⟨a1,a2⟩:=List.mem_filter.1 hx
  exact ⟨a1,by simpa using a2⟩
 refine loop (fun p:VnS=>match p with
  | .mk i L n'=>⟨[(0,.bx c 0),(4,.ds (Ab Aw path)),(6,.bx n 0),(8,.bx (n+1) 0),(11,.ds (Ab Bi O)),(56,.ds (Bq K)),(57,.i .i64 K.length),(58,.i .i64 i)],(kp,.rw (gp+L.length) 8 (Ab DU (P++L)))::(c,.bx [.ds (Ab BB doc),.rw kp (gp+L.length) (P.length+L.length)]) ::
   (n,.bx [.i .i64 v.k,.i .i64 v.n,.s v.s,.ds (Ab Aw v.items),.ds (Bq v.keys)])::(n+1,.bx [.i .i64 data.k,.i .i64 data.n,.s data.s,.ds (Ab Aw data.items),.ds (Bq data.keys)])::hp,n'⟩)
  (fun p=>match p with | .mk i L n'=>i<=K.length∧n+4<=n'∧RR=L++((K.drop i).flatMap (Ys doc l v path)++F3)) (fun p=>match p with | .mk i L n'=>K.length - i) (.mk 0 [] n') ?_ ?_ (fun p hi=>?_)
 .exact ⟨zw _,Be,AC.symm⟩
 .dsimp only
  refine Q3 hf ?_ ?_ ?_ ?_ ?_ (fun a ha d5=>?_) (zna _)
  .simp (disch:=omega) only [go_sem]
  .simp (disch:=omega) only [hk,zj,zle,Nat.add_zero,go_sem]
  .simp (disch:=omega) only [hc,n2,m2,zj,zle,Nat.add_zero,go_sem]
  .simp (disch:=omega) only [go_sem]
  .simp (disch:=omega) only [go_sem]
  .repeat rw [Ak _ _ (by omega)]
 clear Be
 obtain ⟨i,L,n'⟩:=p
 obtain ⟨NN,Is,Ed⟩:=hi
 have hLR:L.length<=RR.length:=by rw [Ed,zld];omega
 dsimp only
 simp (disch:=omega) only [n2,m2,go_sem]
 refine Af (fun e=>?_) (fun e=>?_)
 .have e:i<K.length:=by simpa using e
  obtain ⟨nm,en⟩:∃x,K[i]?=some x:=⟨K[i],by simp [e]⟩
  have FZ:=zg en
  rw [A2 en,z12] at Ed
  simp (disch:=omega) only [e,n2,m2,Ad (Aa C3 en),go_sem]
  refine loop (fun p:VpS=>match p with
   | .mk j g A n4=>⟨[(0,.bx c 0),(4,.ds (Ab Aw path)),(6,.bx n 0),(8,.bx (n+1) 0),(11,.ds (Ab Bi O)),(16,.s nm),(17,.rw n' g A.length),(56,.ds (Bq K)),(57,.i .i64 K.length),(58,.i .i64 i),(62,.ds (Ab Bi O)),(63,.i .i64 O.length),(64,.i .i64 j)],
    (n',.rw g 9 (Ab Bi A))::(kp,.rw (gp+L.length) 8 (Ab DU (P++L)))::(c,.bx [.ds (Ab BB doc),.rw kp (gp+L.length) (P.length+L.length)]) ::
    (n,.bx [.i .i64 v.k,.i .i64 v.n,.s v.s,.ds (Ab Aw v.items),.ds (Bq v.keys)])::(n+1,.bx [.i .i64 data.k,.i .i64 data.n,.s data.s,.ds (Ab Aw data.items),.ds (Bq data.keys)])::hp,n4⟩)
   (fun p=>match p with | .mk j g A n4=>j<=O.length∧n'+1<=n4∧A=Ju nm (O.take j)) (fun p=>match p with | .mk j g A n4=>O.length - j) (.mk 0 0 [] (n'+1)) ?_ ?_ (fun p hj=>?_)
  .exact ⟨zw _,zna _,rfl⟩
  .dsimp only
   refine (By (t:=17) (m:=9) (by (simp (disch:=omega) only [go_sem]))).trans (wX5 hf ?_ ?_ ?_ ?_ ?_ ?_ (fun a ha d5=>?_) (zna _))
   .simp (disch:=omega) only [hOl,go_sem]
   .simp (disch:=omega) only [go_sem]
    try rfl
   .simp (disch:=omega) only [go_sem]
   .simp (disch:=omega) only [n2,m2,go_sem]
   .simp (disch:=omega) only [go_sem]
   .simp (disch:=omega) only [go_sem]
   .simp only [zlw,zm,or_false,not_or] at d5
    repeat rw [Ak _ _ (by omega)]
  obtain ⟨j,g,A,n4⟩:=p
  obtain ⟨Cq,Be,CU⟩:=hj
  have JK:(Ab Bi A).length=A.length:=As _ _
  have hAn:A.length<=O.length:=by rw [CU];have:=Vz nm (O.take j);rw [zlo] at this;omega
  dsimp only
  simp (disch:=omega) only [go_sem]
  refine Af (fun d=>?_) (fun d=>?_)
  .have d:j<O.length:=by simpa using d
   obtain ⟨x,ex⟩:∃x,O[j]?=some x:=⟨O[j],by simp [d]⟩
   have MC:Ju nm (O.take (j+1))=if x.label=nm then Ju nm (O.take j)++[Es x] else Ju nm (O.take j):=by rw [<-Bc ex,UW]
   rw [<-CU] at MC
   have k1:(A.length+1)*160<=140737488355328:=by omega
   have k2:A.length+1<=9223372036854775807:=by omega
   have sn1:Ab Bi A++[[AV.s x.key,.s x.on,.s x.name,.ds (Ab B7 x.args),.s x.tn,.ds (Ab D2 x.tw),.s ⟨#[]⟩,.i .i64 x.initial,.ds (Ab Bi x.picks)]]=Ab Bi (A++[Es x]):=by rw [<-Bd Bi A,Ch];rfl
   simp (disch:=omega) only [d,Ad (Aa Bi ex),go_sem]
   refine Af (fun o=>?_) (fun o=>?_)
   .have o:x.label=nm:=by simpa using o
    rw [iP o] at MC
    simp (disch:=omega) only [d,Ad (Aa Bi ex),JK,k1,k2,sn1,go_sem]
    refine ⟨.mk (j+1) (g+1) (A++[Es x]) (n4+60),⟨show j+1<=O.length by omega,show n'+1<=n4+60 by omega,MC.symm⟩,by show O.length - (j+1)<O.length - j;omega,?_⟩
    dsimp only
    refine wX5 hf ?_ ?_ ?_ ?_ ?_ ?_ (fun a ha d5=>?_) (by omega)
    .simp (disch:=omega) only [Ao j (by omega),zld,zlc,zle,go_sem]
    .simp (disch:=omega) only [go_sem]
    .simp (disch:=omega) only [go_sem]
    .simp (disch:=omega) only [n2,m2,go_sem]
    .simp (disch:=omega) only [go_sem]
    .simp (disch:=omega) only [go_sem]
    .simp only [zlw,zm,or_false,not_or] at d5
     repeat rw [Ak _ _ (by omega)]
   .have o:¬x.label=nm:=by simpa using o
    rw [iN o] at MC
    simp (disch:=omega) only [go_sem]
    refine ⟨.mk (j+1) (g) (A) (n4+60),⟨show j+1<=O.length by omega,show n'+1<=n4+60 by omega,MC.symm⟩,by show O.length - (j+1)<O.length - j;omega,?_⟩
    dsimp only
    refine wX5 hf ?_ ?_ ?_ ?_ ?_ ?_ (fun a ha d5=>?_) (by omega)
    .simp (disch:=omega) only [Ao j (by omega),zld,zlc,zle,go_sem]
    .simp (disch:=omega) only [go_sem]
    .simp (disch:=omega) only [go_sem]
    .simp (disch:=omega) only [n2,m2,go_sem]
    .simp (disch:=omega) only [go_sem]
    .simp (disch:=omega) only [go_sem]
    .simp only [zlw,zm,or_false,not_or] at d5
     repeat rw [Ak _ _ (by omega)]
  have d:j=O.length:=by simp at d;omega
  subst d
  rw [List.take_length,At,Xl] at CU
  simp (disch:=omega) only [go_sem]
  refine Qd (Nk (t:=17) (k:=n') (g:=g) (len:=A.length) (m:=9) (l:=Ab Bi A) (by (simp (disch:=omega) only [go_sem])) (by (simp (disch:=omega) only [go_sem])) (by omega)) ?_
  have tk3:(Ab Bi A).take A.length=Ab Bi A:=zlk (by omega)
  rw [tk3]
  have hcm:=hcmp nm
  obtain ⟨o1,o2,o3⟩:=hprb nm
  have hlb:=hlab nm
  have hPr:=hPt nm
  have hVp:=hP on nm (by rw [<-Cl];exact FZ)
  have hsz2:=hszp nm
  rw [<-CU] at hcm o1 o2 o3 hlb hPr hVp hsz2
  obtain ⟨Q,hQ⟩:=A7 (A6 doc (AY A v) on [] (AP A) [])
  rw [hQ] at hcm o1 o2 o3 hlb
  have hMv:=OR Q.2 (by omega) (fun q hq=>by have:=o3 q hq;omega) path (by omega) 0 (by decide)
  have hJn:=Ib path [] (by simp;omega)
  rw [zj] at hJn
  obtain ⟨MV,hMV⟩:=A7 (Gb Q.2 path 0)
  rw [hMV] at hMv hlb
  simp (disch:=omega) only [n2,m2,go_sem]
  have v1:¬n4+10=n:=by omega
  have v2:¬n4+10=c:=by omega
  have v3:¬n4+10=kp:=by omega
  have v4:¬n4+10=n+1:=by omega
  refine Au.f (fun _ _ _=>hcm _ _) ?_
  simp (disch:=omega) only [n2,m2,v1,v2,v3,v4,true_and,go_sem]
  refine Au.f (fun _ _ _=>Ae.cv (args':=[.ds (Ab Aw path),.ds []]) rfl (hJn _ _)) ?_
  simp (disch:=omega) only [n2,m2,v1,v2,v3,v4,true_and,go_sem]
  refine Au.f (fun _ _ _=>hMv _ _) ?_
  have hPl:(Ab DU (P++L)).length=P.length+L.length:=by rw [As,zld]
  have k1:(P.length+(L.length+1))*144<=140737488355328:=by omega
  have k2:P.length+(L.length+1)<=9223372036854775807:=by omega
  have snp:Ab DU (P++L)++[[AV.s nm,.ds (Ab Aw path),.i .i64 Q.1.k,.i .i64 Q.1.n,.s Q.1.s,.ds (Ab Aw Q.1.items),.ds (Bq Q.1.keys),.ds (Ab Dr MV)]]=Ab DU (P++(L++[.mk nm path Q.1 MV])):=by rw [<-zlf];exact Bd DU (P++L) (.mk nm path Q.1 MV)
  simp (disch:=omega) only [n2,m2,v1,v2,v3,v4,hPl,k1,k2,snp,true_and,go_sem]
  obtain ⟨L2,hL2⟩:=A7 (L++[DM.mk nm path Q.1 MV])
  have hL2l:L2.length=L.length+1:=by rw [<-hL2];simp
  rw [hL2,<-hL2l]
  obtain ⟨W,hW⟩:∃W,(if Q.1.k=6 then A.flatMap (fun q=>C4 doc q v Q.1 path) else [])=W:=⟨_,rfl⟩
  rw [hW] at hlb
  have J1:RR=L2++W++((K.drop (i+1)).flatMap (Ys doc l v path)++F3):=by rw [Ed,hlb,<-hL2];simp
  have hLW:L2.length+W.length<=RR.length:=by rw [J1,zld,zld];omega
  refine Af (fun q=>?_) (fun q=>?_)
  .have q:Q.1.k=6:=by simpa using q
   rw [iP q,<-hPr] at hW
   have hX:=fun Am n' (e1:RunS doc Am c kp (gp+L2.length) (P++L2))=>hVp v Q.1 path Am c kp (gp+L2.length) (P++L2) n' hsz2 v6 o2 JH e1 (by rw [hW,zld];omega)
   rw [hW] at hX
   simp (disch:=omega) only [n2,m2,go_sem]
   refine Ac.x (hX _ _ ⟨?_,?_⟩) ?_
   .simp (disch:=omega) only [n2,m2,v1,v2,v3,v4,zld,go_sem]
   .simp (disch:=omega) only [n2,m2,v1,v2,v3,v4,go_sem]
   simp only [Jv,zlh,zli]
   simp (disch:=omega) only [n2,m2,go_sem]
   refine ⟨.mk (i+1) (L2++W) (n4+60),⟨show i+1<=K.length by omega,show n+4<=n4+60 by omega,J1⟩,by show K.length - (i+1)<K.length - i;omega,?_⟩
   dsimp only
   refine Q3 hf ?_ ?_ ?_ ?_ ?_ (fun a ha d5=>?_) (by omega)
   .simp (disch:=omega) only [Ao i (by omega),go_sem]
   .simp (disch:=omega) only [n2,m2,v1,v2,v3,v4,zld,zlf,ze,go_sem]
   .simp (disch:=omega) only [n2,m2,v1,v2,v3,v4,zld,zlf,ze,go_sem]
   .simp (disch:=omega) only [go_sem]
   .simp (disch:=omega) only [go_sem]
   .simp only [zlw,zm,or_false,not_or] at d5
    repeat rw [Ak _ _ (by omega)]
  .have q:¬Q.1.k=6:=by simpa using q
   rw [iN q] at hW
   subst hW
   rw [zj] at J1
   simp (disch:=omega) only [n2,m2,go_sem]
   refine ⟨.mk (i+1) (L2) (n4+60),⟨show i+1<=K.length by omega,show n+4<=n4+60 by omega,J1⟩,by show K.length - (i+1)<K.length - i;omega,?_⟩
   dsimp only
   refine Q3 hf ?_ ?_ ?_ ?_ ?_ (fun a ha d5=>?_) (by omega)
   .simp (disch:=omega) only [Ao i (by omega),go_sem]
   .simp (disch:=omega) only [n2,m2,v1,v2,v3,v4,zld,zlf,ze,go_sem]
   .simp (disch:=omega) only [n2,m2,v1,v2,v3,v4,zld,zlf,ze,go_sem]
   .simp (disch:=omega) only [go_sem]
   .simp (disch:=omega) only [go_sem]
   .simp only [zlw,zm,or_false,not_or] at d5
    repeat rw [Ak _ _ (by omega)]
 have e:i=K.length:=by simp at e;omega
 subst e
 rw [List.drop_length,z2o,zli] at Ed
 simp (disch:=omega) only [n2,m2,go_sem]
 refine loop (fun p:VnS=>match p with
  | .mk j M n4=>⟨[(0,.bx c 0),(4,.ds (Ab Aw path)),(6,.bx n 0),(8,.bx (n+1) 0),(115,.ds (Ab Bi O)),(116,.i .i64 O.length),(117,.i .i64 j)],(kp,.rw (gp+M.length) 8 (Ab DU (P++M)))::(c,.bx [.ds (Ab BB doc),.rw kp (gp+M.length) (P.length+M.length)]) ::
   (n,.bx [.i .i64 v.k,.i .i64 v.n,.s v.s,.ds (Ab Aw v.items),.ds (Bq v.keys)])::(n+1,.bx [.i .i64 data.k,.i .i64 data.n,.s data.s,.ds (Ab Aw data.items),.ds (Bq data.keys)])::hp,n4⟩)
  (fun p=>match p with | .mk j M n4=>j<=O.length∧n+4<=n4∧RR=M++(O.drop j).flatMap (fun q=>if q.label=⟨#[]⟩ then C4 doc q v data path else [])) (fun p=>match p with | .mk j M n4=>O.length - j) (.mk 0 L n') ?_ ?_ (fun p hj=>?_)
 .exact ⟨zw _,Is,by rw [List.drop_zero,hF3];exact Ed⟩
 .dsimp only
  refine Q3 hf ?_ ?_ ?_ ?_ ?_ (fun a ha d5=>?_) (zna _)
  .simp (disch:=omega) only [hOl,go_sem]
  .simp (disch:=omega) only [n2,m2,go_sem]
  .simp (disch:=omega) only [n2,m2,go_sem]
  .simp (disch:=omega) only [go_sem]
  .simp (disch:=omega) only [go_sem]
  .simp only [zlw,zm,or_false,not_or] at d5
   repeat rw [Ak _ _ (by omega)]
 clear Ed hLR hF3
 obtain ⟨j,M,n4⟩:=p
 obtain ⟨Cq,Be,CU⟩:=hj
 have hMR:M.length<=RR.length:=by rw [CU,zld];omega
 dsimp only
 simp (disch:=omega) only [n2,m2,go_sem]
 refine Af (fun d=>?_) (fun d=>?_)
 .have d:j<O.length:=by simpa using d
  obtain ⟨x,ex⟩:∃x,O[j]?=some x:=⟨O[j],by simp [d]⟩
  have Q0:=hOm x (zg ex)
  rw [A2 ex,z12] at CU
  have szx:Sz x.picks v:=sz.le (sz.p.x Q0.1) sz.r (zna _) (by have:=DP Q0.1;have:=Ci x;omega)
  obtain ⟨W,hW⟩:=A7 ((if x.label=⟨#[]⟩ then C4 doc x v data path else []))
  rw [hW] at CU
  have JI:RR=M++W++(O.drop (j+1)).flatMap (fun q=>if q.label=⟨#[]⟩ then C4 doc q v data path else []):=by rw [CU,zlf]
  have hMW:M.length+W.length<=RR.length:=by rw [JI,zld,zld];omega
  simp (disch:=omega) only [d,n2,m2,Ad (Aa Bi ex),go_sem]
  refine Af (fun q=>?_) (fun q=>?_)
  .have q:x.label=⟨#[]⟩:=by simpa using q
   rw [iP q] at hW
   have hX:=fun Am n' (e1:RunS doc Am c kp (gp+M.length) (P++M))=>hF x Q0.1 v data path Am c kp (gp+M.length) (P++M) n' szx v6 hd JH e1 (by rw [hW,zld];omega)
   rw [hW] at hX
   simp (disch:=omega) only [n2,m2,go_sem]
   refine Ac.x (hX _ _ ⟨?_,?_⟩) ?_
   .simp (disch:=omega) only [n2,m2,zld,go_sem]
   .simp (disch:=omega) only [n2,m2,go_sem]
   simp only [Jv,zlh,zli]
   simp (disch:=omega) only [n2,m2,go_sem]
   refine ⟨.mk (j+1) (M++W) (n4+60),⟨show j+1<=O.length by omega,show n+4<=n4+60 by omega,JI⟩,by show O.length - (j+1)<O.length - j;omega,?_⟩
   dsimp only
   refine Q3 hf ?_ ?_ ?_ ?_ ?_ (fun a ha d5=>?_) (by omega)
   .simp (disch:=omega) only [Ao j (by omega),zld,zlf,ze,go_sem]
   .simp (disch:=omega) only [n2,m2,zld,zlf,ze,go_sem]
   .simp (disch:=omega) only [n2,m2,zld,zlf,ze,go_sem]
   .simp (disch:=omega) only [go_sem]
   .simp (disch:=omega) only [go_sem]
   .simp only [zlw,zm,or_false,not_or] at d5
    repeat rw [Ak _ _ (by omega)]
  .have q:¬x.label=⟨#[]⟩:=by simpa using q
   rw [iN q] at hW
   subst hW
   rw [zj] at JI
   simp (disch:=omega) only [n2,m2,go_sem]
   refine ⟨.mk (j+1) (M) (n4+60),⟨show j+1<=O.length by omega,show n+4<=n4+60 by omega,JI⟩,by show O.length - (j+1)<O.length - j;omega,?_⟩
   dsimp only
   refine Q3 hf ?_ ?_ ?_ ?_ ?_ (fun a ha d5=>?_) (by omega)
   .simp (disch:=omega) only [Ao j (by omega),zld,zlf,ze,go_sem]
   .simp (disch:=omega) only [n2,m2,zld,zlf,ze,go_sem]
   .simp (disch:=omega) only [n2,m2,zld,zlf,ze,go_sem]
   .simp (disch:=omega) only [go_sem]
   .simp (disch:=omega) only [go_sem]
   .simp only [zlw,zm,or_false,not_or] at d5
    repeat rw [Ak _ _ (by omega)]
 have d:j=O.length:=by simp at d;omega
 subst d
 rw [List.drop_length,z2o,zj] at CU
 subst CU
 simp (disch:=omega) only [n2,m2,go_sem]
 refine IB ?_ ?_ fun j' MD j1 j3=>?_
 .simp (disch:=omega) only [n2,m2,go_sem]
 .simp (disch:=omega) only [n2,m2,go_sem]
 .simp only [AA]
  repeat rw [iN (by omega)]
