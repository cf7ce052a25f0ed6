/- Proof. Conditions: none. -/
import Derived.Test.YtgfidgoefioigaaGreatDoorIj47
noncomputable section
open List renaming mem_cons->zh,not_mem_nil->zf,drop_eq_nil_of_le->z1i
open Nat renaming zero_le->zt
open Bool renaming not_false->zi
open Go.Proofs.Tryz
open List renaming mem_of_getElem?->zla,length_cons->zlc,length_append->zld,length_nil->zle,map_append->zlq
open Nat renaming le_refl->zna
namespace Go.Proofs.YtgfidgoefioigaaGreatDoor
open Go.Eng
set_option linter.all false
set_option maxRecDepth 20000
set_option maxHeartbeats 4000000
theorem SU (doc:List Aw) (CI:DocOk doc) (l:List Pk) (O5:B6 l) (H:∀p∈l,Og doc p.picks):Og doc l:=by
 have hF:∀q∈l,Agt doc q:=fun q hq=>OO doc CI q (O5.t hq) (H q hq)
 refine Q3 doc CI l hF fun on name _=>?_
 refine Q3 doc CI (AB on name l) (fun q hq=>?_) fun y6 name' h=>?_
 .obtain ⟨p,hp,rfl⟩:∃p∈l,DL p=q:=by
   unfold AB at hq
   obtain ⟨p,hp,e⟩:=List.mem_map.1 hq
   exact ⟨p,(List.mem_filter.1 hp).1,e⟩
  exact OO doc CI (DL p) (show p.tw.length<=_ from O5.t hp) (H p hp)
 .rw [Kq] at h
  cases h
theorem Apa (doc:List Aw) (CI:DocOk doc) (l:List Pk) (O5:B6 l):Og doc l:=by
 have key:∀p:Pk,B6 p.picks->Og doc p.picks:=fun p=>Pk.ind (Q:=fun p=>B6 p.picks->Og doc p.picks) (fun p ih hp=>SU doc CI p.picks hp fun q hq=>ih q hq (hp.x hq)) p
 exact SU doc CI l O5 fun p hp=>key p (O5.x hp)
theorem Y6 (doc:List Aw) (CI:DocOk doc) (root:qB) (l:List Pk) (v:Ag) (sz:Sz l v) (Da:(GA doc root l v).2.2.length<=100000000000) (hp:CH) (m:Nat) :
 Af prog 9 hp m [B0 doc,.s root,.ds (Ab AJ l),vx v] (.tp [vx (GA doc root l v).1,.ds (Ab BD (GA doc root l v).2.1),.ds (Ab Bi (GA doc root l v).2.2)]):=by
 have hvw:=sz.w
 have hvf:=sz.fit
 have VW:=HM l (by have:=sz.k;omega)
 have hCu:=Agn l sz.p v (by omega)
 have hRu:=sz.cut.run CI root
 obtain ⟨o1,o2,o3⟩:=sz.cut.prb (doc:=doc) root
 have hVi:=Apa doc CI l sz.p v
 unfold GA at Da ⊢
 obtain ⟨Q,hQ⟩:=A5 (A7 doc (Bp l v) root [] (AM l) [])
 rw [hQ] at hRu o1 o2 o3 Da ⊢
 obtain ⟨R,A9⟩:=A5 ((if v.k=6∧Q.1.k=6 then Cx doc l v Q.1 [] else []))
 dsimp only at Da ⊢
 rw [A9] at Da ⊢
 refine Aj func9 (tA cc909) (tB cc909) (tC cc909) rfl fun hf=>?_;unfold ck909
 simp (disch:=omega) only [go_sem]
 refine Aq.f (fun _ _ _=>VW _ _) ?_
 simp (disch:=omega) only [go_sem]
 refine Aq.f (fun _ _ _=>hCu _ _) ?_
 simp (disch:=omega) only [go_sem]
 refine Aq.f (fun _ _ _=>hRu _ _) ?_
 simp (disch:=omega) only [go_sem]
 refine LF (Co (c:=m+17) (i:=1) (m:=8) (cs:=[.ds (Ab B8 doc),.e0]) ?_ rfl) ?_
 .simp (disch:=omega) only [go_sem]
 simp only [List.set_cons_succ,List.set_cons_zero]
 by_cases k6:v.k=6∧Q.1.k=6
 .rw [iP k6] at A9
  have hX:=fun Al n' (e1:RunS doc Al (m+17) (m+18) 0 [])=>hVi Q.1 [] Al (m+17) (m+18) 0 [] n' sz k6.1 o2 (by simp;omega) e1 (by rw [A9];simpa using Da)
  rw [A9] at hX
  simp (disch:=omega) only [dT k6.1,dT k6.2,go_sem]
  refine Ac.x (AO.e0d (i:=4) (args':=[.bx (m+17) 0,vx v,.ds (Ab AJ l),vx Q.1,.ds []]) rfl rfl (hX _ _ ⟨?_,?_⟩)) ?_
  .simp (disch:=omega) only [go_sem]
  .simp (disch:=omega) only [go_sem]
  simp only [JS,List.cons_append,List.nil_append]
  simp (disch:=omega) only [zle,Nat.zero_add,go_sem]
 .rw [iN k6] at A9
  subst A9
  by_cases k1:v.k=6
  .have k2:¬Q.1.k=6:=fun h=>k6 ⟨k1,h⟩
   simp (disch:=omega) only [dT k1,dF k2,go_sem]
  .simp (disch:=omega) only [dF k1,go_sem]
inductive OwS
 | mk (j g:Nat) (k:List qB) (n:Nat)
theorem Ai2 (l:List Pk) (on:qB) (hl:l.length<=100000000000) (hp:CH) (m:Nat):Af prog 61 hp m [.ds (Ab AJ l),.s on] (.ds (Bd (C0 on l []))):=by
 obtain ⟨RR,A9⟩:=A5 (C0 on l [])
 rw [A9]
 refine Aj func61 (tA cc61) (tB cc61) (tC cc61) rfl fun hf=>?_;unfold ck61
 simp (disch:=omega) only [go_sem]
 refine loop (fun p:OwS=>match p with
  | .mk j g K n=>⟨[(0,.ds (Ab AJ l)),(1,.s on),(5,.rw m g K.length),(6,.i .i64 j)],(m,.rw g 1 (Bd K))::hp,n⟩)
  (fun p=>match p with | .mk j g K n=>j<=l.length∧m+1<=n∧K=C0 on (l.take j) []) (fun p=>match p with | .mk j g K n=>l.length - j) (.mk 0 0 [] (m+1)) ?_ ?_ (fun p hj=>?_)
 .exact ⟨zt _,zna _,rfl⟩
 .dsimp only
  refine (Bo (t:=5) (m:=1) (by (simp (disch:=omega) only [go_sem]))).trans (Nd hf ?_ ?_ (fun a ha c7=>?_) (zna _))
  .simp (disch:=omega) only [go_sem]
  .simp (disch:=omega) only [go_sem]
   try rfl
  .repeat rw [Ai _ _ (by omega)]
 obtain ⟨j,g,K,n⟩:=p
 obtain ⟨Cg,Bc,As⟩:=hj
 have hKl:(Bd K).length=K.length:=Ao _ _
 have hKn:K.length<=l.length:=by rw [As];have:=If on (l.take j) [];rw [List.length_take,zle] at this;omega
 have BC:m<=n:=by omega
 dsimp only
 simp (disch:=omega) only [go_sem]
 refine Ae (fun q=>?_) (fun q=>?_)
 case' refine_2=>
  have q:j=l.length:=by simp at q;omega
  subst q
  rw [List.take_length,A9] at As
  subst As
  simp (disch:=omega) only [BC,hKl,zna,go_sem]
 have q:j<l.length:=by simpa using q
 obtain ⟨x,ex⟩:∃x,l[j]?=some x:=⟨l[j],by simp [q]⟩
 have C6:C0 on (l.take (j+1)) []=if x.on=on then Cc x.label (C0 on (l.take j) []) else C0 on (l.take j) []:=by rw [<-AN ex,Jd]
 rw [<-As] at C6
 have k3:(K.length+1)*16<=140737488355328:=by omega
 have k4:K.length+1<=9223372036854775807:=by omega
 have x7:Bd K++[[.s x.label]]=Bd (K++[x.label]):=AX Cz _ _
 have hHa:=fun hp n' (e:gc hp m=.rw g 1 (Bd K))=>All K x.label (by omega) m g K.length rfl hp n' e
 by_cases c1:x.on=on
 .rw [iP c1] at C6
  by_cases c2:x.label=⟨#[]⟩
  .have e:Cc x.label K=K:=by unfold Cc;rw [iN (fun h=>h.1 c2)]
   rw [e] at C6
   simp (disch:=omega) only [q,Ad (Aa AJ ex),dT c1,dT c2,Bool.not_true,go_sem]
   refine BL ?_
   simp (disch:=omega) only [go_sem]
   refine ⟨.mk (j+1) (g) (K) (n+60),⟨show j+1<=l.length by omega,show m+1<=n+60 by omega,by show _=_;rw [C6]⟩,by show l.length - (j+1)<l.length - j;omega,?_⟩
   dsimp only
   refine Nd hf ?_ ?_ (fun a ha c7=>?_) (by omega)
   .simp (disch:=omega) only [Ap j (by omega),zld,zlc,zle,go_sem]
   .simp (disch:=omega) only [go_sem]
   .repeat rw [Ai _ _ (by omega)]
  .simp (disch:=omega) only [q,Ad (Aa AJ ex),dT c1,dF c2,zi,go_sem]
   refine AH.f (fun _=>hHa _ _ (by (simp (disch:=omega) only [go_sem]))) ?_
   simp (disch:=omega) only [hKl,dT c1,dF c2,zi,go_sem]
   refine Ae (fun c=>?_) (fun c=>?_)
   .have c:¬0<=ix x.label K 0:=by simpa using c
    have e:Cc x.label K=K++[x.label]:=by unfold Cc;rw [iP ⟨c2,c⟩]
    rw [e] at C6
    simp (disch:=omega) only [q,Ad (Aa AJ ex),hKl,k3,k4,x7,go_sem]
    refine ⟨.mk (j+1) (g+1) (K++[x.label]) (n+60),⟨show j+1<=l.length by omega,show m+1<=n+60 by omega,by show _=_;rw [C6]⟩,by show l.length - (j+1)<l.length - j;omega,?_⟩
    dsimp only
    refine Nd hf ?_ ?_ (fun a ha c7=>?_) (by omega)
    .simp (disch:=omega) only [Ap j (by omega),zld,zlc,zle,go_sem]
    .simp (disch:=omega) only [go_sem]
    .repeat rw [Ai _ _ (by omega)]
   .have c:0<=ix x.label K 0:=by simpa using c
    have e:Cc x.label K=K:=by unfold Cc;rw [iN (fun h=>h.2 c)]
    rw [e] at C6
    simp (disch:=omega) only [go_sem]
    refine ⟨.mk (j+1) (g) (K) (n+60),⟨show j+1<=l.length by omega,show m+1<=n+60 by omega,by show _=_;rw [C6]⟩,by show l.length - (j+1)<l.length - j;omega,?_⟩
    dsimp only
    refine Nd hf ?_ ?_ (fun a ha c7=>?_) (by omega)
    .simp (disch:=omega) only [Ap j (by omega),zld,zlc,zle,go_sem]
    .simp (disch:=omega) only [go_sem]
    .repeat rw [Ai _ _ (by omega)]
 .rw [iN c1] at C6
  simp (disch:=omega) only [q,Ad (Aa AJ ex),dF c1,go_sem]
  refine BL ?_
  simp (disch:=omega) only [go_sem]
  refine ⟨.mk (j+1) (g) (K) (n+60),⟨show j+1<=l.length by omega,show m+1<=n+60 by omega,by show _=_;rw [C6]⟩,by show l.length - (j+1)<l.length - j;omega,?_⟩
  dsimp only
  refine Nd hf ?_ ?_ (fun a ha c7=>?_) (by omega)
  .simp (disch:=omega) only [Ap j (by omega),zld,zlc,zle,go_sem]
  .simp (disch:=omega) only [go_sem]
  .repeat rw [Ai _ _ (by omega)]
theorem Un (on name:qB) (l:List Pk) (p:Pk):AB on name (l++[p])=if p.on=on∧p.label=name then AB on name l++[DL p] else AB on name l:=by
 unfold AB
 rw [List.filter_append,zlq]
 by_cases c:p.on=on∧p.label=name
 .rw [iP c];simp [c.1,c.2]
 .rw [iN c]
  have:(decide (p.on=on)&&decide (p.label=name))=false:=by
   rw [Bool.and_eq_false_iff]
   by_cases c1:p.on=on
   .exact .inr (dF fun h=>c ⟨c1,h⟩)
   .exact .inl (dF c1)
  simp [this]
theorem Adq (l:List Pk) (on name:qB) (hl:l.length<=100000000000) (hp:CH) (m:Nat):Af prog 62 hp m [.ds (Ab AJ l),.s on,.s name] (.ds (Ab AJ (AB on name l))):=by
 obtain ⟨RR,A9⟩:=A5 (AB on name l)
 rw [A9]
 refine Aj func62 (tA cc62) (tB cc62) (tC cc62) rfl fun hf=>?_;unfold ck62
 simp (disch:=omega) only [go_sem]
 refine loop (fun p:PkS=>match p with
  | .mk j g L n=>⟨[(0,.ds (Ab AJ l)),(1,.s on),(2,.s name),(7,.rw m g L.length),(8,.i .i64 j)],(m,.rw g 9 (Ab AJ L))::hp,n⟩)
  (fun p=>match p with | .mk j g L n=>j<=l.length∧m+1<=n∧L=AB on name (l.take j)) (fun p=>match p with | .mk j g L n=>l.length - j) (.mk 0 0 [] (m+1)) ?_ ?_ (fun p hj=>?_)
 .exact ⟨zt _,zna _,rfl⟩
 .dsimp only
  refine (Bo (t:=7) (m:=9) (by (simp (disch:=omega) only [go_sem]))).trans (Nd hf ?_ ?_ (fun a ha c7=>?_) (zna _))
  .simp (disch:=omega) only [go_sem]
  .simp (disch:=omega) only [go_sem]
   try rfl
  .repeat rw [Ai _ _ (by omega)]
 obtain ⟨j,g,L,n⟩:=p
 obtain ⟨Cg,Bc,As⟩:=hj
 have BS:(Ab AJ L).length=L.length:=Ao _ _
 have QK:L.length<=l.length:=by rw [As];have:=Yu on name (l.take j);rw [List.length_take] at this;omega
 have BC:m<=n:=by omega
 dsimp only
 simp (disch:=omega) only [go_sem]
 refine Ae (fun q=>?_) (fun q=>?_)
 case' refine_2=>
  have q:j=l.length:=by simp at q;omega
  subst q
  rw [List.take_length,A9] at As
  subst As
  simp (disch:=omega) only [BC,BS,zna,go_sem]
 have q:j<l.length:=by simpa using q
 obtain ⟨x,ex⟩:∃x,l[j]?=some x:=⟨l[j],by simp [q]⟩
 have C6:AB on name (l.take (j+1))=if x.on=on∧x.label=name then AB on name (l.take j)++[DL x] else AB on name (l.take j):=by rw [<-AN ex,Un]
 rw [<-As] at C6
 have k1:(L.length+1)*160<=140737488355328:=by omega
 have k2:L.length+1<=9223372036854775807:=by omega
 have sn1:Ab AJ L++[[AV.s x.key,.s x.on,.s x.name,.ds (Ab BB x.args),.s x.tn,.ds (Ab D0 x.tw),.s ⟨#[]⟩,.i .i64 x.initial,.ds (Ab AJ x.picks)]]=Ab AJ (L++[DL x]):=by rw [<-AX AJ L,BH];rfl
 by_cases c:x.on=on∧x.label=name
 .rw [iP c] at C6
  simp (disch:=omega) only [q,Ad (Aa AJ ex),dT c.1,dT c.2,BS,k1,k2,sn1,true_and,go_sem]
  refine ⟨.mk (j+1) (g+1) (L++[DL x]) (n+60),⟨show j+1<=l.length by omega,show m+1<=n+60 by omega,by show _=_;rw [C6]⟩,by show l.length - (j+1)<l.length - j;omega,?_⟩
  dsimp only
  refine Nd hf ?_ ?_ (fun a ha c7=>?_) (by omega)
  .simp (disch:=omega) only [Ap j (by omega),zld,zlc,zle,go_sem]
  .simp (disch:=omega) only [go_sem]
  .repeat rw [Ai _ _ (by omega)]
 .rw [iN c] at C6
  by_cases c1:x.on=on
  .have c2:¬x.label=name:=fun h=>c ⟨c1,h⟩
   simp (disch:=omega) only [q,Ad (Aa AJ ex),dT c1,dF c2,go_sem]
   refine ⟨.mk (j+1) (g) (L) (n+60),⟨show j+1<=l.length by omega,show m+1<=n+60 by omega,by show _=_;rw [C6]⟩,by show l.length - (j+1)<l.length - j;omega,?_⟩
   dsimp only
   refine Nd hf ?_ ?_ (fun a ha c7=>?_) (by omega)
   .simp (disch:=omega) only [Ap j (by omega),zld,zlc,zle,go_sem]
   .simp (disch:=omega) only [go_sem]
   .repeat rw [Ai _ _ (by omega)]
  .simp (disch:=omega) only [q,Ad (Aa AJ ex),dF c1,go_sem]
   refine ⟨.mk (j+1) (g) (L) (n+60),⟨show j+1<=l.length by omega,show m+1<=n+60 by omega,by show _=_;rw [C6]⟩,by show l.length - (j+1)<l.length - j;omega,?_⟩
   dsimp only
   refine Nd hf ?_ ?_ (fun a ha c7=>?_) (by omega)
   .simp (disch:=omega) only [Ap j (by omega),zld,zlc,zle,go_sem]
   .simp (disch:=omega) only [go_sem]
   .repeat rw [Ai _ _ (by omega)]
def JP (doc:List Aw) (l:List Pk) (v d:Ag) (path:List Ag):List DB:=if v.k=6∧d.k=6 then Dd doc l v d path else []
def Lk (doc:List Aw) (l:List Pk):Prop:=∀(v data:Ag) (path:List Ag) (hp:CH) (n:Nat),Sz l v->data.Fit->path.length<=2000000000->(v.k=6->path.length+AG v<=1000000000) ->
 (JP doc l v data path).length<=100000000000->Af prog 33 hp n [B0 doc,.ds (Ab AJ l),vx v,vx data,.ds (Ab Ar path)] (.ds (Ab Bi (JP doc l v data path)))
def Amz (doc:List Aw) (q:Pk):Prop:=∀(raw d:Ag) (path:List Ag) (hp:CH) (n:Nat),Sz q.picks raw->d.Fit->path.length<=2000000000->(raw.k=5∨raw.k=6->path.length+AG raw<=1000000000) ->
 (Cb (Dd doc q.picks) raw d path).length<=100000000000->Af prog 66 hp n [B0 doc,pkx q,vx raw,vx d,.ds (Ab Ar path)] (.ds (Ab Bi (Cb (Dd doc q.picks) raw d path)))
theorem I9 (l:List DB):Ew 8 (Ab Bi l):=of_eq_true (DT fun _=>⟨rfl,rfl⟩)
inductive TrS
 | mk (j g:Nat) (l:List DB) (n:Nat)
theorem TG (doc:List Aw) (q:Pk) (H:Lk doc q.picks):Amz doc q:=by
 intro raw
 refine Ag.ind (Q:=fun raw=>∀(d:Ag) (path:List Ag) (hp:CH) (n:Nat),Sz q.picks raw->d.Fit->path.length<=2000000000->(raw.k=5∨raw.k=6->path.length+AG raw<=1000000000) ->
  (Cb (Dd doc q.picks) raw d path).length<=100000000000->Af prog 66 hp n [B0 doc,pkx q,vx raw,vx d,.ds (Ab Ar path)] (.ds (Ab Bi (Cb (Dd doc q.picks) raw d path)))) (fun raw ih d path hp m sz hd FM hb Da=>?_) raw
 by_cases k5:raw.k=5
 .have hb:=hb (.inl k5)
  have hdi:=hd.i
  have hri:=sz.fit.i
  obtain ⟨R,A9⟩:=A5 (Cb (Dd doc q.picks) raw d path)
  rw [A9] at Da ⊢
  have hRW:R=if d.k=5 then Dy (Dd doc q.picks) raw.items d.items 0 path else []:=by
   rw [<-A9,Cq]
   by_cases d5:d.k=5
   .rw [iP ⟨k5,d5⟩,iP d5]
   .rw [iN (fun h=>d5 h.2),iN d5,iN (fun h=>by omega)]
  refine Aj func66 (tA cc66) (tB cc66) (tC cc66) rfl fun hf=>?_;unfold ck66
  simp (disch:=omega) only [dT k5,Bool.not_true,go_sem]
  refine loop (fun p:TrS=>match p with
   | .mk j g L n'=>⟨[(4,.ds (Ab Ar path)),(5,.bx m 0),(6,.bx (m+1) 0),(7,.bx (m+2) 0),(8,.bx (m+3) 0),(11,.rw (m+4) g L.length),(12,.i .i64 j)],(m+4,.rw g 8 (Ab Bi L))::(m,.bx [.ds (Ab B8 doc)]) ::
    (m+1,.bx [.s q.key,.s q.on,.s q.name,.ds (Ab BB q.args),.s q.tn,.ds (Ab D0 q.tw),.s q.label,.i .i64 q.initial,.ds (Ab AJ q.picks)])::(m+2,.bx [.i .i64 raw.k,.i .i64 raw.n,.s raw.s,.ds (Ab Ar raw.items),.ds (Bd raw.keys)])::(m+3,.bx [.i .i64 d.k,.i .i64 d.n,.s d.s,.ds (Ab Ar d.items),.ds (Bd d.keys)])::hp,n'⟩)
   (fun p=>match p with | .mk j g L n'=>j<=raw.items.length∧m+5<=n'∧R=L++if d.k=5 then Dy (Dd doc q.picks) (raw.items.drop j) (d.items.drop j) j path else []) (fun p=>match p with | .mk j g L n'=>raw.items.length - j) (.mk 0 0 [] (m+5)) ?_ ?_ (fun p hj=>?_)
  .exact ⟨zt _,zna _,hRW⟩
  .dsimp only
   refine (Bo (t:=11) (m:=8) (by (simp (disch:=omega) only [go_sem]))).trans (X0 hf ?_ ?_ ?_ ?_ ?_ ?_ (fun a ha c7=>?_) (zna _))
   .simp (disch:=omega) only [go_sem]
   .simp (disch:=omega) only [go_sem]
    try rfl
   .simp (disch:=omega) only [go_sem]
   .simp (disch:=omega) only [go_sem]
   .simp (disch:=omega) only [go_sem]
   .simp (disch:=omega) only [go_sem]
   .repeat rw [Ai _ _ (by omega)]
  obtain ⟨j,g,L,n'⟩:=p
  obtain ⟨Cg,Bc,As⟩:=hj
  have BS:(Ab Bi L).length=L.length:=Ao _ _
  have hLR:L.length<=R.length:=by rw [As,zld];omega
  have BC:m<=n':=by omega
  dsimp only
  simp (disch:=omega) only [go_sem]
  refine Ae (fun c=>?_) (fun c=>?_)
  .have c:(j<raw.items.length∧d.k=5)∧j<d.items.length:=by simpa using c
   obtain ⟨⟨g1,d5⟩,g2⟩:=c
   rw [iP d5] at As
   obtain ⟨x,ex⟩:∃x,raw.items[j]?=some x:=⟨raw.items[j],by simp [g1]⟩
   obtain ⟨y,ey⟩:∃x,d.items[j]?=some x:=⟨d.items[j],by simp [g2]⟩
   have Jy:=zla ex
   have hxw:=B1 Jy
   have hvw:=AE raw
   have hyf:=hd.x (zla ey)
   rw [A2 ex,A2 ey,Dy] at As
   have szx:Sz q.picks x:=sz.le sz.p (sz.r.x Jy) (by omega) (zna _)
   obtain ⟨W,hW⟩:=A5 (Cb (Dd doc q.picks) x y (path++[Fo (j:Nat)]))
   rw [hW] at As
   have hWl:L.length+W.length<=R.length:=by rw [As,zld,zld];omega
   have hX:=fun Al n'=>ih x Jy y (path++[Fo (j:Nat)]) Al n' szx hyf (by simp;omega) (fun _=>by simp;omega) (by rw [hW];omega)
   rw [hW] at hX
   have hI:∀hp m,Af prog 25 hp m [.i .i64 (j:Nat)] (vx (Fo (j:Nat))):=fun hp m=>Tv _ hp m
   have hJ:=Hq path (Fo (j:Nat)) (by omega)
   have hWm:(Ab Bi W).length=W.length:=Ao _ _
   have k1:(L.length+W.length)*144<=140737488355328:=by omega
   have k2:L.length+W.length<=9223372036854775807:=by omega
   have sna:Ab Bi L++Ab Bi W=Ab Bi (L++W):=zlq.symm
   simp (disch:=omega) only [g1,g2,Ad (Aa Ar ex),Ad (Aa Ar ey),go_sem]
   refine Aq.f (fun _ _ _=>hI _ _) ?_
   simp (disch:=omega) only [g1,g2,Ad (Aa Ar ex),Ad (Aa Ar ey),go_sem]
   refine Aq.f (fun _ _ _=>hJ _ _) ?_
   simp (disch:=omega) only [g1,g2,Ad (Aa Ar ex),Ad (Aa Ar ey),go_sem]
   refine Aq.f (fun _ _ _=>hX _ _) ?_
   simp (disch:=omega) only [g1,g2,Ad (Aa Ar ex),Ad (Aa Ar ey),BS,hWm,k1,k2,sna,true_and,go_sem]
   refine ⟨I9 W,.mk (j+1) (g+1) (L++W) (n'+60),⟨show j+1<=raw.items.length by omega,show m+5<=n'+60 by omega,by show _=_;rw [As,iP d5,List.append_assoc]⟩,by show raw.items.length - (j+1)<raw.items.length - j;omega,?_⟩
   dsimp only
   refine X0 hf ?_ ?_ ?_ ?_ ?_ ?_ (fun a ha c7=>?_) (by omega)
   .simp (disch:=omega) only [Ap j (by omega),zld,go_sem]
   .simp (disch:=omega) only [go_sem]
   .simp (disch:=omega) only [go_sem]
   .simp (disch:=omega) only [go_sem]
   .simp (disch:=omega) only [go_sem]
   .simp (disch:=omega) only [go_sem]
   .simp only [zh,zf,or_false,not_or] at c7
    repeat rw [Ai _ _ (by omega)]
  .have c:¬((j<raw.items.length∧d.k=5)∧j<d.items.length):=by simpa using c
   have e:(if d.k=5 then Dy (Dd doc q.picks) (raw.items.drop j) (d.items.drop j) j path else [])=[]:=by
    by_cases d5:d.k=5
    .rw [iP d5]
     rcases Nat.lt_or_ge j raw.items.length with o | o
     .have e0:d.items.drop j=[]:=z1i (by omega)
      rw [e0,Em]
     .have e0:raw.items.drop j=[]:=z1i o
      rw [e0,Dy]
    .rw [iN d5]
   rw [e,List.append_nil] at As
   subst As
   simp (disch:=omega) only [BC,BS,zna,go_sem]
 .have e:Cb (Dd doc q.picks) raw d path=JP doc q.picks raw d path:=by rw [Cq,iN (fun h=>k5 h.1)];rfl
  rw [e] at Da ⊢
  have hV:=fun Al n'=>H raw d path Al n' sz hd FM (fun h=>hb (.inr h)) Da
  obtain ⟨R,A9⟩:=A5 (JP doc q.picks raw d path)
  rw [A9] at Da hV ⊢
  refine Aj func66 (tA cc66) (tB cc66) (tC cc66) rfl fun hf=>?_;unfold ck66
  simp (disch:=omega) only [dF k5,zi,go_sem]
  refine Ac.f (hV _ _) ?_
  simp (disch:=omega) only [go_sem]
theorem Nf (s:qB) (hp:CH) (m:Nat):Af prog 65 hp m [.s s] (vx (CW s)):=by
 refine Aj func65 (tA cc65) (tB cc65) (tC cc65) rfl fun hf=>?_;unfold ck65
 simp only [go_sem]
 rfl
theorem Aa8 (doc:List Aw) (CI:DocOk doc) (q:Pk) (DG:q.tw.length<=1000000000000) (H:Lk doc q.picks) (raw:Ag) (on:qB) (BM:List Ag) (sz:Sz q.picks raw) (h0:0<=q.initial) (FM:BM.length+AG raw<=1000000000)
 (Da:(DN doc (F9 q) (Dd doc q.picks) on q.key (B5 q (-1)) BM (raw.items.drop q.initial.toNat) q.initial.toNat).length<=100000000000) (hp:CH) (m:Nat) :
 Af prog 67 hp m [B0 doc,.s on,pkx q,vx raw,.ds (Ab Ar BM)] (.ds (Ab Bi (DN doc (F9 q) (Dd doc q.picks) on q.key (B5 q (-1)) BM (raw.items.drop q.initial.toNat) q.initial.toNat))):=by
 have hTr:=TG doc q H
 have hvf:=sz.fit
 have Ht:=sz.p
 have hvw:=sz.w
 have hri:=hvf.i
 have hrw:=AE raw
 obtain ⟨i0,hi0⟩:∃i:Nat,q.initial=(i:Int):=⟨q.initial.toNat,by omega⟩
 have LX:q.initial.toNat=i0:=by omega
 rw [LX] at Da ⊢
 obtain ⟨R,A9⟩:=A5 (DN doc (F9 q) (Dd doc q.picks) on q.key (B5 q (-1)) BM (raw.items.drop i0) i0)
 rw [A9] at Da ⊢
 have V9:∀hp m,Af prog 106 hp m [D1 q.tn q.tw] (.tp [D1 (B5 q (-1)).tn (B5 q (-1)).tw,.b (Cu q.tw)]):=fun hp m=>by
  have h:=FF q.tn q.tw (by omega) hp m
  by_cases cl:Cu q.tw=true
  .rw [iP cl] at h
   have e1:(B5 q (-1)).tn=q.tn:=iP cl
   have e2:(B5 q (-1)).tw=DM q.tw:=iP cl
   rw [e1,e2,cl]
   exact h
  .rw [iN cl] at h
   have e1:(B5 q (-1)).tn=⟨#[]⟩:=iN cl
   have e2:(B5 q (-1)).tw=[]:=iN cl
   rw [e1,e2,show Cu q.tw=false by simpa using cl]
   exact h
 have FK:AJ (B5 q (-1))=[.s q.key,.s q.on,.s q.name,.ds (Ab BB q.args),.s (B5 q (-1)).tn,.ds (Ab D0 (B5 q (-1)).tw),.s ⟨#[]⟩,.i .i64 (-1),.ds (Ab AJ (AM q.picks))]:=by rw [BH];rfl
 obtain ⟨otn,hotn⟩:=A5 ((B5 q (-1)).tn)
 obtain ⟨otw,hotw⟩:=A5 ((B5 q (-1)).tw)
 obtain ⟨lw,hlw⟩:=A5 (Cu q.tw)
 rw [hotn,hotw,hlw] at V9
 rw [hotn,hotw] at FK
 have VW:=G8 q.picks (by have:=sz.k;omega)
 refine Aj func67 (tA cc967) (tB cc967) (tC cc967) rfl fun hf=>?_;unfold ck967
 simp (disch:=omega) only [go_sem]
 refine Ac.f (V9 _ _) ?_
 simp (disch:=omega) only [go_sem]
 refine Ac.f (VW _ _) ?_
 simp (disch:=omega) only [go_sem]
 refine loop (fun p:TrS=>match p with
  | .mk j g L n'=>⟨[(1,.s on),(4,.ds (Ab Ar BM)),(5,.bx m 0),(7,.bx (m+1) 0),(8,.bx (m+2) 0),(11,.rw (m+5) g L.length),(14,.bx (m+4) 0),(15,.i .i64 j)],(m+5,.rw g 8 (Ab Bi L))::(m,.bx [.ds (Ab B8 doc)]) ::
   (m+1,.bx [.s q.key,.s q.on,.s q.name,.ds (Ab BB q.args),.s q.tn,.ds (Ab D0 q.tw),.s q.label,.i .i64 q.initial,.ds (Ab AJ q.picks)])::(m+2,.bx [.i .i64 raw.k,.i .i64 raw.n,.s raw.s,.ds (Ab Ar raw.items),.ds (Bd raw.keys)]) ::
   (m+4,.bx [.s q.key,.s q.on,.s q.name,.ds (Ab BB q.args),.s otn,.ds (Ab D0 otw),.s ⟨#[]⟩,.i .i64 (-1),.ds (Ab AJ (AM q.picks))])::hp,n'⟩)
  (fun p=>match p with | .mk j g L n'=>i0<=j∧(j=i0∨j<=raw.items.length)∧m+6<=n'∧R=L++DN doc (F9 q) (Dd doc q.picks) on q.key (B5 q (-1)) BM (raw.items.drop j) j) (fun p=>match p with | .mk j g L n'=>raw.items.length - j) (.mk i0 0 [] (m+6)) ?_ ?_ (fun p hj=>?_)
 .exact ⟨zna _,.inl rfl,zna _,A9.symm⟩
 .dsimp only
  refine (Bo (t:=11) (m:=8) (by (simp (disch:=omega) only [go_sem]))).trans (X0 hf ?_ ?_ ?_ ?_ ?_ ?_ (fun a ha c7=>?_) (zna _))
  .simp (disch:=omega) only [hi0,go_sem]
  .simp (disch:=omega) only [go_sem]
   try rfl
  .simp (disch:=omega) only [go_sem]
  .simp (disch:=omega) only [go_sem]
  .simp (disch:=omega) only [go_sem]
  .simp (disch:=omega) only [go_sem]
  .simp only [zh,zf,or_false,not_or] at c7
   repeat rw [Ai _ _ (by omega)]
 obtain ⟨i,gg,L,n'⟩:=p
 obtain ⟨hj0,Cg,Bc,As⟩:=hj
 have BS:(Ab Bi L).length=L.length:=Ao _ _
 have hLR:L.length<=R.length:=by rw [As,zld];omega
 have BC:m<=n':=by omega
 dsimp only
 simp (disch:=omega) only [go_sem]
 refine Ae (fun g=>?_) (fun g=>?_)
 case' refine_2=>
  have g:raw.items.length<=i:=by simp at g;omega
  rw [z1i g,DN,List.append_nil] at As
  subst As
  simp (disch:=omega) only [BC,BS,zna,go_sem]
 have g:i<raw.items.length:=by simpa using g
 obtain ⟨x,ex⟩:∃x,raw.items[i]?=some x:=⟨raw.items[i],by simp [g]⟩
 have Jy:=zla ex
 have hxw:=B1 Jy
 have hxr:=sz.r.x Jy
 have TU:LatF doc q raw x (F9 q x):=⟨sz,hxr,by omega,by rw [Ed];exact PD _ hxr,by rw [Ed];exact NP _ x⟩
 have s5:=TU.rrun CI DG on (-1)
 obtain ⟨o1,o2,o3⟩:=TU.out DG on (-1)
 have hCu:=Aiv q.picks sz.p x (by omega)
 rw [<-Ed] at hCu
 rw [A2 ex,Fy] at As
 have hI:∀hp m,Af prog 25 hp m [.i .i64 (i:Nat)] (vx (Fo (i:Nat))):=fun hp m=>Tv _ hp m
 have hJ2:=Hq BM (Fo (i:Nat)) (by omega)
 have hTo:=Nf on
 obtain ⟨cx,hcx⟩:=A5 (F9 q x)
 rw [hcx] at s5 o1 o2 o3 hCu As
 obtain ⟨Q,hQ⟩:=A5 (EW doc on q (-1) cx)
 rw [hQ] at s5 o1 o2 o3 As
 obtain ⟨d8,hat⟩:=A5 (BM++[Fo (i:Nat)])
 have hatl:d8.length=BM.length+1:=by rw [<-hat];simp
 rw [hat] at hJ2 As
 simp (disch:=omega) only [g,Ad (Aa Ar ex),go_sem]
 refine Ac.f (hI _ _) ?_
 simp (disch:=omega) only [g,go_sem]
 refine Ac.f (hJ2 _ _) ?_
 simp (disch:=omega) only [g,go_sem]
 have u1:¬n'+2=m:=by omega
 have u2:¬n'+2=m+1:=by omega
 have u3:¬n'+2=m+2:=by omega
 have u4:¬n'+2=m+4:=by omega
 have u5:¬n'+2=m+5:=by omega
 refine Aq.f (fun _ _ _=>hTo _ _) ?_
 simp (disch:=omega) only [g,u1,u2,u3,u4,u5,true_and,Ad (Aa Ar ex),go_sem]
 refine Aq.f (fun _ _ _=>hCu _ _) ?_
 simp (disch:=omega) only [g,u1,u2,u3,u4,u5,true_and,go_sem]
 refine ⟨by omega,by omega,?_⟩
 refine LF ((Ii (c:=n'+12) (i:=3) (k:=n'+10) (g:=0) (len:=2) (m:=5) (cs:=[.i .i64 6,.i .i64 0,.s ⟨#[]⟩,.rw (n'+10) 0 2,.rw (n'+3) 0 2]) (l:=Ab Ar [CW on,cx]) ?_ rfl ?_ (by rw [Ao];exact zna 2)).trans
  (Ii (c:=n'+12) (i:=4) (k:=n'+3) (g:=0) (len:=2) (m:=1) (cs:=[.i .i64 6,.i .i64 0,.s ⟨#[]⟩,.ds (Ab Ar [CW on,cx]),.rw (n'+3) 0 2]) (l:=Bd [sT,q.key]) ?_ rfl ?_ (by rw [Bd,Ao];exact zna 2))) ?_
 .simp (disch:=omega) only [go_sem]
 .simp (disch:=omega) only [go_sem]
 .simp (disch:=omega) only [go_sem]
  rfl
 .simp (disch:=omega) only [go_sem]
  rfl
 simp only [List.set_cons_succ,List.set_cons_zero]
 have tk:(Bd [sT,q.key]).take 2=Bd [sT,q.key]:=rfl
 rw [tk]
 simp only [vx,EV,Ag.k_mk,Ag.n_mk,Ag.s_mk,Ag.items_mk,Ag.keys_mk,Cl,Iv,FK,B4,Bd,Cz] at s5
 simp (disch:=omega) only [g,go_sem]
 refine Ac.f (s5 _ _) ?_
 simp (disch:=omega) only [g,go_sem]
 have hGe:=DA Q.1 o2 q.key
 unfold KQ at hGe
 have el_f:((AA Q.1 q.key).getD A6).Fit:=GU o2 q.key
 have hMv:=Nm Q.2 o1 o3 d8 (by omega) 1 (by decide)
 obtain ⟨el,Kw⟩:=A5 ((AA Q.1 q.key).getD A6)
 obtain ⟨b3,hb3⟩:=A5 ((AA Q.1 q.key).isSome)
 obtain ⟨MV,hMV⟩:=A5 (Ef Q.2 d8 1)
 rw [Kw,hb3] at hGe
 rw [Kw] at el_f As
 rw [hMV] at hMv As
 obtain ⟨W,hW⟩:=A5 (Cb (Dd doc q.picks) x el d8)
 rw [hW] at As
 have hLW:L.length+1+W.length<=R.length:=by rw [As,zld,zlc,zld];omega
 refine Ac.f (hGe _ _) ?_
 have hL1l:(Ab Bi (L++[DB.mk ⟨#[]⟩ d8 el MV])).length=L.length+1:=by rw [Ao];simp
 have hWm:(Ab Bi W).length=W.length:=Ao _ _
 have k1:(L.length+1)*144<=140737488355328:=by omega
 have k2:L.length+1<=9223372036854775807:=by omega
 have k3:(L.length+1+W.length)*144<=140737488355328:=by omega
 have k4:L.length+1+W.length<=9223372036854775807:=by omega
 have snp:Ab Bi L++[[AV.s ⟨#[]⟩,.ds (Ab Ar d8),.i .i64 el.k,.i .i64 el.n,.s el.s,.ds (Ab Ar el.items),.ds (Bd el.keys),.ds (Ab BD MV)]]=Ab Bi (L++[.mk ⟨#[]⟩ d8 el MV]):=AX Bi L (.mk ⟨#[]⟩ d8 el MV)
 have sna:Ab Bi (L++[DB.mk ⟨#[]⟩ d8 el MV])++Ab Bi W=Ab Bi (L++[DB.mk ⟨#[]⟩ d8 el MV]++W):=zlq.symm
 simp (disch:=omega) only [g,true_and,go_sem]
 refine Aq.f (fun _ _ _=>hMv _ _) ?_
 simp (disch:=omega) only [g,BS,k1,k2,snp,true_and,Ad (Aa Ar ex),go_sem]
 have szx:Sz q.picks x:=sz.le sz.p hxr (by omega) (zna _)
 have hX:=fun Al n'=>hTr x el d8 Al n' szx el_f (by omega) (fun _=>by omega) (by rw [hW];omega)
 rw [hW] at hX
 refine Ac.f (hX _ _) ?_
 have Ct:R=L++[DB.mk ⟨#[]⟩ d8 el MV]++W++DN doc (F9 q) (Dd doc q.picks) on q.key (B5 q (-1)) BM (raw.items.drop (i+1)) (i+1):=by rw [As];simp
 simp (disch:=omega) only [g,hL1l,hWm,k3,k4,sna,true_and,go_sem]
 refine ⟨I9 W,by omega,by omega,.mk (i+1) (gg+2) (L++[DB.mk ⟨#[]⟩ d8 el MV]++W) (n'+60),⟨show i0<=i+1 by omega,.inr (show i+1<=raw.items.length by omega),show m+6<=n'+60 by omega,Ct⟩,by show raw.items.length - (i+1)<raw.items.length - i;omega,?_⟩
 dsimp only
 refine X0 hf ?_ ?_ ?_ ?_ ?_ ?_ (fun a ha c7=>?_) (by omega)
 .simp (disch:=omega) only [Ap i (by omega),zld,zlc,zle,Nat.add_assoc,Nat.zero_add,go_sem]
 .simp (disch:=omega) only [go_sem]
 .simp (disch:=omega) only [go_sem]
 .simp (disch:=omega) only [go_sem]
 .simp (disch:=omega) only [go_sem]
 .simp (disch:=omega) only [go_sem]
 .simp only [zh,zf,or_false,not_or] at c7
  repeat rw [Ai _ _ (by omega)]
