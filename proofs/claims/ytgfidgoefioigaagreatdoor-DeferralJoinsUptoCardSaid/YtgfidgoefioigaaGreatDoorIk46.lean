/- Proof. Conditions: none. -/
import Derived.Test.YtgfidgoefioigaaGreatDoorIk45
open List renaming mem_map->zq,mem_filter->z13,mem_cons_of_mem->zx,append_nil->zj,drop_eq_nil_of_le->z2k,mem_of_getElem?->zg
open Nat renaming mul_le_mul_right->z1d,le_trans->z1x,mul_le_mul->z36,add_mul->z1r,mul_add->z23
open Go.Proofs.Tryz
open List renaming length_cons->zlc,length_append->zld,length_nil->zle,append_assoc->zlf,cons_append->zlh,nil_append->zli,map_cons->zln,mem_cons->zlw
open Nat renaming le_refl->zna
namespace Go.Proofs.YtgfidgoefioigaaGreatDoor
open Go.Eng
set_option linter.all false
set_option maxRecDepth 20000
set_option maxHeartbeats 1000000
section
variable {l:List Pk} {v:Ag} {doc:List Av} {f:PF} {K:Nat}
theorem Sf (l:List Pk):(∀p∈l,A5 (AP p.picks)<=A5 p.picks)->A5 (AP l)<=A5 l:=by
 induction l with
 |nil=>intro _;rw [AP];exact zna _
 |cons p l ih=>
  intro h
  have h1:=h p (by simp)
  have h2:=ih fun q hq=>h q (by simp [hq])
  rw [Mv]
  split
  .rw [A5,A5,Ci,Ci,(I2 p).2.2.2.2]
   omega
  .rw [A5]
   omega
theorem Om (l:List Pk):A5 (AP l)<=A5 l:=Sf l fun p _=>Pk.ind (Q:=fun p=>A5 (AP p.picks)<=A5 p.picks) (fun p ih=>Sf p.picks ih) p
theorem Jg (l:List Pk) (h:BQ l) (H:∀p∈l,BQ (AP p.picks)):BQ (AP l):=by
 have hl:=h.len
 have h1:=OO l
 refine .mk _ (by omega) (fun p hp=>?_) fun p hp=>?_
 .rw [CA] at hp
  obtain ⟨q,hq,rfl⟩:=zq.1 hp
  rw [(I2 q).2.2.2.1]
  exact h.t (z13.1 hq).1
 .rw [CA] at hp
  obtain ⟨q,hq,rfl⟩:=zq.1 hp
  rw [(I2 q).2.2.2.2]
  exact H q (z13.1 hq).1
theorem Pf (h:BQ l):BQ (AP l):=by
 have key:∀p:Pk,BQ p.picks->BQ (AP p.picks):=fun p=>Pk.ind (Q:=fun p=>BQ p.picks->BQ (AP p.picks)) (fun p ih h=>Jg _ h fun q hq=>ih q hq (h.x hq)) p
 exact Jg l h fun p hp=>key p (h.x hp)
theorem VU (h:BQ l) (on name:qB):BQ (AN on name l):=by
 have hl:=h.len
 refine .mk _ ?_ (fun p hp=>?_) fun p hp=>?_
 .unfold AN
  rw [List.length_map]
  have:=List.length_filter_le (fun x:Pk=>decide (x.on=on)&&decide (x.label=name)) l
  omega
 .obtain ⟨q,hq,rfl⟩:=zq.1 hp
  exact h.t (p:=q) (z13.1 hq).1
 .obtain ⟨q,hq,rfl⟩:=zq.1 hp
  exact h.x (p:=q) (z13.1 hq).1
theorem SA (on name:qB):∀l:List Pk,A5 (AN on name l)<=A5 l
 | []=>zna _
 |p::l=>by
  have ih:=SA on name l
  unfold AN at ih ⊢
  rw [List.filter_cons]
  split
  .rw [zln,A5,A5,Ci,Ci]
   have:(Es p).picks=p.picks:=rfl
   rw [this]
   omega
  .rw [A5]
   omega
/-! ### Ranges -/
theorem Ako:A8.Rng:=.mk _ (by decide) (by decide) (by simp [A8,Ag.items_mk])
theorem UP {q:Pk} {x:Ag} (h:x.Rng):(BM q x).Rng:=by
 unfold BM
 split
 .exact .mk _ h.l h.u fun y hy=>h.x (List.mem_of_mem_take hy)
 .exact h
theorem Ln (on:qB) (keys:List qB):∀(fs:List CF) (is:List Ag),(∀x∈fs,∀v:Ag,v.Rng->(x.2 v).Rng)->(∀x∈is,x.Rng)->∀x∈Hc on keys fs is,x.Rng
 | [],is,_,h=>h
 | (p,f)::r,is,hf,h=>by
  rw [Hc]
  split
  .rename_i c
   refine Ln on keys r _ (fun x hx=>hf x (zx _ hx)) fun x hx=>?_
   rcases List.mem_or_eq_of_mem_set hx with h1 | h1
   .exact h x h1
   .rw [h1]
    refine hf (p,f) (List.mem_cons_self ..) _ (UP (h _ ?_))
    rw [List.getD_eq_getElem?_getD,List.getElem?_eq_getElem (by omega)]
    exact List.getElem_mem _
  .exact Ln on keys r _ (fun x hx=>hf x (zx _ hx)) h
theorem KZ (h:v.n=0) (hx:∀x∈v.items,x.Rng):v.Rng:=.mk _ (by rw [h];decide) (by rw [h];decide) hx
theorem OW {fs:List CF} (hf:∀x∈fs,∀v:Ag,v.Rng->(x.2 v).Rng) (v:Ag):v.Rng->(I5 fs v).Rng:=by
 refine Ag.ind (Q:=fun v=>v.Rng->(I5 fs v).Rng) (fun v ih h=>?_) v
 rw [F5]
 split
 .refine KZ rfl fun x hx=>?_
  obtain ⟨y,hy,rfl⟩:=zq.1 hx
  exact ih y hy (h.x hy)
 .split
  .refine KZ rfl fun x hx=>?_
   exact Ln _ _ fs _ hf (fun y hy=>h.x hy) x hx
  .exact h
theorem Pu (p:Pk):∀v:Ag,v.Rng->(FH p v).Rng :=
 Pk.ind (Q:=fun p=>∀v:Ag,v.Rng->(FH p v).Rng) (fun p ih v h=>by
  rw [Eg]
  exact OW (fun x hx=>by rw [Ek] at hx;obtain ⟨q,hq,rfl⟩:=zq.1 hx;exact ih q hq) v h) p
theorem Wz (l:List Pk) (h:v.Rng):(AY l v).Rng :=
 OW (fun x hx=>by rw [Ek] at hx;obtain ⟨q,hq,rfl⟩:=zq.1 hx;exact Pu q) v h
/-! ### An object is completed -/
structure Sz (l:List Pk) (v:Ag):Prop where
 p:BQ l
 r:v.Rng
 w:AE v<=100000000
 c:AE v*(1+A5 l)<=10000000000
theorem Sz.fit (h:Sz l v):v.Fit:=CN v (by have:=h.w;omega)
theorem Sz.k (h:Sz l v):A5 l<=10000000000:=by
 have h1:=h.c
 have h2:=C7 v
 have:1*(1+A5 l)<=AE v*(1+A5 l):=z1d _ h2
 omega
theorem Sz.le {m:List Pk} {w:Ag} (h:Sz l v) (hp:BQ m) (hr:w.Rng) (h1:AE w<=AE v) (h2:A5 m<=A5 l):Sz m w :=
 ⟨hp,hr,z1x h1 h.w,z1x (z36 h1 (by omega)) h.c⟩
theorem Sz.par (h:Sz l v) (on name:qB):Sz (AN on name l) v:=h.le (VU h.p on name) h.r (zna _) (SA on name l)
theorem Sz.cut (h:Sz l v):Sz (AP l) (AY l v):=h.le (Pf h.p) (Wz l h.r) (SB l v) (Om l)
theorem Sz.run (hd:DocOk doc) (h:Sz l v) (root:qB) (hp:CH) (m:Nat) :
 Ae prog 15 hp m [B9 doc,.s root,.ds (Ab Bi l),vx v] (.tp [vx (A6 doc v root [] l []).1,.ds (Ab Dr (A6 doc v root [] l []).2)]) :=
 Sh doc hd root l h.p v h.fit h.r (by have:=h.w;omega) (by have:=h.c;omega) hp m
theorem Sz.prb (h:Sz l v) (root:qB):(A6 doc v root [] l []).2.length<=10000000000∧(A6 doc v root [] l []).1.Fit∧∀q∈(A6 doc v root [] l []).2,q.p.length<=100000000:=by
 have h1:=Iy doc v root [] l []
 have h2:=h.c
 have h3:=Sq doc v h.fit root [] l [] h.p (by simp)
 refine ⟨by omega,h3.1,fun q hq=>?_⟩
 have:=(h3.2 q hq).1
 have:=h.w
 simp at *
 omega
theorem NC (hd:DocOk doc) (h:Sz l v) (h6:v.k=6) (hp:CH) (m:Nat) :
 Ae prog 53 hp m [B9 doc,vx v,.ds (Ab Bi l)] (.tp [vx (A6 doc (AY l v) (typF v) [] (AP l) []).1,.ds (Ab Dr (A6 doc (AY l v) (typF v) [] (AP l) []).2)]):=by
 have hw:=h.w
 have hk:=h.k
 have h1:=EK v h.fit
 have h2:=Hx l (by omega)
 have h3:=NH l h.p v h6 (by omega)
 have h4:=(h.cut).run hd (typF v)
 obtain ⟨on,NK⟩:=A7 (typF v)
 rw [NK] at h1 h4 ⊢
 obtain ⟨pl,JH⟩:=A7 (AP l)
 rw [JH] at h2 h4 ⊢
 obtain ⟨cv,y7⟩:=A7 (AY l v)
 rw [y7] at h3 h4 ⊢
 obtain ⟨R,hR⟩:=A7 (A6 doc cv on [] pl [])
 rw [hR] at h4 ⊢
 refine Al func53 (tA cc53) (tB cc53) (tC cc53) rfl fun hf=>?_;unfold ck53
 simp (disch:=omega) only [go_sem]
 refine Au.f (fun _ _ _=>h1 _ _) ?_
 simp (disch:=omega) only [go_sem]
 refine Au.f (fun _ _ _=>h2 _ _) ?_
 simp (disch:=omega) only [go_sem]
 refine Au.f (fun _ _ _=>h3 _ _) ?_
 simp (disch:=omega) only [go_sem]
 refine Au.f (fun _ _ _=>h4 _ _) ?_
 simp (disch:=omega) only [go_sem]
/-! ### How many patches -/
theorem HW:∀(xs ys:List Ag) (j:Nat) (path:List Ag),(∀x∈xs,∀y path,(CZ f x y path).length<=AE x*K)->(Hv f xs ys j path).length<=BF xs*K
 | [],ys,j,path,_=>by rw [Hv];simp
 |x::xs,[],j,path,_=>by rw [Qu];simp
 |x::xs,y::ys,j,path,h=>by
  rw [Hv,zld,BF,z1r]
  have h1:=h x (by simp) y (path++[Ff j])
  have h2:=HW xs ys (j+1) path fun z hz=>h z (by simp [hz])
  omega
theorem J4 (F:∀v d path,(f v d path).length<=AE v*K) (x:Ag):∀y path,(CZ f x y path).length<=AE x*K:=by
 refine Ag.ind (Q:=fun x=>∀y path,(CZ f x y path).length<=AE x*K) (fun x ih y path=>?_) x
 rw [Db]
 split
 .refine z1x (HW _ _ _ _ ih) (z1d _ (by rw [A9];omega))
 .split
  .exact F _ _ _
  .simp
theorem S5 (doc:List Av) (cut:Ag->Ag) (F:∀v d path,(f v d path).length<=AE v*K) (on key:qB) (one:Pk) (CP:List Ag):∀(l:List Ag) (j:Nat),(H5 doc cut f on key one CP l j).length<=BF l*(1+K)
 | [],j=>by rw [H5];simp
 |x::l,j=>by
  rw [H5,zlc,zld,BF,z1r]
  have h1:=J4 F x ((AB (A6 doc (Cw [sT,key] [CY on,cut x]) on [] [one] []).1 key).getD A8) (CP++[Ff j])
  have h2:=S5 doc cut F on key one CP l (j+1)
  have h3:=C7 x
  have h4:AE x*(1+K)=AE x+AE x*K:=by rw [z23,Nat.mul_one]
  omega
theorem Y6 (v:Ag) (q:Pk):BF (Ba v q).items+1<=AE v:=by
 unfold Ba
 cases h:AB v q.key with
 |none=>
  have:=C7 v
  show BF []+1<=AE v
  rw [BF]
  omega
 |some x=>
  have h1:=BS (CG h)
  have h2:=A9 v
  have h3:=A9 x
  show BF x.items+1<=AE v
  omega
theorem V6 (l:List Ag) (n:Nat):BF (l.take n)+BF (l.drop n)=BF l:=by
 rw [<-If,List.take_append_drop]
theorem Abc (doc:List Av) (q:Pk) (F:∀v d path,(f v d path).length<=AE v*K) (v data:Ag) (path:List Ag):(NW doc q f v data path).length+1<=AE v*(1+K):=by
 have hr:=Y6 v q
 have hv:=C7 v
 have hK:(BF (Ba v q).items+1)*(1+K)<=AE v*(1+K):=z1d _ hr
 have hW:∀x:Ag,x.items=(Ba v q).items->x.k=5->∀y path,(CZ f x y path).length<=BF (Ba v q).items*K:=fun x hx h5 y path=>by
  rw [Db]
  split
  .rw [hx]
   exact HW _ _ _ _ fun z hz=>J4 F z
  .rw [iN (fun c=>by rw [h5] at c;exact absurd c.1 (by decide))]
   simp
 have e1:BF (Ba v q).items*(1+K)=BF (Ba v q).items+BF (Ba v q).items*K:=by rw [z23,Nat.mul_one]
 have e2:(BF (Ba v q).items+1)*(1+K)=BF (Ba v q).items*(1+K)+(1+K):=by rw [z1r,Nat.one_mul]
 unfold NW
 split
 .rename_i c
  have h1:(CZ f (Ba v q) (Ba data q) (path++[CY q.key])).length<=AE (Ba v q)*K:=J4 F _ _ _
  by_cases h5:(Ba v q).k=5
  .have:=hW _ rfl h5 (Ba data q) (path++[CY q.key])
   omega
  .have hx:AE (Ba v q)+1<=AE v∨Ba v q=A8:=by
    unfold Ba
    cases h:AB v q.key with
    |none=>exact .inr rfl
    |some x=>
     have h1:=BS (CG h)
     have h2:=A9 v
     left
     show AE x+1<=AE v
     omega
   rcases hx with hx | hx
   .have h2:(AE (Ba v q)+1)*(1+K)<=AE v*(1+K):=z1d _ hx
    have h3:(AE (Ba v q)+1)*(1+K)=AE (Ba v q)+AE (Ba v q)*K+(1+K):=by rw [z1r,z23,Nat.mul_one,Nat.one_mul]
    omega
   .rw [hx,Db,iN (fun c=>absurd c.1 (by decide)),iN (fun c=>absurd c.1 (by decide))]
    have:1*1<=AE v*(1+K):=z36 hv (by omega)
    simp
    omega
 .rw [zld]
  obtain ⟨w,hw⟩:=A7 (NT q.initial (Ba v q).items.length)
  rw [hw]
  have h1:(CZ f (EB ((Ba v q).items.take w)) (Ba data q) (path++[CY q.key])).length<=BF ((Ba v q).items.take w)*K:=by
   rw [Db]
   split
   .exact HW _ _ _ _ fun z hz=>J4 F z
   .rw [iN (fun c=>absurd (show (5:Int)=6 from c.1) (by decide))]
    simp
  have h2:=S5 doc (FH q) F (typF v) q.key (Cx q q.initial) (path++[CY q.key]) ((Ba v q).items.drop w) w
  have h3:=V6 (Ba v q).items w
  have h4:BF ((Ba v q).items.take w)*K<=BF ((Ba v q).items.take w)*(1+K):=Nat.mul_le_mul_left _ (by omega)
  have h5:BF ((Ba v q).items.take w)*(1+K)+BF ((Ba v q).items.drop w)*(1+K)=BF (Ba v q).items*(1+K):=by rw [<-z1r,h3]
  omega
/-! Labels -/
theorem Ok (on:qB):∀(l:List Pk) (o:List qB),(CJ on l o).length<=o.length+l.length
 | [],o=>by rw [CJ];simp
 |p::r,o=>by
  rw [CJ]
  have h:=Ok on r (if p.on=on then Cm p.label o else o)
  have h2:=LT p.label o
  rw [zlc]
  by_cases c:p.on=on
  .rw [iP c] at h ⊢;omega
  .rw [iN c] at h ⊢;omega
def HH (on name:qB) (c:Pk->Nat):List Pk->Nat
 | []=>0
 |p::r=>(if p.on=on∧p.label=name then c p else 0)+HH on name c r
def Vk (on:qB) (c:Pk->Nat) (l:List Pk):List qB->Nat
 | []=>0
 |n::r=>HH on n c l+Vk on c l r
theorem OM (on:qB) (c:Pk->Nat) (p:Pk) (l:List Pk):∀(ns:List qB),ns.Nodup->Vk on c (p::l) ns<=(if p.label∈ns then c p else 0)+Vk on c l ns
 | [],_=>by simp [Vk]
 |n::r,h=>by
  obtain ⟨h1,h2⟩:=List.nodup_cons.1 h
  have ih:=OM on c p l r h2
  rw [Vk,Vk,HH]
  by_cases e:p.label=n
  .subst e
   rw [iN h1] at ih
   rw [iP (List.mem_cons_self ..)]
   split<;>omega
  .rw [iN (fun q=>e q.2)]
   by_cases e2:p.label∈r
   .rw [iP e2] at ih
    rw [iP (zx _ e2)]
    omega
   .rw [iN e2] at ih
    rw [iN (fun q=>by rcases zlw.1 q with q | q;exact e q;exact e2 q)]
    omega
theorem Wf (on:qB) (c:Pk->Nat) {ns:List qB} (h:ns.Nodup) (h0:⟨#[]⟩ ∉ ns):∀l:List Pk,Vk on c l ns+HH on ⟨#[]⟩ c l<=(l.map c).sum
 | []=>by
  have:∀ns,Vk on c [] ns=0:=fun ns=>by
   induction ns with
   |nil=>rfl
   |cons n r ih=>rw [Vk,HH,ih]
  rw [this,HH]
  simp
 |p::l=>by
  have h1:=OM on c p l ns h
  have ih:=Wf on c h h0 l
  rw [HH,zln,List.sum_cons]
  by_cases e:p.label=⟨#[]⟩
  .rw [e,iN h0] at h1
   split<;>omega
  .rw [iN (fun q=>e q.2)]
   split at h1<;>omega
theorem Nq (doc:List Av) (on name:qB) (G:Pk->List DM) (hG:∀q,G (Es q)=G q) (c:Pk->Nat):∀l:List Pk,(∀q∈l,(G q).length<=c q)->((AN on name l).flatMap G).length<=HH on name c l
 | [],_=>by simp [AN,HH]
 |p::l,h=>by
  have ih:=Nq doc on name G hG c l fun q hq=>h q (by simp [hq])
  have hp:=h p (by simp)
  unfold AN at ih ⊢
  rw [List.filter_cons,HH]
  split
  .rename_i e
   rw [iP (by simpa using e),zln,List.flatMap_cons,zld,hG]
   omega
  .omega
theorem Sj (on name:qB) (c:Pk->Nat):∀(l:List Pk),(∃p∈l,p.on=on∧p.label=name)->HH on name c l+1<=HH on name (fun q=>c q+1) l
 | [],h=>by obtain ⟨p,hp,_⟩:=h;cases hp
 |p::l,h=>by
  have mono:∀l:List Pk,HH on name c l<=HH on name (fun q=>c q+1) l:=fun l=>by
   induction l with
   |nil=>exact zna _
   |cons q l ih=>rw [HH,HH];split<;>omega
  rw [HH,HH]
  by_cases e:p.on=on∧p.label=name
  .rw [iP e,iP e]
   have:=mono l
   omega
  .rw [iN e,iN e]
   have:=Sj on name c l (by
    obtain ⟨q,hq,h⟩:=h
    rcases zlw.1 hq with rfl | hq
    .exact absurd h e
    .exact ⟨q,hq,h⟩)
   omega
theorem Ob (on name:qB) {c d:Pk->Nat}:∀(l:List Pk),(∀p∈l,c p<=d p)->HH on name c l<=HH on name d l
 | [],_=>zna _
 |p::l,h=>by
  have ih:=Ob on name l fun q hq=>h q (by simp [hq])
  have:=h p (by simp)
  rw [HH,HH]
  split<;>omega
theorem KC (doc:List Av) (l:List Pk) (H:∀q∈l,∀v d path,(C4 doc q v d path).length+1<=AE v*IL q) (v data:Ag) (path:List Ag):(C0 doc l v data path).length<=AE v*A5 l:=by
 rw [ML,zld]
 obtain ⟨nd,n0⟩:=No (typF v) l [] ⟨by simp,by simp⟩
 have hm:=fun name h=>Lf (typF v) name l [] h
 obtain ⟨ns,LM⟩:=A7 (CJ (typF v) l [])
 rw [LM] at nd n0 hm ⊢
 have h1:∀ns':List qB,(∀n∈ns',n∈ns)->(ns'.flatMap (fun name=>DM.mk name path (A6 doc (AY (AN (typF v) name l) v) (typF v) [] (AP (AN (typF v) name l)) []).1 (Gb (A6 doc (AY (AN (typF v) name l) v) (typF v) [] (AP (AN (typF v) name l)) []).2 path 0) ::
  (if (A6 doc (AY (AN (typF v) name l) v) (typF v) [] (AP (AN (typF v) name l)) []).1.k=6 then (AN (typF v) name l).flatMap (fun q=>C4 doc q v (A6 doc (AY (AN (typF v) name l) v) (typF v) [] (AP (AN (typF v) name l)) []).1 path) else []))).length<=Vk (typF v) (fun q=>AE v*IL q) l ns':=by
  intro ns'
  induction ns' with
  |nil=>intro _;simp [Vk]
  |cons n r ih=>
   intro hn
   have i2:=ih fun m hm=>hn m (by simp [hm])
   rw [List.flatMap_cons,zld,zlc,Vk]
   have i1:(if (A6 doc (AY (AN (typF v) n l) v) (typF v) [] (AP (AN (typF v) n l)) []).1.k=6 then (AN (typF v) n l).flatMap (fun q=>C4 doc q v (A6 doc (AY (AN (typF v) n l) v) (typF v) [] (AP (AN (typF v) n l)) []).1 path) else []).length+1<=HH (typF v) n (fun q=>AE v*IL q) l:=by
    have e1:=Nq doc (typF v) n (fun q=>C4 doc q v (A6 doc (AY (AN (typF v) n l) v) (typF v) [] (AP (AN (typF v) n l)) []).1 path) (fun q=>by show C4 doc (Es q) _ _ _=_;rw [G1]) (fun q=>AE v*IL q - 1) l (fun q hq=>by have:=H q hq v (A6 doc (AY (AN (typF v) n l) v) (typF v) [] (AP (AN (typF v) n l)) []).1 path;omega)
    have e2:=Sj (typF v) n (fun q=>AE v*IL q - 1) l (by
     rcases hm n (hn n (by simp)) with h | h
     .cases h
     .exact h)
    have e3:=Ob (typF v) n (c:=fun q=>AE v*IL q - 1+1) (d:=fun q=>AE v*IL q) l (fun q hq=>by
     have:1*1<=AE v*IL q:=z36 (C7 v) (by rw [Ci];omega)
     omega)
    split
    .omega
    .simp only [zle];omega
   omega
 have h2:=h1 ns fun _ h=>h
 have h3:=Nq doc (typF v) ⟨#[]⟩ (fun q=>C4 doc q v data path) (fun q=>by show C4 doc (Es q) _ _ _=_;rw [G1]) (fun q=>AE v*IL q) l (fun q hq=>by have:=H q hq v data path;omega)
 have h4:=Wf (typF v) (fun q=>AE v*IL q) nd n0 l
 have h5:(l.map fun q=>AE v*IL q).sum=AE v*A5 l:=by
  clear h1 h2 h3 h4 hm LM H
  induction l with
  |nil=>simp [A5]
  |cons p l ih=>rw [zln,List.sum_cons,ih,A5,z23]
 omega
theorem VK (doc:List Av) (q:Pk):∀v d path,(C4 doc q v d path).length+1<=AE v*IL q :=
 Pk.ind (Q:=fun q=>∀v d path,(C4 doc q v d path).length+1<=AE v*IL q) (fun q ih v d path=>by
  rw [GP,Ci]
  exact Abc doc q (KC doc q.picks ih) v d path) q
theorem Wu (doc:List Av) (l:List Pk) (v d:Ag) (path:List Ag):(C0 doc l v d path).length<=AE v*A5 l:=KC doc l (fun q _=>VK doc q) v d path
end
set_option maxHeartbeats 2000000
structure RunS (doc:List Av) (hp:CH) (c kp gp:Nat) (P:List DM):Prop where
 hc:gc hp c=.bx [.ds (Ab BB doc),.rw kp gp P.length]
 hk:gc hp kp=.rw gp 8 (Ab DU P)
def Jv (doc:List Av) (c kp gp:Nat) (P R:List DM):CH :=
 [(kp,.rw (gp+R.length) 8 (Ab DU (P++R))),(c,.bx [.ds (Ab BB doc),.rw kp (gp+R.length) (P.length+R.length)])]
section
variable {doc:List Av} {hp:CH} {c kp gp:Nat} {P R:List DM}
section
variable {n:Nat} {Am:CH}
theorem RunS.n2 (h:RunS doc hp c kp gp P):¬c=kp:=fun e=>by have:=h.hc;rw [e,h.hk] at this;cases this
theorem RunS.lt (h:RunS doc hp c kp gp P) (hf:∀k,n<=k->gc hp k=.no):c<n∧kp<n :=
 ⟨BT hf h.hc (fun e=>by cases e),BT hf h.hk (fun e=>by cases e)⟩
theorem RunS.wsLt (h:RunS doc hp c kp gp P) (hf:∀k,n<=k->gc hp k=.no):wsLt n (Jv doc c kp gp P R):=by
 obtain ⟨h1,h3⟩:=h.lt hf
 refine ⟨h3,trivial,h1,?_,trivial⟩
 intro α hα
 simp only [zlw,List.not_mem_nil,or_false] at hα
 rcases hα with rfl | rfl
 .rfl
 .exact h3
theorem IB (h1:gc Am kp=.rw (gp+R.length) 8 (Ab DU (P++R))) (h2:gc Am c=.bx [.ds (Ab BB doc),.rw kp (gp+R.length) (P.length+R.length)])
 (h4:∀j,j<n->j≠c->j≠kp->gc Am j=gc hp j):Up n (Jv doc c kp gp P R++hp) Am:=fun j hj=>by
 simp only [Jv,zlh,zli]
 by_cases e1:kp=j
 .subst e1;rw [Ar,h1]
 .rw [Ak _ _ e1]
  by_cases e2:c=j
  .subst e2;rw [Ar,h2]
  .rw [Ak _ _ e2]
   exact h4 j hj (fun e=>e2 e.symm) (fun e=>e1 e.symm)
theorem RunS.of (h:RunS doc hp c kp gp P) (e:∀j,(j=c∨j=kp)->gc Am j=gc hp j):RunS doc Am c kp gp P :=
 ⟨(e c (.inl rfl)).trans h.hc,(e kp (.inr rfl)).trans h.hk⟩
theorem JL {n0:Nat} (h:RunS doc hp c kp gp P) (h1:c<n0) (h3:kp<n0):Kc hp n0 (keys (Jv doc c kp gp P R)) (Jv doc c kp gp P R):=by
 refine ⟨h3,by rw [h.hk];trivial,trivial,h1,by rw [h.hc];trivial,⟨rfl,?_,trivial⟩,trivial⟩
 show kp∈[kp,c];simp
theorem RunS.app (h:gc hp c=.bx [.ds (Ab BB doc),.rw kp (gp+R.length) (P.length+R.length)]) (h2:gc hp kp=.rw (gp+R.length) 8 (Ab DU (P++R))):RunS doc hp c kp (gp+R.length) (P++R) :=
 ⟨by rw [h,zld],h2⟩
end
end
def Nz (doc:List Av) (l:List Pk):Prop:=∀(v data:Ag) (path:List Ag) (hp:CH) (c kp gp:Nat) (P:List DM) (n:Nat),Sz l v->v.k=6->data.Fit->path.length+AE v<=1000000000->RunS doc hp c kp gp P ->
 P.length+(C0 doc l v data path).length<=100000000000->AO prog 29 hp n [.bx c 0,vx v,.ds (Ab Bi l),vx data,.ds (Ab Aw path)] (Jv doc c kp gp P (C0 doc l v data path)++hp) n (.tp [])
def Aon (doc:List Av) (q:Pk):Prop:=∀(d8 d:Ag) (path:List Ag) (hp:CH) (c kp gp:Nat) (P:List DM) (n:Nat),Sz q.picks d8->d.Fit->path.length<=2000000000->(d8.k=5∨d8.k=6->path.length+AE d8<=1000000000)->RunS doc hp c kp gp P ->
 P.length+(CZ (C0 doc q.picks) d8 d path).length<=100000000000->AO prog 98 hp n [.bx c 0,vx d8,pkx q,vx d,.ds (Ab Aw path)] (Jv doc c kp gp P (CZ (C0 doc q.picks) d8 d path)++hp) n (.tp [])
inductive WkS
 | mk (j:Nat) (l:List DM) (n:Nat)
theorem Abe (doc:List Av) (q:Pk) (H:Nz doc q.picks):Aon doc q:=by
 intro d8
 refine Ag.ind (Q:=fun d8=>∀(d:Ag) (path:List Ag) (hp:CH) (c kp gp:Nat) (P:List DM) (n:Nat),Sz q.picks d8->d.Fit->path.length<=2000000000->(d8.k=5∨d8.k=6->path.length+AE d8<=1000000000)->RunS doc hp c kp gp P ->
  P.length+(CZ (C0 doc q.picks) d8 d path).length<=100000000000->AO prog 98 hp n [.bx c 0,vx d8,pkx q,vx d,.ds (Ab Aw path)] (Jv doc c kp gp P (CZ (C0 doc q.picks) d8 d path)++hp) n (.tp [])) (fun d8 ih d path hp c kp gp P n sz hd JH hb hR Fw=>?_) d8
 have DV:∀R,(∀k,n<=k->gc hp k=.no)->wsLt n (Jv doc c kp gp P R):=fun R hf=>hR.wsLt hf
 have hri:=sz.fit.i
 have hdi:=hd.i
 have n2:=hR.n2
 have m2:¬kp=c:=fun e=>n2 e.symm
 by_cases k5:d8.k=5∧d.k=5
 .obtain ⟨R,AC⟩:=A7 (CZ (C0 doc q.picks) d8 d path)
  rw [AC] at Fw ⊢
  rw [Db,iP k5] at AC
  have hb:=hb (.inl k5.1)
  have DV:=DV R
  refine Cp func98 (tA cc98) (tB cc98) (tC cc98) rfl DV fun hf=>?_;unfold ck98
  obtain ⟨l1,l3⟩:=hR.lt hf
  have hc:=hR.hc
  have hk:=hR.hk
  simp (disch:=omega) only [dT k5.1,dT k5.2,go_sem]
  refine loop (fun p:WkS=>match p with
   | .mk j L n'=>⟨[(0,.bx c 0),(4,.ds (Ab Aw path)),(6,.bx n 0),(7,.bx (n+1) 0),(8,.bx (n+2) 0),(10,.i .i64 j)],(kp,.rw (gp+L.length) 8 (Ab DU (P++L)))::(c,.bx [.ds (Ab BB doc),.rw kp (gp+L.length) (P.length+L.length)]) ::
    (n,.bx [.i .i64 d8.k,.i .i64 d8.n,.s d8.s,.ds (Ab Aw d8.items),.ds (Bq d8.keys)])::(n+1,.bx [.s q.key,.s q.on,.s q.name,.ds (Ab B7 q.args),.s q.tn,.ds (Ab D2 q.tw),.s q.label,.i .i64 q.initial,.ds (Ab Bi q.picks)])::(n+2,.bx [.i .i64 d.k,.i .i64 d.n,.s d.s,.ds (Ab Aw d.items),.ds (Bq d.keys)])::hp,n'⟩)
   (fun p=>match p with | .mk j L n'=>j<=d8.items.length∧n+3<=n'∧R=L++Hv (C0 doc q.picks) (d8.items.drop j) (d.items.drop j) j path) (fun p=>match p with | .mk j L n'=>d8.items.length - j) (.mk 0 [] (n+3)) ?_ ?_ (fun p hj=>?_)
  .exact ⟨Nat.zero_le _,zna _,AC.symm⟩
  .dsimp only
   refine wX5 hf ?_ ?_ ?_ ?_ ?_ ?_ (fun a ha d5=>?_) (zna _)
   .simp (disch:=omega) only [go_sem]
   .simp (disch:=omega) only [hk,zj,zle,Nat.add_zero,go_sem]
   .simp (disch:=omega) only [hc,n2,m2,zj,zle,Nat.add_zero,go_sem]
   .simp (disch:=omega) only [go_sem]
   .simp (disch:=omega) only [go_sem]
   .simp (disch:=omega) only [go_sem]
   .repeat rw [Ak _ _ (by omega)]
  obtain ⟨j,L,n'⟩:=p
  obtain ⟨Cq,Be,At⟩:=hj
  have BD:n<=n':=by omega
  dsimp only
  simp (disch:=omega) only [n2,m2,go_sem]
  have hLR:L.length<=R.length:=by rw [At,zld];omega
  refine Af (fun g=>?_) (fun g=>?_)
  case' refine_2=>
   have g:¬(j<d8.items.length∧j<d.items.length):=by simpa using g
   have e:Hv (C0 doc q.picks) (d8.items.drop j) (d.items.drop j) j path=[]:=by
    rcases Nat.lt_or_ge j d8.items.length with o | o
    .have e0:d.items.drop j=[]:=z2k (by omega)
     rw [e0,Qu]
    .have e0:d8.items.drop j=[]:=z2k o
     rw [e0,Hv]
   rw [e,zj] at At
   subst At
   simp (disch:=omega) only [go_sem]
   refine IB ?_ ?_ fun j' MD j1 j3=>?_
   .simp (disch:=omega) only [n2,m2,go_sem]
   .simp (disch:=omega) only [n2,m2,go_sem]
   . (repeat rw [Ak _ _ (by omega)])
  have g:j<d8.items.length∧j<d.items.length:=by simpa using g
  obtain ⟨g1,g2⟩:=g
  obtain ⟨x,ex⟩:∃x,d8.items[j]?=some x:=⟨d8.items[j],by simp [g1]⟩
  obtain ⟨y,ey⟩:∃x,d.items[j]?=some x:=⟨d.items[j],by simp [g2]⟩
  have Q0:=zg ex
  have hxw:=BS Q0
  have hvw:=A9 d8
  have hyf:=hd.x (zg ey)
  rw [A2 ex,A2 ey,Hv] at At
  have szx:Sz q.picks x:=sz.le sz.p (sz.r.x Q0) (by omega) (zna _)
  obtain ⟨W,hW⟩:=A7 (CZ (C0 doc q.picks) x y (path++[Ff (j:Nat)]))
  rw [hW] at At
  have hWl:L.length+W.length<=R.length:=by rw [At,zld,zld];omega
  have hX:=fun Am n' (e1:RunS doc Am c kp (gp+L.length) (P++L))=>ih x Q0 y (path++[Ff (j:Nat)]) Am c kp (gp+L.length) (P++L) n' szx hyf (by simp;omega) (fun _=>by simp;omega) e1 (by rw [hW,zld];omega)
  rw [hW] at hX
  have hI:=KW (j:Nat)
  have hJ:=Ib path [Ff (j:Nat)] (by simp;omega)
  simp (disch:=omega) only [g1,g2,n2,m2,Ad (Aa Aw ex),Ad (Aa Aw ey),go_sem]
  refine Au.f (fun _ _ _=>hI _ _) ?_
  simp (disch:=omega) only [g1,g2,n2,m2,Ad (Aa Aw ex),Ad (Aa Aw ey),go_sem]
  refine Au.f (fun _ _ _=>hJ _ _) ?_
  simp (disch:=omega) only [g1,g2,n2,m2,Ad (Aa Aw ex),Ad (Aa Aw ey),go_sem]
  refine Au.w (ws:=Jv doc c kp (gp+L.length) (P++L) W) (JL ⟨?_,?_⟩ (by omega) (by omega)) rfl (fun Am e=>hX Am _ ⟨(e c (.inl (by omega))).trans ?_,(e kp (.inl (by omega))).trans ?_⟩) ?_
  case refine_5=>
   simp only [Jv,zlh,zli]
   simp (disch:=omega) only [n2,m2,go_sem]
   refine ⟨.mk (j+1) (L++W) (n'+60),⟨show j+1<=d8.items.length by omega,show n+3<=n'+60 by omega,by show _=_;rw [At,zlf]⟩,by show d8.items.length - (j+1)<d8.items.length - j;omega,?_⟩
   dsimp only
   refine wX5 hf ?_ ?_ ?_ ?_ ?_ ?_ (fun a ha d5=>?_) (by omega)
   .simp (disch:=omega) only [Ao j (by omega),go_sem]
   .simp (disch:=omega) only [zld,zlf,Nat.add_assoc,go_sem]
   .simp (disch:=omega) only [n2,m2,zld,zlf,Nat.add_assoc,go_sem]
   .simp (disch:=omega) only [go_sem]
   .simp (disch:=omega) only [go_sem]
   .simp (disch:=omega) only [go_sem]
   .simp only [zlw,List.not_mem_nil,or_false,not_or] at d5
    repeat rw [Ak _ _ (by omega)]
  all_goals (simp (disch:=omega) only [n2,m2,zld,go_sem])
 by_cases k6:d8.k=6∧d.k=6
 .have hb:=hb (.inr k6.1)
  have e:CZ (C0 doc q.picks) d8 d path=C0 doc q.picks d8 d path:=by rw [Db,iN k5,iP k6]
  rw [e] at Fw ⊢
  have hV:=fun Am n' (e1:RunS doc Am c kp gp P)=>H d8 d path Am c kp gp P n' sz k6.1 hd hb e1 Fw
  obtain ⟨R,AC⟩:=A7 (C0 doc q.picks d8 d path)
  rw [AC] at Fw hV ⊢
  have DV:=DV R
  have hc:=hR.hc
  have hk:=hR.hk
  have n5:¬d8.k=5:=by rw [k6.1];decide
  refine Cp func98 (tA cc98) (tB cc98) (tC cc98) rfl DV fun hf=>?_;unfold ck98
  obtain ⟨l1,l3⟩:=hR.lt hf
  simp (disch:=omega) only [dF n5,dT k6.1,dT k6.2,go_sem]
  refine Ac.x (hV _ _ (hR.of fun j hj=>by repeat rw [Ak _ _ (by omega)])) ?_
  simp only [Jv,zlh,zli]
  simp (disch:=omega) only [go_sem]
  refine IB ?_ ?_ fun j' MD j1 j3=>?_
  .simp (disch:=omega) only [n2,m2,go_sem]
  .simp (disch:=omega) only [n2,m2,go_sem]
  .simp only [AA]
   repeat rw [iN (by omega)]
 .have e:CZ (C0 doc q.picks) d8 d path=[]:=by rw [Db,iN k5,iN k6]
  rw [e] at Fw ⊢
  have DV:=DV []
  have hc:=hR.hc
  have hk:=hR.hk
  have j5:∀Am:CH,(∀j,j<n->gc Am j=gc hp j)->Up n (Jv doc c kp gp P []++hp) Am:=fun Am h=>by
   by_cases Fw:c<n∧kp<n
   .exact IB (by rw [h kp Fw.2,hk,zj];rfl) (by rw [h c Fw.1,hc];rfl) fun j hj _ _=>h j hj
   .intro j hj
    rw [h j hj]
    simp only [Jv,zlh,zli]
    by_cases e1:kp=j
    .subst e1;rw [Ar,hk,zj];rfl
    .rw [Ak _ _ e1]
     by_cases e2:c=j
     .subst e2;rw [Ar,hc];rfl
     .rw [Ak _ _ e2]
  refine Cp func98 (tA cc98) (tB cc98) (tC cc98) rfl DV fun hf=>?_;unfold ck98
  obtain ⟨l1,l3⟩:=hR.lt hf
  by_cases a5:d8.k=5
  .have n5:¬d.k=5:=fun h=>k5 ⟨a5,h⟩
   have n6:¬d8.k=6:=by rw [a5];decide
   simp (disch:=omega) only [dT a5,dF n5,dF n6,go_sem]
   refine j5 _ fun j' MD=>?_
   simp only [AA]
   repeat rw [iN (by omega)]
  .by_cases a6:d8.k=6
   .have n6:¬d.k=6:=fun h=>k6 ⟨a6,h⟩
    simp (disch:=omega) only [dF a5,dT a6,dF n6,go_sem]
    refine j5 _ fun j' MD=>?_
    simp only [AA]
    repeat rw [iN (by omega)]
   .simp (disch:=omega) only [dF a5,dF a6,go_sem]
    refine j5 _ fun j' MD=>?_
    simp only [AA]
    repeat rw [iN (by omega)]
