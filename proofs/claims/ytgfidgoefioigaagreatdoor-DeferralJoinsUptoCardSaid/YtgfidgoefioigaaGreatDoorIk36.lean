/- Proof. Conditions: none. -/
import Derived.Test.YtgfidgoefioigaaGreatDoorIk35
noncomputable section
open List renaming flatMap_eq_nil_iff->z2v,any_eq_true->z2w,mem_map->zq,map_map->z1q,map_congr_left->z1a,mem_filter->z13,length_eq_zero_iff->z1i,append_nil->zj,mem_cons_self->z19,mem_cons_of_mem->zx,nodup_cons->z1k,flatMap_cons->z12,mem_append->z1l,mem_append_left->z32
open Option renaming map_some->z7
open List renaming mem_of_getElem?->zla,getElem?_eq_some_iff->zlb,length_append->zld,append_assoc->zlf,getElem?_eq_getElem->zlg,map_cons->zln,length_take->zlo,getElem?_map->zlp,mem_map_of_mem->zls,mem_cons->zlw
namespace Go.Proofs.YtgfidgoefioigaaGreatDoor
open Go.Eng
set_option linter.all false
set_option maxRecDepth 20000
section
variable {doc:List Av} {v y x z d c W F:Ag} {tn k on:qB} {tw:List Int} {l:List Pk} {path I r:List Ag} {ps:List DM} {K:List qB} {i:Nat} {q:Pk} {H:qB->Ag}
inductive Fx (doc:List Av):Ag->qB->List Int->List Pk->Ag->Prop
 | nul (v:Ag) (tn:qB) (tw:List Int) (l:List Pk):v.k=0->Ga tw=false->Fx doc v tn tw l A8
 | list (v:Ag) (tn:qB) (tw:List Int) (l:List Pk) (ys:List Ag):v.k=5->Ca (B0 tw)=true->ys.length=v.items.length ->
   (∀(i:Nat) a b,v.items[i]?=some a->ys[i]?=some b->Fx doc a tn (Cg (B0 tw)) l b)->Fx doc v tn tw l (EB ys)
 | leaf (v:Ag) (tn:qB) (tw:List Int) (l:List Pk) (x:Ag):v.k≠0->v.k≠9->Ca (B0 tw)=false->CX doc tn=true->Ho doc tn v=some x->Fx doc v tn tw l x
 | obj (v:Ag) (tn:qB) (tw:List Int) (l:List Pk) (on:qB) (G:Pk->Ag):typO v=some on->Ca (B0 tw)=false->CX doc tn=false->FU doc tn=true->on∈Dj doc tn ->
   (∀p∈l,p.on=on->Fx doc (Ba v p) p.tn p.tw p.picks (G p)) ->
   Fx doc v tn tw l (Cw ((l.filter fun p=>decide (p.on=on)).map Pk.key) ((l.filter fun p=>decide (p.on=on)).map G))
theorem PH {α β:Type} (l:List α) (f:α->List β) (h:∀x∈l,f x=[]):l.flatMap f=[]:=z2v.2 h
theorem Fx.run (h:Fx doc v tn tw l y):(∀path,A6 doc v tn tw l path=(y,[]))∧Ex tw y=false:=by
 induction h with
 |nul v tn tw l h0 hn=>
  refine ⟨fun path=>?_,by simp [Ex,hn]⟩
  rw [EL,NF,iN (by rw [h0];decide),iP h0,H4,iN (by simp [hn])]
 |list v tn tw l ys h5 hl AZ hi ih=>
  refine ⟨fun path=>?_,by simp [Ex,EB,Ag.k_mk]⟩
  rw [EL,NF,iN (by rw [h5];decide),iN (by rw [h5];decide),iP hl,iP h5]
  have e:FN (v.items.map (A6 doc)) 0 tn (Cg (B0 tw)) l path=ys.map fun y=>(y,[]):=by
   apply List.ext_getElem?
   intro i
   rw [JE,zlp,zlp]
   rcases Nat.lt_or_ge i v.items.length with q | q
   .have e1:v.items[i]?=some v.items[i]:=zlg q
    have e2:ys[i]?=some ys[i]:=zlg (by omega)
    rw [e1,e2,z7,z7,z7,(ih i _ _ e1 e2).1]
   .rw [List.getElem?_eq_none q,List.getElem?_eq_none (by omega)]
    rfl
  unfold Gs
  rw [e]
  have n1:¬((ys.map fun y=>((y,[]):Ge)).any (fun r=>Ex (Cg (B0 tw)) r.1)=true):=by
   intro c
   obtain ⟨r,hr,c⟩:=z2w.1 c
   obtain ⟨y,hy,rfl⟩:=zq.1 hr
   obtain ⟨i,e2⟩:=List.getElem?_of_mem hy
   have q:i<v.items.length:=by have:=(zlb.1 e2).1;omega
   have:=(ih i _ _ (zlg q) e2).2
   dsimp only at c
   rw [this] at c
   cases c
  rw [iN n1,z1q]
  refine Prod.ext ?_ (PH _ _ fun r hr=>?_)
  .show EB _=EB ys
   congr 1
   exact List.map_id _
  .obtain ⟨y,_,rfl⟩:=zq.1 hr
   rfl
 |leaf v tn tw l x h0 h9 hl hb hx=>
  have:=MQ hx
  refine ⟨fun path=>?_,by simp [Ex];intro e;omega⟩
  rw [EL,NF,iN h9,iN h0,iN (by simp [hl]),iP hb,hx]
 |obj v tn tw l on G ho hl hb hc hp hi ih=>
  refine ⟨fun path=>?_,by simp [Ex,Cw,Ag.k_mk]⟩
  have h6:=IR ho
  rw [EL,NF,iN (by rw [h6];decide),iN (by rw [h6];decide),iN (by simp [hl]),iN (by simp [hb]),ho]
  dsimp only
  rw [iP ⟨hc,hp⟩]
  have e:Gd v.keys (v.items.map (A6 doc)) on path l=(l.filter fun p=>decide (p.on=on)).map fun p=>(p,(G p,[])):=by
   unfold Gd
   apply z1a
   intro p hp
   obtain ⟨h1,h2⟩:=z13.1 hp
   rw [FJ doc v h6]
   exact congrArg (Prod.mk p) ((ih p h1 (by simpa using h2)).1 _)
  unfold KH
  rw [e]
  have n1:¬(((l.filter fun p=>decide (p.on=on)).map fun p=>((p,(G p,[])):Pk×Ge)).any (fun r=>Ex r.1.tw r.2.1)=true):=by
   intro c
   obtain ⟨r,hr,c⟩:=z2w.1 c
   obtain ⟨p,hp,rfl⟩:=zq.1 hr
   obtain ⟨h1,h2⟩:=z13.1 hp
   have:=(ih p h1 (by simpa using h2)).2
   dsimp only at c
   rw [this] at c
   cases c
  rw [iN n1,z1q,z1q]
  refine Prod.ext rfl (PH _ _ fun r hr=>?_)
  obtain ⟨y,_,rfl⟩:=zq.1 hr
  rfl
theorem Fx.eq (h:Fx doc v tn tw l y) (path:List Ag):(A6 doc v tn tw l path).1=y:=by rw [h.run.1]
theorem Afk (doc:List Av) (v:Ag):∀tn tw l path,(A6 doc v tn tw l path).2=[]->Fx doc v tn tw l (A6 doc v tn tw l path).1:=by
 refine Ag.ind (Q:=fun v=>∀tn tw l path,(A6 doc v tn tw l path).2=[]->Fx doc v tn tw l (A6 doc v tn tw l path).1) (fun v ih tn tw l path=>?_) v
 have hz:∀tn tw l path,(A6 doc A8 tn tw l path).2=[]->Fx doc A8 tn tw l (A6 doc A8 tn tw l path).1:=fun tn tw l path h=>by
  rw [I9,zFn,H4] at h ⊢
  split at h
  .cases h
  .rename_i c
   rw [iN c]
   exact .nul _ _ _ _ rfl (by simpa using c)
 by_cases c9:v.k=9
 .intro h
  rw [EL,NF,iP c9] at h
  cases h
 refine F0 (Q:=fun r=>r.2=[]->Fx doc v tn tw l r.1) (fun s _ h=>by cases h) (fun c h=>?_) (fun c5 cl h=>?_) (fun c0 cl lf x hx _=>?_) (fun c6 cl lf on NK hc hpo h=>?_)
 .rw [H4] at h ⊢
  split at h
  .cases h
  .rename_i q
   rw [iN q]
   exact .nul _ _ _ _ c (by simpa using q)
 .dsimp only [Gs] at h ⊢
  have JJ:∀r∈FN (v.items.map (A6 doc)) 0 tn (Cg (B0 tw)) l path,∃i x,v.items[i]?=some x∧r=A6 doc x tn (Cg (B0 tw)) l (path++[Ff (0+i:Nat)])∧Fx doc x tn (Cg (B0 tw)) l r.1:=by
   intro r hr
   obtain ⟨i,f,e1,e2,_⟩:=N5 _ _ _ _ _ _ _ hr
   rw [zlp] at e1
   cases ex:v.items[i]? with
   |none=>rw [ex] at e1;cases e1
   |some x=>
    rw [ex] at e1
    cases e1
    have hn:r.2=[]:=z2v.1 h r hr
    refine ⟨i,x,ex,e2,?_⟩
    rw [e2] at hn ⊢
    exact ih x (zla ex) _ _ _ _ hn
  rw [iN]
  .refine .list v tn tw l _ c5 cl (by rw [List.length_map,J6,List.length_map]) fun i a b ha hb=>?_
   rw [zlp,JE,zlp,ha] at hb
   simp only [z7,Option.some.injEq] at hb
   have hr:A6 doc a tn (Cg (B0 tw)) l (path++[Ff (0+i:Nat)])∈FN (v.items.map (A6 doc)) 0 tn (Cg (B0 tw)) l path:=by
    refine zla (i:=i) ?_
    rw [JE,zlp,ha]
    rfl
   have hn:(A6 doc a tn (Cg (B0 tw)) l (path++[Ff (0+i:Nat)])).2=[]:=z2v.1 h _ hr
   rw [<-hb]
   exact ih a (zla ha) _ _ _ _ hn
  .intro c
   obtain ⟨r,hr,c⟩:=z2w.1 c
   obtain ⟨i,x,_,_,ho⟩:=JJ r hr
   rw [ho.run.2] at c
   cases c
 .exact .leaf v tn tw l x c0 c9 cl lf hx
 .dsimp only [KH] at h ⊢
  have JJ:∀p∈l,p.on=on->Fx doc (Ba v p) p.tn p.tw p.picks (A6 doc (Ba v p) p.tn p.tw p.picks (path++[CY p.key])).1:=by
   intro p hp Vi
   have hr:(p,itF v.keys (v.items.map (A6 doc)) p.key p.tn p.tw p.picks (path++[CY p.key]))∈Gd v.keys (v.items.map (A6 doc)) on path l :=
    zq.2 ⟨p,z13.2 ⟨hp,by simp [Vi]⟩,rfl⟩
   have hn:=z2v.1 h _ hr
   dsimp only at hn
   rw [FJ doc v c6] at hn
   exact JW (Q:=fun x=>∀tn tw l path,(A6 doc x tn tw l path).2=[]->Fx doc x tn tw l (A6 doc x tn tw l path).1) hz ih p.key _ _ _ _ hn
  rw [iN]
  .have e:Gd v.keys (v.items.map (A6 doc)) on path l=(l.filter fun p=>decide (p.on=on)).map fun p=>(p,A6 doc (Ba v p) p.tn p.tw p.picks (path++[CY p.key])):=by
    unfold Gd
    apply z1a
    intro p hp
    rw [FJ doc v c6]
    rfl
   rw [e,z1q,z1q]
   exact .obj v tn tw l on (fun p=>(A6 doc (Ba v p) p.tn p.tw p.picks (path++[CY p.key])).1) NK cl lf hc hpo JJ
  .intro c
   obtain ⟨r,hr,c⟩:=z2w.1 c
   obtain ⟨p,hp,rfl⟩:=zq.1 hr
   obtain ⟨h1,h2⟩:=z13.1 hp
   have:=(JJ p h1 (by simpa using h2)).run.2
   dsimp only at c
   rw [FJ doc v c6] at c
   rw [show (AB v p.key).getD A8=Ba v p from rfl,this] at c
   cases c
/-! ### Patches under a position -/
inductive GT (path:List Ag):List DM->Ag->Ag->Prop
 | nil (x:Ag):GT path [] x x
 | cons (P:DM) (ps:List DM) (r:List Ag) (x y z:Ag):P.p=path++r->P.q=[]->FT P.d r x=(y,0)->(AE x<=AE y∧AE P.d<=AE y)->GT path ps y z->GT path (P::ps) x z
theorem GT.app {qs:List DM} (h:GT path ps x y) (h2:GT path qs y z):GT path (ps++qs) x z:=by
 induction h with
 |nil=>exact h2
 |cons P ps r x y w h1 h3 h4 hw _ ih=>exact .cons P _ r x y z h1 h3 h4 hw (ih h2)
theorem GT.all (h:GT [] ps x z):Vp ps x=(z,0)∧∀p∈ps,p.q=[]:=by
 induction h with
 |nil=>exact ⟨rfl,fun p hp=>by cases hp⟩
 |cons P ps r x y z h1 h2 h3 _ _ ih=>
  obtain ⟨i1,i2⟩:=ih
  rw [List.nil_append] at h1
  refine ⟨?_,fun p hp=>?_⟩
  .rw [Vp,h1,h3]
   exact i1
  .rcases zlw.1 hp with rfl | hp
   .exact h2
   .exact i2 p hp
theorem Z1 (h0:0<=ix k K 0) (hz:I[(ix k K 0).toNat]?=some z) (h:FT d r z=(y,0)):FT d (CY k::r) (Cw K I)=(Cw K (I.set (ix k K 0).toNat y),0):=by
 have BL:=(zlb.1 hz).1
 have e:IE (Cw K I) (CY k)=ix k K 0:=by
  unfold IE
  rw [iP ⟨rfl,rfl⟩]
  exact iP (show ix k K 0<(I.length:Nat) by omega)
 rw [FT,iN (fun c=>absurd c.2.1 (show ¬(3:Int)=2 by decide)),iN (by rw [e];omega),e]
 have hz':(Cw K I).items[(ix k K 0).toNat]?=some z:=hz
 rw [hz']
 dsimp only
 rw [h,iP rfl]
 rfl
theorem Af8 (hz:I[i]?=some z) (h:FT d r z=(y,0)):FT d (Ff i::r) (EB I)=(EB (I.set i y),0):=by
 have BL:=(zlb.1 hz).1
 have e:IE (EB I) (Ff i)=i:=by
  unfold IE
  rw [iN (fun c=>absurd c.1 (show ¬(2:Int)=3 by decide))]
  exact iP ⟨rfl,rfl,show (0:Int)<=(i:Nat) by omega,show ((i:Nat):Int)<(I.length:Nat) by omega⟩
 rw [FT,iN (fun c=>by
  have:((i:Nat):Int)=(I.length:Nat):=c.2.2.2
  omega),iN (by rw [e];omega),e]
 have hz':(EB I).items[((i:Nat):Int).toNat]?=some z:=hz
 rw [hz']
 dsimp only
 rw [h,iP rfl]
 rfl
theorem WX:FT d [Ff I.length] (EB I)=(EB (I++[d]),0):=by
 rw [FT,iP ⟨rfl,rfl,rfl,rfl⟩]
 rfl
theorem P6 {α:Type} {I:List α} {z:α} (h:I[i]?=some z):I.set i z=I:=by
 apply List.ext_getElem?
 intro j
 by_cases c:i=j
 .subst c
  rw [List.getElem?_set_self (zlb.1 h).1,h]
 .rw [List.getElem?_set_ne c]
theorem Wb {c:Nat} {f:List Ag->Ag} (hz:I[i]?=some z) (hw:AE z<=AE y∧AE d<=AE y) (hf:∀L,AE (f L)=1+BF L+c):AE (f I)<=AE (f (I.set i y))∧AE d<=AE (f (I.set i y)):=by
 have h1:=MM y I i z hz
 have h2:=BS (zla (List.getElem?_set_self (a:=y) (zlb.1 hz).1))
 rw [hf,hf]
 omega
theorem Aaw (I:List Ag) (d:Ag):AE (EB I)<=AE (EB (I++[d]))∧AE d<=AE (EB (I++[d])):=by
 rw [A9,A9 (EB (I++[d]))]
 simp only [EB,Ag.items_mk,Ag.keys_mk,List.length_nil,If,BF]
 omega
theorem GT.key (h:GT (path++[CY k]) ps z W):∀{K:List qB} {I:List Ag},0<=ix k K 0->I[(ix k K 0).toNat]?=some z->GT path ps (Cw K I) (Cw K (I.set (ix k K 0).toNat W)):=by
 induction h with
 |nil x=>
  intro K I h0 hz
  rw [P6 hz]
  exact .nil _
 |cons Q ps r x y z h1 h2 h3 hw _ ih=>
  intro K I h0 hz
  have:=ih (K:=K) (I:=I.set (ix k K 0).toNat y) h0 (List.getElem?_set_self (zlb.1 hz).1)
  rw [List.set_set] at this
  refine .cons Q ps (CY k::r) _ _ _ (by rw [h1,zlf];rfl) h2 (Z1 h0 hz h3) (Wb (c:=K.length) hz hw (fun L=>by rw [A9];rfl)) this
theorem GT.at5 (h:GT (path++[Ff i]) ps z W):∀{I:List Ag},I[i]?=some z->GT path ps (EB I) (EB (I.set i W)):=by
 induction h with
 |nil x=>
  intro I hz
  rw [P6 hz]
  exact .nil _
 |cons Q ps r x y z h1 h2 h3 hw _ ih=>
  intro I hz
  have:=ih (I:=I.set i y) (List.getElem?_set_self (zlb.1 hz).1)
  rw [List.set_set] at this
  refine .cons Q ps (Ff i::r) _ _ _ (by rw [h1,zlf];rfl) h2 (Af8 hz h3) (Wb (c:=0) hz hw (fun L=>by rw [A9];rfl)) this
inductive Li:Ag->Ag->Prop
 | refl (v:Ag):Li v v
 | list (xs ys:List Ag):xs.length=ys.length->(∀(i:Nat) a b,xs[i]?=some a->ys[i]?=some b->Li a b)->Li (EB xs) (EB ys)
 | obj (K L:List qB) (G H:qB->Ag):K.Perm L->K.Nodup->(∀k∈K,Li (G k) (H k))->Li (Cw K (K.map G)) (Cw L (L.map H))
/-! ### Lists -/
theorem RW {α:Type} (a b:List α) (y W:α):(a++y::b).set a.length W=(a++[W])++b:=by
 rw [List.set_append_right _ _ (Nat.le_refl _),Nat.sub_self,zlf]
 rfl
theorem To {α:Type} (a b:List α) (y:α):(a++y::b)[a.length]?=some y:=by
 rw [List.getElem?_append_right (Nat.le_refl _),Nat.sub_self]
 rfl
theorem Nb (f:PF):∀(xs ys zs pre:List Ag) (path:List Ag),ys.length=xs.length->zs.length=xs.length->(∀(i:Nat) a b c,xs[i]?=some a->ys[i]?=some b->zs[i]?=some c->∀path,∃W,GT path (CZ f a b path) b W∧Li W c) ->
 ∃Ws,Ws.length=zs.length∧(∀(i:Nat) W c,Ws[i]?=some W->zs[i]?=some c->Li W c)∧GT path (Hv f xs ys pre.length path) (EB (pre++ys)) (EB (pre++Ws))
 | [],ys,zs,pre,path,h1,h2,h=>by
  have:ys=[]:=z1i.1 h1
  subst this
  have:zs=[]:=z1i.1 h2
  subst this
  rw [Hv]
  exact ⟨[],rfl,fun i W c hW=>by simp at hW,.nil _⟩
 |x::xs,ys,zs,pre,path,h1,h2,h=>by
  obtain ⟨y,ys,rfl⟩:∃y r,ys=y::r:=by cases ys with | nil=>cases h1 | cons y r=>exact ⟨y,r,rfl⟩
  obtain ⟨z,zs,rfl⟩:∃y r,zs=y::r:=by cases zs with | nil=>cases h2 | cons y r=>exact ⟨y,r,rfl⟩
  obtain ⟨W,m1,q1⟩:=h 0 x y z rfl rfl rfl (path++[Ff (pre.length:Nat)])
  obtain ⟨Ws,l1,q2,m2⟩:=Nb f xs ys zs (pre++[W]) path (by simpa using h1) (by simpa using h2) fun i a b c ha hb hc=>h (i+1) a b c (by simpa using ha) (by simpa using hb) (by simpa using hc)
  refine ⟨W::Ws,by simp [l1],fun i a b ha hb=>?_,?_⟩
  .cases i with
   |zero=>cases ha;cases hb;exact q1
   |succ i=>exact q2 i a b (by simpa using ha) (by simpa using hb)
  .rw [Hv]
   have m3:=m1.at5 (I:=pre++y::ys) (To _ _ _)
   rw [RW] at m3
   rw [zld,show pre++[W]++Ws=pre++W::Ws by simp] at m2
   exact m3.app m2
theorem XK {cut:Ag->Ag} {f:PF} {key:qB} {one:Pk} (E:Ag->Ag):∀(xs zs pre:List Ag) (CP:List Ag),zs.length=xs.length ->
 (∀(i:Nat) a c,xs[i]?=some a->zs[i]?=some c->((AB (A6 doc (Cw [sT,key] [CY on,cut a]) on [] [one] []).1 key).getD A8)=E a∧(A6 doc (Cw [sT,key] [CY on,cut a]) on [] [one] []).2=[]∧∀path,∃W,GT path (CZ f a (E a) path) (E a) W∧Li W c) ->
 ∃Ws,Ws.length=zs.length∧(∀(i:Nat) W c,Ws[i]?=some W->zs[i]?=some c->Li W c)∧GT CP (H5 doc cut f on key one CP xs pre.length) (EB pre) (EB (pre++Ws))
 | [],zs,pre,CP,h2,h=>by
  have:zs=[]:=z1i.1 h2
  subst this
  rw [H5]
  exact ⟨[],rfl,fun i W c hW=>by simp at hW,by rw [zj];exact .nil _⟩
 |x::xs,zs,pre,CP,h2,h=>by
  obtain ⟨z,zs,rfl⟩:∃y r,zs=y::r:=by cases zs with | nil=>cases h2 | cons y r=>exact ⟨y,r,rfl⟩
  obtain ⟨e1,e2,h3⟩:=h 0 x z rfl rfl
  obtain ⟨W,m1,q1⟩:=h3 (CP++[Ff (pre.length:Nat)])
  obtain ⟨Ws,l1,q2,m2⟩:=XK E xs zs (pre++[W]) CP (by simpa using h2) fun i a c ha hc=>h (i+1) a c (by simpa using ha) (by simpa using hc)
  refine ⟨W::Ws,by simp [l1],fun i a b ha hb=>?_,?_⟩
  .cases i with
   |zero=>cases ha;cases hb;exact q1
   |succ i=>exact q2 i a b (by simpa using ha) (by simpa using hb)
  .rw [H5,e1,e2]
   have m3:=m1.at5 (I:=pre++[E x]) (To _ _ _)
   rw [RW,zj] at m3
   rw [zld,show pre++[W]++Ws=pre++W::Ws by simp] at m2
   exact .cons _ _ [Ff (pre.length:Nat)] _ (EB (pre++[E x])) _ rfl rfl WX (Aaw _ _) (m3.app m2)
theorem Fx.k5 (h:Fx doc v tn tw l F) (h5:v.k=5) :
 ∃ys,F=EB ys∧Ca (B0 tw)=true∧ys.length=v.items.length∧∀(i:Nat) a b,v.items[i]?=some a->ys[i]?=some b->Fx doc a tn (Cg (B0 tw)) l b:=by
 cases h with
 |nul _ _ _ _ h0=>rw [h5] at h0;exact absurd h0 (by decide)
 |list _ _ _ _ ys _ hl hn hi=>exact ⟨ys,rfl,hl,hn,hi⟩
 |leaf _ _ _ _ x _ _ _ _ hx=>rw [Pg doc tn (.inl h5)] at hx;cases hx
 |obj _ _ _ _ on G ho=>have:=IR ho;rw [h5] at this;exact absurd this (by decide)
theorem Fx.k6 (h:Fx doc v tn tw l F) (h6:v.k=6) :
 ∃on G,typO v=some on∧Ca (B0 tw)=false∧CX doc tn=false∧FU doc tn=true∧on∈Dj doc tn∧(∀p∈l,p.on=on->Fx doc (Ba v p) p.tn p.tw p.picks (G p)) ∧
  F=Cw ((l.filter fun p=>decide (p.on=on)).map Pk.key) ((l.filter fun p=>decide (p.on=on)).map G):=by
 cases h with
 |nul _ _ _ _ h0=>rw [h6] at h0;exact absurd h0 (by decide)
 |list _ _ _ _ ys h5=>rw [h6] at h5;exact absurd h5 (by decide)
 |leaf _ _ _ _ x _ _ _ _ hx=>rw [Pg doc tn (.inr h6)] at hx;cases hx
 |obj _ _ _ _ on G ho h1 h2 h3 h4 h5=>exact ⟨on,G,ho,h1,h2,h3,h4,h5,rfl⟩
def SS (doc:List Av) (l:List Pk) (v:Ag) (tn:qB) (tw:List Int):Ag:=(A6 doc (AY l v) tn tw (AP l) []).1
def Mg (doc:List Av) (v:Ag):Prop:=∀(l:List Pk) (tn:qB) (tw:List Int) (F:Ag),HC l->Fx doc v tn tw (B8 l) F ->
 Fx doc (AY l v) tn tw (AP l) (SS doc l v tn tw)∧∀path,∃W,GT path (CZ (C0 doc l) v (SS doc l v tn tw) path) (SS doc l v tn tw) W∧Li W F
theorem Wg (h:∃y,Fx doc (AY l v) tn tw (AP l) y∧∀path,∃W,GT path (CZ (C0 doc l) v y path) y W∧Li W F) :
 Fx doc (AY l v) tn tw (AP l) (SS doc l v tn tw)∧∀path,∃W,GT path (CZ (C0 doc l) v (SS doc l v tn tw) path) (SS doc l v tn tw) W∧Li W F:=by
 obtain ⟨y,h1,h2⟩:=h
 have:SS doc l v tn tw=y:=h1.eq []
 rw [this]
 exact ⟨h1,h2⟩
theorem Rf (h5:v.k≠5) (h6:v.k≠6):AY l v=v:=by unfold AY;rw [F5,iN h5,iN h6]
theorem Th (doc:List Av) (h5:v.k≠5) (h6:v.k≠6):Mg doc v:=fun l tn tw F hn h=>by
 refine Wg ⟨F,?_,fun path=>⟨F,?_,.refl _⟩⟩
 .rw [Rf h5 h6]
  cases h with
  |nul _ _ _ _ h0 hw=>exact .nul _ _ _ _ h0 hw
  |list _ _ _ _ ys e=>exact absurd e h5
  |leaf _ _ _ _ _ a b c d e=>exact .leaf _ _ _ _ _ a b c d e
  |obj _ _ _ _ on G ho=>exact absurd (IR ho) h6
 .rw [Db,iN (fun c=>h5 c.1),iN (fun c=>h6 c.1)]
  exact .nil _
theorem C6 {α β:Type} {f:α->β} {l:List α} {b:β} (h:(l.map f)[i]?=some b):∃a,l[i]?=some a∧b=f a:=by
 rw [zlp] at h
 cases e:l[i]? with
 |none=>rw [e] at h;cases h
 |some a=>rw [e] at h;cases h;exact ⟨a,rfl,rfl⟩
theorem Abs (hn:HC l) {xs zs:List Ag} (hI:∀x∈xs,Mg doc x) (h:∀(i:Nat) a b,xs[i]?=some a->zs[i]?=some b->Fx doc a tn tw (B8 l) b) {a:Ag} (ha:xs[i]?=some a) (hc:zs[i]?=some c) :
 Fx doc (AY l a) tn tw (AP l) (SS doc l a tn tw)∧∀path,∃W,GT path (CZ (C0 doc l) a (SS doc l a tn tw) path) (SS doc l a tn tw) W∧Li W c :=
 hI a (zla ha) l tn tw c hn (h i a c ha hc)
theorem Aa5 (doc:List Av) (h5:v.k=5) (hI:∀x∈v.items,Mg doc x):Mg doc v:=fun l tn tw F hn h=>by
 obtain ⟨zs,rfl,hl,AZ,hi⟩:=h.k5 h5
 have he:∀{i:Nat} {a c:Ag},v.items[i]?=some a->zs[i]?=some c->_:=fun {i a c} ha hc=>Abs hn hI hi ha hc
 refine Wg ⟨EB (v.items.map fun a=>SS doc l a tn (Cg (B0 tw))),?_,fun path=>?_⟩
 .rw [Yv h5]
  refine .list _ _ _ _ _ rfl hl (by simp [Ag.items_mk]) fun i a b ha hb=>?_
  obtain ⟨x,hx,rfl⟩:=C6 ha
  obtain ⟨x',hx',rfl⟩:=C6 hb
  rw [hx] at hx'
  cases hx'
  have q:i<zs.length:=by rw [AZ];exact (zlb.1 hx).1
  exact (he hx (zlg q)).1
 .rw [Db,iP ⟨h5,rfl⟩]
  obtain ⟨Ws,l1,q1,m1⟩:=Nb (C0 doc l) v.items (v.items.map fun a=>SS doc l a tn (Cg (B0 tw))) zs [] path (by simp) AZ fun i a b c ha hb hc path=>by
   obtain ⟨x',hx',rfl⟩:=C6 hb
   rw [ha] at hx'
   cases hx'
   exact (he ha hc).2 path
  exact ⟨EB Ws,m1,.list _ _ l1 q1⟩
theorem Aar {w:List Int} (h:Ca w=true):B0 (B0 w)=B0 w:=by
 have h2:(B0 w).head?=some 2:=by simpa [Ca] using h
 have h3:Ga (B0 w)=false:=by simp [Ga,h2]
 rw [B0,iN (by simp [h3])]
theorem YE {ini:Int} (hk:q.key≠sT) (NK:q.on=on) (FP:on∈Dj doc on) (hc:FU doc on=true) (hl:CX doc on=false)
 (h:Fx doc c (Cx q ini).tn (Cx q ini).tw (AP q.picks) y):Fx doc (Cw [sT,q.key] [CY on,c]) on [] [Cx q ini] (Cw [q.key] [y]):=by
 have g:=V2 (key:=q.key) (on:=on) hk c
 have ht:typO (Cw [sT,q.key] [CY on,c])=some on:=by
  unfold typO
  rw [g.1]
  rfl
 have:=Fx.obj (doc:=doc) (Cw [sT,q.key] [CY on,c]) on [] [Cx q ini] on (fun _=>y) ht rfl hl hc FP fun p hp Vi=>by
  rw [List.mem_singleton.1 hp]
  have:Ba (Cw [sT,q.key] [CY on,c]) (Cx q ini)=c:=by
   unfold Ba
   rw [show (Cx q ini).key=q.key from rfl,g.2]
   rfl
  rw [this]
  exact h
 rw [List.filter_cons_of_pos (by simp [show (Cx q ini).on=q.on from rfl,NK])] at this
 exact this
theorem Agu (hM:Mg doc (Ba v q)) (hI:∀x∈(Ba v q).items,Mg doc x) (hN:HC q.picks) (h1:-1<=q.initial) (hk:q.key≠sT) (hs:0<=q.initial->Ca q.tw=true) (NK:typF v=q.on)
 (FP:q.on∈Dj doc q.on) (hcomp:FU doc q.on=true) (hleaf:CX doc q.on=false) (h:Fx doc (Ba v q) q.tn q.tw (B8 q.picks) F) :
 ∃y,Fx doc (AY q.picks (BM q (Ba v q))) q.tn q.tw (AP q.picks) y∧∀data path,Ba data q=y->∃W,GT (path++[CY q.key]) (C4 doc q v data path) y W∧Li W F:=by
 obtain ⟨x,hx⟩:=A7 (Ba v q)
 rw [hx] at hM hI h
 by_cases c:q.initial=-1∨¬x.k=5
 .have e:BM q x=x:=by
   rcases c with c | c
   .exact Aje c x
   .exact iN c
  obtain ⟨m1,m2⟩:=hM _ _ _ _ hN h
  rw [hx,e]
  refine ⟨_,m1,fun data path hd=>?_⟩
  rw [GP,NW,hx,hd,iP (by rcases c with c | c;exact .inl c;exact .inr (.inr c))]
  exact m2 _
 .have c1:¬q.initial=-1:=fun e=>c (.inl e)
  have h5:x.k=5:=Classical.byContradiction fun e=>c (.inr e)
  have h0:0<=q.initial:=by omega
  have hlw:=hs h0
  obtain ⟨zs,rfl,hl,AZ,hi⟩:=h.k5 h5
  have he:∀{i:Nat} {a c:Ag},x.items[i]?=some a->zs[i]?=some c->_:=fun {i a c} ha hc=>Abs hN hI hi ha hc
  obtain ⟨n,T2⟩:=A7 (NT q.initial x.items.length)
  have NI:n<=x.items.length:=by
   rw [<-T2]
   unfold NT
   rw [iN c1]
   omega
  obtain ⟨U,hU⟩:∃U:Ag->Ag,U=fun a=>SS doc q.picks a q.tn (Cg (B0 q.tw)):=⟨_,rfl⟩
  have he:∀{i:Nat} {a c:Ag},x.items[i]?=some a->zs[i]?=some c->Fx doc (AY q.picks a) q.tn (Cg (B0 q.tw)) (AP q.picks) (U a)∧∀path,∃W,GT path (CZ (C0 doc q.picks) a (U a) path) (U a) W∧Li W c:=fun {i a c} ha hc=>by
   rw [hU];exact he ha hc
  have hz:∀{i:Nat} {a:Ag},x.items[i]?=some a->∃c,zs[i]?=some c:=fun {i a} ha=>by
   have q:i<zs.length:=by rw [AZ];exact (zlb.1 ha).1
   exact ⟨_,zlg q⟩
  have h5':(BM q x).k=5:=by rw [Zu];exact h5
  have hit:(BM q x).items=x.items.take n:=by rw [Aec h5,T2]
  rw [hx]
  refine ⟨EB ((x.items.take n).map U),?_,fun data path hd=>?_⟩
  .rw [Yv h5',hit]
   refine .list _ _ _ _ _ rfl hl (by simp [Ag.items_mk]) fun i a b ha hb=>?_
   obtain ⟨w,hw,rfl⟩:=C6 ha
   obtain ⟨w',hw',rfl⟩:=C6 hb
   rw [hw] at hw'
   cases hw'
   have hw2:x.items[i]?=some w:=by
    rw [List.getElem?_take] at hw
    split at hw
    .exact hw
    .cases hw
   obtain ⟨c,hc⟩:=hz hw2
   exact (he hw2 hc).1
  .rw [GP,NW,hx,hd,iN (by rintro (e | e | e);exact c1 e;exact e rfl;exact e h5),T2,NK]
   have k1:(zs.take n).length=(x.items.take n).length:=by rw [zlo,zlo,AZ]
   have k2:(zs.drop n).length=(x.items.drop n).length:=by rw [List.length_drop,List.length_drop,AZ]
   obtain ⟨W1,l1,q1,m1⟩:=Nb (C0 doc q.picks) (x.items.take n) ((x.items.take n).map U) (zs.take n) [] (path++[CY q.key]) (by simp) k1 fun i a b c ha hb hc path=>by
    obtain ⟨w',hw',rfl⟩:=C6 hb
    rw [ha] at hw'
    cases hw'
    rw [List.getElem?_take] at ha hc
    split at ha
    .rename_i q
     rw [iP q] at hc
     exact (he ha hc).2 path
    .cases ha
   have l1n:W1.length=n:=by rw [l1,zlo,AZ];omega
   obtain ⟨W2,l2,q2,m2⟩:=XK (doc:=doc) (cut:=FH q) (f:=C0 doc q.picks) (on:=q.on) (key:=q.key) (one:=Cx q q.initial) U (x.items.drop n) (zs.drop n) W1 (path++[CY q.key]) k2 fun i a c ha hc=>by
    rw [List.getElem?_drop] at ha hc
    obtain ⟨g1,g2⟩:=he ha hc
    have o:=YE (doc:=doc) (on:=q.on) (q:=q) (ini:=q.initial) hk rfl FP hcomp hleaf (c:=FH q a) (y:=U a) (by
     rw [Eg]
     show Fx doc _ (if Ca q.tw=true then q.tn else ⟨#[]⟩) (if Ca q.tw=true then Cg q.tw else []) _ _
     rw [iP hlw,iP hlw]
     have:Cg q.tw=Cg (B0 q.tw):=by
      unfold Cg
      rw [Aar hlw]
     rw [this]
     exact g1)
    refine ⟨?_,?_,g2⟩
    .rw [o.eq]
     rw [Ow (K:=[q.key]) (L:=[U a]) (i:=0) (by simp) rfl rfl]
     rfl
    .rw [o.run.1]
   rw [l1n] at m2
   refine ⟨EB (W1++W2),?_,?_⟩
   .rw [Db,iP ⟨rfl,rfl⟩]
    exact m1.app m2
   .rw [<-List.take_append_drop n zs]
    refine .list _ _ (by rw [zld,zld,l1,l2]) fun i a b ha hb=>?_
    rcases Nat.lt_or_ge i n with q | q
    .rw [List.getElem?_append_left (by omega)] at ha
     rw [List.getElem?_append_left (by rw [<-l1];omega)] at hb
     exact q1 i a b ha hb
    .rw [List.getElem?_append_right (by omega),l1n] at ha
     rw [List.getElem?_append_right (by rw [<-l1];omega),<-l1,l1n] at hb
     exact q2 _ a b ha hb
theorem PJ (t:Av) (name on:qB):∀(l:List Av) (seen:List qB),on∈E0 t name seen l->on ∉ seen∧∃x,Ay l on=some x∧x.k=1
 | [],seen,h=>by simp [E0] at h
 |x::r,seen,h=>by
  rw [E0] at h
  have key:on∈E0 t name (seen++[x.n]) r->on ∉ seen∧∃y,Ay (x::r) on=some y∧y.k=1:=fun h=>by
   obtain ⟨h1,y,h2,h3⟩:=PJ t name on r _ h
   have B1:x.n≠on:=fun e=>h1 (by simp [e])
   refine ⟨fun q=>h1 (by simp [q]),y,?_,h3⟩
   unfold Ay at h2 ⊢
   rw [List.find?_cons_of_neg (by simp [B1])]
   exact h2
  split at h
  .rename_i c
   rcases zlw.1 h with h | h
   .subst h
    refine ⟨c.1,x,?_,c.2.1⟩
    unfold Ay
    exact List.find?_cons_of_pos (by simp)
   .exact key h
  .exact key h
theorem SW (t:Av) (name on:qB) (y:Av) (hk:y.k=1) (hb:Jy t name y=true):∀(l:List Av) (seen:List qB),on ∉ seen->Ay l on=some y->on∈E0 t name seen l
 | [],seen,_,h=>by simp [Ay] at h
 |x::r,seen,hs,h=>by
  rw [E0]
  by_cases c:x.n=on
  .have:x=y:=by
    unfold Ay at h
    rw [List.find?_cons_of_pos (by simp [c])] at h
    exact Option.some.inj h
   subst this
   rw [iP ⟨by rw [c];exact hs,hk,hb⟩,c]
   exact z19 ..
  .have h2:Ay r on=some y:=by
    unfold Ay at h ⊢
    rw [List.find?_cons_of_neg (by simp [c])] at h
    exact h
   have ih:=SW t name on y hk hb r (seen++[x.n]) (by simp [hs];exact fun e=>c e.symm) h2
   split
   .exact zx _ ih
   .exact ih
theorem YQ (hS:∀t∈doc,BV t.n=false) (h:on∈Dj doc tn):on∈Dj doc on∧FU doc on=true∧CX doc on=false:=by
 unfold Dj at h
 split at h
 .simp at h
 .rename_i t ht
  obtain ⟨_,x,h1,h2⟩:=PJ t tn on doc [] h
  have hx:x∈doc∧x.n=on:=by
   unfold Ay at h1
   exact ⟨List.mem_of_find?_eq_some h1,by simpa using List.find?_some h1⟩
  have hsc:BV on=false:=by rw [<-hx.2];exact hS x hx.1
  have hkd:Fq doc on=1:=by unfold Fq;rw [h1];exact h2
  refine ⟨?_,by simp [FU,hsc,hkd],by simp [CX,hsc,hkd]⟩
  unfold Dj
  rw [h1]
  exact SW x on on x h2 (by simp [Jy,h2,hx.2]) doc [] (by simp) h1
theorem Zq {p:Pk} (h:p∈AP l):∃q∈l,q.label=⟨#[]⟩∧p=G4 q:=by
 rw [CA] at h
 obtain ⟨q,hq,rfl⟩:=zq.1 h
 obtain ⟨h1,h2⟩:=z13.1 hq
 exact ⟨q,h1,by simpa using h2,rfl⟩
def Bz (on:qB) (l:List Pk) (n:qB):List qB:=(AN on n l).map Pk.key
theorem OT (on:qB) (l:List Pk):((AP l).filter fun p=>decide (p.on=on)).map Pk.key=Bz on l ⟨#[]⟩:=by
 unfold Bz AN
 rw [CA,List.filter_map,z1q,z1q,List.filter_filter]
 have e1:(Pk.key ∘ G4)=Pk.key:=funext fun q=>(I2 q).2.1
 have e2:(Pk.key ∘ Es)=Pk.key:=rfl
 rw [e1,e2]
 congr 1
 apply List.filter_congr
 intro q _
 show (decide ((G4 q).on=on)&&_)=_
 rw [(I2 q).1]
theorem SY {A:List Pk} {T:qB} {Y:qB->Ag} (hA:HC A) (ho:typO v=some on) (hl:Ca (B0 tw)=false) (hb:CX doc T=false) (hc:FU doc T=true) (hp:on∈Dj doc T)
 (h:∀q∈A,q.on=on->Fx doc (AY q.picks (BM q (Ba v q))) q.tn q.tw (AP q.picks) (Y q.key)) :
 Fx doc (AY A v) T tw (AP A) (Cw (Bz on A ⟨#[]⟩) ((Bz on A ⟨#[]⟩).map Y)):=by
 have h6:=IR ho
 have:=Fx.obj (doc:=doc) (AY A v) T tw (AP A) on (fun p=>Y p.key) (by rw [Wi hA v h6];exact ho) hl hb hc hp fun p hp Vi=>by
  obtain ⟨q,hq,T0,rfl⟩:=Zq hp
  obtain ⟨f1,f2,f3,f4,f5⟩:=I2 q
  rw [f1] at Vi
  have e:Ba (AY A v) (G4 q)=AY q.picks (BM q (Ba v q)):=by
   show (AB (AY A v) (G4 q).key).getD A8=_
   rw [f2]
   exact W5 hA h6 hq (by rw [V1 ho];exact Vi) T0
  rw [e,f2,f3,f4,f5]
  exact h q hq Vi
 rw [OT] at this
 have e:((AP A).filter fun p=>decide (p.on=on)).map (fun p=>Y p.key)=(Bz on A ⟨#[]⟩).map Y:=by
  rw [<-OT,z1q]
  rfl
 rw [e] at this
 exact this
theorem XJ (hn:HC l) (on:qB) (G:Pk->Ag):∃f:qB->Ag,∀q∈l,q.on=on->f q.key=G q:=by
 refine ⟨fun k=>((l.find? fun q=>decide (q.on=on)&&decide (q.key=k)).map G).getD A8,fun q hq T1=>?_⟩
 dsimp only
 cases e:l.find? fun p=>decide (p.on=on)&&decide (p.key=q.key) with
 |none=>
  have:=List.find?_eq_none.1 e q hq
  simp [T1] at this
 |some p=>
  have h1:=List.mem_of_find?_eq_some e
  have h2:=List.find?_some e
  simp only [Bool.and_eq_true,decide_eq_true_eq] at h2
  rw [hn.one h1 hq (by rw [h2.1,T1]) h2.2]
  rfl
theorem SV:∀(K:List qB) (i:Nat),K.Nodup->K[i]?=some k->(K.map H).set i W=K.map fun x=>if x=k then W else H x
 | [],i,_,h=>by simp at h
 |a::K,0,hn,h=>by
  simp at h
  subst h
  rw [z1k] at hn
  rw [zln,List.set_cons_zero,zln,iP rfl]
  congr 1
  apply z1a
  intro x hx
  have B1:¬x=a:=fun e=>hn.1 (by rw [<-e];exact hx)
  rw [iN B1]
 |a::K,i+1,hn,h=>by
  rw [List.getElem?_cons_succ] at h
  rw [z1k] at hn
  have ha:a≠k:=fun e=>hn.1 (by rw [e];exact zla h)
  rw [zln,List.set_cons_succ,zln,iN ha,SV K i hn.2 h]
theorem V3:∀(A K:List qB),(K++A).Nodup->NR A (A.map H) K (K.map H)=some (K++A,(K++A).map H)
 | [],K,_=>by rw [zj,List.map_nil,NR]
 |a::A,K,hn=>by
  have h1:(K++[a]++A).Nodup:=by rw [zlf];exact hn
  have h2:a ∉ K:=fun h=>by
   rw [List.nodup_append] at hn
   exact hn.2.2 a h a (z19 ..) rfl
  rw [zln,NR,iN (fun c=>h2 ((Kq a K 0).1 c)),show K.map H++[H a]=(K++[a]).map H by simp,V3 A (K++[a]) h1,zlf]
  rfl
def FOk (doc:List Av) (v data:Ag) (Yk Fk:qB->Ag) (q:Pk):Prop:=∀path,∃W,GT (path++[CY q.key]) (C4 doc q v data path) (Yk q.key) W∧Li W (Fk q.key)
theorem Nj {data:Ag} {Yk Fk:qB->Ag}:∀(B:List Pk) (K:List qB) (H:qB->Ag),(∀q∈B,q.key∈K∧H q.key=Yk q.key∧FOk doc v data Yk Fk q)->(B.map Pk.key).Nodup->K.Nodup ->
 ∃H':qB->Ag,(∀k,k ∉ B.map Pk.key->H' k=H k)∧(∀k∈B.map Pk.key,Li (H' k) (Fk k))∧GT path (B.flatMap fun q=>C4 doc q v data path) (Cw K (K.map H)) (Cw K (K.map H'))
 | [],K,H,_,_,_=>⟨H,fun _ _=>rfl,fun k hk=>by simp at hk,.nil _⟩
 |q::B,K,H,h,hn,hK=>by
  obtain ⟨hk,hH,hF⟩:=h q (z19 ..)
  rw [zln,z1k] at hn
  obtain ⟨W,m1,e1⟩:=hF path
  have h0:0<=ix q.key K 0:=(Kq q.key K 0).2 hk
  have hg:=Ni h0
  have m2:=m1.key (K:=K) (I:=K.map H) h0 (by rw [zlp,hg,z7,hH])
  rw [SV K _ hK hg] at m2
  have B1:∀p∈B,p.key≠q.key:=fun p hp e=>hn.1 (by rw [<-e];exact zls hp)
  obtain ⟨H',g1,g2,m3⟩:=Nj B K (fun x=>if x=q.key then W else H x) (fun p hp=>by
   obtain ⟨a1,a2,a3⟩:=h p (zx _ hp)
   exact ⟨a1,by rw [iN (B1 p hp)];exact a2,a3⟩) hn.2 hK
  refine ⟨H',fun k hk=>?_,fun k hk=>?_,?_⟩
  .rw [zln,zlw] at hk
   rw [g1 k fun e=>hk (.inr e),iN fun e=>hk (.inl e)]
  .rw [zln,zlw] at hk
   by_cases c:k∈B.map Pk.key
   .exact g2 k c
   .rcases hk with rfl | hk
    .rw [g1 _ c,iP rfl]
     exact e1
    .exact absurd hk c
  .rw [z12]
   exact m2.app m3
def XV (doc:List Av) (l:List Pk) (v:Ag) (on:qB) (path:List Ag) (name:qB):List DM :=
 .mk name path (A6 doc (AY (AN on name l) v) on [] (AP (AN on name l)) []).1 (Gb (A6 doc (AY (AN on name l) v) on [] (AP (AN on name l)) []).2 path 0) ::
  (if (A6 doc (AY (AN on name l) v) on [] (AP (AN on name l)) []).1.k=6 then (AN on name l).flatMap (fun q=>C4 doc q v (A6 doc (AY (AN on name l) v) on [] (AP (AN on name l)) []).1 path) else [])
theorem Sv {doc:List Av} {l:List Pk} {v:Ag} {on:qB} {Yk Fk:qB->Ag} {path:List Ag} (hd:∀n n' k,n≠n'->k∈Bz on l n->k ∉ Bz on l n') (hnd:∀n,(Bz on l n).Nodup) :
 ∀(ns:List qB),ns.Nodup->(∀n∈ns,A6 doc (AY (AN on n l) v) on [] (AP (AN on n l)) []=(Cw (Bz on l n) ((Bz on l n).map Yk),[])∧∀q∈AN on n l,FOk doc v (Cw (Bz on l n) ((Bz on l n).map Yk)) Yk Fk q) ->
 ∀(K:List qB) (H:qB->Ag),K.Nodup->(∀n∈ns,∀k∈Bz on l n,k ∉ K∧H k=Yk k) ->
 ∃H':qB->Ag,(∀k,(∀n∈ns,k ∉ Bz on l n)->H' k=H k)∧(∀n∈ns,∀k∈Bz on l n,Li (H' k) (Fk k))∧(K++ns.flatMap (Bz on l)).Nodup ∧
  GT path (ns.flatMap (XV doc l v on path)) (Cw K (K.map H)) (Cw (K++ns.flatMap (Bz on l)) ((K++ns.flatMap (Bz on l)).map H'))
 | [],_,_,K,H,hK,_=>⟨H,fun _ _=>rfl,fun n hn=>by simp at hn,by simpa using hK,by rw [List.flatMap_nil,List.flatMap_nil,zj];exact .nil _⟩
 |n::ns,LM,h,K,H,hK,hk=>by
  rw [z1k] at LM
  obtain ⟨c1,c2⟩:=h n (z19 ..)
  have MB:=hk n (z19 ..)
  have hK1:(K++Bz on l n).Nodup:=by
   rw [List.nodup_append]
   exact ⟨hK,hnd n,fun a ha b hb e=>(MB b hb).1 (e ▸ ha)⟩
  obtain ⟨H1,g1,g2,m1⟩:=Nj (path:=path) (AN on n l) (K++Bz on l n) H (fun q hq=>by
   have hq':q.key∈Bz on l n:=zls hq
   exact ⟨List.mem_append_right _ hq',(MB _ hq').2,c2 q hq⟩) (hnd n) hK1
  have B1:∀n'∈ns,n≠n':=fun n' h e=>LM.1 (e ▸ h)
  obtain ⟨H2,g3,g4,g5,m2⟩:=Sv (path:=path) hd hnd ns LM.2 (fun n' w6=>h n' (zx _ w6)) (K++Bz on l n) H1 hK1 fun n' w6 k Dn=>by
   obtain ⟨a1,a2⟩:=hk n' (zx _ w6) k Dn
   have a3:k ∉ Bz on l n:=fun e=>hd n n' k (B1 n' w6) e Dn
   exact ⟨fun e=>(z1l.1 e).elim a1 a3,by rw [g1 k a3];exact a2⟩
  rw [zlf] at g5 m2
  refine ⟨H2,fun k hk=>?_,fun n' w6 k Dn=>?_,by rw [z12];exact g5,?_⟩
  .rw [g3 k fun n' w6=>hk n' (zx _ w6),g1 k (hk n (z19 ..))]
  .rcases zlw.1 w6 with rfl | w6
   .rw [g3 k fun n' w6 e=>hd _ n' k (B1 n' w6) Dn e]
    exact g2 k Dn
   .exact g4 n' w6 k Dn
  .rw [z12,z12]
   have e:XV doc l v on path n=.mk n path (Cw (Bz on l n) ((Bz on l n).map Yk)) (Gb [] path 0)::(AN on n l).flatMap (fun q=>C4 doc q v (Cw (Bz on l n) ((Bz on l n).map Yk)) path):=by
    unfold XV
    rw [c1]
    dsimp only
    rw [iP (show (Cw (Bz on l n) ((Bz on l n).map Yk)).k=6 from rfl)]
   rw [e]
   refine GT.app ?_ m2
   have ha:FT (Cw (Bz on l n) ((Bz on l n).map Yk)) [] (Cw K (K.map H))=(Cw (K++Bz on l n) ((K++Bz on l n).map H),0):=by
    have e2:(Bz on l n).map Yk=(Bz on l n).map H:=z1a fun k Dn=>(MB k Dn).2.symm
    rw [e2,FT,Jw,iP ⟨rfl,rfl⟩]
    show adR _ (NR (Bz on l n) ((Bz on l n).map H) K (K.map H))=_
    rw [V3 _ _ hK1]
    rfl
   have hwt:AE (Cw K (K.map H))<=AE (Cw (K++Bz on l n) ((K++Bz on l n).map H))∧AE (Cw (Bz on l n) ((Bz on l n).map Yk))<=AE (Cw (K++Bz on l n) ((K++Bz on l n).map H)):=by
    have e2:(Bz on l n).map Yk=(Bz on l n).map H:=z1a fun k Dn=>(MB k Dn).2.symm
    rw [e2,A9,A9 (Cw (K++Bz on l n) _),A9 (Cw (Bz on l n) _)]
    simp only [Cw,Ag.items_mk,Ag.keys_mk,List.map_append,If,zld]
    omega
   exact .cons _ _ [] _ _ _ (zj _).symm rfl ha hwt m1
theorem OI (hK:K.Nodup) (h:q.key∈K):Ba (Cw K (K.map H)) q=H q.key:=by
 obtain ⟨i,hi⟩:=List.getElem?_of_mem h
 unfold Ba
 rw [Ow hK hi (by rw [zlp,hi];rfl)]
 rfl
theorem RY (on:qB):∀(l:List Pk) (o:List qB) (n:qB),(n∈o∨∃p∈l,p.on=on∧p.label=n∧n≠⟨#[]⟩)->n∈CJ on l o
 | [],o,n,h=>by
  rw [CJ]
  rcases h with h | ⟨p,hp,_⟩
  .exact h
  .cases hp
 |p::r,o,n,h=>by
  rw [CJ]
  apply RY on r
  have hin:∀x,n∈o->n∈Cm x o:=fun x hx=>by
   unfold Cm
   split
   .exact z32 _ hx
   .exact hx
  rcases h with h | ⟨q,hq,h1,h2,h3⟩
  .left
   split
   .exact hin _ h
   .exact h
  .rcases zlw.1 hq with rfl | hq
   .left
    rw [iP h1,h2]
    unfold Cm
    by_cases c:0<=ix n o 0
    .rw [iN (fun e=>e.2 c)]
     exact (Kq n o 0).1 c
    .rw [iP ⟨h3,c⟩]
     simp
   .exact .inr ⟨q,hq,h1,h2,h3⟩
theorem KB:∀l:List Pk,B8 l=l.map GZ
 | []=>rfl
 |p::r=>by rw [B8,KB r];rfl
theorem Ht (q:Pk):(GZ q).on=q.on∧(GZ q).key=q.key∧(GZ q).tn=q.tn∧(GZ q).tw=q.tw∧(GZ q).picks=B8 q.picks:=by
 rw [JZ]
 exact ⟨rfl,rfl,rfl,rfl,rfl⟩
theorem ZT {L:List qB} (hK:K.Nodup) (hL:L.Nodup) (h:∀k,k∈K↔k∈L):K.Perm L:=by
 rw [List.perm_iff_count]
 intro k
 rw [hK.count,hL.count]
 by_cases c:k∈K
 .rw [iP c,iP ((h k).1 c)]
 .rw [iN c,iN fun e=>c ((h k).2 e)]
theorem Fh {n:qB}:k∈Bz on l n↔∃q∈l,q.on=on∧q.label=n∧q.key=k:=by
 unfold Bz AN
 rw [z1q]
 constructor
 .intro h
  obtain ⟨q,hq,rfl⟩:=zq.1 h
  obtain ⟨h1,h2⟩:=z13.1 hq
  simp only [Bool.and_eq_true,decide_eq_true_eq] at h2
  exact ⟨q,h1,h2.1,h2.2,rfl⟩
 .rintro ⟨q,hq,h1,h2,rfl⟩
  exact zq.2 ⟨q,z13.2 ⟨hq,by simp [h1,h2]⟩,rfl⟩
theorem MK:∀{l:List Pk},(∀(i j:Nat) p q,i<j->l[i]?=some p->l[j]?=some q->¬(p.on=q.on∧p.key=q.key))->(∀p∈l,p.on=on)->(l.map Pk.key).Nodup
 | [],_,_=>by simp
 |p::l,h,ho=>by
  obtain ⟨h1,h2⟩:=I0 h
  rw [zln,z1k]
  refine ⟨fun e=>?_,MK h2 fun q hq=>ho q (zx _ hq)⟩
  obtain ⟨q,hq,e⟩:=zq.1 e
  exact h1 q hq ⟨by rw [ho p (z19 ..),ho q (zx _ hq)],e.symm⟩
theorem Ad4 (doc:List Av) (hS:∀t∈doc,BV t.n=false) (h6:v.k=6) (hI:∀x∈v.items,Mg doc x∧∀y∈x.items,Mg doc y):Mg doc v:=fun l tn tw F hn h=>by
 obtain ⟨on,G,ho,h1,h2,h3,h4,h5,rfl⟩:=h.k6 h6
 have hT:typF v=on:=V1 ho
 obtain ⟨p1,p2,p3⟩:=YQ hS h4
 obtain ⟨Yk,hY⟩:=XJ hn on fun q=>(A6 doc (AY q.picks (BM q (Ba v q))) q.tn q.tw (AP q.picks) []).1
 obtain ⟨Fk,hFk⟩:=XJ hn on fun q=>G (GZ q)
 have hfld:∀q∈l,q.on=on->Fx doc (AY q.picks (BM q (Ba v q))) q.tn q.tw (AP q.picks) (Yk q.key)∧∀data,Ba data q=Yk q.key->FOk doc v data Yk Fk q:=fun q hq T1=>by
  have T0:=hn.p q hq
  have ho2:=h5 (GZ q) (by rw [KB];exact zls hq) (by rw [(Ht q).1];exact T1)
  have e:Ba v (GZ q)=Ba v q:=by unfold Ba;rw [(Ht q).2.1]
  rw [e,(Ht q).2.2.1,(Ht q).2.2.2.1,(Ht q).2.2.2.2] at ho2
  have hz:=Th doc (v:=A8) (by decide) (by decide)
  have hM:Mg doc (Ba v q)∧∀x∈(Ba v q).items,Mg doc x:=JW (Q:=fun x=>Mg doc x∧∀y∈x.items,Mg doc y) ⟨hz,fun y hy=>by simp [A8,Ag.items_mk] at hy⟩ hI q.key
  obtain ⟨y,o1,o2⟩:=Agu hM.1 hM.2 (hn.x q hq) T0.1 T0.2.1 T0.2.2 (by rw [hT,T1]) (by rw [T1];exact p1) (by rw [T1];exact p2) (by rw [T1];exact p3) ho2
  have ey:Yk q.key=y:=by rw [hY q hq T1];exact o1.eq []
  rw [ey]
  refine ⟨o1,fun data hd path=>?_⟩
  obtain ⟨W,m1,e1⟩:=o2 data path hd
  exact ⟨W,by rw [ey];exact m1,by rw [hFk q hq T1];exact e1⟩
 have hpm:∀n q,q∈AN on n l->∃p∈l,p.on=on∧p.label=n∧q=Es p:=fun n q hq=>by
  obtain ⟨a1,a2,p,a3,a4,a5⟩:=EW hq
  exact ⟨p,a3,by rw [a5] at a1;exact a1,a4,a5⟩
 have hnd:∀n,(Bz on l n).Nodup:=fun n=>MK (hn.par on n).d fun p hp=>(EW hp).1
 have Q9:∀n n' k,n≠n'->k∈Bz on l n->k ∉ Bz on l n':=fun n n' k B1 a b=>by
  obtain ⟨p,a1,a2,a3,a4⟩:=Fh.1 a
  obtain ⟨q,b1,b2,b3,b4⟩:=Fh.1 b
  have:=hn.one a1 b1 (by rw [a2,b2]) (by rw [a4,b4])
  exact B1 (by rw [<-a3,<-b3,this])
 have Lx:∀{data:Ag} {p:Pk},FOk doc v data Yk Fk p->FOk doc v data Yk Fk (Es p):=fun {data p} h path=>by
  rw [G1]
  exact h path
 refine Wg ⟨_,SY hn ho h1 h2 h3 h4 fun q hq T1=>(hfld q hq T1).1,fun path=>?_⟩
 obtain ⟨nd,n0⟩:=No on l [] ⟨by simp,by simp⟩
 have nm:=RY on l []
 have nm2:=fun name h=>Lf on name l [] h
 obtain ⟨ns,LM⟩:=A7 (CJ on l [])
 rw [Db,iN (fun c=>absurd c.1 (by rw [h6];decide)),iP ⟨h6,rfl⟩,ML,hT]
 rw [LM] at nd n0 nm nm2 ⊢
 obtain ⟨H1,g1,g2,g3,m1⟩:=Sv (path:=path) (Yk:=Yk) (Fk:=Fk) (doc:=doc) (v:=v) Q9 hnd ns nd (fun n T2=>by
  have e1:Bz on (AN on n l) ⟨#[]⟩=Bz on l n:=by
   have hf:((AN on n l).filter fun x=>decide (x.on=on)&&decide (x.label=⟨#[]⟩))=AN on n l:=List.filter_eq_self.2 fun q hq=>by
    obtain ⟨a1,a2,_⟩:=EW hq
    simp [a1,a2]
   show ((((AN on n l).filter fun x=>decide (x.on=on)&&decide (x.label=⟨#[]⟩)).map Es).map Pk.key)=_
   rw [hf,z1q]
   rfl
  have o:=SY (Y:=Yk) (T:=on) (tw:=[]) (hn.par on n) ho rfl p3 p2 p1 fun q hq _=>by
   obtain ⟨p,hp,Vi,_,rfl⟩:=hpm n q hq
   exact (hfld p hp Vi).1
  rw [e1] at o
  refine ⟨o.run.1 [],fun q hq=>?_⟩
  obtain ⟨p,hp,Vi,JH,rfl⟩:=hpm n q hq
  exact Lx ((hfld p hp Vi).2 _ (OI (hnd n) (Fh.2 ⟨p,hp,Vi,JH,rfl⟩)))) (Bz on l ⟨#[]⟩) Yk (hnd _) fun n T2 k hk=>⟨fun e=>Q9 n ⟨#[]⟩ k (fun e=>n0 (by rw [<-e];exact T2)) hk e,rfl⟩
 obtain ⟨H2,g4,g5,m2⟩:=Nj (path:=path) (v:=v) (doc:=doc) (data:=Cw (Bz on l ⟨#[]⟩) ((Bz on l ⟨#[]⟩).map Yk)) (Yk:=Yk) (Fk:=Fk) (AN on ⟨#[]⟩ l) (Bz on l ⟨#[]⟩++ns.flatMap (Bz on l)) H1 (fun q hq=>by
  have hk:q.key∈Bz on l ⟨#[]⟩:=zls hq
  obtain ⟨p,hp,Vi,JH,rfl⟩:=hpm _ q hq
  refine ⟨z32 _ hk,g1 _ fun n T2 e=>Q9 n ⟨#[]⟩ _ (fun e=>n0 (by rw [<-e];exact T2)) e hk,Lx ((hfld p hp Vi).2 _ (OI (hnd _) hk))⟩) (hnd _) g3
 refine ⟨_,m1.app m2,?_⟩
 have eF:((B8 l).filter fun p=>decide (p.on=on))=(l.filter fun p=>decide (p.on=on)).map GZ:=by
  rw [KB,List.filter_map]
  congr 1
  apply List.filter_congr
  intro q _
  show decide ((GZ q).on=on)=_
  rw [(Ht q).1]
 have eK:((B8 l).filter fun p=>decide (p.on=on)).map Pk.key=(l.filter fun p=>decide (p.on=on)).map Pk.key:=by
  rw [eF,z1q]
  apply z1a
  intro q _
  exact (Ht q).2.1
 have eV:((B8 l).filter fun p=>decide (p.on=on)).map G=((l.filter fun p=>decide (p.on=on)).map Pk.key).map Fk:=by
  rw [eF,z1q,z1q]
  apply z1a
  intro q hq
  obtain ⟨a,b⟩:=z13.1 hq
  exact (hFk q a (by simpa using b)).symm
 rw [eK,eV]
 have hmm:∀k,k∈Bz on l ⟨#[]⟩++ns.flatMap (Bz on l)↔k∈(l.filter fun p=>decide (p.on=on)).map Pk.key:=fun k=>by
  rw [z1l,List.mem_flatMap]
  constructor
  .intro h
   have:∃n,k∈Bz on l n:=by
    rcases h with h | ⟨n,_,h⟩
    .exact ⟨_,h⟩
    .exact ⟨n,h⟩
   obtain ⟨n,h⟩:=this
   obtain ⟨q,a1,a2,_,a4⟩:=Fh.1 h
   exact zq.2 ⟨q,z13.2 ⟨a1,by simp [a2]⟩,a4⟩
  .intro h
   obtain ⟨q,hq,rfl⟩:=zq.1 h
   obtain ⟨a,b⟩:=z13.1 hq
   have b:q.on=on:=by simpa using b
   by_cases c:q.label=⟨#[]⟩
   .exact .inl (Fh.2 ⟨q,a,b,c,rfl⟩)
   .exact .inr ⟨q.label,nm _ (.inr ⟨q,a,b,rfl,c⟩),Fh.2 ⟨q,a,b,rfl,rfl⟩⟩
 have hndF:((l.filter fun p=>decide (p.on=on)).map Pk.key).Nodup:=by
  have:=MK (on:=on) (JT id (fun _=>⟨rfl,rfl⟩) (fun p=>decide (p.on=on)) hn.d) fun p hp=>by
   rw [List.map_id] at hp
   simpa using (z13.1 hp).2
  rwa [List.map_id] at this
 refine .obj _ _ H2 Fk (ZT g3 hndF hmm) g3 fun k hk=>?_
 by_cases c:k∈Bz on l ⟨#[]⟩
 .exact g5 k c
 .rw [g4 k c]
  rcases z1l.1 hk with hk | hk
  .exact absurd hk c
  .obtain ⟨n,a,b⟩:=List.mem_flatMap.1 hk
   exact g2 n a k b
theorem Ae6 (doc:List Av) (hS:∀t∈doc,BV t.n=false) (v:Ag):Mg doc v∧∀x∈v.items,Mg doc x :=
 Ag.ind (Q:=fun v=>Mg doc v∧∀x∈v.items,Mg doc x) (fun v ih=>by
  refine ⟨?_,fun x hx=>(ih x hx).1⟩
  by_cases h5:v.k=5
  .exact Aa5 doc h5 fun x hx=>(ih x hx).1
  by_cases h6:v.k=6
  .exact Ad4 doc hS h6 ih
  .exact Th doc h5 h6) v
theorem Yr (hS:∀t∈doc,BV t.n=false) {root:qB} {d8:Ag} (hn:HC l) (h6:d8.k=6) (h:(A6 doc d8 root [] (B8 l) []).2=[]) :
 (Ha doc root l d8).2.1=[]∧(∀p∈(Ha doc root l d8).2.2,p.q=[])∧∃W,GT [] (Ha doc root l d8).2.2 (Ha doc root l d8).1 W∧Li W (A6 doc d8 root [] (B8 l) []).1:=by
 obtain ⟨o,m⟩:=(Ae6 doc hS d8).1 l root [] _ hn (Afk doc d8 root [] (B8 l) [] h)
 obtain ⟨W,m,e⟩:=m []
 have hw:(Ha doc root l d8).2.2=CZ (C0 doc l) d8 (SS doc l d8 root []) []:=by
  rw [Db,iN (fun c=>absurd c.1 (by rw [h6];decide))]
  rfl
 obtain ⟨m1,m2⟩:=m.all
 refine ⟨?_,by rw [hw];exact m2,W,?_,e⟩
 .show (A6 doc (AY l d8) root [] (AP l) []).2=[]
  rw [o.run.1]
 .rw [hw]
  exact m
end
