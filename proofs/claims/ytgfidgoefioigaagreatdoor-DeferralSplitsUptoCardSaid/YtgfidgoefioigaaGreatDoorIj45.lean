/- Proof. Conditions: none. -/
import Derived.Test.YtgfidgoefioigaaGreatDoorIj44
open List renaming mem_map->zw,mem_filter->z1f,length_filter_le->z2c,mem_of_mem_take->z2f,mem_cons_of_mem->z16,mem_cons_self->z1r,flatMap_cons->zy,append_nil->zg,drop_eq_nil_of_le->z1i
open Nat renaming mul_le_mul_right->z1j,le_trans->z1p,mul_le_mul->z33,add_mul->z1v,mul_add->z2h
open Go.Proofs.Tryz
open List renaming mem_of_getElem?->zla,length_cons->zlc,length_append->zld,length_nil->zle,append_assoc->zlf,cons_append->zlh,nil_append->zli,map_cons->zln,mem_cons->zlw
open Nat renaming le_refl->zna
namespace Go.Proofs.YtgfidgoefioigaaGreatDoor
open Go.Eng
set_option linter.all false
set_option maxRecDepth 20000
set_option maxHeartbeats 1000000
section
variable {l:List Pk} {q:Pk} {x v:Ag} {fs:List CF} {doc:List Aw} {f:PF} {K:Nat}
theorem SH (l:List Pk):(∀p∈l,AF (AM p.picks)<=AF p.picks)->AF (AM l)<=AF l:=by
 induction l with
 |nil=>intro _;rw [AM];exact zna _
 |cons p l ih=>
  intro h
  have h1:=h p (by simp)
  have h2:=ih fun q hq=>h q (by simp [hq])
  rw [MZ]
  split
  .rw [AF,AF,Cs,Cs,(IW p).2.2.2.2]
   omega
  .rw [AF]
   omega
theorem K6 (l:List Pk):AF (AM l)<=AF l:=SH l fun p _=>Pk.ind (Q:=fun p=>AF (AM p.picks)<=AF p.picks) (fun p ih=>SH p.picks ih) p
theorem JB (l:List Pk) (h:B6 l) (H:∀p∈l,B6 (AM p.picks)):B6 (AM l):=by
 have hl:=h.len
 have h1:=KV l
 refine .mk _ (by omega) (fun p hp=>?_) fun p hp=>?_
 .rw [CL] at hp
  obtain ⟨q,hq,rfl⟩:=zw.1 hp
  rw [(IW q).2.2.2.1]
  exact h.t (z1f.1 hq).1
 .rw [CL] at hp
  obtain ⟨q,hq,rfl⟩:=zw.1 hp
  rw [(IW q).2.2.2.2]
  exact H q (z1f.1 hq).1
theorem Lh (h:B6 l):B6 (AM l):=by
 have key:∀p:Pk,B6 p.picks->B6 (AM p.picks):=fun p=>Pk.ind (Q:=fun p=>B6 p.picks->B6 (AM p.picks)) (fun p ih h=>JB _ h fun q hq=>ih q hq (h.x hq)) p
 exact JB l h fun p hp=>key p (h.x hp)
theorem W0 (h:B6 l) (on name:qB):B6 (AB on name l):=by
 have hl:=h.len
 refine .mk _ ?_ (fun p hp=>?_) fun p hp=>?_
 .unfold AB
  rw [List.length_map]
  have:=z2c (fun x:Pk=>decide (x.on=on)&&decide (x.label=name)) l
  omega
 .obtain ⟨q,hq,rfl⟩:=zw.1 hp
  exact h.t (p:=q) (z1f.1 hq).1
 .obtain ⟨q,hq,rfl⟩:=zw.1 hp
  exact h.x (p:=q) (z1f.1 hq).1
theorem Te (on name:qB):∀l:List Pk,AF (AB on name l)<=AF l
 | []=>zna _
 |p::l=>by
  have ih:=Te on name l
  unfold AB at ih ⊢
  rw [List.filter_cons]
  split
  .rw [zln,AF,AF,Cs,Cs]
   have:(DL p).picks=p.picks:=rfl
   rw [this]
   omega
  .rw [AF]
   omega
theorem Yu (on name:qB) (l:List Pk):(AB on name l).length<=l.length:=by
 unfold AB
 rw [List.length_map]
 exact z2c _ _
/-! ### Ranges -/
theorem Akx:A6.Rng:=.mk _ (by decide) (by decide) (by simp [A6,Ag.items_mk])
theorem Vt (h:x.Rng):(BV q x).Rng:=by
 unfold BV
 split
 .exact .mk _ h.l h.u fun y hy=>h.x (z2f hy)
 .exact h
theorem LS (on:qB) (keys:List qB):∀(fs:List CF) (is:List Ag),(∀x∈fs,∀v:Ag,v.Rng->(x.2 v).Rng)->(∀x∈is,x.Rng)->∀x∈Hz on keys fs is,x.Rng
 | [],is,_,h=>h
 | (p,f)::r,is,hf,h=>by
  rw [Hz]
  split
  .rename_i c
   refine LS on keys r _ (fun x hx=>hf x (z16 _ hx)) fun x hx=>?_
   rcases List.mem_or_eq_of_mem_set hx with h1 | h1
   .exact h x h1
   .rw [h1]
    refine hf (p,f) (z1r ..) _ (Vt (h _ ?_))
    rw [List.getD_eq_getElem?_getD,List.getElem?_eq_getElem (by omega)]
    exact List.getElem_mem _
  .exact LS on keys r _ (fun x hx=>hf x (z16 _ hx)) h
theorem Gf (h:v.n=0) (hx:∀x∈v.items,x.Rng):v.Rng:=.mk _ (by rw [h];decide) (by rw [h];decide) hx
theorem P0 (hf:∀x∈fs,∀v:Ag,v.Rng->(x.2 v).Rng) (v:Ag):v.Rng->(Fj fs v).Rng:=by
 refine Ag.ind (Q:=fun v=>v.Rng->(Fj fs v).Rng) (fun v ih h=>?_) v
 rw [Ez]
 split
 .refine Gf rfl fun x hx=>?_
  obtain ⟨y,hy,rfl⟩:=zw.1 hx
  exact ih y hy (h.x hy)
 .split
  .refine Gf rfl fun x hx=>?_
   exact LS _ _ fs _ hf (fun y hy=>h.x hy) x hx
  .exact h
theorem Lr (p:Pk):∀v:Ag,v.Rng->(Eu p v).Rng :=
 Pk.ind (Q:=fun p=>∀v:Ag,v.Rng->(Eu p v).Rng) (fun p ih v h=>by
  rw [D5]
  exact P0 (fun x hx=>by rw [E5] at hx;obtain ⟨q,hq,rfl⟩:=zw.1 hx;exact ih q hq) v h) p
theorem WT (l:List Pk) (h:v.Rng):(Bp l v).Rng :=
 P0 (fun x hx=>by rw [E5] at hx;obtain ⟨q,hq,rfl⟩:=zw.1 hx;exact Lr q) v h
theorem Uy (h:x.Rng):(Ei q x).Rng:=by
 unfold Ei
 split
 .exact Gf rfl fun y hy=>h.x (z2f hy)
 .exact h
theorem Kz (on key:qB):∀(fs:List CF),(∀x∈fs,∀v:Ag,v.Rng->(x.2 v).Rng)->∀x:Ag,x.Rng->(Gs on key fs x).Rng
 | [],_,x,h=>h
 | (p,f)::r,hf,x,h=>by
  rw [Gs]
  split
  .exact Kz on key r (fun y hy=>hf y (z16 _ hy)) _ (hf (p,f) (z1r ..) _ (Uy h))
  .exact Kz on key r (fun y hy=>hf y (z16 _ hy)) x h
theorem Q9 (hf:∀x∈fs,∀v:Ag,v.Rng->(x.2 v).Rng) (v:Ag):v.Rng->(Fk fs v).Rng:=by
 refine Ag.ind (Q:=fun v=>v.Rng->(Fk fs v).Rng) (fun v ih h=>?_) v
 rw [E3]
 split
 .refine Gf rfl fun x hx=>?_
  obtain ⟨y,hy,rfl⟩:=zw.1 hx
  exact ih y hy (h.x hy)
 .split
  .refine Gf rfl fun x hx=>?_
   unfold JU at hx
   rw [Ag.items_mk] at hx
   obtain ⟨i,hi⟩:=List.getElem?_of_mem hx
   rw [List.getElem?_zipWith] at hi
   cases hk:v.keys[i]? with
   |none=>rw [hk] at hi;cases hi
   |some k=>
    cases hy:v.items[i]? with
    |none=>rw [hk,hy] at hi;cases hi
    |some y=>
     rw [hk,hy] at hi
     cases hi
     exact Kz _ _ fs hf y (h.x (zla hy))
  .exact h
theorem WY (p:Pk):∀v:Ag,v.Rng->(F9 p v).Rng :=
 Pk.ind (Q:=fun p=>∀v:Ag,v.Rng->(F9 p v).Rng) (fun p ih v h=>by
  rw [Ed]
  exact Q9 (fun x hx=>by rw [Hj] at hx;obtain ⟨q,hq,rfl⟩:=zw.1 hx;exact ih q hq) v h) p
theorem PD (l:List Pk) (h:v.Rng):(C5 l v).Rng :=
 Q9 (fun x hx=>by rw [Hj] at hx;obtain ⟨q,hq,rfl⟩:=zw.1 hx;exact WY q) v h
/-! ### An object is completed -/
structure Sz (l:List Pk) (v:Ag):Prop where
 p:B6 l
 r:v.Rng
 w:AG v<=100000000
 c:AG v*(1+AF l)<=10000000000
theorem Sz.fit (h:Sz l v):v.Fit:=CZ v (by have:=h.w;omega)
theorem Sz.k (h:Sz l v):AF l<=10000000000:=by
 have h1:=h.c
 have h2:=CT v
 have:1*(1+AF l)<=AG v*(1+AF l):=z1j _ h2
 omega
theorem Sz.le {m:List Pk} {w:Ag} (h:Sz l v) (hp:B6 m) (hr:w.Rng) (h1:AG w<=AG v) (h2:AF m<=AF l):Sz m w :=
 ⟨hp,hr,z1p h1 h.w,z1p (z33 h1 (by omega)) h.c⟩
theorem Sz.par (h:Sz l v) (on name:qB):Sz (AB on name l) v:=h.le (W0 h.p on name) h.r (zna _) (Te on name l)
theorem Sz.cut (h:Sz l v):Sz (AM l) (Bp l v):=h.le (Lh h.p) (WT l h.r) (Tf l v) (K6 l)
theorem Sz.wit (h:Sz l v):Sz (AM l) (C5 l v):=h.le (Lh h.p) (PD l h.r) (NP l v) (K6 l)
theorem Sz.run (hd:DocOk doc) (h:Sz l v) (root:qB) (hp:CH) (m:Nat) :
 Af prog 15 hp m [B0 doc,.s root,.ds (Ab AJ l),vx v] (.tp [vx (A7 doc v root [] l []).1,.ds (Ab BD (A7 doc v root [] l []).2)]) :=
 SJ doc hd root l h.p v h.fit h.r (by have:=h.w;omega) (by have:=h.c;omega) hp m
theorem Sz.rrun (hd:DocOk doc) (h:Sz l v) (root:qB) (hp:CH) (m:Nat) :
 Af prog 30 hp m [B0 doc,.s root,.ds (Ab AJ l),vx v] (.tp [vx (A7 doc v root [] l []).1,.ds (Ab BD (A7 doc v root [] l []).2)]) :=
 S5 doc hd root l h.p v h.fit h.r (by have:=h.w;omega) (by have:=h.c;omega) hp m
theorem Sz.prb (h:Sz l v) (root:qB):(A7 doc v root [] l []).2.length<=10000000000∧(A7 doc v root [] l []).1.Fit∧∀q∈(A7 doc v root [] l []).2,q.p.length<=100000000:=by
 have h1:=E6 doc v root [] l []
 have h2:=h.c
 have h3:=Im doc v h.fit root [] l [] h.p (by simp)
 refine ⟨by omega,h3.1,fun q hq=>?_⟩
 have:=(h3.2 q hq).1
 have:=h.w
 simp at *
 omega
theorem Oy (hd:DocOk doc) (h:Sz l v) (h6:v.k=6) (hp:CH) (m:Nat) :
 Af prog 53 hp m [B0 doc,vx v,.ds (Ab AJ l)] (.tp [vx (A7 doc (Bp l v) (typF v) [] (AM l) []).1,.ds (Ab BD (A7 doc (Bp l v) (typF v) [] (AM l) []).2)]):=by
 have hw:=h.w
 have hk:=h.k
 have h1:=Fc v h.fit
 have h2:=HM l (by omega)
 have h3:=O1 l h.p v h6 (by omega)
 have h4:=(h.cut).run hd (typF v)
 obtain ⟨on,IH⟩:=A5 (typF v)
 rw [IH] at h1 h4 ⊢
 obtain ⟨pl,FM⟩:=A5 (AM l)
 rw [FM] at h2 h4 ⊢
 obtain ⟨cv,VE⟩:=A5 (Bp l v)
 rw [VE] at h3 h4 ⊢
 obtain ⟨R,hR⟩:=A5 (A7 doc cv on [] pl [])
 rw [hR] at h4 ⊢
 refine Aj func53 (tA cc53) (tB cc53) (tC cc53) rfl fun hf=>?_;unfold ck53
 simp (disch:=omega) only [go_sem]
 refine Aq.f (fun _ _ _=>h1 _ _) ?_
 simp (disch:=omega) only [go_sem]
 refine Aq.f (fun _ _ _=>h2 _ _) ?_
 simp (disch:=omega) only [go_sem]
 refine Aq.f (fun _ _ _=>h3 _ _) ?_
 simp (disch:=omega) only [go_sem]
 refine Aq.f (fun _ _ _=>h4 _ _) ?_
 simp (disch:=omega) only [go_sem]
/-! ### How many patches -/
theorem I0:∀(xs ys:List Ag) (j:Nat) (path:List Ag),(∀x∈xs,∀y path,(Cb f x y path).length<=AG x*K)->(Dy f xs ys j path).length<=Ci xs*K
 | [],ys,j,path,_=>by rw [Dy];simp
 |x::xs,[],j,path,_=>by rw [Em];simp
 |x::xs,y::ys,j,path,h=>by
  rw [Dy,zld,Ci,z1v]
  have h1:=h x (by simp) y (path++[Fo j])
  have h2:=I0 xs ys (j+1) path fun z hz=>h z (by simp [hz])
  omega
theorem Kh (F:∀v d path,(f v d path).length<=AG v*K) (x:Ag):∀y path,(Cb f x y path).length<=AG x*K:=by
 refine Ag.ind (Q:=fun x=>∀y path,(Cb f x y path).length<=AG x*K) (fun x ih y path=>?_) x
 rw [Cq]
 split
 .refine z1p (I0 _ _ _ _ ih) (z1j _ (by rw [AE];omega))
 .split
  .exact F _ _ _
  .simp
theorem SZ (doc:List Aw) (cut:Ag->Ag) (F:∀v d path,(f v d path).length<=AG v*K) (on key:qB) (one:Pk) (BM:List Ag):∀(l:List Ag) (j:Nat),(DN doc cut f on key one BM l j).length<=Ci l*(1+K)
 | [],j=>by rw [DN];simp
 |x::l,j=>by
  rw [DN,zlc,zld,Ci,z1v]
  have h1:=Kh F x ((AA (A7 doc (EV [sT,key] [CW on,cut x]) on [] [one] []).1 key).getD A6) (BM++[Fo j])
  have h2:=SZ doc cut F on key one BM l (j+1)
  have h3:=CT x
  have h4:AG x*(1+K)=AG x+AG x*K:=by rw [z2h,Nat.mul_one]
  omega
theorem Zl (v:Ag) (q:Pk):Ci (AW v q).items+1<=AG v:=by
 unfold AW
 cases h:AA v q.key with
 |none=>
  have:=CT v
  show Ci []+1<=AG v
  rw [Ci]
  omega
 |some x=>
  have h1:=B1 (CB h)
  have h2:=AE v
  have h3:=AE x
  show Ci x.items+1<=AG v
  omega
theorem QZ (l:List Ag) (n:Nat):Ci (l.take n)+Ci (l.drop n)=Ci l:=by
 rw [<-Ou,List.take_append_drop]
theorem Abo (doc:List Aw) (q:Pk) (F:∀v d path,(f v d path).length<=AG v*K) (v data:Ag) (path:List Ag):(OE doc q f v data path).length+1<=AG v*(1+K):=by
 have hr:=Zl v q
 have hv:=CT v
 have hK:(Ci (AW v q).items+1)*(1+K)<=AG v*(1+K):=z1j _ hr
 have hW:∀x:Ag,x.items=(AW v q).items->x.k=5->∀y path,(Cb f x y path).length<=Ci (AW v q).items*K:=fun x hx h5 y path=>by
  rw [Cq]
  split
  .rw [hx]
   exact I0 _ _ _ _ fun z hz=>Kh F z
  .rw [iN (fun c=>by rw [h5] at c;exact absurd c.1 (by decide))]
   simp
 have e1:Ci (AW v q).items*(1+K)=Ci (AW v q).items+Ci (AW v q).items*K:=by rw [z2h,Nat.mul_one]
 have e2:(Ci (AW v q).items+1)*(1+K)=Ci (AW v q).items*(1+K)+(1+K):=by rw [z1v,Nat.one_mul]
 unfold OE
 split
 .rename_i c
  have h1:(Cb f (AW v q) (AW data q) (path++[CW q.key])).length<=AG (AW v q)*K:=Kh F _ _ _
  by_cases h5:(AW v q).k=5
  .have:=hW _ rfl h5 (AW data q) (path++[CW q.key])
   omega
  .have hx:AG (AW v q)+1<=AG v∨AW v q=A6:=by
    unfold AW
    cases h:AA v q.key with
    |none=>exact .inr rfl
    |some x=>
     have h1:=B1 (CB h)
     have h2:=AE v
     left
     show AG x+1<=AG v
     omega
   rcases hx with hx | hx
   .have h2:(AG (AW v q)+1)*(1+K)<=AG v*(1+K):=z1j _ hx
    have h3:(AG (AW v q)+1)*(1+K)=AG (AW v q)+AG (AW v q)*K+(1+K):=by rw [z1v,z2h,Nat.mul_one,Nat.one_mul]
    omega
   .rw [hx,Cq,iN (fun c=>absurd c.1 (by decide)),iN (fun c=>absurd c.1 (by decide))]
    have:1*1<=AG v*(1+K):=z33 hv (by omega)
    simp
    omega
 .rw [zld]
  obtain ⟨w,hw⟩:=A5 (I5 q.initial (AW v q).items.length)
  rw [hw]
  have h1:(Cb f (IM ((AW v q).items.take w)) (AW data q) (path++[CW q.key])).length<=Ci ((AW v q).items.take w)*K:=by
   rw [Cq]
   split
   .exact I0 _ _ _ _ fun z hz=>Kh F z
   .rw [iN (fun c=>absurd (show (5:Int)=6 from c.1) (by decide))]
    simp
  have h2:=SZ doc (Eu q) F (typF v) q.key (B5 q q.initial) (path++[CW q.key]) ((AW v q).items.drop w) w
  have h3:=QZ (AW v q).items w
  have h4:Ci ((AW v q).items.take w)*K<=Ci ((AW v q).items.take w)*(1+K):=Nat.mul_le_mul_left _ (by omega)
  have h5:Ci ((AW v q).items.take w)*(1+K)+Ci ((AW v q).items.drop w)*(1+K)=Ci (AW v q).items*(1+K):=by rw [<-z1v,h3]
  omega
/-! Labels -/
theorem If (on:qB):∀(l:List Pk) (o:List qB),(C0 on l o).length<=o.length+l.length
 | [],o=>by rw [C0];simp
 |p::r,o=>by
  rw [C0]
  have h:=If on r (if p.on=on then Cc p.label o else o)
  have h2:=M0 p.label o
  rw [zlc]
  by_cases c:p.on=on
  .rw [iP c] at h ⊢;omega
  .rw [iN c] at h ⊢;omega
def Id (on name:qB) (c:Pk->Nat):List Pk->Nat
 | []=>0
 |p::r=>(if p.on=on∧p.label=name then c p else 0)+Id on name c r
def VJ (on:qB) (c:Pk->Nat) (l:List Pk):List qB->Nat
 | []=>0
 |n::r=>Id on n c l+VJ on c l r
theorem Ps (on:qB) (c:Pk->Nat) (p:Pk) (l:List Pk):∀(ns:List qB),ns.Nodup->VJ on c (p::l) ns<=(if p.label∈ns then c p else 0)+VJ on c l ns
 | [],_=>by simp [VJ]
 |n::r,h=>by
  obtain ⟨h1,h2⟩:=List.nodup_cons.1 h
  have ih:=Ps on c p l r h2
  rw [VJ,VJ,Id]
  by_cases e:p.label=n
  .subst e
   rw [iN h1] at ih
   rw [iP (z1r ..)]
   split<;>omega
  .rw [iN (fun q=>e q.2)]
   by_cases e2:p.label∈r
   .rw [iP e2] at ih
    rw [iP (z16 _ e2)]
    omega
   .rw [iN e2] at ih
    rw [iN (fun q=>by rcases zlw.1 q with q | q;exact e q;exact e2 q)]
    omega
theorem WB (on:qB) (c:Pk->Nat) {ns:List qB} (h:ns.Nodup) (h0:⟨#[]⟩ ∉ ns):∀l:List Pk,VJ on c l ns+Id on ⟨#[]⟩ c l<=(l.map c).sum
 | []=>by
  have:∀ns,VJ on c [] ns=0:=fun ns=>by
   induction ns with
   |nil=>rfl
   |cons n r ih=>rw [VJ,Id,ih]
  rw [this,Id]
  simp
 |p::l=>by
  have h1:=Ps on c p l ns h
  have ih:=WB on c h h0 l
  rw [Id,zln,List.sum_cons]
  by_cases e:p.label=⟨#[]⟩
  .rw [e,iN h0] at h1
   split<;>omega
  .rw [iN (fun q=>e q.2)]
   split at h1<;>omega
theorem NX (doc:List Aw) (on name:qB) (G:Pk->List DB) (hG:∀q,G (DL q)=G q) (c:Pk->Nat):∀l:List Pk,(∀q∈l,(G q).length<=c q)->((AB on name l).flatMap G).length<=Id on name c l
 | [],_=>by simp [AB,Id]
 |p::l,h=>by
  have ih:=NX doc on name G hG c l fun q hq=>h q (by simp [hq])
  have hp:=h p (by simp)
  unfold AB at ih ⊢
  rw [List.filter_cons,Id]
  split
  .rename_i e
   rw [iP (by simpa using e),zln,zy,zld,hG]
   omega
  .omega
theorem SL (on name:qB) (c:Pk->Nat):∀(l:List Pk),(∃p∈l,p.on=on∧p.label=name)->Id on name c l+1<=Id on name (fun q=>c q+1) l
 | [],h=>by obtain ⟨p,hp,_⟩:=h;cases hp
 |p::l,h=>by
  have mono:∀l:List Pk,Id on name c l<=Id on name (fun q=>c q+1) l:=fun l=>by
   induction l with
   |nil=>exact zna _
   |cons q l ih=>rw [Id,Id];split<;>omega
  rw [Id,Id]
  by_cases e:p.on=on∧p.label=name
  .rw [iP e,iP e]
   have:=mono l
   omega
  .rw [iN e,iN e]
   have:=SL on name c l (by
    obtain ⟨q,hq,h⟩:=h
    rcases zlw.1 hq with rfl | hq
    .exact absurd h e
    .exact ⟨q,hq,h⟩)
   omega
theorem OI (on name:qB) {c d:Pk->Nat}:∀(l:List Pk),(∀p∈l,c p<=d p)->Id on name c l<=Id on name d l
 | [],_=>zna _
 |p::l,h=>by
  have ih:=OI on name l fun q hq=>h q (by simp [hq])
  have:=h p (by simp)
  rw [Id,Id]
  split<;>omega
theorem Lx (doc:List Aw) (l:List Pk) (H:∀q∈l,∀v d path,(C3 doc q v d path).length+1<=AG v*I8 q) (v data:Ag) (path:List Ag):(Cx doc l v data path).length<=AG v*AF l:=by
 rw [Ke,zld]
 obtain ⟨nd,n0⟩:=Tq (typF v) l [] ⟨by simp,by simp⟩
 have hm:=fun name h=>QB (typF v) name l [] h
 obtain ⟨ns,Ss⟩:=A5 (C0 (typF v) l [])
 rw [Ss] at nd n0 hm ⊢
 have h1:∀ns':List qB,(∀n∈ns',n∈ns)->(ns'.flatMap (fun name=>DB.mk name path (A7 doc (Bp (AB (typF v) name l) v) (typF v) [] (AM (AB (typF v) name l)) []).1 (Ef (A7 doc (Bp (AB (typF v) name l) v) (typF v) [] (AM (AB (typF v) name l)) []).2 path 0) ::
  (if (A7 doc (Bp (AB (typF v) name l) v) (typF v) [] (AM (AB (typF v) name l)) []).1.k=6 then (AB (typF v) name l).flatMap (fun q=>C3 doc q v (A7 doc (Bp (AB (typF v) name l) v) (typF v) [] (AM (AB (typF v) name l)) []).1 path) else []))).length<=VJ (typF v) (fun q=>AG v*I8 q) l ns':=by
  intro ns'
  induction ns' with
  |nil=>intro _;simp [VJ]
  |cons n r ih=>
   intro hn
   have i2:=ih fun m hm=>hn m (by simp [hm])
   rw [zy,zld,zlc,VJ]
   have i1:(if (A7 doc (Bp (AB (typF v) n l) v) (typF v) [] (AM (AB (typF v) n l)) []).1.k=6 then (AB (typF v) n l).flatMap (fun q=>C3 doc q v (A7 doc (Bp (AB (typF v) n l) v) (typF v) [] (AM (AB (typF v) n l)) []).1 path) else []).length+1<=Id (typF v) n (fun q=>AG v*I8 q) l:=by
    have e1:=NX doc (typF v) n (fun q=>C3 doc q v (A7 doc (Bp (AB (typF v) n l) v) (typF v) [] (AM (AB (typF v) n l)) []).1 path) (fun q=>by show C3 doc (DL q) _ _ _=_;rw [GO]) (fun q=>AG v*I8 q - 1) l (fun q hq=>by have:=H q hq v (A7 doc (Bp (AB (typF v) n l) v) (typF v) [] (AM (AB (typF v) n l)) []).1 path;omega)
    have e2:=SL (typF v) n (fun q=>AG v*I8 q - 1) l (by
     rcases hm n (hn n (by simp)) with h | h
     .cases h
     .exact h)
    have e3:=OI (typF v) n (c:=fun q=>AG v*I8 q - 1+1) (d:=fun q=>AG v*I8 q) l (fun q hq=>by
     have:1*1<=AG v*I8 q:=z33 (CT v) (by rw [Cs];omega)
     omega)
    split
    .omega
    .simp only [zle];omega
   omega
 have h2:=h1 ns fun _ h=>h
 have h3:=NX doc (typF v) ⟨#[]⟩ (fun q=>C3 doc q v data path) (fun q=>by show C3 doc (DL q) _ _ _=_;rw [GO]) (fun q=>AG v*I8 q) l (fun q hq=>by have:=H q hq v data path;omega)
 have h4:=WB (typF v) (fun q=>AG v*I8 q) nd n0 l
 have h5:(l.map fun q=>AG v*I8 q).sum=AG v*AF l:=by
  clear h1 h2 h3 h4 hm Ss H
  induction l with
  |nil=>simp [AF]
  |cons p l ih=>rw [zln,List.sum_cons,ih,AF,z2h]
 omega
theorem Wu (doc:List Aw) (q:Pk):∀v d path,(C3 doc q v d path).length+1<=AG v*I8 q :=
 Pk.ind (Q:=fun q=>∀v d path,(C3 doc q v d path).length+1<=AG v*I8 q) (fun q ih v d path=>by
  rw [Hl,Cs]
  exact Abo doc q (Lx doc q.picks ih) v d path) q
theorem WO (doc:List Aw) (l:List Pk) (v d:Ag) (path:List Ag):(Cx doc l v d path).length<=AG v*AF l:=Lx doc l (fun q _=>Wu doc q) v d path
end
set_option maxHeartbeats 2000000
structure RunS (doc:List Aw) (hp:CH) (c kp gp:Nat) (P:List DB):Prop where
 hc:gc hp c=.bx [.ds (Ab B8 doc),.rw kp gp P.length]
 hk:gc hp kp=.rw gp 8 (Ab Bi P)
def JS (doc:List Aw) (c kp gp:Nat) (P R:List DB):CH :=
 [(kp,.rw (gp+R.length) 8 (Ab Bi (P++R))),(c,.bx [.ds (Ab B8 doc),.rw kp (gp+R.length) (P.length+R.length)])]
section
variable {doc:List Aw} {hp:CH} {c kp gp:Nat} {P R:List DB}
section
variable {n:Nat} {Al:CH}
theorem RunS.n2 (h:RunS doc hp c kp gp P):¬c=kp:=fun e=>by have:=h.hc;rw [e,h.hk] at this;cases this
theorem RunS.lt (h:RunS doc hp c kp gp P) (hf:∀k,n<=k->gc hp k=.no):c<n∧kp<n :=
 ⟨Ca hf h.hc (fun e=>by cases e),Ca hf h.hk (fun e=>by cases e)⟩
theorem RunS.wsLt (h:RunS doc hp c kp gp P) (hf:∀k,n<=k->gc hp k=.no):wsLt n (JS doc c kp gp P R):=by
 obtain ⟨h1,h3⟩:=h.lt hf
 refine ⟨h3,trivial,h1,?_,trivial⟩
 intro U hα
 simp only [zlw,List.not_mem_nil,or_false] at hα
 rcases hα with rfl | rfl
 .rfl
 .exact h3
theorem Jh (h1:gc Al kp=.rw (gp+R.length) 8 (Ab Bi (P++R))) (h2:gc Al c=.bx [.ds (Ab B8 doc),.rw kp (gp+R.length) (P.length+R.length)])
 (h4:∀j,j<n->j≠c->j≠kp->gc Al j=gc hp j):Up n (JS doc c kp gp P R++hp) Al:=fun j hj=>by
 simp only [JS,zlh,zli]
 by_cases e1:kp=j
 .subst e1;rw [Ax,h1]
 .rw [Ai _ _ e1]
  by_cases e2:c=j
  .subst e2;rw [Ax,h2]
  .rw [Ai _ _ e2]
   exact h4 j hj (fun e=>e2 e.symm) (fun e=>e1 e.symm)
theorem RunS.of (h:RunS doc hp c kp gp P) (e:∀j,(j=c∨j=kp)->gc Al j=gc hp j):RunS doc Al c kp gp P :=
 ⟨(e c (.inl rfl)).trans h.hc,(e kp (.inr rfl)).trans h.hk⟩
theorem K1 {n0:Nat} (h:RunS doc hp c kp gp P) (h1:c<n0) (h3:kp<n0):JQ hp n0 (keys (JS doc c kp gp P R)) (JS doc c kp gp P R):=by
 refine ⟨h3,by rw [h.hk];trivial,trivial,h1,by rw [h.hc];trivial,⟨rfl,?_,trivial⟩,trivial⟩
 show kp∈[kp,c];simp
theorem RunS.app (h:gc hp c=.bx [.ds (Ab B8 doc),.rw kp (gp+R.length) (P.length+R.length)]) (h2:gc hp kp=.rw (gp+R.length) 8 (Ab Bi (P++R))):RunS doc hp c kp (gp+R.length) (P++R) :=
 ⟨by rw [h,zld],h2⟩
end
end
def Og (doc:List Aw) (l:List Pk):Prop:=∀(v data:Ag) (path:List Ag) (hp:CH) (c kp gp:Nat) (P:List DB) (n:Nat),Sz l v->v.k=6->data.Fit->path.length+AG v<=1000000000->RunS doc hp c kp gp P ->
 P.length+(Cx doc l v data path).length<=100000000000->AU prog 29 hp n [.bx c 0,vx v,.ds (Ab AJ l),vx data,.ds (Ab Ar path)] (JS doc c kp gp P (Cx doc l v data path)++hp) n (.tp [])
def Aoy (doc:List Aw) (q:Pk):Prop:=∀(raw d:Ag) (path:List Ag) (hp:CH) (c kp gp:Nat) (P:List DB) (n:Nat),Sz q.picks raw->d.Fit->path.length<=2000000000->(raw.k=5∨raw.k=6->path.length+AG raw<=1000000000)->RunS doc hp c kp gp P ->
 P.length+(Cb (Cx doc q.picks) raw d path).length<=100000000000->AU prog 98 hp n [.bx c 0,vx raw,pkx q,vx d,.ds (Ab Ar path)] (JS doc c kp gp P (Cb (Cx doc q.picks) raw d path)++hp) n (.tp [])
inductive WkS
 | mk (j:Nat) (l:List DB) (n:Nat)
theorem Abq (doc:List Aw) (q:Pk) (H:Og doc q.picks):Aoy doc q:=by
 intro raw
 refine Ag.ind (Q:=fun raw=>∀(d:Ag) (path:List Ag) (hp:CH) (c kp gp:Nat) (P:List DB) (n:Nat),Sz q.picks raw->d.Fit->path.length<=2000000000->(raw.k=5∨raw.k=6->path.length+AG raw<=1000000000)->RunS doc hp c kp gp P ->
  P.length+(Cb (Cx doc q.picks) raw d path).length<=100000000000->AU prog 98 hp n [.bx c 0,vx raw,pkx q,vx d,.ds (Ab Ar path)] (JS doc c kp gp P (Cb (Cx doc q.picks) raw d path)++hp) n (.tp [])) (fun raw ih d path hp c kp gp P n sz hd FM hb hR Da=>?_) raw
 have Dg:∀R,(∀k,n<=k->gc hp k=.no)->wsLt n (JS doc c kp gp P R):=fun R hf=>hR.wsLt hf
 have hri:=sz.fit.i
 have hdi:=hd.i
 have n2:=hR.n2
 have m2:¬kp=c:=fun e=>n2 e.symm
 by_cases k5:raw.k=5∧d.k=5
 .obtain ⟨R,A9⟩:=A5 (Cb (Cx doc q.picks) raw d path)
  rw [A9] at Da ⊢
  rw [Cq,iP k5] at A9
  have hb:=hb (.inl k5.1)
  have Dg:=Dg R
  refine BR func98 (tA cc98) (tB cc98) (tC cc98) rfl Dg fun hf=>?_;unfold ck98
  obtain ⟨l1,l3⟩:=hR.lt hf
  have hc:=hR.hc
  have hk:=hR.hk
  simp (disch:=omega) only [dT k5.1,dT k5.2,go_sem]
  refine loop (fun p:WkS=>match p with
   | .mk j L n'=>⟨[(0,.bx c 0),(4,.ds (Ab Ar path)),(6,.bx n 0),(7,.bx (n+1) 0),(8,.bx (n+2) 0),(10,.i .i64 j)],(kp,.rw (gp+L.length) 8 (Ab Bi (P++L)))::(c,.bx [.ds (Ab B8 doc),.rw kp (gp+L.length) (P.length+L.length)]) ::
    (n,.bx [.i .i64 raw.k,.i .i64 raw.n,.s raw.s,.ds (Ab Ar raw.items),.ds (Bd raw.keys)])::(n+1,.bx [.s q.key,.s q.on,.s q.name,.ds (Ab BB q.args),.s q.tn,.ds (Ab D0 q.tw),.s q.label,.i .i64 q.initial,.ds (Ab AJ q.picks)])::(n+2,.bx [.i .i64 d.k,.i .i64 d.n,.s d.s,.ds (Ab Ar d.items),.ds (Bd d.keys)])::hp,n'⟩)
   (fun p=>match p with | .mk j L n'=>j<=raw.items.length∧n+3<=n'∧R=L++Dy (Cx doc q.picks) (raw.items.drop j) (d.items.drop j) j path) (fun p=>match p with | .mk j L n'=>raw.items.length - j) (.mk 0 [] (n+3)) ?_ ?_ (fun p hj=>?_)
  .exact ⟨Nat.zero_le _,zna _,A9.symm⟩
  .dsimp only
   refine X0 hf ?_ ?_ ?_ ?_ ?_ ?_ (fun a ha c7=>?_) (zna _)
   .simp (disch:=omega) only [go_sem]
   .simp (disch:=omega) only [hk,zg,zle,Nat.add_zero,go_sem]
   .simp (disch:=omega) only [hc,n2,m2,zg,zle,Nat.add_zero,go_sem]
   .simp (disch:=omega) only [go_sem]
   .simp (disch:=omega) only [go_sem]
   .simp (disch:=omega) only [go_sem]
   .repeat rw [Ai _ _ (by omega)]
  obtain ⟨j,L,n'⟩:=p
  obtain ⟨Cg,Bc,As⟩:=hj
  have BC:n<=n':=by omega
  dsimp only
  simp (disch:=omega) only [n2,m2,go_sem]
  have hLR:L.length<=R.length:=by rw [As,zld];omega
  refine Ae (fun g=>?_) (fun g=>?_)
  case' refine_2=>
   have g:¬(j<raw.items.length∧j<d.items.length):=by simpa using g
   have e:Dy (Cx doc q.picks) (raw.items.drop j) (d.items.drop j) j path=[]:=by
    rcases Nat.lt_or_ge j raw.items.length with o | o
    .have e0:d.items.drop j=[]:=z1i (by omega)
     rw [e0,Em]
    .have e0:raw.items.drop j=[]:=z1i o
     rw [e0,Dy]
   rw [e,zg] at As
   subst As
   simp (disch:=omega) only [go_sem]
   refine Jh ?_ ?_ fun j' Nv j1 j3=>?_
   .simp (disch:=omega) only [n2,m2,go_sem]
   .simp (disch:=omega) only [n2,m2,go_sem]
   . (repeat rw [Ai _ _ (by omega)])
  have g:j<raw.items.length∧j<d.items.length:=by simpa using g
  obtain ⟨g1,g2⟩:=g
  obtain ⟨x,ex⟩:∃x,raw.items[j]?=some x:=⟨raw.items[j],by simp [g1]⟩
  obtain ⟨y,ey⟩:∃x,d.items[j]?=some x:=⟨d.items[j],by simp [g2]⟩
  have Jy:=zla ex
  have hxw:=B1 Jy
  have hvw:=AE raw
  have hyf:=hd.x (zla ey)
  rw [A2 ex,A2 ey,Dy] at As
  have szx:Sz q.picks x:=sz.le sz.p (sz.r.x Jy) (by omega) (zna _)
  obtain ⟨W,hW⟩:=A5 (Cb (Cx doc q.picks) x y (path++[Fo (j:Nat)]))
  rw [hW] at As
  have hWl:L.length+W.length<=R.length:=by rw [As,zld,zld];omega
  have hX:=fun Al n' (e1:RunS doc Al c kp (gp+L.length) (P++L))=>ih x Jy y (path++[Fo (j:Nat)]) Al c kp (gp+L.length) (P++L) n' szx hyf (by simp;omega) (fun _=>by simp;omega) e1 (by rw [hW,zld];omega)
  rw [hW] at hX
  have hI:=LI (j:Nat)
  have hJ:=I6 path [Fo (j:Nat)] (by simp;omega)
  simp (disch:=omega) only [g1,g2,n2,m2,Ad (Aa Ar ex),Ad (Aa Ar ey),go_sem]
  refine Aq.f (fun _ _ _=>hI _ _) ?_
  simp (disch:=omega) only [g1,g2,n2,m2,Ad (Aa Ar ex),Ad (Aa Ar ey),go_sem]
  refine Aq.f (fun _ _ _=>hJ _ _) ?_
  simp (disch:=omega) only [g1,g2,n2,m2,Ad (Aa Ar ex),Ad (Aa Ar ey),go_sem]
  refine Aq.w (ws:=JS doc c kp (gp+L.length) (P++L) W) (K1 ⟨?_,?_⟩ (by omega) (by omega)) rfl (fun Al e=>hX Al _ ⟨(e c (.inl (by omega))).trans ?_,(e kp (.inl (by omega))).trans ?_⟩) ?_
  case refine_5=>
   simp only [JS,zlh,zli]
   simp (disch:=omega) only [n2,m2,go_sem]
   refine ⟨.mk (j+1) (L++W) (n'+60),⟨show j+1<=raw.items.length by omega,show n+3<=n'+60 by omega,by show _=_;rw [As,zlf]⟩,by show raw.items.length - (j+1)<raw.items.length - j;omega,?_⟩
   dsimp only
   refine X0 hf ?_ ?_ ?_ ?_ ?_ ?_ (fun a ha c7=>?_) (by omega)
   .simp (disch:=omega) only [Ap j (by omega),go_sem]
   .simp (disch:=omega) only [zld,zlf,Nat.add_assoc,go_sem]
   .simp (disch:=omega) only [n2,m2,zld,zlf,Nat.add_assoc,go_sem]
   .simp (disch:=omega) only [go_sem]
   .simp (disch:=omega) only [go_sem]
   .simp (disch:=omega) only [go_sem]
   .simp only [zlw,List.not_mem_nil,or_false,not_or] at c7
    repeat rw [Ai _ _ (by omega)]
  all_goals (simp (disch:=omega) only [n2,m2,zld,go_sem])
 by_cases k6:raw.k=6∧d.k=6
 .have hb:=hb (.inr k6.1)
  have e:Cb (Cx doc q.picks) raw d path=Cx doc q.picks raw d path:=by rw [Cq,iN k5,iP k6]
  rw [e] at Da ⊢
  have hV:=fun Al n' (e1:RunS doc Al c kp gp P)=>H raw d path Al c kp gp P n' sz k6.1 hd hb e1 Da
  obtain ⟨R,A9⟩:=A5 (Cx doc q.picks raw d path)
  rw [A9] at Da hV ⊢
  have Dg:=Dg R
  have hc:=hR.hc
  have hk:=hR.hk
  have n5:¬raw.k=5:=by rw [k6.1];decide
  refine BR func98 (tA cc98) (tB cc98) (tC cc98) rfl Dg fun hf=>?_;unfold ck98
  obtain ⟨l1,l3⟩:=hR.lt hf
  simp (disch:=omega) only [dF n5,dT k6.1,dT k6.2,go_sem]
  refine Ac.x (hV _ _ (hR.of fun j hj=>by repeat rw [Ai _ _ (by omega)])) ?_
  simp only [JS,zlh,zli]
  simp (disch:=omega) only [go_sem]
  refine Jh ?_ ?_ fun j' Nv j1 j3=>?_
  .simp (disch:=omega) only [n2,m2,go_sem]
  .simp (disch:=omega) only [n2,m2,go_sem]
  .simp only [A8]
   repeat rw [iN (by omega)]
 .have e:Cb (Cx doc q.picks) raw d path=[]:=by rw [Cq,iN k5,iN k6]
  rw [e] at Da ⊢
  have Dg:=Dg []
  have hc:=hR.hc
  have hk:=hR.hk
  have j4:∀Al:CH,(∀j,j<n->gc Al j=gc hp j)->Up n (JS doc c kp gp P []++hp) Al:=fun Al h=>by
   by_cases Da:c<n∧kp<n
   .exact Jh (by rw [h kp Da.2,hk,zg];rfl) (by rw [h c Da.1,hc];rfl) fun j hj _ _=>h j hj
   .intro j hj
    rw [h j hj]
    simp only [JS,zlh,zli]
    by_cases e1:kp=j
    .subst e1;rw [Ax,hk,zg];rfl
    .rw [Ai _ _ e1]
     by_cases e2:c=j
     .subst e2;rw [Ax,hc];rfl
     .rw [Ai _ _ e2]
  refine BR func98 (tA cc98) (tB cc98) (tC cc98) rfl Dg fun hf=>?_;unfold ck98
  obtain ⟨l1,l3⟩:=hR.lt hf
  by_cases a5:raw.k=5
  .have n5:¬d.k=5:=fun h=>k5 ⟨a5,h⟩
   have n6:¬raw.k=6:=by rw [a5];decide
   simp (disch:=omega) only [dT a5,dF n5,dF n6,go_sem]
   refine j4 _ fun j' Nv=>?_
   simp only [A8]
   repeat rw [iN (by omega)]
  .by_cases a6:raw.k=6
   .have n6:¬d.k=6:=fun h=>k6 ⟨a6,h⟩
    simp (disch:=omega) only [dF a5,dT a6,dF n6,go_sem]
    refine j4 _ fun j' Nv=>?_
    simp only [A8]
    repeat rw [iN (by omega)]
   .simp (disch:=omega) only [dF a5,dF a6,go_sem]
    refine j4 _ fun j' Nv=>?_
    simp only [A8]
    repeat rw [iN (by omega)]
