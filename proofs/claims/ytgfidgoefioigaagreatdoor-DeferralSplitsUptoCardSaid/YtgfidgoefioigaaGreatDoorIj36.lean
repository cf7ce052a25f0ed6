/- Proof. Conditions: none. -/
import Derived.Test.YtgfidgoefioigaaGreatDoorIj35
noncomputable section
open List renaming flatMap_def->z3h,flatten_nil->z1u,all_cons->z29
open Option renaming getD_some->zc
open Nat renaming le_refl->zx
open Bool renaming true_and->zv,and_assoc->z2y
open Go.Proofs.Tryz
open List renaming mem_of_getElem?->zla,drop_length->zll,flatten_cons->zlt
namespace Go.Proofs.YtgfidgoefioigaaGreatDoor
open Go.Eng
set_option linter.all false
set_option maxRecDepth 20000
section
variable {f g:PF} {doc:List Aw} {l:List Pk} {q:Pk} {x v:Ag} {on:qB}
theorem SA:∀(xs ys:List Ag) (j:Nat) (path:List Ag),(∀(i:Nat) a b,xs[i]?=some a->ys[i]?=some b->∀path,Cb f a b path=Cb g a b path)->Dy f xs ys j path=Dy g xs ys j path
 | [],ys,j,path,_=>by rw [Dy,Dy]
 |x::xs,[],j,path,_=>by rw [Em,Em]
 |x::xs,y::ys,j,path,h=>by
  rw [Dy,Dy]
  rw [h 0 x y rfl rfl,SA xs ys (j+1) path fun i a b ha hb=>h (i+1) a b (by simpa using ha) (by simpa using hb)]
theorem YE (F:∀v d path,Cm doc l v d->v.k=6->d.k=6->f v d path=g v d path) (x:Ag):∀y path,Cm doc l x y->Cb f x y path=Cb g x y path:=by
 refine Ag.ind (Q:=fun x=>∀y path,Cm doc l x y->Cb f x y path=Cb g x y path) (fun x ih y path h=>?_) x
 rw [Cq,Cq]
 split
 .rename_i c
  exact SA _ _ _ _ fun i a b ha hb path=>ih a (zla ha) b path ((Tt h c.1 c.2).2 i a b ha hb)
 .split
  .rename_i c
   exact F _ _ _ h c.1 c.2
  .rfl
theorem Mu (f:PF):∀(xs ys:List Ag) (n j:Nat) (path:List Ag),ys.length<=n->Dy f (xs.take n) ys j path=Dy f xs ys j path
 | [],ys,n,j,path,h=>by rw [List.take_nil]
 |x::xs,[],n,j,path,h=>by rw [Em,Em]
 |x::xs,y::ys,0,j,path,h=>by simp at h
 |x::xs,y::ys,n+1,j,path,h=>by
  rw [List.take_succ_cons,Dy,Dy]
  rw [Mu f xs ys n (j+1) path (by simpa using h)]
theorem NH (q:Pk) (x:Ag):(BV q x).k=x.k:=by
 unfold BV
 split<;>rfl
theorem Rx (h:x.k=5):(BV q x).items=x.items.take (I5 q.initial x.items.length):=by
 unfold BV
 rw [iP h]
 rfl
theorem Rj (f:PF) {y:Ag} (h:Cm doc l (BV q x) y) (path:List Ag):Cb f (BV q x) y path=Cb f x y path:=by
 by_cases h5:x.k=5
 .rw [Cq,Cq,NH]
  by_cases y5:y.k=5
  .rw [iP ⟨h5,y5⟩,iP ⟨h5,y5⟩,Rx h5]
   refine Mu _ _ _ _ _ _ ?_
   rw [(Tt h (by rw [NH];exact h5) y5).1,Rx h5,List.length_take]
   omega
  .have n6:¬(x.k=6∧y.k=6):=fun c=>by rw [h5] at c;exact absurd c.1 (by decide)
   have n5:¬(x.k=5∧y.k=5):=fun c=>y5 c.2
   rw [iN n5,iN n6,iN n5,iN n6]
 .have:BV q x=x:=iN h5
  rw [this]
def EW (doc:List Aw) (on:qB) (q:Pk) (ini:Int) (c:Ag):Gt:=A7 doc (EV [sT,q.key] [CW on,c]) on [] [B5 q ini] []
theorem K4 {key:qB} (hk:key≠sT) (c:Ag):AA (EV [sT,key] [CW on,c]) sT=some (CW on)∧AA (EV [sT,key] [CW on,c]) key=some c:=by
 constructor
 .unfold EV
  rw [Hd]
  simp [ix]
 .unfold EV
  rw [Hd]
  simp [ix,hk]
theorem ZF (doc:List Aw) (on:qB) (q:Pk) (i i':Int) {c c':Ag} (h:EA c c') (hk:q.key≠sT):EW doc on q i c=EW doc on q i' c':=by
 have g1:=K4 (on:=on) hk c
 have g2:=K4 (on:=on) hk c'
 have hs:EA (EV [sT,q.key] [CW on,c]) (EV [sT,q.key] [CW on,c']):=by
  have key:∀k,(k=sT∨k=q.key)∨(AA (EV [sT,q.key] [CW on,c]) k=none∧AA (EV [sT,q.key] [CW on,c']) k=none):=fun k=>by
   by_cases c1:k=sT
   .exact .inl (.inl c1)
   .by_cases c2:k=q.key
    .exact .inl (.inr c2)
    .right
     unfold EV
     rw [Hd,Hd]
     simp [ix,c1,c2]
  refine .obj _ _ rfl rfl rfl (fun k=>?_) fun k a b ha hb=>?_
  .rcases key k with (rfl | rfl) | ⟨e1,e2⟩
   .rw [g1.1,g2.1]
   .rw [g1.2,g2.2];rfl
   .rw [e1,e2]
  .rcases key k with (rfl | rfl) | ⟨e1,e2⟩
   .rw [g1.1] at ha;rw [g2.1] at hb;cases ha;cases hb;exact .refl _
   .rw [g1.2] at ha;rw [g2.2] at hb;cases ha;cases hb;exact h
   .rw [e1] at ha;cases ha
 unfold EW
 rw [hs.cpl doc,CV]
 unfold JW
 have h6:(EV [sT,q.key] [CW on,c']).k=6:=rfl
 rw [h6]
 simp only [show ¬(6:Int)=9 by decide,show ¬(6:Int)=0 by decide,show ¬(6:Int)=5 by decide,if_false]
 rw [GB doc on (.inr h6)]
 split
 .rfl
 split
 .rfl
 split
 .rfl
 .rename_i y6 _
  split
  .unfold H0 Gx
   have hf:∀i:Int,([B5 q i].filter fun p=>decide (p.on=y6))=if q.on=y6 then [B5 q i] else []:=fun i=>by
    rw [List.filter_cons]
    by_cases c:q.on=y6
    .rw [iP c,iP (dT (show (B5 q i).on=y6 from c))];rfl
    .rw [iN c,iN (by rw [dF (show ¬(B5 q i).on=y6 from c)];decide)];rfl
   rw [hf i,hf i']
   split
   .rfl
   .rfl
  .rfl
theorem Aai (ini:Int) (hk:q.key≠sT) (IH:q.on=on) (x:Ag):(AA (EW doc on q ini (Eu q x)).1 q.key).getD A6=A6∨Cm doc q.picks x ((AA (EW doc on q ini (Eu q x)).1 q.key).getD A6):=by
 by_cases h6:(EW doc on q ini (Eu q x)).1.k=6
 .right
  obtain ⟨y6,k6,ho,_,_,e1,e2,_,_⟩:=YS (v:=EV [sT,q.key] [CW on,Eu q x]) h6
  have g:=K4 (on:=on) hk (Eu q x)
  have:y6=on:=by
   unfold typO at ho
   rw [g.1] at ho
   dsimp only at ho
   rw [iP (by rfl)] at ho
   exact (Option.some.inj ho).symm
  subst this
  have hg:=M7 (doc:=doc) (v:=EV [sT,q.key] [CW y6,Eu q x]) k6 (on:=y6) (path:=[]) (picks:=[B5 q ini]) (fun i j p r w9 hp hr=>by
   match j,w9,hr with
   |j+1,_,hr=>simp at hr) (q:=B5 q ini) (by simp) IH
  have p6:(B5 q ini).key=q.key:=rfl
  rw [p6,g.2,zc] at hg
  unfold EW
  rw [e1,e2,hg,zc,D5]
  exact ⟨_,_,_,rfl⟩
 .left
  unfold AA
  rw [iN h6]
  rfl
theorem Fy (doc:List Aw) (cut:Ag->Ag) (f:PF) (on:qB) (q:Pk) (ini:Int) (BM:List Ag) (x:Ag) (r:List Ag) (j:Nat) :
 DN doc cut f on q.key (B5 q ini) BM (x::r) j=.mk ⟨#[]⟩ (BM++[Fo j]) ((AA (EW doc on q ini (cut x)).1 q.key).getD A6) (Ef (EW doc on q ini (cut x)).2 (BM++[Fo j]) 1) ::
  (Cb f x ((AA (EW doc on q ini (cut x)).1 q.key).getD A6) (BM++[Fo j])++DN doc cut f on q.key (B5 q ini) BM r (j+1)):=by rw [DN];rfl
theorem Acf (f:PF) (x:Ag) (path:List Ag):Cb f x A6 path=[]:=by
 rw [Cq,iN (fun c=>absurd c.2 (by decide)),iN (fun c=>absurd c.2 (by decide))]
theorem XU (hk:q.key≠sT) (IH:q.on=on) (hi:Ej q.picks) (F:∀v d path,Cm doc q.picks v d->v.k=6->d.k=6->f v d path=g v d path) (BM:List Ag) :
 ∀(l:List Ag) (j:Nat),DN doc (Eu q) f on q.key (B5 q q.initial) BM l j=DN doc (F9 q) g on q.key (B5 q (-1)) BM l j
 | [],j=>by rw [DN,DN]
 |x::l,j=>by
  have e:EW doc on q q.initial (Eu q x)=EW doc on q (-1) (F9 q x):=ZF doc on q _ _ (by rw [D5,Ed];exact Ts hi x) hk
  rw [Fy,Fy,<-e,XU hk IH hi F BM l (j+1)]
  rcases Aai (doc:=doc) q.initial hk IH x with h | h
  .rw [h,Acf,Acf]
  .rw [YE F x _ _ h]
theorem XG (hk:q.key≠sT) (h1:-1<=q.initial) (hi:Ej q.picks) {data:Ag} (IH:q.on=typF v) (hc:Cm doc q.picks (BV q (AW v q)) (AW data q)) (F:∀v d path,Cm doc q.picks v d->v.k=6->d.k=6->Cx doc q.picks v d path=Dd doc q.picks v d path) (path:List Ag) :
 C3 doc q v data path=GI doc q v data path:=by
 rw [Hl,Kg]
 unfold OE Ya
 have hw:Cb (Cx doc q.picks) (AW v q) (AW data q) (path++[CW q.key])=Cb (Dd doc q.picks) (AW v q) (AW data q) (path++[CW q.key]):=by
  rw [<-Rj _ hc,<-Rj _ hc]
  exact YE F _ _ _ hc
 by_cases c:q.initial=-1∨¬(AW data q).k=5∨¬(AW v q).k=5
 .rw [iP c,iN (by omega),List.append_nil]
  exact hw
 .rw [iN c,iP (by omega),<-hw]
  have r5:(AW v q).k=5:=by omega
  have d5:(AW data q).k=5:=by omega
  congr 1
  .rw [<-Rj _ hc]
   rw [Cq,Cq,iP ⟨rfl,d5⟩,iP ⟨by rw [NH];exact r5,d5⟩,Rx r5]
   rfl
  .have e:(AW v q).items.drop (I5 q.initial (AW v q).items.length)=(AW v q).items.drop q.initial.toNat∧(I5 q.initial (AW v q).items.length=q.initial.toNat∨(AW v q).items.drop q.initial.toNat=[]):=by
    unfold I5
    rw [iN (by omega)]
    rcases Nat.lt_or_ge (AW v q).items.length q.initial.toNat with o | o
    .rw [Nat.min_eq_right (by omega),zll,List.drop_eq_nil_of_le (by omega)]
     exact ⟨rfl,.inr rfl⟩
    .rw [Nat.min_eq_left o]
     exact ⟨rfl,.inl rfl⟩
   rw [e.1]
   rcases e.2 with e2 | e2
   .rw [e2]
    exact XU hk IH hi F _ _ _
   .rw [e2,DN,DN]
theorem Xu (hn:HE l) (F:∀q∈l,∀v d path,Cm doc q.picks v d->v.k=6->d.k=6->Cx doc q.picks v d path=Dd doc q.picks v d path) {d:Ag} (path:List Ag) (hc:Cm doc l v d) (v6:v.k=6) (d6:d.k=6) :
 Cx doc l v d path=Dd doc l v d path:=by
 rw [Ke,N0]
 have hp:∀name,∀d',d'.k=6->Cm doc (AB (typF v) name l) v d'->(AB (typF v) name l).flatMap (fun q=>C3 doc q v d' path)=(AB (typF v) name l).flatMap (fun q=>GI doc q v d' path):=fun name d' k6 Mt=>by
  have:∀q∈AB (typF v) name l,C3 doc q v d' path=GI doc q v d' path:=fun q hq=>by
   obtain ⟨m1,m2,q',hq',m3,rfl⟩:=Ee hq
   obtain ⟨n1,n2,n3⟩:=(hn.par (typF v) name).p _ hq
   exact XG n2 n1 (hn.x q' hq').ini m1 (X2 (hn.par _ _) Mt k6 hq m1 m2) (F q' hq') path
  rw [z3h,z3h,List.map_congr_left this]
 congr 1
 .congr 1
  funext name
  rw [Kn doc (hn.par (typF v) name).ini]
  congr 1
  by_cases c:(A7 doc (C5 (AB (typF v) name l) v) (typF v) [] (AM (AB (typF v) name l)) []).1.k=6
  .rw [iP c,iP c]
   exact hp name _ c ⟨_,_,_,by rw [Kn doc (hn.par (typF v) name).ini]⟩
  .rw [iN c,iN c]
 .have:∀q∈AB (typF v) ⟨#[]⟩ l,C3 doc q v d path=GI doc q v d path:=fun q hq=>by
   obtain ⟨m1,m2,q',hq',m3,rfl⟩:=Ee hq
   obtain ⟨n1,n2,n3⟩:=(hn.par (typF v) ⟨#[]⟩).p _ hq
   have Mt:=X2 hn hc d6 hq' m1 m3
   exact XG n2 n1 (hn.x q' hq').ini m1 Mt (F q' hq') path
  rw [z3h,z3h,List.map_congr_left this]
theorem Afg (doc:List Aw) (p:Pk):HE p.picks->∀v d path,Cm doc p.picks v d->v.k=6->d.k=6->Cx doc p.picks v d path=Dd doc p.picks v d path :=
 Pk.ind (Q:=fun p=>HE p.picks->∀v d path,Cm doc p.picks v d->v.k=6->d.k=6->Cx doc p.picks v d path=Dd doc p.picks v d path) (fun p ih h v d path hc v6 d6=>Xu h (fun q hq=>ih q hq (h.x q hq)) path hc v6 d6) p
theorem Wd (doc:List Aw) (root:qB) (hn:HE l) (raw:Ag):GA doc root l raw=Ri doc root l raw:=by
 unfold GA Ri
 rw [Kn doc hn.ini]
 congr 2
 by_cases c:raw.k=6∧(A7 doc (C5 l raw) root [] (AM l) []).1.k=6
 .rw [iP c,iP c]
  exact Xu hn (fun q hq=>Afg doc q (hn.x q hq)) [] ⟨_,_,_,by rw [Kn doc hn.ini]⟩ c.1 c.2
 .rw [iN c,iN c]
end
open Go.Eng Go.KL
set_option maxRecDepth 100000
section
variable {L:List AV} {l:List (List AV)}
def ck909:CC:=cK (a:=cF [2] [] [] f9) (by delta f9;simp only [go_sem];rfl)
theorem cc909:A3 f9=(false,some ck909.erase,some [(.c 8 5 true),(.t 9),(.t 10)]):=by kernel_rfl
def ck929:CC:=cK (a:=cF [4,21] [] [] f29) (by delta f29;simp (config := { maxSteps := 9999999 }) only [go_sem];rfl)
theorem cc929:A3 f29=(false,some ck929.erase,some []):=by kernel_rfl
def ck956:CC:=cK (a:=cF [17] [107,119] [(118,[5,4])] f56) (by delta f56;simp (config := { maxSteps := 9999999 }) only [go_sem];rfl)
theorem cc956:A3 f56=(false,some ck956.erase,some []):=by kernel_rfl
def ck967:CC:=cK (a:=cF [15] [58,65] [] f67) (by delta f67;simp (config := { maxSteps := 9999999 }) only [go_sem];rfl)
theorem cc967:A3 f67=(false,some ck967.erase,some [(.t 10)]):=by kernel_rfl
theorem own:ownKnob prog.godebug=none:=by kernel_rfl
theorem Apv:Kids prog (· < prog.types.size):=kids_rows (by kernel_rfl) (by kernel_rfl)
theorem Ajp {t e:TypeId} (ht:t<prog.types.size) (hd:prog.underlying t=some (.slice e)):0<prog.cellsOf e:=Ae4 (by kernel_rfl) ht hd
theorem MX {U:Type} {c:U->List AV} {wt:U->Nat}:∀{l:List U},(∀x∈l,wt x<=Cf (c x))->(l.map wt).sum<=Er (Ab c l)
 | [],_=>by simp
 |x::l,h=>by
  have h1:=MX (c:=c) (wt:=wt) (l:=l) fun y hy=>h y (by simp [hy])
  have h2:=h x (by simp)
  rw [Cl,Er,List.map_cons,List.sum_cons]
  omega
theorem Bw {U:Type} {c:U->List AV} (h:∀x,1<=Cf (c x)):∀l:List U,l.length<=Er (Ab c l)
 | []=>by simp
 |x::l=>by
  have h1:=Bw h l
  have h2:=h x
  rw [Cl,Er,List.length_cons]
  omega
theorem Cv {x:List AV}:∀{l:List (List AV)},x∈l->Cf x<=Er l
 |y::l,h=>by
  rw [Er]
  rcases List.mem_cons.1 h with rfl | h
  .omega
  .have:=Cv h
   omega
theorem Adi (s:qB):1<=Cf (Cz s):=by simp [Cz,Cf,Gv]
theorem W3 (l:List Ag):Ci l=(l.map AG).sum:=by
 induction l with
 |nil=>rfl
 |cons x l ih=>rw [Ci,ih,List.map_cons,List.sum_cons]
theorem Abh (v:Ag):AG v+3<=Cf (Ar v):=by
 refine Ag.ind (Q:=fun v=>AG v+3<=Cf (Ar v)) (fun v ih=>?_) v
 rw [B4,AE,W3]
 have h1:=MX (c:=Ar) (wt:=AG) (l:=v.items) fun x hx=>by have:=ih x hx;omega
 have h2:v.keys.length<=Er (Bd v.keys):=Bw Adi v.keys
 simp only [Cf,Gv]
 omega
theorem Abr (h:FL prog 31 L):∃v:Ag,L=Ar v:=by
 suffices key:∀(n:Nat) (L:List AV),Cf L<=n->FL prog 31 L->∃v:Ag,L=Ar v from key _ L (zx _) h
 intro n
 induction n with
 |zero=>
  intro L hn h
  obtain ⟨parts,rfl,hl,hp⟩:=Bh underlying31 h
  obtain ⟨a,b,c,d,e,rfl⟩:=TN (show parts.length=5 from hl)
  obtain ⟨a,rfl,_⟩:=CY underlying3 (hp 0 _ a rfl rfl)
  simp [Cf,Gv] at hn
 |succ n ih=>
  intro L hn h
  obtain ⟨parts,rfl,hl,hp⟩:=Bh underlying31 h
  obtain ⟨a,b,c,d,e,rfl⟩:=TN (show parts.length=5 from hl)
  obtain ⟨a,rfl,_⟩:=CY underlying3 (hp 0 _ a rfl rfl)
  obtain ⟨b,rfl,_⟩:=CY underlying3 (hp 1 _ b rfl rfl)
  obtain ⟨c,rfl,_⟩:=Bb underlying9 (hp 2 _ c rfl rfl)
  obtain ⟨l,rfl,_,hx⟩:=AQ underlying28 (hp 3 _ d rfl rfl)
  obtain ⟨k,rfl,_,hy⟩:=AQ underlying29 (hp 4 _ e rfl rfl)
  obtain ⟨vs,rfl,_⟩:=Eng.Fd (c:=Ar) fun x h=>ih x (by
   have:=Cv h
   simp [Cf,Gv] at hn
   omega) (hx x h)
  obtain ⟨ks,rfl,_⟩:=Eng.Fd (c:=Cz) fun x h=>by
   obtain ⟨s,rfl,_⟩:=Bb underlying9 (hy x h)
   exact ⟨s,rfl⟩
  exact ⟨.mk a b c vs ks,by rw [B4];rfl⟩
theorem Dj {β:Type} {c:β->List AV} {Q:β->Prop}:∀{l:List (List AV)},(∀x∈l,∃y,x=c y∧Q y)->∃m:List β,l=Ab c m∧∀y∈m,Q y
 | [],_=>⟨[],rfl,by simp⟩
 |x::l,h=>by
  obtain ⟨y,rfl,hy⟩:=h x (by simp)
  obtain ⟨m,e,hl⟩:=Dj (c:=c) (Q:=Q) (l:=l) fun z hz=>h z (by simp [hz])
  refine ⟨y::m,by rw [Cl,<-e],fun z hz=>?_⟩
  rcases List.mem_cons.1 hz with rfl | hz
  .exact hy
  .exact hl z hz
theorem Ah9 {n:Int} (h:(Lit.int .i64 n).wf=true):-9223372036854775808<=n∧n<=9223372036854775807:=by
 simp only [Lit.wf,Bool.and_eq_true,decide_eq_true_eq] at h
 exact h
theorem Aac (v:Ag):FL prog 31 (Ar v)->v.Rng:=by
 refine Ag.ind (Q:=fun v=>FL prog 31 (Ar v)->v.Rng) (fun v ih h=>?_) v
 rw [B4] at h
 obtain ⟨parts,e0,hl,hp⟩:=Bh underlying31 h
 obtain ⟨a,b,c,d,e,rfl⟩:=TN (show parts.length=5 from hl)
 obtain ⟨a,rfl,_⟩:=CY underlying3 (hp 0 _ a rfl rfl)
 obtain ⟨b,rfl,hb⟩:=CY underlying3 (hp 1 _ b rfl rfl)
 obtain ⟨c,rfl,_⟩:=Bb underlying9 (hp 2 _ c rfl rfl)
 obtain ⟨l,rfl,_,hx⟩:=AQ underlying28 (hp 3 _ d rfl rfl)
 obtain ⟨k,rfl,_,hy⟩:=AQ underlying29 (hp 4 _ e rfl rfl)
 simp only [zlt,z1u,List.cons_append,List.nil_append,List.cons.injEq,AV.i.injEq,AV.ds.injEq,true_and,and_true] at e0
 obtain ⟨_,e1,_,e2,_⟩:=e0
 have:=Ah9 hb
 refine .mk v (by omega) (by omega) fun x hx'=>ih x hx' (hx _ ?_)
 rw [<-e2]
 exact List.mem_map_of_mem (f:=Ar) hx'
structure VS (v:Ag):Prop where
 f:v.Fit
 r:v.Rng
 w:AG v<=1048576
theorem Iy (h:FL prog 31 L) (hb:Cf L<=1048576):∃v:Ag,L=Ar v∧VS v:=by
 obtain ⟨v,rfl⟩:=Abr h
 have:=Abh v
 exact ⟨v,rfl,⟨CZ v (by omega),Aac v h,by omega⟩⟩
theorem CX:∀a b:List AV,Cf (a++b)=Cf a+Cf b
 | [],b=>by simp [Cf]
 |x::a,b=>by rw [List.cons_append,Cf,Cf,CX a b];omega
theorem Y8 (h:FL prog 156 L) (hb:Cf L<=1048576):∃x:HD,L=BB x∧x.v.Fit:=by
 obtain ⟨parts,rfl,hl,hp⟩:=Bh underlying156 h
 obtain ⟨a,b,rfl⟩:=Ip (show parts.length=2 from hl)
 obtain ⟨a,rfl,_⟩:=Bb underlying9 (hp 0 _ a rfl rfl)
 simp only [zlt,z1u,CX,Cf,Gv] at hb
 obtain ⟨v,rfl,hv⟩:=Iy (hp 1 _ b rfl rfl) (by omega)
 refine ⟨.mk a v,?_,hv.f⟩
 rw [B4]
 rfl
theorem OJ (a:HD):1<=Cf (BB a):=by simp [BB,Cf,Gv];omega
theorem Ti (p:Pk):1<=Cf (AJ p):=by rw [BH];simp [Cf,Gv];omega
theorem Om (n:Int):1<=Cf (D0 n):=by simp [D0,Cf,Gv]
theorem Ak3 (p:Pk):I8 p<=Cf (AJ p):=by
 refine Pk.ind (Q:=fun p=>I8 p<=Cf (AJ p)) (fun p ih=>?_) p
 have key:∀l:List Pk,(∀x∈l,I8 x<=Cf (AJ x))->AF l<=Er (Ab AJ l):=by
  intro l
  induction l with
  |nil=>intro _;simp [AF]
  |cons x l ihl=>
   intro h
   have h1:=h x (by simp)
   have h2:=ihl fun y hy=>h y (by simp [hy])
   rw [AF,Cl]
   show _<=Cf (AJ x)+Er (Ab AJ l)
   omega
 have:=key p.picks ih
 rw [Cs,BH]
 simp only [Cf,Gv]
 omega
theorem Aey (l:List Pk):AF l<=Er (Ab AJ l):=by
 induction l with
 |nil=>simp [AF]
 |cons x l ih=>
  have:=Ak3 x
  rw [AF,Cl]
  show _<=Cf (AJ x)+Er (Ab AJ l)
  omega
theorem Xv (h:∀x∈l,FL prog 9 x):∃m,l=Bd m:=by
 obtain ⟨ks,rfl,_⟩:=Eng.Fd (c:=Cz) (l:=l) fun x hx=>by
  obtain ⟨s,rfl,_⟩:=Bb underlying9 (h x hx)
  exact ⟨s,rfl⟩
 exact ⟨ks,rfl⟩
theorem Ql (a:GR):1<=Cf (FT a):=by simp [FT,Cf,Gv];omega
theorem Yf (a:BN):1<=Cf (AD a):=by simp [AD,Cf,Gv];omega
theorem Q7 (h:FL prog 154 L) (hb:Cf L<=1048576):∃x:GR,L=FT x∧Nq x:=by
 obtain ⟨parts,rfl,hl,hp⟩:=Bh underlying154 h
 obtain ⟨a,b,rfl⟩:=Ip (show parts.length=2 from hl)
 obtain ⟨a,rfl,_⟩:=Bb underlying9 (hp 0 _ a rfl rfl)
 obtain ⟨l,rfl,_,hx⟩:=AQ underlying61 (hp 1 _ b rfl rfl)
 simp only [zlt,z1u,CX,Cf,Gv] at hb
 obtain ⟨al,rfl,ha⟩:=Dj (c:=BB) (Q:=fun a=>a.v.Fit) fun x h=>Y8 (hx x h) (by have:=Cv h;omega)
 have h2:=Bw OJ al
 exact ⟨.mk a al,rfl,by simp only [GR.args_mk];omega,ha⟩
theorem Jg (h:∀x∈l,FL prog 154 x) (hb:Er l<=1048576):EH l:=by
 obtain ⟨ds,rfl,hd⟩:=Dj (c:=FT) (Q:=Nq) fun x hx=>Q7 (h x hx) (by have:=Cv hx;omega)
 have h2:=Bw Ql ds
 exact ⟨ds,rfl,by omega,hd⟩
theorem Xm (h:FL prog 161 L) (hb:Cf L<=1048576):∃x:BN,L=AD x∧H7 x:=by
 obtain ⟨parts,rfl,hl,hp⟩:=Bh underlying161 h
 obtain ⟨a,b,c,d,e,rfl⟩:=TN (show parts.length=5 from hl)
 obtain ⟨a,rfl,_⟩:=Bb underlying9 (hp 0 _ a rfl rfl)
 obtain ⟨ts,rfl,G2,En⟩:=Bh underlying64 (hp 1 _ b rfl rfl)
 obtain ⟨t,u,rfl⟩:=Ip (show ts.length=2 from G2)
 obtain ⟨t,rfl,_⟩:=Bb underlying9 (En 0 _ t rfl rfl)
 obtain ⟨w,rfl,_,hy⟩:=AQ underlying62 (En 1 _ u rfl rfl)
 obtain ⟨ws,rfl,_⟩:=Eng.Fd (c:=D0) fun x h=>by
  obtain ⟨n,rfl,_⟩:=CY underlying3 (hy x h)
  exact ⟨n,rfl⟩
 obtain ⟨c,rfl⟩:=Xc underlying4 (hp 2 _ c rfl rfl)
 obtain ⟨l,rfl,_,hx⟩:=AQ underlying85 (hp 4 _ e rfl rfl)
 simp only [zlt,z1u,CX,Cf,Gv] at hb
 obtain ⟨v,rfl,hv⟩:=Iy (hp 3 _ d rfl rfl) (by omega)
 obtain ⟨ds,rfl,hd⟩:=Dj (c:=FT) (Q:=Nq) fun x h=>Q7 (hx x h) (by have:=Cv h;omega)
 have h2:=Bw Ql ds
 have h3:=Bw Om ws
 refine ⟨.mk a t ws c v ds,?_,by simp only [BN.tw_mk];omega,⟨hv.f,hv.r⟩,by simp only [BN.dirs_mk];omega,hd⟩
 rw [B4]
 rfl
theorem MU (h:∀x∈l,FL prog 161 x) (hb:Er l<=1048576):Es l:=by
 obtain ⟨ds,rfl,hd⟩:=Dj (c:=AD) (Q:=H7) fun x hx=>Xm (h x hx) (by have:=Cv hx;omega)
 have h2:=Bw Yf ds
 exact ⟨ds,rfl,by omega,hd⟩
theorem Xf (x:Cy):1<=Cf (Bv x):=by simp only [Bv,Cf,Gv];omega
theorem Wy {β:Type} {c:β->List AV} (hc:∀x,1<=Cf (c x)) (h:∀x∈l,∃y,x=c y):l.length<=Er l:=by
 obtain ⟨m,rfl,_⟩:=Eng.Fd (c:=c) h
 have:=Bw hc m
 rw [Ao]
 exact this
theorem Wv (h:FL prog 92 L) (hb:Cf L<=1048576):∃x:Cy,L=Bv x∧(Es x.args∧EH x.dirs∧x.tw.length<=1000000000):=by
 obtain ⟨parts,rfl,hl,hp⟩:=Bh underlying92 h
 obtain ⟨a,b,c,d,rfl⟩:=Acu (show parts.length=4 from hl)
 obtain ⟨a,rfl,_⟩:=Bb underlying9 (hp 0 _ a rfl rfl)
 obtain ⟨l,rfl,_,hx⟩:=AQ underlying88 (hp 1 _ b rfl rfl)
 obtain ⟨ts,rfl,G2,En⟩:=Bh underlying64 (hp 2 _ c rfl rfl)
 obtain ⟨t,u,rfl⟩:=Ip (show ts.length=2 from G2)
 obtain ⟨t,rfl,_⟩:=Bb underlying9 (En 0 _ t rfl rfl)
 obtain ⟨w,rfl,_,hy⟩:=AQ underlying62 (En 1 _ u rfl rfl)
 obtain ⟨l2,rfl,_,hz⟩:=AQ underlying85 (hp 3 _ d rfl rfl)
 simp only [zlt,z1u,CX,Cf,Gv] at hb
 have h3:=Wy Om (l:=w) fun x h=>by
  obtain ⟨n,rfl,_⟩:=CY underlying3 (hy x h)
  exact ⟨n,rfl⟩
 have hA:=MU hx (by omega)
 have hB:=Jg hz (by omega)
 exact ⟨.mk a l t w l2,rfl,hA,hB,by simp only [Cy.tw_mk];omega⟩
theorem Aag (s:qB):1<=Cf (Cz s):=by simp [Cz,Cf,Gv]
theorem Y4 (p:qB × List (List AV)):1<=Cf (L8 p):=by simp [L8,Cf,Gv];omega
structure DfnQ (t:Aw):Prop where
 ok:DefOk t
 im:t.impl.length<=1000000000000
 me:t.members.length<=1000000000000
 w:DfnW t
theorem WP (h:FL prog 90 L) (hb:Cf L<=1048576):∃x:Aw,L=B8 x∧DfnQ x:=by
 obtain ⟨parts,rfl,hl,hp⟩:=Bh underlying90 h
 match parts,hl,hp,hb with
 | [a,b,c,d,e,f,g],_,hp,hb=>
  obtain ⟨a,rfl,_⟩:=CY underlying3 (hp 0 _ a rfl rfl)
  obtain ⟨b,rfl,_⟩:=Bb underlying9 (hp 1 _ b rfl rfl)
  obtain ⟨c,rfl,_,hc⟩:=AQ underlying29 (hp 2 _ c rfl rfl)
  obtain ⟨d,rfl,_,hdd⟩:=AQ underlying85 (hp 3 _ d rfl rfl)
  obtain ⟨l,rfl,_,hx⟩:=AQ underlying86 (hp 4 _ e rfl rfl)
  obtain ⟨f,rfl,_,hm⟩:=AQ underlying87 (hp 5 _ f rfl rfl)
  obtain ⟨g,rfl,_,hi⟩:=AQ underlying88 (hp 6 _ g rfl rfl)
  simp only [zlt,z1u,CX,Cf,Gv] at hb
  obtain ⟨fs,rfl,Ku⟩:=Dj (c:=Bv) (Q:=fun x=>Es x.args∧EH x.dirs∧x.tw.length<=1000000000) fun x h=>Wv (hx x h) (by have:=Cv h;omega)
  have h1:=Bw Xf fs
  obtain ⟨cs,rfl⟩:=Xv hc
  have h2:cs.length<=Er (Bd cs):=Bw Aag cs
  have DF:∀e∈f,∃x y,e=[AV.s x,.ds y]∧EH y:=fun e he=>by
   obtain ⟨ps,rfl,hl3,hp3⟩:=Bh underlying159 (hm e he)
   obtain ⟨u,w,rfl⟩:=Ip (show ps.length=2 from hl3)
   obtain ⟨u,rfl,_⟩:=Bb underlying9 (hp3 0 _ u rfl rfl)
   obtain ⟨w,rfl,_,hw⟩:=AQ underlying85 (hp3 1 _ w rfl rfl)
   have hbe:=Cv he
   simp only [zlt,z1u,CX,Cf,Gv] at hbe
   exact ⟨u,w,rfl,Jg hw (by omega)⟩
  have h3:=Wy Y4 (l:=f) fun e he=>by
   obtain ⟨x,y,rfl,_⟩:=DF e he
   exact ⟨(x,y),rfl⟩
  have hA:=Jg hdd (by omega)
  have hB:=MU hi (by omega)
  refine ⟨.mk a b (Bd cs) d fs f g,rfl,⟨⟨?_,fun e he=>?_⟩,?_,?_,⟨hA,hB,?_,Ku,DF⟩⟩⟩
  .simp only [Aw.impl_mk];rw [Afh]
  .obtain ⟨x,y,e1,_⟩:=DF e he
   exact ⟨x,y,e1⟩
  .show (Ab Cz cs).length<=_
   rw [Ao]
   omega
  .simp only [Aw.members_mk];omega
  .simp only [Aw.fields_mk];omega
theorem ZG (x:Aw):1<=Cf (B8 x):=by simp only [B8,Cf,Gv];omega
structure DocQ (doc:List Aw):Prop where
 ok:DocOk doc
 w:∀t∈doc,DfnW t
structure CQ (doc:List Aw) (l:List Pk) (v:Ag):Prop where
 d:DocQ doc
 p:B6 l
 vs:VS v
 n:AG v+AF l<=1048576
theorem CQ.cnt {doc:List Aw} {l:List Pk} {v:Ag} (h:CQ doc l v):AG v*(1+AF l)<=1000000000000:=by
 have:=h.n
 have h1:=h.vs.w
 have h2:AG v*(1+AF l)<=1048576*(1+AF l):=Nat.mul_le_mul_right _ h1
 rcases Nat.lt_or_ge (AF l) 900000 with c | c
 .have h3:1048576*(1+AF l)<=1048576*900000:=Nat.mul_le_mul_left _ (by omega)
  omega
 .have h4:AG v*(1+AF l)<=200000*(1+AF l):=Nat.mul_le_mul_right _ (by omega)
  have h5:200000*(1+AF l)<=200000*1048577:=Nat.mul_le_mul_left _ (by omega)
  omega
theorem Rz {U:AV} (h:AS prog 31 U) (hb:Gv U<=1048576):∃v,U=vx v∧VS v:=by
 obtain ⟨L,rfl,h2⟩:=IX underlying31 h
 obtain ⟨v,rfl,hv⟩:=Iy h2 (by simpa [Gv] using hb)
 exact ⟨v,by rw [B4],hv⟩
end
set_option maxRecDepth 20000
set_option maxHeartbeats 1000000
def J0 (l:List (List AV)):List Int:=l.map fun e=>match e with
 | [.i _ n]=>n
 |_=>0
theorem Afb (l:List Int):J0 (Ab D0 l)=l:=by
 induction l with
 |nil=>rfl
 |cons x l ih=>
  have:J0 (Ab D0 (x::l))=x::J0 (Ab D0 l):=rfl
  rw [this,ih]
theorem IB (l:List (List AV)):(J0 l).length=l.length:=List.length_map ..
def fdR (f:Cy):Bool:=Gb f.n&&(N8 f.args&&(Oh f.tn (J0 f.tw)&&Mi f.dirs))
def fsR (l:List Cy):Bool:=decide (1<=l.length)&&(decide (l.length<=64)&&l.all fdR)
theorem Sk (l:List Cy) (hl:l.length<=1000000000) (hd:∀f∈l,Es f.args∧EH f.dirs∧f.tw.length<=1000000000∧f.tw=Ab D0 (J0 f.tw)) (hp:CH) (m:Nat):Af prog 80 hp m [.ds (Ab Bv l)] (.b (fsR l)):=by
 unfold fsR
 obtain ⟨R,hR⟩:=A5 (l.all fdR)
 rw [hR]
 refine Aj func80 (tA cc80) (tB cc80) (tC cc80) rfl fun hf=>?_;unfold ck80
 by_cases q1:l.length<1
 .have e1:decide (1<=l.length)=false:=dF (by omega)
  have e2:decide ((l.length:Int)<1)=true:=dT (by omega)
  simp (disch:=omega) only [e1,e2,go_sem]
  try simp
 have e1:decide (1<=l.length)=true:=dT (by omega)
 have e2:decide ((l.length:Int)<1)=false:=dF (by omega)
 by_cases q2:64<l.length
 .have e3:decide (l.length<=64)=false:=dF (by omega)
  have e4:decide ((64:Int)<(l.length:Int))=true:=dT (by omega)
  simp (disch:=omega) only [e1,e2,e3,e4,go_sem]
  try simp
 have e3:decide (l.length<=64)=true:=dT (by omega)
 have e4:decide ((64:Int)<(l.length:Int))=false:=dF (by omega)
 rw [e1,e3,zv,zv]
 simp (disch:=omega) only [e2,e4,go_sem]
 refine loop (fun p:Nat×Nat=>⟨[(0,.ds (Ab Bv l)),(3,.i .i64 p.1)],hp,p.2⟩) (fun p=>p.1<=l.length∧m<=p.2∧R=(l.drop p.1).all fdR) (fun p=>l.length - p.1) (0,m) ?_ ?_ (fun ⟨j,n⟩ hj=>?_)
 .exact ⟨by simp,by simp,hR.symm⟩
 .refine Di ?_
  simp only [go_sem]
 dsimp only at hj
 obtain ⟨Cg,Bc,As⟩:=hj
 simp (disch:=omega) only [go_sem]
 refine Ae (fun q=>?_) (fun q=>?_)
 case' refine_2=>
  have q:j=l.length:=by simp at q;omega
  subst q
  rw [zll] at As
  have As:R=true:=As
  subst As
  simp (disch:=omega) only [Bc,go_sem]
  try simp
 have q:j<l.length:=by simpa using q
 obtain ⟨x,ex⟩:∃x,l[j]?=some x:=⟨l[j],by simp [q]⟩
 obtain ⟨x1,x2,x3,x4⟩:=hd x (zla ex)
 rw [A2 ex,z29] at As
 have hN:=BW x.n
 have hI:=JH x.args x1
 have hX:=LO x.tn (J0 x.tw) (by rw [IB];omega)
 unfold D1 at hX
 rw [<-x4] at hX
 have hD:=Jj x.dirs x2
 have j4:fdR x=false->R=false:=fun e=>by rw [As,e];rfl
 unfold fdR at j4 As
 simp (disch:=omega) only [q,Ad (Aa Bv ex),go_sem]
 cases hn:Gb x.n with
 |false=>
  rw [hn] at hN j4
  obtain rfl:=j4 rfl
  refine Ac.f (hN _ _) ?_
  simp (disch:=omega) only [Bc,go_sem]
  repeat (refine BL ?_;(simp (disch:=omega) only [Bc,go_sem]))
  try simp
 |true=>
 rw [hn] at hN j4 As
 refine Ac.f (hN _ _) ?_
 simp (disch:=omega) only [q,Ad (Aa Bv ex),go_sem]
 cases hi:N8 x.args with
 |false=>
  rw [hi] at hI j4
  obtain rfl:=j4 rfl
  refine AH.f (fun _=>hI _ _) ?_
  simp (disch:=omega) only [Bc,go_sem]
  repeat (refine BL ?_;(simp (disch:=omega) only [Bc,go_sem]))
  try simp
 |true=>
 rw [hi] at hI j4 As
 refine AH.f (fun _=>hI _ _) ?_
 simp (disch:=omega) only [q,Ad (Aa Bv ex),go_sem]
 cases hx:Oh x.tn (J0 x.tw) with
 |false=>
  rw [hx] at hX j4
  obtain rfl:=j4 rfl
  refine AH.f (fun _=>hX _ _) ?_
  simp (disch:=omega) only [Bc,go_sem]
  repeat (refine BL ?_;(simp (disch:=omega) only [Bc,go_sem]))
  try simp
 |true=>
 rw [hx] at hX j4 As
 refine AH.f (fun _=>hX _ _) ?_
 simp (disch:=omega) only [q,Ad (Aa Bv ex),go_sem]
 cases hds:Mi x.dirs with
 |false=>
  rw [hds] at hD j4
  obtain rfl:=j4 rfl
  refine AH.f (fun _=>hD _ _) ?_
  simp (disch:=omega) only [Bc,go_sem]
  repeat (refine BL ?_;(simp (disch:=omega) only [Bc,go_sem]))
  try simp
 |true=>
 rw [hds] at hD j4 As
 refine AH.f (fun _=>hD _ _) ?_
 simp (disch:=omega) only [q,Ad (Aa Bv ex),go_sem]
 refine ⟨(j+1,_),⟨by dsimp only;omega,by dsimp only;omega,As⟩,by dsimp only;omega,Di ?_⟩
 simp (disch:=omega) only [Ap j (by omega),go_sem]
def Amv (e:List AV):qB:=match e with
 | .s x::_=>x
 |_=>⟨#[]⟩
def mbR (pl:Bool) (e:List AV):Bool:=Gb (Amv e)&&(Mi (Ah2 e)&&!(pl&&decide (0<(Ah2 e).length)))
def msR (pl:Bool) (l:List (List AV)):Bool:=decide (1<=l.length)&&(decide (l.length<=64)&&l.all (mbR pl))
theorem Qk (pl:Bool) (l:List (List AV)) (hl:l.length<=1000000000000) (hd:∀e∈l,∃x y,e=[AV.s x,.ds y]∧EH y) (hp:CH) (m:Nat):Af prog 81 hp m [.ds l,.b pl] (.b (msR pl l)):=by
 unfold msR
 obtain ⟨R,hR⟩:=A5 (l.all (mbR pl))
 rw [hR]
 refine Aj func81 (tA cc81) (tB cc81) (tC cc81) rfl fun hf=>?_;unfold ck81
 by_cases q1:l.length<1
 .have e1:decide (1<=l.length)=false:=dF (by omega)
  have e2:decide ((l.length:Int)<1)=true:=dT (by omega)
  simp (disch:=omega) only [e1,e2,go_sem]
  try simp
 have e1:decide (1<=l.length)=true:=dT (by omega)
 have e2:decide ((l.length:Int)<1)=false:=dF (by omega)
 by_cases q2:64<l.length
 .have e3:decide (l.length<=64)=false:=dF (by omega)
  have e4:decide ((64:Int)<(l.length:Int))=true:=dT (by omega)
  simp (disch:=omega) only [e1,e2,e3,e4,go_sem]
  try simp
 have e3:decide (l.length<=64)=true:=dT (by omega)
 have e4:decide ((64:Int)<(l.length:Int))=false:=dF (by omega)
 rw [e1,e3,zv,zv]
 simp (disch:=omega) only [e2,e4,go_sem]
 refine loop (fun p:Nat×Nat=>⟨[(0,.ds l),(1,.b pl),(5,.i .i64 p.1)],hp,p.2⟩) (fun p=>p.1<=l.length∧m<=p.2∧R=(l.drop p.1).all (mbR pl)) (fun p=>l.length - p.1) (0,m) ?_ ?_ (fun ⟨j,n⟩ hj=>?_)
 .exact ⟨by simp,by simp,hR.symm⟩
 .refine Di ?_
  simp only [go_sem]
 dsimp only at hj
 obtain ⟨Cg,Bc,As⟩:=hj
 simp (disch:=omega) only [go_sem]
 refine Ae (fun q=>?_) (fun q=>?_)
 case' refine_2=>
  have q:j=l.length:=by simp at q;omega
  subst q
  rw [zll] at As
  have As:R=true:=As
  subst As
  simp (disch:=omega) only [Bc,go_sem]
  try simp
 have q:j<l.length:=by simpa using q
 obtain ⟨e,ex⟩:∃x,l[j]?=some x:=⟨l[j],by simp [q]⟩
 obtain ⟨x,y,rfl,hy⟩:=hd e (zla ex)
 rw [A2 ex,z29] at As
 have hN:=BW x
 have hD:=Jj y hy
 have hmb:mbR pl [AV.s x,.ds y]=(Gb x&&(Mi y&&!(pl&&decide (0<y.length)))):=rfl
 have j4:mbR pl [AV.s x,.ds y]=false->R=false:=fun e=>by rw [As,e];rfl
 rw [hmb] at j4 As
 simp (disch:=omega) only [q,Ad ex,go_sem]
 cases hn:Gb x with
 |false=>
  rw [hn] at hN j4
  obtain rfl:=j4 rfl
  refine Ac.f (hN _ _) ?_
  cases pl
  .simp (disch:=omega) only [Bc,go_sem]
   repeat (refine BL ?_;(simp (disch:=omega) only [Bc,go_sem]))
   try simp
  .simp (disch:=omega) only [Bc,go_sem]
   repeat (refine BL ?_;(simp (disch:=omega) only [Bc,go_sem]))
   try simp
 |true=>
 rw [hn] at hN j4 As
 refine Ac.f (hN _ _) ?_
 simp (disch:=omega) only [q,Ad ex,go_sem]
 cases hds:Mi y with
 |false=>
  rw [hds] at hD j4
  obtain rfl:=j4 rfl
  refine AH.f (fun _=>hD _ _) ?_
  cases pl
  .simp (disch:=omega) only [Bc,go_sem]
   repeat (refine BL ?_;(simp (disch:=omega) only [Bc,go_sem]))
   try simp
  .simp (disch:=omega) only [Bc,go_sem]
   repeat (refine BL ?_;(simp (disch:=omega) only [Bc,go_sem]))
   try simp
 |true=>
 rw [hds] at hD j4 As
 refine AH.f (fun _=>hD _ _) ?_
 cases pl
 .simp (disch:=omega) only [q,Ad ex,go_sem]
  refine ⟨(j+1,_),⟨by dsimp only;omega,by dsimp only;omega,As⟩,by dsimp only;omega,Di ?_⟩
  simp (disch:=omega) only [Ap j (by omega),go_sem]
 .simp (disch:=omega) only [q,Ad ex,go_sem]
  refine Ae (fun c=>?_) (fun c=>?_)
  .have c:0<y.length:=by simp at c;omega
   obtain rfl:=j4 (by rw [dT c];rfl)
   simp (disch:=omega) only [Bc,go_sem]
   try simp
  .have c:¬0<y.length:=by simp at c;simp [c]
   rw [dF c] at As
   simp (disch:=omega) only [go_sem]
   refine ⟨(j+1,_),⟨by dsimp only;omega,by dsimp only;omega,As⟩,by dsimp only;omega,Di ?_⟩
   simp (disch:=omega) only [Ap j (by omega),go_sem]
def YU (t:Aw):Bool :=
 (Gb t.n&&(Mi t.dirs&&(decide (t.impl.length<=64)&&(Hu t.impl).all Gb))) &&
 (if t.k=1 then fsR t.fields&&(decide (t.members.length=0)&&decide (t.inputs.length=0))
  else if t.k=2 then decide (t.impl.length=0)&&(fsR t.fields&&(decide (t.members.length=0)&&decide (t.inputs.length=0)))
  else if t.k=3 then decide (t.impl.length=0)&&(decide (t.fields.length=0)&&(msR true t.members&&decide (t.inputs.length=0)))
  else if t.k=4 then decide (t.impl.length=0)&&(decide (t.fields.length=0)&&(msR false t.members&&decide (t.inputs.length=0)))
  else if t.k=5 then decide (t.impl.length=0)&&(decide (t.fields.length=0)&&(decide (t.members.length=0)&&(decide (0<t.inputs.length)&&N8 t.inputs)))
  else false)
structure DfnR (t:Aw):Prop where
 ok:DefOk t
 im:t.impl.length<=1000000000000
 me:t.members.length<=1000000000000
 w:DfnW t
 tw:∀f∈t.fields,f.tw=Ab D0 (J0 f.tw)
theorem Aaf (t:Aw) (h:DfnR t) (hp:CH) (m:Nat):Af prog 42 hp m [Mc t] (.b (YU t)):=by
 have h1:=h.im
 have h2:=h.me
 have Fn:=h.w.fl
 have hN:=BW t.n
 have hD:=Jj t.dirs h.w.dirs
 have hF:=Sk t.fields Fn fun f hf=>⟨(h.w.fields f hf).1,(h.w.fields f hf).2.1,(h.w.fields f hf).2.2,h.tw f hf⟩
 have hM:=fun pl=>Qk pl t.members h2 h.w.members
 have hI:=JH t.inputs h.w.inputs
 have V8:=h.ok.impl
 obtain ⟨S,hS⟩:=A5 (Hu t.impl)
 unfold YU
 obtain ⟨R,hR⟩:=A5 (S.all Gb)
 rw [hS,hR]
 rw [hS] at V8
 have hSl:t.impl.length=S.length:=by rw [V8];exact Ao _ _
 refine Aj func42 (tA cc42) (tB cc42) (tC cc42) rfl fun hf=>?_;unfold ck42
 rw [hSl]
 simp only [Mc,B8]
 rw [V8]
 simp only [go_sem]
 cases hn:Gb t.n with
 |false=>
  rw [hn] at hN
  refine Ac.f (hN _ _) ?_
  simp (disch:=omega) only [go_sem]
  repeat (refine BL ?_;(simp (disch:=omega) only [go_sem]))
  try simp
 |true=>
 rw [hn] at hN
 refine Ac.f (hN _ _) ?_
 simp (disch:=omega) only [go_sem]
 cases hds:Mi t.dirs with
 |false=>
  rw [hds] at hD
  refine AH.f (fun _=>hD _ _) ?_
  simp (disch:=omega) only [go_sem]
  repeat (refine BL ?_;(simp (disch:=omega) only [go_sem]))
  try simp
 |true=>
 rw [hds] at hD
 refine AH.f (fun _=>hD _ _) ?_
 by_cases q2:64<S.length
 .have e3:decide (S.length<=64)=false:=dF (by omega)
  have e4:decide ((64:Int)<(S.length:Int))=true:=dT (by omega)
  simp (disch:=omega) only [e3,e4,go_sem]
  try simp
 have e3:decide (S.length<=64)=true:=dT (by omega)
 have e4:decide ((64:Int)<(S.length:Int))=false:=dF (by omega)
 rw [e3]
 simp only [zv]
 simp (disch:=omega) only [e4,go_sem]
 refine loop (fun p:Nat×Nat=>⟨[(1,.bx m 0),(3,.i .i64 p.1)],(m,.bx [.i .i64 t.k,.s t.n,.ds (Bd S),.ds t.dirs,.ds (Ab Bv t.fields),.ds t.members,.ds t.inputs])::hp,p.2⟩) (fun p=>p.1<=S.length∧m+1<=p.2∧R=(S.drop p.1).all Gb) (fun p=>S.length - p.1) (0,m+1) ?_ ?_ (fun ⟨j,n⟩ hj=>?_)
 .exact ⟨by simp,by simp,hR.symm⟩
 .refine Gu hf ?_ ?_ ?_ (zx _)
  all_goals (simp (disch:=omega) only [go_sem])
 dsimp only at hj
 obtain ⟨Cg,Bc,As⟩:=hj
 have BC:m<=n:=by omega
 simp (disch:=omega) only [go_sem]
 refine Ae (fun q=>?_) (fun q=>?_)
 case' refine_1=>
  have q:j<S.length:=by simpa using q
  obtain ⟨x,ex⟩:∃x,S[j]?=some x:=⟨S[j],by simp [q]⟩
  rw [A2 ex,z29] at As
  have hX:=BW x
  simp (disch:=omega) only [q,Ad (Aa Cz ex),go_sem]
  cases hx:Gb x with
  |false=>
   rw [hx] at As hX
   have As:R=false:=As
   subst As
   refine Ac.f (hX _ _) ?_
   simp (disch:=omega) only [BC,go_sem]
  |true=>
   rw [hx,zv] at As
   rw [hx] at hX
   refine Ac.f (hX _ _) ?_
   simp (disch:=omega) only [go_sem]
   refine ⟨(j+1,n),⟨by dsimp only;omega,by dsimp only;omega,As⟩,by dsimp only;omega,Di ?_⟩
   simp (disch:=omega) only [Ap j (by omega),go_sem]
 have q:j=S.length:=by simp at q;omega
 subst q
 rw [zll] at As
 have As:R=true:=As
 subst As
 have c1:∀n:Nat,decide ((n:Int)=0)=decide (n=0):=fun n=>by simp
 have c2:∀n:Nat,decide ((0:Int)<(n:Int))=decide (0<n):=fun n=>by simp
 by_cases k1:t.k=1
 .rw [iP k1]
  simp (disch:=omega) only [dT k1,c1,c2,go_sem]
  refine Ac.f (hF _ _) ?_
  simp (disch:=omega) only [c1,c2,BC,go_sem]
  try simp [z2y]
 rw [iN k1]
 have k1:=dF k1
 by_cases k2:t.k=2
 .rw [iP k2]
  simp (disch:=omega) only [k1,dT k2,c1,c2,go_sem]
  refine AH.f (fun _=>hF _ _) ?_
  simp (disch:=omega) only [c1,c2,BC,go_sem]
  try simp [z2y]
 rw [iN k2]
 have k2:=dF k2
 by_cases k3:t.k=3
 .rw [iP k3]
  simp (disch:=omega) only [k1,k2,dT k3,c1,c2,go_sem]
  refine AH.f (fun _=>hM true _ _) ?_
  simp (disch:=omega) only [c1,c2,BC,go_sem]
  try simp [z2y]
 rw [iN k3]
 have k3:=dF k3
 by_cases k4:t.k=4
 .rw [iP k4]
  simp (disch:=omega) only [k1,k2,k3,dT k4,c1,c2,go_sem]
  refine AH.f (fun _=>hM false _ _) ?_
  simp (disch:=omega) only [c1,c2,BC,go_sem]
  try simp [z2y]
 rw [iN k4]
 have k4:=dF k4
 by_cases k5:t.k=5
 .rw [iP k5]
  simp (disch:=omega) only [k1,k2,k3,k4,dT k5,c1,c2,go_sem]
  refine AH.f (fun _=>hI _ _) ?_
  simp (disch:=omega) only [c1,c2,BC,go_sem]
  try simp [z2y]
 rw [iN k5]
 have k5:=dF k5
 simp (disch:=omega) only [k1,k2,k3,k4,k5,BC,go_sem]
theorem U1 (l:List Aw) (hl:l.length<=1000000000000) (hd:∀t∈l,DfnR t) (hp:CH) (m:Nat):Af prog 22 hp m [B0 l] (.b (decide (1<=l.length)&&(decide (l.length<=64)&&l.all YU))):=by
 obtain ⟨R,hR⟩:=A5 (l.all YU)
 rw [hR]
 refine Aj func22 (tA cc22) (tB cc22) (tC cc22) rfl fun hf=>?_;unfold ck22
 by_cases q1:l.length<1
 .have e1:decide (1<=l.length)=false:=dF (by omega)
  have e2:decide ((l.length:Int)<1)=true:=dT (by omega)
  simp (disch:=omega) only [e1,e2,go_sem]
  try simp
 have e1:decide (1<=l.length)=true:=dT (by omega)
 have e2:decide ((l.length:Int)<1)=false:=dF (by omega)
 by_cases q2:64<l.length
 .have e3:decide (l.length<=64)=false:=dF (by omega)
  have e4:decide ((64:Int)<(l.length:Int))=true:=dT (by omega)
  simp (disch:=omega) only [e1,e2,e3,e4,go_sem]
  try simp
 have e3:decide (l.length<=64)=true:=dT (by omega)
 have e4:decide ((64:Int)<(l.length:Int))=false:=dF (by omega)
 rw [e1,e3,zv,zv]
 simp (disch:=omega) only [e2,e4,go_sem]
 refine loop (fun p:Nat×Nat=>⟨[(1,.bx m 0),(3,.i .i64 p.1)],(m,.bx [.ds (Ab B8 l)])::hp,p.2⟩) (fun p=>p.1<=l.length∧m+1<=p.2∧R=(l.drop p.1).all YU) (fun p=>l.length - p.1) (0,m+1) ?_ ?_ (fun ⟨j,n⟩ hj=>?_)
 .exact ⟨by simp,by simp,hR.symm⟩
 .refine Gu hf ?_ ?_ ?_ (zx _)
  all_goals (simp (disch:=omega) only [go_sem])
 dsimp only at hj
 obtain ⟨Cg,Bc,As⟩:=hj
 have BC:m<=n:=by omega
 simp (disch:=omega) only [go_sem]
 refine Ae (fun q=>?_) (fun q=>?_)
 .have q:j<l.length:=by simpa using q
  obtain ⟨x,ex⟩:∃x,l[j]?=some x:=⟨l[j],by simp [q]⟩
  rw [A2 ex,z29] at As
  have hX:=Aaf x (hd x (zla ex))
  simp (disch:=omega) only [q,Ad (Aa B8 ex),go_sem]
  cases hx:YU x with
  |false=>
   rw [hx] at As hX
   have As:R=false:=As
   subst As
   refine Ac.f (hX _ _) ?_
   simp (disch:=omega) only [BC,go_sem]
  |true=>
   rw [hx,zv] at As
   rw [hx] at hX
   refine Ac.f (hX _ _) ?_
   simp (disch:=omega) only [go_sem]
   refine ⟨(j+1,_),⟨by dsimp only;omega,by dsimp only;omega,As⟩,by dsimp only;omega,Di ?_⟩
   simp (disch:=omega) only [Ap j (by omega),go_sem]
 .have q:j=l.length:=by simp at q;omega
  subst q
  rw [zll] at As
  have As:R=true:=As
  subst As
  simp (disch:=omega) only [BC,go_sem]
