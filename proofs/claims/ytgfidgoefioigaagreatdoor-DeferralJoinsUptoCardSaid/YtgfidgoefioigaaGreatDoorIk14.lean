/- Proof. Conditions: none. -/
import Derived.Test.YtgfidgoefioigaaGreatDoorIk13
open List renaming mem_of_getElem?->zla
open Nat renaming le_refl->zna
namespace Go.Eng
set_option linter.all false
section
variable {h:HP} {J:RO} {hp Am B h0:CH} {n k:Nat} {w:World} {α β:AV} {v:Value} {P:Program} {f:FuncId} {c:Ai}
theorem SatH.free (m:SatH h J hp n w):∀k,n<=k->gc hp k=.no:=by
 intro k hk
 have:=m.ch k
 cases hc:gc hp k with
 |no=>rfl
 |bx cs=>rw [hc] at this;obtain ⟨b,c,vs,e,h1,_⟩:=this;rw [m.fr k 0 hk] at h1;cases h1
 |rw g n' l=>rw [hc] at this;obtain ⟨ob,cap,h1,_⟩:=this;rw [m.fr k g hk] at h1;cases h1
 |sh g n' l=>rw [hc] at this;obtain ⟨ob,cap,h1,_⟩:=this;rw [m.fr k g hk] at h1;cases h1
 |rc g n' cap l=>rw [hc] at this;obtain ⟨ob,h1,_⟩:=this;rw [m.fr k g hk] at h1;cases h1
 |mp l=>rw [hc] at this;obtain ⟨b,c,es,cl,h1,_⟩:=this;rw [m.fr k 0 hk] at h1;cases h1
 |mq F=>rw [hc] at this;obtain ⟨b,c,es,cl,h1,_⟩:=this;rw [m.fr k 0 hk] at h1;cases h1
 |mr l sn=>rw [hc] at this;obtain ⟨b,c,es,cl,h1,_⟩:=this;rw [m.fr k 0 hk] at h1;cases h1
 |ro cs=>rw [hc] at this;obtain ⟨b,c,vs,e,fr,h1,_⟩:=this;rw [m.fr k 0 hk] at h1;cases h1
 |rn g n' l=>rw [hc] at this;obtain ⟨ob,cap,h1,_⟩:=this;rw [m.fr k g hk] at h1;cases h1
 |sb T e g bs=>rw [hc] at this;obtain ⟨b,c,p,v,h1,_⟩:=this;rw [m.fr k 0 hk] at h1;cases h1
def Bn:AV->List AV
 | .tp l=>l.flatMap fun α=>match α with
  | .ag c=>c
  | α=>[α]
 | .ag c=>c
 | α=>[α]
def cvA (hp:CH):AV->Option AV
 | .ag c=>(E3 hp c).map .ag
 | α=>Du hp α
def Te (hp:CH):List AV->Option (List AV)
 | []=>some []
 | α::r=>match cvA hp α,Te hp r with
  |some β,some l=>some (β::l)
  |_,_=>none
def YO (hp:CH):AV->Option AV
 | .tp l=>(Te hp l).map .tp
 | α=>cvA hp α
theorem SatH.shutL (l:List AV):∀{h:HP} {hp:CH},SatH h J hp n w->∃h',BJ h h'∧SatH h' J (shutL hp l) n w∧∀b,AF J (Eng.shutL hp l) b->AF J hp b:=by
 induction l with
 |nil=>intro h hp m;exact ⟨h,BJ.refl _,m,fun b hb=>hb⟩
 |cons α r ih=>
  intro h hp m
  have step:∃h',BJ h h'∧SatH h' J (shutC hp α) n w∧∀b,AF J (Eng.shutC hp α) b->AF J hp b:=by
   unfold Eng.shutC
   split
   .split
    .rename_i k g len g' n' l hk
     split
     .obtain ⟨h',h1,h2,h3⟩:=m.shut hk
      exact ⟨h',h1,h2,h3⟩
     .exact ⟨h,BJ.refl _,m,fun b hb=>hb⟩
    .exact ⟨h,BJ.refl _,m,fun b hb=>hb⟩
   .exact ⟨h,BJ.refl _,m,fun b hb=>hb⟩
  obtain ⟨h1,a1,a2,a3⟩:=step
  obtain ⟨h2,b1,b2,b3⟩:=ih a2
  exact ⟨h2,a1.trans b1,b2,fun b hb=>a3 b (b3 b hb)⟩
theorem Np (m:SatH h J hp n w) (r:AW h J α v) (e:cvA hp α=some β):Bm h β v:=by
 unfold cvA at e
 split at e
 .rename_i c
  cases hc:E3 hp c with
  |none=>simp [hc] at e
  |some l=>
   simp [hc] at e
   subst e
   obtain ⟨vs,rfl,rs⟩:=r.agg
   obtain ⟨p1,p2,_⟩:=GH m rs hc
   exact .ag _ _ p1 p2
 .exact (EX m r e).1
theorem HJ (m:SatH h J hp n w) (r:AW h J α v) (e:YO hp α=some β):Bm h β v:=by
 unfold YO at e
 split at e
 .rename_i l
  cases hc:Te hp l with
  | none => simp [hc] at e
  |some l'=>
   simp [hc] at e
   subst e
   obtain ⟨vs,rfl,rs⟩:=r.tup
   have key:∀(l l':List AV) (vs:List Value),Bv h J l vs->Te hp l=some l'->l'.length=vs.length∧∀(j:Nat) α v,l'[j]?=some α->vs[j]?=some v->Bm h α v:=by
    intro l
    induction l with
    |nil=>
     intro l' vs r e
     simp [Te] at e
     subst e
     have:vs=[]:=by have:=r.1;simpa using this.symm
     subst this
     exact ⟨rfl,fun j α v h=>by simp at h⟩
    |cons α l ih=>
     intro l' vs r e
     cases vs with
     | nil => have := r.1; simp at this
     |cons v vs=>
      unfold Te at e
      split at e
      .rename_i β l2 e1 e2
       cases e
       obtain ⟨i1,i2⟩:=ih l2 vs ⟨by have:=r.1;simpa using this,fun j α v h1 h2=>r.2 (j+1) α v (by simpa using h1) (by simpa using h2)⟩ e2
       refine ⟨by simp [i1],fun j α v h1 h2=>?_⟩
       cases j with
       | zero => simp at h1 h2; subst h1; subst h2; exact Np m (r.2 0 _ _ rfl rfl) e1
       | succ j => exact i2 j α v (by simpa using h1) (by simpa using h2)
      .cases e
   obtain ⟨k1,k2⟩:=key l l' vs rs hc
   exact .tp _ _ k1 k2
 .exact Np m r e
def Sk (hp:CH) (n:Nat) (r:AV) (Am:CH) (_:Nat) (r':AV):Prop:=Up n hp (shutL Am (Bn r'))∧YO (shutL Am (Bn r')) r'=some r
theorem AK.toF {args:List AV} {r:AV} (m:AK P f hp n args (Sk hp n r)):Ae P f hp n args r:=by
 refine ⟨m.1,fun h J w vs hs ha=>(m.2 h J w vs hs ha).mono fun e w' ⟨v,he,h',ρ',Am,n',r',⟨e1,e2⟩,hh,hr,hm,Cf,hk,hl⟩=>?_⟩
 obtain ⟨h2,a1,a2,a3⟩:=hm.shutL (h:=h') (Bn r')
 have r2:=HJ a2 (Cf.mono a1 (Cd.refl _)) e2
 have m2:=SatH.cut e1 a2 hs.free
 exact ⟨v,he,h2,hh.trans a1,SatH.back hr hs m2,r2,hk⟩
theorem Al {fn : Func} {k : CC} {rs : List RS} (hf : P.funcs[f]? = some fn) (FZ : (fn.name == "runtime.NumGoroutine") = false)
 (hc:fn.body.bind (BP P fn.ntmps)=some k.erase) (HG:NS P fn.ntmps fn.results.toList=some rs) {hp:CH} {n:Nat} {args:List AV} {r:AV} (AZ:Nat.ble args.length fn.ntmps=true)
 (hv:(∀k,n<=k->gc hp k=.no)->vc P k ⟨C9 0 args,hp,n⟩ (K7 rs (Sk hp n r))):Ae P f hp n args r:=by
 have J0 := (by obtain ⟨c, hb, Qx⟩ := bd hc; exact ⟨fn, hf, FZ, by rw [hb]; rfl⟩ : ∃ fn, P.funcs[f]? = some fn ∧ (fn.name == "runtime.NumGoroutine") = false ∧ fn.body.isNone = false)
 refine ⟨J0,fun h J w vs hs ha=>?_⟩
 exact (AK.toF (Jb hf FZ hc HG AZ (hv hs.free))).2 h J w vs hs ha
theorem Abq (n:Nat) (hp:CH):Up n hp hp=True:=by simp [Up.refl]
theorem ZJ (hk:n<=k):Up n hp ((k,c)::Am)=Up n hp Am:=by
 refine propext ⟨fun h j hj=>?_,fun h=>h.cons c hk⟩
 have:=h j hj
 rwa [Ak c Am (by omega)] at this
attribute [go_sem] Abq ZJ Sk Bn cvA Te YO List.flatMap_cons List.flatMap_nil
/-! ### Loops -/
def Hd (hp Am:CH):Prop:=∀k,gc Am k=gc hp k∨gc Am k=.no
theorem Hd.base (hf:∀k,n<=k->gc B k=.no) (hu:Up n B hp):Hd hp B:=fun k=>by
 rcases Nat.lt_or_ge k n with h | h
 .exact .inl (hu k h).symm
 .exact .inr (hf k h)
theorem Hd.cons (h:gc hp k=c) (s:Hd hp Am):Hd hp ((k,c)::Am):=fun j=>by
 by_cases hk:k=j
 .subst hk
  exact .inl (by rw [Ar];exact h.symm)
 .rw [Ak c Am hk]
  exact s j
theorem Hd.refl (hp:CH):Hd hp hp:=fun _=>.inl rfl
theorem YB {env g9:EN} {n':Nat} (he:∀p∈g9,ge env p.1=p.2∨p.2=.un) (hh:Hd hp Am) (hn:n<=n'):CD ⟨env,hp,n⟩ ⟨g9,Am,n'⟩:=by
 rintro C a w ⟨h,J,s⟩
 have E7:∀k g,(gc Am k).own g->gc Am k=gc hp k:=by
  intro k g e
  rcases hh k with h1 | h1
  .exact h1
  .rw [h1] at e;cases e
 have hl:∀b,AF J Am b->AF J hp b:=fun b ⟨k,g,c,e,r⟩=>⟨k,g,c,by rw [<-E7 k g e];exact e,r⟩
 refine ⟨h,J,s.hle,s.rle,s.keep,fun b hb=>s.own b (hl b hb),?_,fun t ht=>?_,s.size,s.defers⟩
 .have m:=s.mem
  refine ⟨m.hh,fun k=>?_,fun k k' g g' b c c' e e' r r'=>m.inj k k' g g' b c c' (by show (gc hp k).own _;rw [<-E7 k g e];exact e) (by show (gc hp k').own _;rw [<-E7 k' g' e'];exact e') r r',fun b hb=>m.hid b (hl b hb),fun b hb=>m.lt b (hl b hb),fun k g hk=>m.fr k g (Nat.le_trans hn hk),fun k g g' x e r=>?_,m.gl⟩
  .show (gc Am k).sat h J w k
   rcases hh k with h1 | h1
   .rw [h1];exact m.ch k
   .rw [h1];trivial
  .have:=E7 k g (Ai.gen_own (Ai.rgen_gen e))
   exact m.gens k g g' x (by show (gc hp k).rgen=_;rw [<-this];exact e) r
 .obtain ⟨v,h1,h2⟩:=s.env t ht
  refine ⟨v,h1,?_⟩
  have key:∀(l:EN),(∀p∈l,ge env p.1=p.2∨p.2=.un)->ge l t=.un∨ge env t=ge l t:=by
   intro l
   induction l with
   |nil=>intro _;exact .inl rfl
   |cons p l ih=>
    intro hp
    obtain ⟨u,α⟩:=p
    simp only [ge]
    by_cases hu:u=t
    .subst hu
     rw [if_pos rfl]
     rcases hp (u,α) (by simp) with h | h
     .exact .inr h
     .exact .inl h
    .rw [if_neg hu]
     exact ih fun q hq=>hp q (by simp [hq])
  rcases key g9 he with h | h
  .show AW _ _ (ge g9 t) v
   rw [h]
   exact .pu _ _ (.un _)
  .show AW _ _ (ge g9 t) v
   rw [<-h]
   exact h2
def VI {ι:Type} (I:ι->St) (φ:ι->Prop) (μ:ι->Nat) (i:ι) (Q:Exit->St->Prop):Exit->St->Prop
 | .normal,s=>∃j,φ j∧μ j<μ i∧CD s (I j)
 |e,s=>Q e s
theorem Un {ι:Type} {F:St->(Exit->St->Prop)->Prop} (hF:∀s Q Q',(∀e s,Q e s->Q' e s)->F s Q->F s Q') (I:ι->St) (φ:ι->Prop) (μ:ι->Nat) (i0:ι) {st:St} {Q:Exit->St->Prop} (h1:φ i0) (h0:CD st (I i0))
 (hs:∀i,φ i->F (I i) (VI I φ μ i Q)):Nl F st Q:=by
 refine ⟨fun m s=>∃i,φ i∧μ i=m∧s=I i,⟨μ i0,I i0,⟨i0,h1,rfl,rfl⟩,h0⟩,?_⟩
 rintro m s ⟨i,hi,rfl,rfl⟩
 refine hF _ _ _ (fun e s h=>?_) (hs i hi)
 cases e with
 |normal=>
  obtain ⟨j,a,b,c⟩:=h
  exact ⟨μ j,I j,b,⟨j,a,rfl,rfl⟩,c.g⟩
 |_=>exact h
def AV.und (n:Nat):AV->Prop
 | .bx k _=>k<n
 | .rw k _ _=>k<n
 | .rf k _ _ _ _=>k<n
 | .mp k=>k<n
 | .mi k=>k<n
 | .ep α _ _ _=>α.und n
 | .ag l=>undL n l
 | .tp l=>undL n l
 | .fn _ l=>undL n l
 | .fc _ x=>x.und n
 | .gd _ x=>x.und n
 |_=>True
where
 undL (n:Nat):List AV->Prop
  | []=>True
  | α::r=>α.und n∧undL n r
theorem Fg:∀{l:List AV},AV.und.undL n l->∀(j:Nat) α,l[j]?=some α->α.und n
 | [],_,j,α,h=>by simp at h
 |x::r,hb,0,α,h=>by simp at h;subst h;exact hb.1
 |x::r,hb,j+1,α,h=>Fg hb.2 j α (by simpa using h)
def Yx (J:RO) (n:Nat):RO:=fun k g=>if k<n then J k g else none
theorem Cu (h:k<n) (g:Nat):Yx J n k g=J k g:=by simp [Yx,h]
theorem XR {g:Nat} {x:Option Nat×Nat} (h:Yx J n k g=some x):J k g=some x∧k<n:=by
 unfold Yx at h
 split at h
 .exact ⟨h,by assumption⟩
 .cases h
theorem AW.cut (r:AW h J α v):α.und n->AW h (Yx J n) α v:=by
 induction r with
 |pu α v p=>intro _;exact .pu α v p
 |ag l vs e _ ih=>intro hb;exact .ag l vs e fun j α v h1 h2=>ih j α v h1 h2 (Fg hb j α h1)
 |tp l vs e _ ih=>intro hb;exact .tp l vs e fun j α v h1 h2=>ih j α v h1 h2 (Fg hb j α h1)
 |bx k off b c e=>intro hb;exact .bx k off b c (by rw [Cu hb];exact e)
 |rw k g len cap a ob e hl ha=>intro hb;exact .rw k g len cap a ob (by rw [Cu hb];exact e) hl ha
 |ep α n i off b o len cap _ hi ih=>intro hb;exact .ep α n i off b o len cap (ih hb) hi
 |mp k b c e=>intro hb;exact .mp k b c (by rw [Cu hb];exact e)
 |mi k b c e=>intro hb;exact .mi k b c (by rw [Cu hb];exact e)
 |fn f l vs e _ ih=>intro hb;exact .fn f l vs e fun j α v h1 h2=>ih j α v h1 h2 (Fg hb j α h1)
 |fc t x v _ ih=>intro hb;exact .fc t x v (ih hb)
 |gd c x v _ hf ih=>intro hb;exact .gd c x v (fun q=>ih q hb) hf
 |rf k g n' off len cap a ob e hl ha=>intro hb;exact .rf k g n' off len cap a ob (by rw [Cu hb];exact e) hl ha
def Ai.und (n:Nat):Ai->Prop
 | .bx cs=>AV.und.undL n cs
 | .rn _ _ l=>∀x∈l,AV.und.undL n x
 |_=>True
theorem Ai.cut (s:c.sat h J w k) (hk:k<n) (hb:c.und n):c.sat h (Yx J n) w k:=by
 cases c with
 |no=>trivial
 |bx cs=>
  obtain ⟨b,c,vs,e,h1,h2,h3,h4⟩:=s
  exact ⟨b,c,vs,e,by rw [Cu hk];exact h1,h2,h3,fun j α v a1 a2=>(h4 j α v a1 a2).cut (Fg hb j α a1)⟩
 |rw g n l=>obtain ⟨ob,cap,h1,hx⟩:=s;exact ⟨ob,cap,by rw [Cu hk];exact h1,hx⟩
 |sh g n l=>obtain ⟨ob,cap,h1,hx⟩:=s;exact ⟨ob,cap,by rw [Cu hk];exact h1,hx⟩
 |rc g n cap l=>obtain ⟨ob,h1,hx⟩:=s;exact ⟨ob,by rw [Cu hk];exact h1,hx⟩
 |mp l=>obtain ⟨b,c,es,cl,h1,hx⟩:=s;exact ⟨b,c,es,cl,by rw [Cu hk];exact h1,hx⟩
 |mq F=>obtain ⟨b,c,es,cl,h1,hx⟩:=s;exact ⟨b,c,es,cl,by rw [Cu hk];exact h1,hx⟩
 |mr l sn=>obtain ⟨b,c,es,cl,h1,q1,q2,q3,q4,b2,c2,w7,g2,q5⟩:=s;exact ⟨b,c,es,cl,by rw [Cu hk];exact h1,q1,q2,q3,q4,b2,c2,w7,by rw [Cu hk];exact g2,q5⟩
 |ro cs=>obtain ⟨b,c,vs,e,fr,h1,hx⟩:=s;exact ⟨b,c,vs,e,fr,by rw [Cu hk];exact h1,hx⟩
 |rn g n' l=>
  obtain ⟨ob,cap,h1,h2,EH,h3,h4,h5⟩:=s
  refine ⟨ob,cap,by rw [Cu hk];exact h1,h2,EH,h3,h4,fun b hb'=>?_⟩
  obtain ⟨vs,e,a1,a2,a3⟩:=h5 b hb'
  exact ⟨vs,e,a1,a2,fun j x q α y1 y2=>let ⟨u,z1,z2⟩:=a3 j x q α y1 y2;⟨u,z1,z2.cut (Fg (hb x (zla y1)) q α y2)⟩⟩
 |sb T e g bs=>
  obtain ⟨b,c,p,v,h1,h2,h3,h4,h5,⟨y,hy⟩,h6⟩:=s
  exact ⟨b,c,p,v,by rw [Cu hk];exact h1,h2,h3,h4,h5,⟨y,by rw [Cu hk];exact hy⟩,fun b2 e2=>⟨(h6 b2 e2).1,let ⟨c2,q⟩:=(h6 b2 e2).2;⟨c2,by rw [Cu hk];exact q⟩⟩⟩
def UB (n:Nat) (h0 hp Am:CH):Prop:=∀k,gc Am k=.no∨gc hp k=gc Am k∧k<n∧((gc Am k).und n∨gc Am k=gc h0 k)
theorem UB.cons (h:gc hp k=c) (hk:k<n) (hb:c.und n) (s:UB n h0 hp Am):UB n h0 hp ((k,c)::Am):=fun j=>by
 by_cases q:k=j
 .subst q
  exact .inr ⟨by rw [Ar];exact h,hk,.inl (by rw [Ar];exact hb)⟩
 .rw [Ak c Am q]
  exact s j
theorem UB.base {m:Nat} (hf:∀k,m<=k->gc B k=.no) (hm:m<=n) (h1:Up m B h0) (h2:Up m B hp):UB n h0 hp B:=fun k=>by
 rcases Nat.lt_or_ge k m with h | h
 .exact .inr ⟨h2 k h,Nat.lt_of_lt_of_le h hm,.inr (h1 k h).symm⟩
 .exact .inl (hf k h)
end
section
variable {P:Program}
section
variable {o:CO} {st:St} {K K':St->Prop}
theorem Fz {k0:Nat} (h:∀s,K s->K' s) (hv:Dv P k0 o st K):Dv P k0 o st K':=by
 obtain ⟨h1,h2⟩:=hv
 refine ⟨h1,?_⟩
 obtain ⟨d,op,g⟩:=o
 cases op
 case al z=>exact h _ h2
 case bo x=>
  simp only at h2 ⊢
  split at h2
  .rename_i e;exact h _ h2
  .exact h2.elim
 case mk=>exact h _ h2
 case mpg x=>
  simp only at h2 ⊢
  unfold mgK at h2 ⊢
  split at h2
  .split at h2
   .exact h _ h2
   .exact h2.elim
  .exact h2.elim
 case mpn x=>
  simp only at h2 ⊢
  unfold mxK at h2 ⊢
  split at h2
  .split at h2
   .exact ⟨fun e=>h _ (h2.1 e),fun j b α e1 e2=>h _ (h2.2 j b α e1 e2)⟩
   .exact h2.elim
  .exact h2.elim
 case mpe x=>
  simp only at h2 ⊢
  unfold meK at h2 ⊢
  split at h2
  .split at h2
   .obtain ⟨b,e1,α,e2,e3⟩:=h2
    exact ⟨b,e1,α,e2,h _ e3⟩
   .exact h2.elim
  .exact h2.elim
 case mpd x s=>
  simp only at h2 ⊢
  unfold mdK at h2 ⊢
  split at h2
  .split at h2
   .exact h _ h2
   .exact h _ h2
   .exact h2.elim
  .exact h2.elim
 case clr x m z=>
  simp only at h2 ⊢
  unfold clK at h2 ⊢
  split at h2
  .split at h2
   .exact ⟨h2.1,h _ h2.2⟩
   .exact h2.elim
  .split at h2
   .exact ⟨h2.1,h _ h2.2⟩
   .exact h2.elim
  .exact h2.elim
 case alb=>exact h _ h2
 case mu x s y=>
  simp only at h2 ⊢
  unfold muK at h2 ⊢
  split at h2
  .split at h2
   .exact ⟨h2.1,h _ h2.2⟩
   .exact h2.elim
  .exact h2.elim
 case nl neg x=>
  simp only at h2 ⊢
  unfold nlK at h2 ⊢
  split at h2
  .exact ⟨fun e=>h _ (h2.1 e),h _ h2.2⟩
  .exact ⟨fun e=>h _ (h2.1 e),h _ h2.2⟩
  .exact ⟨h _ h2.1,h _ h2.2⟩
  .exact h2.elim
 case st x y m=>
  simp only at h2 ⊢
  split at h2
  .obtain ⟨a,b,c⟩:=h2
   refine ⟨a,b,?_⟩
   unfold stK at c ⊢
   split at c
   .split at c
    .exact ⟨c.1,h _ c.2⟩
    .exact c.elim
   .split at c
    .obtain ⟨c1,e,c2,c3⟩:=c
     exact ⟨c1,e,c2,h _ c3⟩
    .obtain ⟨c1,e,c2,c3⟩:=c
     exact ⟨c1,e,c2,h _ c3⟩
    .exact c.elim
   .exact c.elim
  .exact h2.elim
 case bs fz n ps=>
  simp only at h2 ⊢
  split at h2
  .split at h2
   .exact h _ h2
   .exact h2.elim
  .split at h2
   .split at h2
    .rename_i hf;rw [if_pos hf];exact h _ h2
    .rename_i hf;rw [if_neg hf];exact h _ h2
   .exact h2.elim
 case ap x y n b=>
  simp only at h2 ⊢
  split at h2
  .obtain ⟨a,b,c,d⟩:=h2
   refine ⟨a,b,c,?_⟩
   split at d
   .exact h _ d
   .exact d.elim
  .split at h2
   .obtain ⟨a,b,c,d⟩:=h2
    refine ⟨a,b,c,?_⟩
    split at d
    .exact h _ d
    .exact d.elim
   .exact h2.elim
 case aps x y=>
  simp only at h2 ⊢
  split at h2
  .obtain ⟨a,d⟩:=h2
   refine ⟨a,?_⟩
   split at d
   .exact h _ d
   .exact d.elim
  .exact h2.elim
 case ms l c n b z=>
  simp only at h2 ⊢
  split at h2
  .obtain ⟨a1,a2,a3,a4,a5,a6,a7⟩:=h2
   exact ⟨a1,a2,a3,a4,a5,a6,h _ a7⟩
  .exact h2.elim
 case cl f xs=>
  obtain ⟨R,a,b⟩:=h2
  exact ⟨R,a,fun Am n' r hr=>h _ (b Am n' r hr)⟩
 case cc f xs=>
  simp only at h2 ⊢
  split at h2
  .obtain ⟨R,a,b⟩:=h2
   exact ⟨R,a,fun Am n' r hr=>h _ (b Am n' r hr)⟩
  .exact h2.elim
 all_goals exact M2 (fun α=>h _) h2
theorem RE (h:∀s,K s->K' s) (hv:Jd P o st K):Jd P o st K':=by
 have hg:∀G,QQ P o st G K->QQ P o st G K':=by
  intro G hv
  unfold QQ at *
  split at hv
  .rename_i hs
   rw [if_pos hs]
   exact ⟨hv.1,hv.2.1,hv.2.2.1,h _ hv.2.2.2⟩
  .rename_i hs
   rw [if_neg hs]
   split at hv
   .rename_i f xs ho
    refine ⟨hv.1,?_⟩
    rcases hv.2 with ⟨r,m,k⟩ | h2
    .exact .inl ⟨r,m,h _ k⟩
    .exact .inr ⟨fun e=>(let ⟨R,hm,hk⟩:=h2.1 e;⟨R,hm,fun a b c d=>h _ (hk a b c d)⟩),fun e=>h _ (h2.2 e)⟩
   .exact ⟨fun e=>Fz h (hv.1 e),fun e=>h _ (hv.2 e)⟩
 unfold Jd at *
 split at hv
 .exact Fz h hv
 .split at hv
  .exact hg _ hv
  .exact hg _ hv
  .exact hg _ hv
  .exact hv
theorem Ut (h:∀s,K s->K' s) (hv:TB P o st K):TB P o st K':=by
 unfold TB at *
 split at hv
 .split at hv
  .exact Fz h hv
  .refine ⟨hv.1,?_⟩
   replace hv:=hv.2
   split at hv
   .refine ⟨hv.1,hv.2.1,hv.2.2.1,?_⟩
    replace hv:=hv.2.2.2
    split at hv
    .split at hv
     .split at hv
      .exact ⟨hv.1,h _ hv.2⟩
      .exact ⟨hv.1,h _ hv.2.1,h _ hv.2.2⟩
     .exact hv.elim
    .exact ⟨hv.1,h _ hv.2⟩
    .exact hv.elim
   .exact hv.elim
 .exact Fz h hv
 .exact hv.elim
theorem UX (h:∀s,K s->K' s) (hv:Yt P o st K):Yt P o st K':=by
 unfold Yt at *
 split at hv
 .exact RE h hv
 .exact Ut h hv
theorem QV {l:List CO}:∀{st:St} {K K':St->Prop},(∀s,K s->K' s)->Bg P l st K->Bg P l st K':=by
 induction l with
 |nil=>intro st K K' h hv;exact h _ hv
 |cons o r ih=>intro st K K' h hv;exact UX (fun s hs=>ih h hs) hv
theorem Abi:∀(c:CC) (st:St) (Q Q':Exit->St->Prop),(∀e s,Q e s->Q' e s)->vc P c st Q->vc P c st Q':=by
 intro c
 induction c with
 |skip=>intro st Q Q' h hv;exact h _ _ hv
 |rg l=>intro st Q Q' h hv;exact QV (h _) hv
 |dr l dp=>intro st Q Q' h hv;exact Mo l _ _ _ _ _ _ (fun e hp hk=>h _ _ hk) hv
 |sq a b iha ihb=>
  intro st Q Q' h hv
  refine iha st _ _ (fun e s hs=>?_) hv
  cases e with
  |normal=>exact ihb s _ _ h hs
  |_=>exact h _ _ hs
 |sqw a b iha ihb=>
  intro st Q Q' h hv
  refine iha st _ _ (fun e s hs=>?_) hv
  cases e with
  |normal=>
   obtain ⟨I,hw,k⟩:=hs
   exact ⟨I,hw,fun s2 hI=>ihb s2 _ _ h (k s2 hI)⟩
  |_=>exact h _ _ hs
 |cd c a b iha ihb=>
  intro st Q Q' h hv
  obtain ⟨h1,h2⟩:=hv
  refine ⟨h1,?_⟩
  split at h2
  .exact ⟨fun e=>iha st _ _ h (h2.1 e),fun e=>ihb st _ _ h (h2.2 e)⟩
  .exact h2.elim
 |bl id c ih=>
  intro st Q Q' h hv
  refine ih st _ _ (fun e s hs=>?_) hv
  cases e with
  |exit i=>
   simp only at hs ⊢
   split
   .rename_i hi;rw [if_pos hi] at hs;exact h _ _ hs
   .rename_i hi;rw [if_neg hi] at hs;exact h _ _ hs
  |_=>exact h _ _ hs
 |lp c ih=>
  intro st Q Q' h ⟨I,h1,h2⟩
  refine ⟨I,h1,fun m s hI=>ih s _ _ (fun e s' hs=>?_) (h2 m s hI)⟩
  cases e with
  |normal=>exact hs
  |_=>exact h _ _ hs
 |ex id=>intro st Q Q' h hv;exact h _ _ hv
 |rt=>intro st Q Q' h hv;exact h _ _ hv
theorem loop {ι:Type} {c:CC} (I:ι->St) (φ:ι->Prop) (μ:ι->Nat) (i0:ι) {Q:Exit->St->Prop} (h1:φ i0) (h0:CD st (I i0)) (hs:∀i,φ i->vc P c (I i) (VI I φ μ i Q)):Nl (vc P c) st Q :=
 Un (fun s Q Q' h=>Abi c s Q Q' h) I φ μ i0 h1 h0 hs
end
end
section
variable {n t c i k g len n2 a0 a1 a2:Nat} {P:Program} {f:FuncId} {hp B R:CH} {args l args' cs:List AV} {K:CH->Nat->AV->Prop} {r α:AV} {h h':HP} {J:RO} {w:World} {vs:List Value} {env l6:EN} {c0 c1 c2:Ai} {v:Value}
attribute [go_sem] VI
def Ab {α:Type} (c:α->List AV) (l:List α):List (List AV):=l.map c
theorem Kx {α:Type} (c:α->List AV):Ab c []=[]:=rfl
theorem BX {α:Type} (c:α->List AV) (x:α) (l:List α):Ab c (x::l)=c x::Ab c l:=rfl
theorem As {α:Type} (c:α->List AV) (l:List α):(Ab c l).length=l.length:=by simp [Ab]
theorem Aa {α:Type} (c:α->List AV) {l:List α} {j:Nat} {a:α} (h:l[j]?=some a):(Ab c l)[j]?=some (c a):=by simp [Ab,h]
theorem IP {α:Type} (c:α->List AV) (l:List α) (n:Nat):(Ab c l).take n=Ab c (l.take n):=by simp [Ab]
theorem Uv {α:Type} (c:α->List AV) (l:List α) (n:Nat):(Ab c l).drop n=Ab c (l.drop n):=by simp [Ab]
theorem Bd {α:Type} (c:α->List AV) (l:List α) (x:α):Ab c l++[c x]=Ab c (l++[x]):=by simp [Ab]
theorem K0 {α:Type} (c:α->List AV) (l:List α) {e:List AV} (h:e∈Ab c l):∃x∈l,c x=e:=by simpa [Ab] using h
def by1 (b:UInt8):List AV:=[.i .u8 b.toNat]
def C3 (s:qB):List AV:=[.s s]
def D2 (n:Int):List AV:=[.i .i64 n]
abbrev Bq (l:List qB):List (List AV):=Ab C3 l
def bs (b:qB):List UInt8:=b.data.toList
theorem R0 (b:qB):DK b=Ab by1 (bs b):=rfl
theorem N2 (b:qB):(bs b).length=b.size:=by simp [bs]
theorem Ab8 (l:List UInt8):bs ⟨⟨l⟩⟩=l:=rfl
theorem TA {x:Int} (h:-9223372036854775808<=x∧x<=9223372036854775807):IntKind.i64.wrap x=x:=by
 simp [IntKind.wrap,IntKind.bits,IntKind.signed];omega
theorem Ao (n:Nat) (h:n<9223372036854775807):IntKind.i64.wrap ((n:Int)+1)=((n+1:Nat):Int):=by rw [TA (by omega)];simp
def u8 (n:Int):UInt8:=UInt8.ofNat (n % 256).toNat
theorem wr8 (n:Int):IntKind.u8.wrap n=((u8 n).toNat:Int):=by
 simp [IntKind.wrap,IntKind.bits,IntKind.signed,u8];omega
attribute [grind =] N2 Ab8
theorem Em {α:Type} {c:α->List AV} {l:List α} (h:∀x,(c x).length=n∧FE (c x)=true):Eu n (Ab c l)=True:=eq_true fun e he=>by
 obtain ⟨x,_,rfl⟩:=K0 _ _ he
 exact h x
theorem Pn (l:List qB):Eu 1 (Ab C3 l)=True:=Em fun _=>⟨rfl,rfl⟩
theorem Pv (l:List Int):Eu 1 (Ab D2 l)=True:=Em fun _=>⟨rfl,rfl⟩
theorem V0 {α:Type} (l m:List α):(l++m).take (l.length+m.length)=l++m:=by rw [<-List.length_append,List.take_length]
theorem Af0 {α:Type} (l m:List α):(l.length+m.length<=(l++m).length)=True:=by simp
attribute [go_sem] V0 Af0
attribute [go_sem] Pn Pv by1 C3 D2 R0 N2 Ab8 As IP Uv Kx BX
/-! ### Calls with rows and boxes -/
def AO (P:Program) (f:FuncId) (hp:CH) (n:Nat) (args:List AV) (Il:CH) (n1:Nat) (r:AV):Prop:=AK P f hp n args fun Am n' r'=>Am=Il∧n'=n1∧r'=r
theorem Ac.x {Il:CH} {n1:Nat} (m:AO P f hp n args Il n1 r) (k:K Il n1 r):Ac P f hp n args K :=
 ⟨_,m,fun Am n' r' ⟨e1,e2,e3⟩=>by subst e1;subst e2;subst e3;exact k⟩
theorem Ry (m:SatH h J hp n w) {l':List AV} (r:Bv h J l vs) (e:E3 hp l=some l'):Bv h J l' vs:=by
 obtain ⟨a,b,_⟩:=GH m r e
 exact ⟨a,fun j α v h1 h2=>.pu _ _ (b j α v h1 h2)⟩
theorem Ae.shut (e:E3 (shutL hp args) args=some args') (m:Ae P f (shutL hp args) n args' r):AO P f hp n args (shutL hp args) n r:=by
 refine ⟨m.1,fun h J w vs hs ha=>?_⟩
 obtain ⟨h1,a1,a2,a3⟩:=hs.shutL (h:=h) args
 have ra:=Ry a2 (ha.mono a1 (Cd.refl _)) e
 refine (m.2 h1 J w vs a2 ra).mono fun e w' ⟨v,he,h',hh,hm,Cf,hk⟩=>?_
 exact ⟨v,he,h',J,_,n,r,⟨rfl,rfl,rfl⟩,a1.trans hh,Cd.refl _,hm,.pu _ _ Cf,⟨hk.os,hk.tape,hk.output,hk.size,fun b hb hX=>hk.block b hb fun hl=>hX (a3 b hl)⟩,fun b hb=>.inl (a3 b hb)⟩
theorem Ac.p (m:Ae P f (shutL hp args) n args' r) (e:E3 (shutL hp args) args=some args') (k:K (shutL hp args) n r):Ac P f hp n args K :=
 Ac.x (m.shut e) k
theorem SL (r:Bv h J l vs):AW h J (.tp l) (.tuple vs.toArray):=.tp l vs r.1 r.2
theorem Tf (r:Bm h (.tp l) (.tuple vs.toArray)):Bv h J l vs:=by
 generalize hv:Value.tuple vs.toArray=v at r
 cases r with
 |tp l ws e h'=>
  have:vs=ws:=by
   have:=Value.tuple.inj hv
   simpa using congrArg Array.toList this
  subst this
  exact ⟨e,fun j α v h1 h2=>.pu _ _ (h' j α v h1 h2)⟩
theorem Ae.shutQ (e:Te (shutL hp (Bn (.tp args))) args=some args') (m:Ae P f (shutL hp (Bn (.tp args))) n args' r):AO P f hp n args (shutL hp (Bn (.tp args))) n r:=by
 refine ⟨m.1,fun h J w vs hs ha=>?_⟩
 obtain ⟨h1,a1,a2,a3⟩:=hs.shutL (h:=h) (Bn (.tp args))
 have ra:Bv h1 J args' vs:=Tf (HJ a2 ((SL ha).mono a1 (Cd.refl _)) (show YO _ (.tp args)=some (.tp args') by rw [YO,e];rfl))
 refine (m.2 h1 J w vs a2 ra).mono fun e w' ⟨v,he,h',hh,hm,Cf,hk⟩=>?_
 exact ⟨v,he,h',J,_,n,r,⟨rfl,rfl,rfl⟩,a1.trans hh,Cd.refl _,hm,.pu _ _ Cf,⟨hk.os,hk.tape,hk.output,hk.size,fun b hb hX=>hk.block b hb fun hl=>hX (a3 b hl)⟩,fun b hb=>.inl (a3 b hb)⟩
theorem Ac.q (m:Ae P f (shutL hp (Bn (.tp args))) n args' r) (e:Te (shutL hp (Bn (.tp args))) args=some args') (k:K (shutL hp (Bn (.tp args))) n r):Ac P f hp n args K :=
 Ac.x (m.shutQ e) k
theorem Ae.cv (e:Te hp args=some args') (m:Ae P f hp n args' r):Ae P f hp n args r :=
 ⟨m.1,fun h J w vs hs ha=>m.2 h J w vs hs (Tf (HJ hs (SL ha) (show YO _ (.tp args)=some (.tp args') by rw [YO,e];rfl)))⟩
theorem By {m:Nat} (he:ge env t=.e0):CD ⟨env,hp,n⟩ ⟨(t,.rw n 0 0)::env,(n,.rw 0 m [])::hp,n+1⟩:=by
 rintro C a w ⟨h,J,s⟩
 have hf:=s.mem.fr
 have hno:=s.mem.free
 have hρ:Cd J (Bw J n 0 (none,0)):=BK _ (hf n 0 (zna _))
 have Im:∀k,k≠n->gc ((n,Ai.rw 0 m [])::hp) k=gc hp k:=fun k hk=>Ak _ _ (fun e=>hk e.symm)
 have AI:∀b,AF (Bw J n 0 (none,0)) ((n,Ai.rw 0 m [])::hp) b->AF J hp b:=by
  rintro b ⟨k,g,c,e,r⟩
  by_cases hk:k=n
  .subst hk
   rw [Ar] at e
   cases e
   rw [A0] at r
   cases r
  .rw [Im k hk] at e
   rw [AQ _ _ hk] at r
   exact ⟨k,g,c,e,r⟩
 refine ⟨h,Bw J n 0 (none,0),s.hle,s.rle.trans hρ,s.keep,fun b hb=>s.own b (AI b hb),⟨s.mem.hh,fun k=>?_,fun k k' g g' b c c' e e' r r'=>?_,fun b hb=>s.mem.hid b (AI b hb),fun b hb=>s.mem.lt b (AI b hb),fun k g hk=>?_,fun k g g' x e r=>?_,s.mem.gl⟩,fun u hu=>?_,s.size,s.defers⟩
 .by_cases hk:k=n
  .subst hk
   show (gc ((k,Ai.rw 0 m [])::hp) k).sat _ _ _ _
   rw [Ar]
   refine ⟨none,0,A0 _ _ _ _,by simp,by simp [maxLen],fun j e h=>by simp at h,fun _=>rfl,fun b hb=>by cases hb⟩
  .show (gc ((n,Ai.rw 0 m [])::hp) k).sat _ _ _ _
   rw [Im k hk]
   exact Ai.sat_mono (BJ.refl _) hρ (fun _ _ _ _ _=>rfl) (s.mem.ch k)
 .have key:∀k g b c,(gc ((n,Ai.rw 0 m [])::hp) k).own g->Bw J n 0 (none,0) k g=some (some b,c)->(gc hp k).own g∧J k g=some (some b,c):=by
   intro k g b c e r
   by_cases hk:k=n
   .subst hk
    rw [Ar] at e
    cases e
    rw [A0] at r
    cases r
   .rw [Im k hk] at e
    rw [AQ _ _ hk] at r
    exact ⟨e,r⟩
  obtain ⟨a1,a2⟩:=key k g b c e r
  obtain ⟨b1,b2⟩:=key k' g' b c' e' r'
  exact s.mem.inj k k' g g' b c c' a1 b1 a2 b2
 .have hk:n+1<=k:=hk
  rw [AQ _ _ (by omega)]
  exact hf k g (by show n<=k;omega)
 .by_cases hk:k=n
  .subst hk
   have e:(gc ((k,Ai.rw 0 m [])::hp) k).rgen=some g:=e
   rw [Ar] at e
   cases e
   by_cases hg:g'=0
   .omega
   .have:Bw J k 0 (none,0) k g'=J k g':=by simp [Bw,hg]
    rw [this,hf k g' (zna _)] at r
    cases r
  .have e:(gc ((n,Ai.rw 0 m [])::hp) k).rgen=some g:=e
   rw [Im k hk] at e
   rw [AQ _ _ hk] at r
   exact s.mem.gens k g g' x e r
 .obtain ⟨v,h1,h2⟩:=s.env u hu
  refine ⟨v,h1,?_⟩
  show AW h _ (ge ((t,AV.rw n 0 0)::env) u) v
  unfold ge
  by_cases ht:t=u
  .subst ht
   rw [if_pos rfl]
   have h2:AW h J (ge env t) v:=h2
   rw [he] at h2
   cases h2 with
   |pu _ _ p=>
    cases p with
    |e0 a=>exact .rw n 0 0 0 a none (A0 _ _ _ _) (zna _) (fun b hb=>by cases hb)
  .rw [if_neg ht]
   exact AW.mono (BJ.refl _) hρ h2
theorem DL {m:Nat} (hc:gc hp c=.bx cs) (he:cs[i]?=some .e0):CD ⟨env,hp,n⟩ ⟨env,(c,.bx (cs.set i (.rw n 0 0)))::(n,.rw 0 m [])::hp,n+1⟩:=by
 rintro C a w ⟨h,J,s⟩
 have hf:=s.mem.fr
 have hno:=s.mem.free
 have Fw:c≠n:=fun e=>by
  have:=hno c (by show n<=c;omega)
  rw [show gc hp c=.no from this] at hc
  cases hc
 have hρ:Cd J (Bw J n 0 (none,0)):=BK _ (hf n 0 (zna _))
 let Am:CH:=(c,Ai.bx (cs.set i (.rw n 0 0)))::(n,Ai.rw 0 m [])::hp
 have gcc:gc Am c=.bx (cs.set i (.rw n 0 0)):=Ar _ _ _
 have gcn:gc Am n=.rw 0 m []:=(Ak _ _ Fw).trans (Ar _ _ _)
 have Im:∀k,k≠n->k≠c->gc Am k=gc hp k:=fun k hk LN=>(Ak _ _ (fun e=>LN e.symm)).trans (Ak _ _ (fun e=>hk e.symm))
 have key:∀k g b d,(gc Am k).own g->Bw J n 0 (none,0) k g=some (some b,d)->(gc hp k).own g∧J k g=some (some b,d):=by
  intro k g b d e r
  by_cases hk:k=n
  .subst hk
   rw [gcn] at e
   cases e
   rw [A0] at r
   cases r
  .rw [AQ _ _ hk] at r
   by_cases LN:k=c
   .subst LN
    rw [gcc] at e
    rw [hc]
    exact ⟨e,r⟩
   .rw [Im k hk LN] at e
    exact ⟨e,r⟩
 have AI:∀b,AF (Bw J n 0 (none,0)) Am b->AF J hp b:=by
  rintro b ⟨k,g,d,e,r⟩
  obtain ⟨e1,e2⟩:=key k g b d e r
  exact ⟨k,g,d,e1,e2⟩
 refine ⟨h,Bw J n 0 (none,0),s.hle,s.rle.trans hρ,s.keep,fun b hb=>s.own b (AI b hb),⟨s.mem.hh,fun k=>?_,fun k k' g g' b d d' e e' r r'=>?_,fun b hb=>s.mem.hid b (AI b hb),fun b hb=>s.mem.lt b (AI b hb),fun k g hk=>?_,fun k g g' x e r=>?_,s.mem.gl⟩,fun u hu=>?_,s.size,s.defers⟩
 .by_cases hk:k=n
  .subst hk
   show (gc Am k).sat _ _ _ _
   rw [gcn]
   refine ⟨none,0,A0 _ _ _ _,by simp,by simp [maxLen],fun j e h=>by simp at h,fun _=>rfl,fun b hb=>by cases hb⟩
  .by_cases LN:k=c
   .subst LN
    show (gc Am k).sat _ _ _ _
    rw [gcc]
    have s0:=s.mem.ch k
    rw [show gc hp k=.bx cs from hc] at s0
    obtain ⟨b,d,vs,e,h1,h2,h3,h4⟩:=s0
    refine ⟨b,d,vs,e,by rw [AQ _ _ hk];exact h1,h2,by rw [List.length_set];exact h3,fun j α v a1 a2=>?_⟩
    rw [List.getElem?_set] at a1
    split at a1
    .rename_i v8
     subst v8
     have r:=h4 i .e0 v he a2
     split at a1
     .cases a1
      cases r with
      |pu _ _ p=>
       cases p with
       |e0 a=>exact .rw n 0 0 0 a none (A0 _ _ _ _) (zna _) (fun b hb=>by cases hb)
     .cases a1
    .exact AW.mono (BJ.refl _) hρ (h4 j α v a1 a2)
   .show (gc Am k).sat _ _ _ _
    rw [Im k hk LN]
    exact Ai.sat_mono (BJ.refl _) hρ (fun _ _ _ _ _=>rfl) (s.mem.ch k)
 .obtain ⟨a1,a2⟩:=key k g b d e r
  obtain ⟨b1,b2⟩:=key k' g' b d' e' r'
  exact s.mem.inj k k' g g' b d d' a1 b1 a2 b2
 .have hk:n+1<=k:=hk
  rw [AQ _ _ (by omega)]
  exact hf k g (by show n<=k;omega)
 .by_cases hk:k=n
  .subst hk
   have e:(gc Am k).rgen=some g:=e
   rw [gcn] at e
   cases e
   by_cases hg:g'=0
   .omega
   .have:Bw J k 0 (none,0) k g'=J k g':=by simp [Bw,hg]
    rw [this,hf k g' (zna _)] at r
    cases r
  .by_cases LN:k=c
   .subst LN
    have e:(gc Am k).rgen=some g:=e
    rw [gcc] at e
    cases e
   .have e:(gc Am k).rgen=some g:=e
    rw [Im k hk LN] at e
    rw [AQ _ _ hk] at r
    exact s.mem.gens k g g' x e r
 .obtain ⟨v,h1,h2⟩:=s.env u hu
  exact ⟨v,h1,AW.mono (BJ.refl _) hρ h2⟩
theorem Nk {m:Nat} {l:List (List AV)} (he:ge env t=.rw k g len) (hk:gc hp k=.rw g m l) (hl:len<=l.length):CD ⟨env,hp,n⟩ ⟨(t,.ds (l.take len))::env,(k,.sh g m l)::hp,n⟩:=by
 rintro C a w ⟨h,J,s⟩
 obtain ⟨h',a1,s'⟩:=s.shutC (.rw k g len)
 have hs:Eng.shutC hp (.rw k g len)=(k,.sh g m l)::hp:=by simp [Eng.shutC,hk]
 have s':Sat C ⟨env,(k,.sh g m l)::hp,n⟩ h' J a w:=by rw [<-hs];exact s'
 refine ⟨h',J,s'.hle,s'.rle,s'.keep,s'.own,s'.mem,fun u hu=>?_,s'.size,s'.defers⟩
 obtain ⟨v,h1,h2⟩:=s'.env u hu
 refine ⟨v,h1,?_⟩
 show AW h' _ (ge ((t,AV.ds (l.take len))::env) u) v
 unfold ge
 by_cases ht:t=u
 .subst ht
  rw [if_pos rfl]
  have h2:AW h' J (ge env t) v:=h2
  rw [he] at h2
  exact .pu _ _ (EX s'.mem h2 (by simp [Du,Ar,hl])).1
 .rw [if_neg ht]
  exact h2
theorem O2 {m:Nat} {l:List (List AV)} (hc:gc hp c=.bx cs) (he:cs[i]?=some (.rw k g len)) (hk:gc hp k=.rw g m l) (hl:len<=l.length) :
 CD ⟨env,hp,n⟩ ⟨env,(c,.bx (cs.set i (.ds (l.take len))))::(k,.sh g m l)::hp,n⟩:=by
 rintro C a w ⟨h,J,s⟩
 obtain ⟨h',a1,s'⟩:=s.shutC (.rw k g len)
 have hs:Eng.shutC hp (.rw k g len)=(k,.sh g m l)::hp:=by simp [Eng.shutC,hk]
 have s':Sat C ⟨env,(k,.sh g m l)::hp,n⟩ h' J a w:=by rw [<-hs];exact s'
 have Dc:k≠c:=fun e=>by rw [e,hc] at hk;cases hk
 have Qx:gc ((k,Ai.sh g m l)::hp) c=.bx cs:=(Ak _ _ Dc).trans hc
 have own':∀j e,(gc ((c,Ai.bx (cs.set i (.ds (l.take len))))::(k,Ai.sh g m l)::hp) j).own e->(gc ((k,Ai.sh g m l)::hp) j).own e:=fun j e q=>by
  by_cases hj:c=j
  .subst hj
   rw [Ar] at q
   rw [Qx]
   exact q
  .rw [Ak _ _ hj] at q
   exact q
 have AI:∀b,AF J ((c,Ai.bx (cs.set i (.ds (l.take len))))::(k,Ai.sh g m l)::hp) b->AF J ((k,Ai.sh g m l)::hp) b:=by
  rintro b ⟨j,e,d,q1,q2⟩
  exact ⟨j,e,d,own' j e q1,q2⟩
 refine ⟨h',J,s'.hle,s'.rle,s'.keep,fun b hb=>s'.own b (AI b hb),⟨s'.mem.hh,fun j=>?_,fun j j' g g' b d d' e e' r r'=>s'.mem.inj j j' g g' b d d' (own' j g e) (own' j' g' e') r r',fun b hb=>s'.mem.hid b (AI b hb),fun b hb=>s'.mem.lt b (AI b hb),s'.mem.fr,fun j g1 g2 x e r=>?_,s'.mem.gl⟩,s'.env,s'.size,s'.defers⟩
 .by_cases hj:c=j
  .subst hj
   show (gc ((c,Ai.bx (cs.set i (.ds (l.take len))))::(k,Ai.sh g m l)::hp) c).sat _ _ _ _
   rw [Ar]
   have s0:=s'.mem.ch c
   rw [show gc _ c=.bx cs from Qx] at s0
   obtain ⟨b,d,vs,e,h1,h2,h3,h4⟩:=s0
   refine ⟨b,d,vs,e,h1,h2,by rw [List.length_set];exact h3,fun j α v a1 a2=>?_⟩
   rw [List.getElem?_set] at a1
   split at a1
   .rename_i v8
    subst v8
    have r:=h4 i _ v he a2
    split at a1
    .cases a1
     exact .pu _ _ (EX s'.mem r (by simp [Du,Ar,hl])).1
    .cases a1
   .exact h4 j α v a1 a2
  .show (gc ((c,Ai.bx (cs.set i (.ds (l.take len))))::(k,Ai.sh g m l)::hp) j).sat _ _ _ _
   rw [Ak _ _ hj]
   exact s'.mem.ch j
 .by_cases hj:c=j
  .subst hj
   have e:(gc ((c,Ai.bx (cs.set i (.ds (l.take len))))::(k,Ai.sh g m l)::hp) c).rgen=some g1:=e
   rw [Ar] at e
   cases e
  .have e:(gc ((c,Ai.bx (cs.set i (.ds (l.take len))))::(k,Ai.sh g m l)::hp) j).rgen=some g1:=e
   rw [Ak _ _ hj] at e
   exact s'.mem.gens j g1 g2 x e r
/-! ### For the automatic walk -/
theorem G2.m {α:Type} {c:α->List AV} {l:List α} {K:List AV->Prop} (h:i<l.length) (k:∀x,l[i]?=some x->K (c x)):G2 (Ab c l) i K :=
 ⟨c l[i],Aa c (by simp [h]),k _ (by simp [h])⟩
theorem HZ {α:Type} {c:α->List AV} {l:List α} (h:∀x,(c x).length=n):∀e∈Ab c l,e.length=n:=fun e he=>by
 obtain ⟨x,_,rfl⟩:=K0 _ _ he
 exact h x
theorem GN {α:Type} {c:α->List AV} {l:List α} (h:∀x,(c x).length=n∧FE (c x)=true):∀e∈Ab c l,e.length=n∧FE e=true:=fun e he=>by
 obtain ⟨x,_,rfl⟩:=K0 _ _ he
 exact h x
def Q5 (env:EN):EN->Prop
 | []=>True
 | (t,α)::r=>(ge env t=α∨α=.un)∧Q5 env r
theorem RZ:∀{l:EN},Q5 env l->∀p∈l,ge env p.1=p.2∨p.2=.un
 | [],_,p,h=>by cases h
 | (t,α)::r,⟨h1,h2⟩,p,h=>by
  rcases List.mem_cons.1 h with e | e
  .subst e;exact h1
  .exact RZ h2 p e
attribute [go_sem] Q5
theorem AR {g9:EN} {Am:CH} {n':Nat} (he:Q5 env g9) (hh:Hd hp Am) (hn:n<=n'):CD ⟨env,hp,n⟩ ⟨g9,Am,n'⟩:=YB (RZ he) hh hn
theorem wS0 {m:Nat}  (hf:∀k,m<=k->gc B k=.no) (he:Q5 env l6)  (hu:Up m B hp) (hn:n<=n2):CD ⟨env,hp,n⟩ ⟨l6,B,n2⟩:=AR he (Hd.base hf hu) hn
theorem Fo {m:Nat} (hf:∀k,m<=k->gc B k=.no) (he:Q5 env l6) (h0:gc hp a0=c0) (hu:Up m B hp) (hn:n<=n2):CD ⟨env,hp,n⟩ ⟨l6,(a0,c0)::B,n2⟩:=AR he (Hd.cons h0 (Hd.base hf hu)) hn
theorem ID {m:Nat} (hf:∀k,m<=k->gc B k=.no) (he:Q5 env l6) (h0:gc hp a0=c0) (h1:gc hp a1=c1) (hu:Up m B hp) (hn:n<=n2):CD ⟨env,hp,n⟩ ⟨l6,(a0,c0)::(a1,c1)::B,n2⟩:=AR he (Hd.cons h0 (Hd.cons h1 (Hd.base hf hu))) hn
theorem LH {m:Nat} (hf:∀k,m<=k->gc B k=.no) (he:Q5 env l6) (h0:gc hp a0=c0) (h1:gc hp a1=c1) (h2:gc hp a2=c2) (hu:Up m B hp) (hn:n<=n2):CD ⟨env,hp,n⟩ ⟨l6,(a0,c0)::(a1,c1)::(a2,c2)::B,n2⟩:=AR he (Hd.cons h0 (Hd.cons h1 (Hd.cons h2 (Hd.base hf hu)))) hn
theorem wS5 {m:Nat} {a3:Nat} {c3:Ai} {a4:Nat} {c4:Ai} (hf:∀k,m<=k->gc B k=.no) (he:Q5 env l6) (h0:gc hp a0=c0) (h1:gc hp a1=c1) (h2:gc hp a2=c2) (h3:gc hp a3=c3) (h4:gc hp a4=c4) (hu:Up m B hp) (hn:n<=n2):CD ⟨env,hp,n⟩ ⟨l6,(a0,c0)::(a1,c1)::(a2,c2)::(a3,c3)::(a4,c4)::B,n2⟩:=AR he (Hd.cons h0 (Hd.cons h1 (Hd.cons h2 (Hd.cons h3 (Hd.cons h4 (Hd.base hf hu)))))) hn
theorem Dd (he:Q5 env l6):CD ⟨env,hp,n⟩ ⟨l6,hp,n⟩:=AR he (Hd.refl _) (zna _)
theorem Adb (n k o:Nat):(AV.bx k o).und n=(k<n):=rfl
theorem Ads (n k g l:Nat):(AV.rw k g l).und n=(k<n):=rfl
theorem Ac1 (n k:Nat):(AV.mp k).und n=(k<n):=rfl
theorem Agd (n k:Nat):(AV.mi k).und n=(k<n):=rfl
theorem Acs (n m i o:Nat) (α:AV):(AV.ep α m i o).und n=α.und n:=rfl
theorem Ae8 (n:Nat) (l:List AV):(AV.ag l).und n=AV.und.undL n l:=rfl
theorem Aes (n:Nat) (l:List AV):(AV.tp l).und n=AV.und.undL n l:=rfl
theorem Adt (n f:Nat) (l:List AV):(AV.fn f l).und n=AV.und.undL n l:=rfl
theorem Adj (n t:Nat) (α:AV):(AV.fc t α).und n=α.und n:=rfl
theorem Agc (n:Nat) (c:Bool) (α:AV):(AV.gd c α).und n=α.und n:=rfl
theorem Adi (n:Nat):AV.un.und n=True:=rfl
theorem Ah4 (n:Nat) (x:Bool):(AV.b x).und n=True:=rfl
theorem Ajl (n:Nat) (k:IntKind) (x:Int):(AV.i k x).und n=True:=rfl
theorem Aiz (n:Nat) (x:qB):(AV.s x).und n=True:=rfl
theorem Ac8 (n:Nat) (l:List (List AV)):(AV.ds l).und n=True:=rfl
theorem Agn (n:Nat):AV.e0.und n=True:=rfl
theorem Ae2 (n:Nat):AV.np.und n=True:=rfl
theorem Ad1 (n:Nat):AV.mn.und n=True:=rfl
theorem Adp (n:Nat):AV.nf.und n=True:=rfl
theorem Ad3 (n:Nat):AV.ni.und n=True:=rfl
theorem Yo (n:Nat):AV.und.undL n []=True:=rfl
theorem Ua (n:Nat) (α:AV) (r:List AV):AV.und.undL n (α::r)=(α.und n∧AV.und.undL n r):=rfl
theorem Aa4 (n:Nat) (l:List AV):(Ai.bx l).und n=AV.und.undL n l:=rfl
theorem Abb (n g k:Nat) (l:List (List AV)):(Ai.rw g k l).und n=True:=rfl
theorem Aap (n g k:Nat) (l:List (List AV)):(Ai.sh g k l).und n=True:=rfl
theorem Z3 (n g k:Nat) (l:List (List AV)):(Ai.rn g k l).und n=(∀x∈l,AV.und.undL n x):=rfl
attribute [go_sem] Z3
theorem Aaj (n:Nat) (l:List (qB × AV)):(Ai.mp l).und n=True:=rfl
theorem Abr (n:Nat) (l:List (qB × AV)) (sn:List qB):(Ai.mr l sn).und n=True:=rfl
theorem Zp (n:Nat) (l:List AV):(Ai.ro l).und n=True:=rfl
attribute [go_sem] Adb Ads Ac1 Agd Acs Ae8 Aes Adt Adj Agc Adi Ah4 Ajl Aiz Ac8 Agn Ae2 Ad1 Adp Ad3 Yo Ua Aa4 Abb Aap Aaj Abr Zp
theorem Ac9 (b:qB):b.data.toList=bs b:=rfl
attribute [go_sem] Ac9
attribute [grind =] As Kx BX by1 C3 D2
attribute [simp] As N2
attribute [grind =] Int.ofNat_eq_natCast
/-! ### What is lent to a callee: rows and variables of the caller that it reads alone -/
def AV.fl1:AV->Bool
 | .b _ | .i _ _ | .s _=>true
 |_=>false
def AV.flat:AV->Bool
 | .tp l=>l.all AV.fl1
 | .ag l=>l.all AV.fl1
 | α=>α.fl1
theorem N3 (o:α.fl1=true) (r:Bm h' α v):Bm h α v:=by
 cases α<;>first
  | (simp [AV.fl1] at o;done)
  | (cases r;constructor)
theorem Wx (o:α.flat=true) (r:Bm h' α v):Bm h α v:=by
 cases α with
 |tp l=>cases r with | tp _ vs e hx=>exact .tp _ _ e fun j β u a b=>N3 (List.all_eq_true.1 o β (zla a)) (hx j β u a b)
 |ag l=>cases r with | ag _ vs e hx=>exact .ag _ _ e fun j β u a b=>N3 (List.all_eq_true.1 o β (zla a)) (hx j β u a b)
 |_=>exact N3 o r
def JD (hp:CH):CH->Prop
 | []=>True
 | (k,.sh g m l)::r=>(gc hp k=.rw g m l∨gc hp k=.sh g m l)∧JD hp r
 |_=>False
def J7 (hp R:CH):CH->Prop
 | []=>True
 | (k,.ro cs)::r=>((∃xs,gc hp k=.bx xs∧E3 R xs=some cs)∨gc hp k=.ro cs)∧J7 hp R r
 |_=>False
def LK (h:HP) (J:RO) (w:World):CH->Prop
 | []=>True
 | (k,c)::r=>c.sat h J w k∧c.gen=none∧LK h J w r
theorem GO (hh:BJ h h'):∀{R:CH},LK h J w R->LK h' J w R
 | [],_=>trivial
 | (k,c)::r,s=>⟨Ai.sat_mono hh (Cd.refl _) (fun g b x e=>(Ai.own_none s.2.1 e).elim) s.1,s.2.1,GO hh s.2.2⟩
theorem Fs:∀{R:CH},LK h J w R->∀k,(gc R k).sat h J w k∧(gc R k).gen=none
 | [],_,k=>⟨trivial,rfl⟩
 | (k',c)::r,s,k=>by
  by_cases e:k'=k
  .subst e;rw [Ah];exact ⟨s.1,s.2.1⟩
  .rw [Aj e];exact Fs s.2.2 k
theorem Qa:∀{A B:CH},LK h J w A->LK h J w B->LK h J w (A++B)
 | [],B,_,b=>b
 | (k,c)::r,B,a,b=>⟨a.1,a.2.1,Qa a.2.2 b⟩
theorem XM {h0:HP} (hs:SatH h0 J hp n w) (hl:BJ h0 h) (hh:∀b o,h b=some o->w.heap[b]?=some o) (s:LK h J w R):SatH h J R n w:=by
 have no:∀b,¬AF J R b:=fun b ⟨k,g,c,e,_⟩=>Ai.own_none (Fs s k).2 e
 refine ⟨hh,fun k=>(Fs s k).1,fun k k' g g' b c c' e _ _ _=>?_,fun b hb=>absurd hb (no b),fun b hb=>absurd hb (no b),hs.fr,fun k g g' x e _=>?_,hs.glm hl⟩
 .exact (Ai.own_none (Fs s k).2 e).elim
 .have e:=Ai.rgen_gen e
  rw [(Fs s k).2] at e
  cases e
theorem Ej (hh:∀b o,h b=some o->w.heap[b]?=some o) {b:Nat} {o:Obj} (hb:w.heap[b]?=some o):∃h',BJ h h'∧(∀b o,h' b=some o->w.heap[b]?=some o)∧h' b=some o:=by
 refine ⟨fun x=>if x=b then some o else h x,fun x p e=>?_,fun x p e=>?_,if_pos rfl⟩
 .by_cases hx:x=b
  .subst hx
   have:=hh _ _ e
   rw [hb] at this
   cases this
   exact if_pos rfl
  .exact (if_neg hx).trans e
 .by_cases hx:x=b
  .subst hx
   have e2:(some o:Option Obj)=some p:=(if_pos rfl).symm.trans e
   cases e2
   exact hb
  .have e2:h x=some p:=(if_neg hx).symm.trans e
   exact hh _ _ e2
theorem OE (hs:SatH h J hp n w):∀{R:CH},JD hp R->∃h',BJ h h'∧(∀b o,h' b=some o->w.heap[b]?=some o)∧LK h' J w R
 | [],_=>⟨h,BJ.refl _,hs.hh,trivial⟩
 | (k,.sh g m l)::r,hr=>by
  obtain ⟨h1,a1,a2,a3⟩:=OE hs hr.2
  rcases hr.1 with e | e
  .have hk:=hs.ch k
   rw [e] at hk
   obtain ⟨ob,cap,g1,g2,g3,g4,g5,g6⟩:=hk
   cases ob with
   |none=>exact ⟨h1,a1,a2,⟨none,cap,g1,g2,g3,g4,g5,fun b hb=>by cases hb⟩,rfl,a3⟩
   |some b=>
    obtain ⟨vs,ty,q1,q2,q3⟩:=g6 b rfl
    obtain ⟨h2,b1,b2,b3⟩:=Ej a2 q1
    refine ⟨h2,a1.trans b1,b2,⟨some b,cap,g1,g2,g3,g4,g5,fun b' hb=>?_⟩,rfl,GO b1 a3⟩
    cases hb
    exact ⟨vs,ty,_,b3,fun j x q α y1 y2=>let ⟨u,z1,z2⟩:=q3 j x q α y1 y2;⟨u,z1,z2.mono (a1.trans b1)⟩⟩
  .have hk:=hs.ch k
   rw [e] at hk
   exact ⟨h1,a1,a2,Ai.sat_mono (c:=.sh g m l) a1 (Cd.refl _) (fun _ _ _ e=>by cases e) hk,rfl,a3⟩
theorem Mc {h1:HP} (hs:SatH h J hp n w) (a1:BJ h h1) (hR:SatH h1 J R n w):∀{B:CH},J7 hp R B->∃h',BJ h1 h'∧(∀b o,h' b=some o->w.heap[b]?=some o)∧LK h' J w B
 | [],_=>⟨h1,BJ.refl _,hR.hh,trivial⟩
 | (k,.ro cs)::r,hr=>by
  obtain ⟨h2,c1,c2,c3⟩:=Mc hs a1 hR hr.2
  rcases hr.1 with ⟨xs,e,Am⟩ | e
  .have hk:=hs.ch k
   rw [e] at hk
   obtain ⟨b,c,vs,ty,g1,g2,g3,g4⟩:=hk
   obtain ⟨h3,b1,b2,b3⟩:=Ej c2 g2
   have rl:Bv h1 J xs vs.toList:=⟨by simpa using g3.symm,fun j α v x y=>(g4 j α v x (by simpa using y)).mono a1 (Cd.refl _)⟩
   obtain ⟨p1,p2,_⟩:=GH hR rl Am
   refine ⟨h3,c1.trans b1,b2,⟨b,c,vs,ty,_,g1,b3,by simpa using p1.symm,fun j α v x y=>(p2 j α v x (by simpa using y)).mono (c1.trans b1)⟩,rfl,GO b1 c3⟩
  .have hk:=hs.ch k
   rw [e] at hk
   exact ⟨h2,c1,c2,Ai.sat_mono (c:=.ro cs) (a1.trans c1) (Cd.refl _) (fun _ _ _ e=>by cases e) hk,rfl,c3⟩
def cvX (hp:CH) (α:AV):AV:=(cvA hp α).getD α
theorem Wh (m:SatH h J hp n w) (r:Bv h J l vs):Bv h J (l.map (cvX hp)) vs:=by
 refine ⟨by simpa using r.1,fun j α v h1 h2=>?_⟩
 rw [List.getElem?_map] at h1
 cases hl:l[j]? with
 |none=>rw [hl] at h1;cases h1
 |some β=>
  rw [hl] at h1
  cases h1
  have q:=r.2 j β v hl h2
  unfold cvX
  cases hc:cvA hp β with
  |none=>exact q
  |some γ=>exact .pu _ _ (Np m q hc)
theorem Ae.lend (hR:JD hp R) (hB:J7 hp R B) (e:args.map (cvX (B++R))=args') (hr:r.flat=true) (m:Ae P f (B++R) n args' r):Ae P f hp n args r:=by
 refine ⟨m.1,fun h J w vs hs ha=>?_⟩
 obtain ⟨h1,a1,a2,a3⟩:=OE hs hR
 have sR:=XM hs a1 a2 a3
 obtain ⟨h2,b1,b2,b3⟩:=Mc hs a1 sR hB
 have sA:=Qa b3 (GO b1 a3)
 have s2:=XM hs (a1.trans b1) b2 sA
 have ra:Bv h2 J args' vs:=by
  rw [<-e]
  exact Wh s2 (ha.mono (a1.trans b1) (Cd.refl _))
 refine (m.2 h2 J w vs s2 ra).mono fun e w' ⟨v,he,h',hh,hm,Cf,hk⟩=>?_
 have old:∀b,b<w.heap.size->w'.heap[b]?=w.heap[b]?:=fun b hb=>hk.block b hb fun ⟨k,g,c,q,_⟩=>Ai.own_none (Fs sA k).2 q
 refine ⟨v,he,h,BJ.refl _,⟨fun b o x=>?_,fun k=>Ai.sat_mono (BJ.refl _) (Cd.refl _) (fun g b x q1 q2=>old b (hs.lt b ⟨k,g,x,q1,q2⟩)) (hs.ch k),hs.inj,hs.hid,fun b hb=>Nat.lt_of_lt_of_le (hs.lt b hb) hk.size,hs.fr,hs.gens,hs.gl⟩,Wx hr Cf,
  ⟨hk.os,hk.tape,hk.output,hk.size,fun b hb _=>old b hb⟩⟩
 have:=hs.hh b o x
 rw [old b (Array.getElem?_eq_some_iff.1 this).1]
 exact this
attribute [go_sem] JD J7 AV.fl1 AV.flat cvX
end
