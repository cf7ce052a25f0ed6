/- Proof. Conditions: none. -/
import Derived.Test.YtgfidgoefioigaaGreatDoorIj13
open List renaming mem_of_getElem?->zla
open Nat renaming le_refl->zna
namespace Go.Eng
set_option linter.all false
section
variable {h:HP} {J:RO} {hp Al B h0:CH} {n k:Nat} {w:World} {U β:AV} {v:Value} {P:Program} {f:FuncId} {c:Ak}
theorem SatH.free (m:SatH h J hp n w):∀k,n<=k->gc hp k=.no:=by
 intro k hk
 have:=m.ch k
 cases hc:gc hp k with
 |no=>rfl
 |bx cs=>rw [hc] at this;obtain ⟨b,c,vs,e,h1,_⟩:=this;rw [m.fr k 0 hk] at h1;cases h1
 |rw g n' l=>rw [hc] at this;obtain ⟨ob,cap,h1,_⟩:=this;rw [m.fr k g hk] at h1;cases h1
 |sh g n' l=>rw [hc] at this;obtain ⟨ob,cap,h1,_⟩:=this;rw [m.fr k g hk] at h1;cases h1
 |rc g n' cap l=>rw [hc] at this;obtain ⟨ob,h1,_⟩:=this;rw [m.fr k g hk] at h1;cases h1
 |mp l=>rw [hc] at this;obtain ⟨b,c,es,cl,h1,_⟩:=this;rw [m.fr k 0 hk] at h1;cases h1
 |mq F=>rw [hc] at this;obtain ⟨b,c,es,cl,h1,_⟩:=this;rw [m.fr k 0 hk] at h1;cases h1
 |mr l sn=>rw [hc] at this;obtain ⟨b,c,es,cl,h1,_⟩:=this;rw [m.fr k 0 hk] at h1;cases h1
 |ro cs=>rw [hc] at this;obtain ⟨b,c,vs,e,fr,h1,_⟩:=this;rw [m.fr k 0 hk] at h1;cases h1
 |rn g n' l=>rw [hc] at this;obtain ⟨ob,cap,h1,_⟩:=this;rw [m.fr k g hk] at h1;cases h1
 |sb T e g bs=>rw [hc] at this;obtain ⟨b,c,p,v,h1,_⟩:=this;rw [m.fr k 0 hk] at h1;cases h1
def Br:AV->List AV
 | .tp l=>l.flatMap fun U=>match U with
  | .ag c=>c
  | U=>[U]
 | .ag c=>c
 | U=>[U]
def cvA (hp:CH):AV->Option AV
 | .ag c=>(EI hp c).map .ag
 | U=>D7 hp U
def T7 (hp:CH):List AV->Option (List AV)
 | []=>some []
 | U::r=>match cvA hp U,T7 hp r with
  |some β,some l=>some (β::l)
  |_,_=>none
def Zz (hp:CH):AV->Option AV
 | .tp l=>(T7 hp l).map .tp
 | U=>cvA hp U
theorem SatH.shutL (l:List AV):∀{h:HP} {hp:CH},SatH h J hp n w->∃h',BQ h h'∧SatH h' J (shutL hp l) n w∧∀b,AI J (Eng.shutL hp l) b->AI J hp b:=by
 induction l with
 |nil=>intro h hp m;exact ⟨h,BQ.refl _,m,fun b hb=>hb⟩
 |cons U r ih=>
  intro h hp m
  have step:∃h',BQ h h'∧SatH h' J (shutC hp U) n w∧∀b,AI J (Eng.shutC hp U) b->AI J hp b:=by
   unfold Eng.shutC
   split
   .split
    .rename_i k g len g' n' l hk
     split
     .obtain ⟨h',h1,h2,h3⟩:=m.shut hk
      exact ⟨h',h1,h2,h3⟩
     .exact ⟨h,BQ.refl _,m,fun b hb=>hb⟩
    .exact ⟨h,BQ.refl _,m,fun b hb=>hb⟩
   .exact ⟨h,BQ.refl _,m,fun b hb=>hb⟩
  obtain ⟨h1,a1,a2,a3⟩:=step
  obtain ⟨h2,b1,b2,b3⟩:=ih a2
  exact ⟨h2,a1.trans b1,b2,fun b hb=>a3 b (b3 b hb)⟩
theorem NW (m:SatH h J hp n w) (r:Ba h J U v) (e:cvA hp U=some β):Bq h β v:=by
 unfold cvA at e
 split at e
 .rename_i c
  cases hc:EI hp c with
  |none=>simp [hc] at e
  |some l=>
   simp [hc] at e
   subst e
   obtain ⟨vs,rfl,rs⟩:=r.agg
   obtain ⟨p1,p2,_⟩:=Hb m rs hc
   exact .ag _ _ p1 p2
 .exact (Fq m r e).1
theorem Ig (m:SatH h J hp n w) (r:Ba h J U v) (e:Zz hp U=some β):Bq h β v:=by
 unfold Zz at e
 split at e
 .rename_i l
  cases hc:T7 hp l with
  | none => simp [hc] at e
  |some l'=>
   simp [hc] at e
   subst e
   obtain ⟨vs,rfl,rs⟩:=r.tup
   have key:∀(l l':List AV) (vs:List Value),Bx h J l vs->T7 hp l=some l'->l'.length=vs.length∧∀(j:Nat) U v,l'[j]?=some U->vs[j]?=some v->Bq h U v:=by
    intro l
    induction l with
    |nil=>
     intro l' vs r e
     simp [T7] at e
     subst e
     have:vs=[]:=by have:=r.1;simpa using this.symm
     subst this
     exact ⟨rfl,fun j U v h=>by simp at h⟩
    |cons U l ih=>
     intro l' vs r e
     cases vs with
     | nil => have := r.1; simp at this
     |cons v vs=>
      unfold T7 at e
      split at e
      .rename_i β l2 e1 e2
       cases e
       obtain ⟨i1,i2⟩:=ih l2 vs ⟨by have:=r.1;simpa using this,fun j U v h1 h2=>r.2 (j+1) U v (by simpa using h1) (by simpa using h2)⟩ e2
       refine ⟨by simp [i1],fun j U v h1 h2=>?_⟩
       cases j with
       | zero => simp at h1 h2; subst h1; subst h2; exact NW m (r.2 0 _ _ rfl rfl) e1
       | succ j => exact i2 j U v (by simpa using h1) (by simpa using h2)
      .cases e
   obtain ⟨k1,k2⟩:=key l l' vs rs hc
   exact .tp _ _ k1 k2
 .exact NW m r e
def SM (hp:CH) (n:Nat) (r:AV) (Al:CH) (_:Nat) (r':AV):Prop:=Up n hp (shutL Al (Br r'))∧Zz (shutL Al (Br r')) r'=some r
theorem AO.toF {args:List AV} {r:AV} (m:AO P f hp n args (SM hp n r)):Af P f hp n args r:=by
 refine ⟨m.1,fun h J w vs hs ha=>(m.2 h J w vs hs ha).mono fun e w' ⟨v,he,h',ρ',Al,n',r',⟨e1,e2⟩,hh,hr,hm,Cr,hk,hl⟩=>?_⟩
 obtain ⟨h2,a1,a2,a3⟩:=hm.shutL (h:=h') (Br r')
 have r2:=Ig a2 (Cr.mono a1 (Ck.refl _)) e2
 have m2:=SatH.cut e1 a2 hs.free
 exact ⟨v,he,h2,hh.trans a1,SatH.back hr hs m2,r2,hk⟩
theorem Aj {fn : Func} {k : CC} {rs : List RS} (hf : P.funcs[f]? = some fn) (FN : (fn.name == "runtime.NumGoroutine") = false)
 (hc:fn.body.bind (BX P fn.ntmps)=some k.erase) (Ic:OB P fn.ntmps fn.results.toList=some rs) {hp:CH} {n:Nat} {args:List AV} {r:AV} (Bn:Nat.ble args.length fn.ntmps=true)
 (hv:(∀k,n<=k->gc hp k=.no)->vc P k ⟨CK 0 args,hp,n⟩ (Lt rs (SM hp n r))):Af P f hp n args r:=by
 have Ka := (by obtain ⟨c, hb, Mt⟩ := bd hc; exact ⟨fn, hf, FN, by rw [hb]; rfl⟩ : ∃ fn, P.funcs[f]? = some fn ∧ (fn.name == "runtime.NumGoroutine") = false ∧ fn.body.isNone = false)
 refine ⟨Ka,fun h J w vs hs ha=>?_⟩
 exact (AO.toF (J5 hf FN hc Ic Bn (hv hs.free))).2 h J w vs hs ha
theorem Ab0 (n:Nat) (hp:CH):Up n hp hp=True:=by simp [Up.refl]
theorem Aaa (hk:n<=k):Up n hp ((k,c)::Al)=Up n hp Al:=by
 refine propext ⟨fun h j hj=>?_,fun h=>h.cons c hk⟩
 have:=h j hj
 rwa [Ai c Al (by omega)] at this
attribute [go_sem] Ab0 Aaa SM Br cvA T7 Zz List.flatMap_cons List.flatMap_nil
/-! ### Loops -/
def H2 (hp Al:CH):Prop:=∀k,gc Al k=gc hp k∨gc Al k=.no
theorem H2.base (hf:∀k,n<=k->gc B k=.no) (hu:Up n B hp):H2 hp B:=fun k=>by
 rcases Nat.lt_or_ge k n with h | h
 .exact .inl (hu k h).symm
 .exact .inr (hf k h)
theorem H2.cons (h:gc hp k=c) (s:H2 hp Al):H2 hp ((k,c)::Al):=fun j=>by
 by_cases hk:k=j
 .subst hk
  exact .inl (by rw [Ax];exact h.symm)
 .rw [Ai c Al hk]
  exact s j
theorem H2.refl (hp:CH):H2 hp hp:=fun _=>.inl rfl
theorem Zq {env g9:EN} {n':Nat} (he:∀p∈g9,ge env p.1=p.2∨p.2=.un) (hh:H2 hp Al) (hn:n<=n'):CM ⟨env,hp,n⟩ ⟨g9,Al,n'⟩:=by
 rintro C a w ⟨h,J,s⟩
 have EO:∀k g,(gc Al k).own g->gc Al k=gc hp k:=by
  intro k g e
  rcases hh k with h1 | h1
  .exact h1
  .rw [h1] at e;cases e
 have hl:∀b,AI J Al b->AI J hp b:=fun b ⟨k,g,c,e,r⟩=>⟨k,g,c,by rw [<-EO k g e];exact e,r⟩
 refine ⟨h,J,s.hle,s.rle,s.keep,fun b hb=>s.own b (hl b hb),?_,fun t ht=>?_,s.size,s.defers⟩
 .have m:=s.mem
  refine ⟨m.hh,fun k=>?_,fun k k' g g' b c c' e e' r r'=>m.inj k k' g g' b c c' (by show (gc hp k).own _;rw [<-EO k g e];exact e) (by show (gc hp k').own _;rw [<-EO k' g' e'];exact e') r r',fun b hb=>m.hid b (hl b hb),fun b hb=>m.lt b (hl b hb),fun k g hk=>m.fr k g (Nat.le_trans hn hk),fun k g g' x e r=>?_,m.gl⟩
  .show (gc Al k).sat h J w k
   rcases hh k with h1 | h1
   .rw [h1];exact m.ch k
   .rw [h1];trivial
  .have:=EO k g (Ak.gen_own (Ak.rgen_gen e))
   exact m.gens k g g' x (by show (gc hp k).rgen=_;rw [<-this];exact e) r
 .obtain ⟨v,h1,h2⟩:=s.env t ht
  refine ⟨v,h1,?_⟩
  have key:∀(l:EN),(∀p∈l,ge env p.1=p.2∨p.2=.un)->ge l t=.un∨ge env t=ge l t:=by
   intro l
   induction l with
   |nil=>intro _;exact .inl rfl
   |cons p l ih=>
    intro hp
    obtain ⟨u,U⟩:=p
    simp only [ge]
    by_cases hu:u=t
    .subst hu
     rw [if_pos rfl]
     rcases hp (u,U) (by simp) with h | h
     .exact .inr h
     .exact .inl h
    .rw [if_neg hu]
     exact ih fun q hq=>hp q (by simp [hq])
  rcases key g9 he with h | h
  .show Ba _ _ (ge g9 t) v
   rw [h]
   exact .pu _ _ (.un _)
  .show Ba _ _ (ge g9 t) v
   rw [<-h]
   exact h2
def Wr {ι:Type} (I:ι->St) (φ:ι->Prop) (μ:ι->Nat) (i:ι) (Q:Exit->St->Prop):Exit->St->Prop
 | .normal,s=>∃j,φ j∧μ j<μ i∧CM s (I j)
 |e,s=>Q e s
theorem UF {ι:Type} {F:St->(Exit->St->Prop)->Prop} (hF:∀s Q Q',(∀e s,Q e s->Q' e s)->F s Q->F s Q') (I:ι->St) (φ:ι->Prop) (μ:ι->Nat) (i0:ι) {st:St} {Q:Exit->St->Prop} (h1:φ i0) (h0:CM st (I i0))
 (hs:∀i,φ i->F (I i) (Wr I φ μ i Q)):NR F st Q:=by
 refine ⟨fun m s=>∃i,φ i∧μ i=m∧s=I i,⟨μ i0,I i0,⟨i0,h1,rfl,rfl⟩,h0⟩,?_⟩
 rintro m s ⟨i,hi,rfl,rfl⟩
 refine hF _ _ _ (fun e s h=>?_) (hs i hi)
 cases e with
 |normal=>
  obtain ⟨j,a,b,c⟩:=h
  exact ⟨μ j,I j,b,⟨j,a,rfl,rfl⟩,c.g⟩
 |_=>exact h
def AV.und (n:Nat):AV->Prop
 | .bx k _=>k<n
 | .rw k _ _=>k<n
 | .rf k _ _ _ _=>k<n
 | .mp k=>k<n
 | .mi k=>k<n
 | .ep U _ _ _=>U.und n
 | .ag l=>undL n l
 | .tp l=>undL n l
 | .fn _ l=>undL n l
 | .fc _ x=>x.und n
 | .gd _ x=>x.und n
 |_=>True
where
 undL (n:Nat):List AV->Prop
  | []=>True
  | U::r=>U.und n∧undL n r
theorem F4:∀{l:List AV},AV.und.undL n l->∀(j:Nat) U,l[j]?=some U->U.und n
 | [],_,j,U,h=>by simp at h
 |x::r,hb,0,U,h=>by simp at h;subst h;exact hb.1
 |x::r,hb,j+1,U,h=>F4 hb.2 j U (by simpa using h)
def YP (J:RO) (n:Nat):RO:=fun k g=>if k<n then J k g else none
theorem C4 (h:k<n) (g:Nat):YP J n k g=J k g:=by simp [YP,h]
theorem Yt {g:Nat} {x:Option Nat×Nat} (h:YP J n k g=some x):J k g=some x∧k<n:=by
 unfold YP at h
 split at h
 .exact ⟨h,by assumption⟩
 .cases h
theorem Ba.cut (r:Ba h J U v):U.und n->Ba h (YP J n) U v:=by
 induction r with
 |pu U v p=>intro _;exact .pu U v p
 |ag l vs e _ ih=>intro hb;exact .ag l vs e fun j U v h1 h2=>ih j U v h1 h2 (F4 hb j U h1)
 |tp l vs e _ ih=>intro hb;exact .tp l vs e fun j U v h1 h2=>ih j U v h1 h2 (F4 hb j U h1)
 |bx k off b c e=>intro hb;exact .bx k off b c (by rw [C4 hb];exact e)
 |rw k g len cap a ob e hl ha=>intro hb;exact .rw k g len cap a ob (by rw [C4 hb];exact e) hl ha
 |ep U n i off b o len cap _ hi ih=>intro hb;exact .ep U n i off b o len cap (ih hb) hi
 |mp k b c e=>intro hb;exact .mp k b c (by rw [C4 hb];exact e)
 |mi k b c e=>intro hb;exact .mi k b c (by rw [C4 hb];exact e)
 |fn f l vs e _ ih=>intro hb;exact .fn f l vs e fun j U v h1 h2=>ih j U v h1 h2 (F4 hb j U h1)
 |fc t x v _ ih=>intro hb;exact .fc t x v (ih hb)
 |gd c x v _ hf ih=>intro hb;exact .gd c x v (fun q=>ih q hb) hf
 |rf k g n' off len cap a ob e hl ha=>intro hb;exact .rf k g n' off len cap a ob (by rw [C4 hb];exact e) hl ha
def Ak.und (n:Nat):Ak->Prop
 | .bx cs=>AV.und.undL n cs
 | .rn _ _ l=>∀x∈l,AV.und.undL n x
 |_=>True
theorem Ak.cut (s:c.sat h J w k) (hk:k<n) (hb:c.und n):c.sat h (YP J n) w k:=by
 cases c with
 |no=>trivial
 |bx cs=>
  obtain ⟨b,c,vs,e,h1,h2,h3,h4⟩:=s
  exact ⟨b,c,vs,e,by rw [C4 hk];exact h1,h2,h3,fun j U v a1 a2=>(h4 j U v a1 a2).cut (F4 hb j U a1)⟩
 |rw g n l=>obtain ⟨ob,cap,h1,hx⟩:=s;exact ⟨ob,cap,by rw [C4 hk];exact h1,hx⟩
 |sh g n l=>obtain ⟨ob,cap,h1,hx⟩:=s;exact ⟨ob,cap,by rw [C4 hk];exact h1,hx⟩
 |rc g n cap l=>obtain ⟨ob,h1,hx⟩:=s;exact ⟨ob,by rw [C4 hk];exact h1,hx⟩
 |mp l=>obtain ⟨b,c,es,cl,h1,hx⟩:=s;exact ⟨b,c,es,cl,by rw [C4 hk];exact h1,hx⟩
 |mq F=>obtain ⟨b,c,es,cl,h1,hx⟩:=s;exact ⟨b,c,es,cl,by rw [C4 hk];exact h1,hx⟩
 |mr l sn=>obtain ⟨b,c,es,cl,h1,q1,q2,q3,q4,b2,c2,x7,g2,q5⟩:=s;exact ⟨b,c,es,cl,by rw [C4 hk];exact h1,q1,q2,q3,q4,b2,c2,x7,by rw [C4 hk];exact g2,q5⟩
 |ro cs=>obtain ⟨b,c,vs,e,fr,h1,hx⟩:=s;exact ⟨b,c,vs,e,fr,by rw [C4 hk];exact h1,hx⟩
 |rn g n' l=>
  obtain ⟨ob,cap,h1,h2,EY,h3,h4,h5⟩:=s
  refine ⟨ob,cap,by rw [C4 hk];exact h1,h2,EY,h3,h4,fun b hb'=>?_⟩
  obtain ⟨vs,e,a1,a2,a3⟩:=h5 b hb'
  exact ⟨vs,e,a1,a2,fun j x q U y1 y2=>let ⟨u,z1,z2⟩:=a3 j x q U y1 y2;⟨u,z1,z2.cut (F4 (hb x (zla y1)) q U y2)⟩⟩
 |sb T e g bs=>
  obtain ⟨b,c,p,v,h1,h2,h3,h4,h5,⟨y,hy⟩,h6⟩:=s
  exact ⟨b,c,p,v,by rw [C4 hk];exact h1,h2,h3,h4,h5,⟨y,by rw [C4 hk];exact hy⟩,fun b2 e2=>⟨(h6 b2 e2).1,let ⟨c2,q⟩:=(h6 b2 e2).2;⟨c2,by rw [C4 hk];exact q⟩⟩⟩
def Ve (n:Nat) (h0 hp Al:CH):Prop:=∀k,gc Al k=.no∨gc hp k=gc Al k∧k<n∧((gc Al k).und n∨gc Al k=gc h0 k)
theorem Ve.cons (h:gc hp k=c) (hk:k<n) (hb:c.und n) (s:Ve n h0 hp Al):Ve n h0 hp ((k,c)::Al):=fun j=>by
 by_cases q:k=j
 .subst q
  exact .inr ⟨by rw [Ax];exact h,hk,.inl (by rw [Ax];exact hb)⟩
 .rw [Ai c Al q]
  exact s j
theorem Ve.base {m:Nat} (hf:∀k,m<=k->gc B k=.no) (hm:m<=n) (h1:Up m B h0) (h2:Up m B hp):Ve n h0 hp B:=fun k=>by
 rcases Nat.lt_or_ge k m with h | h
 .exact .inr ⟨h2 k h,Nat.lt_of_lt_of_le h hm,.inr (h1 k h).symm⟩
 .exact .inl (hf k h)
end
section
variable {P:Program}
section
variable {o:CO} {st:St} {K K':St->Prop}
theorem FO {k0:Nat} (h:∀s,K s->K' s) (hv:D9 P k0 o st K):D9 P k0 o st K':=by
 obtain ⟨h1,h2⟩:=hv
 refine ⟨h1,?_⟩
 obtain ⟨d,op,g⟩:=o
 cases op
 case al z=>exact h _ h2
 case bo x=>
  simp only at h2 ⊢
  split at h2
  .rename_i e;exact h _ h2
  .exact h2.elim
 case mk=>exact h _ h2
 case mpg x=>
  simp only at h2 ⊢
  unfold mgK at h2 ⊢
  split at h2
  .split at h2
   .exact h _ h2
   .exact h2.elim
  .exact h2.elim
 case mpn x=>
  simp only at h2 ⊢
  unfold mxK at h2 ⊢
  split at h2
  .split at h2
   .exact ⟨fun e=>h _ (h2.1 e),fun j b U e1 e2=>h _ (h2.2 j b U e1 e2)⟩
   .exact h2.elim
  .exact h2.elim
 case mpe x=>
  simp only at h2 ⊢
  unfold meK at h2 ⊢
  split at h2
  .split at h2
   .obtain ⟨b,e1,U,e2,e3⟩:=h2
    exact ⟨b,e1,U,e2,h _ e3⟩
   .exact h2.elim
  .exact h2.elim
 case mpd x s=>
  simp only at h2 ⊢
  unfold mdK at h2 ⊢
  split at h2
  .split at h2
   .exact h _ h2
   .exact h _ h2
   .exact h2.elim
  .exact h2.elim
 case clr x m z=>
  simp only at h2 ⊢
  unfold clK at h2 ⊢
  split at h2
  .split at h2
   .exact ⟨h2.1,h _ h2.2⟩
   .exact h2.elim
  .split at h2
   .exact ⟨h2.1,h _ h2.2⟩
   .exact h2.elim
  .exact h2.elim
 case alb=>exact h _ h2
 case mu x s y=>
  simp only at h2 ⊢
  unfold muK at h2 ⊢
  split at h2
  .split at h2
   .exact ⟨h2.1,h _ h2.2⟩
   .exact h2.elim
  .exact h2.elim
 case nl neg x=>
  simp only at h2 ⊢
  unfold nlK at h2 ⊢
  split at h2
  .exact ⟨fun e=>h _ (h2.1 e),h _ h2.2⟩
  .exact ⟨fun e=>h _ (h2.1 e),h _ h2.2⟩
  .exact ⟨h _ h2.1,h _ h2.2⟩
  .exact h2.elim
 case st x y m=>
  simp only at h2 ⊢
  split at h2
  .obtain ⟨a,b,c⟩:=h2
   refine ⟨a,b,?_⟩
   unfold stK at c ⊢
   split at c
   .split at c
    .exact ⟨c.1,h _ c.2⟩
    .exact c.elim
   .split at c
    .obtain ⟨c1,e,c2,c3⟩:=c
     exact ⟨c1,e,c2,h _ c3⟩
    .obtain ⟨c1,e,c2,c3⟩:=c
     exact ⟨c1,e,c2,h _ c3⟩
    .exact c.elim
   .exact c.elim
  .exact h2.elim
 case bs fz n ps=>
  simp only at h2 ⊢
  split at h2
  .split at h2
   .exact h _ h2
   .exact h2.elim
  .split at h2
   .split at h2
    .rename_i hf;rw [if_pos hf];exact h _ h2
    .rename_i hf;rw [if_neg hf];exact h _ h2
   .exact h2.elim
 case ap x y n b=>
  simp only at h2 ⊢
  split at h2
  .obtain ⟨a,b,c,d⟩:=h2
   refine ⟨a,b,c,?_⟩
   split at d
   .exact h _ d
   .exact d.elim
  .split at h2
   .obtain ⟨a,b,c,d⟩:=h2
    refine ⟨a,b,c,?_⟩
    split at d
    .exact h _ d
    .exact d.elim
   .exact h2.elim
 case aps x y=>
  simp only at h2 ⊢
  split at h2
  .obtain ⟨a,d⟩:=h2
   refine ⟨a,?_⟩
   split at d
   .exact h _ d
   .exact d.elim
  .exact h2.elim
 case ms l c n b z=>
  simp only at h2 ⊢
  split at h2
  .obtain ⟨a1,a2,a3,a4,a5,a6,a7⟩:=h2
   exact ⟨a1,a2,a3,a4,a5,a6,h _ a7⟩
  .exact h2.elim
 case cl f xs=>
  obtain ⟨R,a,b⟩:=h2
  exact ⟨R,a,fun Al n' r hr=>h _ (b Al n' r hr)⟩
 case cc f xs=>
  simp only at h2 ⊢
  split at h2
  .obtain ⟨R,a,b⟩:=h2
   exact ⟨R,a,fun Al n' r hr=>h _ (b Al n' r hr)⟩
  .exact h2.elim
 all_goals exact Nj (fun U=>h _) h2
theorem Si (h:∀s,K s->K' s) (hv:J8 P o st K):J8 P o st K':=by
 have hg:∀G,Ro P o st G K->Ro P o st G K':=by
  intro G hv
  unfold Ro at *
  split at hv
  .rename_i hs
   rw [if_pos hs]
   exact ⟨hv.1,hv.2.1,hv.2.2.1,h _ hv.2.2.2⟩
  .rename_i hs
   rw [if_neg hs]
   split at hv
   .rename_i f xs ho
    refine ⟨hv.1,?_⟩
    rcases hv.2 with ⟨r,m,k⟩ | h2
    .exact .inl ⟨r,m,h _ k⟩
    .exact .inr ⟨fun e=>(let ⟨R,hm,hk⟩:=h2.1 e;⟨R,hm,fun a b c d=>h _ (hk a b c d)⟩),fun e=>h _ (h2.2 e)⟩
   .exact ⟨fun e=>FO h (hv.1 e),fun e=>h _ (hv.2 e)⟩
 unfold J8 at *
 split at hv
 .exact FO h hv
 .split at hv
  .exact hg _ hv
  .exact hg _ hv
  .exact hg _ hv
  .exact hv
theorem UL (h:∀s,K s->K' s) (hv:Ud P o st K):Ud P o st K':=by
 unfold Ud at *
 split at hv
 .split at hv
  .exact FO h hv
  .refine ⟨hv.1,?_⟩
   replace hv:=hv.2
   split at hv
   .refine ⟨hv.1,hv.2.1,hv.2.2.1,?_⟩
    replace hv:=hv.2.2.2
    split at hv
    .split at hv
     .split at hv
      .exact ⟨hv.1,h _ hv.2⟩
      .exact ⟨hv.1,h _ hv.2.1,h _ hv.2.2⟩
     .exact hv.elim
    .exact ⟨hv.1,h _ hv.2⟩
    .exact hv.elim
   .exact hv.elim
 .exact FO h hv
 .exact hv.elim
theorem V0 (h:∀s,K s->K' s) (hv:YL P o st K):YL P o st K':=by
 unfold YL at *
 split at hv
 .exact Si h hv
 .exact UL h hv
theorem Rt {l:List CO}:∀{st:St} {K K':St->Prop},(∀s,K s->K' s)->Bg P l st K->Bg P l st K':=by
 induction l with
 |nil=>intro st K K' h hv;exact h _ hv
 |cons o r ih=>intro st K K' h hv;exact V0 (fun s hs=>ih h hs) hv
theorem Abt:∀(c:CC) (st:St) (Q Q':Exit->St->Prop),(∀e s,Q e s->Q' e s)->vc P c st Q->vc P c st Q':=by
 intro c
 induction c with
 |skip=>intro st Q Q' h hv;exact h _ _ hv
 |rg l=>intro st Q Q' h hv;exact Rt (h _) hv
 |dr l dp=>intro st Q Q' h hv;exact MO l _ _ _ _ _ _ (fun e hp hk=>h _ _ hk) hv
 |sq a b iha ihb=>
  intro st Q Q' h hv
  refine iha st _ _ (fun e s hs=>?_) hv
  cases e with
  |normal=>exact ihb s _ _ h hs
  |_=>exact h _ _ hs
 |sqw a b iha ihb=>
  intro st Q Q' h hv
  refine iha st _ _ (fun e s hs=>?_) hv
  cases e with
  |normal=>
   obtain ⟨I,hw,k⟩:=hs
   exact ⟨I,hw,fun s2 hI=>ihb s2 _ _ h (k s2 hI)⟩
  |_=>exact h _ _ hs
 |cd c a b iha ihb=>
  intro st Q Q' h hv
  obtain ⟨h1,h2⟩:=hv
  refine ⟨h1,?_⟩
  split at h2
  .exact ⟨fun e=>iha st _ _ h (h2.1 e),fun e=>ihb st _ _ h (h2.2 e)⟩
  .exact h2.elim
 |bl id c ih=>
  intro st Q Q' h hv
  refine ih st _ _ (fun e s hs=>?_) hv
  cases e with
  |exit i=>
   simp only at hs ⊢
   split
   .rename_i hi;rw [if_pos hi] at hs;exact h _ _ hs
   .rename_i hi;rw [if_neg hi] at hs;exact h _ _ hs
  |_=>exact h _ _ hs
 |lp c ih=>
  intro st Q Q' h ⟨I,h1,h2⟩
  refine ⟨I,h1,fun m s hI=>ih s _ _ (fun e s' hs=>?_) (h2 m s hI)⟩
  cases e with
  |normal=>exact hs
  |_=>exact h _ _ hs
 |ex id=>intro st Q Q' h hv;exact h _ _ hv
 |rt=>intro st Q Q' h hv;exact h _ _ hv
theorem loop {ι:Type} {c:CC} (I:ι->St) (φ:ι->Prop) (μ:ι->Nat) (i0:ι) {Q:Exit->St->Prop} (h1:φ i0) (h0:CM st (I i0)) (hs:∀i,φ i->vc P c (I i) (Wr I φ μ i Q)):NR (vc P c) st Q :=
 UF (fun s Q Q' h=>Abt c s Q Q' h) I φ μ i0 h1 h0 hs
end
end
section
variable {n t c i k g len n2 a0 a1 a2:Nat} {P:Program} {f:FuncId} {hp B R:CH} {args l args' cs:List AV} {K:CH->Nat->AV->Prop} {r U:AV} {h h':HP} {J:RO} {w:World} {vs:List Value} {env j9:EN} {c0 c1 c2:Ak} {v:Value}
attribute [go_sem] Wr
def Ab {U:Type} (c:U->List AV) (l:List U):List (List AV):=l.map c
theorem Iv {U:Type} (c:U->List AV):Ab c []=[]:=rfl
theorem Cl {U:Type} (c:U->List AV) (x:U) (l:List U):Ab c (x::l)=c x::Ab c l:=rfl
theorem Ao {U:Type} (c:U->List AV) (l:List U):(Ab c l).length=l.length:=by simp [Ab]
theorem Aa {U:Type} (c:U->List AV) {l:List U} {j:Nat} {a:U} (h:l[j]?=some a):(Ab c l)[j]?=some (c a):=by simp [Ab,h]
theorem Js {U:Type} (c:U->List AV) (l:List U) (n:Nat):(Ab c l).take n=Ab c (l.take n):=by simp [Ab]
theorem UN {U:Type} (c:U->List AV) (l:List U) (n:Nat):(Ab c l).drop n=Ab c (l.drop n):=by simp [Ab]
theorem AX {U:Type} (c:U->List AV) (l:List U) (x:U):Ab c l++[c x]=Ab c (l++[x]):=by simp [Ab]
theorem Ll {U:Type} (c:U->List AV) (l:List U) {e:List AV} (h:e∈Ab c l):∃x∈l,c x=e:=by simpa [Ab] using h
def by1 (b:UInt8):List AV:=[.i .u8 b.toNat]
def Cz (s:qB):List AV:=[.s s]
def D0 (n:Int):List AV:=[.i .i64 n]
abbrev Bd (l:List qB):List (List AV):=Ab Cz l
def bs (b:qB):List UInt8:=b.data.toList
theorem RX (b:qB):Ec b=Ab by1 (bs b):=rfl
theorem Oi (b:qB):(bs b).length=b.size:=by simp [bs]
theorem Acm (l:List UInt8):bs ⟨⟨l⟩⟩=l:=rfl
theorem Ub {x:Int} (h:-9223372036854775808<=x∧x<=9223372036854775807):IntKind.i64.wrap x=x:=by
 simp [IntKind.wrap,IntKind.bits,IntKind.signed];omega
theorem Ap (n:Nat) (h:n<9223372036854775807):IntKind.i64.wrap ((n:Int)+1)=((n+1:Nat):Int):=by rw [Ub (by omega)];simp
def u8 (n:Int):UInt8:=UInt8.ofNat (n % 256).toNat
theorem wr8 (n:Int):IntKind.u8.wrap n=((u8 n).toNat:Int):=by
 simp [IntKind.wrap,IntKind.bits,IntKind.signed,u8];omega
attribute [grind =] Oi Acm
theorem DT {U:Type} {c:U->List AV} {l:List U} (h:∀x,(c x).length=n∧FW (c x)=true):Ew n (Ab c l)=True:=eq_true fun e he=>by
 obtain ⟨x,_,rfl⟩:=Ll _ _ he
 exact h x
theorem PE (l:List qB):Ew 1 (Ab Cz l)=True:=DT fun _=>⟨rfl,rfl⟩
theorem PN (l:List Int):Ew 1 (Ab D0 l)=True:=DT fun _=>⟨rfl,rfl⟩
theorem Yi {U:Type} (c:U->List AV) (l m:List U):Ab c l++Ab c m=Ab c (l++m):=by simp [Ab]
theorem Wf {U:Type} (l m:List U):(l++m).take (l.length+m.length)=l++m:=by rw [<-List.length_append,List.take_length]
theorem Age {U:Type} (l m:List U):(l.length+m.length<=(l++m).length)=True:=by simp
attribute [go_sem] Yi Wf Age
attribute [go_sem] PE PN by1 Cz D0 RX Oi Acm Ao Js UN Iv Cl
/-! ### Calls with rows and boxes -/
def AU (P:Program) (f:FuncId) (hp:CH) (n:Nat) (args:List AV) (II:CH) (n1:Nat) (r:AV):Prop:=AO P f hp n args fun Al n' r'=>Al=II∧n'=n1∧r'=r
theorem Ac.x {II:CH} {n1:Nat} (m:AU P f hp n args II n1 r) (k:K II n1 r):Ac P f hp n args K :=
 ⟨_,m,fun Al n' r' ⟨e1,e2,e3⟩=>by subst e1;subst e2;subst e3;exact k⟩
theorem RU (m:SatH h J hp n w) {l':List AV} (r:Bx h J l vs) (e:EI hp l=some l'):Bx h J l' vs:=by
 obtain ⟨a,b,_⟩:=Hb m r e
 exact ⟨a,fun j U v h1 h2=>.pu _ _ (b j U v h1 h2)⟩
theorem Af.shut (e:EI (shutL hp args) args=some args') (m:Af P f (shutL hp args) n args' r):AU P f hp n args (shutL hp args) n r:=by
 refine ⟨m.1,fun h J w vs hs ha=>?_⟩
 obtain ⟨h1,a1,a2,a3⟩:=hs.shutL (h:=h) args
 have ra:=RU a2 (ha.mono a1 (Ck.refl _)) e
 refine (m.2 h1 J w vs a2 ra).mono fun e w' ⟨v,he,h',hh,hm,Cr,hk⟩=>?_
 exact ⟨v,he,h',J,_,n,r,⟨rfl,rfl,rfl⟩,a1.trans hh,Ck.refl _,hm,.pu _ _ Cr,⟨hk.os,hk.tape,hk.output,hk.size,fun b hb hX=>hk.block b hb fun hl=>hX (a3 b hl)⟩,fun b hb=>.inl (a3 b hb)⟩
theorem Ac.p (m:Af P f (shutL hp args) n args' r) (e:EI (shutL hp args) args=some args') (k:K (shutL hp args) n r):Ac P f hp n args K :=
 Ac.x (m.shut e) k
theorem Tn (r:Bx h J l vs):Ba h J (.tp l) (.tuple vs.toArray):=.tp l vs r.1 r.2
theorem T8 (r:Bq h (.tp l) (.tuple vs.toArray)):Bx h J l vs:=by
 generalize hv:Value.tuple vs.toArray=v at r
 cases r with
 |tp l ws e h'=>
  have:vs=ws:=by
   have:=Value.tuple.inj hv
   simpa using congrArg Array.toList this
  subst this
  exact ⟨e,fun j U v h1 h2=>.pu _ _ (h' j U v h1 h2)⟩
theorem Af.shutQ (e:T7 (shutL hp (Br (.tp args))) args=some args') (m:Af P f (shutL hp (Br (.tp args))) n args' r):AU P f hp n args (shutL hp (Br (.tp args))) n r:=by
 refine ⟨m.1,fun h J w vs hs ha=>?_⟩
 obtain ⟨h1,a1,a2,a3⟩:=hs.shutL (h:=h) (Br (.tp args))
 have ra:Bx h1 J args' vs:=T8 (Ig a2 ((Tn ha).mono a1 (Ck.refl _)) (show Zz _ (.tp args)=some (.tp args') by rw [Zz,e];rfl))
 refine (m.2 h1 J w vs a2 ra).mono fun e w' ⟨v,he,h',hh,hm,Cr,hk⟩=>?_
 exact ⟨v,he,h',J,_,n,r,⟨rfl,rfl,rfl⟩,a1.trans hh,Ck.refl _,hm,.pu _ _ Cr,⟨hk.os,hk.tape,hk.output,hk.size,fun b hb hX=>hk.block b hb fun hl=>hX (a3 b hl)⟩,fun b hb=>.inl (a3 b hb)⟩
theorem Ac.q (m:Af P f (shutL hp (Br (.tp args))) n args' r) (e:T7 (shutL hp (Br (.tp args))) args=some args') (k:K (shutL hp (Br (.tp args))) n r):Ac P f hp n args K :=
 Ac.x (m.shutQ e) k
theorem Af.cv (e:T7 hp args=some args') (m:Af P f hp n args' r):Af P f hp n args r :=
 ⟨m.1,fun h J w vs hs ha=>m.2 h J w vs hs (T8 (Ig hs (Tn ha) (show Zz _ (.tp args)=some (.tp args') by rw [Zz,e];rfl)))⟩
theorem Bo {m:Nat} (he:ge env t=.e0):CM ⟨env,hp,n⟩ ⟨(t,.rw n 0 0)::env,(n,.rw 0 m [])::hp,n+1⟩:=by
 rintro C a w ⟨h,J,s⟩
 have hf:=s.mem.fr
 have Wa:=s.mem.free
 have hρ:Ck J (By J n 0 (none,0)):=BT _ (hf n 0 (zna _))
 have IJ:∀k,k≠n->gc ((n,Ak.rw 0 m [])::hp) k=gc hp k:=fun k hk=>Ai _ _ (fun e=>hk e.symm)
 have AL:∀b,AI (By J n 0 (none,0)) ((n,Ak.rw 0 m [])::hp) b->AI J hp b:=by
  rintro b ⟨k,g,c,e,r⟩
  by_cases hk:k=n
  .subst hk
   rw [Ax] at e
   cases e
   rw [A0] at r
   cases r
  .rw [IJ k hk] at e
   rw [AY _ _ hk] at r
   exact ⟨k,g,c,e,r⟩
 refine ⟨h,By J n 0 (none,0),s.hle,s.rle.trans hρ,s.keep,fun b hb=>s.own b (AL b hb),⟨s.mem.hh,fun k=>?_,fun k k' g g' b c c' e e' r r'=>?_,fun b hb=>s.mem.hid b (AL b hb),fun b hb=>s.mem.lt b (AL b hb),fun k g hk=>?_,fun k g g' x e r=>?_,s.mem.gl⟩,fun u hu=>?_,s.size,s.defers⟩
 .by_cases hk:k=n
  .subst hk
   show (gc ((k,Ak.rw 0 m [])::hp) k).sat _ _ _ _
   rw [Ax]
   refine ⟨none,0,A0 _ _ _ _,by simp,by simp [maxLen],fun j e h=>by simp at h,fun _=>rfl,fun b hb=>by cases hb⟩
  .show (gc ((n,Ak.rw 0 m [])::hp) k).sat _ _ _ _
   rw [IJ k hk]
   exact Ak.sat_mono (BQ.refl _) hρ (fun _ _ _ _ _=>rfl) (s.mem.ch k)
 .have key:∀k g b c,(gc ((n,Ak.rw 0 m [])::hp) k).own g->By J n 0 (none,0) k g=some (some b,c)->(gc hp k).own g∧J k g=some (some b,c):=by
   intro k g b c e r
   by_cases hk:k=n
   .subst hk
    rw [Ax] at e
    cases e
    rw [A0] at r
    cases r
   .rw [IJ k hk] at e
    rw [AY _ _ hk] at r
    exact ⟨e,r⟩
  obtain ⟨a1,a2⟩:=key k g b c e r
  obtain ⟨b1,b2⟩:=key k' g' b c' e' r'
  exact s.mem.inj k k' g g' b c c' a1 b1 a2 b2
 .have hk:n+1<=k:=hk
  rw [AY _ _ (by omega)]
  exact hf k g (by show n<=k;omega)
 .by_cases hk:k=n
  .subst hk
   have e:(gc ((k,Ak.rw 0 m [])::hp) k).rgen=some g:=e
   rw [Ax] at e
   cases e
   by_cases hg:g'=0
   .omega
   .have:By J k 0 (none,0) k g'=J k g':=by simp [By,hg]
    rw [this,hf k g' (zna _)] at r
    cases r
  .have e:(gc ((n,Ak.rw 0 m [])::hp) k).rgen=some g:=e
   rw [IJ k hk] at e
   rw [AY _ _ hk] at r
   exact s.mem.gens k g g' x e r
 .obtain ⟨v,h1,h2⟩:=s.env u hu
  refine ⟨v,h1,?_⟩
  show Ba h _ (ge ((t,AV.rw n 0 0)::env) u) v
  unfold ge
  by_cases ht:t=u
  .subst ht
   rw [if_pos rfl]
   have h2:Ba h J (ge env t) v:=h2
   rw [he] at h2
   cases h2 with
   |pu _ _ p=>
    cases p with
    |e0 a=>exact .rw n 0 0 0 a none (A0 _ _ _ _) (zna _) (fun b hb=>by cases hb)
  .rw [if_neg ht]
   exact Ba.mono (BQ.refl _) hρ h2
theorem Co {m:Nat} (hc:gc hp c=.bx cs) (he:cs[i]?=some .e0):CM ⟨env,hp,n⟩ ⟨env,(c,.bx (cs.set i (.rw n 0 0)))::(n,.rw 0 m [])::hp,n+1⟩:=by
 rintro C a w ⟨h,J,s⟩
 have hf:=s.mem.fr
 have Wa:=s.mem.free
 have Da:c≠n:=fun e=>by
  have:=Wa c (by show n<=c;omega)
  rw [show gc hp c=.no from this] at hc
  cases hc
 have hρ:Ck J (By J n 0 (none,0)):=BT _ (hf n 0 (zna _))
 let Al:CH:=(c,Ak.bx (cs.set i (.rw n 0 0)))::(n,Ak.rw 0 m [])::hp
 have gcc:gc Al c=.bx (cs.set i (.rw n 0 0)):=Ax _ _ _
 have gcn:gc Al n=.rw 0 m []:=(Ai _ _ Da).trans (Ax _ _ _)
 have IJ:∀k,k≠n->k≠c->gc Al k=gc hp k:=fun k hk QS=>(Ai _ _ (fun e=>QS e.symm)).trans (Ai _ _ (fun e=>hk e.symm))
 have key:∀k g b d,(gc Al k).own g->By J n 0 (none,0) k g=some (some b,d)->(gc hp k).own g∧J k g=some (some b,d):=by
  intro k g b d e r
  by_cases hk:k=n
  .subst hk
   rw [gcn] at e
   cases e
   rw [A0] at r
   cases r
  .rw [AY _ _ hk] at r
   by_cases QS:k=c
   .subst QS
    rw [gcc] at e
    rw [hc]
    exact ⟨e,r⟩
   .rw [IJ k hk QS] at e
    exact ⟨e,r⟩
 have AL:∀b,AI (By J n 0 (none,0)) Al b->AI J hp b:=by
  rintro b ⟨k,g,d,e,r⟩
  obtain ⟨e1,e2⟩:=key k g b d e r
  exact ⟨k,g,d,e1,e2⟩
 refine ⟨h,By J n 0 (none,0),s.hle,s.rle.trans hρ,s.keep,fun b hb=>s.own b (AL b hb),⟨s.mem.hh,fun k=>?_,fun k k' g g' b d d' e e' r r'=>?_,fun b hb=>s.mem.hid b (AL b hb),fun b hb=>s.mem.lt b (AL b hb),fun k g hk=>?_,fun k g g' x e r=>?_,s.mem.gl⟩,fun u hu=>?_,s.size,s.defers⟩
 .by_cases hk:k=n
  .subst hk
   show (gc Al k).sat _ _ _ _
   rw [gcn]
   refine ⟨none,0,A0 _ _ _ _,by simp,by simp [maxLen],fun j e h=>by simp at h,fun _=>rfl,fun b hb=>by cases hb⟩
  .by_cases QS:k=c
   .subst QS
    show (gc Al k).sat _ _ _ _
    rw [gcc]
    have s0:=s.mem.ch k
    rw [show gc hp k=.bx cs from hc] at s0
    obtain ⟨b,d,vs,e,h1,h2,h3,h4⟩:=s0
    refine ⟨b,d,vs,e,by rw [AY _ _ hk];exact h1,h2,by rw [List.length_set];exact h3,fun j U v a1 a2=>?_⟩
    rw [List.getElem?_set] at a1
    split at a1
    .rename_i w9
     subst w9
     have r:=h4 i .e0 v he a2
     split at a1
     .cases a1
      cases r with
      |pu _ _ p=>
       cases p with
       |e0 a=>exact .rw n 0 0 0 a none (A0 _ _ _ _) (zna _) (fun b hb=>by cases hb)
     .cases a1
    .exact Ba.mono (BQ.refl _) hρ (h4 j U v a1 a2)
   .show (gc Al k).sat _ _ _ _
    rw [IJ k hk QS]
    exact Ak.sat_mono (BQ.refl _) hρ (fun _ _ _ _ _=>rfl) (s.mem.ch k)
 .obtain ⟨a1,a2⟩:=key k g b d e r
  obtain ⟨b1,b2⟩:=key k' g' b d' e' r'
  exact s.mem.inj k k' g g' b d d' a1 b1 a2 b2
 .have hk:n+1<=k:=hk
  rw [AY _ _ (by omega)]
  exact hf k g (by show n<=k;omega)
 .by_cases hk:k=n
  .subst hk
   have e:(gc Al k).rgen=some g:=e
   rw [gcn] at e
   cases e
   by_cases hg:g'=0
   .omega
   .have:By J k 0 (none,0) k g'=J k g':=by simp [By,hg]
    rw [this,hf k g' (zna _)] at r
    cases r
  .by_cases QS:k=c
   .subst QS
    have e:(gc Al k).rgen=some g:=e
    rw [gcc] at e
    cases e
   .have e:(gc Al k).rgen=some g:=e
    rw [IJ k hk QS] at e
    rw [AY _ _ hk] at r
    exact s.mem.gens k g g' x e r
 .obtain ⟨v,h1,h2⟩:=s.env u hu
  exact ⟨v,h1,Ba.mono (BQ.refl _) hρ h2⟩
theorem NQ {m:Nat} {l:List (List AV)} (he:ge env t=.rw k g len) (hk:gc hp k=.rw g m l) (hl:len<=l.length):CM ⟨env,hp,n⟩ ⟨(t,.ds (l.take len))::env,(k,.sh g m l)::hp,n⟩:=by
 rintro C a w ⟨h,J,s⟩
 obtain ⟨h',a1,s'⟩:=s.shutC (.rw k g len)
 have hs:Eng.shutC hp (.rw k g len)=(k,.sh g m l)::hp:=by simp [Eng.shutC,hk]
 have s':Sat C ⟨env,(k,.sh g m l)::hp,n⟩ h' J a w:=by rw [<-hs];exact s'
 refine ⟨h',J,s'.hle,s'.rle,s'.keep,s'.own,s'.mem,fun u hu=>?_,s'.size,s'.defers⟩
 obtain ⟨v,h1,h2⟩:=s'.env u hu
 refine ⟨v,h1,?_⟩
 show Ba h' _ (ge ((t,AV.ds (l.take len))::env) u) v
 unfold ge
 by_cases ht:t=u
 .subst ht
  rw [if_pos rfl]
  have h2:Ba h' J (ge env t) v:=h2
  rw [he] at h2
  exact .pu _ _ (Fq s'.mem h2 (by simp [D7,Ax,hl])).1
 .rw [if_neg ht]
  exact h2
theorem Ii {m:Nat} {l:List (List AV)} (hc:gc hp c=.bx cs) (he:cs[i]?=some (.rw k g len)) (hk:gc hp k=.rw g m l) (hl:len<=l.length) :
 CM ⟨env,hp,n⟩ ⟨env,(c,.bx (cs.set i (.ds (l.take len))))::(k,.sh g m l)::hp,n⟩:=by
 rintro C a w ⟨h,J,s⟩
 obtain ⟨h',a1,s'⟩:=s.shutC (.rw k g len)
 have hs:Eng.shutC hp (.rw k g len)=(k,.sh g m l)::hp:=by simp [Eng.shutC,hk]
 have s':Sat C ⟨env,(k,.sh g m l)::hp,n⟩ h' J a w:=by rw [<-hs];exact s'
 have Do:k≠c:=fun e=>by rw [e,hc] at hk;cases hk
 have Mt:gc ((k,Ak.sh g m l)::hp) c=.bx cs:=(Ai _ _ Do).trans hc
 have own':∀j e,(gc ((c,Ak.bx (cs.set i (.ds (l.take len))))::(k,Ak.sh g m l)::hp) j).own e->(gc ((k,Ak.sh g m l)::hp) j).own e:=fun j e q=>by
  by_cases hj:c=j
  .subst hj
   rw [Ax] at q
   rw [Mt]
   exact q
  .rw [Ai _ _ hj] at q
   exact q
 have AL:∀b,AI J ((c,Ak.bx (cs.set i (.ds (l.take len))))::(k,Ak.sh g m l)::hp) b->AI J ((k,Ak.sh g m l)::hp) b:=by
  rintro b ⟨j,e,d,q1,q2⟩
  exact ⟨j,e,d,own' j e q1,q2⟩
 refine ⟨h',J,s'.hle,s'.rle,s'.keep,fun b hb=>s'.own b (AL b hb),⟨s'.mem.hh,fun j=>?_,fun j j' g g' b d d' e e' r r'=>s'.mem.inj j j' g g' b d d' (own' j g e) (own' j' g' e') r r',fun b hb=>s'.mem.hid b (AL b hb),fun b hb=>s'.mem.lt b (AL b hb),s'.mem.fr,fun j g1 g2 x e r=>?_,s'.mem.gl⟩,s'.env,s'.size,s'.defers⟩
 .by_cases hj:c=j
  .subst hj
   show (gc ((c,Ak.bx (cs.set i (.ds (l.take len))))::(k,Ak.sh g m l)::hp) c).sat _ _ _ _
   rw [Ax]
   have s0:=s'.mem.ch c
   rw [show gc _ c=.bx cs from Mt] at s0
   obtain ⟨b,d,vs,e,h1,h2,h3,h4⟩:=s0
   refine ⟨b,d,vs,e,h1,h2,by rw [List.length_set];exact h3,fun j U v a1 a2=>?_⟩
   rw [List.getElem?_set] at a1
   split at a1
   .rename_i w9
    subst w9
    have r:=h4 i _ v he a2
    split at a1
    .cases a1
     exact .pu _ _ (Fq s'.mem r (by simp [D7,Ax,hl])).1
    .cases a1
   .exact h4 j U v a1 a2
  .show (gc ((c,Ak.bx (cs.set i (.ds (l.take len))))::(k,Ak.sh g m l)::hp) j).sat _ _ _ _
   rw [Ai _ _ hj]
   exact s'.mem.ch j
 .by_cases hj:c=j
  .subst hj
   have e:(gc ((c,Ak.bx (cs.set i (.ds (l.take len))))::(k,Ak.sh g m l)::hp) c).rgen=some g1:=e
   rw [Ax] at e
   cases e
  .have e:(gc ((c,Ak.bx (cs.set i (.ds (l.take len))))::(k,Ak.sh g m l)::hp) j).rgen=some g1:=e
   rw [Ai _ _ hj] at e
   exact s'.mem.gens j g1 g2 x e r
/-! ### For the automatic walk -/
theorem GQ.m {U:Type} {c:U->List AV} {l:List U} {K:List AV->Prop} (h:i<l.length) (k:∀x,l[i]?=some x->K (c x)):GQ (Ab c l) i K :=
 ⟨c l[i],Aa c (by simp [h]),k _ (by simp [h])⟩
theorem I3 {U:Type} {c:U->List AV} {l:List U} (h:∀x,(c x).length=n):∀e∈Ab c l,e.length=n:=fun e he=>by
 obtain ⟨x,_,rfl⟩:=Ll _ _ he
 exact h x
theorem Hh {U:Type} {c:U->List AV} {l:List U} (h:∀x,(c x).length=n∧FW (c x)=true):∀e∈Ab c l,e.length=n∧FW e=true:=fun e he=>by
 obtain ⟨x,_,rfl⟩:=Ll _ _ he
 exact h x
def QO (env:EN):EN->Prop
 | []=>True
 | (t,U)::r=>(ge env t=U∨U=.un)∧QO env r
theorem S7:∀{l:EN},QO env l->∀p∈l,ge env p.1=p.2∨p.2=.un
 | [],_,p,h=>by cases h
 | (t,U)::r,⟨h1,h2⟩,p,h=>by
  rcases List.mem_cons.1 h with e | e
  .subst e;exact h1
  .exact S7 h2 p e
attribute [go_sem] QO
theorem AP {g9:EN} {Al:CH} {n':Nat} (he:QO env g9) (hh:H2 hp Al) (hn:n<=n'):CM ⟨env,hp,n⟩ ⟨g9,Al,n'⟩:=Zq (S7 he) hh hn
theorem wS0 {m:Nat}  (hf:∀k,m<=k->gc B k=.no) (he:QO env j9)  (hu:Up m B hp) (hn:n<=n2):CM ⟨env,hp,n⟩ ⟨j9,B,n2⟩:=AP he (H2.base hf hu) hn
theorem Gu {m:Nat} (hf:∀k,m<=k->gc B k=.no) (he:QO env j9) (h0:gc hp a0=c0) (hu:Up m B hp) (hn:n<=n2):CM ⟨env,hp,n⟩ ⟨j9,(a0,c0)::B,n2⟩:=AP he (H2.cons h0 (H2.base hf hu)) hn
theorem JT {m:Nat} (hf:∀k,m<=k->gc B k=.no) (he:QO env j9) (h0:gc hp a0=c0) (h1:gc hp a1=c1) (hu:Up m B hp) (hn:n<=n2):CM ⟨env,hp,n⟩ ⟨j9,(a0,c0)::(a1,c1)::B,n2⟩:=AP he (H2.cons h0 (H2.cons h1 (H2.base hf hu))) hn
theorem L5 {m:Nat} (hf:∀k,m<=k->gc B k=.no) (he:QO env j9) (h0:gc hp a0=c0) (h1:gc hp a1=c1) (h2:gc hp a2=c2) (hu:Up m B hp) (hn:n<=n2):CM ⟨env,hp,n⟩ ⟨j9,(a0,c0)::(a1,c1)::(a2,c2)::B,n2⟩:=AP he (H2.cons h0 (H2.cons h1 (H2.cons h2 (H2.base hf hu)))) hn
theorem wS5 {m:Nat} {a3:Nat} {c3:Ak} {a4:Nat} {c4:Ak} (hf:∀k,m<=k->gc B k=.no) (he:QO env j9) (h0:gc hp a0=c0) (h1:gc hp a1=c1) (h2:gc hp a2=c2) (h3:gc hp a3=c3) (h4:gc hp a4=c4) (hu:Up m B hp) (hn:n<=n2):CM ⟨env,hp,n⟩ ⟨j9,(a0,c0)::(a1,c1)::(a2,c2)::(a3,c3)::(a4,c4)::B,n2⟩:=AP he (H2.cons h0 (H2.cons h1 (H2.cons h2 (H2.cons h3 (H2.cons h4 (H2.base hf hu)))))) hn
theorem Di (he:QO env j9):CM ⟨env,hp,n⟩ ⟨j9,hp,n⟩:=AP he (H2.refl _) (zna _)
theorem Adr (n k o:Nat):(AV.bx k o).und n=(k<n):=rfl
theorem Ad7 (n k g l:Nat):(AV.rw k g l).und n=(k<n):=rfl
theorem Adg (n k:Nat):(AV.mp k).und n=(k<n):=rfl
theorem Agq (n k:Nat):(AV.mi k).und n=(k<n):=rfl
theorem Ac7 (n m i o:Nat) (U:AV):(AV.ep U m i o).und n=U.und n:=rfl
theorem Afo (n:Nat) (l:List AV):(AV.ag l).und n=AV.und.undL n l:=rfl
theorem Ae6 (n:Nat) (l:List AV):(AV.tp l).und n=AV.und.undL n l:=rfl
theorem Ad8 (n f:Nat) (l:List AV):(AV.fn f l).und n=AV.und.undL n l:=rfl
theorem Adz (n t:Nat) (U:AV):(AV.fc t U).und n=U.und n:=rfl
theorem Agp (n:Nat) (c:Bool) (U:AV):(AV.gd c U).und n=U.und n:=rfl
theorem Ady (n:Nat):AV.un.und n=True:=rfl
theorem Aif (n:Nat) (x:Bool):(AV.b x).und n=True:=rfl
theorem Aju (n:Nat) (k:IntKind) (x:Int):(AV.i k x).und n=True:=rfl
theorem Ajc (n:Nat) (x:qB):(AV.s x).und n=True:=rfl
theorem Adn (n:Nat) (l:List (List AV)):(AV.ds l).und n=True:=rfl
theorem Agz (n:Nat):AV.e0.und n=True:=rfl
theorem Afi (n:Nat):AV.np.und n=True:=rfl
theorem Aef (n:Nat):AV.mn.und n=True:=rfl
theorem Ad4 (n:Nat):AV.nf.und n=True:=rfl
theorem Aeh (n:Nat):AV.ni.und n=True:=rfl
theorem YH (n:Nat):AV.und.undL n []=True:=rfl
theorem U2 (n:Nat) (U:AV) (r:List AV):AV.und.undL n (U::r)=(U.und n∧AV.und.undL n r):=rfl
theorem Abg (n:Nat) (l:List AV):(Ak.bx l).und n=AV.und.undL n l:=rfl
theorem Abn (n g k:Nat) (l:List (List AV)):(Ak.rw g k l).und n=True:=rfl
theorem Aa6 (n g k:Nat) (l:List (List AV)):(Ak.sh g k l).und n=True:=rfl
theorem ZL (n g k:Nat) (l:List (List AV)):(Ak.rn g k l).und n=(∀x∈l,AV.und.undL n x):=rfl
attribute [go_sem] ZL
theorem Aa0 (n:Nat) (l:List (qB × AV)):(Ak.mp l).und n=True:=rfl
theorem Ab1 (n:Nat) (l:List (qB × AV)) (sn:List qB):(Ak.mr l sn).und n=True:=rfl
theorem ZC (n:Nat) (l:List AV):(Ak.ro l).und n=True:=rfl
attribute [go_sem] Adr Ad7 Adg Agq Ac7 Afo Ae6 Ad8 Adz Agp Ady Aif Aju Ajc Adn Agz Afi Aef Ad4 Aeh YH U2 Abg Abn Aa6 Aa0 Ab1 ZC
theorem Ado (b:qB):b.data.toList=bs b:=rfl
attribute [go_sem] Ado
attribute [grind =] Ao Iv Cl by1 Cz D0
attribute [simp] Ao Oi
attribute [grind =] Int.ofNat_eq_natCast
/-! ### What is lent to a callee: rows and variables of the caller that it reads alone -/
def AV.fl1:AV->Bool
 | .b _ | .i _ _ | .s _=>true
 |_=>false
def AV.flat:AV->Bool
 | .tp l=>l.all AV.fl1
 | .ag l=>l.all AV.fl1
 | U=>U.fl1
theorem Oj (o:U.fl1=true) (r:Bq h' U v):Bq h U v:=by
 cases U<;>first
  | (simp [AV.fl1] at o;done)
  | (cases r;constructor)
theorem WQ (o:U.flat=true) (r:Bq h' U v):Bq h U v:=by
 cases U with
 |tp l=>cases r with | tp _ vs e hx=>exact .tp _ _ e fun j β u a b=>Oj (List.all_eq_true.1 o β (zla a)) (hx j β u a b)
 |ag l=>cases r with | ag _ vs e hx=>exact .ag _ _ e fun j β u a b=>Oj (List.all_eq_true.1 o β (zla a)) (hx j β u a b)
 |_=>exact Oj o r
def Kr (hp:CH):CH->Prop
 | []=>True
 | (k,.sh g m l)::r=>(gc hp k=.rw g m l∨gc hp k=.sh g m l)∧Kr hp r
 |_=>False
def Km (hp R:CH):CH->Prop
 | []=>True
 | (k,.ro cs)::r=>((∃xs,gc hp k=.bx xs∧EI R xs=some cs)∨gc hp k=.ro cs)∧Km hp R r
 |_=>False
def Mr (h:HP) (J:RO) (w:World):CH->Prop
 | []=>True
 | (k,c)::r=>c.sat h J w k∧c.gen=none∧Mr h J w r
theorem Hi (hh:BQ h h'):∀{R:CH},Mr h J w R->Mr h' J w R
 | [],_=>trivial
 | (k,c)::r,s=>⟨Ak.sat_mono hh (Ck.refl _) (fun g b x e=>(Ak.own_none s.2.1 e).elim) s.1,s.2.1,Hi hh s.2.2⟩
theorem FE:∀{R:CH},Mr h J w R->∀k,(gc R k).sat h J w k∧(gc R k).gen=none
 | [],_,k=>⟨trivial,rfl⟩
 | (k',c)::r,s,k=>by
  by_cases e:k'=k
  .subst e;rw [Ah];exact ⟨s.1,s.2.1⟩
  .rw [Am e];exact FE s.2.2 k
theorem Qz:∀{A B:CH},Mr h J w A->Mr h J w B->Mr h J w (A++B)
 | [],B,_,b=>b
 | (k,c)::r,B,a,b=>⟨a.1,a.2.1,Qz a.2.2 b⟩
theorem Yp {h0:HP} (hs:SatH h0 J hp n w) (hl:BQ h0 h) (hh:∀b o,h b=some o->w.heap[b]?=some o) (s:Mr h J w R):SatH h J R n w:=by
 have no:∀b,¬AI J R b:=fun b ⟨k,g,c,e,_⟩=>Ak.own_none (FE s k).2 e
 refine ⟨hh,fun k=>(FE s k).1,fun k k' g g' b c c' e _ _ _=>?_,fun b hb=>absurd hb (no b),fun b hb=>absurd hb (no b),hs.fr,fun k g g' x e _=>?_,hs.glm hl⟩
 .exact (Ak.own_none (FE s k).2 e).elim
 .have e:=Ak.rgen_gen e
  rw [(FE s k).2] at e
  cases e
theorem E2 (hh:∀b o,h b=some o->w.heap[b]?=some o) {b:Nat} {o:Obj} (hb:w.heap[b]?=some o):∃h',BQ h h'∧(∀b o,h' b=some o->w.heap[b]?=some o)∧h' b=some o:=by
 refine ⟨fun x=>if x=b then some o else h x,fun x p e=>?_,fun x p e=>?_,if_pos rfl⟩
 .by_cases hx:x=b
  .subst hx
   have:=hh _ _ e
   rw [hb] at this
   cases this
   exact if_pos rfl
  .exact (if_neg hx).trans e
 .by_cases hx:x=b
  .subst hx
   have e2:(some o:Option Obj)=some p:=(if_pos rfl).symm.trans e
   cases e2
   exact hb
  .have e2:h x=some p:=(if_neg hx).symm.trans e
   exact hh _ _ e2
theorem Pm (hs:SatH h J hp n w):∀{R:CH},Kr hp R->∃h',BQ h h'∧(∀b o,h' b=some o->w.heap[b]?=some o)∧Mr h' J w R
 | [],_=>⟨h,BQ.refl _,hs.hh,trivial⟩
 | (k,.sh g m l)::r,hr=>by
  obtain ⟨h1,a1,a2,a3⟩:=Pm hs hr.2
  rcases hr.1 with e | e
  .have hk:=hs.ch k
   rw [e] at hk
   obtain ⟨ob,cap,g1,g2,g3,g4,g5,g6⟩:=hk
   cases ob with
   |none=>exact ⟨h1,a1,a2,⟨none,cap,g1,g2,g3,g4,g5,fun b hb=>by cases hb⟩,rfl,a3⟩
   |some b=>
    obtain ⟨vs,ty,q1,q2,q3⟩:=g6 b rfl
    obtain ⟨h2,b1,b2,b3⟩:=E2 a2 q1
    refine ⟨h2,a1.trans b1,b2,⟨some b,cap,g1,g2,g3,g4,g5,fun b' hb=>?_⟩,rfl,Hi b1 a3⟩
    cases hb
    exact ⟨vs,ty,_,b3,fun j x q U y1 y2=>let ⟨u,z1,z2⟩:=q3 j x q U y1 y2;⟨u,z1,z2.mono (a1.trans b1)⟩⟩
  .have hk:=hs.ch k
   rw [e] at hk
   exact ⟨h1,a1,a2,Ak.sat_mono (c:=.sh g m l) a1 (Ck.refl _) (fun _ _ _ e=>by cases e) hk,rfl,a3⟩
theorem MC {h1:HP} (hs:SatH h J hp n w) (a1:BQ h h1) (hR:SatH h1 J R n w):∀{B:CH},Km hp R B->∃h',BQ h1 h'∧(∀b o,h' b=some o->w.heap[b]?=some o)∧Mr h' J w B
 | [],_=>⟨h1,BQ.refl _,hR.hh,trivial⟩
 | (k,.ro cs)::r,hr=>by
  obtain ⟨h2,c1,c2,c3⟩:=MC hs a1 hR hr.2
  rcases hr.1 with ⟨xs,e,Al⟩ | e
  .have hk:=hs.ch k
   rw [e] at hk
   obtain ⟨b,c,vs,ty,g1,g2,g3,g4⟩:=hk
   obtain ⟨h3,b1,b2,b3⟩:=E2 c2 g2
   have rl:Bx h1 J xs vs.toList:=⟨by simpa using g3.symm,fun j U v x y=>(g4 j U v x (by simpa using y)).mono a1 (Ck.refl _)⟩
   obtain ⟨p1,p2,_⟩:=Hb hR rl Al
   refine ⟨h3,c1.trans b1,b2,⟨b,c,vs,ty,_,g1,b3,by simpa using p1.symm,fun j U v x y=>(p2 j U v x (by simpa using y)).mono (c1.trans b1)⟩,rfl,Hi b1 c3⟩
  .have hk:=hs.ch k
   rw [e] at hk
   exact ⟨h2,c1,c2,Ak.sat_mono (c:=.ro cs) (a1.trans c1) (Ck.refl _) (fun _ _ _ e=>by cases e) hk,rfl,c3⟩
def cvX (hp:CH) (U:AV):AV:=(cvA hp U).getD U
theorem WC (m:SatH h J hp n w) (r:Bx h J l vs):Bx h J (l.map (cvX hp)) vs:=by
 refine ⟨by simpa using r.1,fun j U v h1 h2=>?_⟩
 rw [List.getElem?_map] at h1
 cases hl:l[j]? with
 |none=>rw [hl] at h1;cases h1
 |some β=>
  rw [hl] at h1
  cases h1
  have q:=r.2 j β v hl h2
  unfold cvX
  cases hc:cvA hp β with
  |none=>exact q
  |some γ=>exact .pu _ _ (NW m q hc)
theorem Af.lend (hR:Kr hp R) (hB:Km hp R B) (e:args.map (cvX (B++R))=args') (hr:r.flat=true) (m:Af P f (B++R) n args' r):Af P f hp n args r:=by
 refine ⟨m.1,fun h J w vs hs ha=>?_⟩
 obtain ⟨h1,a1,a2,a3⟩:=Pm hs hR
 have sR:=Yp hs a1 a2 a3
 obtain ⟨h2,b1,b2,b3⟩:=MC hs a1 sR hB
 have sA:=Qz b3 (Hi b1 a3)
 have s2:=Yp hs (a1.trans b1) b2 sA
 have ra:Bx h2 J args' vs:=by
  rw [<-e]
  exact WC s2 (ha.mono (a1.trans b1) (Ck.refl _))
 refine (m.2 h2 J w vs s2 ra).mono fun e w' ⟨v,he,h',hh,hm,Cr,hk⟩=>?_
 have old:∀b,b<w.heap.size->w'.heap[b]?=w.heap[b]?:=fun b hb=>hk.block b hb fun ⟨k,g,c,q,_⟩=>Ak.own_none (FE sA k).2 q
 refine ⟨v,he,h,BQ.refl _,⟨fun b o x=>?_,fun k=>Ak.sat_mono (BQ.refl _) (Ck.refl _) (fun g b x q1 q2=>old b (hs.lt b ⟨k,g,x,q1,q2⟩)) (hs.ch k),hs.inj,hs.hid,fun b hb=>Nat.lt_of_lt_of_le (hs.lt b hb) hk.size,hs.fr,hs.gens,hs.gl⟩,WQ hr Cr,
  ⟨hk.os,hk.tape,hk.output,hk.size,fun b hb _=>old b hb⟩⟩
 have:=hs.hh b o x
 rw [old b (Array.getElem?_eq_some_iff.1 this).1]
 exact this
attribute [go_sem] Kr Km AV.fl1 AV.flat cvX
end
