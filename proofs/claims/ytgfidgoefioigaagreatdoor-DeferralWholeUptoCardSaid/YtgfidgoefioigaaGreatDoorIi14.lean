/- Proof. Conditions: none. -/
import Derived.Test.YtgfidgoefioigaaGreatDoorIi13
open List renaming mem_of_getElem?→zla
open Nat renaming le_refl→zna
namespace Go.Eng
set_option linter.all false
theorem SatH.free {h:HP} {ρ:RO} {hp:CH} {n:Nat} {w:World} (m:SatH h ρ hp n w):∀k,n≤k→gc hp k=.no:=by
 intro k hk
 have:=m.ch k
 cases hc:gc hp k with
 | no=>rfl
 | bx cs=>rw [hc] at this;obtain ⟨b,c,vs,e,h1,_⟩:=this;rw [m.fr k 0 hk] at h1;cases h1
 | rw g n' l=>rw [hc] at this;obtain ⟨ob,cap,h1,_⟩:=this;rw [m.fr k g hk] at h1;cases h1
 | sh g n' l=>rw [hc] at this;obtain ⟨ob,cap,h1,_⟩:=this;rw [m.fr k g hk] at h1;cases h1
 | rc g n' cap l=>rw [hc] at this;obtain ⟨ob,h1,_⟩:=this;rw [m.fr k g hk] at h1;cases h1
 | mp l=>rw [hc] at this;obtain ⟨b,c,es,cl,h1,_⟩:=this;rw [m.fr k 0 hk] at h1;cases h1
 | mq F=>rw [hc] at this;obtain ⟨b,c,es,cl,h1,_⟩:=this;rw [m.fr k 0 hk] at h1;cases h1
 | mr l sn=>rw [hc] at this;obtain ⟨b,c,es,cl,h1,_⟩:=this;rw [m.fr k 0 hk] at h1;cases h1
 | ro cs=>rw [hc] at this;obtain ⟨b,c,vs,e,fr,h1,_⟩:=this;rw [m.fr k 0 hk] at h1;cases h1
 | rn g n' l=>rw [hc] at this;obtain ⟨ob,cap,h1,_⟩:=this;rw [m.fr k g hk] at h1;cases h1
 | sb T e g bs=>rw [hc] at this;obtain ⟨b,c,p,v,h1,_⟩:=this;rw [m.fr k 0 hk] at h1;cases h1
def Bc:AV→List AV
 | .tp l=>l.flatMap fun α=>match α with
  | .ag c=>c
  | α=>[α]
 | .ag c=>c
 | α=>[α]
def cvA (hp:CH):AV→Option AV
 | .ag c=>(Ec hp c).map .ag
 | α=>Di hp α
def QG (hp:CH):List AV→Option (List AV)
 | []=>some []
 | α::r=>match cvA hp α,QG hp r with
  | some β,some l=>some (β::l)
  | _,_=>none
def WF (hp:CH):AV→Option AV
 | .tp l=>(QG hp l).map .tp
 | α=>cvA hp α
theorem SatH.shutL {h:HP} {ρ:RO} {n:Nat} {w:World} (l:List AV):∀{h:HP} {hp:CH},SatH h ρ hp n w→∃h',B8 h h'∧SatH h' ρ (shutL hp l) n w∧∀b,A9 ρ (Eng.shutL hp l) b→A9 ρ hp b:=by
 induction l with
 | nil=>intro h hp m;exact ⟨h,B8.refl _,m,fun b hb=>hb⟩
 | cons α r ih =>
  intro h hp m
  have step:∃h',B8 h h'∧SatH h' ρ (shutC hp α) n w∧∀b,A9 ρ (Eng.shutC hp α) b→A9 ρ hp b:=by
   unfold Eng.shutC
   split
   .split
    .rename_i k g len g' n' l hk
     split
     .obtain ⟨h',h1,h2,h3⟩:=m.shut hk
      exact ⟨h',h1,h2,h3⟩
     .exact ⟨h,B8.refl _,m,fun b hb=>hb⟩
    .exact ⟨h,B8.refl _,m,fun b hb=>hb⟩
   .exact ⟨h,B8.refl _,m,fun b hb=>hb⟩
  obtain ⟨h1,a1,a2,a3⟩:=step
  obtain ⟨h2,b1,b2,b3⟩:=ih a2
  exact ⟨h2,a1.trans b1,b2,fun b hb=>a3 b (b3 b hb)⟩
theorem L0 {h:HP} {ρ:RO} {hp:CH} {n:Nat} {w:World} (m:SatH h ρ hp n w) {α β:AV} {v:Value} (r:AN h ρ α v) (e:cvA hp α=some β):Bd h β v:=by
 unfold cvA at e
 split at e
 .rename_i c
  cases hc:Ec hp c with
  | none=>simp [hc] at e
  | some l =>
   simp [hc] at e
   subst e
   obtain ⟨vs,rfl,rs⟩:=r.agg
   obtain ⟨p1,p2,_⟩:=FT m rs hc
   exact .ag _ _ p1 p2
 .exact (FY m r e).1
theorem GK {h:HP} {ρ:RO} {hp:CH} {n:Nat} {w:World} (m:SatH h ρ hp n w) {α β:AV} {v:Value} (r:AN h ρ α v) (e:WF hp α=some β):Bd h β v:=by
  unfold WF at e
  split at e
  . rename_i l
    cases hc:QG hp l with
    | none => simp [hc] at e
    | some l' =>
      simp [hc] at e
      subst e
      obtain ⟨vs,rfl,rs⟩:=r.tup
      have key:∀(l l':List AV) (vs:List Value),Br h ρ l vs→QG hp l=some l'→l'.length=vs.length∧∀(j:Nat) α v,l'[j]?=some α→vs[j]?=some v→Bd h α v:=by
        intro l
        induction l with
        | nil =>
          intro l' vs r e
          simp [QG] at e
          subst e
          have : vs = [] := by have := r.1; simpa using this.symm
          subst this
          exact ⟨rfl, fun j α v h => by simp at h⟩
        | cons α l ih =>
          intro l' vs r e
          cases vs with
          | nil => have := r.1; simp at this
          | cons v vs =>
            unfold QG at e
            split at e
            . rename_i β l2 e1 e2
              cases e
              obtain ⟨i1, i2⟩ := ih l2 vs ⟨by have := r.1; simpa using this, fun j α v h1 h2 => r.2 (j + 1) α v (by simpa using h1) (by simpa using h2)⟩ e2
              refine ⟨by simp [i1], fun j α v h1 h2 => ?_⟩
              cases j with
              | zero => simp at h1 h2; subst h1; subst h2; exact L0 m (r.2 0 _ _ rfl rfl) e1
              | succ j => exact i2 j α v (by simpa using h1) (by simpa using h2)
            . cases e
      obtain ⟨k1,k2⟩:=key l l' vs rs hc
      exact .tp _ _ k1 k2
  . exact L0 m r e
def PX (hp:CH) (n:Nat) (r:AV) (Ao:CH) (_:Nat) (r':AV):Prop:=Up n hp (shutL Ao (Bc r'))∧WF (shutL Ao (Bc r')) r'=some r
theorem AI.toF {P:Program} {f:FuncId} {hp:CH} {n:Nat} {args:List AV} {r:AV} (m:AI P f hp n args (PX hp n r)):Ah P f hp n args r:=by
 refine ⟨m.1,fun h ρ w vs hs ha=>(m.2 h ρ w vs hs ha).mono fun e w' ⟨v,he,h',ρ',Ao,n',r',⟨e1,e2⟩,hh,hr,hm,BW,hk,hl⟩=>?_⟩
 obtain ⟨h2,a1,a2,a3⟩:=hm.shutL (h:=h') (Bc r')
 have r2:=GK a2 (BW.mono a1 (BS.refl _)) e2
 have m2:=SatH.cut e1 a2 hs.free
 exact ⟨v,he,h2,hh.trans a1,SatH.back hr hs m2,r2,hk⟩
theorem Am {P : Program} {f : FuncId} {fn : Func} {k : CC} {rs : List RS} (hf : P.funcs[f]? = some fn) (Fn : (fn.name == "runtime.NumGoroutine") = false)
  (hc:fn.body.bind (BL P fn.ntmps)=some k.erase) (GG:MW P fn.ntmps fn.results.toList=some rs) {hp:CH} {n:Nat} {args:List AV} {r:AV} (Bb:Nat.ble args.length fn.ntmps=true)
  (hv:(∀k,n≤k→gc hp k=.no)→vc P k ⟨Cu 0 args,hp,n⟩ (Ji rs (PX hp n r))):Ah P f hp n args r:=by
 have Io := (by obtain ⟨c, hb, Oo⟩ := bd hc; exact ⟨fn, hf, Fn, by rw [hb]; rfl⟩ : ∃ fn, P.funcs[f]? = some fn ∧ (fn.name == "runtime.NumGoroutine") = false ∧ fn.body.isNone = false)
 refine ⟨Io,fun h ρ w vs hs ha=>?_⟩
 exact (AI.toF (Ib hf Fn hc GG Bb (hv hs.free))).2 h ρ w vs hs ha
theorem W6 (n:Nat) (hp:CH):Up n hp hp=True:=by simp [Up.refl]
theorem Wd {n:Nat} {hp Ao:CH} {k:Nat} {c:Ap} (hk:n≤k):Up n hp ((k,c)::Ao)=Up n hp Ao:=by
 refine propext ⟨fun h j hj=>?_,fun h=>h.cons c hk⟩
 have:=h j hj
 rwa [Aq c Ao (by omega)] at this
attribute [go_sem] W6 Wd PX Bc cvA QG WF List.flatMap_cons List.flatMap_nil
/-! ### Loops -/
def A6 (hp Ao:CH):Prop:=∀k,gc Ao k=gc hp k∨gc Ao k=.no
theorem A6.base {n:Nat} {B hp:CH} (hf:∀k,n≤k→gc B k=.no) (hu:Up n B hp):A6 hp B:=fun k=>by
 rcases Nat.lt_or_ge k n with h | h
 .exact .inl (hu k h).symm
 .exact .inr (hf k h)
theorem A6.cons {hp Ao:CH} {k:Nat} {c:Ap} (h:gc hp k=c) (s:A6 hp Ao):A6 hp ((k,c)::Ao):=fun j=>by
 by_cases hk:k=j
 .subst hk
  exact .inl (by rw [Av];exact h.symm)
 .rw [Aq c Ao hk]
  exact s j
theorem A6.refl (hp:CH):A6 hp hp:=fun _=>.inl rfl
theorem Wa {env env':EN} {hp Ao:CH} {n n':Nat} (he:∀p∈env',ge env p.1=p.2∨p.2=.un) (hh:A6 hp Ao) (hn:n≤n'):Ej ⟨env,hp,n⟩ ⟨env',Ao,n'⟩:=by
 rintro C a w ⟨h,ρ,s⟩
 have Eh:∀k g,(gc Ao k).own g→gc Ao k=gc hp k:=by
  intro k g e
  rcases hh k with h1 | h1
  .exact h1
  .rw [h1] at e;cases e
 have hl:∀b,A9 ρ Ao b→A9 ρ hp b:=fun b ⟨k,g,c,e,r⟩=>⟨k,g,c,by rw [←Eh k g e];exact e,r⟩
 refine ⟨h,ρ,s.hle,s.rle,s.keep,fun b hb=>s.own b (hl b hb),?_,fun t ht=>?_,s.size,s.defers⟩
 .have m:=s.mem
  refine ⟨m.hh,fun k=>?_,fun k k' g g' b c c' e e' r r'=>m.inj k k' g g' b c c' (by show (gc hp k).own _;rw [←Eh k g e];exact e) (by show (gc hp k').own _;rw [←Eh k' g' e'];exact e') r r',fun b hb=>m.hid b (hl b hb),fun b hb=>m.lt b (hl b hb),fun k g hk=>m.fr k g (Nat.le_trans hn hk),fun k g g' x e r=>?_,m.gl⟩
  .show (gc Ao k).sat h ρ w k
   rcases hh k with h1 | h1
   .rw [h1];exact m.ch k
   .rw [h1];trivial
  .have:=Eh k g (Ap.gen_own (Ap.rgen_gen e))
   exact m.gens k g g' x (by show (gc hp k).rgen=_;rw [←this];exact e) r
 .obtain ⟨v,h1,h2⟩:=s.env t ht
  refine ⟨v,h1,?_⟩
  have key:∀(l:EN),(∀p∈l,ge env p.1=p.2∨p.2=.un)→ge l t=.un∨ge env t=ge l t:=by
   intro l
   induction l with
   | nil=>intro _;exact .inl rfl
   | cons p l ih =>
    intro hp
    obtain ⟨u,α⟩:=p
    simp only [ge]
    by_cases hu:u=t
    .subst hu
     rw [if_pos rfl]
     rcases hp (u,α) (by simp) with h | h
     .exact .inr h
     .exact .inl h
    .rw [if_neg hu]
     exact ih fun q hq=>hp q (by simp [hq])
  rcases key env' he with h | h
  .show AN _ _ (ge env' t) v
   rw [h]
   exact .pu _ _ (.un _)
  .show AN _ _ (ge env' t) v
   rw [←h]
   exact h2
def U4 {ι:Type} (I:ι→St) (φ:ι→Prop) (μ:ι→Nat) (i:ι) (Q:Exit→St→Prop):Exit→St→Prop
 | .normal,s=>∃j,φ j∧μ j<μ i∧Ej s (I j)
 | e,s=>Q e s
theorem Se {ι:Type} {F:St→(Exit→St→Prop)→Prop} (hF:∀s Q Q',(∀e s,Q e s→Q' e s)→F s Q→F s Q') (I:ι→St) (φ:ι→Prop) (μ:ι→Nat) (i0:ι) {st:St} {Q:Exit→St→Prop} (h1:φ i0) (h0:Ej st (I i0))
  (hs:∀i,φ i→F (I i) (U4 I φ μ i Q)):L5 F st Q:=by
 refine ⟨fun m s=>∃i,φ i∧μ i=m∧s=I i,⟨μ i0,I i0,⟨i0,h1,rfl,rfl⟩,h0⟩,?_⟩
 rintro m s ⟨i,hi,rfl,rfl⟩
 refine hF _ _ _ (fun e s h=>?_) (hs i hi)
 cases e with
 | normal =>
  obtain ⟨j,a,b,c⟩:=h
  exact ⟨μ j,I j,b,⟨j,a,rfl,rfl⟩,c.g⟩
 | _=>exact h
def AV.und (n:Nat):AV→Prop
 | .bx k _=>k<n
 | .rw k _ _=>k<n
 | .rf k _ _ _ _=>k<n
 | .mp k=>k<n
 | .mi k=>k<n
 | .ep α _ _ _=>α.und n
 | .ag l=>undL n l
 | .tp l=>undL n l
 | .fn _ l=>undL n l
 | .fc _ x=>x.und n
 | .gd _ x=>x.und n
 | _=>True
where
 undL (n:Nat):List AV→Prop
  | []=>True
  | α::r=>α.und n∧undL n r
theorem E0 {n:Nat}:∀{l:List AV},AV.und.undL n l→∀(j:Nat) α,l[j]?=some α→α.und n
 | [],_,j,α,h=>by simp at h
 | x::r,hb,0,α,h=>by simp at h;subst h;exact hb.1
 | x::r,hb,j+1,α,h=>E0 hb.2 j α (by simpa using h)
def Vz (ρ:RO) (n:Nat):RO:=fun k g=>if k<n then ρ k g else none
theorem Ch {ρ:RO} {n k:Nat} (h:k<n) (g:Nat):Vz ρ n k g=ρ k g:=by simp [Vz,h]
theorem TI {ρ:RO} {n k g:Nat} {x:Option Nat × Nat} (h:Vz ρ n k g=some x):ρ k g=some x∧k<n:=by
 unfold Vz at h
 split at h
 .exact ⟨h,by assumption⟩
 .cases h
theorem AN.cut {h:HP} {ρ:RO} {n:Nat} {α:AV} {v:Value} (r:AN h ρ α v):α.und n→AN h (Vz ρ n) α v:=by
 induction r with
 | pu α v p=>intro _;exact .pu α v p
 | ag l vs e _ ih=>intro hb;exact .ag l vs e fun j α v h1 h2=>ih j α v h1 h2 (E0 hb j α h1)
 | tp l vs e _ ih=>intro hb;exact .tp l vs e fun j α v h1 h2=>ih j α v h1 h2 (E0 hb j α h1)
 | bx k off b c e=>intro hb;exact .bx k off b c (by rw [Ch hb];exact e)
 | rw k g len cap a ob e hl ha=>intro hb;exact .rw k g len cap a ob (by rw [Ch hb];exact e) hl ha
 | ep α n i off b o len cap _ hi ih=>intro hb;exact .ep α n i off b o len cap (ih hb) hi
 | mp k b c e=>intro hb;exact .mp k b c (by rw [Ch hb];exact e)
 | mi k b c e=>intro hb;exact .mi k b c (by rw [Ch hb];exact e)
 | fn f l vs e _ ih=>intro hb;exact .fn f l vs e fun j α v h1 h2=>ih j α v h1 h2 (E0 hb j α h1)
 | fc t x v _ ih=>intro hb;exact .fc t x v (ih hb)
 | gd c x v _ hf ih=>intro hb;exact .gd c x v (fun q=>ih q hb) hf
 | rf k g n' off len cap a ob e hl ha=>intro hb;exact .rf k g n' off len cap a ob (by rw [Ch hb];exact e) hl ha
def Ap.und (n:Nat):Ap→Prop
 | .bx cs=>AV.und.undL n cs
 | .rn _ _ l=>∀x∈l,AV.und.undL n x
 | _=>True
theorem Ap.cut {h:HP} {ρ:RO} {w:World} {n k:Nat} {c:Ap} (s:c.sat h ρ w k) (hk:k<n) (hb:c.und n):c.sat h (Vz ρ n) w k:=by
 cases c with
 | no=>trivial
 | bx cs =>
  obtain ⟨b,c,vs,e,h1,h2,h3,h4⟩:=s
  exact ⟨b,c,vs,e,by rw [Ch hk];exact h1,h2,h3,fun j α v a1 a2=>(h4 j α v a1 a2).cut (E0 hb j α a1)⟩
 | rw g n l=>obtain ⟨ob,cap,h1,hx⟩:=s;exact ⟨ob,cap,by rw [Ch hk];exact h1,hx⟩
 | sh g n l=>obtain ⟨ob,cap,h1,hx⟩:=s;exact ⟨ob,cap,by rw [Ch hk];exact h1,hx⟩
 | rc g n cap l=>obtain ⟨ob,h1,hx⟩:=s;exact ⟨ob,by rw [Ch hk];exact h1,hx⟩
 | mp l=>obtain ⟨b,c,es,cl,h1,hx⟩:=s;exact ⟨b,c,es,cl,by rw [Ch hk];exact h1,hx⟩
 | mq F=>obtain ⟨b,c,es,cl,h1,hx⟩:=s;exact ⟨b,c,es,cl,by rw [Ch hk];exact h1,hx⟩
 | mr l sn=>obtain ⟨b,c,es,cl,h1,q1,q2,q3,q4,b2,c2,sn2,g2,q5⟩:=s;exact ⟨b,c,es,cl,by rw [Ch hk];exact h1,q1,q2,q3,q4,b2,c2,sn2,by rw [Ch hk];exact g2,q5⟩
 | ro cs=>obtain ⟨b,c,vs,e,fr,h1,hx⟩:=s;exact ⟨b,c,vs,e,fr,by rw [Ch hk];exact h1,hx⟩
 | rn g n' l =>
  obtain ⟨ob,cap,h1,h2,Ep,h3,h4,h5⟩:=s
  refine ⟨ob,cap,by rw [Ch hk];exact h1,h2,Ep,h3,h4,fun b hb'=>?_⟩
  obtain ⟨vs,e,a1,a2,a3⟩:=h5 b hb'
  exact ⟨vs,e,a1,a2,fun j x q α y1 y2=>let ⟨u,z1,z2⟩:=a3 j x q α y1 y2;⟨u,z1,z2.cut (E0 (hb x (zla y1)) q α y2)⟩⟩
 | sb T e g bs =>
  obtain ⟨b,c,p,v,h1,h2,h3,h4,h5,⟨y,hy⟩,h6⟩:=s
  exact ⟨b,c,p,v,by rw [Ch hk];exact h1,h2,h3,h4,h5,⟨y,by rw [Ch hk];exact hy⟩,fun b2 e2=>⟨(h6 b2 e2).1,let ⟨c2,q⟩:=(h6 b2 e2).2;⟨c2,by rw [Ch hk];exact q⟩⟩⟩
def RB (n:Nat) (h0 hp Ao:CH):Prop:=∀k,gc Ao k=.no∨gc hp k=gc Ao k∧k<n∧((gc Ao k).und n∨gc Ao k=gc h0 k)
theorem RB.cons {n:Nat} {h0 hp Ao:CH} {k:Nat} {c:Ap} (h:gc hp k=c) (hk:k<n) (hb:c.und n) (s:RB n h0 hp Ao):RB n h0 hp ((k,c)::Ao):=fun j=>by
 by_cases q:k=j
 .subst q
  exact .inr ⟨by rw [Av];exact h,hk,.inl (by rw [Av];exact hb)⟩
 .rw [Aq c Ao q]
  exact s j
theorem RB.base {n m:Nat} {B h0 hp:CH} (hf:∀k,m≤k→gc B k=.no) (hm:m≤n) (h1:Up m B h0) (h2:Up m B hp):RB n h0 hp B:=fun k=>by
 rcases Nat.lt_or_ge k m with h | h
 .exact .inr ⟨h2 k h,Nat.lt_of_lt_of_le h hm,.inr (h1 k h).symm⟩
 .exact .inl (hf k h)
section
variable {P:Program}
theorem EK {k0:Nat} {o:CO} {st:St} {K K':St→Prop} (h:∀s,K s→K' s) (hv:CT P k0 o st K):CT P k0 o st K':=by
 obtain ⟨h1,h2⟩:=hv
 refine ⟨h1,?_⟩
 obtain ⟨d,op,g⟩:=o
 cases op
 case al z=>exact h _ h2
 case bo x =>
  simp only at h2 ⊢
  split at h2
  .rename_i e;exact h _ h2
  .exact h2.elim
 case mk=>exact h _ h2
 case mpg x =>
  simp only at h2 ⊢
  unfold mgK at h2 ⊢
  split at h2
  .split at h2
   .exact h _ h2
   .exact h2.elim
  .exact h2.elim
 case mpn x =>
  simp only at h2 ⊢
  unfold mxK at h2 ⊢
  split at h2
  .split at h2
   .exact ⟨fun e=>h _ (h2.1 e),fun j b α e1 e2=>h _ (h2.2 j b α e1 e2)⟩
   .exact h2.elim
  .exact h2.elim
 case mpe x =>
  simp only at h2 ⊢
  unfold meK at h2 ⊢
  split at h2
  .split at h2
   .obtain ⟨b,e1,α,e2,e3⟩:=h2
    exact ⟨b,e1,α,e2,h _ e3⟩
   .exact h2.elim
  .exact h2.elim
 case mpd x s =>
  simp only at h2 ⊢
  unfold mdK at h2 ⊢
  split at h2
  .split at h2
   .exact h _ h2
   .exact h _ h2
   .exact h2.elim
  .exact h2.elim
 case clr x m z =>
  simp only at h2 ⊢
  unfold clK at h2 ⊢
  split at h2
  .split at h2
   .exact ⟨h2.1,h _ h2.2⟩
   .exact h2.elim
  .split at h2
   .exact ⟨h2.1,h _ h2.2⟩
   .exact h2.elim
  .exact h2.elim
 case alb=>exact h _ h2
 case mu x s y =>
  simp only at h2 ⊢
  unfold muK at h2 ⊢
  split at h2
  .split at h2
   .exact ⟨h2.1,h _ h2.2⟩
   .exact h2.elim
  .exact h2.elim
 case nl neg x =>
  simp only at h2 ⊢
  unfold nlK at h2 ⊢
  split at h2
  .exact ⟨fun e=>h _ (h2.1 e),h _ h2.2⟩
  .exact ⟨fun e=>h _ (h2.1 e),h _ h2.2⟩
  .exact ⟨h _ h2.1,h _ h2.2⟩
  .exact h2.elim
 case st x y m =>
  simp only at h2 ⊢
  split at h2
  .obtain ⟨a,b,c⟩:=h2
   refine ⟨a,b,?_⟩
   unfold XS at c ⊢
   split at c
   .split at c
    .exact ⟨c.1,h _ c.2⟩
    .exact c.elim
   .split at c
    .obtain ⟨c1,e,c2,c3⟩:=c
     exact ⟨c1,e,c2,h _ c3⟩
    .obtain ⟨c1,e,c2,c3⟩:=c
     exact ⟨c1,e,c2,h _ c3⟩
    .exact c.elim
   .exact c.elim
  .exact h2.elim
 case bs fz n ps =>
  simp only at h2 ⊢
  split at h2
  .split at h2
   .exact h _ h2
   .exact h2.elim
  .split at h2
   .split at h2
    .rename_i hf;rw [if_pos hf];exact h _ h2
    .rename_i hf;rw [if_neg hf];exact h _ h2
   .exact h2.elim
 case ap x y n b =>
  simp only at h2 ⊢
  split at h2
  .obtain ⟨a,b,c,d⟩:=h2
   refine ⟨a,b,c,?_⟩
   split at d
   .exact h _ d
   .exact d.elim
  .split at h2
   .obtain ⟨a,b,c,d⟩:=h2
    refine ⟨a,b,c,?_⟩
    split at d
    .exact h _ d
    .exact d.elim
   .exact h2.elim
 case aps x y =>
  simp only at h2 ⊢
  split at h2
  .obtain ⟨a,d⟩:=h2
   refine ⟨a,?_⟩
   split at d
   .exact h _ d
   .exact d.elim
  .exact h2.elim
 case ms l c n b z =>
  simp only at h2 ⊢
  split at h2
  .obtain ⟨a1,a2,a3,a4,a5,a6,a7⟩:=h2
   exact ⟨a1,a2,a3,a4,a5,a6,h _ a7⟩
  .exact h2.elim
 case cl f xs =>
  obtain ⟨R,a,b⟩:=h2
  exact ⟨R,a,fun Ao n' r hr=>h _ (b Ao n' r hr)⟩
 case cc f xs =>
  simp only at h2 ⊢
  split at h2
  .obtain ⟨R,a,b⟩:=h2
   exact ⟨R,a,fun Ao n' r hr=>h _ (b Ao n' r hr)⟩
  .exact h2.elim
 all_goals exact K6 (fun α=>h _) h2
theorem Pa {o:CO} {st:St} {K K':St→Prop} (h:∀s,K s→K' s) (hv:Ig P o st K):Ig P o st K':=by
 have hg:∀G,Pz P o st G K→Pz P o st G K':=by
  intro G hv
  unfold Pz at *
  split at hv
  .rename_i hs
   rw [if_pos hs]
   exact ⟨hv.1,hv.2.1,hv.2.2.1,h _ hv.2.2.2⟩
  .rename_i hs
   rw [if_neg hs]
   split at hv
   .rename_i f xs ho
    refine ⟨hv.1,?_⟩
    rcases hv.2 with ⟨r,m,k⟩ | h2
    .exact .inl ⟨r,m,h _ k⟩
    .exact .inr ⟨fun e=>(let ⟨R,hm,hk⟩:=h2.1 e;⟨R,hm,fun a b c d=>h _ (hk a b c d)⟩),fun e=>h _ (h2.2 e)⟩
   .exact ⟨fun e=>EK h (hv.1 e),fun e=>h _ (hv.2 e)⟩
 unfold Ig at *
 split at hv
 .exact EK h hv
 .split at hv
  .exact hg _ hv
  .exact hg _ hv
  .exact hg _ hv
  .exact hv
theorem RI {o:CO} {st:St} {K K':St→Prop} (h:∀s,K s→K' s) (hv:Sl P o st K):Sl P o st K':=by
 unfold Sl at *
 split at hv
 .split at hv
  .exact EK h hv
  .refine ⟨hv.1,?_⟩
   replace hv:=hv.2
   split at hv
   .refine ⟨hv.1,hv.2.1,hv.2.2.1,?_⟩
    replace hv:=hv.2.2.2
    split at hv
    .split at hv
     .split at hv
      .exact ⟨hv.1,h _ hv.2⟩
      .exact ⟨hv.1,h _ hv.2.1,h _ hv.2.2⟩
     .exact hv.elim
    .exact ⟨hv.1,h _ hv.2⟩
    .exact hv.elim
   .exact hv.elim
 .exact EK h hv
 .exact hv.elim
theorem Sn {o:CO} {st:St} {K K':St→Prop} (h:∀s,K s→K' s) (hv:TL P o st K):TL P o st K':=by
 unfold TL at *
 split at hv
 .exact Pa h hv
 .exact RI h hv
theorem OU {l:List CO}:∀{st:St} {K K':St→Prop},(∀s,K s→K' s)→AW P l st K→AW P l st K':=by
 induction l with
 | nil=>intro st K K' h hv;exact h _ hv
 | cons o r ih=>intro st K K' h hv;exact Sn (fun s hs=>ih h hs) hv
theorem Wg:∀(c:CC) (st:St) (Q Q':Exit→St→Prop),(∀e s,Q e s→Q' e s)→vc P c st Q→vc P c st Q':=by
 intro c
 induction c with
 | skip=>intro st Q Q' h hv;exact h _ _ hv
 | rg l=>intro st Q Q' h hv;exact OU (h _) hv
 | dr l dp=>intro st Q Q' h hv;exact K4 l _ _ _ _ _ _ (fun e hp hk=>h _ _ hk) hv
 | sq a b iha ihb =>
  intro st Q Q' h hv
  refine iha st _ _ (fun e s hs=>?_) hv
  cases e with
  | normal=>exact ihb s _ _ h hs
  | _=>exact h _ _ hs
 | sqw a b iha ihb =>
  intro st Q Q' h hv
  refine iha st _ _ (fun e s hs=>?_) hv
  cases e with
  | normal =>
   obtain ⟨I,hw,k⟩:=hs
   exact ⟨I,hw,fun s2 hI=>ihb s2 _ _ h (k s2 hI)⟩
  | _=>exact h _ _ hs
 | cd c a b iha ihb =>
  intro st Q Q' h hv
  obtain ⟨h1,h2⟩:=hv
  refine ⟨h1,?_⟩
  split at h2
  .exact ⟨fun e=>iha st _ _ h (h2.1 e),fun e=>ihb st _ _ h (h2.2 e)⟩
  .exact h2.elim
 | bl id c ih =>
  intro st Q Q' h hv
  refine ih st _ _ (fun e s hs=>?_) hv
  cases e with
  | exit i =>
   simp only at hs ⊢
   split
   .rename_i hi;rw [if_pos hi] at hs;exact h _ _ hs
   .rename_i hi;rw [if_neg hi] at hs;exact h _ _ hs
  | _=>exact h _ _ hs
 | lp c ih =>
  intro st Q Q' h ⟨I,h1,h2⟩
  refine ⟨I,h1,fun m s hI=>ih s _ _ (fun e s' hs=>?_) (h2 m s hI)⟩
  cases e with
  | normal=>exact hs
  | _=>exact h _ _ hs
 | ex id=>intro st Q Q' h hv;exact h _ _ hv
 | rt=>intro st Q Q' h hv;exact h _ _ hv
theorem loop {ι:Type} {c:CC} (I:ι→St) (φ:ι→Prop) (μ:ι→Nat) (i0:ι) {st:St} {Q:Exit→St→Prop} (h1:φ i0) (h0:Ej st (I i0)) (hs:∀i,φ i→vc P c (I i) (U4 I φ μ i Q)):L5 (vc P c) st Q :=
 Se (fun s Q Q' h=>Wg c s Q Q' h) I φ μ i0 h1 h0 hs
end
attribute [go_sem] U4
def Ad {α:Type} (c:α→List AV) (l:List α):List (List AV):=l.map c
theorem MZ {α:Type} (c:α→List AV):Ad c []=[]:=rfl
theorem BT {α:Type} (c:α→List AV) (x:α) (l:List α):Ad c (x::l)=c x::Ad c l:=rfl
theorem Ax {α:Type} (c:α→List AV) (l:List α):(Ad c l).length=l.length:=by simp [Ad]
theorem Ab {α:Type} (c:α→List AV) {l:List α} {j:Nat} {a:α} (h:l[j]?=some a):(Ad c l)[j]?=some (c a):=by simp [Ad,h]
theorem HB {α:Type} (c:α→List AV) (l:List α) (n:Nat):(Ad c l).take n=Ad c (l.take n):=by simp [Ad]
theorem Bi {α:Type} (c:α→List AV) (l:List α) (x:α):Ad c l++[c x]=Ad c (l++[x]):=by simp [Ad]
theorem Jw {α:Type} (c:α→List AV) (l:List α) {e:List AV} (h:e∈Ad c l):∃x∈l,c x=e:=by simpa [Ad] using h
def by1 (b:UInt8):List AV:=[.i .u8 b.toNat]
def C9 (s:ByteArray):List AV:=[.s s]
def Dx (n:Int):List AV:=[.i .i64 n]
abbrev Bv (l:List ByteArray):List (List AV):=Ad C9 l
def bs (b:ByteArray):List UInt8:=b.data.toList
theorem Pg (b:ByteArray):Dw b=Ad by1 (bs b):=rfl
theorem L7 (b:ByteArray):(bs b).length=b.size:=by simp [bs]
theorem XY (l:List UInt8):bs ⟨⟨l⟩⟩=l:=rfl
theorem Ry {x:Int} (h:-9223372036854775808≤x∧x≤9223372036854775807):IntKind.i64.wrap x=x:=by
 simp [IntKind.wrap,IntKind.bits,IntKind.signed];omega
theorem At (n:Nat) (h:n<9223372036854775807):IntKind.i64.wrap ((n:Int)+1)=((n+1:Nat):Int):=by rw [Ry (by omega)];simp
def u8 (n:Int):UInt8:=UInt8.ofNat (n % 256).toNat
theorem wr8 (n:Int):IntKind.u8.wrap n=((u8 n).toNat:Int):=by
 simp [IntKind.wrap,IntKind.bits,IntKind.signed,u8];omega
attribute [grind =] L7 XY
theorem DL {α:Type} {c:α→List AV} {l:List α} {n:Nat} (h:∀x,(c x).length=n∧EU (c x)=true):DP n (Ad c l)=True:=eq_true fun e he=>by
 obtain ⟨x,_,rfl⟩:=Jw _ _ he
 exact h x
theorem Ni (l:List ByteArray):DP 1 (Ad C9 l)=True:=DL fun _=>⟨rfl,rfl⟩
theorem Nl (l:List Int):DP 1 (Ad Dx l)=True:=DL fun _=>⟨rfl,rfl⟩
theorem UD {α:Type} (l m:List α):(l++m).take (l.length+m.length)=l++m:=by rw [←List.length_append,List.take_length]
theorem Aax {α:Type} (l m:List α):(l.length+m.length≤(l++m).length)=True:=by simp
attribute [go_sem] UD Aax
attribute [go_sem] Ni Nl by1 C9 Dx Pg L7 XY Ax HB MZ BT
/-! ### Calls with rows and boxes -/
def AQ (P:Program) (f:FuncId) (hp:CH) (n:Nat) (args:List AV) (Hm:CH) (n1:Nat) (r:AV):Prop:=AI P f hp n args fun Ao n' r'=>Ao=Hm∧n'=n1∧r'=r
theorem Af.x {P:Program} {f:FuncId} {hp:CH} {n:Nat} {args:List AV} {K:CH→Nat→AV→Prop} {Hm:CH} {n1:Nat} {r:AV} (m:AQ P f hp n args Hm n1 r) (k:K Hm n1 r):Af P f hp n args K :=
 ⟨_,m,fun Ao n' r' ⟨e1,e2,e3⟩=>by subst e1;subst e2;subst e3;exact k⟩
theorem P6 {h:HP} {ρ:RO} {hp:CH} {n:Nat} {w:World} (m:SatH h ρ hp n w) {l l':List AV} {vs:List Value} (r:Br h ρ l vs) (e:Ec hp l=some l'):Br h ρ l' vs:=by
 obtain ⟨a,b,_⟩:=FT m r e
 exact ⟨a,fun j α v h1 h2=>.pu _ _ (b j α v h1 h2)⟩
theorem Ah.shut {P:Program} {f:FuncId} {hp:CH} {n:Nat} {args args':List AV} {r:AV} (e:Ec (shutL hp args) args=some args') (m:Ah P f (shutL hp args) n args' r):AQ P f hp n args (shutL hp args) n r:=by
 refine ⟨m.1,fun h ρ w vs hs ha=>?_⟩
 obtain ⟨h1,a1,a2,a3⟩:=hs.shutL (h:=h) args
 have ra:=P6 a2 (ha.mono a1 (BS.refl _)) e
 refine (m.2 h1 ρ w vs a2 ra).mono fun e w' ⟨v,he,h',hh,hm,BW,hk⟩=>?_
 exact ⟨v,he,h',ρ,_,n,r,⟨rfl,rfl,rfl⟩,a1.trans hh,BS.refl _,hm,.pu _ _ BW,⟨hk.os,hk.tape,hk.output,hk.size,fun b hb hX=>hk.block b hb fun hl=>hX (a3 b hl)⟩,fun b hb=>.inl (a3 b hb)⟩
theorem Af.p {P:Program} {f:FuncId} {hp:CH} {n:Nat} {args args':List AV} {K:CH→Nat→AV→Prop} {r:AV} (m:Ah P f (shutL hp args) n args' r) (e:Ec (shutL hp args) args=some args') (k:K (shutL hp args) n r):Af P f hp n args K :=
 Af.x (m.shut e) k
theorem QM {h:HP} {ρ:RO} {l:List AV} {vs:List Value} (r:Br h ρ l vs):AN h ρ (.tp l) (.tuple vs.toArray):=.tp l vs r.1 r.2
theorem Qo {h:HP} {ρ:RO} {l:List AV} {vs:List Value} (r:Bd h (.tp l) (.tuple vs.toArray)):Br h ρ l vs:=by
 generalize hv:Value.tuple vs.toArray=v at r
 cases r with
 | tp l ws e h' =>
  have:vs=ws:=by
   have:=Value.tuple.inj hv
   simpa using congrArg Array.toList this
  subst this
  exact ⟨e,fun j α v h1 h2=>.pu _ _ (h' j α v h1 h2)⟩
theorem Ah.shutQ {P:Program} {f:FuncId} {hp:CH} {n:Nat} {args args':List AV} {r:AV} (e:QG (shutL hp (Bc (.tp args))) args=some args') (m:Ah P f (shutL hp (Bc (.tp args))) n args' r):AQ P f hp n args (shutL hp (Bc (.tp args))) n r:=by
 refine ⟨m.1,fun h ρ w vs hs ha=>?_⟩
 obtain ⟨h1,a1,a2,a3⟩:=hs.shutL (h:=h) (Bc (.tp args))
 have ra:Br h1 ρ args' vs:=Qo (GK a2 ((QM ha).mono a1 (BS.refl _)) (show WF _ (.tp args)=some (.tp args') by rw [WF,e];rfl))
 refine (m.2 h1 ρ w vs a2 ra).mono fun e w' ⟨v,he,h',hh,hm,BW,hk⟩=>?_
 exact ⟨v,he,h',ρ,_,n,r,⟨rfl,rfl,rfl⟩,a1.trans hh,BS.refl _,hm,.pu _ _ BW,⟨hk.os,hk.tape,hk.output,hk.size,fun b hb hX=>hk.block b hb fun hl=>hX (a3 b hl)⟩,fun b hb=>.inl (a3 b hb)⟩
theorem Af.q {P:Program} {f:FuncId} {hp:CH} {n:Nat} {args args':List AV} {K:CH→Nat→AV→Prop} {r:AV} (m:Ah P f (shutL hp (Bc (.tp args))) n args' r) (e:QG (shutL hp (Bc (.tp args))) args=some args') (k:K (shutL hp (Bc (.tp args))) n r):Af P f hp n args K :=
 Af.x (m.shutQ e) k
theorem Ah.cv {P:Program} {f:FuncId} {hp:CH} {n:Nat} {args args':List AV} {r:AV} (e:QG hp args=some args') (m:Ah P f hp n args' r):Ah P f hp n args r :=
 ⟨m.1,fun h ρ w vs hs ha=>m.2 h ρ w vs hs (Qo (GK hs (QM ha) (show WF _ (.tp args)=some (.tp args') by rw [WF,e];rfl)))⟩
theorem B0 {env:EN} {hp:CH} {n t m:Nat} (he:ge env t=.e0):Ej ⟨env,hp,n⟩ ⟨(t,.rw n 0 0)::env,(n,.rw 0 m [])::hp,n+1⟩:=by
 rintro C a w ⟨h,ρ,s⟩
 have hf:=s.mem.fr
 have hno:=s.mem.free
 have hρ:BS ρ (Bs ρ n 0 (none,0)):=BD _ (hf n 0 (zna _))
 have Hi:∀k,k≠n→gc ((n,Ap.rw 0 m [])::hp) k=gc hp k:=fun k hk=>Aq _ _ (fun e=>hk e.symm)
 have AJ:∀b,A9 (Bs ρ n 0 (none,0)) ((n,Ap.rw 0 m [])::hp) b→A9 ρ hp b:=by
  rintro b ⟨k,g,c,e,r⟩
  by_cases hk:k=n
  .subst hk
   rw [Av] at e
   cases e
   rw [Ay] at r
   cases r
  .rw [Hi k hk] at e
   rw [AL _ _ hk] at r
   exact ⟨k,g,c,e,r⟩
 refine ⟨h,Bs ρ n 0 (none,0),s.hle,s.rle.trans hρ,s.keep,fun b hb=>s.own b (AJ b hb),⟨s.mem.hh,fun k=>?_,fun k k' g g' b c c' e e' r r'=>?_,fun b hb=>s.mem.hid b (AJ b hb),fun b hb=>s.mem.lt b (AJ b hb),fun k g hk=>?_,fun k g g' x e r=>?_,s.mem.gl⟩,fun u hu=>?_,s.size,s.defers⟩
 .by_cases hk:k=n
  .subst hk
   show (gc ((k,Ap.rw 0 m [])::hp) k).sat _ _ _ _
   rw [Av]
   refine ⟨none,0,Ay _ _ _ _,by simp,by simp [maxLen],fun j e h=>by simp at h,fun _=>rfl,fun b hb=>by cases hb⟩
  .show (gc ((n,Ap.rw 0 m [])::hp) k).sat _ _ _ _
   rw [Hi k hk]
   exact Ap.sat_mono (B8.refl _) hρ (fun _ _ _ _ _=>rfl) (s.mem.ch k)
 .have key:∀k g b c,(gc ((n,Ap.rw 0 m [])::hp) k).own g→Bs ρ n 0 (none,0) k g=some (some b,c)→(gc hp k).own g∧ρ k g=some (some b,c):=by
   intro k g b c e r
   by_cases hk:k=n
   .subst hk
    rw [Av] at e
    cases e
    rw [Ay] at r
    cases r
   .rw [Hi k hk] at e
    rw [AL _ _ hk] at r
    exact ⟨e,r⟩
  obtain ⟨a1,a2⟩:=key k g b c e r
  obtain ⟨b1,b2⟩:=key k' g' b c' e' r'
  exact s.mem.inj k k' g g' b c c' a1 b1 a2 b2
 .have hk:n+1≤k:=hk
  rw [AL _ _ (by omega)]
  exact hf k g (by show n≤k;omega)
 .by_cases hk:k=n
  .subst hk
   have e:(gc ((k,Ap.rw 0 m [])::hp) k).rgen=some g:=e
   rw [Av] at e
   cases e
   by_cases hg:g'=0
   .omega
   .have:Bs ρ k 0 (none,0) k g'=ρ k g':=by simp [Bs,hg]
    rw [this,hf k g' (zna _)] at r
    cases r
  .have e:(gc ((n,Ap.rw 0 m [])::hp) k).rgen=some g:=e
   rw [Hi k hk] at e
   rw [AL _ _ hk] at r
   exact s.mem.gens k g g' x e r
 .obtain ⟨v,h1,h2⟩:=s.env u hu
  refine ⟨v,h1,?_⟩
  show AN h _ (ge ((t,AV.rw n 0 0)::env) u) v
  unfold ge
  by_cases ht:t=u
  .subst ht
   rw [if_pos rfl]
   have h2:AN h ρ (ge env t) v:=h2
   rw [he] at h2
   cases h2 with
   | pu _ _ p =>
    cases p with
    | e0 a=>exact .rw n 0 0 0 a none (Ay _ _ _ _) (zna _) (fun b hb=>by cases hb)
  .rw [if_neg ht]
   exact AN.mono (B8.refl _) hρ h2
theorem Dy {env:EN} {hp:CH} {n c i m:Nat} {cs:List AV} (hc:gc hp c=.bx cs) (he:cs[i]?=some .e0):Ej ⟨env,hp,n⟩ ⟨env,(c,.bx (cs.set i (.rw n 0 0)))::(n,.rw 0 m [])::hp,n+1⟩:=by
 rintro C a w ⟨h,ρ,s⟩
 have hf:=s.mem.fr
 have hno:=s.mem.free
 have hcn:c≠n:=fun e=>by
  have:=hno c (by show n≤c;omega)
  rw [show gc hp c=.no from this] at hc
  cases hc
 have hρ:BS ρ (Bs ρ n 0 (none,0)):=BD _ (hf n 0 (zna _))
 let Ao:CH:=(c,Ap.bx (cs.set i (.rw n 0 0)))::(n,Ap.rw 0 m [])::hp
 have gcc:gc Ao c=.bx (cs.set i (.rw n 0 0)):=Av _ _ _
 have gcn:gc Ao n=.rw 0 m []:=(Aq _ _ hcn).trans (Av _ _ _)
 have Hi:∀k,k≠n→k≠c→gc Ao k=gc hp k:=fun k hk Om=>(Aq _ _ (fun e=>Om e.symm)).trans (Aq _ _ (fun e=>hk e.symm))
 have key:∀k g b d,(gc Ao k).own g→Bs ρ n 0 (none,0) k g=some (some b,d)→(gc hp k).own g∧ρ k g=some (some b,d):=by
  intro k g b d e r
  by_cases hk:k=n
  .subst hk
   rw [gcn] at e
   cases e
   rw [Ay] at r
   cases r
  .rw [AL _ _ hk] at r
   by_cases Om:k=c
   .subst Om
    rw [gcc] at e
    rw [hc]
    exact ⟨e,r⟩
   .rw [Hi k hk Om] at e
    exact ⟨e,r⟩
 have AJ:∀b,A9 (Bs ρ n 0 (none,0)) Ao b→A9 ρ hp b:=by
  rintro b ⟨k,g,d,e,r⟩
  obtain ⟨e1,e2⟩:=key k g b d e r
  exact ⟨k,g,d,e1,e2⟩
 refine ⟨h,Bs ρ n 0 (none,0),s.hle,s.rle.trans hρ,s.keep,fun b hb=>s.own b (AJ b hb),⟨s.mem.hh,fun k=>?_,fun k k' g g' b d d' e e' r r'=>?_,fun b hb=>s.mem.hid b (AJ b hb),fun b hb=>s.mem.lt b (AJ b hb),fun k g hk=>?_,fun k g g' x e r=>?_,s.mem.gl⟩,fun u hu=>?_,s.size,s.defers⟩
 .by_cases hk:k=n
  .subst hk
   show (gc Ao k).sat _ _ _ _
   rw [gcn]
   refine ⟨none,0,Ay _ _ _ _,by simp,by simp [maxLen],fun j e h=>by simp at h,fun _=>rfl,fun b hb=>by cases hb⟩
  .by_cases Om:k=c
   .subst Om
    show (gc Ao k).sat _ _ _ _
    rw [gcc]
    have s0:=s.mem.ch k
    rw [show gc hp k=.bx cs from hc] at s0
    obtain ⟨b,d,vs,e,h1,h2,h3,h4⟩:=s0
    refine ⟨b,d,vs,e,by rw [AL _ _ hk];exact h1,h2,by rw [List.length_set];exact h3,fun j α v a1 a2=>?_⟩
    rw [List.getElem?_set] at a1
    split at a1
    .rename_i hij
     subst hij
     have r:=h4 i .e0 v he a2
     split at a1
     .cases a1
      cases r with
      | pu _ _ p =>
       cases p with
       | e0 a=>exact .rw n 0 0 0 a none (Ay _ _ _ _) (zna _) (fun b hb=>by cases hb)
     .cases a1
    .exact AN.mono (B8.refl _) hρ (h4 j α v a1 a2)
   .show (gc Ao k).sat _ _ _ _
    rw [Hi k hk Om]
    exact Ap.sat_mono (B8.refl _) hρ (fun _ _ _ _ _=>rfl) (s.mem.ch k)
 .obtain ⟨a1,a2⟩:=key k g b d e r
  obtain ⟨b1,b2⟩:=key k' g' b d' e' r'
  exact s.mem.inj k k' g g' b d d' a1 b1 a2 b2
 .have hk:n+1≤k:=hk
  rw [AL _ _ (by omega)]
  exact hf k g (by show n≤k;omega)
 .by_cases hk:k=n
  .subst hk
   have e:(gc Ao k).rgen=some g:=e
   rw [gcn] at e
   cases e
   by_cases hg:g'=0
   .omega
   .have:Bs ρ k 0 (none,0) k g'=ρ k g':=by simp [Bs,hg]
    rw [this,hf k g' (zna _)] at r
    cases r
  .by_cases Om:k=c
   .subst Om
    have e:(gc Ao k).rgen=some g:=e
    rw [gcc] at e
    cases e
   .have e:(gc Ao k).rgen=some g:=e
    rw [Hi k hk Om] at e
    rw [AL _ _ hk] at r
    exact s.mem.gens k g g' x e r
 .obtain ⟨v,h1,h2⟩:=s.env u hu
  exact ⟨v,h1,AN.mono (B8.refl _) hρ h2⟩
theorem Ql {env:EN} {hp:CH} {n t k g len m:Nat} {l:List (List AV)} (he:ge env t=.rw k g len) (hk:gc hp k=.rw g m l) (hl:len≤l.length):Ej ⟨env,hp,n⟩ ⟨(t,.ds (l.take len))::env,(k,.sh g m l)::hp,n⟩:=by
 rintro C a w ⟨h,ρ,s⟩
 obtain ⟨h',a1,s'⟩:=s.shutC (.rw k g len)
 have hs:Eng.shutC hp (.rw k g len)=(k,.sh g m l)::hp:=by simp [Eng.shutC,hk]
 have s':Sat C ⟨env,(k,.sh g m l)::hp,n⟩ h' ρ a w:=by rw [←hs];exact s'
 refine ⟨h',ρ,s'.hle,s'.rle,s'.keep,s'.own,s'.mem,fun u hu=>?_,s'.size,s'.defers⟩
 obtain ⟨v,h1,h2⟩:=s'.env u hu
 refine ⟨v,h1,?_⟩
 show AN h' _ (ge ((t,AV.ds (l.take len))::env) u) v
 unfold ge
 by_cases ht:t=u
 .subst ht
  rw [if_pos rfl]
  have h2:AN h' ρ (ge env t) v:=h2
  rw [he] at h2
  exact .pu _ _ (FY s'.mem h2 (by simp [Di,Av,hl])).1
 .rw [if_neg ht]
  exact h2
/-! ### For the automatic walk -/
theorem F5.m {α:Type} {c:α→List AV} {l:List α} {i:Nat} {K:List AV→Prop} (h:i<l.length) (k:∀x,l[i]?=some x→K (c x)):F5 (Ad c l) i K :=
 ⟨c l[i],Ab c (by simp [h]),k _ (by simp [h])⟩
theorem GY {α:Type} {c:α→List AV} {l:List α} {n:Nat} (h:∀x,(c x).length=n):∀e∈Ad c l,e.length=n:=fun e he=>by
 obtain ⟨x,_,rfl⟩:=Jw _ _ he
 exact h x
theorem FV {α:Type} {c:α→List AV} {l:List α} {n:Nat} (h:∀x,(c x).length=n∧EU (c x)=true):∀e∈Ad c l,e.length=n∧EU e=true:=fun e he=>by
 obtain ⟨x,_,rfl⟩:=Jw _ _ he
 exact h x
def okE (env:EN):EN→Prop
 | []=>True
 | (t,α)::r=>(ge env t=α∨α=.un)∧okE env r
theorem PZ {env:EN}:∀{l:EN},okE env l→∀p∈l,ge env p.1=p.2∨p.2=.un
 | [],_,p,h=>by cases h
 | (t,α)::r,⟨h1,h2⟩,p,h=>by
  rcases List.mem_cons.1 h with e | e
  .subst e;exact h1
  .exact PZ h2 p e
attribute [go_sem] okE
theorem Ac {env env':EN} {hp Ao:CH} {n n':Nat} (he:okE env env') (hh:A6 hp Ao) (hn:n≤n'):Ej ⟨env,hp,n⟩ ⟨env',Ao,n'⟩:=Wa (PZ he) hh hn
theorem YV (n k o:Nat):(AV.bx k o).und n=(k<n):=rfl
theorem ZG (n k g l:Nat):(AV.rw k g l).und n=(k<n):=rfl
theorem Aac (n k:Nat):(AV.mp k).und n=(k<n):=rfl
theorem Zx (n k:Nat):(AV.mi k).und n=(k<n):=rfl
theorem Zs (n m i o:Nat) (α:AV):(AV.ep α m i o).und n=α.und n:=rfl
theorem ZV (n:Nat) (l:List AV):(AV.ag l).und n=AV.und.undL n l:=rfl
theorem Ye (n:Nat) (l:List AV):(AV.tp l).und n=AV.und.undL n l:=rfl
theorem ZO (n f:Nat) (l:List AV):(AV.fn f l).und n=AV.und.undL n l:=rfl
theorem Z9 (n t:Nat) (α:AV):(AV.fc t α).und n=α.und n:=rfl
theorem Y7 (n:Nat) (c:Bool) (α:AV):(AV.gd c α).und n=α.und n:=rfl
theorem Yj (n:Nat):AV.un.und n=True:=rfl
theorem Aeh (n:Nat) (x:Bool):(AV.b x).und n=True:=rfl
theorem Ad2 (n:Nat) (k:IntKind) (x:Int):(AV.i k x).und n=True:=rfl
theorem Adh (n:Nat) (x:ByteArray):(AV.s x).und n=True:=rfl
theorem ZK (n:Nat) (l:List (List AV)):(AV.ds l).und n=True:=rfl
theorem Yl (n:Nat):AV.e0.und n=True:=rfl
theorem Yk (n:Nat):AV.np.und n=True:=rfl
theorem Aaz (n:Nat):AV.mn.und n=True:=rfl
theorem Zw (n:Nat):AV.nf.und n=True:=rfl
theorem Aav (n:Nat):AV.ni.und n=True:=rfl
theorem Tw (n:Nat):AV.und.undL n []=True:=rfl
theorem Rt (n:Nat) (α:AV) (r:List AV):AV.und.undL n (α::r)=(α.und n∧AV.und.undL n r):=rfl
theorem Wu (n:Nat) (l:List AV):(Ap.bx l).und n=AV.und.undL n l:=rfl
theorem X3 (n g k:Nat) (l:List (List AV)):(Ap.rw g k l).und n=True:=rfl
theorem WR (n g k:Nat) (l:List (List AV)):(Ap.sh g k l).und n=True:=rfl
theorem VL (n g k:Nat) (l:List (List AV)):(Ap.rn g k l).und n=(∀x∈l,AV.und.undL n x):=rfl
attribute [go_sem] VL
theorem VI (n:Nat) (l:List (ByteArray × AV)):(Ap.mp l).und n=True:=rfl
theorem Xv (n:Nat) (l:List (ByteArray × AV)) (sn:List ByteArray):(Ap.mr l sn).und n=True:=rfl
theorem VV (n:Nat) (l:List AV):(Ap.ro l).und n=True:=rfl
attribute [go_sem] YV ZG Aac Zx Zs ZV Ye ZO Z9 Y7 Yj Aeh Ad2 Adh ZK Yl Yk Aaz Zw Aav Tw Rt Wu X3 WR VI Xv VV
theorem ZD (b:ByteArray):b.data.toList=bs b:=rfl
attribute [go_sem] ZD
attribute [grind =] Ax MZ BT by1 C9 Dx
attribute [simp] Ax L7
attribute [grind =] Int.ofNat_eq_natCast
/-! ### What is lent to a callee: rows and variables of the caller that it reads alone -/
def AV.fl1:AV→Bool
 | .b _ | .i _ _ | .s _=>true
 | _=>false
def AV.flat:AV→Bool
 | .tp l=>l.all AV.fl1
 | .ag l=>l.all AV.fl1
 | α=>α.fl1
theorem Lv {h h':HP} {α:AV} {v:Value} (o:α.fl1=true) (r:Bd h' α v):Bd h α v:=by
 cases α<;>first
  | (simp [AV.fl1] at o;done)
  | (cases r;constructor)
theorem SY {h h':HP} {α:AV} {v:Value} (o:α.flat=true) (r:Bd h' α v):Bd h α v:=by
 cases α with
 | tp l=>cases r with | tp _ vs e hx=>exact .tp _ _ e fun j β u a b=>Lv (List.all_eq_true.1 o β (zla a)) (hx j β u a b)
 | ag l=>cases r with | ag _ vs e hx=>exact .ag _ _ e fun j β u a b=>Lv (List.all_eq_true.1 o β (zla a)) (hx j β u a b)
 | _=>exact Lv o r
def Iz (hp:CH):CH→Prop
 | []=>True
 | (k,.sh g m l)::r=>(gc hp k=.rw g m l∨gc hp k=.sh g m l)∧Iz hp r
 | _=>False
def I0 (hp R:CH):CH→Prop
 | []=>True
 | (k,.ro cs)::r=>((∃xs,gc hp k=.bx xs∧Ec R xs=some cs)∨gc hp k=.ro cs)∧I0 hp R r
 | _=>False
def Kj (h:HP) (ρ:RO) (w:World):CH→Prop
 | []=>True
 | (k,c)::r=>c.sat h ρ w k∧c.gen=none∧Kj h ρ w r
theorem FL {h h':HP} {ρ:RO} {w:World} (hh:B8 h h'):∀{R:CH},Kj h ρ w R→Kj h' ρ w R
 | [],_=>trivial
 | (k,c)::r,s=>⟨Ap.sat_mono hh (BS.refl _) (fun g b x e=>(Ap.own_none s.2.1 e).elim) s.1,s.2.1,FL hh s.2.2⟩
theorem E6 {h:HP} {ρ:RO} {w:World}:∀{R:CH},Kj h ρ w R→∀k,(gc R k).sat h ρ w k∧(gc R k).gen=none
 | [],_,k=>⟨trivial,rfl⟩
 | (k',c)::r,s,k=>by
  by_cases e:k'=k
  .subst e;rw [Aj];exact ⟨s.1,s.2.1⟩
  .rw [Al e];exact E6 s.2.2 k
theorem Ml {h:HP} {ρ:RO} {w:World}:∀{A B:CH},Kj h ρ w A→Kj h ρ w B→Kj h ρ w (A++B)
 | [],B,_,b=>b
 | (k,c)::r,B,a,b=>⟨a.1,a.2.1,Ml a.2.2 b⟩
theorem Va {h0 h:HP} {ρ:RO} {hp:CH} {n:Nat} {w:World} (hs:SatH h0 ρ hp n w) (hl:B8 h0 h) (hh:∀b o,h b=some o→w.heap[b]?=some o) {R:CH} (s:Kj h ρ w R):SatH h ρ R n w:=by
 have no:∀b,¬A9 ρ R b:=fun b ⟨k,g,c,e,_⟩=>Ap.own_none (E6 s k).2 e
 refine ⟨hh,fun k=>(E6 s k).1,fun k k' g g' b c c' e _ _ _=>?_,fun b hb=>absurd hb (no b),fun b hb=>absurd hb (no b),hs.fr,fun k g g' x e _=>?_,hs.glm hl⟩
 .exact (Ap.own_none (E6 s k).2 e).elim
 .have e:=Ap.rgen_gen e
  rw [(E6 s k).2] at e
  cases e
theorem DD {h:HP} {w:World} (hh:∀b o,h b=some o→w.heap[b]?=some o) {b:Nat} {o:Obj} (hb:w.heap[b]?=some o):∃h',B8 h h'∧(∀b o,h' b=some o→w.heap[b]?=some o)∧h' b=some o:=by
 refine ⟨fun x=>if x=b then some o else h x,fun x p e=>?_,fun x p e=>?_,if_pos rfl⟩
 .by_cases hx:x=b
  .subst hx
   have:=hh _ _ e
   rw [hb] at this
   cases this
   exact if_pos rfl
  .exact (if_neg hx).trans e
 .by_cases hx:x=b
  .subst hx
   have e2:(some o:Option Obj)=some p:=(if_pos rfl).symm.trans e
   cases e2
   exact hb
  .have e2:h x=some p:=(if_neg hx).symm.trans e
   exact hh _ _ e2
theorem M6 {h:HP} {ρ:RO} {hp:CH} {n:Nat} {w:World} (hs:SatH h ρ hp n w):∀{R:CH},Iz hp R→∃h',B8 h h'∧(∀b o,h' b=some o→w.heap[b]?=some o)∧Kj h' ρ w R
 | [],_=>⟨h,B8.refl _,hs.hh,trivial⟩
 | (k,.sh g m l)::r,hr=>by
  obtain ⟨h1,a1,a2,a3⟩:=M6 hs hr.2
  rcases hr.1 with e | e
  .have hk:=hs.ch k
   rw [e] at hk
   obtain ⟨ob,cap,g1,g2,g3,g4,g5,g6⟩:=hk
   cases ob with
   | none=>exact ⟨h1,a1,a2,⟨none,cap,g1,g2,g3,g4,g5,fun b hb=>by cases hb⟩,rfl,a3⟩
   | some b =>
    obtain ⟨vs,ty,q1,q2,q3⟩:=g6 b rfl
    obtain ⟨h2,b1,b2,b3⟩:=DD a2 q1
    refine ⟨h2,a1.trans b1,b2,⟨some b,cap,g1,g2,g3,g4,g5,fun b' hb=>?_⟩,rfl,FL b1 a3⟩
    cases hb
    exact ⟨vs,ty,_,b3,fun j x q α y1 y2=>let ⟨u,z1,z2⟩:=q3 j x q α y1 y2;⟨u,z1,z2.mono (a1.trans b1)⟩⟩
  .have hk:=hs.ch k
   rw [e] at hk
   exact ⟨h1,a1,a2,Ap.sat_mono (c:=.sh g m l) a1 (BS.refl _) (fun _ _ _ e=>by cases e) hk,rfl,a3⟩
theorem Kx {h h1:HP} {ρ:RO} {hp R:CH} {n:Nat} {w:World} (hs:SatH h ρ hp n w) (a1:B8 h h1) (hR:SatH h1 ρ R n w):∀{B:CH},I0 hp R B→∃h',B8 h1 h'∧(∀b o,h' b=some o→w.heap[b]?=some o)∧Kj h' ρ w B
 | [],_=>⟨h1,B8.refl _,hR.hh,trivial⟩
 | (k,.ro cs)::r,hr=>by
  obtain ⟨h2,c1,c2,c3⟩:=Kx hs a1 hR hr.2
  rcases hr.1 with ⟨xs,e,Ao⟩ | e
  .have hk:=hs.ch k
   rw [e] at hk
   obtain ⟨b,c,vs,ty,g1,g2,g3,g4⟩:=hk
   obtain ⟨h3,b1,b2,b3⟩:=DD c2 g2
   have rl:Br h1 ρ xs vs.toList:=⟨by simpa using g3.symm,fun j α v x y=>(g4 j α v x (by simpa using y)).mono a1 (BS.refl _)⟩
   obtain ⟨p1,p2,_⟩:=FT hR rl Ao
   refine ⟨h3,c1.trans b1,b2,⟨b,c,vs,ty,_,g1,b3,by simpa using p1.symm,fun j α v x y=>(p2 j α v x (by simpa using y)).mono (c1.trans b1)⟩,rfl,FL b1 c3⟩
  .have hk:=hs.ch k
   rw [e] at hk
   exact ⟨h2,c1,c2,Ap.sat_mono (c:=.ro cs) (a1.trans c1) (BS.refl _) (fun _ _ _ e=>by cases e) hk,rfl,c3⟩
def cvX (hp:CH) (α:AV):AV:=(cvA hp α).getD α
theorem Vq {h:HP} {ρ:RO} {hp:CH} {n:Nat} {w:World} (m:SatH h ρ hp n w) {l:List AV} {vs:List Value} (r:Br h ρ l vs):Br h ρ (l.map (cvX hp)) vs:=by
 refine ⟨by simpa using r.1,fun j α v h1 h2=>?_⟩
 rw [List.getElem?_map] at h1
 cases hl:l[j]? with
 | none=>rw [hl] at h1;cases h1
 | some β =>
  rw [hl] at h1
  cases h1
  have q:=r.2 j β v hl h2
  unfold cvX
  cases hc:cvA hp β with
  | none=>exact q
  | some γ=>exact .pu _ _ (L0 m q hc)
theorem Ah.lend {P:Program} {f:FuncId} {hp R B:CH} {n:Nat} {args args':List AV} {r:AV} (hR:Iz hp R) (hB:I0 hp R B) (e:args.map (cvX (B++R))=args') (hr:r.flat=true) (m:Ah P f (B++R) n args' r):Ah P f hp n args r:=by
 refine ⟨m.1,fun h ρ w vs hs ha=>?_⟩
 obtain ⟨h1,a1,a2,a3⟩:=M6 hs hR
 have sR:=Va hs a1 a2 a3
 obtain ⟨h2,b1,b2,b3⟩:=Kx hs a1 sR hB
 have sA:=Ml b3 (FL b1 a3)
 have s2:=Va hs (a1.trans b1) b2 sA
 have ra:Br h2 ρ args' vs:=by
  rw [←e]
  exact Vq s2 (ha.mono (a1.trans b1) (BS.refl _))
 refine (m.2 h2 ρ w vs s2 ra).mono fun e w' ⟨v,he,h',hh,hm,BW,hk⟩=>?_
 have old:∀b,b<w.heap.size→w'.heap[b]?=w.heap[b]?:=fun b hb=>hk.block b hb fun ⟨k,g,c,q,_⟩=>Ap.own_none (E6 sA k).2 q
 refine ⟨v,he,h,B8.refl _,⟨fun b o x=>?_,fun k=>Ap.sat_mono (B8.refl _) (BS.refl _) (fun g b x q1 q2=>old b (hs.lt b ⟨k,g,x,q1,q2⟩)) (hs.ch k),hs.inj,hs.hid,fun b hb=>Nat.lt_of_lt_of_le (hs.lt b hb) hk.size,hs.fr,hs.gens,hs.gl⟩,SY hr BW,
  ⟨hk.os,hk.tape,hk.output,hk.size,fun b hb _=>old b hb⟩⟩
 have:=hs.hh b o x
 rw [old b (Array.getElem?_eq_some_iff.1 this).1]
 exact this
attribute [go_sem] Iz I0 AV.fl1 AV.flat cvX
end Go.Eng
