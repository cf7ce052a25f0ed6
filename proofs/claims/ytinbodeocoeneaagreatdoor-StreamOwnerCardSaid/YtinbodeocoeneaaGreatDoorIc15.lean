/- Proof. Conditions: none. -/
import Derived.Test.YtinbodeocoeneaaGreatDoorIc14
namespace Go.Eng
set_option linter.all false
theorem SatH.free {h:HP} {ρ:RO} {hp:CH} {n:Nat} {w:World} (m:SatH h ρ hp n w):∀k,n≤k→gc hp k=.no:=by
 intro k hk
 have:=m.ch k
 cases hc:gc hp k with
 | no=>rfl
 | bx cs=>rw [hc] at this;obtain ⟨b,c,vs,e,h1,_⟩:=this;rw [m.fr k 0 hk] at h1;cases h1
 | rw g n' l=>rw [hc] at this;obtain ⟨ob,cap,h1,_⟩:=this;rw [m.fr k g hk] at h1;cases h1
 | sh g n' l=>rw [hc] at this;obtain ⟨ob,cap,h1,_⟩:=this;rw [m.fr k g hk] at h1;cases h1
 | mp l=>rw [hc] at this;obtain ⟨b,c,es,cl,h1,_⟩:=this;rw [m.fr k 0 hk] at h1;cases h1
 | ro cs=>rw [hc] at this;obtain ⟨b,c,vs,e,fr,h1,_⟩:=this;rw [m.fr k 0 hk] at h1;cases h1
 | rn g n' l=>rw [hc] at this;obtain ⟨ob,cap,h1,_⟩:=this;rw [m.fr k g hk] at h1;cases h1
 | sb T e g bs=>rw [hc] at this;obtain ⟨b,c,p,v,h1,_⟩:=this;rw [m.fr k 0 hk] at h1;cases h1
def rcells:AV→List AV
 | .tp l=>l.flatMap fun α=>match α with
  | .ag c=>c
  | α=>[α]
 | .ag c=>c
 | α=>[α]
def cvA (hp:CH):AV→Option AV
 | .ag c=>(pureL hp c).map .ag
 | α=>pureC hp α
def cvT (hp:CH):List AV→Option (List AV)
 | []=>some []
 | α::r=>match cvA hp α,cvT hp r with
  | some β,some l=>some (β::l)
  | _,_=>none
def cvR (hp:CH):AV→Option AV
 | .tp l=>(cvT hp l).map .tp
 | α=>cvA hp α
theorem SatH.shutL {h:HP} {ρ:RO} {n:Nat} {w:World} (l:List AV):∀{h:HP} {hp:CH},SatH h ρ hp n w→∃h',HLe h h'∧SatH h' ρ (shutL hp l) n w∧∀b,live ρ (Eng.shutL hp l) b→live ρ hp b:=by
 induction l with
 | nil=>intro h hp m;exact ⟨h,HLe.refl _,m,fun b hb=>hb⟩
 | cons α r ih =>
  intro h hp m
  have step:∃h',HLe h h'∧SatH h' ρ (shutC hp α) n w∧∀b,live ρ (Eng.shutC hp α) b→live ρ hp b:=by
   unfold Eng.shutC
   split
   .split
    .rename_i k g len g' n' l hk
     split
     .obtain ⟨h',h1,h2,h3⟩:=m.shut hk
      exact ⟨h',h1,h2,h3⟩
     .exact ⟨h,HLe.refl _,m,fun b hb=>hb⟩
    .exact ⟨h,HLe.refl _,m,fun b hb=>hb⟩
   .exact ⟨h,HLe.refl _,m,fun b hb=>hb⟩
  obtain ⟨h1,a1,a2,a3⟩:=step
  obtain ⟨h2,b1,b2,b3⟩:=ih a2
  exact ⟨h2,a1.trans b1,b2,fun b hb=>a3 b (b3 b hb)⟩
theorem cvA_rel {h:HP} {ρ:RO} {hp:CH} {n:Nat} {w:World} (m:SatH h ρ hp n w) {α β:AV} {v:Value} (r:Rel h ρ α v) (e:cvA hp α=some β):PRel h β v:=by
 unfold cvA at e
 split at e
 .rename_i c
  cases hc:pureL hp c with
  | none=>simp [hc] at e
  | some l =>
   simp [hc] at e
   subst e
   obtain ⟨vs,rfl,rs⟩:=r.agg
   obtain ⟨p1,p2,_⟩:=pureL_rel m rs hc
   exact .ag _ _ p1 p2
 .exact (pureC_rel m r e).1
theorem cvR_rel {h:HP} {ρ:RO} {hp:CH} {n:Nat} {w:World} (m:SatH h ρ hp n w) {α β:AV} {v:Value} (r:Rel h ρ α v) (e:cvR hp α=some β):PRel h β v:=by
  unfold cvR at e
  split at e
  . rename_i l
    cases hc:cvT hp l with
    | none => simp [hc] at e
    | some l' =>
      simp [hc] at e
      subst e
      obtain ⟨vs,rfl,rs⟩:=r.tup
      have key:∀(l l':List AV) (vs:List Value),RelL h ρ l vs→cvT hp l=some l'→l'.length=vs.length∧∀(j:Nat) α v,l'[j]?=some α→vs[j]?=some v→PRel h α v:=by
        intro l
        induction l with
        | nil =>
          intro l' vs r e
          simp [cvT] at e
          subst e
          have : vs = [] := by have := r.1; simpa using this.symm
          subst this
          exact ⟨rfl, fun j α v h => by simp at h⟩
        | cons α l ih =>
          intro l' vs r e
          cases vs with
          | nil => have := r.1; simp at this
          | cons v vs =>
            unfold cvT at e
            split at e
            . rename_i β l2 e1 e2
              cases e
              obtain ⟨i1, i2⟩ := ih l2 vs ⟨by have := r.1; simpa using this, fun j α v h1 h2 => r.2 (j + 1) α v (by simpa using h1) (by simpa using h2)⟩ e2
              refine ⟨by simp [i1], fun j α v h1 h2 => ?_⟩
              cases j with
              | zero => simp at h1 h2; subst h1; subst h2; exact cvA_rel m (r.2 0 _ _ rfl rfl) e1
              | succ j => exact i2 j α v (by simpa using h1) (by simpa using h2)
            . cases e
      obtain ⟨k1,k2⟩:=key l l' vs rs hc
      exact .tp _ _ k1 k2
  . exact cvA_rel m r e
def pureQ (hp:CH) (n:Nat) (r:AV) (hp':CH) (_:Nat) (r':AV):Prop:=Up n hp (shutL hp' (rcells r'))∧cvR (shutL hp' (rcells r')) r'=some r
theorem Meets.toF {P:Program} {f:FuncId} {hp:CH} {n:Nat} {args:List AV} {r:AV} (m:Meets P f hp n args (pureQ hp n r)):MeetsF P f hp n args r:=by
 refine ⟨m.1,fun h ρ w vs hs ha=>(m.2 h ρ w vs hs ha).mono fun e w' ⟨v,he,h',ρ',hp',n',r',⟨e1,e2⟩,hh,hr,hm,hrel,hk,hl⟩=>?_⟩
 obtain ⟨h2,a1,a2,a3⟩:=hm.shutL (h:=h') (rcells r')
 have r2:=cvR_rel a2 (hrel.mono a1 (RLe.refl _)) e2
 have m2:=SatH.cut e1 a2 hs.free
 exact ⟨v,he,h2,hh.trans a1,SatH.back hr hs m2,r2,hk⟩
theorem meetsF {P : Program} {f : FuncId} {fn : Func} {k : CC} {rs : List RS} (hf : P.funcs[f]? = some fn) (hnm : (fn.name == "runtime.NumGoroutine") = false)
  (hc:fn.body.bind (ccode P fn.ntmps)=some k.erase) (hrs:rsv P fn.ntmps fn.results.toList=some rs) {hp:CH} {n:Nat} {args:List AV} {r:AV} (hlen:Nat.ble args.length fn.ntmps=true)
  (hv:(∀k,n≤k→gc hp k=.no)→vc P k ⟨argEnv 0 args,hp,n⟩ (endQ rs (pureQ hp n r))):MeetsF P f hp n args r:=by
 have hok := (by obtain ⟨c, hb, hc'⟩ := bd hc; exact ⟨fn, hf, hnm, by rw [hb]; rfl⟩ : ∃ fn, P.funcs[f]? = some fn ∧ (fn.name == "runtime.NumGoroutine") = false ∧ fn.body.isNone = false)
 refine ⟨hok,fun h ρ w vs hs ha=>?_⟩
 exact (Meets.toF (meets hf hnm hc hrs hlen (hv hs.free))).2 h ρ w vs hs ha
theorem up_self (n:Nat) (hp:CH):Up n hp hp=True:=by simp [Up.refl]
theorem up_cons {n:Nat} {hp hp':CH} {k:Nat} {c:Chunk} (hk:n≤k):Up n hp ((k,c)::hp')=Up n hp hp':=by
 refine propext ⟨fun h j hj=>?_,fun h=>h.cons c hk⟩
 have:=h j hj
 rwa [gc_ne c hp' (by omega)] at this
attribute [go_sem] up_self up_cons pureQ rcells cvA cvT cvR List.flatMap_cons List.flatMap_nil
/-! ### Loops -/
def Sub (hp hp':CH):Prop:=∀k,gc hp' k=gc hp k∨gc hp' k=.no
theorem Sub.base {n:Nat} {B hp:CH} (hf:∀k,n≤k→gc B k=.no) (hu:Up n B hp):Sub hp B:=fun k=>by
 rcases Nat.lt_or_ge k n with h | h
 .exact .inl (hu k h).symm
 .exact .inr (hf k h)
theorem Sub.cons {hp hp':CH} {k:Nat} {c:Chunk} (h:gc hp k=c) (s:Sub hp hp'):Sub hp ((k,c)::hp'):=fun j=>by
 by_cases hk:k=j
 .subst hk
  exact .inl (by rw [gc_same];exact h.symm)
 .rw [gc_ne c hp' hk]
  exact s j
theorem Sub.refl (hp:CH):Sub hp hp:=fun _=>.inl rfl
theorem weak_of {env env':EN} {hp hp':CH} {n n':Nat} (he:∀p∈env',ge env p.1=p.2∨p.2=.un) (hh:Sub hp hp') (hn:n≤n'):Weak ⟨env,hp,n⟩ ⟨env',hp',n'⟩:=by
 rintro C a w ⟨h,ρ,s⟩
 have hgen:∀k g,(gc hp' k).own g→gc hp' k=gc hp k:=by
  intro k g e
  rcases hh k with h1 | h1
  .exact h1
  .rw [h1] at e;cases e
 have hl:∀b,live ρ hp' b→live ρ hp b:=fun b ⟨k,g,c,e,r⟩=>⟨k,g,c,by rw [←hgen k g e];exact e,r⟩
 refine ⟨h,ρ,s.hle,s.rle,s.keep,fun b hb=>s.own b (hl b hb),?_,fun t ht=>?_,s.size,s.defers⟩
 .have m:=s.mem
  refine ⟨m.hh,fun k=>?_,fun k k' g g' b c c' e e' r r'=>m.inj k k' g g' b c c' (by show (gc hp k).own _;rw [←hgen k g e];exact e) (by show (gc hp k').own _;rw [←hgen k' g' e'];exact e') r r',fun b hb=>m.hid b (hl b hb),fun b hb=>m.lt b (hl b hb),fun k g hk=>m.fr k g (Nat.le_trans hn hk),fun k g g' x e r=>?_,m.gl⟩
  .show (gc hp' k).sat h ρ w k
   rcases hh k with h1 | h1
   .rw [h1];exact m.ch k
   .rw [h1];trivial
  .have:=hgen k g (Chunk.gen_own (Chunk.rgen_gen e))
   exact m.gens k g g' x (by show (gc hp k).rgen=_;rw [←this];exact e) r
 .obtain ⟨v,h1,h2⟩:=s.env t ht
  refine ⟨v,h1,?_⟩
  have key:∀(l:EN),(∀p∈l,ge env p.1=p.2∨p.2=.un)→ge l t=.un∨ge env t=ge l t:=by
   intro l
   induction l with
   | nil=>intro _;exact .inl rfl
   | cons p l ih =>
    intro hp
    obtain ⟨u,α⟩:=p
    simp only [ge]
    by_cases hu:u=t
    .subst hu
     rw [if_pos rfl]
     rcases hp (u,α) (by simp) with h | h
     .exact .inr h
     .exact .inl h
    .rw [if_neg hu]
     exact ih fun q hq=>hp q (by simp [hq])
  rcases key env' he with h | h
  .show Rel _ _ (ge env' t) v
   rw [h]
   exact .pu _ _ (.un _)
  .show Rel _ _ (ge env' t) v
   rw [←h]
   exact h2
def loopQ {ι:Type} (I:ι→St) (φ:ι→Prop) (μ:ι→Nat) (i:ι) (Q:Exit→St→Prop):Exit→St→Prop
 | .normal,s=>∃j,φ j∧μ j<μ i∧Weak s (I j)
 | e,s=>Q e s
theorem vcLoop_of {ι:Type} {F:St→(Exit→St→Prop)→Prop} (hF:∀s Q Q',(∀e s,Q e s→Q' e s)→F s Q→F s Q') (I:ι→St) (φ:ι→Prop) (μ:ι→Nat) (i0:ι) {st:St} {Q:Exit→St→Prop} (h1:φ i0) (h0:Weak st (I i0))
  (hs:∀i,φ i→F (I i) (loopQ I φ μ i Q)):vcLoop F st Q:=by
 refine ⟨fun m s=>∃i,φ i∧μ i=m∧s=I i,⟨μ i0,I i0,⟨i0,h1,rfl,rfl⟩,h0⟩,?_⟩
 rintro m s ⟨i,hi,rfl,rfl⟩
 refine hF _ _ _ (fun e s h=>?_) (hs i hi)
 cases e with
 | normal =>
  obtain ⟨j,a,b,c⟩:=h
  exact ⟨μ j,I j,b,⟨j,a,rfl,rfl⟩,c.g⟩
 | _=>exact h
def loopG {ι:Type} (I:ι→St) (φ:ι→Prop) (μ:ι→Nat) (i:ι) (Q:Exit→St→Prop):Exit→St→Prop
 | .normal,s=>∃j,φ j∧μ j<μ i∧WeakG (I i) s (I j)
 | e,s=>Q e s
theorem vcLoop_ofG {ι:Type} {F:St→(Exit→St→Prop)→Prop} (hF:∀s Q Q',(∀e s,Q e s→Q' e s)→F s Q→F s Q') (I:ι→St) (φ:ι→Prop) (μ:ι→Nat) (i0:ι) {st:St} {Q:Exit→St→Prop} (h1:φ i0) (h0:Weak st (I i0))
  (hs:∀i,φ i→F (I i) (loopG I φ μ i Q)):vcLoop F st Q:=by
 refine ⟨fun m s=>∃i,φ i∧μ i=m∧s=I i,⟨μ i0,I i0,⟨i0,h1,rfl,rfl⟩,h0⟩,?_⟩
 rintro m s ⟨i,hi,rfl,rfl⟩
 refine hF _ _ _ (fun e s h=>?_) (hs i hi)
 cases e with
 | normal =>
  obtain ⟨j,a,b,c⟩:=h
  exact ⟨μ j,I j,b,⟨j,a,rfl,rfl⟩,c⟩
 | _=>exact h
def AV.und (n:Nat):AV→Prop
 | .bx k _=>k<n
 | .rw k _ _=>k<n
 | .mp k=>k<n
 | .ep α _ _ _=>α.und n
 | .ag l=>undL n l
 | .tp l=>undL n l
 | .fn _ l=>undL n l
 | .fc _ x=>x.und n
 | .gd _ x=>x.und n
 | _=>True
where
 undL (n:Nat):List AV→Prop
  | []=>True
  | α::r=>α.und n∧undL n r
theorem undL_get {n:Nat}:∀{l:List AV},AV.und.undL n l→∀(j:Nat) α,l[j]?=some α→α.und n
 | [],_,j,α,h=>by simp at h
 | x::r,hb,0,α,h=>by simp at h;subst h;exact hb.1
 | x::r,hb,j+1,α,h=>undL_get hb.2 j α (by simpa using h)
def ROx (ρ:RO) (n:Nat):RO:=fun k g=>if k<n then ρ k g else none
theorem ROx_lt {ρ:RO} {n k:Nat} (h:k<n) (g:Nat):ROx ρ n k g=ρ k g:=by simp [ROx,h]
theorem ROx_some {ρ:RO} {n k g:Nat} {x:Option Nat × Nat} (h:ROx ρ n k g=some x):ρ k g=some x∧k<n:=by
 unfold ROx at h
 split at h
 .exact ⟨h,by assumption⟩
 .cases h
theorem Rel.cut {h:HP} {ρ:RO} {n:Nat} {α:AV} {v:Value} (r:Rel h ρ α v):α.und n→Rel h (ROx ρ n) α v:=by
 induction r with
 | pu α v p=>intro _;exact .pu α v p
 | ag l vs e _ ih=>intro hb;exact .ag l vs e fun j α v h1 h2=>ih j α v h1 h2 (undL_get hb j α h1)
 | tp l vs e _ ih=>intro hb;exact .tp l vs e fun j α v h1 h2=>ih j α v h1 h2 (undL_get hb j α h1)
 | bx k off b c e=>intro hb;exact .bx k off b c (by rw [ROx_lt hb];exact e)
 | rw k g len cap a ob e hl ha=>intro hb;exact .rw k g len cap a ob (by rw [ROx_lt hb];exact e) hl ha
 | ep α n i off b o len cap _ hi ih=>intro hb;exact .ep α n i off b o len cap (ih hb) hi
 | mp k b c e=>intro hb;exact .mp k b c (by rw [ROx_lt hb];exact e)
 | fn f l vs e _ ih=>intro hb;exact .fn f l vs e fun j α v h1 h2=>ih j α v h1 h2 (undL_get hb j α h1)
 | fc t x v _ ih=>intro hb;exact .fc t x v (ih hb)
 | gd c x v _ hf ih=>intro hb;exact .gd c x v (fun q=>ih q hb) hf
def Chunk.und (n:Nat):Chunk→Prop
 | .bx cs=>AV.und.undL n cs
 | .rn _ _ l=>∀x∈l,AV.und.undL n x
 | _=>True
theorem Chunk.cut {h:HP} {ρ:RO} {w:World} {n k:Nat} {c:Chunk} (s:c.sat h ρ w k) (hk:k<n) (hb:c.und n):c.sat h (ROx ρ n) w k:=by
 cases c with
 | no=>trivial
 | bx cs =>
  obtain ⟨b,c,vs,e,h1,h2,h3,h4⟩:=s
  exact ⟨b,c,vs,e,by rw [ROx_lt hk];exact h1,h2,h3,fun j α v a1 a2=>(h4 j α v a1 a2).cut (undL_get hb j α a1)⟩
 | rw g n l=>obtain ⟨ob,cap,h1,hx⟩:=s;exact ⟨ob,cap,by rw [ROx_lt hk];exact h1,hx⟩
 | sh g n l=>obtain ⟨ob,cap,h1,hx⟩:=s;exact ⟨ob,cap,by rw [ROx_lt hk];exact h1,hx⟩
 | mp l=>obtain ⟨b,c,es,cl,h1,hx⟩:=s;exact ⟨b,c,es,cl,by rw [ROx_lt hk];exact h1,hx⟩
 | ro cs=>obtain ⟨b,c,vs,e,fr,h1,hx⟩:=s;exact ⟨b,c,vs,e,fr,by rw [ROx_lt hk];exact h1,hx⟩
 | rn g n' l =>
  obtain ⟨ob,cap,h1,h2,h2',h3,h4,h5⟩:=s
  refine ⟨ob,cap,by rw [ROx_lt hk];exact h1,h2,h2',h3,h4,fun b hb'=>?_⟩
  obtain ⟨vs,e,a1,a2,a3⟩:=h5 b hb'
  exact ⟨vs,e,a1,a2,fun j x q α y1 y2=>let ⟨u,z1,z2⟩:=a3 j x q α y1 y2;⟨u,z1,z2.cut (undL_get (hb x (List.mem_of_getElem? y1)) q α y2)⟩⟩
 | sb T e g bs =>
  obtain ⟨b,c,p,v,h1,h2,h3,h4,h5,⟨y,hy⟩,h6⟩:=s
  exact ⟨b,c,p,v,by rw [ROx_lt hk];exact h1,h2,h3,h4,h5,⟨y,by rw [ROx_lt hk];exact hy⟩,fun b2 e2=>⟨(h6 b2 e2).1,let ⟨c2,q⟩:=(h6 b2 e2).2;⟨c2,by rw [ROx_lt hk];exact q⟩⟩⟩
def SubG (n:Nat) (h0 hp hp':CH):Prop:=∀k,gc hp' k=.no∨gc hp k=gc hp' k∧k<n∧((gc hp' k).und n∨gc hp' k=gc h0 k)
theorem SubG.cons {n:Nat} {h0 hp hp':CH} {k:Nat} {c:Chunk} (h:gc hp k=c) (hk:k<n) (hb:c.und n) (s:SubG n h0 hp hp'):SubG n h0 hp ((k,c)::hp'):=fun j=>by
 by_cases q:k=j
 .subst q
  exact .inr ⟨by rw [gc_same];exact h,hk,.inl (by rw [gc_same];exact hb)⟩
 .rw [gc_ne c hp' q]
  exact s j
theorem SubG.base {n m:Nat} {B h0 hp:CH} (hf:∀k,m≤k→gc B k=.no) (hm:m≤n) (h1:Up m B h0) (h2:Up m B hp):SubG n h0 hp B:=fun k=>by
 rcases Nat.lt_or_ge k m with h | h
 .exact .inr ⟨h2 k h,Nat.lt_of_lt_of_le h hm,.inr (h1 k h).symm⟩
 .exact .inl (hf k h)
theorem weakG_of {env0 env env':EN} {hp0 hp hp':CH} {n0 n:Nat} (he:∀p∈env',(ge env p.1=p.2∧p.2.und n0)∨p.2=.un) (hh:SubG n0 hp0 hp hp'):WeakG ⟨env0,hp0,n0⟩ ⟨env,hp,n⟩ ⟨env',hp',n0⟩:=by
 rintro C a w m0 ⟨h,ρ,s⟩
 have hgen:∀k g,(gc hp' k).own g→gc hp' k=gc hp k:=by
  intro k g e
  rcases hh k with h1 | h1
  .rw [h1] at e;cases e
  .exact h1.1.symm
 have hl:∀b,live (ROx ρ n0) hp' b→live ρ hp b:=fun b ⟨k,g,c,e,r⟩=>⟨k,g,c,by rw [←hgen k g e];exact e,(ROx_some r).1⟩
 have hr0:RLe C.ρ0 (ROx ρ n0):=fun k g x e=>by
  have:k<n0:=by
   rcases Nat.lt_or_ge k n0 with q | q
   .exact q
   .have:=m0.fr k g q
    rw [this] at e
    cases e
  rw [ROx_lt this]
  exact s.rle _ _ _ e
 refine ⟨h,ROx ρ n0,s.hle,hr0,s.keep,fun b hb=>s.own b (hl b hb),?_,fun t ht=>?_,s.size,s.defers⟩
 .have m:=s.mem
  refine ⟨m.hh,fun k=>?_,fun k k' g g' b c c' e e' r r'=>m.inj k k' g g' b c c' (by show (gc hp k).own _;rw [←hgen k g e];exact e) (by show (gc hp k').own _;rw [←hgen k' g' e'];exact e') (ROx_some r).1 (ROx_some r').1,fun b hb=>m.hid b (hl b hb),fun b hb=>m.lt b (hl b hb),fun k g hk=>?_,fun k g g' x e r=>?_,m.gl⟩
  .show (gc hp' k).sat h _ w k
   rcases hh k with h1 | ⟨h1,h2,h3⟩
   .rw [h1];trivial
   .have ms:(gc hp k).sat h ρ w k:=m.ch k
    rw [h1] at ms
    rcases h3 with h3 | h3
    .exact Chunk.cut ms h2 h3
    .have m1:(gc hp0 k).sat C.h0 C.ρ0 C.w0 k:=m0.ch k
     rw [←h3] at m1
     exact Chunk.sat_mono (HLe.refl _) hr0 (fun _ _ _ _ _=>rfl) (Chunk.back s.rle m1 ms)
  .simp [ROx,Nat.not_lt.2 hk]
  .have:=hgen k g (Chunk.gen_own (Chunk.rgen_gen e))
   exact m.gens k g g' x (by show (gc hp k).rgen=_;rw [←this];exact e) (ROx_some r).1
 .obtain ⟨v,h1,h2⟩:=s.env t ht
  refine ⟨v,h1,?_⟩
  have key:∀(l:EN),(∀p∈l,(ge env p.1=p.2∧p.2.und n0)∨p.2=.un)→ge l t=.un∨ge env t=ge l t∧(ge l t).und n0:=by
   intro l
   induction l with
   | nil=>intro _;exact .inl rfl
   | cons p l ih =>
    intro hp
    obtain ⟨u,α⟩:=p
    simp only [ge]
    by_cases hu:u=t
    .subst hu
     rw [if_pos rfl]
     rcases hp (u,α) (by simp) with h | h
     .exact .inr h
     .exact .inl h
    .rw [if_neg hu]
     exact ih fun q hq=>hp q (by simp [hq])
  rcases key env' he with h | ⟨h,hb⟩
  .show Rel _ _ (ge env' t) v
   rw [h]
   exact .pu _ _ (.un _)
  .show Rel _ _ (ge env' t) v
   have h2':Rel _ _ (ge env t) v:=h2
   rw [h] at h2'
   exact h2'.cut hb
section
variable {P:Program}
theorem vcRun_mono {k0:Nat} {o:CO} {st:St} {K K':St→Prop} (h:∀s,K s→K' s) (hv:vcRun P k0 o st K):vcRun P k0 o st K':=by
 obtain ⟨h1,h2⟩:=hv
 refine ⟨h1,?_⟩
 obtain ⟨d,op,g⟩:=o
 cases op
 case al z=>exact h _ h2
 case bo x =>
  simp only at h2 ⊢
  split at h2
  .rename_i e;exact h _ h2
  .exact h2.elim
 case mk=>exact h _ h2
 case alb=>exact h _ h2
 case mu x s y =>
  simp only at h2 ⊢
  unfold muK at h2 ⊢
  split at h2
  .split at h2
   .exact ⟨h2.1,h _ h2.2⟩
   .exact h2.elim
  .exact h2.elim
 case nl neg x =>
  simp only at h2 ⊢
  unfold nlK at h2 ⊢
  split at h2
  .exact ⟨fun e=>h _ (h2.1 e),h _ h2.2⟩
  .exact ⟨fun e=>h _ (h2.1 e),h _ h2.2⟩
  .exact ⟨h _ h2.1,h _ h2.2⟩
  .exact h2.elim
 case st x y m =>
  simp only at h2 ⊢
  split at h2
  .obtain ⟨a,b,c⟩:=h2
   refine ⟨a,b,?_⟩
   unfold stK at c ⊢
   split at c
   .split at c
    .exact ⟨c.1,h _ c.2⟩
    .exact c.elim
   .split at c
    .obtain ⟨c1,e,c2,c3⟩:=c
     exact ⟨c1,e,c2,h _ c3⟩
    .obtain ⟨c1,e,c2,c3⟩:=c
     exact ⟨c1,e,c2,h _ c3⟩
    .exact c.elim
   .exact c.elim
  .exact h2.elim
 case bs fz n ps =>
  simp only at h2 ⊢
  split at h2
  .split at h2
   .exact h _ h2
   .exact h2.elim
  .split at h2
   .split at h2
    .rename_i hf;rw [if_pos hf];exact h _ h2
    .rename_i hf;rw [if_neg hf];exact h _ h2
   .exact h2.elim
 case ap x y n b =>
  simp only at h2 ⊢
  split at h2
  .obtain ⟨a,b,c,d⟩:=h2
   refine ⟨a,b,c,?_⟩
   split at d
   .exact h _ d
   .exact d.elim
  .split at h2
   .obtain ⟨a,b,c,d⟩:=h2
    refine ⟨a,b,c,?_⟩
    split at d
    .exact h _ d
    .exact d.elim
   .exact h2.elim
 case aps x y =>
  simp only at h2 ⊢
  split at h2
  .obtain ⟨a,d⟩:=h2
   refine ⟨a,?_⟩
   split at d
   .exact h _ d
   .exact d.elim
  .exact h2.elim
 case ms l c n b z =>
  simp only at h2 ⊢
  split at h2
  .obtain ⟨a1,a2,a3,a4,a5,a6,a7⟩:=h2
   exact ⟨a1,a2,a3,a4,a5,a6,h _ a7⟩
  .exact h2.elim
 case cl f xs =>
  obtain ⟨R,a,b⟩:=h2
  exact ⟨R,a,fun hp' n' r hr=>h _ (b hp' n' r hr)⟩
 case cc f xs =>
  simp only at h2 ⊢
  split at h2
  .obtain ⟨R,a,b⟩:=h2
   exact ⟨R,a,fun hp' n' r hr=>h _ (b hp' n' r hr)⟩
  .exact h2.elim
 all_goals exact valK_mono (fun α=>h _) h2
theorem vcOp1_mono {o:CO} {st:St} {K K':St→Prop} (h:∀s,K s→K' s) (hv:vcOp1 P o st K):vcOp1 P o st K':=by
 have hg:∀G,vcG P o st G K→vcG P o st G K':=by
  intro G hv
  unfold vcG at *
  split at hv
  .rename_i hs
   rw [if_pos hs]
   exact ⟨hv.1,hv.2.1,hv.2.2.1,h _ hv.2.2.2⟩
  .rename_i hs
   rw [if_neg hs]
   split at hv
   .rename_i f xs ho
    refine ⟨hv.1,?_⟩
    rcases hv.2 with ⟨r,m,k⟩ | h2
    .exact .inl ⟨r,m,h _ k⟩
    .exact .inr ⟨fun e=>(let ⟨R,hm,hk⟩:=h2.1 e;⟨R,hm,fun a b c d=>h _ (hk a b c d)⟩),fun e=>h _ (h2.2 e)⟩
   .exact ⟨fun e=>vcRun_mono h (hv.1 e),fun e=>h _ (hv.2 e)⟩
 unfold vcOp1 at *
 split at hv
 .exact vcRun_mono h hv
 .split at hv
  .exact hg _ hv
  .exact hg _ hv
  .exact hg _ hv
  .exact hv
theorem vcFz_mono {o:CO} {st:St} {K K':St→Prop} (h:∀s,K s→K' s) (hv:vcFz P o st K):vcFz P o st K':=by
 unfold vcFz at *
 split at hv
 .split at hv
  .exact vcRun_mono h hv
  .refine ⟨hv.1,?_⟩
   replace hv:=hv.2
   split at hv
   .refine ⟨hv.1,hv.2.1,hv.2.2.1,?_⟩
    replace hv:=hv.2.2.2
    split at hv
    .split at hv
     .exact ⟨hv.1,h _ hv.2⟩
     .exact hv.elim
    .exact hv.elim
   .exact hv.elim
 .exact vcRun_mono h hv
 .exact hv.elim
theorem vcOp_mono {o:CO} {st:St} {K K':St→Prop} (h:∀s,K s→K' s) (hv:vcOp P o st K):vcOp P o st K':=by
 unfold vcOp at *
 split at hv
 .exact vcOp1_mono h hv
 .exact vcFz_mono h hv
theorem vcOps_mono {l:List CO}:∀{st:St} {K K':St→Prop},(∀s,K s→K' s)→vcOps P l st K→vcOps P l st K':=by
 induction l with
 | nil=>intro st K K' h hv;exact h _ hv
 | cons o r ih=>intro st K K' h hv;exact vcOp_mono (fun s hs=>ih h hs) hv
theorem vc_mono:∀(c:CC) (st:St) (Q Q':Exit→St→Prop),(∀e s,Q e s→Q' e s)→vc P c st Q→vc P c st Q':=by
 intro c
 induction c with
 | skip=>intro st Q Q' h hv;exact h _ _ hv
 | rg l=>intro st Q Q' h hv;exact vcOps_mono (h _) hv
 | dr l dp=>intro st Q Q' h hv;exact vcD2_mono l _ _ _ _ _ _ (fun e hp hk=>h _ _ hk) hv
 | sq a b iha ihb =>
  intro st Q Q' h hv
  refine iha st _ _ (fun e s hs=>?_) hv
  cases e with
  | normal=>exact ihb s _ _ h hs
  | _=>exact h _ _ hs
 | sqw a b iha ihb =>
  intro st Q Q' h hv
  refine iha st _ _ (fun e s hs=>?_) hv
  cases e with
  | normal =>
   obtain ⟨s2,hw,k⟩:=hs
   exact ⟨s2,hw,ihb s2 _ _ h k⟩
  | _=>exact h _ _ hs
 | cd c a b iha ihb =>
  intro st Q Q' h hv
  obtain ⟨h1,h2⟩:=hv
  refine ⟨h1,?_⟩
  split at h2
  .exact ⟨fun e=>iha st _ _ h (h2.1 e),fun e=>ihb st _ _ h (h2.2 e)⟩
  .exact h2.elim
 | bl id c ih =>
  intro st Q Q' h hv
  refine ih st _ _ (fun e s hs=>?_) hv
  cases e with
  | exit i =>
   simp only at hs ⊢
   split
   .rename_i hi;rw [if_pos hi] at hs;exact h _ _ hs
   .rename_i hi;rw [if_neg hi] at hs;exact h _ _ hs
  | _=>exact h _ _ hs
 | lp c ih =>
  intro st Q Q' h ⟨I,h1,h2⟩
  refine ⟨I,h1,fun m s hI=>ih s _ _ (fun e s' hs=>?_) (h2 m s hI)⟩
  cases e with
  | normal=>exact hs
  | _=>exact h _ _ hs
 | ex id=>intro st Q Q' h hv;exact h _ _ hv
 | rt=>intro st Q Q' h hv;exact h _ _ hv
theorem loop {ι:Type} {c:CC} (I:ι→St) (φ:ι→Prop) (μ:ι→Nat) (i0:ι) {st:St} {Q:Exit→St→Prop} (h1:φ i0) (h0:Weak st (I i0)) (hs:∀i,φ i→vc P c (I i) (loopQ I φ μ i Q)):vcLoop (vc P c) st Q :=
 vcLoop_of (fun s Q Q' h=>vc_mono c s Q Q' h) I φ μ i0 h1 h0 hs
theorem loopg {ι:Type} {c:CC} (I:ι→St) (φ:ι→Prop) (μ:ι→Nat) (i0:ι) {st:St} {Q:Exit→St→Prop} (h1:φ i0) (h0:Weak st (I i0)) (hs:∀i,φ i→vc P c (I i) (loopG I φ μ i Q)):vcLoop (vc P c) st Q :=
 vcLoop_ofG (fun s Q Q' h=>vc_mono c s Q Q' h) I φ μ i0 h1 h0 hs
end
attribute [go_sem] loopQ loopG
end Go.Eng
