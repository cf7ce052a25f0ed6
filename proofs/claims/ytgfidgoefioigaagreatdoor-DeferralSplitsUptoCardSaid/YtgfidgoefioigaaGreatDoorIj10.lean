/- Proof. Conditions: none. -/
import Derived.Test.YtgfidgoefioigaaGreatDoorIj9
open Option renaming some->zm,map_eq_some_iff->z1h
open Nat renaming max_eq_left->z3k
namespace Go.Eng
set_option linter.all false
section
variable {hp:CH} {U:AV} {N id:Nat} {P:Program}
/-! ### One operation -/
theorem Vh (h:U.pur=true):D7 hp U=D7 [] U∧shutC hp U=hp:=by
 cases U<;>first
  | exact ⟨rfl,rfl⟩
  | (simp [AV.pur] at h;done)
theorem Nn {hp:CH}:∀{l:List AV},l.all AV.pur=true->EI hp l=EI [] l∧shutL hp l=hp
 | [],_=>⟨rfl,rfl⟩
 | U::r,h=>by
  simp only [List.all_cons,Bool.and_eq_true] at h
  obtain ⟨e1,e2⟩:=Vh (hp:=hp) h.1
  obtain ⟨e3,e4⟩:=Nn (hp:=hp) h.2
  refine ⟨?_,?_⟩
  .unfold EI
   rw [e1,e3]
  .show shutL (shutC hp U) r=hp
   rw [e2,e4]
theorem Agr (h:Pf U=true) {cs:List AV} (e:U.cl=some cs):cs.all AV.pur=true:=by
 cases U<;>simp [Pf,AV.pur] at h<;>simp [AV.cl,AV.one] at e<;>first
  | (subst e;simp [AV.pur,h];done)
  | (obtain ⟨_,e⟩:=e;subst e;simp [AV.pur,h];done)
  | (subst e;simpa using h)
theorem Nh {hp:CH} {n:Nat}:∀{l:List AV},l.all Pf=true->CG hp n l=CG [] n l∧shutP hp l=hp
 | [],_=>⟨rfl,rfl⟩
 | U::r,h=>by
  simp only [List.all_cons,Bool.and_eq_true] at h
  obtain ⟨e3,e4⟩:=Nh (hp:=hp) (n:=n) h.2
  cases hc:U.cl with
  |none=>
   refine ⟨?_,?_⟩
   .unfold CG;rw [hc]
   .unfold shutP;rw [hc];exact e4
  |some cs=>
   obtain ⟨e1,e2⟩:=Nn (hp:=hp) (Agr h.1 hc)
   refine ⟨?_,?_⟩
   .unfold CG
    rw [hc,e3]
    cases CG [] n r with
    |none=>rfl
    |some l=>simp only [e1]
   .unfold shutP;rw [hc];show shutP (shutL hp cs) r=hp;rw [e2,e4]
theorem Yk {n:Nat} {x:AV} {l2:List (List AV)} {kc:Nat×Ak} {z:Nat} (hid:id<N) (h:HQ hp 0 id n x l2=some (U,kc,z)):HQ hp N id n x l2=some (U,kc,N):=by
 cases x with
 |rw k g len=>
  cases hg:gc hp k with
  |rw g' n' l=>
   simp only [HQ,hg] at h ⊢
   split at h
   .rename_i hc
    cases h
    rw [if_pos hc]
   .cases h
  |rc g' n' cap l=>
   simp only [HQ,hg] at h ⊢
   split at h
   .rename_i hc
    rw [if_pos hc]
    simp only [zm.injEq] at h ⊢
    split at h
    .rename_i h2
     cases h
     rw [if_pos h2]
    .rename_i h2
     cases h
     rw [if_neg h2,z3k (by omega)]
   .cases h
  |_=>
   simp only [HQ,hg] at h
   cases h
 |e0=>
  simp only [HQ] at h ⊢
  cases h
  rw [z3k (by omega)]
 |rf k g n' off len=>
  cases hg:gc hp k with
  |rc g' n2 cap l=>
   simp only [HQ,hg] at h ⊢
   split at h
   .rename_i hc
    rw [if_pos hc]
    simp only [zm.injEq] at h ⊢
    split at h
    .rename_i h2
     cases h
     rw [if_pos h2]
    .rename_i h2
     cases h
     rw [if_neg h2,z3k (by omega)]
   .cases h
  |_=>
   simp only [HQ,hg] at h
   cases h
 |_=>cases h
theorem Z8 {o:CO} {env:EN} (hid:id<N) (hc:o.op.isC=false) (AZ:o.op.obsB env true) (hP:o.op.effP hp fun s=>Bf (s.ev env))
 {U:AV} {ws:CH} {R:List Nat} (he:o.op.eff hp (fun s=>Bf (s.ev env)) id=some (U,ws,R)):D9 P id { o with fz:=false } ⟨env,hp,N⟩ fun c8=>c8=⟨EN.set env o.dst U,ws++hp,N⟩:=by
 have hmx:max N (id+1)=N:=z3k hid
 obtain ⟨d,op,g⟩:=o
 refine ⟨AZ,?_⟩
 simp only at he hP hc
 by_cases hv:op.isV=true
 .have e:op.eff hp (fun s=>Bf (s.ev env)) id=match op.val hp (fun s=>Bf (s.ev env)) with
   |some U=>some (U,[],op.rd fun s=>Bf (s.ev env))
   |none=>none:=by cases op<;>first | rfl | (simp [Au.isV] at hv)
  have e2:op.effP hp (fun s=>Bf (s.ev env))=op.pre hp fun s=>Bf (s.ev env):=by cases op<;>first | rfl | (simp [Au.isV] at hv)
  rw [e] at he
  rw [e2] at hP
  cases hx:op.val hp (fun s=>Bf (s.ev env)) with
  |none=>rw [hx] at he;cases he
  |some β=>
   rw [hx] at he
   cases he
   have:IV hp (fun s=>Bf (s.ev env)) op fun α'=>(⟨EN.set env d α',hp,N⟩:St)=⟨EN.set env d U,[]++hp,N⟩:=OQ hP hx rfl
   cases op<;>first | exact this | (simp [Au.isV] at hv)
 .cases op
  case al z=>cases he;simp [hmx]
  case bo x=>
   simp only [Au.eff] at he
   split at he
   .rename_i c0 h1
    cases he
    simp [h1,hmx]
   .cases he
  case nl=>cases he
  case mk=>cases he;simp [hmx]
  case mpg=>cases he
  case mpn=>cases he
  case mpe=>cases he
  case mpd=>cases he
  case clr=>cases he
  case alb=>cases he;simp [hmx]
  case mu x s y=>
   simp only [Au.eff] at he
   split at he
   .rename_i k b h1 h2
    split at he
    .rename_i l hk
     cases he
     simp only [Au.effP] at hP
     simp only [h1,h2,muK,hk]
     exact ⟨hP,rfl⟩
    .cases he
   .cases he
  case st x y m=>
   simp only [Au.eff] at he
   split at he
   .rename_i c0 k off h1 h2
    split at he
    .rename_i old hk
     cases he
     simp only [Au.effP,h1,h2,hk] at hP
     simp only [h1,stK,h2,hk]
     exact ⟨hP.1,hP.2.1,hP.2.2,rfl⟩
    .cases he
   .rename_i c0 k g len n i off h1 h2
    split at he
    .rename_i g' n' l hk
     split at he
     .rename_i e hl
      cases he
      simp only [Au.effP,h1,h2,hk] at hP
      simp only [h1,stK,h2,hk]
      exact ⟨hP.1,hP.2.1,hP.2.2,e,hl,rfl⟩
     .cases he
    .rename_i g' n' l hk
     split at he
     .rename_i e hl
      cases he
      simp only [Au.effP,h1,h2,hk] at hP
      simp only [h1,stK,h2,hk]
      exact ⟨hP.1,hP.2.1,hP.2.2,e,hl,rfl⟩
     .cases he
    .cases he
   .cases he
  case bs fz n ps=>
   simp only [Au.effP] at hP
   obtain ⟨p1,p2⟩:=Nh (hp:=hp) (n:=n) hP
   simp only [Au.eff] at he
   simp only
   rw [p2,p1]
   split at he
   .rename_i l hl
    split at he
    .rename_i hf
     cases he
     rw [if_pos hf]
     rfl
    .rename_i hf
     cases he
     rw [if_neg hf,hmx]
     rfl
   .cases he
  case ap x y n bytes=>
   simp only [Au.eff] at he
   split at he
   .rename_i l2 h1
    split at he
    .rename_i α' kc z h2
     cases he
     simp only [Au.effP,h1] at hP
     simp only [Y0,h1,Yk hid h2]
     exact ⟨hP.1,hP.2.1,hP.2.2,rfl⟩
    .cases he
   .cases he
  case aps x y=>
   simp only [Au.eff] at he
   split at he
   .rename_i b h1
    split at he
    .rename_i α' kc z h2
     cases he
     simp only [Au.effP,h1] at hP
     simp only [h1,Yk hid h2]
     exact ⟨hP,rfl⟩
    .cases he
   .cases he
  case ms l c n bytes z=>
   simp only [Au.eff] at he
   split at he
   .rename_i kk x h1
    cases he
    simp only [Au.effP,h1] at hP
    simp only [h1]
    split at hP
    .rename_i k1 x' k2 y e1 e2
     cases e1
     obtain ⟨q1,q2,q3,q4,q5,q6⟩:=hP
     exact ⟨q1,q2,q3,q4,q5,q6,by rw [hmx];rfl⟩
    .exact hP.elim
   .cases he
  all_goals first
   | (simp [Au.isC] at hc;done)
   | simp [Au.isV] at hv
theorem HL {C:Ctx} {st:St} {h:HP} {J:RO} {a:Act} {w:World} (S:Sat C st h J a w) {p:Prop} (hp:p) {d4:List Oper} {o:Oper} {c:Au} (hc:PT P C.N d4 o=some c) (AZ:c.obs st.env p) :
 (∀f xs,c=.cl f xs->∃vs,Bx h J (xs.map fun s=>Bf (s.ev st.env)) vs∧(execOp a.eval o).run P w=(callFunc f vs.toArray).run P w) ∧
 (∀f xs g i8,c=.cc f xs->Bf (f.ev st.env)=.fn g i8->∃vs,Bx h J (xs.map (fun s=>Bf (s.ev st.env))++i8) vs∧(execOp a.eval o).run P w=(callFunc g vs.toArray).run P w):=by
 by_cases hC:c.isC=true
 .have key:∃cc,o.op=.call cc:=by
   unfold PT at hc
   split at hc
   all_goals first
    | exact ⟨_, by assumption⟩
    | (exfalso
       repeat' (split at hc)
       all_goals first
        | (cases hc;done)
        | (cases hc;cases hC;done)
        | (unfold nlC at hc;split at hc<;>(cases hc<;>cases hC);done)
        | (rcases Sj hc with ⟨_,_,rfl⟩ | ⟨_,rfl,_⟩<;>cases hC;done)
        | (obtain ⟨_,_,rfl⟩:=z1h.1 hc;cases hC;done))
  obtain ⟨cc,ho⟩:=key
  simp only [PT,ho] at hc
  split at hc
  .exfalso
   repeat' (split at hc)
   all_goals first
    | (cases hc;done)
    | (cases hc;cases hC;done)
  .exfalso
   repeat' (split at hc)
   all_goals first
    | (cases hc;done)
    | (cases hc;cases hC;done)
    | (obtain ⟨_,_,rfl⟩:=z1h.1 hc;cases hC;done)
  .exfalso
   repeat' (split at hc)
   all_goals first
    | (cases hc;done)
    | (cases hc;cases hC;done)
  .exfalso
   repeat' (split at hc)
   all_goals first
    | (cases hc;done)
    | (cases hc;cases hC;done)
  .exfalso
   repeat' (split at hc)
   all_goals first
    | (cases hc;done)
    | (cases hc;cases hC;done)
  .exfalso
   repeat' (split at hc)
   all_goals first
    | (cases hc;done)
    | (cases hc;cases hC;done)
    | (obtain ⟨_,_,rfl⟩:=z1h.1 hc;cases hC;done)
  .rename_i f j8
   refine ⟨fun f' xs e=>?_,fun f' xs g i8 e=>?_⟩
   .cases ea:srcs C.N cc.args.toList with
    | none => simp [ea] at hc
    |some l=>
     simp [ea] at hc
     subst hc
     cases e
     have r:=ED S hp ea AZ
     refine ⟨_,r,?_⟩
     have em:cc.args.map a.eval=(cc.args.toList.map a.eval).toArray:=by apply Array.ext';simp
     simp [execOp,ho,resolve,j8,Act.eval,Deferred.ofValue,invoke]
     rw [em]
   .cases ea:srcs C.N cc.args.toList with
    | none => simp [ea] at hc
    | some l => simp [ea] at hc; subst hc; cases e
  .rename_i f _ j8
   refine ⟨fun f' xs e=>?_,fun f' xs g i8 e hg=>?_⟩
   .split at hc
    .cases hc;cases e
    .cases hc
   .split at hc
    .rename_i sx l ex el
     cases hc
     cases e
     have rf:=A1 S hp ex AZ.1
     rw [hg] at rf
     obtain ⟨cs,ev,rcs⟩:=rf.func
     have r:=ED S hp el AZ.2
     refine ⟨(cc.args.toList.map a.eval)++cs,⟨by have h1:=r.1;have h2:=rcs.1;simp at h1 ⊢;omega,fun j U v g1 g2=>?_⟩,?_⟩
     .rw [List.getElem?_append] at g1 g2
      have hl:=r.1
      rw [hl] at g1
      split at g1
      .rename_i hj
       rw [if_pos hj] at g2
       exact r.2 j U v g1 g2
      .rename_i hj
       rw [if_neg hj] at g2
       exact rcs.2 _ U v g1 g2
     .have em:cc.args.map a.eval++cs.toArray=((cc.args.toList.map a.eval)++cs).toArray:=by apply Array.ext';simp
      simp [execOp,ho,resolve,j8,ev,Deferred.ofValue,invoke]
      rw [em]
    .cases hc
  .cases hc
 .refine ⟨fun f xs e => ?_, fun f xs g i8 e => ?_⟩ <;> (subst e; exact absurd rfl hC)
end
section
variable {P:Program} {C:Ctx}
section
variable {env:EN} {hp ws:CH} {N1 n0 id i:Nat} {h:HP} {J:RO} {a:Act} {w:World} {o:Oper} {g:FuncId} {args:List AV} {vs:List Value} {ks R:List Nat} {U:AV} {d4:List Oper} {d:DO} {c:Bool}
theorem SX (S:Sat C ⟨env,hp,N1⟩ h J a w) (hr:Bx h J args vs)
 (hx:(execOp a.eval o).run P w=(callFunc g vs.toArray).run P w) {r β:AV} (m:Af P g hp N1 args r) (hβ:∀h v,Bq h r v->Bq h β v) (k0:Nat) (Q:Exit->Act->World->Prop) :
 o.wp P a w (fun a' w'=>∃h' ρ',Sat C ⟨EN.set env o.dst β,[]++hp,N1⟩ h' ρ' a' w'∧Fr J ρ' k0) Q:=by
 obtain ⟨⟨fn,hf,FN,hb⟩,hm⟩:=m
 have:(execOp a.eval o).run P w=.ok (.enter g vs.toArray) w:=by
  rw [hx]
  simp only [callFunc,Sem.run_bind,run_program,Result.andThen_ok,hf,FN,hb]
  rfl
 unfold Oper.wp
 rw [this]
 refine (hm h J w vs S.mem hr).mono fun e w' ⟨v,he,h',hh,DF,Cr,o9⟩=>?_
 subst he
 exact ⟨h',J,S.step hh (Ck.refl _) DF o9 (fun b hb=>.inl hb) o.dst (.pu _ _ (hβ _ _ Cr)),Fr.refl _ _⟩
theorem It:∀{ws:CH} {k:Nat},JQ hp n0 ks ws->k∈keys ws->k<n0∧nOk (gc hp k)∧∀En,∃c,gc (ws++En) k=c∧cOk ks c
 | (k',c)::r,k,h,hk=>by
  by_cases e:k'=k
  .subst e
   exact ⟨h.1,h.2.1,fun En=>⟨c,Ah,h.2.2.1⟩⟩
  .have QS:k∈keys r:=by
    unfold keys at hk ⊢
    rcases List.mem_cons.1 hk with q | q
    .exact absurd q.symm e
    .exact q
   obtain ⟨h1,h2,h3⟩:=It h.2.2.2 QS
   exact ⟨h1,h2,fun En=>by obtain ⟨c2,g1,g2⟩:=h3 En;exact ⟨c2,(Am e).trans g1,g2⟩⟩
theorem Pn {k:Nat}:∀{ws:CH},¬k∈keys ws->gc (ws++hp) k=gc hp k
 | [],_=>rfl
 | (k',c)::r,h=>by
  have h1:k'≠k:=fun e=>h (by simp [keys,e])
  have h2:¬k∈keys r:=fun e=>h (by unfold keys at e ⊢;simp only [List.map_cons,List.mem_cons];exact .inr e)
  exact (Am h1).trans (Pn h2)
theorem SS {ρ2:RO} {v:Value} (hr:∀k∈ks,∀g,ρ2 k g=J k g) (o:aOk ks U) (r:Ba h J U v):Ba h ρ2 U v:=by
 cases U with
 |rw k g len=>
  cases r with
  |pu _ _ p=>exact .pu _ _ p
  |rw _ _ _ cap a ob e hl ha=>exact .rw _ _ _ _ _ _ ((hr k o g).trans e) hl ha
 |rf k g n off len=>
  cases r with
  |pu _ _ p=>exact .pu _ _ p
  |rf _ _ _ _ _ cap a ob e hl ha=>exact .rf _ _ _ _ _ _ _ _ ((hr k o g).trans e) hl ha
 |mp k=>
  cases r with
  |pu _ _ p=>exact .pu _ _ p
  |mp _ b c e=>exact .mp _ _ _ ((hr k o 0).trans e)
 |_=>exact .pu _ _ (AV.pur_rel r o)
theorem Qq:∀{l:List AV} {j:Nat} {U:AV},ZO ks l->l[j]?=some U->aOk ks U
 | [],j,U,_,h=>by simp at h
 |a::l,0,U,o,h=>by simp at h;subst h;exact o.1
 |a::l,j+1,U,o,h=>Qq o.2 (by simpa using h)
theorem Ajt (S:Sat C ⟨env,hp,N1⟩ h J a w) (hr:Bx h J args vs)
 (hx:(execOp a.eval o).run P w=(callFunc g vs.toArray).run P w) (hn:n0<=N1) {r:AV} {ws:CH} (hw:JQ hp n0 (keys ws) ws) (Hr:Ai9 (keys ws) r)
 (mt:AO P g hp N1 args fun En n2 r2=>En=ws++hp∧n2=N1∧r2=r) (Q:Exit->Act->World->Prop) :
 o.wp P a w (fun a' w'=>∃h' ρ',Sat C ⟨EN.set env o.dst r,ws++hp,N1⟩ h' ρ' a' w'∧Fr J ρ' id) Q:=by
 obtain ⟨⟨fn,hf,FN,hb⟩,hm⟩:=mt
 have:(execOp a.eval o).run P w=.ok (.enter g vs.toArray) w:=by
  rw [hx]
  simp only [callFunc,Sem.run_bind,run_program,Result.andThen_ok,hf,FN,hb]
  rfl
 unfold Oper.wp
 rw [this]
 refine (hm h J w vs S.mem hr).mono fun e w' ⟨v,he,h',ρ',_,_,_,⟨rfl,rfl,rfl⟩,hh,hrr,DF,Cr,o9,G1⟩=>?_
 subst he
 classical
 have hρ2:∃ρ2:RO,(∀k∈keys ws,∀g,ρ2 k g=ρ' k g)∧(∀k,¬k∈keys ws->∀g,ρ2 k g=J k g) :=
  ⟨fun k g=>if k∈keys ws then ρ' k g else J k g,fun k hk g=>if_pos hk,fun k hk g=>if_neg hk⟩
 obtain ⟨ρ2,a1,a2⟩:=hρ2
 have l1:Ck J ρ2:=fun k g x e=>by
  by_cases hk:k∈keys ws
  .rw [a1 k hk];exact hrr _ _ _ e
  .rw [a2 k hk];exact e
 have l2:Ck ρ2 ρ':=fun k g x e=>by
  by_cases hk:k∈keys ws
  .rw [a1 k hk] at e;exact e
  .rw [a2 k hk] at e;exact hrr _ _ _ e
 have lv:∀b,AI ρ2 (ws++hp) b->AI ρ' (ws++hp) b:=fun b ⟨k,g,c,q1,q2⟩=>⟨k,g,c,q1,l2 _ _ _ q2⟩
 refine ⟨h',ρ2,S.step hh l1 ⟨DF.hh,fun k=>?_,fun k k' g g' b c c' q1 q2 q3 q4=>DF.inj k k' g g' b c c' q1 q2 (l2 _ _ _ q3) (l2 _ _ _ q4),fun b hb=>DF.hid b (lv b hb),fun b hb=>DF.lt b (lv b hb),fun k g hk=>?_,
  fun k g g' x q1 q2=>DF.gens k g g' x q1 (l2 _ _ _ q2),DF.gl⟩ o9 (fun b hb=>G1 b (lv b hb)) o.dst (Hr.elim (fun q=>.pu _ _ (AV.purR_rel Cr q)) fun q=>SS a1 q Cr),fun k hk JY g=>?_⟩
 .have s1:=DF.ch k
  show (gc (ws++hp) k).sat _ _ _ _
  by_cases hk:k∈keys ws
  .obtain ⟨_,_,h3⟩:=It hw hk
   obtain ⟨c,e1,e2⟩:=h3 hp
   rw [e1] at s1 ⊢
   cases c with
   |no=>trivial
   |bx cs=>
    obtain ⟨b,c,us,ty,g1,g2,g3,g4⟩:=s1
    exact ⟨b,c,us,ty,(a1 k hk 0).trans g1,g2,g3,fun j U u x y=>SS a1 (Qq e2 x) (g4 j U u x y)⟩
   |rw g n l=>obtain ⟨ob,cap,g1,g2⟩:=s1;exact ⟨ob,cap,(a1 k hk g).trans g1,g2⟩
   |sh g n l=>obtain ⟨ob,cap,g1,g2⟩:=s1;exact ⟨ob,cap,(a1 k hk g).trans g1,g2⟩
   |rc g n cap l=>obtain ⟨ob,g1,g2⟩:=s1;exact ⟨ob,(a1 k hk g).trans g1,g2⟩
   |mp l=>obtain ⟨b,c,es,cl,g1,g2⟩:=s1;exact ⟨b,c,es,cl,(a1 k hk 0).trans g1,g2⟩
   |mq F=>obtain ⟨b,c,es,cl,g1,g2⟩:=s1;exact ⟨b,c,es,cl,(a1 k hk 0).trans g1,g2⟩
   |mr l sn=>obtain ⟨b,c,es,cl,g1,q1,q2,q3,q4,b2,c2,x7,g2,q5⟩:=s1;exact ⟨b,c,es,cl,(a1 k hk 0).trans g1,q1,q2,q3,q4,b2,c2,x7,(a1 k hk 1).trans g2,q5⟩
   |ro cs=>obtain ⟨b,c,us,ty,fr,g1,g2⟩:=s1;exact ⟨b,c,us,ty,fr,(a1 k hk 0).trans g1,g2⟩
   |rn g n l=>exact e2.elim
   |sb T e g bs=>
    obtain ⟨b,c,p,v,b1,b2,b3,b4,b5,⟨y,b6⟩,b7⟩:=s1
    exact ⟨b,c,p,v,(a1 k hk 0).trans b1,b2,b3,b4,b5,⟨y,(a1 k hk g).trans b6⟩,fun x hx=>⟨(b7 x hx).1,let ⟨c2,q⟩:=(b7 x hx).2;⟨c2,(a1 k hk g).trans q⟩⟩⟩
  .rw [Pn hk] at s1 ⊢
   exact Ak.sat_mono (BQ.refl _) l1 (fun _ _ _ _ _=>rfl) (Ak.back hrr (S.mem.ch k) s1)
 .have Bz:¬k∈keys ws:=fun HF=>by have:=(It hw HF).1;have:N1<=k:=hk;omega
  rw [a2 k Bz]
  exact S.mem.fr k g hk
 .by_cases HF:k∈keys ws
  .exfalso
   obtain ⟨_,h2,_⟩:=It hw HF
   have hc:=S.mem.ch k
   cases hg:gc hp k with
   |no=>rw [hg] at h2;exact h2
   |bx cs=>rw [show gc hp k=.bx cs from hg] at hc;obtain ⟨_,_,_,_,q,_⟩:=hc;rw [JY] at q;cases q
   |rw g n l=>rw [show gc hp k=.rw g n l from hg] at hc;obtain ⟨_,_,q,_⟩:=hc;rw [JY] at q;cases q
   |sh g n l=>rw [show gc hp k=.sh g n l from hg] at hc;obtain ⟨_,_,q,_⟩:=hc;rw [JY] at q;cases q
   |rc g n cap l=>rw [show gc hp k=.rc g n cap l from hg] at hc;obtain ⟨_,q,_⟩:=hc;rw [JY] at q;cases q
   |mp l=>rw [show gc hp k=.mp l from hg] at hc;obtain ⟨_,_,_,_,q,_⟩:=hc;rw [JY] at q;cases q
   |mq F=>rw [show gc hp k=.mq F from hg] at hc;obtain ⟨_,_,_,_,q,_⟩:=hc;rw [JY] at q;cases q
   |mr l sn=>rw [show gc hp k=.mr l sn from hg] at hc;obtain ⟨_,_,_,_,q,_⟩:=hc;rw [JY] at q;cases q
   |ro cs=>rw [show gc hp k=.ro cs from hg] at hc;obtain ⟨_,_,_,_,_,q,_⟩:=hc;rw [JY] at q;cases q
   |rn g n l=>rw [show gc hp k=.rn g n l from hg] at hc;obtain ⟨_,_,q,_⟩:=hc;rw [JY] at q;cases q
   |sb T e g bs=>rw [show gc hp k=.sb T e g bs from hg] at hc;obtain ⟨_,_,_,_,q,_⟩:=hc;rw [JY] at q;cases q
  .rw [a2 k HF]
   exact JY g
theorem Ajn (S:Sat C ⟨env,hp,N1⟩ h J a w) (hr:Bx h J args vs)
 (hx:(execOp a.eval o).run P w=(callFunc g vs.toArray).run P w) (hid:id<N1) (Ce:∀g,J id g=none) {m:Nat} {l:List (List AV)}
 (mt:AO P g hp N1 args fun En n2 r2=>En=(N1,.rw 0 m l)::hp∧n2=N1+1∧r2=.rw N1 0 l.length) (Q:Exit->Act->World->Prop) :
 o.wp P a w (fun a' w'=>∃h' ρ',Sat C ⟨EN.set env o.dst (.rw id 0 l.length),[(id,.rw 0 m l)]++hp,N1⟩ h' ρ' a' w'∧Fr J ρ' id) Q:=by
 obtain ⟨⟨fn,hf,FN,hb⟩,hm⟩:=mt
 have:(execOp a.eval o).run P w=.ok (.enter g vs.toArray) w:=by
  rw [hx]
  simp only [callFunc,Sem.run_bind,run_program,Result.andThen_ok,hf,FN,hb]
  rfl
 unfold Oper.wp
 rw [this]
 refine (hm h J w vs S.mem hr).mono fun e w' ⟨v,he,h',ρ',_,_,_,⟨rfl,rfl,rfl⟩,hh,hrr,DF,Cr,o9,G1⟩=>?_
 subst he
 cases Cr with
 |pu _ _ p=>cases p
 |rw _ _ _ cap ad ob e1 OD ha=>
  have hle:Ck J (By J id 0 (ob,cap)):=BT (ob,cap) (Ce 0)
  have Wa:∀k,N1<=k->gc hp k=.no:=fun k hk=>by
   have hc:=S.mem.ch k
   have hn:=fun g=>S.mem.fr k g hk
   cases hg:gc hp k with
   |no=>rfl
   |bx cs=>rw [hg] at hc;obtain ⟨_,_,_,_,q,_⟩:=hc;rw [hn] at q;cases q
   |rw g n l=>rw [hg] at hc;obtain ⟨_,_,q,_⟩:=hc;rw [hn] at q;cases q
   |sh g n l=>rw [hg] at hc;obtain ⟨_,_,q,_⟩:=hc;rw [hn] at q;cases q
   |rc g n cap l=>rw [hg] at hc;obtain ⟨_,q,_⟩:=hc;rw [hn] at q;cases q
   |mp l=>rw [hg] at hc;obtain ⟨_,_,_,_,q,_⟩:=hc;rw [hn] at q;cases q
   |mq F=>rw [hg] at hc;obtain ⟨_,_,_,_,q,_⟩:=hc;rw [hn] at q;cases q
   |mr l sn=>rw [hg] at hc;obtain ⟨_,_,_,_,q,_⟩:=hc;rw [hn] at q;cases q
   |ro cs=>rw [hg] at hc;obtain ⟨_,_,_,_,_,q,_⟩:=hc;rw [hn] at q;cases q
   |rn g n l=>rw [hg] at hc;obtain ⟨_,_,q,_⟩:=hc;rw [hn] at q;cases q
   |sb T e g bs=>rw [hg] at hc;obtain ⟨_,_,_,_,q,_⟩:=hc;rw [hn] at q;cases q
  have p6:∀k g b c,(gc ((id,.rw 0 m l)::hp) k).own g->By J id 0 (ob,cap) k g=some (some b,c) ->
   ∃k2 g2,(gc ((N1,.rw 0 m l)::hp) k2).own g2∧ρ' k2 g2=some (some b,c)∧((k=id∧k2=N1)∨(k≠id∧k2=k∧k<N1)):=by
   intro k g b c q1 q2
   by_cases hk:id=k
   .subst hk
    rw [Ah] at q1
    cases q1
    rw [A0] at q2
    cases q2
    exact ⟨N1,0,by rw [Ah];rfl,e1,.inl ⟨rfl,rfl⟩⟩
   .rw [Am hk] at q1
    rw [AY _ _ (fun e=>hk e.symm)] at q2
    have Bz:k<N1:=by
     rcases Nat.lt_or_ge k N1 with q | q
     .exact q
     .rw [Wa k q] at q1;cases q1
    exact ⟨k,g,by rw [Am (by omega)];exact q1,hrr _ _ _ q2,.inr ⟨fun e=>hk e.symm,rfl,Bz⟩⟩
  have AL:∀b,AI (By J id 0 (ob,cap)) ((id,.rw 0 m l)::hp) b->AI ρ' ((N1,.rw 0 m l)::hp) b:=fun b ⟨k,g,c,q1,q2⟩=>by
   obtain ⟨k2,g2,r1,r2,_⟩:=p6 k g b c q1 q2
   exact ⟨k2,g2,c,r1,r2⟩
  refine ⟨h',By J id 0 (ob,cap),S.step hh hle ⟨DF.hh,fun k=>?_,fun k k' g g' b c c' q1 q2 q3 q4=>?_,fun b hb=>DF.hid b (AL b hb),fun b hb=>DF.lt b (AL b hb),fun k g hk=>?_,fun k g g' x q1 q2=>?_,DF.gl⟩ o9 (fun b hb=>G1 b (AL b hb)) o.dst (.rw _ _ _ _ _ ob (A0 _ _ _ _) OD ha),Fr.new _ _ _ _⟩
  .show (gc ((id,.rw 0 m l)::hp) k).sat _ _ _ _
   by_cases hk:id=k
   .subst hk
    rw [Ah]
    have s1:=DF.ch N1
    rw [Ah] at s1
    obtain ⟨o7,i6,z1,z2⟩:=s1
    rw [e1] at z1
    cases z1
    exact ⟨ob,_,A0 _ _ _ _,z2⟩
   .rw [Am hk]
    rcases Nat.lt_or_ge k N1 with Bz | Bz
    .have s1:=DF.ch k
     rw [Am (by omega)] at s1
     exact Ak.sat_mono (BQ.refl _) hle (fun _ _ _ _ _=>rfl) (Ak.back hrr (S.mem.ch k) s1)
    .rw [Wa k Bz];trivial
  .obtain ⟨k1,g1,r1,r2,r3⟩:=p6 k g b c q1 q3
   obtain ⟨k2,g2,t1,t2,t3⟩:=p6 k' g' b c' q2 q4
   have:=DF.inj k1 k2 g1 g2 b c c' r1 t1 r2 t2
   omega
  .have hk:N1<=k:=hk
   rw [AY _ _ (by omega)]
   exact S.mem.fr k g hk
  .by_cases hk:id=k
   .subst hk
    by_cases hg:g'=0
    .omega
    .have:By J id 0 (ob,cap) id g'=J id g':=by simp [By,hg]
     rw [this,Ce] at q2
     cases q2
   .rw [Am hk] at q1
    rw [AY _ _ (fun e=>hk e.symm)] at q2
    exact S.mem.gens k g g' x q1 q2
theorem Nr
 (hc:PT P C.N d4 o=some d.o.op) (hd:d.o.dst=o.dst) (hi:n0+i<N1) (S:Sat C ⟨env,hp,N1⟩ h J a w) (Ce:∀g,J (n0+i) g=none) (AZ:d.o.op.obsB env true)
 (hv:EX P n0 N1 i d env hp fun α' r8 R' c'=>α'=U∧r8=ws∧R'=R∧c'=c) (Q:Exit->Act->World->Prop) :
 o.wp P a w (fun a' w'=>∃h' ρ',Sat C ⟨EN.set env o.dst U,ws++hp,N1⟩ h' ρ' a' w'∧Fr J ρ' (n0+i)) Q:=by
 obtain ⟨en1,en2⟩:=HL (P:=P) S (p:=True) trivial hc (Au.obsB_obs (fun _=>rfl) AZ)
 rcases Au.cases_c d.o.op with ⟨f,xs,e⟩ | ⟨f,xs,e⟩ | e
 .obtain ⟨⟨dd,op,g⟩,un,lg,bf⟩:=d
  simp only at e
  subst e
  obtain ⟨vs,r1,r2⟩:=en1 f xs rfl
  rcases hv with ⟨r,h1,rfl,rfl,_⟩ | ⟨m,l,h1,rfl,rfl,_⟩ | ⟨r,ws,h0,h3,h1,rfl,rfl,_⟩
  .exact SX S r1 r2 (h1 hp fun _ _=>rfl) (fun _ _ h=>h) _ Q
  .exact Ajn S r1 r2 hi Ce (h1 hp fun _ _=>rfl) Q
  .exact Ajt S r1 r2 (Nat.le_trans (Nat.le_add_right _ _) (Nat.le_of_lt hi)) h0 h3 (h1 hp fun _ _=>rfl) Q
 .obtain ⟨⟨dd,op,g⟩,un,lg,bf⟩:=d
  simp only at e
  subst e
  unfold EX at hv
  simp only at hv
  split at hv
  .rename_i g' i8 hg
   obtain ⟨r,h1,rfl,rfl,_⟩:=hv
   obtain ⟨vs,r1,r2⟩:=en2 f xs g' i8 rfl hg
   exact SX S r1 r2 (h1 rfl hp fun _ _=>rfl) (fun _ _ h=>h) _ Q
  .exact hv.elim
 .rw [HY e] at hv
  obtain ⟨h1,h2⟩:=hv
  split at h2
  .rename_i α' r8 R' he
   obtain ⟨rfl,rfl,rfl,_⟩:=h2
   have hr:=Z8 (P:=P) hi e AZ h1 he
   obtain ⟨⟨dd,op,g⟩,un,lg,bf⟩:=d
   simp only at hd
   subst hd
   refine Oper.wp_mono (fun a' w' ⟨c8,h',ρ',k,s,f⟩=>?_) (Ek (P:=P) hc hr S Ce Q)
   subst k
   exact ⟨h',ρ',s,f.1 e⟩
  .exact h2.elim
theorem YF (hv:dG P n0 N1 i d env hp false fun α' r8 R' c'=>α'=U∧r8=ws∧R'=R∧c'=c):∃x,U=.gd false x∧ws=[]:=by
 rcases Au.cases_c d.o.op with ⟨f,xs,e⟩ | ⟨f,xs,e⟩ | e
 .obtain ⟨⟨dd,op,g⟩,un,lg,bf⟩:=d
  simp only at e
  subst e
  obtain ⟨_,r,h1,rfl,rfl,_⟩:=hv
  exact ⟨_,rfl,rfl⟩
 .obtain ⟨⟨dd,op,g⟩,un,lg,bf⟩:=d
  simp only at e
  subst e
  unfold dG at hv
  simp only at hv
  obtain ⟨_,hv⟩:=hv
  split at hv
  .obtain ⟨r,h1,rfl,rfl,_⟩:=hv
   exact ⟨_,rfl,rfl⟩
  .exact hv.elim
 .rw [Oq e] at hv
  obtain ⟨_,hv⟩:=hv
  split at hv
  .obtain ⟨_,_,rfl,rfl,_⟩:=hv
   exact ⟨_,rfl,rfl⟩
  .rcases hv with ⟨x,_⟩ | ⟨_,rfl,rfl,_⟩
   .cases x
   .exact ⟨_,rfl,rfl⟩
theorem ZQ
 (hc:PT P C.N d4 o=some d.o.op) (hd:d.o.dst=o.dst) (hi:n0+i<N1) (S:Sat C ⟨env,hp,N1⟩ h J a w) (Ce:∀g,J (n0+i) g=none)
 (hv:dG P n0 N1 i d env hp true fun α' r8 R' c'=>α'=U∧r8=ws∧R'=R∧c'=c) (Q:Exit->Act->World->Prop) :
 o.wp P a w (fun a' w'=>∃h' ρ',Sat C ⟨EN.set env o.dst U,ws++hp,N1⟩ h' ρ' a' w'∧Fr J ρ' (n0+i)) Q:=by
 have hgd:∀(r:AV) (h:HP) (v:Value),Bq h r v->Bq h (.gd true r) v:=fun r h v p=>.gd _ _ _ (fun _=>p) (fun e=>by cases e)
 rcases Au.cases_c d.o.op with ⟨f,xs,e⟩ | ⟨f,xs,e⟩ | e
 .obtain ⟨⟨dd,op,g⟩,un,lg,bf⟩:=d
  simp only at e
  subst e
  obtain ⟨AZ,r,h1,rfl,rfl,_⟩:=hv
  obtain ⟨en1,en2⟩:=HL (P:=P) S (p:=True) trivial hc (Au.obsB_obs (fun _=>rfl) AZ)
  obtain ⟨vs,r1,r2⟩:=en1 f xs rfl
  exact SX S r1 r2 (h1 rfl hp fun _ _=>rfl) (hgd _) _ Q
 .obtain ⟨⟨dd,op,g⟩,un,lg,bf⟩:=d
  simp only at e
  subst e
  unfold dG at hv
  simp only at hv
  obtain ⟨AZ,hv⟩:=hv
  obtain ⟨en1,en2⟩:=HL (P:=P) S (p:=True) trivial hc (Au.obsB_obs (fun _=>rfl) AZ)
  split at hv
  .rename_i g' i8 hg
   obtain ⟨r,h1,rfl,rfl,_⟩:=hv
   obtain ⟨vs,r1,r2⟩:=en2 f xs g' i8 rfl hg
   exact SX S r1 r2 (h1 rfl hp fun _ _=>rfl) (hgd _) _ Q
  .exact hv.elim
 .rw [Oq e] at hv
  obtain ⟨AZ,hv⟩:=hv
  split at hv
  .rename_i hV
   obtain ⟨h1,h2,rfl,rfl,_⟩:=hv
   obtain ⟨β,hβ⟩:=Option.isSome_iff_exists.1 (h2 rfl)
   obtain ⟨v,v1,v2⟩:=Jf (P:=P) S (p:=True) trivial hc hV (Au.obsB_obs (fun _=>rfl) AZ) (h1 rfl) hβ
   unfold Oper.wp
   rw [v1]
   refine ⟨h,J,?_,Fr.refl _ _⟩
   rw [hβ]
   exact S.val o.dst (.gd _ _ _ (fun _=>v2) (fun e=>by cases e))
  .rcases hv with ⟨_,hv⟩ | ⟨x,_⟩
   .exact Nr hc hd hi S Ce AZ hv Q
   .cases x
theorem Yo {d4:Array Oper}
 (hc:PT P C.N d4.toList o=some d.o.op) (hg:Ep C.N d4.toList o.guard=some d.o.g) (hd:d.o.dst=o.dst) (hi:n0+i<N1) (S:Sat C ⟨env,hp,N1⟩ h J a w) (Ce:∀g,J (n0+i) g=none)
 (hv:Mg P n0 N1 i d env hp fun α' r8 R' c'=>α'=U∧r8=ws∧R'=R∧c'=c) (Q:Exit->Act->World->Prop) :
 if Region.wanted o (yielded d4 a.tmps) then o.wp P a w (fun a' w'=>∃h' ρ',Sat C ⟨EN.set env o.dst U,ws++hp,N1⟩ h' ρ' a' w'∧Fr J ρ' (n0+i)) Q
 else ∃h' ρ',Sat C ⟨EN.set env o.dst U,ws++hp,N1⟩ h' ρ' (a.put o.dst undef) w∧Fr J ρ' (n0+i):=by
 unfold Mg at hv
 cases ho:o.guard with
 |none=>
  rw [ho] at hg
  simp [Ep] at hg
  rw [<-hg] at hv
  rw [if_pos (by simp [Region.wanted,ho])]
  exact Nr hc hd hi S Ce hv.1 hv.2 Q
 |some jw=>
  obtain ⟨j,i7⟩:=jw
  rw [ho] at hg
  unfold Ep at hg
  simp only at hg
  split at hg
  .rename_i t ht
   split at hg
   .rename_i htN
    simp only [zm.injEq] at hg
    rw [<-hg] at hv
    simp only at hv
    have hj:(d4[j]?).bind (·.dst)=some t:=by simpa using ht
    have hw:Region.wanted o (yielded d4 a.tmps)=(yielded d4 a.tmps j == some i7):=by simp [Region.wanted,ho]
    rw [hw,LK hj]
    have p7:∀G:Bool,(((match a.tmps[t]? with | some (.bool b)=>some b | _=>none) == some i7)=G)->dG P n0 N1 i d env hp G (fun α' r8 R' c'=>α'=U∧r8=ws∧R'=R∧c'=c) ->
     if ((match a.tmps[t]? with | some (.bool b)=>some b | _=>none) == some i7)=true then o.wp P a w (fun a' w'=>∃h' ρ',Sat C ⟨EN.set env o.dst U,ws++hp,N1⟩ h' ρ' a' w'∧Fr J ρ' (n0+i)) Q
     else ∃h' ρ',Sat C ⟨EN.set env o.dst U,ws++hp,N1⟩ h' ρ' (a.put o.dst undef) w∧Fr J ρ' (n0+i):=by
     intro G hGe hvg
     rw [hGe]
     cases G with
     |true=>
      rw [if_pos rfl]
      exact ZQ hc hd hi S Ce hvg Q
     |false=>
      rw [if_neg (by simp)]
      obtain ⟨x,rfl,rfl⟩:=YF hvg
      exact ⟨h,J,S.val o.dst (.gd _ _ _ (fun e=>by cases e) (fun _=>rfl)),Fr.refl _ _⟩
    obtain ⟨v,h1,h2⟩:=S.env t htN
    split at hv
    .rename_i x hx
     rw [hx] at h2
     rw [h2.bool] at h1
     exact p7 _ (by rw [h1];cases x<;>cases i7<;>rfl) hv
    .rename_i cc x hx
     rw [hx] at h2
     refine p7 _ ?_ hv
     rw [h1]
     have key:(cc=true->v=.bool x)∧(cc=false->v=undef):=by
      cases h2 with
      |pu _ _ p=>cases p with | gd _ _ _ p1 p2=>exact ⟨fun e=>by cases p1 e;rfl,p2⟩
      |gd _ _ _ p1 p2=>exact ⟨fun e=>(p1 e).bool,p2⟩
     cases cc with
     |true=>rw [key.1 rfl];cases x<;>cases i7<;>rfl
     |false=>rw [key.2 rfl];rfl
    .rename_i hx
     rw [hx] at h2
     refine p7 _ ?_ hv
     rw [h1]
     have key:v=undef:=by
      cases h2 with
      |pu _ _ p=>cases p with | gd _ _ _ p1 p2=>exact p2 rfl
      |gd _ _ _ p1 p2=>exact p2 rfl
     rw [key]
     rfl
    .exact hv.elim
   .cases hg
  .cases hg
end
end
