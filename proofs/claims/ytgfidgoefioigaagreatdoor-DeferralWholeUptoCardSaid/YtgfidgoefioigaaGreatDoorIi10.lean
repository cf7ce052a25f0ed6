/- Proof. Conditions: none. -/
import Derived.Test.YtgfidgoefioigaaGreatDoorIi9
namespace Go.Eng
set_option linter.all false
/-! ### One operation -/
theorem R1 {hp:CH} {α:AV} (h:α.pur=true):Di hp α=Di [] α∧shutC hp α=hp:=by
 cases α<;>first
  | exact ⟨rfl,rfl⟩
  | (simp [AV.pur] at h;done)
theorem KY {hp:CH}:∀{l:List AV},l.all AV.pur=true→Ec hp l=Ec [] l∧shutL hp l=hp
 | [],_=>⟨rfl,rfl⟩
 | α::r,h=>by
  simp only [List.all_cons,Bool.and_eq_true] at h
  obtain ⟨e1,e2⟩:=R1 (hp:=hp) h.1
  obtain ⟨e3,e4⟩:=KY (hp:=hp) h.2
  refine ⟨?_,?_⟩
  .unfold Ec
   rw [e1,e3]
  .show shutL (shutC hp α) r=hp
   rw [e2,e4]
theorem Zv {α:AV} (h:Nm α=true) {cs:List AV} (e:α.cl=some cs):cs.all AV.pur=true:=by
 cases α<;>simp [Nm,AV.pur] at h<;>simp [AV.cl,AV.one] at e<;>first
  | (subst e;simp [AV.pur,h];done)
  | (obtain ⟨_,e⟩:=e;subst e;simp [AV.pur,h];done)
  | (subst e;simpa using h)
theorem KU {hp:CH} {n:Nat}:∀{l:List AV},l.all Nm=true→Cp hp n l=Cp [] n l∧shutP hp l=hp
 | [],_=>⟨rfl,rfl⟩
 | α::r,h=>by
  simp only [List.all_cons,Bool.and_eq_true] at h
  obtain ⟨e3,e4⟩:=KU (hp:=hp) (n:=n) h.2
  cases hc:α.cl with
  | none =>
   refine ⟨?_,?_⟩
   .unfold Cp;rw [hc]
   .unfold shutP;rw [hc];exact e4
  | some cs =>
   obtain ⟨e1,e2⟩:=KY (hp:=hp) (Zv h.1 hc)
   refine ⟨?_,?_⟩
   .unfold Cp
    rw [hc,e3]
    cases Cp [] n r with
    | none=>rfl
    | some l=>simp only [e1]
   .unfold shutP;rw [hc];show shutP (shutL hp cs) r=hp;rw [e2,e4]
theorem UX {hp:CH} {N id n:Nat} {x:AV} {l2:List (List AV)} {α:AV} {kc:Nat × Ap} {z:Nat} (hid:id<N) (h:GB hp 0 id n x l2=some (α,kc,z)):GB hp N id n x l2=some (α,kc,N):=by
 cases x with
 | rw k g len =>
  cases hg:gc hp k with
  | rw g' n' l =>
   simp only [GB,hg] at h ⊢
   split at h
   .rename_i hc
    cases h
    rw [if_pos hc]
   .cases h
  | rc g' n' cap l =>
   simp only [GB,hg] at h ⊢
   split at h
   .rename_i hc
    rw [if_pos hc]
    simp only [Option.some.injEq] at h ⊢
    split at h
    .rename_i h2
     cases h
     rw [if_pos h2]
    .rename_i h2
     cases h
     rw [if_neg h2,Nat.max_eq_left (by omega)]
   .cases h
  | _ =>
   simp only [GB,hg] at h
   cases h
 | e0 =>
  simp only [GB] at h ⊢
  cases h
  rw [Nat.max_eq_left (by omega)]
 | rf k g n' off len =>
  cases hg:gc hp k with
  | rc g' n2 cap l =>
   simp only [GB,hg] at h ⊢
   split at h
   .rename_i hc
    rw [if_pos hc]
    simp only [Option.some.injEq] at h ⊢
    split at h
    .rename_i h2
     cases h
     rw [if_pos h2]
    .rename_i h2
     cases h
     rw [if_neg h2,Nat.max_eq_left (by omega)]
   .cases h
  | _ =>
   simp only [GB,hg] at h
   cases h
 | _=>cases h
theorem WP {P:Program} {o:CO} {env:EN} {hp:CH} {N id:Nat} (hid:id<N) (hc:o.op.isC=false) (AM:o.op.obsB env true) (hP:o.op.effP hp fun s=>AR (s.ev env))
  {α:AV} {ws:CH} {R:List Nat} (he:o.op.eff hp (fun s=>AR (s.ev env)) id=some (α,ws,R)):CT P id { o with fz:=false } ⟨env,hp,N⟩ fun st'=>st'=⟨EN.set env o.dst α,ws++hp,N⟩:=by
 have hmx:max N (id+1)=N:=Nat.max_eq_left hid
 obtain ⟨d,op,g⟩:=o
 refine ⟨AM,?_⟩
 simp only at he hP hc
 by_cases hv:op.isV=true
 .have e:op.eff hp (fun s=>AR (s.ev env)) id=match op.val hp (fun s=>AR (s.ev env)) with
   | some α=>some (α,[],op.rd fun s=>AR (s.ev env))
   | none=>none:=by cases op<;>first | rfl | (simp [As.isV] at hv)
  have e2:op.effP hp (fun s=>AR (s.ev env))=op.pre hp fun s=>AR (s.ev env):=by cases op<;>first | rfl | (simp [As.isV] at hv)
  rw [e] at he
  rw [e2] at hP
  cases hx:op.val hp (fun s=>AR (s.ev env)) with
  | none=>rw [hx] at he;cases he
  | some β =>
   rw [hx] at he
   cases he
   have:Hr hp (fun s=>AR (s.ev env)) op fun α'=>(⟨EN.set env d α',hp,N⟩:St)=⟨EN.set env d α,[]++hp,N⟩:=MC hP hx rfl
   cases op<;>first | exact this | (simp [As.isV] at hv)
 .cases op
  case al z=>cases he;simp [hmx]
  case bo x =>
   simp only [As.eff] at he
   split at he
   .rename_i c0 h1
    cases he
    simp [h1,hmx]
   .cases he
  case nl=>cases he
  case mk=>cases he;simp [hmx]
  case mpg=>cases he
  case mpn=>cases he
  case mpe=>cases he
  case mpd=>cases he
  case clr=>cases he
  case alb=>cases he;simp [hmx]
  case mu x s y =>
   simp only [As.eff] at he
   split at he
   .rename_i k b h1 h2
    split at he
    .rename_i l hk
     cases he
     simp only [As.effP] at hP
     simp only [h1,h2,muK,hk]
     exact ⟨hP,rfl⟩
    .cases he
   .cases he
  case st x y m =>
   simp only [As.eff] at he
   split at he
   .rename_i c0 k off h1 h2
    split at he
    .rename_i old hk
     cases he
     simp only [As.effP,h1,h2,hk] at hP
     simp only [h1,XS,h2,hk]
     exact ⟨hP.1,hP.2.1,hP.2.2,rfl⟩
    .cases he
   .rename_i c0 k g len n i off h1 h2
    split at he
    .rename_i g' n' l hk
     split at he
     .rename_i e hl
      cases he
      simp only [As.effP,h1,h2,hk] at hP
      simp only [h1,XS,h2,hk]
      exact ⟨hP.1,hP.2.1,hP.2.2,e,hl,rfl⟩
     .cases he
    .rename_i g' n' l hk
     split at he
     .rename_i e hl
      cases he
      simp only [As.effP,h1,h2,hk] at hP
      simp only [h1,XS,h2,hk]
      exact ⟨hP.1,hP.2.1,hP.2.2,e,hl,rfl⟩
     .cases he
    .cases he
   .cases he
  case bs fz n ps =>
   simp only [As.effP] at hP
   obtain ⟨p1,p2⟩:=KU (hp:=hp) (n:=n) hP
   simp only [As.eff] at he
   simp only
   rw [p2,p1]
   split at he
   .rename_i l hl
    split at he
    .rename_i hf
     cases he
     rw [if_pos hf]
     rfl
    .rename_i hf
     cases he
     rw [if_neg hf,hmx]
     rfl
   .cases he
  case ap x y n bytes =>
   simp only [As.eff] at he
   split at he
   .rename_i l2 h1
    split at he
    .rename_i α' kc z h2
     cases he
     simp only [As.effP,h1] at hP
     simp only [Tp,h1,UX hid h2]
     exact ⟨hP.1,hP.2.1,hP.2.2,rfl⟩
    .cases he
   .cases he
  case aps x y =>
   simp only [As.eff] at he
   split at he
   .rename_i b h1
    split at he
    .rename_i α' kc z h2
     cases he
     simp only [As.effP,h1] at hP
     simp only [h1,UX hid h2]
     exact ⟨hP,rfl⟩
    .cases he
   .cases he
  case ms l c n bytes z =>
   simp only [As.eff] at he
   split at he
   .rename_i kk x h1
    cases he
    simp only [As.effP,h1] at hP
    simp only [h1]
    split at hP
    .rename_i k1 x' k2 y e1 e2
     cases e1
     obtain ⟨q1,q2,q3,q4,q5,q6⟩:=hP
     exact ⟨q1,q2,q3,q4,q5,q6,by rw [hmx];rfl⟩
    .exact hP.elim
   .cases he
  all_goals first
   | (simp [As.isC] at hc;done)
   | simp [As.isV] at hv
theorem GA {P:Program} {C:Ctx} {st:St} {h:HP} {ρ:RO} {a:Act} {w:World} (S:Sat C st h ρ a w) {p:Prop} (hp:p) {ops:List Oper} {o:Oper} {c:As} (hc:MD P C.N ops o=some c) (AM:c.obs st.env p) :
    (∀ f xs, c = .cl f xs → ∃ vs, Br h ρ (xs.map fun s => AR (s.ev st.env)) vs ∧ (execOp a.eval o).run P w = (callFunc f vs.toArray).run P w) ∧
    (∀ f xs g caps, c = .cc f xs → AR (f.ev st.env) = .fn g caps → ∃ vs, Br h ρ (xs.map (fun s => AR (s.ev st.env)) ++ caps) vs ∧ (execOp a.eval o).run P w = (callFunc g vs.toArray).run P w) := by
  by_cases hC:c.isC=true
  . have key : ∃ cc, o.op = .call cc := by
      unfold MD at hc
      split at hc
      all_goals first
        | exact ⟨_, by assumption⟩
        | (exfalso
           repeat' (split at hc)
           all_goals first
             | (cases hc;done)
             | (cases hc;cases hC;done)
             | (unfold nlC at hc;split at hc<;>(cases hc<;>cases hC);done)
             | (rcases OK hc with ⟨_,_,rfl⟩ | ⟨_,rfl,_⟩<;>cases hC;done)
             | (obtain ⟨_,_,rfl⟩:=Option.map_eq_some_iff.1 hc;cases hC;done))
    obtain ⟨cc,ho⟩:=key
    simp only [MD,ho] at hc
    split at hc
    . exfalso
      repeat' (split at hc)
      all_goals first
        | (cases hc;done)
        | (cases hc;cases hC;done)
    . exfalso
      repeat' (split at hc)
      all_goals first
        | (cases hc;done)
        | (cases hc;cases hC;done)
        | (obtain ⟨_,_,rfl⟩:=Option.map_eq_some_iff.1 hc;cases hC;done)
    . exfalso
      repeat' (split at hc)
      all_goals first
        | (cases hc;done)
        | (cases hc;cases hC;done)
    . exfalso
      repeat' (split at hc)
      all_goals first
        | (cases hc;done)
        | (cases hc;cases hC;done)
    . exfalso
      repeat' (split at hc)
      all_goals first
        | (cases hc;done)
        | (cases hc;cases hC;done)
    . exfalso
      repeat' (split at hc)
      all_goals first
        | (cases hc;done)
        | (cases hc;cases hC;done)
        | (obtain ⟨_,_,rfl⟩:=Option.map_eq_some_iff.1 hc;cases hC;done)
    . rename_i f hcal
      refine ⟨fun f' xs e=>?_,fun f' xs g caps e=>?_⟩
      . cases ea : srcs C.N cc.args.toList with
        | none => simp [ea] at hc
        | some l =>
          simp [ea] at hc
          subst hc
          cases e
          have r:=DR S hp ea AM
          refine ⟨_,r,?_⟩
          have em : cc.args.map a.eval = (cc.args.toList.map a.eval).toArray := by apply Array.ext'; simp
          simp [execOp,ho,resolve,hcal,Act.eval,Deferred.ofValue,invoke]
          rw [em]
      . cases ea : srcs C.N cc.args.toList with
        | none => simp [ea] at hc
        | some l => simp [ea] at hc; subst hc; cases e
    . rename_i f _ hcal
      refine ⟨fun f' xs e=>?_,fun f' xs g caps e hg=>?_⟩
      . split at hc
        . cases hc; cases e
        . cases hc
      . split at hc
        . rename_i sx l ex el
          cases hc
          cases e
          have rf:=A0 S hp ex AM.1
          rw [hg] at rf
          obtain ⟨cs,ev,rcs⟩:=rf.func
          have r:=DR S hp el AM.2
          refine ⟨(cc.args.toList.map a.eval) ++ cs, ⟨by have h1 := r.1; have h2 := rcs.1; simp at h1 ⊢; omega, fun j α v g1 g2 => ?_⟩, ?_⟩
          . rw [List.getElem?_append] at g1 g2
            have hl:=r.1
            rw [hl] at g1
            split at g1
            . rename_i hj
              rw [if_pos hj] at g2
              exact r.2 j α v g1 g2
            . rename_i hj
              rw [if_neg hj] at g2
              exact rcs.2 _ α v g1 g2
          . have em : cc.args.map a.eval ++ cs.toArray = ((cc.args.toList.map a.eval) ++ cs).toArray := by apply Array.ext'; simp
            simp [execOp,ho,resolve,hcal,ev,Deferred.ofValue,invoke]
            rw [em]
        . cases hc
    . cases hc
  . refine ⟨fun f xs e => ?_, fun f xs g caps e => ?_⟩ <;> (subst e; exact absurd rfl hC)
section
variable {P:Program} {C:Ctx}
theorem QL {env:EN} {hp:CH} {N1:Nat} {h:HP} {ρ:RO} {a:Act} {w:World} (S:Sat C ⟨env,hp,N1⟩ h ρ a w) {o:Oper} {g:FuncId} {args:List AV} {vs:List Value} (hr:Br h ρ args vs)
  (hx:(execOp a.eval o).run P w=(callFunc g vs.toArray).run P w) {r β:AV} (m:Ah P g hp N1 args r) (hβ:∀h v,Bd h r v→Bd h β v) (k0:Nat) (Q:Exit→Act→World→Prop) :
  o.wp P a w (fun a' w'=>∃h' ρ',Sat C ⟨EN.set env o.dst β,[]++hp,N1⟩ h' ρ' a' w'∧Fr ρ ρ' k0) Q:=by
 obtain ⟨⟨fn,hf,Fn,hb⟩,hm⟩:=m
 have:(execOp a.eval o).run P w=.ok (.enter g vs.toArray) w:=by
  rw [hx]
  simp only [callFunc,Sem.run_bind,run_program,Result.andThen_ok,hf,Fn,hb]
  rfl
 unfold Oper.wp
 rw [this]
 refine (hm h ρ w vs S.mem hr).mono fun e w' ⟨v,he,h',hh,Dd,BW,hkeep⟩=>?_
 subst he
 exact ⟨h',ρ,S.step hh (BS.refl _) Dd hkeep (fun b hb=>.inl hb) o.dst (.pu _ _ (hβ _ _ BW)),Fr.refl _ _⟩
theorem Ha {hp:CH} {n0:Nat} {ks:List Nat}:∀{ws:CH} {k:Nat},Ka hp n0 ks ws→k∈keys ws→k<n0∧nOk (gc hp k)∧∀D6,∃c,gc (ws++D6) k=c∧cOk ks c
 | (k',c)::r,k,h,hk=>by
  by_cases e:k'=k
  .subst e
   exact ⟨h.1,h.2.1,fun D6=>⟨c,Aj,h.2.2.1⟩⟩
  .have Om:k∈keys r:=by
    unfold keys at hk ⊢
    rcases List.mem_cons.1 hk with q | q
    .exact absurd q.symm e
    .exact q
   obtain ⟨h1,h2,h3⟩:=Ha h.2.2.2 Om
   exact ⟨h1,h2,fun D6=>by obtain ⟨c2,g1,g2⟩:=h3 D6;exact ⟨c2,(Al e).trans g1,g2⟩⟩
theorem N5 {hp:CH} {k:Nat}:∀{ws:CH},¬k∈keys ws→gc (ws++hp) k=gc hp k
 | [],_=>rfl
 | (k',c)::r,h=>by
  have h1:k'≠k:=fun e=>h (by simp [keys,e])
  have h2:¬k∈keys r:=fun e=>h (by unfold keys at e ⊢;simp only [List.map_cons,List.mem_cons];exact .inr e)
  exact (Al h1).trans (N5 h2)
theorem QF {h:HP} {ρ ρ2:RO} {ks:List Nat} {α:AV} {v:Value} (hr:∀k∈ks,∀g,ρ2 k g=ρ k g) (o:aOk ks α) (r:AN h ρ α v):AN h ρ2 α v:=by
 cases α with
 | rw k g len =>
  cases r with
  | pu _ _ p=>exact .pu _ _ p
  | rw _ _ _ cap a ob e hl ha=>exact .rw _ _ _ _ _ _ ((hr k o g).trans e) hl ha
 | rf k g n off len =>
  cases r with
  | pu _ _ p=>exact .pu _ _ p
  | rf _ _ _ _ _ cap a ob e hl ha=>exact .rf _ _ _ _ _ _ _ _ ((hr k o g).trans e) hl ha
 | mp k =>
  cases r with
  | pu _ _ p=>exact .pu _ _ p
  | mp _ b c e=>exact .mp _ _ _ ((hr k o 0).trans e)
 | _=>exact .pu _ _ (AV.pur_rel r o)
theorem Nc {ks:List Nat}:∀{l:List AV} {j:Nat} {α:AV},VN ks l→l[j]?=some α→aOk ks α
 | [],j,α,_,h=>by simp at h
 | a::l,0,α,o,h=>by simp at h;subst h;exact o.1
 | a::l,j+1,α,o,h=>Nc o.2 (by simpa using h)
theorem Aeu {env:EN} {hp:CH} {N1 n0 id:Nat} {h:HP} {ρ:RO} {a:Act} {w:World} (S:Sat C ⟨env,hp,N1⟩ h ρ a w) {o:Oper} {g:FuncId} {args:List AV} {vs:List Value} (hr:Br h ρ args vs)
  (hx:(execOp a.eval o).run P w=(callFunc g vs.toArray).run P w) (hn:n0≤N1) {r:AV} {ws:CH} (hw:Ka hp n0 (keys ws) ws) (Gd:Aea (keys ws) r)
  (mt:AI P g hp N1 args fun D6 n2 r2=>D6=ws++hp∧n2=N1∧r2=r) (Q:Exit→Act→World→Prop) :
  o.wp P a w (fun a' w'=>∃h' ρ',Sat C ⟨EN.set env o.dst r,ws++hp,N1⟩ h' ρ' a' w'∧Fr ρ ρ' id) Q:=by
 obtain ⟨⟨fn,hf,Fn,hb⟩,hm⟩:=mt
 have:(execOp a.eval o).run P w=.ok (.enter g vs.toArray) w:=by
  rw [hx]
  simp only [callFunc,Sem.run_bind,run_program,Result.andThen_ok,hf,Fn,hb]
  rfl
 unfold Oper.wp
 rw [this]
 refine (hm h ρ w vs S.mem hr).mono fun e w' ⟨v,he,h',ρ',_,_,_,⟨rfl,rfl,rfl⟩,hh,hrr,Dd,BW,hkeep,Gw⟩=>?_
 subst he
 classical
 have hρ2:∃ρ2:RO,(∀k∈keys ws,∀g,ρ2 k g=ρ' k g)∧(∀k,¬k∈keys ws→∀g,ρ2 k g=ρ k g) :=
  ⟨fun k g=>if k∈keys ws then ρ' k g else ρ k g,fun k hk g=>if_pos hk,fun k hk g=>if_neg hk⟩
 obtain ⟨ρ2,a1,a2⟩:=hρ2
 have l1:BS ρ ρ2:=fun k g x e=>by
  by_cases hk:k∈keys ws
  .rw [a1 k hk];exact hrr _ _ _ e
  .rw [a2 k hk];exact e
 have l2:BS ρ2 ρ':=fun k g x e=>by
  by_cases hk:k∈keys ws
  .rw [a1 k hk] at e;exact e
  .rw [a2 k hk] at e;exact hrr _ _ _ e
 have lv:∀b,A9 ρ2 (ws++hp) b→A9 ρ' (ws++hp) b:=fun b ⟨k,g,c,q1,q2⟩=>⟨k,g,c,q1,l2 _ _ _ q2⟩
 refine ⟨h',ρ2,S.step hh l1 ⟨Dd.hh,fun k=>?_,fun k k' g g' b c c' q1 q2 q3 q4=>Dd.inj k k' g g' b c c' q1 q2 (l2 _ _ _ q3) (l2 _ _ _ q4),fun b hb=>Dd.hid b (lv b hb),fun b hb=>Dd.lt b (lv b hb),fun k g hk=>?_,
  fun k g g' x q1 q2=>Dd.gens k g g' x q1 (l2 _ _ _ q2),Dd.gl⟩ hkeep (fun b hb=>Gw b (lv b hb)) o.dst (Gd.elim (fun q=>.pu _ _ (AV.purR_rel BW q)) fun q=>QF a1 q BW),fun k hk Ip g=>?_⟩
 .have s1:=Dd.ch k
  show (gc (ws++hp) k).sat _ _ _ _
  by_cases hk:k∈keys ws
  .obtain ⟨_,_,h3⟩:=Ha hw hk
   obtain ⟨c,e1,e2⟩:=h3 hp
   rw [e1] at s1 ⊢
   cases c with
   | no=>trivial
   | bx cs =>
    obtain ⟨b,c,us,ty,g1,g2,g3,g4⟩:=s1
    exact ⟨b,c,us,ty,(a1 k hk 0).trans g1,g2,g3,fun j α u x y=>QF a1 (Nc e2 x) (g4 j α u x y)⟩
   | rw g n l=>obtain ⟨ob,cap,g1,g2⟩:=s1;exact ⟨ob,cap,(a1 k hk g).trans g1,g2⟩
   | sh g n l=>obtain ⟨ob,cap,g1,g2⟩:=s1;exact ⟨ob,cap,(a1 k hk g).trans g1,g2⟩
   | rc g n cap l=>obtain ⟨ob,g1,g2⟩:=s1;exact ⟨ob,(a1 k hk g).trans g1,g2⟩
   | mp l=>obtain ⟨b,c,es,cl,g1,g2⟩:=s1;exact ⟨b,c,es,cl,(a1 k hk 0).trans g1,g2⟩
   | mq F=>obtain ⟨b,c,es,cl,g1,g2⟩:=s1;exact ⟨b,c,es,cl,(a1 k hk 0).trans g1,g2⟩
   | mr l sn=>obtain ⟨b,c,es,cl,g1,q1,q2,q3,q4,b2,c2,sn2,g2,q5⟩:=s1;exact ⟨b,c,es,cl,(a1 k hk 0).trans g1,q1,q2,q3,q4,b2,c2,sn2,(a1 k hk 1).trans g2,q5⟩
   | ro cs=>obtain ⟨b,c,us,ty,fr,g1,g2⟩:=s1;exact ⟨b,c,us,ty,fr,(a1 k hk 0).trans g1,g2⟩
   | rn g n l=>exact e2.elim
   | sb T e g bs =>
    obtain ⟨b,c,p,v,b1,b2,b3,b4,b5,⟨y,b6⟩,b7⟩:=s1
    exact ⟨b,c,p,v,(a1 k hk 0).trans b1,b2,b3,b4,b5,⟨y,(a1 k hk g).trans b6⟩,fun x hx=>⟨(b7 x hx).1,let ⟨c2,q⟩:=(b7 x hx).2;⟨c2,(a1 k hk g).trans q⟩⟩⟩
  .rw [N5 hk] at s1 ⊢
   exact Ap.sat_mono (B8.refl _) l1 (fun _ _ _ _ _=>rfl) (Ap.back hrr (S.mem.ch k) s1)
 .have Bt:¬k∈keys ws:=fun Gy=>by have:=(Ha hw Gy).1;have:N1≤k:=hk;omega
  rw [a2 k Bt]
  exact S.mem.fr k g hk
 .by_cases Gy:k∈keys ws
  .exfalso
   obtain ⟨_,h2,_⟩:=Ha hw Gy
   have hc:=S.mem.ch k
   cases hg:gc hp k with
   | no=>rw [hg] at h2;exact h2
   | bx cs=>rw [show gc hp k=.bx cs from hg] at hc;obtain ⟨_,_,_,_,q,_⟩:=hc;rw [Ip] at q;cases q
   | rw g n l=>rw [show gc hp k=.rw g n l from hg] at hc;obtain ⟨_,_,q,_⟩:=hc;rw [Ip] at q;cases q
   | sh g n l=>rw [show gc hp k=.sh g n l from hg] at hc;obtain ⟨_,_,q,_⟩:=hc;rw [Ip] at q;cases q
   | rc g n cap l=>rw [show gc hp k=.rc g n cap l from hg] at hc;obtain ⟨_,q,_⟩:=hc;rw [Ip] at q;cases q
   | mp l=>rw [show gc hp k=.mp l from hg] at hc;obtain ⟨_,_,_,_,q,_⟩:=hc;rw [Ip] at q;cases q
   | mq F=>rw [show gc hp k=.mq F from hg] at hc;obtain ⟨_,_,_,_,q,_⟩:=hc;rw [Ip] at q;cases q
   | mr l sn=>rw [show gc hp k=.mr l sn from hg] at hc;obtain ⟨_,_,_,_,q,_⟩:=hc;rw [Ip] at q;cases q
   | ro cs=>rw [show gc hp k=.ro cs from hg] at hc;obtain ⟨_,_,_,_,_,q,_⟩:=hc;rw [Ip] at q;cases q
   | rn g n l=>rw [show gc hp k=.rn g n l from hg] at hc;obtain ⟨_,_,q,_⟩:=hc;rw [Ip] at q;cases q
   | sb T e g bs=>rw [show gc hp k=.sb T e g bs from hg] at hc;obtain ⟨_,_,_,_,q,_⟩:=hc;rw [Ip] at q;cases q
  .rw [a2 k Gy]
   exact Ip g
theorem Adl {env:EN} {hp:CH} {N1 id:Nat} {h:HP} {ρ:RO} {a:Act} {w:World} (S:Sat C ⟨env,hp,N1⟩ h ρ a w) {o:Oper} {g:FuncId} {args:List AV} {vs:List Value} (hr:Br h ρ args vs)
  (hx:(execOp a.eval o).run P w=(callFunc g vs.toArray).run P w) (hid:id<N1) (BP:∀g,ρ id g=none) {m:Nat} {l:List (List AV)}
  (mt:AI P g hp N1 args fun D6 n2 r2=>D6=(N1,.rw 0 m l)::hp∧n2=N1+1∧r2=.rw N1 0 l.length) (Q:Exit→Act→World→Prop) :
  o.wp P a w (fun a' w'=>∃h' ρ',Sat C ⟨EN.set env o.dst (.rw id 0 l.length),[(id,.rw 0 m l)]++hp,N1⟩ h' ρ' a' w'∧Fr ρ ρ' id) Q:=by
 obtain ⟨⟨fn,hf,Fn,hb⟩,hm⟩:=mt
 have:(execOp a.eval o).run P w=.ok (.enter g vs.toArray) w:=by
  rw [hx]
  simp only [callFunc,Sem.run_bind,run_program,Result.andThen_ok,hf,Fn,hb]
  rfl
 unfold Oper.wp
 rw [this]
 refine (hm h ρ w vs S.mem hr).mono fun e w' ⟨v,he,h',ρ',_,_,_,⟨rfl,rfl,rfl⟩,hh,hrr,Dd,BW,hkeep,Gw⟩=>?_
 subst he
 cases BW with
 | pu _ _ p=>cases p
 | rw _ _ _ cap ad ob e1 Mb ha =>
  have hle:BS ρ (Bs ρ id 0 (ob,cap)):=BD (ob,cap) (BP 0)
  have hno:∀k,N1≤k→gc hp k=.no:=fun k hk=>by
   have hc:=S.mem.ch k
   have hn:=fun g=>S.mem.fr k g hk
   cases hg:gc hp k with
   | no=>rfl
   | bx cs=>rw [hg] at hc;obtain ⟨_,_,_,_,q,_⟩:=hc;rw [hn] at q;cases q
   | rw g n l=>rw [hg] at hc;obtain ⟨_,_,q,_⟩:=hc;rw [hn] at q;cases q
   | sh g n l=>rw [hg] at hc;obtain ⟨_,_,q,_⟩:=hc;rw [hn] at q;cases q
   | rc g n cap l=>rw [hg] at hc;obtain ⟨_,q,_⟩:=hc;rw [hn] at q;cases q
   | mp l=>rw [hg] at hc;obtain ⟨_,_,_,_,q,_⟩:=hc;rw [hn] at q;cases q
   | mq F=>rw [hg] at hc;obtain ⟨_,_,_,_,q,_⟩:=hc;rw [hn] at q;cases q
   | mr l sn=>rw [hg] at hc;obtain ⟨_,_,_,_,q,_⟩:=hc;rw [hn] at q;cases q
   | ro cs=>rw [hg] at hc;obtain ⟨_,_,_,_,_,q,_⟩:=hc;rw [hn] at q;cases q
   | rn g n l=>rw [hg] at hc;obtain ⟨_,_,q,_⟩:=hc;rw [hn] at q;cases q
   | sb T e g bs=>rw [hg] at hc;obtain ⟨_,_,_,_,q,_⟩:=hc;rw [hn] at q;cases q
  have hkey:∀k g b c,(gc ((id,.rw 0 m l)::hp) k).own g→Bs ρ id 0 (ob,cap) k g=some (some b,c) →
    ∃k2 g2,(gc ((N1,.rw 0 m l)::hp) k2).own g2∧ρ' k2 g2=some (some b,c)∧((k=id∧k2=N1)∨(k≠id∧k2=k∧k<N1)):=by
   intro k g b c q1 q2
   by_cases hk:id=k
   .subst hk
    rw [Aj] at q1
    cases q1
    rw [Ay] at q2
    cases q2
    exact ⟨N1,0,by rw [Aj];rfl,e1,.inl ⟨rfl,rfl⟩⟩
   .rw [Al hk] at q1
    rw [AL _ _ (fun e=>hk e.symm)] at q2
    have Bt:k<N1:=by
     rcases Nat.lt_or_ge k N1 with q | q
     .exact q
     .rw [hno k q] at q1;cases q1
    exact ⟨k,g,by rw [Al (by omega)];exact q1,hrr _ _ _ q2,.inr ⟨fun e=>hk e.symm,rfl,Bt⟩⟩
  have AJ:∀b,A9 (Bs ρ id 0 (ob,cap)) ((id,.rw 0 m l)::hp) b→A9 ρ' ((N1,.rw 0 m l)::hp) b:=fun b ⟨k,g,c,q1,q2⟩=>by
   obtain ⟨k2,g2,r1,r2,_⟩:=hkey k g b c q1 q2
   exact ⟨k2,g2,c,r1,r2⟩
  refine ⟨h',Bs ρ id 0 (ob,cap),S.step hh hle ⟨Dd.hh,fun k=>?_,fun k k' g g' b c c' q1 q2 q3 q4=>?_,fun b hb=>Dd.hid b (AJ b hb),fun b hb=>Dd.lt b (AJ b hb),fun k g hk=>?_,fun k g g' x q1 q2=>?_,Dd.gl⟩ hkeep (fun b hb=>Gw b (AJ b hb)) o.dst (.rw _ _ _ _ _ ob (Ay _ _ _ _) Mb ha),Fr.new _ _ _ _⟩
  .show (gc ((id,.rw 0 m l)::hp) k).sat _ _ _ _
   by_cases hk:id=k
   .subst hk
    rw [Aj]
    have s1:=Dd.ch N1
    rw [Aj] at s1
    obtain ⟨ob',cap',z1,z2⟩:=s1
    rw [e1] at z1
    cases z1
    exact ⟨ob,_,Ay _ _ _ _,z2⟩
   .rw [Al hk]
    rcases Nat.lt_or_ge k N1 with Bt | Bt
    .have s1:=Dd.ch k
     rw [Al (by omega)] at s1
     exact Ap.sat_mono (B8.refl _) hle (fun _ _ _ _ _=>rfl) (Ap.back hrr (S.mem.ch k) s1)
    .rw [hno k Bt];trivial
  .obtain ⟨k1,g1,r1,r2,r3⟩:=hkey k g b c q1 q3
   obtain ⟨k2,g2,t1,t2,t3⟩:=hkey k' g' b c' q2 q4
   have:=Dd.inj k1 k2 g1 g2 b c c' r1 t1 r2 t2
   omega
  .have hk:N1≤k:=hk
   rw [AL _ _ (by omega)]
   exact S.mem.fr k g hk
  .by_cases hk:id=k
   .subst hk
    by_cases hg:g'=0
    .omega
    .have:Bs ρ id 0 (ob,cap) id g'=ρ id g':=by simp [Bs,hg]
     rw [this,BP] at q2
     cases q2
   .rw [Al hk] at q1
    rw [AL _ _ (fun e=>hk e.symm)] at q2
    exact S.mem.gens k g g' x q1 q2
theorem KD {ops:List Oper} {o:Oper} {d:DO} {n0 N1 i:Nat} {env:EN} {hp:CH} {h:HP} {ρ:RO} {a:Act} {w:World} {α:AV} {ws:CH} {R:List Nat} {c:Bool}
  (hc:MD P C.N ops o=some d.o.op) (hd:d.o.dst=o.dst) (hi:n0+i<N1) (S:Sat C ⟨env,hp,N1⟩ h ρ a w) (BP:∀g,ρ (n0+i) g=none) (AM:d.o.op.obsB env true)
  (hv:Ek P n0 N1 i d env hp fun α' ws' R' c'=>α'=α∧ws'=ws∧R'=R∧c'=c) (Q:Exit→Act→World→Prop) :
  o.wp P a w (fun a' w'=>∃h' ρ',Sat C ⟨EN.set env o.dst α,ws++hp,N1⟩ h' ρ' a' w'∧Fr ρ ρ' (n0+i)) Q:=by
 obtain ⟨en1,en2⟩:=GA (P:=P) S (p:=True) trivial hc (As.obsB_obs (fun _=>rfl) AM)
 rcases As.cases_c d.o.op with ⟨f,xs,e⟩ | ⟨f,xs,e⟩ | e
 .obtain ⟨⟨dd,op,g⟩,un,lg,bf⟩:=d
  simp only at e
  subst e
  obtain ⟨vs,r1,r2⟩:=en1 f xs rfl
  rcases hv with ⟨r,h1,rfl,rfl,_⟩ | ⟨m,l,h1,rfl,rfl,_⟩ | ⟨r,ws,h0,h3,h1,rfl,rfl,_⟩
  .exact QL S r1 r2 (h1 hp fun _ _=>rfl) (fun _ _ h=>h) _ Q
  .exact Adl S r1 r2 hi BP (h1 hp fun _ _=>rfl) Q
  .exact Aeu S r1 r2 (Nat.le_trans (Nat.le_add_right _ _) (Nat.le_of_lt hi)) h0 h3 (h1 hp fun _ _=>rfl) Q
 .obtain ⟨⟨dd,op,g⟩,un,lg,bf⟩:=d
  simp only at e
  subst e
  unfold Ek at hv
  simp only at hv
  split at hv
  .rename_i g' caps hg
   obtain ⟨r,h1,rfl,rfl,_⟩:=hv
   obtain ⟨vs,r1,r2⟩:=en2 f xs g' caps rfl hg
   exact QL S r1 r2 (h1 rfl hp fun _ _=>rfl) (fun _ _ h=>h) _ Q
  .exact hv.elim
 .rw [G1 e] at hv
  obtain ⟨h1,h2⟩:=hv
  split at h2
  .rename_i α' ws' R' he
   obtain ⟨rfl,rfl,rfl,_⟩:=h2
   have hr:=WP (P:=P) hi e AM h1 he
   obtain ⟨⟨dd,op,g⟩,un,lg,bf⟩:=d
   simp only at hd
   subst hd
   refine Oper.wp_mono (fun a' w' ⟨st',h',ρ',k,s,f⟩=>?_) (D2 (P:=P) hc hr S BP Q)
   subst k
   exact ⟨h',ρ',s,f.1 e⟩
  .exact h2.elim
theorem UB {d:DO} {n0 N1 i:Nat} {env:EN} {hp:CH} {α:AV} {ws:CH} {R:List Nat} {c:Bool} (hv:dG P n0 N1 i d env hp false fun α' ws' R' c'=>α'=α∧ws'=ws∧R'=R∧c'=c):∃x,α=.gd false x∧ws=[]:=by
 rcases As.cases_c d.o.op with ⟨f,xs,e⟩ | ⟨f,xs,e⟩ | e
 .obtain ⟨⟨dd,op,g⟩,un,lg,bf⟩:=d
  simp only at e
  subst e
  obtain ⟨_,r,h1,rfl,rfl,_⟩:=hv
  exact ⟨_,rfl,rfl⟩
 .obtain ⟨⟨dd,op,g⟩,un,lg,bf⟩:=d
  simp only at e
  subst e
  unfold dG at hv
  simp only at hv
  obtain ⟨_,hv⟩:=hv
  split at hv
  .obtain ⟨r,h1,rfl,rfl,_⟩:=hv
   exact ⟨_,rfl,rfl⟩
  .exact hv.elim
 .rw [Ly e] at hv
  obtain ⟨_,hv⟩:=hv
  split at hv
  .obtain ⟨_,_,rfl,rfl,_⟩:=hv
   exact ⟨_,rfl,rfl⟩
  .rcases hv with ⟨x,_⟩ | ⟨_,rfl,rfl,_⟩
   .cases x
   .exact ⟨_,rfl,rfl⟩
theorem VX {ops:List Oper} {o:Oper} {d:DO} {n0 N1 i:Nat} {env:EN} {hp:CH} {h:HP} {ρ:RO} {a:Act} {w:World} {α:AV} {ws:CH} {R:List Nat} {c:Bool}
  (hc:MD P C.N ops o=some d.o.op) (hd:d.o.dst=o.dst) (hi:n0+i<N1) (S:Sat C ⟨env,hp,N1⟩ h ρ a w) (BP:∀g,ρ (n0+i) g=none)
  (hv:dG P n0 N1 i d env hp true fun α' ws' R' c'=>α'=α∧ws'=ws∧R'=R∧c'=c) (Q:Exit→Act→World→Prop) :
  o.wp P a w (fun a' w'=>∃h' ρ',Sat C ⟨EN.set env o.dst α,ws++hp,N1⟩ h' ρ' a' w'∧Fr ρ ρ' (n0+i)) Q:=by
 have hgd:∀(r:AV) (h:HP) (v:Value),Bd h r v→Bd h (.gd true r) v:=fun r h v p=>.gd _ _ _ (fun _=>p) (fun e=>by cases e)
 rcases As.cases_c d.o.op with ⟨f,xs,e⟩ | ⟨f,xs,e⟩ | e
 .obtain ⟨⟨dd,op,g⟩,un,lg,bf⟩:=d
  simp only at e
  subst e
  obtain ⟨AM,r,h1,rfl,rfl,_⟩:=hv
  obtain ⟨en1,en2⟩:=GA (P:=P) S (p:=True) trivial hc (As.obsB_obs (fun _=>rfl) AM)
  obtain ⟨vs,r1,r2⟩:=en1 f xs rfl
  exact QL S r1 r2 (h1 rfl hp fun _ _=>rfl) (hgd _) _ Q
 .obtain ⟨⟨dd,op,g⟩,un,lg,bf⟩:=d
  simp only at e
  subst e
  unfold dG at hv
  simp only at hv
  obtain ⟨AM,hv⟩:=hv
  obtain ⟨en1,en2⟩:=GA (P:=P) S (p:=True) trivial hc (As.obsB_obs (fun _=>rfl) AM)
  split at hv
  .rename_i g' caps hg
   obtain ⟨r,h1,rfl,rfl,_⟩:=hv
   obtain ⟨vs,r1,r2⟩:=en2 f xs g' caps rfl hg
   exact QL S r1 r2 (h1 rfl hp fun _ _=>rfl) (hgd _) _ Q
  .exact hv.elim
 .rw [Ly e] at hv
  obtain ⟨AM,hv⟩:=hv
  split at hv
  .rename_i hV
   obtain ⟨h1,h2,rfl,rfl,_⟩:=hv
   obtain ⟨β,hβ⟩:=Option.isSome_iff_exists.1 (h2 rfl)
   obtain ⟨v,v1,v2⟩:=H6 (P:=P) S (p:=True) trivial hc hV (As.obsB_obs (fun _=>rfl) AM) (h1 rfl) hβ
   unfold Oper.wp
   rw [v1]
   refine ⟨h,ρ,?_,Fr.refl _ _⟩
   rw [hβ]
   exact S.val o.dst (.gd _ _ _ (fun _=>v2) (fun e=>by cases e))
  .rcases hv with ⟨_,hv⟩ | ⟨x,_⟩
   .exact KD hc hd hi S BP AM hv Q
   .cases x
theorem Ta {ops:Array Oper} {o:Oper} {d:DO} {n0 N1 i:Nat} {env:EN} {hp:CH} {h:HP} {ρ:RO} {a:Act} {w:World} {α:AV} {ws:CH} {R:List Nat} {c:Bool}
  (hc:MD P C.N ops.toList o=some d.o.op) (hg:D7 C.N ops.toList o.guard=some d.o.g) (hd:d.o.dst=o.dst) (hi:n0+i<N1) (S:Sat C ⟨env,hp,N1⟩ h ρ a w) (BP:∀g,ρ (n0+i) g=none)
  (hv:Ki P n0 N1 i d env hp fun α' ws' R' c'=>α'=α∧ws'=ws∧R'=R∧c'=c) (Q:Exit→Act→World→Prop) :
  if Region.wanted o (yielded ops a.tmps) then o.wp P a w (fun a' w'=>∃h' ρ',Sat C ⟨EN.set env o.dst α,ws++hp,N1⟩ h' ρ' a' w'∧Fr ρ ρ' (n0+i)) Q
  else ∃h' ρ',Sat C ⟨EN.set env o.dst α,ws++hp,N1⟩ h' ρ' (a.put o.dst undef) w∧Fr ρ ρ' (n0+i):=by
 unfold Ki at hv
 cases ho:o.guard with
 | none =>
  rw [ho] at hg
  simp [D7] at hg
  rw [←hg] at hv
  rw [if_pos (by simp [Region.wanted,ho])]
  exact KD hc hd hi S BP hv.1 hv.2 Q
 | some jw =>
  obtain ⟨j,want⟩:=jw
  rw [ho] at hg
  unfold D7 at hg
  simp only at hg
  split at hg
  .rename_i t ht
   split at hg
   .rename_i htN
    simp only [Option.some.injEq] at hg
    rw [←hg] at hv
    simp only at hv
    have hj:(ops[j]?).bind (·.dst)=some t:=by simpa using ht
    have hw:Region.wanted o (yielded ops a.tmps)=(yielded ops a.tmps j == some want):=by simp [Region.wanted,ho]
    rw [hw,Jq hj]
    have main:∀G:Bool,(((match a.tmps[t]? with | some (.bool b)=>some b | _=>none) == some want)=G)→dG P n0 N1 i d env hp G (fun α' ws' R' c'=>α'=α∧ws'=ws∧R'=R∧c'=c) →
      if ((match a.tmps[t]? with | some (.bool b)=>some b | _=>none) == some want)=true then o.wp P a w (fun a' w'=>∃h' ρ',Sat C ⟨EN.set env o.dst α,ws++hp,N1⟩ h' ρ' a' w'∧Fr ρ ρ' (n0+i)) Q
      else ∃h' ρ',Sat C ⟨EN.set env o.dst α,ws++hp,N1⟩ h' ρ' (a.put o.dst undef) w∧Fr ρ ρ' (n0+i):=by
     intro G hGe hvg
     rw [hGe]
     cases G with
     | true =>
      rw [if_pos rfl]
      exact VX hc hd hi S BP hvg Q
     | false =>
      rw [if_neg (by simp)]
      obtain ⟨x,rfl,rfl⟩:=UB hvg
      exact ⟨h,ρ,S.val o.dst (.gd _ _ _ (fun e=>by cases e) (fun _=>rfl)),Fr.refl _ _⟩
    obtain ⟨v,h1,h2⟩:=S.env t htN
    split at hv
    .rename_i x hx
     rw [hx] at h2
     rw [h2.bool] at h1
     exact main _ (by rw [h1];cases x<;>cases want<;>rfl) hv
    .rename_i cc x hx
     rw [hx] at h2
     refine main _ ?_ hv
     rw [h1]
     have key:(cc=true→v=.bool x)∧(cc=false→v=undef):=by
      cases h2 with
      | pu _ _ p=>cases p with | gd _ _ _ p1 p2=>exact ⟨fun e=>by cases p1 e;rfl,p2⟩
      | gd _ _ _ p1 p2=>exact ⟨fun e=>(p1 e).bool,p2⟩
     cases cc with
     | true=>rw [key.1 rfl];cases x<;>cases want<;>rfl
     | false=>rw [key.2 rfl];rfl
    .rename_i hx
     rw [hx] at h2
     refine main _ ?_ hv
     rw [h1]
     have key:v=undef:=by
      cases h2 with
      | pu _ _ p=>cases p with | gd _ _ _ p1 p2=>exact p2 rfl
      | gd _ _ _ p1 p2=>exact p2 rfl
     rw [key]
     rfl
    .exact hv.elim
   .cases hg
  .cases hg
end
end Go.Eng
