/- Proof. Conditions: none. -/
import Derived.Test.YtinbodeocoeneaaGreatDoorIc10
namespace Go.Eng
set_option linter.all false
/-! ### One operation -/
theorem pureC_pur {hp:CH} {α:AV} (h:α.pur=true):pureC hp α=pureC [] α∧shutC hp α=hp:=by
 cases α<;>first
  | exact ⟨rfl,rfl⟩
  | (simp [AV.pur] at h;done)
theorem pureL_pur {hp:CH}:∀{l:List AV},l.all AV.pur=true→pureL hp l=pureL [] l∧shutL hp l=hp
 | [],_=>⟨rfl,rfl⟩
 | α::r,h=>by
  simp only [List.all_cons,Bool.and_eq_true] at h
  obtain ⟨e1,e2⟩:=pureC_pur (hp:=hp) h.1
  obtain ⟨e3,e4⟩:=pureL_pur (hp:=hp) h.2
  refine ⟨?_,?_⟩
  .unfold pureL
   rw [e1,e3]
  .show shutL (shutC hp α) r=hp
   rw [e2,e4]
theorem cl_pur {α:AV} (h:pureV α=true) {cs:List AV} (e:α.cl=some cs):cs.all AV.pur=true:=by
 cases α<;>simp [pureV,AV.pur] at h<;>simp [AV.cl,AV.one] at e<;>first
  | (subst e;simp [AV.pur,h];done)
  | (obtain ⟨_,e⟩:=e;subst e;simp [AV.pur,h];done)
  | (subst e;simpa using h)
theorem parts_pur {hp:CH} {n:Nat}:∀{l:List AV},l.all pureV=true→partsL hp n l=partsL [] n l∧shutP hp l=hp
 | [],_=>⟨rfl,rfl⟩
 | α::r,h=>by
  simp only [List.all_cons,Bool.and_eq_true] at h
  obtain ⟨e3,e4⟩:=parts_pur (hp:=hp) (n:=n) h.2
  cases hc:α.cl with
  | none =>
   refine ⟨?_,?_⟩
   .unfold partsL;rw [hc]
   .unfold shutP;rw [hc];exact e4
  | some cs =>
   obtain ⟨e1,e2⟩:=pureL_pur (hp:=hp) (cl_pur h.1 hc)
   refine ⟨?_,?_⟩
   .unfold partsL
    rw [hc,e3]
    cases partsL [] n r with
    | none=>rfl
    | some l=>simp only [e1]
   .unfold shutP;rw [hc];show shutP (shutL hp cs) r=hp;rw [e2,e4]
theorem apR_to {hp:CH} {N id n:Nat} {x:AV} {l2:List (List AV)} {α:AV} {kc:Nat × Chunk} {z:Nat} (hid:id<N) (h:apR hp 0 id n x l2=some (α,kc,z)):apR hp N id n x l2=some (α,kc,N):=by
  cases x<;>simp only [apR] at h ⊢<;>first
    | (cases h;done)
    | (cases h; rw [Nat.max_eq_left (by omega)]; done)
    | (split at h
       . split at h
         . rename_i hc
           cases h
           rw [if_pos hc]
         . cases h
       . cases h)
theorem eff_run {P:Program} {o:CO} {env:EN} {hp:CH} {N id:Nat} (hid:id<N) (hc:o.op.isC=false) (hobs:o.op.obsB env true) (hP:o.op.effP hp fun s=>fet (s.ev env))
  {α:AV} {ws:CH} {R:List Nat} (he:o.op.eff hp (fun s=>fet (s.ev env)) id=some (α,ws,R)):vcRun P id { o with fz:=false } ⟨env,hp,N⟩ fun st'=>st'=⟨EN.set env o.dst α,ws++hp,N⟩:=by
 have hmx:max N (id+1)=N:=Nat.max_eq_left hid
 obtain ⟨d,op,g⟩:=o
 refine ⟨hobs,?_⟩
 simp only at he hP hc
 by_cases hv:op.isV=true
 .have e:op.eff hp (fun s=>fet (s.ev env)) id=match op.val hp (fun s=>fet (s.ev env)) with
   | some α=>some (α,[],op.rd fun s=>fet (s.ev env))
   | none=>none:=by cases op<;>first | rfl | (simp [COp.isV] at hv)
  have e2:op.effP hp (fun s=>fet (s.ev env))=op.pre hp fun s=>fet (s.ev env):=by cases op<;>first | rfl | (simp [COp.isV] at hv)
  rw [e] at he
  rw [e2] at hP
  cases hx:op.val hp (fun s=>fet (s.ev env)) with
  | none=>rw [hx] at he;cases he
  | some β =>
   rw [hx] at he
   cases he
   have:valK hp (fun s=>fet (s.ev env)) op fun α'=>(⟨EN.set env d α',hp,N⟩:St)=⟨EN.set env d α,[]++hp,N⟩:=val_valK hP hx rfl
   cases op<;>first | exact this | (simp [COp.isV] at hv)
 .cases op
  case al z=>cases he;simp [hmx]
  case bo x =>
   simp only [COp.eff] at he
   split at he
   .rename_i c0 h1
    cases he
    simp [h1,hmx]
   .cases he
  case nl=>cases he
  case mk=>cases he;simp [hmx]
  case alb=>cases he;simp [hmx]
  case mu x s y =>
   simp only [COp.eff] at he
   split at he
   .rename_i k b h1 h2
    split at he
    .rename_i l hk
     cases he
     simp only [COp.effP] at hP
     simp only [h1,h2,muK,hk]
     exact ⟨hP,rfl⟩
    .cases he
   .cases he
  case st x y m =>
   simp only [COp.eff] at he
   split at he
   .rename_i c0 k off h1 h2
    split at he
    .rename_i old hk
     cases he
     simp only [COp.effP,h1,h2,hk] at hP
     simp only [h1,stK,h2,hk]
     exact ⟨hP.1,hP.2.1,hP.2.2,rfl⟩
    .cases he
   .rename_i c0 k g len n i off h1 h2
    split at he
    .rename_i g' n' l hk
     split at he
     .rename_i e hl
      cases he
      simp only [COp.effP,h1,h2,hk] at hP
      simp only [h1,stK,h2,hk]
      exact ⟨hP.1,hP.2.1,hP.2.2,e,hl,rfl⟩
     .cases he
    .rename_i g' n' l hk
     split at he
     .rename_i e hl
      cases he
      simp only [COp.effP,h1,h2,hk] at hP
      simp only [h1,stK,h2,hk]
      exact ⟨hP.1,hP.2.1,hP.2.2,e,hl,rfl⟩
     .cases he
    .cases he
   .cases he
  case bs fz n ps =>
   simp only [COp.effP] at hP
   obtain ⟨p1,p2⟩:=parts_pur (hp:=hp) (n:=n) hP
   simp only [COp.eff] at he
   simp only
   rw [p2,p1]
   split at he
   .rename_i l hl
    split at he
    .rename_i hf
     cases he
     rw [if_pos hf]
     rfl
    .rename_i hf
     cases he
     rw [if_neg hf,hmx]
     rfl
   .cases he
  case ap x y n bytes =>
   simp only [COp.eff] at he
   split at he
   .rename_i l2 h1
    split at he
    .rename_i α' kc z h2
     cases he
     simp only [COp.effP,h1] at hP
     simp only [nstF,h1,apR_to hid h2]
     exact ⟨hP.1,hP.2.1,hP.2.2,rfl⟩
    .cases he
   .cases he
  case aps x y =>
   simp only [COp.eff] at he
   split at he
   .rename_i b h1
    split at he
    .rename_i α' kc z h2
     cases he
     simp only [COp.effP,h1] at hP
     simp only [h1,apR_to hid h2]
     exact ⟨hP,rfl⟩
    .cases he
   .cases he
  case ms l c n bytes z =>
   simp only [COp.eff] at he
   split at he
   .rename_i kk x h1
    cases he
    simp only [COp.effP,h1] at hP
    simp only [h1]
    split at hP
    .rename_i k1 x' k2 y e1 e2
     cases e1
     obtain ⟨q1,q2,q3,q4,q5,q6⟩:=hP
     exact ⟨q1,q2,q3,q4,q5,q6,by rw [hmx];rfl⟩
    .exact hP.elim
   .cases he
  all_goals first
   | (simp [COp.isC] at hc;done)
   | simp [COp.isV] at hv
theorem call_enter {P:Program} {C:Ctx} {st:St} {h:HP} {ρ:RO} {a:Act} {w:World} (S:Sat C st h ρ a w) {p:Prop} (hp:p) {ops:List Oper} {o:Oper} {c:COp} (hc:cop P C.N ops o=some c) (hobs:c.obs st.env p) :
    (∀ f xs, c = .cl f xs → ∃ vs, RelL h ρ (xs.map fun s => fet (s.ev st.env)) vs ∧ (execOp a.eval o).run P w = (callFunc f vs.toArray).run P w) ∧
    (∀ f xs g caps, c = .cc f xs → fet (f.ev st.env) = .fn g caps → ∃ vs, RelL h ρ (xs.map (fun s => fet (s.ev st.env)) ++ caps) vs ∧ (execOp a.eval o).run P w = (callFunc g vs.toArray).run P w) := by
  by_cases hC:c.isC=true
  . have key : ∃ cc, o.op = .call cc := by
      unfold cop at hc
      split at hc
      all_goals first
        | exact ⟨_, by assumption⟩
        | (exfalso
           repeat' (split at hc)
           all_goals first
             | (cases hc;done)
             | (cases hc;cases hC;done)
             | (unfold nlC at hc;split at hc<;>(cases hc<;>cases hC);done)
             | (rcases alC_or hc with ⟨_,_,rfl⟩ | ⟨_,rfl,_⟩<;>cases hC;done)
             | (obtain ⟨_,_,rfl⟩:=Option.map_eq_some_iff.1 hc;cases hC;done))
    obtain ⟨cc,ho⟩:=key
    simp only [cop,ho] at hc
    split at hc
    . exfalso
      repeat' (split at hc)
      all_goals first
        | (cases hc;done)
        | (cases hc;cases hC;done)
    . exfalso
      repeat' (split at hc)
      all_goals first
        | (cases hc;done)
        | (cases hc;cases hC;done)
        | (obtain ⟨_,_,rfl⟩:=Option.map_eq_some_iff.1 hc;cases hC;done)
    . exfalso
      repeat' (split at hc)
      all_goals first
        | (cases hc;done)
        | (cases hc;cases hC;done)
    . exfalso
      repeat' (split at hc)
      all_goals first
        | (cases hc;done)
        | (cases hc;cases hC;done)
    . rename_i f hcal
      refine ⟨fun f' xs e=>?_,fun f' xs g caps e=>?_⟩
      . cases ea : srcs C.N cc.args.toList with
        | none => simp [ea] at hc
        | some l =>
          simp [ea] at hc
          subst hc
          cases e
          have r:=srcs_rel S hp ea hobs
          refine ⟨_,r,?_⟩
          have em : cc.args.map a.eval = (cc.args.toList.map a.eval).toArray := by apply Array.ext'; simp
          simp [execOp,ho,resolve,hcal,Act.eval,Deferred.ofValue,invoke]
          rw [em]
      . cases ea : srcs C.N cc.args.toList with
        | none => simp [ea] at hc
        | some l => simp [ea] at hc; subst hc; cases e
    . rename_i f _ hcal
      refine ⟨fun f' xs e=>?_,fun f' xs g caps e hg=>?_⟩
      . split at hc
        . cases hc; cases e
        . cases hc
      . split at hc
        . rename_i sx l ex el
          cases hc
          cases e
          have rf:=src_rel S hp ex hobs.1
          rw [hg] at rf
          obtain ⟨cs,ev,rcs⟩:=rf.func
          have r:=srcs_rel S hp el hobs.2
          refine ⟨(cc.args.toList.map a.eval) ++ cs, ⟨by have h1 := r.1; have h2 := rcs.1; simp at h1 ⊢; omega, fun j α v g1 g2 => ?_⟩, ?_⟩
          . rw [List.getElem?_append] at g1 g2
            have hl:=r.1
            rw [hl] at g1
            split at g1
            . rename_i hj
              rw [if_pos hj] at g2
              exact r.2 j α v g1 g2
            . rename_i hj
              rw [if_neg hj] at g2
              exact rcs.2 _ α v g1 g2
          . have em : cc.args.map a.eval ++ cs.toArray = ((cc.args.toList.map a.eval) ++ cs).toArray := by apply Array.ext'; simp
            simp [execOp,ho,resolve,hcal,ev,Deferred.ofValue,invoke]
            rw [em]
        . cases hc
    . cases hc
  . refine ⟨fun f xs e => ?_, fun f xs g caps e => ?_⟩ <;> (subst e; exact absurd rfl hC)
section
variable {P:Program} {C:Ctx}
theorem callF {env:EN} {hp:CH} {N1:Nat} {h:HP} {ρ:RO} {a:Act} {w:World} (S:Sat C ⟨env,hp,N1⟩ h ρ a w) {o:Oper} {g:FuncId} {args:List AV} {vs:List Value} (hr:RelL h ρ args vs)
  (hx:(execOp a.eval o).run P w=(callFunc g vs.toArray).run P w) {r β:AV} (m:MeetsF P g hp N1 args r) (hβ:∀h v,PRel h r v→PRel h β v) (k0:Nat) (Q:Exit→Act→World→Prop) :
  o.wp P a w (fun a' w'=>∃h' ρ',Sat C ⟨EN.set env o.dst β,[]++hp,N1⟩ h' ρ' a' w'∧Fr ρ ρ' k0) Q:=by
 obtain ⟨⟨fn,hf,hnm,hb⟩,hm⟩:=m
 have:(execOp a.eval o).run P w=.ok (.enter g vs.toArray) w:=by
  rw [hx]
  simp only [callFunc,Sem.run_bind,run_program,Result.andThen_ok,hf,hnm,hb]
  rfl
 unfold Oper.wp
 rw [this]
 refine (hm h ρ w vs S.mem hr).mono fun e w' ⟨v,he,h',hh,hmem,hrel,hkeep⟩=>?_
 subst he
 exact ⟨h',ρ,S.step hh (RLe.refl _) hmem hkeep (fun b hb=>.inl hb) o.dst (.pu _ _ (hβ _ _ hrel)),Fr.refl _ _⟩
theorem wsOk_mem {hp:CH} {n0:Nat} {ks:List Nat}:∀{ws:CH} {k:Nat},wsOk hp n0 ks ws→k∈keys ws→k<n0∧nOk (gc hp k)∧∀hp2,∃c,gc (ws++hp2) k=c∧cOk ks c
 | (k',c)::r,k,h,hk=>by
  by_cases e:k'=k
  .subst e
   exact ⟨h.1,h.2.1,fun hp2=>⟨c,gc_cons_same,h.2.2.1⟩⟩
  .have hk2:k∈keys r:=by
    unfold keys at hk ⊢
    rcases List.mem_cons.1 hk with q | q
    .exact absurd q.symm e
    .exact q
   obtain ⟨h1,h2,h3⟩:=wsOk_mem h.2.2.2 hk2
   exact ⟨h1,h2,fun hp2=>by obtain ⟨c2,g1,g2⟩:=h3 hp2;exact ⟨c2,(gc_cons_ne e).trans g1,g2⟩⟩
theorem gc_ws_ne {hp:CH} {k:Nat}:∀{ws:CH},¬k∈keys ws→gc (ws++hp) k=gc hp k
 | [],_=>rfl
 | (k',c)::r,h=>by
  have h1:k'≠k:=fun e=>h (by simp [keys,e])
  have h2:¬k∈keys r:=fun e=>h (by unfold keys at e ⊢;simp only [List.map_cons,List.mem_cons];exact .inr e)
  exact (gc_cons_ne h1).trans (gc_ws_ne h2)
theorem aOk_rel {h:HP} {ρ ρ2:RO} {ks:List Nat} {α:AV} {v:Value} (hr:∀k∈ks,∀g,ρ2 k g=ρ k g) (o:aOk ks α) (r:Rel h ρ α v):Rel h ρ2 α v:=by
 cases α with
 | rw k g len =>
  cases r with
  | pu _ _ p=>exact .pu _ _ p
  | rw _ _ _ cap a ob e hl ha=>exact .rw _ _ _ _ _ _ ((hr k o g).trans e) hl ha
 | _=>exact .pu _ _ (AV.pur_rel r o)
theorem asOk_get {ks:List Nat}:∀{l:List AV} {j:Nat} {α:AV},asOk ks l→l[j]?=some α→aOk ks α
 | [],j,α,_,h=>by simp at h
 | a::l,0,α,o,h=>by simp at h;subst h;exact o.1
 | a::l,j+1,α,o,h=>asOk_get o.2 (by simpa using h)
theorem callW {env:EN} {hp:CH} {N1 n0 id:Nat} {h:HP} {ρ:RO} {a:Act} {w:World} (S:Sat C ⟨env,hp,N1⟩ h ρ a w) {o:Oper} {g:FuncId} {args:List AV} {vs:List Value} (hr:RelL h ρ args vs)
  (hx:(execOp a.eval o).run P w=(callFunc g vs.toArray).run P w) (hn:n0≤N1) {r:AV} {ws:CH} (hw:wsOk hp n0 (keys ws) ws) (hp0:r.purR=true)
  (mt:Meets P g hp N1 args fun hp2 n2 r2=>hp2=ws++hp∧n2=N1∧r2=r) (Q:Exit→Act→World→Prop) :
  o.wp P a w (fun a' w'=>∃h' ρ',Sat C ⟨EN.set env o.dst r,ws++hp,N1⟩ h' ρ' a' w'∧Fr ρ ρ' id) Q:=by
 obtain ⟨⟨fn,hf,hnm,hb⟩,hm⟩:=mt
 have:(execOp a.eval o).run P w=.ok (.enter g vs.toArray) w:=by
  rw [hx]
  simp only [callFunc,Sem.run_bind,run_program,Result.andThen_ok,hf,hnm,hb]
  rfl
 unfold Oper.wp
 rw [this]
 refine (hm h ρ w vs S.mem hr).mono fun e w' ⟨v,he,h',ρ',_,_,_,⟨rfl,rfl,rfl⟩,hh,hrr,hmem,hrel,hkeep,hlv⟩=>?_
 subst he
 classical
 have hρ2:∃ρ2:RO,(∀k∈keys ws,∀g,ρ2 k g=ρ' k g)∧(∀k,¬k∈keys ws→∀g,ρ2 k g=ρ k g) :=
  ⟨fun k g=>if k∈keys ws then ρ' k g else ρ k g,fun k hk g=>if_pos hk,fun k hk g=>if_neg hk⟩
 obtain ⟨ρ2,a1,a2⟩:=hρ2
 have l1:RLe ρ ρ2:=fun k g x e=>by
  by_cases hk:k∈keys ws
  .rw [a1 k hk];exact hrr _ _ _ e
  .rw [a2 k hk];exact e
 have l2:RLe ρ2 ρ':=fun k g x e=>by
  by_cases hk:k∈keys ws
  .rw [a1 k hk] at e;exact e
  .rw [a2 k hk] at e;exact hrr _ _ _ e
 have lv:∀b,live ρ2 (ws++hp) b→live ρ' (ws++hp) b:=fun b ⟨k,g,c,q1,q2⟩=>⟨k,g,c,q1,l2 _ _ _ q2⟩
 refine ⟨h',ρ2,S.step hh l1 ⟨hmem.hh,fun k=>?_,fun k k' g g' b c c' q1 q2 q3 q4=>hmem.inj k k' g g' b c c' q1 q2 (l2 _ _ _ q3) (l2 _ _ _ q4),fun b hb=>hmem.hid b (lv b hb),fun b hb=>hmem.lt b (lv b hb),fun k g hk=>?_,
  fun k g g' x q1 q2=>hmem.gens k g g' x q1 (l2 _ _ _ q2),hmem.gl⟩ hkeep (fun b hb=>hlv b (lv b hb)) o.dst (.pu _ _ (AV.purR_rel hrel hp0)),fun k hk hfr g=>?_⟩
 .have s1:=hmem.ch k
  show (gc (ws++hp) k).sat _ _ _ _
  by_cases hk:k∈keys ws
  .obtain ⟨_,_,h3⟩:=wsOk_mem hw hk
   obtain ⟨c,e1,e2⟩:=h3 hp
   rw [e1] at s1 ⊢
   cases c with
   | no=>trivial
   | bx cs =>
    obtain ⟨b,c,us,ty,g1,g2,g3,g4⟩:=s1
    exact ⟨b,c,us,ty,(a1 k hk 0).trans g1,g2,g3,fun j α u x y=>aOk_rel a1 (asOk_get e2 x) (g4 j α u x y)⟩
   | rw g n l=>obtain ⟨ob,cap,g1,g2⟩:=s1;exact ⟨ob,cap,(a1 k hk g).trans g1,g2⟩
   | sh g n l=>obtain ⟨ob,cap,g1,g2⟩:=s1;exact ⟨ob,cap,(a1 k hk g).trans g1,g2⟩
   | mp l=>obtain ⟨b,c,es,cl,g1,g2⟩:=s1;exact ⟨b,c,es,cl,(a1 k hk 0).trans g1,g2⟩
   | ro cs=>obtain ⟨b,c,us,ty,fr,g1,g2⟩:=s1;exact ⟨b,c,us,ty,fr,(a1 k hk 0).trans g1,g2⟩
   | rn g n l=>exact e2.elim
   | sb T e g bs =>
    obtain ⟨b,c,p,v,b1,b2,b3,b4,b5,⟨y,b6⟩,b7⟩:=s1
    exact ⟨b,c,p,v,(a1 k hk 0).trans b1,b2,b3,b4,b5,⟨y,(a1 k hk g).trans b6⟩,fun x hx=>⟨(b7 x hx).1,let ⟨c2,q⟩:=(b7 x hx).2;⟨c2,(a1 k hk g).trans q⟩⟩⟩
  .rw [gc_ws_ne hk] at s1 ⊢
   exact Chunk.sat_mono (HLe.refl _) l1 (fun _ _ _ _ _=>rfl) (Chunk.back hrr (S.mem.ch k) s1)
 .have hkn:¬k∈keys ws:=fun hk'=>by have:=(wsOk_mem hw hk').1;have:N1≤k:=hk;omega
  rw [a2 k hkn]
  exact S.mem.fr k g hk
 .by_cases hk':k∈keys ws
  .exfalso
   obtain ⟨_,h2,_⟩:=wsOk_mem hw hk'
   have hc:=S.mem.ch k
   cases hg:gc hp k with
   | no=>rw [hg] at h2;exact h2
   | bx cs=>rw [show gc hp k=.bx cs from hg] at hc;obtain ⟨_,_,_,_,q,_⟩:=hc;rw [hfr] at q;cases q
   | rw g n l=>rw [show gc hp k=.rw g n l from hg] at hc;obtain ⟨_,_,q,_⟩:=hc;rw [hfr] at q;cases q
   | sh g n l=>rw [show gc hp k=.sh g n l from hg] at hc;obtain ⟨_,_,q,_⟩:=hc;rw [hfr] at q;cases q
   | mp l=>rw [show gc hp k=.mp l from hg] at hc;obtain ⟨_,_,_,_,q,_⟩:=hc;rw [hfr] at q;cases q
   | ro cs=>rw [show gc hp k=.ro cs from hg] at hc;obtain ⟨_,_,_,_,_,q,_⟩:=hc;rw [hfr] at q;cases q
   | rn g n l=>rw [show gc hp k=.rn g n l from hg] at hc;obtain ⟨_,_,q,_⟩:=hc;rw [hfr] at q;cases q
   | sb T e g bs=>rw [show gc hp k=.sb T e g bs from hg] at hc;obtain ⟨_,_,_,_,q,_⟩:=hc;rw [hfr] at q;cases q
  .rw [a2 k hk']
   exact hfr g
theorem callR {env:EN} {hp:CH} {N1 id:Nat} {h:HP} {ρ:RO} {a:Act} {w:World} (S:Sat C ⟨env,hp,N1⟩ h ρ a w) {o:Oper} {g:FuncId} {args:List AV} {vs:List Value} (hr:RelL h ρ args vs)
  (hx:(execOp a.eval o).run P w=(callFunc g vs.toArray).run P w) (hid:id<N1) (hfree:∀g,ρ id g=none) {m:Nat} {l:List (List AV)}
  (mt:Meets P g hp N1 args fun hp2 n2 r2=>hp2=(N1,.rw 0 m l)::hp∧n2=N1+1∧r2=.rw N1 0 l.length) (Q:Exit→Act→World→Prop) :
  o.wp P a w (fun a' w'=>∃h' ρ',Sat C ⟨EN.set env o.dst (.rw id 0 l.length),[(id,.rw 0 m l)]++hp,N1⟩ h' ρ' a' w'∧Fr ρ ρ' id) Q:=by
 obtain ⟨⟨fn,hf,hnm,hb⟩,hm⟩:=mt
 have:(execOp a.eval o).run P w=.ok (.enter g vs.toArray) w:=by
  rw [hx]
  simp only [callFunc,Sem.run_bind,run_program,Result.andThen_ok,hf,hnm,hb]
  rfl
 unfold Oper.wp
 rw [this]
 refine (hm h ρ w vs S.mem hr).mono fun e w' ⟨v,he,h',ρ',_,_,_,⟨rfl,rfl,rfl⟩,hh,hrr,hmem,hrel,hkeep,hlv⟩=>?_
 subst he
 cases hrel with
 | pu _ _ p=>cases p
 | rw _ _ _ cap ad ob e1 hlc ha =>
  have hle:RLe ρ (rset ρ id 0 (ob,cap)):=rset_le (ob,cap) (hfree 0)
  have hno:∀k,N1≤k→gc hp k=.no:=fun k hk=>by
   have hc:=S.mem.ch k
   have hn:=fun g=>S.mem.fr k g hk
   cases hg:gc hp k with
   | no=>rfl
   | bx cs=>rw [hg] at hc;obtain ⟨_,_,_,_,q,_⟩:=hc;rw [hn] at q;cases q
   | rw g n l=>rw [hg] at hc;obtain ⟨_,_,q,_⟩:=hc;rw [hn] at q;cases q
   | sh g n l=>rw [hg] at hc;obtain ⟨_,_,q,_⟩:=hc;rw [hn] at q;cases q
   | mp l=>rw [hg] at hc;obtain ⟨_,_,_,_,q,_⟩:=hc;rw [hn] at q;cases q
   | ro cs=>rw [hg] at hc;obtain ⟨_,_,_,_,_,q,_⟩:=hc;rw [hn] at q;cases q
   | rn g n l=>rw [hg] at hc;obtain ⟨_,_,q,_⟩:=hc;rw [hn] at q;cases q
   | sb T e g bs=>rw [hg] at hc;obtain ⟨_,_,_,_,q,_⟩:=hc;rw [hn] at q;cases q
  have hkey:∀k g b c,(gc ((id,.rw 0 m l)::hp) k).own g→rset ρ id 0 (ob,cap) k g=some (some b,c) →
    ∃k2 g2,(gc ((N1,.rw 0 m l)::hp) k2).own g2∧ρ' k2 g2=some (some b,c)∧((k=id∧k2=N1)∨(k≠id∧k2=k∧k<N1)):=by
   intro k g b c q1 q2
   by_cases hk:id=k
   .subst hk
    rw [gc_cons_same] at q1
    cases q1
    rw [rset_same] at q2
    cases q2
    exact ⟨N1,0,by rw [gc_cons_same];rfl,e1,.inl ⟨rfl,rfl⟩⟩
   .rw [gc_cons_ne hk] at q1
    rw [rset_ne _ _ (fun e=>hk e.symm)] at q2
    have hkn:k<N1:=by
     rcases Nat.lt_or_ge k N1 with q | q
     .exact q
     .rw [hno k q] at q1;cases q1
    exact ⟨k,g,by rw [gc_cons_ne (by omega)];exact q1,hrr _ _ _ q2,.inr ⟨fun e=>hk e.symm,rfl,hkn⟩⟩
  have hlive:∀b,live (rset ρ id 0 (ob,cap)) ((id,.rw 0 m l)::hp) b→live ρ' ((N1,.rw 0 m l)::hp) b:=fun b ⟨k,g,c,q1,q2⟩=>by
   obtain ⟨k2,g2,r1,r2,_⟩:=hkey k g b c q1 q2
   exact ⟨k2,g2,c,r1,r2⟩
  refine ⟨h',rset ρ id 0 (ob,cap),S.step hh hle ⟨hmem.hh,fun k=>?_,fun k k' g g' b c c' q1 q2 q3 q4=>?_,fun b hb=>hmem.hid b (hlive b hb),fun b hb=>hmem.lt b (hlive b hb),fun k g hk=>?_,fun k g g' x q1 q2=>?_,hmem.gl⟩ hkeep (fun b hb=>hlv b (hlive b hb)) o.dst (.rw _ _ _ _ _ ob (rset_same _ _ _ _) hlc ha),Fr.new _ _ _ _⟩
  .show (gc ((id,.rw 0 m l)::hp) k).sat _ _ _ _
   by_cases hk:id=k
   .subst hk
    rw [gc_cons_same]
    have s1:=hmem.ch N1
    rw [gc_cons_same] at s1
    obtain ⟨ob',cap',z1,z2⟩:=s1
    rw [e1] at z1
    cases z1
    exact ⟨ob,_,rset_same _ _ _ _,z2⟩
   .rw [gc_cons_ne hk]
    rcases Nat.lt_or_ge k N1 with hkn | hkn
    .have s1:=hmem.ch k
     rw [gc_cons_ne (by omega)] at s1
     exact Chunk.sat_mono (HLe.refl _) hle (fun _ _ _ _ _=>rfl) (Chunk.back hrr (S.mem.ch k) s1)
    .rw [hno k hkn];trivial
  .obtain ⟨k1,g1,r1,r2,r3⟩:=hkey k g b c q1 q3
   obtain ⟨k2,g2,t1,t2,t3⟩:=hkey k' g' b c' q2 q4
   have:=hmem.inj k1 k2 g1 g2 b c c' r1 t1 r2 t2
   omega
  .have hk:N1≤k:=hk
   rw [rset_ne _ _ (by omega)]
   exact S.mem.fr k g hk
  .by_cases hk:id=k
   .subst hk
    by_cases hg:g'=0
    .omega
    .have:rset ρ id 0 (ob,cap) id g'=ρ id g':=by simp [rset,hg]
     rw [this,hfree] at q2
     cases q2
   .rw [gc_cons_ne hk] at q1
    rw [rset_ne _ _ (fun e=>hk e.symm)] at q2
    exact S.mem.gens k g g' x q1 q2
theorem dRun_step {ops:List Oper} {o:Oper} {d:DO} {n0 N1 i:Nat} {env:EN} {hp:CH} {h:HP} {ρ:RO} {a:Act} {w:World} {α:AV} {ws:CH} {R:List Nat} {c:Bool}
  (hc:cop P C.N ops o=some d.o.op) (hd:d.o.dst=o.dst) (hi:n0+i<N1) (S:Sat C ⟨env,hp,N1⟩ h ρ a w) (hfree:∀g,ρ (n0+i) g=none) (hobs:d.o.op.obsB env true)
  (hv:dRun P n0 N1 i d env hp fun α' ws' R' c'=>α'=α∧ws'=ws∧R'=R∧c'=c) (Q:Exit→Act→World→Prop) :
  o.wp P a w (fun a' w'=>∃h' ρ',Sat C ⟨EN.set env o.dst α,ws++hp,N1⟩ h' ρ' a' w'∧Fr ρ ρ' (n0+i)) Q:=by
 obtain ⟨en1,en2⟩:=call_enter (P:=P) S (p:=True) trivial hc (COp.obsB_obs (fun _=>rfl) hobs)
 rcases COp.cases_c d.o.op with ⟨f,xs,e⟩ | ⟨f,xs,e⟩ | e
 .obtain ⟨⟨dd,op,g⟩,un,lg,bf⟩:=d
  simp only at e
  subst e
  obtain ⟨vs,r1,r2⟩:=en1 f xs rfl
  rcases hv with ⟨r,h1,rfl,rfl,_⟩ | ⟨m,l,h1,rfl,rfl,_⟩ | ⟨r,ws,h0,h3,h1,rfl,rfl,_⟩
  .exact callF S r1 r2 (h1 hp fun _ _=>rfl) (fun _ _ h=>h) _ Q
  .exact callR S r1 r2 hi hfree (h1 hp fun _ _=>rfl) Q
  .exact callW S r1 r2 (Nat.le_trans (Nat.le_add_right _ _) (Nat.le_of_lt hi)) h0 h3 (h1 hp fun _ _=>rfl) Q
 .obtain ⟨⟨dd,op,g⟩,un,lg,bf⟩:=d
  simp only at e
  subst e
  unfold dRun at hv
  simp only at hv
  split at hv
  .rename_i g' caps hg
   obtain ⟨r,h1,rfl,rfl,_⟩:=hv
   obtain ⟨vs,r1,r2⟩:=en2 f xs g' caps rfl hg
   exact callF S r1 r2 (h1 rfl hp fun _ _=>rfl) (fun _ _ h=>h) _ Q
  .exact hv.elim
 .rw [dRun_e e] at hv
  obtain ⟨h1,h2⟩:=hv
  split at h2
  .rename_i α' ws' R' he
   obtain ⟨rfl,rfl,rfl,_⟩:=h2
   have hr:=eff_run (P:=P) hi e hobs h1 he
   obtain ⟨⟨dd,op,g⟩,un,lg,bf⟩:=d
   simp only at hd
   subst hd
   refine Oper.wp_mono (fun a' w' ⟨st',h',ρ',k,s,f⟩=>?_) (runAt_sound (P:=P) hc hr S hfree Q)
   subst k
   exact ⟨h',ρ',s,f.1 e⟩
  .exact h2.elim
theorem dG_false {d:DO} {n0 N1 i:Nat} {env:EN} {hp:CH} {α:AV} {ws:CH} {R:List Nat} {c:Bool} (hv:dG P n0 N1 i d env hp false fun α' ws' R' c'=>α'=α∧ws'=ws∧R'=R∧c'=c):∃x,α=.gd false x∧ws=[]:=by
 rcases COp.cases_c d.o.op with ⟨f,xs,e⟩ | ⟨f,xs,e⟩ | e
 .obtain ⟨⟨dd,op,g⟩,un,lg,bf⟩:=d
  simp only at e
  subst e
  obtain ⟨_,r,h1,rfl,rfl,_⟩:=hv
  exact ⟨_,rfl,rfl⟩
 .obtain ⟨⟨dd,op,g⟩,un,lg,bf⟩:=d
  simp only at e
  subst e
  unfold dG at hv
  simp only at hv
  obtain ⟨_,hv⟩:=hv
  split at hv
  .obtain ⟨r,h1,rfl,rfl,_⟩:=hv
   exact ⟨_,rfl,rfl⟩
  .exact hv.elim
 .rw [dG_e e] at hv
  obtain ⟨_,hv⟩:=hv
  split at hv
  .obtain ⟨_,_,rfl,rfl,_⟩:=hv
   exact ⟨_,rfl,rfl⟩
  .rcases hv with ⟨x,_⟩ | ⟨_,rfl,rfl,_⟩
   .cases x
   .exact ⟨_,rfl,rfl⟩
theorem dG_step {ops:List Oper} {o:Oper} {d:DO} {n0 N1 i:Nat} {env:EN} {hp:CH} {h:HP} {ρ:RO} {a:Act} {w:World} {α:AV} {ws:CH} {R:List Nat} {c:Bool}
  (hc:cop P C.N ops o=some d.o.op) (hd:d.o.dst=o.dst) (hi:n0+i<N1) (S:Sat C ⟨env,hp,N1⟩ h ρ a w) (hfree:∀g,ρ (n0+i) g=none)
  (hv:dG P n0 N1 i d env hp true fun α' ws' R' c'=>α'=α∧ws'=ws∧R'=R∧c'=c) (Q:Exit→Act→World→Prop) :
  o.wp P a w (fun a' w'=>∃h' ρ',Sat C ⟨EN.set env o.dst α,ws++hp,N1⟩ h' ρ' a' w'∧Fr ρ ρ' (n0+i)) Q:=by
 have hgd:∀(r:AV) (h:HP) (v:Value),PRel h r v→PRel h (.gd true r) v:=fun r h v p=>.gd _ _ _ (fun _=>p) (fun e=>by cases e)
 rcases COp.cases_c d.o.op with ⟨f,xs,e⟩ | ⟨f,xs,e⟩ | e
 .obtain ⟨⟨dd,op,g⟩,un,lg,bf⟩:=d
  simp only at e
  subst e
  obtain ⟨hobs,r,h1,rfl,rfl,_⟩:=hv
  obtain ⟨en1,en2⟩:=call_enter (P:=P) S (p:=True) trivial hc (COp.obsB_obs (fun _=>rfl) hobs)
  obtain ⟨vs,r1,r2⟩:=en1 f xs rfl
  exact callF S r1 r2 (h1 rfl hp fun _ _=>rfl) (hgd _) _ Q
 .obtain ⟨⟨dd,op,g⟩,un,lg,bf⟩:=d
  simp only at e
  subst e
  unfold dG at hv
  simp only at hv
  obtain ⟨hobs,hv⟩:=hv
  obtain ⟨en1,en2⟩:=call_enter (P:=P) S (p:=True) trivial hc (COp.obsB_obs (fun _=>rfl) hobs)
  split at hv
  .rename_i g' caps hg
   obtain ⟨r,h1,rfl,rfl,_⟩:=hv
   obtain ⟨vs,r1,r2⟩:=en2 f xs g' caps rfl hg
   exact callF S r1 r2 (h1 rfl hp fun _ _=>rfl) (hgd _) _ Q
  .exact hv.elim
 .rw [dG_e e] at hv
  obtain ⟨hobs,hv⟩:=hv
  split at hv
  .rename_i hV
   obtain ⟨h1,h2,rfl,rfl,_⟩:=hv
   obtain ⟨β,hβ⟩:=Option.isSome_iff_exists.1 (h2 rfl)
   obtain ⟨v,v1,v2⟩:=val_sound (P:=P) S (p:=True) trivial hc hV (COp.obsB_obs (fun _=>rfl) hobs) (h1 rfl) hβ
   unfold Oper.wp
   rw [v1]
   refine ⟨h,ρ,?_,Fr.refl _ _⟩
   rw [hβ]
   exact S.val o.dst (.gd _ _ _ (fun _=>v2) (fun e=>by cases e))
  .rcases hv with ⟨_,hv⟩ | ⟨x,_⟩
   .exact dRun_step hc hd hi S hfree hobs hv Q
   .cases x
theorem dOp_step {ops:Array Oper} {o:Oper} {d:DO} {n0 N1 i:Nat} {env:EN} {hp:CH} {h:HP} {ρ:RO} {a:Act} {w:World} {α:AV} {ws:CH} {R:List Nat} {c:Bool}
  (hc:cop P C.N ops.toList o=some d.o.op) (hg:cguard C.N ops.toList o.guard=some d.o.g) (hd:d.o.dst=o.dst) (hi:n0+i<N1) (S:Sat C ⟨env,hp,N1⟩ h ρ a w) (hfree:∀g,ρ (n0+i) g=none)
  (hv:dOp P n0 N1 i d env hp fun α' ws' R' c'=>α'=α∧ws'=ws∧R'=R∧c'=c) (Q:Exit→Act→World→Prop) :
  if Region.wanted o (yielded ops a.tmps) then o.wp P a w (fun a' w'=>∃h' ρ',Sat C ⟨EN.set env o.dst α,ws++hp,N1⟩ h' ρ' a' w'∧Fr ρ ρ' (n0+i)) Q
  else ∃h' ρ',Sat C ⟨EN.set env o.dst α,ws++hp,N1⟩ h' ρ' (a.put o.dst undef) w∧Fr ρ ρ' (n0+i):=by
 unfold dOp at hv
 cases ho:o.guard with
 | none =>
  rw [ho] at hg
  simp [cguard] at hg
  rw [←hg] at hv
  rw [if_pos (by simp [Region.wanted,ho])]
  exact dRun_step hc hd hi S hfree hv.1 hv.2 Q
 | some jw =>
  obtain ⟨j,want⟩:=jw
  rw [ho] at hg
  unfold cguard at hg
  simp only at hg
  split at hg
  .rename_i t ht
   split at hg
   .rename_i htN
    simp only [Option.some.injEq] at hg
    rw [←hg] at hv
    simp only at hv
    have hj:(ops[j]?).bind (·.dst)=some t:=by simpa using ht
    have hw:Region.wanted o (yielded ops a.tmps)=(yielded ops a.tmps j == some want):=by simp [Region.wanted,ho]
    rw [hw,yielded_of hj]
    have main:∀G:Bool,(((match a.tmps[t]? with | some (.bool b)=>some b | _=>none) == some want)=G)→dG P n0 N1 i d env hp G (fun α' ws' R' c'=>α'=α∧ws'=ws∧R'=R∧c'=c) →
      if ((match a.tmps[t]? with | some (.bool b)=>some b | _=>none) == some want)=true then o.wp P a w (fun a' w'=>∃h' ρ',Sat C ⟨EN.set env o.dst α,ws++hp,N1⟩ h' ρ' a' w'∧Fr ρ ρ' (n0+i)) Q
      else ∃h' ρ',Sat C ⟨EN.set env o.dst α,ws++hp,N1⟩ h' ρ' (a.put o.dst undef) w∧Fr ρ ρ' (n0+i):=by
     intro G hGe hvg
     rw [hGe]
     cases G with
     | true =>
      rw [if_pos rfl]
      exact dG_step hc hd hi S hfree hvg Q
     | false =>
      rw [if_neg (by simp)]
      obtain ⟨x,rfl,rfl⟩:=dG_false hvg
      exact ⟨h,ρ,S.val o.dst (.gd _ _ _ (fun e=>by cases e) (fun _=>rfl)),Fr.refl _ _⟩
    obtain ⟨v,h1,h2⟩:=S.env t htN
    split at hv
    .rename_i x hx
     rw [hx] at h2
     rw [h2.bool] at h1
     exact main _ (by rw [h1];cases x<;>cases want<;>rfl) hv
    .rename_i cc x hx
     rw [hx] at h2
     refine main _ ?_ hv
     rw [h1]
     have key:(cc=true→v=.bool x)∧(cc=false→v=undef):=by
      cases h2 with
      | pu _ _ p=>cases p with | gd _ _ _ p1 p2=>exact ⟨fun e=>by cases p1 e;rfl,p2⟩
      | gd _ _ _ p1 p2=>exact ⟨fun e=>(p1 e).bool,p2⟩
     cases cc with
     | true=>rw [key.1 rfl];cases x<;>cases want<;>rfl
     | false=>rw [key.2 rfl];rfl
    .rename_i hx
     rw [hx] at h2
     refine main _ ?_ hv
     rw [h1]
     have key:v=undef:=by
      cases h2 with
      | pu _ _ p=>cases p with | gd _ _ _ p1 p2=>exact p2 rfl
      | gd _ _ _ p1 p2=>exact p2 rfl
     rw [key]
     rfl
    .exact hv.elim
   .cases hg
  .cases hg
end
end Go.Eng
