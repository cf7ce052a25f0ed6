/- Proof. Conditions: none. -/
import Derived.Scope
import Derived.Test.YtinbodeocoeneaaGreatDoorIc12
namespace Go.Eng
set_option linter.all false
section
variable {P:Program}
theorem er_skip {cc:CC} (h:CC.skip=cc.erase):cc=.skip:=by cases cc<;>simp [CC.erase] at h;rfl
theorem er_rg {cc:CC} {l:List CO} (h:CC.rg l=cc.erase):∃l',cc=.rg l'∧l=l'.map CO.er:=by cases cc<;>simp [CC.erase] at h;exact ⟨_,rfl,h⟩
theorem er_dr {cc:CC} {l:List DO} (h:CC.dr l []=cc.erase):∃dp,cc=.dr l dp:=by cases cc<;>simp [CC.erase] at h;subst h;exact ⟨_,rfl⟩
theorem er_sq {cc a b:CC} (h:CC.sq a b=cc.erase):∃a' b',(cc=.sq a' b'∨cc=.sqw a' b')∧a=a'.erase∧b=b'.erase:=by
 cases cc<;>simp [CC.erase] at h
 .exact ⟨_,_,.inl rfl,h.1,h.2⟩
 .exact ⟨_,_,.inr rfl,h.1,h.2⟩
theorem er_cd {cc a b:CC} {s:Src} (h:CC.cd s a b=cc.erase):∃a' b',cc=.cd s a' b'∧a=a'.erase∧b=b'.erase:=by cases cc<;>simp [CC.erase] at h;obtain ⟨rfl,h1,h2⟩:=h;exact ⟨_,_,rfl,h1,h2⟩
theorem er_bl {cc a:CC} {i:Nat} (h:CC.bl i a=cc.erase):∃a',cc=.bl i a'∧a=a'.erase:=by cases cc<;>simp [CC.erase] at h;obtain ⟨rfl,h1⟩:=h;exact ⟨_,rfl,h1⟩
theorem er_lp {cc a:CC} (h:CC.lp a=cc.erase):∃a',cc=.lp a'∧a=a'.erase:=by cases cc<;>simp [CC.erase] at h;exact ⟨_,rfl,h⟩
theorem er_ex {cc:CC} {i:Nat} (h:CC.ex i=cc.erase):cc=.ex i:=by cases cc<;>simp [CC.erase] at h;subst h;rfl
theorem er_rt {cc:CC} (h:CC.rt=cc.erase):cc=.rt:=by cases cc<;>simp [CC.erase] at h;rfl
def NG:Exit→Prop
 | .goto _=>False
 | _=>True
theorem Sat.since {C:Ctx} {st st':St} {h h':HP} {ρ ρ':RO} {a a':Act} {w w':World} (s:Sat C st h ρ a w) (t:Sat ⟨w,live ρ st.hp,h,ρ,C.N⟩ st' h' ρ' a' w'):Sat C st' h' ρ' a' w' :=
 ⟨s.hle.trans t.hle,s.rle.trans t.rle,s.keep.trans t.keep (fun k hk hl=>by
  rcases s.own k hl with q | q
  .omega
  .exact q),fun b hb=>by
  rcases t.own b hb with q | q
  .exact .inl (Nat.le_trans s.keep.size q)
  .exact s.own b q,t.mem,t.env,t.size,t.defers⟩
theorem Sat.now {C:Ctx} {st:St} {h:HP} {ρ:RO} {a:Act} {w:World} (s:Sat C st h ρ a w):Sat ⟨w,live ρ st.hp,h,ρ,C.N⟩ st h ρ a w :=
 ⟨HLe.refl _,RLe.refl _,Keeps.refl _ _,fun b hb=>.inr hb,s.mem,s.env,s.size,s.defers⟩
theorem vc_soundG:∀(c:Code) (C:Ctx) (cc:CC) (st:St) (Q:Exit→St→Prop) (a:Act) (w:World),ccode P C.N c=some cc.erase→vc P cc st Q→S C st a w →
    c.wp P (fun e a' w'=>NG e∧∃st',Q e st'∧S C st' a' w') a w:=by
  intro c
  induction c with
  | skip => intro C cc st Q a w hc hv hS; obtain rfl := er_skip (Option.some.inj hc); exact wp_skip ⟨trivial, st, hv, hS⟩
  | region id ops draw =>
    intro C cc st Q a w hc hv hS
    simp only [ccode] at hc
    split at hc
    . rename_i hd
      subst hd
      obtain ⟨dl,e⟩:=cdraw_dr hc
      obtain ⟨dp,rfl⟩:=er_dr e.symm
      exact draw_sound hc (vcD2_vcD _ _ _ _ _ _ hv) hS fun env hp a' w' k s=>⟨trivial,_,k,s.drop dp⟩
    . rename_i hd
      cases ec:cops P C.N ops.toList ops.toList with
      | none => simp [ec] at hc
      | some l =>
        rw [ec] at hc
        obtain ⟨l',rfl,e⟩:=er_rg (Option.some.inj hc)
        have hd' : draw = false := by simpa using hd
        subst hd'
        rw [e] at ec
        exact wp_region_list (ops_sound ops.toList l' st a w _ ec hv hS (fun st' a' w' k s=>⟨trivial,st',k,s⟩))
  | seq x y ihx ihy =>
    intro C cc st Q a w hc hv hS
    unfold ccode at hc
    split at hc
    . rename_i cx cy e1 e2
      obtain ⟨cx,cy,q,rfl,rfl⟩:=er_sq (Option.some.inj hc)
      rcases q with rfl | rfl
      . refine wp_seq (wp_mono (ihx C cx st _ a w e1 hv hS) fun e a' w' ⟨g, st', k, s⟩ => ?_)
        cases e with
        | normal => exact ihy C cy st' Q a' w' e2 k s
        | _ => exact ⟨g, st', k, s⟩
      . refine wp_seq (wp_mono (ihx C cx st _ a w e1 hv hS) fun e a' w' ⟨g, st', k, s⟩ => ?_)
        cases e with
        | normal =>
          obtain ⟨s2,hw,k⟩:=k
          exact ihy C cy s2 Q a' w' e2 k (hw C a' w' s)
        | _ => exact ⟨g, st', k, s⟩
    . cases hc
  | cond c x y ihx ihy =>
    intro C cc st Q a w hc hv hS
    unfold ccode at hc
    split at hc
    . rename_i sc cx cy e0 e1 e2
      obtain ⟨cx,cy,rfl,rfl,rfl⟩:=er_cd (Option.some.inj hc)
      obtain ⟨hob,hv⟩:=hv
      obtain ⟨h,ρ,s⟩:=hS
      split at hv
      . rename_i b hb
        have r := src_rel s trivial e0 (obB_ob (p := True) (fun _ => rfl) hob)
        rw [hb] at r
        refine wp_cond_split (t:=b) r.bool (fun hb=>?_) (fun hb=>?_)
        . exact ihx C cx st Q a w e1 (hv.1 hb) ⟨h, ρ, s⟩
        . exact ihy C cy st Q a w e2 (hv.2 hb) ⟨h, ρ, s⟩
      . exact hv.elim
    . cases hc
  | block id c ih =>
    intro C cc st Q a w hc hv hS
    simp only [ccode] at hc
    cases ec:ccode P C.N c with
    | none => simp [ec] at hc
    | some x =>
      rw [ec] at hc
      obtain ⟨x,rfl,rfl⟩:=er_bl (Option.some.inj hc)
      refine wp_block (wp_mono (ih C x st _ a w ec hv hS) fun e a' w' ⟨g,st',k,s⟩=>?_)
      cases e with
      | exit i =>
        simp only [Exit.inBlock]
        simp only at k
        split
        . rename_i hi
          rw [if_pos hi] at k
          exact ⟨trivial,st',k,s⟩
        . rename_i hi
          rw [if_neg hi] at k
          exact ⟨trivial,st',k,s⟩
      | _ => exact ⟨g, st', k, s⟩
  | loop c ih =>
    intro C cc st Q a w hc hv hS
    simp only [ccode] at hc
    cases ec:ccode P C.N c with
    | none => simp [ec] at hc
    | some x =>
      rw [ec] at hc
      obtain ⟨x,rfl,rfl⟩:=er_lp (Option.some.inj hc)
      obtain ⟨I,⟨m,s0,hm,hweak⟩,hround⟩:=hv
      have key:∀(m:Nat) (st:St) (a:Act) (w:World),I m st→S C st a w→(Code.loop c).wp P (fun e a' w'=>NG e∧∃st',Q e st'∧S C st' a' w') a w:=by
        intro m st a w hI hS b k cs
        have inner:∀(m:Nat) (st:St) (a:Act) (w:World),I m st→S C st a w →
            ∃e a' w',(NG e∧∃st',Q e st'∧S C st' a' w')∧Arrives P (lone (b.at a (.code c::.inLoop c::k)) cs w) b k cs e a' w':=by
          intro m
          induction m using Nat.strongRecOn with
          | _ m ihm =>
            intro st a w hI hS
            obtain ⟨h,ρ,hS⟩:=hS
            obtain ⟨e,a₁,w₁,⟨ng,st',hq,h1,ρ1,hs1⟩,harr⟩:=ih ⟨w,live ρ st.hp,h,ρ,C.N⟩ x st _ a w ec (hround m st hI) ⟨h,ρ,hS.now⟩ b (.inLoop c::k) cs
            have hs:S C st' a₁ w₁:=⟨h1,ρ1,hS.since hs1⟩
            cases e with
            | normal =>
              obtain ⟨m',s'',hlt,hI',hweak⟩:=hq
              obtain ⟨e₂,a₂,w₂,hq₂,harr₂⟩:=ihm m' hlt s'' a₁ w₁ hI' (let ⟨h2,ρ2,hs2⟩:=hweak ⟨w,live ρ st.hp,h,ρ,C.N⟩ a₁ w₁ hS.mem ⟨h1,ρ1,hs1⟩;⟨h2,ρ2,hS.since hs2⟩)
              exact ⟨e₂,a₂,w₂,hq₂,.of_steps (Steps.trans harr (.one step_inLoop)) harr₂⟩
            | exit id => exact ⟨_, a₁, w₁, ⟨ng, st', hq, hs⟩, .pass (x := .inLoop c) rfl (fun _ _ => .inl (by simp)) harr⟩
            | goto l => exact ⟨_, a₁, w₁, ⟨ng, st', hq, hs⟩, .pass (x := .inLoop c) rfl (fun _ _ => .inl (by simp)) harr⟩
            | ret => exact ⟨_, a₁, w₁, ⟨ng, st', hq, hs⟩, .pass (x := .inLoop c) rfl (fun _ _ => .inl (by simp)) harr⟩
            | panic ch => exact ⟨_, a₁, w₁, ⟨ng, st', hq, hs⟩, .pass (x := .inLoop c) rfl (fun _ _ => .inl (by simp)) harr⟩
            | outgrown => exact ⟨_, a₁, w₁, ⟨ng, st', hq, hs⟩, .pass (x := .inLoop c) rfl (fun _ _ => .inl (by simp)) harr⟩
        obtain ⟨e,a',w',hq,harr⟩:=inner m st a w hI hS
        exact ⟨e,a',w',hq,.of_steps (.one step_loop) harr⟩
      exact key m s0 a w hm (hweak C a w hS)
  | exit id => intro C cc st Q a w hc hv hS; obtain rfl := er_ex (Option.some.inj hc); exact wp_exit ⟨trivial, st, hv, hS⟩
  | ret => intro C cc st Q a w hc hv hS; obtain rfl := er_rt (Option.some.inj hc); exact wp_ret ⟨trivial, st, hv, hS⟩
  | rangeFunc f params asg b _ _ => intro C cc st Q a w hc; simp [ccode] at hc
  | scope b ih =>
    intro C cc st Q a w hc hv hS
    refine wp_scope_straight (wp_mono (ih C cc st Q a w hc hv hS) fun e a' w' ⟨g,st',k,s⟩=>?_)
    cases e with
    | goto l => exact g.elim
    | _ => exact ⟨g, st', k, s⟩
  | label l => intro C cc st Q a w hc hv hS; obtain rfl := er_skip (Option.some.inj hc); exact wp_label ⟨trivial, st, hv, hS⟩
  | goto l => intro C cc st Q a w hc; simp [ccode] at hc
  | refuse s => intro C cc st Q a w hc; simp [ccode] at hc
theorem vc_sound {C:Ctx} (c:Code) (cc:CC) (st:St) (Q:Exit→St→Prop) (a:Act) (w:World) (hc:ccode P C.N c=some cc.erase) (hv:vc P cc st Q) (hS:S C st a w):c.wp P (fun e a' w'=>∃st',Q e st'∧S C st' a' w') a w :=
 wp_mono (vc_soundG c C cc st Q a w hc hv hS) fun e a' w' h=>h.2
end
/-! ### A function -/
inductive RS where
 | t (n:Nat)
 | c (n m:Nat) (ag:Bool)
def rsv (P:Program) (N:Nat):List ResultVar→Option (List RS)
 | []=>some []
 | .tmp t::r=>match rsv P N r with
  | some l=>if t<N then some (.t t::l) else none
  | none=>none
 | .cell t ty::r=>match rsv P N r,tyA P ty with
  | some l,some (m,ag)=>if t<N∧(ag=false→m=1) then some (.c t m ag::l) else none
  | _,_=>none
def RS.ev (st:St):RS→Option AV
 | .t n=>match ge st.env n with
  | .gd _ _=>none
  | α=>some α
 | .c n m ag=>(ldc st.hp m (fet (ge st.env n))).map fun cs=>if ag then .ag cs else cs.getD 0 .un
def RS.ok (st:St):RS→Prop
 | .t _=>True
 | .c n _ _=>obB true (ge st.env n)
def rsevs (st:St):List RS→Option (List AV)
 | []=>some []
 | r::l=>match r.ev st,rsevs st l with
  | some α,some as=>some (α::as)
  | _,_=>none
def rsoks (st:St):List RS→Prop
 | []=>True
 | r::l=>r.ok st∧rsoks st l
def single:List AV→AV
 | [α]=>α
 | l=>.tp l
def vcRes (rs:List RS) (st:St) (R:CH→Nat→AV→Prop):Prop :=
 rsoks st rs∧match rsevs st rs with
  | some l=>R st.hp st.n (single l)
  | none=>False
def argEnv:Nat→List AV→EN
 | _,[]=>[]
 | k,α::r=>(k,α)::argEnv (k+1) r
def endQ (rs:List RS) (R:CH→Nat→AV→Prop):Exit→St→Prop
 | .normal,st | .ret,st=>vcRes rs st R
 | _,_=>False
def resSem (tmps:Array Value):ResultVar→Sem Value
 | .tmp t=>pure (tmps.getD t undef)
 | .cell x t=>do loadVar t (←asAddr (tmps.getD x undef))
theorem results_eq (fn:Func) (tmps:Array Value):results fn tmps=(do let vs ←fn.results.mapM (resSem tmps);pure (if h:vs.size=1 then vs[0] else .tuple vs)):=by
 have:(fun (r:ResultVar)=>(match r with
  | .tmp t=>pure (tmps.getD t undef)
  | .cell a t=>do loadVar t (←asAddr (tmps.getD a undef)):Sem Value))=resSem tmps:=by
  funext r
  cases r<;>rfl
 unfold results
 rw [←this]
 rfl
theorem res_run {P:Program} {C:Ctx} {st:St} {h:HP} {ρ:RO} {a:Act} {w:World} (S:Sat C st h ρ a w):∀(rv:List ResultVar) (rs:List RS) (l:List AV),rsv P C.N rv=some rs→rsoks st rs→rsevs st rs=some l →
  ∃vs:List Value,RelL h ρ l vs∧(rv.mapM (resSem a.tmps)).run P w=.ok vs w:=by
 intro rv
 induction rv with
 | nil =>
  intro rs l h1 h2 h3
  simp [rsv] at h1
  subst h1
  simp [rsevs] at h3
  subst h3
  exact ⟨[],.nil,by simp⟩
 | cons r rv ih =>
  intro rs l h1 h2 h3
  cases r with
  | tmp t =>
   simp only [rsv] at h1
   split at h1
   .rename_i rs' hrs
    split at h1
    .rename_i ht
     cases h1
     simp only [rsevs] at h3
     split at h3
     .rename_i α as ha has
      cases h3
      obtain ⟨vs,r1,r2⟩:=ih rs' as hrs h2.2 has
      obtain ⟨v,v1,v2⟩:=S.env t ht
      have hrel:Rel h ρ α v:=by
       simp only [RS.ev] at ha
       split at ha
       .cases ha
       .cases ha;exact v2
      refine ⟨v::vs,.cons hrel r1,?_⟩
      have e0:(resSem a.tmps (.tmp t)).run P w=.ok v w:=by simp [resSem,v1]
      simp only [List.mapM_cons,Sem.run_bind,e0,Result.andThen_ok,r2,Sem.run_pure]
     .cases h3
    .cases h1
   .cases h1
  | cell x t =>
   simp only [rsv] at h1
   split at h1
   .rename_i rs' m ag hrs hty
    split at h1
    .rename_i hc
     cases h1
     simp only [rsevs] at h3
     split at h3
     .rename_i α as ha has
      cases h3
      obtain ⟨vs,r1,r2⟩:=ih rs' as hrs h2.2 has
      obtain ⟨v,v1,v2⟩:=S.env x hc.1
      have v3:=fet_rel v2 trivial (obB_ob (p:=True) (fun _=>rfl) h2.1)
      simp only [RS.ev] at ha
      cases hl:ldc st.hp m (fet (ge st.env x)) with
      | none=>simp [hl] at ha
      | some cs =>
       simp [hl] at ha
       subst ha
       obtain ⟨u,u1,u2⟩:=run_load (P:=P) hty hc.2 S.mem v3 hl
       obtain ⟨b,o,ev,_⟩:=ldc_read S.mem v3 hl
       subst ev
       simp only [Instr.loadAt,Instr.sureAddr,Sem.run_bind,Sem.run_pure,Result.andThen_ok] at u1
       refine ⟨u::vs,.cons (by cases ag<;>simpa using u2) r1,?_⟩
       have hg:a.tmps.getD x undef=.pointer (some ⟨b,o,none⟩):=by simp [v1]
       have e0:(resSem a.tmps (.cell x t)).run P w=.ok u w:=by
        simp only [resSem,hg,asAddr,Sem.run_bind,Sem.run_pure,Result.andThen_ok,u1]
       simp only [List.mapM_cons,Sem.run_bind,e0,Result.andThen_ok,r2,Sem.run_pure]
     .cases h3
    .cases h1
   .cases h1
theorem meets_of_vc {P : Program} {f : FuncId} {fn : Func} {c : Code} {k : CC} {rs : List RS} (hf : P.funcs[f]? = some fn) (hnm : (fn.name == "runtime.NumGoroutine") = false) (hb : fn.body = some c)
    (hc:ccode P fn.ntmps c=some k.erase) (hrs:rsv P fn.ntmps fn.results.toList=some rs) {hp:CH} {n:Nat} {args:List AV} {R:CH→Nat→AV→Prop} (hlen:args.length≤fn.ntmps)
    (hv:vc P k ⟨argEnv 0 args,hp,n⟩ (endQ rs R)):Meets P f hp n args R:=by
  refine ⟨⟨fn, hf, hnm, by rw [hb]; rfl⟩, fun h ρ w vs hm hr => ?_⟩
  refine calls_of_wp hf hb ?_
  let C:Ctx:=⟨w,live ρ hp,h,ρ,fn.ntmps⟩
  have hvl:vs.length=args.length:=hr.1.symm
  have hge:∀(k:Nat) (args:List AV) (j:Nat),ge (argEnv k args) (k+j)=(args[j]?).getD .un:=by
    intro k args
    induction args generalizing k with
    | nil => intro j; simp [argEnv, ge]
    | cons α r ih =>
      intro j
      cases j with
      | zero => simp [argEnv, ge]
      | succ j =>
        simp only [argEnv,ge]
        rw [if_neg (by omega), show k + (j + 1) = k + 1 + j by omega, ih (k + 1) j]
        simp
  have hS:S C ⟨argEnv 0 args,hp,n⟩ { tmps:=vs.toArray++Array.replicate (fn.ntmps - vs.toArray.size) undef,defers:=[] } w:=by
    refine ⟨h,ρ,⟨HLe.refl _,RLe.refl _,Keeps.refl _ _,fun b hb=>.inr hb,hm,fun t ht=>?_,?_,rfl⟩⟩
    . have ht' : t < fn.ntmps := ht
      have:=hge 0 args t
      rw [Nat.zero_add] at this
      rw [this]
      by_cases hta:t<args.length
      . refine ⟨vs[t]'(by omega), ?_, ?_⟩
        . rw [Array.getElem?_append, if_pos (by simp; omega)]
          simp
        . have e1 : args[t]? = some args[t] := by simp [hta]
          rw [e1]
          exact hr.2 t _ _ e1 (by simp)
      . refine ⟨undef, ?_, ?_⟩
        . rw [Array.getElem?_append, if_neg (by simp; omega)]
          simp only [List.size_toArray]
          rw [Array.getElem?_eq_getElem (by simp; omega)]
          simp
        . rw [List.getElem?_eq_none (by omega)]
          exact .pu _ _ (.un _)
    . show (vs.toArray ++ Array.replicate (fn.ntmps - vs.toArray.size) undef).size = fn.ntmps
      simp
      omega
  have hfin : ∀ st' a' w', vcRes rs st' R → S C st' a' w' → a'.defers = [] ∧ ∃ v, (results fn a'.tmps).run P w' = .ok v w' ∧ (∃ v', Ending.returned v = .returned v' ∧ ∃ h' ρ' hp' n' r, R hp' n' r ∧ HLe h h' ∧ RLe ρ ρ' ∧
      SatH h' ρ' hp' n' w'∧Rel h' ρ' r v'∧Keeps (live ρ hp) w w'∧∀b,live ρ' hp' b→live ρ hp b∨w.heap.size≤b):=by
    intro st' a' w' hres ⟨h',ρ',s⟩
    obtain ⟨hok,hl⟩:=hres
    cases hev:rsevs st' rs with
    | none => rw [hev] at hl; exact hl.elim
    | some l =>
      rw [hev] at hl
      obtain ⟨us,r1,r2⟩:=res_run (P:=P) s fn.results.toList rs l hrs hok hev
      refine ⟨s.defers, (if hh : us.toArray.size = 1 then us.toArray[0] else .tuple us.toArray), ?_, _, rfl, h', ρ', st'.hp, st'.n, single l, hl, s.hle, s.rle, s.mem, ?_, s.keep, fun b hb => (s.own b hb).symm⟩
      . have : (fn.results.mapM (resSem a'.tmps)).run P w' = .ok us.toArray w' := by
          rw [←Array.toArray_toList (xs:=fn.results),List.mapM_toArray]
          simp only [Sem.run_map,r2,Result.andThen_ok]
        rw [results_eq,Sem.run_bind,this]
        simp only [Result.andThen_ok,Sem.run_pure]
      . cases l with
        | nil =>
          have : us = [] := by have := r1.1; simpa using this.symm
          subst this
          exact Rel.mkTup .nil
        | cons α l =>
          cases l with
          | nil =>
            cases us with
            | nil => have := r1.1; simp at this
            | cons u us =>
              have : us = [] := by have := r1.1; simpa using this.symm
              subst this
              exact r1.2 0 α u rfl rfl
          | cons β l =>
            rw [dif_neg (by have := r1.1; simp at this ⊢; omega)]
            exact Rel.mkTup r1
  refine wp_mono (vc_sound (C:=C) c k _ _ _ _ hc hv hS) fun e a' w' ⟨st',hq,hs⟩=>?_
  cases e with
  | normal => exact hfin st' a' w' hq hs
  | ret => exact hfin st' a' w' hq hs
  | _ => exact hq.elim
end Go.Eng
