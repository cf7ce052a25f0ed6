/- Proof. Conditions: none. -/
import Derived.Scope
import Derived.Test.YtgfidgoefioigaaGreatDoorIj11
open Option renaming some->zm
namespace Go.Eng
set_option linter.all false
section
variable {P:Program}
section
variable {cc a b:CC} {i:Nat} {C:Ctx} {st:St} {h:HP} {J:RO} {w:World}
theorem TJ (h:CC.skip=cc.erase):cc=.skip:=by cases cc<;>simp [CC.erase] at h;rfl
theorem Ain {l:List CO} (h:CC.rg l=cc.erase):∃l',cc=.rg l'∧l=l'.map CO.er:=by cases cc<;>simp [CC.erase] at h;exact ⟨_,rfl,h⟩
theorem Ah4 {l:List DO} (h:CC.dr l []=cc.erase):∃dp,cc=.dr l dp:=by cases cc<;>simp [CC.erase] at h;subst h;exact ⟨_,rfl⟩
theorem Ajj (h:CC.sq a b=cc.erase):∃a' b',(cc=.sq a' b'∨cc=.sqw a' b')∧a=a'.erase∧b=b'.erase:=by
 cases cc<;>simp [CC.erase] at h
 .exact ⟨_,_,.inl rfl,h.1,h.2⟩
 .exact ⟨_,_,.inr rfl,h.1,h.2⟩
theorem Ak5 {s:Bj} (h:CC.cd s a b=cc.erase):∃a' b',cc=.cd s a' b'∧a=a'.erase∧b=b'.erase:=by cases cc<;>simp [CC.erase] at h;obtain ⟨rfl,h1,h2⟩:=h;exact ⟨_,_,rfl,h1,h2⟩
theorem Aj6 (h:CC.bl i a=cc.erase):∃a',cc=.bl i a'∧a=a'.erase:=by cases cc<;>simp [CC.erase] at h;obtain ⟨rfl,h1⟩:=h;exact ⟨_,rfl,h1⟩
theorem Ai1 (h:CC.lp a=cc.erase):∃a',cc=.lp a'∧a=a'.erase:=by cases cc<;>simp [CC.erase] at h;exact ⟨_,rfl,h⟩
theorem Ahv (h:CC.ex i=cc.erase):cc=.ex i:=by cases cc<;>simp [CC.erase] at h;subst h;rfl
theorem Ake (h:CC.rt=cc.erase):cc=.rt:=by cases cc<;>simp [CC.erase] at h;rfl
def NG:Exit->Prop
 | .goto _=>False
 |_=>True
theorem Sat.since {c8:St} {h':HP} {ρ':RO} {a a':Act} {w':World} (s:Sat C st h J a w) (t:Sat ⟨w,AI J st.hp,h,J,C.N⟩ c8 h' ρ' a' w'):Sat C c8 h' ρ' a' w' :=
 ⟨s.hle.trans t.hle,s.rle.trans t.rle,s.keep.trans t.keep (fun k hk hl=>by
  rcases s.own k hl with q | q
  .omega
  .exact q),fun b hb=>by
  rcases t.own b hb with q | q
  .exact .inl (Nat.le_trans s.keep.size q)
  .exact s.own b q,t.mem,t.env,t.size,t.defers⟩
theorem Sat.now {a:Act} (s:Sat C st h J a w):Sat ⟨w,AI J st.hp,h,J,C.N⟩ st h J a w :=
 ⟨BQ.refl _,Ck.refl _,Keeps.refl _ _,fun b hb=>.inr hb,s.mem,s.env,s.size,s.defers⟩
theorem Vn:∀(c:Code) (C:Ctx) (cc:CC) (st:St) (Q:Exit->St->Prop) (a:Act) (w:World),BX P C.N c=some cc.erase->vc P cc st Q->S C st a w ->
 c.wp P (fun e a' w'=>NG e∧∃c8,Q e c8∧S C c8 a' w') a w:=by
 intro c
 induction c with
 | skip => intro C cc st Q a w hc hv hS; obtain rfl := TJ (zm.inj hc); exact wp_skip ⟨trivial, st, hv, hS⟩
 |region id d4 draw=>
  intro C cc st Q a w hc hv hS
  simp only [BX] at hc
  split at hc
  .rename_i hd
   subst hd
   obtain ⟨dl,e⟩:=Yj hc
   obtain ⟨dp,rfl⟩:=Ah4 e.symm
   exact RG hc (Qd _ _ _ _ _ _ hv) hS fun env hp a' w' k s=>⟨trivial,_,k,s.drop dp⟩
  .rename_i hd
   cases ec:Mj P C.N d4.toList d4.toList with
   | none => simp [ec] at hc
   |some l=>
    rw [ec] at hc
    obtain ⟨l',rfl,e⟩:=Ain (zm.inj hc)
    have CJ:draw=false:=by simpa using hd
    subst CJ
    rw [e] at ec
    exact wp_region_list (V1 d4.toList l' st a w _ ec hv hS (fun c8 a' w' k s=>⟨trivial,c8,k,s⟩))
 |seq x y ihx ihy=>
  intro C cc st Q a w hc hv hS
  unfold BX at hc
  split at hc
  .rename_i cx cy e1 e2
   obtain ⟨cx,cy,q,rfl,rfl⟩:=Ajj (zm.inj hc)
   rcases q with rfl | rfl
   .refine wp_seq (wp_mono (ihx C cx st _ a w e1 hv hS) fun e a' w' ⟨g,c8,k,s⟩=>?_)
    cases e with
    | normal => exact ihy C cy c8 Q a' w' e2 k s
    | _ => exact ⟨g, c8, k, s⟩
   .refine wp_seq (wp_mono (ihx C cx st _ a w e1 hv hS) fun e a' w' ⟨g,c8,k,s⟩=>?_)
    cases e with
    |normal=>
     obtain ⟨I,hw,k⟩:=k
     obtain ⟨s2,h1,h2⟩:=hw C a' w' s
     exact ihy C cy s2 Q a' w' e2 (k s2 h1) h2
    | _ => exact ⟨g, c8, k, s⟩
  .cases hc
 |cond c x y ihx ihy=>
  intro C cc st Q a w hc hv hS
  unfold BX at hc
  split at hc
  .rename_i sc cx cy e0 e1 e2
   obtain ⟨cx,cy,rfl,rfl,rfl⟩:=Ak5 (zm.inj hc)
   obtain ⟨hob,hv⟩:=hv
   obtain ⟨h,J,s⟩:=hS
   split at hv
   .rename_i b hb
    have r:=A1 s trivial e0 (Df (p:=True) (fun _=>rfl) hob)
    rw [hb] at r
    refine wp_cond_split (t:=b) r.bool (fun hb=>?_) (fun hb=>?_)
    .exact ihx C cx st Q a w e1 (hv.1 hb) ⟨h,J,s⟩
    .exact ihy C cy st Q a w e2 (hv.2 hb) ⟨h,J,s⟩
   .exact hv.elim
  .cases hc
 |block id c ih=>
  intro C cc st Q a w hc hv hS
  simp only [BX] at hc
  cases ec:BX P C.N c with
  | none => simp [ec] at hc
  |some x=>
   rw [ec] at hc
   obtain ⟨x,rfl,rfl⟩:=Aj6 (zm.inj hc)
   refine wp_block (wp_mono (ih C x st _ a w ec hv hS) fun e a' w' ⟨g,c8,k,s⟩=>?_)
   cases e with
   |exit i=>
    simp only [Exit.inBlock]
    simp only at k
    split
    .rename_i hi
     rw [if_pos hi] at k
     exact ⟨trivial,c8,k,s⟩
    .rename_i hi
     rw [if_neg hi] at k
     exact ⟨trivial,c8,k,s⟩
   | _ => exact ⟨g, c8, k, s⟩
 |loop c ih=>
  intro C cc st Q a w hc hv hS
  simp only [BX] at hc
  cases ec:BX P C.N c with
  | none => simp [ec] at hc
  |some x=>
   rw [ec] at hc
   obtain ⟨x,rfl,rfl⟩:=Ai1 (zm.inj hc)
   obtain ⟨I,⟨m,s0,hm,hweak⟩,hround⟩:=hv
   have key:∀(m:Nat) (st:St) (a:Act) (w:World),I m st->S C st a w->(Code.loop c).wp P (fun e a' w'=>NG e∧∃c8,Q e c8∧S C c8 a' w') a w:=by
    intro m st a w hI hS b k cs
    have inner:∀(m:Nat) (st:St) (a:Act) (w:World),I m st->S C st a w ->
     ∃e a' w',(NG e∧∃c8,Q e c8∧S C c8 a' w')∧Arrives P (lone (b.at a (.code c::.inLoop c::k)) cs w) b k cs e a' w':=by
     intro m
     induction m using Nat.strongRecOn with
     |_ m ihm=>
      intro st a w hI hS
      obtain ⟨h,J,hS⟩:=hS
      obtain ⟨e,a₁,w₁,⟨ng,c8,hq,h1,ρ1,JX⟩,t6⟩:=ih ⟨w,AI J st.hp,h,J,C.N⟩ x st _ a w ec (hround m st hI) ⟨h,J,hS.now⟩ b (.inLoop c::k) cs
      have hs:S C c8 a₁ w₁:=⟨h1,ρ1,hS.since JX⟩
      cases e with
      |normal=>
       obtain ⟨m',s'',BY,hI',hweak⟩:=hq
       obtain ⟨e₂,a₂,w₂,hq₂,harr₂⟩:=ihm m' BY s'' a₁ w₁ hI' (let ⟨h2,ρ2,JZ⟩:=hweak ⟨w,AI J st.hp,h,J,C.N⟩ a₁ w₁ hS.mem ⟨h1,ρ1,JX⟩;⟨h2,ρ2,hS.since JZ⟩)
       exact ⟨e₂,a₂,w₂,hq₂,.of_steps (Steps.trans t6 (.one step_inLoop)) harr₂⟩
      | exit id => exact ⟨_, a₁, w₁, ⟨ng, c8, hq, hs⟩, .pass (x := .inLoop c) rfl (fun _ _ => .inl (by simp)) t6⟩
      | goto l => exact ⟨_, a₁, w₁, ⟨ng, c8, hq, hs⟩, .pass (x := .inLoop c) rfl (fun _ _ => .inl (by simp)) t6⟩
      | ret => exact ⟨_, a₁, w₁, ⟨ng, c8, hq, hs⟩, .pass (x := .inLoop c) rfl (fun _ _ => .inl (by simp)) t6⟩
      | panic ch => exact ⟨_, a₁, w₁, ⟨ng, c8, hq, hs⟩, .pass (x := .inLoop c) rfl (fun _ _ => .inl (by simp)) t6⟩
      | outgrown => exact ⟨_, a₁, w₁, ⟨ng, c8, hq, hs⟩, .pass (x := .inLoop c) rfl (fun _ _ => .inl (by simp)) t6⟩
    obtain ⟨e,a',w',hq,t6⟩:=inner m st a w hI hS
    exact ⟨e,a',w',hq,.of_steps (.one step_loop) t6⟩
   exact key m s0 a w hm (hweak C a w hS)
 | exit id => intro C cc st Q a w hc hv hS; obtain rfl := Ahv (zm.inj hc); exact wp_exit ⟨trivial, st, hv, hS⟩
 | ret => intro C cc st Q a w hc hv hS; obtain rfl := Ake (zm.inj hc); exact wp_ret ⟨trivial, st, hv, hS⟩
 | rangeFunc f params asg b _ _ => intro C cc st Q a w hc; simp [BX] at hc
 |scope b ih=>
  intro C cc st Q a w hc hv hS
  refine wp_scope_straight (wp_mono (ih C cc st Q a w hc hv hS) fun e a' w' ⟨g,c8,k,s⟩=>?_)
  cases e with
  | goto l => exact g.elim
  | _ => exact ⟨g, c8, k, s⟩
 | label l => intro C cc st Q a w hc hv hS; obtain rfl := TJ (zm.inj hc); exact wp_label ⟨trivial, st, hv, hS⟩
 | goto l => intro C cc st Q a w hc; simp [BX] at hc
 | refuse s => intro C cc st Q a w hc; simp [BX] at hc
theorem WH (c:Code) (cc:CC) (st:St) (Q:Exit->St->Prop) (a:Act) (w:World) (hc:BX P C.N c=some cc.erase) (hv:vc P cc st Q) (hS:S C st a w):c.wp P (fun e a' w'=>∃c8,Q e c8∧S C c8 a' w') a w :=
 wp_mono (Vn c C cc st Q a w hc hv hS) fun e a' w' h=>h.2
end
end
/-! ### A function -/
inductive RS where
 | t (n:Nat)
 | c (n m:Nat) (ag:Bool)
def OB (P:Program) (N:Nat):List ResultVar->Option (List RS)
 | []=>some []
 | .tmp t::r=>match OB P N r with
  |some l=>if t<N then some (.t t::l) else none
  |none=>none
 | .cell t ty::r=>match OB P N r,tyA P ty with
  |some l,some (m,ag)=>if t<N∧(ag=false->m=1) then some (.c t m ag::l) else none
  |_,_=>none
def RS.ev (st:St):RS->Option AV
 | .t n=>match ge st.env n with
  | .gd _ _=>none
  | U=>some U
 | .c n m ag=>(J9 st.hp m (Bf (ge st.env n))).map fun cs=>if ag then .ag cs else cs.getD 0 .un
def RS.ok (st:St):RS->Prop
 | .t _=>True
 | .c n _ _=>EU true (ge st.env n)
def JD (st:St):List RS->Option (List AV)
 | []=>some []
 |r::l=>match r.ev st,JD st l with
  |some U,some as=>some (U::as)
  |_,_=>none
def SK (st:St):List RS->Prop
 | []=>True
 |r::l=>r.ok st∧SK st l
def single:List AV->AV
 | [U]=>U
 |l=>.tp l
def X8 (rs:List RS) (st:St) (R:CH->Nat->AV->Prop):Prop :=
 SK st rs∧match JD st rs with
  |some l=>R st.hp st.n (single l)
  |none=>False
def CK:Nat->List AV->EN
 |_,[]=>[]
 |k,U::r=>(k,U)::CK (k+1) r
def Lt (rs:List RS) (R:CH->Nat->AV->Prop):Exit->St->Prop
 | .normal,st | .ret,st=>X8 rs st R
 |_,_=>False
def GS (tmps:Array Value):ResultVar->Sem Value
 | .tmp t=>pure (tmps.getD t undef)
 | .cell x t=>do loadVar t (<-asAddr (tmps.getD x undef))
theorem Sn (fn:Func) (tmps:Array Value):results fn tmps=(do let vs <-fn.results.mapM (GS tmps);pure (if h:vs.size=1 then vs[0] else .tuple vs)):=by
 have:(fun (r:ResultVar)=>(match r with
  | .tmp t=>pure (tmps.getD t undef)
  | .cell a t=>do loadVar t (<-asAddr (tmps.getD a undef)):Sem Value))=GS tmps:=by
  funext r
  cases r<;>rfl
 unfold results
 rw [<-this]
 rfl
theorem Abf {P:Program} {C:Ctx} {st:St} {h:HP} {J:RO} {a:Act} {w:World} (S:Sat C st h J a w):∀(rv:List ResultVar) (rs:List RS) (l:List AV),OB P C.N rv=some rs->SK st rs->JD st rs=some l ->
 ∃vs:List Value,Bx h J l vs∧(rv.mapM (GS a.tmps)).run P w=.ok vs w:=by
 intro rv
 induction rv with
 |nil=>
  intro rs l h1 h2 h3
  simp [OB] at h1
  subst h1
  simp [JD] at h3
  subst h3
  exact ⟨[],.nil,by simp⟩
 |cons r rv ih=>
  intro rs l h1 h2 h3
  cases r with
  |tmp t=>
   simp only [OB] at h1
   split at h1
   .rename_i rs' Ic
    split at h1
    .rename_i ht
     cases h1
     simp only [JD] at h3
     split at h3
     .rename_i U as ha has
      cases h3
      obtain ⟨vs,r1,r2⟩:=ih rs' as Ic h2.2 has
      obtain ⟨v,v1,v2⟩:=S.env t ht
      have Cr:Ba h J U v:=by
       simp only [RS.ev] at ha
       split at ha
       .cases ha
       .cases ha;exact v2
      refine ⟨v::vs,.cons Cr r1,?_⟩
      have e0:(GS a.tmps (.tmp t)).run P w=.ok v w:=by simp [GS,v1]
      simp only [List.mapM_cons,Sem.run_bind,e0,Result.andThen_ok,r2,Sem.run_pure]
     .cases h3
    .cases h1
   .cases h1
  |cell x t=>
   simp only [OB] at h1
   split at h1
   .rename_i rs' m ag Ic OC
    split at h1
    .rename_i hc
     cases h1
     simp only [JD] at h3
     split at h3
     .rename_i U as ha has
      cases h3
      obtain ⟨vs,r1,r2⟩:=ih rs' as Ic h2.2 has
      obtain ⟨v,v1,v2⟩:=S.env x hc.1
      have v3:=Tu v2 trivial (Df (p:=True) (fun _=>rfl) h2.1)
      simp only [RS.ev] at ha
      cases hl:J9 st.hp m (Bf (ge st.env x)) with
      |none=>simp [hl] at ha
      |some cs=>
       simp [hl] at ha
       subst ha
       obtain ⟨u,u1,u2⟩:=PO (P:=P) OC hc.2 S.mem v3 hl
       obtain ⟨b,o,ev,_⟩:=QJ S.mem v3 hl
       subst ev
       simp only [Instr.loadAt,Instr.sureAddr,Sem.run_bind,Sem.run_pure,Result.andThen_ok] at u1
       refine ⟨u::vs,.cons (by cases ag<;>simpa using u2) r1,?_⟩
       have hg:a.tmps.getD x undef=.pointer (some ⟨b,o,none⟩):=by simp [v1]
       have e0:(GS a.tmps (.cell x t)).run P w=.ok u w:=by
        simp only [GS,hg,asAddr,Sem.run_bind,Sem.run_pure,Result.andThen_ok,u1]
       simp only [List.mapM_cons,Sem.run_bind,e0,Result.andThen_ok,r2,Sem.run_pure]
     .cases h3
    .cases h1
   .cases h1
theorem OT {P : Program} {f : FuncId} {fn : Func} {c : Code} {k : CC} {rs : List RS} (hf : P.funcs[f]? = some fn) (FN : (fn.name == "runtime.NumGoroutine") = false) (hb : fn.body = some c)
 (hc:BX P fn.ntmps c=some k.erase) (Ic:OB P fn.ntmps fn.results.toList=some rs) {hp:CH} {n:Nat} {args:List AV} {R:CH->Nat->AV->Prop} (Bn:args.length<=fn.ntmps)
 (hv:vc P k ⟨CK 0 args,hp,n⟩ (Lt rs R)):AO P f hp n args R:=by
 refine ⟨⟨fn,hf,FN,by rw [hb];rfl⟩,fun h J w vs hm hr=>?_⟩
 refine calls_of_wp hf hb ?_
 let C:Ctx:=⟨w,AI J hp,h,J,fn.ntmps⟩
 have Nt:vs.length=args.length:=hr.1.symm
 have hge:∀(k:Nat) (args:List AV) (j:Nat),ge (CK k args) (k+j)=(args[j]?).getD .un:=by
  intro k args
  induction args generalizing k with
  | nil => intro j; simp [CK, ge]
  |cons U r ih=>
   intro j
   cases j with
   | zero => simp [CK, ge]
   |succ j=>
    simp only [CK,ge]
    rw [if_neg (by omega),show k+(j+1)=k+1+j by omega,ih (k+1) j]
    simp
 have hS:S C ⟨CK 0 args,hp,n⟩ { tmps:=vs.toArray++Array.replicate (fn.ntmps - vs.toArray.size) undef,defers:=[] } w:=by
  refine ⟨h,J,⟨BQ.refl _,Ck.refl _,Keeps.refl _ _,fun b hb=>.inr hb,hm,fun t ht=>?_,?_,rfl⟩⟩
  .have ht':t<fn.ntmps:=ht
   have:=hge 0 args t
   rw [Nat.zero_add] at this
   rw [this]
   by_cases hta:t<args.length
   .refine ⟨vs[t]'(by omega),?_,?_⟩
    .rw [Array.getElem?_append,if_pos (by simp;omega)]
     simp
    .have e1:args[t]?=some args[t]:=by simp [hta]
     rw [e1]
     exact hr.2 t _ _ e1 (by simp)
   .refine ⟨undef,?_,?_⟩
    .rw [Array.getElem?_append,if_neg (by simp;omega)]
     simp only [List.size_toArray]
     rw [Array.getElem?_eq_getElem (by simp;omega)]
     simp
    .rw [List.getElem?_eq_none (by omega)]
     exact .pu _ _ (.un _)
  .show (vs.toArray++Array.replicate (fn.ntmps - vs.toArray.size) undef).size=fn.ntmps
   simp
   omega
 have hfin:∀c8 a' w',X8 rs c8 R->S C c8 a' w'->a'.defers=[]∧∃v,(results fn a'.tmps).run P w'=.ok v w'∧(∃v',Ending.returned v=.returned v'∧∃h' ρ' Al n' r,R Al n' r∧BQ h h'∧Ck J ρ' ∧
  SatH h' ρ' Al n' w'∧Ba h' ρ' r v'∧Keeps (AI J hp) w w'∧∀b,AI ρ' Al b->AI J hp b∨w.heap.size<=b):=by
  intro c8 a' w' hres ⟨h',ρ',s⟩
  obtain ⟨Ka,hl⟩:=hres
  cases hev:JD c8 rs with
  | none => rw [hev] at hl; exact hl.elim
  |some l=>
   rw [hev] at hl
   obtain ⟨us,r1,r2⟩:=Abf (P:=P) s fn.results.toList rs l Ic Ka hev
   refine ⟨s.defers,(if hh:us.toArray.size=1 then us.toArray[0] else .tuple us.toArray),?_,_,rfl,h',ρ',c8.hp,c8.n,single l,hl,s.hle,s.rle,s.mem,?_,s.keep,fun b hb=>(s.own b hb).symm⟩
   .have:(fn.results.mapM (GS a'.tmps)).run P w'=.ok us.toArray w':=by
     rw [<-Array.toArray_toList (xs:=fn.results),List.mapM_toArray]
     simp only [Sem.run_map,r2,Result.andThen_ok]
    rw [Sn,Sem.run_bind,this]
    simp only [Result.andThen_ok,Sem.run_pure]
   .cases l with
    |nil=>
     have:us=[]:=by have:=r1.1;simpa using this.symm
     subst this
     exact Ba.mkTup .nil
    |cons U l=>
     cases l with
     |nil=>
      cases us with
      | nil => have := r1.1; simp at this
      |cons u us=>
       have:us=[]:=by have:=r1.1;simpa using this.symm
       subst this
       exact r1.2 0 U u rfl rfl
     |cons β l=>
      rw [dif_neg (by have:=r1.1;simp at this ⊢;omega)]
      exact Ba.mkTup r1
 refine wp_mono (WH (C:=C) c k _ _ _ _ hc hv hS) fun e a' w' ⟨c8,hq,hs⟩=>?_
 cases e with
 | normal => exact hfin c8 a' w' hq hs
 | ret => exact hfin c8 a' w' hq hs
 | _ => exact hq.elim
