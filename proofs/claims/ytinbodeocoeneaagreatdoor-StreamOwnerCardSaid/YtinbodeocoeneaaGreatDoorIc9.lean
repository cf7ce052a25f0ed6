/- Proof. Conditions: none. -/
import Derived.Test.YtinbodeocoeneaaGreatDoorIc8
namespace Go.Eng
set_option linter.all false
section
variable {P:Program} {C:Ctx}
theorem S.slot {st:St} {a:Act} {w:World} (hS:S C st a w) {t:Nat} (ht:t<C.N):∃h ρ v,Sat C st h ρ a w∧a.tmps[t]?=some v∧Rel h ρ (ge st.env t) v:=by
 obtain ⟨h,ρ,s⟩:=hS
 obtain ⟨v,h1,h2⟩:=s.env t ht
 exact ⟨h,ρ,v,s,h1,h2⟩
theorem S.undef {st:St} {a:Act} {w:World} (hS:S C st a w) (d:Option Nat) (x:AV):S C ⟨EN.set st.env d (.gd false x),st.hp,st.n⟩ (a.put d undef) w:=by
 obtain ⟨h,ρ,s⟩:=hS
 exact ⟨h,ρ,s.val d (.gd _ _ _ (fun e=>by cases e) (fun _=>rfl))⟩
theorem soft_isV {o:COp} {env:EN} (h:soft o env=true):o.isV=true:=by
 unfold soft at h
 split at h
 .rfl
 .exact h
theorem soft_run {st:St} {a:Act} {w:World} {ops:List Oper} {o:Oper} {c:COp} (hc:cop P C.N ops o=some c) (hs:c.isV=true) {G:Bool} (hG:G=true) (hobs:c.obs st.env (G=true))
  (hpre:c.pre st.hp fun s=>fet (s.ev st.env)) (hval:(c.val st.hp fun s=>fet (s.ev st.env)).isSome=true) (hS:S C st a w) {K:St→Prop}
  (hk:K ⟨EN.set st.env o.dst (.gd G ((c.val st.hp fun s=>fet (s.ev st.env)).getD .un)),st.hp,st.n⟩) (Q:Exit→Act→World→Prop):o.wp P a w (fun a' w'=>∃st',K st'∧S C st' a' w') Q:=by
 obtain ⟨h,ρ,s⟩:=hS
 obtain ⟨α,hα⟩:=Option.isSome_iff_exists.1 hval
 obtain ⟨v,h1,h2⟩:=val_sound (P:=P) s hG hc hs hobs hpre hα
 unfold Oper.wp
 rw [h1]
 refine ⟨_,hk,h,ρ,?_⟩
 rw [hα]
 exact s.val o.dst (.gd _ _ _ (fun _=>h2) (fun e=>by rw [hG] at e;cases e))
theorem yielded_of {ops:Array Oper} {tmps:Array Value} {j t:Nat} (h:(ops[j]?).bind (·.dst)=some t):yielded ops tmps j=match tmps[t]? with | some (.bool b)=>some b | _=>none:=by
 unfold yielded
 rw [h]
 rfl
theorem vcG_ns {o:CO} {st:St} {G:Bool} {K:St→Prop} (hs:¬soft o.op st.env=true) (h:vcG P o st G K) :
  (G=true→vcRun P st.n o st K∨∃r,vcRun P st.n o st (fun st'=>st'=⟨EN.set st.env o.dst r,st.hp,st.n⟩)∧K ⟨EN.set st.env o.dst (.gd true r),st.hp,st.n⟩) ∧
  (G=false→∃x,K ⟨EN.set st.env o.dst (.gd false x),st.hp,st.n⟩):=by
 unfold vcG at h
 rw [if_neg hs] at h
 split at h
 .rename_i f xs ho
  obtain ⟨d,op,g,dp,fz⟩:=o
  simp only at ho
  subst ho
  obtain ⟨ho,h⟩:=h
  refine ⟨fun e=>?_,fun e=>?_⟩
  .subst e
   rcases h with ⟨r,m,k⟩ | h
   .exact .inr ⟨r,⟨ho,vcCall.f (m rfl) rfl⟩,k⟩
   .exact .inl ⟨ho,h.1 rfl⟩
  .subst e
   rcases h with ⟨r,m,k⟩ | h
   .exact ⟨_,k⟩
   .exact ⟨_,h.2 rfl⟩
 .exact ⟨fun e=>.inl (h.1 e),fun e=>⟨_,h.2 e⟩⟩
theorem op1_sound {st:St} {a:Act} {w:World} {ops:Array Oper} {o:Oper} {c:COp} {g:Option (Nat × Bool)} (hc:cop P C.N ops.toList o=some c) (hg:cguard C.N ops.toList o.guard=some g) {K:St→Prop}
  {dp:List Nat} {fz:Bool} (hv:vcOp1 P ⟨o.dst,c,g,dp,fz⟩ st K) (hS:S C st a w) (Q:Exit→Act→World→Prop) :
  if Region.wanted o (yielded ops a.tmps) then o.wp P a w (fun a' w'=>∃st',K st'∧S C st' a' w') Q else ∃st',K st'∧S C st' (a.put o.dst undef) w:=by
 cases ho:o.guard with
 | none =>
  rw [ho] at hg
  simp [cguard] at hg
  subst hg
  rw [if_pos (by simp [Region.wanted,ho])]
  exact run_sound hc hv hS Q
 | some jw =>
  obtain ⟨j,want⟩:=jw
  rw [ho] at hg
  unfold cguard at hg
  simp only at hg
  split at hg
  .rename_i t ht
   split at hg
   .rename_i htN
    simp only [Option.some.injEq] at hg
    subst hg
    have hj:(ops[j]?).bind (·.dst)=some t:=by simpa using ht
    have hw:Region.wanted o (yielded ops a.tmps)=(yielded ops a.tmps j == some want):=by simp [Region.wanted,ho]
    rw [hw,yielded_of hj]
    have main:∀G:Bool,(((match a.tmps[t]? with | some (.bool b)=>some b | _=>none) == some want)=G)→vcG P ⟨o.dst,c,some (t,want),dp,fz⟩ st G K →
      if ((match a.tmps[t]? with | some (.bool b)=>some b | _=>none) == some want)=true then o.wp P a w (fun a' w'=>∃st',K st'∧S C st' a' w') Q else ∃st',K st'∧S C st' (a.put o.dst undef) w:=by
     intro G hGe hvg
     rw [hGe]
     by_cases hsoft:soft c st.env=true
     .unfold vcG at hvg
      rw [if_pos hsoft] at hvg
      obtain ⟨h1,h2,h3,h4⟩:=hvg
      cases G with
      | true =>
       rw [if_pos rfl]
       exact soft_run hc (soft_isV hsoft) rfl (COp.obsB_obs (fun h=>h) h1) (h2 rfl) (h3 rfl) hS h4 Q
      | false =>
       rw [if_neg (by simp)]
       exact ⟨_,h4,hS.undef o.dst _⟩
     .obtain ⟨h1,h2⟩:=vcG_ns hsoft hvg
      cases G with
      | true =>
       rw [if_pos rfl]
       rcases h1 rfl with h1 | ⟨r,h1,hk⟩
       .exact run_sound hc h1 hS Q
       .refine Oper.wp_mono (fun a' w' ⟨st',e,h',ρ',s⟩=>?_) (run_sound hc h1 hS Q)
        subst e
        refine ⟨_,hk,h',ρ',s.hle,s.rle,s.keep,s.own,s.mem,fun t ht=>?_,s.size,s.defers⟩
        obtain ⟨v,g1,g2⟩:=s.env t ht
        refine ⟨v,g1,?_⟩
        cases hd:o.dst with
        | none=>rw [hd] at g2;exact g2
        | some d =>
         rw [hd] at g2
         simp only [EN.set,ge] at g2 ⊢
         split
         .rename_i hdt
          rw [if_pos hdt] at g2
          exact .gd _ _ _ (fun _=>g2) (fun e=>by cases e)
         .rename_i hdt
          rw [if_neg hdt] at g2
          exact g2
      | false =>
       rw [if_neg (by simp)]
       obtain ⟨x,h2⟩:=h2 rfl
       exact ⟨_,h2,hS.undef o.dst _⟩
    obtain ⟨h,ρ,v,s,h1,h2⟩:=hS.slot htN
    unfold vcOp1 at hv
    simp only at hv
    split at hv
    .rename_i x hx
     rw [hx] at h2
     rw [h2.bool] at h1
     exact main _ (by rw [h1];cases x<;>cases want<;>rfl) hv
    .rename_i cc x hx
     rw [hx] at h2
     refine main _ ?_ hv
     rw [h1]
     have key:(cc=true→v=.bool x)∧(cc=false→v=undef):=by
      cases h2 with
      | pu _ _ p=>cases p with | gd _ _ _ p1 p2=>exact ⟨fun e=>by cases p1 e;rfl,p2⟩
      | gd _ _ _ p1 p2=>exact ⟨fun e=>(p1 e).bool,p2⟩
     cases cc with
     | true=>rw [key.1 rfl];cases x<;>cases want<;>rfl
     | false=>rw [key.2 rfl];rfl
    .rename_i hx
     rw [hx] at h2
     refine main _ ?_ hv
     rw [h1]
     have key:v=undef:=by
      cases h2 with
      | pu _ _ p=>cases p with | gd _ _ _ p1 p2=>exact p2 rfl
      | gd _ _ _ p1 p2=>exact p2 rfl
     rw [key]
     rfl
    .exact hv.elim
   .cases hg
  .cases hg
theorem SatH.more {h:HP} {ρ:RO} {hp:CH} {n0:Nat} {w:World} (m:SatH h ρ hp n0 w) {b0:Nat} (hb0:¬live ρ hp b0):∃h',HLe h h'∧SatH h' ρ hp n0 w∧h' b0=w.heap[b0]?:=by
 let h':HP:=fun b=>if b0=b then w.heap[b]? else h b
 have hle:HLe h h':=by
  intro b o e
  show (if b0=b then w.heap[b]? else h b)=some o
  split
  .exact m.hh b o e
  .exact e
 refine ⟨h',hle,⟨fun b o e=>?_,fun k=>Chunk.sat_mono hle (RLe.refl _) (fun _ _ _ _ _=>rfl) (m.ch k),m.inj,fun b hb=>?_,m.lt,m.fr,m.gens,m.glm hle⟩,if_pos rfl⟩
 .change (if b0=b then w.heap[b]? else h b)=some o at e
  split at e
  .exact e
  .exact m.hh b o e
 .show (if b0=b then w.heap[b]? else h b)=none
  rw [if_neg (fun e:b0=b=>by subst e;exact hb0 hb)]
  exact m.hid b hb
theorem ds_of {h:HP} {l:List (List AV)} {n len cap:Nat} {a:Option Addr} {ob:Option Nat} (hl:l.length=len) (hc:len≤cap) (hn:∀(j:Nat) e,l[j]?=some e→e.length=n) (ha:∀b,ob=some b→a=some ⟨b,0,none⟩)
  (h0:ob=none→l=[]) (hb:∀b,ob=some b→∃vs e fr,h b=some (.cells vs e fr)∧∀(j:Nat) x (q:Nat) α,l[j]?=some x→x[q]?=some α→∃u,vs[n*j+q]?=some u∧PRel h α u):PRel h (.ds l) (.slice a len cap):=by
 subst hl
 cases ob with
 | none =>
  have:=h0 rfl
  subst this
  exact .ds [] n a cap (fun _ _=>undef) hc hn (fun j e q α e1=>by simp at e1) fun e=>absurd rfl e
 | some b =>
  obtain ⟨vs,e,fr,e1,e2⟩:=hb b rfl
  refine .ds l n a cap (fun j q=>(vs[n*j+q]?).getD undef) hc hn (fun j x q α g1 g2=>?_) fun _=>⟨b,0,ha b rfl,fun j x q α g1 g2=>?_⟩
  .obtain ⟨u,z1,z2⟩:=e2 j x q α g1 g2
   simp only [z1,Option.getD_some]
   exact z2
  .obtain ⟨u,z1,z2⟩:=e2 j x q α g1 g2
   simp [cellAt,e1,z1]
theorem ge_frz (k g:Nat) (l l':List (List AV)) (env:EN) (t:Nat):ge (frz k g l l' env) t=frzV k g l l' (ge env t):=by
 induction env with
 | nil=>rfl
 | cons p r ih =>
  obtain ⟨j,α⟩:=p
  simp only [frz,List.map_cons,ge] at ih ⊢
  split
  .rfl
  .exact ih
theorem Sat.frz {st:St} {h:HP} {ρ ρ':RO} {a a':Act} {w w':World} {k g n n1:Nat} {l l2:List (List AV)} {env:EN} (S0:Sat C st h ρ a w) (hk:gc st.hp k=.rw g n l)
  (S1:Sat C ⟨env,(k,.rw (g+1) n (l++l2))::st.hp,n1⟩ h ρ' a' w') (hr:RLe ρ ρ') (hO:ρ' k (g+1)=ρ k g∨∀b,b<w.heap.size→w'.heap[b]?=w.heap[b]?) :
  S C ⟨frz k g l (l++l2) env,(k,.sh (g+1) n (l++l2))::(k,.rw (g+1) n (l++l2))::st.hp,n1⟩ a' w':=by
 obtain ⟨h1,e1,m1,lv1⟩:=S1.mem.shut gc_cons_same
 have hck:=S0.mem.ch k
 rw [hk] at hck
 obtain ⟨ob,cap,r1,r2,r2',r3,r4,r5⟩:=hck
 have r1':=hr _ _ _ r1
 have key:∃h2,HLe h1 h2∧SatH h2 ρ' ((k,.sh (g+1) n (l++l2))::(k,.rw (g+1) n (l++l2))::st.hp) n1 w' ∧
   ∀b,ob=some b→∃vs e fr,h2 b=some (.cells vs e fr)∧∀(j:Nat) x (q:Nat) α,l[j]?=some x→x[q]?=some α→∃u,vs[n*j+q]?=some u∧PRel h2 α u:=by
  rcases hO with e | e
  .refine ⟨h1,HLe.refl _,m1,fun b hb=>?_⟩
   have hck:=m1.ch k
   rw [gc_cons_same] at hck
   obtain ⟨ob',cap',q1,q2,q2',q3,q4,q5⟩:=hck
   rw [e,r1] at q1
   cases q1
   obtain ⟨vs,e',fr,x1,x2⟩:=q5 b hb
   exact ⟨vs,e',fr,x1,fun j x q α g1 g2=>x2 j x q α (by rw [List.getElem?_append_left (List.getElem?_eq_some_iff.1 g1).1];exact g1) g2⟩
  .cases ob with
   | none=>exact ⟨h1,HLe.refl _,m1,fun b hb=>by cases hb⟩
   | some b =>
    have hlv:live ρ st.hp b:=⟨k,g,cap,by rw [hk];rfl,r1⟩
    obtain ⟨vs,e',x1,x2,x3⟩:=r5 b rfl
    have hnl:¬live ρ' ((k,.sh (g+1) n (l++l2))::(k,.rw (g+1) n (l++l2))::st.hp) b:=by
     rintro ⟨k',g',c,eg,er⟩
     by_cases hkk:k=k'
     .subst hkk
      rw [gc_cons_same] at eg
      cases eg
     .rw [gc_cons_ne hkk,gc_cons_ne hkk] at eg
      have:∃y,ρ k' g'=some y:=by
       have hs:=S0.mem.ch k'
       cases hg:gc st.hp k'<;>rw [hg] at hs eg<;>first | (rcases eg with rfl | rfl<;>obtain ⟨_,_,_,_,y,_,_,_,_,⟨_,y2⟩,_⟩:=hs<;>first | exact ⟨_,y⟩ | exact ⟨_,y2⟩) | (cases eg;done) | (cases eg;obtain ⟨_,_,_,_,y,_⟩:=hs;exact ⟨_,y⟩) | (cases eg;obtain ⟨_,_,y,_⟩:=hs;exact ⟨_,y⟩)
      obtain ⟨y,hy⟩:=this
      have:=hr _ _ _ hy
      rw [er] at this
      cases this
      exact hkk (S0.mem.inj k k' g g' b cap c (by rw [hk];rfl) eg r1 hy)
    obtain ⟨h2,z1,z2,z3⟩:=m1.more hnl
    refine ⟨h2,z1,z2,fun b' hb=>?_⟩
    cases hb
    rw [e b (S0.mem.lt b hlv),x1] at z3
    exact ⟨vs,e',_,z3,fun j x q α g1 g2=>let ⟨u,y1,y2⟩:=x3 j x q α g1 g2;⟨u,y1,y2.mono (HLe.trans e1 z1)⟩⟩
 obtain ⟨h2,e2,m2,hold⟩:=key
 have hh:=HLe.trans e1 e2
 refine ⟨h2,ρ',HLe.trans S1.hle hh,S1.rle,S1.keep,fun b hb=>S1.own b (lv1 b hb),m2,fun t ht=>?_,S1.size,S1.defers⟩
 obtain ⟨v,y1,y2⟩:=S1.env t ht
 refine ⟨v,y1,?_⟩
 simp only [ge_frz]
 generalize ge env t=α at y2
 have y3:=y2.mono hh (RLe.refl _)
 unfold frzV
 split
 .rename_i k' g' len
  split
  .rename_i hkk
   subst hkk
   split
   .rename_i hg
    obtain ⟨rfl,hle⟩:=hg
    cases y2 with
    | pu _ _ p=>cases p
    | rw _ _ _ cp aa ob' f1 f2 f3 =>
     rw [r1'] at f1
     cases f1
     refine .pu _ _ (ds_of (n:=n) (ob:=ob) (by simp;omega) f2 (fun j e he=>?_) f3 (fun e=>?_) fun b hb=>?_)
     .rw [List.getElem?_take] at he
      split at he
      .exact r3 j e he
      .cases he
     .have:=r4 e
      have:l=[]:=List.eq_nil_of_length_eq_zero (by omega)
      simp [this]
     .obtain ⟨vs,e,fr,x1,x2⟩:=hold b hb
      refine ⟨vs,e,fr,x1,fun j x q α g1 g2=>?_⟩
      rw [List.getElem?_take] at g1
      split at g1
      .exact x2 j x q α g1 g2
      .cases g1
   .split
    .rename_i hg
     obtain ⟨rfl,hle⟩:=hg
     have hck:=m2.ch k'
     rw [gc_cons_same] at hck
     obtain ⟨ob',cap',q1,q2,q2',q3,q4,q5⟩:=hck
     cases y2 with
     | pu _ _ p=>cases p
     | rw _ _ _ cp aa ob2 f1 f2 f3 =>
      rw [q1] at f1
      cases f1
      exact .pu _ _ (ds_of (n:=n) (ob:=ob') hle.symm f2 q3 f3 (fun e=>List.eq_nil_of_length_eq_zero (by have:=q4 e;omega)) q5)
    .exact y3
  .exact y3
 .exact y3
theorem op_sound {st:St} {a:Act} {w:World} {ops:Array Oper} {o:Oper} {c:COp} {g:Option (Nat × Bool)} (hc:cop P C.N ops.toList o=some c) (hg:cguard C.N ops.toList o.guard=some g) {K:St→Prop}
  {dp:List Nat} {fz:Bool} (hv:vcOp P ⟨o.dst,c,g,dp,fz⟩ st K) (hS:S C st a w) (Q:Exit→Act→World→Prop) :
  if Region.wanted o (yielded ops a.tmps) then o.wp P a w (fun a' w'=>∃st',K st'∧S C st' a' w') Q else ∃st',K st'∧S C st' (a.put o.dst undef) w:=by
 cases fz with
 | false=>exact op1_sound hc hg (fz:=false) hv hS Q
 | true =>
  change vcFz P _ st K at hv
  unfold vcFz at hv
  split at hv
  .rename_i x y n bytes hop hgg
   simp only at hop hgg
   subst hop hgg
   have hgn:o.guard=none:=by
    cases ho:o.guard with
    | none=>rfl
    | some jw =>
     rw [ho] at hg
     simp only [cguard] at hg
     split at hg
     .split at hg<;>cases hg
     .cases hg
   rw [if_pos (by simp [Region.wanted,hgn])]
   split at hv
   .exact run_sound hc hv hS Q
   rename_i hns
   obtain ⟨hob,hv⟩:=hv
   split at hv
   .rename_i l2 hl2
    obtain ⟨b1,b2,b3,hv⟩:=hv
    split at hv
    .rename_i k gg len hx
     split at hv
     .rename_i g' n' l hk
      obtain ⟨⟨rfl,rfl,rfl⟩,hK⟩:=hv
      obtain ⟨h,ρ,S0⟩:=hS
      have hv1:vcRun P st.n ⟨o.dst,.ap x y n bytes,none,dp,true⟩ st (fun st'=>st'=⟨EN.set st.env o.dst (.rw k (gg+1) (l.length+l2.length)),(k,.rw (gg+1) n (l++l2))::st.hp,st.n⟩):=by
       refine ⟨hob,?_⟩
       simp only [nstF,hns,hl2]
       refine ⟨b1,b2,b3,?_⟩
       simp [hx,apR,hk]
      refine Oper.wp_mono (fun a' w' ⟨st',h',ρ',e,s,f⟩=>?_) (runAt_sound (P:=P) hc hv1 S0 (fun g=>S0.mem.fr st.n g (Nat.le_refl _)) Q)
      subst e
      obtain ⟨eh,hrl,ho⟩:=f.2 x y n bytes rfl
      subst eh
      exact ⟨_,hK,S0.frz hk s hrl (ho k gg l.length hx)⟩
     .exact hv.elim
    .exact hv.elim
   .exact hv.elim
  .rename_i fz0 n ps hop hgg
   simp only at hop hgg
   subst hop hgg
   have hgn:o.guard=none:=by
    cases ho:o.guard with
    | none=>rfl
    | some jw =>
     rw [ho] at hg
     simp only [cguard] at hg
     split at hg
     .split at hg<;>cases hg
     .cases hg
   rw [if_pos (by simp [Region.wanted,hgn])]
   exact run_sound hc hv hS Q
  .exact hv.elim
theorem ge_filter (f:Nat→Bool):∀(env:EN) (t:Nat),ge (env.filter fun p=>f p.1) t=ge env t∨ge (env.filter fun p=>f p.1) t=.un
 | [],_=>.inl rfl
 | (k,c)::r,t=>by
  simp only [List.filter_cons]
  split
  .simp only [ge]
   split
   .exact .inl rfl
   .exact ge_filter f r t
  .rename_i hf
   rcases ge_filter f r t with h | h
   .simp only [ge]
    split
    .rename_i hk
     subst hk
     right
     clear h
     have:∀r:EN,ge (r.filter fun p=>f p.1) k=.un:=by
      intro r
      induction r with
      | nil=>rfl
      | cons x r ih =>
       obtain ⟨j,c⟩:=x
       simp only [List.filter_cons]
       split
       .rename_i hj
        simp only [ge]
        split
        .rename_i he;subst he;exact absurd hj hf
        .exact ih
       .exact ih
     exact this r
    .exact .inl h
   .exact .inr h
theorem S.drop {st:St} {a:Act} {w:World} (hS:S C st a w) (dp:List Nat):S C ⟨EN.drop dp st.env,st.hp,st.n⟩ a w:=by
 unfold EN.drop
 split
 .exact hS
 .obtain ⟨h,ρ,s⟩:=hS
  refine ⟨h,ρ,s.hle,s.rle,s.keep,s.own,s.mem,fun t ht=>?_,s.size,s.defers⟩
  obtain ⟨v,h1,h2⟩:=s.env t ht
  refine ⟨v,h1,?_⟩
  rcases ge_filter (fun x=>!dp.contains x) st.env t with e | e
  .simp only [e];exact h2
  .simp only [e];exact .pu _ _ (.un _)
theorem ops_sound {ops:Array Oper} {Q:Exit→Act→World→Prop}:∀(l:List Oper) (cl:List CO) (st:St) (a:Act) (w:World) (K:St→Prop),cops P C.N ops.toList l=some (cl.map CO.er)→vcOps P cl st K→S C st a w →
  (∀st' a' w',K st'→S C st' a' w'→Q .normal a' w')→wpList P ops Q l a w:=by
 intro l
 induction l with
 | nil =>
  intro cl st a w K hc hv hS hq
  simp [cops] at hc
  subst hc
  exact hq _ _ _ hv hS
 | cons o r ih =>
  intro cl st a w K hc hv hS hq
  unfold cops at hc
  split at hc
  .rename_i c g l' h1 h2 h3
   cases cl with
   | nil=>cases hc
   | cons o0 l0 =>
   simp only [List.map_cons,Option.some.injEq,List.cons.injEq] at hc
   obtain ⟨hc1,hc2⟩:=hc
   subst hc2
   obtain ⟨d0,c0,g0,dp0,fz0⟩:=o0
   cases hc1
   have:=op_sound (P:=P) h1 h2 hv hS Q
   unfold wpList
   split at this
   .rename_i hw
    rw [if_pos hw]
    exact .inl (Oper.wp_mono (fun a' w' ⟨st',k1,k2⟩=>ih l0 _ a' w' K h3 k1 (k2.drop dp0) hq) this)
   .rename_i hw
    rw [if_neg hw]
    obtain ⟨st',k1,k2⟩:=this
    exact ih l0 _ _ _ K h3 k1 (k2.drop dp0) hq
  .cases hc
theorem Weak.refl (s:St):Weak s s:=fun _ _ _ h=>h
theorem Weak.trans {a b c:St} (h:Weak a b) (k:Weak b c):Weak a c:=fun C x w s=>k C x w (h C x w s)
end
end Go.Eng
