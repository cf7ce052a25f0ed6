/- Proof. Conditions: none. -/
import Derived.Test.YtgfidgoefioigaaGreatDoorIi8
open Nat renaming le_refl→zna
namespace Go.Eng
set_option linter.all false
section
variable {P:Program} {C:Ctx}
theorem S.slot {st:St} {a:Act} {w:World} (hS:S C st a w) {t:Nat} (ht:t<C.N):∃h ρ v,Sat C st h ρ a w∧a.tmps[t]?=some v∧AN h ρ (ge st.env t) v:=by
 obtain ⟨h,ρ,s⟩:=hS
 obtain ⟨v,h1,h2⟩:=s.env t ht
 exact ⟨h,ρ,v,s,h1,h2⟩
theorem S.undef {st:St} {a:Act} {w:World} (hS:S C st a w) (d:Option Nat) (x:AV):S C ⟨EN.set st.env d (.gd false x),st.hp,st.n⟩ (a.put d undef) w:=by
 obtain ⟨h,ρ,s⟩:=hS
 exact ⟨h,ρ,s.val d (.gd _ _ _ (fun e=>by cases e) (fun _=>rfl))⟩
theorem T3 {o:As} {env:EN} (h:Kc o env=true):o.isV=true:=by
 unfold Kc at h
 split at h
 .rfl
 .exact h
theorem Vp {st:St} {a:Act} {w:World} {ops:List Oper} {o:Oper} {c:As} (hc:MD P C.N ops o=some c) (hs:c.isV=true) {G:Bool} (hG:G=true) (AM:c.obs st.env (G=true))
  (Dc:c.pre st.hp fun s=>AR (s.ev st.env)) (A4:(c.val st.hp fun s=>AR (s.ev st.env)).isSome=true) (hS:S C st a w) {K:St→Prop}
  (hk:K ⟨EN.set st.env o.dst (.gd G ((c.val st.hp fun s=>AR (s.ev st.env)).getD .un)),st.hp,st.n⟩) (Q:Exit→Act→World→Prop):o.wp P a w (fun a' w'=>∃st',K st'∧S C st' a' w') Q:=by
 obtain ⟨h,ρ,s⟩:=hS
 obtain ⟨α,hα⟩:=Option.isSome_iff_exists.1 A4
 obtain ⟨v,h1,h2⟩:=H6 (P:=P) s hG hc hs AM Dc hα
 unfold Oper.wp
 rw [h1]
 refine ⟨_,hk,h,ρ,?_⟩
 rw [hα]
 exact s.val o.dst (.gd _ _ _ (fun _=>h2) (fun e=>by rw [hG] at e;cases e))
theorem Jq {ops:Array Oper} {tmps:Array Value} {j t:Nat} (h:(ops[j]?).bind (·.dst)=some t):yielded ops tmps j=match tmps[t]? with | some (.bool b)=>some b | _=>none:=by
 unfold yielded
 rw [h]
 rfl
theorem YK {o:CO} {st:St} {G:Bool} {K:St→Prop} (hs:¬Kc o.op st.env=true) (h:Pz P o st G K) :
  (G=true→CT P st.n o st K∨∃r,CT P st.n o st (fun st'=>st'=⟨EN.set st.env o.dst r,st.hp,st.n⟩)∧K ⟨EN.set st.env o.dst (.gd true r),st.hp,st.n⟩) ∧
  (G=false→∃x,K ⟨EN.set st.env o.dst (.gd false x),st.hp,st.n⟩):=by
 unfold Pz at h
 rw [if_neg hs] at h
 split at h
 .rename_i f xs ho
  obtain ⟨d,op,g,dp,fz⟩:=o
  simp only at ho
  subst ho
  obtain ⟨ho,h⟩:=h
  refine ⟨fun e=>?_,fun e=>?_⟩
  .subst e
   rcases h with ⟨r,m,k⟩ | h
   .exact .inr ⟨r,⟨ho,Af.f (m rfl) rfl⟩,k⟩
   .exact .inl ⟨ho,h.1 rfl⟩
  .subst e
   rcases h with ⟨r,m,k⟩ | h
   .exact ⟨_,k⟩
   .exact ⟨_,h.2 rfl⟩
 .exact ⟨fun e=>.inl (h.1 e),fun e=>⟨_,h.2 e⟩⟩
theorem Rg {st:St} {a:Act} {w:World} {ops:Array Oper} {o:Oper} {c:As} {g:Option (Nat × Bool)} (hc:MD P C.N ops.toList o=some c) (hg:D7 C.N ops.toList o.guard=some g) {K:St→Prop}
  {dp:List Nat} {fz:Bool} (hv:Ig P ⟨o.dst,c,g,dp,fz⟩ st K) (hS:S C st a w) (Q:Exit→Act→World→Prop) :
  if Region.wanted o (yielded ops a.tmps) then o.wp P a w (fun a' w'=>∃st',K st'∧S C st' a' w') Q else ∃st',K st'∧S C st' (a.put o.dst undef) w:=by
 cases ho:o.guard with
 | none =>
  rw [ho] at hg
  simp [D7] at hg
  subst hg
  rw [if_pos (by simp [Region.wanted,ho])]
  exact E8 hc hv hS Q
 | some jw =>
  obtain ⟨j,want⟩:=jw
  rw [ho] at hg
  unfold D7 at hg
  simp only at hg
  split at hg
  .rename_i t ht
   split at hg
   .rename_i htN
    simp only [Option.some.injEq] at hg
    subst hg
    have hj:(ops[j]?).bind (·.dst)=some t:=by simpa using ht
    have hw:Region.wanted o (yielded ops a.tmps)=(yielded ops a.tmps j == some want):=by simp [Region.wanted,ho]
    rw [hw,Jq hj]
    have main:∀G:Bool,(((match a.tmps[t]? with | some (.bool b)=>some b | _=>none) == some want)=G)→Pz P ⟨o.dst,c,some (t,want),dp,fz⟩ st G K →
      if ((match a.tmps[t]? with | some (.bool b)=>some b | _=>none) == some want)=true then o.wp P a w (fun a' w'=>∃st',K st'∧S C st' a' w') Q else ∃st',K st'∧S C st' (a.put o.dst undef) w:=by
     intro G hGe hvg
     rw [hGe]
     by_cases hsoft:Kc c st.env=true
     .unfold Pz at hvg
      rw [if_pos hsoft] at hvg
      obtain ⟨h1,h2,h3,h4⟩:=hvg
      cases G with
      | true =>
       rw [if_pos rfl]
       exact Vp hc (T3 hsoft) rfl (As.obsB_obs (fun h=>h) h1) (h2 rfl) (h3 rfl) hS h4 Q
      | false =>
       rw [if_neg (by simp)]
       exact ⟨_,h4,hS.undef o.dst _⟩
     .obtain ⟨h1,h2⟩:=YK hsoft hvg
      cases G with
      | true =>
       rw [if_pos rfl]
       rcases h1 rfl with h1 | ⟨r,h1,hk⟩
       .exact E8 hc h1 hS Q
       .refine Oper.wp_mono (fun a' w' ⟨st',e,h',ρ',s⟩=>?_) (E8 hc h1 hS Q)
        subst e
        refine ⟨_,hk,h',ρ',s.hle,s.rle,s.keep,s.own,s.mem,fun t ht=>?_,s.size,s.defers⟩
        obtain ⟨v,g1,g2⟩:=s.env t ht
        refine ⟨v,g1,?_⟩
        cases hd:o.dst with
        | none=>rw [hd] at g2;exact g2
        | some d =>
         rw [hd] at g2
         simp only [EN.set,ge] at g2 ⊢
         split
         .rename_i hdt
          rw [if_pos hdt] at g2
          exact .gd _ _ _ (fun _=>g2) (fun e=>by cases e)
         .rename_i hdt
          rw [if_neg hdt] at g2
          exact g2
      | false =>
       rw [if_neg (by simp)]
       obtain ⟨x,h2⟩:=h2 rfl
       exact ⟨_,h2,hS.undef o.dst _⟩
    obtain ⟨h,ρ,v,s,h1,h2⟩:=hS.slot htN
    unfold Ig at hv
    simp only at hv
    split at hv
    .rename_i x hx
     rw [hx] at h2
     rw [h2.bool] at h1
     exact main _ (by rw [h1];cases x<;>cases want<;>rfl) hv
    .rename_i cc x hx
     rw [hx] at h2
     refine main _ ?_ hv
     rw [h1]
     have key:(cc=true→v=.bool x)∧(cc=false→v=undef):=by
      cases h2 with
      | pu _ _ p=>cases p with | gd _ _ _ p1 p2=>exact ⟨fun e=>by cases p1 e;rfl,p2⟩
      | gd _ _ _ p1 p2=>exact ⟨fun e=>(p1 e).bool,p2⟩
     cases cc with
     | true=>rw [key.1 rfl];cases x<;>cases want<;>rfl
     | false=>rw [key.2 rfl];rfl
    .rename_i hx
     rw [hx] at h2
     refine main _ ?_ hv
     rw [h1]
     have key:v=undef:=by
      cases h2 with
      | pu _ _ p=>cases p with | gd _ _ _ p1 p2=>exact p2 rfl
      | gd _ _ _ p1 p2=>exact p2 rfl
     rw [key]
     rfl
    .exact hv.elim
   .cases hg
  .cases hg
theorem SatH.more {h:HP} {ρ:RO} {hp:CH} {n0:Nat} {w:World} (m:SatH h ρ hp n0 w) {b0:Nat} (hb0:¬A9 ρ hp b0):∃h',B8 h h'∧SatH h' ρ hp n0 w∧h' b0=w.heap[b0]?:=by
 let h':HP:=fun b=>if b0=b then w.heap[b]? else h b
 have hle:B8 h h':=by
  intro b o e
  show (if b0=b then w.heap[b]? else h b)=some o
  split
  .exact m.hh b o e
  .exact e
 refine ⟨h',hle,⟨fun b o e=>?_,fun k=>Ap.sat_mono hle (BS.refl _) (fun _ _ _ _ _=>rfl) (m.ch k),m.inj,fun b hb=>?_,m.lt,m.fr,m.gens,m.glm hle⟩,if_pos rfl⟩
 .change (if b0=b then w.heap[b]? else h b)=some o at e
  split at e
  .exact e
  .exact m.hh b o e
 .show (if b0=b then w.heap[b]? else h b)=none
  rw [if_neg (fun e:b0=b=>by subst e;exact hb0 hb)]
  exact m.hid b hb
theorem XP {h:HP} {l:List (List AV)} {n len cap:Nat} {a:Option Addr} {ob:Option Nat} (hl:l.length=len) (hc:len≤cap) (hn:∀(j:Nat) e,l[j]?=some e→e.length=n) (ha:∀b,ob=some b→a=some ⟨b,0,none⟩)
  (h0:ob=none→l=[]) (hb:∀b,ob=some b→∃vs e fr,h b=some (.cells vs e fr)∧∀(j:Nat) x (q:Nat) α,l[j]?=some x→x[q]?=some α→∃u,vs[n*j+q]?=some u∧Bd h α u):Bd h (.ds l) (.slice a len cap):=by
 subst hl
 cases ob with
 | none =>
  have:=h0 rfl
  subst this
  exact .ds [] n a cap (fun _ _=>undef) hc hn (fun j e q α e1=>by simp at e1) fun e=>absurd rfl e
 | some b =>
  obtain ⟨vs,e,fr,e1,e2⟩:=hb b rfl
  refine .ds l n a cap (fun j q=>(vs[n*j+q]?).getD undef) hc hn (fun j x q α g1 g2=>?_) fun _=>⟨b,0,ha b rfl,fun j x q α g1 g2=>?_⟩
  .obtain ⟨u,z1,z2⟩:=e2 j x q α g1 g2
   simp only [z1,Option.getD_some]
   exact z2
  .obtain ⟨u,z1,z2⟩:=e2 j x q α g1 g2
   simp [DB,e1,z1]
theorem Zl (k g:Nat) (l l':List (List AV)) (env:EN) (t:Nat):ge (frz k g l l' env) t=W3 k g l l' (ge env t):=by
 induction env with
 | nil=>rfl
 | cons p r ih =>
  obtain ⟨j,α⟩:=p
  simp only [frz,List.map_cons,ge] at ih ⊢
  split
  .rfl
  .exact ih
theorem Sat.frz {st:St} {h:HP} {ρ ρ':RO} {a a':Act} {w w':World} {k g n n1:Nat} {l l2:List (List AV)} {env:EN} (S0:Sat C st h ρ a w) (hk:gc st.hp k=.rw g n l)
  (S1:Sat C ⟨env,(k,.rw (g+1) n (l++l2))::st.hp,n1⟩ h ρ' a' w') (hr:BS ρ ρ') (hO:ρ' k (g+1)=ρ k g∨((∀b,b<w.heap.size→w'.heap[b]?=w.heap[b]?)∧∀b c,ρ' k (g+1)=some (some b,c)→w.heap.size≤b)) :
  S C ⟨frz k g l (l++l2) env,(k,.sh (g+1) n (l++l2))::(k,.rw (g+1) n (l++l2))::st.hp,n1⟩ a' w':=by
 obtain ⟨h1,e1,m1,lv1⟩:=S1.mem.shut Aj
 have CI:=S0.mem.ch k
 rw [hk] at CI
 obtain ⟨ob,cap,r1,r2,r2',r3,r4,r5⟩:=CI
 have r1':=hr _ _ _ r1
 have key:∃h2,B8 h1 h2∧SatH h2 ρ' ((k,.sh (g+1) n (l++l2))::(k,.rw (g+1) n (l++l2))::st.hp) n1 w' ∧
   ∀b,ob=some b→∃vs e fr,h2 b=some (.cells vs e fr)∧∀(j:Nat) x (q:Nat) α,l[j]?=some x→x[q]?=some α→∃u,vs[n*j+q]?=some u∧Bd h2 α u:=by
  rcases hO with e | ⟨e,_⟩
  .refine ⟨h1,B8.refl _,m1,fun b hb=>?_⟩
   have CI:=m1.ch k
   rw [Aj] at CI
   obtain ⟨ob',cap',q1,q2,q2',q3,q4,q5⟩:=CI
   rw [e,r1] at q1
   cases q1
   obtain ⟨vs,e',fr,x1,x2⟩:=q5 b hb
   exact ⟨vs,e',fr,x1,fun j x q α g1 g2=>x2 j x q α (by rw [List.getElem?_append_left (List.getElem?_eq_some_iff.1 g1).1];exact g1) g2⟩
  .cases ob with
   | none=>exact ⟨h1,B8.refl _,m1,fun b hb=>by cases hb⟩
   | some b =>
    have Gw:A9 ρ st.hp b:=⟨k,g,cap,by rw [hk];rfl,r1⟩
    obtain ⟨vs,e',x1,x2,x3⟩:=r5 b rfl
    have Ma:¬A9 ρ' ((k,.sh (g+1) n (l++l2))::(k,.rw (g+1) n (l++l2))::st.hp) b:=by
     rintro ⟨k',g',c,eg,er⟩
     by_cases DI:k=k'
     .subst DI
      rw [Aj] at eg
      cases eg
     .rw [Al DI,Al DI] at eg
      have:∃y,ρ k' g'=some y:=by
       have hs:=S0.mem.ch k'
       cases hg:gc st.hp k'<;>rw [hg] at hs eg<;>first | (rcases eg with rfl | rfl<;>obtain ⟨_,_,_,_,y,_,_,_,_,⟨_,y2⟩,_⟩:=hs<;>first | exact ⟨_,y⟩ | exact ⟨_,y2⟩) | (rcases eg with rfl | rfl<;>obtain ⟨_,_,_,_,y,_,_,_,_,_,_,_,y2,_⟩:=hs<;>first | exact ⟨_,y⟩ | exact ⟨_,y2⟩) | (cases eg;done) | (cases eg;obtain ⟨_,_,_,_,y,_⟩:=hs;exact ⟨_,y⟩) | (cases eg;obtain ⟨_,_,y,_⟩:=hs;exact ⟨_,y⟩) | (cases eg;obtain ⟨_,y,_⟩:=hs;exact ⟨_,y⟩)
      obtain ⟨y,hy⟩:=this
      have:=hr _ _ _ hy
      rw [er] at this
      cases this
      exact DI (S0.mem.inj k k' g g' b cap c (by rw [hk];rfl) eg r1 hy)
    obtain ⟨h2,z1,z2,z3⟩:=m1.more Ma
    refine ⟨h2,z1,z2,fun b' hb=>?_⟩
    cases hb
    rw [e b (S0.mem.lt b Gw),x1] at z3
    exact ⟨vs,e',_,z3,fun j x q α g1 g2=>let ⟨u,y1,y2⟩:=x3 j x q α g1 g2;⟨u,y1,y2.mono (B8.trans e1 z1)⟩⟩
 obtain ⟨h2,e2,m2,DD⟩:=key
 have hh:=B8.trans e1 e2
 refine ⟨h2,ρ',B8.trans S1.hle hh,S1.rle,S1.keep,fun b hb=>S1.own b (lv1 b hb),m2,fun t ht=>?_,S1.size,S1.defers⟩
 obtain ⟨v,y1,y2⟩:=S1.env t ht
 refine ⟨v,y1,?_⟩
 simp only [Zl]
 generalize ge env t=α at y2
 have y3:=y2.mono hh (BS.refl _)
 unfold W3
 split
 .rename_i k' g' len
  split
  .rename_i DI
   subst DI
   split
   .rename_i hg
    obtain ⟨rfl,hle⟩:=hg
    cases y2 with
    | pu _ _ p=>cases p
    | rw _ _ _ cp aa ob' f1 f2 f3 =>
     rw [r1'] at f1
     cases f1
     refine .pu _ _ (XP (n:=n) (ob:=ob) (by simp;omega) f2 (fun j e he=>?_) f3 (fun e=>?_) fun b hb=>?_)
     .rw [List.getElem?_take] at he
      split at he
      .exact r3 j e he
      .cases he
     .have:=r4 e
      have:l=[]:=List.eq_nil_of_length_eq_zero (by omega)
      simp [this]
     .obtain ⟨vs,e,fr,x1,x2⟩:=DD b hb
      refine ⟨vs,e,fr,x1,fun j x q α g1 g2=>?_⟩
      rw [List.getElem?_take] at g1
      split at g1
      .exact x2 j x q α g1 g2
      .cases g1
   .split
    .rename_i hg
     obtain ⟨rfl,hle⟩:=hg
     have CI:=m2.ch k'
     rw [Aj] at CI
     obtain ⟨ob',cap',q1,q2,q2',q3,q4,q5⟩:=CI
     cases y2 with
     | pu _ _ p=>cases p
     | rw _ _ _ cp aa ob2 f1 f2 f3 =>
      rw [q1] at f1
      cases f1
      exact .pu _ _ (XP (n:=n) (ob:=ob') hle.symm f2 q3 f3 (fun e=>List.eq_nil_of_length_eq_zero (by have:=q4 e;omega)) q5)
    .exact y3
  .exact y3
 .exact y3
theorem Sat.weak_dup {env:EN} {hp:CH} {nn k:Nat} {h:HP} {ρ:RO} {a:Act} {w:World} {X Y:Ap} (s:Sat C ⟨env,(k,X)::(k,Y)::hp,nn⟩ h ρ a w):S C ⟨env,(k,X)::hp,nn⟩ a w:=by
 have e:∀j,gc ((k,X)::(k,Y)::hp) j=gc ((k,X)::hp) j:=fun j=>by
  by_cases hj:k=j
  .subst hj;rw [Aj,Aj]
  .rw [Al hj,Al hj,Al hj]
 have hl:∀b,A9 ρ ((k,X)::hp) b→A9 ρ ((k,X)::(k,Y)::hp) b:=fun b ⟨j,g,c,q,r⟩=>⟨j,g,c,by rw [e];exact q,r⟩
 refine ⟨h,ρ,s.hle,s.rle,s.keep,fun b hb=>s.own b (hl b hb),⟨s.mem.hh,fun j=>by rw [←e j];exact s.mem.ch j,fun j j' g g' b c c' q q'=>s.mem.inj j j' g g' b c c' (by rw [e];exact q) (by rw [e];exact q'),fun b hb=>s.mem.hid b (hl b hb),fun b hb=>s.mem.lt b (hl b hb),s.mem.fr,fun j g g' x q r=>s.mem.gens j g g' x (by rw [e];exact q) r,s.mem.gl⟩,s.env,s.size,s.defers⟩
theorem Uu {st:St} {a:Act} {w:World} {ops:Array Oper} {o:Oper} {c:As} {g:Option (Nat × Bool)} (hc:MD P C.N ops.toList o=some c) (hg:D7 C.N ops.toList o.guard=some g) {K:St→Prop}
  {dp:List Nat} {fz:Bool} (hv:TL P ⟨o.dst,c,g,dp,fz⟩ st K) (hS:S C st a w) (Q:Exit→Act→World→Prop) :
  if Region.wanted o (yielded ops a.tmps) then o.wp P a w (fun a' w'=>∃st',K st'∧S C st' a' w') Q else ∃st',K st'∧S C st' (a.put o.dst undef) w:=by
 cases fz with
 | false=>exact Rg hc hg (fz:=false) hv hS Q
 | true =>
  change Sl P _ st K at hv
  unfold Sl at hv
  split at hv
  .rename_i x y n bytes hop hgg
   simp only at hop hgg
   subst hop hgg
   have hgn:o.guard=none:=by
    cases ho:o.guard with
    | none=>rfl
    | some jw =>
     rw [ho] at hg
     simp only [D7] at hg
     split at hg
     .split at hg<;>cases hg
     .cases hg
   rw [if_pos (by simp [Region.wanted,hgn])]
   split at hv
   .exact E8 hc hv hS Q
   rename_i hns
   obtain ⟨hob,hv⟩:=hv
   split at hv
   .rename_i l2 Fm
    obtain ⟨b1,b2,b3,hv⟩:=hv
    split at hv
    .rename_i k gg len hx
     split at hv
     .rename_i g' n' l hk
      split at hv
      .obtain ⟨⟨rfl,rfl,rfl⟩,hK⟩:=hv
       obtain ⟨h,ρ,S0⟩:=hS
       have hv1:CT P st.n ⟨o.dst,.ap x y n bytes,none,dp,true⟩ st (fun st'=>st'=⟨EN.set st.env o.dst (.rw k (gg+1) (l.length+l2.length)),(k,.rw (gg+1) n (l++l2))::st.hp,st.n⟩):=by
        refine ⟨hob,?_⟩
        simp only [Tp,hns,Fm]
        refine ⟨b1,b2,b3,?_⟩
        simp [hx,GB,hk]
       refine Oper.wp_mono (fun a' w' ⟨st',h',ρ',e,s,f⟩=>?_) (D2 (P:=P) hc hv1 S0 (fun g=>S0.mem.fr st.n g (zna _)) Q)
       subst e
       obtain ⟨eh,SJ,ho⟩:=f.2 x y n bytes rfl
       subst eh
       exact ⟨_,hK,S0.frz hk s SJ (ho k gg l.length _ _ hx hk)⟩
      .obtain ⟨⟨rfl,rfl,hle,hl1⟩,hKa,hKb⟩:=hv
       obtain ⟨h,ρ,S0⟩:=hS
       have S1:=S0.trunc hk hle
       have hv1:CT P st.n ⟨o.dst,.ap x y n bytes,none,dp,false⟩ ⟨st.env,(k,.rw gg n (l.take len))::st.hp,st.n⟩ (fun st'=>st'=⟨EN.set st.env o.dst (.rw k (gg+1) (len+l2.length)),(k,.rw (gg+1) n (l.take len++l2))::(k,.rw gg n (l.take len))::st.hp,st.n⟩):=by
        refine ⟨hob,?_⟩
        simp only [Tp,hl1]
        refine ⟨b1,b2,b3,?_⟩
        have hln:len=(l.take len).length:=by rw [List.length_take];omega
        simp only [hx,GB,Aj]
        rw [if_pos ⟨trivial,trivial,hln⟩]
       refine Oper.wp_mono (fun a' w' ⟨st',h',ρ',e,s,f⟩=>?_) (D2 (P:=P) hc hv1 S1 (fun g=>S0.mem.fr st.n g (zna _)) Q)
       subst e
       obtain ⟨eh,SJ,ho⟩:=f.2 x y n bytes rfl
       subst eh
       rcases ho k gg len _ _ hx Aj with hA | ⟨hB1,hB2⟩
       .exact ⟨_,hKa,(S1.push_in Aj s SJ hA).weak_dup⟩
       .obtain ⟨ρ2,_,_,s2⟩:=S1.push_new Aj s SJ hB1 hB2 (fun g=>S0.mem.fr st.n g (zna _))
        have e1:max st.n (st.n+1)=st.n+1:=by omega
        rw [e1] at s2
        exact ⟨_,hKb,_,ρ2,s2⟩
     .exact hv.elim
    .rename_i hx
     obtain ⟨_,hK⟩:=hv
     obtain ⟨h,ρ,S0⟩:=hS
     have hv1:CT P st.n ⟨o.dst,.ap x y n bytes,none,dp,true⟩ st (fun st'=>st'=⟨EN.set st.env o.dst (.rw st.n 0 l2.length),(st.n,.rw 0 n l2)::st.hp,max st.n (st.n+1)⟩):=by
      refine ⟨hob,?_⟩
      simp only [Tp,hns,Fm]
      refine ⟨b1,b2,b3,?_⟩
      simp [hx,GB]
     refine Oper.wp_mono (fun a' w' ⟨st',h',ρ',e,s,f⟩=>?_) (D2 (P:=P) hc hv1 S0 (fun g=>S0.mem.fr st.n g (zna _)) Q)
     subst e
     exact ⟨_,hK,h',ρ',s⟩
    .exact hv.elim
   .exact hv.elim
  .rename_i fz0 n ps hop hgg
   simp only at hop hgg
   subst hop hgg
   have hgn:o.guard=none:=by
    cases ho:o.guard with
    | none=>rfl
    | some jw =>
     rw [ho] at hg
     simp only [D7] at hg
     split at hg
     .split at hg<;>cases hg
     .cases hg
   rw [if_pos (by simp [Region.wanted,hgn])]
   exact E8 hc hv hS Q
  .exact hv.elim
theorem Hu (f:Nat→Bool):∀(env:EN) (t:Nat),ge (env.filter fun p=>f p.1) t=ge env t∨ge (env.filter fun p=>f p.1) t=.un
 | [],_=>.inl rfl
 | (k,c)::r,t=>by
  simp only [List.filter_cons]
  split
  .simp only [ge]
   split
   .exact .inl rfl
   .exact Hu f r t
  .rename_i hf
   rcases Hu f r t with h | h
   .simp only [ge]
    split
    .rename_i hk
     subst hk
     right
     clear h
     have:∀r:EN,ge (r.filter fun p=>f p.1) k=.un:=by
      intro r
      induction r with
      | nil=>rfl
      | cons x r ih =>
       obtain ⟨j,c⟩:=x
       simp only [List.filter_cons]
       split
       .rename_i hj
        simp only [ge]
        split
        .rename_i he;subst he;exact absurd hj hf
        .exact ih
       .exact ih
     exact this r
    .exact .inl h
   .exact .inr h
theorem S.drop {st:St} {a:Act} {w:World} (hS:S C st a w) (dp:List Nat):S C ⟨EN.drop dp st.env,st.hp,st.n⟩ a w:=by
 unfold EN.drop
 split
 .exact hS
 .obtain ⟨h,ρ,s⟩:=hS
  refine ⟨h,ρ,s.hle,s.rle,s.keep,s.own,s.mem,fun t ht=>?_,s.size,s.defers⟩
  obtain ⟨v,h1,h2⟩:=s.env t ht
  refine ⟨v,h1,?_⟩
  rcases Hu (fun x=>!dp.contains x) st.env t with e | e
  .simp only [e];exact h2
  .simp only [e];exact .pu _ _ (.un _)
theorem QR {ops:Array Oper} {Q:Exit→Act→World→Prop}:∀(l:List Oper) (cl:List CO) (st:St) (a:Act) (w:World) (K:St→Prop),JW P C.N ops.toList l=some (cl.map CO.er)→AW P cl st K→S C st a w →
  (∀st' a' w',K st'→S C st' a' w'→Q .normal a' w')→wpList P ops Q l a w:=by
 intro l
 induction l with
 | nil =>
  intro cl st a w K hc hv hS hq
  simp [JW] at hc
  subst hc
  exact hq _ _ _ hv hS
 | cons o r ih =>
  intro cl st a w K hc hv hS hq
  unfold JW at hc
  split at hc
  .rename_i c g l' h1 h2 h3
   cases cl with
   | nil=>cases hc
   | cons o0 l0 =>
   simp only [List.map_cons,Option.some.injEq,List.cons.injEq] at hc
   obtain ⟨hc1,hc2⟩:=hc
   subst hc2
   obtain ⟨d0,c0,g0,dp0,fz0⟩:=o0
   cases hc1
   have:=Uu (P:=P) h1 h2 hv hS Q
   unfold wpList
   split at this
   .rename_i hw
    rw [if_pos hw]
    exact .inl (Oper.wp_mono (fun a' w' ⟨st',k1,k2⟩=>ih l0 _ a' w' K h3 k1 (k2.drop dp0) hq) this)
   .rename_i hw
    rw [if_neg hw]
    obtain ⟨st',k1,k2⟩:=this
    exact ih l0 _ _ _ K h3 k1 (k2.drop dp0) hq
  .cases hc
theorem Ej.refl (s:St):Ej s s:=fun _ _ _ h=>h
theorem Ej.trans {a b c:St} (h:Ej a b) (k:Ej b c):Ej a c:=fun C x w s=>k C x w (h C x w s)
end
theorem AX.ev_congr {s:AX} {env env':EN} (h:∀t∈s.slot,ge env t=ge env' t):s.ev env=s.ev env':=by
 cases s with
 | t n=>exact h n (by simp [AX.slot])
 | c α=>rfl
theorem Rh {env env':EN} {p:Prop}:∀(l:List AX),(∀s∈l,s.ev env=s.ev env')→SH env p l=SH env' p l
 | [],_=>rfl
 | s::r,h=>by
  show (ob p (s.ev env)∧SH env p r)=(ob p (s.ev env')∧SH env' p r)
  rw [h s (by simp),Rh r (fun s hs=>h s (by simp [hs]))]
theorem Dq {env env':EN} {p:Bool}:∀(l:List AX),(∀s∈l,s.ev env=s.ev env')→EV env p l=EV env' p l
 | [],_=>rfl
 | s::r,h=>by
  show (Em p (s.ev env)∧EV env p r)=(Em p (s.ev env')∧EV env' p r)
  rw [h s (by simp),Dq r (fun s hs=>h s (by simp [hs]))]
theorem EJ {o:As} {env env':EN} {p:Bool} (h:∀s∈o.srcs,s.ev env=s.ev env'):o.obsB env p=o.obsB env' p:=by
 cases o
 case bd z ps=>exact Dq _ h
 case mf f xs=>exact Dq _ h
 case bs f n xs=>exact Dq _ h
 case cl f xs=>exact Dq _ h
 case cc f xs =>
  show (Em p (f.ev env)∧EV env p xs)=_
  rw [h f (by simp [As.srcs]),Dq xs (fun s hs=>h s (by simp [As.srcs,hs]))]
  rfl
 case sc x lo hi n=>cases lo<;>cases hi<;>simp [As.srcs] at h<;>simp [As.obsB,R5,h]
 case ss x lo hi=>cases lo<;>cases hi<;>simp [As.srcs] at h<;>simp [As.obsB,R5,h]
 case al z=>rfl
 all_goals
  simp [As.srcs] at h
  simp [As.obsB,h]
theorem KV {f f':AX→AV}:∀(ps:List (Nat × Nat × AX)) (z:List AV),(∀s∈ps.map (·.2.2),f s=f' s)→Vs f z ps=Vs f' z ps
 | [],_,_=>rfl
 | (off,m,s)::r,z,h=>by
  unfold Vs
  rw [h s (by simp)]
  split
  .split
   .exact KV r _ fun s hs=>h s (by simp at hs ⊢;exact .inr hs)
   .rfl
  .rfl
theorem I3 {o:As} {hp:CH} {f f':AX→AV} (h:∀s∈o.srcs,f s=f' s):o.val hp f=o.val hp f':=by
 cases o
 case bd z ps=>simp only [As.val,KV ps z h]
 case mf g xs=>simp only [As.val];rw [List.map_congr_left (l:=xs) h]
 case sc x lo hi n=>cases lo<;>cases hi<;>simp [As.srcs] at h<;>simp [As.val,Gu,Fz,h]
 case ss x lo hi=>cases lo<;>cases hi<;>simp [As.srcs] at h<;>simp [As.val,Gu,Fz,h]
 all_goals first
  | rfl
  | (simp [As.srcs] at h;simp [As.val,h])
theorem Jk {o:As} {hp:CH} {f f':AX→AV} (h:∀s∈o.srcs,f s=f' s):o.pre hp f=o.pre hp f':=by
 cases o
 case sc x lo hi n=>cases lo<;>cases hi<;>simp [As.srcs] at h<;>simp [As.pre,P1,Gu,Fz,h]
 case ss x lo hi=>cases lo<;>cases hi<;>simp [As.srcs] at h<;>simp [As.pre,P1,Gu,Fz,h]
 all_goals first
  | rfl
  | (simp [As.srcs] at h;simp [As.pre,h])
theorem KB {o:As} {f f':AX→AV} (h:∀s∈o.srcs,f s=f' s):o.rd f=o.rd f':=by
 cases o<;>first
  | rfl
  | (simp [As.srcs] at h;simp [As.rd,h])
theorem O9 {o:As} {hp:CH} {f f':AX→AV} {id:Nat} (h:∀s∈o.srcs,f s=f' s):o.eff hp f id=o.eff hp f' id:=by
 by_cases hv:o.isV=true
 .have e:∀f:AX→AV,o.eff hp f id=match o.val hp f with
   | some α=>some (α,[],o.rd f)
   | none=>none:=by cases o<;>first | (intro f;rfl) | (simp [As.isV] at hv)
  rw [e f,e f',I3 h,KB h]
 .cases o
  case bs fz n ps=>simp only [As.eff];rw [List.map_congr_left (l:=ps) h]
  all_goals first
   | rfl
   | (simp [As.isV] at hv;done)
   | (simp [As.srcs] at h;simp [As.eff,As.val,h])
theorem MX {o:As} {hp:CH} {f f':AX→AV} (h:∀s∈o.srcs,f s=f' s):o.effP hp f=o.effP hp f':=by
 by_cases hv:o.isV=true
 .have e:∀f:AX→AV,o.effP hp f=o.pre hp f:=by cases o<;>first | (intro f;rfl) | (simp [As.isV] at hv)
  rw [e f,e f',Jk h]
 .cases o
  case bs fz n ps=>simp only [As.effP];rw [List.map_congr_left (l:=ps) h]
  all_goals first
   | rfl
   | (simp [As.isV] at hv;done)
   | (simp [As.srcs] at h;simp [As.effP,As.pre,h])
/-! ### Chunks -/
theorem DY {hp Ao:CH} {α:AV} (h:∀k∈α.ids,gc hp k=gc Ao k):sl hp α=sl Ao α:=by
 cases α<;>first
  | rfl
  | (simp [AV.ids] at h;simp [sl,h])
theorem QT {hp Ao:CH} {α:AV} (h:∀k∈α.ids,gc hp k=gc Ao k):WT hp α=WT Ao α:=by
 cases α<;>first
  | rfl
  | (simp [AV.ids] at h;simp [WT,h])
theorem RF {hp Ao:CH} {m:Nat} {α:AV} (h:∀k∈α.ids,gc hp k=gc Ao k):HR hp m α=HR Ao m α:=by
 cases α
 case ep α n i off=>simp only [HR,DY (α:=α) h]
 all_goals first
  | rfl
  | (simp [AV.ids] at h;simp [HR,h])
theorem IQ {o:As} {hp Ao:CH} {f:AX→AV} (h:∀k∈o.rd f,gc hp k=gc Ao k):o.val hp f=o.val Ao f:=by
 cases o
 case ld x m ag=>simp only [As.val,RF (α:=f x) h]
 case cb x=>simp only [As.val,DY (α:=f x) h]
 case ln s x=>cases s<;>simp only [As.val,Ua,DY (α:=f x) h]
 case sc x lo hi n=>simp only [As.val,DY (α:=f x) h,QT (α:=f x) h]
 case lk x s ok z =>
  simp only [As.val]
  generalize hx:f x=α
  cases α with
  | mp k =>
   have hk:=h k (by simp [As.rd,hx,AV.ids])
   cases f s with
   | s b=>simp only [hk]
   | _=>rfl
  | _=>rfl
 all_goals rfl
theorem IX {o:As} {hp Ao:CH} {f:AX→AV} (h:∀k∈o.rd f,gc hp k=gc Ao k):o.pre hp f=o.pre Ao f:=by
 cases o
 case ia x i n=>simp only [As.pre,DY (α:=f x) h]
 case sc x lo hi n=>simp only [As.pre,DY (α:=f x) h]
 all_goals rfl
theorem K7 {hp Ao:CH} {nx k0 n:Nat} {x:AV} {l2:List (List AV)} (h:∀k∈x.ids,gc hp k=gc Ao k):GB hp nx k0 n x l2=GB Ao nx k0 n x l2:=by
 cases x<;>first
  | rfl
  | (simp [AV.ids] at h;simp [GB,h])
theorem Wi {o:As} {hp Ao:CH} {f:AX→AV} {id:Nat} {α:AV} {ws:CH} {R:List Nat} (he:o.eff hp f id=some (α,ws,R)) (h:∀k∈R,gc hp k=gc Ao k) :
  o.eff Ao f id=some (α,ws,R)∧(o.effP hp f→o.effP Ao f):=by
 by_cases hv:o.isV=true
 .have e:∀hp:CH,o.eff hp f id=match o.val hp f with
   | some α=>some (α,[],o.rd f)
   | none=>none:=by cases o<;>first | (intro hp;rfl) | (simp [As.isV] at hv)
  have e2:∀hp:CH,o.effP hp f=o.pre hp f:=by cases o<;>first | (intro hp;rfl) | (simp [As.isV] at hv)
  rw [e hp] at he
  rw [e Ao,e2,e2]
  cases hx:o.val hp f with
  | none=>rw [hx] at he;cases he
  | some β =>
   rw [hx] at he
   cases he
   rw [←IQ (hp:=hp) h,hx,IX (hp:=hp) h]
   exact ⟨rfl,fun h=>h⟩
 .cases o
  case al z=>exact ⟨he,fun h=>h⟩
  case bo x=>exact ⟨he,fun h=>h⟩
  case bs fz n ps=>exact ⟨he,fun h=>h⟩
  case ms l c n bytes z=>exact ⟨he,fun h=>h⟩
  case cl=>cases he
  case cc=>cases he
  case nl=>cases he
  case mpg=>cases he
  case mpn=>cases he
  case mpe=>cases he
  case mpd=>cases he
  case clr=>cases he
  case mk=>exact ⟨he,fun h=>h⟩
  case alb=>exact ⟨he,fun h=>h⟩
  case mu x s y =>
   simp only [As.eff] at he ⊢
   split at he
   .rename_i k b h1 h2
    split at he
    .rename_i l hk
     cases he
     have Gy:gc Ao k=.mp l:=by rw [←h k (by simp)];exact hk
     simp only [As.effP,h1,h2,Gy]
     exact ⟨trivial,fun h=>h⟩
    .cases he
   .cases he
  case st x y m =>
   simp only [As.eff] at he ⊢
   split at he
   .rename_i c0 k off h1 h2
    split at he
    .rename_i old hk
     cases he
     have Gy:gc Ao k=.bx old:=by rw [←h k (by simp)];exact hk
     simp only [As.effP,h1,h2,hk,Gy]
     exact ⟨trivial,fun h=>h⟩
    .cases he
   .rename_i c0 k g len n i off h1 h2
    split at he
    .rename_i g' n' l hk
     split at he
     .rename_i e hl
      cases he
      have Gy:gc Ao k=.rw g' n' l:=by rw [←h k (by simp)];exact hk
      simp only [As.effP,h1,h2,hk,Gy,hl]
      exact ⟨trivial,fun h=>h⟩
     .cases he
    .rename_i g' n' l hk
     split at he
     .rename_i e hl
      cases he
      have Gy:gc Ao k=.rn g' n' l:=by rw [←h k (by simp)];exact hk
      simp only [As.effP,h1,h2,hk,Gy,hl]
      exact ⟨trivial,fun h=>h⟩
     .cases he
    .cases he
   .cases he
  case ap x y n bytes =>
   simp only [As.eff] at he ⊢
   split at he
   .rename_i l2 h1
    split at he
    .rename_i α' kc nx h2
     cases he
     have Fj:sl Ao (f y)=some l2:=by rw [←DY (hp:=hp) (fun k hk=>h k (by simp [hk]))];exact h1
     have Ep:GB Ao 0 id n (f x) l2=some (α,kc,nx):=by rw [←K7 (hp:=hp) (fun k hk=>h k (by simp [hk]))];exact h2
     simp only [As.effP,h1,Fj,Ep]
     exact ⟨trivial,fun h=>h⟩
    .cases he
   .cases he
  case aps x y =>
   simp only [As.eff] at he ⊢
   split at he
   .rename_i b h1
    split at he
    .rename_i α' kc nx h2
     cases he
     have Ep:GB Ao 0 id 1 (f x) (Dw b)=some (α,kc,nx):=by rw [←K7 (hp:=hp) h];exact h2
     simp only [As.effP,h1,Ep]
     exact ⟨trivial,fun h=>h⟩
    .cases he
   .cases he
  all_goals simp [As.isV] at hv
/-! ### The operations of such a region -/
section
variable {P:Program} {n0 N1 i:Nat} {o:DO} {env env':EN} {hp Ao:CH} {K:AV→CH→List Nat→Bool→Prop}
theorem I4 {f:FuncId} {args:List AV} {G:Bool} {bf:List Nat} {K:AV→Prop} (hk:∀r,K r→∀k,(k<n0∨∃j∈bf,k=n0+j)→gc hp k=gc Ao k) (h:AG P f n0 bf hp N1 args G K):AG P f n0 bf Ao N1 args G K:=by
 obtain ⟨r,h1,h2⟩:=h
 exact ⟨r,fun g hq hh=>h1 g hq fun k Gy=>(hh k Gy).trans (hk r h2 k Gy).symm,h2⟩
theorem Dr {f:FuncId} {args:List AV} {G:Bool} {bf:List Nat} {K K':AV→Prop} (hk:∀r,K r→K' r) (h:AG P f n0 bf hp N1 args G K):AG P f n0 bf hp N1 args G K':=by
 obtain ⟨r,h1,h2⟩:=h
 exact ⟨r,h1,hk r h2⟩
theorem H0 {f:FuncId} {args:List AV} {G:Bool} {bf:List Nat} {K:AV→Prop} (h:AG P f n0 bf hp N1 args G K):∃r,AG P f n0 bf hp N1 args G (fun r'=>r'=r)∧K r:=by
 obtain ⟨r,h1,h2⟩:=h
 exact ⟨r,⟨r,h1,rfl⟩,h2⟩
theorem PF {hp Ao:CH} {n0:Nat} {ks:List Nat} (hk:∀k,k<n0→gc hp k=gc Ao k):∀{ws:CH},Ka hp n0 ks ws→Ka Ao n0 ks ws
 | [],_=>trivial
 | (k,c)::r,h=>⟨h.1,by rw [←hk k h.1];exact h.2.1,h.2.2.1,PF hk h.2.2.2⟩
theorem RU {f:FuncId} {args:List AV} {id:Nat} {bf:List Nat} {K:AV→CH→Prop} (hk:∀r ws,K r ws→∀k,(k<n0∨∃j∈bf,k=n0+j)→gc hp k=gc Ao k) (h:A3 P f n0 bf hp N1 args id K):A3 P f n0 bf Ao N1 args id K:=by
 rcases h with ⟨r,h1,h2⟩ | ⟨m,l,h1,h2⟩ | ⟨r,ws,h0,h3,h1,h2⟩
 .exact .inl ⟨r,fun hq hh=>h1 hq fun k Gy=>(hh k Gy).trans (hk r _ h2 k Gy).symm,h2⟩
 .exact .inr (.inl ⟨m,l,fun hq hh=>h1 hq fun k Gy=>(hh k Gy).trans (hk _ _ h2 k Gy).symm,h2⟩)
 .exact .inr (.inr ⟨r,ws,PF (fun k Gy=>hk _ _ h2 k (.inl Gy)) h0,h3,fun hq hh=>h1 hq fun k Gy=>(hh k Gy).trans (hk _ _ h2 k Gy).symm,h2⟩)
theorem Ii {f:FuncId} {args:List AV} {id:Nat} {bf:List Nat} {K K':AV→CH→Prop} (hk:∀r ws,K r ws→K' r ws) (h:A3 P f n0 bf hp N1 args id K):A3 P f n0 bf hp N1 args id K':=by
 rcases h with ⟨r,h1,h2⟩ | ⟨m,l,h1,h2⟩ | ⟨r,ws,h0,h3,h1,h2⟩
 .exact .inl ⟨r,h1,hk _ _ h2⟩
 .exact .inr (.inl ⟨m,l,h1,hk _ _ h2⟩)
 .exact .inr (.inr ⟨r,ws,h0,h3,h1,hk _ _ h2⟩)
theorem Ox {f:FuncId} {args:List AV} {id:Nat} {bf:List Nat} {K:AV→CH→Prop} (h:A3 P f n0 bf hp N1 args id K):∃r ws,A3 P f n0 bf hp N1 args id (fun r' ws'=>r'=r∧ws'=ws)∧K r ws:=by
 rcases h with ⟨r,h1,h2⟩ | ⟨m,l,h1,h2⟩ | ⟨r,ws,h0,h3,h1,h2⟩
 .exact ⟨_,_,.inl ⟨r,h1,rfl,rfl⟩,h2⟩
 .exact ⟨_,_,.inr (.inl ⟨m,l,h1,rfl,rfl⟩),h2⟩
 .exact ⟨_,_,.inr (.inr ⟨r,ws,h0,h3,h1,rfl,rfl⟩),h2⟩
theorem As.cases_c (o:As):(∃f xs,o=.cl f xs)∨(∃f xs,o=.cc f xs)∨o.isC=false:=by
 cases o<;>first | exact .inl ⟨_,_,rfl⟩ | exact .inr (.inl ⟨_,_,rfl⟩) | exact .inr (.inr rfl)
theorem G1 (h:o.o.op.isC=false):Ek P n0 N1 i o env hp K=(o.o.op.effP hp (fun s=>AR (s.ev env))∧match o.o.op.eff hp (fun s=>AR (s.ev env)) (n0+i) with
  | some (α,ws,R)=>K α ws R false
  | none=>False):=by
 obtain ⟨⟨d,op,g⟩,un,lg,bf⟩:=o
 cases op<;>first | rfl | (simp [As.isC] at h)
theorem Ly (h:o.o.op.isC=false) {G:Bool}:dG P n0 N1 i o env hp G K=(o.o.op.obsB env G∧if o.o.op.isV then imp G (o.o.op.pre hp fun s=>AR (s.ev env))∧imp G ((o.o.op.val hp fun s=>AR (s.ev env)).isSome=true)∧K (.gd G ((o.o.op.val hp fun s=>AR (s.ev env)).getD .un)) [] (o.o.op.rd fun s=>AR (s.ev env)) false
  else (G=true∧Ek P n0 N1 i o env hp K)∨(G=false∧K (.gd false .un) [] [] false)):=by
 obtain ⟨⟨d,op,g⟩,un,lg,bf⟩:=o
 cases op<;>first | rfl | (simp [As.isC] at h)
def Xb (n0:Nat) (bf:List Nat) (hp Ao:CH) (K:AV→CH→List Nat→Bool→Prop):Prop :=
 ∀α ws R c,K α ws R c→(∀k∈R,gc hp k=gc Ao k)∧(c=true→∀k,(k<n0∨∃j∈bf,k=n0+j)→gc hp k=gc Ao k)
theorem Qw (hs:∀s∈o.o.op.srcs,s.ev env=s.ev env') (hk:Xb n0 o.bf hp Ao K) (h:Ek P n0 N1 i o env hp K):Ek P n0 N1 i o env' Ao K:=by
 rcases As.cases_c o.o.op with ⟨f,xs,e⟩ | ⟨f,xs,e⟩ | e
 .obtain ⟨⟨d,op,g⟩,un,lg,bf⟩:=o
  simp only at e
  subst e
  have hm:(xs.map fun s=>AR (s.ev env))=xs.map fun s=>AR (s.ev env'):=List.map_congr_left fun s hx=>by rw [hs s hx]
  unfold Ek at h ⊢
  simp only at h ⊢
  rw [hm] at h
  exact RU (fun r ws hr=>(hk _ _ _ _ hr).2 rfl) h
 .obtain ⟨⟨d,op,g⟩,un,lg,bf⟩:=o
  simp only at e
  subst e
  have hm:(xs.map fun s=>AR (s.ev env))=xs.map fun s=>AR (s.ev env'):=List.map_congr_left fun s hx=>by rw [hs s (by simp [As.srcs,hx])]
  have hf:f.ev env=f.ev env':=hs f (by simp [As.srcs])
  unfold Ek at h ⊢
  simp only at h ⊢
  rw [hm,hf] at h
  split at h
  .exact I4 (fun r hr=>(hk _ _ _ _ hr).2 rfl) h
  .exact h.elim
 .rw [G1 e] at h ⊢
  have hf:∀s∈o.o.op.srcs,AR (s.ev env)=AR (s.ev env'):=fun s hx=>by rw [hs s hx]
  rw [MX hf,O9 hf] at h
  obtain ⟨h1,h2⟩:=h
  split at h2
  .rename_i α ws R he
   obtain ⟨e1,e2⟩:=Wi he (hk _ _ _ _ h2).1
   rw [e1]
   exact ⟨e2 h1,h2⟩
  .exact h2.elim
theorem U3 {G:Bool} (hs:∀s∈o.o.op.srcs,s.ev env=s.ev env') (hk:Xb n0 o.bf hp Ao K) (h:dG P n0 N1 i o env hp G K):dG P n0 N1 i o env' Ao G K:=by
 rcases As.cases_c o.o.op with ⟨f,xs,e⟩ | ⟨f,xs,e⟩ | e
 .have ho:=EJ (p:=G) hs
  obtain ⟨⟨d,op,g⟩,un,lg,bf⟩:=o
  simp only at e
  subst e
  have hm:(xs.map fun s=>AR (s.ev env))=xs.map fun s=>AR (s.ev env'):=List.map_congr_left fun s hx=>by rw [hs s hx]
  unfold dG at h ⊢
  simp only at h ⊢
  rw [hm] at h
  exact ⟨by rw [←ho];exact h.1,I4 (fun r hr=>(hk _ _ _ _ hr).2 rfl) h.2⟩
 .have ho:=EJ (p:=G) hs
  obtain ⟨⟨d,op,g⟩,un,lg,bf⟩:=o
  simp only at e
  subst e
  have hm:(xs.map fun s=>AR (s.ev env))=xs.map fun s=>AR (s.ev env'):=List.map_congr_left fun s hx=>by rw [hs s (by simp [As.srcs,hx])]
  have hf:f.ev env=f.ev env':=hs f (by simp [As.srcs])
  unfold dG at h ⊢
  simp only at h ⊢
  rw [hm,hf] at h
  refine ⟨by rw [←ho];exact h.1,?_⟩
  have h2:=h.2
  split at h2
  .exact I4 (fun r hr=>(hk _ _ _ _ hr).2 rfl) h2
  .exact h2.elim
 .rw [Ly e] at h ⊢
  have hf:∀s∈o.o.op.srcs,AR (s.ev env)=AR (s.ev env'):=fun s hx=>by rw [hs s hx]
  obtain ⟨h1,h2⟩:=h
  refine ⟨by rw [←EJ hs];exact h1,?_⟩
  split
  .rename_i hv
   rw [if_pos hv] at h2
   obtain ⟨g1,g2,g3⟩:=h2
   rw [KB hf] at g3
   have hr:=(hk _ _ _ _ g3).1
   rw [Jk hf,IX hr] at g1
   rw [I3 hf,IQ hr] at g2 g3
   exact ⟨g1,g2,g3⟩
  .rename_i hv
   rw [if_neg hv] at h2
   exact h2.imp (fun ⟨a,b⟩=>⟨a,Qw hs hk b⟩) id
theorem ZP (hs:∀s∈o.o.op.srcs,s.ev env=s.ev env') (hg:∀t want,o.o.g=some (t,want)→ge env t=ge env' t) (hk:Xb n0 o.bf hp Ao K) (h:Ki P n0 N1 i o env hp K):Ki P n0 N1 i o env' Ao K:=by
 unfold Ki at h ⊢
 split
 .rename_i e
  rw [e] at h
  exact ⟨by rw [←EJ hs];exact h.1,Qw hs hk h.2⟩
 .rename_i t want e
  rw [e] at h
  simp only at h
  rw [hg t want e] at h
  split
  .rename_i x hx
   rw [hx] at h
   exact U3 hs hk h
  .rename_i c x hx
   rw [hx] at h
   exact U3 hs hk h
  .rename_i hx
   rw [hx] at h
   exact U3 hs hk h
  .rename_i hx1 FI hx3
   split at h
   .rename_i x hx;exact hx1 _ hx
   .rename_i c x hx;exact FI _ _ hx
   .rename_i hx;exact hx3 hx
   .exact h
theorem H7 {K':AV→CH→List Nat→Bool→Prop} (hK:∀α ws R c,K α ws R c→K' α ws R c) (h:Ek P n0 N1 i o env hp K):Ek P n0 N1 i o env hp K':=by
 rcases As.cases_c o.o.op with ⟨f,xs,e⟩ | ⟨f,xs,e⟩ | e
 .obtain ⟨⟨d,op,g⟩,un,lg,bf⟩:=o
  simp only at e
  subst e
  exact Ii (K:=fun r ws=>K r ws [] true) (K':=fun r ws=>K' r ws [] true) (fun r ws hr=>hK _ _ _ _ hr) h
 .obtain ⟨⟨d,op,g⟩,un,lg,bf⟩:=o
  simp only at e
  subst e
  unfold Ek at h ⊢
  simp only at h ⊢
  split at h
  .exact Dr (fun r hr=>hK _ _ _ _ hr) h
  .exact h.elim
 .rw [G1 e] at h ⊢
  refine ⟨h.1,?_⟩
  have h2:=h.2
  split at h2
  .exact hK _ _ _ _ h2
  .exact h2.elim
theorem Mr (h:Ek P n0 N1 i o env hp K):∃α ws R c,Ek P n0 N1 i o env hp (fun α' ws' R' c'=>α'=α∧ws'=ws∧R'=R∧c'=c)∧K α ws R c:=by
 rcases As.cases_c o.o.op with ⟨f,xs,e⟩ | ⟨f,xs,e⟩ | e
 .obtain ⟨⟨d,op,g⟩,un,lg,bf⟩:=o
  simp only at e
  subst e
  obtain ⟨r,ws,h1,h2⟩:=Ox (K:=fun r ws=>K r ws [] true) h
  exact ⟨r,ws,[],true,Ii (K':=fun r' ws'=>r'=r∧ws'=ws∧([]:List Nat)=[]∧true=true) (fun _ _ e=>⟨e.1,e.2,rfl,rfl⟩) h1,h2⟩
 .obtain ⟨⟨d,op,g⟩,un,lg,bf⟩:=o
  simp only at e
  subst e
  unfold Ek at h ⊢
  simp only at h ⊢
  split at h
  .obtain ⟨r,h1,h2⟩:=H0 h
   exact ⟨_,_,_,_,Dr (fun r' e=>⟨e,rfl,rfl,rfl⟩) h1,h2⟩
  .exact h.elim
 .rw [G1 e] at h
  obtain ⟨h1,h2⟩:=h
  split at h2
  .rename_i α ws R he
   refine ⟨α,ws,R,false,?_,h2⟩
   rw [G1 e,he]
   exact ⟨h1,rfl,rfl,rfl,rfl⟩
  .exact h2.elim
theorem P2 {G:Bool} (h:dG P n0 N1 i o env hp G K):∃α ws R c,dG P n0 N1 i o env hp G (fun α' ws' R' c'=>α'=α∧ws'=ws∧R'=R∧c'=c)∧K α ws R c:=by
 rcases As.cases_c o.o.op with ⟨f,xs,e⟩ | ⟨f,xs,e⟩ | e
 .obtain ⟨⟨d,op,g⟩,un,lg,bf⟩:=o
  simp only at e
  subst e
  obtain ⟨r,h1,h2⟩:=H0 h.2
  exact ⟨_,_,_,_,⟨h.1,Dr (fun r' e=>⟨by rw [e],rfl,rfl,rfl⟩) h1⟩,h2⟩
 .obtain ⟨⟨d,op,g⟩,un,lg,bf⟩:=o
  simp only at e
  subst e
  unfold dG at h ⊢
  simp only at h ⊢
  obtain ⟨h0,h⟩:=h
  split at h
  .obtain ⟨r,h1,h2⟩:=H0 h
   exact ⟨_,_,_,_,⟨h0,Dr (fun r' e=>⟨by rw [e],rfl,rfl,rfl⟩) h1⟩,h2⟩
  .exact h.elim
 .rw [Ly e] at h
  obtain ⟨h1,h2⟩:=h
  split at h2
  .rename_i hv
   refine ⟨_,_,_,_,?_,h2.2.2⟩
   rw [Ly e,if_pos hv]
   exact ⟨h1,h2.1,h2.2.1,rfl,rfl,rfl,rfl⟩
  .rename_i hv
   rcases h2 with ⟨a,b⟩ | ⟨a,b⟩
   .obtain ⟨α,ws,R,c,c1,c2⟩:=Mr b
    refine ⟨α,ws,R,c,?_,c2⟩
    rw [Ly e,if_neg hv]
    exact ⟨h1,.inl ⟨a,c1⟩⟩
   .refine ⟨_,_,_,_,?_,b⟩
    rw [Ly e,if_neg hv]
    exact ⟨h1,.inr ⟨a,rfl,rfl,rfl,rfl⟩⟩
theorem W8 (h:Ki P n0 N1 i o env hp K):∃α ws R c,Ki P n0 N1 i o env hp (fun α' ws' R' c'=>α'=α∧ws'=ws∧R'=R∧c'=c)∧K α ws R c:=by
 unfold Ki at h ⊢
 split at h
 .obtain ⟨α,ws,R,c,c1,c2⟩:=Mr h.2
  exact ⟨α,ws,R,c,⟨h.1,c1⟩,c2⟩
 .split at h
  .exact P2 h
  .exact P2 h
  .exact P2 h
  .exact h.elim
theorem Ll {G:Bool} {K':AV→CH→List Nat→Bool→Prop} (hK:∀α ws R c,K α ws R c→K' α ws R c) (h:dG P n0 N1 i o env hp G K):dG P n0 N1 i o env hp G K':=by
 rcases As.cases_c o.o.op with ⟨f,xs,e⟩ | ⟨f,xs,e⟩ | e
 .obtain ⟨⟨d,op,g⟩,un,lg,bf⟩:=o
  simp only at e
  subst e
  exact ⟨h.1,Dr (fun r hr=>hK _ _ _ _ hr) h.2⟩
 .obtain ⟨⟨d,op,g⟩,un,lg,bf⟩:=o
  simp only at e
  subst e
  unfold dG at h ⊢
  simp only at h ⊢
  obtain ⟨h0,h⟩:=h
  refine ⟨h0,?_⟩
  split at h
  .exact Dr (fun r hr=>hK _ _ _ _ hr) h
  .exact h.elim
 .rw [Ly e] at h ⊢
  obtain ⟨h1,h2⟩:=h
  refine ⟨h1,?_⟩
  split
  .rename_i hv
   rw [if_pos hv] at h2
   exact ⟨h2.1,h2.2.1,hK _ _ _ _ h2.2.2⟩
  .rename_i hv
   rw [if_neg hv] at h2
   exact h2.imp (fun ⟨a,b⟩=>⟨a,H7 hK b⟩) (fun ⟨a,b⟩=>⟨a,hK _ _ _ _ b⟩)
theorem MG {K':AV→CH→List Nat→Bool→Prop} (hK:∀α ws R c,K α ws R c→K' α ws R c) (h:Ki P n0 N1 i o env hp K):Ki P n0 N1 i o env hp K':=by
 unfold Ki at h ⊢
 split at h
 .exact ⟨h.1,H7 hK h.2⟩
 .split at h
  .exact Ll hK h
  .exact Ll hK h
  .exact Ll hK h
  .exact h
end
theorem Pw {P:Program} {n0 N1 i:Nat} {o:DO} {env:EN} {hp:CH} {K:AV→CH→List Nat→Bool→Prop} (h:HY P n0 N1 i o env hp K):Ek P n0 N1 i o env hp K:=by
 unfold HY at h
 split at h
 .rename_i hv
  have hc:o.o.op.isC=false:=by
   revert hv
   generalize o.o.op=op
   intro hv
   cases op<;>first | rfl | (simp [As.isV] at hv)
  rw [G1 hc]
  obtain ⟨h1,h2⟩:=IV h
  have e:o.o.op.eff hp (fun s=>AR (s.ev env)) (n0+i)=match o.o.op.val hp (fun s=>AR (s.ev env)) with
   | some α=>some (α,[],o.o.op.rd fun s=>AR (s.ev env))
   | none=>none:=by
   revert hv
   generalize o.o.op=op
   intro hv
   cases op<;>first | rfl | (simp [As.isV] at hv)
  have e2:o.o.op.effP hp (fun s=>AR (s.ev env))=o.o.op.pre hp fun s=>AR (s.ev env):=by
   revert hv
   generalize o.o.op=op
   intro hv
   cases op<;>first | rfl | (simp [As.isV] at hv)
  rw [e,e2]
  refine ⟨h1,?_⟩
  revert h2
  generalize o.o.op.val hp (fun s=>AR (s.ev env))=x
  intro h2
  cases x with
  | none=>exact h2.elim
  | some α=>exact h2
 .exact h
theorem OH {P:Program} {n0 N1 i:Nat} {o:DO} {env:EN} {hp:CH} {K K':AV→CH→List Nat→Bool→Prop} (hK:∀α ws R c,K α ws R c→K' α ws R c) (h:HY P n0 N1 i o env hp K):HY P n0 N1 i o env hp K':=by
 unfold HY at h ⊢
 split
 .rename_i hv
  rw [hv] at h
  exact K6 (fun α h=>hK _ _ _ _ h) h
 .rename_i hv
  rw [hv] at h
  exact H7 hK h
theorem SX {P:Program} {n0 N1 i:Nat} {o:DO} {env:EN} {hp:CH} {K:AV→CH→List Nat→Bool→Prop} (h:CJ P n0 N1 i o env hp K):Ki P n0 N1 i o env hp K:=by
 unfold CJ at h
 split at h
 .rename_i e
  unfold Ki
  rw [e]
  exact ⟨h.1,Pw h.2⟩
 .exact h
theorem RT {P:Program} {n0 N1 i:Nat} {o:DO} {env:EN} {hp:CH} {K K':AV→CH→List Nat→Bool→Prop} (hK:∀α ws R c,K α ws R c→K' α ws R c) (h:CJ P n0 N1 i o env hp K):CJ P n0 N1 i o env hp K':=by
 unfold CJ at h ⊢
 split at h
 .exact ⟨h.1,OH hK h.2⟩
 .exact MG hK h
theorem K4 {P:Program} {n0 N1:Nat}:∀(l:List DO) (i:Nat) (env:EN) (hp:CH) (lg:List LE) (K K':EN→CH→Prop),(∀e h,K e h→K' e h)→Kb P n0 N1 i l env hp lg K→Kb P n0 N1 i l env hp lg K'
 | [],i,env,hp,lg,K,K',hK,h=>hK _ _ h
 | o::r,i,env,hp,lg,K,K',hK,h=>RT (fun α ws R c ⟨h1,h2⟩=>⟨h1,K4 r _ _ _ _ K K' hK h2⟩) h
theorem NO {P:Program} {n0 N1:Nat}:∀(l:List DO) (i:Nat) (env:EN) (hp:CH) (lg:List LE) (K:EN→CH→Prop),Kb P n0 N1 i l env hp lg K→vcD P n0 N1 i l env hp lg K
 | [],i,env,hp,lg,K,h=>h
 | o::r,i,env,hp,lg,K,h=>MG (fun α ws R c ⟨h1,h2⟩=>⟨h1,by
   have:=NO r _ _ _ _ K h2
   cases hl:o.lg<;>rw [hl] at this<;>exact this⟩) (SX h)
end Go.Eng
