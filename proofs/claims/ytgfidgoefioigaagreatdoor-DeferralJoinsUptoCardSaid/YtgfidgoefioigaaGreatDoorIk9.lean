/- Proof. Conditions: none. -/
import Derived.Test.YtgfidgoefioigaaGreatDoorIk8
open List renaming eq_nil_of_length_eq_zero->z2t,map_congr_left->z1a
open Nat renaming le_refl->zna
namespace Go.Eng
set_option linter.all false
section
variable {P:Program} {C:Ctx}
section
variable {st:St} {a:Act} {w:World} {t n k:Nat} {o:Oper} {env:EN} {d4:Array Oper} {c:Ap} {G:Bool} {K:St->Prop} {g:Option (Nat × Bool)} {h:HP} {J:RO} {hp:CH} {l:List (List AV)}
theorem S.slot (hS:S C st a w) (ht:t<C.N):∃h J v,Sat C st h J a w∧a.tmps[t]?=some v∧AW h J (ge st.env t) v:=by
 obtain ⟨h,J,s⟩:=hS
 obtain ⟨v,h1,h2⟩:=s.env t ht
 exact ⟨h,J,v,s,h1,h2⟩
theorem S.undef (hS:S C st a w) (d:Option Nat) (x:AV):S C ⟨EN.set st.env d (.gd false x),st.hp,st.n⟩ (a.put d undef) w:=by
 obtain ⟨h,J,s⟩:=hS
 exact ⟨h,J,s.val d (.gd _ _ _ (fun e=>by cases e) (fun _=>rfl))⟩
theorem WL {o:Ap} (h:LD o env=true):o.isV=true:=by
 unfold LD at h
 split at h
 .rfl
 .exact h
theorem Yg {d4:List Oper} (hc:P1 P C.N d4 o=some c) (hs:c.isV=true) (hG:G=true) (AU:c.obs st.env (G=true))
 (D0:c.pre st.hp fun s=>Bf (s.ev st.env)) (A3:(c.val st.hp fun s=>Bf (s.ev st.env)).isSome=true) (hS:S C st a w) {K:St->Prop}
 (hk:K ⟨EN.set st.env o.dst (.gd G ((c.val st.hp fun s=>Bf (s.ev st.env)).getD .un)),st.hp,st.n⟩) (Q:Exit->Act->World->Prop):o.wp P a w (fun a' w'=>∃c8,K c8∧S C c8 a' w') Q:=by
 obtain ⟨h,J,s⟩:=hS
 obtain ⟨α,hα⟩:=Option.isSome_iff_exists.1 A3
 obtain ⟨v,h1,h2⟩:=I8 (P:=P) s hG hc hs AU D0 hα
 unfold Oper.wp
 rw [h1]
 refine ⟨_,hk,h,J,?_⟩
 rw [hα]
 exact s.val o.dst (.gd _ _ _ (fun _=>h2) (fun e=>by rw [hG] at e;cases e))
theorem La {tmps:Array Value} {j:Nat} (h:(d4[j]?).bind (·.dst)=some t):yielded d4 tmps j=match tmps[t]? with | some (.bool b)=>some b | _=>none:=by
 unfold yielded
 rw [h]
 rfl
theorem Af5 {o:CO} (hs:¬LD o.op st.env=true) (h:QQ P o st G K) :
 (G=true->Dv P st.n o st K∨∃r,Dv P st.n o st (fun c8=>c8=⟨EN.set st.env o.dst r,st.hp,st.n⟩)∧K ⟨EN.set st.env o.dst (.gd true r),st.hp,st.n⟩) ∧
 (G=false->∃x,K ⟨EN.set st.env o.dst (.gd false x),st.hp,st.n⟩):=by
 unfold QQ at h
 rw [if_neg hs] at h
 split at h
 .rename_i f xs ho
  obtain ⟨d,op,g,dp,fz⟩:=o
  simp only at ho
  subst ho
  obtain ⟨ho,h⟩:=h
  refine ⟨fun e=>?_,fun e=>?_⟩
  .subst e
   rcases h with ⟨r,m,k⟩ | h
   .exact .inr ⟨r,⟨ho,Ac.f (m rfl) rfl⟩,k⟩
   .exact .inl ⟨ho,h.1 rfl⟩
  .subst e
   rcases h with ⟨r,m,k⟩ | h
   .exact ⟨_,k⟩
   .exact ⟨_,h.2 rfl⟩
 .exact ⟨fun e=>.inl (h.1 e),fun e=>⟨_,h.2 e⟩⟩
theorem TP (hc:P1 P C.N d4.toList o=some c) (hg:DZ C.N d4.toList o.guard=some g)
 {dp:List Nat} {fz:Bool} (hv:Jd P ⟨o.dst,c,g,dp,fz⟩ st K) (hS:S C st a w) (Q:Exit->Act->World->Prop) :
 if Region.wanted o (yielded d4 a.tmps) then o.wp P a w (fun a' w'=>∃c8,K c8∧S C c8 a' w') Q else ∃c8,K c8∧S C c8 (a.put o.dst undef) w:=by
 cases ho:o.guard with
 |none=>
  rw [ho] at hg
  simp [DZ] at hg
  subst hg
  rw [if_pos (by simp [Region.wanted,ho])]
  exact Fd hc hv hS Q
 |some jw=>
  obtain ⟨j,i7⟩:=jw
  rw [ho] at hg
  unfold DZ at hg
  simp only at hg
  split at hg
  .rename_i t ht
   split at hg
   .rename_i htN
    simp only [Option.some.injEq] at hg
    subst hg
    have hj:(d4[j]?).bind (·.dst)=some t:=by simpa using ht
    have hw:Region.wanted o (yielded d4 a.tmps)=(yielded d4 a.tmps j == some i7):=by simp [Region.wanted,ho]
    rw [hw,La hj]
    have o9:∀G:Bool,(((match a.tmps[t]? with | some (.bool b)=>some b | _=>none) == some i7)=G)->QQ P ⟨o.dst,c,some (t,i7),dp,fz⟩ st G K ->
     if ((match a.tmps[t]? with | some (.bool b)=>some b | _=>none) == some i7)=true then o.wp P a w (fun a' w'=>∃c8,K c8∧S C c8 a' w') Q else ∃c8,K c8∧S C c8 (a.put o.dst undef) w:=by
     intro G hGe hvg
     rw [hGe]
     by_cases hsoft:LD c st.env=true
     .unfold QQ at hvg
      rw [if_pos hsoft] at hvg
      obtain ⟨h1,h2,h3,h4⟩:=hvg
      cases G with
      |true=>
       rw [if_pos rfl]
       exact Yg hc (WL hsoft) rfl (Ap.obsB_obs (fun h=>h) h1) (h2 rfl) (h3 rfl) hS h4 Q
      |false=>
       rw [if_neg (by simp)]
       exact ⟨_,h4,hS.undef o.dst _⟩
     .obtain ⟨h1,h2⟩:=Af5 hsoft hvg
      cases G with
      |true=>
       rw [if_pos rfl]
       rcases h1 rfl with h1 | ⟨r,h1,hk⟩
       .exact Fd hc h1 hS Q
       .refine Oper.wp_mono (fun a' w' ⟨c8,e,h',ρ',s⟩=>?_) (Fd hc h1 hS Q)
        subst e
        refine ⟨_,hk,h',ρ',s.hle,s.rle,s.keep,s.own,s.mem,fun t ht=>?_,s.size,s.defers⟩
        obtain ⟨v,g1,g2⟩:=s.env t ht
        refine ⟨v,g1,?_⟩
        cases hd:o.dst with
        |none=>rw [hd] at g2;exact g2
        |some d=>
         rw [hd] at g2
         simp only [EN.set,ge] at g2 ⊢
         split
         .rename_i hdt
          rw [if_pos hdt] at g2
          exact .gd _ _ _ (fun _=>g2) (fun e=>by cases e)
         .rename_i hdt
          rw [if_neg hdt] at g2
          exact g2
      |false=>
       rw [if_neg (by simp)]
       obtain ⟨x,h2⟩:=h2 rfl
       exact ⟨_,h2,hS.undef o.dst _⟩
    obtain ⟨h,J,v,s,h1,h2⟩:=hS.slot htN
    unfold Jd at hv
    simp only at hv
    split at hv
    .rename_i x hx
     rw [hx] at h2
     rw [h2.bool] at h1
     exact o9 _ (by rw [h1];cases x<;>cases i7<;>rfl) hv
    .rename_i cc x hx
     rw [hx] at h2
     refine o9 _ ?_ hv
     rw [h1]
     have key:(cc=true->v=.bool x)∧(cc=false->v=undef):=by
      cases h2 with
      |pu _ _ p=>cases p with | gd _ _ _ p1 p2=>exact ⟨fun e=>by cases p1 e;rfl,p2⟩
      |gd _ _ _ p1 p2=>exact ⟨fun e=>(p1 e).bool,p2⟩
     cases cc with
     |true=>rw [key.1 rfl];cases x<;>cases i7<;>rfl
     |false=>rw [key.2 rfl];rfl
    .rename_i hx
     rw [hx] at h2
     refine o9 _ ?_ hv
     rw [h1]
     have key:v=undef:=by
      cases h2 with
      |pu _ _ p=>cases p with | gd _ _ _ p1 p2=>exact p2 rfl
      |gd _ _ _ p1 p2=>exact p2 rfl
     rw [key]
     rfl
    .exact hv.elim
   .cases hg
  .cases hg
theorem SatH.more {n0:Nat} (m:SatH h J hp n0 w) {b0:Nat} (hb0:¬AF J hp b0):∃h',BJ h h'∧SatH h' J hp n0 w∧h' b0=w.heap[b0]?:=by
 let h':HP:=fun b=>if b0=b then w.heap[b]? else h b
 have hle:BJ h h':=by
  intro b o e
  show (if b0=b then w.heap[b]? else h b)=some o
  split
  .exact m.hh b o e
  .exact e
 refine ⟨h',hle,⟨fun b o e=>?_,fun k=>Ai.sat_mono hle (Cd.refl _) (fun _ _ _ _ _=>rfl) (m.ch k),m.inj,fun b hb=>?_,m.lt,m.fr,m.gens,m.glm hle⟩,if_pos rfl⟩
 .change (if b0=b then w.heap[b]? else h b)=some o at e
  split at e
  .exact e
  .exact m.hh b o e
 .show (if b0=b then w.heap[b]? else h b)=none
  rw [if_neg (fun e:b0=b=>by subst e;exact hb0 hb)]
  exact m.hid b hb
theorem Ab3 {len cap:Nat} {a:Option Addr} {ob:Option Nat} (hl:l.length=len) (hc:len<=cap) (hn:∀(j:Nat) e,l[j]?=some e->e.length=n) (ha:∀b,ob=some b->a=some ⟨b,0,none⟩)
 (h0:ob=none->l=[]) (hb:∀b,ob=some b->∃vs e fr,h b=some (.cells vs e fr)∧∀(j:Nat) x (q:Nat) α,l[j]?=some x->x[q]?=some α->∃u,vs[n*j+q]?=some u∧Bm h α u):Bm h (.ds l) (.slice a len cap):=by
 subst hl
 cases ob with
 |none=>
  have:=h0 rfl
  subst this
  exact .ds [] n a cap (fun _ _=>undef) hc hn (fun j e q α e1=>by simp at e1) fun e=>absurd rfl e
 |some b=>
  obtain ⟨vs,e,fr,e1,e2⟩:=hb b rfl
  refine .ds l n a cap (fun j q=>(vs[n*j+q]?).getD undef) hc hn (fun j x q α g1 g2=>?_) fun _=>⟨b,0,ha b rfl,fun j x q α g1 g2=>?_⟩
  .obtain ⟨u,z1,z2⟩:=e2 j x q α g1 g2
   simp only [z1,Option.getD_some]
   exact z2
  .obtain ⟨u,z1,z2⟩:=e2 j x q α g1 g2
   simp [Ea,e1,z1]
theorem Agr (k g:Nat) (l l':List (List AV)) (env:EN) (t:Nat):ge (frz k g l l' env) t=Aac k g l l' (ge env t):=by
 induction env with
 |nil=>rfl
 |cons p r ih=>
  obtain ⟨j,α⟩:=p
  simp only [frz,List.map_cons,ge] at ih ⊢
  split
  .rfl
  .exact ih
theorem Sat.frz {ρ':RO} {a':Act} {w':World} {g n1:Nat} {l2:List (List AV)} (S0:Sat C st h J a w) (hk:gc st.hp k=.rw g n l)
 (S1:Sat C ⟨env,(k,.rw (g+1) n (l++l2))::st.hp,n1⟩ h ρ' a' w') (hr:Cd J ρ') (hO:ρ' k (g+1)=J k g∨((∀b,b<w.heap.size->w'.heap[b]?=w.heap[b]?)∧∀b c,ρ' k (g+1)=some (some b,c)->w.heap.size<=b)) :
 S C ⟨frz k g l (l++l2) env,(k,.sh (g+1) n (l++l2))::(k,.rw (g+1) n (l++l2))::st.hp,n1⟩ a' w':=by
 obtain ⟨h1,e1,m1,lv1⟩:=S1.mem.shut Ah
 have Dc:=S0.mem.ch k
 rw [hk] at Dc
 obtain ⟨ob,cap,r1,r2,r2',r3,r4,r5⟩:=Dc
 have r1':=hr _ _ _ r1
 have key:∃h2,BJ h1 h2∧SatH h2 ρ' ((k,.sh (g+1) n (l++l2))::(k,.rw (g+1) n (l++l2))::st.hp) n1 w' ∧
  ∀b,ob=some b->∃vs e fr,h2 b=some (.cells vs e fr)∧∀(j:Nat) x (q:Nat) α,l[j]?=some x->x[q]?=some α->∃u,vs[n*j+q]?=some u∧Bm h2 α u:=by
  rcases hO with e | ⟨e,_⟩
  .refine ⟨h1,BJ.refl _,m1,fun b hb=>?_⟩
   have Dc:=m1.ch k
   rw [Ah] at Dc
   obtain ⟨o7,i6,q1,q2,q2',q3,q4,q5⟩:=Dc
   rw [e,r1] at q1
   cases q1
   obtain ⟨vs,e',fr,x1,x2⟩:=q5 b hb
   exact ⟨vs,e',fr,x1,fun j x q α g1 g2=>x2 j x q α (by rw [List.getElem?_append_left (List.getElem?_eq_some_iff.1 g1).1];exact g1) g2⟩
  .cases ob with
   |none=>exact ⟨h1,BJ.refl _,m1,fun b hb=>by cases hb⟩
   |some b=>
    have Hp:AF J st.hp b:=⟨k,g,cap,by rw [hk];rfl,r1⟩
    obtain ⟨vs,e',x1,x2,x3⟩:=r5 b rfl
    have NI:¬AF ρ' ((k,.sh (g+1) n (l++l2))::(k,.rw (g+1) n (l++l2))::st.hp) b:=by
     rintro ⟨k',g',c,eg,er⟩
     by_cases Dn:k=k'
     .subst Dn
      rw [Ah] at eg
      cases eg
     .rw [Aj Dn,Aj Dn] at eg
      have:∃y,J k' g'=some y:=by
       have hs:=S0.mem.ch k'
       cases hg:gc st.hp k'<;>rw [hg] at hs eg<;>first | (rcases eg with rfl | rfl<;>obtain ⟨_,_,_,_,y,_,_,_,_,⟨_,y2⟩,_⟩:=hs<;>first | exact ⟨_,y⟩ | exact ⟨_,y2⟩) | (rcases eg with rfl | rfl<;>obtain ⟨_,_,_,_,y,_,_,_,_,_,_,_,y2,_⟩:=hs<;>first | exact ⟨_,y⟩ | exact ⟨_,y2⟩) | (cases eg;done) | (cases eg;obtain ⟨_,_,_,_,y,_⟩:=hs;exact ⟨_,y⟩) | (cases eg;obtain ⟨_,_,y,_⟩:=hs;exact ⟨_,y⟩) | (cases eg;obtain ⟨_,y,_⟩:=hs;exact ⟨_,y⟩)
      obtain ⟨y,hy⟩:=this
      have:=hr _ _ _ hy
      rw [er] at this
      cases this
      exact Dn (S0.mem.inj k k' g g' b cap c (by rw [hk];rfl) eg r1 hy)
    obtain ⟨h2,z1,z2,z3⟩:=m1.more NI
    refine ⟨h2,z1,z2,fun b' hb=>?_⟩
    cases hb
    rw [e b (S0.mem.lt b Hp),x1] at z3
    exact ⟨vs,e',_,z3,fun j x q α g1 g2=>let ⟨u,y1,y2⟩:=x3 j x q α g1 g2;⟨u,y1,y2.mono (BJ.trans e1 z1)⟩⟩
 obtain ⟨h2,e2,m2,Ej⟩:=key
 have hh:=BJ.trans e1 e2
 refine ⟨h2,ρ',BJ.trans S1.hle hh,S1.rle,S1.keep,fun b hb=>S1.own b (lv1 b hb),m2,fun t ht=>?_,S1.size,S1.defers⟩
 obtain ⟨v,y1,y2⟩:=S1.env t ht
 refine ⟨v,y1,?_⟩
 simp only [Agr]
 generalize ge env t=α at y2
 have y3:=y2.mono hh (Cd.refl _)
 unfold Aac
 split
 .rename_i k' g' len
  split
  .rename_i Dn
   subst Dn
   split
   .rename_i hg
    obtain ⟨rfl,hle⟩:=hg
    cases y2 with
    |pu _ _ p=>cases p
    |rw _ _ _ cp aa o7 f1 f2 f3=>
     rw [r1'] at f1
     cases f1
     refine .pu _ _ (Ab3 (n:=n) (ob:=ob) (by simp;omega) f2 (fun j e he=>?_) f3 (fun e=>?_) fun b hb=>?_)
     .rw [List.getElem?_take] at he
      split at he
      .exact r3 j e he
      .cases he
     .have:=r4 e
      have:l=[]:=z2t (by omega)
      simp [this]
     .obtain ⟨vs,e,fr,x1,x2⟩:=Ej b hb
      refine ⟨vs,e,fr,x1,fun j x q α g1 g2=>?_⟩
      rw [List.getElem?_take] at g1
      split at g1
      .exact x2 j x q α g1 g2
      .cases g1
   .split
    .rename_i hg
     obtain ⟨rfl,hle⟩:=hg
     have Dc:=m2.ch k'
     rw [Ah] at Dc
     obtain ⟨o7,i6,q1,q2,q2',q3,q4,q5⟩:=Dc
     cases y2 with
     |pu _ _ p=>cases p
     |rw _ _ _ cp aa ob2 f1 f2 f3=>
      rw [q1] at f1
      cases f1
      exact .pu _ _ (Ab3 (n:=n) (ob:=o7) hle.symm f2 q3 f3 (fun e=>z2t (by have:=q4 e;omega)) q5)
    .exact y3
  .exact y3
 .exact y3
theorem Sat.weak_dup {nn:Nat} {X Y:Ai} (s:Sat C ⟨env,(k,X)::(k,Y)::hp,nn⟩ h J a w):S C ⟨env,(k,X)::hp,nn⟩ a w:=by
 have e:∀j,gc ((k,X)::(k,Y)::hp) j=gc ((k,X)::hp) j:=fun j=>by
  by_cases hj:k=j
  .subst hj;rw [Ah,Ah]
  .rw [Aj hj,Aj hj,Aj hj]
 have hl:∀b,AF J ((k,X)::hp) b->AF J ((k,X)::(k,Y)::hp) b:=fun b ⟨j,g,c,q,r⟩=>⟨j,g,c,by rw [e];exact q,r⟩
 refine ⟨h,J,s.hle,s.rle,s.keep,fun b hb=>s.own b (hl b hb),⟨s.mem.hh,fun j=>by rw [<-e j];exact s.mem.ch j,fun j j' g g' b c c' q q'=>s.mem.inj j j' g g' b c c' (by rw [e];exact q) (by rw [e];exact q'),fun b hb=>s.mem.hid b (hl b hb),fun b hb=>s.mem.lt b (hl b hb),s.mem.fr,fun j g g' x q r=>s.mem.gens j g g' x (by rw [e];exact q) r,s.mem.gl⟩,s.env,s.size,s.defers⟩
theorem VC (hc:P1 P C.N d4.toList o=some c) (hg:DZ C.N d4.toList o.guard=some g)
 {dp:List Nat} {fz:Bool} (hv:Yt P ⟨o.dst,c,g,dp,fz⟩ st K) (hS:S C st a w) (Q:Exit->Act->World->Prop) :
 if Region.wanted o (yielded d4 a.tmps) then o.wp P a w (fun a' w'=>∃c8,K c8∧S C c8 a' w') Q else ∃c8,K c8∧S C c8 (a.put o.dst undef) w:=by
 cases fz with
 |false=>exact TP hc hg (fz:=false) hv hS Q
 |true=>
  change TB P _ st K at hv
  unfold TB at hv
  split at hv
  .rename_i x y n bytes hop hgg
   simp only at hop hgg
   subst hop hgg
   have hgn:o.guard=none:=by
    cases ho:o.guard with
    |none=>rfl
    |some jw=>
     rw [ho] at hg
     simp only [DZ] at hg
     split at hg
     .split at hg<;>cases hg
     .cases hg
   rw [if_pos (by simp [Region.wanted,hgn])]
   split at hv
   .exact Fd hc hv hS Q
   rename_i LM
   obtain ⟨hob,hv⟩:=hv
   split at hv
   .rename_i l2 Gh
    obtain ⟨b1,b2,b3,hv⟩:=hv
    split at hv
    .rename_i k gg len hx
     split at hv
     .rename_i g' n' l hk
      split at hv
      .obtain ⟨⟨rfl,rfl,rfl⟩,hK⟩:=hv
       obtain ⟨h,J,S0⟩:=hS
       have hv1:Dv P st.n ⟨o.dst,.ap x y n bytes,none,dp,true⟩ st (fun c8=>c8=⟨EN.set st.env o.dst (.rw k (gg+1) (l.length+l2.length)),(k,.rw (gg+1) n (l++l2))::st.hp,st.n⟩):=by
        refine ⟨hob,?_⟩
        simp only [XY,LM,Gh]
        refine ⟨b1,b2,b3,?_⟩
        simp [hx,H0,hk]
       refine Oper.wp_mono (fun a' w' ⟨c8,h',ρ',e,s,f⟩=>?_) (DR (P:=P) hc hv1 S0 (fun g=>S0.mem.fr st.n g (zna _)) Q)
       subst e
       obtain ⟨eh,Tz,ho⟩:=f.2 x y n bytes rfl
       subst eh
       exact ⟨_,hK,S0.frz hk s Tz (ho k gg l.length _ _ hx hk)⟩
      .obtain ⟨⟨rfl,rfl,hle,hl1⟩,hKa,hKb⟩:=hv
       obtain ⟨h,J,S0⟩:=hS
       have S1:=S0.trunc hk hle
       have hv1:Dv P st.n ⟨o.dst,.ap x y n bytes,none,dp,false⟩ ⟨st.env,(k,.rw gg n (l.take len))::st.hp,st.n⟩ (fun c8=>c8=⟨EN.set st.env o.dst (.rw k (gg+1) (len+l2.length)),(k,.rw (gg+1) n (l.take len++l2))::(k,.rw gg n (l.take len))::st.hp,st.n⟩):=by
        refine ⟨hob,?_⟩
        simp only [XY,hl1]
        refine ⟨b1,b2,b3,?_⟩
        have hln:len=(l.take len).length:=by rw [List.length_take];omega
        simp only [hx,H0,Ah]
        rw [if_pos ⟨trivial,trivial,hln⟩]
       refine Oper.wp_mono (fun a' w' ⟨c8,h',ρ',e,s,f⟩=>?_) (DR (P:=P) hc hv1 S1 (fun g=>S0.mem.fr st.n g (zna _)) Q)
       subst e
       obtain ⟨eh,Tz,ho⟩:=f.2 x y n bytes rfl
       subst eh
       rcases ho k gg len _ _ hx Ah with hA | ⟨hB1,hB2⟩
       .exact ⟨_,hKa,(S1.push_in Ah s Tz hA).weak_dup⟩
       .obtain ⟨ρ2,_,_,s2⟩:=S1.push_new Ah s Tz hB1 hB2 (fun g=>S0.mem.fr st.n g (zna _))
        have e1:max st.n (st.n+1)=st.n+1:=by omega
        rw [e1] at s2
        exact ⟨_,hKb,_,ρ2,s2⟩
     .exact hv.elim
    .rename_i hx
     obtain ⟨_,hK⟩:=hv
     obtain ⟨h,J,S0⟩:=hS
     have hv1:Dv P st.n ⟨o.dst,.ap x y n bytes,none,dp,true⟩ st (fun c8=>c8=⟨EN.set st.env o.dst (.rw st.n 0 l2.length),(st.n,.rw 0 n l2)::st.hp,max st.n (st.n+1)⟩):=by
      refine ⟨hob,?_⟩
      simp only [XY,LM,Gh]
      refine ⟨b1,b2,b3,?_⟩
      simp [hx,H0]
     refine Oper.wp_mono (fun a' w' ⟨c8,h',ρ',e,s,f⟩=>?_) (DR (P:=P) hc hv1 S0 (fun g=>S0.mem.fr st.n g (zna _)) Q)
     subst e
     exact ⟨_,hK,h',ρ',s⟩
    .exact hv.elim
   .exact hv.elim
  .rename_i fz0 n ps hop hgg
   simp only at hop hgg
   subst hop hgg
   have hgn:o.guard=none:=by
    cases ho:o.guard with
    |none=>rfl
    |some jw=>
     rw [ho] at hg
     simp only [DZ] at hg
     split at hg
     .split at hg<;>cases hg
     .cases hg
   rw [if_pos (by simp [Region.wanted,hgn])]
   exact Fd hc hv hS Q
  .exact hv.elim
theorem IM (f:Nat->Bool):∀(env:EN) (t:Nat),ge (env.filter fun p=>f p.1) t=ge env t∨ge (env.filter fun p=>f p.1) t=.un
 | [],_=>.inl rfl
 | (k,c)::r,t=>by
  simp only [List.filter_cons]
  split
  .simp only [ge]
   split
   .exact .inl rfl
   .exact IM f r t
  .rename_i hf
   rcases IM f r t with h | h
   .simp only [ge]
    split
    .rename_i hk
     subst hk
     right
     clear h
     have:∀r:EN,ge (r.filter fun p=>f p.1) k=.un:=by
      intro r
      induction r with
      |nil=>rfl
      |cons x r ih=>
       obtain ⟨j,c⟩:=x
       simp only [List.filter_cons]
       split
       .rename_i hj
        simp only [ge]
        split
        .rename_i he;subst he;exact absurd hj hf
        .exact ih
       .exact ih
     exact this r
    .exact .inl h
   .exact .inr h
theorem S.drop (hS:S C st a w) (dp:List Nat):S C ⟨EN.drop dp st.env,st.hp,st.n⟩ a w:=by
 unfold EN.drop
 split
 .exact hS
 .obtain ⟨h,J,s⟩:=hS
  refine ⟨h,J,s.hle,s.rle,s.keep,s.own,s.mem,fun t ht=>?_,s.size,s.defers⟩
  obtain ⟨v,h1,h2⟩:=s.env t ht
  refine ⟨v,h1,?_⟩
  rcases IM (fun x=>!dp.contains x) st.env t with e | e
  .simp only [e];exact h2
  .simp only [e];exact .pu _ _ (.un _)
theorem UZ {Q:Exit->Act->World->Prop}:∀(l:List Oper) (cl:List CO) (st:St) (a:Act) (w:World) (K:St->Prop),L7 P C.N d4.toList l=some (cl.map CO.er)->Bg P cl st K->S C st a w ->
 (∀c8 a' w',K c8->S C c8 a' w'->Q .normal a' w')->wpList P d4 Q l a w:=by
 intro l
 induction l with
 |nil=>
  intro cl st a w K hc hv hS hq
  simp [L7] at hc
  subst hc
  exact hq _ _ _ hv hS
 |cons o r ih=>
  intro cl st a w K hc hv hS hq
  unfold L7 at hc
  split at hc
  .rename_i c g l' h1 h2 h3
   cases cl with
   |nil=>cases hc
   |cons o0 l0=>
   simp only [List.map_cons,Option.some.injEq,List.cons.injEq] at hc
   obtain ⟨hc1,hc2⟩:=hc
   subst hc2
   obtain ⟨d0,c0,g0,dp0,fz0⟩:=o0
   cases hc1
   have:=VC (P:=P) h1 h2 hv hS Q
   unfold wpList
   split at this
   .rename_i hw
    rw [if_pos hw]
    exact .inl (Oper.wp_mono (fun a' w' ⟨c8,k1,k2⟩=>ih l0 _ a' w' K h3 k1 (k2.drop dp0) hq) this)
   .rename_i hw
    rw [if_neg hw]
    obtain ⟨c8,k1,k2⟩:=this
    exact ih l0 _ _ _ K h3 k1 (k2.drop dp0) hq
  .cases hc
theorem CD.refl (s:St):CD s s:=fun _ _ _ h=>h
theorem CD.trans {a b c:St} (h:CD a b) (k:CD b c):CD a c:=fun C x w s=>k C x w (h C x w s)
end
end
section
variable {env g9:EN} {p:Bool} {o:Ap} {f f':Bj->AV} {hp Am:CH} {id:Nat} {α:AV}
theorem Bj.ev_congr {s:Bj} (h:∀t∈s.slot,ge env t=ge g9 t):s.ev env=s.ev g9:=by
 cases s with
 |t n=>exact h n (by simp [Bj.slot])
 |c α=>rfl
theorem Ue {p:Prop}:∀(l:List Bj),(∀s∈l,s.ev env=s.ev g9)->Vn env p l=Vn g9 p l
 | [],_=>rfl
 |s::r,h=>by
  show (ob p (s.ev env)∧Vn env p r)=(ob p (s.ev g9)∧Vn g9 p r)
  rw [h s (by simp),Ue r (fun s hs=>h s (by simp [hs]))]
theorem DG:∀(l:List Bj),(∀s∈l,s.ev env=s.ev g9)->FK env p l=FK g9 p l
 | [],_=>rfl
 |s::r,h=>by
  show (EF p (s.ev env)∧FK env p r)=(EF p (s.ev g9)∧FK g9 p r)
  rw [h s (by simp),DG r (fun s hs=>h s (by simp [hs]))]
theorem F6 (h:∀s∈o.srcs,s.ev env=s.ev g9):o.obsB env p=o.obsB g9 p:=by
 cases o
 case bd z ps=>exact DG _ h
 case mf f xs=>exact DG _ h
 case bs f n xs=>exact DG _ h
 case cl f xs=>exact DG _ h
 case cc f xs=>
  show (EF p (f.ev env)∧FK env p xs)=_
  rw [h f (by simp [Ap.srcs]),DG xs (fun s hs=>h s (by simp [Ap.srcs,hs]))]
  rfl
 case sc x lo hi n=>cases lo<;>cases hi<;>simp [Ap.srcs] at h<;>simp [Ap.obsB,Uf,h]
 case ss x lo hi=>cases lo<;>cases hi<;>simp [Ap.srcs] at h<;>simp [Ap.obsB,Uf,h]
 case al z=>rfl
 all_goals
  simp [Ap.srcs] at h
  simp [Ap.obsB,h]
theorem Mt:∀(ps:List (Nat×Nat×Bj)) (z:List AV),(∀s∈ps.map (·.2.2),f s=f' s)->XN f z ps=XN f' z ps
 | [],_,_=>rfl
 | (off,m,s)::r,z,h=>by
  unfold XN
  rw [h s (by simp)]
  split
  .split
   .exact Mt r _ fun s hs=>h s (by simp at hs ⊢;exact .inr hs)
   .rfl
  .rfl
theorem Kd (h:∀s∈o.srcs,f s=f' s):o.val hp f=o.val hp f':=by
 cases o
 case bd z ps=>simp only [Ap.val,Mt ps z h]
 case mf g xs=>simp only [Ap.val];rw [z1a (l:=xs) h]
 case sc x lo hi n=>cases lo<;>cases hi<;>simp [Ap.srcs] at h<;>simp [Ap.val,Hl,Gv,h]
 case ss x lo hi=>cases lo<;>cases hi<;>simp [Ap.srcs] at h<;>simp [Ap.val,Hl,Gv,h]
 all_goals first
  | rfl
  | (simp [Ap.srcs] at h;simp [Ap.val,h])
theorem K2 (h:∀s∈o.srcs,f s=f' s):o.pre hp f=o.pre hp f':=by
 cases o
 case sc x lo hi n=>cases lo<;>cases hi<;>simp [Ap.srcs] at h<;>simp [Ap.pre,QK,Hl,Gv,h]
 case ss x lo hi=>cases lo<;>cases hi<;>simp [Ap.srcs] at h<;>simp [Ap.pre,QK,Hl,Gv,h]
 all_goals first
  | rfl
  | (simp [Ap.srcs] at h;simp [Ap.pre,h])
theorem Mb (h:∀s∈o.srcs,f s=f' s):o.rd f=o.rd f':=by
 cases o<;>first
  | rfl
  | (simp [Ap.srcs] at h;simp [Ap.rd,h])
theorem QR (h:∀s∈o.srcs,f s=f' s):o.eff hp f id=o.eff hp f' id:=by
 by_cases hv:o.isV=true
 .have e:∀f:Bj->AV,o.eff hp f id=match o.val hp f with
   |some α=>some (α,[],o.rd f)
   |none=>none:=by cases o<;>first | (intro f;rfl) | (simp [Ap.isV] at hv)
  rw [e f,e f',Kd h,Mb h]
 .cases o
  case bs fz n ps=>simp only [Ap.eff];rw [z1a (l:=ps) h]
  all_goals first
   | rfl
   | (simp [Ap.isV] at hv;done)
   | (simp [Ap.srcs] at h;simp [Ap.eff,Ap.val,h])
theorem PX (h:∀s∈o.srcs,f s=f' s):o.effP hp f=o.effP hp f':=by
 by_cases hv:o.isV=true
 .have e:∀f:Bj->AV,o.effP hp f=o.pre hp f:=by cases o<;>first | (intro f;rfl) | (simp [Ap.isV] at hv)
  rw [e f,e f',K2 h]
 .cases o
  case bs fz n ps=>simp only [Ap.effP];rw [z1a (l:=ps) h]
  all_goals first
   | rfl
   | (simp [Ap.isV] at hv;done)
   | (simp [Ap.srcs] at h;simp [Ap.effP,Ap.pre,h])
/-! ### Chunks -/
theorem E5 (h:∀k∈α.ids,gc hp k=gc Am k):sl hp α=sl Am α:=by
 cases α<;>first
  | rfl
  | (simp [AV.ids] at h;simp [sl,h])
theorem TC (h:∀k∈α.ids,gc hp k=gc Am k):shd hp α=shd Am α:=by
 cases α<;>first
  | rfl
  | (simp [AV.ids] at h;simp [shd,h])
theorem TL {m:Nat} (h:∀k∈α.ids,gc hp k=gc Am k):Je hp m α=Je Am m α:=by
 cases α
 case ep α n i off=>simp only [Je,E5 (α:=α) h]
 all_goals first
  | rfl
  | (simp [AV.ids] at h;simp [Je,h])
theorem JO (h:∀k∈o.rd f,gc hp k=gc Am k):o.val hp f=o.val Am f:=by
 cases o
 case ld x m ag=>simp only [Ap.val,TL (α:=f x) h]
 case cb x=>simp only [Ap.val,E5 (α:=f x) h]
 case ln s x=>cases s<;>simp only [Ap.val,WQ,E5 (α:=f x) h]
 case sc x lo hi n=>simp only [Ap.val,E5 (α:=f x) h,TC (α:=f x) h]
 case lk x s ok z=>
  simp only [Ap.val]
  generalize hx:f x=α
  cases α with
  |mp k=>
   have hk:=h k (by simp [Ap.rd,hx,AV.ids])
   cases f s with
   |s b=>simp only [hk]
   |_=>rfl
  |_=>rfl
 all_goals rfl
theorem Kt (h:∀k∈o.rd f,gc hp k=gc Am k):o.pre hp f=o.pre Am f:=by
 cases o
 case ia x i n=>simp only [Ap.pre,E5 (α:=f x) h]
 case sc x lo hi n=>simp only [Ap.pre,E5 (α:=f x) h]
 all_goals rfl
theorem Mx {nx k0 n:Nat} {x:AV} {l2:List (List AV)} (h:∀k∈x.ids,gc hp k=gc Am k):H0 hp nx k0 n x l2=H0 Am nx k0 n x l2:=by
 cases x<;>first
  | rfl
  | (simp [AV.ids] at h;simp [H0,h])
theorem Zl {ws:CH} {R:List Nat} (he:o.eff hp f id=some (α,ws,R)) (h:∀k∈R,gc hp k=gc Am k) :
 o.eff Am f id=some (α,ws,R)∧(o.effP hp f->o.effP Am f):=by
 by_cases hv:o.isV=true
 .have e:∀hp:CH,o.eff hp f id=match o.val hp f with
   |some α=>some (α,[],o.rd f)
   |none=>none:=by cases o<;>first | (intro hp;rfl) | (simp [Ap.isV] at hv)
  have e2:∀hp:CH,o.effP hp f=o.pre hp f:=by cases o<;>first | (intro hp;rfl) | (simp [Ap.isV] at hv)
  rw [e hp] at he
  rw [e Am,e2,e2]
  cases hx:o.val hp f with
  |none=>rw [hx] at he;cases he
  |some β=>
   rw [hx] at he
   cases he
   rw [<-JO (hp:=hp) h,hx,Kt (hp:=hp) h]
   exact ⟨rfl,fun h=>h⟩
 .cases o
  case al z=>exact ⟨he,fun h=>h⟩
  case bo x=>exact ⟨he,fun h=>h⟩
  case bs fz n ps=>exact ⟨he,fun h=>h⟩
  case ms l c n bytes z=>exact ⟨he,fun h=>h⟩
  case cl=>cases he
  case cc=>cases he
  case nl=>cases he
  case mpg=>cases he
  case mpn=>cases he
  case mpe=>cases he
  case mpd=>cases he
  case clr=>cases he
  case mk=>exact ⟨he,fun h=>h⟩
  case alb=>exact ⟨he,fun h=>h⟩
  case mu x s y=>
   simp only [Ap.eff] at he ⊢
   split at he
   .rename_i k b h1 h2
    split at he
    .rename_i l hk
     cases he
     have GC:gc Am k=.mp l:=by rw [<-h k (by simp)];exact hk
     simp only [Ap.effP,h1,h2,GC]
     exact ⟨trivial,fun h=>h⟩
    .cases he
   .cases he
  case st x y m=>
   simp only [Ap.eff] at he ⊢
   split at he
   .rename_i c0 k off h1 h2
    split at he
    .rename_i old hk
     cases he
     have GC:gc Am k=.bx old:=by rw [<-h k (by simp)];exact hk
     simp only [Ap.effP,h1,h2,hk,GC]
     exact ⟨trivial,fun h=>h⟩
    .cases he
   .rename_i c0 k g len n i off h1 h2
    split at he
    .rename_i g' n' l hk
     split at he
     .rename_i e hl
      cases he
      have GC:gc Am k=.rw g' n' l:=by rw [<-h k (by simp)];exact hk
      simp only [Ap.effP,h1,h2,hk,GC,hl]
      exact ⟨trivial,fun h=>h⟩
     .cases he
    .rename_i g' n' l hk
     split at he
     .rename_i e hl
      cases he
      have GC:gc Am k=.rn g' n' l:=by rw [<-h k (by simp)];exact hk
      simp only [Ap.effP,h1,h2,hk,GC,hl]
      exact ⟨trivial,fun h=>h⟩
     .cases he
    .cases he
   .cases he
  case ap x y n bytes=>
   simp only [Ap.eff] at he ⊢
   split at he
   .rename_i l2 h1
    split at he
    .rename_i α' kc nx h2
     cases he
     have Gg:sl Am (f y)=some l2:=by rw [<-E5 (hp:=hp) (fun k hk=>h k (by simp [hk]))];exact h1
     have EH:H0 Am 0 id n (f x) l2=some (α,kc,nx):=by rw [<-Mx (hp:=hp) (fun k hk=>h k (by simp [hk]))];exact h2
     simp only [Ap.effP,h1,Gg,EH]
     exact ⟨trivial,fun h=>h⟩
    .cases he
   .cases he
  case aps x y=>
   simp only [Ap.eff] at he ⊢
   split at he
   .rename_i b h1
    split at he
    .rename_i α' kc nx h2
     cases he
     have EH:H0 Am 0 id 1 (f x) (DK b)=some (α,kc,nx):=by rw [<-Mx (hp:=hp) h];exact h2
     simp only [Ap.effP,h1,EH]
     exact ⟨trivial,fun h=>h⟩
    .cases he
   .cases he
  all_goals simp [Ap.isV] at hv
/-! ### The operations of such a region -/
end
section
variable {P:Program} {n0 N1 i:Nat} {o:DO} {env g9:EN} {hp Am:CH} {K:AV->CH->List Nat->Bool->Prop}
section
variable {f:FuncId} {args:List AV} {G:Bool} {bf:List Nat} {K':AV->CH->List Nat->Bool->Prop} {id:Nat}
theorem KY {K:AV->Prop} (hk:∀r,K r->∀k,(k<n0∨∃j∈bf,k=n0+j)->gc hp k=gc Am k) (h:AJ P f n0 bf hp N1 args G K):AJ P f n0 bf Am N1 args G K:=by
 obtain ⟨r,h1,h2⟩:=h
 exact ⟨r,fun g hq hh=>h1 g hq fun k GC=>(hh k GC).trans (hk r h2 k GC).symm,h2⟩
theorem DA {K K':AV->Prop} (hk:∀r,K r->K' r) (h:AJ P f n0 bf hp N1 args G K):AJ P f n0 bf hp N1 args G K':=by
 obtain ⟨r,h1,h2⟩:=h
 exact ⟨r,h1,hk r h2⟩
theorem IC {K:AV->Prop} (h:AJ P f n0 bf hp N1 args G K):∃r,AJ P f n0 bf hp N1 args G (fun r'=>r'=r)∧K r:=by
 obtain ⟨r,h1,h2⟩:=h
 exact ⟨r,⟨r,h1,rfl⟩,h2⟩
theorem SF {hp Am:CH} {n0:Nat} {ks:List Nat} (hk:∀k,k<n0->gc hp k=gc Am k):∀{ws:CH},Kc hp n0 ks ws->Kc Am n0 ks ws
 | [],_=>trivial
 | (k,c)::r,h=>⟨h.1,by rw [<-hk k h.1];exact h.2.1,h.2.2.1,SF hk h.2.2.2⟩
theorem U3 {K:AV->CH->Prop} (hk:∀r ws,K r ws->∀k,(k<n0∨∃j∈bf,k=n0+j)->gc hp k=gc Am k) (h:Au P f n0 bf hp N1 args id K):Au P f n0 bf Am N1 args id K:=by
 rcases h with ⟨r,h1,h2⟩ | ⟨m,l,h1,h2⟩ | ⟨r,ws,h0,h3,h1,h2⟩
 .exact .inl ⟨r,fun hq hh=>h1 hq fun k GC=>(hh k GC).trans (hk r _ h2 k GC).symm,h2⟩
 .exact .inr (.inl ⟨m,l,fun hq hh=>h1 hq fun k GC=>(hh k GC).trans (hk _ _ h2 k GC).symm,h2⟩)
 .exact .inr (.inr ⟨r,ws,SF (fun k GC=>hk _ _ h2 k (.inl GC)) h0,h3,fun hq hh=>h1 hq fun k GC=>(hh k GC).trans (hk _ _ h2 k GC).symm,h2⟩)
theorem Jr {K K':AV->CH->Prop} (hk:∀r ws,K r ws->K' r ws) (h:Au P f n0 bf hp N1 args id K):Au P f n0 bf hp N1 args id K':=by
 rcases h with ⟨r,h1,h2⟩ | ⟨m,l,h1,h2⟩ | ⟨r,ws,h0,h3,h1,h2⟩
 .exact .inl ⟨r,h1,hk _ _ h2⟩
 .exact .inr (.inl ⟨m,l,h1,hk _ _ h2⟩)
 .exact .inr (.inr ⟨r,ws,h0,h3,h1,hk _ _ h2⟩)
theorem QT {K:AV->CH->Prop} (h:Au P f n0 bf hp N1 args id K):∃r ws,Au P f n0 bf hp N1 args id (fun r' q7=>r'=r∧q7=ws)∧K r ws:=by
 rcases h with ⟨r,h1,h2⟩ | ⟨m,l,h1,h2⟩ | ⟨r,ws,h0,h3,h1,h2⟩
 .exact ⟨_,_,.inl ⟨r,h1,rfl,rfl⟩,h2⟩
 .exact ⟨_,_,.inr (.inl ⟨m,l,h1,rfl,rfl⟩),h2⟩
 .exact ⟨_,_,.inr (.inr ⟨r,ws,h0,h3,h1,rfl,rfl⟩),h2⟩
theorem Ap.cases_c (o:Ap):(∃f xs,o=.cl f xs)∨(∃f xs,o=.cc f xs)∨o.isC=false:=by
 cases o<;>first | exact .inl ⟨_,_,rfl⟩ | exact .inr (.inl ⟨_,_,rfl⟩) | exact .inr (.inr rfl)
theorem HD (h:o.o.op.isC=false):EG P n0 N1 i o env hp K=(o.o.op.effP hp (fun s=>Bf (s.ev env))∧match o.o.op.eff hp (fun s=>Bf (s.ev env)) (n0+i) with
 |some (α,ws,R)=>K α ws R false
 |none=>False):=by
 obtain ⟨⟨d,op,g⟩,un,lg,bf⟩:=o
 cases op<;>first | rfl | (simp [Ap.isC] at h)
theorem N9 (h:o.o.op.isC=false):dG P n0 N1 i o env hp G K=(o.o.op.obsB env G∧if o.o.op.isV then imp G (o.o.op.pre hp fun s=>Bf (s.ev env))∧imp G ((o.o.op.val hp fun s=>Bf (s.ev env)).isSome=true)∧K (.gd G ((o.o.op.val hp fun s=>Bf (s.ev env)).getD .un)) [] (o.o.op.rd fun s=>Bf (s.ev env)) false
 else (G=true∧EG P n0 N1 i o env hp K)∨(G=false∧K (.gd false .un) [] [] false)):=by
 obtain ⟨⟨d,op,g⟩,un,lg,bf⟩:=o
 cases op<;>first | rfl | (simp [Ap.isC] at h)
def Aaa (n0:Nat) (bf:List Nat) (hp Am:CH) (K:AV->CH->List Nat->Bool->Prop):Prop :=
 ∀α ws R c,K α ws R c->(∀k∈R,gc hp k=gc Am k)∧(c=true->∀k,(k<n0∨∃j∈bf,k=n0+j)->gc hp k=gc Am k)
theorem Sl (hs:∀s∈o.o.op.srcs,s.ev env=s.ev g9) (hk:Aaa n0 o.bf hp Am K) (h:EG P n0 N1 i o env hp K):EG P n0 N1 i o g9 Am K:=by
 rcases Ap.cases_c o.o.op with ⟨f,xs,e⟩ | ⟨f,xs,e⟩ | e
 .obtain ⟨⟨d,op,g⟩,un,lg,bf⟩:=o
  simp only at e
  subst e
  have hm:(xs.map fun s=>Bf (s.ev env))=xs.map fun s=>Bf (s.ev g9):=z1a fun s hx=>by rw [hs s hx]
  unfold EG at h ⊢
  simp only at h ⊢
  rw [hm] at h
  exact U3 (fun r ws hr=>(hk _ _ _ _ hr).2 rfl) h
 .obtain ⟨⟨d,op,g⟩,un,lg,bf⟩:=o
  simp only at e
  subst e
  have hm:(xs.map fun s=>Bf (s.ev env))=xs.map fun s=>Bf (s.ev g9):=z1a fun s hx=>by rw [hs s (by simp [Ap.srcs,hx])]
  have hf:f.ev env=f.ev g9:=hs f (by simp [Ap.srcs])
  unfold EG at h ⊢
  simp only at h ⊢
  rw [hm,hf] at h
  split at h
  .exact KY (fun r hr=>(hk _ _ _ _ hr).2 rfl) h
  .exact h.elim
 .rw [HD e] at h ⊢
  have hf:∀s∈o.o.op.srcs,Bf (s.ev env)=Bf (s.ev g9):=fun s hx=>by rw [hs s hx]
  rw [PX hf,QR hf] at h
  obtain ⟨h1,h2⟩:=h
  split at h2
  .rename_i α ws R he
   obtain ⟨e1,e2⟩:=Zl he (hk _ _ _ _ h2).1
   rw [e1]
   exact ⟨e2 h1,h2⟩
  .exact h2.elim
theorem XZ (hs:∀s∈o.o.op.srcs,s.ev env=s.ev g9) (hk:Aaa n0 o.bf hp Am K) (h:dG P n0 N1 i o env hp G K):dG P n0 N1 i o g9 Am G K:=by
 rcases Ap.cases_c o.o.op with ⟨f,xs,e⟩ | ⟨f,xs,e⟩ | e
 .have ho:=F6 (p:=G) hs
  obtain ⟨⟨d,op,g⟩,un,lg,bf⟩:=o
  simp only at e
  subst e
  have hm:(xs.map fun s=>Bf (s.ev env))=xs.map fun s=>Bf (s.ev g9):=z1a fun s hx=>by rw [hs s hx]
  unfold dG at h ⊢
  simp only at h ⊢
  rw [hm] at h
  exact ⟨by rw [<-ho];exact h.1,KY (fun r hr=>(hk _ _ _ _ hr).2 rfl) h.2⟩
 .have ho:=F6 (p:=G) hs
  obtain ⟨⟨d,op,g⟩,un,lg,bf⟩:=o
  simp only at e
  subst e
  have hm:(xs.map fun s=>Bf (s.ev env))=xs.map fun s=>Bf (s.ev g9):=z1a fun s hx=>by rw [hs s (by simp [Ap.srcs,hx])]
  have hf:f.ev env=f.ev g9:=hs f (by simp [Ap.srcs])
  unfold dG at h ⊢
  simp only at h ⊢
  rw [hm,hf] at h
  refine ⟨by rw [<-ho];exact h.1,?_⟩
  have h2:=h.2
  split at h2
  .exact KY (fun r hr=>(hk _ _ _ _ hr).2 rfl) h2
  .exact h2.elim
 .rw [N9 e] at h ⊢
  have hf:∀s∈o.o.op.srcs,Bf (s.ev env)=Bf (s.ev g9):=fun s hx=>by rw [hs s hx]
  obtain ⟨h1,h2⟩:=h
  refine ⟨by rw [<-F6 hs];exact h1,?_⟩
  split
  .rename_i hv
   rw [if_pos hv] at h2
   obtain ⟨g1,g2,g3⟩:=h2
   rw [Mb hf] at g3
   have hr:=(hk _ _ _ _ g3).1
   rw [K2 hf,Kt hr] at g1
   rw [Kd hf,JO hr] at g2 g3
   exact ⟨g1,g2,g3⟩
  .rename_i hv
   rw [if_neg hv] at h2
   exact h2.imp (fun ⟨a,b⟩=>⟨a,Sl hs hk b⟩) id
theorem Agv (hs:∀s∈o.o.op.srcs,s.ev env=s.ev g9) (hg:∀t i7,o.o.g=some (t,i7)->ge env t=ge g9 t) (hk:Aaa n0 o.bf hp Am K) (h:L3 P n0 N1 i o env hp K):L3 P n0 N1 i o g9 Am K:=by
 unfold L3 at h ⊢
 split
 .rename_i e
  rw [e] at h
  exact ⟨by rw [<-F6 hs];exact h.1,Sl hs hk h.2⟩
 .rename_i t i7 e
  rw [e] at h
  simp only at h
  rw [hg t i7 e] at h
  split
  .rename_i x hx
   rw [hx] at h
   exact XZ hs hk h
  .rename_i c x hx
   rw [hx] at h
   exact XZ hs hk h
  .rename_i hx
   rw [hx] at h
   exact XZ hs hk h
  .rename_i hx1 GD hx3
   split at h
   .rename_i x hx;exact hx1 _ hx
   .rename_i c x hx;exact GD _ _ hx
   .rename_i hx;exact hx3 hx
   .exact h
theorem IK (hK:∀α ws R c,K α ws R c->K' α ws R c) (h:EG P n0 N1 i o env hp K):EG P n0 N1 i o env hp K':=by
 rcases Ap.cases_c o.o.op with ⟨f,xs,e⟩ | ⟨f,xs,e⟩ | e
 .obtain ⟨⟨d,op,g⟩,un,lg,bf⟩:=o
  simp only at e
  subst e
  exact Jr (K:=fun r ws=>K r ws [] true) (K':=fun r ws=>K' r ws [] true) (fun r ws hr=>hK _ _ _ _ hr) h
 .obtain ⟨⟨d,op,g⟩,un,lg,bf⟩:=o
  simp only at e
  subst e
  unfold EG at h ⊢
  simp only at h ⊢
  split at h
  .exact DA (fun r hr=>hK _ _ _ _ hr) h
  .exact h.elim
 .rw [HD e] at h ⊢
  refine ⟨h.1,?_⟩
  have h2:=h.2
  split at h2
  .exact hK _ _ _ _ h2
  .exact h2.elim
theorem P3 (h:EG P n0 N1 i o env hp K):∃α ws R c,EG P n0 N1 i o env hp (fun α' q7 R' c'=>α'=α∧q7=ws∧R'=R∧c'=c)∧K α ws R c:=by
 rcases Ap.cases_c o.o.op with ⟨f,xs,e⟩ | ⟨f,xs,e⟩ | e
 .obtain ⟨⟨d,op,g⟩,un,lg,bf⟩:=o
  simp only at e
  subst e
  obtain ⟨r,ws,h1,h2⟩:=QT (K:=fun r ws=>K r ws [] true) h
  exact ⟨r,ws,[],true,Jr (K':=fun r' q7=>r'=r∧q7=ws∧([]:List Nat)=[]∧true=true) (fun _ _ e=>⟨e.1,e.2,rfl,rfl⟩) h1,h2⟩
 .obtain ⟨⟨d,op,g⟩,un,lg,bf⟩:=o
  simp only at e
  subst e
  unfold EG at h ⊢
  simp only at h ⊢
  split at h
  .obtain ⟨r,h1,h2⟩:=IC h
   exact ⟨_,_,_,_,DA (fun r' e=>⟨e,rfl,rfl,rfl⟩) h1,h2⟩
  .exact h.elim
 .rw [HD e] at h
  obtain ⟨h1,h2⟩:=h
  split at h2
  .rename_i α ws R he
   refine ⟨α,ws,R,false,?_,h2⟩
   rw [HD e,he]
   exact ⟨h1,rfl,rfl,rfl,rfl⟩
  .exact h2.elim
theorem Rn (h:dG P n0 N1 i o env hp G K):∃α ws R c,dG P n0 N1 i o env hp G (fun α' q7 R' c'=>α'=α∧q7=ws∧R'=R∧c'=c)∧K α ws R c:=by
 rcases Ap.cases_c o.o.op with ⟨f,xs,e⟩ | ⟨f,xs,e⟩ | e
 .obtain ⟨⟨d,op,g⟩,un,lg,bf⟩:=o
  simp only at e
  subst e
  obtain ⟨r,h1,h2⟩:=IC h.2
  exact ⟨_,_,_,_,⟨h.1,DA (fun r' e=>⟨by rw [e],rfl,rfl,rfl⟩) h1⟩,h2⟩
 .obtain ⟨⟨d,op,g⟩,un,lg,bf⟩:=o
  simp only at e
  subst e
  unfold dG at h ⊢
  simp only at h ⊢
  obtain ⟨h0,h⟩:=h
  split at h
  .obtain ⟨r,h1,h2⟩:=IC h
   exact ⟨_,_,_,_,⟨h0,DA (fun r' e=>⟨by rw [e],rfl,rfl,rfl⟩) h1⟩,h2⟩
  .exact h.elim
 .rw [N9 e] at h
  obtain ⟨h1,h2⟩:=h
  split at h2
  .rename_i hv
   refine ⟨_,_,_,_,?_,h2.2.2⟩
   rw [N9 e,if_pos hv]
   exact ⟨h1,h2.1,h2.2.1,rfl,rfl,rfl,rfl⟩
  .rename_i hv
   rcases h2 with ⟨a,b⟩ | ⟨a,b⟩
   .obtain ⟨α,ws,R,c,c1,c2⟩:=P3 b
    refine ⟨α,ws,R,c,?_,c2⟩
    rw [N9 e,if_neg hv]
    exact ⟨h1,.inl ⟨a,c1⟩⟩
   .refine ⟨_,_,_,_,?_,b⟩
    rw [N9 e,if_neg hv]
    exact ⟨h1,.inr ⟨a,rfl,rfl,rfl,rfl⟩⟩
theorem Aad (h:L3 P n0 N1 i o env hp K):∃α ws R c,L3 P n0 N1 i o env hp (fun α' q7 R' c'=>α'=α∧q7=ws∧R'=R∧c'=c)∧K α ws R c:=by
 unfold L3 at h ⊢
 split at h
 .obtain ⟨α,ws,R,c,c1,c2⟩:=P3 h.2
  exact ⟨α,ws,R,c,⟨h.1,c1⟩,c2⟩
 .split at h
  .exact Rn h
  .exact Rn h
  .exact Rn h
  .exact h.elim
theorem MO (hK:∀α ws R c,K α ws R c->K' α ws R c) (h:dG P n0 N1 i o env hp G K):dG P n0 N1 i o env hp G K':=by
 rcases Ap.cases_c o.o.op with ⟨f,xs,e⟩ | ⟨f,xs,e⟩ | e
 .obtain ⟨⟨d,op,g⟩,un,lg,bf⟩:=o
  simp only at e
  subst e
  exact ⟨h.1,DA (fun r hr=>hK _ _ _ _ hr) h.2⟩
 .obtain ⟨⟨d,op,g⟩,un,lg,bf⟩:=o
  simp only at e
  subst e
  unfold dG at h ⊢
  simp only at h ⊢
  obtain ⟨h0,h⟩:=h
  refine ⟨h0,?_⟩
  split at h
  .exact DA (fun r hr=>hK _ _ _ _ hr) h
  .exact h.elim
 .rw [N9 e] at h ⊢
  obtain ⟨h1,h2⟩:=h
  refine ⟨h1,?_⟩
  split
  .rename_i hv
   rw [if_pos hv] at h2
   exact ⟨h2.1,h2.2.1,hK _ _ _ _ h2.2.2⟩
  .rename_i hv
   rw [if_neg hv] at h2
   exact h2.imp (fun ⟨a,b⟩=>⟨a,IK hK b⟩) (fun ⟨a,b⟩=>⟨a,hK _ _ _ _ b⟩)
theorem Pz (hK:∀α ws R c,K α ws R c->K' α ws R c) (h:L3 P n0 N1 i o env hp K):L3 P n0 N1 i o env hp K':=by
 unfold L3 at h ⊢
 split at h
 .exact ⟨h.1,IK hK h.2⟩
 .split at h
  .exact MO hK h
  .exact MO hK h
  .exact MO hK h
  .exact h
end
end
section
variable {P:Program} {n0 N1 i:Nat} {o:DO} {env:EN} {hp:CH} {K K':AV->CH->List Nat->Bool->Prop}
theorem R3 (h:Jf P n0 N1 i o env hp K):EG P n0 N1 i o env hp K:=by
 unfold Jf at h
 split at h
 .rename_i hv
  have hc:o.o.op.isC=false:=by
   revert hv
   generalize o.o.op=op
   intro hv
   cases op<;>first | rfl | (simp [Ap.isV] at hv)
  rw [HD hc]
  obtain ⟨h1,h2⟩:=Ki h
  have e:o.o.op.eff hp (fun s=>Bf (s.ev env)) (n0+i)=match o.o.op.val hp (fun s=>Bf (s.ev env)) with
   |some α=>some (α,[],o.o.op.rd fun s=>Bf (s.ev env))
   |none=>none:=by
   revert hv
   generalize o.o.op=op
   intro hv
   cases op<;>first | rfl | (simp [Ap.isV] at hv)
  have e2:o.o.op.effP hp (fun s=>Bf (s.ev env))=o.o.op.pre hp fun s=>Bf (s.ev env):=by
   revert hv
   generalize o.o.op=op
   intro hv
   cases op<;>first | rfl | (simp [Ap.isV] at hv)
  rw [e,e2]
  refine ⟨h1,?_⟩
  revert h2
  generalize o.o.op.val hp (fun s=>Bf (s.ev env))=x
  intro h2
  cases x with
  |none=>exact h2.elim
  |some α=>exact h2
 .exact h
theorem R6 (hK:∀α ws R c,K α ws R c->K' α ws R c) (h:Jf P n0 N1 i o env hp K):Jf P n0 N1 i o env hp K':=by
 unfold Jf at h ⊢
 split
 .rename_i hv
  rw [hv] at h
  exact M2 (fun α h=>hK _ _ _ _ h) h
 .rename_i hv
  rw [hv] at h
  exact IK hK h
theorem VD (h:Di P n0 N1 i o env hp K):L3 P n0 N1 i o env hp K:=by
 unfold Di at h
 split at h
 .rename_i e
  unfold L3
  rw [e]
  exact ⟨h.1,R3 h.2⟩
 .exact h
theorem TO (hK:∀α ws R c,K α ws R c->K' α ws R c) (h:Di P n0 N1 i o env hp K):Di P n0 N1 i o env hp K':=by
 unfold Di at h ⊢
 split at h
 .exact ⟨h.1,R6 hK h.2⟩
 .exact Pz hK h
theorem Mo:∀(l:List DO) (i:Nat) (env:EN) (hp:CH) (lg:List LE) (K K':EN->CH->Prop),(∀e h,K e h->K' e h)->LJ P n0 N1 i l env hp lg K->LJ P n0 N1 i l env hp lg K'
 | [],i,env,hp,lg,K,K',hK,h=>hK _ _ h
 |o::r,i,env,hp,lg,K,K',hK,h=>TO (fun α ws R c ⟨h1,h2⟩=>⟨h1,Mo r _ _ _ _ K K' hK h2⟩) h
theorem PC:∀(l:List DO) (i:Nat) (env:EN) (hp:CH) (lg:List LE) (K:EN->CH->Prop),LJ P n0 N1 i l env hp lg K->vcD P n0 N1 i l env hp lg K
 | [],i,env,hp,lg,K,h=>h
 |o::r,i,env,hp,lg,K,h=>Pz (fun α ws R c ⟨h1,h2⟩=>⟨h1,by
  have:=PC r _ _ _ _ K h2
  cases hl:o.lg<;>rw [hl] at this<;>exact this⟩) (VD h)
end
