/- Proof. Conditions: none. -/
import Derived.Test.YtgfidgoefioigaaGreatDoorIj8
open List renaming eq_nil_of_length_eq_zero->z2q,map_congr_left->z1x
open Nat renaming le_refl->zna
namespace Go.Eng
set_option linter.all false
section
variable {P:Program} {C:Ctx}
section
variable {st:St} {a:Act} {w:World} {t n k:Nat} {o:Oper} {env:EN} {d4:Array Oper} {c:Au} {G:Bool} {K:St->Prop} {g:Option (Nat × Bool)} {h:HP} {J:RO} {hp:CH} {l:List (List AV)}
theorem S.slot (hS:S C st a w) (ht:t<C.N):∃h J v,Sat C st h J a w∧a.tmps[t]?=some v∧Ba h J (ge st.env t) v:=by
 obtain ⟨h,J,s⟩:=hS
 obtain ⟨v,h1,h2⟩:=s.env t ht
 exact ⟨h,J,v,s,h1,h2⟩
theorem S.undef (hS:S C st a w) (d:Option Nat) (x:AV):S C ⟨EN.set st.env d (.gd false x),st.hp,st.n⟩ (a.put d undef) w:=by
 obtain ⟨h,J,s⟩:=hS
 exact ⟨h,J,s.val d (.gd _ _ _ (fun e=>by cases e) (fun _=>rfl))⟩
theorem Xk {o:Au} (h:Mm o env=true):o.isV=true:=by
 unfold Mm at h
 split at h
 .rfl
 .exact h
theorem Y9 {d4:List Oper} (hc:PT P C.N d4 o=some c) (hs:c.isV=true) (hG:G=true) (AZ:c.obs st.env (G=true))
 (DJ:c.pre st.hp fun s=>Bf (s.ev st.env)) (A4:(c.val st.hp fun s=>Bf (s.ev st.env)).isSome=true) (hS:S C st a w) {K:St->Prop}
 (hk:K ⟨EN.set st.env o.dst (.gd G ((c.val st.hp fun s=>Bf (s.ev st.env)).getD .un)),st.hp,st.n⟩) (Q:Exit->Act->World->Prop):o.wp P a w (fun a' w'=>∃c8,K c8∧S C c8 a' w') Q:=by
 obtain ⟨h,J,s⟩:=hS
 obtain ⟨U,hα⟩:=Option.isSome_iff_exists.1 A4
 obtain ⟨v,h1,h2⟩:=Jf (P:=P) s hG hc hs AZ DJ hα
 unfold Oper.wp
 rw [h1]
 refine ⟨_,hk,h,J,?_⟩
 rw [hα]
 exact s.val o.dst (.gd _ _ _ (fun _=>h2) (fun e=>by rw [hG] at e;cases e))
theorem LK {tmps:Array Value} {j:Nat} (h:(d4[j]?).bind (·.dst)=some t):yielded d4 tmps j=match tmps[t]? with | some (.bool b)=>some b | _=>none:=by
 unfold yielded
 rw [h]
 rfl
theorem Agj {o:CO} (hs:¬Mm o.op st.env=true) (h:Ro P o st G K) :
 (G=true->D9 P st.n o st K∨∃r,D9 P st.n o st (fun c8=>c8=⟨EN.set st.env o.dst r,st.hp,st.n⟩)∧K ⟨EN.set st.env o.dst (.gd true r),st.hp,st.n⟩) ∧
 (G=false->∃x,K ⟨EN.set st.env o.dst (.gd false x),st.hp,st.n⟩):=by
 unfold Ro at h
 rw [if_neg hs] at h
 split at h
 .rename_i f xs ho
  obtain ⟨d,op,g,dp,fz⟩:=o
  simp only at ho
  subst ho
  obtain ⟨ho,h⟩:=h
  refine ⟨fun e=>?_,fun e=>?_⟩
  .subst e
   rcases h with ⟨r,m,k⟩ | h
   .exact .inr ⟨r,⟨ho,Ac.f (m rfl) rfl⟩,k⟩
   .exact .inl ⟨ho,h.1 rfl⟩
  .subst e
   rcases h with ⟨r,m,k⟩ | h
   .exact ⟨_,k⟩
   .exact ⟨_,h.2 rfl⟩
 .exact ⟨fun e=>.inl (h.1 e),fun e=>⟨_,h.2 e⟩⟩
theorem Ur (hc:PT P C.N d4.toList o=some c) (hg:Ep C.N d4.toList o.guard=some g)
 {dp:List Nat} {fz:Bool} (hv:J8 P ⟨o.dst,c,g,dp,fz⟩ st K) (hS:S C st a w) (Q:Exit->Act->World->Prop) :
 if Region.wanted o (yielded d4 a.tmps) then o.wp P a w (fun a' w'=>∃c8,K c8∧S C c8 a' w') Q else ∃c8,K c8∧S C c8 (a.put o.dst undef) w:=by
 cases ho:o.guard with
 |none=>
  rw [ho] at hg
  simp [Ep] at hg
  subst hg
  rw [if_pos (by simp [Region.wanted,ho])]
  exact Fx hc hv hS Q
 |some jw=>
  obtain ⟨j,i7⟩:=jw
  rw [ho] at hg
  unfold Ep at hg
  simp only at hg
  split at hg
  .rename_i t ht
   split at hg
   .rename_i htN
    simp only [Option.some.injEq] at hg
    subst hg
    have hj:(d4[j]?).bind (·.dst)=some t:=by simpa using ht
    have hw:Region.wanted o (yielded d4 a.tmps)=(yielded d4 a.tmps j == some i7):=by simp [Region.wanted,ho]
    rw [hw,LK hj]
    have p7:∀G:Bool,(((match a.tmps[t]? with | some (.bool b)=>some b | _=>none) == some i7)=G)->Ro P ⟨o.dst,c,some (t,i7),dp,fz⟩ st G K ->
     if ((match a.tmps[t]? with | some (.bool b)=>some b | _=>none) == some i7)=true then o.wp P a w (fun a' w'=>∃c8,K c8∧S C c8 a' w') Q else ∃c8,K c8∧S C c8 (a.put o.dst undef) w:=by
     intro G hGe hvg
     rw [hGe]
     by_cases hsoft:Mm c st.env=true
     .unfold Ro at hvg
      rw [if_pos hsoft] at hvg
      obtain ⟨h1,h2,h3,h4⟩:=hvg
      cases G with
      |true=>
       rw [if_pos rfl]
       exact Y9 hc (Xk hsoft) rfl (Au.obsB_obs (fun h=>h) h1) (h2 rfl) (h3 rfl) hS h4 Q
      |false=>
       rw [if_neg (by simp)]
       exact ⟨_,h4,hS.undef o.dst _⟩
     .obtain ⟨h1,h2⟩:=Agj hsoft hvg
      cases G with
      |true=>
       rw [if_pos rfl]
       rcases h1 rfl with h1 | ⟨r,h1,hk⟩
       .exact Fx hc h1 hS Q
       .refine Oper.wp_mono (fun a' w' ⟨c8,e,h',ρ',s⟩=>?_) (Fx hc h1 hS Q)
        subst e
        refine ⟨_,hk,h',ρ',s.hle,s.rle,s.keep,s.own,s.mem,fun t ht=>?_,s.size,s.defers⟩
        obtain ⟨v,g1,g2⟩:=s.env t ht
        refine ⟨v,g1,?_⟩
        cases hd:o.dst with
        |none=>rw [hd] at g2;exact g2
        |some d=>
         rw [hd] at g2
         simp only [EN.set,ge] at g2 ⊢
         split
         .rename_i hdt
          rw [if_pos hdt] at g2
          exact .gd _ _ _ (fun _=>g2) (fun e=>by cases e)
         .rename_i hdt
          rw [if_neg hdt] at g2
          exact g2
      |false=>
       rw [if_neg (by simp)]
       obtain ⟨x,h2⟩:=h2 rfl
       exact ⟨_,h2,hS.undef o.dst _⟩
    obtain ⟨h,J,v,s,h1,h2⟩:=hS.slot htN
    unfold J8 at hv
    simp only at hv
    split at hv
    .rename_i x hx
     rw [hx] at h2
     rw [h2.bool] at h1
     exact p7 _ (by rw [h1];cases x<;>cases i7<;>rfl) hv
    .rename_i cc x hx
     rw [hx] at h2
     refine p7 _ ?_ hv
     rw [h1]
     have key:(cc=true->v=.bool x)∧(cc=false->v=undef):=by
      cases h2 with
      |pu _ _ p=>cases p with | gd _ _ _ p1 p2=>exact ⟨fun e=>by cases p1 e;rfl,p2⟩
      |gd _ _ _ p1 p2=>exact ⟨fun e=>(p1 e).bool,p2⟩
     cases cc with
     |true=>rw [key.1 rfl];cases x<;>cases i7<;>rfl
     |false=>rw [key.2 rfl];rfl
    .rename_i hx
     rw [hx] at h2
     refine p7 _ ?_ hv
     rw [h1]
     have key:v=undef:=by
      cases h2 with
      |pu _ _ p=>cases p with | gd _ _ _ p1 p2=>exact p2 rfl
      |gd _ _ _ p1 p2=>exact p2 rfl
     rw [key]
     rfl
    .exact hv.elim
   .cases hg
  .cases hg
theorem SatH.more {n0:Nat} (m:SatH h J hp n0 w) {b0:Nat} (hb0:¬AI J hp b0):∃h',BQ h h'∧SatH h' J hp n0 w∧h' b0=w.heap[b0]?:=by
 let h':HP:=fun b=>if b0=b then w.heap[b]? else h b
 have hle:BQ h h':=by
  intro b o e
  show (if b0=b then w.heap[b]? else h b)=some o
  split
  .exact m.hh b o e
  .exact e
 refine ⟨h',hle,⟨fun b o e=>?_,fun k=>Ak.sat_mono hle (Ck.refl _) (fun _ _ _ _ _=>rfl) (m.ch k),m.inj,fun b hb=>?_,m.lt,m.fr,m.gens,m.glm hle⟩,if_pos rfl⟩
 .change (if b0=b then w.heap[b]? else h b)=some o at e
  split at e
  .exact e
  .exact m.hh b o e
 .show (if b0=b then w.heap[b]? else h b)=none
  rw [if_neg (fun e:b0=b=>by subst e;exact hb0 hb)]
  exact m.hid b hb
theorem Ace {len cap:Nat} {a:Option Addr} {ob:Option Nat} (hl:l.length=len) (hc:len<=cap) (hn:∀(j:Nat) e,l[j]?=some e->e.length=n) (ha:∀b,ob=some b->a=some ⟨b,0,none⟩)
 (h0:ob=none->l=[]) (hb:∀b,ob=some b->∃vs e fr,h b=some (.cells vs e fr)∧∀(j:Nat) x (q:Nat) U,l[j]?=some x->x[q]?=some U->∃u,vs[n*j+q]?=some u∧Bq h U u):Bq h (.ds l) (.slice a len cap):=by
 subst hl
 cases ob with
 |none=>
  have:=h0 rfl
  subst this
  exact .ds [] n a cap (fun _ _=>undef) hc hn (fun j e q U e1=>by simp at e1) fun e=>absurd rfl e
 |some b=>
  obtain ⟨vs,e,fr,e1,e2⟩:=hb b rfl
  refine .ds l n a cap (fun j q=>(vs[n*j+q]?).getD undef) hc hn (fun j x q U g1 g2=>?_) fun _=>⟨b,0,ha b rfl,fun j x q U g1 g2=>?_⟩
  .obtain ⟨u,z1,z2⟩:=e2 j x q U g1 g2
   simp only [z1,Option.getD_some]
   exact z2
  .obtain ⟨u,z1,z2⟩:=e2 j x q U g1 g2
   simp [Eq,e1,z1]
theorem Ag3 (k g:Nat) (l l':List (List AV)) (env:EN) (t:Nat):ge (frz k g l l' env) t=Aau k g l l' (ge env t):=by
 induction env with
 |nil=>rfl
 |cons p r ih=>
  obtain ⟨j,U⟩:=p
  simp only [frz,List.map_cons,ge] at ih ⊢
  split
  .rfl
  .exact ih
theorem Sat.frz {ρ':RO} {a':Act} {w':World} {g n1:Nat} {l2:List (List AV)} (S0:Sat C st h J a w) (hk:gc st.hp k=.rw g n l)
 (S1:Sat C ⟨env,(k,.rw (g+1) n (l++l2))::st.hp,n1⟩ h ρ' a' w') (hr:Ck J ρ') (hO:ρ' k (g+1)=J k g∨((∀b,b<w.heap.size->w'.heap[b]?=w.heap[b]?)∧∀b c,ρ' k (g+1)=some (some b,c)->w.heap.size<=b)) :
 S C ⟨frz k g l (l++l2) env,(k,.sh (g+1) n (l++l2))::(k,.rw (g+1) n (l++l2))::st.hp,n1⟩ a' w':=by
 obtain ⟨h1,e1,m1,lv1⟩:=S1.mem.shut Ah
 have Do:=S0.mem.ch k
 rw [hk] at Do
 obtain ⟨ob,cap,r1,r2,r2',r3,r4,r5⟩:=Do
 have r1':=hr _ _ _ r1
 have key:∃h2,BQ h1 h2∧SatH h2 ρ' ((k,.sh (g+1) n (l++l2))::(k,.rw (g+1) n (l++l2))::st.hp) n1 w' ∧
  ∀b,ob=some b->∃vs e fr,h2 b=some (.cells vs e fr)∧∀(j:Nat) x (q:Nat) U,l[j]?=some x->x[q]?=some U->∃u,vs[n*j+q]?=some u∧Bq h2 U u:=by
  rcases hO with e | ⟨e,_⟩
  .refine ⟨h1,BQ.refl _,m1,fun b hb=>?_⟩
   have Do:=m1.ch k
   rw [Ah] at Do
   obtain ⟨o7,i6,q1,q2,q2',q3,q4,q5⟩:=Do
   rw [e,r1] at q1
   cases q1
   obtain ⟨vs,e',fr,x1,x2⟩:=q5 b hb
   exact ⟨vs,e',fr,x1,fun j x q U g1 g2=>x2 j x q U (by rw [List.getElem?_append_left (List.getElem?_eq_some_iff.1 g1).1];exact g1) g2⟩
  .cases ob with
   |none=>exact ⟨h1,BQ.refl _,m1,fun b hb=>by cases hb⟩
   |some b=>
    have G1:AI J st.hp b:=⟨k,g,cap,by rw [hk];rfl,r1⟩
    obtain ⟨vs,e',x1,x2,x3⟩:=r5 b rfl
    have O2:¬AI ρ' ((k,.sh (g+1) n (l++l2))::(k,.rw (g+1) n (l++l2))::st.hp) b:=by
     rintro ⟨k',g',c,eg,er⟩
     by_cases E4:k=k'
     .subst E4
      rw [Ah] at eg
      cases eg
     .rw [Am E4,Am E4] at eg
      have:∃y,J k' g'=some y:=by
       have hs:=S0.mem.ch k'
       cases hg:gc st.hp k'<;>rw [hg] at hs eg<;>first | (rcases eg with rfl | rfl<;>obtain ⟨_,_,_,_,y,_,_,_,_,⟨_,y2⟩,_⟩:=hs<;>first | exact ⟨_,y⟩ | exact ⟨_,y2⟩) | (rcases eg with rfl | rfl<;>obtain ⟨_,_,_,_,y,_,_,_,_,_,_,_,y2,_⟩:=hs<;>first | exact ⟨_,y⟩ | exact ⟨_,y2⟩) | (cases eg;done) | (cases eg;obtain ⟨_,_,_,_,y,_⟩:=hs;exact ⟨_,y⟩) | (cases eg;obtain ⟨_,_,y,_⟩:=hs;exact ⟨_,y⟩) | (cases eg;obtain ⟨_,y,_⟩:=hs;exact ⟨_,y⟩)
      obtain ⟨y,hy⟩:=this
      have:=hr _ _ _ hy
      rw [er] at this
      cases this
      exact E4 (S0.mem.inj k k' g g' b cap c (by rw [hk];rfl) eg r1 hy)
    obtain ⟨h2,z1,z2,z3⟩:=m1.more O2
    refine ⟨h2,z1,z2,fun b' hb=>?_⟩
    cases hb
    rw [e b (S0.mem.lt b G1),x1] at z3
    exact ⟨vs,e',_,z3,fun j x q U g1 g2=>let ⟨u,y1,y2⟩:=x3 j x q U g1 g2;⟨u,y1,y2.mono (BQ.trans e1 z1)⟩⟩
 obtain ⟨h2,e2,m2,E2⟩:=key
 have hh:=BQ.trans e1 e2
 refine ⟨h2,ρ',BQ.trans S1.hle hh,S1.rle,S1.keep,fun b hb=>S1.own b (lv1 b hb),m2,fun t ht=>?_,S1.size,S1.defers⟩
 obtain ⟨v,y1,y2⟩:=S1.env t ht
 refine ⟨v,y1,?_⟩
 simp only [Ag3]
 generalize ge env t=U at y2
 have y3:=y2.mono hh (Ck.refl _)
 unfold Aau
 split
 .rename_i k' g' len
  split
  .rename_i E4
   subst E4
   split
   .rename_i hg
    obtain ⟨rfl,hle⟩:=hg
    cases y2 with
    |pu _ _ p=>cases p
    |rw _ _ _ cp aa o7 f1 f2 f3=>
     rw [r1'] at f1
     cases f1
     refine .pu _ _ (Ace (n:=n) (ob:=ob) (by simp;omega) f2 (fun j e he=>?_) f3 (fun e=>?_) fun b hb=>?_)
     .rw [List.getElem?_take] at he
      split at he
      .exact r3 j e he
      .cases he
     .have:=r4 e
      have:l=[]:=z2q (by omega)
      simp [this]
     .obtain ⟨vs,e,fr,x1,x2⟩:=E2 b hb
      refine ⟨vs,e,fr,x1,fun j x q U g1 g2=>?_⟩
      rw [List.getElem?_take] at g1
      split at g1
      .exact x2 j x q U g1 g2
      .cases g1
   .split
    .rename_i hg
     obtain ⟨rfl,hle⟩:=hg
     have Do:=m2.ch k'
     rw [Ah] at Do
     obtain ⟨o7,i6,q1,q2,q2',q3,q4,q5⟩:=Do
     cases y2 with
     |pu _ _ p=>cases p
     |rw _ _ _ cp aa ob2 f1 f2 f3=>
      rw [q1] at f1
      cases f1
      exact .pu _ _ (Ace (n:=n) (ob:=o7) hle.symm f2 q3 f3 (fun e=>z2q (by have:=q4 e;omega)) q5)
    .exact y3
  .exact y3
 .exact y3
theorem Sat.weak_dup {nn:Nat} {X Y:Ak} (s:Sat C ⟨env,(k,X)::(k,Y)::hp,nn⟩ h J a w):S C ⟨env,(k,X)::hp,nn⟩ a w:=by
 have e:∀j,gc ((k,X)::(k,Y)::hp) j=gc ((k,X)::hp) j:=fun j=>by
  by_cases hj:k=j
  .subst hj;rw [Ah,Ah]
  .rw [Am hj,Am hj,Am hj]
 have hl:∀b,AI J ((k,X)::hp) b->AI J ((k,X)::(k,Y)::hp) b:=fun b ⟨j,g,c,q,r⟩=>⟨j,g,c,by rw [e];exact q,r⟩
 refine ⟨h,J,s.hle,s.rle,s.keep,fun b hb=>s.own b (hl b hb),⟨s.mem.hh,fun j=>by rw [<-e j];exact s.mem.ch j,fun j j' g g' b c c' q q'=>s.mem.inj j j' g g' b c c' (by rw [e];exact q) (by rw [e];exact q'),fun b hb=>s.mem.hid b (hl b hb),fun b hb=>s.mem.lt b (hl b hb),s.mem.fr,fun j g g' x q r=>s.mem.gens j g g' x (by rw [e];exact q) r,s.mem.gl⟩,s.env,s.size,s.defers⟩
theorem Wl (hc:PT P C.N d4.toList o=some c) (hg:Ep C.N d4.toList o.guard=some g)
 {dp:List Nat} {fz:Bool} (hv:YL P ⟨o.dst,c,g,dp,fz⟩ st K) (hS:S C st a w) (Q:Exit->Act->World->Prop) :
 if Region.wanted o (yielded d4 a.tmps) then o.wp P a w (fun a' w'=>∃c8,K c8∧S C c8 a' w') Q else ∃c8,K c8∧S C c8 (a.put o.dst undef) w:=by
 cases fz with
 |false=>exact Ur hc hg (fz:=false) hv hS Q
 |true=>
  change Ud P _ st K at hv
  unfold Ud at hv
  split at hv
  .rename_i x y n bytes hop hgg
   simp only at hop hgg
   subst hop hgg
   have hgn:o.guard=none:=by
    cases ho:o.guard with
    |none=>rfl
    |some jw=>
     rw [ho] at hg
     simp only [Ep] at hg
     split at hg
     .split at hg<;>cases hg
     .cases hg
   rw [if_pos (by simp [Region.wanted,hgn])]
   split at hv
   .exact Fx hc hv hS Q
   rename_i Ss
   obtain ⟨hob,hv⟩:=hv
   split at hv
   .rename_i l2 G2
    obtain ⟨b1,b2,b3,hv⟩:=hv
    split at hv
    .rename_i k gg len hx
     split at hv
     .rename_i g' n' l hk
      split at hv
      .obtain ⟨⟨rfl,rfl,rfl⟩,hK⟩:=hv
       obtain ⟨h,J,S0⟩:=hS
       have hv1:D9 P st.n ⟨o.dst,.ap x y n bytes,none,dp,true⟩ st (fun c8=>c8=⟨EN.set st.env o.dst (.rw k (gg+1) (l.length+l2.length)),(k,.rw (gg+1) n (l++l2))::st.hp,st.n⟩):=by
        refine ⟨hob,?_⟩
        simp only [Y0,Ss,G2]
        refine ⟨b1,b2,b3,?_⟩
        simp [hx,HQ,hk]
       refine Oper.wp_mono (fun a' w' ⟨c8,h',ρ',e,s,f⟩=>?_) (Ek (P:=P) hc hv1 S0 (fun g=>S0.mem.fr st.n g (zna _)) Q)
       subst e
       obtain ⟨eh,VR,ho⟩:=f.2 x y n bytes rfl
       subst eh
       exact ⟨_,hK,S0.frz hk s VR (ho k gg l.length _ _ hx hk)⟩
      .obtain ⟨⟨rfl,rfl,hle,hl1⟩,hKa,hKb⟩:=hv
       obtain ⟨h,J,S0⟩:=hS
       have S1:=S0.trunc hk hle
       have hv1:D9 P st.n ⟨o.dst,.ap x y n bytes,none,dp,false⟩ ⟨st.env,(k,.rw gg n (l.take len))::st.hp,st.n⟩ (fun c8=>c8=⟨EN.set st.env o.dst (.rw k (gg+1) (len+l2.length)),(k,.rw (gg+1) n (l.take len++l2))::(k,.rw gg n (l.take len))::st.hp,st.n⟩):=by
        refine ⟨hob,?_⟩
        simp only [Y0,hl1]
        refine ⟨b1,b2,b3,?_⟩
        have hln:len=(l.take len).length:=by rw [List.length_take];omega
        simp only [hx,HQ,Ah]
        rw [if_pos ⟨trivial,trivial,hln⟩]
       refine Oper.wp_mono (fun a' w' ⟨c8,h',ρ',e,s,f⟩=>?_) (Ek (P:=P) hc hv1 S1 (fun g=>S0.mem.fr st.n g (zna _)) Q)
       subst e
       obtain ⟨eh,VR,ho⟩:=f.2 x y n bytes rfl
       subst eh
       rcases ho k gg len _ _ hx Ah with hA | ⟨hB1,hB2⟩
       .exact ⟨_,hKa,(S1.push_in Ah s VR hA).weak_dup⟩
       .obtain ⟨ρ2,_,_,s2⟩:=S1.push_new Ah s VR hB1 hB2 (fun g=>S0.mem.fr st.n g (zna _))
        have e1:max st.n (st.n+1)=st.n+1:=by omega
        rw [e1] at s2
        exact ⟨_,hKb,_,ρ2,s2⟩
     .exact hv.elim
    .rename_i hx
     obtain ⟨_,hK⟩:=hv
     obtain ⟨h,J,S0⟩:=hS
     have hv1:D9 P st.n ⟨o.dst,.ap x y n bytes,none,dp,true⟩ st (fun c8=>c8=⟨EN.set st.env o.dst (.rw st.n 0 l2.length),(st.n,.rw 0 n l2)::st.hp,max st.n (st.n+1)⟩):=by
      refine ⟨hob,?_⟩
      simp only [Y0,Ss,G2]
      refine ⟨b1,b2,b3,?_⟩
      simp [hx,HQ]
     refine Oper.wp_mono (fun a' w' ⟨c8,h',ρ',e,s,f⟩=>?_) (Ek (P:=P) hc hv1 S0 (fun g=>S0.mem.fr st.n g (zna _)) Q)
     subst e
     exact ⟨_,hK,h',ρ',s⟩
    .exact hv.elim
   .exact hv.elim
  .rename_i fz0 n ps hop hgg
   simp only at hop hgg
   subst hop hgg
   have hgn:o.guard=none:=by
    cases ho:o.guard with
    |none=>rfl
    |some jw=>
     rw [ho] at hg
     simp only [Ep] at hg
     split at hg
     .split at hg<;>cases hg
     .cases hg
   rw [if_pos (by simp [Region.wanted,hgn])]
   exact Fx hc hv hS Q
  .exact hv.elim
theorem Jr (f:Nat->Bool):∀(env:EN) (t:Nat),ge (env.filter fun p=>f p.1) t=ge env t∨ge (env.filter fun p=>f p.1) t=.un
 | [],_=>.inl rfl
 | (k,c)::r,t=>by
  simp only [List.filter_cons]
  split
  .simp only [ge]
   split
   .exact .inl rfl
   .exact Jr f r t
  .rename_i hf
   rcases Jr f r t with h | h
   .simp only [ge]
    split
    .rename_i hk
     subst hk
     right
     clear h
     have:∀r:EN,ge (r.filter fun p=>f p.1) k=.un:=by
      intro r
      induction r with
      |nil=>rfl
      |cons x r ih=>
       obtain ⟨j,c⟩:=x
       simp only [List.filter_cons]
       split
       .rename_i hj
        simp only [ge]
        split
        .rename_i he;subst he;exact absurd hj hf
        .exact ih
       .exact ih
     exact this r
    .exact .inl h
   .exact .inr h
theorem S.drop (hS:S C st a w) (dp:List Nat):S C ⟨EN.drop dp st.env,st.hp,st.n⟩ a w:=by
 unfold EN.drop
 split
 .exact hS
 .obtain ⟨h,J,s⟩:=hS
  refine ⟨h,J,s.hle,s.rle,s.keep,s.own,s.mem,fun t ht=>?_,s.size,s.defers⟩
  obtain ⟨v,h1,h2⟩:=s.env t ht
  refine ⟨v,h1,?_⟩
  rcases Jr (fun x=>!dp.contains x) st.env t with e | e
  .simp only [e];exact h2
  .simp only [e];exact .pu _ _ (.un _)
theorem V1 {Q:Exit->Act->World->Prop}:∀(l:List Oper) (cl:List CO) (st:St) (a:Act) (w:World) (K:St->Prop),Mj P C.N d4.toList l=some (cl.map CO.er)->Bg P cl st K->S C st a w ->
 (∀c8 a' w',K c8->S C c8 a' w'->Q .normal a' w')->wpList P d4 Q l a w:=by
 intro l
 induction l with
 |nil=>
  intro cl st a w K hc hv hS hq
  simp [Mj] at hc
  subst hc
  exact hq _ _ _ hv hS
 |cons o r ih=>
  intro cl st a w K hc hv hS hq
  unfold Mj at hc
  split at hc
  .rename_i c g l' h1 h2 h3
   cases cl with
   |nil=>cases hc
   |cons o0 l0=>
   simp only [List.map_cons,Option.some.injEq,List.cons.injEq] at hc
   obtain ⟨hc1,hc2⟩:=hc
   subst hc2
   obtain ⟨d0,c0,g0,dp0,fz0⟩:=o0
   cases hc1
   have:=Wl (P:=P) h1 h2 hv hS Q
   unfold wpList
   split at this
   .rename_i hw
    rw [if_pos hw]
    exact .inl (Oper.wp_mono (fun a' w' ⟨c8,k1,k2⟩=>ih l0 _ a' w' K h3 k1 (k2.drop dp0) hq) this)
   .rename_i hw
    rw [if_neg hw]
    obtain ⟨c8,k1,k2⟩:=this
    exact ih l0 _ _ _ K h3 k1 (k2.drop dp0) hq
  .cases hc
theorem CM.refl (s:St):CM s s:=fun _ _ _ h=>h
theorem CM.trans {a b c:St} (h:CM a b) (k:CM b c):CM a c:=fun C x w s=>k C x w (h C x w s)
end
end
section
variable {env g9:EN} {p:Bool} {o:Au} {f f':Bj->AV} {hp Al:CH} {id:Nat} {U:AV}
theorem Bj.ev_congr {s:Bj} (h:∀t∈s.slot,ge env t=ge g9 t):s.ev env=s.ev g9:=by
 cases s with
 |t n=>exact h n (by simp [Bj.slot])
 |c U=>rfl
theorem U6 {p:Prop}:∀(l:List Bj),(∀s∈l,s.ev env=s.ev g9)->VN env p l=VN g9 p l
 | [],_=>rfl
 |s::r,h=>by
  show (ob p (s.ev env)∧VN env p r)=(ob p (s.ev g9)∧VN g9 p r)
  rw [h s (by simp),U6 r (fun s hs=>h s (by simp [hs]))]
theorem Ea:∀(l:List Bj),(∀s∈l,s.ev env=s.ev g9)->Gc env p l=Gc g9 p l
 | [],_=>rfl
 |s::r,h=>by
  show (EU p (s.ev env)∧Gc env p r)=(EU p (s.ev g9)∧Gc g9 p r)
  rw [h s (by simp),Ea r (fun s hs=>h s (by simp [hs]))]
theorem FQ (h:∀s∈o.srcs,s.ev env=s.ev g9):o.obsB env p=o.obsB g9 p:=by
 cases o
 case bd z ps=>exact Ea _ h
 case mf f xs=>exact Ea _ h
 case bs f n xs=>exact Ea _ h
 case cl f xs=>exact Ea _ h
 case cc f xs=>
  show (EU p (f.ev env)∧Gc env p xs)=_
  rw [h f (by simp [Au.srcs]),Ea xs (fun s hs=>h s (by simp [Au.srcs,hs]))]
  rfl
 case sc x lo hi n=>cases lo<;>cases hi<;>simp [Au.srcs] at h<;>simp [Au.obsB,U7,h]
 case ss x lo hi=>cases lo<;>cases hi<;>simp [Au.srcs] at h<;>simp [Au.obsB,U7,h]
 case al z=>rfl
 all_goals
  simp [Au.srcs] at h
  simp [Au.obsB,h]
theorem MW:∀(ps:List (Nat×Nat×Bj)) (z:List AV),(∀s∈ps.map (·.2.2),f s=f' s)->Yq f z ps=Yq f' z ps
 | [],_,_=>rfl
 | (off,m,s)::r,z,h=>by
  unfold Yq
  rw [h s (by simp)]
  split
  .split
   .exact MW r _ fun s hs=>h s (by simp at hs ⊢;exact .inr hs)
   .rfl
  .rfl
theorem KK (h:∀s∈o.srcs,f s=f' s):o.val hp f=o.val hp f':=by
 cases o
 case bd z ps=>simp only [Au.val,MW ps z h]
 case mf g xs=>simp only [Au.val];rw [z1x (l:=xs) h]
 case sc x lo hi n=>cases lo<;>cases hi<;>simp [Au.srcs] at h<;>simp [Au.val,HB,GE,h]
 case ss x lo hi=>cases lo<;>cases hi<;>simp [Au.srcs] at h<;>simp [Au.val,HB,GE,h]
 all_goals first
  | rfl
  | (simp [Au.srcs] at h;simp [Au.val,h])
theorem Ln (h:∀s∈o.srcs,f s=f' s):o.pre hp f=o.pre hp f':=by
 cases o
 case sc x lo hi n=>cases lo<;>cases hi<;>simp [Au.srcs] at h<;>simp [Au.pre,Rf,HB,GE,h]
 case ss x lo hi=>cases lo<;>cases hi<;>simp [Au.srcs] at h<;>simp [Au.pre,Rf,HB,GE,h]
 all_goals first
  | rfl
  | (simp [Au.srcs] at h;simp [Au.pre,h])
theorem MB (h:∀s∈o.srcs,f s=f' s):o.rd f=o.rd f':=by
 cases o<;>first
  | rfl
  | (simp [Au.srcs] at h;simp [Au.rd,h])
theorem Rp (h:∀s∈o.srcs,f s=f' s):o.eff hp f id=o.eff hp f' id:=by
 by_cases hv:o.isV=true
 .have e:∀f:Bj->AV,o.eff hp f id=match o.val hp f with
   |some U=>some (U,[],o.rd f)
   |none=>none:=by cases o<;>first | (intro f;rfl) | (simp [Au.isV] at hv)
  rw [e f,e f',KK h,MB h]
 .cases o
  case bs fz n ps=>simp only [Au.eff];rw [z1x (l:=ps) h]
  all_goals first
   | rfl
   | (simp [Au.isV] at hv;done)
   | (simp [Au.srcs] at h;simp [Au.eff,Au.val,h])
theorem Qv (h:∀s∈o.srcs,f s=f' s):o.effP hp f=o.effP hp f':=by
 by_cases hv:o.isV=true
 .have e:∀f:Bj->AV,o.effP hp f=o.pre hp f:=by cases o<;>first | (intro f;rfl) | (simp [Au.isV] at hv)
  rw [e f,e f',Ln h]
 .cases o
  case bs fz n ps=>simp only [Au.effP];rw [z1x (l:=ps) h]
  all_goals first
   | rfl
   | (simp [Au.isV] at hv;done)
   | (simp [Au.srcs] at h;simp [Au.effP,Au.pre,h])
/-! ### Chunks -/
theorem EL (h:∀k∈U.ids,gc hp k=gc Al k):sl hp U=sl Al U:=by
 cases U<;>first
  | rfl
  | (simp [AV.ids] at h;simp [sl,h])
theorem Ue (h:∀k∈U.ids,gc hp k=gc Al k):shd hp U=shd Al U:=by
 cases U<;>first
  | rfl
  | (simp [AV.ids] at h;simp [shd,h])
theorem Uk {m:Nat} (h:∀k∈U.ids,gc hp k=gc Al k):J9 hp m U=J9 Al m U:=by
 cases U
 case ep U n i off=>simp only [J9,EL (U:=U) h]
 all_goals first
  | rfl
  | (simp [AV.ids] at h;simp [J9,h])
theorem K5 (h:∀k∈o.rd f,gc hp k=gc Al k):o.val hp f=o.val Al f:=by
 cases o
 case ld x m ag=>simp only [Au.val,Uk (U:=f x) h]
 case cb x=>simp only [Au.val,EL (U:=f x) h]
 case ln s x=>cases s<;>simp only [Au.val,Xq,EL (U:=f x) h]
 case sc x lo hi n=>simp only [Au.val,EL (U:=f x) h,Ue (U:=f x) h]
 case lk x s ok z=>
  simp only [Au.val]
  generalize hx:f x=U
  cases U with
  |mp k=>
   have hk:=h k (by simp [Au.rd,hx,AV.ids])
   cases f s with
   |s b=>simp only [hk]
   |_=>rfl
  |_=>rfl
 all_goals rfl
theorem Le (h:∀k∈o.rd f,gc hp k=gc Al k):o.pre hp f=o.pre Al f:=by
 cases o
 case ia x i n=>simp only [Au.pre,EL (U:=f x) h]
 case sc x lo hi n=>simp only [Au.pre,EL (U:=f x) h]
 all_goals rfl
theorem Nb {nx k0 n:Nat} {x:AV} {l2:List (List AV)} (h:∀k∈x.ids,gc hp k=gc Al k):HQ hp nx k0 n x l2=HQ Al nx k0 n x l2:=by
 cases x<;>first
  | rfl
  | (simp [AV.ids] at h;simp [HQ,h])
theorem Z9 {ws:CH} {R:List Nat} (he:o.eff hp f id=some (U,ws,R)) (h:∀k∈R,gc hp k=gc Al k) :
 o.eff Al f id=some (U,ws,R)∧(o.effP hp f->o.effP Al f):=by
 by_cases hv:o.isV=true
 .have e:∀hp:CH,o.eff hp f id=match o.val hp f with
   |some U=>some (U,[],o.rd f)
   |none=>none:=by cases o<;>first | (intro hp;rfl) | (simp [Au.isV] at hv)
  have e2:∀hp:CH,o.effP hp f=o.pre hp f:=by cases o<;>first | (intro hp;rfl) | (simp [Au.isV] at hv)
  rw [e hp] at he
  rw [e Al,e2,e2]
  cases hx:o.val hp f with
  |none=>rw [hx] at he;cases he
  |some β=>
   rw [hx] at he
   cases he
   rw [<-K5 (hp:=hp) h,hx,Le (hp:=hp) h]
   exact ⟨rfl,fun h=>h⟩
 .cases o
  case al z=>exact ⟨he,fun h=>h⟩
  case bo x=>exact ⟨he,fun h=>h⟩
  case bs fz n ps=>exact ⟨he,fun h=>h⟩
  case ms l c n bytes z=>exact ⟨he,fun h=>h⟩
  case cl=>cases he
  case cc=>cases he
  case nl=>cases he
  case mpg=>cases he
  case mpn=>cases he
  case mpe=>cases he
  case mpd=>cases he
  case clr=>cases he
  case mk=>exact ⟨he,fun h=>h⟩
  case alb=>exact ⟨he,fun h=>h⟩
  case mu x s y=>
   simp only [Au.eff] at he ⊢
   split at he
   .rename_i k b h1 h2
    split at he
    .rename_i l hk
     cases he
     have HF:gc Al k=.mp l:=by rw [<-h k (by simp)];exact hk
     simp only [Au.effP,h1,h2,HF]
     exact ⟨trivial,fun h=>h⟩
    .cases he
   .cases he
  case st x y m=>
   simp only [Au.eff] at he ⊢
   split at he
   .rename_i c0 k off h1 h2
    split at he
    .rename_i old hk
     cases he
     have HF:gc Al k=.bx old:=by rw [<-h k (by simp)];exact hk
     simp only [Au.effP,h1,h2,hk,HF]
     exact ⟨trivial,fun h=>h⟩
    .cases he
   .rename_i c0 k g len n i off h1 h2
    split at he
    .rename_i g' n' l hk
     split at he
     .rename_i e hl
      cases he
      have HF:gc Al k=.rw g' n' l:=by rw [<-h k (by simp)];exact hk
      simp only [Au.effP,h1,h2,hk,HF,hl]
      exact ⟨trivial,fun h=>h⟩
     .cases he
    .rename_i g' n' l hk
     split at he
     .rename_i e hl
      cases he
      have HF:gc Al k=.rn g' n' l:=by rw [<-h k (by simp)];exact hk
      simp only [Au.effP,h1,h2,hk,HF,hl]
      exact ⟨trivial,fun h=>h⟩
     .cases he
    .cases he
   .cases he
  case ap x y n bytes=>
   simp only [Au.eff] at he ⊢
   split at he
   .rename_i l2 h1
    split at he
    .rename_i α' kc nx h2
     cases he
     have Gi:sl Al (f y)=some l2:=by rw [<-EL (hp:=hp) (fun k hk=>h k (by simp [hk]))];exact h1
     have EY:HQ Al 0 id n (f x) l2=some (U,kc,nx):=by rw [<-Nb (hp:=hp) (fun k hk=>h k (by simp [hk]))];exact h2
     simp only [Au.effP,h1,Gi,EY]
     exact ⟨trivial,fun h=>h⟩
    .cases he
   .cases he
  case aps x y=>
   simp only [Au.eff] at he ⊢
   split at he
   .rename_i b h1
    split at he
    .rename_i α' kc nx h2
     cases he
     have EY:HQ Al 0 id 1 (f x) (Ec b)=some (U,kc,nx):=by rw [<-Nb (hp:=hp) h];exact h2
     simp only [Au.effP,h1,EY]
     exact ⟨trivial,fun h=>h⟩
    .cases he
   .cases he
  all_goals simp [Au.isV] at hv
/-! ### The operations of such a region -/
end
section
variable {P:Program} {n0 N1 i:Nat} {o:DO} {env g9:EN} {hp Al:CH} {K:AV->CH->List Nat->Bool->Prop}
section
variable {f:FuncId} {args:List AV} {G:Bool} {bf:List Nat} {K':AV->CH->List Nat->Bool->Prop} {id:Nat}
theorem LJ {K:AV->Prop} (hk:∀r,K r->∀k,(k<n0∨∃j∈bf,k=n0+j)->gc hp k=gc Al k) (h:AC P f n0 bf hp N1 args G K):AC P f n0 bf Al N1 args G K:=by
 obtain ⟨r,h1,h2⟩:=h
 exact ⟨r,fun g hq hh=>h1 g hq fun k HF=>(hh k HF).trans (hk r h2 k HF).symm,h2⟩
theorem DV {K K':AV->Prop} (hk:∀r,K r->K' r) (h:AC P f n0 bf hp N1 args G K):AC P f n0 bf hp N1 args G K':=by
 obtain ⟨r,h1,h2⟩:=h
 exact ⟨r,h1,hk r h2⟩
theorem Ji {K:AV->Prop} (h:AC P f n0 bf hp N1 args G K):∃r,AC P f n0 bf hp N1 args G (fun r'=>r'=r)∧K r:=by
 obtain ⟨r,h1,h2⟩:=h
 exact ⟨r,⟨r,h1,rfl⟩,h2⟩
theorem Tj {hp Al:CH} {n0:Nat} {ks:List Nat} (hk:∀k,k<n0->gc hp k=gc Al k):∀{ws:CH},JQ hp n0 ks ws->JQ Al n0 ks ws
 | [],_=>trivial
 | (k,c)::r,h=>⟨h.1,by rw [<-hk k h.1];exact h.2.1,h.2.2.1,Tj hk h.2.2.2⟩
theorem UW {K:AV->CH->Prop} (hk:∀r ws,K r ws->∀k,(k<n0∨∃j∈bf,k=n0+j)->gc hp k=gc Al k) (h:Aq P f n0 bf hp N1 args id K):Aq P f n0 bf Al N1 args id K:=by
 rcases h with ⟨r,h1,h2⟩ | ⟨m,l,h1,h2⟩ | ⟨r,ws,h0,h3,h1,h2⟩
 .exact .inl ⟨r,fun hq hh=>h1 hq fun k HF=>(hh k HF).trans (hk r _ h2 k HF).symm,h2⟩
 .exact .inr (.inl ⟨m,l,fun hq hh=>h1 hq fun k HF=>(hh k HF).trans (hk _ _ h2 k HF).symm,h2⟩)
 .exact .inr (.inr ⟨r,ws,Tj (fun k HF=>hk _ _ h2 k (.inl HF)) h0,h3,fun hq hh=>h1 hq fun k HF=>(hh k HF).trans (hk _ _ h2 k HF).symm,h2⟩)
theorem JM {K K':AV->CH->Prop} (hk:∀r ws,K r ws->K' r ws) (h:Aq P f n0 bf hp N1 args id K):Aq P f n0 bf hp N1 args id K':=by
 rcases h with ⟨r,h1,h2⟩ | ⟨m,l,h1,h2⟩ | ⟨r,ws,h0,h3,h1,h2⟩
 .exact .inl ⟨r,h1,hk _ _ h2⟩
 .exact .inr (.inl ⟨m,l,h1,hk _ _ h2⟩)
 .exact .inr (.inr ⟨r,ws,h0,h3,h1,hk _ _ h2⟩)
theorem Rr {K:AV->CH->Prop} (h:Aq P f n0 bf hp N1 args id K):∃r ws,Aq P f n0 bf hp N1 args id (fun r' r8=>r'=r∧r8=ws)∧K r ws:=by
 rcases h with ⟨r,h1,h2⟩ | ⟨m,l,h1,h2⟩ | ⟨r,ws,h0,h3,h1,h2⟩
 .exact ⟨_,_,.inl ⟨r,h1,rfl,rfl⟩,h2⟩
 .exact ⟨_,_,.inr (.inl ⟨m,l,h1,rfl,rfl⟩),h2⟩
 .exact ⟨_,_,.inr (.inr ⟨r,ws,h0,h3,h1,rfl,rfl⟩),h2⟩
theorem Au.cases_c (o:Au):(∃f xs,o=.cl f xs)∨(∃f xs,o=.cc f xs)∨o.isC=false:=by
 cases o<;>first | exact .inl ⟨_,_,rfl⟩ | exact .inr (.inl ⟨_,_,rfl⟩) | exact .inr (.inr rfl)
theorem HY (h:o.o.op.isC=false):EX P n0 N1 i o env hp K=(o.o.op.effP hp (fun s=>Bf (s.ev env))∧match o.o.op.eff hp (fun s=>Bf (s.ev env)) (n0+i) with
 |some (U,ws,R)=>K U ws R false
 |none=>False):=by
 obtain ⟨⟨d,op,g⟩,un,lg,bf⟩:=o
 cases op<;>first | rfl | (simp [Au.isC] at h)
theorem Oq (h:o.o.op.isC=false):dG P n0 N1 i o env hp G K=(o.o.op.obsB env G∧if o.o.op.isV then imp G (o.o.op.pre hp fun s=>Bf (s.ev env))∧imp G ((o.o.op.val hp fun s=>Bf (s.ev env)).isSome=true)∧K (.gd G ((o.o.op.val hp fun s=>Bf (s.ev env)).getD .un)) [] (o.o.op.rd fun s=>Bf (s.ev env)) false
 else (G=true∧EX P n0 N1 i o env hp K)∨(G=false∧K (.gd false .un) [] [] false)):=by
 obtain ⟨⟨d,op,g⟩,un,lg,bf⟩:=o
 cases op<;>first | rfl | (simp [Au.isC] at h)
def Aas (n0:Nat) (bf:List Nat) (hp Al:CH) (K:AV->CH->List Nat->Bool->Prop):Prop :=
 ∀U ws R c,K U ws R c->(∀k∈R,gc hp k=gc Al k)∧(c=true->∀k,(k<n0∨∃j∈bf,k=n0+j)->gc hp k=gc Al k)
theorem SO (hs:∀s∈o.o.op.srcs,s.ev env=s.ev g9) (hk:Aas n0 o.bf hp Al K) (h:EX P n0 N1 i o env hp K):EX P n0 N1 i o g9 Al K:=by
 rcases Au.cases_c o.o.op with ⟨f,xs,e⟩ | ⟨f,xs,e⟩ | e
 .obtain ⟨⟨d,op,g⟩,un,lg,bf⟩:=o
  simp only at e
  subst e
  have hm:(xs.map fun s=>Bf (s.ev env))=xs.map fun s=>Bf (s.ev g9):=z1x fun s hx=>by rw [hs s hx]
  unfold EX at h ⊢
  simp only at h ⊢
  rw [hm] at h
  exact UW (fun r ws hr=>(hk _ _ _ _ hr).2 rfl) h
 .obtain ⟨⟨d,op,g⟩,un,lg,bf⟩:=o
  simp only at e
  subst e
  have hm:(xs.map fun s=>Bf (s.ev env))=xs.map fun s=>Bf (s.ev g9):=z1x fun s hx=>by rw [hs s (by simp [Au.srcs,hx])]
  have hf:f.ev env=f.ev g9:=hs f (by simp [Au.srcs])
  unfold EX at h ⊢
  simp only at h ⊢
  rw [hm,hf] at h
  split at h
  .exact LJ (fun r hr=>(hk _ _ _ _ hr).2 rfl) h
  .exact h.elim
 .rw [HY e] at h ⊢
  have hf:∀s∈o.o.op.srcs,Bf (s.ev env)=Bf (s.ev g9):=fun s hx=>by rw [hs s hx]
  rw [Qv hf,Rp hf] at h
  obtain ⟨h1,h2⟩:=h
  split at h2
  .rename_i U ws R he
   obtain ⟨e1,e2⟩:=Z9 he (hk _ _ _ _ h2).1
   rw [e1]
   exact ⟨e2 h1,h2⟩
  .exact h2.elim
theorem Y3 (hs:∀s∈o.o.op.srcs,s.ev env=s.ev g9) (hk:Aas n0 o.bf hp Al K) (h:dG P n0 N1 i o env hp G K):dG P n0 N1 i o g9 Al G K:=by
 rcases Au.cases_c o.o.op with ⟨f,xs,e⟩ | ⟨f,xs,e⟩ | e
 .have ho:=FQ (p:=G) hs
  obtain ⟨⟨d,op,g⟩,un,lg,bf⟩:=o
  simp only at e
  subst e
  have hm:(xs.map fun s=>Bf (s.ev env))=xs.map fun s=>Bf (s.ev g9):=z1x fun s hx=>by rw [hs s hx]
  unfold dG at h ⊢
  simp only at h ⊢
  rw [hm] at h
  exact ⟨by rw [<-ho];exact h.1,LJ (fun r hr=>(hk _ _ _ _ hr).2 rfl) h.2⟩
 .have ho:=FQ (p:=G) hs
  obtain ⟨⟨d,op,g⟩,un,lg,bf⟩:=o
  simp only at e
  subst e
  have hm:(xs.map fun s=>Bf (s.ev env))=xs.map fun s=>Bf (s.ev g9):=z1x fun s hx=>by rw [hs s (by simp [Au.srcs,hx])]
  have hf:f.ev env=f.ev g9:=hs f (by simp [Au.srcs])
  unfold dG at h ⊢
  simp only at h ⊢
  rw [hm,hf] at h
  refine ⟨by rw [<-ho];exact h.1,?_⟩
  have h2:=h.2
  split at h2
  .exact LJ (fun r hr=>(hk _ _ _ _ hr).2 rfl) h2
  .exact h2.elim
 .rw [Oq e] at h ⊢
  have hf:∀s∈o.o.op.srcs,Bf (s.ev env)=Bf (s.ev g9):=fun s hx=>by rw [hs s hx]
  obtain ⟨h1,h2⟩:=h
  refine ⟨by rw [<-FQ hs];exact h1,?_⟩
  split
  .rename_i hv
   rw [if_pos hv] at h2
   obtain ⟨g1,g2,g3⟩:=h2
   rw [MB hf] at g3
   have hr:=(hk _ _ _ _ g3).1
   rw [Ln hf,Le hr] at g1
   rw [KK hf,K5 hr] at g2 g3
   exact ⟨g1,g2,g3⟩
  .rename_i hv
   rw [if_neg hv] at h2
   exact h2.imp (fun ⟨a,b⟩=>⟨a,SO hs hk b⟩) id
theorem Ag6 (hs:∀s∈o.o.op.srcs,s.ev env=s.ev g9) (hg:∀t i7,o.o.g=some (t,i7)->ge env t=ge g9 t) (hk:Aas n0 o.bf hp Al K) (h:Mg P n0 N1 i o env hp K):Mg P n0 N1 i o g9 Al K:=by
 unfold Mg at h ⊢
 split
 .rename_i e
  rw [e] at h
  exact ⟨by rw [<-FQ hs];exact h.1,SO hs hk h.2⟩
 .rename_i t i7 e
  rw [e] at h
  simp only at h
  rw [hg t i7 e] at h
  split
  .rename_i x hx
   rw [hx] at h
   exact Y3 hs hk h
  .rename_i c x hx
   rw [hx] at h
   exact Y3 hs hk h
  .rename_i hx
   rw [hx] at h
   exact Y3 hs hk h
  .rename_i hx1 GX hx3
   split at h
   .rename_i x hx;exact hx1 _ hx
   .rename_i c x hx;exact GX _ _ hx
   .rename_i hx;exact hx3 hx
   .exact h
theorem Jq (hK:∀U ws R c,K U ws R c->K' U ws R c) (h:EX P n0 N1 i o env hp K):EX P n0 N1 i o env hp K':=by
 rcases Au.cases_c o.o.op with ⟨f,xs,e⟩ | ⟨f,xs,e⟩ | e
 .obtain ⟨⟨d,op,g⟩,un,lg,bf⟩:=o
  simp only at e
  subst e
  exact JM (K:=fun r ws=>K r ws [] true) (K':=fun r ws=>K' r ws [] true) (fun r ws hr=>hK _ _ _ _ hr) h
 .obtain ⟨⟨d,op,g⟩,un,lg,bf⟩:=o
  simp only at e
  subst e
  unfold EX at h ⊢
  simp only at h ⊢
  split at h
  .exact DV (fun r hr=>hK _ _ _ _ hr) h
  .exact h.elim
 .rw [HY e] at h ⊢
  refine ⟨h.1,?_⟩
  have h2:=h.2
  split at h2
  .exact hK _ _ _ _ h2
  .exact h2.elim
theorem PW (h:EX P n0 N1 i o env hp K):∃U ws R c,EX P n0 N1 i o env hp (fun α' r8 R' c'=>α'=U∧r8=ws∧R'=R∧c'=c)∧K U ws R c:=by
 rcases Au.cases_c o.o.op with ⟨f,xs,e⟩ | ⟨f,xs,e⟩ | e
 .obtain ⟨⟨d,op,g⟩,un,lg,bf⟩:=o
  simp only at e
  subst e
  obtain ⟨r,ws,h1,h2⟩:=Rr (K:=fun r ws=>K r ws [] true) h
  exact ⟨r,ws,[],true,JM (K':=fun r' r8=>r'=r∧r8=ws∧([]:List Nat)=[]∧true=true) (fun _ _ e=>⟨e.1,e.2,rfl,rfl⟩) h1,h2⟩
 .obtain ⟨⟨d,op,g⟩,un,lg,bf⟩:=o
  simp only at e
  subst e
  unfold EX at h ⊢
  simp only at h ⊢
  split at h
  .obtain ⟨r,h1,h2⟩:=Ji h
   exact ⟨_,_,_,_,DV (fun r' e=>⟨e,rfl,rfl,rfl⟩) h1,h2⟩
  .exact h.elim
 .rw [HY e] at h
  obtain ⟨h1,h2⟩:=h
  split at h2
  .rename_i U ws R he
   refine ⟨U,ws,R,false,?_,h2⟩
   rw [HY e,he]
   exact ⟨h1,rfl,rfl,rfl,rfl⟩
  .exact h2.elim
theorem RE (h:dG P n0 N1 i o env hp G K):∃U ws R c,dG P n0 N1 i o env hp G (fun α' r8 R' c'=>α'=U∧r8=ws∧R'=R∧c'=c)∧K U ws R c:=by
 rcases Au.cases_c o.o.op with ⟨f,xs,e⟩ | ⟨f,xs,e⟩ | e
 .obtain ⟨⟨d,op,g⟩,un,lg,bf⟩:=o
  simp only at e
  subst e
  obtain ⟨r,h1,h2⟩:=Ji h.2
  exact ⟨_,_,_,_,⟨h.1,DV (fun r' e=>⟨by rw [e],rfl,rfl,rfl⟩) h1⟩,h2⟩
 .obtain ⟨⟨d,op,g⟩,un,lg,bf⟩:=o
  simp only at e
  subst e
  unfold dG at h ⊢
  simp only at h ⊢
  obtain ⟨h0,h⟩:=h
  split at h
  .obtain ⟨r,h1,h2⟩:=Ji h
   exact ⟨_,_,_,_,⟨h0,DV (fun r' e=>⟨by rw [e],rfl,rfl,rfl⟩) h1⟩,h2⟩
  .exact h.elim
 .rw [Oq e] at h
  obtain ⟨h1,h2⟩:=h
  split at h2
  .rename_i hv
   refine ⟨_,_,_,_,?_,h2.2.2⟩
   rw [Oq e,if_pos hv]
   exact ⟨h1,h2.1,h2.2.1,rfl,rfl,rfl,rfl⟩
  .rename_i hv
   rcases h2 with ⟨a,b⟩ | ⟨a,b⟩
   .obtain ⟨U,ws,R,c,c1,c2⟩:=PW b
    refine ⟨U,ws,R,c,?_,c2⟩
    rw [Oq e,if_neg hv]
    exact ⟨h1,.inl ⟨a,c1⟩⟩
   .refine ⟨_,_,_,_,?_,b⟩
    rw [Oq e,if_neg hv]
    exact ⟨h1,.inr ⟨a,rfl,rfl,rfl,rfl⟩⟩
theorem Aav (h:Mg P n0 N1 i o env hp K):∃U ws R c,Mg P n0 N1 i o env hp (fun α' r8 R' c'=>α'=U∧r8=ws∧R'=R∧c'=c)∧K U ws R c:=by
 unfold Mg at h ⊢
 split at h
 .obtain ⟨U,ws,R,c,c1,c2⟩:=PW h.2
  exact ⟨U,ws,R,c,⟨h.1,c1⟩,c2⟩
 .split at h
  .exact RE h
  .exact RE h
  .exact RE h
  .exact h.elim
theorem N5 (hK:∀U ws R c,K U ws R c->K' U ws R c) (h:dG P n0 N1 i o env hp G K):dG P n0 N1 i o env hp G K':=by
 rcases Au.cases_c o.o.op with ⟨f,xs,e⟩ | ⟨f,xs,e⟩ | e
 .obtain ⟨⟨d,op,g⟩,un,lg,bf⟩:=o
  simp only at e
  subst e
  exact ⟨h.1,DV (fun r hr=>hK _ _ _ _ hr) h.2⟩
 .obtain ⟨⟨d,op,g⟩,un,lg,bf⟩:=o
  simp only at e
  subst e
  unfold dG at h ⊢
  simp only at h ⊢
  obtain ⟨h0,h⟩:=h
  refine ⟨h0,?_⟩
  split at h
  .exact DV (fun r hr=>hK _ _ _ _ hr) h
  .exact h.elim
 .rw [Oq e] at h ⊢
  obtain ⟨h1,h2⟩:=h
  refine ⟨h1,?_⟩
  split
  .rename_i hv
   rw [if_pos hv] at h2
   exact ⟨h2.1,h2.2.1,hK _ _ _ _ h2.2.2⟩
  .rename_i hv
   rw [if_neg hv] at h2
   exact h2.imp (fun ⟨a,b⟩=>⟨a,Jq hK b⟩) (fun ⟨a,b⟩=>⟨a,hK _ _ _ _ b⟩)
theorem PR (hK:∀U ws R c,K U ws R c->K' U ws R c) (h:Mg P n0 N1 i o env hp K):Mg P n0 N1 i o env hp K':=by
 unfold Mg at h ⊢
 split at h
 .exact ⟨h.1,Jq hK h.2⟩
 .split at h
  .exact N5 hK h
  .exact N5 hK h
  .exact N5 hK h
  .exact h
end
end
section
variable {P:Program} {n0 N1 i:Nat} {o:DO} {env:EN} {hp:CH} {K K':AV->CH->List Nat->Bool->Prop}
theorem RZ (h:JA P n0 N1 i o env hp K):EX P n0 N1 i o env hp K:=by
 unfold JA at h
 split at h
 .rename_i hv
  have hc:o.o.op.isC=false:=by
   revert hv
   generalize o.o.op=op
   intro hv
   cases op<;>first | rfl | (simp [Au.isV] at hv)
  rw [HY hc]
  obtain ⟨h1,h2⟩:=KR h
  have e:o.o.op.eff hp (fun s=>Bf (s.ev env)) (n0+i)=match o.o.op.val hp (fun s=>Bf (s.ev env)) with
   |some U=>some (U,[],o.o.op.rd fun s=>Bf (s.ev env))
   |none=>none:=by
   revert hv
   generalize o.o.op=op
   intro hv
   cases op<;>first | rfl | (simp [Au.isV] at hv)
  have e2:o.o.op.effP hp (fun s=>Bf (s.ev env))=o.o.op.pre hp fun s=>Bf (s.ev env):=by
   revert hv
   generalize o.o.op=op
   intro hv
   cases op<;>first | rfl | (simp [Au.isV] at hv)
  rw [e,e2]
  refine ⟨h1,?_⟩
  revert h2
  generalize o.o.op.val hp (fun s=>Bf (s.ev env))=x
  intro h2
  cases x with
  |none=>exact h2.elim
  |some U=>exact h2
 .exact h
theorem Sc (hK:∀U ws R c,K U ws R c->K' U ws R c) (h:JA P n0 N1 i o env hp K):JA P n0 N1 i o env hp K':=by
 unfold JA at h ⊢
 split
 .rename_i hv
  rw [hv] at h
  exact Nj (fun U h=>hK _ _ _ _ h) h
 .rename_i hv
  rw [hv] at h
  exact Jq hK h
theorem Wm (h:Ds P n0 N1 i o env hp K):Mg P n0 N1 i o env hp K:=by
 unfold Ds at h
 split at h
 .rename_i e
  unfold Mg
  rw [e]
  exact ⟨h.1,RZ h.2⟩
 .exact h
theorem Uo (hK:∀U ws R c,K U ws R c->K' U ws R c) (h:Ds P n0 N1 i o env hp K):Ds P n0 N1 i o env hp K':=by
 unfold Ds at h ⊢
 split at h
 .exact ⟨h.1,Sc hK h.2⟩
 .exact PR hK h
theorem MO:∀(l:List DO) (i:Nat) (env:EN) (hp:CH) (lg:List LE) (K K':EN->CH->Prop),(∀e h,K e h->K' e h)->Mq P n0 N1 i l env hp lg K->Mq P n0 N1 i l env hp lg K'
 | [],i,env,hp,lg,K,K',hK,h=>hK _ _ h
 |o::r,i,env,hp,lg,K,K',hK,h=>Uo (fun U ws R c ⟨h1,h2⟩=>⟨h1,MO r _ _ _ _ K K' hK h2⟩) h
theorem Qd:∀(l:List DO) (i:Nat) (env:EN) (hp:CH) (lg:List LE) (K:EN->CH->Prop),Mq P n0 N1 i l env hp lg K->vcD P n0 N1 i l env hp lg K
 | [],i,env,hp,lg,K,h=>h
 |o::r,i,env,hp,lg,K,h=>PR (fun U ws R c ⟨h1,h2⟩=>⟨h1,by
  have:=Qd r _ _ _ _ K h2
  cases hl:o.lg<;>rw [hl] at this<;>exact this⟩) (Wm h)
end
