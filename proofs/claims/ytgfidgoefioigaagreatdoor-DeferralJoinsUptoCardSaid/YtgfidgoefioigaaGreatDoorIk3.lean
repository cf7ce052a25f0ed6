/- Proof. Conditions: none. -/
import Derived.Laws.BytesString
import Derived.Laws.BytesArg
import Derived.Test.YtgfidgoefioigaaGreatDoorIk2
open List renaming length_eq_zero_iff->z1i,mem_cons->zh
open Option renaming some->zi,map_none->zr,map_some->z7,map_eq_some_iff->z1n
open Nat renaming mul_comm->z1m
open Array renaming ext'->z1u
open List renaming getElem?_eq_getElem->zlg
namespace Go.Eng
set_option linter.all false
section
variable {P:Program} {C:Ctx} {st:St} {h:HP} {J:RO} {a:Act} {w:World} {p:Prop} {t e:TypeId} {hp:CH} {n k len z:Nat} {l:List (List AV)} {v:Value} {α β:AV}
theorem RI (S:Sat C st h J a w) (hp:p):∀(ps:List (Nat×Operand)) (l:List (Nat×Nat×Bj)),Kr P C.N t ps=some l ->
 Vn st.env p (l.map (·.2.2))->l.length=ps.length∧∀(j:Nat) q i x,l[j]?=some q->ps[j]?=some (i,x)->(∃fd z,MH P t i=some fd∧Ef P fd.type=some z∧q.1=fd.offset∧q.2.1=z)∧AW h J (Bf (q.2.2.ev st.env)) (a.eval x):=by
 intro ps
 induction ps with
 |nil=>intro l e o;simp [Kr] at e;subst e;exact ⟨rfl,fun j q i x h1=>by simp at h1⟩
 |cons y ps ih=>
  intro l e o
  obtain ⟨i,x⟩:=y
  unfold Kr at e
  split at e
  .rename_i fd s l' e1 e2 e3
   split at e
   .rename_i z e4
    cases e
    obtain ⟨o1,o2⟩:=o
    obtain ⟨i1,i2⟩:=ih l' e3 o2
    refine ⟨by simp [i1],fun j q i' x' h1 h2=>?_⟩
    cases j with
    |zero=>
     simp at h1 h2
     obtain ⟨rfl,rfl⟩:=h2
     subst h1
     exact ⟨⟨fd,z,e1,e4,rfl,rfl⟩,A1 S hp e2 o1⟩
    |succ j=>exact i2 j q i' x' (by simpa using h1) (by simpa using h2)
   .cases e
  .cases e
theorem ZD {d:Nat} {xs ys:List Value} {fs:List Field}:∀(o:Nat) (ks:List Nat) (l l':List AV) (e:Bool),Hz P o fs=some ks->eqc ks l l'=some e ->
 Bv h J l (xs.drop o)->Bv h J l' (ys.drop o)->(Op.eqFields (d+1) xs.toArray ys.toArray fs).run P w=.ok e w:=by
 induction fs with
 |nil=>
  intro o ks l l' e hk he _ _
  simp [Hz] at hk
  subst hk
  cases l<;>cases l'<;>simp [eqc] at he
  subst he
  simp [Op.eqFields]
 |cons f fs ih=>
  intro o ks l l' e hk he rx ry
  have o9 : ∀ c ks', (c = 0 ∧ (∃ k, P.underlying f.type = some (.int k)) ∨ c = 3 ∧ P.underlying f.type = some .string ∨ c = 1 ∧ P.underlying f.type = some .bool) -> Hz P (o + 1) fs = some ks' -> f.offset = o -> f.name ≠ "_" -> ks = c :: ks' ->
   (Op.eqFields (d+1) xs.toArray ys.toArray (f::fs)).run P w=.ok e w:=by
   intro c ks' hc w5 ho hn Dn
   subst Dn
   cases l with
   |nil=>cases l'<;>simp [eqc] at he
   |cons α l=>
    cases l' with
    |nil=>simp [eqc] at he
    |cons β l'=>
     unfold eqc at he
     split at he
     .rename_i e1 r h1 h2
      cases he
      have lx:o<xs.length:=by have:=rx.1;simp at this;omega
      have ly:o<ys.length:=by have:=ry.1;simp at this;omega
      have ra:AW h J α xs[o]:=rx.2 0 α _ rfl (by simp [lx])
      have rb:AW h J β ys[o]:=ry.2 0 β _ rfl (by simp [ly])
      have hagg:∃dd,P.underlying f.type=some dd∧(match dd with | .struct _ | .array _ _=>true | _=>false)=false:=by
       rcases hc with ⟨_,⟨k,hu⟩⟩ | ⟨_,hu⟩ | ⟨_,hu⟩<;>exact ⟨_,hu,rfl⟩
      obtain ⟨dd,hu,hnag⟩:=hagg
      have hpart:∀(zs:List Value) (hz:o<zs.length),(part f.type zs.toArray f.offset).run P w=.ok zs[o] w:=by
       intro zs hz
       have hia:(isAgg f.type).run P w=.ok false w:=by
        unfold isAgg
        rw [Sem.run_bind,run_underlying hu w]
        cases dd<;>simp_all
       simp [part,hia,ho,hz]
      have heq:(Op.equalIn (d+1) f.type xs[o] ys[o]).run P w=.ok e1 w:=by
       unfold eqk at h1
       split at h1
       .rename_i k a' k' b'
        split at h1
        .rename_i Dn
         subst Dn
         simp only [zi.injEq] at h1
         subst h1
         rw [ra.int,rb.int]
         rcases hc with ⟨_,⟨k2,hu2⟩⟩ | ⟨hx,_⟩ | ⟨hx,_⟩
         .rw [run_equalIn_int w d f.type k k2 a' b' hu2,MY]
         .cases hx
         .cases hx
        .cases h1
       .rename_i a' b'
        simp only [zi.injEq] at h1
        subst h1
        rw [ra.bool,rb.bool]
        rcases hc with ⟨hx,_⟩ | ⟨hx,_⟩ | ⟨_,hu2⟩
        .cases hx
        .cases hx
        .rw [run_equalIn_bool' w d f.type a' b' hu2]
       .rename_i a' b'
        simp only [zi.injEq] at h1
        subst h1
        rw [ra.str,rb.str]
        rcases hc with ⟨hx,_⟩ | ⟨_,hu2⟩ | ⟨hx,_⟩
        .cases hx
        .rw [run_equalIn_string w d f.type a' b' hu2,Ko]
        .cases hx
       .cases h1
      have hrest:=ih (o+1) ks' l l' r w5 h2 ⟨by have:=rx.1;simp at this ⊢;omega,fun j α v a1 a2=>rx.2 (j+1) α v (by simpa using a1) (by simp at a2 ⊢;rw [show o+(j+1)=o+1+j by omega];exact a2)⟩
       ⟨by have:=ry.1;simp at this ⊢;omega,fun j α v a1 a2=>ry.2 (j+1) α v (by simpa using a1) (by simp at a2 ⊢;rw [show o+(j+1)=o+1+j by omega];exact a2)⟩
      simp only [Op.eqFields,hn,ne_eq,not_false_eq_true,if_true,Sem.run_bind,hpart xs lx,hpart ys ly,Result.andThen_ok,heq,Sem.run_ite]
      cases e1
      .simp
      .simp [hrest]
     .cases he
  unfold Hz at hk
  split at hk
  .rename_i k l0 hu w5
   split at hk
   .rename_i hc;cases hk;exact o9 0 l0 (.inl ⟨rfl,k,hu⟩) w5 hc.1 hc.2 rfl
   .cases hk
  .rename_i l0 hu w5
   split at hk
   .rename_i hc;cases hk;exact o9 3 l0 (.inr (.inl ⟨rfl,hu⟩)) w5 hc.1 hc.2 rfl
   .cases hk
  .rename_i l0 hu w5
   split at hk
   .rename_i hc;cases hk;exact o9 1 l0 (.inr (.inr ⟨rfl,hu⟩)) w5 hc.1 hc.2 rfl
   .cases hk
  .cases hk
theorem Tr (S:Sat C st h J a w) (hp:p) {lo hi:Option Operand} {lo' Ly:Option Bj}
 (elo:Iw C.N lo=some lo') (s7:Iw C.N hi=some Ly) (olo:obo st.env p lo') (ohi:obo st.env p Ly) {len cap:Nat} (NV:len<=cap) (isS:Bool)
 {x y:Int} (hx:Hl (fun s=>Bf (s.ev st.env)) lo'=some x) (hy:Gv (fun s=>Bf (s.ev st.env)) len Ly=some y) (h0:0<=x) (h1:x<=y) (h2:y<=len) :
 (Instr.sliceBounds isS len cap (lo.map a.eval) (hi.map a.eval) none).run P w=.ok (x.toNat,y.toNat,cap) w:=by
 have intv:∀α n v,WU α=some n->AW h J α v->∃k,v=.int k n:=by
  intro α n v e r
  cases α<;>simp [WU] at e
  subst e
  exact ⟨_,r.int⟩
 have elen:((len:Int)).toNat=len:=by omega
 cases lo with
 |none=>
  simp only [Iw,zi.injEq] at elo
  subst elo
  simp only [Hl,zi.injEq] at hx
  subst hx
  cases hi with
  |none=>
   simp only [Iw,zi.injEq] at s7
   subst s7
   simp only [Gv,zi.injEq] at hy
   subst hy
   simp [Instr.sliceBounds]
  |some hi=>
   cases ec:Br C.N hi with
   |none=>simp [Iw,ec] at s7
   |some s=>
    simp [Iw,ec] at s7
    subst s7
    obtain ⟨k,hk⟩:=intv _ _ _ hy (A1 S hp ec ohi)
    simp only [zr,z7,hk]
    simp [Instr.sliceBounds,run_sliceBound w k y cap _ (by omega) (by omega)]
 |some lo=>
  cases ecl:Br C.N lo with
  |none=>simp [Iw,ecl] at elo
  |some sl=>
   simp [Iw,ecl] at elo
   subst elo
   obtain ⟨kl,Vv⟩:=intv _ _ _ hx (A1 S hp ecl olo)
   cases hi with
   |none=>
    simp only [Iw,zi.injEq] at s7
    subst s7
    simp only [Gv,zi.injEq] at hy
    subst hy
    simp only [zr,z7,Vv]
    simp [Instr.sliceBounds,run_sliceBound w kl x len _ (by omega) (by omega)]
   |some hi=>
    cases ec:Br C.N hi with
    |none=>simp [Iw,ec] at s7
    |some s=>
     simp [Iw,ec] at s7
     subst s7
     obtain ⟨k,hk⟩:=intv _ _ _ hy (A1 S hp ec ohi)
     simp only [z7,Vv,hk]
     simp [Instr.sliceBounds,run_sliceBound w k y cap _ (by omega) (by omega),run_sliceBound w kl x y.toNat _ (by omega) (by omega)]
theorem Acl (m:SatH h J hp n w) {g n':Nat} (r:AW h J (.rw k g len) v) (hk:gc hp k=.sh g n' l) (hle:len<=l.length) :
 Bm h (.ds (l.take len)) v∧v.oneCell'=true:=by
 have Dc:=m.ch k
 rw [hk] at Dc
 obtain ⟨ob,cap,h1,h2,EH,h3,h4,h5⟩:=Dc
 cases r with
 |pu _ _ p=>cases p
 |rw _ _ _ i6 a o7 e1 NV ha=>
  rw [h1] at e1
  cases e1
  refine ⟨?_,rfl⟩
  have AZ:(l.take len).length=len:=by rw [List.length_take];omega
  have huse:∃us:Nat->Nat->Value,∀b,ob=some b->∀(j:Nat) x (q:Nat) α,l[j]?=some x->x[q]?=some α->Ea h b (n'*j+q)=some (us j q)∧Bm h α (us j q):=by
   cases ob with
   |none=>exact ⟨fun _ _=>undef,fun b hb=>by cases hb⟩
   |some b=>
    obtain ⟨vs,ty,fr,a1,a3⟩:=h5 b rfl
    refine ⟨fun j q=>(vs[n'*j+q]?).getD undef,fun b' hb' j x q α g1 g2=>?_⟩
    cases hb'
    obtain ⟨u,z1,z2⟩:=a3 j x q α g1 g2
    have:Ea h b (n'*j+q)=some u:=by simp [Ea,a1,z1]
    simp only [z1,Option.getD_some]
    exact ⟨this,z2⟩
  obtain ⟨us,hus⟩:=huse
  have key:Bm h (.ds (l.take len)) (.slice a (l.take len).length cap):=by
   by_cases B1:l.take len=[]
   .rw [B1]
    exact .ds [] 0 a cap (fun _ _=>undef) (by simp) (fun j e h=>by simp at h) (fun j e q α h=>by simp at h) (fun h=>absurd rfl h)
   .obtain ⟨b,hb⟩:∃b,ob=some b:=by
     cases ob with
     |none=>
      have:=h4 rfl
      have:len=0:=by omega
      subst this
      simp at B1
     |some b=>exact ⟨b,rfl⟩
    refine .ds _ n' a cap us (by omega) (fun j e h=>h3 j e (Bs h).1) (fun j e q α g1 g2=>(hus b hb j e q α (Bs g1).1 g2).2) fun _=>⟨b,0,ha b hb,fun j e q α g1 g2=>?_⟩
    rw [Nat.zero_add]
    exact (hus b hb j e q α (Bs g1).1 g2).1
  rw [AZ] at key
  exact key
theorem Aak (m:SatH h J hp n w) (r:AW h J α v):AW h J (shd hp α) v:=by
 unfold shd
 split
 .exact r
 .exact r
 .split
  .rename_i g' n' l hk
   split
   .rename_i hc
    obtain ⟨rfl,hle⟩:=hc
    exact .pu _ _ (Acl m r hk hle).1
   .exact r
  .exact r
 .exact r
theorem Ae9 (hl:sl hp α=some l):sl hp (shd hp α)=some l:=by
 unfold shd
 split
 .exact hl
 .exact hl
 .split
  .rename_i k g len g' n' l' hk
   split
   .rename_i hc
    simp [sl,hk,hc] at hl ⊢
    exact hl
   .exact hl
  .exact hl
 .exact hl
theorem Aax (mm:SatH h J hp n w) (hl:sl hp α=some l) {a:Option Addr} {cap x y:Nat}
 (r:AW h J α (.slice a l.length cap)) (hc:l.length<=cap) (hxy:x<=y) (hy:y<=l.length) (hn:∀e∈l,e.length=z) (hv:AY z α x y=some β) :
 AW h J β (.slice (if cap=x then a else a.map (·.add (x*z))) (y - x) (cap - x)):=by
 cases α with
 |ds l'=>
  simp only [sl,zi.injEq] at hl
  subst hl
  simp only [AY,zi.injEq] at hv
  subst hv
  refine .pu _ _ ?_
  have AZ:((l'.take y).drop x).length=y - x:=by simp;omega
  rw [<-AZ]
  cases r with
  |pu _ _ p=>
   cases p with
   |ds _ q0 _ _ us Qx hq Am hm=>
    have get:∀(j:Nat) e,((l'.take y).drop x)[j]?=some e->l'[x+j]?=some e:=by
     intro j e he
     rw [List.getElem?_drop] at he
     exact (Bs he).1
    refine .ds _ q0 _ _ (fun j q=>us (x+j) q) (by omega) (fun j e he=>hq _ e (get j e he)) (fun j e q γ h1 h2=>Am _ e q γ (get j e h1) h2) fun B1=>?_
    have hl':l'≠[]:=by intro e;subst e;simp at B1
    have hxl:x<l'.length:=by
     rcases Nat.lt_or_ge x l'.length with h | h
     .exact h
     .exfalso;apply B1;simp;omega
    obtain ⟨b,o,ea,hx⟩:=hm hl'
    subst ea
    have hz:q0=z:=by
     have e1:=hq 0 l'[0] (by simp)
     have e2:=hn l'[0] (List.getElem_mem _)
     omega
    subst hz
    rw [if_neg (by omega)]
    refine ⟨b,o+x*q0,by simp [Addr.add_lit],fun j e q γ h1 h2=>?_⟩
    have:=hx (x+j) e q γ (get j e h1) h2
    rw [show o+q0*(x+j)+q=o+x*q0+q0*j+q by rw [Nat.mul_add,z1m q0 x];omega] at this
    exact this
 |e0=>
  simp only [sl,zi.injEq] at hl
  subst hl
  simp only [AY,zi.injEq] at hv
  subst hv
  simp at hy
  subst hy
  have:x=0:=by omega
  subst this
  cases r with
  |pu _ _ p=>
   cases p
   simp
   exact .pu _ _ (.e0 _)
 |rw k g len=>
  cases x with
  |succ x=>
   simp only [AY,zi.injEq] at hv
   subst hv
   cases r with
   |pu _ _ p=>cases p
   |rw _ _ _ _ _ ob e hle ha=>
    refine .rf _ _ _ _ _ _ _ ob e (by omega) fun b hb BL=>?_
    rw [ha b hb,if_neg (by omega)]
    simp [Addr.add_lit,z1m]
  |zero=>
   simp only [AY,zi.injEq] at hv
   subst hv
   cases r with
   |pu _ _ p=>cases p
   |rw _ _ _ _ _ ob e hle ha=>
    refine .rw _ _ _ _ _ ob e (by omega) fun b hb=>?_
    rw [ha b hb]
    split
    .rfl
    .simp [Addr.add]
 |rf k g n' off len=>
  simp only [AY] at hv
  split at hv
  .rename_i hz
   subst hz
   simp only [zi.injEq] at hv
   subst hv
   generalize p7:cap=cap0 at r
   cases r with
   |pu _ _ p=>cases p
   |rf _ _ _ _ _ cp _ ob e hle ha=>
    rw [Nat.sub_sub]
    refine .rf _ _ _ _ _ _ _ ob e (by omega) fun b hb BL=>?_
    rw [ha b hb (by omega),if_neg (by omega)]
    simp [Addr.add_lit,Nat.mul_add,z1m]
  .cases hv
 |_=>simp [AY] at hv
theorem KV {N:Nat} {l:List Operand} {x x':Bj} (e:srcs N l=some [x,x']):∃y y',l=[y,y']∧Br N y=some x∧Br N y'=some x':=by
 match l with
 | []=>simp [srcs] at e
 | [y]=>cases h:Br N y<;>simp [srcs,h] at e
 | [y,y']=>
  cases h:Br N y<;>cases h':Br N y'<;>simp [srcs,h,h'] at e
  exact ⟨y,y',rfl,by rw [h,e.1],by rw [h',e.2]⟩
 |y::y'::y2::r=>
  cases h:Br N y<;>cases h':Br N y'<;>cases h2:Br N y2<;>cases h3:srcs N r<;>simp [srcs,h,h',h2,h3] at e
def MR (h:HP) (l:List (qB×AV)) (es:List MapEntry):Prop :=
 es.length=l.length∧∀(j:Nat) x α,l[j]?=some (x,α)->∃u born,es[j]?=some ⟨.string x,u,born⟩∧Bm h α u
theorem MR.cons {x:qB} {l:List (qB×AV)} {es:List MapEntry} (m:MR h ((x,α)::l) es):∃u born r,es=⟨.string x,u,born⟩::r∧Bm h α u∧MR h l r:=by
 obtain ⟨h1,h2⟩:=m
 cases es with
 |nil=>simp at h1
 |cons e r=>
  obtain ⟨u,born,h3,h4⟩:=h2 0 x α rfl
  simp at h3
  subst h3
  exact ⟨u,born,r,rfl,h4,by simpa using h1,fun j y β hj=>by
   obtain ⟨u',b',h5,h6⟩:=h2 (j+1) y β (by simpa using hj)
   exact ⟨u',b',by simpa using h5,h6⟩⟩
theorem D8 (a b:qB):(a == b)=decide (a=b):=by
 rw [Bool.eq_iff_iff,decide_eq_true_iff]
 exact MapKept.bytes_beq a b
theorem J2 (h:HP) (b:qB) (β:AV):∀(l:List (qB×AV)) (es:List MapEntry) (i:Nat),MR h l es ->
 (B5 b l=none∧Instr.findNow .string (.string b) es i=some none∧D4 b β l=l++[(b,β)]) ∨
 ∃(α:AV) (j:Nat) (u:Value),B5 b l=some α∧Instr.findNow .string (.string b) es i=some (some (i+j,u))∧Bm h α u∧D4 b β l=l.set j (b,β)∧(∃born,es[j]?=some ⟨.string b,u,born⟩)
 | [],es,i,m=>by
  have:es=[]:=z1i.1 m.1
  subst this
  exact .inl ⟨rfl,rfl,rfl⟩
 | (x,α)::l,es,i,m=>by
  obtain ⟨u,born,r,rfl,hp,m2⟩:=m.cons
  by_cases hx:b=x
  .subst hx
   exact .inr ⟨α,0,u,by simp [B5],by simp [Instr.findNow,Instr.sameNow,D8],hp,by simp [D4],born,rfl⟩
  .have hs:Instr.sameNow .string (.string b) (.string x)=some false:=by
    simp only [Instr.sameNow,D8]
    simp [hx]
   rcases J2 h b β l r (i+1) m2 with ⟨h1,h2,h3⟩ | ⟨γ,j,v,h1,h2,h3,h4,h5⟩
   .exact .inl ⟨by simp [B5,hx,h1],by simp [Instr.findNow,hs,h2],by simp [D4,hx,h3]⟩
   .exact .inr ⟨γ,j+1,v,by simp [B5,hx,h1],by simp [Instr.findNow,hs,h2];omega,h3,by simp [D4,hx,h4],by simpa using h5⟩
theorem CW {α β:Type} {f:α->β}:∀{l:List α} {a b:α},(l.map f).Nodup->a∈l->b∈l->f a=f b->a=b
 | [],a,b,_,h,_,_=>by cases h
 |x::l,a,b,hn,ha,hb,e=>by
  rw [List.map_cons,List.nodup_cons] at hn
  rcases zh.1 ha with h1 | h1<;>rcases zh.1 hb with h2 | h2
  .rw [h1,h2]
  .refine absurd ?_ hn.1
   rw [<-h1,e]
   exact List.mem_map_of_mem (f:=f) h2
  .refine absurd ?_ hn.1
   rw [<-h2,<-e]
   exact List.mem_map_of_mem (f:=f) h1
  .exact CW hn.2 h1 h2 e
theorem Ta {b:qB}:∀{l:List (qB×AV)} {es:List MapEntry},MR h l es->B5 b l=none->∀x∈es,x.key≠.string b
 | [],es,m,_,x,hx=>by
  have:es=[]:=z1i.1 m.1
  subst this
  cases hx
 | (y,α)::l,es,m,hn,x,hx=>by
  obtain ⟨u,born,r,rfl,hp,m2⟩:=m.cons
  unfold B5 at hn
  split at hn
  .cases hn
  .rename_i B1
   rcases zh.1 hx with rfl | hx
   .intro e
    injection e with e
    exact B1 e.symm
   .exact Ta m2 hn x hx
theorem Aj4 {l:List (qB×AV)} (s:(Ai.mp l).sat h J w k):∃b c es b8,J k 0=some (some b,c)∧w.heap[b]?=some (.map es b8)∧MR h l es.toList:=by
 obtain ⟨b,c,es,b8,h1,h2,h3,_,h4⟩:=s
 exact ⟨b,c,es,b8,h1,h2,by simpa using h3,fun j x α hj=>by
  obtain ⟨u,born,h5,h6⟩:=h4 j x α hj
  exact ⟨u,born,by simpa using h5,h6⟩⟩
theorem X9 {l:List (qB×AV)} (s:(Ai.mp l).sat h J w k):∃b c es b8,J k 0=some (some b,c)∧w.heap[b]?=some (.map es b8)∧MR h l es.toList∧MapKept.Stamped es b8:=by
 obtain ⟨b,c,es,b8,h1,h2,h3,w9,h4⟩:=s
 exact ⟨b,c,es,b8,h1,h2,⟨by simpa using h3,fun j x α hj=>by
  obtain ⟨u,born,h5,h6⟩:=h4 j x α hj
  exact ⟨u,born,by simpa using h5,h6⟩⟩,w9⟩
theorem Acj {l:List (qB×AV)} {sn:List qB} (s:(Ai.mr l sn).sat h J w k):∃b c es b8,J k 0=some (some b,c)∧w.heap[b]?=some (.map es b8)∧MR h l es.toList:=by
 obtain ⟨b,c,es,b8,h1,h2,h3,_,h4,_⟩:=s
 exact ⟨b,c,es,b8,h1,h2,by simpa using h3,fun j x α hj=>by
  obtain ⟨u,born,h5,h6⟩:=h4 j x α hj
  exact ⟨u,born,by simpa using h5,h6⟩⟩
theorem QX (S:Sat C st h J a w) (hp:p):∀(ps:List (Nat×Operand)) (l:List (Nat×Nat×Bj)),KQ C.N z ps=some l ->
 Vn st.env p (l.map (·.2.2))->l.length=ps.length∧∀(j:Nat) q i x,l[j]?=some q->ps[j]?=some (i,x)->(q.1=i*z∧q.2.1=z)∧AW h J (Bf (q.2.2.ev st.env)) (a.eval x):=by
 intro ps
 induction ps with
 |nil=>intro l e o;simp [KQ] at e;subst e;exact ⟨rfl,fun j q i x h1=>by simp at h1⟩
 |cons y ps ih=>
  intro l e o
  obtain ⟨i0,x0⟩:=y
  unfold KQ at e
  split at e
  .rename_i s l' e1 e2
   cases e
   obtain ⟨o1,o2⟩:=o
   obtain ⟨h1,h2⟩:=ih l' e2 o2
   refine ⟨by simp [h1],fun j q i x hq hx=>?_⟩
   cases j with
   |zero=>
    simp at hq hx
    obtain ⟨rfl,rfl⟩:=hx
    subst hq
    exact ⟨⟨rfl,rfl⟩,A1 S hp e1 o1⟩
   |succ j=>exact h2 j q i x (by simpa using hq) (by simpa using hx)
  .cases e
theorem Af9 {m:Nat} {ag:Bool} (hu:P.underlying t=some (.array len e)) (hz:ZZ P e=some (m,ag)) (h1:ag=false->m=1)
 {l:List AV} {v:Value} (r:AW h J (.ag l) v) {k:IntKind} {j:Int} (h0:0<=j) (hj:j<len) (hle:j.toNat*m+m<=l.length) :
 ∃u,(Instr.index t v (.int k j)).run P w=.ok u w∧AW h J (if ag then .ag ((l.drop (j.toNat*m)).take m) else l.getD (j.toNat*m) .un) u:=by
 obtain ⟨ha,hs⟩:=Hu hz w
 have hss:(sizeOf e).run P w=.ok m w:=hs
 obtain ⟨vs,rfl,rs⟩:=r.agg
 cases ag with
 |true=>
  refine ⟨.agg ((vs.drop (j.toNat*m)).take m).toArray,?_,?_⟩
  .simp [Instr.index,asIntOf,run_underlying hu,h0,hj,hss,part,ha,List.extract_eq_take_drop]
  .simp only [if_true]
   refine AW.mkAgg ⟨by have:=rs.1;simp;omega,fun i α v h1 h2=>?_⟩
   exact rs.2 _ α v (Bk h1).1 (Bk h2).1
 |false=>
  have hm:=h1 rfl
  subst hm
  have BL:j.toNat<vs.length:=by have:=rs.1;omega
  refine ⟨vs[j.toNat],?_,?_⟩
  .simp [Instr.index,asIntOf,run_underlying hu,h0,hj,hss,part,ha,BL]
  .have hl:j.toNat<l.length:=by omega
   simp [hl]
   exact rs.2 _ _ _ (zlg hl) (zlg BL)
theorem Adv (hu:P.underlying t=some (.array len e)) (hz:Ef P e=some z)
 {kk oo:Nat} {v:Value} (r:AW h J (.bx kk oo) v) {k:IntKind} {i:Int} (h0:0<=i) (h1:i<len) :
 ∃u,(Instr.indexAt t v (.int k i)).run P w=.ok u w∧AW h J (.bx kk (oo+z*i.toNat)) u:=by
 cases r with
 |pu _ _ p=>cases p
 |bx _ _ b c e=>
  refine ⟨.pointer (some ⟨b,oo+z*i.toNat,none⟩),?_,.bx _ _ _ _ e⟩
  simp [Instr.indexAt,asIntOf,run_underlying hu,h0,h1,Instr.sureAddr,Ct hz,Addr.add_lit,z1m]
theorem Aef (r:AW h J α v) (e:s0V α=some β):β=.e0∧∃a len cap,v=.slice a len cap:=by
 cases α with
 |ds l=>cases e;refine ⟨rfl,?_⟩;cases r with | pu _ _ p=>cases p with | ds _ q0 a cap _ _ _ _ _=>exact ⟨_,_,_,rfl⟩
 |e0=>cases e;refine ⟨rfl,?_⟩;cases r with | pu _ _ p=>cases p with | e0 a=>exact ⟨_,_,_,rfl⟩
 |rw k g len=>
  cases e
  refine ⟨rfl,?_⟩
  cases r with
  |pu _ _ p=>cases p
  |rw _ _ _ cap a _ _ _ _=>exact ⟨_,_,_,rfl⟩
 |_=>cases e
theorem U8 (mm:SatH h J hp n w) (r:AW h J α v) (hl:sl hp α=some l) {b:List UInt8} (hb:byt l=some b) :
 (Conv.bytesToString v).run P w=.ok (.string ⟨b.toArray⟩) w:=by
 obtain ⟨a,cap,rfl,hc,q0,hq,hm⟩:=EJ mm r hl
 obtain ⟨xs,rfl,rfl⟩:=YK l b hb
 have l8:∀ad,a=some ad->(loadCells ad xs.length).run P w=.ok (xs.map (Value.int .u8)).toArray w:=by
  intro ad ha
  have:=run_loadCells_list (P:=P) w ad (xs.map (Value.int .u8)) (fun j v hj=>by
   have MD:j<xs.length:=by have:=(List.getElem?_eq_some_iff.1 hj).1;simpa using this
   have B1:xs.map (fun n=>[AV.i .u8 n])≠[]:=by intro e;simp at e;subst e;simp at MD
   obtain ⟨bb,o,ea,hx⟩:=hm B1
   have e1:(xs.map (fun n=>[AV.i .u8 n]))[j]?=some [AV.i .u8 xs[j]]:=by simp [MD]
   have hq1:q0=1:=by have:=hq j _ e1;simpa using this.symm
   obtain ⟨u,hu,hr⟩:=hx j _ 0 _ e1 rfl
   subst hq1
   have hr:=hr.int
   subst hr
   rw [ea] at ha
   cases ha
   rw [Addr.add_lit]
   simp only [Nat.one_mul,Nat.add_zero] at hu
   rw [hu]
   simp [MD] at hj
   exact congrArg some hj)
  simpa using this
 cases a with
 |none=>
  by_cases hxs:xs=[]
  .subst hxs
   simp [Conv.bytesToString]
   rfl
  .obtain ⟨bb,o,ea,_⟩:=hm (by simpa using hxs)
   cases ea
 |some ad=>
  simp only [List.length_map]
  rw [run_bytesToString w ad xs.length cap xs (l8 ad rfl),foldl_push_bytes]
  simp [ByteArray.empty,ByteArray.emptyWithCapacity]
  rfl
theorem PA:∀(fs:List Field) (pl:List (Nat×Nat)),fs.mapM (fun f=>(P.info? f.type).map fun i=>(f.offset,i.size))=some pl ->
 ∀(i:Nat) fd z,fs[i]?=some fd->Ef P fd.type=some z->pl[i]?=some (fd.offset,z):=by
 intro fs
 induction fs with
 |nil=>intro pl h i fd z e;simp at e
 |cons f fs ih=>
  intro pl h i fd z e hz
  simp only [List.mapM_cons,Option.bind_eq_bind,Option.pure_def] at h
  cases hi:P.info? f.type with
  |none=>simp [hi] at h
  |some inf=>
   cases hr:fs.mapM (fun f=>(P.info? f.type).map fun i=>(f.offset,i.size)) with
   |none=>simp [hi,hr] at h
   |some rest=>
    simp [hi,hr] at h
    subst h
    cases i with
    |zero=>
     simp at e
     subst e
     simp [Ef,hi] at hz
     subst hz
     rfl
    |succ i=>simpa using ih rest hr i fd z (by simpa using e) hz
theorem I8 (S:Sat C st h J a w) (hp:p) {d4:List Oper} {o:Oper} {c:Ap} (hc:P1 P C.N d4 o=some c) (hv:c.isV=true)
 (AU:c.obs st.env p) (D0:c.pre st.hp (fun s=>Bf (s.ev st.env))) {α:AV} (A3:c.val st.hp (fun s=>Bf (s.ev st.env))=some α) :
 ∃v,(execOp a.eval o).run P w=.ok (.value v) w∧AW h J α v:=by
 have j5 : ∀ (s : Sem Value) v, s.run P w = .ok v w -> (do pure (Next.value (<- s)) : Sem Next).run P w = .ok (.value v) w := fun s v e => CI e
 have mm:=S.mem
 unfold P1 at hc
 split at hc
 .rename_i x ho
  cases ex:Br C.N x with
  | none => simp [ex] at hc
  |some s=>
   simp [ex] at hc
   subst hc
   simp only [Ap.val,zi.injEq] at A3
   subst A3
   exact ⟨_,by simp [execOp,ho],A1 S hp ex AU⟩
 .rename_i x ho
  cases ex:Br C.N x with
  | none => simp [ex] at hc
  |some s=>
   simp [ex] at hc
   subst hc
   simp only [Ap.val,zi.injEq] at A3
   subst A3
   exact ⟨_,by simp [execOp,ho],A1 S hp ex AU⟩
 .rename_i c a' b ho
  split at hc
  .rename_i sc sa sb e1 e2 e3
   cases hc
   simp only [Ap.val] at A3
   unfold pkV at A3
   split at A3
   rotate_left
   .rename_i y f1 f2 f3
    cases A3
    obtain ⟨o1,o2⟩:=AU
    have r1:=A1 S hp e1 o1
    rw [f1] at r1 o2
    obtain ⟨o2,o3⟩:=o2
    have e0:=r1.bool
    have r2:=A1 S (p:=p∧true=true) ⟨hp,rfl⟩ e2 o2
    rw [f2] at r2
    refine ⟨_,?_,r2⟩
    simp [execOp,ho,e0,asBool]
   .rename_i z f1 f2 f3
    cases A3
    obtain ⟨o1,o2⟩:=AU
    have r1:=A1 S hp e1 o1
    rw [f1] at r1 o2
    obtain ⟨o2,o3⟩:=o2
    have e0:=r1.bool
    have r2:=A1 S (p:=p∧false=false) ⟨hp,rfl⟩ e3 o3
    rw [f3] at r2
    refine ⟨_,?_,r2⟩
    simp [execOp,ho,e0,asBool]
   .cases A3
   .rename_i x y z f1 f2 f3
    cases A3
    obtain ⟨o1,o2⟩:=AU
    have r1:=A1 S hp e1 o1
    rw [f1] at r1 o2
    obtain ⟨o2,o3⟩:=o2
    have e0:=r1.bool
    cases x with
    |true=>
     have r2:=A1 S (p:=p∧true=true) ⟨hp,rfl⟩ e2 o2
     rw [f2] at r2
     refine ⟨_,?_,(by simpa using r2)⟩
     simp [execOp,ho,e0,asBool]
    |false=>
     have r2:=A1 S (p:=p∧false=false) ⟨hp,rfl⟩ e3 o3
     rw [f3] at r2
     refine ⟨_,?_,(by simpa using r2)⟩
     simp [execOp,ho,e0,asBool]
  .cases hc
 . -- build
  rename_i t ps ho
  split at hc
  .rename_i i fs l e1 e2 e3
   split at hc
   .rename_i z pl ez epl
    cases ec:Ee z.cells.toList with
    | none => simp [ec] at hc
    |some zl=>
     simp [ec] at hc
     subst hc
     simp only [Ap.val] at A3
     cases hb:XN (fun s=>Bf (s.ev st.env)) zl l with
     | none => simp [hb] at A3
     |some out=>
      simp [hb] at A3
      subst A3
      obtain ⟨bl,bx⟩:=RI S hp ps.toList l e3 AU
      obtain ⟨cs,Qz,hr⟩:=Ol (a:=a) (f:=fun s=>Bf (s.ev st.env)) (places:=(pl.toArray[·]?)) l (ps.toList.map fun (i,x)=>(i,a.eval x)) zl z.cells out (by simp [bl])
       (fun j q i v h1 h2 => by
         simp only [List.getElem?_map] at h2
         cases hj:ps.toList[j]? with
         | none => rw [hj] at h2; simp at h2
         |some y=>
          rw [hj] at h2
          simp at h2
          obtain ⟨rfl,rfl⟩:=h2
          obtain ⟨⟨fd,zz,g1,g2,g3,g4⟩,g5⟩:=bx j q y.1 y.2 h1 hj
          refine ⟨?_,g5⟩
          simp only [MH,e2] at g1
          have:=PA fs.toList pl epl y.1 fd zz (by simpa using g1) g2
          simp [this,g3,g4])
       (GA ec h J) hb
      refine ⟨.agg cs,?_,by simpa using AW.mkAgg hr⟩
      simp only [execOp,ho]
      refine j5 _ _ (run_build w t _ cs ?_)
      simpa [Program.built,e1,e2,ez,epl] using Qz
   .cases hc
  .rename_i i len e e1 e2
   split at hc
   .rename_i z n ez en
    split at hc
    .rename_i l el
     cases ec:Ee z.cells.toList with
     | none => simp [ec] at hc
     |some zl=>
      simp [ec] at hc
      subst hc
      simp only [Ap.val] at A3
      cases hb:XN (fun s=>Bf (s.ev st.env)) zl l with
      | none => simp [hb] at A3
      |some out=>
       simp [hb] at A3
       subst A3
       obtain ⟨bl,bx⟩:=QX S hp ps.toList l el AU
       obtain ⟨cs,Qz,hr⟩:=Ol (a:=a) (f:=fun s=>Bf (s.ev st.env)) (places:=fun i=>some (i*n,n)) l (ps.toList.map fun (i,x)=>(i,a.eval x)) zl z.cells out (by simp [bl])
        (fun j q i v h1 h2 => by
          simp only [List.getElem?_map] at h2
          cases hj:ps.toList[j]? with
          | none => rw [hj] at h2; simp at h2
          |some y=>
           rw [hj] at h2
           simp at h2
           obtain ⟨rfl,rfl⟩:=h2
           obtain ⟨⟨g1,g2⟩,g5⟩:=bx j q y.1 y.2 h1 hj
           exact ⟨by rw [g1,g2],g5⟩)
        (GA ec h J) hb
       refine ⟨.agg cs,?_,by simpa using AW.mkAgg hr⟩
       simp only [execOp,ho]
       refine j5 _ _ ?_
       have Vu:(zeroValue t).run P w=.ok z w:=by simp [zeroValue,typeInfo,e1,ez]
       have hss:(sizeOf e).run P w=.ok n w:=Ct en w
       simp only [Instr.build,Sem.run_bind,Vu,Result.andThen_ok,run_underlying e2,hss]
       rw [show (ps.map fun x=>(x.1,a.eval x.2)).toList=ps.toList.map fun (i,x)=>(i,a.eval x) by simp]
       rw [Qz]
       rfl
    .cases hc
   .cases hc
  .cases hc
 . -- load
  rename_i t x ho
  split at hc
  .rename_i m ag s e1 e2
   split at hc
   .cases hc
   .rename_i n7
    cases hc
    simp only [Ap.val] at A3
    cases hl:Je st.hp m (Bf (s.ev st.env)) with
    | none => simp [hl] at A3
    |some cs=>
     simp [hl] at A3
     subst A3
     obtain ⟨u,h1,h2⟩:=Pw (P:=P) (t:=t) e1 (by intro e;cases ag<;>simp_all) mm (A1 S hp e2 AU) hl
     refine ⟨u,?_,by cases ag<;>simpa using h2⟩
     simp only [execOp,ho]
     exact j5 _ _ h1
  .cases hc
 . -- binOp
  rename_i op t x y yt ho
  split at hc
  .rename_i sx sy ex ey
   split at hc
   .rename_i cl ecl
    cases hc
    simp only [Ap.val] at A3
    obtain ⟨z,h1,h2⟩:=Rl (P:=P) (w:=w) (x:=x) (y:=y) ecl (A1 S hp ex AU.1) (A1 S hp ey AU.2) D0 A3
    refine ⟨z,?_,h2⟩
    simp only [execOp,ho]
    exact j5 _ _ h1
   .split at hc
    .rename_i fs hu
     have key:∀(neg:Bool) ks,Hz P 0 fs.toList=some ks->(op=.eql∧neg=false∨op=.neq∧neg=true)->P.stoodInHeld t=false∧P.eqGuardType P.depth t=false->c=.eqs neg ks sx sy ->
      ∃v,(execOp a.eval o).run P w=.ok (.value v) w∧AW h J α v:=by
      intro neg ks w5 hop CR Vw
      subst Vw
      simp only [Ap.val] at A3
      split at A3
      .rename_i l l' fx fy
       split at A3
       .rename_i e he
        cases A3
        have rx:=A1 S hp ex AU.1
        have ry:=A1 S hp ey AU.2
        rw [fx] at rx
        rw [fy] at ry
        obtain ⟨xs,hx,rx⟩:=rx.agg
        obtain ⟨ys,hy,ry⟩:=ry.agg
        have Hf:P.fieldsOf t=fs:=by simp [Program.fieldsOf,hu]
        have B6:(Op.equal t (.agg xs.toArray) (.agg ys.toArray)).run P w=.ok e w:=by
         show (Op.equalIn (9998+1+1) t _ _).run P w=_
         rw [run_equalIn_struct w (9998+1) t _ _ (by rw [Hf];exact hu) CR.1,Hf]
         exact ZD 0 ks l l' e w5 he (by simpa using rx) (by simpa using ry)
        have hgd:(eqGuard op t x y (.agg xs.toArray) (.agg ys.toArray)).run P w=.ok () w:=by
         rcases hop with ⟨rfl,_⟩ | ⟨rfl,_⟩<;>simp [eqGuard,CR.2]
        refine ⟨.bool (if neg then !e else e),?_,.pu _ _ (.b _)⟩
        simp only [execOp,ho]
        refine j5 _ _ ?_
        rw [hx,hy]
        rcases hop with ⟨rfl,rfl⟩ | ⟨rfl,rfl⟩<;>simp [hgd,binOp,B6]
       .cases A3
      .cases A3
     split at hc
     .rename_i ks w5
      split at hc
      .rename_i CR
       cases hc
       exact key false ks w5 (.inl ⟨rfl,rfl⟩) CR rfl
      .cases hc
     .rename_i ks w5
      split at hc
      .rename_i CR
       cases hc
       exact key true ks w5 (.inr ⟨rfl,rfl⟩) CR rfl
      .cases hc
     .cases hc
    .exfalso
     unfold nlC at hc
     split at hc
     .cases hc;simp [Ap.isV] at hv
     .cases hc;simp [Ap.isV] at hv
     .cases hc
    .cases hc
  .cases hc
 . -- unOp
  rename_i op t x ho
  cases ex:Br C.N x with
  | none => simp [ex] at hc
  |some s=>
   simp [ex] at hc
   subst hc
   have r:=A1 S hp ex AU
   simp only [Ap.val] at A3
   unfold unV at A3
   split at A3
   .rename_i b hb
    cases A3
    rw [hb] at r
    refine ⟨_,?_,.pu _ _ (.b _)⟩
    simp [execOp,ho,r.bool,Op.unary]
   .rename_i k n hb
    cases A3
    rw [hb] at r
    refine ⟨_,?_,.pu _ _ (.i _ _)⟩
    simp [execOp,ho,r.int,Op.unary,Op.intArith]
   .cases A3
 . -- convert
  rename_i s d x ho
  split at hc
  .rename_i sx ds k ex e1 e2
   cases hc
   have r:=A1 S hp ex AU
   simp only [Ap.val] at A3
   split at A3
   .rename_i k0 n hb
    cases A3
    rw [hb] at r
    refine ⟨_,?_,.pu _ _ (.i _ _)⟩
    simp [execOp,ho,r.int,convert,run_underlying e1,run_underlying e2,Conv.intToInt]
   .cases A3
  .rename_i sx ex e1 e2
   cases hc
   have r:=A1 S hp ex AU
   simp only [Ap.val] at A3
   split at A3
   .rename_i y hb
    cases A3
    rw [hb] at r
    refine ⟨_,?_,.pu _ _ (.s _)⟩
    simp [execOp,ho,r.str,convert,run_underlying e1,run_underlying e2]
   .cases A3
  .rename_i sx e ex e1 e2
   split at hc
   .rename_i e3
    split at hc
    .cases hc
     have r:=A1 S hp ex AU
     simp only [Ap.val] at A3
     split at A3
     .rename_i l hl
      split at A3
      .rename_i b hb
       cases A3
       have B6:=U8 (P:=P) mm r hl hb
       refine ⟨_,?_,.pu _ _ (.s _)⟩
       simp only [execOp,ho]
       refine j5 _ _ ?_
       obtain ⟨aa,cap,ev,_⟩:=EJ mm r hl
       rw [ev] at B6 ⊢
       simp [convert,run_underlying e1,run_underlying e2,run_underlying e3,B6]
      .cases A3
     .cases A3
    .cases hc
   .cases hc
  .cases hc
 . -- makeInterface
  rename_i t x ho
  split at hc
  .cases hc
  .rename_i sx d hni ex e1
   cases hc
   have r:=A1 S hp ex AU
   simp only [Ap.val,zi.injEq] at A3
   subst A3
   refine ⟨.iface t (a.eval x),?_,.fc _ _ _ r⟩
   simp only [execOp,ho]
   refine j5 _ _ ?_
   simp only [Instr.makeInterface,Sem.run_bind,run_underlying e1,Result.andThen_ok]
   cases d<;>simp_all
  .cases hc
 . -- makeFunc
  rename_i f first cap ho
  split at hc
  .rename_i hf
   cases ex:srcs C.N cap.toList with
   | none => simp [ex] at hc
   |some l=>
    simp [ex] at hc
    subst hc
    simp only [Ap.val,zi.injEq] at A3
    subst A3
    have r:=Et S hp ex AU
    refine ⟨.func (.func f) #[] (cap.toList.map a.eval).toArray,?_,.fn _ _ _ r.1 r.2⟩
    simp only [execOp,ho]
    refine j5 _ _ ?_
    have:first=#[]:=by simpa using hf
    subst this
    simp [Instr.makeFunc]
    apply z1u
    simp
  .cases hc
 . -- typeAssert
  rename_i x xt t ok ho
  split at hc
  .cases hc
  .rename_i sx d i hni ex e1 e2
   split at hc
   .rename_i z ez
    split at hc
    .rename_i J0
     cases ec:cav z with
     | none => simp [ec] at hc
     |some zz=>
      simp [ec] at hc
      subst hc
      subst J0
      have r:=A1 S hp ex AU
      have hz:=MW ec h J
      have pair:∀(α:AV) (v:Value) (b:Bool),AW h J α v->AW h J (.tp [α,.b b]) (.tuple #[v,.bool b]):=fun α v b r=>AW.mkTup (vs:=[v,.bool b]) (.cons r (.cons (.pu _ _ (.b b)) .nil))
      have Vu:(zeroValue t).run P w=.ok z w:=by simp [zeroValue,typeInfo,e2,ez]
      simp only [Ap.val] at A3
      split at A3
      .rename_i u y hb
       rw [hb] at r
       obtain ⟨v,Qy,rv⟩:=r.face
       split at A3
       .rename_i hut
        cases A3
        refine ⟨_,?_,pair _ _ _ rv⟩
        simp only [execOp,ho]
        refine j5 _ _ ?_
        rw [Qy]
        simp only [Instr.typeAssert,Sem.run_bind,run_underlying e1,Result.andThen_ok]
        cases d<;>simp_all
       .rename_i hut
        cases A3
        refine ⟨_,?_,pair _ _ _ hz⟩
        simp only [execOp,ho]
        refine j5 _ _ ?_
        rw [Qy]
        simp only [Instr.typeAssert,Sem.run_bind,run_underlying e1,Result.andThen_ok]
        cases d<;>simp_all
      .rename_i hb
       rw [hb] at r
       cases A3
       have e0:=r.nilf
       refine ⟨_,?_,pair _ _ _ hz⟩
       simp only [execOp,ho]
       refine j5 _ _ ?_
       rw [e0]
       simp only [Instr.typeAssert,Sem.run_bind,run_underlying e1,Result.andThen_ok]
       cases d<;>simp_all
      .cases A3
    .cases hc
   .cases hc
  .cases hc
 . -- extract
  rename_i x j ho
  cases ex:Br C.N x with
  | none => simp [ex] at hc
  |some s=>
   simp [ex] at hc
   subst hc
   have r:=A1 S hp ex AU
   simp only [Ap.val] at A3
   split at A3
   .rename_i l hb
    rw [hb] at r
    obtain ⟨vs,e,rs⟩:=r.tup
    obtain ⟨v,Qy⟩:=E1 rs.1 A3
    refine ⟨v,?_,rs.2 j α v A3 Qy⟩
    simp only [execOp,ho]
    refine j5 _ _ ?_
    rw [e]
    simp [Instr.extract,Qy]
   .cases A3
 . -- fieldAddr
  rename_i t x f ho
  split at hc
  .rename_i s fd ex efd
   split at hc
   .rename_i z ez
    split at hc
    .cases hc
    .rename_i h0
     cases hc
     simp only [Ap.val] at A3
     obtain ⟨u,h1,h2⟩:=L5 (P:=P) (w:=w) efd ez h0 (A1 S hp ex AU) A3
     refine ⟨u,?_,h2⟩
     simp only [execOp,ho]
     exact j5 _ _ h1
   .cases hc
  .cases hc
 . -- field
  rename_i t x f ho
  split at hc
  .rename_i s fd ex efd
   split at hc
   .rename_i m ag ez
    split at hc
    .cases hc
    .rename_i h0
     cases hc
     simp only [Ap.val] at A3
     split at A3
     .rename_i l hb
      split at A3
      .rename_i hle
       cases A3
       have r:=A1 S hp ex AU
       rw [hb] at r
       obtain ⟨u,h1,h2⟩:=UQ (P:=P) (w:=w) efd ez (by intro e;cases ag<;>simp_all) r hle
       refine ⟨u,?_,h2⟩
       simp only [execOp,ho]
       exact j5 _ _ h1
      .cases A3
     .cases A3
   .cases hc
  .cases hc
 . -- indexAddr
  rename_i t x i ho
  split at hc
  .rename_i sx si e ex ei ee
   cases ez:Ef P e with
   | none => simp [ez] at hc
   |some z=>
    simp [ez] at hc
    subst hc
    simp only [Ap.val] at A3
    simp only [Ap.pre] at D0
    split at A3
    .rename_i k j hj
     cases A3
     rw [hj] at D0
     split at D0
     .rename_i k' j' l MD hl
      cases MD
      have ri:=A1 S hp ei AU.2
      rw [hj] at ri
      obtain ⟨u,h1,h2⟩:=LL (P:=P) ee ez mm (A1 S hp ex AU.1) hl (k:=k) D0.1 D0.2
      refine ⟨u,?_,h2⟩
      simp only [execOp,ho]
      refine j5 _ _ ?_
      rw [ri.int]
      exact h1
     .exact D0.elim
    .cases A3
  .rename_i sx si ex ei ee
   split at hc
   .rename_i len e eu
    cases ez:Ef P e with
    | none => simp [ez] at hc
    |some z=>
     simp [ez] at hc
     subst hc
     simp only [Ap.val] at A3
     simp only [Ap.pre] at D0
     split at A3
     .rename_i kk oo k j hb hj
      cases A3
      rw [hj] at D0
      have ri:=A1 S hp ei AU.2
      have rx:=A1 S hp ex AU.1
      rw [hj] at ri
      rw [hb] at rx
      obtain ⟨u,h1,h2⟩:=Adv (P:=P) eu ez (w:=w) rx (k:=k) D0.1 D0.2
      refine ⟨u,?_,h2⟩
      simp only [execOp,ho]
      refine j5 _ _ ?_
      rw [ri.int]
      exact h1
     .cases A3
   .cases hc
  .cases hc
 . -- index
  rename_i t x i ho
  split at hc
  .rename_i sx si ex ei ee
   cases hc
   simp only [Ap.val] at A3
   simp only [Ap.pre] at D0
   split at A3
   .rename_i y k j hy hj
    cases A3
    rw [hy,hj] at D0
    have ri:=A1 S hp ei AU.2
    have rx:=A1 S hp ex AU.1
    rw [hj] at ri
    rw [hy] at rx
    obtain ⟨h0,h1⟩:=D0
    refine ⟨_,?_,.pu _ _ (.i _ _)⟩
    simp only [execOp,ho]
    refine j5 _ _ ?_
    rw [ri.int,rx.str]
    have BL:j.toNat<y.data.size:=h1
    have:y[j.toNat]?=some (y.data.toList.getD j.toNat 0):=by
     rw [getElem?_pos y j.toNat h1]
     show some (y.data[j.toNat])=_
     rw [List.getD_eq_getElem?_getD,Array.getElem?_toList,Array.getElem?_eq_getElem BL]
     rfl
    simp [Instr.index,asIntOf,run_underlying ee,h0,this]
   .cases A3
  .rename_i sx si len e ex ei eu
   split at hc
   .rename_i m ag ez
    split at hc
    .cases hc
    .rename_i n7
     cases hc
     simp only [Ap.val] at A3
     simp only [Ap.pre] at D0
     split at A3
     .rename_i l k j hb hj
      split at A3
      .rename_i hle
       cases A3
       rw [hj] at D0
       have rx:=A1 S hp ex AU.1
       have ri:=A1 S hp ei AU.2
       rw [hb] at rx
       rw [hj] at ri
       have e2:=ri.int
       obtain ⟨u,g1,g2⟩:=Af9 (P:=P) (w:=w) eu ez (by intro e;cases ag<;>simp_all) rx (k:=k) D0.1 D0.2 hle
       refine ⟨u,?_,g2⟩
       simp only [execOp,ho]
       refine j5 _ _ ?_
       rw [e2]
       exact g1
      .cases A3
     .cases A3
   .cases hc
  .cases hc
 . -- slice
  rename_i t x lo hi ho
  split at hc
  .rename_i sx lo' Ly e ex elo s7 ee
   cases ez:Ef P e with
   | none => simp [ez] at hc
   |some z=>
    simp [ez] at hc
    subst hc
    obtain ⟨ox,olo,ohi⟩:=AU
    simp only [Ap.val] at A3
    simp only [Ap.pre] at D0
    split at A3
    .rename_i l hl
     rw [hl] at D0
     obtain ⟨hb,hn⟩:=D0
     unfold QK at hb
     split at A3
     .rename_i x0 y0 hx hy
      rw [hx,hy] at hb
      obtain ⟨h0,h1,h2⟩:=hb
      have r:=A1 S hp ex ox
      obtain ⟨aa,cap,ev,NV,_⟩:=EJ mm r hl
      rw [ev] at r
      have B6:=Tr (P:=P) S hp elo s7 olo ohi NV true hx hy h0 h1 h2
      have hcut:=Aax mm (Ae9 hl) (Aak mm r) NV (x:=x0.toNat) (y:=y0.toNat) (by omega) (by omega) hn A3
      refine ⟨_,?_,hcut⟩
      simp only [execOp,ho]
      refine j5 _ _ ?_
      rw [ev]
      simp [Instr.sliceAt,Instr.slice,run_underlying ee,B6,Ct ez]
     .cases A3
    .cases A3
  .rename_i sx lo' Ly ex elo s7 ee
   cases hc
   obtain ⟨ox,olo,ohi⟩:=AU
   simp only [Ap.val] at A3
   simp only [Ap.pre] at D0
   split at A3
   .rename_i y hy0
    rw [hy0] at D0
    split at A3
    .rename_i x0 y0 hx hy
     cases A3
     simp only [QK,hx,hy] at D0
     obtain ⟨h0,h1,h2⟩:=D0
     have r:=A1 S hp ex ox
     rw [hy0] at r
     have B6:=Tr (P:=P) S hp elo s7 olo ohi (Nat.le_refl _) false hx hy h0 h1 h2
     refine ⟨_,?_,.pu _ _ (.s _)⟩
     simp only [execOp,ho]
     refine j5 _ _ ?_
     rw [r.str]
     simp [Instr.sliceAt,Instr.slice,run_underlying ee,B6]
    .cases A3
   .cases A3
  .cases hc
 . -- slice with a third bound
  rename_i t x hi mx ho
  split at hc
  .rename_i sx k1 n1 k2 n2 e ex s7 emx ee
   split at hc
   .rename_i h0
    obtain ⟨rfl,rfl⟩:=h0
    cases ez:Ef P e with
    | none => simp [ez] at hc
    |some z=>
     simp [ez] at hc
     subst hc
     simp only [Ap.val] at A3
     have r:=A1 S hp ex AU
     have rh:=A1 S hp s7 trivial
     have rm:=A1 S hp emx trivial
     obtain ⟨rfl,aa,len,cap,ev⟩:=Aef r A3
     have e1:a.eval hi=.int k1 0:=rh.int
     have e2:a.eval mx=.int k2 0:=rm.int
     refine ⟨.slice (if 0=0 then aa else aa.map (·.add (0*z))) 0 0,?_,.pu _ _ (.e0 _)⟩
     simp only [execOp,ho]
     refine j5 _ _ ?_
     have b1:=run_sliceBound (P:=P) w k2 0 cap .slice3Acap (Int.le_refl _) (by omega)
     have b2:=run_sliceBound (P:=P) w k1 0 0 .slice3B (Int.le_refl _) (by omega)
     simp only [Int.toNat_zero] at b1 b2
     rw [ev]
     simp [Instr.sliceAt,Instr.slice,run_underlying ee,Instr.sliceBounds,e1,e2,b1,b2,Ct ez]
   .cases hc
  .cases hc
 . -- alloc
  exfalso
  split at hc
  .split at hc
   .rcases RF hc with ⟨_, _, rfl⟩ | ⟨_, rfl, _⟩ <;> simp [Ap.isV] at hv
   .cases hc
  .cases hc
 .exfalso
  rename_i x _
  cases ec:Br C.N x<;>simp [ec] at hc
  subst hc
  simp [Ap.isV] at hv
 .exfalso
  split at hc
  .cases hc;simp [Ap.isV] at hv
  .cases hc
 .exfalso
  split at hc
  .split at hc
   .split at hc
    .cases hc;simp [Ap.isV] at hv
    .cases hc
   .cases hc
  .cases hc
 .exfalso
  split at hc
  .split at hc
   .split at hc
    .rename_i z _
     split at hc
     .cases ec : Ee z.cells.toList <;> simp [ec] at hc; subst hc; simp [Ap.isV] at hv
     .cases hc
    .cases hc
   .cases hc
  .cases hc
 . -- nilCheck
  rename_i x ho
  cases ex:Br C.N x with
  | none => simp [ex] at hc
  |some s=>
   simp [ex] at hc
   subst hc
   have r:=A1 S hp ex AU
   simp only [Ap.val] at A3
   generalize hev:a.eval x=vv at r
   unfold ncV at A3
   split at A3
   .rename_i k off hb
    cases A3
    rw [hb] at r
    cases r with
    | pu _ _ p => cases p
    |bx _ _ b c e=>
     refine ⟨_,?_,.bx _ _ b c e⟩
     simp [execOp,ho,hev]
   .rename_i α n i off hb
    cases A3
    rw [hb] at r
    cases r with
    | pu _ _ p => cases p
    |ep _ _ _ _ b ofs len cap r' hi=>
     refine ⟨_,?_,.ep _ _ _ _ b ofs len cap r' hi⟩
     simp [execOp,ho,hev]
   .cases A3
 .exfalso
  split at hc
  .split at hc
   .cases hc;simp [Ap.isV] at hv
   .cases hc
  .cases hc
 . -- lookup
  rename_i t x ix ok ho
  split at hc
  .rename_i sx ss kt e ex es et
   split at hc
   .rename_i i ek ei
    split at hc
    .rename_i z ez
     cases ec:cav z with
     | none => simp [ec] at hc
     |some zz=>
      simp [ec] at hc
      subst hc
      have hz:=MW ec h J
      have Vu:(zeroValue e).run P w=.ok z w:=by simp [zeroValue,typeInfo,ei,ez]
      have r1:=A1 S hp ex AU.1
      have r2:=A1 S hp es AU.2
      simp only [Ap.val] at A3
      split at A3
      .rename_i k b h1 h2
       have hmr:∃l b' c' s9 b8,α=lkV ok zz (B5 b l)∧J k 0=some (some b',c')∧w.heap[b']?=some (.map s9 b8)∧MR h l s9.toList:=by
        have Dc:=mm.ch k
        split at A3
        .rename_i l hk
         cases A3
         rw [hk] at Dc
         obtain ⟨b',c',s9,b8,q1,q2,q3⟩:=Aj4 Dc
         exact ⟨l,b',c',s9,b8,rfl,q1,q2,q3⟩
        .rename_i l sn hk
         cases A3
         rw [hk] at Dc
         obtain ⟨b',c',s9,b8,q1,q2,q3⟩:=Acj Dc
         exact ⟨l,b',c',s9,b8,rfl,q1,q2,q3⟩
        .cases A3
       clear A3
       obtain ⟨l,b',c',s9,b8,rfl,q1,q2,q3⟩:=hmr
       rw [h1] at r1
       rw [h2] at r2
       have e2:=r2.str
       generalize hev:a.eval x=vv at r1
       cases r1 with
       | pu _ _ p => cases p
       |mp _ bb c e0=>
        rw [e0] at q1
        cases q1
        have pair:∀(α:AV) (v:Value) (b:Bool),AW h J α v->AW h J (.tp [α,.b b]) (.tuple #[v,.bool b]):=fun α v b r=>AW.mkTup (vs:=[v,.bool b]) (.cons r (.cons (.pu _ _ (.b b)) .nil))
        have t6:=MapKept.run_checkKey (P:=P) (w:=w) ek (k:=.string b) trivial s9.isEmpty 9999
        rcases J2 h b .un l s9.toList 0 q3 with ⟨m1,m2,_⟩ | ⟨γ,j,v,m1,m2,m3,_⟩
        .have hf:=MapKept.run_findKey (P:=P) (w:=w) ek m2
         rw [m1]
         cases ok with
         |true=>
          refine ⟨.tuple #[z,.bool false],?_,pair _ _ _ hz⟩
          simp only [execOp,ho]
          refine j5 _ _ ?_
          rw [hev,e2]
          simp [Instr.lookup,run_underlying et,MapKept.run_getObj_map q2,t6,hf,Vu]
         |false=>
          refine ⟨z,?_,hz⟩
          simp only [execOp,ho]
          refine j5 _ _ ?_
          rw [hev,e2]
          simp [Instr.lookup,run_underlying et,MapKept.run_getObj_map q2,t6,hf,Vu]
        .have hf:=MapKept.run_findKey (P:=P) (w:=w) ek m2
         rw [m1]
         cases ok with
         |true=>
          refine ⟨.tuple #[v,.bool true],?_,pair _ _ _ (.pu _ _ m3)⟩
          simp only [execOp,ho]
          refine j5 _ _ ?_
          rw [hev,e2]
          simp [Instr.lookup,run_underlying et,MapKept.run_getObj_map q2,t6,hf]
         |false=>
          refine ⟨v,?_,.pu _ _ m3⟩
          simp only [execOp,ho]
          refine j5 _ _ ?_
          rw [hev,e2]
          simp [Instr.lookup,run_underlying et,MapKept.run_getObj_map q2,t6,hf]
      .cases A3
    .cases hc
   .cases hc
  .cases hc
 .exfalso
  split at hc
  .split at hc
   .cases hc;simp [Ap.isV] at hv
   .cases hc
  .cases hc
 .exfalso
  split at hc
  .split at hc
   .cases hc;simp [Ap.isV] at hv
   .cases hc
  .cases hc
 .exfalso
  obtain ⟨y,_,rfl⟩:=z1n.1 hc
  simp [Ap.isV] at hv
 .exfalso
  obtain ⟨y,_,rfl⟩:=z1n.1 hc
  simp [Ap.isV] at hv
 . -- call
  rename_i cc ho
  split at hc
  .rename_i l5
   split at hc
   .rename_i x t ex et
    have D1:∃y,cc.args.toList=[y]∧Br C.N y=some x:=by
     cases hl:cc.args.toList with
     | nil => simp [hl, srcs] at ex
     |cons y r=>
      rw [hl] at ex
      cases r with
      |nil=>
       simp only [srcs] at ex
       cases hy:Br C.N y with
       | none => simp [hy] at ex
       | some s => simp [hy] at ex; subst ex; exact ⟨y, rfl, hy⟩
      |cons y2 r2=>
       simp only [srcs] at ex
       exfalso
       cases hy:Br C.N y<;>simp [hy] at ex
       cases hy2:Br C.N y2<;>simp [hy2] at ex
       cases hy3:srcs C.N r2<;>simp [hy3] at ex
    obtain ⟨y,hy1,hy2⟩:=D1
    have NU:cc.argTypes=#[t]:=by apply z1u;simpa using et
    have He:cc.args=#[y]:=by apply z1u;simpa using hy1
    split at hc
    .rename_i hu
     cases hc
     have r:=A1 S hp hy2 AU
     simp only [Ap.val,WQ] at A3
     split at A3
     .rename_i s hs
      simp at A3
      subst A3
      rw [hs] at r
      refine ⟨_,?_,.pu _ _ (.i _ _)⟩
      simp [execOp,ho,resolve,l5,He,NU,invoke,builtin,Builtin.len_,run_underlying hu,r.str,goInt]
     .simp at A3
    .rename_i e hu
     cases hc
     have r:=A1 S hp hy2 AU
     simp only [Ap.val,WQ] at A3
     split at A3
     .rename_i l hl
      simp at A3
      subst A3
      obtain ⟨aa,cap,ev,_⟩:=EJ mm r hl
      refine ⟨_,?_,.pu _ _ (.i _ _)⟩
      simp [execOp,ho,resolve,l5,He,NU,invoke,builtin,Builtin.len_,run_underlying hu,ev,goInt]
     .simp at A3
    .cases hc
   .cases hc
  .exfalso
   split at hc
   .split at hc
    .split at hc
     .split at hc
      .split at hc
       .cases hc;simp [Ap.isV] at hv
       .cases hc
      .cases hc
     .cases hc
    .split at hc
     .split at hc
      .split at hc
       .cases hc;simp [Ap.isV] at hv
       .cases hc
      .cases hc
     .cases hc
    .cases hc
   .cases hc
  .rename_i l5
   split at hc
   .rename_i x y ea
    cases hc
    obtain ⟨y1,y2,D1,ex,ey⟩:=KV ea
    have He:cc.args=#[y1,y2]:=by apply z1u;simpa using D1
    have r1:=A1 S hp ex AU.1
    have r2:=A1 S hp ey AU.2
    simp only [Ap.val] at A3
    split at A3
    .rename_i k1 n1 k2 n2 e1 e2
     split at A3
     .rename_i hk
      subst hk
      cases A3
      rw [e1] at r1
      rw [e2] at r2
      refine ⟨_,?_,.pu _ _ (.i _ _)⟩
      simp [execOp,ho,resolve,l5,He,invoke,builtin,Builtin.min_,Builtin.min2,r1.int,r2.int]
     .cases A3
    .cases A3
   .cases hc
  .rename_i l5
   split at hc
   .rename_i x y ea
    cases hc
    obtain ⟨y1,y2,D1,ex,ey⟩:=KV ea
    have He:cc.args=#[y1,y2]:=by apply z1u;simpa using D1
    have r1:=A1 S hp ex AU.1
    have r2:=A1 S hp ey AU.2
    simp only [Ap.val] at A3
    split at A3
    .rename_i k1 n1 k2 n2 e1 e2
     split at A3
     .rename_i hk
      subst hk
      cases A3
      rw [e1] at r1
      rw [e2] at r2
      refine ⟨_,?_,.pu _ _ (.i _ _)⟩
      simp [execOp,ho,resolve,l5,He,invoke,builtin,Builtin.max_,Builtin.max2,r1.int,r2.int]
     .cases A3
    .cases A3
   .cases hc
  .exfalso
   split at hc
   .split at hc
    .split at hc
     .cases hc;simp [Ap.isV] at hv
     .cases hc
    .cases hc
   .cases hc
  .exfalso
   split at hc
   .split at hc
    .split at hc
     .split at hc
      .split at hc
       .obtain ⟨_,_,rfl⟩:=z1n.1 hc;simp [Ap.isV] at hv
       .cases hc
      .cases hc
     .cases hc
    .cases hc
   .cases hc
  .exfalso
   cases ec:srcs C.N cc.args.toList<;>simp [ec] at hc
   subst hc
   simp [Ap.isV] at hv
  .exfalso
   split at hc
   .cases hc;simp [Ap.isV] at hv
   .cases hc
  .cases hc
 .cases hc
end
