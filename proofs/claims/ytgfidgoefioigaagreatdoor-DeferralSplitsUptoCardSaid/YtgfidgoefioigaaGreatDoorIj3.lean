/- Proof. Conditions: none. -/
import Derived.Laws.BytesString
import Derived.Laws.BytesArg
import Derived.Test.YtgfidgoefioigaaGreatDoorIj2
open List renaming length_eq_zero_iff->z26,mem_cons->zh
open Option renaming some->zm,map_none->zr,map_some->z8,map_eq_some_iff->z1h
open Nat renaming mul_comm->z1g
open Array renaming ext'->z1t
open List renaming getElem?_eq_getElem->zlg
namespace Go.Eng
set_option linter.all false
section
variable {P:Program} {C:Ctx} {st:St} {h:HP} {J:RO} {a:Act} {w:World} {p:Prop} {t e:TypeId} {hp:CH} {n k len z:Nat} {l:List (List AV)} {v:Value} {U β:AV}
theorem Sm (S:Sat C st h J a w) (hp:p):∀(ps:List (Nat×Operand)) (l:List (Nat×Nat×Bj)),Lc P C.N t ps=some l ->
 VN st.env p (l.map (·.2.2))->l.length=ps.length∧∀(j:Nat) q i x,l[j]?=some q->ps[j]?=some (i,x)->(∃fd z,Nx P t i=some fd∧E1 P fd.type=some z∧q.1=fd.offset∧q.2.1=z)∧Ba h J (Bf (q.2.2.ev st.env)) (a.eval x):=by
 intro ps
 induction ps with
 |nil=>intro l e o;simp [Lc] at e;subst e;exact ⟨rfl,fun j q i x h1=>by simp at h1⟩
 |cons y ps ih=>
  intro l e o
  obtain ⟨i,x⟩:=y
  unfold Lc at e
  split at e
  .rename_i fd s l' e1 e2 e3
   split at e
   .rename_i z e4
    cases e
    obtain ⟨o1,o2⟩:=o
    obtain ⟨i1,i2⟩:=ih l' e3 o2
    refine ⟨by simp [i1],fun j q i' x' h1 h2=>?_⟩
    cases j with
    |zero=>
     simp at h1 h2
     obtain ⟨rfl,rfl⟩:=h2
     subst h1
     exact ⟨⟨fd,z,e1,e4,rfl,rfl⟩,A1 S hp e2 o1⟩
    |succ j=>exact i2 j q i' x' (by simpa using h1) (by simpa using h2)
   .cases e
  .cases e
theorem ZU {d:Nat} {xs ys:List Value} {fs:List Field}:∀(o:Nat) (ks:List Nat) (l l':List AV) (e:Bool),HO P o fs=some ks->eqc ks l l'=some e ->
 Bx h J l (xs.drop o)->Bx h J l' (ys.drop o)->(Op.eqFields (d+1) xs.toArray ys.toArray fs).run P w=.ok e w:=by
 induction fs with
 |nil=>
  intro o ks l l' e hk he _ _
  simp [HO] at hk
  subst hk
  cases l<;>cases l'<;>simp [eqc] at he
  subst he
  simp [Op.eqFields]
 |cons f fs ih=>
  intro o ks l l' e hk he rx ry
  have p7 : ∀ c ks', (c = 0 ∧ (∃ k, P.underlying f.type = some (.int k)) ∨ c = 3 ∧ P.underlying f.type = some .string ∨ c = 1 ∧ P.underlying f.type = some .bool) -> HO P (o + 1) fs = some ks' -> f.offset = o -> f.name ≠ "_" -> ks = c :: ks' ->
   (Op.eqFields (d+1) xs.toArray ys.toArray (f::fs)).run P w=.ok e w:=by
   intro c ks' hc x8 ho hn E4
   subst E4
   cases l with
   |nil=>cases l'<;>simp [eqc] at he
   |cons U l=>
    cases l' with
    |nil=>simp [eqc] at he
    |cons β l'=>
     unfold eqc at he
     split at he
     .rename_i e1 r h1 h2
      cases he
      have lx:o<xs.length:=by have:=rx.1;simp at this;omega
      have ly:o<ys.length:=by have:=ry.1;simp at this;omega
      have ra:Ba h J U xs[o]:=rx.2 0 U _ rfl (by simp [lx])
      have rb:Ba h J β ys[o]:=ry.2 0 β _ rfl (by simp [ly])
      have hagg:∃dd,P.underlying f.type=some dd∧(match dd with | .struct _ | .array _ _=>true | _=>false)=false:=by
       rcases hc with ⟨_,⟨k,hu⟩⟩ | ⟨_,hu⟩ | ⟨_,hu⟩<;>exact ⟨_,hu,rfl⟩
      obtain ⟨dd,hu,hnag⟩:=hagg
      have hpart:∀(zs:List Value) (hz:o<zs.length),(part f.type zs.toArray f.offset).run P w=.ok zs[o] w:=by
       intro zs hz
       have hia:(isAgg f.type).run P w=.ok false w:=by
        unfold isAgg
        rw [Sem.run_bind,run_underlying hu w]
        cases dd<;>simp_all
       simp [part,hia,ho,hz]
      have heq:(Op.equalIn (d+1) f.type xs[o] ys[o]).run P w=.ok e1 w:=by
       unfold eqk at h1
       split at h1
       .rename_i k a' k' b'
        split at h1
        .rename_i E4
         subst E4
         simp only [zm.injEq] at h1
         subst h1
         rw [ra.int,rb.int]
         rcases hc with ⟨_,⟨k2,hu2⟩⟩ | ⟨hx,_⟩ | ⟨hx,_⟩
         .rw [run_equalIn_int w d f.type k k2 a' b' hu2,NE]
         .cases hx
         .cases hx
        .cases h1
       .rename_i a' b'
        simp only [zm.injEq] at h1
        subst h1
        rw [ra.bool,rb.bool]
        rcases hc with ⟨hx,_⟩ | ⟨hx,_⟩ | ⟨_,hu2⟩
        .cases hx
        .cases hx
        .rw [run_equalIn_bool' w d f.type a' b' hu2]
       .rename_i a' b'
        simp only [zm.injEq] at h1
        subst h1
        rw [ra.str,rb.str]
        rcases hc with ⟨hx,_⟩ | ⟨_,hu2⟩ | ⟨hx,_⟩
        .cases hx
        .rw [run_equalIn_string w d f.type a' b' hu2,KZ]
        .cases hx
       .cases h1
      have hrest:=ih (o+1) ks' l l' r x8 h2 ⟨by have:=rx.1;simp at this ⊢;omega,fun j U v a1 a2=>rx.2 (j+1) U v (by simpa using a1) (by simp at a2 ⊢;rw [show o+(j+1)=o+1+j by omega];exact a2)⟩
       ⟨by have:=ry.1;simp at this ⊢;omega,fun j U v a1 a2=>ry.2 (j+1) U v (by simpa using a1) (by simp at a2 ⊢;rw [show o+(j+1)=o+1+j by omega];exact a2)⟩
      simp only [Op.eqFields,hn,ne_eq,not_false_eq_true,if_true,Sem.run_bind,hpart xs lx,hpart ys ly,Result.andThen_ok,heq,Sem.run_ite]
      cases e1
      .simp
      .simp [hrest]
     .cases he
  unfold HO at hk
  split at hk
  .rename_i k l0 hu x8
   split at hk
   .rename_i hc;cases hk;exact p7 0 l0 (.inl ⟨rfl,k,hu⟩) x8 hc.1 hc.2 rfl
   .cases hk
  .rename_i l0 hu x8
   split at hk
   .rename_i hc;cases hk;exact p7 3 l0 (.inr (.inl ⟨rfl,hu⟩)) x8 hc.1 hc.2 rfl
   .cases hk
  .rename_i l0 hu x8
   split at hk
   .rename_i hc;cases hk;exact p7 1 l0 (.inr (.inr ⟨rfl,hu⟩)) x8 hc.1 hc.2 rfl
   .cases hk
  .cases hk
theorem TL (S:Sat C st h J a w) (hp:p) {lo hi:Option Operand} {lo' Md:Option Bj}
 (elo:IS C.N lo=some lo') (u7:IS C.N hi=some Md) (olo:obo st.env p lo') (ohi:obo st.env p Md) {len cap:Nat} (OD:len<=cap) (isS:Bool)
 {x y:Int} (hx:HB (fun s=>Bf (s.ev st.env)) lo'=some x) (hy:GE (fun s=>Bf (s.ev st.env)) len Md=some y) (h0:0<=x) (h1:x<=y) (h2:y<=len) :
 (Instr.sliceBounds isS len cap (lo.map a.eval) (hi.map a.eval) none).run P w=.ok (x.toNat,y.toNat,cap) w:=by
 have intv:∀U n v,Xw U=some n->Ba h J U v->∃k,v=.int k n:=by
  intro U n v e r
  cases U<;>simp [Xw] at e
  subst e
  exact ⟨_,r.int⟩
 have elen:((len:Int)).toNat=len:=by omega
 cases lo with
 |none=>
  simp only [IS,zm.injEq] at elo
  subst elo
  simp only [HB,zm.injEq] at hx
  subst hx
  cases hi with
  |none=>
   simp only [IS,zm.injEq] at u7
   subst u7
   simp only [GE,zm.injEq] at hy
   subst hy
   simp [Instr.sliceBounds]
  |some hi=>
   cases ec:Bt C.N hi with
   |none=>simp [IS,ec] at u7
   |some s=>
    simp [IS,ec] at u7
    subst u7
    obtain ⟨k,hk⟩:=intv _ _ _ hy (A1 S hp ec ohi)
    simp only [zr,z8,hk]
    simp [Instr.sliceBounds,run_sliceBound w k y cap _ (by omega) (by omega)]
 |some lo=>
  cases ecl:Bt C.N lo with
  |none=>simp [IS,ecl] at elo
  |some sl=>
   simp [IS,ecl] at elo
   subst elo
   obtain ⟨kl,VY⟩:=intv _ _ _ hx (A1 S hp ecl olo)
   cases hi with
   |none=>
    simp only [IS,zm.injEq] at u7
    subst u7
    simp only [GE,zm.injEq] at hy
    subst hy
    simp only [zr,z8,VY]
    simp [Instr.sliceBounds,run_sliceBound w kl x len _ (by omega) (by omega)]
   |some hi=>
    cases ec:Bt C.N hi with
    |none=>simp [IS,ec] at u7
    |some s=>
     simp [IS,ec] at u7
     subst u7
     obtain ⟨k,hk⟩:=intv _ _ _ hy (A1 S hp ec ohi)
     simp only [z8,VY,hk]
     simp [Instr.sliceBounds,run_sliceBound w k y cap _ (by omega) (by omega),run_sliceBound w kl x y.toNat _ (by omega) (by omega)]
theorem Ac0 (m:SatH h J hp n w) {g n':Nat} (r:Ba h J (.rw k g len) v) (hk:gc hp k=.sh g n' l) (hle:len<=l.length) :
 Bq h (.ds (l.take len)) v∧v.oneCell'=true:=by
 have Do:=m.ch k
 rw [hk] at Do
 obtain ⟨ob,cap,h1,h2,EY,h3,h4,h5⟩:=Do
 cases r with
 |pu _ _ p=>cases p
 |rw _ _ _ i6 a o7 e1 OD ha=>
  rw [h1] at e1
  cases e1
  refine ⟨?_,rfl⟩
  have Bn:(l.take len).length=len:=by rw [List.length_take];omega
  have huse:∃us:Nat->Nat->Value,∀b,ob=some b->∀(j:Nat) x (q:Nat) U,l[j]?=some x->x[q]?=some U->Eq h b (n'*j+q)=some (us j q)∧Bq h U (us j q):=by
   cases ob with
   |none=>exact ⟨fun _ _=>undef,fun b hb=>by cases hb⟩
   |some b=>
    obtain ⟨vs,ty,fr,a1,a3⟩:=h5 b rfl
    refine ⟨fun j q=>(vs[n'*j+q]?).getD undef,fun b' hb' j x q U g1 g2=>?_⟩
    cases hb'
    obtain ⟨u,z1,z2⟩:=a3 j x q U g1 g2
    have:Eq h b (n'*j+q)=some u:=by simp [Eq,a1,z1]
    simp only [z1,Option.getD_some]
    exact ⟨this,z2⟩
  obtain ⟨us,hus⟩:=huse
  have key:Bq h (.ds (l.take len)) (.slice a (l.take len).length cap):=by
   by_cases BG:l.take len=[]
   .rw [BG]
    exact .ds [] 0 a cap (fun _ _=>undef) (by simp) (fun j e h=>by simp at h) (fun j e q U h=>by simp at h) (fun h=>absurd rfl h)
   .obtain ⟨b,hb⟩:∃b,ob=some b:=by
     cases ob with
     |none=>
      have:=h4 rfl
      have:len=0:=by omega
      subst this
      simp at BG
     |some b=>exact ⟨b,rfl⟩
    refine .ds _ n' a cap us (by omega) (fun j e h=>h3 j e (Bu h).1) (fun j e q U g1 g2=>(hus b hb j e q U (Bu g1).1 g2).2) fun _=>⟨b,0,ha b hb,fun j e q U g1 g2=>?_⟩
    rw [Nat.zero_add]
    exact (hus b hb j e q U (Bu g1).1 g2).1
  rw [Bn] at key
  exact key
theorem Aa1 (m:SatH h J hp n w) (r:Ba h J U v):Ba h J (shd hp U) v:=by
 unfold shd
 split
 .exact r
 .exact r
 .split
  .rename_i g' n' l hk
   split
   .rename_i hc
    obtain ⟨rfl,hle⟩:=hc
    exact .pu _ _ (Ac0 m r hk hle).1
   .exact r
  .exact r
 .exact r
theorem Afp (hl:sl hp U=some l):sl hp (shd hp U)=some l:=by
 unfold shd
 split
 .exact hl
 .exact hl
 .split
  .rename_i k g len g' n' l' hk
   split
   .rename_i hc
    simp [sl,hk,hc] at hl ⊢
    exact hl
   .exact hl
  .exact hl
 .exact hl
theorem Abc (mm:SatH h J hp n w) (hl:sl hp U=some l) {a:Option Addr} {cap x y:Nat}
 (r:Ba h J U (.slice a l.length cap)) (hc:l.length<=cap) (hxy:x<=y) (hy:y<=l.length) (hn:∀e∈l,e.length=z) (hv:Bp z U x y=some β) :
 Ba h J β (.slice (if cap=x then a else a.map (·.add (x*z))) (y - x) (cap - x)):=by
 cases U with
 |ds l'=>
  simp only [sl,zm.injEq] at hl
  subst hl
  simp only [Bp,zm.injEq] at hv
  subst hv
  refine .pu _ _ ?_
  have Bn:((l'.take y).drop x).length=y - x:=by simp;omega
  rw [<-Bn]
  cases r with
  |pu _ _ p=>
   cases p with
   |ds _ q0 _ _ us Mt hq Al hm=>
    have get:∀(j:Nat) e,((l'.take y).drop x)[j]?=some e->l'[x+j]?=some e:=by
     intro j e he
     rw [List.getElem?_drop] at he
     exact (Bu he).1
    refine .ds _ q0 _ _ (fun j q=>us (x+j) q) (by omega) (fun j e he=>hq _ e (get j e he)) (fun j e q γ h1 h2=>Al _ e q γ (get j e h1) h2) fun BG=>?_
    have hl':l'≠[]:=by intro e;subst e;simp at BG
    have hxl:x<l'.length:=by
     rcases Nat.lt_or_ge x l'.length with h | h
     .exact h
     .exfalso;apply BG;simp;omega
    obtain ⟨b,o,ea,hx⟩:=hm hl'
    subst ea
    have hz:q0=z:=by
     have e1:=hq 0 l'[0] (by simp)
     have e2:=hn l'[0] (List.getElem_mem _)
     omega
    subst hz
    rw [if_neg (by omega)]
    refine ⟨b,o+x*q0,by simp [Addr.add_lit],fun j e q γ h1 h2=>?_⟩
    have:=hx (x+j) e q γ (get j e h1) h2
    rw [show o+q0*(x+j)+q=o+x*q0+q0*j+q by rw [Nat.mul_add,z1g q0 x];omega] at this
    exact this
 |e0=>
  simp only [sl,zm.injEq] at hl
  subst hl
  simp only [Bp,zm.injEq] at hv
  subst hv
  simp at hy
  subst hy
  have:x=0:=by omega
  subst this
  cases r with
  |pu _ _ p=>
   cases p
   simp
   exact .pu _ _ (.e0 _)
 |rw k g len=>
  cases x with
  |succ x=>
   simp only [Bp,zm.injEq] at hv
   subst hv
   cases r with
   |pu _ _ p=>cases p
   |rw _ _ _ _ _ ob e hle ha=>
    refine .rf _ _ _ _ _ _ _ ob e (by omega) fun b hb BY=>?_
    rw [ha b hb,if_neg (by omega)]
    simp [Addr.add_lit,z1g]
  |zero=>
   simp only [Bp,zm.injEq] at hv
   subst hv
   cases r with
   |pu _ _ p=>cases p
   |rw _ _ _ _ _ ob e hle ha=>
    refine .rw _ _ _ _ _ ob e (by omega) fun b hb=>?_
    rw [ha b hb]
    split
    .rfl
    .simp [Addr.add]
 |rf k g n' off len=>
  simp only [Bp] at hv
  split at hv
  .rename_i hz
   subst hz
   simp only [zm.injEq] at hv
   subst hv
   generalize q7:cap=cap0 at r
   cases r with
   |pu _ _ p=>cases p
   |rf _ _ _ _ _ cp _ ob e hle ha=>
    rw [Nat.sub_sub]
    refine .rf _ _ _ _ _ _ _ ob e (by omega) fun b hb BY=>?_
    rw [ha b hb (by omega),if_neg (by omega)]
    simp [Addr.add_lit,Nat.mul_add,z1g]
  .cases hv
 |_=>simp [Bp] at hv
theorem LH {N:Nat} {l:List Operand} {x x':Bj} (e:srcs N l=some [x,x']):∃y y',l=[y,y']∧Bt N y=some x∧Bt N y'=some x':=by
 match l with
 | []=>simp [srcs] at e
 | [y]=>cases h:Bt N y<;>simp [srcs,h] at e
 | [y,y']=>
  cases h:Bt N y<;>cases h':Bt N y'<;>simp [srcs,h,h'] at e
  exact ⟨y,y',rfl,by rw [h,e.1],by rw [h',e.2]⟩
 |y::y'::y2::r=>
  cases h:Bt N y<;>cases h':Bt N y'<;>cases h2:Bt N y2<;>cases h3:srcs N r<;>simp [srcs,h,h',h2,h3] at e
def MR (h:HP) (l:List (qB×AV)) (es:List MapEntry):Prop :=
 es.length=l.length∧∀(j:Nat) x U,l[j]?=some (x,U)->∃u born,es[j]?=some ⟨.string x,u,born⟩∧Bq h U u
theorem MR.cons {x:qB} {l:List (qB×AV)} {es:List MapEntry} (m:MR h ((x,U)::l) es):∃u born r,es=⟨.string x,u,born⟩::r∧Bq h U u∧MR h l r:=by
 obtain ⟨h1,h2⟩:=m
 cases es with
 |nil=>simp at h1
 |cons e r=>
  obtain ⟨u,born,h3,h4⟩:=h2 0 x U rfl
  simp at h3
  subst h3
  exact ⟨u,born,r,rfl,h4,by simpa using h1,fun j y β hj=>by
   obtain ⟨u',b',h5,h6⟩:=h2 (j+1) y β (by simpa using hj)
   exact ⟨u',b',by simpa using h5,h6⟩⟩
theorem DS (a b:qB):(a == b)=decide (a=b):=by
 rw [Bool.eq_iff_iff,decide_eq_true_iff]
 exact MapKept.bytes_beq a b
theorem Kc (h:HP) (b:qB) (β:AV):∀(l:List (qB×AV)) (es:List MapEntry) (i:Nat),MR h l es ->
 (B9 b l=none∧Instr.findNow .string (.string b) es i=some none∧DP b β l=l++[(b,β)]) ∨
 ∃(U:AV) (j:Nat) (u:Value),B9 b l=some U∧Instr.findNow .string (.string b) es i=some (some (i+j,u))∧Bq h U u∧DP b β l=l.set j (b,β)∧(∃born,es[j]?=some ⟨.string b,u,born⟩)
 | [],es,i,m=>by
  have:es=[]:=z26.1 m.1
  subst this
  exact .inl ⟨rfl,rfl,rfl⟩
 | (x,U)::l,es,i,m=>by
  obtain ⟨u,born,r,rfl,hp,m2⟩:=m.cons
  by_cases hx:b=x
  .subst hx
   exact .inr ⟨U,0,u,by simp [B9],by simp [Instr.findNow,Instr.sameNow,DS],hp,by simp [DP],born,rfl⟩
  .have hs:Instr.sameNow .string (.string b) (.string x)=some false:=by
    simp only [Instr.sameNow,DS]
    simp [hx]
   rcases Kc h b β l r (i+1) m2 with ⟨h1,h2,h3⟩ | ⟨γ,j,v,h1,h2,h3,h4,h5⟩
   .exact .inl ⟨by simp [B9,hx,h1],by simp [Instr.findNow,hs,h2],by simp [DP,hx,h3]⟩
   .exact .inr ⟨γ,j+1,v,by simp [B9,hx,h1],by simp [Instr.findNow,hs,h2];omega,h3,by simp [DP,hx,h4],by simpa using h5⟩
theorem Dk {U β:Type} {f:U->β}:∀{l:List U} {a b:U},(l.map f).Nodup->a∈l->b∈l->f a=f b->a=b
 | [],a,b,_,h,_,_=>by cases h
 |x::l,a,b,hn,ha,hb,e=>by
  rw [List.map_cons,List.nodup_cons] at hn
  rcases zh.1 ha with h1 | h1<;>rcases zh.1 hb with h2 | h2
  .rw [h1,h2]
  .refine absurd ?_ hn.1
   rw [<-h1,e]
   exact List.mem_map_of_mem (f:=f) h2
  .refine absurd ?_ hn.1
   rw [<-h2,<-e]
   exact List.mem_map_of_mem (f:=f) h1
  .exact Dk hn.2 h1 h2 e
theorem T3 {b:qB}:∀{l:List (qB×AV)} {es:List MapEntry},MR h l es->B9 b l=none->∀x∈es,x.key≠.string b
 | [],es,m,_,x,hx=>by
  have:es=[]:=z26.1 m.1
  subst this
  cases hx
 | (y,U)::l,es,m,hn,x,hx=>by
  obtain ⟨u,born,r,rfl,hp,m2⟩:=m.cons
  unfold B9 at hn
  split at hn
  .cases hn
  .rename_i BG
   rcases zh.1 hx with rfl | hx
   .intro e
    injection e with e
    exact BG e.symm
   .exact T3 m2 hn x hx
theorem Akc {l:List (qB×AV)} (s:(Ak.mp l).sat h J w k):∃b c es b8,J k 0=some (some b,c)∧w.heap[b]?=some (.map es b8)∧MR h l es.toList:=by
 obtain ⟨b,c,es,b8,h1,h2,h3,_,h4⟩:=s
 exact ⟨b,c,es,b8,h1,h2,by simpa using h3,fun j x U hj=>by
  obtain ⟨u,born,h5,h6⟩:=h4 j x U hj
  exact ⟨u,born,by simpa using h5,h6⟩⟩
theorem Ye {l:List (qB×AV)} (s:(Ak.mp l).sat h J w k):∃b c es b8,J k 0=some (some b,c)∧w.heap[b]?=some (.map es b8)∧MR h l es.toList∧MapKept.Stamped es b8:=by
 obtain ⟨b,c,es,b8,h1,h2,h3,h3',h4⟩:=s
 exact ⟨b,c,es,b8,h1,h2,⟨by simpa using h3,fun j x U hj=>by
  obtain ⟨u,born,h5,h6⟩:=h4 j x U hj
  exact ⟨u,born,by simpa using h5,h6⟩⟩,h3'⟩
theorem Acy {l:List (qB×AV)} {sn:List qB} (s:(Ak.mr l sn).sat h J w k):∃b c es b8,J k 0=some (some b,c)∧w.heap[b]?=some (.map es b8)∧MR h l es.toList:=by
 obtain ⟨b,c,es,b8,h1,h2,h3,_,h4,_⟩:=s
 exact ⟨b,c,es,b8,h1,h2,by simpa using h3,fun j x U hj=>by
  obtain ⟨u,born,h5,h6⟩:=h4 j x U hj
  exact ⟨u,born,by simpa using h5,h6⟩⟩
theorem Rw (S:Sat C st h J a w) (hp:p):∀(ps:List (Nat×Operand)) (l:List (Nat×Nat×Bj)),LB C.N z ps=some l ->
 VN st.env p (l.map (·.2.2))->l.length=ps.length∧∀(j:Nat) q i x,l[j]?=some q->ps[j]?=some (i,x)->(q.1=i*z∧q.2.1=z)∧Ba h J (Bf (q.2.2.ev st.env)) (a.eval x):=by
 intro ps
 induction ps with
 |nil=>intro l e o;simp [LB] at e;subst e;exact ⟨rfl,fun j q i x h1=>by simp at h1⟩
 |cons y ps ih=>
  intro l e o
  obtain ⟨i0,x0⟩:=y
  unfold LB at e
  split at e
  .rename_i s l' e1 e2
   cases e
   obtain ⟨o1,o2⟩:=o
   obtain ⟨h1,h2⟩:=ih l' e2 o2
   refine ⟨by simp [h1],fun j q i x hq hx=>?_⟩
   cases j with
   |zero=>
    simp at hq hx
    obtain ⟨rfl,rfl⟩:=hx
    subst hq
    exact ⟨⟨rfl,rfl⟩,A1 S hp e1 o1⟩
   |succ j=>exact h2 j q i x (by simpa using hq) (by simpa using hx)
  .cases e
theorem Agm {m:Nat} {ag:Bool} (hu:P.underlying t=some (.array len e)) (hz:tyA P e=some (m,ag)) (h1:ag=false->m=1)
 {l:List AV} {v:Value} (r:Ba h J (.ag l) v) {k:IntKind} {j:Int} (h0:0<=j) (hj:j<len) (hle:j.toNat*m+m<=l.length) :
 ∃u,(Instr.index t v (.int k j)).run P w=.ok u w∧Ba h J (if ag then .ag ((l.drop (j.toNat*m)).take m) else l.getD (j.toNat*m) .un) u:=by
 obtain ⟨ha,hs⟩:=HK hz w
 have hss:(sizeOf e).run P w=.ok m w:=hs
 obtain ⟨vs,rfl,rs⟩:=r.agg
 cases ag with
 |true=>
  refine ⟨.agg ((vs.drop (j.toNat*m)).take m).toArray,?_,?_⟩
  .simp [Instr.index,asIntOf,run_underlying hu,h0,hj,hss,part,ha,List.extract_eq_take_drop]
  .simp only [if_true]
   refine Ba.mkAgg ⟨by have:=rs.1;simp;omega,fun i U v h1 h2=>?_⟩
   exact rs.2 _ U v (Bk h1).1 (Bk h2).1
 |false=>
  have hm:=h1 rfl
  subst hm
  have BY:j.toNat<vs.length:=by have:=rs.1;omega
  refine ⟨vs[j.toNat],?_,?_⟩
  .simp [Instr.index,asIntOf,run_underlying hu,h0,hj,hss,part,ha,BY]
  .have hl:j.toNat<l.length:=by omega
   simp [hl]
   exact rs.2 _ _ _ (zlg hl) (zlg BY)
theorem Aea (hu:P.underlying t=some (.array len e)) (hz:E1 P e=some z)
 {kk oo:Nat} {v:Value} (r:Ba h J (.bx kk oo) v) {k:IntKind} {i:Int} (h0:0<=i) (h1:i<len) :
 ∃u,(Instr.indexAt t v (.int k i)).run P w=.ok u w∧Ba h J (.bx kk (oo+z*i.toNat)) u:=by
 cases r with
 |pu _ _ p=>cases p
 |bx _ _ b c e=>
  refine ⟨.pointer (some ⟨b,oo+z*i.toNat,none⟩),?_,.bx _ _ _ _ e⟩
  simp [Instr.indexAt,asIntOf,run_underlying hu,h0,h1,Instr.sureAddr,C2 hz,Addr.add_lit,z1g]
theorem Aer (r:Ba h J U v) (e:s0V U=some β):β=.e0∧∃a len cap,v=.slice a len cap:=by
 cases U with
 |ds l=>cases e;refine ⟨rfl,?_⟩;cases r with | pu _ _ p=>cases p with | ds _ q0 a cap _ _ _ _ _=>exact ⟨_,_,_,rfl⟩
 |e0=>cases e;refine ⟨rfl,?_⟩;cases r with | pu _ _ p=>cases p with | e0 a=>exact ⟨_,_,_,rfl⟩
 |rw k g len=>
  cases e
  refine ⟨rfl,?_⟩
  cases r with
  |pu _ _ p=>cases p
  |rw _ _ _ cap a _ _ _ _=>exact ⟨_,_,_,rfl⟩
 |_=>cases e
theorem Vb (mm:SatH h J hp n w) (r:Ba h J U v) (hl:sl hp U=some l) {b:List UInt8} (hb:byt l=some b) :
 (Conv.bytesToString v).run P w=.ok (.string ⟨b.toArray⟩) w:=by
 obtain ⟨a,cap,rfl,hc,q0,hq,hm⟩:=Fb mm r hl
 obtain ⟨xs,rfl,rfl⟩:=Zv l b hb
 have l6:∀ad,a=some ad->(loadCells ad xs.length).run P w=.ok (xs.map (Value.int .u8)).toArray w:=by
  intro ad ha
  have:=run_loadCells_list (P:=P) w ad (xs.map (Value.int .u8)) (fun j v hj=>by
   have Nv:j<xs.length:=by have:=(List.getElem?_eq_some_iff.1 hj).1;simpa using this
   have BG:xs.map (fun n=>[AV.i .u8 n])≠[]:=by intro e;simp at e;subst e;simp at Nv
   obtain ⟨bb,o,ea,hx⟩:=hm BG
   have e1:(xs.map (fun n=>[AV.i .u8 n]))[j]?=some [AV.i .u8 xs[j]]:=by simp [Nv]
   have hq1:q0=1:=by have:=hq j _ e1;simpa using this.symm
   obtain ⟨u,hu,hr⟩:=hx j _ 0 _ e1 rfl
   subst hq1
   have hr:=hr.int
   subst hr
   rw [ea] at ha
   cases ha
   rw [Addr.add_lit]
   simp only [Nat.one_mul,Nat.add_zero] at hu
   rw [hu]
   simp [Nv] at hj
   exact congrArg some hj)
  simpa using this
 cases a with
 |none=>
  by_cases hxs:xs=[]
  .subst hxs
   simp [Conv.bytesToString]
   rfl
  .obtain ⟨bb,o,ea,_⟩:=hm (by simpa using hxs)
   cases ea
 |some ad=>
  simp only [List.length_map]
  rw [run_bytesToString w ad xs.length cap xs (l6 ad rfl),foldl_push_bytes]
  simp [ByteArray.empty,ByteArray.emptyWithCapacity]
  rfl
theorem Qb:∀(fs:List Field) (pl:List (Nat×Nat)),fs.mapM (fun f=>(P.info? f.type).map fun i=>(f.offset,i.size))=some pl ->
 ∀(i:Nat) fd z,fs[i]?=some fd->E1 P fd.type=some z->pl[i]?=some (fd.offset,z):=by
 intro fs
 induction fs with
 |nil=>intro pl h i fd z e;simp at e
 |cons f fs ih=>
  intro pl h i fd z e hz
  simp only [List.mapM_cons,Option.bind_eq_bind,Option.pure_def] at h
  cases hi:P.info? f.type with
  |none=>simp [hi] at h
  |some inf=>
   cases hr:fs.mapM (fun f=>(P.info? f.type).map fun i=>(f.offset,i.size)) with
   |none=>simp [hi,hr] at h
   |some rest=>
    simp [hi,hr] at h
    subst h
    cases i with
    |zero=>
     simp at e
     subst e
     simp [E1,hi] at hz
     subst hz
     rfl
    |succ i=>simpa using ih rest hr i fd z (by simpa using e) hz
theorem Jf (S:Sat C st h J a w) (hp:p) {d4:List Oper} {o:Oper} {c:Au} (hc:PT P C.N d4 o=some c) (hv:c.isV=true)
 (AZ:c.obs st.env p) (DJ:c.pre st.hp (fun s=>Bf (s.ev st.env))) {U:AV} (A4:c.val st.hp (fun s=>Bf (s.ev st.env))=some U) :
 ∃v,(execOp a.eval o).run P w=.ok (.value v) w∧Ba h J U v:=by
 have j4 : ∀ (s : Sem Value) v, s.run P w = .ok v w -> (do pure (Next.value (<- s)) : Sem Next).run P w = .ok (.value v) w := fun s v e => CS e
 have mm:=S.mem
 unfold PT at hc
 split at hc
 .rename_i x ho
  cases ex:Bt C.N x with
  | none => simp [ex] at hc
  |some s=>
   simp [ex] at hc
   subst hc
   simp only [Au.val,zm.injEq] at A4
   subst A4
   exact ⟨_,by simp [execOp,ho],A1 S hp ex AZ⟩
 .rename_i x ho
  cases ex:Bt C.N x with
  | none => simp [ex] at hc
  |some s=>
   simp [ex] at hc
   subst hc
   simp only [Au.val,zm.injEq] at A4
   subst A4
   exact ⟨_,by simp [execOp,ho],A1 S hp ex AZ⟩
 .rename_i c a' b ho
  split at hc
  .rename_i sc sa sb e1 e2 e3
   cases hc
   simp only [Au.val] at A4
   unfold pkV at A4
   split at A4
   rotate_left
   .rename_i y f1 f2 f3
    cases A4
    obtain ⟨o1,o2⟩:=AZ
    have r1:=A1 S hp e1 o1
    rw [f1] at r1 o2
    obtain ⟨o2,o3⟩:=o2
    have e0:=r1.bool
    have r2:=A1 S (p:=p∧true=true) ⟨hp,rfl⟩ e2 o2
    rw [f2] at r2
    refine ⟨_,?_,r2⟩
    simp [execOp,ho,e0,asBool]
   .rename_i z f1 f2 f3
    cases A4
    obtain ⟨o1,o2⟩:=AZ
    have r1:=A1 S hp e1 o1
    rw [f1] at r1 o2
    obtain ⟨o2,o3⟩:=o2
    have e0:=r1.bool
    have r2:=A1 S (p:=p∧false=false) ⟨hp,rfl⟩ e3 o3
    rw [f3] at r2
    refine ⟨_,?_,r2⟩
    simp [execOp,ho,e0,asBool]
   .cases A4
   .rename_i x y z f1 f2 f3
    cases A4
    obtain ⟨o1,o2⟩:=AZ
    have r1:=A1 S hp e1 o1
    rw [f1] at r1 o2
    obtain ⟨o2,o3⟩:=o2
    have e0:=r1.bool
    cases x with
    |true=>
     have r2:=A1 S (p:=p∧true=true) ⟨hp,rfl⟩ e2 o2
     rw [f2] at r2
     refine ⟨_,?_,(by simpa using r2)⟩
     simp [execOp,ho,e0,asBool]
    |false=>
     have r2:=A1 S (p:=p∧false=false) ⟨hp,rfl⟩ e3 o3
     rw [f3] at r2
     refine ⟨_,?_,(by simpa using r2)⟩
     simp [execOp,ho,e0,asBool]
  .cases hc
 . -- build
  rename_i t ps ho
  split at hc
  .rename_i i fs l e1 e2 e3
   split at hc
   .rename_i z pl ez epl
    cases ec:E0 z.cells.toList with
    | none => simp [ec] at hc
    |some zl=>
     simp [ec] at hc
     subst hc
     simp only [Au.val] at A4
     cases hb:Yq (fun s=>Bf (s.ev st.env)) zl l with
     | none => simp [hb] at A4
     |some out=>
      simp [hb] at A4
      subst A4
      obtain ⟨bl,bx⟩:=Sm S hp ps.toList l e3 AZ
      obtain ⟨cs,QM,hr⟩:=OP (a:=a) (f:=fun s=>Bf (s.ev st.env)) (places:=(pl.toArray[·]?)) l (ps.toList.map fun (i,x)=>(i,a.eval x)) zl z.cells out (by simp [bl])
       (fun j q i v h1 h2 => by
         simp only [List.getElem?_map] at h2
         cases hj:ps.toList[j]? with
         | none => rw [hj] at h2; simp at h2
         |some y=>
          rw [hj] at h2
          simp at h2
          obtain ⟨rfl,rfl⟩:=h2
          obtain ⟨⟨fd,zz,g1,g2,g3,g4⟩,g5⟩:=bx j q y.1 y.2 h1 hj
          refine ⟨?_,g5⟩
          simp only [Nx,e2] at g1
          have:=Qb fs.toList pl epl y.1 fd zz (by simpa using g1) g2
          simp [this,g3,g4])
       (GW ec h J) hb
      refine ⟨.agg cs,?_,by simpa using Ba.mkAgg hr⟩
      simp only [execOp,ho]
      refine j4 _ _ (run_build w t _ cs ?_)
      simpa [Program.built,e1,e2,ez,epl] using QM
   .cases hc
  .rename_i i len e e1 e2
   split at hc
   .rename_i z n ez en
    split at hc
    .rename_i l el
     cases ec:E0 z.cells.toList with
     | none => simp [ec] at hc
     |some zl=>
      simp [ec] at hc
      subst hc
      simp only [Au.val] at A4
      cases hb:Yq (fun s=>Bf (s.ev st.env)) zl l with
      | none => simp [hb] at A4
      |some out=>
       simp [hb] at A4
       subst A4
       obtain ⟨bl,bx⟩:=Rw S hp ps.toList l el AZ
       obtain ⟨cs,QM,hr⟩:=OP (a:=a) (f:=fun s=>Bf (s.ev st.env)) (places:=fun i=>some (i*n,n)) l (ps.toList.map fun (i,x)=>(i,a.eval x)) zl z.cells out (by simp [bl])
        (fun j q i v h1 h2 => by
          simp only [List.getElem?_map] at h2
          cases hj:ps.toList[j]? with
          | none => rw [hj] at h2; simp at h2
          |some y=>
           rw [hj] at h2
           simp at h2
           obtain ⟨rfl,rfl⟩:=h2
           obtain ⟨⟨g1,g2⟩,g5⟩:=bx j q y.1 y.2 h1 hj
           exact ⟨by rw [g1,g2],g5⟩)
        (GW ec h J) hb
       refine ⟨.agg cs,?_,by simpa using Ba.mkAgg hr⟩
       simp only [execOp,ho]
       refine j4 _ _ ?_
       have Sw:(zeroValue t).run P w=.ok z w:=by simp [zeroValue,typeInfo,e1,ez]
       have hss:(sizeOf e).run P w=.ok n w:=C2 en w
       simp only [Instr.build,Sem.run_bind,Sw,Result.andThen_ok,run_underlying e2,hss]
       rw [show (ps.map fun x=>(x.1,a.eval x.2)).toList=ps.toList.map fun (i,x)=>(i,a.eval x) by simp]
       rw [QM]
       rfl
    .cases hc
   .cases hc
  .cases hc
 . -- load
  rename_i t x ho
  split at hc
  .rename_i m ag s e1 e2
   split at hc
   .cases hc
   .rename_i n7
    cases hc
    simp only [Au.val] at A4
    cases hl:J9 st.hp m (Bf (s.ev st.env)) with
    | none => simp [hl] at A4
    |some cs=>
     simp [hl] at A4
     subst A4
     obtain ⟨u,h1,h2⟩:=PO (P:=P) (t:=t) e1 (by intro e;cases ag<;>simp_all) mm (A1 S hp e2 AZ) hl
     refine ⟨u,?_,by cases ag<;>simpa using h2⟩
     simp only [execOp,ho]
     exact j4 _ _ h1
  .cases hc
 . -- binOp
  rename_i op t x y yt ho
  split at hc
  .rename_i sx sy ex ey
   split at hc
   .rename_i cl ecl
    cases hc
    simp only [Au.val] at A4
    obtain ⟨z,h1,h2⟩:=RC (P:=P) (w:=w) (x:=x) (y:=y) ecl (A1 S hp ex AZ.1) (A1 S hp ey AZ.2) DJ A4
    refine ⟨z,?_,h2⟩
    simp only [execOp,ho]
    exact j4 _ _ h1
   .split at hc
    .rename_i fs hu
     have key:∀(neg:Bool) ks,HO P 0 fs.toList=some ks->(op=.eql∧neg=false∨op=.neq∧neg=true)->P.stoodInHeld t=false∧P.eqGuardType P.depth t=false->c=.eqs neg ks sx sy ->
      ∃v,(execOp a.eval o).run P w=.ok (.value v) w∧Ba h J U v:=by
      intro neg ks x8 hop Db TS
      subst TS
      simp only [Au.val] at A4
      split at A4
      .rename_i l l' fx fy
       split at A4
       .rename_i e he
        cases A4
        have rx:=A1 S hp ex AZ.1
        have ry:=A1 S hp ey AZ.2
        rw [fx] at rx
        rw [fy] at ry
        obtain ⟨xs,hx,rx⟩:=rx.agg
        obtain ⟨ys,hy,ry⟩:=ry.agg
        have Fn:P.fieldsOf t=fs:=by simp [Program.fieldsOf,hu]
        have BE:(Op.equal t (.agg xs.toArray) (.agg ys.toArray)).run P w=.ok e w:=by
         show (Op.equalIn (9998+1+1) t _ _).run P w=_
         rw [run_equalIn_struct w (9998+1) t _ _ (by rw [Fn];exact hu) Db.1,Fn]
         exact ZU 0 ks l l' e x8 he (by simpa using rx) (by simpa using ry)
        have hgd:(eqGuard op t x y (.agg xs.toArray) (.agg ys.toArray)).run P w=.ok () w:=by
         rcases hop with ⟨rfl,_⟩ | ⟨rfl,_⟩<;>simp [eqGuard,Db.2]
        refine ⟨.bool (if neg then !e else e),?_,.pu _ _ (.b _)⟩
        simp only [execOp,ho]
        refine j4 _ _ ?_
        rw [hx,hy]
        rcases hop with ⟨rfl,rfl⟩ | ⟨rfl,rfl⟩<;>simp [hgd,binOp,BE]
       .cases A4
      .cases A4
     split at hc
     .rename_i ks x8
      split at hc
      .rename_i Db
       cases hc
       exact key false ks x8 (.inl ⟨rfl,rfl⟩) Db rfl
      .cases hc
     .rename_i ks x8
      split at hc
      .rename_i Db
       cases hc
       exact key true ks x8 (.inr ⟨rfl,rfl⟩) Db rfl
      .cases hc
     .cases hc
    .exfalso
     unfold nlC at hc
     split at hc
     .cases hc;simp [Au.isV] at hv
     .cases hc;simp [Au.isV] at hv
     .cases hc
    .cases hc
  .cases hc
 . -- unOp
  rename_i op t x ho
  cases ex:Bt C.N x with
  | none => simp [ex] at hc
  |some s=>
   simp [ex] at hc
   subst hc
   have r:=A1 S hp ex AZ
   simp only [Au.val] at A4
   unfold unV at A4
   split at A4
   .rename_i b hb
    cases A4
    rw [hb] at r
    refine ⟨_,?_,.pu _ _ (.b _)⟩
    simp [execOp,ho,r.bool,Op.unary]
   .rename_i k n hb
    cases A4
    rw [hb] at r
    refine ⟨_,?_,.pu _ _ (.i _ _)⟩
    simp [execOp,ho,r.int,Op.unary,Op.intArith]
   .cases A4
 . -- convert
  rename_i s d x ho
  split at hc
  .rename_i sx ds k ex e1 e2
   cases hc
   have r:=A1 S hp ex AZ
   simp only [Au.val] at A4
   split at A4
   .rename_i k0 n hb
    cases A4
    rw [hb] at r
    refine ⟨_,?_,.pu _ _ (.i _ _)⟩
    simp [execOp,ho,r.int,convert,run_underlying e1,run_underlying e2,Conv.intToInt]
   .cases A4
  .rename_i sx ex e1 e2
   cases hc
   have r:=A1 S hp ex AZ
   simp only [Au.val] at A4
   split at A4
   .rename_i y hb
    cases A4
    rw [hb] at r
    refine ⟨_,?_,.pu _ _ (.s _)⟩
    simp [execOp,ho,r.str,convert,run_underlying e1,run_underlying e2]
   .cases A4
  .rename_i sx e ex e1 e2
   split at hc
   .rename_i e3
    split at hc
    .cases hc
     have r:=A1 S hp ex AZ
     simp only [Au.val] at A4
     split at A4
     .rename_i l hl
      split at A4
      .rename_i b hb
       cases A4
       have BE:=Vb (P:=P) mm r hl hb
       refine ⟨_,?_,.pu _ _ (.s _)⟩
       simp only [execOp,ho]
       refine j4 _ _ ?_
       obtain ⟨aa,cap,ev,_⟩:=Fb mm r hl
       rw [ev] at BE ⊢
       simp [convert,run_underlying e1,run_underlying e2,run_underlying e3,BE]
      .cases A4
     .cases A4
    .cases hc
   .cases hc
  .cases hc
 . -- makeInterface
  rename_i t x ho
  split at hc
  .cases hc
  .rename_i sx d hni ex e1
   cases hc
   have r:=A1 S hp ex AZ
   simp only [Au.val,zm.injEq] at A4
   subst A4
   refine ⟨.iface t (a.eval x),?_,.fc _ _ _ r⟩
   simp only [execOp,ho]
   refine j4 _ _ ?_
   simp only [Instr.makeInterface,Sem.run_bind,run_underlying e1,Result.andThen_ok]
   cases d<;>simp_all
  .cases hc
 . -- makeFunc
  rename_i f first cap ho
  split at hc
  .rename_i hf
   cases ex:srcs C.N cap.toList with
   | none => simp [ex] at hc
   |some l=>
    simp [ex] at hc
    subst hc
    simp only [Au.val,zm.injEq] at A4
    subst A4
    have r:=ED S hp ex AZ
    refine ⟨.func (.func f) #[] (cap.toList.map a.eval).toArray,?_,.fn _ _ _ r.1 r.2⟩
    simp only [execOp,ho]
    refine j4 _ _ ?_
    have:first=#[]:=by simpa using hf
    subst this
    simp [Instr.makeFunc]
    apply z1t
    simp
  .cases hc
 . -- typeAssert
  rename_i x xt t ok ho
  split at hc
  .cases hc
  .rename_i sx d i hni ex e1 e2
   split at hc
   .rename_i z ez
    split at hc
    .rename_i Ka
     cases ec:cav z with
     | none => simp [ec] at hc
     |some zz=>
      simp [ec] at hc
      subst hc
      subst Ka
      have r:=A1 S hp ex AZ
      have hz:=NC ec h J
      have pair:∀(U:AV) (v:Value) (b:Bool),Ba h J U v->Ba h J (.tp [U,.b b]) (.tuple #[v,.bool b]):=fun U v b r=>Ba.mkTup (vs:=[v,.bool b]) (.cons r (.cons (.pu _ _ (.b b)) .nil))
      have Sw:(zeroValue t).run P w=.ok z w:=by simp [zeroValue,typeInfo,e2,ez]
      simp only [Au.val] at A4
      split at A4
      .rename_i u y hb
       rw [hb] at r
       obtain ⟨v,QL,rv⟩:=r.face
       split at A4
       .rename_i hut
        cases A4
        refine ⟨_,?_,pair _ _ _ rv⟩
        simp only [execOp,ho]
        refine j4 _ _ ?_
        rw [QL]
        simp only [Instr.typeAssert,Sem.run_bind,run_underlying e1,Result.andThen_ok]
        cases d<;>simp_all
       .rename_i hut
        cases A4
        refine ⟨_,?_,pair _ _ _ hz⟩
        simp only [execOp,ho]
        refine j4 _ _ ?_
        rw [QL]
        simp only [Instr.typeAssert,Sem.run_bind,run_underlying e1,Result.andThen_ok]
        cases d<;>simp_all
      .rename_i hb
       rw [hb] at r
       cases A4
       have e0:=r.nilf
       refine ⟨_,?_,pair _ _ _ hz⟩
       simp only [execOp,ho]
       refine j4 _ _ ?_
       rw [e0]
       simp only [Instr.typeAssert,Sem.run_bind,run_underlying e1,Result.andThen_ok]
       cases d<;>simp_all
      .cases A4
    .cases hc
   .cases hc
  .cases hc
 . -- extract
  rename_i x j ho
  cases ex:Bt C.N x with
  | none => simp [ex] at hc
  |some s=>
   simp [ex] at hc
   subst hc
   have r:=A1 S hp ex AZ
   simp only [Au.val] at A4
   split at A4
   .rename_i l hb
    rw [hb] at r
    obtain ⟨vs,e,rs⟩:=r.tup
    obtain ⟨v,QL⟩:=EG rs.1 A4
    refine ⟨v,?_,rs.2 j U v A4 QL⟩
    simp only [execOp,ho]
    refine j4 _ _ ?_
    rw [e]
    simp [Instr.extract,QL]
   .cases A4
 . -- fieldAddr
  rename_i t x f ho
  split at hc
  .rename_i s fd ex efd
   split at hc
   .rename_i z ez
    split at hc
    .cases hc
    .rename_i h0
     cases hc
     simp only [Au.val] at A4
     obtain ⟨u,h1,h2⟩:=Mh (P:=P) (w:=w) efd ez h0 (A1 S hp ex AZ) A4
     refine ⟨u,?_,h2⟩
     simp only [execOp,ho]
     exact j4 _ _ h1
   .cases hc
  .cases hc
 . -- field
  rename_i t x f ho
  split at hc
  .rename_i s fd ex efd
   split at hc
   .rename_i m ag ez
    split at hc
    .cases hc
    .rename_i h0
     cases hc
     simp only [Au.val] at A4
     split at A4
     .rename_i l hb
      split at A4
      .rename_i hle
       cases A4
       have r:=A1 S hp ex AZ
       rw [hb] at r
       obtain ⟨u,h1,h2⟩:=Vu (P:=P) (w:=w) efd ez (by intro e;cases ag<;>simp_all) r hle
       refine ⟨u,?_,h2⟩
       simp only [execOp,ho]
       exact j4 _ _ h1
      .cases A4
     .cases A4
   .cases hc
  .cases hc
 . -- indexAddr
  rename_i t x i ho
  split at hc
  .rename_i sx si e ex ei ee
   cases ez:E1 P e with
   | none => simp [ez] at hc
   |some z=>
    simp [ez] at hc
    subst hc
    simp only [Au.val] at A4
    simp only [Au.pre] at DJ
    split at A4
    .rename_i k j hj
     cases A4
     rw [hj] at DJ
     split at DJ
     .rename_i k' j' l Nv hl
      cases Nv
      have ri:=A1 S hp ei AZ.2
      rw [hj] at ri
      obtain ⟨u,h1,h2⟩:=Ms (P:=P) ee ez mm (A1 S hp ex AZ.1) hl (k:=k) DJ.1 DJ.2
      refine ⟨u,?_,h2⟩
      simp only [execOp,ho]
      refine j4 _ _ ?_
      rw [ri.int]
      exact h1
     .exact DJ.elim
    .cases A4
  .rename_i sx si ex ei ee
   split at hc
   .rename_i len e eu
    cases ez:E1 P e with
    | none => simp [ez] at hc
    |some z=>
     simp [ez] at hc
     subst hc
     simp only [Au.val] at A4
     simp only [Au.pre] at DJ
     split at A4
     .rename_i kk oo k j hb hj
      cases A4
      rw [hj] at DJ
      have ri:=A1 S hp ei AZ.2
      have rx:=A1 S hp ex AZ.1
      rw [hj] at ri
      rw [hb] at rx
      obtain ⟨u,h1,h2⟩:=Aea (P:=P) eu ez (w:=w) rx (k:=k) DJ.1 DJ.2
      refine ⟨u,?_,h2⟩
      simp only [execOp,ho]
      refine j4 _ _ ?_
      rw [ri.int]
      exact h1
     .cases A4
   .cases hc
  .cases hc
 . -- index
  rename_i t x i ho
  split at hc
  .rename_i sx si ex ei ee
   cases hc
   simp only [Au.val] at A4
   simp only [Au.pre] at DJ
   split at A4
   .rename_i y k j hy hj
    cases A4
    rw [hy,hj] at DJ
    have ri:=A1 S hp ei AZ.2
    have rx:=A1 S hp ex AZ.1
    rw [hj] at ri
    rw [hy] at rx
    obtain ⟨h0,h1⟩:=DJ
    refine ⟨_,?_,.pu _ _ (.i _ _)⟩
    simp only [execOp,ho]
    refine j4 _ _ ?_
    rw [ri.int,rx.str]
    have BY:j.toNat<y.data.size:=h1
    have:y[j.toNat]?=some (y.data.toList.getD j.toNat 0):=by
     rw [getElem?_pos y j.toNat h1]
     show some (y.data[j.toNat])=_
     rw [List.getD_eq_getElem?_getD,Array.getElem?_toList,Array.getElem?_eq_getElem BY]
     rfl
    simp [Instr.index,asIntOf,run_underlying ee,h0,this]
   .cases A4
  .rename_i sx si len e ex ei eu
   split at hc
   .rename_i m ag ez
    split at hc
    .cases hc
    .rename_i n7
     cases hc
     simp only [Au.val] at A4
     simp only [Au.pre] at DJ
     split at A4
     .rename_i l k j hb hj
      split at A4
      .rename_i hle
       cases A4
       rw [hj] at DJ
       have rx:=A1 S hp ex AZ.1
       have ri:=A1 S hp ei AZ.2
       rw [hb] at rx
       rw [hj] at ri
       have e2:=ri.int
       obtain ⟨u,g1,g2⟩:=Agm (P:=P) (w:=w) eu ez (by intro e;cases ag<;>simp_all) rx (k:=k) DJ.1 DJ.2 hle
       refine ⟨u,?_,g2⟩
       simp only [execOp,ho]
       refine j4 _ _ ?_
       rw [e2]
       exact g1
      .cases A4
     .cases A4
   .cases hc
  .cases hc
 . -- slice
  rename_i t x lo hi ho
  split at hc
  .rename_i sx lo' Md e ex elo u7 ee
   cases ez:E1 P e with
   | none => simp [ez] at hc
   |some z=>
    simp [ez] at hc
    subst hc
    obtain ⟨ox,olo,ohi⟩:=AZ
    simp only [Au.val] at A4
    simp only [Au.pre] at DJ
    split at A4
    .rename_i l hl
     rw [hl] at DJ
     obtain ⟨hb,hn⟩:=DJ
     unfold Rf at hb
     split at A4
     .rename_i x0 y0 hx hy
      rw [hx,hy] at hb
      obtain ⟨h0,h1,h2⟩:=hb
      have r:=A1 S hp ex ox
      obtain ⟨aa,cap,ev,OD,_⟩:=Fb mm r hl
      rw [ev] at r
      have BE:=TL (P:=P) S hp elo u7 olo ohi OD true hx hy h0 h1 h2
      have hcut:=Abc mm (Afp hl) (Aa1 mm r) OD (x:=x0.toNat) (y:=y0.toNat) (by omega) (by omega) hn A4
      refine ⟨_,?_,hcut⟩
      simp only [execOp,ho]
      refine j4 _ _ ?_
      rw [ev]
      simp [Instr.sliceAt,Instr.slice,run_underlying ee,BE,C2 ez]
     .cases A4
    .cases A4
  .rename_i sx lo' Md ex elo u7 ee
   cases hc
   obtain ⟨ox,olo,ohi⟩:=AZ
   simp only [Au.val] at A4
   simp only [Au.pre] at DJ
   split at A4
   .rename_i y hy0
    rw [hy0] at DJ
    split at A4
    .rename_i x0 y0 hx hy
     cases A4
     simp only [Rf,hx,hy] at DJ
     obtain ⟨h0,h1,h2⟩:=DJ
     have r:=A1 S hp ex ox
     rw [hy0] at r
     have BE:=TL (P:=P) S hp elo u7 olo ohi (Nat.le_refl _) false hx hy h0 h1 h2
     refine ⟨_,?_,.pu _ _ (.s _)⟩
     simp only [execOp,ho]
     refine j4 _ _ ?_
     rw [r.str]
     simp [Instr.sliceAt,Instr.slice,run_underlying ee,BE]
    .cases A4
   .cases A4
  .cases hc
 . -- slice with a third bound
  rename_i t x hi mx ho
  split at hc
  .rename_i sx k1 n1 k2 n2 e ex u7 emx ee
   split at hc
   .rename_i h0
    obtain ⟨rfl,rfl⟩:=h0
    cases ez:E1 P e with
    | none => simp [ez] at hc
    |some z=>
     simp [ez] at hc
     subst hc
     simp only [Au.val] at A4
     have r:=A1 S hp ex AZ
     have rh:=A1 S hp u7 trivial
     have rm:=A1 S hp emx trivial
     obtain ⟨rfl,aa,len,cap,ev⟩:=Aer r A4
     have e1:a.eval hi=.int k1 0:=rh.int
     have e2:a.eval mx=.int k2 0:=rm.int
     refine ⟨.slice (if 0=0 then aa else aa.map (·.add (0*z))) 0 0,?_,.pu _ _ (.e0 _)⟩
     simp only [execOp,ho]
     refine j4 _ _ ?_
     have b1:=run_sliceBound (P:=P) w k2 0 cap .slice3Acap (Int.le_refl _) (by omega)
     have b2:=run_sliceBound (P:=P) w k1 0 0 .slice3B (Int.le_refl _) (by omega)
     simp only [Int.toNat_zero] at b1 b2
     rw [ev]
     simp [Instr.sliceAt,Instr.slice,run_underlying ee,Instr.sliceBounds,e1,e2,b1,b2,C2 ez]
   .cases hc
  .cases hc
 . -- alloc
  exfalso
  split at hc
  .split at hc
   .rcases Sj hc with ⟨_, _, rfl⟩ | ⟨_, rfl, _⟩ <;> simp [Au.isV] at hv
   .cases hc
  .cases hc
 .exfalso
  rename_i x _
  cases ec:Bt C.N x<;>simp [ec] at hc
  subst hc
  simp [Au.isV] at hv
 .exfalso
  split at hc
  .cases hc;simp [Au.isV] at hv
  .cases hc
 .exfalso
  split at hc
  .split at hc
   .split at hc
    .cases hc;simp [Au.isV] at hv
    .cases hc
   .cases hc
  .cases hc
 .exfalso
  split at hc
  .split at hc
   .split at hc
    .rename_i z _
     split at hc
     .cases ec : E0 z.cells.toList <;> simp [ec] at hc; subst hc; simp [Au.isV] at hv
     .cases hc
    .cases hc
   .cases hc
  .cases hc
 . -- nilCheck
  rename_i x ho
  cases ex:Bt C.N x with
  | none => simp [ex] at hc
  |some s=>
   simp [ex] at hc
   subst hc
   have r:=A1 S hp ex AZ
   simp only [Au.val] at A4
   generalize hev:a.eval x=vv at r
   unfold ncV at A4
   split at A4
   .rename_i k off hb
    cases A4
    rw [hb] at r
    cases r with
    | pu _ _ p => cases p
    |bx _ _ b c e=>
     refine ⟨_,?_,.bx _ _ b c e⟩
     simp [execOp,ho,hev]
   .rename_i U n i off hb
    cases A4
    rw [hb] at r
    cases r with
    | pu _ _ p => cases p
    |ep _ _ _ _ b ofs len cap r' hi=>
     refine ⟨_,?_,.ep _ _ _ _ b ofs len cap r' hi⟩
     simp [execOp,ho,hev]
   .cases A4
 .exfalso
  split at hc
  .split at hc
   .cases hc;simp [Au.isV] at hv
   .cases hc
  .cases hc
 . -- lookup
  rename_i t x ix ok ho
  split at hc
  .rename_i sx ss kt e ex es et
   split at hc
   .rename_i i ek ei
    split at hc
    .rename_i z ez
     cases ec:cav z with
     | none => simp [ec] at hc
     |some zz=>
      simp [ec] at hc
      subst hc
      have hz:=NC ec h J
      have Sw:(zeroValue e).run P w=.ok z w:=by simp [zeroValue,typeInfo,ei,ez]
      have r1:=A1 S hp ex AZ.1
      have r2:=A1 S hp es AZ.2
      simp only [Au.val] at A4
      split at A4
      .rename_i k b h1 h2
       have hmr:∃l b' c' v7 b8,U=lkV ok zz (B9 b l)∧J k 0=some (some b',c')∧w.heap[b']?=some (.map v7 b8)∧MR h l v7.toList:=by
        have Do:=mm.ch k
        split at A4
        .rename_i l hk
         cases A4
         rw [hk] at Do
         obtain ⟨b',c',v7,b8,q1,q2,q3⟩:=Akc Do
         exact ⟨l,b',c',v7,b8,rfl,q1,q2,q3⟩
        .rename_i l sn hk
         cases A4
         rw [hk] at Do
         obtain ⟨b',c',v7,b8,q1,q2,q3⟩:=Acy Do
         exact ⟨l,b',c',v7,b8,rfl,q1,q2,q3⟩
        .cases A4
       clear A4
       obtain ⟨l,b',c',v7,b8,rfl,q1,q2,q3⟩:=hmr
       rw [h1] at r1
       rw [h2] at r2
       have e2:=r2.str
       generalize hev:a.eval x=vv at r1
       cases r1 with
       | pu _ _ p => cases p
       |mp _ bb c e0=>
        rw [e0] at q1
        cases q1
        have pair:∀(U:AV) (v:Value) (b:Bool),Ba h J U v->Ba h J (.tp [U,.b b]) (.tuple #[v,.bool b]):=fun U v b r=>Ba.mkTup (vs:=[v,.bool b]) (.cons r (.cons (.pu _ _ (.b b)) .nil))
        have v8:=MapKept.run_checkKey (P:=P) (w:=w) ek (k:=.string b) trivial v7.isEmpty 9999
        rcases Kc h b .un l v7.toList 0 q3 with ⟨m1,m2,_⟩ | ⟨γ,j,v,m1,m2,m3,_⟩
        .have hf:=MapKept.run_findKey (P:=P) (w:=w) ek m2
         rw [m1]
         cases ok with
         |true=>
          refine ⟨.tuple #[z,.bool false],?_,pair _ _ _ hz⟩
          simp only [execOp,ho]
          refine j4 _ _ ?_
          rw [hev,e2]
          simp [Instr.lookup,run_underlying et,MapKept.run_getObj_map q2,v8,hf,Sw]
         |false=>
          refine ⟨z,?_,hz⟩
          simp only [execOp,ho]
          refine j4 _ _ ?_
          rw [hev,e2]
          simp [Instr.lookup,run_underlying et,MapKept.run_getObj_map q2,v8,hf,Sw]
        .have hf:=MapKept.run_findKey (P:=P) (w:=w) ek m2
         rw [m1]
         cases ok with
         |true=>
          refine ⟨.tuple #[v,.bool true],?_,pair _ _ _ (.pu _ _ m3)⟩
          simp only [execOp,ho]
          refine j4 _ _ ?_
          rw [hev,e2]
          simp [Instr.lookup,run_underlying et,MapKept.run_getObj_map q2,v8,hf]
         |false=>
          refine ⟨v,?_,.pu _ _ m3⟩
          simp only [execOp,ho]
          refine j4 _ _ ?_
          rw [hev,e2]
          simp [Instr.lookup,run_underlying et,MapKept.run_getObj_map q2,v8,hf]
      .cases A4
    .cases hc
   .cases hc
  .cases hc
 .exfalso
  split at hc
  .split at hc
   .cases hc;simp [Au.isV] at hv
   .cases hc
  .cases hc
 .exfalso
  split at hc
  .split at hc
   .cases hc;simp [Au.isV] at hv
   .cases hc
  .cases hc
 .exfalso
  obtain ⟨y,_,rfl⟩:=z1h.1 hc
  simp [Au.isV] at hv
 .exfalso
  obtain ⟨y,_,rfl⟩:=z1h.1 hc
  simp [Au.isV] at hv
 . -- call
  rename_i cc ho
  split at hc
  .rename_i j8
   split at hc
   .rename_i x t ex et
    have DK:∃y,cc.args.toList=[y]∧Bt C.N y=some x:=by
     cases hl:cc.args.toList with
     | nil => simp [hl, srcs] at ex
     |cons y r=>
      rw [hl] at ex
      cases r with
      |nil=>
       simp only [srcs] at ex
       cases hy:Bt C.N y with
       | none => simp [hy] at ex
       | some s => simp [hy] at ex; subst ex; exact ⟨y, rfl, hy⟩
      |cons y2 r2=>
       simp only [srcs] at ex
       exfalso
       cases hy:Bt C.N y<;>simp [hy] at ex
       cases hy2:Bt C.N y2<;>simp [hy2] at ex
       cases hy3:srcs C.N r2<;>simp [hy3] at ex
    obtain ⟨y,hy1,hy2⟩:=DK
    have OC:cc.argTypes=#[t]:=by apply z1t;simpa using et
    have H3:cc.args=#[y]:=by apply z1t;simpa using hy1
    split at hc
    .rename_i hu
     cases hc
     have r:=A1 S hp hy2 AZ
     simp only [Au.val,Xq] at A4
     split at A4
     .rename_i s hs
      simp at A4
      subst A4
      rw [hs] at r
      refine ⟨_,?_,.pu _ _ (.i _ _)⟩
      simp [execOp,ho,resolve,j8,H3,OC,invoke,builtin,Builtin.len_,run_underlying hu,r.str,goInt]
     .simp at A4
    .rename_i e hu
     cases hc
     have r:=A1 S hp hy2 AZ
     simp only [Au.val,Xq] at A4
     split at A4
     .rename_i l hl
      simp at A4
      subst A4
      obtain ⟨aa,cap,ev,_⟩:=Fb mm r hl
      refine ⟨_,?_,.pu _ _ (.i _ _)⟩
      simp [execOp,ho,resolve,j8,H3,OC,invoke,builtin,Builtin.len_,run_underlying hu,ev,goInt]
     .simp at A4
    .cases hc
   .cases hc
  .exfalso
   split at hc
   .split at hc
    .split at hc
     .split at hc
      .split at hc
       .cases hc;simp [Au.isV] at hv
       .cases hc
      .cases hc
     .cases hc
    .split at hc
     .split at hc
      .split at hc
       .cases hc;simp [Au.isV] at hv
       .cases hc
      .cases hc
     .cases hc
    .cases hc
   .cases hc
  .rename_i j8
   split at hc
   .rename_i x y ea
    cases hc
    obtain ⟨y1,y2,DK,ex,ey⟩:=LH ea
    have H3:cc.args=#[y1,y2]:=by apply z1t;simpa using DK
    have r1:=A1 S hp ex AZ.1
    have r2:=A1 S hp ey AZ.2
    simp only [Au.val] at A4
    split at A4
    .rename_i k1 n1 k2 n2 e1 e2
     split at A4
     .rename_i hk
      subst hk
      cases A4
      rw [e1] at r1
      rw [e2] at r2
      refine ⟨_,?_,.pu _ _ (.i _ _)⟩
      simp [execOp,ho,resolve,j8,H3,invoke,builtin,Builtin.min_,Builtin.min2,r1.int,r2.int]
     .cases A4
    .cases A4
   .cases hc
  .rename_i j8
   split at hc
   .rename_i x y ea
    cases hc
    obtain ⟨y1,y2,DK,ex,ey⟩:=LH ea
    have H3:cc.args=#[y1,y2]:=by apply z1t;simpa using DK
    have r1:=A1 S hp ex AZ.1
    have r2:=A1 S hp ey AZ.2
    simp only [Au.val] at A4
    split at A4
    .rename_i k1 n1 k2 n2 e1 e2
     split at A4
     .rename_i hk
      subst hk
      cases A4
      rw [e1] at r1
      rw [e2] at r2
      refine ⟨_,?_,.pu _ _ (.i _ _)⟩
      simp [execOp,ho,resolve,j8,H3,invoke,builtin,Builtin.max_,Builtin.max2,r1.int,r2.int]
     .cases A4
    .cases A4
   .cases hc
  .exfalso
   split at hc
   .split at hc
    .split at hc
     .cases hc;simp [Au.isV] at hv
     .cases hc
    .cases hc
   .cases hc
  .exfalso
   split at hc
   .split at hc
    .split at hc
     .split at hc
      .split at hc
       .obtain ⟨_,_,rfl⟩:=z1h.1 hc;simp [Au.isV] at hv
       .cases hc
      .cases hc
     .cases hc
    .cases hc
   .cases hc
  .exfalso
   cases ec:srcs C.N cc.args.toList<;>simp [ec] at hc
   subst hc
   simp [Au.isV] at hv
  .exfalso
   split at hc
   .cases hc;simp [Au.isV] at hv
   .cases hc
  .cases hc
 .cases hc
end
