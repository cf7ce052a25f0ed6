/- Proof. Conditions: none. -/
import Derived.Laws.BytesString
import Derived.Laws.BytesArg
import Derived.Test.YtinbodeocoeneaaGreatDoorIc3
open List renaming getElem?_eq_getElem→zlg
namespace Go.Eng
set_option linter.all false
theorem bparts_rel {P:Program} {C:Ctx} {st:St} {h:HP} {ρ:RO} {a:Act} {w:World} (S:Sat C st h ρ a w) {p:Prop} (hp:p) {t:TypeId}:∀(ps:List (Nat × Operand)) (l:List (Nat × Nat × Src)),bparts P C.N t ps=some l →
  obl st.env p (l.map (·.2.2))→l.length=ps.length∧∀(j:Nat) q i x,l[j]?=some q→ps[j]?=some (i,x)→(∃fd z,tyFd P t i=some fd∧tySz P fd.type=some z∧q.1=fd.offset∧q.2.1=z)∧Rel h ρ (fet (q.2.2.ev st.env)) (a.eval x):=by
 intro ps
 induction ps with
 | nil=>intro l e o;simp [bparts] at e;subst e;exact ⟨rfl,fun j q i x h1=>by simp at h1⟩
 | cons y ps ih =>
  intro l e o
  obtain ⟨i,x⟩:=y
  unfold bparts at e
  split at e
  .rename_i fd s l' e1 e2 e3
   split at e
   .rename_i z e4
    cases e
    obtain ⟨o1,o2⟩:=o
    obtain ⟨i1,i2⟩:=ih l' e3 o2
    refine ⟨by simp [i1],fun j q i' x' h1 h2=>?_⟩
    cases j with
    | zero =>
     simp at h1 h2
     obtain ⟨rfl,rfl⟩:=h2
     subst h1
     exact ⟨⟨fd,z,e1,e4,rfl,rfl⟩,src_rel S hp e2 o1⟩
    | succ j=>exact i2 j q i' x' (by simpa using h1) (by simpa using h2)
   .cases e
  .cases e
theorem eqc_run {P:Program} {h:HP} {ρ:RO} {w:World} {d:Nat} {xs ys:List Value} {fs:List Field}:∀(o:Nat) (ks:List Nat) (l l':List AV) (e:Bool),fkinds P o fs=some ks→eqc ks l l'=some e →
  RelL h ρ l (xs.drop o)→RelL h ρ l' (ys.drop o)→(Op.eqFields (d+1) xs.toArray ys.toArray fs).run P w=.ok e w:=by
 induction fs with
 | nil =>
  intro o ks l l' e hk he _ _
  simp [fkinds] at hk
  subst hk
  cases l<;>cases l'<;>simp [eqc] at he
  subst he
  simp [Op.eqFields]
 | cons f fs ih =>
  intro o ks l l' e hk he rx ry
  have main : ∀ c ks', (c = 0 ∧ (∃ k, P.underlying f.type = some (.int k)) ∨ c = 3 ∧ P.underlying f.type = some .string ∨ c = 1 ∧ P.underlying f.type = some .bool) → fkinds P (o + 1) fs = some ks' → f.offset = o → f.name ≠ "_" → ks = c :: ks' →
    (Op.eqFields (d+1) xs.toArray ys.toArray (f::fs)).run P w=.ok e w:=by
   intro c ks' hc hks ho hn hkk
   subst hkk
   cases l with
   | nil=>cases l'<;>simp [eqc] at he
   | cons α l =>
    cases l' with
    | nil=>simp [eqc] at he
    | cons β l' =>
     unfold eqc at he
     split at he
     .rename_i e1 r h1 h2
      cases he
      have lx:o<xs.length:=by have:=rx.1;simp at this;omega
      have ly:o<ys.length:=by have:=ry.1;simp at this;omega
      have ra:Rel h ρ α xs[o]:=rx.2 0 α _ rfl (by simp [lx])
      have rb:Rel h ρ β ys[o]:=ry.2 0 β _ rfl (by simp [ly])
      have hagg:∃dd,P.underlying f.type=some dd∧(match dd with | .struct _ | .array _ _=>true | _=>false)=false:=by
       rcases hc with ⟨_,⟨k,hu⟩⟩ | ⟨_,hu⟩ | ⟨_,hu⟩<;>exact ⟨_,hu,rfl⟩
      obtain ⟨dd,hu,hnag⟩:=hagg
      have hpart:∀(zs:List Value) (hz:o<zs.length),(part f.type zs.toArray f.offset).run P w=.ok zs[o] w:=by
       intro zs hz
       have hia:(isAgg f.type).run P w=.ok false w:=by
        unfold isAgg
        rw [Sem.run_bind,run_underlying hu w]
        cases dd<;>simp_all
       simp [part,hia,ho,hz]
      have heq:(Op.equalIn (d+1) f.type xs[o] ys[o]).run P w=.ok e1 w:=by
       unfold eqk at h1
       split at h1
       .rename_i k a' k' b'
        split at h1
        .rename_i hkk
         subst hkk
         simp only [Option.some.injEq] at h1
         subst h1
         rw [ra.int,rb.int]
         rcases hc with ⟨_,⟨k2,hu2⟩⟩ | ⟨hx,_⟩ | ⟨hx,_⟩
         .rw [run_equalIn_int w d f.type k k2 a' b' hu2,int_beq]
         .cases hx
         .cases hx
        .cases h1
       .rename_i a' b'
        simp only [Option.some.injEq] at h1
        subst h1
        rw [ra.bool,rb.bool]
        rcases hc with ⟨hx,_⟩ | ⟨hx,_⟩ | ⟨_,hu2⟩
        .cases hx
        .cases hx
        .rw [run_equalIn_bool' w d f.type a' b' hu2]
       .rename_i a' b'
        simp only [Option.some.injEq] at h1
        subst h1
        rw [ra.str,rb.str]
        rcases hc with ⟨hx,_⟩ | ⟨_,hu2⟩ | ⟨hx,_⟩
        .cases hx
        .rw [run_equalIn_string w d f.type a' b' hu2,toList_beq]
        .cases hx
       .cases h1
      have hrest:=ih (o+1) ks' l l' r hks h2 ⟨by have:=rx.1;simp at this ⊢;omega,fun j α v a1 a2=>rx.2 (j+1) α v (by simpa using a1) (by simp at a2 ⊢;rw [show o+(j+1)=o+1+j by omega];exact a2)⟩
       ⟨by have:=ry.1;simp at this ⊢;omega,fun j α v a1 a2=>ry.2 (j+1) α v (by simpa using a1) (by simp at a2 ⊢;rw [show o+(j+1)=o+1+j by omega];exact a2)⟩
      simp only [Op.eqFields,hn,ne_eq,not_false_eq_true,if_true,Sem.run_bind,hpart xs lx,hpart ys ly,Result.andThen_ok,heq,Sem.run_ite]
      cases e1
      .simp
      .simp [hrest]
     .cases he
  unfold fkinds at hk
  split at hk
  .rename_i k l0 hu hks
   split at hk
   .rename_i hc;cases hk;exact main 0 l0 (.inl ⟨rfl,k,hu⟩) hks hc.1 hc.2 rfl
   .cases hk
  .rename_i l0 hu hks
   split at hk
   .rename_i hc;cases hk;exact main 3 l0 (.inr (.inl ⟨rfl,hu⟩)) hks hc.1 hc.2 rfl
   .cases hk
  .rename_i l0 hu hks
   split at hk
   .rename_i hc;cases hk;exact main 1 l0 (.inr (.inr ⟨rfl,hu⟩)) hks hc.1 hc.2 rfl
   .cases hk
  .cases hk
theorem bnd_run {P:Program} {C:Ctx} {st:St} {h:HP} {ρ:RO} {a:Act} {w:World} (S:Sat C st h ρ a w) {p:Prop} (hp:p) {lo hi:Option Operand} {lo' hi':Option Src}
  (elo:osrc C.N lo=some lo') (ehi:osrc C.N hi=some hi') (olo:obo st.env p lo') (ohi:obo st.env p hi') {len cap:Nat} (hlc:len≤cap) (isS:Bool)
  {x y:Int} (hx:bndLo (fun s=>fet (s.ev st.env)) lo'=some x) (hy:bndHi (fun s=>fet (s.ev st.env)) len hi'=some y) (h0:0≤x) (h1:x≤y) (h2:y≤len) :
  (Instr.sliceBounds isS len cap (lo.map a.eval) (hi.map a.eval) none).run P w=.ok (x.toNat,y.toNat,cap) w:=by
 have intv:∀α n v,intV α=some n→Rel h ρ α v→∃k,v=.int k n:=by
  intro α n v e r
  cases α<;>simp [intV] at e
  subst e
  exact ⟨_,r.int⟩
 have elen:((len:Int)).toNat=len:=by omega
 cases lo with
 | none =>
  simp only [osrc,Option.some.injEq] at elo
  subst elo
  simp only [bndLo,Option.some.injEq] at hx
  subst hx
  cases hi with
  | none =>
   simp only [osrc,Option.some.injEq] at ehi
   subst ehi
   simp only [bndHi,Option.some.injEq] at hy
   subst hy
   simp [Instr.sliceBounds]
  | some hi =>
   cases ec:csrc C.N hi with
   | none=>simp [osrc,ec] at ehi
   | some s =>
    simp [osrc,ec] at ehi
    subst ehi
    obtain ⟨k,hk⟩:=intv _ _ _ hy (src_rel S hp ec ohi)
    simp only [Option.map_none,Option.map_some,hk]
    simp [Instr.sliceBounds,run_sliceBound w k y cap _ (by omega) (by omega)]
 | some lo =>
  cases ecl:csrc C.N lo with
  | none=>simp [osrc,ecl] at elo
  | some sl =>
   simp [osrc,ecl] at elo
   subst elo
   obtain ⟨kl,hkl⟩:=intv _ _ _ hx (src_rel S hp ecl olo)
   cases hi with
   | none =>
    simp only [osrc,Option.some.injEq] at ehi
    subst ehi
    simp only [bndHi,Option.some.injEq] at hy
    subst hy
    simp only [Option.map_none,Option.map_some,hkl]
    simp [Instr.sliceBounds,run_sliceBound w kl x len _ (by omega) (by omega)]
   | some hi =>
    cases ec:csrc C.N hi with
    | none=>simp [osrc,ec] at ehi
    | some s =>
     simp [osrc,ec] at ehi
     subst ehi
     obtain ⟨k,hk⟩:=intv _ _ _ hy (src_rel S hp ec ohi)
     simp only [Option.map_some,hkl,hk]
     simp [Instr.sliceBounds,run_sliceBound w k y cap _ (by omega) (by omega),run_sliceBound w kl x y.toNat _ (by omega) (by omega)]
theorem sh_ds {h:HP} {ρ:RO} {hp:CH} {n:Nat} {w:World} (m:SatH h ρ hp n w) {k g len n':Nat} {l:List (List AV)} {v:Value} (r:Rel h ρ (.rw k g len) v) (hk:gc hp k=.sh g n' l) (hle:len≤l.length) :
  PRel h (.ds (l.take len)) v∧v.oneCell'=true:=by
 have hck:=m.ch k
 rw [hk] at hck
 obtain ⟨ob,cap,h1,h2,h2',h3,h4,h5⟩:=hck
 cases r with
 | pu _ _ p=>cases p
 | rw _ _ _ cap' a ob' e1 hlc ha =>
  rw [h1] at e1
  cases e1
  refine ⟨?_,rfl⟩
  have hlen:(l.take len).length=len:=by rw [List.length_take];omega
  have huse:∃us:Nat→Nat→Value,∀b,ob=some b→∀(j:Nat) x (q:Nat) α,l[j]?=some x→x[q]?=some α→cellAt h b (n'*j+q)=some (us j q)∧PRel h α (us j q):=by
   cases ob with
   | none=>exact ⟨fun _ _=>undef,fun b hb=>by cases hb⟩
   | some b =>
    obtain ⟨vs,ty,fr,a1,a3⟩:=h5 b rfl
    refine ⟨fun j q=>(vs[n'*j+q]?).getD undef,fun b' hb' j x q α g1 g2=>?_⟩
    cases hb'
    obtain ⟨u,z1,z2⟩:=a3 j x q α g1 g2
    have:cellAt h b (n'*j+q)=some u:=by simp [cellAt,a1,z1]
    simp only [z1,Option.getD_some]
    exact ⟨this,z2⟩
  obtain ⟨us,hus⟩:=huse
  have key:PRel h (.ds (l.take len)) (.slice a (l.take len).length cap):=by
   by_cases hne:l.take len=[]
   .rw [hne]
    exact .ds [] 0 a cap (fun _ _=>undef) (by simp) (fun j e h=>by simp at h) (fun j e q α h=>by simp at h) (fun h=>absurd rfl h)
   .obtain ⟨b,hb⟩:∃b,ob=some b:=by
     cases ob with
     | none =>
      have:=h4 rfl
      have:len=0:=by omega
      subst this
      simp at hne
     | some b=>exact ⟨b,rfl⟩
    refine .ds _ n' a cap us (by omega) (fun j e h=>h3 j e (take_get h).1) (fun j e q α g1 g2=>(hus b hb j e q α (take_get g1).1 g2).2) fun _=>⟨b,0,ha b hb,fun j e q α g1 g2=>?_⟩
    rw [Nat.zero_add]
    exact (hus b hb j e q α (take_get g1).1 g2).1
  rw [hlen] at key
  exact key
theorem shd_rel {h:HP} {ρ:RO} {hp:CH} {n:Nat} {w:World} (m:SatH h ρ hp n w) {α:AV} {v:Value} (r:Rel h ρ α v):Rel h ρ (shd hp α) v:=by
 unfold shd
 split
 .exact r
 .exact r
 .split
  .rename_i g' n' l hk
   split
   .rename_i hc
    obtain ⟨rfl,hle⟩:=hc
    exact .pu _ _ (sh_ds m r hk hle).1
   .exact r
  .exact r
 .exact r
theorem shd_sl {hp:CH} {α:AV} {l:List (List AV)} (hl:sl hp α=some l):sl hp (shd hp α)=some l:=by
 unfold shd
 split
 .exact hl
 .exact hl
 .split
  .rename_i k g len g' n' l' hk
   split
   .rename_i hc
    simp [sl,hk,hc] at hl ⊢
    exact hl
   .exact hl
  .exact hl
 .exact hl
theorem cut_rel {h:HP} {ρ:RO} {hp:CH} {n:Nat} {w:World} (mm:SatH h ρ hp n w) {α β:AV} {l:List (List AV)} (hl:sl hp α=some l) {a:Option Addr} {cap x y z:Nat}
  (r:Rel h ρ α (.slice a l.length cap)) (hc:l.length≤cap) (hxy:x≤y) (hy:y≤l.length) (hn:∀e∈l,e.length=z) (hv:cutV α x y=some β) :
  Rel h ρ β (.slice (if cap=x then a else a.map (·.add (x*z))) (y - x) (cap - x)):=by
 cases α with
 | ds l' =>
  simp only [sl,Option.some.injEq] at hl
  subst hl
  simp only [cutV,Option.some.injEq] at hv
  subst hv
  refine .pu _ _ ?_
  have hlen:((l'.take y).drop x).length=y - x:=by simp;omega
  rw [←hlen]
  cases r with
  | pu _ _ p =>
   cases p with
   | ds _ q0 _ _ us hc' hq hp' hm =>
    have get:∀(j:Nat) e,((l'.take y).drop x)[j]?=some e→l'[x+j]?=some e:=by
     intro j e he
     rw [List.getElem?_drop] at he
     exact (take_get he).1
    refine .ds _ q0 _ _ (fun j q=>us (x+j) q) (by omega) (fun j e he=>hq _ e (get j e he)) (fun j e q γ h1 h2=>hp' _ e q γ (get j e h1) h2) fun hne=>?_
    have hl':l'≠[]:=by intro e;subst e;simp at hne
    have hxl:x<l'.length:=by
     rcases Nat.lt_or_ge x l'.length with h | h
     .exact h
     .exfalso;apply hne;simp;omega
    obtain ⟨b,o,ea,hx⟩:=hm hl'
    subst ea
    have hz:q0=z:=by
     have e1:=hq 0 l'[0] (by simp)
     have e2:=hn l'[0] (List.getElem_mem _)
     omega
    subst hz
    rw [if_neg (by omega)]
    refine ⟨b,o+x*q0,by simp [Addr.add_lit],fun j e q γ h1 h2=>?_⟩
    have:=hx (x+j) e q γ (get j e h1) h2
    rw [show o+q0*(x+j)+q=o+x*q0+q0*j+q by rw [Nat.mul_add,Nat.mul_comm q0 x];omega] at this
    exact this
 | e0 =>
  simp only [sl,Option.some.injEq] at hl
  subst hl
  simp only [cutV,Option.some.injEq] at hv
  subst hv
  simp at hy
  subst hy
  have:x=0:=by omega
  subst this
  cases r with
  | pu _ _ p =>
   cases p
   simp
   exact .pu _ _ (.e0 _)
 | rw k g len =>
  cases x with
  | succ x=>simp [cutV] at hv
  | zero =>
   simp only [cutV,Option.some.injEq] at hv
   subst hv
   cases r with
   | pu _ _ p=>cases p
   | rw _ _ _ _ _ ob e hle ha =>
    refine .rw _ _ _ _ _ ob e (by omega) fun b hb=>?_
    rw [ha b hb]
    split
    .rfl
    .simp [Addr.add]
 | _=>simp [cutV] at hv
theorem csrc_pair0 {N:Nat} {l:List Operand} {x x':Src} (e:srcs N l=some [x,x']):∃y y',l=[y,y']∧csrc N y=some x∧csrc N y'=some x':=by
 match l with
 | []=>simp [srcs] at e
 | [y]=>cases h:csrc N y<;>simp [srcs,h] at e
 | [y,y'] =>
  cases h:csrc N y<;>cases h':csrc N y'<;>simp [srcs,h,h'] at e
  exact ⟨y,y',rfl,by rw [h,e.1],by rw [h',e.2]⟩
 | y::y'::y2::r =>
  cases h:csrc N y<;>cases h':csrc N y'<;>cases h2:csrc N y2<;>cases h3:srcs N r<;>simp [srcs,h,h',h2,h3] at e
def MR (h:HP) (l:List (ByteArray × AV)) (es:List MapEntry):Prop :=
 es.length=l.length∧∀(j:Nat) x α,l[j]?=some (x,α)→∃u born,es[j]?=some ⟨.string x,u,born⟩∧PRel h α u
theorem MR.cons {h:HP} {x:ByteArray} {α:AV} {l:List (ByteArray × AV)} {es:List MapEntry} (m:MR h ((x,α)::l) es):∃u born r,es=⟨.string x,u,born⟩::r∧PRel h α u∧MR h l r:=by
 obtain ⟨h1,h2⟩:=m
 cases es with
 | nil=>simp at h1
 | cons e r =>
  obtain ⟨u,born,h3,h4⟩:=h2 0 x α rfl
  simp at h3
  subst h3
  exact ⟨u,born,r,rfl,h4,by simpa using h1,fun j y β hj=>by
   obtain ⟨u',b',h5,h6⟩:=h2 (j+1) y β (by simpa using hj)
   exact ⟨u',b',by simpa using h5,h6⟩⟩
theorem bytes_dec (a b:ByteArray):(a == b)=decide (a=b):=by
 rw [Bool.eq_iff_iff,decide_eq_true_iff]
 exact MapKept.bytes_beq a b
theorem find_mp (h:HP) (b:ByteArray) (β:AV):∀(l:List (ByteArray × AV)) (es:List MapEntry) (i:Nat),MR h l es →
  (mfind b l=none∧Instr.findNow .string (.string b) es i=some none∧mput b β l=l++[(b,β)]) ∨
  ∃(α:AV) (j:Nat) (u:Value),mfind b l=some α∧Instr.findNow .string (.string b) es i=some (some (i+j,u))∧PRel h α u∧mput b β l=l.set j (b,β)∧(∃born,es[j]?=some ⟨.string b,u,born⟩)
 | [],es,i,m=>by
  have:es=[]:=List.length_eq_zero_iff.1 m.1
  subst this
  exact .inl ⟨rfl,rfl,rfl⟩
 | (x,α)::l,es,i,m=>by
  obtain ⟨u,born,r,rfl,hp,m2⟩:=m.cons
  by_cases hx:b=x
  .subst hx
   exact .inr ⟨α,0,u,by simp [mfind],by simp [Instr.findNow,Instr.sameNow,bytes_dec],hp,by simp [mput],born,rfl⟩
  .have hs:Instr.sameNow .string (.string b) (.string x)=some false:=by
    simp only [Instr.sameNow,bytes_dec]
    simp [hx]
   rcases find_mp h b β l r (i+1) m2 with ⟨h1,h2,h3⟩ | ⟨γ,j,v,h1,h2,h3,h4,h5⟩
   .exact .inl ⟨by simp [mfind,hx,h1],by simp [Instr.findNow,hs,h2],by simp [mput,hx,h3]⟩
   .exact .inr ⟨γ,j+1,v,by simp [mfind,hx,h1],by simp [Instr.findNow,hs,h2];omega,h3,by simp [mput,hx,h4],by simpa using h5⟩
theorem mp_mr {h:HP} {ρ:RO} {w:World} {k:Nat} {l:List (ByteArray × AV)} (s:(Chunk.mp l).sat h ρ w k):∃b c es clock,ρ k 0=some (some b,c)∧w.heap[b]?=some (.map es clock)∧MR h l es.toList:=by
 obtain ⟨b,c,es,clock,h1,h2,h3,h4⟩:=s
 exact ⟨b,c,es,clock,h1,h2,by simpa using h3,fun j x α hj=>by
  obtain ⟨u,born,h5,h6⟩:=h4 j x α hj
  exact ⟨u,born,by simpa using h5,h6⟩⟩
theorem aparts_rel {C:Ctx} {st:St} {h:HP} {ρ:RO} {a:Act} {w:World} (S:Sat C st h ρ a w) {p:Prop} (hp:p) {z:Nat}:∀(ps:List (Nat × Operand)) (l:List (Nat × Nat × Src)),aparts C.N z ps=some l →
  obl st.env p (l.map (·.2.2))→l.length=ps.length∧∀(j:Nat) q i x,l[j]?=some q→ps[j]?=some (i,x)→(q.1=i*z∧q.2.1=z)∧Rel h ρ (fet (q.2.2.ev st.env)) (a.eval x):=by
 intro ps
 induction ps with
 | nil=>intro l e o;simp [aparts] at e;subst e;exact ⟨rfl,fun j q i x h1=>by simp at h1⟩
 | cons y ps ih =>
  intro l e o
  obtain ⟨i0,x0⟩:=y
  unfold aparts at e
  split at e
  .rename_i s l' e1 e2
   cases e
   obtain ⟨o1,o2⟩:=o
   obtain ⟨h1,h2⟩:=ih l' e2 o2
   refine ⟨by simp [h1],fun j q i x hq hx=>?_⟩
   cases j with
   | zero =>
    simp at hq hx
    obtain ⟨rfl,rfl⟩:=hx
    subst hq
    exact ⟨⟨rfl,rfl⟩,src_rel S hp e1 o1⟩
   | succ j=>exact h2 j q i x (by simpa using hq) (by simpa using hx)
  .cases e
theorem run_ai {P:Program} {t e:TypeId} {len m:Nat} {ag:Bool} (hu:P.underlying t=some (.array len e)) (hz:tyA P e=some (m,ag)) (h1:ag=false→m=1) {h:HP} {ρ:RO} {w:World}
  {l:List AV} {v:Value} (r:Rel h ρ (.ag l) v) {k:IntKind} {j:Int} (h0:0≤j) (hj:j<len) (hle:j.toNat*m+m≤l.length) :
  ∃u,(Instr.index t v (.int k j)).run P w=.ok u w∧Rel h ρ (if ag then .ag ((l.drop (j.toNat*m)).take m) else l.getD (j.toNat*m) .un) u:=by
 obtain ⟨ha,hs⟩:=run_isAgg' hz w
 have hss:(sizeOf e).run P w=.ok m w:=hs
 obtain ⟨vs,rfl,rs⟩:=r.agg
 cases ag with
 | true =>
  refine ⟨.agg ((vs.drop (j.toNat*m)).take m).toArray,?_,?_⟩
  .simp [Instr.index,asIntOf,run_underlying hu,h0,hj,hss,part,ha,List.extract_eq_take_drop]
  .simp only [if_true]
   refine Rel.mkAgg ⟨by have:=rs.1;simp;omega,fun i α v h1 h2=>?_⟩
   exact rs.2 _ α v (drop_take_get h1).1 (drop_take_get h2).1
 | false =>
  have hm:=h1 rfl
  subst hm
  have hlt:j.toNat<vs.length:=by have:=rs.1;omega
  refine ⟨vs[j.toNat],?_,?_⟩
  .simp [Instr.index,asIntOf,run_underlying hu,h0,hj,hss,part,ha,hlt]
  .have hl:j.toNat<l.length:=by omega
   simp [hl]
   exact rs.2 _ _ _ (zlg hl) (zlg hlt)
theorem s0_rel {h:HP} {ρ:RO} {α β:AV} {v:Value} (r:Rel h ρ α v) (e:s0V α=some β):β=.e0∧∃a len cap,v=.slice a len cap:=by
 cases α with
 | ds l=>cases e;refine ⟨rfl,?_⟩;cases r with | pu _ _ p=>cases p with | ds _ q0 a cap _ _ _ _ _=>exact ⟨_,_,_,rfl⟩
 | e0=>cases e;refine ⟨rfl,?_⟩;cases r with | pu _ _ p=>cases p with | e0 a=>exact ⟨_,_,_,rfl⟩
 | rw k g len =>
  cases e
  refine ⟨rfl,?_⟩
  cases r with
  | pu _ _ p=>cases p
  | rw _ _ _ cap a _ _ _ _=>exact ⟨_,_,_,rfl⟩
 | _=>cases e
theorem bytes_run {P:Program} {h:HP} {ρ:RO} {hp:CH} {n:Nat} {w:World} (mm:SatH h ρ hp n w) {α:AV} {v:Value} (r:Rel h ρ α v) {l:List (List AV)} (hl:sl hp α=some l) {b:List UInt8} (hb:byt l=some b) :
  (Conv.bytesToString v).run P w=.ok (.string ⟨b.toArray⟩) w:=by
 obtain ⟨a,cap,rfl,hc,q0,hq,hm⟩:=sl_read mm r hl
 obtain ⟨xs,rfl,rfl⟩:=byt_inv l b hb
 have hcells:∀ad,a=some ad→(loadCells ad xs.length).run P w=.ok (xs.map (Value.int .u8)).toArray w:=by
  intro ad ha
  have:=run_loadCells_list (P:=P) w ad (xs.map (Value.int .u8)) (fun j v hj=>by
   have hj':j<xs.length:=by have:=(List.getElem?_eq_some_iff.1 hj).1;simpa using this
   have hne:xs.map (fun n=>[AV.i .u8 n])≠[]:=by intro e;simp at e;subst e;simp at hj'
   obtain ⟨bb,o,ea,hx⟩:=hm hne
   have e1:(xs.map (fun n=>[AV.i .u8 n]))[j]?=some [AV.i .u8 xs[j]]:=by simp [hj']
   have hq1:q0=1:=by have:=hq j _ e1;simpa using this.symm
   obtain ⟨u,hu,hr⟩:=hx j _ 0 _ e1 rfl
   subst hq1
   have hr:=hr.int
   subst hr
   rw [ea] at ha
   cases ha
   rw [Addr.add_lit]
   simp only [Nat.one_mul,Nat.add_zero] at hu
   rw [hu]
   simp [hj'] at hj
   exact congrArg some hj)
  simpa using this
 cases a with
 | none =>
  by_cases hxs:xs=[]
  .subst hxs
   simp [Conv.bytesToString]
   rfl
  .obtain ⟨bb,o,ea,_⟩:=hm (by simpa using hxs)
   cases ea
 | some ad =>
  simp only [List.length_map]
  rw [run_bytesToString w ad xs.length cap xs (hcells ad rfl),foldl_push_bytes]
  simp [ByteArray.empty,ByteArray.emptyWithCapacity]
  rfl
theorem mapM_places {P:Program}:∀(fs:List Field) (pl:List (Nat × Nat)),fs.mapM (fun f=>(P.info? f.type).map fun i=>(f.offset,i.size))=some pl →
  ∀(i:Nat) fd z,fs[i]?=some fd→tySz P fd.type=some z→pl[i]?=some (fd.offset,z):=by
 intro fs
 induction fs with
 | nil=>intro pl h i fd z e;simp at e
 | cons f fs ih =>
  intro pl h i fd z e hz
  simp only [List.mapM_cons,Option.bind_eq_bind,Option.pure_def] at h
  cases hi:P.info? f.type with
  | none=>simp [hi] at h
  | some inf =>
   cases hr:fs.mapM (fun f=>(P.info? f.type).map fun i=>(f.offset,i.size)) with
   | none=>simp [hi,hr] at h
   | some rest =>
    simp [hi,hr] at h
    subst h
    cases i with
    | zero =>
     simp at e
     subst e
     simp [tySz,hi] at hz
     subst hz
     rfl
    | succ i=>simpa using ih rest hr i fd z (by simpa using e) hz
theorem val_sound {P:Program} {C:Ctx} {st:St} {h:HP} {ρ:RO} {a:Act} {w:World} (S:Sat C st h ρ a w) {p:Prop} (hp:p) {ops:List Oper} {o:Oper} {c:COp} (hc:cop P C.N ops o=some c) (hv:c.isV=true)
    (hobs : c.obs st.env p) (hpre : c.pre st.hp (fun s => fet (s.ev st.env))) {α : AV} (hval : c.val st.hp (fun s => fet (s.ev st.env)) = some α) :
    ∃v,(execOp a.eval o).run P w=.ok (.value v) w∧Rel h ρ α v:=by
  have fin : ∀ (s : Sem Value) v, s.run P w = .ok v w → (do pure (Next.value (← s)) : Sem Next).run P w = .ok (.value v) w := fun s v e => run_value e
  have mm:=S.mem
  unfold cop at hc
  split at hc
  . rename_i x ho
    cases ex:csrc C.N x with
    | none => simp [ex] at hc
    | some s =>
      simp [ex] at hc
      subst hc
      simp only [COp.val,Option.some.injEq] at hval
      subst hval
      exact ⟨_, by simp [execOp, ho], src_rel S hp ex hobs⟩
  . rename_i x ho
    cases ex:csrc C.N x with
    | none => simp [ex] at hc
    | some s =>
      simp [ex] at hc
      subst hc
      simp only [COp.val,Option.some.injEq] at hval
      subst hval
      exact ⟨_, by simp [execOp, ho], src_rel S hp ex hobs⟩
  . rename_i c a' b ho
    split at hc
    . rename_i sc sa sb e1 e2 e3
      cases hc
      simp only [COp.val] at hval
      unfold pkV at hval
      split at hval
      rotate_left
      . rename_i y f1 f2 f3
        cases hval
        obtain ⟨o1,o2⟩:=hobs
        have r1:=src_rel S hp e1 o1
        rw [f1] at r1 o2
        obtain ⟨o2,o3⟩:=o2
        have e0:=r1.bool
        have r2:=src_rel S (p:=p∧true=true) ⟨hp,rfl⟩ e2 o2
        rw [f2] at r2
        refine ⟨_,?_,r2⟩
        simp [execOp,ho,e0,asBool]
      . rename_i z f1 f2 f3
        cases hval
        obtain ⟨o1,o2⟩:=hobs
        have r1:=src_rel S hp e1 o1
        rw [f1] at r1 o2
        obtain ⟨o2,o3⟩:=o2
        have e0:=r1.bool
        have r2:=src_rel S (p:=p∧false=false) ⟨hp,rfl⟩ e3 o3
        rw [f3] at r2
        refine ⟨_,?_,r2⟩
        simp [execOp,ho,e0,asBool]
      . cases hval
      . rename_i x y z f1 f2 f3
        cases hval
        obtain ⟨o1,o2⟩:=hobs
        have r1:=src_rel S hp e1 o1
        rw [f1] at r1 o2
        obtain ⟨o2,o3⟩:=o2
        have e0:=r1.bool
        cases x with
        | true =>
          have r2:=src_rel S (p:=p∧true=true) ⟨hp,rfl⟩ e2 o2
          rw [f2] at r2
          refine ⟨_, ?_, (by simpa using r2)⟩
          simp [execOp,ho,e0,asBool]
        | false =>
          have r2:=src_rel S (p:=p∧false=false) ⟨hp,rfl⟩ e3 o3
          rw [f3] at r2
          refine ⟨_, ?_, (by simpa using r2)⟩
          simp [execOp,ho,e0,asBool]
    . cases hc
  . -- build
    rename_i t ps ho
    split at hc
    . rename_i i fs l e1 e2 e3
      split at hc
      . rename_i z pl ez epl
        cases ec:cavs z.cells.toList with
        | none => simp [ec] at hc
        | some zl =>
          simp [ec] at hc
          subst hc
          simp only [COp.val] at hval
          cases hb : bdl (fun s => fet (s.ev st.env)) zl l with
          | none => simp [hb] at hval
          | some out =>
            simp [hb] at hval
            subst hval
            obtain ⟨bl,bx⟩:=bparts_rel S hp ps.toList l e3 hobs
            obtain ⟨cs, hcs, hr⟩ := fill_rel (a := a) (f := fun s => fet (s.ev st.env)) (places := (pl.toArray[·]?)) l (ps.toList.map fun (i, x) => (i, a.eval x)) zl z.cells out (by simp [bl])
              (fun j q i v h1 h2 => by
                simp only [List.getElem?_map] at h2
                cases hj:ps.toList[j]? with
                | none => rw [hj] at h2; simp at h2
                | some y =>
                  rw [hj] at h2
                  simp at h2
                  obtain ⟨rfl,rfl⟩:=h2
                  obtain ⟨⟨fd,zz,g1,g2,g3,g4⟩,g5⟩:=bx j q y.1 y.2 h1 hj
                  refine ⟨?_,g5⟩
                  simp only [tyFd,e2] at g1
                  have := mapM_places fs.toList pl epl y.1 fd zz (by simpa using g1) g2
                  simp [this,g3,g4])
              (cavs_rel ec h ρ) hb
            refine ⟨.agg cs, ?_, by simpa using Rel.mkAgg hr⟩
            simp only [execOp,ho]
            refine fin _ _ (run_build w t _ cs ?_)
            simpa [Program.built,e1,e2,ez,epl] using hcs
      . cases hc
    . rename_i i len e e1 e2
      split at hc
      . rename_i z n ez en
        split at hc
        . rename_i l el
          cases ec:cavs z.cells.toList with
          | none => simp [ec] at hc
          | some zl =>
            simp [ec] at hc
            subst hc
            simp only [COp.val] at hval
            cases hb : bdl (fun s => fet (s.ev st.env)) zl l with
            | none => simp [hb] at hval
            | some out =>
              simp [hb] at hval
              subst hval
              obtain ⟨bl,bx⟩:=aparts_rel S hp ps.toList l el hobs
              obtain ⟨cs, hcs, hr⟩ := fill_rel (a := a) (f := fun s => fet (s.ev st.env)) (places := fun i => some (i * n, n)) l (ps.toList.map fun (i, x) => (i, a.eval x)) zl z.cells out (by simp [bl])
                (fun j q i v h1 h2 => by
                  simp only [List.getElem?_map] at h2
                  cases hj:ps.toList[j]? with
                  | none => rw [hj] at h2; simp at h2
                  | some y =>
                    rw [hj] at h2
                    simp at h2
                    obtain ⟨rfl,rfl⟩:=h2
                    obtain ⟨⟨g1,g2⟩,g5⟩:=bx j q y.1 y.2 h1 hj
                    exact ⟨by rw [g1, g2], g5⟩)
                (cavs_rel ec h ρ) hb
              refine ⟨.agg cs, ?_, by simpa using Rel.mkAgg hr⟩
              simp only [execOp,ho]
              refine fin _ _ ?_
              have hzr : (zeroValue t).run P w = .ok z w := by simp [zeroValue, typeInfo, e1, ez]
              have hss:(sizeOf e).run P w=.ok n w:=run_sizeOf' en w
              simp only [Instr.build,Sem.run_bind,hzr,Result.andThen_ok,run_underlying e2,hss]
              rw [show (ps.map fun x => (x.1, a.eval x.2)).toList = ps.toList.map fun (i, x) => (i, a.eval x) by simp]
              rw [hcs]
              rfl
        . cases hc
      . cases hc
    . cases hc
  . -- load
    rename_i t x ho
    split at hc
    . rename_i m ag s e1 e2
      split at hc
      . cases hc
      . rename_i hcond
        cases hc
        simp only [COp.val] at hval
        cases hl:ldc st.hp m (fet (s.ev st.env)) with
        | none => simp [hl] at hval
        | some cs =>
          simp [hl] at hval
          subst hval
          obtain ⟨u, h1, h2⟩ := run_load (P := P) (t := t) e1 (by intro e; cases ag <;> simp_all) mm (src_rel S hp e2 hobs) hl
          refine ⟨u, ?_, by cases ag <;> simpa using h2⟩
          simp only [execOp,ho]
          exact fin _ _ h1
    . cases hc
  . -- binOp
    rename_i op t x y yt ho
    split at hc
    . rename_i sx sy ex ey
      split at hc
      . rename_i cl ecl
        cases hc
        simp only [COp.val] at hval
        obtain ⟨z,h1,h2⟩:=binV_sound (P:=P) (w:=w) (x:=x) (y:=y) ecl (src_rel S hp ex hobs.1) (src_rel S hp ey hobs.2) hpre hval
        refine ⟨z,?_,h2⟩
        simp only [execOp,ho]
        exact fin _ _ h1
      . split at hc
        . rename_i fs hu
          have key:∀(neg:Bool) ks,fkinds P 0 fs.toList=some ks→(op=.eql∧neg=false∨op=.neq∧neg=true)→P.stoodInHeld t=false∧P.eqGuardType P.depth t=false→c=.eqs neg ks sx sy →
              ∃v,(execOp a.eval o).run P w=.ok (.value v) w∧Rel h ρ α v:=by
            intro neg ks hks hop hst hcc
            subst hcc
            simp only [COp.val] at hval
            split at hval
            . rename_i l l' fx fy
              split at hval
              . rename_i e he
                cases hval
                have rx:=src_rel S hp ex hobs.1
                have ry:=src_rel S hp ey hobs.2
                rw [fx] at rx
                rw [fy] at ry
                obtain ⟨xs,hx,rx⟩:=rx.agg
                obtain ⟨ys,hy,ry⟩:=ry.agg
                have hfl : P.fieldsOf t = fs := by simp [Program.fieldsOf, hu]
                have hrun:(Op.equal t (.agg xs.toArray) (.agg ys.toArray)).run P w=.ok e w:=by
                  show (Op.equalIn (9998+1+1) t _ _).run P w=_
                  rw [run_equalIn_struct w (9998 + 1) t _ _ (by rw [hfl]; exact hu) hst.1, hfl]
                  exact eqc_run 0 ks l l' e hks he (by simpa using rx) (by simpa using ry)
                have hgd:(eqGuard op t x y (.agg xs.toArray) (.agg ys.toArray)).run P w=.ok () w:=by
                  rcases hop with ⟨rfl,_⟩ | ⟨rfl,_⟩<;>simp [eqGuard,hst.2]
                refine ⟨.bool (if neg then !e else e),?_,.pu _ _ (.b _)⟩
                simp only [execOp,ho]
                refine fin _ _ ?_
                rw [hx,hy]
                rcases hop with ⟨rfl,rfl⟩ | ⟨rfl,rfl⟩<;>simp [hgd,binOp,hrun]
              . cases hval
            . cases hval
          split at hc
          . rename_i ks hks
            split at hc
            . rename_i hst
              cases hc
              exact key false ks hks (.inl ⟨rfl,rfl⟩) hst rfl
            . cases hc
          . rename_i ks hks
            split at hc
            . rename_i hst
              cases hc
              exact key true ks hks (.inr ⟨rfl,rfl⟩) hst rfl
            . cases hc
          . cases hc
        . exfalso
          unfold nlC at hc
          split at hc
          . cases hc; simp [COp.isV] at hv
          . cases hc; simp [COp.isV] at hv
          . cases hc
        . cases hc
    . cases hc
  . -- unOp
    rename_i op t x ho
    cases ex:csrc C.N x with
    | none => simp [ex] at hc
    | some s =>
      simp [ex] at hc
      subst hc
      have r:=src_rel S hp ex hobs
      simp only [COp.val] at hval
      unfold unV at hval
      split at hval
      . rename_i b hb
        cases hval
        rw [hb] at r
        refine ⟨_,?_,.pu _ _ (.b _)⟩
        simp [execOp,ho,r.bool,Op.unary]
      . rename_i k n hb
        cases hval
        rw [hb] at r
        refine ⟨_,?_,.pu _ _ (.i _ _)⟩
        simp [execOp,ho,r.int,Op.unary,Op.intArith]
      . cases hval
  . -- convert
    rename_i s d x ho
    split at hc
    . rename_i sx ds k ex e1 e2
      cases hc
      have r:=src_rel S hp ex hobs
      simp only [COp.val] at hval
      split at hval
      . rename_i k0 n hb
        cases hval
        rw [hb] at r
        refine ⟨_,?_,.pu _ _ (.i _ _)⟩
        simp [execOp,ho,r.int,convert,run_underlying e1,run_underlying e2,Conv.intToInt]
      . cases hval
    . rename_i sx ex e1 e2
      cases hc
      have r:=src_rel S hp ex hobs
      simp only [COp.val] at hval
      split at hval
      . rename_i y hb
        cases hval
        rw [hb] at r
        refine ⟨_,?_,.pu _ _ (.s _)⟩
        simp [execOp,ho,r.str,convert,run_underlying e1,run_underlying e2]
      . cases hval
    . rename_i sx e ex e1 e2
      split at hc
      . rename_i e3
        split at hc
        . cases hc
          have r:=src_rel S hp ex hobs
          simp only [COp.val] at hval
          split at hval
          . rename_i l hl
            split at hval
            . rename_i b hb
              cases hval
              have hrun:=bytes_run (P:=P) mm r hl hb
              refine ⟨_,?_,.pu _ _ (.s _)⟩
              simp only [execOp,ho]
              refine fin _ _ ?_
              obtain ⟨aa,cap,ev,_⟩:=sl_read mm r hl
              rw [ev] at hrun ⊢
              simp [convert,run_underlying e1,run_underlying e2,run_underlying e3,hrun]
            . cases hval
          . cases hval
        . cases hc
      . cases hc
    . cases hc
  . -- makeInterface
    rename_i t x ho
    split at hc
    . cases hc
    . rename_i sx d hni ex e1
      cases hc
      have r:=src_rel S hp ex hobs
      simp only [COp.val,Option.some.injEq] at hval
      subst hval
      refine ⟨.iface t (a.eval x),?_,.fc _ _ _ r⟩
      simp only [execOp,ho]
      refine fin _ _ ?_
      simp only [Instr.makeInterface,Sem.run_bind,run_underlying e1,Result.andThen_ok]
      cases d<;>simp_all
    . cases hc
  . -- makeFunc
    rename_i f first cap ho
    split at hc
    . rename_i hf
      cases ex:srcs C.N cap.toList with
      | none => simp [ex] at hc
      | some l =>
        simp [ex] at hc
        subst hc
        simp only [COp.val,Option.some.injEq] at hval
        subst hval
        have r:=srcs_rel S hp ex hobs
        refine ⟨.func (.func f) #[] (cap.toList.map a.eval).toArray,?_,.fn _ _ _ r.1 r.2⟩
        simp only [execOp,ho]
        refine fin _ _ ?_
        have : first = #[] := by simpa using hf
        subst this
        simp [Instr.makeFunc]
        apply Array.ext'
        simp
    . cases hc
  . -- typeAssert
    rename_i x xt t ok ho
    split at hc
    . cases hc
    . rename_i sx d i hni ex e1 e2
      split at hc
      . rename_i z ez
        split at hc
        . rename_i hok
          cases ec:cav z with
          | none => simp [ec] at hc
          | some zz =>
            simp [ec] at hc
            subst hc
            subst hok
            have r:=src_rel S hp ex hobs
            have hz:=cav_rel ec h ρ
            have pair:∀(α:AV) (v:Value) (b:Bool),Rel h ρ α v→Rel h ρ (.tp [α,.b b]) (.tuple #[v,.bool b]):=fun α v b r=>Rel.mkTup (vs:=[v,.bool b]) (.cons r (.cons (.pu _ _ (.b b)) .nil))
            have hzr : (zeroValue t).run P w = .ok z w := by simp [zeroValue, typeInfo, e2, ez]
            simp only [COp.val] at hval
            split at hval
            . rename_i u y hb
              rw [hb] at r
              obtain ⟨v,hv',rv⟩:=r.face
              split at hval
              . rename_i hut
                cases hval
                refine ⟨_,?_,pair _ _ _ rv⟩
                simp only [execOp,ho]
                refine fin _ _ ?_
                rw [hv']
                simp only [Instr.typeAssert,Sem.run_bind,run_underlying e1,Result.andThen_ok]
                cases d<;>simp_all
              . rename_i hut
                cases hval
                refine ⟨_,?_,pair _ _ _ hz⟩
                simp only [execOp,ho]
                refine fin _ _ ?_
                rw [hv']
                simp only [Instr.typeAssert,Sem.run_bind,run_underlying e1,Result.andThen_ok]
                cases d<;>simp_all
            . rename_i hb
              rw [hb] at r
              cases hval
              have e0:=r.nilf
              refine ⟨_,?_,pair _ _ _ hz⟩
              simp only [execOp,ho]
              refine fin _ _ ?_
              rw [e0]
              simp only [Instr.typeAssert,Sem.run_bind,run_underlying e1,Result.andThen_ok]
              cases d<;>simp_all
            . cases hval
        . cases hc
      . cases hc
    . cases hc
  . -- extract
    rename_i x j ho
    cases ex:csrc C.N x with
    | none => simp [ex] at hc
    | some s =>
      simp [ex] at hc
      subst hc
      have r:=src_rel S hp ex hobs
      simp only [COp.val] at hval
      split at hval
      . rename_i l hb
        rw [hb] at r
        obtain ⟨vs,e,rs⟩:=r.tup
        obtain ⟨v,hv'⟩:=idx_some rs.1 hval
        refine ⟨v,?_,rs.2 j α v hval hv'⟩
        simp only [execOp,ho]
        refine fin _ _ ?_
        rw [e]
        simp [Instr.extract,hv']
      . cases hval
  . -- fieldAddr
    rename_i t x f ho
    split at hc
    . rename_i s fd ex efd
      split at hc
      . rename_i z ez
        split at hc
        . cases hc
        . rename_i h0
          cases hc
          simp only [COp.val] at hval
          obtain ⟨u,h1,h2⟩:=run_fieldAddr (P:=P) (w:=w) efd ez h0 (src_rel S hp ex hobs) hval
          refine ⟨u,?_,h2⟩
          simp only [execOp,ho]
          exact fin _ _ h1
      . cases hc
    . cases hc
  . -- field
    rename_i t x f ho
    split at hc
    . rename_i s fd ex efd
      split at hc
      . rename_i m ag ez
        split at hc
        . cases hc
        . rename_i h0
          cases hc
          simp only [COp.val] at hval
          split at hval
          . rename_i l hb
            split at hval
            . rename_i hle
              cases hval
              have r:=src_rel S hp ex hobs
              rw [hb] at r
              obtain ⟨u, h1, h2⟩ := run_field (P := P) (w := w) efd ez (by intro e; cases ag <;> simp_all) r hle
              refine ⟨u,?_,h2⟩
              simp only [execOp,ho]
              exact fin _ _ h1
            . cases hval
          . cases hval
      . cases hc
    . cases hc
  . -- indexAddr
    rename_i t x i ho
    split at hc
    . rename_i sx si e ex ei ee
      cases ez:tySz P e with
      | none => simp [ez] at hc
      | some z =>
        simp [ez] at hc
        subst hc
        simp only [COp.val] at hval
        simp only [COp.pre] at hpre
        split at hval
        . rename_i k j hj
          cases hval
          rw [hj] at hpre
          split at hpre
          . rename_i k' j' l hj' hl
            cases hj'
            have ri:=src_rel S hp ei hobs.2
            rw [hj] at ri
            obtain ⟨u,h1,h2⟩:=run_indexAddr (P:=P) ee ez mm (src_rel S hp ex hobs.1) hl (k:=k) hpre.1 hpre.2
            refine ⟨u,?_,h2⟩
            simp only [execOp,ho]
            refine fin _ _ ?_
            rw [ri.int]
            exact h1
          . exact hpre.elim
        . cases hval
    . cases hc
  . -- index
    rename_i t x i ho
    split at hc
    . rename_i sx si ex ei ee
      cases hc
      simp only [COp.val] at hval
      simp only [COp.pre] at hpre
      split at hval
      . rename_i y k j hy hj
        cases hval
        rw [hy,hj] at hpre
        have ri:=src_rel S hp ei hobs.2
        have rx:=src_rel S hp ex hobs.1
        rw [hj] at ri
        rw [hy] at rx
        obtain ⟨h0,h1⟩:=hpre
        refine ⟨_,?_,.pu _ _ (.i _ _)⟩
        simp only [execOp,ho]
        refine fin _ _ ?_
        rw [ri.int,rx.str]
        have hlt:j.toNat<y.data.size:=h1
        have:y[j.toNat]?=some (y.data.toList.getD j.toNat 0):=by
          rw [getElem?_pos y j.toNat h1]
          show some (y.data[j.toNat])=_
          rw [List.getD_eq_getElem?_getD,Array.getElem?_toList,Array.getElem?_eq_getElem hlt]
          rfl
        simp [Instr.index,asIntOf,run_underlying ee,h0,this]
      . cases hval
    . rename_i sx si len e ex ei eu
      split at hc
      . rename_i m ag ez
        split at hc
        . cases hc
        . rename_i hcond
          cases hc
          simp only [COp.val] at hval
          simp only [COp.pre] at hpre
          split at hval
          . rename_i l k j hb hj
            split at hval
            . rename_i hle
              cases hval
              rw [hj] at hpre
              have rx:=src_rel S hp ex hobs.1
              have ri:=src_rel S hp ei hobs.2
              rw [hb] at rx
              rw [hj] at ri
              have e2:=ri.int
              obtain ⟨u, g1, g2⟩ := run_ai (P := P) (w := w) eu ez (by intro e; cases ag <;> simp_all) rx (k := k) hpre.1 hpre.2 hle
              refine ⟨u,?_,g2⟩
              simp only [execOp,ho]
              refine fin _ _ ?_
              rw [e2]
              exact g1
            . cases hval
          . cases hval
      . cases hc
    . cases hc
  . -- slice
    rename_i t x lo hi ho
    split at hc
    . rename_i sx lo' hi' e ex elo ehi ee
      cases ez:tySz P e with
      | none => simp [ez] at hc
      | some z =>
        simp [ez] at hc
        subst hc
        obtain ⟨ox,olo,ohi⟩:=hobs
        simp only [COp.val] at hval
        simp only [COp.pre] at hpre
        split at hval
        . rename_i l hl
          rw [hl] at hpre
          obtain ⟨hb,hn⟩:=hpre
          unfold bndP at hb
          split at hval
          . rename_i x0 y0 hx hy
            rw [hx,hy] at hb
            obtain ⟨h0,h1,h2⟩:=hb
            have r:=src_rel S hp ex ox
            obtain ⟨aa,cap,ev,hlc,_⟩:=sl_read mm r hl
            rw [ev] at r
            have hrun:=bnd_run (P:=P) S hp elo ehi olo ohi hlc true hx hy h0 h1 h2
            have hcut := cut_rel mm (shd_sl hl) (shd_rel mm r) hlc (x := x0.toNat) (y := y0.toNat) (by omega) (by omega) hn hval
            refine ⟨_,?_,hcut⟩
            simp only [execOp,ho]
            refine fin _ _ ?_
            rw [ev]
            simp [Instr.sliceAt,Instr.slice,run_underlying ee,hrun,run_sizeOf' ez]
          . cases hval
        . cases hval
    . rename_i sx lo' hi' ex elo ehi ee
      cases hc
      obtain ⟨ox,olo,ohi⟩:=hobs
      simp only [COp.val] at hval
      simp only [COp.pre] at hpre
      split at hval
      . rename_i y hy0
        rw [hy0] at hpre
        split at hval
        . rename_i x0 y0 hx hy
          cases hval
          simp only [bndP,hx,hy] at hpre
          obtain ⟨h0,h1,h2⟩:=hpre
          have r:=src_rel S hp ex ox
          rw [hy0] at r
          have hrun:=bnd_run (P:=P) S hp elo ehi olo ohi (Nat.le_refl _) false hx hy h0 h1 h2
          refine ⟨_,?_,.pu _ _ (.s _)⟩
          simp only [execOp,ho]
          refine fin _ _ ?_
          rw [r.str]
          simp [Instr.sliceAt,Instr.slice,run_underlying ee,hrun]
        . cases hval
      . cases hval
    . cases hc
  . -- slice with a third bound
    rename_i t x hi mx ho
    split at hc
    . rename_i sx k1 n1 k2 n2 e ex ehi emx ee
      split at hc
      . rename_i h0
        obtain ⟨rfl,rfl⟩:=h0
        cases ez:tySz P e with
        | none => simp [ez] at hc
        | some z =>
          simp [ez] at hc
          subst hc
          simp only [COp.val] at hval
          have r:=src_rel S hp ex hobs
          have rh:=src_rel S hp ehi trivial
          have rm:=src_rel S hp emx trivial
          obtain ⟨rfl,aa,len,cap,ev⟩:=s0_rel r hval
          have e1:a.eval hi=.int k1 0:=rh.int
          have e2:a.eval mx=.int k2 0:=rm.int
          refine ⟨.slice (if 0=0 then aa else aa.map (·.add (0*z))) 0 0,?_,.pu _ _ (.e0 _)⟩
          simp only [execOp,ho]
          refine fin _ _ ?_
          have b1 := run_sliceBound (P := P) w k2 0 cap .slice3Acap (Int.le_refl _) (by omega)
          have b2 := run_sliceBound (P := P) w k1 0 0 .slice3B (Int.le_refl _) (by omega)
          simp only [Int.toNat_zero] at b1 b2
          rw [ev]
          simp [Instr.sliceAt,Instr.slice,run_underlying ee,Instr.sliceBounds,e1,e2,b1,b2,run_sizeOf' ez]
      . cases hc
    . cases hc
  . -- alloc
    exfalso
    split at hc
    . split at hc
      . rcases alC_or hc with ⟨_, _, rfl⟩ | ⟨_, rfl, _⟩ <;> simp [COp.isV] at hv
      . cases hc
    . cases hc
  . exfalso
    rename_i x _
    cases ec:csrc C.N x<;>simp [ec] at hc
    subst hc
    simp [COp.isV] at hv
  . exfalso
    split at hc
    . cases hc; simp [COp.isV] at hv
    . cases hc
  . exfalso
    split at hc
    . split at hc
      . split at hc
        . cases hc; simp [COp.isV] at hv
        . cases hc
      . cases hc
    . cases hc
  . exfalso
    split at hc
    . split at hc
      . split at hc
        . rename_i z _
          split at hc
          . cases ec : cavs z.cells.toList <;> simp [ec] at hc; subst hc; simp [COp.isV] at hv
          . cases hc
        . cases hc
      . cases hc
    . cases hc
  . -- nilCheck
    rename_i x ho
    cases ex:csrc C.N x with
    | none => simp [ex] at hc
    | some s =>
      simp [ex] at hc
      subst hc
      have r:=src_rel S hp ex hobs
      simp only [COp.val] at hval
      generalize hev:a.eval x=vv at r
      unfold ncV at hval
      split at hval
      . rename_i k off hb
        cases hval
        rw [hb] at r
        cases r with
        | pu _ _ p => cases p
        | bx _ _ b c e =>
          refine ⟨_,?_,.bx _ _ b c e⟩
          simp [execOp,ho,hev]
      . rename_i α n i off hb
        cases hval
        rw [hb] at r
        cases r with
        | pu _ _ p => cases p
        | ep _ _ _ _ b ofs len cap r' hi =>
          refine ⟨_,?_,.ep _ _ _ _ b ofs len cap r' hi⟩
          simp [execOp,ho,hev]
      . cases hval
  . exfalso
    split at hc
    . split at hc
      . cases hc; simp [COp.isV] at hv
      . cases hc
    . cases hc
  . -- lookup
    rename_i t x ix ok ho
    split at hc
    . rename_i sx ss kt e ex es et
      split at hc
      . rename_i i ek ei
        split at hc
        . rename_i z ez
          cases ec:cav z with
          | none => simp [ec] at hc
          | some zz =>
            simp [ec] at hc
            subst hc
            have hz:=cav_rel ec h ρ
            have hzr : (zeroValue e).run P w = .ok z w := by simp [zeroValue, typeInfo, ei, ez]
            have r1:=src_rel S hp ex hobs.1
            have r2:=src_rel S hp es hobs.2
            simp only [COp.val] at hval
            split at hval
            . rename_i k b h1 h2
              split at hval
              . rename_i l hk
                cases hval
                rw [h1] at r1
                rw [h2] at r2
                have e2:=r2.str
                generalize hev:a.eval x=vv at r1
                cases r1 with
                | pu _ _ p => cases p
                | mp _ bb c e0 =>
                  have hck:=mm.ch k
                  rw [hk] at hck
                  obtain ⟨b',c',ees,clock,q1,q2,q3⟩:=mp_mr hck
                  rw [e0] at q1
                  cases q1
                  have pair:∀(α:AV) (v:Value) (b:Bool),Rel h ρ α v→Rel h ρ (.tp [α,.b b]) (.tuple #[v,.bool b]):=fun α v b r=>Rel.mkTup (vs:=[v,.bool b]) (.cons r (.cons (.pu _ _ (.b b)) .nil))
                  have hck2:=MapKept.run_checkKey (P:=P) (w:=w) ek (k:=.string b) trivial ees.isEmpty 9999
                  rcases find_mp h b .un l ees.toList 0 q3 with ⟨m1,m2,_⟩ | ⟨γ,j,v,m1,m2,m3,_⟩
                  . have hf := MapKept.run_findKey (P := P) (w := w) ek m2
                    rw [m1]
                    cases ok with
                    | true =>
                      refine ⟨.tuple #[z,.bool false],?_,pair _ _ _ hz⟩
                      simp only [execOp,ho]
                      refine fin _ _ ?_
                      rw [hev,e2]
                      simp [Instr.lookup,run_underlying et,MapKept.run_getObj_map q2,hck2,hf,hzr]
                    | false =>
                      refine ⟨z,?_,hz⟩
                      simp only [execOp,ho]
                      refine fin _ _ ?_
                      rw [hev,e2]
                      simp [Instr.lookup,run_underlying et,MapKept.run_getObj_map q2,hck2,hf,hzr]
                  . have hf := MapKept.run_findKey (P := P) (w := w) ek m2
                    rw [m1]
                    cases ok with
                    | true =>
                      refine ⟨.tuple #[v,.bool true],?_,pair _ _ _ (.pu _ _ m3)⟩
                      simp only [execOp,ho]
                      refine fin _ _ ?_
                      rw [hev,e2]
                      simp [Instr.lookup,run_underlying et,MapKept.run_getObj_map q2,hck2,hf]
                    | false =>
                      refine ⟨v,?_,.pu _ _ m3⟩
                      simp only [execOp,ho]
                      refine fin _ _ ?_
                      rw [hev,e2]
                      simp [Instr.lookup,run_underlying et,MapKept.run_getObj_map q2,hck2,hf]
              . cases hval
            . cases hval
        . cases hc
      . cases hc
    . cases hc
  . exfalso
    split at hc
    . split at hc
      . cases hc; simp [COp.isV] at hv
      . cases hc
    . cases hc
  . -- call
    rename_i cc ho
    split at hc
    . rename_i hcal
      split at hc
      . rename_i x t ex et
        have hargs:∃y,cc.args.toList=[y]∧csrc C.N y=some x:=by
          cases hl:cc.args.toList with
          | nil => simp [hl, srcs] at ex
          | cons y r =>
            rw [hl] at ex
            cases r with
            | nil =>
              simp only [srcs] at ex
              cases hy:csrc C.N y with
              | none => simp [hy] at ex
              | some s => simp [hy] at ex; subst ex; exact ⟨y, rfl, hy⟩
            | cons y2 r2 =>
              simp only [srcs] at ex
              exfalso
              cases hy:csrc C.N y<;>simp [hy] at ex
              cases hy2:csrc C.N y2<;>simp [hy2] at ex
              cases hy3:srcs C.N r2<;>simp [hy3] at ex
        obtain ⟨y,hy1,hy2⟩:=hargs
        have hty : cc.argTypes = #[t] := by apply Array.ext'; simpa using et
        have harg : cc.args = #[y] := by apply Array.ext'; simpa using hy1
        split at hc
        . rename_i hu
          cases hc
          have r:=src_rel S hp hy2 hobs
          simp only [COp.val,lenV] at hval
          split at hval
          . rename_i s hs
            simp at hval
            subst hval
            rw [hs] at r
            refine ⟨_,?_,.pu _ _ (.i _ _)⟩
            simp [execOp,ho,resolve,hcal,harg,hty,invoke,builtin,Builtin.len_,run_underlying hu,r.str,goInt]
          . simp at hval
        . rename_i e hu
          cases hc
          have r:=src_rel S hp hy2 hobs
          simp only [COp.val,lenV] at hval
          split at hval
          . rename_i l hl
            simp at hval
            subst hval
            obtain ⟨aa,cap,ev,_⟩:=sl_read mm r hl
            refine ⟨_,?_,.pu _ _ (.i _ _)⟩
            simp [execOp,ho,resolve,hcal,harg,hty,invoke,builtin,Builtin.len_,run_underlying hu,ev,goInt]
          . simp at hval
        . cases hc
      . cases hc
    . exfalso
      split at hc
      . split at hc
        . split at hc
          . split at hc
            . split at hc
              . cases hc; simp [COp.isV] at hv
              . cases hc
            . cases hc
          . cases hc
        . split at hc
          . split at hc
            . split at hc
              . cases hc; simp [COp.isV] at hv
              . cases hc
            . cases hc
          . cases hc
        . cases hc
      . cases hc
    . rename_i hcal
      split at hc
      . rename_i x y ea
        cases hc
        obtain ⟨y1,y2,hargs,ex,ey⟩:=csrc_pair0 ea
        have harg : cc.args = #[y1, y2] := by apply Array.ext'; simpa using hargs
        have r1:=src_rel S hp ex hobs.1
        have r2:=src_rel S hp ey hobs.2
        simp only [COp.val] at hval
        split at hval
        . rename_i k1 n1 k2 n2 e1 e2
          split at hval
          . rename_i hk
            subst hk
            cases hval
            rw [e1] at r1
            rw [e2] at r2
            refine ⟨_,?_,.pu _ _ (.i _ _)⟩
            simp [execOp,ho,resolve,hcal,harg,invoke,builtin,Builtin.min_,Builtin.min2,r1.int,r2.int]
          . cases hval
        . cases hval
      . cases hc
    . rename_i hcal
      split at hc
      . rename_i x y ea
        cases hc
        obtain ⟨y1,y2,hargs,ex,ey⟩:=csrc_pair0 ea
        have harg : cc.args = #[y1, y2] := by apply Array.ext'; simpa using hargs
        have r1:=src_rel S hp ex hobs.1
        have r2:=src_rel S hp ey hobs.2
        simp only [COp.val] at hval
        split at hval
        . rename_i k1 n1 k2 n2 e1 e2
          split at hval
          . rename_i hk
            subst hk
            cases hval
            rw [e1] at r1
            rw [e2] at r2
            refine ⟨_,?_,.pu _ _ (.i _ _)⟩
            simp [execOp,ho,resolve,hcal,harg,invoke,builtin,Builtin.max_,Builtin.max2,r1.int,r2.int]
          . cases hval
        . cases hval
      . cases hc
    . exfalso
      cases ec:srcs C.N cc.args.toList<;>simp [ec] at hc
      subst hc
      simp [COp.isV] at hv
    . exfalso
      split at hc
      . cases hc; simp [COp.isV] at hv
      . cases hc
    . cases hc
  . cases hc
end Go.Eng
