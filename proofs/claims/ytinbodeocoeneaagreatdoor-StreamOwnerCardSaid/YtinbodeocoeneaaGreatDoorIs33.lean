/- Proof. Conditions: none. -/
import Derived.Test.YtinbodeocoeneaaGreatDoorIs32
open List renaming getElem?_eq_some_iff→zlb
namespace Go.Eng
set_option linter.all false
theorem SatH.recast {h:HP} {ρ:RO} {hp:CH} {n:Nat} {w:World} (m:SatH h ρ hp n w) {k:Nat} {c:Chunk} (hg:∀j,c.own j→(gc hp k).own j) (hr:c.rgen=(gc hp k).rgen) (hs:c.sat h ρ w k):SatH h ρ ((k,c)::hp) n w:=by
 have g1:∀j g,(gc ((k,c)::hp) j).own g→(gc hp j).own g:=fun j g=>by
  by_cases e:k=j
  .subst e;rw [gc_same];exact hg g
  .rw [gc_ne c hp e];exact id
 have g2:∀j,(gc ((k,c)::hp) j).rgen=(gc hp j).rgen:=fun j=>by
  by_cases e:k=j
  .subst e;rw [gc_same];exact hr
  .rw [gc_ne c hp e]
 have hl:∀b,live ρ ((k,c)::hp) b→live ρ hp b:=fun b ⟨j,g,x,e,r⟩=>⟨j,g,x,g1 _ _ e,r⟩
 refine ⟨m.hh,fun j=>?_,fun k k' g g' b c c' a1 a2=>m.inj k k' g g' b c c' (g1 _ _ a1) (g1 _ _ a2),fun b hb=>m.hid b (hl b hb),fun b hb=>m.lt b (hl b hb),m.fr,fun j g g' x e r=>m.gens j g g' x (by rw [←g2];exact e) r,m.gl⟩
 by_cases e:k=j
 .subst e;rw [gc_same];exact hs
 .rw [gc_ne c hp e];exact m.ch j
theorem live_recast {ρ:RO} {hp:CH} {k:Nat} {c:Chunk} (hg:∀j,c.own j→(gc hp k).own j) (b:Nat) (h:live ρ ((k,c)::hp) b):live ρ hp b:=by
 obtain ⟨j,g,x,e,r⟩:=h
 refine ⟨j,g,x,?_,r⟩
 by_cases q:k=j
 .subst q;rw [gc_same] at e;exact hg _ e
 .rw [gc_ne c hp q] at e;exact e
theorem cvT_get {hp:CH}:∀{l l':List AV},cvT hp l=some l'→l'.length=l.length∧∀(j:Nat) α,l[j]?=some α→∃β,l'[j]?=some β∧cvA hp α=some β
 | [],l',h=>by
  rw [cvT] at h
  cases h
  exact ⟨rfl,fun j α e=>by simp at e⟩
 | α::l,l',h=>by
  unfold cvT at h
  split at h
  .rename_i β l2 e1 e2
   cases h
   obtain ⟨i1,i2⟩:=cvT_get e2
   refine ⟨by simp [i1],fun j γ e=>?_⟩
   cases j with
   | zero=>simp at e;subst e;exact ⟨β,rfl,e1⟩
   | succ j=>exact i2 j γ (by simpa using e)
  .cases h
theorem SatH.close {h:HP} {ρ:RO} {hp:CH} {n:Nat} {w:World} (m:SatH h ρ hp n w) {k g mm:Nat} {l l':List (List AV)} (hk:gc hp k=.rn g mm l) (hl:l'.length=l.length)
  (hc:∀(j:Nat) e,l[j]?=some e→∃e',l'[j]?=some e'∧cvT hp e=some e'):SatH h ρ ((k,.rw g mm l')::hp) n w:=by
 refine m.recast (fun j e=>by rw [hk];exact e) (by rw [hk];rfl) ?_
 have s:=m.ch k
 rw [hk] at s
 obtain ⟨ob,cap,h1,h2,h2',h3,h4,h5⟩:=s
 have back:∀(j:Nat) e',l'[j]?=some e'→∃e,l[j]?=some e∧cvT hp e=some e':=fun j e' q=>by
  have hj:j<l.length:=by rw [←hl];exact (zlb.1 q).1
  obtain ⟨e2,q2,q3⟩:=hc j l[j] (by simp [hj])
  rw [q] at q2
  cases q2
  exact ⟨l[j],by simp [hj],q3⟩
 refine ⟨ob,cap,h1,by omega,h2',fun j e' q=>?_,h4,fun b hb=>?_⟩
 .obtain ⟨e,q1,q2⟩:=back j e' q
  rw [(cvT_get q2).1]
  exact h3 j e q1
 .obtain ⟨vs,ty,a1,a2,a3⟩:=h5 b hb
  refine ⟨vs,ty,a1,a2,fun j x q α g1 g2=>?_⟩
  obtain ⟨e,q1,q2⟩:=back j x g1
  obtain ⟨i1,i2⟩:=cvT_get q2
  have hq:q<e.length:=by rw [←i1];exact (zlb.1 g2).1
  obtain ⟨β,q3,q4⟩:=i2 q e[q] (by simp [hq])
  rw [g2] at q3
  cases q3
  obtain ⟨u,z1,z2⟩:=a3 j e q e[q] q1 (by simp [hq])
  exact ⟨u,z1,cvA_rel m z2 q4⟩
theorem weak_rn {env:EN} {hp:CH} {n k g mm:Nat} {l:List (List AV)} (hk:gc hp k=.rw g mm l):Weak ⟨env,hp,n⟩ ⟨env,(k,.rn g mm l)::hp,n⟩:=by
 rintro C a w ⟨h,ρ,s⟩
 have sk:=s.mem.ch k
 rw [show gc (St.hp ⟨env,hp,n⟩) k=.rw g mm l from hk] at sk
 obtain ⟨ob,cap,h1,h2,h2',h3,h4,h5⟩:=sk
 have m':SatH h ρ ((k,.rn g mm l)::hp) n w:=s.mem.recast (fun j e=>by rw [show gc hp k=.rw g mm l from hk];exact e) (by rw [show gc hp k=.rw g mm l from hk];rfl) ⟨ob,cap,h1,h2,h2',h3,h4,fun b hb=>by
  obtain ⟨vs,ty,a1,a2,a3⟩:=h5 b hb
  exact ⟨vs,ty,a1,a2,fun j x q α y1 y2=>let ⟨u,z1,z2⟩:=a3 j x q α y1 y2;⟨u,z1,.pu _ _ z2⟩⟩⟩
 exact ⟨h,ρ,s.hle,s.rle,s.keep,fun b hb=>s.own b (live_recast (hp:=hp) (fun j e=>by rw [show gc hp k=.rw g mm l from hk];exact e) b hb),m',s.env,s.size,s.defers⟩
theorem meetsN {P : Program} {f : FuncId} {fn : Func} {k : CC} {rs : List RS} (hf : P.funcs[f]? = some fn) (hnm : (fn.name == "runtime.NumGoroutine") = false)
  (hc:fn.body.bind (ccode P fn.ntmps)=some k.erase) (hrs:rsv P fn.ntmps fn.results.toList=some rs) {hp:CH} {n:Nat} {args:List AV} {R:CH→Nat→AV→Prop} (hlen:Nat.ble args.length fn.ntmps=true)
  (hv:(∀k,n≤k→gc hp k=.no)→vc P k ⟨argEnv 0 args,hp,n⟩ (endQ rs R)):Meets P f hp n args R:=by
 have hok := (by obtain ⟨c, hb, hc'⟩ := bd hc; exact ⟨fn, hf, hnm, by rw [hb]; rfl⟩ : ∃ fn, P.funcs[f]? = some fn ∧ (fn.name == "runtime.NumGoroutine") = false ∧ fn.body.isNone = false)
 exact ⟨hok,fun h ρ w vs hs ha=>(meets hf hnm hc hrs hlen (hv hs.free)).2 h ρ w vs hs ha⟩
theorem Meets.post {P:Program} {f:FuncId} {hp:CH} {n:Nat} {args:List AV} {R R':CH→Nat→AV→Prop} (m:Meets P f hp n args R)
  (k:∀hp' n' r h ρ w v,R hp' n' r→SatH h ρ hp' n' w→Rel h ρ r v→∃h' ρ' hp2 n2 r2,R' hp2 n2 r2∧HLe h h'∧RLe ρ ρ'∧SatH h' ρ' hp2 n2 w∧Rel h' ρ' r2 v∧∀b,live ρ' hp2 b→live ρ hp' b):Meets P f hp n args R':=by
 refine ⟨m.1,fun h ρ w vs hs ha=>(m.2 h ρ w vs hs ha).mono fun e w' ⟨v,he,h',ρ',hp',n',r',q1,hh,hr,hm,hrel,hk,hl⟩=>?_⟩
 obtain ⟨h2,ρ2,hp2,n2,r2,x1,x2,x3,x4,x5,x6⟩:=k hp' n' r' h' ρ' w' v q1 hm hrel
 exact ⟨v,he,h2,ρ2,hp2,n2,r2,x1,hh.trans x2,hr.trans x3,x4,x5,hk,fun b hb=>hl b (x6 b hb)⟩
theorem Meets.nest {P:Program} {f:FuncId} {hp:CH} {n:Nat} {args:List AV} {R:CH→Nat→AV→Prop} {rf:AV} (m:Meets P f hp n args R)
  (k:∀hp' n' r,R hp' n' r→∃ks c g mm l l',gc (shutL hp' ks) c=.rn g mm l∧l'.length=l.length∧(∀(j:Nat) e,l[j]?=some e→∃e',l'[j]?=some e'∧cvT (shutL hp' ks) e=some e')∧pureQ hp n rf ((c,.rw g mm l')::shutL hp' ks) n' r) :
  MeetsF P f hp n args rf:=by
 refine Meets.toF (Meets.post m fun hp' n' r h ρ w v q hs hr=>?_)
 obtain ⟨ks,c,g,mm,l,l',e1,e2,e3,e4⟩:=k hp' n' r q
 obtain ⟨h1,a1,a2,a3⟩:=hs.shutL (h:=h) ks
 exact ⟨h1,ρ,_,n',r,e4,a1,RLe.refl _,a2.close e1 e2 e3,hr.mono a1 (RLe.refl _),fun b hb=>a3 b (live_recast (hp:=shutL hp' ks) (fun j e=>by rw [e1];exact e) b hb)⟩
def shutOf (c:Chunk):Chunk:=match c with
 | .rw g n l=>.sh g n l
 | c=>c
open Classical in
theorem gc_shutC {hp:CH} {α:AV} (k:Nat):gc (shutC hp α) k=if (∃g len,α=.rw k g len∧(gc hp k).gen=some g) then shutOf (gc hp k) else gc hp k:=by
 cases α with
 | rw k0 g0 len0 =>
  by_cases hk:k0=k
  .subst hk
   simp only [shutC]
   cases hc:gc hp k0 with
   | rw g' n l =>
    simp only
    by_cases hg:g0=g'
    .subst hg
     rw [if_pos rfl,gc_same,if_pos ⟨g0,len0,rfl,rfl⟩]
     rfl
    .rw [if_neg hg,if_neg (fun ⟨g,len,e,q⟩=>by cases e;cases q;exact hg rfl)]
     exact hc
   | rn g' n l =>
    simp only
    rw [hc]
    split<;>rfl
   | bx cs=>simp only;rw [hc];split<;>rfl
   | _ =>
    simp only
    rw [hc]
    split<;>rfl
  .rw [if_neg (fun ⟨g,len,e,q⟩=>by cases e;exact hk rfl)]
   simp only [shutC]
   split
   .split
    .rw [gc_ne _ _ hk]
    .rfl
   .rfl
 | _ =>
  rw [if_neg (fun ⟨g,len,e,q⟩=>by cases e)]
  rfl
open Classical in
theorem gc_shutL {k:Nat}:∀{l:List AV} {hp:CH},gc (shutL hp l) k=gc hp k∨gc (shutL hp l) k=shutOf (gc hp k)
 | [],hp=>.inl rfl
 | α::l,hp=>by
  rw [shutL]
  have h1:=gc_shutC (hp:=hp) (α:=α) k
  have h2:=gc_shutL (k:=k) (l:=l) (hp:=shutC hp α)
  have h3:shutOf (shutOf (gc hp k))=shutOf (gc hp k):=by cases gc hp k<;>rfl
  split at h1
  .rw [h1] at h2
   rw [h3] at h2
   exact .inr (h2.elim id id)
  .rw [h1] at h2
   exact h2
open Classical in
theorem gc_shutL_not {k:Nat}:∀{l:List AV} {hp:CH},(∀α∈l,∀g len,α≠.rw k g len)→gc (shutL hp l) k=gc hp k
 | [],hp,_=>rfl
 | α::l,hp,h=>by
  rw [shutL,gc_shutL_not fun β hβ=>h β (by simp [hβ]),gc_shutC,if_neg (fun ⟨g,len,e,_⟩=>h α (by simp) g len e)]
open Classical in
theorem gc_shutL_in {k g n:Nat} {c:List (List AV)}:∀{l:List AV} {hp:CH},(∃len,AV.rw k g len∈l)→(gc hp k=.rw g n c∨gc hp k=.sh g n c)→gc (shutL hp l) k=.sh g n c
 | [],hp,⟨len,h⟩,_=>by cases h
 | α::l,hp,⟨len,h⟩,hk=>by
  rw [shutL]
  have h1:=gc_shutC (hp:=hp) (α:=α) k
  rcases List.mem_cons.1 h with rfl | h
  .rcases hk with hk | hk
   .have:gc (shutC hp (.rw k g len)) k=.sh g n c:=by rw [h1,if_pos ⟨g,len,rfl,by rw [hk];rfl⟩,hk];rfl
    rcases gc_shutL (k:=k) (l:=l) (hp:=shutC hp (.rw k g len)) with q | q<;>rw [q,this]<;>rfl
   .have:gc (shutC hp (.rw k g len)) k=.sh g n c:=by rw [h1,hk];split<;>rfl
    rcases gc_shutL (k:=k) (l:=l) (hp:=shutC hp (.rw k g len)) with q | q<;>rw [q,this]<;>rfl
  .refine gc_shutL_in ⟨len,h⟩ ?_
   rcases hk with hk | hk
   .rw [h1,hk]
    split
    .exact .inr rfl
    .exact .inl rfl
   .rw [h1,hk]
    split<;>exact .inr rfl
/-! ### Parts of memory,but for some chunks -/
def UpX (X:List Nat) (n:Nat) (hp hp':CH):Prop:=∀k,k<n→k ∉ X→gc hp' k=gc hp k
theorem upX_self (X:List Nat) (n:Nat) (hp:CH):UpX X n hp hp=True:=eq_true fun _ _ _=>rfl
theorem upX_ge {X:List Nat} {n:Nat} {hp hp':CH} {k:Nat} {c:Chunk} (hk:n≤k):UpX X n hp ((k,c)::hp')=UpX X n hp hp':=propext ⟨fun h j hj hx=>by rw [←h j hj hx,gc_ne _ _ (by omega)],fun h j hj hx=>by rw [gc_ne _ _ (by omega)];exact h j hj hx⟩
theorem upX_in {X:List Nat} {n:Nat} {hp hp':CH} {k:Nat} {c:Chunk} (hk:k∈X):UpX X n hp ((k,c)::hp')=UpX X n hp hp':=propext ⟨fun h j hj hx=>by rw [←h j hj hx,gc_ne _ _ (fun e:k=j=>hx (e ▸ hk))],fun h j hj hx=>by rw [gc_ne _ _ (fun e:k=j=>hx (e ▸ hk))];exact h j hj hx⟩
def SubX (X:List Nat) (hp hp':CH):Prop:=∀k,k ∉ X→gc hp' k=gc hp k∨gc hp' k=.no
theorem SubX.sub {hp hp':CH} (h:SubX [] hp hp'):Sub hp hp':=fun k=>h k (by simp)
theorem SubX.cons {X:List Nat} {hp hp':CH} {k:Nat} {c:Chunk} (h:gc hp k=c) (s:SubX (k::X) hp hp'):SubX X hp ((k,c)::hp'):=fun j hj=>by
 by_cases q:k=j
 .subst q
  exact .inl (by rw [gc_same];exact h.symm)
 .rw [gc_ne c hp' q]
  exact s j (by simp [hj,Ne.symm q])
theorem SubX.base {X:List Nat} {n:Nat} {B hp:CH} (hf:∀k,n≤k→gc B k=.no) (hu:UpX X n B hp):SubX X hp B:=fun k hk=>by
 rcases Nat.lt_or_ge k n with h | h
 .exact .inl (hu k h hk).symm
 .exact .inr (hf k h)
def SubGX (X:List Nat) (n:Nat) (h0 hp hp':CH):Prop:=∀k,k ∉ X→gc hp' k=.no∨gc hp k=gc hp' k∧k<n∧((gc hp' k).und n∨gc hp' k=gc h0 k)
theorem SubGX.sub {n:Nat} {h0 hp hp':CH} (h:SubGX [] n h0 hp hp'):SubG n h0 hp hp':=fun k=>h k (by simp)
theorem SubGX.cons {X:List Nat} {n:Nat} {h0 hp hp':CH} {k:Nat} {c:Chunk} (h:gc hp k=c) (hk:k<n) (hb:c.und n) (s:SubGX (k::X) n h0 hp hp'):SubGX X n h0 hp ((k,c)::hp'):=fun j hj=>by
 by_cases q:k=j
 .subst q
  exact .inr ⟨by rw [gc_same];exact h,hk,.inl (by rw [gc_same];exact hb)⟩
 .rw [gc_ne c hp' q]
  exact s j (by simp [hj,Ne.symm q])
theorem SubGX.base {X:List Nat} {n m:Nat} {B h0 hp:CH} (hf:∀k,m≤k→gc B k=.no) (hm:m≤n) (h1:UpX X m B h0) (h2:UpX X m B hp):SubGX X n h0 hp B:=fun k hk=>by
 rcases Nat.lt_or_ge k m with h | h
 .exact .inr ⟨h2 k h hk,Nat.lt_of_lt_of_le h hm,.inr (h1 k h hk).symm⟩
 .exact .inl (hf k h)
theorem upX_h2 {X:List Nat} {n j:Nat} {hp hp':CH} {k:Nat} {c:Chunk}:UpX (j::k::X) n hp ((k,c)::hp')=UpX (j::k::X) n hp hp':=upX_in (by simp)
attribute [go_sem] upX_ge upX_self upX_h2
end Go.Eng
