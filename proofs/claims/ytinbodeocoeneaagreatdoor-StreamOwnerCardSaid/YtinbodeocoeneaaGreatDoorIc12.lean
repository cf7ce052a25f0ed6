/- Proof. Conditions: none. -/
import Derived.Test.YtinbodeocoeneaaGreatDoorIc11
open List renaming getElem?_eq_some_iff→zlb,getElem?_eq_getElem→zlg,getElem?_map→zlp
namespace Go.Eng
set_option linter.all false
/-! ### Tables that are written in parts -/
def lk {V:Type} (z:V):List (Nat × V)→Nat→V
 | [],_=>z
 | (k,c)::r,j=>if k=j then c else lk z r j
theorem ge_lk:∀(env:EN) (t:Nat),ge env t=lk .un env t
 | [],_=>rfl
 | (k,c)::r,j=>by unfold ge lk;rw [ge_lk r j]
theorem gc_lk:∀(hp:CH) (t:Nat),gc hp t=lk .no hp t
 | [],_=>rfl
 | (k,c)::r,j=>by unfold gc lk;rw [gc_lk r j]
section
variable {V:Type} {z:V} {k:Nat}
theorem lk_app {b b':List (Nat × V)} (h:lk z b k=lk z b' k):∀u:List (Nat × V),lk z (u++b) k=lk z (u++b') k
 | []=>h
 | (j,c)::r=>by
  show (if j=k then c else lk z (r++b) k)=if j=k then c else lk z (r++b') k
  rw [lk_app h r]
theorem lk_app_ne {b:List (Nat × V)}:∀u:List (Nat × V),k ∉ u.map (·.1)→lk z (u++b) k=lk z b k
 | [],_=>rfl
 | (j,c)::r,h=>by
  simp only [List.map_cons,List.mem_cons,not_or] at h
  show (if j=k then c else lk z (r++b) k)=lk z b k
  rw [if_neg (fun e=>h.1 e.symm)]
  exact lk_app_ne r h.2
theorem lk_app_in {b b':List (Nat × V)}:∀u:List (Nat × V),k∈u.map (·.1)→lk z (u++b) k=lk z (u++b') k
 | [],h=>by simp at h
 | (j,c)::r,h=>by
  show (if j=k then c else lk z (r++b) k)=if j=k then c else lk z (r++b') k
  split
  .rfl
  .rename_i hj
   simp only [List.map_cons,List.mem_cons] at h
   exact lk_app_in r (h.resolve_left fun e=>hj e.symm)
def aL (L:Nat→Bool):Nat→List (Nat × V)→List (List (Nat × V))→List (Nat × V)
 | _,b,[]=>b
 | i,b,u::r=>aL L (i+1) (if L i then u++b else b) r
theorem aL_congr {L L':Nat→Bool}:∀(us:List (List (Nat × V))) (i:Nat) (b b':List (Nat × V)),lk z b k=lk z b' k →
  (∀(j:Nat) u,us[j]?=some u→k∈u.map (·.1)→L (i+j)=L' (i+j))→lk z (aL L i b us) k=lk z (aL L' i b' us) k
 | [],_,_,_,h,_=>h
 | u::r,i,b,b',h,hL=>by
  refine aL_congr r (i+1) _ _ ?_ fun j v hj hk=>by have:=hL (j+1) v (by simpa using hj) hk;rw [show i+1+j=i+(j+1) by omega];exact this
  by_cases hk:k∈u.map (·.1)
  .have:=hL 0 u rfl hk
   simp only [Nat.add_zero] at this
   rw [this]
   split
   .exact lk_app h u
   .exact h
  .split<;>split<;>simp only [lk_app_ne u hk,h]
theorem aL_none {L:Nat→Bool}:∀(us:List (List (Nat × V))) (i:Nat) (b:List (Nat × V)),(∀(j:Nat) u,us[j]?=some u→L (i+j)=true→k ∉ u.map (·.1))→lk z (aL L i b us) k=lk z b k
 | [],_,_,_=>rfl
 | u::r,i,b,h=>by
  show lk z (aL L (i+1) (if L i then u++b else b) r) k=_
  rw [aL_none r (i+1) _ fun j v hj hl=>h (j+1) v (by simpa using hj) (by rw [show i+(j+1)=i+1+j by omega];exact hl)]
  split
  .rename_i hi
   exact lk_app_ne u (h 0 u rfl hi)
  .rfl
theorem aL_last {L:Nat→Bool}:∀(us:List (List (Nat × V))) (i:Nat) (b b':List (Nat × V)) (j0:Nat) (u0:List (Nat × V)),us[j0]?=some u0→L (i+j0)=true→k∈u0.map (·.1) →
  (∀(j:Nat) u,us[j]?=some u→j0<j→L (i+j)=true→k ∉ u.map (·.1))→lk z (aL L i b us) k=lk z (u0++b') k
 | [],_,_,_,_,_,h,_,_,_=>by simp at h
 | u::r,i,b,b',0,u0,h,hL,hk,hn=>by
  simp at h
  subst h
  show lk z (aL L (i+1) (if L i then u++b else b) r) k=_
  simp only [Nat.add_zero] at hL
  rw [if_pos hL,aL_none r (i+1) _ fun j v hj hl=>hn (j+1) v (by simpa using hj) (by omega) (by rw [show i+(j+1)=i+1+j by omega];exact hl)]
  exact lk_app_in u hk
 | u::r,i,b,b',j0+1,u0,h,hL,hk,hn=>by
  show lk z (aL L (i+1) (if L i then u++b else b) r) k=_
  exact aL_last r (i+1) _ b' j0 u0 (by simpa using h) (by rw [show i+1+j0=i+(j0+1) by omega];exact hL) hk
   fun j v hj hlt hl=>hn (j+1) v (by simpa using hj) (by omega) (by rw [show i+(j+1)=i+1+j by omega];exact hl)
theorem aL_set {L L':Nat→Bool} {us:List (List (Nat × V))} {b:List (Nat × V)} {j0:Nat} {u0:List (Nat × V)} (hu:us[j0]?=some u0) (hne:∀j,j≠j0→L' j=L j) (ht:L' j0=true)
  (hl:∀(j:Nat) u,us[j]?=some u→j0<j→L j=true→∀x∈u.map (·.1),x ∉ u0.map (·.1)):lk z (aL L' 0 b us) k=lk z (u0++aL L 0 b us) k:=by
 by_cases hk:k∈u0.map (·.1)
 .exact aL_last us 0 b _ j0 u0 hu (by rw [Nat.zero_add];exact ht) hk fun j u hj hlt hL hx=>hl j u hj hlt (by rw [Nat.zero_add,hne j (by omega)] at hL;exact hL) k hx hk
 .rw [lk_app_ne u0 hk]
  refine aL_congr us 0 b b rfl fun j u hj hx=>?_
  rw [Nat.zero_add]
  apply hne
  intro e
  subst e
  rw [hu] at hj
  cases hj
  exact hk hx
theorem aL_pre {L:Nat→Bool}:∀(us:List (List (Nat × V))) (i:Nat) (b:List (Nat × V)),(∀j,i≤j→L j=false)→aL L i b us=b
 | [],_,_,_=>rfl
 | u::r,i,b,h=>by
  show aL L (i+1) (if L i then u++b else b) r=b
  rw [h i (Nat.le_refl _)]
  exact aL_pre r (i+1) b fun j hj=>h j (by omega)
end
/-! ### States -/
theorem SatH.congr {h:HP} {ρ:RO} {hp hp':CH} {n:Nat} {w:World} (e:∀k,gc hp k=gc hp' k) (m:SatH h ρ hp n w):SatH h ρ hp' n w:=by
 have hl:∀b,live ρ hp' b→live ρ hp b:=fun b ⟨k,g,c,e1,r⟩=>⟨k,g,c,by rw [e];exact e1,r⟩
 exact ⟨m.hh,fun k=>by rw [←e];exact m.ch k,fun k k' g g' b c c' a1 a2=>m.inj k k' g g' b c c' (by rw [e];exact a1) (by rw [e];exact a2),fun b hb=>m.hid b (hl b hb),fun b hb=>m.lt b (hl b hb),m.fr,fun k g g' x a1=>m.gens k g g' x (by rw [e];exact a1),m.gl⟩
theorem Sat.congr {C:Ctx} {env env':EN} {hp hp':CH} {n:Nat} {h:HP} {ρ:RO} {a:Act} {w:World} (e1:∀t,ge env t=ge env' t) (e2:∀k,gc hp k=gc hp' k) (S:Sat C ⟨env,hp,n⟩ h ρ a w):Sat C ⟨env',hp',n⟩ h ρ a w :=
 ⟨S.hle,S.rle,S.keep,fun b ⟨k,g,c,a1,r⟩=>S.own b ⟨k,g,c,by rw [e2];exact a1,r⟩,S.mem.congr e2,fun t ht=>by rw [←e1];exact S.env t ht,S.size,S.defers⟩
theorem Sat.more {C:Ctx} {env:EN} {hp:CH} {n n':Nat} {h:HP} {ρ:RO} {a:Act} {w w':World} (hn:n≤n') (ew:w'.heap=w.heap) (eo:w'.os=w.os) (et:w'.tape=w.tape) (eu:w'.output=w.output) (S:Sat C ⟨env,hp,n⟩ h ρ a w):Sat C ⟨env,hp,n'⟩ h ρ a w' :=
 ⟨S.hle,S.rle,⟨eo.trans S.keep.os,et.trans S.keep.tape,eu.trans S.keep.output,by rw [ew];exact S.keep.size,fun b hb hx=>by rw [ew];exact S.keep.block b hb hx⟩,S.own,
  let m:=S.mem.heap ew;⟨m.hh,m.ch,m.inj,m.hid,m.lt,fun k g hk=>m.fr k g (Nat.le_trans hn hk),m.gens,m.gl⟩,S.env,S.size,S.defers⟩
/-! ### What each operation did -/
structure TE where
 d:Option Nat
 α:AV
 ws:CH
 R:List Nat
 c:Bool
def TE.eu (t:TE):EN:=match t.d with | some x=>[(x,t.α)] | none=>[]
theorem set_eu (env:EN) (t:TE):EN.set env t.d t.α=t.eu++env:=by
 obtain ⟨d,α,ws,R,c⟩:=t
 cases d<;>rfl
def TE.eq (t:TE):AV→CH→List Nat→Bool→Prop:=fun α ws R c=>α=t.α∧ws=t.ws∧R=t.R∧c=t.c
section
variable {P:Program} {n0 N1:Nat}
def Val (P:Program) (n0 N1:Nat):Nat→List DO→List TE→EN→CH→List LE→EN→CH→Prop
 | _,[],[],env,hp,_,e',h'=>e'=env∧h'=hp
 | i,o::r,t::ts,env,hp,lg,e',h'=>t.d=o.o.dst∧dOp P n0 N1 i o env hp t.eq∧cfs n0 i o.un t.R (keys t.ws) t.c lg ∧
   Val P n0 N1 (i+1) r ts (t.eu++env) (t.ws++hp) (if o.lg then ⟨i,t.R,keys t.ws,t.c⟩::lg else lg) e' h'
 | _,_,_,_,_,_,_,_=>False
theorem val_of:∀(dl:List DO) (i:Nat) (env:EN) (hp:CH) (lg:List LE) (K:EN→CH→Prop),vcD P n0 N1 i dl env hp lg K→∃ts e' h',Val P n0 N1 i dl ts env hp lg e' h'∧K e' h'
 | [],i,env,hp,lg,K,h=>⟨[],env,hp,⟨rfl,rfl⟩,h⟩
 | o::r,i,env,hp,lg,K,h=>by
  obtain ⟨α,ws,R,c,h1,h2,h3⟩:=dOp_out h
  obtain ⟨ts,e',h',v,k⟩:=val_of r _ _ _ _ K h3
  refine ⟨⟨o.o.dst,α,ws,R,c⟩::ts,e',h',⟨rfl,h1,h2,?_⟩,k⟩
  rw [←set_eu]
  exact v
theorem val_len:∀(dl:List DO) (ts:List TE) (i:Nat) (env:EN) (hp:CH) (lg:List LE) (e':EN) (h':CH),Val P n0 N1 i dl ts env hp lg e' h'→ts.length=dl.length
 | [],[],_,_,_,_,_,_,_=>rfl
 | [],_::_,_,_,_,_,_,_,h=>h.elim
 | _::_,[],_,_,_,_,_,_,h=>h.elim
 | o::r,t::ts,i,env,hp,lg,e',h',h=>by simp [val_len r ts _ _ _ _ _ _ h.2.2.2]
theorem val_get:∀(dl:List DO) (ts:List TE) (i:Nat) (env:EN) (hp:CH) (lg:List LE) (e':EN) (h':CH),Val P n0 N1 i dl ts env hp lg e' h'→∀(j:Nat) o t,dl[j]?=some o→ts[j]?=some t →
  t.d=o.o.dst∧dOp P n0 N1 (i+j) o (aL (fun x=>decide (x<i+j)) i env (ts.map TE.eu)) (aL (fun x=>decide (x<i+j)) i hp (ts.map TE.ws)) t.eq
 | [],_,_,_,_,_,_,_,_,j,o,t,h,_=>by simp at h
 | _::_,[],_,_,_,_,_,_,h,_,_,_,_,_=>h.elim
 | o::r,t::ts,i,env,hp,lg,e',h',h,0,o',t',ho,ht=>by
  simp at ho ht
  subst ho ht
  refine ⟨h.1,?_⟩
  rw [aL_pre _ _ _ (fun j hj=>by simp;omega),aL_pre _ _ _ (fun j hj=>by simp;omega)]
  exact h.2.1
 | o::r,t::ts,i,env,hp,lg,e',h',h,j+1,o',t',ho,ht=>by
  have:=val_get r ts (i+1) _ _ _ _ _ h.2.2.2 j o' t' (by simpa using ho) (by simpa using ht)
  rw [show i+1+j=i+(j+1) by omega] at this
  refine ⟨this.1,?_⟩
  simp only [List.map_cons,aL]
  rw [if_pos (by simp)]
  rw [if_pos (by simp)]
  exact this.2
theorem val_end:∀(dl:List DO) (ts:List TE) (i:Nat) (env:EN) (hp:CH) (lg:List LE) (e':EN) (h':CH),Val P n0 N1 i dl ts env hp lg e' h' →
  e'=aL (fun _=>true) i env (ts.map TE.eu)∧h'=aL (fun _=>true) i hp (ts.map TE.ws)
 | [],[],_,_,_,_,_,_,h=>h
 | [],_::_,_,_,_,_,_,_,h=>h.elim
 | _::_,[],_,_,_,_,_,_,h=>h.elim
 | o::r,t::ts,i,env,hp,lg,e',h',h=>by
  have:=val_end r ts _ _ _ _ _ _ h.2.2.2
  simpa [aL] using this
theorem cfs_mem {i:Nat} {un R W:List Nat} {c:Bool}:∀{lg:List LE},cfs n0 i un R W c lg→∀e∈lg,un.contains e.j=true→cf n0 i R W c e
 | [],_,e,he,_=>by simp at he
 | x::r,h,e,he,hu=>by
  rcases List.mem_cons.1 he with rfl | he
  .exact h.1 hu
  .exact cfs_mem h.2 e he hu
theorem val_lg:∀(dl:List DO) (ts:List TE) (i:Nat) (env:EN) (hp:CH) (lg:List LE) (e':EN) (h':CH),Val P n0 N1 i dl ts env hp lg e' h'→∀e∈lg,∀(j:Nat) o t,dl[j]?=some o→ts[j]?=some t →
  o.un.contains e.j=true→cf n0 (i+j) t.R (keys t.ws) t.c e
 | [],_,_,_,_,_,_,_,_,e,_,j,o,t,h,_,_=>by simp at h
 | _::_,[],_,_,_,_,_,_,h,_,_,_,_,_,_,_,_=>h.elim
 | o::r,t::ts,i,env,hp,lg,e',h',h,e,he,0,o',t',ho,ht,hu=>by
  simp at ho ht
  subst ho ht
  exact cfs_mem h.2.2.1 e he hu
 | o::r,t::ts,i,env,hp,lg,e',h',h,e,he,j+1,o',t',ho,ht,hu=>by
  rw [show i+(j+1)=i+1+j by omega]
  refine val_lg r ts (i+1) _ _ _ _ _ h.2.2.2 e ?_ j o' t' (by simpa using ho) (by simpa using ht) hu
  split
  .exact List.mem_cons_of_mem _ he
  .exact he
theorem val_cf:∀(dl:List DO) (ts:List TE) (i:Nat) (env:EN) (hp:CH) (lg:List LE) (e':EN) (h':CH),Val P n0 N1 i dl ts env hp lg e' h'→∀(j' j:Nat) o' t' o t,j' < j→dl[j']?=some o'→ts[j']?=some t' →
  dl[j]?=some o→ts[j]?=some t→o'.lg=true→o.un.contains (i+j')=true→cf n0 (i+j) t.R (keys t.ws) t.c ⟨i+j',t'.R,keys t'.ws,t'.c⟩
 | [],_,_,_,_,_,_,_,_,j',j,o',t',o,t,_,h,_,_,_,_,_=>by simp at h
 | _::_,[],_,_,_,_,_,_,h,_,_,_,_,_,_,_,_,_,_,_,_,_=>h.elim
 | o0::r,t0::ts,i,env,hp,lg,e',h',h,0,0,o',t',o,t,hlt,_,_,_,_,_,_=>by omega
 | o0::r,t0::ts,i,env,hp,lg,e',h',h,0,j+1,o',t',o,t,hlt,g1,g2,g3,g4,g5,g6=>by
  simp at g1 g2
  subst g1 g2
  rw [show i+(j+1)=i+1+j by omega]
  refine val_lg r ts (i+1) _ _ _ _ _ h.2.2.2 ⟨i+0,_,_,_⟩ ?_ j o t (by simpa using g3) (by simpa using g4) g6
  rw [if_pos g5]
  exact List.mem_cons_self
 | o0::r,t0::ts,i,env,hp,lg,e',h',h,j'+1,0,o',t',o,t,hlt,_,_,_,_,_,_=>by omega
 | o0::r,t0::ts,i,env,hp,lg,e',h',h,j'+1,j+1,o',t',o,t,hlt,g1,g2,g3,g4,g5,g6=>by
  have:=val_cf r ts (i+1) _ _ _ _ _ h.2.2.2 j' j o' t' o t (by omega) (by simpa using g1) (by simpa using g2) (by simpa using g3) (by simpa using g4) g5 (by rw [show i+1+j'=i+(j'+1) by omega];exact g6)
  rw [show i+1+j'=i+(j'+1) by omega,show i+1+j=i+(j+1) by omega] at this
  exact this
end
theorem eff_kind {op:COp} {hp:CH} {f:Src→AV} {id:Nat} {α:AV} {ws:CH} {R:List Nat} (h:op.eff hp f id=some (α,ws,R)):(ws≠[]→op.mw=true)∧(R≠[]→op.mr=true):=by
 have rd:∀R',R'=op.rd f→R'≠[]→op.mr=true:=by
  intro R' e hne
  subst e
  cases op<;>first | rfl | exact absurd rfl hne
 by_cases hv:op.isV=true
 .have e:op.eff hp f id=match op.val hp f with
   | some α=>some (α,[],op.rd f)
   | none=>none:=by cases op<;>first | rfl | (simp [COp.isV] at hv)
  rw [e] at h
  split at h
  .cases h
   exact ⟨fun h=>absurd rfl h,rd _ rfl⟩
  .cases h
 .cases op
  case al z=>cases h;exact ⟨fun _=>rfl,fun h=>absurd rfl h⟩
  case bo x =>
   simp only [COp.eff] at h
   split at h
   .cases h;exact ⟨fun _=>rfl,fun h=>absurd rfl h⟩
   .cases h
  case bs fz n ps =>
   simp only [COp.eff] at h
   split at h
   .split at h<;>(cases h;exact ⟨fun _=>rfl,fun h=>absurd rfl h⟩)
   .cases h
  case ms l c n bytes z =>
   simp only [COp.eff] at h
   split at h
   .cases h;exact ⟨fun _=>rfl,fun h=>absurd rfl h⟩
   .cases h
  case cl=>cases h
  case cc=>cases h
  case nl=>cases h
  case mk=>cases h;exact ⟨fun _=>rfl,fun h=>absurd rfl h⟩
  case alb=>cases h;exact ⟨fun _=>rfl,fun h=>absurd rfl h⟩
  case mu=>exact ⟨fun _=>rfl,fun _=>rfl⟩
  case st=>exact ⟨fun _=>rfl,fun _=>rfl⟩
  case ap=>exact ⟨fun _=>rfl,fun _=>rfl⟩
  case aps=>exact ⟨fun _=>rfl,fun _=>rfl⟩
  all_goals simp [COp.isV] at hv
theorem dRun_kind {P:Program} {n0 N1 i:Nat} {o:DO} {env:EN} {hp:CH} {t:TE} (h:dRun P n0 N1 i o env hp t.eq):(t.ws≠[]→o.o.op.mw=true)∧(t.R≠[]→o.o.op.mr=true)∧(t.c=true→o.o.op.mr=true):=by
 rcases COp.cases_c o.o.op with ⟨f,xs,e⟩ | ⟨f,xs,e⟩ | e
 .rw [e]
  obtain ⟨⟨d,op,g⟩,un,lg,bf⟩:=o
  simp only at e
  subst e
  rcases h with ⟨r,_,_,h1,h2,_⟩ | ⟨m,l,_,_,h1,h2,_⟩ | ⟨r,ws,_,_,_,_,h1,h2,_⟩
  .exact ⟨fun x=>absurd h1.symm x,fun x=>absurd h2.symm x,fun _=>rfl⟩
  .exact ⟨fun _=>rfl,fun x=>absurd h2.symm x,fun _=>rfl⟩
  .exact ⟨fun _=>rfl,fun x=>absurd h2.symm x,fun _=>rfl⟩
 .rw [e]
  obtain ⟨⟨d,op,g⟩,un,lg,bf⟩:=o
  simp only at e
  subst e
  unfold dRun at h
  simp only at h
  split at h
  .obtain ⟨r,_,_,h1,h2,_⟩:=h
   exact ⟨fun x=>absurd h1.symm x,fun x=>absurd h2.symm x,fun _=>rfl⟩
  .exact h.elim
 .rw [dRun_e e] at h
  obtain ⟨h1,h2⟩:=h
  split at h2
  .rename_i he
   obtain ⟨_,e1,e2,e3⟩:=h2
   obtain ⟨k1,k2⟩:=eff_kind he
   exact ⟨by rw [←e1];exact k1,by rw [←e2];exact k2,fun x=>by rw [←e3] at x;cases x⟩
  .exact h2.elim
theorem dG_kind {P:Program} {n0 N1 i:Nat} {o:DO} {env:EN} {hp:CH} {G:Bool} {t:TE} (h:dG P n0 N1 i o env hp G t.eq):(t.ws≠[]→o.o.op.mw=true)∧(t.R≠[]→o.o.op.mr=true)∧(t.c=true→o.o.op.mr=true):=by
 rcases COp.cases_c o.o.op with ⟨f,xs,e⟩ | ⟨f,xs,e⟩ | e
 .rw [e]
  obtain ⟨⟨d,op,g⟩,un,lg,bf⟩:=o
  simp only at e
  subst e
  obtain ⟨_,r,_,_,h1,h2,_⟩:=h
  exact ⟨fun x=>absurd h1.symm x,fun x=>absurd h2.symm x,fun _=>rfl⟩
 .rw [e]
  obtain ⟨⟨d,op,g⟩,un,lg,bf⟩:=o
  simp only at e
  subst e
  unfold dG at h
  simp only at h
  obtain ⟨_,h⟩:=h
  split at h
  .obtain ⟨r,_,_,h1,h2,_⟩:=h
   exact ⟨fun x=>absurd h1.symm x,fun x=>absurd h2.symm x,fun _=>rfl⟩
  .exact h.elim
 .rw [dG_e e] at h
  obtain ⟨_,h⟩:=h
  split at h
  .rename_i hv
   obtain ⟨_,_,_,e1,e2,e3⟩:=h
   refine ⟨fun x=>absurd e1.symm x,fun x=>?_,fun x=>by rw [←e3] at x;cases x⟩
   rw [←e2] at x
   revert x hv
   generalize o.o.op=op
   intro hv x
   cases op<;>first | rfl | exact absurd rfl x
  .rcases h with ⟨_,h⟩ | ⟨_,_,e1,e2,e3⟩
   .exact dRun_kind h
   .exact ⟨fun x=>absurd e1.symm x,fun x=>absurd e2.symm x,fun x=>by rw [←e3] at x;cases x⟩
theorem dOp_kind {P:Program} {n0 N1 i:Nat} {o:DO} {env:EN} {hp:CH} {t:TE} (h:dOp P n0 N1 i o env hp t.eq):(t.ws≠[]→o.o.op.mw=true)∧(t.R≠[]→o.o.op.mr=true)∧(t.c=true→o.o.op.mr=true):=by
 unfold dOp at h
 split at h
 .exact dRun_kind h.2
 .split at h
  .exact dG_kind h
  .exact dG_kind h
  .exact dG_kind h
  .exact h.elim
theorem cops_get {P:Program} {N:Nat} {ops:List Oper}:∀{l:List Oper} {cl:List CO},cops P N ops l=some cl→cl.length=l.length∧∀(i:Nat) o,l[i]?=some o→∃c g,cop P N ops o=some c∧cguard N ops o.guard=some g∧cl[i]?=some ⟨o.dst,c,g,[],false⟩
 | [],cl,h=>by simp [cops] at h;subst h;exact ⟨rfl,fun i o h=>by simp at h⟩
 | o::r,cl,h=>by
  unfold cops at h
  split at h
  .rename_i c g l' h1 h2 h3
   cases h
   obtain ⟨e1,e2⟩:=cops_get h3
   refine ⟨by simp [e1],fun i o' ho=>?_⟩
   cases i with
   | zero=>simp at ho;subst ho;exact ⟨c,g,h1,h2,rfl⟩
   | succ i=>simpa using e2 i o' (by simpa using ho)
  .cases h
theorem mkD_get {bs:List (List Nat)} {cl:List CO}:(mkD bs cl).length=cl.length∧∀(i:Nat) c,cl[i]?=some c→∃d,(mkD bs cl)[i]?=some d∧d.o=c:=by
 have hl:(mkD bs cl).length=cl.length:=by simp [mkD]
 refine ⟨hl,fun i c h=>?_⟩
 have hi:=(zlb.1 h).1
 refine ⟨(mkD bs cl)[i]'(by omega),zlg (by omega),?_⟩
 have hx:(mkD bs cl)[i]?=some ((mkD bs cl)[i]'(by omega)):=zlg (by omega)
 generalize (mkD bs cl)[i]'(by omega)=d at hx
 unfold mkD at hx
 rw [zlp,List.getElem?_zipIdx,h] at hx
 simp only [Option.map_some,Option.some.injEq] at hx
 rw [←hx]
theorem apart_spec {x y:CO} (h:x.apart y=true):(∀d∈x.dsts,d ∉ y.slots∧d ∉ y.dsts)∧∀d∈y.dsts,d ∉ x.slots:=by
 unfold CO.apart at h
 simp only [Bool.and_eq_true,List.all_eq_true,Bool.not_eq_true',List.contains_eq_mem,decide_eq_false_iff_not,List.mem_append,not_or] at h
 exact h
def Fre (n0 j i:Nat) (tx ty:TE):Prop :=
 dis (keys tx.ws) ty.R∧dis (keys tx.ws) (keys ty.ws)∧dis (keys ty.ws) tx.R∧(ty.c=true→∀k∈keys tx.ws,k=n0+j)∧(tx.c=true→∀k∈keys ty.ws,k=n0+i)
structure Plan (P:Program) (N:Nat) (ops:Array Oper) (n0:Nat) (dl:List DO) (ts:List TE) (bs:List (List Nat)) (env0:EN) (hp0:CH):Prop where
 size:ops.size=dl.length
 op:∀(i:Nat) o,ops[i]?=some o→∃d t,dl[i]?=some d∧ts[i]?=some t∧cop P N ops.toList o=some d.o.op∧cguard N ops.toList o.guard=some d.o.g∧d.o.dst=o.dst∧t.d=o.dst ∧
  dOp P n0 (n0+dl.length) i d (aL (fun x=>decide (x<i)) 0 env0 (ts.map TE.eu)) (aL (fun x=>decide (x<i)) 0 hp0 (ts.map TE.ws)) t.eq
 edge:∀(i:Nat) o,ops[i]?=some o→(∀e∈o.after,Region.binds .any e=true→e.on<i)∧∀j∈bs.getD i [],j<i∧∃e∈o.after,Region.binds .any e=true∧(e.on=j∨j∈bs.getD e.on [])
 pair:∀(j i:Nat) x y tx ty,j<i→dl[j]?=some x→dl[i]?=some y→ts[j]?=some tx→ts[i]?=some ty→j∈bs.getD i []∨(x.o.apart y.o=true∧Fre n0 j i tx ty)
 bf:∀(i:Nat) y,dl[i]?=some y→∀j∈y.bf,j∈bs.getD i []
 len:ts.length=dl.length
section
variable {P:Program} {C:Ctx} {ops:Array Oper} {n0:Nat} {dl:List DO} {ts:List TE} {bs:List (List Nat)} {env0:EN} {hp0:CH}
def Inv (C:Ctx) (n0:Nat) (dl:List DO) (ts:List TE) (env0:EN) (hp0:CH) (L:Nat→Bool) (a:Act) (w:World):Prop :=
 ∃h ρ,Sat C ⟨aL L 0 env0 (ts.map TE.eu),aL L 0 hp0 (ts.map TE.ws),n0+dl.length⟩ h ρ a w∧∀i,i<dl.length→L i=false→∀g,ρ (n0+i) g=none
theorem Plan.get (p:Plan P C.N ops n0 dl ts bs env0 hp0) {j:Nat} {t:TE} (h:ts[j]?=some t):∃d,dl[j]?=some d∧t.d=d.o.dst:=by
 have hj:j<ops.size:=by rw [p.size,←p.len];exact (zlb.1 h).1
 obtain ⟨d,t',h1,h2,_,_,h3,h4,_⟩:=p.op j ops[j] (by simp [hj])
 rw [h] at h2
 cases h2
 exact ⟨d,h1,by rw [h4,h3]⟩
theorem eu_keys {t:TE} {x:Nat} (h:x∈t.eu.map (·.1)):t.d=some x:=by
 unfold TE.eu at h
 split at h
 .rename_i y hy;simp at h;subst h;exact hy
 .simp at h
theorem map_get {α β:Type} {f:α→β} {l:List α} {j:Nat} {u:β} (h:(l.map f)[j]?=some u):∃t,l[j]?=some t∧u=f t:=by
 rw [zlp] at h
 cases hx:l[j]? with
 | none=>rw [hx] at h;cases h
 | some t=>rw [hx] at h;cases h;exact ⟨t,rfl,rfl⟩
theorem Plan.step (p:Plan P C.N ops n0 dl ts bs env0 hp0) {L L':Nat→Bool} (hcl:∀i,L i=true→∀j∈bs.getD i [],L j=true) {i:Nat} {o:Oper} (ho:ops[i]?=some o) (hLi:L i=false)
  (hready:∀e∈o.after,Region.binds .any e=true→L e.on=true) (hne:∀j,j≠i→L' j=L j) (ht':L' i=true) {a:Act} {w:World} (hinv:Inv C n0 dl ts env0 hp0 L a w) {Q:Exit→Act→World→Prop} {K:Act→World→Prop}
  (hK:∀a' w',Inv C n0 dl ts env0 hp0 L' a' w'→K a' w'):wpOp P ops Q i K a w:=by
 obtain ⟨h,ρ,hS,hfree⟩:=hinv
 obtain ⟨d,t,hd,ht,c1,c2,c3,c4,c5⟩:=p.op i o ho
 have him:i<dl.length:=(zlb.1 hd).1
 have hb:∀x∈bs.getD i [],L x=true:=by
  intro x hx
  obtain ⟨_,e,he,hbe,hor⟩:=(p.edge i o ho).2 x hx
  have:=hready e he hbe
  rcases hor with rfl | hx
  .exact this
  .exact hcl _ this x hx
 have hslot:∀s∈d.o.slots,ge (aL (fun x=>decide (x<i)) 0 env0 (ts.map TE.eu)) s=ge (aL L 0 env0 (ts.map TE.eu)) s:=by
  intro s hs
  rw [ge_lk,ge_lk]
  refine aL_congr _ 0 _ _ rfl fun j u hj hk=>?_
  obtain ⟨tj,htj,rfl⟩:=map_get hj
  obtain ⟨dj,hdj,hdst⟩:=p.get htj
  have hmem:s∈dj.o.dsts:=by unfold CO.dsts;rw [←hdst,eu_keys hk];simp
  simp only [Nat.zero_add]
  rcases Nat.lt_trichotomy j i with hlt | rfl | hgt
  .rcases p.pair j i dj d tj t hlt hdj hd htj ht with hx | ⟨hx,_⟩
   .rw [hb j hx];simp [hlt]
   .exact absurd hs ((apart_spec hx).1 s hmem).1
  .rw [hLi];simp
  .cases hLj:L j with
   | false=>simp;omega
   | true =>
    rcases p.pair i j d dj t tj hgt hd hdj ht htj with hx | ⟨hx,_⟩
    .have:=hcl j hLj i hx;rw [hLi] at this;cases this
    .exact absurd hs ((apart_spec hx).2 s hmem)
 have hch:∀k,(∀(j:Nat) tj,ts[j]?=some tj→k∈keys tj.ws→decide (j<i)=L j)→gc (aL (fun x=>decide (x<i)) 0 hp0 (ts.map TE.ws)) k=gc (aL L 0 hp0 (ts.map TE.ws)) k:=by
  intro k hk
  rw [gc_lk,gc_lk]
  refine aL_congr _ 0 _ _ rfl fun j u hj hx=>?_
  obtain ⟨tj,htj,rfl⟩:=map_get hj
  simp only [Nat.zero_add]
  exact hk j tj htj hx
 have hsame:Same n0 d.bf (aL (fun x=>decide (x<i)) 0 hp0 (ts.map TE.ws)) (aL L 0 hp0 (ts.map TE.ws)) t.eq:=by
  intro α ws R c hE
  obtain ⟨_,_,rfl,rfl⟩:=hE
  refine ⟨fun k hk=>hch k fun j tj htj hx=>?_,fun hc k hk=>hch k fun j tj htj hx=>?_⟩
  .obtain ⟨dj,hdj,_⟩:=p.get htj
   rcases Nat.lt_trichotomy j i with hlt | rfl | hgt
   .rcases p.pair j i dj d tj t hlt hdj hd htj ht with h1 | ⟨_,h1⟩
    .rw [hb j h1];simp [hlt]
    .exact absurd rfl (h1.1 k hx k hk)
   .rw [hLi];simp
   .cases hLj:L j with
    | false=>simp;omega
    | true =>
     rcases p.pair i j d dj t tj hgt hd hdj ht htj with h1 | ⟨_,h1⟩
     .have:=hcl j hLj i h1;rw [hLi] at this;cases this
     .exact absurd rfl (h1.2.2.1 k hx k hk)
  .obtain ⟨dj,hdj,_⟩:=p.get htj
   rcases Nat.lt_trichotomy j i with hlt | rfl | hgt
   .rcases p.pair j i dj d tj t hlt hdj hd htj ht with h1 | ⟨_,h1⟩
    .rw [hb j h1];simp [hlt]
    .have e:=h1.2.2.2.1 hc k hx
     rcases hk with hk | ⟨j',hj',hk⟩
     .omega
     .have:j=j':=by omega
      subst this
      rw [hb j (p.bf i d hd j hj')]
      simp [hlt]
   .rw [hLi];simp
   .cases hLj:L j with
    | false=>simp;omega
    | true =>
     rcases p.pair i j d dj t tj hgt hd hdj ht htj with h1 | ⟨_,h1⟩
     .have:=hcl j hLj i h1;rw [hLi] at this;cases this
     .have e:=h1.2.2.2.2 hc k hx
      rcases hk with hk | ⟨j',hj',hk⟩
      .omega
      .have:j=j':=by omega
       subst this
       have:=((p.edge i o ho).2 j (p.bf i d hd j hj')).1
       omega
 have hop:=dOp_tr (fun s hs=>Src.ev_congr fun t ht=>hslot t (by unfold CO.slots;exact List.mem_append_left _ (List.mem_flatMap.2 ⟨s,hs,ht⟩)))
  (fun t want e=>hslot t (by unfold CO.slots;rw [e];simp)) hsame c5
 have hst:=dOp_step (P:=P) (i:=i) c1 c2 c3 (by omega) hS (hfree i him hLi) hop Q
 have fin:∀a' w',(∃h' ρ',Sat C ⟨EN.set (aL L 0 env0 (ts.map TE.eu)) o.dst t.α,t.ws++aL L 0 hp0 (ts.map TE.ws),n0+dl.length⟩ h' ρ' a' w'∧Fr ρ ρ' (n0+i))→K a' w':=by
  intro a' w' ⟨h',ρ',s,fr⟩
  refine hK a' w' ⟨h',ρ',s.congr (fun x=>?_) (fun x=>?_),fun j hj hLj g=>?_⟩
  .rw [←c4,set_eu,ge_lk,ge_lk]
   refine (aL_set (j0:=i) (by rw [zlp,ht];rfl) hne ht' fun j u hj hlt hL y hy hz=>?_).symm
   obtain ⟨tj,htj,rfl⟩:=map_get hj
   obtain ⟨dj,hdj,hdst⟩:=p.get htj
   have m1:y∈dj.o.dsts:=by unfold CO.dsts;rw [←hdst,eu_keys hy];simp
   have m2:y∈d.o.dsts:=by unfold CO.dsts;rw [c3,←c4,eu_keys hz];simp
   rcases p.pair i j d dj t tj hlt hd hdj ht htj with h1 | ⟨h1,_⟩
   .have:=hcl j hL i h1;rw [hLi] at this;cases this
   .exact ((apart_spec h1).1 y m2).2 m1
  .rw [gc_lk,gc_lk]
   refine (aL_set (j0:=i) (by rw [zlp,ht];rfl) hne ht' fun j u hj hlt hL y hy hz=>?_).symm
   obtain ⟨tj,htj,rfl⟩:=map_get hj
   obtain ⟨dj,hdj,_⟩:=p.get htj
   rcases p.pair i j d dj t tj hlt hd hdj ht htj with h1 | ⟨_,h1⟩
   .have:=hcl j hL i h1;rw [hLi] at this;cases this
   .exact absurd rfl (h1.2.1 y hz y hy)
  .have hji:j≠i:=fun e=>by subst e;rw [ht'] at hLj;cases hLj
   exact fr (n0+j) (by omega) (hfree j hj (by rw [←hne j hji];exact hLj)) g
 unfold wpOp
 rw [ho]
 simp only
 split
 .rename_i hw
  rw [if_pos hw] at hst
  exact .inl (Oper.wp_mono fin hst)
 .rename_i hw
  rw [if_neg hw] at hst
  exact fin _ _ hst
def cnt:List Bool→Nat
 | []=>0
 | b::r=>(if b then 0 else 1)+cnt r
theorem cnt_set:∀(l:List Bool) (i:Nat),l[i]?=some false→cnt (l.set i true)+1=cnt l
 | [],i,h=>by simp at h
 | b::r,0,h=>by simp at h;subst h;simp [cnt];omega
 | b::r,i+1,h=>by
  have:=cnt_set r i (by simpa using h)
  simp only [List.set_cons_succ,cnt]
  omega
theorem cnt_zero:∀(l:List Bool),cnt l=0→∀i,i<l.length→l[i]?=some true
 | [],_,i,h=>by simp at h
 | b::r,h,0,_=>by cases b<;>simp [cnt] at h ⊢
 | b::r,h,i+1,hi=>by
  have:cnt r=0:=by simp only [cnt] at h;omega
  simpa using cnt_zero r this i (by simpa using hi)
theorem Plan.any (p:Plan P C.N ops n0 dl ts bs env0 hp0) {Q:Exit→Act→World→Prop} (hq:∀a w,Inv C n0 dl ts env0 hp0 (fun _=>true) a w→Q .normal a w):∀(fuel:Nat) (listed:Array Bool) (a:Act) (w:World),listed.size=dl.length →
  (∀i,listed.getD i false=true→∀j∈bs.getD i [],listed.getD j false=true)→Inv C n0 dl ts env0 hp0 (fun i=>listed.getD i false) a w→cnt listed.toList≤fuel→wpAny P .any ops Q fuel listed a w:=by
 have full:∀(listed:Array Bool) (a:Act) (w:World),listed.size=dl.length→(∀i,i<dl.length→listed.getD i false=true)→Inv C n0 dl ts env0 hp0 (fun i=>listed.getD i false) a w→Q .normal a w:=by
  intro listed a w hsz hall ⟨h,ρ,s,_⟩
  refine hq a w ⟨h,ρ,s.congr (fun x=>?_) (fun x=>?_),fun i _ e=>by cases e⟩
  .rw [ge_lk,ge_lk]
   refine aL_congr _ 0 _ _ rfl fun j u hj _=>?_
   rw [Nat.zero_add]
   exact hall j (by have:=(zlb.1 hj).1;simp at this;rw [←p.len];exact this)
  .rw [gc_lk,gc_lk]
   refine aL_congr _ 0 _ _ rfl fun j u hj _=>?_
   rw [Nat.zero_add]
   exact hall j (by have:=(zlb.1 hj).1;simp at this;rw [←p.len];exact this)
 have hgt:∀(listed:Array Bool) i,listed.size=dl.length→i<dl.length→listed.getD i true=listed.getD i false:=by
  intro listed i hsz hi
  simp [Array.getD,show i<listed.size by omega]
 intro fuel
 induction fuel with
 | zero =>
  intro listed a w hsz hcl hinv hcnt
  have hall:∀i,i<dl.length→listed.getD i false=true:=by
   intro i hi
   have h1:listed[i]?=some true:=by rw [←Array.getElem?_toList];exact cnt_zero listed.toList (by omega) i (by simpa [hsz] using hi)
   rw [Array.getD_eq_getD_getElem?,h1]
   rfl
  refine ⟨?_,full listed a w hsz hall hinv⟩
  unfold Region.ready
  rw [List.filter_eq_nil_iff]
  intro i hi
  have hi':i<dl.length:=by rw [←p.size];simpa using hi
  rw [hgt listed i hsz hi',hall i hi']
  simp
 | succ fuel ih =>
  intro listed a w hsz hcl hinv hcnt
  refine ⟨fun hr=>full listed a w hsz (fun i=>?_) hinv,fun i hi=>?_⟩
  .induction i using Nat.strongRecOn with
   | _ i ihi =>
    intro hi
    cases hx:listed.getD i false with
    | true=>rfl
    | false =>
     have hio:i<ops.size:=by rw [p.size];exact hi
     have:i∈Region.ready .any ops listed:=by
      unfold Region.ready
      refine List.mem_filter.2 ⟨by simpa using hio,?_⟩
      rw [hgt listed i hsz hi,hx]
      simp only [Bool.not_false,Bool.true_and,Array.getElem?_eq_getElem hio,Option.map_some,Option.getD_some,Array.all_eq_true']
      intro e he
      cases hbd:Region.binds .any e with
      | false=>simp
      | true =>
       have:=(p.edge i ops[i] (by simp [hio])).1 e he hbd
       simp [ihi e.on this (by omega)]
     rw [hr] at this
     simp at this
  .unfold Region.ready at hi
   obtain ⟨h1,h2⟩:=List.mem_filter.1 hi
   have hio:i<ops.size:=by simpa using h1
   have him:i<dl.length:=by rw [←p.size];exact hio
   simp only [Bool.and_eq_true,Bool.not_eq_true',Array.getElem?_eq_getElem hio,Option.map_some,Option.getD_some] at h2
   obtain ⟨h3,h4⟩:=h2
   rw [hgt listed i hsz him] at h3
   have hset:∀j,(listed.setIfInBounds i true).getD j false=if j=i then true else listed.getD j false:=by
    intro j
    have hs:i<listed.size:=by omega
    by_cases hji:j=i
    .subst hji
     simp [Array.getD,hs]
    .rw [if_neg hji]
     by_cases hj:j<listed.size
     .simp [Array.getD,hj,Array.getElem_setIfInBounds,Ne.symm hji]
     .simp [Array.getD,hj]
   rw [Array.all_eq_true'] at h4
   refine p.step (L:=fun i=>listed.getD i false) (L':=fun j=>(listed.setIfInBounds i true).getD j false) hcl (o:=ops[i]) (by simp [hio]) h3 (fun e he hbd=>?_) (fun j hj=>?_) ?_ hinv (fun a' w' hinv'=>ih _ a' w' (by simpa using hsz) (fun j hj x hx=>?_) hinv' ?_)
   .have:=h4 e he
    simpa [hbd] using this
   .simp only [hset,if_neg hj]
   .show (listed.setIfInBounds i true).getD i false=true
    rw [hset,if_pos rfl]
   .rw [hset] at hj ⊢
    split
    .rfl
    .split at hj
     .rename_i hji
      subst hji
      obtain ⟨_,e,he,hbd,hor⟩:=(p.edge j ops[j] (by simp [hio])).2 x hx
      have h5:listed.getD e.on false=true:=by have:=h4 e he;simpa [hbd] using this
      rcases hor with rfl | hx
      .exact h5
      .exact hcl _ h5 x hx
     .exact hcl j hj x hx
   .have:listed.toList[i]?=some false:=by
     have hs:i<listed.size:=by omega
     simp [Array.getD,hs] at h3
     simp [hs,h3]
    have:=cnt_set listed.toList i this
    simp
    omega
end
theorem cdraw_dr {P:Program} {N:Nat} {l:List Oper} {c:CC} (h:cdraw P N l=some c):∃dl,c=.dr dl []:=by
 unfold cdraw at h
 split at h
 .split at h
  .cases h;exact ⟨_,rfl⟩
  .cases h
 .cases h
theorem draw_sound {P:Program} {C:Ctx} {id:Nat} {ops:Array Oper} {dl:List DO} {st:St} {a:Act} {w:World} {K:EN→CH→Prop} {Q:Exit→Act→World→Prop} (hc:cdraw P C.N ops.toList=some (.dr dl []))
  (hv:vcD P st.n (st.n+dl.length) 0 dl st.env st.hp [] K) (hS:S C st a w) (hq:∀env hp a' w',K env hp→S C ⟨env,hp,st.n+dl.length⟩ a' w'→Q .normal a' w'):(Code.region id ops true).wp P Q a w:=by
 obtain ⟨ts,e',h',hval,hK⟩:=val_of dl 0 st.env st.hp [] K hv
 unfold cdraw at hc
 split at hc
 .rename_i cl hcl
  split at hc
  .rename_i hck
   simp only [Option.some.injEq,CC.dr.injEq] at hc
   obtain ⟨rfl,_⟩:=hc
   generalize hbs:befs ops.toList=bs at *
   unfold dCk at hck
   simp only [Bool.and_eq_true,beq_iff_eq] at hck
   obtain ⟨⟨⟨k1,k2⟩,k3⟩,k4⟩:=hck
   obtain ⟨g1,g2⟩:=cops_get hcl
   obtain ⟨m1,m2⟩:=mkD_get (bs:=bs) (cl:=cl)
   have hlen:=val_len _ _ _ _ _ _ _ _ hval
   have hget:∀{i:Nat} {d:DO},(mkD bs cl)[i]?=some d→∃t,ts[i]?=some t:=fun h=>by
    have:=(zlb.1 h).1
    exact ⟨ts[_],zlg (by omega)⟩
   have plan:Plan P C.N ops st.n (mkD bs cl) ts bs st.env st.hp:=by
    refine ⟨by simpa using k2.symm,fun i o ho=>?_,fun i o ho=>?_,fun j i x y tx ty hlt hx hy htx hty=>?_,fun i y hy j hj=>?_,hlen⟩
    .obtain ⟨c,g,c1,c2,c3⟩:=g2 i o (by simpa using ho)
     obtain ⟨d,d1,d2⟩:=m2 i _ c3
     obtain ⟨t,ht⟩:=hget d1
     have:=val_get _ _ _ _ _ _ _ _ hval i d t d1 ht
     simp only [Nat.zero_add] at this
     refine ⟨d,t,d1,ht,by rw [d2];exact c1,by rw [d2];exact c2,by rw [d2],?_,this.2⟩
     rw [this.1,d2]
    .unfold bOk at k3
     rw [List.all_eq_true] at k3
     have hi:i<ops.size:=(Array.getElem?_eq_some_iff.1 ho).1
     have:=k3 i (by simpa using hi)
     rw [Array.getElem?_toList,ho] at this
     simp only [Bool.and_eq_true,Array.all_eq_true',List.all_eq_true,Bool.or_eq_true,Bool.not_eq_true',decide_eq_true_eq] at this
     refine ⟨fun e he hb=>?_,fun j hj=>?_⟩
     .rcases this.1 e he with h1 | h1
      .rw [hb] at h1;cases h1
      .exact h1
     .obtain ⟨h1,h2⟩:=this.2 j hj
      refine ⟨h1,?_⟩
      rw [Array.any_eq_true'] at h2
      obtain ⟨e,he,h3⟩:=h2
      simp only [Bool.and_eq_true,Bool.or_eq_true,beq_iff_eq,List.contains_eq_mem,decide_eq_true_eq] at h3
      exact ⟨e,he,h3.1,h3.2⟩
    .unfold pOk at k4
     rw [List.all_eq_true] at k4
     have:=k4 i (by simpa using (zlb.1 hy).1)
     rw [hy] at this
     simp only [Bool.and_eq_true,List.all_eq_true] at this
     have h2:=this.2 j (by simpa using hlt)
     rw [hx] at h2
     simp only [Bool.and_eq_true,Bool.or_eq_true,Bool.not_eq_true',List.contains_eq_mem,decide_eq_true_eq] at h2
     refine h2.imp (fun h=>h) fun ⟨ha,hm⟩=>⟨ha,?_⟩
     have vx:=val_get _ _ _ _ _ _ _ _ hval j x tx hx htx
     have vy:=val_get _ _ _ _ _ _ _ _ hval i y ty hy hty
     obtain ⟨kx1,kx2,kx3⟩:=dOp_kind vx.2
     obtain ⟨ky1,ky2,ky3⟩:=dOp_kind vy.2
     have kne:∀{u:CH} {k:Nat},k∈keys u→u≠[]:=fun h e=>by subst e;simp [keys] at h
     have rne:∀{u:List Nat} {k:Nat},k∈u→u≠[]:=fun h e=>by subst e;simp at h
     rcases hm with hm | ⟨hm1,hm2⟩
     .have hm':∀{p:Prop},(x.o.op.mw=true∧(y.o.op.mw=true∨y.o.op.mr=true))∨(y.o.op.mw=true∧x.o.op.mr=true)→p:=by
       intro p hx
       exfalso
       unfold mates at hm
       rcases hx with ⟨e1,e2 | e2⟩ | ⟨e1,e2⟩<;>simp [e1,e2] at hm
      exact ⟨fun a ha b hb=>hm' (.inl ⟨kx1 (kne ha),.inr (ky2 (rne hb))⟩),fun a ha b hb=>hm' (.inl ⟨kx1 (kne ha),.inl (ky1 (kne hb))⟩),fun a ha b hb=>hm' (.inr ⟨ky1 (kne ha),kx2 (rne hb)⟩),
       fun hc a ha=>hm' (.inl ⟨kx1 (kne ha),.inr (ky3 hc)⟩),fun hc a ha=>hm' (.inr ⟨ky1 (kne ha),kx3 hc⟩)⟩
     .have:=val_cf _ _ _ _ _ _ _ _ hval j i x tx y ty hlt hx htx hy hty hm2 (by simpa using hm1)
      simp only [Nat.zero_add] at this
      exact this
    .unfold pOk at k4
     rw [List.all_eq_true] at k4
     have:=k4 i (by simpa using (zlb.1 hy).1)
     rw [hy] at this
     simp only [Bool.and_eq_true,List.all_eq_true,List.contains_eq_mem,decide_eq_true_eq] at this
     exact this.1 j hj
   refine wp_region_any k1 (plan.any (fun a' w' hinv=>?_) _ _ _ _ (by simp [plan.size]) (fun i hi=>?_) ?_ ?_)
   .obtain ⟨h,ρ,s,_⟩:=hinv
    obtain ⟨e1,e2⟩:=val_end _ _ _ _ _ _ _ _ hval
    rw [←e1,←e2] at s
    exact hq _ _ _ _ hK ⟨h,ρ,s⟩
   .exfalso
    simp [Array.getD] at hi
   .obtain ⟨h,ρ,s⟩:=hS
    have hL:∀j,(Array.replicate ops.size false).getD j false=false:=by intro j;simp [Array.getD]
    refine ⟨h,ρ,?_,fun i _ _ g=>s.mem.fr (st.n+i) g (by omega)⟩
    rw [aL_pre _ _ _ (fun j _=>hL j),aL_pre _ _ _ (fun j _=>hL j)]
    exact Sat.more (n:=st.n) (w:=w) (Nat.le_add_right _ _) rfl rfl rfl rfl s
   .have:∀n,cnt (List.replicate n false)=n:=by
     intro n
     induction n with
     | zero=>rfl
     | succ n ih=>simp [List.replicate_succ,cnt,ih];omega
    simp [this]
  .cases hc
 .cases hc
end Go.Eng
