/- Proof. Conditions: none. -/
import Derived.Test.YtgfidgoefioigaaGreatDoorProg
import Derived.KernelRfl
import Derived.Test.YtgfidgoefioigaaGreatDoorRows
import Derived.WalkKit
import Derived.Test.YtgfidgoefioigaaGreatDoorIi36
open Go.Proofs.Tryz
open List renaming mem_of_getElem?→zla,getElem?_eq_getElem→zlg,getElem?_map→zlp,flatten_cons→zlt,mem_cons→zlw
open Nat renaming lt_or_ge→znb
namespace Go.Eng
set_option linter.all false
theorem AI.outJ {P:Program} {f:FuncId} {hp:CH} {n:Nat} {args:List AV} {ι:Type} (outsI:ι→Bw) (φ:ι→Prop) (PC:ι→CH) (rI:ι→AV) (h1:∀i,φ i→∀k,k<n→gc (PC i) k=gc hp k∨(gc (PC i) k).lt1 n) (BP:∀i,φ i→∀k,n≤k→gc (PC i) k=.no)
  (m0:AI P f hp n args (Rx φ fun i=>JU (PC i) n (outsI i) (rI i))):AI P f hp n args (Rx φ fun i Ao n' r'=>Ao=BR n (outsI i)++PC i∧n'=n+(outsI i).length∧r'=rI i):=by
 refine ⟨m0.1,fun h ρ w vs hs ha=>(m0.2 h ρ w vs hs ha).mono fun e w' ⟨v,he,h',ρ',Ao,n',r',⟨ix,hφ,e1,e2⟩,hh,hr,hm,BW,hk,hl⟩=>?_⟩
 have h1:=h1 ix hφ
 have BP:=BP ix hφ
 obtain ⟨Hm,hp1e⟩:∃x,PC ix=x:=⟨_,rfl⟩
 obtain ⟨r,re⟩:∃x,rI ix=x:=⟨_,rfl⟩
 obtain ⟨outs,oe⟩:∃x,outsI ix=x:=⟨_,rfl⟩
 rw [hp1e] at h1 BP
 have e1:Up n (PC ix) (G6 Ao (Bc (rI ix)) (Bc r')):=e1
 have e2:fR (G6 Ao (Bc (rI ix)) (Bc r')) n (outsI ix) (rI ix) r':=e2
 rw [hp1e,re] at e1
 rw [re,oe] at e2
 have e2:=TV e2
 obtain ⟨h2,a1,a2,a3⟩:=IB (E:=Bc r) (A:=Bc r') hm
 generalize G6 Ao (Bc r) (Bc r')=hq at *
 obtain ⟨sel,M,rel⟩:=OG a2 (BW.mono a1 (BS.refl _)) e2
 have hρ:BS ρ (ρS ρ' n sel):=fun k g x hx=>by
  rcases znb k n with Bt | Bt
  .rw [ρS_lt Bt];exact hr _ _ _ hx
  .rw [hs.fr k g Bt] at hx;cases hx
 -- what may be written
 have Eh:∀k g b c,(gc (BR n outs++Hm) k).own g→ρS ρ' n sel k g=some (some b,c)→∃k2 g2,(gc hq k2).own g2∧ρ' k2 g2=some (some b,c)∧(k<n→k2=k)∧(n≤k→∃i,k=n+i∧sel[i]?=some (some (k2,g2))):=by
  intro k g b c hg hx
  rcases znb k n with Bt | Bt
  .rw [Co Bt] at hg
   rw [ρS_lt Bt] at hx
   exact ⟨k,g,by rw [e1 k Bt];exact hg,hx,fun _=>rfl,fun h=>by omega⟩
  .obtain ⟨i,rfl⟩:∃i,k=n+i:=⟨k - n,by omega⟩
   rcases znb i outs.length with hi | hi
   .have ho:outs[i]?=some outs[i]:=zlg hi
    have JP:i<sel.length:=by rw [M.len];exact hi
    have EG:sel[i]?=some sel[i]:=zlg JP
    rw [CB (m:=outs[i].1) (l:=outs[i].2) ho] at hg
    cases hg
    cases FI:sel[i] with
    | none =>
     rw [FI] at EG
     rw [ρS_none EG] at hx
     cases hx
    | some p =>
     obtain ⟨k2,g2⟩:=p
     rw [FI] at EG
     rw [ρS_new EG] at hx
     obtain ⟨_,m2,l2,_,q⟩:=M.ge i k2 g2 EG
     exact ⟨k2,g2,by rw [q];rfl,hx,fun h=>by omega,fun _=>⟨i,rfl,EG⟩⟩
   .rw [Dp (by omega),BP _ (by omega)] at hg
    cases hg
 have AJ:∀b,A9 (ρS ρ' n sel) (BR n outs++Hm) b→A9 ρ' hq b:=fun b ⟨k,g,c,hg,hx⟩=>by
  obtain ⟨k2,g2,q1,q2,_⟩:=Eh k g b c hg hx
  exact ⟨k2,g2,c,q1,q2⟩
 refine ⟨v,he,h2,ρS ρ' n sel,_,_,r,⟨ix,hφ,by rw [hp1e,oe],by rw [oe],re.symm⟩,hh.trans a1,hρ,⟨a2.hh,fun k=>?_,fun k k' g g' b c c' q1 q2 q3 q4=>?_,fun b hb=>a2.hid b (AJ b hb),fun b hb=>a2.lt b (AJ b hb),fun k g hk=>?_,fun k g g' x q1 q2=>?_,a2.gl⟩,rel,hk,fun b hb=>hl b (a3 b (AJ b hb))⟩
 .rcases znb k n with Bt | Bt
  .rw [Co Bt]
   have s1:=a2.ch k
   rw [e1 k Bt] at s1
   rcases h1 k Bt with hu | hu
   .have s0:=hs.ch k
    rw [←hu] at s0
    exact Ap.sat_mono (B8.refl _) hρ (fun _ _ _ _ _=>rfl) (Ap.back hr s0 s1)
   .cases hc:gc Hm k with
    | no=>trivial
    | bx cs =>
     rw [hc] at s1 hu
     obtain ⟨b,c,vs',ty,b1,b2,b3,b4⟩:=s1
     exact ⟨b,c,vs',ty,(ρS_lt Bt 0).trans b1,b2,b3,fun j α u x y=>Et (hu α (zla x)) (b4 j α u x y)⟩
    | rw g mm l =>
     rw [hc] at s1
     obtain ⟨ob,cap,b1,b2⟩:=s1
     exact ⟨ob,cap,(ρS_lt Bt g).trans b1,b2⟩
    | sh g mm l =>
     rw [hc] at s1
     obtain ⟨ob,cap,b1,b2⟩:=s1
     exact ⟨ob,cap,(ρS_lt Bt g).trans b1,b2⟩
    | rc g mm cap l =>
     rw [hc] at s1
     obtain ⟨ob,b1,b2⟩:=s1
     exact ⟨ob,(ρS_lt Bt g).trans b1,b2⟩
    | mp l =>
     rw [hc] at s1
     obtain ⟨b,c,es,cl,b1,b2⟩:=s1
     exact ⟨b,c,es,cl,(ρS_lt Bt 0).trans b1,b2⟩
    | mq F =>
     rw [hc] at s1
     obtain ⟨b,c,es,cl,b1,b2⟩:=s1
     exact ⟨b,c,es,cl,(ρS_lt Bt 0).trans b1,b2⟩
    | mr l sn =>
     rw [hc] at s1
     obtain ⟨b,c,es,cl,b1,q1,q2,q3,q4,b2,c2,sn2,g2,q5⟩:=s1
     exact ⟨b,c,es,cl,(ρS_lt Bt 0).trans b1,q1,q2,q3,q4,b2,c2,sn2,(ρS_lt Bt 1).trans g2,q5⟩
    | ro cs =>
     rw [hc] at s1
     obtain ⟨b,c,us,e,fr,b1,b2⟩:=s1
     exact ⟨b,c,us,e,fr,(ρS_lt Bt 0).trans b1,b2⟩
    | rn g mm l =>
     rw [hc] at s1 hu
     obtain ⟨ob,cap,b1,b2,b2',b3,b4,b5⟩:=s1
     refine ⟨ob,cap,(ρS_lt Bt g).trans b1,b2,b2',b3,b4,fun b hb=>?_⟩
     obtain ⟨vs',ty,c1,c2,c3⟩:=b5 b hb
     exact ⟨vs',ty,c1,c2,fun j x q α y1 y2=>let ⟨u,z1,z2⟩:=c3 j x q α y1 y2;⟨u,z1,Et (hu x (zla y1) α (zla y2)) z2⟩⟩
    | sb T e g bs =>
     rw [hc] at s1
     obtain ⟨b,c,p,v,b1,b2,b3,b4,b5,⟨y,b6⟩,b7⟩:=s1
     exact ⟨b,c,p,v,(ρS_lt Bt 0).trans b1,b2,b3,b4,b5,⟨y,(ρS_lt Bt g).trans b6⟩,fun x hx=>⟨(b7 x hx).1,let ⟨c2,q⟩:=(b7 x hx).2;⟨c2,(ρS_lt Bt g).trans q⟩⟩⟩
  .obtain ⟨i,rfl⟩:∃i,k=n+i:=⟨k - n,by omega⟩
   rcases znb i outs.length with hi | hi
   .have ho:outs[i]?=some outs[i]:=zlg hi
    have JP:i<sel.length:=by rw [M.len];exact hi
    have EG:sel[i]?=some sel[i]:=zlg JP
    rw [CB (m:=outs[i].1) (l:=outs[i].2) ho]
    cases FI:sel[i] with
    | none =>
     rw [FI] at EG
     obtain ⟨m2,q⟩:=M.no i EG
     rw [ho] at q
     have q:outs[i]=(m2,[]):=Option.some.inj q
     rw [q]
     exact ⟨none,0,ρS_none EG,by simp,by simp [maxLen],fun j e h=>by simp at h,fun _=>rfl,fun b hb=>by cases hb⟩
    | some p =>
     obtain ⟨k2,g2⟩:=p
     rw [FI] at EG
     obtain ⟨_,m2,l2,q1,q2⟩:=M.ge i k2 g2 EG
     rw [ho] at q1
     have q1:outs[i]=(m2,l2):=Option.some.inj q1
     have s1:=a2.ch k2
     rw [q2] at s1
     rw [q1]
     obtain ⟨ob,cap,b1,b2⟩:=s1
     exact ⟨ob,cap,(ρS_new EG).trans b1,b2⟩
   .rw [Dp (by omega),BP _ (by omega)]
    trivial
 .obtain ⟨k2,g2,x1,x2,x3,x4⟩:=Eh k g b c q1 q3
  obtain ⟨k2',g2',y1,y2,y3,y4⟩:=Eh k' g' b c' q2 q4
  have e3:=a2.inj k2 k2' g2 g2' b c c' x1 y1 x2 y2
  subst e3
  rcases znb k n with Bt | Bt<;>rcases znb k' n with Ee | Ee
  .rw [←x3 Bt,←y3 Ee]
  .obtain ⟨i,_,JK⟩:=y4 Ee
   have:=(M.ge i k2 g2' JK).1
   have:=x3 Bt
   omega
  .obtain ⟨i,_,JK⟩:=x4 Bt
   have:=(M.ge i k2 g2 JK).1
   have:=y3 Ee
   omega
  .obtain ⟨i,rfl,JK⟩:=x4 Bt
   obtain ⟨j,rfl,hs3⟩:=y4 Ee
   rw [M.inj i j k2 g2 g2' JK hs3]
 .have Bt:¬k<n:=by omega
  have:sel[k - n]?=none:=List.getElem?_eq_none (by rw [M.len];omega)
  simp [ρS,Bt,this]
 .rcases znb k n with Bt | Bt
  .rw [Co Bt] at q1
   rw [ρS_lt Bt] at q2
   exact a2.gens k g g' x (by rw [e1 k Bt];exact q1) q2
  .by_cases hg:g'=0
   .omega
   .have Ee:¬k<n:=by omega
    simp [ρS,Ee,hg] at q2
theorem Xp {P : Program} {f : FuncId} {fn : Func} {k : CC} {rs : List RS} {ι : Type} (outsI : ι → Bw) (φ : ι → Prop) (ws : ι → CH) (rI : ι → AV) (hf : P.funcs[f]? = some fn) (Fn : (fn.name == "runtime.NumGoroutine") = false)
  (hc:fn.body.bind (BL P fn.ntmps)=some k.erase) (GG:MW P fn.ntmps fn.results.toList=some rs) {hp:CH} {n:Nat} {args:List AV} (Bb:Nat.ble args.length fn.ntmps=true)
  (hX:(∀k,n≤k→gc hp k=.no)→∀i,φ i→wsLt n (ws i)) (hv:(∀k,n≤k→gc hp k=.no)→vc P k ⟨Cu 0 args,hp,n⟩ (Ji rs (Rx φ fun i=>JU (ws i++hp) n (outsI i) (rI i)))) :
  AI P f hp n args (Rx φ fun i Ao n' r'=>Ao=BR n (outsI i)++(ws i++hp)∧n'=n+(outsI i).length∧r'=rI i):=by
 have Io := (by obtain ⟨c, hb, Oo⟩ := bd hc; exact ⟨fn, hf, Fn, by rw [hb]; rfl⟩ : ∃ fn, P.funcs[f]? = some fn ∧ (fn.name == "runtime.NumGoroutine") = false ∧ fn.body.isNone = false)
 refine ⟨Io,fun h ρ w vs hs ha=>?_⟩
 have hw:=fun i hi=>Hd (hX hs.free i hi)
 refine (AI.outJ outsI φ (fun i=>ws i++hp) rI (fun i hi k hk=>?_) (fun i hi k hk=>?_) (Ib hf Fn hc GG Bb (hv hs.free))).2 h ρ w vs hs ha
 .rcases D8 (ws:=ws i) (hp:=hp) k with ⟨_,e⟩ | ⟨c,hm,e⟩
  .exact .inl e
  .exact .inr (by rw [e];exact (hw i hi _ hm).2)
 .rcases D8 (ws:=ws i) (hp:=hp) k with ⟨_,e⟩ | ⟨c,hm,e⟩
  .rw [e];exact hs.free k hk
  .have:=(hw i hi _ hm).1
   omega
end Go.Eng
namespace Go.Proofs.YtgfidgoefioigaaGreatDoor
open Go.Eng
set_option linter.all false
set_option maxRecDepth 20000
inductive G5:Ak→Ak→Prop
 | refl (v:Ak):G5 v v
 | list (v w:Ak):v.k=5→w.k=5→v.s=w.s→v.items.length=w.items.length→(∀(i:Nat) a b,v.items[i]?=some a→w.items[i]?=some b→G5 a b)→G5 v w
 | obj (v w:Ak):v.k=6→w.k=6→v.s=w.s→(∀k,(AF v k).isSome=(AF w k).isSome)→(∀k a b,AF v k=some a→AF w k=some b→G5 a b)→G5 v w
theorem G5.k {v w:Ak} (h:G5 v w):v.k=w.k:=by cases h with
 | refl=>rfl
 | list _ _ h1 h2=>rw [h1,h2]
 | obj _ _ h1 h2=>rw [h1,h2]
theorem G5.s {v w:Ak} (h:G5 v w):v.s=w.s:=by cases h with
 | refl=>rfl
 | list _ _ _ _ h=>exact h
 | obj _ _ _ _ h=>exact h
theorem G5.other {v w:Ak} (h:G5 v w) (h5:v.k≠5) (h6:v.k≠6):v=w:=by cases h with
 | refl=>rfl
 | list _ _ h1=>exact absurd h1 h5
 | obj _ _ h1=>exact absurd h1 h6
theorem G5.len {v w:Ak} (h:G5 v w) (h5:v.k=5):v.items.length=w.items.length:=by cases h with
 | refl=>rfl
 | list _ _ _ _ _ h=>exact h
 | obj _ _ h1=>rw [h5] at h1;exact absurd h1 (by decide)
theorem G5.at5 {v w:Ak} (h:G5 v w) (h5:v.k=5) (i:Nat) {a b:Ak} (ha:v.items[i]?=some a) (hb:w.items[i]?=some b):G5 a b:=by cases h with
 | refl=>rw [ha] at hb;cases hb;exact .refl _
 | list _ _ _ _ _ _ h=>exact h i a b ha hb
 | obj _ _ h1=>rw [h5] at h1;exact absurd h1 (by decide)
theorem G5.some6 {v w:Ak} (h:G5 v w) (k:ByteArray):(AF v k).isSome=(AF w k).isSome:=by cases h with
 | refl=>rfl
 | list _ _ h1 h2=>rw [Ca (by rw [h1];decide),Ca (by rw [h2];decide)]
 | obj _ _ _ _ _ h=>exact h k
theorem G5.at6 {v w:Ak} (h:G5 v w) (k:ByteArray) {a b:Ak} (ha:AF v k=some a) (hb:AF w k=some b):G5 a b:=by cases h with
 | refl=>rw [ha] at hb;cases hb;exact .refl _
 | list _ _ h1 h2=>rw [Ca (by rw [h1];decide)] at ha;cases ha
 | obj _ _ _ _ _ _ h=>exact h k a b ha hb
theorem G5.getD {v w:Ak} (h:G5 v w) (k:ByteArray):G5 ((AF v k).getD AB) ((AF w k).getD AB):=by
 have h1:=h.some6 k
 cases ha:AF v k with
 | none =>
  rw [ha] at h1
  cases hb:AF w k with
  | none=>exact .refl _
  | some b=>rw [hb] at h1;cases h1
 | some a =>
  rw [ha] at h1
  cases hb:AF w k with
  | none=>rw [hb] at h1;cases h1
  | some b=>exact h.at6 k ha hb
theorem G5.typF {v w:Ak} (h:G5 v w):typF v=typF w:=(h.getD sT).s
theorem G5.typO {v w:Ak} (h:G5 v w):typO v=typO w:=by
 have h1:=h.some6 sT
 unfold Go.Proofs.YtgfidgoefioigaaGreatDoor.typO
 cases ha:AF v sT with
 | none =>
  rw [ha] at h1
  cases hb:AF w sT with
  | none=>rfl
  | some b=>rw [hb] at h1;cases h1
 | some a =>
  rw [ha] at h1
  cases hb:AF w sT with
  | none=>rw [hb] at h1;cases h1
  | some b =>
   have:=h.at6 sT ha hb
   dsimp only
   rw [this.k,this.s]
theorem D3 (doc:List Az) (n:ByteArray) {v:Ak} (h:v.k=5∨v.k=6):GQ doc n v=none:=by
 have e:v.k≠1∧v.k≠2∧v.k≠3∧v.k≠4:=by omega
 unfold GQ R8
 split
 .rw [if_neg (fun q=>e.2.1 q.2.1),if_neg (fun q=>e.2.2.1 q.2),if_neg (fun q=>e.2.1 q.2),if_neg (fun q=>e.1 q.2)]
 .rw [if_neg (fun q=>e.2.2.2 q.2.1)]
theorem G5.cpl (doc:List Az) {v w:Ak} (h:G5 v w):Be doc v=Be doc w:=by
 induction h with
 | refl=>rfl
 | list v w h1 h2 hs hl hi ih =>
  have hm:v.items.map (Be doc)=w.items.map (Be doc):=by
   apply List.ext_getElem?
   intro i
   rw [zlp,zlp]
   rcases znb i v.items.length with q | q
   .have e1:v.items[i]?=some v.items[i]:=zlg q
    have e2:w.items[i]?=some w.items[i]:=zlg (by omega)
    rw [e1,e2,Option.map_some,Option.map_some,ih i _ _ e1 e2]
   .rw [List.getElem?_eq_none q,List.getElem?_eq_none (by omega)]
  funext tn tw picks path
  rw [CY,CY,hm]
  unfold Ms
  rw [D3 doc tn (.inl h1),D3 doc tn (.inl h2)]
  have t1:Go.Proofs.YtgfidgoefioigaaGreatDoor.typO v=none:=by unfold Go.Proofs.YtgfidgoefioigaaGreatDoor.typO;rw [Ca (by rw [h1];decide)]
  have t2:Go.Proofs.YtgfidgoefioigaaGreatDoor.typO w=none:=by unfold Go.Proofs.YtgfidgoefioigaaGreatDoor.typO;rw [Ca (by rw [h2];decide)]
  rw [t1,t2,h1,h2]
  simp only [show ¬(5:Int)=9 by decide,if_false]
 | obj v w h1 h2 hs hl hi ih =>
  have hS:G5 v w:=.obj v w h1 h2 hs hl hi
  have hg:∀k,Be doc ((AF v k).getD AB)=Be doc ((AF w k).getD AB):=fun k=>by
   have h1:=hl k
   cases ha:AF v k with
   | none =>
    rw [ha] at h1
    cases hb:AF w k with
    | none=>rfl
    | some b=>rw [hb] at h1;cases h1
   | some a =>
    rw [ha] at h1
    cases hb:AF w k with
    | none=>rw [hb] at h1;cases h1
    | some b=>exact ih k a b ha hb
  have ho:∀on path picks,GT v.keys (v.items.map (Be doc)) on path picks=GT w.keys (w.items.map (Be doc)) on path picks:=fun on path picks=>by
   unfold GT
   apply List.map_congr_left
   intro p _
   rw [FM doc v h1,FM doc w h2,hg]
  funext tn tw picks path
  rw [CY,CY]
  unfold Ms
  rw [D3 doc tn (.inr h1),D3 doc tn (.inr h2),hS.typO,h1,h2]
  simp only [show ¬(6:Int)=9 by decide,show ¬(6:Int)=0 by decide,show ¬(6:Int)=5 by decide,if_false]
  split
  .rfl
  split
  .rfl
  split
  .rfl
  .split
   .unfold JZ;rw [ho]
   .rfl
/-! ### What cutting leaves -/
theorem Uz (k:ByteArray):∀(l:List ByteArray) (j:Nat),0≤ix k l j→l[(ix k l j - j).toNat]?=some k
 | [],j,h=>by simp [ix] at h
 | x::r,j,h=>by
  rw [ix] at h ⊢
  split
  .rename_i c;subst c;simp
  .rename_i c
   rw [if_neg c] at h
   have:=Uz k r (j+1) h
   have hl:=M0 k r (j+1)
   have e:(ix k r (j+1) - (j:Int)).toNat=(ix k r (j+1) - ((j+1:Nat):Int)).toNat+1:=by
    rcases hl with q | q
    .omega
    .omega
   rw [e,List.getElem?_cons_succ]
   exact this
theorem PY {k:ByteArray} {l:List ByteArray} (h:0≤ix k l 0):l[(ix k l 0).toNat]?=some k:=by
 have:=Uz k l 0 h
 simpa using this
noncomputable def HE (on key:ByteArray):List CF→Ak→Ak
 | [],x=>x
 | (p,f)::r,x=>if p.on=on∧p.key=key∧p.label=⟨#[]⟩ then HE on key r (f (D1 p x)) else HE on key r x
theorem Nu (on:ByteArray) (keys:List ByteArray):∀(fs:List CF) (is:List Ak),(Gf on keys fs is).length=is.length
 | [],is=>rfl
 | (p,f)::r,is=>by
  rw [Gf]
  split
  .rw [Nu on keys r,List.length_set]
  .exact Nu on keys r is
theorem E3 (on key:ByteArray) (keys:List ByteArray) (h0:0≤ix key keys 0):∀(fs:List CF) (is:List Ak),(Gf on keys fs is)[(ix key keys 0).toNat]?=(is[(ix key keys 0).toNat]?).map (HE on key fs)
 | [],is=>by
  rw [Gf]
  cases is[(ix key keys 0).toNat]?<;>rfl
 | (p,f)::r,is=>by
  rw [Gf]
  by_cases hk:p.key=key
  .subst hk
   by_cases hc:p.on=on∧p.label=⟨#[]⟩
   .rcases znb (ix p.key keys 0).toNat is.length with q | q
    .rw [if_pos ⟨hc.1,hc.2,h0,by omega⟩,E3 on p.key keys h0 r,List.getElem?_set_self q]
     have e:is[(ix p.key keys 0).toNat]?=some is[(ix p.key keys 0).toNat]:=zlg q
     have e2:is.getD (ix p.key keys 0).toNat AB=is[(ix p.key keys 0).toNat]:=by rw [List.getD_eq_getElem?_getD,e];rfl
     rw [e2,e,Option.map_some,Option.map_some,HE,if_pos ⟨hc.1,rfl,hc.2⟩]
    .rw [if_neg (by omega),E3 on p.key keys h0 r,List.getElem?_eq_none q]
     rfl
   .rw [if_neg (fun q=>hc ⟨q.1,q.2.1⟩),E3 on p.key keys h0 r]
    congr 1
    funext x
    rw [HE,if_neg (fun q=>hc ⟨q.1,q.2.2⟩)]
  .have e3:∀x,HE on key ((p,f)::r) x=HE on key r x:=fun x=>by rw [HE,if_neg (fun q=>hk q.2.1)]
   have e4:HE on key ((p,f)::r)=HE on key r:=funext e3
   rw [e4]
   split
   .rename_i hc
    rw [E3 on key keys h0 r]
    have B2:(ix p.key keys 0).toNat≠(ix key keys 0).toNat:=fun e=>by
     have h1:=PY hc.2.2.1
     have h2:=PY h0
     rw [e,h2] at h1
     cases h1
     exact hk rfl
    rw [List.getElem?_set_ne B2]
   .exact E3 on key keys h0 r is
theorem XF {v:Ak} (h6:v.k=6) (k:ByteArray):AF v k=if 0≤ix k v.keys 0 then v.items[(ix k v.keys 0).toNat]? else none:=by unfold AF;rw [if_pos h6]
theorem WL (n:Int) (s:ByteArray) (i:List Ak) (l:List ByteArray) (k:ByteArray):AF (.mk 6 n s i l) k=if 0≤ix k l 0 then i[(ix k l 0).toNat]? else none:=XF (v:=.mk 6 n s i l) rfl k
theorem KX (fs:List CF) {v:Ak} (h6:v.k=6) (key:ByteArray):AF (Nv fs v) key=(AF v key).map (HE (typF v) key fs):=by
 unfold Nv
 rw [WL,XF h6]
 by_cases h0:0≤ix key v.keys 0
 .rw [if_pos h0,if_pos h0]
  exact E3 _ _ _ h0 _ _
 .rw [if_neg h0,if_neg h0]
  rfl
inductive Gp:List Pk→Prop
 | mk (l:List Pk):(∀p∈l,-1≤p.initial)→(∀p∈l,Gp p.picks)→Gp l
theorem Gp.i {l:List Pk}:Gp l→∀p∈l,-1≤p.initial | .mk _ h _=>h
theorem Gp.x {l:List Pk}:Gp l→∀p∈l,Gp p.picks | .mk _ _ h=>h
inductive KH:List Pk→Prop
 | mk (l:List Pk):(∀(i j:Nat) p q,i<j→l[i]?=some p→l[j]?=some q→¬(p.on=q.on∧p.key=q.key))→(∀p∈l,-1≤p.initial∧p.key≠sT∧(0≤p.initial→CK p.tw=true))→(∀p∈l,KH p.picks)→KH l
theorem KH.d {l:List Pk}:KH l→∀(i j:Nat) p q,i<j→l[i]?=some p→l[j]?=some q→¬(p.on=q.on∧p.key=q.key) | .mk _ h _ _=>h
theorem KH.p {l:List Pk}:KH l→∀p∈l,-1≤p.initial∧p.key≠sT∧(0≤p.initial→CK p.tw=true) | .mk _ _ h _=>h
theorem KH.x {l:List Pk}:KH l→∀p∈l,KH p.picks | .mk _ _ _ h=>h
theorem Yt (p:Pk):KH p.picks→Gp p.picks :=
 Pk.ind (Q:=fun p=>KH p.picks→Gp p.picks) (fun p ih h=>.mk _ (fun q hq=>(h.p q hq).1) fun q hq=>ih q hq (h.x q hq)) p
theorem KH.ini {l:List Pk} (h:KH l):Gp l:=.mk _ (fun q hq=>(h.p q hq).1) fun q hq=>Yt q (h.x q hq)
theorem KH.one {l:List Pk} (h:KH l) {p q:Pk} (hp:p∈l) (hq:q∈l) (h1:p.on=q.on) (h2:p.key=q.key):p=q:=by
 obtain ⟨i,hi⟩:=List.getElem?_of_mem hp
 obtain ⟨j,hj⟩:=List.getElem?_of_mem hq
 rcases Nat.lt_trichotomy i j with c | c | c
 .exact absurd ⟨h1,h2⟩ (h.d i j p q c hi hj)
 .subst c;rw [hi] at hj;exact Option.some.inj hj
 .exact absurd ⟨h1.symm,h2.symm⟩ (h.d j i q p c hj hi)
theorem Wy {x:Pk} {l:List Pk} (h1:∀q∈l,¬(x.on=q.on∧x.key=q.key)) (h2:∀(i j:Nat) p q,i<j→l[i]?=some p→l[j]?=some q→¬(p.on=q.on∧p.key=q.key)) :
  ∀(i j:Nat) p q,i<j→(x::l)[i]?=some p→(x::l)[j]?=some q→¬(p.on=q.on∧p.key=q.key):=by
 intro i j p q hij hp hq
 match j,hij,hq with
 | j+1,hij,hq =>
  rw [List.getElem?_cons_succ] at hq
  match i,hij,hp with
  | 0,_,hp =>
   rw [List.getElem?_cons_zero] at hp
   cases hp
   exact h1 q (zla hq)
  | i+1,hij,hp =>
   rw [List.getElem?_cons_succ] at hp
   exact h2 i j p q (by omega) hp hq
theorem Ace {l:List Pk} {v:Ak} (h:v.k=5):CM l v=.mk 5 0 ⟨#[]⟩ (v.items.map (CM l)) []:=by
 unfold CM
 rw [FW,if_pos h]
theorem Abx {l:List Pk} {v:Ak} (h:v.k=6):CM l v=Nv (DW l) v:=by
 unfold CM
 rw [FW,if_neg (by rw [h];decide),if_pos h]
theorem OO (q:Pk):(In q).on=q.on∧(In q).key=q.key∧(In q).tn=q.tn∧(In q).tw=q.tw∧(In q).picks=BX q.picks:=by
 rw [LG]
 exact ⟨rfl,rfl,rfl,rfl,rfl⟩
noncomputable def UT (doc:List Az) (on:ByteArray) (q:Pk) (ini:Int) (c:Ak):Ge:=Be doc (LM [sT,q.key] [Hp on,c]) on [] [JS q ini] []
open Go.Eng Go.KL
set_option maxRecDepth 100000
def ck909:CC:=cK (a:=cF [2] [] [] f9) (by delta f9;simp (config := { maxSteps := 9999999 }) only [go_sem];rfl)
theorem cc909:Bf f9 47=some ck909.erase:=by kernel_rfl
theorem cr909:Bh f9 47=some [(.c 8 5 true),(.t 9),(.t 10)]:=by kernel_rfl
def ck929:CC:=cK (a:=cF [4,21] [] [] f29) (by delta f29;simp (config := { maxSteps := 9999999 }) only [go_sem];rfl)
theorem cc929:Bf f29 131=some ck929.erase:=by kernel_rfl
theorem cr929:Bh f29 131=some []:=by kernel_rfl
def ck956:CC:=cK (a:=cF [17] [107,119] [(118,[5,4])] f56) (by delta f56;simp (config := { maxSteps := 9999999 }) only [go_sem];rfl)
theorem cc956:Bf f56 166=some ck956.erase:=by kernel_rfl
theorem cr956:Bh f56 166=some []:=by kernel_rfl
set_option maxRecDepth 20000
inductive Pl:List Pk→Prop
 | mk (l:List Pk):(∀p∈l,p.label=⟨#[]⟩∧p.initial=-1)→(∀p∈l,Pl p.picks)→Pl l
theorem Pl.p {l:List Pk}:Pl l→∀p∈l,p.label=⟨#[]⟩∧p.initial=-1 | .mk _ h _=>h
theorem Pl.x {l:List Pk}:Pl l→∀p∈l,Pl p.picks | .mk _ _ h=>h
theorem OD:∀l:List Pk,(∀p∈l,Pl (BF p.picks))→Pl (BF l)
 | [],h=>by rw [BF];exact .mk _ (fun p hp=>by cases hp) fun p hp=>by cases hp
 | q::r,h=>by
  have ih:=OD r fun p hp=>h p (by simp [hp])
  rw [BF]
  refine .mk _ (fun p hp=>?_) fun p hp=>?_
  .rcases zlw.1 hp with rfl | hp
   .rw [H1];exact ⟨rfl,rfl⟩
   .exact ih.p p hp
  .rcases zlw.1 hp with rfl | hp
   .rw [H1];exact h q (by simp)
   .exact ih.x p hp
theorem Acv (l:List Pk):Pl (BF l):=OD l fun p _=>Pk.ind (Q:=fun p=>Pl (BF p.picks)) (fun p ih=>OD p.picks ih) p
theorem Rb (p:Pk):Qt p p.label p.picks=p:=by cases p;rfl
theorem L3:∀l:List Pk,(∀p∈l,p.label=⟨#[]⟩)→(∀p∈l,BX p.picks=p.picks)→BX l=l
 | [],_,_=>by rw [BX]
 | p::r,h1,h2=>by
  rw [HC,if_pos (h1 p (by simp)),LG,h2 p (by simp),Rb,L3 r (fun q hq=>h1 q (by simp [hq])) fun q hq=>h2 q (by simp [hq])]
theorem UQ {l:List Pk} (h:Pl l):BX l=l :=
 L3 l (fun p hp=>(h.p p hp).1) fun p hp=>(Pk.ind (Q:=fun p=>Pl p.picks→BX p.picks=p.picks) (fun p ih h=>L3 p.picks (fun q hq=>(h.p q hq).1) fun q hq=>ih q hq (h.x q hq)) p) (h.x p hp)
inductive Sm:Ak→Ak→Prop
 | refl (v:Ak):Sm v v
 | list (v w:Ak):v.k=5→w.k=5→v.items.length=w.items.length→(∀(i:Nat) a b,v.items[i]?=some a→w.items[i]?=some b→Sm a b)→Sm v w
 | obj (v w:Ak):v.k=6→w.k=6→(∀k,(AF v k).isSome=(AF w k).isSome)→(∀k a b,AF v k=some a→AF w k=some b→Sm a b)→Sm v w
theorem Sm.k {v w:Ak} (h:Sm v w):v.k=w.k:=by cases h with
 | refl=>rfl
 | list _ _ h1 h2=>rw [h1,h2]
 | obj _ _ h1 h2=>rw [h1,h2]
theorem Sm.other {v w:Ak} (h:Sm v w) (h5:v.k≠5) (h6:v.k≠6):v=w:=by cases h with
 | refl=>rfl
 | list _ _ h1=>exact absurd h1 h5
 | obj _ _ h1=>exact absurd h1 h6
theorem Sm.len {v w:Ak} (h:Sm v w) (h5:v.k=5):v.items.length=w.items.length:=by cases h with
 | refl=>rfl
 | list _ _ _ _ h=>exact h
 | obj _ _ h1=>rw [h5] at h1;exact absurd h1 (by decide)
theorem Sm.at5 {v w:Ak} (h:Sm v w) (h5:v.k=5) (i:Nat) {a b:Ak} (ha:v.items[i]?=some a) (hb:w.items[i]?=some b):Sm a b:=by cases h with
 | refl=>rw [ha] at hb;cases hb;exact .refl _
 | list _ _ _ _ _ h=>exact h i a b ha hb
 | obj _ _ h1=>rw [h5] at h1;exact absurd h1 (by decide)
theorem Sm.some6 {v w:Ak} (h:Sm v w) (k:ByteArray):(AF v k).isSome=(AF w k).isSome:=by cases h with
 | refl=>rfl
 | list _ _ h1 h2=>rw [Ca (by rw [h1];decide),Ca (by rw [h2];decide)]
 | obj _ _ _ _ h=>exact h k
theorem Sm.at6 {v w:Ak} (h:Sm v w) (k:ByteArray) {a b:Ak} (ha:AF v k=some a) (hb:AF w k=some b):Sm a b:=by cases h with
 | refl=>rw [ha] at hb;cases hb;exact .refl _
 | list _ _ h1 h2=>rw [Ca (by rw [h1];decide)] at ha;cases ha
 | obj _ _ _ _ _ h=>exact h k a b ha hb
theorem Sm.typO {v w:Ak} (h:Sm v w):typO v=typO w:=by
 have h1:=h.some6 sT
 unfold Go.Proofs.YtgfidgoefioigaaGreatDoor.typO
 cases ha:AF v sT with
 | none =>
  rw [ha] at h1
  cases hb:AF w sT with
  | none=>rfl
  | some b=>rw [hb] at h1;cases h1
 | some a =>
  rw [ha] at h1
  cases hb:AF w sT with
  | none=>rw [hb] at h1;cases h1
  | some b =>
   have:=h.at6 sT ha hb
   dsimp only
   rw [←this.k]
   by_cases c:a.k=3
   .rw [if_pos c,if_pos c,this.other (by omega) (by omega)]
   .rw [if_neg c,if_neg c]
theorem Sm.cpl (doc:List Az) {v w:Ak} (h:Sm v w):Be doc v=Be doc w:=by
 induction h with
 | refl=>rfl
 | list v w h1 h2 hl hi ih =>
  have hm:v.items.map (Be doc)=w.items.map (Be doc):=by
   apply List.ext_getElem?
   intro i
   rw [zlp,zlp]
   rcases znb i v.items.length with q | q
   .have e1:v.items[i]?=some v.items[i]:=zlg q
    have e2:w.items[i]?=some w.items[i]:=zlg (by omega)
    rw [e1,e2,Option.map_some,Option.map_some,ih i _ _ e1 e2]
   .rw [List.getElem?_eq_none q,List.getElem?_eq_none (by omega)]
  funext tn tw picks path
  rw [CY,CY,hm]
  unfold Ms
  rw [D3 doc tn (.inl h1),D3 doc tn (.inl h2)]
  have t1:Go.Proofs.YtgfidgoefioigaaGreatDoor.typO v=none:=by unfold Go.Proofs.YtgfidgoefioigaaGreatDoor.typO;rw [Ca (by rw [h1];decide)]
  have t2:Go.Proofs.YtgfidgoefioigaaGreatDoor.typO w=none:=by unfold Go.Proofs.YtgfidgoefioigaaGreatDoor.typO;rw [Ca (by rw [h2];decide)]
  rw [t1,t2,h1,h2]
  simp only [show ¬(5:Int)=9 by decide,if_false]
 | obj v w h1 h2 hl hi ih =>
  have hS:Sm v w:=.obj v w h1 h2 hl hi
  have hg:∀k,Be doc ((AF v k).getD AB)=Be doc ((AF w k).getD AB):=fun k=>by
   have h1:=hl k
   cases ha:AF v k with
   | none =>
    rw [ha] at h1
    cases hb:AF w k with
    | none=>rfl
    | some b=>rw [hb] at h1;cases h1
   | some a =>
    rw [ha] at h1
    cases hb:AF w k with
    | none=>rw [hb] at h1;cases h1
    | some b=>exact ih k a b ha hb
  have ho:∀on path picks,GT v.keys (v.items.map (Be doc)) on path picks=GT w.keys (w.items.map (Be doc)) on path picks:=fun on path picks=>by
   unfold GT
   apply List.map_congr_left
   intro p _
   rw [FM doc v h1,FM doc w h2,hg]
  funext tn tw picks path
  rw [CY,CY]
  unfold Ms
  rw [D3 doc tn (.inr h1),D3 doc tn (.inr h2),hS.typO,h1,h2]
  simp only [show ¬(6:Int)=9 by decide,show ¬(6:Int)=0 by decide,show ¬(6:Int)=5 by decide,if_false]
  split
  .rfl
  split
  .rfl
  split
  .rfl
  .split
   .unfold JZ;rw [ho]
   .rfl
def YZ (fs:List CF):Prop:=∀c∈fs,c.1.initial=-1∧∀x y,Sm x y→Sm (c.2 x) y
theorem Aei {p:Pk} (h:p.initial=-1) (x:Ak):D1 p x=x:=by
 unfold D1 V5
 rw [h,if_pos rfl,List.take_length]
 split
 .cases x;rfl
 .rfl
theorem Zn (on key:ByteArray):∀(fs:List CF),YZ fs→∀{x y:Ak},Sm x y→Sm (HE on key fs x) y
 | [],_,_,_,h=>h
 | (p,f)::r,hc,x,y,h=>by
  have hr:YZ r:=fun c Oo=>hc c (by simp [Oo])
  obtain ⟨h1,h2⟩:=hc (p,f) (by simp)
  rw [HE,Aei h1]
  split
  .exact Zn on key r hr (h2 x y h)
  .exact Zn on key r hr h
theorem Acj {fs:List CF} (hc:YZ fs) (x:Ak):∀y,Sm x y→Sm (Gz fs x) y:=by
 refine Ak.ind (Q:=fun x=>∀y,Sm x y→Sm (Gz fs x) y) (fun x ih y hs=>?_) x
 rw [FW]
 by_cases h5:x.k=5
 .have hl:=hs.len h5
  rw [if_pos h5]
  refine .list _ _ rfl (by rw [←hs.k];exact h5) (by simp only [Ak.items_mk,List.length_map];exact hl) fun i a b ha hb=>?_
  simp only [Ak.items_mk,zlp] at ha
  cases ea:x.items[i]? with
  | none=>rw [ea] at ha;cases ha
  | some a1 =>
   rw [ea] at ha
   cases ha
   exact ih _ (zla ea) _ (hs.at5 h5 i ea hb)
 .rw [if_neg h5]
  by_cases h6:x.k=6
  .rw [if_pos h6]
   refine .obj _ _ rfl (by rw [←hs.k];exact h6) (fun k=>?_) fun k a b ha hb=>?_
   .rw [KX fs h6,Option.isSome_map,hs.some6 k]
   .rw [KX fs h6] at ha
    cases ea:AF x k with
    | none=>rw [ea] at ha;cases ha
    | some a1 =>
     rw [ea] at ha
     cases ha
     exact Zn _ _ fs hc (hs.at6 k ea hb)
  .rw [if_neg h6]
   exact hs
theorem PJ (l:List Pk) (h:∀p∈l,p.initial=-1) (H:∀p∈l,YZ (DW p.picks)):YZ (DW l):=by
 intro c hc
 rw [E5] at hc
 obtain ⟨p,hp,rfl⟩:=List.mem_map.1 hc
 refine ⟨h p hp,fun x y hs=>?_⟩
 show Sm (NS p x) y
 rw [It]
 exact Acj (H p hp) x y hs
theorem YS {l:List Pk} (h:Pl l):YZ (DW l) :=
 PJ l (fun p hp=>(h.p p hp).2) fun p hp=>(Pk.ind (Q:=fun p=>Pl p.picks→YZ (DW p.picks)) (fun p ih h=>PJ p.picks (fun q hq=>(h.p q hq).2) fun q hq=>ih q hq (h.x q hq)) p) (h.x p hp)
theorem ZI (doc:List Az) {l:List Pk} (h:Pl l) (v:Ak):Be doc (CM l v)=Be doc v:=(Acj (YS h) v v (.refl v)).cpl doc
theorem own:ownKnob prog.godebug=none:=by kernel_rfl
theorem Ajg:Kids prog (· < prog.types.size):=kids_rows (by kernel_rfl) (by kernel_rfl)
theorem Adn {t e:TypeId} (ht:t<prog.types.size) (hd:prog.underlying t=some (.slice e)):0<prog.cellsOf e:=Yf (by kernel_rfl) ht hd
theorem Kw {α:Type} {c:α→List AV} {wt:α→Nat}:∀{l:List α},(∀x∈l,wt x≤BG (c x))→(l.map wt).sum≤CG (Ad c l)
 | [],_=>by simp
 | x::l,h=>by
  have h1:=Kw (c:=c) (wt:=wt) (l:=l) fun y hy=>h y (by simp [hy])
  have h2:=h x (by simp)
  rw [BT,CG,List.map_cons,List.sum_cons]
  omega
theorem Bk {α:Type} {c:α→List AV} (h:∀x,1≤BG (c x)):∀l:List α,l.length≤CG (Ad c l)
 | []=>by simp
 | x::l=>by
  have h1:=Bk h l
  have h2:=h x
  rw [BT,CG,List.length_cons]
  omega
theorem BZ {x:List AV}:∀{l:List (List AV)},x∈l→BG x≤CG l
 | y::l,h=>by
  rw [CG]
  rcases zlw.1 h with rfl | h
  .omega
  .have:=BZ h
   omega
theorem Y4 (s:ByteArray):1≤BG (C9 s):=by simp [C9,BG,Ez]
theorem TA (l:List Ak):Df l=(l.map Bu).sum:=by
 induction l with
 | nil=>rfl
 | cons x l ih=>rw [Df,ih,List.map_cons,List.sum_cons]
theorem Qy (v:Ak):Bu v+3≤BG (A2 v):=by
 refine Ak.ind (Q:=fun v=>Bu v+3≤BG (A2 v)) (fun v ih=>?_) v
 rw [Bz,Bn,TA]
 have h1:=Kw (c:=A2) (wt:=Bu) (l:=v.items) fun x hx=>by have:=ih x hx;omega
 have h2:v.keys.length≤CG (Bv v.keys):=Bk Y4 v.keys
 simp only [BG,Ez]
 omega
theorem Xo {L:List AV} (h:EH prog 31 L):∃v:Ak,L=A2 v:=by
 suffices key:∀(n:Nat) (L:List AV),BG L≤n→EH prog 31 L→∃v:Ak,L=A2 v from key _ L (Nat.le_refl _) h
 intro n
 induction n with
 | zero =>
  intro L hn h
  obtain ⟨parts,rfl,hl,hp⟩:=AU underlying31 h
  obtain ⟨a,b,c,d,e,rfl⟩:=PV (show parts.length=5 from hl)
  obtain ⟨a,rfl,_⟩:=Cy underlying3 (hp 0 _ a rfl rfl)
  simp [BG,Ez] at hn
 | succ n ih =>
  intro L hn h
  obtain ⟨parts,rfl,hl,hp⟩:=AU underlying31 h
  obtain ⟨a,b,c,d,e,rfl⟩:=PV (show parts.length=5 from hl)
  obtain ⟨a,rfl,_⟩:=Cy underlying3 (hp 0 _ a rfl rfl)
  obtain ⟨b,rfl,_⟩:=Cy underlying3 (hp 1 _ b rfl rfl)
  obtain ⟨c,rfl,_⟩:=AO underlying9 (hp 2 _ c rfl rfl)
  obtain ⟨l,rfl,_,hx⟩:=AH underlying28 (hp 3 _ d rfl rfl)
  obtain ⟨k,rfl,_,hy⟩:=AH underlying29 (hp 4 _ e rfl rfl)
  obtain ⟨vs,rfl,_⟩:=Eq (c:=A2) fun x h=>ih x (by
   have:=BZ h
   simp [BG,Ez] at hn
   omega) (hx x h)
  obtain ⟨ks,rfl,_⟩:=Eq (c:=C9) fun x h=>by
   obtain ⟨s,rfl,_⟩:=AO underlying9 (hy x h)
   exact ⟨s,rfl⟩
  exact ⟨.mk a b c vs ks,by rw [Bz];rfl⟩
theorem Ac1 (v:Ak):Bu v+3≤Ez (vx v):=by
 have:=Qy v
 rw [Bz] at this
 exact this
theorem C5 {β:Type} {c:β→List AV} {Q:β→Prop}:∀{l:List (List AV)},(∀x∈l,∃y,x=c y∧Q y)→∃m:List β,l=Ad c m∧∀y∈m,Q y
 | [],_=>⟨[],rfl,by simp⟩
 | x::l,h=>by
  obtain ⟨y,rfl,hy⟩:=h x (by simp)
  obtain ⟨m,e,hl⟩:=C5 (c:=c) (Q:=Q) (l:=l) fun z hz=>h z (by simp [hz])
  refine ⟨y::m,by rw [BT,←e],fun z hz=>?_⟩
  rcases zlw.1 hz with rfl | hz
  .exact hy
  .exact hl z hz
theorem Ab8 {n:Int} (h:(Lit.int .i64 n).wf=true):-9223372036854775808≤n∧n≤9223372036854775807:=by
 simp only [Lit.wf,Bool.and_eq_true,decide_eq_true_eq] at h
 exact h
theorem Wo (v:Ak):EH prog 31 (A2 v)→v.Rng:=by
 refine Ak.ind (Q:=fun v=>EH prog 31 (A2 v)→v.Rng) (fun v ih h=>?_) v
 rw [Bz] at h
 obtain ⟨parts,e0,hl,hp⟩:=AU underlying31 h
 obtain ⟨a,b,c,d,e,rfl⟩:=PV (show parts.length=5 from hl)
 obtain ⟨a,rfl,_⟩:=Cy underlying3 (hp 0 _ a rfl rfl)
 obtain ⟨b,rfl,hb⟩:=Cy underlying3 (hp 1 _ b rfl rfl)
 obtain ⟨c,rfl,_⟩:=AO underlying9 (hp 2 _ c rfl rfl)
 obtain ⟨l,rfl,_,hx⟩:=AH underlying28 (hp 3 _ d rfl rfl)
 obtain ⟨k,rfl,_,hy⟩:=AH underlying29 (hp 4 _ e rfl rfl)
 simp only [zlt,List.flatten_nil,List.cons_append,List.nil_append,List.cons.injEq,AV.i.injEq,AV.ds.injEq,true_and,and_true] at e0
 obtain ⟨_,e1,_,e2,_⟩:=e0
 have:=Ab8 hb
 refine .mk v (by omega) (by omega) fun x hx'=>ih x hx' (hx _ ?_)
 rw [←e2]
 exact List.mem_map_of_mem (f:=A2) hx'
structure VS (v:Ak):Prop where
 f:v.Fit
 r:v.Rng
 w:Bu v≤1048576
theorem GZ {L:List AV} (h:EH prog 31 L) (hb:BG L≤1048576):∃v:Ak,L=A2 v∧VS v:=by
 obtain ⟨v,rfl⟩:=Xo h
 have:=Qy v
 exact ⟨v,rfl,⟨CX v (by omega),Wo v h,by omega⟩⟩
theorem Cx:∀a b:List AV,BG (a++b)=BG a+BG b
 | [],b=>by simp [BG]
 | x::a,b=>by rw [List.cons_append,BG,BG,Cx a b];omega
theorem U5 {L:List AV} (h:EH prog 156 L) (hb:BG L≤1048576):∃x:FZ,L=BC x∧x.v.Fit:=by
 obtain ⟨parts,rfl,hl,hp⟩:=AU underlying156 h
 obtain ⟨a,b,rfl⟩:=GW (show parts.length=2 from hl)
 obtain ⟨a,rfl,_⟩:=AO underlying9 (hp 0 _ a rfl rfl)
 simp only [zlt,List.flatten_nil,Cx,BG,Ez] at hb
 obtain ⟨v,rfl,hv⟩:=GZ (hp 1 _ b rfl rfl) (by omega)
 refine ⟨.mk a v,?_,hv.f⟩
 rw [Bz]
 rfl
theorem NC (a:FZ):1≤BG (BC a):=by simp [BC,BG,Ez];omega
theorem Qm (p:Pk):1≤BG (Bo p):=by rw [Cg];simp [BG,Ez];omega
theorem Lp (n:Int):1≤BG (Dx n):=by simp [Dx,BG,Ez]
theorem Aeq (p:Pk):PO p≤BG (Bo p):=by
 refine Pk.ind (Q:=fun p=>PO p≤BG (Bo p)) (fun p ih=>?_) p
 have key:∀l:List Pk,(∀x∈l,PO x≤BG (Bo x))→A8 l≤CG (Ad Bo l):=by
  intro l
  induction l with
  | nil=>intro _;simp [A8]
  | cons x l ihl =>
   intro h
   have h1:=h x (by simp)
   have h2:=ihl fun y hy=>h y (by simp [hy])
   rw [A8,BT]
   show _≤BG (Bo x)+CG (Ad Bo l)
   omega
 have:=key p.picks ih
 rw [CD,Cg]
 simp only [BG,Ez]
 omega
theorem Aae (l:List Pk):A8 l≤CG (Ad Bo l):=by
 induction l with
 | nil=>simp [A8]
 | cons x l ih =>
  have:=Aeq x
  rw [A8,BT]
  show _≤BG (Bo x)+CG (Ad Bo l)
  omega
theorem UO {l:List (List AV)} (h:∀x∈l,EH prog 9 x):∃m,l=Bv m:=by
 obtain ⟨ks,rfl,_⟩:=Eq (c:=C9) (l:=l) fun x hx=>by
  obtain ⟨s,rfl,_⟩:=AO underlying9 (h x hx)
  exact ⟨s,rfl⟩
 exact ⟨ks,rfl⟩
theorem Ny (a:F0):1≤BG (EM a):=by simp [EM,BG,Ez];omega
theorem Uv (a:B6):1≤BG (A7 a):=by simp [A7,BG,Ez];omega
theorem N3 {L:List AV} (h:EH prog 154 L) (hb:BG L≤1048576):∃x:F0,L=EM x∧KN x:=by
 obtain ⟨parts,rfl,hl,hp⟩:=AU underlying154 h
 obtain ⟨a,b,rfl⟩:=GW (show parts.length=2 from hl)
 obtain ⟨a,rfl,_⟩:=AO underlying9 (hp 0 _ a rfl rfl)
 obtain ⟨l,rfl,_,hx⟩:=AH underlying61 (hp 1 _ b rfl rfl)
 simp only [zlt,List.flatten_nil,Cx,BG,Ez] at hb
 obtain ⟨al,rfl,ha⟩:=C5 (c:=BC) (Q:=fun a=>a.v.Fit) fun x h=>U5 (hx x h) (by have:=BZ h;omega)
 have h2:=Bk NC al
 exact ⟨.mk a al,rfl,by simp only [F0.args_mk];omega,ha⟩
theorem Hs {l:List (List AV)} (h:∀x∈l,EH prog 154 x) (hb:CG l≤1048576):Ed l:=by
 obtain ⟨ds,rfl,hd⟩:=C5 (c:=EM) (Q:=KN) fun x hx=>N3 (h x hx) (by have:=BZ hx;omega)
 have h2:=Bk Ny ds
 exact ⟨ds,rfl,by omega,hd⟩
theorem Uj {L:List AV} (h:EH prog 161 L) (hb:BG L≤1048576):∃x:B6,L=A7 x∧Gt x:=by
 obtain ⟨parts,rfl,hl,hp⟩:=AU underlying161 h
 obtain ⟨a,b,c,d,e,rfl⟩:=PV (show parts.length=5 from hl)
 obtain ⟨a,rfl,_⟩:=AO underlying9 (hp 0 _ a rfl rfl)
 obtain ⟨ts,rfl,Fm,D6⟩:=AU underlying64 (hp 1 _ b rfl rfl)
 obtain ⟨t,u,rfl⟩:=GW (show ts.length=2 from Fm)
 obtain ⟨t,rfl,_⟩:=AO underlying9 (D6 0 _ t rfl rfl)
 obtain ⟨w,rfl,_,hy⟩:=AH underlying62 (D6 1 _ u rfl rfl)
 obtain ⟨ws,rfl,_⟩:=Eq (c:=Dx) fun x h=>by
  obtain ⟨n,rfl,_⟩:=Cy underlying3 (hy x h)
  exact ⟨n,rfl⟩
 obtain ⟨c,rfl⟩:=TN underlying4 (hp 2 _ c rfl rfl)
 obtain ⟨l,rfl,_,hx⟩:=AH underlying85 (hp 4 _ e rfl rfl)
 simp only [zlt,List.flatten_nil,Cx,BG,Ez] at hb
 obtain ⟨v,rfl,hv⟩:=GZ (hp 3 _ d rfl rfl) (by omega)
 obtain ⟨ds,rfl,hd⟩:=C5 (c:=EM) (Q:=KN) fun x h=>N3 (hx x h) (by have:=BZ h;omega)
 have h2:=Bk Ny ds
 have h3:=Bk Lp ws
 refine ⟨.mk a t ws c v ds,?_,by simp only [B6.tw_mk];omega,⟨hv.f,hv.r⟩,by simp only [B6.dirs_mk];omega,hd⟩
 rw [Bz]
 rfl
theorem KE {l:List (List AV)} (h:∀x∈l,EH prog 161 x) (hb:CG l≤1048576):D9 l:=by
 obtain ⟨ds,rfl,hd⟩:=C5 (c:=A7) (Q:=Gt) fun x hx=>Uj (h x hx) (by have:=BZ hx;omega)
 have h2:=Bk Uv ds
 exact ⟨ds,rfl,by omega,hd⟩
theorem Ti (x:Cd):1≤BG (Bq x):=by simp only [Bq,BG,Ez];omega
theorem Vo {β:Type} {c:β→List AV} (hc:∀x,1≤BG (c x)) {l:List (List AV)} (h:∀x∈l,∃y,x=c y):l.length≤CG l:=by
 obtain ⟨m,rfl,_⟩:=Eq (c:=c) h
 have:=Bk hc m
 rw [Ax]
 exact this
theorem Vb {L:List AV} (h:EH prog 92 L) (hb:BG L≤1048576):∃x:Cd,L=Bq x∧(D9 x.args∧Ed x.dirs∧x.tw.length≤1000000000):=by
 obtain ⟨parts,rfl,hl,hp⟩:=AU underlying92 h
 obtain ⟨a,b,c,d,rfl⟩:=X8 (show parts.length=4 from hl)
 obtain ⟨a,rfl,_⟩:=AO underlying9 (hp 0 _ a rfl rfl)
 obtain ⟨l,rfl,_,hx⟩:=AH underlying88 (hp 1 _ b rfl rfl)
 obtain ⟨ts,rfl,Fm,D6⟩:=AU underlying64 (hp 2 _ c rfl rfl)
 obtain ⟨t,u,rfl⟩:=GW (show ts.length=2 from Fm)
 obtain ⟨t,rfl,_⟩:=AO underlying9 (D6 0 _ t rfl rfl)
 obtain ⟨w,rfl,_,hy⟩:=AH underlying62 (D6 1 _ u rfl rfl)
 obtain ⟨l2,rfl,_,hz⟩:=AH underlying85 (hp 3 _ d rfl rfl)
 simp only [zlt,List.flatten_nil,Cx,BG,Ez] at hb
 have h3:=Vo Lp (l:=w) fun x h=>by
  obtain ⟨n,rfl,_⟩:=Cy underlying3 (hy x h)
  exact ⟨n,rfl⟩
 have hA:=KE hx (by omega)
 have hB:=Hs hz (by omega)
 exact ⟨.mk a l t w l2,rfl,hA,hB,by simp only [Cd.tw_mk];omega⟩
theorem WE (s:ByteArray):1≤BG (C9 s):=by simp [C9,BG,Ez]
theorem Tz (p:ByteArray × List (List AV)):1≤BG (Je p):=by simp [Je,BG,Ez];omega
structure DfnQ (t:Az):Prop where
 ok:DefOk t
 im:t.impl.length≤1000000000000
 me:t.members.length≤1000000000000
 w:DfnW t
theorem Tn {L:List AV} (h:EH prog 90 L) (hb:BG L≤1048576):∃x:Az,L=BB x∧DfnQ x:=by
 obtain ⟨parts,rfl,hl,hp⟩:=AU underlying90 h
 match parts,hl,hp,hb with
 | [a,b,c,d,e,f,g],_,hp,hb =>
  obtain ⟨a,rfl,_⟩:=Cy underlying3 (hp 0 _ a rfl rfl)
  obtain ⟨b,rfl,_⟩:=AO underlying9 (hp 1 _ b rfl rfl)
  obtain ⟨c,rfl,_,hc⟩:=AH underlying29 (hp 2 _ c rfl rfl)
  obtain ⟨d,rfl,_,hdd⟩:=AH underlying85 (hp 3 _ d rfl rfl)
  obtain ⟨l,rfl,_,hx⟩:=AH underlying86 (hp 4 _ e rfl rfl)
  obtain ⟨f,rfl,_,hm⟩:=AH underlying87 (hp 5 _ f rfl rfl)
  obtain ⟨g,rfl,_,hi⟩:=AH underlying88 (hp 6 _ g rfl rfl)
  simp only [zlt,List.flatten_nil,Cx,BG,Ez] at hb
  obtain ⟨fs,rfl,Of⟩:=C5 (c:=Bq) (Q:=fun x=>D9 x.args∧Ed x.dirs∧x.tw.length≤1000000000) fun x h=>Vb (hx x h) (by have:=BZ h;omega)
  have h1:=Bk Ti fs
  obtain ⟨cs,rfl⟩:=UO hc
  have h2:cs.length≤CG (Bv cs):=Bk WE cs
  have Dd:∀e∈f,∃x y,e=[AV.s x,.ds y]∧Ed y:=fun e he=>by
   obtain ⟨ps,rfl,hl3,hp3⟩:=AU underlying159 (hm e he)
   obtain ⟨u,w,rfl⟩:=GW (show ps.length=2 from hl3)
   obtain ⟨u,rfl,_⟩:=AO underlying9 (hp3 0 _ u rfl rfl)
   obtain ⟨w,rfl,_,hw⟩:=AH underlying85 (hp3 1 _ w rfl rfl)
   have hbe:=BZ he
   simp only [zlt,List.flatten_nil,Cx,BG,Ez] at hbe
   exact ⟨u,w,rfl,Hs hw (by omega)⟩
  have h3:=Vo Tz (l:=f) fun e he=>by
   obtain ⟨x,y,rfl,_⟩:=Dd e he
   exact ⟨(x,y),rfl⟩
  have hA:=Hs hdd (by omega)
  have hB:=KE hi (by omega)
  refine ⟨.mk a b (Bv cs) d fs f g,rfl,⟨⟨?_,fun e he=>?_⟩,?_,?_,⟨hA,hB,?_,Of,Dd⟩⟩⟩
  .simp only [Az.impl_mk];rw [Aaf]
  .obtain ⟨x,y,e1,_⟩:=Dd e he
   exact ⟨x,y,e1⟩
  .show (Ad C9 cs).length≤_
   rw [Ax]
   omega
  .simp only [Az.members_mk];omega
  .simp only [Az.fields_mk];omega
theorem Wn (x:Az):1≤BG (BB x):=by simp only [BB,BG,Ez];omega
structure DocQ (doc:List Az):Prop where
 ok:DocOk doc
 w:∀t∈doc,DfnW t
structure CQ (doc:List Az) (l:List Pk) (v:Ak):Prop where
 d:DocQ doc
 p:BQ l
 vs:VS v
 n:Bu v+A8 l≤1048576
theorem CQ.cnt {doc:List Az} {l:List Pk} {v:Ak} (h:CQ doc l v):Bu v*(1+A8 l)≤1000000000000:=by
 have:=h.n
 have h1:=h.vs.w
 have h2:Bu v*(1+A8 l)≤1048576*(1+A8 l):=Nat.mul_le_mul_right _ h1
 rcases znb (A8 l) 900000 with c | c
 .have h3:1048576*(1+A8 l)≤1048576*900000:=Nat.mul_le_mul_left _ (by omega)
  omega
 .have h4:Bu v*(1+A8 l)≤200000*(1+A8 l):=Nat.mul_le_mul_right _ (by omega)
  have h5:200000*(1+A8 l)≤200000*1048577:=Nat.mul_le_mul_left _ (by omega)
  omega
theorem OA {α:AV} (h:AS prog 31 α) (hb:Ez α≤1048576):∃v,α=vx v∧VS v:=by
 obtain ⟨L,rfl,h2⟩:=Hy underlying31 h
 obtain ⟨v,rfl,hv⟩:=GZ h2 (by simpa [Ez] using hb)
 exact ⟨v,by rw [Bz],hv⟩
end Go.Proofs.YtgfidgoefioigaaGreatDoor
