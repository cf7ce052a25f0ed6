/- Proof. Conditions: none. -/
import Derived.Test.YtgfidgoefioigaaGreatDoorIj34
noncomputable section
open List renaming mem_map->zw,mem_filter->z1f
open Option renaming some->zm,map_some->z8,getD_some->zc
open List renaming mem_of_getElem?->zla,getElem?_eq_getElem->zlg,getElem?_map->zlp,length_map->zlv
open Nat renaming lt_or_ge->znb
namespace Go.Eng
set_option linter.all false
section
variable {P:Program} {f:FuncId}
theorem AO.outJ {hp:CH} {n:Nat} {args:List AV} {ι:Type} (m8:ι->B3) (φ:ι->Prop) (Sx:ι->CH) (rI:ι->AV) (h1:∀i,φ i->∀k,k<n->gc (Sx i) k=gc hp k∨(gc (Sx i) k).lt1 n) (Ce:∀i,φ i->∀k,n<=k->gc (Sx i) k=.no)
 (m0:AO P f hp n args (UI φ fun i=>Me (Sx i) n (m8 i) (rI i))):AO P f hp n args (UI φ fun i Al n' r'=>Al=Ch n (m8 i)++Sx i∧n'=n+(m8 i).length∧r'=rI i):=by
 refine ⟨m0.1,fun h J w vs hs ha=>(m0.2 h J w vs hs ha).mono fun e w' ⟨v,he,h',ρ',Al,n',r',⟨ix,hφ,e1,e2⟩,hh,hr,hm,Cr,hk,hl⟩=>?_⟩
 have h1:=h1 ix hφ
 have Ce:=Ce ix hφ
 obtain ⟨II,w7⟩:=A5 (Sx ix)
 obtain ⟨r,re⟩:=A5 (rI ix)
 obtain ⟨outs,oe⟩:=A5 (m8 ix)
 rw [w7] at h1 Ce
 have e1:Up n (Sx ix) (HX Al (Br (rI ix)) (Br r')):=e1
 have e2:fR (HX Al (Br (rI ix)) (Br r')) n (m8 ix) (rI ix) r':=e2
 rw [w7,re] at e1
 rw [re,oe] at e2
 have e2:=XE e2
 obtain ⟨h2,a1,a2,a3⟩:=KG (E:=Br r) (A:=Br r') hm
 generalize HX Al (Br r) (Br r')=hq at *
 obtain ⟨sel,M,rel⟩:=Ry a2 (Cr.mono a1 (Ck.refl _)) e2
 have hρ:Ck J (ρS ρ' n sel):=fun k g x hx=>by
  rcases znb k n with Bz | Bz
  .rw [ρS_lt Bz];exact hr _ _ _ hx
  .rw [hs.fr k g Bz] at hx;cases hx
 -- what may be written
 have EO:∀k g b c,(gc (Ch n outs++II) k).own g->ρS ρ' n sel k g=some (some b,c)->∃k2 g2,(gc hq k2).own g2∧ρ' k2 g2=some (some b,c)∧(k<n->k2=k)∧(n<=k->∃i,k=n+i∧sel[i]?=some (some (k2,g2))):=by
  intro k g b c hg hx
  rcases znb k n with Bz | Bz
  .rw [CD Bz] at hg
   rw [ρS_lt Bz] at hx
   exact ⟨k,g,by rw [e1 k Bz];exact hg,hx,fun _=>rfl,fun h=>by omega⟩
  .obtain ⟨i,rfl⟩:∃i,k=n+i:=⟨k - n,by omega⟩
   rcases znb i outs.length with hi | hi
   .have ho:outs[i]?=some outs[i]:=zlg hi
    have Md:i<sel.length:=by rw [M.len];exact hi
    have FJ:sel[i]?=some sel[i]:=zlg Md
    rw [Du (m:=outs[i].1) (l:=outs[i].2) ho] at hg
    cases hg
    cases GX:sel[i] with
    |none=>
     rw [GX] at FJ
     rw [ρS_none FJ] at hx
     cases hx
    |some p=>
     obtain ⟨k2,g2⟩:=p
     rw [GX] at FJ
     rw [ρS_new FJ] at hx
     obtain ⟨_,m2,l2,_,q⟩:=M.ge i k2 g2 FJ
     exact ⟨k2,g2,by rw [q];rfl,hx,fun h=>by omega,fun _=>⟨i,rfl,FJ⟩⟩
   .rw [DX (by omega),Ce _ (by omega)] at hg
    cases hg
 have AL:∀b,AI (ρS ρ' n sel) (Ch n outs++II) b->AI ρ' hq b:=fun b ⟨k,g,c,hg,hx⟩=>by
  obtain ⟨k2,g2,q1,q2,_⟩:=EO k g b c hg hx
  exact ⟨k2,g2,c,q1,q2⟩
 refine ⟨v,he,h2,ρS ρ' n sel,_,_,r,⟨ix,hφ,by rw [w7,oe],by rw [oe],re.symm⟩,hh.trans a1,hρ,⟨a2.hh,fun k=>?_,fun k k' g g' b c c' q1 q2 q3 q4=>?_,fun b hb=>a2.hid b (AL b hb),fun b hb=>a2.lt b (AL b hb),fun k g hk=>?_,fun k g g' x q1 q2=>?_,a2.gl⟩,rel,hk,fun b hb=>hl b (a3 b (AL b hb))⟩
 .rcases znb k n with Bz | Bz
  .rw [CD Bz]
   have s1:=a2.ch k
   rw [e1 k Bz] at s1
   rcases h1 k Bz with hu | hu
   .have s0:=hs.ch k
    rw [<-hu] at s0
    exact Ak.sat_mono (BQ.refl _) hρ (fun _ _ _ _ _=>rfl) (Ak.back hr s0 s1)
   .cases hc:gc II k with
    |no=>trivial
    |bx cs=>
     rw [hc] at s1 hu
     obtain ⟨b,c,p9,ty,b1,b2,b3,b4⟩:=s1
     exact ⟨b,c,p9,ty,(ρS_lt Bz 0).trans b1,b2,b3,fun j U u x y=>EZ (hu U (zla x)) (b4 j U u x y)⟩
    |rw g mm l=>
     rw [hc] at s1
     obtain ⟨ob,cap,b1,b2⟩:=s1
     exact ⟨ob,cap,(ρS_lt Bz g).trans b1,b2⟩
    |sh g mm l=>
     rw [hc] at s1
     obtain ⟨ob,cap,b1,b2⟩:=s1
     exact ⟨ob,cap,(ρS_lt Bz g).trans b1,b2⟩
    |rc g mm cap l=>
     rw [hc] at s1
     obtain ⟨ob,b1,b2⟩:=s1
     exact ⟨ob,(ρS_lt Bz g).trans b1,b2⟩
    |mp l=>
     rw [hc] at s1
     obtain ⟨b,c,es,cl,b1,b2⟩:=s1
     exact ⟨b,c,es,cl,(ρS_lt Bz 0).trans b1,b2⟩
    |mq F=>
     rw [hc] at s1
     obtain ⟨b,c,es,cl,b1,b2⟩:=s1
     exact ⟨b,c,es,cl,(ρS_lt Bz 0).trans b1,b2⟩
    |mr l sn=>
     rw [hc] at s1
     obtain ⟨b,c,es,cl,b1,q1,q2,q3,q4,b2,c2,x7,g2,q5⟩:=s1
     exact ⟨b,c,es,cl,(ρS_lt Bz 0).trans b1,q1,q2,q3,q4,b2,c2,x7,(ρS_lt Bz 1).trans g2,q5⟩
    |ro cs=>
     rw [hc] at s1
     obtain ⟨b,c,us,e,fr,b1,b2⟩:=s1
     exact ⟨b,c,us,e,fr,(ρS_lt Bz 0).trans b1,b2⟩
    |rn g mm l=>
     rw [hc] at s1 hu
     obtain ⟨ob,cap,b1,b2,b2',b3,b4,b5⟩:=s1
     refine ⟨ob,cap,(ρS_lt Bz g).trans b1,b2,b2',b3,b4,fun b hb=>?_⟩
     obtain ⟨p9,ty,c1,c2,c3⟩:=b5 b hb
     exact ⟨p9,ty,c1,c2,fun j x q U y1 y2=>let ⟨u,z1,z2⟩:=c3 j x q U y1 y2;⟨u,z1,EZ (hu x (zla y1) U (zla y2)) z2⟩⟩
    |sb T e g bs=>
     rw [hc] at s1
     obtain ⟨b,c,p,v,b1,b2,b3,b4,b5,⟨y,b6⟩,b7⟩:=s1
     exact ⟨b,c,p,v,(ρS_lt Bz 0).trans b1,b2,b3,b4,b5,⟨y,(ρS_lt Bz g).trans b6⟩,fun x hx=>⟨(b7 x hx).1,let ⟨c2,q⟩:=(b7 x hx).2;⟨c2,(ρS_lt Bz g).trans q⟩⟩⟩
  .obtain ⟨i,rfl⟩:∃i,k=n+i:=⟨k - n,by omega⟩
   rcases znb i outs.length with hi | hi
   .have ho:outs[i]?=some outs[i]:=zlg hi
    have Md:i<sel.length:=by rw [M.len];exact hi
    have FJ:sel[i]?=some sel[i]:=zlg Md
    rw [Du (m:=outs[i].1) (l:=outs[i].2) ho]
    cases GX:sel[i] with
    |none=>
     rw [GX] at FJ
     obtain ⟨m2,q⟩:=M.no i FJ
     rw [ho] at q
     have q:outs[i]=(m2,[]):=zm.inj q
     rw [q]
     exact ⟨none,0,ρS_none FJ,by simp,by simp [maxLen],fun j e h=>by simp at h,fun _=>rfl,fun b hb=>by cases hb⟩
    |some p=>
     obtain ⟨k2,g2⟩:=p
     rw [GX] at FJ
     obtain ⟨_,m2,l2,q1,q2⟩:=M.ge i k2 g2 FJ
     rw [ho] at q1
     have q1:outs[i]=(m2,l2):=zm.inj q1
     have s1:=a2.ch k2
     rw [q2] at s1
     rw [q1]
     obtain ⟨ob,cap,b1,b2⟩:=s1
     exact ⟨ob,cap,(ρS_new FJ).trans b1,b2⟩
   .rw [DX (by omega),Ce _ (by omega)]
    trivial
 .obtain ⟨k2,g2,x1,x2,x3,x4⟩:=EO k g b c q1 q3
  obtain ⟨k2',y9,y1,y2,y3,y4⟩:=EO k' g' b c' q2 q4
  have e3:=a2.inj k2 k2' g2 y9 b c c' x1 y1 x2 y2
  subst e3
  rcases znb k n with Bz | Bz<;>rcases znb k' n with EQ | EQ
  .rw [<-x3 Bz,<-y3 EQ]
  .obtain ⟨i,_,JZ⟩:=y4 EQ
   have:=(M.ge i k2 y9 JZ).1
   have:=x3 Bz
   omega
  .obtain ⟨i,_,JZ⟩:=x4 Bz
   have:=(M.ge i k2 g2 JZ).1
   have:=y3 EQ
   omega
  .obtain ⟨i,rfl,JZ⟩:=x4 Bz
   obtain ⟨j,rfl,hs3⟩:=y4 EQ
   rw [M.inj i j k2 g2 y9 JZ hs3]
 .have Bz:¬k<n:=by omega
  have:sel[k - n]?=none:=List.getElem?_eq_none (by rw [M.len];omega)
  simp [ρS,Bz,this]
 .rcases znb k n with Bz | Bz
  .rw [CD Bz] at q1
   rw [ρS_lt Bz] at q2
   exact a2.gens k g g' x (by rw [e1 k Bz];exact q1) q2
  .by_cases hg:g'=0
   .omega
   .have EQ:¬k<n:=by omega
    simp [ρS,EQ,hg] at q2
theorem ZK {fn : Func} {k : CC} {rs : List RS} {ι : Type} (m8 : ι -> B3) (φ : ι -> Prop) (ws : ι -> CH) (rI : ι -> AV) (hf : P.funcs[f]? = some fn) (FN : (fn.name == "runtime.NumGoroutine") = false)
 (hc:fn.body.bind (BX P fn.ntmps)=some k.erase) (Ic:OB P fn.ntmps fn.results.toList=some rs) {hp:CH} {n:Nat} {args:List AV} (Bn:Nat.ble args.length fn.ntmps=true)
 (hX:(∀k,n<=k->gc hp k=.no)->∀i,φ i->wsLt n (ws i)) (hv:(∀k,n<=k->gc hp k=.no)->vc P k ⟨CK 0 args,hp,n⟩ (Lt rs (UI φ fun i=>Me (ws i++hp) n (m8 i) (rI i)))) :
 AO P f hp n args (UI φ fun i Al n' r'=>Al=Ch n (m8 i)++(ws i++hp)∧n'=n+(m8 i).length∧r'=rI i):=by
 have Ka := (by obtain ⟨c, hb, Mt⟩ := bd hc; exact ⟨fn, hf, FN, by rw [hb]; rfl⟩ : ∃ fn, P.funcs[f]? = some fn ∧ (fn.name == "runtime.NumGoroutine") = false ∧ fn.body.isNone = false)
 refine ⟨Ka,fun h J w vs hs ha=>?_⟩
 have hw:=fun i hi=>IF (hX hs.free i hi)
 refine (AO.outJ m8 φ (fun i=>ws i++hp) rI (fun i hi k hk=>?_) (fun i hi k hk=>?_) (J5 hf FN hc Ic Bn (hv hs.free))).2 h J w vs hs ha
 .rcases Ev (ws:=ws i) (hp:=hp) k with ⟨_,e⟩ | ⟨c,hm,e⟩
  .exact .inl e
  .exact .inr (by rw [e];exact (hw i hi _ hm).2)
 .rcases Ev (ws:=ws i) (hp:=hp) k with ⟨_,e⟩ | ⟨c,hm,e⟩
  .rw [e];exact hs.free k hk
  .have:=(hw i hi _ hm).1
   omega
end
end Go.Eng
namespace Go.Proofs.YtgfidgoefioigaaGreatDoor
open Go.Eng
set_option linter.all false
set_option maxRecDepth 20000
section
variable {v w a b y raw:Ag} {l picks:List Pk} {fs gs:List CF} {on tn:qB} {q:Pk} {doc:List Aw} {tw:List Int} {path:List Ag}
inductive EA:Ag->Ag->Prop
 | refl (v:Ag):EA v v
 | list (v w:Ag):v.k=5->w.k=5->v.s=w.s->v.items.length=w.items.length->(∀(i:Nat) a b,v.items[i]?=some a->w.items[i]?=some b->EA a b)->EA v w
 | obj (v w:Ag):v.k=6->w.k=6->v.s=w.s->(∀k,(AA v k).isSome=(AA w k).isSome)->(∀k a b,AA v k=some a->AA w k=some b->EA a b)->EA v w
theorem EA.k (h:EA v w):v.k=w.k:=by cases h with
 |refl=>rfl
 |list _ _ h1 h2=>rw [h1,h2]
 |obj _ _ h1 h2=>rw [h1,h2]
theorem EA.s (h:EA v w):v.s=w.s:=by cases h with
 |refl=>rfl
 |list _ _ _ _ h=>exact h
 |obj _ _ _ _ h=>exact h
theorem EA.other (h:EA v w) (h5:v.k≠5) (h6:v.k≠6):v=w:=by cases h with
 |refl=>rfl
 |list _ _ h1=>exact absurd h1 h5
 |obj _ _ h1=>exact absurd h1 h6
theorem EA.len (h:EA v w) (h5:v.k=5):v.items.length=w.items.length:=by cases h with
 |refl=>rfl
 |list _ _ _ _ _ h=>exact h
 |obj _ _ h1=>rw [h5] at h1;exact absurd h1 (by decide)
theorem EA.at5 (h:EA v w) (h5:v.k=5) (i:Nat) (ha:v.items[i]?=some a) (hb:w.items[i]?=some b):EA a b:=by cases h with
 |refl=>rw [ha] at hb;cases hb;exact .refl _
 |list _ _ _ _ _ _ h=>exact h i a b ha hb
 |obj _ _ h1=>rw [h5] at h1;exact absurd h1 (by decide)
theorem EA.some6 (h:EA v w) (k:qB):(AA v k).isSome=(AA w k).isSome:=by cases h with
 |refl=>rfl
 |list _ _ h1 h2=>rw [DZ (by rw [h1];decide),DZ (by rw [h2];decide)]
 |obj _ _ _ _ _ h=>exact h k
theorem EA.at6 (h:EA v w) (k:qB) (ha:AA v k=some a) (hb:AA w k=some b):EA a b:=by cases h with
 |refl=>rw [ha] at hb;cases hb;exact .refl _
 |list _ _ h1 h2=>rw [DZ (by rw [h1];decide)] at ha;cases ha
 |obj _ _ _ _ _ _ h=>exact h k a b ha hb
theorem EA.getD (h:EA v w) (k:qB):EA ((AA v k).getD A6) ((AA w k).getD A6):=by
 have h1:=h.some6 k
 cases ha:AA v k with
 |none=>
  rw [ha] at h1
  cases hb:AA w k with
  |none=>exact .refl _
  |some b=>rw [hb] at h1;cases h1
 |some a=>
  rw [ha] at h1
  cases hb:AA w k with
  |none=>rw [hb] at h1;cases h1
  |some b=>exact h.at6 k ha hb
theorem EA.typF (h:EA v w):typF v=typF w:=(h.getD sT).s
theorem EA.typO (h:EA v w):typO v=typO w:=by
 have h1:=h.some6 sT
 unfold Go.Proofs.YtgfidgoefioigaaGreatDoor.typO
 cases ha:AA v sT with
 |none=>
  rw [ha] at h1
  cases hb:AA w sT with
  |none=>rfl
  |some b=>rw [hb] at h1;cases h1
 |some a=>
  rw [ha] at h1
  cases hb:AA w sT with
  |none=>rw [hb] at h1;cases h1
  |some b=>
   have:=h.at6 sT ha hb
   dsimp only
   rw [this.k,this.s]
theorem GB (doc:List Aw) (n:qB) (h:v.k=5∨v.k=6):EK doc n v=none:=by
 have e:v.k≠1∧v.k≠2∧v.k≠3∧v.k≠4:=by omega
 unfold EK Ju
 split
 .rw [iN (fun q=>e.2.1 q.2.1),iN (fun q=>e.2.2.1 q.2),iN (fun q=>e.2.1 q.2),iN (fun q=>e.1 q.2)]
 .rw [iN (fun q=>e.2.2.2 q.2.1)]
theorem EA.cpl (doc:List Aw) (h:EA v w):A7 doc v=A7 doc w:=by
 induction h with
 |refl=>rfl
 |list v w h1 h2 hs hl hi ih=>
  have hm:v.items.map (A7 doc)=w.items.map (A7 doc):=by
   apply List.ext_getElem?
   intro i
   rw [zlp,zlp]
   rcases znb i v.items.length with q | q
   .have e1:v.items[i]?=some v.items[i]:=zlg q
    have e2:w.items[i]?=some w.items[i]:=zlg (by omega)
    rw [e1,e2,z8,z8,ih i _ _ e1 e2]
   .rw [List.getElem?_eq_none q,List.getElem?_eq_none (by omega)]
  funext tn tw picks path
  rw [CV,CV,hm]
  unfold JW
  rw [GB doc tn (.inl h1),GB doc tn (.inl h2)]
  have t1:Go.Proofs.YtgfidgoefioigaaGreatDoor.typO v=none:=by unfold Go.Proofs.YtgfidgoefioigaaGreatDoor.typO;rw [DZ (by rw [h1];decide)]
  have t2:Go.Proofs.YtgfidgoefioigaaGreatDoor.typO w=none:=by unfold Go.Proofs.YtgfidgoefioigaaGreatDoor.typO;rw [DZ (by rw [h2];decide)]
  rw [t1,t2,h1,h2]
  simp only [show ¬(5:Int)=9 by decide,if_false]
 |obj v w h1 h2 hs hl hi ih=>
  have hS:EA v w:=.obj v w h1 h2 hs hl hi
  have hg:∀k,A7 doc ((AA v k).getD A6)=A7 doc ((AA w k).getD A6):=fun k=>by
   have h1:=hl k
   cases ha:AA v k with
   |none=>
    rw [ha] at h1
    cases hb:AA w k with
    |none=>rfl
    |some b=>rw [hb] at h1;cases h1
   |some a=>
    rw [ha] at h1
    cases hb:AA w k with
    |none=>rw [hb] at h1;cases h1
    |some b=>exact ih k a b ha hb
  have ho:∀on path picks,Gx v.keys (v.items.map (A7 doc)) on path picks=Gx w.keys (w.items.map (A7 doc)) on path picks:=fun on path picks=>by
   unfold Gx
   apply List.map_congr_left
   intro p _
   rw [Ho doc v h1,Ho doc w h2,hg]
  funext tn tw picks path
  rw [CV,CV]
  unfold JW
  rw [GB doc tn (.inr h1),GB doc tn (.inr h2),hS.typO,h1,h2]
  simp only [show ¬(6:Int)=9 by decide,show ¬(6:Int)=0 by decide,show ¬(6:Int)=5 by decide,if_false]
  split
  .rfl
  split
  .rfl
  split
  .rfl
  .split
   .unfold H0;rw [ho]
   .rfl
/-! ### What cutting leaves -/
theorem XL (k:qB):∀(l:List qB) (j:Nat),0<=ix k l j->l[(ix k l j - j).toNat]?=some k
 | [],j,h=>by simp [ix] at h
 |x::r,j,h=>by
  rw [ix] at h ⊢
  split
  .rename_i c;subst c;simp
  .rename_i c
   rw [iN c] at h
   have:=XL k r (j+1) h
   have hl:=Nl k r (j+1)
   have e:(ix k r (j+1) - (j:Int)).toNat=(ix k r (j+1) - ((j+1:Nat):Int)).toNat+1:=by
    rcases hl with q | q
    .omega
    .omega
   rw [e,List.getElem?_cons_succ]
   exact this
theorem NO {k:qB} {l:List qB} (h:0<=ix k l 0):l[(ix k l 0).toNat]?=some k:=by
 have:=XL k l 0 h
 simpa using this
theorem Ab2 (k:qB):∀(l:List qB) (n j:Nat),ix k (l.take n) j=if ix k l j<(j+n:Nat) then ix k l j else -1
 | [],n,j=>by
  rw [List.take_nil,ix,iP (by omega)]
 |x::r,0,j=>by
  rw [List.take_zero,ix]
  split
  .rename_i h
   rcases Nl k (x::r) j with q | q
   .rw [q]
   .omega
  .rfl
 |x::r,n+1,j=>by
  rw [List.take_succ_cons,ix,ix]
  by_cases c:k=x
  .rw [iP c,iP c,iP (by omega)]
  .rw [iN c,iN c,Ab2 k r n (j+1)]
   have:(j+1+n:Nat)=j+(n+1):=by omega
   rw [this]
def GF (on key:qB):List CF->Ag->Ag
 | [],x=>x
 | (p,f)::r,x=>if p.on=on∧p.key=key∧p.label=⟨#[]⟩ then GF on key r (f (BV p x)) else GF on key r x
theorem Qt (on:qB) (keys:List qB):∀(fs:List CF) (is:List Ag),(Hz on keys fs is).length=is.length
 | [],is=>rfl
 | (p,f)::r,is=>by
  rw [Hz]
  split
  .rw [Qt on keys r,List.length_set]
  .exact Qt on keys r is
theorem Fv (on key:qB) (keys:List qB) (h0:0<=ix key keys 0):∀(fs:List CF) (is:List Ag),(Hz on keys fs is)[(ix key keys 0).toNat]?=(is[(ix key keys 0).toNat]?).map (GF on key fs)
 | [],is=>by
  rw [Hz]
  cases is[(ix key keys 0).toNat]?<;>rfl
 | (p,f)::r,is=>by
  rw [Hz]
  by_cases hk:p.key=key
  .subst hk
   by_cases hc:p.on=on∧p.label=⟨#[]⟩
   .rcases znb (ix p.key keys 0).toNat is.length with q | q
    .rw [iP ⟨hc.1,hc.2,h0,by omega⟩,Fv on p.key keys h0 r,List.getElem?_set_self q]
     have e:is[(ix p.key keys 0).toNat]?=some is[(ix p.key keys 0).toNat]:=zlg q
     have e2:is.getD (ix p.key keys 0).toNat A6=is[(ix p.key keys 0).toNat]:=by rw [List.getD_eq_getElem?_getD,e];rfl
     rw [e2,e,z8,z8,GF,iP ⟨hc.1,rfl,hc.2⟩]
    .rw [iN (by omega),Fv on p.key keys h0 r,List.getElem?_eq_none q]
     rfl
   .rw [iN (fun q=>hc ⟨q.1,q.2.1⟩),Fv on p.key keys h0 r]
    congr 1
    funext x
    rw [GF,iN (fun q=>hc ⟨q.1,q.2.2⟩)]
  .have e3:∀x,GF on key ((p,f)::r) x=GF on key r x:=fun x=>by rw [GF,iN (fun q=>hk q.2.1)]
   have e4:GF on key ((p,f)::r)=GF on key r:=funext e3
   rw [e4]
   split
   .rename_i hc
    rw [Fv on key keys h0 r]
    have BG:(ix p.key keys 0).toNat≠(ix key keys 0).toNat:=fun e=>by
     have h1:=NO hc.2.2.1
     have h2:=NO h0
     rw [e,h2] at h1
     cases h1
     exact hk rfl
    rw [List.getElem?_set_ne BG]
   .exact Fv on key keys h0 r is
theorem Y1 (h6:v.k=6) (k:qB):AA v k=if 0<=ix k v.keys 0 then v.items[(ix k v.keys 0).toNat]? else none:=by unfold AA;rw [iP h6]
theorem Hd (n:Int) (s:qB) (i:List Ag) (l:List qB) (k:qB):AA (.mk 6 n s i l) k=if 0<=ix k l 0 then i[(ix k l 0).toNat]? else none:=Y1 (v:=.mk 6 n s i l) rfl k
theorem Hm (fs:List CF) (h6:v.k=6) (key:qB):AA (N3 fs v) key=(AA v key).map (GF (typF v) key fs):=by
 unfold N3
 rw [Hd,Y1 h6]
 by_cases h0:0<=ix key v.keys 0
 .rw [iP h0,iP h0]
  exact Fv _ _ _ h0 _ _
 .rw [iN h0,iN h0]
  rfl
theorem Nk (fs:List CF) (h6:v.k=6) (key:qB):AA (JU fs v) key=(AA v key).map (Gs (typF v) key fs):=by
 unfold JU
 rw [Hd,Y1 h6,Ab2 key v.keys v.items.length 0,Nat.zero_add]
 by_cases h0:0<=ix key v.keys 0
 .have hk:=NO h0
  rcases znb (ix key v.keys 0).toNat v.items.length with q | q
  .have e:v.items[(ix key v.keys 0).toNat]?=some v.items[(ix key v.keys 0).toNat]:=zlg q
   have e2:(if ix key v.keys 0 < ↑v.items.length then ix key v.keys 0 else -1)=ix key v.keys 0:=iP (by omega)
   rw [e2,iP h0,iP h0,List.getElem?_zipWith,hk,e]
   rfl
  .have e2:(if ix key v.keys 0 < ↑v.items.length then ix key v.keys 0 else -1)=-1:=iN (by omega)
   rw [e2,iN (by decide),iP h0,List.getElem?_eq_none q]
   rfl
 .rw [iN h0]
  by_cases h1:ix key v.keys 0<(v.items.length:Nat)
  .rw [iP h1,iN h0];rfl
  .rw [iN h1,iN (by decide)];rfl
/-! ### The two cuts -/
inductive Wi:List CF->List CF->Prop
 | nil:Wi [] []
 | cons (p:Pk) (fs gs hs is:List CF):(∀x y,EA x y->EA (Fj fs x) (Fk gs y))->-1<=p.initial->Wi hs is->Wi ((p,Fj fs)::hs) ((p,Fk gs)::is)
theorem Ae0 (H:∀x y,EA x y->EA (Fj fs x) (Fk gs y)) {p:Pk} (hi:-1<=p.initial) {x:Ag} (h:EA x y):EA (Fj fs (BV p x)) (Fk gs (Ei p y)):=by
 by_cases h5:x.k=5
 .have hy5:y.k=5:=by rw [<-h.k];exact h5
  have hl:=h.len h5
  have e1:Fj fs (BV p x)=.mk 5 0 ⟨#[]⟩ ((x.items.take (I5 p.initial x.items.length)).map (Fj fs)) []:=by
   unfold BV
   rw [iP h5,Ez,iP (show (Ag.mk x.k x.n x.s _ x.keys).k=5 from h5)]
   rfl
  have e2:Fk gs (Ei p y)=.mk 5 0 ⟨#[]⟩ ((y.items.take (I5 p.initial y.items.length)).map (Fk gs)) []:=by
   unfold Ei
   by_cases c:y.k=5∧0<=p.initial∧p.initial<y.items.length
   .rw [iP c,E3,iP (show (Ag.mk 5 0 ⟨#[]⟩ (y.items.take p.initial.toNat) []).k=5 from rfl)]
    have:I5 p.initial y.items.length=p.initial.toNat:=by unfold I5;rw [iN (by omega)];omega
    rw [this]
    rfl
   .rw [iN c,E3,iP hy5]
    have:y.items.take (I5 p.initial y.items.length)=y.items:=by
     apply List.take_of_length_le
     unfold I5
     split
     .exact Nat.le_refl _
     .omega
    rw [this]
  rw [e1,e2]
  refine .list _ _ rfl rfl rfl (by simp only [Ag.items_mk,zlv,List.length_take];rw [hl]) fun i a b ha hb=>?_
  simp only [Ag.items_mk,zlp,List.getElem?_take] at ha hb
  rw [<-hl] at hb
  split at ha
  .rename_i q
   rw [iP q] at hb
   cases ea:x.items[i]? with
   |none=>rw [ea] at ha;cases ha
   |some a1=>
    rw [ea] at ha
    cases eb:y.items[i]? with
    |none=>rw [eb] at hb;cases hb
    |some b1=>
     rw [eb] at hb
     cases ha
     cases hb
     exact H _ _ (h.at5 h5 i ea eb)
  .cases ha
 .have e1:BV p x=x:=iN h5
  have e2:Ei p y=y:=iN fun q=>h5 (by rw [h.k];exact q.1)
  rw [e1,e2]
  exact H x y h
theorem Ajz {key:qB} (h:Wi fs gs):∀{x y:Ag},EA x y->EA (GF on key fs x) (Gs on key gs y):=by
 induction h with
 |nil=>exact fun h=>h
 |cons p fs gs hs is H hi _ ih=>
  intro x y h
  rw [GF,Gs]
  split
  .exact ih (Ae0 H hi h)
  .exact ih h
theorem Akg (h:Wi fs gs) {x:Ag} (h6:x.k=6) (hs:EA x y):EA (N3 fs x) (JU gs y):=by
 have hy6:y.k=6:=by rw [<-hs.k];exact h6
 refine .obj _ _ rfl rfl rfl (fun k=>?_) fun k a b ha hb=>?_
 .rw [Hm fs h6,Nk gs hy6,Option.isSome_map,Option.isSome_map,hs.some6 k]
 .rw [Hm fs h6] at ha
  rw [Nk gs hy6] at hb
  cases ea:AA x k with
  |none=>rw [ea] at ha;cases ha
  |some a1=>
   cases eb:AA y k with
   |none=>rw [eb] at hb;cases hb
   |some b1=>
    rw [ea] at ha
    rw [eb] at hb
    cases ha
    cases hb
    rw [hs.typF]
    exact Ajz h (hs.at6 k ea eb)
theorem Acr (h:Wi fs gs) (x:Ag):∀y,EA x y->EA (Fj fs x) (Fk gs y):=by
 refine Ag.ind (Q:=fun x=>∀y,EA x y->EA (Fj fs x) (Fk gs y)) (fun x ih y hs=>?_) x
 rw [Ez,E3,<-hs.k]
 by_cases h5:x.k=5
 .have hl:=hs.len h5
  rw [iP h5,iP h5]
  refine .list _ _ rfl rfl rfl (by simp only [Ag.items_mk,zlv];exact hl) fun i a b ha hb=>?_
  simp only [Ag.items_mk,zlp] at ha hb
  cases ea:x.items[i]? with
  |none=>rw [ea] at ha;cases ha
  |some a1=>
   rw [ea] at ha
   cases eb:y.items[i]? with
   |none=>rw [eb] at hb;cases hb
   |some b1=>
    rw [eb] at hb
    cases ha
    cases hb
    exact ih _ (zla ea) _ (hs.at5 h5 i ea eb)
 .rw [iN h5,iN h5]
  by_cases h6:x.k=6
  .rw [iP h6,iP h6]
   exact Akg h h6 hs
  .rw [iN h6,iN h6]
   exact hs
inductive Ej:List Pk->Prop
 | mk (l:List Pk):(∀p∈l,-1<=p.initial)->(∀p∈l,Ej p.picks)->Ej l
theorem Ej.i:Ej l->∀p∈l,-1<=p.initial | .mk _ h _=>h
theorem Ej.x:Ej l->∀p∈l,Ej p.picks | .mk _ _ h=>h
theorem Re:∀(l:List Pk),(∀p∈l,Wi (Dm p.picks) (C7 p.picks))->(∀p∈l,-1<=p.initial)->Wi (Dm l) (C7 l)
 | [],_,_=>by rw [Dm,C7];exact .nil
 |p::r,h,hi=>by
  rw [Dm,C7,D5,Ed]
  exact .cons p (Dm p.picks) (C7 p.picks) _ _ (fun x y=>Acr (h p (by simp)) x y) (hi p (by simp)) (Re r (fun q hq=>h q (by simp [hq])) fun q hq=>hi q (by simp [hq]))
theorem Afm (p:Pk):Ej p.picks->Wi (Dm p.picks) (C7 p.picks) :=
 Pk.ind (Q:=fun p=>Ej p.picks->Wi (Dm p.picks) (C7 p.picks)) (fun p ih h=>Re p.picks (fun q hq=>ih q hq (h.x q hq)) h.i) p
theorem Afw (h:Ej l):Wi (Dm l) (C7 l):=Re l (fun q hq=>Afm q (h.x q hq)) h.i
theorem Ts (h:Ej l) (v:Ag):EA (Bp l v) (C5 l v):=Acr (Afw h) v v (.refl v)
theorem Kn (doc:List Aw) (h:Ej l) (v:Ag):A7 doc (Bp l v)=A7 doc (C5 l v):=(Ts h v).cpl doc
inductive HE:List Pk->Prop
 | mk (l:List Pk):(∀(i j:Nat) p q,i<j->l[i]?=some p->l[j]?=some q->¬(p.on=q.on∧p.key=q.key))->(∀p∈l,-1<=p.initial∧p.key≠sT∧(0<=p.initial->Cu p.tw=true))->(∀p∈l,HE p.picks)->HE l
theorem HE.d:HE l->∀(i j:Nat) p q,i<j->l[i]?=some p->l[j]?=some q->¬(p.on=q.on∧p.key=q.key) | .mk _ h _ _=>h
theorem HE.p:HE l->∀p∈l,-1<=p.initial∧p.key≠sT∧(0<=p.initial->Cu p.tw=true) | .mk _ _ h _=>h
theorem HE.x:HE l->∀p∈l,HE p.picks | .mk _ _ _ h=>h
theorem Add (p:Pk):HE p.picks->Ej p.picks :=
 Pk.ind (Q:=fun p=>HE p.picks->Ej p.picks) (fun p ih h=>.mk _ (fun q hq=>(h.p q hq).1) fun q hq=>ih q hq (h.x q hq)) p
theorem HE.ini (h:HE l):Ej l:=.mk _ (fun q hq=>(h.p q hq).1) fun q hq=>Add q (h.x q hq)
theorem HE.one (h:HE l) {p:Pk} (hp:p∈l) (hq:q∈l) (h1:p.on=q.on) (h2:p.key=q.key):p=q:=by
 obtain ⟨i,hi⟩:=List.getElem?_of_mem hp
 obtain ⟨j,hj⟩:=List.getElem?_of_mem hq
 rcases Nat.lt_trichotomy i j with c | c | c
 .exact absurd ⟨h1,h2⟩ (h.d i j p q c hi hj)
 .subst c;rw [hi] at hj;exact zm.inj hj
 .exact absurd ⟨h1.symm,h2.symm⟩ (h.d j i q p c hj hi)
theorem IU {x:Pk} (h:∀(i j:Nat) p q,i<j->(x::l)[i]?=some p->(x::l)[j]?=some q->¬(p.on=q.on∧p.key=q.key)) :
 (∀q∈l,¬(x.on=q.on∧x.key=q.key))∧∀(i j:Nat) p q,i<j->l[i]?=some p->l[j]?=some q->¬(p.on=q.on∧p.key=q.key):=by
 refine ⟨fun q hq=>?_,fun i j p q w9 hp hq=>h (i+1) (j+1) p q (by omega) (by simpa using hp) (by simpa using hq)⟩
 obtain ⟨j,hj⟩:=List.getElem?_of_mem hq
 exact h 0 (j+1) x q (by omega) rfl (by simpa using hj)
theorem Ta {x:Pk} (h1:∀q∈l,¬(x.on=q.on∧x.key=q.key)) (h2:∀(i j:Nat) p q,i<j->l[i]?=some p->l[j]?=some q->¬(p.on=q.on∧p.key=q.key)) :
 ∀(i j:Nat) p q,i<j->(x::l)[i]?=some p->(x::l)[j]?=some q->¬(p.on=q.on∧p.key=q.key):=by
 intro i j p q w9 hp hq
 match j,w9,hq with
 |j+1,w9,hq=>
  rw [List.getElem?_cons_succ] at hq
  match i,w9,hp with
  | 0,_,hp=>
   rw [List.getElem?_cons_zero] at hp
   cases hp
   exact h1 q (zla hq)
  |i+1,w9,hp=>
   rw [List.getElem?_cons_succ] at hp
   exact h2 i j p q (by omega) hp hq
theorem KB (f:Pk->Pk) (hf:∀p,(f p).on=p.on∧(f p).key=p.key) (c:Pk->Bool):∀{l:List Pk},(∀(i j:Nat) p q,i<j->l[i]?=some p->l[j]?=some q->¬(p.on=q.on∧p.key=q.key)) ->
 ∀(i j:Nat) p q,i<j->((l.filter c).map f)[i]?=some p->((l.filter c).map f)[j]?=some q->¬(p.on=q.on∧p.key=q.key)
 | [],h=>by intro i j p q _ hp;simp at hp
 |x::l,h=>by
  obtain ⟨h1,h2⟩:=IU h
  have ih:=KB f hf c h2
  rw [List.filter_cons]
  split
  .rw [List.map_cons]
   refine Ta (fun q hq=>?_) ih
   obtain ⟨y,hy,rfl⟩:=zw.1 hq
   rw [(hf x).1,(hf x).2,(hf y).1,(hf y).2]
   exact h1 y (z1f.1 hy).1
  .exact ih
theorem Abz (p:Pk):(DL p).on=p.on∧(DL p).key=p.key:=⟨rfl,rfl⟩
theorem HE.par (h:HE l) (on name:qB):HE (AB on name l):=by
 refine .mk _ (KB DL Abz _ h.d) (fun p hp=>?_) fun p hp=>?_
 .obtain ⟨q,hq,rfl⟩:=zw.1 hp
  exact h.p q (z1f.1 hq).1
 .obtain ⟨q,hq,rfl⟩:=zw.1 hp
  exact h.x q (z1f.1 hq).1
theorem Ee {name:qB} {p:Pk} (h:p∈AB on name l):p.on=on∧p.label=⟨#[]⟩∧∃q∈l,q.label=name∧p=DL q:=by
 obtain ⟨q,hq,rfl⟩:=zw.1 h
 obtain ⟨h1,h2⟩:=z1f.1 hq
 simp only [Bool.and_eq_true,decide_eq_true_eq] at h2
 exact ⟨h2.1,rfl,q,h1,h2.2,rfl⟩
/-! ### Completed data under a raw value -/
def Cm (doc:List Aw) (l:List Pk) (raw d:Ag):Prop:=∃tn tw path,d=(A7 doc (Bp l raw) tn tw (AM l) path).1
theorem Ot (on key:qB):∀(fs:List CF),(∀x∈fs,¬(x.1.on=on∧x.1.key=key∧x.1.label=⟨#[]⟩))->∀x,GF on key fs x=x
 | [],_,x=>rfl
 | (p,f)::r,h,x=>by
  rw [GF,iN (h _ (List.mem_cons_self ..))]
  exact Ot on key r (fun y hy=>h y (List.mem_cons_of_mem _ hy)) x
theorem P5:∀{l:List Pk},(∀(i j:Nat) p q,i<j->l[i]?=some p->l[j]?=some q->¬(p.on=q.on∧p.key=q.key))->q∈l->q.on=on->q.label=⟨#[]⟩->∀x,GF on q.key (Dm l) x=Eu q (BV q x)
 |p::r,h,hq,h1,h2,x=>by
  obtain ⟨d1,d2⟩:=IU h
  rw [Dm,GF]
  rcases List.mem_cons.1 hq with e | hq
  .subst e
   rw [iP ⟨h1,rfl,h2⟩]
   refine Ot _ _ _ (fun y hy c=>?_) _
   rw [E5] at hy
   obtain ⟨z,hz,rfl⟩:=zw.1 hy
   exact d1 z hz ⟨by rw [h1];exact c.1.symm,c.2.1.symm⟩
  .rw [iN (fun c=>d1 q hq ⟨c.1.trans h1.symm,c.2.1⟩)]
   exact P5 d2 hq h1 h2 x
theorem Adm (l:List Pk):Bp l A6=A6:=by
 unfold Bp
 rw [Ez,iN (by decide),iN (by decide)]
theorem Aap (q:Pk):BV q A6=A6:=by unfold BV;rw [iN (by decide)]
theorem YN (h:v.k=5):Bp l v=.mk 5 0 ⟨#[]⟩ (v.items.map (Bp l)) []:=by
 unfold Bp
 rw [Ez,iP h]
theorem Qw (h:v.k=6):Bp l v=N3 (Dm l) v:=by
 unfold Bp
 rw [Ez,iN (by rw [h];decide),iP h]
theorem Afs (l:List Pk) (v:Ag):(Bp l v).k=v.k:=by
 by_cases h5:v.k=5
 .rw [YN h5,h5];rfl
 .by_cases h6:v.k=6
  .rw [Qw h6,h6];rfl
  .unfold Bp;rw [Ez,iN h5,iN h6]
theorem WX (hn:HE l) (h6:v.k=6) (hq:q∈l) (h1:q.on=typF v) (h2:q.label=⟨#[]⟩):(AA (Bp l v) q.key).getD A6=Bp q.picks (BV q (AW v q)):=by
 rw [Qw h6,Hm _ h6,<-D5]
 unfold AW
 cases AA v q.key with
 |none=>
  rw [Option.map_none,Option.getD_none,Aap,D5,Adm]
 |some x=>
  rw [z8,zc,P5 hn.d hq h1 h2]
  rfl
theorem WD (hn:HE l) (v:Ag) (h6:v.k=6):typO (Bp l v)=typO v:=by
 unfold typO
 have:AA (Bp l v) sT=AA v sT:=by
  rw [Qw h6,Hm _ h6]
  cases AA v sT with
  |none=>rfl
  |some x=>
   rw [z8,Ot]
   intro y hy c
   rw [E5] at hy
   obtain ⟨z,hz,rfl⟩:=zw.1 hy
   exact (hn.p z hz).2.1 c.2.1
 rw [this]
theorem Adc (h:typO v=some on):typF v=on:=by
 unfold typO at h
 unfold typF
 cases hg:AA v sT with
 |none=>rw [hg] at h;cases h
 |some t=>
  rw [hg] at h
  dsimp only at h
  split at h
  .cases h;rfl
  .cases h
theorem YS (h:(A7 doc v tn tw picks path).1.k=6) :
 ∃on,v.k=6∧typO v=some on∧F0 doc tn=true∧on∈Et doc tn∧A7 doc v tn tw picks path=H0 v.keys (v.items.map (A7 doc)) on picks path∧(H0 v.keys (v.items.map (A7 doc)) on picks path).1=EV ((Gx v.keys (v.items.map (A7 doc)) on path picks).map (·.1.key)) ((Gx v.keys (v.items.map (A7 doc)) on path picks).map (·.2.1))∧Cu (Cp tw)=false∧Ex doc tn=false:=by
 have hz:∀s:qB,(Ey path s).1.k=6->False:=fun s h=>by simp [Ey,A6,Ag.k_mk] at h
 rw [CV,JW] at h ⊢
 split at h
 .exact (hz _ h).elim
 rename_i c9
 rw [iN c9]
 split at h
 .rw [Ja] at h
  split at h
  .exact (hz _ h).elim
  .simp [A6,Ag.k_mk] at h
 rename_i c0
 rw [iN c0]
 split at h
 .split at h
  .dsimp only [Gl] at h
   split at h<;>simp [A6,IM,Ag.k_mk] at h
  .exact (hz _ h).elim
 rename_i cl
 rw [iN cl]
 split at h
 .cases hx:EK doc tn v with
  |none=>rw [hx] at h;exact (hz _ h).elim
  |some x=>
   rw [hx] at h
   have:=N7 hx
   dsimp only at h
   omega
 rename_i cf
 rw [iN cf]
 cases ho:typO v with
 |none=>rw [ho] at h;exact (hz _ h).elim
 |some on=>
  rw [ho] at h
  dsimp only at h ⊢
  split at h
  .rename_i hc
   rw [iP hc]
   refine ⟨on,Ov ho,rfl,hc.1,hc.2,rfl,?_,by simpa using cl,by simpa using cf⟩
   dsimp only [H0] at h ⊢
   split at h
   .simp [A6,Ag.k_mk] at h
   .rename_i hn
    rw [iN hn]
  .exact (hz _ h).elim
theorem Ac6 (h:(A7 doc v tn tw picks path).1.k=5) :
 v.k=5∧Cu (Cp tw)=true∧(A7 doc v tn tw picks path)=(IM ((Gz (v.items.map (A7 doc)) 0 tn (DM (Cp tw)) picks path).map (·.1)),(Gz (v.items.map (A7 doc)) 0 tn (DM (Cp tw)) picks path).flatMap (·.2)):=by
 have hz:∀s:qB,(Ey path s).1.k=5->False:=fun s h=>by simp [Ey,A6,Ag.k_mk] at h
 rw [CV,JW] at h ⊢
 split at h
 .exact (hz _ h).elim
 rename_i c9
 rw [iN c9]
 split at h
 .rw [Ja] at h
  split at h
  .exact (hz _ h).elim
  .simp [A6,Ag.k_mk] at h
 rename_i c0
 rw [iN c0]
 split at h
 .rename_i cl
  rw [iP cl]
  split at h
  .rename_i c5
   rw [iP c5]
   refine ⟨c5,cl,?_⟩
   dsimp only [Gl] at h ⊢
   split at h
   .simp [A6,Ag.k_mk] at h
   .rename_i hn
    rw [iN hn]
  .exact (hz _ h).elim
 split at h
 .cases hx:EK doc tn v with
  |none=>rw [hx] at h;exact (hz _ h).elim
  |some x=>
   rw [hx] at h
   have:=N7 hx
   dsimp only at h
   omega
 split at h
 .exact (hz _ h).elim
 .split at h
  .dsimp only [H0] at h
   split at h<;>simp [A6,EV,Ag.k_mk] at h
  .exact (hz _ h).elim
theorem Tt {d:Ag} (h:Cm doc l raw d) (h5:raw.k=5) (d5:d.k=5):d.items.length=raw.items.length∧∀(i:Nat) a b,raw.items[i]?=some a->d.items[i]?=some b->Cm doc l a b:=by
 obtain ⟨tn,tw,path,rfl⟩:=h
 obtain ⟨_,_,e⟩:=Ac6 d5
 rw [e,YN h5]
 simp only [IM,Ag.items_mk,zlv,Kk,List.map_map,true_and]
 intro i a b ha hb
 rw [zlp,TI,zlp,ha] at hb
 simp only [z8,zm.injEq] at hb
 exact ⟨_,_,_,hb.symm⟩
theorem M7 (h6:v.k=6) (hd:∀(i j:Nat) p q,i<j->picks[i]?=some p->picks[j]?=some q->¬(p.on=q.on∧p.key=q.key)) (hq:q∈picks) (IH:q.on=on) :
 AA (EV ((Gx v.keys (v.items.map (A7 doc)) on path picks).map (·.1.key)) ((Gx v.keys (v.items.map (A7 doc)) on path picks).map (·.2.1))) q.key=some (A7 doc ((AA v q.key).getD A6) q.tn q.tw q.picks (path++[CW q.key])).1:=by
 have hn:((Gx v.keys (v.items.map (A7 doc)) on path picks).map (·.1.key)).Nodup:=by
  unfold Gx
  rw [List.map_map]
  show ((picks.filter fun p=>decide (p.on=on)).map Pk.key).Nodup
  clear hq
  induction picks with
  |nil=>simp
  |cons x l ih=>
   obtain ⟨d1,d2⟩:=IU hd
   rw [List.filter_cons]
   split
   .rename_i c
    rw [List.map_cons,List.nodup_cons]
    refine ⟨fun hm=>?_,ih d2⟩
    obtain ⟨y,hy,e⟩:=zw.1 hm
    obtain ⟨y1,y2⟩:=z1f.1 hy
    exact d1 y y1 ⟨by simp at c y2;rw [c,y2],e.symm⟩
   .exact ih d2
 have hm:(q,itF v.keys (v.items.map (A7 doc)) q.key q.tn q.tw q.picks (path++[CW q.key]))∈Gx v.keys (v.items.map (A7 doc)) on path picks:=by
  unfold Gx
  exact zw.2 ⟨q,z1f.2 ⟨hq,by simp [IH]⟩,rfl⟩
 obtain ⟨i,hi⟩:=List.getElem?_of_mem hm
 rw [Wt hn (i:=i) (k:=q.key) (x:=(itF v.keys (v.items.map (A7 doc)) q.key q.tn q.tw q.picks (path++[CW q.key])).1) (by rw [zlp,hi];rfl) (by rw [zlp,hi];rfl),Ho doc v h6]
theorem YA (hq:q∈l) (h:q.label=⟨#[]⟩):HW q∈AM l:=by
 rw [CL]
 exact zw.2 ⟨q,z1f.2 ⟨hq,by simp [h]⟩,rfl⟩
theorem IW (q:Pk):(HW q).on=q.on∧(HW q).key=q.key∧(HW q).tn=q.tn∧(HW q).tw=q.tw∧(HW q).picks=AM q.picks:=by
 rw [Oe]
 exact ⟨rfl,rfl,rfl,rfl,rfl⟩
theorem HE.dpre (h:HE l):∀(i j:Nat) p q,i<j->(AM l)[i]?=some p->(AM l)[j]?=some q->¬(p.on=q.on∧p.key=q.key):=by
 rw [CL]
 exact KB HW (fun p=>⟨(IW p).1,(IW p).2.1⟩) _ h.d
theorem X2 (hn:HE l) {d:Ag} (h:Cm doc l raw d) (d6:d.k=6) (hq:q∈l) (h1:q.on=typF raw) (h2:q.label=⟨#[]⟩):Cm doc q.picks (BV q (AW raw q)) (AW d q):=by
 obtain ⟨tn,tw,path,rfl⟩:=h
 obtain ⟨on,k6,ho,_,_,e1,e2,_,_⟩:=YS d6
 have r6:raw.k=6:=by rw [<-Afs l raw];exact k6
 have IH:on=typF raw:=by rw [WD hn raw r6] at ho;exact (Adc ho).symm
 obtain ⟨f1,f2,f3,f4,f5⟩:=IW q
 have hg:=M7 (doc:=doc) (v:=Bp l raw) k6 (on:=on) (path:=path) hn.dpre (YA hq h2) (by rw [f1,h1,IH])
 rw [f2,f3,f4,f5,WX hn r6 hq h1 h2] at hg
 unfold AW
 rw [e1,e2,hg,zc]
 exact ⟨_,_,_,rfl⟩
end
