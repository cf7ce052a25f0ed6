/- Proof. Conditions: none. -/
import Derived.Test.YtgfidgoefioigaaGreatDoorIk34
noncomputable section
open List renaming mem_map->zq,mem_filter->z13
open Option renaming some->zi,map_some->z7
open Go.Proofs.Tryz
open List renaming mem_of_getElem?->zla,getElem?_eq_getElem->zlg
open Nat renaming lt_or_ge->znb
namespace Go.Eng
set_option linter.all false
section
variable {P:Program} {f:FuncId}
theorem AK.outJ {hp:CH} {n:Nat} {args:List AV} {ι:Type} (m8:ι->B2) (φ:ι->Prop) (RT:ι->CH) (rI:ι->AV) (h1:∀i,φ i->∀k,k<n->gc (RT i) k=gc hp k∨(gc (RT i) k).lt1 n) (BZ:∀i,φ i->∀k,n<=k->gc (RT i) k=.no)
 (m0:AK P f hp n args (Uq φ fun i=>Lz (RT i) n (m8 i) (rI i))):AK P f hp n args (Uq φ fun i Am n' r'=>Am=Cb n (m8 i)++RT i∧n'=n+(m8 i).length∧r'=rI i):=by
 refine ⟨m0.1,fun h J w vs hs ha=>(m0.2 h J w vs hs ha).mono fun e w' ⟨v,he,h',ρ',Am,n',r',⟨ix,hφ,e1,e2⟩,hh,hr,hm,Cf,hk,hl⟩=>?_⟩
 have h1:=h1 ix hφ
 have BZ:=BZ ix hφ
 obtain ⟨Il,u9⟩:=A7 (RT ix)
 obtain ⟨r,re⟩:=A7 (rI ix)
 obtain ⟨outs,oe⟩:=A7 (m8 ix)
 rw [u9] at h1 BZ
 have e1:Up n (RT ix) (HB Am (Bn (rI ix)) (Bn r')):=e1
 have e2:fR (HB Am (Bn (rI ix)) (Bn r')) n (m8 ix) (rI ix) r':=e2
 rw [u9,re] at e1
 rw [re,oe] at e2
 have e2:=Xm e2
 obtain ⟨h2,a1,a2,a3⟩:=JX (E:=Bn r) (A:=Bn r') hm
 generalize HB Am (Bn r) (Bn r')=hq at *
 obtain ⟨sel,M,rel⟩:=QY a2 (Cf.mono a1 (Cd.refl _)) e2
 have hρ:Cd J (ρS ρ' n sel):=fun k g x hx=>by
  rcases znb k n with Bx | Bx
  .rw [ρS_lt Bx];exact hr _ _ _ hx
  .rw [hs.fr k g Bx] at hx;cases hx
 -- what may be written
 have E7:∀k g b c,(gc (Cb n outs++Il) k).own g->ρS ρ' n sel k g=some (some b,c)->∃k2 g2,(gc hq k2).own g2∧ρ' k2 g2=some (some b,c)∧(k<n->k2=k)∧(n<=k->∃i,k=n+i∧sel[i]?=some (some (k2,g2))):=by
  intro k g b c hg hx
  rcases znb k n with Bx | Bx
  .rw [C1 Bx] at hg
   rw [ρS_lt Bx] at hx
   exact ⟨k,g,by rw [e1 k Bx];exact hg,hx,fun _=>rfl,fun h=>by omega⟩
  .obtain ⟨i,rfl⟩:∃i,k=n+i:=⟨k - n,by omega⟩
   rcases znb i outs.length with hi | hi
   .have ho:outs[i]?=some outs[i]:=zlg hi
    have Ly:i<sel.length:=by rw [M.len];exact hi
    have Fv:sel[i]?=some sel[i]:=zlg Ly
    rw [Dk (m:=outs[i].1) (l:=outs[i].2) ho] at hg
    cases hg
    cases GD:sel[i] with
    |none=>
     rw [GD] at Fv
     rw [ρS_none Fv] at hx
     cases hx
    |some p=>
     obtain ⟨k2,g2⟩:=p
     rw [GD] at Fv
     rw [ρS_new Fv] at hx
     obtain ⟨_,m2,l2,_,q⟩:=M.ge i k2 g2 Fv
     exact ⟨k2,g2,by rw [q];rfl,hx,fun h=>by omega,fun _=>⟨i,rfl,Fv⟩⟩
   .rw [DC (by omega),BZ _ (by omega)] at hg
    cases hg
 have AI:∀b,AF (ρS ρ' n sel) (Cb n outs++Il) b->AF ρ' hq b:=fun b ⟨k,g,c,hg,hx⟩=>by
  obtain ⟨k2,g2,q1,q2,_⟩:=E7 k g b c hg hx
  exact ⟨k2,g2,c,q1,q2⟩
 refine ⟨v,he,h2,ρS ρ' n sel,_,_,r,⟨ix,hφ,by rw [u9,oe],by rw [oe],re.symm⟩,hh.trans a1,hρ,⟨a2.hh,fun k=>?_,fun k k' g g' b c c' q1 q2 q3 q4=>?_,fun b hb=>a2.hid b (AI b hb),fun b hb=>a2.lt b (AI b hb),fun k g hk=>?_,fun k g g' x q1 q2=>?_,a2.gl⟩,rel,hk,fun b hb=>hl b (a3 b (AI b hb))⟩
 .rcases znb k n with Bx | Bx
  .rw [C1 Bx]
   have s1:=a2.ch k
   rw [e1 k Bx] at s1
   rcases h1 k Bx with hu | hu
   .have s0:=hs.ch k
    rw [<-hu] at s0
    exact Ai.sat_mono (BJ.refl _) hρ (fun _ _ _ _ _=>rfl) (Ai.back hr s0 s1)
   .cases hc:gc Il k with
    |no=>trivial
    |bx cs=>
     rw [hc] at s1 hu
     obtain ⟨b,c,p6,ty,b1,b2,b3,b4⟩:=s1
     exact ⟨b,c,p6,ty,(ρS_lt Bx 0).trans b1,b2,b3,fun j α u x y=>EI (hu α (zla x)) (b4 j α u x y)⟩
    |rw g mm l=>
     rw [hc] at s1
     obtain ⟨ob,cap,b1,b2⟩:=s1
     exact ⟨ob,cap,(ρS_lt Bx g).trans b1,b2⟩
    |sh g mm l=>
     rw [hc] at s1
     obtain ⟨ob,cap,b1,b2⟩:=s1
     exact ⟨ob,cap,(ρS_lt Bx g).trans b1,b2⟩
    |rc g mm cap l=>
     rw [hc] at s1
     obtain ⟨ob,b1,b2⟩:=s1
     exact ⟨ob,(ρS_lt Bx g).trans b1,b2⟩
    |mp l=>
     rw [hc] at s1
     obtain ⟨b,c,es,cl,b1,b2⟩:=s1
     exact ⟨b,c,es,cl,(ρS_lt Bx 0).trans b1,b2⟩
    |mq F=>
     rw [hc] at s1
     obtain ⟨b,c,es,cl,b1,b2⟩:=s1
     exact ⟨b,c,es,cl,(ρS_lt Bx 0).trans b1,b2⟩
    |mr l sn=>
     rw [hc] at s1
     obtain ⟨b,c,es,cl,b1,q1,q2,q3,q4,b2,c2,w7,g2,q5⟩:=s1
     exact ⟨b,c,es,cl,(ρS_lt Bx 0).trans b1,q1,q2,q3,q4,b2,c2,w7,(ρS_lt Bx 1).trans g2,q5⟩
    |ro cs=>
     rw [hc] at s1
     obtain ⟨b,c,us,e,fr,b1,b2⟩:=s1
     exact ⟨b,c,us,e,fr,(ρS_lt Bx 0).trans b1,b2⟩
    |rn g mm l=>
     rw [hc] at s1 hu
     obtain ⟨ob,cap,b1,b2,b2',b3,b4,b5⟩:=s1
     refine ⟨ob,cap,(ρS_lt Bx g).trans b1,b2,b2',b3,b4,fun b hb=>?_⟩
     obtain ⟨p6,ty,c1,c2,c3⟩:=b5 b hb
     exact ⟨p6,ty,c1,c2,fun j x q α y1 y2=>let ⟨u,z1,z2⟩:=c3 j x q α y1 y2;⟨u,z1,EI (hu x (zla y1) α (zla y2)) z2⟩⟩
    |sb T e g bs=>
     rw [hc] at s1
     obtain ⟨b,c,p,v,b1,b2,b3,b4,b5,⟨y,b6⟩,b7⟩:=s1
     exact ⟨b,c,p,v,(ρS_lt Bx 0).trans b1,b2,b3,b4,b5,⟨y,(ρS_lt Bx g).trans b6⟩,fun x hx=>⟨(b7 x hx).1,let ⟨c2,q⟩:=(b7 x hx).2;⟨c2,(ρS_lt Bx g).trans q⟩⟩⟩
  .obtain ⟨i,rfl⟩:∃i,k=n+i:=⟨k - n,by omega⟩
   rcases znb i outs.length with hi | hi
   .have ho:outs[i]?=some outs[i]:=zlg hi
    have Ly:i<sel.length:=by rw [M.len];exact hi
    have Fv:sel[i]?=some sel[i]:=zlg Ly
    rw [Dk (m:=outs[i].1) (l:=outs[i].2) ho]
    cases GD:sel[i] with
    |none=>
     rw [GD] at Fv
     obtain ⟨m2,q⟩:=M.no i Fv
     rw [ho] at q
     have q:outs[i]=(m2,[]):=zi.inj q
     rw [q]
     exact ⟨none,0,ρS_none Fv,by simp,by simp [maxLen],fun j e h=>by simp at h,fun _=>rfl,fun b hb=>by cases hb⟩
    |some p=>
     obtain ⟨k2,g2⟩:=p
     rw [GD] at Fv
     obtain ⟨_,m2,l2,q1,q2⟩:=M.ge i k2 g2 Fv
     rw [ho] at q1
     have q1:outs[i]=(m2,l2):=zi.inj q1
     have s1:=a2.ch k2
     rw [q2] at s1
     rw [q1]
     obtain ⟨ob,cap,b1,b2⟩:=s1
     exact ⟨ob,cap,(ρS_new Fv).trans b1,b2⟩
   .rw [DC (by omega),BZ _ (by omega)]
    trivial
 .obtain ⟨k2,g2,x1,x2,x3,x4⟩:=E7 k g b c q1 q3
  obtain ⟨k2',w8,y1,y2,y3,y4⟩:=E7 k' g' b c' q2 q4
  have e3:=a2.inj k2 k2' g2 w8 b c c' x1 y1 x2 y2
  subst e3
  rcases znb k n with Bx | Bx<;>rcases znb k' n with E9 | E9
  .rw [<-x3 Bx,<-y3 E9]
  .obtain ⟨i,_,IU⟩:=y4 E9
   have:=(M.ge i k2 w8 IU).1
   have:=x3 Bx
   omega
  .obtain ⟨i,_,IU⟩:=x4 Bx
   have:=(M.ge i k2 g2 IU).1
   have:=y3 E9
   omega
  .obtain ⟨i,rfl,IU⟩:=x4 Bx
   obtain ⟨j,rfl,hs3⟩:=y4 E9
   rw [M.inj i j k2 g2 w8 IU hs3]
 .have Bx:¬k<n:=by omega
  have:sel[k - n]?=none:=List.getElem?_eq_none (by rw [M.len];omega)
  simp [ρS,Bx,this]
 .rcases znb k n with Bx | Bx
  .rw [C1 Bx] at q1
   rw [ρS_lt Bx] at q2
   exact a2.gens k g g' x (by rw [e1 k Bx];exact q1) q2
  .by_cases hg:g'=0
   .omega
   .have E9:¬k<n:=by omega
    simp [ρS,E9,hg] at q2
theorem Z2 {fn : Func} {k : CC} {rs : List RS} {ι : Type} (m8 : ι -> B2) (φ : ι -> Prop) (ws : ι -> CH) (rI : ι -> AV) (hf : P.funcs[f]? = some fn) (FZ : (fn.name == "runtime.NumGoroutine") = false)
 (hc:fn.body.bind (BP P fn.ntmps)=some k.erase) (HG:NS P fn.ntmps fn.results.toList=some rs) {hp:CH} {n:Nat} {args:List AV} (AZ:Nat.ble args.length fn.ntmps=true)
 (hX:(∀k,n<=k->gc hp k=.no)->∀i,φ i->wsLt n (ws i)) (hv:(∀k,n<=k->gc hp k=.no)->vc P k ⟨C9 0 args,hp,n⟩ (K7 rs (Uq φ fun i=>Lz (ws i++hp) n (m8 i) (rI i)))) :
 AK P f hp n args (Uq φ fun i Am n' r'=>Am=Cb n (m8 i)++(ws i++hp)∧n'=n+(m8 i).length∧r'=rI i):=by
 have J0 := (by obtain ⟨c, hb, Qx⟩ := bd hc; exact ⟨fn, hf, FZ, by rw [hb]; rfl⟩ : ∃ fn, P.funcs[f]? = some fn ∧ (fn.name == "runtime.NumGoroutine") = false ∧ fn.body.isNone = false)
 refine ⟨J0,fun h J w vs hs ha=>?_⟩
 have hw:=fun i hi=>Ij (hX hs.free i hi)
 refine (AK.outJ m8 φ (fun i=>ws i++hp) rI (fun i hi k hk=>?_) (fun i hi k hk=>?_) (Jb hf FZ hc HG AZ (hv hs.free))).2 h J w vs hs ha
 .rcases Ec (ws:=ws i) (hp:=hp) k with ⟨_,e⟩ | ⟨c,hm,e⟩
  .exact .inl e
  .exact .inr (by rw [e];exact (hw i hi _ hm).2)
 .rcases Ec (ws:=ws i) (hp:=hp) k with ⟨_,e⟩ | ⟨c,hm,e⟩
  .rw [e];exact hs.free k hk
  .have:=(hw i hi _ hm).1
   omega
end
end Go.Eng
namespace Go.Proofs.YtgfidgoefioigaaGreatDoor
open Go.Eng
set_option linter.all false
set_option maxRecDepth 20000
section
variable {v w a b:Ag} {l:List Pk} {q:Pk} {on:qB}
inductive Ip:Ag->Ag->Prop
 | refl (v:Ag):Ip v v
 | list (v w:Ag):v.k=5->w.k=5->v.s=w.s->v.items.length=w.items.length->(∀(i:Nat) a b,v.items[i]?=some a->w.items[i]?=some b->Ip a b)->Ip v w
 | obj (v w:Ag):v.k=6->w.k=6->v.s=w.s->(∀k,(AB v k).isSome=(AB w k).isSome)->(∀k a b,AB v k=some a->AB w k=some b->Ip a b)->Ip v w
theorem Ip.k (h:Ip v w):v.k=w.k:=by cases h with
 |refl=>rfl
 |list _ _ h1 h2=>rw [h1,h2]
 |obj _ _ h1 h2=>rw [h1,h2]
theorem Ip.s (h:Ip v w):v.s=w.s:=by cases h with
 |refl=>rfl
 |list _ _ _ _ h=>exact h
 |obj _ _ _ _ h=>exact h
theorem Ip.other (h:Ip v w) (h5:v.k≠5) (h6:v.k≠6):v=w:=by cases h with
 |refl=>rfl
 |list _ _ h1=>exact absurd h1 h5
 |obj _ _ h1=>exact absurd h1 h6
theorem Ip.len (h:Ip v w) (h5:v.k=5):v.items.length=w.items.length:=by cases h with
 |refl=>rfl
 |list _ _ _ _ _ h=>exact h
 |obj _ _ h1=>rw [h5] at h1;exact absurd h1 (by decide)
theorem Ip.at5 (h:Ip v w) (h5:v.k=5) (i:Nat) (ha:v.items[i]?=some a) (hb:w.items[i]?=some b):Ip a b:=by cases h with
 |refl=>rw [ha] at hb;cases hb;exact .refl _
 |list _ _ _ _ _ _ h=>exact h i a b ha hb
 |obj _ _ h1=>rw [h5] at h1;exact absurd h1 (by decide)
theorem Ip.some6 (h:Ip v w) (k:qB):(AB v k).isSome=(AB w k).isSome:=by cases h with
 |refl=>rfl
 |list _ _ h1 h2=>rw [DF (by rw [h1];decide),DF (by rw [h2];decide)]
 |obj _ _ _ _ _ h=>exact h k
theorem Ip.at6 (h:Ip v w) (k:qB) (ha:AB v k=some a) (hb:AB w k=some b):Ip a b:=by cases h with
 |refl=>rw [ha] at hb;cases hb;exact .refl _
 |list _ _ h1 h2=>rw [DF (by rw [h1];decide)] at ha;cases ha
 |obj _ _ _ _ _ _ h=>exact h k a b ha hb
theorem Ip.getD (h:Ip v w) (k:qB):Ip ((AB v k).getD A8) ((AB w k).getD A8):=by
 have h1:=h.some6 k
 cases ha:AB v k with
 |none=>
  rw [ha] at h1
  cases hb:AB w k with
  |none=>exact .refl _
  |some b=>rw [hb] at h1;cases h1
 |some a=>
  rw [ha] at h1
  cases hb:AB w k with
  |none=>rw [hb] at h1;cases h1
  |some b=>exact h.at6 k ha hb
theorem Ip.typF (h:Ip v w):typF v=typF w:=(h.getD sT).s
theorem Ip.typO (h:Ip v w):typO v=typO w:=by
 have h1:=h.some6 sT
 unfold Go.Proofs.YtgfidgoefioigaaGreatDoor.typO
 cases ha:AB v sT with
 |none=>
  rw [ha] at h1
  cases hb:AB w sT with
  |none=>rfl
  |some b=>rw [hb] at h1;cases h1
 |some a=>
  rw [ha] at h1
  cases hb:AB w sT with
  |none=>rw [hb] at h1;cases h1
  |some b=>
   have:=h.at6 sT ha hb
   dsimp only
   rw [this.k,this.s]
theorem Pg (doc:List Av) (n:qB) (h:v.k=5∨v.k=6):Ho doc n v=none:=by
 have e:v.k≠1∧v.k≠2∧v.k≠3∧v.k≠4:=by omega
 unfold Ho UY
 split
 .rw [iN (fun q=>e.2.1 q.2.1),iN (fun q=>e.2.2.1 q.2),iN (fun q=>e.2.1 q.2),iN (fun q=>e.1 q.2)]
 .rw [iN (fun q=>e.2.2.2 q.2.1)]
/-! ### What cutting leaves -/
theorem Xt (k:qB):∀(l:List qB) (j:Nat),0<=ix k l j->l[(ix k l j - j).toNat]?=some k
 | [],j,h=>by simp [ix] at h
 |x::r,j,h=>by
  rw [ix] at h ⊢
  split
  .rename_i c;subst c;simp
  .rename_i c
   rw [iN c] at h
   have:=Xt k r (j+1) h
   have hl:=PV k r (j+1)
   have e:(ix k r (j+1) - (j:Int)).toNat=(ix k r (j+1) - ((j+1:Nat):Int)).toNat+1:=by
    rcases hl with q | q
    .omega
    .omega
   rw [e,List.getElem?_cons_succ]
   exact this
theorem Ni {k:qB} {l:List qB} (h:0<=ix k l 0):l[(ix k l 0).toNat]?=some k:=by
 have:=Xt k l 0 h
 simpa using this
def H7 (on key:qB):List CF->Ag->Ag
 | [],x=>x
 | (p,f)::r,x=>if p.on=on∧p.key=key∧p.label=⟨#[]⟩ then H7 on key r (f (BM p x)) else H7 on key r x
theorem PU (on:qB) (keys:List qB):∀(fs:List CF) (is:List Ag),(Hc on keys fs is).length=is.length
 | [],is=>rfl
 | (p,f)::r,is=>by
  rw [Hc]
  split
  .rw [PU on keys r,List.length_set]
  .exact PU on keys r is
theorem Fb (on key:qB) (keys:List qB) (h0:0<=ix key keys 0):∀(fs:List CF) (is:List Ag),(Hc on keys fs is)[(ix key keys 0).toNat]?=(is[(ix key keys 0).toNat]?).map (H7 on key fs)
 | [],is=>by
  rw [Hc]
  cases is[(ix key keys 0).toNat]?<;>rfl
 | (p,f)::r,is=>by
  rw [Hc]
  by_cases hk:p.key=key
  .subst hk
   by_cases hc:p.on=on∧p.label=⟨#[]⟩
   .rcases znb (ix p.key keys 0).toNat is.length with q | q
    .rw [iP ⟨hc.1,hc.2,h0,by omega⟩,Fb on p.key keys h0 r,List.getElem?_set_self q]
     have e:is[(ix p.key keys 0).toNat]?=some is[(ix p.key keys 0).toNat]:=zlg q
     have e2:is.getD (ix p.key keys 0).toNat A8=is[(ix p.key keys 0).toNat]:=by rw [List.getD_eq_getElem?_getD,e];rfl
     rw [e2,e,z7,z7,H7,iP ⟨hc.1,rfl,hc.2⟩]
    .rw [iN (by omega),Fb on p.key keys h0 r,List.getElem?_eq_none q]
     rfl
   .rw [iN (fun q=>hc ⟨q.1,q.2.1⟩),Fb on p.key keys h0 r]
    congr 1
    funext x
    rw [H7,iN (fun q=>hc ⟨q.1,q.2.2⟩)]
  .have e3:∀x,H7 on key ((p,f)::r) x=H7 on key r x:=fun x=>by rw [H7,iN (fun q=>hk q.2.1)]
   have e4:H7 on key ((p,f)::r)=H7 on key r:=funext e3
   rw [e4]
   split
   .rename_i hc
    rw [Fb on key keys h0 r]
    have B1:(ix p.key keys 0).toNat≠(ix key keys 0).toNat:=fun e=>by
     have h1:=Ni hc.2.2.1
     have h2:=Ni h0
     rw [e,h2] at h1
     cases h1
     exact hk rfl
    rw [List.getElem?_set_ne B1]
   .exact Fb on key keys h0 r is
theorem Acg (h6:v.k=6) (k:qB):AB v k=if 0<=ix k v.keys 0 then v.items[(ix k v.keys 0).toNat]? else none:=by unfold AB;rw [iP h6]
theorem MT (n:Int) (s:qB) (i:List Ag) (l:List qB) (k:qB):AB (.mk 6 n s i l) k=if 0<=ix k l 0 then i[(ix k l 0).toNat]? else none:=Acg (v:=.mk 6 n s i l) rfl k
theorem M5 (fs:List CF) (h6:v.k=6) (key:qB):AB (Og fs v) key=(AB v key).map (H7 (typF v) key fs):=by
 unfold Og
 rw [MT,Acg h6]
 by_cases h0:0<=ix key v.keys 0
 .rw [iP h0,iP h0]
  exact Fb _ _ _ h0 _ _
 .rw [iN h0,iN h0]
  rfl
inductive Hn:List Pk->Prop
 | mk (l:List Pk):(∀p∈l,-1<=p.initial)->(∀p∈l,Hn p.picks)->Hn l
theorem Hn.i:Hn l->∀p∈l,-1<=p.initial | .mk _ h _=>h
theorem Hn.x:Hn l->∀p∈l,Hn p.picks | .mk _ _ h=>h
inductive HC:List Pk->Prop
 | mk (l:List Pk):(∀(i j:Nat) p q,i<j->l[i]?=some p->l[j]?=some q->¬(p.on=q.on∧p.key=q.key))->(∀p∈l,-1<=p.initial∧p.key≠sT∧(0<=p.initial->Ca p.tw=true))->(∀p∈l,HC p.picks)->HC l
theorem HC.d:HC l->∀(i j:Nat) p q,i<j->l[i]?=some p->l[j]?=some q->¬(p.on=q.on∧p.key=q.key) | .mk _ h _ _=>h
theorem HC.p:HC l->∀p∈l,-1<=p.initial∧p.key≠sT∧(0<=p.initial->Ca p.tw=true) | .mk _ _ h _=>h
theorem HC.x:HC l->∀p∈l,HC p.picks | .mk _ _ _ h=>h
theorem Acy (p:Pk):HC p.picks->Hn p.picks :=
 Pk.ind (Q:=fun p=>HC p.picks->Hn p.picks) (fun p ih h=>.mk _ (fun q hq=>(h.p q hq).1) fun q hq=>ih q hq (h.x q hq)) p
theorem HC.ini (h:HC l):Hn l:=.mk _ (fun q hq=>(h.p q hq).1) fun q hq=>Acy q (h.x q hq)
theorem HC.one (h:HC l) {p:Pk} (hp:p∈l) (hq:q∈l) (h1:p.on=q.on) (h2:p.key=q.key):p=q:=by
 obtain ⟨i,hi⟩:=List.getElem?_of_mem hp
 obtain ⟨j,hj⟩:=List.getElem?_of_mem hq
 rcases Nat.lt_trichotomy i j with c | c | c
 .exact absurd ⟨h1,h2⟩ (h.d i j p q c hi hj)
 .subst c;rw [hi] at hj;exact zi.inj hj
 .exact absurd ⟨h1.symm,h2.symm⟩ (h.d j i q p c hj hi)
theorem I0 {x:Pk} (h:∀(i j:Nat) p q,i<j->(x::l)[i]?=some p->(x::l)[j]?=some q->¬(p.on=q.on∧p.key=q.key)) :
 (∀q∈l,¬(x.on=q.on∧x.key=q.key))∧∀(i j:Nat) p q,i<j->l[i]?=some p->l[j]?=some q->¬(p.on=q.on∧p.key=q.key):=by
 refine ⟨fun q hq=>?_,fun i j p q v8 hp hq=>h (i+1) (j+1) p q (by omega) (by simpa using hp) (by simpa using hq)⟩
 obtain ⟨j,hj⟩:=List.getElem?_of_mem hq
 exact h 0 (j+1) x q (by omega) rfl (by simpa using hj)
theorem S7 {x:Pk} (h1:∀q∈l,¬(x.on=q.on∧x.key=q.key)) (h2:∀(i j:Nat) p q,i<j->l[i]?=some p->l[j]?=some q->¬(p.on=q.on∧p.key=q.key)) :
 ∀(i j:Nat) p q,i<j->(x::l)[i]?=some p->(x::l)[j]?=some q->¬(p.on=q.on∧p.key=q.key):=by
 intro i j p q v8 hp hq
 match j,v8,hq with
 |j+1,v8,hq=>
  rw [List.getElem?_cons_succ] at hq
  match i,v8,hp with
  | 0,_,hp=>
   rw [List.getElem?_cons_zero] at hp
   cases hp
   exact h1 q (zla hq)
  |i+1,v8,hp=>
   rw [List.getElem?_cons_succ] at hp
   exact h2 i j p q (by omega) hp hq
theorem JT (f:Pk->Pk) (hf:∀p,(f p).on=p.on∧(f p).key=p.key) (c:Pk->Bool):∀{l:List Pk},(∀(i j:Nat) p q,i<j->l[i]?=some p->l[j]?=some q->¬(p.on=q.on∧p.key=q.key)) ->
 ∀(i j:Nat) p q,i<j->((l.filter c).map f)[i]?=some p->((l.filter c).map f)[j]?=some q->¬(p.on=q.on∧p.key=q.key)
 | [],h=>by intro i j p q _ hp;simp at hp
 |x::l,h=>by
  obtain ⟨h1,h2⟩:=I0 h
  have ih:=JT f hf c h2
  rw [List.filter_cons]
  split
  .rw [List.map_cons]
   refine S7 (fun q hq=>?_) ih
   obtain ⟨y,hy,rfl⟩:=zq.1 hq
   rw [(hf x).1,(hf x).2,(hf y).1,(hf y).2]
   exact h1 y (z13.1 hy).1
  .exact ih
theorem Abp (p:Pk):(Es p).on=p.on∧(Es p).key=p.key:=⟨rfl,rfl⟩
theorem HC.par (h:HC l) (on name:qB):HC (AN on name l):=by
 refine .mk _ (JT Es Abp _ h.d) (fun p hp=>?_) fun p hp=>?_
 .obtain ⟨q,hq,rfl⟩:=zq.1 hp
  exact h.p q (z13.1 hq).1
 .obtain ⟨q,hq,rfl⟩:=zq.1 hp
  exact h.x q (z13.1 hq).1
theorem EW {name:qB} {p:Pk} (h:p∈AN on name l):p.on=on∧p.label=⟨#[]⟩∧∃q∈l,q.label=name∧p=Es q:=by
 obtain ⟨q,hq,rfl⟩:=zq.1 h
 obtain ⟨h1,h2⟩:=z13.1 hq
 simp only [Bool.and_eq_true,decide_eq_true_eq] at h2
 exact ⟨h2.1,rfl,q,h1,h2.2,rfl⟩
theorem NA (on key:qB):∀(fs:List CF),(∀x∈fs,¬(x.1.on=on∧x.1.key=key∧x.1.label=⟨#[]⟩))->∀x,H7 on key fs x=x
 | [],_,x=>rfl
 | (p,f)::r,h,x=>by
  rw [H7,iN (h _ (List.mem_cons_self ..))]
  exact NA on key r (fun y hy=>h y (List.mem_cons_of_mem _ hy)) x
theorem Pb:∀{l:List Pk},(∀(i j:Nat) p q,i<j->l[i]?=some p->l[j]?=some q->¬(p.on=q.on∧p.key=q.key))->q∈l->q.on=on->q.label=⟨#[]⟩->∀x,H7 on q.key (Fa l) x=FH q (BM q x)
 |p::r,h,hq,h1,h2,x=>by
  obtain ⟨d1,d2⟩:=I0 h
  rw [Fa,H7]
  rcases List.mem_cons.1 hq with e | hq
  .subst e
   rw [iP ⟨h1,rfl,h2⟩]
   refine NA _ _ _ (fun y hy c=>?_) _
   rw [Ek] at hy
   obtain ⟨z,hz,rfl⟩:=zq.1 hy
   exact d1 z hz ⟨by rw [h1];exact c.1.symm,c.2.1.symm⟩
  .rw [iN (fun c=>d1 q hq ⟨c.1.trans h1.symm,c.2.1⟩)]
   exact Pb d2 hq h1 h2 x
theorem Ac7 (l:List Pk):AY l A8=A8:=by
 unfold AY
 rw [F5,iN (by decide),iN (by decide)]
theorem ZX (q:Pk):BM q A8=A8:=by unfold BM;rw [iN (by decide)]
theorem Yv (h:v.k=5):AY l v=.mk 5 0 ⟨#[]⟩ (v.items.map (AY l)) []:=by
 unfold AY
 rw [F5,iP h]
theorem Tl (h:v.k=6):AY l v=Og (Fa l) v:=by
 unfold AY
 rw [F5,iN (by rw [h];decide),iP h]
theorem W5 (hn:HC l) (h6:v.k=6) (hq:q∈l) (h1:q.on=typF v) (h2:q.label=⟨#[]⟩):(AB (AY l v) q.key).getD A8=AY q.picks (BM q (Ba v q)):=by
 rw [Tl h6,M5 _ h6,<-Eg]
 unfold Ba
 cases AB v q.key with
 |none=>
  rw [Option.map_none,Option.getD_none,ZX,Eg,Ac7]
 |some x=>
  rw [z7,Option.getD_some,Pb hn.d hq h1 h2]
  rfl
theorem Wi (hn:HC l) (v:Ag) (h6:v.k=6):typO (AY l v)=typO v:=by
 unfold typO
 have:AB (AY l v) sT=AB v sT:=by
  rw [Tl h6,M5 _ h6]
  cases AB v sT with
  |none=>rfl
  |some x=>
   rw [z7,NA]
   intro y hy c
   rw [Ek] at hy
   obtain ⟨z,hz,rfl⟩:=zq.1 hy
   exact (hn.p z hz).2.1 c.2.1
 rw [this]
theorem V1 (h:typO v=some on):typF v=on:=by
 unfold typO at h
 unfold typF
 cases hg:AB v sT with
 |none=>rw [hg] at h;cases h
 |some t=>
  rw [hg] at h
  dsimp only at h
  split at h
  .cases h;rfl
  .cases h
theorem I2 (q:Pk):(G4 q).on=q.on∧(G4 q).key=q.key∧(G4 q).tn=q.tn∧(G4 q).tw=q.tw∧(G4 q).picks=AP q.picks:=by
 rw [SQ]
 exact ⟨rfl,rfl,rfl,rfl,rfl⟩
theorem Zu (q:Pk) (x:Ag):(BM q x).k=x.k:=by
 unfold BM
 split<;>rfl
theorem Aec {x:Ag} (h:x.k=5):(BM q x).items=x.items.take (NT q.initial x.items.length):=by
 unfold BM
 rw [iP h]
 rfl
def Nv (doc:List Av) (on:qB) (q:Pk) (ini:Int) (c:Ag):Ge:=A6 doc (Cw [sT,q.key] [CY on,c]) on [] [Cx q ini] []
theorem V2 {key:qB} (hk:key≠sT) (c:Ag):AB (Cw [sT,key] [CY on,c]) sT=some (CY on)∧AB (Cw [sT,key] [CY on,c]) key=some c:=by
 constructor
 .unfold Cw
  rw [MT]
  simp [ix]
 .unfold Cw
  rw [MT]
  simp [ix,hk]
theorem Uk (doc:List Av) (cut:Ag->Ag) (f:PF) (on:qB) (q:Pk) (ini:Int) (CP:List Ag) (x:Ag) (r:List Ag) (j:Nat) :
 H5 doc cut f on q.key (Cx q ini) CP (x::r) j=.mk ⟨#[]⟩ (CP++[Ff j]) ((AB (Nv doc on q ini (cut x)).1 q.key).getD A8) (Gb (Nv doc on q ini (cut x)).2 (CP++[Ff j]) 1) ::
  (CZ f x ((AB (Nv doc on q ini (cut x)).1 q.key).getD A8) (CP++[Ff j])++H5 doc cut f on q.key (Cx q ini) CP r (j+1)):=by rw [H5];rfl
end
open Go.Eng Go.KL
set_option maxRecDepth 100000
def ck909:CC:=cK (a:=cF [2] [] [] f9) (by delta f9;simp only [go_sem];rfl)
theorem cc909:A4 f9=(false,some ck909.erase,some [(.c 8 5 true),(.t 9),(.t 10)]):=by kernel_rfl
def ck929:CC:=cK (a:=cF [4,21] [] [] f29) (by delta f29;simp (config := { maxSteps := 9999999 }) only [go_sem];rfl)
theorem cc929:A4 f29=(false,some ck929.erase,some []):=by kernel_rfl
def ck956:CC:=cK (a:=cF [17] [107,119] [(118,[5,4])] f56) (by delta f56;simp (config := { maxSteps := 9999999 }) only [go_sem];rfl)
theorem cc956:A4 f56=(false,some ck956.erase,some []):=by kernel_rfl
set_option maxRecDepth 20000
section
variable {l:List Pk} {v w a b:Ag}
inductive Pl:List Pk->Prop
 | mk (l:List Pk):(∀p∈l,p.label=⟨#[]⟩∧p.initial=-1)->(∀p∈l,Pl p.picks)->Pl l
theorem Pl.p:Pl l->∀p∈l,p.label=⟨#[]⟩∧p.initial=-1 | .mk _ h _=>h
theorem Pl.x:Pl l->∀p∈l,Pl p.picks | .mk _ _ h=>h
inductive Sm:Ag->Ag->Prop
 | refl (v:Ag):Sm v v
 | list (v w:Ag):v.k=5->w.k=5->v.items.length=w.items.length->(∀(i:Nat) a b,v.items[i]?=some a->w.items[i]?=some b->Sm a b)->Sm v w
 | obj (v w:Ag):v.k=6->w.k=6->(∀k,(AB v k).isSome=(AB w k).isSome)->(∀k a b,AB v k=some a->AB w k=some b->Sm a b)->Sm v w
theorem Sm.k (h:Sm v w):v.k=w.k:=by cases h with
 |refl=>rfl
 |list _ _ h1 h2=>rw [h1,h2]
 |obj _ _ h1 h2=>rw [h1,h2]
theorem Sm.other (h:Sm v w) (h5:v.k≠5) (h6:v.k≠6):v=w:=by cases h with
 |refl=>rfl
 |list _ _ h1=>exact absurd h1 h5
 |obj _ _ h1=>exact absurd h1 h6
theorem Sm.len (h:Sm v w) (h5:v.k=5):v.items.length=w.items.length:=by cases h with
 |refl=>rfl
 |list _ _ _ _ h=>exact h
 |obj _ _ h1=>rw [h5] at h1;exact absurd h1 (by decide)
theorem Sm.at5 (h:Sm v w) (h5:v.k=5) (i:Nat) (ha:v.items[i]?=some a) (hb:w.items[i]?=some b):Sm a b:=by cases h with
 |refl=>rw [ha] at hb;cases hb;exact .refl _
 |list _ _ _ _ _ h=>exact h i a b ha hb
 |obj _ _ h1=>rw [h5] at h1;exact absurd h1 (by decide)
theorem Sm.some6 (h:Sm v w) (k:qB):(AB v k).isSome=(AB w k).isSome:=by cases h with
 |refl=>rfl
 |list _ _ h1 h2=>rw [DF (by rw [h1];decide),DF (by rw [h2];decide)]
 |obj _ _ _ _ h=>exact h k
theorem Sm.at6 (h:Sm v w) (k:qB) (ha:AB v k=some a) (hb:AB w k=some b):Sm a b:=by cases h with
 |refl=>rw [ha] at hb;cases hb;exact .refl _
 |list _ _ h1 h2=>rw [DF (by rw [h1];decide)] at ha;cases ha
 |obj _ _ _ _ _ h=>exact h k a b ha hb
theorem Sm.typO (h:Sm v w):typO v=typO w:=by
 have h1:=h.some6 sT
 unfold Go.Proofs.YtgfidgoefioigaaGreatDoor.typO
 cases ha:AB v sT with
 |none=>
  rw [ha] at h1
  cases hb:AB w sT with
  |none=>rfl
  |some b=>rw [hb] at h1;cases h1
 |some a=>
  rw [ha] at h1
  cases hb:AB w sT with
  |none=>rw [hb] at h1;cases h1
  |some b=>
   have:=h.at6 sT ha hb
   dsimp only
   rw [<-this.k]
   by_cases c:a.k=3
   .rw [iP c,iP c,this.other (by omega) (by omega)]
   .rw [iN c,iN c]
theorem Aje {p:Pk} (h:p.initial=-1) (x:Ag):BM p x=x:=by
 unfold BM NT
 rw [h,iP rfl,List.take_length]
 split
 .cases x;rfl
 .rfl
end
