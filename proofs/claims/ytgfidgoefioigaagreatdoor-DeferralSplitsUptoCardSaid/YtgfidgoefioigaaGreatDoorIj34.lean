/- Proof. Conditions: none. -/
import Derived.Laws.IdiomCopy
import Derived.Test.YtgfidgoefioigaaGreatDoorIj33
open List renaming mem_of_getElem?->zla,getElem?_eq_getElem->zlg
open Nat renaming lt_or_ge->znb
namespace Go.Eng
open Go.RowKit Go.Lib
set_option linter.all false
section
variable {P:Program} {d:Option Nat} {env:EN} {hp:CH} {n:Nat} {K:St->Prop} {G:Bool}
end
section
variable {h:HP} {J:RO} {w:World} {k g n:Nat} {l:List (List AV)} {P:Program} {f:FuncId} {hp:CH} {args:List AV}
theorem PJ {len:Nat} (s:(Ak.rw g n l).sat h J w k):(Ak.rw g n (l.take len)).sat h J w k:=by
 obtain ⟨ob,cap,h1,h2,EY,h3,h4,h5⟩:=s
 refine ⟨ob,cap,h1,by rw [List.length_take];omega,EY,fun j e he=>h3 j e (Bu he).1,h4,fun b hb=>?_⟩
 obtain ⟨vs,e,z1,z2,z3⟩:=h5 b hb
 exact ⟨vs,e,z1,z2,fun j x q U y1 y2=>z3 j x q U (Bu y1).1 y2⟩
theorem AU.cut {m:Nat} {r:AV} (len:Nat) (c:AU P f hp n args ((k,.rw g m l)::hp) n r):AU P f hp n args ((k,.rw g m (l.take len))::hp) n r :=
 AO.post c fun Al n' r' h J w v ⟨e1,e2,e3⟩ hs hr=>by
  subst e1
  subst e2
  subst e3
  have s:=hs.ch k
  rw [Ah] at s
  have JZ:=hs.recast (k:=k) (c:=.rw g m (l.take len)) (fun j e=>by rw [Ah];exact e) (by rw [Ah];rfl) (PJ s)
  refine ⟨h,J,_,_,_,⟨rfl,rfl,rfl⟩,BQ.refl _,Ck.refl _,JZ.congrS fun j=>Agv.symm,hr,fun b ⟨j,g',c',q1,q2⟩=>?_⟩
  by_cases hj:k=j
  .subst hj
   rw [Ah] at q1
   exact ⟨k,g',c',by rw [Ah];exact q1,q2⟩
  .rw [Am hj] at q1
   exact ⟨j,g',c',by rw [Am hj];exact q1,q2⟩
def UI {ι:Type} (φ:ι->Prop) (F:ι->CH->Nat->AV->Prop) (Al:CH) (n':Nat) (r':AV):Prop:=∃i,φ i∧F i Al n' r'
theorem Cw {ι:Type} {φ:ι->Prop} {F:ι->CH->Nat->AV->Prop} {Al:CH} {n':Nat} {r':AV} (i:ι) (h:φ i) (h2:F i Al n' r'):UI φ F Al n' r':=⟨i,h,h2⟩
theorem AO.outI {outs:B3} {ι:Type} (φ:ι->Prop) (Sx:ι->CH) (rI:ι->AV) (h1:∀i,φ i->∀k,k<n->gc (Sx i) k=gc hp k∨(gc (Sx i) k).lt1 n) (Ce:∀i,φ i->∀k,n<=k->gc (Sx i) k=.no)
 (m0:AO P f hp n args (UI φ fun i=>Me (Sx i) n outs (rI i))):AO P f hp n args (UI φ fun i Al n' r'=>Al=Ch n outs++Sx i∧n'=n+outs.length∧r'=rI i):=by
 refine ⟨m0.1,fun h J w vs hs ha=>(m0.2 h J w vs hs ha).mono fun e w' ⟨v,he,h',ρ',Al,n',r',⟨ix,hφ,e1,e2⟩,hh,hr,hm,Cr,hk,hl⟩=>?_⟩
 have h1:=h1 ix hφ
 have Ce:=Ce ix hφ
 obtain ⟨II,w7⟩:∃x,Sx ix=x:=⟨_,rfl⟩
 obtain ⟨r,re⟩:∃x,rI ix=x:=⟨_,rfl⟩
 rw [w7] at h1 Ce
 have e1:Up n (Sx ix) (HX Al (Br (rI ix)) (Br r')):=e1
 have e2:fR (HX Al (Br (rI ix)) (Br r')) n outs (rI ix) r':=e2
 rw [w7,re] at e1
 rw [re] at e2
 have e2:=XE e2
 obtain ⟨h2,a1,a2,a3⟩:=KG (E:=Br r) (A:=Br r') hm
 generalize HX Al (Br r) (Br r')=hq at *
 obtain ⟨sel,M,rel⟩:=Ry a2 (Cr.mono a1 (Ck.refl _)) e2
 have hρ:Ck J (ρS ρ' n sel):=fun k g x hx=>by
  rcases znb k n with Bz | Bz
  .rw [ρS_lt Bz];exact hr _ _ _ hx
  .rw [hs.fr k g Bz] at hx;cases hx
 -- what may be written
 have EO:∀k g b c,(gc (Ch n outs++II) k).own g->ρS ρ' n sel k g=some (some b,c)->∃k2 g2,(gc hq k2).own g2∧ρ' k2 g2=some (some b,c)∧(k<n->k2=k)∧(n<=k->∃i,k=n+i∧sel[i]?=some (some (k2,g2))):=by
  intro k g b c hg hx
  rcases znb k n with Bz | Bz
  .rw [CD Bz] at hg
   rw [ρS_lt Bz] at hx
   exact ⟨k,g,by rw [e1 k Bz];exact hg,hx,fun _=>rfl,fun h=>by omega⟩
  .obtain ⟨i,rfl⟩:∃i,k=n+i:=⟨k - n,by omega⟩
   rcases znb i outs.length with hi | hi
   .have ho:outs[i]?=some outs[i]:=zlg hi
    have Md:i<sel.length:=by rw [M.len];exact hi
    have FJ:sel[i]?=some sel[i]:=zlg Md
    rw [Du (m:=outs[i].1) (l:=outs[i].2) ho] at hg
    cases hg
    cases GX:sel[i] with
    |none=>
     rw [GX] at FJ
     rw [ρS_none FJ] at hx
     cases hx
    |some p=>
     obtain ⟨k2,g2⟩:=p
     rw [GX] at FJ
     rw [ρS_new FJ] at hx
     obtain ⟨_,m2,l2,_,q⟩:=M.ge i k2 g2 FJ
     exact ⟨k2,g2,by rw [q];rfl,hx,fun h=>by omega,fun _=>⟨i,rfl,FJ⟩⟩
   .rw [DX (by omega),Ce _ (by omega)] at hg
    cases hg
 have AL:∀b,AI (ρS ρ' n sel) (Ch n outs++II) b->AI ρ' hq b:=fun b ⟨k,g,c,hg,hx⟩=>by
  obtain ⟨k2,g2,q1,q2,_⟩:=EO k g b c hg hx
  exact ⟨k2,g2,c,q1,q2⟩
 refine ⟨v,he,h2,ρS ρ' n sel,_,_,r,⟨ix,hφ,by rw [w7],rfl,re.symm⟩,hh.trans a1,hρ,⟨a2.hh,fun k=>?_,fun k k' g g' b c c' q1 q2 q3 q4=>?_,fun b hb=>a2.hid b (AL b hb),fun b hb=>a2.lt b (AL b hb),fun k g hk=>?_,fun k g g' x q1 q2=>?_,a2.gl⟩,rel,hk,fun b hb=>hl b (a3 b (AL b hb))⟩
 .rcases znb k n with Bz | Bz
  .rw [CD Bz]
   have s1:=a2.ch k
   rw [e1 k Bz] at s1
   rcases h1 k Bz with hu | hu
   .have s0:=hs.ch k
    rw [<-hu] at s0
    exact Ak.sat_mono (BQ.refl _) hρ (fun _ _ _ _ _=>rfl) (Ak.back hr s0 s1)
   .cases hc:gc II k with
    |no=>trivial
    |bx cs=>
     rw [hc] at s1 hu
     obtain ⟨b,c,p9,ty,b1,b2,b3,b4⟩:=s1
     exact ⟨b,c,p9,ty,(ρS_lt Bz 0).trans b1,b2,b3,fun j U u x y=>EZ (hu U (zla x)) (b4 j U u x y)⟩
    |rw g mm l=>
     rw [hc] at s1
     obtain ⟨ob,cap,b1,b2⟩:=s1
     exact ⟨ob,cap,(ρS_lt Bz g).trans b1,b2⟩
    |sh g mm l=>
     rw [hc] at s1
     obtain ⟨ob,cap,b1,b2⟩:=s1
     exact ⟨ob,cap,(ρS_lt Bz g).trans b1,b2⟩
    |rc g mm cap l=>
     rw [hc] at s1
     obtain ⟨ob,b1,b2⟩:=s1
     exact ⟨ob,(ρS_lt Bz g).trans b1,b2⟩
    |mp l=>
     rw [hc] at s1
     obtain ⟨b,c,es,cl,b1,b2⟩:=s1
     exact ⟨b,c,es,cl,(ρS_lt Bz 0).trans b1,b2⟩
    |mq F=>
     rw [hc] at s1
     obtain ⟨b,c,es,cl,b1,b2⟩:=s1
     exact ⟨b,c,es,cl,(ρS_lt Bz 0).trans b1,b2⟩
    |mr l sn=>
     rw [hc] at s1
     obtain ⟨b,c,es,cl,b1,q1,q2,q3,q4,b2,c2,x7,g2,q5⟩:=s1
     exact ⟨b,c,es,cl,(ρS_lt Bz 0).trans b1,q1,q2,q3,q4,b2,c2,x7,(ρS_lt Bz 1).trans g2,q5⟩
    |ro cs=>
     rw [hc] at s1
     obtain ⟨b,c,us,e,fr,b1,b2⟩:=s1
     exact ⟨b,c,us,e,fr,(ρS_lt Bz 0).trans b1,b2⟩
    |rn g mm l=>
     rw [hc] at s1 hu
     obtain ⟨ob,cap,b1,b2,b2',b3,b4,b5⟩:=s1
     refine ⟨ob,cap,(ρS_lt Bz g).trans b1,b2,b2',b3,b4,fun b hb=>?_⟩
     obtain ⟨p9,ty,c1,c2,c3⟩:=b5 b hb
     exact ⟨p9,ty,c1,c2,fun j x q U y1 y2=>let ⟨u,z1,z2⟩:=c3 j x q U y1 y2;⟨u,z1,EZ (hu x (zla y1) U (zla y2)) z2⟩⟩
    |sb T e g bs=>
     rw [hc] at s1
     obtain ⟨b,c,p,v,b1,b2,b3,b4,b5,⟨y,b6⟩,b7⟩:=s1
     exact ⟨b,c,p,v,(ρS_lt Bz 0).trans b1,b2,b3,b4,b5,⟨y,(ρS_lt Bz g).trans b6⟩,fun x hx=>⟨(b7 x hx).1,let ⟨c2,q⟩:=(b7 x hx).2;⟨c2,(ρS_lt Bz g).trans q⟩⟩⟩
  .obtain ⟨i,rfl⟩:∃i,k=n+i:=⟨k - n,by omega⟩
   rcases znb i outs.length with hi | hi
   .have ho:outs[i]?=some outs[i]:=zlg hi
    have Md:i<sel.length:=by rw [M.len];exact hi
    have FJ:sel[i]?=some sel[i]:=zlg Md
    rw [Du (m:=outs[i].1) (l:=outs[i].2) ho]
    cases GX:sel[i] with
    |none=>
     rw [GX] at FJ
     obtain ⟨m2,q⟩:=M.no i FJ
     rw [ho] at q
     have q:outs[i]=(m2,[]):=Option.some.inj q
     rw [q]
     exact ⟨none,0,ρS_none FJ,by simp,by simp [maxLen],fun j e h=>by simp at h,fun _=>rfl,fun b hb=>by cases hb⟩
    |some p=>
     obtain ⟨k2,g2⟩:=p
     rw [GX] at FJ
     obtain ⟨_,m2,l2,q1,q2⟩:=M.ge i k2 g2 FJ
     rw [ho] at q1
     have q1:outs[i]=(m2,l2):=Option.some.inj q1
     have s1:=a2.ch k2
     rw [q2] at s1
     rw [q1]
     obtain ⟨ob,cap,b1,b2⟩:=s1
     exact ⟨ob,cap,(ρS_new FJ).trans b1,b2⟩
   .rw [DX (by omega),Ce _ (by omega)]
    trivial
 .obtain ⟨k2,g2,x1,x2,x3,x4⟩:=EO k g b c q1 q3
  obtain ⟨k2',y9,y1,y2,y3,y4⟩:=EO k' g' b c' q2 q4
  have e3:=a2.inj k2 k2' g2 y9 b c c' x1 y1 x2 y2
  subst e3
  rcases znb k n with Bz | Bz<;>rcases znb k' n with EQ | EQ
  .rw [<-x3 Bz,<-y3 EQ]
  .obtain ⟨i,_,JZ⟩:=y4 EQ
   have:=(M.ge i k2 y9 JZ).1
   have:=x3 Bz
   omega
  .obtain ⟨i,_,JZ⟩:=x4 Bz
   have:=(M.ge i k2 g2 JZ).1
   have:=y3 EQ
   omega
  .obtain ⟨i,rfl,JZ⟩:=x4 Bz
   obtain ⟨j,rfl,hs3⟩:=y4 EQ
   rw [M.inj i j k2 g2 y9 JZ hs3]
 .have Bz:¬k<n:=by omega
  have:sel[k - n]?=none:=List.getElem?_eq_none (by rw [M.len];omega)
  simp [ρS,Bz,this]
 .rcases znb k n with Bz | Bz
  .rw [CD Bz] at q1
   rw [ρS_lt Bz] at q2
   exact a2.gens k g g' x (by rw [e1 k Bz];exact q1) q2
  .by_cases hg:g'=0
   .omega
   .have EQ:¬k<n:=by omega
    simp [ρS,EQ,hg] at q2
theorem FP {fn : Func} {k : CC} {rs : List RS} {ι : Type} (φ : ι -> Prop) (ws : ι -> CH) (rI : ι -> AV) (hf : P.funcs[f]? = some fn) (FN : (fn.name == "runtime.NumGoroutine") = false)
 (hc:fn.body.bind (BX P fn.ntmps)=some k.erase) (Ic:OB P fn.ntmps fn.results.toList=some rs) {hp:CH} {n:Nat} {args:List AV} (Bn:Nat.ble args.length fn.ntmps=true)
 (hX:(∀k,n<=k->gc hp k=.no)->∀i,φ i->wsLt n (ws i)) (hv:(∀k,n<=k->gc hp k=.no)->vc P k ⟨CK 0 args,hp,n⟩ (Lt rs (UI φ fun i=>Me (ws i++hp) n [] (rI i)))) :
 AO P f hp n args (UI φ fun i Al n' r'=>Al=ws i++hp∧n'=n∧r'=rI i):=by
 have Ka := (by obtain ⟨c, hb, Mt⟩ := bd hc; exact ⟨fn, hf, FN, by rw [hb]; rfl⟩ : ∃ fn, P.funcs[f]? = some fn ∧ (fn.name == "runtime.NumGoroutine") = false ∧ fn.body.isNone = false)
 refine ⟨Ka,fun h J w vs hs ha=>?_⟩
 have hw:=fun i hi=>IF (hX hs.free i hi)
 refine (AO.outI (outs:=[]) φ (fun i=>ws i++hp) rI (fun i hi k hk=>?_) (fun i hi k hk=>?_) (J5 hf FN hc Ic Bn (hv hs.free))).2 h J w vs hs ha
 .rcases Ev (ws:=ws i) (hp:=hp) k with ⟨_,e⟩ | ⟨c,hm,e⟩
  .exact .inl e
  .exact .inr (by rw [e];exact (hw i hi _ hm).2)
 .rcases Ev (ws:=ws i) (hp:=hp) k with ⟨_,e⟩ | ⟨c,hm,e⟩
  .rw [e];exact hs.free k hk
  .have:=(hw i hi _ hm).1
   omega
theorem SatH.drop (m:SatH h J hp n w) (k:Nat):SatH h J ((k,.no)::hp) n w:=by
 have own:∀j g',(gc ((k,Ak.no)::hp) j).own g'->(gc hp j).own g':=fun j g' e=>by
  by_cases hj:k=j
  .subst hj;rw [Ah] at e;cases e
  .rw [Am hj] at e;exact e
 have G1:∀b,AI J ((k,Ak.no)::hp) b->AI J hp b:=fun b ⟨j,g',c,e,r⟩=>⟨j,g',c,own j g' e,r⟩
 refine ⟨m.hh,fun j=>?_,fun j j' g1 g2 b c c' e1 e2=>m.inj j j' g1 g2 b c c' (own j g1 e1) (own j' g2 e2),fun b hb=>m.hid b (G1 b hb),fun b hb=>m.lt b (G1 b hb),m.fr,fun j g1 g2 x e r=>?_,m.gl⟩
 .by_cases hj:k=j
  .subst hj;rw [Ah];trivial
  .rw [Am hj];exact m.ch j
 .by_cases hj:k=j
  .subst hj
   rw [Ah] at e
   cases e
  .rw [Am hj] at e
   exact m.gens j g1 g2 x e r
end
