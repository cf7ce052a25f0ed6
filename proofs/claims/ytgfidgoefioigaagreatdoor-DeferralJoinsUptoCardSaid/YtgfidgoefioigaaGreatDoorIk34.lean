/- Proof. Conditions: none. -/
import Derived.Laws.IdiomCopy
import Derived.Test.YtgfidgoefioigaaGreatDoorIk33
open List renaming mem_of_getElem?->zla,getElem?_eq_getElem->zlg
open Nat renaming lt_or_ge->znb
namespace Go.Eng
open Go.RowKit Go.Lib
set_option linter.all false
section
variable {P:Program} {d:Option Nat} {env:EN} {hp:CH} {n:Nat} {K:St->Prop} {G:Bool}
end
section
variable {h:HP} {J:RO} {w:World} {k g n:Nat} {l:List (List AV)} {P:Program} {f:FuncId} {hp:CH} {args:List AV}
theorem Pp {len:Nat} (s:(Ai.rw g n l).sat h J w k):(Ai.rw g n (l.take len)).sat h J w k:=by
 obtain ⟨ob,cap,h1,h2,EH,h3,h4,h5⟩:=s
 refine ⟨ob,cap,h1,by rw [List.length_take];omega,EH,fun j e he=>h3 j e (Bs he).1,h4,fun b hb=>?_⟩
 obtain ⟨vs,e,z1,z2,z3⟩:=h5 b hb
 exact ⟨vs,e,z1,z2,fun j x q α y1 y2=>z3 j x q α (Bs y1).1 y2⟩
theorem AO.cut {m:Nat} {r:AV} (len:Nat) (c:AO P f hp n args ((k,.rw g m l)::hp) n r):AO P f hp n args ((k,.rw g m (l.take len))::hp) n r :=
 AK.post c fun Am n' r' h J w v ⟨e1,e2,e3⟩ hs hr=>by
  subst e1
  subst e2
  subst e3
  have s:=hs.ch k
  rw [Ah] at s
  have IU:=hs.recast (k:=k) (c:=.rw g m (l.take len)) (fun j e=>by rw [Ah];exact e) (by rw [Ah];rfl) (Pp s)
  refine ⟨h,J,_,_,_,⟨rfl,rfl,rfl⟩,BJ.refl _,Cd.refl _,IU.congrS fun j=>Agi.symm,hr,fun b ⟨j,g',c',q1,q2⟩=>?_⟩
  by_cases hj:k=j
  .subst hj
   rw [Ah] at q1
   exact ⟨k,g',c',by rw [Ah];exact q1,q2⟩
  .rw [Aj hj] at q1
   exact ⟨j,g',c',by rw [Aj hj];exact q1,q2⟩
def Uq {ι:Type} (φ:ι->Prop) (F:ι->CH->Nat->AV->Prop) (Am:CH) (n':Nat) (r':AV):Prop:=∃i,φ i∧F i Am n' r'
theorem Co {ι:Type} {φ:ι->Prop} {F:ι->CH->Nat->AV->Prop} {Am:CH} {n':Nat} {r':AV} (i:ι) (h:φ i) (h2:F i Am n' r'):Uq φ F Am n' r':=⟨i,h,h2⟩
theorem AK.outI {outs:B2} {ι:Type} (φ:ι->Prop) (RT:ι->CH) (rI:ι->AV) (h1:∀i,φ i->∀k,k<n->gc (RT i) k=gc hp k∨(gc (RT i) k).lt1 n) (BZ:∀i,φ i->∀k,n<=k->gc (RT i) k=.no)
 (m0:AK P f hp n args (Uq φ fun i=>Lz (RT i) n outs (rI i))):AK P f hp n args (Uq φ fun i Am n' r'=>Am=Cb n outs++RT i∧n'=n+outs.length∧r'=rI i):=by
 refine ⟨m0.1,fun h J w vs hs ha=>(m0.2 h J w vs hs ha).mono fun e w' ⟨v,he,h',ρ',Am,n',r',⟨ix,hφ,e1,e2⟩,hh,hr,hm,Cf,hk,hl⟩=>?_⟩
 have h1:=h1 ix hφ
 have BZ:=BZ ix hφ
 obtain ⟨Il,u9⟩:∃x,RT ix=x:=⟨_,rfl⟩
 obtain ⟨r,re⟩:∃x,rI ix=x:=⟨_,rfl⟩
 rw [u9] at h1 BZ
 have e1:Up n (RT ix) (HB Am (Bn (rI ix)) (Bn r')):=e1
 have e2:fR (HB Am (Bn (rI ix)) (Bn r')) n outs (rI ix) r':=e2
 rw [u9,re] at e1
 rw [re] at e2
 have e2:=Xm e2
 obtain ⟨h2,a1,a2,a3⟩:=JX (E:=Bn r) (A:=Bn r') hm
 generalize HB Am (Bn r) (Bn r')=hq at *
 obtain ⟨sel,M,rel⟩:=QY a2 (Cf.mono a1 (Cd.refl _)) e2
 have hρ:Cd J (ρS ρ' n sel):=fun k g x hx=>by
  rcases znb k n with Bx | Bx
  .rw [ρS_lt Bx];exact hr _ _ _ hx
  .rw [hs.fr k g Bx] at hx;cases hx
 -- what may be written
 have E7:∀k g b c,(gc (Cb n outs++Il) k).own g->ρS ρ' n sel k g=some (some b,c)->∃k2 g2,(gc hq k2).own g2∧ρ' k2 g2=some (some b,c)∧(k<n->k2=k)∧(n<=k->∃i,k=n+i∧sel[i]?=some (some (k2,g2))):=by
  intro k g b c hg hx
  rcases znb k n with Bx | Bx
  .rw [C1 Bx] at hg
   rw [ρS_lt Bx] at hx
   exact ⟨k,g,by rw [e1 k Bx];exact hg,hx,fun _=>rfl,fun h=>by omega⟩
  .obtain ⟨i,rfl⟩:∃i,k=n+i:=⟨k - n,by omega⟩
   rcases znb i outs.length with hi | hi
   .have ho:outs[i]?=some outs[i]:=zlg hi
    have Ly:i<sel.length:=by rw [M.len];exact hi
    have Fv:sel[i]?=some sel[i]:=zlg Ly
    rw [Dk (m:=outs[i].1) (l:=outs[i].2) ho] at hg
    cases hg
    cases GD:sel[i] with
    |none=>
     rw [GD] at Fv
     rw [ρS_none Fv] at hx
     cases hx
    |some p=>
     obtain ⟨k2,g2⟩:=p
     rw [GD] at Fv
     rw [ρS_new Fv] at hx
     obtain ⟨_,m2,l2,_,q⟩:=M.ge i k2 g2 Fv
     exact ⟨k2,g2,by rw [q];rfl,hx,fun h=>by omega,fun _=>⟨i,rfl,Fv⟩⟩
   .rw [DC (by omega),BZ _ (by omega)] at hg
    cases hg
 have AI:∀b,AF (ρS ρ' n sel) (Cb n outs++Il) b->AF ρ' hq b:=fun b ⟨k,g,c,hg,hx⟩=>by
  obtain ⟨k2,g2,q1,q2,_⟩:=E7 k g b c hg hx
  exact ⟨k2,g2,c,q1,q2⟩
 refine ⟨v,he,h2,ρS ρ' n sel,_,_,r,⟨ix,hφ,by rw [u9],rfl,re.symm⟩,hh.trans a1,hρ,⟨a2.hh,fun k=>?_,fun k k' g g' b c c' q1 q2 q3 q4=>?_,fun b hb=>a2.hid b (AI b hb),fun b hb=>a2.lt b (AI b hb),fun k g hk=>?_,fun k g g' x q1 q2=>?_,a2.gl⟩,rel,hk,fun b hb=>hl b (a3 b (AI b hb))⟩
 .rcases znb k n with Bx | Bx
  .rw [C1 Bx]
   have s1:=a2.ch k
   rw [e1 k Bx] at s1
   rcases h1 k Bx with hu | hu
   .have s0:=hs.ch k
    rw [<-hu] at s0
    exact Ai.sat_mono (BJ.refl _) hρ (fun _ _ _ _ _=>rfl) (Ai.back hr s0 s1)
   .cases hc:gc Il k with
    |no=>trivial
    |bx cs=>
     rw [hc] at s1 hu
     obtain ⟨b,c,p6,ty,b1,b2,b3,b4⟩:=s1
     exact ⟨b,c,p6,ty,(ρS_lt Bx 0).trans b1,b2,b3,fun j α u x y=>EI (hu α (zla x)) (b4 j α u x y)⟩
    |rw g mm l=>
     rw [hc] at s1
     obtain ⟨ob,cap,b1,b2⟩:=s1
     exact ⟨ob,cap,(ρS_lt Bx g).trans b1,b2⟩
    |sh g mm l=>
     rw [hc] at s1
     obtain ⟨ob,cap,b1,b2⟩:=s1
     exact ⟨ob,cap,(ρS_lt Bx g).trans b1,b2⟩
    |rc g mm cap l=>
     rw [hc] at s1
     obtain ⟨ob,b1,b2⟩:=s1
     exact ⟨ob,(ρS_lt Bx g).trans b1,b2⟩
    |mp l=>
     rw [hc] at s1
     obtain ⟨b,c,es,cl,b1,b2⟩:=s1
     exact ⟨b,c,es,cl,(ρS_lt Bx 0).trans b1,b2⟩
    |mq F=>
     rw [hc] at s1
     obtain ⟨b,c,es,cl,b1,b2⟩:=s1
     exact ⟨b,c,es,cl,(ρS_lt Bx 0).trans b1,b2⟩
    |mr l sn=>
     rw [hc] at s1
     obtain ⟨b,c,es,cl,b1,q1,q2,q3,q4,b2,c2,w7,g2,q5⟩:=s1
     exact ⟨b,c,es,cl,(ρS_lt Bx 0).trans b1,q1,q2,q3,q4,b2,c2,w7,(ρS_lt Bx 1).trans g2,q5⟩
    |ro cs=>
     rw [hc] at s1
     obtain ⟨b,c,us,e,fr,b1,b2⟩:=s1
     exact ⟨b,c,us,e,fr,(ρS_lt Bx 0).trans b1,b2⟩
    |rn g mm l=>
     rw [hc] at s1 hu
     obtain ⟨ob,cap,b1,b2,b2',b3,b4,b5⟩:=s1
     refine ⟨ob,cap,(ρS_lt Bx g).trans b1,b2,b2',b3,b4,fun b hb=>?_⟩
     obtain ⟨p6,ty,c1,c2,c3⟩:=b5 b hb
     exact ⟨p6,ty,c1,c2,fun j x q α y1 y2=>let ⟨u,z1,z2⟩:=c3 j x q α y1 y2;⟨u,z1,EI (hu x (zla y1) α (zla y2)) z2⟩⟩
    |sb T e g bs=>
     rw [hc] at s1
     obtain ⟨b,c,p,v,b1,b2,b3,b4,b5,⟨y,b6⟩,b7⟩:=s1
     exact ⟨b,c,p,v,(ρS_lt Bx 0).trans b1,b2,b3,b4,b5,⟨y,(ρS_lt Bx g).trans b6⟩,fun x hx=>⟨(b7 x hx).1,let ⟨c2,q⟩:=(b7 x hx).2;⟨c2,(ρS_lt Bx g).trans q⟩⟩⟩
  .obtain ⟨i,rfl⟩:∃i,k=n+i:=⟨k - n,by omega⟩
   rcases znb i outs.length with hi | hi
   .have ho:outs[i]?=some outs[i]:=zlg hi
    have Ly:i<sel.length:=by rw [M.len];exact hi
    have Fv:sel[i]?=some sel[i]:=zlg Ly
    rw [Dk (m:=outs[i].1) (l:=outs[i].2) ho]
    cases GD:sel[i] with
    |none=>
     rw [GD] at Fv
     obtain ⟨m2,q⟩:=M.no i Fv
     rw [ho] at q
     have q:outs[i]=(m2,[]):=Option.some.inj q
     rw [q]
     exact ⟨none,0,ρS_none Fv,by simp,by simp [maxLen],fun j e h=>by simp at h,fun _=>rfl,fun b hb=>by cases hb⟩
    |some p=>
     obtain ⟨k2,g2⟩:=p
     rw [GD] at Fv
     obtain ⟨_,m2,l2,q1,q2⟩:=M.ge i k2 g2 Fv
     rw [ho] at q1
     have q1:outs[i]=(m2,l2):=Option.some.inj q1
     have s1:=a2.ch k2
     rw [q2] at s1
     rw [q1]
     obtain ⟨ob,cap,b1,b2⟩:=s1
     exact ⟨ob,cap,(ρS_new Fv).trans b1,b2⟩
   .rw [DC (by omega),BZ _ (by omega)]
    trivial
 .obtain ⟨k2,g2,x1,x2,x3,x4⟩:=E7 k g b c q1 q3
  obtain ⟨k2',w8,y1,y2,y3,y4⟩:=E7 k' g' b c' q2 q4
  have e3:=a2.inj k2 k2' g2 w8 b c c' x1 y1 x2 y2
  subst e3
  rcases znb k n with Bx | Bx<;>rcases znb k' n with E9 | E9
  .rw [<-x3 Bx,<-y3 E9]
  .obtain ⟨i,_,IU⟩:=y4 E9
   have:=(M.ge i k2 w8 IU).1
   have:=x3 Bx
   omega
  .obtain ⟨i,_,IU⟩:=x4 Bx
   have:=(M.ge i k2 g2 IU).1
   have:=y3 E9
   omega
  .obtain ⟨i,rfl,IU⟩:=x4 Bx
   obtain ⟨j,rfl,hs3⟩:=y4 E9
   rw [M.inj i j k2 g2 w8 IU hs3]
 .have Bx:¬k<n:=by omega
  have:sel[k - n]?=none:=List.getElem?_eq_none (by rw [M.len];omega)
  simp [ρS,Bx,this]
 .rcases znb k n with Bx | Bx
  .rw [C1 Bx] at q1
   rw [ρS_lt Bx] at q2
   exact a2.gens k g g' x (by rw [e1 k Bx];exact q1) q2
  .by_cases hg:g'=0
   .omega
   .have E9:¬k<n:=by omega
    simp [ρS,E9,hg] at q2
theorem F4 {fn : Func} {k : CC} {rs : List RS} {ι : Type} (φ : ι -> Prop) (ws : ι -> CH) (rI : ι -> AV) (hf : P.funcs[f]? = some fn) (FZ : (fn.name == "runtime.NumGoroutine") = false)
 (hc:fn.body.bind (BP P fn.ntmps)=some k.erase) (HG:NS P fn.ntmps fn.results.toList=some rs) {hp:CH} {n:Nat} {args:List AV} (AZ:Nat.ble args.length fn.ntmps=true)
 (hX:(∀k,n<=k->gc hp k=.no)->∀i,φ i->wsLt n (ws i)) (hv:(∀k,n<=k->gc hp k=.no)->vc P k ⟨C9 0 args,hp,n⟩ (K7 rs (Uq φ fun i=>Lz (ws i++hp) n [] (rI i)))) :
 AK P f hp n args (Uq φ fun i Am n' r'=>Am=ws i++hp∧n'=n∧r'=rI i):=by
 have J0 := (by obtain ⟨c, hb, Qx⟩ := bd hc; exact ⟨fn, hf, FZ, by rw [hb]; rfl⟩ : ∃ fn, P.funcs[f]? = some fn ∧ (fn.name == "runtime.NumGoroutine") = false ∧ fn.body.isNone = false)
 refine ⟨J0,fun h J w vs hs ha=>?_⟩
 have hw:=fun i hi=>Ij (hX hs.free i hi)
 refine (AK.outI (outs:=[]) φ (fun i=>ws i++hp) rI (fun i hi k hk=>?_) (fun i hi k hk=>?_) (Jb hf FZ hc HG AZ (hv hs.free))).2 h J w vs hs ha
 .rcases Ec (ws:=ws i) (hp:=hp) k with ⟨_,e⟩ | ⟨c,hm,e⟩
  .exact .inl e
  .exact .inr (by rw [e];exact (hw i hi _ hm).2)
 .rcases Ec (ws:=ws i) (hp:=hp) k with ⟨_,e⟩ | ⟨c,hm,e⟩
  .rw [e];exact hs.free k hk
  .have:=(hw i hi _ hm).1
   omega
theorem SatH.drop (m:SatH h J hp n w) (k:Nat):SatH h J ((k,.no)::hp) n w:=by
 have own:∀j g',(gc ((k,Ai.no)::hp) j).own g'->(gc hp j).own g':=fun j g' e=>by
  by_cases hj:k=j
  .subst hj;rw [Ah] at e;cases e
  .rw [Aj hj] at e;exact e
 have Hp:∀b,AF J ((k,Ai.no)::hp) b->AF J hp b:=fun b ⟨j,g',c,e,r⟩=>⟨j,g',c,own j g' e,r⟩
 refine ⟨m.hh,fun j=>?_,fun j j' g1 g2 b c c' e1 e2=>m.inj j j' g1 g2 b c c' (own j g1 e1) (own j' g2 e2),fun b hb=>m.hid b (Hp b hb),fun b hb=>m.lt b (Hp b hb),m.fr,fun j g1 g2 x e r=>?_,m.gl⟩
 .by_cases hj:k=j
  .subst hj;rw [Ah];trivial
  .rw [Aj hj];exact m.ch j
 .by_cases hj:k=j
  .subst hj
   rw [Ah] at e
   cases e
  .rw [Aj hj] at e
   exact m.gens j g1 g2 x e r
end
