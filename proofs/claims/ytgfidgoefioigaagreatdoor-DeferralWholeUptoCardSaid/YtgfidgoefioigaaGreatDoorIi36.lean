/- Proof. Conditions: none. -/
import Derived.Laws.IdiomCopy
import Derived.Test.YtgfidgoefioigaaGreatDoorIi35
open List renaming mem_of_getElem?→zla,getElem?_eq_getElem→zlg
open Nat renaming lt_or_ge→znb
namespace Go.Eng
open Go.RowKit Go.Lib
set_option linter.all false
section
variable {P:Program} {d:Option Nat} {env:EN} {hp:CH} {n:Nat} {K:St→Prop} {G:Bool}
end
theorem MK {h:HP} {ρ:RO} {w:World} {k g n len:Nat} {l:List (List AV)} (s:(Ap.rw g n l).sat h ρ w k):(Ap.rw g n (l.take len)).sat h ρ w k:=by
 obtain ⟨ob,cap,h1,h2,Ep,h3,h4,h5⟩:=s
 refine ⟨ob,cap,h1,by rw [List.length_take];omega,Ep,fun j e he=>h3 j e (Bm he).1,h4,fun b hb=>?_⟩
 obtain ⟨vs,e,z1,z2,z3⟩:=h5 b hb
 exact ⟨vs,e,z1,z2,fun j x q α y1 y2=>z3 j x q α (Bm y1).1 y2⟩
theorem AQ.cut {P:Program} {f:FuncId} {hp:CH} {n k g m:Nat} {args:List AV} {r:AV} {l:List (List AV)} (len:Nat) (c:AQ P f hp n args ((k,.rw g m l)::hp) n r):AQ P f hp n args ((k,.rw g m (l.take len))::hp) n r :=
 AI.post c fun Ao n' r' h ρ w v ⟨e1,e2,e3⟩ hs hr=>by
  subst e1
  subst e2
  subst e3
  have s:=hs.ch k
  rw [Aj] at s
  have JK:=hs.recast (k:=k) (c:=.rw g m (l.take len)) (fun j e=>by rw [Aj];exact e) (by rw [Aj];rfl) (MK s)
  refine ⟨h,ρ,_,_,_,⟨rfl,rfl,rfl⟩,B8.refl _,BS.refl _,JK.congrS fun j=>Ya.symm,hr,fun b ⟨j,g',c',q1,q2⟩=>?_⟩
  by_cases hj:k=j
  .subst hj
   rw [Aj] at q1
   exact ⟨k,g',c',by rw [Aj];exact q1,q2⟩
  .rw [Al hj] at q1
   exact ⟨j,g',c',by rw [Al hj];exact q1,q2⟩
def Rx {ι:Type} (φ:ι→Prop) (F:ι→CH→Nat→AV→Prop) (Ao:CH) (n':Nat) (r':AV):Prop:=∃i,φ i∧F i Ao n' r'
theorem BY {ι:Type} {φ:ι→Prop} {F:ι→CH→Nat→AV→Prop} {Ao:CH} {n':Nat} {r':AV} (i:ι) (h:φ i) (h2:F i Ao n' r'):Rx φ F Ao n' r':=⟨i,h,h2⟩
theorem AI.outI {P:Program} {f:FuncId} {hp:CH} {n:Nat} {args:List AV} {outs:Bw} {ι:Type} (φ:ι→Prop) (PC:ι→CH) (rI:ι→AV) (h1:∀i,φ i→∀k,k<n→gc (PC i) k=gc hp k∨(gc (PC i) k).lt1 n) (BP:∀i,φ i→∀k,n≤k→gc (PC i) k=.no)
  (m0:AI P f hp n args (Rx φ fun i=>JU (PC i) n outs (rI i))):AI P f hp n args (Rx φ fun i Ao n' r'=>Ao=BR n outs++PC i∧n'=n+outs.length∧r'=rI i):=by
 refine ⟨m0.1,fun h ρ w vs hs ha=>(m0.2 h ρ w vs hs ha).mono fun e w' ⟨v,he,h',ρ',Ao,n',r',⟨ix,hφ,e1,e2⟩,hh,hr,hm,BW,hk,hl⟩=>?_⟩
 have h1:=h1 ix hφ
 have BP:=BP ix hφ
 obtain ⟨Hm,hp1e⟩:∃x,PC ix=x:=⟨_,rfl⟩
 obtain ⟨r,re⟩:∃x,rI ix=x:=⟨_,rfl⟩
 rw [hp1e] at h1 BP
 have e1:Up n (PC ix) (G6 Ao (Bc (rI ix)) (Bc r')):=e1
 have e2:fR (G6 Ao (Bc (rI ix)) (Bc r')) n outs (rI ix) r':=e2
 rw [hp1e,re] at e1
 rw [re] at e2
 have e2:=TV e2
 obtain ⟨h2,a1,a2,a3⟩:=IB (E:=Bc r) (A:=Bc r') hm
 generalize G6 Ao (Bc r) (Bc r')=hq at *
 obtain ⟨sel,M,rel⟩:=OG a2 (BW.mono a1 (BS.refl _)) e2
 have hρ:BS ρ (ρS ρ' n sel):=fun k g x hx=>by
  rcases znb k n with Bt | Bt
  .rw [ρS_lt Bt];exact hr _ _ _ hx
  .rw [hs.fr k g Bt] at hx;cases hx
 -- what may be written
 have Eh:∀k g b c,(gc (BR n outs++Hm) k).own g→ρS ρ' n sel k g=some (some b,c)→∃k2 g2,(gc hq k2).own g2∧ρ' k2 g2=some (some b,c)∧(k<n→k2=k)∧(n≤k→∃i,k=n+i∧sel[i]?=some (some (k2,g2))):=by
  intro k g b c hg hx
  rcases znb k n with Bt | Bt
  .rw [Co Bt] at hg
   rw [ρS_lt Bt] at hx
   exact ⟨k,g,by rw [e1 k Bt];exact hg,hx,fun _=>rfl,fun h=>by omega⟩
  .obtain ⟨i,rfl⟩:∃i,k=n+i:=⟨k - n,by omega⟩
   rcases znb i outs.length with hi | hi
   .have ho:outs[i]?=some outs[i]:=zlg hi
    have JP:i<sel.length:=by rw [M.len];exact hi
    have EG:sel[i]?=some sel[i]:=zlg JP
    rw [CB (m:=outs[i].1) (l:=outs[i].2) ho] at hg
    cases hg
    cases FI:sel[i] with
    | none =>
     rw [FI] at EG
     rw [ρS_none EG] at hx
     cases hx
    | some p =>
     obtain ⟨k2,g2⟩:=p
     rw [FI] at EG
     rw [ρS_new EG] at hx
     obtain ⟨_,m2,l2,_,q⟩:=M.ge i k2 g2 EG
     exact ⟨k2,g2,by rw [q];rfl,hx,fun h=>by omega,fun _=>⟨i,rfl,EG⟩⟩
   .rw [Dp (by omega),BP _ (by omega)] at hg
    cases hg
 have AJ:∀b,A9 (ρS ρ' n sel) (BR n outs++Hm) b→A9 ρ' hq b:=fun b ⟨k,g,c,hg,hx⟩=>by
  obtain ⟨k2,g2,q1,q2,_⟩:=Eh k g b c hg hx
  exact ⟨k2,g2,c,q1,q2⟩
 refine ⟨v,he,h2,ρS ρ' n sel,_,_,r,⟨ix,hφ,by rw [hp1e],rfl,re.symm⟩,hh.trans a1,hρ,⟨a2.hh,fun k=>?_,fun k k' g g' b c c' q1 q2 q3 q4=>?_,fun b hb=>a2.hid b (AJ b hb),fun b hb=>a2.lt b (AJ b hb),fun k g hk=>?_,fun k g g' x q1 q2=>?_,a2.gl⟩,rel,hk,fun b hb=>hl b (a3 b (AJ b hb))⟩
 .rcases znb k n with Bt | Bt
  .rw [Co Bt]
   have s1:=a2.ch k
   rw [e1 k Bt] at s1
   rcases h1 k Bt with hu | hu
   .have s0:=hs.ch k
    rw [←hu] at s0
    exact Ap.sat_mono (B8.refl _) hρ (fun _ _ _ _ _=>rfl) (Ap.back hr s0 s1)
   .cases hc:gc Hm k with
    | no=>trivial
    | bx cs =>
     rw [hc] at s1 hu
     obtain ⟨b,c,vs',ty,b1,b2,b3,b4⟩:=s1
     exact ⟨b,c,vs',ty,(ρS_lt Bt 0).trans b1,b2,b3,fun j α u x y=>Et (hu α (zla x)) (b4 j α u x y)⟩
    | rw g mm l =>
     rw [hc] at s1
     obtain ⟨ob,cap,b1,b2⟩:=s1
     exact ⟨ob,cap,(ρS_lt Bt g).trans b1,b2⟩
    | sh g mm l =>
     rw [hc] at s1
     obtain ⟨ob,cap,b1,b2⟩:=s1
     exact ⟨ob,cap,(ρS_lt Bt g).trans b1,b2⟩
    | rc g mm cap l =>
     rw [hc] at s1
     obtain ⟨ob,b1,b2⟩:=s1
     exact ⟨ob,(ρS_lt Bt g).trans b1,b2⟩
    | mp l =>
     rw [hc] at s1
     obtain ⟨b,c,es,cl,b1,b2⟩:=s1
     exact ⟨b,c,es,cl,(ρS_lt Bt 0).trans b1,b2⟩
    | mq F =>
     rw [hc] at s1
     obtain ⟨b,c,es,cl,b1,b2⟩:=s1
     exact ⟨b,c,es,cl,(ρS_lt Bt 0).trans b1,b2⟩
    | mr l sn =>
     rw [hc] at s1
     obtain ⟨b,c,es,cl,b1,q1,q2,q3,q4,b2,c2,sn2,g2,q5⟩:=s1
     exact ⟨b,c,es,cl,(ρS_lt Bt 0).trans b1,q1,q2,q3,q4,b2,c2,sn2,(ρS_lt Bt 1).trans g2,q5⟩
    | ro cs =>
     rw [hc] at s1
     obtain ⟨b,c,us,e,fr,b1,b2⟩:=s1
     exact ⟨b,c,us,e,fr,(ρS_lt Bt 0).trans b1,b2⟩
    | rn g mm l =>
     rw [hc] at s1 hu
     obtain ⟨ob,cap,b1,b2,b2',b3,b4,b5⟩:=s1
     refine ⟨ob,cap,(ρS_lt Bt g).trans b1,b2,b2',b3,b4,fun b hb=>?_⟩
     obtain ⟨vs',ty,c1,c2,c3⟩:=b5 b hb
     exact ⟨vs',ty,c1,c2,fun j x q α y1 y2=>let ⟨u,z1,z2⟩:=c3 j x q α y1 y2;⟨u,z1,Et (hu x (zla y1) α (zla y2)) z2⟩⟩
    | sb T e g bs =>
     rw [hc] at s1
     obtain ⟨b,c,p,v,b1,b2,b3,b4,b5,⟨y,b6⟩,b7⟩:=s1
     exact ⟨b,c,p,v,(ρS_lt Bt 0).trans b1,b2,b3,b4,b5,⟨y,(ρS_lt Bt g).trans b6⟩,fun x hx=>⟨(b7 x hx).1,let ⟨c2,q⟩:=(b7 x hx).2;⟨c2,(ρS_lt Bt g).trans q⟩⟩⟩
  .obtain ⟨i,rfl⟩:∃i,k=n+i:=⟨k - n,by omega⟩
   rcases znb i outs.length with hi | hi
   .have ho:outs[i]?=some outs[i]:=zlg hi
    have JP:i<sel.length:=by rw [M.len];exact hi
    have EG:sel[i]?=some sel[i]:=zlg JP
    rw [CB (m:=outs[i].1) (l:=outs[i].2) ho]
    cases FI:sel[i] with
    | none =>
     rw [FI] at EG
     obtain ⟨m2,q⟩:=M.no i EG
     rw [ho] at q
     have q:outs[i]=(m2,[]):=Option.some.inj q
     rw [q]
     exact ⟨none,0,ρS_none EG,by simp,by simp [maxLen],fun j e h=>by simp at h,fun _=>rfl,fun b hb=>by cases hb⟩
    | some p =>
     obtain ⟨k2,g2⟩:=p
     rw [FI] at EG
     obtain ⟨_,m2,l2,q1,q2⟩:=M.ge i k2 g2 EG
     rw [ho] at q1
     have q1:outs[i]=(m2,l2):=Option.some.inj q1
     have s1:=a2.ch k2
     rw [q2] at s1
     rw [q1]
     obtain ⟨ob,cap,b1,b2⟩:=s1
     exact ⟨ob,cap,(ρS_new EG).trans b1,b2⟩
   .rw [Dp (by omega),BP _ (by omega)]
    trivial
 .obtain ⟨k2,g2,x1,x2,x3,x4⟩:=Eh k g b c q1 q3
  obtain ⟨k2',g2',y1,y2,y3,y4⟩:=Eh k' g' b c' q2 q4
  have e3:=a2.inj k2 k2' g2 g2' b c c' x1 y1 x2 y2
  subst e3
  rcases znb k n with Bt | Bt<;>rcases znb k' n with Ee | Ee
  .rw [←x3 Bt,←y3 Ee]
  .obtain ⟨i,_,JK⟩:=y4 Ee
   have:=(M.ge i k2 g2' JK).1
   have:=x3 Bt
   omega
  .obtain ⟨i,_,JK⟩:=x4 Bt
   have:=(M.ge i k2 g2 JK).1
   have:=y3 Ee
   omega
  .obtain ⟨i,rfl,JK⟩:=x4 Bt
   obtain ⟨j,rfl,hs3⟩:=y4 Ee
   rw [M.inj i j k2 g2 g2' JK hs3]
 .have Bt:¬k<n:=by omega
  have:sel[k - n]?=none:=List.getElem?_eq_none (by rw [M.len];omega)
  simp [ρS,Bt,this]
 .rcases znb k n with Bt | Bt
  .rw [Co Bt] at q1
   rw [ρS_lt Bt] at q2
   exact a2.gens k g g' x (by rw [e1 k Bt];exact q1) q2
  .by_cases hg:g'=0
   .omega
   .have Ee:¬k<n:=by omega
    simp [ρS,Ee,hg] at q2
theorem ER {P : Program} {f : FuncId} {fn : Func} {k : CC} {rs : List RS} {ι : Type} (φ : ι → Prop) (ws : ι → CH) (rI : ι → AV) (hf : P.funcs[f]? = some fn) (Fn : (fn.name == "runtime.NumGoroutine") = false)
  (hc:fn.body.bind (BL P fn.ntmps)=some k.erase) (GG:MW P fn.ntmps fn.results.toList=some rs) {hp:CH} {n:Nat} {args:List AV} (Bb:Nat.ble args.length fn.ntmps=true)
  (hX:(∀k,n≤k→gc hp k=.no)→∀i,φ i→wsLt n (ws i)) (hv:(∀k,n≤k→gc hp k=.no)→vc P k ⟨Cu 0 args,hp,n⟩ (Ji rs (Rx φ fun i=>JU (ws i++hp) n [] (rI i)))) :
  AI P f hp n args (Rx φ fun i Ao n' r'=>Ao=ws i++hp∧n'=n∧r'=rI i):=by
 have Io := (by obtain ⟨c, hb, Oo⟩ := bd hc; exact ⟨fn, hf, Fn, by rw [hb]; rfl⟩ : ∃ fn, P.funcs[f]? = some fn ∧ (fn.name == "runtime.NumGoroutine") = false ∧ fn.body.isNone = false)
 refine ⟨Io,fun h ρ w vs hs ha=>?_⟩
 have hw:=fun i hi=>Hd (hX hs.free i hi)
 refine (AI.outI (outs:=[]) φ (fun i=>ws i++hp) rI (fun i hi k hk=>?_) (fun i hi k hk=>?_) (Ib hf Fn hc GG Bb (hv hs.free))).2 h ρ w vs hs ha
 .rcases D8 (ws:=ws i) (hp:=hp) k with ⟨_,e⟩ | ⟨c,hm,e⟩
  .exact .inl e
  .exact .inr (by rw [e];exact (hw i hi _ hm).2)
 .rcases D8 (ws:=ws i) (hp:=hp) k with ⟨_,e⟩ | ⟨c,hm,e⟩
  .rw [e];exact hs.free k hk
  .have:=(hw i hi _ hm).1
   omega
theorem SatH.drop {h:HP} {ρ:RO} {hp:CH} {n:Nat} {w:World} (m:SatH h ρ hp n w) (k:Nat):SatH h ρ ((k,.no)::hp) n w:=by
 have own:∀j g',(gc ((k,Ap.no)::hp) j).own g'→(gc hp j).own g':=fun j g' e=>by
  by_cases hj:k=j
  .subst hj;rw [Aj] at e;cases e
  .rw [Al hj] at e;exact e
 have Gw:∀b,A9 ρ ((k,Ap.no)::hp) b→A9 ρ hp b:=fun b ⟨j,g',c,e,r⟩=>⟨j,g',c,own j g' e,r⟩
 refine ⟨m.hh,fun j=>?_,fun j j' g1 g2 b c c' e1 e2=>m.inj j j' g1 g2 b c c' (own j g1 e1) (own j' g2 e2),fun b hb=>m.hid b (Gw b hb),fun b hb=>m.lt b (Gw b hb),m.fr,fun j g1 g2 x e r=>?_,m.gl⟩
 .by_cases hj:k=j
  .subst hj;rw [Aj];trivial
  .rw [Al hj];exact m.ch j
 .by_cases hj:k=j
  .subst hj
   rw [Aj] at e
   cases e
  .rw [Al hj] at e
   exact m.gens j g1 g2 x e r
end Go.Eng
