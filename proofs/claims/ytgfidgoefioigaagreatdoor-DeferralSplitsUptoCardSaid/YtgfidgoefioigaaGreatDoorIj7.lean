/- Proof. Conditions: none. -/
import Derived.Test.YtgfidgoefioigaaGreatDoorIj6
open List renaming mem_iff_getElem->z2e,length_append->zu,length_take->z18,mem_of_getElem?->zq
open Nat renaming mul_comm->z1g,mul_le_mul_left->z15,add_sub_cancel_left->z2z
open List renaming getElem?_eq_some_iff->zlb,getElem?_append->zlm,length_take->zlo
namespace Go.Eng
set_option linter.all false
section
variable {P:Program} {C:Ctx}
section
variable {st:St} {h:HP} {J ρ':RO} {a a':Act} {w w':World} {k g n len nn cap:Nat} {l l2:List (List AV)} {env:EN} {hp:CH} {d:Option Nat} {t u ty e:TypeId} {i:TypeInfo} {z:Value}
theorem Sat.trunc (S0:Sat C st h J a w) (hk:gc st.hp k=.rw g n l) (hle:len<=l.length):Sat C ⟨st.env,(k,.rw g n (l.take len))::st.hp,st.n⟩ h J a w:=by
 have own:∀j g',(gc ((k,Ak.rw g n (l.take len))::st.hp) j).own g'->(gc st.hp j).own g':=fun j g' e=>by
  by_cases hj:k=j
  .subst hj;rw [Ah] at e;rw [hk];exact e
  .rw [Am hj] at e;exact e
 have G1:∀b,AI J ((k,Ak.rw g n (l.take len))::st.hp) b->AI J st.hp b:=fun b ⟨j,g',c,e,r⟩=>⟨j,g',c,own j g' e,r⟩
 refine ⟨S0.hle,S0.rle,S0.keep,fun b hb=>S0.own b (G1 b hb),⟨S0.mem.hh,fun j=>?_,fun j j' g1 g2 b c c' e1 e2=>S0.mem.inj j j' g1 g2 b c c' (own j g1 e1) (own j' g2 e2),fun b hb=>S0.mem.hid b (G1 b hb),fun b hb=>S0.mem.lt b (G1 b hb),S0.mem.fr,fun j g1 g2 x e r=>?_,S0.mem.gl⟩,S0.env,S0.size,S0.defers⟩
 .by_cases hj:k=j
  .subst hj
   rw [Ah]
   have hc:=S0.mem.ch k
   rw [hk] at hc
   obtain ⟨ob,cap,h1,h2,EY,h3,h4,h5⟩:=hc
   refine ⟨ob,cap,h1,by rw [zlo];omega,EY,fun j e he=>h3 j e (Bu he).1,h4,fun b hb=>?_⟩
   obtain ⟨vs,e,z1,z2,z3⟩:=h5 b hb
   exact ⟨vs,e,z1,z2,fun j x q U g1 g2=>z3 j x q U (Bu g1).1 g2⟩
  .rw [Am hj];exact S0.mem.ch j
 .by_cases hj:k=j
  .subst hj
   rw [Ah] at e
   exact S0.mem.gens k g1 g2 x (by rw [hk];exact e) r
  .rw [Am hj] at e
   exact S0.mem.gens j g1 g2 x e r
theorem Sat.push_in (S0:Sat C ⟨env,hp,nn⟩ h J a w) (hk:gc hp k=.rw g n l)
 (S1:Sat C ⟨EN.set env d (.rw k (g+1) len),(k,.rw (g+1) n (l++l2))::hp,nn⟩ h ρ' a' w') (hr:Ck J ρ')
 (hA:ρ' k (g+1)=J k g):Sat C ⟨EN.set env d (.rw k g len),(k,.rw g n (l++l2))::hp,nn⟩ h J a' w':=by
 have kn:k<nn:=by
  rcases Nat.lt_or_ge k nn with q | q
  .exact q
  .have hc:=S0.mem.ch k
   rw [hk] at hc
   obtain ⟨ob,cap,h1,_⟩:=hc
   rw [S0.mem.fr k g q] at h1
   cases h1
 have Do:=S1.mem.ch k
 rw [Ah] at Do
 obtain ⟨ob,cap,r1,r2,r2',r3,r4,r5⟩:=Do
 -- slots
 have slot:∀t,t<C.N->some t≠d->∃v,a'.tmps[t]?=some v∧Ba h J (ge env t) v:=fun t ht hd=>by
  obtain ⟨v0,_,q0⟩:=S0.env t ht
  obtain ⟨v,q1,q2⟩:=S1.env t ht
  have e:ge (EN.set env d (.rw k (g+1) len)) t=ge env t:=by
   cases d with
   |none=>rfl
   |some t0=>
    have:¬t0=t:=fun e=>hd (by rw [e])
    simp [EN.set,ge,this]
  rw [show ge (⟨EN.set env d (.rw k (g+1) len),(k,.rw (g+1) n (l++l2))::hp,nn⟩:St).env t=ge env t from e] at q2
  exact ⟨v,q1,Ba.back hr q0 q2⟩
 have slotd:∀t,t<C.N->some t=d->∃v,a'.tmps[t]?=some v∧Ba h ρ' (.rw k (g+1) len) v:=fun t ht hd=>by
  obtain ⟨v,q1,q2⟩:=S1.env t ht
  subst hd
  refine ⟨v,q1,?_⟩
  have e:ge (EN.set env (some t) (.rw k (g+1) len)) t=.rw k (g+1) len:=by simp [EN.set,ge]
  rw [show ge (⟨EN.set env (some t) (.rw k (g+1) len),(k,.rw (g+1) n (l++l2))::hp,nn⟩:St).env t=_ from e] at q2
  exact q2
 have BG:∀j,j≠k->(gc hp j).sat h J w' j:=fun j hj=>by
  have h1:=S1.mem.ch j
  rw [Am (fun e=>hj e.symm)] at h1
  exact Ak.back hr (S0.mem.ch j) h1
 have ownI:∀j g' b c,(gc hp j).own g'->J j g'=some (some b,c)->j≠k->AI ρ' ((k,.rw (g+1) n (l++l2))::hp) b:=fun j g' b c e r hj=>⟨j,g',c,by rw [Am (fun e=>hj e.symm)];exact e,hr _ _ _ r⟩
 rw [hA] at r1
 have own:∀j g',(gc ((k,Ak.rw g n (l++l2))::hp) j).own g'->(gc hp j).own g':=fun j g' e=>by
  by_cases hj:k=j
  .subst hj;rw [Ah] at e;rw [hk];exact e
  .rw [Am hj] at e;exact e
 have G1:∀b,AI J ((k,Ak.rw g n (l++l2))::hp) b->AI J hp b:=fun b ⟨j,g',c,e,r⟩=>⟨j,g',c,own j g' e,r⟩
 refine ⟨S0.hle,S0.rle,S1.keep,fun b hb=>S0.own b (G1 b hb),⟨S1.mem.hh,fun j=>?_,fun j j' g1 g2 b c c' e1 e2=>S0.mem.inj j j' g1 g2 b c c' (own j g1 e1) (own j' g2 e2),fun b hb=>S0.mem.hid b (G1 b hb),fun b hb=>?_,S0.mem.fr,fun j g1 g2 x e r=>?_,S1.mem.gl⟩,fun t ht=>?_,S1.size,S1.defers⟩
 .by_cases hj:k=j
  .subst hj
   rw [Ah]
   exact ⟨ob,cap,r1,r2,r2',r3,r4,r5⟩
  .rw [Am hj];exact BG j (fun e=>hj e.symm)
 .obtain ⟨j,g',c,e,r⟩:=hb
  by_cases hj:k=j
  .subst hj
   rw [Ah] at e
   cases e
   exact S1.mem.lt b ⟨k,g+1,c,by rw [Ah];rfl,by rw [hA];exact r⟩
  .rw [Am hj] at e
   exact S1.mem.lt b (ownI j g' b c e r (fun e=>hj e.symm))
 .by_cases hj:k=j
  .subst hj
   rw [Ah] at e
   exact S0.mem.gens k g1 g2 x (by rw [hk];exact e) r
  .rw [Am hj] at e
   exact S0.mem.gens j g1 g2 x e r
 .by_cases hd:some t=d
  .obtain ⟨v,q1,q2⟩:=slotd t ht hd
   subst hd
   refine ⟨v,q1,?_⟩
   have e:ge (EN.set env (some t) (.rw k g len)) t=.rw k g len:=by simp [EN.set,ge]
   rw [show ge (⟨EN.set env (some t) (.rw k g len),(k,.rw g n (l++l2))::hp,nn⟩:St).env t=_ from e]
   cases q2 with
   |pu _ _ p=>cases p
   |rw _ _ _ cp aa ob2 f1 f2 f3=>exact .rw _ _ _ cp aa ob2 (by rw [<-hA];exact f1) f2 f3
  .obtain ⟨v,q1,q2⟩:=slot t ht hd
   refine ⟨v,q1,?_⟩
   have e:ge (EN.set env d (.rw k g len)) t=ge env t:=by
    cases d with
    |none=>rfl
    |some t0=>
     have:¬t0=t:=fun e=>hd (by rw [e])
     simp [EN.set,ge,this]
   rw [show ge (⟨EN.set env d (.rw k g len),(k,.rw g n (l++l2))::hp,nn⟩:St).env t=_ from e]
   exact q2
theorem Sat.push_new (S0:Sat C ⟨env,hp,nn⟩ h J a w) (hk:gc hp k=.rw g n l)
 (S1:Sat C ⟨EN.set env d (.rw k (g+1) len),(k,.rw (g+1) n (l++l2))::hp,nn⟩ h ρ' a' w') (hr:Ck J ρ')
 (E2:∀b,b<w.heap.size->w'.heap[b]?=w.heap[b]?) (Gw:∀b c,ρ' k (g+1)=some (some b,c)->w.heap.size<=b) {k0:Nat} (JY:∀g,J k0 g=none) :
 ∃ρ2,Fr J ρ2 k0∧Ck J ρ2∧Sat C ⟨EN.set env d (.rw k0 0 len),(k0,.rw 0 n (l++l2))::hp,max nn (k0+1)⟩ h ρ2 a' w':=by
 have kn:k<nn:=by
  rcases Nat.lt_or_ge k nn with q | q
  .exact q
  .have hc:=S0.mem.ch k
   rw [hk] at hc
   obtain ⟨ob,cap,h1,_⟩:=hc
   rw [S0.mem.fr k g q] at h1
   cases h1
 have Do:=S1.mem.ch k
 rw [Ah] at Do
 obtain ⟨ob,cap,r1,r2,r2',r3,r4,r5⟩:=Do
 -- slots
 have slot:∀t,t<C.N->some t≠d->∃v,a'.tmps[t]?=some v∧Ba h J (ge env t) v:=fun t ht hd=>by
  obtain ⟨v0,_,q0⟩:=S0.env t ht
  obtain ⟨v,q1,q2⟩:=S1.env t ht
  have e:ge (EN.set env d (.rw k (g+1) len)) t=ge env t:=by
   cases d with
   |none=>rfl
   |some t0=>
    have:¬t0=t:=fun e=>hd (by rw [e])
    simp [EN.set,ge,this]
  rw [show ge (⟨EN.set env d (.rw k (g+1) len),(k,.rw (g+1) n (l++l2))::hp,nn⟩:St).env t=ge env t from e] at q2
  exact ⟨v,q1,Ba.back hr q0 q2⟩
 have slotd:∀t,t<C.N->some t=d->∃v,a'.tmps[t]?=some v∧Ba h ρ' (.rw k (g+1) len) v:=fun t ht hd=>by
  obtain ⟨v,q1,q2⟩:=S1.env t ht
  subst hd
  refine ⟨v,q1,?_⟩
  have e:ge (EN.set env (some t) (.rw k (g+1) len)) t=.rw k (g+1) len:=by simp [EN.set,ge]
  rw [show ge (⟨EN.set env (some t) (.rw k (g+1) len),(k,.rw (g+1) n (l++l2))::hp,nn⟩:St).env t=_ from e] at q2
  exact q2
 have BG:∀j,j≠k->(gc hp j).sat h J w' j:=fun j hj=>by
  have h1:=S1.mem.ch j
  rw [Am (fun e=>hj e.symm)] at h1
  exact Ak.back hr (S0.mem.ch j) h1
 have ownI:∀j g' b c,(gc hp j).own g'->J j g'=some (some b,c)->j≠k->AI ρ' ((k,.rw (g+1) n (l++l2))::hp) b:=fun j g' b c e r hj=>⟨j,g',c,by rw [Am (fun e=>hj e.symm)];exact e,hr _ _ _ r⟩
 have E4:¬k0=k:=fun e=>by
  have hc:=S0.mem.ch k
  rw [hk] at hc
  obtain ⟨ob,cap,h1,_⟩:=hc
  rw [<-e,JY g] at h1
  cases h1
 have VR:Ck J (By J k0 0 (ob,cap)):=BT _ (JY 0)
 have old:∀j g' b c,(gc hp j).own g'->J j g'=some (some b,c)->b<w.heap.size:=fun j g' b c e r=>S0.mem.lt b ⟨j,g',c,e,r⟩
 have get:∀j g' b c,(gc ((k0,Ak.rw 0 n (l++l2))::hp) j).own g'->By J k0 0 (ob,cap) j g'=some (some b,c)->(j=k0∧g'=0∧ob=some b)∨(j≠k0∧(gc hp j).own g'∧J j g'=some (some b,c)):=fun j g' b c e r=>by
  by_cases hj:k0=j
  .subst hj
   rw [Ah] at e
   cases e
   rw [A0] at r
   cases r
   exact .inl ⟨rfl,rfl,rfl⟩
  .rw [Am hj] at e
   rw [AY _ _ (fun e=>hj e.symm)] at r
   exact .inr ⟨fun e=>hj e.symm,e,r⟩
 have hob:∀b,ob=some b->w.heap.size<=b:=fun b e=>Gw b cap (by rw [r1,e])
 have lvn:∀b,ob=some b->AI ρ' ((k,.rw (g+1) n (l++l2))::hp) b:=fun b e=>⟨k,g+1,cap,by rw [Ah];rfl,by rw [r1,e]⟩
 refine ⟨By J k0 0 (ob,cap),Fr.new _ _ _ _,VR,S0.hle,S0.rle.trans VR,S1.keep,fun b hb=>?_,⟨S1.mem.hh,fun j=>?_,fun j j' g1 g2 b c c' e1 e2 q1 q2=>?_,fun b hb=>?_,fun b hb=>?_,fun j g' hj=>?_,fun j g1 g2 x e r=>?_,S1.mem.gl⟩,fun t ht=>?_,S1.size,S1.defers⟩
 .obtain ⟨j,g',c,e,r⟩:=hb
  rcases get j g' b c e r with ⟨_,_,q⟩ | ⟨_,q1,q2⟩
  .exact S1.own b (lvn b q)
  .exact S0.own b ⟨j,g',c,q1,q2⟩
 .by_cases hj:k0=j
  .subst hj
   rw [Ah]
   exact ⟨ob,cap,A0 _ _ _ _,r2,r2',r3,r4,r5⟩
  .rw [Am hj]
   by_cases hjk:j=k
   .subst hjk
    have hc:=S0.mem.ch j
    rw [hk] at hc ⊢
    obtain ⟨o7,i6,h1,h2,EY,h3,h4,h5⟩:=hc
    refine ⟨o7,i6,VR _ _ _ h1,h2,EY,h3,h4,fun b hb=>?_⟩
    obtain ⟨vs,e,z1,z2,z3⟩:=h5 b hb
    refine ⟨vs,e,?_,z2,z3⟩
    rw [E2 b (old j g b i6 (by rw [hk];rfl) (by rw [h1,hb]))]
    exact z1
   .have hs:=BG j hjk
    exact Ak.sat_mono (BQ.refl _) VR (fun _ _ _ _ _=>rfl) hs
 .rcases get j g1 b c e1 q1 with ⟨a1,a2,a3⟩ | ⟨a1,a2,a3⟩<;>rcases get j' g2 b c' e2 q2 with ⟨b1,b2,b3⟩ | ⟨b1,b2,b3⟩
  .rw [a1,b1]
  .have:=hob b a3;have:=old j' g2 b c' b2 b3;omega
  .have:=hob b b3;have:=old j g1 b c a2 a3;omega
  .exact S0.mem.inj j j' g1 g2 b c c' a2 b2 a3 b3
 .obtain ⟨j,g',c,e,r⟩:=hb
  rcases get j g' b c e r with ⟨_,_,q⟩ | ⟨_,q1,q2⟩
  .exact S1.mem.hid b (lvn b q)
  .exact S0.mem.hid b ⟨j,g',c,q1,q2⟩
 .obtain ⟨j,g',c,e,r⟩:=hb
  rcases get j g' b c e r with ⟨_,_,q⟩ | ⟨_,q1,q2⟩
  .exact S1.mem.lt b (lvn b q)
  .have q:=S0.mem.lt b ⟨j,g',c,q1,q2⟩
   have q':=E2 b q
   rw [Array.getElem?_eq_getElem q] at q'
   exact (Array.getElem?_eq_some_iff.1 q').1
 .have hj:max nn (k0+1)<=j:=hj
  rw [AY _ _ (by omega)]
  exact S0.mem.fr j g' (show nn<=j by omega)
 .by_cases hj:k0=j
  .subst hj
   rw [Ah] at e
   cases e
   by_cases h0:g2=0
   .omega
   .unfold By at r
    rw [if_neg (by omega),JY g2] at r
    cases r
  .rw [Am hj] at e
   rw [AY _ _ (fun e=>hj e.symm)] at r
   exact S0.mem.gens j g1 g2 x e r
 .by_cases hd:some t=d
  .obtain ⟨v,q1,q2⟩:=slotd t ht hd
   subst hd
   refine ⟨v,q1,?_⟩
   have e:ge (EN.set env (some t) (.rw k0 0 len)) t=.rw k0 0 len:=by simp [EN.set,ge]
   rw [show ge (⟨EN.set env (some t) (.rw k0 0 len),(k0,.rw 0 n (l++l2))::hp,max nn (k0+1)⟩:St).env t=_ from e]
   cases q2 with
   |pu _ _ p=>cases p
   |rw _ _ _ cp aa ob2 f1 f2 f3=>
    rw [r1] at f1
    cases f1
    exact .rw _ _ _ _ aa _ (A0 _ _ _ _) f2 f3
  .obtain ⟨v,q1,q2⟩:=slot t ht hd
   refine ⟨v,q1,?_⟩
   have e:ge (EN.set env d (.rw k0 0 len)) t=ge env t:=by
    cases d with
    |none=>rfl
    |some t0=>
     have:¬t0=t:=fun e=>hd (by rw [e])
     simp [EN.set,ge,this]
   rw [show ge (⟨EN.set env d (.rw k0 0 len),(k0,.rw 0 n (l++l2))::hp,max nn (k0+1)⟩:St).env t=_ from e]
   exact q2.mono (BQ.refl _) VR
theorem Sat.congrC {Al:CH} (s:Sat C ⟨env,hp,nn⟩ h J a w) (e:∀j,gc Al j=gc hp j):Sat C ⟨env,Al,nn⟩ h J a w:=by
 have hl:∀b,AI J Al b->AI J hp b:=fun b ⟨j,g,c,q,r⟩=>⟨j,g,c,by rw [<-e];exact q,r⟩
 exact ⟨s.hle,s.rle,s.keep,fun b hb=>s.own b (hl b hb),⟨s.mem.hh,fun j=>by rw [e j];exact s.mem.ch j,fun j j' g g' b c c' q q'=>s.mem.inj j j' g g' b c c' (by rw [<-e];exact q) (by rw [<-e];exact q'),fun b hb=>s.mem.hid b (hl b hb),fun b hb=>s.mem.lt b (hl b hb),s.mem.fr,fun j g g' x q r=>s.mem.gens j g g' x (by rw [<-e];exact q) r,s.mem.gl⟩,s.env,s.size,s.defers⟩
theorem SatH.recastC (m:SatH h J hp nn w) (c':Ak) (ho:∀g,c'.own g->(gc hp k).own g) (hg:c'.rgen=(gc hp k).rgen) (hs:c'.sat h J w k):SatH h J ((k,c')::hp) nn w:=by
 have own:∀j g',(gc ((k,c')::hp) j).own g'->(gc hp j).own g':=fun j g' e=>by
  by_cases hj:k=j
  .subst hj;rw [Ah] at e;exact ho g' e
  .rw [Am hj] at e;exact e
 have G1:∀b,AI J ((k,c')::hp) b->AI J hp b:=fun b ⟨j,g',c,e,r⟩=>⟨j,g',c,own j g' e,r⟩
 refine ⟨m.hh,fun j=>?_,fun j j' g1 g2 b c c' e1 e2=>m.inj j j' g1 g2 b c c' (own j g1 e1) (own j' g2 e2),fun b hb=>m.hid b (G1 b hb),fun b hb=>m.lt b (G1 b hb),m.fr,fun j g1 g2 x e r=>?_,m.gl⟩
 .by_cases hj:k=j
  .subst hj;rw [Ah];exact hs
  .rw [Am hj];exact m.ch j
 .by_cases hj:k=j
  .subst hj
   rw [Ah] at e
   exact m.gens k g1 g2 x (by rw [<-hg];exact e) r
  .rw [Am hj] at e
   exact m.gens j g1 g2 x e r
theorem O0 {c':Ak} (ho:∀g,c'.own g->(gc hp k).own g) {b:Nat} (hb:AI J ((k,c')::hp) b):AI J hp b:=by
 obtain ⟨j,g',c,e,r⟩:=hb
 refine ⟨j,g',c,?_,r⟩
 by_cases hj:k=j
 .subst hj;rw [Ah] at e;exact ho g' e
 .rw [Am hj] at e;exact e
theorem Sat.recastC (s:Sat C ⟨env,hp,nn⟩ h J a w) (c':Ak) (ho:∀g,c'.own g->(gc hp k).own g) (hg:c'.rgen=(gc hp k).rgen) (hs:c'.sat h J w k):Sat C ⟨env,(k,c')::hp,nn⟩ h J a w :=
 ⟨s.hle,s.rle,s.keep,fun b hb=>s.own b (O0 ho hb),s.mem.recastC c' ho hg hs,s.env,s.size,s.defers⟩
theorem Je (s:(Ak.rc g n cap l).sat h J w k) (hle:len<=l.length):(Ak.rw g n (l.take len)).sat h J w k:=by
 obtain ⟨ob,h1,h2,EY,h3,h4,h5⟩:=s
 refine ⟨ob,cap,h1,by rw [zlo];omega,EY,fun j e he=>h3 j e (Bu he).1,h4,fun b hb=>?_⟩
 obtain ⟨vs,e,z1,z2,z3⟩:=h5 b hb
 exact ⟨vs,e,z1,z2,fun j x q U g1 g2=>z3 j x q U (Bu g1).1 g2⟩
theorem Jp {ob:Option Nat} (s:(Ak.rw g n l).sat h J w k) (hr:J k g=some (ob,cap)):(Ak.rc g n cap l).sat h J w k:=by
 obtain ⟨o7,i6,h1,hx⟩:=s
 rw [hr] at h1
 cases h1
 exact ⟨ob,hr,hx⟩
theorem WZ {P:Program} {C:Ctx} (S:Sat C st h J a w) {d:TypeDesc}
 (ht:P.underlying t=some (.slice e)) (hu:P.underlying u=some d) (hd:∀k,d≠.int k) (hi:P.info? e=some i) (hz:i.zero=some z) (Hs:z.cells.size=i.size)
 {x:AV} {xv yv:Value} (rx:Ba h J x xv) {l2:List (List AV)} {d7:List Value}
 (Bn:∀w':World,w'.heap=w.heap->(Builtin.lenOf yv).run P w'=.ok l2.length w') (Gw:∀w':World,w'.heap=w.heap->(Builtin.firstCells i.size l2.length yv).run P w'=.ok d7.toArray w')
 (O2:d7.length=l2.length*i.size) (BG:∀e∈l2,e.length=i.size) (l6:∀(j:Nat) e (q:Nat) x,l2[j]?=some e->e[q]?=some x->∃u,d7[i.size*j+q]?=some u∧Bq h x u) (FK:∀v∈d7,v.oneCell'=true)
 (EB:(C1 x+l2.length)*i.bytes<=140737488355328) (Wb:C1 x+l2.length<=9223372036854775807) {k0:Nat} (Ia:∀g,J k0 g=none)
 {k g len cap:Nat} {l:List (List AV)} (hx:x=.rw k g len) (hk:gc st.hp k=.rc g i.size cap l) (hle:len<=l.length)
 {U:AV} {kc:Nat×Ak} {nx':Nat} (IG:(U,kc,nx')=if len+l2.length<=cap then (AV.rw k g (len+l2.length),(k,Ak.rc g i.size cap (l.take len++l2)),st.n) else (AV.rw k0 0 (len+l2.length),(k0,Ak.rw 0 i.size (l.take len++l2)),max st.n (k0+1))) :
 ∃v w',(Builtin.append_ #[t,u] ty #[xv,yv]).run P w=.ok v w'∧∀dd,∃ρ',Fr J ρ' k0∧Sat C ⟨EN.set st.env dd U,kc::st.hp,nx'⟩ h ρ' (a.put dd v) w'∧Ck J ρ':=by
 obtain ⟨env,hp,nn⟩:=st
 have hk:gc hp k=.rc g i.size cap l:=hk
 have hch:=S.mem.ch k
 rw [show gc (⟨env,hp,nn⟩:St).hp k=.rc g i.size cap l from hk] at hch
 have hch0:=hch
 obtain ⟨ob,r1,r2,r2',r3,r4,r5⟩:=hch0
 have S':Sat C ⟨env,(k,.rw g i.size (l.take len))::hp,nn⟩ h J a w:=S.recastC (k:=k) (.rw g i.size (l.take len)) (fun g' e=>by rw [hk];exact e) (by rw [hk];rfl) (Je hch hle)
 have hln:(l.take len).length=len:=by rw [zlo];omega
 obtain ⟨v,w',BE,DH⟩:=OX (nb:=false) (P:=P) S' (ty:=ty) ht hu hd hi hz Hs rx Bn Gw O2 BG l6 FK EB Wb Ia
  (U:=.rw k (g+1) (len+l2.length)) (kc:=(k,.rw (g+1) i.size (l.take len++l2))) (nx':=nn) (by
   subst hx
   simp only [Qp,Ah,XH,hln,G9]
   rfl)
 refine ⟨v,w',BE,fun dd=>?_⟩
 obtain ⟨ρ1,O7,S1,hO⟩:=DH dd
 have hcp:=hO.2 k g len ob cap hx r1
 by_cases hc:len+l2.length<=cap
 .rw [if_pos hc] at IG
  cases IG
  have S2:=S'.push_in Ah S1 hO.1 (hcp.1 hc)
  have hw:=S2.mem.ch k
  rw [show gc (⟨EN.set env dd (.rw k g (len+l2.length)),(k,.rw g i.size (l.take len++l2))::(k,.rw g i.size (l.take len))::hp,nn⟩:St).hp k=.rw g i.size (l.take len++l2) from Ah] at hw
  have S3:=S2.recastC (k:=k) (.rc g i.size cap (l.take len++l2)) (fun g' e=>by rw [Ah];exact e) (by rw [Ah];rfl) (Jp hw r1)
  refine ⟨J,Fr.refl _ _,S3.congrC fun j=>?_,Ck.refl _⟩
  by_cases hj:k=j
  .subst hj;rw [Ah,Ah]
  .rw [Am hj,Am hj,Am hj,Am hj]
 .rw [if_neg hc] at IG
  cases IG
  obtain ⟨E2,hnew'⟩:=hcp.2 (by omega)
  obtain ⟨ρ2,IP,Nw,S2⟩:=S'.push_new Ah S1 hO.1 E2 hnew' Ia
  have E4:¬k0=k:=fun e=>by rw [<-e,Ia g] at r1;cases r1
  have hrc:(Ak.rc g i.size cap l).sat h ρ2 w' k:=by
   refine ⟨ob,Nw _ _ _ r1,r2,r2',r3,r4,fun b hb=>?_⟩
   obtain ⟨vs,e,z1,z2⟩:=r5 b hb
   have BY:b<w.heap.size:=S.mem.lt b ⟨k,g,cap,by rw [show gc (⟨env,hp,nn⟩:St).hp k=.rc g i.size cap l from hk];rfl,by rw [r1,hb]⟩
   exact ⟨vs,e,by rw [E2 b BY];exact z1,z2⟩
  have S3:=S2.recastC (k:=k) (.rc g i.size cap l) (fun g' e=>by rw [Am E4,Ah];exact e) (by rw [Am E4,Ah];rfl) hrc
  refine ⟨ρ2,IP,S3.congrC fun j=>?_,Nw⟩
  by_cases hj:k=j
  .subst hj;rw [Am E4,Ah,hk]
  .by_cases hj0:k0=j
   .subst hj0;rw [Ah,Am hj,Ah]
   .rw [Am hj0,Am hj,Am hj0,Am hj]
theorem YJ {P:Program} {C:Ctx} (S:Sat C st h J a w) {d:TypeDesc}
 (ht:P.underlying t=some (.slice e)) (hu:P.underlying u=some d) (hd:∀k,d≠.int k) (hi:P.info? e=some i) (hz:i.zero=some z) (Hs:z.cells.size=i.size)
 {x:AV} {xv yv:Value} (rx:Ba h J x xv) {l2:List (List AV)} {d7:List Value}
 (Bn:∀w':World,w'.heap=w.heap->(Builtin.lenOf yv).run P w'=.ok l2.length w') (Gw:∀w':World,w'.heap=w.heap->(Builtin.firstCells i.size l2.length yv).run P w'=.ok d7.toArray w')
 (O2:d7.length=l2.length*i.size) (BG:∀e∈l2,e.length=i.size) (l6:∀(j:Nat) e (q:Nat) x,l2[j]?=some e->e[q]?=some x->∃u,d7[i.size*j+q]?=some u∧Bq h x u) (FK:∀v∈d7,v.oneCell'=true)
 (EB:(C1 x+l2.length)*i.bytes<=140737488355328) (Wb:C1 x+l2.length<=9223372036854775807) {k0:Nat} (Ia:∀g,J k0 g=none)
 {k g off len cap:Nat} {l:List (List AV)} (hx:x=.rf k g i.size off len) (hk:gc st.hp k=.rc g i.size cap l) (hle:off+len<=l.length) (h0:0<l2.length)
 {U:AV} {kc:Nat×Ak} {nx':Nat} (IG:(U,kc,nx')=if off+len+l2.length<=cap then (AV.rf k g i.size off (len+l2.length),(k,Ak.rc g i.size cap (l.take (off+len)++l2)),st.n) else (AV.rf k0 0 i.size 0 (len+l2.length),(k0,Ak.rw 0 i.size ((l.drop off).take len++l2)),max st.n (k0+1))) :
 ∃v w',(Builtin.append_ #[t,u] ty #[xv,yv]).run P w=.ok v w'∧∀dd,∃ρ',Fr J ρ' k0∧Sat C ⟨EN.set st.env dd U,kc::st.hp,nx'⟩ h ρ' (a.put dd v) w'∧Ck J ρ':=by
 obtain ⟨env,hp,nn⟩:=st
 have hk:gc hp k=.rc g i.size cap l:=hk
 have hch:=S.mem.ch k
 rw [show gc (⟨env,hp,nn⟩:St).hp k=.rc g i.size cap l from hk] at hch
 have hch0:=hch
 obtain ⟨ob,r1,r2,r2',r3,r4,r5⟩:=hch0
 subst hx
 have hls : ∀ e ∈ l, e.length = i.size := fun e he => by
  obtain ⟨j,hj,rfl⟩:=z2e.1 he
  exact r3 j _ (by simp [hj])
 have rx0:=rx
 generalize TS:cap - len=junk at rx0
 cases rx with
 | pu _ _ p => cases p
 |rf _ _ _ _ _ i6 ad o7 e1 OD ha=>
  rw [r1] at e1
  cases e1
  by_cases hc:off+len+l2.length<=cap
  .rw [if_pos hc] at IG
   cases IG
   obtain ⟨b,rfl⟩:∃b,ob=some b:=by
    cases ob with
    | none => have := r4 rfl; omega
    | some b => exact ⟨b, rfl⟩
   have had:=ha b rfl (by omega)
   subst had
   obtain ⟨old,te,a1,a2,a3⟩:=r5 b rfl
   have AL:AI J hp b:=⟨k,g,cap,by rw [hk];rfl,r1⟩
   have HZ:i.size*off+len*i.size=i.size*(off+len):=by rw [Nat.mul_add,z1g len]
   have hroom:i.size*(off+len)+d7.length<=old.size:=by
    rw [O2,a2,z1g i.size,<-Nat.add_mul]
    exact Nat.mul_le_mul_right _ hc
   have Db:=run_storeCells_at (P:=P) b (i.size*(off+len)) te d7 0 old w a1 (by omega) FK
   simp only [Nat.add_zero] at Db
   have BE:=Fe (w:=w) (ty:=ty) ht hu hd hi (Bn w rfl) (Gw w rfl) (base:=some ⟨b,i.size*off,none⟩) (sLen:=len) (sCap:=cap - off) (by omega)
    (fun a' VA=>by cases VA;rw [Addr.add_lit,HZ];exact Db) (fun hx=>by cases hx)
   refine ⟨_,_,BE,fun dd=>⟨J,Fr.refl _ _,?_,Ck.refl _⟩⟩
   refine S.step (BQ.refl _) (Ck.refl _) ?_ (Keeps.setRow _ _ _ AL) (fun b2 ER=>.inl ?_) dd (.rf _ _ _ _ _ _ _ (some b) r1 (by omega) (fun b2 ER _=>by cases ER;rfl))
   .refine S.mem.put k _ (Ck.refl _) (fun _ _ _=>rfl) (fun b2 ER hx=>?_) (by simp) ?_ ?_ S.mem.fr ?_
    .apply setRow_other
     intro e2
     subst e2
     rcases hx with hx | ⟨k2,g2,c2,s6,w8,Nw⟩
     .exact hx (S.mem.hid _ AL)
     .exact s6 (S.mem.inj k2 k g2 g _ _ _ w8 (by show (gc hp k).own _;rw [hk];rfl) Nw r1)
    .refine ⟨some b,r1,by rw [zu,z18];omega,r2',fun j y hy=>?_,(fun hx=>by cases hx),fun b2 ER=>?_⟩
     .rw [List.getElem?_append] at hy
      split at hy
      .exact r3 j y (Bu hy).1
      .exact BG y (zq hy)
     .cases ER
      refine ⟨_,te,setRow_heap w b old _ te _ a1,?_,fun j y q β g1 g2=>?_⟩
      .simp
       omega
      .have hy:y.length=i.size:=by
        rw [zlm] at g1
        split at g1
        .exact r3 j y (Bu g1).1
        .exact BG y (zq g1)
       have hq:q<i.size:=by have:=(List.getElem?_eq_some_iff.1 g2).1;omega
       have w6:min (i.size*(off+len)) old.size=i.size*(off+len):=by omega
       have htl:(l.take (off+len)).length=off+len:=by rw [z18];omega
       rw [zlm,htl] at g1
       rw [List.getElem?_toArray,List.append_assoc,zlm]
       simp only [zlo,Array.length_toList,w6]
       split at g1
       .rename_i hj
        have BY:i.size*j+q<i.size*(off+len):=by
         have:i.size*j+i.size<=i.size*(off+len):=by rw [<-Nat.mul_succ];exact z15 _ hj
         omega
        rw [if_pos BY,List.getElem?_take,if_pos BY]
        obtain ⟨v,z1,z2⟩:=a3 j y q β (Bu g1).1 g2
        exact ⟨v,by simpa using z1,z2⟩
       .rename_i hj
        obtain ⟨v,z1,z2⟩:=l6 (j - (off+len)) y q β g1 g2
        have e1:i.size*j+q=i.size*(off+len)+(i.size*(j - (off+len))+q):=by
         rw [Nat.mul_sub]
         have:i.size*(off+len)<=i.size*j:=z15 _ (by omega)
         omega
        have BY:i.size*(j - (off+len))+q<d7.length:=(zlb.1 z1).1
        refine ⟨v,?_,z2⟩
        rw [if_neg (by omega),List.getElem?_append,if_pos (by omega),e1,z2z]
        exact z1
    .intro g2 b2 c2 w8 Nw
     cases w8
     rw [r1] at Nw
     cases Nw
     refine ⟨S.mem.hid _ AL,by simpa using S.mem.lt _ AL,fun k2 g3 c3 s6 hg3 hr3=>?_⟩
     exact s6 (S.mem.inj k2 k g3 g _ _ _ hg3 (by show (gc hp k).own _;rw [hk];rfl) hr3 r1)
    .intro g2 g' y e1 hr
     cases e1
     exact S.mem.gens k g g' y (by show (gc hp k).rgen=_;rw [hk];rfl) hr
   .obtain ⟨k',g',c3,D2,ES⟩:=ER
    by_cases E4:k=k'
    .subst E4
     rw [Ah] at D2
     exact ⟨k,g',c3,by show (gc hp k).own _;rw [hk];exact D2,ES⟩
    .rw [Am E4] at D2
     exact ⟨k',g',c3,D2,ES⟩
  .rw [if_neg hc] at IG
   cases IG
   have hW:((l.drop off).take len).length=len:=by rw [z18,List.length_drop];omega
   obtain ⟨base, i6, m7, exv, hlc', QR, E2, hoc⟩ := HV (P := P) (R := Bq h) (w := w) (v := .slice ad len (cap - off)) (l := (l.drop off).take len) ⟨ad, cap - off, by rw [hW], by omega, i.size, fun j e he => r3 (off + j) e (Bk he).1, fun H6 => by
    have HZ:0<len:=by
     rcases Nat.eq_zero_or_pos len with q | q
     .subst q;simp at H6
     .exact q
    cases ob with
    | none => have := r4 rfl; omega
    |some b=>
     obtain ⟨vs,te,a1,a2,a3⟩:=r5 b rfl
     refine ⟨b,i.size*off,ha b rfl (by omega),fun j x q y y1 y2=>?_⟩
     obtain ⟨u,z1,z2⟩:=a3 (off+j) x q y (Bk y1).1 y2
     refine ⟨u,?_,z2⟩
     rw [Nat.mul_add] at z1
     simp [World.cell?, a1, z1]⟩ (n := i.size) (fun e he => by
    obtain ⟨j,hj,rfl⟩:=z2e.1 he
    exact r3 (off+j) _ (Bk (List.getElem?_eq_getElem hj)).1)
   rw [hW] at QR E2 exv
   have hgr:cap - off<len+l2.length:=by omega
   have IK:=growslice_fits hgr EB
   have BE:=IC (w:=w) (ty:=ty) ht hu hd hi hz (Bn w rfl) (Gw w.drew rfl) (E2 w.drew rfl) hgr (by have h63':len+l2.length<=9223372036854775807:=Wb;omega) IK
   obtain ⟨c1,c2⟩:=JJ w (len+l2.length) (cap - off) e Wb
   generalize q7:grownCap w (len+l2.length) (cap - off) e=gcap at *
   refine ⟨_,_,BE,fun dd=>?_⟩
   have m0:SatH h J hp nn w.drew:=S.mem.heap rfl
   obtain ⟨m1,hr⟩:=m0.new Ia (.rw 0 i.size ((l.drop off).take len++l2)) (.cells ((m7++d7).toArray++Builtin.zeroCells z.cells (gcap - (len+l2.length))) e) gcap (by
    refine ⟨some w.heap.size,gcap,A0 _ _ _ _,by rw [zu,hW];omega,c2,fun j e he=>?_,(fun hx=>by cases hx),fun b hb=>?_⟩
    .rw [List.getElem?_append] at he
     split at he
     .exact r3 (off+j) e (Bk he).1
     .exact BG e (zq he)
    .cases hb
     refine ⟨_,_,heap_alloc_new w.drew _,?_,fun j y q β h1 h2=>?_⟩
     .simp [Builtin.zeroCells,QR,O2,Hs]
      rw [<-Nat.add_mul,<-Nat.add_mul]
      congr 1
      omega
     .have hy:y.length=i.size:=by
       rw [zlm] at h1
       split at h1
       .exact r3 (off+j) y (Bk h1).1
       .exact BG y (zq h1)
      have hq:q<i.size:=by have:=(List.getElem?_eq_some_iff.1 h2).1;omega
      have VZ:∀m,j<m->i.size*j+q<m*i.size:=by
       intro m hm
       have:i.size*j+i.size<=i.size*m:=by rw [<-Nat.mul_succ];exact z15 _ hm
       rw [z1g m]
       omega
      rw [zlm,hW] at h1
      split at h1
      .rename_i hj
       obtain ⟨v,g1,g2⟩:=hoc j y q β h1 h2
       refine ⟨v,?_,g2⟩
       have BY:i.size*j+q<m7.length:=by rw [QR];exact VZ len hj
       rw [Array.getElem?_append,if_pos (by simp;omega),List.getElem?_toArray,List.getElem?_append_left BY]
       exact g1
      .rename_i hj
       obtain ⟨v,g1,g2⟩:=l6 (j - len) y q β h1 h2
       refine ⟨v,?_,g2⟩
       have e1:i.size*j+q=len*i.size+(i.size*(j - len)+q):=by
        rw [Nat.mul_sub,z1g len]
        have:i.size*len<=i.size*j:=z15 _ (by omega)
        omega
       have BY:i.size*(j - len)+q<d7.length:=(zlb.1 g1).1
       rw [Array.getElem?_append,if_pos (by simp;omega),List.getElem?_toArray,List.getElem?_append_right (by omega),QR,e1,z2z]
       exact g1)
   refine ⟨_,Fr.new _ _ _ _,?_,hr⟩
   refine S.step (BQ.refl _) hr m1 ((Keeps.drew _ _).trans (Keeps.alloc _ _ _) (fun _ _ h=>h)) (fun b hb=>?_) dd (by
    have:=Ba.rf (h:=h) (J:=By J k0 0 (some w.drew.heap.size,gcap)) k0 0 i.size 0 (len+l2.length) gcap (some ⟨w.heap.size,0,none⟩) (some w.heap.size) (A0 _ _ _ _) (by omega) (fun b hb _=>by cases hb;rw [Nat.mul_zero])
    rw [Nat.sub_zero] at this
    exact this)
   exact B7 (B:=w.heap.size) (fun b e=>by cases e;exact Nat.le_refl _) (fun j e=>by cases e;rfl) b hb
end
end
