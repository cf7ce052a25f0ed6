/- Proof. Conditions: none. -/
import Derived.Test.YtgfidgoefioigaaGreatDoorIj36
noncomputable section
open List renaming all_eq_true->z13,length_eq_zero_iff->z26
open Bool renaming and_eq_true->zj
open Go.Proofs.Tryz
open List renaming length_append->zld
open Nat renaming le_refl->zna
namespace Go.Proofs.YtgfidgoefioigaaGreatDoor
open Go.Eng
set_option linter.all false
set_option maxRecDepth 20000
set_option maxHeartbeats 1000000
def Gp (l:List (List AV)):Prop:=∃is:List BN,l=Ab AD is∧is.length<=16∧∀x∈is,H7 x∧x.n.size<=64
structure FldB (f:Cy):Prop where
 n:f.n.size<=64
 a:Gp f.args
 tw:f.tw=Ab D0 (J0 f.tw)
 tl:f.tw.length<=24
structure DfnB (t:Aw):Prop where
 n:t.n.size<=64
 im:t.impl=Bd (Hu t.impl)
 il:(Hu t.impl).length<=64
 fl:t.fields.length<=64
 f:∀f∈t.fields,FldB f
 ml:t.members.length<=64
 m:∀e∈t.members,∃x y,e=[AV.s x,.ds y]∧x.size<=64
 i:Gp t.inputs
structure DocB (doc:List Aw):Prop where
 l:doc.length<=64
 d:∀t∈doc,DfnB t
theorem I4 {s:qB} (h:Gb s=true):s.size<=64:=by
 unfold Gb at h
 simp at h
 omega
theorem XR {l:List (List AV)} (h:Es l) (hr:N8 l=true):Gp l:=by
 obtain ⟨h1,h2,h3⟩:=Classical.choose_spec h
 have e:N8 l=isR (Classical.choose h):=by unfold N8;rw [dif_pos h]
 rw [e] at hr
 unfold isR at hr
 rw [zj,decide_eq_true_eq,z13] at hr
 refine ⟨_,h1,hr.1,fun x hx=>⟨h3 x hx,?_⟩⟩
 have:=hr.2 x hx
 unfold inA at this
 simp only [zj] at this
 exact I4 this.1.1
theorem Ng:Gp []:=⟨[],rfl,by simp,by simp⟩
theorem Aj2 {f:Cy} (h1:Es f.args) (h3:f.tw=Ab D0 (J0 f.tw)) (hr:fdR f=true):FldB f:=by
 unfold fdR at hr
 simp only [zj] at hr
 obtain ⟨a,b,c,d⟩:=hr
 refine ⟨I4 a,XR h1 b,h3,?_⟩
 unfold Oh at c
 simp only [zj,decide_eq_true_eq] at c
 have:=c.1.2
 rw [IB] at this
 exact this
theorem Aco {l:List Cy} (hd:∀f∈l,Es f.args∧f.tw=Ab D0 (J0 f.tw)) (hr:fsR l=true):l.length<=64∧∀f∈l,FldB f:=by
 unfold fsR at hr
 simp only [zj,decide_eq_true_eq,z13] at hr
 exact ⟨hr.2.1,fun f hf=>Aj2 (hd f hf).1 (hd f hf).2 (hr.2.2 f hf)⟩
theorem Aca {pl:Bool} {l:List (List AV)} (hd:∀e∈l,∃x y,e=[AV.s x,.ds y]) (hr:msR pl l=true):l.length<=64∧∀e∈l,∃x y,e=[AV.s x,.ds y]∧x.size<=64:=by
 unfold msR at hr
 simp only [zj,decide_eq_true_eq,z13] at hr
 refine ⟨hr.2.1,fun e he=>?_⟩
 obtain ⟨x,y,rfl⟩:=hd e he
 have:=hr.2.2 _ he
 unfold mbR at this
 simp only [zj] at this
 exact ⟨x,y,rfl,I4 this.1⟩
theorem Ajs {t:Aw} (h:DfnR t) (hr:YU t=true):DfnB t:=by
 unfold YU at hr
 simp only [zj,decide_eq_true_eq] at hr
 obtain ⟨⟨h1,h2,h3,h4⟩,h5⟩:=hr
 have V8:(Hu t.impl).length<=64:=by
  have:(Hu t.impl).length=t.impl.length:=List.length_map ..
  omega
 have hf:∀f∈t.fields,Es f.args∧f.tw=Ab D0 (J0 f.tw):=fun f hf=>⟨(h.w.fields f hf).1,h.tw f hf⟩
 have hm:∀e∈t.members,∃x y,e=[AV.s x,.ds y]:=h.ok.mem
 have z1:∀{l:List Cy},l.length=0->l.length<=64∧∀f∈l,FldB f:=fun e=>by
  obtain rfl:=z26.1 e
  exact ⟨by simp,by simp⟩
 have z2:∀{l:List (List AV)},l.length=0->l.length<=64∧∀e∈l,∃x y,e=[AV.s x,.ds y]∧x.size<=64:=fun e=>by
  obtain rfl:=z26.1 e
  exact ⟨by simp,by simp⟩
 have z3:∀{l:List (List AV)},l.length=0->Gp l:=fun e=>by
  obtain rfl:=z26.1 e
  exact Ng
 have key:(t.fields.length<=64∧∀f∈t.fields,FldB f)∧(t.members.length<=64∧∀e∈t.members,∃x y,e=[AV.s x,.ds y]∧x.size<=64)∧Gp t.inputs:=by
  split at h5
  .simp only [zj,decide_eq_true_eq] at h5
   exact ⟨Aco hf h5.1,z2 h5.2.1,z3 h5.2.2⟩
  split at h5
  .simp only [zj,decide_eq_true_eq] at h5
   exact ⟨Aco hf h5.2.1,z2 h5.2.2.1,z3 h5.2.2.2⟩
  split at h5
  .simp only [zj,decide_eq_true_eq] at h5
   exact ⟨z1 h5.2.1,Aca hm h5.2.2.1,z3 h5.2.2.2⟩
  split at h5
  .simp only [zj,decide_eq_true_eq] at h5
   exact ⟨z1 h5.2.1,Aca hm h5.2.2.1,z3 h5.2.2.2⟩
  split at h5
  .simp only [zj,decide_eq_true_eq] at h5
   exact ⟨z1 h5.2.1,z2 h5.2.2.1,XR h.w.inputs h5.2.2.2.2⟩
  .cases h5
 exact ⟨I4 h1,h.ok.impl,V8,key.1.1,key.1.2,key.2.1.1,key.2.1.2,key.2.2⟩
theorem Z1 {l:List Aw} (hd:∀t∈l,DfnR t) (h:(decide (1<=l.length)&&(decide (l.length<=64)&&l.all YU))=true):DocB l:=by
 simp only [zj,decide_eq_true_eq,z13] at h
 exact ⟨h.2.1,fun t ht=>Ajs (hd t ht) (h.2.2 t ht)⟩
inductive Dn where
 | mk (e:Int) (a:qB)
def Dn.e:Dn->Int | .mk e _=>e
theorem Dn.e_mk (e:Int) (a:qB):(Dn.mk e a).e=e:=rfl
def Dn.a:Dn->qB | .mk _ a=>a
theorem Dn.a_mk (e:Int) (a:qB):(Dn.mk e a).a=a:=rfl
theorem Dn.ext {x y:Dn} (h0:x.e=y.e) (h1:x.a=y.a):x=y:=by cases x;cases y;simp only [Dn.e_mk,Dn.a_mk] at *;simp [*]
def AR (x:Dn):List AV:=[.i .i64 x.e,.s x.a]
theorem R4 (l:List Dn):Ew 2 (Ab AR l)=True:=DT fun _=>⟨rfl,rfl⟩
attribute [go_sem] R4
attribute [go_sem] AR Dn.e_mk Dn.a_mk
attribute [grind =] Dn.e_mk Dn.a_mk
attribute [ext] Dn.ext
attribute [grind ext] Dn.ext
def ZT (s:qB):Bool:=decide ((2:Int)<=(s.size:Int))&&decide ((((bs s).getD 0 0).toNat:Int)=95)&&decide ((((bs s).getD 1 0).toNat:Int)=95)
theorem JK (s:qB) (hp:CH) (m:Nat):Af prog 138 hp m [.s s] (.b (ZT s)):=by
 refine Aj func138 (tA cc138) (tB cc138) (tC cc138) rfl fun hf=>?_;unfold ck138
 simp only [go_sem]
 refine ⟨fun h=>?_,fun h=>?_,rfl⟩
 .simp at h;omega
 .simp at h;omega
def YD (s:qB):Bool:=Gb s&&!ZT s
theorem KD (s:qB) (hp:CH) (m:Nat):Af prog 160 hp m [.s s] (.b (YD s)):=by
 unfold YD
 refine Aj func160 (tA cc160) (tB cc160) (tC cc160) rfl fun hf=>?_;unfold ck160
 simp only [go_sem]
 refine Ac.f (BW _ _ _) ?_
 simp only [go_sem]
 refine AH.f (fun _=>JK _ _ _) ?_
 simp only [go_sem]
theorem U8 (l:List qB) (s:qB) (hl:l.length<=1000000000000) (hp:CH) (m:Nat):Af prog 162 hp m [.ds (Bd l),.s s] (.b (decide (s∈l))):=by
 obtain ⟨R,hR⟩:=A5 (decide (s∈l))
 rw [hR]
 refine Aj func162 (tA cc162) (tB cc162) (tC cc162) rfl fun hf=>?_;unfold ck162
 simp only [go_sem]
 refine loop (fun p:Nat×Nat=>⟨[(0,.ds (Bd l)),(1,.s s),(5,.i .i64 p.1)],hp,p.2⟩) (fun p=>p.1<=l.length∧m<=p.2∧R=decide (s∈l.drop p.1)) (fun p=>l.length - p.1) (0,m) ?_ ?_ (fun ⟨j,n⟩ hj=>?_)
 .exact ⟨by simp,by simp,hR.symm⟩
 .refine Di ?_
  simp only [go_sem]
 dsimp only at hj
 obtain ⟨Cg,Bc,As⟩:=hj
 simp (disch:=omega) only [go_sem]
 refine Ae (fun q=>?_) (fun q=>?_)
 .have q:j<l.length:=by simpa using q
  obtain ⟨x,ex⟩:∃x,l[j]?=some x:=⟨l[j],by simp [q]⟩
  rw [A2 ex] at As
  simp (disch:=omega) only [q,Ad (Aa Cz ex),go_sem]
  refine Ae (fun c=>?_) (fun c=>?_)
  .have c:x=s:=by simpa using c
   have As:R=true:=by rw [As];simp [c]
   subst As
   simp (disch:=omega) only [Bc,go_sem]
  .have c:¬x=s:=by simpa using c
   have As:R=decide (s∈l.drop (j+1)):=by rw [As];simp [Ne.symm c]
   simp (disch:=omega) only [go_sem]
   refine ⟨(j+1,n),⟨by dsimp only;omega,by dsimp only;omega,As⟩,by dsimp only;omega,Di ?_⟩
   simp (disch:=omega) only [Ap j (by omega),go_sem]
 .have q:j=l.length:=by simp at q;omega
  subst q
  rw [List.drop_length] at As
  have As:R=false:=by rw [As];simp
  subst As
  simp (disch:=omega) only [Bc,go_sem]
abbrev IA (f:FuncId) (hp:CH) (m:Nat) (args:List AV) (F:List Dn):Prop:=AO prog f hp m args (UI (fun l:List Dn=>l=F) fun l Al n' r'=>Al=[]++hp∧n'=m∧r'=.ds (Ab AR l))
def Gr (nm:qB) (u9 e8:Bool) (d8:qB):List Dn:=(if u9||!YD nm then [.mk 6 d8] else [])++(if e8 then [.mk 7 d8] else [])
theorem EE (nm:qB) (u9 e8:Bool) (d8:qB):(Gr nm u9 e8 d8).length<=2:=by
 unfold Gr
 split<;>split<;>simp
def Hw {U:Type} (A:Nat->U->List Dn) (l:List U) (n:Nat):List Dn:=(List.range n).flatMap fun j=>match l[j]? with | some x=>A j x | none=>[]
theorem F5 {U:Type} {A:Nat->U->List Dn} {l:List U} {j:Nat} {x:U} (e:l[j]?=some x):Hw A l (j+1)=Hw A l j++A j x:=by
 unfold Hw
 rw [List.range_succ,List.flatMap_append]
 simp [e]
theorem D4 {U:Type} {A:Nat->U->List Dn} {l:List U} {B:Nat} (h:∀j x,l[j]?=some x->(A j x).length<=B):∀n,(Hw A l n).length<=B*n
 | 0=>by simp [Hw]
 |n+1=>by
  have ih:=D4 h n
  cases e:l[n]? with
  |none=>
   have:Hw A l (n+1)=Hw A l n:=by unfold Hw;rw [List.range_succ,List.flatMap_append];simp [e]
   rw [this,Nat.mul_add]
   omega
  |some x=>
   have:=h n x e
   rw [F5 e,zld,Nat.mul_add]
   omega
theorem Ls (nm:qB) (u9 e8:Bool) (d8:qB) (hp:CH) (m:Nat):IA 124 hp m [.s nm,.b u9,.b e8,.s d8] (Gr nm u9 e8 d8):=by
 have hA:=KD nm
 obtain ⟨ab,VT⟩:=A5 (YD nm)
 rw [VT] at hA
 have hF:Gr nm u9 e8 d8=(if u9||!ab then [.mk 6 d8] else [])++(if e8 then [.mk 7 d8] else []):=by unfold Gr;rw [VT]
 obtain ⟨F,hFF⟩:=A5 (Gr nm u9 e8 d8)
 rw [hFF] at hF ⊢
 refine FP (fun l:List Dn=>l=F) (fun _=>[]) (fun l=>.ds (Ab AR l)) func124 (tA cc124) (tB cc124) (tC cc124) rfl (fun hf i hi=>trivial) fun hf=>?_
 unfold ck124
 simp only [go_sem]
 refine AH.f (fun _=>hA _ _) ?_
 simp only [go_sem]
 refine Ae (fun c=>?_) (fun c=>?_)
 .simp only [go_sem]
  cases e8
  .simp only [go_sem]
   refine Cw [.mk 6 d8] (by rw [hF];simp [c]) ?_
   simp only [go_sem]
   try rfl
  .simp only [go_sem]
   refine Cw [.mk 6 d8,.mk 7 d8] (by rw [hF];simp [c]) ?_
   simp only [go_sem]
   try rfl
 .cases e8
  .simp only [go_sem]
   refine Cw [] (by rw [hF];simp [c]) ?_
   simp only [go_sem]
   try rfl
  .simp only [go_sem]
   refine Cw [.mk 7 d8] (by rw [hF];simp [c]) ?_
   simp only [go_sem]
   try rfl
end Go.Proofs.YtgfidgoefioigaaGreatDoor
namespace Go.Eng
set_option linter.all false
theorem AO.e0w {P:Program} {f:FuncId} {hp:CH} {n:Nat} {args args':List AV} {i m:Nat} {R:CH->Nat->AV->Prop} (hi:args[i]?=some .e0) (VA:args'=args.set i (.rw n 0 0))
 (c:AO P f ((n,.rw 0 m [])::hp) (n+1) args' R):AO P f hp n args R:=by
 subst VA
 refine ⟨c.1,fun h J w vs hs ha=>?_⟩
 have JY:∀g,J n g=none:=fun g=>hs.fr n g (zna _)
 have hle:Ck J (By J n 0 (none,0)):=BT _ (JY 0)
 have JX:SatH h (By J n 0 (none,0)) ((n,.rw 0 m [])::hp) (n+1) w:=by
  refine hs.put n _ hle (fun k' g' hk=>AY _ _ hk) (fun b _ _=>rfl) (zna _) ?_ ?_ ?_ ?_
  .exact ⟨none,0,A0 _ _ _ _,by simp,by unfold maxLen;omega,(fun j e h=>by simp at h),(fun _=>rfl),(fun b hb=>by cases hb)⟩
  .intro g b c hg hr
   cases hg
   rw [A0] at hr
   cases hr
  .intro k' g' hk
   rw [AY _ _ (by omega)]
   exact hs.fr k' g' (by omega)
  .intro g2 g' y e1 hr
   cases e1
   by_cases hgg:g'=0
   .omega
   .unfold By at hr
    rw [iN (by omega),JY g'] at hr
    cases hr
 have hl0:∀b,AI (By J n 0 (none,0)) ((n,.rw 0 m [])::hp) b->AI J hp b:=fun b ⟨j,g,c,q,x⟩=>by
  by_cases hj:n=j
  .subst hj
   rw [Ax] at q
   cases q
   rw [A0] at x
   cases x
  .rw [Ai _ _ hj] at q
   rw [AY _ _ (fun e=>hj e.symm)] at x
   exact ⟨j,g,c,q,x⟩
 have ra:Bx h (By J n 0 (none,0)) (args.set i (.rw n 0 0)) vs:=by
  refine ⟨by rw [List.length_set];exact ha.1,fun j U v e1 e2=>?_⟩
  by_cases hj:i=j
  .subst hj
   have BY:i<args.length:=(List.getElem?_eq_some_iff.1 hi).1
   rw [List.getElem?_set_self BY] at e1
   cases e1
   have:=ha.2 i _ v hi e2
   cases this with
   |pu _ _ p=>cases p with | e0 a=>exact .rw _ _ _ _ a none (A0 _ _ _ _) (zna _) (fun b hb=>by cases hb)
  .rw [List.getElem?_set_ne hj] at e1
   exact (ha.2 j U v e1 e2).mono (BQ.refl _) hle
 refine (c.2 h _ w vs JX ra).mono fun _ w' ⟨v,he,h',ρ',Al,n',r',q,hh,hr,hm,Cr,HH,hl⟩=>?_
 exact ⟨v,he,h',ρ',Al,n',r',q,hh,hle.trans hr,hm,Cr,⟨HH.os,HH.tape,HH.output,HH.size,fun b hb hx=>HH.block b hb fun q=>hx (hl0 b q)⟩,fun b hb=>(hl b hb).imp (hl0 b) id⟩
end Go.Eng
namespace Go.Proofs.YtgfidgoefioigaaGreatDoor
open Go.Eng
set_option linter.all false
set_option maxRecDepth 20000
set_option maxHeartbeats 1000000
section
variable {hp:CH} {doc:List Aw} {own:qB} {l:List qB}
theorem Ns (l:List qB) (s:qB) (hl:l.length<=1000000000000) {k g:Nat} (hk:gc hp k=.rw g 1 (Bd l)) (m:Nat):Af prog 162 hp m [.rw k g l.length,.s s] (.b (decide (s∈l))):=by
 have hSl:(Bd l).length=l.length:=Ao _ _
 have ht:(Bd l).take l.length=Bd l:=List.take_of_length_le (by omega)
 refine Af.lend (R:=[(k,.sh g 1 (Bd l))]) (B:=[]) ⟨.inl hk,trivial⟩ trivial ?_ rfl (U8 l s hl _ _)
 simp (disch:=omega) only [hSl,ht,go_sem]
 try rfl
def Wq (w:List Int):Bool:=decide (w=[1])
theorem UZ (n:qB) (w:List Int) (hp:CH) (m:Nat):Af prog 175 hp m [D1 n w] (.b (Wq w)):=by
 refine Aj func175 (tA cc175) (tB cc175) (tC cc175) rfl fun hf=>?_;unfold ck175
 match w with
 | []=>
  simp only [go_sem]
  try rfl
 | [a]=>
  simp only [go_sem]
  simp [Wq]
 |a::b::r=>
  have e:decide ((r.length:Int)+2=1)=false:=dF (by omega)
  have e2:Wq (a::b::r)=false:=by simp [Wq]
  simp (disch:=omega) only [e2,go_sem]
  refine Jo (fun h=>?_) (fun h=>?_)
  .simp at h
   omega
  .have e9:decide (((r.length+2:Nat):Int)=1)=false:=h
   rw [Int.natCast_add] at e9
   simp (disch:=omega) only [e,h,e9,go_sem]
   first | trivial | (simp;omega) | (refine ⟨fun q=>?_,?_⟩;· (simp at q;omega);· (simp;omega)) | trace_state
def ChI (doc:List Aw) (own:qB) (l:List qB):Prop:=l.Nodup∧∀s∈l,s=own∨s∈doc.map Aw.n
theorem WW {n:qB} (h:(Az doc n).isSome=true):n∈doc.map Aw.n:=by
 unfold Az at h
 rw [List.find?_isSome] at h
 obtain ⟨t,ht,e⟩:=h
 have e:t.n=n:=by simpa using e
 exact List.mem_map.2 ⟨t,ht,e⟩
theorem ML {U:Type} [DecidableEq U]:∀{a b:List U},a.Nodup->(∀x∈a,x∈b)->a.length<=b.length
 | [],b,_,_=>by simp
 |x::a,b,hn,h=>by
  obtain ⟨h1,h2⟩:=List.nodup_cons.1 hn
  have hx:=h x (by simp)
  have:=ML (a:=a) (b:=b.erase x) h2 fun y hy=>(List.mem_erase_of_ne (fun e=>h1 (by rw [<-e];exact hy))).2 (h y (by simp [hy]))
  rw [List.length_erase_of_mem hx] at this
  have:0<b.length:=List.length_pos_of_mem hx
  simp only [List.length_cons]
  omega
theorem ChI.len (h:ChI doc own l):l.length<=doc.length+1:=by
 have:=ML (b:=own::doc.map Aw.n) h.1 fun s hs=>by
  rcases h.2 s hs with e | e
  .rw [e];simp
  .exact List.mem_cons_of_mem _ e
 simpa using this
theorem ChI.snoc {s:qB} (h:ChI doc own l) (h1:s ∉ l) (h2:s=own∨s∈doc.map Aw.n):ChI doc own (l++[s]):=by
 refine ⟨?_,fun x hx=>?_⟩
 .rw [List.nodup_append]
  refine ⟨h.1,by simp,fun a ha b hb=>?_⟩
  simp at hb
  subst hb
  exact fun e=>h1 (e ▸ ha)
 .rcases List.mem_append.1 hx with hx | hx
  .exact h.2 x hx
  .simp at hx;subst hx;exact h2
theorem Ads {m c:Nat} {X:Ak} {a:CH} (h1:gc a c=X) (h3:∀j,j<m->j≠c->gc a j=gc hp j):Up m ((c,X)::hp) a:=fun j hj=>by
 by_cases e:c=j
 .subst e;rw [Ax];exact h1
 .rw [Ai _ _ e];exact h3 j hj (fun q=>e q.symm)
inductive NxI
 | mk (g:Nat) (l:List qB)
def NS (doc:List Aw) (own:qB):List BN->List qB->List qB
 | [],l=>l
 |x::r,l=>NS doc own r (if (Wq x.tw&&(decide (x.tn=own)||((Az doc x.tn).isSome&&decide (((Az doc x.tn).getD Dz).k=5))))&&!decide (x.tn∈l) then l++[x.tn] else l)
def Bm (l:List (List AV)):List BN:=by
 classical
 exact if h:Gp l then Classical.choose h else []
theorem BO {l:List (List AV)} (h:Gp l):l=Ab AD (Bm l)∧(Bm l).length<=16∧∀x∈Bm l,H7 x∧x.n.size<=64:=by
 unfold Bm
 rw [dif_pos h]
 exact Classical.choose_spec h
def nxP (doc:List Aw) (own:qB) (n:Nat) (T:List qB):NxI->Prop
 | .mk g l=>ChI doc own l∧n<=l.length∧l=T
def nxW (k:Nat):NxI->CH
 | .mk g l=>[(k,.rw g 1 (Bd l))]
def nxR (k:Nat):NxI->AV
 | .mk g l=>.rw k g l.length
inductive NxS
 | mk (j g:Nat) (l:List qB) (n:Nat)
theorem Tc (doc:List Aw) (G0:doc.length<=64) (t:Aw) (ht:Gp t.inputs) (own:qB) (k g:Nat) (l:List qB) (hl:ChI doc own l) (hp:CH) (hk:gc hp k=.rw g 1 (Bd l)) (m:Nat) :
 AO prog 161 hp m [B0 doc,Mc t,.s own,.rw k g l.length] (UI (nxP doc own l.length (NS doc own (Bm t.inputs) l)) fun i Al n' r'=>Al=nxW k i++hp∧n'=m∧r'=nxR k i):=by
 obtain ⟨his,VV,hio⟩:=BO ht
 obtain ⟨is,hise⟩:=A5 (Bm t.inputs)
 rw [hise] at his VV hio ⊢
 obtain ⟨T,hT⟩:=A5 (NS doc own is l)
 rw [hT]
 refine FP (nxP doc own l.length T) (nxW k) (nxR k) func161 (tA cc161) (tB cc161) (tC cc161) rfl (fun hf i hi=>?_) fun hf=>?_
 .cases i
  exact ⟨Pq hf hk,trivial,trivial⟩
 have BY:=Pq hf hk
 unfold ck161
 simp only [Mc]
 rw [his]
 simp only [go_sem]
 refine loop (fun p:NxS=>match p with
  | .mk j g' l' n=>⟨[(2,.s own),(3,.rw k g' l'.length),(4,.bx m 0),(5,.bx (m+1) 0),(9,.i .i64 j)],(k,.rw g' 1 (Bd l'))::(m,.bx [.ds (Ab B8 doc)])::(m+1,.bx [.i .i64 t.k,.s t.n,.ds t.impl,.ds t.dirs,.ds (Ab Bv t.fields),.ds t.members,.ds (Ab AD is)])::hp,n⟩)
  (fun p=>match p with | .mk j g' l' n=>j<=is.length∧m+2<=n∧ChI doc own l'∧l.length<=l'.length∧T=NS doc own (is.drop j) l') (fun p=>match p with | .mk j g' l' n=>is.length - j) (.mk 0 g l (m+2)) ?_ ?_ (fun p hj=>?_)
 .exact ⟨Nat.zero_le _,zna _,hl,zna _,hT.symm⟩
 .dsimp only
  refine Fm hf ?_ ?_ ?_ ?_ (fun a ha c7=>?_) (zna _)
  .simp (disch:=omega) only [go_sem]
  .simp (disch:=omega) only [hk,go_sem]
  .simp (disch:=omega) only [go_sem]
  .simp (disch:=omega) only [go_sem]
  .repeat rw [Ai _ _ (by omega)]
 obtain ⟨j,g',l',n⟩:=p
 obtain ⟨Cg,Bc,As,Ct,Dh⟩:=hj
 have hll:=As.len
 dsimp only
 simp (disch:=omega) only [go_sem]
 refine Ae (fun q=>?_) (fun q=>?_)
 .have q:j<is.length:=by simpa using q
  obtain ⟨x,ex⟩:∃x,is[j]?=some x:=⟨is[j],by simp [q]⟩
  have hX:=UZ x.tn x.tw
  have hF:=BI doc (by omega) x.tn
  obtain ⟨R,hR⟩:=A5 (Az doc x.tn)
  rw [A2 ex,NS,hR] at Dh
  rw [hR] at hF
  unfold Eh at hF
  have hH:=fun Al (e:gc Al k=.rw g' 1 (Bd l')) m'=>Ns l' x.tn (by omega) e m'
  simp (disch:=omega) only [q,Ad (Aa AD ex),go_sem]
  refine Ac.f (hF _ _) ?_
  simp (disch:=omega) only [go_sem]
  refine Ac.f (hX _ _) ?_
  simp (disch:=omega) only [go_sem]
  refine AH.f (fun _=>hH _ (by (simp (disch:=omega) only [go_sem])) _) ?_
  simp (disch:=omega) only [go_sem]
  refine Ae (fun c=>?_) (fun c=>?_)
  .have c1:x.tn ∉ l':=by
    rw [zj] at c
    simpa using c.2
   have c2:x.tn=own∨x.tn∈doc.map Aw.n:=by
    simp only [zj,Bool.or_eq_true,decide_eq_true_eq] at c
    rcases c.1.2 with e | e
    .exact .inl e
    .exact .inr (WW (by rw [hR];exact e.1))
   have k1:(l'.length+1)*16<=140737488355328:=by omega
   have k2:l'.length+1<=9223372036854775807:=by omega
   have hSl:(Bd l').length=l'.length:=Ao _ _
   have hsn:Bd l'++[[.s x.tn]]=Bd (l'++[x.tn]):=AX Cz _ _
   simp (disch:=omega) only [hSl,k1,k2,hsn,go_sem]
   refine ⟨.mk (j+1) (g'+1) (l'++[x.tn]) (n+2),⟨show j+1<=is.length by omega,show m+2<=n+2 by omega,As.snoc c1 c2,by rw [zld];omega,by rw [Dh,iP c]⟩,by show is.length - (j+1)<is.length - j;omega,?_⟩
   dsimp only
   refine Fm hf ?_ ?_ ?_ ?_ (fun a ha c7=>?_) (zna _)
   .simp (disch:=omega) only [Ap j (by omega),zld,List.length_cons,List.length_nil,go_sem]
   .simp (disch:=omega) only [go_sem]
   .simp (disch:=omega) only [go_sem]
   .simp (disch:=omega) only [go_sem]
   .have nk:¬k=a:=fun e=>c7 (by simp [e])
    repeat rw [Ai _ _ (by omega)]
  .simp (disch:=omega) only [go_sem]
   refine ⟨.mk (j+1) g' l' (n+2),⟨show j+1<=is.length by omega,show m+2<=n+2 by omega,As,Ct,by rw [Dh,iN (by rw [c];decide)]⟩,by show is.length - (j+1)<is.length - j;omega,?_⟩
   dsimp only
   refine Fm hf ?_ ?_ ?_ ?_ (fun a ha c7=>?_) (zna _)
   .simp (disch:=omega) only [Ap j (by omega),go_sem]
   .simp (disch:=omega) only [go_sem]
   .simp (disch:=omega) only [go_sem]
   .simp (disch:=omega) only [go_sem]
   .have nk:¬k=a:=fun e=>c7 (by simp [e])
    repeat rw [Ai _ _ (by omega)]
 .have q:j=is.length:=by simp at q;omega
  subst q
  rw [List.drop_length,NS] at Dh
  simp (disch:=omega) only [go_sem]
  refine Cw (.mk g' l') ⟨As,Ct,Dh.symm⟩ ?_
  unfold nxW nxR
  simp (disch:=omega) only [go_sem]
  refine ⟨Ads ?_ fun j h1 h2=>?_,BY⟩
  .simp (disch:=omega) only [go_sem]
  .repeat rw [Ai _ _ (by omega)]
end
