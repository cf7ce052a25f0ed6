/- Proof. Conditions: none. -/
import Derived.Test.YtgfidgoefioigaaGreatDoorIk38
noncomputable section
open List renaming all_eq_true->z10,length_eq_zero_iff->z1i
open Bool renaming and_eq_true->zd
open Go.Proofs.Tryz
open List renaming length_append->zld
open Nat renaming le_refl->zna
namespace Go.Proofs.YtgfidgoefioigaaGreatDoor
open Go.Eng
set_option linter.all false
set_option maxRecDepth 20000
set_option maxHeartbeats 1000000
def FY (l:List (List AV)):Prop:=∃is:List BG,l=Ab AD is∧is.length<=16∧∀x∈is,Hi x∧x.n.size<=64
structure FldB (f:Cr):Prop where
 n:f.n.size<=64
 a:FY f.args
 tw:f.tw=Ab D2 (IX f.tw)
 tl:f.tw.length<=24
structure DfnB (t:Av):Prop where
 n:t.n.size<=64
 im:t.impl=Bq (GX t.impl)
 il:(GX t.impl).length<=64
 fl:t.fields.length<=64
 f:∀f∈t.fields,FldB f
 ml:t.members.length<=64
 m:∀e∈t.members,∃x y,e=[AV.s x,.ds y]∧x.size<=64
 i:FY t.inputs
structure DocB (doc:List Av):Prop where
 l:doc.length<=64
 d:∀t∈doc,DfnB t
theorem Ia {s:qB} (h:FI s=true):s.size<=64:=by
 unfold FI at h
 simp at h
 omega
theorem Xy {l:List (List AV)} (h:Eb l) (hr:MS l=true):FY l:=by
 obtain ⟨h1,h2,h3⟩:=Classical.choose_spec h
 have e:MS l=isR (Classical.choose h):=by unfold MS;rw [dif_pos h]
 rw [e] at hr
 unfold isR at hr
 rw [zd,decide_eq_true_eq,z10] at hr
 refine ⟨_,h1,hr.1,fun x hx=>⟨h3 x hx,?_⟩⟩
 have:=hr.2 x hx
 unfold inA at this
 simp only [zd] at this
 exact Ia this.1.1
theorem Mz:FY []:=⟨[],rfl,by simp,by simp⟩
theorem Ajt {f:Cr} (h1:Eb f.args) (h3:f.tw=Ab D2 (IX f.tw)) (hr:fdR f=true):FldB f:=by
 unfold fdR at hr
 simp only [zd] at hr
 obtain ⟨a,b,c,d⟩:=hr
 refine ⟨Ia a,Xy h1 b,h3,?_⟩
 unfold N0 at c
 simp only [zd,decide_eq_true_eq] at c
 have:=c.1.2
 rw [Ig] at this
 exact this
theorem Ab9 {l:List Cr} (hd:∀f∈l,Eb f.args∧f.tw=Ab D2 (IX f.tw)) (hr:fsR l=true):l.length<=64∧∀f∈l,FldB f:=by
 unfold fsR at hr
 simp only [zd,decide_eq_true_eq,z10] at hr
 exact ⟨hr.2.1,fun f hf=>Ajt (hd f hf).1 (hd f hf).2 (hr.2.2 f hf)⟩
theorem Abz {pl:Bool} {l:List (List AV)} (hd:∀e∈l,∃x y,e=[AV.s x,.ds y]) (hr:msR pl l=true):l.length<=64∧∀e∈l,∃x y,e=[AV.s x,.ds y]∧x.size<=64:=by
 unfold msR at hr
 simp only [zd,decide_eq_true_eq,z10] at hr
 refine ⟨hr.2.1,fun e he=>?_⟩
 obtain ⟨x,y,rfl⟩:=hd e he
 have:=hr.2.2 _ he
 unfold mbR at this
 simp only [zd] at this
 exact ⟨x,y,rfl,Ia this.1⟩
theorem Ajj {t:Av} (h:DfnR t) (hr:Y1 t=true):DfnB t:=by
 unfold Y1 at hr
 simp only [zd,decide_eq_true_eq] at hr
 obtain ⟨⟨h1,h2,h3,h4⟩,h5⟩:=hr
 have Vf:(GX t.impl).length<=64:=by
  have:(GX t.impl).length=t.impl.length:=List.length_map ..
  omega
 have hf:∀f∈t.fields,Eb f.args∧f.tw=Ab D2 (IX f.tw):=fun f hf=>⟨(h.w.fields f hf).1,h.tw f hf⟩
 have hm:∀e∈t.members,∃x y,e=[AV.s x,.ds y]:=h.ok.mem
 have z1:∀{l:List Cr},l.length=0->l.length<=64∧∀f∈l,FldB f:=fun e=>by
  obtain rfl:=z1i.1 e
  exact ⟨by simp,by simp⟩
 have z2:∀{l:List (List AV)},l.length=0->l.length<=64∧∀e∈l,∃x y,e=[AV.s x,.ds y]∧x.size<=64:=fun e=>by
  obtain rfl:=z1i.1 e
  exact ⟨by simp,by simp⟩
 have z3:∀{l:List (List AV)},l.length=0->FY l:=fun e=>by
  obtain rfl:=z1i.1 e
  exact Mz
 have key:(t.fields.length<=64∧∀f∈t.fields,FldB f)∧(t.members.length<=64∧∀e∈t.members,∃x y,e=[AV.s x,.ds y]∧x.size<=64)∧FY t.inputs:=by
  split at h5
  .simp only [zd,decide_eq_true_eq] at h5
   exact ⟨Ab9 hf h5.1,z2 h5.2.1,z3 h5.2.2⟩
  split at h5
  .simp only [zd,decide_eq_true_eq] at h5
   exact ⟨Ab9 hf h5.2.1,z2 h5.2.2.1,z3 h5.2.2.2⟩
  split at h5
  .simp only [zd,decide_eq_true_eq] at h5
   exact ⟨z1 h5.2.1,Abz hm h5.2.2.1,z3 h5.2.2.2⟩
  split at h5
  .simp only [zd,decide_eq_true_eq] at h5
   exact ⟨z1 h5.2.1,Abz hm h5.2.2.1,z3 h5.2.2.2⟩
  split at h5
  .simp only [zd,decide_eq_true_eq] at h5
   exact ⟨z1 h5.2.1,z2 h5.2.2.1,Xy h.w.inputs h5.2.2.2.2⟩
  .cases h5
 exact ⟨Ia h1,h.ok.impl,Vf,key.1.1,key.1.2,key.2.1.1,key.2.1.2,key.2.2⟩
theorem YR {l:List Av} (hd:∀t∈l,DfnR t) (h:(decide (1<=l.length)&&(decide (l.length<=64)&&l.all Y1))=true):DocB l:=by
 simp only [zd,decide_eq_true_eq,z10] at h
 exact ⟨h.2.1,fun t ht=>Ajj (hd t ht) (h.2.2 t ht)⟩
inductive Da where
 | mk (e:Int) (a:qB)
def Da.e:Da->Int | .mk e _=>e
theorem Da.e_mk (e:Int) (a:qB):(Da.mk e a).e=e:=rfl
def Da.a:Da->qB | .mk _ a=>a
theorem Da.a_mk (e:Int) (a:qB):(Da.mk e a).a=a:=rfl
theorem Da.ext {x y:Da} (h0:x.e=y.e) (h1:x.a=y.a):x=y:=by cases x;cases y;simp only [Da.e_mk,Da.a_mk] at *;simp [*]
def AM (x:Da):List AV:=[.i .i64 x.e,.s x.a]
theorem Rd (l:List Da):Eu 2 (Ab AM l)=True:=Em fun _=>⟨rfl,rfl⟩
attribute [go_sem] Rd
attribute [go_sem] AM Da.e_mk Da.a_mk
attribute [grind =] Da.e_mk Da.a_mk
attribute [ext] Da.ext
attribute [grind ext] Da.ext
def ZA (s:qB):Bool:=decide ((2:Int)<=(s.size:Int))&&decide ((((bs s).getD 0 0).toNat:Int)=95)&&decide ((((bs s).getD 1 0).toNat:Int)=95)
theorem Jp (s:qB) (hp:CH) (m:Nat):Ae prog 138 hp m [.s s] (.b (ZA s)):=by
 refine Al func138 (tA cc138) (tB cc138) (tC cc138) rfl fun hf=>?_;unfold ck138
 simp only [go_sem]
 refine ⟨fun h=>?_,fun h=>?_,rfl⟩
 .simp at h;omega
 .simp at h;omega
def Yj (s:qB):Bool:=FI s&&!ZA s
theorem JU (s:qB) (hp:CH) (m:Nat):Ae prog 160 hp m [.s s] (.b (Yj s)):=by
 unfold Yj
 refine Al func160 (tA cc160) (tB cc160) (tC cc160) rfl fun hf=>?_;unfold ck160
 simp only [go_sem]
 refine Ac.f (BN _ _ _) ?_
 simp only [go_sem]
 refine AH.f (fun _=>Jp _ _ _) ?_
 simp only [go_sem]
theorem Ug (l:List qB) (s:qB) (hl:l.length<=1000000000000) (hp:CH) (m:Nat):Ae prog 162 hp m [.ds (Bq l),.s s] (.b (decide (s∈l))):=by
 obtain ⟨R,hR⟩:=A7 (decide (s∈l))
 rw [hR]
 refine Al func162 (tA cc162) (tB cc162) (tC cc162) rfl fun hf=>?_;unfold ck162
 simp only [go_sem]
 refine loop (fun p:Nat×Nat=>⟨[(0,.ds (Bq l)),(1,.s s),(5,.i .i64 p.1)],hp,p.2⟩) (fun p=>p.1<=l.length∧m<=p.2∧R=decide (s∈l.drop p.1)) (fun p=>l.length - p.1) (0,m) ?_ ?_ (fun ⟨j,n⟩ hj=>?_)
 .exact ⟨by simp,by simp,hR.symm⟩
 .refine Dd ?_
  simp only [go_sem]
 dsimp only at hj
 obtain ⟨Cq,Be,At⟩:=hj
 simp (disch:=omega) only [go_sem]
 refine Af (fun q=>?_) (fun q=>?_)
 .have q:j<l.length:=by simpa using q
  obtain ⟨x,ex⟩:∃x,l[j]?=some x:=⟨l[j],by simp [q]⟩
  rw [A2 ex] at At
  simp (disch:=omega) only [q,Ad (Aa C3 ex),go_sem]
  refine Af (fun c=>?_) (fun c=>?_)
  .have c:x=s:=by simpa using c
   have At:R=true:=by rw [At];simp [c]
   subst At
   simp (disch:=omega) only [Be,go_sem]
  .have c:¬x=s:=by simpa using c
   have At:R=decide (s∈l.drop (j+1)):=by rw [At];simp [Ne.symm c]
   simp (disch:=omega) only [go_sem]
   refine ⟨(j+1,n),⟨by dsimp only;omega,by dsimp only;omega,At⟩,by dsimp only;omega,Dd ?_⟩
   simp (disch:=omega) only [Ao j (by omega),go_sem]
 .have q:j=l.length:=by simp at q;omega
  subst q
  rw [List.drop_length] at At
  have At:R=false:=by rw [At];simp
  subst At
  simp (disch:=omega) only [Be,go_sem]
abbrev Ie (f:FuncId) (hp:CH) (m:Nat) (args:List AV) (F:List Da):Prop:=AK prog f hp m args (Uq (fun l:List Da=>l=F) fun l Am n' r'=>Am=[]++hp∧n'=m∧r'=.ds (Ab AM l))
def F7 (nm:qB) (s8 e8:Bool) (j7:qB):List Da:=(if s8||!Yj nm then [.mk 6 j7] else [])++(if e8 then [.mk 7 j7] else [])
theorem Ey (nm:qB) (s8 e8:Bool) (j7:qB):(F7 nm s8 e8 j7).length<=2:=by
 unfold F7
 split<;>split<;>simp
def Gn {α:Type} (A:Nat->α->List Da) (l:List α) (n:Nat):List Da:=(List.range n).flatMap fun j=>match l[j]? with | some x=>A j x | none=>[]
theorem Fi {α:Type} {A:Nat->α->List Da} {l:List α} {j:Nat} {x:α} (e:l[j]?=some x):Gn A l (j+1)=Gn A l j++A j x:=by
 unfold Gn
 rw [List.range_succ,List.flatMap_append]
 simp [e]
theorem Ds {α:Type} {A:Nat->α->List Da} {l:List α} {B:Nat} (h:∀j x,l[j]?=some x->(A j x).length<=B):∀n,(Gn A l n).length<=B*n
 | 0=>by simp [Gn]
 |n+1=>by
  have ih:=Ds h n
  cases e:l[n]? with
  |none=>
   have:Gn A l (n+1)=Gn A l n:=by unfold Gn;rw [List.range_succ,List.flatMap_append];simp [e]
   rw [this,Nat.mul_add]
   omega
  |some x=>
   have:=h n x e
   rw [Fi e,zld,Nat.mul_add]
   omega
theorem K6 (nm:qB) (s8 e8:Bool) (j7:qB) (hp:CH) (m:Nat):Ie 124 hp m [.s nm,.b s8,.b e8,.s j7] (F7 nm s8 e8 j7):=by
 have hA:=JU nm
 obtain ⟨ab,Vs⟩:=A7 (Yj nm)
 rw [Vs] at hA
 have hF:F7 nm s8 e8 j7=(if s8||!ab then [.mk 6 j7] else [])++(if e8 then [.mk 7 j7] else []):=by unfold F7;rw [Vs]
 obtain ⟨F,hFF⟩:=A7 (F7 nm s8 e8 j7)
 rw [hFF] at hF ⊢
 refine F4 (fun l:List Da=>l=F) (fun _=>[]) (fun l=>.ds (Ab AM l)) func124 (tA cc124) (tB cc124) (tC cc124) rfl (fun hf i hi=>trivial) fun hf=>?_
 unfold ck124
 simp only [go_sem]
 refine AH.f (fun _=>hA _ _) ?_
 simp only [go_sem]
 refine Af (fun c=>?_) (fun c=>?_)
 .simp only [go_sem]
  cases e8
  .simp only [go_sem]
   refine Co [.mk 6 j7] (by rw [hF];simp [c]) ?_
   simp only [go_sem]
   try rfl
  .simp only [go_sem]
   refine Co [.mk 6 j7,.mk 7 j7] (by rw [hF];simp [c]) ?_
   simp only [go_sem]
   try rfl
 .cases e8
  .simp only [go_sem]
   refine Co [] (by rw [hF];simp [c]) ?_
   simp only [go_sem]
   try rfl
  .simp only [go_sem]
   refine Co [.mk 7 j7] (by rw [hF];simp [c]) ?_
   simp only [go_sem]
   try rfl
end Go.Proofs.YtgfidgoefioigaaGreatDoor
namespace Go.Eng
set_option linter.all false
theorem AK.e0w {P:Program} {f:FuncId} {hp:CH} {n:Nat} {args args':List AV} {i m:Nat} {R:CH->Nat->AV->Prop} (hi:args[i]?=some .e0) (Vg:args'=args.set i (.rw n 0 0))
 (c:AK P f ((n,.rw 0 m [])::hp) (n+1) args' R):AK P f hp n args R:=by
 subst Vg
 refine ⟨c.1,fun h J w vs hs ha=>?_⟩
 have Jz:∀g,J n g=none:=fun g=>hs.fr n g (zna _)
 have hle:Cd J (Bw J n 0 (none,0)):=BK _ (Jz 0)
 have IT:SatH h (Bw J n 0 (none,0)) ((n,.rw 0 m [])::hp) (n+1) w:=by
  refine hs.put n _ hle (fun k' g' hk=>AQ _ _ hk) (fun b _ _=>rfl) (zna _) ?_ ?_ ?_ ?_
  .exact ⟨none,0,A0 _ _ _ _,by simp,by unfold maxLen;omega,(fun j e h=>by simp at h),(fun _=>rfl),(fun b hb=>by cases hb)⟩
  .intro g b c hg hr
   cases hg
   rw [A0] at hr
   cases hr
  .intro k' g' hk
   rw [AQ _ _ (by omega)]
   exact hs.fr k' g' (by omega)
  .intro g2 g' y e1 hr
   cases e1
   by_cases hgg:g'=0
   .omega
   .unfold Bw at hr
    rw [iN (by omega),Jz g'] at hr
    cases hr
 have hl0:∀b,AF (Bw J n 0 (none,0)) ((n,.rw 0 m [])::hp) b->AF J hp b:=fun b ⟨j,g,c,q,x⟩=>by
  by_cases hj:n=j
  .subst hj
   rw [Ar] at q
   cases q
   rw [A0] at x
   cases x
  .rw [Ak _ _ hj] at q
   rw [AQ _ _ (fun e=>hj e.symm)] at x
   exact ⟨j,g,c,q,x⟩
 have ra:Bv h (Bw J n 0 (none,0)) (args.set i (.rw n 0 0)) vs:=by
  refine ⟨by rw [List.length_set];exact ha.1,fun j α v e1 e2=>?_⟩
  by_cases hj:i=j
  .subst hj
   have BL:i<args.length:=(List.getElem?_eq_some_iff.1 hi).1
   rw [List.getElem?_set_self BL] at e1
   cases e1
   have:=ha.2 i _ v hi e2
   cases this with
   |pu _ _ p=>cases p with | e0 a=>exact .rw _ _ _ _ a none (A0 _ _ _ _) (zna _) (fun b hb=>by cases hb)
  .rw [List.getElem?_set_ne hj] at e1
   exact (ha.2 j α v e1 e2).mono (BJ.refl _) hle
 refine (c.2 h _ w vs IT ra).mono fun _ w' ⟨v,he,h',ρ',Am,n',r',q,hh,hr,hm,Cf,Hq,hl⟩=>?_
 exact ⟨v,he,h',ρ',Am,n',r',q,hh,hle.trans hr,hm,Cf,⟨Hq.os,Hq.tape,Hq.output,Hq.size,fun b hb hx=>Hq.block b hb fun q=>hx (hl0 b q)⟩,fun b hb=>(hl b hb).imp (hl0 b) id⟩
end Go.Eng
namespace Go.Proofs.YtgfidgoefioigaaGreatDoor
open Go.Eng
set_option linter.all false
set_option maxRecDepth 20000
set_option maxHeartbeats 1000000
section
variable {hp:CH} {doc:List Av} {own:qB} {l:List qB}
theorem MA (l:List qB) (s:qB) (hl:l.length<=1000000000000) {k g:Nat} (hk:gc hp k=.rw g 1 (Bq l)) (m:Nat):Ae prog 162 hp m [.rw k g l.length,.s s] (.b (decide (s∈l))):=by
 have x8:(Bq l).length=l.length:=As _ _
 have ht:(Bq l).take l.length=Bq l:=List.take_of_length_le (by omega)
 refine Ae.lend (R:=[(k,.sh g 1 (Bq l))]) (B:=[]) ⟨.inl hk,trivial⟩ trivial ?_ rfl (Ug l s hl _ _)
 simp (disch:=omega) only [x8,ht,go_sem]
 try rfl
def VH (w:List Int):Bool:=decide (w=[1])
theorem U6 (n:qB) (w:List Int) (hp:CH) (m:Nat):Ae prog 175 hp m [DW n w] (.b (VH w)):=by
 refine Al func175 (tA cc175) (tB cc175) (tC cc175) rfl fun hf=>?_;unfold ck175
 match w with
 | []=>
  simp only [go_sem]
  try rfl
 | [a]=>
  simp only [go_sem]
  simp [VH]
 |a::b::r=>
  have e:decide ((r.length:Int)+2=1)=false:=dF (by omega)
  have e2:VH (a::b::r)=false:=by simp [VH]
  simp (disch:=omega) only [e2,go_sem]
  refine II (fun h=>?_) (fun h=>?_)
  .simp at h
   omega
  .have e9:decide (((r.length+2:Nat):Int)=1)=false:=h
   rw [Int.natCast_add] at e9
   simp (disch:=omega) only [e,h,e9,go_sem]
   first | trivial | (simp;omega) | (refine ⟨fun q=>?_,?_⟩;· (simp at q;omega);· (simp;omega)) | trace_state
def ChI (doc:List Av) (own:qB) (l:List qB):Prop:=l.Nodup∧∀s∈l,s=own∨s∈doc.map Av.n
theorem W4 {n:qB} (h:(Ay doc n).isSome=true):n∈doc.map Av.n:=by
 unfold Ay at h
 rw [List.find?_isSome] at h
 obtain ⟨t,ht,e⟩:=h
 have e:t.n=n:=by simpa using e
 exact List.mem_map.2 ⟨t,ht,e⟩
theorem Ml {α:Type} [DecidableEq α]:∀{a b:List α},a.Nodup->(∀x∈a,x∈b)->a.length<=b.length
 | [],b,_,_=>by simp
 |x::a,b,hn,h=>by
  obtain ⟨h1,h2⟩:=List.nodup_cons.1 hn
  have hx:=h x (by simp)
  have:=Ml (a:=a) (b:=b.erase x) h2 fun y hy=>(List.mem_erase_of_ne (fun e=>h1 (by rw [<-e];exact hy))).2 (h y (by simp [hy]))
  rw [List.length_erase_of_mem hx] at this
  have:0<b.length:=List.length_pos_of_mem hx
  simp only [List.length_cons]
  omega
theorem ChI.len (h:ChI doc own l):l.length<=doc.length+1:=by
 have:=Ml (b:=own::doc.map Av.n) h.1 fun s hs=>by
  rcases h.2 s hs with e | e
  .rw [e];simp
  .exact List.mem_cons_of_mem _ e
 simpa using this
theorem ChI.snoc {s:qB} (h:ChI doc own l) (h1:s ∉ l) (h2:s=own∨s∈doc.map Av.n):ChI doc own (l++[s]):=by
 refine ⟨?_,fun x hx=>?_⟩
 .rw [List.nodup_append]
  refine ⟨h.1,by simp,fun a ha b hb=>?_⟩
  simp at hb
  subst hb
  exact fun e=>h1 (e ▸ ha)
 .rcases List.mem_append.1 hx with hx | hx
  .exact h.2 x hx
  .simp at hx;subst hx;exact h2
theorem Adc {m c:Nat} {X:Ai} {a:CH} (h1:gc a c=X) (h3:∀j,j<m->j≠c->gc a j=gc hp j):Up m ((c,X)::hp) a:=fun j hj=>by
 by_cases e:c=j
 .subst e;rw [Ar];exact h1
 .rw [Ak _ _ e];exact h3 j hj (fun q=>e q.symm)
inductive NxI
 | mk (g:Nat) (l:List qB)
def Nm (doc:List Av) (own:qB):List BG->List qB->List qB
 | [],l=>l
 |x::r,l=>Nm doc own r (if (VH x.tw&&(decide (x.tn=own)||((Ay doc x.tn).isSome&&decide (((Ay doc x.tn).getD DJ).k=5))))&&!decide (x.tn∈l) then l++[x.tn] else l)
def Bl (l:List (List AV)):List BG:=by
 classical
 exact if h:FY l then Classical.choose h else []
theorem BH {l:List (List AV)} (h:FY l):l=Ab AD (Bl l)∧(Bl l).length<=16∧∀x∈Bl l,Hi x∧x.n.size<=64:=by
 unfold Bl
 rw [dif_pos h]
 exact Classical.choose_spec h
def nxP (doc:List Av) (own:qB) (n:Nat) (T:List qB):NxI->Prop
 | .mk g l=>ChI doc own l∧n<=l.length∧l=T
def nxW (k:Nat):NxI->CH
 | .mk g l=>[(k,.rw g 1 (Bq l))]
def nxR (k:Nat):NxI->AV
 | .mk g l=>.rw k g l.length
inductive NxS
 | mk (j g:Nat) (l:List qB) (n:Nat)
theorem S9 (doc:List Av) (GB:doc.length<=64) (t:Av) (ht:FY t.inputs) (own:qB) (k g:Nat) (l:List qB) (hl:ChI doc own l) (hp:CH) (hk:gc hp k=.rw g 1 (Bq l)) (m:Nat) :
 AK prog 161 hp m [B9 doc,Lw t,.s own,.rw k g l.length] (Uq (nxP doc own l.length (Nm doc own (Bl t.inputs) l)) fun i Am n' r'=>Am=nxW k i++hp∧n'=m∧r'=nxR k i):=by
 obtain ⟨his,Vt,hio⟩:=BH ht
 obtain ⟨is,hise⟩:=A7 (Bl t.inputs)
 rw [hise] at his Vt hio ⊢
 obtain ⟨T,hT⟩:=A7 (Nm doc own is l)
 rw [hT]
 refine F4 (nxP doc own l.length T) (nxW k) (nxR k) func161 (tA cc161) (tB cc161) (tC cc161) rfl (fun hf i hi=>?_) fun hf=>?_
 .cases i
  exact ⟨OJ hf hk,trivial,trivial⟩
 have BL:=OJ hf hk
 unfold ck161
 simp only [Lw]
 rw [his]
 simp only [go_sem]
 refine loop (fun p:NxS=>match p with
  | .mk j g' l' n=>⟨[(2,.s own),(3,.rw k g' l'.length),(4,.bx m 0),(5,.bx (m+1) 0),(9,.i .i64 j)],(k,.rw g' 1 (Bq l'))::(m,.bx [.ds (Ab BB doc)])::(m+1,.bx [.i .i64 t.k,.s t.n,.ds t.impl,.ds t.dirs,.ds (Ab Bu t.fields),.ds t.members,.ds (Ab AD is)])::hp,n⟩)
  (fun p=>match p with | .mk j g' l' n=>j<=is.length∧m+2<=n∧ChI doc own l'∧l.length<=l'.length∧T=Nm doc own (is.drop j) l') (fun p=>match p with | .mk j g' l' n=>is.length - j) (.mk 0 g l (m+2)) ?_ ?_ (fun p hj=>?_)
 .exact ⟨Nat.zero_le _,zna _,hl,zna _,hT.symm⟩
 .dsimp only
  refine EU hf ?_ ?_ ?_ ?_ (fun a ha d5=>?_) (zna _)
  .simp (disch:=omega) only [go_sem]
  .simp (disch:=omega) only [hk,go_sem]
  .simp (disch:=omega) only [go_sem]
  .simp (disch:=omega) only [go_sem]
  .repeat rw [Ak _ _ (by omega)]
 obtain ⟨j,g',l',n⟩:=p
 obtain ⟨Cq,Be,At,Cl,CU⟩:=hj
 have hll:=At.len
 dsimp only
 simp (disch:=omega) only [go_sem]
 refine Af (fun q=>?_) (fun q=>?_)
 .have q:j<is.length:=by simpa using q
  obtain ⟨x,ex⟩:∃x,is[j]?=some x:=⟨is[j],by simp [q]⟩
  have hX:=U6 x.tn x.tw
  have hF:=BW doc (by omega) x.tn
  obtain ⟨R,hR⟩:=A7 (Ay doc x.tn)
  rw [A2 ex,Nm,hR] at CU
  rw [hR] at hF
  unfold Eh at hF
  have hH:=fun Am (e:gc Am k=.rw g' 1 (Bq l')) m'=>MA l' x.tn (by omega) e m'
  simp (disch:=omega) only [q,Ad (Aa AD ex),go_sem]
  refine Ac.f (hF _ _) ?_
  simp (disch:=omega) only [go_sem]
  refine Ac.f (hX _ _) ?_
  simp (disch:=omega) only [go_sem]
  refine AH.f (fun _=>hH _ (by (simp (disch:=omega) only [go_sem])) _) ?_
  simp (disch:=omega) only [go_sem]
  refine Af (fun c=>?_) (fun c=>?_)
  .have c1:x.tn ∉ l':=by
    rw [zd] at c
    simpa using c.2
   have c2:x.tn=own∨x.tn∈doc.map Av.n:=by
    simp only [zd,Bool.or_eq_true,decide_eq_true_eq] at c
    rcases c.1.2 with e | e
    .exact .inl e
    .exact .inr (W4 (by rw [hR];exact e.1))
   have k1:(l'.length+1)*16<=140737488355328:=by omega
   have k2:l'.length+1<=9223372036854775807:=by omega
   have x8:(Bq l').length=l'.length:=As _ _
   have hsn:Bq l'++[[.s x.tn]]=Bq (l'++[x.tn]):=Bd C3 _ _
   simp (disch:=omega) only [x8,k1,k2,hsn,go_sem]
   refine ⟨.mk (j+1) (g'+1) (l'++[x.tn]) (n+2),⟨show j+1<=is.length by omega,show m+2<=n+2 by omega,At.snoc c1 c2,by rw [zld];omega,by rw [CU,iP c]⟩,by show is.length - (j+1)<is.length - j;omega,?_⟩
   dsimp only
   refine EU hf ?_ ?_ ?_ ?_ (fun a ha d5=>?_) (zna _)
   .simp (disch:=omega) only [Ao j (by omega),zld,List.length_cons,List.length_nil,go_sem]
   .simp (disch:=omega) only [go_sem]
   .simp (disch:=omega) only [go_sem]
   .simp (disch:=omega) only [go_sem]
   .have nk:¬k=a:=fun e=>d5 (by simp [e])
    repeat rw [Ak _ _ (by omega)]
  .simp (disch:=omega) only [go_sem]
   refine ⟨.mk (j+1) g' l' (n+2),⟨show j+1<=is.length by omega,show m+2<=n+2 by omega,At,Cl,by rw [CU,iN (by rw [c];decide)]⟩,by show is.length - (j+1)<is.length - j;omega,?_⟩
   dsimp only
   refine EU hf ?_ ?_ ?_ ?_ (fun a ha d5=>?_) (zna _)
   .simp (disch:=omega) only [Ao j (by omega),go_sem]
   .simp (disch:=omega) only [go_sem]
   .simp (disch:=omega) only [go_sem]
   .simp (disch:=omega) only [go_sem]
   .have nk:¬k=a:=fun e=>d5 (by simp [e])
    repeat rw [Ak _ _ (by omega)]
 .have q:j=is.length:=by simp at q;omega
  subst q
  rw [List.drop_length,Nm] at CU
  simp (disch:=omega) only [go_sem]
  refine Co (.mk g' l') ⟨At,Cl,CU.symm⟩ ?_
  unfold nxW nxR
  simp (disch:=omega) only [go_sem]
  refine ⟨Adc ?_ fun j h1 h2=>?_,BL⟩
  .simp (disch:=omega) only [go_sem]
  .repeat rw [Ak _ _ (by omega)]
end
