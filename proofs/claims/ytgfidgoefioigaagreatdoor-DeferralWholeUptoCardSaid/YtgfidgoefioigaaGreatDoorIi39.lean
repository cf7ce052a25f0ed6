/- Proof. Conditions: none. -/
import Derived.Test.YtgfidgoefioigaaGreatDoorIi38
open Go.Proofs.Tryz
open List renaming length_append→zld
open Nat renaming le_refl→zna
namespace Go.Proofs.YtgfidgoefioigaaGreatDoor
open Go.Eng
set_option linter.all false
set_option maxRecDepth 20000
set_option maxHeartbeats 1000000
def Fd (l:List (List AV)):Prop:=∃is:List B6,l=Ad A7 is∧is.length≤16∧∀x∈is,Gt x∧x.n.size≤64
structure FldB (f:Cd):Prop where
 n:f.n.size≤64
 a:Fd f.args
 tw:f.tw=Ad Dx (HJ f.tw)
 tl:f.tw.length≤24
structure DfnB (t:Az):Prop where
 n:t.n.size≤64
 im:t.impl=Bv (Gg t.impl)
 il:(Gg t.impl).length≤64
 fl:t.fields.length≤64
 f:∀f∈t.fields,FldB f
 ml:t.members.length≤64
 m:∀e∈t.members,∃x y,e=[AV.s x,.ds y]∧x.size≤64
 i:Fd t.inputs
structure DocB (doc:List Az):Prop where
 l:doc.length≤64
 d:∀t∈doc,DfnB t
theorem GN {s:ByteArray} (h:ES s=true):s.size≤64:=by
 unfold ES at h
 simp at h
 omega
theorem UI {l:List (List AV)} (h:D9 l) (hr:L8 l=true):Fd l:=by
 obtain ⟨h1,h2,h3⟩:=Classical.choose_spec h
 have e:L8 l=isR (Classical.choose h):=by unfold L8;rw [dif_pos h]
 rw [e] at hr
 unfold isR at hr
 rw [Bool.and_eq_true,decide_eq_true_eq,List.all_eq_true] at hr
 refine ⟨_,h1,hr.1,fun x hx=>⟨h3 x hx,?_⟩⟩
 have:=hr.2 x hx
 unfold XX at this
 simp only [Bool.and_eq_true] at this
 exact GN this.1.1
theorem KR:Fd []:=⟨[],rfl,by simp,by simp⟩
theorem Acq {f:Cd} (h1:D9 f.args) (h3:f.tw=Ad Dx (HJ f.tw)) (hr:ZX f=true):FldB f:=by
 unfold ZX at hr
 simp only [Bool.and_eq_true] at hr
 obtain ⟨a,b,c,d⟩:=hr
 refine ⟨GN a,UI h1 b,h3,?_⟩
 unfold Lk at c
 simp only [Bool.and_eq_true,decide_eq_true_eq] at c
 have:=c.1.2
 rw [GV] at this
 exact this
theorem XB {l:List Cd} (hd:∀f∈l,D9 f.args∧f.tw=Ad Dx (HJ f.tw)) (hr:fsR l=true):l.length≤64∧∀f∈l,FldB f:=by
 unfold fsR at hr
 simp only [Bool.and_eq_true,decide_eq_true_eq,List.all_eq_true] at hr
 exact ⟨hr.2.1,fun f hf=>Acq (hd f hf).1 (hd f hf).2 (hr.2.2 f hf)⟩
theorem XN {pl:Bool} {l:List (List AV)} (hd:∀e∈l,∃x y,e=[AV.s x,.ds y]) (hr:msR pl l=true):l.length≤64∧∀e∈l,∃x y,e=[AV.s x,.ds y]∧x.size≤64:=by
 unfold msR at hr
 simp only [Bool.and_eq_true,decide_eq_true_eq,List.all_eq_true] at hr
 refine ⟨hr.2.1,fun e he=>?_⟩
 obtain ⟨x,y,rfl⟩:=hd e he
 have:=hr.2.2 _ he
 unfold mbR at this
 simp only [Bool.and_eq_true] at this
 exact ⟨x,y,rfl,GN this.1⟩
theorem Ae2 {t:Az} (h:DfnR t) (hr:V8 t=true):DfnB t:=by
 unfold V8 at hr
 simp only [Bool.and_eq_true,decide_eq_true_eq] at hr
 obtain ⟨⟨h1,h2,h3,h4⟩,h5⟩:=hr
 have SA:(Gg t.impl).length≤64:=by
  have:(Gg t.impl).length=t.impl.length:=List.length_map ..
  omega
 have hf:∀f∈t.fields,D9 f.args∧f.tw=Ad Dx (HJ f.tw):=fun f hf=>⟨(h.w.fields f hf).1,h.tw f hf⟩
 have hm:∀e∈t.members,∃x y,e=[AV.s x,.ds y]:=h.ok.mem
 have z1:∀{l:List Cd},l.length=0→l.length≤64∧∀f∈l,FldB f:=fun e=>by
  obtain rfl:=List.length_eq_zero_iff.1 e
  exact ⟨by simp,by simp⟩
 have z2:∀{l:List (List AV)},l.length=0→l.length≤64∧∀e∈l,∃x y,e=[AV.s x,.ds y]∧x.size≤64:=fun e=>by
  obtain rfl:=List.length_eq_zero_iff.1 e
  exact ⟨by simp,by simp⟩
 have z3:∀{l:List (List AV)},l.length=0→Fd l:=fun e=>by
  obtain rfl:=List.length_eq_zero_iff.1 e
  exact KR
 have key:(t.fields.length≤64∧∀f∈t.fields,FldB f)∧(t.members.length≤64∧∀e∈t.members,∃x y,e=[AV.s x,.ds y]∧x.size≤64)∧Fd t.inputs:=by
  split at h5
  .simp only [Bool.and_eq_true,decide_eq_true_eq] at h5
   exact ⟨XB hf h5.1,z2 h5.2.1,z3 h5.2.2⟩
  split at h5
  .simp only [Bool.and_eq_true,decide_eq_true_eq] at h5
   exact ⟨XB hf h5.2.1,z2 h5.2.2.1,z3 h5.2.2.2⟩
  split at h5
  .simp only [Bool.and_eq_true,decide_eq_true_eq] at h5
   exact ⟨z1 h5.2.1,XN hm h5.2.2.1,z3 h5.2.2.2⟩
  split at h5
  .simp only [Bool.and_eq_true,decide_eq_true_eq] at h5
   exact ⟨z1 h5.2.1,XN hm h5.2.2.1,z3 h5.2.2.2⟩
  split at h5
  .simp only [Bool.and_eq_true,decide_eq_true_eq] at h5
   exact ⟨z1 h5.2.1,z2 h5.2.2.1,UI h.w.inputs h5.2.2.2.2⟩
  .cases h5
 exact ⟨GN h1,h.ok.impl,SA,key.1.1,key.1.2,key.2.1.1,key.2.1.2,key.2.2⟩
theorem Wh {l:List Az} (hd:∀t∈l,DfnR t) (h:(decide (1≤l.length)&&(decide (l.length≤64)&&l.all V8))=true):DocB l:=by
 simp only [Bool.and_eq_true,decide_eq_true_eq,List.all_eq_true] at h
 exact ⟨h.2.1,fun t ht=>Ae2 (hd t ht) (h.2.2 t ht)⟩
inductive C6 where
 | mk (e:Int) (a:ByteArray)
def C6.e:C6→Int | .mk e _=>e
theorem C6.e_mk (e:Int) (a:ByteArray):(C6.mk e a).e=e:=rfl
def C6.a:C6→ByteArray | .mk _ a=>a
theorem C6.a_mk (e:Int) (a:ByteArray):(C6.mk e a).a=a:=rfl
theorem C6.ext {x y:C6} (h0:x.e=y.e) (h1:x.a=y.a):x=y:=by cases x;cases y;simp only [C6.e_mk,C6.a_mk] at *;simp [*]
def AK (x:C6):List AV:=[.i .i64 x.e,.s x.a]
theorem O4 (l:List C6):DP 2 (Ad AK l)=True:=DL fun _=>⟨rfl,rfl⟩
attribute [go_sem] O4
attribute [go_sem] AK C6.e_mk C6.a_mk
attribute [grind =] C6.e_mk C6.a_mk
attribute [ext] C6.ext
attribute [grind ext] C6.ext
def WJ (s:ByteArray):Bool:=decide ((2:Int)≤(s.size:Int))&&decide ((((bs s).getD 0 0).toNat:Int)=95)&&decide ((((bs s).getD 1 0).toNat:Int)=95)
theorem HT (s:ByteArray) (hp:CH) (m:Nat):Ah prog 138 hp m [.s s] (.b (WJ s)):=by
 refine Am func138 (by kernel_rfl) cc138 cr138 rfl fun hf=>?_;unfold ck138
 simp only [go_sem]
 refine ⟨fun h=>?_,fun h=>?_,rfl⟩
 .simp at h;omega
 .simp at h;omega
def Vc (s:ByteArray):Bool:=ES s&&!WJ s
theorem I6 (s:ByteArray) (hp:CH) (m:Nat):Ah prog 160 hp m [.s s] (.b (Vc s)):=by
 unfold Vc
 refine Am func160 (by kernel_rfl) cc160 cr160 rfl fun hf=>?_;unfold ck160
 simp only [go_sem]
 refine Af.f (BE _ _ _) ?_
 simp only [go_sem]
 refine AA.f (fun _=>HT _ _ _) ?_
 simp only [go_sem]
theorem Sa (l:List ByteArray) (s:ByteArray) (hl:l.length≤1000000000000) (hp:CH) (m:Nat):Ah prog 162 hp m [.ds (Bv l),.s s] (.b (decide (s∈l))):=by
 obtain ⟨R,hR⟩:∃R,decide (s∈l)=R:=⟨_,rfl⟩
 rw [hR]
 refine Am func162 (by kernel_rfl) cc162 cr162 rfl fun hf=>?_;unfold ck162
 simp only [go_sem]
 refine loop (fun p:Nat × Nat=>⟨[(0,.ds (Bv l)),(1,.s s),(5,.i .i64 p.1)],hp,p.2⟩) (fun p=>p.1≤l.length∧m≤p.2∧R=decide (s∈l.drop p.1)) (fun p=>l.length - p.1) (0,m) ?_ ?_ (fun ⟨j,n⟩ hj=>?_)
 .exact ⟨by simp,by simp,hR.symm⟩
 .refine Ac ?_ (A6.refl _) (zna _)
  simp only [go_sem]
 dsimp only at hj
 obtain ⟨Cm,Ba,Aw⟩:=hj
 simp (disch:=omega) only [Aa,go_sem]
 refine Ai (fun q=>?_) (fun q=>?_)
 .have q:j<l.length:=by simpa using q
  obtain ⟨x,ex⟩:∃x,l[j]?=some x:=⟨l[j],by simp [q]⟩
  rw [A5 ex] at Aw
  simp (disch:=omega) only [Aa,q,Ag (Ab C9 ex),go_sem]
  refine Ai (fun c=>?_) (fun c=>?_)
  .have c:x=s:=by simpa using c
   have Aw:R=true:=by rw [Aw];simp [c]
   subst Aw
   simp (disch:=omega) only [Aa,Ba,go_sem]
  .have c:¬x=s:=by simpa using c
   have Aw:R=decide (s∈l.drop (j+1)):=by rw [Aw];simp [Ne.symm c]
   simp (disch:=omega) only [Aa,go_sem]
   refine ⟨(j+1,n),⟨by dsimp only;omega,by dsimp only;omega,Aw⟩,by dsimp only;omega,Ac ?_ (A6.refl _) (zna _)⟩
   simp (disch:=omega) only [Aa,At j (by omega),go_sem]
 .have q:j=l.length:=by simp at q;omega
  subst q
  rw [List.drop_length] at Aw
  have Aw:R=false:=by rw [Aw];simp
  subst Aw
  simp (disch:=omega) only [Aa,Ba,go_sem]
abbrev GS (f:FuncId) (hp:CH) (m:Nat) (args:List AV) (F:List C6):Prop:=AI prog f hp m args (Rx (fun l:List C6=>l=F) fun l Ao n' r'=>Ao=[]++hp∧n'=m∧r'=.ds (Ad AK l))
def Ff (nm:ByteArray) (bad before:Bool) (at':ByteArray):List C6:=(if bad||!Vc nm then [.mk 6 at'] else [])++(if before then [.mk 7 at'] else [])
theorem DU (nm:ByteArray) (bad before:Bool) (at':ByteArray):(Ff nm bad before at').length≤2:=by
 unfold Ff
 split<;>split<;>simp
noncomputable def Gj {α:Type} (A:Nat→α→List C6) (l:List α) (n:Nat):List C6:=(List.range n).flatMap fun j=>match l[j]? with | some x=>A j x | none=>[]
theorem EE {α:Type} {A:Nat→α→List C6} {l:List α} {j:Nat} {x:α} (e:l[j]?=some x):Gj A l (j+1)=Gj A l j++A j x:=by
 unfold Gj
 rw [List.range_succ,List.flatMap_append]
 simp [e]
theorem CV {α:Type} {A:Nat→α→List C6} {l:List α} {B:Nat} (h:∀j x,l[j]?=some x→(A j x).length≤B):∀n,(Gj A l n).length≤B*n
 | 0=>by simp [Gj]
 | n+1=>by
  have ih:=CV h n
  cases e:l[n]? with
  | none =>
   have:Gj A l (n+1)=Gj A l n:=by unfold Gj;rw [List.range_succ,List.flatMap_append];simp [e]
   rw [this,Nat.mul_add]
   omega
  | some x =>
   have:=h n x e
   rw [EE e,zld,Nat.mul_add]
   omega
theorem Jv (nm:ByteArray) (bad before:Bool) (at':ByteArray) (hp:CH) (m:Nat):GS 124 hp m [.s nm,.b bad,.b before,.s at'] (Ff nm bad before at'):=by
 have hA:=I6 nm
 obtain ⟨ab,ST⟩:∃b,Vc nm=b:=⟨_,rfl⟩
 rw [ST] at hA
 have hF:Ff nm bad before at'=(if bad||!ab then [.mk 6 at'] else [])++(if before then [.mk 7 at'] else []):=by unfold Ff;rw [ST]
 obtain ⟨F,hFF⟩:∃F,Ff nm bad before at'=F:=⟨_,rfl⟩
 rw [hFF] at hF ⊢
 refine ER (fun l:List C6=>l=F) (fun _=>[]) (fun l=>.ds (Ad AK l)) func124 (by kernel_rfl) cc124 cr124 rfl (fun hf i hi=>trivial) fun hf=>?_
 unfold ck124
 simp only [go_sem]
 refine AA.f (fun _=>hA _ _) ?_
 simp only [go_sem]
 refine Ai (fun c=>?_) (fun c=>?_)
 .simp only [go_sem]
  cases before
  .simp only [go_sem]
   refine BY [.mk 6 at'] (by rw [hF];simp [c]) ?_
   simp only [go_sem]
   try rfl
  .simp only [go_sem]
   refine BY [.mk 6 at',.mk 7 at'] (by rw [hF];simp [c]) ?_
   simp only [go_sem]
   try rfl
 .cases before
  .simp only [go_sem]
   refine BY [] (by rw [hF];simp [c]) ?_
   simp only [go_sem]
   try rfl
  .simp only [go_sem]
   refine BY [.mk 7 at'] (by rw [hF];simp [c]) ?_
   simp only [go_sem]
   try rfl
end Go.Proofs.YtgfidgoefioigaaGreatDoor
namespace Go.Eng
set_option linter.all false
theorem AI.e0w {P:Program} {f:FuncId} {hp:CH} {n:Nat} {args args':List AV} {i m:Nat} {R:CH→Nat→AV→Prop} (hi:args[i]?=some .e0) (SC:args'=args.set i (.rw n 0 0))
  (c:AI P f ((n,.rw 0 m [])::hp) (n+1) args' R):AI P f hp n args R:=by
 subst SC
 refine ⟨c.1,fun h ρ w vs hs ha=>?_⟩
 have Ip:∀g,ρ n g=none:=fun g=>hs.fr n g (zna _)
 have hle:BS ρ (Bs ρ n 0 (none,0)):=BD _ (Ip 0)
 have JL:SatH h (Bs ρ n 0 (none,0)) ((n,.rw 0 m [])::hp) (n+1) w:=by
  refine hs.put n _ hle (fun k' g' hk=>AL _ _ hk) (fun b _ _=>rfl) (zna _) ?_ ?_ ?_ ?_
  .exact ⟨none,0,Ay _ _ _ _,by simp,by unfold maxLen;omega,(fun j e h=>by simp at h),(fun _=>rfl),(fun b hb=>by cases hb)⟩
  .intro g b c hg hr
   cases hg
   rw [Ay] at hr
   cases hr
  .intro k' g' hk
   rw [AL _ _ (by omega)]
   exact hs.fr k' g' (by omega)
  .intro g2 g' y e1 hr
   cases e1
   by_cases hgg:g'=0
   .omega
   .unfold Bs at hr
    rw [if_neg (by omega),Ip g'] at hr
    cases hr
 have hl0:∀b,A9 (Bs ρ n 0 (none,0)) ((n,.rw 0 m [])::hp) b→A9 ρ hp b:=fun b ⟨j,g,c,q,x⟩=>by
  by_cases hj:n=j
  .subst hj
   rw [Av] at q
   cases q
   rw [Ay] at x
   cases x
  .rw [Aq _ _ hj] at q
   rw [AL _ _ (fun e=>hj e.symm)] at x
   exact ⟨j,g,c,q,x⟩
 have ra:Br h (Bs ρ n 0 (none,0)) (args.set i (.rw n 0 0)) vs:=by
  refine ⟨by rw [List.length_set];exact ha.1,fun j α v e1 e2=>?_⟩
  by_cases hj:i=j
  .subst hj
   have BH:i<args.length:=(List.getElem?_eq_some_iff.1 hi).1
   rw [List.getElem?_set_self BH] at e1
   cases e1
   have:=ha.2 i _ v hi e2
   cases this with
   | pu _ _ p=>cases p with | e0 a=>exact .rw _ _ _ _ a none (Ay _ _ _ _) (zna _) (fun b hb=>by cases hb)
  .rw [List.getElem?_set_ne hj] at e1
   exact (ha.2 j α v e1 e2).mono (B8.refl _) hle
 refine (c.2 h _ w vs JL ra).mono fun _ w' ⟨v,he,h',ρ',Ao,n',r',q,hh,hr,hm,BW,Gx,hl⟩=>?_
 exact ⟨v,he,h',ρ',Ao,n',r',q,hh,hle.trans hr,hm,BW,⟨Gx.os,Gx.tape,Gx.output,Gx.size,fun b hb hx=>Gx.block b hb fun q=>hx (hl0 b q)⟩,fun b hb=>(hl b hb).imp (hl0 b) id⟩
end Go.Eng
namespace Go.Proofs.YtgfidgoefioigaaGreatDoor
open Go.Eng
set_option linter.all false
set_option maxRecDepth 20000
set_option maxHeartbeats 1000000
theorem K3 (l:List ByteArray) (s:ByteArray) (hl:l.length≤1000000000000) {k g:Nat} {hp:CH} (hk:gc hp k=.rw g 1 (Bv l)) (m:Nat):Ah prog 162 hp m [.rw k g l.length,.s s] (.b (decide (s∈l))):=by
 have hSl:(Bv l).length=l.length:=Ax _ _
 have ht:(Bv l).take l.length=Bv l:=List.take_of_length_le (by omega)
 refine Ah.lend (R:=[(k,.sh g 1 (Bv l))]) (B:=[]) ⟨.inl hk,trivial⟩ trivial ?_ rfl (Sa l s hl _ _)
 simp (disch:=omega) only [Aa,hSl,ht,go_sem]
 try rfl
def Tu (w:List Int):Bool:=decide (w=[1])
theorem Rm (n:ByteArray) (w:List Int) (hp:CH) (m:Nat):Ah prog 175 hp m [DC n w] (.b (Tu w)):=by
 refine Am func175 (by kernel_rfl) cc175 cr175 rfl fun hf=>?_;unfold ck175
 match w with
 | [] =>
  simp only [go_sem]
  try rfl
 | [a] =>
  simp only [go_sem]
  simp [Tu]
 | a::b::r =>
  have e:decide ((r.length:Int)+2=1)=false:=decide_eq_false (by omega)
  have e2:Tu (a::b::r)=false:=by simp [Tu]
  simp (disch:=omega) only [Aa,e2,go_sem]
  refine HD (fun h=>?_) (fun h=>?_)
  .simp at h
   omega
  .have e9:decide (((r.length+2:Nat):Int)=1)=false:=h
   rw [Int.natCast_add] at e9
   simp (disch:=omega) only [Aa,e,h,e9,go_sem]
   first | trivial | (simp;omega) | (refine ⟨fun q=>?_,?_⟩;· (simp at q;omega);· (simp;omega)) | trace_state
def WI (doc:List Az) (own:ByteArray) (l:List ByteArray):Prop:=l.Nodup∧∀s∈l,s=own∨s∈doc.map Az.n
theorem TY {doc:List Az} {n:ByteArray} (h:(A1 doc n).isSome=true):n∈doc.map Az.n:=by
 unfold A1 at h
 rw [List.find?_isSome] at h
 obtain ⟨t,ht,e⟩:=h
 have e:t.n=n:=by simpa using e
 exact List.mem_map.2 ⟨t,ht,e⟩
theorem KW {α:Type} [DecidableEq α]:∀{a b:List α},a.Nodup→(∀x∈a,x∈b)→a.length≤b.length
 | [],b,_,_=>by simp
 | x::a,b,hn,h=>by
  obtain ⟨h1,h2⟩:=List.nodup_cons.1 hn
  have hx:=h x (by simp)
  have:=KW (a:=a) (b:=b.erase x) h2 fun y hy=>(List.mem_erase_of_ne (fun e=>h1 (by rw [←e];exact hy))).2 (h y (by simp [hy]))
  rw [List.length_erase_of_mem hx] at this
  have:0<b.length:=List.length_pos_of_mem hx
  simp only [List.length_cons]
  omega
theorem WI.len {doc:List Az} {own:ByteArray} {l:List ByteArray} (h:WI doc own l):l.length≤doc.length+1:=by
 have:=KW (b:=own::doc.map Az.n) h.1 fun s hs=>by
  rcases h.2 s hs with e | e
  .rw [e];simp
  .exact List.mem_cons_of_mem _ e
 simpa using this
theorem WI.snoc {doc:List Az} {own s:ByteArray} {l:List ByteArray} (h:WI doc own l) (h1:s ∉ l) (h2:s=own∨s∈doc.map Az.n):WI doc own (l++[s]):=by
 refine ⟨?_,fun x hx=>?_⟩
 .rw [List.nodup_append]
  refine ⟨h.1,by simp,fun a ha b hb=>?_⟩
  simp at hb
  subst hb
  exact fun e=>h1 (e ▸ ha)
 .rcases List.mem_append.1 hx with hx | hx
  .exact h.2 x hx
  .simp at hx;subst hx;exact h2
theorem Aag {m c:Nat} {X:Ap} {hp a:CH} (h1:gc a c=X) (h3:∀j,j<m→j≠c→gc a j=gc hp j):Up m ((c,X)::hp) a:=fun j hj=>by
 by_cases e:c=j
 .subst e;rw [Av];exact h1
 .rw [Aq _ _ e];exact h3 j hj (fun q=>e q.symm)
inductive NxI
 | mk (g:Nat) (l:List ByteArray)
noncomputable def LD (doc:List Az) (own:ByteArray):List B6→List ByteArray→List ByteArray
 | [],l=>l
 | x::r,l=>LD doc own r (if (Tu x.tw&&(decide (x.tn=own)||((A1 doc x.tn).isSome&&decide (((A1 doc x.tn).getD Dv).k=5))))&&!decide (x.tn∈l) then l++[x.tn] else l)
noncomputable def AZ (l:List (List AV)):List B6:=by
 classical
 exact if h:Fd l then Classical.choose h else []
theorem B9 {l:List (List AV)} (h:Fd l):l=Ad A7 (AZ l)∧(AZ l).length≤16∧∀x∈AZ l,Gt x∧x.n.size≤64:=by
 unfold AZ
 rw [dif_pos h]
 exact Classical.choose_spec h
def nxP (doc:List Az) (own:ByteArray) (n:Nat) (T:List ByteArray):NxI→Prop
 | .mk g l=>WI doc own l∧n≤l.length∧l=T
def nxW (k:Nat):NxI→CH
 | .mk g l=>[(k,.rw g 1 (Bv l))]
def nxR (k:Nat):NxI→AV
 | .mk g l=>.rw k g l.length
inductive NxS
 | mk (j g:Nat) (l:List ByteArray) (n:Nat)
theorem QJ (doc:List Az) (FH:doc.length≤64) (t:Az) (ht:Fd t.inputs) (own:ByteArray) (k g:Nat) (l:List ByteArray) (hl:WI doc own l) (hp:CH) (hk:gc hp k=.rw g 1 (Bv l)) (m:Nat) :
  AI prog 161 hp m [B5 doc,JN t,.s own,.rw k g l.length] (Rx (nxP doc own l.length (LD doc own (AZ t.inputs) l)) fun i Ao n' r'=>Ao=nxW k i++hp∧n'=m∧r'=nxR k i):=by
 obtain ⟨his,SR,hio⟩:=B9 ht
 obtain ⟨is,hise⟩:∃is,AZ t.inputs=is:=⟨_,rfl⟩
 rw [hise] at his SR hio ⊢
 obtain ⟨T,hT⟩:∃T,LD doc own is l=T:=⟨_,rfl⟩
 rw [hT]
 refine ER (nxP doc own l.length T) (nxW k) (nxR k) func161 (by kernel_rfl) cc161 cr161 rfl (fun hf i hi=>?_) fun hf=>?_
 .cases i
  exact ⟨M4 hf hk,trivial,trivial⟩
 have BH:=M4 hf hk
 unfold ck161
 simp only [JN]
 rw [his]
 simp only [go_sem]
 refine loop (fun p:NxS=>match p with
  | .mk j g' l' n=>⟨[(2,.s own),(3,.rw k g' l'.length),(4,.bx m 0),(5,.bx (m+1) 0),(9,.i .i64 j)],(k,.rw g' 1 (Bv l'))::(m,.bx [.ds (Ad BB doc)])::(m+1,.bx [.i .i64 t.k,.s t.n,.ds t.impl,.ds t.dirs,.ds (Ad Bq t.fields),.ds t.members,.ds (Ad A7 is)])::hp,n⟩)
  (fun p=>match p with | .mk j g' l' n=>j≤is.length∧m+2≤n∧WI doc own l'∧l.length≤l'.length∧T=LD doc own (is.drop j) l') (fun p=>match p with | .mk j g' l' n=>is.length - j) (.mk 0 g l (m+2)) ?_ ?_ (fun p hj=>?_)
 .exact ⟨Nat.zero_le _,zna _,hl,zna _,hT.symm⟩
 .dsimp only
  refine Ac ?_ (Ae.sub (Ae.cons ?_ (Ae.cons ?_ (Ae.cons ?_ (Ae.base hf fun a ha hax=>?_))))) (zna _)
  .simp (disch:=omega) only [Aa,go_sem]
  .simp (disch:=omega) only [Aa,hk,go_sem]
  .simp (disch:=omega) only [Aa,go_sem]
  .simp (disch:=omega) only [Aa,go_sem]
  .repeat rw [Aq _ _ (by omega)]
 obtain ⟨j,g',l',n⟩:=p
 obtain ⟨Cm,Ba,Aw,Cc,Dt⟩:=hj
 have hll:=Aw.len
 dsimp only
 simp (disch:=omega) only [Aa,go_sem]
 refine Ai (fun q=>?_) (fun q=>?_)
 .have q:j<is.length:=by simpa using q
  obtain ⟨x,ex⟩:∃x,is[j]?=some x:=⟨is[j],by simp [q]⟩
  have hX:=Rm x.tn x.tw
  have hF:=BM doc (by omega) x.tn
  obtain ⟨R,hR⟩:∃R,A1 doc x.tn=R:=⟨_,rfl⟩
  rw [A5 ex,LD,hR] at Dt
  rw [hR] at hF
  unfold DH at hF
  have hH:=fun Ao (e:gc Ao k=.rw g' 1 (Bv l')) m'=>K3 l' x.tn (by omega) e m'
  simp (disch:=omega) only [Aa,q,Ag (Ab A7 ex),go_sem]
  refine Af.f (hF _ _) ?_
  simp (disch:=omega) only [Aa,go_sem]
  refine Af.f (hX _ _) ?_
  simp (disch:=omega) only [Aa,go_sem]
  refine AA.f (fun _=>hH _ (by (simp (disch:=omega) only [Aa,go_sem])) _) ?_
  simp (disch:=omega) only [Aa,go_sem]
  refine Ai (fun c=>?_) (fun c=>?_)
  .have c1:x.tn ∉ l':=by
    rw [Bool.and_eq_true] at c
    simpa using c.2
   have c2:x.tn=own∨x.tn∈doc.map Az.n:=by
    simp only [Bool.and_eq_true,Bool.or_eq_true,decide_eq_true_eq] at c
    rcases c.1.2 with e | e
    .exact .inl e
    .exact .inr (TY (by rw [hR];exact e.1))
   have k1:(l'.length+1)*16≤140737488355328:=by omega
   have k2:l'.length+1≤9223372036854775807:=by omega
   have hSl:(Bv l').length=l'.length:=Ax _ _
   have hsn:Bv l'++[[.s x.tn]]=Bv (l'++[x.tn]):=Bi C9 _ _
   simp (disch:=omega) only [Aa,hSl,k1,k2,hsn,go_sem]
   refine ⟨.mk (j+1) (g'+1) (l'++[x.tn]) (n+2),⟨show j+1≤is.length by omega,show m+2≤n+2 by omega,Aw.snoc c1 c2,by rw [zld];omega,by rw [Dt,if_pos c]⟩,by show is.length - (j+1)<is.length - j;omega,?_⟩
   dsimp only
   refine Ac ?_ (Ae.sub (Ae.cons ?_ (Ae.cons ?_ (Ae.cons ?_ (Ae.base hf fun a ha hax=>?_))))) (zna _)
   .simp (disch:=omega) only [Aa,At j (by omega),zld,List.length_cons,List.length_nil,go_sem]
   .simp (disch:=omega) only [Aa,go_sem]
   .simp (disch:=omega) only [Aa,go_sem]
   .simp (disch:=omega) only [Aa,go_sem]
   .have nk:¬k=a:=fun e=>hax (by simp [e])
    repeat rw [Aq _ _ (by omega)]
  .simp (disch:=omega) only [Aa,go_sem]
   refine ⟨.mk (j+1) g' l' (n+2),⟨show j+1≤is.length by omega,show m+2≤n+2 by omega,Aw,Cc,by rw [Dt,if_neg (by rw [c];decide)]⟩,by show is.length - (j+1)<is.length - j;omega,?_⟩
   dsimp only
   refine Ac ?_ (Ae.sub (Ae.cons ?_ (Ae.cons ?_ (Ae.cons ?_ (Ae.base hf fun a ha hax=>?_))))) (zna _)
   .simp (disch:=omega) only [Aa,At j (by omega),go_sem]
   .simp (disch:=omega) only [Aa,go_sem]
   .simp (disch:=omega) only [Aa,go_sem]
   .simp (disch:=omega) only [Aa,go_sem]
   .have nk:¬k=a:=fun e=>hax (by simp [e])
    repeat rw [Aq _ _ (by omega)]
 .have q:j=is.length:=by simp at q;omega
  subst q
  rw [List.drop_length,LD] at Dt
  simp (disch:=omega) only [Aa,go_sem]
  refine BY (.mk g' l') ⟨Aw,Cc,Dt.symm⟩ ?_
  unfold nxW nxR
  simp (disch:=omega) only [Aa,go_sem]
  refine ⟨Aag ?_ fun j h1 h2=>?_,BH⟩
  .simp (disch:=omega) only [Aa,go_sem]
  .repeat rw [Aq _ _ (by omega)]
end Go.Proofs.YtgfidgoefioigaaGreatDoor
