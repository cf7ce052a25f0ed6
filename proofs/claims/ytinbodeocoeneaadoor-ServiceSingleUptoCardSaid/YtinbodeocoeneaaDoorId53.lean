/- Proof. Conditions: none. -/
import Derived.Test.YtinbodeocoeneaaDoorId52
open Nat renaming reduceEqDiff→Za,reduceBEq→Zb,reduceAdd→Zc,reduceLeDiff→Zd,reduceLT→Ze,reduceMul→Zf,reduceSub→Zg
open Int renaming reduceEq→Zh,reduceLT→Zi,reduceLE→Zj,reduceToNat→Zk
open Nat renaming le_refl→zna
namespace Go.Proofs.YtinbodeocoeneaaDoor
open Go.Eng
set_option linter.all false
set_option maxRecDepth 20000
set_option maxHeartbeats 1000000
def leftF (f:List Pk→Int→Int):List Pk→Int→Int
 | [],n=>n
 | p::r,n=>if 0≤n then (if 0<p.picks.length then leftF f r (f p.picks n) else leftF f r n) else n
def leftN:Nat→List Pk→Int→Int
 | 0,_,_=>-1
 | k+1,l,n=>leftF (leftN k) l (n - l.length)
theorem leftF_neg {f:List Pk→Int→Int} {n:Int} (h:n<0):∀l,leftF f l n=n
 | []=>rfl
 | p::r=>by rw [leftF,if_neg (by omega)]
theorem leftF_le {f:List Pk→Int→Int} (h:∀l m,0≤m→f l m≤m):∀l n,leftF f l n≤n
 | [],n=>Int.le_refl _
 | p::r,n=>by
  rw [leftF]
  split
  .split
   .exact Int.le_trans (leftF_le h r _) (h _ _ (by assumption))
   .exact leftF_le h r n
  .exact Int.le_refl _
theorem leftN_le:∀k l n,0≤n→leftN k l n≤n
 | 0,l,n,h=>by rw [leftN];omega
 | k+1,l,n,h=>by
  rw [leftN]
  have:=leftF_le (leftN_le k) l (n - l.length)
  omega
theorem left_ok:∀(k:Nat),k≤10→∀(l:List Pk),l.length≤1048576→(∀x∈l,x.Ok)→∀n:Int,0≤n→n≤60→∀hp m,MeetsF Tryd.prog 29 hp m [.ds (mapC pkC l),.i .i64 n,.i .i64 k] (.i .i64 (leftN k l n))
 | 0,hk,l,hl,hpo,n,h0,h1,hp,m=>by
  rw [leftN]
  refine meetsF Tryd.func29 (by kernel_rfl) cc29 cr29 rfl fun hf=>?_;unfold ck29
  simp (disch:=omega) only [ite_ne,go_sem,↓reduceIte,Za,Zb,Zc,Zd,Ze,reduceCtorEq,Zf,Zg,Zh,Zi,Zj,Zk]
 | k+1,hk,l,hl,hpo,n,h0,h1,hp,m=>by
  have ih:=left_ok k (by omega)
  obtain ⟨R,hR⟩:∃R,leftN (k+1) l n=R:=⟨_,rfl⟩
  have e:=hR
  rw [leftN] at e
  rw [hR]
  have hle:=leftN_le k
  have w1:IntKind.i64.wrap (n - (l.length:Int))=n - l.length:=wr64 (by omega)
  have w2:decide (((k+1:Nat):Int)≤0)=false:=decide_eq_false (by omega)
  have w3:IntKind.i64.wrap (((k+1:Nat):Int) - 1)=k:=by rw [wr64 (by omega)];omega
  refine meetsF Tryd.func29 (by kernel_rfl) cc29 cr29 rfl fun hf=>?_;unfold ck29
  simp (disch:=omega) only [ite_ne,w1,w2,go_sem,↓reduceIte,Za,Zb,Zc,Zd,Ze,reduceCtorEq,Zf,Zg,Zh,Zi,Zj,Zk]
  refine loop (fun q:Nat × Int × Nat=>⟨[(0,.ds (mapC pkC l)),(1,.i .i64 q.2.1),(2,.i .i64 (k+1:Nat)),(7,.i .i64 q.1)],hp,q.2.2⟩)
   (fun q=>q.1≤l.length∧m≤q.2.2∧q.2.1≤60∧leftF (leftN k) (l.drop q.1) q.2.1=R) (fun q=>l.length - q.1) (0,n - l.length,m) ?_ ?_ (fun ⟨j,v,n2⟩ hj=>?_)
  .exact ⟨Nat.zero_le _,zna _,by dsimp only;omega,e⟩
  .refine weak_ok ?_ (Sub.base hf ?_) (zna _)
   all_goals (simp (disch:=omega) only [ite_ne,go_sem,↓reduceIte,Za,Zb,Zc,Zd,Ze,reduceCtorEq,Zf,Zg,Zh,Zi,Zj,Zk])
  dsimp only at hj
  obtain ⟨hj1,hj2,hj3,hj4⟩:=hj
  simp (disch:=omega) only [ite_ne,go_sem,↓reduceIte,Za,Zb,Zc,Zd,Ze,reduceCtorEq,Zf,Zg,Zh,Zi,Zj,Zk]
  refine cdK_of (fun q=>?_) (fun q=>?_)
  .have q:j<l.length∧0≤v:=by simpa using q
   obtain ⟨x,ex⟩:∃x,l[j]?=some x:=⟨l[j]'(by omega),by simp [q.1]⟩
   have hxo:=hpo x (List.mem_of_getElem? ex)
   rw [drop_at ex,leftF,if_pos q.2] at hj4
   have hI:=ih x.picks hxo.l (fun y hy=>hxo.x hy) v q.2 hj3
   have hI2:=hle x.picks v q.2
   obtain ⟨V,hV⟩:∃V,leftN k x.picks v=V:=⟨_,rfl⟩
   rw [hV] at hI hI2 hj4
   simp (disch:=omega) only [ite_ne,q.1,getK_s (mapC_get pkC ex),go_sem,↓reduceIte,Za,Zb,Zc,Zd,Ze,reduceCtorEq,Zf,Zg,Zh,Zi,Zj,Zk]
   refine cdK_of (fun c=>?_) (fun c=>?_)
   .have c:0<x.picks.length:=by simpa using c
    rw [if_pos c] at hj4
    simp (disch:=omega) only [ite_ne,q.1,getK_s (mapC_get pkC ex),w3,go_sem,↓reduceIte,Za,Zb,Zc,Zd,Ze,reduceCtorEq,Zf,Zg,Zh,Zi,Zj,Zk]
    refine vcCall.f (hI _ _) ?_
    simp (disch:=omega) only [ite_ne,go_sem,↓reduceIte,Za,Zb,Zc,Zd,Ze,reduceCtorEq,Zf,Zg,Zh,Zi,Zj,Zk]
    refine ⟨(j+1,V,_),⟨by dsimp only;omega,by dsimp only;omega,by dsimp only;omega,hj4⟩,by dsimp only;omega,weak_ok ?_ (Sub.base hf ?_) (zna _)⟩
    all_goals
     simp (disch:=omega) only [ite_ne,wr64s j (by omega),hj2,go_sem,↓reduceIte,Za,Zb,Zc,Zd,Ze,reduceCtorEq,Zf,Zg,Zh,Zi,Zj,Zk]
   .have c:¬0<x.picks.length:=by simpa using c
    rw [if_neg c] at hj4
    simp (disch:=omega) only [ite_ne,go_sem,↓reduceIte,Za,Zb,Zc,Zd,Ze,reduceCtorEq,Zf,Zg,Zh,Zi,Zj,Zk]
    refine ⟨(j+1,v,_),⟨by dsimp only;omega,by dsimp only;omega,by dsimp only;omega,hj4⟩,by dsimp only;omega,weak_ok ?_ (Sub.base hf ?_) (zna _)⟩
    all_goals
     simp (disch:=omega) only [ite_ne,wr64s j (by omega),hj2,go_sem,↓reduceIte,Za,Zb,Zc,Zd,Ze,reduceCtorEq,Zf,Zg,Zh,Zi,Zj,Zk]
  .have hR2:v=R:=by
    by_cases c:j=l.length
    .rw [c,List.drop_length] at hj4
     exact hj4
    .rw [leftF_neg] at hj4
     .exact hj4
     .have:¬(j<l.length∧0≤v):=by simpa using q
      omega
   subst hR2
   simp (disch:=omega) only [ite_ne,hj2,go_sem,↓reduceIte,Za,Zb,Zc,Zd,Ze,reduceCtorEq,Zf,Zg,Zh,Zi,Zj,Zk]
theorem large34_ok (l:List Pk) (hl:l.length≤1048576) (hpo:∀x∈l,x.Ok) (hp:CH) (m:Nat):MeetsF Tryd.prog 11 hp m [.ds (mapC pkC l),.i .i64 6] (.b (decide (leftN 6 l 60<0))):=by
 have h1:=left_ok 6 (by omega) l hl hpo 60 (by omega) (by omega)
 have h1:∀hp m,MeetsF Tryd.prog 29 hp m [.ds (mapC pkC l),.i .i64 60,.i .i64 6] (.i .i64 (leftN 6 l 60)):=h1
 obtain ⟨R,hR⟩:∃R,leftN 6 l 60=R:=⟨_,rfl⟩
 rw [hR] at h1 ⊢
 refine meetsF Tryd.func11 (by kernel_rfl) cc11 cr11 rfl fun hf=>?_;unfold ck11
 simp only [go_sem,↓reduceIte,Za,Zb,Zc,Zd,Ze,reduceCtorEq,Zf,Zg,Zh,Zi,Zj,Zk]
 refine vcCall.f (h1 _ _) ?_
 simp only [go_sem,↓reduceIte,Za,Zb,Zc,Zd,Ze,reduceCtorEq,Zf,Zg,Zh,Zi,Zj,Zk]
noncomputable def bulkB (g:List Dfn) (s:Sup) (d:Dat) (l:List Pk):Bool:=(((lgDoc g||lgDoc s.doc)||lgD d)||decide (400<(s.joins.length:Int)))||decide (leftN 6 l 60<0)
theorem bulky_ok (gn:ByteArray) (g:List Dfn) (s:Sup) (d:Dat) (c:GOk g s d) (l:List Pk) (hl:l.length≤1048576) (hpo:∀x∈l,x.Ok) (hp:CH) (m:Nat):MeetsF Tryd.prog 4 hp m [casegx gn g s d,.ds (mapC pkC l)] (.b (bulkB g s d l)):=by
 have h1:=rLargeS_ok g (Nat.le_trans c.g (by omega)) c.gf
 have h2:=rLargeS_ok s.doc (Nat.le_trans c.s.d (by omega)) c.f
 have h3:=large_ok d c.d.f.f
 have h4:=large34_ok l hl hpo
 rw [bulkB]
 obtain ⟨a1,e1⟩:∃x,lgDoc g=x:=⟨_,rfl⟩
 obtain ⟨a2,e2⟩:∃x,lgDoc s.doc=x:=⟨_,rfl⟩
 obtain ⟨a3,e3⟩:∃x,lgD d=x:=⟨_,rfl⟩
 obtain ⟨a4,e4⟩:∃x,decide (leftN 6 l 60<0)=x:=⟨_,rfl⟩
 rw [e1] at h1 ⊢
 rw [e2] at h2 ⊢
 rw [e3] at h3 ⊢
 rw [e4] at h4 ⊢
 refine meetsF Tryd.func4 (by kernel_rfl) cc4 cr4 rfl fun hf=>?_;unfold ck4
 simp only [go_sem,↓reduceIte,Za,Zb,Zc,Zd,Ze,reduceCtorEq,Zf,Zg,Zh,Zi,Zj,Zk]
 refine vcCall.f (h1 _ _) ?_
 simp only [go_sem,↓reduceIte,Za,Zb,Zc,Zd,Ze,reduceCtorEq,Zf,Zg,Zh,Zi,Zj,Zk]
 refine gCall.f (fun _=>h2 _ _) ?_
 simp only [go_sem,↓reduceIte,Za,Zb,Zc,Zd,Ze,reduceCtorEq,Zf,Zg,Zh,Zi,Zj,Zk]
 refine gCall.f (fun _=>h3 _ _) ?_
 simp only [go_sem,↓reduceIte,Za,Zb,Zc,Zd,Ze,reduceCtorEq,Zf,Zg,Zh,Zi,Zj,Zk]
 refine gCall.f (fun _=>h4 _ _) ?_
 simp only [go_sem,↓reduceIte,Za,Zb,Zc,Zd,Ze,reduceCtorEq,Zf,Zg,Zh,Zi,Zj,Zk]
noncomputable def knB (g:List Dfn) (typ:ByteArray) (l:List Pk):Bool:=l.all fun p=>!decide (p.on=typ)||defB g typ p.name
theorem vKnows_ok (gn:ByteArray) (g:List Dfn) (hg:g.length≤1048576) (hgf:∀t∈g,t.fields.length≤1000000000000) (typ:ByteArray) (l:List Pk) (hl:l.length≤1048576) (hc:∀p∈l,p.picks=[]) (hp:CH) (m:Nat) :
  MeetsF Tryd.prog 13 hp m [grx gn g,.s typ,.ds (mapC pkC l)] (.b (knB g typ l)):=by
 obtain ⟨R,hR⟩:∃R,knB g typ l=R:=⟨_,rfl⟩
 have e:=hR
 rw [knB] at e
 rw [hR]
 refine meetsF Tryd.func13 (by kernel_rfl) cc13 cr13 rfl fun hf=>?_;unfold ck13
 simp only [go_sem,↓reduceIte,Za,Zb,Zc,Zd,Ze,reduceCtorEq,Zf,Zg,Zh,Zi,Zj,Zk]
 refine loop (fun q:Nat × Nat=>⟨[(1,.s typ),(3,.bx m 0),(11,.ds (mapC pkC l)),(12,.i .i64 l.length),(13,.i .i64 q.1)],(m,.bx [.s gn,.ds (mapC dfC g)])::hp,q.2⟩)
  (fun q=>q.1≤l.length∧m+1≤q.2∧R=(l.drop q.1).all fun p=>!decide (p.on=typ)||defB g typ p.name) (fun q=>l.length - q.1) (0,m+1) ?_ ?_ (fun ⟨j,n⟩ hj=>?_)
 .exact ⟨by simp,by simp,e.symm⟩
 .refine weak_ok ?_ (Sub.cons ?_ (Sub.base hf ?_)) (zna _)
  all_goals (simp (disch:=omega) only [ite_ne,go_sem,↓reduceIte,Za,Zb,Zc,Zd,Ze,reduceCtorEq,Zf,Zg,Zh,Zi,Zj,Zk])
 dsimp only at hj
 obtain ⟨hj1,hj2,hj3⟩:=hj
 have hmn:m≤n:=by omega
 simp (disch:=omega) only [ite_ne,go_sem,↓reduceIte,Za,Zb,Zc,Zd,Ze,reduceCtorEq,Zf,Zg,Zh,Zi,Zj,Zk]
 refine cdK_of (fun q=>?_) (fun q=>?_)
 .have q:j<l.length:=by simpa using q
  obtain ⟨x,ex⟩:∃x,l[j]?=some x:=⟨l[j],by simp [q]⟩
  have hpk:=hc x (List.mem_of_getElem? ex)
  rw [drop_at ex,List.all_cons] at hj3
  have hD:=vdefines_ok gn g hg hgf typ x.name
  obtain ⟨b,hb⟩:∃b,defB g typ x.name=b:=⟨_,rfl⟩
  rw [hb] at hD hj3
  simp (disch:=omega) only [ite_ne,q,getK_s (mapC_get pkC ex),go_sem,↓reduceIte,Za,Zb,Zc,Zd,Ze,reduceCtorEq,Zf,Zg,Zh,Zi,Zj,Zk]
  refine cdK_of (fun c=>?_) (fun c=>?_)
  .have c:¬x.on=typ:=by simpa using c
   rw [decide_eq_false c,Bool.not_false,Bool.true_or,Bool.true_and] at hj3
   simp (disch:=omega) only [ite_ne,go_sem,↓reduceIte,Za,Zb,Zc,Zd,Ze,reduceCtorEq,Zf,Zg,Zh,Zi,Zj,Zk]
   refine ⟨(j+1,_),⟨by dsimp only;omega,by dsimp only;omega,hj3⟩,by dsimp only;omega,weak_ok ?_ (Sub.cons ?_ (Sub.base hf ?_)) (zna _)⟩
   all_goals
    simp (disch:=omega) only [ite_ne,wr64s j (by omega),hmn,go_sem,↓reduceIte,Za,Zb,Zc,Zd,Ze,reduceCtorEq,Zf,Zg,Zh,Zi,Zj,Zk]
  .have c:x.on=typ:=by simpa using c
   rw [decide_eq_true c,Bool.not_true,Bool.false_or] at hj3
   simp (disch:=omega) only [ite_ne,go_sem,↓reduceIte,Za,Zb,Zc,Zd,Ze,reduceCtorEq,Zf,Zg,Zh,Zi,Zj,Zk]
   refine vcCall.f (hD _ _) ?_
   cases b with
   | false =>
    rw [Bool.false_and] at hj3
    subst hj3
    simp (disch:=omega) only [ite_ne,hmn,go_sem,↓reduceIte,Za,Zb,Zc,Zd,Ze,reduceCtorEq,Zf,Zg,Zh,Zi,Zj,Zk]
   | true =>
    rw [Bool.true_and] at hj3
    simp (disch:=omega) only [ite_ne,hpk,mapC_nil,List.length_nil,go_sem,↓reduceIte,Za,Zb,Zc,Zd,Ze,reduceCtorEq,Zf,Zg,Zh,Zi,Zj,Zk]
    refine loop (fun q:Nat=>⟨[(1,.s typ),(3,.bx m 0),(11,.ds (mapC pkC l)),(12,.i .i64 l.length),(13,.i .i64 j),(28,.ds []),(29,.i .i64 0),(30,.i .i64 0)],(m,.bx [.s gn,.ds (mapC dfC g)])::hp,q⟩)
     (fun q=>m+1≤q) (fun q=>0) (n+1) ?_ ?_ (fun n2 hj4=>?_)
    .omega
    .refine weak_ok ?_ (Sub.cons ?_ (Sub.base hf ?_)) (zna _)
     all_goals (simp (disch:=omega) only [ite_ne,hmn,go_sem,↓reduceIte,Za,Zb,Zc,Zd,Ze,reduceCtorEq,Zf,Zg,Zh,Zi,Zj,Zk])
    have hmn2:m≤n2:=by omega
    simp (disch:=omega) only [ite_ne,go_sem,↓reduceIte,Za,Zb,Zc,Zd,Ze,reduceCtorEq,Zf,Zg,Zh,Zi,Zj,Zk]
    refine ⟨(j+1,_),⟨by dsimp only;omega,by dsimp only;omega,hj3⟩,by dsimp only;omega,weak_ok ?_ (Sub.cons ?_ (Sub.base hf ?_)) (zna _)⟩
    all_goals
     simp (disch:=omega) only [ite_ne,wr64s j (by omega),hmn2,go_sem,↓reduceIte,Za,Zb,Zc,Zd,Ze,reduceCtorEq,Zf,Zg,Zh,Zi,Zj,Zk]
 .have q:j=l.length:=by simp at q;omega
  subst q
  rw [List.drop_length] at hj3
  have hj3:R=true:=hj3
  subst hj3
  simp (disch:=omega) only [ite_ne,hmn,go_sem,↓reduceIte,Za,Zb,Zc,Zd,Ze,reduceCtorEq,Zf,Zg,Zh,Zi,Zj,Zk]
def sxQ:ByteArray:=⟨#[81,117,101,114,121]⟩
def sxA:ByteArray:=⟨#[97]⟩
def sxB:ByteArray:=⟨#[98]⟩
def sxI:ByteArray:=⟨#[73,110,116]⟩
def sxG:List Dfn:=[.mk 1 sxQ [] [] [.mk sxA [] sxI [] []] [] []]
def sxS:Sup:=.mk [⟨#[103]⟩] sxG [] []
def sxV:Val:=.mk 2 3 ⟨#[]⟩ [] []
def sxD:Dat:=.mk [.mk sxQ [.mk sxA ⟨#[]⟩ sxV]] []
def sxP:List Pk:=[.mk sxA sxQ sxA [] sxI [] ⟨#[]⟩ (-1) [],.mk sxB sxQ sxB [] sxI [] ⟨#[]⟩ (-1) []]
def sxR:Val:=.mk 6 0 ⟨#[]⟩ [txV sxQ,sxV,failV sField] [⟨#[95,95,116]⟩,sxA,sxB]
theorem sx_run1:(sRunV sxG sxS sxD 1 sxP).1=sxR:=by kernel_rfl
theorem sx_run2:(sRunV sxG sxS sxD 1 sxP).2=sxD:=by kernel_rfl
theorem sx_kn:knB sxG sxQ sxP=false:=by kernel_rfl
theorem sx_sm:VSm sxV:=⟨.mk _ (by decide) (by decide) (by simp [sxV,Val.items_mk]),.mk _ (by decide) (by decide) (by simp [sxV,Val.items_mk]),by rw [avL_val];decide⟩
theorem sxS_ok:SOk sxS:=⟨by decide,by simp [sxS,Sup.joins_mk],by decide⟩
theorem sxD_ok:DOk sxD 1:=by
 refine ⟨⟨.mk _ (by decide) (by decide) ?_ ?_,by decide,?_⟩,?_,?_,?_⟩
 all_goals simp [sxD,Dat.i_mk,Dat.w_mk,Itm.l_mk,Wri.c_mk,Cel.v_mk,sx_sm,sx_sm.f]
theorem sxP_ok:∀x∈sxP,x.Ok:=by
 intro x hx
 simp only [sxP,List.mem_cons,List.not_mem_nil,or_false] at hx
 rcases hx with rfl | rfl
 .exact .mk _ ⟨by simp [Pk.args],by decide,by decide⟩ (by decide) (by simp [Pk.picks])
 .exact .mk _ ⟨by simp [Pk.args],by decide,by decide⟩ (by decide) (by simp [Pk.picks])
theorem sxInt_ok (n:Int) (hp:CH) (m:Nat):MeetsF Tryd.prog 12 hp m [.i .i64 n] (vx (.mk 2 n ⟨#[]⟩ [] [])):=by
 refine meetsF Tryd.func12 (by kernel_rfl) cc12 cr12 rfl fun hf=>?_;unfold ck12
 simp only [go_sem,↓reduceIte,Za,Zb,Zc,Zd,Ze,reduceCtorEq,Zf,Zg,Zh,Zi,Zj,Zk]
 try rfl
theorem exh34_ok (hp:CH) (m:Nat):MeetsF Tryd.prog 5 hp m [] (.b true):=by
 have hR:=vRoot_ok ⟨#[103]⟩ sxG (by decide) (by simp [sxG,Dfn.fields_mk]) sxS sxS_ok sxD sxD_ok 1 sxP (by decide) sxP_ok (by decide)
 rw [sx_run1,sx_run2] at hR
 have hR:∀hp m,MeetsF Tryd.prog 6 hp m [grx ⟨#[103]⟩ sxG,supx sxS,dx sxD,.i .i64 1,.ds (mapC pkC sxP)] (.tp [.ag [.i .i64 6,.i .i64 0,.s ⟨#[]⟩,
  .ds [[.i .i64 3,.i .i64 0,.s ⟨#[81,117,101,114,121]⟩,.ds [],.ds []],[.i .i64 2,.i .i64 3,.s ⟨#[]⟩,.ds [],.ds []],[.i .i64 9,.i .i64 0,.s ⟨#[102,105,101,108,100]⟩,.ds [],.ds []]],
  .ds [[.s ⟨#[95,95,116]⟩],[.s ⟨#[97]⟩],[.s ⟨#[98]⟩]]],dx sxD]):=hR
 have hK:=vKnows_ok ⟨#[]⟩ sxG (by decide) (by simp [sxG,Dfn.fields_mk]) sxQ sxP (by decide) (by simp [sxP,Pk.picks])
 rw [sx_kn] at hK
 refine meetsF Tryd.func5 (by kernel_rfl) cc5 cr5 rfl fun hf=>?_;unfold ck5
 simp only [go_sem,↓reduceIte,Za,Zb,Zc,Zd,Ze,reduceCtorEq,Zf,Zg,Zh,Zi,Zj,Zk]
 refine vcCall.f (sxInt_ok _ _ _) ?_
 simp only [go_sem,↓reduceIte,Za,Zb,Zc,Zd,Ze,reduceCtorEq,Zf,Zg,Zh,Zi,Zj,Zk]
 refine vcCall.q (args':=[grx ⟨#[103]⟩ sxG,supx sxS,dx sxD,.i .i64 1,.ds (mapC pkC sxP)]) (hR _ _) (by simp only [go_sem,↓reduceIte,Za,Zb,Zc,Zd,Ze,reduceCtorEq,Zf,Zg,Zh,Zi,Zj,Zk]<;>rfl) ?_
 simp only [go_sem,↓reduceIte,Za,Zb,Zc,Zd,Ze,reduceCtorEq,Zf,Zg,Zh,Zi,Zj,Zk]
 refine gCall_t (vcCall.q (args':=[grx ⟨#[]⟩ sxG,.s sxQ,.ds (mapC pkC sxP)]) (hK _ _) (by simp only [go_sem,↓reduceIte,Za,Zb,Zc,Zd,Ze,reduceCtorEq,Zf,Zg,Zh,Zi,Zj,Zk]<;>rfl) ?_)
 simp only [go_sem,↓reduceIte,Za,Zb,Zc,Zd,Ze,reduceCtorEq,Zf,Zg,Zh,Zi,Zj,Zk]
end Go.Proofs.YtinbodeocoeneaaDoor
