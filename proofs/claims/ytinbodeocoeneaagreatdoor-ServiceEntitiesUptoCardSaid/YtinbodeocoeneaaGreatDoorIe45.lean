/- Proof. Conditions: none. -/
import Derived.Test.YtinbodeocoeneaaGreatDoorRows
import Derived.WalkKit
import Derived.Test.YtinbodeocoeneaaGreatDoorIe44
open Nat renaming reduceEqDiff→Za,reduceBEq→Zb,reduceAdd→Zc,reduceLeDiff→Zd,reduceLT→Ze,reduceMul→Zf,reduceSub→Zg
open Int renaming reduceEq→Zh,reduceLT→Zi,reduceLE→Zj,reduceToNat→Zk
open List renaming mem_of_getElem?→zla,length_cons→zlc,mem_map_of_mem→zls
open Nat renaming le_refl→zna
namespace Go.Proofs.YtinbodeocoeneaaGreatDoor
open Go.Eng
set_option linter.all false
set_option maxRecDepth 20000
def SbQ (hp:CH) (n k:Nat) (l:List UInt8) (hp':CH) (n':Nat) (r:AV):Prop :=
 n≤n'∧(∀j,n'≤j→gc hp' j=.no)∧(∀j,j<n→¬j=k→gc hp' j=gc hp j)∧(∃g,gc hp' k=.sb 194 5 g (ofL l))∧r=.b true
theorem SbQ.one {hp:CH} {n k g:Nat} {c:Chunk} {l:List UInt8} (hf:∀j,n≤j→gc hp j=.no) (hkn:k<n):SbQ hp n k l ((k,.sb 194 5 g (ofL l))::(n,c)::hp) (n+1) (.b true) :=
 ⟨by omega,fun j hj=>by rw [gc_ne _ _ (by omega),gc_ne _ _ (by omega)];exact hf j (by omega),fun j hj hne=>by rw [gc_ne _ _ (by omega),gc_ne _ _ (by omega)],⟨g,gc_same _ _ _⟩,rfl⟩
theorem print_leaf (v:Val) (hv:LOk v) {hp:CH} {n k g:Nat} {l:List UInt8} (hk:gc hp k=.sb 194 5 g (ofL l)) (hkn:k<n) (hlen:l.length+32*avL (valC v)≤140737488355328) :
  Meets Tryz.prog 148 hp n [.bx k 0,vx v] (SbQ hp n k (l++prnV v)):=by
 have h0:=hv.l
 have h1:=hv.u
 have hs:=hv.s
 have hpl:=prnV_len v hv.r
 obtain ⟨R,hR⟩:∃R,prnV v=R:=⟨_,rfl⟩
 have e:=hR
 rw [prnV] at e
 rw [hR] at hpl ⊢
 refine meetsN Tryz.func148 (by kernel_rfl) cc148 cr148 rfl fun hf=>?_
 unfold ck148
 simp only [go_sem,↓reduceIte,Za,Zb,Zc,Zd,Ze,reduceCtorEq,Zf,Zg,Zh,Zi,Zj,Zk]
 refine cdK_of (fun c=>?_) (fun c0=>?_)
 .have c:v.k=0:=by simpa using c
  rw [if_pos c] at e
  subst e
  simp only [go_sem,↓reduceIte,Za,Zb,Zc,Zd,Ze,reduceCtorEq,Zf,Zg,Zh,Zi,Zj,Zk]
  refine vcCall.r (wStr (k:=k) (g:=g) (l:=l) [110,117,108,108] (by (simp (disch:=omega) only [ite_ne,hk,go_sem,↓reduceIte,Za,Zb,Zc,Zd,Ze,reduceCtorEq,Zf,Zg,Zh,Zi,Zj,Zk])) (by omega)) ?_
  rintro _ _ _ ⟨g2,rfl,rfl,rfl⟩
  simp only [go_sem,↓reduceIte,Za,Zb,Zc,Zd,Ze,reduceCtorEq,Zf,Zg,Zh,Zi,Zj,Zk]
  exact SbQ.one hf hkn
 have c0:¬v.k=0:=by simpa using c0
 rw [if_neg c0] at e
 simp only [go_sem,↓reduceIte,Za,Zb,Zc,Zd,Ze,reduceCtorEq,Zf,Zg,Zh,Zi,Zj,Zk]
 refine cdK_of (fun c=>?_) (fun c1=>?_)
 .have c:v.k=1:=by simpa using c
  rw [if_pos c] at e
  simp only [go_sem,↓reduceIte,Za,Zb,Zc,Zd,Ze,reduceCtorEq,Zf,Zg,Zh,Zi,Zj,Zk]
  refine cdK_of (fun d=>?_) (fun d=>?_)
  .have d:v.n=0:=by simpa using d
   rw [if_pos d] at e
   subst e
   simp only [go_sem,↓reduceIte,Za,Zb,Zc,Zd,Ze,reduceCtorEq,Zf,Zg,Zh,Zi,Zj,Zk]
   refine vcCall.r (wStr (k:=k) (g:=g) (l:=l) [102,97,108,115,101] (by (simp (disch:=omega) only [ite_ne,hk,go_sem,↓reduceIte,Za,Zb,Zc,Zd,Ze,reduceCtorEq,Zf,Zg,Zh,Zi,Zj,Zk])) (by omega)) ?_
   rintro _ _ _ ⟨g2,rfl,rfl,rfl⟩
   simp only [go_sem,↓reduceIte,Za,Zb,Zc,Zd,Ze,reduceCtorEq,Zf,Zg,Zh,Zi,Zj,Zk]
   exact SbQ.one hf hkn
  .have d:¬v.n=0:=by simpa using d
   rw [if_neg d] at e
   subst e
   simp only [go_sem,↓reduceIte,Za,Zb,Zc,Zd,Ze,reduceCtorEq,Zf,Zg,Zh,Zi,Zj,Zk]
   refine vcCall.r (wStr (k:=k) (g:=g) (l:=l) [116,114,117,101] (by (simp (disch:=omega) only [ite_ne,hk,go_sem,↓reduceIte,Za,Zb,Zc,Zd,Ze,reduceCtorEq,Zf,Zg,Zh,Zi,Zj,Zk])) (by omega)) ?_
   rintro _ _ _ ⟨g2,rfl,rfl,rfl⟩
   simp only [go_sem,↓reduceIte,Za,Zb,Zc,Zd,Ze,reduceCtorEq,Zf,Zg,Zh,Zi,Zj,Zk]
   exact SbQ.one hf hkn
 have c1:¬v.k=1:=by simpa using c1
 rw [if_neg c1] at e
 simp only [go_sem,↓reduceIte,Za,Zb,Zc,Zd,Ze,reduceCtorEq,Zf,Zg,Zh,Zi,Zj,Zk]
 refine cdK_of (fun c=>?_) (fun c2=>?_)
 .have c:v.k=2:=by simpa using c
  rw [if_pos c] at e
  subst e
  simp only [go_sem,↓reduceIte,Za,Zb,Zc,Zd,Ze,reduceCtorEq,Zf,Zg,Zh,Zi,Zj,Zk]
  refine vcCall.f (tDecimal_ok v.n hv.r.l hv.r.u _ _) ?_
  simp only [go_sem,↓reduceIte,Za,Zb,Zc,Zd,Ze,reduceCtorEq,Zf,Zg,Zh,Zi,Zj,Zk]
  refine vcCall.r (wStr (k:=k) (g:=g) (l:=l) (Lib.itoa v.n) (by (simp (disch:=omega) only [ite_ne,hk,go_sem,↓reduceIte,Za,Zb,Zc,Zd,Ze,reduceCtorEq,Zf,Zg,Zh,Zi,Zj,Zk])) (by omega)) ?_
  rintro _ _ _ ⟨g2,rfl,rfl,rfl⟩
  simp only [go_sem,↓reduceIte,Za,Zb,Zc,Zd,Ze,reduceCtorEq,Zf,Zg,Zh,Zi,Zj,Zk]
  exact SbQ.one hf hkn
 have c2:¬v.k=2:=by simpa using c2
 rw [if_neg c2] at e
 subst e
 simp only [go_sem,↓reduceIte,Za,Zb,Zc,Zd,Ze,reduceCtorEq,Zf,Zg,Zh,Zi,Zj,Zk]
 refine cdK_of (fun c=>?_) (fun c3=>?_)
 .simp only [c,go_sem,↓reduceIte,Za,Zb,Zc,Zd,Ze,reduceCtorEq,Zf,Zg,Zh,Zi,Zj,Zk]
  refine vcCall.f (tQuote_ok v.s (by omega) _ _) ?_
  simp only [go_sem,↓reduceIte,Za,Zb,Zc,Zd,Ze,reduceCtorEq,Zf,Zg,Zh,Zi,Zj,Zk]
  refine vcCall.r (wStr (k:=k) (g:=g) (l:=l) (quoL v.s) (by (simp (disch:=omega) only [ite_ne,hk,go_sem,↓reduceIte,Za,Zb,Zc,Zd,Ze,reduceCtorEq,Zf,Zg,Zh,Zi,Zj,Zk])) (by omega)) ?_
  rintro _ _ _ ⟨g2,rfl,rfl,rfl⟩
  simp only [go_sem,↓reduceIte,Za,Zb,Zc,Zd,Ze,reduceCtorEq,Zf,Zg,Zh,Zi,Zj,Zk]
  exact SbQ.one hf hkn
 have c3':¬v.k=3:=by simpa using c3
 have c4:decide (v.k=4)=true:=by simp;omega
 simp only [c4,go_sem,↓reduceIte,Za,Zb,Zc,Zd,Ze,reduceCtorEq,Zf,Zg,Zh,Zi,Zj,Zk]
 refine vcCall.f (tQuote_ok v.s (by omega) _ _) ?_
 simp only [go_sem,↓reduceIte,Za,Zb,Zc,Zd,Ze,reduceCtorEq,Zf,Zg,Zh,Zi,Zj,Zk]
 refine vcCall.r (wStr (k:=k) (g:=g) (l:=l) (quoL v.s) (by (simp (disch:=omega) only [ite_ne,hk,go_sem,↓reduceIte,Za,Zb,Zc,Zd,Ze,reduceCtorEq,Zf,Zg,Zh,Zi,Zj,Zk])) (by omega)) ?_
 rintro _ _ _ ⟨g2,rfl,rfl,rfl⟩
 simp only [go_sem,↓reduceIte,Za,Zb,Zc,Zd,Ze,reduceCtorEq,Zf,Zg,Zh,Zi,Zj,Zk]
 exact SbQ.one hf hkn
theorem print_list (q:List Val) (hn:q.length≤1000000000000) (hl:∀v∈q,LOk v) (hB:avLL (mapC valC q)≤2000000000000) {hp:CH} {n k g:Nat} (hk:gc hp k=.sb 194 5 g (ofL [])) (hkn:k<n) :
  Meets Tryz.prog 148 hp n [.bx k 0,vx (listV q)] (SbQ hp n k (prnL q)):=by
 have e1:(listV q).k=5:=rfl
 have e2:(listV q).items=q:=rfl
 have e3:(listV q).keys=[]:=rfl
 have e4:(listV q).n=0:=rfl
 have e5:(listV q).s=⟨#[]⟩:=rfl
 have hb:=prn_len q fun v hv=>(hl v hv).r
 simp only [vx,e1,e2,e3,e4,e5]
 refine meetsN Tryz.func148 (by kernel_rfl) cc148 cr148 rfl fun hf=>?_
 unfold ck148
 simp only [go_sem,↓reduceIte,Za,Zb,Zc,Zd,Ze,reduceCtorEq,Zf,Zg,Zh,Zi,Zj,Zk]
 refine vcCall.r (wByte (k:=k) (g:=g) (l:=[]) 91 (by (simp (disch:=omega) only [ite_ne,hk,go_sem,↓reduceIte,Za,Zb,Zc,Zd,Ze,reduceCtorEq,Zf,Zg,Zh,Zi,Zj,Zk])) (by simp)) ?_
 rintro _ _ _ ⟨g1,rfl,rfl,rfl⟩
 simp (disch:=omega) only [ite_ne,go_sem,↓reduceIte,Za,Zb,Zc,Zd,Ze,reduceCtorEq,Zf,Zg,Zh,Zi,Zj,Zk]
 refine loop (fun p:Nat × CH × Nat × Nat=>⟨[(0,.bx k 0),(44,.ds (mapC valC q)),(45,.i .i64 q.length),(46,.i .i64 p.1)],p.2.1,p.2.2.2⟩)
  (fun p=>p.1≤q.length∧n+1≤p.2.2.2∧gc p.2.1 k=.sb 194 5 p.2.2.1 (ofL (91::jc ((q.take p.1).map prnV)))∧(∀i,i<n→¬i=k→gc p.2.1 i=gc hp i)∧∀i,p.2.2.2≤i→gc p.2.1 i=.no)
  (fun p=>q.length - p.1) (0,_,g1,_) ?_ (weak_ok ?_ (Sub.refl _) (zna _)) (fun ⟨j,H,g,nn⟩ hj=>?_)
 .refine ⟨by simp,zna _,gc_same _ _ _,fun i hi hne=>?_,fun i hi=>?_⟩
  .dsimp only
   rw [gc_ne _ _ (by omega),gc_ne _ _ (by omega)]
  .dsimp only at hi ⊢
   rw [gc_ne _ _ (by omega),gc_ne _ _ (by omega)]
   exact hf i (by omega)
 .simp only [go_sem,↓reduceIte,Za,Zb,Zc,Zd,Ze,reduceCtorEq,Zf,Zg,Zh,Zi,Zj,Zk]
 dsimp only at hj
 obtain ⟨hj1,hj2,hj3,hj4,hj5⟩:=hj
 have hs:=jc_len_take prnV q j
 simp (disch:=omega) only [ite_ne,go_sem,↓reduceIte,Za,Zb,Zc,Zd,Ze,reduceCtorEq,Zf,Zg,Zh,Zi,Zj,Zk]
 refine cdK_of (fun d=>?_) (fun d=>?_)
 .have d:j<q.length:=by simpa using d
  obtain ⟨x,ex⟩:∃x,q[j]?=some x:=⟨q[j],by simp [d]⟩
  have hx:=hl x (zla ex)
  have hw:=prnV_len x hx.r
  have hm:avL (valC x)≤avLL (mapC valC q):=avLL_in (zls (f:=valC) (zla ex))
  simp (disch:=omega) only [ite_ne,d,getK_s (mapC_get valC ex),go_sem,↓reduceIte,Za,Zb,Zc,Zd,Ze,reduceCtorEq,Zf,Zg,Zh,Zi,Zj,Zk]
  refine cdK_of (fun c=>?_) (fun c=>?_)
  .have c:0<j:=by simpa using c
   have hst:=jc_at prnV ex c
   simp (disch:=omega) only [ite_ne,go_sem,↓reduceIte,Za,Zb,Zc,Zd,Ze,reduceCtorEq,Zf,Zg,Zh,Zi,Zj,Zk]
   refine vcCall.r (wByte (k:=k) (g:=g) (l:=91::jc ((q.take j).map prnV)) 44 (by (simp (disch:=omega) only [ite_ne,hj3,go_sem,↓reduceIte,Za,Zb,Zc,Zd,Ze,reduceCtorEq,Zf,Zg,Zh,Zi,Zj,Zk])) (by rw [zlc];omega)) ?_
   rintro _ _ _ ⟨g2,rfl,rfl,rfl⟩
   simp (disch:=omega) only [ite_ne,go_sem,↓reduceIte,Za,Zb,Zc,Zd,Ze,reduceCtorEq,Zf,Zg,Zh,Zi,Zj,Zk]
   refine vcCall.r (print_leaf x hx (k:=k) (g:=g2) (l:=91::jc ((q.take j).map prnV)++[44]) (by (simp (disch:=omega) only [ite_ne,go_sem,↓reduceIte,Za,Zb,Zc,Zd,Ze,reduceCtorEq,Zf,Zg,Zh,Zi,Zj,Zk])) (by omega) (by simp only [List.length_append,zlc,List.length_nil];omega)) ?_
   rintro H2 n2 _ ⟨q1,q2,q3,⟨g3,q4⟩,rfl⟩
   simp (disch:=omega) only [ite_ne,go_sem,↓reduceIte,Za,Zb,Zc,Zd,Ze,reduceCtorEq,Zf,Zg,Zh,Zi,Zj,Zk]
   refine ⟨(j+1,H2,g3,n2),⟨by dsimp only;omega,by dsimp only;omega,?_,fun i hi hne=>?_,q2⟩,by dsimp only;omega,weak_ok ?_ (Sub.refl _) (zna _)⟩
   .dsimp only
    rw [q4,hst]
    simp
   .refine (q3 i (by omega) hne).trans ?_
    rw [gc_ne _ _ (by omega),gc_ne _ _ (by omega),gc_ne _ _ (by omega)]
    exact hj4 i hi hne
   .simp (disch:=omega) only [ite_ne,wr64s j (by omega),go_sem,↓reduceIte,Za,Zb,Zc,Zd,Ze,reduceCtorEq,Zf,Zg,Zh,Zi,Zj,Zk]
  .have c:j=0:=by simp at c;omega
   subst c
   have hst:=jc_0 prnV ex
   rw [List.take_zero,List.map_nil,jc_nil] at hj3
   simp (disch:=omega) only [ite_ne,go_sem,↓reduceIte,Za,Zb,Zc,Zd,Ze,reduceCtorEq,Zf,Zg,Zh,Zi,Zj,Zk]
   refine vcCall.r (print_leaf x hx (k:=k) (g:=g) (l:=[91]) (by (simp (disch:=omega) only [ite_ne,hj3,go_sem,↓reduceIte,Za,Zb,Zc,Zd,Ze,reduceCtorEq,Zf,Zg,Zh,Zi,Zj,Zk])) (by omega) (by simp only [zlc,List.length_nil];omega)) ?_
   rintro H2 n2 _ ⟨q1,q2,q3,⟨g3,q4⟩,rfl⟩
   simp (disch:=omega) only [ite_ne,go_sem,↓reduceIte,Za,Zb,Zc,Zd,Ze,reduceCtorEq,Zf,Zg,Zh,Zi,Zj,Zk]
   refine ⟨(1,H2,g3,n2),⟨by dsimp only;omega,by dsimp only;omega,?_,fun i hi hne=>?_,q2⟩,by dsimp only;omega,weak_ok ?_ (Sub.refl _) (zna _)⟩
   .dsimp only
    rw [q4,hst]
    rfl
   .refine (q3 i (by omega) hne).trans ?_
    rw [gc_ne _ _ (by omega),gc_ne _ _ (by omega)]
    exact hj4 i hi hne
   .simp (disch:=omega) only [ite_ne,w01,go_sem,↓reduceIte,Za,Zb,Zc,Zd,Ze,reduceCtorEq,Zf,Zg,Zh,Zi,Zj,Zk]
 .have d:j=q.length:=by simp at d;omega
  subst d
  rw [List.take_length] at hj3 hs
  simp (disch:=omega) only [ite_ne,go_sem,↓reduceIte,Za,Zb,Zc,Zd,Ze,reduceCtorEq,Zf,Zg,Zh,Zi,Zj,Zk]
  refine vcCall.r (wByte (k:=k) (g:=g) (l:=91::jc (q.map prnV)) 93 hj3 (by rw [zlc];omega)) ?_
  rintro _ _ _ ⟨g2,rfl,rfl,rfl⟩
  simp (disch:=omega) only [ite_ne,go_sem,↓reduceIte,Za,Zb,Zc,Zd,Ze,reduceCtorEq,Zf,Zg,Zh,Zi,Zj,Zk]
  refine ⟨by omega,fun i hi=>?_,fun i hi hne=>?_,⟨g2,gc_same _ _ _⟩,rfl⟩
  .rw [gc_ne _ _ (by omega)]
   exact hj5 i hi
  .rw [gc_ne _ _ (by omega)]
   exact hj4 i hi hne
theorem jPrint_ok (q:List Val) (hn:q.length≤1000000000000) (hl:∀v∈q,LOk v) (hB:avLL (mapC valC q)≤2000000000000) (hp:CH) (m:Nat):MeetsF Tryz.prog 103 hp m [vx (listV q)] (.tp [.s (ofL (prnL q)),.i .i64 0]):=by
 have h1:=fun hp n g hk=>print_list q hn hl hB (hp:=hp) (n:=n) (k:=m+1) (g:=g) hk
 obtain ⟨v,hv⟩:∃v,listV q=v:=⟨_,rfl⟩
 rw [hv] at h1 ⊢
 refine meetsF Tryz.func103 (by kernel_rfl) cc103 cr103 rfl fun hf=>?_;unfold ck103
 simp only [go_sem,↓reduceIte,Za,Zb,Zc,Zd,Ze,reduceCtorEq,Zf,Zg,Zh,Zi,Zj,Zk]
 refine vcCall.r (h1 _ _ 0 (by simp only [go_sem,↓reduceIte,Za,Zb,Zc,Zd,Ze,reduceCtorEq,Zf,Zg,Zh,Zi,Zj,Zk];rfl) (by omega)) ?_
 rintro H2 n2 _ ⟨q1,q2,q3,⟨g3,q4⟩,rfl⟩
 simp (disch:=omega) only [ite_ne,go_sem,↓reduceIte,Za,Zb,Zc,Zd,Ze,reduceCtorEq,Zf,Zg,Zh,Zi,Zj,Zk]
 refine vcCall.f (wRead (k:=m+1) (g:=g3) (l:=prnL q) q4 (by simp [prnL])) ?_
 simp (disch:=omega) only [ite_ne,go_sem,↓reduceIte,Za,Zb,Zc,Zd,Ze,reduceCtorEq,Zf,Zg,Zh,Zi,Zj,Zk]
 exact fun i hi=>(q3 i (by omega) (by omega)).trans (by rw [gc_ne _ _ (by omega),gc_ne _ _ (by omega)])
theorem snoc_zv (l:List Val):mapC valC l++[[AV.i .i64 0,.i .i64 0,.s ⟨#[]⟩,.ds [],.ds []]]=mapC valC (l++[zVal]):=mapC_snoc valC l zVal
theorem any_takeI {α:Type} (q:α→Bool) {l:List α} {j:Nat} {x:α} (h:l[j]?=some x):(l.take (j+1)).any q=((l.take j).any q||q x):=by
 rw [←take_snoc h,List.any_append]
 simp
theorem vcopies_ok (l:List Val) (hn:l.length*80≤140737488355327) (hl:∀v∈l,v.Fit) (hp:CH) (m:Nat):MeetsF Tryz.prog 77 hp m [.ds (mapC valC l)] (.ds (mapC valC l)):=copies_ok l hn (fun x hx=>copy_ok x (hl x hx)) hp m
theorem vList_ok (l:List Val) (hn:l.length*80≤140737488355327) (hl:∀v∈l,v.Fit) (hp:CH) (m:Nat):MeetsF Tryz.prog 104 hp m [.ds (mapC valC l)] (vx (listV l)):=by
 refine meetsF Tryz.func104 (by kernel_rfl) cc104 cr104 rfl fun hf=>?_;unfold ck104
 simp only [go_sem,↓reduceIte,Za,Zb,Zc,Zd,Ze,reduceCtorEq,Zf,Zg,Zh,Zi,Zj,Zk]
 refine vcCall.f (vcopies_ok l hn hl _ _) ?_
 simp only [go_sem,↓reduceIte,Za,Zb,Zc,Zd,Ze,reduceCtorEq,Zf,Zg,Zh,Zi,Zj,Zk]
 rfl
theorem vText_ok (t:ByteArray) (hp:CH) (m:Nat):MeetsF Tryz.prog 52 hp m [.s t] (vx (txV t)):=by
 refine meetsF Tryz.func52 (by kernel_rfl) cc52 cr52 rfl fun hf=>?_;unfold ck52
 simp only [go_sem,↓reduceIte,Za,Zb,Zc,Zd,Ze,reduceCtorEq,Zf,Zg,Zh,Zi,Zj,Zk]
 rfl
theorem snoc_itm (l:List Itm) (x:Itm):mapC itC l++[[AV.s x.t,.ds (mapC celC x.l)]]=mapC itC (l++[x]):=mapC_snoc itC l x
attribute [go_sem] snoc_itm
noncomputable def getV (v:Val) (k:ByteArray):Option Val:=if v.k=6 then (if 0≤ix k v.keys 0 then v.items[(ix k v.keys 0).toNat]? else none) else none
noncomputable def resV (o:Option Val):AV:=.tp [vx (o.getD zVal),.b o.isSome]
attribute [go_sem] resV zVal Option.getD_none Option.getD_some Option.isSome_none Option.isSome_some
theorem get_ok (v:Val) (hv:v.Fit) (k:ByteArray) (hp:CH) (m:Nat):MeetsF Tryz.prog 99 hp m [vx v,.s k] (resV (getV v k)):=by
 refine meetsF Tryz.func99 (by kernel_rfl) cc99 cr99 rfl fun hf=>?_;unfold ck99
 have h1:=hv.l
 have h2:=ix_lt k v.keys 0
 simp only [go_sem,↓reduceIte,Za,Zb,Zc,Zd,Ze,reduceCtorEq,Zf,Zg,Zh,Zi,Zj,Zk]
 refine vcCall.f (index_ok v.keys k (by omega) _ _) ?_
 simp only [go_sem,↓reduceIte,Za,Zb,Zc,Zd,Ze,reduceCtorEq,Zf,Zg,Zh,Zi,Zj,Zk]
 refine cdK_of (fun c=>?_) (fun c=>?_)
 .have e:getV v k=none:=by
   unfold getV
   simp at c
   grind
  rw [e]
  simp only [go_sem,↓reduceIte,Za,Zb,Zc,Zd,Ze,reduceCtorEq,Zf,Zg,Zh,Zi,Zj,Zk]
 .simp at c
  obtain ⟨x,ex⟩:∃x,v.items[(ix k v.keys 0).toNat]?=some x:=⟨v.items[(ix k v.keys 0).toNat],List.getElem?_eq_getElem (by omega)⟩
  have e:getV v k=some x:=by unfold getV;rw [if_pos c.1.1,if_pos c.1.2,ex]
  have hx:=hv.x (zla ex)
  have c3:(ix k v.keys 0).toNat<v.items.length:=by omega
  rw [e]
  simp only [c3,c.1.2,getK_s (mapC_get valC ex),go_sem,↓reduceIte,Za,Zb,Zc,Zd,Ze,reduceCtorEq,Zf,Zg,Zh,Zi,Zj,Zk]
  refine vcCall.f (copy_ok x hx _ _) ?_
  simp only [go_sem,↓reduceIte,Za,Zb,Zc,Zd,Ze,reduceCtorEq,Zf,Zg,Zh,Zi,Zj,Zk]
theorem getV_none {v:Val} {k:ByteArray} (h:v.k≠6):getV v k=none:=by unfold getV;rw [if_neg h]
theorem rget_ok (v:Val) (hv:v.Fit) (k:ByteArray) (hp:CH) (m:Nat):MeetsF Tryz.prog 121 hp m [vx v,.s k] (resV (getV v k)):=by
 refine meetsF Tryz.func121 (by kernel_rfl) cc121 cr121 rfl fun hf=>?_;unfold ck121
 have h1:=hv.l
 have h3:=hv.i
 simp only [go_sem,↓reduceIte,Za,Zb,Zc,Zd,Ze,reduceCtorEq,Zf,Zg,Zh,Zi,Zj,Zk]
 refine cdK_of (fun c=>?_) (fun c=>?_)
 .have c:v.k≠6:=by simpa using c
  rw [getV_none c]
  simp only [go_sem,↓reduceIte,Za,Zb,Zc,Zd,Ze,reduceCtorEq,Zf,Zg,Zh,Zi,Zj,Zk]
 have c:v.k=6:=by simpa using c
 simp only [go_sem,↓reduceIte,Za,Zb,Zc,Zd,Ze,reduceCtorEq,Zf,Zg,Zh,Zi,Zj,Zk]
 refine loop (fun p:Nat × Nat=>⟨[(1,.s k),(2,.bx m 0),(4,.bx (m+1) 0),(6,.i .i64 p.1)],(m+1,.bx [.i .i64 0,.i .i64 0,.s ⟨#[]⟩,.e0,.e0])::(m,.bx [.i .i64 v.k,.i .i64 v.n,.s v.s,.ds (mapC valC v.items),.ds (stC v.keys)])::hp,p.2⟩)
  (fun p=>p.1≤v.keys.length∧m+2≤p.2∧ix k v.keys 0=ix k (v.keys.drop p.1) p.1) (fun p=>v.keys.length - p.1) (0,m+2) ?_ ?_ (fun ⟨j,n⟩ hj=>?_)
 .grind
 .refine weak_ok ?_ (Sub.refl _) (zna _)
  simp only [go_sem,↓reduceIte,Za,Zb,Zc,Zd,Ze,reduceCtorEq,Zf,Zg,Zh,Zi,Zj,Zk]
 dsimp only at hj
 simp only [go_sem,↓reduceIte,Za,Zb,Zc,Zd,Ze,reduceCtorEq,Zf,Zg,Zh,Zi,Zj,Zk]
 refine cdK_of (fun d=>?_) (fun d=>?_)
 .have d:j<v.keys.length:=by simpa using d
  obtain ⟨y,ey⟩:∃y,v.keys[j]?=some y:=⟨v.keys[j],by simp [d]⟩
  have e:=drop_at ey
  rw [e,ix] at hj
  simp only [d,getK_s (mapC_get st1 ey),go_sem,↓reduceIte,Za,Zb,Zc,Zd,Ze,reduceCtorEq,Zf,Zg,Zh,Zi,Zj,Zk]
  refine cdK_of (fun d1=>?_) (fun d1=>?_)
  .have d1:k=y:=by simp at d1;exact d1.symm
   rw [if_pos d1] at hj
   simp only [go_sem,↓reduceIte,Za,Zb,Zc,Zd,Ze,reduceCtorEq,Zf,Zg,Zh,Zi,Zj,Zk]
   refine cdK_of (fun d2=>?_) (fun d2=>?_)
   .have e:getV v k=none:=by
     unfold getV
     rw [if_pos c,hj.2.2,if_pos (by omega),List.getElem?_eq_none (by simp at d2;omega)]
    rw [e]
    simp only [go_sem,↓reduceIte,Za,Zb,Zc,Zd,Ze,reduceCtorEq,Zf,Zg,Zh,Zi,Zj,Zk]
   .have d2:j<v.items.length:=by simp at d2;omega
    obtain ⟨x,ex⟩:∃x,v.items[j]?=some x:=⟨v.items[j],by simp [d2]⟩
    have e:getV v k=some x:=by
     unfold getV
     rw [if_pos c,hj.2.2,if_pos (by omega),Int.toNat_natCast,ex]
    rw [e]
    have hx:=hv.x (zla ex)
    simp only [d2,getK_s (mapC_get valC ex),go_sem,↓reduceIte,Za,Zb,Zc,Zd,Ze,reduceCtorEq,Zf,Zg,Zh,Zi,Zj,Zk]
    refine vcCall.f (rcopy_ok x hx _ _) ?_
    simp only [go_sem,↓reduceIte,Za,Zb,Zc,Zd,Ze,reduceCtorEq,Zf,Zg,Zh,Zi,Zj,Zk]
  .have d1:¬k=y:=by simp at d1;exact fun e=>d1 e.symm
   rw [if_neg d1] at hj
   simp only [go_sem,↓reduceIte,Za,Zb,Zc,Zd,Ze,reduceCtorEq,Zf,Zg,Zh,Zi,Zj,Zk]
   refine ⟨(j+1,n),by dsimp only;omega,by dsimp only;omega,weak_ok ?_ (Sub.refl _) (zna _)⟩
   simp only [wr64s j (by omega),go_sem,↓reduceIte,Za,Zb,Zc,Zd,Ze,reduceCtorEq,Zf,Zg,Zh,Zi,Zj,Zk]
 .have d:j=v.keys.length:=by simp at d;omega
  subst d
  rw [List.drop_length,ix] at hj
  have e:getV v k=none:=by
   unfold getV
   rw [if_pos c,hj.2.2,if_neg (by omega)]
  rw [e]
  simp only [go_sem,↓reduceIte,Za,Zb,Zc,Zd,Ze,reduceCtorEq,Zf,Zg,Zh,Zi,Zj,Zk]
theorem zval_fit:zVal.Fit:=.mk _ (by simp [zVal,Val.items_mk]) (by simp [zVal,Val.keys_mk]) (by simp [zVal,Val.items_mk])
theorem getV_mem {v x:Val} {k:ByteArray} (h:getV v k=some x):x∈v.items:=by
 unfold getV at h
 split at h
 .split at h
  .exact zla h
  .cases h
 .cases h
theorem getV_fit {v:Val} (hv:v.Fit) (k:ByteArray):((getV v k).getD zVal).Fit:=by
 cases h:getV v k with
 | none=>exact zval_fit
 | some x=>exact hv.x (getV_mem h)
theorem own:ownKnob Tryz.prog.godebug=none:=by kernel_rfl
theorem kids:Kids Tryz.prog (· < Tryz.prog.types.size):=kids_rows (by kernel_rfl) (by kernel_rfl)
theorem sized {t e:TypeId} (ht:t<Tryz.prog.types.size) (hd:Tryz.prog.underlying t=some (.slice e)):0<Tryz.prog.cellsOf e:=slB_of (by kernel_rfl) ht hd
theorem avLL_mapC {α:Type} {c:α→List AV} {wt:α→Nat}:∀{l:List α},(∀x∈l,wt x≤avL (c x))→(l.map wt).sum≤avLL (mapC c l)
 | [],_=>by simp
 | x::l,h=>by
  have h1:=avLL_mapC (c:=c) (wt:=wt) (l:=l) fun y hy=>h y (by simp [hy])
  have h2:=h x (by simp)
  rw [mapC_cons,avLL,List.map_cons,List.sum_cons]
  omega
theorem mapC_len_le {α:Type} {c:α→List AV} (h:∀x,1≤avL (c x)):∀l:List α,l.length≤avLL (mapC c l)
 | []=>by simp
 | x::l=>by
  have h1:=mapC_len_le h l
  have h2:=h x
  rw [mapC_cons,avLL,zlc]
  omega
theorem avLL_mem {x:List AV}:∀{l:List (List AV)},x∈l→avL x≤avLL l
 | y::l,h=>by
  rw [avLL]
  rcases List.mem_cons.1 h with rfl | h
  .omega
  .have:=avLL_mem h
   omega
theorem st1_av (s:ByteArray):1≤avL (st1 s):=by simp [st1,avL,avw]
theorem wtL_sumR (l:List Val):wtL l=(l.map wtV).sum:=by
 induction l with
 | nil=>rfl
 | cons x l ih=>rw [wtL,ih,List.map_cons,List.sum_cons]
theorem valC_av (v:Val):wtV v+3≤avL (valC v):=by
 refine Val.ind (Q:=fun v=>wtV v+3≤avL (valC v)) (fun v ih=>?_) v
 rw [valC_eq,wtV_eq,wtL_sumR]
 have h1:=avLL_mapC (c:=valC) (wt:=wtV) (l:=v.items) fun x hx=>by have:=ih x hx;omega
 have h2:v.keys.length≤avLL (stC v.keys):=mapC_len_le st1_av v.keys
 simp only [avL,avw]
 omega
theorem shp_val {L:List AV} (h:Shp Tryz.prog 42 L):∃v:Val,L=valC v:=by
 suffices key:∀(n:Nat) (L:List AV),avL L≤n→Shp Tryz.prog 42 L→∃v:Val,L=valC v from key _ L (zna _) h
 intro n
 induction n with
 | zero =>
  intro L hn h
  obtain ⟨parts,rfl,hl,hp⟩:=shp_struct Tryz.underlying42 h
  obtain ⟨a,b,c,d,e,rfl⟩:=ds_n5 (show parts.length=5 from hl)
  obtain ⟨a,rfl,_⟩:=shp_int Tryz.underlying3 (hp 0 _ a rfl rfl)
  simp [avL,avw] at hn
 | succ n ih =>
  intro L hn h
  obtain ⟨parts,rfl,hl,hp⟩:=shp_struct Tryz.underlying42 h
  obtain ⟨a,b,c,d,e,rfl⟩:=ds_n5 (show parts.length=5 from hl)
  obtain ⟨a,rfl,_⟩:=shp_int Tryz.underlying3 (hp 0 _ a rfl rfl)
  obtain ⟨b,rfl,_⟩:=shp_int Tryz.underlying3 (hp 1 _ b rfl rfl)
  obtain ⟨c,rfl,_⟩:=shp_string Tryz.underlying9 (hp 2 _ c rfl rfl)
  obtain ⟨l,rfl,_,hx⟩:=shp_slice Tryz.underlying40 (hp 3 _ d rfl rfl)
  obtain ⟨k,rfl,_,hy⟩:=shp_slice Tryz.underlying22 (hp 4 _ e rfl rfl)
  obtain ⟨vs,rfl,_⟩:=mapC_of (c:=valC) fun x h=>ih x (by
   have:=avLL_mem h
   simp [avL,avw] at hn
   omega) (hx x h)
  obtain ⟨ks,rfl,_⟩:=mapC_of (c:=st1) fun x h=>by
   obtain ⟨s,rfl,_⟩:=shp_string Tryz.underlying9 (hy x h)
   exact ⟨s,rfl⟩
  exact ⟨.mk a b c vs ks,by rw [valC_eq];rfl⟩
theorem vx_av (v:Val):wtV v+3≤avw (vx v):=by
 have:=valC_av v
 rw [valC_eq] at this
 exact this
theorem celC_av (c:Cel):wtV c.v+1≤avL (celC c):=by
 have h:=vx_av c.v
 simp only [vx,avw,avL,celC] at *
 omega
theorem dat_fit (d:Dat) (h:avw (dx d)≤1048576):d.Fit:=by
 simp only [dx,avw,avL] at h
 have hi:d.i.length≤avLL (mapC itC d.i):=mapC_len_le (fun x=>by simp [itC,avL,avw];omega) _
 have hw:d.w.length≤avLL (mapC wrC d.w):=mapC_len_le (fun x=>by simp [wrC,avL,avw];omega) _
 refine .mk d (by omega) (by omega) (fun x hx=>?_) fun x hx=>?_
 .have h1:=avLL_mem (zls (f:=itC) hx)
  have h1:avL (itC x)≤avLL (mapC itC d.i):=h1
  simp only [itC,avL,avw] at h1
  have h2:x.l.length≤avLL (mapC celC x.l):=mapC_len_le (fun x=>by have:=celC_av x;omega) _
  refine ⟨by omega,fun c hc=>wtV_fit _ ?_⟩
  have h3:avL (celC c)≤avLL (mapC celC x.l):=avLL_mem (zls (f:=celC) hc)
  have:=celC_av c
  omega
 .have h1:avL (wrC x)≤avLL (mapC wrC d.w):=avLL_mem (zls (f:=wrC) hx)
  have h2:=vx_av x.c.v
  refine wtV_fit _ ?_
  simp only [wrC,vx,avw,avL] at h1 h2
  omega
end Go.Proofs.YtinbodeocoeneaaGreatDoor
