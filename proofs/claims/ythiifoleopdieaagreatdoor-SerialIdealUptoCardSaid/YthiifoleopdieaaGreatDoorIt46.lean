/- Proof. Conditions: none. -/
import Derived.Test.YthiifoleopdieaaGreatDoorIt45
open Nat renaming reduceEqDiff→zqa,reduceBEq→zqb,reduceAdd→zqc,reduceLeDiff→zqd,reduceLT→zqe,reduceMul→zqf,reduceSub→zqg
open Int renaming reduceEq→zqh,reduceLT→zqi,reduceLE→zqj,reduceToNat→zqk
open List renaming length_cons→zlc
open Nat renaming le_refl→zna
namespace Go.Proofs.YthiifoleopdieaaGreatDoor
open Go.Eng
set_option linter.all false
set_option maxRecDepth 20000
def SbQ (hp:CH) (n k:Nat) (l:List UInt8) (hp':CH) (n':Nat) (r:AV):Prop :=
 n≤n'∧(∀j,n'≤j→gc hp' j=.no)∧(∀j,j<n→¬j=k→gc hp' j=gc hp j)∧(∃g,gc hp' k=.sb 154 5 g (ofL l))∧r=.b true
theorem SbQ.one {hp:CH} {n k g:Nat} {c:Chunk} {l:List UInt8} (hf:∀j,n≤j→gc hp j=.no) (hkn:k<n):SbQ hp n k l ((k,.sb 154 5 g (ofL l))::(n,c)::hp) (n+1) (.b true) :=
 ⟨by omega,fun j hj=>by rw [gc_ne _ _ (by omega),gc_ne _ _ (by omega)];exact hf j (by omega),fun j hj hne=>by rw [gc_ne _ _ (by omega),gc_ne _ _ (by omega)],⟨g,gc_same _ _ _⟩,rfl⟩
theorem print_leaf (v:Val) (hv:LOk v) {hp:CH} {n k g:Nat} {l:List UInt8} (hk:gc hp k=.sb 154 5 g (ofL l)) (hkn:k<n) (hlen:l.length+32*avL (valC v)≤140737488355328) :
  Meets Tryz.prog 108 hp n [.bx k 0,vx v] (SbQ hp n k (l++prnV v)):=by
 have h0:=hv.l
 have h1:=hv.u
 have hs:=hv.s
 have hpl:=prnV_len v hv.r
 obtain ⟨R,hR⟩:∃R,prnV v=R:=⟨_,rfl⟩
 have e:=hR
 rw [prnV] at e
 rw [hR] at hpl ⊢
 refine meetsN Tryz.func108 (by kernel_rfl) cc108 cr108 rfl fun hf=>?_
 unfold ck108
 simp only [go_sem,↓reduceIte,zqa,zqb,zqc,zqd,zqe,reduceCtorEq,zqf,zqg,zqh,zqi,zqj,zqk]
 refine cdK_of (fun c=>?_) (fun c0=>?_)
 ·have c:v.k=0:=by simpa using c
  rw [if_pos c] at e
  subst e
  simp only [go_sem,↓reduceIte,zqa,zqb,zqc,zqd,zqe,reduceCtorEq,zqf,zqg,zqh,zqi,zqj,zqk]
  refine vcCall.r (wStr (k:=k) (g:=g) (l:=l) [110,117,108,108] (by (simp (disch:=omega) only [ite_ne,hk,go_sem,↓reduceIte,zqa,zqb,zqc,zqd,zqe,reduceCtorEq,zqf,zqg,zqh,zqi,zqj,zqk])) (by omega)) ?_
  rintro _ _ _ ⟨g2,rfl,rfl,rfl⟩
  simp only [go_sem,↓reduceIte,zqa,zqb,zqc,zqd,zqe,reduceCtorEq,zqf,zqg,zqh,zqi,zqj,zqk]
  exact SbQ.one hf hkn
 have c0:¬v.k=0:=by simpa using c0
 rw [if_neg c0] at e
 simp only [go_sem,↓reduceIte,zqa,zqb,zqc,zqd,zqe,reduceCtorEq,zqf,zqg,zqh,zqi,zqj,zqk]
 refine cdK_of (fun c=>?_) (fun c1=>?_)
 ·have c:v.k=1:=by simpa using c
  rw [if_pos c] at e
  simp only [go_sem,↓reduceIte,zqa,zqb,zqc,zqd,zqe,reduceCtorEq,zqf,zqg,zqh,zqi,zqj,zqk]
  refine cdK_of (fun d=>?_) (fun d=>?_)
  ·have d:v.n=0:=by simpa using d
   rw [if_pos d] at e
   subst e
   simp only [go_sem,↓reduceIte,zqa,zqb,zqc,zqd,zqe,reduceCtorEq,zqf,zqg,zqh,zqi,zqj,zqk]
   refine vcCall.r (wStr (k:=k) (g:=g) (l:=l) [102,97,108,115,101] (by (simp (disch:=omega) only [ite_ne,hk,go_sem,↓reduceIte,zqa,zqb,zqc,zqd,zqe,reduceCtorEq,zqf,zqg,zqh,zqi,zqj,zqk])) (by omega)) ?_
   rintro _ _ _ ⟨g2,rfl,rfl,rfl⟩
   simp only [go_sem,↓reduceIte,zqa,zqb,zqc,zqd,zqe,reduceCtorEq,zqf,zqg,zqh,zqi,zqj,zqk]
   exact SbQ.one hf hkn
  ·have d:¬v.n=0:=by simpa using d
   rw [if_neg d] at e
   subst e
   simp only [go_sem,↓reduceIte,zqa,zqb,zqc,zqd,zqe,reduceCtorEq,zqf,zqg,zqh,zqi,zqj,zqk]
   refine vcCall.r (wStr (k:=k) (g:=g) (l:=l) [116,114,117,101] (by (simp (disch:=omega) only [ite_ne,hk,go_sem,↓reduceIte,zqa,zqb,zqc,zqd,zqe,reduceCtorEq,zqf,zqg,zqh,zqi,zqj,zqk])) (by omega)) ?_
   rintro _ _ _ ⟨g2,rfl,rfl,rfl⟩
   simp only [go_sem,↓reduceIte,zqa,zqb,zqc,zqd,zqe,reduceCtorEq,zqf,zqg,zqh,zqi,zqj,zqk]
   exact SbQ.one hf hkn
 have c1:¬v.k=1:=by simpa using c1
 rw [if_neg c1] at e
 simp only [go_sem,↓reduceIte,zqa,zqb,zqc,zqd,zqe,reduceCtorEq,zqf,zqg,zqh,zqi,zqj,zqk]
 refine cdK_of (fun c=>?_) (fun c2=>?_)
 ·have c:v.k=2:=by simpa using c
  rw [if_pos c] at e
  subst e
  simp only [go_sem,↓reduceIte,zqa,zqb,zqc,zqd,zqe,reduceCtorEq,zqf,zqg,zqh,zqi,zqj,zqk]
  refine vcCall.f (tDecimal_ok v.n hv.r.l hv.r.u _ _) ?_
  simp only [go_sem,↓reduceIte,zqa,zqb,zqc,zqd,zqe,reduceCtorEq,zqf,zqg,zqh,zqi,zqj,zqk]
  refine vcCall.r (wStr (k:=k) (g:=g) (l:=l) (Lib.itoa v.n) (by (simp (disch:=omega) only [ite_ne,hk,go_sem,↓reduceIte,zqa,zqb,zqc,zqd,zqe,reduceCtorEq,zqf,zqg,zqh,zqi,zqj,zqk])) (by omega)) ?_
  rintro _ _ _ ⟨g2,rfl,rfl,rfl⟩
  simp only [go_sem,↓reduceIte,zqa,zqb,zqc,zqd,zqe,reduceCtorEq,zqf,zqg,zqh,zqi,zqj,zqk]
  exact SbQ.one hf hkn
 have c2:¬v.k=2:=by simpa using c2
 rw [if_neg c2] at e
 subst e
 simp only [go_sem,↓reduceIte,zqa,zqb,zqc,zqd,zqe,reduceCtorEq,zqf,zqg,zqh,zqi,zqj,zqk]
 refine cdK_of (fun c=>?_) (fun c3=>?_)
 ·simp only [c,go_sem,↓reduceIte,zqa,zqb,zqc,zqd,zqe,reduceCtorEq,zqf,zqg,zqh,zqi,zqj,zqk]
  refine vcCall.f (tQuote_ok v.s (by omega) _ _) ?_
  simp only [go_sem,↓reduceIte,zqa,zqb,zqc,zqd,zqe,reduceCtorEq,zqf,zqg,zqh,zqi,zqj,zqk]
  refine vcCall.r (wStr (k:=k) (g:=g) (l:=l) (quoL v.s) (by (simp (disch:=omega) only [ite_ne,hk,go_sem,↓reduceIte,zqa,zqb,zqc,zqd,zqe,reduceCtorEq,zqf,zqg,zqh,zqi,zqj,zqk])) (by omega)) ?_
  rintro _ _ _ ⟨g2,rfl,rfl,rfl⟩
  simp only [go_sem,↓reduceIte,zqa,zqb,zqc,zqd,zqe,reduceCtorEq,zqf,zqg,zqh,zqi,zqj,zqk]
  exact SbQ.one hf hkn
 have c3':¬v.k=3:=by simpa using c3
 have c4:decide (v.k=4)=true:=by simp;omega
 simp only [c4,go_sem,↓reduceIte,zqa,zqb,zqc,zqd,zqe,reduceCtorEq,zqf,zqg,zqh,zqi,zqj,zqk]
 refine vcCall.f (tQuote_ok v.s (by omega) _ _) ?_
 simp only [go_sem,↓reduceIte,zqa,zqb,zqc,zqd,zqe,reduceCtorEq,zqf,zqg,zqh,zqi,zqj,zqk]
 refine vcCall.r (wStr (k:=k) (g:=g) (l:=l) (quoL v.s) (by (simp (disch:=omega) only [ite_ne,hk,go_sem,↓reduceIte,zqa,zqb,zqc,zqd,zqe,reduceCtorEq,zqf,zqg,zqh,zqi,zqj,zqk])) (by omega)) ?_
 rintro _ _ _ ⟨g2,rfl,rfl,rfl⟩
 simp only [go_sem,↓reduceIte,zqa,zqb,zqc,zqd,zqe,reduceCtorEq,zqf,zqg,zqh,zqi,zqj,zqk]
 exact SbQ.one hf hkn
theorem print_list (q:List Val) (hn:q.length≤1000000000000) (hl:∀v∈q,LOk v) (hB:avLL (mapC valC q)≤2000000000000) {hp:CH} {n k g:Nat} (hk:gc hp k=.sb 154 5 g (ofL [])) (hkn:k<n) :
  Meets Tryz.prog 108 hp n [.bx k 0,vx (listV q)] (SbQ hp n k (prnL q)):=by
 have e1:(listV q).k=5:=rfl
 have e2:(listV q).items=q:=rfl
 have e3:(listV q).keys=[]:=rfl
 have e4:(listV q).n=0:=rfl
 have e5:(listV q).s=⟨#[]⟩:=rfl
 have hb:=prn_len q fun v hv=>(hl v hv).r
 simp only [vx,e1,e2,e3,e4,e5]
 refine meetsN Tryz.func108 (by kernel_rfl) cc108 cr108 rfl fun hf=>?_
 unfold ck108
 simp only [go_sem,↓reduceIte,zqa,zqb,zqc,zqd,zqe,reduceCtorEq,zqf,zqg,zqh,zqi,zqj,zqk]
 refine vcCall.r (wByte (k:=k) (g:=g) (l:=[]) 91 (by (simp (disch:=omega) only [ite_ne,hk,go_sem,↓reduceIte,zqa,zqb,zqc,zqd,zqe,reduceCtorEq,zqf,zqg,zqh,zqi,zqj,zqk])) (by simp)) ?_
 rintro _ _ _ ⟨g1,rfl,rfl,rfl⟩
 simp (disch:=omega) only [ite_ne,go_sem,↓reduceIte,zqa,zqb,zqc,zqd,zqe,reduceCtorEq,zqf,zqg,zqh,zqi,zqj,zqk]
 refine loop (fun p:Nat × CH × Nat × Nat=>⟨[(0,.bx k 0),(44,.ds (mapC valC q)),(45,.i .i64 q.length),(46,.i .i64 p.1)],p.2.1,p.2.2.2⟩)
  (fun p=>p.1≤q.length∧n+1≤p.2.2.2∧gc p.2.1 k=.sb 154 5 p.2.2.1 (ofL (91::jc ((q.take p.1).map prnV)))∧(∀i,i<n→¬i=k→gc p.2.1 i=gc hp i)∧∀i,p.2.2.2≤i→gc p.2.1 i=.no)
  (fun p=>q.length - p.1) (0,_,g1,_) ?_ (weak_ok ?_ (Sub.refl _) (zna _)) (fun ⟨j,H,g,nn⟩ hj=>?_)
 ·refine ⟨by simp,zna _,gc_same _ _ _,fun i hi hne=>?_,fun i hi=>?_⟩
  ·dsimp only
   rw [gc_ne _ _ (by omega),gc_ne _ _ (by omega)]
  ·dsimp only at hi ⊢
   rw [gc_ne _ _ (by omega),gc_ne _ _ (by omega)]
   exact hf i (by omega)
 ·simp only [go_sem,↓reduceIte,zqa,zqb,zqc,zqd,zqe,reduceCtorEq,zqf,zqg,zqh,zqi,zqj,zqk]
 dsimp only at hj
 obtain ⟨hj1,hj2,hj3,hj4,hj5⟩:=hj
 have hs:=jc_len_take prnV q j
 simp (disch:=omega) only [ite_ne,go_sem,↓reduceIte,zqa,zqb,zqc,zqd,zqe,reduceCtorEq,zqf,zqg,zqh,zqi,zqj,zqk]
 refine cdK_of (fun d=>?_) (fun d=>?_)
 ·have d:j<q.length:=by simpa using d
  obtain ⟨x,ex⟩:∃x,q[j]?=some x:=⟨q[j],by simp [d]⟩
  have hx:=hl x (List.mem_of_getElem? ex)
  have hw:=prnV_len x hx.r
  have hm:avL (valC x)≤avLL (mapC valC q):=avLL_in (List.mem_map_of_mem (f:=valC) (List.mem_of_getElem? ex))
  simp (disch:=omega) only [ite_ne,d,getK_s (mapC_get valC ex),go_sem,↓reduceIte,zqa,zqb,zqc,zqd,zqe,reduceCtorEq,zqf,zqg,zqh,zqi,zqj,zqk]
  refine cdK_of (fun c=>?_) (fun c=>?_)
  ·have c:0<j:=by simpa using c
   have hst:=jc_at prnV ex c
   simp (disch:=omega) only [ite_ne,go_sem,↓reduceIte,zqa,zqb,zqc,zqd,zqe,reduceCtorEq,zqf,zqg,zqh,zqi,zqj,zqk]
   refine vcCall.r (wByte (k:=k) (g:=g) (l:=91::jc ((q.take j).map prnV)) 44 (by (simp (disch:=omega) only [ite_ne,hj3,go_sem,↓reduceIte,zqa,zqb,zqc,zqd,zqe,reduceCtorEq,zqf,zqg,zqh,zqi,zqj,zqk])) (by rw [zlc];omega)) ?_
   rintro _ _ _ ⟨g2,rfl,rfl,rfl⟩
   simp (disch:=omega) only [ite_ne,go_sem,↓reduceIte,zqa,zqb,zqc,zqd,zqe,reduceCtorEq,zqf,zqg,zqh,zqi,zqj,zqk]
   refine vcCall.r (print_leaf x hx (k:=k) (g:=g2) (l:=91::jc ((q.take j).map prnV)++[44]) (by (simp (disch:=omega) only [ite_ne,go_sem,↓reduceIte,zqa,zqb,zqc,zqd,zqe,reduceCtorEq,zqf,zqg,zqh,zqi,zqj,zqk])) (by omega) (by simp only [List.length_append,zlc,List.length_nil];omega)) ?_
   rintro H2 n2 _ ⟨q1,q2,q3,⟨g3,q4⟩,rfl⟩
   simp (disch:=omega) only [ite_ne,go_sem,↓reduceIte,zqa,zqb,zqc,zqd,zqe,reduceCtorEq,zqf,zqg,zqh,zqi,zqj,zqk]
   refine ⟨(j+1,H2,g3,n2),⟨by dsimp only;omega,by dsimp only;omega,?_,fun i hi hne=>?_,q2⟩,by dsimp only;omega,weak_ok ?_ (Sub.refl _) (zna _)⟩
   ·dsimp only
    rw [q4,hst]
    simp
   ·refine (q3 i (by omega) hne).trans ?_
    rw [gc_ne _ _ (by omega),gc_ne _ _ (by omega),gc_ne _ _ (by omega)]
    exact hj4 i hi hne
   ·simp (disch:=omega) only [ite_ne,wr64s j (by omega),go_sem,↓reduceIte,zqa,zqb,zqc,zqd,zqe,reduceCtorEq,zqf,zqg,zqh,zqi,zqj,zqk]
  ·have c:j=0:=by simp at c;omega
   subst c
   have hst:=jc_0 prnV ex
   rw [List.take_zero,List.map_nil,jc_nil] at hj3
   simp (disch:=omega) only [ite_ne,go_sem,↓reduceIte,zqa,zqb,zqc,zqd,zqe,reduceCtorEq,zqf,zqg,zqh,zqi,zqj,zqk]
   refine vcCall.r (print_leaf x hx (k:=k) (g:=g) (l:=[91]) (by (simp (disch:=omega) only [ite_ne,hj3,go_sem,↓reduceIte,zqa,zqb,zqc,zqd,zqe,reduceCtorEq,zqf,zqg,zqh,zqi,zqj,zqk])) (by omega) (by simp only [zlc,List.length_nil];omega)) ?_
   rintro H2 n2 _ ⟨q1,q2,q3,⟨g3,q4⟩,rfl⟩
   simp (disch:=omega) only [ite_ne,go_sem,↓reduceIte,zqa,zqb,zqc,zqd,zqe,reduceCtorEq,zqf,zqg,zqh,zqi,zqj,zqk]
   refine ⟨(1,H2,g3,n2),⟨by dsimp only;omega,by dsimp only;omega,?_,fun i hi hne=>?_,q2⟩,by dsimp only;omega,weak_ok ?_ (Sub.refl _) (zna _)⟩
   ·dsimp only
    rw [q4,hst]
    rfl
   ·refine (q3 i (by omega) hne).trans ?_
    rw [gc_ne _ _ (by omega),gc_ne _ _ (by omega)]
    exact hj4 i hi hne
   ·simp (disch:=omega) only [ite_ne,w01,go_sem,↓reduceIte,zqa,zqb,zqc,zqd,zqe,reduceCtorEq,zqf,zqg,zqh,zqi,zqj,zqk]
 ·have d:j=q.length:=by simp at d;omega
  subst d
  rw [List.take_length] at hj3 hs
  simp (disch:=omega) only [ite_ne,go_sem,↓reduceIte,zqa,zqb,zqc,zqd,zqe,reduceCtorEq,zqf,zqg,zqh,zqi,zqj,zqk]
  refine vcCall.r (wByte (k:=k) (g:=g) (l:=91::jc (q.map prnV)) 93 hj3 (by rw [zlc];omega)) ?_
  rintro _ _ _ ⟨g2,rfl,rfl,rfl⟩
  simp (disch:=omega) only [ite_ne,go_sem,↓reduceIte,zqa,zqb,zqc,zqd,zqe,reduceCtorEq,zqf,zqg,zqh,zqi,zqj,zqk]
  refine ⟨by omega,fun i hi=>?_,fun i hi hne=>?_,⟨g2,gc_same _ _ _⟩,rfl⟩
  ·rw [gc_ne _ _ (by omega)]
   exact hj5 i hi
  ·rw [gc_ne _ _ (by omega)]
   exact hj4 i hi hne
theorem jPrint_ok (q:List Val) (hn:q.length≤1000000000000) (hl:∀v∈q,LOk v) (hB:avLL (mapC valC q)≤2000000000000) (hp:CH) (m:Nat):MeetsF Tryz.prog 65 hp m [vx (listV q)] (.tp [.s (ofL (prnL q)),.i .i64 0]):=by
 have h1:=fun hp n g hk=>print_list q hn hl hB (hp:=hp) (n:=n) (k:=m+1) (g:=g) hk
 obtain ⟨v,hv⟩:∃v,listV q=v:=⟨_,rfl⟩
 rw [hv] at h1 ⊢
 refine meetsF Tryz.func65 (by kernel_rfl) cc65 cr65 rfl fun hf=>?_;unfold ck65
 simp only [go_sem,↓reduceIte,zqa,zqb,zqc,zqd,zqe,reduceCtorEq,zqf,zqg,zqh,zqi,zqj,zqk]
 refine vcCall.r (h1 _ _ 0 (by simp only [go_sem,↓reduceIte,zqa,zqb,zqc,zqd,zqe,reduceCtorEq,zqf,zqg,zqh,zqi,zqj,zqk];rfl) (by omega)) ?_
 rintro H2 n2 _ ⟨q1,q2,q3,⟨g3,q4⟩,rfl⟩
 simp (disch:=omega) only [ite_ne,go_sem,↓reduceIte,zqa,zqb,zqc,zqd,zqe,reduceCtorEq,zqf,zqg,zqh,zqi,zqj,zqk]
 refine vcCall.f (wRead (k:=m+1) (g:=g3) (l:=prnL q) q4 (by simp [prnL])) ?_
 simp (disch:=omega) only [ite_ne,go_sem,↓reduceIte,zqa,zqb,zqc,zqd,zqe,reduceCtorEq,zqf,zqg,zqh,zqi,zqj,zqk]
 exact fun i hi=>(q3 i (by omega) (by omega)).trans (by rw [gc_ne _ _ (by omega),gc_ne _ _ (by omega)])
end Go.Proofs.YthiifoleopdieaaGreatDoor
