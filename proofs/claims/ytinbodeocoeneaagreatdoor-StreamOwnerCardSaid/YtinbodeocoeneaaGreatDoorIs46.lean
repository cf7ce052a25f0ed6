/- Proof. Conditions: none. -/
import Derived.Test.YtinbodeocoeneaaGreatDoorIs45
open Nat renaming reduceEqDiff→Za,reduceBEq→Zb,reduceAdd→Zc,reduceLeDiff→Zd,reduceLT→Ze,reduceMul→Zf,reduceSub→Zg
open Int renaming reduceEq→Zh,reduceLT→Zi,reduceLE→Zj,reduceToNat→Zk
open List renaming length_cons→zlc,length_append→zld,length_nil→zle
open Nat renaming le_refl→zna
namespace Go.Proofs.YtinbodeocoeneaaGreatDoor
open Go.Eng
set_option linter.all false
set_option maxRecDepth 20000
def SbQ (hp:CH) (n k:Nat) (l:List UInt8) (hp':CH) (n':Nat) (r:AV):Prop :=
 n≤n'∧(∀j,n'≤j→gc hp' j=.no)∧(∀j,j<n→¬j=k→gc hp' j=gc hp j)∧(∃g,gc hp' k=.sb 194 5 g (ofL l))∧r=.b true
theorem SbQ.one {hp:CH} {n k g:Nat} {c:Chunk} {l:List UInt8} (hf:∀j,n≤j→gc hp j=.no) (hkn:k<n):SbQ hp n k l ((k,.sb 194 5 g (ofL l))::(n,c)::hp) (n+1) (.b true) :=
 ⟨by omega,fun j hj=>by rw [gc_ne _ _ (by omega),gc_ne _ _ (by omega)];exact hf j (by omega),fun j hj hne=>by rw [gc_ne _ _ (by omega),gc_ne _ _ (by omega)],⟨g,gc_same _ _ _⟩,rfl⟩
theorem print_leaf (v:Val) (hv:LOk v) {hp:CH} {n k g:Nat} {l:List UInt8} (hk:gc hp k=.sb 194 5 g (ofL l)) (hkn:k<n) (hlen:l.length+32*avL (valC v)≤140737488355328) :
  Meets Tryz.prog 148 hp n [.bx k 0,vx v] (SbQ hp n k (l++prnV v)):=by
 have h0:=hv.l
 have h1:=hv.u
 have hs:=hv.s
 have hpl:=prnV_len v hv.r
 obtain ⟨R,hR⟩:∃R,prnV v=R:=⟨_,rfl⟩
 have e:=hR
 rw [prnV] at e
 rw [hR] at hpl ⊢
 refine meetsN Tryz.func148 (by kernel_rfl) cc148 cr148 rfl fun hf=>?_
 unfold ck148
 simp only [go_sem,↓reduceIte,Za,Zb,Zc,Zd,Ze,reduceCtorEq,Zf,Zg,Zh,Zi,Zj,Zk]
 refine cdK_of (fun c=>?_) (fun c0=>?_)
 .have c:v.k=0:=by simpa using c
  rw [if_pos c] at e
  subst e
  simp only [go_sem,↓reduceIte,Za,Zb,Zc,Zd,Ze,reduceCtorEq,Zf,Zg,Zh,Zi,Zj,Zk]
  refine vcCall.r (wStr (k:=k) (g:=g) (l:=l) [110,117,108,108] (by (simp (disch:=omega) only [ite_ne,hk,go_sem,↓reduceIte,Za,Zb,Zc,Zd,Ze,reduceCtorEq,Zf,Zg,Zh,Zi,Zj,Zk])) (by omega)) ?_
  rintro _ _ _ ⟨g2,rfl,rfl,rfl⟩
  simp only [go_sem,↓reduceIte,Za,Zb,Zc,Zd,Ze,reduceCtorEq,Zf,Zg,Zh,Zi,Zj,Zk]
  exact SbQ.one hf hkn
 have c0:¬v.k=0:=by simpa using c0
 rw [if_neg c0] at e
 simp only [go_sem,↓reduceIte,Za,Zb,Zc,Zd,Ze,reduceCtorEq,Zf,Zg,Zh,Zi,Zj,Zk]
 refine cdK_of (fun c=>?_) (fun c1=>?_)
 .have c:v.k=1:=by simpa using c
  rw [if_pos c] at e
  simp only [go_sem,↓reduceIte,Za,Zb,Zc,Zd,Ze,reduceCtorEq,Zf,Zg,Zh,Zi,Zj,Zk]
  refine cdK_of (fun d=>?_) (fun d=>?_)
  .have d:v.n=0:=by simpa using d
   rw [if_pos d] at e
   subst e
   simp only [go_sem,↓reduceIte,Za,Zb,Zc,Zd,Ze,reduceCtorEq,Zf,Zg,Zh,Zi,Zj,Zk]
   refine vcCall.r (wStr (k:=k) (g:=g) (l:=l) [102,97,108,115,101] (by (simp (disch:=omega) only [ite_ne,hk,go_sem,↓reduceIte,Za,Zb,Zc,Zd,Ze,reduceCtorEq,Zf,Zg,Zh,Zi,Zj,Zk])) (by omega)) ?_
   rintro _ _ _ ⟨g2,rfl,rfl,rfl⟩
   simp only [go_sem,↓reduceIte,Za,Zb,Zc,Zd,Ze,reduceCtorEq,Zf,Zg,Zh,Zi,Zj,Zk]
   exact SbQ.one hf hkn
  .have d:¬v.n=0:=by simpa using d
   rw [if_neg d] at e
   subst e
   simp only [go_sem,↓reduceIte,Za,Zb,Zc,Zd,Ze,reduceCtorEq,Zf,Zg,Zh,Zi,Zj,Zk]
   refine vcCall.r (wStr (k:=k) (g:=g) (l:=l) [116,114,117,101] (by (simp (disch:=omega) only [ite_ne,hk,go_sem,↓reduceIte,Za,Zb,Zc,Zd,Ze,reduceCtorEq,Zf,Zg,Zh,Zi,Zj,Zk])) (by omega)) ?_
   rintro _ _ _ ⟨g2,rfl,rfl,rfl⟩
   simp only [go_sem,↓reduceIte,Za,Zb,Zc,Zd,Ze,reduceCtorEq,Zf,Zg,Zh,Zi,Zj,Zk]
   exact SbQ.one hf hkn
 have c1:¬v.k=1:=by simpa using c1
 rw [if_neg c1] at e
 simp only [go_sem,↓reduceIte,Za,Zb,Zc,Zd,Ze,reduceCtorEq,Zf,Zg,Zh,Zi,Zj,Zk]
 refine cdK_of (fun c=>?_) (fun c2=>?_)
 .have c:v.k=2:=by simpa using c
  rw [if_pos c] at e
  subst e
  simp only [go_sem,↓reduceIte,Za,Zb,Zc,Zd,Ze,reduceCtorEq,Zf,Zg,Zh,Zi,Zj,Zk]
  refine vcCall.f (tDecimal_ok v.n hv.r.l hv.r.u _ _) ?_
  simp only [go_sem,↓reduceIte,Za,Zb,Zc,Zd,Ze,reduceCtorEq,Zf,Zg,Zh,Zi,Zj,Zk]
  refine vcCall.r (wStr (k:=k) (g:=g) (l:=l) (Lib.itoa v.n) (by (simp (disch:=omega) only [ite_ne,hk,go_sem,↓reduceIte,Za,Zb,Zc,Zd,Ze,reduceCtorEq,Zf,Zg,Zh,Zi,Zj,Zk])) (by omega)) ?_
  rintro _ _ _ ⟨g2,rfl,rfl,rfl⟩
  simp only [go_sem,↓reduceIte,Za,Zb,Zc,Zd,Ze,reduceCtorEq,Zf,Zg,Zh,Zi,Zj,Zk]
  exact SbQ.one hf hkn
 have c2:¬v.k=2:=by simpa using c2
 rw [if_neg c2] at e
 subst e
 simp only [go_sem,↓reduceIte,Za,Zb,Zc,Zd,Ze,reduceCtorEq,Zf,Zg,Zh,Zi,Zj,Zk]
 refine cdK_of (fun c=>?_) (fun c3=>?_)
 .simp only [c,go_sem,↓reduceIte,Za,Zb,Zc,Zd,Ze,reduceCtorEq,Zf,Zg,Zh,Zi,Zj,Zk]
  refine vcCall.f (tQuote_ok v.s (by omega) _ _) ?_
  simp only [go_sem,↓reduceIte,Za,Zb,Zc,Zd,Ze,reduceCtorEq,Zf,Zg,Zh,Zi,Zj,Zk]
  refine vcCall.r (wStr (k:=k) (g:=g) (l:=l) (quoL v.s) (by (simp (disch:=omega) only [ite_ne,hk,go_sem,↓reduceIte,Za,Zb,Zc,Zd,Ze,reduceCtorEq,Zf,Zg,Zh,Zi,Zj,Zk])) (by omega)) ?_
  rintro _ _ _ ⟨g2,rfl,rfl,rfl⟩
  simp only [go_sem,↓reduceIte,Za,Zb,Zc,Zd,Ze,reduceCtorEq,Zf,Zg,Zh,Zi,Zj,Zk]
  exact SbQ.one hf hkn
 have c3':¬v.k=3:=by simpa using c3
 have c4:decide (v.k=4)=true:=by simp;omega
 simp only [c4,go_sem,↓reduceIte,Za,Zb,Zc,Zd,Ze,reduceCtorEq,Zf,Zg,Zh,Zi,Zj,Zk]
 refine vcCall.f (tQuote_ok v.s (by omega) _ _) ?_
 simp only [go_sem,↓reduceIte,Za,Zb,Zc,Zd,Ze,reduceCtorEq,Zf,Zg,Zh,Zi,Zj,Zk]
 refine vcCall.r (wStr (k:=k) (g:=g) (l:=l) (quoL v.s) (by (simp (disch:=omega) only [ite_ne,hk,go_sem,↓reduceIte,Za,Zb,Zc,Zd,Ze,reduceCtorEq,Zf,Zg,Zh,Zi,Zj,Zk])) (by omega)) ?_
 rintro _ _ _ ⟨g2,rfl,rfl,rfl⟩
 simp only [go_sem,↓reduceIte,Za,Zb,Zc,Zd,Ze,reduceCtorEq,Zf,Zg,Zh,Zi,Zj,Zk]
 exact SbQ.one hf hkn
theorem print_list (q:List Val) (hn:q.length≤1000000000000) (hl:∀v∈q,LOk v) (hB:avLL (mapC valC q)≤2000000000000) {hp:CH} {n k g:Nat} (hk:gc hp k=.sb 194 5 g (ofL [])) (hkn:k<n) :
  Meets Tryz.prog 148 hp n [.bx k 0,vx (listV q)] (SbQ hp n k (prnL q)):=by
 have e1:(listV q).k=5:=rfl
 have e2:(listV q).items=q:=rfl
 have e3:(listV q).keys=[]:=rfl
 have e4:(listV q).n=0:=rfl
 have e5:(listV q).s=⟨#[]⟩:=rfl
 have hb:=prn_len q fun v hv=>(hl v hv).r
 simp only [vx,e1,e2,e3,e4,e5]
 refine meetsN Tryz.func148 (by kernel_rfl) cc148 cr148 rfl fun hf=>?_
 unfold ck148
 simp only [go_sem,↓reduceIte,Za,Zb,Zc,Zd,Ze,reduceCtorEq,Zf,Zg,Zh,Zi,Zj,Zk]
 refine vcCall.r (wByte (k:=k) (g:=g) (l:=[]) 91 (by (simp (disch:=omega) only [ite_ne,hk,go_sem,↓reduceIte,Za,Zb,Zc,Zd,Ze,reduceCtorEq,Zf,Zg,Zh,Zi,Zj,Zk])) (by simp)) ?_
 rintro _ _ _ ⟨g1,rfl,rfl,rfl⟩
 simp (disch:=omega) only [ite_ne,go_sem,↓reduceIte,Za,Zb,Zc,Zd,Ze,reduceCtorEq,Zf,Zg,Zh,Zi,Zj,Zk]
 refine loop (fun p:Nat × CH × Nat × Nat=>⟨[(0,.bx k 0),(44,.ds (mapC valC q)),(45,.i .i64 q.length),(46,.i .i64 p.1)],p.2.1,p.2.2.2⟩)
  (fun p=>p.1≤q.length∧n+1≤p.2.2.2∧gc p.2.1 k=.sb 194 5 p.2.2.1 (ofL (91::jc ((q.take p.1).map prnV)))∧(∀i,i<n→¬i=k→gc p.2.1 i=gc hp i)∧∀i,p.2.2.2≤i→gc p.2.1 i=.no)
  (fun p=>q.length - p.1) (0,_,g1,_) ?_ (weak_ok ?_ (Sub.refl _) (zna _)) (fun ⟨j,H,g,nn⟩ hj=>?_)
 .refine ⟨by simp,zna _,gc_same _ _ _,fun i hi hne=>?_,fun i hi=>?_⟩
  .dsimp only
   rw [gc_ne _ _ (by omega),gc_ne _ _ (by omega)]
  .dsimp only at hi ⊢
   rw [gc_ne _ _ (by omega),gc_ne _ _ (by omega)]
   exact hf i (by omega)
 .simp only [go_sem,↓reduceIte,Za,Zb,Zc,Zd,Ze,reduceCtorEq,Zf,Zg,Zh,Zi,Zj,Zk]
 dsimp only at hj
 obtain ⟨hj1,hj2,hj3,hj4,hj5⟩:=hj
 have hs:=jc_len_take prnV q j
 simp (disch:=omega) only [ite_ne,go_sem,↓reduceIte,Za,Zb,Zc,Zd,Ze,reduceCtorEq,Zf,Zg,Zh,Zi,Zj,Zk]
 refine cdK_of (fun d=>?_) (fun d=>?_)
 .have d:j<q.length:=by simpa using d
  obtain ⟨x,ex⟩:∃x,q[j]?=some x:=⟨q[j],by simp [d]⟩
  have hx:=hl x (List.mem_of_getElem? ex)
  have hw:=prnV_len x hx.r
  have hm:avL (valC x)≤avLL (mapC valC q):=avLL_in (List.mem_map_of_mem (f:=valC) (List.mem_of_getElem? ex))
  simp (disch:=omega) only [ite_ne,d,getK_s (mapC_get valC ex),go_sem,↓reduceIte,Za,Zb,Zc,Zd,Ze,reduceCtorEq,Zf,Zg,Zh,Zi,Zj,Zk]
  refine cdK_of (fun c=>?_) (fun c=>?_)
  .have c:0<j:=by simpa using c
   have hst:=jc_at prnV ex c
   simp (disch:=omega) only [ite_ne,go_sem,↓reduceIte,Za,Zb,Zc,Zd,Ze,reduceCtorEq,Zf,Zg,Zh,Zi,Zj,Zk]
   refine vcCall.r (wByte (k:=k) (g:=g) (l:=91::jc ((q.take j).map prnV)) 44 (by (simp (disch:=omega) only [ite_ne,hj3,go_sem,↓reduceIte,Za,Zb,Zc,Zd,Ze,reduceCtorEq,Zf,Zg,Zh,Zi,Zj,Zk])) (by rw [zlc];omega)) ?_
   rintro _ _ _ ⟨g2,rfl,rfl,rfl⟩
   simp (disch:=omega) only [ite_ne,go_sem,↓reduceIte,Za,Zb,Zc,Zd,Ze,reduceCtorEq,Zf,Zg,Zh,Zi,Zj,Zk]
   refine vcCall.r (print_leaf x hx (k:=k) (g:=g2) (l:=91::jc ((q.take j).map prnV)++[44]) (by (simp (disch:=omega) only [ite_ne,go_sem,↓reduceIte,Za,Zb,Zc,Zd,Ze,reduceCtorEq,Zf,Zg,Zh,Zi,Zj,Zk])) (by omega) (by simp only [zld,zlc,zle];omega)) ?_
   rintro H2 n2 _ ⟨q1,q2,q3,⟨g3,q4⟩,rfl⟩
   simp (disch:=omega) only [ite_ne,go_sem,↓reduceIte,Za,Zb,Zc,Zd,Ze,reduceCtorEq,Zf,Zg,Zh,Zi,Zj,Zk]
   refine ⟨(j+1,H2,g3,n2),⟨by dsimp only;omega,by dsimp only;omega,?_,fun i hi hne=>?_,q2⟩,by dsimp only;omega,weak_ok ?_ (Sub.refl _) (zna _)⟩
   .dsimp only
    rw [q4,hst]
    simp
   .refine (q3 i (by omega) hne).trans ?_
    rw [gc_ne _ _ (by omega),gc_ne _ _ (by omega),gc_ne _ _ (by omega)]
    exact hj4 i hi hne
   .simp (disch:=omega) only [ite_ne,wr64s j (by omega),go_sem,↓reduceIte,Za,Zb,Zc,Zd,Ze,reduceCtorEq,Zf,Zg,Zh,Zi,Zj,Zk]
  .have c:j=0:=by simp at c;omega
   subst c
   have hst:=jc_0 prnV ex
   rw [List.take_zero,List.map_nil,jc_nil] at hj3
   simp (disch:=omega) only [ite_ne,go_sem,↓reduceIte,Za,Zb,Zc,Zd,Ze,reduceCtorEq,Zf,Zg,Zh,Zi,Zj,Zk]
   refine vcCall.r (print_leaf x hx (k:=k) (g:=g) (l:=[91]) (by (simp (disch:=omega) only [ite_ne,hj3,go_sem,↓reduceIte,Za,Zb,Zc,Zd,Ze,reduceCtorEq,Zf,Zg,Zh,Zi,Zj,Zk])) (by omega) (by simp only [zlc,zle];omega)) ?_
   rintro H2 n2 _ ⟨q1,q2,q3,⟨g3,q4⟩,rfl⟩
   simp (disch:=omega) only [ite_ne,go_sem,↓reduceIte,Za,Zb,Zc,Zd,Ze,reduceCtorEq,Zf,Zg,Zh,Zi,Zj,Zk]
   refine ⟨(1,H2,g3,n2),⟨by dsimp only;omega,by dsimp only;omega,?_,fun i hi hne=>?_,q2⟩,by dsimp only;omega,weak_ok ?_ (Sub.refl _) (zna _)⟩
   .dsimp only
    rw [q4,hst]
    rfl
   .refine (q3 i (by omega) hne).trans ?_
    rw [gc_ne _ _ (by omega),gc_ne _ _ (by omega)]
    exact hj4 i hi hne
   .simp (disch:=omega) only [ite_ne,w01,go_sem,↓reduceIte,Za,Zb,Zc,Zd,Ze,reduceCtorEq,Zf,Zg,Zh,Zi,Zj,Zk]
 .have d:j=q.length:=by simp at d;omega
  subst d
  rw [List.take_length] at hj3 hs
  simp (disch:=omega) only [ite_ne,go_sem,↓reduceIte,Za,Zb,Zc,Zd,Ze,reduceCtorEq,Zf,Zg,Zh,Zi,Zj,Zk]
  refine vcCall.r (wByte (k:=k) (g:=g) (l:=91::jc (q.map prnV)) 93 hj3 (by rw [zlc];omega)) ?_
  rintro _ _ _ ⟨g2,rfl,rfl,rfl⟩
  simp (disch:=omega) only [ite_ne,go_sem,↓reduceIte,Za,Zb,Zc,Zd,Ze,reduceCtorEq,Zf,Zg,Zh,Zi,Zj,Zk]
  refine ⟨by omega,fun i hi=>?_,fun i hi hne=>?_,⟨g2,gc_same _ _ _⟩,rfl⟩
  .rw [gc_ne _ _ (by omega)]
   exact hj5 i hi
  .rw [gc_ne _ _ (by omega)]
   exact hj4 i hi hne
theorem jPrint_ok (q:List Val) (hn:q.length≤1000000000000) (hl:∀v∈q,LOk v) (hB:avLL (mapC valC q)≤2000000000000) (hp:CH) (m:Nat):MeetsF Tryz.prog 103 hp m [vx (listV q)] (.tp [.s (ofL (prnL q)),.i .i64 0]):=by
 have h1:=fun hp n g hk=>print_list q hn hl hB (hp:=hp) (n:=n) (k:=m+1) (g:=g) hk
 obtain ⟨v,hv⟩:∃v,listV q=v:=⟨_,rfl⟩
 rw [hv] at h1 ⊢
 refine meetsF Tryz.func103 (by kernel_rfl) cc103 cr103 rfl fun hf=>?_;unfold ck103
 simp only [go_sem,↓reduceIte,Za,Zb,Zc,Zd,Ze,reduceCtorEq,Zf,Zg,Zh,Zi,Zj,Zk]
 refine vcCall.r (h1 _ _ 0 (by simp only [go_sem,↓reduceIte,Za,Zb,Zc,Zd,Ze,reduceCtorEq,Zf,Zg,Zh,Zi,Zj,Zk];rfl) (by omega)) ?_
 rintro H2 n2 _ ⟨q1,q2,q3,⟨g3,q4⟩,rfl⟩
 simp (disch:=omega) only [ite_ne,go_sem,↓reduceIte,Za,Zb,Zc,Zd,Ze,reduceCtorEq,Zf,Zg,Zh,Zi,Zj,Zk]
 refine vcCall.f (wRead (k:=m+1) (g:=g3) (l:=prnL q) q4 (by simp [prnL])) ?_
 simp (disch:=omega) only [ite_ne,go_sem,↓reduceIte,Za,Zb,Zc,Zd,Ze,reduceCtorEq,Zf,Zg,Zh,Zi,Zj,Zk]
 exact fun i hi=>(q3 i (by omega) (by omega)).trans (by rw [gc_ne _ _ (by omega),gc_ne _ _ (by omega)])
theorem snoc_zv (l:List Val):mapC valC l++[[AV.i .i64 0,.i .i64 0,.s ⟨#[]⟩,.ds [],.ds []]]=mapC valC (l++[zVal]):=mapC_snoc valC l zVal
abbrev rdC (s:Sup) (d:Dat):List AV:=[.ds (stC s.g),.ds (mapC dfC s.doc),.ds (mapC kyC s.keys),.ds (mapC jnC s.joins),.ds (mapC itC d.i),.ds (mapC wrC d.w)]
def itD (d:Dat) (i:Int):Itm:=if exB d i=true then (d.i[i.toNat]?).getD (.mk ⟨#[]⟩ []) else .mk ⟨#[]⟩ []
theorem itD_at {d:Dat} {j:Nat} {x:Itm} (h:d.i[j]?=some x) (hj:j<d.i.length):itD d j=x:=by
 have e:exB d j=true:=by simp [exB];omega
 rw [itD,if_pos e,Int.toNat_natCast,h]
 rfl
theorem ritem_ok (s:Sup) (d:Dat) (i:Int) {c:Nat} {hp:CH} (hc:gc hp c=.bx (rdC s d)) (m:Nat):MeetsF Tryz.prog 170 hp m [.bx c 0,.i .i64 i] (.tp [ix' (itD d i),.b (exB d i)]):=by
 obtain ⟨X,hX⟩:∃X,exB d i=X:=⟨_,rfl⟩
 have e:X=(decide (0≤i)&&decide (i<(d.i.length:Int))):=by rw [←hX,exB]
 rw [itD,hX]
 refine meetsF Tryz.func170 (by kernel_rfl) cc170 cr170 rfl fun hf=>?_;unfold ck170
 have hlt:=bx_lt hf hc
 simp (disch:=omega) only [ite_ne,hc,go_sem,↓reduceIte,Za,Zb,Zc,Zd,Ze,reduceCtorEq,Zf,Zg,Zh,Zi,Zj,Zk]
 refine cdK_of (fun q=>?_) (fun q=>?_)
 .have e2:X=false:=by
   rw [e,Bool.eq_false_iff]
   intro h
   simp at h q
   omega
  subst e2
  simp only [go_sem,↓reduceIte,Za,Zb,Zc,Zd,Ze,reduceCtorEq,Zf,Zg,Zh,Zi,Zj,Zk]
  try rfl
 .have e2:X=true:=by
   rw [e]
   simp at q ⊢
   omega
  subst e2
  obtain ⟨j,x,rfl,ex,hil,ht⟩:=exB_at hX
  rw [if_pos rfl,Int.toNat_natCast,ex]
  simp (disch:=omega) only [ite_ne,hc,hil,getK_s (mapC_get itC ex),go_sem,↓reduceIte,Za,Zb,Zc,Zd,Ze,reduceCtorEq,Zf,Zg,Zh,Zi,Zj,Zk]
  try rfl
theorem trequires_ok (s:Sup) (hs:SOk s) (d:Dat) (t f:ByteArray) {c:Nat} {hp:CH} (hc:gc hp c=.bx (rdC s d)) (m:Nat):MeetsF Tryz.prog 172 hp m [.bx c 0,.s t,.s f] (.ds (stC (reqJ s.joins t f))):=by
 have hjl:=hs.j
 obtain ⟨R,hR⟩:∃R,reqJ s.joins t f=R:=⟨_,rfl⟩
 rw [hR]
 refine meetsF Tryz.func172 (by kernel_rfl) cc172 cr172 rfl fun hf=>?_;unfold ck172
 have hlt:=bx_lt hf hc
 simp (disch:=omega) only [ite_ne,hc,go_sem,↓reduceIte,Za,Zb,Zc,Zd,Ze,reduceCtorEq,Zf,Zg,Zh,Zi,Zj,Zk]
 refine loop (fun q:Nat × Nat=>⟨[(1,.s t),(2,.s f),(13,.ds (mapC jnC s.joins)),(14,.i .i64 s.joins.length),(15,.i .i64 q.1)],hp,q.2⟩)
  (fun q=>q.1≤s.joins.length∧m≤q.2∧R=reqJ (s.joins.drop q.1) t f) (fun q=>s.joins.length - q.1) (0,m) ?_ ?_ (fun ⟨j,n⟩ hj=>?_)
 .exact ⟨by simp,by simp,hR.symm⟩
 .refine weak_ok ?_ (Sub.refl _) (zna _)
  all_goals (simp (disch:=omega) only [ite_ne,go_sem,↓reduceIte,Za,Zb,Zc,Zd,Ze,reduceCtorEq,Zf,Zg,Zh,Zi,Zj,Zk])
 dsimp only at hj
 obtain ⟨hj1,hj2,hj3⟩:=hj
 simp (disch:=omega) only [ite_ne,go_sem,↓reduceIte,Za,Zb,Zc,Zd,Ze,reduceCtorEq,Zf,Zg,Zh,Zi,Zj,Zk]
 refine cdK_of (fun q=>?_) (fun q=>?_)
 .have q:j<s.joins.length:=by simpa using q
  obtain ⟨y,ey⟩:∃y,s.joins[j]?=some y:=⟨s.joins[j],by simp [q]⟩
  rw [drop_at ey,reqJ_cons] at hj3
  simp (disch:=omega) only [ite_ne,q,getK_s (mapC_get jnC ey),go_sem,↓reduceIte,Za,Zb,Zc,Zd,Ze,reduceCtorEq,Zf,Zg,Zh,Zi,Zj,Zk]
  refine cdK_of (fun c=>?_) (fun c=>?_)
  .have c:y.t=t∧y.f=f∧0<y.req.length:=by
    simp only [Bool.and_eq_true,decide_eq_true_eq] at c
    exact ⟨c.1.1,c.1.2,by omega⟩
   rw [if_pos c] at hj3
   subst hj3
   simp (disch:=omega) only [ite_ne,hj2,go_sem,↓reduceIte,Za,Zb,Zc,Zd,Ze,reduceCtorEq,Zf,Zg,Zh,Zi,Zj,Zk]
  .have c:¬(y.t=t∧y.f=f∧0<y.req.length):=by
    rintro ⟨c1,c2,c3⟩
    rw [Bool.eq_false_iff] at c
    exact c (by simp only [Bool.and_eq_true,decide_eq_true_eq];exact ⟨⟨c1,c2⟩,by omega⟩)
   rw [if_neg c] at hj3
   simp (disch:=omega) only [ite_ne,go_sem,↓reduceIte,Za,Zb,Zc,Zd,Ze,reduceCtorEq,Zf,Zg,Zh,Zi,Zj,Zk]
   refine ⟨(j+1,_),⟨by dsimp only;omega,by dsimp only;omega,hj3⟩,by dsimp only;omega,weak_ok ?_ (Sub.base hf ?_) (zna _)⟩
   all_goals
    simp (disch:=omega) only [ite_ne,wr64s j (by omega),hj2,go_sem,↓reduceIte,Za,Zb,Zc,Zd,Ze,reduceCtorEq,Zf,Zg,Zh,Zi,Zj,Zk]
 .have q:j=s.joins.length:=by simp at q;omega
  subst q
  rw [List.drop_length] at hj3
  have hj3:R=[]:=hj3
  subst hj3
  simp (disch:=omega) only [ite_ne,go_sem,↓reduceIte,Za,Zb,Zc,Zd,Ze,reduceCtorEq,Zf,Zg,Zh,Zi,Zj,Zk]
theorem need_none {s:Sup} {d:Dat} {i:Int} {p:Pk} (h:exB d i=false):needV s d i p=[]∧failB s d i p=false:=by
 have e:needL s d i p=[]:=by rw [needL,h];rfl
 rw [needV,failB,e]
 exact ⟨rfl,rfl⟩
theorem any_takeI {α:Type} (q:α→Bool) {l:List α} {j:Nat} {x:α} (h:l[j]?=some x):(l.take (j+1)).any q=((l.take j).any q||q x):=by
 rw [←take_snoc h,List.any_append]
 simp
theorem badB (v:Val) (X b:Bool):(b||decide (v.k=9)||decide (v.k=6)||decide (v.k=8)&&X)=(b||(decide (v.k=9)||(decide (v.k=6)||decide (v.k=8)&&X))):=by simp [Bool.or_assoc]
theorem tneeds_ok (s:Sup) (hs:SOk s) (d:Dat) {B:Nat} (hd:DOk d B) (i:Int) (p:Pk) {c:Nat} {hp:CH} (hc:gc hp c=.bx (rdC s d)) (m:Nat) :
  MeetsF Tryz.prog 153 hp m [.bx c 0,.i .i64 i,pkx p] (.tp [.ds (mapC valC (needV s d i p)),.b (failB s d i p)]):=by
 have hnl:=needL_len hs d i p
 have hvl:=needV_len s d i p
 have hN:=need_none (s:=s) (d:=d) (i:=i) (p:=p)
 obtain ⟨V,hV⟩:∃V,needV s d i p=V:=⟨_,rfl⟩
 obtain ⟨F,hF⟩:∃F,failB s d i p=F:=⟨_,rfl⟩
 have hVe:=hV
 have hFe:=hF
 rw [needV] at hVe
 rw [failB] at hFe
 rw [hV,hF] at hN ⊢
 rw [hV] at hvl
 obtain ⟨L,hL⟩:∃L,needL s d i p=L:=⟨_,rfl⟩
 have hLe:=hL
 rw [needL] at hLe
 rw [hL] at hVe hFe hnl hvl
 obtain ⟨X,hX⟩:∃X,exB d i=X:=⟨_,rfl⟩
 rw [hX] at hLe hN
 refine meetsF Tryz.func153 (by kernel_rfl) cc153 cr153 rfl fun hf=>?_;unfold ck153
 have hlt:=bx_lt hf hc
 simp only [go_sem,↓reduceIte,Za,Zb,Zc,Zd,Ze,reduceCtorEq,Zf,Zg,Zh,Zi,Zj,Zk]
 refine vcCall.f (ritem_ok s d i (c:=c) (by (simp (disch:=omega) only [ite_ne,hc,go_sem,↓reduceIte,Za,Zb,Zc,Zd,Ze,reduceCtorEq,Zf,Zg,Zh,Zi,Zj,Zk])) _) ?_
 rw [hX]
 simp only [go_sem,↓reduceIte,Za,Zb,Zc,Zd,Ze,reduceCtorEq,Zf,Zg,Zh,Zi,Zj,Zk]
 cases X with
 | false =>
  obtain ⟨rfl,rfl⟩:=hN rfl
  simp only [go_sem,↓reduceIte,Za,Zb,Zc,Zd,Ze,reduceCtorEq,Zf,Zg,Zh,Zi,Zj,Zk]
  try rfl
 | true =>
  clear hN
  rw [if_pos rfl] at hLe
  obtain ⟨i',x,rfl,ex,hil,ht⟩:=exB_at hX
  rw [itD_at ex hil]
  rw [ht] at hLe
  simp only [go_sem,↓reduceIte,Za,Zb,Zc,Zd,Ze,reduceCtorEq,Zf,Zg,Zh,Zi,Zj,Zk]
  refine vcCall.f (trequires_ok s hs d x.t p.name (c:=c) (by (simp (disch:=omega) only [ite_ne,hc,go_sem,↓reduceIte,Za,Zb,Zc,Zd,Ze,reduceCtorEq,Zf,Zg,Zh,Zi,Zj,Zk])) _) ?_
  rw [hLe]
  simp only [go_sem,↓reduceIte,Za,Zb,Zc,Zd,Ze,reduceCtorEq,Zf,Zg,Zh,Zi,Zj,Zk]
  refine loop (fun q:Nat × Nat=>⟨[(0,.bx c 0),(1,.i .i64 i'),(10,.rw (m+2) q.1 q.1),(11,.b ((L.take q.1).any fun f=>badV d (lookV d i' f ⟨#[]⟩))),(30,.ds (stC L)),(31,.i .i64 L.length),(32,.i .i64 q.1)],(m+2,.rw q.1 5 (mapC valC ((L.take q.1).map fun f=>leafOf (lookV d i' f ⟨#[]⟩))))::hp,q.2⟩)
   (fun q=>q.1≤L.length∧m+3≤q.2) (fun q=>L.length - q.1) (0,m+3) ?_ ?_ (fun ⟨j,n⟩ hj=>?_)
  .simp
  .refine (weak_e0 (t:=10) (m:=5) ?_).trans (weak_ok ?_ (Sub.cons ?_ (Sub.base hf ?_)) (zna _))
   all_goals (simp (disch:=omega) only [ite_ne,go_sem,↓reduceIte,Za,Zb,Zc,Zd,Ze,reduceCtorEq,Zf,Zg,Zh,Zi,Zj,Zk])
   all_goals rfl
  dsimp only at hj
  obtain ⟨hj1,hj2⟩:=hj
  have hmn:m≤n:=by omega
  simp (disch:=omega) only [ite_ne,go_sem,↓reduceIte,Za,Zb,Zc,Zd,Ze,reduceCtorEq,Zf,Zg,Zh,Zi,Zj,Zk]
  refine cdK_of (fun q=>?_) (fun q=>?_)
  .have q:j<L.length:=by simpa using q
   obtain ⟨f,ef⟩:∃f,L[j]?=some f:=⟨L[j],by simp [q]⟩
   have hst:=needV_take (s:=s) (d:=d) (i:=i') (p:=p) ef
   have hbd:=any_takeI (fun f=>badV d (lookV d i' f ⟨#[]⟩)) ef
   have ht:((L.take j).map fun f=>leafOf (lookV d i' f ⟨#[]⟩)).length=j:=by simp;omega
   have k1:(j+1)*80≤140737488355328:=by omega
   have k2:j+1≤9223372036854775807:=by omega
   have hlk:=dLookup_ok d hd.f.f i' f ⟨#[]⟩
   have hsm:=lookV_sm hd i' f ⟨#[]⟩
   obtain ⟨v,hv⟩:∃v,lookV d i' f ⟨#[]⟩=v:=⟨_,rfl⟩
   rw [hv] at hlk hst hbd hsm
   obtain ⟨O,hO⟩:∃O,(L.take j).map (fun f=>leafOf (lookV d i' f ⟨#[]⟩))=O:=⟨_,rfl⟩
   rw [hO] at ht hst ⊢
   obtain ⟨b,hb⟩:∃b,(L.take j).any (fun f=>badV d (lookV d i' f ⟨#[]⟩))=b:=⟨_,rfl⟩
   rw [hb] at hbd ⊢
   rw [badV,←badB] at hbd
   simp (disch:=omega) only [ite_ne,q,hc,getK_s (mapC_get st1 ef),go_sem,↓reduceIte,Za,Zb,Zc,Zd,Ze,reduceCtorEq,Zf,Zg,Zh,Zi,Zj,Zk]
   refine vcCall.f (hlk _ _) ?_
   simp (disch:=omega) only [ite_ne,go_sem,↓reduceIte,Za,Zb,Zc,Zd,Ze,reduceCtorEq,Zf,Zg,Zh,Zi,Zj,Zk]
   refine vcCall.f (ritem_ok s d v.n (c:=c) (by (simp (disch:=omega) only [ite_ne,hc,go_sem,↓reduceIte,Za,Zb,Zc,Zd,Ze,reduceCtorEq,Zf,Zg,Zh,Zi,Zj,Zk])) _) ?_
   simp (disch:=omega) only [ite_ne,go_sem,↓reduceIte,Za,Zb,Zc,Zd,Ze,reduceCtorEq,Zf,Zg,Zh,Zi,Zj,Zk]
   refine gCall.f (fun _=>vRight_ok v hsm.f _ _) ?_
   simp (disch:=omega) only [ite_ne,go_sem,↓reduceIte,Za,Zb,Zc,Zd,Ze,reduceCtorEq,Zf,Zg,Zh,Zi,Zj,Zk]
   refine cdK_of (fun c2=>?_) (fun c2=>?_)
   .have e2:leafOf v=zVal:=by
     rw [leafOf,if_neg]
     intro h
     simp only [leafV,Bool.and_eq_true,decide_eq_true_eq] at h
     simp [h] at c2
     omega
    rw [e2] at hst
    simp (disch:=omega) only [ite_ne,ht,k1,k2,go_sem,↓reduceIte,Za,Zb,Zc,Zd,Ze,reduceCtorEq,Zf,Zg,Zh,Zi,Zj,Zk]
    refine ⟨(j+1,_),⟨by dsimp only;omega,by dsimp only;omega⟩,by dsimp only;omega,weak_ok ?_ (Sub.cons ?_ (Sub.base hf ?_)) (zna _)⟩
    all_goals
     simp (disch:=omega) only [ite_ne,wr64s j (by omega),hst,hbd,hmn,snoc_zv,go_sem,↓reduceIte,Za,Zb,Zc,Zd,Ze,reduceCtorEq,Zf,Zg,Zh,Zi,Zj,Zk]
   .have e2:leafOf v=v:=by
     rw [leafOf,if_pos]
     simp only [leafV,Bool.and_eq_true,decide_eq_true_eq]
     simp at c2
     exact ⟨⟨by omega,by omega⟩,c2.2⟩
    rw [e2] at hst
    simp (disch:=omega) only [ite_ne,ht,k1,k2,go_sem,↓reduceIte,Za,Zb,Zc,Zd,Ze,reduceCtorEq,Zf,Zg,Zh,Zi,Zj,Zk]
    refine ⟨(j+1,_),⟨by dsimp only;omega,by dsimp only;omega⟩,by dsimp only;omega,weak_ok ?_ (Sub.cons ?_ (Sub.base hf ?_)) (zna _)⟩
    all_goals
     simp (disch:=omega) only [ite_ne,wr64s j (by omega),hst,hbd,hmn,snoc_zv,go_sem,↓reduceIte,Za,Zb,Zc,Zd,Ze,reduceCtorEq,Zf,Zg,Zh,Zi,Zj,Zk]
  .have q:j=L.length:=by simp at q;omega
   subst q
   have ht2:V.take L.length=V:=List.take_of_length_le (by omega)
   rw [List.take_length,hVe,hFe]
   simp (disch:=omega) only [ite_ne,hmn,hvl,ht2,zna,go_sem,↓reduceIte,Za,Zb,Zc,Zd,Ze,reduceCtorEq,Zf,Zg,Zh,Zi,Zj,Zk]
theorem vcopies_ok (l:List Val) (hn:l.length*80≤140737488355327) (hl:∀v∈l,v.Fit) (hp:CH) (m:Nat):MeetsF Tryz.prog 77 hp m [.ds (mapC valC l)] (.ds (mapC valC l)):=copies_ok l hn (fun x hx=>copy_ok x (hl x hx)) hp m
theorem vList_ok (l:List Val) (hn:l.length*80≤140737488355327) (hl:∀v∈l,v.Fit) (hp:CH) (m:Nat):MeetsF Tryz.prog 104 hp m [.ds (mapC valC l)] (vx (listV l)):=by
 refine meetsF Tryz.func104 (by kernel_rfl) cc104 cr104 rfl fun hf=>?_;unfold ck104
 simp only [go_sem,↓reduceIte,Za,Zb,Zc,Zd,Ze,reduceCtorEq,Zf,Zg,Zh,Zi,Zj,Zk]
 refine vcCall.f (vcopies_ok l hn hl _ _) ?_
 simp only [go_sem,↓reduceIte,Za,Zb,Zc,Zd,Ze,reduceCtorEq,Zf,Zg,Zh,Zi,Zj,Zk]
 rfl
theorem vText_ok (t:ByteArray) (hp:CH) (m:Nat):MeetsF Tryz.prog 52 hp m [.s t] (vx (txV t)):=by
 refine meetsF Tryz.func52 (by kernel_rfl) cc52 cr52 rfl fun hf=>?_;unfold ck52
 simp only [go_sem,↓reduceIte,Za,Zb,Zc,Zd,Ze,reduceCtorEq,Zf,Zg,Zh,Zi,Zj,Zk]
 rfl
theorem tfail_ok (t:ByteArray) (hp:CH) (m:Nat):MeetsF Tryz.prog 185 hp m [.s t] (vx (failV t)):=by
 refine meetsF Tryz.func185 (by kernel_rfl) cc185 cr185 rfl fun hf=>?_;unfold ck185
 simp only [go_sem,↓reduceIte,Za,Zb,Zc,Zd,Ze,reduceCtorEq,Zf,Zg,Zh,Zi,Zj,Zk]
 rfl
theorem targs_ok (s:Sup) (hs:SOk s) (d:Dat) {B:Nat} (hd:DOk d B) (i:Int) (p:Pk) (ha:AOk p.args) {c:Nat} {hp:CH} (hc:gc hp c=.bx (rdC s d)) (m:Nat) :
  MeetsF Tryz.prog 128 hp m [.bx c 0,.i .i64 i,pkx p] (.tp [.s (ofL (argT s d i p)),.b (failB s d i p)]):=by
 have hT:=tText_ok p.args (fun a h=>(ha.v a h).ok) (Nat.le_trans ha.b (by omega)) (Nat.le_trans ha.n (by omega))
 have hN:=fun hp' (h:gc hp' c=.bx (rdC s d)) m'=>tneeds_ok s hs d hd i p (c:=c) (hp:=hp') h m'
 have hnl:=needL_len hs d i p
 have hvl:=needV_len s d i p
 have hP:=jPrint_ok (needV s d i p) (by omega) (needV_lok hd i p) (needV_sum hs hd i p)
 have hLL:=vList_ok (needV s d i p) (by omega) fun v hv=>(needV_sm hd i p v hv).f
 have hal:=argsL_len ha
 have hpl:(prnL (needV s d i p)).length≤64000000000002:=by
  have h1:=prn_len (needV s d i p) fun v hv=>(needV_lok hd i p v hv).r
  have h2:=jc_le ((needV s d i p).map prnV)
  have h3:=needV_sum hs hd i p
  simp only [prnL,zlc,zld,zle]
  omega
 obtain ⟨R,hR⟩:∃R,argT s d i p=R:=⟨_,rfl⟩
 have e:=hR
 rw [argT] at e
 rw [hR]
 obtain ⟨F,hF⟩:∃F,failB s d i p=F:=⟨_,rfl⟩
 rw [hF] at hN ⊢
 obtain ⟨V,hV⟩:∃V,needV s d i p=V:=⟨_,rfl⟩
 rw [hV] at hP hLL hvl hpl e hN
 obtain ⟨L,hL⟩:∃L,needL s d i p=L:=⟨_,rfl⟩
 rw [hL] at hnl hvl e
 obtain ⟨A,hA⟩:∃A,argsL p.args=A:=⟨_,rfl⟩
 rw [hA] at hT e hal
 refine meetsF Tryz.func128 (by kernel_rfl) cc128 cr128 rfl fun hf=>?_;unfold ck128
 have hlt:=bx_lt hf hc
 simp only [go_sem,↓reduceIte,Za,Zb,Zc,Zd,Ze,reduceCtorEq,Zf,Zg,Zh,Zi,Zj,Zk]
 refine vcCall.f (hN _ (by (simp (disch:=omega) only [ite_ne,hc,go_sem,↓reduceIte,Za,Zb,Zc,Zd,Ze,reduceCtorEq,Zf,Zg,Zh,Zi,Zj,Zk])) _) ?_
 simp only [go_sem,↓reduceIte,Za,Zb,Zc,Zd,Ze,reduceCtorEq,Zf,Zg,Zh,Zi,Zj,Zk]
 refine vcCall.f (hT _ _) ?_
 simp only [go_sem,↓reduceIte,Za,Zb,Zc,Zd,Ze,reduceCtorEq,Zf,Zg,Zh,Zi,Zj,Zk]
 refine cdK_of (fun q=>?_) (fun q=>?_)
 .have c2:¬L=[]:=fun h=>by
   subst h
   rw [hvl] at q
   simp at q
  rw [if_neg c2] at e
  simp only [go_sem,↓reduceIte,Za,Zb,Zc,Zd,Ze,reduceCtorEq,Zf,Zg,Zh,Zi,Zj,Zk]
  refine vcCall.f (hLL _ _) ?_
  simp only [go_sem,↓reduceIte,Za,Zb,Zc,Zd,Ze,reduceCtorEq,Zf,Zg,Zh,Zi,Zj,Zk]
  refine vcCall.f (hP _ _) ?_
  subst e
  simp (disch:=first | omega | (simp only [zld,zlc,zle];omega)) only [ite_ne,s_cat,mk_ofL,ofL_app,litS,List.cons_append,List.append_assoc,List.nil_append,List.append_nil,go_sem,↓reduceIte,Za,Zb,Zc,Zd,Ze,reduceCtorEq,Zf,Zg,Zh,Zi,Zj,Zk]
 .have c2:L=[]:=by
   have q:¬(0:Int)<V.length:=by simpa using q
   exact List.eq_nil_of_length_eq_zero (by omega)
  rw [if_pos c2,List.append_nil] at e
  subst e
  simp only [go_sem,↓reduceIte,Za,Zb,Zc,Zd,Ze,reduceCtorEq,Zf,Zg,Zh,Zi,Zj,Zk]
end Go.Proofs.YtinbodeocoeneaaGreatDoor
