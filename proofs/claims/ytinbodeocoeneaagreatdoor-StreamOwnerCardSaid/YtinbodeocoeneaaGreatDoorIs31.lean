/- Proof. Conditions: none. -/
import Derived.Test.YtinbodeocoeneaaGreatDoorIs30
open Nat renaming reduceEqDiff→Za,reduceBEq→Zb,reduceAdd→Zc,reduceLeDiff→Zd,reduceLT→Ze,reduceMul→Zf,reduceSub→Zg
open Int renaming reduceEq→Zh,reduceLT→Zi,reduceLE→Zj,reduceToNat→Zk
open List renaming mem_of_getElem?→zla,length_cons→zlc,length_append→zld,length_nil→zle,append_assoc→zlf,cons_append→zlh,nil_append→zli
open Nat renaming le_refl→zna
namespace Go.Proofs.YtinbodeocoeneaaGreatDoor
open Go.Eng
set_option linter.all false
set_option maxRecDepth 20000
theorem List_ok (l:List Val) (hn:l.length*80≤140737488355327) (hl:∀v∈l,v.Fit) (hp:CH) (m:Nat):MeetsF Tryz.prog 83 hp m [.ds (mapC valC l)] (vx (listV l)):=by
 refine meetsF Tryz.func83 (by kernel_rfl) cc83 cr83 rfl fun hf=>?_;unfold ck83
 simp only [go_sem,↓reduceIte,Za,Zb,Zc,Zd,Ze,reduceCtorEq,Zf,Zg,Zh,Zi,Zj,Zk]
 refine vcCall.f (rcopies_ok l hn (fun x hx=>rcopy_ok x (hl x hx)) _ _) ?_
 simp only [go_sem,↓reduceIte,Za,Zb,Zc,Zd,Ze,reduceCtorEq,Zf,Zg,Zh,Zi,Zj,Zk]
 rfl
theorem printable_leaf (v:Val) (h0:0≤v.k) (h1:v.k≤4) (hp:CH) (m:Nat):MeetsF Tryz.prog 131 hp m [vx v] (.b true):=by
 have e1:decide (v.k<0)=false:=by simp;omega
 have e2:decide (6<v.k)=false:=by simp;omega
 have e3:decide (v.k=6)=false:=by simp;omega
 have e4:decide (v.k=5)=false:=by simp;omega
 refine meetsF Tryz.func131 (by kernel_rfl) cc131 cr131 rfl fun hf=>?_;unfold ck131
 simp only [e1,e2,e3,e4,go_sem,↓reduceIte,Za,Zb,Zc,Zd,Ze,reduceCtorEq,Zf,Zg,Zh,Zi,Zj,Zk]
theorem printable_list (l:List Val) (hn:l.length≤1000000000000) (hl:∀v∈l,0≤v.k∧v.k≤4) (hp:CH) (m:Nat):MeetsF Tryz.prog 131 hp m [vx (listV l)] (.b true):=by
 have e1:(listV l).k=5:=rfl
 have e2:(listV l).items=l:=rfl
 have e3:(listV l).keys=[]:=rfl
 have e4:(listV l).n=0:=rfl
 have e5:(listV l).s=⟨#[]⟩:=rfl
 simp only [vx,e1,e2,e3,e4,e5]
 refine meetsF Tryz.func131 (by kernel_rfl) cc131 cr131 rfl fun hf=>?_;unfold ck131
 simp only [go_sem,↓reduceIte,Za,Zb,Zc,Zd,Ze,reduceCtorEq,Zf,Zg,Zh,Zi,Zj,Zk]
 refine loop (fun p:Nat × Nat=>⟨[(1,.bx m 0),(3,.i .i64 p.1)],(m,.bx [.i .i64 5,.i .i64 0,.s ⟨#[]⟩,.ds (mapC valC l),.ds (stC [])])::hp,p.2⟩)
  (fun p=>p.1≤l.length∧m+1≤p.2) (fun p=>l.length - p.1) (0,m+1) ?_ ?_ (fun ⟨j,n⟩ hj=>?_)
 .simp
 .refine weak_ok ?_ (Sub.cons ?_ (Sub.base hf ?_)) (zna _)
  all_goals (simp (disch:=omega) only [ite_ne,go_sem,↓reduceIte,Za,Zb,Zc,Zd,Ze,reduceCtorEq,Zf,Zg,Zh,Zi,Zj,Zk])
  all_goals rfl
 dsimp only at hj
 obtain ⟨hj1,hj2⟩:=hj
 simp (disch:=omega) only [ite_ne,go_sem,↓reduceIte,Za,Zb,Zc,Zd,Ze,reduceCtorEq,Zf,Zg,Zh,Zi,Zj,Zk]
 refine cdK_of (fun q=>?_) (fun q=>?_)
 .have q:j<l.length:=by simpa using q
  obtain ⟨x,ex⟩:∃x,l[j]?=some x:=⟨l[j],by simp [q]⟩
  have hx:=hl x (zla ex)
  simp (disch:=omega) only [ite_ne,q,getK_s (mapC_get valC ex),go_sem,↓reduceIte,Za,Zb,Zc,Zd,Ze,reduceCtorEq,Zf,Zg,Zh,Zi,Zj,Zk]
  refine vcCall.f (printable_leaf x hx.1 hx.2 _ _) ?_
  simp (disch:=omega) only [ite_ne,go_sem,↓reduceIte,Za,Zb,Zc,Zd,Ze,reduceCtorEq,Zf,Zg,Zh,Zi,Zj,Zk]
  refine ⟨(j+1,_),⟨by dsimp only;omega,by dsimp only;omega⟩,by dsimp only;omega,weak_ok ?_ (Sub.cons ?_ (Sub.base hf ?_)) (zna _)⟩
  all_goals
   simp (disch:=omega) only [ite_ne,wr64s j (by omega),go_sem,↓reduceIte,Za,Zb,Zc,Zd,Ze,reduceCtorEq,Zf,Zg,Zh,Zi,Zj,Zk]
 .simp (disch:=omega) only [ite_ne,go_sem,↓reduceIte,Za,Zb,Zc,Zd,Ze,reduceCtorEq,Zf,Zg,Zh,Zi,Zj,Zk]
theorem prnV_len (v:Val) (hr:v.Rng):(prnV v).length+8≤32*avL (valC v):=by
 have h1:=itoa_len v.n hr.l hr.u
 have h2:=quoL_len v.s
 rw [avL_val]
 unfold prnV
 repeat' split
 all_goals try simp only [zlc,zld,zle]
 all_goals omega
theorem prn_len:∀(l:List Val),(∀v∈l,v.Rng)→jnB (l.map prnV)≤32*avLL (mapC valC l)
 | [],_=>by simp [jnB]
 | x::i,h=>by
  have h1:=prnV_len x (h x (by simp))
  have h2:=prn_len i fun y hy=>h y (by simp [hy])
  rw [List.map_cons,jnB_cons,mapC_cons,avLL_cons]
  omega
theorem jc_le:∀xs:List (List UInt8),(jc xs).length≤jnB xs
 | []=>by simp [jc_nil]
 | [x]=>by rw [jc_one,jnB_cons];omega
 | x::y::r=>by
  have ih:=jc_le (y::r)
  have e:jc (x::y::r)=x++([44]++jc (y::r)):=by simp [jc,Lib.join,List.intercalate]
  rw [e,jnB_cons]
  simp only [zld,zlc,zle]
  omega
theorem jc_at {α:Type} (f:α→List UInt8) {l:List α} {j:Nat} {x:α} (h:l[j]?=some x) (hj:0<j):jc ((l.take (j+1)).map f)=jc ((l.take j).map f)++44::f x:=by
 have hl:=(List.getElem?_eq_some_iff.1 h).1
 rw [←take_snoc h,List.map_append,List.map_cons,List.map_nil,jc_snoc]
 .rfl
 intro e
 have:=congrArg List.length e
 rw [List.length_map,List.length_take,zle] at this
 omega
theorem jc_0 {α:Type} (f:α→List UInt8) {l:List α} {x:α} (h:l[0]?=some x):jc ((l.take 1).map f)=f x:=by
 rw [←take_snoc h]
 simp [jc_one]
theorem jc_len_take {α:Type} (f:α→List UInt8) (l:List α) (j:Nat):(jc ((l.take j).map f)).length≤jnB (l.map f):=by
 have h1:=jc_le ((l.take j).map f)
 rw [List.map_take] at h1
 have h2:=jnB_take (l.map f) j
 rw [List.map_take]
 omega
structure LOk (v:Val):Prop where
 r:v.Rng
 l:0≤v.k
 u:v.k≤4
 s:v.s.size≤1000000000
theorem write_leaf (v:Val) (hv:LOk v) (hp:CH) (m:Nat):MeetsF Tryz.prog 132 hp m [vx v] (.s (ofL (prnV v))):=by
 have h0:=hv.l
 have h1:=hv.u
 have hs:=hv.s
 obtain ⟨R,hR⟩:∃R,prnV v=R:=⟨_,rfl⟩
 have e:=hR
 rw [prnV] at e
 rw [hR]
 refine meetsF Tryz.func132 (by kernel_rfl) cc132 cr132 rfl fun hf=>?_;unfold ck132
 simp only [go_sem,↓reduceIte,Za,Zb,Zc,Zd,Ze,reduceCtorEq,Zf,Zg,Zh,Zi,Zj,Zk]
 refine cdK_of (fun c=>?_) (fun c0=>?_)
 .have c:v.k=0:=by simpa using c
  rw [if_pos c] at e
  subst e
  simp only [go_sem,↓reduceIte,Za,Zb,Zc,Zd,Ze,reduceCtorEq,Zf,Zg,Zh,Zi,Zj,Zk]
  rfl
 have c0:¬v.k=0:=by simpa using c0
 rw [if_neg c0] at e
 simp only [go_sem,↓reduceIte,Za,Zb,Zc,Zd,Ze,reduceCtorEq,Zf,Zg,Zh,Zi,Zj,Zk]
 refine cdK_of (fun c=>?_) (fun c1=>?_)
 .have c:v.k=1:=by simpa using c
  rw [if_pos c] at e
  simp only [go_sem,↓reduceIte,Za,Zb,Zc,Zd,Ze,reduceCtorEq,Zf,Zg,Zh,Zi,Zj,Zk]
  refine cdK_of (fun d=>?_) (fun d=>?_)
  .have d:v.n=0:=by simpa using d
   rw [if_pos d] at e
   subst e
   simp only [go_sem,↓reduceIte,Za,Zb,Zc,Zd,Ze,reduceCtorEq,Zf,Zg,Zh,Zi,Zj,Zk]
   rfl
  .have d:¬v.n=0:=by simpa using d
   rw [if_neg d] at e
   subst e
   simp only [go_sem,↓reduceIte,Za,Zb,Zc,Zd,Ze,reduceCtorEq,Zf,Zg,Zh,Zi,Zj,Zk]
   rfl
 have c1:¬v.k=1:=by simpa using c1
 rw [if_neg c1] at e
 simp only [go_sem,↓reduceIte,Za,Zb,Zc,Zd,Ze,reduceCtorEq,Zf,Zg,Zh,Zi,Zj,Zk]
 refine cdK_of (fun c=>?_) (fun c2=>?_)
 .have c:v.k=2:=by simpa using c
  rw [if_pos c] at e
  subst e
  simp only [go_sem,↓reduceIte,Za,Zb,Zc,Zd,Ze,reduceCtorEq,Zf,Zg,Zh,Zi,Zj,Zk]
  refine vcCall.f (rDecimal_ok v.n hv.r.l hv.r.u _ _) ?_
  simp only [go_sem,↓reduceIte,Za,Zb,Zc,Zd,Ze,reduceCtorEq,Zf,Zg,Zh,Zi,Zj,Zk]
 have c2:¬v.k=2:=by simpa using c2
 rw [if_neg c2] at e
 subst e
 simp only [go_sem,↓reduceIte,Za,Zb,Zc,Zd,Ze,reduceCtorEq,Zf,Zg,Zh,Zi,Zj,Zk]
 refine cdK_of (fun c=>?_) (fun c3=>?_)
 .simp only [c,go_sem,↓reduceIte,Za,Zb,Zc,Zd,Ze,reduceCtorEq,Zf,Zg,Zh,Zi,Zj,Zk]
  refine vcCall.f (rQuote_ok v.s (by omega) _ _) ?_
  simp only [go_sem,↓reduceIte,Za,Zb,Zc,Zd,Ze,reduceCtorEq,Zf,Zg,Zh,Zi,Zj,Zk]
 have c3':¬v.k=3:=by simpa using c3
 have c4:decide (v.k=4)=true:=by simp;omega
 simp only [c4,go_sem,↓reduceIte,Za,Zb,Zc,Zd,Ze,reduceCtorEq,Zf,Zg,Zh,Zi,Zj,Zk]
 refine vcCall.f (rQuote_ok v.s (by omega) _ _) ?_
 simp only [go_sem,↓reduceIte,Za,Zb,Zc,Zd,Ze,reduceCtorEq,Zf,Zg,Zh,Zi,Zj,Zk]
theorem write_list (l:List Val) (hn:l.length≤1000000000000) (hl:∀v∈l,LOk v) (hB:avLL (mapC valC l)≤2000000000000) (hp:CH) (m:Nat):MeetsF Tryz.prog 132 hp m [vx (listV l)] (.s (ofL (prnL l))):=by
 have e1:(listV l).k=5:=rfl
 have e2:(listV l).items=l:=rfl
 have e3:(listV l).keys=[]:=rfl
 have e4:(listV l).n=0:=rfl
 have e5:(listV l).s=⟨#[]⟩:=rfl
 have hb:=prn_len l fun v hv=>(hl v hv).r
 simp only [vx,e1,e2,e3,e4,e5]
 refine meetsF Tryz.func132 (by kernel_rfl) cc132 cr132 rfl fun hf=>?_;unfold ck132
 simp only [go_sem,↓reduceIte,Za,Zb,Zc,Zd,Ze,reduceCtorEq,Zf,Zg,Zh,Zi,Zj,Zk]
 refine loop (fun p:Nat × Nat=>⟨[(1,.bx m 0),(4,.s ⟨#[93]⟩),(5,.s (ofL (91::jc ((l.take p.1).map prnV)))),(6,.i .i64 p.1)],(m,.bx [.i .i64 5,.i .i64 0,.s ⟨#[]⟩,.ds (mapC valC l),.ds (stC [])])::hp,p.2⟩)
  (fun p=>p.1≤l.length∧m+1≤p.2) (fun p=>l.length - p.1) (0,m+1) ?_ ?_ (fun ⟨j,n⟩ hj=>?_)
 .simp
 .refine weak_ok ?_ (Sub.cons ?_ (Sub.base hf ?_)) (zna _)
  all_goals (simp (disch:=omega) only [ite_ne,go_sem,↓reduceIte,Za,Zb,Zc,Zd,Ze,reduceCtorEq,Zf,Zg,Zh,Zi,Zj,Zk])
  all_goals rfl
 dsimp only at hj
 obtain ⟨hj1,hj2⟩:=hj
 simp (disch:=omega) only [ite_ne,go_sem,↓reduceIte,Za,Zb,Zc,Zd,Ze,reduceCtorEq,Zf,Zg,Zh,Zi,Zj,Zk]
 refine cdK_of (fun q=>?_) (fun q=>?_)
 .have q:j<l.length:=by simpa using q
  obtain ⟨x,ex⟩:∃x,l[j]?=some x:=⟨l[j],by simp [q]⟩
  have hx:=hl x (zla ex)
  have hw:=prnV_len x hx.r
  have hm:avL (valC x)≤avLL (mapC valC l):=avLL_in (List.mem_map_of_mem (f:=valC) (zla ex))
  have hs:=jc_len_take prnV l j
  simp (disch:=omega) only [ite_ne,go_sem,↓reduceIte,Za,Zb,Zc,Zd,Ze,reduceCtorEq,Zf,Zg,Zh,Zi,Zj,Zk]
  refine cdK_of (fun d=>?_) (fun d=>?_)
  .have d:0<j:=by simpa using d
   have hst:=jc_at prnV ex d
   simp (disch:=first | omega | (simp only [zld,zlc,zle];omega)) only [ite_ne,s_cat,mk_ofL,ofL_app,litS,zlh,zlf,zli,q,getK_s (mapC_get valC ex),go_sem,↓reduceIte,Za,Zb,Zc,Zd,Ze,reduceCtorEq,Zf,Zg,Zh,Zi,Zj,Zk]
   refine vcCall.f (write_leaf x hx _ _) ?_
   simp (disch:=first | omega | (simp only [zld,zlc,zle];omega)) only [ite_ne,s_cat,mk_ofL,ofL_app,litS,zlh,zlf,zli,q,go_sem,↓reduceIte,Za,Zb,Zc,Zd,Ze,reduceCtorEq,Zf,Zg,Zh,Zi,Zj,Zk]
   refine ⟨(j+1,_),⟨by dsimp only;omega,by dsimp only;omega⟩,by dsimp only;omega,weak_ok ?_ (Sub.cons ?_ (Sub.base hf ?_)) (zna _)⟩
   all_goals
    simp (disch:=first | omega | (simp only [zld,zlc,zle];omega)) only [ite_ne,s_cat,mk_ofL,ofL_app,litS,zlh,zlf,zli,wr64s j (by omega),hst,go_sem,↓reduceIte,Za,Zb,Zc,Zd,Ze,reduceCtorEq,Zf,Zg,Zh,Zi,Zj,Zk]
  .have d:j=0:=by simp at d;omega
   subst d
   have hst:=jc_0 prnV ex
   rw [List.take_zero,List.map_nil,jc_nil]
   simp (disch:=first | omega | (simp only [zld,zlc,zle];omega)) only [ite_ne,s_cat,mk_ofL,ofL_app,litS,zlh,zlf,zli,q,getK_s (mapC_get valC ex),go_sem,↓reduceIte,Za,Zb,Zc,Zd,Ze,reduceCtorEq,Zf,Zg,Zh,Zi,Zj,Zk]
   refine vcCall.f (write_leaf x hx _ _) ?_
   simp (disch:=first | omega | (simp only [zld,zlc,zle];omega)) only [ite_ne,s_cat,mk_ofL,ofL_app,litS,zlh,zlf,zli,q,go_sem,↓reduceIte,Za,Zb,Zc,Zd,Ze,reduceCtorEq,Zf,Zg,Zh,Zi,Zj,Zk]
   refine ⟨(1,_),⟨by dsimp only;omega,by dsimp only;omega⟩,by dsimp only;omega,weak_ok ?_ (Sub.cons ?_ (Sub.base hf ?_)) (zna _)⟩
   all_goals
    simp (disch:=first | omega | (simp only [zld,zlc,zle];omega)) only [ite_ne,s_cat,mk_ofL,ofL_app,litS,zlh,zlf,zli,w01,hst,go_sem,↓reduceIte,Za,Zb,Zc,Zd,Ze,reduceCtorEq,Zf,Zg,Zh,Zi,Zj,Zk]
 .have q:j=l.length:=by simp at q;omega
  subst q
  have hfin:=jc_le (l.map prnV)
  rw [List.take_length]
  simp (disch:=first | omega | (simp only [zld,zlc,zle];omega)) only [ite_ne,s_cat,mk_ofL,ofL_app,litS,zlh,zlf,zli,prnL,go_sem,↓reduceIte,Za,Zb,Zc,Zd,Ze,reduceCtorEq,Zf,Zg,Zh,Zi,Zj,Zk]
theorem rPrint_ok (l:List Val) (hn:l.length≤1000000000000) (hl:∀v∈l,LOk v) (hB:avLL (mapC valC l)≤2000000000000) (hp:CH) (m:Nat):MeetsF Tryz.prog 82 hp m [vx (listV l)] (.tp [.s (ofL (prnL l)),.i .i64 0]):=by
 have h1:=printable_list l hn fun v hv=>⟨(hl v hv).l,(hl v hv).u⟩
 have h2:=write_list l hn hl hB
 refine meetsF Tryz.func82 (by kernel_rfl) cc82 cr82 rfl fun hf=>?_;unfold ck82
 simp only [go_sem,↓reduceIte,Za,Zb,Zc,Zd,Ze,reduceCtorEq,Zf,Zg,Zh,Zi,Zj,Zk]
 refine vcCall.f (h1 _ _) ?_
 simp only [go_sem,↓reduceIte,Za,Zb,Zc,Zd,Ze,reduceCtorEq,Zf,Zg,Zh,Zi,Zj,Zk]
 refine vcCall.f (h2 _ _) ?_
 simp only [go_sem,↓reduceIte,Za,Zb,Zc,Zd,Ze,reduceCtorEq,Zf,Zg,Zh,Zi,Zj,Zk]
end Go.Proofs.YtinbodeocoeneaaGreatDoor
