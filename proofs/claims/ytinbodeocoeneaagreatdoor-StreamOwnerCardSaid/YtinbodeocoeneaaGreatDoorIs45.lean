/- Proof. Conditions: none. -/
import Derived.Test.YtinbodeocoeneaaGreatDoorIs44
open Nat renaming reduceEqDiff→Za,reduceBEq→Zb,reduceAdd→Zc,reduceLeDiff→Zd,reduceLT→Ze,reduceMul→Zf,reduceSub→Zg
open Int renaming reduceEq→Zh,reduceLT→Zi,reduceLE→Zj,reduceToNat→Zk
open List renaming mem_of_getElem?→zla,length_cons→zlc,length_append→zld,length_nil→zle,append_assoc→zlf,cons_append→zlh,nil_append→zli,take_length→zlj,take_of_length_le→zlk,map_append→zlq,mem_map_of_mem→zls,length_map→zlv
open Nat renaming le_refl→zna
namespace Go.Proofs.YtinbodeocoeneaaGreatDoor
open Go.Eng
set_option linter.all false
set_option maxRecDepth 20000
theorem joinB_ofL (W:List (List UInt8)) (sep:List UInt8):joinB (W.map ofL) (ofL sep)=ofL (Lib.join W sep):=by
 unfold joinB
 have e:(W.map ofL).map (fun x:ByteArray=>x.data.toList)=W:=by
  rw [List.map_map]
  conv=>rhs;rw [←List.map_id W]
  refine List.map_congr_left fun x _=>?_
  simp [ofL]
 rw [e]
 simp [ofL]
theorem join_ok (W:List (List UInt8)) {α:AV} {hp:CH} (hsl:sl0 hp α=some (stC (W.map ofL))) (hlen:(jn W).length≤140737488355328) (hN:W.length≤140737488355328) (m:Nat):MeetsF Tryz.prog 97 hp m [α,.s ⟨#[44,32]⟩] (.s (ofL (jn W))):=by
 have e:=joinB_ofL W [44,32]
 have:=meets_join (n:=m) (xs:=W.map ofL) (sep:=ofL [44,32]) (α:=α) (hp:=hp) Tryz.lays156 Tryz.Builder_Extra_156 (f:=97) rfl ⟨_,Tryz.func97,by kernel_rfl,by kernel_rfl⟩ hsl (by rw [e,ofL_size];exact hlen) (by rw [zlv];exact hN)
 rw [e] at this
 exact this
theorem snoc_stW (W:List (List UInt8)) (x:List UInt8):mapC st1 (W.map ofL)++[[AV.s (ofL x)]]=mapC st1 ((W++[x]).map ofL):=by
 rw [zlq]
 exact mapC_snoc st1 _ _
theorem map_take_snoc {α β:Type} (f:α→β) {l:List α} {j:Nat} {x:α} (h:l[j]?=some x):(l.take j).map f++[f x]=(l.take (j+1)).map f:=by
 rw [←take_snoc h,zlq]
 rfl
theorem twritten_of (v:Val) (hv:v.Fit) (hr:v.Rng) (hb:avL (valC v)≤1000000000) (h:∀x∈v.items,∀hp m,MeetsF Tryz.prog 96 hp m [vx x] (.s (ofL (wrtV x)))) (hp:CH) (m:Nat):MeetsF Tryz.prog 96 hp m [vx v] (.s (ofL (wrtV v))):=by
 have hi:=hv.i
 have hl:=hv.l
 have e:=wrtV_eq v
 have hE:=avL_val v
 have hx1:=list_len v.items fun x hx=>wrtV_len x (hr.x hx)
 have hx2:=zip_len v.keys v.items fun x hx=>wrtV_len x (hr.x hx)
 obtain ⟨R,hR⟩:∃R,wrtV v=R:=⟨_,rfl⟩
 rw [hR] at e ⊢
 refine meetsF Tryz.func96 (by kernel_rfl) cc96 cr96 rfl fun hf=>?_;unfold ck96
 simp only [go_sem,↓reduceIte,Za,Zb,Zc,Zd,Ze,reduceCtorEq,Zf,Zg,Zh,Zi,Zj,Zk]
 refine cdK_of (fun c=>?_) (fun c0=>?_)
 .have c:v.k=0:=by simpa using c
  rw [if_pos c] at e
  subst e
  simp only [go_sem,↓reduceIte,Za,Zb,Zc,Zd,Ze,reduceCtorEq,Zf,Zg,Zh,Zi,Zj,Zk]
  rfl
 have c0:¬v.k=0:=by simpa using c0
 rw [if_neg c0] at e
 simp only [go_sem,↓reduceIte,Za,Zb,Zc,Zd,Ze,reduceCtorEq,Zf,Zg,Zh,Zi,Zj,Zk]
 refine cdK_of (fun c=>?_) (fun c1=>?_)
 .have c:v.k=1:=by simpa using c
  rw [if_pos c] at e
  simp only [go_sem,↓reduceIte,Za,Zb,Zc,Zd,Ze,reduceCtorEq,Zf,Zg,Zh,Zi,Zj,Zk]
  refine cdK_of (fun d=>?_) (fun d=>?_)
  .have d:v.n=0:=by simpa using d
   rw [if_pos d] at e
   subst e
   simp only [go_sem,↓reduceIte,Za,Zb,Zc,Zd,Ze,reduceCtorEq,Zf,Zg,Zh,Zi,Zj,Zk]
   rfl
  .have d:¬v.n=0:=by simpa using d
   rw [if_neg d] at e
   subst e
   simp only [go_sem,↓reduceIte,Za,Zb,Zc,Zd,Ze,reduceCtorEq,Zf,Zg,Zh,Zi,Zj,Zk]
   rfl
 have c1:¬v.k=1:=by simpa using c1
 rw [if_neg c1] at e
 simp only [go_sem,↓reduceIte,Za,Zb,Zc,Zd,Ze,reduceCtorEq,Zf,Zg,Zh,Zi,Zj,Zk]
 refine cdK_of (fun c=>?_) (fun c2=>?_)
 .have c:v.k=2:=by simpa using c
  rw [if_pos c] at e
  subst e
  simp only [go_sem,↓reduceIte,Za,Zb,Zc,Zd,Ze,reduceCtorEq,Zf,Zg,Zh,Zi,Zj,Zk]
  refine vcCall.f (tDecimal_ok v.n hr.l hr.u _ _) ?_
  simp only [go_sem,↓reduceIte,Za,Zb,Zc,Zd,Ze,reduceCtorEq,Zf,Zg,Zh,Zi,Zj,Zk]
 have c2:¬v.k=2:=by simpa using c2
 rw [if_neg c2] at e
 simp only [go_sem,↓reduceIte,Za,Zb,Zc,Zd,Ze,reduceCtorEq,Zf,Zg,Zh,Zi,Zj,Zk]
 refine cdK_of (fun c=>?_) (fun c3=>?_)
 .have c:v.k=3:=by simpa using c
  rw [if_pos c] at e
  subst e
  simp only [go_sem,↓reduceIte,Za,Zb,Zc,Zd,Ze,reduceCtorEq,Zf,Zg,Zh,Zi,Zj,Zk]
  refine vcCall.f (tQuote_ok v.s (by omega) _ _) ?_
  simp only [go_sem,↓reduceIte,Za,Zb,Zc,Zd,Ze,reduceCtorEq,Zf,Zg,Zh,Zi,Zj,Zk]
 have c3:¬v.k=3:=by simpa using c3
 rw [if_neg c3] at e
 simp only [go_sem,↓reduceIte,Za,Zb,Zc,Zd,Ze,reduceCtorEq,Zf,Zg,Zh,Zi,Zj,Zk]
 refine cdK_of (fun c=>?_) (fun c4=>?_)
 .have c:v.k=4:=by simpa using c
  rw [if_pos c] at e
  subst e
  simp only [go_sem,↓reduceIte,Za,Zb,Zc,Zd,Ze,reduceCtorEq,Zf,Zg,Zh,Zi,Zj,Zk]
  rw [ofL_bs]
 have c4:¬v.k=4:=by simpa using c4
 rw [if_neg c4] at e
 simp only [go_sem,↓reduceIte,Za,Zb,Zc,Zd,Ze,reduceCtorEq,Zf,Zg,Zh,Zi,Zj,Zk]
 refine cdK_of (fun c=>?_) (fun c7=>?_)
 .have c:v.k=7:=by simpa using c
  rw [if_pos c] at e
  subst e
  simp only [go_sem,↓reduceIte,Za,Zb,Zc,Zd,Ze,reduceCtorEq,Zf,Zg,Zh,Zi,Zj,Zk]
  have:(#[36]:Array UInt8).size=1:=rfl
  refine ⟨by omega,?_⟩
  rw [←ofL_bs v.s,mk_ofL,ofL_app,bs_ofL]
  rfl
 have c7:¬v.k=7:=by simpa using c7
 rw [if_neg c7] at e
 simp only [go_sem,↓reduceIte,Za,Zb,Zc,Zd,Ze,reduceCtorEq,Zf,Zg,Zh,Zi,Zj,Zk]
 refine cdK_of (fun c=>?_) (fun c5=>?_)
 .have c:v.k=5:=by simpa using c
  rw [if_pos c] at e
  have hfin:=jn_le (v.items.map wrtV)
  simp only [go_sem,↓reduceIte,Za,Zb,Zc,Zd,Ze,reduceCtorEq,Zf,Zg,Zh,Zi,Zj,Zk]
  refine loop (fun p:Nat × Nat=>⟨[(3,.rw (m+1) p.1 p.1),(38,.ds (mapC valC v.items)),(39,.i .i64 v.items.length),(40,.i .i64 p.1)],(m,.bx [.i .i64 v.k,.i .i64 v.n,.s v.s,.ds (mapC valC v.items),.ds (stC v.keys)])::(m+1,.rw p.1 1 (stC (((v.items.take p.1).map wrtV).map ofL)))::hp,p.2⟩)
   (fun p=>p.1≤v.items.length∧m+2≤p.2) (fun p=>v.items.length - p.1) (0,m+2) ?_ ?_ (fun ⟨j,n⟩ hj=>?_)
  .simp
  .refine (weak_e0 (t:=3) (m:=1) ?_).trans (weak_ok ?_ (Sub.cons ?_ (Sub.cons ?_ (Sub.base hf ?_))) (zna _))
   all_goals (simp (disch:=omega) only [ite_ne,go_sem,↓reduceIte,Za,Zb,Zc,Zd,Ze,reduceCtorEq,Zf,Zg,Zh,Zi,Zj,Zk])
   all_goals rfl
  dsimp only at hj
  obtain ⟨hj1,hj2⟩:=hj
  simp (disch:=omega) only [ite_ne,go_sem,↓reduceIte,Za,Zb,Zc,Zd,Ze,reduceCtorEq,Zf,Zg,Zh,Zi,Zj,Zk]
  refine cdK_of (fun q=>?_) (fun q=>?_)
  .have q:j<v.items.length:=by simpa using q
   obtain ⟨x,ex⟩:∃x,v.items[j]?=some x:=⟨v.items[j],by simp [q]⟩
   have hx:=h x (zla ex)
   have ht:(((v.items.take j).map wrtV).map ofL).length=j:=by simp;omega
   have k1:(j+1)*16≤140737488355328:=by omega
   have k2:j+1≤9223372036854775807:=by omega
   simp (disch:=omega) only [ite_ne,q,getK_s (mapC_get valC ex),go_sem,↓reduceIte,Za,Zb,Zc,Zd,Ze,reduceCtorEq,Zf,Zg,Zh,Zi,Zj,Zk]
   refine vcCall.f (hx _ _) ?_
   simp (disch:=omega) only [ite_ne,ht,k1,k2,go_sem,↓reduceIte,Za,Zb,Zc,Zd,Ze,reduceCtorEq,Zf,Zg,Zh,Zi,Zj,Zk]
   refine ⟨(j+1,_),⟨by dsimp only;omega,by dsimp only;omega⟩,by dsimp only;omega,weak_ok ?_ (Sub.cons ?_ (Sub.cons ?_ (Sub.base hf ?_))) (zna _)⟩
   all_goals
    simp (disch:=omega) only [ite_ne,wr64s j (by omega),snoc_stW,map_take_snoc wrtV ex,go_sem,↓reduceIte,Za,Zb,Zc,Zd,Ze,reduceCtorEq,Zf,Zg,Zh,Zi,Zj,Zk]
   rw [←snoc_st,snoc_stW,map_take_snoc wrtV ex]
  .have q:j=v.items.length:=by simp at q;omega
   subst q
   rw [zlj]
   subst e
   have hl1:((v.items.map wrtV).map ofL).length=v.items.length:=by simp
   have hl2:((v.items.map wrtV).map ofL).take v.items.length=(v.items.map wrtV).map ofL:=zlk (by omega)
   simp (disch:=omega) only [ite_ne,go_sem,↓reduceIte,Za,Zb,Zc,Zd,Ze,reduceCtorEq,Zf,Zg,Zh,Zi,Zj,Zk]
   refine vcCall.f (join_ok (v.items.map wrtV) ?_ (by omega) (by rw [zlv];omega) _) ?_
   .simp (disch:=omega) only [ite_ne,hl1,hl2,sl0,go_sem,↓reduceIte,Za,Zb,Zc,Zd,Ze,reduceCtorEq,Zf,Zg,Zh,Zi,Zj,Zk]
    done
   simp (disch:=first | omega | (simp only [zld,zlc,zle];omega)) only [ite_ne,s_cat,mk_ofL,ofL_app,litS,zlh,zlf,zli,hl1,go_sem,↓reduceIte,Za,Zb,Zc,Zd,Ze,reduceCtorEq,Zf,Zg,Zh,Zi,Zj,Zk]
 have c5:¬v.k=5:=by simpa using c5
 rw [if_neg c5] at e
 simp only [go_sem,↓reduceIte,Za,Zb,Zc,Zd,Ze,reduceCtorEq,Zf,Zg,Zh,Zi,Zj,Zk]
 refine cdK_of (fun c=>?_) (fun c6=>?_)
 .have c:v.k=6:=by simpa using c
  rw [if_pos c] at e
  obtain ⟨Z,hZ⟩:∃Z,List.zipWith fieldL v.keys (v.items.map wrtV)=Z:=⟨_,rfl⟩
  have hZl:Z.length=min v.keys.length v.items.length:=by rw [←hZ];simp
  rw [hZ] at e hx2
  have hfin:=jn_le Z
  have hmn:(if (v.items.length:Int)<v.keys.length then (v.items.length:Int) else v.keys.length)=(Z.length:Nat):=by rw [hZl];split<;>omega
  simp (disch:=omega) only [ite_ne,hmn,go_sem,↓reduceIte,Za,Zb,Zc,Zd,Ze,reduceCtorEq,Zf,Zg,Zh,Zi,Zj,Zk]
  refine loop (fun p:Nat × Nat=>⟨[(1,.bx m 0),(3,.rw (m+1) p.1 p.1),(62,.i .i64 Z.length),(63,.i .i64 p.1)],(m,.bx [.i .i64 v.k,.i .i64 v.n,.s v.s,.ds (mapC valC v.items),.ds (stC v.keys)])::(m+1,.rw p.1 1 (stC ((Z.take p.1).map ofL)))::hp,p.2⟩)
   (fun p=>p.1≤Z.length∧m+2≤p.2) (fun p=>Z.length - p.1) (0,m+2) ?_ ?_ (fun ⟨j,n⟩ hj=>?_)
  .simp
  .refine (weak_e0 (t:=3) (m:=1) ?_).trans (weak_ok ?_ (Sub.cons ?_ (Sub.cons ?_ (Sub.base hf ?_))) (zna _))
   all_goals (simp (disch:=omega) only [ite_ne,go_sem,↓reduceIte,Za,Zb,Zc,Zd,Ze,reduceCtorEq,Zf,Zg,Zh,Zi,Zj,Zk])
   all_goals rfl
  dsimp only at hj
  obtain ⟨hj1,hj2⟩:=hj
  simp (disch:=omega) only [ite_ne,go_sem,↓reduceIte,Za,Zb,Zc,Zd,Ze,reduceCtorEq,Zf,Zg,Zh,Zi,Zj,Zk]
  refine cdK_of (fun q=>?_) (fun q=>?_)
  .have q3:j<Z.length:=by simpa using q
   have q1:j<v.items.length:=by omega
   have q2:j<v.keys.length:=by omega
   obtain ⟨x,ex⟩:∃x,v.items[j]?=some x:=⟨v.items[j],by simp [q1]⟩
   obtain ⟨k,ek⟩:∃k,v.keys[j]?=some k:=⟨v.keys[j],by simp [q2]⟩
   have ez:Z[j]?=some (fieldL k (wrtV x)):=by rw [←hZ];simp [List.getElem?_zipWith,ex,ek]
   have hx:=h x (zla ex)
   have hw:=wrtV_len x (hr.x (zla ex))
   have hm:avL (valC x)≤avLL (mapC valC v.items):=avLL_in (zls (f:=valC) (zla ex))
   have hk:avL (st1 k)≤avLL (stC v.keys):=avLL_in (zls (f:=st1) (zla ek))
   obtain ⟨kb,rfl⟩:∃kb,k=ofL kb:=⟨bs k,(ofL_bs k).symm⟩
   have hk2:avL (st1 (ofL kb))=kb.length+1:=by simp [st1,avL,avw,ofL_size]
   have hfl:fieldL (ofL kb) (wrtV x)=kb++58::32::wrtV x:=by simp [fieldL,bs_ofL]
   have ht:((Z.take j).map ofL).length=j:=by simp;omega
   have k1:(j+1)*16≤140737488355328:=by omega
   have k2:j+1≤9223372036854775807:=by omega
   have hst:(Z.take j).map ofL++[ofL (kb++58::32::wrtV x)]=(Z.take (j+1)).map ofL:=by
    rw [←hfl]
    exact map_take_snoc ofL ez
   simp (disch:=first | omega | (simp only [zld,zlc,zle];omega)) only [ite_ne,s_cat,mk_ofL,ofL_app,litS,zlh,zlf,zli,q2,getK_s (mapC_get st1 ek),getK_s (mapC_get valC ex),q1,go_sem,↓reduceIte,Za,Zb,Zc,Zd,Ze,reduceCtorEq,Zf,Zg,Zh,Zi,Zj,Zk]
   refine dCallR.f (fun _ hp' e=>hx _ _) ?_
   simp (disch:=first | omega | (simp only [zld,zlc,zle];omega)) only [ite_ne,s_cat,mk_ofL,ofL_app,litS,zlh,zlf,zli,q2,getK_s (mapC_get st1 ek),getK_s (mapC_get valC ex),q1,ht,k1,k2,go_sem,↓reduceIte,Za,Zb,Zc,Zd,Ze,reduceCtorEq,Zf,Zg,Zh,Zi,Zj,Zk]
   refine ⟨(j+1,_),⟨by dsimp only;omega,by dsimp only;omega⟩,by dsimp only;omega,weak_ok ?_ (Sub.cons ?_ (Sub.cons ?_ (Sub.base hf ?_))) (zna _)⟩
   all_goals
    simp (disch:=first | omega | (simp only [zld,zlc,zle];omega)) only [ite_ne,s_cat,mk_ofL,ofL_app,litS,zlh,zlf,zli,wr64s j (by omega),hst,go_sem,↓reduceIte,Za,Zb,Zc,Zd,Ze,reduceCtorEq,Zf,Zg,Zh,Zi,Zj,Zk]
  .have q:j=Z.length:=by simp at q;omega
   subst q
   rw [zlj]
   subst e
   have hl1:(Z.map ofL).length=Z.length:=by simp
   have hl2:(Z.map ofL).take Z.length=Z.map ofL:=zlk (by omega)
   simp (disch:=omega) only [ite_ne,go_sem,↓reduceIte,Za,Zb,Zc,Zd,Ze,reduceCtorEq,Zf,Zg,Zh,Zi,Zj,Zk]
   refine vcCall.f (join_ok Z ?_ (by omega) (by omega) _) ?_
   .simp (disch:=omega) only [ite_ne,hl1,hl2,sl0,go_sem,↓reduceIte,Za,Zb,Zc,Zd,Ze,reduceCtorEq,Zf,Zg,Zh,Zi,Zj,Zk]
   simp (disch:=first | omega | (simp only [zld,zlc,zle];omega)) only [ite_ne,s_cat,mk_ofL,ofL_app,litS,zlh,zlf,zli,hl1,go_sem,↓reduceIte,Za,Zb,Zc,Zd,Ze,reduceCtorEq,Zf,Zg,Zh,Zi,Zj,Zk]
 .have c6:¬v.k=6:=by simpa using c6
  rw [if_neg c6] at e
  subst e
  simp only [go_sem,↓reduceIte,Za,Zb,Zc,Zd,Ze,reduceCtorEq,Zf,Zg,Zh,Zi,Zj,Zk]
  rfl
theorem twritten_ok (v:Val) (hv:VOk v) (hp:CH) (m:Nat):MeetsF Tryz.prog 96 hp m [vx v] (.s (ofL (wrtV v))):=by
 have:=Val.ind (Q:=fun v=>VOk v→∀hp m,MeetsF Tryz.prog 96 hp m [vx v] (.s (ofL (wrtV v)))) (fun v ih hv hp m=>twritten_of v hv.f hv.r hv.b (fun x hx=>ih x hx (hv.x hx)) hp m) v
 exact this hv hp m
theorem tText_ok (l:List Arg) (hl:∀a∈l,VOk a.v) (hB:avLL (mapC argC l)≤1000000000) (hn:l.length≤1000000000000) (hp:CH) (m:Nat):MeetsF Tryz.prog 54 hp m [.ds (mapC argC l)] (.s (ofL (argsL l))):=by
 have hb:=args_len l hl
 have hfin:=jn_le (l.map argL)
 refine meetsF Tryz.func54 (by kernel_rfl) cc54 cr54 rfl fun hf=>?_;unfold ck54
 simp only [go_sem,↓reduceIte,Za,Zb,Zc,Zd,Ze,reduceCtorEq,Zf,Zg,Zh,Zi,Zj,Zk]
 refine loop (fun p:Nat × Nat=>⟨[(3,.rw m p.1 p.1),(6,.ds (mapC argC l)),(7,.i .i64 l.length),(8,.i .i64 p.1)],(m,.rw p.1 1 (stC (((l.take p.1).map argL).map ofL)))::hp,p.2⟩)
  (fun p=>p.1≤l.length∧m+1≤p.2) (fun p=>l.length - p.1) (0,m+1) ?_ ?_ (fun ⟨j,n⟩ hj=>?_)
 .simp
 .refine (weak_e0 (t:=3) (m:=1) ?_).trans (weak_ok ?_ (Sub.cons ?_ (Sub.base hf ?_)) (zna _))
  all_goals (simp (disch:=omega) only [ite_ne,go_sem,↓reduceIte,Za,Zb,Zc,Zd,Ze,reduceCtorEq,Zf,Zg,Zh,Zi,Zj,Zk])
  all_goals rfl
 dsimp only at hj
 obtain ⟨hj1,hj2⟩:=hj
 simp (disch:=omega) only [ite_ne,go_sem,↓reduceIte,Za,Zb,Zc,Zd,Ze,reduceCtorEq,Zf,Zg,Zh,Zi,Zj,Zk]
 refine cdK_of (fun q=>?_) (fun q=>?_)
 .have q:j<l.length:=by simpa using q
  obtain ⟨a,ea⟩:∃a,l[j]?=some a:=⟨l[j],by simp [q]⟩
  have ha:=hl a (zla ea)
  have hw:=wrtV_len a.v ha.r
  have hab:=ha.b
  have h4:avL (argC a)=a.n.size+1+avL (valC a.v):=by
   rw [valC_eq]
   simp only [argC,avL,avw]
  have h5:avL (argC a)≤avLL (mapC argC l):=avLL_in (zls (f:=argC) (zla ea))
  obtain ⟨kb,hkb⟩:∃kb,a.n=ofL kb:=⟨bs a.n,(ofL_bs a.n).symm⟩
  have h6:a.n.size=kb.length:=by rw [hkb,ofL_size]
  have hfl:argL a=kb++58::32::wrtV a.v:=by simp [argL,fieldL,hkb,bs_ofL]
  have ht:(((l.take j).map argL).map ofL).length=j:=by simp;omega
  have k1:(j+1)*16≤140737488355328:=by omega
  have k2:j+1≤9223372036854775807:=by omega
  have hst:((l.take j).map argL).map ofL++[ofL (kb++58::32::wrtV a.v)]=((l.take (j+1)).map argL).map ofL:=by
   rw [←hfl,←map_take_snoc argL ea,zlq]
   rfl
  simp (disch:=first | omega | (simp only [zld,zlc,zle];omega)) only [ite_ne,s_cat,mk_ofL,ofL_app,litS,zlh,zlf,zli,q,getK_s (mapC_get argC ea),hkb,go_sem,↓reduceIte,Za,Zb,Zc,Zd,Ze,reduceCtorEq,Zf,Zg,Zh,Zi,Zj,Zk]
  refine dCallR.f (fun _ hp' e=>twritten_ok a.v ha _ _) ?_
  simp (disch:=first | omega | (simp only [zld,zlc,zle];omega)) only [ite_ne,s_cat,mk_ofL,ofL_app,litS,zlh,zlf,zli,q,getK_s (mapC_get argC ea),hkb,ht,k1,k2,go_sem,↓reduceIte,Za,Zb,Zc,Zd,Ze,reduceCtorEq,Zf,Zg,Zh,Zi,Zj,Zk]
  refine ⟨(j+1,_),⟨by dsimp only;omega,by dsimp only;omega⟩,by dsimp only;omega,weak_ok ?_ (Sub.cons ?_ (Sub.base hf ?_)) (zna _)⟩
  all_goals
   simp (disch:=first | omega | (simp only [zld,zlc,zle];omega)) only [ite_ne,s_cat,mk_ofL,ofL_app,litS,zlh,zlf,zli,wr64s j (by omega),hst,go_sem,↓reduceIte,Za,Zb,Zc,Zd,Ze,reduceCtorEq,Zf,Zg,Zh,Zi,Zj,Zk]
 .have q:j=l.length:=by simp at q;omega
  subst q
  rw [zlj]
  have hl1:((l.map argL).map ofL).length=l.length:=by simp
  have hl2:((l.map argL).map ofL).take l.length=(l.map argL).map ofL:=zlk (by omega)
  simp (disch:=omega) only [ite_ne,go_sem,↓reduceIte,Za,Zb,Zc,Zd,Ze,reduceCtorEq,Zf,Zg,Zh,Zi,Zj,Zk]
  refine vcCall.f (join_ok (l.map argL) ?_ (by omega) (by rw [zlv];omega) _) ?_
  .simp (disch:=omega) only [ite_ne,hl1,hl2,sl0,go_sem,↓reduceIte,Za,Zb,Zc,Zd,Ze,reduceCtorEq,Zf,Zg,Zh,Zi,Zj,Zk]
  simp (disch:=omega) only [ite_ne,go_sem,↓reduceIte,Za,Zb,Zc,Zd,Ze,reduceCtorEq,Zf,Zg,Zh,Zi,Zj,Zk]
  rfl
end Go.Proofs.YtinbodeocoeneaaGreatDoor
