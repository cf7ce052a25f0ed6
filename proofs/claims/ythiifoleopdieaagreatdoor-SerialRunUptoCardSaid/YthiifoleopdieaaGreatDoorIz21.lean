/- Proof. Conditions: none. -/
import Derived.Test.YthiifoleopdieaaGreatDoorIz20
open Nat renaming reduceEqDiff→Za,reduceBEq→Zb,reduceAdd→Zc,reduceLeDiff→Zd,reduceLT→Ze,reduceMul→Zf,reduceSub→Zg
open Int renaming reduceEq→Zh,reduceLT→Zi,reduceLE→Zj,reduceToNat→Zk
open Nat renaming le_refl→zna
namespace Go.Proofs.YthiifoleopdieaaGreatDoor
open Go.Eng
set_option linter.all false
set_option maxRecDepth 20000
theorem clone_ok (l:List ByteArray) (h:l.length*16≤140737488355327) (hp:CH) (m:Nat):MeetsF Tryz.prog 118 hp m [.ds (stC l)] (.ds (stC l)):=by
 refine meetsF Tryz.func118 (by kernel_rfl) cc118 cr118 rfl fun hf=>?_;unfold ck118
 simp only [go_sem,↓reduceIte,Za,Zb,Zc,Zd,Ze,reduceCtorEq,Zf,Zg,Zh,Zi,Zj,Zk]
 exact ⟨fun e=>by rw [e],by omega,by omega⟩
theorem copies_ok (l:List Val) (hl:l.length*80≤140737488355327) (h:∀x∈l,∀hp m,MeetsF Tryz.prog 84 hp m [vx x] (vx x)) (hp:CH) (m:Nat) :
  MeetsF Tryz.prog 110 hp m [.ds (mapC valC l)] (.ds (mapC valC l)):=by
 refine meetsF Tryz.func110 (by kernel_rfl) cc110 cr110 rfl fun hf=>?_;unfold ck110
 simp only [go_sem,↓reduceIte,Za,Zb,Zc,Zd,Ze,reduceCtorEq,Zf,Zg,Zh,Zi,Zj,Zk]
 refine loop (fun p:Nat × Nat=>⟨[(3,.rw m p.1 p.1),(6,.ds (mapC valC l)),(7,.i .i64 l.length),(8,.i .i64 p.1)],(m,.rw p.1 5 (mapC valC (l.take p.1)))::hp,p.2⟩) (fun p=>p.1≤l.length∧m+1≤p.2) (fun p=>l.length - p.1) (0,m+1) ?_ ?_ (fun ⟨j,n⟩ hj=>?_)
 .grind
 .refine (weak_e0 (t:=3) (m:=5) ?_).trans (weak_ok ?_ (Sub.cons ?_ (Sub.base hf ?_)) (zna _))
  all_goals simp only [go_sem,↓reduceIte,Za,Zb,Zc,Zd,Ze,reduceCtorEq,Zf,Zg,Zh,Zi,Zj,Zk]
 dsimp only at hj
 have hne:n≠m:=by omega
 have hne':m≠n:=by omega
 have hmn:m≤n:=by omega
 simp only [hne,hne',hmn,go_sem,↓reduceIte,Za,Zb,Zc,Zd,Ze,reduceCtorEq,Zf,Zg,Zh,Zi,Zj,Zk]
 refine cdK_of (fun c=>?_) (fun c=>?_)
 .have c:j<l.length:=by simpa using c
  obtain ⟨x,ex⟩:∃x,l[j]?=some x:=⟨l[j],by simp [c]⟩
  have hx:=h x (List.mem_of_getElem? ex)
  have ht:(l.take j).length=j:=by simp;omega
  simp only [hne,hne',hmn,c,getK_s (mapC_get valC ex),go_sem,↓reduceIte,Za,Zb,Zc,Zd,Ze,reduceCtorEq,Zf,Zg,Zh,Zi,Zj,Zk]
  refine vcCall.f (hx _ _) ?_
  simp only [hne,hne',hmn,ht,go_sem,↓reduceIte,Za,Zb,Zc,Zd,Ze,reduceCtorEq,Zf,Zg,Zh,Zi,Zj,Zk]
  refine ⟨by omega,by omega,(j+1,n+1),by dsimp only;omega,by dsimp only;omega,weak_ok ?_ (Sub.cons ?_ (Sub.base hf ?_)) (zna _)⟩
  all_goals
   simp only [hmn,go_sem,↓reduceIte,Za,Zb,Zc,Zd,Ze,reduceCtorEq,Zf,Zg,Zh,Zi,Zj,Zk]
  .exact congrArg _ (wr64s j (by omega))
  .rw [take_snoc ex]
 .have c:j=l.length:=by simp at c;omega
  subst c
  simp only [hne,hne',hmn,go_sem,↓reduceIte,Za,Zb,Zc,Zd,Ze,reduceCtorEq,Zf,Zg,Zh,Zi,Zj,Zk]
  try simp
theorem copy_of (v:Val) (hv:v.keys.length*16≤140737488355327) (h:∀hp m,MeetsF Tryz.prog 110 hp m [.ds (mapC valC v.items)] (.ds (mapC valC v.items))) (hp:CH) (m:Nat):MeetsF Tryz.prog 84 hp m [vx v] (vx v):=by
 refine meetsF Tryz.func84 (by kernel_rfl) cc84 cr84 rfl fun hf=>?_;unfold ck84
 simp only [go_sem,↓reduceIte,Za,Zb,Zc,Zd,Ze,reduceCtorEq,Zf,Zg,Zh,Zi,Zj,Zk]
 refine vcCall.f (h _ _) ?_
 simp only [go_sem,↓reduceIte,Za,Zb,Zc,Zd,Ze,reduceCtorEq,Zf,Zg,Zh,Zi,Zj,Zk]
 refine vcCall.f (clone_ok v.keys hv _ _) ?_
 simp only [go_sem,↓reduceIte,Za,Zb,Zc,Zd,Ze,reduceCtorEq,Zf,Zg,Zh,Zi,Zj,Zk]
theorem copy_ok (v:Val) (hv:v.Fit) (hp:CH) (m:Nat):MeetsF Tryz.prog 84 hp m [vx v] (vx v):=by
 have:=Val.ind (Q:=fun v=>v.Fit→∀hp m,MeetsF Tryz.prog 84 hp m [vx v] (vx v)) (fun v ih hv hp m=>copy_of v hv.l (copies_ok v.items hv.i fun x hx=>ih x hx (hv.x hx)) hp m) v
 exact this hv hp m
theorem rcopies_ok (l:List Val) (hl:l.length*80≤140737488355327) (h:∀x∈l,∀hp m,MeetsF Tryz.prog 70 hp m [vx x] (vx x)) (hp:CH) (m:Nat) :
  MeetsF Tryz.prog 73 hp m [.ds (mapC valC l)] (.ds (mapC valC l)):=by
 refine meetsF Tryz.func73 (by kernel_rfl) cc73 cr73 rfl fun hf=>?_;unfold ck73
 simp only [go_sem,↓reduceIte,Za,Zb,Zc,Zd,Ze,reduceCtorEq,Zf,Zg,Zh,Zi,Zj,Zk]
 refine loop (fun p:Nat × Nat=>⟨[(3,.rw m p.1 p.1),(0,.ds (mapC valC l)),(4,.i .i64 p.1)],(m,.rw p.1 5 (mapC valC (l.take p.1)))::hp,p.2⟩) (fun p=>p.1≤l.length∧m+1≤p.2) (fun p=>l.length - p.1) (0,m+1) ?_ ?_ (fun ⟨j,n⟩ hj=>?_)
 .grind
 .refine (weak_e0 (t:=3) (m:=5) ?_).trans (weak_ok ?_ (Sub.cons ?_ (Sub.base hf ?_)) (zna _))
  all_goals simp only [go_sem,↓reduceIte,Za,Zb,Zc,Zd,Ze,reduceCtorEq,Zf,Zg,Zh,Zi,Zj,Zk]
 dsimp only at hj
 have hne:n≠m:=by omega
 have hne':m≠n:=by omega
 have hmn:m≤n:=by omega
 simp only [hne,hne',hmn,go_sem,↓reduceIte,Za,Zb,Zc,Zd,Ze,reduceCtorEq,Zf,Zg,Zh,Zi,Zj,Zk]
 refine cdK_of (fun c=>?_) (fun c=>?_)
 .have c:j<l.length:=by simpa using c
  obtain ⟨x,ex⟩:∃x,l[j]?=some x:=⟨l[j],by simp [c]⟩
  have hx:=h x (List.mem_of_getElem? ex)
  have ht:(l.take j).length=j:=by simp;omega
  simp only [hne,hne',hmn,c,getK_s (mapC_get valC ex),go_sem,↓reduceIte,Za,Zb,Zc,Zd,Ze,reduceCtorEq,Zf,Zg,Zh,Zi,Zj,Zk]
  refine vcCall.f (hx _ _) ?_
  simp only [hne,hne',hmn,ht,go_sem,↓reduceIte,Za,Zb,Zc,Zd,Ze,reduceCtorEq,Zf,Zg,Zh,Zi,Zj,Zk]
  refine ⟨by omega,by omega,(j+1,n),by dsimp only;omega,by dsimp only;omega,weak_ok ?_ (Sub.cons ?_ (Sub.base hf ?_)) (zna _)⟩
  all_goals
   simp only [hmn,go_sem,↓reduceIte,Za,Zb,Zc,Zd,Ze,reduceCtorEq,Zf,Zg,Zh,Zi,Zj,Zk]
  .exact congrArg _ (wr64s j (by omega))
  .rw [take_snoc ex]
 .have c:j=l.length:=by simp at c;omega
  subst c
  simp only [hne,hne',hmn,go_sem,↓reduceIte,Za,Zb,Zc,Zd,Ze,reduceCtorEq,Zf,Zg,Zh,Zi,Zj,Zk]
  try simp
theorem rcopy_of (v:Val) (hv:v.keys.length*16≤140737488355327) (h:∀hp m,MeetsF Tryz.prog 73 hp m [.ds (mapC valC v.items)] (.ds (mapC valC v.items))) (hp:CH) (m:Nat):MeetsF Tryz.prog 70 hp m [vx v] (vx v):=by
 refine meetsF Tryz.func70 (by kernel_rfl) cc70 cr70 rfl fun hf=>?_;unfold ck70
 simp only [go_sem,↓reduceIte,Za,Zb,Zc,Zd,Ze,reduceCtorEq,Zf,Zg,Zh,Zi,Zj,Zk]
 first | refine dCallR.f (fun _ _ _=>h _ _) ?_ | refine dCall.f (fun _ _ _=>h _ _) ?_
 simp only [go_sem,↓reduceIte,Za,Zb,Zc,Zd,Ze,reduceCtorEq,Zf,Zg,Zh,Zi,Zj,Zk]
 omega
theorem rcopy_ok (v:Val) (hv:v.Fit) (hp:CH) (m:Nat):MeetsF Tryz.prog 70 hp m [vx v] (vx v):=by
 have:=Val.ind (Q:=fun v=>v.Fit→∀hp m,MeetsF Tryz.prog 70 hp m [vx v] (vx v)) (fun v ih hv hp m=>rcopy_of v hv.l (rcopies_ok v.items hv.i fun x hx=>ih x hx (hv.x hx)) hp m) v
 exact this hv hp m
theorem index_ok (l:List ByteArray) (k:ByteArray) (hl:l.length≤9223372036854775806) (hp:CH) (m:Nat):MeetsF Tryz.prog 123 hp m [.ds (stC l),.s k] (.i .i64 (ix k l 0)):=by
 refine meetsF Tryz.func123 (by kernel_rfl) cc123 cr123 rfl fun hf=>?_;unfold ck123
 simp only [go_sem,↓reduceIte,Za,Zb,Zc,Zd,Ze,reduceCtorEq,Zf,Zg,Zh,Zi,Zj,Zk]
 refine loop (fun p:Nat × Nat=>⟨[(0,.ds (stC l)),(1,.s k),(7,.i .i64 l.length),(8,.i .i64 p.1)],hp,p.2⟩) (fun p=>p.1≤l.length∧ix k l 0=ix k (l.drop p.1) p.1) (fun p=>l.length - p.1) (0,m) ?_ ?_ (fun ⟨j,n⟩ hj=>?_)
 .grind
 .refine weak_ok ?_ (Sub.refl _) (zna _)
  simp only [go_sem,↓reduceIte,Za,Zb,Zc,Zd,Ze,reduceCtorEq,Zf,Zg,Zh,Zi,Zj,Zk]
 dsimp only at hj
 simp only [go_sem,↓reduceIte,Za,Zb,Zc,Zd,Ze,reduceCtorEq,Zf,Zg,Zh,Zi,Zj,Zk]
 refine cdK_of (fun c=>?_) (fun c=>?_)
 .have c:j<l.length:=by simpa using c
  obtain ⟨x,ex⟩:∃x,l[j]?=some x:=⟨l[j],by simp [c]⟩
  have e:=drop_at ex
  rw [e,ix] at hj
  simp only [c,getK_s (mapC_get st1 ex),go_sem,↓reduceIte,Za,Zb,Zc,Zd,Ze,reduceCtorEq,Zf,Zg,Zh,Zi,Zj,Zk]
  refine cdK_of (fun c1=>?_) (fun c1=>?_)
  .have c1:k=x:=by simpa using c1
   simp only [go_sem,↓reduceIte,Za,Zb,Zc,Zd,Ze,reduceCtorEq,Zf,Zg,Zh,Zi,Zj,Zk]
   rw [hj.2,if_pos c1]
  .have c1:¬k=x:=by simpa using c1
   rw [if_neg c1] at hj
   simp only [go_sem,↓reduceIte,Za,Zb,Zc,Zd,Ze,reduceCtorEq,Zf,Zg,Zh,Zi,Zj,Zk]
   refine ⟨(j+1,n),by dsimp only;omega,by dsimp only;omega,weak_ok ?_ (Sub.refl _) (zna _)⟩
   simp only [wr64s j (by omega),go_sem,↓reduceIte,Za,Zb,Zc,Zd,Ze,reduceCtorEq,Zf,Zg,Zh,Zi,Zj,Zk]
 .have c:j=l.length:=by simp at c;omega
  subst c
  rw [List.drop_length,ix] at hj
  simp only [go_sem,↓reduceIte,Za,Zb,Zc,Zd,Ze,reduceCtorEq,Zf,Zg,Zh,Zi,Zj,Zk]
  rw [hj.2]
theorem contains_ok (l:List ByteArray) (k:ByteArray) (hl:l.length≤9223372036854775806) (hp:CH) (m:Nat):MeetsF Tryz.prog 96 hp m [.ds (stC l),.s k] (.b (decide (0≤ix k l 0))):=by
 refine meetsF Tryz.func96 (by kernel_rfl) cc96 cr96 rfl fun hf=>?_;unfold ck96
 simp only [go_sem,↓reduceIte,Za,Zb,Zc,Zd,Ze,reduceCtorEq,Zf,Zg,Zh,Zi,Zj,Zk]
 refine vcCall.f (index_ok l k hl _ _) ?_
 simp only [go_sem,↓reduceIte,Za,Zb,Zc,Zd,Ze,reduceCtorEq,Zf,Zg,Zh,Zi,Zj,Zk]
end Go.Proofs.YthiifoleopdieaaGreatDoor
