/- Proof. Conditions: none. -/
import Derived.Test.YtinbodeocoeneaaGreatDoorIs47
open Nat renaming reduceEqDiff→Za,reduceBEq→Zb,reduceAdd→Zc,reduceLeDiff→Zd,reduceLT→Ze,reduceMul→Zf,reduceSub→Zg
open Int renaming reduceEq→Zh,reduceLT→Zi,reduceLE→Zj,reduceToNat→Zk
open List renaming mem_of_getElem?→zla,length_cons→zlc,length_append→zld,length_nil→zle,take_length→zlj,take_of_length_le→zlk,map_cons→zln,map_append→zlq,map_nil→zlu
open Nat renaming le_refl→zna
namespace Go.Proofs.YtinbodeocoeneaaGreatDoor
open Go.Eng
set_option linter.all false
set_option maxRecDepth 20000
theorem set_wri (l:List Wri) (i:Nat) (w:Wri):(mapC wrC l).set i [AV.s w.f,.s w.a,.i .i64 w.i,.s w.c.f,.s w.c.a,.i .i64 w.c.v.k,.i .i64 w.c.v.n,.s w.c.v.s,.ds (mapC valC w.c.v.items),.ds (stC w.c.v.keys)]=mapC wrC (l.set i w):=by
 rw [show [AV.s w.f,.s w.a,.i .i64 w.i,.s w.c.f,.s w.c.a,.i .i64 w.c.v.k,.i .i64 w.c.v.n,.s w.c.v.s,.ds (mapC valC w.c.v.items),.ds (stC w.c.v.keys)]=wrC w from rfl]
 simp [mapC,List.map_set]
attribute [go_sem] set_wri
theorem snoc_itm (l:List Itm) (x:Itm):mapC itC l++[[AV.s x.t,.ds (mapC celC x.l)]]=mapC itC (l++[x]):=mapC_snoc itC l x
attribute [go_sem] snoc_itm
theorem cloneW_r (l:List Wri) (h:l.length*152≤140737488355327) (hp:CH) (m:Nat):MeetsX Tryz.prog 126 hp m [.ds (mapC wrC l)] ((m,.rw 0 10 (mapC wrC l))::hp) (m+1) (.rw m 0 l.length):=by
 refine meetsOut (outs:=[(10,mapC wrC l)]) Tryz.func126 (by kernel_rfl) cc126 cr126 rfl fun hf=>?_;unfold ck126
 simp only [go_sem,↓reduceIte,Za,Zb,Zc,Zd,Ze,reduceCtorEq,Zf,Zg,Zh,Zi,Zj,Zk]
 exact ⟨fun e=>⟨by simpa [mapC] using congrArg List.length e,e⟩,by omega,by omega⟩
theorem cloneC_r (l:List Cel) (h:l.length*112≤140737488355327) (hp:CH) (m:Nat):MeetsX Tryz.prog 127 hp m [.ds (mapC celC l)] ((m,.rw 0 7 (mapC celC l))::hp) (m+1) (.rw m 0 l.length):=by
 refine meetsOut (outs:=[(7,mapC celC l)]) Tryz.func127 (by kernel_rfl) cc127 cr127 rfl fun hf=>?_;unfold ck127
 simp only [go_sem,↓reduceIte,Za,Zb,Zc,Zd,Ze,reduceCtorEq,Zf,Zg,Zh,Zi,Zj,Zk]
 exact ⟨fun e=>⟨by simpa [mapC] using congrArg List.length e,e⟩,by omega,by omega⟩
set_option maxHeartbeats 1000000 in
theorem icopied_ok (d:Dat) (hd:d.Fit2) (hp:CH) (m:Nat):MeetsF Tryz.prog 74 hp m [dx d] (dx d):=by
 have h1:=hd.f.li
 have h2:=hd.w
 refine meetsF Tryz.func74 (by kernel_rfl) cc74 cr74 rfl fun hf=>?_;unfold ck74
 simp only [go_sem,↓reduceIte,Za,Zb,Zc,Zd,Ze,reduceCtorEq,Zf,Zg,Zh,Zi,Zj,Zk]
 refine vcCall.x (cloneW_r d.w (by omega) _ _) ?_
 simp only [go_sem,↓reduceIte,Za,Zb,Zc,Zd,Ze,reduceCtorEq,Zf,Zg,Zh,Zi,Zj,Zk]
 refine loop (fun q:Nat × Nat=>⟨[(1,.bx m 0),(2,.bx (m+1) 0),(3,.bx (m+3) 0),(15,.i .i64 d.w.length),(16,.i .i64 q.1)],(m,.bx [.ds (mapC itC d.i),.ds (mapC wrC d.w)])::(m+1,.bx [.e0,.e0])::(m+3,.bx [.e0,.rw (m+2) 0 d.w.length])::(m+2,.rw 0 10 (mapC wrC d.w))::hp,q.2⟩)
  (fun q=>q.1≤d.w.length∧m+4≤q.2) (fun q=>d.w.length - q.1) (0,m+4) ?_ ?_ (fun ⟨j,n⟩ hj=>?_)
 .simp
 .refine weak_ok ?_ (Sub.cons ?_ (Sub.cons ?_ (Sub.cons ?_ (Sub.cons ?_ (Sub.base hf ?_))))) (zna _)
  all_goals (simp (disch:=omega) only [ite_ne,go_sem,↓reduceIte,Za,Zb,Zc,Zd,Ze,reduceCtorEq,Zf,Zg,Zh,Zi,Zj,Zk])
 dsimp only at hj
 obtain ⟨hj1,hj2⟩:=hj
 have hmn:m≤n:=by omega
 simp (disch:=omega) only [ite_ne,go_sem,↓reduceIte,Za,Zb,Zc,Zd,Ze,reduceCtorEq,Zf,Zg,Zh,Zi,Zj,Zk]
 refine cdK_of (fun q=>?_) (fun q=>?_)
 .have q:j<d.w.length:=by simpa using q
  obtain ⟨w,ew⟩:∃w,d.w[j]?=some w:=⟨d.w[j],by simp [q]⟩
  have hwf:=hd.f.w (zla ew)
  have hset:=set_same ew
  simp (disch:=omega) only [ite_ne,q,getK_s (mapC_get wrC ew),mapC_get wrC ew,zna,zlj,go_sem,↓reduceIte,Za,Zb,Zc,Zd,Ze,reduceCtorEq,Zf,Zg,Zh,Zi,Zj,Zk]
  refine dCallR.f (fun _ hp' e=>copy_ok w.c.v hwf _ _) ?_
  simp (disch:=omega) only [ite_ne,q,getK_s (mapC_get wrC ew),mapC_get wrC ew,zna,zlj,hset,go_sem,↓reduceIte,Za,Zb,Zc,Zd,Ze,reduceCtorEq,Zf,Zg,Zh,Zi,Zj,Zk]
  refine ⟨(j+1,_),⟨by dsimp only;omega,by dsimp only;omega⟩,by dsimp only;omega,weak_ok ?_ (Sub.cons ?_ (Sub.cons ?_ (Sub.cons ?_ (Sub.cons ?_ (Sub.base hf ?_))))) (zna _)⟩
  all_goals
   simp (disch:=omega) only [ite_ne,wr64s j (by omega),hmn,go_sem,↓reduceIte,Za,Zb,Zc,Zd,Ze,reduceCtorEq,Zf,Zg,Zh,Zi,Zj,Zk]
 .have q:j=d.w.length:=by simp at q;omega
  subst q
  simp (disch:=omega) only [ite_ne,go_sem,↓reduceIte,Za,Zb,Zc,Zd,Ze,reduceCtorEq,Zf,Zg,Zh,Zi,Zj,Zk]
  refine loop (fun q:Nat × Nat=>⟨[(2,.bx (m+1) 0),(3,.bx (m+3) 0),(35,.ds (mapC itC d.i)),(36,.i .i64 d.i.length),(37,.i .i64 q.1)],(m+1,.bx [.e0,.e0])::(m+3,.bx [.rw n q.1 q.1,.rw (m+2) 0 d.w.length])::(m+2,.rw 0 10 (mapC wrC d.w))::(n,.rw q.1 2 (mapC itC (d.i.take q.1)))::hp,q.2⟩)
   (fun q=>q.1≤d.i.length∧n+1≤q.2) (fun q=>d.i.length - q.1) (0,n+1) ?_ ?_ (fun ⟨j,k⟩ hj=>?_)
  .simp
  .refine (weak_b0 (c:=m+3) (i:=0) (m:=2) (cs:=[.e0,.rw (m+2) 0 d.w.length]) (by (simp (disch:=omega) only [ite_ne,go_sem,↓reduceIte,Za,Zb,Zc,Zd,Ze,reduceCtorEq,Zf,Zg,Zh,Zi,Zj,Zk])) rfl).trans (weak_ok ?_ (Sub.cons ?_ (Sub.cons ?_ (Sub.cons ?_ (Sub.cons ?_ (Sub.base hf ?_))))) (zna _))
   all_goals (simp (disch:=omega) only [ite_ne,hmn,go_sem,↓reduceIte,Za,Zb,Zc,Zd,Ze,reduceCtorEq,Zf,Zg,Zh,Zi,Zj,Zk])
   all_goals rfl
  dsimp only at hj
  obtain ⟨hj1,hj2⟩:=hj
  have hmk:m≤k:=by omega
  simp (disch:=omega) only [ite_ne,go_sem,↓reduceIte,Za,Zb,Zc,Zd,Ze,reduceCtorEq,Zf,Zg,Zh,Zi,Zj,Zk]
  refine cdK_of (fun q=>?_) (fun q=>?_)
  .have q:j<d.i.length:=by simpa using q
   obtain ⟨x,ex⟩:∃x,d.i[j]?=some x:=⟨d.i[j],by simp [q]⟩
   have hxl:=hd.c x (zla ex)
   have hxc:=fun c hc=>hd.f.c (zla ex) (c:=c) hc
   simp (disch:=omega) only [ite_ne,q,getK_s (mapC_get itC ex),go_sem,↓reduceIte,Za,Zb,Zc,Zd,Ze,reduceCtorEq,Zf,Zg,Zh,Zi,Zj,Zk]
   refine dCallR.r (fun _=>cloneC_r x.l (by omega) _ _) (by simp [mapC]) ?_
   simp (disch:=omega) only [ite_ne,go_sem,↓reduceIte,Za,Zb,Zc,Zd,Ze,reduceCtorEq,Zf,Zg,Zh,Zi,Zj,Zk]
   refine loop (fun q:Nat × Nat=>⟨[(2,.bx (m+1) 0),(3,.bx (m+3) 0),(7,.bx (k+7) 0),(35,.ds (mapC itC d.i)),(36,.i .i64 d.i.length),(37,.i .i64 j),(49,.i .i64 x.l.length),(50,.i .i64 q.1)],
     (m+1,.bx [.e0,.e0])::(m+3,.bx [.rw n j j,.rw (m+2) 0 d.w.length])::(m+2,.rw 0 10 (mapC wrC d.w))::(n,.rw j 2 (mapC itC (d.i.take j)))::(k+7,.bx [.s x.t,.rw (k+5) 0 x.l.length])::(k+5,.rw 0 7 (mapC celC x.l))::hp,q.2⟩)
    (fun q=>q.1≤x.l.length∧k+8≤q.2) (fun q=>x.l.length - q.1) (0,k+9) ?_ ?_ (fun ⟨i,k2⟩ hi=>?_)
   .simp
   .refine weak_ok ?_ (Sub.cons ?_ (Sub.cons ?_ (Sub.cons ?_ (Sub.cons ?_ (Sub.cons ?_ (Sub.cons ?_ (Sub.base hf ?_))))))) (zna _)
    all_goals (simp (disch:=omega) only [ite_ne,hmk,go_sem,↓reduceIte,Za,Zb,Zc,Zd,Ze,reduceCtorEq,Zf,Zg,Zh,Zi,Zj,Zk])
   dsimp only at hi
   obtain ⟨hi1,hi2⟩:=hi
   have hmk2:m≤k2:=by omega
   simp (disch:=omega) only [ite_ne,go_sem,↓reduceIte,Za,Zb,Zc,Zd,Ze,reduceCtorEq,Zf,Zg,Zh,Zi,Zj,Zk]
   refine cdK_of (fun q2=>?_) (fun q2=>?_)
   .have q2:i<x.l.length:=by simpa using q2
    obtain ⟨c,ec⟩:∃c,x.l[i]?=some c:=⟨x.l[i],by simp [q2]⟩
    have hcf:=hxc c (zla ec)
    have hset:=set_same ec
    simp (disch:=omega) only [ite_ne,q2,getK_s (mapC_get celC ec),mapC_get celC ec,zna,zlj,go_sem,↓reduceIte,Za,Zb,Zc,Zd,Ze,reduceCtorEq,Zf,Zg,Zh,Zi,Zj,Zk]
    refine dCallR.f (fun _ hp' e=>copy_ok c.v hcf _ _) ?_
    simp (disch:=omega) only [ite_ne,q2,getK_s (mapC_get celC ec),mapC_get celC ec,zna,zlj,hset,go_sem,↓reduceIte,Za,Zb,Zc,Zd,Ze,reduceCtorEq,Zf,Zg,Zh,Zi,Zj,Zk]
    refine ⟨(i+1,_),⟨by dsimp only;omega,by dsimp only;omega⟩,by dsimp only;omega,weak_ok ?_ (Sub.cons ?_ (Sub.cons ?_ (Sub.cons ?_ (Sub.cons ?_ (Sub.cons ?_ (Sub.cons ?_ (Sub.base hf ?_))))))) (zna _)⟩
    all_goals
     simp (disch:=omega) only [ite_ne,wr64s i (by omega),hmk2,go_sem,↓reduceIte,Za,Zb,Zc,Zd,Ze,reduceCtorEq,Zf,Zg,Zh,Zi,Zj,Zk]
   .have q2:i=x.l.length:=by simp at q2;omega
    subst q2
    have ht:(d.i.take j).length=j:=by simp;omega
    have k1:(j+1)*40≤140737488355328:=by omega
    have k2':j+1≤9223372036854775807:=by omega
    simp (disch:=omega) only [ite_ne,zna,zlj,ht,k1,k2',go_sem,↓reduceIte,Za,Zb,Zc,Zd,Ze,reduceCtorEq,Zf,Zg,Zh,Zi,Zj,Zk]
    refine ⟨(j+1,_),⟨by dsimp only;omega,by dsimp only;omega⟩,by dsimp only;omega,weak_ok ?_ (Sub.cons ?_ (Sub.cons ?_ (Sub.cons ?_ (Sub.cons ?_ (Sub.base hf ?_))))) (zna _)⟩
    all_goals
     simp (disch:=omega) only [ite_ne,wr64s j (by omega),hmk2,take_snoc ex,go_sem,↓reduceIte,Za,Zb,Zc,Zd,Ze,reduceCtorEq,Zf,Zg,Zh,Zi,Zj,Zk]
  .have q:j=d.i.length:=by simp at q;omega
   subst q
   rw [zlj]
   simp (disch:=omega) only [ite_ne,hmk,zna,zlj,go_sem,↓reduceIte,Za,Zb,Zc,Zd,Ze,reduceCtorEq,Zf,Zg,Zh,Zi,Zj,Zk]
theorem noneF_step {root:ByteArray} {l:List Pk} {j:Nat} {p:Pk} (h:l[j]?=some p):noneF root (l.take (j+1))=if p.on=root then noneF root (l.take j)++[(p.key,if p.name=sTypename then txV root else zVal)] else noneF root (l.take j):=by
 unfold noneF
 rw [←take_snoc h,List.filter_append,zlq]
 by_cases c:p.on=root
 .rw [if_pos c];simp [c]
 .rw [if_neg c];simp [c]
theorem noneF_len (root:ByteArray) (l:List Pk):(noneF root l).length≤l.length:=by
 unfold noneF
 rw [List.length_map]
 exact List.length_filter_le _ _
set_option maxHeartbeats 1000000 in
theorem tnone_ok (root:ByteArray) (l:List Pk) (hl:l.length≤1048576) (hp:CH) (m:Nat):MeetsF Tryz.prog 75 hp m [.s root,.ds (mapC pkC l)] (vx (objV root (noneF root l))):=by
 have hq:∀j,(noneF root (l.take j)).length≤j:=fun j=>by
  have:=noneF_len root (l.take j)
  rw [List.length_take] at this
  omega
 obtain ⟨R,hR⟩:∃R,noneF root l=R:=⟨_,rfl⟩
 rw [hR]
 refine meetsF Tryz.func75 (by kernel_rfl) cc75 cr75 rfl fun hf=>?_;unfold ck75
 simp only [go_sem,↓reduceIte,Za,Zb,Zc,Zd,Ze,reduceCtorEq,Zf,Zg,Zh,Zi,Zj,Zk]
 refine vcCall.f (vText_ok _ _ _) ?_
 simp only [go_sem,↓reduceIte,Za,Zb,Zc,Zd,Ze,reduceCtorEq,Zf,Zg,Zh,Zi,Zj,Zk]
 refine loop (fun q:Nat × List (ByteArray × Val) × Nat=>⟨[(0,.s root),(4,.bx m 0),(5,.bx (m+3) 0),(14,.ds (mapC pkC l)),(15,.i .i64 l.length),(16,.i .i64 q.1)],
   (m,.bx [.i .i64 0,.i .i64 0,.s ⟨#[]⟩,.e0,.e0]) ::
   (m+3,.bx [.i .i64 6,.i .i64 0,.s ⟨#[]⟩,.rw (m+2) q.2.1.length (q.2.1.length+1),.rw (m+1) q.2.1.length (q.2.1.length+1)])::(m+2,.rw q.2.1.length 5 (mapC valC (txV root::q.2.1.map (·.2))))::(m+1,.rw q.2.1.length 1 (stC (⟨#[95,95,116]⟩::q.2.1.map (·.1))))::hp,q.2.2⟩)
  (fun q=>q.1≤l.length∧m+4≤q.2.2∧q.2.1=noneF root (l.take q.1)) (fun q=>l.length - q.1) (0,[],m+4) ?_ ?_ (fun ⟨j,F,n⟩ hj=>?_)
 .exact ⟨by simp,by simp,by dsimp only;rw [List.take_zero];rfl⟩
 .refine weak_ok ?_ (Sub.cons ?_ (Sub.cons ?_ (Sub.cons ?_ (Sub.cons ?_ (Sub.base hf ?_))))) (zna _)
  all_goals (simp (disch:=omega) only [ite_ne,go_sem,↓reduceIte,Za,Zb,Zc,Zd,Ze,reduceCtorEq,Zf,Zg,Zh,Zi,Zj,Zk])
  all_goals rfl
 dsimp only at hj
 obtain ⟨hj1,hj2,hj3⟩:=hj
 have hmn:m≤n:=by omega
 have hFl:F.length≤j:=by rw [hj3];exact hq j
 simp (disch:=omega) only [ite_ne,go_sem,↓reduceIte,Za,Zb,Zc,Zd,Ze,reduceCtorEq,Zf,Zg,Zh,Zi,Zj,Zk]
 refine cdK_of (fun q=>?_) (fun q=>?_)
 .have q:j<l.length:=by simpa using q
  obtain ⟨p,ep⟩:∃p,l[j]?=some p:=⟨l[j],by simp [q]⟩
  have hst:=noneF_step (root:=root) ep
  rw [←hj3] at hst
  have hl1:(F.map (·.2)).length=F.length:=by simp
  have hl2:(F.map (·.1)).length=F.length:=by simp
  have k1:(F.length+1+1)*80≤140737488355328:=by omega
  have k2:(F.length+1+1)*16≤140737488355328:=by omega
  have k3:F.length+1+1≤9223372036854775807:=by omega
  have k4:l.length - (j+1)<l.length - j:=by omega
  unfold sTypename at hst
  simp (disch:=omega) only [ite_ne,q,getK_s (mapC_get pkC ep),go_sem,↓reduceIte,Za,Zb,Zc,Zd,Ze,reduceCtorEq,Zf,Zg,Zh,Zi,Zj,Zk]
  refine cdK_of (fun c=>?_) (fun c=>?_)
  .have c:¬p.on=root:=by simpa using c
   rw [if_neg c] at hst
   simp (disch:=omega) only [ite_ne,go_sem,↓reduceIte,Za,Zb,Zc,Zd,Ze,reduceCtorEq,Zf,Zg,Zh,Zi,Zj,Zk]
   refine ⟨(j+1,F,_),⟨by dsimp only;omega,by dsimp only;omega,hst.symm⟩,k4,weak_ok ?_ (Sub.cons ?_ (Sub.cons ?_ (Sub.cons ?_ (Sub.cons ?_ (Sub.base hf ?_))))) (zna _)⟩
   all_goals
    simp (disch:=omega) only [ite_ne,wr64s j (by omega),hmn,go_sem,↓reduceIte,Za,Zb,Zc,Zd,Ze,reduceCtorEq,Zf,Zg,Zh,Zi,Zj,Zk]
  .have c:p.on=root:=by simpa using c
   rw [if_pos c] at hst
   simp (disch:=omega) only [ite_ne,go_sem,↓reduceIte,Za,Zb,Zc,Zd,Ze,reduceCtorEq,Zf,Zg,Zh,Zi,Zj,Zk]
   refine cdK_of (fun c2=>?_) (fun c2=>?_)
   .rw [if_pos (by simpa using c2)] at hst
    simp (disch:=omega) only [ite_ne,go_sem,↓reduceIte,Za,Zb,Zc,Zd,Ze,reduceCtorEq,Zf,Zg,Zh,Zi,Zj,Zk]
    refine vcCall.f (vText_ok _ _ _) ?_
    simp (disch:=omega) only [ite_ne,hl1,hl2,k1,k2,k3,go_sem,↓reduceIte,Za,Zb,Zc,Zd,Ze,reduceCtorEq,Zf,Zg,Zh,Zi,Zj,Zk]
    refine ⟨by omega,(j+1,F++[(p.key,txV root)],_),⟨by dsimp only;omega,by dsimp only;omega,hst.symm⟩,k4,weak_ok ?_ (Sub.cons ?_ (Sub.cons ?_ (Sub.cons ?_ (Sub.cons ?_ (Sub.base hf ?_))))) (zna _)⟩
    all_goals
     simp (disch:=omega) only [ite_ne,wr64s j (by omega),hmn,zld,zlc,zle,zlq,zln,zlu,snoc_zv,go_sem,↓reduceIte,Za,Zb,Zc,Zd,Ze,reduceCtorEq,Zf,Zg,Zh,Zi,Zj,Zk]
   .rw [if_neg (by simpa using c2)] at hst
    simp (disch:=omega) only [ite_ne,hl1,hl2,k1,k2,k3,go_sem,↓reduceIte,Za,Zb,Zc,Zd,Ze,reduceCtorEq,Zf,Zg,Zh,Zi,Zj,Zk]
    refine ⟨by omega,(j+1,F++[(p.key,zVal)],_),⟨by dsimp only;omega,by dsimp only;omega,hst.symm⟩,k4,weak_ok ?_ (Sub.cons ?_ (Sub.cons ?_ (Sub.cons ?_ (Sub.cons ?_ (Sub.base hf ?_))))) (zna _)⟩
    all_goals
     simp (disch:=omega) only [ite_ne,wr64s j (by omega),hmn,zld,zlc,zle,zlq,zln,zlu,snoc_zv,go_sem,↓reduceIte,Za,Zb,Zc,Zd,Ze,reduceCtorEq,Zf,Zg,Zh,Zi,Zj,Zk]
 .have q:j=l.length:=by simp at q;omega
  subst q
  rw [zlj,hR] at hj3
  subst hj3
  have hl1:(F.map (·.2)).length=F.length:=by simp
  have hl2:(F.map (·.1)).length=F.length:=by simp
  have hl3:(F.map (·.2)).take F.length=F.map (·.2):=zlk (by omega)
  have hl4:(F.map (·.1)).take F.length=F.map (·.1):=zlk (by omega)
  simp (disch:=omega) only [ite_ne,hl1,hl2,hl3,hl4,zna,hmn,go_sem,↓reduceIte,Za,Zb,Zc,Zd,Ze,reduceCtorEq,Zf,Zg,Zh,Zi,Zj,Zk]
  try rfl
noncomputable def readV (s:Sup) (d:Dat) (root:ByteArray) (l:List Pk):Val:=objV root (if 0≤itemI d root then fieldsV s d l (itemI d root) else noneF root l)
theorem tread_ok (s:Sup) (hs:SOk s) (d:Dat) {B:Nat} (hd:DOk d B) (root:ByteArray) (l:List Pk) (hl:l.length≤1048576) (hpo:∀p∈l,p.Ok) (hp:CH) (m:Nat) :
  MeetsF Tryz.prog 73 hp m [supx s,dx d,.s root,.ds (mapC pkC l)] (vx (readV s d root l)):=by
 have h1:=dRoot_ok d hd.f.f root
 have h2:=tnone_ok root l hl
 have h3:=tObject_ok s hs d hd l hl hpo (itemI d root)
 have h4:=fun h=>itemI_ex (d:=d) (root:=root) h
 obtain ⟨R,hR⟩:∃R,readV s d root l=R:=⟨_,rfl⟩
 have e:=hR
 rw [readV] at e
 rw [hR]
 change ∀hp m,MeetsF Tryz.prog 51 hp m [dx d,.s root] (resI (itemI d root)) at h1
 by_cases c:0≤itemI d root
 .have h5:=h4 c
  have e2:objectV s d l (itemI d root)=R:=by rw [objectV,if_pos h5.1,h5.2,←e,if_pos c]
  rw [e2] at h3
  rw [resI,if_pos c,decide_eq_true c] at h1
  refine meetsF Tryz.func73 (by kernel_rfl) cc73 cr73 rfl fun hf=>?_;unfold ck73
  simp only [go_sem,↓reduceIte,Za,Zb,Zc,Zd,Ze,reduceCtorEq,Zf,Zg,Zh,Zi,Zj,Zk]
  refine vcCall.f (h1 _ _) ?_
  simp only [go_sem,↓reduceIte,Za,Zb,Zc,Zd,Ze,reduceCtorEq,Zf,Zg,Zh,Zi,Zj,Zk]
  refine vcCall.f (h3 _ _) ?_
  simp only [go_sem,↓reduceIte,Za,Zb,Zc,Zd,Ze,reduceCtorEq,Zf,Zg,Zh,Zi,Zj,Zk]
 .rw [if_neg c] at e
  rw [e] at h2
  rw [resI,if_neg c,decide_eq_false c] at h1
  refine meetsF Tryz.func73 (by kernel_rfl) cc73 cr73 rfl fun hf=>?_;unfold ck73
  simp only [go_sem,↓reduceIte,Za,Zb,Zc,Zd,Ze,reduceCtorEq,Zf,Zg,Zh,Zi,Zj,Zk]
  refine vcCall.f (h1 _ _) ?_
  simp only [go_sem,↓reduceIte,Za,Zb,Zc,Zd,Ze,reduceCtorEq,Zf,Zg,Zh,Zi,Zj,Zk]
  refine vcCall.f (h2 _ _) ?_
  simp only [go_sem,↓reduceIte,Za,Zb,Zc,Zd,Ze,reduceCtorEq,Zf,Zg,Zh,Zi,Zj,Zk]
theorem tnone_r (root:ByteArray) (hp:CH) (m:Nat):MeetsX Tryz.prog 75 hp m [.s root,.e0] ((m,.rw 0 5 [[.i .i64 3,.i .i64 0,.s root,.ds [],.ds []]])::(m+1,.rw 0 1 [[.s ⟨#[95,95,116]⟩]])::hp) (m+2) (.ag [.i .i64 6,.i .i64 0,.s ⟨#[]⟩,.rw m 0 1,.rw (m+1) 0 1]):=by
 refine meetsOut (outs:=[(5,[[AV.i .i64 3,.i .i64 0,.s root,.ds [],.ds []]]),(1,[[AV.s ⟨#[95,95,116]⟩]])]) Tryz.func75 (by kernel_rfl) cc75 cr75 rfl fun hf=>?_;unfold ck75
 simp only [go_sem,↓reduceIte,Za,Zb,Zc,Zd,Ze,reduceCtorEq,Zf,Zg,Zh,Zi,Zj,Zk]
 refine vcCall.f (vText_ok _ _ _) ?_
 simp only [go_sem,↓reduceIte,Za,Zb,Zc,Zd,Ze,reduceCtorEq,Zf,Zg,Zh,Zi,Zj,Zk]
 refine loop (fun q:Nat=>⟨[(0,.s root),(4,.bx m 0),(5,.bx (m+3) 0),(14,.e0),(15,.i .i64 0),(16,.i .i64 0)],
   (m,.bx [.i .i64 0,.i .i64 0,.s ⟨#[]⟩,.e0,.e0])::(m+3,.bx [.i .i64 6,.i .i64 0,.s ⟨#[]⟩,.rw (m+2) 0 1,.rw (m+1) 0 1])::(m+2,.rw 0 5 [[.i .i64 3,.i .i64 0,.s root,.ds [],.ds []]])::(m+1,.rw 0 1 [[.s ⟨#[95,95,116]⟩]])::hp,q⟩) (fun _=>True) (fun _=>0) (m+4) trivial ?_ (fun n hj=>?_)
 .refine weak_ok ?_ (Sub.cons ?_ (Sub.cons ?_ (Sub.cons ?_ (Sub.cons ?_ (Sub.base hf ?_))))) (zna _)
  all_goals (simp (disch:=omega) only [ite_ne,go_sem,↓reduceIte,Za,Zb,Zc,Zd,Ze,reduceCtorEq,Zf,Zg,Zh,Zi,Zj,Zk])
  all_goals rfl
 simp (disch:=omega) only [ite_ne,go_sem,↓reduceIte,Za,Zb,Zc,Zd,Ze,reduceCtorEq,Zf,Zg,Zh,Zi,Zj,Zk]
theorem readV_one {s:Sup} {d:Dat} {root:ByteArray} {x:Pk} (h:x.on=root):readV s d root [x]=objV root [(x.key,rootP s root d x)]:=by
 unfold readV rootP
 by_cases c:0≤itemI d root
 .rw [if_pos c,if_pos c,fieldsV_eq,(itemI_ex c).2]
  simp [h]
 .rw [if_neg c,if_neg c,noneF]
  simp [h]
theorem tread_one (s:Sup) (hs:SOk s) (d:Dat) {B:Nat} (hd:DOk d B) (root:ByteArray) (x:Pk) (hx:x.Ok) (h:x.on=root) (hp:CH) (m:Nat) :
  MeetsF Tryz.prog 73 hp m [supx s,dx d,.s root,.ds [[AV.s x.key,.s x.on,.s x.name,.ds (mapC argC x.args),.s x.tn,.ds (mapC in1 x.tw),.s x.label,.i .i64 x.initial,.ds (mapC pkC x.picks)]]]
   (.ag [.i .i64 6,.i .i64 0,.s ⟨#[]⟩,.ds [valC (txV root),valC (rootP s root d x)],.ds [[.s ⟨#[95,95,116]⟩],[.s x.key]]]):=by
 have h1:=tread_ok s hs d hd root [x] (by simp) (by simpa using hx) hp m
 rw [readV_one h] at h1
 have e:mapC pkC [x]=[[AV.s x.key,.s x.on,.s x.name,.ds (mapC argC x.args),.s x.tn,.ds (mapC in1 x.tw),.s x.label,.i .i64 x.initial,.ds (mapC pkC x.picks)]]:=by rw [mapC_cons,mapC_nil,pkC_eq]
 rw [e] at h1
 exact h1
set_option maxHeartbeats 4000000 in
theorem tRun_mut (s:Sup) (hs:SOk s) (d:Dat) {B:Nat} (hd:DOk d B) (p:Pln) (hk:p.k=2) (hl:p.l.length≤1048576) (hpo:∀x∈p.l,x.Ok) (hB:B+p.l.length*d.w.length≤100000000000) (hp:CH) (m:Nat) :
  MeetsF Tryz.prog 32 hp m [supx s,dx d,plx p] (.tp [vx (runV s d p).1,dx (runV s d p).2]):=by
 have hRt:=tRoot_ok p.k
 rw [runV]
 obtain ⟨root,hroot⟩:∃root,rootS p.k=root:=⟨_,rfl⟩
 rw [hroot] at hRt ⊢
 rw [decide_eq_true hk]
 have hinv:=runL_inv s true root d p.l hd (fun _=>hB)
 have hlen:=runL_len s true root d p.l
 have hstep:=fun j x (h:p.l[j]?=some x)=>runL_step (s:=s) (mu:=true) (root:=root) (d:=d) h
 obtain ⟨RF,hRF⟩:∃RF,runL s true root d p.l=RF:=⟨_,rfl⟩
 rw [hRF]
 have h2:decide (p.k=2)=true:=by simp [hk]
 refine meetsF Tryz.func32 (by kernel_rfl) cc32 cr32 rfl fun hf=>?_;unfold ck32
 simp only [go_sem,↓reduceIte,Za,Zb,Zc,Zd,Ze,reduceCtorEq,Zf,Zg,Zh,Zi,Zj,Zk]
 refine vcCall.f (hRt _ _) ?_
 simp only [h2,hk,go_sem,↓reduceIte,Za,Zb,Zc,Zd,Ze,reduceCtorEq,Zf,Zg,Zh,Zi,Zj,Zk]
 refine vcCall.x (tnone_r root _ _) ?_
 simp only [go_sem,↓reduceIte,Za,Zb,Zc,Zd,Ze,reduceCtorEq,Zf,Zg,Zh,Zi,Zj,Zk]
 refine loop (fun q:Nat × List (ByteArray × Val) × Dat × Nat=>⟨[(3,.bx m 0),(4,.bx (m+1) 0),(6,.bx (m+3) 0),(7,.bx (m+4) 0),(8,.s root),(9,.bx (m+7) 0),(33,.ds (mapC pkC p.l)),(34,.i .i64 p.l.length),(35,.i .i64 q.1)],
   (m,.bx [.ds (stC s.g),.ds (mapC dfC s.doc),.ds (mapC kyC s.keys),.ds (mapC jnC s.joins)])::(m+1,.bx [.ds (mapC itC q.2.2.1.i),.ds (mapC wrC q.2.2.1.w)])::(m+3,.bx [.i .i64 0,.i .i64 0,.s ⟨#[]⟩,.e0,.e0])::(m+4,.bx [.e0,.e0]) ::
   (m+7,.bx [.i .i64 6,.i .i64 0,.s ⟨#[]⟩,.rw (m+5) q.2.1.length (q.2.1.length+1),.rw (m+6) q.2.1.length (q.2.1.length+1)])::(m+5,.rw q.2.1.length 5 (mapC valC (txV root::q.2.1.map (·.2))))::(m+6,.rw q.2.1.length 1 (stC (⟨#[95,95,116]⟩::q.2.1.map (·.1))))::hp,q.2.2.2⟩)
  (fun q=>q.1≤p.l.length∧m+8≤q.2.2.2∧(q.2.1,q.2.2.1)=runL s true root d (p.l.take q.1)) (fun q=>p.l.length - q.1) (0,[],d,m+8) ?_ ?_ (fun ⟨j,F,D,n⟩ hj=>?_)
 .exact ⟨by simp,by simp,by dsimp only;rw [List.take_zero];rfl⟩
 .refine weak_ok ?_ (Sub.cons ?_ (Sub.cons ?_ (Sub.cons ?_ (Sub.cons ?_ (Sub.cons ?_ (Sub.cons ?_ (Sub.cons ?_ (Sub.base hf ?_)))))))) (zna _)
  all_goals (simp (disch:=omega) only [ite_ne,go_sem,↓reduceIte,Za,Zb,Zc,Zd,Ze,reduceCtorEq,Zf,Zg,Zh,Zi,Zj,Zk])
  all_goals rfl
 dsimp only at hj
 obtain ⟨hj1,hj2,hj3⟩:=hj
 have hmn:m≤n:=by omega
 have hFl:F.length≤j:=by have:=hlen j;rw [←hj3] at this;exact this
 have hI:=hinv j hj1
 rw [←hj3] at hI
 obtain ⟨hI1,hI2,hI3⟩:=hI
 dsimp only at hI1 hI2 hI3
 have hl1:(F.map (·.2)).length=F.length:=by simp
 have hl2:(F.map (·.1)).length=F.length:=by simp
 simp (disch:=omega) only [ite_ne,go_sem,↓reduceIte,Za,Zb,Zc,Zd,Ze,reduceCtorEq,Zf,Zg,Zh,Zi,Zj,Zk]
 refine cdK_of (fun q=>?_) (fun q=>?_)
 .have q:j<p.l.length:=by simpa using q
  obtain ⟨x,ex⟩:∃x,p.l[j]?=some x:=⟨p.l[j],by simp [q]⟩
  have hxo:=hpo x (zla ex)
  have hst:=hstep j x ex
  rw [←hj3,runS] at hst
  have k1:(F.length+1+1)*80≤140737488355328:=by omega
  have k2:(F.length+1+1)*16≤140737488355328:=by omega
  have k3:F.length+1+1≤9223372036854775807:=by omega
  have k4:p.l.length - (j+1)<p.l.length - j:=by omega
  simp (disch:=omega) only [ite_ne,q,getK_s (mapC_get pkC ex),go_sem,↓reduceIte,Za,Zb,Zc,Zd,Ze,reduceCtorEq,Zf,Zg,Zh,Zi,Zj,Zk]
  refine cdK_of (fun c=>?_) (fun c=>?_)
  .have c:¬x.on=root:=by simpa using c
   rw [if_neg c] at hst
   simp (disch:=omega) only [ite_ne,go_sem,↓reduceIte,Za,Zb,Zc,Zd,Ze,reduceCtorEq,Zf,Zg,Zh,Zi,Zj,Zk]
   refine ⟨(j+1,F,D,_),⟨by dsimp only;omega,by dsimp only;omega,hst.symm⟩,k4,weak_ok ?_ (Sub.cons ?_ (Sub.cons ?_ (Sub.cons ?_ (Sub.cons ?_ (Sub.cons ?_ (Sub.cons ?_ (Sub.cons ?_ (Sub.base hf ?_)))))))) (zna _)⟩
   all_goals
    simp (disch:=omega) only [ite_ne,wr64s j (by omega),hmn,go_sem,↓reduceIte,Za,Zb,Zc,Zd,Ze,reduceCtorEq,Zf,Zg,Zh,Zi,Zj,Zk]
  .have hon:x.on=root:=by simpa using c
   rw [if_pos hon] at hst
   dsimp only at hst
   have hTx:=tText_ok x.args (fun a h=>(hxo.a.v a h).ok) (Nat.le_trans hxo.a.b (by omega)) (Nat.le_trans hxo.a.n (by omega))
   have hIt:=dRoot_ok D hI3.f.f root
   change ∀hp m,MeetsF Tryz.prog 51 hp m [dx D,.s root] (resI (itemI D root)) at hIt
   have hD'0:=rootD_dok (s:=s) (mu:=true) (root:=root) (x:=x) hI3 (fun _=>by
    rw [if_pos rfl,hI1]
    have:(j+1)*d.w.length≤p.l.length*d.w.length:=Nat.mul_le_mul_right _ q
    rw [Nat.add_mul,Nat.one_mul] at this
    omega)
   have hDr:rootD s true root D x=if x.name=sTypename then D else appV D x.name (ofL (rootT s root D x)):=by
    unfold rootD
    by_cases c3:x.name=sTypename<;>simp [c3]
   unfold sTypename at hDr
   simp (disch:=omega) only [ite_ne,go_sem,↓reduceIte,Za,Zb,Zc,Zd,Ze,reduceCtorEq,Zf,Zg,Zh,Zi,Zj,Zk]
   refine cdK_of (fun c3=>?_) (fun c3=>?_)
   .have c3:¬x.name=⟨#[95,95,116,121,112,101,110,97,109,101]⟩:=by simpa using c3
    rw [if_neg c3] at hDr
    have hAp:=fun T=>dApply_ok D hI3.f x.name T
    by_cases c4:0≤itemI D root
    .have hTe:rootT s root D x=argT s D (itemI D root) x:=by rw [rootT,if_pos c4]
     have hAr:=tArgs_ok s hs D hI3 (itemI D root) x hxo.a
     rw [hTe] at hDr
     rw [hDr] at hst hD'0
     have hAp:=hAp (ofL (argT s D (itemI D root) x))
     rw [resI,if_pos c4,decide_eq_true c4] at hIt
     obtain ⟨D',hD'e⟩:∃D',appV D x.name (ofL (argT s D (itemI D root) x))=D':=⟨_,rfl⟩
     rw [hD'e] at hst hD'0 hAp
     have hD':=hD'0
     simp (disch:=omega) only [ite_ne,go_sem,↓reduceIte,Za,Zb,Zc,Zd,Ze,reduceCtorEq,Zf,Zg,Zh,Zi,Zj,Zk]
     refine vcCall.f (hTx _ _) ?_
     simp (disch:=omega) only [ite_ne,go_sem,↓reduceIte,Za,Zb,Zc,Zd,Ze,reduceCtorEq,Zf,Zg,Zh,Zi,Zj,Zk]
     refine vcCall.f (hIt _ _) ?_
     simp (disch:=omega) only [ite_ne,go_sem,↓reduceIte,Za,Zb,Zc,Zd,Ze,reduceCtorEq,Zf,Zg,Zh,Zi,Zj,Zk]
     refine vcCall.f (hAr _ _) ?_
     simp (disch:=omega) only [ite_ne,go_sem,↓reduceIte,Za,Zb,Zc,Zd,Ze,reduceCtorEq,Zf,Zg,Zh,Zi,Zj,Zk]
     refine vcCall.f (hAp _ _) ?_
     simp (disch:=omega) only [ite_ne,go_sem,↓reduceIte,Za,Zb,Zc,Zd,Ze,reduceCtorEq,Zf,Zg,Zh,Zi,Zj,Zk]
     refine vcCall.f (tread_one s hs D' hD' root x hxo hon _ _) ?_
     obtain ⟨P,hP⟩:∃P,rootP s root D' x=P:=⟨_,rfl⟩
     rw [hP] at hst ⊢
     simp (disch:=omega) only [ite_ne,hl1,hl2,k1,k2,k3,List.drop_succ_cons,List.drop_zero,List.not_mem_nil,false_implies,implies_true,go_sem,↓reduceIte,Za,Zb,Zc,Zd,Ze,reduceCtorEq,Zf,Zg,Zh,Zi,Zj,Zk]
     refine ⟨(j+1,F++[(x.key,P)],D',_),⟨by dsimp only;omega,by dsimp only;omega,hst.symm⟩,k4,weak_ok ?_ (Sub.cons ?_ (Sub.cons ?_ (Sub.cons ?_ (Sub.cons ?_ (Sub.cons ?_ (Sub.cons ?_ (Sub.cons ?_ (Sub.base hf ?_)))))))) (zna _)⟩
     all_goals
      simp (disch:=omega) only [ite_ne,wr64s j (by omega),hmn,zld,zlc,zle,zlq,zln,zlu,go_sem,↓reduceIte,Za,Zb,Zc,Zd,Ze,reduceCtorEq,Zf,Zg,Zh,Zi,Zj,Zk]
    .have hTe:rootT s root D x=argsL x.args:=by rw [rootT,if_neg c4]
     rw [hTe] at hDr
     rw [hDr] at hst hD'0
     have hAp:=hAp (ofL (argsL x.args))
     rw [resI,if_neg c4,decide_eq_false c4] at hIt
     obtain ⟨D',hD'e⟩:∃D',appV D x.name (ofL (argsL x.args))=D':=⟨_,rfl⟩
     rw [hD'e] at hst hD'0 hAp
     have hD':=hD'0
     simp (disch:=omega) only [ite_ne,go_sem,↓reduceIte,Za,Zb,Zc,Zd,Ze,reduceCtorEq,Zf,Zg,Zh,Zi,Zj,Zk]
     refine vcCall.f (hTx _ _) ?_
     simp (disch:=omega) only [ite_ne,go_sem,↓reduceIte,Za,Zb,Zc,Zd,Ze,reduceCtorEq,Zf,Zg,Zh,Zi,Zj,Zk]
     refine vcCall.f (hIt _ _) ?_
     simp (disch:=omega) only [ite_ne,go_sem,↓reduceIte,Za,Zb,Zc,Zd,Ze,reduceCtorEq,Zf,Zg,Zh,Zi,Zj,Zk]
     refine vcCall.f (hAp _ _) ?_
     simp (disch:=omega) only [ite_ne,go_sem,↓reduceIte,Za,Zb,Zc,Zd,Ze,reduceCtorEq,Zf,Zg,Zh,Zi,Zj,Zk]
     refine vcCall.f (tread_one s hs D' hD' root x hxo hon _ _) ?_
     obtain ⟨P,hP⟩:∃P,rootP s root D' x=P:=⟨_,rfl⟩
     rw [hP] at hst ⊢
     simp (disch:=omega) only [ite_ne,hl1,hl2,k1,k2,k3,List.drop_succ_cons,List.drop_zero,List.not_mem_nil,false_implies,implies_true,go_sem,↓reduceIte,Za,Zb,Zc,Zd,Ze,reduceCtorEq,Zf,Zg,Zh,Zi,Zj,Zk]
     refine ⟨(j+1,F++[(x.key,P)],D',_),⟨by dsimp only;omega,by dsimp only;omega,hst.symm⟩,k4,weak_ok ?_ (Sub.cons ?_ (Sub.cons ?_ (Sub.cons ?_ (Sub.cons ?_ (Sub.cons ?_ (Sub.cons ?_ (Sub.cons ?_ (Sub.base hf ?_)))))))) (zna _)⟩
     all_goals
      simp (disch:=omega) only [ite_ne,wr64s j (by omega),hmn,zld,zlc,zle,zlq,zln,zlu,go_sem,↓reduceIte,Za,Zb,Zc,Zd,Ze,reduceCtorEq,Zf,Zg,Zh,Zi,Zj,Zk]
   .rw [if_pos (by simpa using c3)] at hDr
    rw [hDr] at hst hD'0
    obtain ⟨D',hD'e⟩:∃D',D=D':=⟨_,rfl⟩
    rw [hD'e] at hst hD'0
    have hD':=hD'0
    rw [hD'e]
    simp (disch:=omega) only [ite_ne,go_sem,↓reduceIte,Za,Zb,Zc,Zd,Ze,reduceCtorEq,Zf,Zg,Zh,Zi,Zj,Zk]
    refine vcCall.f (tread_one s hs D' hD' root x hxo hon _ _) ?_
    obtain ⟨P,hP⟩:∃P,rootP s root D' x=P:=⟨_,rfl⟩
    rw [hP] at hst ⊢
    simp (disch:=omega) only [ite_ne,hl1,hl2,k1,k2,k3,List.drop_succ_cons,List.drop_zero,List.not_mem_nil,false_implies,implies_true,go_sem,↓reduceIte,Za,Zb,Zc,Zd,Ze,reduceCtorEq,Zf,Zg,Zh,Zi,Zj,Zk]
    refine ⟨(j+1,F++[(x.key,P)],D',_),⟨by dsimp only;omega,by dsimp only;omega,hst.symm⟩,k4,weak_ok ?_ (Sub.cons ?_ (Sub.cons ?_ (Sub.cons ?_ (Sub.cons ?_ (Sub.cons ?_ (Sub.cons ?_ (Sub.cons ?_ (Sub.base hf ?_)))))))) (zna _)⟩
    all_goals
     simp (disch:=omega) only [ite_ne,wr64s j (by omega),hmn,zld,zlc,zle,zlq,zln,zlu,go_sem,↓reduceIte,Za,Zb,Zc,Zd,Ze,reduceCtorEq,Zf,Zg,Zh,Zi,Zj,Zk]
 .have q:j=p.l.length:=by simp at q;omega
  subst q
  rw [zlj,hRF] at hj3
  subst hj3
  have hl3:(F.map (·.2)).take F.length=F.map (·.2):=zlk (by omega)
  have hl4:(F.map (·.1)).take F.length=F.map (·.1):=zlk (by omega)
  simp (disch:=omega) only [ite_ne,hl1,hl2,hl3,hl4,zna,hmn,go_sem,↓reduceIte,Za,Zb,Zc,Zd,Ze,reduceCtorEq,Zf,Zg,Zh,Zi,Zj,Zk]
  refine dCallR.f (fun _ hp' e=>icopied_ok D hI3.f _ _) ?_
  simp (disch:=omega) only [ite_ne,hl1,hl2,hl3,hl4,zna,hmn,go_sem,↓reduceIte,Za,Zb,Zc,Zd,Ze,reduceCtorEq,Zf,Zg,Zh,Zi,Zj,Zk]
  try rfl
end Go.Proofs.YtinbodeocoeneaaGreatDoor
