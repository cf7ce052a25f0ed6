/- Proof. Conditions: none. -/
import Derived.Test.YthiifoleopdieaaGreatDoorRows
import Derived.WalkKit
import Derived.Test.YthiifoleopdieaaGreatDoorIy52
open Nat renaming reduceEqDiff→Za,reduceBEq→Zb,reduceAdd→Zc,reduceLeDiff→Zd,reduceLT→Ze,reduceMul→Zf,reduceSub→Zg
open Int renaming reduceEq→Zh,reduceLT→Zi,reduceLE→Zj,reduceToNat→Zk
open List renaming mem_of_getElem?→zla,length_cons→zlc,length_append→zld,length_nil→zle,take_length→zlj,take_of_length_le→zlk,map_cons→zln,map_append→zlq,mem_map_of_mem→zls,map_nil→zlu
open Nat renaming le_refl→zna,le_trans→znc
namespace Go.Proofs.YthiifoleopdieaaGreatDoor
open Go.Eng
set_option linter.all false
set_option maxRecDepth 20000
set_option maxHeartbeats 4000000 in
theorem rRun_found (s:Sup) (hs:SOk s) (d:Dat) {B:Nat} (hd:DOk d B) (p:Pln) (hl:p.l.length≤1048576) (hpo:∀x∈p.l,x.Ok) (hB:p.k=2→B+p.l.length*d.w.length≤100000000000) (hI0:0≤itemI d (rootS p.k)) (hp:CH) (m:Nat) :
  MeetsF Tryz.prog 18 hp m [supx s,dx d,plx p] (.tp [vx (runV s d p).1,dx (runV s d p).2]):=by
 have hRt:=rRoot_ok' p.k
 have hCl:=rCloneF_ok d hd.f.f hd.f.w
 rw [runV]
 obtain ⟨mu,hmu⟩:∃mu,decide (p.k=2)=mu:=⟨_,rfl⟩
 have hB:mu=true→B+p.l.length*d.w.length≤100000000000:=fun h=>hB (by rw [←hmu] at h;simpa using h)
 obtain ⟨root,hroot⟩:∃root,rootS p.k=root:=⟨_,rfl⟩
 rw [hroot] at hRt hI0 ⊢
 rw [hmu]
 have hinv:=runL_inv s mu root d p.l hd hB
 have hlen:=runL_len s mu root d p.l
 have hstep:=fun j x (h:p.l[j]?=some x)=>runL_step (s:=s) (mu:=mu) (root:=root) (d:=d) h
 obtain ⟨RF,hRF⟩:∃RF,runL s mu root d p.l=RF:=⟨_,rfl⟩
 rw [hRF]
 have hIt:=rRoot_ok d hd.f.f root
 change ∀hp m,MeetsF Tryz.prog 50 hp m [dx d,.s root] (resI (itemI d root)) at hIt
 rw [resI,if_pos hI0,decide_eq_true hI0] at hIt
 obtain ⟨I,hI⟩:∃I,itemI d root=I:=⟨_,rfl⟩
 rw [hI] at hIt hI0
 refine meetsF Tryz.func18 (by kernel_rfl) cc18 cr18 rfl fun hf=>?_;unfold ck18
 simp (disch:=omega) only [ite_ne,go_sem,↓reduceIte,Za,Zb,Zc,Zd,Ze,reduceCtorEq,Zf,Zg,Zh,Zi,Zj,Zk]
 refine vcCall.f (hRt _ _) ?_
 simp (disch:=omega) only [ite_ne,go_sem,↓reduceIte,Za,Zb,Zc,Zd,Ze,reduceCtorEq,Zf,Zg,Zh,Zi,Zj,Zk]
 refine vcCall.f (hCl _ _) ?_
 simp (disch:=omega) only [ite_ne,go_sem,↓reduceIte,Za,Zb,Zc,Zd,Ze,reduceCtorEq,Zf,Zg,Zh,Zi,Zj,Zk]
 refine vcCall.f (hIt _ _) ?_
 simp (disch:=omega) only [ite_ne,go_sem,↓reduceIte,Za,Zb,Zc,Zd,Ze,reduceCtorEq,Zf,Zg,Zh,Zi,Zj,Zk]
 refine vcCall.f (text_ok _ _ _) ?_
 simp (disch:=omega) only [ite_ne,go_sem,↓reduceIte,Za,Zb,Zc,Zd,Ze,reduceCtorEq,Zf,Zg,Zh,Zi,Zj,Zk]
 refine loop (fun q:Nat × List (ByteArray × Val) × Dat × Nat=>⟨[(3,.bx m 0),(4,.bx (m+1) 0),(5,.bx (m+2) 0),(6,.bx (m+3) 0),(7,.bx (m+4) 0),(8,.s root),(9,.i .i64 I),(10,.b true),(11,.bx (m+7) 0),(12,.i .i64 q.1)],
   (m,.bx [.ds (stC s.g),.ds (mapC dfC s.doc),.ds (mapC kyC s.keys),.ds (mapC jnC s.joins)])::(m+1,.bx [.ds (mapC itC q.2.2.1.i),.ds (mapC wrC q.2.2.1.w)])::(m+2,.bx [.i .i64 p.k,.ds (mapC pkC p.l)])::(m+3,.bx [.i .i64 0,.i .i64 0,.s ⟨#[]⟩,.e0,.e0])::(m+4,.bx [.e0,.e0]) ::
   (m+7,.bx [.i .i64 6,.i .i64 0,.s ⟨#[]⟩,.rw (m+6) q.2.1.length (q.2.1.length+1),.rw (m+5) q.2.1.length (q.2.1.length+1)])::(m+6,.rw q.2.1.length 5 (mapC valC (txV root::q.2.1.map (·.2))))::(m+5,.rw q.2.1.length 1 (stC (⟨#[95,95,116]⟩::q.2.1.map (·.1))))::hp,q.2.2.2⟩)
  (fun q=>q.1≤p.l.length∧m+8≤q.2.2.2∧(q.2.1,q.2.2.1)=runL s mu root d (p.l.take q.1)) (fun q=>p.l.length - q.1) (0,[],d,m+8) ?_ ?_ (fun ⟨j,F,D,n⟩ hj=>?_)
 .exact ⟨by simp,by simp,by dsimp only;rw [List.take_zero];rfl⟩
 .refine weak_ok ?_ (Sub.cons ?_ (Sub.cons ?_ (Sub.cons ?_ (Sub.cons ?_ (Sub.cons ?_ (Sub.cons ?_ (Sub.cons ?_ (Sub.cons ?_ (Sub.base hf ?_))))))))) (zna _)
  all_goals (simp (disch:=omega) only [ite_ne,go_sem,↓reduceIte,Za,Zb,Zc,Zd,Ze,reduceCtorEq,Zf,Zg,Zh,Zi,Zj,Zk])
  all_goals rfl
 dsimp only at hj
 obtain ⟨hj1,hj2,hj3⟩:=hj
 have hmn:m≤n:=by omega
 have hFl:F.length≤j:=by have:=hlen j;rw [←hj3] at this;exact this
 have hV:=hinv j hj1
 rw [←hj3] at hV
 obtain ⟨hI1,hI2,hI3⟩:=hV
 dsimp only at hI1 hI2 hI3
 have hl1:(F.map (·.2)).length=F.length:=by simp
 have hl2:(F.map (·.1)).length=F.length:=by simp
 simp (disch:=omega) only [ite_ne,go_sem,↓reduceIte,Za,Zb,Zc,Zd,Ze,reduceCtorEq,Zf,Zg,Zh,Zi,Zj,Zk]
 refine cdK_of (fun q=>?_) (fun q=>?_)
 .have q:j<p.l.length:=by simpa using q
  obtain ⟨x,ex⟩:∃x,p.l[j]?=some x:=⟨p.l[j],by simp [q]⟩
  have hxo:=hpo x (zla ex)
  have hst:=hstep j x ex
  rw [←hj3,runS] at hst
  have k1:(F.length+1+1)*80≤140737488355328:=by omega
  have k2:(F.length+1+1)*16≤140737488355328:=by omega
  have k3:F.length+1+1≤9223372036854775807:=by omega
  have k4:p.l.length - (j+1)<p.l.length - j:=by omega
  simp (disch:=omega) only [ite_ne,q,getK_s (mapC_get pkC ex),hmn,go_sem,↓reduceIte,Za,Zb,Zc,Zd,Ze,reduceCtorEq,Zf,Zg,Zh,Zi,Zj,Zk]
  refine cdK_of (fun c=>?_) (fun c=>?_)
  .have c:¬x.on=root:=by simpa using c
   rw [if_neg c] at hst
   simp (disch:=omega) only [ite_ne,hmn,go_sem,↓reduceIte,Za,Zb,Zc,Zd,Ze,reduceCtorEq,Zf,Zg,Zh,Zi,Zj,Zk]
   refine ⟨(j+1,F,D,_),⟨by dsimp only;omega,by dsimp only;omega,hst.symm⟩,k4,weak_ok ?_ (Sub.cons ?_ (Sub.cons ?_ (Sub.cons ?_ (Sub.cons ?_ (Sub.cons ?_ (Sub.cons ?_ (Sub.cons ?_ (Sub.cons ?_ (Sub.base hf ?_))))))))) (zna _)⟩
   all_goals
    simp (disch:=omega) only [ite_ne,wr64s j (by omega),hmn,go_sem,↓reduceIte,Za,Zb,Zc,Zd,Ze,reduceCtorEq,Zf,Zg,Zh,Zi,Zj,Zk]
  .have hon:x.on=root:=by simpa using c
   rw [if_pos hon] at hst
   dsimp only at hst
   have hTx:=rText_ok x.args (fun a h=>(hxo.a.v a h).ok) (znc hxo.a.b (by omega)) (znc hxo.a.n (by omega))
   have hD'0:=rootD_dok (s:=s) (mu:=mu) (root:=root) (x:=x) hI3 (fun hm=>by
    rw [if_pos hm,hI1]
    have:(j+1)*d.w.length≤p.l.length*d.w.length:=Nat.mul_le_mul_right _ q
    rw [Nat.add_mul,Nat.one_mul] at this
    have:=hB hm
    omega)
   have hDI:itemI (rootD s mu root D x) root=I:=by rw [rootD_item,hI2,hI]
   have hDr:rootD s mu root D x=if (mu&&!decide (x.name=⟨#[95,95,116,121,112,101,110,97,109,101]⟩))=true then appV D x.name (ofL (argT s D I x)) else D:=by
    unfold rootD rootT
    rw [hI2,hI,if_pos hI0]
    rfl
   have hAr:=rArgs_ok s hs D hI3 I x hxo.a
   have hAp:=rApply_ok D hI3.f x.name (ofL (argT s D I x))
   obtain ⟨T,hT⟩:∃T,ofL (argT s D I x)=T:=⟨_,rfl⟩
   rw [hT] at hAr hAp hDr
   simp (disch:=omega) only [ite_ne,hmn,hmu,go_sem,↓reduceIte,Za,Zb,Zc,Zd,Ze,reduceCtorEq,Zf,Zg,Zh,Zi,Zj,Zk]
   refine cdK_of (fun c3=>?_) (fun c3=>?_)
   .rw [if_pos c3] at hDr
    rw [hDr] at hst hD'0 hDI
    obtain ⟨D',hD'e⟩:∃D',appV D x.name T=D':=⟨_,rfl⟩
    rw [hD'e] at hst hD'0 hDI hAp
    have hRd:=rpick_ok s hs D' hD'0 x hxo I (by rw [←hDI];exact (itemI_ex (by rw [hDI];exact hI0)).1)
    have hP:rootP s root D' x=pickV s D' x I:=by rw [rootP,hDI,if_pos hI0]
    obtain ⟨P,hPe⟩:∃P,pickV s D' x I=P:=⟨_,rfl⟩
    rw [hPe] at hRd hP
    rw [hP] at hst
    simp (disch:=omega) only [ite_ne,hmn,go_sem,↓reduceIte,Za,Zb,Zc,Zd,Ze,reduceCtorEq,Zf,Zg,Zh,Zi,Zj,Zk]
    refine vcCall.f (hTx _ _) ?_
    simp (disch:=omega) only [ite_ne,hmn,go_sem,↓reduceIte,Za,Zb,Zc,Zd,Ze,reduceCtorEq,Zf,Zg,Zh,Zi,Zj,Zk]
    refine vcCall.f (hAr _ _) ?_
    simp (disch:=omega) only [ite_ne,hmn,go_sem,↓reduceIte,Za,Zb,Zc,Zd,Ze,reduceCtorEq,Zf,Zg,Zh,Zi,Zj,Zk]
    refine vcCall.f (hAp _ _) ?_
    simp (disch:=omega) only [ite_ne,hmn,go_sem,↓reduceIte,Za,Zb,Zc,Zd,Ze,reduceCtorEq,Zf,Zg,Zh,Zi,Zj,Zk]
    refine vcCall.f (hRd _ _) ?_
    simp (disch:=omega) only [ite_ne,hl1,hl2,k1,k2,k3,hmn,go_sem,↓reduceIte,Za,Zb,Zc,Zd,Ze,reduceCtorEq,Zf,Zg,Zh,Zi,Zj,Zk]
    refine ⟨(j+1,F++[(x.key,P)],D',_),⟨by dsimp only;omega,by dsimp only;omega,hst.symm⟩,k4,weak_ok ?_ (Sub.cons ?_ (Sub.cons ?_ (Sub.cons ?_ (Sub.cons ?_ (Sub.cons ?_ (Sub.cons ?_ (Sub.cons ?_ (Sub.cons ?_ (Sub.base hf ?_))))))))) (zna _)⟩
    all_goals
     simp (disch:=omega) only [ite_ne,wr64s j (by omega),hmn,zld,zlc,zle,zlq,zln,zlu,go_sem,↓reduceIte,Za,Zb,Zc,Zd,Ze,reduceCtorEq,Zf,Zg,Zh,Zi,Zj,Zk]
   .rw [if_neg (by rw [c3];simp)] at hDr
    rw [hDr] at hst hD'0 hDI
    obtain ⟨D',hD'e⟩:∃D',D=D':=⟨_,rfl⟩
    rw [hD'e] at hst hD'0 hDI
    rw [hD'e]
    have hRd:=rpick_ok s hs D' hD'0 x hxo I (by rw [←hDI];exact (itemI_ex (by rw [hDI];exact hI0)).1)
    have hP:rootP s root D' x=pickV s D' x I:=by rw [rootP,hDI,if_pos hI0]
    obtain ⟨P,hPe⟩:∃P,pickV s D' x I=P:=⟨_,rfl⟩
    rw [hPe] at hRd hP
    rw [hP] at hst
    simp (disch:=omega) only [ite_ne,hmn,go_sem,↓reduceIte,Za,Zb,Zc,Zd,Ze,reduceCtorEq,Zf,Zg,Zh,Zi,Zj,Zk]
    refine vcCall.f (hRd _ _) ?_
    simp (disch:=omega) only [ite_ne,hl1,hl2,k1,k2,k3,hmn,go_sem,↓reduceIte,Za,Zb,Zc,Zd,Ze,reduceCtorEq,Zf,Zg,Zh,Zi,Zj,Zk]
    refine ⟨(j+1,F++[(x.key,P)],D',_),⟨by dsimp only;omega,by dsimp only;omega,hst.symm⟩,k4,weak_ok ?_ (Sub.cons ?_ (Sub.cons ?_ (Sub.cons ?_ (Sub.cons ?_ (Sub.cons ?_ (Sub.cons ?_ (Sub.cons ?_ (Sub.cons ?_ (Sub.base hf ?_))))))))) (zna _)⟩
    all_goals
     simp (disch:=omega) only [ite_ne,wr64s j (by omega),hmn,zld,zlc,zle,zlq,zln,zlu,go_sem,↓reduceIte,Za,Zb,Zc,Zd,Ze,reduceCtorEq,Zf,Zg,Zh,Zi,Zj,Zk]
 .have q:j=p.l.length:=by simp at q;omega
  subst q
  rw [zlj,hRF] at hj3
  subst hj3
  have hl3:(F.map (·.2)).take F.length=F.map (·.2):=zlk (by omega)
  have hl4:(F.map (·.1)).take F.length=F.map (·.1):=zlk (by omega)
  simp (disch:=omega) only [ite_ne,hl1,hl2,hl3,hl4,zna,hmn,go_sem,↓reduceIte,Za,Zb,Zc,Zd,Ze,reduceCtorEq,Zf,Zg,Zh,Zi,Zj,Zk]
  try rfl
theorem snoc_zr (l:List Val):mapC valC l++[[AV.i .i64 0,.i .i64 0,.s ⟨#[]⟩,.ds [],.ds []]]=mapC valC (l++[zVal]):=mapC_snoc valC l zVal
set_option maxHeartbeats 4000000 in
theorem rRun_none (s:Sup) (hs:SOk s) (d:Dat) {B:Nat} (hd:DOk d B) (p:Pln) (hl:p.l.length≤1048576) (hpo:∀x∈p.l,x.Ok) (hB:p.k=2→B+p.l.length*d.w.length≤100000000000) (hI0:¬0≤itemI d (rootS p.k)) (hp:CH) (m:Nat) :
  MeetsF Tryz.prog 18 hp m [supx s,dx d,plx p] (.tp [vx (runV s d p).1,dx (runV s d p).2]):=by
 have hRt:=rRoot_ok' p.k
 have hCl:=rCloneF_ok d hd.f.f hd.f.w
 rw [runV]
 obtain ⟨mu,hmu⟩:∃mu,decide (p.k=2)=mu:=⟨_,rfl⟩
 have hB:mu=true→B+p.l.length*d.w.length≤100000000000:=fun h=>hB (by rw [←hmu] at h;simpa using h)
 obtain ⟨root,hroot⟩:∃root,rootS p.k=root:=⟨_,rfl⟩
 rw [hroot] at hRt hI0 ⊢
 rw [hmu]
 have hinv:=runL_inv s mu root d p.l hd hB
 have hlen:=runL_len s mu root d p.l
 have hstep:=fun j x (h:p.l[j]?=some x)=>runL_step (s:=s) (mu:=mu) (root:=root) (d:=d) h
 obtain ⟨RF,hRF⟩:∃RF,runL s mu root d p.l=RF:=⟨_,rfl⟩
 rw [hRF]
 have hIt:=rRoot_ok d hd.f.f root
 change ∀hp m,MeetsF Tryz.prog 50 hp m [dx d,.s root] (resI (itemI d root)) at hIt
 rw [resI,if_neg hI0,decide_eq_false hI0] at hIt
 obtain ⟨I,hI⟩:∃I,itemI d root=I:=⟨_,rfl⟩
 rw [hI] at hI0
 refine meetsF Tryz.func18 (by kernel_rfl) cc18 cr18 rfl fun hf=>?_;unfold ck18
 simp (disch:=omega) only [ite_ne,go_sem,↓reduceIte,Za,Zb,Zc,Zd,Ze,reduceCtorEq,Zf,Zg,Zh,Zi,Zj,Zk]
 refine vcCall.f (hRt _ _) ?_
 simp (disch:=omega) only [ite_ne,go_sem,↓reduceIte,Za,Zb,Zc,Zd,Ze,reduceCtorEq,Zf,Zg,Zh,Zi,Zj,Zk]
 refine vcCall.f (hCl _ _) ?_
 simp (disch:=omega) only [ite_ne,go_sem,↓reduceIte,Za,Zb,Zc,Zd,Ze,reduceCtorEq,Zf,Zg,Zh,Zi,Zj,Zk]
 refine vcCall.f (hIt _ _) ?_
 simp (disch:=omega) only [ite_ne,go_sem,↓reduceIte,Za,Zb,Zc,Zd,Ze,reduceCtorEq,Zf,Zg,Zh,Zi,Zj,Zk]
 refine vcCall.f (text_ok _ _ _) ?_
 simp (disch:=omega) only [ite_ne,go_sem,↓reduceIte,Za,Zb,Zc,Zd,Ze,reduceCtorEq,Zf,Zg,Zh,Zi,Zj,Zk]
 refine loop (fun q:Nat × List (ByteArray × Val) × Dat × Nat=>⟨[(3,.bx m 0),(4,.bx (m+1) 0),(5,.bx (m+2) 0),(6,.bx (m+3) 0),(7,.bx (m+4) 0),(8,.s root),(9,.i .i64 0),(10,.b false),(11,.bx (m+7) 0),(12,.i .i64 q.1)],
   (m,.bx [.ds (stC s.g),.ds (mapC dfC s.doc),.ds (mapC kyC s.keys),.ds (mapC jnC s.joins)])::(m+1,.bx [.ds (mapC itC q.2.2.1.i),.ds (mapC wrC q.2.2.1.w)])::(m+2,.bx [.i .i64 p.k,.ds (mapC pkC p.l)])::(m+3,.bx [.i .i64 0,.i .i64 0,.s ⟨#[]⟩,.e0,.e0])::(m+4,.bx [.e0,.e0]) ::
   (m+7,.bx [.i .i64 6,.i .i64 0,.s ⟨#[]⟩,.rw (m+6) q.2.1.length (q.2.1.length+1),.rw (m+5) q.2.1.length (q.2.1.length+1)])::(m+6,.rw q.2.1.length 5 (mapC valC (txV root::q.2.1.map (·.2))))::(m+5,.rw q.2.1.length 1 (stC (⟨#[95,95,116]⟩::q.2.1.map (·.1))))::hp,q.2.2.2⟩)
  (fun q=>q.1≤p.l.length∧m+8≤q.2.2.2∧(q.2.1,q.2.2.1)=runL s mu root d (p.l.take q.1)) (fun q=>p.l.length - q.1) (0,[],d,m+8) ?_ ?_ (fun ⟨j,F,D,n⟩ hj=>?_)
 .exact ⟨by simp,by simp,by dsimp only;rw [List.take_zero];rfl⟩
 .refine weak_ok ?_ (Sub.cons ?_ (Sub.cons ?_ (Sub.cons ?_ (Sub.cons ?_ (Sub.cons ?_ (Sub.cons ?_ (Sub.cons ?_ (Sub.cons ?_ (Sub.base hf ?_))))))))) (zna _)
  all_goals (simp (disch:=omega) only [ite_ne,go_sem,↓reduceIte,Za,Zb,Zc,Zd,Ze,reduceCtorEq,Zf,Zg,Zh,Zi,Zj,Zk])
  all_goals rfl
 dsimp only at hj
 obtain ⟨hj1,hj2,hj3⟩:=hj
 have hmn:m≤n:=by omega
 have hFl:F.length≤j:=by have:=hlen j;rw [←hj3] at this;exact this
 have hV:=hinv j hj1
 rw [←hj3] at hV
 obtain ⟨hI1,hI2,hI3⟩:=hV
 dsimp only at hI1 hI2 hI3
 have hl1:(F.map (·.2)).length=F.length:=by simp
 have hl2:(F.map (·.1)).length=F.length:=by simp
 simp (disch:=omega) only [ite_ne,go_sem,↓reduceIte,Za,Zb,Zc,Zd,Ze,reduceCtorEq,Zf,Zg,Zh,Zi,Zj,Zk]
 refine cdK_of (fun q=>?_) (fun q=>?_)
 .have q:j<p.l.length:=by simpa using q
  obtain ⟨x,ex⟩:∃x,p.l[j]?=some x:=⟨p.l[j],by simp [q]⟩
  have hxo:=hpo x (zla ex)
  have hst:=hstep j x ex
  rw [←hj3,runS] at hst
  have k1:(F.length+1+1)*80≤140737488355328:=by omega
  have k2:(F.length+1+1)*16≤140737488355328:=by omega
  have k3:F.length+1+1≤9223372036854775807:=by omega
  have k4:p.l.length - (j+1)<p.l.length - j:=by omega
  simp (disch:=omega) only [ite_ne,q,getK_s (mapC_get pkC ex),hmn,go_sem,↓reduceIte,Za,Zb,Zc,Zd,Ze,reduceCtorEq,Zf,Zg,Zh,Zi,Zj,Zk]
  refine cdK_of (fun c=>?_) (fun c=>?_)
  .have c:¬x.on=root:=by simpa using c
   rw [if_neg c] at hst
   simp (disch:=omega) only [ite_ne,hmn,go_sem,↓reduceIte,Za,Zb,Zc,Zd,Ze,reduceCtorEq,Zf,Zg,Zh,Zi,Zj,Zk]
   refine ⟨(j+1,F,D,_),⟨by dsimp only;omega,by dsimp only;omega,hst.symm⟩,k4,weak_ok ?_ (Sub.cons ?_ (Sub.cons ?_ (Sub.cons ?_ (Sub.cons ?_ (Sub.cons ?_ (Sub.cons ?_ (Sub.cons ?_ (Sub.cons ?_ (Sub.base hf ?_))))))))) (zna _)⟩
   all_goals
    simp (disch:=omega) only [ite_ne,wr64s j (by omega),hmn,go_sem,↓reduceIte,Za,Zb,Zc,Zd,Ze,reduceCtorEq,Zf,Zg,Zh,Zi,Zj,Zk]
  .have hon:x.on=root:=by simpa using c
   rw [if_pos hon] at hst
   dsimp only at hst
   have hTx:=rText_ok x.args (fun a h=>(hxo.a.v a h).ok) (znc hxo.a.b (by omega)) (znc hxo.a.n (by omega))
   have hD'0:=rootD_dok (s:=s) (mu:=mu) (root:=root) (x:=x) hI3 (fun hm=>by
    rw [if_pos hm,hI1]
    have:(j+1)*d.w.length≤p.l.length*d.w.length:=Nat.mul_le_mul_right _ q
    rw [Nat.add_mul,Nat.one_mul] at this
    have:=hB hm
    omega)
   have hDI:itemI (rootD s mu root D x) root=I:=by rw [rootD_item,hI2,hI]
   have hDr:rootD s mu root D x=if (mu&&!decide (x.name=⟨#[95,95,116,121,112,101,110,97,109,101]⟩))=true then appV D x.name (ofL (argsL x.args)) else D:=by
    unfold rootD rootT
    rw [hI2,hI,if_neg hI0]
    rfl
   have hAp:=rApply_ok D hI3.f x.name (ofL (argsL x.args))
   obtain ⟨T,hT⟩:∃T,ofL (argsL x.args)=T:=⟨_,rfl⟩
   rw [hT] at hTx hAp hDr
   simp (disch:=omega) only [ite_ne,hmn,hmu,go_sem,↓reduceIte,Za,Zb,Zc,Zd,Ze,reduceCtorEq,Zf,Zg,Zh,Zi,Zj,Zk]
   refine cdK_of (fun c3=>?_) (fun c3=>?_)
   .rw [if_pos c3] at hDr
    rw [hDr] at hst hD'0 hDI
    obtain ⟨D',hD'e⟩:∃D',appV D x.name T=D':=⟨_,rfl⟩
    rw [hD'e] at hst hD'0 hDI hAp
    have hnt:¬x.name=⟨#[95,95,116,121,112,101,110,97,109,101]⟩:=by simp at c3;exact c3.2
    have hP:rootP s root D' x=zVal:=by rw [rootP,hDI,if_neg hI0,if_neg (by unfold sTypename;exact hnt)]
    rw [hP] at hst
    simp (disch:=omega) only [ite_ne,hmn,go_sem,↓reduceIte,Za,Zb,Zc,Zd,Ze,reduceCtorEq,Zf,Zg,Zh,Zi,Zj,Zk]
    refine vcCall.f (hTx _ _) ?_
    simp (disch:=omega) only [ite_ne,hmn,go_sem,↓reduceIte,Za,Zb,Zc,Zd,Ze,reduceCtorEq,Zf,Zg,Zh,Zi,Zj,Zk]
    refine vcCall.f (hAp _ _) ?_
    simp (disch:=omega) only [ite_ne,hmn,go_sem,↓reduceIte,Za,Zb,Zc,Zd,Ze,reduceCtorEq,Zf,Zg,Zh,Zi,Zj,Zk]
    refine cdK_of (fun c5=>absurd (by simpa using c5) hnt) (fun c5=>?_)
    simp (disch:=omega) only [ite_ne,hl1,hl2,k1,k2,k3,hmn,go_sem,↓reduceIte,Za,Zb,Zc,Zd,Ze,reduceCtorEq,Zf,Zg,Zh,Zi,Zj,Zk]
    refine ⟨(j+1,F++[(x.key,zVal)],D',_),⟨by dsimp only;omega,by dsimp only;omega,hst.symm⟩,k4,weak_ok ?_ (Sub.cons ?_ (Sub.cons ?_ (Sub.cons ?_ (Sub.cons ?_ (Sub.cons ?_ (Sub.cons ?_ (Sub.cons ?_ (Sub.cons ?_ (Sub.base hf ?_))))))))) (zna _)⟩
    all_goals
     simp (disch:=omega) only [ite_ne,wr64s j (by omega),hmn,zld,zlc,zle,zlq,zln,zlu,snoc_zr,go_sem,↓reduceIte,Za,Zb,Zc,Zd,Ze,reduceCtorEq,Zf,Zg,Zh,Zi,Zj,Zk]
   .rw [if_neg (by rw [c3];simp)] at hDr
    rw [hDr] at hst hD'0 hDI
    obtain ⟨D',hD'e⟩:∃D',D=D':=⟨_,rfl⟩
    rw [hD'e] at hst hD'0 hDI
    rw [hD'e]
    simp (disch:=omega) only [ite_ne,hmn,go_sem,↓reduceIte,Za,Zb,Zc,Zd,Ze,reduceCtorEq,Zf,Zg,Zh,Zi,Zj,Zk]
    refine cdK_of (fun c5=>?_) (fun c5=>?_)
    .have hnt:x.name=⟨#[95,95,116,121,112,101,110,97,109,101]⟩:=by simpa using c5
     have hP:rootP s root D' x=txV root:=by rw [rootP,hDI,if_neg hI0,if_pos (by unfold sTypename;exact hnt)]
     rw [hP] at hst
     simp (disch:=omega) only [ite_ne,hmn,go_sem,↓reduceIte,Za,Zb,Zc,Zd,Ze,reduceCtorEq,Zf,Zg,Zh,Zi,Zj,Zk]
     refine vcCall.f (text_ok _ _ _) ?_
     simp (disch:=omega) only [ite_ne,hl1,hl2,k1,k2,k3,hmn,go_sem,↓reduceIte,Za,Zb,Zc,Zd,Ze,reduceCtorEq,Zf,Zg,Zh,Zi,Zj,Zk]
     refine ⟨(j+1,F++[(x.key,txV root)],D',_),⟨by dsimp only;omega,by dsimp only;omega,hst.symm⟩,k4,weak_ok ?_ (Sub.cons ?_ (Sub.cons ?_ (Sub.cons ?_ (Sub.cons ?_ (Sub.cons ?_ (Sub.cons ?_ (Sub.cons ?_ (Sub.cons ?_ (Sub.base hf ?_))))))))) (zna _)⟩
     all_goals
      simp (disch:=omega) only [ite_ne,wr64s j (by omega),hmn,zld,zlc,zle,zlq,zln,zlu,snoc_zr,go_sem,↓reduceIte,Za,Zb,Zc,Zd,Ze,reduceCtorEq,Zf,Zg,Zh,Zi,Zj,Zk]
    .have hnt:¬x.name=⟨#[95,95,116,121,112,101,110,97,109,101]⟩:=by simpa using c5
     have hP:rootP s root D' x=zVal:=by rw [rootP,hDI,if_neg hI0,if_neg (by unfold sTypename;exact hnt)]
     rw [hP] at hst
     simp (disch:=omega) only [ite_ne,hl1,hl2,k1,k2,k3,hmn,go_sem,↓reduceIte,Za,Zb,Zc,Zd,Ze,reduceCtorEq,Zf,Zg,Zh,Zi,Zj,Zk]
     refine ⟨(j+1,F++[(x.key,zVal)],D',_),⟨by dsimp only;omega,by dsimp only;omega,hst.symm⟩,k4,weak_ok ?_ (Sub.cons ?_ (Sub.cons ?_ (Sub.cons ?_ (Sub.cons ?_ (Sub.cons ?_ (Sub.cons ?_ (Sub.cons ?_ (Sub.cons ?_ (Sub.base hf ?_))))))))) (zna _)⟩
     all_goals
      simp (disch:=omega) only [ite_ne,wr64s j (by omega),hmn,zld,zlc,zle,zlq,zln,zlu,snoc_zr,go_sem,↓reduceIte,Za,Zb,Zc,Zd,Ze,reduceCtorEq,Zf,Zg,Zh,Zi,Zj,Zk]
 .have q:j=p.l.length:=by simp at q;omega
  subst q
  rw [zlj,hRF] at hj3
  subst hj3
  have hl3:(F.map (·.2)).take F.length=F.map (·.2):=zlk (by omega)
  have hl4:(F.map (·.1)).take F.length=F.map (·.1):=zlk (by omega)
  simp (disch:=omega) only [ite_ne,hl1,hl2,hl3,hl4,zna,hmn,go_sem,↓reduceIte,Za,Zb,Zc,Zd,Ze,reduceCtorEq,Zf,Zg,Zh,Zi,Zj,Zk]
  try rfl
theorem rRun_ok (s:Sup) (hs:SOk s) (d:Dat) {B:Nat} (hd:DOk d B) (p:Pln) (hl:p.l.length≤1048576) (hpo:∀x∈p.l,x.Ok) (hB:p.k=2→B+p.l.length*d.w.length≤100000000000) (hp:CH) (m:Nat) :
  MeetsF Tryz.prog 18 hp m [supx s,dx d,plx p] (.tp [vx (runV s d p).1,dx (runV s d p).2]):=by
 by_cases h:0≤itemI d (rootS p.k)
 .exact rRun_found s hs d hd p hl hpo hB h hp m
 .exact rRun_none s hs d hd p hl hpo hB h hp m
theorem rootP_fit {s:Sup} {d:Dat} {B:Nat} (hd:DOk d B) (root:ByteArray) (x:Pk) (hx:x.Ok):(rootP s root d x).Fit:=by
 unfold rootP
 split
 .exact pickV_fit hd x hx _
 .split
  .exact tx_fit _
  .exact zVal_fit
theorem runL_fit (s:Sup) (mu:Bool) (root:ByteArray) (d:Dat) (l:List Pk) {B:Nat} (hd:DOk d B) (hpo:∀x∈l,x.Ok) (h:mu=true→B+l.length*d.w.length≤100000000000):∀j,j≤l.length→∀y∈(runL s mu root d (l.take j)).1,y.2.Fit
 | 0,_=>by simp [runL]
 | j+1,hj=>by
  have hjl:j<l.length:=by omega
  have ex:=List.getElem?_eq_getElem hjl
  have ih:=runL_fit s mu root d l hd hpo h j (by omega)
  obtain ⟨h1,h2,h3⟩:=runL_inv s mu root d l hd h j (by omega)
  have hD:=rootD_dok (s:=s) (mu:=mu) (root:=root) (x:=l[j]) h3 (fun q=>by
   rw [if_pos q,h1]
   have hh:=h q
   have:(j+1)*d.w.length≤l.length*d.w.length:=Nat.mul_le_mul_right _ hj
   rw [Nat.add_mul,Nat.one_mul] at this
   omega)
  rw [runL_step ex]
  unfold runS
  split
  .intro y hy
   dsimp only at hy
   rcases List.mem_append.1 hy with hy | hy
   .exact ih y hy
   .rw [List.mem_singleton.1 hy]
    exact rootP_fit hD root _ (hpo _ (zla ex))
  .exact ih
theorem runV_fit (s:Sup) (d:Dat) (p:Pln) {B:Nat} (hd:DOk d B) (hl:p.l.length≤1048576) (hpo:∀x∈p.l,x.Ok) (hB:p.k=2→B+p.l.length*d.w.length≤100000000000):(runV s d p).1.Fit:=by
 have hB':decide (p.k=2)=true→B+p.l.length*d.w.length≤100000000000:=fun h=>hB (by simpa using h)
 have h1:=runL_fit s (decide (p.k=2)) (rootS p.k) d p.l hd hpo hB' p.l.length (zna _)
 have h2:=runL_len s (decide (p.k=2)) (rootS p.k) d p.l p.l.length
 rw [zlj] at h1 h2
 exact objV_fit (by omega) h1
theorem own:ownKnob Tryz.prog.godebug=none:=by kernel_rfl
theorem kids:Kids Tryz.prog (· < Tryz.prog.types.size):=kids_rows (by kernel_rfl) (by kernel_rfl)
theorem sized {t e:TypeId} (ht:t<Tryz.prog.types.size) (hd:Tryz.prog.underlying t=some (.slice e)):0<Tryz.prog.cellsOf e:=slB_of (by kernel_rfl) ht hd
theorem avLL_mapC {α:Type} {c:α→List AV} {wt:α→Nat}:∀{l:List α},(∀x∈l,wt x≤avL (c x))→(l.map wt).sum≤avLL (mapC c l)
 | [],_=>by simp
 | x::l,h=>by
  have h1:=avLL_mapC (c:=c) (wt:=wt) (l:=l) fun y hy=>h y (by simp [hy])
  have h2:=h x (by simp)
  rw [mapC_cons,avLL,zln,List.sum_cons]
  omega
theorem mapC_len_le {α:Type} {c:α→List AV} (h:∀x,1≤avL (c x)):∀l:List α,l.length≤avLL (mapC c l)
 | []=>by simp
 | x::l=>by
  have h1:=mapC_len_le h l
  have h2:=h x
  rw [mapC_cons,avLL,zlc]
  omega
theorem avLL_mem {x:List AV}:∀{l:List (List AV)},x∈l→avL x≤avLL l
 | y::l,h=>by
  rw [avLL]
  rcases List.mem_cons.1 h with rfl | h
  .omega
  .have:=avLL_mem h
   omega
theorem st1_av (s:ByteArray):1≤avL (st1 s):=by simp [st1,avL,avw]
theorem wtL_sumR (l:List Val):wtL l=(l.map wtV).sum:=by
 induction l with
 | nil=>rfl
 | cons x l ih=>rw [wtL,ih,zln,List.sum_cons]
theorem valC_av (v:Val):wtV v+3≤avL (valC v):=by
 refine Val.ind (Q:=fun v=>wtV v+3≤avL (valC v)) (fun v ih=>?_) v
 rw [valC_eq,wtV_eq,wtL_sumR]
 have h1:=avLL_mapC (c:=valC) (wt:=wtV) (l:=v.items) fun x hx=>by have:=ih x hx;omega
 have h2:v.keys.length≤avLL (stC v.keys):=mapC_len_le st1_av v.keys
 simp only [avL,avw]
 omega
theorem shp_val {L:List AV} (h:Shp Tryz.prog 52 L):∃v:Val,L=valC v:=by
 suffices key:∀(n:Nat) (L:List AV),avL L≤n→Shp Tryz.prog 52 L→∃v:Val,L=valC v from key _ L (zna _) h
 intro n
 induction n with
 | zero =>
  intro L hn h
  obtain ⟨parts,rfl,hl,hp⟩:=shp_struct Tryz.underlying52 h
  obtain ⟨a,b,c,d,e,rfl⟩:=ds_n5 (show parts.length=5 from hl)
  obtain ⟨a,rfl,_⟩:=shp_int Tryz.underlying3 (hp 0 _ a rfl rfl)
  simp [avL,avw] at hn
 | succ n ih =>
  intro L hn h
  obtain ⟨parts,rfl,hl,hp⟩:=shp_struct Tryz.underlying52 h
  obtain ⟨a,b,c,d,e,rfl⟩:=ds_n5 (show parts.length=5 from hl)
  obtain ⟨a,rfl,_⟩:=shp_int Tryz.underlying3 (hp 0 _ a rfl rfl)
  obtain ⟨b,rfl,_⟩:=shp_int Tryz.underlying3 (hp 1 _ b rfl rfl)
  obtain ⟨c,rfl,_⟩:=shp_string Tryz.underlying9 (hp 2 _ c rfl rfl)
  obtain ⟨l,rfl,_,hx⟩:=shp_slice Tryz.underlying50 (hp 3 _ d rfl rfl)
  obtain ⟨k,rfl,_,hy⟩:=shp_slice Tryz.underlying22 (hp 4 _ e rfl rfl)
  obtain ⟨vs,rfl,_⟩:=mapC_of (c:=valC) fun x h=>ih x (by
   have:=avLL_mem h
   simp [avL,avw] at hn
   omega) (hx x h)
  obtain ⟨ks,rfl,_⟩:=mapC_of (c:=st1) fun x h=>by
   obtain ⟨s,rfl,_⟩:=shp_string Tryz.underlying9 (hy x h)
   exact ⟨s,rfl⟩
  exact ⟨.mk a b c vs ks,by rw [valC_eq];rfl⟩
theorem vx_av (v:Val):wtV v+3≤avw (vx v):=by
 have:=valC_av v
 rw [valC_eq] at this
 exact this
theorem celC_av (c:Cel):wtV c.v+1≤avL (celC c):=by
 have h:=vx_av c.v
 simp only [vx,avw,avL,celC] at *
 omega
theorem dat_fit (d:Dat) (h:avw (dx d)≤1048576):d.Fit:=by
 simp only [dx,avw,avL] at h
 have hi:d.i.length≤avLL (mapC itC d.i):=mapC_len_le (fun x=>by simp [itC,avL,avw];omega) _
 have hw:d.w.length≤avLL (mapC wrC d.w):=mapC_len_le (fun x=>by simp [wrC,avL,avw];omega) _
 refine .mk d (by omega) (by omega) (fun x hx=>?_) fun x hx=>?_
 .have h1:=avLL_mem (zls (f:=itC) hx)
  have h1:avL (itC x)≤avLL (mapC itC d.i):=h1
  simp only [itC,avL,avw] at h1
  have h2:x.l.length≤avLL (mapC celC x.l):=mapC_len_le (fun x=>by have:=celC_av x;omega) _
  refine ⟨by omega,fun c hc=>wtV_fit _ ?_⟩
  have h3:avL (celC c)≤avLL (mapC celC x.l):=avLL_mem (zls (f:=celC) hc)
  have:=celC_av c
  omega
 .have h1:avL (wrC x)≤avLL (mapC wrC d.w):=avLL_mem (zls (f:=wrC) hx)
  have h2:=vx_av x.c.v
  refine wtV_fit _ ?_
  simp only [wrC,vx,avw,avL] at h1 h2
  omega
end Go.Proofs.YthiifoleopdieaaGreatDoor
