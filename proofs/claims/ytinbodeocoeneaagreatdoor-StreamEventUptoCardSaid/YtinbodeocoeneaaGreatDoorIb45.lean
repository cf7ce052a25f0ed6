/- Proof. Conditions: none. -/
import Derived.Test.YtinbodeocoeneaaGreatDoorIb44
open Nat renaming reduceEqDiff→Za,reduceBEq→Zb,reduceAdd→Zc,reduceLeDiff→Zd,reduceLT→Ze,reduceMul→Zf,reduceSub→Zg
open Int renaming reduceEq→Zh,reduceLT→Zi,reduceLE→Zj,reduceToNat→Zk
open List renaming length_cons→zlc,length_append→zld,length_nil→zle,take_of_length_le→zlk,map_cons→zln,map_append→zlq,map_nil→zlu
open Nat renaming le_refl→zna,le_trans→znc
namespace Go.Proofs.YtinbodeocoeneaaGreatDoor
open Go.Eng
set_option linter.all false
set_option maxRecDepth 20000
set_option maxHeartbeats 4000000 in
theorem rRun_found (s:Sup) (hs:SOk s) (d:Dat) {B:Nat} (hd:DOk d B) (p:Pln) (hl:p.l.length≤1048576) (hpo:∀x∈p.l,x.Ok) (hB:p.k=2→B+p.l.length*d.w.length≤100000000000) (hI0:0≤itemI d (rootS p.k)) (hp:CH) (m:Nat) :
  MeetsF Tryz.prog 40 hp m [supx s,dx d,plx p] (.tp [vx (runV s d p).1,dx (runV s d p).2]):=by
 have hRt:=rRoot_ok' p.k
 have hCl:=rCloneF_ok d hd.f.f hd.f.w
 rw [runV]
 obtain ⟨mu,hmu⟩:∃mu,decide (p.k=2)=mu:=⟨_,rfl⟩
 have hB:mu=true→B+p.l.length*d.w.length≤100000000000:=fun h=>hB (by rw [←hmu] at h;simpa using h)
 obtain ⟨root,hroot⟩:∃root,rootS p.k=root:=⟨_,rfl⟩
 rw [hroot] at hRt hI0 ⊢
 rw [hmu]
 have hinv:=runL_inv s mu root d p.l hd hB
 have hlen:=runL_len s mu root d p.l
 have hstep:=fun j x (h:p.l[j]?=some x)=>runL_step (s:=s) (mu:=mu) (root:=root) (d:=d) h
 obtain ⟨RF,hRF⟩:∃RF,runL s mu root d p.l=RF:=⟨_,rfl⟩
 rw [hRF]
 have hIt:=rRoot_ok d hd.f.f root
 change ∀hp m,MeetsF Tryz.prog 36 hp m [dx d,.s root] (resI (itemI d root)) at hIt
 rw [resI,if_pos hI0,decide_eq_true hI0] at hIt
 obtain ⟨I,hI⟩:∃I,itemI d root=I:=⟨_,rfl⟩
 rw [hI] at hIt hI0
 refine meetsF Tryz.func40 (by kernel_rfl) cc40 cr40 rfl fun hf=>?_;unfold ck40
 simp (disch:=omega) only [ite_ne,go_sem,↓reduceIte,Za,Zb,Zc,Zd,Ze,reduceCtorEq,Zf,Zg,Zh,Zi,Zj,Zk]
 refine vcCall.f (hRt _ _) ?_
 simp (disch:=omega) only [ite_ne,go_sem,↓reduceIte,Za,Zb,Zc,Zd,Ze,reduceCtorEq,Zf,Zg,Zh,Zi,Zj,Zk]
 refine vcCall.f (hCl _ _) ?_
 simp (disch:=omega) only [ite_ne,go_sem,↓reduceIte,Za,Zb,Zc,Zd,Ze,reduceCtorEq,Zf,Zg,Zh,Zi,Zj,Zk]
 refine vcCall.f (hIt _ _) ?_
 simp (disch:=omega) only [ite_ne,go_sem,↓reduceIte,Za,Zb,Zc,Zd,Ze,reduceCtorEq,Zf,Zg,Zh,Zi,Zj,Zk]
 refine vcCall.f (text_ok _ _ _) ?_
 simp (disch:=omega) only [ite_ne,go_sem,↓reduceIte,Za,Zb,Zc,Zd,Ze,reduceCtorEq,Zf,Zg,Zh,Zi,Zj,Zk]
 refine loop (fun q:Nat × List (ByteArray × Val) × Dat × Nat=>⟨[(3,.bx m 0),(4,.bx (m+1) 0),(5,.bx (m+2) 0),(6,.bx (m+3) 0),(7,.bx (m+4) 0),(8,.s root),(9,.i .i64 I),(10,.b true),(11,.bx (m+7) 0),(12,.i .i64 q.1)],
   (m,.bx [.ds (stC s.g),.ds (mapC dfC s.doc),.ds (mapC kyC s.keys),.ds (mapC jnC s.joins)])::(m+1,.bx [.ds (mapC itC q.2.2.1.i),.ds (mapC wrC q.2.2.1.w)])::(m+2,.bx [.i .i64 p.k,.ds (mapC pkC p.l)])::(m+3,.bx [.i .i64 0,.i .i64 0,.s ⟨#[]⟩,.e0,.e0])::(m+4,.bx [.e0,.e0]) ::
   (m+7,.bx [.i .i64 6,.i .i64 0,.s ⟨#[]⟩,.rw (m+6) q.2.1.length (q.2.1.length+1),.rw (m+5) q.2.1.length (q.2.1.length+1)])::(m+6,.rw q.2.1.length 5 (mapC valC (txV root::q.2.1.map (·.2))))::(m+5,.rw q.2.1.length 1 (stC (⟨#[95,95,116]⟩::q.2.1.map (·.1))))::hp,q.2.2.2⟩)
  (fun q=>q.1≤p.l.length∧m+8≤q.2.2.2∧(q.2.1,q.2.2.1)=runL s mu root d (p.l.take q.1)) (fun q=>p.l.length - q.1) (0,[],d,m+8) ?_ ?_ (fun ⟨j,F,D,n⟩ hj=>?_)
 .exact ⟨by simp,by simp,by dsimp only;rw [List.take_zero];rfl⟩
 .refine weak_ok ?_ (Sub.cons ?_ (Sub.cons ?_ (Sub.cons ?_ (Sub.cons ?_ (Sub.cons ?_ (Sub.cons ?_ (Sub.cons ?_ (Sub.cons ?_ (Sub.base hf ?_))))))))) (zna _)
  all_goals (simp (disch:=omega) only [ite_ne,go_sem,↓reduceIte,Za,Zb,Zc,Zd,Ze,reduceCtorEq,Zf,Zg,Zh,Zi,Zj,Zk])
  all_goals rfl
 dsimp only at hj
 obtain ⟨hj1,hj2,hj3⟩:=hj
 have hmn:m≤n:=by omega
 have hFl:F.length≤j:=by have:=hlen j;rw [←hj3] at this;exact this
 have hV:=hinv j hj1
 rw [←hj3] at hV
 obtain ⟨hI1,hI2,hI3⟩:=hV
 dsimp only at hI1 hI2 hI3
 have hl1:(F.map (·.2)).length=F.length:=by simp
 have hl2:(F.map (·.1)).length=F.length:=by simp
 simp (disch:=omega) only [ite_ne,go_sem,↓reduceIte,Za,Zb,Zc,Zd,Ze,reduceCtorEq,Zf,Zg,Zh,Zi,Zj,Zk]
 refine cdK_of (fun q=>?_) (fun q=>?_)
 .have q:j<p.l.length:=by simpa using q
  obtain ⟨x,ex⟩:∃x,p.l[j]?=some x:=⟨p.l[j],by simp [q]⟩
  have hxo:=hpo x (List.mem_of_getElem? ex)
  have hst:=hstep j x ex
  rw [←hj3,runS] at hst
  have k1:(F.length+1+1)*80≤140737488355328:=by omega
  have k2:(F.length+1+1)*16≤140737488355328:=by omega
  have k3:F.length+1+1≤9223372036854775807:=by omega
  have k4:p.l.length - (j+1)<p.l.length - j:=by omega
  simp (disch:=omega) only [ite_ne,q,getK_s (mapC_get pkC ex),hmn,go_sem,↓reduceIte,Za,Zb,Zc,Zd,Ze,reduceCtorEq,Zf,Zg,Zh,Zi,Zj,Zk]
  refine cdK_of (fun c=>?_) (fun c=>?_)
  .have c:¬x.on=root:=by simpa using c
   rw [if_neg c] at hst
   simp (disch:=omega) only [ite_ne,hmn,go_sem,↓reduceIte,Za,Zb,Zc,Zd,Ze,reduceCtorEq,Zf,Zg,Zh,Zi,Zj,Zk]
   refine ⟨(j+1,F,D,_),⟨by dsimp only;omega,by dsimp only;omega,hst.symm⟩,k4,weak_ok ?_ (Sub.cons ?_ (Sub.cons ?_ (Sub.cons ?_ (Sub.cons ?_ (Sub.cons ?_ (Sub.cons ?_ (Sub.cons ?_ (Sub.cons ?_ (Sub.base hf ?_))))))))) (zna _)⟩
   all_goals
    simp (disch:=omega) only [ite_ne,wr64s j (by omega),hmn,go_sem,↓reduceIte,Za,Zb,Zc,Zd,Ze,reduceCtorEq,Zf,Zg,Zh,Zi,Zj,Zk]
  .have hon:x.on=root:=by simpa using c
   rw [if_pos hon] at hst
   dsimp only at hst
   have hTx:=rText_ok x.args (fun a h=>(hxo.a.v a h).ok) (znc hxo.a.b (by omega)) (znc hxo.a.n (by omega))
   have hD'0:=rootD_dok (s:=s) (mu:=mu) (root:=root) (x:=x) hI3 (fun hm=>by
    rw [if_pos hm,hI1]
    have:(j+1)*d.w.length≤p.l.length*d.w.length:=Nat.mul_le_mul_right _ q
    rw [Nat.add_mul,Nat.one_mul] at this
    have:=hB hm
    omega)
   have hDI:itemI (rootD s mu root D x) root=I:=by rw [rootD_item,hI2,hI]
   have hDr:rootD s mu root D x=if (mu&&!decide (x.name=⟨#[95,95,116,121,112,101,110,97,109,101]⟩))=true then appV D x.name (ofL (argT s D I x)) else D:=by
    unfold rootD rootT
    rw [hI2,hI,if_pos hI0]
    rfl
   have hAr:=rArgs_ok s hs D hI3 I x hxo.a
   have hAp:=rApply_ok D hI3.f x.name (ofL (argT s D I x))
   obtain ⟨T,hT⟩:∃T,ofL (argT s D I x)=T:=⟨_,rfl⟩
   rw [hT] at hAr hAp hDr
   simp (disch:=omega) only [ite_ne,hmn,hmu,go_sem,↓reduceIte,Za,Zb,Zc,Zd,Ze,reduceCtorEq,Zf,Zg,Zh,Zi,Zj,Zk]
   refine cdK_of (fun c3=>?_) (fun c3=>?_)
   .rw [if_pos c3] at hDr
    rw [hDr] at hst hD'0 hDI
    obtain ⟨D',hD'e⟩:∃D',appV D x.name T=D':=⟨_,rfl⟩
    rw [hD'e] at hst hD'0 hDI hAp
    have hRd:=rpick_ok s hs D' hD'0 x hxo I (by rw [←hDI];exact (itemI_ex (by rw [hDI];exact hI0)).1)
    have hP:rootP s root D' x=pickV s D' x I:=by rw [rootP,hDI,if_pos hI0]
    obtain ⟨P,hPe⟩:∃P,pickV s D' x I=P:=⟨_,rfl⟩
    rw [hPe] at hRd hP
    rw [hP] at hst
    simp (disch:=omega) only [ite_ne,hmn,go_sem,↓reduceIte,Za,Zb,Zc,Zd,Ze,reduceCtorEq,Zf,Zg,Zh,Zi,Zj,Zk]
    refine vcCall.f (hTx _ _) ?_
    simp (disch:=omega) only [ite_ne,hmn,go_sem,↓reduceIte,Za,Zb,Zc,Zd,Ze,reduceCtorEq,Zf,Zg,Zh,Zi,Zj,Zk]
    refine vcCall.f (hAr _ _) ?_
    simp (disch:=omega) only [ite_ne,hmn,go_sem,↓reduceIte,Za,Zb,Zc,Zd,Ze,reduceCtorEq,Zf,Zg,Zh,Zi,Zj,Zk]
    refine vcCall.f (hAp _ _) ?_
    simp (disch:=omega) only [ite_ne,hmn,go_sem,↓reduceIte,Za,Zb,Zc,Zd,Ze,reduceCtorEq,Zf,Zg,Zh,Zi,Zj,Zk]
    refine vcCall.f (hRd _ _) ?_
    simp (disch:=omega) only [ite_ne,hl1,hl2,k1,k2,k3,hmn,go_sem,↓reduceIte,Za,Zb,Zc,Zd,Ze,reduceCtorEq,Zf,Zg,Zh,Zi,Zj,Zk]
    refine ⟨(j+1,F++[(x.key,P)],D',_),⟨by dsimp only;omega,by dsimp only;omega,hst.symm⟩,k4,weak_ok ?_ (Sub.cons ?_ (Sub.cons ?_ (Sub.cons ?_ (Sub.cons ?_ (Sub.cons ?_ (Sub.cons ?_ (Sub.cons ?_ (Sub.cons ?_ (Sub.base hf ?_))))))))) (zna _)⟩
    all_goals
     simp (disch:=omega) only [ite_ne,wr64s j (by omega),hmn,zld,zlc,zle,zlq,zln,zlu,go_sem,↓reduceIte,Za,Zb,Zc,Zd,Ze,reduceCtorEq,Zf,Zg,Zh,Zi,Zj,Zk]
   .rw [if_neg (by rw [c3];simp)] at hDr
    rw [hDr] at hst hD'0 hDI
    obtain ⟨D',hD'e⟩:∃D',D=D':=⟨_,rfl⟩
    rw [hD'e] at hst hD'0 hDI
    rw [hD'e]
    have hRd:=rpick_ok s hs D' hD'0 x hxo I (by rw [←hDI];exact (itemI_ex (by rw [hDI];exact hI0)).1)
    have hP:rootP s root D' x=pickV s D' x I:=by rw [rootP,hDI,if_pos hI0]
    obtain ⟨P,hPe⟩:∃P,pickV s D' x I=P:=⟨_,rfl⟩
    rw [hPe] at hRd hP
    rw [hP] at hst
    simp (disch:=omega) only [ite_ne,hmn,go_sem,↓reduceIte,Za,Zb,Zc,Zd,Ze,reduceCtorEq,Zf,Zg,Zh,Zi,Zj,Zk]
    refine vcCall.f (hRd _ _) ?_
    simp (disch:=omega) only [ite_ne,hl1,hl2,k1,k2,k3,hmn,go_sem,↓reduceIte,Za,Zb,Zc,Zd,Ze,reduceCtorEq,Zf,Zg,Zh,Zi,Zj,Zk]
    refine ⟨(j+1,F++[(x.key,P)],D',_),⟨by dsimp only;omega,by dsimp only;omega,hst.symm⟩,k4,weak_ok ?_ (Sub.cons ?_ (Sub.cons ?_ (Sub.cons ?_ (Sub.cons ?_ (Sub.cons ?_ (Sub.cons ?_ (Sub.cons ?_ (Sub.cons ?_ (Sub.base hf ?_))))))))) (zna _)⟩
    all_goals
     simp (disch:=omega) only [ite_ne,wr64s j (by omega),hmn,zld,zlc,zle,zlq,zln,zlu,go_sem,↓reduceIte,Za,Zb,Zc,Zd,Ze,reduceCtorEq,Zf,Zg,Zh,Zi,Zj,Zk]
 .have q:j=p.l.length:=by simp at q;omega
  subst q
  rw [List.take_length,hRF] at hj3
  subst hj3
  have hl3:(F.map (·.2)).take F.length=F.map (·.2):=zlk (by omega)
  have hl4:(F.map (·.1)).take F.length=F.map (·.1):=zlk (by omega)
  simp (disch:=omega) only [ite_ne,hl1,hl2,hl3,hl4,zna,hmn,go_sem,↓reduceIte,Za,Zb,Zc,Zd,Ze,reduceCtorEq,Zf,Zg,Zh,Zi,Zj,Zk]
  try rfl
theorem snoc_zr (l:List Val):mapC valC l++[[AV.i .i64 0,.i .i64 0,.s ⟨#[]⟩,.ds [],.ds []]]=mapC valC (l++[zVal]):=mapC_snoc valC l zVal
set_option maxHeartbeats 4000000 in
theorem rRun_none (s:Sup) (hs:SOk s) (d:Dat) {B:Nat} (hd:DOk d B) (p:Pln) (hl:p.l.length≤1048576) (hpo:∀x∈p.l,x.Ok) (hB:p.k=2→B+p.l.length*d.w.length≤100000000000) (hI0:¬0≤itemI d (rootS p.k)) (hp:CH) (m:Nat) :
  MeetsF Tryz.prog 40 hp m [supx s,dx d,plx p] (.tp [vx (runV s d p).1,dx (runV s d p).2]):=by
 have hRt:=rRoot_ok' p.k
 have hCl:=rCloneF_ok d hd.f.f hd.f.w
 rw [runV]
 obtain ⟨mu,hmu⟩:∃mu,decide (p.k=2)=mu:=⟨_,rfl⟩
 have hB:mu=true→B+p.l.length*d.w.length≤100000000000:=fun h=>hB (by rw [←hmu] at h;simpa using h)
 obtain ⟨root,hroot⟩:∃root,rootS p.k=root:=⟨_,rfl⟩
 rw [hroot] at hRt hI0 ⊢
 rw [hmu]
 have hinv:=runL_inv s mu root d p.l hd hB
 have hlen:=runL_len s mu root d p.l
 have hstep:=fun j x (h:p.l[j]?=some x)=>runL_step (s:=s) (mu:=mu) (root:=root) (d:=d) h
 obtain ⟨RF,hRF⟩:∃RF,runL s mu root d p.l=RF:=⟨_,rfl⟩
 rw [hRF]
 have hIt:=rRoot_ok d hd.f.f root
 change ∀hp m,MeetsF Tryz.prog 36 hp m [dx d,.s root] (resI (itemI d root)) at hIt
 rw [resI,if_neg hI0,decide_eq_false hI0] at hIt
 obtain ⟨I,hI⟩:∃I,itemI d root=I:=⟨_,rfl⟩
 rw [hI] at hI0
 refine meetsF Tryz.func40 (by kernel_rfl) cc40 cr40 rfl fun hf=>?_;unfold ck40
 simp (disch:=omega) only [ite_ne,go_sem,↓reduceIte,Za,Zb,Zc,Zd,Ze,reduceCtorEq,Zf,Zg,Zh,Zi,Zj,Zk]
 refine vcCall.f (hRt _ _) ?_
 simp (disch:=omega) only [ite_ne,go_sem,↓reduceIte,Za,Zb,Zc,Zd,Ze,reduceCtorEq,Zf,Zg,Zh,Zi,Zj,Zk]
 refine vcCall.f (hCl _ _) ?_
 simp (disch:=omega) only [ite_ne,go_sem,↓reduceIte,Za,Zb,Zc,Zd,Ze,reduceCtorEq,Zf,Zg,Zh,Zi,Zj,Zk]
 refine vcCall.f (hIt _ _) ?_
 simp (disch:=omega) only [ite_ne,go_sem,↓reduceIte,Za,Zb,Zc,Zd,Ze,reduceCtorEq,Zf,Zg,Zh,Zi,Zj,Zk]
 refine vcCall.f (text_ok _ _ _) ?_
 simp (disch:=omega) only [ite_ne,go_sem,↓reduceIte,Za,Zb,Zc,Zd,Ze,reduceCtorEq,Zf,Zg,Zh,Zi,Zj,Zk]
 refine loop (fun q:Nat × List (ByteArray × Val) × Dat × Nat=>⟨[(3,.bx m 0),(4,.bx (m+1) 0),(5,.bx (m+2) 0),(6,.bx (m+3) 0),(7,.bx (m+4) 0),(8,.s root),(9,.i .i64 0),(10,.b false),(11,.bx (m+7) 0),(12,.i .i64 q.1)],
   (m,.bx [.ds (stC s.g),.ds (mapC dfC s.doc),.ds (mapC kyC s.keys),.ds (mapC jnC s.joins)])::(m+1,.bx [.ds (mapC itC q.2.2.1.i),.ds (mapC wrC q.2.2.1.w)])::(m+2,.bx [.i .i64 p.k,.ds (mapC pkC p.l)])::(m+3,.bx [.i .i64 0,.i .i64 0,.s ⟨#[]⟩,.e0,.e0])::(m+4,.bx [.e0,.e0]) ::
   (m+7,.bx [.i .i64 6,.i .i64 0,.s ⟨#[]⟩,.rw (m+6) q.2.1.length (q.2.1.length+1),.rw (m+5) q.2.1.length (q.2.1.length+1)])::(m+6,.rw q.2.1.length 5 (mapC valC (txV root::q.2.1.map (·.2))))::(m+5,.rw q.2.1.length 1 (stC (⟨#[95,95,116]⟩::q.2.1.map (·.1))))::hp,q.2.2.2⟩)
  (fun q=>q.1≤p.l.length∧m+8≤q.2.2.2∧(q.2.1,q.2.2.1)=runL s mu root d (p.l.take q.1)) (fun q=>p.l.length - q.1) (0,[],d,m+8) ?_ ?_ (fun ⟨j,F,D,n⟩ hj=>?_)
 .exact ⟨by simp,by simp,by dsimp only;rw [List.take_zero];rfl⟩
 .refine weak_ok ?_ (Sub.cons ?_ (Sub.cons ?_ (Sub.cons ?_ (Sub.cons ?_ (Sub.cons ?_ (Sub.cons ?_ (Sub.cons ?_ (Sub.cons ?_ (Sub.base hf ?_))))))))) (zna _)
  all_goals (simp (disch:=omega) only [ite_ne,go_sem,↓reduceIte,Za,Zb,Zc,Zd,Ze,reduceCtorEq,Zf,Zg,Zh,Zi,Zj,Zk])
  all_goals rfl
 dsimp only at hj
 obtain ⟨hj1,hj2,hj3⟩:=hj
 have hmn:m≤n:=by omega
 have hFl:F.length≤j:=by have:=hlen j;rw [←hj3] at this;exact this
 have hV:=hinv j hj1
 rw [←hj3] at hV
 obtain ⟨hI1,hI2,hI3⟩:=hV
 dsimp only at hI1 hI2 hI3
 have hl1:(F.map (·.2)).length=F.length:=by simp
 have hl2:(F.map (·.1)).length=F.length:=by simp
 simp (disch:=omega) only [ite_ne,go_sem,↓reduceIte,Za,Zb,Zc,Zd,Ze,reduceCtorEq,Zf,Zg,Zh,Zi,Zj,Zk]
 refine cdK_of (fun q=>?_) (fun q=>?_)
 .have q:j<p.l.length:=by simpa using q
  obtain ⟨x,ex⟩:∃x,p.l[j]?=some x:=⟨p.l[j],by simp [q]⟩
  have hxo:=hpo x (List.mem_of_getElem? ex)
  have hst:=hstep j x ex
  rw [←hj3,runS] at hst
  have k1:(F.length+1+1)*80≤140737488355328:=by omega
  have k2:(F.length+1+1)*16≤140737488355328:=by omega
  have k3:F.length+1+1≤9223372036854775807:=by omega
  have k4:p.l.length - (j+1)<p.l.length - j:=by omega
  simp (disch:=omega) only [ite_ne,q,getK_s (mapC_get pkC ex),hmn,go_sem,↓reduceIte,Za,Zb,Zc,Zd,Ze,reduceCtorEq,Zf,Zg,Zh,Zi,Zj,Zk]
  refine cdK_of (fun c=>?_) (fun c=>?_)
  .have c:¬x.on=root:=by simpa using c
   rw [if_neg c] at hst
   simp (disch:=omega) only [ite_ne,hmn,go_sem,↓reduceIte,Za,Zb,Zc,Zd,Ze,reduceCtorEq,Zf,Zg,Zh,Zi,Zj,Zk]
   refine ⟨(j+1,F,D,_),⟨by dsimp only;omega,by dsimp only;omega,hst.symm⟩,k4,weak_ok ?_ (Sub.cons ?_ (Sub.cons ?_ (Sub.cons ?_ (Sub.cons ?_ (Sub.cons ?_ (Sub.cons ?_ (Sub.cons ?_ (Sub.cons ?_ (Sub.base hf ?_))))))))) (zna _)⟩
   all_goals
    simp (disch:=omega) only [ite_ne,wr64s j (by omega),hmn,go_sem,↓reduceIte,Za,Zb,Zc,Zd,Ze,reduceCtorEq,Zf,Zg,Zh,Zi,Zj,Zk]
  .have hon:x.on=root:=by simpa using c
   rw [if_pos hon] at hst
   dsimp only at hst
   have hTx:=rText_ok x.args (fun a h=>(hxo.a.v a h).ok) (znc hxo.a.b (by omega)) (znc hxo.a.n (by omega))
   have hD'0:=rootD_dok (s:=s) (mu:=mu) (root:=root) (x:=x) hI3 (fun hm=>by
    rw [if_pos hm,hI1]
    have:(j+1)*d.w.length≤p.l.length*d.w.length:=Nat.mul_le_mul_right _ q
    rw [Nat.add_mul,Nat.one_mul] at this
    have:=hB hm
    omega)
   have hDI:itemI (rootD s mu root D x) root=I:=by rw [rootD_item,hI2,hI]
   have hDr:rootD s mu root D x=if (mu&&!decide (x.name=⟨#[95,95,116,121,112,101,110,97,109,101]⟩))=true then appV D x.name (ofL (argsL x.args)) else D:=by
    unfold rootD rootT
    rw [hI2,hI,if_neg hI0]
    rfl
   have hAp:=rApply_ok D hI3.f x.name (ofL (argsL x.args))
   obtain ⟨T,hT⟩:∃T,ofL (argsL x.args)=T:=⟨_,rfl⟩
   rw [hT] at hTx hAp hDr
   simp (disch:=omega) only [ite_ne,hmn,hmu,go_sem,↓reduceIte,Za,Zb,Zc,Zd,Ze,reduceCtorEq,Zf,Zg,Zh,Zi,Zj,Zk]
   refine cdK_of (fun c3=>?_) (fun c3=>?_)
   .rw [if_pos c3] at hDr
    rw [hDr] at hst hD'0 hDI
    obtain ⟨D',hD'e⟩:∃D',appV D x.name T=D':=⟨_,rfl⟩
    rw [hD'e] at hst hD'0 hDI hAp
    have hnt:¬x.name=⟨#[95,95,116,121,112,101,110,97,109,101]⟩:=by simp at c3;exact c3.2
    have hP:rootP s root D' x=zVal:=by rw [rootP,hDI,if_neg hI0,if_neg (by unfold sTypename;exact hnt)]
    rw [hP] at hst
    simp (disch:=omega) only [ite_ne,hmn,go_sem,↓reduceIte,Za,Zb,Zc,Zd,Ze,reduceCtorEq,Zf,Zg,Zh,Zi,Zj,Zk]
    refine vcCall.f (hTx _ _) ?_
    simp (disch:=omega) only [ite_ne,hmn,go_sem,↓reduceIte,Za,Zb,Zc,Zd,Ze,reduceCtorEq,Zf,Zg,Zh,Zi,Zj,Zk]
    refine vcCall.f (hAp _ _) ?_
    simp (disch:=omega) only [ite_ne,hmn,go_sem,↓reduceIte,Za,Zb,Zc,Zd,Ze,reduceCtorEq,Zf,Zg,Zh,Zi,Zj,Zk]
    refine cdK_of (fun c5=>absurd (by simpa using c5) hnt) (fun c5=>?_)
    simp (disch:=omega) only [ite_ne,hl1,hl2,k1,k2,k3,hmn,go_sem,↓reduceIte,Za,Zb,Zc,Zd,Ze,reduceCtorEq,Zf,Zg,Zh,Zi,Zj,Zk]
    refine ⟨(j+1,F++[(x.key,zVal)],D',_),⟨by dsimp only;omega,by dsimp only;omega,hst.symm⟩,k4,weak_ok ?_ (Sub.cons ?_ (Sub.cons ?_ (Sub.cons ?_ (Sub.cons ?_ (Sub.cons ?_ (Sub.cons ?_ (Sub.cons ?_ (Sub.cons ?_ (Sub.base hf ?_))))))))) (zna _)⟩
    all_goals
     simp (disch:=omega) only [ite_ne,wr64s j (by omega),hmn,zld,zlc,zle,zlq,zln,zlu,snoc_zr,go_sem,↓reduceIte,Za,Zb,Zc,Zd,Ze,reduceCtorEq,Zf,Zg,Zh,Zi,Zj,Zk]
   .rw [if_neg (by rw [c3];simp)] at hDr
    rw [hDr] at hst hD'0 hDI
    obtain ⟨D',hD'e⟩:∃D',D=D':=⟨_,rfl⟩
    rw [hD'e] at hst hD'0 hDI
    rw [hD'e]
    simp (disch:=omega) only [ite_ne,hmn,go_sem,↓reduceIte,Za,Zb,Zc,Zd,Ze,reduceCtorEq,Zf,Zg,Zh,Zi,Zj,Zk]
    refine cdK_of (fun c5=>?_) (fun c5=>?_)
    .have hnt:x.name=⟨#[95,95,116,121,112,101,110,97,109,101]⟩:=by simpa using c5
     have hP:rootP s root D' x=txV root:=by rw [rootP,hDI,if_neg hI0,if_pos (by unfold sTypename;exact hnt)]
     rw [hP] at hst
     simp (disch:=omega) only [ite_ne,hmn,go_sem,↓reduceIte,Za,Zb,Zc,Zd,Ze,reduceCtorEq,Zf,Zg,Zh,Zi,Zj,Zk]
     refine vcCall.f (text_ok _ _ _) ?_
     simp (disch:=omega) only [ite_ne,hl1,hl2,k1,k2,k3,hmn,go_sem,↓reduceIte,Za,Zb,Zc,Zd,Ze,reduceCtorEq,Zf,Zg,Zh,Zi,Zj,Zk]
     refine ⟨(j+1,F++[(x.key,txV root)],D',_),⟨by dsimp only;omega,by dsimp only;omega,hst.symm⟩,k4,weak_ok ?_ (Sub.cons ?_ (Sub.cons ?_ (Sub.cons ?_ (Sub.cons ?_ (Sub.cons ?_ (Sub.cons ?_ (Sub.cons ?_ (Sub.cons ?_ (Sub.base hf ?_))))))))) (zna _)⟩
     all_goals
      simp (disch:=omega) only [ite_ne,wr64s j (by omega),hmn,zld,zlc,zle,zlq,zln,zlu,snoc_zr,go_sem,↓reduceIte,Za,Zb,Zc,Zd,Ze,reduceCtorEq,Zf,Zg,Zh,Zi,Zj,Zk]
    .have hnt:¬x.name=⟨#[95,95,116,121,112,101,110,97,109,101]⟩:=by simpa using c5
     have hP:rootP s root D' x=zVal:=by rw [rootP,hDI,if_neg hI0,if_neg (by unfold sTypename;exact hnt)]
     rw [hP] at hst
     simp (disch:=omega) only [ite_ne,hl1,hl2,k1,k2,k3,hmn,go_sem,↓reduceIte,Za,Zb,Zc,Zd,Ze,reduceCtorEq,Zf,Zg,Zh,Zi,Zj,Zk]
     refine ⟨(j+1,F++[(x.key,zVal)],D',_),⟨by dsimp only;omega,by dsimp only;omega,hst.symm⟩,k4,weak_ok ?_ (Sub.cons ?_ (Sub.cons ?_ (Sub.cons ?_ (Sub.cons ?_ (Sub.cons ?_ (Sub.cons ?_ (Sub.cons ?_ (Sub.cons ?_ (Sub.base hf ?_))))))))) (zna _)⟩
     all_goals
      simp (disch:=omega) only [ite_ne,wr64s j (by omega),hmn,zld,zlc,zle,zlq,zln,zlu,snoc_zr,go_sem,↓reduceIte,Za,Zb,Zc,Zd,Ze,reduceCtorEq,Zf,Zg,Zh,Zi,Zj,Zk]
 .have q:j=p.l.length:=by simp at q;omega
  subst q
  rw [List.take_length,hRF] at hj3
  subst hj3
  have hl3:(F.map (·.2)).take F.length=F.map (·.2):=zlk (by omega)
  have hl4:(F.map (·.1)).take F.length=F.map (·.1):=zlk (by omega)
  simp (disch:=omega) only [ite_ne,hl1,hl2,hl3,hl4,zna,hmn,go_sem,↓reduceIte,Za,Zb,Zc,Zd,Ze,reduceCtorEq,Zf,Zg,Zh,Zi,Zj,Zk]
  try rfl
theorem rRun_ok (s:Sup) (hs:SOk s) (d:Dat) {B:Nat} (hd:DOk d B) (p:Pln) (hl:p.l.length≤1048576) (hpo:∀x∈p.l,x.Ok) (hB:p.k=2→B+p.l.length*d.w.length≤100000000000) (hp:CH) (m:Nat) :
  MeetsF Tryz.prog 40 hp m [supx s,dx d,plx p] (.tp [vx (runV s d p).1,dx (runV s d p).2]):=by
 by_cases h:0≤itemI d (rootS p.k)
 .exact rRun_found s hs d hd p hl hpo hB h hp m
 .exact rRun_none s hs d hd p hl hpo hB h hp m
end Go.Proofs.YtinbodeocoeneaaGreatDoor
