/- Proof. Conditions: none. -/
import Derived.Test.YthiifoleopdieaaGreatDoorProg
import Derived.KernelRfl
import Derived.Test.YthiifoleopdieaaGreatDoorRows
import Derived.WalkKit
import Derived.Test.YthiifoleopdieaaGreatDoorIz51
open Nat renaming reduceEqDiff→Za,reduceBEq→Zb,reduceAdd→Zc,reduceLeDiff→Zd,reduceLT→Ze,reduceMul→Zf,reduceSub→Zg
open Int renaming reduceEq→Zh,reduceLT→Zi,reduceLE→Zj,reduceToNat→Zk
open List renaming length_cons→zlc,length_append→zld,length_nil→zle,map_cons→zln,map_append→zlq,mem_map_of_mem→zls
open Nat renaming le_refl→zna
namespace Go.Proofs.YthiifoleopdieaaGreatDoor
open Go.Eng
set_option linter.all false
set_option maxRecDepth 20000
theorem snoc_zr (l:List Val):mapC valC l++[[AV.i .i64 0,.i .i64 0,.s ⟨#[]⟩,.ds [],.ds []]]=mapC valC (l++[zVal]):=mapC_snoc valC l zVal
set_option maxHeartbeats 4000000 in
theorem rRun_none (s:Sup) (hs:SOk s) (d:Dat) {B:Nat} (hd:DOk d B) (p:Pln) (hl:p.l.length≤1048576) (hpo:∀x∈p.l,x.Ok) (hB:p.k=2→B+p.l.length*d.w.length≤100000000000) (hI0:¬0≤itemI d (rootS p.k)) (hp:CH) (m:Nat) :
  MeetsF Tryz.prog 18 hp m [supx s,dx d,plx p] (.tp [vx (runV s d p).1,dx (runV s d p).2]):=by
 have hRt:=rRoot_ok' p.k
 have hCl:=rCloneF_ok d hd.f.f hd.f.w
 rw [runV]
 obtain ⟨mu,hmu⟩:∃mu,decide (p.k=2)=mu:=⟨_,rfl⟩
 have hB:mu=true→B+p.l.length*d.w.length≤100000000000:=fun h=>hB (by rw [←hmu] at h;simpa using h)
 obtain ⟨root,hroot⟩:∃root,rootS p.k=root:=⟨_,rfl⟩
 rw [hroot] at hRt hI0 ⊢
 rw [hmu]
 have hinv:=runL_inv s mu root d p.l hd hB
 have hlen:=runL_len s mu root d p.l
 have hstep:=fun j x (h:p.l[j]?=some x)=>runL_step (s:=s) (mu:=mu) (root:=root) (d:=d) h
 obtain ⟨RF,hRF⟩:∃RF,runL s mu root d p.l=RF:=⟨_,rfl⟩
 rw [hRF]
 have hIt:=rRoot_ok d hd.f.f root
 change ∀hp m,MeetsF Tryz.prog 50 hp m [dx d,.s root] (resI (itemI d root)) at hIt
 rw [resI,if_neg hI0,decide_eq_false hI0] at hIt
 obtain ⟨I,hI⟩:∃I,itemI d root=I:=⟨_,rfl⟩
 rw [hI] at hI0
 refine meetsF Tryz.func18 (by kernel_rfl) cc18 cr18 rfl fun hf=>?_;unfold ck18
 simp (disch:=omega) only [ite_ne,go_sem,↓reduceIte,Za,Zb,Zc,Zd,Ze,reduceCtorEq,Zf,Zg,Zh,Zi,Zj,Zk]
 refine vcCall.f (hRt _ _) ?_
 simp (disch:=omega) only [ite_ne,go_sem,↓reduceIte,Za,Zb,Zc,Zd,Ze,reduceCtorEq,Zf,Zg,Zh,Zi,Zj,Zk]
 refine vcCall.f (hCl _ _) ?_
 simp (disch:=omega) only [ite_ne,go_sem,↓reduceIte,Za,Zb,Zc,Zd,Ze,reduceCtorEq,Zf,Zg,Zh,Zi,Zj,Zk]
 refine vcCall.f (hIt _ _) ?_
 simp (disch:=omega) only [ite_ne,go_sem,↓reduceIte,Za,Zb,Zc,Zd,Ze,reduceCtorEq,Zf,Zg,Zh,Zi,Zj,Zk]
 refine vcCall.f (text_ok _ _ _) ?_
 simp (disch:=omega) only [ite_ne,go_sem,↓reduceIte,Za,Zb,Zc,Zd,Ze,reduceCtorEq,Zf,Zg,Zh,Zi,Zj,Zk]
 refine loop (fun q:Nat × List (ByteArray × Val) × Dat × Nat=>⟨[(3,.bx m 0),(4,.bx (m+1) 0),(5,.bx (m+2) 0),(6,.bx (m+3) 0),(7,.bx (m+4) 0),(8,.s root),(9,.i .i64 0),(10,.b false),(11,.bx (m+7) 0),(12,.i .i64 q.1)],
   (m,.bx [.ds (stC s.g),.ds (mapC dfC s.doc),.ds (mapC kyC s.keys),.ds (mapC jnC s.joins)])::(m+1,.bx [.ds (mapC itC q.2.2.1.i),.ds (mapC wrC q.2.2.1.w)])::(m+2,.bx [.i .i64 p.k,.ds (mapC pkC p.l)])::(m+3,.bx [.i .i64 0,.i .i64 0,.s ⟨#[]⟩,.e0,.e0])::(m+4,.bx [.e0,.e0]) ::
   (m+7,.bx [.i .i64 6,.i .i64 0,.s ⟨#[]⟩,.rw (m+6) q.2.1.length (q.2.1.length+1),.rw (m+5) q.2.1.length (q.2.1.length+1)])::(m+6,.rw q.2.1.length 5 (mapC valC (txV root::q.2.1.map (·.2))))::(m+5,.rw q.2.1.length 1 (stC (⟨#[95,95,116]⟩::q.2.1.map (·.1))))::hp,q.2.2.2⟩)
  (fun q=>q.1≤p.l.length∧m+8≤q.2.2.2∧(q.2.1,q.2.2.1)=runL s mu root d (p.l.take q.1)) (fun q=>p.l.length - q.1) (0,[],d,m+8) ?_ ?_ (fun ⟨j,F,D,n⟩ hj=>?_)
 .exact ⟨by simp,by simp,by dsimp only;rw [List.take_zero];rfl⟩
 .refine weak_ok ?_ (Sub.cons ?_ (Sub.cons ?_ (Sub.cons ?_ (Sub.cons ?_ (Sub.cons ?_ (Sub.cons ?_ (Sub.cons ?_ (Sub.cons ?_ (Sub.base hf ?_))))))))) (zna _)
  all_goals (simp (disch:=omega) only [ite_ne,go_sem,↓reduceIte,Za,Zb,Zc,Zd,Ze,reduceCtorEq,Zf,Zg,Zh,Zi,Zj,Zk])
  all_goals rfl
 dsimp only at hj
 obtain ⟨hj1,hj2,hj3⟩:=hj
 have hmn:m≤n:=by omega
 have hFl:F.length≤j:=by have:=hlen j;rw [←hj3] at this;exact this
 have hV:=hinv j hj1
 rw [←hj3] at hV
 obtain ⟨hI1,hI2,hI3⟩:=hV
 dsimp only at hI1 hI2 hI3
 have hl1:(F.map (·.2)).length=F.length:=by simp
 have hl2:(F.map (·.1)).length=F.length:=by simp
 simp (disch:=omega) only [ite_ne,go_sem,↓reduceIte,Za,Zb,Zc,Zd,Ze,reduceCtorEq,Zf,Zg,Zh,Zi,Zj,Zk]
 refine cdK_of (fun q=>?_) (fun q=>?_)
 .have q:j<p.l.length:=by simpa using q
  obtain ⟨x,ex⟩:∃x,p.l[j]?=some x:=⟨p.l[j],by simp [q]⟩
  have hxo:=hpo x (List.mem_of_getElem? ex)
  have hst:=hstep j x ex
  rw [←hj3,runS] at hst
  have k1:(F.length+1+1)*80≤140737488355328:=by omega
  have k2:(F.length+1+1)*16≤140737488355328:=by omega
  have k3:F.length+1+1≤9223372036854775807:=by omega
  have k4:p.l.length - (j+1)<p.l.length - j:=by omega
  simp (disch:=omega) only [ite_ne,q,getK_s (mapC_get pkC ex),hmn,go_sem,↓reduceIte,Za,Zb,Zc,Zd,Ze,reduceCtorEq,Zf,Zg,Zh,Zi,Zj,Zk]
  refine cdK_of (fun c=>?_) (fun c=>?_)
  .have c:¬x.on=root:=by simpa using c
   rw [if_neg c] at hst
   simp (disch:=omega) only [ite_ne,hmn,go_sem,↓reduceIte,Za,Zb,Zc,Zd,Ze,reduceCtorEq,Zf,Zg,Zh,Zi,Zj,Zk]
   refine ⟨(j+1,F,D,_),⟨by dsimp only;omega,by dsimp only;omega,hst.symm⟩,k4,weak_ok ?_ (Sub.cons ?_ (Sub.cons ?_ (Sub.cons ?_ (Sub.cons ?_ (Sub.cons ?_ (Sub.cons ?_ (Sub.cons ?_ (Sub.cons ?_ (Sub.base hf ?_))))))))) (zna _)⟩
   all_goals
    simp (disch:=omega) only [ite_ne,wr64s j (by omega),hmn,go_sem,↓reduceIte,Za,Zb,Zc,Zd,Ze,reduceCtorEq,Zf,Zg,Zh,Zi,Zj,Zk]
  .have hon:x.on=root:=by simpa using c
   rw [if_pos hon] at hst
   dsimp only at hst
   have hTx:=rText_ok x.args (fun a h=>(hxo.a.v a h).ok) (Nat.le_trans hxo.a.b (by omega)) (Nat.le_trans hxo.a.n (by omega))
   have hD'0:=rootD_dok (s:=s) (mu:=mu) (root:=root) (x:=x) hI3 (fun hm=>by
    rw [if_pos hm,hI1]
    have:(j+1)*d.w.length≤p.l.length*d.w.length:=Nat.mul_le_mul_right _ q
    rw [Nat.add_mul,Nat.one_mul] at this
    have:=hB hm
    omega)
   have hDI:itemI (rootD s mu root D x) root=I:=by rw [rootD_item,hI2,hI]
   have hDr:rootD s mu root D x=if (mu&&!decide (x.name=⟨#[95,95,116,121,112,101,110,97,109,101]⟩))=true then appV D x.name (ofL (argsL x.args)) else D:=by
    unfold rootD rootT
    rw [hI2,hI,if_neg hI0]
    rfl
   have hAp:=rApply_ok D hI3.f x.name (ofL (argsL x.args))
   obtain ⟨T,hT⟩:∃T,ofL (argsL x.args)=T:=⟨_,rfl⟩
   rw [hT] at hTx hAp hDr
   simp (disch:=omega) only [ite_ne,hmn,hmu,go_sem,↓reduceIte,Za,Zb,Zc,Zd,Ze,reduceCtorEq,Zf,Zg,Zh,Zi,Zj,Zk]
   refine cdK_of (fun c3=>?_) (fun c3=>?_)
   .rw [if_pos c3] at hDr
    rw [hDr] at hst hD'0 hDI
    obtain ⟨D',hD'e⟩:∃D',appV D x.name T=D':=⟨_,rfl⟩
    rw [hD'e] at hst hD'0 hDI hAp
    have hnt:¬x.name=⟨#[95,95,116,121,112,101,110,97,109,101]⟩:=by simp at c3;exact c3.2
    have hP:rootP s root D' x=zVal:=by rw [rootP,hDI,if_neg hI0,if_neg (by unfold sTypename;exact hnt)]
    rw [hP] at hst
    simp (disch:=omega) only [ite_ne,hmn,go_sem,↓reduceIte,Za,Zb,Zc,Zd,Ze,reduceCtorEq,Zf,Zg,Zh,Zi,Zj,Zk]
    refine vcCall.f (hTx _ _) ?_
    simp (disch:=omega) only [ite_ne,hmn,go_sem,↓reduceIte,Za,Zb,Zc,Zd,Ze,reduceCtorEq,Zf,Zg,Zh,Zi,Zj,Zk]
    refine vcCall.f (hAp _ _) ?_
    simp (disch:=omega) only [ite_ne,hmn,go_sem,↓reduceIte,Za,Zb,Zc,Zd,Ze,reduceCtorEq,Zf,Zg,Zh,Zi,Zj,Zk]
    refine cdK_of (fun c5=>absurd (by simpa using c5) hnt) (fun c5=>?_)
    simp (disch:=omega) only [ite_ne,hl1,hl2,k1,k2,k3,hmn,go_sem,↓reduceIte,Za,Zb,Zc,Zd,Ze,reduceCtorEq,Zf,Zg,Zh,Zi,Zj,Zk]
    refine ⟨(j+1,F++[(x.key,zVal)],D',_),⟨by dsimp only;omega,by dsimp only;omega,hst.symm⟩,k4,weak_ok ?_ (Sub.cons ?_ (Sub.cons ?_ (Sub.cons ?_ (Sub.cons ?_ (Sub.cons ?_ (Sub.cons ?_ (Sub.cons ?_ (Sub.cons ?_ (Sub.base hf ?_))))))))) (zna _)⟩
    all_goals
     simp (disch:=omega) only [ite_ne,wr64s j (by omega),hmn,zld,zlc,zle,zlq,zln,List.map_nil,snoc_zr,go_sem,↓reduceIte,Za,Zb,Zc,Zd,Ze,reduceCtorEq,Zf,Zg,Zh,Zi,Zj,Zk]
   .rw [if_neg (by rw [c3];simp)] at hDr
    rw [hDr] at hst hD'0 hDI
    obtain ⟨D',hD'e⟩:∃D',D=D':=⟨_,rfl⟩
    rw [hD'e] at hst hD'0 hDI
    rw [hD'e]
    simp (disch:=omega) only [ite_ne,hmn,go_sem,↓reduceIte,Za,Zb,Zc,Zd,Ze,reduceCtorEq,Zf,Zg,Zh,Zi,Zj,Zk]
    refine cdK_of (fun c5=>?_) (fun c5=>?_)
    .have hnt:x.name=⟨#[95,95,116,121,112,101,110,97,109,101]⟩:=by simpa using c5
     have hP:rootP s root D' x=txV root:=by rw [rootP,hDI,if_neg hI0,if_pos (by unfold sTypename;exact hnt)]
     rw [hP] at hst
     simp (disch:=omega) only [ite_ne,hmn,go_sem,↓reduceIte,Za,Zb,Zc,Zd,Ze,reduceCtorEq,Zf,Zg,Zh,Zi,Zj,Zk]
     refine vcCall.f (text_ok _ _ _) ?_
     simp (disch:=omega) only [ite_ne,hl1,hl2,k1,k2,k3,hmn,go_sem,↓reduceIte,Za,Zb,Zc,Zd,Ze,reduceCtorEq,Zf,Zg,Zh,Zi,Zj,Zk]
     refine ⟨(j+1,F++[(x.key,txV root)],D',_),⟨by dsimp only;omega,by dsimp only;omega,hst.symm⟩,k4,weak_ok ?_ (Sub.cons ?_ (Sub.cons ?_ (Sub.cons ?_ (Sub.cons ?_ (Sub.cons ?_ (Sub.cons ?_ (Sub.cons ?_ (Sub.cons ?_ (Sub.base hf ?_))))))))) (zna _)⟩
     all_goals
      simp (disch:=omega) only [ite_ne,wr64s j (by omega),hmn,zld,zlc,zle,zlq,zln,List.map_nil,snoc_zr,go_sem,↓reduceIte,Za,Zb,Zc,Zd,Ze,reduceCtorEq,Zf,Zg,Zh,Zi,Zj,Zk]
    .have hnt:¬x.name=⟨#[95,95,116,121,112,101,110,97,109,101]⟩:=by simpa using c5
     have hP:rootP s root D' x=zVal:=by rw [rootP,hDI,if_neg hI0,if_neg (by unfold sTypename;exact hnt)]
     rw [hP] at hst
     simp (disch:=omega) only [ite_ne,hl1,hl2,k1,k2,k3,hmn,go_sem,↓reduceIte,Za,Zb,Zc,Zd,Ze,reduceCtorEq,Zf,Zg,Zh,Zi,Zj,Zk]
     refine ⟨(j+1,F++[(x.key,zVal)],D',_),⟨by dsimp only;omega,by dsimp only;omega,hst.symm⟩,k4,weak_ok ?_ (Sub.cons ?_ (Sub.cons ?_ (Sub.cons ?_ (Sub.cons ?_ (Sub.cons ?_ (Sub.cons ?_ (Sub.cons ?_ (Sub.cons ?_ (Sub.base hf ?_))))))))) (zna _)⟩
     all_goals
      simp (disch:=omega) only [ite_ne,wr64s j (by omega),hmn,zld,zlc,zle,zlq,zln,List.map_nil,snoc_zr,go_sem,↓reduceIte,Za,Zb,Zc,Zd,Ze,reduceCtorEq,Zf,Zg,Zh,Zi,Zj,Zk]
 .have q:j=p.l.length:=by simp at q;omega
  subst q
  rw [List.take_length,hRF] at hj3
  subst hj3
  have hl3:(F.map (·.2)).take F.length=F.map (·.2):=List.take_of_length_le (by omega)
  have hl4:(F.map (·.1)).take F.length=F.map (·.1):=List.take_of_length_le (by omega)
  simp (disch:=omega) only [ite_ne,hl1,hl2,hl3,hl4,zna,hmn,go_sem,↓reduceIte,Za,Zb,Zc,Zd,Ze,reduceCtorEq,Zf,Zg,Zh,Zi,Zj,Zk]
  try rfl
theorem rRun_ok (s:Sup) (hs:SOk s) (d:Dat) {B:Nat} (hd:DOk d B) (p:Pln) (hl:p.l.length≤1048576) (hpo:∀x∈p.l,x.Ok) (hB:p.k=2→B+p.l.length*d.w.length≤100000000000) (hp:CH) (m:Nat) :
  MeetsF Tryz.prog 18 hp m [supx s,dx d,plx p] (.tp [vx (runV s d p).1,dx (runV s d p).2]):=by
 by_cases h:0≤itemI d (rootS p.k)
 .exact rRun_found s hs d hd p hl hpo hB h hp m
 .exact rRun_none s hs d hd p hl hpo hB h hp m
theorem rootP_fit {s:Sup} {d:Dat} {B:Nat} (hd:DOk d B) (root:ByteArray) (x:Pk) (hx:x.Ok):(rootP s root d x).Fit:=by
 unfold rootP
 split
 .exact pickV_fit hd x hx _
 .split
  .exact tx_fit _
  .exact zVal_fit
theorem runL_fit (s:Sup) (mu:Bool) (root:ByteArray) (d:Dat) (l:List Pk) {B:Nat} (hd:DOk d B) (hpo:∀x∈l,x.Ok) (h:mu=true→B+l.length*d.w.length≤100000000000):∀j,j≤l.length→∀y∈(runL s mu root d (l.take j)).1,y.2.Fit
 | 0,_=>by simp [runL]
 | j+1,hj=>by
  have hjl:j<l.length:=by omega
  have ex:=List.getElem?_eq_getElem hjl
  have ih:=runL_fit s mu root d l hd hpo h j (by omega)
  obtain ⟨h1,h2,h3⟩:=runL_inv s mu root d l hd h j (by omega)
  have hD:=rootD_dok (s:=s) (mu:=mu) (root:=root) (x:=l[j]) h3 (fun q=>by
   rw [if_pos q,h1]
   have hh:=h q
   have:(j+1)*d.w.length≤l.length*d.w.length:=Nat.mul_le_mul_right _ hj
   rw [Nat.add_mul,Nat.one_mul] at this
   omega)
  rw [runL_step ex]
  unfold runS
  split
  .intro y hy
   dsimp only at hy
   rcases List.mem_append.1 hy with hy | hy
   .exact ih y hy
   .rw [List.mem_singleton.1 hy]
    exact rootP_fit hD root _ (hpo _ (List.mem_of_getElem? ex))
  .exact ih
theorem runV_fit (s:Sup) (d:Dat) (p:Pln) {B:Nat} (hd:DOk d B) (hl:p.l.length≤1048576) (hpo:∀x∈p.l,x.Ok) (hB:p.k=2→B+p.l.length*d.w.length≤100000000000):(runV s d p).1.Fit:=by
 have hB':decide (p.k=2)=true→B+p.l.length*d.w.length≤100000000000:=fun h=>hB (by simpa using h)
 have h1:=runL_fit s (decide (p.k=2)) (rootS p.k) d p.l hd hpo hB' p.l.length (zna _)
 have h2:=runL_len s (decide (p.k=2)) (rootS p.k) d p.l p.l.length
 rw [List.take_length] at h1 h2
 exact objV_fit (by omega) h1
set_option maxRecDepth 100000
def ck924:CC:=(q_ [o_ 3 (.bo (.t 0)) [0,4,5,6,7],o_ 4 (.bo (.t 1)) [1],o_ 5 (.bo (.t 2)) [2],o_ 6 (.al [.i .i64 0,.i .i64 0,.s ⟨#[]⟩,.e0,.e0]) [],o_ 7 (.al [.e0,.e0]) []] (.sq (q_ [f_ 12 5 1 [],l_ 13 12 1 [12],o_ 14 (.ln false (.t 13)) [13],o_ 15 (.bin .eql 0 (.t 14) (.c (.i .i64 0))) [14]] (.cd (.t 15) (q_ [a_ 16 3 4 [3,15],a_ 17 4 2 [4],a_ 18 5 2 [5],o_ 19 (.cl 17 [.t 16,.t 17,.t 18]) [16,17,18],o_ 20 (.ex (.t 19) 0) [],o_ 21 (.ex (.t 19) 1) [19],n_ (.st (.t 6) (.t 20) 5) [20],n_ (.st (.t 7) (.t 21) 2) [21]] .rt) .skip)) (q_ [o_ 8 (.mv (.c .e0)) [15]] (.sqw (q_ [a_ 22 5 2 [5],o_ 23 (.cl 57 [.t 22]) [22],o_ 24 (.ln false (.t 23)) [],o_ 25 (.mv (.c (.i .i64 0))) []] (.bl 0 (.lp (q_ [o_ 26 (.bin .lss 0 (.t 25) (.t 24)) []] (.sq (.cd (.t 26) .skip (.ex 0)) (.sq (.bl 1 (q_ [o_ 27 (.ia (.t 23) (.t 25) 2) [26],a_ 28 27 2 [27],o_ 10 (.al [.i .i64 0,.e0]) [],n_ (.st (.t 10) (.t 28) 2) [28]] (q_ [o_ 11 (.al [.i .i64 0,.i .i64 0,.s ⟨#[]⟩,.e0,.e0]) []] (q_ [a_ 30 3 4 [],a_ 31 4 2 [],a_ 32 10 2 [10],o_ 33 (.cl 17 [.t 30,.t 31,.t 32]) [30,31,32],m_ 29 33 [33],o_ 34 (.ex (.t 29) 0) [],o_ 35 (.ex (.t 29) 1) [29],n_ (.st (.t 11) (.t 34) 5) [34],n_ (.st (.t 4) (.t 35) 2) [35]] (.rg [m_ 36 8 [8],a_ 37 11 5 [11],o_ 38 (.bs true 5 [.t 37]) [37],o_ 39 (.ap (.t 36) (.t 38) 5 80) [36,38],m_ 8 39 [39]]))))) (.rg [o_ 40 (.bin .add 0 (.t 25) (.c (.i .i64 1))) [25],m_ 25 40 [40]]))))))) (.sq (.dr [d_ 41 (.mv (.t 8)),⟨o_ 42 (.cl 54 [.t 41]) [],[],true,[]⟩,⟨a_ 43 4 2 [],[1],true,[]⟩,⟨n_ (.st (.t 6) (.t 42) 5) [],[2],false,[]⟩,⟨n_ (.st (.t 7) (.t 43) 2) [],[],false,[]⟩] [3,4,8,23,24,25,26,41,42,43]) .rt)))))
theorem cc924:(Tryz.f24.body.bind (ccode Tryz.prog 44))=some ck924.erase:=by kernel_rfl
theorem cr924:rsv Tryz.prog 44 Tryz.f24.results.toList=some [(.c 6 5 true),(.c 7 2 true)]:=by kernel_rfl
def ck925:CC:=(q_ [o_ 3 (.bo (.t 0)) [0,4,5,6,7],o_ 4 (.bo (.t 1)) [1],o_ 5 (.bo (.t 2)) [2],o_ 6 (.al [.i .i64 0,.i .i64 0,.s ⟨#[]⟩,.e0,.e0]) [],o_ 7 (.al [.e0,.e0]) []] (.sq (q_ [f_ 14 5 1 [],l_ 15 14 1 [14],o_ 16 (.ln false (.t 15)) [15],o_ 17 (.bin .eql 0 (.t 16) (.c (.i .i64 0))) [16]] (.cd (.t 17) (q_ [a_ 18 3 4 [3,17],a_ 19 4 2 [4],a_ 20 5 2 [5],o_ 21 (.cl 18 [.t 18,.t 19,.t 20]) [18,19,20],o_ 22 (.ex (.t 21) 0) [],o_ 23 (.ex (.t 21) 1) [21],n_ (.st (.t 6) (.t 22) 5) [22],n_ (.st (.t 7) (.t 23) 2) [23]] .rt) .skip)) (q_ [a_ 24 5 2 [5,17],o_ 25 (.cl 58 [.t 24]) [24],m_ 8 25 [25]] (q_ [o_ 9 (.mv (.c .e0)) []] (q_ [a_ 26 4 2 [4],o_ 27 (.cl 49 [.t 26]) [26],o_ 10 (.al [.e0,.e0]) [],n_ (.st (.t 10) (.t 27) 2) [27]] (.sqw (q_ [o_ 11 (.mv (.c (.i .i64 0))) []] (.bl 0 (.lp (.sq (q_ [m_ 28 11 [],m_ 29 8 [],o_ 30 (.ln false (.t 29)) [29],o_ 31 (.bin .lss 0 (.t 28) (.t 30)) [28,30]] (.cd (.t 31) .skip (.ex 0))) (.sq (.bl 1 (.sq (.dr [⟨a_ 35 3 4 [],[],true,[]⟩,⟨a_ 36 10 2 [],[],true,[]⟩,d_ 37 (.mv (.t 8)),d_ 38 (.mv (.t 11)),⟨o_ 39 (.ia (.t 37) (.t 38) 2) [],[],true,[]⟩,⟨a_ 40 39 2 [],[],true,[]⟩,⟨o_ 41 (.cl 18 [.t 35,.t 36,.t 40]) [],[],true,[]⟩,d_ 34 (.mv (.t 41)),d_ 42 (.ex (.t 34) 0),d_ 43 (.ex (.t 34) 1),⟨o_ 12 (.al [.i .i64 0,.i .i64 0,.s ⟨#[]⟩,.e0,.e0]) [],[0,1,4,5,6],true,[]⟩,⟨o_ 13 (.al [.e0,.e0]) [],[0,1,4,5,6,10],false,[]⟩,⟨n_ (.st (.t 12) (.t 42) 5) [],[],false,[]⟩,⟨n_ (.st (.t 13) (.t 43) 2) [],[],false,[]⟩] [31,34,35,36,37,38,39,40,41,42,43]) (q_ [m_ 44 9 [9],a_ 45 12 5 [12],o_ 46 (.bs true 5 [.t 45]) [45],o_ 47 (.ap (.t 44) (.t 46) 5 80) [44,46],m_ 9 47 [47]] (.rg [a_ 48 13 2 [13],n_ (.st (.t 10) (.t 48) 2) [48]])))) (.rg [m_ 32 11 [11],o_ 33 (.bin .add 0 (.t 32) (.c (.i .i64 1))) [32],m_ 11 33 [33]])))))) (.sq (.dr [d_ 49 (.mv (.t 9)),⟨o_ 50 (.cl 59 [.t 49]) [],[],true,[]⟩,⟨a_ 51 10 2 [],[1],true,[]⟩,⟨n_ (.st (.t 6) (.t 50) 5) [],[2],false,[]⟩,⟨n_ (.st (.t 7) (.t 51) 2) [],[],false,[]⟩] [3,8,9,10,11,31,49,50,51]) .rt)))))))
theorem cc925:(Tryz.f25.body.bind (ccode Tryz.prog 52))=some ck925.erase:=by kernel_rfl
theorem cr925:rsv Tryz.prog 52 Tryz.f25.results.toList=some [(.c 6 5 true),(.c 7 2 true)]:=by kernel_rfl
set_option maxRecDepth 20000
theorem jnS_len (O:List (ByteArray × Val)) (x:ByteArray × Val):(jnS O x).length≤O.length+1:=by
 unfold jnS
 split<;>simp
theorem jnS_mem {O:List (ByteArray × Val)} {x y:ByteArray × Val} (h:y∈jnS O x):y∈O∨y=x:=by
 unfold jnS at h
 split at h
 .exact .inl h
 .simpa using h
theorem jnF_len:∀(l O:List (ByteArray × Val)),(l.foldl jnS O).length≤O.length+l.length
 | [],O=>by simp
 | x::l,O=>by
  have h1:=jnF_len l (jnS O x)
  have h2:=jnS_len O x
  rw [List.foldl_cons,zlc]
  omega
theorem jnF_mem:∀{l O:List (ByteArray × Val)} {y:ByteArray × Val},y∈l.foldl jnS O→y∈O∨y∈l
 | [],O,y,h=>.inl h
 | x::l,O,y,h=>by
  rw [List.foldl_cons] at h
  rcases jnF_mem h with h | h
  .rcases jnS_mem h with h | rfl
   .exact .inl h
   .exact .inr (by simp)
  .exact .inr (by simp [h])
theorem jnA_len:∀(l:List Val) (O:List (ByteArray × Val)),(l.foldl jnV O).length≤O.length+szJ l
 | [],O=>by simp
 | v::l,O=>by
  have h1:=jnA_len l (jnV O v)
  have h2:(jnV O v).length≤O.length+v.items.length:=by
   unfold jnV
   split
   .have:=jnF_len (prsV v) O
    rw [prsV_len] at this
    omega
   .omega
  have h3:szJ (v::l)=v.items.length+szJ l:=by simp [szJ]
  rw [List.foldl_cons,h3]
  omega
theorem jnA_mem:∀{l:List Val} {O:List (ByteArray × Val)} {y:ByteArray × Val},y∈l.foldl jnV O→y∈O∨∃v∈l,y.2∈v.items
 | [],O,y,h=>.inl h
 | v::l,O,y,h=>by
  rw [List.foldl_cons] at h
  rcases jnA_mem h with h | ⟨w,hw,h⟩
  .unfold jnV at h
   split at h
   .rcases jnF_mem h with h | h
    .exact .inl h
    .exact .inr ⟨v,by simp,(List.of_mem_zip (show (y.1,y.2)∈v.keys.zip v.items from h)).2⟩
   .exact .inl h
  .exact .inr ⟨w,by simp [hw],h⟩
theorem join_fit {l:List Val} (hfv:∀v∈l,v.Fit) (hB:szJ l≤1000000000000):(joinV l).Fit:=by
 have h1:=jnA_len l []
 simp only [zle,Nat.zero_add] at h1
 refine .mk _ ?_ ?_ ?_
 .simp only [joinV,Val.items_mk,List.length_map,jnAll];omega
 .simp only [joinV,Val.keys_mk,List.length_map,jnAll];omega
 .intro x hx
  simp only [joinV,Val.items_mk,List.mem_map] at hx
  obtain ⟨y,hy,rfl⟩:=hx
  rcases jnA_mem hy with h | ⟨v,hv,h⟩
  .simp at h
  .exact (hfv v hv).x h
theorem own:ownKnob Tryz.prog.godebug=none:=by kernel_rfl
theorem kids:Kids Tryz.prog (· < Tryz.prog.types.size):=kids_rows (by kernel_rfl) (by kernel_rfl)
theorem sized {t e:TypeId} (ht:t<Tryz.prog.types.size) (hd:Tryz.prog.underlying t=some (.slice e)):0<Tryz.prog.cellsOf e:=slB_of (by kernel_rfl) ht hd
theorem avLL_mapC {α:Type} {c:α→List AV} {wt:α→Nat}:∀{l:List α},(∀x∈l,wt x≤avL (c x))→(l.map wt).sum≤avLL (mapC c l)
 | [],_=>by simp
 | x::l,h=>by
  have h1:=avLL_mapC (c:=c) (wt:=wt) (l:=l) fun y hy=>h y (by simp [hy])
  have h2:=h x (by simp)
  rw [mapC_cons,avLL,zln,List.sum_cons]
  omega
theorem mapC_len_le {α:Type} {c:α→List AV} (h:∀x,1≤avL (c x)):∀l:List α,l.length≤avLL (mapC c l)
 | []=>by simp
 | x::l=>by
  have h1:=mapC_len_le h l
  have h2:=h x
  rw [mapC_cons,avLL,zlc]
  omega
theorem avLL_mem {x:List AV}:∀{l:List (List AV)},x∈l→avL x≤avLL l
 | y::l,h=>by
  rw [avLL]
  rcases List.mem_cons.1 h with rfl | h
  .omega
  .have:=avLL_mem h
   omega
theorem st1_av (s:ByteArray):1≤avL (st1 s):=by simp [st1,avL,avw]
theorem wtL_sumR (l:List Val):wtL l=(l.map wtV).sum:=by
 induction l with
 | nil=>rfl
 | cons x l ih=>rw [wtL,ih,zln,List.sum_cons]
theorem valC_av (v:Val):wtV v+3≤avL (valC v):=by
 refine Val.ind (Q:=fun v=>wtV v+3≤avL (valC v)) (fun v ih=>?_) v
 rw [valC_eq,wtV_eq,wtL_sumR]
 have h1:=avLL_mapC (c:=valC) (wt:=wtV) (l:=v.items) fun x hx=>by have:=ih x hx;omega
 have h2:v.keys.length≤avLL (stC v.keys):=mapC_len_le st1_av v.keys
 simp only [avL,avw]
 omega
theorem shp_val {L:List AV} (h:Shp Tryz.prog 52 L):∃v:Val,L=valC v:=by
 suffices key:∀(n:Nat) (L:List AV),avL L≤n→Shp Tryz.prog 52 L→∃v:Val,L=valC v from key _ L (zna _) h
 intro n
 induction n with
 | zero =>
  intro L hn h
  obtain ⟨parts,rfl,hl,hp⟩:=shp_struct Tryz.underlying52 h
  obtain ⟨a,b,c,d,e,rfl⟩:=ds_n5 (show parts.length=5 from hl)
  obtain ⟨a,rfl,_⟩:=shp_int Tryz.underlying3 (hp 0 _ a rfl rfl)
  simp [avL,avw] at hn
 | succ n ih =>
  intro L hn h
  obtain ⟨parts,rfl,hl,hp⟩:=shp_struct Tryz.underlying52 h
  obtain ⟨a,b,c,d,e,rfl⟩:=ds_n5 (show parts.length=5 from hl)
  obtain ⟨a,rfl,_⟩:=shp_int Tryz.underlying3 (hp 0 _ a rfl rfl)
  obtain ⟨b,rfl,_⟩:=shp_int Tryz.underlying3 (hp 1 _ b rfl rfl)
  obtain ⟨c,rfl,_⟩:=shp_string Tryz.underlying9 (hp 2 _ c rfl rfl)
  obtain ⟨l,rfl,_,hx⟩:=shp_slice Tryz.underlying50 (hp 3 _ d rfl rfl)
  obtain ⟨k,rfl,_,hy⟩:=shp_slice Tryz.underlying22 (hp 4 _ e rfl rfl)
  obtain ⟨vs,rfl,_⟩:=mapC_of (c:=valC) fun x h=>ih x (by
   have:=avLL_mem h
   simp [avL,avw] at hn
   omega) (hx x h)
  obtain ⟨ks,rfl,_⟩:=mapC_of (c:=st1) fun x h=>by
   obtain ⟨s,rfl,_⟩:=shp_string Tryz.underlying9 (hy x h)
   exact ⟨s,rfl⟩
  exact ⟨.mk a b c vs ks,by rw [valC_eq];rfl⟩
theorem vx_av (v:Val):wtV v+3≤avw (vx v):=by
 have:=valC_av v
 rw [valC_eq] at this
 exact this
theorem celC_av (c:Cel):wtV c.v+1≤avL (celC c):=by
 have h:=vx_av c.v
 simp only [vx,avw,avL,celC] at *
 omega
theorem dat_fit (d:Dat) (h:avw (dx d)≤1048576):d.Fit:=by
 simp only [dx,avw,avL] at h
 have hi:d.i.length≤avLL (mapC itC d.i):=mapC_len_le (fun x=>by simp [itC,avL,avw];omega) _
 have hw:d.w.length≤avLL (mapC wrC d.w):=mapC_len_le (fun x=>by simp [wrC,avL,avw];omega) _
 refine .mk d (by omega) (by omega) (fun x hx=>?_) fun x hx=>?_
 .have h1:=avLL_mem (zls (f:=itC) hx)
  have h1:avL (itC x)≤avLL (mapC itC d.i):=h1
  simp only [itC,avL,avw] at h1
  have h2:x.l.length≤avLL (mapC celC x.l):=mapC_len_le (fun x=>by have:=celC_av x;omega) _
  refine ⟨by omega,fun c hc=>wtV_fit _ ?_⟩
  have h3:avL (celC c)≤avLL (mapC celC x.l):=avLL_mem (zls (f:=celC) hc)
  have:=celC_av c
  omega
 .have h1:avL (wrC x)≤avLL (mapC wrC d.w):=avLL_mem (zls (f:=wrC) hx)
  have h2:=vx_av x.c.v
  refine wtV_fit _ ?_
  simp only [wrC,vx,avw,avL] at h1 h2
  omega
end Go.Proofs.YthiifoleopdieaaGreatDoor
