/- Proof. Conditions: none. -/
import Derived.Test.YthiifoleopdieaaGreatDoorIt52
open Nat renaming reduceEqDiff→zqa,reduceBEq→zqb,reduceAdd→zqc,reduceLeDiff→zqd,reduceLT→zqe,reduceMul→zqf,reduceSub→zqg
open Int renaming reduceEq→zqh,reduceLT→zqi,reduceLE→zqj,reduceToNat→zqk
open List renaming length_cons→zlc,length_nil→zle,take_length→zlj,map_cons→zln,mem_map_of_mem→zls,flatten_cons→zlt
open Nat renaming le_refl→zna
namespace Go.Proofs.YthiifoleopdieaaGreatDoor
open Go.Eng
set_option linter.all false
theorem reads_case21 {α:AV} (h:AS Tryz.prog 38 α) (hb:avw α≤1048576):∃s d p,α=casex s d p∧COk s d p:=by
 obtain ⟨L,rfl,h2⟩:=as_struct Tryz.underlying38 h
 obtain ⟨parts,rfl,hl,hp⟩:=shp_struct Tryz.underlying38 h2
 obtain ⟨a,b,c,rfl⟩:=ds_n3 (show parts.length=3 from hl)
 simp only [zlt,List.flatten_nil,avL_app,avL,avw] at hb
 obtain ⟨s,rfl,hs,hf⟩:=shp_supQ (hp 0 _ a rfl rfl) (by omega)
 obtain ⟨d,rfl,hd,hw⟩:=shp_datQ (hp 1 _ b rfl rfl) (by omega)
 obtain ⟨ts,rfl,hl2,hp2⟩:=shp_struct Tryz.underlying36 (hp 2 _ c rfl rfl)
 obtain ⟨t,u,rfl⟩:=ds_n2 (show ts.length=2 from hl2)
 obtain ⟨k,rfl,_⟩:=shp_int Tryz.underlying3 (hp2 0 _ t rfl rfl)
 obtain ⟨l,rfl,_,hx⟩:=shp_slice Tryz.underlying34 (hp2 1 _ u rfl rfl)
 simp only [zlt,List.flatten_nil,avL_app,avL,avw] at hb
 obtain ⟨ps,rfl,hps⟩:=mapC_ofQ (c:=pkC) (Q:=fun p=>p.Ok) fun x h=>shp_pkQ (hx x h) (by have:=avLL_mem h;omega)
 have h1:=mapC_len_le pkC_one ps
 exact ⟨s,d,.mk k ps,rfl,⟨hs,hf,hd,hw,by simp only [Pln.l_mk];omega,hps⟩⟩
theorem reads_case39 {α:AV} (h:AS Tryz.prog 59 α) (hb:avw α≤1048576):∃s d p,α=casex s d p∧COk s d p:=by
 obtain ⟨L,rfl,h2⟩:=as_struct Tryz.underlying59 h
 obtain ⟨parts,rfl,hl,hp⟩:=shp_struct Tryz.underlying59 h2
 obtain ⟨a,b,c,rfl⟩:=ds_n3 (show parts.length=3 from hl)
 simp only [zlt,List.flatten_nil,avL_app,avL,avw] at hb
 obtain ⟨s,rfl,hs,hf⟩:=shp_supQ (hp 0 _ a rfl rfl) (by omega)
 obtain ⟨d,rfl,hd,hw⟩:=shp_datQ (hp 1 _ b rfl rfl) (by omega)
 obtain ⟨ts,rfl,hl2,hp2⟩:=shp_struct Tryz.underlying36 (hp 2 _ c rfl rfl)
 obtain ⟨t,u,rfl⟩:=ds_n2 (show ts.length=2 from hl2)
 obtain ⟨k,rfl,_⟩:=shp_int Tryz.underlying3 (hp2 0 _ t rfl rfl)
 obtain ⟨l,rfl,_,hx⟩:=shp_slice Tryz.underlying34 (hp2 1 _ u rfl rfl)
 simp only [zlt,List.flatten_nil,avL_app,avL,avw] at hb
 obtain ⟨ps,rfl,hps⟩:=mapC_ofQ (c:=pkC) (Q:=fun p=>p.Ok) fun x h=>shp_pkQ (hx x h) (by have:=avLL_mem h;omega)
 have h1:=mapC_len_le pkC_one ps
 exact ⟨s,d,.mk k ps,rfl,⟨hs,hf,hd,hw,by simp only [Pln.l_mk];omega,hps⟩⟩
theorem in1_one (n:Int):1≤avL (in1 n):=by simp [in1,avL,avw]
theorem pk_fit (p:Pk):p.Ok→avL (pkC p)≤1048576→p.Fit:=by
 refine Pk.ind (Q:=fun p=>p.Ok→avL (pkC p)≤1048576→p.Fit) (fun p ih ho hb=>?_) p
 rw [pkC_eq] at hb
 simp only [avL,avw] at hb
 have h1:=mapC_len_le in1_one p.tw
 have h2:=ho.a.n
 have h3:=ho.l
 refine .mk p (by omega) (by omega) (by omega) (fun a ha=>(ho.a.v a ha).f) fun x hx=>ih x hx (ho.x hx) ?_
 have:=avLL_mem (zls (f:=pkC) hx)
 have h4:avL (pkC x)≤avLL (mapC pkC p.picks):=this
 omega
theorem case_fit {s:Sup} {d:Dat} {p:Pln} (c:COk s d p) (hb:avw (casex s d p)≤1048576):∀x∈p.l,x.Fit:=fun x hx=>by
 simp only [casex,avL,avw] at hb
 have h4:avL (pkC x)≤avLL (mapC pkC p.l):=avLL_mem (zls (f:=pkC) hx)
 exact pk_fit x (c.p x hx) (by omega)
end Go.Proofs.YthiifoleopdieaaGreatDoor
namespace Go.Proofs.YthiifoleopdieaaGreatDoor
open Go.Eng
set_option linter.all false
set_option maxRecDepth 20000
set_option maxHeartbeats 2000000
theorem runV_dok (s:Sup) (d:Dat) (p:Pln) {B:Nat} (hd:DOk d B) (hB:p.k=2→B+p.l.length*d.w.length≤100000000000) :
  DOk (runV s d p).2 (B+p.l.length*(if p.k=2 then d.w.length else 0)):=by
 have h:=(runL_inv s (decide (p.k=2)) (rootS p.k) d p.l hd (fun h=>hB (by simpa using h)) p.l.length (zna _)).2.2
 rw [zlj] at h
 simp only [decide_eq_true_eq] at h
 exact h
end Go.Proofs.YthiifoleopdieaaGreatDoor
namespace Go.Proofs.YthiifoleopdieaaGreatDoor
open Go.Eng
set_option linter.all false
set_option maxRecDepth 20000
set_option maxHeartbeats 2000000
noncomputable def few39 (s:Sup) (d:Dat) (p:Pln):Bool:=(!lgX s d p.l&&decide ((d.w.length:Int)≤20))&&decide ((p.l.length:Int)≤20)
theorem few39_ok (s:Sup) (d:Dat) (p:Pln) (c:COk s d p) (hp:CH) (m:Nat):MeetsF Tryz.prog 22 hp m [casex s d p] (.b (few39 s d p)):=by
 have h1:=rLarge_ok s c.s c.f d c.d (by omega) p.l c.l c.p
 rw [few39]
 obtain ⟨x,hx⟩:∃x,lgX s d p.l=x:=⟨_,rfl⟩
 rw [hx] at h1 ⊢
 refine meetsF Tryz.func22 (by kernel_rfl) cc22 cr22 rfl fun hf=>?_;unfold ck22
 simp (disch:=omega) only [ite_ne,go_sem,↓reduceIte,zqa,zqb,zqc,zqd,zqe,reduceCtorEq,zqf,zqg,zqh,zqi,zqj,zqk]
 refine vcCall.f (h1 _ _) ?_
 simp (disch:=omega) only [ite_ne,go_sem,↓reduceIte,zqa,zqb,zqc,zqd,zqe,reduceCtorEq,zqf,zqg,zqh,zqi,zqj,zqk]
noncomputable def serS (s:Sup) (k:Int) (a:List Val × Dat) (x:Pk):List Val × Dat:=(a.1++[(runV s a.2 (.mk k [x])).1],(runV s a.2 (.mk k [x])).2)
noncomputable def serL (s:Sup) (k:Int) (d:Dat) (l:List Pk):List Val × Dat:=l.foldl (serS s k) ([],d)
noncomputable def serV (s:Sup) (d:Dat) (p:Pln):Val × Dat:=if p.l.length=0 then runV s d p else (joinV (serL s p.k d p.l).1,(serL s p.k d p.l).2)
theorem serL_step {s:Sup} {k:Int} {d:Dat} {l:List Pk} {j:Nat} {x:Pk} (h:l[j]?=some x):serL s k d (l.take (j+1))=serS s k (serL s k d (l.take j)) x:=by
 unfold serL
 rw [←take_snoc h,List.foldl_append]
 rfl
theorem runV_one_w (s:Sup) (d:Dat) (k:Int) (x:Pk):(runV s d (.mk k [x])).2.w=d.w:=by
 have:(runV s d (.mk k [x])).2=(runS s (decide (k=2)) (rootS k) ([],d) x).2:=rfl
 rw [this,runS]
 split
 ·exact rootD_w _ _ _ _ _
 ·rfl
theorem runV_one_len (s:Sup) (d:Dat) (k:Int) (x:Pk):(runV s d (.mk k [x])).1.items.length≤2:=by
 have h:=runL_len s (decide (k=2)) (rootS k) d [x] 1
 have:(runV s d (.mk k [x])).1.items=txV (rootS k)::(runL s (decide (k=2)) (rootS k) d [x]).1.map (·.2):=rfl
 rw [this,zlc,List.length_map]
 have e:[x].take 1=[x]:=rfl
 rw [e] at h
 omega
theorem serL_inv (s:Sup) (k:Int) (d:Dat) (l:List Pk) {B:Nat} (hd:DOk d B) (hpo:∀x∈l,x.Ok) (h:B+l.length*d.w.length≤100000000000):∀j,j≤l.length →
  (serL s k d (l.take j)).2.w=d.w∧DOk (serL s k d (l.take j)).2 (B+j*d.w.length)∧(serL s k d (l.take j)).1.length=j∧(∀v∈(serL s k d (l.take j)).1,v.Fit)∧szJ (serL s k d (l.take j)).1≤2*j
 | 0,_=>⟨rfl,by simpa [serL] using hd,by simp [serL],by simp [serL],by simp [serL,szJ]⟩
 | j+1,hj=>by
  have hjl:j<l.length:=by omega
  have ex:=List.getElem?_eq_getElem hjl
  have hxo:=hpo _ (List.mem_of_getElem? ex)
  obtain ⟨h1,h2,h3,h4,h5⟩:=serL_inv s k d l hd hpo h j (by omega)
  have hm:(j+1)*d.w.length≤l.length*d.w.length:=Nat.mul_le_mul_right _ hj
  rw [Nat.add_mul,Nat.one_mul] at hm
  have hb:((Pln.mk k [l[j]]).k=2→B+j*d.w.length+(Pln.mk k [l[j]]).l.length*(serL s k d (l.take j)).2.w.length≤100000000000):=fun _=>by
   rw [h1]
   simp only [Pln.l_mk,zlc,zle]
   omega
  have hD:=runV_dok s (serL s k d (l.take j)).2 (.mk k [l[j]]) h2 hb
  have hF:=runV_fit s (serL s k d (l.take j)).2 (.mk k [l[j]]) h2 (by simp [Pln.l_mk]) (by simp [Pln.l_mk,hxo]) hb
  have hL:=runV_one_len s (serL s k d (l.take j)).2 k l[j]
  rw [serL_step ex]
  unfold serS
  dsimp only
  refine ⟨by rw [runV_one_w,h1],hD.mono ?_,by simp [h3],fun v hv=>?_,?_⟩
  ·simp only [Pln.l_mk,zlc,zle,Nat.zero_add,Nat.one_mul,h1]
   rw [Nat.add_mul,Nat.one_mul]
   split<;>omega
  ·rcases List.mem_append.1 hv with hv | hv
   ·exact h4 v hv
   ·rw [List.mem_singleton.1 hv]
    exact hF
  ·simp only [szJ,List.map_append,List.sum_append,zln,List.map_nil,List.sum_cons,List.sum_nil] at h5 ⊢
   omega
end Go.Proofs.YthiifoleopdieaaGreatDoor
namespace Go.Proofs.YthiifoleopdieaaGreatDoor
open Go.Eng
set_option linter.all false
set_option maxRecDepth 20000
set_option maxHeartbeats 4000000
theorem sRun_ok (s:Sup) (hs:SOk s) (d:Dat) {B:Nat} (hd:DOk d B) (p:Pln) (hl:p.l.length≤1048576) (hpo:∀x∈p.l,x.Ok) (hfp:∀x∈p.l,x.Fit) (hB:B+p.l.length*d.w.length≤100000000000) (hp:CH) (m:Nat) :
  MeetsF Tryz.prog 24 hp m [supx s,dx d,plx p] (.tp [vx (serV s d p).1,dx (serV s d p).2]):=by
 rw [serV]
 by_cases h0:p.l.length=0
 ·rw [if_pos h0]
  have hT:=tRun_ok s hs d hd p hl hpo (fun _=>hB)
  have z0:((p.l.length:Int)=0)=True:=eq_true (by omega)
  obtain ⟨T,hTe⟩:∃T,(runV s d p).1=T:=⟨_,rfl⟩
  obtain ⟨E,hEe⟩:∃E,(runV s d p).2=E:=⟨_,rfl⟩
  rw [hTe,hEe] at hT ⊢
  refine meetsF Tryz.func24 (by kernel_rfl) cc924 cr924 rfl fun hf=>?_;unfold ck924
  simp (disch:=omega) only [ite_ne,z0,decide_true,go_sem,↓reduceIte,zqa,zqb,zqc,zqd,zqe,reduceCtorEq,zqf,zqg,zqh,zqi,zqj,zqk]
  refine vcCall.f (hT _ _) ?_
  simp (disch:=omega) only [ite_ne,go_sem,↓reduceIte,zqa,zqb,zqc,zqd,zqe,reduceCtorEq,zqf,zqg,zqh,zqi,zqj,zqk]
 rw [if_neg h0]
 dsimp only
 have hinv:=serL_inv s p.k d p.l hd hpo hB
 have hsp:=sSplit_ok p (by omega) hfp
 have hsl:=splitP_len p
 have hstep:=fun j x (h:p.l[j]?=some x)=>serL_step (s:=s) (k:=p.k) (d:=d) h
 obtain ⟨-,-,l1,l2,l3⟩:=hinv p.l.length (zna _)
 rw [zlj] at l1 l2 l3
 obtain ⟨R,hR⟩:∃R,serL s p.k d p.l=R:=⟨_,rfl⟩
 rw [hR] at l1 l2 l3 ⊢
 have hJ:=sJoin_ok R.1 (by omega) l2 (by omega)
 obtain ⟨J,hJe⟩:∃J,joinV R.1=J:=⟨_,rfl⟩
 rw [hJe] at hJ ⊢
 have z0:((p.l.length:Int)=0)=False:=eq_false (by omega)
 refine meetsF Tryz.func24 (by kernel_rfl) cc924 cr924 rfl fun hf=>?_;unfold ck924
 simp (disch:=omega) only [ite_ne,z0,decide_false,go_sem,↓reduceIte,zqa,zqb,zqc,zqd,zqe,reduceCtorEq,zqf,zqg,zqh,zqi,zqj,zqk]
 refine vcCall.f (hsp _ _) ?_
 simp (disch:=omega) only [ite_ne,hsl,go_sem,↓reduceIte,zqa,zqb,zqc,zqd,zqe,reduceCtorEq,zqf,zqg,zqh,zqi,zqj,zqk]
 refine loop (fun q:Nat × List Val × Dat × Nat=>⟨[(3,.bx m 0),(4,.bx (m+1) 0),(6,.bx (m+3) 0),(7,.bx (m+4) 0),(8,.rw (m+5) q.2.1.length q.2.1.length),(23,.ds (mapC plC (splitP p))),(24,.i .i64 p.l.length),(25,.i .i64 q.1)],
   (m,.bx [.ds (stC s.g),.ds (mapC dfC s.doc),.ds (mapC kyC s.keys),.ds (mapC jnC s.joins)])::(m+1,.bx [.ds (mapC itC q.2.2.1.i),.ds (mapC wrC q.2.2.1.w)])::(m+3,.bx [.i .i64 0,.i .i64 0,.s ⟨#[]⟩,.e0,.e0])::(m+4,.bx [.e0,.e0])::(m+5,.rw q.2.1.length 5 (mapC valC q.2.1))::hp,q.2.2.2⟩)
  (fun q=>q.1≤p.l.length∧m+6≤q.2.2.2∧(q.2.1,q.2.2.1)=serL s p.k d (p.l.take q.1)) (fun q=>p.l.length - q.1) (0,[],d,m+6) ?_ ?_ (fun ⟨j,F,D,n⟩ hj=>?_)
 ·exact ⟨by simp,by simp,by dsimp only;rw [List.take_zero];rfl⟩
 ·refine (weak_e0 (t:=8) (m:=5) ?_).trans (weak_ok ?_ (Sub.cons ?_ (Sub.cons ?_ (Sub.cons ?_ (Sub.cons ?_ (Sub.cons ?_ (Sub.base hf ?_)))))) (zna _))
  all_goals (simp (disch:=omega) only [ite_ne,go_sem,↓reduceIte,zqa,zqb,zqc,zqd,zqe,reduceCtorEq,zqf,zqg,zqh,zqi,zqj,zqk])
  all_goals rfl
 dsimp only at hj
 obtain ⟨hj1,hj2,hj3⟩:=hj
 have hmn:m≤n:=by omega
 obtain ⟨i1,i2,i3,i4,i5⟩:=hinv j hj1
 rw [←hj3] at i1 i2 i3
 dsimp only at i1 i2 i3
 simp (disch:=omega) only [ite_ne,go_sem,↓reduceIte,zqa,zqb,zqc,zqd,zqe,reduceCtorEq,zqf,zqg,zqh,zqi,zqj,zqk]
 refine cdK_of (fun q=>?_) (fun q=>?_)
 ·have q:j<p.l.length:=by simpa using q
  obtain ⟨x,ex⟩:∃x,p.l[j]?=some x:=⟨p.l[j],by simp [q]⟩
  have hxo:=hpo x (List.mem_of_getElem? ex)
  have hst:=hstep j x ex
  rw [←hj3,serS] at hst
  dsimp only at hst
  have hm:(j+1)*d.w.length≤p.l.length*d.w.length:=Nat.mul_le_mul_right _ q
  rw [Nat.add_mul,Nat.one_mul] at hm
  have h3:=tRun_ok s hs D i2 (.mk p.k [x]) (by simp [Pln.l_mk]) (by simp [Pln.l_mk,hxo]) (fun _=>by rw [i1];simp only [Pln.l_mk,zlc,zle];omega)
  obtain ⟨T,hT⟩:∃T,(runV s D (.mk p.k [x])).1=T:=⟨_,rfl⟩
  obtain ⟨E,hE⟩:∃E,(runV s D (.mk p.k [x])).2=E:=⟨_,rfl⟩
  rw [hT] at h3 hst
  rw [hE] at h3 hst
  have e1:mapC pkC [x]=[[AV.s x.key,.s x.on,.s x.name,.ds (mapC argC x.args),.s x.tn,.ds (mapC in1 x.tw),.s x.label,.i .i64 x.initial,.ds (mapC pkC x.picks)]]:=by rw [mapC_cons,mapC_nil,pkC_eq]
  have e2:plx (.mk p.k [x])=.ag [.i .i64 p.k,.ds [[AV.s x.key,.s x.on,.s x.name,.ds (mapC argC x.args),.s x.tn,.ds (mapC in1 x.tw),.s x.label,.i .i64 x.initial,.ds (mapC pkC x.picks)]]]:=by rw [←e1];rfl
  rw [e2] at h3
  have e3:(mapC plC (splitP p))[j]?=some [.i .i64 p.k,.ds [[AV.s x.key,.s x.on,.s x.name,.ds (mapC argC x.args),.s x.tn,.ds (mapC in1 x.tw),.s x.label,.i .i64 x.initial,.ds (mapC pkC x.picks)]]]:=by
   rw [←e1]
   have e4:(splitP p)[j]?=some (.mk p.k [x]):=by rw [splitP,List.getElem?_map,ex];rfl
   exact mapC_get plC e4
  have k1:(F.length+1)*80≤140737488355328:=by omega
  have k3:F.length+1≤9223372036854775807:=by omega
  have k4:p.l.length - (j+1)<p.l.length - j:=by omega
  simp (disch:=omega) only [ite_ne,q,hsl,getK_s e3,e3,hmn,go_sem,↓reduceIte,zqa,zqb,zqc,zqd,zqe,reduceCtorEq,zqf,zqg,zqh,zqi,zqj,zqk]
  refine vcCall.f (h3 _ _) ?_
  simp (disch:=omega) only [ite_ne,k1,k3,hmn,go_sem,↓reduceIte,zqa,zqb,zqc,zqd,zqe,reduceCtorEq,zqf,zqg,zqh,zqi,zqj,zqk]
  refine ⟨(j+1,F++[T],E,_),⟨by dsimp only;omega,by dsimp only;omega,hst.symm⟩,k4,weak_ok ?_ (Sub.cons ?_ (Sub.cons ?_ (Sub.cons ?_ (Sub.cons ?_ (Sub.cons ?_ (Sub.base hf ?_)))))) (zna _)⟩
  all_goals
   simp (disch:=omega) only [ite_ne,wr64s j (by omega),hmn,List.length_append,zlc,zle,go_sem,↓reduceIte,zqa,zqb,zqc,zqd,zqe,reduceCtorEq,zqf,zqg,zqh,zqi,zqj,zqk]
 ·have q:j=p.l.length:=by simp at q;omega
  subst q
  rw [zlj,hR] at hj3
  subst hj3
  have hl4:F.take F.length=F:=zlj
  dsimp only at hJ
  have hl5:List.take F.length (mapC valC F)=mapC valC F:=List.take_of_length_le (by simp [mapC])
  simp (disch:=omega) only [ite_ne,hmn,go_sem,↓reduceIte,zqa,zqb,zqc,zqd,zqe,reduceCtorEq,zqf,zqg,zqh,zqi,zqj,zqk]
  refine wk_of (s':=⟨[(3,.bx m 0),(4,.bx (m+1) 0),(6,.bx (m+3) 0),(7,.bx (m+4) 0),(8,.ds (mapC valC F))],
   (m,.bx [.ds (stC s.g),.ds (mapC dfC s.doc),.ds (mapC kyC s.keys),.ds (mapC jnC s.joins)])::(m+1,.bx [.ds (mapC itC D.i),.ds (mapC wrC D.w)])::(m+3,.bx [.i .i64 0,.i .i64 0,.s ⟨#[]⟩,.e0,.e0])::(m+4,.bx [.e0,.e0])::hp,n⟩)
   ((weak_sh (t:=8) (k:=m+5) (g:=F.length) (len:=F.length) (m:=5) (l:=mapC valC F) (by (simp (disch:=omega) only [ite_ne,go_sem,↓reduceIte,zqa,zqb,zqc,zqd,zqe,reduceCtorEq,zqf,zqg,zqh,zqi,zqj,zqk])) (by (simp (disch:=omega) only [ite_ne,go_sem,↓reduceIte,zqa,zqb,zqc,zqd,zqe,reduceCtorEq,zqf,zqg,zqh,zqi,zqj,zqk])) (by simp [mapC])).trans
   (weak_ok ?_ (Sub.cons ?_ (Sub.cons ?_ (Sub.cons ?_ (Sub.cons ?_ (Sub.base hf ?_))))) (zna _))) ?_
  all_goals first | ((simp (disch:=omega) only [ite_ne,hl5,hmn,go_sem,↓reduceIte,zqa,zqb,zqc,zqd,zqe,reduceCtorEq,zqf,zqg,zqh,zqi,zqj,zqk]);done) | skip
  simp (disch:=omega) only [ite_ne,go_sem,↓reduceIte,zqa,zqb,zqc,zqd,zqe,reduceCtorEq,zqf,zqg,zqh,zqi,zqj,zqk]
  refine dCallR.f (fun _ hp' e=>hJ _ _) ?_
  simp (disch:=omega) only [ite_ne,hmn,go_sem,↓reduceIte,zqa,zqb,zqc,zqd,zqe,reduceCtorEq,zqf,zqg,zqh,zqi,zqj,zqk]
end Go.Proofs.YthiifoleopdieaaGreatDoor
namespace Go.Proofs.YthiifoleopdieaaGreatDoor
open Go.Eng
set_option linter.all false
set_option maxRecDepth 20000
set_option maxHeartbeats 2000000
theorem few39_hB {s:Sup} {d:Dat} {p:Pln} (h:few39 s d p=true):1048576+p.l.length*d.w.length≤100000000000∧p.l.length≤20:=by
 simp only [few39,Bool.and_eq_true,decide_eq_true_eq] at h
 obtain ⟨⟨_,h1⟩,h2⟩:=h
 have:p.l.length*d.w.length≤20*20:=Nat.mul_le_mul (by omega) (by omega)
 omega
end Go.Proofs.YthiifoleopdieaaGreatDoor
namespace Go.Proofs.YthiifoleopdieaaGreatDoor
open Go.Eng
set_option linter.all false
theorem ix_iff (y:ByteArray):∀(l:List ByteArray) (j:Nat),0≤ix y l j↔y∈l
 | [],j=>by simp [ix]
 | x::l,j=>by
  rw [ix]
  by_cases c:x=y
  ·subst c;simp
  ·have ih:=ix_iff y l (j+1)
   have c':¬y=x:=fun e=>c e.symm
   simp [c,c',ih]
theorem serS_on {s:Sup} {k:Int} {a:List Val × Dat} {x:Pk} (h:x.on=rootS k) :
  serS s k a x=(a.1++[objV (rootS k) [(x.key,rootP s (rootS k) (rootD s (decide (k=2)) (rootS k) a.2 x) x)]],rootD s (decide (k=2)) (rootS k) a.2 x):=by
 have e:(runV s a.2 (.mk k [x]))=(objV (rootS k) (runS s (decide (k=2)) (rootS k) ([],a.2) x).1,(runS s (decide (k=2)) (rootS k) ([],a.2) x).2):=rfl
 rw [serS,e,runS,if_pos h]
 rfl
theorem jnS_new {O:List (ByteArray × Val)} {x:ByteArray × Val} (h:x.1 ∉ O.map (·.1)):jnS O x=O++[x]:=by rw [jnS,if_neg (fun c=>h ((ix_iff _ _ _).1 c))]
theorem jnS_old {O:List (ByteArray × Val)} {x:ByteArray × Val} (h:x.1∈O.map (·.1)):jnS O x=O:=by rw [jnS,if_pos ((ix_iff _ _ _).2 h)]
theorem jnAll_snoc (vs:List Val) (v:Val):jnAll (vs++[v])=jnV (jnAll vs) v:=by rw [jnAll,List.foldl_append];rfl
theorem jnV_obj (O:List (ByteArray × Val)) (t key:ByteArray) (P:Val):jnV O (objV t [(key,P)])=jnS (jnS O (sT,txV t)) (key,P):=rfl
theorem ser_fold (s:Sup) (k:Int):∀(l:List Pk) (vs:List Val) (D:Dat) (F:List (ByteArray × Val)),jnAll vs=(sT,txV (rootS k))::F→(∀x∈l,x.on=rootS k∧x.key≠sT∧x.key ∉ F.map (·.1))→(l.map Pk.key).Nodup →
  jnAll (l.foldl (serS s k) (vs,D)).1=(sT,txV (rootS k))::(l.foldl (runS s (decide (k=2)) (rootS k)) (F,D)).1∧(l.foldl (serS s k) (vs,D)).2=(l.foldl (runS s (decide (k=2)) (rootS k)) (F,D)).2
 | [],vs,D,F,h,_,_=>⟨h,rfl⟩
 | x::l,vs,D,F,h,hx,hn=>by
  obtain ⟨c1,c2,c3⟩:=hx x (by simp)
  rw [zln,List.nodup_cons] at hn
  rw [List.foldl_cons,List.foldl_cons,serS_on c1,runS,if_pos c1]
  dsimp only
  refine ser_fold s k l _ _ _ ?_ (fun y hy=>?_) hn.2
  ·have a1:jnS ((sT,txV (rootS k))::F) (sT,txV (rootS k))=(sT,txV (rootS k))::F:=jnS_old (by simp)
   have a2:=fun P=>jnS_new (O:=(sT,txV (rootS k))::F) (x:=(x.key,P)) (by rw [zln,List.mem_cons,not_or];exact ⟨c2,c3⟩)
   rw [jnAll_snoc,h,jnV_obj,a1,a2]
   rfl
  ·obtain ⟨d1,d2,d3⟩:=hx y (by simp [hy])
   refine ⟨d1,d2,?_⟩
   have:y.key≠x.key:=fun e=>hn.1 (e ▸ zls (f:=Pk.key) hy)
   simp only [List.map_append,zln,List.map_nil,List.mem_append,List.mem_singleton,not_or]
   exact ⟨d3,this⟩
theorem ser_eq (s:Sup) (k:Int) (d:Dat) (x:Pk) (l:List Pk) (hx:∀y∈x::l,y.on=rootS k∧y.key≠sT) (hn:((x::l).map Pk.key).Nodup) :
  jnAll (serL s k d (x::l)).1=(sT,txV (rootS k))::(runL s (decide (k=2)) (rootS k) d (x::l)).1∧(serL s k d (x::l)).2=(runL s (decide (k=2)) (rootS k) d (x::l)).2:=by
 obtain ⟨c1,c2⟩:=hx x (by simp)
 rw [zln,List.nodup_cons] at hn
 unfold serL runL
 rw [List.foldl_cons,List.foldl_cons,serS_on c1,runS,if_pos c1]
 dsimp only
 refine ser_fold s k l _ _ _ ?_ (fun y hy=>?_) hn.2
 ·have a1:jnS [] (sT,txV (rootS k))=[(sT,txV (rootS k))]:=jnS_new (O:=[]) (by simp)
  have a2:=fun P=>jnS_new (O:=[(sT,txV (rootS k))]) (x:=(x.key,P)) (by simpa using c2)
  rw [jnAll_snoc,jnV_obj,show jnAll []=[] from rfl,a1,a2]
  rfl
 ·obtain ⟨d1,d2⟩:=hx y (by simp [hy])
  refine ⟨d1,d2,?_⟩
  have:y.key≠x.key:=fun e=>hn.1 (e ▸ zls (f:=Pk.key) hy)
  simpa using this
end Go.Proofs.YthiifoleopdieaaGreatDoor
namespace Go.Proofs.YthiifoleopdieaaGreatDoor
open Go.Eng
set_option linter.all false
theorem jn_none:∀(l:List Val) (O:List (ByteArray × Val)),l.any (fun v=>decide (v.k=6))=false→l.foldl jnV O=O
 | [],_,_=>rfl
 | v::l,O,h=>by
  rw [List.any_cons,Bool.or_eq_false_iff] at h
  rw [List.foldl_cons,jnV,if_neg (by simpa using h.1)]
  exact jn_none l O h.2
theorem ser_run (s:Sup) (d:Dat) (p:Pln) (hx:∀y∈p.l,y.on=rootS p.k∧y.key≠sT) (hn:(p.l.map Pk.key).Nodup):serV s d p=runV s d p:=by
 unfold serV
 cases hl:p.l with
 | nil=>rw [zle,if_pos rfl]
 | cons x l =>
  rw [if_neg (by simp)]
  rw [hl] at hx hn
  obtain ⟨h1,h2⟩:=ser_eq s p.k d x l hx hn
  have hK:jnK (serL s p.k d (x::l)).1 0=6:=by
   rw [jnK,if_pos]
   cases c:(serL s p.k d (x::l)).1.any (fun v=>decide (v.k=6)) with
   | true=>rfl
   | false =>
    have:=jn_none _ [] c
    rw [←jnAll,h1] at this
    cases this
  rw [joinV,hK,h1,h2,runV,hl]
  rfl
end Go.Proofs.YthiifoleopdieaaGreatDoor
