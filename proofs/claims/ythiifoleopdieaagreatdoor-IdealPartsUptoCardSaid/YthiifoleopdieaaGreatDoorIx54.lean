/- Proof. Conditions: none. -/
import Derived.Test.YthiifoleopdieaaGreatDoorIx53
open Nat renaming reduceEqDiff→Za,reduceBEq→Zb,reduceAdd→Zc,reduceLeDiff→Zd,reduceLT→Ze,reduceMul→Zf,reduceSub→Zg
open Int renaming reduceEq→Zh,reduceLT→Zi,reduceLE→Zj,reduceToNat→Zk
open List renaming length_append→zld,take_of_length_le→zlk
namespace Go.Proofs.YthiifoleopdieaaGreatDoor
open Go.Eng
set_option linter.all false
theorem reads_case21 {α:AV} (h:AS Tryz.prog 38 α) (hb:avw α≤1048576):∃s d p,α=casex s d p∧COk s d p:=by
 obtain ⟨L,rfl,h2⟩:=as_struct Tryz.underlying38 h
 obtain ⟨parts,rfl,hl,hp⟩:=shp_struct Tryz.underlying38 h2
 obtain ⟨a,b,c,rfl⟩:=ds_n3 (show parts.length=3 from hl)
 simp only [List.flatten_cons,List.flatten_nil,avL_app,avL,avw] at hb
 obtain ⟨s,rfl,hs,hf⟩:=shp_supQ (hp 0 _ a rfl rfl) (by omega)
 obtain ⟨d,rfl,hd,hw⟩:=shp_datQ (hp 1 _ b rfl rfl) (by omega)
 obtain ⟨ts,rfl,hl2,hp2⟩:=shp_struct Tryz.underlying36 (hp 2 _ c rfl rfl)
 obtain ⟨t,u,rfl⟩:=ds_n2 (show ts.length=2 from hl2)
 obtain ⟨k,rfl,_⟩:=shp_int Tryz.underlying3 (hp2 0 _ t rfl rfl)
 obtain ⟨l,rfl,_,hx⟩:=shp_slice Tryz.underlying34 (hp2 1 _ u rfl rfl)
 simp only [List.flatten_cons,List.flatten_nil,avL_app,avL,avw] at hb
 obtain ⟨ps,rfl,hps⟩:=mapC_ofQ (c:=pkC) (Q:=fun p=>p.Ok) fun x h=>shp_pkQ (hx x h) (by have:=avLL_mem h;omega)
 have h1:=mapC_len_le pkC_one ps
 exact ⟨s,d,.mk k ps,rfl,⟨hs,hf,hd,hw,by simp only [Pln.l_mk];omega,hps⟩⟩
set_option maxRecDepth 20000
set_option maxHeartbeats 1000000
noncomputable def few21 (s:Sup) (d:Dat) (p:Pln):Bool:=!lgX s d p.l&&(!decide (p.k=2)||(decide ((d.w.length:Int)≤20)&&decide ((p.l.length:Int)≤20)))
theorem few21_ok (s:Sup) (d:Dat) (p:Pln) (c:COk s d p) (hp:CH) (m:Nat):MeetsF Tryz.prog 10 hp m [casex s d p] (.b (few21 s d p)):=by
 have h1:=rLarge_ok s c.s c.f d c.d (by omega) p.l c.l c.p
 rw [few21]
 obtain ⟨x,hx⟩:∃x,lgX s d p.l=x:=⟨_,rfl⟩
 rw [hx] at h1 ⊢
 refine meetsF Tryz.func10 (by kernel_rfl) cc10 cr10 rfl fun hf=>?_;unfold ck10
 simp (disch:=omega) only [ite_ne,go_sem,↓reduceIte,Za,Zb,Zc,Zd,Ze,reduceCtorEq,Zf,Zg,Zh,Zi,Zj,Zk]
 refine vcCall.f (h1 _ _) ?_
 simp (disch:=omega) only [ite_ne,go_sem,↓reduceIte,Za,Zb,Zc,Zd,Ze,reduceCtorEq,Zf,Zg,Zh,Zi,Zj,Zk]
 refine cdK_of (fun q=>?_) (fun q=>?_)
 .have q:x=true:=by simpa using q
  subst q
  simp (disch:=omega) only [ite_ne,go_sem,↓reduceIte,Za,Zb,Zc,Zd,Ze,reduceCtorEq,Zf,Zg,Zh,Zi,Zj,Zk]
 .have q:x=false:=by simpa using q
  subst q
  simp (disch:=omega) only [ite_ne,go_sem,↓reduceIte,Za,Zb,Zc,Zd,Ze,reduceCtorEq,Zf,Zg,Zh,Zi,Zj,Zk]
  try (by_cases hk:p.k=2<;>simp [hk])
set_option maxHeartbeats 2000000
noncomputable def qryF (s:Sup) (d:Dat) (root:ByteArray) (l:List Pk):List (ByteArray × Val):=if 0≤itemI d root then fieldsV s d l (itemI d root) else noneF root l
theorem qryF_app (s:Sup) (d:Dat) (root:ByteArray) (l:List Pk) (n:Nat):qryF s d root (l.take n)++qryF s d root (l.drop n)=qryF s d root l:=by
 unfold qryF
 split
 .rw [fieldsV_eq,fieldsV_eq,fieldsV_eq,←List.map_append,←List.filter_append,List.take_append_drop]
 .unfold noneF
  rw [←List.map_append,←List.filter_append,List.take_append_drop]
theorem runV_qry (s:Sup) (d:Dat) (k:Int) (l:List Pk) (hk:¬k=2):runV s d (.mk k l)=(objV (rootS k) (qryF s d (rootS k) l),d):=by
 rw [runV,Pln.k_mk,Pln.l_mk,decide_eq_false hk,runL_query]
 rfl
theorem qryF_len (s:Sup) (d:Dat) (root:ByteArray) (l:List Pk):(qryF s d root l).length≤l.length:=by
 unfold qryF
 split
 .exact fieldsV_len _ _ _ _
 .exact noneF_len root l
theorem lawParts (s:Sup) (d:Dat) (p:Pln) (i:Int) (c:COk s d p) (hp:CH) (m:Nat):MeetsF Tryz.prog 7 hp m [casex s d p,.i .i64 i] (.b true):=by
 have hl:=c.l
 have h1:=few21_ok s d p c
 obtain ⟨x,hx⟩:∃x,few21 s d p=x:=⟨_,rfl⟩
 rw [hx] at h1
 cases x
 .refine meetsF Tryz.func7 (by kernel_rfl) cc7 cr7 rfl fun hf=>?_;unfold ck7
  simp (disch:=omega) only [ite_ne,go_sem,↓reduceIte,Za,Zb,Zc,Zd,Ze,reduceCtorEq,Zf,Zg,Zh,Zi,Zj,Zk]
  refine vcCall.f (h1 _ _) ?_
  simp (disch:=omega) only [ite_ne,go_sem,↓reduceIte,Za,Zb,Zc,Zd,Ze,reduceCtorEq,Zf,Zg,Zh,Zi,Zj,Zk]
  refine vcCall.f (know21_ok _ _) ?_
  simp (disch:=omega) only [ite_ne,go_sem,↓reduceIte,Za,Zb,Zc,Zd,Ze,reduceCtorEq,Zf,Zg,Zh,Zi,Zj,Zk]
 by_cases hc:p.k=1∧0≤i∧i≤(p.l.length:Int)
 rotate_left
 .refine meetsF Tryz.func7 (by kernel_rfl) cc7 cr7 rfl fun hf=>?_;unfold ck7
  simp (disch:=omega) only [ite_ne,go_sem,↓reduceIte,Za,Zb,Zc,Zd,Ze,reduceCtorEq,Zf,Zg,Zh,Zi,Zj,Zk]
  refine vcCall.f (h1 _ _) ?_
  simp (disch:=omega) only [ite_ne,go_sem,↓reduceIte,Za,Zb,Zc,Zd,Ze,reduceCtorEq,Zf,Zg,Zh,Zi,Zj,Zk]
  refine cdK_of (fun q=>?_) (fun q=>?_)
  .simp (disch:=omega) only [ite_ne,go_sem,↓reduceIte,Za,Zb,Zc,Zd,Ze,reduceCtorEq,Zf,Zg,Zh,Zi,Zj,Zk]
   refine vcCall.f (know21_ok _ _) ?_
   simp (disch:=omega) only [ite_ne,go_sem,↓reduceIte,Za,Zb,Zc,Zd,Ze,reduceCtorEq,Zf,Zg,Zh,Zi,Zj,Zk]
  .exfalso
   apply hc
   simp at q
   omega
 obtain ⟨hk,hi0,hil⟩:=hc
 obtain ⟨n,rfl⟩:∃n:Nat,i=n:=⟨i.toNat,by omega⟩
 have hn:n≤p.l.length:=by omega
 have hk2:¬p.k=2:=by omega
 obtain ⟨k,l⟩:=p
 simp only [Pln.k_mk,Pln.l_mk] at hk hk2 hn hil hl
 subst hk
 have hpo:∀x∈l,x.Ok:=c.p
 have r1:=tRun_ok s c.s d c.d (.mk 1 l) hl hpo (fun h=>absurd h hk2)
 have r2:=tRun_ok s c.s d c.d (.mk 1 (l.take n)) (by simp only [Pln.l_mk,List.length_take];omega) (fun x hx=>hpo x (List.mem_of_mem_take hx)) (fun h=>absurd h hk2)
 have r3:=tRun_ok s c.s d c.d (.mk 1 (l.drop n)) (by simp only [Pln.l_mk,List.length_drop];omega) (fun x hx=>hpo x (List.mem_of_mem_drop hx)) (fun h=>absurd h hk2)
 have hfit:=runV_fit s d (.mk 1 l) c.d hl hpo (fun h=>absurd h hk2)
 rw [runV_qry s d 1 l hk2] at r1 hfit
 rw [runV_qry s d 1 _ hk2] at r2 r3
 have happ:=qryF_app s d (rootS 1) l n
 have hA:=qryF_len s d (rootS 1) (l.take n)
 have hBl:=qryF_len s d (rootS 1) (l.drop n)
 rw [List.length_take] at hA
 rw [List.length_drop] at hBl
 obtain ⟨A,hAe⟩:∃A,qryF s d (rootS 1) (l.take n)=A:=⟨_,rfl⟩
 obtain ⟨B,hBe⟩:∃B,qryF s d (rootS 1) (l.drop n)=B:=⟨_,rfl⟩
 rw [hAe] at r2 happ hA
 rw [hBe] at r3 happ hBl
 rw [←happ] at r1 hfit
 have hroot:=rRoot_ok' 1
 have hr1:rootS 1=⟨#[81,117,101,114,121]⟩:=rfl
 rw [hr1] at r1 r2 r3 hroot hfit
 change ∀hp m,MeetsF Tryz.prog 17 hp m [supx s,dx d,plx (.mk 1 (l.take n))] (.tp [.ag [.i .i64 6,.i .i64 0,.s ⟨#[]⟩,.ds (mapC valC (txV ⟨#[81,117,101,114,121]⟩::A.map (·.2))),.ds (stC (⟨#[95,95,116]⟩::A.map (·.1)))],dx d]) at r2
 change ∀hp m,MeetsF Tryz.prog 17 hp m [supx s,dx d,plx (.mk 1 (l.drop n))] (.tp [.ag [.i .i64 6,.i .i64 0,.s ⟨#[]⟩,.ds (mapC valC (txV ⟨#[81,117,101,114,121]⟩::B.map (·.2))),.ds (stC (⟨#[95,95,116]⟩::B.map (·.1)))],dx d]) at r3
 have nA1:(txV ⟨#[81,117,101,114,121]⟩::A.map (·.2)).length=A.length+1:=by simp
 have nA2:((⟨#[95,95,116]⟩:ByteArray)::A.map (·.1)).length=A.length+1:=by simp
 have nB1:(txV ⟨#[81,117,101,114,121]⟩::B.map (·.2)).length=B.length+1:=by simp
 have nB2:((⟨#[95,95,116]⟩:ByteArray)::B.map (·.1)).length=B.length+1:=by simp
 have dB1:(txV ⟨#[81,117,101,114,121]⟩::B.map (·.2)).drop 1=B.map (·.2):=rfl
 have dB2:((⟨#[95,95,116]⟩:ByteArray)::B.map (·.1)).drop 1=B.map (·.1):=rfl
 have hVi:(objV ⟨#[81,117,101,114,121]⟩ (A++B)).items=(txV ⟨#[81,117,101,114,121]⟩::A.map (·.2))++B.map (·.2):=by simp [objV,Val.items_mk]
 have hVk:(objV ⟨#[81,117,101,114,121]⟩ (A++B)).keys=(⟨#[95,95,116]⟩::A.map (·.1))++B.map (·.1):=by simp [objV,Val.keys_mk,sT]
 have hV6:(objV ⟨#[81,117,101,114,121]⟩ (A++B)).k=6∧(objV ⟨#[81,117,101,114,121]⟩ (A++B)).n=0∧(objV ⟨#[81,117,101,114,121]⟩ (A++B)).s=⟨#[]⟩:=⟨rfl,rfl,rfl⟩
 have nb1:(B.map (·.2)).length=B.length:=by simp
 have nb2:(B.map (·.1)).length=B.length:=by simp
 obtain ⟨IA,hIA⟩:∃IA,txV ⟨#[81,117,101,114,121]⟩::A.map (·.2)=IA:=⟨_,rfl⟩
 obtain ⟨KA,hKA⟩:∃KA,(⟨#[95,95,116]⟩:ByteArray)::A.map (·.1)=KA:=⟨_,rfl⟩
 obtain ⟨IB,hIB⟩:∃IB,txV ⟨#[81,117,101,114,121]⟩::B.map (·.2)=IB:=⟨_,rfl⟩
 obtain ⟨KB,hKB⟩:∃KB,(⟨#[95,95,116]⟩:ByteArray)::B.map (·.1)=KB:=⟨_,rfl⟩
 obtain ⟨BI,hBI⟩:∃BI,B.map (·.2)=BI:=⟨_,rfl⟩
 obtain ⟨BK,hBK⟩:∃BK,B.map (·.1)=BK:=⟨_,rfl⟩
 rw [hIA] at r2 nA1 hVi
 rw [hKA] at r2 nA2 hVk
 rw [hIB] at r3 nB1 dB1
 rw [hKB] at r3 nB2 dB2
 rw [hBI] at dB1 hVi nb1
 rw [hBK] at dB2 hVk nb2
 obtain ⟨V,hV⟩:∃V,objV ⟨#[81,117,101,114,121]⟩ (A++B)=V:=⟨_,rfl⟩
 have h4:=same_ok V V (by rw [←hV];exact hfit) (by rw [←hV];exact hfit)
 rw [decide_eq_true (cmpV_refl _)] at h4
 rw [hV] at hVi hVk hV6
 change ∀hp m,MeetsF Tryz.prog 17 hp m [supx s,dx d,plx (.mk 1 l)] (.tp [vx (objV ⟨#[81,117,101,114,121]⟩ (A++B)),dx d]) at r1
 rw [hV] at r1
 have z3:(((B.length+1:Nat):Int)=0)=False:=eq_false (by omega)
 have z4:((1:Int)≤((B.length+1:Nat):Int))=True:=eq_true (by omega)
 have z5:(1≤B.length+1)=True:=eq_true (by omega)
 have q1:(A.length+1)*80≤140737488355328:=by omega
 have q2:(A.length+1)*16≤140737488355328:=by omega
 have tB1:IB.take (B.length+1)=IB:=zlk (by omega)
 have tB2:KB.take (B.length+1)=KB:=zlk (by omega)
 have q7:(A.length+(1+B.length))*80≤140737488355328:=by omega
 have q8:(A.length+(1+B.length))*16≤140737488355328:=by omega
 have q9:A.length+(1+B.length)≤9223372036854775807:=by omega
 have q3:(A.length+1+B.length)*80≤140737488355328:=by omega
 have q4:(A.length+1+B.length)*16≤140737488355328:=by omega
 have q5:A.length+1+B.length≤9223372036854775807:=by omega
 have q6:A.length+1≤9223372036854775807:=by omega
 have z1:((n:Int)<0)=False:=eq_false (by omega)
 have z2:((l.length:Int)<(n:Int))=False:=eq_false (by omega)
 refine meetsF Tryz.func7 (by kernel_rfl) cc7 cr7 rfl fun hf=>?_;unfold ck7
 simp (disch:=omega) only [ite_ne,go_sem,↓reduceIte,Za,Zb,Zc,Zd,Ze,reduceCtorEq,Zf,Zg,Zh,Zi,Zj,Zk]
 refine vcCall.f (h1 _ _) ?_
 simp (disch:=omega) only [ite_ne,z1,z2,decide_false,decide_true,go_sem,↓reduceIte,Za,Zb,Zc,Zd,Ze,reduceCtorEq,Zf,Zg,Zh,Zi,Zj,Zk]
 refine vcCall.f (r1 _ _) ?_
 simp (disch:=omega) only [ite_ne,z1,z2,hn,hi0,hil,go_sem,↓reduceIte,Za,Zb,Zc,Zd,Ze,reduceCtorEq,Zf,Zg,Zh,Zi,Zj,Zk]
 refine dCallR.f (fun _ hp' e=>r2 _ _) ?_
 simp (disch:=omega) only [ite_ne,z1,z2,hn,hi0,hil,Int.le_refl,Nat.le_refl,true_and,List.take_length,go_sem,↓reduceIte,Za,Zb,Zc,Zd,Ze,reduceCtorEq,Zf,Zg,Zh,Zi,Zj,Zk]
 refine dCallR.f (fun _ hp' e=>r3 _ _) ?_
 simp (disch:=omega) only [ite_ne,z1,z2,z3,z4,z5,hn,hi0,hil,nA1,nA2,nB1,nB2,nb1,nb2,dB1,dB2,q1,q2,q3,q4,q5,q6,Nat.zero_add,List.nil_append,List.take_length,tB1,tB2,q7,q8,q9,Int.le_refl,true_and,go_sem,↓reduceIte,Za,Zb,Zc,Zd,Ze,reduceCtorEq,Zf,Zg,Zh,Zi,Zj,Zk]
 have tV1:(IA++BI).take (A.length+(1+B.length))=IA++BI:=zlk (by rw [zld];omega)
 have tV2:(KA++BK).take (A.length+(1+B.length))=KA++BK:=zlk (by rw [zld];omega)
 have tL1:(A.length+(1+B.length)≤(IA++BI).length)=True:=eq_true (by rw [zld];omega)
 have tL2:(A.length+(1+B.length)≤(KA++BK).length)=True:=eq_true (by rw [zld];omega)
 refine vcCall.q (args':=[vx V,vx V]) (h4 _ _) ?_ ?_
 .simp (disch:=omega) only [ite_ne,tV1,tV2,tL1,tL2,hVi,hVk,hV6.1,hV6.2.1,hV6.2.2,go_sem,↓reduceIte,Za,Zb,Zc,Zd,Ze,reduceCtorEq,Zf,Zg,Zh,Zi,Zj,Zk]
  try rfl
 simp (disch:=omega) only [ite_ne,hV6.1,tL1,tL2,go_sem,↓reduceIte,Za,Zb,Zc,Zd,Ze,reduceCtorEq,Zf,Zg,Zh,Zi,Zj,Zk]
 refine gCall.f (fun _=>hroot _ _) ?_
 simp (disch:=omega) only [ite_ne,go_sem,↓reduceIte,Za,Zb,Zc,Zd,Ze,reduceCtorEq,Zf,Zg,Zh,Zi,Zj,Zk]
 refine gCall.f (fun _=>know21_ok _ _) ?_
 simp (disch:=omega) only [ite_ne,go_sem,↓reduceIte,Za,Zb,Zc,Zd,Ze,reduceCtorEq,Zf,Zg,Zh,Zi,Zj,Zk]
open Go.ChangeShapes Go.WideShapes Go.ChangeAt Go.RowKit
theorem iprt_law (αs:List AV) (h:ASs Tryz.prog [38,3] αs) (hw:avL αs≤1048576):MeetsF Tryz.prog 7 [] 0 αs (.b true):=by
 obtain ⟨α1,α2,rfl,h1,h2⟩:=as_n2 h
 simp only [avL] at hw
 obtain ⟨s,d,p,rfl,c⟩:=reads_case21 h1 (by omega)
 obtain ⟨x2,rfl,_⟩:=reads_num h2
 exact lawParts s d p x2 c [] 0
set_option maxRecDepth 100000 in
theorem iprt_lifted (os:Os) (started:os.Started) (H:Type) (enc:TypeId × Value→H) (F:Stop.Interp) :
  ReturnsInHanded {} Tryz.checked os 7 .any ((Rows.OpenSpec.upto Rows.idealPartsSpec).preRow enc Tryz.prog Tryz.f7 Rows.idealPartsUptoRow.domain false Rows.idealPartsUptoRow.laid) (((Rows.OpenSpec.upto Rows.idealPartsSpec).at F).post enc Tryz.prog Tryz.f7 false true false false):=by
 have hx:DataW.whole enc Tryz.prog ((laidWorld os).forCall (fun _ _=>0) ⟨#[],#[case0,.int .i64 0],[]⟩).memory Tryz.f7.params.toList Rows.idealPartsSpec.vars false #[case0,.int .i64 0].toList 8=some ([.agg [.agg [.nil,.agg [.nil],.nil,.nil],.agg [.nil,.nil],.agg [.lit (.int .i64 0),.nil]],.lit (.int .i64 0)],[],[]):=by kernel_rfl
 refine returnsInHanded_of_row (C:=Tryz.checked) (s:=Rows.OpenSpec.upto Rows.idealPartsSpec) own started (by kernel_rfl) Tryz.func7
  (witness_row_at (enc:=enc) (C:=Tryz.checked) false (laidWorld os) #[case0,.int .i64 0] rfl (by kernel_rfl) (by kernel_rfl) (by kernel_rfl)
   (OpenSpec.preRow_of_cond 8 hx (by kernel_rfl) (fun k hk=>by cases hk;kernel_rfl) (by kernel_rfl) (laid_met os _))) ?_
 intro W base args ds gs before hval hW hc1 hc2 hc3 hL _ _
 have hg:gs=[]:=by
  obtain ⟨p,q,hA,hV,_⟩:=hW
  exact (ChangeShapes.trodVars_none hV).1
 subst hg
 have hk:Rows.uptoBulkAll ds≤1048576:=by first | (simpa [Rows.uptoSmall] using hc1 _ rfl) | (simpa [Rows.uptoSmall] using hc2 _ rfl)
 refine law_core (s:=Rows.idealPartsSpec) (tb:=4) kids sized ?_ rfl (fun ds hl=>?_) rfl Tryz.underlying4 (m:=fun αs h hb=>iprt_law αs h (Nat.le_trans hb hk)) hval hW (pow10_laid hL)
 .exact par_lt (by kernel_rfl)
 .obtain ⟨d1,d2,rfl⟩:=ds_n2 (show ds.length=2 from hl)
  exact ⟨rfl,rfl,rfl⟩
theorem iprt_said:Rows.IdealPartsUptoSaid :=
 OpenClaim.holds_of_cond 7 Tryz.f7 rfl rfl rfl rfl rfl rfl rfl ⟨rfl,rfl,rfl,rfl,rfl⟩ rfl rfl rfl rfl rfl (by kernel_rfl) Tryz.func7 (by kernel_rfl)
  (of_decide_eq_true (by kernel_rfl)) (by unfold Func.isWrapper;first | (rw [if_pos (by decide +kernel)];kernel_rfl) | (rw [if_neg (by decide +kernel)];exact ⟨rfl,rfl⟩))
  (fun os started H enc _ F=>by rw [OpenClaim.pre_eq_preRow];exact iprt_lifted os started H enc F)
theorem iprt_plain (f:FuncId) (fn:Func) (hf:Tryz.pinned.checked.prog.funcNamed Rows.idealPartsUptoRow.func=some f) (hfn:Tryz.pinned.checked.prog.funcs[f]?=some fn) :
  false=Tryz.pinned.checked.prog.looks []∧∀(j:Nat) t,fn.params[j]?=some t→Tryz.pinned.checked.prog.wantsStandIn t=false:=by
 obtain rfl:f=7:=Option.some.inj ((show Tryz.prog.funcNamed Rows.idealPartsUptoRow.func=some 7 by kernel_rfl).symm.trans hf) |>.symm
 obtain rfl:fn=Tryz.f7:=(Option.some.inj (Tryz.func7.symm.trans hfn)).symm
 refine ⟨by kernel_rfl,fun j t ht=>?_⟩
 have key:∀t∈Tryz.f7.params.toList,Tryz.prog.wantsStandIn t=false:=by
  have key:(Tryz.f7.params.toList.all fun t=>!Tryz.prog.wantsStandIn t)=true:=by kernel_rfl
  intro t ht;simpa using List.all_eq_true.1 key t ht
 exact key t (Array.mem_toList_iff.2 (Array.mem_of_getElem? ht))
theorem iprt_holds:Rows.IdealPartsUptoCardSaid :=
 Claim7.holds_tied_plain_at .later [] _ _ _ _ iprt_said (fun _ h=>by cases h) (by kernel_rfl) (fun _ h=>by cases h) idealPartsUpto_row_tie rfl ⟨rfl,rfl⟩ (by kernel_rfl) rfl iprt_plain (by kernel_rfl)
end Go.Proofs.YthiifoleopdieaaGreatDoor
