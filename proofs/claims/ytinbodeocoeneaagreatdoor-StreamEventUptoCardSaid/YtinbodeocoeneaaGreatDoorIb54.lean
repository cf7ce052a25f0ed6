/- Proof. Conditions: none. -/
import Derived.Test.YtinbodeocoeneaaGreatDoorIb53
open Nat renaming reduceEqDiff→Za,reduceBEq→Zb,reduceAdd→Zc,reduceLeDiff→Zd,reduceLT→Ze,reduceMul→Zf,reduceSub→Zg
open Int renaming reduceEq→Zh,reduceLT→Zi,reduceLE→Zj,reduceToNat→Zk
namespace Go.Proofs.YtinbodeocoeneaaGreatDoor
open Go.Eng
set_option linter.all false
set_option maxRecDepth 20000
set_option maxHeartbeats 1000000
noncomputable def ownG (J:List Jn) (f:ByteArray):Nat→Nat→Option Nat
 | _,0=>none
 | g,n+1=>match findJ J sSub f (g:Int) with
  | none=>ownG J f (g+1) n
  | some y=>if y.x=true then ownG J f (g+1) n else some g
noncomputable def ownR (s:Sup) (p:Pln):Int × Int:=match srcP p with
 | none=>(0,2)
 | some x=>match ownG s.joins x.name 0 s.g.length with
  | none=>(0,8)
  | some g=>(g,0)
noncomputable def resO (r:Int × Int):AV:=.tp [.i .i64 r.1,.i .i64 r.2]
theorem tOwner_ok (s:Sup) (hs:SOk s) (hj0:JOk s) (hg:s.g.length≤1048576) (p:Pln) (hf0:∀x∈p.l,x.Fit) (hp:CH) (m:Nat):MeetsF Tryz.prog 18 hp m [supx s,plx p] (resO (ownR s p)):=by
 have hS:=sSource_ok p hf0
 rw [ownR]
 cases h:srcP p with
 | none =>
  rw [h,srcRP] at hS
  refine meetsF Tryz.func18 (by kernel_rfl) cc18 cr18 rfl fun hf=>?_;unfold ck18
  simp only [go_sem,↓reduceIte,Za,Zb,Zc,Zd,Ze,reduceCtorEq,Zf,Zg,Zh,Zi,Zj,Zk]
  refine vcCall.f (hS _ _) ?_
  simp only [go_sem,↓reduceIte,Za,Zb,Zc,Zd,Ze,reduceCtorEq,Zf,Zg,Zh,Zi,Zj,Zk]
  rfl
 | some x =>
  rw [h,srcRP] at hS
  have hFd:=fun j:Nat=>tFind2_ok s hs hj0 sSub x.name (j:Int)
  unfold sSub at hFd
  dsimp only
  obtain ⟨R,hR⟩:∃R,ownG s.joins x.name 0 s.g.length=R:=⟨_,rfl⟩
  rw [hR]
  refine meetsF Tryz.func18 (by kernel_rfl) cc18 cr18 rfl fun hf=>?_;unfold ck18
  simp only [go_sem,↓reduceIte,Za,Zb,Zc,Zd,Ze,reduceCtorEq,Zf,Zg,Zh,Zi,Zj,Zk]
  refine vcCall.f (hS _ _) ?_
  simp only [go_sem,↓reduceIte,Za,Zb,Zc,Zd,Ze,reduceCtorEq,Zf,Zg,Zh,Zi,Zj,Zk]
  refine loopg (fun q:Nat × Nat=>⟨[(2,.bx m 0),(6,.bx (m+2) 0),(21,.i .i64 s.g.length),(22,.i .i64 q.1)],
    (m,.bx [.ds (stC s.g),.ds (mapC dfC s.doc),.ds (mapC kyC s.keys),.ds (mapC jnC s.joins)])::(m+2,.bx [.s x.key,.s x.on,.s x.name,.ds (mapC argC x.args),.s x.tn,.ds (mapC in1 x.tw),.s x.label,.i .i64 x.initial,.ds (mapC pkC x.picks)])::hp,q.2⟩)
   (fun q=>q.1≤s.g.length∧m+3≤q.2∧R=ownG s.joins x.name q.1 (s.g.length - q.1)) (fun q=>s.g.length - q.1) (0,m+3) ?_ ?_ (fun ⟨j,n⟩ hj=>?_)
  .exact ⟨by simp,by simp,hR.symm⟩
  .refine weak_ok ?_ (Sub.cons ?_ (Sub.cons ?_ (Sub.base hf ?_))) (Nat.le_refl _)
   all_goals (simp (disch:=omega) only [ite_ne,go_sem,↓reduceIte,Za,Zb,Zc,Zd,Ze,reduceCtorEq,Zf,Zg,Zh,Zi,Zj,Zk])
  dsimp only at hj
  obtain ⟨hj1,hj2,hj3⟩:=hj
  have hmn:m≤n:=by omega
  have hm1:m<n:=by omega
  have hm2:m+2<n:=by omega
  simp (disch:=omega) only [ite_ne,go_sem,↓reduceIte,Za,Zb,Zc,Zd,Ze,reduceCtorEq,Zf,Zg,Zh,Zi,Zj,Zk]
  refine cdK_of (fun q=>?_) (fun q=>?_)
  .have q:j<s.g.length:=by simpa using q
   obtain ⟨k,hk⟩:∃k,s.g.length - j=k+1:=⟨s.g.length - j - 1,by omega⟩
   have hk2:s.g.length - (j+1)=k:=by omega
   rw [hk,ownG] at hj3
   unfold sSub at hj3
   have hFj:=hFd j
   rw [resJ] at hFj
   obtain ⟨o,ho⟩:∃o,findJ s.joins ⟨#[83,117,98,115,99,114,105,112,116,105,111,110]⟩ x.name (j:Int)=o:=⟨_,rfl⟩
   rw [ho] at hFj hj3
   simp (disch:=omega) only [ite_ne,q,go_sem,↓reduceIte,Za,Zb,Zc,Zd,Ze,reduceCtorEq,Zf,Zg,Zh,Zi,Zj,Zk]
   refine vcCall.f (hFj _ _) ?_
   cases o with
   | none =>
    dsimp only at hj3
    simp (disch:=omega) only [ite_ne,q,go_sem,↓reduceIte,Za,Zb,Zc,Zd,Ze,reduceCtorEq,Zf,Zg,Zh,Zi,Zj,Zk]
    refine ⟨(j+1,_),⟨by dsimp only;omega,by dsimp only;omega,by rw [hk2];exact hj3⟩,by dsimp only;omega,weakG_ok ?_ (SubG.cons ?_ ?_ ?_ (SubG.cons ?_ ?_ ?_ (SubG.base hf ?_ ?_ ?_)))⟩
    all_goals try ((simp (disch:=omega) only [ite_ne,wr64s j (by omega),hmn,hm1,hm2,and_self,go_sem,↓reduceIte,Za,Zb,Zc,Zd,Ze,reduceCtorEq,Zf,Zg,Zh,Zi,Zj,Zk]))
   | some y =>
    dsimp only at hj3
    obtain ⟨b,hb⟩:∃b,y.x=b:=⟨_,rfl⟩
    rw [hb] at hj3
    simp (disch:=omega) only [ite_ne,q,hb,go_sem,↓reduceIte,Za,Zb,Zc,Zd,Ze,reduceCtorEq,Zf,Zg,Zh,Zi,Zj,Zk]
    cases b with
    | true =>
     rw [if_pos rfl] at hj3
     simp (disch:=omega) only [ite_ne,go_sem,↓reduceIte,Za,Zb,Zc,Zd,Ze,reduceCtorEq,Zf,Zg,Zh,Zi,Zj,Zk]
     refine ⟨(j+1,_),⟨by dsimp only;omega,by dsimp only;omega,by rw [hk2];exact hj3⟩,by dsimp only;omega,weakG_ok ?_ (SubG.cons ?_ ?_ ?_ (SubG.cons ?_ ?_ ?_ (SubG.base hf ?_ ?_ ?_)))⟩
     all_goals try ((simp (disch:=omega) only [ite_ne,wr64s j (by omega),hmn,hm1,hm2,and_self,go_sem,↓reduceIte,Za,Zb,Zc,Zd,Ze,reduceCtorEq,Zf,Zg,Zh,Zi,Zj,Zk]))
    | false =>
     rw [if_neg (by simp)] at hj3
     subst hj3
     simp (disch:=omega) only [ite_ne,hmn,go_sem,↓reduceIte,Za,Zb,Zc,Zd,Ze,reduceCtorEq,Zf,Zg,Zh,Zi,Zj,Zk]
     try rfl
  .have q:j=s.g.length:=by simp at q;omega
   subst q
   rw [Nat.sub_self,ownG] at hj3
   subst hj3
   simp (disch:=omega) only [ite_ne,hmn,go_sem,↓reduceIte,Za,Zb,Zc,Zd,Ze,reduceCtorEq,Zf,Zg,Zh,Zi,Zj,Zk]
   try rfl
def kyUser:ByteArray:=⟨#[85,115,101,114]⟩
def kyName:ByteArray:=⟨#[110,97,109,101]⟩
def kyChg:ByteArray:=⟨#[99,104,97,110,103,101,100]⟩
def kyAda:ByteArray:=⟨#[65,100,97]⟩
def kyStr:ByteArray:=⟨#[83,116,114,105,110,103]⟩
def kyS:Sup:=.mk [⟨#[97]⟩,⟨#[98]⟩] [.mk 1 kyUser [] [] [] [] []] [] [.mk sSub kyChg 0 true [] [],.mk sSub kyChg 1 false [] []]
def kyD:Dat:=.mk [.mk kyUser [.mk kyName ⟨#[]⟩ (txV kyAda)]] []
def kyN:Pk:=.mk kyName kyUser kyName [] kyStr [] ⟨#[]⟩ (-1) []
def kyQ:Pk:=.mk kyChg sSub kyChg [] kyUser [] ⟨#[]⟩ (-1) [kyN]
def kyP:Pln:=.mk 3 [kyQ]
def kyR:Val:=.mk 8 0 ⟨#[]⟩ [] []
def kyU:Val:=.mk 6 0 ⟨#[]⟩ [txV kyUser,txV kyAda] [⟨#[95,95,116]⟩,kyName]
def kyB:Val:=.mk 6 0 ⟨#[]⟩ [txV sSub,kyU] [⟨#[95,95,116]⟩,kyChg]
theorem ky_src:srcP kyP=some kyQ:=rfl
theorem ky_srcN:srcP (.mk 1 [kyQ])=none:=rfl
theorem ky_own:ownR kyS kyP=(1,0):=rfl
theorem sample_ok (hp:CH) (m:Nat):MeetsF Tryz.prog 30 hp m [] (casex kyS kyD kyP):=by
 refine meetsF Tryz.func30 (by kernel_rfl) cc30 cr30 rfl fun hf=>?_;unfold ck30
 simp (disch:=omega) only [ite_ne,go_sem,↓reduceIte,Za,Zb,Zc,Zd,Ze,reduceCtorEq,Zf,Zg,Zh,Zi,Zj,Zk]
 refine vcCall.f (text_ok _ _ _) ?_
 simp only [go_sem,↓reduceIte,Za,Zb,Zc,Zd,Ze,reduceCtorEq,Zf,Zg,Zh,Zi,Zj,Zk]
 rfl
theorem ky_leaf (k n:Int) (t:ByteArray) (h0:-9223372036854775808≤n) (h1:n≤9223372036854775807) (ht:t.size≤1000):VSm (.mk k n t [] []) :=
 ⟨.mk _ (by simp [Val.items_mk]) (by simp [Val.keys_mk]) (by simp [Val.items_mk]),.mk _ (by simpa [Val.n_mk] using h0) (by simpa [Val.n_mk] using h1) (by simp [Val.items_mk]),by rw [avL_val];simp [Val.s_mk,Val.items_mk,Val.keys_mk,mapC,avLL];omega⟩
theorem kyS_ok:SOk kyS:=⟨by decide,by simp [kyS,Sup.joins_mk,Jn.req_mk],by decide⟩
theorem kyS_jok:JOk kyS:=by simp [JOk,kyS,Sup.joins_mk,Jn.req_mk,Jn.prov_mk]
theorem kyAda_sm:VSm (txV kyAda):=ky_leaf 3 0 kyAda (by omega) (by omega) (by decide)
theorem kyR_sm:VSm kyR:=ky_leaf 8 0 ⟨#[]⟩ (by omega) (by omega) (by decide)
theorem kyD_ok:DOk kyD 2:=by
 refine ⟨⟨.mk _ (by decide) (by decide) ?_ ?_,by decide,?_⟩,?_,?_,?_⟩
 all_goals simp [kyD,Dat.i_mk,Dat.w_mk,Itm.l_mk,Wri.c_mk,Cel.v_mk,kyAda_sm,kyAda_sm.f]
theorem kyN_ok:kyN.Ok:=.mk _ ⟨by simp [kyN,Pk.args],by decide,by decide⟩ (by decide) (by simp [kyN,Pk.picks])
theorem kyQ_ok:kyQ.Ok:=.mk _ ⟨by simp [kyQ,Pk.args],by decide,by decide⟩ (by decide) (by simp [kyQ,Pk.picks,kyN_ok])
theorem kyN_fit:kyN.Fit:=.mk _ (by decide) (by decide) (by decide) (by simp [kyN,Pk.args]) (by simp [kyN,Pk.picks])
theorem kyQ_fit:kyQ.Fit:=.mk _ (by decide) (by decide) (by decide) (by simp [kyQ,Pk.args]) (by simp [kyQ,Pk.picks,kyN_fit])
theorem kyB_fit:kyB.Fit:=.mk _ (by decide) (by decide) (by simp [kyB,Val.items_mk,tx_fit,kyU,Val.Fit];exact .mk _ (by decide) (by decide) (by simp [Val.items_mk,tx_fit]))
theorem know45_ok (hp:CH) (m:Nat):MeetsF Tryz.prog 11 hp m [] (.b true):=by
 have hfx:∀x∈kyP.l,x.Fit:=by simp [kyP,Pln.l_mk,kyQ_fit]
 have hox:∀x∈kyP.l,x.Ok:=by simp [kyP,Pln.l_mk,kyQ_ok]
 have hEv:=tEventF_ok kyS kyS_ok kyD kyD_ok (by decide) (by decide) kyP hfx (by decide) hox kyR kyR_sm
 rw [eventR,ky_src] at hEv
 have hEv:∀hp m,MeetsF Tryz.prog 14 hp m [supx kyS,dx kyD,plx kyP,vx kyR] (.tp [.ag [.i .i64 6,.i .i64 0,.s ⟨#[]⟩,.ds [[.i .i64 3,.i .i64 0,.s ⟨#[83,117,98,115,99,114,105,112,116,105,111,110]⟩,.ds [],.ds []],[.i .i64 6,.i .i64 0,.s ⟨#[]⟩,.ds [[.i .i64 3,.i .i64 0,.s ⟨#[85,115,101,114]⟩,.ds [],.ds []],[.i .i64 3,.i .i64 0,.s ⟨#[65,100,97]⟩,.ds [],.ds []]],.ds [[.s ⟨#[95,95,116]⟩],[.s ⟨#[110,97,109,101]⟩]]]],.ds [[.s ⟨#[95,95,116]⟩],[.s ⟨#[99,104,97,110,103,101,100]⟩]]],.i .i64 0]):=hEv
 have hEa:=tEach_ok kyS kyS_ok kyD kyD_ok (by decide) (by decide) kyP hfx (by decide) hox [zVal,kyR] (by decide) (by simp [kyR_sm,VSm.z])
 rw [eachR,ky_src] at hEa
 have hEa:∀hp m,MeetsF Tryz.prog 17 hp m [supx kyS,dx kyD,plx kyP,.ds (mapC valC [zVal,kyR])] (.tp [.ds [[.i .i64 6,.i .i64 0,.s ⟨#[]⟩,.ds [[.i .i64 3,.i .i64 0,.s ⟨#[83,117,98,115,99,114,105,112,116,105,111,110]⟩,.ds [],.ds []],[.i .i64 0,.i .i64 0,.s ⟨#[]⟩,.ds [],.ds []]],.ds [[.s ⟨#[95,95,116]⟩],[.s ⟨#[99,104,97,110,103,101,100]⟩]]],[.i .i64 6,.i .i64 0,.s ⟨#[]⟩,.ds [[.i .i64 3,.i .i64 0,.s ⟨#[83,117,98,115,99,114,105,112,116,105,111,110]⟩,.ds [],.ds []],[.i .i64 6,.i .i64 0,.s ⟨#[]⟩,.ds [[.i .i64 3,.i .i64 0,.s ⟨#[85,115,101,114]⟩,.ds [],.ds []],[.i .i64 3,.i .i64 0,.s ⟨#[65,100,97]⟩,.ds [],.ds []]],.ds [[.s ⟨#[95,95,116]⟩],[.s ⟨#[110,97,109,101]⟩]]]],.ds [[.s ⟨#[95,95,116]⟩],[.s ⟨#[99,104,97,110,103,101,100]⟩]]]],.i .i64 0]):=hEa
 have hOw:=tOwner_ok kyS kyS_ok kyS_jok (by decide) kyP hfx
 rw [ky_own] at hOw
 have hOw:∀hp m,MeetsF Tryz.prog 18 hp m [supx kyS,plx kyP] (.tp [.i .i64 1,.i .i64 0]):=hOw
 have hS1:=sSource_ok kyP hfx
 rw [ky_src] at hS1
 have hS1:∀hp m,MeetsF Tryz.prog 12 hp m [plx kyP] (.tp [.ag [.s ⟨#[99,104,97,110,103,101,100]⟩,.s ⟨#[83,117,98,115,99,114,105,112,116,105,111,110]⟩,.s ⟨#[99,104,97,110,103,101,100]⟩,.ds [],.s ⟨#[85,115,101,114]⟩,.ds [],.s ⟨#[]⟩,.i .i64 (-1),.ds (mapC pkC [kyN])],.i .i64 0]):=hS1
 have hS2:=sSource_ok (.mk 1 [kyQ]) (by simp [Pln.l_mk,kyQ_fit])
 rw [ky_srcN] at hS2
 have hS2:∀hp m,MeetsF Tryz.prog 12 hp m [plx (.mk 1 [kyQ])] (.tp [.ag [.s ⟨#[]⟩,.s ⟨#[]⟩,.s ⟨#[]⟩,.ds [],.s ⟨#[]⟩,.ds [],.s ⟨#[]⟩,.i .i64 0,.ds []],.i .i64 2]):=hS2
 have hSm:=same_ok kyB kyB kyB_fit kyB_fit
 rw [decide_eq_true (cmpV_refl _)] at hSm
 refine meetsF Tryz.func11 (by kernel_rfl) cc11 cr11 rfl fun hf=>?_;unfold ck11
 simp only [go_sem,↓reduceIte,Za,Zb,Zc,Zd,Ze,reduceCtorEq,Zf,Zg,Zh,Zi,Zj,Zk]
 refine vcCall.f (sample_ok _ _) ?_
 simp only [go_sem,↓reduceIte,Za,Zb,Zc,Zd,Ze,reduceCtorEq,Zf,Zg,Zh,Zi,Zj,Zk]
 refine vcCall.f (MeetsF.fix (args:=[supx kyS,dx kyD,plx kyP,vx kyR]) rfl (hEv _ _)) ?_
 simp only [go_sem,↓reduceIte,Za,Zb,Zc,Zd,Ze,reduceCtorEq,Zf,Zg,Zh,Zi,Zj,Zk]
 refine vcCall.f (MeetsF.fix (args:=[supx kyS,dx kyD,plx kyP,.ds (mapC valC [zVal,kyR])]) rfl (hEa _ _)) ?_
 simp only [go_sem,↓reduceIte,Za,Zb,Zc,Zd,Ze,reduceCtorEq,Zf,Zg,Zh,Zi,Zj,Zk]
 refine vcCall.f (MeetsF.fix (args:=[supx kyS,plx kyP]) rfl (hOw _ _)) ?_
 simp only [go_sem,↓reduceIte,Za,Zb,Zc,Zd,Ze,reduceCtorEq,Zf,Zg,Zh,Zi,Zj,Zk]
 refine vcCall.f (MeetsF.fix (args:=[plx kyP]) rfl (hS1 _ _)) ?_
 simp only [go_sem,↓reduceIte,Za,Zb,Zc,Zd,Ze,reduceCtorEq,Zf,Zg,Zh,Zi,Zj,Zk]
 refine vcCall.f (MeetsF.fix (args:=[plx (.mk 1 [kyQ])]) rfl (hS2 _ _)) ?_
 simp only [go_sem,↓reduceIte,Za,Zb,Zc,Zd,Ze,reduceCtorEq,Zf,Zg,Zh,Zi,Zj,Zk]
 refine dCall.f (fun _ _ _=>MeetsF.fix (args:=[vx kyB,vx kyB]) rfl (hSm _ _)) ?_
 simp only [go_sem,↓reduceIte,Za,Zb,Zc,Zd,Ze,reduceCtorEq,Zf,Zg,Zh,Zi,Zj,Zk]
set_option maxHeartbeats 2000000
structure TOk (s:Sup) (d:Dat) (p:Pln):Prop where
 c:COk s d p
 f:∀x∈p.l,x.Fit
 j:JOk s
 i:d.i.length≤1048576
 g:s.g.length≤1048576
theorem lawEvent (s:Sup) (d:Dat) (p:Pln) (c:TOk s d p) (v:Val) (hv:VSm v) (hp:CH) (m:Nat):MeetsF Tryz.prog 4 hp m [casex s d p,vx v] (.b true):=by
 have hT:=tEventF_ok s c.c.s d c.c.d c.i (by omega) p c.f c.c.l c.c.p v hv
 have hR:=rEvent_ok s c.c.s d c.c.d c.i (by omega) p c.c.l c.c.p v hv
 have hfit:((eventR s d p v).getD zVal).Fit:=by
  unfold eventR
  cases e:srcP p with
  | none=>exact zVal_fit
  | some x=>exact eventV_fit s d c.c.d c.i (by omega) p (srcP_k e) c.c.l c.c.p x v hv
 rw [resE] at hT hR
 obtain ⟨R,hRe⟩:∃R,(eventR s d p v).getD zVal=R:=⟨_,rfl⟩
 rw [hRe] at hT hR hfit
 obtain ⟨e,he⟩:∃e:Int,(if (eventR s d p v).isSome=true then (0:Int) else 2)=e:=⟨_,rfl⟩
 rw [he] at hT hR
 have hSm:=same_ok R R hfit hfit
 rw [decide_eq_true (cmpV_refl _)] at hSm
 have h1:=few45_ok s d p c.c v hv.f
 obtain ⟨b,hb⟩:∃b,few45 s d p v=b:=⟨_,rfl⟩
 rw [hb] at h1
 cases b
 .refine meetsF Tryz.func4 (by kernel_rfl) cc4 cr4 rfl fun hf=>?_;unfold ck4
  simp only [go_sem,↓reduceIte,Za,Zb,Zc,Zd,Ze,reduceCtorEq,Zf,Zg,Zh,Zi,Zj,Zk]
  refine vcCall.f (h1 _ _) ?_
  simp only [go_sem,↓reduceIte,Za,Zb,Zc,Zd,Ze,reduceCtorEq,Zf,Zg,Zh,Zi,Zj,Zk]
  refine vcCall.f (know45_ok _ _) ?_
  simp only [go_sem,↓reduceIte,Za,Zb,Zc,Zd,Ze,reduceCtorEq,Zf,Zg,Zh,Zi,Zj,Zk]
 refine meetsF Tryz.func4 (by kernel_rfl) cc4 cr4 rfl fun hf=>?_;unfold ck4
 simp only [go_sem,↓reduceIte,Za,Zb,Zc,Zd,Ze,reduceCtorEq,Zf,Zg,Zh,Zi,Zj,Zk]
 refine vcCall.f (h1 _ _) ?_
 simp only [go_sem,↓reduceIte,Za,Zb,Zc,Zd,Ze,reduceCtorEq,Zf,Zg,Zh,Zi,Zj,Zk]
 refine vcCall.f (hT _ _) ?_
 simp only [go_sem,↓reduceIte,Za,Zb,Zc,Zd,Ze,reduceCtorEq,Zf,Zg,Zh,Zi,Zj,Zk]
 refine vcCall.f (hR _ _) ?_
 simp only [go_sem,↓reduceIte,Za,Zb,Zc,Zd,Ze,reduceCtorEq,Zf,Zg,Zh,Zi,Zj,Zk]
 refine vcCall.f (hSm _ _) ?_
 simp only [go_sem,↓reduceIte,Za,Zb,Zc,Zd,Ze,reduceCtorEq,Zf,Zg,Zh,Zi,Zj,Zk]
 refine gCall.f (fun _=>know45_ok _ _) ?_
 simp only [go_sem,↓reduceIte,Za,Zb,Zc,Zd,Ze,reduceCtorEq,Zf,Zg,Zh,Zi,Zj,Zk]
theorem st1_one (b:ByteArray):1≤avL (st1 b):=by simp [st1,avL,avw]
theorem case_tok {s:Sup} {d:Dat} {p:Pln} (c:COk s d p) (hb:avw (casex s d p)≤1048576):TOk s d p:=by
 have hf:=case_fit c hb
 simp only [casex,avL,avw] at hb
 refine ⟨c,hf,fun y hy=>?_,?_,?_⟩
 .have h1:avL (jnC y)≤avLL (mapC jnC s.joins):=avLL_mem (List.mem_map_of_mem (f:=jnC) hy)
  have h2:=mapC_len_le st1_one y.req
  have h3:=mapC_len_le st1_one y.prov
  simp only [jnC,avL,avw,stC] at h1
  omega
 .have h1:=mapC_len_le (c:=itC) (fun x=>by simp [itC,avL,avw];omega) d.i
  omega
 .have h1:=mapC_len_le st1_one s.g
  simp only [stC] at hb
  omega
theorem reads45 {α:AV} (h:AS Tryz.prog 38 α) (hb:avw α≤1048576):∃s d p,α=casex s d p∧TOk s d p:=by
 obtain ⟨s,d,p,rfl,c⟩:=reads_case45 h hb
 exact ⟨s,d,p,rfl,case_tok c hb⟩
open Go.ChangeShapes Go.WideShapes Go.ChangeAt Go.RowKit
theorem sevt_law (αs:List AV) (h:ASs Tryz.prog [38,42] αs) (hw:avL αs≤1048576):MeetsF Tryz.prog 4 [] 0 αs (.b true):=by
 obtain ⟨α1,α2,rfl,h1,h2⟩:=as_n2 h
 simp only [avL] at hw
 obtain ⟨s,d,p,rfl,c⟩:=reads45 h1 (by omega)
 obtain ⟨v,rfl,hv⟩:=readsS_val h2 (by omega)
 exact lawEvent s d p c v hv [] 0
set_option maxRecDepth 100000 in
theorem sevt_lifted (os:Os) (started:os.Started) (H:Type) (enc:TypeId × Value→H) (F:Stop.Interp) :
  ReturnsInHanded {} Tryz.checked os 4 .any ((Rows.OpenSpec.upto Rows.streamEventSpec).preRow enc Tryz.prog Tryz.f4 Rows.streamEventUptoRow.domain false Rows.streamEventUptoRow.laid) (((Rows.OpenSpec.upto Rows.streamEventSpec).at F).post enc Tryz.prog Tryz.f4 false true false false):=by
 have hx:DataW.whole enc Tryz.prog ((laidWorld os).forCall (fun _ _=>0) ⟨#[],#[case0,val0],[]⟩).memory Tryz.f4.params.toList Rows.streamEventSpec.vars false #[case0,val0].toList 8=some ([.agg [.agg [.nil,.agg [.nil],.nil,.nil],.agg [.nil,.nil],.agg [.lit (.int .i64 0),.nil]],.agg [.lit (.int .i64 0),.lit (.int .i64 0),.lit (.string []),.nil,.nil]],[],[]):=by kernel_rfl
 refine returnsInHanded_of_row (C:=Tryz.checked) (s:=Rows.OpenSpec.upto Rows.streamEventSpec) own started (by kernel_rfl) Tryz.func4
  (witness_row_at (enc:=enc) (C:=Tryz.checked) false (laidWorld os) #[case0,val0] rfl (by kernel_rfl) (by kernel_rfl) (by kernel_rfl)
   (OpenSpec.preRow_of_cond 8 hx (by kernel_rfl) (fun k hk=>by cases hk;kernel_rfl) (by kernel_rfl) (laid_met os _))) ?_
 intro W base args ds gs before hval hW hc1 hc2 hc3 hL _ _
 have hg:gs=[]:=by
  obtain ⟨p,q,hA,hV,_⟩:=hW
  exact (ChangeShapes.trodVars_none hV).1
 subst hg
 have hk:Rows.uptoBulkAll ds≤1048576:=by first | (simpa [Rows.uptoSmall] using hc1 _ rfl) | (simpa [Rows.uptoSmall] using hc2 _ rfl)
 refine law_core (s:=Rows.streamEventSpec) (tb:=4) kids sized ?_ rfl (fun ds hl=>?_) rfl Tryz.underlying4 (m:=fun αs h hb=>sevt_law αs h (Nat.le_trans hb hk)) hval hW (pow10_laid hL)
 .exact par_lt (by kernel_rfl)
 .obtain ⟨d1,d2,rfl⟩:=ds_n2 (show ds.length=2 from hl)
  exact ⟨rfl,rfl,rfl⟩
theorem sevt_said:Rows.StreamEventUptoSaid :=
 OpenClaim.holds_of_cond 4 Tryz.f4 rfl rfl rfl rfl rfl rfl rfl ⟨rfl,rfl,rfl,rfl,rfl⟩ rfl rfl rfl rfl rfl (by kernel_rfl) Tryz.func4 (by kernel_rfl)
  (of_decide_eq_true (by kernel_rfl)) (by unfold Func.isWrapper;first | (rw [if_pos (by decide +kernel)];kernel_rfl) | (rw [if_neg (by decide +kernel)];exact ⟨rfl,rfl⟩))
  (fun os started H enc _ F=>by rw [OpenClaim.pre_eq_preRow];exact sevt_lifted os started H enc F)
theorem sevt_plain (f:FuncId) (fn:Func) (hf:Tryz.pinned.checked.prog.funcNamed Rows.streamEventUptoRow.func=some f) (hfn:Tryz.pinned.checked.prog.funcs[f]?=some fn) :
  false=Tryz.pinned.checked.prog.looks []∧∀(j:Nat) t,fn.params[j]?=some t→Tryz.pinned.checked.prog.wantsStandIn t=false:=by
 obtain rfl:f=4:=Option.some.inj ((show Tryz.prog.funcNamed Rows.streamEventUptoRow.func=some 4 by kernel_rfl).symm.trans hf) |>.symm
 obtain rfl:fn=Tryz.f4:=(Option.some.inj (Tryz.func4.symm.trans hfn)).symm
 refine ⟨by kernel_rfl,fun j t ht=>?_⟩
 have key:∀t∈Tryz.f4.params.toList,Tryz.prog.wantsStandIn t=false:=by
  have key:(Tryz.f4.params.toList.all fun t=>!Tryz.prog.wantsStandIn t)=true:=by kernel_rfl
  intro t ht;simpa using List.all_eq_true.1 key t ht
 exact key t (Array.mem_toList_iff.2 (Array.mem_of_getElem? ht))
theorem sevt_holds:Rows.StreamEventUptoCardSaid :=
 Claim7.holds_tied_plain_at .later [] _ _ _ _ sevt_said (fun _ h=>by cases h) (by kernel_rfl) (fun _ h=>by cases h) streamEventUpto_row_tie rfl ⟨rfl,rfl⟩ (by kernel_rfl) rfl sevt_plain (by kernel_rfl)
end Go.Proofs.YtinbodeocoeneaaGreatDoor
