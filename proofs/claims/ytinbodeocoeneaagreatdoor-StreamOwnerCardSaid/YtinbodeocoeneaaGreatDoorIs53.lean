/- Proof. Conditions: none. -/
import Derived.Test.YtinbodeocoeneaaGreatDoorIs52
open Nat renaming reduceEqDiff→Za,reduceBEq→Zb,reduceAdd→Zc,reduceLeDiff→Zd,reduceLT→Ze,reduceMul→Zf,reduceSub→Zg
open Int renaming reduceEq→Zh,reduceLT→Zi,reduceLE→Zj,reduceToNat→Zk
open List renaming mem_of_getElem?→zla
open Nat renaming le_refl→zna
namespace Go.Proofs.YtinbodeocoeneaaGreatDoor
open Go.Eng
set_option linter.all false
set_option maxRecDepth 20000
set_option maxHeartbeats 1000000
def kyUser:ByteArray:=⟨#[85,115,101,114]⟩
def kyName:ByteArray:=⟨#[110,97,109,101]⟩
def kyChg:ByteArray:=⟨#[99,104,97,110,103,101,100]⟩
def kyAda:ByteArray:=⟨#[65,100,97]⟩
def kyStr:ByteArray:=⟨#[83,116,114,105,110,103]⟩
def kyS:Sup:=.mk [⟨#[97]⟩,⟨#[98]⟩] [.mk 1 kyUser [] [] [] [] []] [] [.mk sSub kyChg 0 true [] [],.mk sSub kyChg 1 false [] []]
def kyD:Dat:=.mk [.mk kyUser [.mk kyName ⟨#[]⟩ (txV kyAda)]] []
def kyN:Pk:=.mk kyName kyUser kyName [] kyStr [] ⟨#[]⟩ (-1) []
def kyQ:Pk:=.mk kyChg sSub kyChg [] kyUser [] ⟨#[]⟩ (-1) [kyN]
def kyP:Pln:=.mk 3 [kyQ]
def kyR:Val:=.mk 8 0 ⟨#[]⟩ [] []
def kyU:Val:=.mk 6 0 ⟨#[]⟩ [txV kyUser,txV kyAda] [⟨#[95,95,116]⟩,kyName]
def kyB:Val:=.mk 6 0 ⟨#[]⟩ [txV sSub,kyU] [⟨#[95,95,116]⟩,kyChg]
theorem ky_src:srcP kyP=some kyQ:=rfl
theorem ky_srcN:srcP (.mk 1 [kyQ])=none:=rfl
theorem ky_own:ownR kyS kyP=(1,0):=rfl
theorem sample_ok (hp:CH) (m:Nat):MeetsF Tryz.prog 30 hp m [] (casex kyS kyD kyP):=by
 refine meetsF Tryz.func30 (by kernel_rfl) cc30 cr30 rfl fun hf=>?_;unfold ck30
 simp (disch:=omega) only [ite_ne,go_sem,↓reduceIte,Za,Zb,Zc,Zd,Ze,reduceCtorEq,Zf,Zg,Zh,Zi,Zj,Zk]
 refine vcCall.f (text_ok _ _ _) ?_
 simp only [go_sem,↓reduceIte,Za,Zb,Zc,Zd,Ze,reduceCtorEq,Zf,Zg,Zh,Zi,Zj,Zk]
 rfl
theorem ky_leaf (k n:Int) (t:ByteArray) (h0:-9223372036854775808≤n) (h1:n≤9223372036854775807) (ht:t.size≤1000):VSm (.mk k n t [] []) :=
 ⟨.mk _ (by simp [Val.items_mk]) (by simp [Val.keys_mk]) (by simp [Val.items_mk]),.mk _ (by simpa [Val.n_mk] using h0) (by simpa [Val.n_mk] using h1) (by simp [Val.items_mk]),by rw [avL_val];simp [Val.s_mk,Val.items_mk,Val.keys_mk,mapC,avLL];omega⟩
theorem kyS_ok:SOk kyS:=⟨by decide,by simp [kyS,Sup.joins_mk,Jn.req_mk],by decide⟩
theorem kyS_jok:JOk kyS:=by simp [JOk,kyS,Sup.joins_mk,Jn.req_mk,Jn.prov_mk]
theorem kyAda_sm:VSm (txV kyAda):=ky_leaf 3 0 kyAda (by omega) (by omega) (by decide)
theorem kyR_sm:VSm kyR:=ky_leaf 8 0 ⟨#[]⟩ (by omega) (by omega) (by decide)
theorem kyD_ok:DOk kyD 2:=by
 refine ⟨⟨.mk _ (by decide) (by decide) ?_ ?_,by decide,?_⟩,?_,?_,?_⟩
 all_goals simp [kyD,Dat.i_mk,Dat.w_mk,Itm.l_mk,Wri.c_mk,Cel.v_mk,kyAda_sm,kyAda_sm.f]
theorem kyN_ok:kyN.Ok:=.mk _ ⟨by simp [kyN,Pk.args],by decide,by decide⟩ (by decide) (by simp [kyN,Pk.picks])
theorem kyQ_ok:kyQ.Ok:=.mk _ ⟨by simp [kyQ,Pk.args],by decide,by decide⟩ (by decide) (by simp [kyQ,Pk.picks,kyN_ok])
theorem kyN_fit:kyN.Fit:=.mk _ (by decide) (by decide) (by decide) (by simp [kyN,Pk.args]) (by simp [kyN,Pk.picks])
theorem kyQ_fit:kyQ.Fit:=.mk _ (by decide) (by decide) (by decide) (by simp [kyQ,Pk.args]) (by simp [kyQ,Pk.picks,kyN_fit])
theorem kyB_fit:kyB.Fit:=.mk _ (by decide) (by decide) (by simp [kyB,Val.items_mk,tx_fit,kyU,Val.Fit];exact .mk _ (by decide) (by decide) (by simp [Val.items_mk,tx_fit]))
theorem know45_ok (hp:CH) (m:Nat):MeetsF Tryz.prog 11 hp m [] (.b true):=by
 have hfx:∀x∈kyP.l,x.Fit:=by simp [kyP,Pln.l_mk,kyQ_fit]
 have hox:∀x∈kyP.l,x.Ok:=by simp [kyP,Pln.l_mk,kyQ_ok]
 have hEv:=tEventF_ok kyS kyS_ok kyD kyD_ok (by decide) (by decide) kyP hfx (by decide) hox kyR kyR_sm
 rw [eventR,ky_src] at hEv
 have hEv:∀hp m,MeetsF Tryz.prog 14 hp m [supx kyS,dx kyD,plx kyP,vx kyR] (.tp [.ag [.i .i64 6,.i .i64 0,.s ⟨#[]⟩,.ds [[.i .i64 3,.i .i64 0,.s ⟨#[83,117,98,115,99,114,105,112,116,105,111,110]⟩,.ds [],.ds []],[.i .i64 6,.i .i64 0,.s ⟨#[]⟩,.ds [[.i .i64 3,.i .i64 0,.s ⟨#[85,115,101,114]⟩,.ds [],.ds []],[.i .i64 3,.i .i64 0,.s ⟨#[65,100,97]⟩,.ds [],.ds []]],.ds [[.s ⟨#[95,95,116]⟩],[.s ⟨#[110,97,109,101]⟩]]]],.ds [[.s ⟨#[95,95,116]⟩],[.s ⟨#[99,104,97,110,103,101,100]⟩]]],.i .i64 0]):=hEv
 have hEa:=tEach_ok kyS kyS_ok kyD kyD_ok (by decide) (by decide) kyP hfx (by decide) hox [zVal,kyR] (by decide) (by simp [kyR_sm,VSm.z])
 rw [eachR,ky_src] at hEa
 have hEa:∀hp m,MeetsF Tryz.prog 17 hp m [supx kyS,dx kyD,plx kyP,.ds (mapC valC [zVal,kyR])] (.tp [.ds [[.i .i64 6,.i .i64 0,.s ⟨#[]⟩,.ds [[.i .i64 3,.i .i64 0,.s ⟨#[83,117,98,115,99,114,105,112,116,105,111,110]⟩,.ds [],.ds []],[.i .i64 0,.i .i64 0,.s ⟨#[]⟩,.ds [],.ds []]],.ds [[.s ⟨#[95,95,116]⟩],[.s ⟨#[99,104,97,110,103,101,100]⟩]]],[.i .i64 6,.i .i64 0,.s ⟨#[]⟩,.ds [[.i .i64 3,.i .i64 0,.s ⟨#[83,117,98,115,99,114,105,112,116,105,111,110]⟩,.ds [],.ds []],[.i .i64 6,.i .i64 0,.s ⟨#[]⟩,.ds [[.i .i64 3,.i .i64 0,.s ⟨#[85,115,101,114]⟩,.ds [],.ds []],[.i .i64 3,.i .i64 0,.s ⟨#[65,100,97]⟩,.ds [],.ds []]],.ds [[.s ⟨#[95,95,116]⟩],[.s ⟨#[110,97,109,101]⟩]]]],.ds [[.s ⟨#[95,95,116]⟩],[.s ⟨#[99,104,97,110,103,101,100]⟩]]]],.i .i64 0]):=hEa
 have hOw:=tOwner_ok kyS kyS_ok.j kyS_jok (by decide) kyP hfx
 rw [ky_own] at hOw
 have hOw:∀hp m,MeetsF Tryz.prog 18 hp m [supx kyS,plx kyP] (.tp [.i .i64 1,.i .i64 0]):=hOw
 have hS1:=sSource_ok kyP hfx
 rw [ky_src] at hS1
 have hS1:∀hp m,MeetsF Tryz.prog 12 hp m [plx kyP] (.tp [.ag [.s ⟨#[99,104,97,110,103,101,100]⟩,.s ⟨#[83,117,98,115,99,114,105,112,116,105,111,110]⟩,.s ⟨#[99,104,97,110,103,101,100]⟩,.ds [],.s ⟨#[85,115,101,114]⟩,.ds [],.s ⟨#[]⟩,.i .i64 (-1),.ds (mapC pkC [kyN])],.i .i64 0]):=hS1
 have hS2:=sSource_ok (.mk 1 [kyQ]) (by simp [Pln.l_mk,kyQ_fit])
 rw [ky_srcN] at hS2
 have hS2:∀hp m,MeetsF Tryz.prog 12 hp m [plx (.mk 1 [kyQ])] (.tp [.ag [.s ⟨#[]⟩,.s ⟨#[]⟩,.s ⟨#[]⟩,.ds [],.s ⟨#[]⟩,.ds [],.s ⟨#[]⟩,.i .i64 0,.ds []],.i .i64 2]):=hS2
 have hSm:=same_ok kyB kyB kyB_fit kyB_fit
 rw [decide_eq_true (cmpV_refl _)] at hSm
 refine meetsF Tryz.func11 (by kernel_rfl) cc11 cr11 rfl fun hf=>?_;unfold ck11
 simp only [go_sem,↓reduceIte,Za,Zb,Zc,Zd,Ze,reduceCtorEq,Zf,Zg,Zh,Zi,Zj,Zk]
 refine vcCall.f (sample_ok _ _) ?_
 simp only [go_sem,↓reduceIte,Za,Zb,Zc,Zd,Ze,reduceCtorEq,Zf,Zg,Zh,Zi,Zj,Zk]
 refine vcCall.f (MeetsF.fix (args:=[supx kyS,dx kyD,plx kyP,vx kyR]) rfl (hEv _ _)) ?_
 simp only [go_sem,↓reduceIte,Za,Zb,Zc,Zd,Ze,reduceCtorEq,Zf,Zg,Zh,Zi,Zj,Zk]
 refine vcCall.f (MeetsF.fix (args:=[supx kyS,dx kyD,plx kyP,.ds (mapC valC [zVal,kyR])]) rfl (hEa _ _)) ?_
 simp only [go_sem,↓reduceIte,Za,Zb,Zc,Zd,Ze,reduceCtorEq,Zf,Zg,Zh,Zi,Zj,Zk]
 refine vcCall.f (MeetsF.fix (args:=[supx kyS,plx kyP]) rfl (hOw _ _)) ?_
 simp only [go_sem,↓reduceIte,Za,Zb,Zc,Zd,Ze,reduceCtorEq,Zf,Zg,Zh,Zi,Zj,Zk]
 refine vcCall.f (MeetsF.fix (args:=[plx kyP]) rfl (hS1 _ _)) ?_
 simp only [go_sem,↓reduceIte,Za,Zb,Zc,Zd,Ze,reduceCtorEq,Zf,Zg,Zh,Zi,Zj,Zk]
 refine vcCall.f (MeetsF.fix (args:=[plx (.mk 1 [kyQ])]) rfl (hS2 _ _)) ?_
 simp only [go_sem,↓reduceIte,Za,Zb,Zc,Zd,Ze,reduceCtorEq,Zf,Zg,Zh,Zi,Zj,Zk]
 refine dCall.f (fun _ _ _=>MeetsF.fix (args:=[vx kyB,vx kyB]) rfl (hSm _ _)) ?_
 simp only [go_sem,↓reduceIte,Za,Zb,Zc,Zd,Ze,reduceCtorEq,Zf,Zg,Zh,Zi,Zj,Zk]
set_option maxHeartbeats 2000000
theorem lawSource (s:Sup) (d:Dat) (p:Pln) (c:TOk s d p) (hp:CH) (m:Nat):MeetsF Tryz.prog 3 hp m [casex s d p] (.b true):=by
 have h1:=few45_ok s d p c.sd c.f c.d c.l c.p zVal zVal_fit
 obtain ⟨b,hb⟩:∃b,few45 s d p zVal=b:=⟨_,rfl⟩
 rw [hb] at h1
 cases b
 .refine meetsF Tryz.func3 (by kernel_rfl) cc3 cr3 rfl fun hf=>?_;unfold ck3
  simp only [go_sem,↓reduceIte,Za,Zb,Zc,Zd,Ze,reduceCtorEq,Zf,Zg,Zh,Zi,Zj,Zk]
  refine vcCall.f (MeetsF.cv (args':=[casex s d p,vx zVal]) ?_ (h1 _ _)) ?_
  .simp only [go_sem,↓reduceIte,Za,Zb,Zc,Zd,Ze,reduceCtorEq,Zf,Zg,Zh,Zi,Zj,Zk]
   try rfl
  simp only [go_sem,↓reduceIte,Za,Zb,Zc,Zd,Ze,reduceCtorEq,Zf,Zg,Zh,Zi,Zj,Zk]
  refine vcCall.f (know45_ok _ _) ?_
  simp only [go_sem,↓reduceIte,Za,Zb,Zc,Zd,Ze,reduceCtorEq,Zf,Zg,Zh,Zi,Zj,Zk]
 have hS:=sSource_ok p c.p
 have hR:=rSource_ok p
 obtain ⟨o,ho⟩:∃o,srcP p=o:=⟨_,rfl⟩
 rw [ho,srcRP] at hS hR
 obtain ⟨x,hx⟩:∃x,o.getD zPk=x:=⟨_,rfl⟩
 rw [hx] at hS hR
 obtain ⟨e,he⟩:∃e:Int,(if o.isSome=true then (0:Int) else 2)=e:=⟨_,rfl⟩
 rw [he] at hS hR
 refine meetsF Tryz.func3 (by kernel_rfl) cc3 cr3 rfl fun hf=>?_;unfold ck3
 simp only [go_sem,↓reduceIte,Za,Zb,Zc,Zd,Ze,reduceCtorEq,Zf,Zg,Zh,Zi,Zj,Zk]
 refine vcCall.f (MeetsF.cv (args':=[casex s d p,vx zVal]) ?_ (h1 _ _)) ?_
 .simp only [go_sem,↓reduceIte,Za,Zb,Zc,Zd,Ze,reduceCtorEq,Zf,Zg,Zh,Zi,Zj,Zk]
  try rfl
 simp only [go_sem,↓reduceIte,Za,Zb,Zc,Zd,Ze,reduceCtorEq,Zf,Zg,Zh,Zi,Zj,Zk]
 refine vcCall.f (hS _ _) ?_
 simp only [go_sem,↓reduceIte,Za,Zb,Zc,Zd,Ze,reduceCtorEq,Zf,Zg,Zh,Zi,Zj,Zk]
 refine vcCall.f (hR _ _) ?_
 simp only [go_sem,↓reduceIte,Za,Zb,Zc,Zd,Ze,reduceCtorEq,Zf,Zg,Zh,Zi,Zj,Zk]
 refine gCall.f (fun _=>know45_ok _ _) ?_
 simp only [go_sem,↓reduceIte,Za,Zb,Zc,Zd,Ze,reduceCtorEq,Zf,Zg,Zh,Zi,Zj,Zk]
theorem lawOwner (s:Sup) (d:Dat) (p:Pln) (c:TOk s d p) (hp:CH) (m:Nat):MeetsF Tryz.prog 6 hp m [casex s d p] (.b true):=by
 have h1:=few45_ok s d p c.sd c.f c.d c.l c.p zVal zVal_fit
 obtain ⟨b,hb⟩:∃b,few45 s d p zVal=b:=⟨_,rfl⟩
 rw [hb] at h1
 cases b
 .refine meetsF Tryz.func6 (by kernel_rfl) cc6 cr6 rfl fun hf=>?_;unfold ck6
  simp only [go_sem,↓reduceIte,Za,Zb,Zc,Zd,Ze,reduceCtorEq,Zf,Zg,Zh,Zi,Zj,Zk]
  refine vcCall.f (MeetsF.cv (args':=[casex s d p,vx zVal]) ?_ (h1 _ _)) ?_
  .simp only [go_sem,↓reduceIte,Za,Zb,Zc,Zd,Ze,reduceCtorEq,Zf,Zg,Zh,Zi,Zj,Zk]
   try rfl
  simp only [go_sem,↓reduceIte,Za,Zb,Zc,Zd,Ze,reduceCtorEq,Zf,Zg,Zh,Zi,Zj,Zk]
  refine vcCall.f (know45_ok _ _) ?_
  simp only [go_sem,↓reduceIte,Za,Zb,Zc,Zd,Ze,reduceCtorEq,Zf,Zg,Zh,Zi,Zj,Zk]
 by_cases g0:s.g.length≤20
 .have hjl:s.joins.length≤1048576:=by have:=few_joins hb;omega
  have hT:=tOwner_ok s hjl c.j (by omega) p c.p
  have hR:=rOwner_ok s hjl c.j (by omega) p
  obtain ⟨o,ho⟩:∃o,ownR s p=o:=⟨_,rfl⟩
  rw [ho,resO] at hT hR
  refine meetsF Tryz.func6 (by kernel_rfl) cc6 cr6 rfl fun hf=>?_;unfold ck6
  simp only [go_sem,↓reduceIte,Za,Zb,Zc,Zd,Ze,reduceCtorEq,Zf,Zg,Zh,Zi,Zj,Zk]
  refine vcCall.f (MeetsF.cv (args':=[casex s d p,vx zVal]) ?_ (h1 _ _)) ?_
  .simp only [go_sem,↓reduceIte,Za,Zb,Zc,Zd,Ze,reduceCtorEq,Zf,Zg,Zh,Zi,Zj,Zk]
   try rfl
  simp only [go_sem,↓reduceIte,Za,Zb,Zc,Zd,Ze,reduceCtorEq,Zf,Zg,Zh,Zi,Zj,Zk]
  refine cdK_of (fun q=>?_) (fun q=>?_)
  .simp only [go_sem,↓reduceIte,Za,Zb,Zc,Zd,Ze,reduceCtorEq,Zf,Zg,Zh,Zi,Zj,Zk]
   refine vcCall.f (know45_ok _ _) ?_
   simp only [go_sem,↓reduceIte,Za,Zb,Zc,Zd,Ze,reduceCtorEq,Zf,Zg,Zh,Zi,Zj,Zk]
  simp only [go_sem,↓reduceIte,Za,Zb,Zc,Zd,Ze,reduceCtorEq,Zf,Zg,Zh,Zi,Zj,Zk]
  refine vcCall.f (hT _ _) ?_
  simp only [go_sem,↓reduceIte,Za,Zb,Zc,Zd,Ze,reduceCtorEq,Zf,Zg,Zh,Zi,Zj,Zk]
  refine vcCall.f (hR _ _) ?_
  simp only [go_sem,↓reduceIte,Za,Zb,Zc,Zd,Ze,reduceCtorEq,Zf,Zg,Zh,Zi,Zj,Zk]
  refine gCall.f (fun _=>know45_ok _ _) ?_
  simp only [go_sem,↓reduceIte,Za,Zb,Zc,Zd,Ze,reduceCtorEq,Zf,Zg,Zh,Zi,Zj,Zk]
 .refine meetsF Tryz.func6 (by kernel_rfl) cc6 cr6 rfl fun hf=>?_;unfold ck6
  simp only [go_sem,↓reduceIte,Za,Zb,Zc,Zd,Ze,reduceCtorEq,Zf,Zg,Zh,Zi,Zj,Zk]
  refine vcCall.f (MeetsF.cv (args':=[casex s d p,vx zVal]) ?_ (h1 _ _)) ?_
  .simp only [go_sem,↓reduceIte,Za,Zb,Zc,Zd,Ze,reduceCtorEq,Zf,Zg,Zh,Zi,Zj,Zk]
   try rfl
  simp only [go_sem,↓reduceIte,Za,Zb,Zc,Zd,Ze,reduceCtorEq,Zf,Zg,Zh,Zi,Zj,Zk]
  refine cdK_of (fun q=>?_) (fun q=>?_)
  .simp only [go_sem,↓reduceIte,Za,Zb,Zc,Zd,Ze,reduceCtorEq,Zf,Zg,Zh,Zi,Zj,Zk]
   refine vcCall.f (know45_ok _ _) ?_
   simp only [go_sem,↓reduceIte,Za,Zb,Zc,Zd,Ze,reduceCtorEq,Zf,Zg,Zh,Zi,Zj,Zk]
  .exfalso
   simp at q
   omega
end Go.Proofs.YtinbodeocoeneaaGreatDoor
