/- Proof. Conditions: none. -/
import Derived.Test.YtinbodeocoeneaaGreatDoorIc52
open Nat renaming reduceEqDiff→Za,reduceBEq→Zb,reduceAdd→Zc,reduceLeDiff→Zd,reduceLT→Ze,reduceMul→Zf,reduceSub→Zg
open Int renaming reduceEq→Zh,reduceLT→Zi,reduceLE→Zj,reduceToNat→Zk
open List renaming mem_of_getElem?→zla
open Nat renaming le_refl→zna
namespace Go.Proofs.YtinbodeocoeneaaGreatDoor
open Go.Eng
set_option linter.all false
set_option maxRecDepth 20000
set_option maxHeartbeats 1000000
def kyUser:ByteArray:=⟨#[85,115,101,114]⟩
def kyName:ByteArray:=⟨#[110,97,109,101]⟩
def kyChg:ByteArray:=⟨#[99,104,97,110,103,101,100]⟩
def kyAda:ByteArray:=⟨#[65,100,97]⟩
def kyStr:ByteArray:=⟨#[83,116,114,105,110,103]⟩
def kyS:Sup:=.mk [⟨#[97]⟩,⟨#[98]⟩] [.mk 1 kyUser [] [] [] [] []] [] [.mk sSub kyChg 0 true [] [],.mk sSub kyChg 1 false [] []]
def kyD:Dat:=.mk [.mk kyUser [.mk kyName ⟨#[]⟩ (txV kyAda)]] []
def kyN:Pk:=.mk kyName kyUser kyName [] kyStr [] ⟨#[]⟩ (-1) []
def kyQ:Pk:=.mk kyChg sSub kyChg [] kyUser [] ⟨#[]⟩ (-1) [kyN]
def kyP:Pln:=.mk 3 [kyQ]
def kyR:Val:=.mk 8 0 ⟨#[]⟩ [] []
def kyU:Val:=.mk 6 0 ⟨#[]⟩ [txV kyUser,txV kyAda] [⟨#[95,95,116]⟩,kyName]
def kyB:Val:=.mk 6 0 ⟨#[]⟩ [txV sSub,kyU] [⟨#[95,95,116]⟩,kyChg]
theorem ky_src:srcP kyP=some kyQ:=rfl
theorem ky_srcN:srcP (.mk 1 [kyQ])=none:=rfl
theorem ky_own:ownR kyS kyP=(1,0):=rfl
theorem sample_ok (hp:CH) (m:Nat):MeetsF Tryz.prog 30 hp m [] (casex kyS kyD kyP):=by
 refine meetsF Tryz.func30 (by kernel_rfl) cc30 cr30 rfl fun hf=>?_;unfold ck30
 simp (disch:=omega) only [ite_ne,go_sem,↓reduceIte,Za,Zb,Zc,Zd,Ze,reduceCtorEq,Zf,Zg,Zh,Zi,Zj,Zk]
 refine vcCall.f (text_ok _ _ _) ?_
 simp only [go_sem,↓reduceIte,Za,Zb,Zc,Zd,Ze,reduceCtorEq,Zf,Zg,Zh,Zi,Zj,Zk]
 rfl
theorem ky_leaf (k n:Int) (t:ByteArray) (h0:-9223372036854775808≤n) (h1:n≤9223372036854775807) (ht:t.size≤1000):VSm (.mk k n t [] []) :=
 ⟨.mk _ (by simp [Val.items_mk]) (by simp [Val.keys_mk]) (by simp [Val.items_mk]),.mk _ (by simpa [Val.n_mk] using h0) (by simpa [Val.n_mk] using h1) (by simp [Val.items_mk]),by rw [avL_val];simp [Val.s_mk,Val.items_mk,Val.keys_mk,mapC,avLL];omega⟩
theorem kyS_ok:SOk kyS:=⟨by decide,by simp [kyS,Sup.joins_mk,Jn.req_mk],by decide⟩
theorem kyS_jok:JOk kyS:=by simp [JOk,kyS,Sup.joins_mk,Jn.req_mk,Jn.prov_mk]
theorem kyAda_sm:VSm (txV kyAda):=ky_leaf 3 0 kyAda (by omega) (by omega) (by decide)
theorem kyR_sm:VSm kyR:=ky_leaf 8 0 ⟨#[]⟩ (by omega) (by omega) (by decide)
theorem kyD_ok:DOk kyD 2:=by
 refine ⟨⟨.mk _ (by decide) (by decide) ?_ ?_,by decide,?_⟩,?_,?_,?_⟩
 all_goals simp [kyD,Dat.i_mk,Dat.w_mk,Itm.l_mk,Wri.c_mk,Cel.v_mk,kyAda_sm,kyAda_sm.f]
theorem kyN_ok:kyN.Ok:=.mk _ ⟨by simp [kyN,Pk.args],by decide,by decide⟩ (by decide) (by simp [kyN,Pk.picks])
theorem kyQ_ok:kyQ.Ok:=.mk _ ⟨by simp [kyQ,Pk.args],by decide,by decide⟩ (by decide) (by simp [kyQ,Pk.picks,kyN_ok])
theorem kyN_fit:kyN.Fit:=.mk _ (by decide) (by decide) (by decide) (by simp [kyN,Pk.args]) (by simp [kyN,Pk.picks])
theorem kyQ_fit:kyQ.Fit:=.mk _ (by decide) (by decide) (by decide) (by simp [kyQ,Pk.args]) (by simp [kyQ,Pk.picks,kyN_fit])
theorem kyB_fit:kyB.Fit:=.mk _ (by decide) (by decide) (by simp [kyB,Val.items_mk,tx_fit,kyU,Val.Fit];exact .mk _ (by decide) (by decide) (by simp [Val.items_mk,tx_fit]))
theorem know45_ok (hp:CH) (m:Nat):MeetsF Tryz.prog 11 hp m [] (.b true):=by
 have hfx:∀x∈kyP.l,x.Fit:=by simp [kyP,Pln.l_mk,kyQ_fit]
 have hox:∀x∈kyP.l,x.Ok:=by simp [kyP,Pln.l_mk,kyQ_ok]
 have hEv:=tEventF_ok kyS kyS_ok kyD kyD_ok (by decide) (by decide) kyP hfx (by decide) hox kyR kyR_sm
 rw [eventR,ky_src] at hEv
 have hEv:∀hp m,MeetsF Tryz.prog 14 hp m [supx kyS,dx kyD,plx kyP,vx kyR] (.tp [.ag [.i .i64 6,.i .i64 0,.s ⟨#[]⟩,.ds [[.i .i64 3,.i .i64 0,.s ⟨#[83,117,98,115,99,114,105,112,116,105,111,110]⟩,.ds [],.ds []],[.i .i64 6,.i .i64 0,.s ⟨#[]⟩,.ds [[.i .i64 3,.i .i64 0,.s ⟨#[85,115,101,114]⟩,.ds [],.ds []],[.i .i64 3,.i .i64 0,.s ⟨#[65,100,97]⟩,.ds [],.ds []]],.ds [[.s ⟨#[95,95,116]⟩],[.s ⟨#[110,97,109,101]⟩]]]],.ds [[.s ⟨#[95,95,116]⟩],[.s ⟨#[99,104,97,110,103,101,100]⟩]]],.i .i64 0]):=hEv
 have hEa:=tEach_ok kyS kyS_ok kyD kyD_ok (by decide) (by decide) kyP hfx (by decide) hox [zVal,kyR] (by decide) (by simp [kyR_sm,VSm.z])
 rw [eachR,ky_src] at hEa
 have hEa:∀hp m,MeetsF Tryz.prog 17 hp m [supx kyS,dx kyD,plx kyP,.ds (mapC valC [zVal,kyR])] (.tp [.ds [[.i .i64 6,.i .i64 0,.s ⟨#[]⟩,.ds [[.i .i64 3,.i .i64 0,.s ⟨#[83,117,98,115,99,114,105,112,116,105,111,110]⟩,.ds [],.ds []],[.i .i64 0,.i .i64 0,.s ⟨#[]⟩,.ds [],.ds []]],.ds [[.s ⟨#[95,95,116]⟩],[.s ⟨#[99,104,97,110,103,101,100]⟩]]],[.i .i64 6,.i .i64 0,.s ⟨#[]⟩,.ds [[.i .i64 3,.i .i64 0,.s ⟨#[83,117,98,115,99,114,105,112,116,105,111,110]⟩,.ds [],.ds []],[.i .i64 6,.i .i64 0,.s ⟨#[]⟩,.ds [[.i .i64 3,.i .i64 0,.s ⟨#[85,115,101,114]⟩,.ds [],.ds []],[.i .i64 3,.i .i64 0,.s ⟨#[65,100,97]⟩,.ds [],.ds []]],.ds [[.s ⟨#[95,95,116]⟩],[.s ⟨#[110,97,109,101]⟩]]]],.ds [[.s ⟨#[95,95,116]⟩],[.s ⟨#[99,104,97,110,103,101,100]⟩]]]],.i .i64 0]):=hEa
 have hOw:=tOwner_ok kyS kyS_ok kyS_jok (by decide) kyP hfx
 rw [ky_own] at hOw
 have hOw:∀hp m,MeetsF Tryz.prog 18 hp m [supx kyS,plx kyP] (.tp [.i .i64 1,.i .i64 0]):=hOw
 have hS1:=sSource_ok kyP hfx
 rw [ky_src] at hS1
 have hS1:∀hp m,MeetsF Tryz.prog 12 hp m [plx kyP] (.tp [.ag [.s ⟨#[99,104,97,110,103,101,100]⟩,.s ⟨#[83,117,98,115,99,114,105,112,116,105,111,110]⟩,.s ⟨#[99,104,97,110,103,101,100]⟩,.ds [],.s ⟨#[85,115,101,114]⟩,.ds [],.s ⟨#[]⟩,.i .i64 (-1),.ds (mapC pkC [kyN])],.i .i64 0]):=hS1
 have hS2:=sSource_ok (.mk 1 [kyQ]) (by simp [Pln.l_mk,kyQ_fit])
 rw [ky_srcN] at hS2
 have hS2:∀hp m,MeetsF Tryz.prog 12 hp m [plx (.mk 1 [kyQ])] (.tp [.ag [.s ⟨#[]⟩,.s ⟨#[]⟩,.s ⟨#[]⟩,.ds [],.s ⟨#[]⟩,.ds [],.s ⟨#[]⟩,.i .i64 0,.ds []],.i .i64 2]):=hS2
 have hSm:=same_ok kyB kyB kyB_fit kyB_fit
 rw [decide_eq_true (cmpV_refl _)] at hSm
 refine meetsF Tryz.func11 (by kernel_rfl) cc11 cr11 rfl fun hf=>?_;unfold ck11
 simp only [go_sem,↓reduceIte,Za,Zb,Zc,Zd,Ze,reduceCtorEq,Zf,Zg,Zh,Zi,Zj,Zk]
 refine vcCall.f (sample_ok _ _) ?_
 simp only [go_sem,↓reduceIte,Za,Zb,Zc,Zd,Ze,reduceCtorEq,Zf,Zg,Zh,Zi,Zj,Zk]
 refine vcCall.f (MeetsF.fix (args:=[supx kyS,dx kyD,plx kyP,vx kyR]) rfl (hEv _ _)) ?_
 simp only [go_sem,↓reduceIte,Za,Zb,Zc,Zd,Ze,reduceCtorEq,Zf,Zg,Zh,Zi,Zj,Zk]
 refine vcCall.f (MeetsF.fix (args:=[supx kyS,dx kyD,plx kyP,.ds (mapC valC [zVal,kyR])]) rfl (hEa _ _)) ?_
 simp only [go_sem,↓reduceIte,Za,Zb,Zc,Zd,Ze,reduceCtorEq,Zf,Zg,Zh,Zi,Zj,Zk]
 refine vcCall.f (MeetsF.fix (args:=[supx kyS,plx kyP]) rfl (hOw _ _)) ?_
 simp only [go_sem,↓reduceIte,Za,Zb,Zc,Zd,Ze,reduceCtorEq,Zf,Zg,Zh,Zi,Zj,Zk]
 refine vcCall.f (MeetsF.fix (args:=[plx kyP]) rfl (hS1 _ _)) ?_
 simp only [go_sem,↓reduceIte,Za,Zb,Zc,Zd,Ze,reduceCtorEq,Zf,Zg,Zh,Zi,Zj,Zk]
 refine vcCall.f (MeetsF.fix (args:=[plx (.mk 1 [kyQ])]) rfl (hS2 _ _)) ?_
 simp only [go_sem,↓reduceIte,Za,Zb,Zc,Zd,Ze,reduceCtorEq,Zf,Zg,Zh,Zi,Zj,Zk]
 refine dCall.f (fun _ _ _=>MeetsF.fix (args:=[vx kyB,vx kyB]) rfl (hSm _ _)) ?_
 simp only [go_sem,↓reduceIte,Za,Zb,Zc,Zd,Ze,reduceCtorEq,Zf,Zg,Zh,Zi,Zj,Zk]
set_option maxHeartbeats 2000000
structure TOk (s:Sup) (d:Dat) (p:Pln):Prop where
 c:COk s d p
 f:∀x∈p.l,x.Fit
 j:JOk s
 i:d.i.length≤1048576
 g:s.g.length≤1048576
theorem lawSource (s:Sup) (d:Dat) (p:Pln) (c:TOk s d p) (hp:CH) (m:Nat):MeetsF Tryz.prog 3 hp m [casex s d p] (.b true):=by
 have h1:=few45_ok s d p c.c zVal zVal_fit
 obtain ⟨b,hb⟩:∃b,few45 s d p zVal=b:=⟨_,rfl⟩
 rw [hb] at h1
 cases b
 .refine meetsF Tryz.func3 (by kernel_rfl) cc3 cr3 rfl fun hf=>?_;unfold ck3
  simp only [go_sem,↓reduceIte,Za,Zb,Zc,Zd,Ze,reduceCtorEq,Zf,Zg,Zh,Zi,Zj,Zk]
  refine vcCall.f (MeetsF.cv (args':=[casex s d p,vx zVal]) ?_ (h1 _ _)) ?_
  .simp only [go_sem,↓reduceIte,Za,Zb,Zc,Zd,Ze,reduceCtorEq,Zf,Zg,Zh,Zi,Zj,Zk]
   try rfl
  simp only [go_sem,↓reduceIte,Za,Zb,Zc,Zd,Ze,reduceCtorEq,Zf,Zg,Zh,Zi,Zj,Zk]
  refine vcCall.f (know45_ok _ _) ?_
  simp only [go_sem,↓reduceIte,Za,Zb,Zc,Zd,Ze,reduceCtorEq,Zf,Zg,Zh,Zi,Zj,Zk]
 have hS:=sSource_ok p c.f
 have hR:=rSource_ok p
 obtain ⟨o,ho⟩:∃o,srcP p=o:=⟨_,rfl⟩
 rw [ho,srcRP] at hS hR
 obtain ⟨x,hx⟩:∃x,o.getD zPk=x:=⟨_,rfl⟩
 rw [hx] at hS hR
 obtain ⟨e,he⟩:∃e:Int,(if o.isSome=true then (0:Int) else 2)=e:=⟨_,rfl⟩
 rw [he] at hS hR
 refine meetsF Tryz.func3 (by kernel_rfl) cc3 cr3 rfl fun hf=>?_;unfold ck3
 simp only [go_sem,↓reduceIte,Za,Zb,Zc,Zd,Ze,reduceCtorEq,Zf,Zg,Zh,Zi,Zj,Zk]
 refine vcCall.f (MeetsF.cv (args':=[casex s d p,vx zVal]) ?_ (h1 _ _)) ?_
 .simp only [go_sem,↓reduceIte,Za,Zb,Zc,Zd,Ze,reduceCtorEq,Zf,Zg,Zh,Zi,Zj,Zk]
  try rfl
 simp only [go_sem,↓reduceIte,Za,Zb,Zc,Zd,Ze,reduceCtorEq,Zf,Zg,Zh,Zi,Zj,Zk]
 refine vcCall.f (hS _ _) ?_
 simp only [go_sem,↓reduceIte,Za,Zb,Zc,Zd,Ze,reduceCtorEq,Zf,Zg,Zh,Zi,Zj,Zk]
 refine vcCall.f (hR _ _) ?_
 simp only [go_sem,↓reduceIte,Za,Zb,Zc,Zd,Ze,reduceCtorEq,Zf,Zg,Zh,Zi,Zj,Zk]
 refine gCall.f (fun _=>know45_ok _ _) ?_
 simp only [go_sem,↓reduceIte,Za,Zb,Zc,Zd,Ze,reduceCtorEq,Zf,Zg,Zh,Zi,Zj,Zk]
theorem lawOwner (s:Sup) (d:Dat) (p:Pln) (c:TOk s d p) (hp:CH) (m:Nat):MeetsF Tryz.prog 6 hp m [casex s d p] (.b true):=by
 have hT:=tOwner_ok s c.c.s c.j c.g p c.f
 have hR:=rOwner_ok s c.c.s c.j c.g p
 obtain ⟨o,ho⟩:∃o,ownR s p=o:=⟨_,rfl⟩
 rw [ho,resO] at hT hR
 have h1:=few45_ok s d p c.c zVal zVal_fit
 obtain ⟨b,hb⟩:∃b,few45 s d p zVal=b:=⟨_,rfl⟩
 rw [hb] at h1
 cases b
 .refine meetsF Tryz.func6 (by kernel_rfl) cc6 cr6 rfl fun hf=>?_;unfold ck6
  simp only [go_sem,↓reduceIte,Za,Zb,Zc,Zd,Ze,reduceCtorEq,Zf,Zg,Zh,Zi,Zj,Zk]
  refine vcCall.f (MeetsF.cv (args':=[casex s d p,vx zVal]) ?_ (h1 _ _)) ?_
  .simp only [go_sem,↓reduceIte,Za,Zb,Zc,Zd,Ze,reduceCtorEq,Zf,Zg,Zh,Zi,Zj,Zk]
   try rfl
  simp only [go_sem,↓reduceIte,Za,Zb,Zc,Zd,Ze,reduceCtorEq,Zf,Zg,Zh,Zi,Zj,Zk]
  refine vcCall.f (know45_ok _ _) ?_
  simp only [go_sem,↓reduceIte,Za,Zb,Zc,Zd,Ze,reduceCtorEq,Zf,Zg,Zh,Zi,Zj,Zk]
 refine meetsF Tryz.func6 (by kernel_rfl) cc6 cr6 rfl fun hf=>?_;unfold ck6
 simp only [go_sem,↓reduceIte,Za,Zb,Zc,Zd,Ze,reduceCtorEq,Zf,Zg,Zh,Zi,Zj,Zk]
 refine vcCall.f (MeetsF.cv (args':=[casex s d p,vx zVal]) ?_ (h1 _ _)) ?_
 .simp only [go_sem,↓reduceIte,Za,Zb,Zc,Zd,Ze,reduceCtorEq,Zf,Zg,Zh,Zi,Zj,Zk]
  try rfl
 simp only [go_sem,↓reduceIte,Za,Zb,Zc,Zd,Ze,reduceCtorEq,Zf,Zg,Zh,Zi,Zj,Zk]
 refine cdK_of (fun q=>?_) (fun q=>?_)
 .simp only [go_sem,↓reduceIte,Za,Zb,Zc,Zd,Ze,reduceCtorEq,Zf,Zg,Zh,Zi,Zj,Zk]
  refine vcCall.f (know45_ok _ _) ?_
  simp only [go_sem,↓reduceIte,Za,Zb,Zc,Zd,Ze,reduceCtorEq,Zf,Zg,Zh,Zi,Zj,Zk]
 simp only [go_sem,↓reduceIte,Za,Zb,Zc,Zd,Ze,reduceCtorEq,Zf,Zg,Zh,Zi,Zj,Zk]
 refine vcCall.f (hT _ _) ?_
 simp only [go_sem,↓reduceIte,Za,Zb,Zc,Zd,Ze,reduceCtorEq,Zf,Zg,Zh,Zi,Zj,Zk]
 refine vcCall.f (hR _ _) ?_
 simp only [go_sem,↓reduceIte,Za,Zb,Zc,Zd,Ze,reduceCtorEq,Zf,Zg,Zh,Zi,Zj,Zk]
 refine gCall.f (fun _=>know45_ok _ _) ?_
 simp only [go_sem,↓reduceIte,Za,Zb,Zc,Zd,Ze,reduceCtorEq,Zf,Zg,Zh,Zi,Zj,Zk]
theorem lawShape (s:Sup) (d:Dat) (p:Pln) (c:TOk s d p) (v:Val) (hv:VSm v) (hp:CH) (m:Nat):MeetsF Tryz.prog 7 hp m [casex s d p,vx v] (.b true):=by
 have hT:=tEventF_ok s c.c.s d c.c.d c.i (by omega) p c.f c.c.l c.c.p v hv
 have hS:=sSource_ok p c.f
 have h1:=few45_ok s d p c.c v hv.f
 obtain ⟨b,hb⟩:∃b,few45 s d p v=b:=⟨_,rfl⟩
 rw [hb] at h1
 cases b
 .refine meetsF Tryz.func7 (by kernel_rfl) cc7 cr7 rfl fun hf=>?_;unfold ck7
  simp only [go_sem,↓reduceIte,Za,Zb,Zc,Zd,Ze,reduceCtorEq,Zf,Zg,Zh,Zi,Zj,Zk]
  refine vcCall.f (h1 _ _) ?_
  simp only [go_sem,↓reduceIte,Za,Zb,Zc,Zd,Ze,reduceCtorEq,Zf,Zg,Zh,Zi,Zj,Zk]
  refine vcCall.f (know45_ok _ _) ?_
  simp only [go_sem,↓reduceIte,Za,Zb,Zc,Zd,Ze,reduceCtorEq,Zf,Zg,Zh,Zi,Zj,Zk]
 cases ho:srcP p with
 | none =>
  rw [ho,srcRP] at hS
  refine meetsF Tryz.func7 (by kernel_rfl) cc7 cr7 rfl fun hf=>?_;unfold ck7
  simp only [go_sem,↓reduceIte,Za,Zb,Zc,Zd,Ze,reduceCtorEq,Zf,Zg,Zh,Zi,Zj,Zk]
  refine vcCall.f (h1 _ _) ?_
  simp only [go_sem,↓reduceIte,Za,Zb,Zc,Zd,Ze,reduceCtorEq,Zf,Zg,Zh,Zi,Zj,Zk]
  refine vcCall.f (hS _ _) ?_
  simp only [go_sem,↓reduceIte,Za,Zb,Zc,Zd,Ze,reduceCtorEq,Zf,Zg,Zh,Zi,Zj,Zk]
  refine vcCall.f (know45_ok _ _) ?_
  simp only [go_sem,↓reduceIte,Za,Zb,Zc,Zd,Ze,reduceCtorEq,Zf,Zg,Zh,Zi,Zj,Zk]
 | some x =>
  obtain ⟨hk,hl⟩:=srcP_some ho
  rw [ho,srcRP] at hS
  rw [eventR,ho] at hT
  have hT:∀hp m,MeetsF Tryz.prog 14 hp m [supx s,dx d,plx p,vx v] (resE (some (eventV s d p x v))):=hT
  have hN:=rNeeds_ok s c.c.s sSub x.name
  obtain ⟨Q,hQ⟩:∃Q,reqJ s.joins sSub x.name=Q:=⟨_,rfl⟩
  rw [hQ] at hN
  by_cases hs:x.on=sSub
  .rw [evV_one s d p x v hk hl hs] at hT
   have hfit:=eventV_fit s d c.c.d c.i (by omega) p hk c.c.l c.c.p x v hv
   rw [evV_one s d p x v hk hl hs] at hfit
   obtain ⟨W,hW⟩:∃W,rootP s sSub (withD s d x v) x=W:=⟨_,rfl⟩
   rw [hW] at hT hfit
   have hLf:=fun h0 h4 hn hq=>evV_leaf s d x v h0 h4 hn (hQ.trans hq)
   rw [hW] at hLf
   have hWf:W.Fit:=hfit.x (by simp [objV,Val.items_mk])
   have hSm:=same_ok W v hWf hv.f
   have hT:∀hp m,MeetsF Tryz.prog 14 hp m [supx s,dx d,plx p,vx v] (.tp [.ag [.i .i64 6,.i .i64 0,.s ⟨#[]⟩,.ds [valC (txV sSub),valC W],.ds [[.s ⟨#[95,95,116]⟩],[.s x.key]]],.i .i64 0]):=hT
   rw [valC_eq,valC_eq] at hT
   unfold sSub at hs hN hT
   refine meetsF Tryz.func7 (by kernel_rfl) cc7 cr7 rfl fun hf=>?_;unfold ck7
   simp only [go_sem,↓reduceIte,Za,Zb,Zc,Zd,Ze,reduceCtorEq,Zf,Zg,Zh,Zi,Zj,Zk]
   refine vcCall.f (h1 _ _) ?_
   simp only [go_sem,↓reduceIte,Za,Zb,Zc,Zd,Ze,reduceCtorEq,Zf,Zg,Zh,Zi,Zj,Zk]
   refine vcCall.f (hS _ _) ?_
   simp (disch:=omega) only [ite_ne,hs,go_sem,↓reduceIte,Za,Zb,Zc,Zd,Ze,reduceCtorEq,Zf,Zg,Zh,Zi,Zj,Zk]
   refine vcCall.f (hT _ _) ?_
   simp (disch:=omega) only [ite_ne,hs,go_sem,↓reduceIte,Za,Zb,Zc,Zd,Ze,reduceCtorEq,Zf,Zg,Zh,Zi,Zj,Zk]
   refine gCall.f (fun _=>hN _ _) ?_
   simp (disch:=omega) only [ite_ne,hs,go_sem,↓reduceIte,Za,Zb,Zc,Zd,Ze,reduceCtorEq,Zf,Zg,Zh,Zi,Zj,Zk]
   refine cdK_of (fun q=>?_) (fun q=>?_)
   .simp only [go_sem,↓reduceIte,Za,Zb,Zc,Zd,Ze,reduceCtorEq,Zf,Zg,Zh,Zi,Zj,Zk]
    refine vcCall.f (know45_ok _ _) ?_
    simp only [go_sem,↓reduceIte,Za,Zb,Zc,Zd,Ze,reduceCtorEq,Zf,Zg,Zh,Zi,Zj,Zk]
   have hWv:W=v:=by
    simp only [Bool.or_eq_false_iff,decide_eq_false_iff_not] at q
    obtain ⟨⟨⟨a1,a2⟩,a3⟩,a4⟩:=q
    exact hLf (by omega) (by omega) a3 (List.eq_nil_of_length_eq_zero (by omega))
   subst hWv
   rw [decide_eq_true (cmpV_refl _)] at hSm
   simp (disch:=omega) only [ite_ne,hs,go_sem,↓reduceIte,Za,Zb,Zc,Zd,Ze,reduceCtorEq,Zf,Zg,Zh,Zi,Zj,Zk]
   refine dCallR.f (fun _ _ _=>hSm _ _) ?_
   simp (disch:=omega) only [ite_ne,hs,go_sem,↓reduceIte,Za,Zb,Zc,Zd,Ze,reduceCtorEq,Zf,Zg,Zh,Zi,Zj,Zk]
   refine dCall.f (fun _ _ _=>know45_ok _ _) ?_
   simp (disch:=omega) only [ite_ne,hs,go_sem,↓reduceIte,Za,Zb,Zc,Zd,Ze,reduceCtorEq,Zf,Zg,Zh,Zi,Zj,Zk]
  .unfold sSub at hs
   refine meetsF Tryz.func7 (by kernel_rfl) cc7 cr7 rfl fun hf=>?_;unfold ck7
   simp only [go_sem,↓reduceIte,Za,Zb,Zc,Zd,Ze,reduceCtorEq,Zf,Zg,Zh,Zi,Zj,Zk]
   refine vcCall.f (h1 _ _) ?_
   simp only [go_sem,↓reduceIte,Za,Zb,Zc,Zd,Ze,reduceCtorEq,Zf,Zg,Zh,Zi,Zj,Zk]
   refine vcCall.f (hS _ _) ?_
   simp (disch:=omega) only [ite_ne,hs,go_sem,↓reduceIte,Za,Zb,Zc,Zd,Ze,reduceCtorEq,Zf,Zg,Zh,Zi,Zj,Zk]
   refine vcCall.f (know45_ok _ _) ?_
   simp only [go_sem,↓reduceIte,Za,Zb,Zc,Zd,Ze,reduceCtorEq,Zf,Zg,Zh,Zi,Zj,Zk]
theorem lawEach (s:Sup) (d:Dat) (p:Pln) (c:TOk s d p) (l:List Val) (hll:l.length≤1048576) (hv:∀v∈l,VSm v) (hp:CH) (m:Nat):MeetsF Tryz.prog 5 hp m [casex s d p,.ds (mapC valC l)] (.b true):=by
 have hT:=tEach_ok s c.c.s d c.c.d c.i (by omega) p c.f c.c.l c.c.p l hll hv
 have hS:=sSource_ok p c.f
 have hE:=fun v (h:v∈l)=>tEventF_ok s c.c.s d c.c.d c.i (by omega) p c.f c.c.l c.c.p v (hv v h)
 have h1:=fun v (h:v∈l)=>few45_ok s d p c.c v (hv v h).f
 have h0:=few45_ok s d p c.c zVal zVal_fit
 obtain ⟨b0,hb0⟩:∃b,few45 s d p zVal=b:=⟨_,rfl⟩
 rw [hb0] at h0
 refine meetsF Tryz.func5 (by kernel_rfl) cc5 cr5 rfl fun hf=>?_;unfold ck5
 simp only [go_sem,↓reduceIte,Za,Zb,Zc,Zd,Ze,reduceCtorEq,Zf,Zg,Zh,Zi,Zj,Zk]
 refine cdK_of (fun q=>?_) (fun q=>?_)
 .simp only [go_sem,↓reduceIte,Za,Zb,Zc,Zd,Ze,reduceCtorEq,Zf,Zg,Zh,Zi,Zj,Zk]
  refine vcCall.f (know45_ok _ _) ?_
  simp only [go_sem,↓reduceIte,Za,Zb,Zc,Zd,Ze,reduceCtorEq,Zf,Zg,Zh,Zi,Zj,Zk]
 simp only [go_sem,↓reduceIte,Za,Zb,Zc,Zd,Ze,reduceCtorEq,Zf,Zg,Zh,Zi,Zj,Zk]
 refine loop (fun q:Nat × Nat=>⟨[(1,.ds (mapC valC l)),(2,.bx m 0),(5,.i .i64 q.1)],(m,.bx [.ds (stC s.g),.ds (mapC dfC s.doc),.ds (mapC kyC s.keys),.ds (mapC jnC s.joins),.ds (mapC itC d.i),.ds (mapC wrC d.w),.i .i64 p.k,.ds (mapC pkC p.l)])::hp,q.2⟩)
  (fun q=>q.1≤l.length∧m+1≤q.2) (fun q=>l.length - q.1) (0,m+1) ?_ ?_ (fun ⟨j,n⟩ hj=>?_)
 .simp
 .refine weak_ok ?_ (Sub.cons ?_ (Sub.base hf ?_)) (zna _)
  all_goals (simp (disch:=omega) only [ite_ne,go_sem,↓reduceIte,Za,Zb,Zc,Zd,Ze,reduceCtorEq,Zf,Zg,Zh,Zi,Zj,Zk])
 dsimp only at hj
 obtain ⟨hj1,hj2⟩:=hj
 have hmn:m≤n:=by omega
 simp (disch:=omega) only [ite_ne,go_sem,↓reduceIte,Za,Zb,Zc,Zd,Ze,reduceCtorEq,Zf,Zg,Zh,Zi,Zj,Zk]
 refine cdK_of (fun q=>?_) (fun q=>?_)
 .have q:j<l.length:=by simpa using q
  obtain ⟨v,ev⟩:∃v,l[j]?=some v:=⟨l[j],by simp [q]⟩
  have hx:=h1 v (zla ev)
  obtain ⟨b,hb⟩:∃b,few45 s d p v=b:=⟨_,rfl⟩
  rw [hb] at hx
  simp (disch:=omega) only [ite_ne,q,getK_s (mapC_get valC ev),go_sem,↓reduceIte,Za,Zb,Zc,Zd,Ze,reduceCtorEq,Zf,Zg,Zh,Zi,Zj,Zk]
  refine dCallR.f (fun _ _ _=>hx _ _) ?_
  simp (disch:=omega) only [ite_ne,q,getK_s (mapC_get valC ev),go_sem,↓reduceIte,Za,Zb,Zc,Zd,Ze,reduceCtorEq,Zf,Zg,Zh,Zi,Zj,Zk]
  cases b with
  | false =>
   simp (disch:=omega) only [ite_ne,go_sem,↓reduceIte,Za,Zb,Zc,Zd,Ze,reduceCtorEq,Zf,Zg,Zh,Zi,Zj,Zk]
   refine vcCall.f (know45_ok _ _) ?_
   simp (disch:=omega) only [ite_ne,hmn,go_sem,↓reduceIte,Za,Zb,Zc,Zd,Ze,reduceCtorEq,Zf,Zg,Zh,Zi,Zj,Zk]
  | true =>
   simp (disch:=omega) only [ite_ne,go_sem,↓reduceIte,Za,Zb,Zc,Zd,Ze,reduceCtorEq,Zf,Zg,Zh,Zi,Zj,Zk]
   refine ⟨(j+1,_),⟨by dsimp only;omega,by dsimp only;omega⟩,by dsimp only;omega,weak_ok ?_ (Sub.cons ?_ (Sub.base hf ?_)) (zna _)⟩
   all_goals
    simp (disch:=omega) only [ite_ne,wr64s j (by omega),hmn,go_sem,↓reduceIte,Za,Zb,Zc,Zd,Ze,reduceCtorEq,Zf,Zg,Zh,Zi,Zj,Zk]
 .have q:j=l.length:=by simp at q;omega
  subst q
  simp (disch:=omega) only [ite_ne,hmn,go_sem,↓reduceIte,Za,Zb,Zc,Zd,Ze,reduceCtorEq,Zf,Zg,Zh,Zi,Zj,Zk]
  refine gCall.f (fun _=>MeetsF.cv (args':=[casex s d p,vx zVal]) ?_ (h0 _ _)) ?_
  .simp (disch:=omega) only [ite_ne,go_sem,↓reduceIte,Za,Zb,Zc,Zd,Ze,reduceCtorEq,Zf,Zg,Zh,Zi,Zj,Zk]
   try rfl
  simp (disch:=omega) only [ite_ne,go_sem,↓reduceIte,Za,Zb,Zc,Zd,Ze,reduceCtorEq,Zf,Zg,Zh,Zi,Zj,Zk]
  refine cdK_of (fun q2=>?_) (fun q2=>?_)
  .simp (disch:=omega) only [ite_ne,go_sem,↓reduceIte,Za,Zb,Zc,Zd,Ze,reduceCtorEq,Zf,Zg,Zh,Zi,Zj,Zk]
   refine vcCall.f (know45_ok _ _) ?_
   simp (disch:=omega) only [ite_ne,hmn,go_sem,↓reduceIte,Za,Zb,Zc,Zd,Ze,reduceCtorEq,Zf,Zg,Zh,Zi,Zj,Zk]
  cases ho:srcP p with
  | none =>
   rw [eachR,ho] at hT
   rw [ho,srcRP] at hS
   have hT:∀hp m,MeetsF Tryz.prog 17 hp m [supx s,dx d,plx p,.ds (mapC valC l)] (.tp [.ds [],.i .i64 2]):=hT
   simp (disch:=omega) only [ite_ne,go_sem,↓reduceIte,Za,Zb,Zc,Zd,Ze,reduceCtorEq,Zf,Zg,Zh,Zi,Zj,Zk]
   refine vcCall.f (hT _ _) ?_
   simp (disch:=omega) only [ite_ne,go_sem,↓reduceIte,Za,Zb,Zc,Zd,Ze,reduceCtorEq,Zf,Zg,Zh,Zi,Zj,Zk]
   refine vcCall.f (hS _ _) ?_
   simp (disch:=omega) only [ite_ne,go_sem,↓reduceIte,Za,Zb,Zc,Zd,Ze,reduceCtorEq,Zf,Zg,Zh,Zi,Zj,Zk]
   refine loop (fun q:Nat=>⟨[(1,.ds (mapC valC l)),(2,.bx m 0),(6,.ds []),(10,.i .i64 0)],(m,.bx [.ds (stC s.g),.ds (mapC dfC s.doc),.ds (mapC kyC s.keys),.ds (mapC jnC s.joins),.ds (mapC itC d.i),.ds (mapC wrC d.w),.i .i64 p.k,.ds (mapC pkC p.l)])::hp,q⟩)
    (fun q=>m+1≤q) (fun q=>0) (n+1) ?_ ?_ (fun n2 hj2=>?_)
   .omega
   .refine weak_ok ?_ (Sub.cons ?_ (Sub.base hf ?_)) (zna _)
    all_goals (simp (disch:=omega) only [ite_ne,hmn,go_sem,↓reduceIte,Za,Zb,Zc,Zd,Ze,reduceCtorEq,Zf,Zg,Zh,Zi,Zj,Zk])
   have hmn2:m≤n2:=by omega
   simp (disch:=omega) only [ite_ne,go_sem,↓reduceIte,Za,Zb,Zc,Zd,Ze,reduceCtorEq,Zf,Zg,Zh,Zi,Zj,Zk]
   refine vcCall.f (know45_ok _ _) ?_
   simp (disch:=omega) only [ite_ne,hmn2,go_sem,↓reduceIte,Za,Zb,Zc,Zd,Ze,reduceCtorEq,Zf,Zg,Zh,Zi,Zj,Zk]
  | some x =>
   rw [eachR,ho] at hT
   rw [ho,srcRP] at hS
   have hT:∀hp m,MeetsF Tryz.prog 17 hp m [supx s,dx d,plx p,.ds (mapC valC l)] (.tp [.ds (mapC valC (l.map (eventV s d p x))),.i .i64 0]):=hT
   have hE:∀v∈l,∀hp m,MeetsF Tryz.prog 14 hp m [supx s,dx d,plx p,vx v] (resE (some (eventV s d p x v))):=fun v hv=>by
    have:=hE v hv
    rw [eventR,ho] at this
    exact this
   have hFt:=fun v hvl=>eventV_fit s d c.c.d c.i (by omega) p (srcP_k ho) c.c.l c.c.p x v (hv v hvl)
   have hll2:(l.map (eventV s d p x)).length=l.length:=by simp
   obtain ⟨F,hF⟩:∃F,eventV s d p x=F:=⟨_,rfl⟩
   rw [hF] at hT hE hFt hll2
   obtain ⟨L,hL⟩:∃L,l.map F=L:=⟨_,rfl⟩
   rw [hL] at hT hll2
   simp (disch:=omega) only [ite_ne,go_sem,↓reduceIte,Za,Zb,Zc,Zd,Ze,reduceCtorEq,Zf,Zg,Zh,Zi,Zj,Zk]
   refine vcCall.f (hT _ _) ?_
   simp (disch:=omega) only [ite_ne,go_sem,↓reduceIte,Za,Zb,Zc,Zd,Ze,reduceCtorEq,Zf,Zg,Zh,Zi,Zj,Zk]
   refine vcCall.f (hS _ _) ?_
   simp (disch:=omega) only [ite_ne,hll2,go_sem,↓reduceIte,Za,Zb,Zc,Zd,Ze,reduceCtorEq,Zf,Zg,Zh,Zi,Zj,Zk]
   refine loop (fun q:Nat × Nat=>⟨[(1,.ds (mapC valC l)),(2,.bx m 0),(6,.ds (mapC valC L)),(10,.i .i64 q.1)],(m,.bx [.ds (stC s.g),.ds (mapC dfC s.doc),.ds (mapC kyC s.keys),.ds (mapC jnC s.joins),.ds (mapC itC d.i),.ds (mapC wrC d.w),.i .i64 p.k,.ds (mapC pkC p.l)])::hp,q.2⟩)
    (fun q=>q.1≤l.length∧m+1≤q.2) (fun q=>l.length - q.1) (0,n+1) ?_ ?_ (fun ⟨j,n2⟩ hj=>?_)
   .exact ⟨Nat.zero_le _,by dsimp only;omega⟩
   .refine weak_ok ?_ (Sub.cons ?_ (Sub.base hf ?_)) (zna _)
    all_goals (simp (disch:=omega) only [ite_ne,hmn,go_sem,↓reduceIte,Za,Zb,Zc,Zd,Ze,reduceCtorEq,Zf,Zg,Zh,Zi,Zj,Zk])
   dsimp only at hj
   obtain ⟨hj1,hj2⟩:=hj
   have hmn2:m≤n2:=by omega
   simp (disch:=omega) only [ite_ne,hll2,go_sem,↓reduceIte,Za,Zb,Zc,Zd,Ze,reduceCtorEq,Zf,Zg,Zh,Zi,Zj,Zk]
   refine cdK_of (fun q=>?_) (fun q=>?_)
   .have q:j<l.length:=by simpa using q
    obtain ⟨v,ev⟩:∃v,l[j]?=some v:=⟨l[j],by simp [q]⟩
    have eL:L[j]?=some (F v):=by rw [←hL,List.getElem?_map,ev];rfl
    have hEv:=hE v (zla ev)
    have hft:=hFt v (zla ev)
    rw [resE] at hEv
    obtain ⟨R,hR⟩:∃R,F v=R:=⟨_,rfl⟩
    rw [hR] at eL hEv hft
    have hSm:=same_ok R R hft hft
    rw [decide_eq_true (cmpV_refl _)] at hSm
    simp (disch:=omega) only [ite_ne,q,getK_s (mapC_get valC ev),go_sem,↓reduceIte,Za,Zb,Zc,Zd,Ze,reduceCtorEq,Zf,Zg,Zh,Zi,Zj,Zk]
    refine dCallR.f (fun _ _ _=>hEv _ _) ?_
    simp (disch:=omega) only [ite_ne,q,getK_s (mapC_get valC eL),hll2,go_sem,↓reduceIte,Za,Zb,Zc,Zd,Ze,reduceCtorEq,Zf,Zg,Zh,Zi,Zj,Zk]
    have hne:¬n2+14=m:=by omega
    rw [mapC_get valC eL,valC_eq]
    simp (disch:=omega) only [ite_ne,hne,hll2,go_sem,↓reduceIte,Za,Zb,Zc,Zd,Ze,reduceCtorEq,Zf,Zg,Zh,Zi,Zj,Zk]
    refine dCall.f (fun _ _ _=>hSm _ _) ?_
    simp (disch:=omega) only [ite_ne,hne,go_sem,↓reduceIte,Za,Zb,Zc,Zd,Ze,reduceCtorEq,Zf,Zg,Zh,Zi,Zj,Zk]
    refine ⟨(j+1,_),⟨by dsimp only;omega,by dsimp only;omega⟩,by dsimp only;omega,weak_ok ?_ (Sub.cons ?_ (Sub.base hf ?_)) (zna _)⟩
    all_goals
     simp (disch:=omega) only [ite_ne,wr64s j (by omega),hmn2,go_sem,↓reduceIte,Za,Zb,Zc,Zd,Ze,reduceCtorEq,Zf,Zg,Zh,Zi,Zj,Zk]
   .have q:j=l.length:=by simp at q;omega
    subst q
    simp (disch:=omega) only [ite_ne,hmn2,go_sem,↓reduceIte,Za,Zb,Zc,Zd,Ze,reduceCtorEq,Zf,Zg,Zh,Zi,Zj,Zk]
    refine vcCall.f (know45_ok _ _) ?_
    simp (disch:=omega) only [ite_ne,hmn2,go_sem,↓reduceIte,Za,Zb,Zc,Zd,Ze,reduceCtorEq,Zf,Zg,Zh,Zi,Zj,Zk]
end Go.Proofs.YtinbodeocoeneaaGreatDoor
