/- Proof. Conditions: none. -/
import Derived.Test.YthiifoleopdieaaGreatDoorIy51
open Nat renaming reduceEqDiff→Za,reduceBEq→Zb,reduceAdd→Zc,reduceLeDiff→Zd,reduceLT→Ze,reduceMul→Zf,reduceSub→Zg
open Int renaming reduceEq→Zh,reduceLT→Zi,reduceLE→Zj,reduceToNat→Zk
open List renaming getElem?_map→zlp,length_map→zlv
namespace Go.Proofs.YthiifoleopdieaaGreatDoor
open Go.Eng
set_option linter.all false
set_option maxRecDepth 20000
set_option maxHeartbeats 1000000
theorem tRun_qry (s:Sup) (hs:SOk s) (d:Dat) {B:Nat} (hd:DOk d B) (p:Pln) (hk:¬p.k=2) (hl:p.l.length≤1048576) (hpo:∀x∈p.l,x.Ok) (hp:CH) (m:Nat) :
  MeetsF Tryz.prog 17 hp m [supx s,dx d,plx p] (.tp [vx (runV s d p).1,dx (runV s d p).2]):=by
 have hRt:=tRoot_ok p.k
 rw [runV,decide_eq_false hk,runL_query]
 obtain ⟨root,hroot⟩:∃root,rootS p.k=root:=⟨_,rfl⟩
 rw [hroot] at hRt ⊢
 dsimp only
 have h1:=tread_ok s hs d hd root p.l hl hpo
 rw [readV] at h1
 obtain ⟨R,hR⟩:∃R,objV root (if 0≤itemI d root then fieldsV s d p.l (itemI d root) else noneF root p.l)=R:=⟨_,rfl⟩
 rw [hR] at h1 ⊢
 have h2:decide (p.k=2)=false:=by simp [hk]
 refine meetsF Tryz.func17 (by kernel_rfl) cc17 cr17 rfl fun hf=>?_;unfold ck17
 simp only [go_sem,↓reduceIte,Za,Zb,Zc,Zd,Ze,reduceCtorEq,Zf,Zg,Zh,Zi,Zj,Zk]
 refine vcCall.f (hRt _ _) ?_
 simp only [h2,hk,go_sem,↓reduceIte,Za,Zb,Zc,Zd,Ze,reduceCtorEq,Zf,Zg,Zh,Zi,Zj,Zk]
 refine dCallR.f (fun _ hp' e=>h1 _ _) ?_
 simp only [h2,hk,go_sem,↓reduceIte,Za,Zb,Zc,Zd,Ze,reduceCtorEq,Zf,Zg,Zh,Zi,Zj,Zk]
 refine dCallR.f (fun _ hp' e=>icopied_ok d hd.f _ _) ?_
 simp only [h2,hk,go_sem,↓reduceIte,Za,Zb,Zc,Zd,Ze,reduceCtorEq,Zf,Zg,Zh,Zi,Zj,Zk]
theorem tRun_ok (s:Sup) (hs:SOk s) (d:Dat) {B:Nat} (hd:DOk d B) (p:Pln) (hl:p.l.length≤1048576) (hpo:∀x∈p.l,x.Ok) (hB:p.k=2→B+p.l.length*d.w.length≤100000000000) (hp:CH) (m:Nat) :
  MeetsF Tryz.prog 17 hp m [supx s,dx d,plx p] (.tp [vx (runV s d p).1,dx (runV s d p).2]):=by
 by_cases hk:p.k=2
 .exact tRun_mut s hs d hd p hk hl hpo (hB hk) hp m
 .exact tRun_qry s hs d hd p hk hl hpo hp m
def nBox:ByteArray:=⟨#[66,111,120]⟩
def nCalc:ByteArray:=⟨#[99,97,108,99]⟩
def nWeight:ByteArray:=⟨#[119,101,105,103,104,116]⟩
def nMut:ByteArray:=⟨#[77,117,116,97,116,105,111,110]⟩
def nSet:ByteArray:=⟨#[115,101,116]⟩
def nInt:ByteArray:=⟨#[73,110,116]⟩
def nArg:ByteArray:=⟨#[110,58,32,49,124,91,53,93]⟩
def inX (n:Int):Val:=.mk 2 n ⟨#[]⟩ [] []
def kxS:Sup:=.mk [⟨#[97]⟩] [] [] [.mk nBox nCalc 0 false [nWeight] []]
def kxD:Dat:=.mk [.mk nBox [.mk nWeight ⟨#[]⟩ (inX 5),.mk nCalc nArg (inX 8)],.mk nMut []] [.mk nSet ⟨#[]⟩ 0 (.mk nWeight ⟨#[]⟩ (inX 6))]
def kxE:Dat:=.mk [.mk nBox [.mk nWeight ⟨#[]⟩ (inX 6),.mk nCalc nArg (inX 8)],.mk nMut []] [.mk nSet ⟨#[]⟩ 0 (.mk nWeight ⟨#[]⟩ (inX 6))]
def pkX (on n:ByteArray) (a:List Arg):Pk:=.mk n on n a nInt [] ⟨#[]⟩ (-1) []
def kxQ:Pk:=pkX nBox nCalc [.mk ⟨#[110]⟩ (inX 1)]
def kxM:Pk:=pkX nMut nSet []
def kxP:Pln:=.mk 2 [kxM]
theorem exArg:ofL (argT kxS kxD 0 kxQ)=nArg:=by decide +kernel
theorem exRun2:(runV kxS kxD kxP).2=kxE:=rfl
theorem exRun1:(runV kxS kxD kxP).1=.mk 6 0 ⟨#[]⟩ [txV nMut,zVal] [⟨#[95,95,116]⟩,nSet]:=rfl
theorem exObj:objectV kxS kxD [kxQ] 0=.mk 6 0 ⟨#[]⟩ [txV nBox,inX 8] [⟨#[95,95,116]⟩,nCalc]:=by kernel_rfl
theorem exNo:objectV kxS kxD [] 9=zVal:=rfl
def fx1:AV→AV
 | .e0=>.ds []
 | α=>α
def fx2:AV→AV
 | .ds L=>.ds (L.map fun e=>e.map fx1)
 | α=>fx1 α
def fx3:AV→AV
 | .ag l=>.ag (l.map fx2)
 | α=>fx2 α
theorem fx1_rel {h:HP} {α:AV} {v:Value} (r:PRel h α v):PRel h (fx1 α) v:=by
 cases r with
 | e0 a=>exact .ds [] 0 a 0 (fun _ _=>undef) (by simp) (fun j e q=>by simp at q) (fun j e q α q1=>by simp at q1) (fun q=>absurd rfl q)
 | un v=>exact .un v
 | b x=>exact .b x
 | i k n=>exact .i k n
 | s x=>exact .s x
 | ag l vs e h1=>exact .ag l vs e h1
 | tp l vs e h1=>exact .tp l vs e h1
 | ds l n a cap us hc hn hm hx=>exact .ds l n a cap us hc hn hm hx
 | np=>exact .np
 | mn=>exact .mn
 | nf=>exact .nf
 | ni=>exact .ni
 | fc t x v h1=>exact .fc t x v h1
 | gd c x v h1 h2=>exact .gd c x v h1 h2
theorem fx2_rel {h:HP} {α:AV} {v:Value} (r:PRel h α v):PRel h (fx2 α) v:=by
 cases r with
 | ds l n a cap us hc hn hm hx =>
  have e:(l.map fun e=>e.map fx1).length=l.length:=by simp
  rw [fx2,←e]
  refine .ds _ n a cap us (by omega) (fun j x hj=>?_) (fun j x q α hj hq=>?_) (fun hne=>?_)
  .rw [zlp] at hj
   obtain ⟨y,hy,rfl⟩:=Option.map_eq_some_iff.1 hj
   rw [zlv]
   exact hn j y hy
  .rw [zlp] at hj
   obtain ⟨y,hy,rfl⟩:=Option.map_eq_some_iff.1 hj
   rw [zlp] at hq
   obtain ⟨z,hz,rfl⟩:=Option.map_eq_some_iff.1 hq
   exact fx1_rel (hm j y q z hy hz)
  .obtain ⟨b,off,ea,hcell⟩:=hx (fun q=>hne (by rw [q];rfl))
   refine ⟨b,off,ea,fun j x q α hj hq=>?_⟩
   rw [zlp] at hj
   obtain ⟨y,hy,rfl⟩:=Option.map_eq_some_iff.1 hj
   rw [zlp] at hq
   obtain ⟨z,hz,rfl⟩:=Option.map_eq_some_iff.1 hq
   exact hcell j y q z hy hz
 | e0 a=>exact fx1_rel (.e0 a)
 | un v=>exact .un v
 | b x=>exact .b x
 | i k n=>exact .i k n
 | s x=>exact .s x
 | ag l vs e h1=>exact .ag l vs e h1
 | tp l vs e h1=>exact .tp l vs e h1
 | np=>exact .np
 | mn=>exact .mn
 | nf=>exact .nf
 | ni=>exact .ni
 | fc t x v h1=>exact .fc t x v h1
 | gd c x v h1 h2=>exact .gd c x v h1 h2
theorem fx3_pre {h:HP} {α:AV} {v:Value} (r:PRel h α v):PRel h (fx3 α) v:=by
 cases α with
 | ag l =>
  cases r with
  | ag _ vs e h1 =>
   refine .ag _ vs (by rw [zlv];exact e) fun j β u a b=>?_
   rw [zlp] at a
   obtain ⟨y,hy,rfl⟩:=Option.map_eq_some_iff.1 a
   exact fx2_rel (h1 j y u hy b)
 | _=>exact fx2_rel r
theorem fx2_r {h:HP} {ρ:RO} {α:AV} {v:Value} (r:Rel h ρ α v):Rel h ρ (fx2 α) v:=by
 cases r with
 | pu _ _ p=>exact .pu _ _ (fx2_rel p)
 | ag l vs e h1=>exact .ag l vs e h1
 | tp l vs e h1=>exact .tp l vs e h1
 | bx k off b c e=>exact .bx k off b c e
 | rw k g len cap a ob e1 e2 e3=>exact .rw k g len cap a ob e1 e2 e3
 | ep α n i off b o len cap h1 h2=>exact .ep α n i off b o len cap h1 h2
 | mp k b c e=>exact .mp k b c e
 | fn f l vs e h1=>exact .fn f l vs e h1
 | fc t x v h1=>exact .fc t x v h1
 | gd c x v h1 h2=>exact .gd c x v h1 h2
theorem fx3_r {h:HP} {ρ:RO} {α:AV} {v:Value} (r:Rel h ρ α v):Rel h ρ (fx3 α) v:=by
 cases r with
 | pu _ _ p=>exact .pu _ _ (fx3_pre p)
 | ag l vs e h1 =>
  refine .ag _ vs (by rw [zlv];exact e) fun j β u a b=>?_
  rw [zlp] at a
  obtain ⟨y,hy,rfl⟩:=Option.map_eq_some_iff.1 a
  exact fx2_r (h1 j y u hy b)
 | tp l vs e h1=>exact .tp l vs e h1
 | bx k off b c e=>exact .bx k off b c e
 | rw k g len cap a ob e1 e2 e3=>exact .rw k g len cap a ob e1 e2 e3
 | ep α n i off b o len cap h1 h2=>exact .ep α n i off b o len cap h1 h2
 | mp k b c e=>exact .mp k b c e
 | fn f l vs e h1=>exact .fn f l vs e h1
 | fc t x v h1=>exact .fc t x v h1
 | gd c x v h1 h2=>exact .gd c x v h1 h2
theorem MeetsF.fix {P:Program} {f:FuncId} {hp:CH} {n:Nat} {args args':List AV} {r:AV} (e:args'.map fx3=args) (m:MeetsF P f hp n args r):MeetsF P f hp n args' r :=
 ⟨m.1,fun h ρ w vs hs ha=>m.2 h ρ w vs hs ⟨by rw [←e,zlv];exact ha.1,fun j β u a b=>by
  rw [←e,zlp] at a
  obtain ⟨y,hy,rfl⟩:=Option.map_eq_some_iff.1 a
  exact fx3_r (ha.2 j y u hy b)⟩⟩
def inV (n:Int):Val:=.mk 2 n ⟨#[]⟩ [] []
theorem int_ok (n:Int) (hp:CH) (m:Nat):MeetsF Tryz.prog 28 hp m [.i .i64 n] (vx (inV n)):=by
 refine meetsF Tryz.func28 (by kernel_rfl) cc28 cr28 rfl fun hf=>?_;unfold ck28
 simp only [go_sem,↓reduceIte,Za,Zb,Zc,Zd,Ze,reduceCtorEq,Zf,Zg,Zh,Zi,Zj,Zk]
 rfl
theorem cell_ok (f a:ByteArray) (v:Val) (hp:CH) (m:Nat):MeetsF Tryz.prog 27 hp m [.s f,.s a,vx v] (cx (.mk f a v)):=by
 refine meetsF Tryz.func27 (by kernel_rfl) cc27 cr27 rfl fun hf=>?_;unfold ck27
 simp only [go_sem,↓reduceIte,Za,Zb,Zc,Zd,Ze,reduceCtorEq,Zf,Zg,Zh,Zi,Zj,Zk]
 rfl
theorem pick_ok (on n:ByteArray) (hp:CH) (m:Nat):MeetsF Tryz.prog 29 hp m [.s on,.s n] (pkx (pkX on n [])):=by
 refine meetsF Tryz.func29 (by kernel_rfl) cc29 cr29 rfl fun hf=>?_;unfold ck29
 simp only [go_sem,↓reduceIte,Za,Zb,Zc,Zd,Ze,reduceCtorEq,Zf,Zg,Zh,Zi,Zj,Zk]
 rfl
theorem inX_sm (n:Int) (h0:-9223372036854775808≤n) (h1:n≤9223372036854775807):VSm (inX n) :=
 ⟨.mk _ (by simp [inX,Val.items_mk]) (by simp [inX,Val.keys_mk]) (by simp [inX,Val.items_mk]),.mk _ (by simpa [inX,Val.n_mk] using h0) (by simpa [inX,Val.n_mk] using h1) (by simp [inX,Val.items_mk]),by rw [avL_val];simp [inX,Val.s_mk,Val.items_mk,Val.keys_mk,mapC,avLL,ByteArray.size]⟩
theorem kxS_ok:SOk kxS:=⟨by decide,by simp [kxS,Sup.joins_mk,Jn.req_mk],by decide⟩
theorem kxD_ok:DOk kxD 2:=by
 have h5:=inX_sm 5 (by omega) (by omega)
 have h6:=inX_sm 6 (by omega) (by omega)
 have h8:=inX_sm 8 (by omega) (by omega)
 refine ⟨⟨.mk _ (by decide) (by decide) ?_ ?_,by decide,?_⟩,?_,?_,?_⟩
 all_goals simp [kxD,Dat.i_mk,Dat.w_mk,Itm.l_mk,Wri.c_mk,Cel.v_mk,h5,h6,h8,h5.f,h6.f,h8.f]
theorem kxA_ok:AOk kxQ.args:=⟨by
 have h1:=inX_sm 1 (by omega) (by omega)
 simp [kxQ,pkX,Pk.args,Arg.v_mk,h1],by decide,by decide⟩
theorem kxQ_ok:kxQ.Ok:=.mk _ kxA_ok (by decide) (by simp [kxQ,pkX,Pk.picks])
theorem kxM_ok:kxM.Ok:=.mk _ ⟨by simp [kxM,pkX,Pk.args],by decide,by decide⟩ (by decide) (by simp [kxM,pkX,Pk.picks])
def kxW:Val:=.mk 6 0 ⟨#[]⟩ [txV nBox,inX 8] [⟨#[95,95,116]⟩,nCalc]
theorem kxW_fit:kxW.Fit:=.mk _ (by decide) (by decide) (by simp [kxW,Val.items_mk,tx_fit,(inX_sm 8 (by omega) (by omega)).f])
theorem know21_ok (hp:CH) (m:Nat):MeetsF Tryz.prog 11 hp m [] (.b true):=by
 have hRun:=tRun_ok kxS kxS_ok kxD kxD_ok kxP (by decide) (by simp [kxP,Pln.l_mk,kxM_ok]) (fun _=>by decide)
 rw [exRun1,exRun2] at hRun
 change ∀hp m,MeetsF Tryz.prog 17 hp m [supx kxS,dx kxD,plx kxP] (.tp [.ag [.i .i64 6,.i .i64 0,.s ⟨#[]⟩,.ds [[.i .i64 3,.i .i64 0,.s nMut,.ds [],.ds []],[.i .i64 0,.i .i64 0,.s ⟨#[]⟩,.ds [],.ds []]],.ds [[.s ⟨#[95,95,116]⟩],[.s nSet]]],
  .ag [.ds [[.s nBox,.ds [[.s nWeight,.s ⟨#[]⟩,.i .i64 2,.i .i64 6,.s ⟨#[]⟩,.ds [],.ds []],[.s nCalc,.s nArg,.i .i64 2,.i .i64 8,.s ⟨#[]⟩,.ds [],.ds []]]],[.s nMut,.ds []]],.ds (mapC wrC kxE.w)]]) at hRun
 have hArg:=tArgs_ok kxS kxS_ok kxD kxD_ok 0 kxQ kxA_ok
 rw [exArg] at hArg
 change ∀hp m,MeetsF Tryz.prog 12 hp m [supx kxS,dx kxD,.i .i64 0,pkx kxQ] (.s ⟨#[110,58,32,49,124,91,53,93]⟩) at hArg
 have hOb:=tObject_ok kxS kxS_ok kxD kxD_ok [kxQ] (by decide) (by simp [kxQ_ok]) 0
 rw [exObj] at hOb
 have hNo:=tObject_ok kxS kxS_ok kxD kxD_ok [] (by decide) (by simp) 9
 rw [exNo] at hNo
 have hS1:=same_ok kxW kxW kxW_fit kxW_fit
 have hS2:=same_ok zVal zVal zVal_fit zVal_fit
 rw [decide_eq_true (cmpV_refl _)] at hS1 hS2
 refine meetsF Tryz.func11 (by kernel_rfl) cc11 cr11 rfl fun hf=>?_;unfold ck11
 simp only [go_sem,↓reduceIte,Za,Zb,Zc,Zd,Ze,reduceCtorEq,Zf,Zg,Zh,Zi,Zj,Zk]
 refine vcCall.f (int_ok _ _ _) ?_
 simp only [go_sem,↓reduceIte,Za,Zb,Zc,Zd,Ze,reduceCtorEq,Zf,Zg,Zh,Zi,Zj,Zk]
 refine vcCall.f (cell_ok _ _ _ _ _) ?_
 simp only [go_sem,↓reduceIte,Za,Zb,Zc,Zd,Ze,reduceCtorEq,Zf,Zg,Zh,Zi,Zj,Zk]
 refine vcCall.f (int_ok _ _ _) ?_
 simp only [go_sem,↓reduceIte,Za,Zb,Zc,Zd,Ze,reduceCtorEq,Zf,Zg,Zh,Zi,Zj,Zk]
 refine vcCall.f (cell_ok _ _ _ _ _) ?_
 simp only [go_sem,↓reduceIte,Za,Zb,Zc,Zd,Ze,reduceCtorEq,Zf,Zg,Zh,Zi,Zj,Zk]
 refine vcCall.f (int_ok _ _ _) ?_
 simp only [go_sem,↓reduceIte,Za,Zb,Zc,Zd,Ze,reduceCtorEq,Zf,Zg,Zh,Zi,Zj,Zk]
 refine vcCall.f (cell_ok _ _ _ _ _) ?_
 simp only [go_sem,↓reduceIte,Za,Zb,Zc,Zd,Ze,reduceCtorEq,Zf,Zg,Zh,Zi,Zj,Zk]
 refine vcCall.f (pick_ok _ _ _ _) ?_
 simp only [go_sem,↓reduceIte,Za,Zb,Zc,Zd,Ze,reduceCtorEq,Zf,Zg,Zh,Zi,Zj,Zk]
 refine vcCall.f (int_ok _ _ _) ?_
 simp only [go_sem,↓reduceIte,Za,Zb,Zc,Zd,Ze,reduceCtorEq,Zf,Zg,Zh,Zi,Zj,Zk]
 refine vcCall.f (text_ok _ _ _) ?_
 simp only [go_sem,↓reduceIte,Za,Zb,Zc,Zd,Ze,reduceCtorEq,Zf,Zg,Zh,Zi,Zj,Zk]
 refine vcCall.f (int_ok _ _ _) ?_
 simp only [go_sem,↓reduceIte,Za,Zb,Zc,Zd,Ze,reduceCtorEq,Zf,Zg,Zh,Zi,Zj,Zk]
 refine wk_of (s':=⟨[(4,.bx (m+12) 0),(3,.bx (m+8) 0),(2,.bx (m+7) 0),(1,.bx (m+3) 0)],
  (m+12,.bx [.i .i64 kxW.k,.i .i64 kxW.n,.s kxW.s,.ds (mapC valC kxW.items),.ds (stC kxW.keys)])::(m+8,.bx [.s kxQ.key,.s kxQ.on,.s kxQ.name,.ds (mapC argC kxQ.args),.s kxQ.tn,.ds (mapC in1 kxQ.tw),.s kxQ.label,.i .i64 kxQ.initial,.ds (mapC pkC kxQ.picks)])::(m+7,.bx [.ds (mapC itC kxD.i),.ds (mapC wrC kxD.w)])::(m+3,.bx [.ds (stC kxS.g),.e0,.e0,.ds (mapC jnC kxS.joins)])::hp,m+13⟩)
  ((weak_shb (c:=m+3) (i:=0) (k:=m) (by (simp (disch:=omega) only [ite_ne,go_sem,↓reduceIte,Za,Zb,Zc,Zd,Ze,reduceCtorEq,Zf,Zg,Zh,Zi,Zj,Zk]);rfl) rfl (by (simp (disch:=omega) only [ite_ne,go_sem,↓reduceIte,Za,Zb,Zc,Zd,Ze,reduceCtorEq,Zf,Zg,Zh,Zi,Zj,Zk]);rfl) (by decide)).trans
  ((weak_shb (c:=m+3) (i:=3) (k:=m+2) (by (simp (disch:=omega) only [ite_ne,go_sem,↓reduceIte,Za,Zb,Zc,Zd,Ze,reduceCtorEq,Zf,Zg,Zh,Zi,Zj,Zk]);rfl) rfl (by (simp (disch:=omega) only [ite_ne,go_sem,↓reduceIte,Za,Zb,Zc,Zd,Ze,reduceCtorEq,Zf,Zg,Zh,Zi,Zj,Zk]);rfl) (by decide)).trans
  ((weak_shb (c:=m+7) (i:=0) (k:=m+5) (by (simp (disch:=omega) only [ite_ne,go_sem,↓reduceIte,Za,Zb,Zc,Zd,Ze,reduceCtorEq,Zf,Zg,Zh,Zi,Zj,Zk]);rfl) rfl (by (simp (disch:=omega) only [ite_ne,go_sem,↓reduceIte,Za,Zb,Zc,Zd,Ze,reduceCtorEq,Zf,Zg,Zh,Zi,Zj,Zk]);rfl) (by decide)).trans
  ((weak_shb (c:=m+7) (i:=1) (k:=m+6) (by (simp (disch:=omega) only [ite_ne,go_sem,↓reduceIte,Za,Zb,Zc,Zd,Ze,reduceCtorEq,Zf,Zg,Zh,Zi,Zj,Zk]);rfl) rfl (by (simp (disch:=omega) only [ite_ne,go_sem,↓reduceIte,Za,Zb,Zc,Zd,Ze,reduceCtorEq,Zf,Zg,Zh,Zi,Zj,Zk]);rfl) (by decide)).trans
  ((weak_shb (c:=m+8) (i:=3) (k:=m+9) (by (simp (disch:=omega) only [ite_ne,go_sem,↓reduceIte,Za,Zb,Zc,Zd,Ze,reduceCtorEq,Zf,Zg,Zh,Zi,Zj,Zk]);rfl) rfl (by (simp (disch:=omega) only [ite_ne,go_sem,↓reduceIte,Za,Zb,Zc,Zd,Ze,reduceCtorEq,Zf,Zg,Zh,Zi,Zj,Zk]);rfl) (by decide)).trans
  ((weak_shb (c:=m+12) (i:=4) (k:=m+10) (by (simp (disch:=omega) only [ite_ne,go_sem,↓reduceIte,Za,Zb,Zc,Zd,Ze,reduceCtorEq,Zf,Zg,Zh,Zi,Zj,Zk]);rfl) rfl (by (simp (disch:=omega) only [ite_ne,go_sem,↓reduceIte,Za,Zb,Zc,Zd,Ze,reduceCtorEq,Zf,Zg,Zh,Zi,Zj,Zk]);rfl) (by decide)).trans
  ((weak_shb (c:=m+12) (i:=3) (k:=m+11) (by (simp (disch:=omega) only [ite_ne,go_sem,↓reduceIte,Za,Zb,Zc,Zd,Ze,reduceCtorEq,Zf,Zg,Zh,Zi,Zj,Zk]);rfl) rfl (by (simp (disch:=omega) only [ite_ne,go_sem,↓reduceIte,Za,Zb,Zc,Zd,Ze,reduceCtorEq,Zf,Zg,Zh,Zi,Zj,Zk]);rfl) (by decide)).trans
  (weak_ok ?_ (Sub.cons ?_ (Sub.cons ?_ (Sub.cons ?_ (Sub.cons ?_ (Sub.base hf ?_))))) (Nat.le_refl _))))))))) ?_
 all_goals first | ((simp (disch:=omega) only [ite_ne,go_sem,↓reduceIte,Za,Zb,Zc,Zd,Ze,reduceCtorEq,Zf,Zg,Zh,Zi,Zj,Zk]);done) | ((simp (disch:=omega) only [ite_ne,go_sem,↓reduceIte,Za,Zb,Zc,Zd,Ze,reduceCtorEq,Zf,Zg,Zh,Zi,Zj,Zk]);rfl) | skip
 simp (disch:=omega) only [ite_ne,go_sem,↓reduceIte,Za,Zb,Zc,Zd,Ze,reduceCtorEq,Zf,Zg,Zh,Zi,Zj,Zk]
 refine dCallR.f (fun _ hp' e=>pick_ok _ _ _ _) ?_
 simp (disch:=omega) only [ite_ne,go_sem,↓reduceIte,Za,Zb,Zc,Zd,Ze,reduceCtorEq,Zf,Zg,Zh,Zi,Zj,Zk]
 refine dCallR.f (fun _ hp' e=>MeetsF.fix (args:=[supx kxS,dx kxD,plx kxP]) rfl (hRun _ _)) ?_
 simp (disch:=omega) only [ite_ne,go_sem,↓reduceIte,Za,Zb,Zc,Zd,Ze,reduceCtorEq,Zf,Zg,Zh,Zi,Zj,Zk]
 refine dCallR.f (fun _ hp' e=>MeetsF.fix (args:=[supx kxS,dx kxD,.i .i64 0,pkx kxQ]) rfl (hArg _ _)) ?_
 simp (disch:=omega) only [ite_ne,false_and,or_false,go_sem,↓reduceIte,Za,Zb,Zc,Zd,Ze,reduceCtorEq,Zf,Zg,Zh,Zi,Zj,Zk]
 refine dCall.f (fun _ hp' e=>MeetsF.fix (args:=[supx kxS,dx kxD,.i .i64 0,.ds (mapC pkC [kxQ])]) rfl (hOb _ _)) ?_
 simp (disch:=omega) only [ite_ne,false_and,or_false,go_sem,↓reduceIte,Za,Zb,Zc,Zd,Ze,reduceCtorEq,Zf,Zg,Zh,Zi,Zj,Zk]
 refine dCall.f (fun _ hp' e=>MeetsF.fix (args:=[vx kxW,vx kxW]) rfl (hS1 _ _)) ?_
 simp (disch:=omega) only [ite_ne,false_and,or_false,go_sem,↓reduceIte,Za,Zb,Zc,Zd,Ze,reduceCtorEq,Zf,Zg,Zh,Zi,Zj,Zk]
 refine dCall.f (fun _ hp' e=>MeetsF.fix (args:=[supx kxS,dx kxD,.i .i64 9,.ds (mapC pkC [])]) rfl (hNo _ _)) ?_
 simp (disch:=omega) only [ite_ne,false_and,or_false,go_sem,↓reduceIte,Za,Zb,Zc,Zd,Ze,reduceCtorEq,Zf,Zg,Zh,Zi,Zj,Zk]
 refine dCall.f (fun _ hp' e=>MeetsF.fix (args:=[vx zVal,vx zVal]) rfl (hS2 _ _)) ?_
 simp (disch:=omega) only [ite_ne,go_sem,↓reduceIte,Za,Zb,Zc,Zd,Ze,reduceCtorEq,Zf,Zg,Zh,Zi,Zj,Zk]
end Go.Proofs.YthiifoleopdieaaGreatDoor
