/- Proof. Conditions: none. -/
import Derived.Test.YthiifoleopdieaaGreatDoorRows
import Derived.WalkKit
import Derived.Test.YthiifoleopdieaaGreatDoorIx51
open Nat renaming reduceEqDiff→Za,reduceBEq→Zb,reduceAdd→Zc,reduceLeDiff→Zd,reduceLT→Ze,reduceMul→Zf,reduceSub→Zg
open Int renaming reduceEq→Zh,reduceLT→Zi,reduceLE→Zj,reduceToNat→Zk
open List renaming mem_map_of_mem→zls
namespace Go.Proofs.YthiifoleopdieaaGreatDoor
open Go.Eng
set_option linter.all false
set_option maxRecDepth 20000
set_option maxHeartbeats 1000000
theorem cell_ok (f a:ByteArray) (v:Val) (hp:CH) (m:Nat):MeetsF Tryz.prog 27 hp m [.s f,.s a,vx v] (cx (.mk f a v)):=by
 refine meetsF Tryz.func27 (by kernel_rfl) cc27 cr27 rfl fun hf=>?_;unfold ck27
 simp only [go_sem,↓reduceIte,Za,Zb,Zc,Zd,Ze,reduceCtorEq,Zf,Zg,Zh,Zi,Zj,Zk]
 rfl
theorem pick_ok (on n:ByteArray) (hp:CH) (m:Nat):MeetsF Tryz.prog 29 hp m [.s on,.s n] (pkx (pkX on n [])):=by
 refine meetsF Tryz.func29 (by kernel_rfl) cc29 cr29 rfl fun hf=>?_;unfold ck29
 simp only [go_sem,↓reduceIte,Za,Zb,Zc,Zd,Ze,reduceCtorEq,Zf,Zg,Zh,Zi,Zj,Zk]
 rfl
theorem inX_sm (n:Int) (h0:-9223372036854775808≤n) (h1:n≤9223372036854775807):VSm (inX n) :=
 ⟨.mk _ (by simp [inX,Val.items_mk]) (by simp [inX,Val.keys_mk]) (by simp [inX,Val.items_mk]),.mk _ (by simpa [inX,Val.n_mk] using h0) (by simpa [inX,Val.n_mk] using h1) (by simp [inX,Val.items_mk]),by rw [avL_val];simp [inX,Val.s_mk,Val.items_mk,Val.keys_mk,mapC,avLL,ByteArray.size]⟩
theorem kxS_ok:SOk kxS:=⟨by decide,by simp [kxS,Sup.joins_mk,Jn.req_mk],by decide⟩
theorem kxD_ok:DOk kxD 2:=by
 have h5:=inX_sm 5 (by omega) (by omega)
 have h6:=inX_sm 6 (by omega) (by omega)
 have h8:=inX_sm 8 (by omega) (by omega)
 refine ⟨⟨.mk _ (by decide) (by decide) ?_ ?_,by decide,?_⟩,?_,?_,?_⟩
 all_goals simp [kxD,Dat.i_mk,Dat.w_mk,Itm.l_mk,Wri.c_mk,Cel.v_mk,h5,h6,h8,h5.f,h6.f,h8.f]
theorem kxA_ok:AOk kxQ.args:=⟨by
 have h1:=inX_sm 1 (by omega) (by omega)
 simp [kxQ,pkX,Pk.args,Arg.v_mk,h1],by decide,by decide⟩
theorem kxQ_ok:kxQ.Ok:=.mk _ kxA_ok (by decide) (by simp [kxQ,pkX,Pk.picks])
theorem kxM_ok:kxM.Ok:=.mk _ ⟨by simp [kxM,pkX,Pk.args],by decide,by decide⟩ (by decide) (by simp [kxM,pkX,Pk.picks])
def kxW:Val:=.mk 6 0 ⟨#[]⟩ [txV nBox,inX 8] [⟨#[95,95,116]⟩,nCalc]
theorem kxW_fit:kxW.Fit:=.mk _ (by decide) (by decide) (by simp [kxW,Val.items_mk,tx_fit,(inX_sm 8 (by omega) (by omega)).f])
theorem know21_ok (hp:CH) (m:Nat):MeetsF Tryz.prog 11 hp m [] (.b true):=by
 have hRun:=tRun_ok kxS kxS_ok kxD kxD_ok kxP (by decide) (by simp [kxP,Pln.l_mk,kxM_ok]) (fun _=>by decide)
 rw [exRun1,exRun2] at hRun
 change ∀hp m,MeetsF Tryz.prog 17 hp m [supx kxS,dx kxD,plx kxP] (.tp [.ag [.i .i64 6,.i .i64 0,.s ⟨#[]⟩,.ds [[.i .i64 3,.i .i64 0,.s nMut,.ds [],.ds []],[.i .i64 0,.i .i64 0,.s ⟨#[]⟩,.ds [],.ds []]],.ds [[.s ⟨#[95,95,116]⟩],[.s nSet]]],
  .ag [.ds [[.s nBox,.ds [[.s nWeight,.s ⟨#[]⟩,.i .i64 2,.i .i64 6,.s ⟨#[]⟩,.ds [],.ds []],[.s nCalc,.s nArg,.i .i64 2,.i .i64 8,.s ⟨#[]⟩,.ds [],.ds []]]],[.s nMut,.ds []]],.ds (mapC wrC kxE.w)]]) at hRun
 have hArg:=tArgs_ok kxS kxS_ok kxD kxD_ok 0 kxQ kxA_ok
 rw [exArg] at hArg
 change ∀hp m,MeetsF Tryz.prog 12 hp m [supx kxS,dx kxD,.i .i64 0,pkx kxQ] (.s ⟨#[110,58,32,49,124,91,53,93]⟩) at hArg
 have hOb:=tObject_ok kxS kxS_ok kxD kxD_ok [kxQ] (by decide) (by simp [kxQ_ok]) 0
 rw [exObj] at hOb
 have hNo:=tObject_ok kxS kxS_ok kxD kxD_ok [] (by decide) (by simp) 9
 rw [exNo] at hNo
 have hS1:=same_ok kxW kxW kxW_fit kxW_fit
 have hS2:=same_ok zVal zVal zVal_fit zVal_fit
 rw [decide_eq_true (cmpV_refl _)] at hS1 hS2
 refine meetsF Tryz.func11 (by kernel_rfl) cc11 cr11 rfl fun hf=>?_;unfold ck11
 simp only [go_sem,↓reduceIte,Za,Zb,Zc,Zd,Ze,reduceCtorEq,Zf,Zg,Zh,Zi,Zj,Zk]
 refine vcCall.f (int_ok _ _ _) ?_
 simp only [go_sem,↓reduceIte,Za,Zb,Zc,Zd,Ze,reduceCtorEq,Zf,Zg,Zh,Zi,Zj,Zk]
 refine vcCall.f (cell_ok _ _ _ _ _) ?_
 simp only [go_sem,↓reduceIte,Za,Zb,Zc,Zd,Ze,reduceCtorEq,Zf,Zg,Zh,Zi,Zj,Zk]
 refine vcCall.f (int_ok _ _ _) ?_
 simp only [go_sem,↓reduceIte,Za,Zb,Zc,Zd,Ze,reduceCtorEq,Zf,Zg,Zh,Zi,Zj,Zk]
 refine vcCall.f (cell_ok _ _ _ _ _) ?_
 simp only [go_sem,↓reduceIte,Za,Zb,Zc,Zd,Ze,reduceCtorEq,Zf,Zg,Zh,Zi,Zj,Zk]
 refine vcCall.f (int_ok _ _ _) ?_
 simp only [go_sem,↓reduceIte,Za,Zb,Zc,Zd,Ze,reduceCtorEq,Zf,Zg,Zh,Zi,Zj,Zk]
 refine vcCall.f (cell_ok _ _ _ _ _) ?_
 simp only [go_sem,↓reduceIte,Za,Zb,Zc,Zd,Ze,reduceCtorEq,Zf,Zg,Zh,Zi,Zj,Zk]
 refine vcCall.f (pick_ok _ _ _ _) ?_
 simp only [go_sem,↓reduceIte,Za,Zb,Zc,Zd,Ze,reduceCtorEq,Zf,Zg,Zh,Zi,Zj,Zk]
 refine vcCall.f (int_ok _ _ _) ?_
 simp only [go_sem,↓reduceIte,Za,Zb,Zc,Zd,Ze,reduceCtorEq,Zf,Zg,Zh,Zi,Zj,Zk]
 refine vcCall.f (text_ok _ _ _) ?_
 simp only [go_sem,↓reduceIte,Za,Zb,Zc,Zd,Ze,reduceCtorEq,Zf,Zg,Zh,Zi,Zj,Zk]
 refine vcCall.f (int_ok _ _ _) ?_
 simp only [go_sem,↓reduceIte,Za,Zb,Zc,Zd,Ze,reduceCtorEq,Zf,Zg,Zh,Zi,Zj,Zk]
 refine wk_of (s':=⟨[(4,.bx (m+12) 0),(3,.bx (m+8) 0),(2,.bx (m+7) 0),(1,.bx (m+3) 0)],
  (m+12,.bx [.i .i64 kxW.k,.i .i64 kxW.n,.s kxW.s,.ds (mapC valC kxW.items),.ds (stC kxW.keys)])::(m+8,.bx [.s kxQ.key,.s kxQ.on,.s kxQ.name,.ds (mapC argC kxQ.args),.s kxQ.tn,.ds (mapC in1 kxQ.tw),.s kxQ.label,.i .i64 kxQ.initial,.ds (mapC pkC kxQ.picks)])::(m+7,.bx [.ds (mapC itC kxD.i),.ds (mapC wrC kxD.w)])::(m+3,.bx [.ds (stC kxS.g),.e0,.e0,.ds (mapC jnC kxS.joins)])::hp,m+13⟩)
  ((weak_shb (c:=m+3) (i:=0) (k:=m) (by (simp (disch:=omega) only [ite_ne,go_sem,↓reduceIte,Za,Zb,Zc,Zd,Ze,reduceCtorEq,Zf,Zg,Zh,Zi,Zj,Zk]);rfl) rfl (by (simp (disch:=omega) only [ite_ne,go_sem,↓reduceIte,Za,Zb,Zc,Zd,Ze,reduceCtorEq,Zf,Zg,Zh,Zi,Zj,Zk]);rfl) (by decide)).trans
  ((weak_shb (c:=m+3) (i:=3) (k:=m+2) (by (simp (disch:=omega) only [ite_ne,go_sem,↓reduceIte,Za,Zb,Zc,Zd,Ze,reduceCtorEq,Zf,Zg,Zh,Zi,Zj,Zk]);rfl) rfl (by (simp (disch:=omega) only [ite_ne,go_sem,↓reduceIte,Za,Zb,Zc,Zd,Ze,reduceCtorEq,Zf,Zg,Zh,Zi,Zj,Zk]);rfl) (by decide)).trans
  ((weak_shb (c:=m+7) (i:=0) (k:=m+5) (by (simp (disch:=omega) only [ite_ne,go_sem,↓reduceIte,Za,Zb,Zc,Zd,Ze,reduceCtorEq,Zf,Zg,Zh,Zi,Zj,Zk]);rfl) rfl (by (simp (disch:=omega) only [ite_ne,go_sem,↓reduceIte,Za,Zb,Zc,Zd,Ze,reduceCtorEq,Zf,Zg,Zh,Zi,Zj,Zk]);rfl) (by decide)).trans
  ((weak_shb (c:=m+7) (i:=1) (k:=m+6) (by (simp (disch:=omega) only [ite_ne,go_sem,↓reduceIte,Za,Zb,Zc,Zd,Ze,reduceCtorEq,Zf,Zg,Zh,Zi,Zj,Zk]);rfl) rfl (by (simp (disch:=omega) only [ite_ne,go_sem,↓reduceIte,Za,Zb,Zc,Zd,Ze,reduceCtorEq,Zf,Zg,Zh,Zi,Zj,Zk]);rfl) (by decide)).trans
  ((weak_shb (c:=m+8) (i:=3) (k:=m+9) (by (simp (disch:=omega) only [ite_ne,go_sem,↓reduceIte,Za,Zb,Zc,Zd,Ze,reduceCtorEq,Zf,Zg,Zh,Zi,Zj,Zk]);rfl) rfl (by (simp (disch:=omega) only [ite_ne,go_sem,↓reduceIte,Za,Zb,Zc,Zd,Ze,reduceCtorEq,Zf,Zg,Zh,Zi,Zj,Zk]);rfl) (by decide)).trans
  ((weak_shb (c:=m+12) (i:=4) (k:=m+10) (by (simp (disch:=omega) only [ite_ne,go_sem,↓reduceIte,Za,Zb,Zc,Zd,Ze,reduceCtorEq,Zf,Zg,Zh,Zi,Zj,Zk]);rfl) rfl (by (simp (disch:=omega) only [ite_ne,go_sem,↓reduceIte,Za,Zb,Zc,Zd,Ze,reduceCtorEq,Zf,Zg,Zh,Zi,Zj,Zk]);rfl) (by decide)).trans
  ((weak_shb (c:=m+12) (i:=3) (k:=m+11) (by (simp (disch:=omega) only [ite_ne,go_sem,↓reduceIte,Za,Zb,Zc,Zd,Ze,reduceCtorEq,Zf,Zg,Zh,Zi,Zj,Zk]);rfl) rfl (by (simp (disch:=omega) only [ite_ne,go_sem,↓reduceIte,Za,Zb,Zc,Zd,Ze,reduceCtorEq,Zf,Zg,Zh,Zi,Zj,Zk]);rfl) (by decide)).trans
  (weak_ok ?_ (Sub.cons ?_ (Sub.cons ?_ (Sub.cons ?_ (Sub.cons ?_ (Sub.base hf ?_))))) (Nat.le_refl _))))))))) ?_
 all_goals first | ((simp (disch:=omega) only [ite_ne,go_sem,↓reduceIte,Za,Zb,Zc,Zd,Ze,reduceCtorEq,Zf,Zg,Zh,Zi,Zj,Zk]);done) | ((simp (disch:=omega) only [ite_ne,go_sem,↓reduceIte,Za,Zb,Zc,Zd,Ze,reduceCtorEq,Zf,Zg,Zh,Zi,Zj,Zk]);rfl) | skip
 simp (disch:=omega) only [ite_ne,go_sem,↓reduceIte,Za,Zb,Zc,Zd,Ze,reduceCtorEq,Zf,Zg,Zh,Zi,Zj,Zk]
 refine dCallR.f (fun _ hp' e=>pick_ok _ _ _ _) ?_
 simp (disch:=omega) only [ite_ne,go_sem,↓reduceIte,Za,Zb,Zc,Zd,Ze,reduceCtorEq,Zf,Zg,Zh,Zi,Zj,Zk]
 refine dCallR.f (fun _ hp' e=>MeetsF.fix (args:=[supx kxS,dx kxD,plx kxP]) rfl (hRun _ _)) ?_
 simp (disch:=omega) only [ite_ne,go_sem,↓reduceIte,Za,Zb,Zc,Zd,Ze,reduceCtorEq,Zf,Zg,Zh,Zi,Zj,Zk]
 refine dCallR.f (fun _ hp' e=>MeetsF.fix (args:=[supx kxS,dx kxD,.i .i64 0,pkx kxQ]) rfl (hArg _ _)) ?_
 simp (disch:=omega) only [ite_ne,false_and,or_false,go_sem,↓reduceIte,Za,Zb,Zc,Zd,Ze,reduceCtorEq,Zf,Zg,Zh,Zi,Zj,Zk]
 refine dCall.f (fun _ hp' e=>MeetsF.fix (args:=[supx kxS,dx kxD,.i .i64 0,.ds (mapC pkC [kxQ])]) rfl (hOb _ _)) ?_
 simp (disch:=omega) only [ite_ne,false_and,or_false,go_sem,↓reduceIte,Za,Zb,Zc,Zd,Ze,reduceCtorEq,Zf,Zg,Zh,Zi,Zj,Zk]
 refine dCall.f (fun _ hp' e=>MeetsF.fix (args:=[vx kxW,vx kxW]) rfl (hS1 _ _)) ?_
 simp (disch:=omega) only [ite_ne,false_and,or_false,go_sem,↓reduceIte,Za,Zb,Zc,Zd,Ze,reduceCtorEq,Zf,Zg,Zh,Zi,Zj,Zk]
 refine dCall.f (fun _ hp' e=>MeetsF.fix (args:=[supx kxS,dx kxD,.i .i64 9,.ds (mapC pkC [])]) rfl (hNo _ _)) ?_
 simp (disch:=omega) only [ite_ne,false_and,or_false,go_sem,↓reduceIte,Za,Zb,Zc,Zd,Ze,reduceCtorEq,Zf,Zg,Zh,Zi,Zj,Zk]
 refine dCall.f (fun _ hp' e=>MeetsF.fix (args:=[vx zVal,vx zVal]) rfl (hS2 _ _)) ?_
 simp (disch:=omega) only [ite_ne,go_sem,↓reduceIte,Za,Zb,Zc,Zd,Ze,reduceCtorEq,Zf,Zg,Zh,Zi,Zj,Zk]
theorem rootP_fit {s:Sup} {d:Dat} {B:Nat} (hd:DOk d B) (root:ByteArray) (x:Pk) (hx:x.Ok):(rootP s root d x).Fit:=by
 unfold rootP
 split
 .exact pickV_fit hd x hx _
 .split
  .exact tx_fit _
  .exact zVal_fit
theorem runL_fit (s:Sup) (mu:Bool) (root:ByteArray) (d:Dat) (l:List Pk) {B:Nat} (hd:DOk d B) (hpo:∀x∈l,x.Ok) (h:mu=true→B+l.length*d.w.length≤100000000000):∀j,j≤l.length→∀y∈(runL s mu root d (l.take j)).1,y.2.Fit
 | 0,_=>by simp [runL]
 | j+1,hj=>by
  have hjl:j<l.length:=by omega
  have ex:=List.getElem?_eq_getElem hjl
  have ih:=runL_fit s mu root d l hd hpo h j (by omega)
  obtain ⟨h1,h2,h3⟩:=runL_inv s mu root d l hd h j (by omega)
  have hD:=rootD_dok (s:=s) (mu:=mu) (root:=root) (x:=l[j]) h3 (fun q=>by
   rw [if_pos q,h1]
   have hh:=h q
   have:(j+1)*d.w.length≤l.length*d.w.length:=Nat.mul_le_mul_right _ hj
   rw [Nat.add_mul,Nat.one_mul] at this
   omega)
  rw [runL_step ex]
  unfold runS
  split
  .intro y hy
   dsimp only at hy
   rcases List.mem_append.1 hy with hy | hy
   .exact ih y hy
   .rw [List.mem_singleton.1 hy]
    exact rootP_fit hD root _ (hpo _ (List.mem_of_getElem? ex))
  .exact ih
theorem runV_fit (s:Sup) (d:Dat) (p:Pln) {B:Nat} (hd:DOk d B) (hl:p.l.length≤1048576) (hpo:∀x∈p.l,x.Ok) (hB:p.k=2→B+p.l.length*d.w.length≤100000000000):(runV s d p).1.Fit:=by
 have hB':decide (p.k=2)=true→B+p.l.length*d.w.length≤100000000000:=fun h=>hB (by simpa using h)
 have h1:=runL_fit s (decide (p.k=2)) (rootS p.k) d p.l hd hpo hB' p.l.length (Nat.le_refl _)
 have h2:=runL_len s (decide (p.k=2)) (rootS p.k) d p.l p.l.length
 rw [List.take_length] at h1 h2
 exact objV_fit (by omega) h1
theorem own:ownKnob Tryz.prog.godebug=none:=by kernel_rfl
theorem kids:Kids Tryz.prog (· < Tryz.prog.types.size):=kids_rows (by kernel_rfl) (by kernel_rfl)
theorem sized {t e:TypeId} (ht:t<Tryz.prog.types.size) (hd:Tryz.prog.underlying t=some (.slice e)):0<Tryz.prog.cellsOf e:=slB_of (by kernel_rfl) ht hd
theorem avLL_mapC {α:Type} {c:α→List AV} {wt:α→Nat}:∀{l:List α},(∀x∈l,wt x≤avL (c x))→(l.map wt).sum≤avLL (mapC c l)
 | [],_=>by simp
 | x::l,h=>by
  have h1:=avLL_mapC (c:=c) (wt:=wt) (l:=l) fun y hy=>h y (by simp [hy])
  have h2:=h x (by simp)
  rw [mapC_cons,avLL,List.map_cons,List.sum_cons]
  omega
theorem mapC_len_le {α:Type} {c:α→List AV} (h:∀x,1≤avL (c x)):∀l:List α,l.length≤avLL (mapC c l)
 | []=>by simp
 | x::l=>by
  have h1:=mapC_len_le h l
  have h2:=h x
  rw [mapC_cons,avLL,List.length_cons]
  omega
theorem avLL_mem {x:List AV}:∀{l:List (List AV)},x∈l→avL x≤avLL l
 | y::l,h=>by
  rw [avLL]
  rcases List.mem_cons.1 h with rfl | h
  .omega
  .have:=avLL_mem h
   omega
theorem st1_av (s:ByteArray):1≤avL (st1 s):=by simp [st1,avL,avw]
theorem wtL_sumR (l:List Val):wtL l=(l.map wtV).sum:=by
 induction l with
 | nil=>rfl
 | cons x l ih=>rw [wtL,ih,List.map_cons,List.sum_cons]
theorem valC_av (v:Val):wtV v+3≤avL (valC v):=by
 refine Val.ind (Q:=fun v=>wtV v+3≤avL (valC v)) (fun v ih=>?_) v
 rw [valC_eq,wtV_eq,wtL_sumR]
 have h1:=avLL_mapC (c:=valC) (wt:=wtV) (l:=v.items) fun x hx=>by have:=ih x hx;omega
 have h2:v.keys.length≤avLL (stC v.keys):=mapC_len_le st1_av v.keys
 simp only [avL,avw]
 omega
theorem shp_val {L:List AV} (h:Shp Tryz.prog 52 L):∃v:Val,L=valC v:=by
 suffices key:∀(n:Nat) (L:List AV),avL L≤n→Shp Tryz.prog 52 L→∃v:Val,L=valC v from key _ L (Nat.le_refl _) h
 intro n
 induction n with
 | zero =>
  intro L hn h
  obtain ⟨parts,rfl,hl,hp⟩:=shp_struct Tryz.underlying52 h
  obtain ⟨a,b,c,d,e,rfl⟩:=ds_n5 (show parts.length=5 from hl)
  obtain ⟨a,rfl,_⟩:=shp_int Tryz.underlying3 (hp 0 _ a rfl rfl)
  simp [avL,avw] at hn
 | succ n ih =>
  intro L hn h
  obtain ⟨parts,rfl,hl,hp⟩:=shp_struct Tryz.underlying52 h
  obtain ⟨a,b,c,d,e,rfl⟩:=ds_n5 (show parts.length=5 from hl)
  obtain ⟨a,rfl,_⟩:=shp_int Tryz.underlying3 (hp 0 _ a rfl rfl)
  obtain ⟨b,rfl,_⟩:=shp_int Tryz.underlying3 (hp 1 _ b rfl rfl)
  obtain ⟨c,rfl,_⟩:=shp_string Tryz.underlying9 (hp 2 _ c rfl rfl)
  obtain ⟨l,rfl,_,hx⟩:=shp_slice Tryz.underlying50 (hp 3 _ d rfl rfl)
  obtain ⟨k,rfl,_,hy⟩:=shp_slice Tryz.underlying22 (hp 4 _ e rfl rfl)
  obtain ⟨vs,rfl,_⟩:=mapC_of (c:=valC) fun x h=>ih x (by
   have:=avLL_mem h
   simp [avL,avw] at hn
   omega) (hx x h)
  obtain ⟨ks,rfl,_⟩:=mapC_of (c:=st1) fun x h=>by
   obtain ⟨s,rfl,_⟩:=shp_string Tryz.underlying9 (hy x h)
   exact ⟨s,rfl⟩
  exact ⟨.mk a b c vs ks,by rw [valC_eq];rfl⟩
theorem vx_av (v:Val):wtV v+3≤avw (vx v):=by
 have:=valC_av v
 rw [valC_eq] at this
 exact this
theorem reads_num {α:AV} (h:AS Tryz.prog 3 α):∃n:Int,α=.i .i64 n∧True:=by
 obtain ⟨n,rfl,_⟩:=as_int Tryz.underlying3 h
 exact ⟨n,rfl,trivial⟩
theorem celC_av (c:Cel):wtV c.v+1≤avL (celC c):=by
 have h:=vx_av c.v
 simp only [vx,avw,avL,celC] at *
 omega
theorem dat_fit (d:Dat) (h:avw (dx d)≤1048576):d.Fit:=by
 simp only [dx,avw,avL] at h
 have hi:d.i.length≤avLL (mapC itC d.i):=mapC_len_le (fun x=>by simp [itC,avL,avw];omega) _
 have hw:d.w.length≤avLL (mapC wrC d.w):=mapC_len_le (fun x=>by simp [wrC,avL,avw];omega) _
 refine .mk d (by omega) (by omega) (fun x hx=>?_) fun x hx=>?_
 .have h1:=avLL_mem (zls (f:=itC) hx)
  have h1:avL (itC x)≤avLL (mapC itC d.i):=h1
  simp only [itC,avL,avw] at h1
  have h2:x.l.length≤avLL (mapC celC x.l):=mapC_len_le (fun x=>by have:=celC_av x;omega) _
  refine ⟨by omega,fun c hc=>wtV_fit _ ?_⟩
  have h3:avL (celC c)≤avLL (mapC celC x.l):=avLL_mem (zls (f:=celC) hc)
  have:=celC_av c
  omega
 .have h1:avL (wrC x)≤avLL (mapC wrC d.w):=avLL_mem (zls (f:=wrC) hx)
  have h2:=vx_av x.c.v
  refine wtV_fit _ ?_
  simp only [wrC,vx,avw,avL] at h1 h2
  omega
end Go.Proofs.YthiifoleopdieaaGreatDoor
