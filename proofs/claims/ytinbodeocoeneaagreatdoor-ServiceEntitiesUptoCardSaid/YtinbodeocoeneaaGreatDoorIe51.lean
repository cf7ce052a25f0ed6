/- Proof. Conditions: none. -/
import Derived.Test.YtinbodeocoeneaaGreatDoorIe50
open Nat renaming reduceEqDiff→Za,reduceBEq→Zb,reduceAdd→Zc,reduceLeDiff→Zd,reduceLT→Ze,reduceMul→Zf,reduceSub→Zg
open Int renaming reduceEq→Zh,reduceLT→Zi,reduceLE→Zj,reduceToNat→Zk
open Nat renaming le_refl→zna
namespace Go.Proofs.YtinbodeocoeneaaGreatDoor
open Go.Eng
set_option linter.all false
set_option maxRecDepth 20000
set_option maxHeartbeats 1000000
def sxQ:ByteArray:=⟨#[81,117,101,114,121]⟩
def sxA:ByteArray:=⟨#[97]⟩
def sxB:ByteArray:=⟨#[98]⟩
def sxI:ByteArray:=⟨#[73,110,116]⟩
def sxG:List Dfn:=[.mk 1 sxQ [] [] [.mk sxA [] sxI [] []] [] []]
def sxS:Sup:=.mk [⟨#[103]⟩] sxG [] []
def sxV:Val:=.mk 2 3 ⟨#[]⟩ [] []
def sxD:Dat:=.mk [.mk sxQ [.mk sxA ⟨#[]⟩ sxV]] []
def sxP:List Pk:=[.mk sxA sxQ sxA [] sxI [] ⟨#[]⟩ (-1) [],.mk sxB sxQ sxB [] sxI [] ⟨#[]⟩ (-1) []]
def sxR:Val:=.mk 6 0 ⟨#[]⟩ [txV sxQ,sxV,failV sField] [⟨#[95,95,116]⟩,sxA,sxB]
theorem sx_run1:(sRunV sxG sxS sxD 1 sxP).1=sxR:=by kernel_rfl
theorem sx_run2:(sRunV sxG sxS sxD 1 sxP).2=sxD:=by kernel_rfl
theorem sx_kn:knB sxG sxQ sxP=false:=by kernel_rfl
theorem sx_sm:VSm sxV:=⟨.mk _ (by decide) (by decide) (by simp [sxV,Val.items_mk]),.mk _ (by decide) (by decide) (by simp [sxV,Val.items_mk]),by rw [avL_val];decide⟩
theorem sxS_ok:SOk sxS:=⟨by decide,by simp [sxS,Sup.joins_mk],by decide⟩
theorem sxD_ok:DOk sxD 1:=by
 refine ⟨⟨.mk _ (by decide) (by decide) ?_ ?_,by decide,?_⟩,?_,?_,?_⟩
 all_goals simp [sxD,Dat.i_mk,Dat.w_mk,Itm.l_mk,Wri.c_mk,Cel.v_mk,sx_sm,sx_sm.f]
theorem sxP_ok:∀x∈sxP,x.Ok:=by
 intro x hx
 simp only [sxP,List.mem_cons,List.not_mem_nil,or_false] at hx
 rcases hx with rfl | rfl
 .exact .mk _ ⟨by simp [Pk.args],by decide,by decide⟩ (by decide) (by simp [Pk.picks])
 .exact .mk _ ⟨by simp [Pk.args],by decide,by decide⟩ (by decide) (by simp [Pk.picks])
theorem sxInt_ok (n:Int) (hp:CH) (m:Nat):MeetsF Tryz.prog 47 hp m [.i .i64 n] (vx (.mk 2 n ⟨#[]⟩ [] [])):=by
 refine meetsF Tryz.func47 (by kernel_rfl) cc47 cr47 rfl fun hf=>?_;unfold ck47
 simp only [go_sem,↓reduceIte,Za,Zb,Zc,Zd,Ze,reduceCtorEq,Zf,Zg,Zh,Zi,Zj,Zk]
 try rfl
theorem exh34_ok (hp:CH) (m:Nat):MeetsF Tryz.prog 22 hp m [] (.b true):=by
 have hR:=vRoot_ok ⟨#[103]⟩ sxG (by decide) (by simp [sxG,Dfn.fields_mk]) sxS sxS_ok sxD sxD_ok 1 sxP (by decide) sxP_ok (by decide)
 rw [sx_run1,sx_run2] at hR
 have hR:∀hp m,MeetsF Tryz.prog 23 hp m [grx ⟨#[103]⟩ sxG,supx sxS,dx sxD,.i .i64 1,.ds (mapC pkC sxP)] (.tp [.ag [.i .i64 6,.i .i64 0,.s ⟨#[]⟩,
  .ds [[.i .i64 3,.i .i64 0,.s ⟨#[81,117,101,114,121]⟩,.ds [],.ds []],[.i .i64 2,.i .i64 3,.s ⟨#[]⟩,.ds [],.ds []],[.i .i64 9,.i .i64 0,.s ⟨#[102,105,101,108,100]⟩,.ds [],.ds []]],
  .ds [[.s ⟨#[95,95,116]⟩],[.s ⟨#[97]⟩],[.s ⟨#[98]⟩]]],dx sxD]):=hR
 have hK:=vKnows_ok ⟨#[]⟩ sxG (by decide) (by simp [sxG,Dfn.fields_mk]) sxQ sxP (by decide) (by simp [sxP,Pk.picks])
 rw [sx_kn] at hK
 refine meetsF Tryz.func22 (by kernel_rfl) cc22 cr22 rfl fun hf=>?_;unfold ck22
 simp only [go_sem,↓reduceIte,Za,Zb,Zc,Zd,Ze,reduceCtorEq,Zf,Zg,Zh,Zi,Zj,Zk]
 refine vcCall.f (sxInt_ok _ _ _) ?_
 simp only [go_sem,↓reduceIte,Za,Zb,Zc,Zd,Ze,reduceCtorEq,Zf,Zg,Zh,Zi,Zj,Zk]
 refine vcCall.q (args':=[grx ⟨#[103]⟩ sxG,supx sxS,dx sxD,.i .i64 1,.ds (mapC pkC sxP)]) (hR _ _) (by simp only [go_sem,↓reduceIte,Za,Zb,Zc,Zd,Ze,reduceCtorEq,Zf,Zg,Zh,Zi,Zj,Zk]<;>rfl) ?_
 simp only [go_sem,↓reduceIte,Za,Zb,Zc,Zd,Ze,reduceCtorEq,Zf,Zg,Zh,Zi,Zj,Zk]
 refine gCall_t (vcCall.q (args':=[grx ⟨#[]⟩ sxG,.s sxQ,.ds (mapC pkC sxP)]) (hK _ _) (by simp only [go_sem,↓reduceIte,Za,Zb,Zc,Zd,Ze,reduceCtorEq,Zf,Zg,Zh,Zi,Zj,Zk]<;>rfl) ?_)
 simp only [go_sem,↓reduceIte,Za,Zb,Zc,Zd,Ze,reduceCtorEq,Zf,Zg,Zh,Zi,Zj,Zk]
abbrev rdx (gn:ByteArray) (g:List Dfn) (s:Sup) (d:Dat) (r:Val) (b:Bool):AV:=.ag [.s gn,.ds (mapC dfC g),.ds (stC s.g),.ds (mapC dfC s.doc),.ds (mapC kyC s.keys),.ds (mapC jnC s.joins),.ds (mapC itC d.i),.ds (mapC wrC d.w),.i .i64 r.k,.i .i64 r.n,.s r.s,.ds (mapC valC r.items),.ds (stC r.keys),.b b]
def repO (r:Val) (b:Bool):Option Val:=if b=true then some r else none
theorem repO_ok {r:Val} (h:VSm r) (b:Bool):ROk (repO r b):=fun x hx=>by
 unfold repO at hx
 split at hx
 .cases hx;exact h
 .cases hx
theorem gfail_ok (t:ByteArray) (hp:CH) (m:Nat):MeetsF Tryz.prog 65 hp m [.s t] (vx (failV t)):=by
 refine meetsF Tryz.func65 (by kernel_rfl) cc65 cr65 rfl fun hf=>?_;unfold ck65
 simp only [go_sem,↓reduceIte,Za,Zb,Zc,Zd,Ze,reduceCtorEq,Zf,Zg,Zh,Zi,Zj,Zk]
 rfl
theorem gleaf_ok (v:Val) (hv:v.Fit) (hp:CH) (m:Nat):MeetsF Tryz.prog 113 hp m [vx v] (vx (leafOf v)):=by
 obtain ⟨R,hR⟩:∃R,leafOf v=R:=⟨_,rfl⟩
 have e:=hR
 rw [leafOf,leafV] at e
 rw [hR]
 refine meetsF Tryz.func113 (by kernel_rfl) cc113 cr113 rfl fun hf=>?_;unfold ck113
 simp only [go_sem,↓reduceIte,Za,Zb,Zc,Zd,Ze,reduceCtorEq,Zf,Zg,Zh,Zi,Zj,Zk]
 refine gCall.f (fun _=>rRight_ok v hv _ _) ?_
 simp only [go_sem,↓reduceIte,Za,Zb,Zc,Zd,Ze,reduceCtorEq,Zf,Zg,Zh,Zi,Zj,Zk]
 refine cdK_of (fun c=>?_) (fun c=>?_)
 .rw [if_pos c] at e
  subst e
  simp only [go_sem,↓reduceIte,Za,Zb,Zc,Zd,Ze,reduceCtorEq,Zf,Zg,Zh,Zi,Zj,Zk]
 .rw [if_neg (by simp [c])] at e
  subst e
  simp only [go_sem,↓reduceIte,Za,Zb,Zc,Zd,Ze,reduceCtorEq,Zf,Zg,Zh,Zi,Zj,Zk]
  try rfl
theorem gdef_ok (n:ByteArray) (g:List Dfn) (hg:g.length≤1048576) (hgf:∀t∈g,t.fields.length≤1000000000000) (on f:ByteArray) (hp:CH) (m:Nat):MeetsF Tryz.prog 62 hp m [grx n g,.s on,.s f] (.b (defB g on f)):=by
 have h1:=rFind_ok' g (by omega) on
 rw [defB]
 cases hR:findD' g on with
 | none =>
  rw [hR,resD] at h1
  refine meetsF Tryz.func62 (by kernel_rfl) cc62 cr62 rfl fun hf=>?_;unfold ck62
  simp only [go_sem,↓reduceIte,Za,Zb,Zc,Zd,Ze,reduceCtorEq,Zf,Zg,Zh,Zi,Zj,Zk]
  refine vcCall.f (h1 _ _) ?_
  simp only [go_sem,↓reduceIte,Za,Zb,Zc,Zd,Ze,reduceCtorEq,Zf,Zg,Zh,Zi,Zj,Zk]
 | some t =>
  rw [hR,resD] at h1
  have hm:t∈g:=List.mem_of_find?_eq_some (show g.find? _=some t from hR)
  have h2:=rField_ok t (hgf t hm) f
  obtain ⟨F,hF⟩:∃F,findF t.fields f=F:=⟨_,rfl⟩
  rw [hF,resF] at h2
  dsimp only
  rw [hF,sTypename]
  refine meetsF Tryz.func62 (by kernel_rfl) cc62 cr62 rfl fun hf=>?_;unfold ck62
  simp only [go_sem,↓reduceIte,Za,Zb,Zc,Zd,Ze,reduceCtorEq,Zf,Zg,Zh,Zi,Zj,Zk]
  refine vcCall.f (h1 _ _) ?_
  simp only [go_sem,↓reduceIte,Za,Zb,Zc,Zd,Ze,reduceCtorEq,Zf,Zg,Zh,Zi,Zj,Zk]
  refine cdK_of (fun q=>?_) (fun q=>?_)
  .have e:decide (t.k=1)=false:=by simpa using q
   rw [e]
   simp only [go_sem,↓reduceIte,Za,Zb,Zc,Zd,Ze,reduceCtorEq,Zf,Zg,Zh,Zi,Zj,Zk]
  .have e:decide (t.k=1)=true:=by simpa using q
   rw [e]
   simp only [go_sem,↓reduceIte,Za,Zb,Zc,Zd,Ze,reduceCtorEq,Zf,Zg,Zh,Zi,Zj,Zk]
   refine vcCall.f (h2 _ _) ?_
   simp only [go_sem,↓reduceIte,Za,Zb,Zc,Zd,Ze,reduceCtorEq,Zf,Zg,Zh,Zi,Zj,Zk]
   try (rw [Bool.or_comm])
theorem grequired_ok (gn:ByteArray) (g:List Dfn) (s:Sup) (d:Dat) {B:Nat} (hd:DOk d B) (r:Val) (hr:VSm r) (b:Bool) (i:Int) (f:ByteArray) (hp:CH) (m:Nat) :
  MeetsF Tryz.prog 114 hp m [rdx gn g s d r b,.i .i64 i,.s f] (vx (rqV d i (repO r b) f)):=by
 cases b with
 | false =>
  have hlk:=rLookup_ok d hd.f.f i f ⟨#[]⟩
  show MeetsF _ _ _ _ _ (vx (lookV d i f ⟨#[]⟩))
  obtain ⟨v,hv⟩:∃v,lookV d i f ⟨#[]⟩=v:=⟨_,rfl⟩
  rw [hv] at hlk ⊢
  refine meetsF Tryz.func114 (by kernel_rfl) cc114 cr114 rfl fun hf=>?_;unfold ck114
  simp only [go_sem,↓reduceIte,Za,Zb,Zc,Zd,Ze,reduceCtorEq,Zf,Zg,Zh,Zi,Zj,Zk]
  refine vcCall.f (hlk _ _) ?_
  simp only [go_sem,↓reduceIte,Za,Zb,Zc,Zd,Ze,reduceCtorEq,Zf,Zg,Zh,Zi,Zj,Zk]
 | true =>
  have hG:=rget_ok r hr.f f
  show MeetsF _ _ _ _ _ (vx ((getV r f).getD zVal))
  obtain ⟨o,ho⟩:∃o,getV r f=o:=⟨_,rfl⟩
  rw [ho,resV] at hG
  rw [ho]
  refine meetsF Tryz.func114 (by kernel_rfl) cc114 cr114 rfl fun hf=>?_;unfold ck114
  simp only [go_sem,↓reduceIte,Za,Zb,Zc,Zd,Ze,reduceCtorEq,Zf,Zg,Zh,Zi,Zj,Zk]
  refine vcCall.f (hG _ _) ?_
  cases o with
  | none =>
   simp only [go_sem,↓reduceIte,Za,Zb,Zc,Zd,Ze,reduceCtorEq,Zf,Zg,Zh,Zi,Zj,Zk]
   try rfl
  | some x =>
   simp only [go_sem,↓reduceIte,Za,Zb,Zc,Zd,Ze,reduceCtorEq,Zf,Zg,Zh,Zi,Zj,Zk]
theorem gfails_ok (gn:ByteArray) (g:List Dfn) (s:Sup) (hs:SOk s) (d:Dat) {B:Nat} (hd:DOk d B) (r:Val) (hr:VSm r) (b:Bool) (i:Int) (hi:exB d i=true) (p:Pk) (hp:CH) (m:Nat) :
  MeetsF Tryz.prog 117 hp m [rdx gn g s d r b,.i .i64 i,pkx p] (.b (sFail s d (repO r b) i p.name)):=by
 have hnl:=sNeed_len hs d i p.name
 obtain ⟨R,hR⟩:∃R,sFail s d (repO r b) i p.name=R:=⟨_,rfl⟩
 have e:=hR
 rw [sFail] at e
 rw [hR]
 have hrq:=grequired_ok gn g s d hd r hr b i
 obtain ⟨L,hL⟩:∃L,sNeed s d i p.name=L:=⟨_,rfl⟩
 have hLe:=hL
 obtain ⟨i',x,rfl,ex,hil,ht⟩:=exB_at hi
 have hN:=rNeeds_ok s hs x.t p.name
 rw [sNeed,ht] at hLe
 rw [hLe] at hN
 rw [hL] at hnl e
 refine meetsF Tryz.func117 (by kernel_rfl) cc117 cr117 rfl fun hf=>?_;unfold ck117
 simp (disch:=omega) only [ite_ne,hil,getK_s (mapC_get itC ex),go_sem,↓reduceIte,Za,Zb,Zc,Zd,Ze,reduceCtorEq,Zf,Zg,Zh,Zi,Zj,Zk]
 refine dCallR.f (fun _ _ _=>hN _ _) ?_
 simp (disch:=omega) only [ite_ne,hil,getK_s (mapC_get itC ex),go_sem,↓reduceIte,Za,Zb,Zc,Zd,Ze,reduceCtorEq,Zf,Zg,Zh,Zi,Zj,Zk]
 refine loop (fun q:Nat × Nat=>⟨[(1,.i .i64 i'),(3,.bx m 0),(7,.ds (stC L)),(8,.i .i64 q.1)],(m,.bx [.s gn,.ds (mapC dfC g),.ds (stC s.g),.ds (mapC dfC s.doc),.ds (mapC kyC s.keys),.ds (mapC jnC s.joins),.ds (mapC itC d.i),.ds (mapC wrC d.w),.i .i64 r.k,.i .i64 r.n,.s r.s,.ds (mapC valC r.items),.ds (stC r.keys),.b b])::hp,q.2⟩)
  (fun q=>q.1≤L.length∧m+2≤q.2∧R=(L.drop q.1).any fun f=>badV d (rqV d i' (repO r b) f)) (fun q=>L.length - q.1) (0,m+15) ?_ ?_ (fun ⟨j,n⟩ hj=>?_)
 .exact ⟨by simp,by dsimp only;omega,e.symm⟩
 .refine weak_ok ?_ (Sub.cons ?_ (Sub.base hf ?_)) (zna _)
  all_goals (simp (disch:=omega) only [ite_ne,go_sem,↓reduceIte,Za,Zb,Zc,Zd,Ze,reduceCtorEq,Zf,Zg,Zh,Zi,Zj,Zk])
 dsimp only at hj
 obtain ⟨hj1,hj2,hj3⟩:=hj
 have hmn:m≤n:=by omega
 simp (disch:=omega) only [ite_ne,go_sem,↓reduceIte,Za,Zb,Zc,Zd,Ze,reduceCtorEq,Zf,Zg,Zh,Zi,Zj,Zk]
 refine cdK_of (fun q=>?_) (fun q=>?_)
 .have q:j<L.length:=by simpa using q
  obtain ⟨f,ef⟩:∃f,L[j]?=some f:=⟨L[j],by simp [q]⟩
  rw [drop_at ef,List.any_cons] at hj3
  have hlk:=hrq f
  obtain ⟨v,hv⟩:∃v,rqV d i' (repO r b) f=v:=⟨_,rfl⟩
  rw [hv] at hlk hj3
  simp (disch:=omega) only [ite_ne,q,getK_s (mapC_get st1 ef),go_sem,↓reduceIte,Za,Zb,Zc,Zd,Ze,reduceCtorEq,Zf,Zg,Zh,Zi,Zj,Zk]
  refine dCallR.f (fun _ hp' e=>hlk _ _) ?_
  simp (disch:=omega) only [ite_ne,q,getK_s (mapC_get st1 ef),go_sem,↓reduceIte,Za,Zb,Zc,Zd,Ze,reduceCtorEq,Zf,Zg,Zh,Zi,Zj,Zk]
  refine ⟨by omega,cdK_of (fun c=>?_) (fun c=>?_)⟩
  .have c2:badV d v=true:=by
    rw [badV,exB]
    simpa [Bool.or_assoc,Bool.and_assoc] using c
   rw [c2,Bool.true_or] at hj3
   subst hj3
   simp (disch:=omega) only [ite_ne,hmn,go_sem,↓reduceIte,Za,Zb,Zc,Zd,Ze,reduceCtorEq,Zf,Zg,Zh,Zi,Zj,Zk]
  .have c2:badV d v=false:=by
    rw [badV,exB]
    simpa [Bool.or_assoc,Bool.and_assoc] using c
   rw [c2,Bool.false_or] at hj3
   simp (disch:=omega) only [ite_ne,go_sem,↓reduceIte,Za,Zb,Zc,Zd,Ze,reduceCtorEq,Zf,Zg,Zh,Zi,Zj,Zk]
   refine ⟨(j+1,_),⟨by dsimp only;omega,by dsimp only;omega,hj3⟩,by dsimp only;omega,weak_ok ?_ (Sub.cons ?_ (Sub.base hf ?_)) (zna _)⟩
   all_goals
    simp (disch:=omega) only [ite_ne,wr64s j (by omega),hmn,go_sem,↓reduceIte,Za,Zb,Zc,Zd,Ze,reduceCtorEq,Zf,Zg,Zh,Zi,Zj,Zk]
 .have q:j=L.length:=by simp at q;omega
  subst q
  rw [List.drop_length,List.any_nil] at hj3
  subst hj3
  simp (disch:=omega) only [ite_ne,go_sem,↓reduceIte,Za,Zb,Zc,Zd,Ze,reduceCtorEq,Zf,Zg,Zh,Zi,Zj,Zk]
theorem gtext_ok (gn:ByteArray) (g:List Dfn) (s:Sup) (hs:SOk s) (d:Dat) {B:Nat} (hd:DOk d B) (r:Val) (hr:VSm r) (b:Bool) (i:Int) (hi:exB d i=true) (p:Pk) (ha:AOk p.args) (hp:CH) (m:Nat) :
  MeetsF Tryz.prog 63 hp m [rdx gn g s d r b,.i .i64 i,pkx p] (.s (ofL (sArg s d (repO r b) i p))):=by
 have hT:=rText_ok p.args (fun a h=>(ha.v a h).ok) (Nat.le_trans ha.b (by omega)) (Nat.le_trans ha.n (by omega))
 have hrp:=repO_ok hr b
 have hnl:=sNeed_len hs d i p.name
 have hvl:=sVals_len s d (repO r b) i p.name
 have hsm:=sVals_sm (s:=s) hd hrp i p.name
 have hP:=rPrint_ok (sVals s d (repO r b) i p.name) (by omega) (sVals_lok hd hrp i p.name) (sVals_sum hs hd hrp i p.name)
 have hal:=argsL_len ha
 have hpl:=prn_bound (sVals_lok (s:=s) hd hrp i p.name) (sVals_sum hs hd hrp i p.name)
 have hrq:=grequired_ok gn g s d hd r hr b i
 have hsq:=fun f=>rqV_sm hd i hrp f
 obtain ⟨R,hR⟩:∃R,sArg s d (repO r b) i p=R:=⟨_,rfl⟩
 have e:=hR
 rw [sArg,txtL] at e
 rw [hR]
 obtain ⟨V,hV⟩:∃V,sVals s d (repO r b) i p.name=V:=⟨_,rfl⟩
 have hVe:=hV
 rw [sVals] at hVe
 rw [hV] at hP hvl hpl e
 obtain ⟨L,hL⟩:∃L,sNeed s d i p.name=L:=⟨_,rfl⟩
 have hLe:=hL
 obtain ⟨i',x,rfl,ex,hil,ht⟩:=exB_at hi
 have hN:=rNeeds_ok s hs x.t p.name
 rw [sNeed,ht] at hLe
 rw [hLe] at hN
 rw [hL] at hnl hvl hVe
 obtain ⟨A,hA⟩:∃A,argsL p.args=A:=⟨_,rfl⟩
 rw [hA] at hT e hal
 refine meetsF Tryz.func63 (by kernel_rfl) cc63 cr63 rfl fun hf=>?_;unfold ck63
 simp only [go_sem,↓reduceIte,Za,Zb,Zc,Zd,Ze,reduceCtorEq,Zf,Zg,Zh,Zi,Zj,Zk]
 refine vcCall.f (hT _ _) ?_
 simp (disch:=omega) only [ite_ne,hil,getK_s (mapC_get itC ex),go_sem,↓reduceIte,Za,Zb,Zc,Zd,Ze,reduceCtorEq,Zf,Zg,Zh,Zi,Zj,Zk]
 refine dCallR.f (fun _ _ _=>hN _ _) ?_
 simp (disch:=omega) only [ite_ne,hil,getK_s (mapC_get itC ex),go_sem,↓reduceIte,Za,Zb,Zc,Zd,Ze,reduceCtorEq,Zf,Zg,Zh,Zi,Zj,Zk]
 refine cdK_of (fun c=>?_) (fun c=>?_)
 .have c:L=[]:=by
   have c:(L.length:Int)=0:=by simpa using c
   exact List.eq_nil_of_length_eq_zero (by omega)
  have c2:V=[]:=List.eq_nil_of_length_eq_zero (by rw [hvl,c];rfl)
  rw [if_pos c2,List.append_nil] at e
  subst e
  simp only [go_sem,↓reduceIte,Za,Zb,Zc,Zd,Ze,reduceCtorEq,Zf,Zg,Zh,Zi,Zj,Zk]
 .have c:¬L=[]:=fun q=>by subst q;simp at c
  have c2:¬V=[]:=fun q=>by
   subst q
   exact c (List.eq_nil_of_length_eq_zero hvl.symm)
  rw [if_neg c2] at e
  -- loop
  simp (disch:=omega) only [ite_ne,hil,getK_s (mapC_get itC ex),go_sem,↓reduceIte,Za,Zb,Zc,Zd,Ze,reduceCtorEq,Zf,Zg,Zh,Zi,Zj,Zk]
  refine loop (fun q:Nat × Nat=>⟨[(1,.i .i64 i'),(3,.bx m 0),(7,.s (ofL A)),(8,.ds (stC L)),(9,.bx (m+15) 0),(10,.i .i64 q.1)],
    (m,.bx [.s gn,.ds (mapC dfC g),.ds (stC s.g),.ds (mapC dfC s.doc),.ds (mapC kyC s.keys),.ds (mapC jnC s.joins),.ds (mapC itC d.i),.ds (mapC wrC d.w),.i .i64 r.k,.i .i64 r.n,.s r.s,.ds (mapC valC r.items),.ds (stC r.keys),.b b])::(m+15,.bx [.i .i64 5,.i .i64 0,.s ⟨#[]⟩,.rw (m+16) q.1 q.1,.e0])::(m+16,.rw q.1 5 (mapC valC ((L.take q.1).map fun f=>leafOf (rqV d i' (repO r b) f))))::hp,q.2⟩)
   (fun q=>q.1≤L.length∧m+17≤q.2) (fun q=>L.length - q.1) (0,m+17) ?_ ?_ (fun ⟨j,n⟩ hj=>?_)
  .simp
  .refine (weak_b0 (c:=m+15) (i:=3) (m:=5) (gc_same _ _ _) rfl).trans (weak_ok ?_ (Sub.cons ?_ (Sub.cons ?_ (Sub.cons ?_ (Sub.base hf ?_)))) (zna _))
   all_goals (simp (disch:=omega) only [ite_ne,go_sem,↓reduceIte,Za,Zb,Zc,Zd,Ze,reduceCtorEq,Zf,Zg,Zh,Zi,Zj,Zk])
   all_goals rfl
  dsimp only at hj
  obtain ⟨hj1,hj2⟩:=hj
  have hmn:m≤n:=by omega
  simp (disch:=omega) only [ite_ne,go_sem,↓reduceIte,Za,Zb,Zc,Zd,Ze,reduceCtorEq,Zf,Zg,Zh,Zi,Zj,Zk]
  refine cdK_of (fun q=>?_) (fun q=>?_)
  .have q:j<L.length:=by simpa using q
   obtain ⟨f,ef⟩:∃f,L[j]?=some f:=⟨L[j],by simp [q]⟩
   have hst:(L.take j).map (fun f=>leafOf (rqV d i' (repO r b) f))++[leafOf (rqV d i' (repO r b) f)]=(L.take (j+1)).map fun f=>leafOf (rqV d i' (repO r b) f):=map_take_snocI (fun f=>leafOf (rqV d i' (repO r b) f)) ef
   have ht:((L.take j).map fun f=>leafOf (rqV d i' (repO r b) f)).length=j:=by simp;omega
   have k1:(j+1)*80≤140737488355328:=by omega
   have k2:j+1≤9223372036854775807:=by omega
   have hlk:=hrq f
   have hlf:=gleaf_ok (rqV d i' (repO r b) f) (hsq f).f
   simp (disch:=omega) only [ite_ne,q,getK_s (mapC_get st1 ef),go_sem,↓reduceIte,Za,Zb,Zc,Zd,Ze,reduceCtorEq,Zf,Zg,Zh,Zi,Zj,Zk]
   refine dCallR.f (fun _ hp' e=>hlk _ _) ?_
   simp (disch:=omega) only [ite_ne,q,getK_s (mapC_get st1 ef),go_sem,↓reduceIte,Za,Zb,Zc,Zd,Ze,reduceCtorEq,Zf,Zg,Zh,Zi,Zj,Zk]
   refine dCallR.f (fun _ hp' e=>hlf _ _) ?_
   simp (disch:=omega) only [ite_ne,q,getK_s (mapC_get st1 ef),ht,k1,k2,go_sem,↓reduceIte,Za,Zb,Zc,Zd,Ze,reduceCtorEq,Zf,Zg,Zh,Zi,Zj,Zk]
   refine ⟨(j+1,_),⟨by dsimp only;omega,by dsimp only;omega⟩,by dsimp only;omega,weak_ok ?_ (Sub.cons ?_ (Sub.cons ?_ (Sub.cons ?_ (Sub.base hf ?_)))) (zna _)⟩
   all_goals
    simp (disch:=omega) only [ite_ne,wr64s j (by omega),hst,hmn,go_sem,↓reduceIte,Za,Zb,Zc,Zd,Ze,reduceCtorEq,Zf,Zg,Zh,Zi,Zj,Zk]
  .have q:j=L.length:=by simp at q;omega
   subst q
   have ht2:V.take L.length=V:=List.take_of_length_le (by omega)
   have hvl2:(mapC valC V).length=L.length:=by rw [mapC_len];exact hvl
   rw [List.take_length,hVe]
   simp (disch:=omega) only [ite_ne,go_sem,↓reduceIte,Za,Zb,Zc,Zd,Ze,reduceCtorEq,Zf,Zg,Zh,Zi,Zj,Zk]
   refine vcCall.q (args':=[vx (listV V)]) (hP _ _) ?_ ?_
   .simp (disch:=omega) only [ite_ne,hvl,ht2,hvl2,zna,go_sem,↓reduceIte,Za,Zb,Zc,Zd,Ze,reduceCtorEq,Zf,Zg,Zh,Zi,Zj,Zk]
    try rfl
   simp (disch:=omega) only [ite_ne,go_sem,↓reduceIte,Za,Zb,Zc,Zd,Ze,reduceCtorEq,Zf,Zg,Zh,Zi,Zj,Zk]
   subst e
   simp (disch:=first | omega | (simp only [List.length_append,List.length_cons,List.length_nil];omega)) only [ite_ne,s_cat,mk_ofL,ofL_app,litS,List.cons_append,List.append_assoc,List.nil_append,hmn,go_sem,↓reduceIte,Za,Zb,Zc,Zd,Ze,reduceCtorEq,Zf,Zg,Zh,Zi,Zj,Zk]
   simp only [ofL_size]
   omega
end Go.Proofs.YtinbodeocoeneaaGreatDoor
