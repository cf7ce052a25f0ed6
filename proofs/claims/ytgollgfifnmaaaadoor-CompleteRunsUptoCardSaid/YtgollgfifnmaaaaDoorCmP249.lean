/- Proof. Conditions: none. -/
import Derived.Test.YtgollgfifnmaaaaDoorCmP248
open Nat renaming reduceEqDiff→Za,reduceBEq→Zb,reduceAdd→Zc,reduceLeDiff→Zd,reduceLT→Ze,reduceMul→Zf,reduceSub→Zg
open Int renaming reduceEq→Zh,reduceLT→Zi,reduceLE→Zj,reduceToNat→Zk
open List renaming length_cons→zlc,length_nil→zle,cons_append→zlh,nil_append→zli
namespace Go.Proofs.YtgollgfifnmaaaaDoor
open Go.Eng
set_option linter.all false
set_option maxRecDepth 20000
set_option maxHeartbeats 1000000
def DoR (f:FuncId) (doc:List Dfn) (args:List AV) (R2:List Prb) (r:AV):Prop :=
 ∀(hp:CH) (c kp gp:Nat) (P:List Prb) (n:Nat),RunR doc hp c kp gp P→P.length+R2.length≤1000000000000 →
  MeetsX Tryd.prog f hp n (.bx c 0::args) (wsR doc c kp gp P R2++hp) n r
noncomputable def nbR (doc:List Dfn) (v:Val):CFn:=fun tn tw picks path=>if v.k=0 then (zVal,[]) else cplV doc v tn tw picks path
def VlK (doc:List Dfn) (v:Val):Prop:=∀(tn:ByteArray) (tw:List Int) (picks:List Pk) (path:List Val),tw.length≤1000000000000→PFit picks→path.length+wtV v≤100000000000 →
 DoR 32 doc [rfx tn tw,vx v,.ds (mapC pkC picks),.ds (mapC valC path)] (cplV doc v tn tw picks path).2 (.tp [vx (cplV doc v tn tw picks path).1,.b (lostB tw (cplV doc v tn tw picks path).1)])
def NuK (doc:List Dfn) (v:Val):Prop:=∀(tn:ByteArray) (tw:List Int) (picks:List Pk) (path:List Val),tw.length≤1000000000000→PFit picks→path.length+wtV v≤100000000000 →
 DoR 59 doc [rfx tn (nulW tw),vx v,.ds (mapC pkC picks),.ds (mapC valC path)] (nbR doc v tn tw picks path).2 (vx (nbR doc v tn tw picks path).1)
def LsK (doc:List Dfn) (v:Val):Prop:=∀(tn:ByteArray) (tw:List Int) (picks:List Pk) (path:List Val),tw.length≤1000000000000→PFit picks→path.length+wtV v≤100000000000 →
 DoR 80 doc [rfx tn tw,vx v,.ds (mapC pkC picks),.ds (mapC valC path)] (listR (v.items.map (cplV doc)) tn tw picks path).2 (vx (listR (v.items.map (cplV doc)) tn tw picks path).1)
def ObK (doc:List Dfn) (v:Val):Prop:=∀(on:ByteArray) (picks:List Pk) (path:List Val),v.k=6→2≤wtV v→PFit picks→path.length+wtV v≤100000000000 →
 DoR 84 doc [.s on,vx v,.ds (mapC pkC picks),.ds (mapC valC path)] (objR v.keys (v.items.map (cplV doc)) on picks path).2 (vx (objR v.keys (v.items.map (cplV doc)) on picks path).1)
theorem value_of (doc:List Dfn) (v:Val) (h:NuK doc v):VlK doc v:=by
 intro tn tw picks path htw hpk hwt hp c kp gp P n hR hP
 have hN:=h tn tw picks path htw hpk hwt
 have hNN:=rIsNN_ok tn tw htw
 have hNu:=rNullable_ok tn tw htw
 have hWS:(∀k,n≤k→gc hp k=.no)→wsLt n (wsR doc c kp gp P (cplV doc v tn tw picks path).2):=fun hf=>hR.wsLt hf
 have n2:=hR.n2
 have m2:¬kp=c:=fun e=>n2 e.symm
 have hc:=hR.hc
 have hk:=hR.hk
 unfold nbR at hN
 by_cases c1:v.k=0∧nnW tw=true
 .obtain ⟨c0,cn⟩:=c1
  have hcv:cplV doc v tn tw picks path=(zVal,[Prb.mk path sNull]):=by rw [cplV_eq,cplB,if_neg (by omega),if_pos c0,nulR,if_pos cn];rfl
  rw [if_pos c0] at hN
  rw [hcv] at hWS hP ⊢
  have hlo:lostB tw zVal=true:=by rw [lostB,cn];rfl
  have cd:decide (v.k=0)=true:=decide_eq_true c0
  have hN:DoR 59 doc [rfx tn (nulW tw),vx v,.ds (mapC pkC picks),.ds (mapC valC path)] [] (vx zVal):=hN
  rw [cn] at hNN
  dsimp only at hP hWS ⊢
  simp only [zlc,zle] at hP
  rw [hlo]
  refine meetsW Tryd.func32 (by kernel_rfl) cc32 cr32 rfl hWS fun hf=>?_;unfold ck32
  obtain ⟨l1,l3⟩:=hR.lt hf
  simp (disch:=omega) only [ite_ne,cd,go_sem,↓reduceIte,Za,Zb,Zc,Zd,Ze,reduceCtorEq,Zf,Zg,Zh,Zi,Zj,Zk]
  refine gCall.f (fun _=>hNN _ _) ?_
  simp (disch:=omega) only [ite_ne,cd,go_sem,↓reduceIte,Za,Zb,Zc,Zd,Ze,reduceCtorEq,Zf,Zg,Zh,Zi,Zj,Zk]
  refine vcCall.x (report_ok (hR.of fun j hj=>?_) path (by omega) (by omega) sNull _) ?_
  .simp only [gc_cons]
   repeat rw [if_neg (by omega)]
  simp only [wsR,zlh,zli]
  simp (disch:=omega) only [ite_ne,go_sem,↓reduceIte,Za,Zb,Zc,Zd,Ze,reduceCtorEq,Zf,Zg,Zh,Zi,Zj,Zk]
  refine dCallR.f (fun _ hp' e=>hNu _ _) ?_
  simp (disch:=omega) only [ite_ne,go_sem,↓reduceIte,Za,Zb,Zc,Zd,Ze,reduceCtorEq,Zf,Zg,Zh,Zi,Zj,Zk]
  refine dCallR.w (ws:=wsR doc c kp (gp+1) (P++[Prb.mk path sNull]) []) (wsOk_wsR (P:=P++[Prb.mk path sNull]) (gp:=gp+1) ⟨?_,?_⟩ (by omega) (by omega)) rfl
   (fun hp' e=>hN hp' c kp (gp+1) (P++[Prb.mk path sNull]) _ ⟨(e c (.inl (by omega))).trans ?_,(e kp (.inl (by omega))).trans ?_⟩ (by simp;omega)) ?_
  case refine_5 =>
   simp only [wsR,zlh,zli]
   simp (disch:=omega) only [ite_ne,go_sem,↓reduceIte,Za,Zb,Zc,Zd,Ze,reduceCtorEq,Zf,Zg,Zh,Zi,Zj,Zk]
   refine ⟨⟨by omega,by omega⟩,dCall.f (fun _ hp' e=>hNN _ _) ?_⟩
   simp (disch:=omega) only [ite_ne,cn,go_sem,↓reduceIte,Za,Zb,Zc,Zd,Ze,reduceCtorEq,Zf,Zg,Zh,Zi,Zj,Zk]
   refine up_wsR (R:=[.mk path sNull]) hR ?_ ?_ fun j hj j1 j3=>?_
   all_goals (simp (disch:=omega) only [ite_ne,go_sem,↓reduceIte,Za,Zb,Zc,Zd,Ze,reduceCtorEq,Zf,Zg,Zh,Zi,Zj,Zk])
   rw [List.length_append]
   rfl
  all_goals (simp (disch:=omega) only [ite_ne,List.length_append,zlc,zle,go_sem,↓reduceIte,Za,Zb,Zc,Zd,Ze,reduceCtorEq,Zf,Zg,Zh,Zi,Zj,Zk])
 .have hnb:nbR doc v tn tw picks path=cplV doc v tn tw picks path:=by
   unfold nbR
   by_cases c0:v.k=0
   .have cn:nnW tw=false:=by simpa [c0] using c1
    rw [if_pos c0,cplV_eq,cplB,if_neg (by omega),if_pos c0,nulR_f cn]
   .rw [if_neg c0]
  unfold nbR at hnb
  rw [hnb] at hN
  obtain ⟨R,hRR⟩:∃R,cplV doc v tn tw picks path=R:=⟨_,rfl⟩
  rw [hRR] at hN hP hWS ⊢
  unfold lostB
  have c1:(decide (v.k=0)&&nnW tw)=false:=by
   cases e:(decide (v.k=0)&&nnW tw) with
   | false=>rfl
   | true=>simp only [Bool.and_eq_true,decide_eq_true_eq] at e;exact absurd e c1
  refine meetsW Tryd.func32 (by kernel_rfl) cc32 cr32 rfl hWS fun hf=>?_;unfold ck32
  obtain ⟨l1,l3⟩:=hR.lt hf
  simp (disch:=omega) only [ite_ne,go_sem,↓reduceIte,Za,Zb,Zc,Zd,Ze,reduceCtorEq,Zf,Zg,Zh,Zi,Zj,Zk]
  refine gCall.f (fun _=>hNN _ _) ?_
  simp (disch:=omega) only [ite_ne,c1,go_sem,↓reduceIte,Za,Zb,Zc,Zd,Ze,reduceCtorEq,Zf,Zg,Zh,Zi,Zj,Zk]
  refine dCallR.f (fun _ hp' e=>hNu _ _) ?_
  simp (disch:=omega) only [ite_ne,go_sem,↓reduceIte,Za,Zb,Zc,Zd,Ze,reduceCtorEq,Zf,Zg,Zh,Zi,Zj,Zk]
  refine dCallR.w (ws:=wsR doc c kp gp P R.2) (wsOk_wsR ⟨?_,?_⟩ (by omega) (by omega)) rfl
   (fun hp' e=>hN hp' c kp gp P _ ⟨(e c (.inl (by omega))).trans ?_,(e kp (.inl (by omega))).trans ?_⟩ (by omega)) ?_
  case refine_5 =>
   simp only [wsR,zlh,zli]
   simp (disch:=omega) only [ite_ne,go_sem,↓reduceIte,Za,Zb,Zc,Zd,Ze,reduceCtorEq,Zf,Zg,Zh,Zi,Zj,Zk]
   refine ⟨⟨by omega,by omega⟩,dCall.f (fun _ hp' e=>hNN _ _) ?_⟩
   simp (disch:=omega) only [ite_ne,go_sem,↓reduceIte,Za,Zb,Zc,Zd,Ze,reduceCtorEq,Zf,Zg,Zh,Zi,Zj,Zk]
   refine up_wsR hR ?_ ?_ fun j hj j1 j3=>?_
   all_goals (simp (disch:=omega) only [ite_ne,go_sem,↓reduceIte,Za,Zb,Zc,Zd,Ze,reduceCtorEq,Zf,Zg,Zh,Zi,Zj,Zk])
  all_goals (simp (disch:=omega) only [ite_ne,hc,hk,go_sem,↓reduceIte,Za,Zb,Zc,Zd,Ze,reduceCtorEq,Zf,Zg,Zh,Zi,Zj,Zk])
theorem leafB_comp {doc:List Dfn} {n:ByteArray} (h:leafB doc n=true):compB doc n=false:=by
 unfold leafB at h
 unfold compB
 cases c:scalB n with
 | true=>simp
 | false =>
  rw [c] at h
  simp only [Bool.false_or,decide_eq_true_eq] at h
  simp [h]
theorem rnullable_of (doc:List Dfn) (hd:DocOk doc) (v:Val) (hv:v.Fit) (h0:-9223372036854775808≤v.n) (h1:v.n≤9223372036854775807) (hL:LsK doc v) (hO:ObK doc v):NuK doc v:=by
 intro tn tw picks path htw hpk hwt hp c kp gp P n hR hP
 have hRe:=cplV_eq doc v
 obtain ⟨R,hRR⟩:∃R,nbR doc v tn tw picks path=R:=⟨_,rfl⟩
 rw [hRR] at hP ⊢
 unfold nbR at hRR
 rw [hRe,cplB] at hRR
 have hnl:=nulW_len tw
 have hIn:=rInner_ok tn (nulW tw) (by omega)
 have hinl:=innW_len (nulW tw)
 have hpl:path.length≤1000000000000:=by omega
 have hWS:(∀k,n≤k→gc hp k=.no)→wsLt n (wsR doc c kp gp P R.2):=fun hf=>hR.wsLt hf
 have n2:=hR.n2
 have m2:¬kp=c:=fun e=>n2 e.symm
 have hc:=hR.hc
 have hk:=hR.hk
 have hnum:R.2.length=R.2.length:=rfl
 refine meetsW Tryd.func59 (by kernel_rfl) cc59 cr59 rfl hWS fun hf=>?_;unfold ck59
 obtain ⟨l1,l3⟩:=hR.lt hf
 simp (disch:=omega) only [ite_ne,go_sem,↓reduceIte,Za,Zb,Zc,Zd,Ze,reduceCtorEq,Zf,Zg,Zh,Zi,Zj,Zk]
 refine cdK_of (fun c9=>?_) (fun c9=>?_)
 .have c9:v.k=9:=by simpa using c9
  rw [if_neg (by omega),if_pos c9] at hRR
  have hRR:R=(zVal,[Prb.mk path v.s]):=hRR.symm
  subst hRR
  simp only [zlc,zle] at hP
  simp (disch:=omega) only [ite_ne,go_sem,↓reduceIte,Za,Zb,Zc,Zd,Ze,reduceCtorEq,Zf,Zg,Zh,Zi,Zj,Zk]
  refine vcCall.x (report_ok (hR.of fun j hj=>?_) path hpl (by omega) v.s _) ?_
  .simp only [gc_cons]
   repeat rw [if_neg (by omega)]
  simp only [wsR,zlh,zli]
  simp (disch:=omega) only [ite_ne,go_sem,↓reduceIte,Za,Zb,Zc,Zd,Ze,reduceCtorEq,Zf,Zg,Zh,Zi,Zj,Zk]
  refine up_wsR (R:=[.mk path v.s]) hR ?_ ?_ fun j hj j1 j3=>?_
  all_goals (simp (disch:=omega) only [ite_ne,go_sem,↓reduceIte,Za,Zb,Zc,Zd,Ze,reduceCtorEq,Zf,Zg,Zh,Zi,Zj,Zk])
 have c9:¬v.k=9:=by simpa using c9
 rw [if_neg c9] at hRR
 simp (disch:=omega) only [ite_ne,go_sem,↓reduceIte,Za,Zb,Zc,Zd,Ze,reduceCtorEq,Zf,Zg,Zh,Zi,Zj,Zk]
 refine cdK_of (fun c00=>?_) (fun c00=>?_)
 .have c00:v.k=0:=by simpa using c00
  rw [if_pos c00] at hRR
  subst hRR
  simp (disch:=omega) only [ite_ne,go_sem,↓reduceIte,Za,Zb,Zc,Zd,Ze,reduceCtorEq,Zf,Zg,Zh,Zi,Zj,Zk]
  refine up_wsR hR ?_ ?_ fun j hj j1 j3=>?_
  all_goals (simp (disch:=omega) only [ite_ne,hc,hk,zle,Nat.add_zero,List.append_nil,go_sem,↓reduceIte,Za,Zb,Zc,Zd,Ze,reduceCtorEq,Zf,Zg,Zh,Zi,Zj,Zk])
 have c00:¬v.k=0:=by simpa using c00
 rw [if_neg c00,if_neg c00] at hRR
 simp (disch:=omega) only [ite_ne,go_sem,↓reduceIte,Za,Zb,Zc,Zd,Ze,reduceCtorEq,Zf,Zg,Zh,Zi,Zj,Zk]
 by_cases cl:lstW (nulW tw)=true
 .rw [if_pos cl] at hRR
  rw [if_pos cl] at hIn
  refine vcCall.f (hIn _ _) ?_
  simp (disch:=omega) only [ite_ne,hc,go_sem,↓reduceIte,Za,Zb,Zc,Zd,Ze,reduceCtorEq,Zf,Zg,Zh,Zi,Zj,Zk]
  refine cdK_of (fun c5=>?_) (fun c5=>?_)
  .have c5:v.k=5:=by simpa using c5
   rw [if_pos c5] at hRR
   subst hRR
   simp (disch:=omega) only [ite_ne,hc,go_sem,↓reduceIte,Za,Zb,Zc,Zd,Ze,reduceCtorEq,Zf,Zg,Zh,Zi,Zj,Zk]
   refine vcCall.x (hL tn (innW (nulW tw)) picks path (by omega) hpk hwt _ c kp gp P _ (hR.of fun j hj=>?_) hP) ?_
   .simp only [gc_cons]
    repeat rw [if_neg (by omega)]
   simp only [wsR,zlh,zli]
   simp (disch:=omega) only [ite_ne,hc,go_sem,↓reduceIte,Za,Zb,Zc,Zd,Ze,reduceCtorEq,Zf,Zg,Zh,Zi,Zj,Zk]
   refine up_wsR hR ?_ ?_ fun j hj j1 j3=>?_
   all_goals (simp (disch:=omega) only [ite_ne,go_sem,↓reduceIte,Za,Zb,Zc,Zd,Ze,reduceCtorEq,Zf,Zg,Zh,Zi,Zj,Zk])
  .have c5:¬v.k=5:=by simpa using c5
   rw [if_neg c5] at hRR
   have hRR:R=(zVal,[Prb.mk path sType]):=hRR.symm
   subst hRR
   simp only [zlc,zle] at hP
   have hget:=rget_ok v hv sT
   rw [resV_eq] at hget
   obtain ⟨x,hx⟩:∃x,(getV v sT).getD zVal=x:=⟨_,rfl⟩
   obtain ⟨s,hs⟩:∃s,(getV v sT).isSome=s:=⟨_,rfl⟩
   rw [hx,hs] at hget
   simp (disch:=omega) only [ite_ne,hc,go_sem,↓reduceIte,Za,Zb,Zc,Zd,Ze,reduceCtorEq,Zf,Zg,Zh,Zi,Zj,Zk]
   refine dCall.f (fun _ hp' e=>rLeaf_ok doc hd.len tn _ _) ?_
   simp (disch:=omega) only [ite_ne,hc,go_sem,↓reduceIte,Za,Zb,Zc,Zd,Ze,reduceCtorEq,Zf,Zg,Zh,Zi,Zj,Zk]
   refine vcCall.f (hget _ _) ?_
   simp (disch:=omega) only [ite_ne,hc,go_sem,↓reduceIte,Za,Zb,Zc,Zd,Ze,reduceCtorEq,Zf,Zg,Zh,Zi,Zj,Zk]
   refine dCall.f (fun _ hp' e=>rComposite_ok doc hd.len tn _ _) ?_
   simp (disch:=omega) only [ite_ne,hc,go_sem,↓reduceIte,Za,Zb,Zc,Zd,Ze,reduceCtorEq,Zf,Zg,Zh,Zi,Zj,Zk]
   refine dCall.f (fun _ hp' e=>rIs_ok doc hd x.s tn _ _) ?_
   simp (disch:=omega) only [ite_ne,hc,go_sem,↓reduceIte,Za,Zb,Zc,Zd,Ze,reduceCtorEq,Zf,Zg,Zh,Zi,Zj,Zk]
   refine vcCall.x (report_ok (hR.of fun j hj=>?_) path hpl (by omega) sType _) ?_
   .simp only [gc_cons]
    repeat rw [if_neg (by omega)]
   simp only [wsR,zlh,zli]
   simp (disch:=omega) only [ite_ne,go_sem,↓reduceIte,Za,Zb,Zc,Zd,Ze,reduceCtorEq,Zf,Zg,Zh,Zi,Zj,Zk]
   refine up_wsR (R:=[.mk path sType]) hR ?_ ?_ fun j hj j1 j3=>?_
   all_goals (simp (disch:=omega) only [ite_ne,go_sem,↓reduceIte,Za,Zb,Zc,Zd,Ze,reduceCtorEq,Zf,Zg,Zh,Zi,Zj,Zk])
 .rw [if_neg cl] at hRR
  rw [if_neg cl] at hIn
  refine vcCall.f (hIn _ _) ?_
  have hget:=rget_ok v hv sT
  rw [resV_eq] at hget
  have hte:=typO_eq v
  obtain ⟨x,hx⟩:∃x,(getV v sT).getD zVal=x:=⟨_,rfl⟩
  obtain ⟨s,hs⟩:∃s,(getV v sT).isSome=s:=⟨_,rfl⟩
  rw [hx,hs] at hget hte
  have hlv:=rLeafV_ok doc hd tn v h0 h1
  obtain ⟨o,ho⟩:∃o,leafC doc tn v=o:=⟨_,rfl⟩
  rw [ho] at hlv hRR
  unfold oV at hlv
  simp (disch:=omega) only [ite_ne,hc,go_sem,↓reduceIte,Za,Zb,Zc,Zd,Ze,reduceCtorEq,Zf,Zg,Zh,Zi,Zj,Zk]
  refine dCall.f (fun _ hp' e=>rLeaf_ok doc hd.len tn _ _) ?_
  simp (disch:=omega) only [ite_ne,hc,go_sem,↓reduceIte,Za,Zb,Zc,Zd,Ze,reduceCtorEq,Zf,Zg,Zh,Zi,Zj,Zk]
  refine cdK_of (fun cf=>?_) (fun cf=>?_)
  .rw [if_pos cf] at hRR
   have hcb:=leafB_comp cf
   simp (disch:=omega) only [ite_ne,hc,go_sem,↓reduceIte,Za,Zb,Zc,Zd,Ze,reduceCtorEq,Zf,Zg,Zh,Zi,Zj,Zk]
   refine dCallR.f (fun _ hp' e=>hlv _ _) ?_
   simp (disch:=omega) only [ite_ne,hc,go_sem,↓reduceIte,Za,Zb,Zc,Zd,Ze,reduceCtorEq,Zf,Zg,Zh,Zi,Zj,Zk]
   refine ⟨by omega,?_⟩
   refine cdK_of (fun cs=>?_) (fun cs=>?_)
   .cases o with
    | none=>cases cs
    | some y =>
     dsimp only at hRR
     subst hRR
     simp (disch:=omega) only [ite_ne,hc,go_sem,↓reduceIte,Za,Zb,Zc,Zd,Ze,reduceCtorEq,Zf,Zg,Zh,Zi,Zj,Zk]
     refine up_wsR hR ?_ ?_ fun j hj j1 j3=>?_
     all_goals (simp (disch:=omega) only [ite_ne,hc,hk,zle,Nat.add_zero,List.append_nil,go_sem,↓reduceIte,Za,Zb,Zc,Zd,Ze,reduceCtorEq,Zf,Zg,Zh,Zi,Zj,Zk])
   .cases o with
    | some y=>cases cs
    | none =>
     have hRR:R=(zVal,[Prb.mk path sType]):=hRR.symm
     subst hRR
     simp only [zlc,zle] at hP
     simp (disch:=omega) only [ite_ne,hc,go_sem,↓reduceIte,Za,Zb,Zc,Zd,Ze,reduceCtorEq,Zf,Zg,Zh,Zi,Zj,Zk]
     refine vcCall.f (hget _ _) ?_
     simp (disch:=omega) only [ite_ne,hc,go_sem,↓reduceIte,Za,Zb,Zc,Zd,Ze,reduceCtorEq,Zf,Zg,Zh,Zi,Zj,Zk]
     refine dCall.f (fun _ hp' e=>rComposite_ok doc hd.len tn _ _) ?_
     simp (disch:=omega) only [ite_ne,hc,go_sem,↓reduceIte,Za,Zb,Zc,Zd,Ze,reduceCtorEq,Zf,Zg,Zh,Zi,Zj,Zk]
     refine dCall.f (fun _ hp' e=>rIs_ok doc hd x.s tn _ _) ?_
     simp (disch:=omega) only [ite_ne,hcb,go_sem,↓reduceIte,Za,Zb,Zc,Zd,Ze,reduceCtorEq,Zf,Zg,Zh,Zi,Zj,Zk]
     refine vcCall.x (report_ok (hR.of fun j hj=>?_) path hpl (by omega) sType _) ?_
     .simp only [gc_cons]
      repeat rw [if_neg (by omega)]
     simp only [wsR,zlh,zli]
     simp (disch:=omega) only [ite_ne,go_sem,↓reduceIte,Za,Zb,Zc,Zd,Ze,reduceCtorEq,Zf,Zg,Zh,Zi,Zj,Zk]
     refine up_wsR (R:=[.mk path sType]) hR ?_ ?_ fun j hj j1 j3=>?_
     all_goals (simp (disch:=omega) only [ite_ne,go_sem,↓reduceIte,Za,Zb,Zc,Zd,Ze,reduceCtorEq,Zf,Zg,Zh,Zi,Zj,Zk])
  .rw [if_neg (by simp [cf])] at hRR
   simp (disch:=omega) only [ite_ne,hc,go_sem,↓reduceIte,Za,Zb,Zc,Zd,Ze,reduceCtorEq,Zf,Zg,Zh,Zi,Zj,Zk]
   refine vcCall.f (hget _ _) ?_
   simp (disch:=omega) only [ite_ne,hc,go_sem,↓reduceIte,Za,Zb,Zc,Zd,Ze,reduceCtorEq,Zf,Zg,Zh,Zi,Zj,Zk]
   refine dCall.f (fun _ hp' e=>rComposite_ok doc hd.len tn _ _) ?_
   simp (disch:=omega) only [ite_ne,hc,go_sem,↓reduceIte,Za,Zb,Zc,Zd,Ze,reduceCtorEq,Zf,Zg,Zh,Zi,Zj,Zk]
   refine dCall.f (fun _ hp' e=>rIs_ok doc hd x.s tn _ _) ?_
   simp (disch:=omega) only [ite_ne,hc,go_sem,↓reduceIte,Za,Zb,Zc,Zd,Ze,reduceCtorEq,Zf,Zg,Zh,Zi,Zj,Zk]
   have hfl:(s&&decide (x.k=3)&&compB doc tn&&decide (x.s∈posL doc tn))=false→R=(zVal,[Prb.mk path sType]):=fun cc=>by
    rw [←hRR]
    cases ht:typO v with
    | none=>rfl
    | some on =>
     rw [hte] at ht
     split at ht
     .rename_i hcnd
      cases ht
      dsimp only
      rw [if_neg (fun hh=>by simp [hcnd.1,hcnd.2,hh.1,hh.2] at cc)]
      rfl
     .cases ht
   refine cdK_of (fun cc=>?_) (fun cc=>?_)
   .have hcc:s=true∧x.k=3∧compB doc tn=true∧x.s∈posL doc tn:=by simpa [and_assoc] using cc
    obtain ⟨s1,x3,cb,xp⟩:=hcc
    rw [if_pos ⟨s1,x3⟩] at hte
    have k6:=typO_k hte
    rw [hte] at hRR
    dsimp only at hRR
    rw [if_pos ⟨cb,xp⟩] at hRR
    subst hRR
    have hw2:2≤wtV v:=by
     cases hg:getV v sT with
     | none=>rw [hg] at hs;subst s1;cases hs
     | some y =>
      have:=wtL_mem (getV_mem hg)
      have:=wtV_pos y
      rw [wtV_eq]
      omega
    simp (disch:=omega) only [ite_ne,go_sem,↓reduceIte,Za,Zb,Zc,Zd,Ze,reduceCtorEq,Zf,Zg,Zh,Zi,Zj,Zk]
    refine vcCall.x (hO x.s picks path k6 hw2 hpk hwt _ c kp gp P _ (hR.of fun j hj=>?_) hP) ?_
    .simp only [gc_cons]
     repeat rw [if_neg (by omega)]
    simp only [wsR,zlh,zli]
    simp (disch:=omega) only [ite_ne,go_sem,↓reduceIte,Za,Zb,Zc,Zd,Ze,reduceCtorEq,Zf,Zg,Zh,Zi,Zj,Zk]
    refine up_wsR hR ?_ ?_ fun j hj j1 j3=>?_
    all_goals (simp (disch:=omega) only [ite_ne,go_sem,↓reduceIte,Za,Zb,Zc,Zd,Ze,reduceCtorEq,Zf,Zg,Zh,Zi,Zj,Zk])
   .have hfl:=hfl cc
    subst hfl
    simp only [zlc,zle] at hP
    simp (disch:=omega) only [ite_ne,go_sem,↓reduceIte,Za,Zb,Zc,Zd,Ze,reduceCtorEq,Zf,Zg,Zh,Zi,Zj,Zk]
    refine vcCall.x (report_ok (hR.of fun j hj=>?_) path hpl (by omega) sType _) ?_
    .simp only [gc_cons]
     repeat rw [if_neg (by omega)]
    simp only [wsR,zlh,zli]
    simp (disch:=omega) only [ite_ne,go_sem,↓reduceIte,Za,Zb,Zc,Zd,Ze,reduceCtorEq,Zf,Zg,Zh,Zi,Zj,Zk]
    refine up_wsR (R:=[.mk path sType]) hR ?_ ?_ fun j hj j1 j3=>?_
    all_goals (simp (disch:=omega) only [ite_ne,go_sem,↓reduceIte,Za,Zb,Zc,Zd,Ze,reduceCtorEq,Zf,Zg,Zh,Zi,Zj,Zk])
end Go.Proofs.YtgollgfifnmaaaaDoor
