/- Proof. Conditions: none. -/
import Derived.Test.YthiifoleopdieaaGreatDoorIt53
open Nat renaming reduceEqDiff→zqa,reduceBEq→zqb,reduceAdd→zqc,reduceLeDiff→zqd,reduceLT→zqe,reduceMul→zqf,reduceSub→zqg
open Int renaming reduceEq→zqh,reduceLT→zqi,reduceLE→zqj,reduceToNat→zqk
open Nat renaming le_refl→zna
namespace Go.Proofs.YthiifoleopdieaaGreatDoor
open Go.Eng
set_option linter.all false
set_option maxRecDepth 20000
set_option maxHeartbeats 4000000
theorem nodup_take {l:List Pk} {j:Nat} {x:Pk} (h:l[j]?=some x) (hn:((l.take j).map Pk.key).Nodup) (hx:∀i y,i<j→l[i]?=some y→y.key≠x.key):((l.take (j+1)).map Pk.key).Nodup:=by
 rw [←take_snoc h,List.map_append,List.nodup_append]
 refine ⟨hn,by simp,fun a ha b hb e=>?_⟩
 obtain ⟨y,hy,rfl⟩:=List.mem_map.1 ha
 obtain ⟨i,hi⟩:=List.getElem?_of_mem hy
 obtain ⟨h1,h2⟩:=take_get hi
 simp at hb
 exact hx i y h2 h1 (by rw [e,hb])
theorem lawSerIdeal (s:Sup) (d:Dat) (p:Pln) (c:COk s d p) (hfp:∀x∈p.l,x.Fit) (hp:CH) (m:Nat):MeetsF Tryz.prog 9 hp m [casex s d p] (.b true):=by
 have h1:=few39_ok s d p c
 obtain ⟨x,hx⟩:∃x,few39 s d p=x:=⟨_,rfl⟩
 rw [hx] at h1
 cases x
 ·refine meetsF Tryz.func9 (by kernel_rfl) cc9 cr9 rfl fun hf=>?_;unfold ck9
  simp (disch:=omega) only [ite_ne,go_sem,↓reduceIte,zqa,zqb,zqc,zqd,zqe,reduceCtorEq,zqf,zqg,zqh,zqi,zqj,zqk]
  refine vcCall.f (h1 _ _) ?_
  simp (disch:=omega) only [ite_ne,go_sem,↓reduceIte,zqa,zqb,zqc,zqd,zqe,reduceCtorEq,zqf,zqg,zqh,zqi,zqj,zqk]
  refine vcCall.f (knows_ok _ _) ?_
  simp (disch:=omega) only [ite_ne,go_sem,↓reduceIte,zqa,zqb,zqc,zqd,zqe,reduceCtorEq,zqf,zqg,zqh,zqi,zqj,zqk]
 obtain ⟨hB,-⟩:=few39_hB hx
 have hT:=sRun_ok s c.s d c.d p c.l c.p hfp hB
 have hR:=tRun_ok s c.s d c.d p c.l c.p (fun _=>hB)
 have hfit:=runV_fit s d p c.d c.l c.p (fun _=>hB)
 have hdok:=(runV_dok s d p c.d (fun _=>hB)).f.f
 have hl:=c.l
 have key:=ser_run s d p
 refine meetsF Tryz.func9 (by kernel_rfl) cc9 cr9 rfl fun hf=>?_;unfold ck9
 simp (disch:=omega) only [ite_ne,go_sem,↓reduceIte,zqa,zqb,zqc,zqd,zqe,reduceCtorEq,zqf,zqg,zqh,zqi,zqj,zqk]
 refine vcCall.f (h1 _ _) ?_
 simp (disch:=omega) only [ite_ne,go_sem,↓reduceIte,zqa,zqb,zqc,zqd,zqe,reduceCtorEq,zqf,zqg,zqh,zqi,zqj,zqk]
 refine loop (fun q:Nat × Nat=>⟨[(1,.bx m 0),(3,.i .i64 q.1)],(m,.bx [.ds (stC s.g),.ds (mapC dfC s.doc),.ds (mapC kyC s.keys),.ds (mapC jnC s.joins),.ds (mapC itC d.i),.ds (mapC wrC d.w),.i .i64 p.k,.ds (mapC pkC p.l)])::hp,q.2⟩)
  (fun q=>q.1≤p.l.length∧m+1≤q.2∧(∀y∈p.l.take q.1,y.on=rootS p.k∧y.key≠sT)∧((p.l.take q.1).map Pk.key).Nodup) (fun q=>p.l.length - q.1) (0,m+1) ?_ ?_ (fun ⟨j,n⟩ hj=>?_)
 ·simp
 ·refine weak_ok ?_ (Sub.cons ?_ (Sub.base hf ?_)) (zna _)
  all_goals (simp (disch:=omega) only [ite_ne,go_sem,↓reduceIte,zqa,zqb,zqc,zqd,zqe,reduceCtorEq,zqf,zqg,zqh,zqi,zqj,zqk])
 dsimp only at hj
 obtain ⟨hj1,hj2,hj3,hj4⟩:=hj
 have hmn:m≤n:=by omega
 simp (disch:=omega) only [ite_ne,go_sem,↓reduceIte,zqa,zqb,zqc,zqd,zqe,reduceCtorEq,zqf,zqg,zqh,zqi,zqj,zqk]
 refine cdK_of (fun q=>?_) (fun q=>?_)
 ·have q:j<p.l.length:=by simpa using q
  obtain ⟨x,ex⟩:∃x,p.l[j]?=some x:=⟨p.l[j],by simp [q]⟩
  have w1:=wr64s j (by omega)
  have k4:p.l.length - (j+1)<p.l.length - j:=by omega
  simp (disch:=omega) only [ite_ne,q,getK_s (mapC_get pkC ex),mapC_get pkC ex,pkC_eq,hmn,go_sem,↓reduceIte,zqa,zqb,zqc,zqd,zqe,reduceCtorEq,zqf,zqg,zqh,zqi,zqj,zqk]
  refine dCall.f (fun _ hp' e=>rRoot_ok' _ _ _) ?_
  simp (disch:=omega) only [ite_ne,q,getK_s (mapC_get pkC ex),mapC_get pkC ex,pkC_eq,hmn,go_sem,↓reduceIte,zqa,zqb,zqc,zqd,zqe,reduceCtorEq,zqf,zqg,zqh,zqi,zqj,zqk]
  refine cdK_of (fun c1=>?_) (fun c1=>?_)
  ·simp (disch:=omega) only [ite_ne,hmn,go_sem,↓reduceIte,zqa,zqb,zqc,zqd,zqe,reduceCtorEq,zqf,zqg,zqh,zqi,zqj,zqk]
   refine vcCall.f (knows_ok _ _) ?_
   simp (disch:=omega) only [ite_ne,hmn,go_sem,↓reduceIte,zqa,zqb,zqc,zqd,zqe,reduceCtorEq,zqf,zqg,zqh,zqi,zqj,zqk]
  have cx:x.on=rootS p.k∧x.key≠sT:=by
   have:sT=⟨#[95,95,116]⟩:=rfl
   rw [this]
   simp only [Bool.or_eq_false_iff,decide_eq_false_iff_not,Bool.not_eq_false',decide_eq_true_eq] at c1
   exact ⟨c1.2,c1.1⟩
  simp (disch:=omega) only [ite_ne,hmn,go_sem,↓reduceIte,zqa,zqb,zqc,zqd,zqe,reduceCtorEq,zqf,zqg,zqh,zqi,zqj,zqk]
  refine loop (fun q:Nat × Nat=>⟨[(1,.bx m 0),(3,.i .i64 j),(4,.i .i64 q.1)],(m,.bx [.ds (stC s.g),.ds (mapC dfC s.doc),.ds (mapC kyC s.keys),.ds (mapC jnC s.joins),.ds (mapC itC d.i),.ds (mapC wrC d.w),.i .i64 p.k,.ds (mapC pkC p.l)])::hp,q.2⟩)
   (fun q=>q.1≤j∧n≤q.2∧∀i y,i<q.1→p.l[i]?=some y→y.key≠x.key) (fun q=>j - q.1) (0,n+22) ?_ ?_ (fun ⟨i,n2⟩ hi=>?_)
  ·exact ⟨by simp,by dsimp only;omega,fun i y h=>absurd h (Nat.not_lt_zero _)⟩
  ·refine weak_ok ?_ (Sub.cons ?_ (Sub.base hf ?_)) (zna _)
   all_goals (simp (disch:=omega) only [ite_ne,hmn,go_sem,↓reduceIte,zqa,zqb,zqc,zqd,zqe,reduceCtorEq,zqf,zqg,zqh,zqi,zqj,zqk])
  dsimp only at hi
  obtain ⟨hi1,hi2,hi3⟩:=hi
  have hmn2:m≤n2:=by omega
  simp (disch:=omega) only [ite_ne,hmn2,go_sem,↓reduceIte,zqa,zqb,zqc,zqd,zqe,reduceCtorEq,zqf,zqg,zqh,zqi,zqj,zqk]
  refine cdK_of (fun q2=>?_) (fun q2=>?_)
  ·have q2:i<j:=by simpa using q2
   obtain ⟨y,ey⟩:∃y,p.l[i]?=some y:=⟨p.l[i],by simp [show i<p.l.length by omega]⟩
   have w2:=wr64s i (by omega)
   have k5:j - (i+1)<j - i:=by omega
   have qi:i<p.l.length:=by omega
   simp (disch:=omega) only [ite_ne,q,qi,q2,getK_s (mapC_get pkC ex),mapC_get pkC ex,getK_s (mapC_get pkC ey),mapC_get pkC ey,pkC_eq,hmn2,go_sem,↓reduceIte,zqa,zqb,zqc,zqd,zqe,reduceCtorEq,zqf,zqg,zqh,zqi,zqj,zqk]
   refine cdK_of (fun c2=>?_) (fun c2=>?_)
   ·simp (disch:=omega) only [ite_ne,hmn2,go_sem,↓reduceIte,zqa,zqb,zqc,zqd,zqe,reduceCtorEq,zqf,zqg,zqh,zqi,zqj,zqk]
    refine vcCall.f (knows_ok _ _) ?_
    simp (disch:=omega) only [ite_ne,hmn2,go_sem,↓reduceIte,zqa,zqb,zqc,zqd,zqe,reduceCtorEq,zqf,zqg,zqh,zqi,zqj,zqk]
   have c2:y.key≠x.key:=by simpa using c2
   simp (disch:=omega) only [ite_ne,hmn2,go_sem,↓reduceIte,zqa,zqb,zqc,zqd,zqe,reduceCtorEq,zqf,zqg,zqh,zqi,zqj,zqk]
   refine ⟨(i+1,_),⟨by dsimp only;omega,by dsimp only;omega,fun i' y' h1 h2=>?_⟩,k5,weak_ok ?_ (Sub.cons ?_ (Sub.base hf ?_)) (zna _)⟩
   ·by_cases e:i'=i
    ·subst e
     rw [ey] at h2
     cases h2
     exact c2
    ·exact hi3 i' y' (by dsimp only at h1;omega) h2
   all_goals (simp (disch:=omega) only [ite_ne,w2,hmn2,go_sem,↓reduceIte,zqa,zqb,zqc,zqd,zqe,reduceCtorEq,zqf,zqg,zqh,zqi,zqj,zqk])
  ·have q2:i=j:=by simp at q2;omega
   subst q2
   simp (disch:=omega) only [ite_ne,hmn2,go_sem,↓reduceIte,zqa,zqb,zqc,zqd,zqe,reduceCtorEq,zqf,zqg,zqh,zqi,zqj,zqk]
   refine ⟨(i+1,_),⟨by dsimp only;omega,by dsimp only;omega,fun y hy=>?_,nodup_take ex hj4 hi3⟩,k4,weak_ok ?_ (Sub.cons ?_ (Sub.base hf ?_)) (zna _)⟩
   ·rw [←take_snoc ex] at hy
    rcases List.mem_append.1 hy with hy | hy
    ·exact hj3 y hy
    ·rw [List.mem_singleton.1 hy];exact cx
   all_goals (simp (disch:=omega) only [ite_ne,w1,hmn2,go_sem,↓reduceIte,zqa,zqb,zqc,zqd,zqe,reduceCtorEq,zqf,zqg,zqh,zqi,zqj,zqk])
 ·have q:j=p.l.length:=by simp at q;omega
  subst q
  rw [List.take_length] at hj3 hj4
  rw [key hj3 hj4] at hT
  obtain ⟨T,hTe⟩:∃T,(runV s d p).1=T:=⟨_,rfl⟩
  obtain ⟨E,hEe⟩:∃E,(runV s d p).2=E:=⟨_,rfl⟩
  rw [hTe] at hT hR hfit
  rw [hEe] at hT hR hdok
  have h4:=same_ok T T hfit hfit
  rw [decide_eq_true (cmpV_refl _)] at h4
  have h5:=rsameD_eq E hdok
  simp (disch:=omega) only [ite_ne,hmn,go_sem,↓reduceIte,zqa,zqb,zqc,zqd,zqe,reduceCtorEq,zqf,zqg,zqh,zqi,zqj,zqk]
  refine vcCall.f (hT _ _) ?_
  simp (disch:=omega) only [ite_ne,hmn,go_sem,↓reduceIte,zqa,zqb,zqc,zqd,zqe,reduceCtorEq,zqf,zqg,zqh,zqi,zqj,zqk]
  refine vcCall.f (hR _ _) ?_
  simp (disch:=omega) only [ite_ne,hmn,go_sem,↓reduceIte,zqa,zqb,zqc,zqd,zqe,reduceCtorEq,zqf,zqg,zqh,zqi,zqj,zqk]
  refine vcCall.f (h4 _ _) ?_
  simp (disch:=omega) only [ite_ne,hmn,go_sem,↓reduceIte,zqa,zqb,zqc,zqd,zqe,reduceCtorEq,zqf,zqg,zqh,zqi,zqj,zqk]
  refine gCall.f (fun _=>h5 _ _) ?_
  simp (disch:=omega) only [ite_ne,hmn,go_sem,↓reduceIte,zqa,zqb,zqc,zqd,zqe,reduceCtorEq,zqf,zqg,zqh,zqi,zqj,zqk]
  refine gCall.f (fun _=>knows_ok _ _) ?_
  simp (disch:=omega) only [ite_ne,hmn,go_sem,↓reduceIte,zqa,zqb,zqc,zqd,zqe,reduceCtorEq,zqf,zqg,zqh,zqi,zqj,zqk]
end Go.Proofs.YthiifoleopdieaaGreatDoor
namespace Go.Proofs.YthiifoleopdieaaGreatDoor
open Go.Eng
open Go.ChangeShapes Go.WideShapes Go.ChangeAt Go.RowKit
set_option linter.all false
theorem sidl_law (αs:List AV) (h:ASs Tryz.prog [59] αs) (hw:avL αs≤1048576):MeetsF Tryz.prog 9 [] 0 αs (.b true):=by
 obtain ⟨α1,rfl,h1⟩:=as_n1 h
 simp only [avL] at hw
 obtain ⟨s,d,p,rfl,c⟩:=reads_case39 h1 (by omega)
 exact lawSerIdeal s d p c (case_fit c (by omega)) [] 0
set_option maxRecDepth 100000 in
theorem sidl_lifted (os:Os) (started:os.Started) (H:Type) (enc:TypeId × Value→H) (F:Stop.Interp) :
  ReturnsInHanded {} Tryz.checked os 9 .any ((Rows.OpenSpec.upto Rows.serialIdealSpec).preRow enc Tryz.prog Tryz.f9 Rows.serialIdealUptoRow.domain false Rows.serialIdealUptoRow.laid) (((Rows.OpenSpec.upto Rows.serialIdealSpec).at F).post enc Tryz.prog Tryz.f9 false true false false):=by
 have hx:DataW.whole enc Tryz.prog ((laidWorld os).forCall (fun _ _=>0) ⟨#[],#[case0],[]⟩).memory Tryz.f9.params.toList Rows.serialIdealSpec.vars false #[case0].toList 8=some ([.agg [.agg [.nil,.agg [.nil],.nil,.nil],.agg [.nil,.nil],.agg [.lit (.int .i64 0),.nil]]],[],[]):=by kernel_rfl
 refine returnsInHanded_of_row (C:=Tryz.checked) (s:=Rows.OpenSpec.upto Rows.serialIdealSpec) own started (by kernel_rfl) Tryz.func9
  (witness_row_at (enc:=enc) (C:=Tryz.checked) false (laidWorld os) #[case0] rfl (by kernel_rfl) (by kernel_rfl) (by kernel_rfl)
   (OpenSpec.preRow_of_cond 8 hx (by kernel_rfl) (fun k hk=>by cases hk;kernel_rfl) (by kernel_rfl) (laid_met os _))) ?_
 intro W base args ds gs before hval hW hc1 hc2 hc3 hL _ _
 have hg:gs=[]:=by
  obtain ⟨p,q,hA,hV,_⟩:=hW
  exact (ChangeShapes.trodVars_none hV).1
 subst hg
 have hk:Rows.uptoBulkAll ds≤1048576:=by first | (simpa [Rows.uptoSmall] using hc1 _ rfl) | (simpa [Rows.uptoSmall] using hc2 _ rfl)
 refine law_core (s:=Rows.serialIdealSpec) (tb:=4) kids sized ?_ rfl (fun ds hl=>?_) rfl Tryz.underlying4 (m:=fun αs h hb=>sidl_law αs h (Nat.le_trans hb hk)) hval hW (pow10_laid hL)
 ·exact par_lt (by kernel_rfl)
 ·obtain ⟨d1,rfl⟩:=ds_n1 (show ds.length=1 from hl)
  exact ⟨rfl,rfl,rfl⟩
theorem sidl_said:Rows.SerialIdealUptoSaid :=
 OpenClaim.holds_of_cond 9 Tryz.f9 rfl rfl rfl rfl rfl rfl rfl ⟨rfl,rfl,rfl,rfl,rfl⟩ rfl rfl rfl rfl rfl (by kernel_rfl) Tryz.func9 (by kernel_rfl)
  (of_decide_eq_true (by kernel_rfl)) (by unfold Func.isWrapper;first | (rw [if_pos (by decide +kernel)];kernel_rfl) | (rw [if_neg (by decide +kernel)];exact ⟨rfl,rfl⟩))
  (fun os started H enc _ F=>by rw [OpenClaim.pre_eq_preRow];exact sidl_lifted os started H enc F)
theorem sidl_plain (f:FuncId) (fn:Func) (hf:Tryz.pinned.checked.prog.funcNamed Rows.serialIdealUptoRow.func=some f) (hfn:Tryz.pinned.checked.prog.funcs[f]?=some fn) :
  false=Tryz.pinned.checked.prog.looks []∧∀(j:Nat) t,fn.params[j]?=some t→Tryz.pinned.checked.prog.wantsStandIn t=false:=by
 obtain rfl:f=9:=Option.some.inj ((show Tryz.prog.funcNamed Rows.serialIdealUptoRow.func=some 9 by kernel_rfl).symm.trans hf) |>.symm
 obtain rfl:fn=Tryz.f9:=(Option.some.inj (Tryz.func9.symm.trans hfn)).symm
 refine ⟨by kernel_rfl,fun j t ht=>?_⟩
 have key:∀t∈Tryz.f9.params.toList,Tryz.prog.wantsStandIn t=false:=by
  have key:(Tryz.f9.params.toList.all fun t=>!Tryz.prog.wantsStandIn t)=true:=by kernel_rfl
  intro t ht;simpa using List.all_eq_true.1 key t ht
 exact key t (Array.mem_toList_iff.2 (Array.mem_of_getElem? ht))
theorem sidl_holds:Rows.SerialIdealUptoCardSaid :=
 Claim7.holds_tied_plain_at .later [] _ _ _ _ sidl_said (fun _ h=>by cases h) (by kernel_rfl) (fun _ h=>by cases h) serialIdealUpto_row_tie rfl ⟨rfl,rfl⟩ (by kernel_rfl) rfl sidl_plain (by kernel_rfl)
end Go.Proofs.YthiifoleopdieaaGreatDoor
