/- Proof. Conditions: none. -/
import Derived.Test.YtgollgfifnmaaaaDoorCmP253
open Nat renaming reduceEqDiff→Za,reduceBEq→Zb,reduceAdd→Zc,reduceLeDiff→Zd,reduceLT→Ze,reduceMul→Zf,reduceSub→Zg
open Int renaming reduceEq→Zh,reduceLT→Zi,reduceLE→Zj,reduceToNat→Zk
namespace Go.Proofs.YtgollgfifnmaaaaDoor
open Go.Eng
set_option linter.all false
set_option maxRecDepth 20000
set_option maxHeartbeats 1000000
theorem run_fit {doc:List Dfn} {l:List Pk} {v:Val} (h:CQ doc l v) (root:ByteArray):(cplV doc v root [] l []).1.Fit∧(cplV doc v root [] l []).2.length≤1000000000000∧∀p∈(cplV doc v root [] l []).2,p.p.length≤1000000000∧∀x∈p.p,x.Fit:=by
 have h1:=cpl_fit doc v h.vs.f root [] l [] h.p (by simp)
 have h2:=cpl_count doc v root [] l []
 have h3:=h.cnt
 have h4:=h.vs.w
 exact ⟨h1.1,by omega,fun p hp=>⟨by have:=(h1.2 p hp).1;simp at this;omega,(h1.2 p hp).2⟩⟩
theorem lawRuns22 (doc:List Dfn) (root:ByteArray) (l:List Pk) (v:Val) (h:CQ doc l v) (hp:CH) (m:Nat):MeetsF Tryd.prog 3 hp m [cse doc root l v] (.b true):=by
 have hE:=expected_ok doc root l v h
 have hw:=h.vs.w
 have h1:=tRun_ok doc h.d.ok root l h.p v h.vs.f h.vs.r (by omega) h.cnt
 have h2:=rRun_ok doc h.d.ok root l h.p v h.vs.f h.vs.r (by omega) h.cnt
 obtain ⟨f1,f2,f3⟩:=run_fit h root
 obtain ⟨R,hR⟩:∃R,cplV doc v root [] l []=R:=⟨_,rfl⟩
 rw [hR] at h1 h2 f1 f2 f3
 have h3:=equal_ok R.1 f1
 have h4:=sameProblems_refl R.2 f2 fun p hp=>⟨by have:=(f3 p hp).1;omega,(f3 p hp).2⟩
 refine meetsF Tryd.func3 (by kernel_rfl) cc3 cr3 rfl fun hf=>?_;unfold ck3
 simp only [go_sem,↓reduceIte,Za,Zb,Zc,Zd,Ze,reduceCtorEq,Zf,Zg,Zh,Zi,Zj,Zk]
 refine vcCall.f (hE _ _) ?_
 simp only [go_sem,↓reduceIte,Za,Zb,Zc,Zd,Ze,reduceCtorEq,Zf,Zg,Zh,Zi,Zj,Zk]
 refine cdK_of (fun c=>?_) (fun c=>?_)
 .simp only [go_sem,↓reduceIte,Za,Zb,Zc,Zd,Ze,reduceCtorEq,Zf,Zg,Zh,Zi,Zj,Zk]
  refine vcCall.f (exh22_ok _ _) ?_
  simp only [go_sem,↓reduceIte,Za,Zb,Zc,Zd,Ze,reduceCtorEq,Zf,Zg,Zh,Zi,Zj,Zk]
 .simp only [go_sem,↓reduceIte,Za,Zb,Zc,Zd,Ze,reduceCtorEq,Zf,Zg,Zh,Zi,Zj,Zk]
  refine vcCall.f (h1 _ _) ?_
  simp (disch:=omega) only [ite_ne,go_sem,↓reduceIte,Za,Zb,Zc,Zd,Ze,reduceCtorEq,Zf,Zg,Zh,Zi,Zj,Zk]
  refine vcCall.f (h2 _ _) ?_
  simp (disch:=omega) only [ite_ne,go_sem,↓reduceIte,Za,Zb,Zc,Zd,Ze,reduceCtorEq,Zf,Zg,Zh,Zi,Zj,Zk]
  refine vcCall.f (h3 _ _) ?_
  simp (disch:=omega) only [ite_ne,go_sem,↓reduceIte,Za,Zb,Zc,Zd,Ze,reduceCtorEq,Zf,Zg,Zh,Zi,Zj,Zk]
  refine gCall.f (fun _=>h4 _ _) ?_
  simp (disch:=omega) only [ite_ne,go_sem,↓reduceIte,Za,Zb,Zc,Zd,Ze,reduceCtorEq,Zf,Zg,Zh,Zi,Zj,Zk]
  refine gCall.f (fun _=>exh22_ok _ _) ?_
  simp (disch:=omega) only [ite_ne,go_sem,↓reduceIte,Za,Zb,Zc,Zd,Ze,reduceCtorEq,Zf,Zg,Zh,Zi,Zj,Zk]
open Go.ChangeShapes Go.WideShapes Go.ChangeAt Go.RowKit
theorem crun_law (αs:List AV) (h:ASs Tryd.prog [31] αs) (hw:avL αs≤1048576):MeetsF Tryd.prog 3 [] 0 αs (.b true):=by
 obtain ⟨α1,rfl,h1⟩:=as_n1 h
 simp only [avL] at hw
 obtain ⟨doc,root,l,v,rfl,c⟩:=reads_case22 h1 (by omega)
 exact lawRuns22 doc root l v c [] 0
set_option maxRecDepth 100000 in
theorem crun_lifted (os:Os) (started:os.Started) (H:Type) (enc:TypeId × Value→H) (F:Stop.Interp) :
  ReturnsInHanded {} Tryd.checked os 3 .any ((Rows.OpenSpec.upto Rows.completeRunsSpec).preRow enc Tryd.prog Tryd.f3 Rows.completeRunsUptoRow.domain false Rows.completeRunsUptoRow.laid) (((Rows.OpenSpec.upto Rows.completeRunsSpec).at F).post enc Tryd.prog Tryd.f3 false true false false):=by
 have hx:DataW.whole enc Tryd.prog ((laidWorld os).forCall (fun _ _=>0) ⟨#[],#[case0],[]⟩).memory Tryd.f3.params.toList Rows.completeRunsSpec.vars false #[case0].toList 8=some ([.agg [.agg [.nil],.lit (.string []),.nil,.agg [.lit (.int .i64 0),.lit (.int .i64 0),.lit (.string []),.nil,.nil]]],[],[]):=by kernel_rfl
 refine returnsInHanded_of_row (C:=Tryd.checked) (s:=Rows.OpenSpec.upto Rows.completeRunsSpec) own started (by kernel_rfl) Tryd.func3
  (witness_row_at (enc:=enc) (C:=Tryd.checked) false (laidWorld os) #[case0] rfl (by kernel_rfl) (by kernel_rfl) (by kernel_rfl)
   (OpenSpec.preRow_of_cond 8 hx (by kernel_rfl) (fun k hk=>by cases hk;kernel_rfl) (by kernel_rfl) (laid_met os _))) ?_
 intro W base args ds gs before hval hW hc1 hc2 hc3 hL _ _
 have hg:gs=[]:=by
  obtain ⟨p,q,hA,hV,_⟩:=hW
  exact (ChangeShapes.trodVars_none hV).1
 subst hg
 have hk:Rows.uptoBulkAll ds≤1048576:=by first | (simpa [Rows.uptoSmall] using hc1 _ rfl) | (simpa [Rows.uptoSmall] using hc2 _ rfl)
 refine law_core (s:=Rows.completeRunsSpec) (tb:=4) kids sized ?_ rfl (fun ds hl=>?_) rfl Tryd.underlying4 (m:=fun αs h hb=>crun_law αs h (Nat.le_trans hb hk)) hval hW (pow10_laid hL)
 .exact par_lt (by kernel_rfl)
 .obtain ⟨d1,rfl⟩:=ds_n1 (show ds.length=1 from hl)
  exact ⟨rfl,rfl,rfl⟩
theorem crun_said:Rows.CompleteRunsUptoSaid :=
 OpenClaim.holds_of_cond 3 Tryd.f3 rfl rfl rfl rfl rfl rfl rfl ⟨rfl,rfl,rfl,rfl,rfl⟩ rfl rfl rfl rfl rfl (by kernel_rfl) Tryd.func3 (by kernel_rfl)
  (of_decide_eq_true (by kernel_rfl)) (by unfold Func.isWrapper;first | (rw [if_pos (by decide +kernel)];kernel_rfl) | (rw [if_neg (by decide +kernel)];exact ⟨rfl,rfl⟩))
  (fun os started H enc _ F=>by rw [OpenClaim.pre_eq_preRow];exact crun_lifted os started H enc F)
theorem crun_plain (f:FuncId) (fn:Func) (hf:Tryd.pinned.checked.prog.funcNamed Rows.completeRunsUptoRow.func=some f) (hfn:Tryd.pinned.checked.prog.funcs[f]?=some fn) :
  false=Tryd.pinned.checked.prog.looks []∧∀(j:Nat) t,fn.params[j]?=some t→Tryd.pinned.checked.prog.wantsStandIn t=false:=by
 obtain rfl:f=3:=Option.some.inj ((show Tryd.prog.funcNamed Rows.completeRunsUptoRow.func=some 3 by kernel_rfl).symm.trans hf) |>.symm
 obtain rfl:fn=Tryd.f3:=(Option.some.inj (Tryd.func3.symm.trans hfn)).symm
 refine ⟨by kernel_rfl,fun j t ht=>?_⟩
 have key:∀t∈Tryd.f3.params.toList,Tryd.prog.wantsStandIn t=false:=by
  have key:(Tryd.f3.params.toList.all fun t=>!Tryd.prog.wantsStandIn t)=true:=by kernel_rfl
  intro t ht;simpa using List.all_eq_true.1 key t ht
 exact key t (Array.mem_toList_iff.2 (Array.mem_of_getElem? ht))
theorem crun_holds:Rows.CompleteRunsUptoCardSaid :=
 Claim7.holds_tied_plain_at .later [] _ _ _ _ crun_said (fun _ h=>by cases h) (by kernel_rfl) (fun _ h=>by cases h) completeRunsUpto_row_tie rfl ⟨rfl,rfl⟩ (by kernel_rfl) rfl crun_plain (by kernel_rfl)
end Go.Proofs.YtgollgfifnmaaaaDoor
