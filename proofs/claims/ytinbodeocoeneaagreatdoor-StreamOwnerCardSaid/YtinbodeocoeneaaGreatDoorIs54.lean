/- Proof. Conditions: none. -/
import Derived.Test.YtinbodeocoeneaaGreatDoorIs53
open Nat renaming le_trans→znc
namespace Go.Proofs.YtinbodeocoeneaaGreatDoor
open Go.Eng
set_option linter.all false
open Go.ChangeShapes Go.WideShapes Go.ChangeAt Go.RowKit
theorem ssrc_law (αs:List AV) (h:AQs Tryz.prog [38] αs):MeetsF Tryz.prog 3 [] 0 αs (.b true):=by
 obtain ⟨α1,rfl,h1⟩:=aq_n1 h
 obtain ⟨s,d,p,rfl,c⟩:=readq_case45 h1
 exact lawSource s d p c [] 0
set_option maxRecDepth 100000 in
theorem ssrc_lifted (os:Os) (started:os.Started) (H:Type) (enc:TypeId × Value→H) (F:Stop.Interp) :
  ReturnsInHanded {} Tryz.checked os 3 .any ((OpenSpec.ofChange Rows.streamSourceSpec).preRow enc Tryz.prog Tryz.f3 Rows.streamSourceRow.domain false Rows.streamSourceRow.laid) (((OpenSpec.ofChange Rows.streamSourceSpec).at F).post enc Tryz.prog Tryz.f3 false true false false):=by
 have hx:DataW.whole enc Tryz.prog ((laidWorld os).forCall (fun _ _=>0) ⟨#[],#[case0],[]⟩).memory Tryz.f3.params.toList Rows.streamSourceSpec.vars false #[case0].toList 8=some ([.agg [.agg [.nil,.agg [.nil],.nil,.nil],.agg [.nil,.nil],.agg [.lit (.int .i64 0),.nil]]],[],[]):=by kernel_rfl
 refine returnsInHanded_of_row (C:=Tryz.checked) (s:=OpenSpec.ofChange Rows.streamSourceSpec) own started (by kernel_rfl) Tryz.func3
  (witness_row_at (enc:=enc) (C:=Tryz.checked) false (laidWorld os) #[case0] rfl (by kernel_rfl) (by kernel_rfl) (by kernel_rfl)
   (OpenSpec.preRow_of_cond 8 hx (by kernel_rfl) (fun k hk=>by cases hk) (by kernel_rfl) (laid_met os _))) ?_
 intro W base args ds gs before hval hW hc1 hc2 hc3 hL _ _
 have hg:gs=[]:=by
  obtain ⟨p,q,hA,hV,_⟩:=hW
  exact (ChangeShapes.trodVars_none hV).1
 subst hg
 refine law_sized (s:=Rows.streamSourceSpec) (tb:=4) kids sized ?_ rfl (fun ds hl=>?_) rfl Tryz.underlying4 (m:=fun αs h=>ssrc_law αs h) hval hW hc3 (pow10_laid hL)
 .exact par_lt (by kernel_rfl)
 .obtain ⟨d1,rfl⟩:=ds_n1 (show ds.length=1 from hl)
  exact ⟨rfl,rfl,rfl⟩
theorem ssrc_said:Rows.StreamSourceSaid :=
 OpenClaim.holds_of_cond 3 Tryz.f3 rfl rfl rfl rfl rfl rfl rfl ⟨rfl,rfl,rfl,rfl,rfl⟩ rfl rfl rfl rfl rfl (by kernel_rfl) Tryz.func3 (by kernel_rfl)
  (of_decide_eq_true (by kernel_rfl)) (by unfold Func.isWrapper;first | (rw [if_pos (by decide +kernel)];kernel_rfl) | (rw [if_neg (by decide +kernel)];exact ⟨rfl,rfl⟩))
  (fun os started H enc _ F=>by rw [OpenClaim.pre_eq_preRow];exact ssrc_lifted os started H enc F)
theorem ssrc_plain (f:FuncId) (fn:Func) (hf:Tryz.pinned.checked.prog.funcNamed Rows.streamSourceRow.func=some f) (hfn:Tryz.pinned.checked.prog.funcs[f]?=some fn) :
  false=Tryz.pinned.checked.prog.looks []∧∀(j:Nat) t,fn.params[j]?=some t→Tryz.pinned.checked.prog.wantsStandIn t=false:=by
 obtain rfl:f=3:=Option.some.inj ((show Tryz.prog.funcNamed Rows.streamSourceRow.func=some 3 by kernel_rfl).symm.trans hf) |>.symm
 obtain rfl:fn=Tryz.f3:=(Option.some.inj (Tryz.func3.symm.trans hfn)).symm
 refine ⟨by kernel_rfl,fun j t ht=>?_⟩
 have key:∀t∈Tryz.f3.params.toList,Tryz.prog.wantsStandIn t=false:=by
  have key:(Tryz.f3.params.toList.all fun t=>!Tryz.prog.wantsStandIn t)=true:=by kernel_rfl
  intro t ht;simpa using List.all_eq_true.1 key t ht
 exact key t (Array.mem_toList_iff.2 (Array.mem_of_getElem? ht))
theorem ssrc_holds:Rows.StreamSourceCardSaid :=
 Claim7.holds_tied_plain_at .later [] _ _ _ _ ssrc_said (fun _ h=>by cases h) (by kernel_rfl) (fun _ h=>by cases h) streamSource_row_tie rfl ⟨rfl,rfl⟩ (by kernel_rfl) rfl ssrc_plain (by kernel_rfl)
theorem sown_law (αs:List AV) (h:AQs Tryz.prog [38] αs):MeetsF Tryz.prog 6 [] 0 αs (.b true):=by
 obtain ⟨α1,rfl,h1⟩:=aq_n1 h
 obtain ⟨s,d,p,rfl,c⟩:=readq_case45 h1
 exact lawOwner s d p c [] 0
set_option maxRecDepth 100000 in
theorem sown_lifted (os:Os) (started:os.Started) (H:Type) (enc:TypeId × Value→H) (F:Stop.Interp) :
  ReturnsInHanded {} Tryz.checked os 6 .any ((OpenSpec.ofChange Rows.streamOwnerSpec).preRow enc Tryz.prog Tryz.f6 Rows.streamOwnerRow.domain false Rows.streamOwnerRow.laid) (((OpenSpec.ofChange Rows.streamOwnerSpec).at F).post enc Tryz.prog Tryz.f6 false true false false):=by
 have hx:DataW.whole enc Tryz.prog ((laidWorld os).forCall (fun _ _=>0) ⟨#[],#[case0],[]⟩).memory Tryz.f6.params.toList Rows.streamOwnerSpec.vars false #[case0].toList 8=some ([.agg [.agg [.nil,.agg [.nil],.nil,.nil],.agg [.nil,.nil],.agg [.lit (.int .i64 0),.nil]]],[],[]):=by kernel_rfl
 refine returnsInHanded_of_row (C:=Tryz.checked) (s:=OpenSpec.ofChange Rows.streamOwnerSpec) own started (by kernel_rfl) Tryz.func6
  (witness_row_at (enc:=enc) (C:=Tryz.checked) false (laidWorld os) #[case0] rfl (by kernel_rfl) (by kernel_rfl) (by kernel_rfl)
   (OpenSpec.preRow_of_cond 8 hx (by kernel_rfl) (fun k hk=>by cases hk) (by kernel_rfl) (laid_met os _))) ?_
 intro W base args ds gs before hval hW hc1 hc2 hc3 hL _ _
 have hg:gs=[]:=by
  obtain ⟨p,q,hA,hV,_⟩:=hW
  exact (ChangeShapes.trodVars_none hV).1
 subst hg
 refine law_sized (s:=Rows.streamOwnerSpec) (tb:=4) kids sized ?_ rfl (fun ds hl=>?_) rfl Tryz.underlying4 (m:=fun αs h=>sown_law αs h) hval hW hc3 (pow10_laid hL)
 .exact par_lt (by kernel_rfl)
 .obtain ⟨d1,rfl⟩:=ds_n1 (show ds.length=1 from hl)
  exact ⟨rfl,rfl,rfl⟩
theorem sown_said:Rows.StreamOwnerSaid :=
 OpenClaim.holds_of_cond 6 Tryz.f6 rfl rfl rfl rfl rfl rfl rfl ⟨rfl,rfl,rfl,rfl,rfl⟩ rfl rfl rfl rfl rfl (by kernel_rfl) Tryz.func6 (by kernel_rfl)
  (of_decide_eq_true (by kernel_rfl)) (by unfold Func.isWrapper;first | (rw [if_pos (by decide +kernel)];kernel_rfl) | (rw [if_neg (by decide +kernel)];exact ⟨rfl,rfl⟩))
  (fun os started H enc _ F=>by rw [OpenClaim.pre_eq_preRow];exact sown_lifted os started H enc F)
theorem sown_plain (f:FuncId) (fn:Func) (hf:Tryz.pinned.checked.prog.funcNamed Rows.streamOwnerRow.func=some f) (hfn:Tryz.pinned.checked.prog.funcs[f]?=some fn) :
  false=Tryz.pinned.checked.prog.looks []∧∀(j:Nat) t,fn.params[j]?=some t→Tryz.pinned.checked.prog.wantsStandIn t=false:=by
 obtain rfl:f=6:=Option.some.inj ((show Tryz.prog.funcNamed Rows.streamOwnerRow.func=some 6 by kernel_rfl).symm.trans hf) |>.symm
 obtain rfl:fn=Tryz.f6:=(Option.some.inj (Tryz.func6.symm.trans hfn)).symm
 refine ⟨by kernel_rfl,fun j t ht=>?_⟩
 have key:∀t∈Tryz.f6.params.toList,Tryz.prog.wantsStandIn t=false:=by
  have key:(Tryz.f6.params.toList.all fun t=>!Tryz.prog.wantsStandIn t)=true:=by kernel_rfl
  intro t ht;simpa using List.all_eq_true.1 key t ht
 exact key t (Array.mem_toList_iff.2 (Array.mem_of_getElem? ht))
theorem sown_holds:Rows.StreamOwnerCardSaid :=
 Claim7.holds_tied_plain_at .later [] _ _ _ _ sown_said (fun _ h=>by cases h) (by kernel_rfl) (fun _ h=>by cases h) streamOwner_row_tie rfl ⟨rfl,rfl⟩ (by kernel_rfl) rfl sown_plain (by kernel_rfl)
end Go.Proofs.YtinbodeocoeneaaGreatDoor
