/- Proof. Conditions: none. -/
import Derived.Test.YtinbodeocoeneaaGreatDoorIc53
open Nat renaming le_trans→znc
namespace Go.Proofs.YtinbodeocoeneaaGreatDoor
open Go.Eng
set_option linter.all false
theorem st1_one (b:ByteArray):1≤avL (st1 b):=by simp [st1,avL,avw]
theorem case_tok {s:Sup} {d:Dat} {p:Pln} (c:COk s d p) (hb:avw (casex s d p)≤1048576):TOk s d p:=by
 have hf:=case_fit c hb
 simp only [casex,avL,avw] at hb
 refine ⟨c,hf,fun y hy=>?_,?_,?_⟩
 .have h1:avL (jnC y)≤avLL (mapC jnC s.joins):=avLL_mem (List.mem_map_of_mem (f:=jnC) hy)
  have h2:=mapC_len_le st1_one y.req
  have h3:=mapC_len_le st1_one y.prov
  simp only [jnC,avL,avw,stC] at h1
  omega
 .have h1:=mapC_len_le (c:=itC) (fun x=>by simp [itC,avL,avw];omega) d.i
  omega
 .have h1:=mapC_len_le st1_one s.g
  simp only [stC] at hb
  omega
theorem reads45 {α:AV} (h:AS Tryz.prog 38 α) (hb:avw α≤1048576):∃s d p,α=casex s d p∧TOk s d p:=by
 obtain ⟨s,d,p,rfl,c⟩:=reads_case45 h hb
 exact ⟨s,d,p,rfl,case_tok c hb⟩
open Go.ChangeShapes Go.WideShapes Go.ChangeAt Go.RowKit
theorem ssrc_law (αs:List AV) (h:ASs Tryz.prog [38] αs) (hw:avL αs≤1048576):MeetsF Tryz.prog 3 [] 0 αs (.b true):=by
 obtain ⟨α1,rfl,h1⟩:=as_n1 h
 simp only [avL] at hw
 obtain ⟨s,d,p,rfl,c⟩:=reads45 h1 (by omega)
 exact lawSource s d p c [] 0
set_option maxRecDepth 100000 in
theorem ssrc_lifted (os:Os) (started:os.Started) (H:Type) (enc:TypeId × Value→H) (F:Stop.Interp) :
  ReturnsInHanded {} Tryz.checked os 3 .any ((Rows.OpenSpec.upto Rows.streamSourceSpec).preRow enc Tryz.prog Tryz.f3 Rows.streamSourceUptoRow.domain false Rows.streamSourceUptoRow.laid) (((Rows.OpenSpec.upto Rows.streamSourceSpec).at F).post enc Tryz.prog Tryz.f3 false true false false):=by
 have hx:DataW.whole enc Tryz.prog ((laidWorld os).forCall (fun _ _=>0) ⟨#[],#[case0],[]⟩).memory Tryz.f3.params.toList Rows.streamSourceSpec.vars false #[case0].toList 8=some ([.agg [.agg [.nil,.agg [.nil],.nil,.nil],.agg [.nil,.nil],.agg [.lit (.int .i64 0),.nil]]],[],[]):=by kernel_rfl
 refine returnsInHanded_of_row (C:=Tryz.checked) (s:=Rows.OpenSpec.upto Rows.streamSourceSpec) own started (by kernel_rfl) Tryz.func3
  (witness_row_at (enc:=enc) (C:=Tryz.checked) false (laidWorld os) #[case0] rfl (by kernel_rfl) (by kernel_rfl) (by kernel_rfl)
   (OpenSpec.preRow_of_cond 8 hx (by kernel_rfl) (fun k hk=>by cases hk;kernel_rfl) (by kernel_rfl) (laid_met os _))) ?_
 intro W base args ds gs before hval hW hc1 hc2 hc3 hL _ _
 have hg:gs=[]:=by
  obtain ⟨p,q,hA,hV,_⟩:=hW
  exact (ChangeShapes.trodVars_none hV).1
 subst hg
 have hk:Rows.uptoBulkAll ds≤1048576:=by first | (simpa [Rows.uptoSmall] using hc1 _ rfl) | (simpa [Rows.uptoSmall] using hc2 _ rfl)
 refine law_core (s:=Rows.streamSourceSpec) (tb:=4) kids sized ?_ rfl (fun ds hl=>?_) rfl Tryz.underlying4 (m:=fun αs h hb=>ssrc_law αs h (znc hb hk)) hval hW (pow10_laid hL)
 .exact par_lt (by kernel_rfl)
 .obtain ⟨d1,rfl⟩:=ds_n1 (show ds.length=1 from hl)
  exact ⟨rfl,rfl,rfl⟩
theorem ssrc_said:Rows.StreamSourceUptoSaid :=
 OpenClaim.holds_of_cond 3 Tryz.f3 rfl rfl rfl rfl rfl rfl rfl ⟨rfl,rfl,rfl,rfl,rfl⟩ rfl rfl rfl rfl rfl (by kernel_rfl) Tryz.func3 (by kernel_rfl)
  (of_decide_eq_true (by kernel_rfl)) (by unfold Func.isWrapper;first | (rw [if_pos (by decide +kernel)];kernel_rfl) | (rw [if_neg (by decide +kernel)];exact ⟨rfl,rfl⟩))
  (fun os started H enc _ F=>by rw [OpenClaim.pre_eq_preRow];exact ssrc_lifted os started H enc F)
theorem ssrc_plain (f:FuncId) (fn:Func) (hf:Tryz.pinned.checked.prog.funcNamed Rows.streamSourceUptoRow.func=some f) (hfn:Tryz.pinned.checked.prog.funcs[f]?=some fn) :
  false=Tryz.pinned.checked.prog.looks []∧∀(j:Nat) t,fn.params[j]?=some t→Tryz.pinned.checked.prog.wantsStandIn t=false:=by
 obtain rfl:f=3:=Option.some.inj ((show Tryz.prog.funcNamed Rows.streamSourceUptoRow.func=some 3 by kernel_rfl).symm.trans hf) |>.symm
 obtain rfl:fn=Tryz.f3:=(Option.some.inj (Tryz.func3.symm.trans hfn)).symm
 refine ⟨by kernel_rfl,fun j t ht=>?_⟩
 have key:∀t∈Tryz.f3.params.toList,Tryz.prog.wantsStandIn t=false:=by
  have key:(Tryz.f3.params.toList.all fun t=>!Tryz.prog.wantsStandIn t)=true:=by kernel_rfl
  intro t ht;simpa using List.all_eq_true.1 key t ht
 exact key t (Array.mem_toList_iff.2 (Array.mem_of_getElem? ht))
theorem ssrc_holds:Rows.StreamSourceUptoCardSaid :=
 Claim7.holds_tied_plain_at .later [] _ _ _ _ ssrc_said (fun _ h=>by cases h) (by kernel_rfl) (fun _ h=>by cases h) streamSourceUpto_row_tie rfl ⟨rfl,rfl⟩ (by kernel_rfl) rfl ssrc_plain (by kernel_rfl)
theorem sown_law (αs:List AV) (h:ASs Tryz.prog [38] αs) (hw:avL αs≤1048576):MeetsF Tryz.prog 6 [] 0 αs (.b true):=by
 obtain ⟨α1,rfl,h1⟩:=as_n1 h
 simp only [avL] at hw
 obtain ⟨s,d,p,rfl,c⟩:=reads45 h1 (by omega)
 exact lawOwner s d p c [] 0
set_option maxRecDepth 100000 in
theorem sown_lifted (os:Os) (started:os.Started) (H:Type) (enc:TypeId × Value→H) (F:Stop.Interp) :
  ReturnsInHanded {} Tryz.checked os 6 .any ((Rows.OpenSpec.upto Rows.streamOwnerSpec).preRow enc Tryz.prog Tryz.f6 Rows.streamOwnerUptoRow.domain false Rows.streamOwnerUptoRow.laid) (((Rows.OpenSpec.upto Rows.streamOwnerSpec).at F).post enc Tryz.prog Tryz.f6 false true false false):=by
 have hx:DataW.whole enc Tryz.prog ((laidWorld os).forCall (fun _ _=>0) ⟨#[],#[case0],[]⟩).memory Tryz.f6.params.toList Rows.streamOwnerSpec.vars false #[case0].toList 8=some ([.agg [.agg [.nil,.agg [.nil],.nil,.nil],.agg [.nil,.nil],.agg [.lit (.int .i64 0),.nil]]],[],[]):=by kernel_rfl
 refine returnsInHanded_of_row (C:=Tryz.checked) (s:=Rows.OpenSpec.upto Rows.streamOwnerSpec) own started (by kernel_rfl) Tryz.func6
  (witness_row_at (enc:=enc) (C:=Tryz.checked) false (laidWorld os) #[case0] rfl (by kernel_rfl) (by kernel_rfl) (by kernel_rfl)
   (OpenSpec.preRow_of_cond 8 hx (by kernel_rfl) (fun k hk=>by cases hk;kernel_rfl) (by kernel_rfl) (laid_met os _))) ?_
 intro W base args ds gs before hval hW hc1 hc2 hc3 hL _ _
 have hg:gs=[]:=by
  obtain ⟨p,q,hA,hV,_⟩:=hW
  exact (ChangeShapes.trodVars_none hV).1
 subst hg
 have hk:Rows.uptoBulkAll ds≤1048576:=by first | (simpa [Rows.uptoSmall] using hc1 _ rfl) | (simpa [Rows.uptoSmall] using hc2 _ rfl)
 refine law_core (s:=Rows.streamOwnerSpec) (tb:=4) kids sized ?_ rfl (fun ds hl=>?_) rfl Tryz.underlying4 (m:=fun αs h hb=>sown_law αs h (znc hb hk)) hval hW (pow10_laid hL)
 .exact par_lt (by kernel_rfl)
 .obtain ⟨d1,rfl⟩:=ds_n1 (show ds.length=1 from hl)
  exact ⟨rfl,rfl,rfl⟩
theorem sown_said:Rows.StreamOwnerUptoSaid :=
 OpenClaim.holds_of_cond 6 Tryz.f6 rfl rfl rfl rfl rfl rfl rfl ⟨rfl,rfl,rfl,rfl,rfl⟩ rfl rfl rfl rfl rfl (by kernel_rfl) Tryz.func6 (by kernel_rfl)
  (of_decide_eq_true (by kernel_rfl)) (by unfold Func.isWrapper;first | (rw [if_pos (by decide +kernel)];kernel_rfl) | (rw [if_neg (by decide +kernel)];exact ⟨rfl,rfl⟩))
  (fun os started H enc _ F=>by rw [OpenClaim.pre_eq_preRow];exact sown_lifted os started H enc F)
theorem sown_plain (f:FuncId) (fn:Func) (hf:Tryz.pinned.checked.prog.funcNamed Rows.streamOwnerUptoRow.func=some f) (hfn:Tryz.pinned.checked.prog.funcs[f]?=some fn) :
  false=Tryz.pinned.checked.prog.looks []∧∀(j:Nat) t,fn.params[j]?=some t→Tryz.pinned.checked.prog.wantsStandIn t=false:=by
 obtain rfl:f=6:=Option.some.inj ((show Tryz.prog.funcNamed Rows.streamOwnerUptoRow.func=some 6 by kernel_rfl).symm.trans hf) |>.symm
 obtain rfl:fn=Tryz.f6:=(Option.some.inj (Tryz.func6.symm.trans hfn)).symm
 refine ⟨by kernel_rfl,fun j t ht=>?_⟩
 have key:∀t∈Tryz.f6.params.toList,Tryz.prog.wantsStandIn t=false:=by
  have key:(Tryz.f6.params.toList.all fun t=>!Tryz.prog.wantsStandIn t)=true:=by kernel_rfl
  intro t ht;simpa using List.all_eq_true.1 key t ht
 exact key t (Array.mem_toList_iff.2 (Array.mem_of_getElem? ht))
theorem sown_holds:Rows.StreamOwnerUptoCardSaid :=
 Claim7.holds_tied_plain_at .later [] _ _ _ _ sown_said (fun _ h=>by cases h) (by kernel_rfl) (fun _ h=>by cases h) streamOwnerUpto_row_tie rfl ⟨rfl,rfl⟩ (by kernel_rfl) rfl sown_plain (by kernel_rfl)
theorem sshp_law (αs:List AV) (h:ASs Tryz.prog [38,42] αs) (hw:avL αs≤1048576):MeetsF Tryz.prog 7 [] 0 αs (.b true):=by
 obtain ⟨α1,α2,rfl,h1,h2⟩:=as_n2 h
 simp only [avL] at hw
 obtain ⟨s,d,p,rfl,c⟩:=reads45 h1 (by omega)
 obtain ⟨v,rfl,hv⟩:=readsS_val h2 (by omega)
 exact lawShape s d p c v hv [] 0
set_option maxRecDepth 100000 in
theorem sshp_lifted (os:Os) (started:os.Started) (H:Type) (enc:TypeId × Value→H) (F:Stop.Interp) :
  ReturnsInHanded {} Tryz.checked os 7 .any ((Rows.OpenSpec.upto Rows.streamShapeSpec).preRow enc Tryz.prog Tryz.f7 Rows.streamShapeUptoRow.domain false Rows.streamShapeUptoRow.laid) (((Rows.OpenSpec.upto Rows.streamShapeSpec).at F).post enc Tryz.prog Tryz.f7 false true false false):=by
 have hx:DataW.whole enc Tryz.prog ((laidWorld os).forCall (fun _ _=>0) ⟨#[],#[case0,val0],[]⟩).memory Tryz.f7.params.toList Rows.streamShapeSpec.vars false #[case0,val0].toList 8=some ([.agg [.agg [.nil,.agg [.nil],.nil,.nil],.agg [.nil,.nil],.agg [.lit (.int .i64 0),.nil]],.agg [.lit (.int .i64 0),.lit (.int .i64 0),.lit (.string []),.nil,.nil]],[],[]):=by kernel_rfl
 refine returnsInHanded_of_row (C:=Tryz.checked) (s:=Rows.OpenSpec.upto Rows.streamShapeSpec) own started (by kernel_rfl) Tryz.func7
  (witness_row_at (enc:=enc) (C:=Tryz.checked) false (laidWorld os) #[case0,val0] rfl (by kernel_rfl) (by kernel_rfl) (by kernel_rfl)
   (OpenSpec.preRow_of_cond 8 hx (by kernel_rfl) (fun k hk=>by cases hk;kernel_rfl) (by kernel_rfl) (laid_met os _))) ?_
 intro W base args ds gs before hval hW hc1 hc2 hc3 hL _ _
 have hg:gs=[]:=by
  obtain ⟨p,q,hA,hV,_⟩:=hW
  exact (ChangeShapes.trodVars_none hV).1
 subst hg
 have hk:Rows.uptoBulkAll ds≤1048576:=by first | (simpa [Rows.uptoSmall] using hc1 _ rfl) | (simpa [Rows.uptoSmall] using hc2 _ rfl)
 refine law_core (s:=Rows.streamShapeSpec) (tb:=4) kids sized ?_ rfl (fun ds hl=>?_) rfl Tryz.underlying4 (m:=fun αs h hb=>sshp_law αs h (znc hb hk)) hval hW (pow10_laid hL)
 .exact par_lt (by kernel_rfl)
 .obtain ⟨d1,d2,rfl⟩:=ds_n2 (show ds.length=2 from hl)
  exact ⟨rfl,rfl,rfl⟩
theorem sshp_said:Rows.StreamShapeUptoSaid :=
 OpenClaim.holds_of_cond 7 Tryz.f7 rfl rfl rfl rfl rfl rfl rfl ⟨rfl,rfl,rfl,rfl,rfl⟩ rfl rfl rfl rfl rfl (by kernel_rfl) Tryz.func7 (by kernel_rfl)
  (of_decide_eq_true (by kernel_rfl)) (by unfold Func.isWrapper;first | (rw [if_pos (by decide +kernel)];kernel_rfl) | (rw [if_neg (by decide +kernel)];exact ⟨rfl,rfl⟩))
  (fun os started H enc _ F=>by rw [OpenClaim.pre_eq_preRow];exact sshp_lifted os started H enc F)
theorem sshp_plain (f:FuncId) (fn:Func) (hf:Tryz.pinned.checked.prog.funcNamed Rows.streamShapeUptoRow.func=some f) (hfn:Tryz.pinned.checked.prog.funcs[f]?=some fn) :
  false=Tryz.pinned.checked.prog.looks []∧∀(j:Nat) t,fn.params[j]?=some t→Tryz.pinned.checked.prog.wantsStandIn t=false:=by
 obtain rfl:f=7:=Option.some.inj ((show Tryz.prog.funcNamed Rows.streamShapeUptoRow.func=some 7 by kernel_rfl).symm.trans hf) |>.symm
 obtain rfl:fn=Tryz.f7:=(Option.some.inj (Tryz.func7.symm.trans hfn)).symm
 refine ⟨by kernel_rfl,fun j t ht=>?_⟩
 have key:∀t∈Tryz.f7.params.toList,Tryz.prog.wantsStandIn t=false:=by
  have key:(Tryz.f7.params.toList.all fun t=>!Tryz.prog.wantsStandIn t)=true:=by kernel_rfl
  intro t ht;simpa using List.all_eq_true.1 key t ht
 exact key t (Array.mem_toList_iff.2 (Array.mem_of_getElem? ht))
theorem sshp_holds:Rows.StreamShapeUptoCardSaid :=
 Claim7.holds_tied_plain_at .later [] _ _ _ _ sshp_said (fun _ h=>by cases h) (by kernel_rfl) (fun _ h=>by cases h) streamShapeUpto_row_tie rfl ⟨rfl,rfl⟩ (by kernel_rfl) rfl sshp_plain (by kernel_rfl)
theorem seach_law (αs:List AV) (h:ASs Tryz.prog [38,40] αs) (hw:avL αs≤1048576):MeetsF Tryz.prog 5 [] 0 αs (.b true):=by
 obtain ⟨α1,α2,rfl,h1,h2⟩:=as_n2 h
 simp only [avL] at hw
 obtain ⟨s,d,p,rfl,c⟩:=reads45 h1 (by omega)
 obtain ⟨l,rfl,hv,hl⟩:=readsS_vals h2 (by omega)
 exact lawEach s d p c l hl hv [] 0
set_option maxRecDepth 100000 in
theorem seach_lifted (os:Os) (started:os.Started) (H:Type) (enc:TypeId × Value→H) (F:Stop.Interp) :
  ReturnsInHanded {} Tryz.checked os 5 .any ((Rows.OpenSpec.upto Rows.streamEachSpec).preRow enc Tryz.prog Tryz.f5 Rows.streamEachUptoRow.domain false Rows.streamEachUptoRow.laid) (((Rows.OpenSpec.upto Rows.streamEachSpec).at F).post enc Tryz.prog Tryz.f5 false true false false):=by
 have hx:DataW.whole enc Tryz.prog ((laidWorld os).forCall (fun _ _=>0) ⟨#[],#[case0,vals0],[]⟩).memory Tryz.f5.params.toList Rows.streamEachSpec.vars false #[case0,vals0].toList 8=some ([.agg [.agg [.nil,.agg [.nil],.nil,.nil],.agg [.nil,.nil],.agg [.lit (.int .i64 0),.nil]],.nil],[],[]):=by kernel_rfl
 refine returnsInHanded_of_row (C:=Tryz.checked) (s:=Rows.OpenSpec.upto Rows.streamEachSpec) own started (by kernel_rfl) Tryz.func5
  (witness_row_at (enc:=enc) (C:=Tryz.checked) false (laidWorld os) #[case0,vals0] rfl (by kernel_rfl) (by kernel_rfl) (by kernel_rfl)
   (OpenSpec.preRow_of_cond 8 hx (by kernel_rfl) (fun k hk=>by cases hk;kernel_rfl) (by kernel_rfl) (laid_met os _))) ?_
 intro W base args ds gs before hval hW hc1 hc2 hc3 hL _ _
 have hg:gs=[]:=by
  obtain ⟨p,q,hA,hV,_⟩:=hW
  exact (ChangeShapes.trodVars_none hV).1
 subst hg
 have hk:Rows.uptoBulkAll ds≤1048576:=by first | (simpa [Rows.uptoSmall] using hc1 _ rfl) | (simpa [Rows.uptoSmall] using hc2 _ rfl)
 refine law_core (s:=Rows.streamEachSpec) (tb:=4) kids sized ?_ rfl (fun ds hl=>?_) rfl Tryz.underlying4 (m:=fun αs h hb=>seach_law αs h (znc hb hk)) hval hW (pow10_laid hL)
 .exact par_lt (by kernel_rfl)
 .obtain ⟨d1,d2,rfl⟩:=ds_n2 (show ds.length=2 from hl)
  exact ⟨rfl,rfl,rfl⟩
theorem seach_said:Rows.StreamEachUptoSaid :=
 OpenClaim.holds_of_cond 5 Tryz.f5 rfl rfl rfl rfl rfl rfl rfl ⟨rfl,rfl,rfl,rfl,rfl⟩ rfl rfl rfl rfl rfl (by kernel_rfl) Tryz.func5 (by kernel_rfl)
  (of_decide_eq_true (by kernel_rfl)) (by unfold Func.isWrapper;first | (rw [if_pos (by decide +kernel)];kernel_rfl) | (rw [if_neg (by decide +kernel)];exact ⟨rfl,rfl⟩))
  (fun os started H enc _ F=>by rw [OpenClaim.pre_eq_preRow];exact seach_lifted os started H enc F)
theorem seach_plain (f:FuncId) (fn:Func) (hf:Tryz.pinned.checked.prog.funcNamed Rows.streamEachUptoRow.func=some f) (hfn:Tryz.pinned.checked.prog.funcs[f]?=some fn) :
  false=Tryz.pinned.checked.prog.looks []∧∀(j:Nat) t,fn.params[j]?=some t→Tryz.pinned.checked.prog.wantsStandIn t=false:=by
 obtain rfl:f=5:=Option.some.inj ((show Tryz.prog.funcNamed Rows.streamEachUptoRow.func=some 5 by kernel_rfl).symm.trans hf) |>.symm
 obtain rfl:fn=Tryz.f5:=(Option.some.inj (Tryz.func5.symm.trans hfn)).symm
 refine ⟨by kernel_rfl,fun j t ht=>?_⟩
 have key:∀t∈Tryz.f5.params.toList,Tryz.prog.wantsStandIn t=false:=by
  have key:(Tryz.f5.params.toList.all fun t=>!Tryz.prog.wantsStandIn t)=true:=by kernel_rfl
  intro t ht;simpa using List.all_eq_true.1 key t ht
 exact key t (Array.mem_toList_iff.2 (Array.mem_of_getElem? ht))
theorem seach_holds:Rows.StreamEachUptoCardSaid :=
 Claim7.holds_tied_plain_at .later [] _ _ _ _ seach_said (fun _ h=>by cases h) (by kernel_rfl) (fun _ h=>by cases h) streamEachUpto_row_tie rfl ⟨rfl,rfl⟩ (by kernel_rfl) rfl seach_plain (by kernel_rfl)
theorem streams_all:Rows.StreamShapeUptoCardSaid∧Rows.StreamEachUptoCardSaid∧Rows.StreamSourceUptoCardSaid∧Rows.StreamOwnerUptoCardSaid:=⟨sshp_holds,seach_holds,ssrc_holds,sown_holds⟩
end Go.Proofs.YtinbodeocoeneaaGreatDoor
