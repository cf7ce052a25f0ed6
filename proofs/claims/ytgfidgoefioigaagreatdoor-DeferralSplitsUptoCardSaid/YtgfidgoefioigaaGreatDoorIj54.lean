/- Proof. Conditions: none. -/
import Derived.Test.YtgfidgoefioigaaGreatDoorCards
import Derived.Test.YtgfidgoefioigaaGreatDoorTie
import Derived.Deep.DeepHandedRow
import Derived.Test.YtgfidgoefioigaaGreatDoorIj53
noncomputable section
open List renaming sublist_append_right->z40
open Go.Proofs.Tryz
namespace Go.Proofs.YtgfidgoefioigaaGreatDoor
open Go.Eng
open Go.ChangeShapes Go.WideShapes Go.ChangeAt Go.RowKit
set_option linter.all false
theorem Uh {P:Program} {W:World} {x y:String×DataW Unit} {name:String} {k:IntKind} {zs:List Int} {g:Nat} {t e:TypeId} {n:Nat}
 (hg:P.globalNamed name=some g) (OC:(P.globals[g]?).map (·.type)=some t) (ht:P.underlying t=some (.array n e)) (he:P.underlying e=some (.int k)) (hce:P.cellsOf e=1) (hct:P.cellsOf t=n)
 (h:laidMet P [x,y,(name,Lib.tabData k zs)] W):∃t fr,W.heap[g]?=some (.cells (zs.map fun z=>Value.int k z).toArray t fr):=by
 obtain ⟨ps,⟨g1,t1,c1,f1,p1,q1,a1,a2,a3,a4,⟨g2,t2,c2,f2,p2,q2,b1,b2,b3,b4,hz,e2⟩,e1⟩,hnd,hrows⟩:=h
 have hs:q2.Sublist ps:=by
  rw [e1,e2]
  exact (z40 _ _).trans (z40 _ _)
 have ht':Lib.TabIs P W name k zs:=Lib.tabIs_of_head (rest:=[]) hg OC ht he hce hct ⟨q2,hz,hnd.sublist hs,fun b off hp=>hrows b off (hs.subset hp)⟩
 unfold Lib.TabIs World.var? at ht'
 rw [hg] at ht'
 simp only [Option.bind_some] at ht'
 split at ht'
 .rename_i cs t fr hh
  cases ht'
  exact ⟨t,fr,hh⟩
 .cases ht'
theorem RM {w:World} (h:laidMetH prog Rows.deferralSplitsUptoRow.laid w):∀b vs,(b,vs)∈LD->∃t fr,w.heap[b]?=some (.cells vs t fr):=by
 intro b vs hb
 simp only [LD,List.mem_singleton,Prod.mk.injEq] at hb
 obtain ⟨rfl,rfl⟩:=hb
 exact Uh (t:=214) (e:=207) (n:=20) (by kernel_rfl) (by kernel_rfl) (by kernel_rfl) (by kernel_rfl) (by kernel_rfl) (by kernel_rfl) h
noncomputable def RD:DataW Unit->Array Value
 | .agg l=>(l.map fun x=>match x with | .lit (.int k z)=>Value.int k z | _=>Value.int .i64 0).toArray
 |_=>#[]
noncomputable def QY (vs:Array Value):Obj->Obj
 | .cells _ t fr=>.cells vs t fr
 |o=>o
noncomputable def IQ (os:Os):World :=
 { World.holding prog os ⟨#[],#[],[]⟩ with heap:=(((World.holding prog os ⟨#[],#[],[]⟩).heap.modify 0 (QY (RD Rows.laid_internal_strconv_uint64pow10))).modify 1 (QY (RD Rows.laid_math_bits_deBruijn32tab))).modify 2 (QY (RD Rows.laid_math_bits_deBruijn64tab)) }
abbrev Ac2:Value:=.agg #[.int .i64 0,.slice none 0 0]
abbrev Ags:Value:=.agg #[.int .i64 0,.int .i64 0,.string ⟨#[]⟩,.slice none 0 0,.slice none 0 0]
abbrev Agc:Value:=.agg #[.slice none 0 0]
set_option maxRecDepth 100000 in
theorem XX (os:Os) (vs:Array Value):laidMet prog Rows.deferralSplitsUptoRow.laid ((IQ os).forCall (fun _ _=>0) ⟨#[],vs,[]⟩).memory :=
 laidMet_of_run' 8 (by kernel_rfl) (by kernel_rfl)
theorem XP (αs:List AV) (h:ASs prog [24,27,31] αs) (hw:Cf αs<=1048576):Af prog 3 [] 0 αs (.b true):=by
 obtain ⟨α1,α2,α3,rfl,h1,h2,h3⟩:=Akr h
 simp only [Cf] at hw
 obtain ⟨doc,k,l,v,rfl,rfl,rfl,hi⟩:=UG h1 h2 h3 (by omega) (by omega) (by omega)
 exact Vm doc k l v hi [] 0
set_option maxRecDepth 100000 in
theorem PU (os:Os) (started:os.Started) (H:Type) (enc:TypeId×Value->H) (F:Stop.Interp) :
 ReturnsInHanded {} checked os 3 .any ((Rows.OpenSpec.upto Rows.deferralSplitsSpec).preRow enc prog f3 Rows.deferralSplitsUptoRow.domain false Rows.deferralSplitsUptoRow.laid) (((Rows.OpenSpec.upto Rows.deferralSplitsSpec).at F).post enc prog f3 false true false false):=by
 have hx:DataW.whole enc prog ((IQ os).forCall (fun _ _=>0) ⟨#[],#[Agc,Ac2,Ags],[]⟩).memory f3.params.toList Rows.deferralSplitsSpec.vars false #[Agc,Ac2,Ags].toList 8=some ([.agg [.nil],.agg [.lit (.int .i64 0),.nil],.agg [.lit (.int .i64 0),.lit (.int .i64 0),.lit (.string []),.nil,.nil]],[],[]):=by kernel_rfl
 refine returnsInHanded_of_row (C:=checked) (s:=Rows.OpenSpec.upto Rows.deferralSplitsSpec) own started (by kernel_rfl) func3
  (witness_row_at (enc:=enc) (C:=checked) false (IQ os) #[Agc,Ac2,Ags] rfl (by kernel_rfl) (by kernel_rfl) (by kernel_rfl)
   (OpenSpec.preRow_of_cond 8 hx (by kernel_rfl) (fun k hk=>by cases hk;kernel_rfl) (by kernel_rfl) (XX os _))) ?_
 intro W base args ds gs e8 A4 hW hc1 hc2 hc3 hL _ _
 have hg:gs=[]:=by
  obtain ⟨p,q,hA,hV,_⟩:=hW
  exact (ChangeShapes.trodVars_none hV).1
 subst hg
 have hk:Rows.uptoBulkAll ds<=1048576:=by first | (simpa [Rows.uptoSmall] using hc1 _ rfl) | (simpa [Rows.uptoSmall] using hc2 _ rfl)
 refine YG (s:=Rows.deferralSplitsSpec) (tb:=4) Apv Ajp ?_ rfl (fun ds hl=>?_) rfl underlying4 (m:=fun αs h hb=>XP αs h (Nat.le_trans hb hk)) A4 hW (RM hL)
 .exact Adk (by kernel_rfl)
 .obtain ⟨d1,d2,d3,rfl⟩:=Ak2 (show ds.length=3 from hl)
  exact ⟨rfl,rfl,rfl⟩
theorem Ut:Rows.DeferralSplitsUptoSaid :=
 OpenClaim.holds_of_cond 3 f3 rfl rfl rfl rfl rfl rfl rfl ⟨rfl,rfl,rfl,rfl,rfl⟩ rfl rfl rfl rfl rfl (by kernel_rfl) func3 (by kernel_rfl)
  (of_decide_eq_true (by kernel_rfl)) (by unfold Func.isWrapper;first | (rw [iP (by decide +kernel)];kernel_rfl) | (rw [iN (by decide +kernel)];exact ⟨rfl,rfl⟩))
  (fun os started H enc _ F=>by rw [OpenClaim.pre_eq_preRow];exact PU os started H enc F)
theorem Rh (f:FuncId) (fn:Func) (hf:Tryz.pinned.checked.prog.funcNamed Rows.deferralSplitsUptoRow.func=some f) (hfn:Tryz.pinned.checked.prog.funcs[f]?=some fn) :
 false=Tryz.pinned.checked.prog.looks []∧∀(j:Nat) t,fn.params[j]?=some t->Tryz.pinned.checked.prog.wantsStandIn t=false:=by
 obtain rfl:f=3:=Option.some.inj ((show prog.funcNamed Rows.deferralSplitsUptoRow.func=some 3 by kernel_rfl).symm.trans hf) |>.symm
 obtain rfl:fn=f3:=(Option.some.inj (func3.symm.trans hfn)).symm
 refine ⟨by kernel_rfl,fun j t ht=>?_⟩
 have key:∀t∈f3.params.toList,prog.wantsStandIn t=false:=by
  have key:(f3.params.toList.all fun t=>!prog.wantsStandIn t)=true:=by kernel_rfl
  intro t ht;simpa using List.all_eq_true.1 key t ht
 exact key t (Array.mem_toList_iff.2 (Array.mem_of_getElem? ht))
theorem dspl_holds:Rows.DeferralSplitsUptoCardSaid :=
 Claim7.holds_tied_plain_at .later [] _ _ _ _ Ut (fun _ h=>by cases h) (by kernel_rfl) (fun _ h=>by cases h) deferralSplitsUpto_row_tie rfl ⟨rfl,rfl⟩ (by kernel_rfl) rfl Rh (by kernel_rfl)
