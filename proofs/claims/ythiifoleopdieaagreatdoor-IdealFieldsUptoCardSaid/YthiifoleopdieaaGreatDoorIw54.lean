/- Proof. Conditions: none. -/
import Derived.Test.YthiifoleopdieaaGreatDoorIw53
open Nat renaming reduceEqDiff→Za,reduceBEq→Zb,reduceAdd→Zc,reduceLeDiff→Zd,reduceLT→Ze,reduceMul→Zf,reduceSub→Zg
open Int renaming reduceEq→Zh,reduceLT→Zi,reduceLE→Zj,reduceToNat→Zk
open List renaming mem_of_getElem?→zla,getElem?_map→zlp
open Nat renaming le_refl→zna
namespace Go.Proofs.YthiifoleopdieaaGreatDoor
open Go.Eng
set_option linter.all false
set_option maxRecDepth 20000
set_option maxHeartbeats 2000000
theorem shaped_ok (v:Val):v.Fit→∀l:List Pk,l.length≤1048576→(∀p∈l,p.Ok)→ShpV v l→∀hp m,MeetsF Tryz.prog 20 hp m [vx v,.ds (mapC pkC l)] (.b true):=by
 refine Val.ind (Q:=fun v=>v.Fit→∀l:List Pk,l.length≤1048576→(∀p∈l,p.Ok)→ShpV v l→∀hp m,MeetsF Tryz.prog 20 hp m [vx v,.ds (mapC pkC l)] (.b true)) (fun v ih hf0 l hl hpo hs hp m=>?_) v
 cases hs with
 | leaf _ _ h5 h6 =>
  have d5:decide (v.k=5)=false:=by simp [h5]
  have d6:decide (v.k=6)=false:=by simp [h6]
  refine meetsF Tryz.func20 (by kernel_rfl) cc20 cr20 rfl fun hf=>?_;unfold ck20
  simp (disch:=omega) only [ite_ne,d5,d6,go_sem,↓reduceIte,Za,Zb,Zc,Zd,Ze,reduceCtorEq,Zf,Zg,Zh,Zi,Zj,Zk]
 | list _ _ h5 hx =>
  have d5:decide (v.k=5)=true:=by simp [h5]
  have hil:=hf0.i
  refine meetsF Tryz.func20 (by kernel_rfl) cc20 cr20 rfl fun hf=>?_;unfold ck20
  simp (disch:=omega) only [ite_ne,d5,h5,go_sem,↓reduceIte,Za,Zb,Zc,Zd,Ze,reduceCtorEq,Zf,Zg,Zh,Zi,Zj,Zk]
  refine loop (fun q:Nat × Nat=>⟨[(1,.ds (mapC pkC l)),(2,.bx m 0),(5,.i .i64 q.1)],(m,.bx [.i .i64 5,.i .i64 v.n,.s v.s,.ds (mapC valC v.items),.ds (stC v.keys)])::hp,q.2⟩)
   (fun q=>q.1≤v.items.length∧m+1≤q.2) (fun q=>v.items.length - q.1) (0,m+1) ?_ ?_ (fun ⟨j,n⟩ hj=>?_)
  .simp
  .refine weak_ok ?_ (Sub.cons ?_ (Sub.base hf ?_)) (zna _)
   all_goals (simp (disch:=omega) only [ite_ne,h5,go_sem,↓reduceIte,Za,Zb,Zc,Zd,Ze,reduceCtorEq,Zf,Zg,Zh,Zi,Zj,Zk])
  dsimp only at hj
  obtain ⟨hj1,hj2⟩:=hj
  have hmn:m≤n:=by omega
  simp (disch:=omega) only [ite_ne,go_sem,↓reduceIte,Za,Zb,Zc,Zd,Ze,reduceCtorEq,Zf,Zg,Zh,Zi,Zj,Zk]
  refine cdK_of (fun q=>?_) (fun q=>?_)
  .have q:j<v.items.length:=by simpa using q
   obtain ⟨x,ex⟩:∃x,v.items[j]?=some x:=⟨v.items[j],by simp [q]⟩
   have hxm:=zla ex
   have hrec:=ih x hxm (hf0.x hxm) l hl hpo (hx x hxm)
   have k4:v.items.length - (j+1)<v.items.length - j:=by omega
   simp (disch:=omega) only [ite_ne,q,getK_s (mapC_get valC ex),hmn,go_sem,↓reduceIte,Za,Zb,Zc,Zd,Ze,reduceCtorEq,Zf,Zg,Zh,Zi,Zj,Zk]
   refine vcCall.f (hrec _ _) ?_
   simp (disch:=omega) only [ite_ne,q,hmn,go_sem,↓reduceIte,Za,Zb,Zc,Zd,Ze,reduceCtorEq,Zf,Zg,Zh,Zi,Zj,Zk]
   refine ⟨(j+1,_),⟨by dsimp only;omega,by dsimp only;omega⟩,k4,weak_ok ?_ (Sub.cons ?_ (Sub.base hf ?_)) (zna _)⟩
   all_goals
    simp (disch:=omega) only [ite_ne,wr64s j (by omega),hmn,go_sem,↓reduceIte,Za,Zb,Zc,Zd,Ze,reduceCtorEq,Zf,Zg,Zh,Zi,Zj,Zk]
  .have q:j=v.items.length:=by simp at q;omega
   subst q
   simp (disch:=omega) only [ite_ne,hmn,go_sem,↓reduceIte,Za,Zb,Zc,Zd,Ze,reduceCtorEq,Zf,Zg,Zh,Zi,Zj,Zk]
 | obj t F _ h1 h2 =>
  have e:vx (objV t F)=.ag [.i .i64 6,.i .i64 0,.s ⟨#[]⟩,.ds (mapC valC (txV t::F.map (·.2))),.ds (stC (⟨#[95,95,116]⟩::F.map (·.1)))]:=rfl
  have hfi:=hf0.i
  have hfx:=fun x hx=>hf0.x (x:=x) hx
  have hii:(objV t F).items=txV t::F.map (·.2):=rfl
  rw [hii] at hfi hfx ih
  have e0:(mapC valC (txV t::F.map (·.2)))[0]?=some [.i .i64 3,.i .i64 0,.s t,.ds [],.ds []]:=by rw [mapC_cons,valC_eq];rfl
  have k0:(stC (⟨#[95,95,116]⟩::F.map (·.1)))[0]?=some [.s ⟨#[95,95,116]⟩]:=rfl
  have n1:(txV t::F.map (·.2)).length=F.length+1:=by simp
  have n2:((⟨#[95,95,116]⟩:ByteArray)::F.map (·.1)).length=F.length+1:=by simp
  have hFl:F.length=(l.filter fun p=>decide (p.on=t)).length:=by
   have:=congrArg List.length h1
   simpa using this
  have z0:(((F.length+1:Nat):Int)=0)=False:=eq_false (by omega)
  have z9:(0<F.length+1)=True:=eq_true (by omega)
  rw [n1] at hfi
  rw [e]
  obtain ⟨I,hI⟩:∃I,txV t::F.map (·.2)=I:=⟨_,rfl⟩
  obtain ⟨K,hK⟩:∃K,(⟨#[95,95,116]⟩:ByteArray)::F.map (·.1)=K:=⟨_,rfl⟩
  rw [hI] at e0 n1 ih hfx ⊢
  rw [hK] at k0 n2 ⊢
  refine meetsF Tryz.func20 (by kernel_rfl) cc20 cr20 rfl fun hf=>?_;unfold ck20
  simp (disch:=omega) only [ite_ne,n1,n2,z0,z9,getK_s e0,getK_s k0,e0,k0,go_sem,↓reduceIte,Za,Zb,Zc,Zd,Ze,reduceCtorEq,Zf,Zg,Zh,Zi,Zj,Zk]
  refine loop (fun q:Nat × Nat=>⟨[(1,.ds (mapC pkC l)),(2,.bx m 0),(6,.i .i64 ((((l.take q.1).filter fun p=>decide (p.on=t)).length+1:Nat):Int)),(7,.i .i64 q.1)],(m,.bx [.i .i64 6,.i .i64 0,.s ⟨#[]⟩,.ds (mapC valC I),.ds (stC K)])::hp,q.2⟩)
   (fun q=>q.1≤l.length∧m+1≤q.2) (fun q=>l.length - q.1) (0,m+1) ?_ ?_ (fun ⟨j,n⟩ hj=>?_)
  .simp
  .refine weak_ok ?_ (Sub.cons ?_ (Sub.base hf ?_)) (zna _)
   all_goals (simp (disch:=omega) only [ite_ne,go_sem,↓reduceIte,Za,Zb,Zc,Zd,Ze,reduceCtorEq,Zf,Zg,Zh,Zi,Zj,Zk])
   all_goals rfl
  dsimp only at hj
  obtain ⟨hj1,hj2⟩:=hj
  have hmn:m≤n:=by omega
  dsimp only
  obtain ⟨k,hk⟩:∃k,((l.take j).filter fun p=>decide (p.on=t)).length=k:=⟨_,rfl⟩
  rw [hk]
  simp (disch:=omega) only [ite_ne,hmn,go_sem,↓reduceIte,Za,Zb,Zc,Zd,Ze,reduceCtorEq,Zf,Zg,Zh,Zi,Zj,Zk]
  refine cdK_of (fun q=>?_) (fun q=>?_)
  .have q:j<l.length:=by simpa using q
   obtain ⟨p,ep⟩:∃p,l[j]?=some p:=⟨l[j],by simp [q]⟩
   have hpm:=zla ep
   have k4:l.length - (j+1)<l.length - j:=by omega
   have hst:=filt_step (q:=fun p:Pk=>decide (p.on=t)) ep
   rw [hk] at hst
   simp (disch:=omega) only [ite_ne,q,getK_s (mapC_get pkC ep),getK_s e0,e0,hmn,n1,z9,go_sem,↓reduceIte,Za,Zb,Zc,Zd,Ze,reduceCtorEq,Zf,Zg,Zh,Zi,Zj,Zk]
   refine cdK_of (fun c=>?_) (fun c=>?_)
   .have c:¬p.on=t:=by simpa using c
    rw [if_neg (by simpa using c),Nat.add_zero] at hst
    simp (disch:=omega) only [ite_ne,hmn,go_sem,↓reduceIte,Za,Zb,Zc,Zd,Ze,reduceCtorEq,Zf,Zg,Zh,Zi,Zj,Zk]
    refine ⟨(j+1,_),⟨by dsimp only;omega,by dsimp only;omega⟩,k4,weak_ok ?_ (Sub.cons ?_ (Sub.base hf ?_)) (zna _)⟩
    all_goals
     simp (disch:=omega) only [ite_ne,wr64s j (by omega),hmn,hst,go_sem,↓reduceIte,Za,Zb,Zc,Zd,Ze,reduceCtorEq,Zf,Zg,Zh,Zi,Zj,Zk]
   .have c:p.on=t:=by simpa using c
    rw [if_pos (by simpa using c)] at hst
    have hfa:=filt_at (q:=fun p:Pk=>decide (p.on=t)) ep (by simpa using c)
    rw [hk] at hfa
    have hkF:k<F.length:=by
     rw [hFl]
     exact (List.getElem?_eq_some_iff.1 hfa).1
    obtain ⟨y,ey⟩:∃y,F[k]?=some y:=⟨F[k],by simp [hkF]⟩
    have hsh:=h2 k p y hfa ey
    have hyk:y.1=p.key:=by
     have a1:(F.map (·.1))[k]?=some y.1:=by rw [zlp,ey];rfl
     rw [h1,zlp,hfa] at a1
     simpa using a1.symm
    have eI:I[k+1]?=some y.2:=by rw [←hI,List.getElem?_cons_succ,zlp,ey];rfl
    have eK:(stC K)[k+1]?=some [.s p.key]:=by
     rw [←hK,←hyk]
     have a1:(F.map (·.1))[k]?=some y.1:=by rw [zlp,ey];rfl
     exact mapC_get st1 (l:=(⟨#[95,95,116]⟩:ByteArray)::F.map (·.1)) (j:=k+1) (by rw [List.getElem?_cons_succ];exact a1)
    have hym:=zla eI
    have hrec:=ih y.2 hym (hfx y.2 hym) p.picks (hpo p hpm).l (fun x hx=>(hpo p hpm).x hx) hsh
    have z1:(((F.length+1:Nat):Int)≤((k+1:Nat):Int))=False:=eq_false (by omega)
    have z2:(((k+1:Nat):Int)<((F.length+1:Nat):Int))=True:=eq_true (by omega)
    have z3:(k+1<F.length+1)=True:=eq_true (by omega)
    have e6:(mapC pkC l)[j]?=some [AV.s p.key,.s p.on,.s p.name,.ds (mapC argC p.args),.s p.tn,.ds (mapC in1 p.tw),.s p.label,.i .i64 p.initial,.ds (mapC pkC p.picks)]:=by rw [mapC_get pkC ep,pkC_eq]
    have e7:(mapC valC I)[k+1]?=some [.i .i64 y.2.k,.i .i64 y.2.n,.s y.2.s,.ds (mapC valC y.2.items),.ds (stC y.2.keys)]:=by rw [mapC_get valC eI,valC_eq]
    simp (disch:=omega) only [ite_ne,q,getK_s e6,e6,getK_s e7,e7,getK_s eK,eK,hmn,n1,n2,z1,z2,z3,false_and,or_false,go_sem,↓reduceIte,Za,Zb,Zc,Zd,Ze,reduceCtorEq,Zf,Zg,Zh,Zi,Zj,Zk]
    refine dCall.f (fun _ hp' e=>hrec _ _) ?_
    have w1:=wr64s (k+1) (by omega)
    have w2:=wr64s j (by omega)
    simp (disch:=omega) only [ite_ne,hmn,false_and,or_false,w1,w2,go_sem,↓reduceIte,Za,Zb,Zc,Zd,Ze,reduceCtorEq,Zf,Zg,Zh,Zi,Zj,Zk]
    refine ⟨(j+1,_),⟨by dsimp only;omega,by dsimp only;omega⟩,k4,weak_ok ?_ (Sub.cons ?_ (Sub.base hf ?_)) (zna _)⟩
    all_goals
     simp (disch:=omega) only [ite_ne,w1,w2,hmn,hst,go_sem,↓reduceIte,Za,Zb,Zc,Zd,Ze,reduceCtorEq,Zf,Zg,Zh,Zi,Zj,Zk]
  .have q:j=l.length:=by simp at q;omega
   subst q
   rw [List.take_length,←hFl] at hk
   subst hk
   simp (disch:=omega) only [ite_ne,hmn,n2,n1,go_sem,↓reduceIte,Za,Zb,Zc,Zd,Ze,reduceCtorEq,Zf,Zg,Zh,Zi,Zj,Zk]
theorem lawFields (s:Sup) (d:Dat) (p:Pln) (c:COk s d p) (hp:CH) (m:Nat):MeetsF Tryz.prog 6 hp m [casex s d p] (.b true):=by
 have h1:=few21_ok s d p c
 obtain ⟨x,hx⟩:∃x,few21 s d p=x:=⟨_,rfl⟩
 rw [hx] at h1
 cases x
 .refine meetsF Tryz.func6 (by kernel_rfl) cc6 cr6 rfl fun hf=>?_;unfold ck6
  simp (disch:=omega) only [ite_ne,go_sem,↓reduceIte,Za,Zb,Zc,Zd,Ze,reduceCtorEq,Zf,Zg,Zh,Zi,Zj,Zk]
  refine vcCall.f (h1 _ _) ?_
  simp (disch:=omega) only [ite_ne,go_sem,↓reduceIte,Za,Zb,Zc,Zd,Ze,reduceCtorEq,Zf,Zg,Zh,Zi,Zj,Zk]
  refine vcCall.f (know21_ok _ _) ?_
  simp (disch:=omega) only [ite_ne,go_sem,↓reduceIte,Za,Zb,Zc,Zd,Ze,reduceCtorEq,Zf,Zg,Zh,Zi,Zj,Zk]
 have hB:=few21_hB hx
 have hT:=tRun_ok s c.s d c.d p c.l c.p hB
 have hfit:=runV_fit s d p c.d c.l c.p hB
 have hsh:=shaped_ok _ hfit p.l c.l c.p (runV_shp s d p)
 have hk6:(runV s d p).1.k=6:=rfl
 obtain ⟨T,hTe⟩:∃T,(runV s d p).1=T:=⟨_,rfl⟩
 obtain ⟨E,hEe⟩:∃E,(runV s d p).2=E:=⟨_,rfl⟩
 rw [hTe] at hT hsh hk6
 rw [hEe] at hT
 have d6:decide (T.k=6)=true:=by simp [hk6]
 refine meetsF Tryz.func6 (by kernel_rfl) cc6 cr6 rfl fun hf=>?_;unfold ck6
 simp (disch:=omega) only [ite_ne,go_sem,↓reduceIte,Za,Zb,Zc,Zd,Ze,reduceCtorEq,Zf,Zg,Zh,Zi,Zj,Zk]
 refine vcCall.f (h1 _ _) ?_
 simp (disch:=omega) only [ite_ne,go_sem,↓reduceIte,Za,Zb,Zc,Zd,Ze,reduceCtorEq,Zf,Zg,Zh,Zi,Zj,Zk]
 refine vcCall.f (hT _ _) ?_
 simp (disch:=omega) only [ite_ne,d6,go_sem,↓reduceIte,Za,Zb,Zc,Zd,Ze,reduceCtorEq,Zf,Zg,Zh,Zi,Zj,Zk]
 refine gCall.f (fun _=>hsh _ _) ?_
 simp (disch:=omega) only [ite_ne,d6,go_sem,↓reduceIte,Za,Zb,Zc,Zd,Ze,reduceCtorEq,Zf,Zg,Zh,Zi,Zj,Zk]
 refine gCall.f (fun _=>know21_ok _ _) ?_
 simp (disch:=omega) only [ite_ne,d6,go_sem,↓reduceIte,Za,Zb,Zc,Zd,Ze,reduceCtorEq,Zf,Zg,Zh,Zi,Zj,Zk]
open Go.ChangeShapes Go.WideShapes Go.ChangeAt Go.RowKit
theorem ifld_law (αs:List AV) (h:ASs Tryz.prog [38] αs) (hw:avL αs≤1048576):MeetsF Tryz.prog 6 [] 0 αs (.b true):=by
 obtain ⟨α1,rfl,h1⟩:=as_n1 h
 simp only [avL] at hw
 obtain ⟨s,d,p,rfl,c⟩:=reads_case21 h1 (by omega)
 exact lawFields s d p c [] 0
set_option maxRecDepth 100000 in
theorem ifld_lifted (os:Os) (started:os.Started) (H:Type) (enc:TypeId × Value→H) (F:Stop.Interp) :
  ReturnsInHanded {} Tryz.checked os 6 .any ((Rows.OpenSpec.upto Rows.idealFieldsSpec).preRow enc Tryz.prog Tryz.f6 Rows.idealFieldsUptoRow.domain false Rows.idealFieldsUptoRow.laid) (((Rows.OpenSpec.upto Rows.idealFieldsSpec).at F).post enc Tryz.prog Tryz.f6 false true false false):=by
 have hx:DataW.whole enc Tryz.prog ((laidWorld os).forCall (fun _ _=>0) ⟨#[],#[case0],[]⟩).memory Tryz.f6.params.toList Rows.idealFieldsSpec.vars false #[case0].toList 8=some ([.agg [.agg [.nil,.agg [.nil],.nil,.nil],.agg [.nil,.nil],.agg [.lit (.int .i64 0),.nil]]],[],[]):=by kernel_rfl
 refine returnsInHanded_of_row (C:=Tryz.checked) (s:=Rows.OpenSpec.upto Rows.idealFieldsSpec) own started (by kernel_rfl) Tryz.func6
  (witness_row_at (enc:=enc) (C:=Tryz.checked) false (laidWorld os) #[case0] rfl (by kernel_rfl) (by kernel_rfl) (by kernel_rfl)
   (OpenSpec.preRow_of_cond 8 hx (by kernel_rfl) (fun k hk=>by cases hk;kernel_rfl) (by kernel_rfl) (laid_met os _))) ?_
 intro W base args ds gs before hval hW hc1 hc2 hc3 hL _ _
 have hg:gs=[]:=by
  obtain ⟨p,q,hA,hV,_⟩:=hW
  exact (ChangeShapes.trodVars_none hV).1
 subst hg
 have hk:Rows.uptoBulkAll ds≤1048576:=by first | (simpa [Rows.uptoSmall] using hc1 _ rfl) | (simpa [Rows.uptoSmall] using hc2 _ rfl)
 refine law_core (s:=Rows.idealFieldsSpec) (tb:=4) kids sized ?_ rfl (fun ds hl=>?_) rfl Tryz.underlying4 (m:=fun αs h hb=>ifld_law αs h (Nat.le_trans hb hk)) hval hW (pow10_laid hL)
 .exact par_lt (by kernel_rfl)
 .obtain ⟨d1,rfl⟩:=ds_n1 (show ds.length=1 from hl)
  exact ⟨rfl,rfl,rfl⟩
theorem ifld_said:Rows.IdealFieldsUptoSaid :=
 OpenClaim.holds_of_cond 6 Tryz.f6 rfl rfl rfl rfl rfl rfl rfl ⟨rfl,rfl,rfl,rfl,rfl⟩ rfl rfl rfl rfl rfl (by kernel_rfl) Tryz.func6 (by kernel_rfl)
  (of_decide_eq_true (by kernel_rfl)) (by unfold Func.isWrapper;first | (rw [if_pos (by decide +kernel)];kernel_rfl) | (rw [if_neg (by decide +kernel)];exact ⟨rfl,rfl⟩))
  (fun os started H enc _ F=>by rw [OpenClaim.pre_eq_preRow];exact ifld_lifted os started H enc F)
theorem ifld_plain (f:FuncId) (fn:Func) (hf:Tryz.pinned.checked.prog.funcNamed Rows.idealFieldsUptoRow.func=some f) (hfn:Tryz.pinned.checked.prog.funcs[f]?=some fn) :
  false=Tryz.pinned.checked.prog.looks []∧∀(j:Nat) t,fn.params[j]?=some t→Tryz.pinned.checked.prog.wantsStandIn t=false:=by
 obtain rfl:f=6:=Option.some.inj ((show Tryz.prog.funcNamed Rows.idealFieldsUptoRow.func=some 6 by kernel_rfl).symm.trans hf) |>.symm
 obtain rfl:fn=Tryz.f6:=(Option.some.inj (Tryz.func6.symm.trans hfn)).symm
 refine ⟨by kernel_rfl,fun j t ht=>?_⟩
 have key:∀t∈Tryz.f6.params.toList,Tryz.prog.wantsStandIn t=false:=by
  have key:(Tryz.f6.params.toList.all fun t=>!Tryz.prog.wantsStandIn t)=true:=by kernel_rfl
  intro t ht;simpa using List.all_eq_true.1 key t ht
 exact key t (Array.mem_toList_iff.2 (Array.mem_of_getElem? ht))
theorem ifld_holds:Rows.IdealFieldsUptoCardSaid :=
 Claim7.holds_tied_plain_at .later [] _ _ _ _ ifld_said (fun _ h=>by cases h) (by kernel_rfl) (fun _ h=>by cases h) idealFieldsUpto_row_tie rfl ⟨rfl,rfl⟩ (by kernel_rfl) rfl ifld_plain (by kernel_rfl)
end Go.Proofs.YthiifoleopdieaaGreatDoor
