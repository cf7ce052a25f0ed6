/- Proof. Conditions: none. -/
import Derived.Test.YthiifoleopdieaaGreatDoorIz53
open Nat renaming reduceEqDiff→Za,reduceBEq→Zb,reduceAdd→Zc,reduceLeDiff→Zd,reduceLT→Ze,reduceMul→Zf,reduceSub→Zg
open Int renaming reduceEq→Zh,reduceLT→Zi,reduceLE→Zj,reduceToNat→Zk
open List renaming take_length→zlj
open Nat renaming le_refl→zna
namespace Go.Proofs.YthiifoleopdieaaGreatDoor
open Go.Eng
set_option linter.all false
set_option maxRecDepth 20000
set_option maxHeartbeats 4000000
theorem rSer_ok (s:Sup) (hs:SOk s) (d:Dat) {B:Nat} (hd:DOk d B) (p:Pln) (hl:p.l.length≤1048576) (hpo:∀x∈p.l,x.Ok) (hfp:∀x∈p.l,x.Fit) (hB:B+p.l.length*d.w.length≤100000000000) (hp:CH) (m:Nat) :
  MeetsF Tryz.prog 25 hp m [supx s,dx d,plx p] (.tp [vx (serV s d p).1,dx (serV s d p).2]):=by
 rw [serV]
 by_cases h0:p.l.length=0
 .rw [if_pos h0]
  have hT:=rRun_ok s hs d hd p hl hpo (fun _=>hB)
  have z0:((p.l.length:Int)=0)=True:=eq_true (by omega)
  obtain ⟨T,hTe⟩:∃T,(runV s d p).1=T:=⟨_,rfl⟩
  obtain ⟨E,hEe⟩:∃E,(runV s d p).2=E:=⟨_,rfl⟩
  rw [hTe,hEe] at hT ⊢
  refine meetsF Tryz.func25 (by kernel_rfl) cc925 cr925 rfl fun hf=>?_;unfold ck925
  simp (disch:=omega) only [ite_ne,z0,decide_true,go_sem,↓reduceIte,Za,Zb,Zc,Zd,Ze,reduceCtorEq,Zf,Zg,Zh,Zi,Zj,Zk]
  refine vcCall.f (hT _ _) ?_
  simp (disch:=omega) only [ite_ne,go_sem,↓reduceIte,Za,Zb,Zc,Zd,Ze,reduceCtorEq,Zf,Zg,Zh,Zi,Zj,Zk]
 rw [if_neg h0]
 dsimp only
 have hinv:=serL_inv s p.k d p.l hd hpo hB
 have hsp:=rSplit_ok p (by omega)
 have hCl:=rCloneF_ok d hd.f.f hd.f.w
 have hsl:=splitP_len p
 have hstep:=fun j x (h:p.l[j]?=some x)=>serL_step (s:=s) (k:=p.k) (d:=d) h
 obtain ⟨-,-,l1,l2,l3⟩:=hinv p.l.length (zna _)
 rw [zlj] at l1 l2 l3
 obtain ⟨R,hR⟩:∃R,serL s p.k d p.l=R:=⟨_,rfl⟩
 rw [hR] at l1 l2 l3 ⊢
 have hJ:=rJoin_ok R.1 (by omega) l2 (by omega)
 obtain ⟨J,hJe⟩:∃J,joinV R.1=J:=⟨_,rfl⟩
 rw [hJe] at hJ ⊢
 have z0:((p.l.length:Int)=0)=False:=eq_false (by omega)
 refine meetsF Tryz.func25 (by kernel_rfl) cc925 cr925 rfl fun hf=>?_;unfold ck925
 simp (disch:=omega) only [ite_ne,z0,decide_false,go_sem,↓reduceIte,Za,Zb,Zc,Zd,Ze,reduceCtorEq,Zf,Zg,Zh,Zi,Zj,Zk]
 refine vcCall.f (hsp _ _) ?_
 simp (disch:=omega) only [ite_ne,go_sem,↓reduceIte,Za,Zb,Zc,Zd,Ze,reduceCtorEq,Zf,Zg,Zh,Zi,Zj,Zk]
 refine vcCall.f (hCl _ _) ?_
 simp (disch:=omega) only [ite_ne,hsl,go_sem,↓reduceIte,Za,Zb,Zc,Zd,Ze,reduceCtorEq,Zf,Zg,Zh,Zi,Zj,Zk]
 refine loop (fun q:Nat × List Val × Dat × Nat=>⟨[(3,.bx m 0),(6,.bx (m+3) 0),(7,.bx (m+4) 0),(8,.ds (mapC plC (splitP p))),(9,.rw (m+6) q.2.1.length q.2.1.length),(10,.bx (m+5) 0),(11,.i .i64 q.1)],
   (m,.bx [.ds (stC s.g),.ds (mapC dfC s.doc),.ds (mapC kyC s.keys),.ds (mapC jnC s.joins)])::(m+5,.bx [.ds (mapC itC q.2.2.1.i),.ds (mapC wrC q.2.2.1.w)])::(m+3,.bx [.i .i64 0,.i .i64 0,.s ⟨#[]⟩,.e0,.e0])::(m+4,.bx [.e0,.e0])::(m+6,.rw q.2.1.length 5 (mapC valC q.2.1))::hp,q.2.2.2⟩)
  (fun q=>q.1≤p.l.length∧m+7≤q.2.2.2∧(q.2.1,q.2.2.1)=serL s p.k d (p.l.take q.1)) (fun q=>p.l.length - q.1) (0,[],d,m+7) ?_ ?_ (fun ⟨j,F,D,n⟩ hj=>?_)
 .exact ⟨by simp,by simp,by dsimp only;rw [List.take_zero];rfl⟩
 .refine (weak_e0 (t:=9) (m:=5) ?_).trans (weak_ok ?_ (Sub.cons ?_ (Sub.cons ?_ (Sub.cons ?_ (Sub.cons ?_ (Sub.cons ?_ (Sub.base hf ?_)))))) (zna _))
  all_goals (simp (disch:=omega) only [ite_ne,go_sem,↓reduceIte,Za,Zb,Zc,Zd,Ze,reduceCtorEq,Zf,Zg,Zh,Zi,Zj,Zk])
  all_goals rfl
 dsimp only at hj
 obtain ⟨hj1,hj2,hj3⟩:=hj
 have hmn:m≤n:=by omega
 obtain ⟨i1,i2,i3,i4,i5⟩:=hinv j hj1
 rw [←hj3] at i1 i2 i3
 dsimp only at i1 i2 i3
 simp (disch:=omega) only [ite_ne,hsl,go_sem,↓reduceIte,Za,Zb,Zc,Zd,Ze,reduceCtorEq,Zf,Zg,Zh,Zi,Zj,Zk]
 refine cdK_of (fun q=>?_) (fun q=>?_)
 .have q:j<p.l.length:=by simpa using q
  obtain ⟨x,ex⟩:∃x,p.l[j]?=some x:=⟨p.l[j],by simp [q]⟩
  have hxo:=hpo x (List.mem_of_getElem? ex)
  have hst:=hstep j x ex
  rw [←hj3,serS] at hst
  dsimp only at hst
  have hm:(j+1)*d.w.length≤p.l.length*d.w.length:=Nat.mul_le_mul_right _ q
  rw [Nat.add_mul,Nat.one_mul] at hm
  have h3:=rRun_ok s hs D i2 (.mk p.k [x]) (by simp [Pln.l_mk]) (by simp [Pln.l_mk,hxo]) (fun _=>by rw [i1];simp only [Pln.l_mk,List.length_cons,List.length_nil];omega)
  obtain ⟨T,hT⟩:∃T,(runV s D (.mk p.k [x])).1=T:=⟨_,rfl⟩
  obtain ⟨E,hE⟩:∃E,(runV s D (.mk p.k [x])).2=E:=⟨_,rfl⟩
  rw [hT] at h3 hst
  rw [hE] at h3 hst
  have e1:mapC pkC [x]=[[AV.s x.key,.s x.on,.s x.name,.ds (mapC argC x.args),.s x.tn,.ds (mapC in1 x.tw),.s x.label,.i .i64 x.initial,.ds (mapC pkC x.picks)]]:=by rw [mapC_cons,mapC_nil,pkC_eq]
  have e2:plx (.mk p.k [x])=.ag [.i .i64 p.k,.ds [[AV.s x.key,.s x.on,.s x.name,.ds (mapC argC x.args),.s x.tn,.ds (mapC in1 x.tw),.s x.label,.i .i64 x.initial,.ds (mapC pkC x.picks)]]]:=by rw [←e1];rfl
  rw [e2] at h3
  have e3:(mapC plC (splitP p))[j]?=some [.i .i64 p.k,.ds [[AV.s x.key,.s x.on,.s x.name,.ds (mapC argC x.args),.s x.tn,.ds (mapC in1 x.tw),.s x.label,.i .i64 x.initial,.ds (mapC pkC x.picks)]]]:=by
   rw [←e1]
   have e4:(splitP p)[j]?=some (.mk p.k [x]):=by rw [splitP,List.getElem?_map,ex];rfl
   exact mapC_get plC e4
  have k1:(F.length+1)*80≤140737488355328:=by omega
  have k3:F.length+1≤9223372036854775807:=by omega
  have k4:p.l.length - (j+1)<p.l.length - j:=by omega
  simp (disch:=omega) only [ite_ne,q,hsl,getK_s e3,e3,hmn,go_sem,↓reduceIte,Za,Zb,Zc,Zd,Ze,reduceCtorEq,Zf,Zg,Zh,Zi,Zj,Zk]
  refine dCallR.f (fun _ hp' e=>h3 _ _) ?_
  have y1:(n+5=m)=False:=eq_false (by omega)
  have y2:(n+10=m)=False:=eq_false (by omega)
  have y3:(n+11=m)=False:=eq_false (by omega)
  have y4:(n+6=m)=False:=eq_false (by omega)
  simp (disch:=omega) only [ite_ne,k1,k3,hmn,y1,y2,y3,y4,not_false_eq_true,true_and,false_implies,go_sem,↓reduceIte,Za,Zb,Zc,Zd,Ze,reduceCtorEq,Zf,Zg,Zh,Zi,Zj,Zk]
  refine ⟨(j+1,F++[T],E,_),⟨by dsimp only;omega,by dsimp only;omega,hst.symm⟩,k4,weak_ok ?_ (Sub.cons ?_ (Sub.cons ?_ (Sub.cons ?_ (Sub.cons ?_ (Sub.cons ?_ (Sub.base hf ?_)))))) (zna _)⟩
  all_goals
   simp (disch:=omega) only [ite_ne,wr64s j (by omega),hmn,List.length_append,List.length_cons,List.length_nil,go_sem,↓reduceIte,Za,Zb,Zc,Zd,Ze,reduceCtorEq,Zf,Zg,Zh,Zi,Zj,Zk]
 .have q:j=p.l.length:=by simp at q;omega
  subst q
  rw [zlj,hR] at hj3
  subst hj3
  have hl4:F.take F.length=F:=zlj
  dsimp only at hJ
  have hl5:List.take F.length (mapC valC F)=mapC valC F:=List.take_of_length_le (by simp [mapC])
  simp (disch:=omega) only [ite_ne,hmn,go_sem,↓reduceIte,Za,Zb,Zc,Zd,Ze,reduceCtorEq,Zf,Zg,Zh,Zi,Zj,Zk]
  refine wk_of (s':=⟨[(3,.bx m 0),(6,.bx (m+3) 0),(7,.bx (m+4) 0),(9,.ds (mapC valC F)),(10,.bx (m+5) 0)],
   (m,.bx [.ds (stC s.g),.ds (mapC dfC s.doc),.ds (mapC kyC s.keys),.ds (mapC jnC s.joins)])::(m+5,.bx [.ds (mapC itC D.i),.ds (mapC wrC D.w)])::(m+3,.bx [.i .i64 0,.i .i64 0,.s ⟨#[]⟩,.e0,.e0])::(m+4,.bx [.e0,.e0])::hp,n⟩)
   ((weak_sh (t:=9) (k:=m+6) (g:=F.length) (len:=F.length) (m:=5) (l:=mapC valC F) (by (simp (disch:=omega) only [ite_ne,go_sem,↓reduceIte,Za,Zb,Zc,Zd,Ze,reduceCtorEq,Zf,Zg,Zh,Zi,Zj,Zk])) (by (simp (disch:=omega) only [ite_ne,go_sem,↓reduceIte,Za,Zb,Zc,Zd,Ze,reduceCtorEq,Zf,Zg,Zh,Zi,Zj,Zk])) (by simp [mapC])).trans
   (weak_ok ?_ (Sub.cons ?_ (Sub.cons ?_ (Sub.cons ?_ (Sub.cons ?_ (Sub.base hf ?_))))) (zna _))) ?_
  all_goals first | ((simp (disch:=omega) only [ite_ne,hl5,hmn,go_sem,↓reduceIte,Za,Zb,Zc,Zd,Ze,reduceCtorEq,Zf,Zg,Zh,Zi,Zj,Zk]);done) | skip
  simp (disch:=omega) only [ite_ne,go_sem,↓reduceIte,Za,Zb,Zc,Zd,Ze,reduceCtorEq,Zf,Zg,Zh,Zi,Zj,Zk]
  refine dCallR.f (fun _ hp' e=>hJ _ _) ?_
  simp (disch:=omega) only [ite_ne,hmn,go_sem,↓reduceIte,Za,Zb,Zc,Zd,Ze,reduceCtorEq,Zf,Zg,Zh,Zi,Zj,Zk]
set_option maxHeartbeats 2000000
theorem few39_hB {s:Sup} {d:Dat} {p:Pln} (h:few39 s d p=true):1048576+p.l.length*d.w.length≤100000000000∧p.l.length≤20:=by
 simp only [few39,Bool.and_eq_true,decide_eq_true_eq] at h
 obtain ⟨⟨_,h1⟩,h2⟩:=h
 have:p.l.length*d.w.length≤20*20:=Nat.mul_le_mul (by omega) (by omega)
 omega
theorem serV_fit (s:Sup) (d:Dat) (p:Pln) (c:COk s d p) (h:1048576+p.l.length*d.w.length≤100000000000) (hjf:∀l:List Val,l.length≤1048576→(∀v∈l,v.Fit)→szJ l≤2097152→(joinV l).Fit):(serV s d p).1.Fit∧(serV s d p).2.Fit:=by
 unfold serV
 have hl:=c.l
 split
 .exact ⟨runV_fit s d p c.d c.l c.p (fun _=>h),(runV_dok s d p c.d (fun _=>h)).f.f⟩
 .obtain ⟨h1,h2,h3,h4,h5⟩:=serL_inv s p.k d p.l c.d c.p h p.l.length (zna _)
  rw [zlj] at h1 h2 h3 h4 h5
  exact ⟨hjf _ (by omega) h4 (by omega),h2.f.f⟩
theorem lawSerRun (s:Sup) (d:Dat) (p:Pln) (c:COk s d p) (hfp:∀x∈p.l,x.Fit) (hjf:∀l:List Val,l.length≤1048576→(∀v∈l,v.Fit)→szJ l≤2097152→(joinV l).Fit) (hp:CH) (m:Nat):MeetsF Tryz.prog 8 hp m [casex s d p] (.b true):=by
 have h1:=few39_ok s d p c
 obtain ⟨x,hx⟩:∃x,few39 s d p=x:=⟨_,rfl⟩
 rw [hx] at h1
 cases x
 .refine meetsF Tryz.func8 (by kernel_rfl) cc8 cr8 rfl fun hf=>?_;unfold ck8
  simp (disch:=omega) only [ite_ne,go_sem,↓reduceIte,Za,Zb,Zc,Zd,Ze,reduceCtorEq,Zf,Zg,Zh,Zi,Zj,Zk]
  refine vcCall.f (h1 _ _) ?_
  simp (disch:=omega) only [ite_ne,go_sem,↓reduceIte,Za,Zb,Zc,Zd,Ze,reduceCtorEq,Zf,Zg,Zh,Zi,Zj,Zk]
  refine vcCall.f (knows_ok _ _) ?_
  simp (disch:=omega) only [ite_ne,go_sem,↓reduceIte,Za,Zb,Zc,Zd,Ze,reduceCtorEq,Zf,Zg,Zh,Zi,Zj,Zk]
 obtain ⟨hB,-⟩:=few39_hB hx
 have hT:=sRun_ok s c.s d c.d p c.l c.p hfp hB
 have hR:=rSer_ok s c.s d c.d p c.l c.p hfp hB
 obtain ⟨hfit,hdok⟩:=serV_fit s d p c hB hjf
 obtain ⟨T,hTe⟩:∃T,(serV s d p).1=T:=⟨_,rfl⟩
 obtain ⟨E,hEe⟩:∃E,(serV s d p).2=E:=⟨_,rfl⟩
 rw [hTe] at hT hR hfit
 rw [hEe] at hT hR hdok
 have h4:=same_ok T T hfit hfit
 rw [decide_eq_true (cmpV_refl _)] at h4
 have h5:=rsameD_eq E hdok
 refine meetsF Tryz.func8 (by kernel_rfl) cc8 cr8 rfl fun hf=>?_;unfold ck8
 simp (disch:=omega) only [ite_ne,go_sem,↓reduceIte,Za,Zb,Zc,Zd,Ze,reduceCtorEq,Zf,Zg,Zh,Zi,Zj,Zk]
 refine vcCall.f (h1 _ _) ?_
 simp (disch:=omega) only [ite_ne,go_sem,↓reduceIte,Za,Zb,Zc,Zd,Ze,reduceCtorEq,Zf,Zg,Zh,Zi,Zj,Zk]
 refine vcCall.f (hT _ _) ?_
 simp (disch:=omega) only [ite_ne,go_sem,↓reduceIte,Za,Zb,Zc,Zd,Ze,reduceCtorEq,Zf,Zg,Zh,Zi,Zj,Zk]
 refine vcCall.f (hR _ _) ?_
 simp (disch:=omega) only [ite_ne,go_sem,↓reduceIte,Za,Zb,Zc,Zd,Ze,reduceCtorEq,Zf,Zg,Zh,Zi,Zj,Zk]
 refine vcCall.f (h4 _ _) ?_
 simp (disch:=omega) only [ite_ne,go_sem,↓reduceIte,Za,Zb,Zc,Zd,Ze,reduceCtorEq,Zf,Zg,Zh,Zi,Zj,Zk]
 refine gCall.f (fun _=>h5 _ _) ?_
 simp (disch:=omega) only [ite_ne,go_sem,↓reduceIte,Za,Zb,Zc,Zd,Ze,reduceCtorEq,Zf,Zg,Zh,Zi,Zj,Zk]
 refine gCall.f (fun _=>knows_ok _ _) ?_
 simp (disch:=omega) only [ite_ne,go_sem,↓reduceIte,Za,Zb,Zc,Zd,Ze,reduceCtorEq,Zf,Zg,Zh,Zi,Zj,Zk]
open Go.ChangeShapes Go.WideShapes Go.ChangeAt Go.RowKit
theorem srun_law (αs:List AV) (h:ASs Tryz.prog [59] αs) (hw:avL αs≤1048576):MeetsF Tryz.prog 8 [] 0 αs (.b true):=by
 obtain ⟨α1,rfl,h1⟩:=as_n1 h
 simp only [avL] at hw
 obtain ⟨s,d,p,rfl,c⟩:=reads_case39 h1 (by omega)
 exact lawSerRun s d p c (case_fit c (by omega)) (fun l _ hv hz=>join_fit hv (by omega)) [] 0
set_option maxRecDepth 100000 in
theorem srun_lifted (os:Os) (started:os.Started) (H:Type) (enc:TypeId × Value→H) (F:Stop.Interp) :
  ReturnsInHanded {} Tryz.checked os 8 .any ((Rows.OpenSpec.upto Rows.serialRunSpec).preRow enc Tryz.prog Tryz.f8 Rows.serialRunUptoRow.domain false Rows.serialRunUptoRow.laid) (((Rows.OpenSpec.upto Rows.serialRunSpec).at F).post enc Tryz.prog Tryz.f8 false true false false):=by
 have hx:DataW.whole enc Tryz.prog ((laidWorld os).forCall (fun _ _=>0) ⟨#[],#[case0],[]⟩).memory Tryz.f8.params.toList Rows.serialRunSpec.vars false #[case0].toList 8=some ([.agg [.agg [.nil,.agg [.nil],.nil,.nil],.agg [.nil,.nil],.agg [.lit (.int .i64 0),.nil]]],[],[]):=by kernel_rfl
 refine returnsInHanded_of_row (C:=Tryz.checked) (s:=Rows.OpenSpec.upto Rows.serialRunSpec) own started (by kernel_rfl) Tryz.func8
  (witness_row_at (enc:=enc) (C:=Tryz.checked) false (laidWorld os) #[case0] rfl (by kernel_rfl) (by kernel_rfl) (by kernel_rfl)
   (OpenSpec.preRow_of_cond 8 hx (by kernel_rfl) (fun k hk=>by cases hk;kernel_rfl) (by kernel_rfl) (laid_met os _))) ?_
 intro W base args ds gs before hval hW hc1 hc2 hc3 hL _ _
 have hg:gs=[]:=by
  obtain ⟨p,q,hA,hV,_⟩:=hW
  exact (ChangeShapes.trodVars_none hV).1
 subst hg
 have hk:Rows.uptoBulkAll ds≤1048576:=by first | (simpa [Rows.uptoSmall] using hc1 _ rfl) | (simpa [Rows.uptoSmall] using hc2 _ rfl)
 refine law_core (s:=Rows.serialRunSpec) (tb:=4) kids sized ?_ rfl (fun ds hl=>?_) rfl Tryz.underlying4 (m:=fun αs h hb=>srun_law αs h (Nat.le_trans hb hk)) hval hW (pow10_laid hL)
 .exact par_lt (by kernel_rfl)
 .obtain ⟨d1,rfl⟩:=ds_n1 (show ds.length=1 from hl)
  exact ⟨rfl,rfl,rfl⟩
theorem srun_said:Rows.SerialRunUptoSaid :=
 OpenClaim.holds_of_cond 8 Tryz.f8 rfl rfl rfl rfl rfl rfl rfl ⟨rfl,rfl,rfl,rfl,rfl⟩ rfl rfl rfl rfl rfl (by kernel_rfl) Tryz.func8 (by kernel_rfl)
  (of_decide_eq_true (by kernel_rfl)) (by unfold Func.isWrapper;first | (rw [if_pos (by decide +kernel)];kernel_rfl) | (rw [if_neg (by decide +kernel)];exact ⟨rfl,rfl⟩))
  (fun os started H enc _ F=>by rw [OpenClaim.pre_eq_preRow];exact srun_lifted os started H enc F)
theorem srun_plain (f:FuncId) (fn:Func) (hf:Tryz.pinned.checked.prog.funcNamed Rows.serialRunUptoRow.func=some f) (hfn:Tryz.pinned.checked.prog.funcs[f]?=some fn) :
  false=Tryz.pinned.checked.prog.looks []∧∀(j:Nat) t,fn.params[j]?=some t→Tryz.pinned.checked.prog.wantsStandIn t=false:=by
 obtain rfl:f=8:=Option.some.inj ((show Tryz.prog.funcNamed Rows.serialRunUptoRow.func=some 8 by kernel_rfl).symm.trans hf) |>.symm
 obtain rfl:fn=Tryz.f8:=(Option.some.inj (Tryz.func8.symm.trans hfn)).symm
 refine ⟨by kernel_rfl,fun j t ht=>?_⟩
 have key:∀t∈Tryz.f8.params.toList,Tryz.prog.wantsStandIn t=false:=by
  have key:(Tryz.f8.params.toList.all fun t=>!Tryz.prog.wantsStandIn t)=true:=by kernel_rfl
  intro t ht;simpa using List.all_eq_true.1 key t ht
 exact key t (Array.mem_toList_iff.2 (Array.mem_of_getElem? ht))
theorem srun_holds:Rows.SerialRunUptoCardSaid :=
 Claim7.holds_tied_plain_at .later [] _ _ _ _ srun_said (fun _ h=>by cases h) (by kernel_rfl) (fun _ h=>by cases h) serialRunUpto_row_tie rfl ⟨rfl,rfl⟩ (by kernel_rfl) rfl srun_plain (by kernel_rfl)
end Go.Proofs.YthiifoleopdieaaGreatDoor
