/- Proof. Conditions: none. -/
import Derived.Test.YtinbodeocoeneaaGreatDoorIe53
open Nat renaming reduceEqDiff→Za,reduceBEq→Zb,reduceAdd→Zc,reduceLeDiff→Zd,reduceLT→Ze,reduceMul→Zf,reduceSub→Zg
open Int renaming reduceEq→Zh,reduceLT→Zi,reduceLE→Zj,reduceToNat→Zk
open Nat renaming le_refl→zna
namespace Go.Proofs.YtinbodeocoeneaaGreatDoor
open Go.Eng
set_option linter.all false
set_option maxRecDepth 20000
set_option maxHeartbeats 2000000
theorem left_len {l:List Pk} (h:¬leftN 6 l 60<0):l.length≤60:=by
 rw [leftN] at h
 have:=leftF_le (leftN_le 5) l (60 - (l.length:Int))
 omega
theorem bulkB_len {g:List Dfn} {s:Sup} {d:Dat} {l:List Pk} (h:bulkB g s d l=false):l.length≤60:=by
 refine left_len fun q=>?_
 unfold bulkB at h
 rw [Bool.or_eq_false_iff] at h
 simp [q] at h
theorem lawRoots (gn:ByteArray) (g:List Dfn) (s:Sup) (d:Dat) (c:GOk g s d) (kd:Int) (l:List Pk) (hl:l.length≤1048576) (hpo:∀x∈l,x.Ok) (hp:CH) (m:Nat):MeetsF Tryz.prog 8 hp m [casegx gn g s d,.i .i64 kd,.ds (mapC pkC l)] (.b true):=by
 have h1:=bulky_ok gn g s d c l hl hpo
 obtain ⟨b,hb⟩:∃b,bulkB g s d l=b:=⟨_,rfl⟩
 rw [hb] at h1
 cases b with
 | true =>
  refine meetsF Tryz.func8 (by kernel_rfl) cc8 cr8 rfl fun hf=>?_;unfold ck8
  simp only [go_sem,↓reduceIte,Za,Zb,Zc,Zd,Ze,reduceCtorEq,Zf,Zg,Zh,Zi,Zj,Zk]
  refine vcCall.f (h1 _ _) ?_
  simp only [go_sem,↓reduceIte,Za,Zb,Zc,Zd,Ze,reduceCtorEq,Zf,Zg,Zh,Zi,Zj,Zk]
  refine vcCall.f (exh34_ok _ _) ?_
  simp only [go_sem,↓reduceIte,Za,Zb,Zc,Zd,Ze,reduceCtorEq,Zf,Zg,Zh,Zi,Zj,Zk]
 | false =>
 have hlen:=bulkB_len hb
 have hB:kd=2→1048576+l.length*d.w.length≤100000000000:=fun _=>by
  have h2:=c.w
  have h3:l.length*d.w.length≤60*1048576:=Nat.mul_le_mul hlen h2
  omega
 have hV:=vRoot_ok gn g c.g c.gf s c.s d c.d kd l hl hpo hB
 have hG:=gRoot_ok gn g c.g c.gf s c.s d c.d kd l hl hpo hB
 have hfit:=sRunV_fit g s d kd l c.d hl hpo hB
 have hdok:=sRunV_dok g s d kd l c.d hB
 obtain ⟨RV,hRV⟩:∃RV,sRunV g s d kd l=RV:=⟨_,rfl⟩
 rw [hRV] at hV hG hfit hdok
 obtain ⟨V,D⟩:=RV
 dsimp only at hV hG hfit hdok
 have hS:=same_ok V V hfit hfit
 rw [decide_eq_true (cmpV_refl _)] at hS
 have hD:=rsameD_eq D hdok.f.f
 refine meetsF Tryz.func8 (by kernel_rfl) cc8 cr8 rfl fun hf=>?_;unfold ck8
 simp only [go_sem,↓reduceIte,Za,Zb,Zc,Zd,Ze,reduceCtorEq,Zf,Zg,Zh,Zi,Zj,Zk]
 refine vcCall.f (h1 _ _) ?_
 simp only [go_sem,↓reduceIte,Za,Zb,Zc,Zd,Ze,reduceCtorEq,Zf,Zg,Zh,Zi,Zj,Zk]
 refine vcCall.f (hV _ _) ?_
 simp only [go_sem,↓reduceIte,Za,Zb,Zc,Zd,Ze,reduceCtorEq,Zf,Zg,Zh,Zi,Zj,Zk]
 refine vcCall.f (hG _ _) ?_
 simp only [go_sem,↓reduceIte,Za,Zb,Zc,Zd,Ze,reduceCtorEq,Zf,Zg,Zh,Zi,Zj,Zk]
 refine vcCall.f (hS _ _) ?_
 simp only [go_sem,↓reduceIte,Za,Zb,Zc,Zd,Ze,reduceCtorEq,Zf,Zg,Zh,Zi,Zj,Zk]
 refine gCall.f (fun _=>hD _ _) ?_
 simp only [go_sem,↓reduceIte,Za,Zb,Zc,Zd,Ze,reduceCtorEq,Zf,Zg,Zh,Zi,Zj,Zk]
 refine gCall.f (fun _=>exh34_ok _ _) ?_
 simp only [go_sem,↓reduceIte,Za,Zb,Zc,Zd,Ze,reduceCtorEq,Zf,Zg,Zh,Zi,Zj,Zk]
theorem lawEnts (gn:ByteArray) (g:List Dfn) (s:Sup) (d:Dat) (c:GOk g s d) (F:Fet) (hk:F.keys.length≤1048576) (hl:F.picks.length≤1048576) (hpo:∀x∈F.picks,x.Ok) (l:List Val) (hll:l.length≤1048576) (hr:∀v∈l,VSm v) (hp:CH) (m:Nat) :
  MeetsF Tryz.prog 9 hp m [casegx gn g s d,fetx F,.ds (mapC valC l)] (.b true):=by
 have h1:=bulky_ok gn g s d c F.picks hl hpo
 obtain ⟨b,hb⟩:∃b,bulkB g s d F.picks=b:=⟨_,rfl⟩
 rw [hb] at h1
 have hV:=vEnts_ok gn g c.g c.gf s c.s d c.d F hk hl hpo l hll hr
 have hG:=gEnts_ok gn g c.g c.gf s c.s d c.d F hk hl hpo l hll hr
 have hfit:=fun r=>entV_fit (g:=g) (s:=s) c.d hl hpo F.typ F.keys F.key r
 obtain ⟨W,hW⟩:∃W,(fun r=>entV g s d F.typ F.keys F.key F.picks r)=W:=⟨_,rfl⟩
 have hfit:∀r,(W r).Fit:=by rw [←hW];exact hfit
 rw [hW] at hV hG
 have lW:(mapC valC (l.map W)).length=l.length:=by rw [mapC_len,List.length_map]
 have lW2:(l.map W).length=l.length:=List.length_map _
 have lkk:(stC F.keys).length=F.keys.length:=mapC_len _ _
 refine meetsF Tryz.func9 (by kernel_rfl) cc9 cr9 rfl fun hf=>?_;unfold ck9
 simp (disch:=omega) only [ite_ne,lkk,go_sem,↓reduceIte,Za,Zb,Zc,Zd,Ze,reduceCtorEq,Zf,Zg,Zh,Zi,Zj,Zk]
 refine vcCall.f (h1 _ _) ?_
 simp (disch:=omega) only [ite_ne,lkk,go_sem,↓reduceIte,Za,Zb,Zc,Zd,Ze,reduceCtorEq,Zf,Zg,Zh,Zi,Zj,Zk]
 refine cdK_of (fun q=>?_) (fun q=>?_)
 .simp only [go_sem,↓reduceIte,Za,Zb,Zc,Zd,Ze,reduceCtorEq,Zf,Zg,Zh,Zi,Zj,Zk]
  refine vcCall.f (exh34_ok _ _) ?_
  simp only [go_sem,↓reduceIte,Za,Zb,Zc,Zd,Ze,reduceCtorEq,Zf,Zg,Zh,Zi,Zj,Zk]
 simp only [go_sem,↓reduceIte,Za,Zb,Zc,Zd,Ze,reduceCtorEq,Zf,Zg,Zh,Zi,Zj,Zk]
 refine loop (fun q:Nat × Nat=>⟨[(2,.ds (mapC valC l)),(3,.bx m 0),(4,.bx (m+1) 0),(7,.i .i64 q.1)],
   (m,.bx [.s gn,.ds (mapC dfC g),.ds (stC s.g),.ds (mapC dfC s.doc),.ds (mapC kyC s.keys),.ds (mapC jnC s.joins),.ds (mapC itC d.i),.ds (mapC wrC d.w)])::(m+1,.bx [.i .i64 F.g,.i .i64 F.dep,.ds F.path,.s F.typ,.ds (stC F.keys),.i .i64 F.key,.ds (mapC pkC F.picks),.ds F.after])::hp,q.2⟩)
  (fun q=>q.1≤l.length∧m+2≤q.2) (fun q=>l.length - q.1) (0,m+2) ?_ ?_ (fun ⟨j,n⟩ hj=>?_)
 .simp
 .refine weak_ok ?_ (Sub.cons ?_ (Sub.cons ?_ (Sub.base hf ?_))) (zna _)
  all_goals (simp (disch:=omega) only [ite_ne,go_sem,↓reduceIte,Za,Zb,Zc,Zd,Ze,reduceCtorEq,Zf,Zg,Zh,Zi,Zj,Zk])
  all_goals rfl
 dsimp only at hj
 obtain ⟨hj1,hj2⟩:=hj
 have hmn:m≤n:=by omega
 simp (disch:=omega) only [ite_ne,go_sem,↓reduceIte,Za,Zb,Zc,Zd,Ze,reduceCtorEq,Zf,Zg,Zh,Zi,Zj,Zk]
 refine cdK_of (fun q=>?_) (fun q=>?_)
 .have q:j<l.length:=by simpa using q
  obtain ⟨x,ex⟩:∃x,l[j]?=some x:=⟨l[j],by simp [q]⟩
  have hz:=size_ok x (hr x (List.mem_of_getElem? ex)).f
  obtain ⟨z,hze⟩:∃z,szV x=z:=⟨_,rfl⟩
  rw [hze] at hz
  simp (disch:=omega) only [ite_ne,q,getK_s (mapC_get valC ex),go_sem,↓reduceIte,Za,Zb,Zc,Zd,Ze,reduceCtorEq,Zf,Zg,Zh,Zi,Zj,Zk]
  refine vcCall.f (hz _ _) ?_
  simp (disch:=omega) only [ite_ne,hmn,go_sem,↓reduceIte,Za,Zb,Zc,Zd,Ze,reduceCtorEq,Zf,Zg,Zh,Zi,Zj,Zk]
  refine cdK_of (fun c=>?_) (fun c=>?_)
  .simp (disch:=omega) only [ite_ne,hmn,go_sem,↓reduceIte,Za,Zb,Zc,Zd,Ze,reduceCtorEq,Zf,Zg,Zh,Zi,Zj,Zk]
   refine vcCall.f (exh34_ok _ _) ?_
   simp (disch:=omega) only [ite_ne,hmn,go_sem,↓reduceIte,Za,Zb,Zc,Zd,Ze,reduceCtorEq,Zf,Zg,Zh,Zi,Zj,Zk]
  .simp (disch:=omega) only [ite_ne,hmn,go_sem,↓reduceIte,Za,Zb,Zc,Zd,Ze,reduceCtorEq,Zf,Zg,Zh,Zi,Zj,Zk]
   refine ⟨(j+1,_),⟨by dsimp only;omega,by dsimp only;omega⟩,by dsimp only;omega,weak_ok ?_ (Sub.cons ?_ (Sub.cons ?_ (Sub.base hf ?_))) (zna _)⟩
   all_goals
    simp (disch:=omega) only [ite_ne,wr64s j (by omega),hmn,go_sem,↓reduceIte,Za,Zb,Zc,Zd,Ze,reduceCtorEq,Zf,Zg,Zh,Zi,Zj,Zk]
 simp (disch:=omega) only [ite_ne,hmn,go_sem,↓reduceIte,Za,Zb,Zc,Zd,Ze,reduceCtorEq,Zf,Zg,Zh,Zi,Zj,Zk]
 refine dCallR.f (fun _ _ _=>hV _ _) ?_
 simp (disch:=omega) only [ite_ne,hmn,go_sem,↓reduceIte,Za,Zb,Zc,Zd,Ze,reduceCtorEq,Zf,Zg,Zh,Zi,Zj,Zk]
 refine dCallR.f (fun _ _ _=>hG _ _) ?_
 simp (disch:=omega) only [ite_ne,hmn,lW2,go_sem,↓reduceIte,Za,Zb,Zc,Zd,Ze,reduceCtorEq,Zf,Zg,Zh,Zi,Zj,Zk]
 refine loop (fun q:Nat × Nat=>⟨[(8,.ds (mapC valC (l.map W))),(9,.ds (mapC valC (l.map W))),(10,.i .i64 q.1)],hp,q.2⟩)
  (fun q=>q.1≤l.length∧n≤q.2) (fun q=>l.length - q.1) (0,n+20) ?_ ?_ (fun ⟨j2,n2⟩ hj=>?_)
 .exact ⟨by simp,by dsimp only;omega⟩
 .refine weak_ok ?_ (Sub.base hf ?_) (zna _)
  all_goals (simp (disch:=omega) only [ite_ne,hmn,go_sem,↓reduceIte,Za,Zb,Zc,Zd,Ze,reduceCtorEq,Zf,Zg,Zh,Zi,Zj,Zk])
  all_goals rfl
 dsimp only at hj
 obtain ⟨hj3,hj4⟩:=hj
 simp (disch:=omega) only [ite_ne,lW2,go_sem,↓reduceIte,Za,Zb,Zc,Zd,Ze,reduceCtorEq,Zf,Zg,Zh,Zi,Zj,Zk]
 refine cdK_of (fun q=>?_) (fun q=>?_)
 .have q:j2<l.length:=by simpa using q
  obtain ⟨x,ex⟩:∃x,l[j2]?=some x:=⟨l[j2],by simp [q]⟩
  have ew:(l.map W)[j2]?=some (W x):=by rw [List.getElem?_map,ex];rfl
  obtain ⟨y,hy⟩:∃y,W x=y:=⟨_,rfl⟩
  have hfy:=hfit x
  rw [hy] at ew hfy
  have hS:=same_ok y y hfy hfy
  rw [decide_eq_true (cmpV_refl _)] at hS
  simp (disch:=omega) only [ite_ne,q,getK_s (mapC_get valC ew),lW2,go_sem,↓reduceIte,Za,Zb,Zc,Zd,Ze,reduceCtorEq,Zf,Zg,Zh,Zi,Zj,Zk]
  refine dCallR.f (fun _ _ _=>hS _ _) ?_
  simp (disch:=omega) only [ite_ne,q,getK_s (mapC_get valC ew),lW2,go_sem,↓reduceIte,Za,Zb,Zc,Zd,Ze,reduceCtorEq,Zf,Zg,Zh,Zi,Zj,Zk]
  refine ⟨(j2+1,_),⟨by dsimp only;omega,by dsimp only;omega⟩,by dsimp only;omega,weak_ok ?_ (Sub.base hf ?_) (zna _)⟩
  all_goals
   simp (disch:=omega) only [ite_ne,wr64s j2 (by omega),hmn,go_sem,↓reduceIte,Za,Zb,Zc,Zd,Ze,reduceCtorEq,Zf,Zg,Zh,Zi,Zj,Zk]
 .simp only [go_sem,↓reduceIte,Za,Zb,Zc,Zd,Ze,reduceCtorEq,Zf,Zg,Zh,Zi,Zj,Zk]
  refine vcCall.f (exh34_ok _ _) ?_
  simp only [go_sem,↓reduceIte,Za,Zb,Zc,Zd,Ze,reduceCtorEq,Zf,Zg,Zh,Zi,Zj,Zk]
open Go.ChangeShapes Go.WideShapes Go.ChangeAt Go.RowKit
abbrev svc0:Value:=.agg #[.string ⟨#[]⟩,.slice none 0 0,.slice none 0 0,.slice none 0 0,.slice none 0 0,.slice none 0 0,.slice none 0 0,.slice none 0 0]
theorem srts_law (αs:List AV) (h:ASs Tryz.prog [66,3,34] αs) (hw:avL αs≤1048576):MeetsF Tryz.prog 8 [] 0 αs (.b true):=by
 obtain ⟨α1,α2,α3,rfl,h1,h2,h3⟩:=as_n3 h
 simp only [avL] at hw
 obtain ⟨n,g,s,d,rfl,c⟩:=reads_case34 h1 (by omega)
 obtain ⟨k,rfl,_⟩:=as_int Tryz.underlying3 h2
 obtain ⟨l,rfl,hl,hpo⟩:=reads_picks h3 (by omega)
 exact lawRoots n g s d c k l hl hpo [] 0
set_option maxRecDepth 100000 in
theorem srts_lifted (os:Os) (started:os.Started) (H:Type) (enc:TypeId × Value→H) (F:Stop.Interp) :
  ReturnsInHanded {} Tryz.checked os 8 .any ((Rows.OpenSpec.upto Rows.serviceRootsSpec).preRow enc Tryz.prog Tryz.f8 Rows.serviceRootsUptoRow.domain false Rows.serviceRootsUptoRow.laid) (((Rows.OpenSpec.upto Rows.serviceRootsSpec).at F).post enc Tryz.prog Tryz.f8 false true false false):=by
 have hx:DataW.whole enc Tryz.prog ((laidWorld os).forCall (fun _ _=>0) ⟨#[],#[svc0,.int .i64 0,vals0],[]⟩).memory Tryz.f8.params.toList Rows.serviceRootsSpec.vars false #[svc0,.int .i64 0,vals0].toList 8=some ([.agg [.agg [.lit (.string []),.agg [.nil]],.agg [.nil,.agg [.nil],.nil,.nil],.agg [.nil,.nil]],.lit (.int .i64 0),.nil],[],[]):=by kernel_rfl
 refine returnsInHanded_of_row (C:=Tryz.checked) (s:=Rows.OpenSpec.upto Rows.serviceRootsSpec) own started (by kernel_rfl) Tryz.func8
  (witness_row_at (enc:=enc) (C:=Tryz.checked) false (laidWorld os) #[svc0,.int .i64 0,vals0] rfl (by kernel_rfl) (by kernel_rfl) (by kernel_rfl)
   (OpenSpec.preRow_of_cond 8 hx (by kernel_rfl) (fun k hk=>by cases hk;kernel_rfl) (by kernel_rfl) (laid_met os _))) ?_
 intro W base args ds gs before hval hW hc1 hc2 hc3 hL _ _
 have hg:gs=[]:=by
  obtain ⟨p,q,hA,hV,_⟩:=hW
  exact (ChangeShapes.trodVars_none hV).1
 subst hg
 have hk:Rows.uptoBulkAll ds≤1048576:=by first | (simpa [Rows.uptoSmall] using hc1 _ rfl) | (simpa [Rows.uptoSmall] using hc2 _ rfl)
 refine law_core (s:=Rows.serviceRootsSpec) (tb:=4) kids sized ?_ rfl (fun ds hl=>?_) rfl Tryz.underlying4 (m:=fun αs h hb=>srts_law αs h (Nat.le_trans hb hk)) hval hW (pow10_laid hL)
 .exact par_lt (by kernel_rfl)
 .obtain ⟨d1,d2,d3,rfl⟩:=ds_n3 (show ds.length=3 from hl)
  exact ⟨rfl,rfl,rfl⟩
theorem srts_c1:(Rows.serviceRootsUptoRow.inPlace == Tryz.pinned.checked.prog.inPlace 8)=true:=by kernel_rfl
theorem srts_c2:(Rows.serviceRootsUptoRow.unfollowed == Tryz.pinned.checked.prog.unfollowed 8)=true:=by kernel_rfl
theorem srts_c3:(Rows.serviceRootsUptoRow.recurses == Tryz.pinned.checked.prog.recurses 8)=true:=by kernel_rfl
theorem srts_c4:(Rows.serviceRootsUptoRow.named == Tryz.pinned.checked.prog.varsNamed 8)=true:=by kernel_rfl
theorem srts_closed:joinedFacts Tryz.pinned.checked.prog 8 Tryz.f8 (Rows.OpenSpec.upto Rows.serviceRootsSpec).bare Rows.serviceRootsUptoRow=true:=by
 unfold joinedFacts
 simp only [Bool.and_eq_true]
 repeat' apply And.intro
 all_goals first | with_reducible exact srts_c1 | with_reducible exact srts_c2 | with_reducible exact srts_c3 | with_reducible exact srts_c4 | kernel_rfl
theorem srts_said:Rows.ServiceRootsUptoSaid :=
 OpenClaim.holds_of_cond 8 Tryz.f8 rfl rfl rfl rfl rfl rfl rfl ⟨rfl,rfl,rfl,rfl,rfl⟩ rfl rfl rfl rfl rfl (by kernel_rfl) Tryz.func8 srts_closed
  (of_decide_eq_true (by kernel_rfl)) (by unfold Func.isWrapper;first | (rw [if_pos (by decide +kernel)];kernel_rfl) | (rw [if_neg (by decide +kernel)];exact ⟨rfl,rfl⟩))
  (fun os started H enc _ F=>by rw [OpenClaim.pre_eq_preRow];exact srts_lifted os started H enc F)
theorem srts_plain (f:FuncId) (fn:Func) (hf:Tryz.pinned.checked.prog.funcNamed Rows.serviceRootsUptoRow.func=some f) (hfn:Tryz.pinned.checked.prog.funcs[f]?=some fn) :
  false=Tryz.pinned.checked.prog.looks []∧∀(j:Nat) t,fn.params[j]?=some t→Tryz.pinned.checked.prog.wantsStandIn t=false:=by
 obtain rfl:f=8:=Option.some.inj ((show Tryz.prog.funcNamed Rows.serviceRootsUptoRow.func=some 8 by kernel_rfl).symm.trans hf) |>.symm
 obtain rfl:fn=Tryz.f8:=(Option.some.inj (Tryz.func8.symm.trans hfn)).symm
 refine ⟨by kernel_rfl,fun j t ht=>?_⟩
 have key:∀t∈Tryz.f8.params.toList,Tryz.prog.wantsStandIn t=false:=by
  have key:(Tryz.f8.params.toList.all fun t=>!Tryz.prog.wantsStandIn t)=true:=by kernel_rfl
  intro t ht;simpa using List.all_eq_true.1 key t ht
 exact key t (Array.mem_toList_iff.2 (Array.mem_of_getElem? ht))
theorem srts_holds:Rows.ServiceRootsUptoCardSaid :=
 Claim7.holds_tied_plain_at .later [] _ _ _ _ srts_said (fun _ h=>by cases h) (by kernel_rfl) (fun _ h=>by cases h) serviceRootsUpto_row_tie rfl ⟨rfl,rfl⟩ (by kernel_rfl) rfl srts_plain (by kernel_rfl)
abbrev sve0:Value:=.agg #[.string ⟨#[]⟩,.slice none 0 0,.slice none 0 0,.slice none 0 0,.slice none 0 0,.slice none 0 0,.slice none 0 0,.slice none 0 0]
abbrev ent0:Value:=.agg #[.int .i64 0,.int .i64 0,.slice none 0 0,.string ⟨#[]⟩,.slice none 0 0,.int .i64 0,.slice none 0 0,.slice none 0 0]
theorem sent_law (αs:List AV) (h:ASs Tryz.prog [66,74,40] αs) (hw:avL αs≤1048576):MeetsF Tryz.prog 9 [] 0 αs (.b true):=by
 obtain ⟨α1,α2,α3,rfl,h1,h2,h3⟩:=as_n3 h
 simp only [avL] at hw
 obtain ⟨n,g,s,d,rfl,c⟩:=reads_case34 h1 (by omega)
 obtain ⟨F,rfl,hk,hl,hpo⟩:=reads_fetch h2 (by omega)
 obtain ⟨l,rfl,hv,hll⟩:=readsS_vals h3 (by omega)
 exact lawEnts n g s d c F hk hl hpo l hll hv [] 0
set_option maxRecDepth 100000 in
theorem sent_lifted (os:Os) (started:os.Started) (H:Type) (enc:TypeId × Value→H) (F:Stop.Interp) :
  ReturnsInHanded {} Tryz.checked os 9 .any ((Rows.OpenSpec.upto Rows.serviceEntitiesSpec).preRow enc Tryz.prog Tryz.f9 Rows.serviceEntitiesUptoRow.domain false Rows.serviceEntitiesUptoRow.laid) (((Rows.OpenSpec.upto Rows.serviceEntitiesSpec).at F).post enc Tryz.prog Tryz.f9 false true false false):=by
 have hx:DataW.whole enc Tryz.prog ((laidWorld os).forCall (fun _ _=>0) ⟨#[],#[sve0,ent0,vals0],[]⟩).memory Tryz.f9.params.toList Rows.serviceEntitiesSpec.vars false #[sve0,ent0,vals0].toList 8=some ([.agg [.agg [.lit (.string []),.agg [.nil]],.agg [.nil,.agg [.nil],.nil,.nil],.agg [.nil,.nil]],.agg [.lit (.int .i64 0),.lit (.int .i64 0),.nil,.lit (.string []),.nil,.lit (.int .i64 0),.nil,.nil],.nil],[],[]):=by kernel_rfl
 refine returnsInHanded_of_row (C:=Tryz.checked) (s:=Rows.OpenSpec.upto Rows.serviceEntitiesSpec) own started (by kernel_rfl) Tryz.func9
  (witness_row_at (enc:=enc) (C:=Tryz.checked) false (laidWorld os) #[sve0,ent0,vals0] rfl (by kernel_rfl) (by kernel_rfl) (by kernel_rfl)
   (OpenSpec.preRow_of_cond 8 hx (by kernel_rfl) (fun k hk=>by cases hk;kernel_rfl) (by kernel_rfl) (laid_met os _))) ?_
 intro W base args ds gs before hval hW hc1 hc2 hc3 hL _ _
 have hg:gs=[]:=by
  obtain ⟨p,q,hA,hV,_⟩:=hW
  exact (ChangeShapes.trodVars_none hV).1
 subst hg
 have hk:Rows.uptoBulkAll ds≤1048576:=by first | (simpa [Rows.uptoSmall] using hc1 _ rfl) | (simpa [Rows.uptoSmall] using hc2 _ rfl)
 refine law_core (s:=Rows.serviceEntitiesSpec) (tb:=4) kids sized ?_ rfl (fun ds hl=>?_) rfl Tryz.underlying4 (m:=fun αs h hb=>sent_law αs h (Nat.le_trans hb hk)) hval hW (pow10_laid hL)
 .exact par_lt (by kernel_rfl)
 .obtain ⟨d1,d2,d3,rfl⟩:=ds_n3 (show ds.length=3 from hl)
  exact ⟨rfl,rfl,rfl⟩
theorem sent_c1:(Rows.serviceEntitiesUptoRow.inPlace == Tryz.pinned.checked.prog.inPlace 9)=true:=by kernel_rfl
theorem sent_c2:(Rows.serviceEntitiesUptoRow.unfollowed == Tryz.pinned.checked.prog.unfollowed 9)=true:=by kernel_rfl
theorem sent_c3:(Rows.serviceEntitiesUptoRow.recurses == Tryz.pinned.checked.prog.recurses 9)=true:=by kernel_rfl
theorem sent_c4:(Rows.serviceEntitiesUptoRow.named == Tryz.pinned.checked.prog.varsNamed 9)=true:=by kernel_rfl
theorem sent_closed:joinedFacts Tryz.pinned.checked.prog 9 Tryz.f9 (Rows.OpenSpec.upto Rows.serviceEntitiesSpec).bare Rows.serviceEntitiesUptoRow=true:=by
 unfold joinedFacts
 simp only [Bool.and_eq_true]
 repeat' apply And.intro
 all_goals first | with_reducible exact sent_c1 | with_reducible exact sent_c2 | with_reducible exact sent_c3 | with_reducible exact sent_c4 | kernel_rfl
theorem sent_said:Rows.ServiceEntitiesUptoSaid :=
 OpenClaim.holds_of_cond 9 Tryz.f9 rfl rfl rfl rfl rfl rfl rfl ⟨rfl,rfl,rfl,rfl,rfl⟩ rfl rfl rfl rfl rfl (by kernel_rfl) Tryz.func9 sent_closed
  (of_decide_eq_true (by kernel_rfl)) (by unfold Func.isWrapper;first | (rw [if_pos (by decide +kernel)];kernel_rfl) | (rw [if_neg (by decide +kernel)];exact ⟨rfl,rfl⟩))
  (fun os started H enc _ F=>by rw [OpenClaim.pre_eq_preRow];exact sent_lifted os started H enc F)
theorem sent_plain (f:FuncId) (fn:Func) (hf:Tryz.pinned.checked.prog.funcNamed Rows.serviceEntitiesUptoRow.func=some f) (hfn:Tryz.pinned.checked.prog.funcs[f]?=some fn) :
  false=Tryz.pinned.checked.prog.looks []∧∀(j:Nat) t,fn.params[j]?=some t→Tryz.pinned.checked.prog.wantsStandIn t=false:=by
 obtain rfl:f=9:=Option.some.inj ((show Tryz.prog.funcNamed Rows.serviceEntitiesUptoRow.func=some 9 by kernel_rfl).symm.trans hf) |>.symm
 obtain rfl:fn=Tryz.f9:=(Option.some.inj (Tryz.func9.symm.trans hfn)).symm
 refine ⟨by kernel_rfl,fun j t ht=>?_⟩
 have key:∀t∈Tryz.f9.params.toList,Tryz.prog.wantsStandIn t=false:=by
  have key:(Tryz.f9.params.toList.all fun t=>!Tryz.prog.wantsStandIn t)=true:=by kernel_rfl
  intro t ht;simpa using List.all_eq_true.1 key t ht
 exact key t (Array.mem_toList_iff.2 (Array.mem_of_getElem? ht))
theorem sent_holds:Rows.ServiceEntitiesUptoCardSaid :=
 Claim7.holds_tied_plain_at .later [] _ _ _ _ sent_said (fun _ h=>by cases h) (by kernel_rfl) (fun _ h=>by cases h) serviceEntitiesUpto_row_tie rfl ⟨rfl,rfl⟩ (by kernel_rfl) rfl sent_plain (by kernel_rfl)
theorem services_all:Rows.ServiceRootsUptoCardSaid∧Rows.ServiceEntitiesUptoCardSaid:=⟨srts_holds,sent_holds⟩
end Go.Proofs.YtinbodeocoeneaaGreatDoor
