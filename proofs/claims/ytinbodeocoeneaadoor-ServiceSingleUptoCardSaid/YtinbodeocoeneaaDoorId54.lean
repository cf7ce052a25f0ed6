/- Proof. Conditions: none. -/
import Derived.Test.YtinbodeocoeneaaDoorId53
open Nat renaming reduceEqDiff→Za,reduceBEq→Zb,reduceAdd→Zc,reduceLeDiff→Zd,reduceLT→Ze,reduceMul→Zf,reduceSub→Zg
open Int renaming reduceEq→Zh,reduceLT→Zi,reduceLE→Zj,reduceToNat→Zk
open Nat renaming le_refl→zna
namespace Go.Proofs.YtinbodeocoeneaaDoor
open Go.Eng
set_option linter.all false
set_option maxRecDepth 20000
set_option maxHeartbeats 2000000
theorem filter_at {α:Type} (q:α→Bool) {l:List α} {j:Nat} {x:α} (h:l[j]?=some x) (hx:q x=true):(l.filter q)[((l.take j).filter q).length]?=some x:=by
 have e:l=l.take j++x::l.drop (j+1):=by
  rw [←drop_at h,List.take_append_drop]
 have:l.filter q=(l.take j).filter q++x::(l.drop (j+1)).filter q:=by
  rw [show (l.filter q)=((l.take j++x::l.drop (j+1)).filter q) from congrArg _ e,List.filter_append,List.filter_cons_of_pos hx]
 rw [this,List.getElem?_append_right (zna _),Nat.sub_self]
 rfl
theorem filter_step {α:Type} (q:α→Bool) {l:List α} {j:Nat} {x:α} (h:l[j]?=some x):((l.take (j+1)).filter q).length=((l.take j).filter q).length+if q x=true then 1 else 0:=by
 rw [←take_snoc h,List.filter_append,List.length_append]
 by_cases c:q x=true
 .rw [if_pos c,List.filter_cons_of_pos c];rfl
 .rw [if_neg c,List.filter_cons_of_neg (by simpa using c)];rfl
theorem lawSingle (gn:ByteArray) (g:List Dfn) (s:Sup) (d:Dat) (c:GOk g s d) (l:List Pk) (hl:l.length≤1048576) (hpo:∀x∈l,x.Ok) (hp:CH) (m:Nat):MeetsF Tryd.prog 3 hp m [casegx gn g s d,.ds (mapC pkC l)] (.b true):=by
 have h1:=bulky_ok gn g s d c l hl hpo
 obtain ⟨b,hb⟩:∃b,bulkB g s d l=b:=⟨_,rfl⟩
 rw [hb] at h1
 cases b with
 | true =>
  refine meetsF Tryd.func3 (by kernel_rfl) cc3 cr3 rfl fun hf=>?_;unfold ck3
  simp only [go_sem,↓reduceIte,Za,Zb,Zc,Zd,Ze,reduceCtorEq,Zf,Zg,Zh,Zi,Zj,Zk]
  refine vcCall.f (h1 _ _) ?_
  simp only [go_sem,↓reduceIte,Za,Zb,Zc,Zd,Ze,reduceCtorEq,Zf,Zg,Zh,Zi,Zj,Zk]
  refine vcCall.f (exh34_ok _ _) ?_
  simp only [go_sem,↓reduceIte,Za,Zb,Zc,Zd,Ze,reduceCtorEq,Zf,Zg,Zh,Zi,Zj,Zk]
 | false =>
 have hR:=vRoot_ok gn g c.g c.gf s c.s d c.d 1 l hl hpo (fun h=>absurd h (by decide))
 have hR1:=fun x (hx:x∈l)=>vRoot_ok gn g c.g c.gf s c.s d c.d 1 [x] (by simp) (by simpa using hpo x hx) (fun h=>absurd h (by decide))
 have hfit:∀x∈l,(sRootP g s (rootS 1) d x).Fit:=fun x hx=>sRootP_fit c.d (rootS 1) x (hpo x hx)
 rw [sRunV_query] at hR
 have hD:=rsameD_eq d c.d.f.f
 obtain ⟨V,hV⟩:∃V,sRootP g s (rootS 1) d=V:=⟨_,rfl⟩
 have hR1:∀x∈l,x.on=⟨#[81,117,101,114,121]⟩→∀hp m,MeetsF Tryd.prog 6 hp m [grx gn g,supx s,dx d,.i .i64 1,.ds (mapC pkC [x])] (.tp [.ag [.i .i64 6,.i .i64 0,.s ⟨#[]⟩,.ds [valC (txV (rootS 1)),valC (V x)],.ds [[.s ⟨#[95,95,116]⟩],[.s x.key]]],dx d]):=by
  intro x hx hon
  have h:=hR1 x hx
  rw [sRunV_query,hV] at h
  have e:([x].filter fun p=>decide (p.on=rootS 1))=[x]:=List.filter_cons_of_pos (by rw [rootS_1];simpa using hon)
  rw [e] at h
  exact h
 rw [hV] at hR hfit
 obtain ⟨fl,hfl⟩:∃fl,(l.filter fun p=>decide (p.on=rootS 1))=fl:=⟨_,rfl⟩
 rw [hfl] at hR
 have hR:∀hp m,MeetsF Tryd.prog 6 hp m [grx gn g,supx s,dx d,.i .i64 1,.ds (mapC pkC l)] (.tp [.ag [.i .i64 6,.i .i64 0,.s ⟨#[]⟩,.ds (mapC valC (txV (rootS 1)::fl.map V)),.ds (stC (⟨#[95,95,116]⟩::fl.map Pk.key))],dx d]):=by
  have e1:(fl.map fun p=>(p.key,V p)).map (·.2)=fl.map V:=by simp
  have e2:(fl.map fun p=>(p.key,V p)).map (·.1)=fl.map Pk.key:=by simp
  intro hp m
  have:=hR hp m
  rw [objV,e1,e2] at this
  exact this
 obtain ⟨IV,hIV⟩:∃IV,txV (rootS 1)::fl.map V=IV:=⟨_,rfl⟩
 obtain ⟨KV,hKV⟩:∃KV,(⟨#[95,95,116]⟩:ByteArray)::fl.map Pk.key=KV:=⟨_,rfl⟩
 rw [hIV,hKV] at hR
 have lIV:IV.length=fl.length+1:=by rw [←hIV];simp
 have lKV:KV.length=fl.length+1:=by rw [←hKV];simp
 have lfl:fl.length≤l.length:=by rw [←hfl];exact List.length_filter_le _ _
 have hget:∀j x,l[j]?=some x→x.on=rootS 1→((l.take j).filter fun p=>decide (p.on=rootS 1)).length<fl.length∧IV[1+((l.take j).filter fun p=>decide (p.on=rootS 1)).length]?=some (V x)∧KV[1+((l.take j).filter fun p=>decide (p.on=rootS 1)).length]?=some x.key:=by
  intro j x ej hon
  have h:=filter_at (fun p:Pk=>decide (p.on=rootS 1)) ej (by simp [hon])
  rw [hfl] at h
  refine ⟨(List.getElem?_eq_some_iff.1 h).1,?_,?_⟩
  .rw [←hIV,Nat.add_comm,List.getElem?_cons_succ,List.getElem?_map,h];rfl
  .rw [←hKV,Nat.add_comm,List.getElem?_cons_succ,List.getElem?_map,h];rfl
 refine meetsF Tryd.func3 (by kernel_rfl) cc3 cr3 rfl fun hf=>?_;unfold ck3
 simp only [go_sem,↓reduceIte,Za,Zb,Zc,Zd,Ze,reduceCtorEq,Zf,Zg,Zh,Zi,Zj,Zk]
 refine vcCall.f (h1 _ _) ?_
 simp only [go_sem,↓reduceIte,Za,Zb,Zc,Zd,Ze,reduceCtorEq,Zf,Zg,Zh,Zi,Zj,Zk]
 refine vcCall.f (hR _ _) ?_
 simp only [go_sem,↓reduceIte,Za,Zb,Zc,Zd,Ze,reduceCtorEq,Zf,Zg,Zh,Zi,Zj,Zk]
 refine loop (fun q:Nat × Nat=>⟨[(1,.ds (mapC pkC l)),(2,.bx m 0),(5,.bx (m+1) 0),(6,.bx (m+2) 0),(7,.i .i64 (1+((l.take q.1).filter fun p=>decide (p.on=rootS 1)).length:Nat)),(8,.i .i64 q.1)],(m,.bx [.s gn,.ds (mapC dfC g),.ds (stC s.g),.ds (mapC dfC s.doc),.ds (mapC kyC s.keys),.ds (mapC jnC s.joins),.ds (mapC itC d.i),.ds (mapC wrC d.w)])::(m+1,.bx [.i .i64 6,.i .i64 0,.s ⟨#[]⟩,.ds (mapC valC IV),.ds (stC KV)])::(m+2,.bx [.ds (mapC itC d.i),.ds (mapC wrC d.w)])::hp,q.2⟩)
  (fun q=>q.1≤l.length∧m+3≤q.2) (fun q=>l.length - q.1) (0,m+3) ?_ ?_ (fun ⟨j,n⟩ hj=>?_)
 .simp
 .refine weak_ok ?_ (Sub.cons ?_ (Sub.cons ?_ (Sub.cons ?_ (Sub.base hf ?_)))) (zna _)
  all_goals (simp (disch:=omega) only [ite_ne,go_sem,↓reduceIte,Za,Zb,Zc,Zd,Ze,reduceCtorEq,Zf,Zg,Zh,Zi,Zj,Zk])
  all_goals rfl
 dsimp only at hj
 obtain ⟨hj1,hj2⟩:=hj
 have hmn:m≤n:=by omega
 simp (disch:=omega) only [ite_ne,go_sem,↓reduceIte,Za,Zb,Zc,Zd,Ze,reduceCtorEq,Zf,Zg,Zh,Zi,Zj,Zk]
 refine cdK_of (fun q=>?_) (fun q=>?_)
 .have q:j<l.length:=by simpa using q
  obtain ⟨x,ex⟩:∃x,l[j]?=some x:=⟨l[j],by simp [q]⟩
  have hxl:=List.mem_of_getElem? ex
  have hfs:=filter_step (fun p:Pk=>decide (p.on=rootS 1)) ex
  simp (disch:=omega) only [ite_ne,q,getK_s (mapC_get pkC ex),go_sem,↓reduceIte,Za,Zb,Zc,Zd,Ze,reduceCtorEq,Zf,Zg,Zh,Zi,Zj,Zk]
  refine cdK_of (fun c=>?_) (fun c=>?_)
  .have c:¬x.on=rootS 1:=by rw [rootS_1];simpa using c
   rw [if_neg (by simpa using c),Nat.add_zero] at hfs
   simp (disch:=omega) only [ite_ne,go_sem,↓reduceIte,Za,Zb,Zc,Zd,Ze,reduceCtorEq,Zf,Zg,Zh,Zi,Zj,Zk]
   refine ⟨(j+1,_),⟨by dsimp only;omega,by dsimp only;omega⟩,by dsimp only;omega,weak_ok ?_ (Sub.cons ?_ (Sub.cons ?_ (Sub.cons ?_ (Sub.base hf ?_)))) (zna _)⟩
   all_goals
    simp (disch:=omega) only [ite_ne,wr64s j (by omega),hmn,hfs,go_sem,↓reduceIte,Za,Zb,Zc,Zd,Ze,reduceCtorEq,Zf,Zg,Zh,Zi,Zj,Zk]
  .have hon:x.on=⟨#[81,117,101,114,121]⟩:=by simpa using c
   have hon2:x.on=rootS 1:=by rw [rootS_1];exact hon
   rw [if_pos (by simpa using hon2)] at hfs
   obtain ⟨g1,g2,g3⟩:=hget j x ex hon2
   have hx1:=hR1 x hxl hon
   have hfx:=hfit x hxl
   obtain ⟨N,hN⟩:∃N,((l.take j).filter fun p=>decide (p.on=rootS 1)).length=N:=⟨_,rfl⟩
   rw [hN] at hfs g1 g2 g3 ⊢
   obtain ⟨P,hP⟩:∃P,V x=P:=⟨_,rfl⟩
   rw [hP] at hx1 hfx g2
   have hSm:=same_ok P P hfx hfx
   rw [decide_eq_true (cmpV_refl _)] at hSm
   have wj:IntKind.i64.wrap ((j:Int)+1)=((j+1:Nat):Int):=wr64s j (by omega)
   have lpk:(mapC pkC l).length=l.length:=mapC_len _ _
   simp (disch:=omega) only [ite_ne,wj,lpk,hmn,go_sem,↓reduceIte,Za,Zb,Zc,Zd,Ze,reduceCtorEq,Zf,Zg,Zh,Zi,Zj,Zk]
   have e5:List.drop j (List.take (j+1) l)=[x]:=by
    rw [←take_snoc ex,List.drop_left' (by rw [List.length_take];omega)]
   rw [e5]
   have hvP:valC P=[AV.i .i64 P.k,.i .i64 P.n,.s P.s,.ds (mapC valC P.items),.ds (stC P.keys)]:=valC_eq P
   rw [hvP] at hx1
   have lI2:(mapC valC IV).length=fl.length+1:=by rw [mapC_len];exact lIV
   have lK2:(stC KV).length=fl.length+1:=by rw [show (stC KV).length=KV.length from mapC_len _ _];exact lKV
   have b1:decide ((IV.length:Int)≤((1+N:Nat):Int))=false:=decide_eq_false (by omega)
   have b2:decide ((KV.length:Int)≤((1+N:Nat):Int))=false:=decide_eq_false (by omega)
   have b3:1+N<KV.length:=by omega
   have b4:1+N<IV.length:=by omega
   have hk2:(stC KV)[1+N]?=some [.s x.key]:=mapC_get st1 g3
   have hp2:(mapC pkC l)[j]?=some [AV.s x.key,.s x.on,.s x.name,.ds (mapC argC x.args),.s x.tn,.ds (mapC in1 x.tw),.s x.label,.i .i64 x.initial,.ds (mapC pkC x.picks)]:=by rw [mapC_get pkC ex,pkC_eq]
   have hv2:(mapC valC IV)[1+N]?=some [AV.i .i64 P.k,.i .i64 P.n,.s P.s,.ds (mapC valC P.items),.ds (stC P.keys)]:=by rw [mapC_get valC g2,valC_eq]
   have ne1:¬n+15=m:=by omega
   have ne2:¬n+16=m:=by omega
   have ne3:¬n+15=m+1:=by omega
   have ne4:¬n+16=m+1:=by omega
   have ne5:¬n+15=m+2:=by omega
   have ne6:¬n+16=m+2:=by omega
   refine ⟨⟨by omega,by omega⟩,dCallR.f (fun _ _ _=>hx1 _ _) ?_⟩
   simp (disch:=omega) only [ite_ne,hmn,b1,b2,b3,b4,hk2,hp2,hv2,ne1,ne2,ne3,ne4,ne5,ne6,q,go_sem,↓reduceIte,Za,Zb,Zc,Zd,Ze,reduceCtorEq,Zf,Zg,Zh,Zi,Zj,Zk]
   refine dCall.f (fun _ _ _=>hSm _ _) ?_
   simp (disch:=omega) only [ite_ne,hmn,b1,b2,b3,b4,hk2,hp2,hv2,ne1,ne2,ne3,ne4,ne5,ne6,q,go_sem,↓reduceIte,Za,Zb,Zc,Zd,Ze,reduceCtorEq,Zf,Zg,Zh,Zi,Zj,Zk]
   have w2:IntKind.i64.wrap (((1+N:Nat):Int)+1)=((1+N+1:Nat):Int):=wr64s (1+N) (by omega)
   have hfs2:1+((l.take (j+1)).filter fun p=>decide (p.on=rootS 1)).length=1+N+1:=by rw [hfs];omega
   refine ⟨(j+1,_),⟨by dsimp only;omega,by dsimp only;omega⟩,by dsimp only;omega,weak_ok ?_ (Sub.cons ?_ (Sub.cons ?_ (Sub.cons ?_ (Sub.base hf ?_)))) (zna _)⟩
   all_goals
    simp (disch:=omega) only [ite_ne,wj,w2,hfs2,hmn,ne1,ne2,ne3,ne4,ne5,ne6,go_sem,↓reduceIte,Za,Zb,Zc,Zd,Ze,reduceCtorEq,Zf,Zg,Zh,Zi,Zj,Zk]
 .have q:j=l.length:=by simp at q;omega
  subst q
  have hfl2:(fl.length+1:Nat)=1+fl.length:=by omega
  rw [List.take_length,hfl]
  simp (disch:=omega) only [ite_ne,hmn,lIV,hfl2,go_sem,↓reduceIte,Za,Zb,Zc,Zd,Ze,reduceCtorEq,Zf,Zg,Zh,Zi,Zj,Zk]
  refine gCall.f (fun _=>hD _ _) ?_
  simp (disch:=omega) only [ite_ne,hmn,go_sem,↓reduceIte,Za,Zb,Zc,Zd,Ze,reduceCtorEq,Zf,Zg,Zh,Zi,Zj,Zk]
  refine gCall.f (fun _=>exh34_ok _ _) ?_
  simp (disch:=omega) only [ite_ne,hmn,go_sem,↓reduceIte,Za,Zb,Zc,Zd,Ze,reduceCtorEq,Zf,Zg,Zh,Zi,Zj,Zk]
open Go.ChangeShapes Go.WideShapes Go.ChangeAt Go.RowKit
theorem ssng_law (αs:List AV) (h:ASs Tryd.prog [37,38] αs) (hw:avL αs≤1048576):MeetsF Tryd.prog 3 [] 0 αs (.b true):=by
 obtain ⟨α1,α2,rfl,h1,h2⟩:=as_n2 h
 simp only [avL] at hw
 obtain ⟨n,g,s,d,rfl,c⟩:=reads_case34 h1 (by omega)
 obtain ⟨l,rfl,hl,hpo⟩:=reads_picks h2 (by omega)
 exact lawSingle n g s d c l hl hpo [] 0
set_option maxRecDepth 100000 in
theorem ssng_lifted (os:Os) (started:os.Started) (H:Type) (enc:TypeId × Value→H) (F:Stop.Interp) :
  ReturnsInHanded {} Tryd.checked os 3 .any ((Rows.OpenSpec.upto Rows.serviceSingleSpec).preRow enc Tryd.prog Tryd.f3 Rows.serviceSingleUptoRow.domain false Rows.serviceSingleUptoRow.laid) (((Rows.OpenSpec.upto Rows.serviceSingleSpec).at F).post enc Tryd.prog Tryd.f3 false true false false):=by
 have hx:DataW.whole enc Tryd.prog ((laidWorld os).forCall (fun _ _=>0) ⟨#[],#[svc0,vals0],[]⟩).memory Tryd.f3.params.toList Rows.serviceSingleSpec.vars false #[svc0,vals0].toList 8=some ([.agg [.agg [.lit (.string []),.agg [.nil]],.agg [.nil,.agg [.nil],.nil,.nil],.agg [.nil,.nil]],.nil],[],[]):=by kernel_rfl
 refine returnsInHanded_of_row (C:=Tryd.checked) (s:=Rows.OpenSpec.upto Rows.serviceSingleSpec) own started (by kernel_rfl) Tryd.func3
  (witness_row_at (enc:=enc) (C:=Tryd.checked) false (laidWorld os) #[svc0,vals0] rfl (by kernel_rfl) (by kernel_rfl) (by kernel_rfl)
   (OpenSpec.preRow_of_cond 8 hx (by kernel_rfl) (fun k hk=>by cases hk;kernel_rfl) (by kernel_rfl) (laid_met os _))) ?_
 intro W base args ds gs before hval hW hc1 hc2 hc3 hL _ _
 have hg:gs=[]:=by
  obtain ⟨p,q,hA,hV,_⟩:=hW
  exact (ChangeShapes.trodVars_none hV).1
 subst hg
 have hk:Rows.uptoBulkAll ds≤1048576:=by first | (simpa [Rows.uptoSmall] using hc1 _ rfl) | (simpa [Rows.uptoSmall] using hc2 _ rfl)
 refine law_core (s:=Rows.serviceSingleSpec) (tb:=4) kids sized ?_ rfl (fun ds hl=>?_) rfl Tryd.underlying4 (m:=fun αs h hb=>ssng_law αs h (Nat.le_trans hb hk)) hval hW (pow10_laid hL)
 .exact par_lt (by kernel_rfl)
 .obtain ⟨d1,d2,rfl⟩:=ds_n2 (show ds.length=2 from hl)
  exact ⟨rfl,rfl,rfl⟩
theorem ssng_said:Rows.ServiceSingleUptoSaid :=
 OpenClaim.holds_of_cond 3 Tryd.f3 rfl rfl rfl rfl rfl rfl rfl ⟨rfl,rfl,rfl,rfl,rfl⟩ rfl rfl rfl rfl rfl (by kernel_rfl) Tryd.func3 (by kernel_rfl)
  (of_decide_eq_true (by kernel_rfl)) (by unfold Func.isWrapper;first | (rw [if_pos (by decide +kernel)];kernel_rfl) | (rw [if_neg (by decide +kernel)];exact ⟨rfl,rfl⟩))
  (fun os started H enc _ F=>by rw [OpenClaim.pre_eq_preRow];exact ssng_lifted os started H enc F)
theorem ssng_plain (f:FuncId) (fn:Func) (hf:Tryd.pinned.checked.prog.funcNamed Rows.serviceSingleUptoRow.func=some f) (hfn:Tryd.pinned.checked.prog.funcs[f]?=some fn) :
  false=Tryd.pinned.checked.prog.looks []∧∀(j:Nat) t,fn.params[j]?=some t→Tryd.pinned.checked.prog.wantsStandIn t=false:=by
 obtain rfl:f=3:=Option.some.inj ((show Tryd.prog.funcNamed Rows.serviceSingleUptoRow.func=some 3 by kernel_rfl).symm.trans hf) |>.symm
 obtain rfl:fn=Tryd.f3:=(Option.some.inj (Tryd.func3.symm.trans hfn)).symm
 refine ⟨by kernel_rfl,fun j t ht=>?_⟩
 have key:∀t∈Tryd.f3.params.toList,Tryd.prog.wantsStandIn t=false:=by
  have key:(Tryd.f3.params.toList.all fun t=>!Tryd.prog.wantsStandIn t)=true:=by kernel_rfl
  intro t ht;simpa using List.all_eq_true.1 key t ht
 exact key t (Array.mem_toList_iff.2 (Array.mem_of_getElem? ht))
theorem ssng_holds:Rows.ServiceSingleUptoCardSaid :=
 Claim7.holds_tied_plain_at .later [] _ _ _ _ ssng_said (fun _ h=>by cases h) (by kernel_rfl) (fun _ h=>by cases h) serviceSingleUpto_row_tie rfl ⟨rfl,rfl⟩ (by kernel_rfl) rfl ssng_plain (by kernel_rfl)
end Go.Proofs.YtinbodeocoeneaaDoor
