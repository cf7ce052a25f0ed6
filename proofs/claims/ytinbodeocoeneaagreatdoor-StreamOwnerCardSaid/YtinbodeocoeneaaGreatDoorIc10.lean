/- Proof. Conditions: none. -/
import Derived.Test.YtinbodeocoeneaaGreatDoorIc9
namespace Go.Eng
set_option linter.all false
theorem Src.ev_congr {s:Src} {env env':EN} (h:∀t∈s.slot,ge env t=ge env' t):s.ev env=s.ev env':=by
 cases s with
 | t n=>exact h n (by simp [Src.slot])
 | c α=>rfl
theorem obl_congr {env env':EN} {p:Prop}:∀(l:List Src),(∀s∈l,s.ev env=s.ev env')→obl env p l=obl env' p l
 | [],_=>rfl
 | s::r,h=>by
  show (ob p (s.ev env)∧obl env p r)=(ob p (s.ev env')∧obl env' p r)
  rw [h s (by simp),obl_congr r (fun s hs=>h s (by simp [hs]))]
theorem oblB_congr {env env':EN} {p:Bool}:∀(l:List Src),(∀s∈l,s.ev env=s.ev env')→oblB env p l=oblB env' p l
 | [],_=>rfl
 | s::r,h=>by
  show (obB p (s.ev env)∧oblB env p r)=(obB p (s.ev env')∧oblB env' p r)
  rw [h s (by simp),oblB_congr r (fun s hs=>h s (by simp [hs]))]
theorem obsB_congr {o:COp} {env env':EN} {p:Bool} (h:∀s∈o.srcs,s.ev env=s.ev env'):o.obsB env p=o.obsB env' p:=by
 cases o
 case bd z ps=>exact oblB_congr _ h
 case mf f xs=>exact oblB_congr _ h
 case bs f n xs=>exact oblB_congr _ h
 case cl f xs=>exact oblB_congr _ h
 case cc f xs =>
  show (obB p (f.ev env)∧oblB env p xs)=_
  rw [h f (by simp [COp.srcs]),oblB_congr xs (fun s hs=>h s (by simp [COp.srcs,hs]))]
  rfl
 case sc x lo hi n=>cases lo<;>cases hi<;>simp [COp.srcs] at h<;>simp [COp.obsB,oboB,h]
 case ss x lo hi=>cases lo<;>cases hi<;>simp [COp.srcs] at h<;>simp [COp.obsB,oboB,h]
 case al z=>rfl
 all_goals
  simp [COp.srcs] at h
  simp [COp.obsB,h]
theorem bdl_congr {f f':Src→AV}:∀(ps:List (Nat × Nat × Src)) (z:List AV),(∀s∈ps.map (·.2.2),f s=f' s)→bdl f z ps=bdl f' z ps
 | [],_,_=>rfl
 | (off,m,s)::r,z,h=>by
  unfold bdl
  rw [h s (by simp)]
  split
  .split
   .exact bdl_congr r _ fun s hs=>h s (by simp at hs ⊢;exact .inr hs)
   .rfl
  .rfl
theorem val_congrF {o:COp} {hp:CH} {f f':Src→AV} (h:∀s∈o.srcs,f s=f' s):o.val hp f=o.val hp f':=by
 cases o
 case bd z ps=>simp only [COp.val,bdl_congr ps z h]
 case mf g xs=>simp only [COp.val];rw [List.map_congr_left (l:=xs) h]
 case sc x lo hi n=>cases lo<;>cases hi<;>simp [COp.srcs] at h<;>simp [COp.val,bndLo,bndHi,h]
 case ss x lo hi=>cases lo<;>cases hi<;>simp [COp.srcs] at h<;>simp [COp.val,bndLo,bndHi,h]
 all_goals first
  | rfl
  | (simp [COp.srcs] at h;simp [COp.val,h])
theorem pre_congrF {o:COp} {hp:CH} {f f':Src→AV} (h:∀s∈o.srcs,f s=f' s):o.pre hp f=o.pre hp f':=by
 cases o
 case sc x lo hi n=>cases lo<;>cases hi<;>simp [COp.srcs] at h<;>simp [COp.pre,bndP,bndLo,bndHi,h]
 case ss x lo hi=>cases lo<;>cases hi<;>simp [COp.srcs] at h<;>simp [COp.pre,bndP,bndLo,bndHi,h]
 all_goals first
  | rfl
  | (simp [COp.srcs] at h;simp [COp.pre,h])
theorem rd_congrF {o:COp} {f f':Src→AV} (h:∀s∈o.srcs,f s=f' s):o.rd f=o.rd f':=by
 cases o<;>first
  | rfl
  | (simp [COp.srcs] at h;simp [COp.rd,h])
theorem eff_congrF {o:COp} {hp:CH} {f f':Src→AV} {id:Nat} (h:∀s∈o.srcs,f s=f' s):o.eff hp f id=o.eff hp f' id:=by
 by_cases hv:o.isV=true
 .have e:∀f:Src→AV,o.eff hp f id=match o.val hp f with
   | some α=>some (α,[],o.rd f)
   | none=>none:=by cases o<;>first | (intro f;rfl) | (simp [COp.isV] at hv)
  rw [e f,e f',val_congrF h,rd_congrF h]
 .cases o
  case bs fz n ps=>simp only [COp.eff];rw [List.map_congr_left (l:=ps) h]
  all_goals first
   | rfl
   | (simp [COp.isV] at hv;done)
   | (simp [COp.srcs] at h;simp [COp.eff,COp.val,h])
theorem effP_congrF {o:COp} {hp:CH} {f f':Src→AV} (h:∀s∈o.srcs,f s=f' s):o.effP hp f=o.effP hp f':=by
 by_cases hv:o.isV=true
 .have e:∀f:Src→AV,o.effP hp f=o.pre hp f:=by cases o<;>first | (intro f;rfl) | (simp [COp.isV] at hv)
  rw [e f,e f',pre_congrF h]
 .cases o
  case bs fz n ps=>simp only [COp.effP];rw [List.map_congr_left (l:=ps) h]
  all_goals first
   | rfl
   | (simp [COp.isV] at hv;done)
   | (simp [COp.srcs] at h;simp [COp.effP,COp.pre,h])
/-! ### Chunks -/
theorem sl_congr {hp hp':CH} {α:AV} (h:∀k∈α.ids,gc hp k=gc hp' k):sl hp α=sl hp' α:=by
 cases α<;>first
  | rfl
  | (simp [AV.ids] at h;simp [sl,h])
theorem shd_congr {hp hp':CH} {α:AV} (h:∀k∈α.ids,gc hp k=gc hp' k):shd hp α=shd hp' α:=by
 cases α<;>first
  | rfl
  | (simp [AV.ids] at h;simp [shd,h])
theorem ldc_congr {hp hp':CH} {m:Nat} {α:AV} (h:∀k∈α.ids,gc hp k=gc hp' k):ldc hp m α=ldc hp' m α:=by
 cases α
 case ep α n i off=>simp only [ldc,sl_congr (α:=α) h]
 all_goals first
  | rfl
  | (simp [AV.ids] at h;simp [ldc,h])
theorem val_congrH {o:COp} {hp hp':CH} {f:Src→AV} (h:∀k∈o.rd f,gc hp k=gc hp' k):o.val hp f=o.val hp' f:=by
 cases o
 case ld x m ag=>simp only [COp.val,ldc_congr (α:=f x) h]
 case cb x=>simp only [COp.val,sl_congr (α:=f x) h]
 case ln s x=>cases s<;>simp only [COp.val,lenV,sl_congr (α:=f x) h]
 case sc x lo hi n=>simp only [COp.val,sl_congr (α:=f x) h,shd_congr (α:=f x) h]
 case lk x s ok z =>
  simp only [COp.val]
  generalize hx:f x=α
  cases α with
  | mp k =>
   have hk:=h k (by simp [COp.rd,hx,AV.ids])
   cases f s with
   | s b=>simp only [hk]
   | _=>rfl
  | _=>rfl
 all_goals rfl
theorem pre_congrH {o:COp} {hp hp':CH} {f:Src→AV} (h:∀k∈o.rd f,gc hp k=gc hp' k):o.pre hp f=o.pre hp' f:=by
 cases o
 case ia x i n=>simp only [COp.pre,sl_congr (α:=f x) h]
 case sc x lo hi n=>simp only [COp.pre,sl_congr (α:=f x) h]
 all_goals rfl
theorem apR_congr {hp hp':CH} {nx k0 n:Nat} {x:AV} {l2:List (List AV)} (h:∀k∈x.ids,gc hp k=gc hp' k):apR hp nx k0 n x l2=apR hp' nx k0 n x l2:=by
 cases x<;>first
  | rfl
  | (simp [AV.ids] at h;simp [apR,h])
theorem eff_trH {o:COp} {hp hp':CH} {f:Src→AV} {id:Nat} {α:AV} {ws:CH} {R:List Nat} (he:o.eff hp f id=some (α,ws,R)) (h:∀k∈R,gc hp k=gc hp' k) :
  o.eff hp' f id=some (α,ws,R)∧(o.effP hp f→o.effP hp' f):=by
 by_cases hv:o.isV=true
 .have e:∀hp:CH,o.eff hp f id=match o.val hp f with
   | some α=>some (α,[],o.rd f)
   | none=>none:=by cases o<;>first | (intro hp;rfl) | (simp [COp.isV] at hv)
  have e2:∀hp:CH,o.effP hp f=o.pre hp f:=by cases o<;>first | (intro hp;rfl) | (simp [COp.isV] at hv)
  rw [e hp] at he
  rw [e hp',e2,e2]
  cases hx:o.val hp f with
  | none=>rw [hx] at he;cases he
  | some β =>
   rw [hx] at he
   cases he
   rw [←val_congrH (hp:=hp) h,hx,pre_congrH (hp:=hp) h]
   exact ⟨rfl,fun h=>h⟩
 .cases o
  case al z=>exact ⟨he,fun h=>h⟩
  case bo x=>exact ⟨he,fun h=>h⟩
  case bs fz n ps=>exact ⟨he,fun h=>h⟩
  case ms l c n bytes z=>exact ⟨he,fun h=>h⟩
  case cl=>cases he
  case cc=>cases he
  case nl=>cases he
  case mk=>exact ⟨he,fun h=>h⟩
  case alb=>exact ⟨he,fun h=>h⟩
  case mu x s y =>
   simp only [COp.eff] at he ⊢
   split at he
   .rename_i k b h1 h2
    split at he
    .rename_i l hk
     cases he
     have hk':gc hp' k=.mp l:=by rw [←h k (by simp)];exact hk
     simp only [COp.effP,h1,h2,hk']
     exact ⟨trivial,fun h=>h⟩
    .cases he
   .cases he
  case st x y m =>
   simp only [COp.eff] at he ⊢
   split at he
   .rename_i c0 k off h1 h2
    split at he
    .rename_i old hk
     cases he
     have hk':gc hp' k=.bx old:=by rw [←h k (by simp)];exact hk
     simp only [COp.effP,h1,h2,hk,hk']
     exact ⟨trivial,fun h=>h⟩
    .cases he
   .rename_i c0 k g len n i off h1 h2
    split at he
    .rename_i g' n' l hk
     split at he
     .rename_i e hl
      cases he
      have hk':gc hp' k=.rw g' n' l:=by rw [←h k (by simp)];exact hk
      simp only [COp.effP,h1,h2,hk,hk',hl]
      exact ⟨trivial,fun h=>h⟩
     .cases he
    .rename_i g' n' l hk
     split at he
     .rename_i e hl
      cases he
      have hk':gc hp' k=.rn g' n' l:=by rw [←h k (by simp)];exact hk
      simp only [COp.effP,h1,h2,hk,hk',hl]
      exact ⟨trivial,fun h=>h⟩
     .cases he
    .cases he
   .cases he
  case ap x y n bytes =>
   simp only [COp.eff] at he ⊢
   split at he
   .rename_i l2 h1
    split at he
    .rename_i α' kc nx h2
     cases he
     have h1':sl hp' (f y)=some l2:=by rw [←sl_congr (hp:=hp) (fun k hk=>h k (by simp [hk]))];exact h1
     have h2':apR hp' 0 id n (f x) l2=some (α,kc,nx):=by rw [←apR_congr (hp:=hp) (fun k hk=>h k (by simp [hk]))];exact h2
     simp only [COp.effP,h1,h1',h2']
     exact ⟨trivial,fun h=>h⟩
    .cases he
   .cases he
  case aps x y =>
   simp only [COp.eff] at he ⊢
   split at he
   .rename_i b h1
    split at he
    .rename_i α' kc nx h2
     cases he
     have h2':apR hp' 0 id 1 (f x) (byteEls b)=some (α,kc,nx):=by rw [←apR_congr (hp:=hp) h];exact h2
     simp only [COp.effP,h1,h2']
     exact ⟨trivial,fun h=>h⟩
    .cases he
   .cases he
  all_goals simp [COp.isV] at hv
/-! ### The operations of such a region -/
section
variable {P:Program} {n0 N1 i:Nat} {o:DO} {env env':EN} {hp hp':CH} {K:AV→CH→List Nat→Bool→Prop}
theorem dCall_tr {f:FuncId} {args:List AV} {G:Bool} {bf:List Nat} {K:AV→Prop} (hk:∀r,K r→∀k,(k<n0∨∃j∈bf,k=n0+j)→gc hp k=gc hp' k) (h:dCall P f n0 bf hp N1 args G K):dCall P f n0 bf hp' N1 args G K:=by
 obtain ⟨r,h1,h2⟩:=h
 exact ⟨r,fun g hq hh=>h1 g hq fun k hk'=>(hh k hk').trans (hk r h2 k hk').symm,h2⟩
theorem dCall_mono {f:FuncId} {args:List AV} {G:Bool} {bf:List Nat} {K K':AV→Prop} (hk:∀r,K r→K' r) (h:dCall P f n0 bf hp N1 args G K):dCall P f n0 bf hp N1 args G K':=by
 obtain ⟨r,h1,h2⟩:=h
 exact ⟨r,h1,hk r h2⟩
theorem dCall_out {f:FuncId} {args:List AV} {G:Bool} {bf:List Nat} {K:AV→Prop} (h:dCall P f n0 bf hp N1 args G K):∃r,dCall P f n0 bf hp N1 args G (fun r'=>r'=r)∧K r:=by
 obtain ⟨r,h1,h2⟩:=h
 exact ⟨r,⟨r,h1,rfl⟩,h2⟩
theorem wsOk_tr {hp hp':CH} {n0:Nat} {ks:List Nat} (hk:∀k,k<n0→gc hp k=gc hp' k):∀{ws:CH},wsOk hp n0 ks ws→wsOk hp' n0 ks ws
 | [],_=>trivial
 | (k,c)::r,h=>⟨h.1,by rw [←hk k h.1];exact h.2.1,h.2.2.1,wsOk_tr hk h.2.2.2⟩
theorem dCallR_tr {f:FuncId} {args:List AV} {id:Nat} {bf:List Nat} {K:AV→CH→Prop} (hk:∀r ws,K r ws→∀k,(k<n0∨∃j∈bf,k=n0+j)→gc hp k=gc hp' k) (h:dCallR P f n0 bf hp N1 args id K):dCallR P f n0 bf hp' N1 args id K:=by
 rcases h with ⟨r,h1,h2⟩ | ⟨m,l,h1,h2⟩ | ⟨r,ws,h0,h3,h1,h2⟩
 .exact .inl ⟨r,fun hq hh=>h1 hq fun k hk'=>(hh k hk').trans (hk r _ h2 k hk').symm,h2⟩
 .exact .inr (.inl ⟨m,l,fun hq hh=>h1 hq fun k hk'=>(hh k hk').trans (hk _ _ h2 k hk').symm,h2⟩)
 .exact .inr (.inr ⟨r,ws,wsOk_tr (fun k hk'=>hk _ _ h2 k (.inl hk')) h0,h3,fun hq hh=>h1 hq fun k hk'=>(hh k hk').trans (hk _ _ h2 k hk').symm,h2⟩)
theorem dCallR_mono {f:FuncId} {args:List AV} {id:Nat} {bf:List Nat} {K K':AV→CH→Prop} (hk:∀r ws,K r ws→K' r ws) (h:dCallR P f n0 bf hp N1 args id K):dCallR P f n0 bf hp N1 args id K':=by
 rcases h with ⟨r,h1,h2⟩ | ⟨m,l,h1,h2⟩ | ⟨r,ws,h0,h3,h1,h2⟩
 .exact .inl ⟨r,h1,hk _ _ h2⟩
 .exact .inr (.inl ⟨m,l,h1,hk _ _ h2⟩)
 .exact .inr (.inr ⟨r,ws,h0,h3,h1,hk _ _ h2⟩)
theorem dCallR_out {f:FuncId} {args:List AV} {id:Nat} {bf:List Nat} {K:AV→CH→Prop} (h:dCallR P f n0 bf hp N1 args id K):∃r ws,dCallR P f n0 bf hp N1 args id (fun r' ws'=>r'=r∧ws'=ws)∧K r ws:=by
 rcases h with ⟨r,h1,h2⟩ | ⟨m,l,h1,h2⟩ | ⟨r,ws,h0,h3,h1,h2⟩
 .exact ⟨_,_,.inl ⟨r,h1,rfl,rfl⟩,h2⟩
 .exact ⟨_,_,.inr (.inl ⟨m,l,h1,rfl,rfl⟩),h2⟩
 .exact ⟨_,_,.inr (.inr ⟨r,ws,h0,h3,h1,rfl,rfl⟩),h2⟩
theorem COp.cases_c (o:COp):(∃f xs,o=.cl f xs)∨(∃f xs,o=.cc f xs)∨o.isC=false:=by
 cases o<;>first | exact .inl ⟨_,_,rfl⟩ | exact .inr (.inl ⟨_,_,rfl⟩) | exact .inr (.inr rfl)
theorem dRun_e (h:o.o.op.isC=false):dRun P n0 N1 i o env hp K=(o.o.op.effP hp (fun s=>fet (s.ev env))∧match o.o.op.eff hp (fun s=>fet (s.ev env)) (n0+i) with
  | some (α,ws,R)=>K α ws R false
  | none=>False):=by
 obtain ⟨⟨d,op,g⟩,un,lg,bf⟩:=o
 cases op<;>first | rfl | (simp [COp.isC] at h)
theorem dG_e (h:o.o.op.isC=false) {G:Bool}:dG P n0 N1 i o env hp G K=(o.o.op.obsB env G∧if o.o.op.isV then imp G (o.o.op.pre hp fun s=>fet (s.ev env))∧imp G ((o.o.op.val hp fun s=>fet (s.ev env)).isSome=true)∧K (.gd G ((o.o.op.val hp fun s=>fet (s.ev env)).getD .un)) [] (o.o.op.rd fun s=>fet (s.ev env)) false
  else (G=true∧dRun P n0 N1 i o env hp K)∨(G=false∧K (.gd false .un) [] [] false)):=by
 obtain ⟨⟨d,op,g⟩,un,lg,bf⟩:=o
 cases op<;>first | rfl | (simp [COp.isC] at h)
def Same (n0:Nat) (bf:List Nat) (hp hp':CH) (K:AV→CH→List Nat→Bool→Prop):Prop :=
 ∀α ws R c,K α ws R c→(∀k∈R,gc hp k=gc hp' k)∧(c=true→∀k,(k<n0∨∃j∈bf,k=n0+j)→gc hp k=gc hp' k)
theorem dRun_tr (hs:∀s∈o.o.op.srcs,s.ev env=s.ev env') (hk:Same n0 o.bf hp hp' K) (h:dRun P n0 N1 i o env hp K):dRun P n0 N1 i o env' hp' K:=by
 rcases COp.cases_c o.o.op with ⟨f,xs,e⟩ | ⟨f,xs,e⟩ | e
 .obtain ⟨⟨d,op,g⟩,un,lg,bf⟩:=o
  simp only at e
  subst e
  have hm:(xs.map fun s=>fet (s.ev env))=xs.map fun s=>fet (s.ev env'):=List.map_congr_left fun s hx=>by rw [hs s hx]
  unfold dRun at h ⊢
  simp only at h ⊢
  rw [hm] at h
  exact dCallR_tr (fun r ws hr=>(hk _ _ _ _ hr).2 rfl) h
 .obtain ⟨⟨d,op,g⟩,un,lg,bf⟩:=o
  simp only at e
  subst e
  have hm:(xs.map fun s=>fet (s.ev env))=xs.map fun s=>fet (s.ev env'):=List.map_congr_left fun s hx=>by rw [hs s (by simp [COp.srcs,hx])]
  have hf:f.ev env=f.ev env':=hs f (by simp [COp.srcs])
  unfold dRun at h ⊢
  simp only at h ⊢
  rw [hm,hf] at h
  split at h
  .exact dCall_tr (fun r hr=>(hk _ _ _ _ hr).2 rfl) h
  .exact h.elim
 .rw [dRun_e e] at h ⊢
  have hf:∀s∈o.o.op.srcs,fet (s.ev env)=fet (s.ev env'):=fun s hx=>by rw [hs s hx]
  rw [effP_congrF hf,eff_congrF hf] at h
  obtain ⟨h1,h2⟩:=h
  split at h2
  .rename_i α ws R he
   obtain ⟨e1,e2⟩:=eff_trH he (hk _ _ _ _ h2).1
   rw [e1]
   exact ⟨e2 h1,h2⟩
  .exact h2.elim
theorem dG_tr {G:Bool} (hs:∀s∈o.o.op.srcs,s.ev env=s.ev env') (hk:Same n0 o.bf hp hp' K) (h:dG P n0 N1 i o env hp G K):dG P n0 N1 i o env' hp' G K:=by
 rcases COp.cases_c o.o.op with ⟨f,xs,e⟩ | ⟨f,xs,e⟩ | e
 .have ho:=obsB_congr (p:=G) hs
  obtain ⟨⟨d,op,g⟩,un,lg,bf⟩:=o
  simp only at e
  subst e
  have hm:(xs.map fun s=>fet (s.ev env))=xs.map fun s=>fet (s.ev env'):=List.map_congr_left fun s hx=>by rw [hs s hx]
  unfold dG at h ⊢
  simp only at h ⊢
  rw [hm] at h
  exact ⟨by rw [←ho];exact h.1,dCall_tr (fun r hr=>(hk _ _ _ _ hr).2 rfl) h.2⟩
 .have ho:=obsB_congr (p:=G) hs
  obtain ⟨⟨d,op,g⟩,un,lg,bf⟩:=o
  simp only at e
  subst e
  have hm:(xs.map fun s=>fet (s.ev env))=xs.map fun s=>fet (s.ev env'):=List.map_congr_left fun s hx=>by rw [hs s (by simp [COp.srcs,hx])]
  have hf:f.ev env=f.ev env':=hs f (by simp [COp.srcs])
  unfold dG at h ⊢
  simp only at h ⊢
  rw [hm,hf] at h
  refine ⟨by rw [←ho];exact h.1,?_⟩
  have h2:=h.2
  split at h2
  .exact dCall_tr (fun r hr=>(hk _ _ _ _ hr).2 rfl) h2
  .exact h2.elim
 .rw [dG_e e] at h ⊢
  have hf:∀s∈o.o.op.srcs,fet (s.ev env)=fet (s.ev env'):=fun s hx=>by rw [hs s hx]
  obtain ⟨h1,h2⟩:=h
  refine ⟨by rw [←obsB_congr hs];exact h1,?_⟩
  split
  .rename_i hv
   rw [if_pos hv] at h2
   obtain ⟨g1,g2,g3⟩:=h2
   rw [rd_congrF hf] at g3
   have hr:=(hk _ _ _ _ g3).1
   rw [pre_congrF hf,pre_congrH hr] at g1
   rw [val_congrF hf,val_congrH hr] at g2 g3
   exact ⟨g1,g2,g3⟩
  .rename_i hv
   rw [if_neg hv] at h2
   exact h2.imp (fun ⟨a,b⟩=>⟨a,dRun_tr hs hk b⟩) id
theorem dOp_tr (hs:∀s∈o.o.op.srcs,s.ev env=s.ev env') (hg:∀t want,o.o.g=some (t,want)→ge env t=ge env' t) (hk:Same n0 o.bf hp hp' K) (h:dOp P n0 N1 i o env hp K):dOp P n0 N1 i o env' hp' K:=by
 unfold dOp at h ⊢
 split
 .rename_i e
  rw [e] at h
  exact ⟨by rw [←obsB_congr hs];exact h.1,dRun_tr hs hk h.2⟩
 .rename_i t want e
  rw [e] at h
  simp only at h
  rw [hg t want e] at h
  split
  .rename_i x hx
   rw [hx] at h
   exact dG_tr hs hk h
  .rename_i c x hx
   rw [hx] at h
   exact dG_tr hs hk h
  .rename_i hx
   rw [hx] at h
   exact dG_tr hs hk h
  .rename_i hx1 hx2 hx3
   split at h
   .rename_i x hx;exact hx1 _ hx
   .rename_i c x hx;exact hx2 _ _ hx
   .rename_i hx;exact hx3 hx
   .exact h
theorem dRun_mono {K':AV→CH→List Nat→Bool→Prop} (hK:∀α ws R c,K α ws R c→K' α ws R c) (h:dRun P n0 N1 i o env hp K):dRun P n0 N1 i o env hp K':=by
 rcases COp.cases_c o.o.op with ⟨f,xs,e⟩ | ⟨f,xs,e⟩ | e
 .obtain ⟨⟨d,op,g⟩,un,lg,bf⟩:=o
  simp only at e
  subst e
  exact dCallR_mono (K:=fun r ws=>K r ws [] true) (K':=fun r ws=>K' r ws [] true) (fun r ws hr=>hK _ _ _ _ hr) h
 .obtain ⟨⟨d,op,g⟩,un,lg,bf⟩:=o
  simp only at e
  subst e
  unfold dRun at h ⊢
  simp only at h ⊢
  split at h
  .exact dCall_mono (fun r hr=>hK _ _ _ _ hr) h
  .exact h.elim
 .rw [dRun_e e] at h ⊢
  refine ⟨h.1,?_⟩
  have h2:=h.2
  split at h2
  .exact hK _ _ _ _ h2
  .exact h2.elim
theorem dRun_out (h:dRun P n0 N1 i o env hp K):∃α ws R c,dRun P n0 N1 i o env hp (fun α' ws' R' c'=>α'=α∧ws'=ws∧R'=R∧c'=c)∧K α ws R c:=by
 rcases COp.cases_c o.o.op with ⟨f,xs,e⟩ | ⟨f,xs,e⟩ | e
 .obtain ⟨⟨d,op,g⟩,un,lg,bf⟩:=o
  simp only at e
  subst e
  obtain ⟨r,ws,h1,h2⟩:=dCallR_out (K:=fun r ws=>K r ws [] true) h
  exact ⟨r,ws,[],true,dCallR_mono (K':=fun r' ws'=>r'=r∧ws'=ws∧([]:List Nat)=[]∧true=true) (fun _ _ e=>⟨e.1,e.2,rfl,rfl⟩) h1,h2⟩
 .obtain ⟨⟨d,op,g⟩,un,lg,bf⟩:=o
  simp only at e
  subst e
  unfold dRun at h ⊢
  simp only at h ⊢
  split at h
  .obtain ⟨r,h1,h2⟩:=dCall_out h
   exact ⟨_,_,_,_,dCall_mono (fun r' e=>⟨e,rfl,rfl,rfl⟩) h1,h2⟩
  .exact h.elim
 .rw [dRun_e e] at h
  obtain ⟨h1,h2⟩:=h
  split at h2
  .rename_i α ws R he
   refine ⟨α,ws,R,false,?_,h2⟩
   rw [dRun_e e,he]
   exact ⟨h1,rfl,rfl,rfl,rfl⟩
  .exact h2.elim
theorem dG_out {G:Bool} (h:dG P n0 N1 i o env hp G K):∃α ws R c,dG P n0 N1 i o env hp G (fun α' ws' R' c'=>α'=α∧ws'=ws∧R'=R∧c'=c)∧K α ws R c:=by
 rcases COp.cases_c o.o.op with ⟨f,xs,e⟩ | ⟨f,xs,e⟩ | e
 .obtain ⟨⟨d,op,g⟩,un,lg,bf⟩:=o
  simp only at e
  subst e
  obtain ⟨r,h1,h2⟩:=dCall_out h.2
  exact ⟨_,_,_,_,⟨h.1,dCall_mono (fun r' e=>⟨by rw [e],rfl,rfl,rfl⟩) h1⟩,h2⟩
 .obtain ⟨⟨d,op,g⟩,un,lg,bf⟩:=o
  simp only at e
  subst e
  unfold dG at h ⊢
  simp only at h ⊢
  obtain ⟨h0,h⟩:=h
  split at h
  .obtain ⟨r,h1,h2⟩:=dCall_out h
   exact ⟨_,_,_,_,⟨h0,dCall_mono (fun r' e=>⟨by rw [e],rfl,rfl,rfl⟩) h1⟩,h2⟩
  .exact h.elim
 .rw [dG_e e] at h
  obtain ⟨h1,h2⟩:=h
  split at h2
  .rename_i hv
   refine ⟨_,_,_,_,?_,h2.2.2⟩
   rw [dG_e e,if_pos hv]
   exact ⟨h1,h2.1,h2.2.1,rfl,rfl,rfl,rfl⟩
  .rename_i hv
   rcases h2 with ⟨a,b⟩ | ⟨a,b⟩
   .obtain ⟨α,ws,R,c,c1,c2⟩:=dRun_out b
    refine ⟨α,ws,R,c,?_,c2⟩
    rw [dG_e e,if_neg hv]
    exact ⟨h1,.inl ⟨a,c1⟩⟩
   .refine ⟨_,_,_,_,?_,b⟩
    rw [dG_e e,if_neg hv]
    exact ⟨h1,.inr ⟨a,rfl,rfl,rfl,rfl⟩⟩
theorem dOp_out (h:dOp P n0 N1 i o env hp K):∃α ws R c,dOp P n0 N1 i o env hp (fun α' ws' R' c'=>α'=α∧ws'=ws∧R'=R∧c'=c)∧K α ws R c:=by
 unfold dOp at h ⊢
 split at h
 .obtain ⟨α,ws,R,c,c1,c2⟩:=dRun_out h.2
  exact ⟨α,ws,R,c,⟨h.1,c1⟩,c2⟩
 .split at h
  .exact dG_out h
  .exact dG_out h
  .exact dG_out h
  .exact h.elim
theorem dG_mono {G:Bool} {K':AV→CH→List Nat→Bool→Prop} (hK:∀α ws R c,K α ws R c→K' α ws R c) (h:dG P n0 N1 i o env hp G K):dG P n0 N1 i o env hp G K':=by
 rcases COp.cases_c o.o.op with ⟨f,xs,e⟩ | ⟨f,xs,e⟩ | e
 .obtain ⟨⟨d,op,g⟩,un,lg,bf⟩:=o
  simp only at e
  subst e
  exact ⟨h.1,dCall_mono (fun r hr=>hK _ _ _ _ hr) h.2⟩
 .obtain ⟨⟨d,op,g⟩,un,lg,bf⟩:=o
  simp only at e
  subst e
  unfold dG at h ⊢
  simp only at h ⊢
  obtain ⟨h0,h⟩:=h
  refine ⟨h0,?_⟩
  split at h
  .exact dCall_mono (fun r hr=>hK _ _ _ _ hr) h
  .exact h.elim
 .rw [dG_e e] at h ⊢
  obtain ⟨h1,h2⟩:=h
  refine ⟨h1,?_⟩
  split
  .rename_i hv
   rw [if_pos hv] at h2
   exact ⟨h2.1,h2.2.1,hK _ _ _ _ h2.2.2⟩
  .rename_i hv
   rw [if_neg hv] at h2
   exact h2.imp (fun ⟨a,b⟩=>⟨a,dRun_mono hK b⟩) (fun ⟨a,b⟩=>⟨a,hK _ _ _ _ b⟩)
theorem dOp_mono {K':AV→CH→List Nat→Bool→Prop} (hK:∀α ws R c,K α ws R c→K' α ws R c) (h:dOp P n0 N1 i o env hp K):dOp P n0 N1 i o env hp K':=by
 unfold dOp at h ⊢
 split at h
 .exact ⟨h.1,dRun_mono hK h.2⟩
 .split at h
  .exact dG_mono hK h
  .exact dG_mono hK h
  .exact dG_mono hK h
  .exact h
end
theorem dRun2_dRun {P:Program} {n0 N1 i:Nat} {o:DO} {env:EN} {hp:CH} {K:AV→CH→List Nat→Bool→Prop} (h:dRun2 P n0 N1 i o env hp K):dRun P n0 N1 i o env hp K:=by
 unfold dRun2 at h
 split at h
 .rename_i hv
  have hc:o.o.op.isC=false:=by
   revert hv
   generalize o.o.op=op
   intro hv
   cases op<;>first | rfl | (simp [COp.isV] at hv)
  rw [dRun_e hc]
  obtain ⟨h1,h2⟩:=valK_val h
  have e:o.o.op.eff hp (fun s=>fet (s.ev env)) (n0+i)=match o.o.op.val hp (fun s=>fet (s.ev env)) with
   | some α=>some (α,[],o.o.op.rd fun s=>fet (s.ev env))
   | none=>none:=by
   revert hv
   generalize o.o.op=op
   intro hv
   cases op<;>first | rfl | (simp [COp.isV] at hv)
  have e2:o.o.op.effP hp (fun s=>fet (s.ev env))=o.o.op.pre hp fun s=>fet (s.ev env):=by
   revert hv
   generalize o.o.op=op
   intro hv
   cases op<;>first | rfl | (simp [COp.isV] at hv)
  rw [e,e2]
  refine ⟨h1,?_⟩
  revert h2
  generalize o.o.op.val hp (fun s=>fet (s.ev env))=x
  intro h2
  cases x with
  | none=>exact h2.elim
  | some α=>exact h2
 .exact h
theorem dRun2_mono {P:Program} {n0 N1 i:Nat} {o:DO} {env:EN} {hp:CH} {K K':AV→CH→List Nat→Bool→Prop} (hK:∀α ws R c,K α ws R c→K' α ws R c) (h:dRun2 P n0 N1 i o env hp K):dRun2 P n0 N1 i o env hp K':=by
 unfold dRun2 at h ⊢
 split
 .rename_i hv
  rw [hv] at h
  exact valK_mono (fun α h=>hK _ _ _ _ h) h
 .rename_i hv
  rw [hv] at h
  exact dRun_mono hK h
theorem dOp2_dOp {P:Program} {n0 N1 i:Nat} {o:DO} {env:EN} {hp:CH} {K:AV→CH→List Nat→Bool→Prop} (h:dOp2 P n0 N1 i o env hp K):dOp P n0 N1 i o env hp K:=by
 unfold dOp2 at h
 split at h
 .rename_i e
  unfold dOp
  rw [e]
  exact ⟨h.1,dRun2_dRun h.2⟩
 .exact h
theorem dOp2_mono {P:Program} {n0 N1 i:Nat} {o:DO} {env:EN} {hp:CH} {K K':AV→CH→List Nat→Bool→Prop} (hK:∀α ws R c,K α ws R c→K' α ws R c) (h:dOp2 P n0 N1 i o env hp K):dOp2 P n0 N1 i o env hp K':=by
 unfold dOp2 at h ⊢
 split at h
 .exact ⟨h.1,dRun2_mono hK h.2⟩
 .exact dOp_mono hK h
theorem vcD2_mono {P:Program} {n0 N1:Nat}:∀(l:List DO) (i:Nat) (env:EN) (hp:CH) (lg:List LE) (K K':EN→CH→Prop),(∀e h,K e h→K' e h)→vcD2 P n0 N1 i l env hp lg K→vcD2 P n0 N1 i l env hp lg K'
 | [],i,env,hp,lg,K,K',hK,h=>hK _ _ h
 | o::r,i,env,hp,lg,K,K',hK,h=>dOp2_mono (fun α ws R c ⟨h1,h2⟩=>⟨h1,vcD2_mono r _ _ _ _ K K' hK h2⟩) h
theorem vcD2_vcD {P:Program} {n0 N1:Nat}:∀(l:List DO) (i:Nat) (env:EN) (hp:CH) (lg:List LE) (K:EN→CH→Prop),vcD2 P n0 N1 i l env hp lg K→vcD P n0 N1 i l env hp lg K
 | [],i,env,hp,lg,K,h=>h
 | o::r,i,env,hp,lg,K,h=>dOp_mono (fun α ws R c ⟨h1,h2⟩=>⟨h1,by
   have:=vcD2_vcD r _ _ _ _ K h2
   cases hl:o.lg<;>rw [hl] at this<;>exact this⟩) (dOp2_dOp h)
end Go.Eng
