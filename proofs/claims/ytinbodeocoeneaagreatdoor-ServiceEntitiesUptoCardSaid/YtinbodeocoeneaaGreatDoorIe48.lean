/- Proof. Conditions: none. -/
import Derived.Test.YtinbodeocoeneaaGreatDoorIe47
open Nat renaming reduceEqDiff→Za,reduceBEq→Zb,reduceAdd→Zc,reduceLeDiff→Zd,reduceLT→Ze,reduceMul→Zf,reduceSub→Zg
open Int renaming reduceEq→Zh,reduceLT→Zi,reduceLE→Zj,reduceToNat→Zk
namespace Go.Proofs.YtinbodeocoeneaaGreatDoor
open Go.Eng
set_option linter.all false
set_option maxRecDepth 20000
set_option maxHeartbeats 1000000
theorem RepAt.up {hp hp':CH} {α:AV} {rep:Option Val} (h:RepAt hp α rep) (e:∀k cs,gc hp k=.bx cs→gc hp' k=.bx cs):RepAt hp' α rep:=by
 cases rep with
 | none=>exact h
 | some r =>
  obtain ⟨k,h1,h2⟩:=h
  exact ⟨k,h1,e k _ h2⟩
theorem vtext_ok (p:Pk) (ha:AOk p.args) (V:List Val) (hvl:V.length≤1048576) (hV:∀v∈V,LOk v) (hsm:∀v∈V,VSm v) (hB:avLL (mapC valC V)≤2000000000000) (hp:CH) (m:Nat) :
  MeetsF Tryz.prog 56 hp m [pkx p,.ds (mapC valC V)] (.s (ofL (txtL p.args V))):=by
 have hT:=tText_ok p.args (fun a h=>(ha.v a h).ok) (Nat.le_trans ha.b (by omega)) (Nat.le_trans ha.n (by omega))
 have hP:=jPrint_ok V (by omega) hV hB
 have hLL:=vList_ok V (by omega) fun v hv=>(hsm v hv).f
 have hal:=argsL_len ha
 have hpl:=prn_bound hV hB
 obtain ⟨R,hR⟩:∃R,txtL p.args V=R:=⟨_,rfl⟩
 have e:=hR
 rw [txtL] at e
 rw [hR]
 obtain ⟨A,hA⟩:∃A,argsL p.args=A:=⟨_,rfl⟩
 rw [hA] at hT e hal
 refine meetsF Tryz.func56 (by kernel_rfl) cc56 cr56 rfl fun hf=>?_;unfold ck56
 simp only [go_sem,↓reduceIte,Za,Zb,Zc,Zd,Ze,reduceCtorEq,Zf,Zg,Zh,Zi,Zj,Zk]
 refine vcCall.f (hT _ _) ?_
 simp only [go_sem,↓reduceIte,Za,Zb,Zc,Zd,Ze,reduceCtorEq,Zf,Zg,Zh,Zi,Zj,Zk]
 refine cdK_of (fun q=>?_) (fun q=>?_)
 .have c2:V=[]:=by
   have q:(V.length:Int)=0:=by simpa using q
   exact List.eq_nil_of_length_eq_zero (by omega)
  rw [if_pos c2,List.append_nil] at e
  subst e
  simp only [go_sem,↓reduceIte,Za,Zb,Zc,Zd,Ze,reduceCtorEq,Zf,Zg,Zh,Zi,Zj,Zk]
 .have c2:¬V=[]:=fun h=>by
   subst h
   simp at q
  rw [if_neg c2] at e
  simp only [go_sem,↓reduceIte,Za,Zb,Zc,Zd,Ze,reduceCtorEq,Zf,Zg,Zh,Zi,Zj,Zk]
  refine vcCall.f (hLL _ _) ?_
  simp only [go_sem,↓reduceIte,Za,Zb,Zc,Zd,Ze,reduceCtorEq,Zf,Zg,Zh,Zi,Zj,Zk]
  refine vcCall.f (hP _ _) ?_
  subst e
  simp (disch:=first | omega | (simp only [List.length_append,List.length_cons,List.length_nil];omega)) only [ite_ne,s_cat,mk_ofL,ofL_app,litS,List.cons_append,List.append_assoc,List.nil_append,List.append_nil,go_sem,↓reduceIte,Za,Zb,Zc,Zd,Ze,reduceCtorEq,Zf,Zg,Zh,Zi,Zj,Zk]
def SvM (gn:ByteArray) (g:List Dfn) (s:Sup) (d:Dat) (f:FuncId) (args:List AV) (r:AV):Prop:=∀(c:Nat) (hp:CH),gc hp c=.bx (rvC gn g s d)→∀m,MeetsF Tryz.prog f hp m (.bx c 0::args) r
def SvR (gn:ByteArray) (g:List Dfn) (s:Sup) (d:Dat) (rep:Option Val) (f:FuncId) (args:List AV) (r:AV):Prop:=∀(c:Nat) (hp:CH),gc hp c=.bx (rvC gn g s d)→∀α,RepAt hp α rep→∀m,MeetsF Tryz.prog f hp m (.bx c 0::(args++[α])) r
theorem vraw_of (gn:ByteArray) (g:List Dfn) (s:Sup) (hs:SOk s) (d:Dat) {B:Nat} (hd:DOk d B) (p:Pk)
  (hO:∀i,exB d i=true→SvR gn g s d none 120 [.i .i64 i,.ds (mapC pkC p.picks)] (vx (sObj g s d p.picks none i)))
  (v:Val) (hv:VSm v) (h:∀x∈v.items,SvM gn g s d 110 [vx x,pkx p] (vx (rawW d (compB s.doc p.tn) (sObj g s d p.picks none) x))) :
  SvM gn g s d 110 [vx v,pkx p] (vx (rawW d (compB s.doc p.tn) (sObj g s d p.picks none) v)):=by
 intro k hp hk m
 have hvi:=hv.f.i
 have hcp:=copy_ok v hv.f
 have e:=rawW_eq d (compB s.doc p.tn) (sObj g s d p.picks none) v
 have hC:=tComposite_ok s.doc (Nat.le_trans hs.d (by omega)) p.tn
 obtain ⟨C,hCe⟩:∃C,compB s.doc p.tn=C:=⟨_,rfl⟩
 obtain ⟨W,hW⟩:∃W,rawW d C (sObj g s d p.picks none)=W:=⟨_,rfl⟩
 rw [hCe] at e hC h ⊢
 rw [hW] at e h ⊢
 obtain ⟨R,hR⟩:∃R,W v=R:=⟨_,rfl⟩
 rw [hR] at e ⊢
 have hOn:=hO v.n
 obtain ⟨O,hOe⟩:∃O,sObj g s d p.picks none v.n=O:=⟨_,rfl⟩
 rw [hOe] at e hOn
 have hIt:=fun hp' (q:gc hp' k=.bx (rvC gn g s d)) m'=>vexists_ok gn g s d v.n (c:=k) (hp:=hp') q m'
 obtain ⟨X,hX⟩:∃X,exB d v.n=X:=⟨_,rfl⟩
 rw [hX] at e hOn
 rw [hX] at hIt
 refine meetsF Tryz.func110 (by kernel_rfl) cc110 cr110 rfl fun hf=>?_;unfold ck110
 have hlt:=bx_lt hf hk
 simp only [go_sem,↓reduceIte,Za,Zb,Zc,Zd,Ze,reduceCtorEq,Zf,Zg,Zh,Zi,Zj,Zk]
 refine cdK_of (fun c0=>?_) (fun c0=>?_)
 .rw [if_pos (by simp at c0;omega)] at e
  rw [e]
  simp only [c0,go_sem,↓reduceIte,Za,Zb,Zc,Zd,Ze,reduceCtorEq,Zf,Zg,Zh,Zi,Zj,Zk]
  refine vcCall.f (hcp _ _) ?_
  simp only [c0,go_sem,↓reduceIte,Za,Zb,Zc,Zd,Ze,reduceCtorEq,Zf,Zg,Zh,Zi,Zj,Zk]
 simp only [go_sem,↓reduceIte,Za,Zb,Zc,Zd,Ze,reduceCtorEq,Zf,Zg,Zh,Zi,Zj,Zk]
 refine cdK_of (fun c1=>?_) (fun c1=>?_)
 .rw [if_pos (by simp at c1;omega)] at e
  rw [e]
  simp only [c1,go_sem,↓reduceIte,Za,Zb,Zc,Zd,Ze,reduceCtorEq,Zf,Zg,Zh,Zi,Zj,Zk]
  refine vcCall.f (hcp _ _) ?_
  simp only [c1,go_sem,↓reduceIte,Za,Zb,Zc,Zd,Ze,reduceCtorEq,Zf,Zg,Zh,Zi,Zj,Zk]
 simp only [go_sem,↓reduceIte,Za,Zb,Zc,Zd,Ze,reduceCtorEq,Zf,Zg,Zh,Zi,Zj,Zk]
 refine cdK_of (fun c2=>?_) (fun c2=>?_)
 .rw [if_pos (by simp at c2;omega)] at e
  rw [e]
  simp only [c2,go_sem,↓reduceIte,Za,Zb,Zc,Zd,Ze,reduceCtorEq,Zf,Zg,Zh,Zi,Zj,Zk]
  refine vcCall.f (hcp _ _) ?_
  simp only [c2,go_sem,↓reduceIte,Za,Zb,Zc,Zd,Ze,reduceCtorEq,Zf,Zg,Zh,Zi,Zj,Zk]
 simp only [go_sem,↓reduceIte,Za,Zb,Zc,Zd,Ze,reduceCtorEq,Zf,Zg,Zh,Zi,Zj,Zk]
 refine cdK_of (fun c3=>?_) (fun c3=>?_)
 .rw [if_pos (by simp at c3;omega)] at e
  rw [e]
  simp only [c3,go_sem,↓reduceIte,Za,Zb,Zc,Zd,Ze,reduceCtorEq,Zf,Zg,Zh,Zi,Zj,Zk]
  refine vcCall.f (hcp _ _) ?_
  simp only [c3,go_sem,↓reduceIte,Za,Zb,Zc,Zd,Ze,reduceCtorEq,Zf,Zg,Zh,Zi,Zj,Zk]
 simp only [go_sem,↓reduceIte,Za,Zb,Zc,Zd,Ze,reduceCtorEq,Zf,Zg,Zh,Zi,Zj,Zk]
 refine cdK_of (fun c4=>?_) (fun c4=>?_)
 .rw [if_pos (by simp at c4;omega)] at e
  rw [e]
  simp only [c4,go_sem,↓reduceIte,Za,Zb,Zc,Zd,Ze,reduceCtorEq,Zf,Zg,Zh,Zi,Zj,Zk]
  refine vcCall.f (hcp _ _) ?_
  simp only [c4,go_sem,↓reduceIte,Za,Zb,Zc,Zd,Ze,reduceCtorEq,Zf,Zg,Zh,Zi,Zj,Zk]
 simp only [go_sem,↓reduceIte,Za,Zb,Zc,Zd,Ze,reduceCtorEq,Zf,Zg,Zh,Zi,Zj,Zk]
 refine cdK_of (fun c9=>?_) (fun c9=>?_)
 .rw [if_pos (by simp at c9;omega)] at e
  rw [e]
  simp only [c9,go_sem,↓reduceIte,Za,Zb,Zc,Zd,Ze,reduceCtorEq,Zf,Zg,Zh,Zi,Zj,Zk]
  refine vcCall.f (hcp _ _) ?_
  simp only [c9,go_sem,↓reduceIte,Za,Zb,Zc,Zd,Ze,reduceCtorEq,Zf,Zg,Zh,Zi,Zj,Zk]
 have cn:¬((0≤v.k∧v.k≤4)∨v.k=9):=by simp at c0 c1 c2 c3 c4 c9;omega
 rw [if_neg cn] at e
 simp only [go_sem,↓reduceIte,Za,Zb,Zc,Zd,Ze,reduceCtorEq,Zf,Zg,Zh,Zi,Zj,Zk]
 refine cdK_of (fun c5=>?_) (fun c5=>?_)
 .rw [if_pos (by simpa using c5)] at e
  simp only [go_sem,↓reduceIte,Za,Zb,Zc,Zd,Ze,reduceCtorEq,Zf,Zg,Zh,Zi,Zj,Zk]
  refine loop (fun q:Nat × Nat=>⟨[(0,.bx k 0),(5,.bx (m+1) 0),(6,.bx (m+2) 0),(7,.bx (m+3) 0),(25,.ds (mapC valC v.items)),(26,.i .i64 v.items.length),(27,.i .i64 q.1)],
    (m+1,.bx [.s p.key,.s p.on,.s p.name,.ds (mapC argC p.args),.s p.tn,.ds (mapC in1 p.tw),.s p.label,.i .i64 p.initial,.ds (mapC pkC p.picks)])::(m+2,.bx [.i .i64 0,.i .i64 0,.s ⟨#[]⟩,.e0,.e0])::(m+3,.bx [.i .i64 5,.i .i64 0,.s ⟨#[]⟩,.rw (m+4) q.1 q.1,.e0])::(m+4,.rw q.1 5 (mapC valC ((v.items.take q.1).map W)))::hp,q.2⟩)
   (fun q=>q.1≤v.items.length∧m+5≤q.2) (fun q=>v.items.length - q.1) (0,m+5) ?_ ?_ (fun ⟨j,n⟩ hj=>?_)
  .simp
  .refine (weak_b0 (c:=m+3) (i:=3) (m:=5) (gc_same _ _ _) rfl).trans (weak_ok ?_ (Sub.cons ?_ (Sub.cons ?_ (Sub.cons ?_ (Sub.cons ?_ (Sub.base hf ?_))))) (Nat.le_refl _))
   all_goals (simp (disch:=omega) only [ite_ne,go_sem,↓reduceIte,Za,Zb,Zc,Zd,Ze,reduceCtorEq,Zf,Zg,Zh,Zi,Zj,Zk])
   all_goals rfl
  dsimp only at hj
  obtain ⟨hj1,hj2⟩:=hj
  have hmn:m≤n:=by omega
  simp (disch:=omega) only [ite_ne,go_sem,↓reduceIte,Za,Zb,Zc,Zd,Ze,reduceCtorEq,Zf,Zg,Zh,Zi,Zj,Zk]
  refine cdK_of (fun q=>?_) (fun q=>?_)
  .have q:j<v.items.length:=by simpa using q
   obtain ⟨x,ex⟩:∃x,v.items[j]?=some x:=⟨v.items[j],by simp [q]⟩
   have hx:=h x (List.mem_of_getElem? ex) k
   have ht:((v.items.take j).map W).length=j:=by simp;omega
   have hst:=map_take_snocI W ex
   have k1:(j+1)*80≤140737488355328:=by omega
   have k2:j+1≤9223372036854775807:=by omega
   simp (disch:=omega) only [ite_ne,q,getK_s (mapC_get valC ex),go_sem,↓reduceIte,Za,Zb,Zc,Zd,Ze,reduceCtorEq,Zf,Zg,Zh,Zi,Zj,Zk]
   refine dCallR.f (fun _ hp' e=>hx _ ((e k (.inl (by omega))).trans (by (simp (disch:=omega) only [ite_ne,hk,go_sem,↓reduceIte,Za,Zb,Zc,Zd,Ze,reduceCtorEq,Zf,Zg,Zh,Zi,Zj,Zk]))) _) ?_
   simp (disch:=omega) only [ite_ne,q,getK_s (mapC_get valC ex),ht,k1,k2,go_sem,↓reduceIte,Za,Zb,Zc,Zd,Ze,reduceCtorEq,Zf,Zg,Zh,Zi,Zj,Zk]
   refine ⟨(j+1,_),⟨by dsimp only;omega,by dsimp only;omega⟩,by dsimp only;omega,weak_ok ?_ (Sub.cons ?_ (Sub.cons ?_ (Sub.cons ?_ (Sub.cons ?_ (Sub.base hf ?_))))) (Nat.le_refl _)⟩
   all_goals
    simp (disch:=omega) only [ite_ne,wr64s j (by omega),hst,hmn,go_sem,↓reduceIte,Za,Zb,Zc,Zd,Ze,reduceCtorEq,Zf,Zg,Zh,Zi,Zj,Zk]
  .have q:j=v.items.length:=by simp at q;omega
   subst q
   have hl1:(v.items.map W).length=v.items.length:=by simp
   have hl2:(v.items.map W).take v.items.length=v.items.map W:=List.take_of_length_le (by omega)
   rw [List.take_length]
   subst e
   simp (disch:=omega) only [ite_ne,hl1,hl2,Nat.le_refl,hmn,go_sem,↓reduceIte,Za,Zb,Zc,Zd,Ze,reduceCtorEq,Zf,Zg,Zh,Zi,Zj,Zk]
   try rfl
 have c5':¬v.k=5:=by simpa using c5
 rw [if_neg c5'] at e
 simp only [go_sem,↓reduceIte,Za,Zb,Zc,Zd,Ze,reduceCtorEq,Zf,Zg,Zh,Zi,Zj,Zk]
 refine cdK_of (fun c6=>?_) (fun c6=>?_)
 .rw [if_pos (by simpa using c6)] at e
  subst e
  simp only [go_sem,↓reduceIte,Za,Zb,Zc,Zd,Ze,reduceCtorEq,Zf,Zg,Zh,Zi,Zj,Zk]
  refine vcCall.f (vfail_ok _ _ _) ?_
  simp only [go_sem,↓reduceIte,Za,Zb,Zc,Zd,Ze,reduceCtorEq,Zf,Zg,Zh,Zi,Zj,Zk]
  rfl
 have c6':¬v.k=6:=by simpa using c6
 rw [if_neg c6'] at e
 simp only [go_sem,↓reduceIte,Za,Zb,Zc,Zd,Ze,reduceCtorEq,Zf,Zg,Zh,Zi,Zj,Zk]
 refine cdK_of (fun c8=>?_) (fun c8=>?_)
 .rw [if_pos (by simpa using c8)] at e
  simp only [go_sem,↓reduceIte,Za,Zb,Zc,Zd,Ze,reduceCtorEq,Zf,Zg,Zh,Zi,Zj,Zk]
  refine vcCall.f (hIt _ (by (simp (disch:=omega) only [ite_ne,hk,go_sem,↓reduceIte,Za,Zb,Zc,Zd,Ze,reduceCtorEq,Zf,Zg,Zh,Zi,Zj,Zk])) _) ?_
  simp only [go_sem,↓reduceIte,Za,Zb,Zc,Zd,Ze,reduceCtorEq,Zf,Zg,Zh,Zi,Zj,Zk]
  cases X with
  | false =>
   rw [if_neg (by simp)] at e
   subst e
   simp only [go_sem,↓reduceIte,Za,Zb,Zc,Zd,Ze,reduceCtorEq,Zf,Zg,Zh,Zi,Zj,Zk]
   try rfl
  | true =>
   rw [if_pos rfl] at e
   simp (disch:=omega) only [ite_ne,hk,go_sem,↓reduceIte,Za,Zb,Zc,Zd,Ze,reduceCtorEq,Zf,Zg,Zh,Zi,Zj,Zk]
   refine dCallR.f (fun _ hp' e=>hC _ _) ?_
   simp (disch:=omega) only [ite_ne,go_sem,↓reduceIte,Za,Zb,Zc,Zd,Ze,reduceCtorEq,Zf,Zg,Zh,Zi,Zj,Zk]
   cases C with
   | false =>
    rw [if_neg (by simp)] at e
    subst e
    simp only [go_sem,↓reduceIte,Za,Zb,Zc,Zd,Ze,reduceCtorEq,Zf,Zg,Zh,Zi,Zj,Zk]
    refine vcCall.f (vfail_ok _ _ _) ?_
    simp only [go_sem,↓reduceIte,Za,Zb,Zc,Zd,Ze,reduceCtorEq,Zf,Zg,Zh,Zi,Zj,Zk]
    rfl
   | true =>
    rw [if_pos rfl] at e
    subst e
    simp only [go_sem,↓reduceIte,Za,Zb,Zc,Zd,Ze,reduceCtorEq,Zf,Zg,Zh,Zi,Zj,Zk]
    refine vcCall.f (hOn rfl _ _ (by (simp (disch:=omega) only [ite_ne,hk,go_sem,↓reduceIte,Za,Zb,Zc,Zd,Ze,reduceCtorEq,Zf,Zg,Zh,Zi,Zj,Zk])) _ rfl _) ?_
    simp only [go_sem,↓reduceIte,Za,Zb,Zc,Zd,Ze,reduceCtorEq,Zf,Zg,Zh,Zi,Zj,Zk]
 .rw [if_neg (by simpa using c8)] at e
  subst e
  simp only [go_sem,↓reduceIte,Za,Zb,Zc,Zd,Ze,reduceCtorEq,Zf,Zg,Zh,Zi,Zj,Zk]
  try rfl
theorem vraw_ok (gn:ByteArray) (g:List Dfn) (s:Sup) (hs:SOk s) (d:Dat) {B:Nat} (hd:DOk d B) (p:Pk)
  (hO:∀i,exB d i=true→SvR gn g s d none 120 [.i .i64 i,.ds (mapC pkC p.picks)] (vx (sObj g s d p.picks none i)))
  (v:Val) (hv:VSm v):SvM gn g s d 110 [vx v,pkx p] (vx (rawW d (compB s.doc p.tn) (sObj g s d p.picks none) v)):=by
 have:=Val.ind (Q:=fun v=>VSm v→SvM gn g s d 110 [vx v,pkx p] (vx (rawW d (compB s.doc p.tn) (sObj g s d p.picks none) v)))
  (fun v ih hv=>vraw_of gn g s hs d hd p hO v hv (fun x hx=>ih x hx ⟨hv.f.x hx,hv.r.x hx,by
   have h1:=hv.b
   have h2:avL (valC x)≤avLL (mapC valC v.items):=avLL_in (List.mem_map_of_mem (f:=valC) hx)
   rw [avL_val] at h1
   omega⟩)) v
 exact this hv
theorem vread_of (gn:ByteArray) (g:List Dfn) (hg:g.length≤1048576) (hgf:∀t∈g,t.fields.length≤1000000000000) (s:Sup) (hs:SOk s) (d:Dat) {B:Nat} (hd:DOk d B) (p:Pk) (ha:AOk p.args)
  (hRw:∀v,VSm v→SvM gn g s d 110 [vx v,pkx p] (vx (rawW d (compB s.doc p.tn) (sObj g s d p.picks none) v)))
  (rep:Option Val) (hr:ROk rep) (i:Int) (hi:exB d i=true):SvR gn g s d rep 59 [.i .i64 i,pkx p] (vx (sPick g s d p rep i)):=by
 intro k hp hk α hα m
 have hD:=vdefines_ok gn g hg hgf (typD d i) p.name
 have hQ:=fun hp' (q:gc hp' k=.bx (rvC gn g s d)) α' (q2:RepAt hp' α' rep) m'=>vrequired_ok gn g s hs d hd i hi p.name rep hr (c:=k) (hp:=hp') q q2 m'
 have hvl:=sVals_len s d rep i p.name
 have hnl:=sNeed_len hs d i p.name
 have hT:=vtext_ok p ha (sVals s d rep i p.name) (by omega) (sVals_lok hd hr i p.name) (sVals_sm hd hr i p.name) (sVals_sum hs hd hr i p.name)
 have hL:=dLookup_ok d hd.f.f i p.name (ofL (sArg s d rep i p))
 have hR:=hRw _ (lookV_sm hd i p.name (ofL (sArg s d rep i p))) k
 have hsa:txtL p.args (sVals s d rep i p.name)=sArg s d rep i p:=rfl
 rw [hsa] at hT
 obtain ⟨R,hRe⟩:∃R,sPick g s d p rep i=R:=⟨_,rfl⟩
 have e:=hRe
 rw [sPick_eq,sPickW] at e
 unfold sTypename at e
 rw [hRe]
 obtain ⟨W,hW⟩:∃W,rawW d (compB s.doc p.tn) (sObj g s d p.picks none) (lookV d i p.name (ofL (sArg s d rep i p)))=W:=⟨_,rfl⟩
 rw [hW] at e hR
 obtain ⟨v,hv⟩:∃v,lookV d i p.name (ofL (sArg s d rep i p))=v:=⟨_,rfl⟩
 rw [hv] at hL hR
 obtain ⟨A,hAe⟩:∃A,ofL (sArg s d rep i p)=A:=⟨_,rfl⟩
 rw [hAe] at hT hL
 obtain ⟨F,hFe⟩:∃F,sFail s d rep i p.name=F:=⟨_,rfl⟩
 rw [hFe] at hQ e
 obtain ⟨V,hVe⟩:∃V,sVals s d rep i p.name=V:=⟨_,rfl⟩
 rw [hVe] at hQ hT
 obtain ⟨D,hDe⟩:∃D,defB g (typD d i) p.name=D:=⟨_,rfl⟩
 rw [hDe] at hD e
 obtain ⟨i',x,rfl,ex,hil,ht⟩:=exB_at hi
 rw [ht] at e hD
 refine meetsF Tryz.func59 (by kernel_rfl) cc59 cr59 rfl fun hf=>?_;unfold ck59
 have hlt:=bx_lt hf hk
 simp (disch:=omega) only [ite_ne,hk,hil,getK_s (mapC_get itC ex),go_sem,↓reduceIte,Za,Zb,Zc,Zd,Ze,reduceCtorEq,Zf,Zg,Zh,Zi,Zj,Zk]
 refine dCallR.f (fun _ _ _=>hD _ _) ?_
 simp (disch:=omega) only [ite_ne,hk,hil,getK_s (mapC_get itC ex),go_sem,↓reduceIte,Za,Zb,Zc,Zd,Ze,reduceCtorEq,Zf,Zg,Zh,Zi,Zj,Zk]
 cases D with
 | false =>
  rw [if_neg (by simp)] at e
  subst e
  simp only [go_sem,↓reduceIte,Za,Zb,Zc,Zd,Ze,reduceCtorEq,Zf,Zg,Zh,Zi,Zj,Zk]
  refine vcCall.f (vfail_ok _ _ _) ?_
  simp only [go_sem,↓reduceIte,Za,Zb,Zc,Zd,Ze,reduceCtorEq,Zf,Zg,Zh,Zi,Zj,Zk]
  rfl
 | true =>
 rw [if_pos rfl] at e
 simp only [go_sem,↓reduceIte,Za,Zb,Zc,Zd,Ze,reduceCtorEq,Zf,Zg,Zh,Zi,Zj,Zk]
 refine cdK_of (fun c=>?_) (fun c=>?_)
 .rw [if_pos (by simpa using c)] at e
  subst e
  simp only [go_sem,↓reduceIte,Za,Zb,Zc,Zd,Ze,reduceCtorEq,Zf,Zg,Zh,Zi,Zj,Zk]
  refine vcCall.f (vText_ok _ _ _) ?_
  simp only [go_sem,↓reduceIte,Za,Zb,Zc,Zd,Ze,reduceCtorEq,Zf,Zg,Zh,Zi,Zj,Zk]
 rw [if_neg (by simpa using c)] at e
 have hα2:α=.np∨∃k2,α=.bx k2 0:=by
  cases rep with
  | none=>exact .inl hα
  | some r =>
   obtain ⟨k2,h,_⟩:=hα
   exact .inr ⟨k2,h⟩
 rcases hα2 with rfl | ⟨k3,rfl⟩
 .simp only [go_sem,↓reduceIte,Za,Zb,Zc,Zd,Ze,reduceCtorEq,Zf,Zg,Zh,Zi,Zj,Zk]
  refine vcCall.f (hQ _ ?_ _ (hα.up fun k2 cs hk2=>?_) _) ?_
  .simp (disch:=omega) only [ite_ne,hk,go_sem,↓reduceIte,Za,Zb,Zc,Zd,Ze,reduceCtorEq,Zf,Zg,Zh,Zi,Zj,Zk]
  .have:=bx_lt hf hk2
   simp (disch:=omega) only [ite_ne,hk2,go_sem,↓reduceIte,Za,Zb,Zc,Zd,Ze,reduceCtorEq,Zf,Zg,Zh,Zi,Zj,Zk]
  simp only [go_sem,↓reduceIte,Za,Zb,Zc,Zd,Ze,reduceCtorEq,Zf,Zg,Zh,Zi,Zj,Zk]
  cases F with
  | true =>
   rw [if_pos rfl] at e
   subst e
   simp only [go_sem,↓reduceIte,Za,Zb,Zc,Zd,Ze,reduceCtorEq,Zf,Zg,Zh,Zi,Zj,Zk]
   refine vcCall.f (vfail_ok _ _ _) ?_
   simp only [go_sem,↓reduceIte,Za,Zb,Zc,Zd,Ze,reduceCtorEq,Zf,Zg,Zh,Zi,Zj,Zk]
   rfl
  | false =>
   rw [if_neg (by simp)] at e
   subst e
   simp (disch:=omega) only [ite_ne,hk,go_sem,↓reduceIte,Za,Zb,Zc,Zd,Ze,reduceCtorEq,Zf,Zg,Zh,Zi,Zj,Zk]
   refine dCallR.f (fun _ hp' e=>hT _ _) ?_
   simp (disch:=omega) only [ite_ne,hk,go_sem,↓reduceIte,Za,Zb,Zc,Zd,Ze,reduceCtorEq,Zf,Zg,Zh,Zi,Zj,Zk]
   refine dCallR.f (fun _ hp' e=>hL _ _) ?_
   simp (disch:=omega) only [ite_ne,hk,go_sem,↓reduceIte,Za,Zb,Zc,Zd,Ze,reduceCtorEq,Zf,Zg,Zh,Zi,Zj,Zk]
   refine dCallR.f (fun _ hp' e=>hR _ ((e k (.inl (by omega))).trans (by (simp (disch:=omega) only [ite_ne,hk,go_sem,↓reduceIte,Za,Zb,Zc,Zd,Ze,reduceCtorEq,Zf,Zg,Zh,Zi,Zj,Zk]))) _) ?_
   simp (disch:=omega) only [ite_ne,go_sem,↓reduceIte,Za,Zb,Zc,Zd,Ze,reduceCtorEq,Zf,Zg,Zh,Zi,Zj,Zk]
 .simp only [go_sem,↓reduceIte,Za,Zb,Zc,Zd,Ze,reduceCtorEq,Zf,Zg,Zh,Zi,Zj,Zk]
  refine vcCall.f (hQ _ ?_ _ (hα.up fun k2 cs hk2=>?_) _) ?_
  .simp (disch:=omega) only [ite_ne,hk,go_sem,↓reduceIte,Za,Zb,Zc,Zd,Ze,reduceCtorEq,Zf,Zg,Zh,Zi,Zj,Zk]
  .have:=bx_lt hf hk2
   simp (disch:=omega) only [ite_ne,hk2,go_sem,↓reduceIte,Za,Zb,Zc,Zd,Ze,reduceCtorEq,Zf,Zg,Zh,Zi,Zj,Zk]
  simp only [go_sem,↓reduceIte,Za,Zb,Zc,Zd,Ze,reduceCtorEq,Zf,Zg,Zh,Zi,Zj,Zk]
  cases F with
  | true =>
   rw [if_pos rfl] at e
   subst e
   simp only [go_sem,↓reduceIte,Za,Zb,Zc,Zd,Ze,reduceCtorEq,Zf,Zg,Zh,Zi,Zj,Zk]
   refine vcCall.f (vfail_ok _ _ _) ?_
   simp only [go_sem,↓reduceIte,Za,Zb,Zc,Zd,Ze,reduceCtorEq,Zf,Zg,Zh,Zi,Zj,Zk]
   rfl
  | false =>
   rw [if_neg (by simp)] at e
   subst e
   simp (disch:=omega) only [ite_ne,hk,go_sem,↓reduceIte,Za,Zb,Zc,Zd,Ze,reduceCtorEq,Zf,Zg,Zh,Zi,Zj,Zk]
   refine dCallR.f (fun _ hp' e=>hT _ _) ?_
   simp (disch:=omega) only [ite_ne,hk,go_sem,↓reduceIte,Za,Zb,Zc,Zd,Ze,reduceCtorEq,Zf,Zg,Zh,Zi,Zj,Zk]
   refine dCallR.f (fun _ hp' e=>hL _ _) ?_
   simp (disch:=omega) only [ite_ne,hk,go_sem,↓reduceIte,Za,Zb,Zc,Zd,Ze,reduceCtorEq,Zf,Zg,Zh,Zi,Zj,Zk]
   refine dCallR.f (fun _ hp' e=>hR _ ((e k (.inl (by omega))).trans (by (simp (disch:=omega) only [ite_ne,hk,go_sem,↓reduceIte,Za,Zb,Zc,Zd,Ze,reduceCtorEq,Zf,Zg,Zh,Zi,Zj,Zk]))) _) ?_
   simp (disch:=omega) only [ite_ne,go_sem,↓reduceIte,Za,Zb,Zc,Zd,Ze,reduceCtorEq,Zf,Zg,Zh,Zi,Zj,Zk]
end Go.Proofs.YtinbodeocoeneaaGreatDoor
