/- Proof. Conditions: none. -/
import Derived.Test.YtinbodeocoeneaaGreatDoorIe51
open Nat renaming reduceEqDiff→Za,reduceBEq→Zb,reduceAdd→Zc,reduceLeDiff→Zd,reduceLT→Ze,reduceMul→Zf,reduceSub→Zg
open Int renaming reduceEq→Zh,reduceLT→Zi,reduceLE→Zj,reduceToNat→Zk
open List renaming take_of_length_le→zlk
open Nat renaming le_refl→zna
namespace Go.Proofs.YtinbodeocoeneaaGreatDoor
open Go.Eng
set_option linter.all false
set_option maxRecDepth 20000
set_option maxHeartbeats 1000000
theorem graw_of (gn:ByteArray) (g:List Dfn) (s:Sup) (hs:SOk s) (d:Dat) {B:Nat} (hd:DOk d B) (r:Val) (b:Bool) (p:Pk)
  (hO:∀i,exB d i=true→∀hp m,MeetsF Tryz.prog 123 hp m [rdx gn g s d zVal false,.i .i64 i,.ds (mapC pkC p.picks)] (vx (sObj g s d p.picks none i)))
  (v:Val) (hv:VSm v) (h:∀x∈v.items,∀hp m,MeetsF Tryz.prog 118 hp m [rdx gn g s d r b,vx x,pkx p] (vx (rawW d (compB s.doc p.tn) (sObj g s d p.picks none) x))) (hp:CH) (m:Nat) :
  MeetsF Tryz.prog 118 hp m [rdx gn g s d r b,vx v,pkx p] (vx (rawW d (compB s.doc p.tn) (sObj g s d p.picks none) v)):=by
 have hvi:=hv.f.i
 have e:=rawW_eq d (compB s.doc p.tn) (sObj g s d p.picks none) v
 have hC:=rComposite_ok s.doc (Nat.le_trans hs.d (by omega)) p.tn
 obtain ⟨C,hCe⟩:∃C,compB s.doc p.tn=C:=⟨_,rfl⟩
 obtain ⟨W,hW⟩:∃W,rawW d C (sObj g s d p.picks none)=W:=⟨_,rfl⟩
 rw [hCe] at e hC h ⊢
 rw [hW] at e h ⊢
 obtain ⟨R,hR⟩:∃R,W v=R:=⟨_,rfl⟩
 rw [hR] at e ⊢
 have hOn:=hO v.n
 obtain ⟨O,hOe⟩:∃O,sObj g s d p.picks none v.n=O:=⟨_,rfl⟩
 rw [hOe] at e hOn
 obtain ⟨X,hX⟩:∃X,exB d v.n=X:=⟨_,rfl⟩
 have hXe:=hX
 rw [hX] at e hOn
 unfold exB at hXe
 refine meetsF Tryz.func118 (by kernel_rfl) cc118 cr118 rfl fun hf=>?_;unfold ck118
 simp only [go_sem,↓reduceIte,Za,Zb,Zc,Zd,Ze,reduceCtorEq,Zf,Zg,Zh,Zi,Zj,Zk]
 refine cdK_of (fun c5=>?_) (fun c5=>?_)
 .have cn:¬((0≤v.k∧v.k≤4)∨v.k=9):=by simp at c5;omega
  rw [if_neg cn,if_pos (by simpa using c5)] at e
  simp only [go_sem,↓reduceIte,Za,Zb,Zc,Zd,Ze,reduceCtorEq,Zf,Zg,Zh,Zi,Zj,Zk]
  refine loop (fun q:Nat × Nat=>⟨[(3,.bx m 0),(4,.bx (m+1) 0),(5,.bx (m+2) 0),(6,.bx (m+3) 0),(7,.bx (m+4) 0),(8,.i .i64 q.1)],
    (m,.bx [.s gn,.ds (mapC dfC g),.ds (stC s.g),.ds (mapC dfC s.doc),.ds (mapC kyC s.keys),.ds (mapC jnC s.joins),.ds (mapC itC d.i),.ds (mapC wrC d.w),.i .i64 r.k,.i .i64 r.n,.s r.s,.ds (mapC valC r.items),.ds (stC r.keys),.b b])::(m+1,.bx [.i .i64 v.k,.i .i64 v.n,.s v.s,.ds (mapC valC v.items),.ds (stC v.keys)])::(m+2,.bx [.s p.key,.s p.on,.s p.name,.ds (mapC argC p.args),.s p.tn,.ds (mapC in1 p.tw),.s p.label,.i .i64 p.initial,.ds (mapC pkC p.picks)])::(m+3,.bx [.i .i64 0,.i .i64 0,.s ⟨#[]⟩,.e0,.e0])::(m+4,.bx [.i .i64 5,.i .i64 0,.s ⟨#[]⟩,.rw (m+5) q.1 q.1,.e0])::(m+5,.rw q.1 5 (mapC valC ((v.items.take q.1).map W)))::hp,q.2⟩)
   (fun q=>q.1≤v.items.length∧m+6≤q.2) (fun q=>v.items.length - q.1) (0,m+6) ?_ ?_ (fun ⟨j,n⟩ hj=>?_)
  .simp
  .refine (weak_b0 (c:=m+4) (i:=3) (m:=5) (gc_same _ _ _) rfl).trans (weak_ok ?_ (Sub.cons ?_ (Sub.cons ?_ (Sub.cons ?_ (Sub.cons ?_ (Sub.cons ?_ (Sub.cons ?_ (Sub.base hf ?_))))))) (zna _))
   all_goals (simp (disch:=omega) only [ite_ne,go_sem,↓reduceIte,Za,Zb,Zc,Zd,Ze,reduceCtorEq,Zf,Zg,Zh,Zi,Zj,Zk])
   all_goals rfl
  dsimp only at hj
  obtain ⟨hj1,hj2⟩:=hj
  have hmn:m≤n:=by omega
  simp (disch:=omega) only [ite_ne,go_sem,↓reduceIte,Za,Zb,Zc,Zd,Ze,reduceCtorEq,Zf,Zg,Zh,Zi,Zj,Zk]
  refine cdK_of (fun q=>?_) (fun q=>?_)
  .have q:j<v.items.length:=by simpa using q
   obtain ⟨x,ex⟩:∃x,v.items[j]?=some x:=⟨v.items[j],by simp [q]⟩
   have hx:=h x (List.mem_of_getElem? ex)
   have ht:((v.items.take j).map W).length=j:=by simp;omega
   have hst:=map_take_snocI W ex
   have k1:(j+1)*80≤140737488355328:=by omega
   have k2:j+1≤9223372036854775807:=by omega
   simp (disch:=omega) only [ite_ne,q,getK_s (mapC_get valC ex),go_sem,↓reduceIte,Za,Zb,Zc,Zd,Ze,reduceCtorEq,Zf,Zg,Zh,Zi,Zj,Zk]
   refine dCallR.f (fun _ hp' e=>hx _ _) ?_
   simp (disch:=omega) only [ite_ne,q,getK_s (mapC_get valC ex),ht,k1,k2,go_sem,↓reduceIte,Za,Zb,Zc,Zd,Ze,reduceCtorEq,Zf,Zg,Zh,Zi,Zj,Zk]
   refine ⟨(j+1,_),⟨by dsimp only;omega,by dsimp only;omega⟩,by dsimp only;omega,weak_ok ?_ (Sub.cons ?_ (Sub.cons ?_ (Sub.cons ?_ (Sub.cons ?_ (Sub.cons ?_ (Sub.cons ?_ (Sub.base hf ?_))))))) (zna _)⟩
   all_goals
    simp (disch:=omega) only [ite_ne,wr64s j (by omega),hst,hmn,go_sem,↓reduceIte,Za,Zb,Zc,Zd,Ze,reduceCtorEq,Zf,Zg,Zh,Zi,Zj,Zk]
  .have q:j=v.items.length:=by simp at q;omega
   subst q
   have hl1:(v.items.map W).length=v.items.length:=by simp
   have hl2:(v.items.map W).take v.items.length=v.items.map W:=zlk (by omega)
   rw [List.take_length]
   subst e
   simp (disch:=omega) only [ite_ne,hl1,hl2,zna,hmn,go_sem,↓reduceIte,Za,Zb,Zc,Zd,Ze,reduceCtorEq,Zf,Zg,Zh,Zi,Zj,Zk]
   try rfl
 have c5':¬v.k=5:=by simpa using c5
 rw [if_neg c5'] at e
 simp only [go_sem,↓reduceIte,Za,Zb,Zc,Zd,Ze,reduceCtorEq,Zf,Zg,Zh,Zi,Zj,Zk]
 refine cdK_of (fun c6=>?_) (fun c6=>?_)
 .have cn:¬((0≤v.k∧v.k≤4)∨v.k=9):=by simp at c6;omega
  rw [if_neg cn,if_pos (by simpa using c6)] at e
  subst e
  simp only [go_sem,↓reduceIte,Za,Zb,Zc,Zd,Ze,reduceCtorEq,Zf,Zg,Zh,Zi,Zj,Zk]
  refine vcCall.f (gfail_ok _ _ _) ?_
  simp only [go_sem,↓reduceIte,Za,Zb,Zc,Zd,Ze,reduceCtorEq,Zf,Zg,Zh,Zi,Zj,Zk]
  try rfl
 have c6':¬v.k=6:=by simpa using c6
 rw [if_neg c6'] at e
 simp only [go_sem,↓reduceIte,Za,Zb,Zc,Zd,Ze,reduceCtorEq,Zf,Zg,Zh,Zi,Zj,Zk]
 refine cdK_of (fun c8=>?_) (fun c8=>?_)
 .have cn:¬((0≤v.k∧v.k≤4)∨v.k=9):=by simp at c8;omega
  rw [if_neg cn,if_pos (by simpa using c8)] at e
  simp only [go_sem,↓reduceIte,Za,Zb,Zc,Zd,Ze,reduceCtorEq,Zf,Zg,Zh,Zi,Zj,Zk]
  refine cdK_of (fun q=>?_) (fun q=>?_)
  .have q2:X=false:=by
    rw [←hXe]
    simp at q
    simp
    omega
   subst q2
   rw [if_neg (by simp)] at e
   subst e
   simp only [go_sem,↓reduceIte,Za,Zb,Zc,Zd,Ze,reduceCtorEq,Zf,Zg,Zh,Zi,Zj,Zk]
   try rfl
  .have q2:X=true:=by
    rw [←hXe]
    simp at q
    simp
    omega
   subst q2
   rw [if_pos rfl] at e
   simp only [go_sem,↓reduceIte,Za,Zb,Zc,Zd,Ze,reduceCtorEq,Zf,Zg,Zh,Zi,Zj,Zk]
   refine vcCall.f (hC _ _) ?_
   simp only [go_sem,↓reduceIte,Za,Zb,Zc,Zd,Ze,reduceCtorEq,Zf,Zg,Zh,Zi,Zj,Zk]
   cases C with
   | false =>
    rw [if_neg (by simp)] at e
    subst e
    simp only [go_sem,↓reduceIte,Za,Zb,Zc,Zd,Ze,reduceCtorEq,Zf,Zg,Zh,Zi,Zj,Zk]
    refine vcCall.f (gfail_ok _ _ _) ?_
    simp only [go_sem,↓reduceIte,Za,Zb,Zc,Zd,Ze,reduceCtorEq,Zf,Zg,Zh,Zi,Zj,Zk]
    try rfl
   | true =>
    rw [if_pos rfl] at e
    subst e
    simp only [go_sem,↓reduceIte,Za,Zb,Zc,Zd,Ze,reduceCtorEq,Zf,Zg,Zh,Zi,Zj,Zk]
    refine vcCall.f (MeetsF.cv ?_ (hOn rfl _ _)) ?_
    .simp only [go_sem,↓reduceIte,Za,Zb,Zc,Zd,Ze,reduceCtorEq,Zf,Zg,Zh,Zi,Zj,Zk]
     try rfl
    simp only [go_sem,↓reduceIte,Za,Zb,Zc,Zd,Ze,reduceCtorEq,Zf,Zg,Zh,Zi,Zj,Zk]
 have c8':¬v.k=8:=by simpa using c8
 rw [if_neg c8'] at e
 simp only [go_sem,↓reduceIte,Za,Zb,Zc,Zd,Ze,reduceCtorEq,Zf,Zg,Zh,Zi,Zj,Zk]
 refine cdK_of (fun c0=>?_) (fun c0=>?_)
 .rw [if_pos (by simp at c0;omega)] at e
  rw [e]
  simp only [c0,go_sem,↓reduceIte,Za,Zb,Zc,Zd,Ze,reduceCtorEq,Zf,Zg,Zh,Zi,Zj,Zk]
  try rfl
 simp only [go_sem,↓reduceIte,Za,Zb,Zc,Zd,Ze,reduceCtorEq,Zf,Zg,Zh,Zi,Zj,Zk]
 refine cdK_of (fun c1=>?_) (fun c1=>?_)
 .rw [if_pos (by simp at c1;omega)] at e
  rw [e]
  simp only [c1,go_sem,↓reduceIte,Za,Zb,Zc,Zd,Ze,reduceCtorEq,Zf,Zg,Zh,Zi,Zj,Zk]
  try rfl
 simp only [go_sem,↓reduceIte,Za,Zb,Zc,Zd,Ze,reduceCtorEq,Zf,Zg,Zh,Zi,Zj,Zk]
 refine cdK_of (fun c2=>?_) (fun c2=>?_)
 .rw [if_pos (by simp at c2;omega)] at e
  rw [e]
  simp only [c2,go_sem,↓reduceIte,Za,Zb,Zc,Zd,Ze,reduceCtorEq,Zf,Zg,Zh,Zi,Zj,Zk]
  try rfl
 simp only [go_sem,↓reduceIte,Za,Zb,Zc,Zd,Ze,reduceCtorEq,Zf,Zg,Zh,Zi,Zj,Zk]
 refine cdK_of (fun c3=>?_) (fun c3=>?_)
 .rw [if_pos (by simp at c3;omega)] at e
  rw [e]
  simp only [c3,go_sem,↓reduceIte,Za,Zb,Zc,Zd,Ze,reduceCtorEq,Zf,Zg,Zh,Zi,Zj,Zk]
  try rfl
 simp only [go_sem,↓reduceIte,Za,Zb,Zc,Zd,Ze,reduceCtorEq,Zf,Zg,Zh,Zi,Zj,Zk]
 refine cdK_of (fun c4=>?_) (fun c4=>?_)
 .rw [if_pos (by simp at c4;omega)] at e
  rw [e]
  simp only [c4,go_sem,↓reduceIte,Za,Zb,Zc,Zd,Ze,reduceCtorEq,Zf,Zg,Zh,Zi,Zj,Zk]
  try rfl
 simp only [go_sem,↓reduceIte,Za,Zb,Zc,Zd,Ze,reduceCtorEq,Zf,Zg,Zh,Zi,Zj,Zk]
 refine cdK_of (fun c9=>?_) (fun c9=>?_)
 .rw [if_pos (by simp at c9;omega)] at e
  rw [e]
  simp only [c9,go_sem,↓reduceIte,Za,Zb,Zc,Zd,Ze,reduceCtorEq,Zf,Zg,Zh,Zi,Zj,Zk]
  try rfl
 have cn:¬((0≤v.k∧v.k≤4)∨v.k=9):=by simp at c0 c1 c2 c3 c4 c9;omega
 rw [if_neg cn] at e
 subst e
 simp only [go_sem,↓reduceIte,Za,Zb,Zc,Zd,Ze,reduceCtorEq,Zf,Zg,Zh,Zi,Zj,Zk]
 try rfl
theorem graw_ok (gn:ByteArray) (g:List Dfn) (s:Sup) (hs:SOk s) (d:Dat) {B:Nat} (hd:DOk d B) (r:Val) (b:Bool) (p:Pk)
  (hO:∀i,exB d i=true→∀hp m,MeetsF Tryz.prog 123 hp m [rdx gn g s d zVal false,.i .i64 i,.ds (mapC pkC p.picks)] (vx (sObj g s d p.picks none i)))
  (v:Val) (hv:VSm v) (hp:CH) (m:Nat):MeetsF Tryz.prog 118 hp m [rdx gn g s d r b,vx v,pkx p] (vx (rawW d (compB s.doc p.tn) (sObj g s d p.picks none) v)):=by
 have:=Val.ind (Q:=fun v=>VSm v→∀hp m,MeetsF Tryz.prog 118 hp m [rdx gn g s d r b,vx v,pkx p] (vx (rawW d (compB s.doc p.tn) (sObj g s d p.picks none) v)))
  (fun v ih hv hp m=>graw_of gn g s hs d hd r b p hO v hv (fun x hx=>ih x hx ⟨hv.f.x hx,hv.r.x hx,by
   have h1:=hv.b
   have h2:avL (valC x)≤avLL (mapC valC v.items):=avLL_in (List.mem_map_of_mem (f:=valC) hx)
   rw [avL_val] at h1
   omega⟩) hp m) v
 exact this hv hp m
theorem gpick_of (gn:ByteArray) (g:List Dfn) (hg:g.length≤1048576) (hgf:∀t∈g,t.fields.length≤1000000000000) (s:Sup) (hs:SOk s) (d:Dat) {B:Nat} (hd:DOk d B) (r:Val) (hr:VSm r) (b:Bool) (p:Pk) (ha:AOk p.args)
  (hRw:∀v,VSm v→∀hp m,MeetsF Tryz.prog 118 hp m [rdx gn g s d r b,vx v,pkx p] (vx (rawW d (compB s.doc p.tn) (sObj g s d p.picks none) v)))
  (i:Int) (hi:exB d i=true) (hp:CH) (m:Nat):MeetsF Tryz.prog 66 hp m [rdx gn g s d r b,.i .i64 i,pkx p] (vx (sPick g s d p (repO r b) i)):=by
 have hD:=gdef_ok gn g hg hgf (typD d i) p.name
 have hF:=gfails_ok gn g s hs d hd r hr b i hi p
 have hT:=gtext_ok gn g s hs d hd r hr b i hi p ha
 have hL:=rLookup_ok d hd.f.f i p.name (ofL (sArg s d (repO r b) i p))
 have hR:=hRw _ (lookV_sm hd i p.name (ofL (sArg s d (repO r b) i p)))
 obtain ⟨R,hRe⟩:∃R,sPick g s d p (repO r b) i=R:=⟨_,rfl⟩
 have e:=hRe
 rw [sPick_eq,sPickW] at e
 unfold sTypename at e
 rw [hRe]
 obtain ⟨W,hW⟩:∃W,rawW d (compB s.doc p.tn) (sObj g s d p.picks none) (lookV d i p.name (ofL (sArg s d (repO r b) i p)))=W:=⟨_,rfl⟩
 rw [hW] at e hR
 obtain ⟨v,hv⟩:∃v,lookV d i p.name (ofL (sArg s d (repO r b) i p))=v:=⟨_,rfl⟩
 rw [hv] at hL hR
 obtain ⟨A,hAe⟩:∃A,ofL (sArg s d (repO r b) i p)=A:=⟨_,rfl⟩
 rw [hAe] at hT hL
 obtain ⟨F,hFe⟩:∃F,sFail s d (repO r b) i p.name=F:=⟨_,rfl⟩
 rw [hFe] at hF e
 obtain ⟨D,hDe⟩:∃D,defB g (typD d i) p.name=D:=⟨_,rfl⟩
 rw [hDe] at hD e
 obtain ⟨i',x,rfl,ex,hil,ht⟩:=exB_at hi
 rw [ht] at e hD
 refine meetsF Tryz.func66 (by kernel_rfl) cc66 cr66 rfl fun hf=>?_;unfold ck66
 simp (disch:=omega) only [ite_ne,hil,getK_s (mapC_get itC ex),go_sem,↓reduceIte,Za,Zb,Zc,Zd,Ze,reduceCtorEq,Zf,Zg,Zh,Zi,Zj,Zk]
 refine vcCall.f (hD _ _) ?_
 simp (disch:=omega) only [ite_ne,hil,getK_s (mapC_get itC ex),go_sem,↓reduceIte,Za,Zb,Zc,Zd,Ze,reduceCtorEq,Zf,Zg,Zh,Zi,Zj,Zk]
 cases D with
 | false =>
  rw [if_neg (by simp)] at e
  subst e
  simp only [go_sem,↓reduceIte,Za,Zb,Zc,Zd,Ze,reduceCtorEq,Zf,Zg,Zh,Zi,Zj,Zk]
  refine vcCall.f (gfail_ok _ _ _) ?_
  simp only [go_sem,↓reduceIte,Za,Zb,Zc,Zd,Ze,reduceCtorEq,Zf,Zg,Zh,Zi,Zj,Zk]
  try rfl
 | true =>
 rw [if_pos rfl] at e
 simp only [go_sem,↓reduceIte,Za,Zb,Zc,Zd,Ze,reduceCtorEq,Zf,Zg,Zh,Zi,Zj,Zk]
 refine cdK_of (fun c=>?_) (fun c=>?_)
 .rw [if_pos (by simpa using c)] at e
  subst e
  simp only [go_sem,↓reduceIte,Za,Zb,Zc,Zd,Ze,reduceCtorEq,Zf,Zg,Zh,Zi,Zj,Zk]
  refine vcCall.f (text_ok _ _ _) ?_
  simp only [go_sem,↓reduceIte,Za,Zb,Zc,Zd,Ze,reduceCtorEq,Zf,Zg,Zh,Zi,Zj,Zk]
 rw [if_neg (by simpa using c)] at e
 simp only [go_sem,↓reduceIte,Za,Zb,Zc,Zd,Ze,reduceCtorEq,Zf,Zg,Zh,Zi,Zj,Zk]
 refine vcCall.f (hF _ _) ?_
 simp only [go_sem,↓reduceIte,Za,Zb,Zc,Zd,Ze,reduceCtorEq,Zf,Zg,Zh,Zi,Zj,Zk]
 cases F with
 | true =>
  rw [if_pos rfl] at e
  subst e
  simp only [go_sem,↓reduceIte,Za,Zb,Zc,Zd,Ze,reduceCtorEq,Zf,Zg,Zh,Zi,Zj,Zk]
  refine vcCall.f (gfail_ok _ _ _) ?_
  simp only [go_sem,↓reduceIte,Za,Zb,Zc,Zd,Ze,reduceCtorEq,Zf,Zg,Zh,Zi,Zj,Zk]
  try rfl
 | false =>
  rw [if_neg (by simp)] at e
  subst e
  simp only [go_sem,↓reduceIte,Za,Zb,Zc,Zd,Ze,reduceCtorEq,Zf,Zg,Zh,Zi,Zj,Zk]
  refine dCallR.f (fun _ hp' e=>hT _ _) ?_
  simp (disch:=omega) only [ite_ne,go_sem,↓reduceIte,Za,Zb,Zc,Zd,Ze,reduceCtorEq,Zf,Zg,Zh,Zi,Zj,Zk]
  refine dCallR.f (fun _ hp' e=>hL _ _) ?_
  simp (disch:=omega) only [ite_ne,go_sem,↓reduceIte,Za,Zb,Zc,Zd,Ze,reduceCtorEq,Zf,Zg,Zh,Zi,Zj,Zk]
  refine dCallR.f (fun _ hp' e=>hR _ _) ?_
  simp (disch:=omega) only [ite_ne,go_sem,↓reduceIte,Za,Zb,Zc,Zd,Ze,reduceCtorEq,Zf,Zg,Zh,Zi,Zj,Zk]
theorem gobject_of (gn:ByteArray) (g:List Dfn) (s:Sup) (d:Dat) (r:Val) (b:Bool) (l:List Pk) (hl:l.length≤1048576) (i:Int) (hi:exB d i=true)
  (h:∀p∈l,∀hp m,MeetsF Tryz.prog 66 hp m [rdx gn g s d r b,.i .i64 i,pkx p] (vx (sPick g s d p (repO r b) i)))
  (hp:CH) (m:Nat):MeetsF Tryz.prog 123 hp m [rdx gn g s d r b,.i .i64 i,.ds (mapC pkC l)] (vx (sObj g s d l (repO r b) i)):=by
 obtain ⟨R,hR⟩:∃R,sObj g s d l (repO r b) i=R:=⟨_,rfl⟩
 have e:=hR
 rw [sObj] at e
 rw [hR]
 obtain ⟨i',x,rfl,ex,hil,ht⟩:=exB_at hi
 have hF:∀j p,l[j]?=some p→sFields g s d (l.take (j+1)) (repO r b) i'=if p.on=x.t then sFields g s d (l.take j) (repO r b) i'++[(p.key,sPick g s d p (repO r b) i')] else sFields g s d (l.take j) (repO r b) i':=by
  intro j p hjp
  rw [sFields_step hjp,ht]
 rw [ht] at e
 have hq:∀j,(sFields g s d (l.take j) (repO r b) i').length≤j:=fun j=>by
  have:=sFields_len g s d (repO r b) i' (l.take j)
  rw [List.length_take] at this
  omega
 refine meetsF Tryz.func123 (by kernel_rfl) cc123 cr123 rfl fun hf=>?_;unfold ck123
 simp (disch:=omega) only [ite_ne,hil,getK_s (mapC_get itC ex),go_sem,↓reduceIte,Za,Zb,Zc,Zd,Ze,reduceCtorEq,Zf,Zg,Zh,Zi,Zj,Zk]
 refine vcCall.f (text_ok _ _ _) ?_
 simp only [go_sem,↓reduceIte,Za,Zb,Zc,Zd,Ze,reduceCtorEq,Zf,Zg,Zh,Zi,Zj,Zk]
 refine loop (fun q:Nat × List (ByteArray × Val) × Nat=>⟨[(1,.i .i64 i'),(2,.ds (mapC pkC l)),(3,.bx m 0),(6,.bx (m+1) 0),(7,.s x.t),(8,.bx (m+4) 0),(9,.i .i64 q.1)],
   (m,.bx [.s gn,.ds (mapC dfC g),.ds (stC s.g),.ds (mapC dfC s.doc),.ds (mapC kyC s.keys),.ds (mapC jnC s.joins),.ds (mapC itC d.i),.ds (mapC wrC d.w),.i .i64 r.k,.i .i64 r.n,.s r.s,.ds (mapC valC r.items),.ds (stC r.keys),.b b])::(m+1,.bx [.i .i64 0,.i .i64 0,.s ⟨#[]⟩,.e0,.e0]) ::
   (m+4,.bx [.i .i64 6,.i .i64 0,.s ⟨#[]⟩,.rw (m+3) q.2.1.length (q.2.1.length+1),.rw (m+2) q.2.1.length (q.2.1.length+1)])::(m+3,.rw q.2.1.length 5 (mapC valC (txV x.t::q.2.1.map (·.2))))::(m+2,.rw q.2.1.length 1 (stC (⟨#[95,95,116]⟩::q.2.1.map (·.1))))::hp,q.2.2⟩)
  (fun q=>q.1≤l.length∧m+5≤q.2.2∧q.2.1=sFields g s d (l.take q.1) (repO r b) i') (fun q=>l.length - q.1) (0,[],m+5) ?_ ?_ (fun ⟨j,F,n⟩ hj=>?_)
 .exact ⟨by simp,by simp,by dsimp only;rw [List.take_zero,sFields_eq];rfl⟩
 .refine weak_ok ?_ (Sub.cons ?_ (Sub.cons ?_ (Sub.cons ?_ (Sub.cons ?_ (Sub.cons ?_ (Sub.base hf ?_)))))) (zna _)
  all_goals (simp (disch:=omega) only [ite_ne,go_sem,↓reduceIte,Za,Zb,Zc,Zd,Ze,reduceCtorEq,Zf,Zg,Zh,Zi,Zj,Zk])
  all_goals rfl
 dsimp only at hj
 obtain ⟨hj1,hj2,hj3⟩:=hj
 have hmn:m≤n:=by omega
 have hFl:F.length≤j:=by rw [hj3];exact hq j
 simp (disch:=omega) only [ite_ne,go_sem,↓reduceIte,Za,Zb,Zc,Zd,Ze,reduceCtorEq,Zf,Zg,Zh,Zi,Zj,Zk]
 refine cdK_of (fun q=>?_) (fun q=>?_)
 .have q:j<l.length:=by simpa using q
  obtain ⟨p,ep⟩:∃p,l[j]?=some p:=⟨l[j],by simp [q]⟩
  have hst:=hF j p ep
  have hrd:=h p (List.mem_of_getElem? ep)
  rw [←hj3] at hst
  have hl1:(F.map (·.2)).length=F.length:=by simp
  have hl2:(F.map (·.1)).length=F.length:=by simp
  have k1:(F.length+1+1)*80≤140737488355328:=by omega
  have k2:(F.length+1+1)*16≤140737488355328:=by omega
  have k3:F.length+1+1≤9223372036854775807:=by omega
  have k4:l.length - (j+1)<l.length - j:=by omega
  simp (disch:=omega) only [ite_ne,q,getK_s (mapC_get pkC ep),go_sem,↓reduceIte,Za,Zb,Zc,Zd,Ze,reduceCtorEq,Zf,Zg,Zh,Zi,Zj,Zk]
  refine cdK_of (fun c=>?_) (fun c=>?_)
  .have c:p.on=x.t:=by simpa using c
   rw [if_pos c] at hst
   simp (disch:=omega) only [ite_ne,q,getK_s (mapC_get pkC ep),hl1,hl2,k1,k2,k3,go_sem,↓reduceIte,Za,Zb,Zc,Zd,Ze,reduceCtorEq,Zf,Zg,Zh,Zi,Zj,Zk]
   refine dCallR.f (fun _ hp' e=>hrd _ _) ?_
   simp (disch:=omega) only [ite_ne,q,getK_s (mapC_get pkC ep),hl1,hl2,k1,k2,k3,go_sem,↓reduceIte,Za,Zb,Zc,Zd,Ze,reduceCtorEq,Zf,Zg,Zh,Zi,Zj,Zk]
   refine ⟨(j+1,F++[(p.key,sPick g s d p (repO r b) i')],_),⟨by dsimp only;omega,by dsimp only;omega,hst.symm⟩,k4,weak_ok ?_ (Sub.cons ?_ (Sub.cons ?_ (Sub.cons ?_ (Sub.cons ?_ (Sub.cons ?_ (Sub.base hf ?_)))))) (zna _)⟩
   all_goals
    simp (disch:=omega) only [ite_ne,wr64s j (by omega),hmn,List.length_append,List.length_cons,List.length_nil,List.map_append,List.map_cons,List.map_nil,go_sem,↓reduceIte,Za,Zb,Zc,Zd,Ze,reduceCtorEq,Zf,Zg,Zh,Zi,Zj,Zk]
  .have c:¬p.on=x.t:=by simpa using c
   rw [if_neg c] at hst
   simp (disch:=omega) only [ite_ne,go_sem,↓reduceIte,Za,Zb,Zc,Zd,Ze,reduceCtorEq,Zf,Zg,Zh,Zi,Zj,Zk]
   refine ⟨(j+1,F,_),⟨by dsimp only;omega,by dsimp only;omega,hst.symm⟩,k4,weak_ok ?_ (Sub.cons ?_ (Sub.cons ?_ (Sub.cons ?_ (Sub.cons ?_ (Sub.cons ?_ (Sub.base hf ?_)))))) (zna _)⟩
   all_goals
    simp (disch:=omega) only [ite_ne,wr64s j (by omega),hmn,go_sem,↓reduceIte,Za,Zb,Zc,Zd,Ze,reduceCtorEq,Zf,Zg,Zh,Zi,Zj,Zk]
 .have q:j=l.length:=by simp at q;omega
  subst q
  rw [List.take_length] at hj3
  rw [←hj3] at e
  subst e
  have hl1:(F.map (·.2)).length=F.length:=by simp
  have hl2:(F.map (·.1)).length=F.length:=by simp
  have hl3:(F.map (·.2)).take F.length=F.map (·.2):=zlk (by omega)
  have hl4:(F.map (·.1)).take F.length=F.map (·.1):=zlk (by omega)
  simp (disch:=omega) only [ite_ne,hl1,hl2,hl3,hl4,zna,hmn,go_sem,↓reduceIte,Za,Zb,Zc,Zd,Ze,reduceCtorEq,Zf,Zg,Zh,Zi,Zj,Zk]
  try rfl
theorem repO_none:repO zVal false=none:=rfl
theorem gpick_ok (gn:ByteArray) (g:List Dfn) (hg:g.length≤1048576) (hgf:∀t∈g,t.fields.length≤1000000000000) (s:Sup) (hs:SOk s) (d:Dat) {B:Nat} (hd:DOk d B) (p:Pk) (hpo:p.Ok) (r:Val) (hr:VSm r) (b:Bool) (i:Int) (hi:exB d i=true) (hp:CH) (m:Nat) :
  MeetsF Tryz.prog 66 hp m [rdx gn g s d r b,.i .i64 i,pkx p] (vx (sPick g s d p (repO r b) i)):=by
 have:=Pk.ind (Q:=fun p=>p.Ok→∀r,VSm r→∀b i,exB d i=true→∀hp m,MeetsF Tryz.prog 66 hp m [rdx gn g s d r b,.i .i64 i,pkx p] (vx (sPick g s d p (repO r b) i)))
  (fun p ih hpo r hr b i hi hp m=>gpick_of gn g hg hgf s hs d hd r hr b p hpo.a (fun v hv=>graw_ok gn g s hs d hd r b p
   (fun i hi hp m=>gobject_of gn g s d zVal false p.picks hpo.l i hi (fun x hx hp m=>ih x hx (hpo.x hx) zVal VSm.z false i hi hp m) hp m) v hv) i hi hp m) p
 exact this hpo r hr b i hi hp m
theorem gobject_ok (gn:ByteArray) (g:List Dfn) (hg:g.length≤1048576) (hgf:∀t∈g,t.fields.length≤1000000000000) (s:Sup) (hs:SOk s) (d:Dat) {B:Nat} (hd:DOk d B) (l:List Pk) (hl:l.length≤1048576) (hpo:∀p∈l,p.Ok) (r:Val) (hr:VSm r) (b:Bool) (i:Int) (hi:exB d i=true) (hp:CH) (m:Nat) :
  MeetsF Tryz.prog 123 hp m [rdx gn g s d r b,.i .i64 i,.ds (mapC pkC l)] (vx (sObj g s d l (repO r b) i)) :=
 gobject_of gn g s d r b l hl i hi (fun p hp hp' m=>gpick_ok gn g hg hgf s hs d hd p (hpo p hp) r hr b i hi hp' m) hp m
end Go.Proofs.YtinbodeocoeneaaGreatDoor
