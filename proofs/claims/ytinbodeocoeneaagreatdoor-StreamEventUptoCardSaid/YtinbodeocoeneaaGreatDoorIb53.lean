/- Proof. Conditions: none. -/
import Derived.Test.YtinbodeocoeneaaGreatDoorIb52
open Nat renaming reduceEqDiff→Za,reduceBEq→Zb,reduceAdd→Zc,reduceLeDiff→Zd,reduceLT→Ze,reduceMul→Zf,reduceSub→Zg
open Int renaming reduceEq→Zh,reduceLT→Zi,reduceLE→Zj,reduceToNat→Zk
open List renaming mem_of_getElem?→zla,drop_length→zll
open Nat renaming le_refl→zna
namespace Go.Proofs.YtinbodeocoeneaaGreatDoor
open Go.Eng
set_option linter.all false
theorem reads_case45 {α:AV} (h:AS Tryz.prog 38 α) (hb:avw α≤1048576):∃s d p,α=casex s d p∧COk s d p:=by
 obtain ⟨L,rfl,h2⟩:=as_struct Tryz.underlying38 h
 obtain ⟨parts,rfl,hl,hp⟩:=shp_struct Tryz.underlying38 h2
 obtain ⟨a,b,c,rfl⟩:=ds_n3 (show parts.length=3 from hl)
 simp only [List.flatten_cons,List.flatten_nil,avL_app,avL,avw] at hb
 obtain ⟨s,rfl,hs,hf⟩:=shp_supQ (hp 0 _ a rfl rfl) (by omega)
 obtain ⟨d,rfl,hd,hw⟩:=shp_datQ (hp 1 _ b rfl rfl) (by omega)
 obtain ⟨ts,rfl,hl2,hp2⟩:=shp_struct Tryz.underlying36 (hp 2 _ c rfl rfl)
 obtain ⟨t,u,rfl⟩:=ds_n2 (show ts.length=2 from hl2)
 obtain ⟨k,rfl,_⟩:=shp_int Tryz.underlying3 (hp2 0 _ t rfl rfl)
 obtain ⟨l,rfl,_,hx⟩:=shp_slice Tryz.underlying34 (hp2 1 _ u rfl rfl)
 simp only [List.flatten_cons,List.flatten_nil,avL_app,avL,avw] at hb
 obtain ⟨ps,rfl,hps⟩:=mapC_ofQ (c:=pkC) (Q:=fun p=>p.Ok) fun x h=>shp_pkQ (hx x h) (by have:=avLL_mem h;omega)
 have h1:=mapC_len_le pkC_one ps
 exact ⟨s,d,.mk k ps,rfl,⟨hs,hf,hd,hw,by simp only [Pln.l_mk];omega,hps⟩⟩
theorem in1_one (n:Int):1≤avL (in1 n):=by simp [in1,avL,avw]
theorem pk_fit (p:Pk):p.Ok→avL (pkC p)≤1048576→p.Fit:=by
 refine Pk.ind (Q:=fun p=>p.Ok→avL (pkC p)≤1048576→p.Fit) (fun p ih ho hb=>?_) p
 rw [pkC_eq] at hb
 simp only [avL,avw] at hb
 have h1:=mapC_len_le in1_one p.tw
 have h2:=ho.a.n
 have h3:=ho.l
 refine .mk p (by omega) (by omega) (by omega) (fun a ha=>(ho.a.v a ha).f) fun x hx=>ih x hx (ho.x hx) ?_
 have:=avLL_mem (List.mem_map_of_mem (f:=pkC) hx)
 have h4:avL (pkC x)≤avLL (mapC pkC p.picks):=this
 omega
theorem case_fit {s:Sup} {d:Dat} {p:Pln} (c:COk s d p) (hb:avw (casex s d p)≤1048576):∀x∈p.l,x.Fit:=fun x hx=>by
 simp only [casex,avL,avw] at hb
 have h4:avL (pkC x)≤avLL (mapC pkC p.l):=avLL_mem (List.mem_map_of_mem (f:=pkC) hx)
 exact pk_fit x (c.p x hx) (by omega)
theorem readsS_val {α:AV} (h:AS Tryz.prog 42 α) (hb:avw α≤1048576):∃v,α=vx v∧VSm v:=by
 obtain ⟨L,rfl,h2⟩:=as_struct Tryz.underlying42 h
 simp only [avw] at hb
 obtain ⟨v,rfl,hv⟩:=shp_valQ h2 (by omega)
 exact ⟨v,by rw [valC_eq],hv⟩
set_option maxRecDepth 20000
def ROk (rep:Option Val):Prop:=∀r,rep=some r→VSm r
theorem ROk.none:ROk none:=fun r h=>by cases h
theorem tNeeds_ok (s:Sup) (hs:SOk s) (t f:ByteArray) (hp:CH) (m:Nat):MeetsF Tryz.prog 98 hp m [supx s,.s t,.s f] (.ds (stC (reqJ s.joins t f))):=by
 have hjl:=hs.j
 have hrl:=reqJ_len hs.r t f
 obtain ⟨R,hR⟩:∃R,reqJ s.joins t f=R:=⟨_,rfl⟩
 rw [hR] at hrl ⊢
 have hcl:=clone_ok R (by omega)
 refine meetsF Tryz.func98 (by kernel_rfl) cc98 cr98 rfl fun hf=>?_;unfold ck98
 simp only [go_sem,↓reduceIte,Za,Zb,Zc,Zd,Ze,reduceCtorEq,Zf,Zg,Zh,Zi,Zj,Zk]
 refine loop (fun q:Nat × Nat=>⟨[(1,.s t),(2,.s f),(10,.ds (mapC jnC s.joins)),(11,.i .i64 s.joins.length),(12,.i .i64 q.1)],(m,.bx [.ds (stC s.g),.ds (mapC dfC s.doc),.ds (mapC kyC s.keys),.ds (mapC jnC s.joins)])::hp,q.2⟩)
  (fun q=>q.1≤s.joins.length∧m+1≤q.2∧R=reqJ (s.joins.drop q.1) t f) (fun q=>s.joins.length - q.1) (0,m+1) ?_ ?_ (fun ⟨j,n⟩ hj=>?_)
 .exact ⟨by simp,by simp,hR.symm⟩
 .refine weak_ok ?_ (Sub.cons ?_ (Sub.base hf ?_)) (zna _)
  all_goals (simp (disch:=omega) only [ite_ne,go_sem,↓reduceIte,Za,Zb,Zc,Zd,Ze,reduceCtorEq,Zf,Zg,Zh,Zi,Zj,Zk])
 dsimp only at hj
 obtain ⟨hj1,hj2,hj3⟩:=hj
 have hmn:m≤n:=by omega
 simp (disch:=omega) only [ite_ne,go_sem,↓reduceIte,Za,Zb,Zc,Zd,Ze,reduceCtorEq,Zf,Zg,Zh,Zi,Zj,Zk]
 refine cdK_of (fun q=>?_) (fun q=>?_)
 .have q:j<s.joins.length:=by simpa using q
  obtain ⟨y,ey⟩:∃y,s.joins[j]?=some y:=⟨s.joins[j],by simp [q]⟩
  rw [drop_at ey,reqJ_cons] at hj3
  simp (disch:=omega) only [ite_ne,q,getK_s (mapC_get jnC ey),go_sem,↓reduceIte,Za,Zb,Zc,Zd,Ze,reduceCtorEq,Zf,Zg,Zh,Zi,Zj,Zk]
  refine cdK_of (fun c=>?_) (fun c=>?_)
  .have c:y.t=t∧y.f=f∧0<y.req.length:=by
    simp only [Bool.and_eq_true,decide_eq_true_eq] at c
    exact ⟨c.1.1,c.1.2,by omega⟩
   rw [if_pos c] at hj3
   subst hj3
   simp (disch:=omega) only [ite_ne,go_sem,↓reduceIte,Za,Zb,Zc,Zd,Ze,reduceCtorEq,Zf,Zg,Zh,Zi,Zj,Zk]
   refine vcCall.f (hcl _ _) ?_
   simp (disch:=omega) only [ite_ne,hmn,go_sem,↓reduceIte,Za,Zb,Zc,Zd,Ze,reduceCtorEq,Zf,Zg,Zh,Zi,Zj,Zk]
  .have c:¬(y.t=t∧y.f=f∧0<y.req.length):=by
    rintro ⟨c1,c2,c3⟩
    rw [Bool.eq_false_iff] at c
    exact c (by simp only [Bool.and_eq_true,decide_eq_true_eq];exact ⟨⟨c1,c2⟩,by omega⟩)
   rw [if_neg c] at hj3
   simp (disch:=omega) only [ite_ne,go_sem,↓reduceIte,Za,Zb,Zc,Zd,Ze,reduceCtorEq,Zf,Zg,Zh,Zi,Zj,Zk]
   refine ⟨(j+1,_),⟨by dsimp only;omega,by dsimp only;omega,hj3⟩,by dsimp only;omega,weak_ok ?_ (Sub.cons ?_ (Sub.base hf ?_)) (zna _)⟩
   all_goals
    simp (disch:=omega) only [ite_ne,wr64s j (by omega),hmn,go_sem,↓reduceIte,Za,Zb,Zc,Zd,Ze,reduceCtorEq,Zf,Zg,Zh,Zi,Zj,Zk]
 .have q:j=s.joins.length:=by simp at q;omega
  subst q
  rw [zll] at hj3
  have hj3:R=[]:=hj3
  subst hj3
  simp (disch:=omega) only [ite_ne,hmn,go_sem,↓reduceIte,Za,Zb,Zc,Zd,Ze,reduceCtorEq,Zf,Zg,Zh,Zi,Zj,Zk]
noncomputable def findJ (l:List Jn) (t f:ByteArray) (g:Int):Option Jn:=l.find? fun y=>decide (y.t=t)&&(decide (y.f=f)&&decide (y.g=g))
def zJn:Jn:=.mk ⟨#[]⟩ ⟨#[]⟩ 0 false [] []
abbrev jnx (y:Jn):AV:=.ag [.s y.t,.s y.f,.i .i64 y.g,.b y.x,.ds (stC y.req),.ds (stC y.prov)]
noncomputable def resJ (o:Option Jn):AV:=.tp [jnx (o.getD zJn),.b o.isSome]
theorem findJ_cons (y:Jn) (l:List Jn) (t f:ByteArray) (g:Int):findJ (y::l) t f g=if y.t=t∧y.f=f∧y.g=g then some y else findJ l t f g:=by
 unfold findJ
 rw [List.find?_cons]
 by_cases c:y.t=t∧y.f=f∧y.g=g
 .simp [c]
 .rw [if_neg c]
  have:(decide (y.t=t)&&(decide (y.f=f)&&decide (y.g=g)))=false:=by
   rw [Bool.eq_false_iff]
   intro h
   simp only [Bool.and_eq_true,decide_eq_true_eq] at h
   exact c h
  rw [this]
def JOk (s:Sup):Prop:=∀y∈s.joins,y.req.length≤1048576∧y.prov.length≤1048576
theorem tFind2_ok (s:Sup) (hs:SOk s) (hj0:JOk s) (t f:ByteArray) (g:Int) (hp:CH) (m:Nat):MeetsF Tryz.prog 42 hp m [supx s,.s t,.s f,.i .i64 g] (resJ (findJ s.joins t f g)):=by
 have hjl:=hs.j
 obtain ⟨R,hR⟩:∃R,findJ s.joins t f g=R:=⟨_,rfl⟩
 rw [hR,resJ]
 refine meetsF Tryz.func42 (by kernel_rfl) cc42 cr42 rfl fun hf=>?_;unfold ck42
 simp only [go_sem,↓reduceIte,Za,Zb,Zc,Zd,Ze,reduceCtorEq,Zf,Zg,Zh,Zi,Zj,Zk]
 refine loop (fun q:Nat × Nat=>⟨[(1,.s t),(2,.s f),(3,.i .i64 g),(8,.bx (m+1) 0),(13,.ds (mapC jnC s.joins)),(14,.i .i64 s.joins.length),(15,.i .i64 q.1)],(m,.bx [.ds (stC s.g),.ds (mapC dfC s.doc),.ds (mapC kyC s.keys),.ds (mapC jnC s.joins)])::(m+1,.bx [.s ⟨#[]⟩,.s ⟨#[]⟩,.i .i64 0,.b false,.e0,.e0])::hp,q.2⟩)
  (fun q=>q.1≤s.joins.length∧m+2≤q.2∧R=findJ (s.joins.drop q.1) t f g) (fun q=>s.joins.length - q.1) (0,m+2) ?_ ?_ (fun ⟨j,n⟩ hj=>?_)
 .exact ⟨by simp,by simp,hR.symm⟩
 .refine weak_ok ?_ (Sub.cons ?_ (Sub.cons ?_ (Sub.base hf ?_))) (zna _)
  all_goals (simp (disch:=omega) only [ite_ne,go_sem,↓reduceIte,Za,Zb,Zc,Zd,Ze,reduceCtorEq,Zf,Zg,Zh,Zi,Zj,Zk])
 dsimp only at hj
 obtain ⟨hj1,hj2,hj3⟩:=hj
 have hmn:m≤n:=by omega
 simp (disch:=omega) only [ite_ne,go_sem,↓reduceIte,Za,Zb,Zc,Zd,Ze,reduceCtorEq,Zf,Zg,Zh,Zi,Zj,Zk]
 refine cdK_of (fun q=>?_) (fun q=>?_)
 .have q:j<s.joins.length:=by simpa using q
  obtain ⟨y,ey⟩:∃y,s.joins[j]?=some y:=⟨s.joins[j],by simp [q]⟩
  obtain ⟨l1,l2⟩:=hj0 y (zla ey)
  rw [drop_at ey,findJ_cons] at hj3
  simp (disch:=omega) only [ite_ne,q,getK_s (mapC_get jnC ey),go_sem,↓reduceIte,Za,Zb,Zc,Zd,Ze,reduceCtorEq,Zf,Zg,Zh,Zi,Zj,Zk]
  refine cdK_of (fun c=>?_) (fun c=>?_)
  .have c:y.t=t∧y.f=f∧y.g=g:=by
    simp only [Bool.and_eq_true,decide_eq_true_eq] at c
    exact ⟨c.1.1,c.1.2,c.2⟩
   rw [if_pos c] at hj3
   subst hj3
   simp (disch:=omega) only [ite_ne,go_sem,↓reduceIte,Za,Zb,Zc,Zd,Ze,reduceCtorEq,Zf,Zg,Zh,Zi,Zj,Zk]
   refine dCallR.f (fun _ _ _=>clone_ok y.req (by omega) _ _) ?_
   simp (disch:=omega) only [ite_ne,go_sem,↓reduceIte,Za,Zb,Zc,Zd,Ze,reduceCtorEq,Zf,Zg,Zh,Zi,Zj,Zk]
   refine dCallR.f (fun _ _ _=>clone_ok y.prov (by omega) _ _) ?_
   simp (disch:=omega) only [ite_ne,hmn,q,getK_s (mapC_get jnC ey),go_sem,↓reduceIte,Za,Zb,Zc,Zd,Ze,reduceCtorEq,Zf,Zg,Zh,Zi,Zj,Zk]
   try rfl
  .have c:¬(y.t=t∧y.f=f∧y.g=g):=by
    rintro ⟨c1,c2,c3⟩
    rw [Bool.eq_false_iff] at c
    exact c (by simp only [Bool.and_eq_true,decide_eq_true_eq];exact ⟨⟨c1,c2⟩,c3⟩)
   rw [if_neg c] at hj3
   simp (disch:=omega) only [ite_ne,go_sem,↓reduceIte,Za,Zb,Zc,Zd,Ze,reduceCtorEq,Zf,Zg,Zh,Zi,Zj,Zk]
   refine ⟨(j+1,_),⟨by dsimp only;omega,by dsimp only;omega,hj3⟩,by dsimp only;omega,weak_ok ?_ (Sub.cons ?_ (Sub.cons ?_ (Sub.base hf ?_))) (zna _)⟩
   all_goals
    simp (disch:=omega) only [ite_ne,wr64s j (by omega),hmn,go_sem,↓reduceIte,Za,Zb,Zc,Zd,Ze,reduceCtorEq,Zf,Zg,Zh,Zi,Zj,Zk]
 .have q:j=s.joins.length:=by simp at q;omega
  subst q
  rw [zll] at hj3
  have hj3:R=none:=hj3
  subst hj3
  simp (disch:=omega) only [ite_ne,hmn,go_sem,↓reduceIte,Za,Zb,Zc,Zd,Ze,reduceCtorEq,Zf,Zg,Zh,Zi,Zj,Zk]
  try rfl
set_option maxHeartbeats 1000000
noncomputable def few45 (s:Sup) (d:Dat) (p:Pln) (v:Val):Bool:=if (lgX s d p.l||decide (szV v > 30))=true then false else p.l.all fun x=>!lgX s d x.picks
theorem few45_ok (s:Sup) (d:Dat) (p:Pln) (c:COk s d p) (v:Val) (hv:v.Fit) (hp:CH) (m:Nat):MeetsF Tryz.prog 10 hp m [casex s d p,vx v] (.b (few45 s d p v)):=by
 have h1:=rLarge_ok s c.s c.f d c.d (by omega) p.l c.l c.p
 have h2:=size_ok v hv
 have h3:=fun x (hx:x∈p.l)=>rLarge_ok s c.s c.f d c.d (by omega) x.picks (c.p x hx).l (fun y hy=>(c.p x hx).x hy)
 have hl:=c.l
 obtain ⟨R,hR⟩:∃R,few45 s d p v=R:=⟨_,rfl⟩
 have e:=hR
 rw [hR]
 rw [few45] at e
 obtain ⟨L,hL⟩:∃L,lgX s d p.l=L:=⟨_,rfl⟩
 obtain ⟨S,hS⟩:∃S,szV v=S:=⟨_,rfl⟩
 rw [hL] at h1 e
 rw [hS] at h2 e
 refine meetsF Tryz.func10 (by kernel_rfl) cc10 cr10 rfl fun hf=>?_;unfold ck10
 simp only [go_sem,↓reduceIte,Za,Zb,Zc,Zd,Ze,reduceCtorEq,Zf,Zg,Zh,Zi,Zj,Zk]
 refine vcCall.f (h1 _ _) ?_
 simp only [go_sem,↓reduceIte,Za,Zb,Zc,Zd,Ze,reduceCtorEq,Zf,Zg,Zh,Zi,Zj,Zk]
 refine gCall.f (fun _=>h2 _ _) ?_
 simp only [go_sem,↓reduceIte,Za,Zb,Zc,Zd,Ze,reduceCtorEq,Zf,Zg,Zh,Zi,Zj,Zk]
 refine cdK_of (fun q=>?_) (fun q=>?_)
 .rw [if_pos (by simpa using q)] at e
  subst e
  simp only [go_sem,↓reduceIte,Za,Zb,Zc,Zd,Ze,reduceCtorEq,Zf,Zg,Zh,Zi,Zj,Zk]
 rw [if_neg (by simpa using q)] at e
 simp only [go_sem,↓reduceIte,Za,Zb,Zc,Zd,Ze,reduceCtorEq,Zf,Zg,Zh,Zi,Zj,Zk]
 refine loop (fun q:Nat × Nat=>⟨[(2,.bx m 0),(5,.i .i64 q.1)],(m,.bx [.ds (stC s.g),.ds (mapC dfC s.doc),.ds (mapC kyC s.keys),.ds (mapC jnC s.joins),.ds (mapC itC d.i),.ds (mapC wrC d.w),.i .i64 p.k,.ds (mapC pkC p.l)])::hp,q.2⟩)
  (fun q=>q.1≤p.l.length∧m+1≤q.2∧R=(p.l.drop q.1).all fun x=>!lgX s d x.picks) (fun q=>p.l.length - q.1) (0,m+2) ?_ ?_ (fun ⟨j,n⟩ hj=>?_)
 .exact ⟨by simp,by simp,e.symm⟩
 .refine weak_ok ?_ (Sub.cons ?_ (Sub.base hf ?_)) (zna _)
  all_goals (simp (disch:=omega) only [ite_ne,go_sem,↓reduceIte,Za,Zb,Zc,Zd,Ze,reduceCtorEq,Zf,Zg,Zh,Zi,Zj,Zk])
 dsimp only at hj
 obtain ⟨hj1,hj2,hj3⟩:=hj
 have hmn:m≤n:=by omega
 simp (disch:=omega) only [ite_ne,go_sem,↓reduceIte,Za,Zb,Zc,Zd,Ze,reduceCtorEq,Zf,Zg,Zh,Zi,Zj,Zk]
 refine cdK_of (fun q=>?_) (fun q=>?_)
 .have q:j<p.l.length:=by simpa using q
  obtain ⟨x,ex⟩:∃x,p.l[j]?=some x:=⟨p.l[j],by simp [q]⟩
  have hx:=h3 x (zla ex)
  rw [drop_at ex,List.all_cons] at hj3
  obtain ⟨b,hb⟩:∃b,lgX s d x.picks=b:=⟨_,rfl⟩
  rw [hb] at hx hj3
  simp (disch:=omega) only [ite_ne,q,getK_s (mapC_get pkC ex),go_sem,↓reduceIte,Za,Zb,Zc,Zd,Ze,reduceCtorEq,Zf,Zg,Zh,Zi,Zj,Zk]
  refine dCallR.f (fun _ _ _=>hx _ _) ?_
  simp (disch:=omega) only [ite_ne,q,getK_s (mapC_get pkC ex),go_sem,↓reduceIte,Za,Zb,Zc,Zd,Ze,reduceCtorEq,Zf,Zg,Zh,Zi,Zj,Zk]
  cases b with
  | true =>
   have hj3:R=false:=by simpa using hj3
   subst hj3
   simp (disch:=omega) only [ite_ne,hmn,go_sem,↓reduceIte,Za,Zb,Zc,Zd,Ze,reduceCtorEq,Zf,Zg,Zh,Zi,Zj,Zk]
  | false =>
   have hj3:R=(p.l.drop (j+1)).all fun x=>!lgX s d x.picks:=by simpa using hj3
   simp (disch:=omega) only [ite_ne,go_sem,↓reduceIte,Za,Zb,Zc,Zd,Ze,reduceCtorEq,Zf,Zg,Zh,Zi,Zj,Zk]
   refine ⟨(j+1,_),⟨by dsimp only;omega,by dsimp only;omega,hj3⟩,by dsimp only;omega,weak_ok ?_ (Sub.cons ?_ (Sub.base hf ?_)) (zna _)⟩
   all_goals
    simp (disch:=omega) only [ite_ne,wr64s j (by omega),hmn,go_sem,↓reduceIte,Za,Zb,Zc,Zd,Ze,reduceCtorEq,Zf,Zg,Zh,Zi,Zj,Zk]
 .have q:j=p.l.length:=by simp at q;omega
  subst q
  rw [zll] at hj3
  have hj3:R=true:=hj3
  subst hj3
  simp (disch:=omega) only [ite_ne,hmn,go_sem,↓reduceIte,Za,Zb,Zc,Zd,Ze,reduceCtorEq,Zf,Zg,Zh,Zi,Zj,Zk]
noncomputable def eachR (s:Sup) (d:Dat) (p:Pln) (l:List Val):Option (List Val):=(srcP p).map fun x=>l.map (eventV s d p x)
noncomputable def resEs (o:Option (List Val)):AV:=.tp [.ds (mapC valC (o.getD [])),.i .i64 (if o.isSome=true then 0 else 2)]
theorem eventV_fit (s:Sup) (d:Dat) {B:Nat} (hd:DOk d B) (hi:d.i.length≤1048576) (hB:B≤1000000000) (p:Pln) (hk:p.k=3) (hl:p.l.length≤1048576) (hpo:∀x∈p.l,x.Ok) (x:Pk) (v:Val) (hv:VSm v):(eventV s d p x v).Fit :=
 runV_fit s (withD s d x v) p (withD_dok (s:=s) (x:=x) hd hv hi (by omega)) hl hpo (fun q=>by omega)
theorem srcP_k {p:Pln} {x:Pk} (h:srcP p=some x):p.k=3:=(srcP_some h).1
theorem tEventF_ok (s:Sup) (hs:SOk s) (d:Dat) {B:Nat} (hd:DOk d B) (hi:d.i.length≤1048576) (hB:B≤1000000000) (p:Pln) (hf:∀x∈p.l,x.Fit) (hl:p.l.length≤1048576) (hpo:∀x∈p.l,x.Ok) (v:Val) (hv:VSm v) (hp:CH) (m:Nat) :
  MeetsF Tryz.prog 14 hp m [supx s,dx d,plx p,vx v] (resE (eventR s d p v)) :=
 tEvent_ok s hs d hd hi hB p hf hl hpo v hv (fun R hR=>by
  unfold eventR at hR
  cases e:srcP p with
  | none=>rw [e] at hR;cases hR
  | some x =>
   rw [e] at hR
   cases hR
   exact eventV_fit s d hd hi hB p (srcP_k e) hl hpo x v hv) hp m
theorem tEach_ok (s:Sup) (hs:SOk s) (d:Dat) {B:Nat} (hd:DOk d B) (hi:d.i.length≤1048576) (hB:B≤1000000000) (p:Pln) (hf0:∀x∈p.l,x.Fit) (hl:p.l.length≤1048576) (hpo:∀x∈p.l,x.Ok) (l:List Val) (hll:l.length≤1048576) (hv:∀v∈l,VSm v) (hp:CH) (m:Nat) :
  MeetsF Tryz.prog 17 hp m [supx s,dx d,plx p,.ds (mapC valC l)] (resEs (eachR s d p l)):=by
 have hS:=sSource_ok p hf0
 have hE:=fun v (h:v∈l)=>tEventF_ok s hs d hd hi hB p hf0 hl hpo v (hv v h)
 cases h:srcP p with
 | none =>
  rw [eachR,h]
  rw [h,srcRP] at hS
  refine meetsF Tryz.func17 (by kernel_rfl) cc17 cr17 rfl fun hf=>?_;unfold ck17
  simp only [go_sem,↓reduceIte,Za,Zb,Zc,Zd,Ze,reduceCtorEq,Zf,Zg,Zh,Zi,Zj,Zk]
  refine vcCall.f (hS _ _) ?_
  simp only [go_sem,↓reduceIte,Za,Zb,Zc,Zd,Ze,reduceCtorEq,Zf,Zg,Zh,Zi,Zj,Zk]
  rfl
 | some x =>
  have hE:∀v∈l,∀hp m,MeetsF Tryz.prog 14 hp m [supx s,dx d,plx p,vx v] (resE (some (eventV s d p x v))):=fun v hv=>by
   have:=hE v hv
   rw [eventR,h] at this
   exact this
  rw [eachR,h]
  rw [h,srcRP] at hS
  show MeetsF _ _ _ _ _ (resEs (some (l.map (eventV s d p x))))
  obtain ⟨F,hF⟩:∃F,eventV s d p x=F:=⟨_,rfl⟩
  rw [hF] at hE ⊢
  refine meetsF Tryz.func17 (by kernel_rfl) cc17 cr17 rfl fun hf=>?_;unfold ck17
  simp only [go_sem,↓reduceIte,Za,Zb,Zc,Zd,Ze,reduceCtorEq,Zf,Zg,Zh,Zi,Zj,Zk]
  refine vcCall.f (hS _ _) ?_
  simp only [go_sem,↓reduceIte,Za,Zb,Zc,Zd,Ze,reduceCtorEq,Zf,Zg,Zh,Zi,Zj,Zk]
  have S0:CH:=[]
  refine loop (fun q:Nat × Nat=>⟨[(4,.bx m 0),(5,.bx (m+1) 0),(6,.bx (m+2) 0),(12,.rw (m+4) q.1 q.1),(25,.ds (mapC valC l)),(26,.i .i64 l.length),(27,.i .i64 q.1)],
    (m,.bx [.ds (stC s.g),.ds (mapC dfC s.doc),.ds (mapC kyC s.keys),.ds (mapC jnC s.joins)])::(m+1,.bx [.ds (mapC itC d.i),.ds (mapC wrC d.w)])::(m+2,.bx [.i .i64 p.k,.ds (mapC pkC p.l)])::(m+4,.rw q.1 5 (mapC valC ((l.take q.1).map F)))::hp,q.2⟩)
   (fun q=>q.1≤l.length∧m+5≤q.2) (fun q=>l.length - q.1) (0,m+5) ?_ ?_ (fun ⟨j,n⟩ hj=>?_)
  .simp
  .refine (weak_e0 (t:=12) (m:=5) ?_).trans (weak_ok ?_ (Sub.cons ?_ (Sub.cons ?_ (Sub.cons ?_ (Sub.cons ?_ (Sub.base hf ?_))))) (zna _))
   all_goals (simp (disch:=omega) only [ite_ne,go_sem,↓reduceIte,Za,Zb,Zc,Zd,Ze,reduceCtorEq,Zf,Zg,Zh,Zi,Zj,Zk])
   all_goals rfl
  dsimp only at hj
  obtain ⟨hj1,hj2⟩:=hj
  have hmn:m≤n:=by omega
  simp (disch:=omega) only [ite_ne,go_sem,↓reduceIte,Za,Zb,Zc,Zd,Ze,reduceCtorEq,Zf,Zg,Zh,Zi,Zj,Zk]
  refine cdK_of (fun q=>?_) (fun q=>?_)
  .have q:j<l.length:=by simpa using q
   obtain ⟨v,ev⟩:∃v,l[j]?=some v:=⟨l[j],by simp [q]⟩
   have hst:=map_take_snocI F ev
   have ht:((l.take j).map F).length=j:=by simp;omega
   have k1:(j+1)*80≤140737488355328:=by omega
   have k2:j+1≤9223372036854775807:=by omega
   obtain ⟨O,hO⟩:∃O,(l.take j).map F=O:=⟨_,rfl⟩
   rw [hO] at ht hst ⊢
   have hEv:=hE v (zla ev)
   rw [resE] at hEv
   simp (disch:=omega) only [ite_ne,q,getK_s (mapC_get valC ev),go_sem,↓reduceIte,Za,Zb,Zc,Zd,Ze,reduceCtorEq,Zf,Zg,Zh,Zi,Zj,Zk]
   refine vcCall.f (hEv _ _) ?_
   simp (disch:=omega) only [ite_ne,ht,k1,k2,go_sem,↓reduceIte,Za,Zb,Zc,Zd,Ze,reduceCtorEq,Zf,Zg,Zh,Zi,Zj,Zk]
   refine ⟨(j+1,_),⟨by dsimp only;omega,by dsimp only;omega⟩,by dsimp only;omega,weak_ok ?_ (Sub.cons ?_ (Sub.cons ?_ (Sub.cons ?_ (Sub.cons ?_ (Sub.base hf ?_))))) (zna _)⟩
   all_goals
    simp (disch:=omega) only [ite_ne,wr64s j (by omega),hst,hmn,go_sem,↓reduceIte,Za,Zb,Zc,Zd,Ze,reduceCtorEq,Zf,Zg,Zh,Zi,Zj,Zk]
  .have q:j=l.length:=by simp at q;omega
   subst q
   have ht2:(mapC valC (l.map F)).length=l.length:=by rw [mapC_len];simp
   have ht3:(mapC valC (l.map F)).take l.length=mapC valC (l.map F):=List.take_of_length_le (by omega)
   rw [List.take_length]
   simp (disch:=omega) only [ite_ne,hmn,ht2,ht3,zna,go_sem,↓reduceIte,Za,Zb,Zc,Zd,Ze,reduceCtorEq,Zf,Zg,Zh,Zi,Zj,Zk]
   try rfl
end Go.Proofs.YtinbodeocoeneaaGreatDoor
