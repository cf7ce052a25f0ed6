/- Proof. Conditions: none. -/
import Derived.Test.YtinbodeocoeneaaGreatDoorIb45
open Nat renaming reduceEqDiff→Za,reduceBEq→Zb,reduceAdd→Zc,reduceLeDiff→Zd,reduceLT→Ze,reduceMul→Zf,reduceSub→Zg
open Int renaming reduceEq→Zh,reduceLT→Zi,reduceLE→Zj,reduceToNat→Zk
open List renaming mem_of_getElem?→zla,length_cons→zlc,length_append→zld,length_nil→zle,append_assoc→zlf,cons_append→zlh,nil_append→zli,take_length→zlj,take_of_length_le→zlk,map_append→zlq,mem_map_of_mem→zls,length_map→zlv
open Nat renaming le_refl→zna
namespace Go.Proofs.YtinbodeocoeneaaGreatDoor
open Go.Eng
set_option linter.all false
theorem rootP_fit {s:Sup} {d:Dat} {B:Nat} (hd:DOk d B) (root:ByteArray) (x:Pk) (hx:x.Ok):(rootP s root d x).Fit:=by
 unfold rootP
 split
 .exact pickV_fit hd x hx _
 .split
  .exact tx_fit _
  .exact zVal_fit
theorem runL_fit (s:Sup) (mu:Bool) (root:ByteArray) (d:Dat) (l:List Pk) {B:Nat} (hd:DOk d B) (hpo:∀x∈l,x.Ok) (h:mu=true→B+l.length*d.w.length≤100000000000):∀j,j≤l.length→∀y∈(runL s mu root d (l.take j)).1,y.2.Fit
 | 0,_=>by simp [runL]
 | j+1,hj=>by
  have hjl:j<l.length:=by omega
  have ex:=List.getElem?_eq_getElem hjl
  have ih:=runL_fit s mu root d l hd hpo h j (by omega)
  obtain ⟨h1,h2,h3⟩:=runL_inv s mu root d l hd h j (by omega)
  have hD:=rootD_dok (s:=s) (mu:=mu) (root:=root) (x:=l[j]) h3 (fun q=>by
   rw [if_pos q,h1]
   have hh:=h q
   have:(j+1)*d.w.length≤l.length*d.w.length:=Nat.mul_le_mul_right _ hj
   rw [Nat.add_mul,Nat.one_mul] at this
   omega)
  rw [runL_step ex]
  unfold runS
  split
  .intro y hy
   dsimp only at hy
   rcases List.mem_append.1 hy with hy | hy
   .exact ih y hy
   .rw [List.mem_singleton.1 hy]
    exact rootP_fit hD root _ (hpo _ (zla ex))
  .exact ih
theorem runV_fit (s:Sup) (d:Dat) (p:Pln) {B:Nat} (hd:DOk d B) (hl:p.l.length≤1048576) (hpo:∀x∈p.l,x.Ok) (hB:p.k=2→B+p.l.length*d.w.length≤100000000000):(runV s d p).1.Fit:=by
 have hB':decide (p.k=2)=true→B+p.l.length*d.w.length≤100000000000:=fun h=>hB (by simpa using h)
 have h1:=runL_fit s (decide (p.k=2)) (rootS p.k) d p.l hd hpo hB' p.l.length (zna _)
 have h2:=runL_len s (decide (p.k=2)) (rootS p.k) d p.l p.l.length
 rw [zlj] at h1 h2
 exact objV_fit (by omega) h1
set_option maxRecDepth 20000
def sSub:ByteArray:=⟨#[83,117,98,115,99,114,105,112,116,105,111,110]⟩
noncomputable def withD (s:Sup) (d:Dat) (x:Pk) (v:Val):Dat :=
 if 0≤itemI d sSub then .mk (d.i.set (itemI d sSub).toNat (.mk (typD d (itemI d sSub)) (.mk x.name (ofL (argT s d (itemI d sSub) x)) v::celD d (itemI d sSub)))) d.w
 else .mk (d.i++[.mk sSub [.mk x.name (ofL (argsL x.args)) v]]) d.w
theorem fidx_get {α:Type} {q:α→Bool} {l:List α} (h:0≤fidx q l 0):∃(j:Nat) (x:α),fidx q l 0=j∧l[j]?=some x∧q x=true:=by
 have h1:=fidx_lt q l 0
 obtain ⟨j,hj⟩:∃j:Nat,fidx q l 0=j:=⟨(fidx q l 0).toNat,by omega⟩
 have hjl:j<l.length:=by omega
 obtain ⟨x,ex⟩:∃x,l[j]?=some x:=⟨l[j],by simp [hjl]⟩
 exact ⟨j,x,hj,ex,fidx_at q l 0 j x (by rw [hj];simp) ex⟩
theorem itemI_get {d:Dat} {root:ByteArray} (h:0≤itemI d root):∃(j:Nat) (x:Itm),itemI d root=j∧d.i[j]?=some x∧x.t=root:=by
 obtain ⟨j,x,h1,h2,h3⟩:=fidx_get (q:=fun x:Itm=>decide (x.t=root)) (l:=d.i) h
 exact ⟨j,x,h1,h2,by simpa using h3⟩
theorem withD_found {s:Sup} {d:Dat} {x:Pk} {v:Val} {j:Nat} {it:Itm} (h:itemI d sSub=j) (e:d.i[j]?=some it) :
  withD s d x v=.mk (d.i.set j (.mk it.t (.mk x.name (ofL (argT s d j x)) v::it.l))) d.w:=by
 rw [withD,h,if_pos (Int.natCast_nonneg j),typD_at e,celD_at e,Int.toNat_natCast]
theorem withD_none {s:Sup} {d:Dat} {x:Pk} {v:Val} (h:¬0≤itemI d sSub):withD s d x v=.mk (d.i++[.mk sSub [.mk x.name (ofL (argsL x.args)) v]]) d.w:=by rw [withD,if_neg h]
theorem withD_dok {s:Sup} {d:Dat} {x:Pk} {v:Val} {B:Nat} (hd:DOk d B) (hv:VSm v) (hi:d.i.length≤1048576) (hB:B+1≤100000000000):DOk (withD s d x v) (B+1):=by
 have key:∀L:List Itm,L.length≤1048577→(∀y∈L,y.l.length≤B+1∧∀c∈y.l,VSm c.v)→DOk (.mk L d.w) (B+1):=fun L hl h =>
  ⟨⟨.mk _ (by simp only [Dat.i_mk];omega) hd.f.f.lw (fun y hy=>⟨by have:=(h y hy).1;omega,fun c hc=>((h y hy).2 c hc).f⟩) (fun w hw=>hd.f.f.w hw),hd.f.w,fun y hy=>by have:=(h y hy).1;omega⟩,
   fun y hy=>(h y hy).2,hd.w,fun y hy=>(h y hy).1⟩
 have old:∀y∈d.i,y.l.length≤B+1∧∀c∈y.l,VSm c.v:=fun y hy=>⟨by have:=hd.c y hy;omega,hd.v y hy⟩
 by_cases c:0≤itemI d sSub
 .obtain ⟨j,it,h1,h2,h3⟩:=itemI_get c
  rw [withD_found h1 h2]
  refine key _ (by rw [List.length_set];omega) fun y hy=>?_
  rcases List.mem_or_eq_of_mem_set hy with hy | rfl
  .exact old y hy
  .have hit:=zla h2
   refine ⟨?_,fun c hc=>?_⟩
   .simp only [Itm.l_mk,zlc]
    have:=hd.c it hit
    omega
   .simp only [Itm.l_mk,List.mem_cons] at hc
    rcases hc with rfl | hc
    .exact hv
    .exact hd.v it hit c hc
 .rw [withD_none c]
  refine key _ (by rw [zld];simp;omega) fun y hy=>?_
  rcases List.mem_append.1 hy with hy | hy
  .exact old y hy
  .rw [List.mem_singleton.1 hy]
   refine ⟨by simp [Itm.l_mk],fun c hc=>?_⟩
   simp only [Itm.l_mk,List.mem_singleton] at hc
   subst hc
   exact hv
noncomputable def eventV (s:Sup) (d:Dat) (p:Pln) (x:Pk) (v:Val):Val:=(runV s (withD s d x v) p).1
set_option maxHeartbeats 1000000
theorem scopied_of (p:Pk) (hp':p.Fit) (h:∀x∈p.picks,∀hp m,MeetsF Tryz.prog 31 hp m [pkx x] (pkx x)) (hp:CH) (m:Nat):MeetsF Tryz.prog 31 hp m [pkx p] (pkx p):=by
 have h1:=hp'.a
 have h2:=hp'.l
 have h3:=hp'.w
 refine meetsF Tryz.func31 (by kernel_rfl) cc31 cr31 rfl fun hf=>?_;unfold ck31
 simp only [go_sem,↓reduceIte,Za,Zb,Zc,Zd,Ze,reduceCtorEq,Zf,Zg,Zh,Zi,Zj,Zk]
 refine loop (fun q:Nat × Nat=>⟨[(1,.bx m 0),(2,.bx (m+1) 0),(3,.rw (m+2) q.1 q.1),(10,.ds (mapC argC p.args)),(11,.i .i64 p.args.length),(12,.i .i64 q.1)],
   (m,.bx [.s p.key,.s p.on,.s p.name,.ds (mapC argC p.args),.s p.tn,.ds (mapC in1 p.tw),.s p.label,.i .i64 p.initial,.ds (mapC pkC p.picks)])::(m+1,.bx [.s ⟨#[]⟩,.s ⟨#[]⟩,.s ⟨#[]⟩,.e0,.s ⟨#[]⟩,.e0,.s ⟨#[]⟩,.i .i64 0,.e0])::(m+2,.rw q.1 6 (mapC argC (p.args.take q.1)))::hp,q.2⟩)
  (fun q=>q.1≤p.args.length∧m+3≤q.2) (fun q=>p.args.length - q.1) (0,m+3) ?_ ?_ (fun ⟨j,n⟩ hj=>?_)
 .simp
 .refine (weak_e0 (t:=3) (m:=6) ?_).trans (weak_ok ?_ (Sub.cons ?_ (Sub.cons ?_ (Sub.cons ?_ (Sub.base hf ?_)))) (zna _))
  all_goals (simp (disch:=omega) only [ite_ne,go_sem,↓reduceIte,Za,Zb,Zc,Zd,Ze,reduceCtorEq,Zf,Zg,Zh,Zi,Zj,Zk])
  all_goals rfl
 dsimp only at hj
 obtain ⟨hj1,hj2⟩:=hj
 simp (disch:=omega) only [ite_ne,go_sem,↓reduceIte,Za,Zb,Zc,Zd,Ze,reduceCtorEq,Zf,Zg,Zh,Zi,Zj,Zk]
 refine cdK_of (fun q=>?_) (fun q=>?_)
 .have q:j<p.args.length:=by simpa using q
  obtain ⟨a,ea⟩:∃a,p.args[j]?=some a:=⟨p.args[j],by simp [q]⟩
  have haf:=hp'.v (zla ea)
  have ht:(p.args.take j).length=j:=by simp;omega
  have k1:(j+1)*96≤140737488355328:=by omega
  have k2:j+1≤9223372036854775807:=by omega
  have k3:p.args.length - (j+1)<p.args.length - j:=by omega
  simp (disch:=omega) only [ite_ne,q,getK_s (mapC_get argC ea),go_sem,↓reduceIte,Za,Zb,Zc,Zd,Ze,reduceCtorEq,Zf,Zg,Zh,Zi,Zj,Zk]
  refine dCallR.f (fun _ hp' e=>copy_ok a.v haf _ _) ?_
  simp (disch:=omega) only [ite_ne,q,getK_s (mapC_get argC ea),ht,k1,k2,go_sem,↓reduceIte,Za,Zb,Zc,Zd,Ze,reduceCtorEq,Zf,Zg,Zh,Zi,Zj,Zk]
  refine ⟨(j+1,_),⟨by dsimp only;omega,by dsimp only;omega⟩,k3,weak_ok ?_ (Sub.cons ?_ (Sub.cons ?_ (Sub.cons ?_ (Sub.base hf ?_)))) (zna _)⟩
  all_goals
   simp (disch:=omega) only [ite_ne,wr64s j (by omega),take_snoc ea,go_sem,↓reduceIte,Za,Zb,Zc,Zd,Ze,reduceCtorEq,Zf,Zg,Zh,Zi,Zj,Zk]
 .have q:j=p.args.length:=by simp at q;omega
  subst q
  rw [zlj]
  simp (disch:=omega) only [ite_ne,go_sem,↓reduceIte,Za,Zb,Zc,Zd,Ze,reduceCtorEq,Zf,Zg,Zh,Zi,Zj,Zk]
  refine loop (fun q:Nat × Nat=>⟨[(1,.bx m 0),(2,.bx (m+1) 0),(3,.rw (m+2) p.args.length p.args.length),(6,.rw n q.1 q.1),(27,.ds (mapC pkC p.picks)),(28,.i .i64 p.picks.length),(29,.i .i64 q.1)],
    (m,.bx [.s p.key,.s p.on,.s p.name,.ds (mapC argC p.args),.s p.tn,.ds (mapC in1 p.tw),.s p.label,.i .i64 p.initial,.ds (mapC pkC p.picks)])::(m+1,.bx [.s ⟨#[]⟩,.s ⟨#[]⟩,.s ⟨#[]⟩,.e0,.s ⟨#[]⟩,.e0,.s ⟨#[]⟩,.i .i64 0,.e0])::(m+2,.rw p.args.length 6 (mapC argC p.args))::(n,.rw q.1 9 (mapC pkC (p.picks.take q.1)))::hp,q.2⟩)
   (fun q=>q.1≤p.picks.length∧n+1≤q.2) (fun q=>p.picks.length - q.1) (0,n+1) ?_ ?_ (fun ⟨j,n2⟩ hj=>?_)
  .simp
  .refine (weak_e0 (t:=6) (m:=9) ?_).trans (weak_ok ?_ (Sub.cons ?_ (Sub.cons ?_ (Sub.cons ?_ (Sub.cons ?_ (Sub.base hf ?_))))) (zna _))
   all_goals (simp (disch:=omega) only [ite_ne,go_sem,↓reduceIte,Za,Zb,Zc,Zd,Ze,reduceCtorEq,Zf,Zg,Zh,Zi,Zj,Zk])
   all_goals rfl
  dsimp only at hj
  obtain ⟨hj1,hj3⟩:=hj
  simp (disch:=omega) only [ite_ne,go_sem,↓reduceIte,Za,Zb,Zc,Zd,Ze,reduceCtorEq,Zf,Zg,Zh,Zi,Zj,Zk]
  refine cdK_of (fun q=>?_) (fun q=>?_)
  .have q:j<p.picks.length:=by simpa using q
   obtain ⟨x,ex⟩:∃x,p.picks[j]?=some x:=⟨p.picks[j],by simp [q]⟩
   have hx:=h x (zla ex)
   have ht:(p.picks.take j).length=j:=by simp;omega
   have k1:(j+1)*160≤140737488355328:=by omega
   have k2:j+1≤9223372036854775807:=by omega
   have k3:p.picks.length - (j+1)<p.picks.length - j:=by omega
   simp (disch:=omega) only [ite_ne,q,getK_s (mapC_get pkC ex),go_sem,↓reduceIte,Za,Zb,Zc,Zd,Ze,reduceCtorEq,Zf,Zg,Zh,Zi,Zj,Zk]
   refine vcCall.f (hx _ _) ?_
   simp (disch:=omega) only [ite_ne,ht,k1,k2,go_sem,↓reduceIte,Za,Zb,Zc,Zd,Ze,reduceCtorEq,Zf,Zg,Zh,Zi,Zj,Zk]
   refine ⟨(j+1,_),⟨by dsimp only;omega,by dsimp only;omega⟩,k3,weak_ok ?_ (Sub.cons ?_ (Sub.cons ?_ (Sub.cons ?_ (Sub.cons ?_ (Sub.base hf ?_))))) (zna _)⟩
   all_goals
    simp (disch:=omega) only [ite_ne,wr64s j (by omega),take_snoc ex,go_sem,↓reduceIte,Za,Zb,Zc,Zd,Ze,reduceCtorEq,Zf,Zg,Zh,Zi,Zj,Zk]
  .have q:j=p.picks.length:=by simp at q;omega
   subst q
   have k1:(p.tw.length+0)*8≤140737488355328:=by omega
   have k2:p.tw.length≤9223372036854775807:=by omega
   have k3:p.tw.length*8≤140737488355328:=by omega
   have k4:(mapC in1 p.tw).length=p.tw.length:=by simp [mapC]
   rw [zlj]
   simp (disch:=omega) only [ite_ne,zlj,zna,k1,k2,k3,k4,go_sem,↓reduceIte,Za,Zb,Zc,Zd,Ze,reduceCtorEq,Zf,Zg,Zh,Zi,Zj,Zk]
theorem scopied_ok (p:Pk) (hf:p.Fit) (hp:CH) (m:Nat):MeetsF Tryz.prog 31 hp m [pkx p] (pkx p):=by
 have:=Pk.ind (Q:=fun p=>p.Fit→∀hp m,MeetsF Tryz.prog 31 hp m [pkx p] (pkx p)) (fun p ih hf hp m=>scopied_of p hf (fun x hx=>ih x hx (hf.x hx)) hp m) p
 exact this hf hp m
def zPk:Pk:=.mk ⟨#[]⟩ ⟨#[]⟩ ⟨#[]⟩ [] ⟨#[]⟩ [] ⟨#[]⟩ 0 []
def srcP (p:Pln):Option Pk:=if p.k=3 then (match p.l with
 | [x]=>some x
 | _=>none) else none
def srcRP (o:Option Pk):AV:=.tp [pkx (o.getD zPk),.i .i64 (if o.isSome=true then 0 else 2)]
theorem srcP_some {p:Pln} {x:Pk} (h:srcP p=some x):p.k=3∧p.l=[x]:=by
 unfold srcP at h
 split at h
 .rename_i c
  refine ⟨c,?_⟩
  split at h
  .rename_i y hy;cases h;exact hy
  .cases h
 .cases h
theorem srcP_of {p:Pln} (h1:p.k=3) (h2:p.l.length=1):∃x,p.l=[x]∧srcP p=some x:=by
 match hl:p.l,h2 with
 | [x],_=>exact ⟨x,rfl,by unfold srcP;rw [if_pos h1,hl]⟩
theorem srcP_none {p:Pln} (h:¬(p.k=3∧p.l.length=1)):srcP p=none:=by
 cases e:srcP p with
 | none=>rfl
 | some x =>
  obtain ⟨h1,h2⟩:=srcP_some e
  exact absurd ⟨h1,by rw [h2];rfl⟩ h
theorem sSource_ok (p:Pln) (hf:∀x∈p.l,x.Fit) (hp:CH) (m:Nat):MeetsF Tryz.prog 12 hp m [plx p] (srcRP (srcP p)):=by
 by_cases c:p.k=3∧p.l.length=1
 .obtain ⟨x,hx,e⟩:=srcP_of c.1 c.2
  have hc:=scopied_ok x (hf x (by rw [hx];simp))
  have ex:p.l[0]?=some x:=by rw [hx];rfl
  rw [e,srcRP]
  refine meetsF Tryz.func12 (by kernel_rfl) cc12 cr12 rfl fun hf=>?_;unfold ck12
  simp only [go_sem,↓reduceIte,Za,Zb,Zc,Zd,Ze,reduceCtorEq,Zf,Zg,Zh,Zi,Zj,Zk]
  refine cdK_of (fun q=>?_) (fun q=>?_)
  .exfalso
   simp at q
   have:=c.2
   rcases q with q | q
   .exact q c.1
   .omega
  simp (disch:=omega) only [ite_ne,getK_s (mapC_get pkC ex),c.2,go_sem,↓reduceIte,Za,Zb,Zc,Zd,Ze,reduceCtorEq,Zf,Zg,Zh,Zi,Zj,Zk]
  refine vcCall.f (hc _ _) ?_
  simp only [go_sem,↓reduceIte,Za,Zb,Zc,Zd,Ze,reduceCtorEq,Zf,Zg,Zh,Zi,Zj,Zk]
 .rw [srcP_none c,srcRP]
  refine meetsF Tryz.func12 (by kernel_rfl) cc12 cr12 rfl fun hf=>?_;unfold ck12
  simp only [go_sem,↓reduceIte,Za,Zb,Zc,Zd,Ze,reduceCtorEq,Zf,Zg,Zh,Zi,Zj,Zk]
  refine cdK_of (fun q=>?_) (fun q=>?_)
  .simp only [go_sem,↓reduceIte,Za,Zb,Zc,Zd,Ze,reduceCtorEq,Zf,Zg,Zh,Zi,Zj,Zk]
   rfl
  .exfalso
   simp at q
   exact c ⟨q.1,by omega⟩
theorem rSource_ok (p:Pln) (hp:CH) (m:Nat):MeetsF Tryz.prog 13 hp m [plx p] (srcRP (srcP p)):=by
 by_cases c:p.k=3∧p.l.length=1
 .obtain ⟨x,hx,e⟩:=srcP_of c.1 c.2
  have ex:p.l[0]?=some x:=by rw [hx];rfl
  rw [e,srcRP]
  refine meetsF Tryz.func13 (by kernel_rfl) cc13 cr13 rfl fun hf=>?_;unfold ck13
  simp only [go_sem,↓reduceIte,Za,Zb,Zc,Zd,Ze,reduceCtorEq,Zf,Zg,Zh,Zi,Zj,Zk]
  refine cdK_of (fun q=>?_) (fun q=>?_)
  .exfalso
   simp at q
   have:=c.2
   rcases q with q | q
   .exact q c.1
   .omega
  simp (disch:=omega) only [ite_ne,getK_s (mapC_get pkC ex),c.2,go_sem,↓reduceIte,Za,Zb,Zc,Zd,Ze,reduceCtorEq,Zf,Zg,Zh,Zi,Zj,Zk]
 .rw [srcP_none c,srcRP]
  refine meetsF Tryz.func13 (by kernel_rfl) cc13 cr13 rfl fun hf=>?_;unfold ck13
  simp only [go_sem,↓reduceIte,Za,Zb,Zc,Zd,Ze,reduceCtorEq,Zf,Zg,Zh,Zi,Zj,Zk]
  refine cdK_of (fun q=>?_) (fun q=>?_)
  .simp only [go_sem,↓reduceIte,Za,Zb,Zc,Zd,Ze,reduceCtorEq,Zf,Zg,Zh,Zi,Zj,Zk]
   rfl
  .exfalso
   simp at q
   exact c ⟨q.1,by omega⟩
theorem joinB_ofL (W:List (List UInt8)) (sep:List UInt8):joinB (W.map ofL) (ofL sep)=ofL (Lib.join W sep):=by
 unfold joinB
 have e:(W.map ofL).map (fun x:ByteArray=>x.data.toList)=W:=by
  rw [List.map_map]
  conv=>rhs;rw [←List.map_id W]
  refine List.map_congr_left fun x _=>?_
  simp [ofL]
 rw [e]
 simp [ofL]
theorem join_ok (W:List (List UInt8)) {α:AV} {hp:CH} (hsl:sl0 hp α=some (stC (W.map ofL))) (hlen:(jn W).length≤140737488355328) (hN:W.length≤140737488355328) (m:Nat):MeetsF Tryz.prog 97 hp m [α,.s ⟨#[44,32]⟩] (.s (ofL (jn W))):=by
 have e:=joinB_ofL W [44,32]
 have:=meets_join (n:=m) (xs:=W.map ofL) (sep:=ofL [44,32]) (α:=α) (hp:=hp) Tryz.lays156 Tryz.Builder_Extra_156 (f:=97) rfl ⟨_,Tryz.func97,by kernel_rfl,by kernel_rfl⟩ hsl (by rw [e,ofL_size];exact hlen) (by rw [zlv];exact hN)
 rw [e] at this
 exact this
theorem snoc_stW (W:List (List UInt8)) (x:List UInt8):mapC st1 (W.map ofL)++[[AV.s (ofL x)]]=mapC st1 ((W++[x]).map ofL):=by
 rw [zlq]
 exact mapC_snoc st1 _ _
theorem map_take_snoc {α β:Type} (f:α→β) {l:List α} {j:Nat} {x:α} (h:l[j]?=some x):(l.take j).map f++[f x]=(l.take (j+1)).map f:=by
 rw [←take_snoc h,zlq]
 rfl
theorem twritten_of (v:Val) (hv:v.Fit) (hr:v.Rng) (hb:avL (valC v)≤1000000000) (h:∀x∈v.items,∀hp m,MeetsF Tryz.prog 96 hp m [vx x] (.s (ofL (wrtV x)))) (hp:CH) (m:Nat):MeetsF Tryz.prog 96 hp m [vx v] (.s (ofL (wrtV v))):=by
 have hi:=hv.i
 have hl:=hv.l
 have e:=wrtV_eq v
 have hE:=avL_val v
 have hx1:=list_len v.items fun x hx=>wrtV_len x (hr.x hx)
 have hx2:=zip_len v.keys v.items fun x hx=>wrtV_len x (hr.x hx)
 obtain ⟨R,hR⟩:∃R,wrtV v=R:=⟨_,rfl⟩
 rw [hR] at e ⊢
 refine meetsF Tryz.func96 (by kernel_rfl) cc96 cr96 rfl fun hf=>?_;unfold ck96
 simp only [go_sem,↓reduceIte,Za,Zb,Zc,Zd,Ze,reduceCtorEq,Zf,Zg,Zh,Zi,Zj,Zk]
 refine cdK_of (fun c=>?_) (fun c0=>?_)
 .have c:v.k=0:=by simpa using c
  rw [if_pos c] at e
  subst e
  simp only [go_sem,↓reduceIte,Za,Zb,Zc,Zd,Ze,reduceCtorEq,Zf,Zg,Zh,Zi,Zj,Zk]
  rfl
 have c0:¬v.k=0:=by simpa using c0
 rw [if_neg c0] at e
 simp only [go_sem,↓reduceIte,Za,Zb,Zc,Zd,Ze,reduceCtorEq,Zf,Zg,Zh,Zi,Zj,Zk]
 refine cdK_of (fun c=>?_) (fun c1=>?_)
 .have c:v.k=1:=by simpa using c
  rw [if_pos c] at e
  simp only [go_sem,↓reduceIte,Za,Zb,Zc,Zd,Ze,reduceCtorEq,Zf,Zg,Zh,Zi,Zj,Zk]
  refine cdK_of (fun d=>?_) (fun d=>?_)
  .have d:v.n=0:=by simpa using d
   rw [if_pos d] at e
   subst e
   simp only [go_sem,↓reduceIte,Za,Zb,Zc,Zd,Ze,reduceCtorEq,Zf,Zg,Zh,Zi,Zj,Zk]
   rfl
  .have d:¬v.n=0:=by simpa using d
   rw [if_neg d] at e
   subst e
   simp only [go_sem,↓reduceIte,Za,Zb,Zc,Zd,Ze,reduceCtorEq,Zf,Zg,Zh,Zi,Zj,Zk]
   rfl
 have c1:¬v.k=1:=by simpa using c1
 rw [if_neg c1] at e
 simp only [go_sem,↓reduceIte,Za,Zb,Zc,Zd,Ze,reduceCtorEq,Zf,Zg,Zh,Zi,Zj,Zk]
 refine cdK_of (fun c=>?_) (fun c2=>?_)
 .have c:v.k=2:=by simpa using c
  rw [if_pos c] at e
  subst e
  simp only [go_sem,↓reduceIte,Za,Zb,Zc,Zd,Ze,reduceCtorEq,Zf,Zg,Zh,Zi,Zj,Zk]
  refine vcCall.f (tDecimal_ok v.n hr.l hr.u _ _) ?_
  simp only [go_sem,↓reduceIte,Za,Zb,Zc,Zd,Ze,reduceCtorEq,Zf,Zg,Zh,Zi,Zj,Zk]
 have c2:¬v.k=2:=by simpa using c2
 rw [if_neg c2] at e
 simp only [go_sem,↓reduceIte,Za,Zb,Zc,Zd,Ze,reduceCtorEq,Zf,Zg,Zh,Zi,Zj,Zk]
 refine cdK_of (fun c=>?_) (fun c3=>?_)
 .have c:v.k=3:=by simpa using c
  rw [if_pos c] at e
  subst e
  simp only [go_sem,↓reduceIte,Za,Zb,Zc,Zd,Ze,reduceCtorEq,Zf,Zg,Zh,Zi,Zj,Zk]
  refine vcCall.f (tQuote_ok v.s (by omega) _ _) ?_
  simp only [go_sem,↓reduceIte,Za,Zb,Zc,Zd,Ze,reduceCtorEq,Zf,Zg,Zh,Zi,Zj,Zk]
 have c3:¬v.k=3:=by simpa using c3
 rw [if_neg c3] at e
 simp only [go_sem,↓reduceIte,Za,Zb,Zc,Zd,Ze,reduceCtorEq,Zf,Zg,Zh,Zi,Zj,Zk]
 refine cdK_of (fun c=>?_) (fun c4=>?_)
 .have c:v.k=4:=by simpa using c
  rw [if_pos c] at e
  subst e
  simp only [go_sem,↓reduceIte,Za,Zb,Zc,Zd,Ze,reduceCtorEq,Zf,Zg,Zh,Zi,Zj,Zk]
  rw [ofL_bs]
 have c4:¬v.k=4:=by simpa using c4
 rw [if_neg c4] at e
 simp only [go_sem,↓reduceIte,Za,Zb,Zc,Zd,Ze,reduceCtorEq,Zf,Zg,Zh,Zi,Zj,Zk]
 refine cdK_of (fun c=>?_) (fun c7=>?_)
 .have c:v.k=7:=by simpa using c
  rw [if_pos c] at e
  subst e
  simp only [go_sem,↓reduceIte,Za,Zb,Zc,Zd,Ze,reduceCtorEq,Zf,Zg,Zh,Zi,Zj,Zk]
  have:(#[36]:Array UInt8).size=1:=rfl
  refine ⟨by omega,?_⟩
  rw [←ofL_bs v.s,mk_ofL,ofL_app,bs_ofL]
  rfl
 have c7:¬v.k=7:=by simpa using c7
 rw [if_neg c7] at e
 simp only [go_sem,↓reduceIte,Za,Zb,Zc,Zd,Ze,reduceCtorEq,Zf,Zg,Zh,Zi,Zj,Zk]
 refine cdK_of (fun c=>?_) (fun c5=>?_)
 .have c:v.k=5:=by simpa using c
  rw [if_pos c] at e
  have hfin:=jn_le (v.items.map wrtV)
  simp only [go_sem,↓reduceIte,Za,Zb,Zc,Zd,Ze,reduceCtorEq,Zf,Zg,Zh,Zi,Zj,Zk]
  refine loop (fun p:Nat × Nat=>⟨[(3,.rw (m+1) p.1 p.1),(38,.ds (mapC valC v.items)),(39,.i .i64 v.items.length),(40,.i .i64 p.1)],(m,.bx [.i .i64 v.k,.i .i64 v.n,.s v.s,.ds (mapC valC v.items),.ds (stC v.keys)])::(m+1,.rw p.1 1 (stC (((v.items.take p.1).map wrtV).map ofL)))::hp,p.2⟩)
   (fun p=>p.1≤v.items.length∧m+2≤p.2) (fun p=>v.items.length - p.1) (0,m+2) ?_ ?_ (fun ⟨j,n⟩ hj=>?_)
  .simp
  .refine (weak_e0 (t:=3) (m:=1) ?_).trans (weak_ok ?_ (Sub.cons ?_ (Sub.cons ?_ (Sub.base hf ?_))) (zna _))
   all_goals (simp (disch:=omega) only [ite_ne,go_sem,↓reduceIte,Za,Zb,Zc,Zd,Ze,reduceCtorEq,Zf,Zg,Zh,Zi,Zj,Zk])
   all_goals rfl
  dsimp only at hj
  obtain ⟨hj1,hj2⟩:=hj
  simp (disch:=omega) only [ite_ne,go_sem,↓reduceIte,Za,Zb,Zc,Zd,Ze,reduceCtorEq,Zf,Zg,Zh,Zi,Zj,Zk]
  refine cdK_of (fun q=>?_) (fun q=>?_)
  .have q:j<v.items.length:=by simpa using q
   obtain ⟨x,ex⟩:∃x,v.items[j]?=some x:=⟨v.items[j],by simp [q]⟩
   have hx:=h x (zla ex)
   have ht:(((v.items.take j).map wrtV).map ofL).length=j:=by simp;omega
   have k1:(j+1)*16≤140737488355328:=by omega
   have k2:j+1≤9223372036854775807:=by omega
   simp (disch:=omega) only [ite_ne,q,getK_s (mapC_get valC ex),go_sem,↓reduceIte,Za,Zb,Zc,Zd,Ze,reduceCtorEq,Zf,Zg,Zh,Zi,Zj,Zk]
   refine vcCall.f (hx _ _) ?_
   simp (disch:=omega) only [ite_ne,ht,k1,k2,go_sem,↓reduceIte,Za,Zb,Zc,Zd,Ze,reduceCtorEq,Zf,Zg,Zh,Zi,Zj,Zk]
   refine ⟨(j+1,_),⟨by dsimp only;omega,by dsimp only;omega⟩,by dsimp only;omega,weak_ok ?_ (Sub.cons ?_ (Sub.cons ?_ (Sub.base hf ?_))) (zna _)⟩
   all_goals
    simp (disch:=omega) only [ite_ne,wr64s j (by omega),snoc_stW,map_take_snoc wrtV ex,go_sem,↓reduceIte,Za,Zb,Zc,Zd,Ze,reduceCtorEq,Zf,Zg,Zh,Zi,Zj,Zk]
   rw [←snoc_st,snoc_stW,map_take_snoc wrtV ex]
  .have q:j=v.items.length:=by simp at q;omega
   subst q
   rw [zlj]
   subst e
   have hl1:((v.items.map wrtV).map ofL).length=v.items.length:=by simp
   have hl2:((v.items.map wrtV).map ofL).take v.items.length=(v.items.map wrtV).map ofL:=zlk (by omega)
   simp (disch:=omega) only [ite_ne,go_sem,↓reduceIte,Za,Zb,Zc,Zd,Ze,reduceCtorEq,Zf,Zg,Zh,Zi,Zj,Zk]
   refine vcCall.f (join_ok (v.items.map wrtV) ?_ (by omega) (by rw [zlv];omega) _) ?_
   .simp (disch:=omega) only [ite_ne,hl1,hl2,sl0,go_sem,↓reduceIte,Za,Zb,Zc,Zd,Ze,reduceCtorEq,Zf,Zg,Zh,Zi,Zj,Zk]
    done
   simp (disch:=first | omega | (simp only [zld,zlc,zle];omega)) only [ite_ne,s_cat,mk_ofL,ofL_app,litS,zlh,zlf,zli,hl1,go_sem,↓reduceIte,Za,Zb,Zc,Zd,Ze,reduceCtorEq,Zf,Zg,Zh,Zi,Zj,Zk]
 have c5:¬v.k=5:=by simpa using c5
 rw [if_neg c5] at e
 simp only [go_sem,↓reduceIte,Za,Zb,Zc,Zd,Ze,reduceCtorEq,Zf,Zg,Zh,Zi,Zj,Zk]
 refine cdK_of (fun c=>?_) (fun c6=>?_)
 .have c:v.k=6:=by simpa using c
  rw [if_pos c] at e
  obtain ⟨Z,hZ⟩:∃Z,List.zipWith fieldL v.keys (v.items.map wrtV)=Z:=⟨_,rfl⟩
  have hZl:Z.length=min v.keys.length v.items.length:=by rw [←hZ];simp
  rw [hZ] at e hx2
  have hfin:=jn_le Z
  have hmn:(if (v.items.length:Int)<v.keys.length then (v.items.length:Int) else v.keys.length)=(Z.length:Nat):=by rw [hZl];split<;>omega
  simp (disch:=omega) only [ite_ne,hmn,go_sem,↓reduceIte,Za,Zb,Zc,Zd,Ze,reduceCtorEq,Zf,Zg,Zh,Zi,Zj,Zk]
  refine loop (fun p:Nat × Nat=>⟨[(1,.bx m 0),(3,.rw (m+1) p.1 p.1),(62,.i .i64 Z.length),(63,.i .i64 p.1)],(m,.bx [.i .i64 v.k,.i .i64 v.n,.s v.s,.ds (mapC valC v.items),.ds (stC v.keys)])::(m+1,.rw p.1 1 (stC ((Z.take p.1).map ofL)))::hp,p.2⟩)
   (fun p=>p.1≤Z.length∧m+2≤p.2) (fun p=>Z.length - p.1) (0,m+2) ?_ ?_ (fun ⟨j,n⟩ hj=>?_)
  .simp
  .refine (weak_e0 (t:=3) (m:=1) ?_).trans (weak_ok ?_ (Sub.cons ?_ (Sub.cons ?_ (Sub.base hf ?_))) (zna _))
   all_goals (simp (disch:=omega) only [ite_ne,go_sem,↓reduceIte,Za,Zb,Zc,Zd,Ze,reduceCtorEq,Zf,Zg,Zh,Zi,Zj,Zk])
   all_goals rfl
  dsimp only at hj
  obtain ⟨hj1,hj2⟩:=hj
  simp (disch:=omega) only [ite_ne,go_sem,↓reduceIte,Za,Zb,Zc,Zd,Ze,reduceCtorEq,Zf,Zg,Zh,Zi,Zj,Zk]
  refine cdK_of (fun q=>?_) (fun q=>?_)
  .have q3:j<Z.length:=by simpa using q
   have q1:j<v.items.length:=by omega
   have q2:j<v.keys.length:=by omega
   obtain ⟨x,ex⟩:∃x,v.items[j]?=some x:=⟨v.items[j],by simp [q1]⟩
   obtain ⟨k,ek⟩:∃k,v.keys[j]?=some k:=⟨v.keys[j],by simp [q2]⟩
   have ez:Z[j]?=some (fieldL k (wrtV x)):=by rw [←hZ];simp [List.getElem?_zipWith,ex,ek]
   have hx:=h x (zla ex)
   have hw:=wrtV_len x (hr.x (zla ex))
   have hm:avL (valC x)≤avLL (mapC valC v.items):=avLL_in (zls (f:=valC) (zla ex))
   have hk:avL (st1 k)≤avLL (stC v.keys):=avLL_in (zls (f:=st1) (zla ek))
   obtain ⟨kb,rfl⟩:∃kb,k=ofL kb:=⟨bs k,(ofL_bs k).symm⟩
   have hk2:avL (st1 (ofL kb))=kb.length+1:=by simp [st1,avL,avw,ofL_size]
   have hfl:fieldL (ofL kb) (wrtV x)=kb++58::32::wrtV x:=by simp [fieldL,bs_ofL]
   have ht:((Z.take j).map ofL).length=j:=by simp;omega
   have k1:(j+1)*16≤140737488355328:=by omega
   have k2:j+1≤9223372036854775807:=by omega
   have hst:(Z.take j).map ofL++[ofL (kb++58::32::wrtV x)]=(Z.take (j+1)).map ofL:=by
    rw [←hfl]
    exact map_take_snoc ofL ez
   simp (disch:=first | omega | (simp only [zld,zlc,zle];omega)) only [ite_ne,s_cat,mk_ofL,ofL_app,litS,zlh,zlf,zli,q2,getK_s (mapC_get st1 ek),getK_s (mapC_get valC ex),q1,go_sem,↓reduceIte,Za,Zb,Zc,Zd,Ze,reduceCtorEq,Zf,Zg,Zh,Zi,Zj,Zk]
   refine dCallR.f (fun _ hp' e=>hx _ _) ?_
   simp (disch:=first | omega | (simp only [zld,zlc,zle];omega)) only [ite_ne,s_cat,mk_ofL,ofL_app,litS,zlh,zlf,zli,q2,getK_s (mapC_get st1 ek),getK_s (mapC_get valC ex),q1,ht,k1,k2,go_sem,↓reduceIte,Za,Zb,Zc,Zd,Ze,reduceCtorEq,Zf,Zg,Zh,Zi,Zj,Zk]
   refine ⟨(j+1,_),⟨by dsimp only;omega,by dsimp only;omega⟩,by dsimp only;omega,weak_ok ?_ (Sub.cons ?_ (Sub.cons ?_ (Sub.base hf ?_))) (zna _)⟩
   all_goals
    simp (disch:=first | omega | (simp only [zld,zlc,zle];omega)) only [ite_ne,s_cat,mk_ofL,ofL_app,litS,zlh,zlf,zli,wr64s j (by omega),hst,go_sem,↓reduceIte,Za,Zb,Zc,Zd,Ze,reduceCtorEq,Zf,Zg,Zh,Zi,Zj,Zk]
  .have q:j=Z.length:=by simp at q;omega
   subst q
   rw [zlj]
   subst e
   have hl1:(Z.map ofL).length=Z.length:=by simp
   have hl2:(Z.map ofL).take Z.length=Z.map ofL:=zlk (by omega)
   simp (disch:=omega) only [ite_ne,go_sem,↓reduceIte,Za,Zb,Zc,Zd,Ze,reduceCtorEq,Zf,Zg,Zh,Zi,Zj,Zk]
   refine vcCall.f (join_ok Z ?_ (by omega) (by omega) _) ?_
   .simp (disch:=omega) only [ite_ne,hl1,hl2,sl0,go_sem,↓reduceIte,Za,Zb,Zc,Zd,Ze,reduceCtorEq,Zf,Zg,Zh,Zi,Zj,Zk]
   simp (disch:=first | omega | (simp only [zld,zlc,zle];omega)) only [ite_ne,s_cat,mk_ofL,ofL_app,litS,zlh,zlf,zli,hl1,go_sem,↓reduceIte,Za,Zb,Zc,Zd,Ze,reduceCtorEq,Zf,Zg,Zh,Zi,Zj,Zk]
 .have c6:¬v.k=6:=by simpa using c6
  rw [if_neg c6] at e
  subst e
  simp only [go_sem,↓reduceIte,Za,Zb,Zc,Zd,Ze,reduceCtorEq,Zf,Zg,Zh,Zi,Zj,Zk]
  rfl
theorem twritten_ok (v:Val) (hv:VOk v) (hp:CH) (m:Nat):MeetsF Tryz.prog 96 hp m [vx v] (.s (ofL (wrtV v))):=by
 have:=Val.ind (Q:=fun v=>VOk v→∀hp m,MeetsF Tryz.prog 96 hp m [vx v] (.s (ofL (wrtV v)))) (fun v ih hv hp m=>twritten_of v hv.f hv.r hv.b (fun x hx=>ih x hx (hv.x hx)) hp m) v
 exact this hv hp m
theorem tText_ok (l:List Arg) (hl:∀a∈l,VOk a.v) (hB:avLL (mapC argC l)≤1000000000) (hn:l.length≤1000000000000) (hp:CH) (m:Nat):MeetsF Tryz.prog 54 hp m [.ds (mapC argC l)] (.s (ofL (argsL l))):=by
 have hb:=args_len l hl
 have hfin:=jn_le (l.map argL)
 refine meetsF Tryz.func54 (by kernel_rfl) cc54 cr54 rfl fun hf=>?_;unfold ck54
 simp only [go_sem,↓reduceIte,Za,Zb,Zc,Zd,Ze,reduceCtorEq,Zf,Zg,Zh,Zi,Zj,Zk]
 refine loop (fun p:Nat × Nat=>⟨[(3,.rw m p.1 p.1),(6,.ds (mapC argC l)),(7,.i .i64 l.length),(8,.i .i64 p.1)],(m,.rw p.1 1 (stC (((l.take p.1).map argL).map ofL)))::hp,p.2⟩)
  (fun p=>p.1≤l.length∧m+1≤p.2) (fun p=>l.length - p.1) (0,m+1) ?_ ?_ (fun ⟨j,n⟩ hj=>?_)
 .simp
 .refine (weak_e0 (t:=3) (m:=1) ?_).trans (weak_ok ?_ (Sub.cons ?_ (Sub.base hf ?_)) (zna _))
  all_goals (simp (disch:=omega) only [ite_ne,go_sem,↓reduceIte,Za,Zb,Zc,Zd,Ze,reduceCtorEq,Zf,Zg,Zh,Zi,Zj,Zk])
  all_goals rfl
 dsimp only at hj
 obtain ⟨hj1,hj2⟩:=hj
 simp (disch:=omega) only [ite_ne,go_sem,↓reduceIte,Za,Zb,Zc,Zd,Ze,reduceCtorEq,Zf,Zg,Zh,Zi,Zj,Zk]
 refine cdK_of (fun q=>?_) (fun q=>?_)
 .have q:j<l.length:=by simpa using q
  obtain ⟨a,ea⟩:∃a,l[j]?=some a:=⟨l[j],by simp [q]⟩
  have ha:=hl a (zla ea)
  have hw:=wrtV_len a.v ha.r
  have hab:=ha.b
  have h4:avL (argC a)=a.n.size+1+avL (valC a.v):=by
   rw [valC_eq]
   simp only [argC,avL,avw]
  have h5:avL (argC a)≤avLL (mapC argC l):=avLL_in (zls (f:=argC) (zla ea))
  obtain ⟨kb,hkb⟩:∃kb,a.n=ofL kb:=⟨bs a.n,(ofL_bs a.n).symm⟩
  have h6:a.n.size=kb.length:=by rw [hkb,ofL_size]
  have hfl:argL a=kb++58::32::wrtV a.v:=by simp [argL,fieldL,hkb,bs_ofL]
  have ht:(((l.take j).map argL).map ofL).length=j:=by simp;omega
  have k1:(j+1)*16≤140737488355328:=by omega
  have k2:j+1≤9223372036854775807:=by omega
  have hst:((l.take j).map argL).map ofL++[ofL (kb++58::32::wrtV a.v)]=((l.take (j+1)).map argL).map ofL:=by
   rw [←hfl,←map_take_snoc argL ea,zlq]
   rfl
  simp (disch:=first | omega | (simp only [zld,zlc,zle];omega)) only [ite_ne,s_cat,mk_ofL,ofL_app,litS,zlh,zlf,zli,q,getK_s (mapC_get argC ea),hkb,go_sem,↓reduceIte,Za,Zb,Zc,Zd,Ze,reduceCtorEq,Zf,Zg,Zh,Zi,Zj,Zk]
  refine dCallR.f (fun _ hp' e=>twritten_ok a.v ha _ _) ?_
  simp (disch:=first | omega | (simp only [zld,zlc,zle];omega)) only [ite_ne,s_cat,mk_ofL,ofL_app,litS,zlh,zlf,zli,q,getK_s (mapC_get argC ea),hkb,ht,k1,k2,go_sem,↓reduceIte,Za,Zb,Zc,Zd,Ze,reduceCtorEq,Zf,Zg,Zh,Zi,Zj,Zk]
  refine ⟨(j+1,_),⟨by dsimp only;omega,by dsimp only;omega⟩,by dsimp only;omega,weak_ok ?_ (Sub.cons ?_ (Sub.base hf ?_)) (zna _)⟩
  all_goals
   simp (disch:=first | omega | (simp only [zld,zlc,zle];omega)) only [ite_ne,s_cat,mk_ofL,ofL_app,litS,zlh,zlf,zli,wr64s j (by omega),hst,go_sem,↓reduceIte,Za,Zb,Zc,Zd,Ze,reduceCtorEq,Zf,Zg,Zh,Zi,Zj,Zk]
 .have q:j=l.length:=by simp at q;omega
  subst q
  rw [zlj]
  have hl1:((l.map argL).map ofL).length=l.length:=by simp
  have hl2:((l.map argL).map ofL).take l.length=(l.map argL).map ofL:=zlk (by omega)
  simp (disch:=omega) only [ite_ne,go_sem,↓reduceIte,Za,Zb,Zc,Zd,Ze,reduceCtorEq,Zf,Zg,Zh,Zi,Zj,Zk]
  refine vcCall.f (join_ok (l.map argL) ?_ (by omega) (by rw [zlv];omega) _) ?_
  .simp (disch:=omega) only [ite_ne,hl1,hl2,sl0,go_sem,↓reduceIte,Za,Zb,Zc,Zd,Ze,reduceCtorEq,Zf,Zg,Zh,Zi,Zj,Zk]
  simp (disch:=omega) only [ite_ne,go_sem,↓reduceIte,Za,Zb,Zc,Zd,Ze,reduceCtorEq,Zf,Zg,Zh,Zi,Zj,Zk]
  rfl
end Go.Proofs.YtinbodeocoeneaaGreatDoor
