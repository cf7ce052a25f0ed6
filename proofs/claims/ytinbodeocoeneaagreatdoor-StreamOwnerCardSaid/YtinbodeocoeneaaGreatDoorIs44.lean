/- Proof. Conditions: none. -/
import Derived.Test.YtinbodeocoeneaaGreatDoorIs43
open Nat renaming reduceEqDiff→Za,reduceBEq→Zb,reduceAdd→Zc,reduceLeDiff→Zd,reduceLT→Ze,reduceMul→Zf,reduceSub→Zg
open Int renaming reduceEq→Zh,reduceLT→Zi,reduceLE→Zj,reduceToNat→Zk
open List renaming mem_of_getElem?→zla,getElem?_eq_some_iff→zlb,take_length→zlj
open Nat renaming le_refl→zna
namespace Go.Proofs.YtinbodeocoeneaaGreatDoor
open Go.Eng
set_option linter.all false
theorem rootP_fit {s:Sup} {d:Dat} {B:Nat} (hd:DOk d B) (root:ByteArray) (x:Pk) (hx:x.Ok):(rootP s root d x).Fit:=by
 unfold rootP
 split
 .exact pickV_fit hd x hx _
 .split
  .exact tx_fit _
  .exact zVal_fit
theorem runL_fit (s:Sup) (mu:Bool) (root:ByteArray) (d:Dat) (l:List Pk) {B:Nat} (hd:DOk d B) (hpo:∀x∈l,x.Ok) (h:mu=true→B+l.length*d.w.length≤100000000000):∀j,j≤l.length→∀y∈(runL s mu root d (l.take j)).1,y.2.Fit
 | 0,_=>by simp [runL]
 | j+1,hj=>by
  have hjl:j<l.length:=by omega
  have ex:=List.getElem?_eq_getElem hjl
  have ih:=runL_fit s mu root d l hd hpo h j (by omega)
  obtain ⟨h1,h2,h3⟩:=runL_inv s mu root d l hd h j (by omega)
  have hD:=rootD_dok (s:=s) (mu:=mu) (root:=root) (x:=l[j]) h3 (fun q=>by
   rw [if_pos q,h1]
   have hh:=h q
   have:(j+1)*d.w.length≤l.length*d.w.length:=Nat.mul_le_mul_right _ hj
   rw [Nat.add_mul,Nat.one_mul] at this
   omega)
  rw [runL_step ex]
  unfold runS
  split
  .intro y hy
   dsimp only at hy
   rcases List.mem_append.1 hy with hy | hy
   .exact ih y hy
   .rw [List.mem_singleton.1 hy]
    exact rootP_fit hD root _ (hpo _ (zla ex))
  .exact ih
theorem runV_fit (s:Sup) (d:Dat) (p:Pln) {B:Nat} (hd:DOk d B) (hl:p.l.length≤1048576) (hpo:∀x∈p.l,x.Ok) (hB:p.k=2→B+p.l.length*d.w.length≤100000000000):(runV s d p).1.Fit:=by
 have hB':decide (p.k=2)=true→B+p.l.length*d.w.length≤100000000000:=fun h=>hB (by simpa using h)
 have h1:=runL_fit s (decide (p.k=2)) (rootS p.k) d p.l hd hpo hB' p.l.length (zna _)
 have h2:=runL_len s (decide (p.k=2)) (rootS p.k) d p.l p.l.length
 rw [zlj] at h1 h2
 exact objV_fit (by omega) h1
set_option maxRecDepth 20000
def sSub:ByteArray:=⟨#[83,117,98,115,99,114,105,112,116,105,111,110]⟩
theorem rootS_3:rootS 3=sSub:=rfl
noncomputable def withD (s:Sup) (d:Dat) (x:Pk) (v:Val):Dat :=
 if 0≤itemI d sSub then .mk (d.i.set (itemI d sSub).toNat (.mk (typD d (itemI d sSub)) (.mk x.name (ofL (argT s d (itemI d sSub) x)) v::celD d (itemI d sSub)))) d.w
 else .mk (d.i++[.mk sSub [.mk x.name (ofL (argsL x.args)) v]]) d.w
theorem fidx_get {α:Type} {q:α→Bool} {l:List α} (h:0≤fidx q l 0):∃(j:Nat) (x:α),fidx q l 0=j∧l[j]?=some x∧q x=true:=by
 have h1:=fidx_lt q l 0
 obtain ⟨j,hj⟩:∃j:Nat,fidx q l 0=j:=⟨(fidx q l 0).toNat,by omega⟩
 have hjl:j<l.length:=by omega
 obtain ⟨x,ex⟩:∃x,l[j]?=some x:=⟨l[j],by simp [hjl]⟩
 exact ⟨j,x,hj,ex,fidx_at q l 0 j x (by rw [hj];simp) ex⟩
theorem itemI_get {d:Dat} {root:ByteArray} (h:0≤itemI d root):∃(j:Nat) (x:Itm),itemI d root=j∧d.i[j]?=some x∧x.t=root:=by
 obtain ⟨j,x,h1,h2,h3⟩:=fidx_get (q:=fun x:Itm=>decide (x.t=root)) (l:=d.i) h
 exact ⟨j,x,h1,h2,by simpa using h3⟩
theorem withD_found {s:Sup} {d:Dat} {x:Pk} {v:Val} {j:Nat} {it:Itm} (h:itemI d sSub=j) (e:d.i[j]?=some it) :
  withD s d x v=.mk (d.i.set j (.mk it.t (.mk x.name (ofL (argT s d j x)) v::it.l))) d.w:=by
 rw [withD,h,if_pos (Int.natCast_nonneg j),typD_at e,celD_at e,Int.toNat_natCast]
theorem withD_none {s:Sup} {d:Dat} {x:Pk} {v:Val} (h:¬0≤itemI d sSub):withD s d x v=.mk (d.i++[.mk sSub [.mk x.name (ofL (argsL x.args)) v]]) d.w:=by rw [withD,if_neg h]
theorem withD_dok {s:Sup} {d:Dat} {x:Pk} {v:Val} {B:Nat} (hd:DOk d B) (hv:VSm v) (hi:d.i.length≤1048576) (hB:B+1≤100000000000):DOk (withD s d x v) (B+1):=by
 have key:∀L:List Itm,L.length≤1048577→(∀y∈L,y.l.length≤B+1∧∀c∈y.l,VSm c.v)→DOk (.mk L d.w) (B+1):=fun L hl h =>
  ⟨⟨.mk _ (by simp only [Dat.i_mk];omega) hd.f.f.lw (fun y hy=>⟨by have:=(h y hy).1;omega,fun c hc=>((h y hy).2 c hc).f⟩) (fun w hw=>hd.f.f.w hw),hd.f.w,fun y hy=>by have:=(h y hy).1;omega⟩,
   fun y hy=>(h y hy).2,hd.w,fun y hy=>(h y hy).1⟩
 have old:∀y∈d.i,y.l.length≤B+1∧∀c∈y.l,VSm c.v:=fun y hy=>⟨by have:=hd.c y hy;omega,hd.v y hy⟩
 by_cases c:0≤itemI d sSub
 .obtain ⟨j,it,h1,h2,h3⟩:=itemI_get c
  rw [withD_found h1 h2]
  refine key _ (by rw [List.length_set];omega) fun y hy=>?_
  rcases List.mem_or_eq_of_mem_set hy with hy | rfl
  .exact old y hy
  .have hit:=zla h2
   refine ⟨?_,fun c hc=>?_⟩
   .simp only [Itm.l_mk,List.length_cons]
    have:=hd.c it hit
    omega
   .simp only [Itm.l_mk,List.mem_cons] at hc
    rcases hc with rfl | hc
    .exact hv
    .exact hd.v it hit c hc
 .rw [withD_none c]
  refine key _ (by rw [List.length_append];simp;omega) fun y hy=>?_
  rcases List.mem_append.1 hy with hy | hy
  .exact old y hy
  .rw [List.mem_singleton.1 hy]
   refine ⟨by simp [Itm.l_mk],fun c hc=>?_⟩
   simp only [Itm.l_mk,List.mem_singleton] at hc
   subst hc
   exact hv
noncomputable def eventV (s:Sup) (d:Dat) (p:Pln) (x:Pk) (v:Val):Val:=(runV s (withD s d x v) p).1
theorem typs_with (s:Sup) (d:Dat) (x:Pk) (v:Val):∃R,(withD s d x v).i.map Itm.t=d.i.map Itm.t++R:=by
 by_cases c:0≤itemI d sSub
 .obtain ⟨j,it,h1,h2,h3⟩:=itemI_get c
  refine ⟨[],?_⟩
  rw [withD_found h1 h2,Dat.i_mk,List.append_nil]
  apply List.ext_getElem?
  intro n
  rw [List.getElem?_map,List.getElem?_map,List.getElem?_set]
  by_cases e:j=n
  .subst e
   have hj:j<d.i.length:=(zlb.1 h2).1
   rw [if_pos rfl,if_pos hj,h2]
   rfl
  .rw [if_neg e]
 .exact ⟨[sSub],by rw [withD_none c,Dat.i_mk,List.map_append];rfl⟩
theorem fidx_app {α:Type} (q:α→Bool) (R:List α):∀(l:List α) (j:Nat),0≤fidx q l j→fidx q (l++R) j=fidx q l j
 | [],j,h=>by simp [fidx] at h
 | x::l,j,h=>by
  rw [List.cons_append,fidx,fidx]
  rw [fidx] at h
  by_cases c:q x=true
  .rw [if_pos c,if_pos c]
  .rw [if_neg c] at h
   rw [if_neg c,if_neg c]
   exact fidx_app q R l (j+1) h
theorem fidx_new {α:Type} (q:α→Bool) (x:α) (hx:q x=true):∀(l:List α) (j:Nat),¬0≤fidx q l j→fidx q (l++[x]) j=(j+l.length:Nat)
 | [],j,h=>by rw [List.nil_append,fidx,if_pos hx];simp
 | y::l,j,h=>by
  rw [List.cons_append,fidx]
  rw [fidx] at h
  by_cases c:q y=true
  .rw [if_pos c] at h
   exact absurd (Int.natCast_nonneg j) h
  .rw [if_neg c] at h
   rw [if_neg c,fidx_new q x hx l (j+1) h,List.length_cons]
   congr 1
   omega
theorem with_look (s:Sup) (d:Dat) (x:Pk) (v:Val) (hn:reqJ s.joins sSub x.name=[]) :
  0≤itemI (withD s d x v) sSub∧exB (withD s d x v) (itemI (withD s d x v) sSub)=true∧typD (withD s d x v) (itemI (withD s d x v) sSub)=sSub∧lookV (withD s d x v) (itemI (withD s d x v) sSub) x.name (ofL (argsL x.args))=v:=by
 have fin:∀(D:Dat) (j:Nat) (it:Itm) (r:List Cel),itemI D sSub=j→D.i[j]?=some it→it.l=.mk x.name (ofL (argsL x.args)) v::r →
   0≤itemI D sSub∧exB D (itemI D sSub)=true∧typD D (itemI D sSub)=sSub∧lookV D (itemI D sSub) x.name (ofL (argsL x.args))=v:=fun D j it r h1 h2 h3=>by
  have h0:0≤itemI D sSub:=by rw [h1];exact Int.natCast_nonneg j
  have hj:j<D.i.length:=(zlb.1 h2).1
  refine ⟨h0,(itemI_ex h0).1,(itemI_ex h0).2,?_⟩
  rw [lookV,h1,if_neg (by omega),Int.toNat_natCast,h2]
  dsimp only
  rw [h3,lookX]
  have e:atI x.name (ofL (argsL x.args)) (Cel.mk x.name (ofL (argsL x.args)) v::r)=0:=by
   rw [atI,fidx,if_pos (by simp [Cel.f_mk,Cel.a_mk])]
   rfl
  rw [e,if_pos (Int.le_refl 0)]
  rfl
 by_cases c:0≤itemI d sSub
 .obtain ⟨j,it,h1,h2,h3⟩:=itemI_get c
  have hj:j<d.i.length:=(zlb.1 h2).1
  have hnd:needL s d j x=[]:=by
   rw [needL,typD_at h2,h3,hn]
   split<;>rfl
  have ha:argT s d j x=argsL x.args:=by rw [argT,if_pos hnd,List.append_nil]
  obtain ⟨R,hR⟩:=typs_with s d x v
  have hI:itemI (withD s d x v) sSub=j:=by
   rw [itemI_eq,hR,fidx_app _ _ _ _ (by rw [←itemI_eq];exact c),←itemI_eq,h1]
  refine fin _ j (.mk it.t (.mk x.name (ofL (argsL x.args)) v::it.l)) it.l hI ?_ rfl
  rw [withD_found h1 h2,ha,Dat.i_mk,List.getElem?_set,if_pos rfl,if_pos hj]
 .have hI:itemI (withD s d x v) sSub=(d.i.length:Nat):=by
   have c':¬0≤fidx (fun x:Itm=>decide (x.t=sSub)) d.i 0:=c
   have:=fidx_new (fun x:Itm=>decide (x.t=sSub)) (.mk sSub [.mk x.name (ofL (argsL x.args)) v]) (by simp [Itm.t_mk]) d.i 0 c'
   rw [Nat.zero_add] at this
   rw [withD_none c,itemI]
   exact this
  refine fin _ d.i.length (.mk sSub [.mk x.name (ofL (argsL x.args)) v]) [] hI ?_ rfl
  rw [withD_none c,Dat.i_mk,List.getElem?_append_right (zna _),Nat.sub_self]
  rfl
theorem evV_one (s:Sup) (d:Dat) (p:Pln) (x:Pk) (v:Val) (hk:p.k=3) (hl:p.l=[x]) (ho:x.on=sSub) :
  eventV s d p x v=objV sSub [(x.key,rootP s sSub (withD s d x v) x)]:=by
 rw [eventV,runV,hk,hl,rootS_3]
 have e:decide ((3:Int)=2)=false:=by decide
 have e2:runL s false sSub (withD s d x v) [x]=runS s false sSub ([],withD s d x v) x:=rfl
 rw [e,e2,runS,if_pos ho]
 rfl
theorem evV_leaf (s:Sup) (d:Dat) (x:Pk) (v:Val) (h0:0≤v.k) (h4:v.k≤4) (hn:x.name≠sTypename) (hq:reqJ s.joins sSub x.name=[]):rootP s sSub (withD s d x v) x=v:=by
 obtain ⟨h1,h2,h3,h5⟩:=with_look s d x v hq
 rw [rootP,if_pos h1,pickV_eq,pickW,if_neg hn]
 have hnd:needL s (withD s d x v) (itemI (withD s d x v) sSub) x=[]:=by
  rw [needL,h3,hq]
  split<;>rfl
 have ha:argT s (withD s d x v) (itemI (withD s d x v) sSub) x=argsL x.args:=by rw [argT,if_pos hnd,List.append_nil]
 have hf:failB s (withD s d x v) (itemI (withD s d x v) sSub) x=false:=by rw [failB,hnd];rfl
 rw [hf,if_neg (by decide),ha,h5,rawW_eq,if_pos (.inl ⟨h0,h4⟩)]
set_option maxHeartbeats 1000000
theorem scopied_of (p:Pk) (hp':p.Fit) (h:∀x∈p.picks,∀hp m,MeetsF Tryz.prog 31 hp m [pkx x] (pkx x)) (hp:CH) (m:Nat):MeetsF Tryz.prog 31 hp m [pkx p] (pkx p):=by
 have h1:=hp'.a
 have h2:=hp'.l
 have h3:=hp'.w
 refine meetsF Tryz.func31 (by kernel_rfl) cc31 cr31 rfl fun hf=>?_;unfold ck31
 simp only [go_sem,↓reduceIte,Za,Zb,Zc,Zd,Ze,reduceCtorEq,Zf,Zg,Zh,Zi,Zj,Zk]
 refine loop (fun q:Nat × Nat=>⟨[(1,.bx m 0),(2,.bx (m+1) 0),(3,.rw (m+2) q.1 q.1),(10,.ds (mapC argC p.args)),(11,.i .i64 p.args.length),(12,.i .i64 q.1)],
   (m,.bx [.s p.key,.s p.on,.s p.name,.ds (mapC argC p.args),.s p.tn,.ds (mapC in1 p.tw),.s p.label,.i .i64 p.initial,.ds (mapC pkC p.picks)])::(m+1,.bx [.s ⟨#[]⟩,.s ⟨#[]⟩,.s ⟨#[]⟩,.e0,.s ⟨#[]⟩,.e0,.s ⟨#[]⟩,.i .i64 0,.e0])::(m+2,.rw q.1 6 (mapC argC (p.args.take q.1)))::hp,q.2⟩)
  (fun q=>q.1≤p.args.length∧m+3≤q.2) (fun q=>p.args.length - q.1) (0,m+3) ?_ ?_ (fun ⟨j,n⟩ hj=>?_)
 .simp
 .refine (weak_e0 (t:=3) (m:=6) ?_).trans (weak_ok ?_ (Sub.cons ?_ (Sub.cons ?_ (Sub.cons ?_ (Sub.base hf ?_)))) (zna _))
  all_goals (simp (disch:=omega) only [ite_ne,go_sem,↓reduceIte,Za,Zb,Zc,Zd,Ze,reduceCtorEq,Zf,Zg,Zh,Zi,Zj,Zk])
  all_goals rfl
 dsimp only at hj
 obtain ⟨hj1,hj2⟩:=hj
 simp (disch:=omega) only [ite_ne,go_sem,↓reduceIte,Za,Zb,Zc,Zd,Ze,reduceCtorEq,Zf,Zg,Zh,Zi,Zj,Zk]
 refine cdK_of (fun q=>?_) (fun q=>?_)
 .have q:j<p.args.length:=by simpa using q
  obtain ⟨a,ea⟩:∃a,p.args[j]?=some a:=⟨p.args[j],by simp [q]⟩
  have haf:=hp'.v (zla ea)
  have ht:(p.args.take j).length=j:=by simp;omega
  have k1:(j+1)*96≤140737488355328:=by omega
  have k2:j+1≤9223372036854775807:=by omega
  have k3:p.args.length - (j+1)<p.args.length - j:=by omega
  simp (disch:=omega) only [ite_ne,q,getK_s (mapC_get argC ea),go_sem,↓reduceIte,Za,Zb,Zc,Zd,Ze,reduceCtorEq,Zf,Zg,Zh,Zi,Zj,Zk]
  refine dCallR.f (fun _ hp' e=>copy_ok a.v haf _ _) ?_
  simp (disch:=omega) only [ite_ne,q,getK_s (mapC_get argC ea),ht,k1,k2,go_sem,↓reduceIte,Za,Zb,Zc,Zd,Ze,reduceCtorEq,Zf,Zg,Zh,Zi,Zj,Zk]
  refine ⟨(j+1,_),⟨by dsimp only;omega,by dsimp only;omega⟩,k3,weak_ok ?_ (Sub.cons ?_ (Sub.cons ?_ (Sub.cons ?_ (Sub.base hf ?_)))) (zna _)⟩
  all_goals
   simp (disch:=omega) only [ite_ne,wr64s j (by omega),take_snoc ea,go_sem,↓reduceIte,Za,Zb,Zc,Zd,Ze,reduceCtorEq,Zf,Zg,Zh,Zi,Zj,Zk]
 .have q:j=p.args.length:=by simp at q;omega
  subst q
  rw [zlj]
  simp (disch:=omega) only [ite_ne,go_sem,↓reduceIte,Za,Zb,Zc,Zd,Ze,reduceCtorEq,Zf,Zg,Zh,Zi,Zj,Zk]
  refine loop (fun q:Nat × Nat=>⟨[(1,.bx m 0),(2,.bx (m+1) 0),(3,.rw (m+2) p.args.length p.args.length),(6,.rw n q.1 q.1),(27,.ds (mapC pkC p.picks)),(28,.i .i64 p.picks.length),(29,.i .i64 q.1)],
    (m,.bx [.s p.key,.s p.on,.s p.name,.ds (mapC argC p.args),.s p.tn,.ds (mapC in1 p.tw),.s p.label,.i .i64 p.initial,.ds (mapC pkC p.picks)])::(m+1,.bx [.s ⟨#[]⟩,.s ⟨#[]⟩,.s ⟨#[]⟩,.e0,.s ⟨#[]⟩,.e0,.s ⟨#[]⟩,.i .i64 0,.e0])::(m+2,.rw p.args.length 6 (mapC argC p.args))::(n,.rw q.1 9 (mapC pkC (p.picks.take q.1)))::hp,q.2⟩)
   (fun q=>q.1≤p.picks.length∧n+1≤q.2) (fun q=>p.picks.length - q.1) (0,n+1) ?_ ?_ (fun ⟨j,n2⟩ hj=>?_)
  .simp
  .refine (weak_e0 (t:=6) (m:=9) ?_).trans (weak_ok ?_ (Sub.cons ?_ (Sub.cons ?_ (Sub.cons ?_ (Sub.cons ?_ (Sub.base hf ?_))))) (zna _))
   all_goals (simp (disch:=omega) only [ite_ne,go_sem,↓reduceIte,Za,Zb,Zc,Zd,Ze,reduceCtorEq,Zf,Zg,Zh,Zi,Zj,Zk])
   all_goals rfl
  dsimp only at hj
  obtain ⟨hj1,hj3⟩:=hj
  simp (disch:=omega) only [ite_ne,go_sem,↓reduceIte,Za,Zb,Zc,Zd,Ze,reduceCtorEq,Zf,Zg,Zh,Zi,Zj,Zk]
  refine cdK_of (fun q=>?_) (fun q=>?_)
  .have q:j<p.picks.length:=by simpa using q
   obtain ⟨x,ex⟩:∃x,p.picks[j]?=some x:=⟨p.picks[j],by simp [q]⟩
   have hx:=h x (zla ex)
   have ht:(p.picks.take j).length=j:=by simp;omega
   have k1:(j+1)*160≤140737488355328:=by omega
   have k2:j+1≤9223372036854775807:=by omega
   have k3:p.picks.length - (j+1)<p.picks.length - j:=by omega
   simp (disch:=omega) only [ite_ne,q,getK_s (mapC_get pkC ex),go_sem,↓reduceIte,Za,Zb,Zc,Zd,Ze,reduceCtorEq,Zf,Zg,Zh,Zi,Zj,Zk]
   refine vcCall.f (hx _ _) ?_
   simp (disch:=omega) only [ite_ne,ht,k1,k2,go_sem,↓reduceIte,Za,Zb,Zc,Zd,Ze,reduceCtorEq,Zf,Zg,Zh,Zi,Zj,Zk]
   refine ⟨(j+1,_),⟨by dsimp only;omega,by dsimp only;omega⟩,k3,weak_ok ?_ (Sub.cons ?_ (Sub.cons ?_ (Sub.cons ?_ (Sub.cons ?_ (Sub.base hf ?_))))) (zna _)⟩
   all_goals
    simp (disch:=omega) only [ite_ne,wr64s j (by omega),take_snoc ex,go_sem,↓reduceIte,Za,Zb,Zc,Zd,Ze,reduceCtorEq,Zf,Zg,Zh,Zi,Zj,Zk]
  .have q:j=p.picks.length:=by simp at q;omega
   subst q
   have k1:(p.tw.length+0)*8≤140737488355328:=by omega
   have k2:p.tw.length≤9223372036854775807:=by omega
   have k3:p.tw.length*8≤140737488355328:=by omega
   have k4:(mapC in1 p.tw).length=p.tw.length:=by simp [mapC]
   rw [zlj]
   simp (disch:=omega) only [ite_ne,zlj,zna,k1,k2,k3,k4,go_sem,↓reduceIte,Za,Zb,Zc,Zd,Ze,reduceCtorEq,Zf,Zg,Zh,Zi,Zj,Zk]
theorem scopied_ok (p:Pk) (hf:p.Fit) (hp:CH) (m:Nat):MeetsF Tryz.prog 31 hp m [pkx p] (pkx p):=by
 have:=Pk.ind (Q:=fun p=>p.Fit→∀hp m,MeetsF Tryz.prog 31 hp m [pkx p] (pkx p)) (fun p ih hf hp m=>scopied_of p hf (fun x hx=>ih x hx (hf.x hx)) hp m) p
 exact this hf hp m
def zPk:Pk:=.mk ⟨#[]⟩ ⟨#[]⟩ ⟨#[]⟩ [] ⟨#[]⟩ [] ⟨#[]⟩ 0 []
def srcP (p:Pln):Option Pk:=if p.k=3 then (match p.l with
 | [x]=>some x
 | _=>none) else none
def srcRP (o:Option Pk):AV:=.tp [pkx (o.getD zPk),.i .i64 (if o.isSome=true then 0 else 2)]
theorem srcP_some {p:Pln} {x:Pk} (h:srcP p=some x):p.k=3∧p.l=[x]:=by
 unfold srcP at h
 split at h
 .rename_i c
  refine ⟨c,?_⟩
  split at h
  .rename_i y hy;cases h;exact hy
  .cases h
 .cases h
theorem srcP_of {p:Pln} (h1:p.k=3) (h2:p.l.length=1):∃x,p.l=[x]∧srcP p=some x:=by
 match hl:p.l,h2 with
 | [x],_=>exact ⟨x,rfl,by unfold srcP;rw [if_pos h1,hl]⟩
theorem srcP_none {p:Pln} (h:¬(p.k=3∧p.l.length=1)):srcP p=none:=by
 cases e:srcP p with
 | none=>rfl
 | some x =>
  obtain ⟨h1,h2⟩:=srcP_some e
  exact absurd ⟨h1,by rw [h2];rfl⟩ h
theorem sSource_ok (p:Pln) (hf:∀x∈p.l,x.Fit) (hp:CH) (m:Nat):MeetsF Tryz.prog 12 hp m [plx p] (srcRP (srcP p)):=by
 by_cases c:p.k=3∧p.l.length=1
 .obtain ⟨x,hx,e⟩:=srcP_of c.1 c.2
  have hc:=scopied_ok x (hf x (by rw [hx];simp))
  have ex:p.l[0]?=some x:=by rw [hx];rfl
  rw [e,srcRP]
  refine meetsF Tryz.func12 (by kernel_rfl) cc12 cr12 rfl fun hf=>?_;unfold ck12
  simp only [go_sem,↓reduceIte,Za,Zb,Zc,Zd,Ze,reduceCtorEq,Zf,Zg,Zh,Zi,Zj,Zk]
  refine cdK_of (fun q=>?_) (fun q=>?_)
  .exfalso
   simp at q
   have:=c.2
   rcases q with q | q
   .exact q c.1
   .omega
  simp (disch:=omega) only [ite_ne,getK_s (mapC_get pkC ex),c.2,go_sem,↓reduceIte,Za,Zb,Zc,Zd,Ze,reduceCtorEq,Zf,Zg,Zh,Zi,Zj,Zk]
  refine vcCall.f (hc _ _) ?_
  simp only [go_sem,↓reduceIte,Za,Zb,Zc,Zd,Ze,reduceCtorEq,Zf,Zg,Zh,Zi,Zj,Zk]
 .rw [srcP_none c,srcRP]
  refine meetsF Tryz.func12 (by kernel_rfl) cc12 cr12 rfl fun hf=>?_;unfold ck12
  simp only [go_sem,↓reduceIte,Za,Zb,Zc,Zd,Ze,reduceCtorEq,Zf,Zg,Zh,Zi,Zj,Zk]
  refine cdK_of (fun q=>?_) (fun q=>?_)
  .simp only [go_sem,↓reduceIte,Za,Zb,Zc,Zd,Ze,reduceCtorEq,Zf,Zg,Zh,Zi,Zj,Zk]
   rfl
  .exfalso
   simp at q
   exact c ⟨q.1,by omega⟩
theorem rSource_ok (p:Pln) (hp:CH) (m:Nat):MeetsF Tryz.prog 13 hp m [plx p] (srcRP (srcP p)):=by
 by_cases c:p.k=3∧p.l.length=1
 .obtain ⟨x,hx,e⟩:=srcP_of c.1 c.2
  have ex:p.l[0]?=some x:=by rw [hx];rfl
  rw [e,srcRP]
  refine meetsF Tryz.func13 (by kernel_rfl) cc13 cr13 rfl fun hf=>?_;unfold ck13
  simp only [go_sem,↓reduceIte,Za,Zb,Zc,Zd,Ze,reduceCtorEq,Zf,Zg,Zh,Zi,Zj,Zk]
  refine cdK_of (fun q=>?_) (fun q=>?_)
  .exfalso
   simp at q
   have:=c.2
   rcases q with q | q
   .exact q c.1
   .omega
  simp (disch:=omega) only [ite_ne,getK_s (mapC_get pkC ex),c.2,go_sem,↓reduceIte,Za,Zb,Zc,Zd,Ze,reduceCtorEq,Zf,Zg,Zh,Zi,Zj,Zk]
 .rw [srcP_none c,srcRP]
  refine meetsF Tryz.func13 (by kernel_rfl) cc13 cr13 rfl fun hf=>?_;unfold ck13
  simp only [go_sem,↓reduceIte,Za,Zb,Zc,Zd,Ze,reduceCtorEq,Zf,Zg,Zh,Zi,Zj,Zk]
  refine cdK_of (fun q=>?_) (fun q=>?_)
  .simp only [go_sem,↓reduceIte,Za,Zb,Zc,Zd,Ze,reduceCtorEq,Zf,Zg,Zh,Zi,Zj,Zk]
   rfl
  .exfalso
   simp at q
   exact c ⟨q.1,by omega⟩
end Go.Proofs.YtinbodeocoeneaaGreatDoor
