/- Proof. Conditions: none. -/
import Derived.Test.YthiifoleopdieaaGreatDoorIz46
open Nat renaming reduceEqDiff→Za,reduceBEq→Zb,reduceAdd→Zc,reduceLeDiff→Zd,reduceLT→Ze,reduceMul→Zf,reduceSub→Zg
open Int renaming reduceEq→Zh,reduceLT→Zi,reduceLE→Zj,reduceToNat→Zk
open List renaming mem_of_getElem?→zla,length_cons→zlc,length_append→zld,length_nil→zle,append_assoc→zlf,getElem?_eq_getElem→zlg,cons_append→zlh,nil_append→zli,take_length→zlj,take_of_length_le→zlk,map_append→zlq,mem_map_of_mem→zls,length_map→zlv
open Nat renaming le_refl→zna
namespace Go.Proofs.YthiifoleopdieaaGreatDoor
open Go.Eng
set_option linter.all false
set_option maxRecDepth 20000
set_option maxHeartbeats 1000000 in
theorem rObject_of (s:Sup) (hs:SOk s) (d:Dat) {B:Nat} (hd:DOk d B) (l:List Pk) (hl:l.length≤1048576)
  (h:∀p∈l,∀i,exB d i=true→∀hp m,MeetsF Tryz.prog 41 hp m [supx s,dx d,.i .i64 i,pkx p] (vx (pickV s d p i)))
  (i:Int) (hp:CH) (m:Nat):MeetsF Tryz.prog 16 hp m [supx s,dx d,.i .i64 i,.ds (mapC pkC l)] (vx (objectV s d l i)):=by
 have hEx:=exists_ok d i
 obtain ⟨R,hR⟩:∃R,objectV s d l i=R:=⟨_,rfl⟩
 have e:=hR
 rw [objectV] at e
 rw [hR]
 obtain ⟨X,hX⟩:∃X,exB d i=X:=⟨_,rfl⟩
 have h2:=fun p hp=>h p hp i
 rw [hX] at e hEx h2
 refine meetsF Tryz.func16 (by kernel_rfl) cc16 cr16 rfl fun hf=>?_;unfold ck16
 simp only [go_sem,↓reduceIte,Za,Zb,Zc,Zd,Ze,reduceCtorEq,Zf,Zg,Zh,Zi,Zj,Zk]
 refine vcCall.f (hEx _ _) ?_
 simp only [go_sem,↓reduceIte,Za,Zb,Zc,Zd,Ze,reduceCtorEq,Zf,Zg,Zh,Zi,Zj,Zk]
 cases X with
 | false =>
  rw [if_neg (by simp)] at e
  subst e
  simp only [go_sem,↓reduceIte,Za,Zb,Zc,Zd,Ze,reduceCtorEq,Zf,Zg,Zh,Zi,Zj,Zk]
  rfl
 | true =>
 rw [if_pos rfl] at e
 obtain ⟨i',x,rfl,ex,hil,ht⟩:=exB_at hX
 have hF:∀j p,l[j]?=some p→fieldsV s d (l.take (j+1)) i'=if p.on=x.t then fieldsV s d (l.take j) i'++[(p.key,pickV s d p i')] else fieldsV s d (l.take j) i':=by
  intro j p hjp
  rw [←take_snoc hjp,fieldsV_eq,fieldsV_eq,List.filter_append,zlq,ht]
  by_cases c:p.on=x.t
  .rw [if_pos c];simp [c]
  .rw [if_neg c];simp [c]
 rw [ht] at e
 have hq:∀j,(fieldsV s d (l.take j) i').length≤j:=fun j=>by
  have:=fieldsV_len s d (l.take j) i'
  rw [List.length_take] at this
  omega
 simp (disch:=omega) only [ite_ne,hil,getK_s (mapC_get itC ex),go_sem,↓reduceIte,Za,Zb,Zc,Zd,Ze,reduceCtorEq,Zf,Zg,Zh,Zi,Zj,Zk]
 refine vcCall.f (text_ok _ _ _) ?_
 simp only [go_sem,↓reduceIte,Za,Zb,Zc,Zd,Ze,reduceCtorEq,Zf,Zg,Zh,Zi,Zj,Zk]
 refine loop (fun q:Nat × List (ByteArray × Val) × Nat=>⟨[(2,.i .i64 i'),(3,.ds (mapC pkC l)),(4,.bx m 0),(5,.bx (m+1) 0),(8,.bx (m+2) 0),(9,.s x.t),(10,.bx (m+5) 0),(11,.i .i64 q.1)],
   (m,.bx [.ds (stC s.g),.ds (mapC dfC s.doc),.ds (mapC kyC s.keys),.ds (mapC jnC s.joins)])::(m+1,.bx [.ds (mapC itC d.i),.ds (mapC wrC d.w)])::(m+2,.bx [.i .i64 0,.i .i64 0,.s ⟨#[]⟩,.e0,.e0]) ::
   (m+5,.bx [.i .i64 6,.i .i64 0,.s ⟨#[]⟩,.rw (m+4) q.2.1.length (q.2.1.length+1),.rw (m+3) q.2.1.length (q.2.1.length+1)])::(m+4,.rw q.2.1.length 5 (mapC valC (txV x.t::q.2.1.map (·.2))))::(m+3,.rw q.2.1.length 1 (stC (⟨#[95,95,116]⟩::q.2.1.map (·.1))))::hp,q.2.2⟩)
  (fun q=>q.1≤l.length∧m+6≤q.2.2∧q.2.1=fieldsV s d (l.take q.1) i') (fun q=>l.length - q.1) (0,[],m+6) ?_ ?_ (fun ⟨j,F,n⟩ hj=>?_)
 .exact ⟨by simp,by simp,by dsimp only;rw [List.take_zero,fieldsV_eq];rfl⟩
 .refine weak_ok ?_ (Sub.cons ?_ (Sub.cons ?_ (Sub.cons ?_ (Sub.cons ?_ (Sub.cons ?_ (Sub.cons ?_ (Sub.base hf ?_))))))) (zna _)
  all_goals (simp (disch:=omega) only [ite_ne,go_sem,↓reduceIte,Za,Zb,Zc,Zd,Ze,reduceCtorEq,Zf,Zg,Zh,Zi,Zj,Zk])
  all_goals rfl
 dsimp only at hj
 obtain ⟨hj1,hj2,hj3⟩:=hj
 have hmn:m≤n:=by omega
 have hFl:F.length≤j:=by rw [hj3];exact hq j
 simp (disch:=omega) only [ite_ne,go_sem,↓reduceIte,Za,Zb,Zc,Zd,Ze,reduceCtorEq,Zf,Zg,Zh,Zi,Zj,Zk]
 refine cdK_of (fun q=>?_) (fun q=>?_)
 .have q:j<l.length:=by simpa using q
  obtain ⟨p,ep⟩:∃p,l[j]?=some p:=⟨l[j],by simp [q]⟩
  have hst:=hF j p ep
  have hrd:=h2 p (zla ep) rfl
  rw [←hj3] at hst
  have hl1:(F.map (·.2)).length=F.length:=by simp
  have hl2:(F.map (·.1)).length=F.length:=by simp
  have k1:(F.length+1+1)*80≤140737488355328:=by omega
  have k2:(F.length+1+1)*16≤140737488355328:=by omega
  have k3:F.length+1+1≤9223372036854775807:=by omega
  have k4:l.length - (j+1)<l.length - j:=by omega
  simp (disch:=omega) only [ite_ne,q,getK_s (mapC_get pkC ep),go_sem,↓reduceIte,Za,Zb,Zc,Zd,Ze,reduceCtorEq,Zf,Zg,Zh,Zi,Zj,Zk]
  refine cdK_of (fun c=>?_) (fun c=>?_)
  .have c:p.on=x.t:=by simpa using c
   rw [if_pos c] at hst
   simp (disch:=omega) only [ite_ne,q,getK_s (mapC_get pkC ep),hl1,hl2,k1,k2,k3,go_sem,↓reduceIte,Za,Zb,Zc,Zd,Ze,reduceCtorEq,Zf,Zg,Zh,Zi,Zj,Zk]
   refine dCallR.f (fun _ hp' e=>hrd _ _) ?_
   simp (disch:=omega) only [ite_ne,q,getK_s (mapC_get pkC ep),hl1,hl2,k1,k2,k3,go_sem,↓reduceIte,Za,Zb,Zc,Zd,Ze,reduceCtorEq,Zf,Zg,Zh,Zi,Zj,Zk]
   refine ⟨(j+1,F++[(p.key,pickV s d p i')],_),⟨by dsimp only;omega,by dsimp only;omega,hst.symm⟩,k4,weak_ok ?_ (Sub.cons ?_ (Sub.cons ?_ (Sub.cons ?_ (Sub.cons ?_ (Sub.cons ?_ (Sub.cons ?_ (Sub.base hf ?_))))))) (zna _)⟩
   all_goals
    simp (disch:=omega) only [ite_ne,wr64s j (by omega),hmn,zld,zlc,zle,zlq,List.map_cons,List.map_nil,go_sem,↓reduceIte,Za,Zb,Zc,Zd,Ze,reduceCtorEq,Zf,Zg,Zh,Zi,Zj,Zk]
  .have c:¬p.on=x.t:=by simpa using c
   rw [if_neg c] at hst
   simp (disch:=omega) only [ite_ne,go_sem,↓reduceIte,Za,Zb,Zc,Zd,Ze,reduceCtorEq,Zf,Zg,Zh,Zi,Zj,Zk]
   refine ⟨(j+1,F,_),⟨by dsimp only;omega,by dsimp only;omega,hst.symm⟩,k4,weak_ok ?_ (Sub.cons ?_ (Sub.cons ?_ (Sub.cons ?_ (Sub.cons ?_ (Sub.cons ?_ (Sub.cons ?_ (Sub.base hf ?_))))))) (zna _)⟩
   all_goals
    simp (disch:=omega) only [ite_ne,wr64s j (by omega),hmn,go_sem,↓reduceIte,Za,Zb,Zc,Zd,Ze,reduceCtorEq,Zf,Zg,Zh,Zi,Zj,Zk]
 .have q:j=l.length:=by simp at q;omega
  subst q
  rw [zlj] at hj3
  rw [←hj3] at e
  subst e
  have hl1:(F.map (·.2)).length=F.length:=by simp
  have hl2:(F.map (·.1)).length=F.length:=by simp
  have hl3:(F.map (·.2)).take F.length=F.map (·.2):=zlk (by omega)
  have hl4:(F.map (·.1)).take F.length=F.map (·.1):=zlk (by omega)
  simp (disch:=omega) only [ite_ne,hl1,hl2,hl3,hl4,zna,hmn,go_sem,↓reduceIte,Za,Zb,Zc,Zd,Ze,reduceCtorEq,Zf,Zg,Zh,Zi,Zj,Zk]
  try rfl
theorem rpick_ok (s:Sup) (hs:SOk s) (d:Dat) {B:Nat} (hd:DOk d B) (p:Pk) (hpo:p.Ok) (i:Int) (hi:exB d i=true) (hp:CH) (m:Nat):MeetsF Tryz.prog 41 hp m [supx s,dx d,.i .i64 i,pkx p] (vx (pickV s d p i)):=by
 have:=Pk.ind (Q:=fun p=>p.Ok→∀i,exB d i=true→∀hp m,MeetsF Tryz.prog 41 hp m [supx s,dx d,.i .i64 i,pkx p] (vx (pickV s d p i)))
  (fun p ih hpo i hi hp m=>rread_of s hs d hd p hpo.a (fun v hv=>rRaw_ok s hs d hd p (objectV_fit hd hpo.l fun x hx=>hpo.x hx)
   (fun i hp m=>rObject_of s hs d hd p.picks hpo.l (fun x hx i hi hp m=>ih x hx (hpo.x hx) i hi hp m) i hp m) v hv) i hi hp m) p
 exact this hpo i hi hp m
theorem appV_dok {d:Dat} {B:Nat} (hd:DOk d B) (h:B+d.w.length≤100000000000) (f a:ByteArray):DOk (appV d f a) (B+d.w.length) :=
 ⟨appV_fit2 hd.f hd.c h f a,appL_vals (Q:=fun c=>VSm c.v) hd.v hd.w,hd.w,appL_cells hd.c⟩
def itemI (d:Dat) (root:ByteArray):Int:=fidx (fun x:Itm=>decide (x.t=root)) d.i 0
theorem fidx_map {α β:Type} (g:α→β) (q:β→Bool):∀(l:List α) (j:Nat),fidx (fun x=>q (g x)) l j=fidx q (l.map g) j
 | [],j=>by simp [fidx]
 | x::l,j=>by
  rw [List.map_cons,fidx,fidx,fidx_map g q l (j+1)]
theorem typs_app (d:Dat) (f a:ByteArray):(appV d f a).i.map Itm.t=d.i.map Itm.t:=by
 apply List.ext_getElem?
 intro n
 rw [List.getElem?_map,List.getElem?_map]
 unfold appV
 rw [Dat.i_mk,appL_get]
 cases d.i[n]? with
 | none=>rfl
 | some x=>rfl
theorem itemI_eq (d:Dat) (root:ByteArray):itemI d root=fidx (fun t=>decide (t=root)) (d.i.map Itm.t) 0:=fidx_map Itm.t (fun t=>decide (t=root)) d.i 0
theorem itemI_app (d:Dat) (f a root:ByteArray):itemI (appV d f a) root=itemI d root:=by rw [itemI_eq,itemI_eq,typs_app]
theorem itemI_ex {d:Dat} {root:ByteArray} (h:0≤itemI d root):exB d (itemI d root)=true∧typD d (itemI d root)=root:=by
 have h1:=fidx_lt (fun x:Itm=>decide (x.t=root)) d.i 0
 have h2:itemI d root=fidx (fun x:Itm=>decide (x.t=root)) d.i 0:=rfl
 rw [←h2] at h1
 obtain ⟨j,hj⟩:∃j:Nat,itemI d root=j:=⟨(itemI d root).toNat,by omega⟩
 have hjl:j<d.i.length:=by omega
 obtain ⟨x,ex⟩:∃x,d.i[j]?=some x:=⟨d.i[j],by simp [hjl]⟩
 have h3:=fidx_at (fun x:Itm=>decide (x.t=root)) d.i 0 j x (by rw [←h2,hj];simp) ex
 rw [hj]
 exact ⟨by simp [exB];omega,by rw [typD_at ex];simpa using h3⟩
noncomputable def noneF (root:ByteArray) (l:List Pk):List (ByteArray × Val):=(l.filter fun p=>decide (p.on=root)).map fun p=>(p.key,if p.name=sTypename then txV root else zVal)
noncomputable def rootP (s:Sup) (root:ByteArray) (d:Dat) (x:Pk):Val:=if 0≤itemI d root then pickV s d x (itemI d root) else if x.name=sTypename then txV root else zVal
noncomputable def rootT (s:Sup) (root:ByteArray) (d:Dat) (x:Pk):List UInt8:=if 0≤itemI d root then argT s d (itemI d root) x else argsL x.args
noncomputable def rootD (s:Sup) (mu:Bool) (root:ByteArray) (d:Dat) (x:Pk):Dat:=if (mu&&!decide (x.name=sTypename))=true then appV d x.name (ofL (rootT s root d x)) else d
noncomputable def runS (s:Sup) (mu:Bool) (root:ByteArray) (a:List (ByteArray × Val) × Dat) (x:Pk):List (ByteArray × Val) × Dat :=
 if x.on=root then (a.1++[(x.key,rootP s root (rootD s mu root a.2 x) x)],rootD s mu root a.2 x) else a
noncomputable def runL (s:Sup) (mu:Bool) (root:ByteArray) (d:Dat) (l:List Pk):List (ByteArray × Val) × Dat:=l.foldl (runS s mu root) ([],d)
theorem runL_step {s:Sup} {mu:Bool} {root:ByteArray} {d:Dat} {l:List Pk} {j:Nat} {x:Pk} (h:l[j]?=some x):runL s mu root d (l.take (j+1))=runS s mu root (runL s mu root d (l.take j)) x:=by
 unfold runL
 rw [←take_snoc h,List.foldl_append]
 rfl
theorem runS_len (s:Sup) (mu:Bool) (root:ByteArray) (a:List (ByteArray × Val) × Dat) (x:Pk):(runS s mu root a x).1.length≤a.1.length+1:=by
 unfold runS
 split<;>simp
theorem runL_len (s:Sup) (mu:Bool) (root:ByteArray) (d:Dat) (l:List Pk):∀j,(runL s mu root d (l.take j)).1.length≤j
 | 0=>by simp [runL]
 | j+1=>by
  by_cases hj:j<l.length
  .rw [runL_step (zlg hj)]
   have h1:=runS_len s mu root (runL s mu root d (l.take j)) l[j]
   have h2:=runL_len s mu root d l j
   omega
  .rw [zlk (by omega),←zlk (i:=j) (l:=l) (by omega)]
   have h2:=runL_len s mu root d l j
   omega
theorem rootD_w (s:Sup) (mu:Bool) (root:ByteArray) (d:Dat) (x:Pk):(rootD s mu root d x).w=d.w:=by
 unfold rootD
 split<;>rfl
theorem rootD_item (s:Sup) (mu:Bool) (root:ByteArray) (d:Dat) (x:Pk) (t:ByteArray):itemI (rootD s mu root d x) t=itemI d t:=by
 unfold rootD
 split
 .exact itemI_app _ _ _ _
 .rfl
theorem rootD_dok {s:Sup} {mu:Bool} {root:ByteArray} {d:Dat} {x:Pk} {B:Nat} (hd:DOk d B) (h:mu=true→B+d.w.length≤100000000000):DOk (rootD s mu root d x) (B+if mu=true then d.w.length else 0):=by
 unfold rootD
 split
 .rename_i q
  have q:mu=true:=by simp at q;exact q.1
  rw [if_pos q]
  exact appV_dok hd (h q) _ _
 .exact ⟨hd.f,hd.v,hd.w,fun x hx=>Nat.le_trans (hd.c x hx) (Nat.le_add_right _ _)⟩
theorem DOk.mono {d:Dat} {B C:Nat} (h:DOk d B) (hbc:B≤C):DOk d C:=⟨h.f,h.v,h.w,fun x hx=>Nat.le_trans (h.c x hx) hbc⟩
theorem runL_inv (s:Sup) (mu:Bool) (root:ByteArray) (d:Dat) (l:List Pk) {B:Nat} (hd:DOk d B) (h:mu=true→B+l.length*d.w.length≤100000000000):∀j,j≤l.length →
  (runL s mu root d (l.take j)).2.w=d.w∧(∀t,itemI (runL s mu root d (l.take j)).2 t=itemI d t)∧DOk (runL s mu root d (l.take j)).2 (B+j*(if mu=true then d.w.length else 0))
 | 0,_=>⟨rfl,fun _=>rfl,by simpa [runL] using hd⟩
 | j+1,hj=>by
  obtain ⟨h1,h2,h3⟩:=runL_inv s mu root d l hd h j (by omega)
  rw [runL_step (zlg (show j<l.length by omega))]
  unfold runS
  have e:(j+1)*(if mu=true then d.w.length else 0)=j*(if mu=true then d.w.length else 0)+(if mu=true then d.w.length else 0):=by rw [Nat.add_mul,Nat.one_mul]
  split
  .refine ⟨by rw [rootD_w];exact h1,fun t=>by rw [rootD_item];exact h2 t,?_⟩
   have:=rootD_dok (s:=s) (mu:=mu) (root:=root) (x:=l[j]) h3 (fun q=>by
    rw [if_pos q,h1]
    have hh:=h q
    have:(j+1)*d.w.length≤l.length*d.w.length:=Nat.mul_le_mul_right _ hj
    rw [Nat.add_mul,Nat.one_mul] at this
    omega)
   rw [h1] at this
   rw [e,←Nat.add_assoc]
   exact this
  .exact ⟨h1,h2,h3.mono (by rw [e];omega)⟩
theorem runL_query (s:Sup) (root:ByteArray) (d:Dat) (l:List Pk):runL s false root d l=(if 0≤itemI d root then fieldsV s d l (itemI d root) else noneF root l,d):=by
 have key:∀(l:List Pk) (acc:List (ByteArray × Val)),l.foldl (runS s false root) (acc,d)=(acc++(l.filter fun p=>decide (p.on=root)).map fun p=>(p.key,rootP s root d p),d):=by
  intro l
  induction l with
  | nil=>intro acc;simp
  | cons p l ih =>
   intro acc
   rw [List.foldl_cons,runS]
   have e:rootD s false root d p=d:=by rw [rootD,Bool.false_and];rfl
   by_cases c:p.on=root
   .rw [if_pos c]
    dsimp only
    rw [e,ih,List.filter_cons_of_pos (by simp [c]),List.map_cons,zlf]
    rfl
   .rw [if_neg c,ih,List.filter_cons_of_neg (by simp [c])]
 unfold runL
 rw [key l []]
 simp only [zli,Prod.mk.injEq,and_true]
 unfold rootP
 by_cases c:0≤itemI d root
 .rw [if_pos c,fieldsV_eq,(itemI_ex c).2]
  simp only [if_pos c]
 .rw [if_neg c,noneF]
  simp only [if_neg c]
noncomputable def runV (s:Sup) (d:Dat) (p:Pln):Val × Dat:=(objV (rootS p.k) (runL s (decide (p.k=2)) (rootS p.k) d p.l).1,(runL s (decide (p.k=2)) (rootS p.k) d p.l).2)
theorem joinB_ofL (W:List (List UInt8)) (sep:List UInt8):joinB (W.map ofL) (ofL sep)=ofL (Lib.join W sep):=by
 unfold joinB
 have e:(W.map ofL).map (fun x:ByteArray=>x.data.toList)=W:=by
  rw [List.map_map]
  conv=>rhs;rw [←List.map_id W]
  refine List.map_congr_left fun x _=>?_
  simp [ofL]
 rw [e]
 simp [ofL]
theorem join_ok (W:List (List UInt8)) {α:AV} {hp:CH} (hsl:sl0 hp α=some (stC (W.map ofL))) (hlen:(jn W).length≤140737488355328) (hN:W.length≤140737488355328) (m:Nat):MeetsF Tryz.prog 87 hp m [α,.s ⟨#[44,32]⟩] (.s (ofL (jn W))):=by
 have e:=joinB_ofL W [44,32]
 have:=meets_join (n:=m) (xs:=W.map ofL) (sep:=ofL [44,32]) (α:=α) (hp:=hp) Tryz.lays156 Tryz.Builder_Extra_156 (f:=87) rfl ⟨_,Tryz.func87,by kernel_rfl,by kernel_rfl⟩ hsl (by rw [e,ofL_size];exact hlen) (by rw [zlv];exact hN)
 rw [e] at this
 exact this
theorem snoc_stW (W:List (List UInt8)) (x:List UInt8):mapC st1 (W.map ofL)++[[AV.s (ofL x)]]=mapC st1 ((W++[x]).map ofL):=by
 rw [zlq]
 exact mapC_snoc st1 _ _
theorem map_take_snoc {α β:Type} (f:α→β) {l:List α} {j:Nat} {x:α} (h:l[j]?=some x):(l.take j).map f++[f x]=(l.take (j+1)).map f:=by
 rw [←take_snoc h,zlq]
 rfl
theorem twritten_of (v:Val) (hv:v.Fit) (hr:v.Rng) (hb:avL (valC v)≤1000000000) (h:∀x∈v.items,∀hp m,MeetsF Tryz.prog 86 hp m [vx x] (.s (ofL (wrtV x)))) (hp:CH) (m:Nat):MeetsF Tryz.prog 86 hp m [vx v] (.s (ofL (wrtV v))):=by
 have hi:=hv.i
 have hl:=hv.l
 have e:=wrtV_eq v
 have hE:=avL_val v
 have hx1:=list_len v.items fun x hx=>wrtV_len x (hr.x hx)
 have hx2:=zip_len v.keys v.items fun x hx=>wrtV_len x (hr.x hx)
 obtain ⟨R,hR⟩:∃R,wrtV v=R:=⟨_,rfl⟩
 rw [hR] at e ⊢
 refine meetsF Tryz.func86 (by kernel_rfl) cc86 cr86 rfl fun hf=>?_;unfold ck86
 simp only [go_sem,↓reduceIte,Za,Zb,Zc,Zd,Ze,reduceCtorEq,Zf,Zg,Zh,Zi,Zj,Zk]
 refine cdK_of (fun c=>?_) (fun c0=>?_)
 .have c:v.k=0:=by simpa using c
  rw [if_pos c] at e
  subst e
  simp only [go_sem,↓reduceIte,Za,Zb,Zc,Zd,Ze,reduceCtorEq,Zf,Zg,Zh,Zi,Zj,Zk]
  rfl
 have c0:¬v.k=0:=by simpa using c0
 rw [if_neg c0] at e
 simp only [go_sem,↓reduceIte,Za,Zb,Zc,Zd,Ze,reduceCtorEq,Zf,Zg,Zh,Zi,Zj,Zk]
 refine cdK_of (fun c=>?_) (fun c1=>?_)
 .have c:v.k=1:=by simpa using c
  rw [if_pos c] at e
  simp only [go_sem,↓reduceIte,Za,Zb,Zc,Zd,Ze,reduceCtorEq,Zf,Zg,Zh,Zi,Zj,Zk]
  refine cdK_of (fun d=>?_) (fun d=>?_)
  .have d:v.n=0:=by simpa using d
   rw [if_pos d] at e
   subst e
   simp only [go_sem,↓reduceIte,Za,Zb,Zc,Zd,Ze,reduceCtorEq,Zf,Zg,Zh,Zi,Zj,Zk]
   rfl
  .have d:¬v.n=0:=by simpa using d
   rw [if_neg d] at e
   subst e
   simp only [go_sem,↓reduceIte,Za,Zb,Zc,Zd,Ze,reduceCtorEq,Zf,Zg,Zh,Zi,Zj,Zk]
   rfl
 have c1:¬v.k=1:=by simpa using c1
 rw [if_neg c1] at e
 simp only [go_sem,↓reduceIte,Za,Zb,Zc,Zd,Ze,reduceCtorEq,Zf,Zg,Zh,Zi,Zj,Zk]
 refine cdK_of (fun c=>?_) (fun c2=>?_)
 .have c:v.k=2:=by simpa using c
  rw [if_pos c] at e
  subst e
  simp only [go_sem,↓reduceIte,Za,Zb,Zc,Zd,Ze,reduceCtorEq,Zf,Zg,Zh,Zi,Zj,Zk]
  refine vcCall.f (tDecimal_ok v.n hr.l hr.u _ _) ?_
  simp only [go_sem,↓reduceIte,Za,Zb,Zc,Zd,Ze,reduceCtorEq,Zf,Zg,Zh,Zi,Zj,Zk]
 have c2:¬v.k=2:=by simpa using c2
 rw [if_neg c2] at e
 simp only [go_sem,↓reduceIte,Za,Zb,Zc,Zd,Ze,reduceCtorEq,Zf,Zg,Zh,Zi,Zj,Zk]
 refine cdK_of (fun c=>?_) (fun c3=>?_)
 .have c:v.k=3:=by simpa using c
  rw [if_pos c] at e
  subst e
  simp only [go_sem,↓reduceIte,Za,Zb,Zc,Zd,Ze,reduceCtorEq,Zf,Zg,Zh,Zi,Zj,Zk]
  refine vcCall.f (tQuote_ok v.s (by omega) _ _) ?_
  simp only [go_sem,↓reduceIte,Za,Zb,Zc,Zd,Ze,reduceCtorEq,Zf,Zg,Zh,Zi,Zj,Zk]
 have c3:¬v.k=3:=by simpa using c3
 rw [if_neg c3] at e
 simp only [go_sem,↓reduceIte,Za,Zb,Zc,Zd,Ze,reduceCtorEq,Zf,Zg,Zh,Zi,Zj,Zk]
 refine cdK_of (fun c=>?_) (fun c4=>?_)
 .have c:v.k=4:=by simpa using c
  rw [if_pos c] at e
  subst e
  simp only [go_sem,↓reduceIte,Za,Zb,Zc,Zd,Ze,reduceCtorEq,Zf,Zg,Zh,Zi,Zj,Zk]
  rw [ofL_bs]
 have c4:¬v.k=4:=by simpa using c4
 rw [if_neg c4] at e
 simp only [go_sem,↓reduceIte,Za,Zb,Zc,Zd,Ze,reduceCtorEq,Zf,Zg,Zh,Zi,Zj,Zk]
 refine cdK_of (fun c=>?_) (fun c7=>?_)
 .have c:v.k=7:=by simpa using c
  rw [if_pos c] at e
  subst e
  simp only [go_sem,↓reduceIte,Za,Zb,Zc,Zd,Ze,reduceCtorEq,Zf,Zg,Zh,Zi,Zj,Zk]
  have:(#[36]:Array UInt8).size=1:=rfl
  refine ⟨by omega,?_⟩
  rw [←ofL_bs v.s,mk_ofL,ofL_app,bs_ofL]
  rfl
 have c7:¬v.k=7:=by simpa using c7
 rw [if_neg c7] at e
 simp only [go_sem,↓reduceIte,Za,Zb,Zc,Zd,Ze,reduceCtorEq,Zf,Zg,Zh,Zi,Zj,Zk]
 refine cdK_of (fun c=>?_) (fun c5=>?_)
 .have c:v.k=5:=by simpa using c
  rw [if_pos c] at e
  have hfin:=jn_le (v.items.map wrtV)
  simp only [go_sem,↓reduceIte,Za,Zb,Zc,Zd,Ze,reduceCtorEq,Zf,Zg,Zh,Zi,Zj,Zk]
  refine loop (fun p:Nat × Nat=>⟨[(3,.rw (m+1) p.1 p.1),(38,.ds (mapC valC v.items)),(39,.i .i64 v.items.length),(40,.i .i64 p.1)],(m,.bx [.i .i64 v.k,.i .i64 v.n,.s v.s,.ds (mapC valC v.items),.ds (stC v.keys)])::(m+1,.rw p.1 1 (stC (((v.items.take p.1).map wrtV).map ofL)))::hp,p.2⟩)
   (fun p=>p.1≤v.items.length∧m+2≤p.2) (fun p=>v.items.length - p.1) (0,m+2) ?_ ?_ (fun ⟨j,n⟩ hj=>?_)
  .simp
  .refine (weak_e0 (t:=3) (m:=1) ?_).trans (weak_ok ?_ (Sub.cons ?_ (Sub.cons ?_ (Sub.base hf ?_))) (zna _))
   all_goals (simp (disch:=omega) only [ite_ne,go_sem,↓reduceIte,Za,Zb,Zc,Zd,Ze,reduceCtorEq,Zf,Zg,Zh,Zi,Zj,Zk])
   all_goals rfl
  dsimp only at hj
  obtain ⟨hj1,hj2⟩:=hj
  simp (disch:=omega) only [ite_ne,go_sem,↓reduceIte,Za,Zb,Zc,Zd,Ze,reduceCtorEq,Zf,Zg,Zh,Zi,Zj,Zk]
  refine cdK_of (fun q=>?_) (fun q=>?_)
  .have q:j<v.items.length:=by simpa using q
   obtain ⟨x,ex⟩:∃x,v.items[j]?=some x:=⟨v.items[j],by simp [q]⟩
   have hx:=h x (zla ex)
   have ht:(((v.items.take j).map wrtV).map ofL).length=j:=by simp;omega
   have k1:(j+1)*16≤140737488355328:=by omega
   have k2:j+1≤9223372036854775807:=by omega
   simp (disch:=omega) only [ite_ne,q,getK_s (mapC_get valC ex),go_sem,↓reduceIte,Za,Zb,Zc,Zd,Ze,reduceCtorEq,Zf,Zg,Zh,Zi,Zj,Zk]
   refine vcCall.f (hx _ _) ?_
   simp (disch:=omega) only [ite_ne,ht,k1,k2,go_sem,↓reduceIte,Za,Zb,Zc,Zd,Ze,reduceCtorEq,Zf,Zg,Zh,Zi,Zj,Zk]
   refine ⟨(j+1,_),⟨by dsimp only;omega,by dsimp only;omega⟩,by dsimp only;omega,weak_ok ?_ (Sub.cons ?_ (Sub.cons ?_ (Sub.base hf ?_))) (zna _)⟩
   all_goals
    simp (disch:=omega) only [ite_ne,wr64s j (by omega),snoc_stW,map_take_snoc wrtV ex,go_sem,↓reduceIte,Za,Zb,Zc,Zd,Ze,reduceCtorEq,Zf,Zg,Zh,Zi,Zj,Zk]
   rw [←snoc_st,snoc_stW,map_take_snoc wrtV ex]
  .have q:j=v.items.length:=by simp at q;omega
   subst q
   rw [zlj]
   subst e
   have hl1:((v.items.map wrtV).map ofL).length=v.items.length:=by simp
   have hl2:((v.items.map wrtV).map ofL).take v.items.length=(v.items.map wrtV).map ofL:=zlk (by omega)
   simp (disch:=omega) only [ite_ne,go_sem,↓reduceIte,Za,Zb,Zc,Zd,Ze,reduceCtorEq,Zf,Zg,Zh,Zi,Zj,Zk]
   refine vcCall.f (join_ok (v.items.map wrtV) ?_ (by omega) (by rw [zlv];omega) _) ?_
   .simp (disch:=omega) only [ite_ne,hl1,hl2,sl0,go_sem,↓reduceIte,Za,Zb,Zc,Zd,Ze,reduceCtorEq,Zf,Zg,Zh,Zi,Zj,Zk]
    done
   simp (disch:=first | omega | (simp only [zld,zlc,zle];omega)) only [ite_ne,s_cat,mk_ofL,ofL_app,litS,zlh,zlf,zli,hl1,go_sem,↓reduceIte,Za,Zb,Zc,Zd,Ze,reduceCtorEq,Zf,Zg,Zh,Zi,Zj,Zk]
 have c5:¬v.k=5:=by simpa using c5
 rw [if_neg c5] at e
 simp only [go_sem,↓reduceIte,Za,Zb,Zc,Zd,Ze,reduceCtorEq,Zf,Zg,Zh,Zi,Zj,Zk]
 refine cdK_of (fun c=>?_) (fun c6=>?_)
 .have c:v.k=6:=by simpa using c
  rw [if_pos c] at e
  obtain ⟨Z,hZ⟩:∃Z,List.zipWith fieldL v.keys (v.items.map wrtV)=Z:=⟨_,rfl⟩
  have hZl:Z.length=min v.keys.length v.items.length:=by rw [←hZ];simp
  rw [hZ] at e hx2
  have hfin:=jn_le Z
  have hmn:(if (v.items.length:Int)<v.keys.length then (v.items.length:Int) else v.keys.length)=(Z.length:Nat):=by rw [hZl];split<;>omega
  simp (disch:=omega) only [ite_ne,hmn,go_sem,↓reduceIte,Za,Zb,Zc,Zd,Ze,reduceCtorEq,Zf,Zg,Zh,Zi,Zj,Zk]
  refine loop (fun p:Nat × Nat=>⟨[(1,.bx m 0),(3,.rw (m+1) p.1 p.1),(62,.i .i64 Z.length),(63,.i .i64 p.1)],(m,.bx [.i .i64 v.k,.i .i64 v.n,.s v.s,.ds (mapC valC v.items),.ds (stC v.keys)])::(m+1,.rw p.1 1 (stC ((Z.take p.1).map ofL)))::hp,p.2⟩)
   (fun p=>p.1≤Z.length∧m+2≤p.2) (fun p=>Z.length - p.1) (0,m+2) ?_ ?_ (fun ⟨j,n⟩ hj=>?_)
  .simp
  .refine (weak_e0 (t:=3) (m:=1) ?_).trans (weak_ok ?_ (Sub.cons ?_ (Sub.cons ?_ (Sub.base hf ?_))) (zna _))
   all_goals (simp (disch:=omega) only [ite_ne,go_sem,↓reduceIte,Za,Zb,Zc,Zd,Ze,reduceCtorEq,Zf,Zg,Zh,Zi,Zj,Zk])
   all_goals rfl
  dsimp only at hj
  obtain ⟨hj1,hj2⟩:=hj
  simp (disch:=omega) only [ite_ne,go_sem,↓reduceIte,Za,Zb,Zc,Zd,Ze,reduceCtorEq,Zf,Zg,Zh,Zi,Zj,Zk]
  refine cdK_of (fun q=>?_) (fun q=>?_)
  .have q3:j<Z.length:=by simpa using q
   have q1:j<v.items.length:=by omega
   have q2:j<v.keys.length:=by omega
   obtain ⟨x,ex⟩:∃x,v.items[j]?=some x:=⟨v.items[j],by simp [q1]⟩
   obtain ⟨k,ek⟩:∃k,v.keys[j]?=some k:=⟨v.keys[j],by simp [q2]⟩
   have ez:Z[j]?=some (fieldL k (wrtV x)):=by rw [←hZ];simp [List.getElem?_zipWith,ex,ek]
   have hx:=h x (zla ex)
   have hw:=wrtV_len x (hr.x (zla ex))
   have hm:avL (valC x)≤avLL (mapC valC v.items):=avLL_in (zls (f:=valC) (zla ex))
   have hk:avL (st1 k)≤avLL (stC v.keys):=avLL_in (zls (f:=st1) (zla ek))
   obtain ⟨kb,rfl⟩:∃kb,k=ofL kb:=⟨bs k,(ofL_bs k).symm⟩
   have hk2:avL (st1 (ofL kb))=kb.length+1:=by simp [st1,avL,avw,ofL_size]
   have hfl:fieldL (ofL kb) (wrtV x)=kb++58::32::wrtV x:=by simp [fieldL,bs_ofL]
   have ht:((Z.take j).map ofL).length=j:=by simp;omega
   have k1:(j+1)*16≤140737488355328:=by omega
   have k2:j+1≤9223372036854775807:=by omega
   have hst:(Z.take j).map ofL++[ofL (kb++58::32::wrtV x)]=(Z.take (j+1)).map ofL:=by
    rw [←hfl]
    exact map_take_snoc ofL ez
   simp (disch:=first | omega | (simp only [zld,zlc,zle];omega)) only [ite_ne,s_cat,mk_ofL,ofL_app,litS,zlh,zlf,zli,q2,getK_s (mapC_get st1 ek),getK_s (mapC_get valC ex),q1,go_sem,↓reduceIte,Za,Zb,Zc,Zd,Ze,reduceCtorEq,Zf,Zg,Zh,Zi,Zj,Zk]
   refine dCallR.f (fun _ hp' e=>hx _ _) ?_
   simp (disch:=first | omega | (simp only [zld,zlc,zle];omega)) only [ite_ne,s_cat,mk_ofL,ofL_app,litS,zlh,zlf,zli,q2,getK_s (mapC_get st1 ek),getK_s (mapC_get valC ex),q1,ht,k1,k2,go_sem,↓reduceIte,Za,Zb,Zc,Zd,Ze,reduceCtorEq,Zf,Zg,Zh,Zi,Zj,Zk]
   refine ⟨(j+1,_),⟨by dsimp only;omega,by dsimp only;omega⟩,by dsimp only;omega,weak_ok ?_ (Sub.cons ?_ (Sub.cons ?_ (Sub.base hf ?_))) (zna _)⟩
   all_goals
    simp (disch:=first | omega | (simp only [zld,zlc,zle];omega)) only [ite_ne,s_cat,mk_ofL,ofL_app,litS,zlh,zlf,zli,wr64s j (by omega),hst,go_sem,↓reduceIte,Za,Zb,Zc,Zd,Ze,reduceCtorEq,Zf,Zg,Zh,Zi,Zj,Zk]
  .have q:j=Z.length:=by simp at q;omega
   subst q
   rw [zlj]
   subst e
   have hl1:(Z.map ofL).length=Z.length:=by simp
   have hl2:(Z.map ofL).take Z.length=Z.map ofL:=zlk (by omega)
   simp (disch:=omega) only [ite_ne,go_sem,↓reduceIte,Za,Zb,Zc,Zd,Ze,reduceCtorEq,Zf,Zg,Zh,Zi,Zj,Zk]
   refine vcCall.f (join_ok Z ?_ (by omega) (by omega) _) ?_
   .simp (disch:=omega) only [ite_ne,hl1,hl2,sl0,go_sem,↓reduceIte,Za,Zb,Zc,Zd,Ze,reduceCtorEq,Zf,Zg,Zh,Zi,Zj,Zk]
   simp (disch:=first | omega | (simp only [zld,zlc,zle];omega)) only [ite_ne,s_cat,mk_ofL,ofL_app,litS,zlh,zlf,zli,hl1,go_sem,↓reduceIte,Za,Zb,Zc,Zd,Ze,reduceCtorEq,Zf,Zg,Zh,Zi,Zj,Zk]
 .have c6:¬v.k=6:=by simpa using c6
  rw [if_neg c6] at e
  subst e
  simp only [go_sem,↓reduceIte,Za,Zb,Zc,Zd,Ze,reduceCtorEq,Zf,Zg,Zh,Zi,Zj,Zk]
  rfl
theorem twritten_ok (v:Val) (hv:VOk v) (hp:CH) (m:Nat):MeetsF Tryz.prog 86 hp m [vx v] (.s (ofL (wrtV v))):=by
 have:=Val.ind (Q:=fun v=>VOk v→∀hp m,MeetsF Tryz.prog 86 hp m [vx v] (.s (ofL (wrtV v)))) (fun v ih hv hp m=>twritten_of v hv.f hv.r hv.b (fun x hx=>ih x hx (hv.x hx)) hp m) v
 exact this hv hp m
theorem tText_ok (l:List Arg) (hl:∀a∈l,VOk a.v) (hB:avLL (mapC argC l)≤1000000000) (hn:l.length≤1000000000000) (hp:CH) (m:Nat):MeetsF Tryz.prog 46 hp m [.ds (mapC argC l)] (.s (ofL (argsL l))):=by
 have hb:=args_len l hl
 have hfin:=jn_le (l.map argL)
 refine meetsF Tryz.func46 (by kernel_rfl) cc46 cr46 rfl fun hf=>?_;unfold ck46
 simp only [go_sem,↓reduceIte,Za,Zb,Zc,Zd,Ze,reduceCtorEq,Zf,Zg,Zh,Zi,Zj,Zk]
 refine loop (fun p:Nat × Nat=>⟨[(3,.rw m p.1 p.1),(6,.ds (mapC argC l)),(7,.i .i64 l.length),(8,.i .i64 p.1)],(m,.rw p.1 1 (stC (((l.take p.1).map argL).map ofL)))::hp,p.2⟩)
  (fun p=>p.1≤l.length∧m+1≤p.2) (fun p=>l.length - p.1) (0,m+1) ?_ ?_ (fun ⟨j,n⟩ hj=>?_)
 .simp
 .refine (weak_e0 (t:=3) (m:=1) ?_).trans (weak_ok ?_ (Sub.cons ?_ (Sub.base hf ?_)) (zna _))
  all_goals (simp (disch:=omega) only [ite_ne,go_sem,↓reduceIte,Za,Zb,Zc,Zd,Ze,reduceCtorEq,Zf,Zg,Zh,Zi,Zj,Zk])
  all_goals rfl
 dsimp only at hj
 obtain ⟨hj1,hj2⟩:=hj
 simp (disch:=omega) only [ite_ne,go_sem,↓reduceIte,Za,Zb,Zc,Zd,Ze,reduceCtorEq,Zf,Zg,Zh,Zi,Zj,Zk]
 refine cdK_of (fun q=>?_) (fun q=>?_)
 .have q:j<l.length:=by simpa using q
  obtain ⟨a,ea⟩:∃a,l[j]?=some a:=⟨l[j],by simp [q]⟩
  have ha:=hl a (zla ea)
  have hw:=wrtV_len a.v ha.r
  have hab:=ha.b
  have h4:avL (argC a)=a.n.size+1+avL (valC a.v):=by
   rw [valC_eq]
   simp only [argC,avL,avw]
  have h5:avL (argC a)≤avLL (mapC argC l):=avLL_in (zls (f:=argC) (zla ea))
  obtain ⟨kb,hkb⟩:∃kb,a.n=ofL kb:=⟨bs a.n,(ofL_bs a.n).symm⟩
  have h6:a.n.size=kb.length:=by rw [hkb,ofL_size]
  have hfl:argL a=kb++58::32::wrtV a.v:=by simp [argL,fieldL,hkb,bs_ofL]
  have ht:(((l.take j).map argL).map ofL).length=j:=by simp;omega
  have k1:(j+1)*16≤140737488355328:=by omega
  have k2:j+1≤9223372036854775807:=by omega
  have hst:((l.take j).map argL).map ofL++[ofL (kb++58::32::wrtV a.v)]=((l.take (j+1)).map argL).map ofL:=by
   rw [←hfl,←map_take_snoc argL ea,zlq]
   rfl
  simp (disch:=first | omega | (simp only [zld,zlc,zle];omega)) only [ite_ne,s_cat,mk_ofL,ofL_app,litS,zlh,zlf,zli,q,getK_s (mapC_get argC ea),hkb,go_sem,↓reduceIte,Za,Zb,Zc,Zd,Ze,reduceCtorEq,Zf,Zg,Zh,Zi,Zj,Zk]
  refine dCallR.f (fun _ hp' e=>twritten_ok a.v ha _ _) ?_
  simp (disch:=first | omega | (simp only [zld,zlc,zle];omega)) only [ite_ne,s_cat,mk_ofL,ofL_app,litS,zlh,zlf,zli,q,getK_s (mapC_get argC ea),hkb,ht,k1,k2,go_sem,↓reduceIte,Za,Zb,Zc,Zd,Ze,reduceCtorEq,Zf,Zg,Zh,Zi,Zj,Zk]
  refine ⟨(j+1,_),⟨by dsimp only;omega,by dsimp only;omega⟩,by dsimp only;omega,weak_ok ?_ (Sub.cons ?_ (Sub.base hf ?_)) (zna _)⟩
  all_goals
   simp (disch:=first | omega | (simp only [zld,zlc,zle];omega)) only [ite_ne,s_cat,mk_ofL,ofL_app,litS,zlh,zlf,zli,wr64s j (by omega),hst,go_sem,↓reduceIte,Za,Zb,Zc,Zd,Ze,reduceCtorEq,Zf,Zg,Zh,Zi,Zj,Zk]
 .have q:j=l.length:=by simp at q;omega
  subst q
  rw [zlj]
  have hl1:((l.map argL).map ofL).length=l.length:=by simp
  have hl2:((l.map argL).map ofL).take l.length=(l.map argL).map ofL:=zlk (by omega)
  simp (disch:=omega) only [ite_ne,go_sem,↓reduceIte,Za,Zb,Zc,Zd,Ze,reduceCtorEq,Zf,Zg,Zh,Zi,Zj,Zk]
  refine vcCall.f (join_ok (l.map argL) ?_ (by omega) (by rw [zlv];omega) _) ?_
  .simp (disch:=omega) only [ite_ne,hl1,hl2,sl0,go_sem,↓reduceIte,Za,Zb,Zc,Zd,Ze,reduceCtorEq,Zf,Zg,Zh,Zi,Zj,Zk]
  simp (disch:=omega) only [ite_ne,go_sem,↓reduceIte,Za,Zb,Zc,Zd,Ze,reduceCtorEq,Zf,Zg,Zh,Zi,Zj,Zk]
  rfl
end Go.Proofs.YthiifoleopdieaaGreatDoor
