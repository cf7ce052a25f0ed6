/- Proof. Conditions: none. -/
import Derived.Test.YtinbodeocoeneaaGreatDoorIs42
open Nat renaming reduceEqDiff→Za,reduceBEq→Zb,reduceAdd→Zc,reduceLeDiff→Zd,reduceLT→Ze,reduceMul→Zf,reduceSub→Zg
open Int renaming reduceEq→Zh,reduceLT→Zi,reduceLE→Zj,reduceToNat→Zk
open List renaming mem_of_getElem?→zla,length_cons→zlc,length_append→zld,length_nil→zle,getElem?_eq_getElem→zlg,take_length→zlj,take_of_length_le→zlk,map_cons→zln,map_append→zlq,take_zero→zlr,map_nil→zlu
open Nat renaming le_refl→zna,le_trans→znc
namespace Go.Proofs.YtinbodeocoeneaaGreatDoor
open Go.Eng
set_option linter.all false
set_option maxRecDepth 20000
set_option maxHeartbeats 1000000 in
theorem rObject_of (s:Sup) (hs:SOk s) (d:Dat) {B:Nat} (hd:DOk d B) (l:List Pk) (hl:l.length≤1048576)
  (h:∀p∈l,∀i,exB d i=true→∀hp m,MeetsF Tryz.prog 86 hp m [supx s,dx d,.i .i64 i,pkx p] (vx (pickV s d p i)))
  (i:Int) (hp:CH) (m:Nat):MeetsF Tryz.prog 158 hp m [supx s,dx d,.i .i64 i,.ds (mapC pkC l)] (vx (objectV s d l i)):=by
 have hEx:=exists_ok d i
 obtain ⟨R,hR⟩:∃R,objectV s d l i=R:=⟨_,rfl⟩
 have e:=hR
 rw [objectV] at e
 rw [hR]
 obtain ⟨X,hX⟩:∃X,exB d i=X:=⟨_,rfl⟩
 have h2:=fun p hp=>h p hp i
 rw [hX] at e hEx h2
 refine meetsF Tryz.func158 (by kernel_rfl) cc158 cr158 rfl fun hf=>?_;unfold ck158
 simp only [go_sem,↓reduceIte,Za,Zb,Zc,Zd,Ze,reduceCtorEq,Zf,Zg,Zh,Zi,Zj,Zk]
 refine vcCall.f (hEx _ _) ?_
 simp only [go_sem,↓reduceIte,Za,Zb,Zc,Zd,Ze,reduceCtorEq,Zf,Zg,Zh,Zi,Zj,Zk]
 cases X with
 | false =>
  rw [if_neg (by simp)] at e
  subst e
  simp only [go_sem,↓reduceIte,Za,Zb,Zc,Zd,Ze,reduceCtorEq,Zf,Zg,Zh,Zi,Zj,Zk]
  rfl
 | true =>
 rw [if_pos rfl] at e
 obtain ⟨i',x,rfl,ex,hil,ht⟩:=exB_at hX
 have hF:∀j p,l[j]?=some p→fieldsV s d (l.take (j+1)) i'=if p.on=x.t then fieldsV s d (l.take j) i'++[(p.key,pickV s d p i')] else fieldsV s d (l.take j) i':=by
  intro j p hjp
  rw [←take_snoc hjp,fieldsV_eq,fieldsV_eq,List.filter_append,zlq,ht]
  by_cases c:p.on=x.t
  .rw [if_pos c];simp [c]
  .rw [if_neg c];simp [c]
 rw [ht] at e
 have hq:∀j,(fieldsV s d (l.take j) i').length≤j:=fun j=>by
  have:=fieldsV_len s d (l.take j) i'
  rw [List.length_take] at this
  omega
 simp (disch:=omega) only [ite_ne,hil,getK_s (mapC_get itC ex),go_sem,↓reduceIte,Za,Zb,Zc,Zd,Ze,reduceCtorEq,Zf,Zg,Zh,Zi,Zj,Zk]
 refine vcCall.f (text_ok _ _ _) ?_
 simp only [go_sem,↓reduceIte,Za,Zb,Zc,Zd,Ze,reduceCtorEq,Zf,Zg,Zh,Zi,Zj,Zk]
 refine loop (fun q:Nat × List (ByteArray × Val) × Nat=>⟨[(2,.i .i64 i'),(3,.ds (mapC pkC l)),(4,.bx m 0),(5,.bx (m+1) 0),(8,.bx (m+2) 0),(9,.s x.t),(10,.bx (m+5) 0),(11,.i .i64 q.1)],
   (m,.bx [.ds (stC s.g),.ds (mapC dfC s.doc),.ds (mapC kyC s.keys),.ds (mapC jnC s.joins)])::(m+1,.bx [.ds (mapC itC d.i),.ds (mapC wrC d.w)])::(m+2,.bx [.i .i64 0,.i .i64 0,.s ⟨#[]⟩,.e0,.e0]) ::
   (m+5,.bx [.i .i64 6,.i .i64 0,.s ⟨#[]⟩,.rw (m+4) q.2.1.length (q.2.1.length+1),.rw (m+3) q.2.1.length (q.2.1.length+1)])::(m+4,.rw q.2.1.length 5 (mapC valC (txV x.t::q.2.1.map (·.2))))::(m+3,.rw q.2.1.length 1 (stC (⟨#[95,95,116]⟩::q.2.1.map (·.1))))::hp,q.2.2⟩)
  (fun q=>q.1≤l.length∧m+6≤q.2.2∧q.2.1=fieldsV s d (l.take q.1) i') (fun q=>l.length - q.1) (0,[],m+6) ?_ ?_ (fun ⟨j,F,n⟩ hj=>?_)
 .exact ⟨by simp,by simp,by dsimp only;rw [zlr,fieldsV_eq];rfl⟩
 .refine weak_ok ?_ (Sub.cons ?_ (Sub.cons ?_ (Sub.cons ?_ (Sub.cons ?_ (Sub.cons ?_ (Sub.cons ?_ (Sub.base hf ?_))))))) (zna _)
  all_goals (simp (disch:=omega) only [ite_ne,go_sem,↓reduceIte,Za,Zb,Zc,Zd,Ze,reduceCtorEq,Zf,Zg,Zh,Zi,Zj,Zk])
  all_goals rfl
 dsimp only at hj
 obtain ⟨hj1,hj2,hj3⟩:=hj
 have hmn:m≤n:=by omega
 have hFl:F.length≤j:=by rw [hj3];exact hq j
 simp (disch:=omega) only [ite_ne,go_sem,↓reduceIte,Za,Zb,Zc,Zd,Ze,reduceCtorEq,Zf,Zg,Zh,Zi,Zj,Zk]
 refine cdK_of (fun q=>?_) (fun q=>?_)
 .have q:j<l.length:=by simpa using q
  obtain ⟨p,ep⟩:∃p,l[j]?=some p:=⟨l[j],by simp [q]⟩
  have hst:=hF j p ep
  have hrd:=h2 p (zla ep) rfl
  rw [←hj3] at hst
  have hl1:(F.map (·.2)).length=F.length:=by simp
  have hl2:(F.map (·.1)).length=F.length:=by simp
  have k1:(F.length+1+1)*80≤140737488355328:=by omega
  have k2:(F.length+1+1)*16≤140737488355328:=by omega
  have k3:F.length+1+1≤9223372036854775807:=by omega
  have k4:l.length - (j+1)<l.length - j:=by omega
  simp (disch:=omega) only [ite_ne,q,getK_s (mapC_get pkC ep),go_sem,↓reduceIte,Za,Zb,Zc,Zd,Ze,reduceCtorEq,Zf,Zg,Zh,Zi,Zj,Zk]
  refine cdK_of (fun c=>?_) (fun c=>?_)
  .have c:p.on=x.t:=by simpa using c
   rw [if_pos c] at hst
   simp (disch:=omega) only [ite_ne,q,getK_s (mapC_get pkC ep),hl1,hl2,k1,k2,k3,go_sem,↓reduceIte,Za,Zb,Zc,Zd,Ze,reduceCtorEq,Zf,Zg,Zh,Zi,Zj,Zk]
   refine dCallR.f (fun _ hp' e=>hrd _ _) ?_
   simp (disch:=omega) only [ite_ne,q,getK_s (mapC_get pkC ep),hl1,hl2,k1,k2,k3,go_sem,↓reduceIte,Za,Zb,Zc,Zd,Ze,reduceCtorEq,Zf,Zg,Zh,Zi,Zj,Zk]
   refine ⟨(j+1,F++[(p.key,pickV s d p i')],_),⟨by dsimp only;omega,by dsimp only;omega,hst.symm⟩,k4,weak_ok ?_ (Sub.cons ?_ (Sub.cons ?_ (Sub.cons ?_ (Sub.cons ?_ (Sub.cons ?_ (Sub.cons ?_ (Sub.base hf ?_))))))) (zna _)⟩
   all_goals
    simp (disch:=omega) only [ite_ne,wr64s j (by omega),hmn,zld,zlc,zle,zlq,zln,zlu,go_sem,↓reduceIte,Za,Zb,Zc,Zd,Ze,reduceCtorEq,Zf,Zg,Zh,Zi,Zj,Zk]
  .have c:¬p.on=x.t:=by simpa using c
   rw [if_neg c] at hst
   simp (disch:=omega) only [ite_ne,go_sem,↓reduceIte,Za,Zb,Zc,Zd,Ze,reduceCtorEq,Zf,Zg,Zh,Zi,Zj,Zk]
   refine ⟨(j+1,F,_),⟨by dsimp only;omega,by dsimp only;omega,hst.symm⟩,k4,weak_ok ?_ (Sub.cons ?_ (Sub.cons ?_ (Sub.cons ?_ (Sub.cons ?_ (Sub.cons ?_ (Sub.cons ?_ (Sub.base hf ?_))))))) (zna _)⟩
   all_goals
    simp (disch:=omega) only [ite_ne,wr64s j (by omega),hmn,go_sem,↓reduceIte,Za,Zb,Zc,Zd,Ze,reduceCtorEq,Zf,Zg,Zh,Zi,Zj,Zk]
 .have q:j=l.length:=by simp at q;omega
  subst q
  rw [zlj] at hj3
  rw [←hj3] at e
  subst e
  have hl1:(F.map (·.2)).length=F.length:=by simp
  have hl2:(F.map (·.1)).length=F.length:=by simp
  have hl3:(F.map (·.2)).take F.length=F.map (·.2):=zlk (by omega)
  have hl4:(F.map (·.1)).take F.length=F.map (·.1):=zlk (by omega)
  simp (disch:=omega) only [ite_ne,hl1,hl2,hl3,hl4,zna,hmn,go_sem,↓reduceIte,Za,Zb,Zc,Zd,Ze,reduceCtorEq,Zf,Zg,Zh,Zi,Zj,Zk]
  try rfl
theorem rpick_ok (s:Sup) (hs:SOk s) (d:Dat) {B:Nat} (hd:DOk d B) (p:Pk) (hpo:p.Ok) (i:Int) (hi:exB d i=true) (hp:CH) (m:Nat):MeetsF Tryz.prog 86 hp m [supx s,dx d,.i .i64 i,pkx p] (vx (pickV s d p i)):=by
 have:=Pk.ind (Q:=fun p=>p.Ok→∀i,exB d i=true→∀hp m,MeetsF Tryz.prog 86 hp m [supx s,dx d,.i .i64 i,pkx p] (vx (pickV s d p i)))
  (fun p ih hpo i hi hp m=>rread_of s hs d hd p hpo.a (fun v hv=>rRaw_ok s hs d hd p (objectV_fit hd hpo.l fun x hx=>hpo.x hx)
   (fun i hp m=>rObject_of s hs d hd p.picks hpo.l (fun x hx i hi hp m=>ih x hx (hpo.x hx) i hi hp m) i hp m) v hv) i hi hp m) p
 exact this hpo i hi hp m
theorem appV_dok {d:Dat} {B:Nat} (hd:DOk d B) (h:B+d.w.length≤100000000000) (f a:ByteArray):DOk (appV d f a) (B+d.w.length) :=
 ⟨appV_fit2 hd.f hd.c h f a,appL_vals (Q:=fun c=>VSm c.v) hd.v hd.w,hd.w,appL_cells hd.c⟩
def itemI (d:Dat) (root:ByteArray):Int:=fidx (fun x:Itm=>decide (x.t=root)) d.i 0
theorem fidx_map {α β:Type} (g:α→β) (q:β→Bool):∀(l:List α) (j:Nat),fidx (fun x=>q (g x)) l j=fidx q (l.map g) j
 | [],j=>by simp [fidx]
 | x::l,j=>by
  rw [zln,fidx,fidx,fidx_map g q l (j+1)]
theorem typs_app (d:Dat) (f a:ByteArray):(appV d f a).i.map Itm.t=d.i.map Itm.t:=by
 apply List.ext_getElem?
 intro n
 rw [List.getElem?_map,List.getElem?_map]
 unfold appV
 rw [Dat.i_mk,appL_get]
 cases d.i[n]? with
 | none=>rfl
 | some x=>rfl
theorem itemI_eq (d:Dat) (root:ByteArray):itemI d root=fidx (fun t=>decide (t=root)) (d.i.map Itm.t) 0:=fidx_map Itm.t (fun t=>decide (t=root)) d.i 0
theorem itemI_app (d:Dat) (f a root:ByteArray):itemI (appV d f a) root=itemI d root:=by rw [itemI_eq,itemI_eq,typs_app]
theorem itemI_ex {d:Dat} {root:ByteArray} (h:0≤itemI d root):exB d (itemI d root)=true∧typD d (itemI d root)=root:=by
 have h1:=fidx_lt (fun x:Itm=>decide (x.t=root)) d.i 0
 have h2:itemI d root=fidx (fun x:Itm=>decide (x.t=root)) d.i 0:=rfl
 rw [←h2] at h1
 obtain ⟨j,hj⟩:∃j:Nat,itemI d root=j:=⟨(itemI d root).toNat,by omega⟩
 have hjl:j<d.i.length:=by omega
 obtain ⟨x,ex⟩:∃x,d.i[j]?=some x:=⟨d.i[j],by simp [hjl]⟩
 have h3:=fidx_at (fun x:Itm=>decide (x.t=root)) d.i 0 j x (by rw [←h2,hj];simp) ex
 rw [hj]
 exact ⟨by simp [exB];omega,by rw [typD_at ex];simpa using h3⟩
noncomputable def noneF (root:ByteArray) (l:List Pk):List (ByteArray × Val):=(l.filter fun p=>decide (p.on=root)).map fun p=>(p.key,if p.name=sTypename then txV root else zVal)
noncomputable def rootP (s:Sup) (root:ByteArray) (d:Dat) (x:Pk):Val:=if 0≤itemI d root then pickV s d x (itemI d root) else if x.name=sTypename then txV root else zVal
noncomputable def rootT (s:Sup) (root:ByteArray) (d:Dat) (x:Pk):List UInt8:=if 0≤itemI d root then argT s d (itemI d root) x else argsL x.args
noncomputable def rootD (s:Sup) (mu:Bool) (root:ByteArray) (d:Dat) (x:Pk):Dat:=if (mu&&!decide (x.name=sTypename))=true then appV d x.name (ofL (rootT s root d x)) else d
noncomputable def runS (s:Sup) (mu:Bool) (root:ByteArray) (a:List (ByteArray × Val) × Dat) (x:Pk):List (ByteArray × Val) × Dat :=
 if x.on=root then (a.1++[(x.key,rootP s root (rootD s mu root a.2 x) x)],rootD s mu root a.2 x) else a
noncomputable def runL (s:Sup) (mu:Bool) (root:ByteArray) (d:Dat) (l:List Pk):List (ByteArray × Val) × Dat:=l.foldl (runS s mu root) ([],d)
theorem runL_step {s:Sup} {mu:Bool} {root:ByteArray} {d:Dat} {l:List Pk} {j:Nat} {x:Pk} (h:l[j]?=some x):runL s mu root d (l.take (j+1))=runS s mu root (runL s mu root d (l.take j)) x:=by
 unfold runL
 rw [←take_snoc h,List.foldl_append]
 rfl
theorem runS_len (s:Sup) (mu:Bool) (root:ByteArray) (a:List (ByteArray × Val) × Dat) (x:Pk):(runS s mu root a x).1.length≤a.1.length+1:=by
 unfold runS
 split<;>simp
theorem runL_len (s:Sup) (mu:Bool) (root:ByteArray) (d:Dat) (l:List Pk):∀j,(runL s mu root d (l.take j)).1.length≤j
 | 0=>by simp [runL]
 | j+1=>by
  by_cases hj:j<l.length
  .rw [runL_step (zlg hj)]
   have h1:=runS_len s mu root (runL s mu root d (l.take j)) l[j]
   have h2:=runL_len s mu root d l j
   omega
  .rw [zlk (by omega),←zlk (i:=j) (l:=l) (by omega)]
   have h2:=runL_len s mu root d l j
   omega
theorem rootD_w (s:Sup) (mu:Bool) (root:ByteArray) (d:Dat) (x:Pk):(rootD s mu root d x).w=d.w:=by
 unfold rootD
 split<;>rfl
theorem rootD_item (s:Sup) (mu:Bool) (root:ByteArray) (d:Dat) (x:Pk) (t:ByteArray):itemI (rootD s mu root d x) t=itemI d t:=by
 unfold rootD
 split
 .exact itemI_app _ _ _ _
 .rfl
theorem rootD_dok {s:Sup} {mu:Bool} {root:ByteArray} {d:Dat} {x:Pk} {B:Nat} (hd:DOk d B) (h:mu=true→B+d.w.length≤100000000000):DOk (rootD s mu root d x) (B+if mu=true then d.w.length else 0):=by
 unfold rootD
 split
 .rename_i q
  have q:mu=true:=by simp at q;exact q.1
  rw [if_pos q]
  exact appV_dok hd (h q) _ _
 .exact ⟨hd.f,hd.v,hd.w,fun x hx=>znc (hd.c x hx) (Nat.le_add_right _ _)⟩
theorem DOk.mono {d:Dat} {B C:Nat} (h:DOk d B) (hbc:B≤C):DOk d C:=⟨h.f,h.v,h.w,fun x hx=>znc (h.c x hx) hbc⟩
theorem runL_inv (s:Sup) (mu:Bool) (root:ByteArray) (d:Dat) (l:List Pk) {B:Nat} (hd:DOk d B) (h:mu=true→B+l.length*d.w.length≤100000000000):∀j,j≤l.length →
  (runL s mu root d (l.take j)).2.w=d.w∧(∀t,itemI (runL s mu root d (l.take j)).2 t=itemI d t)∧DOk (runL s mu root d (l.take j)).2 (B+j*(if mu=true then d.w.length else 0))
 | 0,_=>⟨rfl,fun _=>rfl,by simpa [runL] using hd⟩
 | j+1,hj=>by
  obtain ⟨h1,h2,h3⟩:=runL_inv s mu root d l hd h j (by omega)
  rw [runL_step (zlg (show j<l.length by omega))]
  unfold runS
  have e:(j+1)*(if mu=true then d.w.length else 0)=j*(if mu=true then d.w.length else 0)+(if mu=true then d.w.length else 0):=by rw [Nat.add_mul,Nat.one_mul]
  split
  .refine ⟨by rw [rootD_w];exact h1,fun t=>by rw [rootD_item];exact h2 t,?_⟩
   have:=rootD_dok (s:=s) (mu:=mu) (root:=root) (x:=l[j]) h3 (fun q=>by
    rw [if_pos q,h1]
    have hh:=h q
    have:(j+1)*d.w.length≤l.length*d.w.length:=Nat.mul_le_mul_right _ hj
    rw [Nat.add_mul,Nat.one_mul] at this
    omega)
   rw [h1] at this
   rw [e,←Nat.add_assoc]
   exact this
  .exact ⟨h1,h2,h3.mono (by rw [e];omega)⟩
theorem runL_query (s:Sup) (root:ByteArray) (d:Dat) (l:List Pk):runL s false root d l=(if 0≤itemI d root then fieldsV s d l (itemI d root) else noneF root l,d):=by
 have key:∀(l:List Pk) (acc:List (ByteArray × Val)),l.foldl (runS s false root) (acc,d)=(acc++(l.filter fun p=>decide (p.on=root)).map fun p=>(p.key,rootP s root d p),d):=by
  intro l
  induction l with
  | nil=>intro acc;simp
  | cons p l ih =>
   intro acc
   rw [List.foldl_cons,runS]
   have e:rootD s false root d p=d:=by rw [rootD,Bool.false_and];rfl
   by_cases c:p.on=root
   .rw [if_pos c]
    dsimp only
    rw [e,ih,List.filter_cons_of_pos (by simp [c]),zln,List.append_assoc]
    rfl
   .rw [if_neg c,ih,List.filter_cons_of_neg (by simp [c])]
 unfold runL
 rw [key l []]
 simp only [List.nil_append,Prod.mk.injEq,and_true]
 unfold rootP
 by_cases c:0≤itemI d root
 .rw [if_pos c,fieldsV_eq,(itemI_ex c).2]
  simp only [if_pos c]
 .rw [if_neg c,noneF]
  simp only [if_neg c]
noncomputable def runV (s:Sup) (d:Dat) (p:Pln):Val × Dat:=(objV (rootS p.k) (runL s (decide (p.k=2)) (rootS p.k) d p.l).1,(runL s (decide (p.k=2)) (rootS p.k) d p.l).2)
set_option maxHeartbeats 4000000 in
theorem rRun_found (s:Sup) (hs:SOk s) (d:Dat) {B:Nat} (hd:DOk d B) (p:Pln) (hl:p.l.length≤1048576) (hpo:∀x∈p.l,x.Ok) (hB:p.k=2→B+p.l.length*d.w.length≤100000000000) (hI0:0≤itemI d (rootS p.k)) (hp:CH) (m:Nat) :
  MeetsF Tryz.prog 40 hp m [supx s,dx d,plx p] (.tp [vx (runV s d p).1,dx (runV s d p).2]):=by
 have hRt:=rRoot_ok' p.k
 have hCl:=rCloneF_ok d hd.f.f hd.f.w
 rw [runV]
 obtain ⟨mu,hmu⟩:∃mu,decide (p.k=2)=mu:=⟨_,rfl⟩
 have hB:mu=true→B+p.l.length*d.w.length≤100000000000:=fun h=>hB (by rw [←hmu] at h;simpa using h)
 obtain ⟨root,hroot⟩:∃root,rootS p.k=root:=⟨_,rfl⟩
 rw [hroot] at hRt hI0 ⊢
 rw [hmu]
 have hinv:=runL_inv s mu root d p.l hd hB
 have hlen:=runL_len s mu root d p.l
 have hstep:=fun j x (h:p.l[j]?=some x)=>runL_step (s:=s) (mu:=mu) (root:=root) (d:=d) h
 obtain ⟨RF,hRF⟩:∃RF,runL s mu root d p.l=RF:=⟨_,rfl⟩
 rw [hRF]
 have hIt:=rRoot_ok d hd.f.f root
 change ∀hp m,MeetsF Tryz.prog 36 hp m [dx d,.s root] (resI (itemI d root)) at hIt
 rw [resI,if_pos hI0,decide_eq_true hI0] at hIt
 obtain ⟨I,hI⟩:∃I,itemI d root=I:=⟨_,rfl⟩
 rw [hI] at hIt hI0
 refine meetsF Tryz.func40 (by kernel_rfl) cc40 cr40 rfl fun hf=>?_;unfold ck40
 simp (disch:=omega) only [ite_ne,go_sem,↓reduceIte,Za,Zb,Zc,Zd,Ze,reduceCtorEq,Zf,Zg,Zh,Zi,Zj,Zk]
 refine vcCall.f (hRt _ _) ?_
 simp (disch:=omega) only [ite_ne,go_sem,↓reduceIte,Za,Zb,Zc,Zd,Ze,reduceCtorEq,Zf,Zg,Zh,Zi,Zj,Zk]
 refine vcCall.f (hCl _ _) ?_
 simp (disch:=omega) only [ite_ne,go_sem,↓reduceIte,Za,Zb,Zc,Zd,Ze,reduceCtorEq,Zf,Zg,Zh,Zi,Zj,Zk]
 refine vcCall.f (hIt _ _) ?_
 simp (disch:=omega) only [ite_ne,go_sem,↓reduceIte,Za,Zb,Zc,Zd,Ze,reduceCtorEq,Zf,Zg,Zh,Zi,Zj,Zk]
 refine vcCall.f (text_ok _ _ _) ?_
 simp (disch:=omega) only [ite_ne,go_sem,↓reduceIte,Za,Zb,Zc,Zd,Ze,reduceCtorEq,Zf,Zg,Zh,Zi,Zj,Zk]
 refine loop (fun q:Nat × List (ByteArray × Val) × Dat × Nat=>⟨[(3,.bx m 0),(4,.bx (m+1) 0),(5,.bx (m+2) 0),(6,.bx (m+3) 0),(7,.bx (m+4) 0),(8,.s root),(9,.i .i64 I),(10,.b true),(11,.bx (m+7) 0),(12,.i .i64 q.1)],
   (m,.bx [.ds (stC s.g),.ds (mapC dfC s.doc),.ds (mapC kyC s.keys),.ds (mapC jnC s.joins)])::(m+1,.bx [.ds (mapC itC q.2.2.1.i),.ds (mapC wrC q.2.2.1.w)])::(m+2,.bx [.i .i64 p.k,.ds (mapC pkC p.l)])::(m+3,.bx [.i .i64 0,.i .i64 0,.s ⟨#[]⟩,.e0,.e0])::(m+4,.bx [.e0,.e0]) ::
   (m+7,.bx [.i .i64 6,.i .i64 0,.s ⟨#[]⟩,.rw (m+6) q.2.1.length (q.2.1.length+1),.rw (m+5) q.2.1.length (q.2.1.length+1)])::(m+6,.rw q.2.1.length 5 (mapC valC (txV root::q.2.1.map (·.2))))::(m+5,.rw q.2.1.length 1 (stC (⟨#[95,95,116]⟩::q.2.1.map (·.1))))::hp,q.2.2.2⟩)
  (fun q=>q.1≤p.l.length∧m+8≤q.2.2.2∧(q.2.1,q.2.2.1)=runL s mu root d (p.l.take q.1)) (fun q=>p.l.length - q.1) (0,[],d,m+8) ?_ ?_ (fun ⟨j,F,D,n⟩ hj=>?_)
 .exact ⟨by simp,by simp,by dsimp only;rw [zlr];rfl⟩
 .refine weak_ok ?_ (Sub.cons ?_ (Sub.cons ?_ (Sub.cons ?_ (Sub.cons ?_ (Sub.cons ?_ (Sub.cons ?_ (Sub.cons ?_ (Sub.cons ?_ (Sub.base hf ?_))))))))) (zna _)
  all_goals (simp (disch:=omega) only [ite_ne,go_sem,↓reduceIte,Za,Zb,Zc,Zd,Ze,reduceCtorEq,Zf,Zg,Zh,Zi,Zj,Zk])
  all_goals rfl
 dsimp only at hj
 obtain ⟨hj1,hj2,hj3⟩:=hj
 have hmn:m≤n:=by omega
 have hFl:F.length≤j:=by have:=hlen j;rw [←hj3] at this;exact this
 have hV:=hinv j hj1
 rw [←hj3] at hV
 obtain ⟨hI1,hI2,hI3⟩:=hV
 dsimp only at hI1 hI2 hI3
 have hl1:(F.map (·.2)).length=F.length:=by simp
 have hl2:(F.map (·.1)).length=F.length:=by simp
 simp (disch:=omega) only [ite_ne,go_sem,↓reduceIte,Za,Zb,Zc,Zd,Ze,reduceCtorEq,Zf,Zg,Zh,Zi,Zj,Zk]
 refine cdK_of (fun q=>?_) (fun q=>?_)
 .have q:j<p.l.length:=by simpa using q
  obtain ⟨x,ex⟩:∃x,p.l[j]?=some x:=⟨p.l[j],by simp [q]⟩
  have hxo:=hpo x (zla ex)
  have hst:=hstep j x ex
  rw [←hj3,runS] at hst
  have k1:(F.length+1+1)*80≤140737488355328:=by omega
  have k2:(F.length+1+1)*16≤140737488355328:=by omega
  have k3:F.length+1+1≤9223372036854775807:=by omega
  have k4:p.l.length - (j+1)<p.l.length - j:=by omega
  simp (disch:=omega) only [ite_ne,q,getK_s (mapC_get pkC ex),hmn,go_sem,↓reduceIte,Za,Zb,Zc,Zd,Ze,reduceCtorEq,Zf,Zg,Zh,Zi,Zj,Zk]
  refine cdK_of (fun c=>?_) (fun c=>?_)
  .have c:¬x.on=root:=by simpa using c
   rw [if_neg c] at hst
   simp (disch:=omega) only [ite_ne,hmn,go_sem,↓reduceIte,Za,Zb,Zc,Zd,Ze,reduceCtorEq,Zf,Zg,Zh,Zi,Zj,Zk]
   refine ⟨(j+1,F,D,_),⟨by dsimp only;omega,by dsimp only;omega,hst.symm⟩,k4,weak_ok ?_ (Sub.cons ?_ (Sub.cons ?_ (Sub.cons ?_ (Sub.cons ?_ (Sub.cons ?_ (Sub.cons ?_ (Sub.cons ?_ (Sub.cons ?_ (Sub.base hf ?_))))))))) (zna _)⟩
   all_goals
    simp (disch:=omega) only [ite_ne,wr64s j (by omega),hmn,go_sem,↓reduceIte,Za,Zb,Zc,Zd,Ze,reduceCtorEq,Zf,Zg,Zh,Zi,Zj,Zk]
  .have hon:x.on=root:=by simpa using c
   rw [if_pos hon] at hst
   dsimp only at hst
   have hTx:=rText_ok x.args (fun a h=>(hxo.a.v a h).ok) (znc hxo.a.b (by omega)) (znc hxo.a.n (by omega))
   have hD'0:=rootD_dok (s:=s) (mu:=mu) (root:=root) (x:=x) hI3 (fun hm=>by
    rw [if_pos hm,hI1]
    have:(j+1)*d.w.length≤p.l.length*d.w.length:=Nat.mul_le_mul_right _ q
    rw [Nat.add_mul,Nat.one_mul] at this
    have:=hB hm
    omega)
   have hDI:itemI (rootD s mu root D x) root=I:=by rw [rootD_item,hI2,hI]
   have hDr:rootD s mu root D x=if (mu&&!decide (x.name=⟨#[95,95,116,121,112,101,110,97,109,101]⟩))=true then appV D x.name (ofL (argT s D I x)) else D:=by
    unfold rootD rootT
    rw [hI2,hI,if_pos hI0]
    rfl
   have hAr:=rArgs_ok s hs D hI3 I x hxo.a
   have hAp:=rApply_ok D hI3.f x.name (ofL (argT s D I x))
   obtain ⟨T,hT⟩:∃T,ofL (argT s D I x)=T:=⟨_,rfl⟩
   rw [hT] at hAr hAp hDr
   simp (disch:=omega) only [ite_ne,hmn,hmu,go_sem,↓reduceIte,Za,Zb,Zc,Zd,Ze,reduceCtorEq,Zf,Zg,Zh,Zi,Zj,Zk]
   refine cdK_of (fun c3=>?_) (fun c3=>?_)
   .rw [if_pos c3] at hDr
    rw [hDr] at hst hD'0 hDI
    obtain ⟨D',hD'e⟩:∃D',appV D x.name T=D':=⟨_,rfl⟩
    rw [hD'e] at hst hD'0 hDI hAp
    have hRd:=rpick_ok s hs D' hD'0 x hxo I (by rw [←hDI];exact (itemI_ex (by rw [hDI];exact hI0)).1)
    have hP:rootP s root D' x=pickV s D' x I:=by rw [rootP,hDI,if_pos hI0]
    obtain ⟨P,hPe⟩:∃P,pickV s D' x I=P:=⟨_,rfl⟩
    rw [hPe] at hRd hP
    rw [hP] at hst
    simp (disch:=omega) only [ite_ne,hmn,go_sem,↓reduceIte,Za,Zb,Zc,Zd,Ze,reduceCtorEq,Zf,Zg,Zh,Zi,Zj,Zk]
    refine vcCall.f (hTx _ _) ?_
    simp (disch:=omega) only [ite_ne,hmn,go_sem,↓reduceIte,Za,Zb,Zc,Zd,Ze,reduceCtorEq,Zf,Zg,Zh,Zi,Zj,Zk]
    refine vcCall.f (hAr _ _) ?_
    simp (disch:=omega) only [ite_ne,hmn,go_sem,↓reduceIte,Za,Zb,Zc,Zd,Ze,reduceCtorEq,Zf,Zg,Zh,Zi,Zj,Zk]
    refine vcCall.f (hAp _ _) ?_
    simp (disch:=omega) only [ite_ne,hmn,go_sem,↓reduceIte,Za,Zb,Zc,Zd,Ze,reduceCtorEq,Zf,Zg,Zh,Zi,Zj,Zk]
    refine vcCall.f (hRd _ _) ?_
    simp (disch:=omega) only [ite_ne,hl1,hl2,k1,k2,k3,hmn,go_sem,↓reduceIte,Za,Zb,Zc,Zd,Ze,reduceCtorEq,Zf,Zg,Zh,Zi,Zj,Zk]
    refine ⟨(j+1,F++[(x.key,P)],D',_),⟨by dsimp only;omega,by dsimp only;omega,hst.symm⟩,k4,weak_ok ?_ (Sub.cons ?_ (Sub.cons ?_ (Sub.cons ?_ (Sub.cons ?_ (Sub.cons ?_ (Sub.cons ?_ (Sub.cons ?_ (Sub.cons ?_ (Sub.base hf ?_))))))))) (zna _)⟩
    all_goals
     simp (disch:=omega) only [ite_ne,wr64s j (by omega),hmn,zld,zlc,zle,zlq,zln,zlu,go_sem,↓reduceIte,Za,Zb,Zc,Zd,Ze,reduceCtorEq,Zf,Zg,Zh,Zi,Zj,Zk]
   .rw [if_neg (by rw [c3];simp)] at hDr
    rw [hDr] at hst hD'0 hDI
    obtain ⟨D',hD'e⟩:∃D',D=D':=⟨_,rfl⟩
    rw [hD'e] at hst hD'0 hDI
    rw [hD'e]
    have hRd:=rpick_ok s hs D' hD'0 x hxo I (by rw [←hDI];exact (itemI_ex (by rw [hDI];exact hI0)).1)
    have hP:rootP s root D' x=pickV s D' x I:=by rw [rootP,hDI,if_pos hI0]
    obtain ⟨P,hPe⟩:∃P,pickV s D' x I=P:=⟨_,rfl⟩
    rw [hPe] at hRd hP
    rw [hP] at hst
    simp (disch:=omega) only [ite_ne,hmn,go_sem,↓reduceIte,Za,Zb,Zc,Zd,Ze,reduceCtorEq,Zf,Zg,Zh,Zi,Zj,Zk]
    refine vcCall.f (hRd _ _) ?_
    simp (disch:=omega) only [ite_ne,hl1,hl2,k1,k2,k3,hmn,go_sem,↓reduceIte,Za,Zb,Zc,Zd,Ze,reduceCtorEq,Zf,Zg,Zh,Zi,Zj,Zk]
    refine ⟨(j+1,F++[(x.key,P)],D',_),⟨by dsimp only;omega,by dsimp only;omega,hst.symm⟩,k4,weak_ok ?_ (Sub.cons ?_ (Sub.cons ?_ (Sub.cons ?_ (Sub.cons ?_ (Sub.cons ?_ (Sub.cons ?_ (Sub.cons ?_ (Sub.cons ?_ (Sub.base hf ?_))))))))) (zna _)⟩
    all_goals
     simp (disch:=omega) only [ite_ne,wr64s j (by omega),hmn,zld,zlc,zle,zlq,zln,zlu,go_sem,↓reduceIte,Za,Zb,Zc,Zd,Ze,reduceCtorEq,Zf,Zg,Zh,Zi,Zj,Zk]
 .have q:j=p.l.length:=by simp at q;omega
  subst q
  rw [zlj,hRF] at hj3
  subst hj3
  have hl3:(F.map (·.2)).take F.length=F.map (·.2):=zlk (by omega)
  have hl4:(F.map (·.1)).take F.length=F.map (·.1):=zlk (by omega)
  simp (disch:=omega) only [ite_ne,hl1,hl2,hl3,hl4,zna,hmn,go_sem,↓reduceIte,Za,Zb,Zc,Zd,Ze,reduceCtorEq,Zf,Zg,Zh,Zi,Zj,Zk]
  try rfl
theorem snoc_zr (l:List Val):mapC valC l++[[AV.i .i64 0,.i .i64 0,.s ⟨#[]⟩,.ds [],.ds []]]=mapC valC (l++[zVal]):=mapC_snoc valC l zVal
set_option maxHeartbeats 4000000 in
theorem rRun_none (s:Sup) (hs:SOk s) (d:Dat) {B:Nat} (hd:DOk d B) (p:Pln) (hl:p.l.length≤1048576) (hpo:∀x∈p.l,x.Ok) (hB:p.k=2→B+p.l.length*d.w.length≤100000000000) (hI0:¬0≤itemI d (rootS p.k)) (hp:CH) (m:Nat) :
  MeetsF Tryz.prog 40 hp m [supx s,dx d,plx p] (.tp [vx (runV s d p).1,dx (runV s d p).2]):=by
 have hRt:=rRoot_ok' p.k
 have hCl:=rCloneF_ok d hd.f.f hd.f.w
 rw [runV]
 obtain ⟨mu,hmu⟩:∃mu,decide (p.k=2)=mu:=⟨_,rfl⟩
 have hB:mu=true→B+p.l.length*d.w.length≤100000000000:=fun h=>hB (by rw [←hmu] at h;simpa using h)
 obtain ⟨root,hroot⟩:∃root,rootS p.k=root:=⟨_,rfl⟩
 rw [hroot] at hRt hI0 ⊢
 rw [hmu]
 have hinv:=runL_inv s mu root d p.l hd hB
 have hlen:=runL_len s mu root d p.l
 have hstep:=fun j x (h:p.l[j]?=some x)=>runL_step (s:=s) (mu:=mu) (root:=root) (d:=d) h
 obtain ⟨RF,hRF⟩:∃RF,runL s mu root d p.l=RF:=⟨_,rfl⟩
 rw [hRF]
 have hIt:=rRoot_ok d hd.f.f root
 change ∀hp m,MeetsF Tryz.prog 36 hp m [dx d,.s root] (resI (itemI d root)) at hIt
 rw [resI,if_neg hI0,decide_eq_false hI0] at hIt
 obtain ⟨I,hI⟩:∃I,itemI d root=I:=⟨_,rfl⟩
 rw [hI] at hI0
 refine meetsF Tryz.func40 (by kernel_rfl) cc40 cr40 rfl fun hf=>?_;unfold ck40
 simp (disch:=omega) only [ite_ne,go_sem,↓reduceIte,Za,Zb,Zc,Zd,Ze,reduceCtorEq,Zf,Zg,Zh,Zi,Zj,Zk]
 refine vcCall.f (hRt _ _) ?_
 simp (disch:=omega) only [ite_ne,go_sem,↓reduceIte,Za,Zb,Zc,Zd,Ze,reduceCtorEq,Zf,Zg,Zh,Zi,Zj,Zk]
 refine vcCall.f (hCl _ _) ?_
 simp (disch:=omega) only [ite_ne,go_sem,↓reduceIte,Za,Zb,Zc,Zd,Ze,reduceCtorEq,Zf,Zg,Zh,Zi,Zj,Zk]
 refine vcCall.f (hIt _ _) ?_
 simp (disch:=omega) only [ite_ne,go_sem,↓reduceIte,Za,Zb,Zc,Zd,Ze,reduceCtorEq,Zf,Zg,Zh,Zi,Zj,Zk]
 refine vcCall.f (text_ok _ _ _) ?_
 simp (disch:=omega) only [ite_ne,go_sem,↓reduceIte,Za,Zb,Zc,Zd,Ze,reduceCtorEq,Zf,Zg,Zh,Zi,Zj,Zk]
 refine loop (fun q:Nat × List (ByteArray × Val) × Dat × Nat=>⟨[(3,.bx m 0),(4,.bx (m+1) 0),(5,.bx (m+2) 0),(6,.bx (m+3) 0),(7,.bx (m+4) 0),(8,.s root),(9,.i .i64 0),(10,.b false),(11,.bx (m+7) 0),(12,.i .i64 q.1)],
   (m,.bx [.ds (stC s.g),.ds (mapC dfC s.doc),.ds (mapC kyC s.keys),.ds (mapC jnC s.joins)])::(m+1,.bx [.ds (mapC itC q.2.2.1.i),.ds (mapC wrC q.2.2.1.w)])::(m+2,.bx [.i .i64 p.k,.ds (mapC pkC p.l)])::(m+3,.bx [.i .i64 0,.i .i64 0,.s ⟨#[]⟩,.e0,.e0])::(m+4,.bx [.e0,.e0]) ::
   (m+7,.bx [.i .i64 6,.i .i64 0,.s ⟨#[]⟩,.rw (m+6) q.2.1.length (q.2.1.length+1),.rw (m+5) q.2.1.length (q.2.1.length+1)])::(m+6,.rw q.2.1.length 5 (mapC valC (txV root::q.2.1.map (·.2))))::(m+5,.rw q.2.1.length 1 (stC (⟨#[95,95,116]⟩::q.2.1.map (·.1))))::hp,q.2.2.2⟩)
  (fun q=>q.1≤p.l.length∧m+8≤q.2.2.2∧(q.2.1,q.2.2.1)=runL s mu root d (p.l.take q.1)) (fun q=>p.l.length - q.1) (0,[],d,m+8) ?_ ?_ (fun ⟨j,F,D,n⟩ hj=>?_)
 .exact ⟨by simp,by simp,by dsimp only;rw [zlr];rfl⟩
 .refine weak_ok ?_ (Sub.cons ?_ (Sub.cons ?_ (Sub.cons ?_ (Sub.cons ?_ (Sub.cons ?_ (Sub.cons ?_ (Sub.cons ?_ (Sub.cons ?_ (Sub.base hf ?_))))))))) (zna _)
  all_goals (simp (disch:=omega) only [ite_ne,go_sem,↓reduceIte,Za,Zb,Zc,Zd,Ze,reduceCtorEq,Zf,Zg,Zh,Zi,Zj,Zk])
  all_goals rfl
 dsimp only at hj
 obtain ⟨hj1,hj2,hj3⟩:=hj
 have hmn:m≤n:=by omega
 have hFl:F.length≤j:=by have:=hlen j;rw [←hj3] at this;exact this
 have hV:=hinv j hj1
 rw [←hj3] at hV
 obtain ⟨hI1,hI2,hI3⟩:=hV
 dsimp only at hI1 hI2 hI3
 have hl1:(F.map (·.2)).length=F.length:=by simp
 have hl2:(F.map (·.1)).length=F.length:=by simp
 simp (disch:=omega) only [ite_ne,go_sem,↓reduceIte,Za,Zb,Zc,Zd,Ze,reduceCtorEq,Zf,Zg,Zh,Zi,Zj,Zk]
 refine cdK_of (fun q=>?_) (fun q=>?_)
 .have q:j<p.l.length:=by simpa using q
  obtain ⟨x,ex⟩:∃x,p.l[j]?=some x:=⟨p.l[j],by simp [q]⟩
  have hxo:=hpo x (zla ex)
  have hst:=hstep j x ex
  rw [←hj3,runS] at hst
  have k1:(F.length+1+1)*80≤140737488355328:=by omega
  have k2:(F.length+1+1)*16≤140737488355328:=by omega
  have k3:F.length+1+1≤9223372036854775807:=by omega
  have k4:p.l.length - (j+1)<p.l.length - j:=by omega
  simp (disch:=omega) only [ite_ne,q,getK_s (mapC_get pkC ex),hmn,go_sem,↓reduceIte,Za,Zb,Zc,Zd,Ze,reduceCtorEq,Zf,Zg,Zh,Zi,Zj,Zk]
  refine cdK_of (fun c=>?_) (fun c=>?_)
  .have c:¬x.on=root:=by simpa using c
   rw [if_neg c] at hst
   simp (disch:=omega) only [ite_ne,hmn,go_sem,↓reduceIte,Za,Zb,Zc,Zd,Ze,reduceCtorEq,Zf,Zg,Zh,Zi,Zj,Zk]
   refine ⟨(j+1,F,D,_),⟨by dsimp only;omega,by dsimp only;omega,hst.symm⟩,k4,weak_ok ?_ (Sub.cons ?_ (Sub.cons ?_ (Sub.cons ?_ (Sub.cons ?_ (Sub.cons ?_ (Sub.cons ?_ (Sub.cons ?_ (Sub.cons ?_ (Sub.base hf ?_))))))))) (zna _)⟩
   all_goals
    simp (disch:=omega) only [ite_ne,wr64s j (by omega),hmn,go_sem,↓reduceIte,Za,Zb,Zc,Zd,Ze,reduceCtorEq,Zf,Zg,Zh,Zi,Zj,Zk]
  .have hon:x.on=root:=by simpa using c
   rw [if_pos hon] at hst
   dsimp only at hst
   have hTx:=rText_ok x.args (fun a h=>(hxo.a.v a h).ok) (znc hxo.a.b (by omega)) (znc hxo.a.n (by omega))
   have hD'0:=rootD_dok (s:=s) (mu:=mu) (root:=root) (x:=x) hI3 (fun hm=>by
    rw [if_pos hm,hI1]
    have:(j+1)*d.w.length≤p.l.length*d.w.length:=Nat.mul_le_mul_right _ q
    rw [Nat.add_mul,Nat.one_mul] at this
    have:=hB hm
    omega)
   have hDI:itemI (rootD s mu root D x) root=I:=by rw [rootD_item,hI2,hI]
   have hDr:rootD s mu root D x=if (mu&&!decide (x.name=⟨#[95,95,116,121,112,101,110,97,109,101]⟩))=true then appV D x.name (ofL (argsL x.args)) else D:=by
    unfold rootD rootT
    rw [hI2,hI,if_neg hI0]
    rfl
   have hAp:=rApply_ok D hI3.f x.name (ofL (argsL x.args))
   obtain ⟨T,hT⟩:∃T,ofL (argsL x.args)=T:=⟨_,rfl⟩
   rw [hT] at hTx hAp hDr
   simp (disch:=omega) only [ite_ne,hmn,hmu,go_sem,↓reduceIte,Za,Zb,Zc,Zd,Ze,reduceCtorEq,Zf,Zg,Zh,Zi,Zj,Zk]
   refine cdK_of (fun c3=>?_) (fun c3=>?_)
   .rw [if_pos c3] at hDr
    rw [hDr] at hst hD'0 hDI
    obtain ⟨D',hD'e⟩:∃D',appV D x.name T=D':=⟨_,rfl⟩
    rw [hD'e] at hst hD'0 hDI hAp
    have hnt:¬x.name=⟨#[95,95,116,121,112,101,110,97,109,101]⟩:=by simp at c3;exact c3.2
    have hP:rootP s root D' x=zVal:=by rw [rootP,hDI,if_neg hI0,if_neg (by unfold sTypename;exact hnt)]
    rw [hP] at hst
    simp (disch:=omega) only [ite_ne,hmn,go_sem,↓reduceIte,Za,Zb,Zc,Zd,Ze,reduceCtorEq,Zf,Zg,Zh,Zi,Zj,Zk]
    refine vcCall.f (hTx _ _) ?_
    simp (disch:=omega) only [ite_ne,hmn,go_sem,↓reduceIte,Za,Zb,Zc,Zd,Ze,reduceCtorEq,Zf,Zg,Zh,Zi,Zj,Zk]
    refine vcCall.f (hAp _ _) ?_
    simp (disch:=omega) only [ite_ne,hmn,go_sem,↓reduceIte,Za,Zb,Zc,Zd,Ze,reduceCtorEq,Zf,Zg,Zh,Zi,Zj,Zk]
    refine cdK_of (fun c5=>absurd (by simpa using c5) hnt) (fun c5=>?_)
    simp (disch:=omega) only [ite_ne,hl1,hl2,k1,k2,k3,hmn,go_sem,↓reduceIte,Za,Zb,Zc,Zd,Ze,reduceCtorEq,Zf,Zg,Zh,Zi,Zj,Zk]
    refine ⟨(j+1,F++[(x.key,zVal)],D',_),⟨by dsimp only;omega,by dsimp only;omega,hst.symm⟩,k4,weak_ok ?_ (Sub.cons ?_ (Sub.cons ?_ (Sub.cons ?_ (Sub.cons ?_ (Sub.cons ?_ (Sub.cons ?_ (Sub.cons ?_ (Sub.cons ?_ (Sub.base hf ?_))))))))) (zna _)⟩
    all_goals
     simp (disch:=omega) only [ite_ne,wr64s j (by omega),hmn,zld,zlc,zle,zlq,zln,zlu,snoc_zr,go_sem,↓reduceIte,Za,Zb,Zc,Zd,Ze,reduceCtorEq,Zf,Zg,Zh,Zi,Zj,Zk]
   .rw [if_neg (by rw [c3];simp)] at hDr
    rw [hDr] at hst hD'0 hDI
    obtain ⟨D',hD'e⟩:∃D',D=D':=⟨_,rfl⟩
    rw [hD'e] at hst hD'0 hDI
    rw [hD'e]
    simp (disch:=omega) only [ite_ne,hmn,go_sem,↓reduceIte,Za,Zb,Zc,Zd,Ze,reduceCtorEq,Zf,Zg,Zh,Zi,Zj,Zk]
    refine cdK_of (fun c5=>?_) (fun c5=>?_)
    .have hnt:x.name=⟨#[95,95,116,121,112,101,110,97,109,101]⟩:=by simpa using c5
     have hP:rootP s root D' x=txV root:=by rw [rootP,hDI,if_neg hI0,if_pos (by unfold sTypename;exact hnt)]
     rw [hP] at hst
     simp (disch:=omega) only [ite_ne,hmn,go_sem,↓reduceIte,Za,Zb,Zc,Zd,Ze,reduceCtorEq,Zf,Zg,Zh,Zi,Zj,Zk]
     refine vcCall.f (text_ok _ _ _) ?_
     simp (disch:=omega) only [ite_ne,hl1,hl2,k1,k2,k3,hmn,go_sem,↓reduceIte,Za,Zb,Zc,Zd,Ze,reduceCtorEq,Zf,Zg,Zh,Zi,Zj,Zk]
     refine ⟨(j+1,F++[(x.key,txV root)],D',_),⟨by dsimp only;omega,by dsimp only;omega,hst.symm⟩,k4,weak_ok ?_ (Sub.cons ?_ (Sub.cons ?_ (Sub.cons ?_ (Sub.cons ?_ (Sub.cons ?_ (Sub.cons ?_ (Sub.cons ?_ (Sub.cons ?_ (Sub.base hf ?_))))))))) (zna _)⟩
     all_goals
      simp (disch:=omega) only [ite_ne,wr64s j (by omega),hmn,zld,zlc,zle,zlq,zln,zlu,snoc_zr,go_sem,↓reduceIte,Za,Zb,Zc,Zd,Ze,reduceCtorEq,Zf,Zg,Zh,Zi,Zj,Zk]
    .have hnt:¬x.name=⟨#[95,95,116,121,112,101,110,97,109,101]⟩:=by simpa using c5
     have hP:rootP s root D' x=zVal:=by rw [rootP,hDI,if_neg hI0,if_neg (by unfold sTypename;exact hnt)]
     rw [hP] at hst
     simp (disch:=omega) only [ite_ne,hl1,hl2,k1,k2,k3,hmn,go_sem,↓reduceIte,Za,Zb,Zc,Zd,Ze,reduceCtorEq,Zf,Zg,Zh,Zi,Zj,Zk]
     refine ⟨(j+1,F++[(x.key,zVal)],D',_),⟨by dsimp only;omega,by dsimp only;omega,hst.symm⟩,k4,weak_ok ?_ (Sub.cons ?_ (Sub.cons ?_ (Sub.cons ?_ (Sub.cons ?_ (Sub.cons ?_ (Sub.cons ?_ (Sub.cons ?_ (Sub.cons ?_ (Sub.base hf ?_))))))))) (zna _)⟩
     all_goals
      simp (disch:=omega) only [ite_ne,wr64s j (by omega),hmn,zld,zlc,zle,zlq,zln,zlu,snoc_zr,go_sem,↓reduceIte,Za,Zb,Zc,Zd,Ze,reduceCtorEq,Zf,Zg,Zh,Zi,Zj,Zk]
 .have q:j=p.l.length:=by simp at q;omega
  subst q
  rw [zlj,hRF] at hj3
  subst hj3
  have hl3:(F.map (·.2)).take F.length=F.map (·.2):=zlk (by omega)
  have hl4:(F.map (·.1)).take F.length=F.map (·.1):=zlk (by omega)
  simp (disch:=omega) only [ite_ne,hl1,hl2,hl3,hl4,zna,hmn,go_sem,↓reduceIte,Za,Zb,Zc,Zd,Ze,reduceCtorEq,Zf,Zg,Zh,Zi,Zj,Zk]
  try rfl
theorem rRun_ok (s:Sup) (hs:SOk s) (d:Dat) {B:Nat} (hd:DOk d B) (p:Pln) (hl:p.l.length≤1048576) (hpo:∀x∈p.l,x.Ok) (hB:p.k=2→B+p.l.length*d.w.length≤100000000000) (hp:CH) (m:Nat) :
  MeetsF Tryz.prog 40 hp m [supx s,dx d,plx p] (.tp [vx (runV s d p).1,dx (runV s d p).2]):=by
 by_cases h:0≤itemI d (rootS p.k)
 .exact rRun_found s hs d hd p hl hpo hB h hp m
 .exact rRun_none s hs d hd p hl hpo hB h hp m
end Go.Proofs.YtinbodeocoeneaaGreatDoor
