/-
  The parts SeD IdQ IdR of the proof, in one file. Conditions: none.
-/
import Derived.Test.YthiifoleopdieaaGreatDoorIv50
open Nat renaming reduceEqDiff→zqa,reduceBEq→zqb,reduceAdd→zqc,reduceLeDiff→zqd,reduceLT→zqe,reduceMul→zqf,reduceSub→zqg
open Int renaming reduceEq→zqh,reduceLT→zqi,reduceLE→zqj,reduceToNat→zqk
namespace Go.Proofs.YthiifoleopdieaaGreatDoor
open Go.Eng
set_option linter.unusedVariables false
set_option linter.unusedSimpArgs false
set_option maxRecDepth 20000
inductive Pk.Fit:Pk→Prop
 | mk (p:Pk):p.args.length≤100000000000→p.tw.length≤100000000000→p.picks.length≤100000000000→(∀a∈p.args,a.v.Fit)→(∀x∈p.picks,Pk.Fit x)→Pk.Fit p
theorem Pk.Fit.a {p:Pk} (h:p.Fit):p.args.length≤100000000000:=by cases h;assumption
theorem Pk.Fit.w {p:Pk} (h:p.Fit):p.tw.length≤100000000000:=by cases h;assumption
theorem Pk.Fit.l {p:Pk} (h:p.Fit):p.picks.length≤100000000000:=by cases h;assumption
theorem Pk.Fit.v {p:Pk} (h:p.Fit) {a:Arg} (ha:a∈p.args):a.v.Fit:=by cases h with | mk _ _ _ _ h _=>exact h a ha
theorem Pk.Fit.x {p:Pk} (h:p.Fit) {x:Pk} (hx:x∈p.picks):x.Fit:=by cases h with | mk _ _ _ _ _ h=>exact h x hx
inductive Pln where
 | mk (k:Int) (l:List Pk)
def Pln.k:Pln→Int | .mk k _=>k
theorem Pln.k_mk (k:Int) (l:List Pk):(Pln.mk k l).k=k:=rfl
def Pln.l:Pln→List Pk | .mk _ l=>l
theorem Pln.l_mk (k:Int) (l:List Pk):(Pln.mk k l).l=l:=rfl
theorem Pln.eta (x:Pln):Pln.mk x.k x.l=x:=by cases x;rfl
theorem Pln.ext {x y:Pln} (h0:x.k=y.k) (h1:x.l=y.l):x=y:=by cases x;cases y;simp only [Pln.k_mk,Pln.l_mk] at *;simp [*]
attribute [go_sem] Pln.k_mk Pln.l_mk
attribute [grind =] Pln.k_mk Pln.l_mk
attribute [ext] Pln.ext
attribute [grind ext] Pln.ext
abbrev plx (x:Pln):AV:=.ag [.i .i64 x.k,.ds (mapC pkC x.l)]
end Go.Proofs.YthiifoleopdieaaGreatDoor
namespace Go.Proofs.YthiifoleopdieaaGreatDoor
open Go.Eng
set_option linter.unusedVariables false
set_option linter.unusedSimpArgs false
set_option maxRecDepth 20000
theorem appV_dok {d:Dat} {B:Nat} (hd:DOk d B) (h:B+d.w.length≤100000000000) (f a:ByteArray):DOk (appV d f a) (B+d.w.length) :=
 ⟨appV_fit2 hd.f hd.c h f a,appL_vals (Q:=fun c=>VSm c.v) hd.v hd.w,hd.w,appL_cells hd.c⟩
def itemI (d:Dat) (root:ByteArray):Int:=fidx (fun x:Itm=>decide (x.t=root)) d.i 0
theorem fidx_map {α β:Type} (g:α→β) (q:β→Bool):∀(l:List α) (j:Nat),fidx (fun x=>q (g x)) l j=fidx q (l.map g) j
 | [],j=>by simp [fidx]
 | x::l,j=>by
  rw [List.map_cons,fidx,fidx,fidx_map g q l (j+1)]
theorem typs_app (d:Dat) (f a:ByteArray):(appV d f a).i.map Itm.t=d.i.map Itm.t:=by
 apply List.ext_getElem?
 intro n
 rw [List.getElem?_map,List.getElem?_map]
 unfold appV
 rw [Dat.i_mk,appL_get]
 cases d.i[n]? with
 | none=>rfl
 | some x=>rfl
theorem itemI_eq (d:Dat) (root:ByteArray):itemI d root=fidx (fun t=>decide (t=root)) (d.i.map Itm.t) 0:=fidx_map Itm.t (fun t=>decide (t=root)) d.i 0
theorem itemI_app (d:Dat) (f a root:ByteArray):itemI (appV d f a) root=itemI d root:=by rw [itemI_eq,itemI_eq,typs_app]
theorem itemI_ex {d:Dat} {root:ByteArray} (h:0≤itemI d root):exB d (itemI d root)=true∧typD d (itemI d root)=root:=by
 have h1:=fidx_lt (fun x:Itm=>decide (x.t=root)) d.i 0
 have h2:itemI d root=fidx (fun x:Itm=>decide (x.t=root)) d.i 0:=rfl
 rw [←h2] at h1
 obtain ⟨j,hj⟩:∃j:Nat,itemI d root=j:=⟨(itemI d root).toNat,by omega⟩
 have hjl:j < d.i.length:=by omega
 obtain ⟨x,ex⟩:∃x,d.i[j]?=some x:=⟨d.i[j],by simp [hjl]⟩
 have h3:=fidx_at (fun x:Itm=>decide (x.t=root)) d.i 0 j x (by rw [←h2,hj];simp) ex
 rw [hj]
 exact ⟨by simp [exB];omega,by rw [typD_at ex];simpa using h3⟩
noncomputable def noneF (root:ByteArray) (l:List Pk):List (ByteArray × Val):=(l.filter fun p=>decide (p.on=root)).map fun p=>(p.key,if p.name=sTypename then txV root else zVal)
noncomputable def rootP (s:Sup) (root:ByteArray) (d:Dat) (x:Pk):Val:=if 0≤itemI d root then pickV s d x (itemI d root) else if x.name=sTypename then txV root else zVal
noncomputable def rootT (s:Sup) (root:ByteArray) (d:Dat) (x:Pk):List UInt8:=if 0≤itemI d root then argT s d (itemI d root) x else argsL x.args
noncomputable def rootD (s:Sup) (mu:Bool) (root:ByteArray) (d:Dat) (x:Pk):Dat:=if (mu&&!decide (x.name=sTypename))=true then appV d x.name (ofL (rootT s root d x)) else d
noncomputable def runS (s:Sup) (mu:Bool) (root:ByteArray) (a:List (ByteArray × Val) × Dat) (x:Pk):List (ByteArray × Val) × Dat :=
 if x.on=root then (a.1++[(x.key,rootP s root (rootD s mu root a.2 x) x)],rootD s mu root a.2 x) else a
noncomputable def runL (s:Sup) (mu:Bool) (root:ByteArray) (d:Dat) (l:List Pk):List (ByteArray × Val) × Dat:=l.foldl (runS s mu root) ([],d)
theorem runL_step {s:Sup} {mu:Bool} {root:ByteArray} {d:Dat} {l:List Pk} {j:Nat} {x:Pk} (h:l[j]?=some x):runL s mu root d (l.take (j+1))=runS s mu root (runL s mu root d (l.take j)) x:=by
 unfold runL
 rw [←take_snoc h,List.foldl_append]
 rfl
theorem runS_len (s:Sup) (mu:Bool) (root:ByteArray) (a:List (ByteArray × Val) × Dat) (x:Pk):(runS s mu root a x).1.length≤a.1.length+1:=by
 unfold runS
 split<;>simp
theorem runL_len (s:Sup) (mu:Bool) (root:ByteArray) (d:Dat) (l:List Pk):∀j,(runL s mu root d (l.take j)).1.length≤j
 | 0=>by simp [runL]
 | j+1=>by
  by_cases hj:j < l.length
  ·rw [runL_step (List.getElem?_eq_getElem hj)]
   have h1:=runS_len s mu root (runL s mu root d (l.take j)) l[j]
   have h2:=runL_len s mu root d l j
   omega
  ·rw [List.take_of_length_le (by omega),←List.take_of_length_le (i:=j) (l:=l) (by omega)]
   have h2:=runL_len s mu root d l j
   omega
theorem rootD_w (s:Sup) (mu:Bool) (root:ByteArray) (d:Dat) (x:Pk):(rootD s mu root d x).w=d.w:=by
 unfold rootD
 split<;>rfl
theorem rootD_item (s:Sup) (mu:Bool) (root:ByteArray) (d:Dat) (x:Pk) (t:ByteArray):itemI (rootD s mu root d x) t=itemI d t:=by
 unfold rootD
 split
 ·exact itemI_app _ _ _ _
 ·rfl
theorem rootD_dok {s:Sup} {mu:Bool} {root:ByteArray} {d:Dat} {x:Pk} {B:Nat} (hd:DOk d B) (h:mu=true→B+d.w.length≤100000000000):DOk (rootD s mu root d x) (B+if mu=true then d.w.length else 0):=by
 unfold rootD
 split
 ·rename_i q
  have q:mu=true:=by simp at q;exact q.1
  rw [if_pos q]
  exact appV_dok hd (h q) _ _
 ·exact ⟨hd.f,hd.v,hd.w,fun x hx=>Nat.le_trans (hd.c x hx) (Nat.le_add_right _ _)⟩
theorem DOk.mono {d:Dat} {B C:Nat} (h:DOk d B) (hbc:B≤C):DOk d C:=⟨h.f,h.v,h.w,fun x hx=>Nat.le_trans (h.c x hx) hbc⟩
theorem runL_inv (s:Sup) (mu:Bool) (root:ByteArray) (d:Dat) (l:List Pk) {B:Nat} (hd:DOk d B) (h:mu=true→B+l.length*d.w.length≤100000000000):∀j,j≤l.length →
  (runL s mu root d (l.take j)).2.w=d.w∧(∀t,itemI (runL s mu root d (l.take j)).2 t=itemI d t)∧DOk (runL s mu root d (l.take j)).2 (B+j*(if mu=true then d.w.length else 0))
 | 0,_=>⟨rfl,fun _=>rfl,by simpa [runL] using hd⟩
 | j+1,hj=>by
  obtain ⟨h1,h2,h3⟩:=runL_inv s mu root d l hd h j (by omega)
  rw [runL_step (List.getElem?_eq_getElem (show j < l.length by omega))]
  unfold runS
  have e:(j+1)*(if mu=true then d.w.length else 0)=j*(if mu=true then d.w.length else 0)+(if mu=true then d.w.length else 0):=by rw [Nat.add_mul,Nat.one_mul]
  split
  ·refine ⟨by rw [rootD_w];exact h1,fun t=>by rw [rootD_item];exact h2 t,?_⟩
   have:=rootD_dok (s:=s) (mu:=mu) (root:=root) (x:=l[j]) h3 (fun q=>by
    rw [if_pos q,h1]
    have hh:=h q
    have:(j+1)*d.w.length≤l.length*d.w.length:=Nat.mul_le_mul_right _ hj
    rw [Nat.add_mul,Nat.one_mul] at this
    omega)
   rw [h1] at this
   rw [e,←Nat.add_assoc]
   exact this
  ·exact ⟨h1,h2,h3.mono (by rw [e];omega)⟩
theorem runL_query (s:Sup) (root:ByteArray) (d:Dat) (l:List Pk):runL s false root d l=(if 0≤itemI d root then fieldsV s d l (itemI d root) else noneF root l,d):=by
 have key:∀(l:List Pk) (acc:List (ByteArray × Val)),l.foldl (runS s false root) (acc,d)=(acc++(l.filter fun p=>decide (p.on=root)).map fun p=>(p.key,rootP s root d p),d):=by
  intro l
  induction l with
  | nil=>intro acc;simp
  | cons p l ih =>
   intro acc
   rw [List.foldl_cons,runS]
   have e:rootD s false root d p=d:=by rw [rootD,Bool.false_and];rfl
   by_cases c:p.on=root
   ·rw [if_pos c]
    dsimp only
    rw [e,ih,List.filter_cons_of_pos (by simp [c]),List.map_cons,List.append_assoc]
    rfl
   ·rw [if_neg c,ih,List.filter_cons_of_neg (by simp [c])]
 unfold runL
 rw [key l []]
 simp only [List.nil_append,Prod.mk.injEq,and_true]
 unfold rootP
 by_cases c:0≤itemI d root
 ·rw [if_pos c,fieldsV_eq,(itemI_ex c).2]
  simp only [if_pos c]
 ·rw [if_neg c,noneF]
  simp only [if_neg c]
noncomputable def runV (s:Sup) (d:Dat) (p:Pln):Val × Dat:=(objV (rootS p.k) (runL s (decide (p.k=2)) (rootS p.k) d p.l).1,(runL s (decide (p.k=2)) (rootS p.k) d p.l).2)
end Go.Proofs.YthiifoleopdieaaGreatDoor
namespace Go.Proofs.YthiifoleopdieaaGreatDoor
open Go.Eng
set_option linter.unusedVariables false
set_option linter.unusedSimpArgs false
set_option maxRecDepth 20000
theorem noneF_step {root:ByteArray} {l:List Pk} {j:Nat} {p:Pk} (h:l[j]?=some p):noneF root (l.take (j+1))=if p.on=root then noneF root (l.take j)++[(p.key,if p.name=sTypename then txV root else zVal)] else noneF root (l.take j):=by
 unfold noneF
 rw [←take_snoc h,List.filter_append,List.map_append]
 by_cases c:p.on=root
 ·rw [if_pos c];simp [c]
 ·rw [if_neg c];simp [c]
theorem noneF_len (root:ByteArray) (l:List Pk):(noneF root l).length≤l.length:=by
 unfold noneF
 rw [List.length_map]
 exact List.length_filter_le _ _
set_option maxHeartbeats 1000000 in
theorem tnone_ok (root:ByteArray) (l:List Pk) (hl:l.length≤1048576) (hp:CH) (m:Nat):MeetsF Tryz.prog 45 hp m [.s root,.ds (mapC pkC l)] (vx (objV root (noneF root l))):=by
 have hq:∀j,(noneF root (l.take j)).length≤j:=fun j=>by
  have:=noneF_len root (l.take j)
  rw [List.length_take] at this
  omega
 obtain ⟨R,hR⟩:∃R,noneF root l=R:=⟨_,rfl⟩
 rw [hR]
 refine meetsF Tryz.func45 (by kernel_rfl) cc45 cr45 rfl fun hf=>?_;unfold ck45
 simp only [go_sem,↓reduceIte,zqa,zqb,zqc,zqd,zqe,reduceCtorEq,zqf,zqg,zqh,zqi,zqj,zqk]
 refine vcCall.f (vText_ok _ _ _) ?_
 simp only [go_sem,↓reduceIte,zqa,zqb,zqc,zqd,zqe,reduceCtorEq,zqf,zqg,zqh,zqi,zqj,zqk]
 refine loop (fun q:Nat × List (ByteArray × Val) × Nat=>⟨[(0,.s root),(4,.bx m 0),(5,.bx (m+3) 0),(14,.ds (mapC pkC l)),(15,.i .i64 l.length),(16,.i .i64 q.1)],
   (m,.bx [.i .i64 0,.i .i64 0,.s ⟨#[]⟩,.e0,.e0]) ::
   (m+3,.bx [.i .i64 6,.i .i64 0,.s ⟨#[]⟩,.rw (m+2) q.2.1.length (q.2.1.length+1),.rw (m+1) q.2.1.length (q.2.1.length+1)])::(m+2,.rw q.2.1.length 5 (mapC valC (txV root::q.2.1.map (·.2))))::(m+1,.rw q.2.1.length 1 (stC (⟨#[95,95,116]⟩::q.2.1.map (·.1))))::hp,q.2.2⟩)
  (fun q=>q.1≤l.length∧m+4≤q.2.2∧q.2.1=noneF root (l.take q.1)) (fun q=>l.length - q.1) (0,[],m+4) ?_ ?_ (fun ⟨j,F,n⟩ hj=>?_)
 ·exact ⟨by simp,by simp,by dsimp only;rw [List.take_zero];rfl⟩
 ·refine weak_ok ?_ (Sub.cons ?_ (Sub.cons ?_ (Sub.cons ?_ (Sub.cons ?_ (Sub.base hf ?_))))) (Nat.le_refl _)
  all_goals (simp (disch:=omega) only [ite_ne,go_sem,↓reduceIte,zqa,zqb,zqc,zqd,zqe,reduceCtorEq,zqf,zqg,zqh,zqi,zqj,zqk])
  all_goals rfl
 dsimp only at hj
 obtain ⟨hj1,hj2,hj3⟩:=hj
 have hmn:m≤n:=by omega
 have hFl:F.length≤j:=by rw [hj3];exact hq j
 simp (disch:=omega) only [ite_ne,go_sem,↓reduceIte,zqa,zqb,zqc,zqd,zqe,reduceCtorEq,zqf,zqg,zqh,zqi,zqj,zqk]
 refine cdK_of (fun q=>?_) (fun q=>?_)
 ·have q:j < l.length:=by simpa using q
  obtain ⟨p,ep⟩:∃p,l[j]?=some p:=⟨l[j],by simp [q]⟩
  have hst:=noneF_step (root:=root) ep
  rw [←hj3] at hst
  have hl1:(F.map (·.2)).length=F.length:=by simp
  have hl2:(F.map (·.1)).length=F.length:=by simp
  have k1:(F.length+1+1)*80≤140737488355328:=by omega
  have k2:(F.length+1+1)*16≤140737488355328:=by omega
  have k3:F.length+1+1≤9223372036854775807:=by omega
  have k4:l.length - (j+1) < l.length - j:=by omega
  unfold sTypename at hst
  simp (disch:=omega) only [ite_ne,q,getK_s (mapC_get pkC ep),go_sem,↓reduceIte,zqa,zqb,zqc,zqd,zqe,reduceCtorEq,zqf,zqg,zqh,zqi,zqj,zqk]
  refine cdK_of (fun c=>?_) (fun c=>?_)
  ·have c:¬p.on=root:=by simpa using c
   rw [if_neg c] at hst
   simp (disch:=omega) only [ite_ne,go_sem,↓reduceIte,zqa,zqb,zqc,zqd,zqe,reduceCtorEq,zqf,zqg,zqh,zqi,zqj,zqk]
   refine ⟨(j+1,F,_),⟨by dsimp only;omega,by dsimp only;omega,hst.symm⟩,k4,weak_ok ?_ (Sub.cons ?_ (Sub.cons ?_ (Sub.cons ?_ (Sub.cons ?_ (Sub.base hf ?_))))) (Nat.le_refl _)⟩
   all_goals
    simp (disch:=omega) only [ite_ne,wr64s j (by omega),hmn,go_sem,↓reduceIte,zqa,zqb,zqc,zqd,zqe,reduceCtorEq,zqf,zqg,zqh,zqi,zqj,zqk]
  ·have c:p.on=root:=by simpa using c
   rw [if_pos c] at hst
   simp (disch:=omega) only [ite_ne,go_sem,↓reduceIte,zqa,zqb,zqc,zqd,zqe,reduceCtorEq,zqf,zqg,zqh,zqi,zqj,zqk]
   refine cdK_of (fun c2=>?_) (fun c2=>?_)
   ·rw [if_pos (by simpa using c2)] at hst
    simp (disch:=omega) only [ite_ne,go_sem,↓reduceIte,zqa,zqb,zqc,zqd,zqe,reduceCtorEq,zqf,zqg,zqh,zqi,zqj,zqk]
    refine vcCall.f (vText_ok _ _ _) ?_
    simp (disch:=omega) only [ite_ne,hl1,hl2,k1,k2,k3,go_sem,↓reduceIte,zqa,zqb,zqc,zqd,zqe,reduceCtorEq,zqf,zqg,zqh,zqi,zqj,zqk]
    refine ⟨by omega,(j+1,F++[(p.key,txV root)],_),⟨by dsimp only;omega,by dsimp only;omega,hst.symm⟩,k4,weak_ok ?_ (Sub.cons ?_ (Sub.cons ?_ (Sub.cons ?_ (Sub.cons ?_ (Sub.base hf ?_))))) (Nat.le_refl _)⟩
    all_goals
     simp (disch:=omega) only [ite_ne,wr64s j (by omega),hmn,List.length_append,List.length_cons,List.length_nil,List.map_append,List.map_cons,List.map_nil,snoc_zv,go_sem,↓reduceIte,zqa,zqb,zqc,zqd,zqe,reduceCtorEq,zqf,zqg,zqh,zqi,zqj,zqk]
   ·rw [if_neg (by simpa using c2)] at hst
    simp (disch:=omega) only [ite_ne,hl1,hl2,k1,k2,k3,go_sem,↓reduceIte,zqa,zqb,zqc,zqd,zqe,reduceCtorEq,zqf,zqg,zqh,zqi,zqj,zqk]
    refine ⟨by omega,(j+1,F++[(p.key,zVal)],_),⟨by dsimp only;omega,by dsimp only;omega,hst.symm⟩,k4,weak_ok ?_ (Sub.cons ?_ (Sub.cons ?_ (Sub.cons ?_ (Sub.cons ?_ (Sub.base hf ?_))))) (Nat.le_refl _)⟩
    all_goals
     simp (disch:=omega) only [ite_ne,wr64s j (by omega),hmn,List.length_append,List.length_cons,List.length_nil,List.map_append,List.map_cons,List.map_nil,snoc_zv,go_sem,↓reduceIte,zqa,zqb,zqc,zqd,zqe,reduceCtorEq,zqf,zqg,zqh,zqi,zqj,zqk]
 ·have q:j=l.length:=by simp at q;omega
  subst q
  rw [List.take_length,hR] at hj3
  subst hj3
  have hl1:(F.map (·.2)).length=F.length:=by simp
  have hl2:(F.map (·.1)).length=F.length:=by simp
  have hl3:(F.map (·.2)).take F.length=F.map (·.2):=List.take_of_length_le (by omega)
  have hl4:(F.map (·.1)).take F.length=F.map (·.1):=List.take_of_length_le (by omega)
  simp (disch:=omega) only [ite_ne,hl1,hl2,hl3,hl4,Nat.le_refl,hmn,go_sem,↓reduceIte,zqa,zqb,zqc,zqd,zqe,reduceCtorEq,zqf,zqg,zqh,zqi,zqj,zqk]
  try rfl
noncomputable def readV (s:Sup) (d:Dat) (root:ByteArray) (l:List Pk):Val:=objV root (if 0≤itemI d root then fieldsV s d l (itemI d root) else noneF root l)
theorem tread_ok (s:Sup) (hs:SOk s) (d:Dat) {B:Nat} (hd:DOk d B) (root:ByteArray) (l:List Pk) (hl:l.length≤1048576) (hpo:∀p∈l,p.Ok) (hp:CH) (m:Nat) :
  MeetsF Tryz.prog 43 hp m [supx s,dx d,.s root,.ds (mapC pkC l)] (vx (readV s d root l)):=by
 have h1:=dRoot_ok d hd.f.f root
 have h2:=tnone_ok root l hl
 have h3:=tObject_ok s hs d hd l hl hpo (itemI d root)
 have h4:=fun h=>itemI_ex (d:=d) (root:=root) h
 obtain ⟨R,hR⟩:∃R,readV s d root l=R:=⟨_,rfl⟩
 have e:=hR
 rw [readV] at e
 rw [hR]
 change ∀hp m,MeetsF Tryz.prog 47 hp m [dx d,.s root] (resI (itemI d root)) at h1
 by_cases c:0≤itemI d root
 ·have h5:=h4 c
  have e2:objectV s d l (itemI d root)=R:=by rw [objectV,if_pos h5.1,h5.2,←e,if_pos c]
  rw [e2] at h3
  rw [resI,if_pos c,decide_eq_true c] at h1
  refine meetsF Tryz.func43 (by kernel_rfl) cc43 cr43 rfl fun hf=>?_;unfold ck43
  simp only [go_sem,↓reduceIte,zqa,zqb,zqc,zqd,zqe,reduceCtorEq,zqf,zqg,zqh,zqi,zqj,zqk]
  refine vcCall.f (h1 _ _) ?_
  simp only [go_sem,↓reduceIte,zqa,zqb,zqc,zqd,zqe,reduceCtorEq,zqf,zqg,zqh,zqi,zqj,zqk]
  refine vcCall.f (h3 _ _) ?_
  simp only [go_sem,↓reduceIte,zqa,zqb,zqc,zqd,zqe,reduceCtorEq,zqf,zqg,zqh,zqi,zqj,zqk]
 ·rw [if_neg c] at e
  rw [e] at h2
  rw [resI,if_neg c,decide_eq_false c] at h1
  refine meetsF Tryz.func43 (by kernel_rfl) cc43 cr43 rfl fun hf=>?_;unfold ck43
  simp only [go_sem,↓reduceIte,zqa,zqb,zqc,zqd,zqe,reduceCtorEq,zqf,zqg,zqh,zqi,zqj,zqk]
  refine vcCall.f (h1 _ _) ?_
  simp only [go_sem,↓reduceIte,zqa,zqb,zqc,zqd,zqe,reduceCtorEq,zqf,zqg,zqh,zqi,zqj,zqk]
  refine vcCall.f (h2 _ _) ?_
  simp only [go_sem,↓reduceIte,zqa,zqb,zqc,zqd,zqe,reduceCtorEq,zqf,zqg,zqh,zqi,zqj,zqk]
end Go.Proofs.YthiifoleopdieaaGreatDoor
