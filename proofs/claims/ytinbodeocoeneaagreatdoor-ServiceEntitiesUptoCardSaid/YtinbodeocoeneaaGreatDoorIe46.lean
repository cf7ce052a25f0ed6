/- Proof. Conditions: none. -/
import Derived.Test.YtinbodeocoeneaaGreatDoorCards
import Derived.Test.YtinbodeocoeneaaGreatDoorTie
import Derived.ProofKit
import Derived.OpenShut
import Derived.Deep.DeepHandedRow
import Derived.Lib.LaidTab
import Derived.Test.YtinbodeocoeneaaGreatDoorIe45
open Nat renaming reduceEqDiff→Za,reduceBEq→Zb,reduceAdd→Zc,reduceLeDiff→Zd,reduceLT→Ze,reduceMul→Zf,reduceSub→Zg
open Int renaming reduceEq→Zh,reduceLT→Zi,reduceLE→Zj,reduceToNat→Zk
open List renaming getElem?_eq_getElem→zlg,drop_length→zll
open Nat renaming le_refl→zna
namespace Go.Proofs.YtinbodeocoeneaaGreatDoor
open Go.Eng
open Go.ChangeShapes Go.WideShapes Go.ChangeAt Go.RowKit
set_option linter.all false
theorem tab_third {P:Program} {W:World} {x y:String × DataW Unit} {name:String} {k:IntKind} {zs:List Int} {g:Nat} {t e:TypeId} {n:Nat}
  (hg:P.globalNamed name=some g) (hty:(P.globals[g]?).map (·.type)=some t) (ht:P.underlying t=some (.array n e)) (he:P.underlying e=some (.int k)) (hce:P.cellsOf e=1) (hct:P.cellsOf t=n)
  (h:laidMet P [x,y,(name,Lib.tabData k zs)] W):∃t fr,W.heap[g]?=some (.cells (zs.map fun z=>Value.int k z).toArray t fr):=by
 obtain ⟨ps,⟨g1,t1,c1,f1,p1,q1,a1,a2,a3,a4,⟨g2,t2,c2,f2,p2,q2,b1,b2,b3,b4,hz,e2⟩,e1⟩,hnd,hrows⟩:=h
 have hs:q2.Sublist ps:=by
  rw [e1,e2]
  exact (List.sublist_append_right _ _).trans (List.sublist_append_right _ _)
 have ht':Lib.TabIs P W name k zs:=Lib.tabIs_of_head (rest:=[]) hg hty ht he hce hct ⟨q2,hz,hnd.sublist hs,fun b off hp=>hrows b off (hs.subset hp)⟩
 unfold Lib.TabIs World.var? at ht'
 rw [hg] at ht'
 simp only [Option.bind_some] at ht'
 split at ht'
 .rename_i cs t fr hh
  cases ht'
  exact ⟨t,fr,hh⟩
 .cases ht'
theorem pow10_laid {w:World} (h:laidMetH Tryz.prog Rows.streamSourceUptoRow.laid w):∀b vs,(b,vs)∈glTab→∃t fr,w.heap[b]?=some (.cells vs t fr):=by
 intro b vs hb
 simp only [glTab,List.mem_singleton,Prod.mk.injEq] at hb
 obtain ⟨rfl,rfl⟩:=hb
 exact tab_third (t:=238) (e:=231) (n:=20) (by kernel_rfl) (by kernel_rfl) (by kernel_rfl) (by kernel_rfl) (by kernel_rfl) (by kernel_rfl) h
noncomputable def valsOf:DataW Unit→Array Value
 | .agg l=>(l.map fun x=>match x with | .lit (.int k z)=>Value.int k z | _=>Value.int .i64 0).toArray
 | _=>#[]
def setTab (vs:Array Value):Obj→Obj
 | .cells _ t fr=>.cells vs t fr
 | o=>o
noncomputable def laidWorld (os:Os):World :=
 { World.holding Tryz.prog os ⟨#[],#[],[]⟩ with heap:=(((World.holding Tryz.prog os ⟨#[],#[],[]⟩).heap.modify 1 (setTab (valsOf Rows.laid_internal_strconv_uint64pow10))).modify 2 (setTab (valsOf Rows.laid_math_bits_deBruijn32tab))).modify 3 (setTab (valsOf Rows.laid_math_bits_deBruijn64tab)) }
abbrev vals0:Value:=.slice none 0 0
set_option maxRecDepth 100000 in
theorem laid_met (os:Os) (vs:Array Value):laidMet Tryz.prog Rows.streamSourceUptoRow.laid ((laidWorld os).forCall (fun _ _=>0) ⟨#[],vs,[]⟩).memory :=
 laidMet_of_run' 8 (by kernel_rfl) (by kernel_rfl)
set_option maxRecDepth 20000
def zFl:Fld:=.mk ⟨#[]⟩ [] ⟨#[]⟩ [] []
abbrev flx (x:Fld):AV:=.ag [.s x.n,.ds x.args,.s x.tn,.ds x.tw,.ds x.dirs]
def findF (l:List Fld) (n:ByteArray):Option Fld:=l.find? fun f=>decide (f.n=n)
noncomputable def resF (o:Option Fld):AV:=.tp [flx (o.getD zFl),.b o.isSome]
theorem findF_cons (t:Fld) (l:List Fld) (n:ByteArray):findF (t::l) n=if t.n=n then some t else findF l n:=by
 unfold findF
 rw [List.find?_cons]
 by_cases c:t.n=n
 .simp [c]
 .simp [c]
def sField:ByteArray:=⟨#[102,105,101,108,100]⟩
noncomputable def defB (g:List Dfn) (on f:ByteArray):Bool:=match findD' g on with
 | none=>false
 | some t=>decide (t.k=1)&&(decide (f=sTypename)||(findF t.fields f).isSome)
noncomputable def rqV (d:Dat) (i:Int) (rep:Option Val) (f:ByteArray):Val:=match rep with
 | none=>lookV d i f ⟨#[]⟩
 | some r=>(getV r f).getD zVal
noncomputable def sNeed (s:Sup) (d:Dat) (i:Int) (f:ByteArray):List ByteArray:=reqJ s.joins (typD d i) f
noncomputable def sVals (s:Sup) (d:Dat) (rep:Option Val) (i:Int) (f:ByteArray):List Val:=(sNeed s d i f).map fun x=>leafOf (rqV d i rep x)
noncomputable def sFail (s:Sup) (d:Dat) (rep:Option Val) (i:Int) (f:ByteArray):Bool:=(sNeed s d i f).any fun x=>badV d (rqV d i rep x)
noncomputable def txtL (l:List Arg) (vs:List Val):List UInt8:=argsL l++(if vs=[] then [] else 124::prnL vs)
noncomputable def sArg (s:Sup) (d:Dat) (rep:Option Val) (i:Int) (p:Pk):List UInt8:=txtL p.args (sVals s d rep i p.name)
noncomputable def sPickW (g:List Dfn) (s:Sup) (d:Dat) (rep:Option Val) (i:Int) (p:Pk) (ob:Int→Val):Val :=
 if defB g (typD d i) p.name=true then (if p.name=sTypename then txV (typD d i) else if sFail s d rep i p.name=true then failV sKey else rawW d (compB s.doc p.tn) ob (lookV d i p.name (ofL (sArg s d rep i p)))) else failV sField
mutual
noncomputable def sFields (g:List Dfn) (s:Sup) (d:Dat):List Pk→Option Val→Int→List (ByteArray × Val)
 | [],_,_=>[]
 | p::r,rep,i=>if p.on=typD d i then (p.key,sPick g s d p rep i)::sFields g s d r rep i else sFields g s d r rep i
noncomputable def sPick (g:List Dfn) (s:Sup) (d:Dat):Pk→Option Val→Int→Val
 | .mk key on name args tn tw label initial picks,rep,i=>sPickW g s d rep i (.mk key on name args tn tw label initial picks) fun j=>objV (typD d j) (sFields g s d picks none j)
end
noncomputable def sObj (g:List Dfn) (s:Sup) (d:Dat) (l:List Pk) (rep:Option Val) (i:Int):Val:=objV (typD d i) (sFields g s d l rep i)
theorem sPick_eq (g:List Dfn) (s:Sup) (d:Dat) (p:Pk) (rep:Option Val) (i:Int):sPick g s d p rep i=sPickW g s d rep i p (sObj g s d p.picks none):=by
 cases p
 rw [sPick]
 rfl
theorem sFields_eq (g:List Dfn) (s:Sup) (d:Dat) (rep:Option Val) (i:Int) (l:List Pk):sFields g s d l rep i=(l.filter fun p=>decide (p.on=typD d i)).map fun p=>(p.key,sPick g s d p rep i):=by
 induction l with
 | nil=>rw [sFields];rfl
 | cons p l ih =>
  rw [sFields]
  by_cases c:p.on=typD d i
  .rw [if_pos c,ih,List.filter_cons_of_pos (by simp [c]),List.map_cons]
  .rw [if_neg c,ih,List.filter_cons_of_neg (by simp [c])]
theorem sFields_step {g:List Dfn} {s:Sup} {d:Dat} {rep:Option Val} {i:Int} {l:List Pk} {j:Nat} {p:Pk} (h:l[j]?=some p):sFields g s d (l.take (j+1)) rep i=if p.on=typD d i then sFields g s d (l.take j) rep i++[(p.key,sPick g s d p rep i)] else sFields g s d (l.take j) rep i:=by
 rw [←take_snoc h,sFields_eq,sFields_eq,List.filter_append,List.map_append]
 by_cases c:p.on=typD d i
 .rw [if_pos c];simp [c]
 .rw [if_neg c];simp [c]
theorem sFields_len (g:List Dfn) (s:Sup) (d:Dat) (rep:Option Val) (i:Int) (l:List Pk):(sFields g s d l rep i).length≤l.length:=by
 rw [sFields_eq,List.length_map]
 exact List.length_filter_le _ _
def ROk (rep:Option Val):Prop:=∀r,rep=some r→VSm r
theorem ROk.none:ROk none:=fun r h=>by cases h
theorem getV_sm {v:Val} (h:VSm v) (f:ByteArray):VSm ((getV v f).getD zVal):=by
 cases e:getV v f with
 | none=>exact VSm.z
 | some x =>
  have hx:x∈v.items:=by
   unfold getV at e
   split at e
   .split at e
    .exact List.mem_of_getElem? e
    .cases e
   .cases e
  refine ⟨h.f.x hx,h.r.x hx,?_⟩
  have h1:=h.b
  rw [avL_val] at h1
  have h2:avL (valC x)≤avLL (mapC valC v.items):=avLL_mem (List.mem_map_of_mem (f:=valC) hx)
  show avL (valC x)≤_
  omega
theorem rqV_sm {d:Dat} {B:Nat} (hd:DOk d B) (i:Int) {rep:Option Val} (hr:ROk rep) (f:ByteArray):VSm (rqV d i rep f):=by
 cases rep with
 | none=>exact lookV_sm hd _ _ _
 | some r=>exact getV_sm (hr r rfl) f
theorem sNeed_len {s:Sup} (hs:SOk s) (d:Dat) (i:Int) (f:ByteArray):(sNeed s d i f).length≤1048576:=reqJ_len hs.r _ _
theorem sVals_len (s:Sup) (d:Dat) (rep:Option Val) (i:Int) (f:ByteArray):(sVals s d rep i f).length=(sNeed s d i f).length:=by simp [sVals]
theorem sVals_sm {s:Sup} {d:Dat} {B:Nat} (hd:DOk d B) {rep:Option Val} (hr:ROk rep) (i:Int) (f:ByteArray):∀v∈sVals s d rep i f,VSm v:=fun v hv=>by
 unfold sVals at hv
 obtain ⟨x,_,rfl⟩:=List.mem_map.1 hv
 exact leafOf_sm (rqV_sm hd _ hr _)
theorem sVals_lok {s:Sup} {d:Dat} {B:Nat} (hd:DOk d B) {rep:Option Val} (hr:ROk rep) (i:Int) (f:ByteArray):∀v∈sVals s d rep i f,LOk v:=fun v hv=>by
 unfold sVals at hv
 obtain ⟨x,_,rfl⟩:=List.mem_map.1 hv
 exact leafOf_lok (rqV_sm hd _ hr _)
theorem sVals_sum {s:Sup} (hs:SOk s) {d:Dat} {B:Nat} (hd:DOk d B) {rep:Option Val} (hr:ROk rep) (i:Int) (f:ByteArray):avLL (mapC valC (sVals s d rep i f))≤2000000000000:=by
 have h1:=sumB (c:=valC) (B:=1048576) fun v hv=>(sVals_sm (s:=s) hd hr i f v hv).b
 have h2:=sNeed_len hs d i f
 rw [sVals_len] at h1
 have h3:(sNeed s d i f).length*1048576≤1048576*1048576:=Nat.mul_le_mul_right _ h2
 omega
theorem prn_bound {q:List Val} (hl:∀v∈q,LOk v) (hB:avLL (mapC valC q)≤2000000000000):(prnL q).length≤64000000000002:=by
 have h1:=prn_len q fun v hv=>(hl v hv).r
 have h2:=jc_le (q.map prnV)
 simp only [prnL,List.length_cons,List.length_append,List.length_nil]
 omega
noncomputable def sRootP (g:List Dfn) (s:Sup) (root:ByteArray) (d:Dat) (x:Pk):Val :=
 if defB g root x.name=true then (if 0≤itemI d root then sPick g s d x none (itemI d root) else if x.name=sTypename then txV root else zVal) else failV sField
noncomputable def sRootT (s:Sup) (root:ByteArray) (d:Dat) (x:Pk):List UInt8:=if 0≤itemI d root then sArg s d none (itemI d root) x else argsL x.args
noncomputable def sRootD (g:List Dfn) (s:Sup) (mu:Bool) (root:ByteArray) (d:Dat) (x:Pk):Dat:=if (mu&&(defB g root x.name&&!decide (x.name=sTypename)))=true then appV d x.name (ofL (sRootT s root d x)) else d
noncomputable def sRunS (g:List Dfn) (s:Sup) (mu:Bool) (root:ByteArray) (a:List (ByteArray × Val) × Dat) (x:Pk):List (ByteArray × Val) × Dat :=
 if x.on=root then (a.1++[(x.key,sRootP g s root (sRootD g s mu root a.2 x) x)],sRootD g s mu root a.2 x) else a
noncomputable def sRunL (g:List Dfn) (s:Sup) (mu:Bool) (root:ByteArray) (d:Dat) (l:List Pk):List (ByteArray × Val) × Dat:=l.foldl (sRunS g s mu root) ([],d)
theorem sRunL_step {g:List Dfn} {s:Sup} {mu:Bool} {root:ByteArray} {d:Dat} {l:List Pk} {j:Nat} {x:Pk} (h:l[j]?=some x):sRunL g s mu root d (l.take (j+1))=sRunS g s mu root (sRunL g s mu root d (l.take j)) x:=by
 unfold sRunL
 rw [←take_snoc h,List.foldl_append]
 rfl
theorem sRunS_len (g:List Dfn) (s:Sup) (mu:Bool) (root:ByteArray) (a:List (ByteArray × Val) × Dat) (x:Pk):(sRunS g s mu root a x).1.length≤a.1.length+1:=by
 unfold sRunS
 split<;>simp
theorem sRunL_len (g:List Dfn) (s:Sup) (mu:Bool) (root:ByteArray) (d:Dat) (l:List Pk):∀j,(sRunL g s mu root d (l.take j)).1.length≤j
 | 0=>by simp [sRunL]
 | j+1=>by
  by_cases hj:j<l.length
  .rw [sRunL_step (zlg hj)]
   have h1:=sRunS_len g s mu root (sRunL g s mu root d (l.take j)) l[j]
   have h2:=sRunL_len g s mu root d l j
   omega
  .rw [List.take_of_length_le (by omega),←List.take_of_length_le (i:=j) (l:=l) (by omega)]
   have h2:=sRunL_len g s mu root d l j
   omega
theorem sRootD_w (g:List Dfn) (s:Sup) (mu:Bool) (root:ByteArray) (d:Dat) (x:Pk):(sRootD g s mu root d x).w=d.w:=by
 unfold sRootD
 split<;>rfl
theorem sRootD_item (g:List Dfn) (s:Sup) (mu:Bool) (root:ByteArray) (d:Dat) (x:Pk) (t:ByteArray):itemI (sRootD g s mu root d x) t=itemI d t:=by
 unfold sRootD
 split
 .exact itemI_app _ _ _ _
 .rfl
theorem sRootD_dok {g:List Dfn} {s:Sup} {mu:Bool} {root:ByteArray} {d:Dat} {x:Pk} {B:Nat} (hd:DOk d B) (h:mu=true→B+d.w.length≤100000000000):DOk (sRootD g s mu root d x) (B+if mu=true then d.w.length else 0):=by
 unfold sRootD
 split
 .rename_i q
  have q:mu=true:=by simp at q;exact q.1
  rw [if_pos q]
  exact appV_dok hd (h q) _ _
 .exact ⟨hd.f,hd.v,hd.w,fun x hx=>Nat.le_trans (hd.c x hx) (Nat.le_add_right _ _)⟩
theorem sRunL_inv (g:List Dfn) (s:Sup) (mu:Bool) (root:ByteArray) (d:Dat) (l:List Pk) {B:Nat} (hd:DOk d B) (h:mu=true→B+l.length*d.w.length≤100000000000):∀j,j≤l.length →
  (sRunL g s mu root d (l.take j)).2.w=d.w∧(∀t,itemI (sRunL g s mu root d (l.take j)).2 t=itemI d t)∧DOk (sRunL g s mu root d (l.take j)).2 (B+j*(if mu=true then d.w.length else 0))
 | 0,_=>⟨rfl,fun _=>rfl,by simpa [sRunL] using hd⟩
 | j+1,hj=>by
  obtain ⟨h1,h2,h3⟩:=sRunL_inv g s mu root d l hd h j (by omega)
  rw [sRunL_step (zlg (show j<l.length by omega))]
  unfold sRunS
  have e:(j+1)*(if mu=true then d.w.length else 0)=j*(if mu=true then d.w.length else 0)+(if mu=true then d.w.length else 0):=by rw [Nat.add_mul,Nat.one_mul]
  split
  .refine ⟨by rw [sRootD_w];exact h1,fun t=>by rw [sRootD_item];exact h2 t,?_⟩
   have:=sRootD_dok (g:=g) (s:=s) (mu:=mu) (root:=root) (x:=l[j]) h3 (fun q=>by
    rw [if_pos q,h1]
    have hh:=h q
    have:(j+1)*d.w.length≤l.length*d.w.length:=Nat.mul_le_mul_right _ hj
    rw [Nat.add_mul,Nat.one_mul] at this
    omega)
   rw [h1] at this
   rw [e,←Nat.add_assoc]
   exact this
  .exact ⟨h1,h2,h3.mono (by rw [e];omega)⟩
noncomputable def sRunV (g:List Dfn) (s:Sup) (d:Dat) (k:Int) (l:List Pk):Val × Dat:=(objV (rootS k) (sRunL g s (decide (k=2)) (rootS k) d l).1,(sRunL g s (decide (k=2)) (rootS k) d l).2)
theorem sObj_fit' {g:List Dfn} {s:Sup} {d:Dat} {l:List Pk} {rep:Option Val} (hl:l.length≤1048576) (h:∀p∈l,∀i,(sPick g s d p rep i).Fit) (i:Int):(sObj g s d l rep i).Fit:=by
 unfold sObj
 refine objV_fit (Nat.le_trans (sFields_len g s d rep i l) hl) fun x hx=>?_
 rw [sFields_eq] at hx
 obtain ⟨p,hp,rfl⟩:=List.mem_map.1 hx
 exact h p (List.mem_filter.1 hp).1 i
theorem sPick_fit {g:List Dfn} {s:Sup} {d:Dat} {B:Nat} (hd:DOk d B) (p:Pk) (hp:p.Ok) (rep:Option Val) (i:Int):(sPick g s d p rep i).Fit:=by
 refine Pk.ind (Q:=fun p=>p.Ok→∀rep i,(sPick g s d p rep i).Fit) (fun p ih hp rep i=>?_) p hp rep i
 rw [sPick_eq,sPickW]
 split
 .split
  .exact tx_fit _
  split
  .exact leafV_fit
  .exact rawW_fit (sObj_fit' hp.l fun x hx i=>ih x hx (hp.x hx) none i) _ (lookV_sm hd _ _ _).f
 .exact leafV_fit
theorem sObj_fit {g:List Dfn} {s:Sup} {d:Dat} {B:Nat} (hd:DOk d B) {l:List Pk} (hl:l.length≤1048576) (hp:∀p∈l,p.Ok) (rep:Option Val) (i:Int):(sObj g s d l rep i).Fit:=sObj_fit' hl (fun p h i=>sPick_fit hd p (hp p h) rep i) i
theorem sRootP_fit {g:List Dfn} {s:Sup} {d:Dat} {B:Nat} (hd:DOk d B) (root:ByteArray) (x:Pk) (hx:x.Ok):(sRootP g s root d x).Fit:=by
 unfold sRootP
 split
 .split
  .exact sPick_fit hd x hx _ _
  .split
   .exact tx_fit _
   .exact zVal_fit
 .exact leafV_fit
theorem sRunL_fit (g:List Dfn) (s:Sup) (mu:Bool) (root:ByteArray) (d:Dat) (l:List Pk) {B:Nat} (hd:DOk d B) (hpo:∀x∈l,x.Ok) (h:mu=true→B+l.length*d.w.length≤100000000000):∀j,j≤l.length→∀y∈(sRunL g s mu root d (l.take j)).1,y.2.Fit
 | 0,_=>by simp [sRunL]
 | j+1,hj=>by
  have hjl:j<l.length:=by omega
  have ex:=zlg hjl
  have ih:=sRunL_fit g s mu root d l hd hpo h j (by omega)
  obtain ⟨h1,h2,h3⟩:=sRunL_inv g s mu root d l hd h j (by omega)
  have hD:=sRootD_dok (g:=g) (s:=s) (mu:=mu) (root:=root) (x:=l[j]) h3 (fun q=>by
   rw [if_pos q,h1]
   have hh:=h q
   have:(j+1)*d.w.length≤l.length*d.w.length:=Nat.mul_le_mul_right _ hj
   rw [Nat.add_mul,Nat.one_mul] at this
   omega)
  rw [sRunL_step ex]
  unfold sRunS
  split
  .intro y hy
   dsimp only at hy
   rcases List.mem_append.1 hy with hy | hy
   .exact ih y hy
   .rw [List.mem_singleton.1 hy]
    exact sRootP_fit hD root _ (hpo _ (List.mem_of_getElem? ex))
  .exact ih
theorem sRunV_fit (g:List Dfn) (s:Sup) (d:Dat) (k:Int) (l:List Pk) {B:Nat} (hd:DOk d B) (hl:l.length≤1048576) (hpo:∀x∈l,x.Ok) (hB:k=2→B+l.length*d.w.length≤100000000000):(sRunV g s d k l).1.Fit:=by
 have hB':decide (k=2)=true→B+l.length*d.w.length≤100000000000:=fun h=>hB (by simpa using h)
 have h1:=sRunL_fit g s (decide (k=2)) (rootS k) d l hd hpo hB' l.length (zna _)
 have h2:=sRunL_len g s (decide (k=2)) (rootS k) d l l.length
 rw [List.take_length] at h1 h2
 exact objV_fit (by omega) h1
theorem sRunV_dok (g:List Dfn) (s:Sup) (d:Dat) (k:Int) (l:List Pk) {B:Nat} (hd:DOk d B) (hB:k=2→B+l.length*d.w.length≤100000000000) :
  DOk (sRunV g s d k l).2 (B+l.length*(if k=2 then d.w.length else 0)):=by
 have h:=(sRunL_inv g s (decide (k=2)) (rootS k) d l hd (fun h=>hB (by simpa using h)) l.length (zna _)).2.2
 rw [List.take_length] at h
 simp only [decide_eq_true_eq] at h
 exact h
noncomputable def entF (rep:Val) (F:List Val→Val):List ByteArray→List Val→Val
 | [],vs=>F vs
 | k::r,vs=>match getV rep k with
  | none=>zVal
  | some x=>entF rep F r (vs++[x])
noncomputable def entG (g:List Dfn) (s:Sup) (d:Dat) (typ:ByteArray) (ks:List ByteArray) (picks:List Pk) (rep:Val) (vs:List Val):Val :=
 if 0≤findD d typ ks vs then sObj g s d picks (some rep) (findD d typ ks vs) else zVal
noncomputable def entV (g:List Dfn) (s:Sup) (d:Dat) (typ:ByteArray) (keys:List ByteArray) (key:Int) (picks:List Pk) (rep:Val):Val :=
 if 1≤key∧key≤keys.length∧rep.k=6 then entF rep (entG g s d typ (keys.take key.toNat) picks rep) (keys.take key.toNat) [] else zVal
theorem fnd_lt (q:Nat→Itm→Bool):∀(l:List Itm) (j:Nat),fnd q l j=-1∨((j:Int)≤fnd q l j∧fnd q l j<(j+l.length:Nat))
 | [],j=>.inl rfl
 | x::r,j=>by
  rw [fnd]
  split
  .right;simp;omega
  .rcases fnd_lt q r (j+1) with h | h
   .exact .inl h
   .right;simp only [List.length_cons];omega
theorem findD_ex {d:Dat} {typ:ByteArray} {ks:List ByteArray} {vs:List Val} (h:0≤findD d typ ks vs):exB d (findD d typ ks vs)=true:=by
 unfold findD at h ⊢
 split at h
 .omega
 .rename_i c
  rw [if_neg c]
  have:=fnd_lt (fun i x=>decide (x.t=typ)&&smK d i ks vs) d.i 0
  simp only [exB,Bool.and_eq_true,decide_eq_true_eq]
  omega
theorem entF_fit {rep:Val} {F:List Val→Val} (h:∀vs,(F vs).Fit):∀(ks:List ByteArray) (vs:List Val),(entF rep F ks vs).Fit
 | [],vs=>h vs
 | k::r,vs=>by
  rw [entF]
  split
  .exact zVal_fit
  .exact entF_fit h r _
theorem entV_fit {g:List Dfn} {s:Sup} {d:Dat} {B:Nat} (hd:DOk d B) {picks:List Pk} (hl:picks.length≤1048576) (hp:∀p∈picks,p.Ok) (typ:ByteArray) (keys:List ByteArray) (key:Int) (rep:Val):(entV g s d typ keys key picks rep).Fit:=by
 unfold entV
 split
 .refine entF_fit (fun vs=>?_) _ _
  unfold entG
  split
  .exact sObj_fit hd hl hp _ _
  .exact zVal_fit
 .exact zVal_fit
theorem fField_ok (t:Dfn) (hl:t.fields.length≤1000000000000) (n:ByteArray) (hp:CH) (m:Nat):MeetsF Tryz.prog 95 hp m [dfx t,.s n] (resF (findF t.fields n)):=by
 obtain ⟨l,hle⟩:∃l,t.fields=l:=⟨_,rfl⟩
 rw [hle] at hl ⊢
 obtain ⟨R,hR⟩:∃R,findF l n=R:=⟨_,rfl⟩
 rw [hR,resF]
 show MeetsF Tryz.prog 95 hp m [.ag [.i .i64 t.k,.s t.n,.ds t.impl,.ds t.dirs,.ds (mapC fldC t.fields),.ds t.members,.ds t.inputs],.s n] _
 rw [hle]
 refine meetsF Tryz.func95 (by kernel_rfl) cc95 cr95 rfl fun hf=>?_;unfold ck95
 simp only [go_sem,↓reduceIte,Za,Zb,Zc,Zd,Ze,reduceCtorEq,Zf,Zg,Zh,Zi,Zj,Zk]
 refine loop (fun p:Nat × Nat=>⟨[(1,.s n),(4,.bx (m+1) 0),(9,.ds (mapC fldC l)),(10,.i .i64 l.length),(11,.i .i64 p.1)],(m+1,.bx [.s ⟨#[]⟩,.e0,.s ⟨#[]⟩,.e0,.e0])::hp,p.2⟩)
  (fun p=>p.1≤l.length∧m+2≤p.2∧R=findF (l.drop p.1) n) (fun p=>l.length - p.1) (0,m+2) ?_ ?_ (fun ⟨j,k⟩ hj=>?_)
 .exact ⟨by simp,by simp,hR.symm⟩
 .refine weak_ok ?_ (Sub.cons ?_ (Sub.base hf ?_)) (zna _)
  all_goals (simp (disch:=omega) only [ite_ne,go_sem,↓reduceIte,Za,Zb,Zc,Zd,Ze,reduceCtorEq,Zf,Zg,Zh,Zi,Zj,Zk])
 dsimp only at hj
 obtain ⟨hj1,hj2,hj3⟩:=hj
 simp (disch:=omega) only [ite_ne,go_sem,↓reduceIte,Za,Zb,Zc,Zd,Ze,reduceCtorEq,Zf,Zg,Zh,Zi,Zj,Zk]
 refine cdK_of (fun q=>?_) (fun q=>?_)
 .have q:j<l.length:=by simpa using q
  obtain ⟨y,et⟩:∃y,l[j]?=some y:=⟨l[j],by simp [q]⟩
  rw [drop_at et,findF_cons] at hj3
  have hmk:m≤k:=by omega
  simp (disch:=omega) only [ite_ne,q,getK_s (mapC_get fldC et),go_sem,↓reduceIte,Za,Zb,Zc,Zd,Ze,reduceCtorEq,Zf,Zg,Zh,Zi,Zj,Zk]
  refine cdK_of (fun c=>?_) (fun c=>?_)
  .have c:y.n=n:=by simpa using c
   rw [if_pos c] at hj3
   subst hj3
   simp (disch:=omega) only [ite_ne,hmk,go_sem,↓reduceIte,Za,Zb,Zc,Zd,Ze,reduceCtorEq,Zf,Zg,Zh,Zi,Zj,Zk]
  .have c:¬y.n=n:=by simpa using c
   rw [if_neg c] at hj3
   simp (disch:=omega) only [ite_ne,go_sem,↓reduceIte,Za,Zb,Zc,Zd,Ze,reduceCtorEq,Zf,Zg,Zh,Zi,Zj,Zk]
   refine ⟨(j+1,_),⟨by dsimp only;omega,by dsimp only;omega,hj3⟩,by dsimp only;omega,weak_ok ?_ (Sub.cons ?_ (Sub.base hf ?_)) (zna _)⟩
   all_goals
    simp (disch:=omega) only [ite_ne,wr64s j (by omega),hmk,go_sem,↓reduceIte,Za,Zb,Zc,Zd,Ze,reduceCtorEq,Zf,Zg,Zh,Zi,Zj,Zk]
 .have q:j=l.length:=by simp at q;omega
  subst q
  rw [zll] at hj3
  have hj3:R=none:=hj3
  subst hj3
  simp (disch:=omega) only [ite_ne,go_sem,↓reduceIte,Za,Zb,Zc,Zd,Ze,reduceCtorEq,Zf,Zg,Zh,Zi,Zj,Zk]
  rfl
theorem rField_ok (t:Dfn) (hl:t.fields.length≤1000000000000) (n:ByteArray) (hp:CH) (m:Nat):MeetsF Tryz.prog 112 hp m [dfx t,.s n] (resF (findF t.fields n)):=by
 obtain ⟨l,hle⟩:∃l,t.fields=l:=⟨_,rfl⟩
 rw [hle] at hl ⊢
 obtain ⟨R,hR⟩:∃R,findF l n=R:=⟨_,rfl⟩
 rw [hR,resF]
 show MeetsF Tryz.prog 112 hp m [.ag [.i .i64 t.k,.s t.n,.ds t.impl,.ds t.dirs,.ds (mapC fldC t.fields),.ds t.members,.ds t.inputs],.s n] _
 rw [hle]
 refine meetsF Tryz.func112 (by kernel_rfl) cc112 cr112 rfl fun hf=>?_;unfold ck112
 simp only [go_sem,↓reduceIte,Za,Zb,Zc,Zd,Ze,reduceCtorEq,Zf,Zg,Zh,Zi,Zj,Zk]
 refine loop (fun p:Nat × Nat=>⟨[(1,.s n),(2,.bx m 0),(4,.bx (m+1) 0),(6,.i .i64 p.1)],(m,.bx [.i .i64 t.k,.s t.n,.ds t.impl,.ds t.dirs,.ds (mapC fldC l),.ds t.members,.ds t.inputs])::(m+1,.bx [.s ⟨#[]⟩,.e0,.s ⟨#[]⟩,.e0,.e0])::hp,p.2⟩)
  (fun p=>p.1≤l.length∧m+2≤p.2∧R=findF (l.drop p.1) n) (fun p=>l.length - p.1) (0,m+2) ?_ ?_ (fun ⟨j,k⟩ hj=>?_)
 .exact ⟨by simp,by simp,hR.symm⟩
 .refine weak_ok ?_ (Sub.cons ?_ (Sub.cons ?_ (Sub.base hf ?_))) (zna _)
  all_goals (simp (disch:=omega) only [ite_ne,go_sem,↓reduceIte,Za,Zb,Zc,Zd,Ze,reduceCtorEq,Zf,Zg,Zh,Zi,Zj,Zk])
 dsimp only at hj
 obtain ⟨hj1,hj2,hj3⟩:=hj
 simp (disch:=omega) only [ite_ne,go_sem,↓reduceIte,Za,Zb,Zc,Zd,Ze,reduceCtorEq,Zf,Zg,Zh,Zi,Zj,Zk]
 refine cdK_of (fun q=>?_) (fun q=>?_)
 .have q:j<l.length:=by simpa using q
  obtain ⟨y,et⟩:∃y,l[j]?=some y:=⟨l[j],by simp [q]⟩
  rw [drop_at et,findF_cons] at hj3
  have hmk:m≤k:=by omega
  simp (disch:=omega) only [ite_ne,q,getK_s (mapC_get fldC et),go_sem,↓reduceIte,Za,Zb,Zc,Zd,Ze,reduceCtorEq,Zf,Zg,Zh,Zi,Zj,Zk]
  refine cdK_of (fun c=>?_) (fun c=>?_)
  .have c:y.n=n:=by simpa using c
   rw [if_pos c] at hj3
   subst hj3
   simp (disch:=omega) only [ite_ne,hmk,q,getK_s (mapC_get fldC et),go_sem,↓reduceIte,Za,Zb,Zc,Zd,Ze,reduceCtorEq,Zf,Zg,Zh,Zi,Zj,Zk]
  .have c:¬y.n=n:=by simpa using c
   rw [if_neg c] at hj3
   simp (disch:=omega) only [ite_ne,go_sem,↓reduceIte,Za,Zb,Zc,Zd,Ze,reduceCtorEq,Zf,Zg,Zh,Zi,Zj,Zk]
   refine ⟨(j+1,_),⟨by dsimp only;omega,by dsimp only;omega,hj3⟩,by dsimp only;omega,weak_ok ?_ (Sub.cons ?_ (Sub.cons ?_ (Sub.base hf ?_))) (zna _)⟩
   all_goals
    simp (disch:=omega) only [ite_ne,wr64s j (by omega),hmk,go_sem,↓reduceIte,Za,Zb,Zc,Zd,Ze,reduceCtorEq,Zf,Zg,Zh,Zi,Zj,Zk]
 .have q:j=l.length:=by simp at q;omega
  subst q
  rw [zll] at hj3
  have hj3:R=none:=hj3
  subst hj3
  simp (disch:=omega) only [ite_ne,go_sem,↓reduceIte,Za,Zb,Zc,Zd,Ze,reduceCtorEq,Zf,Zg,Zh,Zi,Zj,Zk]
  rfl
theorem tNeeds_ok (s:Sup) (hs:SOk s) (t f:ByteArray) (hp:CH) (m:Nat):MeetsF Tryz.prog 98 hp m [supx s,.s t,.s f] (.ds (stC (reqJ s.joins t f))):=by
 have hjl:=hs.j
 have hrl:=reqJ_len hs.r t f
 obtain ⟨R,hR⟩:∃R,reqJ s.joins t f=R:=⟨_,rfl⟩
 rw [hR] at hrl ⊢
 have hcl:=clone_ok R (by omega)
 refine meetsF Tryz.func98 (by kernel_rfl) cc98 cr98 rfl fun hf=>?_;unfold ck98
 simp only [go_sem,↓reduceIte,Za,Zb,Zc,Zd,Ze,reduceCtorEq,Zf,Zg,Zh,Zi,Zj,Zk]
 refine loop (fun q:Nat × Nat=>⟨[(1,.s t),(2,.s f),(10,.ds (mapC jnC s.joins)),(11,.i .i64 s.joins.length),(12,.i .i64 q.1)],(m,.bx [.ds (stC s.g),.ds (mapC dfC s.doc),.ds (mapC kyC s.keys),.ds (mapC jnC s.joins)])::hp,q.2⟩)
  (fun q=>q.1≤s.joins.length∧m+1≤q.2∧R=reqJ (s.joins.drop q.1) t f) (fun q=>s.joins.length - q.1) (0,m+1) ?_ ?_ (fun ⟨j,n⟩ hj=>?_)
 .exact ⟨by simp,by simp,hR.symm⟩
 .refine weak_ok ?_ (Sub.cons ?_ (Sub.base hf ?_)) (zna _)
  all_goals (simp (disch:=omega) only [ite_ne,go_sem,↓reduceIte,Za,Zb,Zc,Zd,Ze,reduceCtorEq,Zf,Zg,Zh,Zi,Zj,Zk])
 dsimp only at hj
 obtain ⟨hj1,hj2,hj3⟩:=hj
 have hmn:m≤n:=by omega
 simp (disch:=omega) only [ite_ne,go_sem,↓reduceIte,Za,Zb,Zc,Zd,Ze,reduceCtorEq,Zf,Zg,Zh,Zi,Zj,Zk]
 refine cdK_of (fun q=>?_) (fun q=>?_)
 .have q:j<s.joins.length:=by simpa using q
  obtain ⟨y,ey⟩:∃y,s.joins[j]?=some y:=⟨s.joins[j],by simp [q]⟩
  rw [drop_at ey,reqJ_cons] at hj3
  simp (disch:=omega) only [ite_ne,q,getK_s (mapC_get jnC ey),go_sem,↓reduceIte,Za,Zb,Zc,Zd,Ze,reduceCtorEq,Zf,Zg,Zh,Zi,Zj,Zk]
  refine cdK_of (fun c=>?_) (fun c=>?_)
  .have c:y.t=t∧y.f=f∧0<y.req.length:=by
    simp only [Bool.and_eq_true,decide_eq_true_eq] at c
    exact ⟨c.1.1,c.1.2,by omega⟩
   rw [if_pos c] at hj3
   subst hj3
   simp (disch:=omega) only [ite_ne,go_sem,↓reduceIte,Za,Zb,Zc,Zd,Ze,reduceCtorEq,Zf,Zg,Zh,Zi,Zj,Zk]
   refine vcCall.f (hcl _ _) ?_
   simp (disch:=omega) only [ite_ne,hmn,go_sem,↓reduceIte,Za,Zb,Zc,Zd,Ze,reduceCtorEq,Zf,Zg,Zh,Zi,Zj,Zk]
  .have c:¬(y.t=t∧y.f=f∧0<y.req.length):=by
    rintro ⟨c1,c2,c3⟩
    rw [Bool.eq_false_iff] at c
    exact c (by simp only [Bool.and_eq_true,decide_eq_true_eq];exact ⟨⟨c1,c2⟩,by omega⟩)
   rw [if_neg c] at hj3
   simp (disch:=omega) only [ite_ne,go_sem,↓reduceIte,Za,Zb,Zc,Zd,Ze,reduceCtorEq,Zf,Zg,Zh,Zi,Zj,Zk]
   refine ⟨(j+1,_),⟨by dsimp only;omega,by dsimp only;omega,hj3⟩,by dsimp only;omega,weak_ok ?_ (Sub.cons ?_ (Sub.base hf ?_)) (zna _)⟩
   all_goals
    simp (disch:=omega) only [ite_ne,wr64s j (by omega),hmn,go_sem,↓reduceIte,Za,Zb,Zc,Zd,Ze,reduceCtorEq,Zf,Zg,Zh,Zi,Zj,Zk]
 .have q:j=s.joins.length:=by simp at q;omega
  subst q
  rw [zll] at hj3
  have hj3:R=[]:=hj3
  subst hj3
  simp (disch:=omega) only [ite_ne,hmn,go_sem,↓reduceIte,Za,Zb,Zc,Zd,Ze,reduceCtorEq,Zf,Zg,Zh,Zi,Zj,Zk]
theorem rNeeds_ok (s:Sup) (hs:SOk s) (t f:ByteArray) (hp:CH) (m:Nat):MeetsF Tryz.prog 20 hp m [supx s,.s t,.s f] (.ds (stC (reqJ s.joins t f))):=by
 have hjl:=hs.j
 have hrl:=reqJ_len hs.r t f
 obtain ⟨R,hR⟩:∃R,reqJ s.joins t f=R:=⟨_,rfl⟩
 rw [hR] at hrl ⊢
 have hcl:=clone_ok R (by omega)
 refine meetsF Tryz.func20 (by kernel_rfl) cc20 cr20 rfl fun hf=>?_;unfold ck20
 simp only [go_sem,↓reduceIte,Za,Zb,Zc,Zd,Ze,reduceCtorEq,Zf,Zg,Zh,Zi,Zj,Zk]
 refine loop (fun q:Nat × Nat=>⟨[(1,.s t),(2,.s f),(3,.bx m 0),(7,.i .i64 q.1)],(m,.bx [.ds (stC s.g),.ds (mapC dfC s.doc),.ds (mapC kyC s.keys),.ds (mapC jnC s.joins)])::hp,q.2⟩)
  (fun q=>q.1≤s.joins.length∧m+1≤q.2∧R=reqJ (s.joins.drop q.1) t f) (fun q=>s.joins.length - q.1) (0,m+1) ?_ ?_ (fun ⟨j,n⟩ hj=>?_)
 .exact ⟨by simp,by simp,hR.symm⟩
 .refine weak_ok ?_ (Sub.cons ?_ (Sub.base hf ?_)) (zna _)
  all_goals (simp (disch:=omega) only [ite_ne,go_sem,↓reduceIte,Za,Zb,Zc,Zd,Ze,reduceCtorEq,Zf,Zg,Zh,Zi,Zj,Zk])
 dsimp only at hj
 obtain ⟨hj1,hj2,hj3⟩:=hj
 have hmn:m≤n:=by omega
 simp (disch:=omega) only [ite_ne,go_sem,↓reduceIte,Za,Zb,Zc,Zd,Ze,reduceCtorEq,Zf,Zg,Zh,Zi,Zj,Zk]
 refine cdK_of (fun q=>?_) (fun q=>?_)
 .have q:j<s.joins.length:=by simpa using q
  obtain ⟨y,ey⟩:∃y,s.joins[j]?=some y:=⟨s.joins[j],by simp [q]⟩
  rw [drop_at ey,reqJ_cons] at hj3
  simp (disch:=omega) only [ite_ne,q,getK_s (mapC_get jnC ey),go_sem,↓reduceIte,Za,Zb,Zc,Zd,Ze,reduceCtorEq,Zf,Zg,Zh,Zi,Zj,Zk]
  refine cdK_of (fun c=>?_) (fun c=>?_)
  .have c:y.t=t∧y.f=f∧0<y.req.length:=by
    simp only [Bool.and_eq_true,decide_eq_true_eq] at c
    exact ⟨c.1.1,c.1.2,by omega⟩
   rw [if_pos c] at hj3
   subst hj3
   simp (disch:=omega) only [ite_ne,go_sem,↓reduceIte,Za,Zb,Zc,Zd,Ze,reduceCtorEq,Zf,Zg,Zh,Zi,Zj,Zk]
   try rfl
  .have c:¬(y.t=t∧y.f=f∧0<y.req.length):=by
    rintro ⟨c1,c2,c3⟩
    rw [Bool.eq_false_iff] at c
    exact c (by simp only [Bool.and_eq_true,decide_eq_true_eq];exact ⟨⟨c1,c2⟩,by omega⟩)
   rw [if_neg c] at hj3
   simp (disch:=omega) only [ite_ne,go_sem,↓reduceIte,Za,Zb,Zc,Zd,Ze,reduceCtorEq,Zf,Zg,Zh,Zi,Zj,Zk]
   refine ⟨(j+1,_),⟨by dsimp only;omega,by dsimp only;omega,hj3⟩,by dsimp only;omega,weak_ok ?_ (Sub.cons ?_ (Sub.base hf ?_)) (zna _)⟩
   all_goals
    simp (disch:=omega) only [ite_ne,wr64s j (by omega),hmn,go_sem,↓reduceIte,Za,Zb,Zc,Zd,Ze,reduceCtorEq,Zf,Zg,Zh,Zi,Zj,Zk]
 .have q:j=s.joins.length:=by simp at q;omega
  subst q
  rw [zll] at hj3
  have hj3:R=[]:=hj3
  subst hj3
  simp (disch:=omega) only [ite_ne,hmn,go_sem,↓reduceIte,Za,Zb,Zc,Zd,Ze,reduceCtorEq,Zf,Zg,Zh,Zi,Zj,Zk]
end Go.Proofs.YtinbodeocoeneaaGreatDoor
