/- Proof. Conditions: none. -/
import Derived.Test.YthiifoleopdieaaGreatDoorCards
import Derived.Test.YthiifoleopdieaaGreatDoorTie
import Derived.ProofKit
import Derived.OpenShut
import Derived.Deep.DeepHandedRow
import Derived.Lib.LaidTab
import Derived.Test.YthiifoleopdieaaGreatDoorIw52
open Nat renaming reduceEqDiff→Za,reduceBEq→Zb,reduceAdd→Zc,reduceLeDiff→Zd,reduceLT→Ze,reduceMul→Zf,reduceSub→Zg
open Int renaming reduceEq→Zh,reduceLT→Zi,reduceLE→Zj,reduceToNat→Zk
open List renaming getElem?_eq_some_iff→zlb,flatten_cons→zlt
namespace Go.Proofs.YthiifoleopdieaaGreatDoor
open Go.Eng
open Go.ChangeShapes Go.WideShapes Go.ChangeAt Go.RowKit
set_option linter.all false
theorem tab_third {P:Program} {W:World} {x y:String × DataW Unit} {name:String} {k:IntKind} {zs:List Int} {g:Nat} {t e:TypeId} {n:Nat}
  (hg:P.globalNamed name=some g) (hty:(P.globals[g]?).map (·.type)=some t) (ht:P.underlying t=some (.array n e)) (he:P.underlying e=some (.int k)) (hce:P.cellsOf e=1) (hct:P.cellsOf t=n)
  (h:laidMet P [x,y,(name,Lib.tabData k zs)] W):∃t fr,W.heap[g]?=some (.cells (zs.map fun z=>Value.int k z).toArray t fr):=by
 obtain ⟨ps,⟨g1,t1,c1,f1,p1,q1,a1,a2,a3,a4,⟨g2,t2,c2,f2,p2,q2,b1,b2,b3,b4,hz,e2⟩,e1⟩,hnd,hrows⟩:=h
 have hs:q2.Sublist ps:=by
  rw [e1,e2]
  exact (List.sublist_append_right _ _).trans (List.sublist_append_right _ _)
 have ht':Lib.TabIs P W name k zs:=Lib.tabIs_of_head (rest:=[]) hg hty ht he hce hct ⟨q2,hz,hnd.sublist hs,fun b off hp=>hrows b off (hs.subset hp)⟩
 unfold Lib.TabIs World.var? at ht'
 rw [hg] at ht'
 simp only [Option.bind_some] at ht'
 split at ht'
 .rename_i cs t fr hh
  cases ht'
  exact ⟨t,fr,hh⟩
 .cases ht'
theorem pow10_laid {w:World} (h:laidMetH Tryz.prog Rows.idealArgsUptoRow.laid w):∀b vs,(b,vs)∈glTab→∃t fr,w.heap[b]?=some (.cells vs t fr):=by
 intro b vs hb
 simp only [glTab,List.mem_singleton,Prod.mk.injEq] at hb
 obtain ⟨rfl,rfl⟩:=hb
 exact tab_third (t:=222) (e:=192) (n:=20) (by kernel_rfl) (by kernel_rfl) (by kernel_rfl) (by kernel_rfl) (by kernel_rfl) (by kernel_rfl) h
noncomputable def valsOf:DataW Unit→Array Value
 | .agg l=>(l.map fun x=>match x with | .lit (.int k z)=>Value.int k z | _=>Value.int .i64 0).toArray
 | _=>#[]
def setTab (vs:Array Value):Obj→Obj
 | .cells _ t fr=>.cells vs t fr
 | o=>o
noncomputable def laidWorld (os:Os):World :=
 { World.holding Tryz.prog os ⟨#[],#[],[]⟩ with heap:=(((World.holding Tryz.prog os ⟨#[],#[],[]⟩).heap.modify 1 (setTab (valsOf Rows.laid_internal_strconv_uint64pow10))).modify 2 (setTab (valsOf Rows.laid_math_bits_deBruijn32tab))).modify 3 (setTab (valsOf Rows.laid_math_bits_deBruijn64tab)) }
abbrev case0:Value:=.agg #[.slice none 0 0,.slice none 0 0,.slice none 0 0,.slice none 0 0,.slice none 0 0,.slice none 0 0,.int .i64 0,.slice none 0 0]
set_option maxRecDepth 100000 in
theorem laid_met (os:Os) (vs:Array Value):laidMet Tryz.prog Rows.idealArgsUptoRow.laid ((laidWorld os).forCall (fun _ _=>0) ⟨#[],vs,[]⟩).memory :=
 laidMet_of_run' 8 (by kernel_rfl) (by kernel_rfl)
theorem mapC_ofQ {β:Type} {c:β→List AV} {Q:β→Prop}:∀{l:List (List AV)},(∀x∈l,∃y,x=c y∧Q y)→∃m:List β,l=mapC c m∧∀y∈m,Q y
 | [],_=>⟨[],rfl,by simp⟩
 | x::l,h=>by
  obtain ⟨y,rfl,hy⟩:=h x (by simp)
  obtain ⟨m,e,hl⟩:=mapC_ofQ (c:=c) (Q:=Q) (l:=l) fun z hz=>h z (by simp [hz])
  refine ⟨y::m,by rw [mapC_cons,←e],fun z hz=>?_⟩
  rcases List.mem_cons.1 hz with rfl | hz
  .exact hy
  .exact hl z hz
theorem wf64 {n:Int} (h:(Lit.int .i64 n).wf=true):-9223372036854775808≤n∧n≤9223372036854775807:=by
 simp only [Lit.wf,Bool.and_eq_true,decide_eq_true_eq] at h
 exact h
theorem val_rng (v:Val):Shp Tryz.prog 52 (valC v)→v.Rng:=by
 refine Val.ind (Q:=fun v=>Shp Tryz.prog 52 (valC v)→v.Rng) (fun v ih h=>?_) v
 rw [valC_eq] at h
 obtain ⟨parts,e0,hl,hp⟩:=shp_struct Tryz.underlying52 h
 obtain ⟨a,b,c,d,e,rfl⟩:=ds_n5 (show parts.length=5 from hl)
 obtain ⟨a,rfl,_⟩:=shp_int Tryz.underlying3 (hp 0 _ a rfl rfl)
 obtain ⟨b,rfl,hb⟩:=shp_int Tryz.underlying3 (hp 1 _ b rfl rfl)
 obtain ⟨c,rfl,_⟩:=shp_string Tryz.underlying9 (hp 2 _ c rfl rfl)
 obtain ⟨l,rfl,_,hx⟩:=shp_slice Tryz.underlying50 (hp 3 _ d rfl rfl)
 obtain ⟨k,rfl,_,hy⟩:=shp_slice Tryz.underlying22 (hp 4 _ e rfl rfl)
 simp only [zlt,List.flatten_nil,List.cons_append,List.nil_append,List.cons.injEq,AV.i.injEq,AV.ds.injEq,true_and,and_true] at e0
 obtain ⟨_,e1,_,e2,_⟩:=e0
 have:=wf64 hb
 refine .mk v (by omega) (by omega) fun x hx'=>ih x hx' (hx _ ?_)
 rw [←e2]
 exact List.mem_map_of_mem (f:=valC) hx'
theorem shp_valQ {L:List AV} (h:Shp Tryz.prog 52 L) (hb:avL L≤1048576):∃v:Val,L=valC v∧VSm v:=by
 obtain ⟨v,rfl⟩:=shp_val h
 have:=valC_av v
 exact ⟨v,rfl,⟨wtV_fit v (by omega),val_rng v h,hb⟩⟩
theorem avL_app:∀a b:List AV,avL (a++b)=avL a+avL b
 | [],b=>by simp [avL]
 | x::a,b=>by rw [List.cons_append,avL,avL,avL_app a b];omega
theorem shp_celQ {L:List AV} (h:Shp Tryz.prog 65 L) (hb:avL L≤1048576):∃x:Cel,L=celC x∧VSm x.v:=by
 obtain ⟨parts,rfl,hl,hp⟩:=shp_struct Tryz.underlying65 h
 obtain ⟨a,b,c,rfl⟩:=ds_n3 (show parts.length=3 from hl)
 obtain ⟨a,rfl,_⟩:=shp_string Tryz.underlying9 (hp 0 _ a rfl rfl)
 obtain ⟨b,rfl,_⟩:=shp_string Tryz.underlying9 (hp 1 _ b rfl rfl)
 simp only [zlt,List.flatten_nil,avL_app,avL] at hb
 obtain ⟨v,rfl,hv⟩:=shp_valQ (hp 2 _ c rfl rfl) (by omega)
 refine ⟨.mk a b v,?_,hv⟩
 rw [valC_eq]
 rfl
theorem celC_one (c:Cel):1≤avL (celC c):=by have:=celC_av c;omega
theorem shp_itmQ {L:List AV} (h:Shp Tryz.prog 70 L) (hb:avL L≤1048576):∃x:Itm,L=itC x∧(∀c∈x.l,VSm c.v)∧x.l.length≤1048576:=by
 obtain ⟨parts,rfl,hl,hp⟩:=shp_struct Tryz.underlying70 h
 obtain ⟨a,b,rfl⟩:=ds_n2 (show parts.length=2 from hl)
 obtain ⟨a,rfl,_⟩:=shp_string Tryz.underlying9 (hp 0 _ a rfl rfl)
 obtain ⟨l,rfl,_,hx⟩:=shp_slice Tryz.underlying68 (hp 1 _ b rfl rfl)
 simp only [zlt,List.flatten_nil,avL_app,avL,avw] at hb
 obtain ⟨cs,rfl,hq⟩:=mapC_ofQ (c:=celC) (Q:=fun c=>VSm c.v) fun x h=>shp_celQ (hx x h) (by have:=avLL_mem h;omega)
 have:=mapC_len_le celC_one cs
 exact ⟨.mk a cs,rfl,hq,by simp only [Itm.l_mk];omega⟩
theorem shp_wriQ {L:List AV} (h:Shp Tryz.prog 72 L) (hb:avL L≤1048576):∃x:Wri,L=wrC x∧VSm x.c.v:=by
 obtain ⟨parts,rfl,hl,hp⟩:=shp_struct Tryz.underlying72 h
 obtain ⟨a,b,c,d,rfl⟩:=ds_n4 (show parts.length=4 from hl)
 obtain ⟨a,rfl,_⟩:=shp_string Tryz.underlying9 (hp 0 _ a rfl rfl)
 obtain ⟨b,rfl,_⟩:=shp_string Tryz.underlying9 (hp 1 _ b rfl rfl)
 obtain ⟨c,rfl,_⟩:=shp_int Tryz.underlying3 (hp 2 _ c rfl rfl)
 simp only [zlt,List.flatten_nil,avL_app,avL,avw] at hb
 obtain ⟨x,rfl,hx⟩:=shp_celQ (hp 3 _ d rfl rfl) (by omega)
 exact ⟨.mk a b c x,rfl,hx⟩
theorem shp_datQ {L:List AV} (h:Shp Tryz.prog 33 L) (hb:avL L≤1048576):∃d:Dat,L=[.ds (mapC itC d.i),.ds (mapC wrC d.w)]∧DOk d 1048576∧d.w.length≤1048576:=by
 obtain ⟨parts,rfl,hl,hp⟩:=shp_struct Tryz.underlying33 h
 obtain ⟨a,b,rfl⟩:=ds_n2 (show parts.length=2 from hl)
 obtain ⟨l,rfl,_,hx⟩:=shp_slice Tryz.underlying30 (hp 0 _ a rfl rfl)
 obtain ⟨l2,rfl,_,hy⟩:=shp_slice Tryz.underlying31 (hp 1 _ b rfl rfl)
 simp only [zlt,List.flatten_nil,avL_app,avL,avw] at hb
 obtain ⟨is,rfl,hi⟩:=mapC_ofQ (c:=itC) (Q:=fun x=>(∀c∈x.l,VSm c.v)∧x.l.length≤1048576) fun x h=>shp_itmQ (hx x h) (by have:=avLL_mem h;omega)
 obtain ⟨ws,rfl,hw⟩:=mapC_ofQ (c:=wrC) (Q:=fun x=>VSm x.c.v) fun x h=>shp_wriQ (hy x h) (by have:=avLL_mem h;omega)
 have hwl:ws.length≤avLL (mapC wrC ws):=mapC_len_le (fun x=>by simp [wrC,avL,avw];omega) _
 refine ⟨.mk is ws,rfl,⟨⟨dat_fit _ (by simp only [dx,avw,avL,Dat.i_mk,Dat.w_mk];omega),by simp only [Dat.w_mk];omega,fun x hx=>by have:=(hi x hx).2;omega⟩,fun x hx=>(hi x hx).1,hw,fun x hx=>(hi x hx).2⟩,by simp only [Dat.w_mk];omega⟩
theorem shp_argQ {L:List AV} (h:Shp Tryz.prog 75 L) (hb:avL L≤1048576):∃x:Arg,L=argC x∧VSm x.v:=by
 obtain ⟨parts,rfl,hl,hp⟩:=shp_struct Tryz.underlying75 h
 obtain ⟨a,b,rfl⟩:=ds_n2 (show parts.length=2 from hl)
 obtain ⟨a,rfl,_⟩:=shp_string Tryz.underlying9 (hp 0 _ a rfl rfl)
 simp only [zlt,List.flatten_nil,avL_app,avL,avw] at hb
 obtain ⟨v,rfl,hv⟩:=shp_valQ (hp 1 _ b rfl rfl) (by omega)
 refine ⟨.mk a v,?_,hv⟩
 rw [valC_eq]
 rfl
theorem argC_one (a:Arg):1≤avL (argC a):=by simp [argC,avL,avw];omega
theorem pkC_one (p:Pk):1≤avL (pkC p):=by rw [pkC_eq];simp [avL,avw];omega
theorem shp_pkQ {L:List AV} (h:Shp Tryz.prog 47 L) (hb:avL L≤1048576):∃x:Pk,L=pkC x∧x.Ok:=by
 suffices key:∀(n:Nat) (L:List AV),avL L≤n→avL L≤1048576→Shp Tryz.prog 47 L→∃x:Pk,L=pkC x∧x.Ok from key _ L (Nat.le_refl _) hb h
 intro n
 induction n with
 | zero =>
  intro L hn hb h
  obtain ⟨parts,rfl,hl,hp⟩:=shp_struct Tryz.underlying47 h
  match parts,hl,hp,hn with
  | a::r,_,hp,hn =>
   obtain ⟨a,rfl,_⟩:=shp_string Tryz.underlying9 (hp 0 _ a rfl rfl)
   simp [avL,avw] at hn
 | succ n ih =>
  intro L hn hb h
  obtain ⟨parts,rfl,hl,hp⟩:=shp_struct Tryz.underlying47 h
  match parts,hl,hp,hn,hb with
  | [a,b,c,d,e,f,g,i],_,hp,hn,hb =>
   obtain ⟨a,rfl,_⟩:=shp_string Tryz.underlying9 (hp 0 _ a rfl rfl)
   obtain ⟨b,rfl,_⟩:=shp_string Tryz.underlying9 (hp 1 _ b rfl rfl)
   obtain ⟨c,rfl,_⟩:=shp_string Tryz.underlying9 (hp 2 _ c rfl rfl)
   obtain ⟨l,rfl,_,hx⟩:=shp_slice Tryz.underlying42 (hp 3 _ d rfl rfl)
   obtain ⟨ts,rfl,hl2,hp2⟩:=shp_struct Tryz.underlying45 (hp 4 _ e rfl rfl)
   obtain ⟨t,u,rfl⟩:=ds_n2 (show ts.length=2 from hl2)
   obtain ⟨t,rfl,_⟩:=shp_string Tryz.underlying9 (hp2 0 _ t rfl rfl)
   obtain ⟨w,rfl,_,hy⟩:=shp_slice Tryz.underlying43 (hp2 1 _ u rfl rfl)
   obtain ⟨ws,rfl,_⟩:=mapC_of (c:=in1) fun x h=>by
    obtain ⟨n,rfl,_⟩:=shp_int Tryz.underlying3 (hy x h)
    exact ⟨n,rfl⟩
   obtain ⟨f,rfl,_⟩:=shp_string Tryz.underlying9 (hp 5 _ f rfl rfl)
   obtain ⟨g,rfl,_⟩:=shp_int Tryz.underlying3 (hp 6 _ g rfl rfl)
   obtain ⟨p,rfl,_,hz⟩:=shp_slice Tryz.underlying34 (hp 7 _ i rfl rfl)
   simp only [zlt,List.flatten_nil,avL_app,avL,avw] at hb hn
   obtain ⟨al,rfl,ha⟩:=mapC_ofQ (c:=argC) (Q:=fun a=>VSm a.v) fun x h=>shp_argQ (hx x h) (by have:=avLL_mem h;omega)
   obtain ⟨ps,rfl,hps⟩:=mapC_ofQ (c:=pkC) (Q:=fun p=>p.Ok) fun x h=>ih x (by have:=avLL_mem h;omega) (by have:=avLL_mem h;omega) (hz x h)
   have h1:=mapC_len_le argC_one al
   have h2:=mapC_len_le pkC_one ps
   exact ⟨.mk a b c al t ws f g ps,by rw [pkC_eq];rfl,.mk _ ⟨ha,by simp only [Pk.args];omega,by simp only [Pk.args];omega⟩ (by simp only [Pk.picks];omega) hps⟩
theorem shp_strs {l:List (List AV)} (h:∀x∈l,Shp Tryz.prog 9 x):∃m,l=stC m:=by
 obtain ⟨ks,rfl,_⟩:=mapC_of (c:=st1) (l:=l) fun x hx=>by
  obtain ⟨s,rfl,_⟩:=shp_string Tryz.underlying9 (h x hx)
  exact ⟨s,rfl⟩
 exact ⟨ks,rfl⟩
theorem shp_jnQ {L:List AV} (h:Shp Tryz.prog 63 L) (hb:avL L≤1048576):∃x:Jn,L=jnC x∧x.req.length≤1048576:=by
 obtain ⟨parts,rfl,hl,hp⟩:=shp_struct Tryz.underlying63 h
 match parts,hl,hp,hb with
 | [a,b,c,d,e,f],_,hp,hb =>
  obtain ⟨a,rfl,_⟩:=shp_string Tryz.underlying9 (hp 0 _ a rfl rfl)
  obtain ⟨b,rfl,_⟩:=shp_string Tryz.underlying9 (hp 1 _ b rfl rfl)
  obtain ⟨c,rfl,_⟩:=shp_int Tryz.underlying3 (hp 2 _ c rfl rfl)
  obtain ⟨d,rfl⟩:=shp_bool Tryz.underlying4 (hp 3 _ d rfl rfl)
  obtain ⟨l,rfl,_,hx⟩:=shp_slice Tryz.underlying22 (hp 4 _ e rfl rfl)
  obtain ⟨l2,rfl,_,hy⟩:=shp_slice Tryz.underlying22 (hp 5 _ f rfl rfl)
  simp only [zlt,List.flatten_nil,avL_app,avL,avw] at hb
  obtain ⟨r,rfl⟩:=shp_strs hx
  obtain ⟨q,rfl⟩:=shp_strs hy
  have h1:r.length≤avLL (stC r):=mapC_len_le st1_av r
  exact ⟨.mk a b c d r q,rfl,by simp only [Jn.req_mk];omega⟩
theorem shp_kyQ {L:List AV} (h:Shp Tryz.prog 240 L):∃x:Ky,L=kyC x:=by
 obtain ⟨parts,rfl,hl,hp⟩:=shp_struct Tryz.underlying240 h
 obtain ⟨a,b,c,rfl⟩:=ds_n3 (show parts.length=3 from hl)
 obtain ⟨a,rfl,_⟩:=shp_string Tryz.underlying9 (hp 0 _ a rfl rfl)
 obtain ⟨b,rfl,_⟩:=shp_int Tryz.underlying3 (hp 1 _ b rfl rfl)
 obtain ⟨l,rfl,_,hx⟩:=shp_slice Tryz.underlying22 (hp 2 _ c rfl rfl)
 obtain ⟨r,rfl⟩:=shp_strs hx
 exact ⟨.mk a b r,rfl⟩
theorem shp_fldQ {L:List AV} (h:Shp Tryz.prog 147 L):∃x:Fld,L=fldC x:=by
 obtain ⟨parts,rfl,hl,hp⟩:=shp_struct Tryz.underlying147 h
 obtain ⟨a,b,c,d,rfl⟩:=ds_n4 (show parts.length=4 from hl)
 obtain ⟨a,rfl,_⟩:=shp_string Tryz.underlying9 (hp 0 _ a rfl rfl)
 obtain ⟨l,rfl,_,_⟩:=shp_slice Tryz.underlying143 (hp 1 _ b rfl rfl)
 obtain ⟨ts,rfl,hl2,hp2⟩:=shp_struct Tryz.underlying45 (hp 2 _ c rfl rfl)
 obtain ⟨t,u,rfl⟩:=ds_n2 (show ts.length=2 from hl2)
 obtain ⟨t,rfl,_⟩:=shp_string Tryz.underlying9 (hp2 0 _ t rfl rfl)
 obtain ⟨w,rfl,_,_⟩:=shp_slice Tryz.underlying43 (hp2 1 _ u rfl rfl)
 obtain ⟨l2,rfl,_,_⟩:=shp_slice Tryz.underlying140 (hp 3 _ d rfl rfl)
 exact ⟨.mk a l t w l2,rfl⟩
theorem fldC_one (x:Fld):1≤avL (fldC x):=by simp only [fldC,avL,avw];omega
theorem shp_dfnQ {L:List AV} (h:Shp Tryz.prog 145 L) (hb:avL L≤1048576):∃x:Dfn,L=dfC x∧x.fields.length≤1000000000000:=by
 obtain ⟨parts,rfl,hl,hp⟩:=shp_struct Tryz.underlying145 h
 match parts,hl,hp,hb with
 | [a,b,c,d,e,f,g],_,hp,hb =>
  obtain ⟨a,rfl,_⟩:=shp_int Tryz.underlying3 (hp 0 _ a rfl rfl)
  obtain ⟨b,rfl,_⟩:=shp_string Tryz.underlying9 (hp 1 _ b rfl rfl)
  obtain ⟨c,rfl,_,_⟩:=shp_slice Tryz.underlying22 (hp 2 _ c rfl rfl)
  obtain ⟨d,rfl,_,_⟩:=shp_slice Tryz.underlying140 (hp 3 _ d rfl rfl)
  obtain ⟨l,rfl,_,hx⟩:=shp_slice Tryz.underlying141 (hp 4 _ e rfl rfl)
  obtain ⟨f,rfl,_,_⟩:=shp_slice Tryz.underlying142 (hp 5 _ f rfl rfl)
  obtain ⟨g,rfl,_,_⟩:=shp_slice Tryz.underlying143 (hp 6 _ g rfl rfl)
  simp only [zlt,List.flatten_nil,avL_app,avL,avw] at hb
  obtain ⟨fs,rfl,_⟩:=mapC_of (c:=fldC) fun x h=>shp_fldQ (hx x h)
  have h1:=mapC_len_le fldC_one fs
  exact ⟨.mk a b c d fs f g,rfl,by simp only [Dfn.fields_mk];omega⟩
theorem dfC_one (x:Dfn):1≤avL (dfC x):=by simp only [dfC,avL,avw];omega
theorem jnC_one (x:Jn):1≤avL (jnC x):=by simp only [jnC,avL,avw];omega
theorem shp_supQ {L:List AV} (h:Shp Tryz.prog 29 L) (hb:avL L≤1048576) :
  ∃s:Sup,L=[.ds (stC s.g),.ds (mapC dfC s.doc),.ds (mapC kyC s.keys),.ds (mapC jnC s.joins)]∧SOk s∧∀t∈s.doc,t.fields.length≤1000000000000:=by
 obtain ⟨parts,rfl,hl,hp⟩:=shp_struct Tryz.underlying29 h
 obtain ⟨a,b,c,d,rfl⟩:=ds_n4 (show parts.length=4 from hl)
 obtain ⟨a,rfl,_,ha⟩:=shp_slice Tryz.underlying22 (hp 0 _ a rfl rfl)
 obtain ⟨ts,rfl,hl2,hp2⟩:=shp_struct Tryz.underlying25 (hp 1 _ b rfl rfl)
 match ts,hl2,hp2,hb with
 | [t],_,hp2,hb =>
  obtain ⟨t,rfl,_,ht⟩:=shp_slice Tryz.underlying23 (hp2 0 _ t rfl rfl)
  obtain ⟨c,rfl,_,hc⟩:=shp_slice Tryz.underlying26 (hp 2 _ c rfl rfl)
  obtain ⟨d,rfl,_,hd⟩:=shp_slice Tryz.underlying27 (hp 3 _ d rfl rfl)
  simp only [zlt,List.flatten_nil,avL_app,avL,avw] at hb
  obtain ⟨g,rfl⟩:=shp_strs ha
  obtain ⟨doc,rfl,hdoc⟩:=mapC_ofQ (c:=dfC) (Q:=fun t=>t.fields.length≤1000000000000) fun x h=>shp_dfnQ (ht x h) (by have:=avLL_mem h;omega)
  obtain ⟨ks,rfl,_⟩:=mapC_of (c:=kyC) fun x h=>shp_kyQ (hc x h)
  obtain ⟨js,rfl,hjs⟩:=mapC_ofQ (c:=jnC) (Q:=fun j=>j.req.length≤1048576) fun x h=>shp_jnQ (hd x h) (by have:=avLL_mem h;omega)
  have h1:=mapC_len_le dfC_one doc
  have h2:=mapC_len_le jnC_one js
  exact ⟨.mk g doc ks js,rfl,⟨by simp only [Sup.joins_mk];omega,hjs,by simp only [Sup.doc_mk];omega⟩,hdoc⟩
structure COk (S:Sup) (D:Dat) (P:Pln):Prop where
 s:SOk S
 f:∀t∈S.doc,t.fields.length≤1000000000000
 d:DOk D 1048576
 w:D.w.length≤1048576
 l:P.l.length≤1048576
 p:∀x∈P.l,x.Ok
abbrev casex (s:Sup) (d:Dat) (p:Pln):AV:=.ag [.ds (stC s.g),.ds (mapC dfC s.doc),.ds (mapC kyC s.keys),.ds (mapC jnC s.joins),.ds (mapC itC d.i),.ds (mapC wrC d.w),.i .i64 p.k,.ds (mapC pkC p.l)]
theorem reads_case21 {α:AV} (h:AS Tryz.prog 38 α) (hb:avw α≤1048576):∃s d p,α=casex s d p∧COk s d p:=by
 obtain ⟨L,rfl,h2⟩:=as_struct Tryz.underlying38 h
 obtain ⟨parts,rfl,hl,hp⟩:=shp_struct Tryz.underlying38 h2
 obtain ⟨a,b,c,rfl⟩:=ds_n3 (show parts.length=3 from hl)
 simp only [zlt,List.flatten_nil,avL_app,avL,avw] at hb
 obtain ⟨s,rfl,hs,hf⟩:=shp_supQ (hp 0 _ a rfl rfl) (by omega)
 obtain ⟨d,rfl,hd,hw⟩:=shp_datQ (hp 1 _ b rfl rfl) (by omega)
 obtain ⟨ts,rfl,hl2,hp2⟩:=shp_struct Tryz.underlying36 (hp 2 _ c rfl rfl)
 obtain ⟨t,u,rfl⟩:=ds_n2 (show ts.length=2 from hl2)
 obtain ⟨k,rfl,_⟩:=shp_int Tryz.underlying3 (hp2 0 _ t rfl rfl)
 obtain ⟨l,rfl,_,hx⟩:=shp_slice Tryz.underlying34 (hp2 1 _ u rfl rfl)
 simp only [zlt,List.flatten_nil,avL_app,avL,avw] at hb
 obtain ⟨ps,rfl,hps⟩:=mapC_ofQ (c:=pkC) (Q:=fun p=>p.Ok) fun x h=>shp_pkQ (hx x h) (by have:=avLL_mem h;omega)
 have h1:=mapC_len_le pkC_one ps
 exact ⟨s,d,.mk k ps,rfl,⟨hs,hf,hd,hw,by simp only [Pln.l_mk];omega,hps⟩⟩
set_option maxRecDepth 20000
set_option maxHeartbeats 1000000
noncomputable def few21 (s:Sup) (d:Dat) (p:Pln):Bool:=!lgX s d p.l&&(!decide (p.k=2)||(decide ((d.w.length:Int)≤20)&&decide ((p.l.length:Int)≤20)))
theorem few21_ok (s:Sup) (d:Dat) (p:Pln) (c:COk s d p) (hp:CH) (m:Nat):MeetsF Tryz.prog 10 hp m [casex s d p] (.b (few21 s d p)):=by
 have h1:=rLarge_ok s c.s c.f d c.d (by omega) p.l c.l c.p
 rw [few21]
 obtain ⟨x,hx⟩:∃x,lgX s d p.l=x:=⟨_,rfl⟩
 rw [hx] at h1 ⊢
 refine meetsF Tryz.func10 (by kernel_rfl) cc10 cr10 rfl fun hf=>?_;unfold ck10
 simp (disch:=omega) only [ite_ne,go_sem,↓reduceIte,Za,Zb,Zc,Zd,Ze,reduceCtorEq,Zf,Zg,Zh,Zi,Zj,Zk]
 refine vcCall.f (h1 _ _) ?_
 simp (disch:=omega) only [ite_ne,go_sem,↓reduceIte,Za,Zb,Zc,Zd,Ze,reduceCtorEq,Zf,Zg,Zh,Zi,Zj,Zk]
 refine cdK_of (fun q=>?_) (fun q=>?_)
 .have q:x=true:=by simpa using q
  subst q
  simp (disch:=omega) only [ite_ne,go_sem,↓reduceIte,Za,Zb,Zc,Zd,Ze,reduceCtorEq,Zf,Zg,Zh,Zi,Zj,Zk]
 .have q:x=false:=by simpa using q
  subst q
  simp (disch:=omega) only [ite_ne,go_sem,↓reduceIte,Za,Zb,Zc,Zd,Ze,reduceCtorEq,Zf,Zg,Zh,Zi,Zj,Zk]
  try (by_cases hk:p.k=2<;>simp [hk])
set_option maxHeartbeats 2000000
theorem few21_hB {s:Sup} {d:Dat} {p:Pln} (h:few21 s d p=true):p.k=2→1048576+p.l.length*d.w.length≤100000000000:=by
 intro hk
 simp only [few21,hk,decide_true,Bool.not_true,Bool.false_or,Bool.and_eq_true,decide_eq_true_eq] at h
 obtain ⟨_,h1,h2⟩:=h
 have:p.l.length*d.w.length≤20*20:=Nat.mul_le_mul (by omega) (by omega)
 omega
inductive ShpV:Val→List Pk→Prop
 | leaf (v:Val) (l:List Pk):¬v.k=5→¬v.k=6→ShpV v l
 | list (v:Val) (l:List Pk):v.k=5→(∀x∈v.items,ShpV x l)→ShpV v l
 | obj (t:ByteArray) (F:List (ByteArray × Val)) (l:List Pk):F.map (·.1)=(l.filter fun p=>decide (p.on=t)).map Pk.key→(∀(i:Nat) p y,(l.filter fun p=>decide (p.on=t))[i]?=some p→F[i]?=some y→ShpV y.2 p.picks)→ShpV (objV t F) l
theorem shp_tx (t:ByteArray) (l:List Pk):ShpV (txV t) l:=.leaf _ _ (by simp [txV,Val.k_mk]) (by simp [txV,Val.k_mk])
theorem shp_z (l:List Pk):ShpV zVal l:=.leaf _ _ (by simp [zVal,Val.k_mk]) (by simp [zVal,Val.k_mk])
theorem shp_fail (t:ByteArray) (l:List Pk):ShpV (failV t) l:=.leaf _ _ (by simp [failV,Val.k_mk]) (by simp [failV,Val.k_mk])
theorem rawW_shp {d:Dat} {comp:Bool} {ob:Int→Val} {l:List Pk} (hob:∀i,ShpV (ob i) l) (v:Val):ShpV (rawW d comp ob v) l:=by
 refine Val.ind (Q:=fun v=>ShpV (rawW d comp ob v) l) (fun v ih=>?_) v
 rw [rawW_eq]
 split
 .rename_i h
  exact .leaf _ _ (by omega) (by omega)
 .split
  .refine .list _ _ (by simp [listV,Val.k_mk]) fun x hx=>?_
   simp only [listV,Val.items_mk,List.mem_map] at hx
   obtain ⟨y,hy,rfl⟩:=hx
   exact ih y hy
  .split
   .exact shp_fail _ _
   .repeat' split
    all_goals first | exact hob _ | exact shp_fail _ _ | exact shp_z _
theorem objectV_shp' {s:Sup} {d:Dat} {l:List Pk} (h:∀p∈l,∀i,ShpV (pickV s d p i) p.picks) (i:Int):ShpV (objectV s d l i) l:=by
 unfold objectV
 split
 .rw [fieldsV_eq]
  refine .obj _ _ l (by rw [List.map_map];rfl) fun k p y hp hy=>?_
  rw [List.getElem?_map,hp] at hy
  simp only [Option.map_some,Option.some.injEq] at hy
  subst hy
  exact h p ((List.mem_filter.1 (List.mem_of_getElem? hp)).1) i
 .exact shp_z _
theorem pickV_shp (s:Sup) (d:Dat) (p:Pk) (i:Int):ShpV (pickV s d p i) p.picks:=by
 revert i
 refine Pk.ind (Q:=fun p=>∀i,ShpV (pickV s d p i) p.picks) (fun p ih i=>?_) p
 rw [pickV_eq,pickW]
 split
 .exact shp_tx _ _
 .split
  .exact shp_fail _ _
  .exact rawW_shp (fun i=>objectV_shp' (fun x hx i=>ih x hx i) i) _
theorem rootP_shp (s:Sup) (root:ByteArray) (d:Dat) (x:Pk):ShpV (rootP s root d x) x.picks:=by
 unfold rootP
 split
 .exact pickV_shp s d x _
 .split
  .exact shp_tx _ _
  .exact shp_z _
theorem runL_shape (s:Sup) (mu:Bool) (root:ByteArray):∀(l:List Pk) (a:List (ByteArray × Val) × Dat),∃F:List (ByteArray × Val),(l.foldl (runS s mu root) a).1=a.1++F∧F.map (·.1)=((l.filter fun p=>decide (p.on=root)).map Pk.key) ∧
  ∀(i:Nat) p y,(l.filter fun p=>decide (p.on=root))[i]?=some p→F[i]?=some y→ShpV y.2 p.picks
 | [],a=>⟨[],by simp,by simp,by simp⟩
 | x::l,a=>by
  obtain ⟨F,h1,h2,h3⟩:=runL_shape s mu root l (runS s mu root a x)
  by_cases c:x.on=root
  .refine ⟨(x.key,rootP s root (rootD s mu root a.2 x) x)::F,?_,?_,fun i p y hp hy=>?_⟩
   .rw [List.foldl_cons,h1,runS,if_pos c]
    simp
   .rw [List.filter_cons_of_pos (by simp [c]),List.map_cons,List.map_cons,h2]
   .rw [List.filter_cons_of_pos (by simp [c])] at hp
    cases i with
    | zero =>
     simp only [List.getElem?_cons_zero,Option.some.injEq] at hp hy
     subst hp
     subst hy
     exact rootP_shp _ _ _ _
    | succ i=>exact h3 i p y (by simpa using hp) (by simpa using hy)
  .refine ⟨F,?_,?_,?_⟩
   .rw [List.foldl_cons,h1,runS,if_neg c]
   .rw [List.filter_cons_of_neg (by simp [c])];exact h2
   .rw [List.filter_cons_of_neg (by simp [c])];exact h3
theorem runV_shp (s:Sup) (d:Dat) (p:Pln):ShpV (runV s d p).1 p.l:=by
 obtain ⟨F,h1,h2,h3⟩:=runL_shape s (decide (p.k=2)) (rootS p.k) p.l ([],d)
 have e:(runV s d p).1=objV (rootS p.k) F:=by
  rw [runV]
  unfold runL
  dsimp only
  rw [h1]
  rfl
 rw [e]
 exact .obj _ F _ h2 h3
theorem filt_at {α:Type} {q:α→Bool} {l:List α} {j:Nat} {x:α} (h:l[j]?=some x) (hx:q x=true):(l.filter q)[((l.take j).filter q).length]?=some x:=by
 have hj:j<l.length:=(zlb.1 h).1
 have e:l=l.take j++x::l.drop (j+1):=by
  have:=List.getElem_of_getElem? h
  obtain ⟨_,hx'⟩:=zlb.1 h
  rw [←hx',←List.drop_eq_getElem_cons hj,List.take_append_drop]
 have e2:l.filter q=(l.take j).filter q++x::(l.drop (j+1)).filter q:=by
  conv=>lhs;rw [e]
  rw [List.filter_append,List.filter_cons_of_pos hx]
 rw [e2,List.getElem?_append_right (Nat.le_refl _),Nat.sub_self]
 rfl
theorem filt_step {α:Type} {q:α→Bool} {l:List α} {j:Nat} {x:α} (h:l[j]?=some x):((l.take (j+1)).filter q).length=((l.take j).filter q).length+if q x=true then 1 else 0:=by
 rw [←take_snoc h,List.filter_append,List.length_append]
 congr 1
 split
 .rename_i c;rw [List.filter_cons_of_pos c];rfl
 .rename_i c;rw [List.filter_cons_of_neg c];rfl
end Go.Proofs.YthiifoleopdieaaGreatDoor
