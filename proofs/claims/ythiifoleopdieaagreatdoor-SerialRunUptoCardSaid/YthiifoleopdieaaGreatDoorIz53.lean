/- Proof. Conditions: none. -/
import Derived.Test.YthiifoleopdieaaGreatDoorCards
import Derived.Test.YthiifoleopdieaaGreatDoorTie
import Derived.ProofKit
import Derived.OpenShut
import Derived.Deep.DeepHandedRow
import Derived.Lib.LaidTab
import Derived.Test.YthiifoleopdieaaGreatDoorIz52
open Nat renaming reduceEqDiff→Za,reduceBEq→Zb,reduceAdd→Zc,reduceLeDiff→Zd,reduceLT→Ze,reduceMul→Zf,reduceSub→Zg
open Int renaming reduceEq→Zh,reduceLT→Zi,reduceLE→Zj,reduceToNat→Zk
open List renaming length_cons→zlc,length_nil→zle,take_length→zlj,mem_map_of_mem→zls,flatten_cons→zlt
open Nat renaming le_refl→zna
namespace Go.Proofs.YthiifoleopdieaaGreatDoor
open Go.Eng
open Go.ChangeShapes Go.WideShapes Go.ChangeAt Go.RowKit
set_option linter.all false
theorem tab_third {P:Program} {W:World} {x y:String × DataW Unit} {name:String} {k:IntKind} {zs:List Int} {g:Nat} {t e:TypeId} {n:Nat}
  (hg:P.globalNamed name=some g) (hty:(P.globals[g]?).map (·.type)=some t) (ht:P.underlying t=some (.array n e)) (he:P.underlying e=some (.int k)) (hce:P.cellsOf e=1) (hct:P.cellsOf t=n)
  (h:laidMet P [x,y,(name,Lib.tabData k zs)] W):∃t fr,W.heap[g]?=some (.cells (zs.map fun z=>Value.int k z).toArray t fr):=by
 obtain ⟨ps,⟨g1,t1,c1,f1,p1,q1,a1,a2,a3,a4,⟨g2,t2,c2,f2,p2,q2,b1,b2,b3,b4,hz,e2⟩,e1⟩,hnd,hrows⟩:=h
 have hs:q2.Sublist ps:=by
  rw [e1,e2]
  exact (List.sublist_append_right _ _).trans (List.sublist_append_right _ _)
 have ht':Lib.TabIs P W name k zs:=Lib.tabIs_of_head (rest:=[]) hg hty ht he hce hct ⟨q2,hz,hnd.sublist hs,fun b off hp=>hrows b off (hs.subset hp)⟩
 unfold Lib.TabIs World.var? at ht'
 rw [hg] at ht'
 simp only [Option.bind_some] at ht'
 split at ht'
 .rename_i cs t fr hh
  cases ht'
  exact ⟨t,fr,hh⟩
 .cases ht'
theorem pow10_laid {w:World} (h:laidMetH Tryz.prog Rows.idealArgsUptoRow.laid w):∀b vs,(b,vs)∈glTab→∃t fr,w.heap[b]?=some (.cells vs t fr):=by
 intro b vs hb
 simp only [glTab,List.mem_singleton,Prod.mk.injEq] at hb
 obtain ⟨rfl,rfl⟩:=hb
 exact tab_third (t:=222) (e:=192) (n:=20) (by kernel_rfl) (by kernel_rfl) (by kernel_rfl) (by kernel_rfl) (by kernel_rfl) (by kernel_rfl) h
noncomputable def valsOf:DataW Unit→Array Value
 | .agg l=>(l.map fun x=>match x with | .lit (.int k z)=>Value.int k z | _=>Value.int .i64 0).toArray
 | _=>#[]
def setTab (vs:Array Value):Obj→Obj
 | .cells _ t fr=>.cells vs t fr
 | o=>o
noncomputable def laidWorld (os:Os):World :=
 { World.holding Tryz.prog os ⟨#[],#[],[]⟩ with heap:=(((World.holding Tryz.prog os ⟨#[],#[],[]⟩).heap.modify 1 (setTab (valsOf Rows.laid_internal_strconv_uint64pow10))).modify 2 (setTab (valsOf Rows.laid_math_bits_deBruijn32tab))).modify 3 (setTab (valsOf Rows.laid_math_bits_deBruijn64tab)) }
abbrev case0:Value:=.agg #[.slice none 0 0,.slice none 0 0,.slice none 0 0,.slice none 0 0,.slice none 0 0,.slice none 0 0,.int .i64 0,.slice none 0 0]
set_option maxRecDepth 100000 in
theorem laid_met (os:Os) (vs:Array Value):laidMet Tryz.prog Rows.idealArgsUptoRow.laid ((laidWorld os).forCall (fun _ _=>0) ⟨#[],vs,[]⟩).memory :=
 laidMet_of_run' 8 (by kernel_rfl) (by kernel_rfl)
theorem mapC_ofQ {β:Type} {c:β→List AV} {Q:β→Prop}:∀{l:List (List AV)},(∀x∈l,∃y,x=c y∧Q y)→∃m:List β,l=mapC c m∧∀y∈m,Q y
 | [],_=>⟨[],rfl,by simp⟩
 | x::l,h=>by
  obtain ⟨y,rfl,hy⟩:=h x (by simp)
  obtain ⟨m,e,hl⟩:=mapC_ofQ (c:=c) (Q:=Q) (l:=l) fun z hz=>h z (by simp [hz])
  refine ⟨y::m,by rw [mapC_cons,←e],fun z hz=>?_⟩
  rcases List.mem_cons.1 hz with rfl | hz
  .exact hy
  .exact hl z hz
theorem wf64 {n:Int} (h:(Lit.int .i64 n).wf=true):-9223372036854775808≤n∧n≤9223372036854775807:=by
 simp only [Lit.wf,Bool.and_eq_true,decide_eq_true_eq] at h
 exact h
theorem val_rng (v:Val):Shp Tryz.prog 52 (valC v)→v.Rng:=by
 refine Val.ind (Q:=fun v=>Shp Tryz.prog 52 (valC v)→v.Rng) (fun v ih h=>?_) v
 rw [valC_eq] at h
 obtain ⟨parts,e0,hl,hp⟩:=shp_struct Tryz.underlying52 h
 obtain ⟨a,b,c,d,e,rfl⟩:=ds_n5 (show parts.length=5 from hl)
 obtain ⟨a,rfl,_⟩:=shp_int Tryz.underlying3 (hp 0 _ a rfl rfl)
 obtain ⟨b,rfl,hb⟩:=shp_int Tryz.underlying3 (hp 1 _ b rfl rfl)
 obtain ⟨c,rfl,_⟩:=shp_string Tryz.underlying9 (hp 2 _ c rfl rfl)
 obtain ⟨l,rfl,_,hx⟩:=shp_slice Tryz.underlying50 (hp 3 _ d rfl rfl)
 obtain ⟨k,rfl,_,hy⟩:=shp_slice Tryz.underlying22 (hp 4 _ e rfl rfl)
 simp only [zlt,List.flatten_nil,List.cons_append,List.nil_append,List.cons.injEq,AV.i.injEq,AV.ds.injEq,true_and,and_true] at e0
 obtain ⟨_,e1,_,e2,_⟩:=e0
 have:=wf64 hb
 refine .mk v (by omega) (by omega) fun x hx'=>ih x hx' (hx _ ?_)
 rw [←e2]
 exact zls (f:=valC) hx'
theorem shp_valQ {L:List AV} (h:Shp Tryz.prog 52 L) (hb:avL L≤1048576):∃v:Val,L=valC v∧VSm v:=by
 obtain ⟨v,rfl⟩:=shp_val h
 have:=valC_av v
 exact ⟨v,rfl,⟨wtV_fit v (by omega),val_rng v h,hb⟩⟩
theorem avL_app:∀a b:List AV,avL (a++b)=avL a+avL b
 | [],b=>by simp [avL]
 | x::a,b=>by rw [List.cons_append,avL,avL,avL_app a b];omega
theorem shp_celQ {L:List AV} (h:Shp Tryz.prog 65 L) (hb:avL L≤1048576):∃x:Cel,L=celC x∧VSm x.v:=by
 obtain ⟨parts,rfl,hl,hp⟩:=shp_struct Tryz.underlying65 h
 obtain ⟨a,b,c,rfl⟩:=ds_n3 (show parts.length=3 from hl)
 obtain ⟨a,rfl,_⟩:=shp_string Tryz.underlying9 (hp 0 _ a rfl rfl)
 obtain ⟨b,rfl,_⟩:=shp_string Tryz.underlying9 (hp 1 _ b rfl rfl)
 simp only [zlt,List.flatten_nil,avL_app,avL] at hb
 obtain ⟨v,rfl,hv⟩:=shp_valQ (hp 2 _ c rfl rfl) (by omega)
 refine ⟨.mk a b v,?_,hv⟩
 rw [valC_eq]
 rfl
theorem celC_one (c:Cel):1≤avL (celC c):=by have:=celC_av c;omega
theorem shp_itmQ {L:List AV} (h:Shp Tryz.prog 70 L) (hb:avL L≤1048576):∃x:Itm,L=itC x∧(∀c∈x.l,VSm c.v)∧x.l.length≤1048576:=by
 obtain ⟨parts,rfl,hl,hp⟩:=shp_struct Tryz.underlying70 h
 obtain ⟨a,b,rfl⟩:=ds_n2 (show parts.length=2 from hl)
 obtain ⟨a,rfl,_⟩:=shp_string Tryz.underlying9 (hp 0 _ a rfl rfl)
 obtain ⟨l,rfl,_,hx⟩:=shp_slice Tryz.underlying68 (hp 1 _ b rfl rfl)
 simp only [zlt,List.flatten_nil,avL_app,avL,avw] at hb
 obtain ⟨cs,rfl,hq⟩:=mapC_ofQ (c:=celC) (Q:=fun c=>VSm c.v) fun x h=>shp_celQ (hx x h) (by have:=avLL_mem h;omega)
 have:=mapC_len_le celC_one cs
 exact ⟨.mk a cs,rfl,hq,by simp only [Itm.l_mk];omega⟩
theorem shp_wriQ {L:List AV} (h:Shp Tryz.prog 72 L) (hb:avL L≤1048576):∃x:Wri,L=wrC x∧VSm x.c.v:=by
 obtain ⟨parts,rfl,hl,hp⟩:=shp_struct Tryz.underlying72 h
 obtain ⟨a,b,c,d,rfl⟩:=ds_n4 (show parts.length=4 from hl)
 obtain ⟨a,rfl,_⟩:=shp_string Tryz.underlying9 (hp 0 _ a rfl rfl)
 obtain ⟨b,rfl,_⟩:=shp_string Tryz.underlying9 (hp 1 _ b rfl rfl)
 obtain ⟨c,rfl,_⟩:=shp_int Tryz.underlying3 (hp 2 _ c rfl rfl)
 simp only [zlt,List.flatten_nil,avL_app,avL,avw] at hb
 obtain ⟨x,rfl,hx⟩:=shp_celQ (hp 3 _ d rfl rfl) (by omega)
 exact ⟨.mk a b c x,rfl,hx⟩
theorem shp_datQ {L:List AV} (h:Shp Tryz.prog 33 L) (hb:avL L≤1048576):∃d:Dat,L=[.ds (mapC itC d.i),.ds (mapC wrC d.w)]∧DOk d 1048576∧d.w.length≤1048576:=by
 obtain ⟨parts,rfl,hl,hp⟩:=shp_struct Tryz.underlying33 h
 obtain ⟨a,b,rfl⟩:=ds_n2 (show parts.length=2 from hl)
 obtain ⟨l,rfl,_,hx⟩:=shp_slice Tryz.underlying30 (hp 0 _ a rfl rfl)
 obtain ⟨l2,rfl,_,hy⟩:=shp_slice Tryz.underlying31 (hp 1 _ b rfl rfl)
 simp only [zlt,List.flatten_nil,avL_app,avL,avw] at hb
 obtain ⟨is,rfl,hi⟩:=mapC_ofQ (c:=itC) (Q:=fun x=>(∀c∈x.l,VSm c.v)∧x.l.length≤1048576) fun x h=>shp_itmQ (hx x h) (by have:=avLL_mem h;omega)
 obtain ⟨ws,rfl,hw⟩:=mapC_ofQ (c:=wrC) (Q:=fun x=>VSm x.c.v) fun x h=>shp_wriQ (hy x h) (by have:=avLL_mem h;omega)
 have hwl:ws.length≤avLL (mapC wrC ws):=mapC_len_le (fun x=>by simp [wrC,avL,avw];omega) _
 refine ⟨.mk is ws,rfl,⟨⟨dat_fit _ (by simp only [dx,avw,avL,Dat.i_mk,Dat.w_mk];omega),by simp only [Dat.w_mk];omega,fun x hx=>by have:=(hi x hx).2;omega⟩,fun x hx=>(hi x hx).1,hw,fun x hx=>(hi x hx).2⟩,by simp only [Dat.w_mk];omega⟩
theorem shp_argQ {L:List AV} (h:Shp Tryz.prog 75 L) (hb:avL L≤1048576):∃x:Arg,L=argC x∧VSm x.v:=by
 obtain ⟨parts,rfl,hl,hp⟩:=shp_struct Tryz.underlying75 h
 obtain ⟨a,b,rfl⟩:=ds_n2 (show parts.length=2 from hl)
 obtain ⟨a,rfl,_⟩:=shp_string Tryz.underlying9 (hp 0 _ a rfl rfl)
 simp only [zlt,List.flatten_nil,avL_app,avL,avw] at hb
 obtain ⟨v,rfl,hv⟩:=shp_valQ (hp 1 _ b rfl rfl) (by omega)
 refine ⟨.mk a v,?_,hv⟩
 rw [valC_eq]
 rfl
theorem argC_one (a:Arg):1≤avL (argC a):=by simp [argC,avL,avw];omega
theorem pkC_one (p:Pk):1≤avL (pkC p):=by rw [pkC_eq];simp [avL,avw];omega
theorem shp_pkQ {L:List AV} (h:Shp Tryz.prog 47 L) (hb:avL L≤1048576):∃x:Pk,L=pkC x∧x.Ok:=by
 suffices key:∀(n:Nat) (L:List AV),avL L≤n→avL L≤1048576→Shp Tryz.prog 47 L→∃x:Pk,L=pkC x∧x.Ok from key _ L (zna _) hb h
 intro n
 induction n with
 | zero =>
  intro L hn hb h
  obtain ⟨parts,rfl,hl,hp⟩:=shp_struct Tryz.underlying47 h
  match parts,hl,hp,hn with
  | a::r,_,hp,hn =>
   obtain ⟨a,rfl,_⟩:=shp_string Tryz.underlying9 (hp 0 _ a rfl rfl)
   simp [avL,avw] at hn
 | succ n ih =>
  intro L hn hb h
  obtain ⟨parts,rfl,hl,hp⟩:=shp_struct Tryz.underlying47 h
  match parts,hl,hp,hn,hb with
  | [a,b,c,d,e,f,g,i],_,hp,hn,hb =>
   obtain ⟨a,rfl,_⟩:=shp_string Tryz.underlying9 (hp 0 _ a rfl rfl)
   obtain ⟨b,rfl,_⟩:=shp_string Tryz.underlying9 (hp 1 _ b rfl rfl)
   obtain ⟨c,rfl,_⟩:=shp_string Tryz.underlying9 (hp 2 _ c rfl rfl)
   obtain ⟨l,rfl,_,hx⟩:=shp_slice Tryz.underlying42 (hp 3 _ d rfl rfl)
   obtain ⟨ts,rfl,hl2,hp2⟩:=shp_struct Tryz.underlying45 (hp 4 _ e rfl rfl)
   obtain ⟨t,u,rfl⟩:=ds_n2 (show ts.length=2 from hl2)
   obtain ⟨t,rfl,_⟩:=shp_string Tryz.underlying9 (hp2 0 _ t rfl rfl)
   obtain ⟨w,rfl,_,hy⟩:=shp_slice Tryz.underlying43 (hp2 1 _ u rfl rfl)
   obtain ⟨ws,rfl,_⟩:=mapC_of (c:=in1) fun x h=>by
    obtain ⟨n,rfl,_⟩:=shp_int Tryz.underlying3 (hy x h)
    exact ⟨n,rfl⟩
   obtain ⟨f,rfl,_⟩:=shp_string Tryz.underlying9 (hp 5 _ f rfl rfl)
   obtain ⟨g,rfl,_⟩:=shp_int Tryz.underlying3 (hp 6 _ g rfl rfl)
   obtain ⟨p,rfl,_,hz⟩:=shp_slice Tryz.underlying34 (hp 7 _ i rfl rfl)
   simp only [zlt,List.flatten_nil,avL_app,avL,avw] at hb hn
   obtain ⟨al,rfl,ha⟩:=mapC_ofQ (c:=argC) (Q:=fun a=>VSm a.v) fun x h=>shp_argQ (hx x h) (by have:=avLL_mem h;omega)
   obtain ⟨ps,rfl,hps⟩:=mapC_ofQ (c:=pkC) (Q:=fun p=>p.Ok) fun x h=>ih x (by have:=avLL_mem h;omega) (by have:=avLL_mem h;omega) (hz x h)
   have h1:=mapC_len_le argC_one al
   have h2:=mapC_len_le pkC_one ps
   exact ⟨.mk a b c al t ws f g ps,by rw [pkC_eq];rfl,.mk _ ⟨ha,by simp only [Pk.args];omega,by simp only [Pk.args];omega⟩ (by simp only [Pk.picks];omega) hps⟩
theorem shp_strs {l:List (List AV)} (h:∀x∈l,Shp Tryz.prog 9 x):∃m,l=stC m:=by
 obtain ⟨ks,rfl,_⟩:=mapC_of (c:=st1) (l:=l) fun x hx=>by
  obtain ⟨s,rfl,_⟩:=shp_string Tryz.underlying9 (h x hx)
  exact ⟨s,rfl⟩
 exact ⟨ks,rfl⟩
theorem shp_jnQ {L:List AV} (h:Shp Tryz.prog 63 L) (hb:avL L≤1048576):∃x:Jn,L=jnC x∧x.req.length≤1048576:=by
 obtain ⟨parts,rfl,hl,hp⟩:=shp_struct Tryz.underlying63 h
 match parts,hl,hp,hb with
 | [a,b,c,d,e,f],_,hp,hb =>
  obtain ⟨a,rfl,_⟩:=shp_string Tryz.underlying9 (hp 0 _ a rfl rfl)
  obtain ⟨b,rfl,_⟩:=shp_string Tryz.underlying9 (hp 1 _ b rfl rfl)
  obtain ⟨c,rfl,_⟩:=shp_int Tryz.underlying3 (hp 2 _ c rfl rfl)
  obtain ⟨d,rfl⟩:=shp_bool Tryz.underlying4 (hp 3 _ d rfl rfl)
  obtain ⟨l,rfl,_,hx⟩:=shp_slice Tryz.underlying22 (hp 4 _ e rfl rfl)
  obtain ⟨l2,rfl,_,hy⟩:=shp_slice Tryz.underlying22 (hp 5 _ f rfl rfl)
  simp only [zlt,List.flatten_nil,avL_app,avL,avw] at hb
  obtain ⟨r,rfl⟩:=shp_strs hx
  obtain ⟨q,rfl⟩:=shp_strs hy
  have h1:r.length≤avLL (stC r):=mapC_len_le st1_av r
  exact ⟨.mk a b c d r q,rfl,by simp only [Jn.req_mk];omega⟩
theorem shp_kyQ {L:List AV} (h:Shp Tryz.prog 240 L):∃x:Ky,L=kyC x:=by
 obtain ⟨parts,rfl,hl,hp⟩:=shp_struct Tryz.underlying240 h
 obtain ⟨a,b,c,rfl⟩:=ds_n3 (show parts.length=3 from hl)
 obtain ⟨a,rfl,_⟩:=shp_string Tryz.underlying9 (hp 0 _ a rfl rfl)
 obtain ⟨b,rfl,_⟩:=shp_int Tryz.underlying3 (hp 1 _ b rfl rfl)
 obtain ⟨l,rfl,_,hx⟩:=shp_slice Tryz.underlying22 (hp 2 _ c rfl rfl)
 obtain ⟨r,rfl⟩:=shp_strs hx
 exact ⟨.mk a b r,rfl⟩
theorem shp_fldQ {L:List AV} (h:Shp Tryz.prog 147 L):∃x:Fld,L=fldC x:=by
 obtain ⟨parts,rfl,hl,hp⟩:=shp_struct Tryz.underlying147 h
 obtain ⟨a,b,c,d,rfl⟩:=ds_n4 (show parts.length=4 from hl)
 obtain ⟨a,rfl,_⟩:=shp_string Tryz.underlying9 (hp 0 _ a rfl rfl)
 obtain ⟨l,rfl,_,_⟩:=shp_slice Tryz.underlying143 (hp 1 _ b rfl rfl)
 obtain ⟨ts,rfl,hl2,hp2⟩:=shp_struct Tryz.underlying45 (hp 2 _ c rfl rfl)
 obtain ⟨t,u,rfl⟩:=ds_n2 (show ts.length=2 from hl2)
 obtain ⟨t,rfl,_⟩:=shp_string Tryz.underlying9 (hp2 0 _ t rfl rfl)
 obtain ⟨w,rfl,_,_⟩:=shp_slice Tryz.underlying43 (hp2 1 _ u rfl rfl)
 obtain ⟨l2,rfl,_,_⟩:=shp_slice Tryz.underlying140 (hp 3 _ d rfl rfl)
 exact ⟨.mk a l t w l2,rfl⟩
theorem fldC_one (x:Fld):1≤avL (fldC x):=by simp only [fldC,avL,avw];omega
theorem shp_dfnQ {L:List AV} (h:Shp Tryz.prog 145 L) (hb:avL L≤1048576):∃x:Dfn,L=dfC x∧x.fields.length≤1000000000000:=by
 obtain ⟨parts,rfl,hl,hp⟩:=shp_struct Tryz.underlying145 h
 match parts,hl,hp,hb with
 | [a,b,c,d,e,f,g],_,hp,hb =>
  obtain ⟨a,rfl,_⟩:=shp_int Tryz.underlying3 (hp 0 _ a rfl rfl)
  obtain ⟨b,rfl,_⟩:=shp_string Tryz.underlying9 (hp 1 _ b rfl rfl)
  obtain ⟨c,rfl,_,_⟩:=shp_slice Tryz.underlying22 (hp 2 _ c rfl rfl)
  obtain ⟨d,rfl,_,_⟩:=shp_slice Tryz.underlying140 (hp 3 _ d rfl rfl)
  obtain ⟨l,rfl,_,hx⟩:=shp_slice Tryz.underlying141 (hp 4 _ e rfl rfl)
  obtain ⟨f,rfl,_,_⟩:=shp_slice Tryz.underlying142 (hp 5 _ f rfl rfl)
  obtain ⟨g,rfl,_,_⟩:=shp_slice Tryz.underlying143 (hp 6 _ g rfl rfl)
  simp only [zlt,List.flatten_nil,avL_app,avL,avw] at hb
  obtain ⟨fs,rfl,_⟩:=mapC_of (c:=fldC) fun x h=>shp_fldQ (hx x h)
  have h1:=mapC_len_le fldC_one fs
  exact ⟨.mk a b c d fs f g,rfl,by simp only [Dfn.fields_mk];omega⟩
theorem dfC_one (x:Dfn):1≤avL (dfC x):=by simp only [dfC,avL,avw];omega
theorem jnC_one (x:Jn):1≤avL (jnC x):=by simp only [jnC,avL,avw];omega
theorem shp_supQ {L:List AV} (h:Shp Tryz.prog 29 L) (hb:avL L≤1048576) :
  ∃s:Sup,L=[.ds (stC s.g),.ds (mapC dfC s.doc),.ds (mapC kyC s.keys),.ds (mapC jnC s.joins)]∧SOk s∧∀t∈s.doc,t.fields.length≤1000000000000:=by
 obtain ⟨parts,rfl,hl,hp⟩:=shp_struct Tryz.underlying29 h
 obtain ⟨a,b,c,d,rfl⟩:=ds_n4 (show parts.length=4 from hl)
 obtain ⟨a,rfl,_,ha⟩:=shp_slice Tryz.underlying22 (hp 0 _ a rfl rfl)
 obtain ⟨ts,rfl,hl2,hp2⟩:=shp_struct Tryz.underlying25 (hp 1 _ b rfl rfl)
 match ts,hl2,hp2,hb with
 | [t],_,hp2,hb =>
  obtain ⟨t,rfl,_,ht⟩:=shp_slice Tryz.underlying23 (hp2 0 _ t rfl rfl)
  obtain ⟨c,rfl,_,hc⟩:=shp_slice Tryz.underlying26 (hp 2 _ c rfl rfl)
  obtain ⟨d,rfl,_,hd⟩:=shp_slice Tryz.underlying27 (hp 3 _ d rfl rfl)
  simp only [zlt,List.flatten_nil,avL_app,avL,avw] at hb
  obtain ⟨g,rfl⟩:=shp_strs ha
  obtain ⟨doc,rfl,hdoc⟩:=mapC_ofQ (c:=dfC) (Q:=fun t=>t.fields.length≤1000000000000) fun x h=>shp_dfnQ (ht x h) (by have:=avLL_mem h;omega)
  obtain ⟨ks,rfl,_⟩:=mapC_of (c:=kyC) fun x h=>shp_kyQ (hc x h)
  obtain ⟨js,rfl,hjs⟩:=mapC_ofQ (c:=jnC) (Q:=fun j=>j.req.length≤1048576) fun x h=>shp_jnQ (hd x h) (by have:=avLL_mem h;omega)
  have h1:=mapC_len_le dfC_one doc
  have h2:=mapC_len_le jnC_one js
  exact ⟨.mk g doc ks js,rfl,⟨by simp only [Sup.joins_mk];omega,hjs,by simp only [Sup.doc_mk];omega⟩,hdoc⟩
structure COk (S:Sup) (D:Dat) (P:Pln):Prop where
 s:SOk S
 f:∀t∈S.doc,t.fields.length≤1000000000000
 d:DOk D 1048576
 w:D.w.length≤1048576
 l:P.l.length≤1048576
 p:∀x∈P.l,x.Ok
abbrev casex (s:Sup) (d:Dat) (p:Pln):AV:=.ag [.ds (stC s.g),.ds (mapC dfC s.doc),.ds (mapC kyC s.keys),.ds (mapC jnC s.joins),.ds (mapC itC d.i),.ds (mapC wrC d.w),.i .i64 p.k,.ds (mapC pkC p.l)]
theorem reads_case21 {α:AV} (h:AS Tryz.prog 38 α) (hb:avw α≤1048576):∃s d p,α=casex s d p∧COk s d p:=by
 obtain ⟨L,rfl,h2⟩:=as_struct Tryz.underlying38 h
 obtain ⟨parts,rfl,hl,hp⟩:=shp_struct Tryz.underlying38 h2
 obtain ⟨a,b,c,rfl⟩:=ds_n3 (show parts.length=3 from hl)
 simp only [zlt,List.flatten_nil,avL_app,avL,avw] at hb
 obtain ⟨s,rfl,hs,hf⟩:=shp_supQ (hp 0 _ a rfl rfl) (by omega)
 obtain ⟨d,rfl,hd,hw⟩:=shp_datQ (hp 1 _ b rfl rfl) (by omega)
 obtain ⟨ts,rfl,hl2,hp2⟩:=shp_struct Tryz.underlying36 (hp 2 _ c rfl rfl)
 obtain ⟨t,u,rfl⟩:=ds_n2 (show ts.length=2 from hl2)
 obtain ⟨k,rfl,_⟩:=shp_int Tryz.underlying3 (hp2 0 _ t rfl rfl)
 obtain ⟨l,rfl,_,hx⟩:=shp_slice Tryz.underlying34 (hp2 1 _ u rfl rfl)
 simp only [zlt,List.flatten_nil,avL_app,avL,avw] at hb
 obtain ⟨ps,rfl,hps⟩:=mapC_ofQ (c:=pkC) (Q:=fun p=>p.Ok) fun x h=>shp_pkQ (hx x h) (by have:=avLL_mem h;omega)
 have h1:=mapC_len_le pkC_one ps
 exact ⟨s,d,.mk k ps,rfl,⟨hs,hf,hd,hw,by simp only [Pln.l_mk];omega,hps⟩⟩
theorem reads_case39 {α:AV} (h:AS Tryz.prog 59 α) (hb:avw α≤1048576):∃s d p,α=casex s d p∧COk s d p:=by
 obtain ⟨L,rfl,h2⟩:=as_struct Tryz.underlying59 h
 obtain ⟨parts,rfl,hl,hp⟩:=shp_struct Tryz.underlying59 h2
 obtain ⟨a,b,c,rfl⟩:=ds_n3 (show parts.length=3 from hl)
 simp only [zlt,List.flatten_nil,avL_app,avL,avw] at hb
 obtain ⟨s,rfl,hs,hf⟩:=shp_supQ (hp 0 _ a rfl rfl) (by omega)
 obtain ⟨d,rfl,hd,hw⟩:=shp_datQ (hp 1 _ b rfl rfl) (by omega)
 obtain ⟨ts,rfl,hl2,hp2⟩:=shp_struct Tryz.underlying36 (hp 2 _ c rfl rfl)
 obtain ⟨t,u,rfl⟩:=ds_n2 (show ts.length=2 from hl2)
 obtain ⟨k,rfl,_⟩:=shp_int Tryz.underlying3 (hp2 0 _ t rfl rfl)
 obtain ⟨l,rfl,_,hx⟩:=shp_slice Tryz.underlying34 (hp2 1 _ u rfl rfl)
 simp only [zlt,List.flatten_nil,avL_app,avL,avw] at hb
 obtain ⟨ps,rfl,hps⟩:=mapC_ofQ (c:=pkC) (Q:=fun p=>p.Ok) fun x h=>shp_pkQ (hx x h) (by have:=avLL_mem h;omega)
 have h1:=mapC_len_le pkC_one ps
 exact ⟨s,d,.mk k ps,rfl,⟨hs,hf,hd,hw,by simp only [Pln.l_mk];omega,hps⟩⟩
theorem in1_one (n:Int):1≤avL (in1 n):=by simp [in1,avL,avw]
theorem pk_fit (p:Pk):p.Ok→avL (pkC p)≤1048576→p.Fit:=by
 refine Pk.ind (Q:=fun p=>p.Ok→avL (pkC p)≤1048576→p.Fit) (fun p ih ho hb=>?_) p
 rw [pkC_eq] at hb
 simp only [avL,avw] at hb
 have h1:=mapC_len_le in1_one p.tw
 have h2:=ho.a.n
 have h3:=ho.l
 refine .mk p (by omega) (by omega) (by omega) (fun a ha=>(ho.a.v a ha).f) fun x hx=>ih x hx (ho.x hx) ?_
 have:=avLL_mem (zls (f:=pkC) hx)
 have h4:avL (pkC x)≤avLL (mapC pkC p.picks):=this
 omega
theorem case_fit {s:Sup} {d:Dat} {p:Pln} (c:COk s d p) (hb:avw (casex s d p)≤1048576):∀x∈p.l,x.Fit:=fun x hx=>by
 simp only [casex,avL,avw] at hb
 have h4:avL (pkC x)≤avLL (mapC pkC p.l):=avLL_mem (zls (f:=pkC) hx)
 exact pk_fit x (c.p x hx) (by omega)
set_option maxRecDepth 20000
set_option maxHeartbeats 2000000
theorem runV_dok (s:Sup) (d:Dat) (p:Pln) {B:Nat} (hd:DOk d B) (hB:p.k=2→B+p.l.length*d.w.length≤100000000000) :
  DOk (runV s d p).2 (B+p.l.length*(if p.k=2 then d.w.length else 0)):=by
 have h:=(runL_inv s (decide (p.k=2)) (rootS p.k) d p.l hd (fun h=>hB (by simpa using h)) p.l.length (zna _)).2.2
 rw [zlj] at h
 simp only [decide_eq_true_eq] at h
 exact h
noncomputable def few39 (s:Sup) (d:Dat) (p:Pln):Bool:=(!lgX s d p.l&&decide ((d.w.length:Int)≤20))&&decide ((p.l.length:Int)≤20)
theorem few39_ok (s:Sup) (d:Dat) (p:Pln) (c:COk s d p) (hp:CH) (m:Nat):MeetsF Tryz.prog 22 hp m [casex s d p] (.b (few39 s d p)):=by
 have h1:=rLarge_ok s c.s c.f d c.d (by omega) p.l c.l c.p
 rw [few39]
 obtain ⟨x,hx⟩:∃x,lgX s d p.l=x:=⟨_,rfl⟩
 rw [hx] at h1 ⊢
 refine meetsF Tryz.func22 (by kernel_rfl) cc22 cr22 rfl fun hf=>?_;unfold ck22
 simp (disch:=omega) only [ite_ne,go_sem,↓reduceIte,Za,Zb,Zc,Zd,Ze,reduceCtorEq,Zf,Zg,Zh,Zi,Zj,Zk]
 refine vcCall.f (h1 _ _) ?_
 simp (disch:=omega) only [ite_ne,go_sem,↓reduceIte,Za,Zb,Zc,Zd,Ze,reduceCtorEq,Zf,Zg,Zh,Zi,Zj,Zk]
theorem rSplit_ok (p:Pln) (hl:p.l.length≤100000000000) (hp:CH) (m:Nat):MeetsF Tryz.prog 58 hp m [plx p] (.ds (mapC plC (splitP p))):=by
 refine meetsF Tryz.func58 (by kernel_rfl) cc58 cr58 rfl fun hf=>?_;unfold ck58
 simp only [go_sem,↓reduceIte,Za,Zb,Zc,Zd,Ze,reduceCtorEq,Zf,Zg,Zh,Zi,Zj,Zk]
 refine loop (fun q:Nat × Nat=>⟨[(1,.bx m 0),(3,.rw (m+1) q.1 q.1),(4,.i .i64 q.1)],
   (m,.bx [.i .i64 p.k,.ds (mapC pkC p.l)])::(m+1,.rw q.1 2 (mapC plC (splitP (.mk p.k (p.l.take q.1)))))::hp,q.2⟩)
  (fun q=>q.1≤p.l.length∧m+2≤q.2) (fun q=>p.l.length - q.1) (0,m+2) ?_ ?_ (fun ⟨j,n⟩ hj=>?_)
 .simp
 .refine (weak_e0 (t:=3) (m:=2) ?_).trans (weak_ok ?_ (Sub.cons ?_ (Sub.cons ?_ (Sub.base hf ?_))) (zna _))
  all_goals (simp (disch:=omega) only [ite_ne,go_sem,↓reduceIte,Za,Zb,Zc,Zd,Ze,reduceCtorEq,Zf,Zg,Zh,Zi,Zj,Zk])
  all_goals rfl
 dsimp only at hj
 obtain ⟨hj1,hj2⟩:=hj
 simp (disch:=omega) only [ite_ne,go_sem,↓reduceIte,Za,Zb,Zc,Zd,Ze,reduceCtorEq,Zf,Zg,Zh,Zi,Zj,Zk]
 refine cdK_of (fun q=>?_) (fun q=>?_)
 .have q:j<p.l.length:=by simpa using q
  obtain ⟨x,ex⟩:∃x,p.l[j]?=some x:=⟨p.l[j],by simp [q]⟩
  have ht:(splitP (.mk p.k (p.l.take j))).length=j:=by simp [splitP,Pln.l_mk];omega
  have k1:(j+1)*32≤140737488355328:=by omega
  have k2:j+1≤9223372036854775807:=by omega
  have k3:p.l.length - (j+1)<p.l.length - j:=by omega
  simp (disch:=omega) only [ite_ne,q,getK_s (mapC_get pkC ex),ht,k1,k2,go_sem,↓reduceIte,Za,Zb,Zc,Zd,Ze,reduceCtorEq,Zf,Zg,Zh,Zi,Zj,Zk]
  refine ⟨(j+1,_),⟨by dsimp only;omega,by dsimp only;omega⟩,k3,weak_ok ?_ (Sub.cons ?_ (Sub.cons ?_ (Sub.base hf ?_))) (zna _)⟩
  all_goals
   simp (disch:=omega) only [ite_ne,wr64s j (by omega),splitP_step ex,go_sem,↓reduceIte,Za,Zb,Zc,Zd,Ze,reduceCtorEq,Zf,Zg,Zh,Zi,Zj,Zk]
 .have q:j=p.l.length:=by simp at q;omega
  subst q
  rw [zlj]
  have e1:splitP (.mk p.k p.l)=splitP p:=by rw [Pln.eta]
  have e2:=splitP_len p
  have e3:(splitP p).take p.l.length=splitP p:=List.take_of_length_le (by omega)
  rw [e1]
  simp (disch:=omega) only [ite_ne,e2,e3,zna,go_sem,↓reduceIte,Za,Zb,Zc,Zd,Ze,reduceCtorEq,Zf,Zg,Zh,Zi,Zj,Zk]
noncomputable def serS (s:Sup) (k:Int) (a:List Val × Dat) (x:Pk):List Val × Dat:=(a.1++[(runV s a.2 (.mk k [x])).1],(runV s a.2 (.mk k [x])).2)
noncomputable def serL (s:Sup) (k:Int) (d:Dat) (l:List Pk):List Val × Dat:=l.foldl (serS s k) ([],d)
noncomputable def serV (s:Sup) (d:Dat) (p:Pln):Val × Dat:=if p.l.length=0 then runV s d p else (joinV (serL s p.k d p.l).1,(serL s p.k d p.l).2)
theorem serL_step {s:Sup} {k:Int} {d:Dat} {l:List Pk} {j:Nat} {x:Pk} (h:l[j]?=some x):serL s k d (l.take (j+1))=serS s k (serL s k d (l.take j)) x:=by
 unfold serL
 rw [←take_snoc h,List.foldl_append]
 rfl
theorem runV_one_w (s:Sup) (d:Dat) (k:Int) (x:Pk):(runV s d (.mk k [x])).2.w=d.w:=by
 have:(runV s d (.mk k [x])).2=(runS s (decide (k=2)) (rootS k) ([],d) x).2:=rfl
 rw [this,runS]
 split
 .exact rootD_w _ _ _ _ _
 .rfl
theorem runV_one_len (s:Sup) (d:Dat) (k:Int) (x:Pk):(runV s d (.mk k [x])).1.items.length≤2:=by
 have h:=runL_len s (decide (k=2)) (rootS k) d [x] 1
 have:(runV s d (.mk k [x])).1.items=txV (rootS k)::(runL s (decide (k=2)) (rootS k) d [x]).1.map (·.2):=rfl
 rw [this,zlc,List.length_map]
 have e:[x].take 1=[x]:=rfl
 rw [e] at h
 omega
theorem serL_inv (s:Sup) (k:Int) (d:Dat) (l:List Pk) {B:Nat} (hd:DOk d B) (hpo:∀x∈l,x.Ok) (h:B+l.length*d.w.length≤100000000000):∀j,j≤l.length →
  (serL s k d (l.take j)).2.w=d.w∧DOk (serL s k d (l.take j)).2 (B+j*d.w.length)∧(serL s k d (l.take j)).1.length=j∧(∀v∈(serL s k d (l.take j)).1,v.Fit)∧szJ (serL s k d (l.take j)).1≤2*j
 | 0,_=>⟨rfl,by simpa [serL] using hd,by simp [serL],by simp [serL],by simp [serL,szJ]⟩
 | j+1,hj=>by
  have hjl:j<l.length:=by omega
  have ex:=List.getElem?_eq_getElem hjl
  have hxo:=hpo _ (List.mem_of_getElem? ex)
  obtain ⟨h1,h2,h3,h4,h5⟩:=serL_inv s k d l hd hpo h j (by omega)
  have hm:(j+1)*d.w.length≤l.length*d.w.length:=Nat.mul_le_mul_right _ hj
  rw [Nat.add_mul,Nat.one_mul] at hm
  have hb:((Pln.mk k [l[j]]).k=2→B+j*d.w.length+(Pln.mk k [l[j]]).l.length*(serL s k d (l.take j)).2.w.length≤100000000000):=fun _=>by
   rw [h1]
   simp only [Pln.l_mk,zlc,zle]
   omega
  have hD:=runV_dok s (serL s k d (l.take j)).2 (.mk k [l[j]]) h2 hb
  have hF:=runV_fit s (serL s k d (l.take j)).2 (.mk k [l[j]]) h2 (by simp [Pln.l_mk]) (by simp [Pln.l_mk,hxo]) hb
  have hL:=runV_one_len s (serL s k d (l.take j)).2 k l[j]
  rw [serL_step ex]
  unfold serS
  dsimp only
  refine ⟨by rw [runV_one_w,h1],hD.mono ?_,by simp [h3],fun v hv=>?_,?_⟩
  .simp only [Pln.l_mk,zlc,zle,Nat.zero_add,Nat.one_mul,h1]
   rw [Nat.add_mul,Nat.one_mul]
   split<;>omega
  .rcases List.mem_append.1 hv with hv | hv
   .exact h4 v hv
   .rw [List.mem_singleton.1 hv]
    exact hF
  .simp only [szJ,List.map_append,List.sum_append,List.map_cons,List.map_nil,List.sum_cons,List.sum_nil] at h5 ⊢
   omega
set_option maxHeartbeats 4000000
theorem sRun_ok (s:Sup) (hs:SOk s) (d:Dat) {B:Nat} (hd:DOk d B) (p:Pln) (hl:p.l.length≤1048576) (hpo:∀x∈p.l,x.Ok) (hfp:∀x∈p.l,x.Fit) (hB:B+p.l.length*d.w.length≤100000000000) (hp:CH) (m:Nat) :
  MeetsF Tryz.prog 24 hp m [supx s,dx d,plx p] (.tp [vx (serV s d p).1,dx (serV s d p).2]):=by
 rw [serV]
 by_cases h0:p.l.length=0
 .rw [if_pos h0]
  have hT:=tRun_ok s hs d hd p hl hpo (fun _=>hB)
  have z0:((p.l.length:Int)=0)=True:=eq_true (by omega)
  obtain ⟨T,hTe⟩:∃T,(runV s d p).1=T:=⟨_,rfl⟩
  obtain ⟨E,hEe⟩:∃E,(runV s d p).2=E:=⟨_,rfl⟩
  rw [hTe,hEe] at hT ⊢
  refine meetsF Tryz.func24 (by kernel_rfl) cc924 cr924 rfl fun hf=>?_;unfold ck924
  simp (disch:=omega) only [ite_ne,z0,decide_true,go_sem,↓reduceIte,Za,Zb,Zc,Zd,Ze,reduceCtorEq,Zf,Zg,Zh,Zi,Zj,Zk]
  refine vcCall.f (hT _ _) ?_
  simp (disch:=omega) only [ite_ne,go_sem,↓reduceIte,Za,Zb,Zc,Zd,Ze,reduceCtorEq,Zf,Zg,Zh,Zi,Zj,Zk]
 rw [if_neg h0]
 dsimp only
 have hinv:=serL_inv s p.k d p.l hd hpo hB
 have hsp:=sSplit_ok p (by omega) hfp
 have hsl:=splitP_len p
 have hstep:=fun j x (h:p.l[j]?=some x)=>serL_step (s:=s) (k:=p.k) (d:=d) h
 obtain ⟨-,-,l1,l2,l3⟩:=hinv p.l.length (zna _)
 rw [zlj] at l1 l2 l3
 obtain ⟨R,hR⟩:∃R,serL s p.k d p.l=R:=⟨_,rfl⟩
 rw [hR] at l1 l2 l3 ⊢
 have hJ:=sJoin_ok R.1 (by omega) l2 (by omega)
 obtain ⟨J,hJe⟩:∃J,joinV R.1=J:=⟨_,rfl⟩
 rw [hJe] at hJ ⊢
 have z0:((p.l.length:Int)=0)=False:=eq_false (by omega)
 refine meetsF Tryz.func24 (by kernel_rfl) cc924 cr924 rfl fun hf=>?_;unfold ck924
 simp (disch:=omega) only [ite_ne,z0,decide_false,go_sem,↓reduceIte,Za,Zb,Zc,Zd,Ze,reduceCtorEq,Zf,Zg,Zh,Zi,Zj,Zk]
 refine vcCall.f (hsp _ _) ?_
 simp (disch:=omega) only [ite_ne,hsl,go_sem,↓reduceIte,Za,Zb,Zc,Zd,Ze,reduceCtorEq,Zf,Zg,Zh,Zi,Zj,Zk]
 refine loop (fun q:Nat × List Val × Dat × Nat=>⟨[(3,.bx m 0),(4,.bx (m+1) 0),(6,.bx (m+3) 0),(7,.bx (m+4) 0),(8,.rw (m+5) q.2.1.length q.2.1.length),(23,.ds (mapC plC (splitP p))),(24,.i .i64 p.l.length),(25,.i .i64 q.1)],
   (m,.bx [.ds (stC s.g),.ds (mapC dfC s.doc),.ds (mapC kyC s.keys),.ds (mapC jnC s.joins)])::(m+1,.bx [.ds (mapC itC q.2.2.1.i),.ds (mapC wrC q.2.2.1.w)])::(m+3,.bx [.i .i64 0,.i .i64 0,.s ⟨#[]⟩,.e0,.e0])::(m+4,.bx [.e0,.e0])::(m+5,.rw q.2.1.length 5 (mapC valC q.2.1))::hp,q.2.2.2⟩)
  (fun q=>q.1≤p.l.length∧m+6≤q.2.2.2∧(q.2.1,q.2.2.1)=serL s p.k d (p.l.take q.1)) (fun q=>p.l.length - q.1) (0,[],d,m+6) ?_ ?_ (fun ⟨j,F,D,n⟩ hj=>?_)
 .exact ⟨by simp,by simp,by dsimp only;rw [List.take_zero];rfl⟩
 .refine (weak_e0 (t:=8) (m:=5) ?_).trans (weak_ok ?_ (Sub.cons ?_ (Sub.cons ?_ (Sub.cons ?_ (Sub.cons ?_ (Sub.cons ?_ (Sub.base hf ?_)))))) (zna _))
  all_goals (simp (disch:=omega) only [ite_ne,go_sem,↓reduceIte,Za,Zb,Zc,Zd,Ze,reduceCtorEq,Zf,Zg,Zh,Zi,Zj,Zk])
  all_goals rfl
 dsimp only at hj
 obtain ⟨hj1,hj2,hj3⟩:=hj
 have hmn:m≤n:=by omega
 obtain ⟨i1,i2,i3,i4,i5⟩:=hinv j hj1
 rw [←hj3] at i1 i2 i3
 dsimp only at i1 i2 i3
 simp (disch:=omega) only [ite_ne,go_sem,↓reduceIte,Za,Zb,Zc,Zd,Ze,reduceCtorEq,Zf,Zg,Zh,Zi,Zj,Zk]
 refine cdK_of (fun q=>?_) (fun q=>?_)
 .have q:j<p.l.length:=by simpa using q
  obtain ⟨x,ex⟩:∃x,p.l[j]?=some x:=⟨p.l[j],by simp [q]⟩
  have hxo:=hpo x (List.mem_of_getElem? ex)
  have hst:=hstep j x ex
  rw [←hj3,serS] at hst
  dsimp only at hst
  have hm:(j+1)*d.w.length≤p.l.length*d.w.length:=Nat.mul_le_mul_right _ q
  rw [Nat.add_mul,Nat.one_mul] at hm
  have h3:=tRun_ok s hs D i2 (.mk p.k [x]) (by simp [Pln.l_mk]) (by simp [Pln.l_mk,hxo]) (fun _=>by rw [i1];simp only [Pln.l_mk,zlc,zle];omega)
  obtain ⟨T,hT⟩:∃T,(runV s D (.mk p.k [x])).1=T:=⟨_,rfl⟩
  obtain ⟨E,hE⟩:∃E,(runV s D (.mk p.k [x])).2=E:=⟨_,rfl⟩
  rw [hT] at h3 hst
  rw [hE] at h3 hst
  have e1:mapC pkC [x]=[[AV.s x.key,.s x.on,.s x.name,.ds (mapC argC x.args),.s x.tn,.ds (mapC in1 x.tw),.s x.label,.i .i64 x.initial,.ds (mapC pkC x.picks)]]:=by rw [mapC_cons,mapC_nil,pkC_eq]
  have e2:plx (.mk p.k [x])=.ag [.i .i64 p.k,.ds [[AV.s x.key,.s x.on,.s x.name,.ds (mapC argC x.args),.s x.tn,.ds (mapC in1 x.tw),.s x.label,.i .i64 x.initial,.ds (mapC pkC x.picks)]]]:=by rw [←e1];rfl
  rw [e2] at h3
  have e3:(mapC plC (splitP p))[j]?=some [.i .i64 p.k,.ds [[AV.s x.key,.s x.on,.s x.name,.ds (mapC argC x.args),.s x.tn,.ds (mapC in1 x.tw),.s x.label,.i .i64 x.initial,.ds (mapC pkC x.picks)]]]:=by
   rw [←e1]
   have e4:(splitP p)[j]?=some (.mk p.k [x]):=by rw [splitP,List.getElem?_map,ex];rfl
   exact mapC_get plC e4
  have k1:(F.length+1)*80≤140737488355328:=by omega
  have k3:F.length+1≤9223372036854775807:=by omega
  have k4:p.l.length - (j+1)<p.l.length - j:=by omega
  simp (disch:=omega) only [ite_ne,q,hsl,getK_s e3,e3,hmn,go_sem,↓reduceIte,Za,Zb,Zc,Zd,Ze,reduceCtorEq,Zf,Zg,Zh,Zi,Zj,Zk]
  refine vcCall.f (h3 _ _) ?_
  simp (disch:=omega) only [ite_ne,k1,k3,hmn,go_sem,↓reduceIte,Za,Zb,Zc,Zd,Ze,reduceCtorEq,Zf,Zg,Zh,Zi,Zj,Zk]
  refine ⟨(j+1,F++[T],E,_),⟨by dsimp only;omega,by dsimp only;omega,hst.symm⟩,k4,weak_ok ?_ (Sub.cons ?_ (Sub.cons ?_ (Sub.cons ?_ (Sub.cons ?_ (Sub.cons ?_ (Sub.base hf ?_)))))) (zna _)⟩
  all_goals
   simp (disch:=omega) only [ite_ne,wr64s j (by omega),hmn,List.length_append,zlc,zle,go_sem,↓reduceIte,Za,Zb,Zc,Zd,Ze,reduceCtorEq,Zf,Zg,Zh,Zi,Zj,Zk]
 .have q:j=p.l.length:=by simp at q;omega
  subst q
  rw [zlj,hR] at hj3
  subst hj3
  have hl4:F.take F.length=F:=zlj
  dsimp only at hJ
  have hl5:List.take F.length (mapC valC F)=mapC valC F:=List.take_of_length_le (by simp [mapC])
  simp (disch:=omega) only [ite_ne,hmn,go_sem,↓reduceIte,Za,Zb,Zc,Zd,Ze,reduceCtorEq,Zf,Zg,Zh,Zi,Zj,Zk]
  refine wk_of (s':=⟨[(3,.bx m 0),(4,.bx (m+1) 0),(6,.bx (m+3) 0),(7,.bx (m+4) 0),(8,.ds (mapC valC F))],
   (m,.bx [.ds (stC s.g),.ds (mapC dfC s.doc),.ds (mapC kyC s.keys),.ds (mapC jnC s.joins)])::(m+1,.bx [.ds (mapC itC D.i),.ds (mapC wrC D.w)])::(m+3,.bx [.i .i64 0,.i .i64 0,.s ⟨#[]⟩,.e0,.e0])::(m+4,.bx [.e0,.e0])::hp,n⟩)
   ((weak_sh (t:=8) (k:=m+5) (g:=F.length) (len:=F.length) (m:=5) (l:=mapC valC F) (by (simp (disch:=omega) only [ite_ne,go_sem,↓reduceIte,Za,Zb,Zc,Zd,Ze,reduceCtorEq,Zf,Zg,Zh,Zi,Zj,Zk])) (by (simp (disch:=omega) only [ite_ne,go_sem,↓reduceIte,Za,Zb,Zc,Zd,Ze,reduceCtorEq,Zf,Zg,Zh,Zi,Zj,Zk])) (by simp [mapC])).trans
   (weak_ok ?_ (Sub.cons ?_ (Sub.cons ?_ (Sub.cons ?_ (Sub.cons ?_ (Sub.base hf ?_))))) (zna _))) ?_
  all_goals first | ((simp (disch:=omega) only [ite_ne,hl5,hmn,go_sem,↓reduceIte,Za,Zb,Zc,Zd,Ze,reduceCtorEq,Zf,Zg,Zh,Zi,Zj,Zk]);done) | skip
  simp (disch:=omega) only [ite_ne,go_sem,↓reduceIte,Za,Zb,Zc,Zd,Ze,reduceCtorEq,Zf,Zg,Zh,Zi,Zj,Zk]
  refine dCallR.f (fun _ hp' e=>hJ _ _) ?_
  simp (disch:=omega) only [ite_ne,hmn,go_sem,↓reduceIte,Za,Zb,Zc,Zd,Ze,reduceCtorEq,Zf,Zg,Zh,Zi,Zj,Zk]
end Go.Proofs.YthiifoleopdieaaGreatDoor
