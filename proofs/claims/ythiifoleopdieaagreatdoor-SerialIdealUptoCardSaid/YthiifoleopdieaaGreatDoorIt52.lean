/- Proof. Conditions: none. -/
import Derived.Test.YthiifoleopdieaaGreatDoorCards
import Derived.Test.YthiifoleopdieaaGreatDoorTie
import Derived.ProofKit
import Derived.OpenShut
import Derived.Deep.DeepHandedRow
import Derived.Lib.LaidTab
import Derived.Test.YthiifoleopdieaaGreatDoorIt51
open List renaming flatten_cons→zlt
namespace Go.Proofs.YthiifoleopdieaaGreatDoor
open Go.Eng
open Go.ChangeShapes Go.WideShapes Go.ChangeAt Go.RowKit
set_option linter.all false
theorem tab_third {P:Program} {W:World} {x y:String × DataW Unit} {name:String} {k:IntKind} {zs:List Int} {g:Nat} {t e:TypeId} {n:Nat}
  (hg:P.globalNamed name=some g) (hty:(P.globals[g]?).map (·.type)=some t) (ht:P.underlying t=some (.array n e)) (he:P.underlying e=some (.int k)) (hce:P.cellsOf e=1) (hct:P.cellsOf t=n)
  (h:laidMet P [x,y,(name,Lib.tabData k zs)] W):∃t fr,W.heap[g]?=some (.cells (zs.map fun z=>Value.int k z).toArray t fr):=by
 obtain ⟨ps,⟨g1,t1,c1,f1,p1,q1,a1,a2,a3,a4,⟨g2,t2,c2,f2,p2,q2,b1,b2,b3,b4,hz,e2⟩,e1⟩,hnd,hrows⟩:=h
 have hs:q2.Sublist ps:=by
  rw [e1,e2]
  exact (List.sublist_append_right _ _).trans (List.sublist_append_right _ _)
 have ht':Lib.TabIs P W name k zs:=Lib.tabIs_of_head (rest:=[]) hg hty ht he hce hct ⟨q2,hz,hnd.sublist hs,fun b off hp=>hrows b off (hs.subset hp)⟩
 unfold Lib.TabIs World.var? at ht'
 rw [hg] at ht'
 simp only [Option.bind_some] at ht'
 split at ht'
 ·rename_i cs t fr hh
  cases ht'
  exact ⟨t,fr,hh⟩
 ·cases ht'
theorem pow10_laid {w:World} (h:laidMetH Tryz.prog Rows.idealArgsUptoRow.laid w):∀b vs,(b,vs)∈glTab→∃t fr,w.heap[b]?=some (.cells vs t fr):=by
 intro b vs hb
 simp only [glTab,List.mem_singleton,Prod.mk.injEq] at hb
 obtain ⟨rfl,rfl⟩:=hb
 exact tab_third (t:=222) (e:=192) (n:=20) (by kernel_rfl) (by kernel_rfl) (by kernel_rfl) (by kernel_rfl) (by kernel_rfl) (by kernel_rfl) h
noncomputable def valsOf:DataW Unit→Array Value
 | .agg l=>(l.map fun x=>match x with | .lit (.int k z)=>Value.int k z | _=>Value.int .i64 0).toArray
 | _=>#[]
def setTab (vs:Array Value):Obj→Obj
 | .cells _ t fr=>.cells vs t fr
 | o=>o
noncomputable def laidWorld (os:Os):World :=
 { World.holding Tryz.prog os ⟨#[],#[],[]⟩ with heap:=(((World.holding Tryz.prog os ⟨#[],#[],[]⟩).heap.modify 1 (setTab (valsOf Rows.laid_internal_strconv_uint64pow10))).modify 2 (setTab (valsOf Rows.laid_math_bits_deBruijn32tab))).modify 3 (setTab (valsOf Rows.laid_math_bits_deBruijn64tab)) }
abbrev case0:Value:=.agg #[.slice none 0 0,.slice none 0 0,.slice none 0 0,.slice none 0 0,.slice none 0 0,.slice none 0 0,.int .i64 0,.slice none 0 0]
set_option maxRecDepth 100000 in
theorem laid_met (os:Os) (vs:Array Value):laidMet Tryz.prog Rows.idealArgsUptoRow.laid ((laidWorld os).forCall (fun _ _=>0) ⟨#[],vs,[]⟩).memory :=
 laidMet_of_run' 8 (by kernel_rfl) (by kernel_rfl)
end Go.Proofs.YthiifoleopdieaaGreatDoor
namespace Go.Proofs.YthiifoleopdieaaGreatDoor
open Go.Eng
set_option linter.all false
theorem mapC_ofQ {β:Type} {c:β→List AV} {Q:β→Prop}:∀{l:List (List AV)},(∀x∈l,∃y,x=c y∧Q y)→∃m:List β,l=mapC c m∧∀y∈m,Q y
 | [],_=>⟨[],rfl,by simp⟩
 | x::l,h=>by
  obtain ⟨y,rfl,hy⟩:=h x (by simp)
  obtain ⟨m,e,hl⟩:=mapC_ofQ (c:=c) (Q:=Q) (l:=l) fun z hz=>h z (by simp [hz])
  refine ⟨y::m,by rw [mapC_cons,←e],fun z hz=>?_⟩
  rcases List.mem_cons.1 hz with rfl | hz
  ·exact hy
  ·exact hl z hz
theorem wf64 {n:Int} (h:(Lit.int .i64 n).wf=true):-9223372036854775808≤n∧n≤9223372036854775807:=by
 simp only [Lit.wf,Bool.and_eq_true,decide_eq_true_eq] at h
 exact h
theorem val_rng (v:Val):Shp Tryz.prog 52 (valC v)→v.Rng:=by
 refine Val.ind (Q:=fun v=>Shp Tryz.prog 52 (valC v)→v.Rng) (fun v ih h=>?_) v
 rw [valC_eq] at h
 obtain ⟨parts,e0,hl,hp⟩:=shp_struct Tryz.underlying52 h
 obtain ⟨a,b,c,d,e,rfl⟩:=ds_n5 (show parts.length=5 from hl)
 obtain ⟨a,rfl,_⟩:=shp_int Tryz.underlying3 (hp 0 _ a rfl rfl)
 obtain ⟨b,rfl,hb⟩:=shp_int Tryz.underlying3 (hp 1 _ b rfl rfl)
 obtain ⟨c,rfl,_⟩:=shp_string Tryz.underlying9 (hp 2 _ c rfl rfl)
 obtain ⟨l,rfl,_,hx⟩:=shp_slice Tryz.underlying50 (hp 3 _ d rfl rfl)
 obtain ⟨k,rfl,_,hy⟩:=shp_slice Tryz.underlying22 (hp 4 _ e rfl rfl)
 simp only [zlt,List.flatten_nil,List.cons_append,List.nil_append,List.cons.injEq,AV.i.injEq,AV.ds.injEq,true_and,and_true] at e0
 obtain ⟨_,e1,_,e2,_⟩:=e0
 have:=wf64 hb
 refine .mk v (by omega) (by omega) fun x hx'=>ih x hx' (hx _ ?_)
 rw [←e2]
 exact List.mem_map_of_mem (f:=valC) hx'
theorem shp_valQ {L:List AV} (h:Shp Tryz.prog 52 L) (hb:avL L≤1048576):∃v:Val,L=valC v∧VSm v:=by
 obtain ⟨v,rfl⟩:=shp_val h
 have:=valC_av v
 exact ⟨v,rfl,⟨wtV_fit v (by omega),val_rng v h,hb⟩⟩
theorem avL_app:∀a b:List AV,avL (a++b)=avL a+avL b
 | [],b=>by simp [avL]
 | x::a,b=>by rw [List.cons_append,avL,avL,avL_app a b];omega
theorem shp_celQ {L:List AV} (h:Shp Tryz.prog 65 L) (hb:avL L≤1048576):∃x:Cel,L=celC x∧VSm x.v:=by
 obtain ⟨parts,rfl,hl,hp⟩:=shp_struct Tryz.underlying65 h
 obtain ⟨a,b,c,rfl⟩:=ds_n3 (show parts.length=3 from hl)
 obtain ⟨a,rfl,_⟩:=shp_string Tryz.underlying9 (hp 0 _ a rfl rfl)
 obtain ⟨b,rfl,_⟩:=shp_string Tryz.underlying9 (hp 1 _ b rfl rfl)
 simp only [zlt,List.flatten_nil,avL_app,avL] at hb
 obtain ⟨v,rfl,hv⟩:=shp_valQ (hp 2 _ c rfl rfl) (by omega)
 refine ⟨.mk a b v,?_,hv⟩
 rw [valC_eq]
 rfl
theorem celC_one (c:Cel):1≤avL (celC c):=by have:=celC_av c;omega
theorem shp_itmQ {L:List AV} (h:Shp Tryz.prog 70 L) (hb:avL L≤1048576):∃x:Itm,L=itC x∧(∀c∈x.l,VSm c.v)∧x.l.length≤1048576:=by
 obtain ⟨parts,rfl,hl,hp⟩:=shp_struct Tryz.underlying70 h
 obtain ⟨a,b,rfl⟩:=ds_n2 (show parts.length=2 from hl)
 obtain ⟨a,rfl,_⟩:=shp_string Tryz.underlying9 (hp 0 _ a rfl rfl)
 obtain ⟨l,rfl,_,hx⟩:=shp_slice Tryz.underlying68 (hp 1 _ b rfl rfl)
 simp only [zlt,List.flatten_nil,avL_app,avL,avw] at hb
 obtain ⟨cs,rfl,hq⟩:=mapC_ofQ (c:=celC) (Q:=fun c=>VSm c.v) fun x h=>shp_celQ (hx x h) (by have:=avLL_mem h;omega)
 have:=mapC_len_le celC_one cs
 exact ⟨.mk a cs,rfl,hq,by simp only [Itm.l_mk];omega⟩
theorem shp_wriQ {L:List AV} (h:Shp Tryz.prog 72 L) (hb:avL L≤1048576):∃x:Wri,L=wrC x∧VSm x.c.v:=by
 obtain ⟨parts,rfl,hl,hp⟩:=shp_struct Tryz.underlying72 h
 obtain ⟨a,b,c,d,rfl⟩:=ds_n4 (show parts.length=4 from hl)
 obtain ⟨a,rfl,_⟩:=shp_string Tryz.underlying9 (hp 0 _ a rfl rfl)
 obtain ⟨b,rfl,_⟩:=shp_string Tryz.underlying9 (hp 1 _ b rfl rfl)
 obtain ⟨c,rfl,_⟩:=shp_int Tryz.underlying3 (hp 2 _ c rfl rfl)
 simp only [zlt,List.flatten_nil,avL_app,avL,avw] at hb
 obtain ⟨x,rfl,hx⟩:=shp_celQ (hp 3 _ d rfl rfl) (by omega)
 exact ⟨.mk a b c x,rfl,hx⟩
theorem shp_datQ {L:List AV} (h:Shp Tryz.prog 33 L) (hb:avL L≤1048576):∃d:Dat,L=[.ds (mapC itC d.i),.ds (mapC wrC d.w)]∧DOk d 1048576∧d.w.length≤1048576:=by
 obtain ⟨parts,rfl,hl,hp⟩:=shp_struct Tryz.underlying33 h
 obtain ⟨a,b,rfl⟩:=ds_n2 (show parts.length=2 from hl)
 obtain ⟨l,rfl,_,hx⟩:=shp_slice Tryz.underlying30 (hp 0 _ a rfl rfl)
 obtain ⟨l2,rfl,_,hy⟩:=shp_slice Tryz.underlying31 (hp 1 _ b rfl rfl)
 simp only [zlt,List.flatten_nil,avL_app,avL,avw] at hb
 obtain ⟨is,rfl,hi⟩:=mapC_ofQ (c:=itC) (Q:=fun x=>(∀c∈x.l,VSm c.v)∧x.l.length≤1048576) fun x h=>shp_itmQ (hx x h) (by have:=avLL_mem h;omega)
 obtain ⟨ws,rfl,hw⟩:=mapC_ofQ (c:=wrC) (Q:=fun x=>VSm x.c.v) fun x h=>shp_wriQ (hy x h) (by have:=avLL_mem h;omega)
 have hwl:ws.length≤avLL (mapC wrC ws):=mapC_len_le (fun x=>by simp [wrC,avL,avw];omega) _
 refine ⟨.mk is ws,rfl,⟨⟨dat_fit _ (by simp only [dx,avw,avL,Dat.i_mk,Dat.w_mk];omega),by simp only [Dat.w_mk];omega,fun x hx=>by have:=(hi x hx).2;omega⟩,fun x hx=>(hi x hx).1,hw,fun x hx=>(hi x hx).2⟩,by simp only [Dat.w_mk];omega⟩
theorem shp_argQ {L:List AV} (h:Shp Tryz.prog 75 L) (hb:avL L≤1048576):∃x:Arg,L=argC x∧VSm x.v:=by
 obtain ⟨parts,rfl,hl,hp⟩:=shp_struct Tryz.underlying75 h
 obtain ⟨a,b,rfl⟩:=ds_n2 (show parts.length=2 from hl)
 obtain ⟨a,rfl,_⟩:=shp_string Tryz.underlying9 (hp 0 _ a rfl rfl)
 simp only [zlt,List.flatten_nil,avL_app,avL,avw] at hb
 obtain ⟨v,rfl,hv⟩:=shp_valQ (hp 1 _ b rfl rfl) (by omega)
 refine ⟨.mk a v,?_,hv⟩
 rw [valC_eq]
 rfl
theorem argC_one (a:Arg):1≤avL (argC a):=by simp [argC,avL,avw];omega
theorem pkC_one (p:Pk):1≤avL (pkC p):=by rw [pkC_eq];simp [avL,avw];omega
theorem shp_pkQ {L:List AV} (h:Shp Tryz.prog 47 L) (hb:avL L≤1048576):∃x:Pk,L=pkC x∧x.Ok:=by
 suffices key:∀(n:Nat) (L:List AV),avL L≤n→avL L≤1048576→Shp Tryz.prog 47 L→∃x:Pk,L=pkC x∧x.Ok from key _ L (Nat.le_refl _) hb h
 intro n
 induction n with
 | zero =>
  intro L hn hb h
  obtain ⟨parts,rfl,hl,hp⟩:=shp_struct Tryz.underlying47 h
  match parts,hl,hp,hn with
  | a::r,_,hp,hn =>
   obtain ⟨a,rfl,_⟩:=shp_string Tryz.underlying9 (hp 0 _ a rfl rfl)
   simp [avL,avw] at hn
 | succ n ih =>
  intro L hn hb h
  obtain ⟨parts,rfl,hl,hp⟩:=shp_struct Tryz.underlying47 h
  match parts,hl,hp,hn,hb with
  | [a,b,c,d,e,f,g,i],_,hp,hn,hb =>
   obtain ⟨a,rfl,_⟩:=shp_string Tryz.underlying9 (hp 0 _ a rfl rfl)
   obtain ⟨b,rfl,_⟩:=shp_string Tryz.underlying9 (hp 1 _ b rfl rfl)
   obtain ⟨c,rfl,_⟩:=shp_string Tryz.underlying9 (hp 2 _ c rfl rfl)
   obtain ⟨l,rfl,_,hx⟩:=shp_slice Tryz.underlying42 (hp 3 _ d rfl rfl)
   obtain ⟨ts,rfl,hl2,hp2⟩:=shp_struct Tryz.underlying45 (hp 4 _ e rfl rfl)
   obtain ⟨t,u,rfl⟩:=ds_n2 (show ts.length=2 from hl2)
   obtain ⟨t,rfl,_⟩:=shp_string Tryz.underlying9 (hp2 0 _ t rfl rfl)
   obtain ⟨w,rfl,_,hy⟩:=shp_slice Tryz.underlying43 (hp2 1 _ u rfl rfl)
   obtain ⟨ws,rfl,_⟩:=mapC_of (c:=in1) fun x h=>by
    obtain ⟨n,rfl,_⟩:=shp_int Tryz.underlying3 (hy x h)
    exact ⟨n,rfl⟩
   obtain ⟨f,rfl,_⟩:=shp_string Tryz.underlying9 (hp 5 _ f rfl rfl)
   obtain ⟨g,rfl,_⟩:=shp_int Tryz.underlying3 (hp 6 _ g rfl rfl)
   obtain ⟨p,rfl,_,hz⟩:=shp_slice Tryz.underlying34 (hp 7 _ i rfl rfl)
   simp only [zlt,List.flatten_nil,avL_app,avL,avw] at hb hn
   obtain ⟨al,rfl,ha⟩:=mapC_ofQ (c:=argC) (Q:=fun a=>VSm a.v) fun x h=>shp_argQ (hx x h) (by have:=avLL_mem h;omega)
   obtain ⟨ps,rfl,hps⟩:=mapC_ofQ (c:=pkC) (Q:=fun p=>p.Ok) fun x h=>ih x (by have:=avLL_mem h;omega) (by have:=avLL_mem h;omega) (hz x h)
   have h1:=mapC_len_le argC_one al
   have h2:=mapC_len_le pkC_one ps
   exact ⟨.mk a b c al t ws f g ps,by rw [pkC_eq];rfl,.mk _ ⟨ha,by simp only [Pk.args];omega,by simp only [Pk.args];omega⟩ (by simp only [Pk.picks];omega) hps⟩
theorem shp_strs {l:List (List AV)} (h:∀x∈l,Shp Tryz.prog 9 x):∃m,l=stC m:=by
 obtain ⟨ks,rfl,_⟩:=mapC_of (c:=st1) (l:=l) fun x hx=>by
  obtain ⟨s,rfl,_⟩:=shp_string Tryz.underlying9 (h x hx)
  exact ⟨s,rfl⟩
 exact ⟨ks,rfl⟩
theorem shp_jnQ {L:List AV} (h:Shp Tryz.prog 63 L) (hb:avL L≤1048576):∃x:Jn,L=jnC x∧x.req.length≤1048576:=by
 obtain ⟨parts,rfl,hl,hp⟩:=shp_struct Tryz.underlying63 h
 match parts,hl,hp,hb with
 | [a,b,c,d,e,f],_,hp,hb =>
  obtain ⟨a,rfl,_⟩:=shp_string Tryz.underlying9 (hp 0 _ a rfl rfl)
  obtain ⟨b,rfl,_⟩:=shp_string Tryz.underlying9 (hp 1 _ b rfl rfl)
  obtain ⟨c,rfl,_⟩:=shp_int Tryz.underlying3 (hp 2 _ c rfl rfl)
  obtain ⟨d,rfl⟩:=shp_bool Tryz.underlying4 (hp 3 _ d rfl rfl)
  obtain ⟨l,rfl,_,hx⟩:=shp_slice Tryz.underlying22 (hp 4 _ e rfl rfl)
  obtain ⟨l2,rfl,_,hy⟩:=shp_slice Tryz.underlying22 (hp 5 _ f rfl rfl)
  simp only [zlt,List.flatten_nil,avL_app,avL,avw] at hb
  obtain ⟨r,rfl⟩:=shp_strs hx
  obtain ⟨q,rfl⟩:=shp_strs hy
  have h1:r.length≤avLL (stC r):=mapC_len_le st1_av r
  exact ⟨.mk a b c d r q,rfl,by simp only [Jn.req_mk];omega⟩
theorem shp_kyQ {L:List AV} (h:Shp Tryz.prog 240 L):∃x:Ky,L=kyC x:=by
 obtain ⟨parts,rfl,hl,hp⟩:=shp_struct Tryz.underlying240 h
 obtain ⟨a,b,c,rfl⟩:=ds_n3 (show parts.length=3 from hl)
 obtain ⟨a,rfl,_⟩:=shp_string Tryz.underlying9 (hp 0 _ a rfl rfl)
 obtain ⟨b,rfl,_⟩:=shp_int Tryz.underlying3 (hp 1 _ b rfl rfl)
 obtain ⟨l,rfl,_,hx⟩:=shp_slice Tryz.underlying22 (hp 2 _ c rfl rfl)
 obtain ⟨r,rfl⟩:=shp_strs hx
 exact ⟨.mk a b r,rfl⟩
theorem shp_fldQ {L:List AV} (h:Shp Tryz.prog 147 L):∃x:Fld,L=fldC x:=by
 obtain ⟨parts,rfl,hl,hp⟩:=shp_struct Tryz.underlying147 h
 obtain ⟨a,b,c,d,rfl⟩:=ds_n4 (show parts.length=4 from hl)
 obtain ⟨a,rfl,_⟩:=shp_string Tryz.underlying9 (hp 0 _ a rfl rfl)
 obtain ⟨l,rfl,_,_⟩:=shp_slice Tryz.underlying143 (hp 1 _ b rfl rfl)
 obtain ⟨ts,rfl,hl2,hp2⟩:=shp_struct Tryz.underlying45 (hp 2 _ c rfl rfl)
 obtain ⟨t,u,rfl⟩:=ds_n2 (show ts.length=2 from hl2)
 obtain ⟨t,rfl,_⟩:=shp_string Tryz.underlying9 (hp2 0 _ t rfl rfl)
 obtain ⟨w,rfl,_,_⟩:=shp_slice Tryz.underlying43 (hp2 1 _ u rfl rfl)
 obtain ⟨l2,rfl,_,_⟩:=shp_slice Tryz.underlying140 (hp 3 _ d rfl rfl)
 exact ⟨.mk a l t w l2,rfl⟩
theorem fldC_one (x:Fld):1≤avL (fldC x):=by simp only [fldC,avL,avw];omega
theorem shp_dfnQ {L:List AV} (h:Shp Tryz.prog 145 L) (hb:avL L≤1048576):∃x:Dfn,L=dfC x∧x.fields.length≤1000000000000:=by
 obtain ⟨parts,rfl,hl,hp⟩:=shp_struct Tryz.underlying145 h
 match parts,hl,hp,hb with
 | [a,b,c,d,e,f,g],_,hp,hb =>
  obtain ⟨a,rfl,_⟩:=shp_int Tryz.underlying3 (hp 0 _ a rfl rfl)
  obtain ⟨b,rfl,_⟩:=shp_string Tryz.underlying9 (hp 1 _ b rfl rfl)
  obtain ⟨c,rfl,_,_⟩:=shp_slice Tryz.underlying22 (hp 2 _ c rfl rfl)
  obtain ⟨d,rfl,_,_⟩:=shp_slice Tryz.underlying140 (hp 3 _ d rfl rfl)
  obtain ⟨l,rfl,_,hx⟩:=shp_slice Tryz.underlying141 (hp 4 _ e rfl rfl)
  obtain ⟨f,rfl,_,_⟩:=shp_slice Tryz.underlying142 (hp 5 _ f rfl rfl)
  obtain ⟨g,rfl,_,_⟩:=shp_slice Tryz.underlying143 (hp 6 _ g rfl rfl)
  simp only [zlt,List.flatten_nil,avL_app,avL,avw] at hb
  obtain ⟨fs,rfl,_⟩:=mapC_of (c:=fldC) fun x h=>shp_fldQ (hx x h)
  have h1:=mapC_len_le fldC_one fs
  exact ⟨.mk a b c d fs f g,rfl,by simp only [Dfn.fields_mk];omega⟩
theorem dfC_one (x:Dfn):1≤avL (dfC x):=by simp only [dfC,avL,avw];omega
theorem jnC_one (x:Jn):1≤avL (jnC x):=by simp only [jnC,avL,avw];omega
theorem shp_supQ {L:List AV} (h:Shp Tryz.prog 29 L) (hb:avL L≤1048576) :
  ∃s:Sup,L=[.ds (stC s.g),.ds (mapC dfC s.doc),.ds (mapC kyC s.keys),.ds (mapC jnC s.joins)]∧SOk s∧∀t∈s.doc,t.fields.length≤1000000000000:=by
 obtain ⟨parts,rfl,hl,hp⟩:=shp_struct Tryz.underlying29 h
 obtain ⟨a,b,c,d,rfl⟩:=ds_n4 (show parts.length=4 from hl)
 obtain ⟨a,rfl,_,ha⟩:=shp_slice Tryz.underlying22 (hp 0 _ a rfl rfl)
 obtain ⟨ts,rfl,hl2,hp2⟩:=shp_struct Tryz.underlying25 (hp 1 _ b rfl rfl)
 match ts,hl2,hp2,hb with
 | [t],_,hp2,hb =>
  obtain ⟨t,rfl,_,ht⟩:=shp_slice Tryz.underlying23 (hp2 0 _ t rfl rfl)
  obtain ⟨c,rfl,_,hc⟩:=shp_slice Tryz.underlying26 (hp 2 _ c rfl rfl)
  obtain ⟨d,rfl,_,hd⟩:=shp_slice Tryz.underlying27 (hp 3 _ d rfl rfl)
  simp only [zlt,List.flatten_nil,avL_app,avL,avw] at hb
  obtain ⟨g,rfl⟩:=shp_strs ha
  obtain ⟨doc,rfl,hdoc⟩:=mapC_ofQ (c:=dfC) (Q:=fun t=>t.fields.length≤1000000000000) fun x h=>shp_dfnQ (ht x h) (by have:=avLL_mem h;omega)
  obtain ⟨ks,rfl,_⟩:=mapC_of (c:=kyC) fun x h=>shp_kyQ (hc x h)
  obtain ⟨js,rfl,hjs⟩:=mapC_ofQ (c:=jnC) (Q:=fun j=>j.req.length≤1048576) fun x h=>shp_jnQ (hd x h) (by have:=avLL_mem h;omega)
  have h1:=mapC_len_le dfC_one doc
  have h2:=mapC_len_le jnC_one js
  exact ⟨.mk g doc ks js,rfl,⟨by simp only [Sup.joins_mk];omega,hjs,by simp only [Sup.doc_mk];omega⟩,hdoc⟩
structure COk (S:Sup) (D:Dat) (P:Pln):Prop where
 s:SOk S
 f:∀t∈S.doc,t.fields.length≤1000000000000
 d:DOk D 1048576
 w:D.w.length≤1048576
 l:P.l.length≤1048576
 p:∀x∈P.l,x.Ok
abbrev casex (s:Sup) (d:Dat) (p:Pln):AV:=.ag [.ds (stC s.g),.ds (mapC dfC s.doc),.ds (mapC kyC s.keys),.ds (mapC jnC s.joins),.ds (mapC itC d.i),.ds (mapC wrC d.w),.i .i64 p.k,.ds (mapC pkC p.l)]
end Go.Proofs.YthiifoleopdieaaGreatDoor
