/- Proof. Conditions: none. -/
import Derived.Test.YtinbodeocoeneaaGreatDoorIe46
open Nat renaming reduceEqDiff→Za,reduceBEq→Zb,reduceAdd→Zc,reduceLeDiff→Zd,reduceLT→Ze,reduceMul→Zf,reduceSub→Zg
open Int renaming reduceEq→Zh,reduceLT→Zi,reduceLE→Zj,reduceToNat→Zk
open List renaming flatten_cons→zlt
open Nat renaming le_refl→zna
namespace Go.Proofs.YtinbodeocoeneaaGreatDoor
open Go.Eng
set_option linter.all false
theorem mapC_ofQ {β:Type} {c:β→List AV} {Q:β→Prop}:∀{l:List (List AV)},(∀x∈l,∃y,x=c y∧Q y)→∃m:List β,l=mapC c m∧∀y∈m,Q y
 | [],_=>⟨[],rfl,by simp⟩
 | x::l,h=>by
  obtain ⟨y,rfl,hy⟩:=h x (by simp)
  obtain ⟨m,e,hl⟩:=mapC_ofQ (c:=c) (Q:=Q) (l:=l) fun z hz=>h z (by simp [hz])
  refine ⟨y::m,by rw [mapC_cons,←e],fun z hz=>?_⟩
  rcases List.mem_cons.1 hz with rfl | hz
  .exact hy
  .exact hl z hz
theorem wf64 {n:Int} (h:(Lit.int .i64 n).wf=true):-9223372036854775808≤n∧n≤9223372036854775807:=by
 simp only [Lit.wf,Bool.and_eq_true,decide_eq_true_eq] at h
 exact h
theorem val_rng (v:Val):Shp Tryz.prog 42 (valC v)→v.Rng:=by
 refine Val.ind (Q:=fun v=>Shp Tryz.prog 42 (valC v)→v.Rng) (fun v ih h=>?_) v
 rw [valC_eq] at h
 obtain ⟨parts,e0,hl,hp⟩:=shp_struct Tryz.underlying42 h
 obtain ⟨a,b,c,d,e,rfl⟩:=ds_n5 (show parts.length=5 from hl)
 obtain ⟨a,rfl,_⟩:=shp_int Tryz.underlying3 (hp 0 _ a rfl rfl)
 obtain ⟨b,rfl,hb⟩:=shp_int Tryz.underlying3 (hp 1 _ b rfl rfl)
 obtain ⟨c,rfl,_⟩:=shp_string Tryz.underlying9 (hp 2 _ c rfl rfl)
 obtain ⟨l,rfl,_,hx⟩:=shp_slice Tryz.underlying40 (hp 3 _ d rfl rfl)
 obtain ⟨k,rfl,_,hy⟩:=shp_slice Tryz.underlying22 (hp 4 _ e rfl rfl)
 simp only [zlt,List.flatten_nil,List.cons_append,List.nil_append,List.cons.injEq,AV.i.injEq,AV.ds.injEq,true_and,and_true] at e0
 obtain ⟨_,e1,_,e2,_⟩:=e0
 have:=wf64 hb
 refine .mk v (by omega) (by omega) fun x hx'=>ih x hx' (hx _ ?_)
 rw [←e2]
 exact List.mem_map_of_mem (f:=valC) hx'
theorem shp_valQ {L:List AV} (h:Shp Tryz.prog 42 L) (hb:avL L≤1048576):∃v:Val,L=valC v∧VSm v:=by
 obtain ⟨v,rfl⟩:=shp_val h
 have:=valC_av v
 exact ⟨v,rfl,⟨wtV_fit v (by omega),val_rng v h,hb⟩⟩
theorem avL_app:∀a b:List AV,avL (a++b)=avL a+avL b
 | [],b=>by simp [avL]
 | x::a,b=>by rw [List.cons_append,avL,avL,avL_app a b];omega
theorem shp_celQ {L:List AV} (h:Shp Tryz.prog 89 L) (hb:avL L≤1048576):∃x:Cel,L=celC x∧VSm x.v:=by
 obtain ⟨parts,rfl,hl,hp⟩:=shp_struct Tryz.underlying89 h
 obtain ⟨a,b,c,rfl⟩:=ds_n3 (show parts.length=3 from hl)
 obtain ⟨a,rfl,_⟩:=shp_string Tryz.underlying9 (hp 0 _ a rfl rfl)
 obtain ⟨b,rfl,_⟩:=shp_string Tryz.underlying9 (hp 1 _ b rfl rfl)
 simp only [zlt,List.flatten_nil,avL_app,avL] at hb
 obtain ⟨v,rfl,hv⟩:=shp_valQ (hp 2 _ c rfl rfl) (by omega)
 refine ⟨.mk a b v,?_,hv⟩
 rw [valC_eq]
 rfl
theorem celC_one (c:Cel):1≤avL (celC c):=by have:=celC_av c;omega
theorem shp_itmQ {L:List AV} (h:Shp Tryz.prog 92 L) (hb:avL L≤1048576):∃x:Itm,L=itC x∧(∀c∈x.l,VSm c.v)∧x.l.length≤1048576:=by
 obtain ⟨parts,rfl,hl,hp⟩:=shp_struct Tryz.underlying92 h
 obtain ⟨a,b,rfl⟩:=ds_n2 (show parts.length=2 from hl)
 obtain ⟨a,rfl,_⟩:=shp_string Tryz.underlying9 (hp 0 _ a rfl rfl)
 obtain ⟨l,rfl,_,hx⟩:=shp_slice Tryz.underlying90 (hp 1 _ b rfl rfl)
 simp only [zlt,List.flatten_nil,avL_app,avL,avw] at hb
 obtain ⟨cs,rfl,hq⟩:=mapC_ofQ (c:=celC) (Q:=fun c=>VSm c.v) fun x h=>shp_celQ (hx x h) (by have:=avLL_mem h;omega)
 have:=mapC_len_le celC_one cs
 exact ⟨.mk a cs,rfl,hq,by simp only [Itm.l_mk];omega⟩
theorem shp_wriQ {L:List AV} (h:Shp Tryz.prog 129 L) (hb:avL L≤1048576):∃x:Wri,L=wrC x∧VSm x.c.v:=by
 obtain ⟨parts,rfl,hl,hp⟩:=shp_struct Tryz.underlying129 h
 obtain ⟨a,b,c,d,rfl⟩:=ds_n4 (show parts.length=4 from hl)
 obtain ⟨a,rfl,_⟩:=shp_string Tryz.underlying9 (hp 0 _ a rfl rfl)
 obtain ⟨b,rfl,_⟩:=shp_string Tryz.underlying9 (hp 1 _ b rfl rfl)
 obtain ⟨c,rfl,_⟩:=shp_int Tryz.underlying3 (hp 2 _ c rfl rfl)
 simp only [zlt,List.flatten_nil,avL_app,avL,avw] at hb
 obtain ⟨x,rfl,hx⟩:=shp_celQ (hp 3 _ d rfl rfl) (by omega)
 exact ⟨.mk a b c x,rfl,hx⟩
theorem shp_datQ {L:List AV} (h:Shp Tryz.prog 33 L) (hb:avL L≤1048576):∃d:Dat,L=[.ds (mapC itC d.i),.ds (mapC wrC d.w)]∧DOk d 1048576∧d.w.length≤1048576:=by
 obtain ⟨parts,rfl,hl,hp⟩:=shp_struct Tryz.underlying33 h
 obtain ⟨a,b,rfl⟩:=ds_n2 (show parts.length=2 from hl)
 obtain ⟨l,rfl,_,hx⟩:=shp_slice Tryz.underlying30 (hp 0 _ a rfl rfl)
 obtain ⟨l2,rfl,_,hy⟩:=shp_slice Tryz.underlying31 (hp 1 _ b rfl rfl)
 simp only [zlt,List.flatten_nil,avL_app,avL,avw] at hb
 obtain ⟨is,rfl,hi⟩:=mapC_ofQ (c:=itC) (Q:=fun x=>(∀c∈x.l,VSm c.v)∧x.l.length≤1048576) fun x h=>shp_itmQ (hx x h) (by have:=avLL_mem h;omega)
 obtain ⟨ws,rfl,hw⟩:=mapC_ofQ (c:=wrC) (Q:=fun x=>VSm x.c.v) fun x h=>shp_wriQ (hy x h) (by have:=avLL_mem h;omega)
 have hwl:ws.length≤avLL (mapC wrC ws):=mapC_len_le (fun x=>by simp [wrC,avL,avw];omega) _
 refine ⟨.mk is ws,rfl,⟨⟨dat_fit _ (by simp only [dx,avw,avL,Dat.i_mk,Dat.w_mk];omega),by simp only [Dat.w_mk];omega,fun x hx=>by have:=(hi x hx).2;omega⟩,fun x hx=>(hi x hx).1,hw,fun x hx=>(hi x hx).2⟩,by simp only [Dat.w_mk];omega⟩
theorem shp_argQ {L:List AV} (h:Shp Tryz.prog 136 L) (hb:avL L≤1048576):∃x:Arg,L=argC x∧VSm x.v:=by
 obtain ⟨parts,rfl,hl,hp⟩:=shp_struct Tryz.underlying136 h
 obtain ⟨a,b,rfl⟩:=ds_n2 (show parts.length=2 from hl)
 obtain ⟨a,rfl,_⟩:=shp_string Tryz.underlying9 (hp 0 _ a rfl rfl)
 simp only [zlt,List.flatten_nil,avL_app,avL,avw] at hb
 obtain ⟨v,rfl,hv⟩:=shp_valQ (hp 1 _ b rfl rfl) (by omega)
 refine ⟨.mk a v,?_,hv⟩
 rw [valC_eq]
 rfl
theorem argC_one (a:Arg):1≤avL (argC a):=by simp [argC,avL,avw];omega
theorem pkC_one (p:Pk):1≤avL (pkC p):=by rw [pkC_eq];simp [avL,avw];omega
theorem shp_pkQ {L:List AV} (h:Shp Tryz.prog 49 L) (hb:avL L≤1048576):∃x:Pk,L=pkC x∧x.Ok:=by
 suffices key:∀(n:Nat) (L:List AV),avL L≤n→avL L≤1048576→Shp Tryz.prog 49 L→∃x:Pk,L=pkC x∧x.Ok from key _ L (zna _) hb h
 intro n
 induction n with
 | zero =>
  intro L hn hb h
  obtain ⟨parts,rfl,hl,hp⟩:=shp_struct Tryz.underlying49 h
  match parts,hl,hp,hn with
  | a::r,_,hp,hn =>
   obtain ⟨a,rfl,_⟩:=shp_string Tryz.underlying9 (hp 0 _ a rfl rfl)
   simp [avL,avw] at hn
 | succ n ih =>
  intro L hn hb h
  obtain ⟨parts,rfl,hl,hp⟩:=shp_struct Tryz.underlying49 h
  match parts,hl,hp,hn,hb with
  | [a,b,c,d,e,f,g,i],_,hp,hn,hb =>
   obtain ⟨a,rfl,_⟩:=shp_string Tryz.underlying9 (hp 0 _ a rfl rfl)
   obtain ⟨b,rfl,_⟩:=shp_string Tryz.underlying9 (hp 1 _ b rfl rfl)
   obtain ⟨c,rfl,_⟩:=shp_string Tryz.underlying9 (hp 2 _ c rfl rfl)
   obtain ⟨l,rfl,_,hx⟩:=shp_slice Tryz.underlying44 (hp 3 _ d rfl rfl)
   obtain ⟨ts,rfl,hl2,hp2⟩:=shp_struct Tryz.underlying47 (hp 4 _ e rfl rfl)
   obtain ⟨t,u,rfl⟩:=ds_n2 (show ts.length=2 from hl2)
   obtain ⟨t,rfl,_⟩:=shp_string Tryz.underlying9 (hp2 0 _ t rfl rfl)
   obtain ⟨w,rfl,_,hy⟩:=shp_slice Tryz.underlying45 (hp2 1 _ u rfl rfl)
   obtain ⟨ws,rfl,_⟩:=mapC_of (c:=in1) fun x h=>by
    obtain ⟨n,rfl,_⟩:=shp_int Tryz.underlying3 (hy x h)
    exact ⟨n,rfl⟩
   obtain ⟨f,rfl,_⟩:=shp_string Tryz.underlying9 (hp 5 _ f rfl rfl)
   obtain ⟨g,rfl,_⟩:=shp_int Tryz.underlying3 (hp 6 _ g rfl rfl)
   obtain ⟨p,rfl,_,hz⟩:=shp_slice Tryz.underlying34 (hp 7 _ i rfl rfl)
   simp only [zlt,List.flatten_nil,avL_app,avL,avw] at hb hn
   obtain ⟨al,rfl,ha⟩:=mapC_ofQ (c:=argC) (Q:=fun a=>VSm a.v) fun x h=>shp_argQ (hx x h) (by have:=avLL_mem h;omega)
   obtain ⟨ps,rfl,hps⟩:=mapC_ofQ (c:=pkC) (Q:=fun p=>p.Ok) fun x h=>ih x (by have:=avLL_mem h;omega) (by have:=avLL_mem h;omega) (hz x h)
   have h1:=mapC_len_le argC_one al
   have h2:=mapC_len_le pkC_one ps
   exact ⟨.mk a b c al t ws f g ps,by rw [pkC_eq];rfl,.mk _ ⟨ha,by simp only [Pk.args];omega,by simp only [Pk.args];omega⟩ (by simp only [Pk.picks];omega) hps⟩
theorem shp_strs {l:List (List AV)} (h:∀x∈l,Shp Tryz.prog 9 x):∃m,l=stC m:=by
 obtain ⟨ks,rfl,_⟩:=mapC_of (c:=st1) (l:=l) fun x hx=>by
  obtain ⟨s,rfl,_⟩:=shp_string Tryz.underlying9 (h x hx)
  exact ⟨s,rfl⟩
 exact ⟨ks,rfl⟩
theorem shp_jnQ {L:List AV} (h:Shp Tryz.prog 96 L) (hb:avL L≤1048576):∃x:Jn,L=jnC x∧x.req.length≤1048576:=by
 obtain ⟨parts,rfl,hl,hp⟩:=shp_struct Tryz.underlying96 h
 match parts,hl,hp,hb with
 | [a,b,c,d,e,f],_,hp,hb =>
  obtain ⟨a,rfl,_⟩:=shp_string Tryz.underlying9 (hp 0 _ a rfl rfl)
  obtain ⟨b,rfl,_⟩:=shp_string Tryz.underlying9 (hp 1 _ b rfl rfl)
  obtain ⟨c,rfl,_⟩:=shp_int Tryz.underlying3 (hp 2 _ c rfl rfl)
  obtain ⟨d,rfl⟩:=shp_bool Tryz.underlying4 (hp 3 _ d rfl rfl)
  obtain ⟨l,rfl,_,hx⟩:=shp_slice Tryz.underlying22 (hp 4 _ e rfl rfl)
  obtain ⟨l2,rfl,_,hy⟩:=shp_slice Tryz.underlying22 (hp 5 _ f rfl rfl)
  simp only [zlt,List.flatten_nil,avL_app,avL,avw] at hb
  obtain ⟨r,rfl⟩:=shp_strs hx
  obtain ⟨q,rfl⟩:=shp_strs hy
  have h1:r.length≤avLL (stC r):=mapC_len_le st1_av r
  exact ⟨.mk a b c d r q,rfl,by simp only [Jn.req_mk];omega⟩
theorem shp_kyQ {L:List AV} (h:Shp Tryz.prog 259 L):∃x:Ky,L=kyC x:=by
 obtain ⟨parts,rfl,hl,hp⟩:=shp_struct Tryz.underlying259 h
 obtain ⟨a,b,c,rfl⟩:=ds_n3 (show parts.length=3 from hl)
 obtain ⟨a,rfl,_⟩:=shp_string Tryz.underlying9 (hp 0 _ a rfl rfl)
 obtain ⟨b,rfl,_⟩:=shp_int Tryz.underlying3 (hp 1 _ b rfl rfl)
 obtain ⟨l,rfl,_,hx⟩:=shp_slice Tryz.underlying22 (hp 2 _ c rfl rfl)
 obtain ⟨r,rfl⟩:=shp_strs hx
 exact ⟨.mk a b r,rfl⟩
theorem shp_fldQ {L:List AV} (h:Shp Tryz.prog 105 L):∃x:Fld,L=fldC x:=by
 obtain ⟨parts,rfl,hl,hp⟩:=shp_struct Tryz.underlying105 h
 obtain ⟨a,b,c,d,rfl⟩:=ds_n4 (show parts.length=4 from hl)
 obtain ⟨a,rfl,_⟩:=shp_string Tryz.underlying9 (hp 0 _ a rfl rfl)
 obtain ⟨l,rfl,_,_⟩:=shp_slice Tryz.underlying102 (hp 1 _ b rfl rfl)
 obtain ⟨ts,rfl,hl2,hp2⟩:=shp_struct Tryz.underlying47 (hp 2 _ c rfl rfl)
 obtain ⟨t,u,rfl⟩:=ds_n2 (show ts.length=2 from hl2)
 obtain ⟨t,rfl,_⟩:=shp_string Tryz.underlying9 (hp2 0 _ t rfl rfl)
 obtain ⟨w,rfl,_,_⟩:=shp_slice Tryz.underlying45 (hp2 1 _ u rfl rfl)
 obtain ⟨l2,rfl,_,_⟩:=shp_slice Tryz.underlying103 (hp 3 _ d rfl rfl)
 exact ⟨.mk a l t w l2,rfl⟩
theorem fldC_one (x:Fld):1≤avL (fldC x):=by simp only [fldC,avL,avw];omega
theorem shp_dfnQ {L:List AV} (h:Shp Tryz.prog 109 L) (hb:avL L≤1048576):∃x:Dfn,L=dfC x∧x.fields.length≤1000000000000:=by
 obtain ⟨parts,rfl,hl,hp⟩:=shp_struct Tryz.underlying109 h
 match parts,hl,hp,hb with
 | [a,b,c,d,e,f,g],_,hp,hb =>
  obtain ⟨a,rfl,_⟩:=shp_int Tryz.underlying3 (hp 0 _ a rfl rfl)
  obtain ⟨b,rfl,_⟩:=shp_string Tryz.underlying9 (hp 1 _ b rfl rfl)
  obtain ⟨c,rfl,_,_⟩:=shp_slice Tryz.underlying22 (hp 2 _ c rfl rfl)
  obtain ⟨d,rfl,_,_⟩:=shp_slice Tryz.underlying103 (hp 3 _ d rfl rfl)
  obtain ⟨l,rfl,_,hx⟩:=shp_slice Tryz.underlying106 (hp 4 _ e rfl rfl)
  obtain ⟨f,rfl,_,_⟩:=shp_slice Tryz.underlying107 (hp 5 _ f rfl rfl)
  obtain ⟨g,rfl,_,_⟩:=shp_slice Tryz.underlying102 (hp 6 _ g rfl rfl)
  simp only [zlt,List.flatten_nil,avL_app,avL,avw] at hb
  obtain ⟨fs,rfl,_⟩:=mapC_of (c:=fldC) fun x h=>shp_fldQ (hx x h)
  have h1:=mapC_len_le fldC_one fs
  exact ⟨.mk a b c d fs f g,rfl,by simp only [Dfn.fields_mk];omega⟩
theorem dfC_one (x:Dfn):1≤avL (dfC x):=by simp only [dfC,avL,avw];omega
theorem jnC_one (x:Jn):1≤avL (jnC x):=by simp only [jnC,avL,avw];omega
theorem shp_supQ {L:List AV} (h:Shp Tryz.prog 29 L) (hb:avL L≤1048576) :
  ∃s:Sup,L=[.ds (stC s.g),.ds (mapC dfC s.doc),.ds (mapC kyC s.keys),.ds (mapC jnC s.joins)]∧SOk s∧∀t∈s.doc,t.fields.length≤1000000000000:=by
 obtain ⟨parts,rfl,hl,hp⟩:=shp_struct Tryz.underlying29 h
 obtain ⟨a,b,c,d,rfl⟩:=ds_n4 (show parts.length=4 from hl)
 obtain ⟨a,rfl,_,ha⟩:=shp_slice Tryz.underlying22 (hp 0 _ a rfl rfl)
 obtain ⟨ts,rfl,hl2,hp2⟩:=shp_struct Tryz.underlying25 (hp 1 _ b rfl rfl)
 match ts,hl2,hp2,hb with
 | [t],_,hp2,hb =>
  obtain ⟨t,rfl,_,ht⟩:=shp_slice Tryz.underlying23 (hp2 0 _ t rfl rfl)
  obtain ⟨c,rfl,_,hc⟩:=shp_slice Tryz.underlying26 (hp 2 _ c rfl rfl)
  obtain ⟨d,rfl,_,hd⟩:=shp_slice Tryz.underlying27 (hp 3 _ d rfl rfl)
  simp only [zlt,List.flatten_nil,avL_app,avL,avw] at hb
  obtain ⟨g,rfl⟩:=shp_strs ha
  obtain ⟨doc,rfl,hdoc⟩:=mapC_ofQ (c:=dfC) (Q:=fun t=>t.fields.length≤1000000000000) fun x h=>shp_dfnQ (ht x h) (by have:=avLL_mem h;omega)
  obtain ⟨ks,rfl,_⟩:=mapC_of (c:=kyC) fun x h=>shp_kyQ (hc x h)
  obtain ⟨js,rfl,hjs⟩:=mapC_ofQ (c:=jnC) (Q:=fun j=>j.req.length≤1048576) fun x h=>shp_jnQ (hd x h) (by have:=avLL_mem h;omega)
  have h1:=mapC_len_le dfC_one doc
  have h2:=mapC_len_le jnC_one js
  exact ⟨.mk g doc ks js,rfl,⟨by simp only [Sup.joins_mk];omega,hjs,by simp only [Sup.doc_mk];omega⟩,hdoc⟩
theorem valC_one (v:Val):1≤avL (valC v):=by rw [avL_val];omega
theorem readsS_vals {α:AV} (h:AS Tryz.prog 40 α) (hb:avw α≤1048576):∃l,α=.ds (mapC valC l)∧(∀v∈l,VSm v)∧l.length≤1048576:=by
 obtain ⟨l,rfl,_,h2⟩:=as_slice Tryz.underlying40 h
 simp only [avw] at hb
 obtain ⟨vs,rfl,hv⟩:=mapC_ofQ (c:=valC) (Q:=fun v=>VSm v) fun x h=>shp_valQ (h2 x h) (by have:=avLL_mem h;omega)
 have h1:=mapC_len_le valC_one vs
 exact ⟨vs,rfl,hv,by omega⟩
inductive Fet where
 | mk (g:Int) (dep:Int) (path:List (List AV)) (typ:ByteArray) (keys:List ByteArray) (key:Int) (picks:List Pk) (after:List (List AV))
def Fet.g:Fet→Int | .mk g _ _ _ _ _ _ _=>g
theorem Fet.g_mk (g:Int) (dep:Int) (path:List (List AV)) (typ:ByteArray) (keys:List ByteArray) (key:Int) (picks:List Pk) (after:List (List AV)):(Fet.mk g dep path typ keys key picks after).g=g:=rfl
def Fet.dep:Fet→Int | .mk _ dep _ _ _ _ _ _=>dep
theorem Fet.dep_mk (g:Int) (dep:Int) (path:List (List AV)) (typ:ByteArray) (keys:List ByteArray) (key:Int) (picks:List Pk) (after:List (List AV)):(Fet.mk g dep path typ keys key picks after).dep=dep:=rfl
def Fet.path:Fet→List (List AV) | .mk _ _ path _ _ _ _ _=>path
theorem Fet.path_mk (g:Int) (dep:Int) (path:List (List AV)) (typ:ByteArray) (keys:List ByteArray) (key:Int) (picks:List Pk) (after:List (List AV)):(Fet.mk g dep path typ keys key picks after).path=path:=rfl
def Fet.typ:Fet→ByteArray | .mk _ _ _ typ _ _ _ _=>typ
theorem Fet.typ_mk (g:Int) (dep:Int) (path:List (List AV)) (typ:ByteArray) (keys:List ByteArray) (key:Int) (picks:List Pk) (after:List (List AV)):(Fet.mk g dep path typ keys key picks after).typ=typ:=rfl
def Fet.keys:Fet→List ByteArray | .mk _ _ _ _ keys _ _ _=>keys
theorem Fet.keys_mk (g:Int) (dep:Int) (path:List (List AV)) (typ:ByteArray) (keys:List ByteArray) (key:Int) (picks:List Pk) (after:List (List AV)):(Fet.mk g dep path typ keys key picks after).keys=keys:=rfl
def Fet.key:Fet→Int | .mk _ _ _ _ _ key _ _=>key
theorem Fet.key_mk (g:Int) (dep:Int) (path:List (List AV)) (typ:ByteArray) (keys:List ByteArray) (key:Int) (picks:List Pk) (after:List (List AV)):(Fet.mk g dep path typ keys key picks after).key=key:=rfl
def Fet.picks:Fet→List Pk | .mk _ _ _ _ _ _ picks _=>picks
theorem Fet.picks_mk (g:Int) (dep:Int) (path:List (List AV)) (typ:ByteArray) (keys:List ByteArray) (key:Int) (picks:List Pk) (after:List (List AV)):(Fet.mk g dep path typ keys key picks after).picks=picks:=rfl
def Fet.after:Fet→List (List AV) | .mk _ _ _ _ _ _ _ after=>after
theorem Fet.after_mk (g:Int) (dep:Int) (path:List (List AV)) (typ:ByteArray) (keys:List ByteArray) (key:Int) (picks:List Pk) (after:List (List AV)):(Fet.mk g dep path typ keys key picks after).after=after:=rfl
theorem Fet.eta (x:Fet):Fet.mk x.g x.dep x.path x.typ x.keys x.key x.picks x.after=x:=by cases x;rfl
theorem Fet.ext {x y:Fet} (h0:x.g=y.g) (h1:x.dep=y.dep) (h2:x.path=y.path) (h3:x.typ=y.typ) (h4:x.keys=y.keys) (h5:x.key=y.key) (h6:x.picks=y.picks) (h7:x.after=y.after):x=y:=by cases x;cases y;simp only [Fet.g_mk,Fet.dep_mk,Fet.path_mk,Fet.typ_mk,Fet.keys_mk,Fet.key_mk,Fet.picks_mk,Fet.after_mk] at *;simp [*]
attribute [go_sem] Fet.g_mk Fet.dep_mk Fet.path_mk Fet.typ_mk Fet.keys_mk Fet.key_mk Fet.picks_mk Fet.after_mk
attribute [grind =] Fet.g_mk Fet.dep_mk Fet.path_mk Fet.typ_mk Fet.keys_mk Fet.key_mk Fet.picks_mk Fet.after_mk
attribute [ext] Fet.ext
attribute [grind ext] Fet.ext
abbrev fetx (f:Fet):AV:=.ag [.i .i64 f.g,.i .i64 f.dep,.ds f.path,.s f.typ,.ds (stC f.keys),.i .i64 f.key,.ds (mapC pkC f.picks),.ds f.after]
structure GOk (G:List Dfn) (S:Sup) (D:Dat):Prop where
 g:G.length≤1048576
 gf:∀t∈G,t.fields.length≤1000000000000
 s:SOk S
 f:∀t∈S.doc,t.fields.length≤1000000000000
 d:DOk D 1048576
 w:D.w.length≤1048576
abbrev grx (n:ByteArray) (g:List Dfn):AV:=.ag [.s n,.ds (mapC dfC g)]
abbrev casegx (n:ByteArray) (g:List Dfn) (s:Sup) (d:Dat):AV:=.ag [.s n,.ds (mapC dfC g),.ds (stC s.g),.ds (mapC dfC s.doc),.ds (mapC kyC s.keys),.ds (mapC jnC s.joins),.ds (mapC itC d.i),.ds (mapC wrC d.w)]
theorem shp_docQ {L:List AV} (h:Shp Tryz.prog 25 L) (hb:avL L≤1048576):∃g:List Dfn,L=[.ds (mapC dfC g)]∧g.length≤1048576∧∀t∈g,t.fields.length≤1000000000000:=by
 obtain ⟨ts,rfl,hl2,hp2⟩:=shp_struct Tryz.underlying25 h
 match ts,hl2,hp2,hb with
 | [t],_,hp2,hb =>
  obtain ⟨t,rfl,_,ht⟩:=shp_slice Tryz.underlying23 (hp2 0 _ t rfl rfl)
  simp only [zlt,List.flatten_nil,avL_app,avL,avw] at hb
  obtain ⟨doc,rfl,hdoc⟩:=mapC_ofQ (c:=dfC) (Q:=fun t=>t.fields.length≤1000000000000) fun x h=>shp_dfnQ (ht x h) (by have:=avLL_mem h;omega)
  have h1:=mapC_len_le dfC_one doc
  exact ⟨doc,rfl,by omega,hdoc⟩
theorem reads_case34 {α:AV} (h:AS Tryz.prog 66 α) (hb:avw α≤1048576):∃n g s d,α=casegx n g s d∧GOk g s d:=by
 obtain ⟨L,rfl,h2⟩:=as_struct Tryz.underlying66 h
 obtain ⟨parts,rfl,hl,hp⟩:=shp_struct Tryz.underlying66 h2
 obtain ⟨a,b,c,rfl⟩:=ds_n3 (show parts.length=3 from hl)
 obtain ⟨ts,rfl,hl2,hp2⟩:=shp_struct Tryz.underlying64 (hp 0 _ a rfl rfl)
 obtain ⟨t,u,rfl⟩:=ds_n2 (show ts.length=2 from hl2)
 obtain ⟨n,rfl,_⟩:=shp_string Tryz.underlying9 (hp2 0 _ t rfl rfl)
 simp only [zlt,List.flatten_nil,avL_app,avL,avw] at hb
 obtain ⟨g,rfl,hg,hgf⟩:=shp_docQ (hp2 1 _ u rfl rfl) (by omega)
 obtain ⟨s,rfl,hs,hf⟩:=shp_supQ (hp 1 _ b rfl rfl) (by omega)
 obtain ⟨d,rfl,hd,hw⟩:=shp_datQ (hp 2 _ c rfl rfl) (by omega)
 exact ⟨n,g,s,d,rfl,⟨hg,hgf,hs,hf,hd,hw⟩⟩
theorem reads_fetch {α:AV} (h:AS Tryz.prog 74 α) (hb:avw α≤1048576):∃f:Fet,α=fetx f∧f.keys.length≤1048576∧f.picks.length≤1048576∧∀x∈f.picks,x.Ok:=by
 obtain ⟨L,rfl,h2⟩:=as_struct Tryz.underlying74 h
 obtain ⟨parts,rfl,hl,hp⟩:=shp_struct Tryz.underlying74 h2
 match parts,hl,hp,hb with
 | [a,b,c,d,e,f,g,i],_,hp,hb =>
  obtain ⟨a,rfl,_⟩:=shp_int Tryz.underlying3 (hp 0 _ a rfl rfl)
  obtain ⟨b,rfl,_⟩:=shp_int Tryz.underlying3 (hp 1 _ b rfl rfl)
  obtain ⟨c,rfl,_,_⟩:=shp_slice Tryz.underlying72 (hp 2 _ c rfl rfl)
  obtain ⟨d,rfl,_⟩:=shp_string Tryz.underlying9 (hp 3 _ d rfl rfl)
  obtain ⟨e,rfl,_,he⟩:=shp_slice Tryz.underlying22 (hp 4 _ e rfl rfl)
  obtain ⟨f,rfl,_⟩:=shp_int Tryz.underlying3 (hp 5 _ f rfl rfl)
  obtain ⟨g,rfl,_,hg⟩:=shp_slice Tryz.underlying34 (hp 6 _ g rfl rfl)
  obtain ⟨i,rfl,_,_⟩:=shp_slice Tryz.underlying45 (hp 7 _ i rfl rfl)
  simp only [zlt,List.flatten_nil,avL_app,avL,avw] at hb
  obtain ⟨ks,rfl⟩:=shp_strs he
  obtain ⟨ps,rfl,hps⟩:=mapC_ofQ (c:=pkC) (Q:=fun p=>p.Ok) fun x h=>shp_pkQ (hg x h) (by have:=avLL_mem h;omega)
  have h1:=mapC_len_le pkC_one ps
  have h2:ks.length≤avLL (stC ks):=mapC_len_le st1_av ks
  exact ⟨.mk a b c d ks f ps i,rfl,by simp only [Fet.keys_mk];omega,by simp only [Fet.picks_mk];omega,by simpa only [Fet.picks_mk] using hps⟩
theorem reads_picks {α:AV} (h:AS Tryz.prog 34 α) (hb:avw α≤1048576):∃l:List Pk,α=.ds (mapC pkC l)∧l.length≤1048576∧∀x∈l,x.Ok:=by
 obtain ⟨l,rfl,_,h2⟩:=as_slice Tryz.underlying34 h
 simp only [avw] at hb
 obtain ⟨ps,rfl,hps⟩:=mapC_ofQ (c:=pkC) (Q:=fun p=>p.Ok) fun x h=>shp_pkQ (h2 x h) (by have:=avLL_mem h;omega)
 have h1:=mapC_len_le pkC_one ps
 exact ⟨ps,rfl,by omega,hps⟩
set_option maxRecDepth 20000
abbrev rvC (n:ByteArray) (g:List Dfn) (s:Sup) (d:Dat):List AV:=[.s n,.ds (mapC dfC g),.ds (stC s.g),.ds (mapC dfC s.doc),.ds (mapC kyC s.keys),.ds (mapC jnC s.joins),.ds (mapC itC d.i),.ds (mapC wrC d.w)]
def RepAt (hp:CH) (α:AV):Option Val→Prop
 | none=>α=.np
 | some r=>∃k,α=.bx k 0∧gc hp k=.bx [.i .i64 r.k,.i .i64 r.n,.s r.s,.ds (mapC valC r.items),.ds (stC r.keys)]
theorem vfail_ok (t:ByteArray) (hp:CH) (m:Nat):MeetsF Tryz.prog 58 hp m [.s t] (vx (failV t)):=by
 refine meetsF Tryz.func58 (by kernel_rfl) cc58 cr58 rfl fun hf=>?_;unfold ck58
 simp only [go_sem,↓reduceIte,Za,Zb,Zc,Zd,Ze,reduceCtorEq,Zf,Zg,Zh,Zi,Zj,Zk]
 rfl
theorem vexists_ok (n:ByteArray) (g:List Dfn) (s:Sup) (d:Dat) (i:Int) {c:Nat} {hp:CH} (hc:gc hp c=.bx (rvC n g s d)) (m:Nat):MeetsF Tryz.prog 101 hp m [.bx c 0,.i .i64 i] (.b (exB d i)):=by
 rw [exB]
 refine meetsF Tryz.func101 (by kernel_rfl) cc101 cr101 rfl fun hf=>?_;unfold ck101
 have hlt:=bx_lt hf hc
 simp (disch:=omega) only [ite_ne,hc,go_sem,↓reduceIte,Za,Zb,Zc,Zd,Ze,reduceCtorEq,Zf,Zg,Zh,Zi,Zj,Zk]
theorem vdefines_ok (n:ByteArray) (g:List Dfn) (hg:g.length≤1048576) (hgf:∀t∈g,t.fields.length≤1000000000000) (on f:ByteArray) (hp:CH) (m:Nat):MeetsF Tryz.prog 53 hp m [grx n g,.s on,.s f] (.b (defB g on f)):=by
 have h1:=tFind_ok g (by omega) on
 rw [defB]
 cases hR:findD' g on with
 | none =>
  rw [hR,resD] at h1
  refine meetsF Tryz.func53 (by kernel_rfl) cc53 cr53 rfl fun hf=>?_;unfold ck53
  simp only [go_sem,↓reduceIte,Za,Zb,Zc,Zd,Ze,reduceCtorEq,Zf,Zg,Zh,Zi,Zj,Zk]
  refine vcCall.f (h1 _ _) ?_
  simp only [go_sem,↓reduceIte,Za,Zb,Zc,Zd,Ze,reduceCtorEq,Zf,Zg,Zh,Zi,Zj,Zk]
 | some t =>
  rw [hR,resD] at h1
  have hm:t∈g:=List.mem_of_find?_eq_some (show g.find? _=some t from hR)
  have h2:=fField_ok t (hgf t hm) f
  obtain ⟨F,hF⟩:∃F,findF t.fields f=F:=⟨_,rfl⟩
  rw [hF,resF] at h2
  dsimp only
  rw [hF,sTypename]
  refine meetsF Tryz.func53 (by kernel_rfl) cc53 cr53 rfl fun hf=>?_;unfold ck53
  simp only [go_sem,↓reduceIte,Za,Zb,Zc,Zd,Ze,reduceCtorEq,Zf,Zg,Zh,Zi,Zj,Zk]
  refine vcCall.f (h1 _ _) ?_
  simp only [go_sem,↓reduceIte,Za,Zb,Zc,Zd,Ze,reduceCtorEq,Zf,Zg,Zh,Zi,Zj,Zk]
  refine cdK_of (fun q=>?_) (fun q=>?_)
  .have e:decide (t.k=1)=false:=by simpa using q
   rw [e]
   simp only [go_sem,↓reduceIte,Za,Zb,Zc,Zd,Ze,reduceCtorEq,Zf,Zg,Zh,Zi,Zj,Zk]
  .have e:decide (t.k=1)=true:=by simpa using q
   rw [e]
   simp only [go_sem,↓reduceIte,Za,Zb,Zc,Zd,Ze,reduceCtorEq,Zf,Zg,Zh,Zi,Zj,Zk]
   refine cdK_of (fun q2=>?_) (fun q2=>?_)
   .rw [q2]
    simp only [go_sem,↓reduceIte,Za,Zb,Zc,Zd,Ze,reduceCtorEq,Zf,Zg,Zh,Zi,Zj,Zk]
   .rw [q2]
    simp only [go_sem,↓reduceIte,Za,Zb,Zc,Zd,Ze,reduceCtorEq,Zf,Zg,Zh,Zi,Zj,Zk]
    refine vcCall.f (h2 _ _) ?_
    simp only [go_sem,↓reduceIte,Za,Zb,Zc,Zd,Ze,reduceCtorEq,Zf,Zg,Zh,Zi,Zj,Zk]
theorem sNeed_take {s:Sup} {d:Dat} {rep:Option Val} {i:Int} {L:List ByteArray} {j:Nat} {f:ByteArray} (h:L[j]?=some f) :
  (L.take j).map (fun x=>leafOf (rqV d i rep x))++[leafOf (rqV d i rep f)]=(L.take (j+1)).map (fun x=>leafOf (rqV d i rep x)):=by
 rw [←take_snoc h,List.map_append]
 rfl
theorem badO {d:Dat} {v:Val} {b:Bool} (h:(decide (v.k=9)||decide (v.k=6)||decide (v.k=8)&&exB d v.n)=b):badV d v=b:=by
 rw [←h,badV]
 simp [Bool.or_assoc]
theorem leafO_z {v:Val} (h:(decide (v.k<1)||decide (4<v.k)||!rightV false v)=true):leafOf v=zVal:=by
 rw [leafOf,if_neg]
 intro h2
 simp only [leafV,Bool.and_eq_true,decide_eq_true_eq] at h2
 simp [h2] at h
 omega
theorem leafO_v {v:Val} (h:(decide (v.k<1)||decide (4<v.k)||!rightV false v)=false):leafOf v=v:=by
 rw [leafOf,if_pos]
 simp only [leafV,Bool.and_eq_true,decide_eq_true_eq]
 simp at h
 exact ⟨⟨by omega,by omega⟩,h.2⟩
set_option maxHeartbeats 2000000 in
theorem vrequired_ok (gn:ByteArray) (g:List Dfn) (s:Sup) (hs:SOk s) (d:Dat) {B:Nat} (hd:DOk d B) (i:Int) (hi:exB d i=true) (f:ByteArray) (rep:Option Val) (hr:ROk rep) {c:Nat} {hp:CH} (hc:gc hp c=.bx (rvC gn g s d)) {α:AV} (hα:RepAt hp α rep) (m:Nat) :
  MeetsF Tryz.prog 55 hp m [.bx c 0,.i .i64 i,.s f,α] (.tp [.ds (mapC valC (sVals s d rep i f)),.b (sFail s d rep i f)]):=by
 have hnl:=sNeed_len hs d i f
 have hvl:=sVals_len s d rep i f
 obtain ⟨i',x,rfl,ex,hil,ht⟩:=exB_at hi
 have hN:=tNeeds_ok s hs x.t f
 obtain ⟨V,hV⟩:∃V,sVals s d rep i' f=V:=⟨_,rfl⟩
 obtain ⟨F,hF⟩:∃F,sFail s d rep i' f=F:=⟨_,rfl⟩
 have hVe:=hV
 have hFe:=hF
 rw [sVals] at hVe
 rw [sFail] at hFe
 rw [hV] at hvl
 rw [hV,hF]
 obtain ⟨L,hL⟩:∃L,sNeed s d i' f=L:=⟨_,rfl⟩
 have hLe:=hL
 rw [sNeed,ht] at hLe
 rw [hLe] at hN
 rw [hL] at hVe hFe hnl hvl
 refine meetsF Tryz.func55 (by kernel_rfl) cc55 cr55 rfl fun hf=>?_;unfold ck55
 have hlt:=bx_lt hf hc
 simp (disch:=omega) only [ite_ne,hc,hil,getK_s (mapC_get itC ex),go_sem,↓reduceIte,Za,Zb,Zc,Zd,Ze,reduceCtorEq,Zf,Zg,Zh,Zi,Zj,Zk]
 refine dCallR.f (fun _ _ _=>hN _ _) ?_
 simp (disch:=omega) only [ite_ne,hc,hil,getK_s (mapC_get itC ex),go_sem,↓reduceIte,Za,Zb,Zc,Zd,Ze,reduceCtorEq,Zf,Zg,Zh,Zi,Zj,Zk]
 refine loop (fun q:Nat × Nat=>⟨[(0,.bx c 0),(1,.i .i64 i'),(3,α),(10,.rw (m+17) q.1 q.1),(11,.b ((L.take q.1).any fun f=>badV d (rqV d i' rep f))),(29,.ds (stC L)),(30,.i .i64 L.length),(31,.i .i64 q.1)],(m+17,.rw q.1 5 (mapC valC ((L.take q.1).map fun f=>leafOf (rqV d i' rep f))))::hp,q.2⟩)
  (fun q=>q.1≤L.length∧m+18≤q.2) (fun q=>L.length - q.1) (0,m+18) ?_ ?_ (fun ⟨j,n⟩ hj=>?_)
 .simp
 .refine (weak_e0 (t:=10) (m:=5) ?_).trans (weak_ok ?_ (Sub.cons ?_ (Sub.base hf ?_)) (zna _))
  all_goals (simp (disch:=omega) only [ite_ne,go_sem,↓reduceIte,Za,Zb,Zc,Zd,Ze,reduceCtorEq,Zf,Zg,Zh,Zi,Zj,Zk])
  all_goals rfl
 dsimp only at hj
 obtain ⟨hj1,hj2⟩:=hj
 have hmn:m≤n:=by omega
 simp (disch:=omega) only [ite_ne,go_sem,↓reduceIte,Za,Zb,Zc,Zd,Ze,reduceCtorEq,Zf,Zg,Zh,Zi,Zj,Zk]
 refine cdK_of (fun q=>?_) (fun q=>?_)
 .have q:j<L.length:=by simpa using q
  obtain ⟨f,ef⟩:∃f,L[j]?=some f:=⟨L[j],by simp [q]⟩
  have hst:=sNeed_take (s:=s) (d:=d) (rep:=rep) (i:=i') ef
  have hbd:=any_takeI (fun f=>badV d (rqV d i' rep f)) ef
  have ht:((L.take j).map fun f=>leafOf (rqV d i' rep f)).length=j:=by simp;omega
  have k1:(j+1)*80≤140737488355328:=by omega
  have k2:j+1≤9223372036854775807:=by omega
  have hsm:=rqV_sm hd i' hr f
  obtain ⟨O,hO⟩:∃O,(L.take j).map (fun f=>leafOf (rqV d i' rep f))=O:=⟨_,rfl⟩
  rw [hO] at ht hst ⊢
  obtain ⟨b,hb⟩:∃b,(L.take j).any (fun f=>badV d (rqV d i' rep f))=b:=⟨_,rfl⟩
  rw [hb] at hbd ⊢
  cases rep with
  | none =>
   have hα:α=.np:=hα
   subst hα
   have hlk:=dLookup_ok d hd.f.f i' f ⟨#[]⟩
   have hq:rqV d i' none f=lookV d i' f ⟨#[]⟩:=rfl
   rw [hq] at hst hbd hsm
   obtain ⟨v,hv⟩:∃v,lookV d i' f ⟨#[]⟩=v:=⟨_,rfl⟩
   rw [hv] at hlk hst hbd hsm
   simp (disch:=omega) only [ite_ne,q,hc,getK_s (mapC_get st1 ef),go_sem,↓reduceIte,Za,Zb,Zc,Zd,Ze,reduceCtorEq,Zf,Zg,Zh,Zi,Zj,Zk]
   refine vcCall.f (hlk _ _) ?_
   simp (disch:=omega) only [ite_ne,go_sem,↓reduceIte,Za,Zb,Zc,Zd,Ze,reduceCtorEq,Zf,Zg,Zh,Zi,Zj,Zk]
   refine gCall.f (fun _=>vexists_ok gn g s d v.n (c:=c) (by (simp (disch:=omega) only [ite_ne,hc,go_sem,↓reduceIte,Za,Zb,Zc,Zd,Ze,reduceCtorEq,Zf,Zg,Zh,Zi,Zj,Zk])) _) ?_
   simp (disch:=omega) only [ite_ne,go_sem,↓reduceIte,Za,Zb,Zc,Zd,Ze,reduceCtorEq,Zf,Zg,Zh,Zi,Zj,Zk]
   refine cdK_of (fun c1=>?_) (fun c1=>?_)
   .rw [badO c1] at hbd
    rw [Bool.or_true] at hbd
    simp (disch:=omega) only [ite_ne,go_sem,↓reduceIte,Za,Zb,Zc,Zd,Ze,reduceCtorEq,Zf,Zg,Zh,Zi,Zj,Zk]
    refine gCall.f (fun _=>vRight_ok v hsm.f _ _) ?_
    simp (disch:=omega) only [ite_ne,go_sem,↓reduceIte,Za,Zb,Zc,Zd,Ze,reduceCtorEq,Zf,Zg,Zh,Zi,Zj,Zk]
    refine cdK_of (fun c2=>?_) (fun c2=>?_)
    .rw [leafO_z c2] at hst
     change O++[Val.mk 0 0 ⟨#[]⟩ [] []]=_ at hst
     simp (disch:=omega) only [ite_ne,ht,k1,k2,go_sem,↓reduceIte,Za,Zb,Zc,Zd,Ze,reduceCtorEq,Zf,Zg,Zh,Zi,Zj,Zk]
     refine ⟨(j+1,_),⟨by dsimp only;omega,by dsimp only;omega⟩,by dsimp only;omega,weak_ok ?_ (Sub.cons ?_ (Sub.base hf ?_)) (zna _)⟩
     all_goals
      simp (disch:=omega) only [ite_ne,wr64s j (by omega),hst,hbd,hmn,snoc_zv,go_sem,↓reduceIte,Za,Zb,Zc,Zd,Ze,reduceCtorEq,Zf,Zg,Zh,Zi,Zj,Zk]
    .rw [leafO_v c2] at hst
     simp (disch:=omega) only [ite_ne,ht,k1,k2,go_sem,↓reduceIte,Za,Zb,Zc,Zd,Ze,reduceCtorEq,Zf,Zg,Zh,Zi,Zj,Zk]
     refine ⟨(j+1,_),⟨by dsimp only;omega,by dsimp only;omega⟩,by dsimp only;omega,weak_ok ?_ (Sub.cons ?_ (Sub.base hf ?_)) (zna _)⟩
     all_goals
      simp (disch:=omega) only [ite_ne,wr64s j (by omega),hst,hbd,hmn,snoc_zv,go_sem,↓reduceIte,Za,Zb,Zc,Zd,Ze,reduceCtorEq,Zf,Zg,Zh,Zi,Zj,Zk]
   .rw [badO c1] at hbd
    rw [Bool.or_false] at hbd
    simp (disch:=omega) only [ite_ne,go_sem,↓reduceIte,Za,Zb,Zc,Zd,Ze,reduceCtorEq,Zf,Zg,Zh,Zi,Zj,Zk]
    refine gCall.f (fun _=>vRight_ok v hsm.f _ _) ?_
    simp (disch:=omega) only [ite_ne,go_sem,↓reduceIte,Za,Zb,Zc,Zd,Ze,reduceCtorEq,Zf,Zg,Zh,Zi,Zj,Zk]
    refine cdK_of (fun c2=>?_) (fun c2=>?_)
    .rw [leafO_z c2] at hst
     change O++[Val.mk 0 0 ⟨#[]⟩ [] []]=_ at hst
     simp (disch:=omega) only [ite_ne,ht,k1,k2,go_sem,↓reduceIte,Za,Zb,Zc,Zd,Ze,reduceCtorEq,Zf,Zg,Zh,Zi,Zj,Zk]
     refine ⟨(j+1,_),⟨by dsimp only;omega,by dsimp only;omega⟩,by dsimp only;omega,weak_ok ?_ (Sub.cons ?_ (Sub.base hf ?_)) (zna _)⟩
     all_goals
      simp (disch:=omega) only [ite_ne,wr64s j (by omega),hst,hbd,hmn,snoc_zv,go_sem,↓reduceIte,Za,Zb,Zc,Zd,Ze,reduceCtorEq,Zf,Zg,Zh,Zi,Zj,Zk]
    .rw [leafO_v c2] at hst
     simp (disch:=omega) only [ite_ne,ht,k1,k2,go_sem,↓reduceIte,Za,Zb,Zc,Zd,Ze,reduceCtorEq,Zf,Zg,Zh,Zi,Zj,Zk]
     refine ⟨(j+1,_),⟨by dsimp only;omega,by dsimp only;omega⟩,by dsimp only;omega,weak_ok ?_ (Sub.cons ?_ (Sub.base hf ?_)) (zna _)⟩
     all_goals
      simp (disch:=omega) only [ite_ne,wr64s j (by omega),hst,hbd,hmn,snoc_zv,go_sem,↓reduceIte,Za,Zb,Zc,Zd,Ze,reduceCtorEq,Zf,Zg,Zh,Zi,Zj,Zk]
  | some r =>
   obtain ⟨k,rfl,hk⟩:=hα
   have hkm:=bx_lt hf hk
   have hlk:=get_ok r (hr r rfl).f f
   have hq:rqV d i' (some r) f=(getV r f).getD zVal:=rfl
   rw [hq] at hst hbd hsm
   rw [resV] at hlk
   obtain ⟨v,hv⟩:∃v,(getV r f).getD zVal=v:=⟨_,rfl⟩
   rw [hv] at hlk hst hbd hsm
   obtain ⟨z,hz⟩:∃z,(getV r f).isSome=z:=⟨_,rfl⟩
   rw [hz] at hlk
   simp (disch:=omega) only [ite_ne,q,hc,hk,getK_s (mapC_get st1 ef),go_sem,↓reduceIte,Za,Zb,Zc,Zd,Ze,reduceCtorEq,Zf,Zg,Zh,Zi,Zj,Zk]
   refine vcCall.f (hlk _ _) ?_
   simp (disch:=omega) only [ite_ne,go_sem,↓reduceIte,Za,Zb,Zc,Zd,Ze,reduceCtorEq,Zf,Zg,Zh,Zi,Zj,Zk]
   refine gCall.f (fun _=>vexists_ok gn g s d v.n (c:=c) (by (simp (disch:=omega) only [ite_ne,hc,go_sem,↓reduceIte,Za,Zb,Zc,Zd,Ze,reduceCtorEq,Zf,Zg,Zh,Zi,Zj,Zk])) _) ?_
   simp (disch:=omega) only [ite_ne,go_sem,↓reduceIte,Za,Zb,Zc,Zd,Ze,reduceCtorEq,Zf,Zg,Zh,Zi,Zj,Zk]
   refine cdK_of (fun c1=>?_) (fun c1=>?_)
   .rw [badO c1] at hbd
    rw [Bool.or_true] at hbd
    simp (disch:=omega) only [ite_ne,go_sem,↓reduceIte,Za,Zb,Zc,Zd,Ze,reduceCtorEq,Zf,Zg,Zh,Zi,Zj,Zk]
    refine gCall.f (fun _=>vRight_ok v hsm.f _ _) ?_
    simp (disch:=omega) only [ite_ne,go_sem,↓reduceIte,Za,Zb,Zc,Zd,Ze,reduceCtorEq,Zf,Zg,Zh,Zi,Zj,Zk]
    refine cdK_of (fun c2=>?_) (fun c2=>?_)
    .rw [leafO_z c2] at hst
     change O++[Val.mk 0 0 ⟨#[]⟩ [] []]=_ at hst
     simp (disch:=omega) only [ite_ne,ht,k1,k2,go_sem,↓reduceIte,Za,Zb,Zc,Zd,Ze,reduceCtorEq,Zf,Zg,Zh,Zi,Zj,Zk]
     refine ⟨(j+1,_),⟨by dsimp only;omega,by dsimp only;omega⟩,by dsimp only;omega,weak_ok ?_ (Sub.cons ?_ (Sub.base hf ?_)) (zna _)⟩
     all_goals
      simp (disch:=omega) only [ite_ne,wr64s j (by omega),hst,hbd,hmn,snoc_zv,go_sem,↓reduceIte,Za,Zb,Zc,Zd,Ze,reduceCtorEq,Zf,Zg,Zh,Zi,Zj,Zk]
    .rw [leafO_v c2] at hst
     simp (disch:=omega) only [ite_ne,ht,k1,k2,go_sem,↓reduceIte,Za,Zb,Zc,Zd,Ze,reduceCtorEq,Zf,Zg,Zh,Zi,Zj,Zk]
     refine ⟨(j+1,_),⟨by dsimp only;omega,by dsimp only;omega⟩,by dsimp only;omega,weak_ok ?_ (Sub.cons ?_ (Sub.base hf ?_)) (zna _)⟩
     all_goals
      simp (disch:=omega) only [ite_ne,wr64s j (by omega),hst,hbd,hmn,snoc_zv,go_sem,↓reduceIte,Za,Zb,Zc,Zd,Ze,reduceCtorEq,Zf,Zg,Zh,Zi,Zj,Zk]
   .rw [badO c1] at hbd
    rw [Bool.or_false] at hbd
    simp (disch:=omega) only [ite_ne,go_sem,↓reduceIte,Za,Zb,Zc,Zd,Ze,reduceCtorEq,Zf,Zg,Zh,Zi,Zj,Zk]
    refine gCall.f (fun _=>vRight_ok v hsm.f _ _) ?_
    simp (disch:=omega) only [ite_ne,go_sem,↓reduceIte,Za,Zb,Zc,Zd,Ze,reduceCtorEq,Zf,Zg,Zh,Zi,Zj,Zk]
    refine cdK_of (fun c2=>?_) (fun c2=>?_)
    .rw [leafO_z c2] at hst
     change O++[Val.mk 0 0 ⟨#[]⟩ [] []]=_ at hst
     simp (disch:=omega) only [ite_ne,ht,k1,k2,go_sem,↓reduceIte,Za,Zb,Zc,Zd,Ze,reduceCtorEq,Zf,Zg,Zh,Zi,Zj,Zk]
     refine ⟨(j+1,_),⟨by dsimp only;omega,by dsimp only;omega⟩,by dsimp only;omega,weak_ok ?_ (Sub.cons ?_ (Sub.base hf ?_)) (zna _)⟩
     all_goals
      simp (disch:=omega) only [ite_ne,wr64s j (by omega),hst,hbd,hmn,snoc_zv,go_sem,↓reduceIte,Za,Zb,Zc,Zd,Ze,reduceCtorEq,Zf,Zg,Zh,Zi,Zj,Zk]
    .rw [leafO_v c2] at hst
     simp (disch:=omega) only [ite_ne,ht,k1,k2,go_sem,↓reduceIte,Za,Zb,Zc,Zd,Ze,reduceCtorEq,Zf,Zg,Zh,Zi,Zj,Zk]
     refine ⟨(j+1,_),⟨by dsimp only;omega,by dsimp only;omega⟩,by dsimp only;omega,weak_ok ?_ (Sub.cons ?_ (Sub.base hf ?_)) (zna _)⟩
     all_goals
      simp (disch:=omega) only [ite_ne,wr64s j (by omega),hst,hbd,hmn,snoc_zv,go_sem,↓reduceIte,Za,Zb,Zc,Zd,Ze,reduceCtorEq,Zf,Zg,Zh,Zi,Zj,Zk]
 .have q:j=L.length:=by simp at q;omega
  subst q
  have ht2:V.take L.length=V:=List.take_of_length_le (by omega)
  rw [List.take_length,hVe,hFe]
  simp (disch:=omega) only [ite_ne,hmn,hvl,ht2,zna,go_sem,↓reduceIte,Za,Zb,Zc,Zd,Ze,reduceCtorEq,Zf,Zg,Zh,Zi,Zj,Zk]
end Go.Proofs.YtinbodeocoeneaaGreatDoor
