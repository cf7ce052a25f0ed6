/- Proof. Conditions: none. -/
import Derived.Test.YtinbodeocoeneaaGreatDoorRows
import Derived.WalkKit
import Derived.Test.YtinbodeocoeneaaGreatDoorIs49
open Nat renaming reduceEqDiff→Za,reduceBEq→Zb,reduceAdd→Zc,reduceLeDiff→Zd,reduceLT→Ze,reduceMul→Zf,reduceSub→Zg
open Int renaming reduceEq→Zh,reduceLT→Zi,reduceLE→Zj,reduceToNat→Zk
open List renaming getElem?_map→zlp,mem_map_of_mem→zls,length_map→zlv
namespace Go.Proofs.YtinbodeocoeneaaGreatDoor
open Go.Eng
set_option linter.all false
set_option maxRecDepth 20000
set_option maxHeartbeats 2000000
noncomputable def eventR (s:Sup) (d:Dat) (p:Pln) (v:Val):Option Val:=(srcP p).map fun x=>eventV s d p x v
noncomputable def resE (o:Option Val):AV:=.tp [vx (o.getD zVal),.i .i64 (if o.isSome=true then 0 else 2)]
theorem rEvent_found (s:Sup) (hs:SOk s) (d:Dat) {B:Nat} (hd:DOk d B) (hi:d.i.length≤1048576) (hB:B≤1000000000) (p:Pln) (hl:p.l.length≤1048576) (hpo:∀x∈p.l,x.Ok) (v:Val) (hv:VSm v) (x:Pk) (hk:p.k=3) (hx:AOk x.args) (h:srcP p=some x) (c:0≤itemI d sSub) (hp:CH) (m:Nat) :
  MeetsF Tryz.prog 15 hp m [supx s,dx d,plx p,vx v] (resE (some (eventV s d p x v))):=by
 have hS:=rSource_ok p
 rw [h,srcRP] at hS
 have hRn:=fun hp m=>rRun_ok s hs (withD s d x v) (withD_dok (s:=s) (x:=x) hd hv hi (by omega)) p hl hpo (fun q=>by omega) hp m
 have hRt:=rRoot_ok d hd.f.f sSub
 change ∀hp m,MeetsF Tryz.prog 36 hp m [dx d,.s sSub] (resI (itemI d sSub)) at hRt
 unfold sSub at hRt
 have hCp:=rcopy_ok v hv.f
 have li:(mapC itC d.i).length=d.i.length:=mapC_len _ _
 obtain ⟨j,it,h1,h2,h3⟩:=itemI_get c
 have hjl:j<d.i.length:=(List.getElem?_eq_some_iff.1 h2).1
 have hAr:=rArgs_ok s hs d hd j x hx
 have hcl:=hd.c it (List.mem_of_getElem? h2)
 have q1:(1+it.l.length)*112≤140737488355328:=by omega
 have q2:1+it.l.length≤9223372036854775807:=by omega
 have q3:(it.l.length+1)*112≤140737488355328:=by omega
 have lc:(mapC celC it.l).length=it.l.length:=mapC_len _ _
 have hrw:(itemI d ⟨#[83,117,98,115,99,114,105,112,116,105,111,110]⟩)=(j:Int):=h1
 rw [hrw] at hRt
 obtain ⟨A,hA⟩:∃A,ofL (argT s d j x)=A:=⟨_,rfl⟩
 rw [withD_found h1 h2,hA] at hRn
 rw [hA] at hAr
 rw [eventV,withD_found h1 h2,hA]
 obtain ⟨RR,hRR⟩:∃RR,runV s (.mk (d.i.set j (.mk it.t (.mk x.name A v::it.l))) d.w) p=RR:=⟨_,rfl⟩
 rw [hRR] at hRn ⊢
 refine meetsF Tryz.func15 (by kernel_rfl) cc915 cr915 rfl fun hf=>?_;unfold ck915
 simp (disch:=omega) only [ite_ne,li,go_sem,↓reduceIte,Za,Zb,Zc,Zd,Ze,reduceCtorEq,Zf,Zg,Zh,Zi,Zj,Zk]
 refine vcCall.f (hS _ _) ?_
 simp (disch:=omega) only [ite_ne,li,go_sem,↓reduceIte,Za,Zb,Zc,Zd,Ze,reduceCtorEq,Zf,Zg,Zh,Zi,Zj,Zk]
 refine vcCall.x (rclone_x d hd.f.f hd.f.w ?_) ?_
 .intro k hk
  iterate 7 rw [gc_ne _ _ (by omega)]
  exact hf k (by omega)
 simp (disch:=omega) only [ite_ne,li,go_sem,↓reduceIte,Za,Zb,Zc,Zd,Ze,reduceCtorEq,Zf,Zg,Zh,Zi,Zj,Zk]
 refine vcCall.f (MeetsF.lend (R:=[(m+6,.sh 0 2 (mapC itC d.i))]) (B:=[]) ⟨.inl ?_,trivial⟩ trivial ?_ rfl (hRt _ _)) ?_
 .simp (disch:=omega) only [ite_ne,li,go_sem,↓reduceIte,Za,Zb,Zc,Zd,Ze,reduceCtorEq,Zf,Zg,Zh,Zi,Zj,Zk]
 .simp (disch:=omega) only [ite_ne,li,go_sem,↓reduceIte,Za,Zb,Zc,Zd,Ze,reduceCtorEq,Zf,Zg,Zh,Zi,Zj,Zk]
 simp (disch:=omega) only [ite_ne,li,hjl,go_sem,↓reduceIte,Za,Zb,Zc,Zd,Ze,reduceCtorEq,Zf,Zg,Zh,Zi,Zj,Zk]
 refine dCallR.f (fun _ hp' e=>MeetsF.lend (R:=[(m+6,.sh 0 2 (mapC itC d.i))]) (B:=[]) ⟨.inl ?_,trivial⟩ trivial ?_ rfl (hAr _ _)) ?_
 .refine (e (m+6) (.inl (by omega))).trans ?_
  simp (disch:=omega) only [ite_ne,li,go_sem,↓reduceIte,Za,Zb,Zc,Zd,Ze,reduceCtorEq,Zf,Zg,Zh,Zi,Zj,Zk]
 .simp (disch:=omega) only [ite_ne,li,go_sem,↓reduceIte,Za,Zb,Zc,Zd,Ze,reduceCtorEq,Zf,Zg,Zh,Zi,Zj,Zk]
 simp (disch:=omega) only [ite_ne,li,hjl,go_sem,↓reduceIte,Za,Zb,Zc,Zd,Ze,reduceCtorEq,Zf,Zg,Zh,Zi,Zj,Zk]
 refine dCallR.f (fun _ hp' e=>hCp _ _) ?_
 simp (disch:=omega) only [ite_ne,li,hjl,go_sem,↓reduceIte,Za,Zb,Zc,Zd,Ze,reduceCtorEq,Zf,Zg,Zh,Zi,Zj,Zk]
 refine wk_of (weak_rn (k:=m+6) (g:=0) (mm:=2) (l:=mapC itC d.i) ?_) ?_
 .simp (disch:=omega) only [ite_ne,li,go_sem,↓reduceIte,Za,Zb,Zc,Zd,Ze,reduceCtorEq,Zf,Zg,Zh,Zi,Zj,Zk]
 simp (disch:=omega) only [ite_ne,li,hjl,getK_s (mapC_get itC h2),lc,q1,q2,q3,go_sem,↓reduceIte,Za,Zb,Zc,Zd,Ze,reduceCtorEq,Zf,Zg,Zh,Zi,Zj,Zk]
 rw [mapC_get itC h2]
 simp (disch:=omega) only [ite_ne,li,hjl,go_sem,↓reduceIte,Za,Zb,Zc,Zd,Ze,reduceCtorEq,Zf,Zg,Zh,Zi,Zj,Zk]
 rw [Nat.add_comm 1 it.l.length]
 have ls:(mapC itC (d.i.set j (.mk it.t (.mk x.name A v::it.l)))).length=d.i.length:=by rw [mapC_len,List.length_set]
 refine wk_of (((weak_shut (k:=m+24) (g:=1) (m:=7) (l:=mapC celC (.mk x.name A v::it.l)) ?_).trans (weak_close (k:=m+6) (g:=0) (mm:=2) (l:=(mapC itC d.i).set j [.s it.t,.rw (m+24) 1 (it.l.length+1)]) (l':=mapC itC (d.i.set j (.mk it.t (.mk x.name A v::it.l)))) ?_ ?_ ?_)).trans (weak_shut (k:=m+6) (g:=0) (m:=2) (l:=mapC itC (d.i.set j (.mk it.t (.mk x.name A v::it.l)))) ?_)) ?_
 .simp (disch:=omega) only [ite_ne,go_sem,↓reduceIte,Za,Zb,Zc,Zd,Ze,reduceCtorEq,Zf,Zg,Zh,Zi,Zj,Zk]
 .simp (disch:=omega) only [ite_ne,hjl,go_sem,↓reduceIte,Za,Zb,Zc,Zd,Ze,reduceCtorEq,Zf,Zg,Zh,Zi,Zj,Zk]
 .simp [mapC]
 .exact (close_it (L:=.mk x.name A v::it.l) h2 (by (simp (disch:=omega) only [ite_ne,hjl,go_sem,↓reduceIte,Za,Zb,Zc,Zd,Ze,reduceCtorEq,Zf,Zg,Zh,Zi,Zj,Zk]))).2
 .simp (disch:=omega) only [ite_ne,go_sem,↓reduceIte,Za,Zb,Zc,Zd,Ze,reduceCtorEq,Zf,Zg,Zh,Zi,Zj,Zk]
 simp (disch:=omega) only [ite_ne,ls,hjl,go_sem,↓reduceIte,Za,Zb,Zc,Zd,Ze,reduceCtorEq,Zf,Zg,Zh,Zi,Zj,Zk]
 have lt:List.take d.i.length (mapC itC (d.i.set j (.mk it.t (.mk x.name A v::it.l))))=mapC itC (d.i.set j (.mk it.t (.mk x.name A v::it.l))):=List.take_of_length_le (by omega)
 refine vcCall.f (MeetsF.cv ?_ (hRn _ _)) ?_
 .simp (disch:=omega) only [ite_ne,ls,lt,Nat.le_refl,go_sem,↓reduceIte,Za,Zb,Zc,Zd,Ze,reduceCtorEq,Zf,Zg,Zh,Zi,Zj,Zk]
  try rfl
 simp (disch:=omega) only [ite_ne,ls,hjl,go_sem,↓reduceIte,Za,Zb,Zc,Zd,Ze,reduceCtorEq,Zf,Zg,Zh,Zi,Zj,Zk]
 rfl
theorem tEvent_ok (s:Sup) (hs:SOk s) (d:Dat) {B:Nat} (hd:DOk d B) (hi:d.i.length≤1048576) (hB:B≤1000000000) (p:Pln) (hf:∀x∈p.l,x.Fit) (hl:p.l.length≤1048576) (hpo:∀x∈p.l,x.Ok) (v:Val) (hv:VSm v) (hfR:∀R,eventR s d p v=some R→R.Fit) (hp:CH) (m:Nat) :
  MeetsF Tryz.prog 14 hp m [supx s,dx d,plx p,vx v] (resE (eventR s d p v)):=by
 have hS:=sSource_ok p hf
 cases h:srcP p with
 | none =>
  rw [eventR,h]
  rw [h,srcRP] at hS
  refine meetsF Tryz.func14 (by kernel_rfl) cc14 cr14 rfl fun hf=>?_;unfold ck14
  simp only [go_sem,↓reduceIte,Za,Zb,Zc,Zd,Ze,reduceCtorEq,Zf,Zg,Zh,Zi,Zj,Zk]
  refine vcCall.f (hS _ _) ?_
  simp only [go_sem,↓reduceIte,Za,Zb,Zc,Zd,Ze,reduceCtorEq,Zf,Zg,Zh,Zi,Zj,Zk]
  rfl
 | some x =>
  obtain ⟨h1,h2⟩:=srcP_some h
  have hx:x.Ok:=hpo x (by rw [h2];simp)
  have hW:=swith_ok s hs d hd hi hB x hx.a v
  have hRn:=fun hp m=>tRun_ok s hs (withD s d x v) (withD_dok (s:=s) (x:=x) hd hv hi (by omega)) p hl hpo (fun q=>by omega) hp m
  have hCp:=copy_ok (eventV s d p x v) (hfR _ (by rw [eventR,h];rfl))
  rw [eventR,h]
  rw [h,srcRP] at hS
  rw [eventV] at hCp
  show MeetsF _ _ _ _ _ (resE (some (runV s (withD s d x v) p).1))
  obtain ⟨RR,hRR⟩:∃RR,runV s (withD s d x v) p=RR:=⟨_,rfl⟩
  rw [hRR] at hRn hCp ⊢
  obtain ⟨W,hW2⟩:∃W,withD s d x v=W:=⟨_,rfl⟩
  rw [hW2] at hW hRn
  refine meetsF Tryz.func14 (by kernel_rfl) cc14 cr14 rfl fun hf=>?_;unfold ck14
  simp only [go_sem,↓reduceIte,Za,Zb,Zc,Zd,Ze,reduceCtorEq,Zf,Zg,Zh,Zi,Zj,Zk]
  refine vcCall.f (hS _ _) ?_
  simp only [go_sem,↓reduceIte,Za,Zb,Zc,Zd,Ze,reduceCtorEq,Zf,Zg,Zh,Zi,Zj,Zk]
  refine dCallR.f (fun _ hp' e=>hW _ _) ?_
  simp (disch:=omega) only [ite_ne,go_sem,↓reduceIte,Za,Zb,Zc,Zd,Ze,reduceCtorEq,Zf,Zg,Zh,Zi,Zj,Zk]
  refine dCallR.f (fun _ hp' e=>hRn _ _) ?_
  simp (disch:=omega) only [ite_ne,go_sem,↓reduceIte,Za,Zb,Zc,Zd,Ze,reduceCtorEq,Zf,Zg,Zh,Zi,Zj,Zk]
  refine vcCall.f (hCp _ _) ?_
  simp (disch:=omega) only [ite_ne,go_sem,↓reduceIte,Za,Zb,Zc,Zd,Ze,reduceCtorEq,Zf,Zg,Zh,Zi,Zj,Zk]
  rfl
def fx1:AV→AV
 | .e0=>.ds []
 | α=>α
def fx2:AV→AV
 | .ds L=>.ds (L.map fun e=>e.map fx1)
 | α=>fx1 α
def fx3:AV→AV
 | .ag l=>.ag (l.map fx2)
 | α=>fx2 α
theorem fx1_rel {h:HP} {α:AV} {v:Value} (r:PRel h α v):PRel h (fx1 α) v:=by
 cases r with
 | e0 a=>exact .ds [] 0 a 0 (fun _ _=>undef) (by simp) (fun j e q=>by simp at q) (fun j e q α q1=>by simp at q1) (fun q=>absurd rfl q)
 | un v=>exact .un v
 | b x=>exact .b x
 | i k n=>exact .i k n
 | s x=>exact .s x
 | ag l vs e h1=>exact .ag l vs e h1
 | tp l vs e h1=>exact .tp l vs e h1
 | ds l n a cap us hc hn hm hx=>exact .ds l n a cap us hc hn hm hx
 | np=>exact .np
 | mn=>exact .mn
 | nf=>exact .nf
 | ni=>exact .ni
 | fc t x v h1=>exact .fc t x v h1
 | gd c x v h1 h2=>exact .gd c x v h1 h2
theorem fx2_rel {h:HP} {α:AV} {v:Value} (r:PRel h α v):PRel h (fx2 α) v:=by
 cases r with
 | ds l n a cap us hc hn hm hx =>
  have e:(l.map fun e=>e.map fx1).length=l.length:=by simp
  rw [fx2,←e]
  refine .ds _ n a cap us (by omega) (fun j x hj=>?_) (fun j x q α hj hq=>?_) (fun hne=>?_)
  .rw [zlp] at hj
   obtain ⟨y,hy,rfl⟩:=Option.map_eq_some_iff.1 hj
   rw [zlv]
   exact hn j y hy
  .rw [zlp] at hj
   obtain ⟨y,hy,rfl⟩:=Option.map_eq_some_iff.1 hj
   rw [zlp] at hq
   obtain ⟨z,hz,rfl⟩:=Option.map_eq_some_iff.1 hq
   exact fx1_rel (hm j y q z hy hz)
  .obtain ⟨b,off,ea,hcell⟩:=hx (fun q=>hne (by rw [q];rfl))
   refine ⟨b,off,ea,fun j x q α hj hq=>?_⟩
   rw [zlp] at hj
   obtain ⟨y,hy,rfl⟩:=Option.map_eq_some_iff.1 hj
   rw [zlp] at hq
   obtain ⟨z,hz,rfl⟩:=Option.map_eq_some_iff.1 hq
   exact hcell j y q z hy hz
 | e0 a=>exact fx1_rel (.e0 a)
 | un v=>exact .un v
 | b x=>exact .b x
 | i k n=>exact .i k n
 | s x=>exact .s x
 | ag l vs e h1=>exact .ag l vs e h1
 | tp l vs e h1=>exact .tp l vs e h1
 | np=>exact .np
 | mn=>exact .mn
 | nf=>exact .nf
 | ni=>exact .ni
 | fc t x v h1=>exact .fc t x v h1
 | gd c x v h1 h2=>exact .gd c x v h1 h2
theorem fx3_pre {h:HP} {α:AV} {v:Value} (r:PRel h α v):PRel h (fx3 α) v:=by
 cases α with
 | ag l =>
  cases r with
  | ag _ vs e h1 =>
   refine .ag _ vs (by rw [zlv];exact e) fun j β u a b=>?_
   rw [zlp] at a
   obtain ⟨y,hy,rfl⟩:=Option.map_eq_some_iff.1 a
   exact fx2_rel (h1 j y u hy b)
 | _=>exact fx2_rel r
theorem fx2_r {h:HP} {ρ:RO} {α:AV} {v:Value} (r:Rel h ρ α v):Rel h ρ (fx2 α) v:=by
 cases r with
 | pu _ _ p=>exact .pu _ _ (fx2_rel p)
 | ag l vs e h1=>exact .ag l vs e h1
 | tp l vs e h1=>exact .tp l vs e h1
 | bx k off b c e=>exact .bx k off b c e
 | rw k g len cap a ob e1 e2 e3=>exact .rw k g len cap a ob e1 e2 e3
 | ep α n i off b o len cap h1 h2=>exact .ep α n i off b o len cap h1 h2
 | mp k b c e=>exact .mp k b c e
 | fn f l vs e h1=>exact .fn f l vs e h1
 | fc t x v h1=>exact .fc t x v h1
 | gd c x v h1 h2=>exact .gd c x v h1 h2
theorem fx3_r {h:HP} {ρ:RO} {α:AV} {v:Value} (r:Rel h ρ α v):Rel h ρ (fx3 α) v:=by
 cases r with
 | pu _ _ p=>exact .pu _ _ (fx3_pre p)
 | ag l vs e h1 =>
  refine .ag _ vs (by rw [zlv];exact e) fun j β u a b=>?_
  rw [zlp] at a
  obtain ⟨y,hy,rfl⟩:=Option.map_eq_some_iff.1 a
  exact fx2_r (h1 j y u hy b)
 | tp l vs e h1=>exact .tp l vs e h1
 | bx k off b c e=>exact .bx k off b c e
 | rw k g len cap a ob e1 e2 e3=>exact .rw k g len cap a ob e1 e2 e3
 | ep α n i off b o len cap h1 h2=>exact .ep α n i off b o len cap h1 h2
 | mp k b c e=>exact .mp k b c e
 | fn f l vs e h1=>exact .fn f l vs e h1
 | fc t x v h1=>exact .fc t x v h1
 | gd c x v h1 h2=>exact .gd c x v h1 h2
theorem MeetsF.fix {P:Program} {f:FuncId} {hp:CH} {n:Nat} {args args':List AV} {r:AV} (e:args'.map fx3=args) (m:MeetsF P f hp n args r):MeetsF P f hp n args' r :=
 ⟨m.1,fun h ρ w vs hs ha=>m.2 h ρ w vs hs ⟨by rw [←e,zlv];exact ha.1,fun j β u a b=>by
  rw [←e,zlp] at a
  obtain ⟨y,hy,rfl⟩:=Option.map_eq_some_iff.1 a
  exact fx3_r (ha.2 j y u hy b)⟩⟩
theorem own:ownKnob Tryz.prog.godebug=none:=by kernel_rfl
theorem kids:Kids Tryz.prog (· < Tryz.prog.types.size):=kids_rows (by kernel_rfl) (by kernel_rfl)
theorem sized {t e:TypeId} (ht:t<Tryz.prog.types.size) (hd:Tryz.prog.underlying t=some (.slice e)):0<Tryz.prog.cellsOf e:=slB_of (by kernel_rfl) ht hd
theorem avLL_mapC {α:Type} {c:α→List AV} {wt:α→Nat}:∀{l:List α},(∀x∈l,wt x≤avL (c x))→(l.map wt).sum≤avLL (mapC c l)
 | [],_=>by simp
 | x::l,h=>by
  have h1:=avLL_mapC (c:=c) (wt:=wt) (l:=l) fun y hy=>h y (by simp [hy])
  have h2:=h x (by simp)
  rw [mapC_cons,avLL,List.map_cons,List.sum_cons]
  omega
theorem mapC_len_le {α:Type} {c:α→List AV} (h:∀x,1≤avL (c x)):∀l:List α,l.length≤avLL (mapC c l)
 | []=>by simp
 | x::l=>by
  have h1:=mapC_len_le h l
  have h2:=h x
  rw [mapC_cons,avLL,List.length_cons]
  omega
theorem avLL_mem {x:List AV}:∀{l:List (List AV)},x∈l→avL x≤avLL l
 | y::l,h=>by
  rw [avLL]
  rcases List.mem_cons.1 h with rfl | h
  .omega
  .have:=avLL_mem h
   omega
theorem st1_av (s:ByteArray):1≤avL (st1 s):=by simp [st1,avL,avw]
theorem wtL_sumR (l:List Val):wtL l=(l.map wtV).sum:=by
 induction l with
 | nil=>rfl
 | cons x l ih=>rw [wtL,ih,List.map_cons,List.sum_cons]
theorem valC_av (v:Val):wtV v+3≤avL (valC v):=by
 refine Val.ind (Q:=fun v=>wtV v+3≤avL (valC v)) (fun v ih=>?_) v
 rw [valC_eq,wtV_eq,wtL_sumR]
 have h1:=avLL_mapC (c:=valC) (wt:=wtV) (l:=v.items) fun x hx=>by have:=ih x hx;omega
 have h2:v.keys.length≤avLL (stC v.keys):=mapC_len_le st1_av v.keys
 simp only [avL,avw]
 omega
theorem shp_val {L:List AV} (h:Shp Tryz.prog 42 L):∃v:Val,L=valC v:=by
 suffices key:∀(n:Nat) (L:List AV),avL L≤n→Shp Tryz.prog 42 L→∃v:Val,L=valC v from key _ L (Nat.le_refl _) h
 intro n
 induction n with
 | zero =>
  intro L hn h
  obtain ⟨parts,rfl,hl,hp⟩:=shp_struct Tryz.underlying42 h
  obtain ⟨a,b,c,d,e,rfl⟩:=ds_n5 (show parts.length=5 from hl)
  obtain ⟨a,rfl,_⟩:=shp_int Tryz.underlying3 (hp 0 _ a rfl rfl)
  simp [avL,avw] at hn
 | succ n ih =>
  intro L hn h
  obtain ⟨parts,rfl,hl,hp⟩:=shp_struct Tryz.underlying42 h
  obtain ⟨a,b,c,d,e,rfl⟩:=ds_n5 (show parts.length=5 from hl)
  obtain ⟨a,rfl,_⟩:=shp_int Tryz.underlying3 (hp 0 _ a rfl rfl)
  obtain ⟨b,rfl,_⟩:=shp_int Tryz.underlying3 (hp 1 _ b rfl rfl)
  obtain ⟨c,rfl,_⟩:=shp_string Tryz.underlying9 (hp 2 _ c rfl rfl)
  obtain ⟨l,rfl,_,hx⟩:=shp_slice Tryz.underlying40 (hp 3 _ d rfl rfl)
  obtain ⟨k,rfl,_,hy⟩:=shp_slice Tryz.underlying22 (hp 4 _ e rfl rfl)
  obtain ⟨vs,rfl,_⟩:=mapC_of (c:=valC) fun x h=>ih x (by
   have:=avLL_mem h
   simp [avL,avw] at hn
   omega) (hx x h)
  obtain ⟨ks,rfl,_⟩:=mapC_of (c:=st1) fun x h=>by
   obtain ⟨s,rfl,_⟩:=shp_string Tryz.underlying9 (hy x h)
   exact ⟨s,rfl⟩
  exact ⟨.mk a b c vs ks,by rw [valC_eq];rfl⟩
theorem vx_av (v:Val):wtV v+3≤avw (vx v):=by
 have:=valC_av v
 rw [valC_eq] at this
 exact this
theorem celC_av (c:Cel):wtV c.v+1≤avL (celC c):=by
 have h:=vx_av c.v
 simp only [vx,avw,avL,celC] at *
 omega
theorem dat_fit (d:Dat) (h:avw (dx d)≤1048576):d.Fit:=by
 simp only [dx,avw,avL] at h
 have hi:d.i.length≤avLL (mapC itC d.i):=mapC_len_le (fun x=>by simp [itC,avL,avw];omega) _
 have hw:d.w.length≤avLL (mapC wrC d.w):=mapC_len_le (fun x=>by simp [wrC,avL,avw];omega) _
 refine .mk d (by omega) (by omega) (fun x hx=>?_) fun x hx=>?_
 .have h1:=avLL_mem (zls (f:=itC) hx)
  have h1:avL (itC x)≤avLL (mapC itC d.i):=h1
  simp only [itC,avL,avw] at h1
  have h2:x.l.length≤avLL (mapC celC x.l):=mapC_len_le (fun x=>by have:=celC_av x;omega) _
  refine ⟨by omega,fun c hc=>wtV_fit _ ?_⟩
  have h3:avL (celC c)≤avLL (mapC celC x.l):=avLL_mem (zls (f:=celC) hc)
  have:=celC_av c
  omega
 .have h1:avL (wrC x)≤avLL (mapC wrC d.w):=avLL_mem (zls (f:=wrC) hx)
  have h2:=vx_av x.c.v
  refine wtV_fit _ ?_
  simp only [wrC,vx,avw,avL] at h1 h2
  omega
end Go.Proofs.YtinbodeocoeneaaGreatDoor
