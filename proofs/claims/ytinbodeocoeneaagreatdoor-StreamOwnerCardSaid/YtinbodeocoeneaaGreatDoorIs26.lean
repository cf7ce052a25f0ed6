/- Proof. Conditions: none. -/
import Derived.Test.YtinbodeocoeneaaGreatDoorIc25
open Nat renaming reduceEqDiff→Za,reduceBEq→Zb,reduceAdd→Zc,reduceLeDiff→Zd,reduceLT→Ze,reduceMul→Zf,reduceSub→Zg
open Int renaming reduceEq→Zh,reduceLT→Zi,reduceLE→Zj,reduceToNat→Zk
open List renaming mem_of_getElem?→zla,drop_length→zll
open Nat renaming le_refl→zna
namespace Go.Proofs.YtinbodeocoeneaaGreatDoor
open Go.Eng
set_option linter.all false
set_option maxRecDepth 20000
inductive Cel where
 | mk (f a:ByteArray) (v:Val)
def Cel.f:Cel→ByteArray | .mk f _ _=>f
def Cel.a:Cel→ByteArray | .mk _ a _=>a
def Cel.v:Cel→Val | .mk _ _ v=>v
theorem Cel.f_mk (f a:ByteArray) (v:Val):(Cel.mk f a v).f=f:=rfl
theorem Cel.a_mk (f a:ByteArray) (v:Val):(Cel.mk f a v).a=a:=rfl
theorem Cel.v_mk (f a:ByteArray) (v:Val):(Cel.mk f a v).v=v:=rfl
def celC (x:Cel):List AV:=[.s x.f,.s x.a,.i .i64 x.v.k,.i .i64 x.v.n,.s x.v.s,.ds (mapC valC x.v.items),.ds (stC x.v.keys)]
attribute [go_sem] celC Cel.f_mk Cel.a_mk Cel.v_mk
abbrev cx (x:Cel):AV:=.ag [.s x.f,.s x.a,.i .i64 x.v.k,.i .i64 x.v.n,.s x.v.s,.ds (mapC valC x.v.items),.ds (stC x.v.keys)]
theorem elsOk_cel (l:List Cel):elsOk 7 (mapC celC l)=True:=elsOk_map fun _=>⟨rfl,rfl⟩
attribute [go_sem] elsOk_cel
inductive Itm where
 | mk (t:ByteArray) (l:List Cel)
def Itm.t:Itm→ByteArray | .mk t _=>t
theorem Itm.t_mk (t:ByteArray) (l:List Cel):(Itm.mk t l).t=t:=rfl
def Itm.l:Itm→List Cel | .mk _ l=>l
theorem Itm.l_mk (t:ByteArray) (l:List Cel):(Itm.mk t l).l=l:=rfl
theorem Itm.eta (x:Itm):Itm.mk x.t x.l=x:=by cases x;rfl
theorem Itm.ext {x y:Itm} (h0:x.t=y.t) (h1:x.l=y.l):x=y:=by cases x;cases y;simp only [Itm.t_mk,Itm.l_mk] at *;simp [*]
def itC (x:Itm):List AV:=[.s x.t,.ds (mapC celC x.l)]
theorem elsOk_itC (l:List Itm):elsOk 2 (mapC itC l)=True:=elsOk_map fun _=>⟨rfl,rfl⟩
attribute [go_sem] elsOk_itC
attribute [go_sem] itC Itm.t_mk Itm.l_mk
attribute [grind =] Itm.t_mk Itm.l_mk
attribute [ext] Itm.ext
attribute [grind ext] Itm.ext
abbrev ix' (x:Itm):AV:=.ag [.s x.t,.ds (mapC celC x.l)]
inductive Wri where
 | mk (f a:ByteArray) (i:Int) (c:Cel)
def Wri.f:Wri→ByteArray | .mk f _ _ _=>f
def Wri.a:Wri→ByteArray | .mk _ a _ _=>a
def Wri.i:Wri→Int | .mk _ _ i _=>i
def Wri.c:Wri→Cel | .mk _ _ _ c=>c
theorem Wri.f_mk (f a:ByteArray) (i:Int) (c:Cel):(Wri.mk f a i c).f=f:=rfl
theorem Wri.a_mk (f a:ByteArray) (i:Int) (c:Cel):(Wri.mk f a i c).a=a:=rfl
theorem Wri.i_mk (f a:ByteArray) (i:Int) (c:Cel):(Wri.mk f a i c).i=i:=rfl
theorem Wri.c_mk (f a:ByteArray) (i:Int) (c:Cel):(Wri.mk f a i c).c=c:=rfl
def wrC (x:Wri):List AV:=[.s x.f,.s x.a,.i .i64 x.i,.s x.c.f,.s x.c.a,.i .i64 x.c.v.k,.i .i64 x.c.v.n,.s x.c.v.s,.ds (mapC valC x.c.v.items),.ds (stC x.c.v.keys)]
attribute [go_sem] wrC Wri.f_mk Wri.a_mk Wri.i_mk Wri.c_mk
abbrev wx (x:Wri):AV:=.ag [.s x.f,.s x.a,.i .i64 x.i,.s x.c.f,.s x.c.a,.i .i64 x.c.v.k,.i .i64 x.c.v.n,.s x.c.v.s,.ds (mapC valC x.c.v.items),.ds (stC x.c.v.keys)]
theorem elsOk_wri (l:List Wri):elsOk 10 (mapC wrC l)=True:=elsOk_map fun _=>⟨rfl,rfl⟩
attribute [go_sem] elsOk_wri
inductive Dat where
 | mk (i:List Itm) (w:List Wri)
def Dat.i:Dat→List Itm | .mk i _=>i
theorem Dat.i_mk (i:List Itm) (w:List Wri):(Dat.mk i w).i=i:=rfl
def Dat.w:Dat→List Wri | .mk _ w=>w
theorem Dat.w_mk (i:List Itm) (w:List Wri):(Dat.mk i w).w=w:=rfl
theorem Dat.eta (x:Dat):Dat.mk x.i x.w=x:=by cases x;rfl
theorem Dat.ext {x y:Dat} (h0:x.i=y.i) (h1:x.w=y.w):x=y:=by cases x;cases y;simp only [Dat.i_mk,Dat.w_mk] at *;simp [*]
attribute [go_sem] Dat.i_mk Dat.w_mk
attribute [grind =] Dat.i_mk Dat.w_mk
attribute [ext] Dat.ext
attribute [grind ext] Dat.ext
abbrev dx (x:Dat):AV:=.ag [.ds (mapC itC x.i),.ds (mapC wrC x.w)]
noncomputable def refV (v:Val):Bool:=decide ((v.items.length:Int)=0)&&decide ((v.keys.length:Int)=0)&&(decide (v.k=8)&&decide (0≤v.n)&&decide (v.s=⟨#[]⟩)||decide (v.k=9)&&decide (v.n=0))
mutual
noncomputable def plV:Val→Val × Bool
 | .mk k n s i l=>if k=8∨k=9 then (zVal,refV (.mk k n s i l)) else (.mk k n s (plL i).1 l,(plL i).2)
noncomputable def plL:List Val→List Val × Bool
 | []=>([],true)
 | x::r=>((plV x).1::(plL r).1,(plV x).2&&(plL r).2)
end
theorem zVal_fit:zVal.Fit:=.mk _ (by simp [zVal,Val.items_mk]) (by simp [zVal,Val.keys_mk]) (by simp [zVal,Val.items_mk])
noncomputable def okC (c:Cel):Bool:=(plV c.v).2&&nmS c.f&&rightV false (plV c.v).1
def Ext (hp hp':CH) (m:Nat):Prop:=∀i,i<m→gc hp' i=gc hp i
theorem neg_one:(0≤(-1:Int))=False:=by simp
def resI (x:Int):AV:=.tp [.i .i64 (if 0≤x then x else 0),.b (decide (0≤x))]
attribute [go_sem] resI neg_one
theorem first_cel (l:List Cel) (q:Cel→Bool) (k:FuncId) (caps:List AV) (hl:l.length≤9223372036854775806) (hp:CH) (m:Nat) (h:∀x∈l,∀hp' n,m≤n→Ext hp hp' m→MeetsF Tryz.prog k hp' n (cx x::caps) (.b (q x))):MeetsF Tryz.prog 108 hp m [.ds (mapC celC l),.fn k caps] (resI (fidx q l 0)):=by
 obtain ⟨R,hR⟩:∃R,fidx q l 0=R:=⟨_,rfl⟩
 rw [hR]
 refine meetsF Tryz.func108 (by kernel_rfl) cc108 cr108 rfl fun hf=>?_;unfold ck108
 simp only [go_sem,↓reduceIte,Za,Zb,Zc,Zd,Ze,reduceCtorEq,Zf,Zg,Zh,Zi,Zj,Zk]
 refine loop (fun p:Nat × Nat=>⟨[(1,.fn k caps),(8,.ds (mapC celC l)),(9,.i .i64 l.length),(10,.i .i64 p.1)],hp,p.2⟩) (fun p=>p.1≤l.length∧m≤p.2∧R=fidx q (l.drop p.1) p.1) (fun p=>l.length - p.1) (0,m) ?_ ?_ (fun ⟨j,n⟩ hj=>?_)
 .exact ⟨by simp,by simp,hR.symm⟩
 .refine weak_ok ?_ (Sub.refl _) (zna _)
  simp only [go_sem,↓reduceIte,Za,Zb,Zc,Zd,Ze,reduceCtorEq,Zf,Zg,Zh,Zi,Zj,Zk]
 dsimp only at hj
 obtain ⟨hj1,hj2,hj3⟩:=hj
 simp only [go_sem,↓reduceIte,Za,Zb,Zc,Zd,Ze,reduceCtorEq,Zf,Zg,Zh,Zi,Zj,Zk]
 refine cdK_of (fun c=>?_) (fun c=>?_)
 .have c:j<l.length:=by simpa using c
  obtain ⟨x,ex⟩:∃x,l[j]?=some x:=⟨l[j],by simp [c]⟩
  have hx:=h x (zla ex)
  rw [drop_at ex,fidx] at hj3
  simp only [c,getK_s (mapC_get celC ex),go_sem,↓reduceIte,Za,Zb,Zc,Zd,Ze,reduceCtorEq,Zf,Zg,Zh,Zi,Zj,Zk]
  refine vcCall.f (hx _ _ (by omega) fun i hi=>?_) ?_
  .simp only [gc_cons]
   repeat rw [if_neg (by omega)]
  simp only [go_sem,↓reduceIte,Za,Zb,Zc,Zd,Ze,reduceCtorEq,Zf,Zg,Zh,Zi,Zj,Zk]
  refine cdK_of (fun c1=>?_) (fun c1=>?_)
  .rw [if_pos c1] at hj3
   simp only [hj3,hj2,go_sem,↓reduceIte,Za,Zb,Zc,Zd,Ze,reduceCtorEq,Zf,Zg,Zh,Zi,Zj,Zk]
  .rw [if_neg (by simp [c1])] at hj3
   simp only [go_sem,↓reduceIte,Za,Zb,Zc,Zd,Ze,reduceCtorEq,Zf,Zg,Zh,Zi,Zj,Zk]
   refine ⟨(j+1,_),⟨by dsimp only;omega,by dsimp only;omega,hj3⟩,by dsimp only;omega,weak_ok ?_ (Sub.base hf ?_) (zna _)⟩
   .simp only [wr64s j (by omega),go_sem,↓reduceIte,Za,Zb,Zc,Zd,Ze,reduceCtorEq,Zf,Zg,Zh,Zi,Zj,Zk]
   .simp only [hj2,go_sem,↓reduceIte,Za,Zb,Zc,Zd,Ze,reduceCtorEq,Zf,Zg,Zh,Zi,Zj,Zk]
 .have c:j=l.length:=by simp at c;omega
  subst c
  rw [zll,fidx] at hj3
  simp only [hj3,hj2,go_sem,↓reduceIte,Za,Zb,Zc,Zd,Ze,reduceCtorEq,Zf,Zg,Zh,Zi,Zj,Zk]
theorem first_itm (l:List Itm) (q:Itm→Bool) (k:FuncId) (caps:List AV) (hl:l.length≤9223372036854775806) (hp:CH) (m:Nat) (h:∀x∈l,∀hp' n,m≤n→Ext hp hp' m→MeetsF Tryz.prog k hp' n (ix' x::caps) (.b (q x))):MeetsF Tryz.prog 92 hp m [.ds (mapC itC l),.fn k caps] (resI (fidx q l 0)):=by
 obtain ⟨R,hR⟩:∃R,fidx q l 0=R:=⟨_,rfl⟩
 rw [hR]
 refine meetsF Tryz.func92 (by kernel_rfl) cc92 cr92 rfl fun hf=>?_;unfold ck92
 simp only [go_sem,↓reduceIte,Za,Zb,Zc,Zd,Ze,reduceCtorEq,Zf,Zg,Zh,Zi,Zj,Zk]
 refine loop (fun p:Nat × Nat=>⟨[(1,.fn k caps),(8,.ds (mapC itC l)),(9,.i .i64 l.length),(10,.i .i64 p.1)],hp,p.2⟩) (fun p=>p.1≤l.length∧m≤p.2∧R=fidx q (l.drop p.1) p.1) (fun p=>l.length - p.1) (0,m) ?_ ?_ (fun ⟨j,n⟩ hj=>?_)
 .exact ⟨by simp,by simp,hR.symm⟩
 .refine weak_ok ?_ (Sub.refl _) (zna _)
  simp only [go_sem,↓reduceIte,Za,Zb,Zc,Zd,Ze,reduceCtorEq,Zf,Zg,Zh,Zi,Zj,Zk]
 dsimp only at hj
 obtain ⟨hj1,hj2,hj3⟩:=hj
 simp only [go_sem,↓reduceIte,Za,Zb,Zc,Zd,Ze,reduceCtorEq,Zf,Zg,Zh,Zi,Zj,Zk]
 refine cdK_of (fun c=>?_) (fun c=>?_)
 .have c:j<l.length:=by simpa using c
  obtain ⟨x,ex⟩:∃x,l[j]?=some x:=⟨l[j],by simp [c]⟩
  have hx:=h x (zla ex)
  rw [drop_at ex,fidx] at hj3
  simp only [c,getK_s (mapC_get itC ex),go_sem,↓reduceIte,Za,Zb,Zc,Zd,Ze,reduceCtorEq,Zf,Zg,Zh,Zi,Zj,Zk]
  refine vcCall.f (hx _ _ (by omega) fun i hi=>?_) ?_
  .simp only [gc_cons]
   repeat rw [if_neg (by omega)]
  simp only [go_sem,↓reduceIte,Za,Zb,Zc,Zd,Ze,reduceCtorEq,Zf,Zg,Zh,Zi,Zj,Zk]
  refine cdK_of (fun c1=>?_) (fun c1=>?_)
  .rw [if_pos c1] at hj3
   simp only [hj3,hj2,go_sem,↓reduceIte,Za,Zb,Zc,Zd,Ze,reduceCtorEq,Zf,Zg,Zh,Zi,Zj,Zk]
  .rw [if_neg (by simp [c1])] at hj3
   simp only [go_sem,↓reduceIte,Za,Zb,Zc,Zd,Ze,reduceCtorEq,Zf,Zg,Zh,Zi,Zj,Zk]
   refine ⟨(j+1,_),⟨by dsimp only;omega,by dsimp only;omega,hj3⟩,by dsimp only;omega,weak_ok ?_ (Sub.base hf ?_) (zna _)⟩
   .simp only [wr64s j (by omega),go_sem,↓reduceIte,Za,Zb,Zc,Zd,Ze,reduceCtorEq,Zf,Zg,Zh,Zi,Zj,Zk]
   .simp only [hj2,go_sem,↓reduceIte,Za,Zb,Zc,Zd,Ze,reduceCtorEq,Zf,Zg,Zh,Zi,Zj,Zk]
 .have c:j=l.length:=by simp at c;omega
  subst c
  rw [zll,fidx] at hj3
  simp only [hj3,hj2,go_sem,↓reduceIte,Za,Zb,Zc,Zd,Ze,reduceCtorEq,Zf,Zg,Zh,Zi,Zj,Zk]
theorem first_wri (l:List Wri) (q:Wri→Bool) (k:FuncId) (caps:List AV) (hl:l.length≤9223372036854775806) (hp:CH) (m:Nat) (h:∀x∈l,∀hp' n,m≤n→Ext hp hp' m→MeetsF Tryz.prog k hp' n (wx x::caps) (.b (q x))):MeetsF Tryz.prog 106 hp m [.ds (mapC wrC l),.fn k caps] (resI (fidx q l 0)):=by
 obtain ⟨R,hR⟩:∃R,fidx q l 0=R:=⟨_,rfl⟩
 rw [hR]
 refine meetsF Tryz.func106 (by kernel_rfl) cc106 cr106 rfl fun hf=>?_;unfold ck106
 simp only [go_sem,↓reduceIte,Za,Zb,Zc,Zd,Ze,reduceCtorEq,Zf,Zg,Zh,Zi,Zj,Zk]
 refine loop (fun p:Nat × Nat=>⟨[(1,.fn k caps),(8,.ds (mapC wrC l)),(9,.i .i64 l.length),(10,.i .i64 p.1)],hp,p.2⟩) (fun p=>p.1≤l.length∧m≤p.2∧R=fidx q (l.drop p.1) p.1) (fun p=>l.length - p.1) (0,m) ?_ ?_ (fun ⟨j,n⟩ hj=>?_)
 .exact ⟨by simp,by simp,hR.symm⟩
 .refine weak_ok ?_ (Sub.refl _) (zna _)
  simp only [go_sem,↓reduceIte,Za,Zb,Zc,Zd,Ze,reduceCtorEq,Zf,Zg,Zh,Zi,Zj,Zk]
 dsimp only at hj
 obtain ⟨hj1,hj2,hj3⟩:=hj
 simp only [go_sem,↓reduceIte,Za,Zb,Zc,Zd,Ze,reduceCtorEq,Zf,Zg,Zh,Zi,Zj,Zk]
 refine cdK_of (fun c=>?_) (fun c=>?_)
 .have c:j<l.length:=by simpa using c
  obtain ⟨x,ex⟩:∃x,l[j]?=some x:=⟨l[j],by simp [c]⟩
  have hx:=h x (zla ex)
  rw [drop_at ex,fidx] at hj3
  simp only [c,getK_s (mapC_get wrC ex),go_sem,↓reduceIte,Za,Zb,Zc,Zd,Ze,reduceCtorEq,Zf,Zg,Zh,Zi,Zj,Zk]
  refine vcCall.f (hx _ _ (by omega) fun i hi=>?_) ?_
  .simp only [gc_cons]
   repeat rw [if_neg (by omega)]
  simp only [go_sem,↓reduceIte,Za,Zb,Zc,Zd,Ze,reduceCtorEq,Zf,Zg,Zh,Zi,Zj,Zk]
  refine cdK_of (fun c1=>?_) (fun c1=>?_)
  .rw [if_pos c1] at hj3
   simp only [hj3,hj2,go_sem,↓reduceIte,Za,Zb,Zc,Zd,Ze,reduceCtorEq,Zf,Zg,Zh,Zi,Zj,Zk]
  .rw [if_neg (by simp [c1])] at hj3
   simp only [go_sem,↓reduceIte,Za,Zb,Zc,Zd,Ze,reduceCtorEq,Zf,Zg,Zh,Zi,Zj,Zk]
   refine ⟨(j+1,_),⟨by dsimp only;omega,by dsimp only;omega,hj3⟩,by dsimp only;omega,weak_ok ?_ (Sub.base hf ?_) (zna _)⟩
   .simp only [wr64s j (by omega),go_sem,↓reduceIte,Za,Zb,Zc,Zd,Ze,reduceCtorEq,Zf,Zg,Zh,Zi,Zj,Zk]
   .simp only [hj2,go_sem,↓reduceIte,Za,Zb,Zc,Zd,Ze,reduceCtorEq,Zf,Zg,Zh,Zi,Zj,Zk]
 .have c:j=l.length:=by simp at c;omega
  subst c
  rw [zll,fidx] at hj3
  simp only [hj3,hj2,go_sem,↓reduceIte,Za,Zb,Zc,Zd,Ze,reduceCtorEq,Zf,Zg,Zh,Zi,Zj,Zk]
inductive Dat.Fit:Dat→Prop
 | mk (d:Dat):d.i.length≤3518437208780→d.w.length≤1000000000000→(∀x∈d.i,x.l.length≤1256584717421∧∀c∈x.l,c.v.Fit)→(∀x∈d.w,x.c.v.Fit)→Dat.Fit d
theorem Dat.Fit.li {d:Dat} (h:d.Fit):d.i.length≤3518437208780:=by cases h;assumption
theorem Dat.Fit.lw {d:Dat} (h:d.Fit):d.w.length≤1000000000000:=by cases h;assumption
theorem Dat.Fit.ll {d:Dat} (h:d.Fit) {x:Itm} (hx:x∈d.i):x.l.length≤1256584717421:=by cases h;rename_i h _;exact (h x hx).1
theorem Dat.Fit.c {d:Dat} (h:d.Fit) {x:Itm} (hx:x∈d.i) {c:Cel} (hc:c∈x.l):c.v.Fit:=by cases h;rename_i h _;exact (h x hx).2 c hc
theorem Dat.Fit.w {d:Dat} (h:d.Fit) {x:Wri} (hx:x∈d.w):x.c.v.Fit:=by cases h;rename_i h;exact h x hx
end Go.Proofs.YtinbodeocoeneaaGreatDoor
