/- Proof. Conditions: none. -/
import Derived.Test.YtinbodeocoeneaaGreatDoorIc22
open Nat renaming reduceEqDiff→Za,reduceBEq→Zb,reduceAdd→Zc,reduceLeDiff→Zd,reduceLT→Ze,reduceMul→Zf,reduceSub→Zg
open Int renaming reduceEq→Zh,reduceLT→Zi,reduceLE→Zj,reduceToNat→Zk
open List renaming mem_of_getElem?→zla,drop_length→zll
open Nat renaming le_refl→zna
namespace Go.Proofs.YtinbodeocoeneaaGreatDoor
open Go.Eng
set_option linter.all false
set_option maxRecDepth 20000
theorem vsize_of (v:Val) (h3:v.items.length*80≤140737488355327) (h:∀x∈v.items,∀hp m,MeetsF Tryz.prog 145 hp m [vx x] (.i .i64 (szV x))) (hp:CH) (m:Nat):MeetsF Tryz.prog 145 hp m [vx v] (.i .i64 (szV v)):=by
 refine meetsF Tryz.func145 (by kernel_rfl) cc145 cr145 rfl fun hf=>?_;unfold ck145
 simp only [go_sem,↓reduceIte,Za,Zb,Zc,Zd,Ze,reduceCtorEq,Zf,Zg,Zh,Zi,Zj,Zk]
 refine loop (fun p:Nat × Int × Nat=>⟨[(3,.i .i64 p.2.1),(7,.ds (mapC valC v.items)),(8,.i .i64 v.items.length),(9,.i .i64 p.1)],(m,.bx [.i .i64 v.k,.i .i64 v.n,.s v.s,.ds (mapC valC v.items),.ds (stC v.keys)])::hp,p.2.2⟩)
  (fun p=>p.1≤v.items.length∧m+1≤p.2.2∧szV v=szL (v.items.drop p.1) p.2.1) (fun p=>v.items.length - p.1) (0,1,m+1) ?_ ?_ (fun ⟨j,a,n⟩ hj=>?_)
 .exact ⟨by dsimp only;omega,by dsimp only;omega,by rw [szV_eq];rfl⟩
 .refine weak_ok ?_ (Sub.refl _) (zna _)
  simp only [go_sem,↓reduceIte,Za,Zb,Zc,Zd,Ze,reduceCtorEq,Zf,Zg,Zh,Zi,Zj,Zk]
 dsimp only at hj
 have z1:¬n=m:=by omega
 have z2:m≤n:=by omega
 simp only [go_sem,↓reduceIte,Za,Zb,Zc,Zd,Ze,reduceCtorEq,Zf,Zg,Zh,Zi,Zj,Zk]
 refine cdK_of (fun d=>?_) (fun d=>?_)
 .have d:j<v.items.length:=by simpa using d
  obtain ⟨x,ex⟩:∃x,v.items[j]?=some x:=⟨v.items[j],by simp [d]⟩
  have hx:=h x (zla ex)
  have e:=drop_at ex
  rw [e,szL] at hj
  simp only [d,z1,z2,getK_s (mapC_get valC ex),go_sem,↓reduceIte,Za,Zb,Zc,Zd,Ze,reduceCtorEq,Zf,Zg,Zh,Zi,Zj,Zk]
  refine vcCall.f (hx _ _) ?_
  simp only [z1,z2,go_sem,↓reduceIte,Za,Zb,Zc,Zd,Ze,reduceCtorEq,Zf,Zg,Zh,Zi,Zj,Zk]
  refine ⟨(j+1,IntKind.i64.wrap (a+szV x),_),by dsimp only;exact ⟨by omega,by omega,hj.2.2⟩,by dsimp only;omega,weak_ok ?_ (Sub.cons ?_ (Sub.base hf ?_)) (zna _)⟩
  all_goals
   simp only [z1,z2,wr64s j (by omega),go_sem,↓reduceIte,Za,Zb,Zc,Zd,Ze,reduceCtorEq,Zf,Zg,Zh,Zi,Zj,Zk]
 .have d:j=v.items.length:=by simp at d;omega
  subst d
  rw [zll,szL] at hj
  simp only [go_sem,↓reduceIte,Za,Zb,Zc,Zd,Ze,reduceCtorEq,Zf,Zg,Zh,Zi,Zj,Zk]
  rw [hj.2.2]
theorem vsize_ok (v:Val) (hv:v.Fit) (hp:CH) (m:Nat):MeetsF Tryz.prog 145 hp m [vx v] (.i .i64 (szV v)):=by
 have:=Val.ind (Q:=fun v=>v.Fit→∀hp m,MeetsF Tryz.prog 145 hp m [vx v] (.i .i64 (szV v))) (fun v ih hv hp m=>vsize_of v hv.i (fun x hx=>ih x hx (hv.x hx)) hp m) v
 exact this hv hp m
mutual
def dpV:Val→Int
 | .mk _ _ _ i _=>IntKind.i64.wrap (dpL i 0+1)
def dpL:List Val→Int→Int
 | [],n=>n
 | x::r,n=>dpL r (if n<dpV x then dpV x else n)
end
theorem dpV_eq (v:Val):dpV v=IntKind.i64.wrap (dpL v.items 0+1):=by cases v;rw [dpV];rfl
theorem vdepth_of (v:Val) (h3:v.items.length*80≤140737488355327) (h:∀x∈v.items,∀hp m,MeetsF Tryz.prog 146 hp m [vx x] (.i .i64 (dpV x))) (hp:CH) (m:Nat):MeetsF Tryz.prog 146 hp m [vx v] (.i .i64 (dpV v)):=by
 obtain ⟨D,hD⟩:∃D,dpL v.items 0=D:=⟨_,rfl⟩
 have hd:=dpV_eq v
 rw [hD] at hd
 rw [hd]
 refine meetsF Tryz.func146 (by kernel_rfl) cc146 cr146 rfl fun hf=>?_;unfold ck146
 simp only [go_sem,↓reduceIte,Za,Zb,Zc,Zd,Ze,reduceCtorEq,Zf,Zg,Zh,Zi,Zj,Zk]
 refine loop (fun p:Nat × Int × Nat=>⟨[(3,.i .i64 p.2.1),(7,.ds (mapC valC v.items)),(8,.i .i64 v.items.length),(9,.i .i64 p.1)],(m,.bx [.i .i64 v.k,.i .i64 v.n,.s v.s,.ds (mapC valC v.items),.ds (stC v.keys)])::hp,p.2.2⟩)
  (fun p=>p.1≤v.items.length∧m+1≤p.2.2∧D=dpL (v.items.drop p.1) p.2.1) (fun p=>v.items.length - p.1) (0,0,m+1) ?_ ?_ (fun ⟨j,a,n⟩ hj=>?_)
 .exact ⟨by dsimp only;omega,by dsimp only;omega,hD.symm⟩
 .refine weak_ok ?_ (Sub.refl _) (zna _)
  simp only [go_sem,↓reduceIte,Za,Zb,Zc,Zd,Ze,reduceCtorEq,Zf,Zg,Zh,Zi,Zj,Zk]
 dsimp only at hj
 have z1:¬n=m:=by omega
 have z2:m≤n:=by omega
 simp only [go_sem,↓reduceIte,Za,Zb,Zc,Zd,Ze,reduceCtorEq,Zf,Zg,Zh,Zi,Zj,Zk]
 refine cdK_of (fun d=>?_) (fun d=>?_)
 .have d:j<v.items.length:=by simpa using d
  obtain ⟨x,ex⟩:∃x,v.items[j]?=some x:=⟨v.items[j],by simp [d]⟩
  have hx:=h x (zla ex)
  have e:=drop_at ex
  rw [e,dpL] at hj
  simp only [d,z1,z2,getK_s (mapC_get valC ex),go_sem,↓reduceIte,Za,Zb,Zc,Zd,Ze,reduceCtorEq,Zf,Zg,Zh,Zi,Zj,Zk]
  refine vcCall.f (hx _ _) ?_
  simp only [z1,z2,go_sem,↓reduceIte,Za,Zb,Zc,Zd,Ze,reduceCtorEq,Zf,Zg,Zh,Zi,Zj,Zk]
  refine ⟨(j+1,(if a<dpV x then dpV x else a),_),by dsimp only;exact ⟨by omega,by omega,hj.2.2⟩,by dsimp only;omega,weak_ok ?_ (Sub.cons ?_ (Sub.base hf ?_)) (zna _)⟩
  all_goals
   simp only [z1,z2,wr64s j (by omega),go_sem,↓reduceIte,Za,Zb,Zc,Zd,Ze,reduceCtorEq,Zf,Zg,Zh,Zi,Zj,Zk]
 .have d:j=v.items.length:=by simp at d;omega
  subst d
  rw [zll,dpL] at hj
  simp only [go_sem,↓reduceIte,Za,Zb,Zc,Zd,Ze,reduceCtorEq,Zf,Zg,Zh,Zi,Zj,Zk]
  rw [hj.2.2]
theorem vdepth_ok (v:Val) (hv:v.Fit) (hp:CH) (m:Nat):MeetsF Tryz.prog 146 hp m [vx v] (.i .i64 (dpV v)):=by
 have:=Val.ind (Q:=fun v=>v.Fit→∀hp m,MeetsF Tryz.prog 146 hp m [vx v] (.i .i64 (dpV v))) (fun v ih hv hp m=>vdepth_of v hv.i (fun x hx=>ih x hx (hv.x hx)) hp m) v
 exact this hv hp m
theorem rdepth_of (v:Val) (h3:v.items.length*80≤140737488355327) (h:∀x∈v.items,∀hp m,MeetsF Tryz.prog 154 hp m [vx x] (.i .i64 (dpV x))) (hp:CH) (m:Nat):MeetsF Tryz.prog 154 hp m [vx v] (.i .i64 (dpV v)):=by
 obtain ⟨D,hD⟩:∃D,dpL v.items 0=D:=⟨_,rfl⟩
 have hd:=dpV_eq v
 rw [hD] at hd
 rw [hd]
 refine meetsF Tryz.func154 (by kernel_rfl) cc154 cr154 rfl fun hf=>?_;unfold ck154
 simp only [go_sem,↓reduceIte,Za,Zb,Zc,Zd,Ze,reduceCtorEq,Zf,Zg,Zh,Zi,Zj,Zk]
 refine loop (fun p:Nat × Int × Nat=>⟨[(1,.bx m 0),(3,.i .i64 p.2.1),(4,.i .i64 p.1)],(m,.bx [.i .i64 v.k,.i .i64 v.n,.s v.s,.ds (mapC valC v.items),.ds (stC v.keys)])::hp,p.2.2⟩)
  (fun p=>p.1≤v.items.length∧m+1≤p.2.2∧D=dpL (v.items.drop p.1) p.2.1) (fun p=>v.items.length - p.1) (0,0,m+1) ?_ ?_ (fun ⟨j,a,n⟩ hj=>?_)
 .exact ⟨by dsimp only;omega,by dsimp only;omega,hD.symm⟩
 .refine weak_ok ?_ (Sub.refl _) (zna _)
  simp only [go_sem,↓reduceIte,Za,Zb,Zc,Zd,Ze,reduceCtorEq,Zf,Zg,Zh,Zi,Zj,Zk]
 dsimp only at hj
 simp only [go_sem,↓reduceIte,Za,Zb,Zc,Zd,Ze,reduceCtorEq,Zf,Zg,Zh,Zi,Zj,Zk]
 refine cdK_of (fun d=>?_) (fun d=>?_)
 .have d:j<v.items.length:=by simpa using d
  obtain ⟨x,ex⟩:∃x,v.items[j]?=some x:=⟨v.items[j],by simp [d]⟩
  have hx:=h x (zla ex)
  have e:=drop_at ex
  rw [e,dpL] at hj
  simp only [d,getK_s (mapC_get valC ex),go_sem,↓reduceIte,Za,Zb,Zc,Zd,Ze,reduceCtorEq,Zf,Zg,Zh,Zi,Zj,Zk]
  refine vcCall.f (hx _ _) ?_
  simp only [go_sem,↓reduceIte,Za,Zb,Zc,Zd,Ze,reduceCtorEq,Zf,Zg,Zh,Zi,Zj,Zk]
  refine ⟨(j+1,(if a<dpV x then dpV x else a),n),by dsimp only;exact ⟨by omega,by omega,hj.2.2⟩,by dsimp only;omega,weak_ok ?_ (Sub.refl _) (zna _)⟩
  simp only [wr64s j (by omega),go_sem,↓reduceIte,Za,Zb,Zc,Zd,Ze,reduceCtorEq,Zf,Zg,Zh,Zi,Zj,Zk]
 .have d:j=v.items.length:=by simp at d;omega
  subst d
  rw [zll,dpL] at hj
  simp only [go_sem,↓reduceIte,Za,Zb,Zc,Zd,Ze,reduceCtorEq,Zf,Zg,Zh,Zi,Zj,Zk]
  rw [hj.2.2]
theorem rdepth_ok (v:Val) (hv:v.Fit) (hp:CH) (m:Nat):MeetsF Tryz.prog 154 hp m [vx v] (.i .i64 (dpV v)):=by
 have:=Val.ind (Q:=fun v=>v.Fit→∀hp m,MeetsF Tryz.prog 154 hp m [vx v] (.i .i64 (dpV v))) (fun v ih hv hp m=>rdepth_of v hv.i (fun x hx=>ih x hx (hv.x hx)) hp m) v
 exact this hv hp m
noncomputable def nodeV (v:Val) (lit:Bool):Bool :=
 if v.k=0 then decide (v.n=0)&&decide (v.s=⟨#[]⟩)&&decide ((v.items.length:Int)=0)&&decide ((v.keys.length:Int)=0)
 else if v.k=1 then (decide (v.n=0)||decide (v.n=1))&&decide (v.s=⟨#[]⟩)&&decide ((v.items.length:Int)=0)&&decide ((v.keys.length:Int)=0)
 else if v.k=2 then decide (v.s=⟨#[]⟩)&&decide ((v.items.length:Int)=0)&&decide ((v.keys.length:Int)=0)
 else if v.k=3 then decide (v.n=0)&&decide ((v.items.length:Int)=0)&&decide ((v.keys.length:Int)=0)
 else if v.k=4 then decide (v.n=0)&&decide ((v.items.length:Int)=0)&&decide ((v.keys.length:Int)=0)&&nmS v.s&&!decide (v.s=⟨#[116,114,117,101]⟩)&&!decide (v.s=⟨#[102,97,108,115,101]⟩)&&!decide (v.s=⟨#[110,117,108,108]⟩)
 else if v.k=5 then decide (v.n=0)&&decide (v.s=⟨#[]⟩)&&decide ((v.keys.length:Int)=0)
 else if v.k=6 then decide (v.n=0)&&decide (v.s=⟨#[]⟩)&&decide ((v.keys.length:Int)=v.items.length)&&!tw v.keys
 else if v.k=7 then lit&&decide (v.n=0)&&decide ((v.items.length:Int)=0)&&decide ((v.keys.length:Int)=0)&&nmS v.s
 else false
theorem rnode_ok (v:Val) (lit:Bool) (hv:v.Fit) (hp:CH) (m:Nat):MeetsF Tryz.prog 173 hp m [vx v,.b lit] (.b (nodeV v lit)):=by
 have hl:=hv.l
 refine meetsF Tryz.func173 (by kernel_rfl) cc173 cr173 rfl fun hf=>?_;unfold ck173
 simp only [go_sem,↓reduceIte,Za,Zb,Zc,Zd,Ze,reduceCtorEq,Zf,Zg,Zh,Zi,Zj,Zk]
 repeat' (first
  | ((with_reducible refine cdK_of (fun _=>?_) (fun _=>?_))<;>(try simp only [go_sem,↓reduceIte,Za,Zb,Zc,Zd,Ze,reduceCtorEq,Zf,Zg,Zh,Zi,Zj,Zk]))
  | ((with_reducible apply vcCall.f);exact Name2_ok _ _ _;try simp only [go_sem,↓reduceIte,Za,Zb,Zc,Zd,Ze,reduceCtorEq,Zf,Zg,Zh,Zi,Zj,Zk])
  | ((with_reducible apply gCall.f);exact fun _=>Name2_ok _ _ _;try simp only [go_sem,↓reduceIte,Za,Zb,Zc,Zd,Ze,reduceCtorEq,Zf,Zg,Zh,Zi,Zj,Zk])
  | ((with_reducible apply dCall.f);exact fun _ _ _=>Name2_ok _ _ _;try simp only [go_sem,↓reduceIte,Za,Zb,Zc,Zd,Ze,reduceCtorEq,Zf,Zg,Zh,Zi,Zj,Zk])
  | ((with_reducible apply dCallR.f);exact fun _ _ _=>Name2_ok _ _ _;try simp only [go_sem,↓reduceIte,Za,Zb,Zc,Zd,Ze,reduceCtorEq,Zf,Zg,Zh,Zi,Zj,Zk])
  | ((with_reducible apply vcCall.f);exact twice2_ok v.keys (by omega) _ _;try simp only [go_sem,↓reduceIte,Za,Zb,Zc,Zd,Ze,reduceCtorEq,Zf,Zg,Zh,Zi,Zj,Zk])
  | ((with_reducible apply gCall.f);exact fun _=>twice2_ok v.keys (by omega) _ _;try simp only [go_sem,↓reduceIte,Za,Zb,Zc,Zd,Ze,reduceCtorEq,Zf,Zg,Zh,Zi,Zj,Zk])
  | ((with_reducible apply dCall.f);exact fun _ _ _=>twice2_ok v.keys (by omega) _ _;try simp only [go_sem,↓reduceIte,Za,Zb,Zc,Zd,Ze,reduceCtorEq,Zf,Zg,Zh,Zi,Zj,Zk])
  | ((with_reducible apply dCallR.f);exact fun _ _ _=>twice2_ok v.keys (by omega) _ _;try simp only [go_sem,↓reduceIte,Za,Zb,Zc,Zd,Ze,reduceCtorEq,Zf,Zg,Zh,Zi,Zj,Zk])
  | ((with_reducible apply vcCall.p);exact Name2_ok _ _ _;(focus (simp only [go_sem,↓reduceIte,Za,Zb,Zc,Zd,Ze,reduceCtorEq,Zf,Zg,Zh,Zi,Zj,Zk];done));try simp only [go_sem,↓reduceIte,Za,Zb,Zc,Zd,Ze,reduceCtorEq,Zf,Zg,Zh,Zi,Zj,Zk])
  | ((with_reducible apply vcCall.p);exact twice2_ok v.keys (by omega) _ _;(focus (simp only [go_sem,↓reduceIte,Za,Zb,Zc,Zd,Ze,reduceCtorEq,Zf,Zg,Zh,Zi,Zj,Zk];done));try simp only [go_sem,↓reduceIte,Za,Zb,Zc,Zd,Ze,reduceCtorEq,Zf,Zg,Zh,Zi,Zj,Zk])
  | ((with_reducible refine grK_of (fun _=>?_) (fun _=>?_))<;>(try simp only [go_sem,↓reduceIte,Za,Zb,Zc,Zd,Ze,reduceCtorEq,Zf,Zg,Zh,Zi,Zj,Zk]))
  | ((with_reducible refine gCall.s (vcIf_of (fun _=>?_) (fun _=>?_)))<;>(try simp only [go_sem,↓reduceIte,Za,Zb,Zc,Zd,Ze,reduceCtorEq,Zf,Zg,Zh,Zi,Zj,Zk]))
  | ((with_reducible refine getK.m ?_ (fun _ _=>?_));rotate_left;try simp only [go_sem,↓reduceIte,Za,Zb,Zc,Zd,Ze,reduceCtorEq,Zf,Zg,Zh,Zi,Zj,Zk])
  | exact mapC_all (fun _=>rfl)
  | exact mapC_alln (fun _=>⟨rfl,rfl⟩)
  | with_reducible refine And.intro ?_ ?_)
 all_goals clear hf hl hv
 all_goals simp only [decide_eq_true_eq,decide_eq_false_iff_not] at *
 all_goals simp only [nodeV, *,↓reduceIte,Zh]
noncomputable def nodeW (v:Val) (lit:Bool):Bool:=nodeV v lit&&!(lit&&v.keys.any fun k=>!nmS k)
theorem notName_ok (s:ByteArray) (hp:CH) (m:Nat):MeetsF Tryz.prog 181 hp m [.s s] (.b (!nmS s)):=by
 refine meetsF Tryz.func181 (by kernel_rfl) cc181 cr181 rfl fun hf=>?_;unfold ck181
 simp only [go_sem,↓reduceIte,Za,Zb,Zc,Zd,Ze,reduceCtorEq,Zf,Zg,Zh,Zi,Zj,Zk]
 refine vcCall.f (Name_ok s _ _) ?_
 simp only [go_sem,↓reduceIte,Za,Zb,Zc,Zd,Ze,reduceCtorEq,Zf,Zg,Zh,Zi,Zj,Zk]
theorem vnode_ok (v:Val) (lit:Bool) (hv:v.Fit) (hp:CH) (m:Nat):MeetsF Tryz.prog 163 hp m [vx v,.b lit] (.b (nodeW v lit)):=by
 have hl:=hv.l
 have hk:v.keys.length=0→v.keys=[]:=List.eq_nil_of_length_eq_zero
 refine meetsF Tryz.func163 (by kernel_rfl) cc163 cr163 rfl fun hf=>?_;unfold ck163
 simp only [go_sem,↓reduceIte,Za,Zb,Zc,Zd,Ze,reduceCtorEq,Zf,Zg,Zh,Zi,Zj,Zk]
 repeat' (first
  | ((with_reducible refine cdK_of (fun _=>?_) (fun _=>?_))<;>(try simp only [go_sem,↓reduceIte,Za,Zb,Zc,Zd,Ze,reduceCtorEq,Zf,Zg,Zh,Zi,Zj,Zk]))
  | ((with_reducible apply vcCall.f);exact Name_ok _ _ _;try simp only [go_sem,↓reduceIte,Za,Zb,Zc,Zd,Ze,reduceCtorEq,Zf,Zg,Zh,Zi,Zj,Zk])
  | ((with_reducible apply gCall.f);exact fun _=>Name_ok _ _ _;try simp only [go_sem,↓reduceIte,Za,Zb,Zc,Zd,Ze,reduceCtorEq,Zf,Zg,Zh,Zi,Zj,Zk])
  | ((with_reducible apply dCall.f);exact fun _ _ _=>Name_ok _ _ _;try simp only [go_sem,↓reduceIte,Za,Zb,Zc,Zd,Ze,reduceCtorEq,Zf,Zg,Zh,Zi,Zj,Zk])
  | ((with_reducible apply dCallR.f);exact fun _ _ _=>Name_ok _ _ _;try simp only [go_sem,↓reduceIte,Za,Zb,Zc,Zd,Ze,reduceCtorEq,Zf,Zg,Zh,Zi,Zj,Zk])
  | ((with_reducible apply vcCall.f);exact twice_ok v.keys (by omega) _ _;try simp only [go_sem,↓reduceIte,Za,Zb,Zc,Zd,Ze,reduceCtorEq,Zf,Zg,Zh,Zi,Zj,Zk])
  | ((with_reducible apply gCall.f);exact fun _=>twice_ok v.keys (by omega) _ _;try simp only [go_sem,↓reduceIte,Za,Zb,Zc,Zd,Ze,reduceCtorEq,Zf,Zg,Zh,Zi,Zj,Zk])
  | ((with_reducible apply dCall.f);exact fun _ _ _=>twice_ok v.keys (by omega) _ _;try simp only [go_sem,↓reduceIte,Za,Zb,Zc,Zd,Ze,reduceCtorEq,Zf,Zg,Zh,Zi,Zj,Zk])
  | ((with_reducible apply dCallR.f);exact fun _ _ _=>twice_ok v.keys (by omega) _ _;try simp only [go_sem,↓reduceIte,Za,Zb,Zc,Zd,Ze,reduceCtorEq,Zf,Zg,Zh,Zi,Zj,Zk])
  | ((with_reducible apply vcCall.f);exact anyf_str v.keys (fun k=>!nmS k) _ [] (by omega) _ _ fun x _ n=>notName_ok x _ _;try simp only [go_sem,↓reduceIte,Za,Zb,Zc,Zd,Ze,reduceCtorEq,Zf,Zg,Zh,Zi,Zj,Zk])
  | ((with_reducible apply gCall.f);exact fun _=>anyf_str v.keys (fun k=>!nmS k) _ [] (by omega) _ _ fun x _ n=>notName_ok x _ _;try simp only [go_sem,↓reduceIte,Za,Zb,Zc,Zd,Ze,reduceCtorEq,Zf,Zg,Zh,Zi,Zj,Zk])
  | ((with_reducible apply dCall.f);exact fun _ _ _=>anyf_str v.keys (fun k=>!nmS k) _ [] (by omega) _ _ fun x _ n=>notName_ok x _ _;try simp only [go_sem,↓reduceIte,Za,Zb,Zc,Zd,Ze,reduceCtorEq,Zf,Zg,Zh,Zi,Zj,Zk])
  | ((with_reducible apply dCallR.f);exact fun _ _ _=>anyf_str v.keys (fun k=>!nmS k) _ [] (by omega) _ _ fun x _ n=>notName_ok x _ _;try simp only [go_sem,↓reduceIte,Za,Zb,Zc,Zd,Ze,reduceCtorEq,Zf,Zg,Zh,Zi,Zj,Zk])
  | ((with_reducible apply vcCall.p);exact Name_ok _ _ _;(focus (simp only [go_sem,↓reduceIte,Za,Zb,Zc,Zd,Ze,reduceCtorEq,Zf,Zg,Zh,Zi,Zj,Zk];done));try simp only [go_sem,↓reduceIte,Za,Zb,Zc,Zd,Ze,reduceCtorEq,Zf,Zg,Zh,Zi,Zj,Zk])
  | ((with_reducible apply vcCall.p);exact twice_ok v.keys (by omega) _ _;(focus (simp only [go_sem,↓reduceIte,Za,Zb,Zc,Zd,Ze,reduceCtorEq,Zf,Zg,Zh,Zi,Zj,Zk];done));try simp only [go_sem,↓reduceIte,Za,Zb,Zc,Zd,Ze,reduceCtorEq,Zf,Zg,Zh,Zi,Zj,Zk])
  | ((with_reducible apply vcCall.p);exact anyf_str v.keys (fun k=>!nmS k) _ [] (by omega) _ _ fun x _ n=>notName_ok x _ _;(focus (simp only [go_sem,↓reduceIte,Za,Zb,Zc,Zd,Ze,reduceCtorEq,Zf,Zg,Zh,Zi,Zj,Zk];done));try simp only [go_sem,↓reduceIte,Za,Zb,Zc,Zd,Ze,reduceCtorEq,Zf,Zg,Zh,Zi,Zj,Zk])
  | ((with_reducible refine grK_of (fun _=>?_) (fun _=>?_))<;>(try simp only [go_sem,↓reduceIte,Za,Zb,Zc,Zd,Ze,reduceCtorEq,Zf,Zg,Zh,Zi,Zj,Zk]))
  | ((with_reducible refine gCall.s (vcIf_of (fun _=>?_) (fun _=>?_)))<;>(try simp only [go_sem,↓reduceIte,Za,Zb,Zc,Zd,Ze,reduceCtorEq,Zf,Zg,Zh,Zi,Zj,Zk]))
  | ((with_reducible refine getK.m ?_ (fun _ _=>?_));rotate_left;try simp only [go_sem,↓reduceIte,Za,Zb,Zc,Zd,Ze,reduceCtorEq,Zf,Zg,Zh,Zi,Zj,Zk])
  | exact mapC_all (fun _=>rfl)
  | exact mapC_alln (fun _=>⟨rfl,rfl⟩)
  | with_reducible refine And.intro ?_ ?_)
 all_goals clear hf hl
 all_goals
  refine congrArg some (congrArg AV.b ?_)
  rw [nodeW]
  have hk2:(v.keys.length:Int)=0→(v.keys.any fun k=>!nmS k)=false:=fun h=>by rw [hk (by omega)];rfl
  have hL:0≤(v.keys.length:Int):=by omega
  have hI:0≤(v.items.length:Int):=by omega
  clear hk hv
  unfold nodeV
  generalize (v.keys.any fun k=>!nmS k)=A at *
  generalize (v.keys.length:Int)=L at *
  generalize (v.items.length:Int)=I at *
  simp only [decide_eq_true_eq,decide_eq_false_iff_not,Bool.or_eq_false_iff,Bool.or_eq_true,Bool.and_eq_true,Bool.and_eq_false_iff,Bool.not_eq_true',Bool.not_eq_false'] at *
  grind
theorem bx_lt {hp:CH} {m c:Nat} {l:List AV} (hf:∀k,m≤k→gc hp k=.no) (h:gc hp c=.bx l):c<m:=by
 rcases Nat.lt_or_ge c m with q | q
 .exact q
 .rw [hf c q] at h;cases h
mutual
noncomputable def evV (lit:Bool):Val→Bool
 | .mk k n s i l=>nodeW (.mk k n s i l) lit&&evL lit i
noncomputable def evL (lit:Bool):List Val→Bool
 | []=>true
 | x::r=>evV lit x&&evL lit r
end
theorem evV_eq (lit:Bool) (v:Val):evV lit v=(nodeW v lit&&evL lit v.items):=by cases v;rw [evV];rfl
theorem evL_any (lit:Bool):∀l:List Val,evL lit l=!(l.any fun x=>!evV lit x)
 | []=>by rw [evL];rfl
 | x::r=>by rw [evL,evL_any lit r,List.any_cons];cases evV lit x<;>simp
theorem every1_ok (v:Val) (lit:Bool) (h:∀hp m,MeetsF Tryz.prog 147 hp m [vx v,.b lit] (.b (evV lit v))) (c:Nat) (hp:CH) (m:Nat) (hc:gc hp c=.bx [.b lit]):MeetsF Tryz.prog 165 hp m [vx v,.bx c 0] (.b (!evV lit v)):=by
 refine meetsF Tryz.func165 (by kernel_rfl) cc165 cr165 rfl fun hf=>?_;unfold ck165
 have hlt:=bx_lt hf hc
 have z1:¬c=m:=by omega
 have z2:¬m=c:=by omega
 simp only [z1,z2,hc,go_sem,↓reduceIte,Za,Zb,Zc,Zd,Ze,reduceCtorEq,Zf,Zg,Zh,Zi,Zj,Zk]
 refine vcCall.f (h _ _) ?_
 simp only [go_sem,↓reduceIte,Za,Zb,Zc,Zd,Ze,reduceCtorEq,Zf,Zg,Zh,Zi,Zj,Zk]
theorem every_of (v:Val) (lit:Bool) (hv:v.Fit) (h:∀x∈v.items,∀hp m,MeetsF Tryz.prog 147 hp m [vx x,.b lit] (.b (evV lit x))) (hp:CH) (m:Nat):MeetsF Tryz.prog 147 hp m [vx v,.b lit] (.b (evV lit v)):=by
 have h1:=hv.i
 have e:=evV_eq lit v
 rw [evL_any] at e
 rw [e]
 refine meetsF Tryz.func147 (by kernel_rfl) cc147 cr147 rfl fun hf=>?_;unfold ck147
 simp only [go_sem,↓reduceIte,Za,Zb,Zc,Zd,Ze,reduceCtorEq,Zf,Zg,Zh,Zi,Zj,Zk]
 refine vcCall.f (vnode_ok v lit hv _ _) ?_
 simp only [go_sem,↓reduceIte,Za,Zb,Zc,Zd,Ze,reduceCtorEq,Zf,Zg,Zh,Zi,Zj,Zk]
 refine gCall.f (fun g=>anyf_val v.items (fun x=>!evV lit x) _ _ (by omega) _ _ fun x hx n=>every1_ok x lit (h x hx) (m+1) _ _ (by simp only [go_sem,↓reduceIte,Za,Zb,Zc,Zd,Ze,reduceCtorEq,Zf,Zg,Zh,Zi,Zj,Zk])) ?_
 simp only [go_sem,↓reduceIte,Za,Zb,Zc,Zd,Ze,reduceCtorEq,Zf,Zg,Zh,Zi,Zj,Zk]
theorem every_ok (v:Val) (lit:Bool) (hv:v.Fit) (hp:CH) (m:Nat):MeetsF Tryz.prog 147 hp m [vx v,.b lit] (.b (evV lit v)):=by
 have:=Val.ind (Q:=fun v=>v.Fit→∀hp m,MeetsF Tryz.prog 147 hp m [vx v,.b lit] (.b (evV lit v))) (fun v ih hv hp m=>every_of v lit hv (fun x hx=>ih x hx (hv.x hx)) hp m) v
 exact this hv hp m
theorem whole_of (v:Val) (lit:Bool) (hv:v.Fit) (h:∀x∈v.items,∀hp m,MeetsF Tryz.prog 155 hp m [vx x,.b lit] (.b (evV lit x))) (hp:CH) (m:Nat):MeetsF Tryz.prog 155 hp m [vx v,.b lit] (.b (evV lit v)):=by
 have h1:=hv.i
 have h2:=hv.l
 have e0:=evV_eq lit v
 refine meetsF Tryz.func155 (by kernel_rfl) cc155 cr155 rfl fun hf=>?_;unfold ck155
 simp only [go_sem,↓reduceIte,Za,Zb,Zc,Zd,Ze,reduceCtorEq,Zf,Zg,Zh,Zi,Zj,Zk]
 refine vcCall.f (rnode_ok v lit hv _ _) ?_
 simp only [go_sem,↓reduceIte,Za,Zb,Zc,Zd,Ze,reduceCtorEq,Zf,Zg,Zh,Zi,Zj,Zk]
 refine cdK_of (fun c=>?_) (fun c=>?_)
 .have c:nodeV v lit=false:=by simpa using c
  rw [e0,nodeW,c,Bool.false_and,Bool.false_and]
  simp only [go_sem,↓reduceIte,Za,Zb,Zc,Zd,Ze,reduceCtorEq,Zf,Zg,Zh,Zi,Zj,Zk]
 have c:nodeV v lit=true:=by simpa using c
 rw [nodeW,c,Bool.true_and] at e0
 simp only [go_sem,↓reduceIte,Za,Zb,Zc,Zd,Ze,reduceCtorEq,Zf,Zg,Zh,Zi,Zj,Zk]
 refine loop (fun p:Nat × Nat=>⟨[(1,.b lit),(2,.bx m 0),(5,.i .i64 p.1)],(m,.bx [.i .i64 v.k,.i .i64 v.n,.s v.s,.ds (mapC valC v.items),.ds (stC v.keys)])::hp,p.2⟩)
  (fun p=>p.1≤v.keys.length∧m+1≤p.2∧(lit&&v.keys.any fun k=>!nmS k)=(lit&&(v.keys.drop p.1).any fun k=>!nmS k)) (fun p=>v.keys.length - p.1) (0,m+1) ?_ ?_ (fun ⟨j,n⟩ hj=>?_)
 .exact ⟨by simp,by simp,rfl⟩
 .refine weak_ok ?_ (Sub.refl _) (zna _)
  simp only [go_sem,↓reduceIte,Za,Zb,Zc,Zd,Ze,reduceCtorEq,Zf,Zg,Zh,Zi,Zj,Zk]
 dsimp only at hj
 obtain ⟨hj1,hj2,hj3⟩:=hj
 simp only [go_sem,↓reduceIte,Za,Zb,Zc,Zd,Ze,reduceCtorEq,Zf,Zg,Zh,Zi,Zj,Zk]
 refine cdK_of (fun d=>?_) (fun d=>?_)
 .have d:j<v.keys.length:=by simpa using d
  obtain ⟨x,ex⟩:∃x,v.keys[j]?=some x:=⟨v.keys[j],by simp [d]⟩
  rw [drop_at ex,List.any_cons] at hj3
  simp only [d,go_sem,↓reduceIte,Za,Zb,Zc,Zd,Ze,reduceCtorEq,Zf,Zg,Zh,Zi,Zj,Zk]
  refine grK_of (fun g=>?_) (fun g=>?_)
  .subst g
   simp only [d,getK_s (mapC_get st1 ex),go_sem,↓reduceIte,Za,Zb,Zc,Zd,Ze,reduceCtorEq,Zf,Zg,Zh,Zi,Zj,Zk]
   refine gCall_t (vcCall.f (Name2_ok x _ _) ?_)
   simp only [go_sem,↓reduceIte,Za,Zb,Zc,Zd,Ze,reduceCtorEq,Zf,Zg,Zh,Zi,Zj,Zk]
   refine cdK_of (fun q=>?_) (fun q=>?_)
   .rw [q] at hj3
    rw [hj3] at e0
    rw [e0]
    simp only [go_sem,↓reduceIte,Za,Zb,Zc,Zd,Ze,reduceCtorEq,Zf,Zg,Zh,Zi,Zj,Zk]
   .rw [q,Bool.false_or] at hj3
    simp only [go_sem,↓reduceIte,Za,Zb,Zc,Zd,Ze,reduceCtorEq,Zf,Zg,Zh,Zi,Zj,Zk]
    refine ⟨(j+1,_),⟨by dsimp only;omega,by dsimp only;omega,hj3⟩,by dsimp only;omega,weak_ok ?_ (Sub.refl _) (zna _)⟩
    simp only [wr64s j (by omega),go_sem,↓reduceIte,Za,Zb,Zc,Zd,Ze,reduceCtorEq,Zf,Zg,Zh,Zi,Zj,Zk]
  .subst g
   simp only [d,go_sem,↓reduceIte,Za,Zb,Zc,Zd,Ze,reduceCtorEq,Zf,Zg,Zh,Zi,Zj,Zk]
   refine gCall_f ?_
   simp only [go_sem,↓reduceIte,Za,Zb,Zc,Zd,Ze,reduceCtorEq,Zf,Zg,Zh,Zi,Zj,Zk]
   refine ⟨(j+1,_),⟨by dsimp only;omega,by dsimp only;omega⟩,by dsimp only;omega,weak_ok ?_ (Sub.refl _) (zna _)⟩
   simp only [wr64s j (by omega),go_sem,↓reduceIte,Za,Zb,Zc,Zd,Ze,reduceCtorEq,Zf,Zg,Zh,Zi,Zj,Zk]
 .have d:j=v.keys.length:=by simp at d;omega
  subst d
  rw [zll,List.any_nil,Bool.and_false] at hj3
  rw [hj3,Bool.not_false,Bool.true_and] at e0
  simp only [go_sem,↓reduceIte,Za,Zb,Zc,Zd,Ze,reduceCtorEq,Zf,Zg,Zh,Zi,Zj,Zk]
  refine loop (fun p:Nat × Nat=>⟨[(1,.b lit),(2,.bx m 0),(6,.i .i64 p.1)],(m,.bx [.i .i64 v.k,.i .i64 v.n,.s v.s,.ds (mapC valC v.items),.ds (stC v.keys)])::hp,p.2⟩)
   (fun p=>p.1≤v.items.length∧m+1≤p.2∧evV lit v=evL lit (v.items.drop p.1)) (fun p=>v.items.length - p.1) (0,n) ?_ ?_ (fun ⟨j,n⟩ hj=>?_)
  .exact ⟨by simp,hj2,e0⟩
  .refine weak_ok ?_ (Sub.refl _) (zna _)
   simp only [go_sem,↓reduceIte,Za,Zb,Zc,Zd,Ze,reduceCtorEq,Zf,Zg,Zh,Zi,Zj,Zk]
  dsimp only at hj
  obtain ⟨hj1,hj2,hj3⟩:=hj
  simp only [go_sem,↓reduceIte,Za,Zb,Zc,Zd,Ze,reduceCtorEq,Zf,Zg,Zh,Zi,Zj,Zk]
  refine cdK_of (fun d=>?_) (fun d=>?_)
  .have d:j<v.items.length:=by simpa using d
   obtain ⟨x,ex⟩:∃x,v.items[j]?=some x:=⟨v.items[j],by simp [d]⟩
   rw [drop_at ex,evL] at hj3
   simp only [d,getK_s (mapC_get valC ex),go_sem,↓reduceIte,Za,Zb,Zc,Zd,Ze,reduceCtorEq,Zf,Zg,Zh,Zi,Zj,Zk]
   refine vcCall.f (h x (zla ex) _ _) ?_
   simp only [go_sem,↓reduceIte,Za,Zb,Zc,Zd,Ze,reduceCtorEq,Zf,Zg,Zh,Zi,Zj,Zk]
   refine cdK_of (fun q=>?_) (fun q=>?_)
   .have q:evV lit x=false:=by simpa using q
    rw [hj3,q,Bool.false_and]
    simp only [go_sem,↓reduceIte,Za,Zb,Zc,Zd,Ze,reduceCtorEq,Zf,Zg,Zh,Zi,Zj,Zk]
   .have q:evV lit x=true:=by simpa using q
    rw [q,Bool.true_and] at hj3
    simp only [go_sem,↓reduceIte,Za,Zb,Zc,Zd,Ze,reduceCtorEq,Zf,Zg,Zh,Zi,Zj,Zk]
    refine ⟨(j+1,_),⟨by dsimp only;omega,by dsimp only;omega,hj3⟩,by dsimp only;omega,weak_ok ?_ (Sub.refl _) (zna _)⟩
    simp only [wr64s j (by omega),go_sem,↓reduceIte,Za,Zb,Zc,Zd,Ze,reduceCtorEq,Zf,Zg,Zh,Zi,Zj,Zk]
  .have d:j=v.items.length:=by simp at d;omega
   subst d
   rw [zll,evL] at hj3
   rw [hj3]
   simp only [go_sem,↓reduceIte,Za,Zb,Zc,Zd,Ze,reduceCtorEq,Zf,Zg,Zh,Zi,Zj,Zk]
theorem whole_ok (v:Val) (lit:Bool) (hv:v.Fit) (hp:CH) (m:Nat):MeetsF Tryz.prog 155 hp m [vx v,.b lit] (.b (evV lit v)):=by
 have:=Val.ind (Q:=fun v=>v.Fit→∀hp m,MeetsF Tryz.prog 155 hp m [vx v,.b lit] (.b (evV lit v))) (fun v ih hv hp m=>whole_of v lit hv (fun x hx=>ih x hx (hv.x hx)) hp m) v
 exact this hv hp m
noncomputable def rightV (lit:Bool) (v:Val):Bool:=decide (szV v≤4096)&&decide (dpV v≤24)&&evV lit v
theorem vRight_ok (v:Val) (hv:v.Fit) (hp:CH) (m:Nat):MeetsF Tryz.prog 102 hp m [vx v] (.b (rightV false v)):=by
 rw [rightV]
 refine meetsF Tryz.func102 (by kernel_rfl) cc102 cr102 rfl fun hf=>?_;unfold ck102
 simp only [go_sem,↓reduceIte,Za,Zb,Zc,Zd,Ze,reduceCtorEq,Zf,Zg,Zh,Zi,Zj,Zk]
 refine vcCall.f (vsize_ok v hv _ _) ?_
 simp only [go_sem,↓reduceIte,Za,Zb,Zc,Zd,Ze,reduceCtorEq,Zf,Zg,Zh,Zi,Zj,Zk]
 refine gCall.f (fun _=>vdepth_ok v hv _ _) ?_
 simp only [go_sem,↓reduceIte,Za,Zb,Zc,Zd,Ze,reduceCtorEq,Zf,Zg,Zh,Zi,Zj,Zk]
 refine gCall.f (fun _=>every_ok v false hv _ _) ?_
 simp only [go_sem,↓reduceIte,Za,Zb,Zc,Zd,Ze,reduceCtorEq,Zf,Zg,Zh,Zi,Zj,Zk]
theorem rRight_ok (v:Val) (hv:v.Fit) (hp:CH) (m:Nat):MeetsF Tryz.prog 130 hp m [vx v] (.b (rightV false v)):=by
 rw [rightV]
 refine meetsF Tryz.func130 (by kernel_rfl) cc130 cr130 rfl fun hf=>?_;unfold ck130
 simp only [go_sem,↓reduceIte,Za,Zb,Zc,Zd,Ze,reduceCtorEq,Zf,Zg,Zh,Zi,Zj,Zk]
 refine vcCall.f (size_ok v hv _ _) ?_
 simp only [go_sem,↓reduceIte,Za,Zb,Zc,Zd,Ze,reduceCtorEq,Zf,Zg,Zh,Zi,Zj,Zk]
 refine gCall.f (fun _=>rdepth_ok v hv _ _) ?_
 simp only [go_sem,↓reduceIte,Za,Zb,Zc,Zd,Ze,reduceCtorEq,Zf,Zg,Zh,Zi,Zj,Zk]
 refine gCall.f (fun _=>whole_ok v false hv _ _) ?_
 simp only [go_sem,↓reduceIte,Za,Zb,Zc,Zd,Ze,reduceCtorEq,Zf,Zg,Zh,Zi,Zj,Zk]
end Go.Proofs.YtinbodeocoeneaaGreatDoor
