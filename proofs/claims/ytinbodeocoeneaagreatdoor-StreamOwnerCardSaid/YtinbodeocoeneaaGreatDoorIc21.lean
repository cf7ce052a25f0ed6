/- Proof. Conditions: none. -/
import Derived.Test.YtinbodeocoeneaaGreatDoorIc20
open Nat renaming reduceEqDiff→Za,reduceBEq→Zb,reduceAdd→Zc,reduceLeDiff→Zd,reduceLT→Ze,reduceMul→Zf,reduceSub→Zg
open Int renaming reduceEq→Zh,reduceLT→Zi,reduceLE→Zj,reduceToNat→Zk
open List renaming mem_of_getElem?→zla,drop_length→zll
open Nat renaming le_refl→zna
namespace Go.Proofs.YtinbodeocoeneaaGreatDoor
open Go.Eng
set_option linter.all false
set_option maxRecDepth 20000
theorem clone_ok (l:List ByteArray) (h:l.length*16≤140737488355327) (hp:CH) (m:Nat):MeetsF Tryz.prog 78 hp m [.ds (stC l)] (.ds (stC l)):=by
 refine meetsF Tryz.func78 (by kernel_rfl) cc78 cr78 rfl fun hf=>?_;unfold ck78
 simp only [go_sem,↓reduceIte,Za,Zb,Zc,Zd,Ze,reduceCtorEq,Zf,Zg,Zh,Zi,Zj,Zk]
 exact ⟨fun e=>by rw [e],by omega,by omega⟩
theorem copies_ok (l:List Val) (hl:l.length*80≤140737488355327) (h:∀x∈l,∀hp m,MeetsF Tryz.prog 34 hp m [vx x] (vx x)) (hp:CH) (m:Nat) :
  MeetsF Tryz.prog 77 hp m [.ds (mapC valC l)] (.ds (mapC valC l)):=by
 refine meetsF Tryz.func77 (by kernel_rfl) cc77 cr77 rfl fun hf=>?_;unfold ck77
 simp only [go_sem,↓reduceIte,Za,Zb,Zc,Zd,Ze,reduceCtorEq,Zf,Zg,Zh,Zi,Zj,Zk]
 refine loop (fun p:Nat × Nat=>⟨[(3,.rw m p.1 p.1),(6,.ds (mapC valC l)),(7,.i .i64 l.length),(8,.i .i64 p.1)],(m,.rw p.1 5 (mapC valC (l.take p.1)))::hp,p.2⟩) (fun p=>p.1≤l.length∧m+1≤p.2) (fun p=>l.length - p.1) (0,m+1) ?_ ?_ (fun ⟨j,n⟩ hj=>?_)
 .grind
 .refine (weak_e0 (t:=3) (m:=5) ?_).trans (weak_ok ?_ (Sub.cons ?_ (Sub.base hf ?_)) (zna _))
  all_goals simp only [go_sem,↓reduceIte,Za,Zb,Zc,Zd,Ze,reduceCtorEq,Zf,Zg,Zh,Zi,Zj,Zk]
 dsimp only at hj
 have hne:n≠m:=by omega
 have hne':m≠n:=by omega
 have hmn:m≤n:=by omega
 simp only [hne,hne',hmn,go_sem,↓reduceIte,Za,Zb,Zc,Zd,Ze,reduceCtorEq,Zf,Zg,Zh,Zi,Zj,Zk]
 refine cdK_of (fun c=>?_) (fun c=>?_)
 .have c:j<l.length:=by simpa using c
  obtain ⟨x,ex⟩:∃x,l[j]?=some x:=⟨l[j],by simp [c]⟩
  have hx:=h x (zla ex)
  have ht:(l.take j).length=j:=by simp;omega
  simp only [hne,hne',hmn,c,getK_s (mapC_get valC ex),go_sem,↓reduceIte,Za,Zb,Zc,Zd,Ze,reduceCtorEq,Zf,Zg,Zh,Zi,Zj,Zk]
  refine vcCall.f (hx _ _) ?_
  simp only [hne,hne',hmn,ht,go_sem,↓reduceIte,Za,Zb,Zc,Zd,Ze,reduceCtorEq,Zf,Zg,Zh,Zi,Zj,Zk]
  refine ⟨by omega,by omega,(j+1,n+1),by dsimp only;omega,by dsimp only;omega,weak_ok ?_ (Sub.cons ?_ (Sub.base hf ?_)) (zna _)⟩
  all_goals
   simp only [hmn,go_sem,↓reduceIte,Za,Zb,Zc,Zd,Ze,reduceCtorEq,Zf,Zg,Zh,Zi,Zj,Zk]
  .exact congrArg _ (wr64s j (by omega))
  .rw [take_snoc ex]
 .have c:j=l.length:=by simp at c;omega
  subst c
  simp only [hne,hne',hmn,go_sem,↓reduceIte,Za,Zb,Zc,Zd,Ze,reduceCtorEq,Zf,Zg,Zh,Zi,Zj,Zk]
  try simp
theorem copy_of (v:Val) (hv:v.keys.length*16≤140737488355327) (h:∀hp m,MeetsF Tryz.prog 77 hp m [.ds (mapC valC v.items)] (.ds (mapC valC v.items))) (hp:CH) (m:Nat):MeetsF Tryz.prog 34 hp m [vx v] (vx v):=by
 refine meetsF Tryz.func34 (by kernel_rfl) cc34 cr34 rfl fun hf=>?_;unfold ck34
 simp only [go_sem,↓reduceIte,Za,Zb,Zc,Zd,Ze,reduceCtorEq,Zf,Zg,Zh,Zi,Zj,Zk]
 refine vcCall.f (h _ _) ?_
 simp only [go_sem,↓reduceIte,Za,Zb,Zc,Zd,Ze,reduceCtorEq,Zf,Zg,Zh,Zi,Zj,Zk]
 refine vcCall.f (clone_ok v.keys hv _ _) ?_
 simp only [go_sem,↓reduceIte,Za,Zb,Zc,Zd,Ze,reduceCtorEq,Zf,Zg,Zh,Zi,Zj,Zk]
theorem copy_ok (v:Val) (hv:v.Fit) (hp:CH) (m:Nat):MeetsF Tryz.prog 34 hp m [vx v] (vx v):=by
 have:=Val.ind (Q:=fun v=>v.Fit→∀hp m,MeetsF Tryz.prog 34 hp m [vx v] (vx v)) (fun v ih hv hp m=>copy_of v hv.l (copies_ok v.items hv.i fun x hx=>ih x hx (hv.x hx)) hp m) v
 exact this hv hp m
theorem rcopies_ok (l:List Val) (hl:l.length*80≤140737488355327) (h:∀x∈l,∀hp m,MeetsF Tryz.prog 38 hp m [vx x] (vx x)) (hp:CH) (m:Nat) :
  MeetsF Tryz.prog 84 hp m [.ds (mapC valC l)] (.ds (mapC valC l)):=by
 refine meetsF Tryz.func84 (by kernel_rfl) cc84 cr84 rfl fun hf=>?_;unfold ck84
 simp only [go_sem,↓reduceIte,Za,Zb,Zc,Zd,Ze,reduceCtorEq,Zf,Zg,Zh,Zi,Zj,Zk]
 refine loop (fun p:Nat × Nat=>⟨[(3,.rw m p.1 p.1),(0,.ds (mapC valC l)),(4,.i .i64 p.1)],(m,.rw p.1 5 (mapC valC (l.take p.1)))::hp,p.2⟩) (fun p=>p.1≤l.length∧m+1≤p.2) (fun p=>l.length - p.1) (0,m+1) ?_ ?_ (fun ⟨j,n⟩ hj=>?_)
 .grind
 .refine (weak_e0 (t:=3) (m:=5) ?_).trans (weak_ok ?_ (Sub.cons ?_ (Sub.base hf ?_)) (zna _))
  all_goals simp only [go_sem,↓reduceIte,Za,Zb,Zc,Zd,Ze,reduceCtorEq,Zf,Zg,Zh,Zi,Zj,Zk]
 dsimp only at hj
 have hne:n≠m:=by omega
 have hne':m≠n:=by omega
 have hmn:m≤n:=by omega
 simp only [hne,hne',hmn,go_sem,↓reduceIte,Za,Zb,Zc,Zd,Ze,reduceCtorEq,Zf,Zg,Zh,Zi,Zj,Zk]
 refine cdK_of (fun c=>?_) (fun c=>?_)
 .have c:j<l.length:=by simpa using c
  obtain ⟨x,ex⟩:∃x,l[j]?=some x:=⟨l[j],by simp [c]⟩
  have hx:=h x (zla ex)
  have ht:(l.take j).length=j:=by simp;omega
  simp only [hne,hne',hmn,c,getK_s (mapC_get valC ex),go_sem,↓reduceIte,Za,Zb,Zc,Zd,Ze,reduceCtorEq,Zf,Zg,Zh,Zi,Zj,Zk]
  refine vcCall.f (hx _ _) ?_
  simp only [hne,hne',hmn,ht,go_sem,↓reduceIte,Za,Zb,Zc,Zd,Ze,reduceCtorEq,Zf,Zg,Zh,Zi,Zj,Zk]
  refine ⟨by omega,by omega,(j+1,n),by dsimp only;omega,by dsimp only;omega,weak_ok ?_ (Sub.cons ?_ (Sub.base hf ?_)) (zna _)⟩
  all_goals
   simp only [hmn,go_sem,↓reduceIte,Za,Zb,Zc,Zd,Ze,reduceCtorEq,Zf,Zg,Zh,Zi,Zj,Zk]
  .exact congrArg _ (wr64s j (by omega))
  .rw [take_snoc ex]
 .have c:j=l.length:=by simp at c;omega
  subst c
  simp only [hne,hne',hmn,go_sem,↓reduceIte,Za,Zb,Zc,Zd,Ze,reduceCtorEq,Zf,Zg,Zh,Zi,Zj,Zk]
  try simp
theorem rcopy_of (v:Val) (hv:v.keys.length*16≤140737488355327) (h:∀hp m,MeetsF Tryz.prog 84 hp m [.ds (mapC valC v.items)] (.ds (mapC valC v.items))) (hp:CH) (m:Nat):MeetsF Tryz.prog 38 hp m [vx v] (vx v):=by
 refine meetsF Tryz.func38 (by kernel_rfl) cc38 cr38 rfl fun hf=>?_;unfold ck38
 simp only [go_sem,↓reduceIte,Za,Zb,Zc,Zd,Ze,reduceCtorEq,Zf,Zg,Zh,Zi,Zj,Zk]
 first | refine dCallR.f (fun _ _ _=>h _ _) ?_ | refine dCall.f (fun _ _ _=>h _ _) ?_
 simp only [go_sem,↓reduceIte,Za,Zb,Zc,Zd,Ze,reduceCtorEq,Zf,Zg,Zh,Zi,Zj,Zk]
 omega
theorem rcopy_ok (v:Val) (hv:v.Fit) (hp:CH) (m:Nat):MeetsF Tryz.prog 38 hp m [vx v] (vx v):=by
 have:=Val.ind (Q:=fun v=>v.Fit→∀hp m,MeetsF Tryz.prog 38 hp m [vx v] (vx v)) (fun v ih hv hp m=>rcopy_of v hv.l (rcopies_ok v.items hv.i fun x hx=>ih x hx (hv.x hx)) hp m) v
 exact this hv hp m
mutual
def szV:Val→Int
 | .mk _ _ _ i _=>szL i 1
def szL:List Val→Int→Int
 | [],n=>n
 | x::r,n=>szL r (IntKind.i64.wrap (n+szV x))
end
theorem szV_eq (v:Val):szV v=szL v.items 1:=by cases v;rw [szV];rfl
theorem size_of (v:Val) (h3:v.items.length*80≤140737488355327) (h:∀x∈v.items,∀hp m,MeetsF Tryz.prog 26 hp m [vx x] (.i .i64 (szV x))) (hp:CH) (m:Nat):MeetsF Tryz.prog 26 hp m [vx v] (.i .i64 (szV v)):=by
 refine meetsF Tryz.func26 (by kernel_rfl) cc26 cr26 rfl fun hf=>?_;unfold ck26
 simp only [go_sem,↓reduceIte,Za,Zb,Zc,Zd,Ze,reduceCtorEq,Zf,Zg,Zh,Zi,Zj,Zk]
 refine loop (fun p:Nat × Int × Nat=>⟨[(1,.bx m 0),(3,.i .i64 p.2.1),(4,.i .i64 p.1)],(m,.bx [.i .i64 v.k,.i .i64 v.n,.s v.s,.ds (mapC valC v.items),.ds (stC v.keys)])::hp,p.2.2⟩)
  (fun p=>p.1≤v.items.length∧m+1≤p.2.2∧szV v=szL (v.items.drop p.1) p.2.1) (fun p=>v.items.length - p.1) (0,1,m+1) ?_ ?_ (fun ⟨j,a,n⟩ hj=>?_)
 .exact ⟨by dsimp only;omega,by dsimp only;omega,by rw [szV_eq];rfl⟩
 .refine weak_ok ?_ (Sub.refl _) (zna _)
  simp only [go_sem,↓reduceIte,Za,Zb,Zc,Zd,Ze,reduceCtorEq,Zf,Zg,Zh,Zi,Zj,Zk]
 dsimp only at hj
 simp only [go_sem,↓reduceIte,Za,Zb,Zc,Zd,Ze,reduceCtorEq,Zf,Zg,Zh,Zi,Zj,Zk]
 refine cdK_of (fun d=>?_) (fun d=>?_)
 .have d:j<v.items.length:=by simpa using d
  obtain ⟨x,ex⟩:∃x,v.items[j]?=some x:=⟨v.items[j],by simp [d]⟩
  have hx:=h x (zla ex)
  have e:=drop_at ex
  rw [e,szL] at hj
  simp only [d,getK_s (mapC_get valC ex),go_sem,↓reduceIte,Za,Zb,Zc,Zd,Ze,reduceCtorEq,Zf,Zg,Zh,Zi,Zj,Zk]
  refine vcCall.f (hx _ _) ?_
  simp only [go_sem,↓reduceIte,Za,Zb,Zc,Zd,Ze,reduceCtorEq,Zf,Zg,Zh,Zi,Zj,Zk]
  refine ⟨(j+1,IntKind.i64.wrap (a+szV x),n),by dsimp only;exact ⟨by omega,by omega,hj.2.2⟩,by dsimp only;omega,weak_ok ?_ (Sub.refl _) (zna _)⟩
  simp only [wr64s j (by omega),go_sem,↓reduceIte,Za,Zb,Zc,Zd,Ze,reduceCtorEq,Zf,Zg,Zh,Zi,Zj,Zk]
 .have d:j=v.items.length:=by simp at d;omega
  subst d
  rw [zll,szL] at hj
  simp only [go_sem,↓reduceIte,Za,Zb,Zc,Zd,Ze,reduceCtorEq,Zf,Zg,Zh,Zi,Zj,Zk]
  rw [hj.2.2]
theorem size_ok (v:Val) (hv:v.Fit) (hp:CH) (m:Nat):MeetsF Tryz.prog 26 hp m [vx v] (.i .i64 (szV v)):=by
 have:=Val.ind (Q:=fun v=>v.Fit→∀hp m,MeetsF Tryz.prog 26 hp m [vx v] (.i .i64 (szV v))) (fun v ih hv hp m=>size_of v hv.i (fun x hx=>ih x hx (hv.x hx)) hp m) v
 exact this hv hp m
def ci (a b:Int):Int:=if a<b then -1 else if b<a then 1 else 0
def cs (a b:ByteArray):Int:=if Op.bytesLess a.toList b.toList=true then -1 else if (!(Op.bytesLess a.toList b.toList||decide (a=b)))=true then 1 else 0
theorem ints_ok (a b:Int) (hp:CH) (m:Nat):MeetsF Tryz.prog 87 hp m [.i .i64 a,.i .i64 b] (.i .i64 (ci a b)):=by
 refine meetsF Tryz.func87 (by kernel_rfl) cc87 cr87 rfl fun hf=>?_;unfold ck87
 simp only [go_sem,↓reduceIte,Za,Zb,Zc,Zd,Ze,reduceCtorEq,Zf,Zg,Zh,Zi,Zj,Zk]
 repeat' (first
  | ((with_reducible refine cdK_of (fun _=>?_) (fun _=>?_))<;>(try simp only [go_sem,↓reduceIte,Za,Zb,Zc,Zd,Ze,reduceCtorEq,Zf,Zg,Zh,Zi,Zj,Zk]))
  | ((with_reducible refine grK_of (fun _=>?_) (fun _=>?_))<;>(try simp only [go_sem,↓reduceIte,Za,Zb,Zc,Zd,Ze,reduceCtorEq,Zf,Zg,Zh,Zi,Zj,Zk]))
  | ((with_reducible refine gCall.s (vcIf_of (fun _=>?_) (fun _=>?_)))<;>(try simp only [go_sem,↓reduceIte,Za,Zb,Zc,Zd,Ze,reduceCtorEq,Zf,Zg,Zh,Zi,Zj,Zk]))
  | ((with_reducible refine getK.m ?_ (fun _ _=>?_));rotate_left;try simp only [go_sem,↓reduceIte,Za,Zb,Zc,Zd,Ze,reduceCtorEq,Zf,Zg,Zh,Zi,Zj,Zk])
  | exact mapC_all (fun _=>rfl)
  | exact mapC_alln (fun _=>⟨rfl,rfl⟩)
  | with_reducible refine And.intro ?_ ?_)
 all_goals clear hf
 all_goals grind [ci]
theorem strings_ok (a b:ByteArray) (hp:CH) (m:Nat):MeetsF Tryz.prog 88 hp m [.s a,.s b] (.i .i64 (cs a b)):=by
 refine meetsF Tryz.func88 (by kernel_rfl) cc88 cr88 rfl fun hf=>?_;unfold ck88
 simp only [go_sem,↓reduceIte,Za,Zb,Zc,Zd,Ze,reduceCtorEq,Zf,Zg,Zh,Zi,Zj,Zk]
 repeat' (first
  | ((with_reducible refine cdK_of (fun _=>?_) (fun _=>?_))<;>(try simp only [go_sem,↓reduceIte,Za,Zb,Zc,Zd,Ze,reduceCtorEq,Zf,Zg,Zh,Zi,Zj,Zk]))
  | ((with_reducible refine grK_of (fun _=>?_) (fun _=>?_))<;>(try simp only [go_sem,↓reduceIte,Za,Zb,Zc,Zd,Ze,reduceCtorEq,Zf,Zg,Zh,Zi,Zj,Zk]))
  | ((with_reducible refine gCall.s (vcIf_of (fun _=>?_) (fun _=>?_)))<;>(try simp only [go_sem,↓reduceIte,Za,Zb,Zc,Zd,Ze,reduceCtorEq,Zf,Zg,Zh,Zi,Zj,Zk]))
  | ((with_reducible refine getK.m ?_ (fun _ _=>?_));rotate_left;try simp only [go_sem,↓reduceIte,Za,Zb,Zc,Zd,Ze,reduceCtorEq,Zf,Zg,Zh,Zi,Zj,Zk])
  | exact mapC_all (fun _=>rfl)
  | exact mapC_alln (fun _=>⟨rfl,rfl⟩)
  | with_reducible refine And.intro ?_ ?_)
 all_goals clear hf
 all_goals grind [cs]
theorem key_ok (v:Val) (j:Nat) (hp:CH) (m:Nat):MeetsF Tryz.prog 89 hp m [vx v,.i .i64 j] (.s ((v.keys.drop j).headD ⟨#[]⟩)):=by
 refine meetsF Tryz.func89 (by kernel_rfl) cc89 cr89 rfl fun hf=>?_;unfold ck89
 simp only [go_sem,↓reduceIte,Za,Zb,Zc,Zd,Ze,reduceCtorEq,Zf,Zg,Zh,Zi,Zj,Zk]
 refine cdK_of (fun d=>?_) (fun d=>?_)
 .have d:j<v.keys.length:=by simpa using d
  obtain ⟨x,ex⟩:∃x,v.keys[j]?=some x:=⟨v.keys[j],by simp [d]⟩
  simp only [d,getK_s (mapC_get st1 ex),go_sem,↓reduceIte,Za,Zb,Zc,Zd,Ze,reduceCtorEq,Zf,Zg,Zh,Zi,Zj,Zk]
  rw [drop_at ex]
  rfl
 .have d:v.keys.length≤j:=by simp at d;omega
  simp only [go_sem,↓reduceIte,Za,Zb,Zc,Zd,Ze,reduceCtorEq,Zf,Zg,Zh,Zi,Zj,Zk]
  rw [List.drop_eq_nil_of_le d]
  rfl
mutual
noncomputable def cmpV:Val→Val→Int
 | .mk k n s i l,b=>if ci k b.k≠0 then ci k b.k else if ci n b.n≠0 then ci n b.n else if cs s b.s≠0 then cs s b.s else cmpL i b.items l b.keys i.length b.items.length
noncomputable def cmpL:List Val→List Val→List ByteArray→List ByteArray→Nat→Nat→Int
 | [],_,_,_,n,m=>ci n m
 | _::_,[],_,_,n,m=>ci n m
 | x::r,y::r',l,l',n,m=>if cs (l.headD ⟨#[]⟩) (l'.headD ⟨#[]⟩)≠0 then cs (l.headD ⟨#[]⟩) (l'.headD ⟨#[]⟩) else if cmpV x y≠0 then cmpV x y else cmpL r r' l.tail l'.tail n m
end
theorem cmpV_eq (a b:Val):cmpV a b=if ci a.k b.k≠0 then ci a.k b.k else if ci a.n b.n≠0 then ci a.n b.n else if cs a.s b.s≠0 then cs a.s b.s else cmpL a.items b.items a.keys b.keys a.items.length b.items.length:=by
 cases a;rw [cmpV];rfl
theorem ci_refl (a:Int):ci a a=0:=by simp [ci]
theorem less_refl:∀l:List UInt8,Op.bytesLess l l=false
 | []=>rfl
 | a::l=>by simp [Op.bytesLess,less_refl l]
theorem cs_refl (a:ByteArray):cs a a=0:=by simp [cs,less_refl]
theorem cmpL_refl:∀(l:List Val),(∀x∈l,cmpV x x=0)→∀(k:List ByteArray) (n:Nat),cmpL l l k k n n=0
 | [],_,k,n=>by rw [cmpL,ci_refl]
 | x::r,h,k,n=>by
  rw [cmpL,cs_refl,h x (by simp)]
  simp only [ne_eq,not_true_eq_false,↓reduceIte]
  exact cmpL_refl r (fun y hy=>h y (by simp [hy])) _ _
theorem cmpV_refl (v:Val):cmpV v v=0:=by
 refine Val.ind (Q:=fun v=>cmpV v v=0) (fun v ih=>?_) v
 rw [cmpV_eq,ci_refl,ci_refl,cs_refl]
 simp only [ne_eq,not_true_eq_false,↓reduceIte]
 exact cmpL_refl _ ih _ _
def Cmp (a b:Val) (c:Int) (j:Nat):Prop:=j≤a.items.length+1∧(c≠0→cmpV a b=c)∧(c=0→j≤a.items.length∧j≤b.items.length∧cmpV a b=cmpL (a.items.drop j) (b.items.drop j) (a.keys.drop j) (b.keys.drop j) a.items.length b.items.length)
theorem cmp_of (a b:Val) (ha:a.Fit) (hb:b.Fit) (h:∀x∈a.items,∀y∈b.items,∀hp m,MeetsF Tryz.prog 41 hp m [vx x,vx y] (.i .i64 (cmpV x y))) (hp:CH) (m:Nat) :
  MeetsF Tryz.prog 41 hp m [vx a,vx b] (.i .i64 (cmpV a b)):=by
 have h1:=ha.i
 have h2:=hb.i
 have e:=cmpV_eq a b
 refine meetsF Tryz.func41 (by kernel_rfl) cc41 cr41 rfl fun hf=>?_;unfold ck41
 simp only [go_sem,↓reduceIte,Za,Zb,Zc,Zd,Ze,reduceCtorEq,Zf,Zg,Zh,Zi,Zj,Zk]
 refine vcCall.f (ints_ok _ _ _ _) ?_
 simp only [go_sem,↓reduceIte,Za,Zb,Zc,Zd,Ze,reduceCtorEq,Zf,Zg,Zh,Zi,Zj,Zk]
 refine cdK_of (fun c1=>?_) (fun c1=>?_)
 .simp only [go_sem,↓reduceIte,Za,Zb,Zc,Zd,Ze,reduceCtorEq,Zf,Zg,Zh,Zi,Zj,Zk]
  refine vcCall.f (ints_ok _ _ _ _) ?_
  simp only [go_sem,↓reduceIte,Za,Zb,Zc,Zd,Ze,reduceCtorEq,Zf,Zg,Zh,Zi,Zj,Zk]
  refine cdK_of (fun c2=>?_) (fun c2=>?_)
  .simp only [go_sem,↓reduceIte,Za,Zb,Zc,Zd,Ze,reduceCtorEq,Zf,Zg,Zh,Zi,Zj,Zk]
   refine vcCall.f (strings_ok _ _ _ _) ?_
   simp only [go_sem,↓reduceIte,Za,Zb,Zc,Zd,Ze,reduceCtorEq,Zf,Zg,Zh,Zi,Zj,Zk]
   refine loop (fun p:Int × Nat × Nat=>⟨[(2,.bx m 0),(3,.bx (m+1) 0),(5,.i .i64 p.1),(6,.i .i64 p.2.1)],(m+1,.bx [.i .i64 b.k,.i .i64 b.n,.s b.s,.ds (mapC valC b.items),.ds (stC b.keys)])::(m,.bx [.i .i64 a.k,.i .i64 a.n,.s a.s,.ds (mapC valC a.items),.ds (stC a.keys)])::hp,p.2.2⟩)
    (fun p=>m+2≤p.2.2∧Cmp a b p.1 p.2.1) (fun p=>a.items.length+1 - p.2.1) (cs a.s b.s,0,m+2) ?_ ?_ (fun ⟨c,j,n⟩ hj=>?_)
   .refine ⟨by dsimp only;omega,?_⟩
    clear hf
    grind [Cmp]
   .refine weak_ok ?_ (Sub.refl _) (zna _)
    simp only [go_sem,↓reduceIte,Za,Zb,Zc,Zd,Ze,reduceCtorEq,Zf,Zg,Zh,Zi,Zj,Zk]
   dsimp only at hj
   simp only [go_sem,↓reduceIte,Za,Zb,Zc,Zd,Ze,reduceCtorEq,Zf,Zg,Zh,Zi,Zj,Zk]
   refine cdK_of (fun d=>?_) (fun d=>?_)
   .have d:c=0:=by simpa using d
    obtain ⟨hn,hj1,hj2,hj3⟩:=hj
    obtain ⟨hj4,hj5,hj3⟩:=hj3 d
    simp only [go_sem,↓reduceIte,Za,Zb,Zc,Zd,Ze,reduceCtorEq,Zf,Zg,Zh,Zi,Zj,Zk]
    refine cdK_of (fun d1=>?_) (fun d1=>?_)
    .simp only [go_sem,↓reduceIte,Za,Zb,Zc,Zd,Ze,reduceCtorEq,Zf,Zg,Zh,Zi,Zj,Zk]
     refine vcCall.f (ints_ok _ _ _ _) ?_
     simp only [go_sem,↓reduceIte,Za,Zb,Zc,Zd,Ze,reduceCtorEq,Zf,Zg,Zh,Zi,Zj,Zk]
     rw [hj3]
     rcases Nat.lt_or_ge j a.items.length with q | q
     .have q2:j=b.items.length:=by simp at d1;omega
      have hx:∃x,a.items[j]?=some x:=⟨a.items[j],by simp [q]⟩
      obtain ⟨x,ex⟩:=hx
      rw [drop_at ex,q2,zll,cmpL]
     .have q2:j=a.items.length:=by omega
      rw [q2,zll,cmpL]
    .have q1:j<a.items.length:=by simp at d1;omega
     have q2:j<b.items.length:=by simp at d1;omega
     obtain ⟨x,ex⟩:∃x,a.items[j]?=some x:=⟨a.items[j],by simp [q1]⟩
     obtain ⟨y,ey⟩:∃y,b.items[j]?=some y:=⟨b.items[j],by simp [q2]⟩
     rw [drop_at ex,drop_at ey,cmpL] at hj3
     simp only [List.tail_drop] at hj3
     simp only [go_sem,↓reduceIte,Za,Zb,Zc,Zd,Ze,reduceCtorEq,Zf,Zg,Zh,Zi,Zj,Zk]
     first | refine dCallR.f (fun _ _ _=>key_ok a j _ _) ?_ | refine dCall.f (fun _ _ _=>key_ok a j _ _) ?_
     simp only [go_sem,↓reduceIte,Za,Zb,Zc,Zd,Ze,reduceCtorEq,Zf,Zg,Zh,Zi,Zj,Zk]
     first | refine dCallR.f (fun _ _ _=>key_ok b j _ _) ?_ | refine dCall.f (fun _ _ _=>key_ok b j _ _) ?_
     simp only [go_sem,↓reduceIte,Za,Zb,Zc,Zd,Ze,reduceCtorEq,Zf,Zg,Zh,Zi,Zj,Zk]
     first | refine dCallR.f (fun _ _ _=>strings_ok _ _ _ _) ?_ | refine dCall.f (fun _ _ _=>strings_ok _ _ _ _) ?_
     simp only [go_sem,↓reduceIte,Za,Zb,Zc,Zd,Ze,reduceCtorEq,Zf,Zg,Zh,Zi,Zj,Zk]
     refine cdK_of (fun d2=>?_) (fun d2=>?_)
     .have d2:cs ((a.keys.drop j).headD ⟨#[]⟩) ((b.keys.drop j).headD ⟨#[]⟩)=0:=by simpa using d2
      simp only [q1,q2,getK_s (mapC_get valC ex),getK_s (mapC_get valC ey),go_sem,↓reduceIte,Za,Zb,Zc,Zd,Ze,reduceCtorEq,Zf,Zg,Zh,Zi,Zj,Zk]
      first | refine dCallR.f (fun _ _ _=>h x (zla ex) y (zla ey) _ _) ?_ | refine dCall.f (fun _ _ _=>h x (zla ex) y (zla ey) _ _) ?_
      simp only [go_sem,↓reduceIte,Za,Zb,Zc,Zd,Ze,reduceCtorEq,Zf,Zg,Zh,Zi,Zj,Zk]
      refine ⟨(cmpV x y,j+1,_),?_,?_,weak_ok ?_ (Sub.refl _) (zna _)⟩
      .clear hf
       refine ⟨by dsimp only;omega,?_⟩
       grind [Cmp]
      .dsimp only;omega
      .simp only [wr64s j (by omega),go_sem,↓reduceIte,Za,Zb,Zc,Zd,Ze,reduceCtorEq,Zf,Zg,Zh,Zi,Zj,Zk]
     .have d2:¬cs ((a.keys.drop j).headD ⟨#[]⟩) ((b.keys.drop j).headD ⟨#[]⟩)=0:=by simpa using d2
      simp only [go_sem,↓reduceIte,Za,Zb,Zc,Zd,Ze,reduceCtorEq,Zf,Zg,Zh,Zi,Zj,Zk]
      refine ⟨(cs ((a.keys.drop j).headD ⟨#[]⟩) ((b.keys.drop j).headD ⟨#[]⟩),j+1,_),?_,?_,weak_ok ?_ (Sub.refl _) (zna _)⟩
      .clear hf
       refine ⟨by dsimp only;omega,?_⟩
       grind [Cmp]
      .dsimp only;omega
      .simp only [wr64s j (by omega),go_sem,↓reduceIte,Za,Zb,Zc,Zd,Ze,reduceCtorEq,Zf,Zg,Zh,Zi,Zj,Zk]
   .have d:c≠0:=by simpa using d
    obtain ⟨hn,hj1,hj2,hj3⟩:=hj
    simp only [go_sem,↓reduceIte,Za,Zb,Zc,Zd,Ze,reduceCtorEq,Zf,Zg,Zh,Zi,Zj,Zk]
    rw [hj2 d]
  .simp only [c2,go_sem,↓reduceIte,Za,Zb,Zc,Zd,Ze,reduceCtorEq,Zf,Zg,Zh,Zi,Zj,Zk]
   refine loop (fun p:Int × Nat × Nat=>⟨[(2,.bx m 0),(3,.bx (m+1) 0),(5,.i .i64 p.1),(6,.i .i64 p.2.1)],(m+1,.bx [.i .i64 b.k,.i .i64 b.n,.s b.s,.ds (mapC valC b.items),.ds (stC b.keys)])::(m,.bx [.i .i64 a.k,.i .i64 a.n,.s a.s,.ds (mapC valC a.items),.ds (stC a.keys)])::hp,p.2.2⟩)
    (fun p=>m+2≤p.2.2∧Cmp a b p.1 p.2.1) (fun p=>a.items.length+1 - p.2.1) (ci a.n b.n,0,m+2) ?_ ?_ (fun ⟨c,j,n⟩ hj=>?_)
   .refine ⟨by dsimp only;omega,?_⟩
    clear hf
    grind [Cmp]
   .refine weak_ok ?_ (Sub.refl _) (zna _)
    simp only [go_sem,↓reduceIte,Za,Zb,Zc,Zd,Ze,reduceCtorEq,Zf,Zg,Zh,Zi,Zj,Zk]
   dsimp only at hj
   simp only [go_sem,↓reduceIte,Za,Zb,Zc,Zd,Ze,reduceCtorEq,Zf,Zg,Zh,Zi,Zj,Zk]
   refine cdK_of (fun d=>?_) (fun d=>?_)
   .have d:c=0:=by simpa using d
    obtain ⟨hn,hj1,hj2,hj3⟩:=hj
    obtain ⟨hj4,hj5,hj3⟩:=hj3 d
    simp only [go_sem,↓reduceIte,Za,Zb,Zc,Zd,Ze,reduceCtorEq,Zf,Zg,Zh,Zi,Zj,Zk]
    refine cdK_of (fun d1=>?_) (fun d1=>?_)
    .simp only [go_sem,↓reduceIte,Za,Zb,Zc,Zd,Ze,reduceCtorEq,Zf,Zg,Zh,Zi,Zj,Zk]
     refine vcCall.f (ints_ok _ _ _ _) ?_
     simp only [go_sem,↓reduceIte,Za,Zb,Zc,Zd,Ze,reduceCtorEq,Zf,Zg,Zh,Zi,Zj,Zk]
     rw [hj3]
     rcases Nat.lt_or_ge j a.items.length with q | q
     .have q2:j=b.items.length:=by simp at d1;omega
      have hx:∃x,a.items[j]?=some x:=⟨a.items[j],by simp [q]⟩
      obtain ⟨x,ex⟩:=hx
      rw [drop_at ex,q2,zll,cmpL]
     .have q2:j=a.items.length:=by omega
      rw [q2,zll,cmpL]
    .have q1:j<a.items.length:=by simp at d1;omega
     have q2:j<b.items.length:=by simp at d1;omega
     obtain ⟨x,ex⟩:∃x,a.items[j]?=some x:=⟨a.items[j],by simp [q1]⟩
     obtain ⟨y,ey⟩:∃y,b.items[j]?=some y:=⟨b.items[j],by simp [q2]⟩
     rw [drop_at ex,drop_at ey,cmpL] at hj3
     simp only [List.tail_drop] at hj3
     simp only [go_sem,↓reduceIte,Za,Zb,Zc,Zd,Ze,reduceCtorEq,Zf,Zg,Zh,Zi,Zj,Zk]
     first | refine dCallR.f (fun _ _ _=>key_ok a j _ _) ?_ | refine dCall.f (fun _ _ _=>key_ok a j _ _) ?_
     simp only [go_sem,↓reduceIte,Za,Zb,Zc,Zd,Ze,reduceCtorEq,Zf,Zg,Zh,Zi,Zj,Zk]
     first | refine dCallR.f (fun _ _ _=>key_ok b j _ _) ?_ | refine dCall.f (fun _ _ _=>key_ok b j _ _) ?_
     simp only [go_sem,↓reduceIte,Za,Zb,Zc,Zd,Ze,reduceCtorEq,Zf,Zg,Zh,Zi,Zj,Zk]
     first | refine dCallR.f (fun _ _ _=>strings_ok _ _ _ _) ?_ | refine dCall.f (fun _ _ _=>strings_ok _ _ _ _) ?_
     simp only [go_sem,↓reduceIte,Za,Zb,Zc,Zd,Ze,reduceCtorEq,Zf,Zg,Zh,Zi,Zj,Zk]
     refine cdK_of (fun d2=>?_) (fun d2=>?_)
     .have d2:cs ((a.keys.drop j).headD ⟨#[]⟩) ((b.keys.drop j).headD ⟨#[]⟩)=0:=by simpa using d2
      simp only [q1,q2,getK_s (mapC_get valC ex),getK_s (mapC_get valC ey),go_sem,↓reduceIte,Za,Zb,Zc,Zd,Ze,reduceCtorEq,Zf,Zg,Zh,Zi,Zj,Zk]
      first | refine dCallR.f (fun _ _ _=>h x (zla ex) y (zla ey) _ _) ?_ | refine dCall.f (fun _ _ _=>h x (zla ex) y (zla ey) _ _) ?_
      simp only [go_sem,↓reduceIte,Za,Zb,Zc,Zd,Ze,reduceCtorEq,Zf,Zg,Zh,Zi,Zj,Zk]
      refine ⟨(cmpV x y,j+1,_),?_,?_,weak_ok ?_ (Sub.refl _) (zna _)⟩
      .clear hf
       refine ⟨by dsimp only;omega,?_⟩
       grind [Cmp]
      .dsimp only;omega
      .simp only [wr64s j (by omega),go_sem,↓reduceIte,Za,Zb,Zc,Zd,Ze,reduceCtorEq,Zf,Zg,Zh,Zi,Zj,Zk]
     .have d2:¬cs ((a.keys.drop j).headD ⟨#[]⟩) ((b.keys.drop j).headD ⟨#[]⟩)=0:=by simpa using d2
      simp only [go_sem,↓reduceIte,Za,Zb,Zc,Zd,Ze,reduceCtorEq,Zf,Zg,Zh,Zi,Zj,Zk]
      refine ⟨(cs ((a.keys.drop j).headD ⟨#[]⟩) ((b.keys.drop j).headD ⟨#[]⟩),j+1,_),?_,?_,weak_ok ?_ (Sub.refl _) (zna _)⟩
      .clear hf
       refine ⟨by dsimp only;omega,?_⟩
       grind [Cmp]
      .dsimp only;omega
      .simp only [wr64s j (by omega),go_sem,↓reduceIte,Za,Zb,Zc,Zd,Ze,reduceCtorEq,Zf,Zg,Zh,Zi,Zj,Zk]
   .have d:c≠0:=by simpa using d
    obtain ⟨hn,hj1,hj2,hj3⟩:=hj
    simp only [go_sem,↓reduceIte,Za,Zb,Zc,Zd,Ze,reduceCtorEq,Zf,Zg,Zh,Zi,Zj,Zk]
    rw [hj2 d]
 .simp only [c1,go_sem,↓reduceIte,Za,Zb,Zc,Zd,Ze,reduceCtorEq,Zf,Zg,Zh,Zi,Zj,Zk]
  refine loop (fun p:Int × Nat × Nat=>⟨[(2,.bx m 0),(3,.bx (m+1) 0),(5,.i .i64 p.1),(6,.i .i64 p.2.1)],(m+1,.bx [.i .i64 b.k,.i .i64 b.n,.s b.s,.ds (mapC valC b.items),.ds (stC b.keys)])::(m,.bx [.i .i64 a.k,.i .i64 a.n,.s a.s,.ds (mapC valC a.items),.ds (stC a.keys)])::hp,p.2.2⟩)
   (fun p=>m+2≤p.2.2∧Cmp a b p.1 p.2.1) (fun p=>a.items.length+1 - p.2.1) (ci a.k b.k,0,m+2) ?_ ?_ (fun ⟨c,j,n⟩ hj=>?_)
  .refine ⟨by dsimp only;omega,?_⟩
   clear hf
   grind [Cmp]
  .refine weak_ok ?_ (Sub.refl _) (zna _)
   simp only [go_sem,↓reduceIte,Za,Zb,Zc,Zd,Ze,reduceCtorEq,Zf,Zg,Zh,Zi,Zj,Zk]
  dsimp only at hj
  simp only [go_sem,↓reduceIte,Za,Zb,Zc,Zd,Ze,reduceCtorEq,Zf,Zg,Zh,Zi,Zj,Zk]
  refine cdK_of (fun d=>?_) (fun d=>?_)
  .have d:c=0:=by simpa using d
   obtain ⟨hn,hj1,hj2,hj3⟩:=hj
   obtain ⟨hj4,hj5,hj3⟩:=hj3 d
   simp only [go_sem,↓reduceIte,Za,Zb,Zc,Zd,Ze,reduceCtorEq,Zf,Zg,Zh,Zi,Zj,Zk]
   refine cdK_of (fun d1=>?_) (fun d1=>?_)
   .simp only [go_sem,↓reduceIte,Za,Zb,Zc,Zd,Ze,reduceCtorEq,Zf,Zg,Zh,Zi,Zj,Zk]
    refine vcCall.f (ints_ok _ _ _ _) ?_
    simp only [go_sem,↓reduceIte,Za,Zb,Zc,Zd,Ze,reduceCtorEq,Zf,Zg,Zh,Zi,Zj,Zk]
    rw [hj3]
    rcases Nat.lt_or_ge j a.items.length with q | q
    .have q2:j=b.items.length:=by simp at d1;omega
     have hx:∃x,a.items[j]?=some x:=⟨a.items[j],by simp [q]⟩
     obtain ⟨x,ex⟩:=hx
     rw [drop_at ex,q2,zll,cmpL]
    .have q2:j=a.items.length:=by omega
     rw [q2,zll,cmpL]
   .have q1:j<a.items.length:=by simp at d1;omega
    have q2:j<b.items.length:=by simp at d1;omega
    obtain ⟨x,ex⟩:∃x,a.items[j]?=some x:=⟨a.items[j],by simp [q1]⟩
    obtain ⟨y,ey⟩:∃y,b.items[j]?=some y:=⟨b.items[j],by simp [q2]⟩
    rw [drop_at ex,drop_at ey,cmpL] at hj3
    simp only [List.tail_drop] at hj3
    simp only [go_sem,↓reduceIte,Za,Zb,Zc,Zd,Ze,reduceCtorEq,Zf,Zg,Zh,Zi,Zj,Zk]
    first | refine dCallR.f (fun _ _ _=>key_ok a j _ _) ?_ | refine dCall.f (fun _ _ _=>key_ok a j _ _) ?_
    simp only [go_sem,↓reduceIte,Za,Zb,Zc,Zd,Ze,reduceCtorEq,Zf,Zg,Zh,Zi,Zj,Zk]
    first | refine dCallR.f (fun _ _ _=>key_ok b j _ _) ?_ | refine dCall.f (fun _ _ _=>key_ok b j _ _) ?_
    simp only [go_sem,↓reduceIte,Za,Zb,Zc,Zd,Ze,reduceCtorEq,Zf,Zg,Zh,Zi,Zj,Zk]
    first | refine dCallR.f (fun _ _ _=>strings_ok _ _ _ _) ?_ | refine dCall.f (fun _ _ _=>strings_ok _ _ _ _) ?_
    simp only [go_sem,↓reduceIte,Za,Zb,Zc,Zd,Ze,reduceCtorEq,Zf,Zg,Zh,Zi,Zj,Zk]
    refine cdK_of (fun d2=>?_) (fun d2=>?_)
    .have d2:cs ((a.keys.drop j).headD ⟨#[]⟩) ((b.keys.drop j).headD ⟨#[]⟩)=0:=by simpa using d2
     simp only [q1,q2,getK_s (mapC_get valC ex),getK_s (mapC_get valC ey),go_sem,↓reduceIte,Za,Zb,Zc,Zd,Ze,reduceCtorEq,Zf,Zg,Zh,Zi,Zj,Zk]
     first | refine dCallR.f (fun _ _ _=>h x (zla ex) y (zla ey) _ _) ?_ | refine dCall.f (fun _ _ _=>h x (zla ex) y (zla ey) _ _) ?_
     simp only [go_sem,↓reduceIte,Za,Zb,Zc,Zd,Ze,reduceCtorEq,Zf,Zg,Zh,Zi,Zj,Zk]
     refine ⟨(cmpV x y,j+1,_),?_,?_,weak_ok ?_ (Sub.refl _) (zna _)⟩
     .clear hf
      refine ⟨by dsimp only;omega,?_⟩
      grind [Cmp]
     .dsimp only;omega
     .simp only [wr64s j (by omega),go_sem,↓reduceIte,Za,Zb,Zc,Zd,Ze,reduceCtorEq,Zf,Zg,Zh,Zi,Zj,Zk]
    .have d2:¬cs ((a.keys.drop j).headD ⟨#[]⟩) ((b.keys.drop j).headD ⟨#[]⟩)=0:=by simpa using d2
     simp only [go_sem,↓reduceIte,Za,Zb,Zc,Zd,Ze,reduceCtorEq,Zf,Zg,Zh,Zi,Zj,Zk]
     refine ⟨(cs ((a.keys.drop j).headD ⟨#[]⟩) ((b.keys.drop j).headD ⟨#[]⟩),j+1,_),?_,?_,weak_ok ?_ (Sub.refl _) (zna _)⟩
     .clear hf
      refine ⟨by dsimp only;omega,?_⟩
      grind [Cmp]
     .dsimp only;omega
     .simp only [wr64s j (by omega),go_sem,↓reduceIte,Za,Zb,Zc,Zd,Ze,reduceCtorEq,Zf,Zg,Zh,Zi,Zj,Zk]
  .have d:c≠0:=by simpa using d
   obtain ⟨hn,hj1,hj2,hj3⟩:=hj
   simp only [go_sem,↓reduceIte,Za,Zb,Zc,Zd,Ze,reduceCtorEq,Zf,Zg,Zh,Zi,Zj,Zk]
   rw [hj2 d]
theorem cmp_ok (a b:Val) (ha:a.Fit) (hb:b.Fit) (hp:CH) (m:Nat):MeetsF Tryz.prog 41 hp m [vx a,vx b] (.i .i64 (cmpV a b)):=by
 have:=Val.ind (Q:=fun a=>a.Fit→∀b,b.Fit→∀hp m,MeetsF Tryz.prog 41 hp m [vx a,vx b] (.i .i64 (cmpV a b))) (fun a ih ha b hb hp m=>cmp_of a b ha hb (fun x hx y hy=>ih x hx (ha.x hx) y (hb.x hy)) hp m) a
 exact this ha b hb hp m
theorem same_ok (a b:Val) (ha:a.Fit) (hb:b.Fit) (hp:CH) (m:Nat):MeetsF Tryz.prog 16 hp m [vx a,vx b] (.b (decide (cmpV a b=0))):=by
 refine meetsF Tryz.func16 (by kernel_rfl) cc16 cr16 rfl fun hf=>?_;unfold ck16
 simp only [go_sem,↓reduceIte,Za,Zb,Zc,Zd,Ze,reduceCtorEq,Zf,Zg,Zh,Zi,Zj,Zk]
 refine vcCall.f (cmp_ok a b ha hb _ _) ?_
 simp only [go_sem,↓reduceIte,Za,Zb,Zc,Zd,Ze,reduceCtorEq,Zf,Zg,Zh,Zi,Zj,Zk]
end Go.Proofs.YtinbodeocoeneaaGreatDoor
