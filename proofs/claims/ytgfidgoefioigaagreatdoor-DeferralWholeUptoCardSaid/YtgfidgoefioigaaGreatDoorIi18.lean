/- Proof. Conditions: none. -/
import Derived.Test.YtgfidgoefioigaaGreatDoorIi17
open Go.Proofs.Tryz
open List renaming mem_of_getElem?→zla,drop_length→zll
open Nat renaming le_refl→zna
namespace Go.Proofs.YtgfidgoefioigaaGreatDoor
open Go.Eng
set_option linter.all false
set_option maxRecDepth 20000
inductive FZ where
 | mk (n:ByteArray) (v:Ak)
def FZ.n:FZ→ByteArray | .mk n _=>n
theorem FZ.n_mk (n:ByteArray) (v:Ak):(FZ.mk n v).n=n:=rfl
def FZ.v:FZ→Ak | .mk _ v=>v
theorem FZ.v_mk (n:ByteArray) (v:Ak):(FZ.mk n v).v=v:=rfl
theorem FZ.ext {x y:FZ} (h0:x.n=y.n) (h1:x.v=y.v):x=y:=by cases x;cases y;simp only [FZ.n_mk,FZ.v_mk] at *;simp [*]
attribute [go_sem] FZ.n_mk FZ.v_mk
attribute [grind =] FZ.n_mk FZ.v_mk
attribute [ext] FZ.ext
attribute [grind ext] FZ.ext
def BC (x:FZ):List AV:=[.s x.n,.i .i64 x.v.k,.i .i64 x.v.n,.s x.v.s,.ds (Ad A2 x.v.items),.ds (Bv x.v.keys)]
inductive Pk where
 | mk (key on name:ByteArray) (args:List FZ) (tn:ByteArray) (tw:List Int) (label:ByteArray) (initial:Int) (picks:List Pk)
def Pk.key:Pk→ByteArray | .mk x _ _ _ _ _ _ _ _=>x
def Pk.on:Pk→ByteArray | .mk _ x _ _ _ _ _ _ _=>x
def Pk.name:Pk→ByteArray | .mk _ _ x _ _ _ _ _ _=>x
def Pk.args:Pk→List FZ | .mk _ _ _ x _ _ _ _ _=>x
def Pk.tn:Pk→ByteArray | .mk _ _ _ _ x _ _ _ _=>x
def Pk.tw:Pk→List Int | .mk _ _ _ _ _ x _ _ _=>x
def Pk.label:Pk→ByteArray | .mk _ _ _ _ _ _ x _ _=>x
def Pk.initial:Pk→Int | .mk _ _ _ _ _ _ _ x _=>x
def Pk.picks:Pk→List Pk | .mk _ _ _ _ _ _ _ _ x=>x
mutual
def Bo:Pk→List AV
 | .mk k o n a tn tw l i p=>[.s k,.s o,.s n,.ds (Ad BC a),.s tn,.ds (Ad Dx tw),.s l,.i .i64 i,.ds (VQ p)]
def VQ:List Pk→List (List AV)
 | []=>[]
 | p::r=>Bo p::VQ r
end
theorem W2 (l:List Pk):VQ l=Ad Bo l:=by
 induction l with
 | nil=>rfl
 | cons v l ih=>rw [VQ,BT,ih]
theorem Cg (p:Pk):Bo p=[.s p.key,.s p.on,.s p.name,.ds (Ad BC p.args),.s p.tn,.ds (Ad Dx p.tw),.s p.label,.i .i64 p.initial,.ds (Ad Bo p.picks)]:=by
 cases p
 rw [Bo,W2]
 rfl
attribute [go_sem] Cg
theorem Pk.picks_lt (v x:Pk) (h:x∈v.picks):SizeOf.sizeOf x<SizeOf.sizeOf v:=by
 cases v
 have:=List.sizeOf_lt_of_mem h
 simp only [Pk.picks] at this
 simp
 omega
theorem Pk.ind {Q:Pk→Prop} (h:∀v,(∀x∈v.picks,Q x)→Q v) (v:Pk):Q v:=h v fun x hx=>Pk.ind h x
termination_by SizeOf.sizeOf v
decreasing_by exact Pk.picks_lt v x hx
mutual
def PO:Pk→Nat
 | .mk _ _ _ _ _ _ _ _ p=>1+A8 p
def A8:List Pk→Nat
 | []=>0
 | p::r=>PO p+A8 r
end
theorem CD (p:Pk):PO p=1+A8 p.picks:=by cases p;rw [PO];rfl
theorem DV {x:Pk}:∀{l:List Pk},x∈l→PO x≤A8 l
 | y::r,h=>by
  rw [A8]
  rcases List.mem_cons.1 h with rfl | h
  .omega
  .have:=DV h
   omega
theorem DS:∀l:List Pk,l.length≤A8 l
 | []=>by simp
 | y::r=>by
  have:=DS r
  have:=CD y
  rw [A8]
  simp
  omega
theorem NL (l:List ByteArray) (h:l.length*16≤140737488355327) (hp:CH) (m:Nat):Ah prog 75 hp m [.ds (Bv l)] (.ds (Bv l)):=by
 refine Am func75 (by kernel_rfl) cc75 cr75 rfl fun hf=>?_;unfold ck75
 simp only [go_sem]
 exact ⟨fun e=>by rw [e],by omega,by omega⟩
theorem RM (l:List Ak) (hl:l.length*80≤140737488355327) (h:∀x∈l,∀hp m,Ah prog 38 hp m [vx x] (vx x)) (hp:CH) (m:Nat) :
  Ah prog 74 hp m [.ds (Ad A2 l)] (.ds (Ad A2 l)):=by
 refine Am func74 (by kernel_rfl) cc74 cr74 rfl fun hf=>?_;unfold ck74
 simp only [go_sem]
 refine loop (fun p:Nat × Nat=>⟨[(3,.rw m p.1 p.1),(6,.ds (Ad A2 l)),(7,.i .i64 l.length),(8,.i .i64 p.1)],(m,.rw p.1 5 (Ad A2 (l.take p.1)))::hp,p.2⟩) (fun p=>p.1≤l.length∧m+1≤p.2) (fun p=>l.length - p.1) (0,m+1) ?_ ?_ (fun ⟨j,n⟩ hj=>?_)
 .grind
 .refine (B0 (t:=3) (m:=5) ?_).trans (Ac ?_ (A6.cons ?_ (A6.base hf ?_)) (zna _))
  all_goals simp only [go_sem]
 dsimp only at hj
 have B2:n≠m:=by omega
 have Gm:m≠n:=by omega
 have BO:m≤n:=by omega
 simp only [B2,Gm,BO,go_sem]
 refine Ai (fun c=>?_) (fun c=>?_)
 .have c:j<l.length:=by simpa using c
  obtain ⟨x,ex⟩:∃x,l[j]?=some x:=⟨l[j],by simp [c]⟩
  have hx:=h x (zla ex)
  have ht:(l.take j).length=j:=by simp;omega
  simp only [B2,Gm,BO,c,Ag (Ab A2 ex),go_sem]
  refine Af.f (hx _ _) ?_
  simp only [B2,Gm,BO,ht,go_sem]
  refine ⟨by omega,by omega,(j+1,n+1),by dsimp only;omega,by dsimp only;omega,Ac ?_ (A6.cons ?_ (A6.base hf ?_)) (zna _)⟩
  all_goals
   simp only [BO,go_sem]
  .exact congrArg _ (At j (by omega))
  .rw [Bg ex]
 .have c:j=l.length:=by simp at c;omega
  subst c
  simp only [B2,Gm,BO,go_sem]
  try simp
theorem Xc (v:Ak) (hv:v.keys.length*16≤140737488355327) (h:∀hp m,Ah prog 74 hp m [.ds (Ad A2 v.items)] (.ds (Ad A2 v.items))) (hp:CH) (m:Nat):Ah prog 38 hp m [vx v] (vx v):=by
 refine Am func38 (by kernel_rfl) cc38 cr38 rfl fun hf=>?_;unfold ck38
 simp only [go_sem]
 refine Af.f (h _ _) ?_
 simp only [go_sem]
 refine Af.f (NL v.keys hv _ _) ?_
 simp only [go_sem]
theorem EI (v:Ak) (hv:v.Fit) (hp:CH) (m:Nat):Ah prog 38 hp m [vx v] (vx v):=by
 have:=Ak.ind (Q:=fun v=>v.Fit→∀hp m,Ah prog 38 hp m [vx v] (vx v)) (fun v ih hv hp m=>Xc v hv.l (RM v.items hv.i fun x hx=>ih x hx (hv.x hx)) hp m) v
 exact this hv hp m
theorem JC (l:List Ak) (hl:l.length*80≤140737488355327) (h:∀x∈l,∀hp m,Ah prog 40 hp m [vx x] (vx x)) (hp:CH) (m:Nat) :
  Ah prog 71 hp m [.ds (Ad A2 l)] (.ds (Ad A2 l)):=by
 refine Am func71 (by kernel_rfl) cc71 cr71 rfl fun hf=>?_;unfold ck71
 simp only [go_sem]
 refine loop (fun p:Nat × Nat=>⟨[(3,.rw m p.1 p.1),(0,.ds (Ad A2 l)),(4,.i .i64 p.1)],(m,.rw p.1 5 (Ad A2 (l.take p.1)))::hp,p.2⟩) (fun p=>p.1≤l.length∧m+1≤p.2) (fun p=>l.length - p.1) (0,m+1) ?_ ?_ (fun ⟨j,n⟩ hj=>?_)
 .grind
 .refine (B0 (t:=3) (m:=5) ?_).trans (Ac ?_ (A6.cons ?_ (A6.base hf ?_)) (zna _))
  all_goals simp only [go_sem]
 dsimp only at hj
 have B2:n≠m:=by omega
 have Gm:m≠n:=by omega
 have BO:m≤n:=by omega
 simp only [B2,Gm,BO,go_sem]
 refine Ai (fun c=>?_) (fun c=>?_)
 .have c:j<l.length:=by simpa using c
  obtain ⟨x,ex⟩:∃x,l[j]?=some x:=⟨l[j],by simp [c]⟩
  have hx:=h x (zla ex)
  have ht:(l.take j).length=j:=by simp;omega
  simp only [B2,Gm,BO,c,Ag (Ab A2 ex),go_sem]
  refine Af.f (hx _ _) ?_
  simp only [B2,Gm,BO,ht,go_sem]
  refine ⟨by omega,by omega,(j+1,n),by dsimp only;omega,by dsimp only;omega,Ac ?_ (A6.cons ?_ (A6.base hf ?_)) (zna _)⟩
  all_goals
   simp only [BO,go_sem]
  .exact congrArg _ (At j (by omega))
  .rw [Bg ex]
 .have c:j=l.length:=by simp at c;omega
  subst c
  simp only [B2,Gm,BO,go_sem]
  try simp
theorem T8 (v:Ak) (hv:v.keys.length*16≤140737488355327) (h:∀hp m,Ah prog 71 hp m [.ds (Ad A2 v.items)] (.ds (Ad A2 v.items))) (hp:CH) (m:Nat):Ah prog 40 hp m [vx v] (vx v):=by
 refine Am func40 (by kernel_rfl) cc40 cr40 rfl fun hf=>?_;unfold ck40
 simp only [go_sem]
 first | refine A3.f (fun _ _ _=>h _ _) ?_ | refine AG.f (fun _ _ _=>h _ _) ?_
 simp only [go_sem]
 omega
theorem NK (v:Ak) (hv:v.Fit) (hp:CH) (m:Nat):Ah prog 40 hp m [vx v] (vx v):=by
 have:=Ak.ind (Q:=fun v=>v.Fit→∀hp m,Ah prog 40 hp m [vx v] (vx v)) (fun v ih hv hp m=>T8 v hv.l (JC v.items hv.i fun x hx=>ih x hx (hv.x hx)) hp m) v
 exact this hv hp m
theorem GJ (l:List ByteArray) (k:ByteArray) (hl:l.length≤9223372036854775806) (hp:CH) (m:Nat):Ah prog 94 hp m [.ds (Bv l),.s k] (.i .i64 (ix k l 0)):=by
 refine Am func94 (by kernel_rfl) cc94 cr94 rfl fun hf=>?_;unfold ck94
 simp only [go_sem]
 refine loop (fun p:Nat × Nat=>⟨[(0,.ds (Bv l)),(1,.s k),(7,.i .i64 l.length),(8,.i .i64 p.1)],hp,p.2⟩) (fun p=>p.1≤l.length∧ix k l 0=ix k (l.drop p.1) p.1) (fun p=>l.length - p.1) (0,m) ?_ ?_ (fun ⟨j,n⟩ hj=>?_)
 .grind
 .refine Ac ?_ (A6.refl _) (zna _)
  simp only [go_sem]
 dsimp only at hj
 simp only [go_sem]
 refine Ai (fun c=>?_) (fun c=>?_)
 .have c:j<l.length:=by simpa using c
  obtain ⟨x,ex⟩:∃x,l[j]?=some x:=⟨l[j],by simp [c]⟩
  have e:=A5 ex
  rw [e,ix] at hj
  simp only [c,Ag (Ab C9 ex),go_sem]
  refine Ai (fun c1=>?_) (fun c1=>?_)
  .have c1:k=x:=by simpa using c1
   simp only [go_sem]
   rw [hj.2,if_pos c1]
  .have c1:¬k=x:=by simpa using c1
   rw [if_neg c1] at hj
   simp only [go_sem]
   refine ⟨(j+1,n),by dsimp only;omega,by dsimp only;omega,Ac ?_ (A6.refl _) (zna _)⟩
   simp only [At j (by omega),go_sem]
 .have c:j=l.length:=by simp at c;omega
  subst c
  rw [zll,ix] at hj
  simp only [go_sem]
  rw [hj.2]
theorem HO (l:List ByteArray) (k:ByteArray) (hl:l.length≤9223372036854775806) (hp:CH) (m:Nat):Ah prog 52 hp m [.ds (Bv l),.s k] (.b (decide (0≤ix k l 0))):=by
 refine Am func52 (by kernel_rfl) cc52 cr52 rfl fun hf=>?_;unfold ck52
 simp only [go_sem]
 refine Af.f (GJ l k hl _ _) ?_
 simp only [go_sem]
mutual
def SG:Ak→Int
 | .mk _ _ _ i _=>szL i 1
def szL:List Ak→Int→Int
 | [],n=>n
 | x::r,n=>szL r (IntKind.i64.wrap (n+SG x))
end
theorem Aaq (v:Ak):SG v=szL v.items 1:=by cases v;rw [SG];rfl
theorem Xw (v:Ak) (h3:v.items.length*80≤140737488355327) (h:∀x∈v.items,∀hp m,Ah prog 21 hp m [vx x] (.i .i64 (SG x))) (hp:CH) (m:Nat):Ah prog 21 hp m [vx v] (.i .i64 (SG v)):=by
 refine Am func21 (by kernel_rfl) cc21 cr21 rfl fun hf=>?_;unfold ck21
 simp only [go_sem]
 refine loop (fun p:Nat × Int × Nat=>⟨[(1,.bx m 0),(3,.i .i64 p.2.1),(4,.i .i64 p.1)],(m,.bx [.i .i64 v.k,.i .i64 v.n,.s v.s,.ds (Ad A2 v.items),.ds (Bv v.keys)])::hp,p.2.2⟩)
  (fun p=>p.1≤v.items.length∧m+1≤p.2.2∧SG v=szL (v.items.drop p.1) p.2.1) (fun p=>v.items.length - p.1) (0,1,m+1) ?_ ?_ (fun ⟨j,a,n⟩ hj=>?_)
 .exact ⟨by dsimp only;omega,by dsimp only;omega,by rw [Aaq];rfl⟩
 .refine Ac ?_ (A6.refl _) (zna _)
  simp only [go_sem]
 dsimp only at hj
 simp only [go_sem]
 refine Ai (fun d=>?_) (fun d=>?_)
 .have d:j<v.items.length:=by simpa using d
  obtain ⟨x,ex⟩:∃x,v.items[j]?=some x:=⟨v.items[j],by simp [d]⟩
  have hx:=h x (zla ex)
  have e:=A5 ex
  rw [e,szL] at hj
  simp only [d,Ag (Ab A2 ex),go_sem]
  refine Af.f (hx _ _) ?_
  simp only [go_sem]
  refine ⟨(j+1,IntKind.i64.wrap (a+SG x),n),by dsimp only;exact ⟨by omega,by omega,hj.2.2⟩,by dsimp only;omega,Ac ?_ (A6.refl _) (zna _)⟩
  simp only [At j (by omega),go_sem]
 .have d:j=v.items.length:=by simp at d;omega
  subst d
  rw [zll,szL] at hj
  simp only [go_sem]
  rw [hj.2.2]
theorem LK (v:Ak) (hv:v.Fit) (hp:CH) (m:Nat):Ah prog 21 hp m [vx v] (.i .i64 (SG v)):=by
 have:=Ak.ind (Q:=fun v=>v.Fit→∀hp m,Ah prog 21 hp m [vx v] (.i .i64 (SG v))) (fun v ih hv hp m=>Xw v hv.i (fun x hx=>ih x hx (hv.x hx)) hp m) v
 exact this hv hp m
def ci (a b:Int):Int:=if a<b then -1 else if b<a then 1 else 0
def cs (a b:ByteArray):Int:=if Op.bytesLess a.toList b.toList=true then -1 else if (!(Op.bytesLess a.toList b.toList||decide (a=b)))=true then 1 else 0
theorem Hg (a b:Int) (hp:CH) (m:Nat):Ah prog 68 hp m [.i .i64 a,.i .i64 b] (.i .i64 (ci a b)):=by
 refine Am func68 (by kernel_rfl) cc68 cr68 rfl fun hf=>?_;unfold ck68
 simp only [go_sem]
 repeat' (first
  | ((with_reducible refine Ai (fun _=>?_) (fun _=>?_))<;>(try simp only [go_sem]))
  | ((with_reducible refine HD (fun _=>?_) (fun _=>?_))<;>(try simp only [go_sem]))
  | ((with_reducible refine AA.s (Ix (fun _=>?_) (fun _=>?_)))<;>(try simp only [go_sem]))
  | ((with_reducible refine F5.m ?_ (fun _ _=>?_));rotate_left;try simp only [go_sem])
  | exact GY (fun _=>rfl)
  | exact FV (fun _=>⟨rfl,rfl⟩)
  | with_reducible refine And.intro ?_ ?_)
 all_goals clear hf
 all_goals grind [ci]
theorem C7 (a b:ByteArray) (hp:CH) (m:Nat):Ah prog 69 hp m [.s a,.s b] (.i .i64 (cs a b)):=by
 refine Am func69 (by kernel_rfl) cc69 cr69 rfl fun hf=>?_;unfold ck69
 simp only [go_sem]
 repeat' (first
  | ((with_reducible refine Ai (fun _=>?_) (fun _=>?_))<;>(try simp only [go_sem]))
  | ((with_reducible refine HD (fun _=>?_) (fun _=>?_))<;>(try simp only [go_sem]))
  | ((with_reducible refine AA.s (Ix (fun _=>?_) (fun _=>?_)))<;>(try simp only [go_sem]))
  | ((with_reducible refine F5.m ?_ (fun _ _=>?_));rotate_left;try simp only [go_sem])
  | exact GY (fun _=>rfl)
  | exact FV (fun _=>⟨rfl,rfl⟩)
  | with_reducible refine And.intro ?_ ?_)
 all_goals clear hf
 all_goals grind [cs]
theorem DA (v:Ak) (j:Nat) (hp:CH) (m:Nat):Ah prog 70 hp m [vx v,.i .i64 j] (.s ((v.keys.drop j).headD ⟨#[]⟩)):=by
 refine Am func70 (by kernel_rfl) cc70 cr70 rfl fun hf=>?_;unfold ck70
 simp only [go_sem]
 refine Ai (fun d=>?_) (fun d=>?_)
 .have d:j<v.keys.length:=by simpa using d
  obtain ⟨x,ex⟩:∃x,v.keys[j]?=some x:=⟨v.keys[j],by simp [d]⟩
  simp only [d,Ag (Ab C9 ex),go_sem]
  rw [A5 ex]
  rfl
 .have d:v.keys.length≤j:=by simp at d;omega
  simp only [go_sem]
  rw [List.drop_eq_nil_of_le d]
  rfl
mutual
noncomputable def EO:Ak→Ak→Int
 | .mk k n s i l,b=>if ci k b.k≠0 then ci k b.k else if ci n b.n≠0 then ci n b.n else if cs s b.s≠0 then cs s b.s else Gh i b.items l b.keys i.length b.items.length
noncomputable def Gh:List Ak→List Ak→List ByteArray→List ByteArray→Nat→Nat→Int
 | [],_,_,_,n,m=>ci n m
 | _::_,[],_,_,n,m=>ci n m
 | x::r,y::r',l,l',n,m=>if cs (l.headD ⟨#[]⟩) (l'.headD ⟨#[]⟩)≠0 then cs (l.headD ⟨#[]⟩) (l'.headD ⟨#[]⟩) else if EO x y≠0 then EO x y else Gh r r' l.tail l'.tail n m
end
theorem Q1 (a b:Ak):EO a b=if ci a.k b.k≠0 then ci a.k b.k else if ci a.n b.n≠0 then ci a.n b.n else if cs a.s b.s≠0 then cs a.s b.s else Gh a.items b.items a.keys b.keys a.items.length b.items.length:=by
 cases a;rw [EO];rfl
theorem Lo (a:Int):ci a a=0:=by simp [ci]
theorem K2:∀l:List UInt8,Op.bytesLess l l=false
 | []=>rfl
 | a::l=>by simp [Op.bytesLess,K2 l]
theorem Qb (a:ByteArray):cs a a=0:=by simp [cs,K2]
theorem KC:∀(l:List Ak),(∀x∈l,EO x x=0)→∀(k:List ByteArray) (n:Nat),Gh l l k k n n=0
 | [],_,k,n=>by rw [Gh,Lo]
 | x::r,h,k,n=>by
  rw [Gh,Qb,h x (by simp)]
  simp only [ne_eq,not_true_eq_false,↓reduceIte]
  exact KC r (fun y hy=>h y (by simp [hy])) _ _
theorem Kz (v:Ak):EO v v=0:=by
 refine Ak.ind (Q:=fun v=>EO v v=0) (fun v ih=>?_) v
 rw [Q1,Lo,Lo,Qb]
 simp only [ne_eq,not_true_eq_false,↓reduceIte]
 exact KC _ ih _ _
def SF (a b:Ak) (c:Int) (j:Nat):Prop:=j≤a.items.length+1∧(c≠0→EO a b=c)∧(c=0→j≤a.items.length∧j≤b.items.length∧EO a b=Gh (a.items.drop j) (b.items.drop j) (a.keys.drop j) (b.keys.drop j) a.items.length b.items.length)
theorem Aan (a b:Ak) (ha:a.Fit) (hb:b.Fit) (h:∀x∈a.items,∀y∈b.items,∀hp m,Ah prog 34 hp m [vx x,vx y] (.i .i64 (EO x y))) (hp:CH) (m:Nat) :
  Ah prog 34 hp m [vx a,vx b] (.i .i64 (EO a b)):=by
 have h1:=ha.i
 have h2:=hb.i
 have e:=Q1 a b
 refine Am func34 (by kernel_rfl) cc34 cr34 rfl fun hf=>?_;unfold ck34
 simp only [go_sem]
 refine Af.f (Hg _ _ _ _) ?_
 simp only [go_sem]
 refine Ai (fun c1=>?_) (fun c1=>?_)
 .simp only [go_sem]
  refine Af.f (Hg _ _ _ _) ?_
  simp only [go_sem]
  refine Ai (fun c2=>?_) (fun c2=>?_)
  .simp only [go_sem]
   refine Af.f (C7 _ _ _ _) ?_
   simp only [go_sem]
   refine loop (fun p:Int × Nat × Nat=>⟨[(2,.bx m 0),(3,.bx (m+1) 0),(5,.i .i64 p.1),(6,.i .i64 p.2.1)],(m+1,.bx [.i .i64 b.k,.i .i64 b.n,.s b.s,.ds (Ad A2 b.items),.ds (Bv b.keys)])::(m,.bx [.i .i64 a.k,.i .i64 a.n,.s a.s,.ds (Ad A2 a.items),.ds (Bv a.keys)])::hp,p.2.2⟩)
    (fun p=>m+2≤p.2.2∧SF a b p.1 p.2.1) (fun p=>a.items.length+1 - p.2.1) (cs a.s b.s,0,m+2) ?_ ?_ (fun ⟨c,j,n⟩ hj=>?_)
   .refine ⟨by dsimp only;omega,?_⟩
    clear hf
    grind [SF]
   .refine Ac ?_ (A6.refl _) (zna _)
    simp only [go_sem]
   dsimp only at hj
   simp only [go_sem]
   refine Ai (fun d=>?_) (fun d=>?_)
   .have d:c=0:=by simpa using d
    obtain ⟨hn,Cm,Ba,Aw⟩:=hj
    obtain ⟨Cc,Dt,Aw⟩:=Aw d
    simp only [go_sem]
    refine Ai (fun d1=>?_) (fun d1=>?_)
    .simp only [go_sem]
     refine Af.f (Hg _ _ _ _) ?_
     simp only [go_sem]
     rw [Aw]
     rcases Nat.lt_or_ge j a.items.length with q | q
     .have q2:j=b.items.length:=by simp at d1;omega
      have hx:∃x,a.items[j]?=some x:=⟨a.items[j],by simp [q]⟩
      obtain ⟨x,ex⟩:=hx
      rw [A5 ex,q2,zll,Gh]
     .have q2:j=a.items.length:=by omega
      rw [q2,zll,Gh]
    .have q1:j<a.items.length:=by simp at d1;omega
     have q2:j<b.items.length:=by simp at d1;omega
     obtain ⟨x,ex⟩:∃x,a.items[j]?=some x:=⟨a.items[j],by simp [q1]⟩
     obtain ⟨y,ey⟩:∃y,b.items[j]?=some y:=⟨b.items[j],by simp [q2]⟩
     rw [A5 ex,A5 ey,Gh] at Aw
     simp only [List.tail_drop] at Aw
     simp only [go_sem]
     first | refine A3.f (fun _ _ _=>DA a j _ _) ?_ | refine AG.f (fun _ _ _=>DA a j _ _) ?_
     simp only [go_sem]
     first | refine A3.f (fun _ _ _=>DA b j _ _) ?_ | refine AG.f (fun _ _ _=>DA b j _ _) ?_
     simp only [go_sem]
     first | refine A3.f (fun _ _ _=>C7 _ _ _ _) ?_ | refine AG.f (fun _ _ _=>C7 _ _ _ _) ?_
     simp only [go_sem]
     refine Ai (fun d2=>?_) (fun d2=>?_)
     .have d2:cs ((a.keys.drop j).headD ⟨#[]⟩) ((b.keys.drop j).headD ⟨#[]⟩)=0:=by simpa using d2
      simp only [q1,q2,Ag (Ab A2 ex),Ag (Ab A2 ey),go_sem]
      first | refine A3.f (fun _ _ _=>h x (zla ex) y (zla ey) _ _) ?_ | refine AG.f (fun _ _ _=>h x (zla ex) y (zla ey) _ _) ?_
      simp only [go_sem]
      refine ⟨(EO x y,j+1,_),?_,?_,Ac ?_ (A6.refl _) (zna _)⟩
      .clear hf
       refine ⟨by dsimp only;omega,?_⟩
       grind [SF]
      .dsimp only;omega
      .simp only [At j (by omega),go_sem]
     .have d2:¬cs ((a.keys.drop j).headD ⟨#[]⟩) ((b.keys.drop j).headD ⟨#[]⟩)=0:=by simpa using d2
      simp only [go_sem]
      refine ⟨(cs ((a.keys.drop j).headD ⟨#[]⟩) ((b.keys.drop j).headD ⟨#[]⟩),j+1,_),?_,?_,Ac ?_ (A6.refl _) (zna _)⟩
      .clear hf
       refine ⟨by dsimp only;omega,?_⟩
       grind [SF]
      .dsimp only;omega
      .simp only [At j (by omega),go_sem]
   .have d:c≠0:=by simpa using d
    obtain ⟨hn,Cm,Ba,Aw⟩:=hj
    simp only [go_sem]
    rw [Ba d]
  .simp only [c2,go_sem]
   refine loop (fun p:Int × Nat × Nat=>⟨[(2,.bx m 0),(3,.bx (m+1) 0),(5,.i .i64 p.1),(6,.i .i64 p.2.1)],(m+1,.bx [.i .i64 b.k,.i .i64 b.n,.s b.s,.ds (Ad A2 b.items),.ds (Bv b.keys)])::(m,.bx [.i .i64 a.k,.i .i64 a.n,.s a.s,.ds (Ad A2 a.items),.ds (Bv a.keys)])::hp,p.2.2⟩)
    (fun p=>m+2≤p.2.2∧SF a b p.1 p.2.1) (fun p=>a.items.length+1 - p.2.1) (ci a.n b.n,0,m+2) ?_ ?_ (fun ⟨c,j,n⟩ hj=>?_)
   .refine ⟨by dsimp only;omega,?_⟩
    clear hf
    grind [SF]
   .refine Ac ?_ (A6.refl _) (zna _)
    simp only [go_sem]
   dsimp only at hj
   simp only [go_sem]
   refine Ai (fun d=>?_) (fun d=>?_)
   .have d:c=0:=by simpa using d
    obtain ⟨hn,Cm,Ba,Aw⟩:=hj
    obtain ⟨Cc,Dt,Aw⟩:=Aw d
    simp only [go_sem]
    refine Ai (fun d1=>?_) (fun d1=>?_)
    .simp only [go_sem]
     refine Af.f (Hg _ _ _ _) ?_
     simp only [go_sem]
     rw [Aw]
     rcases Nat.lt_or_ge j a.items.length with q | q
     .have q2:j=b.items.length:=by simp at d1;omega
      have hx:∃x,a.items[j]?=some x:=⟨a.items[j],by simp [q]⟩
      obtain ⟨x,ex⟩:=hx
      rw [A5 ex,q2,zll,Gh]
     .have q2:j=a.items.length:=by omega
      rw [q2,zll,Gh]
    .have q1:j<a.items.length:=by simp at d1;omega
     have q2:j<b.items.length:=by simp at d1;omega
     obtain ⟨x,ex⟩:∃x,a.items[j]?=some x:=⟨a.items[j],by simp [q1]⟩
     obtain ⟨y,ey⟩:∃y,b.items[j]?=some y:=⟨b.items[j],by simp [q2]⟩
     rw [A5 ex,A5 ey,Gh] at Aw
     simp only [List.tail_drop] at Aw
     simp only [go_sem]
     first | refine A3.f (fun _ _ _=>DA a j _ _) ?_ | refine AG.f (fun _ _ _=>DA a j _ _) ?_
     simp only [go_sem]
     first | refine A3.f (fun _ _ _=>DA b j _ _) ?_ | refine AG.f (fun _ _ _=>DA b j _ _) ?_
     simp only [go_sem]
     first | refine A3.f (fun _ _ _=>C7 _ _ _ _) ?_ | refine AG.f (fun _ _ _=>C7 _ _ _ _) ?_
     simp only [go_sem]
     refine Ai (fun d2=>?_) (fun d2=>?_)
     .have d2:cs ((a.keys.drop j).headD ⟨#[]⟩) ((b.keys.drop j).headD ⟨#[]⟩)=0:=by simpa using d2
      simp only [q1,q2,Ag (Ab A2 ex),Ag (Ab A2 ey),go_sem]
      first | refine A3.f (fun _ _ _=>h x (zla ex) y (zla ey) _ _) ?_ | refine AG.f (fun _ _ _=>h x (zla ex) y (zla ey) _ _) ?_
      simp only [go_sem]
      refine ⟨(EO x y,j+1,_),?_,?_,Ac ?_ (A6.refl _) (zna _)⟩
      .clear hf
       refine ⟨by dsimp only;omega,?_⟩
       grind [SF]
      .dsimp only;omega
      .simp only [At j (by omega),go_sem]
     .have d2:¬cs ((a.keys.drop j).headD ⟨#[]⟩) ((b.keys.drop j).headD ⟨#[]⟩)=0:=by simpa using d2
      simp only [go_sem]
      refine ⟨(cs ((a.keys.drop j).headD ⟨#[]⟩) ((b.keys.drop j).headD ⟨#[]⟩),j+1,_),?_,?_,Ac ?_ (A6.refl _) (zna _)⟩
      .clear hf
       refine ⟨by dsimp only;omega,?_⟩
       grind [SF]
      .dsimp only;omega
      .simp only [At j (by omega),go_sem]
   .have d:c≠0:=by simpa using d
    obtain ⟨hn,Cm,Ba,Aw⟩:=hj
    simp only [go_sem]
    rw [Ba d]
 .simp only [c1,go_sem]
  refine loop (fun p:Int × Nat × Nat=>⟨[(2,.bx m 0),(3,.bx (m+1) 0),(5,.i .i64 p.1),(6,.i .i64 p.2.1)],(m+1,.bx [.i .i64 b.k,.i .i64 b.n,.s b.s,.ds (Ad A2 b.items),.ds (Bv b.keys)])::(m,.bx [.i .i64 a.k,.i .i64 a.n,.s a.s,.ds (Ad A2 a.items),.ds (Bv a.keys)])::hp,p.2.2⟩)
   (fun p=>m+2≤p.2.2∧SF a b p.1 p.2.1) (fun p=>a.items.length+1 - p.2.1) (ci a.k b.k,0,m+2) ?_ ?_ (fun ⟨c,j,n⟩ hj=>?_)
  .refine ⟨by dsimp only;omega,?_⟩
   clear hf
   grind [SF]
  .refine Ac ?_ (A6.refl _) (zna _)
   simp only [go_sem]
  dsimp only at hj
  simp only [go_sem]
  refine Ai (fun d=>?_) (fun d=>?_)
  .have d:c=0:=by simpa using d
   obtain ⟨hn,Cm,Ba,Aw⟩:=hj
   obtain ⟨Cc,Dt,Aw⟩:=Aw d
   simp only [go_sem]
   refine Ai (fun d1=>?_) (fun d1=>?_)
   .simp only [go_sem]
    refine Af.f (Hg _ _ _ _) ?_
    simp only [go_sem]
    rw [Aw]
    rcases Nat.lt_or_ge j a.items.length with q | q
    .have q2:j=b.items.length:=by simp at d1;omega
     have hx:∃x,a.items[j]?=some x:=⟨a.items[j],by simp [q]⟩
     obtain ⟨x,ex⟩:=hx
     rw [A5 ex,q2,zll,Gh]
    .have q2:j=a.items.length:=by omega
     rw [q2,zll,Gh]
   .have q1:j<a.items.length:=by simp at d1;omega
    have q2:j<b.items.length:=by simp at d1;omega
    obtain ⟨x,ex⟩:∃x,a.items[j]?=some x:=⟨a.items[j],by simp [q1]⟩
    obtain ⟨y,ey⟩:∃y,b.items[j]?=some y:=⟨b.items[j],by simp [q2]⟩
    rw [A5 ex,A5 ey,Gh] at Aw
    simp only [List.tail_drop] at Aw
    simp only [go_sem]
    first | refine A3.f (fun _ _ _=>DA a j _ _) ?_ | refine AG.f (fun _ _ _=>DA a j _ _) ?_
    simp only [go_sem]
    first | refine A3.f (fun _ _ _=>DA b j _ _) ?_ | refine AG.f (fun _ _ _=>DA b j _ _) ?_
    simp only [go_sem]
    first | refine A3.f (fun _ _ _=>C7 _ _ _ _) ?_ | refine AG.f (fun _ _ _=>C7 _ _ _ _) ?_
    simp only [go_sem]
    refine Ai (fun d2=>?_) (fun d2=>?_)
    .have d2:cs ((a.keys.drop j).headD ⟨#[]⟩) ((b.keys.drop j).headD ⟨#[]⟩)=0:=by simpa using d2
     simp only [q1,q2,Ag (Ab A2 ex),Ag (Ab A2 ey),go_sem]
     first | refine A3.f (fun _ _ _=>h x (zla ex) y (zla ey) _ _) ?_ | refine AG.f (fun _ _ _=>h x (zla ex) y (zla ey) _ _) ?_
     simp only [go_sem]
     refine ⟨(EO x y,j+1,_),?_,?_,Ac ?_ (A6.refl _) (zna _)⟩
     .clear hf
      refine ⟨by dsimp only;omega,?_⟩
      grind [SF]
     .dsimp only;omega
     .simp only [At j (by omega),go_sem]
    .have d2:¬cs ((a.keys.drop j).headD ⟨#[]⟩) ((b.keys.drop j).headD ⟨#[]⟩)=0:=by simpa using d2
     simp only [go_sem]
     refine ⟨(cs ((a.keys.drop j).headD ⟨#[]⟩) ((b.keys.drop j).headD ⟨#[]⟩),j+1,_),?_,?_,Ac ?_ (A6.refl _) (zna _)⟩
     .clear hf
      refine ⟨by dsimp only;omega,?_⟩
      grind [SF]
     .dsimp only;omega
     .simp only [At j (by omega),go_sem]
  .have d:c≠0:=by simpa using d
   obtain ⟨hn,Cm,Ba,Aw⟩:=hj
   simp only [go_sem]
   rw [Ba d]
theorem ZW (a b:Ak) (ha:a.Fit) (hb:b.Fit) (hp:CH) (m:Nat):Ah prog 34 hp m [vx a,vx b] (.i .i64 (EO a b)):=by
 have:=Ak.ind (Q:=fun a=>a.Fit→∀b,b.Fit→∀hp m,Ah prog 34 hp m [vx a,vx b] (.i .i64 (EO a b))) (fun a ih ha b hb hp m=>Aan a b ha hb (fun x hx y hy=>ih x hx (ha.x hx) y (hb.x hy)) hp m) a
 exact this ha b hb hp m
theorem LH (a b:Ak) (ha:a.Fit) (hb:b.Fit) (hp:CH) (m:Nat):Ah prog 11 hp m [vx a,vx b] (.b (decide (EO a b=0))):=by
 refine Am func11 (by kernel_rfl) cc11 cr11 rfl fun hf=>?_;unfold ck11
 simp only [go_sem]
 refine Af.f (ZW a b ha hb _ _) ?_
 simp only [go_sem]
end Go.Proofs.YtgfidgoefioigaaGreatDoor
