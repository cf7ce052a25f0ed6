/- Proof. Conditions: none. -/
import Derived.Test.YtgfidgoefioigaaGreatDoorIj17
noncomputable section
open List renaming tail_drop->z4i
open Nat renaming lt_or_ge->z14
open Go.Proofs.Tryz
open List renaming mem_of_getElem?->zla,drop_length->zll
open Nat renaming le_refl->zna
namespace Go.Proofs.YtgfidgoefioigaaGreatDoor
open Go.Eng
set_option linter.all false
set_option maxRecDepth 20000
inductive HD where
 | mk (n:qB) (v:Ag)
def HD.n:HD->qB | .mk n _=>n
theorem HD.n_mk (n:qB) (v:Ag):(HD.mk n v).n=n:=rfl
def HD.v:HD->Ag | .mk _ v=>v
theorem HD.v_mk (n:qB) (v:Ag):(HD.mk n v).v=v:=rfl
theorem HD.ext {x y:HD} (h0:x.n=y.n) (h1:x.v=y.v):x=y:=by cases x;cases y;simp only [HD.n_mk,HD.v_mk] at *;simp [*]
attribute [go_sem] HD.n_mk HD.v_mk
attribute [grind =] HD.n_mk HD.v_mk
attribute [ext] HD.ext
attribute [grind ext] HD.ext
def BB (x:HD):List AV:=[.s x.n,.i .i64 x.v.k,.i .i64 x.v.n,.s x.v.s,.ds (Ab Ar x.v.items),.ds (Bd x.v.keys)]
inductive Pk where
 | mk (key on name:qB) (args:List HD) (tn:qB) (tw:List Int) (label:qB) (initial:Int) (picks:List Pk)
def Pk.key:Pk->qB | .mk x _ _ _ _ _ _ _ _=>x
def Pk.on:Pk->qB | .mk _ x _ _ _ _ _ _ _=>x
def Pk.name:Pk->qB | .mk _ _ x _ _ _ _ _ _=>x
def Pk.args:Pk->List HD | .mk _ _ _ x _ _ _ _ _=>x
def Pk.tn:Pk->qB | .mk _ _ _ _ x _ _ _ _=>x
def Pk.tw:Pk->List Int | .mk _ _ _ _ _ x _ _ _=>x
def Pk.label:Pk->qB | .mk _ _ _ _ _ _ x _ _=>x
def Pk.initial:Pk->Int | .mk _ _ _ _ _ _ _ x _=>x
def Pk.picks:Pk->List Pk | .mk _ _ _ _ _ _ _ _ x=>x
mutual
def AJ:Pk->List AV
 | .mk k o n a tn tw l i p=>[.s k,.s o,.s n,.ds (Ab BB a),.s tn,.ds (Ab D0 tw),.s l,.i .i64 i,.ds (ZY p)]
def ZY:List Pk->List (List AV)
 | []=>[]
 |p::r=>AJ p::ZY r
end
theorem Zm (l:List Pk):ZY l=Ab AJ l:=by
 induction l with
 |nil=>rfl
 |cons v l ih=>rw [ZY,Cl,ih]
theorem BH (p:Pk):AJ p=[.s p.key,.s p.on,.s p.name,.ds (Ab BB p.args),.s p.tn,.ds (Ab D0 p.tw),.s p.label,.i .i64 p.initial,.ds (Ab AJ p.picks)]:=by
 cases p
 rw [AJ,Zm]
 rfl
attribute [go_sem] BH
theorem Pk.picks_lt (v x:Pk) (h:x∈v.picks):SizeOf.sizeOf x<SizeOf.sizeOf v:=by
 cases v
 have:=List.sizeOf_lt_of_mem h
 simp only [Pk.picks] at this
 simp
 omega
theorem Pk.ind {Q:Pk->Prop} (h:∀v,(∀x∈v.picks,Q x)->Q v) (v:Pk):Q v:=h v fun x hx=>Pk.ind h x
termination_by SizeOf.sizeOf v
decreasing_by exact Pk.picks_lt v x hx
mutual
def I8:Pk->Nat
 | .mk _ _ _ _ _ _ _ _ p=>1+AF p
def AF:List Pk->Nat
 | []=>0
 |p::r=>I8 p+AF r
end
theorem Cs (p:Pk):I8 p=1+AF p.picks:=by cases p;rw [I8];rfl
theorem CA {x:Pk}:∀{l:List Pk},x∈l->I8 x<=AF l
 |y::r,h=>by
  rw [AF]
  rcases List.mem_cons.1 h with rfl | h
  .omega
  .have:=CA h
   omega
theorem Eg:∀l:List Pk,l.length<=AF l
 | []=>by simp
 |y::r=>by
  have:=Eg r
  have:=Cs y
  rw [AF]
  simp
  omega
theorem QE (l:List qB) (h:l.length*16<=140737488355327) (hp:CH) (m:Nat):Af prog 75 hp m [.ds (Bd l)] (.ds (Bd l)):=by
 refine Aj func75 (tA cc75) (tB cc75) (tC cc75) rfl fun hf=>?_;unfold ck75
 simp only [go_sem]
 exact ⟨fun e=>by rw [e],by omega,by omega⟩
theorem Vg (l:List Ag) (hl:l.length*80<=140737488355327) (h:∀x∈l,∀hp m,Af prog 38 hp m [vx x] (vx x)) (hp:CH) (m:Nat) :
 Af prog 74 hp m [.ds (Ab Ar l)] (.ds (Ab Ar l)):=by
 refine Aj func74 (tA cc74) (tB cc74) (tC cc74) rfl fun hf=>?_;unfold ck74
 simp only [go_sem]
 refine loop (fun p:Nat×Nat=>⟨[(3,.rw m p.1 p.1),(6,.ds (Ab Ar l)),(7,.i .i64 l.length),(8,.i .i64 p.1)],(m,.rw p.1 5 (Ab Ar (l.take p.1)))::hp,p.2⟩) (fun p=>p.1<=l.length∧m+1<=p.2) (fun p=>l.length - p.1) (0,m+1) ?_ ?_ (fun ⟨j,n⟩ hj=>?_)
 .grind
 .refine (Bo (t:=3) (m:=5) ?_).trans (Gu hf ?_ ?_ ?_ (zna _))
  all_goals simp only [go_sem]
 dsimp only at hj
 have BG:n≠m:=by omega
 have H6:m≠n:=by omega
 have BC:m<=n:=by omega
 simp only [BG,H6,BC,go_sem]
 refine Ae (fun c=>?_) (fun c=>?_)
 .have c:j<l.length:=by simpa using c
  obtain ⟨x,ex⟩:∃x,l[j]?=some x:=⟨l[j],by simp [c]⟩
  have hx:=h x (zla ex)
  have ht:(l.take j).length=j:=by simp;omega
  simp only [BG,H6,BC,c,Ad (Aa Ar ex),go_sem]
  refine Ac.f (hx _ _) ?_
  simp only [BG,H6,BC,ht,go_sem]
  refine ⟨by omega,by omega,(j+1,n+1),by dsimp only;omega,by dsimp only;omega,Gu hf ?_ ?_ ?_ (zna _)⟩
  all_goals
   simp only [BC,go_sem]
  .exact congrArg _ (Ap j (by omega))
  .rw [AN ex]
 .have c:j=l.length:=by simp at c;omega
  subst c
  simp only [BG,H6,BC,go_sem]
  try simp
theorem Abu (v:Ag) (hv:v.keys.length*16<=140737488355327) (h:∀hp m,Af prog 74 hp m [.ds (Ab Ar v.items)] (.ds (Ab Ar v.items))) (hp:CH) (m:Nat):Af prog 38 hp m [vx v] (vx v):=by
 refine Aj func38 (tA cc38) (tB cc38) (tC cc38) rfl fun hf=>?_;unfold ck38
 simp only [go_sem]
 refine Ac.f (h _ _) ?_
 simp only [go_sem]
 refine Ac.f (QE v.keys hv _ _) ?_
 simp only [go_sem]
theorem FY (v:Ag) (hv:v.Fit) (hp:CH) (m:Nat):Af prog 38 hp m [vx v] (vx v):=by
 have:=Ag.ind (Q:=fun v=>v.Fit->∀hp m,Af prog 38 hp m [vx v] (vx v)) (fun v ih hv hp m=>Abu v hv.l (Vg v.items hv.i fun x hx=>ih x hx (hv.x hx)) hp m) v
 exact this hv hp m
theorem KC (l:List Ag) (hl:l.length*80<=140737488355327) (h:∀x∈l,∀hp m,Af prog 40 hp m [vx x] (vx x)) (hp:CH) (m:Nat) :
 Af prog 71 hp m [.ds (Ab Ar l)] (.ds (Ab Ar l)):=by
 refine Aj func71 (tA cc71) (tB cc71) (tC cc71) rfl fun hf=>?_;unfold ck71
 simp only [go_sem]
 refine loop (fun p:Nat×Nat=>⟨[(3,.rw m p.1 p.1),(0,.ds (Ab Ar l)),(4,.i .i64 p.1)],(m,.rw p.1 5 (Ab Ar (l.take p.1)))::hp,p.2⟩) (fun p=>p.1<=l.length∧m+1<=p.2) (fun p=>l.length - p.1) (0,m+1) ?_ ?_ (fun ⟨j,n⟩ hj=>?_)
 .grind
 .refine (Bo (t:=3) (m:=5) ?_).trans (Gu hf ?_ ?_ ?_ (zna _))
  all_goals simp only [go_sem]
 dsimp only at hj
 have BG:n≠m:=by omega
 have H6:m≠n:=by omega
 have BC:m<=n:=by omega
 simp only [BG,H6,BC,go_sem]
 refine Ae (fun c=>?_) (fun c=>?_)
 .have c:j<l.length:=by simpa using c
  obtain ⟨x,ex⟩:∃x,l[j]?=some x:=⟨l[j],by simp [c]⟩
  have hx:=h x (zla ex)
  have ht:(l.take j).length=j:=by simp;omega
  simp only [BG,H6,BC,c,Ad (Aa Ar ex),go_sem]
  refine Ac.f (hx _ _) ?_
  simp only [BG,H6,BC,ht,go_sem]
  refine ⟨by omega,by omega,(j+1,n),by dsimp only;omega,by dsimp only;omega,Gu hf ?_ ?_ ?_ (zna _)⟩
  all_goals
   simp only [BC,go_sem]
  .exact congrArg _ (Ap j (by omega))
  .rw [AN ex]
 .have c:j=l.length:=by simp at c;omega
  subst c
  simp only [BG,H6,BC,go_sem]
  try simp
theorem Xr (v:Ag) (hv:v.keys.length*16<=140737488355327) (h:∀hp m,Af prog 71 hp m [.ds (Ab Ar v.items)] (.ds (Ab Ar v.items))) (hp:CH) (m:Nat):Af prog 40 hp m [vx v] (vx v):=by
 refine Aj func40 (tA cc40) (tB cc40) (tC cc40) rfl fun hf=>?_;unfold ck40
 simp only [go_sem]
 first | refine Aq.f (fun _ _ _=>h _ _) ?_ | refine AC.f (fun _ _ _=>h _ _) ?_
 simp only [go_sem]
 omega
theorem Pv (v:Ag) (hv:v.Fit) (hp:CH) (m:Nat):Af prog 40 hp m [vx v] (vx v):=by
 have:=Ag.ind (Q:=fun v=>v.Fit->∀hp m,Af prog 40 hp m [vx v] (vx v)) (fun v ih hv hp m=>Xr v hv.l (KC v.items hv.i fun x hx=>ih x hx (hv.x hx)) hp m) v
 exact this hv hp m
theorem ID (l:List qB) (k:qB) (hl:l.length<=9223372036854775806) (hp:CH) (m:Nat):Af prog 94 hp m [.ds (Bd l),.s k] (.i .i64 (ix k l 0)):=by
 refine Aj func94 (tA cc94) (tB cc94) (tC cc94) rfl fun hf=>?_;unfold ck94
 simp only [go_sem]
 refine loop (fun p:Nat×Nat=>⟨[(0,.ds (Bd l)),(1,.s k),(7,.i .i64 l.length),(8,.i .i64 p.1)],hp,p.2⟩) (fun p=>p.1<=l.length∧ix k l 0=ix k (l.drop p.1) p.1) (fun p=>l.length - p.1) (0,m) ?_ ?_ (fun ⟨j,n⟩ hj=>?_)
 .grind
 .refine Di ?_
  simp only [go_sem]
 dsimp only at hj
 simp only [go_sem]
 refine Ae (fun c=>?_) (fun c=>?_)
 .have c:j<l.length:=by simpa using c
  obtain ⟨x,ex⟩:∃x,l[j]?=some x:=⟨l[j],by simp [c]⟩
  have e:=A2 ex
  rw [e,ix] at hj
  simp only [c,Ad (Aa Cz ex),go_sem]
  refine Ae (fun c1=>?_) (fun c1=>?_)
  .have c1:k=x:=by simpa using c1
   simp only [go_sem]
   rw [hj.2,iP c1]
  .have c1:¬k=x:=by simpa using c1
   rw [iN c1] at hj
   simp only [go_sem]
   refine ⟨(j+1,n),by dsimp only;omega,by dsimp only;omega,Di ?_⟩
   simp only [Ap j (by omega),go_sem]
 .have c:j=l.length:=by simp at c;omega
  subst c
  rw [zll,ix] at hj
  simp only [go_sem]
  rw [hj.2]
theorem J2 (l:List qB) (k:qB) (hl:l.length<=9223372036854775806) (hp:CH) (m:Nat):Af prog 52 hp m [.ds (Bd l),.s k] (.b (decide (0<=ix k l 0))):=by
 refine Aj func52 (tA cc52) (tB cc52) (tC cc52) rfl fun hf=>?_;unfold ck52
 simp only [go_sem]
 refine Ac.f (ID l k hl _ _) ?_
 simp only [go_sem]
mutual
def VL:Ag->Int
 | .mk _ _ _ i _=>szL i 1
def szL:List Ag->Int->Int
 | [],n=>n
 |x::r,n=>szL r (IntKind.i64.wrap (n+VL x))
end
theorem Ad0 (v:Ag):VL v=szL v.items 1:=by cases v;rw [VL];rfl
theorem ZW (v:Ag) (h3:v.items.length*80<=140737488355327) (h:∀x∈v.items,∀hp m,Af prog 21 hp m [vx x] (.i .i64 (VL x))) (hp:CH) (m:Nat):Af prog 21 hp m [vx v] (.i .i64 (VL v)):=by
 refine Aj func21 (tA cc21) (tB cc21) (tC cc21) rfl fun hf=>?_;unfold ck21
 simp only [go_sem]
 refine loop (fun p:Nat×Int×Nat=>⟨[(1,.bx m 0),(3,.i .i64 p.2.1),(4,.i .i64 p.1)],(m,.bx [.i .i64 v.k,.i .i64 v.n,.s v.s,.ds (Ab Ar v.items),.ds (Bd v.keys)])::hp,p.2.2⟩)
  (fun p=>p.1<=v.items.length∧m+1<=p.2.2∧VL v=szL (v.items.drop p.1) p.2.1) (fun p=>v.items.length - p.1) (0,1,m+1) ?_ ?_ (fun ⟨j,a,n⟩ hj=>?_)
 .exact ⟨by dsimp only;omega,by dsimp only;omega,by rw [Ad0];rfl⟩
 .refine Di ?_
  simp only [go_sem]
 dsimp only at hj
 simp only [go_sem]
 refine Ae (fun d=>?_) (fun d=>?_)
 .have d:j<v.items.length:=by simpa using d
  obtain ⟨x,ex⟩:∃x,v.items[j]?=some x:=⟨v.items[j],by simp [d]⟩
  have hx:=h x (zla ex)
  have e:=A2 ex
  rw [e,szL] at hj
  simp only [d,Ad (Aa Ar ex),go_sem]
  refine Ac.f (hx _ _) ?_
  simp only [go_sem]
  refine ⟨(j+1,IntKind.i64.wrap (a+VL x),n),by dsimp only;exact ⟨by omega,by omega,hj.2.2⟩,by dsimp only;omega,Di ?_⟩
  simp only [Ap j (by omega),go_sem]
 .have d:j=v.items.length:=by simp at d;omega
  subst d
  rw [zll,szL] at hj
  simp only [go_sem]
  rw [hj.2.2]
theorem Oa (v:Ag) (hv:v.Fit) (hp:CH) (m:Nat):Af prog 21 hp m [vx v] (.i .i64 (VL v)):=by
 have:=Ag.ind (Q:=fun v=>v.Fit->∀hp m,Af prog 21 hp m [vx v] (.i .i64 (VL v))) (fun v ih hv hp m=>ZW v hv.i (fun x hx=>ih x hx (hv.x hx)) hp m) v
 exact this hv hp m
def ci (a b:Int):Int:=if a<b then -1 else if b<a then 1 else 0
def cs (a b:qB):Int:=if Op.bytesLess a.toList b.toList=true then -1 else if (!(Op.bytesLess a.toList b.toList||decide (a=b)))=true then 1 else 0
theorem Ih (a b:Int) (hp:CH) (m:Nat):Af prog 68 hp m [.i .i64 a,.i .i64 b] (.i .i64 (ci a b)):=by
 refine Aj func68 (tA cc68) (tB cc68) (tC cc68) rfl fun hf=>?_;unfold ck68
 simp only [go_sem]
 repeat' (first
  | ((with_reducible refine Ae (fun _=>?_) (fun _=>?_))<;>(try simp only [go_sem]))
  | ((with_reducible refine Jo (fun _=>?_) (fun _=>?_))<;>(try simp only [go_sem]))
  | ((with_reducible refine AH.s (Ki (fun _=>?_) (fun _=>?_)))<;>(try simp only [go_sem]))
  | ((with_reducible refine GQ.m ?_ (fun _ _=>?_));rotate_left;try simp only [go_sem])
  |exact I3 (fun _=>rfl)
  |exact Hh (fun _=>⟨rfl,rfl⟩)
  | with_reducible refine And.intro ?_ ?_)
 all_goals clear hf
 all_goals grind [ci]
theorem Dp (a b:qB) (hp:CH) (m:Nat):Af prog 69 hp m [.s a,.s b] (.i .i64 (cs a b)):=by
 refine Aj func69 (tA cc69) (tB cc69) (tC cc69) rfl fun hf=>?_;unfold ck69
 simp only [go_sem]
 repeat' (first
  | ((with_reducible refine Ae (fun _=>?_) (fun _=>?_))<;>(try simp only [go_sem]))
  | ((with_reducible refine Jo (fun _=>?_) (fun _=>?_))<;>(try simp only [go_sem]))
  | ((with_reducible refine AH.s (Ki (fun _=>?_) (fun _=>?_)))<;>(try simp only [go_sem]))
  | ((with_reducible refine GQ.m ?_ (fun _ _=>?_));rotate_left;try simp only [go_sem])
  |exact I3 (fun _=>rfl)
  |exact Hh (fun _=>⟨rfl,rfl⟩)
  | with_reducible refine And.intro ?_ ?_)
 all_goals clear hf
 all_goals grind [cs]
theorem Eo (v:Ag) (j:Nat) (hp:CH) (m:Nat):Af prog 70 hp m [vx v,.i .i64 j] (.s ((v.keys.drop j).headD ⟨#[]⟩)):=by
 refine Aj func70 (tA cc70) (tB cc70) (tC cc70) rfl fun hf=>?_;unfold ck70
 simp only [go_sem]
 refine Ae (fun d=>?_) (fun d=>?_)
 .have d:j<v.keys.length:=by simpa using d
  obtain ⟨x,ex⟩:∃x,v.keys[j]?=some x:=⟨v.keys[j],by simp [d]⟩
  simp only [d,Ad (Aa Cz ex),go_sem]
  rw [A2 ex]
  rfl
 .have d:v.keys.length<=j:=by simp at d;omega
  simp only [go_sem]
  rw [List.drop_eq_nil_of_le d]
  rfl
mutual
def FV:Ag->Ag->Int
 | .mk k n s i l,b=>if ci k b.k≠0 then ci k b.k else if ci n b.n≠0 then ci n b.n else if cs s b.s≠0 then cs s b.s else Hy i b.items l b.keys i.length b.items.length
def Hy:List Ag->List Ag->List qB->List qB->Nat->Nat->Int
 | [],_,_,_,n,m=>ci n m
 |_::_,[],_,_,n,m=>ci n m
 |x::r,y::r',l,l',n,m=>if cs (l.headD ⟨#[]⟩) (l'.headD ⟨#[]⟩)≠0 then cs (l.headD ⟨#[]⟩) (l'.headD ⟨#[]⟩) else if FV x y≠0 then FV x y else Hy r r' l.tail l'.tail n m
end
theorem SW (a b:Ag):FV a b=if ci a.k b.k≠0 then ci a.k b.k else if ci a.n b.n≠0 then ci a.n b.n else if cs a.s b.s≠0 then cs a.s b.s else Hy a.items b.items a.keys b.keys a.items.length b.items.length:=by
 cases a;rw [FV];rfl
theorem Oz (a:Int):ci a a=0:=by simp [ci]
theorem Mx:∀l:List UInt8,Op.bytesLess l l=false
 | []=>rfl
 |a::l=>by simp [Op.bytesLess,Mx l]
theorem TH (a:qB):cs a a=0:=by simp [cs,Mx]
theorem Mw:∀(l:List Ag),(∀x∈l,FV x x=0)->∀(k:List qB) (n:Nat),Hy l l k k n n=0
 | [],_,k,n=>by rw [Hy,Oz]
 |x::r,h,k,n=>by
  rw [Hy,TH,h x (by simp)]
  simp only [ne_eq,not_true_eq_false,↓reduceIte]
  exact Mw r (fun y hy=>h y (by simp [hy])) _ _
theorem Hk (v:Ag):FV v v=0:=by
 refine Ag.ind (Q:=fun v=>FV v v=0) (fun v ih=>?_) v
 rw [SW,Oz,Oz,TH]
 simp only [ne_eq,not_true_eq_false,↓reduceIte]
 exact Mw _ ih _ _
def VI (a b:Ag) (c:Int) (j:Nat):Prop:=j<=a.items.length+1∧(c≠0->FV a b=c)∧(c=0->j<=a.items.length∧j<=b.items.length∧FV a b=Hy (a.items.drop j) (b.items.drop j) (a.keys.drop j) (b.keys.drop j) a.items.length b.items.length)
theorem Adb (a b:Ag) (ha:a.Fit) (hb:b.Fit) (h:∀x∈a.items,∀y∈b.items,∀hp m,Af prog 34 hp m [vx x,vx y] (.i .i64 (FV x y))) (hp:CH) (m:Nat) :
 Af prog 34 hp m [vx a,vx b] (.i .i64 (FV a b)):=by
 have h1:=ha.i
 have h2:=hb.i
 have e:=SW a b
 refine Aj func34 (tA cc34) (tB cc34) (tC cc34) rfl fun hf=>?_;unfold ck34
 simp only [go_sem]
 refine Ac.f (Ih _ _ _ _) ?_
 simp only [go_sem]
 refine Ae (fun c1=>?_) (fun c1=>?_)
 .simp only [go_sem]
  refine Ac.f (Ih _ _ _ _) ?_
  simp only [go_sem]
  refine Ae (fun c2=>?_) (fun c2=>?_)
  .simp only [go_sem]
   refine Ac.f (Dp _ _ _ _) ?_
   simp only [go_sem]
   refine loop (fun p:Int×Nat×Nat=>⟨[(2,.bx m 0),(3,.bx (m+1) 0),(5,.i .i64 p.1),(6,.i .i64 p.2.1)],(m+1,.bx [.i .i64 b.k,.i .i64 b.n,.s b.s,.ds (Ab Ar b.items),.ds (Bd b.keys)])::(m,.bx [.i .i64 a.k,.i .i64 a.n,.s a.s,.ds (Ab Ar a.items),.ds (Bd a.keys)])::hp,p.2.2⟩)
    (fun p=>m+2<=p.2.2∧VI a b p.1 p.2.1) (fun p=>a.items.length+1 - p.2.1) (cs a.s b.s,0,m+2) ?_ ?_ (fun ⟨c,j,n⟩ hj=>?_)
   .refine ⟨by dsimp only;omega,?_⟩
    clear hf
    grind [VI]
   .refine Di ?_
    simp only [go_sem]
   dsimp only at hj
   simp only [go_sem]
   refine Ae (fun d=>?_) (fun d=>?_)
   .have d:c=0:=by simpa using d
    obtain ⟨hn,Cg,Bc,As⟩:=hj
    obtain ⟨Ct,Dh,As⟩:=As d
    simp only [go_sem]
    refine Ae (fun d1=>?_) (fun d1=>?_)
    .simp only [go_sem]
     refine Ac.f (Ih _ _ _ _) ?_
     simp only [go_sem]
     rw [As]
     rcases z14 j a.items.length with q | q
     .have q2:j=b.items.length:=by simp at d1;omega
      have hx:∃x,a.items[j]?=some x:=⟨a.items[j],by simp [q]⟩
      obtain ⟨x,ex⟩:=hx
      rw [A2 ex,q2,zll,Hy]
     .have q2:j=a.items.length:=by omega
      rw [q2,zll,Hy]
    .have q1:j<a.items.length:=by simp at d1;omega
     have q2:j<b.items.length:=by simp at d1;omega
     obtain ⟨x,ex⟩:∃x,a.items[j]?=some x:=⟨a.items[j],by simp [q1]⟩
     obtain ⟨y,ey⟩:∃y,b.items[j]?=some y:=⟨b.items[j],by simp [q2]⟩
     rw [A2 ex,A2 ey,Hy] at As
     simp only [z4i] at As
     simp only [go_sem]
     first | refine Aq.f (fun _ _ _=>Eo a j _ _) ?_ | refine AC.f (fun _ _ _=>Eo a j _ _) ?_
     simp only [go_sem]
     first | refine Aq.f (fun _ _ _=>Eo b j _ _) ?_ | refine AC.f (fun _ _ _=>Eo b j _ _) ?_
     simp only [go_sem]
     first | refine Aq.f (fun _ _ _=>Dp _ _ _ _) ?_ | refine AC.f (fun _ _ _=>Dp _ _ _ _) ?_
     simp only [go_sem]
     refine Ae (fun d2=>?_) (fun d2=>?_)
     .have d2:cs ((a.keys.drop j).headD ⟨#[]⟩) ((b.keys.drop j).headD ⟨#[]⟩)=0:=by simpa using d2
      simp only [q1,q2,Ad (Aa Ar ex),Ad (Aa Ar ey),go_sem]
      first | refine Aq.f (fun _ _ _=>h x (zla ex) y (zla ey) _ _) ?_ | refine AC.f (fun _ _ _=>h x (zla ex) y (zla ey) _ _) ?_
      simp only [go_sem]
      refine ⟨(FV x y,j+1,_),?_,?_,Di ?_⟩
      .clear hf
       refine ⟨by dsimp only;omega,?_⟩
       grind [VI]
      .dsimp only;omega
      .simp only [Ap j (by omega),go_sem]
     .have d2:¬cs ((a.keys.drop j).headD ⟨#[]⟩) ((b.keys.drop j).headD ⟨#[]⟩)=0:=by simpa using d2
      simp only [go_sem]
      refine ⟨(cs ((a.keys.drop j).headD ⟨#[]⟩) ((b.keys.drop j).headD ⟨#[]⟩),j+1,_),?_,?_,Di ?_⟩
      .clear hf
       refine ⟨by dsimp only;omega,?_⟩
       grind [VI]
      .dsimp only;omega
      .simp only [Ap j (by omega),go_sem]
   .have d:c≠0:=by simpa using d
    obtain ⟨hn,Cg,Bc,As⟩:=hj
    simp only [go_sem]
    rw [Bc d]
  .simp only [c2,go_sem]
   refine loop (fun p:Int×Nat×Nat=>⟨[(2,.bx m 0),(3,.bx (m+1) 0),(5,.i .i64 p.1),(6,.i .i64 p.2.1)],(m+1,.bx [.i .i64 b.k,.i .i64 b.n,.s b.s,.ds (Ab Ar b.items),.ds (Bd b.keys)])::(m,.bx [.i .i64 a.k,.i .i64 a.n,.s a.s,.ds (Ab Ar a.items),.ds (Bd a.keys)])::hp,p.2.2⟩)
    (fun p=>m+2<=p.2.2∧VI a b p.1 p.2.1) (fun p=>a.items.length+1 - p.2.1) (ci a.n b.n,0,m+2) ?_ ?_ (fun ⟨c,j,n⟩ hj=>?_)
   .refine ⟨by dsimp only;omega,?_⟩
    clear hf
    grind [VI]
   .refine Di ?_
    simp only [go_sem]
   dsimp only at hj
   simp only [go_sem]
   refine Ae (fun d=>?_) (fun d=>?_)
   .have d:c=0:=by simpa using d
    obtain ⟨hn,Cg,Bc,As⟩:=hj
    obtain ⟨Ct,Dh,As⟩:=As d
    simp only [go_sem]
    refine Ae (fun d1=>?_) (fun d1=>?_)
    .simp only [go_sem]
     refine Ac.f (Ih _ _ _ _) ?_
     simp only [go_sem]
     rw [As]
     rcases z14 j a.items.length with q | q
     .have q2:j=b.items.length:=by simp at d1;omega
      have hx:∃x,a.items[j]?=some x:=⟨a.items[j],by simp [q]⟩
      obtain ⟨x,ex⟩:=hx
      rw [A2 ex,q2,zll,Hy]
     .have q2:j=a.items.length:=by omega
      rw [q2,zll,Hy]
    .have q1:j<a.items.length:=by simp at d1;omega
     have q2:j<b.items.length:=by simp at d1;omega
     obtain ⟨x,ex⟩:∃x,a.items[j]?=some x:=⟨a.items[j],by simp [q1]⟩
     obtain ⟨y,ey⟩:∃y,b.items[j]?=some y:=⟨b.items[j],by simp [q2]⟩
     rw [A2 ex,A2 ey,Hy] at As
     simp only [z4i] at As
     simp only [go_sem]
     first | refine Aq.f (fun _ _ _=>Eo a j _ _) ?_ | refine AC.f (fun _ _ _=>Eo a j _ _) ?_
     simp only [go_sem]
     first | refine Aq.f (fun _ _ _=>Eo b j _ _) ?_ | refine AC.f (fun _ _ _=>Eo b j _ _) ?_
     simp only [go_sem]
     first | refine Aq.f (fun _ _ _=>Dp _ _ _ _) ?_ | refine AC.f (fun _ _ _=>Dp _ _ _ _) ?_
     simp only [go_sem]
     refine Ae (fun d2=>?_) (fun d2=>?_)
     .have d2:cs ((a.keys.drop j).headD ⟨#[]⟩) ((b.keys.drop j).headD ⟨#[]⟩)=0:=by simpa using d2
      simp only [q1,q2,Ad (Aa Ar ex),Ad (Aa Ar ey),go_sem]
      first | refine Aq.f (fun _ _ _=>h x (zla ex) y (zla ey) _ _) ?_ | refine AC.f (fun _ _ _=>h x (zla ex) y (zla ey) _ _) ?_
      simp only [go_sem]
      refine ⟨(FV x y,j+1,_),?_,?_,Di ?_⟩
      .clear hf
       refine ⟨by dsimp only;omega,?_⟩
       grind [VI]
      .dsimp only;omega
      .simp only [Ap j (by omega),go_sem]
     .have d2:¬cs ((a.keys.drop j).headD ⟨#[]⟩) ((b.keys.drop j).headD ⟨#[]⟩)=0:=by simpa using d2
      simp only [go_sem]
      refine ⟨(cs ((a.keys.drop j).headD ⟨#[]⟩) ((b.keys.drop j).headD ⟨#[]⟩),j+1,_),?_,?_,Di ?_⟩
      .clear hf
       refine ⟨by dsimp only;omega,?_⟩
       grind [VI]
      .dsimp only;omega
      .simp only [Ap j (by omega),go_sem]
   .have d:c≠0:=by simpa using d
    obtain ⟨hn,Cg,Bc,As⟩:=hj
    simp only [go_sem]
    rw [Bc d]
 .simp only [c1,go_sem]
  refine loop (fun p:Int×Nat×Nat=>⟨[(2,.bx m 0),(3,.bx (m+1) 0),(5,.i .i64 p.1),(6,.i .i64 p.2.1)],(m+1,.bx [.i .i64 b.k,.i .i64 b.n,.s b.s,.ds (Ab Ar b.items),.ds (Bd b.keys)])::(m,.bx [.i .i64 a.k,.i .i64 a.n,.s a.s,.ds (Ab Ar a.items),.ds (Bd a.keys)])::hp,p.2.2⟩)
   (fun p=>m+2<=p.2.2∧VI a b p.1 p.2.1) (fun p=>a.items.length+1 - p.2.1) (ci a.k b.k,0,m+2) ?_ ?_ (fun ⟨c,j,n⟩ hj=>?_)
  .refine ⟨by dsimp only;omega,?_⟩
   clear hf
   grind [VI]
  .refine Di ?_
   simp only [go_sem]
  dsimp only at hj
  simp only [go_sem]
  refine Ae (fun d=>?_) (fun d=>?_)
  .have d:c=0:=by simpa using d
   obtain ⟨hn,Cg,Bc,As⟩:=hj
   obtain ⟨Ct,Dh,As⟩:=As d
   simp only [go_sem]
   refine Ae (fun d1=>?_) (fun d1=>?_)
   .simp only [go_sem]
    refine Ac.f (Ih _ _ _ _) ?_
    simp only [go_sem]
    rw [As]
    rcases z14 j a.items.length with q | q
    .have q2:j=b.items.length:=by simp at d1;omega
     have hx:∃x,a.items[j]?=some x:=⟨a.items[j],by simp [q]⟩
     obtain ⟨x,ex⟩:=hx
     rw [A2 ex,q2,zll,Hy]
    .have q2:j=a.items.length:=by omega
     rw [q2,zll,Hy]
   .have q1:j<a.items.length:=by simp at d1;omega
    have q2:j<b.items.length:=by simp at d1;omega
    obtain ⟨x,ex⟩:∃x,a.items[j]?=some x:=⟨a.items[j],by simp [q1]⟩
    obtain ⟨y,ey⟩:∃y,b.items[j]?=some y:=⟨b.items[j],by simp [q2]⟩
    rw [A2 ex,A2 ey,Hy] at As
    simp only [z4i] at As
    simp only [go_sem]
    first | refine Aq.f (fun _ _ _=>Eo a j _ _) ?_ | refine AC.f (fun _ _ _=>Eo a j _ _) ?_
    simp only [go_sem]
    first | refine Aq.f (fun _ _ _=>Eo b j _ _) ?_ | refine AC.f (fun _ _ _=>Eo b j _ _) ?_
    simp only [go_sem]
    first | refine Aq.f (fun _ _ _=>Dp _ _ _ _) ?_ | refine AC.f (fun _ _ _=>Dp _ _ _ _) ?_
    simp only [go_sem]
    refine Ae (fun d2=>?_) (fun d2=>?_)
    .have d2:cs ((a.keys.drop j).headD ⟨#[]⟩) ((b.keys.drop j).headD ⟨#[]⟩)=0:=by simpa using d2
     simp only [q1,q2,Ad (Aa Ar ex),Ad (Aa Ar ey),go_sem]
     first | refine Aq.f (fun _ _ _=>h x (zla ex) y (zla ey) _ _) ?_ | refine AC.f (fun _ _ _=>h x (zla ex) y (zla ey) _ _) ?_
     simp only [go_sem]
     refine ⟨(FV x y,j+1,_),?_,?_,Di ?_⟩
     .clear hf
      refine ⟨by dsimp only;omega,?_⟩
      grind [VI]
     .dsimp only;omega
     .simp only [Ap j (by omega),go_sem]
    .have d2:¬cs ((a.keys.drop j).headD ⟨#[]⟩) ((b.keys.drop j).headD ⟨#[]⟩)=0:=by simpa using d2
     simp only [go_sem]
     refine ⟨(cs ((a.keys.drop j).headD ⟨#[]⟩) ((b.keys.drop j).headD ⟨#[]⟩),j+1,_),?_,?_,Di ?_⟩
     .clear hf
      refine ⟨by dsimp only;omega,?_⟩
      grind [VI]
     .dsimp only;omega
     .simp only [Ap j (by omega),go_sem]
  .have d:c≠0:=by simpa using d
   obtain ⟨hn,Cg,Bc,As⟩:=hj
   simp only [go_sem]
   rw [Bc d]
theorem Aeb (a b:Ag) (ha:a.Fit) (hb:b.Fit) (hp:CH) (m:Nat):Af prog 34 hp m [vx a,vx b] (.i .i64 (FV a b)):=by
 have:=Ag.ind (Q:=fun a=>a.Fit->∀b,b.Fit->∀hp m,Af prog 34 hp m [vx a,vx b] (.i .i64 (FV a b))) (fun a ih ha b hb hp m=>Adb a b ha hb (fun x hx y hy=>ih x hx (ha.x hx) y (hb.x hy)) hp m) a
 exact this ha b hb hp m
theorem Ij (a b:Ag) (ha:a.Fit) (hb:b.Fit) (hp:CH) (m:Nat):Af prog 11 hp m [vx a,vx b] (.b (decide (FV a b=0))):=by
 refine Aj func11 (tA cc11) (tB cc11) (tC cc11) rfl fun hf=>?_;unfold ck11
 simp only [go_sem]
 refine Ac.f (Aeb a b ha hb _ _) ?_
 simp only [go_sem]
