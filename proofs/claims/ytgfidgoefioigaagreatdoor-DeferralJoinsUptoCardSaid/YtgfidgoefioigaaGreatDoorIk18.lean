/- Proof. Conditions: none. -/
import Derived.Test.YtgfidgoefioigaaGreatDoorIk17
noncomputable section
open List renaming tail_drop->z4n
open Nat renaming lt_or_ge->z17
open Go.Proofs.Tryz
open List renaming mem_of_getElem?->zla,drop_length->zll
open Nat renaming le_refl->zna
namespace Go.Proofs.YtgfidgoefioigaaGreatDoor
open Go.Eng
set_option linter.all false
set_option maxRecDepth 20000
inductive GS where
 | mk (n:qB) (v:Ag)
def GS.n:GS->qB | .mk n _=>n
theorem GS.n_mk (n:qB) (v:Ag):(GS.mk n v).n=n:=rfl
def GS.v:GS->Ag | .mk _ v=>v
theorem GS.v_mk (n:qB) (v:Ag):(GS.mk n v).v=v:=rfl
theorem GS.ext {x y:GS} (h0:x.n=y.n) (h1:x.v=y.v):x=y:=by cases x;cases y;simp only [GS.n_mk,GS.v_mk] at *;simp [*]
attribute [go_sem] GS.n_mk GS.v_mk
attribute [grind =] GS.n_mk GS.v_mk
attribute [ext] GS.ext
attribute [grind ext] GS.ext
def B7 (x:GS):List AV:=[.s x.n,.i .i64 x.v.k,.i .i64 x.v.n,.s x.v.s,.ds (Ab Aw x.v.items),.ds (Bq x.v.keys)]
inductive Pk where
 | mk (key on name:qB) (args:List GS) (tn:qB) (tw:List Int) (label:qB) (initial:Int) (picks:List Pk)
def Pk.key:Pk->qB | .mk x _ _ _ _ _ _ _ _=>x
def Pk.on:Pk->qB | .mk _ x _ _ _ _ _ _ _=>x
def Pk.name:Pk->qB | .mk _ _ x _ _ _ _ _ _=>x
def Pk.args:Pk->List GS | .mk _ _ _ x _ _ _ _ _=>x
def Pk.tn:Pk->qB | .mk _ _ _ _ x _ _ _ _=>x
def Pk.tw:Pk->List Int | .mk _ _ _ _ _ x _ _ _=>x
def Pk.label:Pk->qB | .mk _ _ _ _ _ _ x _ _=>x
def Pk.initial:Pk->Int | .mk _ _ _ _ _ _ _ x _=>x
def Pk.picks:Pk->List Pk | .mk _ _ _ _ _ _ _ _ x=>x
mutual
def Bi:Pk->List AV
 | .mk k o n a tn tw l i p=>[.s k,.s o,.s n,.ds (Ab B7 a),.s tn,.ds (Ab D2 tw),.s l,.i .i64 i,.ds (ZH p)]
def ZH:List Pk->List (List AV)
 | []=>[]
 |p::r=>Bi p::ZH r
end
theorem Y7 (l:List Pk):ZH l=Ab Bi l:=by
 induction l with
 |nil=>rfl
 |cons v l ih=>rw [ZH,BX,ih]
theorem Ch (p:Pk):Bi p=[.s p.key,.s p.on,.s p.name,.ds (Ab B7 p.args),.s p.tn,.ds (Ab D2 p.tw),.s p.label,.i .i64 p.initial,.ds (Ab Bi p.picks)]:=by
 cases p
 rw [Bi,Y7]
 rfl
attribute [go_sem] Ch
theorem Pk.picks_lt (v x:Pk) (h:x∈v.picks):SizeOf.sizeOf x<SizeOf.sizeOf v:=by
 cases v
 have:=List.sizeOf_lt_of_mem h
 simp only [Pk.picks] at this
 simp
 omega
theorem Pk.ind {Q:Pk->Prop} (h:∀v,(∀x∈v.picks,Q x)->Q v) (v:Pk):Q v:=h v fun x hx=>Pk.ind h x
termination_by SizeOf.sizeOf v
decreasing_by exact Pk.picks_lt v x hx
mutual
def IL:Pk->Nat
 | .mk _ _ _ _ _ _ _ _ p=>1+A5 p
def A5:List Pk->Nat
 | []=>0
 |p::r=>IL p+A5 r
end
theorem Ci (p:Pk):IL p=1+A5 p.picks:=by cases p;rw [IL];rfl
theorem DP {x:Pk}:∀{l:List Pk},x∈l->IL x<=A5 l
 |y::r,h=>by
  rw [A5]
  rcases List.mem_cons.1 h with rfl | h
  .omega
  .have:=DP h
   omega
theorem Ew:∀l:List Pk,l.length<=A5 l
 | []=>by simp
 |y::r=>by
  have:=Ew r
  have:=Ci y
  rw [A5]
  simp
  omega
theorem Qp (l:List qB) (h:l.length*16<=140737488355327) (hp:CH) (m:Nat):Ae prog 75 hp m [.ds (Bq l)] (.ds (Bq l)):=by
 refine Al func75 (tA cc75) (tB cc75) (tC cc75) rfl fun hf=>?_;unfold ck75
 simp only [go_sem]
 exact ⟨fun e=>by rw [e],by omega,by omega⟩
theorem UD (l:List Ag) (hl:l.length*80<=140737488355327) (h:∀x∈l,∀hp m,Ae prog 38 hp m [vx x] (vx x)) (hp:CH) (m:Nat) :
 Ae prog 74 hp m [.ds (Ab Aw l)] (.ds (Ab Aw l)):=by
 refine Al func74 (tA cc74) (tB cc74) (tC cc74) rfl fun hf=>?_;unfold ck74
 simp only [go_sem]
 refine loop (fun p:Nat×Nat=>⟨[(3,.rw m p.1 p.1),(6,.ds (Ab Aw l)),(7,.i .i64 l.length),(8,.i .i64 p.1)],(m,.rw p.1 5 (Ab Aw (l.take p.1)))::hp,p.2⟩) (fun p=>p.1<=l.length∧m+1<=p.2) (fun p=>l.length - p.1) (0,m+1) ?_ ?_ (fun ⟨j,n⟩ hj=>?_)
 .grind
 .refine (By (t:=3) (m:=5) ?_).trans (Fo hf ?_ ?_ ?_ (zna _))
  all_goals simp only [go_sem]
 dsimp only at hj
 have B1:n≠m:=by omega
 have EV:m≠n:=by omega
 have BD:m<=n:=by omega
 simp only [B1,EV,BD,go_sem]
 refine Af (fun c=>?_) (fun c=>?_)
 .have c:j<l.length:=by simpa using c
  obtain ⟨x,ex⟩:∃x,l[j]?=some x:=⟨l[j],by simp [c]⟩
  have hx:=h x (zla ex)
  have ht:(l.take j).length=j:=by simp;omega
  simp only [B1,EV,BD,c,Ad (Aa Aw ex),go_sem]
  refine Ac.f (hx _ _) ?_
  simp only [B1,EV,BD,ht,go_sem]
  refine ⟨by omega,by omega,(j+1,n+1),by dsimp only;omega,by dsimp only;omega,Fo hf ?_ ?_ ?_ (zna _)⟩
  all_goals
   simp only [BD,go_sem]
  .exact congrArg _ (Ao j (by omega))
  .rw [Bc ex]
 .have c:j=l.length:=by simp at c;omega
  subst c
  simp only [B1,EV,BD,go_sem]
  try simp
theorem Abj (v:Ag) (hv:v.keys.length*16<=140737488355327) (h:∀hp m,Ae prog 74 hp m [.ds (Ab Aw v.items)] (.ds (Ab Aw v.items))) (hp:CH) (m:Nat):Ae prog 38 hp m [vx v] (vx v):=by
 refine Al func38 (tA cc38) (tB cc38) (tC cc38) rfl fun hf=>?_;unfold ck38
 simp only [go_sem]
 refine Ac.f (h _ _) ?_
 simp only [go_sem]
 refine Ac.f (Qp v.keys hv _ _) ?_
 simp only [go_sem]
theorem FG (v:Ag) (hv:v.Fit) (hp:CH) (m:Nat):Ae prog 38 hp m [vx v] (vx v):=by
 have:=Ag.ind (Q:=fun v=>v.Fit->∀hp m,Ae prog 38 hp m [vx v] (vx v)) (fun v ih hv hp m=>Abj v hv.l (UD v.items hv.i fun x hx=>ih x hx (hv.x hx)) hp m) v
 exact this hv hp m
theorem QH (l:List Ag) (hl:l.length*80<=140737488355327) (h:∀x∈l,∀hp m,Ae prog 40 hp m [vx x] (vx x)) (hp:CH) (m:Nat) :
 Ae prog 71 hp m [.ds (Ab Aw l)] (.ds (Ab Aw l)):=by
 refine Al func71 (tA cc71) (tB cc71) (tC cc71) rfl fun hf=>?_;unfold ck71
 simp only [go_sem]
 refine loop (fun p:Nat×Nat=>⟨[(3,.rw m p.1 p.1),(0,.ds (Ab Aw l)),(4,.i .i64 p.1)],(m,.rw p.1 5 (Ab Aw (l.take p.1)))::hp,p.2⟩) (fun p=>p.1<=l.length∧m+1<=p.2) (fun p=>l.length - p.1) (0,m+1) ?_ ?_ (fun ⟨j,n⟩ hj=>?_)
 .grind
 .refine (By (t:=3) (m:=5) ?_).trans (Fo hf ?_ ?_ ?_ (zna _))
  all_goals simp only [go_sem]
 dsimp only at hj
 have B1:n≠m:=by omega
 have EV:m≠n:=by omega
 have BD:m<=n:=by omega
 simp only [B1,EV,BD,go_sem]
 refine Af (fun c=>?_) (fun c=>?_)
 .have c:j<l.length:=by simpa using c
  obtain ⟨x,ex⟩:∃x,l[j]?=some x:=⟨l[j],by simp [c]⟩
  have hx:=h x (zla ex)
  have ht:(l.take j).length=j:=by simp;omega
  simp only [B1,EV,BD,c,Ad (Aa Aw ex),go_sem]
  refine Ac.f (hx _ _) ?_
  simp only [B1,EV,BD,ht,go_sem]
  refine ⟨by omega,by omega,(j+1,n),by dsimp only;omega,by dsimp only;omega,Fo hf ?_ ?_ ?_ (zna _)⟩
  all_goals
   simp only [BD,go_sem]
  .exact congrArg _ (Ao j (by omega))
  .rw [Bc ex]
 .have c:j=l.length:=by simp at c;omega
  subst c
  simp only [B1,EV,BD,go_sem]
  try simp
theorem WR (v:Ag) (hv:v.keys.length*16<=140737488355327) (h:∀hp m,Ae prog 71 hp m [.ds (Ab Aw v.items)] (.ds (Ab Aw v.items))) (hp:CH) (m:Nat):Ae prog 40 hp m [vx v] (vx v):=by
 refine Al func40 (tA cc40) (tB cc40) (tC cc40) rfl fun hf=>?_;unfold ck40
 simp only [go_sem]
 first | refine Au.f (fun _ _ _=>h _ _) ?_ | refine AJ.f (fun _ _ _=>h _ _) ?_
 simp only [go_sem]
 omega
theorem OQ (v:Ag) (hv:v.Fit) (hp:CH) (m:Nat):Ae prog 40 hp m [vx v] (vx v):=by
 have:=Ag.ind (Q:=fun v=>v.Fit->∀hp m,Ae prog 40 hp m [vx v] (vx v)) (fun v ih hv hp m=>WR v hv.l (QH v.items hv.i fun x hx=>ih x hx (hv.x hx)) hp m) v
 exact this hv hp m
theorem Ii (l:List qB) (k:qB) (hl:l.length<=9223372036854775806) (hp:CH) (m:Nat):Ae prog 94 hp m [.ds (Bq l),.s k] (.i .i64 (ix k l 0)):=by
 refine Al func94 (tA cc94) (tB cc94) (tC cc94) rfl fun hf=>?_;unfold ck94
 simp only [go_sem]
 refine loop (fun p:Nat×Nat=>⟨[(0,.ds (Bq l)),(1,.s k),(7,.i .i64 l.length),(8,.i .i64 p.1)],hp,p.2⟩) (fun p=>p.1<=l.length∧ix k l 0=ix k (l.drop p.1) p.1) (fun p=>l.length - p.1) (0,m) ?_ ?_ (fun ⟨j,n⟩ hj=>?_)
 .grind
 .refine Dd ?_
  simp only [go_sem]
 dsimp only at hj
 simp only [go_sem]
 refine Af (fun c=>?_) (fun c=>?_)
 .have c:j<l.length:=by simpa using c
  obtain ⟨x,ex⟩:∃x,l[j]?=some x:=⟨l[j],by simp [c]⟩
  have e:=A2 ex
  rw [e,ix] at hj
  simp only [c,Ad (Aa C3 ex),go_sem]
  refine Af (fun c1=>?_) (fun c1=>?_)
  .have c1:k=x:=by simpa using c1
   simp only [go_sem]
   rw [hj.2,iP c1]
  .have c1:¬k=x:=by simpa using c1
   rw [iN c1] at hj
   simp only [go_sem]
   refine ⟨(j+1,n),by dsimp only;omega,by dsimp only;omega,Dd ?_⟩
   simp only [Ao j (by omega),go_sem]
 .have c:j=l.length:=by simp at c;omega
  subst c
  rw [zll,ix] at hj
  simp only [go_sem]
  rw [hj.2]
theorem IZ (l:List qB) (k:qB) (hl:l.length<=9223372036854775806) (hp:CH) (m:Nat):Ae prog 52 hp m [.ds (Bq l),.s k] (.b (decide (0<=ix k l 0))):=by
 refine Al func52 (tA cc52) (tB cc52) (tC cc52) rfl fun hf=>?_;unfold ck52
 simp only [go_sem]
 refine Ac.f (Ii l k hl _ _) ?_
 simp only [go_sem]
mutual
def Vm:Ag->Int
 | .mk _ _ _ i _=>szL i 1
def szL:List Ag->Int->Int
 | [],n=>n
 |x::r,n=>szL r (IntKind.i64.wrap (n+Vm x))
end
theorem Adk (v:Ag):Vm v=szL v.items 1:=by cases v;rw [Vm];rfl
theorem ZF (v:Ag) (h3:v.items.length*80<=140737488355327) (h:∀x∈v.items,∀hp m,Ae prog 21 hp m [vx x] (.i .i64 (Vm x))) (hp:CH) (m:Nat):Ae prog 21 hp m [vx v] (.i .i64 (Vm v)):=by
 refine Al func21 (tA cc21) (tB cc21) (tC cc21) rfl fun hf=>?_;unfold ck21
 simp only [go_sem]
 refine loop (fun p:Nat×Int×Nat=>⟨[(1,.bx m 0),(3,.i .i64 p.2.1),(4,.i .i64 p.1)],(m,.bx [.i .i64 v.k,.i .i64 v.n,.s v.s,.ds (Ab Aw v.items),.ds (Bq v.keys)])::hp,p.2.2⟩)
  (fun p=>p.1<=v.items.length∧m+1<=p.2.2∧Vm v=szL (v.items.drop p.1) p.2.1) (fun p=>v.items.length - p.1) (0,1,m+1) ?_ ?_ (fun ⟨j,a,n⟩ hj=>?_)
 .exact ⟨by dsimp only;omega,by dsimp only;omega,by rw [Adk];rfl⟩
 .refine Dd ?_
  simp only [go_sem]
 dsimp only at hj
 simp only [go_sem]
 refine Af (fun d=>?_) (fun d=>?_)
 .have d:j<v.items.length:=by simpa using d
  obtain ⟨x,ex⟩:∃x,v.items[j]?=some x:=⟨v.items[j],by simp [d]⟩
  have hx:=h x (zla ex)
  have e:=A2 ex
  rw [e,szL] at hj
  simp only [d,Ad (Aa Aw ex),go_sem]
  refine Ac.f (hx _ _) ?_
  simp only [go_sem]
  refine ⟨(j+1,IntKind.i64.wrap (a+Vm x),n),by dsimp only;exact ⟨by omega,by omega,hj.2.2⟩,by dsimp only;omega,Dd ?_⟩
  simp only [Ao j (by omega),go_sem]
 .have d:j=v.items.length:=by simp at d;omega
  subst d
  rw [zll,szL] at hj
  simp only [go_sem]
  rw [hj.2.2]
theorem Nt (v:Ag) (hv:v.Fit) (hp:CH) (m:Nat):Ae prog 21 hp m [vx v] (.i .i64 (Vm v)):=by
 have:=Ag.ind (Q:=fun v=>v.Fit->∀hp m,Ae prog 21 hp m [vx v] (.i .i64 (Vm v))) (fun v ih hv hp m=>ZF v hv.i (fun x hx=>ih x hx (hv.x hx)) hp m) v
 exact this hv hp m
def ci (a b:Int):Int:=if a<b then -1 else if b<a then 1 else 0
def cs (a b:qB):Int:=if Op.bytesLess a.toList b.toList=true then -1 else if (!(Op.bytesLess a.toList b.toList||decide (a=b)))=true then 1 else 0
theorem HK (a b:Int) (hp:CH) (m:Nat):Ae prog 68 hp m [.i .i64 a,.i .i64 b] (.i .i64 (ci a b)):=by
 refine Al func68 (tA cc68) (tB cc68) (tC cc68) rfl fun hf=>?_;unfold ck68
 simp only [go_sem]
 repeat' (first
  | ((with_reducible refine Af (fun _=>?_) (fun _=>?_))<;>(try simp only [go_sem]))
  | ((with_reducible refine II (fun _=>?_) (fun _=>?_))<;>(try simp only [go_sem]))
  | ((with_reducible refine AH.s (J5 (fun _=>?_) (fun _=>?_)))<;>(try simp only [go_sem]))
  | ((with_reducible refine G2.m ?_ (fun _ _=>?_));rotate_left;try simp only [go_sem])
  |exact HZ (fun _=>rfl)
  |exact GN (fun _=>⟨rfl,rfl⟩)
  | with_reducible refine And.intro ?_ ?_)
 all_goals clear hf
 all_goals grind [ci]
theorem De (a b:qB) (hp:CH) (m:Nat):Ae prog 69 hp m [.s a,.s b] (.i .i64 (cs a b)):=by
 refine Al func69 (tA cc69) (tB cc69) (tC cc69) rfl fun hf=>?_;unfold ck69
 simp only [go_sem]
 repeat' (first
  | ((with_reducible refine Af (fun _=>?_) (fun _=>?_))<;>(try simp only [go_sem]))
  | ((with_reducible refine II (fun _=>?_) (fun _=>?_))<;>(try simp only [go_sem]))
  | ((with_reducible refine AH.s (J5 (fun _=>?_) (fun _=>?_)))<;>(try simp only [go_sem]))
  | ((with_reducible refine G2.m ?_ (fun _ _=>?_));rotate_left;try simp only [go_sem])
  |exact HZ (fun _=>rfl)
  |exact GN (fun _=>⟨rfl,rfl⟩)
  | with_reducible refine And.intro ?_ ?_)
 all_goals clear hf
 all_goals grind [cs]
theorem DY (v:Ag) (j:Nat) (hp:CH) (m:Nat):Ae prog 70 hp m [vx v,.i .i64 j] (.s ((v.keys.drop j).headD ⟨#[]⟩)):=by
 refine Al func70 (tA cc70) (tB cc70) (tC cc70) rfl fun hf=>?_;unfold ck70
 simp only [go_sem]
 refine Af (fun d=>?_) (fun d=>?_)
 .have d:j<v.keys.length:=by simpa using d
  obtain ⟨x,ex⟩:∃x,v.keys[j]?=some x:=⟨v.keys[j],by simp [d]⟩
  simp only [d,Ad (Aa C3 ex),go_sem]
  rw [A2 ex]
  rfl
 .have d:v.keys.length<=j:=by simp at d;omega
  simp only [go_sem]
  rw [List.drop_eq_nil_of_le d]
  rfl
mutual
def FD:Ag->Ag->Int
 | .mk k n s i l,b=>if ci k b.k≠0 then ci k b.k else if ci n b.n≠0 then ci n b.n else if cs s b.s≠0 then cs s b.s else Hb i b.items l b.keys i.length b.items.length
def Hb:List Ag->List Ag->List qB->List qB->Nat->Nat->Int
 | [],_,_,_,n,m=>ci n m
 |_::_,[],_,_,n,m=>ci n m
 |x::r,y::r',l,l',n,m=>if cs (l.headD ⟨#[]⟩) (l'.headD ⟨#[]⟩)≠0 then cs (l.headD ⟨#[]⟩) (l'.headD ⟨#[]⟩) else if FD x y≠0 then FD x y else Hb r r' l.tail l'.tail n m
end
theorem Sy (a b:Ag):FD a b=if ci a.k b.k≠0 then ci a.k b.k else if ci a.n b.n≠0 then ci a.n b.n else if cs a.s b.s≠0 then cs a.s b.s else Hb a.items b.items a.keys b.keys a.items.length b.items.length:=by
 cases a;rw [FD];rfl
theorem ND (a:Int):ci a a=0:=by simp [ci]
theorem Iv:∀l:List UInt8,Op.bytesLess l l=false
 | []=>rfl
 |a::l=>by simp [Op.bytesLess,Iv l]
theorem Tn (a:qB):cs a a=0:=by simp [cs,Iv]
theorem LQ:∀(l:List Ag),(∀x∈l,FD x x=0)->∀(k:List qB) (n:Nat),Hb l l k k n n=0
 | [],_,k,n=>by rw [Hb,ND]
 |x::r,h,k,n=>by
  rw [Hb,Tn,h x (by simp)]
  simp only [ne_eq,not_true_eq_false,↓reduceIte]
  exact LQ r (fun y hy=>h y (by simp [hy])) _ _
theorem UI (v:Ag):FD v v=0:=by
 refine Ag.ind (Q:=fun v=>FD v v=0) (fun v ih=>?_) v
 rw [Sy,ND,ND,Tn]
 simp only [ne_eq,not_true_eq_false,↓reduceIte]
 exact LQ _ ih _ _
def Vj (a b:Ag) (c:Int) (j:Nat):Prop:=j<=a.items.length+1∧(c≠0->FD a b=c)∧(c=0->j<=a.items.length∧j<=b.items.length∧FD a b=Hb (a.items.drop j) (b.items.drop j) (a.keys.drop j) (b.keys.drop j) a.items.length b.items.length)
theorem Acx (a b:Ag) (ha:a.Fit) (hb:b.Fit) (h:∀x∈a.items,∀y∈b.items,∀hp m,Ae prog 34 hp m [vx x,vx y] (.i .i64 (FD x y))) (hp:CH) (m:Nat) :
 Ae prog 34 hp m [vx a,vx b] (.i .i64 (FD a b)):=by
 have h1:=ha.i
 have h2:=hb.i
 have e:=Sy a b
 refine Al func34 (tA cc34) (tB cc34) (tC cc34) rfl fun hf=>?_;unfold ck34
 simp only [go_sem]
 refine Ac.f (HK _ _ _ _) ?_
 simp only [go_sem]
 refine Af (fun c1=>?_) (fun c1=>?_)
 .simp only [go_sem]
  refine Ac.f (HK _ _ _ _) ?_
  simp only [go_sem]
  refine Af (fun c2=>?_) (fun c2=>?_)
  .simp only [go_sem]
   refine Ac.f (De _ _ _ _) ?_
   simp only [go_sem]
   refine loop (fun p:Int×Nat×Nat=>⟨[(2,.bx m 0),(3,.bx (m+1) 0),(5,.i .i64 p.1),(6,.i .i64 p.2.1)],(m+1,.bx [.i .i64 b.k,.i .i64 b.n,.s b.s,.ds (Ab Aw b.items),.ds (Bq b.keys)])::(m,.bx [.i .i64 a.k,.i .i64 a.n,.s a.s,.ds (Ab Aw a.items),.ds (Bq a.keys)])::hp,p.2.2⟩)
    (fun p=>m+2<=p.2.2∧Vj a b p.1 p.2.1) (fun p=>a.items.length+1 - p.2.1) (cs a.s b.s,0,m+2) ?_ ?_ (fun ⟨c,j,n⟩ hj=>?_)
   .refine ⟨by dsimp only;omega,?_⟩
    clear hf
    grind [Vj]
   .refine Dd ?_
    simp only [go_sem]
   dsimp only at hj
   simp only [go_sem]
   refine Af (fun d=>?_) (fun d=>?_)
   .have d:c=0:=by simpa using d
    obtain ⟨hn,Cq,Be,At⟩:=hj
    obtain ⟨Cl,CU,At⟩:=At d
    simp only [go_sem]
    refine Af (fun d1=>?_) (fun d1=>?_)
    .simp only [go_sem]
     refine Ac.f (HK _ _ _ _) ?_
     simp only [go_sem]
     rw [At]
     rcases z17 j a.items.length with q | q
     .have q2:j=b.items.length:=by simp at d1;omega
      have hx:∃x,a.items[j]?=some x:=⟨a.items[j],by simp [q]⟩
      obtain ⟨x,ex⟩:=hx
      rw [A2 ex,q2,zll,Hb]
     .have q2:j=a.items.length:=by omega
      rw [q2,zll,Hb]
    .have q1:j<a.items.length:=by simp at d1;omega
     have q2:j<b.items.length:=by simp at d1;omega
     obtain ⟨x,ex⟩:∃x,a.items[j]?=some x:=⟨a.items[j],by simp [q1]⟩
     obtain ⟨y,ey⟩:∃y,b.items[j]?=some y:=⟨b.items[j],by simp [q2]⟩
     rw [A2 ex,A2 ey,Hb] at At
     simp only [z4n] at At
     simp only [go_sem]
     first | refine Au.f (fun _ _ _=>DY a j _ _) ?_ | refine AJ.f (fun _ _ _=>DY a j _ _) ?_
     simp only [go_sem]
     first | refine Au.f (fun _ _ _=>DY b j _ _) ?_ | refine AJ.f (fun _ _ _=>DY b j _ _) ?_
     simp only [go_sem]
     first | refine Au.f (fun _ _ _=>De _ _ _ _) ?_ | refine AJ.f (fun _ _ _=>De _ _ _ _) ?_
     simp only [go_sem]
     refine Af (fun d2=>?_) (fun d2=>?_)
     .have d2:cs ((a.keys.drop j).headD ⟨#[]⟩) ((b.keys.drop j).headD ⟨#[]⟩)=0:=by simpa using d2
      simp only [q1,q2,Ad (Aa Aw ex),Ad (Aa Aw ey),go_sem]
      first | refine Au.f (fun _ _ _=>h x (zla ex) y (zla ey) _ _) ?_ | refine AJ.f (fun _ _ _=>h x (zla ex) y (zla ey) _ _) ?_
      simp only [go_sem]
      refine ⟨(FD x y,j+1,_),?_,?_,Dd ?_⟩
      .clear hf
       refine ⟨by dsimp only;omega,?_⟩
       grind [Vj]
      .dsimp only;omega
      .simp only [Ao j (by omega),go_sem]
     .have d2:¬cs ((a.keys.drop j).headD ⟨#[]⟩) ((b.keys.drop j).headD ⟨#[]⟩)=0:=by simpa using d2
      simp only [go_sem]
      refine ⟨(cs ((a.keys.drop j).headD ⟨#[]⟩) ((b.keys.drop j).headD ⟨#[]⟩),j+1,_),?_,?_,Dd ?_⟩
      .clear hf
       refine ⟨by dsimp only;omega,?_⟩
       grind [Vj]
      .dsimp only;omega
      .simp only [Ao j (by omega),go_sem]
   .have d:c≠0:=by simpa using d
    obtain ⟨hn,Cq,Be,At⟩:=hj
    simp only [go_sem]
    rw [Be d]
  .simp only [c2,go_sem]
   refine loop (fun p:Int×Nat×Nat=>⟨[(2,.bx m 0),(3,.bx (m+1) 0),(5,.i .i64 p.1),(6,.i .i64 p.2.1)],(m+1,.bx [.i .i64 b.k,.i .i64 b.n,.s b.s,.ds (Ab Aw b.items),.ds (Bq b.keys)])::(m,.bx [.i .i64 a.k,.i .i64 a.n,.s a.s,.ds (Ab Aw a.items),.ds (Bq a.keys)])::hp,p.2.2⟩)
    (fun p=>m+2<=p.2.2∧Vj a b p.1 p.2.1) (fun p=>a.items.length+1 - p.2.1) (ci a.n b.n,0,m+2) ?_ ?_ (fun ⟨c,j,n⟩ hj=>?_)
   .refine ⟨by dsimp only;omega,?_⟩
    clear hf
    grind [Vj]
   .refine Dd ?_
    simp only [go_sem]
   dsimp only at hj
   simp only [go_sem]
   refine Af (fun d=>?_) (fun d=>?_)
   .have d:c=0:=by simpa using d
    obtain ⟨hn,Cq,Be,At⟩:=hj
    obtain ⟨Cl,CU,At⟩:=At d
    simp only [go_sem]
    refine Af (fun d1=>?_) (fun d1=>?_)
    .simp only [go_sem]
     refine Ac.f (HK _ _ _ _) ?_
     simp only [go_sem]
     rw [At]
     rcases z17 j a.items.length with q | q
     .have q2:j=b.items.length:=by simp at d1;omega
      have hx:∃x,a.items[j]?=some x:=⟨a.items[j],by simp [q]⟩
      obtain ⟨x,ex⟩:=hx
      rw [A2 ex,q2,zll,Hb]
     .have q2:j=a.items.length:=by omega
      rw [q2,zll,Hb]
    .have q1:j<a.items.length:=by simp at d1;omega
     have q2:j<b.items.length:=by simp at d1;omega
     obtain ⟨x,ex⟩:∃x,a.items[j]?=some x:=⟨a.items[j],by simp [q1]⟩
     obtain ⟨y,ey⟩:∃y,b.items[j]?=some y:=⟨b.items[j],by simp [q2]⟩
     rw [A2 ex,A2 ey,Hb] at At
     simp only [z4n] at At
     simp only [go_sem]
     first | refine Au.f (fun _ _ _=>DY a j _ _) ?_ | refine AJ.f (fun _ _ _=>DY a j _ _) ?_
     simp only [go_sem]
     first | refine Au.f (fun _ _ _=>DY b j _ _) ?_ | refine AJ.f (fun _ _ _=>DY b j _ _) ?_
     simp only [go_sem]
     first | refine Au.f (fun _ _ _=>De _ _ _ _) ?_ | refine AJ.f (fun _ _ _=>De _ _ _ _) ?_
     simp only [go_sem]
     refine Af (fun d2=>?_) (fun d2=>?_)
     .have d2:cs ((a.keys.drop j).headD ⟨#[]⟩) ((b.keys.drop j).headD ⟨#[]⟩)=0:=by simpa using d2
      simp only [q1,q2,Ad (Aa Aw ex),Ad (Aa Aw ey),go_sem]
      first | refine Au.f (fun _ _ _=>h x (zla ex) y (zla ey) _ _) ?_ | refine AJ.f (fun _ _ _=>h x (zla ex) y (zla ey) _ _) ?_
      simp only [go_sem]
      refine ⟨(FD x y,j+1,_),?_,?_,Dd ?_⟩
      .clear hf
       refine ⟨by dsimp only;omega,?_⟩
       grind [Vj]
      .dsimp only;omega
      .simp only [Ao j (by omega),go_sem]
     .have d2:¬cs ((a.keys.drop j).headD ⟨#[]⟩) ((b.keys.drop j).headD ⟨#[]⟩)=0:=by simpa using d2
      simp only [go_sem]
      refine ⟨(cs ((a.keys.drop j).headD ⟨#[]⟩) ((b.keys.drop j).headD ⟨#[]⟩),j+1,_),?_,?_,Dd ?_⟩
      .clear hf
       refine ⟨by dsimp only;omega,?_⟩
       grind [Vj]
      .dsimp only;omega
      .simp only [Ao j (by omega),go_sem]
   .have d:c≠0:=by simpa using d
    obtain ⟨hn,Cq,Be,At⟩:=hj
    simp only [go_sem]
    rw [Be d]
 .simp only [c1,go_sem]
  refine loop (fun p:Int×Nat×Nat=>⟨[(2,.bx m 0),(3,.bx (m+1) 0),(5,.i .i64 p.1),(6,.i .i64 p.2.1)],(m+1,.bx [.i .i64 b.k,.i .i64 b.n,.s b.s,.ds (Ab Aw b.items),.ds (Bq b.keys)])::(m,.bx [.i .i64 a.k,.i .i64 a.n,.s a.s,.ds (Ab Aw a.items),.ds (Bq a.keys)])::hp,p.2.2⟩)
   (fun p=>m+2<=p.2.2∧Vj a b p.1 p.2.1) (fun p=>a.items.length+1 - p.2.1) (ci a.k b.k,0,m+2) ?_ ?_ (fun ⟨c,j,n⟩ hj=>?_)
  .refine ⟨by dsimp only;omega,?_⟩
   clear hf
   grind [Vj]
  .refine Dd ?_
   simp only [go_sem]
  dsimp only at hj
  simp only [go_sem]
  refine Af (fun d=>?_) (fun d=>?_)
  .have d:c=0:=by simpa using d
   obtain ⟨hn,Cq,Be,At⟩:=hj
   obtain ⟨Cl,CU,At⟩:=At d
   simp only [go_sem]
   refine Af (fun d1=>?_) (fun d1=>?_)
   .simp only [go_sem]
    refine Ac.f (HK _ _ _ _) ?_
    simp only [go_sem]
    rw [At]
    rcases z17 j a.items.length with q | q
    .have q2:j=b.items.length:=by simp at d1;omega
     have hx:∃x,a.items[j]?=some x:=⟨a.items[j],by simp [q]⟩
     obtain ⟨x,ex⟩:=hx
     rw [A2 ex,q2,zll,Hb]
    .have q2:j=a.items.length:=by omega
     rw [q2,zll,Hb]
   .have q1:j<a.items.length:=by simp at d1;omega
    have q2:j<b.items.length:=by simp at d1;omega
    obtain ⟨x,ex⟩:∃x,a.items[j]?=some x:=⟨a.items[j],by simp [q1]⟩
    obtain ⟨y,ey⟩:∃y,b.items[j]?=some y:=⟨b.items[j],by simp [q2]⟩
    rw [A2 ex,A2 ey,Hb] at At
    simp only [z4n] at At
    simp only [go_sem]
    first | refine Au.f (fun _ _ _=>DY a j _ _) ?_ | refine AJ.f (fun _ _ _=>DY a j _ _) ?_
    simp only [go_sem]
    first | refine Au.f (fun _ _ _=>DY b j _ _) ?_ | refine AJ.f (fun _ _ _=>DY b j _ _) ?_
    simp only [go_sem]
    first | refine Au.f (fun _ _ _=>De _ _ _ _) ?_ | refine AJ.f (fun _ _ _=>De _ _ _ _) ?_
    simp only [go_sem]
    refine Af (fun d2=>?_) (fun d2=>?_)
    .have d2:cs ((a.keys.drop j).headD ⟨#[]⟩) ((b.keys.drop j).headD ⟨#[]⟩)=0:=by simpa using d2
     simp only [q1,q2,Ad (Aa Aw ex),Ad (Aa Aw ey),go_sem]
     first | refine Au.f (fun _ _ _=>h x (zla ex) y (zla ey) _ _) ?_ | refine AJ.f (fun _ _ _=>h x (zla ex) y (zla ey) _ _) ?_
     simp only [go_sem]
     refine ⟨(FD x y,j+1,_),?_,?_,Dd ?_⟩
     .clear hf
      refine ⟨by dsimp only;omega,?_⟩
      grind [Vj]
     .dsimp only;omega
     .simp only [Ao j (by omega),go_sem]
    .have d2:¬cs ((a.keys.drop j).headD ⟨#[]⟩) ((b.keys.drop j).headD ⟨#[]⟩)=0:=by simpa using d2
     simp only [go_sem]
     refine ⟨(cs ((a.keys.drop j).headD ⟨#[]⟩) ((b.keys.drop j).headD ⟨#[]⟩),j+1,_),?_,?_,Dd ?_⟩
     .clear hf
      refine ⟨by dsimp only;omega,?_⟩
      grind [Vj]
     .dsimp only;omega
     .simp only [Ao j (by omega),go_sem]
  .have d:c≠0:=by simpa using d
   obtain ⟨hn,Cq,Be,At⟩:=hj
   simp only [go_sem]
   rw [Be d]
theorem Adw (a b:Ag) (ha:a.Fit) (hb:b.Fit) (hp:CH) (m:Nat):Ae prog 34 hp m [vx a,vx b] (.i .i64 (FD a b)):=by
 have:=Ag.ind (Q:=fun a=>a.Fit->∀b,b.Fit->∀hp m,Ae prog 34 hp m [vx a,vx b] (.i .i64 (FD a b))) (fun a ih ha b hb hp m=>Acx a b ha hb (fun x hx y hy=>ih x hx (ha.x hx) y (hb.x hy)) hp m) a
 exact this ha b hb hp m
theorem So (a b:Ag) (ha:a.Fit) (hb:b.Fit) (hp:CH) (m:Nat):Ae prog 11 hp m [vx a,vx b] (.b (decide (FD a b=0))):=by
 refine Al func11 (tA cc11) (tB cc11) (tC cc11) rfl fun hf=>?_;unfold ck11
 simp only [go_sem]
 refine Ac.f (Adw a b ha hb _ _) ?_
 simp only [go_sem]
