/- Proof. Conditions: none. -/
import Derived.Test.YtgfidgoefioigaaGreatDoorIi18
open Go.Proofs.Tryz
open Int renaming reduceEq→Zh
open List renaming mem_of_getElem?→zla,drop_length→zll
open Nat renaming le_refl→zna
namespace Go.Proofs.YtgfidgoefioigaaGreatDoor
open Go.Eng
set_option linter.all false
set_option maxRecDepth 20000
theorem WM (l:List ByteArray) (h:l.length*16≤140737488355327) (hp:CH) (m:Nat):AQ prog 75 hp m [.ds (Bv l)] ((m,.rw 0 1 (Bv l))::hp) (m+1) (.rw m 0 l.length):=by
 refine Fy (outs:=[(1,Bv l)]) func75 (by kernel_rfl) cc75 cr75 rfl fun hf=>?_;unfold ck75
 simp only [go_sem]
 exact ⟨fun e=>⟨by simpa [Ad] using congrArg List.length e,e⟩,by omega,by omega⟩
theorem Vr (l:List Ak) (hl:l.length*80≤140737488355327) (h:∀x∈l,∀hp m,Ah prog 38 hp m [vx x] (vx x)) (hp:CH) (m:Nat) :
  AQ prog 74 hp m [.ds (Ad A2 l)] ((m,.rw 0 5 (Ad A2 l))::hp) (m+1) (.rw m 0 l.length):=by
 refine Fy (outs:=[(5,Ad A2 l)]) func74 (by kernel_rfl) cc74 cr74 rfl fun hf=>?_;unfold ck74
 simp only [go_sem]
 refine loop (fun p:Nat × Nat=>⟨[(3,.rw m p.1 p.1),(6,.ds (Ad A2 l)),(7,.i .i64 l.length),(8,.i .i64 p.1)],(m,.rw p.1 5 (Ad A2 (l.take p.1)))::hp,p.2⟩) (fun p=>p.1≤l.length∧m+1≤p.2) (fun p=>l.length - p.1) (0,m+1) ?_ ?_ (fun ⟨j,n⟩ hj=>?_)
 .grind
 .refine (B0 (t:=3) (m:=5) ?_).trans (Ac ?_ (A6.cons ?_ (A6.base hf ?_)) (zna _))
  all_goals simp only [go_sem]
 dsimp only at hj
 have B2:n≠m:=by omega
 have Gm:m≠n:=by omega
 have BO:m≤n:=by omega
 simp only [B2,Gm,BO,go_sem]
 refine Ai (fun c=>?_) (fun c=>?_)
 .have c:j<l.length:=by simpa using c
  obtain ⟨x,ex⟩:∃x,l[j]?=some x:=⟨l[j],by simp [c]⟩
  have hx:=h x (zla ex)
  have ht:(l.take j).length=j:=by simp;omega
  simp only [B2,Gm,BO,c,Ag (Ab A2 ex),go_sem]
  refine Af.f (hx _ _) ?_
  simp only [B2,Gm,BO,ht,go_sem]
  refine ⟨by omega,by omega,(j+1,n+1),by dsimp only;omega,by dsimp only;omega,Ac ?_ (A6.cons ?_ (A6.base hf ?_)) (zna _)⟩
  all_goals
   simp only [BO,go_sem]
  .exact congrArg _ (At j (by omega))
  .rw [Bg ex]
 .have c:j=l.length:=by simp at c;omega
  subst c
  simp only [B2,Gm,BO,go_sem]
abbrev vr (v:Ak) (m:Nat):AV:=.ag [.i .i64 v.k,.i .i64 v.n,.s v.s,.rw m 0 v.items.length,.rw (m+1) 0 v.keys.length]
theorem OF (v:Ak) (hv:v.Fit) (hp:CH) (m:Nat):AQ prog 38 hp m [vx v] ((m,.rw 0 5 (Ad A2 v.items))::(m+1,.rw 0 1 (Bv v.keys))::hp) (m+2) (vr v m):=by
 have h1:=fun hp m=>Vr v.items hv.i (fun x hx=>EI x (hv.x hx)) hp m
 have h2:=fun hp m=>WM v.keys hv.l hp m
 refine Fy (outs:=[(5,Ad A2 v.items),(1,Bv v.keys)]) func38 (by kernel_rfl) cc38 cr38 rfl fun hf=>?_;unfold ck38
 simp only [go_sem]
 refine Af.x (h1 _ _) ?_
 simp only [go_sem]
 refine Af.x (h2 _ _) ?_
 simp only [go_sem]
def SE (c:Int):Bool:=decide (65≤c)&&decide (c≤90)||decide (97≤c)&&decide (c≤122)||decide (c=95)
def Xe (c:Int):Bool:=decide (48≤c)&&decide (c≤57)
def nmL (l:List UInt8):Bool:=l.all fun c=>SE c.toNat||Xe c.toNat
theorem Mt (x:UInt8) (l:List UInt8):nmL (x::l)=((SE x.toNat||Xe x.toNat)&&nmL l):=rfl
def ES (s:ByteArray):Bool:=decide (0<s.size)&&decide (s.size≤64)&&!Xe ((bs s).getD 0 0).toNat&&nmL (bs s)
theorem Sw (c:Int) (hp:CH) (m:Nat):Ah prog 117 hp m [.i .u8 c] (.b (SE c)):=by
 refine Am func117 (by kernel_rfl) cc117 cr117 rfl fun hf=>?_;unfold ck117
 simp only [go_sem]
 rfl
theorem UV (c:Int) (hp:CH) (m:Nat):Ah prog 118 hp m [.i .u8 c] (.b (Xe c)):=by
 refine Am func118 (by kernel_rfl) cc118 cr118 rfl fun hf=>?_;unfold ck118
 simp only [go_sem]
 rfl
theorem LA (s:ByteArray):(bs s).length=s.size:=L7 s
theorem nb1 (a b c:Bool) (h:(!a&&(c||!b))=true):(a||b&&!c)=false:=by cases a<;>cases b<;>cases c<;>simp_all
theorem nb3 (a b c:Bool) (h:¬(a=true∧b=true)):(true&&true&&!b&&((a||b)&&c))=((a||b&&!decide (0=0))&&c):=by cases a<;>cases b<;>cases c<;>simp_all
theorem nb2 (a b c:Bool) (h:(!a&&(c||!b))=false):(a||b&&!c)=true:=by cases a<;>cases b<;>cases c<;>simp_all
theorem BE (s:ByteArray) (hp:CH) (m:Nat):Ah prog 78 hp m [.s s] (.b (ES s)):=by
 refine Am func78 (by kernel_rfl) cc78 cr78 rfl fun hf=>?_;unfold ck78
 simp only [go_sem]
 refine Ai (fun c=>?_) (fun c=>?_)
 .simp only [go_sem]
  simp only [Bool.or_eq_true,decide_eq_true_eq] at c
  have:ES s=false:=by
   rw [Bool.eq_false_iff]
   intro h
   simp only [ES,Bool.and_eq_true,decide_eq_true_eq] at h
   omega
  rw [this]
 simp only [Bool.or_eq_false_iff,decide_eq_false_iff_not] at c
 obtain ⟨c1,c2⟩:=c
 simp only [go_sem]
 refine loop (fun p:Nat × Nat=>⟨[(0,.s s),(3,.i .i64 p.1)],hp,p.2⟩) (fun p=>p.1≤s.size∧(0<p.1→ES s=nmL ((bs s).drop p.1))) (fun p=>s.size - p.1) (0,m) ?_ ?_ (fun ⟨j,n⟩ hj=>?_)
 .exact ⟨by simp,fun h=>absurd h (by simp)⟩
 .refine Ac ?_ (A6.refl _) (zna _)
  simp only [go_sem]
 dsimp only at hj
 obtain ⟨Cm,Ba⟩:=hj
 simp only [go_sem]
 refine Ai (fun d=>?_) (fun d=>?_)
 .have d:j<s.size:=by simpa using d
  obtain ⟨x,ex⟩:∃x,(bs s)[j]?=some x:=⟨(bs s)[j]'(by rw [LA];exact d),by simp [LA,d]⟩
  have eg:(bs s).getD j 0=x:=by rw [List.getD,ex];rfl
  have e2:ES s=((SE x.toNat||Xe x.toNat&&!decide (j=0))&&nmL ((bs s).drop (j+1))):=by
   rcases Nat.eq_zero_or_pos j with h0 | h0
   .subst h0
    rw [ES,eg]
    have hb:=A5 ex
    rw [List.drop_zero] at hb
    rw [hb,Mt]
    have h64:s.size≤64:=by omega
    have hh:¬(SE x.toNat=true∧Xe x.toNat=true):=by simp only [SE,Xe,Bool.or_eq_true,Bool.and_eq_true,decide_eq_true_eq];omega
    rw [decide_eq_true d,decide_eq_true h64]
    exact nb3 _ _ _ hh
   .rw [Ba h0,A5 ex,Mt]
    have:¬j=0:=by omega
    simp [this]
  simp only [d,eg,go_sem]
  refine Af.f (Sw _ _ _) ?_
  simp only [go_sem]
  refine ⟨fun _=>d,AA.f (fun _=>UV _ _ _) ?_⟩
  simp only [d,eg,go_sem]
  refine Ai (fun q=>?_) (fun q=>?_)
  .have q:(SE x.toNat||Xe x.toNat&&!decide (j=0))=false:=by
    have e3:decide ((j:Int)=0)=decide (j=0):=by congr 1;simp
    rw [e3] at q
    exact nb1 _ _ _ q
   rw [e2,q,Bool.false_and]
   simp only [go_sem]
  .have q:(SE x.toNat||Xe x.toNat&&!decide (j=0))=true:=by
    have e3:decide ((j:Int)=0)=decide (j=0):=by congr 1;simp
    rw [e3] at q
    exact nb2 _ _ _ q
   rw [q,Bool.true_and] at e2
   simp only [go_sem]
   refine ⟨(j+1,n),⟨by dsimp only;omega,fun _=>e2⟩,by dsimp only;omega,Ac ?_ (A6.refl _) (zna _)⟩
   simp only [At j (by omega),go_sem]
 .have d:j=s.size:=by simp at d;omega
  have Ba:=Ba (by omega)
  rw [d,←LA,zll] at Ba
  rw [Ba]
  simp only [go_sem]
  rfl
def Nd {α:Type} (q:α→Bool):List α→Nat→Int
 | [],_=>-1
 | x::r,j=>if q x=true then j else Nd q r (j+1)
theorem Nt {α:Type} (q:α→Bool):∀(l:List α) (j:Nat),decide (0≤Nd q l j)=l.any q
 | [],j=>rfl
 | x::r,j=>by
  rw [Nd,List.any_cons]
  cases h:q x
  .rw [if_neg (by simp),Nt q r (j+1),Bool.false_or]
  .rw [if_pos rfl];simp
attribute [go_sem] C9
abbrev sx (s:ByteArray):AV:=.s s
noncomputable def tw (l:List ByteArray):Bool:=!decide l.Nodup
theorem Ov {l:List ByteArray} {x:ByteArray} (h:l.Nodup) (hx:x ∉ l):(l++[x]).Nodup:=by
 rw [List.nodup_append]
 exact ⟨h,by simp,fun a ha b hb e=>by simp at hb;subst hb;subst e;exact hx ha⟩
theorem Ada {l:List ByteArray} {j:Nat} {x:ByteArray} (ex:l[j]?=some x) (h:x∈l.take j):tw l=true:=by
 simp only [tw,Bool.not_eq_true',decide_eq_false_iff_not]
 intro hn
 have e:l=l.take j++x::l.drop (j+1):=by rw [←A5 ex,List.take_append_drop]
 rw [e,List.nodup_append] at hn
 exact hn.2.2 x h x (by simp) rfl
theorem E4 (l:List ByteArray) (hl:l.length≤9223372036854775806) (hp:CH) (m:Nat):Ah prog 179 hp m [.ds (Bv l)] (.b (tw l)):=by
 refine Am func179 (by kernel_rfl) cc179 cr179 rfl fun hf=>?_;unfold ck179
 simp only [go_sem]
 refine loop (fun p:Nat × Nat=>⟨[(0,.ds (Bv l)),(3,.i .i64 p.1)],hp,p.2⟩) (fun p=>p.1≤l.length∧m≤p.2∧(l.take p.1).Nodup) (fun p=>l.length - p.1) (0,m) ?_ ?_ (fun ⟨j,n⟩ hj=>?_)
 .exact ⟨by simp,by simp,by simp⟩
 .refine Ac ?_ (A6.refl _) (zna _)
  simp only [go_sem]
 dsimp only at hj
 obtain ⟨Cm,Ba,Aw⟩:=hj
 simp only [go_sem]
 refine Ai (fun c=>?_) (fun c=>?_)
 .have c:j<l.length:=by simpa using c
  obtain ⟨x,ex⟩:∃x,l[j]?=some x:=⟨l[j],by simp [c]⟩
  simp only [go_sem]
  refine loop (fun p:Nat × Nat=>⟨[(0,.ds (Bv l)),(3,.i .i64 j),(4,.i .i64 p.1)],hp,p.2⟩) (fun p=>p.1≤j∧m≤p.2∧x ∉ l.take p.1) (fun p=>j - p.1) (0,n) ?_ ?_ (fun ⟨i,n2⟩ hi=>?_)
  .exact ⟨by simp,Ba,by simp⟩
  .refine Ac ?_ (A6.refl _) (zna _)
   simp only [go_sem]
  dsimp only at hi
  obtain ⟨Md,Ij,Ex⟩:=hi
  simp only [go_sem]
  refine Ai (fun d=>?_) (fun d=>?_)
  .have d:i<j:=by simpa using d
   obtain ⟨y,ey⟩:∃y,l[i]?=some y:=⟨l[i],by simp⟩
   have SR:i<l.length:=by omega
   simp only [c,d,SR,Ag (Ab C9 ex),Ag (Ab C9 ey),go_sem]
   refine Ai (fun q=>?_) (fun q=>?_)
   .have q:x=y:=by simpa using q
    subst q
    have:=Ada ex (zla (i:=i) (by rw [List.getElem?_take,if_pos d];exact ey))
    rw [this]
    simp only [go_sem]
   .have q:¬x=y:=by simpa using q
    simp only [go_sem]
    refine ⟨(i+1,_),⟨by dsimp only;omega,by dsimp only;omega,?_⟩,by dsimp only;omega,Ac ?_ (A6.refl _) (zna _)⟩
    .dsimp only
     rw [←Bg ey]
     simp [Ex,q]
    .simp only [At i (by omega),go_sem]
  .have d:i=j:=by simp at d;omega
   subst d
   simp only [go_sem]
   refine ⟨(i+1,n2),⟨by dsimp only;omega,by dsimp only;omega,by dsimp only;rw [←Bg ex];exact Ov Aw Ex⟩,by dsimp only;omega,Ac ?_ (A6.refl _) (zna _)⟩
   simp only [At i (by omega),go_sem]
 .have c:j=l.length:=by simp at c;omega
  subst c
  rw [List.take_length] at Aw
  have:tw l=false:=by simp [tw,Aw]
  rw [this]
  simp only [go_sem]
mutual
def Vk:Ak→Int
 | .mk _ _ _ i _=>IntKind.i64.wrap (YA i 0+1)
def YA:List Ak→Int→Int
 | [],n=>n
 | x::r,n=>YA r (if n<Vk x then Vk x else n)
end
theorem YJ (v:Ak):Vk v=IntKind.i64.wrap (YA v.items 0+1):=by cases v;rw [Vk];rfl
theorem Si (v:Ak) (h3:v.items.length*80≤140737488355327) (h:∀x∈v.items,∀hp m,Ah prog 158 hp m [vx x] (.i .i64 (Vk x))) (hp:CH) (m:Nat):Ah prog 158 hp m [vx v] (.i .i64 (Vk v)):=by
 obtain ⟨D,hD⟩:∃D,YA v.items 0=D:=⟨_,rfl⟩
 have hd:=YJ v
 rw [hD] at hd
 rw [hd]
 refine Am func158 (by kernel_rfl) cc158 cr158 rfl fun hf=>?_;unfold ck158
 simp only [go_sem]
 refine loop (fun p:Nat × Int × Nat=>⟨[(1,.bx m 0),(3,.i .i64 p.2.1),(4,.i .i64 p.1)],(m,.bx [.i .i64 v.k,.i .i64 v.n,.s v.s,.ds (Ad A2 v.items),.ds (Bv v.keys)])::hp,p.2.2⟩)
  (fun p=>p.1≤v.items.length∧m+1≤p.2.2∧D=YA (v.items.drop p.1) p.2.1) (fun p=>v.items.length - p.1) (0,0,m+1) ?_ ?_ (fun ⟨j,a,n⟩ hj=>?_)
 .exact ⟨by dsimp only;omega,by dsimp only;omega,hD.symm⟩
 .refine Ac ?_ (A6.refl _) (zna _)
  simp only [go_sem]
 dsimp only at hj
 simp only [go_sem]
 refine Ai (fun d=>?_) (fun d=>?_)
 .have d:j<v.items.length:=by simpa using d
  obtain ⟨x,ex⟩:∃x,v.items[j]?=some x:=⟨v.items[j],by simp [d]⟩
  have hx:=h x (zla ex)
  have e:=A5 ex
  rw [e,YA] at hj
  simp only [d,Ag (Ab A2 ex),go_sem]
  refine Af.f (hx _ _) ?_
  simp only [go_sem]
  refine ⟨(j+1,(if a<Vk x then Vk x else a),n),by dsimp only;exact ⟨by omega,by omega,hj.2.2⟩,by dsimp only;omega,Ac ?_ (A6.refl _) (zna _)⟩
  simp only [At j (by omega),go_sem]
 .have d:j=v.items.length:=by simp at d;omega
  subst d
  rw [zll,YA] at hj
  simp only [go_sem]
  rw [hj.2.2]
theorem Kr (v:Ak) (hv:v.Fit) (hp:CH) (m:Nat):Ah prog 158 hp m [vx v] (.i .i64 (Vk v)):=by
 have:=Ak.ind (Q:=fun v=>v.Fit→∀hp m,Ah prog 158 hp m [vx v] (.i .i64 (Vk v))) (fun v ih hv hp m=>Si v hv.i (fun x hx=>ih x hx (hv.x hx)) hp m) v
 exact this hv hp m
noncomputable def Mk (v:Ak) (lit:Bool):Bool :=
 if v.k=0 then decide (v.n=0)&&decide (v.s=⟨#[]⟩)&&decide ((v.items.length:Int)=0)&&decide ((v.keys.length:Int)=0)
 else if v.k=1 then (decide (v.n=0)||decide (v.n=1))&&decide (v.s=⟨#[]⟩)&&decide ((v.items.length:Int)=0)&&decide ((v.keys.length:Int)=0)
 else if v.k=2 then decide (v.s=⟨#[]⟩)&&decide ((v.items.length:Int)=0)&&decide ((v.keys.length:Int)=0)
 else if v.k=3 then decide (v.n=0)&&decide ((v.items.length:Int)=0)&&decide ((v.keys.length:Int)=0)
 else if v.k=4 then decide (v.n=0)&&decide ((v.items.length:Int)=0)&&decide ((v.keys.length:Int)=0)&&ES v.s&&!decide (v.s=⟨#[116,114,117,101]⟩)&&!decide (v.s=⟨#[102,97,108,115,101]⟩)&&!decide (v.s=⟨#[110,117,108,108]⟩)
 else if v.k=5 then decide (v.n=0)&&decide (v.s=⟨#[]⟩)&&decide ((v.keys.length:Int)=0)
 else if v.k=6 then decide (v.n=0)&&decide (v.s=⟨#[]⟩)&&decide ((v.keys.length:Int)=v.items.length)&&!tw v.keys
 else if v.k=7 then lit&&decide (v.n=0)&&decide ((v.items.length:Int)=0)&&decide ((v.keys.length:Int)=0)&&ES v.s
 else false
theorem Tq (v:Ak) (lit:Bool) (hv:v.Fit) (hp:CH) (m:Nat):Ah prog 174 hp m [vx v,.b lit] (.b (Mk v lit)):=by
 have hl:=hv.l
 refine Am func174 (by kernel_rfl) cc174 cr174 rfl fun hf=>?_;unfold ck174
 simp only [go_sem]
 repeat' (first
  | ((with_reducible refine Ai (fun _=>?_) (fun _=>?_))<;>(try simp only [go_sem]))
  | ((with_reducible apply Af.f);exact BE _ _ _;try simp only [go_sem])
  | ((with_reducible apply AA.f);exact fun _=>BE _ _ _;try simp only [go_sem])
  | ((with_reducible apply AG.f);exact fun _ _ _=>BE _ _ _;try simp only [go_sem])
  | ((with_reducible apply A3.f);exact fun _ _ _=>BE _ _ _;try simp only [go_sem])
  | ((with_reducible apply Af.f);exact E4 v.keys (by omega) _ _;try simp only [go_sem])
  | ((with_reducible apply AA.f);exact fun _=>E4 v.keys (by omega) _ _;try simp only [go_sem])
  | ((with_reducible apply AG.f);exact fun _ _ _=>E4 v.keys (by omega) _ _;try simp only [go_sem])
  | ((with_reducible apply A3.f);exact fun _ _ _=>E4 v.keys (by omega) _ _;try simp only [go_sem])
  | ((with_reducible apply Af.p);exact BE _ _ _;(focus (simp only [go_sem];done));try simp only [go_sem])
  | ((with_reducible apply Af.p);exact E4 v.keys (by omega) _ _;(focus (simp only [go_sem];done));try simp only [go_sem])
  | ((with_reducible refine HD (fun _=>?_) (fun _=>?_))<;>(try simp only [go_sem]))
  | ((with_reducible refine AA.s (Ix (fun _=>?_) (fun _=>?_)))<;>(try simp only [go_sem]))
  | ((with_reducible refine F5.m ?_ (fun _ _=>?_));rotate_left;try simp only [go_sem])
  | exact GY (fun _=>rfl)
  | exact FV (fun _=>⟨rfl,rfl⟩)
  | with_reducible refine And.intro ?_ ?_)
 all_goals clear hf hl hv
 all_goals simp only [decide_eq_true_eq,decide_eq_false_iff_not] at *
 all_goals simp only [Mk, *,↓reduceIte,Zh]
noncomputable def QI (v:Ak) (lit:Bool):Bool:=Mk v lit&&!(lit&&v.keys.any fun k=>!ES k)
mutual
noncomputable def UN (lit:Bool):Ak→Bool
 | .mk k n s i l=>QI (.mk k n s i l) lit&&evL lit i
noncomputable def evL (lit:Bool):List Ak→Bool
 | []=>true
 | x::r=>UN lit x&&evL lit r
end
theorem ZH (lit:Bool) (v:Ak):UN lit v=(QI v lit&&evL lit v.items):=by cases v;rw [UN];rfl
theorem V1 (v:Ak) (lit:Bool) (hv:v.Fit) (h:∀x∈v.items,∀hp m,Ah prog 159 hp m [vx x,.b lit] (.b (UN lit x))) (hp:CH) (m:Nat):Ah prog 159 hp m [vx v,.b lit] (.b (UN lit v)):=by
 have h1:=hv.i
 have h2:=hv.l
 have e0:=ZH lit v
 refine Am func159 (by kernel_rfl) cc159 cr159 rfl fun hf=>?_;unfold ck159
 simp only [go_sem]
 refine Af.f (Tq v lit hv _ _) ?_
 simp only [go_sem]
 refine Ai (fun c=>?_) (fun c=>?_)
 .have c:Mk v lit=false:=by simpa using c
  rw [e0,QI,c,Bool.false_and,Bool.false_and]
  simp only [go_sem]
 have c:Mk v lit=true:=by simpa using c
 rw [QI,c,Bool.true_and] at e0
 simp only [go_sem]
 refine loop (fun p:Nat × Nat=>⟨[(1,.b lit),(2,.bx m 0),(5,.i .i64 p.1)],(m,.bx [.i .i64 v.k,.i .i64 v.n,.s v.s,.ds (Ad A2 v.items),.ds (Bv v.keys)])::hp,p.2⟩)
  (fun p=>p.1≤v.keys.length∧m+1≤p.2∧(lit&&v.keys.any fun k=>!ES k)=(lit&&(v.keys.drop p.1).any fun k=>!ES k)) (fun p=>v.keys.length - p.1) (0,m+1) ?_ ?_ (fun ⟨j,n⟩ hj=>?_)
 .exact ⟨by simp,by simp,rfl⟩
 .refine Ac ?_ (A6.refl _) (zna _)
  simp only [go_sem]
 dsimp only at hj
 obtain ⟨Cm,Ba,Aw⟩:=hj
 simp only [go_sem]
 refine Ai (fun d=>?_) (fun d=>?_)
 .have d:j<v.keys.length:=by simpa using d
  obtain ⟨x,ex⟩:∃x,v.keys[j]?=some x:=⟨v.keys[j],by simp [d]⟩
  rw [A5 ex,List.any_cons] at Aw
  simp only [d,go_sem]
  refine HD (fun g=>?_) (fun g=>?_)
  .subst g
   simp only [d,Ag (Ab C9 ex),go_sem]
   refine EL (Af.f (BE x _ _) ?_)
   simp only [go_sem]
   refine Ai (fun q=>?_) (fun q=>?_)
   .rw [q] at Aw
    rw [Aw] at e0
    rw [e0]
    simp only [go_sem]
   .rw [q,Bool.false_or] at Aw
    simp only [go_sem]
    refine ⟨(j+1,_),⟨by dsimp only;omega,by dsimp only;omega,Aw⟩,by dsimp only;omega,Ac ?_ (A6.refl _) (zna _)⟩
    simp only [At j (by omega),go_sem]
  .subst g
   simp only [d,go_sem]
   refine BK ?_
   simp only [go_sem]
   refine ⟨(j+1,_),⟨by dsimp only;omega,by dsimp only;omega⟩,by dsimp only;omega,Ac ?_ (A6.refl _) (zna _)⟩
   simp only [At j (by omega),go_sem]
 .have d:j=v.keys.length:=by simp at d;omega
  subst d
  rw [zll,List.any_nil,Bool.and_false] at Aw
  rw [Aw,Bool.not_false,Bool.true_and] at e0
  simp only [go_sem]
  refine loop (fun p:Nat × Nat=>⟨[(1,.b lit),(2,.bx m 0),(6,.i .i64 p.1)],(m,.bx [.i .i64 v.k,.i .i64 v.n,.s v.s,.ds (Ad A2 v.items),.ds (Bv v.keys)])::hp,p.2⟩)
   (fun p=>p.1≤v.items.length∧m+1≤p.2∧UN lit v=evL lit (v.items.drop p.1)) (fun p=>v.items.length - p.1) (0,n) ?_ ?_ (fun ⟨j,n⟩ hj=>?_)
  .exact ⟨by simp,Ba,e0⟩
  .refine Ac ?_ (A6.refl _) (zna _)
   simp only [go_sem]
  dsimp only at hj
  obtain ⟨Cm,Ba,Aw⟩:=hj
  simp only [go_sem]
  refine Ai (fun d=>?_) (fun d=>?_)
  .have d:j<v.items.length:=by simpa using d
   obtain ⟨x,ex⟩:∃x,v.items[j]?=some x:=⟨v.items[j],by simp [d]⟩
   rw [A5 ex,evL] at Aw
   simp only [d,Ag (Ab A2 ex),go_sem]
   refine Af.f (h x (zla ex) _ _) ?_
   simp only [go_sem]
   refine Ai (fun q=>?_) (fun q=>?_)
   .have q:UN lit x=false:=by simpa using q
    rw [Aw,q,Bool.false_and]
    simp only [go_sem]
   .have q:UN lit x=true:=by simpa using q
    rw [q,Bool.true_and] at Aw
    simp only [go_sem]
    refine ⟨(j+1,_),⟨by dsimp only;omega,by dsimp only;omega,Aw⟩,by dsimp only;omega,Ac ?_ (A6.refl _) (zna _)⟩
    simp only [At j (by omega),go_sem]
  .have d:j=v.items.length:=by simp at d;omega
   subst d
   rw [zll,evL] at Aw
   rw [Aw]
   simp only [go_sem]
theorem My (v:Ak) (lit:Bool) (hv:v.Fit) (hp:CH) (m:Nat):Ah prog 159 hp m [vx v,.b lit] (.b (UN lit v)):=by
 have:=Ak.ind (Q:=fun v=>v.Fit→∀hp m,Ah prog 159 hp m [vx v,.b lit] (.b (UN lit v))) (fun v ih hv hp m=>V1 v lit hv (fun x hx=>ih x hx (hv.x hx)) hp m) v
 exact this hv hp m
noncomputable def Dn (lit:Bool) (v:Ak):Bool:=decide (SG v≤4096)&&decide (Vk v≤24)&&UN lit v
theorem RW (v:Ak) (hv:v.Fit) (hp:CH) (m:Nat):Ah prog 168 hp m [vx v] (.b (Dn false v)):=by
 rw [Dn]
 refine Am func168 (by kernel_rfl) cc168 cr168 rfl fun hf=>?_;unfold ck168
 simp only [go_sem]
 refine Af.f (LK v hv _ _) ?_
 simp only [go_sem]
 refine AA.f (fun _=>Kr v hv _ _) ?_
 simp only [go_sem]
 refine AA.f (fun _=>My v false hv _ _) ?_
 simp only [go_sem]
end Go.Proofs.YtgfidgoefioigaaGreatDoor
