/- Proof. Conditions: none. -/
import Derived.Test.YtgfidgoefioigaaGreatDoorIj18
noncomputable section
open Bool renaming false_and->z11,true_and->zv
open Go.Proofs.Tryz
open Int renaming reduceEq->Zh
open List renaming mem_of_getElem?->zla,drop_length->zll
namespace Go.Proofs.YtgfidgoefioigaaGreatDoor
open Go.Eng
set_option linter.all false
set_option maxRecDepth 20000
section
variable {l:List qB} {x:qB}
theorem Abj (l:List qB) (h:l.length*16<=140737488355327) (hp:CH) (m:Nat):AU prog 75 hp m [.ds (Bd l)] ((m,.rw 0 1 (Bd l))::hp) (m+1) (.rw m 0 l.length):=by
 refine GP (outs:=[(1,Bd l)]) func75 (tA cc75) (tB cc75) (tC cc75) rfl fun hf=>?_;unfold ck75
 simp only [go_sem]
 exact ⟨fun e=>⟨by simpa [Ab] using congrArg List.length e,e⟩,by omega,by omega⟩
theorem Xn (l:List Ag) (hl:l.length*80<=140737488355327) (h:∀x∈l,∀hp m,Af prog 38 hp m [vx x] (vx x)) (hp:CH) (m:Nat) :
 AU prog 74 hp m [.ds (Ab Ar l)] ((m,.rw 0 5 (Ab Ar l))::hp) (m+1) (.rw m 0 l.length):=by
 refine GP (outs:=[(5,Ab Ar l)]) func74 (tA cc74) (tB cc74) (tC cc74) rfl fun hf=>?_;unfold ck74
 simp only [go_sem]
 refine loop (fun p:Nat×Nat=>⟨[(3,.rw m p.1 p.1),(6,.ds (Ab Ar l)),(7,.i .i64 l.length),(8,.i .i64 p.1)],(m,.rw p.1 5 (Ab Ar (l.take p.1)))::hp,p.2⟩) (fun p=>p.1<=l.length∧m+1<=p.2) (fun p=>l.length - p.1) (0,m+1) ?_ ?_ (fun ⟨j,n⟩ hj=>?_)
 .grind
 .refine (Bo (t:=3) (m:=5) ?_).trans (Gu hf ?_ ?_ ?_ (Nat.le_refl _))
  all_goals simp only [go_sem]
 dsimp only at hj
 have BG:n≠m:=by omega
 have H6:m≠n:=by omega
 have BC:m<=n:=by omega
 simp only [BG,H6,BC,go_sem]
 refine Ae (fun c=>?_) (fun c=>?_)
 .have c:j<l.length:=by simpa using c
  obtain ⟨x,ex⟩:∃x,l[j]?=some x:=⟨l[j],by simp [c]⟩
  have hx:=h x (zla ex)
  have ht:(l.take j).length=j:=by simp;omega
  simp only [BG,H6,BC,c,Ad (Aa Ar ex),go_sem]
  refine Ac.f (hx _ _) ?_
  simp only [BG,H6,BC,ht,go_sem]
  refine ⟨by omega,by omega,(j+1,n+1),by dsimp only;omega,by dsimp only;omega,Gu hf ?_ ?_ ?_ (Nat.le_refl _)⟩
  all_goals
   simp only [BC,go_sem]
  .exact congrArg _ (Ap j (by omega))
  .rw [AN ex]
 .have c:j=l.length:=by simp at c;omega
  subst c
  simp only [BG,H6,BC,go_sem]
abbrev vr (v:Ag) (m:Nat):AV:=.ag [.i .i64 v.k,.i .i64 v.n,.s v.s,.rw m 0 v.items.length,.rw (m+1) 0 v.keys.length]
theorem Sf (v:Ag) (hv:v.Fit) (hp:CH) (m:Nat):AU prog 38 hp m [vx v] ((m,.rw 0 5 (Ab Ar v.items))::(m+1,.rw 0 1 (Bd v.keys))::hp) (m+2) (vr v m):=by
 have h1:=fun hp m=>Xn v.items hv.i (fun x hx=>FY x (hv.x hx)) hp m
 have h2:=fun hp m=>Abj v.keys hv.l hp m
 refine GP (outs:=[(5,Ab Ar v.items),(1,Bd v.keys)]) func38 (tA cc38) (tB cc38) (tC cc38) rfl fun hf=>?_;unfold ck38
 simp only [go_sem]
 refine Ac.x (h1 _ _) ?_
 simp only [go_sem]
 refine Ac.x (h2 _ _) ?_
 simp only [go_sem]
def VO (c:Int):Bool:=decide (65<=c)&&decide (c<=90)||decide (97<=c)&&decide (c<=122)||decide (c=95)
def chD (c:Int):Bool:=decide (48<=c)&&decide (c<=57)
def nmL (l:List UInt8):Bool:=l.all fun c=>VO c.toNat||chD c.toNat
theorem QH (x:UInt8) (l:List UInt8):nmL (x::l)=((VO x.toNat||chD x.toNat)&&nmL l):=rfl
def Gb (s:qB):Bool:=decide (0<s.size)&&decide (s.size<=64)&&!chD ((bs s).getD 0 0).toNat&&nmL (bs s)
theorem U9 (c:Int) (hp:CH) (m:Nat):Af prog 117 hp m [.i .u8 c] (.b (VO c)):=by
 refine Aj func117 (tA cc117) (tB cc117) (tC cc117) rfl fun hf=>?_;unfold ck117
 simp only [go_sem]
 rfl
theorem YQ (c:Int) (hp:CH) (m:Nat):Af prog 118 hp m [.i .u8 c] (.b (chD c)):=by
 refine Aj func118 (tA cc118) (tB cc118) (tC cc118) rfl fun hf=>?_;unfold ck118
 simp only [go_sem]
 rfl
theorem Ox (s:qB):(bs s).length=s.size:=Oi s
theorem nb1 (a b c:Bool) (h:(!a&&(c||!b))=true):(a||b&&!c)=false:=by cases a<;>cases b<;>cases c<;>simp_all
theorem nb3 (a b c:Bool) (h:¬(a=true∧b=true)):(true&&true&&!b&&((a||b)&&c))=((a||b&&!decide (0=0))&&c):=by cases a<;>cases b<;>cases c<;>simp_all
theorem nb2 (a b c:Bool) (h:(!a&&(c||!b))=false):(a||b&&!c)=true:=by cases a<;>cases b<;>cases c<;>simp_all
theorem BW (s:qB) (hp:CH) (m:Nat):Af prog 78 hp m [.s s] (.b (Gb s)):=by
 refine Aj func78 (tA cc78) (tB cc78) (tC cc78) rfl fun hf=>?_;unfold ck78
 simp only [go_sem]
 refine Ae (fun c=>?_) (fun c=>?_)
 .simp only [go_sem]
  simp only [Bool.or_eq_true,decide_eq_true_eq] at c
  have:Gb s=false:=by
   rw [Bool.eq_false_iff]
   intro h
   simp only [Gb,Bool.and_eq_true,decide_eq_true_eq] at h
   omega
  rw [this]
 simp only [Bool.or_eq_false_iff,decide_eq_false_iff_not] at c
 obtain ⟨c1,c2⟩:=c
 simp only [go_sem]
 refine loop (fun p:Nat×Nat=>⟨[(0,.s s),(3,.i .i64 p.1)],hp,p.2⟩) (fun p=>p.1<=s.size∧(0<p.1->Gb s=nmL ((bs s).drop p.1))) (fun p=>s.size - p.1) (0,m) ?_ ?_ (fun ⟨j,n⟩ hj=>?_)
 .exact ⟨by simp,fun h=>absurd h (by simp)⟩
 .refine Di ?_
  simp only [go_sem]
 dsimp only at hj
 obtain ⟨Cg,Bc⟩:=hj
 simp only [go_sem]
 refine Ae (fun d=>?_) (fun d=>?_)
 .have d:j<s.size:=by simpa using d
  obtain ⟨x,ex⟩:∃x,(bs s)[j]?=some x:=⟨(bs s)[j]'(by rw [Ox];exact d),by simp [Ox,d]⟩
  have eg:(bs s).getD j 0=x:=by rw [List.getD,ex];rfl
  have e2:Gb s=((VO x.toNat||chD x.toNat&&!decide (j=0))&&nmL ((bs s).drop (j+1))):=by
   rcases Nat.eq_zero_or_pos j with h0 | h0
   .subst h0
    rw [Gb,eg]
    have hb:=A2 ex
    rw [List.drop_zero] at hb
    rw [hb,QH]
    have h64:s.size<=64:=by omega
    have hh:¬(VO x.toNat=true∧chD x.toNat=true):=by simp only [VO,chD,Bool.or_eq_true,Bool.and_eq_true,decide_eq_true_eq];omega
    rw [dT d,dT h64]
    exact nb3 _ _ _ hh
   .rw [Bc h0,A2 ex,QH]
    have:¬j=0:=by omega
    simp [this]
  simp only [d,eg,go_sem]
  refine Ac.f (U9 _ _ _) ?_
  simp only [go_sem]
  refine ⟨fun _=>d,AH.f (fun _=>YQ _ _ _) ?_⟩
  simp only [d,eg,go_sem]
  refine Ae (fun q=>?_) (fun q=>?_)
  .have q:(VO x.toNat||chD x.toNat&&!decide (j=0))=false:=by
    have e3:decide ((j:Int)=0)=decide (j=0):=by congr 1;simp
    rw [e3] at q
    exact nb1 _ _ _ q
   rw [e2,q,z11]
   simp only [go_sem]
  .have q:(VO x.toNat||chD x.toNat&&!decide (j=0))=true:=by
    have e3:decide ((j:Int)=0)=decide (j=0):=by congr 1;simp
    rw [e3] at q
    exact nb2 _ _ _ q
   rw [q,zv] at e2
   simp only [go_sem]
   refine ⟨(j+1,n),⟨by dsimp only;omega,fun _=>e2⟩,by dsimp only;omega,Di ?_⟩
   simp only [Ap j (by omega),go_sem]
 .have d:j=s.size:=by simp at d;omega
  have Bc:=Bc (by omega)
  rw [d,<-Ox,zll] at Bc
  rw [Bc]
  simp only [go_sem]
  rfl
def Pj {U:Type} (q:U->Bool):List U->Nat->Int
 | [],_=>-1
 |x::r,j=>if q x=true then j else Pj q r (j+1)
theorem PH {U:Type} (q:U->Bool):∀(l:List U) (j:Nat),decide (0<=Pj q l j)=l.any q
 | [],j=>rfl
 |x::r,j=>by
  rw [Pj,List.any_cons]
  cases h:q x
  .rw [iN (by simp),PH q r (j+1),Bool.false_or]
  .rw [iP rfl];simp
attribute [go_sem] Cz
abbrev sx (s:qB):AV:=.s s
def tw (l:List qB):Bool:=!decide l.Nodup
theorem QX (h:l.Nodup) (hx:x ∉ l):(l++[x]).Nodup:=by
 rw [List.nodup_append]
 exact ⟨h,by simp,fun a ha b hb e=>by simp at hb;subst hb;subst e;exact hx ha⟩
theorem Alg {j:Nat} (ex:l[j]?=some x) (h:x∈l.take j):tw l=true:=by
 simp only [tw,Bool.not_eq_true',decide_eq_false_iff_not]
 intro hn
 have e:l=l.take j++x::l.drop (j+1):=by rw [<-A2 ex,List.take_append_drop]
 rw [e,List.nodup_append] at hn
 exact hn.2.2 x h x (by simp) rfl
theorem Fz (l:List qB) (hl:l.length<=9223372036854775806) (hp:CH) (m:Nat):Af prog 179 hp m [.ds (Bd l)] (.b (tw l)):=by
 refine Aj func179 (tA cc179) (tB cc179) (tC cc179) rfl fun hf=>?_;unfold ck179
 simp only [go_sem]
 refine loop (fun p:Nat×Nat=>⟨[(0,.ds (Bd l)),(3,.i .i64 p.1)],hp,p.2⟩) (fun p=>p.1<=l.length∧m<=p.2∧(l.take p.1).Nodup) (fun p=>l.length - p.1) (0,m) ?_ ?_ (fun ⟨j,n⟩ hj=>?_)
 .exact ⟨by simp,by simp,by simp⟩
 .refine Di ?_
  simp only [go_sem]
 dsimp only at hj
 obtain ⟨Cg,Bc,As⟩:=hj
 simp only [go_sem]
 refine Ae (fun c=>?_) (fun c=>?_)
 .have c:j<l.length:=by simpa using c
  obtain ⟨x,ex⟩:∃x,l[j]?=some x:=⟨l[j],by simp [c]⟩
  simp only [go_sem]
  refine loop (fun p:Nat×Nat=>⟨[(0,.ds (Bd l)),(3,.i .i64 j),(4,.i .i64 p.1)],hp,p.2⟩) (fun p=>p.1<=j∧m<=p.2∧x ∉ l.take p.1) (fun p=>j - p.1) (0,n) ?_ ?_ (fun ⟨i,n2⟩ hi=>?_)
  .exact ⟨by simp,Bc,by simp⟩
  .refine Di ?_
   simp only [go_sem]
  dsimp only at hi
  obtain ⟨LX,HG,Dw⟩:=hi
  simp only [go_sem]
  refine Ae (fun d=>?_) (fun d=>?_)
  .have d:i<j:=by simpa using d
   obtain ⟨y,ey⟩:∃y,l[i]?=some y:=⟨l[i],by simp⟩
   have VV:i<l.length:=by omega
   simp only [c,d,VV,Ad (Aa Cz ex),Ad (Aa Cz ey),go_sem]
   refine Ae (fun q=>?_) (fun q=>?_)
   .have q:x=y:=by simpa using q
    subst q
    have:=Alg ex (zla (i:=i) (by rw [List.getElem?_take,iP d];exact ey))
    rw [this]
    simp only [go_sem]
   .have q:¬x=y:=by simpa using q
    simp only [go_sem]
    refine ⟨(i+1,_),⟨by dsimp only;omega,by dsimp only;omega,?_⟩,by dsimp only;omega,Di ?_⟩
    .dsimp only
     rw [<-AN ey]
     simp [Dw,q]
    .simp only [Ap i (by omega),go_sem]
  .have d:i=j:=by simp at d;omega
   subst d
   simp only [go_sem]
   refine ⟨(i+1,n2),⟨by dsimp only;omega,by dsimp only;omega,by dsimp only;rw [<-AN ex];exact QX As Dw⟩,by dsimp only;omega,Di ?_⟩
   simp only [Ap i (by omega),go_sem]
 .have c:j=l.length:=by simp at c;omega
  subst c
  rw [List.take_length] at As
  have:tw l=false:=by simp [tw,As]
  rw [this]
  simp only [go_sem]
mutual
def Xh:Ag->Int
 | .mk _ _ _ i _=>IntKind.i64.wrap (dpL i 0+1)
def dpL:List Ag->Int->Int
 | [],n=>n
 |x::r,n=>dpL r (if n<Xh x then Xh x else n)
end
theorem Aeu (v:Ag):Xh v=IntKind.i64.wrap (dpL v.items 0+1):=by cases v;rw [Xh];rfl
theorem Vd (v:Ag) (h3:v.items.length*80<=140737488355327) (h:∀x∈v.items,∀hp m,Af prog 158 hp m [vx x] (.i .i64 (Xh x))) (hp:CH) (m:Nat):Af prog 158 hp m [vx v] (.i .i64 (Xh v)):=by
 obtain ⟨D,hD⟩:=A5 (dpL v.items 0)
 have hd:=Aeu v
 rw [hD] at hd
 rw [hd]
 refine Aj func158 (tA cc158) (tB cc158) (tC cc158) rfl fun hf=>?_;unfold ck158
 simp only [go_sem]
 refine loop (fun p:Nat×Int×Nat=>⟨[(1,.bx m 0),(3,.i .i64 p.2.1),(4,.i .i64 p.1)],(m,.bx [.i .i64 v.k,.i .i64 v.n,.s v.s,.ds (Ab Ar v.items),.ds (Bd v.keys)])::hp,p.2.2⟩)
  (fun p=>p.1<=v.items.length∧m+1<=p.2.2∧D=dpL (v.items.drop p.1) p.2.1) (fun p=>v.items.length - p.1) (0,0,m+1) ?_ ?_ (fun ⟨j,a,n⟩ hj=>?_)
 .exact ⟨by dsimp only;omega,by dsimp only;omega,hD.symm⟩
 .refine Di ?_
  simp only [go_sem]
 dsimp only at hj
 simp only [go_sem]
 refine Ae (fun d=>?_) (fun d=>?_)
 .have d:j<v.items.length:=by simpa using d
  obtain ⟨x,ex⟩:∃x,v.items[j]?=some x:=⟨v.items[j],by simp [d]⟩
  have hx:=h x (zla ex)
  have e:=A2 ex
  rw [e,dpL] at hj
  simp only [d,Ad (Aa Ar ex),go_sem]
  refine Ac.f (hx _ _) ?_
  simp only [go_sem]
  refine ⟨(j+1,(if a<Xh x then Xh x else a),n),by dsimp only;exact ⟨by omega,by omega,hj.2.2⟩,by dsimp only;omega,Di ?_⟩
  simp only [Ap j (by omega),go_sem]
 .have d:j=v.items.length:=by simp at d;omega
  subst d
  rw [zll,dpL] at hj
  simp only [go_sem]
  rw [hj.2.2]
theorem MM (v:Ag) (hv:v.Fit) (hp:CH) (m:Nat):Af prog 158 hp m [vx v] (.i .i64 (Xh v)):=by
 have:=Ag.ind (Q:=fun v=>v.Fit->∀hp m,Af prog 158 hp m [vx v] (.i .i64 (Xh v))) (fun v ih hv hp m=>Vd v hv.i (fun x hx=>ih x hx (hv.x hx)) hp m) v
 exact this hv hp m
def OU (v:Ag) (lit:Bool):Bool :=
 if v.k=0 then decide (v.n=0)&&decide (v.s=⟨#[]⟩)&&decide ((v.items.length:Int)=0)&&decide ((v.keys.length:Int)=0)
 else if v.k=1 then (decide (v.n=0)||decide (v.n=1))&&decide (v.s=⟨#[]⟩)&&decide ((v.items.length:Int)=0)&&decide ((v.keys.length:Int)=0)
 else if v.k=2 then decide (v.s=⟨#[]⟩)&&decide ((v.items.length:Int)=0)&&decide ((v.keys.length:Int)=0)
 else if v.k=3 then decide (v.n=0)&&decide ((v.items.length:Int)=0)&&decide ((v.keys.length:Int)=0)
 else if v.k=4 then decide (v.n=0)&&decide ((v.items.length:Int)=0)&&decide ((v.keys.length:Int)=0)&&Gb v.s&&!decide (v.s=⟨#[116,114,117,101]⟩)&&!decide (v.s=⟨#[102,97,108,115,101]⟩)&&!decide (v.s=⟨#[110,117,108,108]⟩)
 else if v.k=5 then decide (v.n=0)&&decide (v.s=⟨#[]⟩)&&decide ((v.keys.length:Int)=0)
 else if v.k=6 then decide (v.n=0)&&decide (v.s=⟨#[]⟩)&&decide ((v.keys.length:Int)=v.items.length)&&!tw v.keys
 else if v.k=7 then lit&&decide (v.n=0)&&decide ((v.items.length:Int)=0)&&decide ((v.keys.length:Int)=0)&&Gb v.s
 else false
theorem X4 (v:Ag) (lit:Bool) (hv:v.Fit) (hp:CH) (m:Nat):Af prog 174 hp m [vx v,.b lit] (.b (OU v lit)):=by
 have hl:=hv.l
 refine Aj func174 (tA cc174) (tB cc174) (tC cc174) rfl fun hf=>?_;unfold ck174
 simp only [go_sem]
 repeat' (first
  | ((with_reducible refine Ae (fun _=>?_) (fun _=>?_))<;>(try simp only [go_sem]))
  | ((with_reducible apply Ac.f);exact BW _ _ _;try simp only [go_sem])
  | ((with_reducible apply AH.f);exact fun _=>BW _ _ _;try simp only [go_sem])
  | ((with_reducible apply AC.f);exact fun _ _ _=>BW _ _ _;try simp only [go_sem])
  | ((with_reducible apply Aq.f);exact fun _ _ _=>BW _ _ _;try simp only [go_sem])
  | ((with_reducible apply Ac.f);exact Fz v.keys (by omega) _ _;try simp only [go_sem])
  | ((with_reducible apply AH.f);exact fun _=>Fz v.keys (by omega) _ _;try simp only [go_sem])
  | ((with_reducible apply AC.f);exact fun _ _ _=>Fz v.keys (by omega) _ _;try simp only [go_sem])
  | ((with_reducible apply Aq.f);exact fun _ _ _=>Fz v.keys (by omega) _ _;try simp only [go_sem])
  | ((with_reducible apply Ac.p);exact BW _ _ _;(focus (simp only [go_sem];done));try simp only [go_sem])
  | ((with_reducible apply Ac.p);exact Fz v.keys (by omega) _ _;(focus (simp only [go_sem];done));try simp only [go_sem])
  | ((with_reducible refine Jo (fun _=>?_) (fun _=>?_))<;>(try simp only [go_sem]))
  | ((with_reducible refine AH.s (Ki (fun _=>?_) (fun _=>?_)))<;>(try simp only [go_sem]))
  | ((with_reducible refine GQ.m ?_ (fun _ _=>?_));rotate_left;try simp only [go_sem])
  |exact I3 (fun _=>rfl)
  |exact Hh (fun _=>⟨rfl,rfl⟩)
  | with_reducible refine And.intro ?_ ?_)
 all_goals clear hf hl hv
 all_goals simp only [decide_eq_true_eq,decide_eq_false_iff_not] at *
 all_goals simp only [OU, *,↓reduceIte,Zh]
def T6 (v:Ag) (lit:Bool):Bool:=OU v lit&&!(lit&&v.keys.any fun k=>!Gb k)
mutual
def Wh (lit:Bool):Ag->Bool
 | .mk k n s i l=>T6 (.mk k n s i l) lit&&evL lit i
def evL (lit:Bool):List Ag->Bool
 | []=>true
 |x::r=>Wh lit x&&evL lit r
end
theorem Ac5 (lit:Bool) (v:Ag):Wh lit v=(T6 v lit&&evL lit v.items):=by cases v;rw [Wh];rfl
theorem XY (v:Ag) (lit:Bool) (hv:v.Fit) (h:∀x∈v.items,∀hp m,Af prog 159 hp m [vx x,.b lit] (.b (Wh lit x))) (hp:CH) (m:Nat):Af prog 159 hp m [vx v,.b lit] (.b (Wh lit v)):=by
 have h1:=hv.i
 have h2:=hv.l
 have e0:=Ac5 lit v
 refine Aj func159 (tA cc159) (tB cc159) (tC cc159) rfl fun hf=>?_;unfold ck159
 simp only [go_sem]
 refine Ac.f (X4 v lit hv _ _) ?_
 simp only [go_sem]
 refine Ae (fun c=>?_) (fun c=>?_)
 .have c:OU v lit=false:=by simpa using c
  rw [e0,T6,c,z11,z11]
  simp only [go_sem]
 have c:OU v lit=true:=by simpa using c
 rw [T6,c,zv] at e0
 simp only [go_sem]
 refine loop (fun p:Nat×Nat=>⟨[(1,.b lit),(2,.bx m 0),(5,.i .i64 p.1)],(m,.bx [.i .i64 v.k,.i .i64 v.n,.s v.s,.ds (Ab Ar v.items),.ds (Bd v.keys)])::hp,p.2⟩)
  (fun p=>p.1<=v.keys.length∧m+1<=p.2∧(lit&&v.keys.any fun k=>!Gb k)=(lit&&(v.keys.drop p.1).any fun k=>!Gb k)) (fun p=>v.keys.length - p.1) (0,m+1) ?_ ?_ (fun ⟨j,n⟩ hj=>?_)
 .exact ⟨by simp,by simp,rfl⟩
 .refine Di ?_
  simp only [go_sem]
 dsimp only at hj
 obtain ⟨Cg,Bc,As⟩:=hj
 simp only [go_sem]
 refine Ae (fun d=>?_) (fun d=>?_)
 .have d:j<v.keys.length:=by simpa using d
  obtain ⟨x,ex⟩:∃x,v.keys[j]?=some x:=⟨v.keys[j],by simp [d]⟩
  rw [A2 ex,List.any_cons] at As
  simp only [d,go_sem]
  refine Jo (fun g=>?_) (fun g=>?_)
  .subst g
   simp only [d,Ad (Aa Cz ex),go_sem]
   refine FZ (Ac.f (BW x _ _) ?_)
   simp only [go_sem]
   refine Ae (fun q=>?_) (fun q=>?_)
   .rw [q] at As
    rw [As] at e0
    rw [e0]
    simp only [go_sem]
   .rw [q,Bool.false_or] at As
    simp only [go_sem]
    refine ⟨(j+1,_),⟨by dsimp only;omega,by dsimp only;omega,As⟩,by dsimp only;omega,Di ?_⟩
    simp only [Ap j (by omega),go_sem]
  .subst g
   simp only [d,go_sem]
   refine BL ?_
   simp only [go_sem]
   refine ⟨(j+1,_),⟨by dsimp only;omega,by dsimp only;omega⟩,by dsimp only;omega,Di ?_⟩
   simp only [Ap j (by omega),go_sem]
 .have d:j=v.keys.length:=by simp at d;omega
  subst d
  rw [zll,List.any_nil,Bool.and_false] at As
  rw [As,Bool.not_false,zv] at e0
  simp only [go_sem]
  refine loop (fun p:Nat×Nat=>⟨[(1,.b lit),(2,.bx m 0),(6,.i .i64 p.1)],(m,.bx [.i .i64 v.k,.i .i64 v.n,.s v.s,.ds (Ab Ar v.items),.ds (Bd v.keys)])::hp,p.2⟩)
   (fun p=>p.1<=v.items.length∧m+1<=p.2∧Wh lit v=evL lit (v.items.drop p.1)) (fun p=>v.items.length - p.1) (0,n) ?_ ?_ (fun ⟨j,n⟩ hj=>?_)
  .exact ⟨by simp,Bc,e0⟩
  .refine Di ?_
   simp only [go_sem]
  dsimp only at hj
  obtain ⟨Cg,Bc,As⟩:=hj
  simp only [go_sem]
  refine Ae (fun d=>?_) (fun d=>?_)
  .have d:j<v.items.length:=by simpa using d
   obtain ⟨x,ex⟩:∃x,v.items[j]?=some x:=⟨v.items[j],by simp [d]⟩
   rw [A2 ex,evL] at As
   simp only [d,Ad (Aa Ar ex),go_sem]
   refine Ac.f (h x (zla ex) _ _) ?_
   simp only [go_sem]
   refine Ae (fun q=>?_) (fun q=>?_)
   .have q:Wh lit x=false:=by simpa using q
    rw [As,q,z11]
    simp only [go_sem]
   .have q:Wh lit x=true:=by simpa using q
    rw [q,zv] at As
    simp only [go_sem]
    refine ⟨(j+1,_),⟨by dsimp only;omega,by dsimp only;omega,As⟩,by dsimp only;omega,Di ?_⟩
    simp only [Ap j (by omega),go_sem]
  .have d:j=v.items.length:=by simp at d;omega
   subst d
   rw [zll,evL] at As
   rw [As]
   simp only [go_sem]
theorem PC (v:Ag) (lit:Bool) (hv:v.Fit) (hp:CH) (m:Nat):Af prog 159 hp m [vx v,.b lit] (.b (Wh lit v)):=by
 have:=Ag.ind (Q:=fun v=>v.Fit->∀hp m,Af prog 159 hp m [vx v,.b lit] (.b (Wh lit v))) (fun v ih hv hp m=>XY v lit hv (fun x hx=>ih x hx (hv.x hx)) hp m) v
 exact this hv hp m
def DU (lit:Bool) (v:Ag):Bool:=decide (VL v<=4096)&&decide (Xh v<=24)&&Wh lit v
theorem Vo (v:Ag) (hv:v.Fit) (hp:CH) (m:Nat):Af prog 168 hp m [vx v] (.b (DU false v)):=by
 rw [DU]
 refine Aj func168 (tA cc168) (tB cc168) (tC cc168) rfl fun hf=>?_;unfold ck168
 simp only [go_sem]
 refine Ac.f (Oa v hv _ _) ?_
 simp only [go_sem]
 refine AH.f (fun _=>MM v hv _ _) ?_
 simp only [go_sem]
 refine AH.f (fun _=>PC v false hv _ _) ?_
 simp only [go_sem]
end
