/- Proof. Conditions: none. -/
import Derived.Test.YtgfidgoefioigaaGreatDoorIk18
noncomputable section
open Bool renaming false_and->zy,true_and->zt
open Go.Proofs.Tryz
open Int renaming reduceEq->Zh
open List renaming mem_of_getElem?->zla,drop_length->zll
open Nat renaming le_refl->zna
namespace Go.Proofs.YtgfidgoefioigaaGreatDoor
open Go.Eng
set_option linter.all false
set_option maxRecDepth 20000
section
variable {l:List qB} {x:qB}
theorem Aa6 (l:List qB) (h:l.length*16<=140737488355327) (hp:CH) (m:Nat):AO prog 75 hp m [.ds (Bq l)] ((m,.rw 0 1 (Bq l))::hp) (m+1) (.rw m 0 l.length):=by
 refine E4 (outs:=[(1,Bq l)]) func75 (tA cc75) (tB cc75) (tC cc75) rfl fun hf=>?_;unfold ck75
 simp only [go_sem]
 exact ⟨fun e=>⟨by simpa [Ab] using congrArg List.length e,e⟩,by omega,by omega⟩
theorem WO (l:List Ag) (hl:l.length*80<=140737488355327) (h:∀x∈l,∀hp m,Ae prog 38 hp m [vx x] (vx x)) (hp:CH) (m:Nat) :
 AO prog 74 hp m [.ds (Ab Aw l)] ((m,.rw 0 5 (Ab Aw l))::hp) (m+1) (.rw m 0 l.length):=by
 refine E4 (outs:=[(5,Ab Aw l)]) func74 (tA cc74) (tB cc74) (tC cc74) rfl fun hf=>?_;unfold ck74
 simp only [go_sem]
 refine loop (fun p:Nat×Nat=>⟨[(3,.rw m p.1 p.1),(6,.ds (Ab Aw l)),(7,.i .i64 l.length),(8,.i .i64 p.1)],(m,.rw p.1 5 (Ab Aw (l.take p.1)))::hp,p.2⟩) (fun p=>p.1<=l.length∧m+1<=p.2) (fun p=>l.length - p.1) (0,m+1) ?_ ?_ (fun ⟨j,n⟩ hj=>?_)
 .grind
 .refine (By (t:=3) (m:=5) ?_).trans (Fo hf ?_ ?_ ?_ (zna _))
  all_goals simp only [go_sem]
 dsimp only at hj
 have B1:n≠m:=by omega
 have EV:m≠n:=by omega
 have BD:m<=n:=by omega
 simp only [B1,EV,BD,go_sem]
 refine Af (fun c=>?_) (fun c=>?_)
 .have c:j<l.length:=by simpa using c
  obtain ⟨x,ex⟩:∃x,l[j]?=some x:=⟨l[j],by simp [c]⟩
  have hx:=h x (zla ex)
  have ht:(l.take j).length=j:=by simp;omega
  simp only [B1,EV,BD,c,Ad (Aa Aw ex),go_sem]
  refine Ac.f (hx _ _) ?_
  simp only [B1,EV,BD,ht,go_sem]
  refine ⟨by omega,by omega,(j+1,n+1),by dsimp only;omega,by dsimp only;omega,Fo hf ?_ ?_ ?_ (zna _)⟩
  all_goals
   simp only [BD,go_sem]
  .exact congrArg _ (Ao j (by omega))
  .rw [Bc ex]
 .have c:j=l.length:=by simp at c;omega
  subst c
  simp only [B1,EV,BD,go_sem]
abbrev vr (v:Ag) (m:Nat):AV:=.ag [.i .i64 v.k,.i .i64 v.n,.s v.s,.rw m 0 v.items.length,.rw (m+1) 0 v.keys.length]
theorem RB (v:Ag) (hv:v.Fit) (hp:CH) (m:Nat):AO prog 38 hp m [vx v] ((m,.rw 0 5 (Ab Aw v.items))::(m+1,.rw 0 1 (Bq v.keys))::hp) (m+2) (vr v m):=by
 have h1:=fun hp m=>WO v.items hv.i (fun x hx=>FG x (hv.x hx)) hp m
 have h2:=fun hp m=>Aa6 v.keys hv.l hp m
 refine E4 (outs:=[(5,Ab Aw v.items),(1,Bq v.keys)]) func38 (tA cc38) (tB cc38) (tC cc38) rfl fun hf=>?_;unfold ck38
 simp only [go_sem]
 refine Ac.x (h1 _ _) ?_
 simp only [go_sem]
 refine Ac.x (h2 _ _) ?_
 simp only [go_sem]
theorem T6 (l:List Ag) (hl:l.length*80<=140737488355327) (h:∀x∈l,∀hp m,Ae prog 40 hp m [vx x] (vx x)) (hp:CH) (m:Nat) :
 AO prog 71 hp m [.ds (Ab Aw l)] ((m,.rw 0 5 (Ab Aw l))::hp) (m+1) (.rw m 0 l.length):=by
 refine E4 (outs:=[(5,Ab Aw l)]) func71 (tA cc71) (tB cc71) (tC cc71) rfl fun hf=>?_;unfold ck71
 simp only [go_sem]
 refine loop (fun p:Nat×Nat=>⟨[(3,.rw m p.1 p.1),(0,.ds (Ab Aw l)),(4,.i .i64 p.1)],(m,.rw p.1 5 (Ab Aw (l.take p.1)))::hp,p.2⟩) (fun p=>p.1<=l.length∧m+1<=p.2) (fun p=>l.length - p.1) (0,m+1) ?_ ?_ (fun ⟨j,n⟩ hj=>?_)
 .grind
 .refine (By (t:=3) (m:=5) ?_).trans (Fo hf ?_ ?_ ?_ (zna _))
  all_goals simp only [go_sem]
 dsimp only at hj
 have B1:n≠m:=by omega
 have EV:m≠n:=by omega
 have BD:m<=n:=by omega
 simp only [B1,EV,BD,go_sem]
 refine Af (fun c=>?_) (fun c=>?_)
 .have c:j<l.length:=by simpa using c
  obtain ⟨x,ex⟩:∃x,l[j]?=some x:=⟨l[j],by simp [c]⟩
  have hx:=h x (zla ex)
  have ht:(l.take j).length=j:=by simp;omega
  simp only [B1,EV,BD,c,Ad (Aa Aw ex),go_sem]
  refine Ac.f (hx _ _) ?_
  simp only [B1,EV,BD,ht,go_sem]
  refine ⟨by omega,by omega,(j+1,n),by dsimp only;omega,by dsimp only;omega,Fo hf ?_ ?_ ?_ (zna _)⟩
  all_goals
   simp only [BD,go_sem]
  .exact congrArg _ (Ao j (by omega))
  .rw [Bc ex]
 .have c:j=l.length:=by simp at c;omega
  subst c
  simp only [B1,EV,BD,go_sem]
theorem SG (v:Ag) (hv:v.Fit) (hp:CH) (m:Nat):AO prog 40 hp m [vx v] ((m,.rw 0 5 (Ab Aw v.items))::(m+1,.rw 0 1 (Bq v.keys))::hp) (m+2) (vr v m):=by
 have h1:=fun hp m=>T6 v.items hv.i (fun x hx=>OQ x (hv.x hx)) hp m
 have h2:=hv.l
 refine E4 (outs:=[(5,Ab Aw v.items),(1,Bq v.keys)]) func40 (tA cc40) (tB cc40) (tC cc40) rfl fun hf=>?_;unfold ck40
 simp only [go_sem]
 refine Au.r (fun _=>h1 _ _) (by simp [Ab]) ?_
 simp only [go_sem]
 omega
def Vo (c:Int):Bool:=decide (65<=c)&&decide (c<=90)||decide (97<=c)&&decide (c<=122)||decide (c=95)
def chD (c:Int):Bool:=decide (48<=c)&&decide (c<=57)
def nmL (l:List UInt8):Bool:=l.all fun c=>Vo c.toNat||chD c.toNat
theorem Qs (x:UInt8) (l:List UInt8):nmL (x::l)=((Vo x.toNat||chD x.toNat)&&nmL l):=rfl
def FI (s:qB):Bool:=decide (0<s.size)&&decide (s.size<=64)&&!chD ((bs s).getD 0 0).toNat&&nmL (bs s)
theorem Uh (c:Int) (hp:CH) (m:Nat):Ae prog 117 hp m [.i .u8 c] (.b (Vo c)):=by
 refine Al func117 (tA cc117) (tB cc117) (tC cc117) rfl fun hf=>?_;unfold ck117
 simp only [go_sem]
 rfl
theorem Yy (c:Int) (hp:CH) (m:Nat):Ae prog 118 hp m [.i .u8 c] (.b (chD c)):=by
 refine Al func118 (tA cc118) (tB cc118) (tC cc118) rfl fun hf=>?_;unfold ck118
 simp only [go_sem]
 rfl
theorem NB (s:qB):(bs s).length=s.size:=N2 s
theorem nb1 (a b c:Bool) (h:(!a&&(c||!b))=true):(a||b&&!c)=false:=by cases a<;>cases b<;>cases c<;>simp_all
theorem nb3 (a b c:Bool) (h:¬(a=true∧b=true)):(true&&true&&!b&&((a||b)&&c))=((a||b&&!decide (0=0))&&c):=by cases a<;>cases b<;>cases c<;>simp_all
theorem nb2 (a b c:Bool) (h:(!a&&(c||!b))=false):(a||b&&!c)=true:=by cases a<;>cases b<;>cases c<;>simp_all
theorem BN (s:qB) (hp:CH) (m:Nat):Ae prog 78 hp m [.s s] (.b (FI s)):=by
 refine Al func78 (tA cc78) (tB cc78) (tC cc78) rfl fun hf=>?_;unfold ck78
 simp only [go_sem]
 refine Af (fun c=>?_) (fun c=>?_)
 .simp only [go_sem]
  simp only [Bool.or_eq_true,decide_eq_true_eq] at c
  have:FI s=false:=by
   rw [Bool.eq_false_iff]
   intro h
   simp only [FI,Bool.and_eq_true,decide_eq_true_eq] at h
   omega
  rw [this]
 simp only [Bool.or_eq_false_iff,decide_eq_false_iff_not] at c
 obtain ⟨c1,c2⟩:=c
 simp only [go_sem]
 refine loop (fun p:Nat×Nat=>⟨[(0,.s s),(3,.i .i64 p.1)],hp,p.2⟩) (fun p=>p.1<=s.size∧(0<p.1->FI s=nmL ((bs s).drop p.1))) (fun p=>s.size - p.1) (0,m) ?_ ?_ (fun ⟨j,n⟩ hj=>?_)
 .exact ⟨by simp,fun h=>absurd h (by simp)⟩
 .refine Dd ?_
  simp only [go_sem]
 dsimp only at hj
 obtain ⟨Cq,Be⟩:=hj
 simp only [go_sem]
 refine Af (fun d=>?_) (fun d=>?_)
 .have d:j<s.size:=by simpa using d
  obtain ⟨x,ex⟩:∃x,(bs s)[j]?=some x:=⟨(bs s)[j]'(by rw [NB];exact d),by simp [NB,d]⟩
  have eg:(bs s).getD j 0=x:=by rw [List.getD,ex];rfl
  have e2:FI s=((Vo x.toNat||chD x.toNat&&!decide (j=0))&&nmL ((bs s).drop (j+1))):=by
   rcases Nat.eq_zero_or_pos j with h0 | h0
   .subst h0
    rw [FI,eg]
    have hb:=A2 ex
    rw [List.drop_zero] at hb
    rw [hb,Qs]
    have h64:s.size<=64:=by omega
    have hh:¬(Vo x.toNat=true∧chD x.toNat=true):=by simp only [Vo,chD,Bool.or_eq_true,Bool.and_eq_true,decide_eq_true_eq];omega
    rw [dT d,dT h64]
    exact nb3 _ _ _ hh
   .rw [Be h0,A2 ex,Qs]
    have:¬j=0:=by omega
    simp [this]
  simp only [d,eg,go_sem]
  refine Ac.f (Uh _ _ _) ?_
  simp only [go_sem]
  refine ⟨fun _=>d,AH.f (fun _=>Yy _ _ _) ?_⟩
  simp only [d,eg,go_sem]
  refine Af (fun q=>?_) (fun q=>?_)
  .have q:(Vo x.toNat||chD x.toNat&&!decide (j=0))=false:=by
    have e3:decide ((j:Int)=0)=decide (j=0):=by congr 1;simp
    rw [e3] at q
    exact nb1 _ _ _ q
   rw [e2,q,zy]
   simp only [go_sem]
  .have q:(Vo x.toNat||chD x.toNat&&!decide (j=0))=true:=by
    have e3:decide ((j:Int)=0)=decide (j=0):=by congr 1;simp
    rw [e3] at q
    exact nb2 _ _ _ q
   rw [q,zt] at e2
   simp only [go_sem]
   refine ⟨(j+1,n),⟨by dsimp only;omega,fun _=>e2⟩,by dsimp only;omega,Dd ?_⟩
   simp only [Ao j (by omega),go_sem]
 .have d:j=s.size:=by simp at d;omega
  have Be:=Be (by omega)
  rw [d,<-NB,zll] at Be
  rw [Be]
  simp only [go_sem]
  rfl
def OD {α:Type} (q:α->Bool):List α->Nat->Int
 | [],_=>-1
 |x::r,j=>if q x=true then j else OD q r (j+1)
theorem Po {α:Type} (q:α->Bool):∀(l:List α) (j:Nat),decide (0<=OD q l j)=l.any q
 | [],j=>rfl
 |x::r,j=>by
  rw [OD,List.any_cons]
  cases h:q x
  .rw [iN (by simp),Po q r (j+1),Bool.false_or]
  .rw [iP rfl];simp
attribute [go_sem] C3
abbrev sx (s:qB):AV:=.s s
def tw (l:List qB):Bool:=!decide l.Nodup
theorem QD (h:l.Nodup) (hx:x ∉ l):(l++[x]).Nodup:=by
 rw [List.nodup_append]
 exact ⟨h,by simp,fun a ha b hb e=>by simp at hb;subst hb;subst e;exact hx ha⟩
theorem Ak7 {j:Nat} (ex:l[j]?=some x) (h:x∈l.take j):tw l=true:=by
 simp only [tw,Bool.not_eq_true',decide_eq_false_iff_not]
 intro hn
 have e:l=l.take j++x::l.drop (j+1):=by rw [<-A2 ex,List.take_append_drop]
 rw [e,List.nodup_append] at hn
 exact hn.2.2 x h x (by simp) rfl
theorem Fe (l:List qB) (hl:l.length<=9223372036854775806) (hp:CH) (m:Nat):Ae prog 179 hp m [.ds (Bq l)] (.b (tw l)):=by
 refine Al func179 (tA cc179) (tB cc179) (tC cc179) rfl fun hf=>?_;unfold ck179
 simp only [go_sem]
 refine loop (fun p:Nat×Nat=>⟨[(0,.ds (Bq l)),(3,.i .i64 p.1)],hp,p.2⟩) (fun p=>p.1<=l.length∧m<=p.2∧(l.take p.1).Nodup) (fun p=>l.length - p.1) (0,m) ?_ ?_ (fun ⟨j,n⟩ hj=>?_)
 .exact ⟨by simp,by simp,by simp⟩
 .refine Dd ?_
  simp only [go_sem]
 dsimp only at hj
 obtain ⟨Cq,Be,At⟩:=hj
 simp only [go_sem]
 refine Af (fun c=>?_) (fun c=>?_)
 .have c:j<l.length:=by simpa using c
  obtain ⟨x,ex⟩:∃x,l[j]?=some x:=⟨l[j],by simp [c]⟩
  simp only [go_sem]
  refine loop (fun p:Nat×Nat=>⟨[(0,.ds (Bq l)),(3,.i .i64 j),(4,.i .i64 p.1)],hp,p.2⟩) (fun p=>p.1<=j∧m<=p.2∧x ∉ l.take p.1) (fun p=>j - p.1) (0,n) ?_ ?_ (fun ⟨i,n2⟩ hi=>?_)
  .exact ⟨by simp,Be,by simp⟩
  .refine Dd ?_
   simp only [go_sem]
  dsimp only at hi
  obtain ⟨NN,Is,Ed⟩:=hi
  simp only [go_sem]
  refine Af (fun d=>?_) (fun d=>?_)
  .have d:i<j:=by simpa using d
   obtain ⟨y,ey⟩:∃y,l[i]?=some y:=⟨l[i],by simp⟩
   have Vt:i<l.length:=by omega
   simp only [c,d,Vt,Ad (Aa C3 ex),Ad (Aa C3 ey),go_sem]
   refine Af (fun q=>?_) (fun q=>?_)
   .have q:x=y:=by simpa using q
    subst q
    have:=Ak7 ex (zla (i:=i) (by rw [List.getElem?_take,iP d];exact ey))
    rw [this]
    simp only [go_sem]
   .have q:¬x=y:=by simpa using q
    simp only [go_sem]
    refine ⟨(i+1,_),⟨by dsimp only;omega,by dsimp only;omega,?_⟩,by dsimp only;omega,Dd ?_⟩
    .dsimp only
     rw [<-Bc ey]
     simp [Ed,q]
    .simp only [Ao i (by omega),go_sem]
  .have d:i=j:=by simp at d;omega
   subst d
   simp only [go_sem]
   refine ⟨(i+1,n2),⟨by dsimp only;omega,by dsimp only;omega,by dsimp only;rw [<-Bc ex];exact QD At Ed⟩,by dsimp only;omega,Dd ?_⟩
   simp only [Ao i (by omega),go_sem]
 .have c:j=l.length:=by simp at c;omega
  subst c
  rw [List.take_length] at At
  have:tw l=false:=by simp [tw,At]
  rw [this]
  simp only [go_sem]
mutual
def WI:Ag->Int
 | .mk _ _ _ i _=>IntKind.i64.wrap (dpL i 0+1)
def dpL:List Ag->Int->Int
 | [],n=>n
 |x::r,n=>dpL r (if n<WI x then WI x else n)
end
theorem Aei (v:Ag):WI v=IntKind.i64.wrap (dpL v.items 0+1):=by cases v;rw [WI];rfl
theorem UA (v:Ag) (h3:v.items.length*80<=140737488355327) (h:∀x∈v.items,∀hp m,Ae prog 158 hp m [vx x] (.i .i64 (WI x))) (hp:CH) (m:Nat):Ae prog 158 hp m [vx v] (.i .i64 (WI v)):=by
 obtain ⟨D,hD⟩:=A7 (dpL v.items 0)
 have hd:=Aei v
 rw [hD] at hd
 rw [hd]
 refine Al func158 (tA cc158) (tB cc158) (tC cc158) rfl fun hf=>?_;unfold ck158
 simp only [go_sem]
 refine loop (fun p:Nat×Int×Nat=>⟨[(1,.bx m 0),(3,.i .i64 p.2.1),(4,.i .i64 p.1)],(m,.bx [.i .i64 v.k,.i .i64 v.n,.s v.s,.ds (Ab Aw v.items),.ds (Bq v.keys)])::hp,p.2.2⟩)
  (fun p=>p.1<=v.items.length∧m+1<=p.2.2∧D=dpL (v.items.drop p.1) p.2.1) (fun p=>v.items.length - p.1) (0,0,m+1) ?_ ?_ (fun ⟨j,a,n⟩ hj=>?_)
 .exact ⟨by dsimp only;omega,by dsimp only;omega,hD.symm⟩
 .refine Dd ?_
  simp only [go_sem]
 dsimp only at hj
 simp only [go_sem]
 refine Af (fun d=>?_) (fun d=>?_)
 .have d:j<v.items.length:=by simpa using d
  obtain ⟨x,ex⟩:∃x,v.items[j]?=some x:=⟨v.items[j],by simp [d]⟩
  have hx:=h x (zla ex)
  have e:=A2 ex
  rw [e,dpL] at hj
  simp only [d,Ad (Aa Aw ex),go_sem]
  refine Ac.f (hx _ _) ?_
  simp only [go_sem]
  refine ⟨(j+1,(if a<WI x then WI x else a),n),by dsimp only;exact ⟨by omega,by omega,hj.2.2⟩,by dsimp only;omega,Dd ?_⟩
  simp only [Ao j (by omega),go_sem]
 .have d:j=v.items.length:=by simp at d;omega
  subst d
  rw [zll,dpL] at hj
  simp only [go_sem]
  rw [hj.2.2]
theorem Mm (v:Ag) (hv:v.Fit) (hp:CH) (m:Nat):Ae prog 158 hp m [vx v] (.i .i64 (WI v)):=by
 have:=Ag.ind (Q:=fun v=>v.Fit->∀hp m,Ae prog 158 hp m [vx v] (.i .i64 (WI v))) (fun v ih hv hp m=>UA v hv.i (fun x hx=>ih x hx (hv.x hx)) hp m) v
 exact this hv hp m
def Ot (v:Ag) (lit:Bool):Bool :=
 if v.k=0 then decide (v.n=0)&&decide (v.s=⟨#[]⟩)&&decide ((v.items.length:Int)=0)&&decide ((v.keys.length:Int)=0)
 else if v.k=1 then (decide (v.n=0)||decide (v.n=1))&&decide (v.s=⟨#[]⟩)&&decide ((v.items.length:Int)=0)&&decide ((v.keys.length:Int)=0)
 else if v.k=2 then decide (v.s=⟨#[]⟩)&&decide ((v.items.length:Int)=0)&&decide ((v.keys.length:Int)=0)
 else if v.k=3 then decide (v.n=0)&&decide ((v.items.length:Int)=0)&&decide ((v.keys.length:Int)=0)
 else if v.k=4 then decide (v.n=0)&&decide ((v.items.length:Int)=0)&&decide ((v.keys.length:Int)=0)&&FI v.s&&!decide (v.s=⟨#[116,114,117,101]⟩)&&!decide (v.s=⟨#[102,97,108,115,101]⟩)&&!decide (v.s=⟨#[110,117,108,108]⟩)
 else if v.k=5 then decide (v.n=0)&&decide (v.s=⟨#[]⟩)&&decide ((v.keys.length:Int)=0)
 else if v.k=6 then decide (v.n=0)&&decide (v.s=⟨#[]⟩)&&decide ((v.keys.length:Int)=v.items.length)&&!tw v.keys
 else if v.k=7 then lit&&decide (v.n=0)&&decide ((v.items.length:Int)=0)&&decide ((v.keys.length:Int)=0)&&FI v.s
 else false
theorem Xb (v:Ag) (lit:Bool) (hv:v.Fit) (hp:CH) (m:Nat):Ae prog 174 hp m [vx v,.b lit] (.b (Ot v lit)):=by
 have hl:=hv.l
 refine Al func174 (tA cc174) (tB cc174) (tC cc174) rfl fun hf=>?_;unfold ck174
 simp only [go_sem]
 repeat' (first
  | ((with_reducible refine Af (fun _=>?_) (fun _=>?_))<;>(try simp only [go_sem]))
  | ((with_reducible apply Ac.f);exact BN _ _ _;try simp only [go_sem])
  | ((with_reducible apply AH.f);exact fun _=>BN _ _ _;try simp only [go_sem])
  | ((with_reducible apply AJ.f);exact fun _ _ _=>BN _ _ _;try simp only [go_sem])
  | ((with_reducible apply Au.f);exact fun _ _ _=>BN _ _ _;try simp only [go_sem])
  | ((with_reducible apply Ac.f);exact Fe v.keys (by omega) _ _;try simp only [go_sem])
  | ((with_reducible apply AH.f);exact fun _=>Fe v.keys (by omega) _ _;try simp only [go_sem])
  | ((with_reducible apply AJ.f);exact fun _ _ _=>Fe v.keys (by omega) _ _;try simp only [go_sem])
  | ((with_reducible apply Au.f);exact fun _ _ _=>Fe v.keys (by omega) _ _;try simp only [go_sem])
  | ((with_reducible apply Ac.p);exact BN _ _ _;(focus (simp only [go_sem];done));try simp only [go_sem])
  | ((with_reducible apply Ac.p);exact Fe v.keys (by omega) _ _;(focus (simp only [go_sem];done));try simp only [go_sem])
  | ((with_reducible refine II (fun _=>?_) (fun _=>?_))<;>(try simp only [go_sem]))
  | ((with_reducible refine AH.s (J5 (fun _=>?_) (fun _=>?_)))<;>(try simp only [go_sem]))
  | ((with_reducible refine G2.m ?_ (fun _ _=>?_));rotate_left;try simp only [go_sem])
  |exact HZ (fun _=>rfl)
  |exact GN (fun _=>⟨rfl,rfl⟩)
  | with_reducible refine And.intro ?_ ?_)
 all_goals clear hf hl hv
 all_goals simp only [decide_eq_true_eq,decide_eq_false_iff_not] at *
 all_goals simp only [Ot, *,↓reduceIte,Zh]
def Td (v:Ag) (lit:Bool):Bool:=Ot v lit&&!(lit&&v.keys.any fun k=>!FI k)
mutual
def V5 (lit:Bool):Ag->Bool
 | .mk k n s i l=>Td (.mk k n s i l) lit&&evL lit i
def evL (lit:Bool):List Ag->Bool
 | []=>true
 |x::r=>V5 lit x&&evL lit r
end
theorem Acr (lit:Bool) (v:Ag):V5 lit v=(Td v lit&&evL lit v.items):=by cases v;rw [V5];rfl
theorem X5 (v:Ag) (lit:Bool) (hv:v.Fit) (h:∀x∈v.items,∀hp m,Ae prog 159 hp m [vx x,.b lit] (.b (V5 lit x))) (hp:CH) (m:Nat):Ae prog 159 hp m [vx v,.b lit] (.b (V5 lit v)):=by
 have h1:=hv.i
 have h2:=hv.l
 have e0:=Acr lit v
 refine Al func159 (tA cc159) (tB cc159) (tC cc159) rfl fun hf=>?_;unfold ck159
 simp only [go_sem]
 refine Ac.f (Xb v lit hv _ _) ?_
 simp only [go_sem]
 refine Af (fun c=>?_) (fun c=>?_)
 .have c:Ot v lit=false:=by simpa using c
  rw [e0,Td,c,zy,zy]
  simp only [go_sem]
 have c:Ot v lit=true:=by simpa using c
 rw [Td,c,zt] at e0
 simp only [go_sem]
 refine loop (fun p:Nat×Nat=>⟨[(1,.b lit),(2,.bx m 0),(5,.i .i64 p.1)],(m,.bx [.i .i64 v.k,.i .i64 v.n,.s v.s,.ds (Ab Aw v.items),.ds (Bq v.keys)])::hp,p.2⟩)
  (fun p=>p.1<=v.keys.length∧m+1<=p.2∧(lit&&v.keys.any fun k=>!FI k)=(lit&&(v.keys.drop p.1).any fun k=>!FI k)) (fun p=>v.keys.length - p.1) (0,m+1) ?_ ?_ (fun ⟨j,n⟩ hj=>?_)
 .exact ⟨by simp,by simp,rfl⟩
 .refine Dd ?_
  simp only [go_sem]
 dsimp only at hj
 obtain ⟨Cq,Be,At⟩:=hj
 simp only [go_sem]
 refine Af (fun d=>?_) (fun d=>?_)
 .have d:j<v.keys.length:=by simpa using d
  obtain ⟨x,ex⟩:∃x,v.keys[j]?=some x:=⟨v.keys[j],by simp [d]⟩
  rw [A2 ex,List.any_cons] at At
  simp only [d,go_sem]
  refine II (fun g=>?_) (fun g=>?_)
  .subst g
   simp only [d,Ad (Aa C3 ex),go_sem]
   refine JC (Ac.f (BN x _ _) ?_)
   simp only [go_sem]
   refine Af (fun q=>?_) (fun q=>?_)
   .rw [q] at At
    rw [At] at e0
    rw [e0]
    simp only [go_sem]
   .rw [q,Bool.false_or] at At
    simp only [go_sem]
    refine ⟨(j+1,_),⟨by dsimp only;omega,by dsimp only;omega,At⟩,by dsimp only;omega,Dd ?_⟩
    simp only [Ao j (by omega),go_sem]
  .subst g
   simp only [d,go_sem]
   refine BU ?_
   simp only [go_sem]
   refine ⟨(j+1,_),⟨by dsimp only;omega,by dsimp only;omega⟩,by dsimp only;omega,Dd ?_⟩
   simp only [Ao j (by omega),go_sem]
 .have d:j=v.keys.length:=by simp at d;omega
  subst d
  rw [zll,List.any_nil,Bool.and_false] at At
  rw [At,Bool.not_false,zt] at e0
  simp only [go_sem]
  refine loop (fun p:Nat×Nat=>⟨[(1,.b lit),(2,.bx m 0),(6,.i .i64 p.1)],(m,.bx [.i .i64 v.k,.i .i64 v.n,.s v.s,.ds (Ab Aw v.items),.ds (Bq v.keys)])::hp,p.2⟩)
   (fun p=>p.1<=v.items.length∧m+1<=p.2∧V5 lit v=evL lit (v.items.drop p.1)) (fun p=>v.items.length - p.1) (0,n) ?_ ?_ (fun ⟨j,n⟩ hj=>?_)
  .exact ⟨by simp,Be,e0⟩
  .refine Dd ?_
   simp only [go_sem]
  dsimp only at hj
  obtain ⟨Cq,Be,At⟩:=hj
  simp only [go_sem]
  refine Af (fun d=>?_) (fun d=>?_)
  .have d:j<v.items.length:=by simpa using d
   obtain ⟨x,ex⟩:∃x,v.items[j]?=some x:=⟨v.items[j],by simp [d]⟩
   rw [A2 ex,evL] at At
   simp only [d,Ad (Aa Aw ex),go_sem]
   refine Ac.f (h x (zla ex) _ _) ?_
   simp only [go_sem]
   refine Af (fun q=>?_) (fun q=>?_)
   .have q:V5 lit x=false:=by simpa using q
    rw [At,q,zy]
    simp only [go_sem]
   .have q:V5 lit x=true:=by simpa using q
    rw [q,zt] at At
    simp only [go_sem]
    refine ⟨(j+1,_),⟨by dsimp only;omega,by dsimp only;omega,At⟩,by dsimp only;omega,Dd ?_⟩
    simp only [Ao j (by omega),go_sem]
  .have d:j=v.items.length:=by simp at d;omega
   subst d
   rw [zll,evL] at At
   rw [At]
   simp only [go_sem]
theorem Pm (v:Ag) (lit:Bool) (hv:v.Fit) (hp:CH) (m:Nat):Ae prog 159 hp m [vx v,.b lit] (.b (V5 lit v)):=by
 have:=Ag.ind (Q:=fun v=>v.Fit->∀hp m,Ae prog 159 hp m [vx v,.b lit] (.b (V5 lit v))) (fun v ih hv hp m=>X5 v lit hv (fun x hx=>ih x hx (hv.x hx)) hp m) v
 exact this hv hp m
def D9 (lit:Bool) (v:Ag):Bool:=decide (Vm v<=4096)&&decide (WI v<=24)&&V5 lit v
theorem UL (v:Ag) (hv:v.Fit) (hp:CH) (m:Nat):Ae prog 168 hp m [vx v] (.b (D9 false v)):=by
 rw [D9]
 refine Al func168 (tA cc168) (tB cc168) (tC cc168) rfl fun hf=>?_;unfold ck168
 simp only [go_sem]
 refine Ac.f (Nt v hv _ _) ?_
 simp only [go_sem]
 refine AH.f (fun _=>Mm v hv _ _) ?_
 simp only [go_sem]
 refine AH.f (fun _=>Pm v false hv _ _) ?_
 simp only [go_sem]
end
