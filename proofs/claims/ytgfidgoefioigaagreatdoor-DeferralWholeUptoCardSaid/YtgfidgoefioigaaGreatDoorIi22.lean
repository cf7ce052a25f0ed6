/- Proof. Conditions: none. -/
import Derived.Test.YtgfidgoefioigaaGreatDoorIi21
open Go.Proofs.Tryz
open List renaming mem_of_getElem?→zla,length_cons→zlc,cons_append→zlh,drop_length→zll
open Nat renaming le_refl→zna
namespace Go.Proofs.YtgfidgoefioigaaGreatDoor
open Go.Eng
set_option linter.all false
set_option maxRecDepth 20000
def Dv:Az:=.mk 0 ⟨#[]⟩ [] [] [] [] []
noncomputable def DH (o:Option Az):AV:=.tp [JN (o.getD Dv),.b o.isSome]
theorem FO (t:Az) (l:List Az) (n:ByteArray):A1 (t::l) n=if t.n=n then some t else A1 l n:=by
 unfold A1
 rw [List.find?_cons]
 by_cases c:t.n=n
 .simp [c]
 .simp [c]
theorem DX (l:List Az) (hl:l.length≤1000000000000) (n:ByteArray) (hp:CH) (m:Nat):Ah prog 153 hp m [B5 l,.s n] (DH (A1 l n)):=by
 obtain ⟨R,hR⟩:∃R,A1 l n=R:=⟨_,rfl⟩
 rw [hR,DH]
 refine Am func153 (by kernel_rfl) cc153 cr153 rfl fun hf=>?_;unfold ck153
 simp only [go_sem]
 refine loop (fun p:Nat × Nat=>⟨[(1,.s n),(4,.bx (m+1) 0),(9,.ds (Ad BB l)),(10,.i .i64 l.length),(11,.i .i64 p.1)],(m+1,.bx [.i .i64 0,.s ⟨#[]⟩,.e0,.e0,.e0,.e0,.e0])::hp,p.2⟩)
  (fun p=>p.1≤l.length∧m+2≤p.2∧R=A1 (l.drop p.1) n) (fun p=>l.length - p.1) (0,m+2) ?_ ?_ (fun ⟨j,k⟩ hj=>?_)
 .exact ⟨by simp,by simp,hR.symm⟩
 .refine Ac ?_ (A6.cons ?_ (A6.base hf ?_)) (zna _)
  all_goals (simp (disch:=omega) only [Aa,go_sem])
 dsimp only at hj
 obtain ⟨Cm,Ba,Aw⟩:=hj
 simp (disch:=omega) only [Aa,go_sem]
 refine Ai (fun q=>?_) (fun q=>?_)
 .have q:j<l.length:=by simpa using q
  obtain ⟨t,et⟩:∃t,l[j]?=some t:=⟨l[j],by simp [q]⟩
  rw [A5 et,FO] at Aw
  have LW:m≤k:=by omega
  simp (disch:=omega) only [Aa,q,Ag (Ab BB et),go_sem]
  refine Ai (fun c=>?_) (fun c=>?_)
  .have c:t.n=n:=by simpa using c
   rw [if_pos c] at Aw
   subst Aw
   simp (disch:=omega) only [Aa,LW,go_sem]
  .have c:¬t.n=n:=by simpa using c
   rw [if_neg c] at Aw
   simp (disch:=omega) only [Aa,go_sem]
   refine ⟨(j+1,_),⟨by dsimp only;omega,by dsimp only;omega,Aw⟩,by dsimp only;omega,Ac ?_ (A6.cons ?_ (A6.base hf ?_)) (zna _)⟩
   all_goals
    simp (disch:=omega) only [Aa,At j (by omega),LW,go_sem]
 .have q:j=l.length:=by simp at q;omega
  subst q
  rw [zll] at Aw
  have Aw:R=none:=Aw
  subst Aw
  simp (disch:=omega) only [Aa,go_sem]
  rfl
theorem BM (l:List Az) (hl:l.length≤1000000000000) (n:ByteArray) (hp:CH) (m:Nat):Ah prog 46 hp m [B5 l,.s n] (DH (A1 l n)):=by
 obtain ⟨R,hR⟩:∃R,A1 l n=R:=⟨_,rfl⟩
 rw [hR,DH]
 refine Am func46 (by kernel_rfl) cc46 cr46 rfl fun hf=>?_;unfold ck46
 simp only [go_sem]
 refine loop (fun p:Nat × Nat=>⟨[(1,.s n),(2,.bx m 0),(4,.bx (m+1) 0),(6,.i .i64 p.1)],(m,.bx [.ds (Ad BB l)])::(m+1,.bx [.i .i64 0,.s ⟨#[]⟩,.e0,.e0,.e0,.e0,.e0])::hp,p.2⟩)
  (fun p=>p.1≤l.length∧m+2≤p.2∧R=A1 (l.drop p.1) n) (fun p=>l.length - p.1) (0,m+2) ?_ ?_ (fun ⟨j,k⟩ hj=>?_)
 .exact ⟨by simp,by simp,hR.symm⟩
 .refine Ac ?_ (A6.cons ?_ (A6.cons ?_ (A6.base hf ?_))) (zna _)
  all_goals (simp (disch:=omega) only [Aa,go_sem])
 dsimp only at hj
 obtain ⟨Cm,Ba,Aw⟩:=hj
 simp (disch:=omega) only [Aa,go_sem]
 refine Ai (fun q=>?_) (fun q=>?_)
 .have q:j<l.length:=by simpa using q
  obtain ⟨t,et⟩:∃t,l[j]?=some t:=⟨l[j],by simp [q]⟩
  rw [A5 et,FO] at Aw
  have LW:m≤k:=by omega
  simp (disch:=omega) only [Aa,q,Ag (Ab BB et),go_sem]
  refine Ai (fun c=>?_) (fun c=>?_)
  .have c:t.n=n:=by simpa using c
   rw [if_pos c] at Aw
   subst Aw
   simp (disch:=omega) only [Aa,LW,q,Ag (Ab BB et),go_sem]
  .have c:¬t.n=n:=by simpa using c
   rw [if_neg c] at Aw
   simp (disch:=omega) only [Aa,go_sem]
   refine ⟨(j+1,_),⟨by dsimp only;omega,by dsimp only;omega,Aw⟩,by dsimp only;omega,Ac ?_ (A6.cons ?_ (A6.cons ?_ (A6.base hf ?_))) (zna _)⟩
   all_goals
    simp (disch:=omega) only [Aa,At j (by omega),LW,go_sem]
 .have q:j=l.length:=by simp at q;omega
  subst q
  rw [zll] at Aw
  have Aw:R=none:=Aw
  subst Aw
  simp (disch:=omega) only [Aa,go_sem]
  rfl
theorem G9 (n:ByteArray) (hp:CH) (m:Nat):Ah prog 150 hp m [.s n] (.b (Ck n)):=by
 unfold Ck
 refine Am func150 (by kernel_rfl) cc150 cr150 rfl fun hf=>?_;unfold ck150
 simp only [Bool.or_assoc,go_sem]
theorem Ds (n:ByteArray) (hp:CH) (m:Nat):Ah prog 123 hp m [.s n] (.b (Ck n)):=by
 unfold Ck
 refine Am func123 (by kernel_rfl) cc123 cr123 rfl fun hf=>?_;unfold ck123
 simp only [Bool.or_assoc,go_sem]
theorem Qj (l:List Az) (hl:l.length≤1000000000000) (n:ByteArray) (hp:CH) (m:Nat):Ah prog 151 hp m [B5 l,.s n] (.i .i64 (Ft l n)):=by
 have h1:=DX l hl n
 have e:Ft l n=((A1 l n).getD Dv).k:=by
  unfold Ft
  cases A1 l n<;>rfl
 rw [e]
 obtain ⟨R,hR⟩:∃R,A1 l n=R:=⟨_,rfl⟩
 rw [hR] at h1 ⊢
 rw [DH] at h1
 refine Am func151 (by kernel_rfl) cc151 cr151 rfl fun hf=>?_;unfold ck151
 simp only [go_sem]
 refine Af.f (h1 _ _) ?_
 simp only [go_sem]
theorem Kh (l:List Az) (hl:l.length≤1000000000000) (n:ByteArray) (hp:CH) (m:Nat):Ah prog 114 hp m [B5 l,.s n] (.b (Mw l n)):=by
 unfold Mw
 refine Am func114 (by kernel_rfl) cc114 cr114 rfl fun hf=>?_;unfold ck114
 simp only [go_sem]
 refine Af.f (Qj l hl n _ _) ?_
 simp only [go_sem]
 refine Af.f (G9 n _ _) ?_
 simp only [Bool.or_assoc,go_sem]
def FG (k:Int):ByteArray:=if k=1 then ⟨#[81,117,101,114,121]⟩ else if k=2 then ⟨#[77,117,116,97,116,105,111,110]⟩ else if k=3 then ⟨#[83,117,98,115,99,114,105,112,116,105,111,110]⟩ else ⟨#[]⟩
theorem H8 (k:Int) (hp:CH) (m:Nat):Ah prog 8 hp m [.i .i64 k] (.s (FG k)):=by
 refine Am func8 (by kernel_rfl) cc8 cr8 rfl fun hf=>?_;unfold ck8
 simp only [go_sem]
 repeat' (first
  | ((with_reducible refine Ai (fun _=>?_) (fun _=>?_))<;>(try simp only [go_sem]))
  | ((with_reducible refine HD (fun _=>?_) (fun _=>?_))<;>(try simp only [go_sem]))
  | ((with_reducible refine AA.s (Ix (fun _=>?_) (fun _=>?_)))<;>(try simp only [go_sem]))
  | ((with_reducible refine F5.m ?_ (fun _ _=>?_));rotate_left;try simp only [go_sem])
  | exact GY (fun _=>rfl)
  | exact FV (fun _=>⟨rfl,rfl⟩)
  | with_reducible refine And.intro ?_ ?_)
 all_goals clear hf
 all_goals grind [FG]
def SD (n:Int):Int:=IntKind.i64.wrap n
def Vx:List Cd→Int→Int
 | [],n=>n
 | f::r,n=>Vx r (SD (n+SD (f.args.length+f.dirs.length)))
def Afb (t:Az):Int:=SD (SD (SD (SD (SD (1+t.fields.length)+t.members.length)+t.inputs.length)+t.dirs.length)+t.impl.length)
def R0:List Az→Int→Int
 | [],n=>n
 | t::r,n=>R0 r (Vx t.fields (SD (n+Afb t)))
def N0 (l:List Az):Bool:=if 70<(l.length:Int) then true else decide (1000<R0 l 0)
theorem Pu (l:List Az) (hl:l.length≤1000000000000) (hF:∀t∈l,t.fields.length≤1000000000000) (hp:CH) (m:Nat):Ah prog 19 hp m [B5 l] (.b (N0 l)):=by
 obtain ⟨R,hR⟩:∃R,N0 l=R:=⟨_,rfl⟩
 have e:=hR
 rw [N0] at e
 rw [hR]
 refine Am func19 (by kernel_rfl) cc19 cr19 rfl fun hf=>?_;unfold ck19
 simp only [go_sem]
 refine Ai (fun c=>?_) (fun c=>?_)
 .have c:70<(l.length:Int):=by simpa using c
  rw [if_pos c] at e
  subst e
  simp only [go_sem]
 have c:¬70<(l.length:Int):=by simpa using c
 rw [if_neg c] at e
 simp only [go_sem]
 refine loop (fun p:Nat × Int × Nat=>⟨[(1,.bx m 0),(3,.i .i64 p.2.1),(4,.i .i64 p.1)],(m,.bx [.ds (Ad BB l)])::hp,p.2.2⟩)
  (fun p=>p.1≤l.length∧m+1≤p.2.2∧R=decide (1000<R0 (l.drop p.1) p.2.1)) (fun p=>l.length - p.1) (0,0,m+1) ?_ ?_ (fun ⟨j,z,k⟩ hj=>?_)
 .exact ⟨by simp,by simp,e.symm⟩
 .refine Ac ?_ (A6.cons ?_ (A6.base hf ?_)) (zna _)
  all_goals (simp (disch:=omega) only [Aa,go_sem])
 dsimp only at hj
 obtain ⟨Cm,Ba,Aw⟩:=hj
 simp (disch:=omega) only [Aa,go_sem]
 refine Ai (fun q=>?_) (fun q=>?_)
 .have q:j<l.length:=by simpa using q
  obtain ⟨t,et⟩:∃t,l[j]?=some t:=⟨l[j],by simp [q]⟩
  have htF:=hF t (zla et)
  rw [A5 et,R0] at Aw
  have LW:m≤k:=by omega
  simp (disch:=omega) only [Aa,q,Ag (Ab BB et),go_sem]
  refine loop (fun p:Nat × Int × Nat=>⟨[(1,.bx m 0),(3,.i .i64 p.2.1),(4,.i .i64 j),(5,.bx k 0),(6,.i .i64 p.1)],(m,.bx [.ds (Ad BB l)])::(k,.bx [.i .i64 t.k,.s t.n,.ds t.impl,.ds t.dirs,.ds (Ad Bq t.fields),.ds t.members,.ds t.inputs])::hp,p.2.2⟩)
   (fun p=>p.1≤t.fields.length∧k+1≤p.2.2∧R=decide (1000<R0 (l.drop (j+1)) (Vx (t.fields.drop p.1) p.2.1))) (fun p=>t.fields.length - p.1) (0,SD (z+Afb t),k+1) ?_ ?_ (fun ⟨i,z2,k2⟩ hi=>?_)
  .exact ⟨by simp,by simp,Aw⟩
  .refine Ac ?_ (A6.cons ?_ (A6.cons ?_ (A6.base hf ?_))) (zna _)
   all_goals (simp (disch:=omega) only [Aa,LW,go_sem])
   all_goals rfl
  dsimp only at hi
  obtain ⟨Md,Ij,Ex⟩:=hi
  simp (disch:=omega) only [Aa,go_sem]
  refine Ai (fun q2=>?_) (fun q2=>?_)
  .have q2:i<t.fields.length:=by simpa using q2
   obtain ⟨f,ef⟩:∃f,t.fields[i]?=some f:=⟨t.fields[i],by simp [q2]⟩
   rw [A5 ef,Vx] at Ex
   simp (disch:=omega) only [Aa,q2,Ag (Ab Bq ef),go_sem]
   refine ⟨(i+1,SD (z2+SD (f.args.length+f.dirs.length)),_),⟨by dsimp only;omega,by dsimp only;omega,Ex⟩,by dsimp only;omega,Ac ?_ (A6.cons ?_ (A6.cons ?_ (A6.base hf ?_))) (zna _)⟩
   all_goals
    simp (disch:=omega) only [Aa,At i (by omega),LW,SD,go_sem]
  .have q2:i=t.fields.length:=by simp at q2;omega
   subst q2
   rw [zll,Vx] at Ex
   simp (disch:=omega) only [Aa,go_sem]
   refine ⟨(j+1,z2,_),⟨by dsimp only;omega,by dsimp only;omega,Ex⟩,by dsimp only;omega,Ac ?_ (A6.cons ?_ (A6.base hf ?_)) (zna _)⟩
   all_goals
    simp (disch:=omega) only [Aa,At j (by omega),LW,go_sem]
 .have q:j=l.length:=by simp at q;omega
  subst q
  rw [zll,R0] at Aw
  subst Aw
  simp (disch:=omega) only [Aa,go_sem]
noncomputable def AF (v:Ak) (k:ByteArray):Option Ak:=if v.k=6 then (if 0≤ix k v.keys 0 then v.items[(ix k v.keys 0).toNat]? else none) else none
noncomputable def Na (o:Option Ak):AV:=.tp [vx (o.getD AB),.b o.isSome]
attribute [go_sem] Na AB Option.getD_none Option.getD_some Option.isSome_none Option.isSome_some
theorem IL (v:Ak) (hv:v.Fit) (k:ByteArray) (hp:CH) (m:Nat):Ah prog 96 hp m [vx v,.s k] (Na (AF v k)):=by
 refine Am func96 (by kernel_rfl) cc96 cr96 rfl fun hf=>?_;unfold ck96
 have h1:=hv.l
 have h2:=M0 k v.keys 0
 simp only [go_sem]
 refine Af.f (GJ v.keys k (by omega) _ _) ?_
 simp only [go_sem]
 refine Ai (fun c=>?_) (fun c=>?_)
 .have e:AF v k=none:=by
   unfold AF
   simp at c
   grind
  rw [e]
  simp only [go_sem]
 .simp at c
  obtain ⟨x,ex⟩:∃x,v.items[(ix k v.keys 0).toNat]?=some x:=⟨v.items[(ix k v.keys 0).toNat],List.getElem?_eq_getElem (by omega)⟩
  have e:AF v k=some x:=by unfold AF;rw [if_pos c.1.1,if_pos c.1.2,ex]
  have hx:=hv.x (zla ex)
  have c3:(ix k v.keys 0).toNat<v.items.length:=by omega
  rw [e]
  simp only [c3,c.1.2,Ag (Ab A2 ex),go_sem]
  refine Af.f (EI x hx _ _) ?_
  simp only [go_sem]
theorem Ca {v:Ak} {k:ByteArray} (h:v.k≠6):AF v k=none:=by unfold AF;rw [if_neg h]
theorem Iw (v:Ak) (hv:v.Fit) (k:ByteArray) (hp:CH) (m:Nat):Ah prog 18 hp m [vx v,.s k] (Na (AF v k)):=by
 refine Am func18 (by kernel_rfl) cc18 cr18 rfl fun hf=>?_;unfold ck18
 have h1:=hv.l
 have h3:=hv.i
 simp only [go_sem]
 refine Ai (fun c=>?_) (fun c=>?_)
 .have c:v.k≠6:=by simpa using c
  rw [Ca c]
  simp only [go_sem]
 have c:v.k=6:=by simpa using c
 simp only [go_sem]
 refine loop (fun p:Nat × Nat=>⟨[(1,.s k),(2,.bx m 0),(4,.bx (m+1) 0),(6,.i .i64 p.1)],(m+1,.bx [.i .i64 0,.i .i64 0,.s ⟨#[]⟩,.e0,.e0])::(m,.bx [.i .i64 v.k,.i .i64 v.n,.s v.s,.ds (Ad A2 v.items),.ds (Bv v.keys)])::hp,p.2⟩)
  (fun p=>p.1≤v.keys.length∧m+2≤p.2∧ix k v.keys 0=ix k (v.keys.drop p.1) p.1) (fun p=>v.keys.length - p.1) (0,m+2) ?_ ?_ (fun ⟨j,n⟩ hj=>?_)
 .grind
 .refine Ac ?_ (A6.refl _) (zna _)
  simp only [go_sem]
 dsimp only at hj
 simp only [go_sem]
 refine Ai (fun d=>?_) (fun d=>?_)
 .have d:j<v.keys.length:=by simpa using d
  obtain ⟨y,ey⟩:∃y,v.keys[j]?=some y:=⟨v.keys[j],by simp [d]⟩
  have e:=A5 ey
  rw [e,ix] at hj
  simp only [d,Ag (Ab C9 ey),go_sem]
  refine Ai (fun d1=>?_) (fun d1=>?_)
  .have d1:k=y:=by simp at d1;exact d1.symm
   rw [if_pos d1] at hj
   simp only [go_sem]
   refine Ai (fun d2=>?_) (fun d2=>?_)
   .have e:AF v k=none:=by
     unfold AF
     rw [if_pos c,hj.2.2,if_pos (by omega),List.getElem?_eq_none (by simp at d2;omega)]
    rw [e]
    simp only [go_sem]
   .have d2:j<v.items.length:=by simp at d2;omega
    obtain ⟨x,ex⟩:∃x,v.items[j]?=some x:=⟨v.items[j],by simp [d2]⟩
    have e:AF v k=some x:=by
     unfold AF
     rw [if_pos c,hj.2.2,if_pos (by omega),Int.toNat_natCast,ex]
    rw [e]
    have hx:=hv.x (zla ex)
    simp only [d2,Ag (Ab A2 ex),go_sem]
    refine Af.f (NK x hx _ _) ?_
    simp only [go_sem]
  .have d1:¬k=y:=by simp at d1;exact fun e=>d1 e.symm
   rw [if_neg d1] at hj
   simp only [go_sem]
   refine ⟨(j+1,n),by dsimp only;omega,by dsimp only;omega,Ac ?_ (A6.refl _) (zna _)⟩
   simp only [At j (by omega),go_sem]
 .have d:j=v.keys.length:=by simp at d;omega
  subst d
  rw [zll,ix] at hj
  have e:AF v k=none:=by
   unfold AF
   rw [if_pos c,hj.2.2,if_neg (by omega)]
  rw [e]
  simp only [go_sem]
theorem D5:AB.Fit:=.mk _ (by simp [AB,Ak.items_mk]) (by simp [AB,Ak.keys_mk]) (by simp [AB,Ak.items_mk])
theorem DQ {v x:Ak} {k:ByteArray} (h:AF v k=some x):x∈v.items:=by
 unfold AF at h
 split at h
 .split at h
  .exact zla h
  .cases h
 .cases h
theorem NI {v:Ak} (hv:v.Fit) (k:ByteArray):((AF v k).getD AB).Fit:=by
 cases h:AF v k with
 | none=>exact D5
 | some x=>exact hv.x (DQ h)
inductive Ea where
 | mk (p:List Ak) (t:ByteArray)
def Ea.p:Ea→List Ak | .mk p _=>p
theorem Ea.p_mk (p:List Ak) (t:ByteArray):(Ea.mk p t).p=p:=rfl
def Ea.t:Ea→ByteArray | .mk _ t=>t
theorem Ea.t_mk (p:List Ak) (t:ByteArray):(Ea.mk p t).t=t:=rfl
theorem Ea.ext {x y:Ea} (h0:x.p=y.p) (h1:x.t=y.t):x=y:=by cases x;cases y;simp only [Ea.p_mk,Ea.t_mk] at *;simp [*]
def CZ (x:Ea):List AV:=[.ds (Ad A2 x.p),.s x.t]
attribute [go_sem] CZ Ea.p_mk Ea.t_mk
attribute [grind =] Ea.p_mk Ea.t_mk
attribute [ext] Ea.ext
attribute [grind ext] Ea.ext
instance bytesLawful:LawfulBEq ByteArray where
 eq_of_beq h:=by rw [Dk] at h;simpa using h
 rfl:=by intro a;rw [Dk];simp
def FSw (w:List Int):Bool:=decide (w.head?=some 1)
def Cz (w:List Int):List Int:=if FSw w=true then w.tail else w
def CK (w:List Int):Bool:=decide ((Cz w).head?=some 2)
def DT (w:List Int):List Int:=(Cz w).tail
theorem Cs (w:List Int):(Cz w).length≤w.length:=by
 unfold Cz
 split
 .simp
 .exact zna _
theorem No (w:List Int):(DT w).length≤w.length:=by
 have:=Cs w
 simp only [DT,List.length_tail]
 omega
def Gg (l:List (List AV)):List ByteArray:=l.map fun e=>match e with
 | [.s x]=>x
 | _=>⟨#[]⟩
theorem Aaf (l:List ByteArray):Gg (Bv l)=l:=by
 induction l with
 | nil=>rfl
 | cons x l ih =>
  have:Gg (Bv (x::l))=x::Gg (Bv l):=rfl
  rw [this,ih]
def Fh (l:List (List AV)):List ByteArray:=l.map fun e=>match e with
 | .s x::_=>x
 | _=>⟨#[]⟩
structure DefOk (t:Az):Prop where
 impl:t.impl=Bv (Gg t.impl)
 mem:∀e∈t.members,∃x y,e=[.s x,.ds y]
noncomputable def Kg (t:Az) (name:ByteArray) (x:Az):Bool :=
 (decide (t.k=1)&&decide (x.n=name))||((decide (t.k=2)&&decide (name∈Gg x.impl))||(decide (t.k=3)&&decide (x.n∈Fh t.members)))
noncomputable def FF (t:Az) (name:ByteArray):List ByteArray→List Az→List ByteArray
 | _,[]=>[]
 | seen,x::r=>if x.n ∉ seen∧x.k=1∧Kg t name x=true then x.n::FF t name (seen++[x.n]) r else FF t name (seen++[x.n]) r
noncomputable def En (doc:List Az) (name:ByteArray):List ByteArray:=match A1 doc name with
 | none=>[]
 | some t=>FF t name [] doc
theorem He (t:Az) (name:ByteArray):∀(l:List Az) (seen:List ByteArray),(FF t name seen l).length≤l.length
 | [],seen=>by simp [FF]
 | x::r,seen=>by
  rw [FF]
  split
  .simp only [zlc]
   have:=He t name r (seen++[x.n])
   omega
  .simp only [zlc]
   have:=He t name r (seen++[x.n])
   omega
theorem Jp (doc:List Az) (name:ByteArray):(En doc name).length≤doc.length:=by
 unfold En
 split
 .simp
 .exact He _ _ _ _
theorem KI (t:Az) (name:ByteArray) (x:Az):∀(l:List Az) (seen:List ByteArray),FF t name seen (l++[x])=FF t name seen l++(if x.n ∉ seen++l.map Az.n∧x.k=1∧Kg t name x=true then [x.n] else [])
 | [],seen=>by
  rw [List.nil_append,FF,FF,FF,List.map_nil,List.append_nil]
  split<;>simp
 | y::l,seen=>by
  have e:seen++(y::l).map Az.n=(seen++[y.n])++l.map Az.n:=by simp
  rw [zlh,FF,FF,KI t name x l,e]
  split<;>simp
def Oi (n:Int):Ak:=.mk 2 n ⟨#[]⟩ [] []
def enV (s:ByteArray):Ak:=.mk 4 0 s [] []
def boV (n:Int):Ak:=.mk 1 n ⟨#[]⟩ [] []
def V7 (l:List Ak):Ak:=.mk 5 0 ⟨#[]⟩ l []
def LM (ks:List ByteArray) (l:List Ak):Ak:=.mk 6 0 ⟨#[]⟩ l ks
def Kl:ByteArray:=⟨#[73,110,116]⟩
def Ci:ByteArray:=⟨#[83,116,114,105,110,103]⟩
def Cj:ByteArray:=⟨#[66,111,111,108,101,97,110]⟩
def JM:ByteArray:=⟨#[73,68]⟩
def N8:ByteArray:=⟨#[110,117,108,108]⟩
def Ew:ByteArray:=⟨#[116,121,112,101]⟩
noncomputable def R8 (n:ByteArray) (v:Ak):Option Ak :=
 if n=Kl∧v.k=2∧-2147483648≤v.n∧v.n≤2147483647 then some (Oi v.n)
 else if (n=Ci∨n=JM)∧v.k=3 then some (Hp v.s)
 else if n=JM∧v.k=2 then some (Hp (R4 (Lib.itoa v.n)))
 else if n=Cj∧v.k=1 then some (boV v.n)
 else none
noncomputable def GQ (doc:List Az) (n:ByteArray) (v:Ak):Option Ak :=
 if Ck n=true then R8 n v
 else if Ft doc n=4∧v.k=4∧v.s∈Fh ((A1 doc n).getD Dv).members then some (enV v.s) else none
noncomputable def E9 (doc:List Az) (n:ByteArray):Bool:=Ck n||decide (Ft doc n=4)
abbrev Ge:=Ak × List Ea
abbrev Gq:=ByteArray→List Int→List Pk→List Ak→Ge
def Fc (path:List Ak) (s:ByteArray):Ge:=(AB,[.mk path s])
def JR (tw:List Int) (path:List Ak):Ge:=if FSw tw=true then Fc path N8 else (AB,[])
def zFn:Gq:=fun _ tw _ path=>JR tw path
def HU (tw:List Int) (v:Ak):Bool:=decide (v.k=0)&&FSw tw
noncomputable def GR (fs:List Gq) (j:Nat) (tn:ByteArray) (tw:List Int) (picks:List Pk) (path:List Ak):List Ge:=match fs with
 | []=>[]
 | f::r=>f tn tw picks (path++[Oi j])::GR r (j+1) tn tw picks path
noncomputable def itF (ks:List ByteArray) (fs:List Gq) (key:ByteArray):Gq:=if 0≤ix key ks 0 then (fs[(ix key ks 0).toNat]?).getD zFn else zFn
noncomputable def GT (ks:List ByteArray) (fs:List Gq) (on:ByteArray) (path:List Ak) (picks:List Pk):List (Pk × Ge) :=
 (picks.filter fun p=>decide (p.on=on)).map fun p=>(p,itF ks fs p.key p.tn p.tw p.picks (path++[Hp p.key]))
noncomputable def HQ (fs:List Gq) (tn:ByteArray) (tw:List Int) (picks:List Pk) (path:List Ak):Ge :=
 ((if (GR fs 0 tn tw picks path).any (fun r=>HU tw r.1)=true then AB else V7 ((GR fs 0 tn tw picks path).map (·.1))),(GR fs 0 tn tw picks path).flatMap (·.2))
noncomputable def JZ (ks:List ByteArray) (fs:List Gq) (on:ByteArray) (picks:List Pk) (path:List Ak):Ge :=
 ((if (GT ks fs on path picks).any (fun r=>HU r.1.tw r.2.1)=true then AB else LM ((GT ks fs on path picks).map (·.1.key)) ((GT ks fs on path picks).map (·.2.1))),(GT ks fs on path picks).flatMap (·.2.2))
noncomputable def typO (v:Ak):Option ByteArray:=match AF v sT with
 | none=>none
 | some t=>if t.k=3 then some t.s else none
noncomputable def Ms (doc:List Az) (v:Ak) (fs:List Gq):Gq:=fun tn tw picks path =>
 if v.k=9 then Fc path v.s
 else if v.k=0 then JR tw path
 else if CK (Cz tw)=true then (if v.k=5 then HQ fs tn (DT (Cz tw)) picks path else Fc path Ew)
 else if E9 doc tn=true then (match GQ doc tn v with
  | some x=>(x,[])
  | none=>Fc path Ew)
 else match typO v with
  | none=>Fc path Ew
  | some on=>if Mw doc tn=true∧on∈En doc tn then JZ v.keys fs on picks path else Fc path Ew
mutual
noncomputable def Be (doc:List Az):Ak→Gq
 | .mk k n s i l=>Ms doc (.mk k n s i l) (UP doc i)
noncomputable def UP (doc:List Az):List Ak→List Gq
 | []=>[]
 | v::r=>Be doc v::UP doc r
end
theorem T9 (doc:List Az) (l:List Ak):UP doc l=l.map (Be doc):=by
 induction l with
 | nil=>rw [UP];rfl
 | cons v l ih=>rw [UP,ih,List.map_cons]
theorem CY (doc:List Az) (v:Ak):Be doc v=Ms doc v (v.items.map (Be doc)):=by
 cases v
 rw [Be,T9]
 rfl
theorem LO (doc:List Az):Be doc AB=zFn:=by
 rw [CY]
 funext tn tw picks path
 rfl
theorem FM (doc:List Az) (v:Ak) (hv:v.k=6) (key:ByteArray):itF v.keys (v.items.map (Be doc)) key=Be doc ((AF v key).getD AB):=by
 unfold itF AF
 rw [if_pos hv]
 split
 .rw [List.getElem?_map]
  cases v.items[(ix key v.keys 0).toNat]? with
  | none=>exact (LO doc).symm
  | some x=>rfl
 .exact (LO doc).symm
theorem L2:∀(fs:List Gq) (j:Nat) (tn:ByteArray) (tw:List Int) (picks:List Pk) (path:List Ak),(GR fs j tn tw picks path).length=fs.length
 | [],j,tn,tw,picks,path=>by rw [GR];rfl
 | f::r,j,tn,tw,picks,path=>by rw [GR,zlc,zlc,L2 r]
theorem Nz (f:Gq):∀(fs:List Gq) (j:Nat) (tn:ByteArray) (tw:List Int) (picks:List Pk) (path:List Ak),GR (fs++[f]) j tn tw picks path=GR fs j tn tw picks path++[f tn tw picks (path++[Oi (j+fs.length:Nat)])]
 | [],j,tn,tw,picks,path=>by rw [List.nil_append,GR,GR,GR];rfl
 | x::fs,j,tn,tw,picks,path=>by
  rw [zlh,GR,GR,Nz f fs,zlh,zlc]
  have e:(j+1+fs.length:Nat)=j+(fs.length+1):=by omega
  rw [e]
theorem UM (ks:List ByteArray) (fs:List Gq) (on:ByteArray) (path:List Ak) (l:List Pk) (p:Pk) :
  GT ks fs on path (l++[p])=if p.on=on then GT ks fs on path l++[(p,itF ks fs p.key p.tn p.tw p.picks (path++[Hp p.key]))] else GT ks fs on path l:=by
 unfold GT
 rw [List.filter_append,List.map_append]
 by_cases c:p.on=on
 .rw [if_pos c];simp [c]
 .rw [if_neg c];simp [c]
theorem TQ {v:Ak} {on:ByteArray} (h:typO v=some on):v.k=6:=by
 unfold typO AF at h
 split at h
 .cases h
 .rename_i t ht
  split at ht
  .assumption
  .cases ht
end Go.Proofs.YtgfidgoefioigaaGreatDoor
