/- Proof. Conditions: none. -/
import Derived.Test.YtgfidgoefioigaaGreatDoorIj43
noncomputable section
open List renaming mem_cons_of_mem->z16,set_cons_succ->z1s,set_cons_zero->z1w,drop_succ_cons->za,drop_zero->ze,take_succ_cons->z7,getD_cons_zero->zk,getD_cons_succ->zo,append_nil->zg,length_append->zu
open Option renaming map_some->z8,map_none->zr,isSome_some->zb,isSome_none->zn,getD_some->zc
open Nat renaming le_trans->z1p,zero_le->zt
open Go.Proofs.Tryz
open List renaming mem_of_getElem?->zla,length_cons->zlc,length_nil->zle,nil_append->zli,take_of_length_le->zlk,length_take->zlo,take_zero->zlr
open Nat renaming le_refl->zna
namespace Go.Proofs.YtgfidgoefioigaaGreatDoor
open Go.Eng
set_option linter.all false
set_option maxRecDepth 20000
set_option maxHeartbeats 2000000
theorem Pl (q:Pk) (x:Ag):AG (Ei q x)<=AG x:=by
 unfold Ei
 split
 .have h:=IE q x
  unfold BV at h
  rename_i c
  rw [iP c.1] at h
  have e:I5 q.initial x.items.length=q.initial.toNat:=by unfold I5;rw [iN (by omega)];omega
  rw [e] at h
  refine z1p ?_ h
  rw [AE,AE]
  simp only [Ag.items_mk,Ag.keys_mk,zle]
  omega
 .exact zna _
theorem Oc (on key:qB):∀(fs:List CF),(∀x∈fs,∀v,AG (x.2 v)<=AG v)->∀x,AG (Gs on key fs x)<=AG x
 | [],h,x=>zna _
 | (p,f)::r,h,x=>by
  rw [Gs]
  split
  .have h1:=Oc on key r (fun y hy=>h y (z16 _ hy)) (f (Ei p x))
   have h2:=h (p,f) (List.mem_cons_self ..) (Ei p x)
   have h3:=Pl p x
   dsimp only at h2
   omega
  .exact Oc on key r (fun y hy=>h y (z16 _ hy)) x
theorem SY {fs:List CF} (h:∀x∈fs,∀v,AG (x.2 v)<=AG v) (v:Ag):AG (Fk fs v)<=AG v:=by
 refine Ag.ind (Q:=fun v=>AG (Fk fs v)<=AG v) (fun v ih=>?_) v
 rw [E3]
 split
 .rw [AE,AE v]
  simp only [Ag.items_mk,Ag.keys_mk,zle]
  have:∀l:List Ag,(∀x∈l,AG (Fk fs x)<=AG x)->Ci (l.map (Fk fs))<=Ci l:=by
   intro l
   induction l with
   |nil=>intro _;exact zna _
   |cons x l ihl=>
    intro h
    rw [List.map_cons,Ci,Ci]
    have h1:=h x (by simp)
    have h2:=ihl fun y hy=>h y (by simp [hy])
    omega
  have:=this v.items ih
  omega
 .split
  .unfold JU
   rw [AE,AE v]
   simp only [Ag.items_mk,Ag.keys_mk,zlo]
   have:∀(ks:List qB) (l:List Ag),Ci (List.zipWith (fun k x=>Gs (typF v) k fs x) ks l)<=Ci l:=by
    intro ks l
    induction l generalizing ks with
    |nil=>cases ks<;>simp [Ci]
    |cons x l ihl=>
     cases ks with
     |nil=>simp [Ci]
     |cons k ks=>
      rw [List.zipWith_cons_cons,Ci,Ci]
      have h1:=Oc (typF v) k fs h x
      have h2:=ihl ks
      omega
   have:=this v.keys v.items
   omega
  .exact zna _
theorem Abi (p:Pk):∀v,AG (F9 p v)<=AG v :=
 Pk.ind (Q:=fun p=>∀v,AG (F9 p v)<=AG v) (fun p ih v=>by
  rw [Ed]
  exact SY (fun x hx=>by rw [Hj] at hx;obtain ⟨q,hq,rfl⟩:=List.mem_map.1 hx;exact ih q hq) v) p
theorem NP (l:List Pk) (v:Ag):AG (C5 l v)<=AG v :=
 SY (fun x hx=>by rw [Hj] at hx;obtain ⟨q,hq,rfl⟩:=List.mem_map.1 hx;exact Abi q) v
inductive EaS
 | mk (j:Nat) (g:Nat) (n:Nat)
inductive EiS
 | mk (i:Nat) (y:Ag) (n:Nat)
def UH (l:List Pk):Prop:=∀v:Ag,AG v<=1000000000->∀hp m,Af prog 60 hp m [vx v,.ds (Ab AJ l)] (vx (C5 l v))
def eaL (on:qB) (fs:List CF) (v:Ag):List Ag:=List.zipWith (fun k x=>Gs on k fs x) v.keys v.items
theorem Aab (on:qB) (fs:List CF) (v:Ag):(eaL on fs v).length=min v.keys.length v.items.length:=List.length_zipWith ..
theorem Xp {on:qB} {fs:List CF} {v:Ag} {j:Nat} {k:qB} {x:Ag} (hk:v.keys[j]?=some k) (hx:v.items[j]?=some x):(eaL on fs v).take (j+1)=(eaL on fs v).take j++[Gs on k fs x]:=by
 have:(eaL on fs v)[j]?=some (Gs on k fs x):=by unfold eaL;rw [List.getElem?_zipWith,hk,hx]
 rw [<-AN this]
theorem QD (l:List Pk) (hl:l.length<=1000000000) (H:∀p∈l,UH p.picks) (v:Ag) (hw:AG v<=1000000000) (hp:CH) (m:Nat):Af prog 32 hp m [vx v,.ds (Ab AJ l)] (vx (JU (C7 l) v)):=by
 have hv:=CZ v (by omega)
 have hvi:=hv.i
 have Nt:=hv.l
 have hT:=MS v hv
 obtain ⟨on,IH⟩:=A5 (typF v)
 rw [IH] at hT
 have hE:JU (C7 l) v=.mk 6 0 ⟨#[]⟩ (eaL on (C7 l) v) (v.keys.take v.items.length):=by unfold JU eaL;rw [IH]
 rw [hE]
 have Kw:=Aab on (C7 l) v
 obtain ⟨E,hEE⟩:=A5 (eaL on (C7 l) v)
 have hEs:=fun {j:Nat} {k:qB} {x:Ag}=>Xp (on:=on) (fs:=C7 l) (v:=v) (j:=j) (k:=k) (x:=x)
 rw [hEE] at Kw hEs ⊢
 refine Aj func32 (tA cc32) (tB cc32) (tC cc32) rfl fun hf=>?_;unfold ck32
 simp (disch:=omega) only [go_sem]
 refine loop (fun p:EaS=>match p with
  | .mk j g n=>⟨[(1,.ds (Ab AJ l)),(2,.bx m 0),(4,.bx (m+1) 0),(5,.bx (m+2) 0),(6,.i .i64 j)],(m+3,.rw g 5 (Ab Ar (E.take j)))::(m+4,.rw g 1 (Bd (v.keys.take j)))::(m+2,.bx [.i .i64 6,.i .i64 0,.s ⟨#[]⟩,.rw (m+3) g j,.rw (m+4) g j])::(m+1,.bx [.i .i64 0,.i .i64 0,.s ⟨#[]⟩,.e0,.e0])::(m,.bx [.i .i64 v.k,.i .i64 v.n,.s v.s,.ds (Ab Ar v.items),.ds (Bd v.keys)])::hp,n⟩)
  (fun p=>match p with | .mk j g n=>j<=v.items.length∧j<=v.keys.length∧m+5<=n) (fun p=>match p with | .mk j g n=>v.items.length - j) (.mk 0 0 (m+5)) ?_ ?_ (fun p hj=>?_)
 .exact ⟨zt _,zt _,zna _⟩
 .dsimp only
  refine (Co (c:=m+2) (i:=3) (m:=5) (cs:=[.i .i64 6,.i .i64 0,.s ⟨#[]⟩,.e0,.e0]) (by (simp (disch:=omega) only [go_sem])) rfl).trans ((Co (c:=m+2) (i:=4) (m:=1) (cs:=[.i .i64 6,.i .i64 0,.s ⟨#[]⟩,.rw (m+3) 0 0,.e0]) (by (simp (disch:=omega) only [z1s,z1w,go_sem])) rfl).trans (X0 hf ?_ ?_ ?_ ?_ ?_ ?_ (fun a ha c7=>?_) (zna _)))
  .simp (disch:=omega) only [go_sem]
  .simp (disch:=omega) only [go_sem]
   try rfl
  .simp (disch:=omega) only [go_sem]
   try rfl
  .simp (disch:=omega) only [z1s,z1w,go_sem]
  .simp (disch:=omega) only [go_sem]
  .simp (disch:=omega) only [go_sem]
  .repeat rw [Ai _ _ (by omega)]
 obtain ⟨j,g,n⟩:=p
 obtain ⟨Cg,Bc,As⟩:=hj
 have BC:m<=n:=by omega
 have hE1:(Ab Ar (E.take j)).length=j:=by rw [Ao,zlo];omega
 have V7:(Bd (v.keys.take j)).length=j:=by rw [Bd,Ao,zlo];omega
 dsimp only
 simp (disch:=omega) only [go_sem]
 refine Ae (fun q=>?_) (fun q=>?_)
 case' refine_2=>
  have q:¬(j<v.items.length∧j<v.keys.length):=by simpa using q
  have t1:E.take j=E:=zlk (by omega)
  have t2:v.keys.take j=v.keys.take v.items.length:=by
   rcases Nat.lt_or_ge v.items.length v.keys.length with o | o
   .rw [show j=v.items.length by omega]
   .rw [zlk (by omega),zlk o]
  have t3:(v.keys.take v.items.length).take j=v.keys.take v.items.length:=zlk (by rw [zlo];omega)
  rw [t1] at hE1
  rw [t2] at V7
  rw [t1,t2]
  simp (disch:=omega) only [BC,hE1,V7,t1,t3,zna,go_sem]
 have q:j<v.items.length∧j<v.keys.length:=by simpa using q
 obtain ⟨q1,q2⟩:=q
 obtain ⟨x,ex⟩:∃x,v.items[j]?=some x:=⟨v.items[j],by simp [q1]⟩
 obtain ⟨k,ek⟩:∃x,v.keys[j]?=some x:=⟨v.keys[j],by simp [q2]⟩
 have hxw:AG x<=1000000000:=z1p (B1 (zla ex)) (by rw [AE] at hw;omega)
 have hEs:=hEs ek ex
 simp (disch:=omega) only [q1,q2,Ad (Aa Ar ex),go_sem]
 obtain ⟨Z,hZ⟩:=A5 (Gs on k (C7 l) x)
 rw [hZ] at hEs
 refine loop (fun p:EiS=>match p with
  | .mk i y n'=>⟨[(1,.ds (Ab AJ l)),(2,.bx m 0),(4,.bx (m+1) 0),(5,.bx (m+2) 0),(6,.i .i64 j),(7,.bx n 0),(8,.i .i64 i)],(n,.bx [.i .i64 y.k,.i .i64 y.n,.s y.s,.ds (Ab Ar y.items),.ds (Bd y.keys)])::(m+3,.rw g 5 (Ab Ar (E.take j)))::(m+4,.rw g 1 (Bd (v.keys.take j)))::(m+2,.bx [.i .i64 6,.i .i64 0,.s ⟨#[]⟩,.rw (m+3) g j,.rw (m+4) g j])::(m+1,.bx [.i .i64 0,.i .i64 0,.s ⟨#[]⟩,.e0,.e0])::(m,.bx [.i .i64 v.k,.i .i64 v.n,.s v.s,.ds (Ab Ar v.items),.ds (Bd v.keys)])::hp,n'⟩)
  (fun p=>match p with | .mk i y n'=>i<=l.length∧n+1<=n'∧AG y<=1000000000∧Z=Gs on k (C7 (l.drop i)) y) (fun p=>match p with | .mk i y n'=>l.length - i) (.mk 0 x (n+1)) ?_ ?_ (fun p hi=>?_)
 .exact ⟨zt _,zna _,hxw,hZ.symm⟩
 .dsimp only
  refine wX6 hf ?_ ?_ ?_ ?_ ?_ ?_ ?_ (fun a ha c7=>?_) (by omega)
  .simp (disch:=omega) only [go_sem]
  .simp (disch:=omega) only [go_sem]
  .simp (disch:=omega) only [go_sem]
  .simp (disch:=omega) only [go_sem]
  .simp (disch:=omega) only [go_sem]
  .simp (disch:=omega) only [go_sem]
  .simp (disch:=omega) only [go_sem]
  .repeat rw [Ai _ _ (by omega)]
 obtain ⟨i,y,n'⟩:=p
 obtain ⟨LX,HG,Dw,Gq⟩:=hi
 have hmn':m<=n':=by omega
 dsimp only
 simp (disch:=omega) only [go_sem]
 refine Ae (fun d=>?_) (fun d=>?_)
 case' refine_2=>
  have d:i=l.length:=by simp at d;omega
  subst d
  rw [List.drop_length,C7,Gs] at Gq
  subst Gq
  have eg:(Bd v.keys)[j]?=some [.s k]:=Aa Cz ek
  simp (disch:=omega) only [q1,q2,Ad (Aa Cz ek),hE1,V7,go_sem]
  refine ⟨⟨by omega,by omega⟩,by omega,by omega,.mk (j+1) (g+1) (n'+60),⟨show j+1<=v.items.length by omega,show j+1<=v.keys.length by omega,show m+5<=n'+60 by omega⟩,by show v.items.length - (j+1)<v.items.length - j;omega,?_⟩
  dsimp only
  refine X0 hf ?_ ?_ ?_ ?_ ?_ ?_ (fun a ha c7=>?_) (by omega)
  .simp (disch:=omega) only [Ap j (by omega),go_sem]
  .simp (disch:=omega) only [hEs,go_sem]
  .simp (disch:=omega) only [<-AN ek,go_sem]
   try rfl
  .simp (disch:=omega) only [go_sem]
  .simp (disch:=omega) only [go_sem]
  .simp (disch:=omega) only [go_sem]
  .repeat rw [Ai _ _ (by omega)]
 have d:i<l.length:=by simpa using d
 obtain ⟨z,ez⟩:∃x,l[i]?=some x:=⟨l[i],by simp [d]⟩
 have hz:=H z (zla ez)
 rw [A2 ez,C7,Gs,Ed] at Gq
 have gz:(Ab AJ l)[i]?=some (AJ z):=Aa AJ ez
 have gk:(Bd v.keys)[j]?=some [.s k]:=Aa Cz ek
 simp (disch:=omega) only [d,q1,q2,Ad (Aa AJ ez),go_sem]
 refine Aq.f (fun _ _ _=>hT _ _) ?_
 simp (disch:=omega) only [d,q1,q2,gz,gk,Ad (Aa AJ ez),zlc,zle,za,ze,z7,zlr,z8,zr,zb,zn,zc,zk,zo,and_self,Bl,true_and,BH,Cz,zli,zg,go_sem]
 refine Ae (fun c=>?_) (fun c=>?_)
 .rw [iN (fun h=>by simp [h.1,h.2.1,h.2.2] at c)] at Gq
  simp (disch:=omega) only [go_sem]
  refine ⟨.mk (i+1) (y) (n'+80),⟨show i+1<=l.length by omega,show n+1<=n'+80 by omega,show AG (y)<=1000000000 by omega,Gq⟩,by show l.length - (i+1)<l.length - i;omega,?_⟩
  dsimp only
  refine wX6 hf ?_ ?_ ?_ ?_ ?_ ?_ ?_ (fun a ha c7=>?_) (by omega)
  .simp (disch:=omega) only [Ap i (by omega),go_sem]
  .simp (disch:=omega) only [go_sem]
  .simp (disch:=omega) only [go_sem]
  .simp (disch:=omega) only [go_sem]
  .simp (disch:=omega) only [go_sem]
  .simp (disch:=omega) only [go_sem]
  .simp (disch:=omega) only [go_sem]
  .repeat rw [Ai _ _ (by omega)]
 have c:z.on=on∧z.key=k∧z.label=⟨#[]⟩:=by simpa [and_assoc] using c
 rw [iP c] at Gq
 have hlw:=Pl z y
 have hww:=NP z.picks (Ei z y)
 have hz2:=hz (Ei z y) (by omega)
 obtain ⟨W,hW⟩:=A5 (C5 z.picks (Ei z y))
 rw [hW] at hz2 Gq hww
 simp (disch:=omega) only [d,q1,q2,gz,gk,Ad (Aa AJ ez),zlc,zle,za,ze,z7,zlr,z8,zr,zb,zn,zc,zk,zo,and_self,Bl,true_and,BH,Cz,zli,zg,go_sem]
 refine Ae (fun c2=>?_) (fun c2=>?_)
 .have c2:y.k=5∧0<=z.initial∧z.initial<y.items.length:=by simpa [and_assoc] using c2
  obtain ⟨w,VG⟩:∃w:Nat,z.initial=w:=⟨z.initial.toNat,by omega⟩
  have eL:Ei z y=.mk 5 0 ⟨#[]⟩ (y.items.take w) []:=by unfold Ei;rw [iP c2,VG];rfl
  have e3:0<=(w:Int)∧(w:Int)<=(y.items.length:Int):=by omega
  simp (disch:=omega) only [d,q1,q2,gz,gk,Ad (Aa AJ ez),VG,e3.1,e3.2,zlc,zle,za,ze,z7,zlr,z8,zr,zb,zn,zc,zk,zo,and_self,Bl,true_and,BH,Cz,zli,zg,go_sem]
  rw [eL] at hz2
  refine Aq.f (fun _ _ _=>Af.cv (args':=[vx (.mk 5 0 ⟨#[]⟩ (y.items.take w) []),.ds (Ab AJ z.picks)]) (by rfl) (hz2 _ _)) ?_
  simp (disch:=omega) only [d,q1,q2,gz,gk,Ad (Aa AJ ez),VG,e3.1,e3.2,zlc,zle,za,ze,z7,zlr,z8,zr,zb,zn,zc,zk,zo,and_self,Bl,true_and,BH,Cz,zli,zg,go_sem]
  refine ⟨.mk (i+1) (W) (n'+80),⟨show i+1<=l.length by omega,show n+1<=n'+80 by omega,show AG (W)<=1000000000 by omega,Gq⟩,by show l.length - (i+1)<l.length - i;omega,?_⟩
  dsimp only
  refine wX6 hf ?_ ?_ ?_ ?_ ?_ ?_ ?_ (fun a ha c7=>?_) (by omega)
  .simp (disch:=omega) only [Ap i (by omega),go_sem]
  .simp (disch:=omega) only [go_sem]
  .simp (disch:=omega) only [go_sem]
  .simp (disch:=omega) only [go_sem]
  .simp (disch:=omega) only [go_sem]
  .simp (disch:=omega) only [go_sem]
  .simp (disch:=omega) only [go_sem]
  .repeat rw [Ai _ _ (by omega)]
 .have c2:¬(y.k=5∧0<=z.initial∧z.initial<y.items.length):=by simpa using c2
  have eL:Ei z y=y:=iN c2
  rw [eL] at hz2
  simp (disch:=omega) only [d,q1,q2,gz,gk,Ad (Aa AJ ez),zlc,zle,za,ze,z7,zlr,z8,zr,zb,zn,zc,zk,zo,and_self,Bl,true_and,BH,Cz,zli,zg,go_sem]
  refine Aq.f (fun _ _ _=>hz2 _ _) ?_
  simp (disch:=omega) only [d,q1,q2,gz,gk,Ad (Aa AJ ez),zlc,zle,za,ze,z7,zlr,z8,zr,zb,zn,zc,zk,zo,and_self,Bl,true_and,BH,Cz,zli,zg,go_sem]
  refine ⟨.mk (i+1) (W) (n'+80),⟨show i+1<=l.length by omega,show n+1<=n'+80 by omega,show AG (W)<=1000000000 by omega,Gq⟩,by show l.length - (i+1)<l.length - i;omega,?_⟩
  dsimp only
  refine wX6 hf ?_ ?_ ?_ ?_ ?_ ?_ ?_ (fun a ha c7=>?_) (by omega)
  .simp (disch:=omega) only [Ap i (by omega),go_sem]
  .simp (disch:=omega) only [go_sem]
  .simp (disch:=omega) only [go_sem]
  .simp (disch:=omega) only [go_sem]
  .simp (disch:=omega) only [go_sem]
  .simp (disch:=omega) only [go_sem]
  .simp (disch:=omega) only [go_sem]
  .repeat rw [Ai _ _ (by omega)]
theorem Wc (l:List Pk) (hl:l.length<=1000000000) (H:∀p∈l,UH p.picks):UH l:=by
 intro v
 refine Ag.ind (Q:=fun v=>AG v<=1000000000->∀hp m,Af prog 60 hp m [vx v,.ds (Ab AJ l)] (vx (C5 l v))) (fun v ih hw hp m=>?_) v
 have hv:=CZ v (by omega)
 have hvi:=hv.i
 by_cases k5:v.k=5
 .have e5:C5 l v=.mk 5 0 ⟨#[]⟩ (v.items.map (C5 l)) []:=by unfold C5;rw [E3,iP k5]
  obtain ⟨RR,A9⟩:=A5 (v.items.map (C5 l))
  rw [A9] at e5
  rw [e5]
  refine Aj func60 (tA cc60) (tB cc60) (tC cc60) rfl fun hf=>?_;unfold ck60
  simp (disch:=omega) only [dT k5,go_sem]
  refine loop (fun p:LiS=>match p with
   | .mk j g L n=>⟨[(1,.ds (Ab AJ l)),(2,.bx m 0),(4,.bx (m+1) 0),(5,.bx (m+2) 0),(6,.i .i64 j)],(m+3,.rw g 5 (Ab Ar L))::(m+2,.bx [.i .i64 5,.i .i64 0,.s ⟨#[]⟩,.rw (m+3) g L.length,.e0])::(m+1,.bx [.i .i64 0,.i .i64 0,.s ⟨#[]⟩,.e0,.e0])::(m,.bx [.i .i64 v.k,.i .i64 v.n,.s v.s,.ds (Ab Ar v.items),.ds (Bd v.keys)])::hp,n⟩)
   (fun p=>match p with | .mk j g L n=>j<=v.items.length∧m+4<=n∧L=(v.items.take j).map (C5 l)) (fun p=>match p with | .mk j g L n=>v.items.length - j) (.mk 0 0 [] (m+4)) ?_ ?_ (fun p hj=>?_)
  .exact ⟨zt _,zna _,rfl⟩
  .dsimp only
   refine (Co (c:=m+2) (i:=3) (m:=5) (cs:=[.i .i64 5,.i .i64 0,.s ⟨#[]⟩,.e0,.e0]) (by (simp (disch:=omega) only [go_sem])) rfl).trans (Kd hf ?_ ?_ ?_ ?_ ?_ (fun a ha c7=>?_) (zna _))
   .simp (disch:=omega) only [go_sem]
   .simp (disch:=omega) only [go_sem]
    try rfl
   .simp (disch:=omega) only [z1s,z1w,go_sem]
   .simp (disch:=omega) only [go_sem]
   .simp (disch:=omega) only [go_sem]
   .repeat rw [Ai _ _ (by omega)]
  obtain ⟨j,g,L,n⟩:=p
  obtain ⟨Cg,Bc,As⟩:=hj
  have BS:(Ab Ar L).length=L.length:=Ao _ _
  have QK:L.length=j:=by rw [As,List.length_map,zlo];omega
  have BC:m<=n:=by omega
  dsimp only
  simp (disch:=omega) only [go_sem]
  refine Ae (fun q=>?_) (fun q=>?_)
  case' refine_2=>
   have q:j=v.items.length:=by simp at q;omega
   subst q
   rw [List.take_length,A9] at As
   subst As
   simp (disch:=omega) only [BC,BS,zna,go_sem]
   try rfl
  have q:j<v.items.length:=by simpa using q
  obtain ⟨x,ex⟩:∃x,v.items[j]?=some x:=⟨v.items[j],by simp [q]⟩
  have hx:=ih x (zla ex) (z1p (B1 (zla ex)) (by rw [AE] at hw;omega))
  have k1:(L.length+1)*80<=140737488355328:=by omega
  have k2:L.length+1<=9223372036854775807:=by omega
  obtain ⟨Z,hZ⟩:=A5 (C5 l x)
  rw [hZ] at hx
  simp (disch:=omega) only [q,Ad (Aa Ar ex),go_sem]
  refine Aq.f (fun _ _ _=>hx _ _) ?_
  simp (disch:=omega) only [q,Ad (Aa Ar ex),BS,k1,k2,Dl,true_and,go_sem]
  refine ⟨.mk (j+1) (g+1) (L++[Z]) (n+60),⟨show j+1<=v.items.length by omega,show m+4<=n+60 by omega,by show _=_;rw [<-AN ex,List.map_append,As,<-hZ];rfl⟩,by show v.items.length - (j+1)<v.items.length - j;omega,?_⟩
  dsimp only
  refine Kd hf ?_ ?_ ?_ ?_ ?_ (fun a ha c7=>?_) (by omega)
  .simp (disch:=omega) only [Ap j (by omega),zu,zlc,zle,go_sem]
  .simp (disch:=omega) only [go_sem]
  .simp (disch:=omega) only [zu,zlc,zle,go_sem]
  .simp (disch:=omega) only [go_sem]
  .simp (disch:=omega) only [go_sem]
  .repeat rw [Ai _ _ (by omega)]
 .by_cases k6:v.k=6
  .have hC:=QD l hl H v hw
   have e6:C5 l v=JU (C7 l) v:=by unfold C5;rw [E3,iN k5,iP k6]
   rw [<-e6] at hC
   obtain ⟨Z,hZ⟩:=A5 (C5 l v)
   rw [hZ] at hC ⊢
   refine Aj func60 (tA cc60) (tB cc60) (tC cc60) rfl fun hf=>?_;unfold ck60
   simp (disch:=omega) only [dF k5,dT k6,go_sem]
   refine Ac.f (hC _ _) ?_
   simp (disch:=omega) only [go_sem]
  .have e:C5 l v=v:=by unfold C5;rw [E3,iN k5,iN k6]
   rw [e]
   refine Aj func60 (tA cc60) (tB cc60) (tC cc60) rfl fun hf=>?_;unfold ck60
   simp (disch:=omega) only [dF k5,dF k6,go_sem]
theorem Aiv (l:List Pk) (h:B6 l):UH l:=by
 have key:∀p:Pk,B6 p.picks->UH p.picks:=fun p=>Pk.ind (Q:=fun p=>B6 p.picks->UH p.picks) (fun v ih hv=>Wc v.picks hv.len fun p hp=>ih p hp (hv.x hp)) p
 exact Wc l h.len fun p hp=>key p (h.x hp)
theorem PB (l:List Pk) (h:B6 l) (v:Ag) (h6:v.k=6) (hw:AG v<=1000000000) (hp:CH) (m:Nat):Af prog 32 hp m [vx v,.ds (Ab AJ l)] (vx (C5 l v)):=by
 have e6:C5 l v=JU (C7 l) v:=by unfold C5;rw [E3,iN (by rw [h6];decide),iP h6]
 rw [e6]
 exact QD l h.len (fun p hp=>Aiv p.picks (h.x hp)) v hw hp m
