/- Proof. Conditions: none. -/
import Derived.Test.YtgfidgoefioigaaGreatDoorIk44
open List renaming take_succ_cons->z8,mem_cons_of_mem->zx,take_of_length_le->z14,length_set->z22,drop_succ_cons->za
open Nat renaming zero_le->zw
open Go.Proofs.Tryz
open List renaming mem_of_getElem?->zla,length_cons->zlc,length_append->zld,length_nil->zle,take_length->zlj,length_take->zlo,map_append->zlq,length_map->zlv
open Nat renaming le_refl->zna,le_trans->znc
namespace Go.Proofs.YtgfidgoefioigaaGreatDoor
open Go.Eng
set_option linter.all false
set_option maxRecDepth 20000
set_option maxHeartbeats 1000000
theorem EK (v:Ag) (hv:v.Fit) (hp:CH) (m:Nat):Ae prog 51 hp m [vx v] (.s (typF v)):=by
 have hG:=I4 v hv sT
 unfold Nc at hG
 unfold typF
 obtain ⟨t,ht⟩:=A7 ((AB v sT).getD A8)
 obtain ⟨b,hb⟩:=A7 ((AB v sT).isSome)
 rw [ht,hb] at hG
 rw [ht]
 refine Al func51 (tA cc51) (tB cc51) (tC cc51) rfl fun hf=>?_;unfold ck51
 simp (disch:=omega) only [go_sem]
 refine Ac.f (hG _ _) ?_
 simp (disch:=omega) only [go_sem]
theorem JQ (v:Ag) (hv:v.Fit) (p:Pk) (hp:CH) (m:Nat):Ae prog 95 hp m [vx v,pkx p] (.i .i64 (NT p.initial v.items.length)):=by
 have hl:=hv.i
 obtain ⟨R,hR⟩:=A7 (NT p.initial v.items.length)
 rw [hR]
 unfold NT at hR
 by_cases c:p.initial=-1
 .rw [iP c] at hR
  refine Al func95 (tA cc95) (tB cc95) (tC cc95) rfl fun hf=>?_;unfold ck95
  simp (disch:=omega) only [dT c,go_sem]
  rw [hR]
 .rw [iN c] at hR
  refine Al func95 (tA cc95) (tB cc95) (tC cc95) rfl fun hf=>?_;unfold ck95
  simp (disch:=omega) only [dF c,go_sem]
  have:(if (v.items.length:Int)<if p.initial<0 then 0 else p.initial then (v.items.length:Int) else if p.initial<0 then 0 else p.initial)=(R:Int):=by
   rw [<-hR]
   split<;>split at*<;> omega
  rw [this]
theorem P9 (l:List Ag) (h:l.length*80<=140737488355327) (hp:CH) (m:Nat):AO prog 93 hp m [.ds (Ab Aw l)] ((m,.rw 0 5 (Ab Aw l))::hp) (m+1) (.rw m 0 l.length):=by
 refine E4 (outs:=[(5,Ab Aw l)]) func93 (tA cc93) (tB cc93) (tC cc93) rfl fun hf=>?_;unfold ck93
 simp only [go_sem]
 exact ⟨fun e=>⟨by simpa [Ab] using congrArg List.length e,e⟩,by omega,by omega⟩
theorem Ib (a b:List Ag) (h:(a.length+b.length)*80<=140737488355327) (hp:CH) (m:Nat):Ae prog 54 hp m [.ds (Ab Aw a),.ds (Ab Aw b)] (.ds (Ab Aw (a++b))):=by
 have Lr:(Ab Aw a).length=a.length:=As _ _
 have hbl:(Ab Aw b).length=b.length:=As _ _
 have happ:Ab Aw a++Ab Aw b=Ab Aw (a++b):=zlq.symm
 refine Al func54 (tA cc54) (tB cc54) (tC cc54) rfl fun hf=>?_;unfold ck54
 simp (disch:=omega) only [go_sem]
 refine Ac.x (P9 a (by omega) _ _) ?_
 simp (disch:=omega) only [Lr,hbl,happ,go_sem]
 exact ⟨by omega,by omega⟩
theorem OO (l:List Pk):(AP l).length<=l.length:=by
 rw [CA,zlv]
 exact List.length_filter_le _ _
theorem Zn (l:List Pk) (p:Pk) (lb:qB) (q:List Pk):Ab Bi l++[[AV.s p.key,.s p.on,.s p.name,.ds (Ab B7 p.args),.s p.tn,.ds (Ab D2 p.tw),.s lb,.i .i64 p.initial,.ds (Ab Bi q)]]=Ab Bi (l++[SN p lb q]):=by
 rw [<-Bd Bi l,Ch]
 rfl
inductive PkS
 | mk (j g:Nat) (l:List Pk) (n:Nat)
theorem K5 (l:List Pk) (hw:A5 l<=100000000000) (h:∀p∈l,∀hp m,Ae prog 27 hp m [.ds (Ab Bi p.picks)] (.ds (Ab Bi (AP p.picks)))) (hp:CH) (m:Nat):Ae prog 27 hp m [.ds (Ab Bi l)] (.ds (Ab Bi (AP l))):=by
 have hl:=Ew l
 obtain ⟨RR,AC⟩:=A7 (AP l)
 rw [AC]
 refine Al func27 (tA cc27) (tB cc27) (tC cc27) rfl fun hf=>?_;unfold ck27
 simp (disch:=omega) only [go_sem]
 refine loop (fun p:PkS=>match p with
  | .mk j g L n=>⟨[(3,.rw m g L.length),(6,.ds (Ab Bi l)),(7,.i .i64 l.length),(8,.i .i64 j)],(m,.rw g 9 (Ab Bi L))::hp,n⟩)
  (fun p=>match p with | .mk j g L n=>j<=l.length∧m+1<=n∧L=AP (l.take j)) (fun p=>match p with | .mk j g L n=>l.length - j) (.mk 0 0 [] (m+1)) ?_ ?_ (fun p hj=>?_)
 .exact ⟨zw _,zna _,rfl⟩
 .dsimp only
  refine (By (t:=3) (m:=9) (by (simp (disch:=omega) only [go_sem]))).trans (wX1 hf ?_ ?_ (fun a ha d5=>?_) (zna _))
  .simp (disch:=omega) only [go_sem]
  .simp (disch:=omega) only [go_sem]
   try rfl
  .repeat rw [Ak _ _ (by omega)]
 obtain ⟨j,g,L,n⟩:=p
 obtain ⟨Cq,Be,At⟩:=hj
 have Ck:(Ab Bi L).length=L.length:=As _ _
 have Ve:L.length<=l.length:=by rw [At];have:=OO (l.take j);rw [zlo] at this;omega
 have BD:m<=n:=by omega
 dsimp only
 simp (disch:=omega) only [go_sem]
 refine Af (fun q=>?_) (fun q=>?_)
 case' refine_2=>
  have q:j=l.length:=by simp at q;omega
  subst q
  rw [zlj,AC] at At
  subst At
  simp (disch:=omega) only [BD,Ck,zna,go_sem]
 have q:j<l.length:=by simpa using q
 obtain ⟨x,ex⟩:∃x,l[j]?=some x:=⟨l[j],by simp [q]⟩
 have hx:=h x (zla ex)
 have D6:AP (l.take (j+1))=if x.label=⟨#[]⟩ then AP (l.take j)++[G4 x] else AP (l.take j):=by rw [<-Bc ex,TS]
 have k1:(L.length+1)*160<=140737488355328:=by omega
 have k2:L.length+1<=9223372036854775807:=by omega
 simp (disch:=omega) only [q,Ad (Aa Bi ex),go_sem]
 refine Af (fun c=>?_) (fun c=>?_)
 .have c:x.label=⟨#[]⟩:=by simpa using c
  rw [iP c,SQ,c] at D6
  simp (disch:=omega) only [q,Ad (Aa Bi ex),go_sem]
  refine Ac.f (hx _ _) ?_
  rw [c]
  simp (disch:=omega) only [q,Ad (Aa Bi ex),Ck,k1,k2,Zn,true_and,go_sem]
  refine ⟨.mk (j+1) (g+1) (L++[SN x ⟨#[]⟩ (AP x.picks)]) (n+60),⟨show j+1<=l.length by omega,show m+1<=n+60 by omega,by show _=_;rw [D6,At]⟩,by show l.length - (j+1)<l.length - j;omega,?_⟩
  dsimp only
  refine wX1 hf ?_ ?_ (fun a ha d5=>?_) (by omega)
  .simp (disch:=omega) only [Ao j (by omega),zld,zlc,zle,go_sem]
  .simp (disch:=omega) only [go_sem]
  .repeat rw [Ak _ _ (by omega)]
 .have c:¬x.label=⟨#[]⟩:=by simpa using c
  rw [iN c] at D6
  simp (disch:=omega) only [go_sem]
  refine ⟨.mk (j+1) (g) (L) (n+60),⟨show j+1<=l.length by omega,show m+1<=n+60 by omega,by show _=_;rw [D6,At]⟩,by show l.length - (j+1)<l.length - j;omega,?_⟩
  dsimp only
  refine wX1 hf ?_ ?_ (fun a ha d5=>?_) (by omega)
  .simp (disch:=omega) only [Ao j (by omega),zld,zlc,zle,go_sem]
  .simp (disch:=omega) only [go_sem]
  .repeat rw [Ak _ _ (by omega)]
theorem Hx (l:List Pk) (hw:A5 l<=100000000000) (hp:CH) (m:Nat):Ae prog 27 hp m [.ds (Ab Bi l)] (.ds (Ab Bi (AP l))):=by
 have key:∀p:Pk,IL p<=100000000000->∀hp m,Ae prog 27 hp m [.ds (Ab Bi p.picks)] (.ds (Ab Bi (AP p.picks))):=fun p=>Pk.ind (Q:=fun p=>IL p<=100000000000->∀hp m,Ae prog 27 hp m [.ds (Ab Bi p.picks)] (.ds (Ab Bi (AP p.picks)))) (fun v ih hv=>by
  rw [Ci] at hv
  exact K5 v.picks (by omega) fun p hp=>ih p hp (by have:=DP hp;omega)) p
 exact K5 l hw (fun p hp=>key p (by have:=DP hp;omega)) hp m
inductive PrS
 | mk (j g:Nat) (l:List DI) (n:Nat)
theorem Ur (l:List DI) (q:DI) (a:List Ag) (n:Nat):Gb (l++[q]) a n=Gb l a n++[.mk (a++q.p.drop n) q.t]:=by unfold Gb;rw [zlq];rfl
theorem XQ (l:List DI) (a:List Ag) (n:Nat):(Gb l a n).length=l.length:=zlv ..
theorem OR (l:List DI) (hl:l.length<=1000000000000) (hq:∀q∈l,q.p.length<=100000000000) (j7:List Ag) (ha:j7.length<=100000000000) (k:Nat) (hk:k<=1000) (hp:CH) (m:Nat):Ae prog 55 hp m [.ds (Ab Dr l),.ds (Ab Aw j7),.i .i64 k] (.ds (Ab Dr (Gb l j7 k))):=by
 obtain ⟨RR,AC⟩:=A7 (Gb l j7 k)
 rw [AC]
 refine Al func55 (tA cc55) (tB cc55) (tC cc55) rfl fun hf=>?_;unfold ck55
 simp (disch:=omega) only [go_sem]
 refine loop (fun p:PrS=>match p with
  | .mk j g L n=>⟨[(1,.ds (Ab Aw j7)),(2,.i .i64 k),(7,.rw m g L.length),(10,.ds (Ab Dr l)),(11,.i .i64 l.length),(12,.i .i64 j)],(m,.rw g 2 (Ab Dr L))::hp,n⟩)
  (fun p=>match p with | .mk j g L n=>j<=l.length∧m+1<=n∧L=Gb (l.take j) j7 k) (fun p=>match p with | .mk j g L n=>l.length - j) (.mk 0 0 [] (m+1)) ?_ ?_ (fun p hj=>?_)
 .exact ⟨zw _,zna _,rfl⟩
 .dsimp only
  refine (By (t:=7) (m:=2) (by (simp (disch:=omega) only [go_sem]))).trans (wX1 hf ?_ ?_ (fun a ha d5=>?_) (zna _))
  .simp (disch:=omega) only [go_sem]
  .simp (disch:=omega) only [go_sem]
   try rfl
  .repeat rw [Ak _ _ (by omega)]
 obtain ⟨j,g,L,n⟩:=p
 obtain ⟨Cq,Be,At⟩:=hj
 have Ck:(Ab Dr L).length=L.length:=As _ _
 have Ve:L.length<=l.length:=by rw [At,XQ,zlo];omega
 have BD:m<=n:=by omega
 dsimp only
 simp (disch:=omega) only [go_sem]
 refine Af (fun q=>?_) (fun q=>?_)
 case' refine_2=>
  have q:j=l.length:=by simp at q;omega
  subst q
  rw [zlj,AC] at At
  subst At
  simp (disch:=omega) only [BD,Ck,zna,go_sem]
 have q:j<l.length:=by simpa using q
 obtain ⟨x,ex⟩:∃x,l[j]?=some x:=⟨l[j],by simp [q]⟩
 have hx:=hq x (zla ex)
 have k1:(L.length+1)*40<=140737488355328:=by omega
 have k2:L.length+1<=9223372036854775807:=by omega
 have hJ:=Ib j7 (x.p.drop k) (by rw [List.length_drop];omega)
 obtain ⟨w,hw⟩:=A7 (min k x.p.length)
 have e:(if (x.p.length:Int)<(k:Int) then (x.p.length:Int) else (k:Int))=(w:Int):=by rw [<-hw];split<;>omega
 have e2:x.p.drop k=x.p.drop w:=by
  rw [<-hw]
  rcases Nat.lt_or_ge x.p.length k with o | o
  .rw [Nat.min_eq_right (by omega),List.drop_length,List.drop_eq_nil_of_le (by omega)]
  .rw [Nat.min_eq_left o]
 have e3:0<=(w:Int)∧(w:Int)<=(x.p.length:Int):=by omega
 rw [e2] at hJ
 simp (disch:=omega) only [q,Ad (Aa Dr ex),e,e3.1,e3.2,true_and,go_sem]
 refine Au.f (fun _ _ _=>hJ _ _) ?_
 simp (disch:=omega) only [q,Ad (Aa Dr ex),e,e3.1,e3.2,true_and,Ck,k1,k2,Qq,go_sem]
 refine ⟨.mk (j+1) (g+1) (L++[.mk (j7++x.p.drop w) x.t]) (n+60),⟨show j+1<=l.length by omega,show m+1<=n+60 by omega,by show _=_;rw [<-Bc ex,Ur,At,e2]⟩,by show l.length - (j+1)<l.length - j;omega,?_⟩
 dsimp only
 refine wX1 hf ?_ ?_ (fun a ha d5=>?_) (by omega)
 .simp (disch:=omega) only [Ao j (by omega),zld,zlc,zle,go_sem]
 .simp (disch:=omega) only [go_sem]
 .repeat rw [Ak _ _ (by omega)]
theorem Xk (i:Int) (n:Nat):NT i n<=n:=by unfold NT;split<;>omega
theorem Ll (q:Pk) (x:Ag):AE (BM q x)<=AE x:=by
 unfold BM
 split
 .rw [A9,A9]
  simp only [Ag.items_mk,Ag.keys_mk]
  have:∀(l:List Ag) (n:Nat),BF (l.take n)<=BF l:=by
   intro l
   induction l with
   |nil=>intro n;rw [List.take_nil];exact zna _
   |cons x l ih=>
    intro n
    cases n with
    |zero=>simp [BF]
    |succ n=>rw [z8,BF,BF];have:=ih n;omega
  have:=this x.items (NT q.initial x.items.length)
  omega
 .exact zna _
theorem KI (y:Ag):∀(l:List Ag) (i:Nat) (x:Ag),l[i]?=some x->BF (l.set i y)+AE x=BF l+AE y
 |x0::l,0,x,h=>by
  cases h
  rw [List.set_cons_zero,BF,BF]
  omega
 |x0::l,i+1,x,h=>by
  rw [List.set_cons_succ,BF,BF]
  have:=KI y l i x (by simpa using h)
  omega
theorem MJ (on:qB) (keys:List qB):∀(fs:List CF) (is:List Ag),(∀x∈fs,∀v,AE (x.2 v)<=AE v)->BF (Hc on keys fs is)<=BF is
 | [],is,h=>zna _
 | (p,f)::r,is,h=>by
  rw [Hc]
  split
  .rename_i c
   refine znc (MJ on keys r _ fun x hx=>h x (zx _ hx)) ?_
   have e:is[(ix p.key keys 0).toNat]?=some (is.getD (ix p.key keys 0).toNat A8):=by rw [List.getD_eq_getElem?_getD,List.getElem?_eq_getElem (by omega)];rfl
   have h1:=KI (f (BM p (is.getD (ix p.key keys 0).toNat A8))) is _ _ e
   have h2:=h (p,f) (List.mem_cons_self ..) (BM p (is.getD (ix p.key keys 0).toNat A8))
   have h3:=Ll p (is.getD (ix p.key keys 0).toNat A8)
   dsimp only at h2
   omega
  .exact MJ on keys r _ fun x hx=>h x (zx _ hx)
theorem RU {fs:List CF} (h:∀x∈fs,∀v,AE (x.2 v)<=AE v) (v:Ag):AE (I5 fs v)<=AE v:=by
 refine Ag.ind (Q:=fun v=>AE (I5 fs v)<=AE v) (fun v ih=>?_) v
 rw [F5]
 split
 .rw [A9,A9 v]
  simp only [Ag.items_mk,Ag.keys_mk,zle]
  have:∀l:List Ag,(∀x∈l,AE (I5 fs x)<=AE x)->BF (l.map (I5 fs))<=BF l:=by
   intro l
   induction l with
   |nil=>intro _;exact zna _
   |cons x l ihl=>
    intro h
    rw [List.map_cons,BF,BF]
    have h1:=h x (by simp)
    have h2:=ihl fun y hy=>h y (by simp [hy])
    omega
  have:=this v.items ih
  omega
 .split
  .unfold Og
   rw [A9,A9 v]
   simp only [Ag.items_mk,Ag.keys_mk]
   have:=MJ (typF v) v.keys fs v.items h
   omega
  .exact zna _
theorem Ss (p:Pk):∀v,AE (FH p v)<=AE v :=
 Pk.ind (Q:=fun p=>∀v,AE (FH p v)<=AE v) (fun p ih v=>by
  rw [Eg]
  exact RU (fun x hx=>by rw [Ek] at hx;obtain ⟨q,hq,rfl⟩:=List.mem_map.1 hx;exact ih q hq) v) p
theorem SB (l:List Pk) (v:Ag):AE (AY l v)<=AE v :=
 RU (fun x hx=>by rw [Ek] at hx;obtain ⟨q,hq,rfl⟩:=List.mem_map.1 hx;exact Ss q) v
inductive CuS
 | mk (j:Nat) (l:List Ag) (n:Nat)
def UM (l:List Pk):Prop:=∀v:Ag,AE v<=1000000000->∀hp m,Ae prog 28 hp m [vx v,.ds (Ab Bi l)] (vx (AY l v))
theorem HT (l:List Pk) (hl:l.length<=1000000000) (H:∀p∈l,UM p.picks) (v:Ag) (hw:AE v<=1000000000) (hp:CH) (m:Nat):Ae prog 50 hp m [vx v,.ds (Ab Bi l)] (vx (Og (Fa l) v)):=by
 have hv:=CN v (by omega)
 have hvi:=hv.i
 have NM:=hv.l
 have hT:=EK v hv
 obtain ⟨on,NK⟩:=A7 (typF v)
 rw [NK] at hT
 obtain ⟨RR,AC⟩:=A7 (Hc on v.keys (Fa l) v.items)
 unfold Og
 rw [NK,AC]
 refine Al func50 (tA cc50) (tB cc50) (tC cc50) rfl fun hf=>?_;unfold ck50
 simp (disch:=omega) only [go_sem]
 refine Ac.f (hT _ _) ?_
 simp (disch:=omega) only [go_sem]
 refine Au.f (fun _ _ _=>Qp v.keys NM _ _) ?_
 simp (disch:=omega) only [go_sem]
 refine Au.r (fun Am=>P9 v.items hvi Am _) (by simp [Ab]) ?_
 simp (disch:=omega) only [go_sem]
 refine loop (fun p:CuS=>match p with
  | .mk j is n=>⟨[(4,.bx (m+1) 0),(5,.s on),(6,.bx (m+9) 0),(20,.ds (Ab Bi l)),(21,.i .i64 l.length),(22,.i .i64 j)],(m+9,.bx [.i .i64 6,.i .i64 0,.s ⟨#[]⟩,.rw (m+7) 0 v.items.length,.ds (Bq v.keys)])::(m+7,.rw 0 5 (Ab Aw is))::(m+1,.bx [.i .i64 0,.i .i64 0,.s ⟨#[]⟩,.e0,.e0])::(m,.bx [.i .i64 v.k,.i .i64 v.n,.s v.s,.ds (Ab Aw v.items),.ds (Bq v.keys)])::hp,n⟩)
  (fun p=>match p with | .mk j is n=>j<=l.length∧m+11<=n∧is.length=v.items.length∧BF is<=1000000000∧RR=Hc on v.keys (Fa (l.drop j)) is) (fun p=>match p with | .mk j is n=>l.length - j) (.mk 0 v.items (m+11)) ?_ ?_ (fun p hj=>?_)
 .exact ⟨zw _,zna _,rfl,by rw [A9] at hw;omega,AC.symm⟩
 .dsimp only
  refine Q3 hf ?_ ?_ ?_ ?_ ?_ (fun a ha d5=>?_) (zna _)
  .simp (disch:=omega) only [go_sem]
  .simp (disch:=omega) only [go_sem]
  .simp (disch:=omega) only [go_sem]
  .simp (disch:=omega) only [go_sem]
  .simp (disch:=omega) only [go_sem]
  .repeat rw [Ak _ _ (by omega)]
 obtain ⟨j,is,n⟩:=p
 obtain ⟨Cq,Be,At,Cl,CU⟩:=hj
 have t8:(Ab Aw is).length=v.items.length:=by rw [As,At]
 have BD:m<=n:=by omega
 dsimp only
 simp (disch:=omega) only [go_sem]
 refine Af (fun q=>?_) (fun q=>?_)
 case' refine_2=>
  have q:j=l.length:=by simp at q;omega
  subst q
  rw [List.drop_length,Fa,Hc] at CU
  subst CU
  have Lq:RR.take v.items.length=RR:=z14 (by omega)
  simp (disch:=omega) only [BD,t8,zna,Lq,go_sem]
 have q:j<l.length:=by simpa using q
 obtain ⟨x,ex⟩:∃x,l[j]?=some x:=⟨l[j],by simp [q]⟩
 have hx:=H x (zla ex)
 rw [A2 ex,Fa,Hc] at CU
 simp (disch:=omega) only [q,Ad (Aa Bi ex),go_sem]
 refine Ac.f (Ii v.keys x.key (by omega) _ _) ?_
 obtain ⟨a,ha⟩:=A7 (ix x.key v.keys 0)
 rw [ha] at CU ⊢
 have Lq:is.take v.items.length=is:=z14 (by omega)
 simp (disch:=omega) only [t8,Lq,go_sem]
 refine Af (fun c=>?_) (fun c=>?_)
 .rw [iN (fun h=>by simp [h.1,h.2.1] at c;omega)] at CU
  simp (disch:=omega) only [go_sem]
  refine ⟨.mk (j+1) (is) (n+60),⟨show j+1<=l.length by omega,show m+11<=n+60 by omega,by simp only [z22];exact At,show BF (is)<=1000000000 by omega,CU⟩,by show l.length - (j+1)<l.length - j;omega,?_⟩
  dsimp only
  refine Q3 hf ?_ ?_ ?_ ?_ ?_ (fun a ha d5=>?_) (by omega)
  .simp (disch:=omega) only [Ao j (by omega),go_sem]
  .simp (disch:=omega) only [go_sem]
  .simp (disch:=omega) only [go_sem]
  .simp (disch:=omega) only [go_sem]
  .simp (disch:=omega) only [go_sem]
  .repeat rw [Ak _ _ (by omega)]
 have c:x.on=on∧x.label=⟨#[]⟩∧0<=a∧a<is.length:=by rw [At];simpa [and_assoc,At] using c
 rw [iP c] at CU
 obtain ⟨i,rfl⟩:∃i:Nat,a=(i:Int):=⟨a.toNat,by omega⟩
 have hi:i<is.length:=by omega
 obtain ⟨y,ey⟩:∃y,is[i]?=some y:=⟨is[i],by simp [hi]⟩
 have ey2:is.getD i A8=y:=by rw [List.getD_eq_getElem?_getD,ey];rfl
 have hyw:AE y<=1000000000:=znc (BS (zla ey)) Cl
 have hyf:=CN y (by omega)
 rw [Int.toNat_natCast,ey2,Eg] at CU
 have hE:=JQ y hyf x
 have Is:i<v.items.length:=by omega
 have hset:=KI (AY x.picks (BM x y)) is i y ey
 have hcw:=znc (SB x.picks (BM x y)) (Ll x y)
 have GD:=hx (BM x y) (znc (Ll x y) hyw)
 obtain ⟨Z,hZ⟩:=A7 (AY x.picks (BM x y))
 rw [hZ] at GD hset hcw CU
 have hsv:(Ab Aw is).set i [AV.i .i64 Z.k,.i .i64 Z.n,.s Z.s,.ds (Ab Aw Z.items),.ds (Bq Z.keys)]=Ab Aw (is.set i Z):=by rw [<-B3];exact (List.map_set ..).symm
 have ey3:(Ab Aw is)[i]?=some [.i .i64 y.k,.i .i64 y.n,.s y.s,.ds (Ab Aw y.items),.ds (Bq y.keys)]:=by rw [Aa Aw ey,B3]
 by_cases k5:y.k=5
 .have eL:BM x y=.mk y.k y.n y.s (y.items.take (NT x.initial y.items.length)) y.keys:=by unfold BM;rw [iP k5]
  have hea:=Xk x.initial y.items.length
  obtain ⟨w,hw2⟩:=A7 (NT x.initial y.items.length)
  rw [hw2] at hE hea eL
  have e3:0<=(w:Int)∧(w:Int)<=(y.items.length:Int):=by omega
  simp (disch:=omega) only [t8,Lq,hi,Is,Ad (Aa Aw ey),dT k5,go_sem]
  refine Au.f (fun _ _ _=>hE _ _) ?_
  simp (disch:=omega) only [t8,Lq,hi,Is,Ad (Aa Aw ey),dT k5,e3.1,e3.2,true_and,go_sem]
  rw [eL] at GD
  simp only [vx,Ag.k_mk,Ag.n_mk,Ag.s_mk,Ag.items_mk,Ag.keys_mk] at GD
  refine Au.f (fun _ _ _=>GD _ _) ?_
  simp (disch:=omega) only [t8,Lq,hi,Is,Ad (Aa Aw ey),dT k5,e3.1,e3.2,true_and,hsv,ey3,zlc,zle,za,List.drop_zero,z8,List.take_zero,List.nil_append,List.append_nil,go_sem]
  refine ⟨.mk (j+1) (is.set i Z) (n+60),⟨show j+1<=l.length by omega,show m+11<=n+60 by omega,by simp only [z22];exact At,show BF (is.set i Z)<=1000000000 by omega,CU⟩,by show l.length - (j+1)<l.length - j;omega,?_⟩
  dsimp only
  refine Q3 hf ?_ ?_ ?_ ?_ ?_ (fun a ha d5=>?_) (by omega)
  .simp (disch:=omega) only [Ao j (by omega),go_sem]
  .simp (disch:=omega) only [go_sem]
  .simp (disch:=omega) only [go_sem]
  .simp (disch:=omega) only [go_sem]
  .simp (disch:=omega) only [go_sem]
  .repeat rw [Ak _ _ (by omega)]
 .have eL:BM x y=y:=iN k5
  simp (disch:=omega) only [t8,Lq,hi,Is,Ad (Aa Aw ey),dF k5,go_sem]
  rw [eL] at GD
  refine Au.f (fun _ _ _=>GD _ _) ?_
  simp (disch:=omega) only [t8,Lq,hi,Is,Ad (Aa Aw ey),dF k5,hsv,ey3,zlc,zle,za,List.drop_zero,z8,List.take_zero,List.nil_append,List.append_nil,go_sem]
  refine ⟨.mk (j+1) (is.set i Z) (n+60),⟨show j+1<=l.length by omega,show m+11<=n+60 by omega,by simp only [z22];exact At,show BF (is.set i Z)<=1000000000 by omega,CU⟩,by show l.length - (j+1)<l.length - j;omega,?_⟩
  dsimp only
  refine Q3 hf ?_ ?_ ?_ ?_ ?_ (fun a ha d5=>?_) (by omega)
  .simp (disch:=omega) only [Ao j (by omega),go_sem]
  .simp (disch:=omega) only [go_sem]
  .simp (disch:=omega) only [go_sem]
  .simp (disch:=omega) only [go_sem]
  .simp (disch:=omega) only [go_sem]
  .repeat rw [Ak _ _ (by omega)]
inductive LiS
 | mk (j:Nat) (g:Nat) (l:List Ag) (n:Nat)
theorem XW (l:List Pk) (hl:l.length<=1000000000) (H:∀p∈l,UM p.picks):UM l:=by
 intro v
 refine Ag.ind (Q:=fun v=>AE v<=1000000000->∀hp m,Ae prog 28 hp m [vx v,.ds (Ab Bi l)] (vx (AY l v))) (fun v ih hw hp m=>?_) v
 have hv:=CN v (by omega)
 have hvi:=hv.i
 by_cases k5:v.k=5
 .have e5:=Yv (l:=l) k5
  obtain ⟨RR,AC⟩:=A7 (v.items.map (AY l))
  rw [AC] at e5
  rw [e5]
  refine Al func28 (tA cc28) (tB cc28) (tC cc28) rfl fun hf=>?_;unfold ck28
  simp (disch:=omega) only [dT k5,go_sem]
  refine loop (fun p:LiS=>match p with
   | .mk j g L n=>⟨[(1,.ds (Ab Bi l)),(4,.bx (m+1) 0),(5,.bx (m+2) 0),(14,.ds (Ab Aw v.items)),(15,.i .i64 v.items.length),(16,.i .i64 j)],(m+3,.rw g 5 (Ab Aw L))::(m+2,.bx [.i .i64 5,.i .i64 0,.s ⟨#[]⟩,.rw (m+3) g L.length,.e0])::(m+1,.bx [.i .i64 0,.i .i64 0,.s ⟨#[]⟩,.e0,.e0])::hp,n⟩)
   (fun p=>match p with | .mk j g L n=>j<=v.items.length∧m+4<=n∧L=(v.items.take j).map (AY l)) (fun p=>match p with | .mk j g L n=>v.items.length - j) (.mk 0 0 [] (m+4)) ?_ ?_ (fun p hj=>?_)
  .exact ⟨zw _,zna _,rfl⟩
  .dsimp only
   refine (DL (c:=m+2) (i:=3) (m:=5) (cs:=[.i .i64 5,.i .i64 0,.s ⟨#[]⟩,.e0,.e0]) (by (simp (disch:=omega) only [go_sem])) rfl).trans (EU hf ?_ ?_ ?_ ?_ (fun a ha d5=>?_) (zna _))
   .simp (disch:=omega) only [go_sem]
   .simp (disch:=omega) only [go_sem]
    try rfl
   .simp (disch:=omega) only [List.set_cons_succ,List.set_cons_zero,go_sem]
   .simp (disch:=omega) only [go_sem]
   .repeat rw [Ak _ _ (by omega)]
  obtain ⟨j,g,L,n⟩:=p
  obtain ⟨Cq,Be,At⟩:=hj
  have Ck:(Ab Aw L).length=L.length:=As _ _
  have Ve:L.length=j:=by rw [At,zlv,zlo];omega
  have BD:m<=n:=by omega
  dsimp only
  simp (disch:=omega) only [go_sem]
  refine Af (fun q=>?_) (fun q=>?_)
  case' refine_2=>
   have q:j=v.items.length:=by simp at q;omega
   subst q
   rw [zlj,AC] at At
   subst At
   simp (disch:=omega) only [BD,Ck,zna,go_sem]
   try rfl
  have q:j<v.items.length:=by simpa using q
  obtain ⟨x,ex⟩:∃x,v.items[j]?=some x:=⟨v.items[j],by simp [q]⟩
  have hx:=ih x (zla ex) (znc (BS (zla ex)) (by rw [A9] at hw;omega))
  have k1:(L.length+1)*80<=140737488355328:=by omega
  have k2:L.length+1<=9223372036854775807:=by omega
  obtain ⟨Z,hZ⟩:=A7 (AY l x)
  rw [hZ] at hx
  simp (disch:=omega) only [q,Ad (Aa Aw ex),go_sem]
  refine Au.f (fun _ _ _=>hx _ _) ?_
  simp (disch:=omega) only [q,Ad (Aa Aw ex),Ck,k1,k2,Dp,true_and,go_sem]
  refine ⟨.mk (j+1) (g+1) (L++[Z]) (n+60),⟨show j+1<=v.items.length by omega,show m+4<=n+60 by omega,by show _=_;rw [<-Bc ex,zlq,At,<-hZ];rfl⟩,by show v.items.length - (j+1)<v.items.length - j;omega,?_⟩
  dsimp only
  refine EU hf ?_ ?_ ?_ ?_ (fun a ha d5=>?_) (by omega)
  .simp (disch:=omega) only [Ao j (by omega),zld,zlc,zle,go_sem]
  .simp (disch:=omega) only [go_sem]
  .simp (disch:=omega) only [zld,zlc,zle,go_sem]
  .simp (disch:=omega) only [go_sem]
  .repeat rw [Ak _ _ (by omega)]
 .by_cases k6:v.k=6
  .have hC:=HT l hl H v hw
   rw [<-Tl (l:=l) k6] at hC
   obtain ⟨Z,hZ⟩:=A7 (AY l v)
   rw [hZ] at hC ⊢
   refine Al func28 (tA cc28) (tB cc28) (tC cc28) rfl fun hf=>?_;unfold ck28
   simp (disch:=omega) only [dF k5,dT k6,go_sem]
   refine Ac.f (hC _ _) ?_
   simp (disch:=omega) only [go_sem]
  .have e:AY l v=v:=by unfold AY;rw [F5,iN k5,iN k6]
   rw [e]
   refine Al func28 (tA cc28) (tB cc28) (tC cc28) rfl fun hf=>?_;unfold ck28
   simp (disch:=omega) only [dF k5,dF k6,go_sem]
theorem Aga (l:List Pk) (h:BQ l):UM l:=by
 have key:∀p:Pk,BQ p.picks->UM p.picks:=fun p=>Pk.ind (Q:=fun p=>BQ p.picks->UM p.picks) (fun v ih hv=>XW v.picks hv.len fun p hp=>ih p hp (hv.x hp)) p
 exact XW l h.len fun p hp=>key p (h.x hp)
theorem NH (l:List Pk) (h:BQ l) (v:Ag) (h6:v.k=6) (hw:AE v<=1000000000) (hp:CH) (m:Nat):Ae prog 50 hp m [vx v,.ds (Ab Bi l)] (vx (AY l v)):=by
 rw [Tl h6]
 exact HT l h.len (fun p hp=>Aga p.picks (h.x hp)) v hw hp m
