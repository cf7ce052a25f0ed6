/- Proof. Conditions: none. -/
import Derived.Test.YtgfidgoefioigaaGreatDoorIi45
open Go.Proofs.Tryz
open List renaming mem_of_getElem?→zla,length_cons→zlc,length_append→zld,length_nil→zle
open Nat renaming le_refl→zna,le_trans→znc
namespace Go.Proofs.YtgfidgoefioigaaGreatDoor
open Go.Eng
set_option linter.all false
set_option maxRecDepth 20000
set_option maxHeartbeats 1000000
theorem HZ (v:Ak) (hv:v.Fit) (hp:CH) (m:Nat):Ah prog 51 hp m [vx v] (.s (typF v)):=by
 have hG:=IL v hv sT
 unfold Na at hG
 unfold typF
 obtain ⟨t,ht⟩:∃t,(AF v sT).getD AB=t:=⟨_,rfl⟩
 obtain ⟨b,hb⟩:∃b,(AF v sT).isSome=b:=⟨_,rfl⟩
 rw [ht,hb] at hG
 rw [ht]
 refine Am func51 (by kernel_rfl) cc51 cr51 rfl fun hf=>?_;unfold ck51
 simp (disch:=omega) only [Aa,go_sem]
 refine Af.f (hG _ _) ?_
 simp (disch:=omega) only [Aa,go_sem]
theorem Pj (v:Ak) (hv:v.Fit) (p:Pk) (hp:CH) (m:Nat):Ah prog 95 hp m [vx v,pkx p] (.i .i64 (V5 p.initial v.items.length)):=by
 have hl:=hv.i
 obtain ⟨R,hR⟩:∃R,V5 p.initial v.items.length=R:=⟨_,rfl⟩
 rw [hR]
 unfold V5 at hR
 by_cases c:p.initial=-1
 .rw [if_pos c] at hR
  refine Am func95 (by kernel_rfl) cc95 cr95 rfl fun hf=>?_;unfold ck95
  simp (disch:=omega) only [Aa,decide_eq_true c,go_sem]
  rw [hR]
 .rw [if_neg c] at hR
  refine Am func95 (by kernel_rfl) cc95 cr95 rfl fun hf=>?_;unfold ck95
  simp (disch:=omega) only [Aa,decide_eq_false c,go_sem]
  have:(if (v.items.length:Int)<if p.initial<0 then 0 else p.initial then (v.items.length:Int) else if p.initial<0 then 0 else p.initial)=(R:Int):=by
   rw [←hR]
   split<;>split at*<;> omega
  rw [this]
theorem NT (l:List Ak) (h:l.length*80≤140737488355327) (hp:CH) (m:Nat):AQ prog 93 hp m [.ds (Ad A2 l)] ((m,.rw 0 5 (Ad A2 l))::hp) (m+1) (.rw m 0 l.length):=by
 refine Fy (outs:=[(5,Ad A2 l)]) func93 (by kernel_rfl) cc93 cr93 rfl fun hf=>?_;unfold ck93
 simp only [go_sem]
 exact ⟨fun e=>⟨by simpa [Ad] using congrArg List.length e,e⟩,by omega,by omega⟩
theorem PE (a b:List Ak) (h:(a.length+b.length)*80≤140737488355327) (hp:CH) (m:Nat):Ah prog 54 hp m [.ds (Ad A2 a),.ds (Ad A2 b)] (.ds (Ad A2 (a++b))):=by
 have JH:(Ad A2 a).length=a.length:=Ax _ _
 have hbl:(Ad A2 b).length=b.length:=Ax _ _
 have happ:Ad A2 a++Ad A2 b=Ad A2 (a++b):=List.map_append.symm
 refine Am func54 (by kernel_rfl) cc54 cr54 rfl fun hf=>?_;unfold ck54
 simp (disch:=omega) only [Aa,go_sem]
 refine Af.x (NT a (by omega) _ _) ?_
 simp (disch:=omega) only [Aa,JH,hbl,happ,go_sem]
 exact ⟨by omega,by omega⟩
theorem Np (l:List Pk):(BX l).length≤l.length:=by
 rw [Dz,List.length_map]
 exact List.length_filter_le _ _
theorem Xs (l:List Pk) (p:Pk) (lb:ByteArray) (q:List Pk):Ad Bo l++[[AV.s p.key,.s p.on,.s p.name,.ds (Ad BC p.args),.s p.tn,.ds (Ad Dx p.tw),.s lb,.i .i64 p.initial,.ds (Ad Bo q)]]=Ad Bo (l++[Qt p lb q]):=by
 rw [←Bi Bo l,Cg]
 rfl
inductive PkS
 | mk (j g:Nat) (l:List Pk) (n:Nat)
theorem IJ (l:List Pk) (hw:A8 l≤100000000000) (h:∀p∈l,∀hp m,Ah prog 27 hp m [.ds (Ad Bo p.picks)] (.ds (Ad Bo (BX p.picks)))) (hp:CH) (m:Nat):Ah prog 27 hp m [.ds (Ad Bo l)] (.ds (Ad Bo (BX l))):=by
 have hl:=DS l
 obtain ⟨RR,AD⟩:∃R,BX l=R:=⟨_,rfl⟩
 rw [AD]
 refine Am func27 (by kernel_rfl) cc27 cr27 rfl fun hf=>?_;unfold ck27
 simp (disch:=omega) only [Aa,go_sem]
 refine loop (fun p:PkS=>match p with
  | .mk j g L n=>⟨[(3,.rw m g L.length),(6,.ds (Ad Bo l)),(7,.i .i64 l.length),(8,.i .i64 j)],(m,.rw g 9 (Ad Bo L))::hp,n⟩)
  (fun p=>match p with | .mk j g L n=>j≤l.length∧m+1≤n∧L=BX (l.take j)) (fun p=>match p with | .mk j g L n=>l.length - j) (.mk 0 0 [] (m+1)) ?_ ?_ (fun p hj=>?_)
 .exact ⟨Nat.zero_le _,zna _,rfl⟩
 .dsimp only
  refine (B0 (t:=3) (m:=9) (by (simp (disch:=omega) only [Aa,go_sem]))).trans (Ac ?_ (Ae.sub (Ae.cons ?_ (Ae.base hf fun a ha hax=>?_))) (zna _))
  .simp (disch:=omega) only [Aa,go_sem]
  .simp (disch:=omega) only [Aa,go_sem]
   try rfl
  .repeat rw [Aq _ _ (by omega)]
 obtain ⟨j,g,L,n⟩:=p
 obtain ⟨Cm,Ba,Aw⟩:=hj
 have Cb:(Ad Bo L).length=L.length:=Ax _ _
 have SU:L.length≤l.length:=by rw [Aw];have:=Np (l.take j);rw [List.length_take] at this;omega
 have BO:m≤n:=by omega
 dsimp only
 simp (disch:=omega) only [Aa,go_sem]
 refine Ai (fun q=>?_) (fun q=>?_)
 case' refine_2 =>
  have q:j=l.length:=by simp at q;omega
  subst q
  rw [List.take_length,AD] at Aw
  subst Aw
  simp (disch:=omega) only [Aa,BO,Cb,zna,go_sem]
 have q:j<l.length:=by simpa using q
 obtain ⟨x,ex⟩:∃x,l[j]?=some x:=⟨l[j],by simp [q]⟩
 have hx:=h x (zla ex)
 have Dj:BX (l.take (j+1))=if x.label=⟨#[]⟩ then BX (l.take j)++[In x] else BX (l.take j):=by rw [←Bg ex,QU]
 have k1:(L.length+1)*160≤140737488355328:=by omega
 have k2:L.length+1≤9223372036854775807:=by omega
 simp (disch:=omega) only [Aa,q,Ag (Ab Bo ex),go_sem]
 refine Ai (fun c=>?_) (fun c=>?_)
 .have c:x.label=⟨#[]⟩:=by simpa using c
  rw [if_pos c,LG,c] at Dj
  simp (disch:=omega) only [Aa,q,Ag (Ab Bo ex),go_sem]
  refine Af.f (hx _ _) ?_
  rw [c]
  simp (disch:=omega) only [Aa,q,Ag (Ab Bo ex),Cb,k1,k2,Xs,true_and,go_sem]
  refine ⟨.mk (j+1) (g+1) (L++[Qt x ⟨#[]⟩ (BX x.picks)]) (n+60),⟨show j+1≤l.length by omega,show m+1≤n+60 by omega,by show _=_;rw [Dj,Aw]⟩,by show l.length - (j+1)<l.length - j;omega,?_⟩
  dsimp only
  refine Ac ?_ (Ae.sub (Ae.cons ?_ (Ae.base hf fun a ha hax=>?_))) (by omega)
  .simp (disch:=omega) only [Aa,At j (by omega),zld,zlc,zle,go_sem]
  .simp (disch:=omega) only [Aa,go_sem]
  .repeat rw [Aq _ _ (by omega)]
 .have c:¬x.label=⟨#[]⟩:=by simpa using c
  rw [if_neg c] at Dj
  simp (disch:=omega) only [Aa,go_sem]
  refine ⟨.mk (j+1) (g) (L) (n+60),⟨show j+1≤l.length by omega,show m+1≤n+60 by omega,by show _=_;rw [Dj,Aw]⟩,by show l.length - (j+1)<l.length - j;omega,?_⟩
  dsimp only
  refine Ac ?_ (Ae.sub (Ae.cons ?_ (Ae.base hf fun a ha hax=>?_))) (by omega)
  .simp (disch:=omega) only [Aa,At j (by omega),zld,zlc,zle,go_sem]
  .simp (disch:=omega) only [Aa,go_sem]
  .repeat rw [Aq _ _ (by omega)]
theorem Ph (l:List Pk) (hw:A8 l≤100000000000) (hp:CH) (m:Nat):Ah prog 27 hp m [.ds (Ad Bo l)] (.ds (Ad Bo (BX l))):=by
 have key:∀p:Pk,PO p≤100000000000→∀hp m,Ah prog 27 hp m [.ds (Ad Bo p.picks)] (.ds (Ad Bo (BX p.picks))):=fun p=>Pk.ind (Q:=fun p=>PO p≤100000000000→∀hp m,Ah prog 27 hp m [.ds (Ad Bo p.picks)] (.ds (Ad Bo (BX p.picks)))) (fun v ih hv=>by
  rw [CD] at hv
  exact IJ v.picks (by omega) fun p hp=>ih p hp (by have:=DV hp;omega)) p
 exact IJ l hw (fun p hp=>key p (by have:=DV hp;omega)) hp m
theorem Aay (i:Int) (n:Nat):V5 i n≤n:=by unfold V5;split<;>omega
theorem Jx (q:Pk) (x:Ak):Bu (D1 q x)≤Bu x:=by
 unfold D1
 split
 .rw [Bn,Bn]
  simp only [Ak.items_mk,Ak.keys_mk]
  have:∀(l:List Ak) (n:Nat),Df (l.take n)≤Df l:=by
   intro l
   induction l with
   | nil=>intro n;rw [List.take_nil];exact zna _
   | cons x l ih =>
    intro n
    cases n with
    | zero=>simp [Df]
    | succ n=>rw [List.take_succ_cons,Df,Df];have:=ih n;omega
  have:=this x.items (V5 q.initial x.items.length)
  omega
 .exact zna _
theorem Ja (y:Ak):∀(l:List Ak) (i:Nat) (x:Ak),l[i]?=some x→Df (l.set i y)+Bu x=Df l+Bu y
 | x0::l,0,x,h=>by
  cases h
  rw [List.set_cons_zero,Df,Df]
  omega
 | x0::l,i+1,x,h=>by
  rw [List.set_cons_succ,Df,Df]
  have:=Ja y l i x (by simpa using h)
  omega
theorem Lr (on:ByteArray) (keys:List ByteArray):∀(fs:List CF) (is:List Ak),(∀x∈fs,∀v,Bu (x.2 v)≤Bu v)→Df (Gf on keys fs is)≤Df is
 | [],is,h=>zna _
 | (p,f)::r,is,h=>by
  rw [Gf]
  split
  .rename_i c
   refine znc (Lr on keys r _ fun x hx=>h x (List.mem_cons_of_mem _ hx)) ?_
   have e:is[(ix p.key keys 0).toNat]?=some (is.getD (ix p.key keys 0).toNat AB):=by rw [List.getD_eq_getElem?_getD,List.getElem?_eq_getElem (by omega)];rfl
   have h1:=Ja (f (D1 p (is.getD (ix p.key keys 0).toNat AB))) is _ _ e
   have h2:=h (p,f) (List.mem_cons_self ..) (D1 p (is.getD (ix p.key keys 0).toNat AB))
   have h3:=Jx p (is.getD (ix p.key keys 0).toNat AB)
   dsimp only at h2
   omega
  .exact Lr on keys r _ fun x hx=>h x (List.mem_cons_of_mem _ hx)
theorem PS {fs:List CF} (h:∀x∈fs,∀v,Bu (x.2 v)≤Bu v) (v:Ak):Bu (Gz fs v)≤Bu v:=by
 refine Ak.ind (Q:=fun v=>Bu (Gz fs v)≤Bu v) (fun v ih=>?_) v
 rw [FW]
 split
 .rw [Bn,Bn v]
  simp only [Ak.items_mk,Ak.keys_mk,zle]
  have:∀l:List Ak,(∀x∈l,Bu (Gz fs x)≤Bu x)→Df (l.map (Gz fs))≤Df l:=by
   intro l
   induction l with
   | nil=>intro _;exact zna _
   | cons x l ihl =>
    intro h
    rw [List.map_cons,Df,Df]
    have h1:=h x (by simp)
    have h2:=ihl fun y hy=>h y (by simp [hy])
    omega
  have:=this v.items ih
  omega
 .split
  .unfold Nv
   rw [Bn,Bn v]
   simp only [Ak.items_mk,Ak.keys_mk]
   have:=Lr (typF v) v.keys fs v.items h
   omega
  .exact zna _
theorem Wm (p:Pk):∀v,Bu (NS p v)≤Bu v :=
 Pk.ind (Q:=fun p=>∀v,Bu (NS p v)≤Bu v) (fun p ih v=>by
  rw [It]
  exact PS (fun x hx=>by rw [E5] at hx;obtain ⟨q,hq,rfl⟩:=List.mem_map.1 hx;exact ih q hq) v) p
theorem Q5 (l:List Pk) (v:Ak):Bu (CM l v)≤Bu v :=
 PS (fun x hx=>by rw [E5] at hx;obtain ⟨q,hq,rfl⟩:=List.mem_map.1 hx;exact Wm q) v
inductive CuS
 | mk (j:Nat) (l:List Ak) (n:Nat)
def RZ (l:List Pk):Prop:=∀v:Ak,Bu v≤1000000000→∀hp m,Ah prog 28 hp m [vx v,.ds (Ad Bo l)] (vx (CM l v))
theorem Lf (l:List Pk) (hl:l.length≤1000000000) (H:∀p∈l,RZ p.picks) (v:Ak) (hw:Bu v≤1000000000) (hp:CH) (m:Nat):Ah prog 50 hp m [vx v,.ds (Ad Bo l)] (vx (Nv (DW l) v)):=by
 have hv:=CX v (by omega)
 have hvi:=hv.i
 have LR:=hv.l
 have hT:=HZ v hv
 obtain ⟨on,hon⟩:∃o,typF v=o:=⟨_,rfl⟩
 rw [hon] at hT
 obtain ⟨RR,AD⟩:∃R,Gf on v.keys (DW l) v.items=R:=⟨_,rfl⟩
 unfold Nv
 rw [hon,AD]
 refine Am func50 (by kernel_rfl) cc50 cr50 rfl fun hf=>?_;unfold ck50
 simp (disch:=omega) only [Aa,go_sem]
 refine Af.f (hT _ _) ?_
 simp (disch:=omega) only [Aa,go_sem]
 refine A3.f (fun _ _ _=>NL v.keys LR _ _) ?_
 simp (disch:=omega) only [Aa,go_sem]
 refine A3.r (fun Ao=>NT v.items hvi Ao _) (by simp [Ad]) ?_
 simp (disch:=omega) only [Aa,go_sem]
 refine loop (fun p:CuS=>match p with
  | .mk j is n=>⟨[(4,.bx (m+1) 0),(5,.s on),(6,.bx (m+9) 0),(20,.ds (Ad Bo l)),(21,.i .i64 l.length),(22,.i .i64 j)],(m+9,.bx [.i .i64 6,.i .i64 0,.s ⟨#[]⟩,.rw (m+7) 0 v.items.length,.ds (Bv v.keys)])::(m+7,.rw 0 5 (Ad A2 is))::(m+1,.bx [.i .i64 0,.i .i64 0,.s ⟨#[]⟩,.e0,.e0])::(m,.bx [.i .i64 v.k,.i .i64 v.n,.s v.s,.ds (Ad A2 v.items),.ds (Bv v.keys)])::hp,n⟩)
  (fun p=>match p with | .mk j is n=>j≤l.length∧m+11≤n∧is.length=v.items.length∧Df is≤1000000000∧RR=Gf on v.keys (DW (l.drop j)) is) (fun p=>match p with | .mk j is n=>l.length - j) (.mk 0 v.items (m+11)) ?_ ?_ (fun p hj=>?_)
 .exact ⟨Nat.zero_le _,zna _,rfl,by rw [Bn] at hw;omega,AD.symm⟩
 .dsimp only
  refine Ac ?_ (Ae.sub (Ae.cons ?_ (Ae.cons ?_ (Ae.cons ?_ (Ae.cons ?_ (Ae.base hf fun a ha hax=>?_)))))) (zna _)
  .simp (disch:=omega) only [Aa,go_sem]
  .simp (disch:=omega) only [Aa,go_sem]
  .simp (disch:=omega) only [Aa,go_sem]
  .simp (disch:=omega) only [Aa,go_sem]
  .simp (disch:=omega) only [Aa,go_sem]
  .repeat rw [Aq _ _ (by omega)]
 obtain ⟨j,is,n⟩:=p
 obtain ⟨Cm,Ba,Aw,Cc,Dt⟩:=hj
 have hisl:(Ad A2 is).length=v.items.length:=by rw [Ax,Aw]
 have BO:m≤n:=by omega
 dsimp only
 simp (disch:=omega) only [Aa,go_sem]
 refine Ai (fun q=>?_) (fun q=>?_)
 case' refine_2 =>
  have q:j=l.length:=by simp at q;omega
  subst q
  rw [List.drop_length,DW,Gf] at Dt
  subst Dt
  have JJ:RR.take v.items.length=RR:=List.take_of_length_le (by omega)
  simp (disch:=omega) only [Aa,BO,hisl,zna,JJ,go_sem]
 have q:j<l.length:=by simpa using q
 obtain ⟨x,ex⟩:∃x,l[j]?=some x:=⟨l[j],by simp [q]⟩
 have hx:=H x (zla ex)
 rw [A5 ex,DW,Gf] at Dt
 simp (disch:=omega) only [Aa,q,Ag (Ab Bo ex),go_sem]
 refine Af.f (GJ v.keys x.key (by omega) _ _) ?_
 obtain ⟨a,ha⟩:∃a,ix x.key v.keys 0=a:=⟨_,rfl⟩
 rw [ha] at Dt ⊢
 have JJ:is.take v.items.length=is:=List.take_of_length_le (by omega)
 simp (disch:=omega) only [Aa,hisl,JJ,go_sem]
 refine Ai (fun c=>?_) (fun c=>?_)
 .rw [if_neg (fun h=>by simp [h.1,h.2.1] at c;omega)] at Dt
  simp (disch:=omega) only [Aa,go_sem]
  refine ⟨.mk (j+1) (is) (n+60),⟨show j+1≤l.length by omega,show m+11≤n+60 by omega,by simp only [List.length_set];exact Aw,show Df (is)≤1000000000 by omega,Dt⟩,by show l.length - (j+1)<l.length - j;omega,?_⟩
  dsimp only
  refine Ac ?_ (Ae.sub (Ae.cons ?_ (Ae.cons ?_ (Ae.cons ?_ (Ae.cons ?_ (Ae.base hf fun a ha hax=>?_)))))) (by omega)
  .simp (disch:=omega) only [Aa,At j (by omega),go_sem]
  .simp (disch:=omega) only [Aa,go_sem]
  .simp (disch:=omega) only [Aa,go_sem]
  .simp (disch:=omega) only [Aa,go_sem]
  .simp (disch:=omega) only [Aa,go_sem]
  .repeat rw [Aq _ _ (by omega)]
 have c:x.on=on∧x.label=⟨#[]⟩∧0≤a∧a<is.length:=by rw [Aw];simpa [and_assoc,Aw] using c
 rw [if_pos c] at Dt
 obtain ⟨i,rfl⟩:∃i:Nat,a=(i:Int):=⟨a.toNat,by omega⟩
 have hi:i<is.length:=by omega
 obtain ⟨y,ey⟩:∃y,is[i]?=some y:=⟨is[i],by simp [hi]⟩
 have ey2:is.getD i AB=y:=by rw [List.getD_eq_getElem?_getD,ey];rfl
 have hyw:Bu y≤1000000000:=znc (Cq (zla ey)) Cc
 have hyf:=CX y (by omega)
 rw [Int.toNat_natCast,ey2,It] at Dt
 have hE:=Pj y hyf x
 have Ij:i<v.items.length:=by omega
 have hset:=Ja (CM x.picks (D1 x y)) is i y ey
 have hcw:=znc (Q5 x.picks (D1 x y)) (Jx x y)
 have FI:=hx (D1 x y) (znc (Jx x y) hyw)
 obtain ⟨Z,hZ⟩:∃Z,CM x.picks (D1 x y)=Z:=⟨_,rfl⟩
 rw [hZ] at FI hset hcw Dt
 have hsv:(Ad A2 is).set i [AV.i .i64 Z.k,.i .i64 Z.n,.s Z.s,.ds (Ad A2 Z.items),.ds (Bv Z.keys)]=Ad A2 (is.set i Z):=by rw [←Bz];exact (List.map_set ..).symm
 have ey3:(Ad A2 is)[i]?=some [.i .i64 y.k,.i .i64 y.n,.s y.s,.ds (Ad A2 y.items),.ds (Bv y.keys)]:=by rw [Ab A2 ey,Bz]
 by_cases k5:y.k=5
 .have eL:D1 x y=.mk y.k y.n y.s (y.items.take (V5 x.initial y.items.length)) y.keys:=by unfold D1;rw [if_pos k5]
  have hea:=Aay x.initial y.items.length
  obtain ⟨w,hw2⟩:∃w,V5 x.initial y.items.length=w:=⟨_,rfl⟩
  rw [hw2] at hE hea eL
  have e3:0≤(w:Int)∧(w:Int)≤(y.items.length:Int):=by omega
  simp (disch:=omega) only [Aa,hisl,JJ,hi,Ij,Ag (Ab A2 ey),decide_eq_true k5,go_sem]
  refine A3.f (fun _ _ _=>hE _ _) ?_
  simp (disch:=omega) only [Aa,hisl,JJ,hi,Ij,Ag (Ab A2 ey),decide_eq_true k5,e3.1,e3.2,true_and,go_sem]
  rw [eL] at FI
  simp only [vx,Ak.k_mk,Ak.n_mk,Ak.s_mk,Ak.items_mk,Ak.keys_mk] at FI
  refine A3.f (fun _ _ _=>FI _ _) ?_
  simp (disch:=omega) only [Aa,hisl,JJ,hi,Ij,Ag (Ab A2 ey),decide_eq_true k5,e3.1,e3.2,true_and,hsv,ey3,zlc,zle,List.drop_succ_cons,List.drop_zero,List.take_succ_cons,List.take_zero,List.nil_append,List.append_nil,go_sem]
  refine ⟨.mk (j+1) (is.set i Z) (n+60),⟨show j+1≤l.length by omega,show m+11≤n+60 by omega,by simp only [List.length_set];exact Aw,show Df (is.set i Z)≤1000000000 by omega,Dt⟩,by show l.length - (j+1)<l.length - j;omega,?_⟩
  dsimp only
  refine Ac ?_ (Ae.sub (Ae.cons ?_ (Ae.cons ?_ (Ae.cons ?_ (Ae.cons ?_ (Ae.base hf fun a ha hax=>?_)))))) (by omega)
  .simp (disch:=omega) only [Aa,At j (by omega),go_sem]
  .simp (disch:=omega) only [Aa,go_sem]
  .simp (disch:=omega) only [Aa,go_sem]
  .simp (disch:=omega) only [Aa,go_sem]
  .simp (disch:=omega) only [Aa,go_sem]
  .repeat rw [Aq _ _ (by omega)]
 .have eL:D1 x y=y:=if_neg k5
  simp (disch:=omega) only [Aa,hisl,JJ,hi,Ij,Ag (Ab A2 ey),decide_eq_false k5,go_sem]
  rw [eL] at FI
  refine A3.f (fun _ _ _=>FI _ _) ?_
  simp (disch:=omega) only [Aa,hisl,JJ,hi,Ij,Ag (Ab A2 ey),decide_eq_false k5,hsv,ey3,zlc,zle,List.drop_succ_cons,List.drop_zero,List.take_succ_cons,List.take_zero,List.nil_append,List.append_nil,go_sem]
  refine ⟨.mk (j+1) (is.set i Z) (n+60),⟨show j+1≤l.length by omega,show m+11≤n+60 by omega,by simp only [List.length_set];exact Aw,show Df (is.set i Z)≤1000000000 by omega,Dt⟩,by show l.length - (j+1)<l.length - j;omega,?_⟩
  dsimp only
  refine Ac ?_ (Ae.sub (Ae.cons ?_ (Ae.cons ?_ (Ae.cons ?_ (Ae.cons ?_ (Ae.base hf fun a ha hax=>?_)))))) (by omega)
  .simp (disch:=omega) only [Aa,At j (by omega),go_sem]
  .simp (disch:=omega) only [Aa,go_sem]
  .simp (disch:=omega) only [Aa,go_sem]
  .simp (disch:=omega) only [Aa,go_sem]
  .simp (disch:=omega) only [Aa,go_sem]
  .repeat rw [Aq _ _ (by omega)]
inductive LiS
 | mk (j:Nat) (g:Nat) (l:List Ak) (n:Nat)
theorem Tr (l:List Pk) (hl:l.length≤1000000000) (H:∀p∈l,RZ p.picks):RZ l:=by
 intro v
 refine Ak.ind (Q:=fun v=>Bu v≤1000000000→∀hp m,Ah prog 28 hp m [vx v,.ds (Ad Bo l)] (vx (CM l v))) (fun v ih hw hp m=>?_) v
 have hv:=CX v (by omega)
 have hvi:=hv.i
 by_cases k5:v.k=5
 .have e5:=Ace (l:=l) k5
  obtain ⟨RR,AD⟩:∃R,v.items.map (CM l)=R:=⟨_,rfl⟩
  rw [AD] at e5
  rw [e5]
  refine Am func28 (by kernel_rfl) cc28 cr28 rfl fun hf=>?_;unfold ck28
  simp (disch:=omega) only [Aa,decide_eq_true k5,go_sem]
  refine loop (fun p:LiS=>match p with
   | .mk j g L n=>⟨[(1,.ds (Ad Bo l)),(4,.bx (m+1) 0),(5,.bx (m+2) 0),(14,.ds (Ad A2 v.items)),(15,.i .i64 v.items.length),(16,.i .i64 j)],(m+3,.rw g 5 (Ad A2 L))::(m+2,.bx [.i .i64 5,.i .i64 0,.s ⟨#[]⟩,.rw (m+3) g L.length,.e0])::(m+1,.bx [.i .i64 0,.i .i64 0,.s ⟨#[]⟩,.e0,.e0])::hp,n⟩)
   (fun p=>match p with | .mk j g L n=>j≤v.items.length∧m+4≤n∧L=(v.items.take j).map (CM l)) (fun p=>match p with | .mk j g L n=>v.items.length - j) (.mk 0 0 [] (m+4)) ?_ ?_ (fun p hj=>?_)
  .exact ⟨Nat.zero_le _,zna _,rfl⟩
  .dsimp only
   refine (Dy (c:=m+2) (i:=3) (m:=5) (cs:=[.i .i64 5,.i .i64 0,.s ⟨#[]⟩,.e0,.e0]) (by (simp (disch:=omega) only [Aa,go_sem])) rfl).trans (Ac ?_ (Ae.sub (Ae.cons ?_ (Ae.cons ?_ (Ae.cons ?_ (Ae.base hf fun a ha hax=>?_))))) (zna _))
   .simp (disch:=omega) only [Aa,go_sem]
   .simp (disch:=omega) only [Aa,go_sem]
    try rfl
   .simp (disch:=omega) only [Aa,List.set_cons_succ,List.set_cons_zero,go_sem]
   .simp (disch:=omega) only [Aa,go_sem]
   .repeat rw [Aq _ _ (by omega)]
  obtain ⟨j,g,L,n⟩:=p
  obtain ⟨Cm,Ba,Aw⟩:=hj
  have Cb:(Ad A2 L).length=L.length:=Ax _ _
  have SU:L.length=j:=by rw [Aw,List.length_map,List.length_take];omega
  have BO:m≤n:=by omega
  dsimp only
  simp (disch:=omega) only [Aa,go_sem]
  refine Ai (fun q=>?_) (fun q=>?_)
  case' refine_2 =>
   have q:j=v.items.length:=by simp at q;omega
   subst q
   rw [List.take_length,AD] at Aw
   subst Aw
   simp (disch:=omega) only [Aa,BO,Cb,zna,go_sem]
   try rfl
  have q:j<v.items.length:=by simpa using q
  obtain ⟨x,ex⟩:∃x,v.items[j]?=some x:=⟨v.items[j],by simp [q]⟩
  have hx:=ih x (zla ex) (znc (Cq (zla ex)) (by rw [Bn] at hw;omega))
  have k1:(L.length+1)*80≤140737488355328:=by omega
  have k2:L.length+1≤9223372036854775807:=by omega
  obtain ⟨Z,hZ⟩:∃Z,CM l x=Z:=⟨_,rfl⟩
  rw [hZ] at hx
  simp (disch:=omega) only [Aa,q,Ag (Ab A2 ex),go_sem]
  refine A3.f (fun _ _ _=>hx _ _) ?_
  simp (disch:=omega) only [Aa,q,Ag (Ab A2 ex),Cb,k1,k2,CW,true_and,go_sem]
  refine ⟨.mk (j+1) (g+1) (L++[Z]) (n+60),⟨show j+1≤v.items.length by omega,show m+4≤n+60 by omega,by show _=_;rw [←Bg ex,List.map_append,Aw,←hZ];rfl⟩,by show v.items.length - (j+1)<v.items.length - j;omega,?_⟩
  dsimp only
  refine Ac ?_ (Ae.sub (Ae.cons ?_ (Ae.cons ?_ (Ae.cons ?_ (Ae.base hf fun a ha hax=>?_))))) (by omega)
  .simp (disch:=omega) only [Aa,At j (by omega),zld,zlc,zle,go_sem]
  .simp (disch:=omega) only [Aa,go_sem]
  .simp (disch:=omega) only [Aa,zld,zlc,zle,go_sem]
  .simp (disch:=omega) only [Aa,go_sem]
  .repeat rw [Aq _ _ (by omega)]
 .by_cases k6:v.k=6
  .have hC:=Lf l hl H v hw
   rw [←Abx (l:=l) k6] at hC
   obtain ⟨Z,hZ⟩:∃Z,CM l v=Z:=⟨_,rfl⟩
   rw [hZ] at hC ⊢
   refine Am func28 (by kernel_rfl) cc28 cr28 rfl fun hf=>?_;unfold ck28
   simp (disch:=omega) only [Aa,decide_eq_false k5,decide_eq_true k6,go_sem]
   refine Af.f (hC _ _) ?_
   simp (disch:=omega) only [Aa,go_sem]
  .have e:CM l v=v:=by unfold CM;rw [FW,if_neg k5,if_neg k6]
   rw [e]
   refine Am func28 (by kernel_rfl) cc28 cr28 rfl fun hf=>?_;unfold ck28
   simp (disch:=omega) only [Aa,decide_eq_false k5,decide_eq_false k6,go_sem]
theorem Ai3 (l:List Pk) (h:BQ l):RZ l:=by
 have key:∀p:Pk,BQ p.picks→RZ p.picks:=fun p=>Pk.ind (Q:=fun p=>BQ p.picks→RZ p.picks) (fun v ih hv=>Tr v.picks hv.len fun p hp=>ih p hp (hv.x hp)) p
 exact Tr l h.len fun p hp=>key p (h.x hp)
end Go.Proofs.YtgfidgoefioigaaGreatDoor
