/- Proof. Conditions: none. -/
import Derived.Test.YtgfidgoefioigaaGreatDoorIj42
open List renaming drop_eq_nil_of_le->z1i,append_nil->zg,take_succ_cons->z7,mem_cons_of_mem->z16,take_of_length_le->z10,length_set->z28,drop_succ_cons->za
open Nat renaming zero_le->zt
open Bool renaming not_true->zp,not_false->zi
open Go.Proofs.Tryz
open List renaming mem_of_getElem?->zla,length_cons->zlc,length_append->zld,length_nil->zle,take_length->zlj,length_take->zlo,map_append->zlq,length_map->zlv
open Nat renaming le_refl->zna,le_trans->znc
namespace Go.Proofs.YtgfidgoefioigaaGreatDoor
open Go.Eng
set_option linter.all false
set_option maxRecDepth 20000
set_option maxHeartbeats 1000000
theorem Fc (v:Ag) (hv:v.Fit) (hp:CH) (m:Nat):Af prog 51 hp m [vx v] (.s (typF v)):=by
 have hG:=IY v hv sT
 unfold KQ at hG
 unfold typF
 obtain ⟨t,ht⟩:=A5 ((AA v sT).getD A6)
 obtain ⟨b,hb⟩:=A5 ((AA v sT).isSome)
 rw [ht,hb] at hG
 rw [ht]
 refine Aj func51 (tA cc51) (tB cc51) (tC cc51) rfl fun hf=>?_;unfold ck51
 simp (disch:=omega) only [go_sem]
 refine Ac.f (hG _ _) ?_
 simp (disch:=omega) only [go_sem]
theorem MS (v:Ag) (hv:v.Fit) (hp:CH) (m:Nat):Af prog 59 hp m [vx v] (.s (typF v)):=by
 have hG:=DA v hv sT
 obtain ⟨R,hR⟩:=A5 (typF v)
 rw [hR]
 unfold typF at hR
 by_cases h6:v.k=6
 .cases hg:AA v sT with
  |none=>
   rw [hg] at hG hR
   have hR:R=⟨#[]⟩:=hR.symm
   subst hR
   refine Aj func59 (tA cc59) (tB cc59) (tC cc59) rfl fun hf=>?_;unfold ck59
   simp (disch:=omega) only [go_sem]
   refine Ac.f (hG _ _) ?_
   simp (disch:=omega) only [dT h6,zp,zi,go_sem]
  |some t=>
   rw [hg] at hG hR
   have hR:t.s=R:=hR
   subst hR
   refine Aj func59 (tA cc59) (tB cc59) (tC cc59) rfl fun hf=>?_;unfold ck59
   simp (disch:=omega) only [go_sem]
   refine Ac.f (hG _ _) ?_
   simp (disch:=omega) only [dT h6,zp,zi,go_sem]
 .have hg:AA v sT=none:=DZ h6
  rw [hg] at hG hR
  have hR:R=⟨#[]⟩:=hR.symm
  subst hR
  refine Aj func59 (tA cc59) (tB cc59) (tC cc59) rfl fun hf=>?_;unfold ck59
  simp (disch:=omega) only [go_sem]
  refine Ac.f (hG _ _) ?_
  simp (disch:=omega) only [dF h6,zp,zi,go_sem]
theorem K8 (v:Ag) (hv:v.Fit) (p:Pk) (hp:CH) (m:Nat):Af prog 95 hp m [vx v,pkx p] (.i .i64 (I5 p.initial v.items.length)):=by
 have hl:=hv.i
 obtain ⟨R,hR⟩:=A5 (I5 p.initial v.items.length)
 rw [hR]
 unfold I5 at hR
 by_cases c:p.initial=-1
 .rw [iP c] at hR
  refine Aj func95 (tA cc95) (tB cc95) (tC cc95) rfl fun hf=>?_;unfold ck95
  simp (disch:=omega) only [dT c,go_sem]
  rw [hR]
 .rw [iN c] at hR
  refine Aj func95 (tA cc95) (tB cc95) (tC cc95) rfl fun hf=>?_;unfold ck95
  simp (disch:=omega) only [dF c,go_sem]
  have:(if (v.items.length:Int)<if p.initial<0 then 0 else p.initial then (v.items.length:Int) else if p.initial<0 then 0 else p.initial)=(R:Int):=by
   rw [<-hR]
   split<;>split at*<;> omega
  rw [this]
theorem Qa (l:List Ag) (h:l.length*80<=140737488355327) (hp:CH) (m:Nat):AU prog 93 hp m [.ds (Ab Ar l)] ((m,.rw 0 5 (Ab Ar l))::hp) (m+1) (.rw m 0 l.length):=by
 refine GP (outs:=[(5,Ab Ar l)]) func93 (tA cc93) (tB cc93) (tC cc93) rfl fun hf=>?_;unfold ck93
 simp only [go_sem]
 exact ⟨fun e=>⟨by simpa [Ab] using congrArg List.length e,e⟩,by omega,by omega⟩
theorem I6 (a b:List Ag) (h:(a.length+b.length)*80<=140737488355327) (hp:CH) (m:Nat):Af prog 54 hp m [.ds (Ab Ar a),.ds (Ab Ar b)] (.ds (Ab Ar (a++b))):=by
 have LW:(Ab Ar a).length=a.length:=Ao _ _
 have hbl:(Ab Ar b).length=b.length:=Ao _ _
 have happ:Ab Ar a++Ab Ar b=Ab Ar (a++b):=zlq.symm
 refine Aj func54 (tA cc54) (tB cc54) (tC cc54) rfl fun hf=>?_;unfold ck54
 simp (disch:=omega) only [go_sem]
 refine Ac.x (Qa a (by omega) _ _) ?_
 simp (disch:=omega) only [LW,hbl,happ,go_sem]
 exact ⟨by omega,by omega⟩
theorem Hq (a:List Ag) (x:Ag) (h:a.length<=1000000000000) (hp:CH) (m:Nat):Af prog 63 hp m [.ds (Ab Ar a),vx x] (.ds (Ab Ar (a++[x]))):=by
 refine Aj func63 (tA cc63) (tB cc63) (tC cc63) rfl fun hf=>?_;unfold ck63
 simp (disch:=omega) only [go_sem]
 exact ⟨by omega,by omega,by omega,by omega⟩
theorem KV (l:List Pk):(AM l).length<=l.length:=by
 rw [CL,zlv]
 exact List.length_filter_le _ _
theorem SQ (l:List Pk) (p:Pk) (lb:qB) (q:List Pk):Ab AJ l++[[AV.s p.key,.s p.on,.s p.name,.ds (Ab BB p.args),.s p.tn,.ds (Ab D0 p.tw),.s lb,.i .i64 p.initial,.ds (Ab AJ q)]]=Ab AJ (l++[PG p lb q]):=by
 rw [<-AX AJ l,BH]
 rfl
inductive PkS
 | mk (j g:Nat) (l:List Pk) (n:Nat)
theorem Lq (l:List Pk) (hw:AF l<=100000000000) (h:∀p∈l,∀hp m,Af prog 27 hp m [.ds (Ab AJ p.picks)] (.ds (Ab AJ (AM p.picks)))) (hp:CH) (m:Nat):Af prog 27 hp m [.ds (Ab AJ l)] (.ds (Ab AJ (AM l))):=by
 have hl:=Eg l
 obtain ⟨RR,A9⟩:=A5 (AM l)
 rw [A9]
 refine Aj func27 (tA cc27) (tB cc27) (tC cc27) rfl fun hf=>?_;unfold ck27
 simp (disch:=omega) only [go_sem]
 refine loop (fun p:PkS=>match p with
  | .mk j g L n=>⟨[(3,.rw m g L.length),(6,.ds (Ab AJ l)),(7,.i .i64 l.length),(8,.i .i64 j)],(m,.rw g 9 (Ab AJ L))::hp,n⟩)
  (fun p=>match p with | .mk j g L n=>j<=l.length∧m+1<=n∧L=AM (l.take j)) (fun p=>match p with | .mk j g L n=>l.length - j) (.mk 0 0 [] (m+1)) ?_ ?_ (fun p hj=>?_)
 .exact ⟨zt _,zna _,rfl⟩
 .dsimp only
  refine (Bo (t:=3) (m:=9) (by (simp (disch:=omega) only [go_sem]))).trans (Nd hf ?_ ?_ (fun a ha c7=>?_) (zna _))
  .simp (disch:=omega) only [go_sem]
  .simp (disch:=omega) only [go_sem]
   try rfl
  .repeat rw [Ai _ _ (by omega)]
 obtain ⟨j,g,L,n⟩:=p
 obtain ⟨Cg,Bc,As⟩:=hj
 have BS:(Ab AJ L).length=L.length:=Ao _ _
 have QK:L.length<=l.length:=by rw [As];have:=KV (l.take j);rw [zlo] at this;omega
 have BC:m<=n:=by omega
 dsimp only
 simp (disch:=omega) only [go_sem]
 refine Ae (fun q=>?_) (fun q=>?_)
 case' refine_2=>
  have q:j=l.length:=by simp at q;omega
  subst q
  rw [zlj,A9] at As
  subst As
  simp (disch:=omega) only [BC,BS,zna,go_sem]
 have q:j<l.length:=by simpa using q
 obtain ⟨x,ex⟩:∃x,l[j]?=some x:=⟨l[j],by simp [q]⟩
 have hx:=h x (zla ex)
 have C6:AM (l.take (j+1))=if x.label=⟨#[]⟩ then AM (l.take j)++[HW x] else AM (l.take j):=by rw [<-AN ex,M3]
 have k1:(L.length+1)*160<=140737488355328:=by omega
 have k2:L.length+1<=9223372036854775807:=by omega
 simp (disch:=omega) only [q,Ad (Aa AJ ex),go_sem]
 refine Ae (fun c=>?_) (fun c=>?_)
 .have c:x.label=⟨#[]⟩:=by simpa using c
  rw [iP c,Oe,c] at C6
  simp (disch:=omega) only [q,Ad (Aa AJ ex),go_sem]
  refine Ac.f (hx _ _) ?_
  rw [c]
  simp (disch:=omega) only [q,Ad (Aa AJ ex),BS,k1,k2,SQ,true_and,go_sem]
  refine ⟨.mk (j+1) (g+1) (L++[PG x ⟨#[]⟩ (AM x.picks)]) (n+60),⟨show j+1<=l.length by omega,show m+1<=n+60 by omega,by show _=_;rw [C6,As]⟩,by show l.length - (j+1)<l.length - j;omega,?_⟩
  dsimp only
  refine Nd hf ?_ ?_ (fun a ha c7=>?_) (by omega)
  .simp (disch:=omega) only [Ap j (by omega),zld,zlc,zle,go_sem]
  .simp (disch:=omega) only [go_sem]
  .repeat rw [Ai _ _ (by omega)]
 .have c:¬x.label=⟨#[]⟩:=by simpa using c
  rw [iN c] at C6
  simp (disch:=omega) only [go_sem]
  refine ⟨.mk (j+1) (g) (L) (n+60),⟨show j+1<=l.length by omega,show m+1<=n+60 by omega,by show _=_;rw [C6,As]⟩,by show l.length - (j+1)<l.length - j;omega,?_⟩
  dsimp only
  refine Nd hf ?_ ?_ (fun a ha c7=>?_) (by omega)
  .simp (disch:=omega) only [Ap j (by omega),zld,zlc,zle,go_sem]
  .simp (disch:=omega) only [go_sem]
  .repeat rw [Ai _ _ (by omega)]
theorem JE (l:List Pk) (hw:AF l<=100000000000) (h:∀p∈l,∀hp m,Af prog 31 hp m [.ds (Ab AJ p.picks)] (.ds (Ab AJ (AM p.picks)))) (hp:CH) (m:Nat):Af prog 31 hp m [.ds (Ab AJ l)] (.ds (Ab AJ (AM l))):=by
 have hl:=Eg l
 obtain ⟨RR,A9⟩:=A5 (AM l)
 rw [A9]
 refine Aj func31 (tA cc31) (tB cc31) (tC cc31) rfl fun hf=>?_;unfold ck31
 simp (disch:=omega) only [go_sem]
 refine loop (fun p:PkS=>match p with
  | .mk j g L n=>⟨[(0,.ds (Ab AJ l)),(3,.rw m g L.length),(4,.i .i64 j)],(m,.rw g 9 (Ab AJ L))::hp,n⟩)
  (fun p=>match p with | .mk j g L n=>j<=l.length∧m+1<=n∧L=AM (l.take j)) (fun p=>match p with | .mk j g L n=>l.length - j) (.mk 0 0 [] (m+1)) ?_ ?_ (fun p hj=>?_)
 .exact ⟨zt _,zna _,rfl⟩
 .dsimp only
  refine (Bo (t:=3) (m:=9) (by (simp (disch:=omega) only [go_sem]))).trans (Nd hf ?_ ?_ (fun a ha c7=>?_) (zna _))
  .simp (disch:=omega) only [go_sem]
  .simp (disch:=omega) only [go_sem]
   try rfl
  .repeat rw [Ai _ _ (by omega)]
 obtain ⟨j,g,L,n⟩:=p
 obtain ⟨Cg,Bc,As⟩:=hj
 have BS:(Ab AJ L).length=L.length:=Ao _ _
 have QK:L.length<=l.length:=by rw [As];have:=KV (l.take j);rw [zlo] at this;omega
 have BC:m<=n:=by omega
 dsimp only
 simp (disch:=omega) only [go_sem]
 refine Ae (fun q=>?_) (fun q=>?_)
 case' refine_2=>
  have q:j=l.length:=by simp at q;omega
  subst q
  rw [zlj,A9] at As
  subst As
  simp (disch:=omega) only [BC,BS,zna,go_sem]
 have q:j<l.length:=by simpa using q
 obtain ⟨x,ex⟩:∃x,l[j]?=some x:=⟨l[j],by simp [q]⟩
 have hx:=h x (zla ex)
 have C6:AM (l.take (j+1))=if x.label=⟨#[]⟩ then AM (l.take j)++[HW x] else AM (l.take j):=by rw [<-AN ex,M3]
 have k1:(L.length+1)*160<=140737488355328:=by omega
 have k2:L.length+1<=9223372036854775807:=by omega
 simp (disch:=omega) only [q,Ad (Aa AJ ex),go_sem]
 refine Ae (fun c=>?_) (fun c=>?_)
 .have c:x.label=⟨#[]⟩:=by simpa using c
  rw [iP c,Oe,c] at C6
  simp (disch:=omega) only [q,Ad (Aa AJ ex),go_sem]
  refine Ac.f (hx _ _) ?_
  rw [c]
  simp (disch:=omega) only [q,Ad (Aa AJ ex),BS,k1,k2,SQ,true_and,go_sem]
  refine ⟨.mk (j+1) (g+1) (L++[PG x ⟨#[]⟩ (AM x.picks)]) (n+60),⟨show j+1<=l.length by omega,show m+1<=n+60 by omega,by show _=_;rw [C6,As]⟩,by show l.length - (j+1)<l.length - j;omega,?_⟩
  dsimp only
  refine Nd hf ?_ ?_ (fun a ha c7=>?_) (by omega)
  .simp (disch:=omega) only [Ap j (by omega),zld,zlc,zle,go_sem]
  .simp (disch:=omega) only [go_sem]
  .repeat rw [Ai _ _ (by omega)]
 .have c:¬x.label=⟨#[]⟩:=by simpa using c
  rw [iN c] at C6
  simp (disch:=omega) only [go_sem]
  refine ⟨.mk (j+1) (g) (L) (n+60),⟨show j+1<=l.length by omega,show m+1<=n+60 by omega,by show _=_;rw [C6,As]⟩,by show l.length - (j+1)<l.length - j;omega,?_⟩
  dsimp only
  refine Nd hf ?_ ?_ (fun a ha c7=>?_) (by omega)
  .simp (disch:=omega) only [Ap j (by omega),zld,zlc,zle,go_sem]
  .simp (disch:=omega) only [go_sem]
  .repeat rw [Ai _ _ (by omega)]
theorem HM (l:List Pk) (hw:AF l<=100000000000) (hp:CH) (m:Nat):Af prog 27 hp m [.ds (Ab AJ l)] (.ds (Ab AJ (AM l))):=by
 have key:∀p:Pk,I8 p<=100000000000->∀hp m,Af prog 27 hp m [.ds (Ab AJ p.picks)] (.ds (Ab AJ (AM p.picks))):=fun p=>Pk.ind (Q:=fun p=>I8 p<=100000000000->∀hp m,Af prog 27 hp m [.ds (Ab AJ p.picks)] (.ds (Ab AJ (AM p.picks)))) (fun v ih hv=>by
  rw [Cs] at hv
  exact Lq v.picks (by omega) fun p hp=>ih p hp (by have:=CA hp;omega)) p
 exact Lq l hw (fun p hp=>key p (by have:=CA hp;omega)) hp m
theorem G8 (l:List Pk) (hw:AF l<=100000000000) (hp:CH) (m:Nat):Af prog 31 hp m [.ds (Ab AJ l)] (.ds (Ab AJ (AM l))):=by
 have key:∀p:Pk,I8 p<=100000000000->∀hp m,Af prog 31 hp m [.ds (Ab AJ p.picks)] (.ds (Ab AJ (AM p.picks))):=fun p=>Pk.ind (Q:=fun p=>I8 p<=100000000000->∀hp m,Af prog 31 hp m [.ds (Ab AJ p.picks)] (.ds (Ab AJ (AM p.picks)))) (fun v ih hv=>by
  rw [Cs] at hv
  exact JE v.picks (by omega) fun p hp=>ih p hp (by have:=CA hp;omega)) p
 exact JE l hw (fun p hp=>key p (by have:=CA hp;omega)) hp m
inductive PrS
 | mk (j g:Nat) (l:List Dc) (n:Nat)
theorem Jb (l:List Dc) (q:Dc) (a:List Ag) (n:Nat):Ef (l++[q]) a n=Ef l a n++[.mk (a++q.p.drop n) q.t]:=by unfold Ef;rw [zlq];rfl
theorem Qy (l:List Dc) (a:List Ag) (n:Nat):(Ef l a n).length=l.length:=zlv ..
theorem Pw (l:List Dc) (hl:l.length<=1000000000000) (hq:∀q∈l,q.p.length<=100000000000) (d8:List Ag) (ha:d8.length<=100000000000) (k:Nat) (hk:k<=1000) (hp:CH) (m:Nat):Af prog 55 hp m [.ds (Ab BD l),.ds (Ab Ar d8),.i .i64 k] (.ds (Ab BD (Ef l d8 k))):=by
 obtain ⟨RR,A9⟩:=A5 (Ef l d8 k)
 rw [A9]
 refine Aj func55 (tA cc55) (tB cc55) (tC cc55) rfl fun hf=>?_;unfold ck55
 simp (disch:=omega) only [go_sem]
 refine loop (fun p:PrS=>match p with
  | .mk j g L n=>⟨[(1,.ds (Ab Ar d8)),(2,.i .i64 k),(7,.rw m g L.length),(10,.ds (Ab BD l)),(11,.i .i64 l.length),(12,.i .i64 j)],(m,.rw g 2 (Ab BD L))::hp,n⟩)
  (fun p=>match p with | .mk j g L n=>j<=l.length∧m+1<=n∧L=Ef (l.take j) d8 k) (fun p=>match p with | .mk j g L n=>l.length - j) (.mk 0 0 [] (m+1)) ?_ ?_ (fun p hj=>?_)
 .exact ⟨zt _,zna _,rfl⟩
 .dsimp only
  refine (Bo (t:=7) (m:=2) (by (simp (disch:=omega) only [go_sem]))).trans (Nd hf ?_ ?_ (fun a ha c7=>?_) (zna _))
  .simp (disch:=omega) only [go_sem]
  .simp (disch:=omega) only [go_sem]
   try rfl
  .repeat rw [Ai _ _ (by omega)]
 obtain ⟨j,g,L,n⟩:=p
 obtain ⟨Cg,Bc,As⟩:=hj
 have BS:(Ab BD L).length=L.length:=Ao _ _
 have QK:L.length<=l.length:=by rw [As,Qy,zlo];omega
 have BC:m<=n:=by omega
 dsimp only
 simp (disch:=omega) only [go_sem]
 refine Ae (fun q=>?_) (fun q=>?_)
 case' refine_2=>
  have q:j=l.length:=by simp at q;omega
  subst q
  rw [zlj,A9] at As
  subst As
  simp (disch:=omega) only [BC,BS,zna,go_sem]
 have q:j<l.length:=by simpa using q
 obtain ⟨x,ex⟩:∃x,l[j]?=some x:=⟨l[j],by simp [q]⟩
 have hx:=hq x (zla ex)
 have k1:(L.length+1)*40<=140737488355328:=by omega
 have k2:L.length+1<=9223372036854775807:=by omega
 have hJ:=I6 d8 (x.p.drop k) (by rw [List.length_drop];omega)
 obtain ⟨w,hw⟩:=A5 (min k x.p.length)
 have e:(if (x.p.length:Int)<(k:Int) then (x.p.length:Int) else (k:Int))=(w:Int):=by rw [<-hw];split<;>omega
 have e2:x.p.drop k=x.p.drop w:=by
  rw [<-hw]
  rcases Nat.lt_or_ge x.p.length k with o | o
  .rw [Nat.min_eq_right (by omega),List.drop_length,z1i (by omega)]
  .rw [Nat.min_eq_left o]
 have e3:0<=(w:Int)∧(w:Int)<=(x.p.length:Int):=by omega
 rw [e2] at hJ
 simp (disch:=omega) only [q,Ad (Aa BD ex),e,e3.1,e3.2,true_and,go_sem]
 refine Aq.f (fun _ _ _=>hJ _ _) ?_
 simp (disch:=omega) only [q,Ad (Aa BD ex),e,e3.1,e3.2,true_and,BS,k1,k2,QF,go_sem]
 refine ⟨.mk (j+1) (g+1) (L++[.mk (d8++x.p.drop w) x.t]) (n+60),⟨show j+1<=l.length by omega,show m+1<=n+60 by omega,by show _=_;rw [<-AN ex,Jb,As,e2]⟩,by show l.length - (j+1)<l.length - j;omega,?_⟩
 dsimp only
 refine Nd hf ?_ ?_ (fun a ha c7=>?_) (by omega)
 .simp (disch:=omega) only [Ap j (by omega),zld,zlc,zle,go_sem]
 .simp (disch:=omega) only [go_sem]
 .repeat rw [Ai _ _ (by omega)]
theorem Nm (l:List Dc) (hl:l.length<=1000000000000) (hq:∀q∈l,q.p.length<=100000000000) (d8:List Ag) (ha:d8.length<=100000000000) (k:Nat) (hk:k<=1000) (hp:CH) (m:Nat):Af prog 64 hp m [.ds (Ab BD l),.ds (Ab Ar d8),.i .i64 k] (.ds (Ab BD (Ef l d8 k))):=by
 obtain ⟨RR,A9⟩:=A5 (Ef l d8 k)
 rw [A9]
 refine Aj func64 (tA cc64) (tB cc64) (tC cc64) rfl fun hf=>?_;unfold ck64
 simp (disch:=omega) only [go_sem]
 refine loop (fun p:PrS=>match p with
  | .mk j g L n=>⟨[(0,.ds (Ab BD l)),(1,.ds (Ab Ar d8)),(2,.i .i64 k),(7,.rw m g L.length),(8,.i .i64 j)],(m,.rw g 2 (Ab BD L))::hp,n⟩)
  (fun p=>match p with | .mk j g L n=>j<=l.length∧m+1<=n∧L=Ef (l.take j) d8 k) (fun p=>match p with | .mk j g L n=>l.length - j) (.mk 0 0 [] (m+1)) ?_ ?_ (fun p hj=>?_)
 .exact ⟨zt _,zna _,rfl⟩
 .dsimp only
  refine (Bo (t:=7) (m:=2) (by (simp (disch:=omega) only [go_sem]))).trans (Nd hf ?_ ?_ (fun a ha c7=>?_) (zna _))
  .simp (disch:=omega) only [go_sem]
  .simp (disch:=omega) only [go_sem]
   try rfl
  .repeat rw [Ai _ _ (by omega)]
 obtain ⟨j,g,L,n⟩:=p
 obtain ⟨Cg,Bc,As⟩:=hj
 have BS:(Ab BD L).length=L.length:=Ao _ _
 have QK:L.length<=l.length:=by rw [As,Qy,zlo];omega
 have BC:m<=n:=by omega
 dsimp only
 simp (disch:=omega) only [go_sem]
 refine Ae (fun q=>?_) (fun q=>?_)
 case' refine_2=>
  have q:j=l.length:=by simp at q;omega
  subst q
  rw [zlj,A9] at As
  subst As
  simp (disch:=omega) only [BC,BS,zna,go_sem]
 have q:j<l.length:=by simpa using q
 obtain ⟨x,ex⟩:∃x,l[j]?=some x:=⟨l[j],by simp [q]⟩
 have hx:=hq x (zla ex)
 have k1:(L.length+1)*40<=140737488355328:=by omega
 have k2:L.length+1<=9223372036854775807:=by omega
 simp (disch:=omega) only [q,Ad (Aa BD ex),go_sem]
 refine ⟨by omega,by omega,Ae (fun c=>?_) (fun c=>?_)⟩
 .have c:k<x.p.length:=by simpa using c
  have G0:(x.p.drop k).length<=x.p.length:=by rw [List.length_drop];omega
  simp (disch:=omega) only [q,Ad (Aa BD ex),go_sem]
  refine ⟨by omega,by omega,by omega,by omega,by omega,?_⟩
  refine ⟨.mk (j+1) (g+1) (L++[.mk (d8++x.p.drop k) x.t]) (n+60),⟨show j+1<=l.length by omega,show m+1<=n+60 by omega,by show _=_;rw [<-AN ex,Jb,As]⟩,by show l.length - (j+1)<l.length - j;omega,?_⟩
  dsimp only
  refine Nd hf ?_ ?_ (fun a ha c7=>?_) (by omega)
  .simp (disch:=omega) only [Ap j (by omega),zld,zlc,zle,go_sem]
  .simp (disch:=omega) only [go_sem]
  .repeat rw [Ai _ _ (by omega)]
 .have c:¬k<x.p.length:=by simpa using c
  simp (disch:=omega) only [q,Ad (Aa BD ex),go_sem]
  refine ⟨by omega,by omega,?_⟩
  refine ⟨.mk (j+1) (g+1) (L++[.mk (d8) x.t]) (n+60),⟨show j+1<=l.length by omega,show m+1<=n+60 by omega,by show _=_;rw [<-AN ex,Jb,As,z1i (by omega),zg]⟩,by show l.length - (j+1)<l.length - j;omega,?_⟩
  dsimp only
  refine Nd hf ?_ ?_ (fun a ha c7=>?_) (by omega)
  .simp (disch:=omega) only [Ap j (by omega),zld,zlc,zle,go_sem]
  .simp (disch:=omega) only [go_sem]
  .repeat rw [Ai _ _ (by omega)]
theorem XC (i:Int) (n:Nat):I5 i n<=n:=by unfold I5;split<;>omega
theorem IE (q:Pk) (x:Ag):AG (BV q x)<=AG x:=by
 unfold BV
 split
 .rw [AE,AE]
  simp only [Ag.items_mk,Ag.keys_mk]
  have:∀(l:List Ag) (n:Nat),Ci (l.take n)<=Ci l:=by
   intro l
   induction l with
   |nil=>intro n;rw [List.take_nil];exact zna _
   |cons x l ih=>
    intro n
    cases n with
    |zero=>simp [Ci]
    |succ n=>rw [z7,Ci,Ci];have:=ih n;omega
  have:=this x.items (I5 q.initial x.items.length)
  omega
 .exact zna _
theorem L4 (y:Ag):∀(l:List Ag) (i:Nat) (x:Ag),l[i]?=some x->Ci (l.set i y)+AG x=Ci l+AG y
 |x0::l,0,x,h=>by
  cases h
  rw [List.set_cons_zero,Ci,Ci]
  omega
 |x0::l,i+1,x,h=>by
  rw [List.set_cons_succ,Ci,Ci]
  have:=L4 y l i x (by simpa using h)
  omega
theorem Nz (on:qB) (keys:List qB):∀(fs:List CF) (is:List Ag),(∀x∈fs,∀v,AG (x.2 v)<=AG v)->Ci (Hz on keys fs is)<=Ci is
 | [],is,h=>zna _
 | (p,f)::r,is,h=>by
  rw [Hz]
  split
  .rename_i c
   refine znc (Nz on keys r _ fun x hx=>h x (z16 _ hx)) ?_
   have e:is[(ix p.key keys 0).toNat]?=some (is.getD (ix p.key keys 0).toNat A6):=by rw [List.getD_eq_getElem?_getD,List.getElem?_eq_getElem (by omega)];rfl
   have h1:=L4 (f (BV p (is.getD (ix p.key keys 0).toNat A6))) is _ _ e
   have h2:=h (p,f) (List.mem_cons_self ..) (BV p (is.getD (ix p.key keys 0).toNat A6))
   have h3:=IE p (is.getD (ix p.key keys 0).toNat A6)
   dsimp only at h2
   omega
  .exact Nz on keys r _ fun x hx=>h x (z16 _ hx)
theorem Sy {fs:List CF} (h:∀x∈fs,∀v,AG (x.2 v)<=AG v) (v:Ag):AG (Fj fs v)<=AG v:=by
 refine Ag.ind (Q:=fun v=>AG (Fj fs v)<=AG v) (fun v ih=>?_) v
 rw [Ez]
 split
 .rw [AE,AE v]
  simp only [Ag.items_mk,Ag.keys_mk,zle]
  have:∀l:List Ag,(∀x∈l,AG (Fj fs x)<=AG x)->Ci (l.map (Fj fs))<=Ci l:=by
   intro l
   induction l with
   |nil=>intro _;exact zna _
   |cons x l ihl=>
    intro h
    rw [List.map_cons,Ci,Ci]
    have h1:=h x (by simp)
    have h2:=ihl fun y hy=>h y (by simp [hy])
    omega
  have:=this v.items ih
  omega
 .split
  .unfold N3
   rw [AE,AE v]
   simp only [Ag.items_mk,Ag.keys_mk]
   have:=Nz (typF v) v.keys fs v.items h
   omega
  .exact zna _
theorem NI (p:Pk):∀v,AG (Eu p v)<=AG v :=
 Pk.ind (Q:=fun p=>∀v,AG (Eu p v)<=AG v) (fun p ih v=>by
  rw [D5]
  exact Sy (fun x hx=>by rw [E5] at hx;obtain ⟨q,hq,rfl⟩:=List.mem_map.1 hx;exact ih q hq) v) p
theorem Tf (l:List Pk) (v:Ag):AG (Bp l v)<=AG v :=
 Sy (fun x hx=>by rw [E5] at hx;obtain ⟨q,hq,rfl⟩:=List.mem_map.1 hx;exact NI q) v
inductive CuS
 | mk (j:Nat) (l:List Ag) (n:Nat)
def Vq (l:List Pk):Prop:=∀v:Ag,AG v<=1000000000->∀hp m,Af prog 28 hp m [vx v,.ds (Ab AJ l)] (vx (Bp l v))
theorem Iu (l:List Pk) (hl:l.length<=1000000000) (H:∀p∈l,Vq p.picks) (v:Ag) (hw:AG v<=1000000000) (hp:CH) (m:Nat):Af prog 50 hp m [vx v,.ds (Ab AJ l)] (vx (N3 (Dm l) v)):=by
 have hv:=CZ v (by omega)
 have hvi:=hv.i
 have Nt:=hv.l
 have hT:=Fc v hv
 obtain ⟨on,IH⟩:=A5 (typF v)
 rw [IH] at hT
 obtain ⟨RR,A9⟩:=A5 (Hz on v.keys (Dm l) v.items)
 unfold N3
 rw [IH,A9]
 refine Aj func50 (tA cc50) (tB cc50) (tC cc50) rfl fun hf=>?_;unfold ck50
 simp (disch:=omega) only [go_sem]
 refine Ac.f (hT _ _) ?_
 simp (disch:=omega) only [go_sem]
 refine Aq.f (fun _ _ _=>QE v.keys Nt _ _) ?_
 simp (disch:=omega) only [go_sem]
 refine Aq.r (fun Al=>Qa v.items hvi Al _) (by simp [Ab]) ?_
 simp (disch:=omega) only [go_sem]
 refine loop (fun p:CuS=>match p with
  | .mk j is n=>⟨[(4,.bx (m+1) 0),(5,.s on),(6,.bx (m+9) 0),(20,.ds (Ab AJ l)),(21,.i .i64 l.length),(22,.i .i64 j)],(m+9,.bx [.i .i64 6,.i .i64 0,.s ⟨#[]⟩,.rw (m+7) 0 v.items.length,.ds (Bd v.keys)])::(m+7,.rw 0 5 (Ab Ar is))::(m+1,.bx [.i .i64 0,.i .i64 0,.s ⟨#[]⟩,.e0,.e0])::(m,.bx [.i .i64 v.k,.i .i64 v.n,.s v.s,.ds (Ab Ar v.items),.ds (Bd v.keys)])::hp,n⟩)
  (fun p=>match p with | .mk j is n=>j<=l.length∧m+11<=n∧is.length=v.items.length∧Ci is<=1000000000∧RR=Hz on v.keys (Dm (l.drop j)) is) (fun p=>match p with | .mk j is n=>l.length - j) (.mk 0 v.items (m+11)) ?_ ?_ (fun p hj=>?_)
 .exact ⟨zt _,zna _,rfl,by rw [AE] at hw;omega,A9.symm⟩
 .dsimp only
  refine Kd hf ?_ ?_ ?_ ?_ ?_ (fun a ha c7=>?_) (zna _)
  .simp (disch:=omega) only [go_sem]
  .simp (disch:=omega) only [go_sem]
  .simp (disch:=omega) only [go_sem]
  .simp (disch:=omega) only [go_sem]
  .simp (disch:=omega) only [go_sem]
  .repeat rw [Ai _ _ (by omega)]
 obtain ⟨j,is,n⟩:=p
 obtain ⟨Cg,Bc,As,Ct,Dh⟩:=hj
 have w5:(Ab Ar is).length=v.items.length:=by rw [Ao,As]
 have BC:m<=n:=by omega
 dsimp only
 simp (disch:=omega) only [go_sem]
 refine Ae (fun q=>?_) (fun q=>?_)
 case' refine_2=>
  have q:j=l.length:=by simp at q;omega
  subst q
  rw [List.drop_length,Dm,Hz] at Dh
  subst Dh
  have LV:RR.take v.items.length=RR:=z10 (by omega)
  simp (disch:=omega) only [BC,w5,zna,LV,go_sem]
 have q:j<l.length:=by simpa using q
 obtain ⟨x,ex⟩:∃x,l[j]?=some x:=⟨l[j],by simp [q]⟩
 have hx:=H x (zla ex)
 rw [A2 ex,Dm,Hz] at Dh
 simp (disch:=omega) only [q,Ad (Aa AJ ex),go_sem]
 refine Ac.f (ID v.keys x.key (by omega) _ _) ?_
 obtain ⟨a,ha⟩:=A5 (ix x.key v.keys 0)
 rw [ha] at Dh ⊢
 have LV:is.take v.items.length=is:=z10 (by omega)
 simp (disch:=omega) only [w5,LV,go_sem]
 refine Ae (fun c=>?_) (fun c=>?_)
 .rw [iN (fun h=>by simp [h.1,h.2.1] at c;omega)] at Dh
  simp (disch:=omega) only [go_sem]
  refine ⟨.mk (j+1) (is) (n+60),⟨show j+1<=l.length by omega,show m+11<=n+60 by omega,by simp only [z28];exact As,show Ci (is)<=1000000000 by omega,Dh⟩,by show l.length - (j+1)<l.length - j;omega,?_⟩
  dsimp only
  refine Kd hf ?_ ?_ ?_ ?_ ?_ (fun a ha c7=>?_) (by omega)
  .simp (disch:=omega) only [Ap j (by omega),go_sem]
  .simp (disch:=omega) only [go_sem]
  .simp (disch:=omega) only [go_sem]
  .simp (disch:=omega) only [go_sem]
  .simp (disch:=omega) only [go_sem]
  .repeat rw [Ai _ _ (by omega)]
 have c:x.on=on∧x.label=⟨#[]⟩∧0<=a∧a<is.length:=by rw [As];simpa [and_assoc,As] using c
 rw [iP c] at Dh
 obtain ⟨i,rfl⟩:∃i:Nat,a=(i:Int):=⟨a.toNat,by omega⟩
 have hi:i<is.length:=by omega
 obtain ⟨y,ey⟩:∃y,is[i]?=some y:=⟨is[i],by simp [hi]⟩
 have ey2:is.getD i A6=y:=by rw [List.getD_eq_getElem?_getD,ey];rfl
 have hyw:AG y<=1000000000:=znc (B1 (zla ey)) Ct
 have hyf:=CZ y (by omega)
 rw [Int.toNat_natCast,ey2,D5] at Dh
 have hE:=K8 y hyf x
 have HG:i<v.items.length:=by omega
 have hset:=L4 (Bp x.picks (BV x y)) is i y ey
 have hcw:=znc (Tf x.picks (BV x y)) (IE x y)
 have GX:=hx (BV x y) (znc (IE x y) hyw)
 obtain ⟨Z,hZ⟩:=A5 (Bp x.picks (BV x y))
 rw [hZ] at GX hset hcw Dh
 have hsv:(Ab Ar is).set i [AV.i .i64 Z.k,.i .i64 Z.n,.s Z.s,.ds (Ab Ar Z.items),.ds (Bd Z.keys)]=Ab Ar (is.set i Z):=by rw [<-B4];exact (List.map_set ..).symm
 have ey3:(Ab Ar is)[i]?=some [.i .i64 y.k,.i .i64 y.n,.s y.s,.ds (Ab Ar y.items),.ds (Bd y.keys)]:=by rw [Aa Ar ey,B4]
 by_cases k5:y.k=5
 .have eL:BV x y=.mk y.k y.n y.s (y.items.take (I5 x.initial y.items.length)) y.keys:=by unfold BV;rw [iP k5]
  have hea:=XC x.initial y.items.length
  obtain ⟨w,VG⟩:=A5 (I5 x.initial y.items.length)
  rw [VG] at hE hea eL
  have e3:0<=(w:Int)∧(w:Int)<=(y.items.length:Int):=by omega
  simp (disch:=omega) only [w5,LV,hi,HG,Ad (Aa Ar ey),dT k5,go_sem]
  refine Aq.f (fun _ _ _=>hE _ _) ?_
  simp (disch:=omega) only [w5,LV,hi,HG,Ad (Aa Ar ey),dT k5,e3.1,e3.2,true_and,go_sem]
  rw [eL] at GX
  simp only [vx,Ag.k_mk,Ag.n_mk,Ag.s_mk,Ag.items_mk,Ag.keys_mk] at GX
  refine Aq.f (fun _ _ _=>GX _ _) ?_
  simp (disch:=omega) only [w5,LV,hi,HG,Ad (Aa Ar ey),dT k5,e3.1,e3.2,true_and,hsv,ey3,zlc,zle,za,List.drop_zero,z7,List.take_zero,List.nil_append,zg,go_sem]
  refine ⟨.mk (j+1) (is.set i Z) (n+60),⟨show j+1<=l.length by omega,show m+11<=n+60 by omega,by simp only [z28];exact As,show Ci (is.set i Z)<=1000000000 by omega,Dh⟩,by show l.length - (j+1)<l.length - j;omega,?_⟩
  dsimp only
  refine Kd hf ?_ ?_ ?_ ?_ ?_ (fun a ha c7=>?_) (by omega)
  .simp (disch:=omega) only [Ap j (by omega),go_sem]
  .simp (disch:=omega) only [go_sem]
  .simp (disch:=omega) only [go_sem]
  .simp (disch:=omega) only [go_sem]
  .simp (disch:=omega) only [go_sem]
  .repeat rw [Ai _ _ (by omega)]
 .have eL:BV x y=y:=iN k5
  simp (disch:=omega) only [w5,LV,hi,HG,Ad (Aa Ar ey),dF k5,go_sem]
  rw [eL] at GX
  refine Aq.f (fun _ _ _=>GX _ _) ?_
  simp (disch:=omega) only [w5,LV,hi,HG,Ad (Aa Ar ey),dF k5,hsv,ey3,zlc,zle,za,List.drop_zero,z7,List.take_zero,List.nil_append,zg,go_sem]
  refine ⟨.mk (j+1) (is.set i Z) (n+60),⟨show j+1<=l.length by omega,show m+11<=n+60 by omega,by simp only [z28];exact As,show Ci (is.set i Z)<=1000000000 by omega,Dh⟩,by show l.length - (j+1)<l.length - j;omega,?_⟩
  dsimp only
  refine Kd hf ?_ ?_ ?_ ?_ ?_ (fun a ha c7=>?_) (by omega)
  .simp (disch:=omega) only [Ap j (by omega),go_sem]
  .simp (disch:=omega) only [go_sem]
  .simp (disch:=omega) only [go_sem]
  .simp (disch:=omega) only [go_sem]
  .simp (disch:=omega) only [go_sem]
  .repeat rw [Ai _ _ (by omega)]
inductive LiS
 | mk (j:Nat) (g:Nat) (l:List Ag) (n:Nat)
theorem Yy (l:List Pk) (hl:l.length<=1000000000) (H:∀p∈l,Vq p.picks):Vq l:=by
 intro v
 refine Ag.ind (Q:=fun v=>AG v<=1000000000->∀hp m,Af prog 28 hp m [vx v,.ds (Ab AJ l)] (vx (Bp l v))) (fun v ih hw hp m=>?_) v
 have hv:=CZ v (by omega)
 have hvi:=hv.i
 by_cases k5:v.k=5
 .have e5:=YN (l:=l) k5
  obtain ⟨RR,A9⟩:=A5 (v.items.map (Bp l))
  rw [A9] at e5
  rw [e5]
  refine Aj func28 (tA cc28) (tB cc28) (tC cc28) rfl fun hf=>?_;unfold ck28
  simp (disch:=omega) only [dT k5,go_sem]
  refine loop (fun p:LiS=>match p with
   | .mk j g L n=>⟨[(1,.ds (Ab AJ l)),(4,.bx (m+1) 0),(5,.bx (m+2) 0),(14,.ds (Ab Ar v.items)),(15,.i .i64 v.items.length),(16,.i .i64 j)],(m+3,.rw g 5 (Ab Ar L))::(m+2,.bx [.i .i64 5,.i .i64 0,.s ⟨#[]⟩,.rw (m+3) g L.length,.e0])::(m+1,.bx [.i .i64 0,.i .i64 0,.s ⟨#[]⟩,.e0,.e0])::hp,n⟩)
   (fun p=>match p with | .mk j g L n=>j<=v.items.length∧m+4<=n∧L=(v.items.take j).map (Bp l)) (fun p=>match p with | .mk j g L n=>v.items.length - j) (.mk 0 0 [] (m+4)) ?_ ?_ (fun p hj=>?_)
  .exact ⟨zt _,zna _,rfl⟩
  .dsimp only
   refine (Co (c:=m+2) (i:=3) (m:=5) (cs:=[.i .i64 5,.i .i64 0,.s ⟨#[]⟩,.e0,.e0]) (by (simp (disch:=omega) only [go_sem])) rfl).trans (Fm hf ?_ ?_ ?_ ?_ (fun a ha c7=>?_) (zna _))
   .simp (disch:=omega) only [go_sem]
   .simp (disch:=omega) only [go_sem]
    try rfl
   .simp (disch:=omega) only [List.set_cons_succ,List.set_cons_zero,go_sem]
   .simp (disch:=omega) only [go_sem]
   .repeat rw [Ai _ _ (by omega)]
  obtain ⟨j,g,L,n⟩:=p
  obtain ⟨Cg,Bc,As⟩:=hj
  have BS:(Ab Ar L).length=L.length:=Ao _ _
  have QK:L.length=j:=by rw [As,zlv,zlo];omega
  have BC:m<=n:=by omega
  dsimp only
  simp (disch:=omega) only [go_sem]
  refine Ae (fun q=>?_) (fun q=>?_)
  case' refine_2=>
   have q:j=v.items.length:=by simp at q;omega
   subst q
   rw [zlj,A9] at As
   subst As
   simp (disch:=omega) only [BC,BS,zna,go_sem]
   try rfl
  have q:j<v.items.length:=by simpa using q
  obtain ⟨x,ex⟩:∃x,v.items[j]?=some x:=⟨v.items[j],by simp [q]⟩
  have hx:=ih x (zla ex) (znc (B1 (zla ex)) (by rw [AE] at hw;omega))
  have k1:(L.length+1)*80<=140737488355328:=by omega
  have k2:L.length+1<=9223372036854775807:=by omega
  obtain ⟨Z,hZ⟩:=A5 (Bp l x)
  rw [hZ] at hx
  simp (disch:=omega) only [q,Ad (Aa Ar ex),go_sem]
  refine Aq.f (fun _ _ _=>hx _ _) ?_
  simp (disch:=omega) only [q,Ad (Aa Ar ex),BS,k1,k2,Dl,true_and,go_sem]
  refine ⟨.mk (j+1) (g+1) (L++[Z]) (n+60),⟨show j+1<=v.items.length by omega,show m+4<=n+60 by omega,by show _=_;rw [<-AN ex,zlq,As,<-hZ];rfl⟩,by show v.items.length - (j+1)<v.items.length - j;omega,?_⟩
  dsimp only
  refine Fm hf ?_ ?_ ?_ ?_ (fun a ha c7=>?_) (by omega)
  .simp (disch:=omega) only [Ap j (by omega),zld,zlc,zle,go_sem]
  .simp (disch:=omega) only [go_sem]
  .simp (disch:=omega) only [zld,zlc,zle,go_sem]
  .simp (disch:=omega) only [go_sem]
  .repeat rw [Ai _ _ (by omega)]
 .by_cases k6:v.k=6
  .have hC:=Iu l hl H v hw
   rw [<-Qw (l:=l) k6] at hC
   obtain ⟨Z,hZ⟩:=A5 (Bp l v)
   rw [hZ] at hC ⊢
   refine Aj func28 (tA cc28) (tB cc28) (tC cc28) rfl fun hf=>?_;unfold ck28
   simp (disch:=omega) only [dF k5,dT k6,go_sem]
   refine Ac.f (hC _ _) ?_
   simp (disch:=omega) only [go_sem]
  .have e:Bp l v=v:=by unfold Bp;rw [Ez,iN k5,iN k6]
   rw [e]
   refine Aj func28 (tA cc28) (tB cc28) (tC cc28) rfl fun hf=>?_;unfold ck28
   simp (disch:=omega) only [dF k5,dF k6,go_sem]
theorem Agn (l:List Pk) (h:B6 l):Vq l:=by
 have key:∀p:Pk,B6 p.picks->Vq p.picks:=fun p=>Pk.ind (Q:=fun p=>B6 p.picks->Vq p.picks) (fun v ih hv=>Yy v.picks hv.len fun p hp=>ih p hp (hv.x hp)) p
 exact Yy l h.len fun p hp=>key p (h.x hp)
theorem O1 (l:List Pk) (h:B6 l) (v:Ag) (h6:v.k=6) (hw:AG v<=1000000000) (hp:CH) (m:Nat):Af prog 50 hp m [vx v,.ds (Ab AJ l)] (vx (Bp l v)):=by
 rw [Qw h6]
 exact Iu l h.len (fun p hp=>Agn p.picks (h.x hp)) v hw hp m
