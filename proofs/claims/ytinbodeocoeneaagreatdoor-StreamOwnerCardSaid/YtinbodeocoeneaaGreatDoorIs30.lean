/- Proof. Conditions: none. -/
import Derived.Lib.ItoaLen
import Derived.Test.YtinbodeocoeneaaGreatDoorIs29
open Nat renaming reduceEqDiff→Za,reduceBEq→Zb,reduceAdd→Zc,reduceLeDiff→Zd,reduceLT→Ze,reduceMul→Zf,reduceSub→Zg
open Int renaming reduceEq→Zh,reduceLT→Zi,reduceLE→Zj,reduceToNat→Zk
open List renaming mem_of_getElem?→zla,length_cons→zlc,length_append→zld,length_nil→zle,append_assoc→zlf,cons_append→zlh,nil_append→zli,take_length→zlj,take_zero→zlr,mem_map_of_mem→zls
open Nat renaming le_refl→zna
namespace Go.Proofs.YtinbodeocoeneaaGreatDoor
open Go.Eng
set_option linter.all false
set_option maxRecDepth 20000
theorem hex_ok (c:Nat) (h1:c<16) (hp:CH) (m:Nat):MeetsF Tryz.prog 175 hp m [.i .u8 (c:Int)] (.i .u8 ((hexd c).toNat:Int)):=by
 refine meetsF Tryz.func175 (by kernel_rfl) cc175 cr175 rfl fun hf=>?_;unfold ck175
 simp only [go_sem,↓reduceIte,Za,Zb,Zc,Zd,Ze,reduceCtorEq,Zf,Zg,Zh,Zi,Zj,Zk]
 refine cdK_of (fun d=>?_) (fun d=>?_)
 .have d:c<10:=by simp at d;omega
  have e:IntKind.u8.wrap (48+(c:Int))=((hexd c).toNat:Int):=by
   rw [wr8,hexd,if_pos d]
  simp only [e,go_sem,↓reduceIte,Za,Zb,Zc,Zd,Ze,reduceCtorEq,Zf,Zg,Zh,Zi,Zj,Zk]
 .have d:¬c<10:=by simp at d;omega
  have e:IntKind.u8.wrap (87+(c:Int))=((hexd c).toNat:Int):=by
   rw [wr8,hexd,if_neg d]
  simp only [e,go_sem,↓reduceIte,Za,Zb,Zc,Zd,Ze,reduceCtorEq,Zf,Zg,Zh,Zi,Zj,Zk]
theorem escape_ok (c:UInt8) (hp:CH) (m:Nat):MeetsF Tryz.prog 157 hp m [.i .u8 (c.toNat:Int)] (.s (ofL (escL c))):=by
 have hc:c.toNat<256:=c.toNat_lt
 refine meetsF Tryz.func157 (by kernel_rfl) cc157 cr157 rfl fun hf=>?_;unfold ck157
 simp only [go_sem,↓reduceIte,Za,Zb,Zc,Zd,Ze,reduceCtorEq,Zf,Zg,Zh,Zi,Zj,Zk]
 refine cdK_of (fun d=>?_) (fun d1=>?_)
 .have d:c.toNat=34:=by simp at d;omega
  have e:ofL (escL c)=⟨#[92,34]⟩:=by simp [escL,d,ofL]
  rw [e]
  simp only [go_sem,↓reduceIte,Za,Zb,Zc,Zd,Ze,reduceCtorEq,Zf,Zg,Zh,Zi,Zj,Zk]
 simp only [go_sem,↓reduceIte,Za,Zb,Zc,Zd,Ze,reduceCtorEq,Zf,Zg,Zh,Zi,Zj,Zk]
 refine cdK_of (fun d=>?_) (fun d2=>?_)
 .have d:c.toNat=92:=by simp at d;omega
  have e:ofL (escL c)=⟨#[92,92]⟩:=by simp [escL,d,ofL]
  rw [e]
  simp only [go_sem,↓reduceIte,Za,Zb,Zc,Zd,Ze,reduceCtorEq,Zf,Zg,Zh,Zi,Zj,Zk]
 simp only [go_sem,↓reduceIte,Za,Zb,Zc,Zd,Ze,reduceCtorEq,Zf,Zg,Zh,Zi,Zj,Zk]
 refine cdK_of (fun d=>?_) (fun d3=>?_)
 .have d:c.toNat=10:=by simp at d;omega
  have e:ofL (escL c)=⟨#[92,110]⟩:=by simp [escL,d,ofL]
  rw [e]
  simp only [go_sem,↓reduceIte,Za,Zb,Zc,Zd,Ze,reduceCtorEq,Zf,Zg,Zh,Zi,Zj,Zk]
 simp only [go_sem,↓reduceIte,Za,Zb,Zc,Zd,Ze,reduceCtorEq,Zf,Zg,Zh,Zi,Zj,Zk]
 refine cdK_of (fun d=>?_) (fun d4=>?_)
 .have d:c.toNat=13:=by simp at d;omega
  have e:ofL (escL c)=⟨#[92,114]⟩:=by simp [escL,d,ofL]
  rw [e]
  simp only [go_sem,↓reduceIte,Za,Zb,Zc,Zd,Ze,reduceCtorEq,Zf,Zg,Zh,Zi,Zj,Zk]
 simp only [go_sem,↓reduceIte,Za,Zb,Zc,Zd,Ze,reduceCtorEq,Zf,Zg,Zh,Zi,Zj,Zk]
 refine cdK_of (fun d=>?_) (fun d5=>?_)
 .have d:c.toNat=9:=by simp at d;omega
  have e:ofL (escL c)=⟨#[92,116]⟩:=by simp [escL,d,ofL]
  rw [e]
  simp only [go_sem,↓reduceIte,Za,Zb,Zc,Zd,Ze,reduceCtorEq,Zf,Zg,Zh,Zi,Zj,Zk]
 have e0:escL c=if c.toNat<32∨126<c.toNat then [92,117,48,48,hexd (c.toNat / 16),hexd (c.toNat % 16)] else [c]:=by
  rw [escL,if_neg (by simp at d1;omega),if_neg (by simp at d2;omega),if_neg (by simp at d3;omega),if_neg (by simp at d4;omega),if_neg (by simp at d5;omega)]
 have q1:(c.toNat:Int).tdiv 16=((c.toNat / 16:Nat):Int):=by simp [Int.tdiv]
 have q2:(c.toNat:Int).tmod 16=((c.toNat % 16:Nat):Int):=by simp [Int.tmod]
 have q3:IntKind.u8.wrap ((c.toNat / 16:Nat):Int)=((c.toNat / 16:Nat):Int):=by rw [wr8];unfold u8;simp;omega
 simp only [go_sem,↓reduceIte,Za,Zb,Zc,Zd,Ze,reduceCtorEq,Zf,Zg,Zh,Zi,Zj,Zk]
 refine cdK_of (fun d=>?_) (fun d=>?_)
 .rw [e0,if_pos (by simp at d;omega)]
  simp only [q1,q2,q3,go_sem,↓reduceIte,Za,Zb,Zc,Zd,Ze,reduceCtorEq,Zf,Zg,Zh,Zi,Zj,Zk]
  refine vcCall.f (hex_ok (c.toNat / 16) (by omega) _ _) ?_
  simp only [q1,q2,q3,go_sem,↓reduceIte,Za,Zb,Zc,Zd,Ze,reduceCtorEq,Zf,Zg,Zh,Zi,Zj,Zk]
  refine vcCall.f (hex_ok (c.toNat % 16) (by omega) _ _) ?_
  simp only [go_sem,↓reduceIte,Za,Zb,Zc,Zd,Ze,reduceCtorEq,Zf,Zg,Zh,Zi,Zj,Zk]
  congr 2
  rw [mk_ofL,mk_ofL,ofL_app]
  simp
 .rw [e0,if_neg (by simp at d;omega)]
  simp only [UInt8.ofNat_toNat,go_sem,↓reduceIte,Za,Zb,Zc,Zd,Ze,reduceCtorEq,Zf,Zg,Zh,Zi,Zj,Zk]
  rfl
theorem rQuote_ok (s:ByteArray) (hs:s.size≤1000000000000) (hp:CH) (m:Nat):MeetsF Tryz.prog 134 hp m [.s s] (.s (ofL (quoL s))):=by
 refine meetsF Tryz.func134 (by kernel_rfl) cc134 cr134 rfl fun hf=>?_;unfold ck134
 simp only [go_sem,↓reduceIte,Za,Zb,Zc,Zd,Ze,reduceCtorEq,Zf,Zg,Zh,Zi,Zj,Zk]
 refine loop (fun p:Nat × Nat=>⟨[(0,.s s),(3,.s (ofL (34::((bs s).take p.1).flatMap escL))),(4,.i .i64 p.1)],hp,p.2⟩) (fun p=>p.1≤s.size) (fun p=>s.size - p.1) (0,m) ?_ ?_ (fun ⟨j,n⟩ hj=>?_)
 .simp
 .refine weak_ok ?_ (Sub.refl _) (zna _)
  simp only [go_sem,↓reduceIte,Za,Zb,Zc,Zd,Ze,reduceCtorEq,Zf,Zg,Zh,Zi,Zj,Zk]
  rfl
 dsimp only at hj
 simp only [go_sem,↓reduceIte,Za,Zb,Zc,Zd,Ze,reduceCtorEq,Zf,Zg,Zh,Zi,Zj,Zk]
 refine cdK_of (fun d=>?_) (fun d=>?_)
 .have d:j<s.size:=by simpa using d
  obtain ⟨x,ex⟩:∃x,(bs s)[j]?=some x:=⟨(bs s)[j]'(by rw [size_bs];exact d),by simp [size_bs,d]⟩
  have eg:(bs s).getD j 0=x:=by rw [List.getD,ex];rfl
  simp only [d,eg,go_sem,↓reduceIte,Za,Zb,Zc,Zd,Ze,reduceCtorEq,Zf,Zg,Zh,Zi,Zj,Zk]
  refine vcCall.f (escape_ok x _ _) ?_
  simp only [go_sem,↓reduceIte,Za,Zb,Zc,Zd,Ze,reduceCtorEq,Zf,Zg,Zh,Zi,Zj,Zk]
  have k1:=escL_len x
  have k2:=flat_len ((bs s).take j)
  have k3:((bs s).take j).length≤s.size:=by rw [List.length_take,bs_len];omega
  have k4:(ofL (34::List.flatMap escL (List.take j (bs s)))).size+(ofL (escL x)).size≤9223372036854775807:=by rw [ofL_size,ofL_size,zlc];omega
  refine ⟨k4,(j+1,n),by dsimp only;omega,by dsimp only;omega,weak_ok ?_ (Sub.refl _) (zna _)⟩
  simp only [wr64s j (by omega),go_sem,↓reduceIte,Za,Zb,Zc,Zd,Ze,reduceCtorEq,Zf,Zg,Zh,Zi,Zj,Zk]
  rw [ofL_app,zlh,←take_snoc ex,List.flatMap_append]
  simp
 .have d:j=s.size:=by simp at d;omega
  subst d
  simp only [go_sem,↓reduceIte,Za,Zb,Zc,Zd,Ze,reduceCtorEq,Zf,Zg,Zh,Zi,Zj,Zk]
  have k2:=flat_len (bs s)
  rw [bs_len] at k2
  rw [List.take_of_length_le (by rw [size_bs];omega),mk_ofL,ofL_app,ofL_size,zlc]
  refine ⟨?_,rfl⟩
  have:(#[34]:Array UInt8).size=1:=rfl
  omega
theorem dec_len (u:Nat) (hu:u≤9223372036854775808):(Lib.decDigits u).length≤21:=by
 rcases Nat.eq_zero_or_pos u with h | h
 .subst h
  have:=Lib.itoa_length_le 0 (by omega) (by omega)
  simpa [Lib.itoa] using this
 .have:=Lib.itoa_length_le (-(u:Int)) (by omega) (by omega)
  rw [Lib.itoa,if_pos (by omega)] at this
  simp at this
  omega
theorem digits_ok (u:Nat):u≤9223372036854775808→∀(hp:CH) (m:Nat),MeetsF Tryz.prog 156 hp m [.i .i64 (-(u:Int))] (.s (ofL (Lib.decDigits u))):=by
 induction u using Nat.strongRecOn with
 | _ u ih =>
  intro hu hp m
  have e1:(-(u:Int)).tmod 10=-((u % 10:Nat):Int):=by rw [Int.neg_tmod];simp [Int.tmod]
  have e2:(-(u:Int)).tdiv 10=-((u / 10:Nat):Int):=by rw [Int.neg_tdiv];simp [Int.tdiv]
  have e3:IntKind.i64.wrap (48 - -((u % 10:Nat):Int))=((48+u % 10:Nat):Int):=by rw [wr64 (by omega)];omega
  have e4:IntKind.u8.wrap ((48+u % 10:Nat):Int)=((48+u % 10:Nat):Int):=by rw [wr8];unfold u8;simp;omega
  have e5:IntKind.i64.wrap (-((u / 10:Nat):Int))=-((u / 10:Nat):Int):=wr64 (by omega)
  have e6:((48+u % 10:Nat):Int).toNat=48+u % 10:=by omega
  have hd:=dec_len u hu
  rw [Lib.decDigits] at hd ⊢
  refine meetsF Tryz.func156 (by kernel_rfl) cc156 cr156 rfl fun hf=>?_;unfold ck156
  simp only [e1,e2,e3,e4,e5,e6,go_sem,↓reduceIte,Za,Zb,Zc,Zd,Ze,reduceCtorEq,Zf,Zg,Zh,Zi,Zj,Zk]
  refine cdK_of (fun c=>?_) (fun c=>?_)
  .have c:u<10:=by simp at c;omega
   rw [dif_pos c]
   have c2:u % 10=u:=Nat.mod_eq_of_lt c
   simp only [c2,go_sem,↓reduceIte,Za,Zb,Zc,Zd,Ze,reduceCtorEq,Zf,Zg,Zh,Zi,Zj,Zk]
   rfl
  .have c:¬u<10:=by simp at c;omega
   rw [dif_neg c] at hd ⊢
   simp only [e1,e2,e3,e4,e5,go_sem,↓reduceIte,Za,Zb,Zc,Zd,Ze,reduceCtorEq,Zf,Zg,Zh,Zi,Zj,Zk]
   refine vcCall.f (ih (u / 10) (by omega) (by omega) _ _) ?_
   rw [zld,zlc,zle] at hd
   simp only [go_sem,↓reduceIte,Za,Zb,Zc,Zd,Ze,reduceCtorEq,Zf,Zg,Zh,Zi,Zj,Zk]
   rw [mk_ofL,ofL_app,ofL_size]
   refine ⟨?_,rfl⟩
   have:(#[UInt8.ofNat (48+u % 10)]:Array UInt8).size=1:=rfl
   omega
theorem rDecimal_ok (n:Int) (h0:-9223372036854775808≤n) (h1:n≤9223372036854775807) (hp:CH) (m:Nat):MeetsF Tryz.prog 133 hp m [.i .i64 n] (.s (ofL (Lib.itoa n))):=by
 have hd:=dec_len n.natAbs (by omega)
 have hk:=digits_ok n.natAbs (by omega)
 rw [Lib.itoa]
 refine meetsF Tryz.func133 (by kernel_rfl) cc133 cr133 rfl fun hf=>?_;unfold ck133
 simp only [go_sem,↓reduceIte,Za,Zb,Zc,Zd,Ze,reduceCtorEq,Zf,Zg,Zh,Zi,Zj,Zk]
 refine cdK_of (fun c=>?_) (fun c=>?_)
 .have c:n<0:=by simpa using c
  have e:-((n.natAbs:Nat):Int)=n:=by omega
  rw [e] at hk
  rw [if_pos c]
  simp only [go_sem,↓reduceIte,Za,Zb,Zc,Zd,Ze,reduceCtorEq,Zf,Zg,Zh,Zi,Zj,Zk]
  refine vcCall.f (hk _ _) ?_
  simp only [go_sem,↓reduceIte,Za,Zb,Zc,Zd,Ze,reduceCtorEq,Zf,Zg,Zh,Zi,Zj,Zk]
  rw [mk_ofL,ofL_app,ofL_size]
  refine ⟨?_,rfl⟩
  have:(#[45]:Array UInt8).size=1:=rfl
  omega
 .have c:¬n<0:=by simpa using c
  have e:-((n.natAbs:Nat):Int)=IntKind.i64.wrap (0 - n):=by rw [wr64 (by omega)];omega
  rw [e] at hk
  rw [if_neg c,show n.toNat=n.natAbs by omega]
  simp only [go_sem,↓reduceIte,Za,Zb,Zc,Zd,Ze,reduceCtorEq,Zf,Zg,Zh,Zi,Zj,Zk]
  refine vcCall.f (hk _ _) ?_
  simp only [go_sem,↓reduceIte,Za,Zb,Zc,Zd,Ze,reduceCtorEq,Zf,Zg,Zh,Zi,Zj,Zk]
theorem jn_at {α:Type} (f:α→List UInt8) {l:List α} {j:Nat} {x:α} (h:l[j]?=some x) (hj:0<j):jn ((l.take (j+1)).map f)=jn ((l.take j).map f)++([44,32]++f x):=by
 have hl:=(List.getElem?_eq_some_iff.1 h).1
 rw [←take_snoc h,List.map_append,List.map_cons,List.map_nil,jn_snoc]
 intro e
 have:=congrArg List.length e
 rw [List.length_map,List.length_take,zle] at this
 omega
theorem jn_0 {α:Type} (f:α→List UInt8) {l:List α} {x:α} (h:l[0]?=some x):jn ((l.take 1).map f)=f x:=by
 rw [←take_snoc h]
 simp [jn_one]
theorem jn_len_take {α:Type} (f:α→List UInt8) (l:List α) (j:Nat):(jn ((l.take j).map f)).length≤jnB (l.map f):=by
 have h1:=jn_le ((l.take j).map f)
 rw [List.map_take] at h1
 have h2:=jnB_take (l.map f) j
 rw [List.map_take]
 omega
theorem s_cat (a b:List UInt8) (h:a.length+b.length≤9223372036854775807):((ofL a).size+(ofL b).size≤9223372036854775807)=True:=eq_true (by rw [ofL_size,ofL_size];exact h)
theorem w01:IntKind.i64.wrap ((0:Int)+1)=1:=wr64 (by omega)
theorem litS (l:List UInt8):l.toArray.size=l.length:=by simp
theorem rwrite_of (v:Val) (hv:v.Fit) (hr:v.Rng) (hb:avL (valC v)≤1000000000) (h:∀x∈v.items,∀hp m,MeetsF Tryz.prog 85 hp m [vx x] (.s (ofL (wrtV x)))) (hp:CH) (m:Nat):MeetsF Tryz.prog 85 hp m [vx v] (.s (ofL (wrtV v))):=by
 have hi:=hv.i
 have hl:=hv.l
 have e:=wrtV_eq v
 have hE:=avL_val v
 have hx1:=list_len v.items fun x hx=>wrtV_len x (hr.x hx)
 have hx2:=zip_len v.keys v.items fun x hx=>wrtV_len x (hr.x hx)
 obtain ⟨R,hR⟩:∃R,wrtV v=R:=⟨_,rfl⟩
 rw [hR] at e ⊢
 refine meetsF Tryz.func85 (by kernel_rfl) cc85 cr85 rfl fun hf=>?_;unfold ck85
 simp only [go_sem,↓reduceIte,Za,Zb,Zc,Zd,Ze,reduceCtorEq,Zf,Zg,Zh,Zi,Zj,Zk]
 refine cdK_of (fun c=>?_) (fun c0=>?_)
 .have c:v.k=0:=by simpa using c
  rw [if_pos c] at e
  subst e
  simp only [go_sem,↓reduceIte,Za,Zb,Zc,Zd,Ze,reduceCtorEq,Zf,Zg,Zh,Zi,Zj,Zk]
  rfl
 have c0:¬v.k=0:=by simpa using c0
 rw [if_neg c0] at e
 simp only [go_sem,↓reduceIte,Za,Zb,Zc,Zd,Ze,reduceCtorEq,Zf,Zg,Zh,Zi,Zj,Zk]
 refine cdK_of (fun c=>?_) (fun c1=>?_)
 .have c:v.k=1:=by simpa using c
  rw [if_pos c] at e
  simp only [go_sem,↓reduceIte,Za,Zb,Zc,Zd,Ze,reduceCtorEq,Zf,Zg,Zh,Zi,Zj,Zk]
  refine cdK_of (fun d=>?_) (fun d=>?_)
  .have d:v.n=0:=by simpa using d
   rw [if_pos d] at e
   subst e
   simp only [go_sem,↓reduceIte,Za,Zb,Zc,Zd,Ze,reduceCtorEq,Zf,Zg,Zh,Zi,Zj,Zk]
   rfl
  .have d:¬v.n=0:=by simpa using d
   rw [if_neg d] at e
   subst e
   simp only [go_sem,↓reduceIte,Za,Zb,Zc,Zd,Ze,reduceCtorEq,Zf,Zg,Zh,Zi,Zj,Zk]
   rfl
 have c1:¬v.k=1:=by simpa using c1
 rw [if_neg c1] at e
 simp only [go_sem,↓reduceIte,Za,Zb,Zc,Zd,Ze,reduceCtorEq,Zf,Zg,Zh,Zi,Zj,Zk]
 refine cdK_of (fun c=>?_) (fun c2=>?_)
 .have c:v.k=2:=by simpa using c
  rw [if_pos c] at e
  subst e
  simp only [go_sem,↓reduceIte,Za,Zb,Zc,Zd,Ze,reduceCtorEq,Zf,Zg,Zh,Zi,Zj,Zk]
  refine vcCall.f (rDecimal_ok v.n hr.l hr.u _ _) ?_
  simp only [go_sem,↓reduceIte,Za,Zb,Zc,Zd,Ze,reduceCtorEq,Zf,Zg,Zh,Zi,Zj,Zk]
 have c2:¬v.k=2:=by simpa using c2
 rw [if_neg c2] at e
 simp only [go_sem,↓reduceIte,Za,Zb,Zc,Zd,Ze,reduceCtorEq,Zf,Zg,Zh,Zi,Zj,Zk]
 refine cdK_of (fun c=>?_) (fun c3=>?_)
 .have c:v.k=3:=by simpa using c
  rw [if_pos c] at e
  subst e
  simp only [go_sem,↓reduceIte,Za,Zb,Zc,Zd,Ze,reduceCtorEq,Zf,Zg,Zh,Zi,Zj,Zk]
  refine vcCall.f (rQuote_ok v.s (by omega) _ _) ?_
  simp only [go_sem,↓reduceIte,Za,Zb,Zc,Zd,Ze,reduceCtorEq,Zf,Zg,Zh,Zi,Zj,Zk]
 have c3:¬v.k=3:=by simpa using c3
 rw [if_neg c3] at e
 simp only [go_sem,↓reduceIte,Za,Zb,Zc,Zd,Ze,reduceCtorEq,Zf,Zg,Zh,Zi,Zj,Zk]
 refine cdK_of (fun c=>?_) (fun c4=>?_)
 .have c:v.k=4:=by simpa using c
  rw [if_pos c] at e
  subst e
  simp only [go_sem,↓reduceIte,Za,Zb,Zc,Zd,Ze,reduceCtorEq,Zf,Zg,Zh,Zi,Zj,Zk]
  rw [ofL_bs]
 have c4:¬v.k=4:=by simpa using c4
 rw [if_neg c4] at e
 simp only [go_sem,↓reduceIte,Za,Zb,Zc,Zd,Ze,reduceCtorEq,Zf,Zg,Zh,Zi,Zj,Zk]
 refine cdK_of (fun c=>?_) (fun c7=>?_)
 .have c:v.k=7:=by simpa using c
  rw [if_pos c] at e
  subst e
  simp only [go_sem,↓reduceIte,Za,Zb,Zc,Zd,Ze,reduceCtorEq,Zf,Zg,Zh,Zi,Zj,Zk]
  have:(#[36]:Array UInt8).size=1:=rfl
  refine ⟨by omega,?_⟩
  rw [←ofL_bs v.s,mk_ofL,ofL_app,bs_ofL]
  rfl
 have c7:¬v.k=7:=by simpa using c7
 rw [if_neg c7] at e
 simp only [go_sem,↓reduceIte,Za,Zb,Zc,Zd,Ze,reduceCtorEq,Zf,Zg,Zh,Zi,Zj,Zk]
 refine cdK_of (fun c=>?_) (fun c5=>?_)
 .have c:v.k=5:=by simpa using c
  rw [if_pos c] at e
  have hfin:=jn_le (v.items.map wrtV)
  simp only [go_sem,↓reduceIte,Za,Zb,Zc,Zd,Ze,reduceCtorEq,Zf,Zg,Zh,Zi,Zj,Zk]
  refine loop (fun p:Nat × Nat=>⟨[(1,.bx m 0),(3,.s (ofL (91::jn ((v.items.take p.1).map wrtV)))),(4,.i .i64 p.1)],(m,.bx [.i .i64 v.k,.i .i64 v.n,.s v.s,.ds (mapC valC v.items),.ds (stC v.keys)])::hp,p.2⟩)
   (fun p=>p.1≤v.items.length∧m+1≤p.2) (fun p=>v.items.length - p.1) (0,m+1) ?_ ?_ (fun ⟨j,n⟩ hj=>?_)
  .simp
  .refine weak_ok ?_ (Sub.cons ?_ (Sub.base hf ?_)) (zna _)
   all_goals (simp (disch:=omega) only [ite_ne,go_sem,↓reduceIte,Za,Zb,Zc,Zd,Ze,reduceCtorEq,Zf,Zg,Zh,Zi,Zj,Zk])
   all_goals rfl
  dsimp only at hj
  obtain ⟨hj1,hj2⟩:=hj
  simp (disch:=omega) only [ite_ne,go_sem,↓reduceIte,Za,Zb,Zc,Zd,Ze,reduceCtorEq,Zf,Zg,Zh,Zi,Zj,Zk]
  refine cdK_of (fun q=>?_) (fun q=>?_)
  .have q:j<v.items.length:=by simpa using q
   obtain ⟨x,ex⟩:∃x,v.items[j]?=some x:=⟨v.items[j],by simp [q]⟩
   have hx:=h x (zla ex)
   have hw:=wrtV_len x (hr.x (zla ex))
   have hm:avL (valC x)≤avLL (mapC valC v.items):=avLL_in (zls (f:=valC) (zla ex))
   have hs:=jn_len_take wrtV v.items j
   simp (disch:=omega) only [ite_ne,go_sem,↓reduceIte,Za,Zb,Zc,Zd,Ze,reduceCtorEq,Zf,Zg,Zh,Zi,Zj,Zk]
   refine cdK_of (fun d=>?_) (fun d=>?_)
   .have d:0<j:=by simpa using d
    have hst:=jn_at wrtV ex d
    simp (disch:=omega) only [ite_ne,mk_ofL,ofL_app,litS,go_sem,↓reduceIte,Za,Zb,Zc,Zd,Ze,reduceCtorEq,Zf,Zg,Zh,Zi,Zj,Zk]
    refine ⟨by rw [ofL_size,ofL_size];simp only [zlc,zle];omega,q,?_⟩
    simp (disch:=omega) only [ite_ne,getK_s (mapC_get valC ex),go_sem,↓reduceIte,Za,Zb,Zc,Zd,Ze,reduceCtorEq,Zf,Zg,Zh,Zi,Zj,Zk]
    refine vcCall.f (hx _ _) ?_
    simp (disch:=omega) only [ite_ne,ofL_app,go_sem,↓reduceIte,Za,Zb,Zc,Zd,Ze,reduceCtorEq,Zf,Zg,Zh,Zi,Zj,Zk]
    refine ⟨by rw [ofL_size,ofL_size];simp only [zlc,zld,zle];omega,(j+1,_),⟨by dsimp only;omega,by dsimp only;omega⟩,by dsimp only;omega,weak_ok ?_ (Sub.cons ?_ (Sub.base hf ?_)) (zna _)⟩
    all_goals
     simp (disch:=omega) only [ite_ne,wr64s j (by omega),hst,zlh,zlf,zli,go_sem,↓reduceIte,Za,Zb,Zc,Zd,Ze,reduceCtorEq,Zf,Zg,Zh,Zi,Zj,Zk]
   .have d:j=0:=by simp at d;omega
    subst d
    have hst:=jn_0 wrtV ex
    rw [zlr,List.map_nil,jn_nil]
    simp only [go_sem,↓reduceIte,Za,Zb,Zc,Zd,Ze,reduceCtorEq,Zf,Zg,Zh,Zi,Zj,Zk]
    refine ⟨q,?_⟩
    simp (disch:=omega) only [ite_ne,getK_s (mapC_get valC ex),go_sem,↓reduceIte,Za,Zb,Zc,Zd,Ze,reduceCtorEq,Zf,Zg,Zh,Zi,Zj,Zk]
    refine vcCall.f (hx _ _) ?_
    simp (disch:=omega) only [ite_ne,ofL_app,go_sem,↓reduceIte,Za,Zb,Zc,Zd,Ze,reduceCtorEq,Zf,Zg,Zh,Zi,Zj,Zk]
    refine ⟨by rw [ofL_size,ofL_size];simp only [zlc,zld,zle];omega,(1,_),⟨by dsimp only;omega,by dsimp only;omega⟩,by dsimp only;omega,weak_ok ?_ (Sub.cons ?_ (Sub.base hf ?_)) (zna _)⟩
    all_goals
     simp (disch:=omega) only [ite_ne,w01,hst,zlh,zlf,zli,go_sem,↓reduceIte,Za,Zb,Zc,Zd,Ze,reduceCtorEq,Zf,Zg,Zh,Zi,Zj,Zk]
  .have q:j=v.items.length:=by simp at q;omega
   subst q
   rw [zlj]
   subst e
   simp (disch:=omega) only [ite_ne,mk_ofL,ofL_app,go_sem,↓reduceIte,Za,Zb,Zc,Zd,Ze,reduceCtorEq,Zf,Zg,Zh,Zi,Zj,Zk]
   rw [ofL_size,ofL_size]
   simp only [zlc,zld,zle]
   omega
 have c5:¬v.k=5:=by simpa using c5
 rw [if_neg c5] at e
 simp only [go_sem,↓reduceIte,Za,Zb,Zc,Zd,Ze,reduceCtorEq,Zf,Zg,Zh,Zi,Zj,Zk]
 refine cdK_of (fun c=>?_) (fun c6=>?_)
 .have c:v.k=6:=by simpa using c
  rw [if_pos c] at e
  obtain ⟨Z,hZ⟩:∃Z,List.zipWith fieldL v.keys (v.items.map wrtV)=Z:=⟨_,rfl⟩
  have hZl:Z.length=min v.keys.length v.items.length:=by rw [←hZ];simp
  rw [hZ] at e hx2
  have hfin:=jn_le Z
  have hzt:∀j,(jn (Z.take j)).length≤jnB Z:=fun j=>Nat.le_trans (jn_le _) (jnB_take Z j)
  simp only [go_sem,↓reduceIte,Za,Zb,Zc,Zd,Ze,reduceCtorEq,Zf,Zg,Zh,Zi,Zj,Zk]
  refine loop (fun p:Nat × Nat=>⟨[(1,.bx m 0),(5,.s (ofL (123::jn (Z.take p.1)))),(6,.i .i64 p.1)],(m,.bx [.i .i64 v.k,.i .i64 v.n,.s v.s,.ds (mapC valC v.items),.ds (stC v.keys)])::hp,p.2⟩)
   (fun p=>p.1≤Z.length∧m+1≤p.2) (fun p=>Z.length - p.1) (0,m+1) ?_ ?_ (fun ⟨j,n⟩ hj=>?_)
  .simp
  .refine weak_ok ?_ (Sub.cons ?_ (Sub.base hf ?_)) (zna _)
   all_goals (simp (disch:=omega) only [ite_ne,go_sem,↓reduceIte,Za,Zb,Zc,Zd,Ze,reduceCtorEq,Zf,Zg,Zh,Zi,Zj,Zk])
   all_goals rfl
  dsimp only at hj
  obtain ⟨hj1,hj2⟩:=hj
  simp (disch:=omega) only [ite_ne,go_sem,↓reduceIte,Za,Zb,Zc,Zd,Ze,reduceCtorEq,Zf,Zg,Zh,Zi,Zj,Zk]
  refine cdK_of (fun q=>?_) (fun q=>?_)
  .have q1:j<v.items.length∧j<v.keys.length:=by simp at q;omega
   obtain ⟨q1,q2⟩:=q1
   have q3:j<Z.length:=by omega
   obtain ⟨x,ex⟩:∃x,v.items[j]?=some x:=⟨v.items[j],by simp [q1]⟩
   obtain ⟨k,ek⟩:∃k,v.keys[j]?=some k:=⟨v.keys[j],by simp [q2]⟩
   have ez:Z[j]?=some (fieldL k (wrtV x)):=by rw [←hZ];simp [List.getElem?_zipWith,ex,ek]
   have hx:=h x (zla ex)
   have hw:=wrtV_len x (hr.x (zla ex))
   have hm:avL (valC x)≤avLL (mapC valC v.items):=avLL_in (zls (f:=valC) (zla ex))
   have hk:avL (st1 k)≤avLL (stC v.keys):=avLL_in (zls (f:=st1) (zla ek))
   obtain ⟨kb,rfl⟩:∃kb,k=ofL kb:=⟨bs k,(ofL_bs k).symm⟩
   have hk2:avL (st1 (ofL kb))=kb.length+1:=by simp [st1,avL,avw,ofL_size]
   have hs:=hzt j
   have hfl:fieldL (ofL kb) (wrtV x)=kb++58::32::wrtV x:=by simp [fieldL,bs_ofL]
   simp (disch:=omega) only [ite_ne,go_sem,↓reduceIte,Za,Zb,Zc,Zd,Ze,reduceCtorEq,Zf,Zg,Zh,Zi,Zj,Zk]
   refine cdK_of (fun d=>?_) (fun d=>?_)
   .have d:0<j:=by simpa using d
    have hst:jn (Z.take (j+1))=jn (Z.take j)++([44,32]++fieldL (ofL kb) (wrtV x)):=by
     have:=jn_at (fun y:List UInt8=>y) ez d
     simpa using this
    rw [hfl] at hst
    simp (disch:=first | omega | (simp only [zld,zlc,zle];omega)) only [ite_ne,s_cat,mk_ofL,ofL_app,litS,zlh,zlf,zli,q2,getK_s (mapC_get st1 ek),getK_s (mapC_get valC ex),q1,go_sem,↓reduceIte,Za,Zb,Zc,Zd,Ze,reduceCtorEq,Zf,Zg,Zh,Zi,Zj,Zk]
    refine dCallR.f (fun _ hp' e=>hx _ _) ?_
    simp (disch:=first | omega | (simp only [zld,zlc,zle];omega)) only [ite_ne,s_cat,mk_ofL,ofL_app,litS,zlh,zlf,zli,q2,getK_s (mapC_get st1 ek),getK_s (mapC_get valC ex),q1,go_sem,↓reduceIte,Za,Zb,Zc,Zd,Ze,reduceCtorEq,Zf,Zg,Zh,Zi,Zj,Zk]
    refine ⟨(j+1,_),⟨by dsimp only;omega,by dsimp only;omega⟩,by dsimp only;omega,weak_ok ?_ (Sub.cons ?_ (Sub.base hf ?_)) (zna _)⟩
    all_goals
     simp (disch:=first | omega | (simp only [zld,zlc,zle];omega)) only [ite_ne,s_cat,mk_ofL,ofL_app,litS,zlh,zlf,zli,wr64s j (by omega),hst,go_sem,↓reduceIte,Za,Zb,Zc,Zd,Ze,reduceCtorEq,Zf,Zg,Zh,Zi,Zj,Zk]
   .have d:j=0:=by simp at d;omega
    subst d
    have hst:jn (Z.take 1)=fieldL (ofL kb) (wrtV x):=by
     have:=jn_0 (fun y:List UInt8=>y) ez
     simpa using this
    rw [hfl] at hst
    rw [zlr,jn_nil]
    simp (disch:=first | omega | (simp only [zld,zlc,zle];omega)) only [ite_ne,s_cat,mk_ofL,ofL_app,litS,zlh,zlf,zli,q2,getK_s (mapC_get st1 ek),getK_s (mapC_get valC ex),q1,go_sem,↓reduceIte,Za,Zb,Zc,Zd,Ze,reduceCtorEq,Zf,Zg,Zh,Zi,Zj,Zk]
    refine dCallR.f (fun _ hp' e=>hx _ _) ?_
    simp (disch:=first | omega | (simp only [zld,zlc,zle];omega)) only [ite_ne,s_cat,mk_ofL,ofL_app,litS,zlh,zlf,zli,q2,getK_s (mapC_get st1 ek),getK_s (mapC_get valC ex),q1,go_sem,↓reduceIte,Za,Zb,Zc,Zd,Ze,reduceCtorEq,Zf,Zg,Zh,Zi,Zj,Zk]
    refine ⟨(1,_),⟨by dsimp only;omega,by dsimp only;omega⟩,by dsimp only;omega,weak_ok ?_ (Sub.cons ?_ (Sub.base hf ?_)) (zna _)⟩
    all_goals
     simp (disch:=first | omega | (simp only [zld,zlc,zle];omega)) only [ite_ne,s_cat,mk_ofL,ofL_app,litS,zlh,zlf,zli,w01,hst,go_sem,↓reduceIte,Za,Zb,Zc,Zd,Ze,reduceCtorEq,Zf,Zg,Zh,Zi,Zj,Zk]
  .have q:j=Z.length:=by simp at q;omega
   subst q
   rw [zlj]
   subst e
   simp (disch:=omega) only [ite_ne,mk_ofL,ofL_app,go_sem,↓reduceIte,Za,Zb,Zc,Zd,Ze,reduceCtorEq,Zf,Zg,Zh,Zi,Zj,Zk]
   rw [ofL_size,ofL_size]
   simp only [zlc,zld,zle]
   omega
 .have c6:¬v.k=6:=by simpa using c6
  rw [if_neg c6] at e
  subst e
  simp only [go_sem,↓reduceIte,Za,Zb,Zc,Zd,Ze,reduceCtorEq,Zf,Zg,Zh,Zi,Zj,Zk]
  rfl
structure VOk (v:Val):Prop where
 f:v.Fit
 r:v.Rng
 b:avL (valC v)≤1000000000
theorem VOk.x {v:Val} (h:VOk v) {x:Val} (hx:x∈v.items):VOk x:=by
 have h1:=h.b
 have h2:avL (valC x)≤avLL (mapC valC v.items):=avLL_in (zls (f:=valC) hx)
 rw [avL_val] at h1
 exact ⟨h.f.x hx,h.r.x hx,by omega⟩
theorem rwrite_ok (v:Val) (hv:VOk v) (hp:CH) (m:Nat):MeetsF Tryz.prog 85 hp m [vx v] (.s (ofL (wrtV v))):=by
 have:=Val.ind (Q:=fun v=>VOk v→∀hp m,MeetsF Tryz.prog 85 hp m [vx v] (.s (ofL (wrtV v)))) (fun v ih hv hp m=>rwrite_of v hv.f hv.r hv.b (fun x hx=>ih x hx (hv.x hx)) hp m) v
 exact this hv hp m
theorem args_len:∀(l:List Arg),(∀a∈l,VOk a.v)→jnB (l.map argL)≤32*avLL (mapC argC l)
 | [],_=>by simp [jnB]
 | a::l,h=>by
  have h1:=wrtV_len a.v (h a (by simp)).r
  have h2:=args_len l fun y hy=>h y (by simp [hy])
  have h3:(argL a).length=a.n.size+2+(wrtV a.v).length:=by simp [argL,fieldL,bs_len];omega
  have h4:avL (argC a)=a.n.size+1+avL (valC a.v):=by
   rw [valC_eq]
   simp only [argC,avL,avw]
  rw [List.map_cons,jnB_cons,mapC_cons,avLL_cons,h3,h4]
  omega
theorem rText_ok (l:List Arg) (hl:∀a∈l,VOk a.v) (hB:avLL (mapC argC l)≤1000000000) (hn:l.length≤100000000000) (hp:CH) (m:Nat):MeetsF Tryz.prog 39 hp m [.ds (mapC argC l)] (.s (ofL (argsL l))):=by
 have hb:=args_len l hl
 refine meetsF Tryz.func39 (by kernel_rfl) cc39 cr39 rfl fun hf=>?_;unfold ck39
 simp only [go_sem,↓reduceIte,Za,Zb,Zc,Zd,Ze,reduceCtorEq,Zf,Zg,Zh,Zi,Zj,Zk]
 refine loop (fun p:Nat × Nat=>⟨[(0,.ds (mapC argC l)),(3,.s (ofL (jn ((l.take p.1).map argL)))),(4,.i .i64 p.1)],hp,p.2⟩)
  (fun p=>p.1≤l.length∧m≤p.2) (fun p=>l.length - p.1) (0,m) ?_ ?_ (fun ⟨j,n⟩ hj=>?_)
 .simp
 .refine weak_ok ?_ (Sub.refl _) (zna _)
  all_goals (simp (disch:=omega) only [ite_ne,go_sem,↓reduceIte,Za,Zb,Zc,Zd,Ze,reduceCtorEq,Zf,Zg,Zh,Zi,Zj,Zk])
  all_goals rfl
 dsimp only at hj
 obtain ⟨hj1,hj2⟩:=hj
 simp (disch:=omega) only [ite_ne,go_sem,↓reduceIte,Za,Zb,Zc,Zd,Ze,reduceCtorEq,Zf,Zg,Zh,Zi,Zj,Zk]
 refine cdK_of (fun q=>?_) (fun q=>?_)
 .have q:j<l.length:=by simpa using q
  obtain ⟨a,ea⟩:∃a,l[j]?=some a:=⟨l[j],by simp [q]⟩
  have ha:=hl a (zla ea)
  have hw:=wrtV_len a.v ha.r
  have hab:=ha.b
  have h4:avL (argC a)=a.n.size+1+avL (valC a.v):=by
   rw [valC_eq]
   simp only [argC,avL,avw]
  have h5:avL (argC a)≤avLL (mapC argC l):=avLL_in (zls (f:=argC) (zla ea))
  have hs:=jn_len_take argL l j
  obtain ⟨kb,hkb⟩:∃kb,a.n=ofL kb:=⟨bs a.n,(ofL_bs a.n).symm⟩
  have h6:a.n.size=kb.length:=by rw [hkb,ofL_size]
  have hfl:argL a=kb++58::32::wrtV a.v:=by simp [argL,fieldL,hkb,bs_ofL]
  simp (disch:=omega) only [ite_ne,go_sem,↓reduceIte,Za,Zb,Zc,Zd,Ze,reduceCtorEq,Zf,Zg,Zh,Zi,Zj,Zk]
  refine cdK_of (fun d=>?_) (fun d=>?_)
  .have d:0<j:=by simpa using d
   have hst:=jn_at argL ea d
   rw [hfl] at hst
   simp (disch:=first | omega | (simp only [zld,zlc,zle];omega)) only [ite_ne,s_cat,mk_ofL,ofL_app,litS,zlh,zlf,zli,q,getK_s (mapC_get argC ea),hkb,go_sem,↓reduceIte,Za,Zb,Zc,Zd,Ze,reduceCtorEq,Zf,Zg,Zh,Zi,Zj,Zk]
   refine dCallR.f (fun _ hp' e=>rwrite_ok a.v ha _ _) ?_
   simp (disch:=first | omega | (simp only [zld,zlc,zle];omega)) only [ite_ne,s_cat,mk_ofL,ofL_app,litS,zlh,zlf,zli,q,getK_s (mapC_get argC ea),hkb,go_sem,↓reduceIte,Za,Zb,Zc,Zd,Ze,reduceCtorEq,Zf,Zg,Zh,Zi,Zj,Zk]
   refine ⟨(j+1,_),⟨by dsimp only;omega,by dsimp only;omega⟩,by dsimp only;omega,weak_ok ?_ (Sub.refl _) (zna _)⟩
   all_goals
    simp (disch:=first | omega | (simp only [zld,zlc,zle];omega)) only [ite_ne,s_cat,mk_ofL,ofL_app,litS,zlh,zlf,zli,wr64s j (by omega),hst,go_sem,↓reduceIte,Za,Zb,Zc,Zd,Ze,reduceCtorEq,Zf,Zg,Zh,Zi,Zj,Zk]
  .have d:j=0:=by simp at d;omega
   subst d
   have hst:=jn_0 argL ea
   rw [hfl] at hst
   rw [zlr,List.map_nil,jn_nil]
   simp (disch:=first | omega | (simp only [zld,zlc,zle];omega)) only [ite_ne,s_cat,mk_ofL,ofL_app,litS,zlh,zlf,zli,q,getK_s (mapC_get argC ea),hkb,go_sem,↓reduceIte,Za,Zb,Zc,Zd,Ze,reduceCtorEq,Zf,Zg,Zh,Zi,Zj,Zk]
   refine dCallR.f (fun _ hp' e=>rwrite_ok a.v ha _ _) ?_
   simp (disch:=first | omega | (simp only [zld,zlc,zle];omega)) only [ite_ne,s_cat,mk_ofL,ofL_app,litS,zlh,zlf,zli,q,getK_s (mapC_get argC ea),hkb,go_sem,↓reduceIte,Za,Zb,Zc,Zd,Ze,reduceCtorEq,Zf,Zg,Zh,Zi,Zj,Zk]
   refine ⟨(1,_),⟨by dsimp only;omega,by dsimp only;omega⟩,by dsimp only;omega,weak_ok ?_ (Sub.refl _) (zna _)⟩
   all_goals
    simp (disch:=first | omega | (simp only [zld,zlc,zle];omega)) only [ite_ne,s_cat,mk_ofL,ofL_app,litS,zlh,zlf,zli,w01,hst,go_sem,↓reduceIte,Za,Zb,Zc,Zd,Ze,reduceCtorEq,Zf,Zg,Zh,Zi,Zj,Zk]
 .have q:j=l.length:=by simp at q;omega
  subst q
  rw [zlj]
  simp (disch:=omega) only [ite_ne,go_sem,↓reduceIte,Za,Zb,Zc,Zd,Ze,reduceCtorEq,Zf,Zg,Zh,Zi,Zj,Zk]
  rfl
end Go.Proofs.YtinbodeocoeneaaGreatDoor
