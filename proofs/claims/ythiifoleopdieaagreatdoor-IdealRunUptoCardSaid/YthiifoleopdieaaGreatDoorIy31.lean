/- Proof. Conditions: none. -/
import Derived.Lib.ItoaLen
import Derived.Test.YthiifoleopdieaaGreatDoorIy30
open Nat renaming reduceEqDiff→Za,reduceBEq→Zb,reduceAdd→Zc,reduceLeDiff→Zd,reduceLT→Ze,reduceMul→Zf,reduceSub→Zg
open Int renaming reduceEq→Zh,reduceLT→Zi,reduceLE→Zj,reduceToNat→Zk
open List renaming length_cons→zlc
namespace Go.Proofs.YthiifoleopdieaaGreatDoor
open Go.Eng
set_option linter.all false
set_option maxRecDepth 20000
theorem hex_ok (c:Nat) (h1:c<16) (hp:CH) (m:Nat):MeetsF Tryz.prog 158 hp m [.i .u8 (c:Int)] (.i .u8 ((hexd c).toNat:Int)):=by
 refine meetsF Tryz.func158 (by kernel_rfl) cc158 cr158 rfl fun hf=>?_;unfold ck158
 simp only [go_sem,↓reduceIte,Za,Zb,Zc,Zd,Ze,reduceCtorEq,Zf,Zg,Zh,Zi,Zj,Zk]
 refine cdK_of (fun d=>?_) (fun d=>?_)
 .have d:c<10:=by simp at d;omega
  have e:IntKind.u8.wrap (48+(c:Int))=((hexd c).toNat:Int):=by
   rw [wr8,hexd,if_pos d]
  simp only [e,go_sem,↓reduceIte,Za,Zb,Zc,Zd,Ze,reduceCtorEq,Zf,Zg,Zh,Zi,Zj,Zk]
 .have d:¬c<10:=by simp at d;omega
  have e:IntKind.u8.wrap (87+(c:Int))=((hexd c).toNat:Int):=by
   rw [wr8,hexd,if_neg d]
  simp only [e,go_sem,↓reduceIte,Za,Zb,Zc,Zd,Ze,reduceCtorEq,Zf,Zg,Zh,Zi,Zj,Zk]
theorem escape_ok (c:UInt8) (hp:CH) (m:Nat):MeetsF Tryz.prog 135 hp m [.i .u8 (c.toNat:Int)] (.s (ofL (escL c))):=by
 have hc:c.toNat<256:=c.toNat_lt
 refine meetsF Tryz.func135 (by kernel_rfl) cc135 cr135 rfl fun hf=>?_;unfold ck135
 simp only [go_sem,↓reduceIte,Za,Zb,Zc,Zd,Ze,reduceCtorEq,Zf,Zg,Zh,Zi,Zj,Zk]
 refine cdK_of (fun d=>?_) (fun d1=>?_)
 .have d:c.toNat=34:=by simp at d;omega
  have e:ofL (escL c)=⟨#[92,34]⟩:=by simp [escL,d,ofL]
  rw [e]
  simp only [go_sem,↓reduceIte,Za,Zb,Zc,Zd,Ze,reduceCtorEq,Zf,Zg,Zh,Zi,Zj,Zk]
 simp only [go_sem,↓reduceIte,Za,Zb,Zc,Zd,Ze,reduceCtorEq,Zf,Zg,Zh,Zi,Zj,Zk]
 refine cdK_of (fun d=>?_) (fun d2=>?_)
 .have d:c.toNat=92:=by simp at d;omega
  have e:ofL (escL c)=⟨#[92,92]⟩:=by simp [escL,d,ofL]
  rw [e]
  simp only [go_sem,↓reduceIte,Za,Zb,Zc,Zd,Ze,reduceCtorEq,Zf,Zg,Zh,Zi,Zj,Zk]
 simp only [go_sem,↓reduceIte,Za,Zb,Zc,Zd,Ze,reduceCtorEq,Zf,Zg,Zh,Zi,Zj,Zk]
 refine cdK_of (fun d=>?_) (fun d3=>?_)
 .have d:c.toNat=10:=by simp at d;omega
  have e:ofL (escL c)=⟨#[92,110]⟩:=by simp [escL,d,ofL]
  rw [e]
  simp only [go_sem,↓reduceIte,Za,Zb,Zc,Zd,Ze,reduceCtorEq,Zf,Zg,Zh,Zi,Zj,Zk]
 simp only [go_sem,↓reduceIte,Za,Zb,Zc,Zd,Ze,reduceCtorEq,Zf,Zg,Zh,Zi,Zj,Zk]
 refine cdK_of (fun d=>?_) (fun d4=>?_)
 .have d:c.toNat=13:=by simp at d;omega
  have e:ofL (escL c)=⟨#[92,114]⟩:=by simp [escL,d,ofL]
  rw [e]
  simp only [go_sem,↓reduceIte,Za,Zb,Zc,Zd,Ze,reduceCtorEq,Zf,Zg,Zh,Zi,Zj,Zk]
 simp only [go_sem,↓reduceIte,Za,Zb,Zc,Zd,Ze,reduceCtorEq,Zf,Zg,Zh,Zi,Zj,Zk]
 refine cdK_of (fun d=>?_) (fun d5=>?_)
 .have d:c.toNat=9:=by simp at d;omega
  have e:ofL (escL c)=⟨#[92,116]⟩:=by simp [escL,d,ofL]
  rw [e]
  simp only [go_sem,↓reduceIte,Za,Zb,Zc,Zd,Ze,reduceCtorEq,Zf,Zg,Zh,Zi,Zj,Zk]
 have e0:escL c=if c.toNat<32∨126<c.toNat then [92,117,48,48,hexd (c.toNat / 16),hexd (c.toNat % 16)] else [c]:=by
  rw [escL,if_neg (by simp at d1;omega),if_neg (by simp at d2;omega),if_neg (by simp at d3;omega),if_neg (by simp at d4;omega),if_neg (by simp at d5;omega)]
 have q1:(c.toNat:Int).tdiv 16=((c.toNat / 16:Nat):Int):=by simp [Int.tdiv]
 have q2:(c.toNat:Int).tmod 16=((c.toNat % 16:Nat):Int):=by simp [Int.tmod]
 have q3:IntKind.u8.wrap ((c.toNat / 16:Nat):Int)=((c.toNat / 16:Nat):Int):=by rw [wr8];unfold u8;simp;omega
 simp only [go_sem,↓reduceIte,Za,Zb,Zc,Zd,Ze,reduceCtorEq,Zf,Zg,Zh,Zi,Zj,Zk]
 refine cdK_of (fun d=>?_) (fun d=>?_)
 .rw [e0,if_pos (by simp at d;omega)]
  simp only [q1,q2,q3,go_sem,↓reduceIte,Za,Zb,Zc,Zd,Ze,reduceCtorEq,Zf,Zg,Zh,Zi,Zj,Zk]
  refine vcCall.f (hex_ok (c.toNat / 16) (by omega) _ _) ?_
  simp only [q1,q2,q3,go_sem,↓reduceIte,Za,Zb,Zc,Zd,Ze,reduceCtorEq,Zf,Zg,Zh,Zi,Zj,Zk]
  refine vcCall.f (hex_ok (c.toNat % 16) (by omega) _ _) ?_
  simp only [go_sem,↓reduceIte,Za,Zb,Zc,Zd,Ze,reduceCtorEq,Zf,Zg,Zh,Zi,Zj,Zk]
  congr 2
  rw [mk_ofL,mk_ofL,ofL_app]
  simp
 .rw [e0,if_neg (by simp at d;omega)]
  simp only [UInt8.ofNat_toNat,go_sem,↓reduceIte,Za,Zb,Zc,Zd,Ze,reduceCtorEq,Zf,Zg,Zh,Zi,Zj,Zk]
  rfl
theorem rQuote_ok (s:ByteArray) (hs:s.size≤1000000000000) (hp:CH) (m:Nat):MeetsF Tryz.prog 112 hp m [.s s] (.s (ofL (quoL s))):=by
 refine meetsF Tryz.func112 (by kernel_rfl) cc112 cr112 rfl fun hf=>?_;unfold ck112
 simp only [go_sem,↓reduceIte,Za,Zb,Zc,Zd,Ze,reduceCtorEq,Zf,Zg,Zh,Zi,Zj,Zk]
 refine loop (fun p:Nat × Nat=>⟨[(0,.s s),(3,.s (ofL (34::((bs s).take p.1).flatMap escL))),(4,.i .i64 p.1)],hp,p.2⟩) (fun p=>p.1≤s.size) (fun p=>s.size - p.1) (0,m) ?_ ?_ (fun ⟨j,n⟩ hj=>?_)
 .simp
 .refine weak_ok ?_ (Sub.refl _) (Nat.le_refl _)
  simp only [go_sem,↓reduceIte,Za,Zb,Zc,Zd,Ze,reduceCtorEq,Zf,Zg,Zh,Zi,Zj,Zk]
  rfl
 dsimp only at hj
 simp only [go_sem,↓reduceIte,Za,Zb,Zc,Zd,Ze,reduceCtorEq,Zf,Zg,Zh,Zi,Zj,Zk]
 refine cdK_of (fun d=>?_) (fun d=>?_)
 .have d:j<s.size:=by simpa using d
  obtain ⟨x,ex⟩:∃x,(bs s)[j]?=some x:=⟨(bs s)[j]'(by rw [size_bs];exact d),by simp [size_bs,d]⟩
  have eg:(bs s).getD j 0=x:=by rw [List.getD,ex];rfl
  simp only [d,eg,go_sem,↓reduceIte,Za,Zb,Zc,Zd,Ze,reduceCtorEq,Zf,Zg,Zh,Zi,Zj,Zk]
  refine vcCall.f (escape_ok x _ _) ?_
  simp only [go_sem,↓reduceIte,Za,Zb,Zc,Zd,Ze,reduceCtorEq,Zf,Zg,Zh,Zi,Zj,Zk]
  have k1:=escL_len x
  have k2:=flat_len ((bs s).take j)
  have k3:((bs s).take j).length≤s.size:=by rw [List.length_take,bs_len];omega
  have k4:(ofL (34::List.flatMap escL (List.take j (bs s)))).size+(ofL (escL x)).size≤9223372036854775807:=by rw [ofL_size,ofL_size,zlc];omega
  refine ⟨k4,(j+1,n),by dsimp only;omega,by dsimp only;omega,weak_ok ?_ (Sub.refl _) (Nat.le_refl _)⟩
  simp only [wr64s j (by omega),go_sem,↓reduceIte,Za,Zb,Zc,Zd,Ze,reduceCtorEq,Zf,Zg,Zh,Zi,Zj,Zk]
  rw [ofL_app,List.cons_append,←take_snoc ex,List.flatMap_append]
  simp
 .have d:j=s.size:=by simp at d;omega
  subst d
  simp only [go_sem,↓reduceIte,Za,Zb,Zc,Zd,Ze,reduceCtorEq,Zf,Zg,Zh,Zi,Zj,Zk]
  have k2:=flat_len (bs s)
  rw [bs_len] at k2
  rw [List.take_of_length_le (by rw [size_bs];omega),mk_ofL,ofL_app,ofL_size,zlc]
  refine ⟨?_,rfl⟩
  have:(#[34]:Array UInt8).size=1:=rfl
  omega
theorem dec_len (u:Nat) (hu:u≤9223372036854775808):(Lib.decDigits u).length≤21:=by
 rcases Nat.eq_zero_or_pos u with h | h
 .subst h
  have:=Lib.itoa_length_le 0 (by omega) (by omega)
  simpa [Lib.itoa] using this
 .have:=Lib.itoa_length_le (-(u:Int)) (by omega) (by omega)
  rw [Lib.itoa,if_pos (by omega)] at this
  simp at this
  omega
theorem digits_ok (u:Nat):u≤9223372036854775808→∀(hp:CH) (m:Nat),MeetsF Tryz.prog 134 hp m [.i .i64 (-(u:Int))] (.s (ofL (Lib.decDigits u))):=by
 induction u using Nat.strongRecOn with
 | _ u ih =>
  intro hu hp m
  have e1:(-(u:Int)).tmod 10=-((u % 10:Nat):Int):=by rw [Int.neg_tmod];simp [Int.tmod]
  have e2:(-(u:Int)).tdiv 10=-((u / 10:Nat):Int):=by rw [Int.neg_tdiv];simp [Int.tdiv]
  have e3:IntKind.i64.wrap (48 - -((u % 10:Nat):Int))=((48+u % 10:Nat):Int):=by rw [wr64 (by omega)];omega
  have e4:IntKind.u8.wrap ((48+u % 10:Nat):Int)=((48+u % 10:Nat):Int):=by rw [wr8];unfold u8;simp;omega
  have e5:IntKind.i64.wrap (-((u / 10:Nat):Int))=-((u / 10:Nat):Int):=wr64 (by omega)
  have e6:((48+u % 10:Nat):Int).toNat=48+u % 10:=by omega
  have hd:=dec_len u hu
  rw [Lib.decDigits] at hd ⊢
  refine meetsF Tryz.func134 (by kernel_rfl) cc134 cr134 rfl fun hf=>?_;unfold ck134
  simp only [e1,e2,e3,e4,e5,e6,go_sem,↓reduceIte,Za,Zb,Zc,Zd,Ze,reduceCtorEq,Zf,Zg,Zh,Zi,Zj,Zk]
  refine cdK_of (fun c=>?_) (fun c=>?_)
  .have c:u<10:=by simp at c;omega
   rw [dif_pos c]
   have c2:u % 10=u:=Nat.mod_eq_of_lt c
   simp only [c2,go_sem,↓reduceIte,Za,Zb,Zc,Zd,Ze,reduceCtorEq,Zf,Zg,Zh,Zi,Zj,Zk]
   rfl
  .have c:¬u<10:=by simp at c;omega
   rw [dif_neg c] at hd ⊢
   simp only [e1,e2,e3,e4,e5,go_sem,↓reduceIte,Za,Zb,Zc,Zd,Ze,reduceCtorEq,Zf,Zg,Zh,Zi,Zj,Zk]
   refine vcCall.f (ih (u / 10) (by omega) (by omega) _ _) ?_
   rw [List.length_append,zlc,List.length_nil] at hd
   simp only [go_sem,↓reduceIte,Za,Zb,Zc,Zd,Ze,reduceCtorEq,Zf,Zg,Zh,Zi,Zj,Zk]
   rw [mk_ofL,ofL_app,ofL_size]
   refine ⟨?_,rfl⟩
   have:(#[UInt8.ofNat (48+u % 10)]:Array UInt8).size=1:=rfl
   omega
theorem rDecimal_ok (n:Int) (h0:-9223372036854775808≤n) (h1:n≤9223372036854775807) (hp:CH) (m:Nat):MeetsF Tryz.prog 111 hp m [.i .i64 n] (.s (ofL (Lib.itoa n))):=by
 have hd:=dec_len n.natAbs (by omega)
 have hk:=digits_ok n.natAbs (by omega)
 rw [Lib.itoa]
 refine meetsF Tryz.func111 (by kernel_rfl) cc111 cr111 rfl fun hf=>?_;unfold ck111
 simp only [go_sem,↓reduceIte,Za,Zb,Zc,Zd,Ze,reduceCtorEq,Zf,Zg,Zh,Zi,Zj,Zk]
 refine cdK_of (fun c=>?_) (fun c=>?_)
 .have c:n<0:=by simpa using c
  have e:-((n.natAbs:Nat):Int)=n:=by omega
  rw [e] at hk
  rw [if_pos c]
  simp only [go_sem,↓reduceIte,Za,Zb,Zc,Zd,Ze,reduceCtorEq,Zf,Zg,Zh,Zi,Zj,Zk]
  refine vcCall.f (hk _ _) ?_
  simp only [go_sem,↓reduceIte,Za,Zb,Zc,Zd,Ze,reduceCtorEq,Zf,Zg,Zh,Zi,Zj,Zk]
  rw [mk_ofL,ofL_app,ofL_size]
  refine ⟨?_,rfl⟩
  have:(#[45]:Array UInt8).size=1:=rfl
  omega
 .have c:¬n<0:=by simpa using c
  have e:-((n.natAbs:Nat):Int)=IntKind.i64.wrap (0 - n):=by rw [wr64 (by omega)];omega
  rw [e] at hk
  rw [if_neg c,show n.toNat=n.natAbs by omega]
  simp only [go_sem,↓reduceIte,Za,Zb,Zc,Zd,Ze,reduceCtorEq,Zf,Zg,Zh,Zi,Zj,Zk]
  refine vcCall.f (hk _ _) ?_
  simp only [go_sem,↓reduceIte,Za,Zb,Zc,Zd,Ze,reduceCtorEq,Zf,Zg,Zh,Zi,Zj,Zk]
end Go.Proofs.YthiifoleopdieaaGreatDoor
