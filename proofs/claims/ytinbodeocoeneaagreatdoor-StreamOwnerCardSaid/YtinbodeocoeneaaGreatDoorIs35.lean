/- Proof. Conditions: none. -/
import Derived.Test.YtinbodeocoeneaaGreatDoorIs34
open Nat renaming reduceEqDiff→Za,reduceBEq→Zb,reduceAdd→Zc,reduceLeDiff→Zd,reduceLT→Ze,reduceMul→Zf,reduceSub→Zg
open Int renaming reduceEq→Zh,reduceLT→Zi,reduceLE→Zj,reduceToNat→Zk
open List renaming length_cons→zlc,length_append→zld,length_nil→zle,append_assoc→zlf,cons_append→zlh,nil_append→zli
open Nat renaming le_refl→zna
namespace Go.Proofs.YtinbodeocoeneaaGreatDoor
open Go.Eng
set_option linter.all false
set_option maxRecDepth 20000
theorem push_ofL (l:List UInt8) (c:UInt8):(ofL l).push c=ofL (l++[c]):=by
 apply ByteArray.ext
 rw [ByteArray.data_push]
 simp [ofL]
theorem wByte {hp:CH} {k g n:Nat} {l:List UInt8} (c:UInt8) (hk:gc hp k=.sb 194 5 g (ofL l)) (hlen:l.length+1≤140737488355328) :
  Meets Tryz.prog 160 hp n [.bx k 0,.i .u8 c.toNat] fun hp' n' r=>∃g',hp'=(k,.sb 194 5 g' (ofL (l++[c])))::hp∧n'=n∧r=.ni:=by
 have:=meets_sbByte (n:=n) (c:=c) Tryz.lays167 Tryz.Builder_Extra_167 (f:=160) rfl ⟨_,Tryz.func160,by kernel_rfl,by kernel_rfl⟩ rfl rfl hk (by rw [ofL_size];exact hlen)
 rwa [push_ofL] at this
theorem wStr {hp:CH} {k g n:Nat} {l:List UInt8} (s:List UInt8) (hk:gc hp k=.sb 194 5 g (ofL l)) (hlen:l.length+s.length≤140737488355328) :
  Meets Tryz.prog 141 hp n [.bx k 0,.s (ofL s)] fun hp' n' r=>∃g',hp'=(k,.sb 194 5 g' (ofL (l++s)))::hp∧n'=n∧r=.tp [.i .i64 s.length,.ni]:=by
 have:=meets_sbString (n:=n) (s:=ofL s) { Tryz.lays156 with } Tryz.Builder_Extra_156 (f:=141) rfl ⟨_,Tryz.func141,by kernel_rfl,by kernel_rfl⟩ rfl rfl hk (by rw [ofL_size,ofL_size];exact hlen)
 rwa [ofL_app,ofL_size] at this
theorem wRead {hp:CH} {k g n:Nat} {l:List UInt8} (hk:gc hp k=.sb 194 5 g (ofL l)) (h0:l≠[]):MeetsF Tryz.prog 142 hp n [.bx k 0] (.s (ofL l)) :=
 meets_sbRead Tryz.lays169 Tryz.Builder_Extra_169 (f:=142) rfl ⟨_,Tryz.func142,by kernel_rfl,by kernel_rfl⟩ rfl rfl hk (by rw [ofL_size];exact fun e=>h0 (List.eq_nil_of_length_eq_zero e))
theorem hex_at:∀c:Fin 16,[48,49,50,51,52,53,54,55,56,57,97,98,99,100,101,102].getD c.1 0=hexd c.1:=by decide
theorem shr_at:∀c:Fin 256,shrI .u8 (c.1:Int) 4=((c.1 / 16:Nat):Int):=by decide
theorem and_at:∀c:Fin 256,andI .u8 (c.1:Int) 15=((c.1 % 16:Nat):Int):=by decide +kernel
theorem escL_eq (x:UInt8):escL x=if x.toNat=34∨x.toNat=92 then [92,x] else if x.toNat=10 then [92,110] else if x.toNat=13 then [92,114] else if x.toNat=9 then [92,116]
  else if 32≤x.toNat∧x.toNat≤126 then [x] else [92,117,48,48,hexd (x.toNat / 16),hexd (x.toNat % 16)]:=by
 have h34:x.toNat=34→x=34:=fun e=>UInt8.toNat_inj.1 e
 have h92:x.toNat=92→x=92:=fun e=>UInt8.toNat_inj.1 e
 unfold escL
 by_cases c1:x.toNat=34
 .rw [if_pos c1,if_pos (.inl c1),h34 c1]
 by_cases c2:x.toNat=92
 .rw [if_neg c1,if_pos c2,if_pos (.inr c2),h92 c2]
 have c0:¬(x.toNat=34∨x.toNat=92):=by omega
 rw [if_neg c1,if_neg c2,if_neg c0]
 by_cases c3:x.toNat=10
 .rw [if_pos c3,if_pos c3]
 by_cases c4:x.toNat=13
 .rw [if_neg c3,if_neg c3,if_pos c4,if_pos c4]
 by_cases c5:x.toNat=9
 .rw [if_neg c3,if_neg c3,if_neg c4,if_neg c4,if_pos c5,if_pos c5]
 by_cases c6:32≤x.toNat∧x.toNat≤126
 .have c7:¬(x.toNat<32∨126<x.toNat):=by omega
  rw [if_neg c3,if_neg c3,if_neg c4,if_neg c4,if_neg c5,if_neg c5,if_pos c6,if_neg c7]
 .have c7:x.toNat<32∨126<x.toNat:=by omega
  rw [if_neg c3,if_neg c3,if_neg c4,if_neg c4,if_neg c5,if_neg c5,if_neg c6,if_pos c7]
theorem tQuote_ok (s:ByteArray) (hs:s.size≤1000000000000) (hp:CH) (m:Nat):MeetsF Tryz.prog 139 hp m [.s s] (.s (ofL (quoL s))):=by
 refine meetsF Tryz.func139 (by kernel_rfl) cc139 cr139 rfl fun hf=>?_;unfold ck139
 simp only [go_sem,↓reduceIte,Za,Zb,Zc,Zd,Ze,reduceCtorEq,Zf,Zg,Zh,Zi,Zj,Zk]
 refine vcCall.r (wByte (k:=m) (g:=0) (l:=[]) 34 (by simp only [go_sem,↓reduceIte,Za,Zb,Zc,Zd,Ze,reduceCtorEq,Zf,Zg,Zh,Zi,Zj,Zk];rfl) (by simp)) ?_
 rintro _ _ _ ⟨g,rfl,rfl,rfl⟩
 simp only [go_sem,↓reduceIte,Za,Zb,Zc,Zd,Ze,reduceCtorEq,Zf,Zg,Zh,Zi,Zj,Zk]
 refine loop (fun p:Nat × Nat × Nat=>⟨[(0,.s s),(3,.bx m 0),(8,.i .i64 s.size),(9,.i .i64 p.1)],(m,.sb 194 5 p.2.1 (ofL (34::((bs s).take p.1).flatMap escL)))::hp,p.2.2⟩)
  (fun p=>p.1≤s.size∧m+1≤p.2.2) (fun p=>s.size - p.1) (0,g,m+1) ?_ ?_ (fun ⟨j,g,n⟩ hj=>?_)
 .simp
 .refine weak_ok ?_ (Sub.cons ?_ (Sub.base hf ?_)) (zna _)
  all_goals (simp (disch:=omega) only [ite_ne,go_sem,↓reduceIte,Za,Zb,Zc,Zd,Ze,reduceCtorEq,Zf,Zg,Zh,Zi,Zj,Zk])
  all_goals rfl
 dsimp only at hj
 obtain ⟨hj1,hj2⟩:=hj
 simp (disch:=omega) only [ite_ne,go_sem,↓reduceIte,Za,Zb,Zc,Zd,Ze,reduceCtorEq,Zf,Zg,Zh,Zi,Zj,Zk]
 refine cdK_of (fun d=>?_) (fun d=>?_)
 .have d:j<s.size:=by simpa using d
  obtain ⟨x,ex⟩:∃x,(bs s)[j]?=some x:=⟨(bs s)[j]'(by rw [size_bs];exact d),by simp [size_bs,d]⟩
  have eg:(bs s).getD j 0=x:=by rw [List.getD,ex];rfl
  have hx:x.toNat<256:=x.toNat_lt
  have k2:=flat_len ((bs s).take j)
  have k3:((bs s).take j).length≤s.size:=by rw [List.length_take,bs_len];omega
  obtain ⟨S,hS⟩:∃S,34::((bs s).take j).flatMap escL=S:=⟨_,rfl⟩
  have hst:34::((bs s).take (j+1)).flatMap escL=S++escL x:=by
   rw [←hS,←take_snoc ex,List.flatMap_append]
   simp
  have hSl:S.length≤6*s.size+1:=by rw [←hS,zlc];omega
  rw [hS]
  have e:=escL_eq x
  obtain ⟨E,hE⟩:∃E,escL x=E:=⟨_,rfl⟩
  rw [hE] at hst e
  have f34:decide ((x.toNat:Int)=34)=decide (x.toNat=34):=decide_eq_decide.2 (by omega)
  have f92:decide ((x.toNat:Int)=92)=decide (x.toNat=92):=decide_eq_decide.2 (by omega)
  have f10:decide ((x.toNat:Int)=10)=decide (x.toNat=10):=decide_eq_decide.2 (by omega)
  have f13:decide ((x.toNat:Int)=13)=decide (x.toNat=13):=decide_eq_decide.2 (by omega)
  have f9:decide ((x.toNat:Int)=9)=decide (x.toNat=9):=decide_eq_decide.2 (by omega)
  by_cases c0:x.toNat=34∨x.toNat=92
  .rw [if_pos c0] at e
   subst e
   by_cases c1:x.toNat=34
   .rw [decide_eq_true c1] at f34
    simp (disch:=omega) only [ite_ne,d,eg,f34,go_sem,↓reduceIte,Za,Zb,Zc,Zd,Ze,reduceCtorEq,Zf,Zg,Zh,Zi,Zj,Zk]
    refine vcCall.r (wByte (k:=m) (g:=g) (l:=S) 92 (by (simp (disch:=omega) only [ite_ne,go_sem,↓reduceIte,Za,Zb,Zc,Zd,Ze,reduceCtorEq,Zf,Zg,Zh,Zi,Zj,Zk])) (by omega)) ?_
    rintro _ _ _ ⟨g2,rfl,rfl,rfl⟩
    simp (disch:=omega) only [ite_ne,go_sem,↓reduceIte,Za,Zb,Zc,Zd,Ze,reduceCtorEq,Zf,Zg,Zh,Zi,Zj,Zk]
    refine vcCall.r (wByte (k:=m) (g:=g2) (l:=S++[92]) x (by (simp (disch:=omega) only [ite_ne,go_sem,↓reduceIte,Za,Zb,Zc,Zd,Ze,reduceCtorEq,Zf,Zg,Zh,Zi,Zj,Zk])) (by rw [zld,zlc,zle];omega)) ?_
    rintro _ _ _ ⟨g3,rfl,rfl,rfl⟩
    simp (disch:=omega) only [ite_ne,go_sem,↓reduceIte,Za,Zb,Zc,Zd,Ze,reduceCtorEq,Zf,Zg,Zh,Zi,Zj,Zk]
    refine ⟨(j+1,g3,_),⟨by dsimp only;omega,by dsimp only;omega⟩,by dsimp only;omega,weak_ok ?_ (Sub.cons ?_ (Sub.base hf ?_)) (zna _)⟩
    all_goals
     simp (disch:=omega) only [ite_ne,wr64s j (by omega),hst,zlf,zlh,zli,go_sem,↓reduceIte,Za,Zb,Zc,Zd,Ze,reduceCtorEq,Zf,Zg,Zh,Zi,Zj,Zk]
   .have c2:x.toNat=92:=by omega
    rw [decide_eq_false c1] at f34
    rw [decide_eq_true c2] at f92
    simp (disch:=omega) only [ite_ne,d,eg,f34,f92,go_sem,↓reduceIte,Za,Zb,Zc,Zd,Ze,reduceCtorEq,Zf,Zg,Zh,Zi,Zj,Zk]
    refine vcCall.r (wByte (k:=m) (g:=g) (l:=S) 92 (by (simp (disch:=omega) only [ite_ne,go_sem,↓reduceIte,Za,Zb,Zc,Zd,Ze,reduceCtorEq,Zf,Zg,Zh,Zi,Zj,Zk])) (by omega)) ?_
    rintro _ _ _ ⟨g2,rfl,rfl,rfl⟩
    simp (disch:=omega) only [ite_ne,go_sem,↓reduceIte,Za,Zb,Zc,Zd,Ze,reduceCtorEq,Zf,Zg,Zh,Zi,Zj,Zk]
    refine vcCall.r (wByte (k:=m) (g:=g2) (l:=S++[92]) x (by (simp (disch:=omega) only [ite_ne,go_sem,↓reduceIte,Za,Zb,Zc,Zd,Ze,reduceCtorEq,Zf,Zg,Zh,Zi,Zj,Zk])) (by rw [zld,zlc,zle];omega)) ?_
    rintro _ _ _ ⟨g3,rfl,rfl,rfl⟩
    simp (disch:=omega) only [ite_ne,go_sem,↓reduceIte,Za,Zb,Zc,Zd,Ze,reduceCtorEq,Zf,Zg,Zh,Zi,Zj,Zk]
    refine ⟨(j+1,g3,_),⟨by dsimp only;omega,by dsimp only;omega⟩,by dsimp only;omega,weak_ok ?_ (Sub.cons ?_ (Sub.base hf ?_)) (zna _)⟩
    all_goals
     simp (disch:=omega) only [ite_ne,wr64s j (by omega),hst,zlf,zlh,zli,go_sem,↓reduceIte,Za,Zb,Zc,Zd,Ze,reduceCtorEq,Zf,Zg,Zh,Zi,Zj,Zk]
  rw [if_neg c0] at e
  have c1:¬x.toNat=34:=fun q=>c0 (.inl q)
  have c2:¬x.toNat=92:=fun q=>c0 (.inr q)
  rw [decide_eq_false c1] at f34
  rw [decide_eq_false c2] at f92
  by_cases c3:x.toNat=10
  .rw [if_pos c3] at e
   subst e
   rw [decide_eq_true c3] at f10
   simp (disch:=omega) only [ite_ne,d,eg,f34,f92,f10,go_sem,↓reduceIte,Za,Zb,Zc,Zd,Ze,reduceCtorEq,Zf,Zg,Zh,Zi,Zj,Zk]
   refine vcCall.r (wStr (k:=m) (g:=g) (l:=S) [92,110] (by (simp (disch:=omega) only [ite_ne,go_sem,↓reduceIte,Za,Zb,Zc,Zd,Ze,reduceCtorEq,Zf,Zg,Zh,Zi,Zj,Zk])) (by simp;omega)) ?_
   rintro _ _ _ ⟨g3,rfl,rfl,rfl⟩
   simp (disch:=omega) only [ite_ne,go_sem,↓reduceIte,Za,Zb,Zc,Zd,Ze,reduceCtorEq,Zf,Zg,Zh,Zi,Zj,Zk]
   refine ⟨(j+1,g3,_),⟨by dsimp only;omega,by dsimp only;omega⟩,by dsimp only;omega,weak_ok ?_ (Sub.cons ?_ (Sub.base hf ?_)) (zna _)⟩
   all_goals
    simp (disch:=omega) only [ite_ne,wr64s j (by omega),hst,zlf,zlh,zli,go_sem,↓reduceIte,Za,Zb,Zc,Zd,Ze,reduceCtorEq,Zf,Zg,Zh,Zi,Zj,Zk]
  rw [if_neg c3] at e
  rw [decide_eq_false c3] at f10
  by_cases c4:x.toNat=13
  .rw [if_pos c4] at e
   subst e
   rw [decide_eq_true c4] at f13
   simp (disch:=omega) only [ite_ne,d,eg,f34,f92,f10,f13,go_sem,↓reduceIte,Za,Zb,Zc,Zd,Ze,reduceCtorEq,Zf,Zg,Zh,Zi,Zj,Zk]
   refine vcCall.r (wStr (k:=m) (g:=g) (l:=S) [92,114] (by (simp (disch:=omega) only [ite_ne,go_sem,↓reduceIte,Za,Zb,Zc,Zd,Ze,reduceCtorEq,Zf,Zg,Zh,Zi,Zj,Zk])) (by simp;omega)) ?_
   rintro _ _ _ ⟨g3,rfl,rfl,rfl⟩
   simp (disch:=omega) only [ite_ne,go_sem,↓reduceIte,Za,Zb,Zc,Zd,Ze,reduceCtorEq,Zf,Zg,Zh,Zi,Zj,Zk]
   refine ⟨(j+1,g3,_),⟨by dsimp only;omega,by dsimp only;omega⟩,by dsimp only;omega,weak_ok ?_ (Sub.cons ?_ (Sub.base hf ?_)) (zna _)⟩
   all_goals
    simp (disch:=omega) only [ite_ne,wr64s j (by omega),hst,zlf,zlh,zli,go_sem,↓reduceIte,Za,Zb,Zc,Zd,Ze,reduceCtorEq,Zf,Zg,Zh,Zi,Zj,Zk]
  rw [if_neg c4] at e
  rw [decide_eq_false c4] at f13
  by_cases c5:x.toNat=9
  .rw [if_pos c5] at e
   subst e
   rw [decide_eq_true c5] at f9
   simp (disch:=omega) only [ite_ne,d,eg,f34,f92,f10,f13,f9,go_sem,↓reduceIte,Za,Zb,Zc,Zd,Ze,reduceCtorEq,Zf,Zg,Zh,Zi,Zj,Zk]
   refine vcCall.r (wStr (k:=m) (g:=g) (l:=S) [92,116] (by (simp (disch:=omega) only [ite_ne,go_sem,↓reduceIte,Za,Zb,Zc,Zd,Ze,reduceCtorEq,Zf,Zg,Zh,Zi,Zj,Zk])) (by simp;omega)) ?_
   rintro _ _ _ ⟨g3,rfl,rfl,rfl⟩
   simp (disch:=omega) only [ite_ne,go_sem,↓reduceIte,Za,Zb,Zc,Zd,Ze,reduceCtorEq,Zf,Zg,Zh,Zi,Zj,Zk]
   refine ⟨(j+1,g3,_),⟨by dsimp only;omega,by dsimp only;omega⟩,by dsimp only;omega,weak_ok ?_ (Sub.cons ?_ (Sub.base hf ?_)) (zna _)⟩
   all_goals
    simp (disch:=omega) only [ite_ne,wr64s j (by omega),hst,zlf,zlh,zli,go_sem,↓reduceIte,Za,Zb,Zc,Zd,Ze,reduceCtorEq,Zf,Zg,Zh,Zi,Zj,Zk]
  rw [if_neg c5] at e
  rw [decide_eq_false c5] at f9
  by_cases c6:32≤x.toNat∧x.toNat≤126
  .rw [if_pos c6] at e
   subst e
   have g1:decide ((32:Int)≤x.toNat)=true:=by simp;omega
   have g2:decide ((x.toNat:Int)≤126)=true:=by simp;omega
   simp (disch:=omega) only [ite_ne,d,eg,f34,f92,f10,f13,f9,g1,g2,go_sem,↓reduceIte,Za,Zb,Zc,Zd,Ze,reduceCtorEq,Zf,Zg,Zh,Zi,Zj,Zk]
   refine vcCall.r (wByte (k:=m) (g:=g) (l:=S) x (by (simp (disch:=omega) only [ite_ne,go_sem,↓reduceIte,Za,Zb,Zc,Zd,Ze,reduceCtorEq,Zf,Zg,Zh,Zi,Zj,Zk])) (by omega)) ?_
   rintro _ _ _ ⟨g3,rfl,rfl,rfl⟩
   simp (disch:=omega) only [ite_ne,go_sem,↓reduceIte,Za,Zb,Zc,Zd,Ze,reduceCtorEq,Zf,Zg,Zh,Zi,Zj,Zk]
   refine ⟨(j+1,g3,_),⟨by dsimp only;omega,by dsimp only;omega⟩,by dsimp only;omega,weak_ok ?_ (Sub.cons ?_ (Sub.base hf ?_)) (zna _)⟩
   all_goals
    simp (disch:=omega) only [ite_ne,wr64s j (by omega),hst,zlf,zlh,zli,go_sem,↓reduceIte,Za,Zb,Zc,Zd,Ze,reduceCtorEq,Zf,Zg,Zh,Zi,Zj,Zk]
  .rw [if_neg c6] at e
   subst e
   have g1:(decide ((32:Int)≤x.toNat)&&decide ((x.toNat:Int)≤126))=false:=by simp;omega
   have s1:=shr_at ⟨x.toNat,hx⟩
   have s2:=and_at ⟨x.toNat,hx⟩
   have s3:=hex_at ⟨x.toNat / 16,by omega⟩
   have s4:=hex_at ⟨x.toNat % 16,by omega⟩
   dsimp only at s1 s2 s3 s4
   simp (disch:=omega) only [ite_ne,d,eg,f34,f92,f10,f13,f9,g1,go_sem,↓reduceIte,Za,Zb,Zc,Zd,Ze,reduceCtorEq,Zf,Zg,Zh,Zi,Zj,Zk]
   refine vcCall.r (wStr (k:=m) (g:=g) (l:=S) [92,117,48,48] (by (simp (disch:=omega) only [ite_ne,go_sem,↓reduceIte,Za,Zb,Zc,Zd,Ze,reduceCtorEq,Zf,Zg,Zh,Zi,Zj,Zk])) (by simp;omega)) ?_
   rintro _ _ _ ⟨g2,rfl,rfl,rfl⟩
   simp (disch:=omega) only [ite_ne,s1,s2,s3,s4,go_sem,↓reduceIte,Za,Zb,Zc,Zd,Ze,reduceCtorEq,Zf,Zg,Zh,Zi,Zj,Zk]
   have z1:(#[48,49,50,51,52,53,54,55,56,57,97,98,99,100,101,102]:Array UInt8).size=16:=rfl
   refine ⟨by rw [z1];omega,vcCall.r (wByte (k:=m) (g:=g2) (l:=S++[92,117,48,48]) (hexd (x.toNat / 16)) (by (simp (disch:=omega) only [ite_ne,go_sem,↓reduceIte,Za,Zb,Zc,Zd,Ze,reduceCtorEq,Zf,Zg,Zh,Zi,Zj,Zk])) (by simp only [zld,zlc,zle];omega)) ?_⟩
   rintro _ _ _ ⟨g4,rfl,rfl,rfl⟩
   simp (disch:=omega) only [ite_ne,s2,s4,go_sem,↓reduceIte,Za,Zb,Zc,Zd,Ze,reduceCtorEq,Zf,Zg,Zh,Zi,Zj,Zk]
   refine ⟨by rw [z1];omega,vcCall.r (wByte (k:=m) (g:=g4) (l:=(S++[92,117,48,48])++[hexd (x.toNat / 16)]) (hexd (x.toNat % 16)) (by (simp (disch:=omega) only [ite_ne,go_sem,↓reduceIte,Za,Zb,Zc,Zd,Ze,reduceCtorEq,Zf,Zg,Zh,Zi,Zj,Zk])) (by simp only [zld,zlc,zle];omega)) ?_⟩
   rintro _ _ _ ⟨g3,rfl,rfl,rfl⟩
   simp (disch:=omega) only [ite_ne,go_sem,↓reduceIte,Za,Zb,Zc,Zd,Ze,reduceCtorEq,Zf,Zg,Zh,Zi,Zj,Zk]
   refine ⟨(j+1,g3,_),⟨by dsimp only;omega,by dsimp only;omega⟩,by dsimp only;omega,weak_ok ?_ (Sub.cons ?_ (Sub.base hf ?_)) (zna _)⟩
   all_goals
    simp (disch:=omega) only [ite_ne,wr64s j (by omega),hst,zlf,zlh,zli,go_sem,↓reduceIte,Za,Zb,Zc,Zd,Ze,reduceCtorEq,Zf,Zg,Zh,Zi,Zj,Zk]
 .have d:j=s.size:=by simp at d;omega
  subst d
  rw [List.take_of_length_le (by rw [size_bs];omega)]
  have k2:=flat_len (bs s)
  rw [bs_len] at k2
  simp (disch:=omega) only [ite_ne,go_sem,↓reduceIte,Za,Zb,Zc,Zd,Ze,reduceCtorEq,Zf,Zg,Zh,Zi,Zj,Zk]
  refine vcCall.r (wByte (k:=m) (g:=g) (l:=34::(bs s).flatMap escL) 34 (by (simp (disch:=omega) only [ite_ne,go_sem,↓reduceIte,Za,Zb,Zc,Zd,Ze,reduceCtorEq,Zf,Zg,Zh,Zi,Zj,Zk])) (by rw [zlc];omega)) ?_
  rintro _ _ _ ⟨g2,rfl,rfl,rfl⟩
  simp (disch:=omega) only [ite_ne,go_sem,↓reduceIte,Za,Zb,Zc,Zd,Ze,reduceCtorEq,Zf,Zg,Zh,Zi,Zj,Zk]
  refine vcCall.f (wRead (k:=m) (g:=g2) (l:=(34::(bs s).flatMap escL)++[34]) (by (simp (disch:=omega) only [ite_ne,go_sem,↓reduceIte,Za,Zb,Zc,Zd,Ze,reduceCtorEq,Zf,Zg,Zh,Zi,Zj,Zk])) (by simp)) ?_
  simp (disch:=omega) only [ite_ne,go_sem,↓reduceIte,Za,Zb,Zc,Zd,Ze,reduceCtorEq,Zf,Zg,Zh,Zi,Zj,Zk]
  rfl
theorem tabIs_at {P:Program} {w:World} {name:String} {gb:Nat} {k:IntKind} {zs:List Int} {t:TypeId} {fr:Nat × Nat} (hg:P.globalNamed name=some gb) (h:w.heap[gb]?=some (.cells (zs.map fun z=>Value.int k z).toArray t fr)):Lib.TabIs P w name k zs:=by
 unfold Lib.TabIs World.var?
 rw [hg]
 show (match w.heap[gb]? with
  | some (.cells cs _ _)=>some cs
  | _=>none)=_
 rw [h]
theorem itoa_ok (x:Int) (h0:-9223372036854775808≤x) (h1:x≤9223372036854775807) (hp:CH) (m:Nat):MeetsF Tryz.prog 159 hp m [.i .i64 x] (.s (ofL (Lib.itoa x))) :=
 meets_itoa Tryz.laysM171 rfl ⟨_,Tryz.func159,by kernel_rfl,by kernel_rfl⟩ (gb:=1) (fun w ⟨t,fr,h⟩ x h0 h1=>Any.strconv_Itoa Tryz.laysM171 x h0 h1 w (tabIs_at (by kernel_rfl) h)) (by simp [glTab]) h0 h1
theorem tDecimal_ok (x:Int) (h0:-9223372036854775808≤x) (h1:x≤9223372036854775807) (hp:CH) (m:Nat):MeetsF Tryz.prog 138 hp m [.i .i64 x] (.s (ofL (Lib.itoa x))):=by
 refine meetsF Tryz.func138 (by kernel_rfl) cc138 cr138 rfl fun hf=>?_;unfold ck138
 simp only [go_sem,↓reduceIte,Za,Zb,Zc,Zd,Ze,reduceCtorEq,Zf,Zg,Zh,Zi,Zj,Zk]
 refine vcCall.f (itoa_ok x h0 h1 _ _) ?_
 simp only [go_sem,↓reduceIte,Za,Zb,Zc,Zd,Ze,reduceCtorEq,Zf,Zg,Zh,Zi,Zj,Zk]
end Go.Proofs.YtinbodeocoeneaaGreatDoor
