/- Proof. Conditions: none. -/
import Derived.Test.YtinbodeocoeneaaGreatDoorIc21
open Nat renaming reduceEqDiff→Za,reduceBEq→Zb,reduceAdd→Zc,reduceLeDiff→Zd,reduceLT→Ze,reduceMul→Zf,reduceSub→Zg
open Int renaming reduceEq→Zh,reduceLT→Zi,reduceLE→Zj,reduceToNat→Zk
open List renaming mem_of_getElem?→zla,drop_length→zll
open Nat renaming le_refl→zna
namespace Go.Proofs.YtinbodeocoeneaaGreatDoor
open Go.Eng
set_option linter.all false
set_option maxRecDepth 20000
def chL (c:Int):Bool:=decide (65≤c)&&decide (c≤90)||decide (97≤c)&&decide (c≤122)||decide (c=95)
def chD (c:Int):Bool:=decide (48≤c)&&decide (c≤57)
def nmL (l:List UInt8):Bool:=l.all fun c=>chL c.toNat||chD c.toNat
theorem nmL_cons (x:UInt8) (l:List UInt8):nmL (x::l)=((chL x.toNat||chD x.toNat)&&nmL l):=rfl
def nmS (s:ByteArray):Bool:=decide (0<s.size)&&decide (s.size≤64)&&!chD ((bs s).getD 0 0).toNat&&nmL (bs s)
theorem letter_ok (c:Int) (hp:CH) (m:Nat):MeetsF Tryz.prog 188 hp m [.i .u8 c] (.b (chL c)):=by
 refine meetsF Tryz.func188 (by kernel_rfl) cc188 cr188 rfl fun hf=>?_;unfold ck188
 simp only [go_sem,↓reduceIte,Za,Zb,Zc,Zd,Ze,reduceCtorEq,Zf,Zg,Zh,Zi,Zj,Zk]
 rfl
theorem digit_ok (c:Int) (hp:CH) (m:Nat):MeetsF Tryz.prog 189 hp m [.i .u8 c] (.b (chD c)):=by
 refine meetsF Tryz.func189 (by kernel_rfl) cc189 cr189 rfl fun hf=>?_;unfold ck189
 simp only [go_sem,↓reduceIte,Za,Zb,Zc,Zd,Ze,reduceCtorEq,Zf,Zg,Zh,Zi,Zj,Zk]
 rfl
theorem size_bs (s:ByteArray):(bs s).length=s.size:=bs_len s
theorem size_zero {s:ByteArray} (h:¬s=⟨#[]⟩):0<s.size:=by
 rcases Nat.eq_zero_or_pos s.size with e | e
 .exact absurd (ByteArray.ext (Array.eq_empty_of_size_eq_zero e)) h
 .exact e
theorem Name_ok (s:ByteArray) (hp:CH) (m:Nat):MeetsF Tryz.prog 179 hp m [.s s] (.b (nmS s)):=by
 refine meetsF Tryz.func179 (by kernel_rfl) cc179 cr179 rfl fun hf=>?_;unfold ck179
 simp only [go_sem,↓reduceIte,Za,Zb,Zc,Zd,Ze,reduceCtorEq,Zf,Zg,Zh,Zi,Zj,Zk]
 refine ⟨fun h=>size_zero (by simp at h;exact h.1),fun h=>size_zero (by simp at h;exact h.1.1),cdK_of (fun c=>?_) (fun c=>?_)⟩
 .simp only [go_sem,↓reduceIte,Za,Zb,Zc,Zd,Ze,reduceCtorEq,Zf,Zg,Zh,Zi,Zj,Zk]
  simp only [Bool.or_eq_true,Bool.and_eq_true,decide_eq_true_eq] at c
  have:nmS s=false:=by
   rw [Bool.eq_false_iff]
   intro h
   simp only [nmS,chD,Bool.and_eq_true,Bool.not_eq_true',Bool.and_eq_false_iff,decide_eq_true_eq,decide_eq_false_iff_not] at h
   rcases c with (c | c) | c
   .subst c
    exact absurd h.1.1.1 (by decide)
   .omega
   .omega
  rw [this]
 simp only [Bool.or_eq_false_iff,decide_eq_false_iff_not] at c
 obtain ⟨⟨c1,c2⟩,c3⟩:=c
 have hz:=size_zero c1
 have e0:nmS s=nmL (bs s):=by
  rw [nmS,chD,c3]
  simp [hz]
  omega
 rw [e0]
 simp only [go_sem,↓reduceIte,Za,Zb,Zc,Zd,Ze,reduceCtorEq,Zf,Zg,Zh,Zi,Zj,Zk]
 refine loop (fun p:Nat × Nat=>⟨[(0,.s s),(23,.i .i64 s.size),(24,.i .i64 p.1)],hp,p.2⟩) (fun p=>p.1≤s.size∧nmL (bs s)=nmL ((bs s).drop p.1)) (fun p=>s.size - p.1) (0,m) ?_ ?_ (fun ⟨j,n⟩ hj=>?_)
 .exact ⟨by simp,rfl⟩
 .refine weak_ok ?_ (Sub.refl _) (zna _)
  simp only [go_sem,↓reduceIte,Za,Zb,Zc,Zd,Ze,reduceCtorEq,Zf,Zg,Zh,Zi,Zj,Zk]
 dsimp only at hj
 obtain ⟨hj1,hj2⟩:=hj
 simp only [go_sem,↓reduceIte,Za,Zb,Zc,Zd,Ze,reduceCtorEq,Zf,Zg,Zh,Zi,Zj,Zk]
 refine cdK_of (fun d=>?_) (fun d=>?_)
 .have d:j<s.size:=by simpa using d
  obtain ⟨x,ex⟩:∃x,(bs s)[j]?=some x:=⟨(bs s)[j]'(by rw [size_bs];exact d),by simp [size_bs,d]⟩
  have eg:(bs s).getD j 0=x:=by rw [List.getD,ex];rfl
  rw [drop_at ex,nmL_cons] at hj2
  simp only [d,eg,go_sem,↓reduceIte,Za,Zb,Zc,Zd,Ze,reduceCtorEq,Zf,Zg,Zh,Zi,Zj,Zk]
  refine cdK_of (fun q=>?_) (fun q=>?_)
  .simp only [go_sem,↓reduceIte,Za,Zb,Zc,Zd,Ze,reduceCtorEq,Zf,Zg,Zh,Zi,Zj,Zk]
   have q:(chL x.toNat||chD x.toNat)=false:=by
    rw [Bool.eq_false_iff]
    intro h
    revert q h
    simp only [chL,chD,Bool.or_eq_true,Bool.and_eq_true,decide_eq_true_eq,Bool.not_eq_true',Bool.or_eq_false_iff,Bool.and_eq_false_iff,decide_eq_false_iff_not]
    omega
   rw [hj2,q,Bool.false_and]
  .have q:(chL x.toNat||chD x.toNat)=true:=by
    rw [←Bool.not_eq_false]
    intro h
    revert q h
    simp only [chL,chD,Bool.or_eq_true,Bool.and_eq_true,decide_eq_true_eq,Bool.not_eq_true',Bool.or_eq_false_iff,Bool.and_eq_false_iff,decide_eq_false_iff_not,Bool.not_eq_false']
    omega
   rw [q,Bool.true_and] at hj2
   simp only [go_sem,↓reduceIte,Za,Zb,Zc,Zd,Ze,reduceCtorEq,Zf,Zg,Zh,Zi,Zj,Zk]
   refine ⟨(j+1,n),⟨by dsimp only;omega,hj2⟩,by dsimp only;omega,weak_ok ?_ (Sub.refl _) (zna _)⟩
   simp only [wr64s j (by omega),go_sem,↓reduceIte,Za,Zb,Zc,Zd,Ze,reduceCtorEq,Zf,Zg,Zh,Zi,Zj,Zk]
 .have d:j=s.size:=by simp at d;omega
  rw [d,←size_bs,zll] at hj2
  rw [hj2]
  simp only [go_sem,↓reduceIte,Za,Zb,Zc,Zd,Ze,reduceCtorEq,Zf,Zg,Zh,Zi,Zj,Zk]
  rfl
theorem nb1 (a b c:Bool) (h:(!a&&(c||!b))=true):(a||b&&!c)=false:=by cases a<;>cases b<;>cases c<;>simp_all
theorem nb3 (a b c:Bool) (h:¬(a=true∧b=true)):(true&&true&&!b&&((a||b)&&c))=((a||b&&!decide (0=0))&&c):=by cases a<;>cases b<;>cases c<;>simp_all
theorem nb2 (a b c:Bool) (h:(!a&&(c||!b))=false):(a||b&&!c)=true:=by cases a<;>cases b<;>cases c<;>simp_all
theorem Name2_ok (s:ByteArray) (hp:CH) (m:Nat):MeetsF Tryz.prog 174 hp m [.s s] (.b (nmS s)):=by
 refine meetsF Tryz.func174 (by kernel_rfl) cc174 cr174 rfl fun hf=>?_;unfold ck174
 simp only [go_sem,↓reduceIte,Za,Zb,Zc,Zd,Ze,reduceCtorEq,Zf,Zg,Zh,Zi,Zj,Zk]
 refine cdK_of (fun c=>?_) (fun c=>?_)
 .simp only [go_sem,↓reduceIte,Za,Zb,Zc,Zd,Ze,reduceCtorEq,Zf,Zg,Zh,Zi,Zj,Zk]
  simp only [Bool.or_eq_true,decide_eq_true_eq] at c
  have:nmS s=false:=by
   rw [Bool.eq_false_iff]
   intro h
   simp only [nmS,Bool.and_eq_true,decide_eq_true_eq] at h
   omega
  rw [this]
 simp only [Bool.or_eq_false_iff,decide_eq_false_iff_not] at c
 obtain ⟨c1,c2⟩:=c
 simp only [go_sem,↓reduceIte,Za,Zb,Zc,Zd,Ze,reduceCtorEq,Zf,Zg,Zh,Zi,Zj,Zk]
 refine loop (fun p:Nat × Nat=>⟨[(0,.s s),(3,.i .i64 p.1)],hp,p.2⟩) (fun p=>p.1≤s.size∧(0<p.1→nmS s=nmL ((bs s).drop p.1))) (fun p=>s.size - p.1) (0,m) ?_ ?_ (fun ⟨j,n⟩ hj=>?_)
 .exact ⟨by simp,fun h=>absurd h (by simp)⟩
 .refine weak_ok ?_ (Sub.refl _) (zna _)
  simp only [go_sem,↓reduceIte,Za,Zb,Zc,Zd,Ze,reduceCtorEq,Zf,Zg,Zh,Zi,Zj,Zk]
 dsimp only at hj
 obtain ⟨hj1,hj2⟩:=hj
 simp only [go_sem,↓reduceIte,Za,Zb,Zc,Zd,Ze,reduceCtorEq,Zf,Zg,Zh,Zi,Zj,Zk]
 refine cdK_of (fun d=>?_) (fun d=>?_)
 .have d:j<s.size:=by simpa using d
  obtain ⟨x,ex⟩:∃x,(bs s)[j]?=some x:=⟨(bs s)[j]'(by rw [size_bs];exact d),by simp [size_bs,d]⟩
  have eg:(bs s).getD j 0=x:=by rw [List.getD,ex];rfl
  have e2:nmS s=((chL x.toNat||chD x.toNat&&!decide (j=0))&&nmL ((bs s).drop (j+1))):=by
   rcases Nat.eq_zero_or_pos j with h0 | h0
   .subst h0
    rw [nmS,eg]
    have hb:=drop_at ex
    rw [List.drop_zero] at hb
    rw [hb,nmL_cons]
    have h64:s.size≤64:=by omega
    have hh:¬(chL x.toNat=true∧chD x.toNat=true):=by simp only [chL,chD,Bool.or_eq_true,Bool.and_eq_true,decide_eq_true_eq];omega
    rw [decide_eq_true d,decide_eq_true h64]
    exact nb3 _ _ _ hh
   .rw [hj2 h0,drop_at ex,nmL_cons]
    have:¬j=0:=by omega
    simp [this]
  simp only [d,eg,go_sem,↓reduceIte,Za,Zb,Zc,Zd,Ze,reduceCtorEq,Zf,Zg,Zh,Zi,Zj,Zk]
  refine vcCall.f (letter_ok _ _ _) ?_
  simp only [go_sem,↓reduceIte,Za,Zb,Zc,Zd,Ze,reduceCtorEq,Zf,Zg,Zh,Zi,Zj,Zk]
  refine ⟨fun _=>d,gCall.f (fun _=>digit_ok _ _ _) ?_⟩
  simp only [d,eg,go_sem,↓reduceIte,Za,Zb,Zc,Zd,Ze,reduceCtorEq,Zf,Zg,Zh,Zi,Zj,Zk]
  refine cdK_of (fun q=>?_) (fun q=>?_)
  .have q:(chL x.toNat||chD x.toNat&&!decide (j=0))=false:=by
    have e3:decide ((j:Int)=0)=decide (j=0):=by congr 1;simp
    rw [e3] at q
    exact nb1 _ _ _ q
   rw [e2,q,Bool.false_and]
   simp only [go_sem,↓reduceIte,Za,Zb,Zc,Zd,Ze,reduceCtorEq,Zf,Zg,Zh,Zi,Zj,Zk]
  .have q:(chL x.toNat||chD x.toNat&&!decide (j=0))=true:=by
    have e3:decide ((j:Int)=0)=decide (j=0):=by congr 1;simp
    rw [e3] at q
    exact nb2 _ _ _ q
   rw [q,Bool.true_and] at e2
   simp only [go_sem,↓reduceIte,Za,Zb,Zc,Zd,Ze,reduceCtorEq,Zf,Zg,Zh,Zi,Zj,Zk]
   refine ⟨(j+1,n),⟨by dsimp only;omega,fun _=>e2⟩,by dsimp only;omega,weak_ok ?_ (Sub.refl _) (zna _)⟩
   simp only [wr64s j (by omega),go_sem,↓reduceIte,Za,Zb,Zc,Zd,Ze,reduceCtorEq,Zf,Zg,Zh,Zi,Zj,Zk]
 .have d:j=s.size:=by simp at d;omega
  have hj2:=hj2 (by omega)
  rw [d,←size_bs,zll] at hj2
  rw [hj2]
  simp only [go_sem,↓reduceIte,Za,Zb,Zc,Zd,Ze,reduceCtorEq,Zf,Zg,Zh,Zi,Zj,Zk]
  rfl
def fidx {α:Type} (q:α→Bool):List α→Nat→Int
 | [],_=>-1
 | x::r,j=>if q x=true then j else fidx q r (j+1)
theorem fidx_any {α:Type} (q:α→Bool):∀(l:List α) (j:Nat),decide (0≤fidx q l j)=l.any q
 | [],j=>rfl
 | x::r,j=>by
  rw [fidx,List.any_cons]
  cases h:q x
  .rw [if_neg (by simp),fidx_any q r (j+1),Bool.false_or]
  .rw [if_pos rfl];simp
attribute [go_sem] st1
abbrev sx (s:ByteArray):AV:=.s s
theorem idxf_val (l:List Val) (q:Val→Bool) (k:FuncId) (caps:List AV) (hl:l.length≤9223372036854775806) (hp:CH) (m:Nat) (h:∀x∈l,∀n,MeetsF Tryz.prog k hp n (vx x::caps) (.b (q x))):MeetsF Tryz.prog 183 hp m [.ds (mapC valC l),.fn k caps] (.i .i64 (fidx q l 0)):=by
 refine meetsF Tryz.func183 (by kernel_rfl) cc183 cr183 rfl fun hf=>?_;unfold ck183
 simp only [go_sem,↓reduceIte,Za,Zb,Zc,Zd,Ze,reduceCtorEq,Zf,Zg,Zh,Zi,Zj,Zk]
 refine loop (fun p:Nat × Nat=>⟨[(0,.ds (mapC valC l)),(1,.fn k caps),(7,.i .i64 l.length),(8,.i .i64 p.1)],hp,p.2⟩) (fun p=>p.1≤l.length∧fidx q l 0=fidx q (l.drop p.1) p.1) (fun p=>l.length - p.1) (0,m) ?_ ?_ (fun ⟨j,n⟩ hj=>?_)
 .exact ⟨by simp,rfl⟩
 .refine weak_ok ?_ (Sub.refl _) (zna _)
  simp only [go_sem,↓reduceIte,Za,Zb,Zc,Zd,Ze,reduceCtorEq,Zf,Zg,Zh,Zi,Zj,Zk]
 dsimp only at hj
 obtain ⟨hj1,hj2⟩:=hj
 simp only [go_sem,↓reduceIte,Za,Zb,Zc,Zd,Ze,reduceCtorEq,Zf,Zg,Zh,Zi,Zj,Zk]
 refine cdK_of (fun c=>?_) (fun c=>?_)
 .have c:j<l.length:=by simpa using c
  obtain ⟨x,ex⟩:∃x,l[j]?=some x:=⟨l[j],by simp [c]⟩
  have hx:=h x (zla ex) n
  rw [drop_at ex,fidx] at hj2
  simp only [c,getK_s (mapC_get valC ex),go_sem,↓reduceIte,Za,Zb,Zc,Zd,Ze,reduceCtorEq,Zf,Zg,Zh,Zi,Zj,Zk]
  refine vcCall.f (hx) ?_
  simp only [go_sem,↓reduceIte,Za,Zb,Zc,Zd,Ze,reduceCtorEq,Zf,Zg,Zh,Zi,Zj,Zk]
  refine cdK_of (fun c1=>?_) (fun c1=>?_)
  .rw [if_pos c1] at hj2
   simp only [go_sem,↓reduceIte,Za,Zb,Zc,Zd,Ze,reduceCtorEq,Zf,Zg,Zh,Zi,Zj,Zk]
   rw [hj2]
  .rw [if_neg (by simp [c1])] at hj2
   simp only [go_sem,↓reduceIte,Za,Zb,Zc,Zd,Ze,reduceCtorEq,Zf,Zg,Zh,Zi,Zj,Zk]
   refine ⟨(j+1,n),⟨by dsimp only;omega,hj2⟩,by dsimp only;omega,weak_ok ?_ (Sub.refl _) (zna _)⟩
   simp only [wr64s j (by omega),go_sem,↓reduceIte,Za,Zb,Zc,Zd,Ze,reduceCtorEq,Zf,Zg,Zh,Zi,Zj,Zk]
 .have c:j=l.length:=by simp at c;omega
  subst c
  rw [zll,fidx] at hj2
  simp only [go_sem,↓reduceIte,Za,Zb,Zc,Zd,Ze,reduceCtorEq,Zf,Zg,Zh,Zi,Zj,Zk]
  rw [hj2]
theorem anyf_val (l:List Val) (q:Val→Bool) (k:FuncId) (caps:List AV) (hl:l.length≤9223372036854775806) (hp:CH) (m:Nat) (h:∀x∈l,∀n,MeetsF Tryz.prog k hp n (vx x::caps) (.b (q x))):MeetsF Tryz.prog 164 hp m [.ds (mapC valC l),.fn k caps] (.b (l.any q)):=by
 rw [←fidx_any q l 0]
 refine meetsF Tryz.func164 (by kernel_rfl) cc164 cr164 rfl fun hf=>?_;unfold ck164
 simp only [go_sem,↓reduceIte,Za,Zb,Zc,Zd,Ze,reduceCtorEq,Zf,Zg,Zh,Zi,Zj,Zk]
 refine vcCall.f (idxf_val l q k caps hl _ _ h) ?_
 simp only [go_sem,↓reduceIte,Za,Zb,Zc,Zd,Ze,reduceCtorEq,Zf,Zg,Zh,Zi,Zj,Zk]
theorem idxf_str (l:List ByteArray) (q:ByteArray→Bool) (k:FuncId) (caps:List AV) (hl:l.length≤9223372036854775806) (hp:CH) (m:Nat) (h:∀x∈l,∀n,MeetsF Tryz.prog k hp n (sx x::caps) (.b (q x))):MeetsF Tryz.prog 191 hp m [.ds (mapC st1 l),.fn k caps] (.i .i64 (fidx q l 0)):=by
 refine meetsF Tryz.func191 (by kernel_rfl) cc191 cr191 rfl fun hf=>?_;unfold ck191
 simp only [go_sem,↓reduceIte,Za,Zb,Zc,Zd,Ze,reduceCtorEq,Zf,Zg,Zh,Zi,Zj,Zk]
 refine loop (fun p:Nat × Nat=>⟨[(0,.ds (mapC st1 l)),(1,.fn k caps),(7,.i .i64 l.length),(8,.i .i64 p.1)],hp,p.2⟩) (fun p=>p.1≤l.length∧fidx q l 0=fidx q (l.drop p.1) p.1) (fun p=>l.length - p.1) (0,m) ?_ ?_ (fun ⟨j,n⟩ hj=>?_)
 .exact ⟨by simp,rfl⟩
 .refine weak_ok ?_ (Sub.refl _) (zna _)
  simp only [go_sem,↓reduceIte,Za,Zb,Zc,Zd,Ze,reduceCtorEq,Zf,Zg,Zh,Zi,Zj,Zk]
 dsimp only at hj
 obtain ⟨hj1,hj2⟩:=hj
 simp only [go_sem,↓reduceIte,Za,Zb,Zc,Zd,Ze,reduceCtorEq,Zf,Zg,Zh,Zi,Zj,Zk]
 refine cdK_of (fun c=>?_) (fun c=>?_)
 .have c:j<l.length:=by simpa using c
  obtain ⟨x,ex⟩:∃x,l[j]?=some x:=⟨l[j],by simp [c]⟩
  have hx:=h x (zla ex) n
  rw [drop_at ex,fidx] at hj2
  simp only [c,getK_s (mapC_get st1 ex),go_sem,↓reduceIte,Za,Zb,Zc,Zd,Ze,reduceCtorEq,Zf,Zg,Zh,Zi,Zj,Zk]
  refine vcCall.f (hx) ?_
  simp only [go_sem,↓reduceIte,Za,Zb,Zc,Zd,Ze,reduceCtorEq,Zf,Zg,Zh,Zi,Zj,Zk]
  refine cdK_of (fun c1=>?_) (fun c1=>?_)
  .rw [if_pos c1] at hj2
   simp only [go_sem,↓reduceIte,Za,Zb,Zc,Zd,Ze,reduceCtorEq,Zf,Zg,Zh,Zi,Zj,Zk]
   rw [hj2]
  .rw [if_neg (by simp [c1])] at hj2
   simp only [go_sem,↓reduceIte,Za,Zb,Zc,Zd,Ze,reduceCtorEq,Zf,Zg,Zh,Zi,Zj,Zk]
   refine ⟨(j+1,n),⟨by dsimp only;omega,hj2⟩,by dsimp only;omega,weak_ok ?_ (Sub.refl _) (zna _)⟩
   simp only [wr64s j (by omega),go_sem,↓reduceIte,Za,Zb,Zc,Zd,Ze,reduceCtorEq,Zf,Zg,Zh,Zi,Zj,Zk]
 .have c:j=l.length:=by simp at c;omega
  subst c
  rw [zll,fidx] at hj2
  simp only [go_sem,↓reduceIte,Za,Zb,Zc,Zd,Ze,reduceCtorEq,Zf,Zg,Zh,Zi,Zj,Zk]
  rw [hj2]
theorem anyf_str (l:List ByteArray) (q:ByteArray→Bool) (k:FuncId) (caps:List AV) (hl:l.length≤9223372036854775806) (hp:CH) (m:Nat) (h:∀x∈l,∀n,MeetsF Tryz.prog k hp n (sx x::caps) (.b (q x))):MeetsF Tryz.prog 180 hp m [.ds (mapC st1 l),.fn k caps] (.b (l.any q)):=by
 rw [←fidx_any q l 0]
 refine meetsF Tryz.func180 (by kernel_rfl) cc180 cr180 rfl fun hf=>?_;unfold ck180
 simp only [go_sem,↓reduceIte,Za,Zb,Zc,Zd,Ze,reduceCtorEq,Zf,Zg,Zh,Zi,Zj,Zk]
 refine vcCall.f (idxf_str l q k caps hl _ _ h) ?_
 simp only [go_sem,↓reduceIte,Za,Zb,Zc,Zd,Ze,reduceCtorEq,Zf,Zg,Zh,Zi,Zj,Zk]
def tbC (l:List ByteArray):List (ByteArray × AV):=l.map fun s=>(s,.b true)
theorem tb_t (b:ByteArray):∀l:List ByteArray,b∈l→mfind b (tbC l)=some (.b true)
 | x::l,hm=>by
  have ih:=tb_t b l
  rw [tbC] at ih
  rw [tbC,List.map_cons,mfind]
  by_cases h:b=x
  .rw [if_pos h]
  .rw [if_neg h]
   exact ih (by simpa [h] using hm)
theorem tb_f (b:ByteArray):∀l:List ByteArray,b ∉ l→mfind b (tbC l)=none
 | [],_=>rfl
 | x::l,hm=>by
  have ih:=tb_f b l fun h=>hm (by simp [h])
  have h:¬b=x:=fun e=>hm (by simp [e])
  rw [tbC] at ih
  rw [tbC,List.map_cons,mfind,if_neg h]
  exact ih
theorem tb_put (b:ByteArray):∀l:List ByteArray,b ∉ l→mput b (.b true) (tbC l)=tbC (l++[b])
 | [],_=>rfl
 | x::l,h=>by
  have h1:¬b=x:=fun e=>h (by simp [e])
  have ih:=tb_put b l fun hm=>h (by simp [hm])
  rw [tbC,List.map_cons,mput,if_neg h1]
  rw [tbC] at ih
  rw [ih]
  rfl
noncomputable def tw (l:List ByteArray):Bool:=!decide l.Nodup
theorem nodup_snoc {l:List ByteArray} {x:ByteArray} (h:l.Nodup) (hx:x ∉ l):(l++[x]).Nodup:=by
 rw [List.nodup_append]
 exact ⟨h,by simp,fun a ha b hb e=>by simp at hb;subst hb;subst e;exact hx ha⟩
theorem tw_at {l:List ByteArray} {j:Nat} {x:ByteArray} (ex:l[j]?=some x) (h:x∈l.take j):tw l=true:=by
 simp only [tw,Bool.not_eq_true',decide_eq_false_iff_not]
 intro hn
 have e:l=l.take j++x::l.drop (j+1):=by rw [←drop_at ex,List.take_append_drop]
 rw [e,List.nodup_append] at hn
 exact hn.2.2 x h x (by simp) rfl
theorem twice_ok (l:List ByteArray) (hl:l.length≤9223372036854775806) (hp:CH) (m:Nat):MeetsF Tryz.prog 182 hp m [.ds (stC l)] (.b (tw l)):=by
 refine meetsF Tryz.func182 (by kernel_rfl) cc182 cr182 rfl fun hf=>?_;unfold ck182
 simp only [go_sem,↓reduceIte,Za,Zb,Zc,Zd,Ze,reduceCtorEq,Zf,Zg,Zh,Zi,Zj,Zk]
 refine loop (fun p:Nat × Nat=>⟨[(3,.mp m),(7,.ds (stC l)),(8,.i .i64 l.length),(9,.i .i64 p.1)],(m,.mp (tbC (l.take p.1)))::hp,p.2⟩) (fun p=>p.1≤l.length∧m+1≤p.2∧(l.take p.1).Nodup) (fun p=>l.length - p.1) (0,m+1) ?_ ?_ (fun ⟨j,n⟩ hj=>?_)
 .exact ⟨by simp,by simp,by simp⟩
 .refine weak_ok ?_ (Sub.cons ?_ (Sub.base hf ?_)) (zna _)
  all_goals simp only [go_sem,↓reduceIte,Za,Zb,Zc,Zd,Ze,reduceCtorEq,Zf,Zg,Zh,Zi,Zj,Zk]
  all_goals rfl
 dsimp only at hj
 obtain ⟨hj1,hj2,hj3⟩:=hj
 simp only [go_sem,↓reduceIte,Za,Zb,Zc,Zd,Ze,reduceCtorEq,Zf,Zg,Zh,Zi,Zj,Zk]
 refine cdK_of (fun c=>?_) (fun c=>?_)
 .have c:j<l.length:=by simpa using c
  obtain ⟨x,ex⟩:∃x,l[j]?=some x:=⟨l[j],by simp [c]⟩
  by_cases hx:x∈l.take j
  .have:=tw_at ex hx
   rw [this]
   simp only [c,getK_s (mapC_get st1 ex),tb_t x _ hx,go_sem,↓reduceIte,Za,Zb,Zc,Zd,Ze,reduceCtorEq,Zf,Zg,Zh,Zi,Zj,Zk]
  .have hb:=tb_put x _ hx
   rw [take_snoc ex] at hb
   simp only [c,getK_s (mapC_get st1 ex),tb_f x _ hx,hb,go_sem,↓reduceIte,Za,Zb,Zc,Zd,Ze,reduceCtorEq,Zf,Zg,Zh,Zi,Zj,Zk]
   refine ⟨(j+1,_),⟨by dsimp only;omega,by dsimp only;omega,by dsimp only;rw [←take_snoc ex];exact nodup_snoc hj3 hx⟩,by dsimp only;omega,weak_ok ?_ (Sub.cons ?_ (Sub.base hf ?_)) (zna _)⟩
   all_goals
    simp only [wr64s j (by omega),go_sem,↓reduceIte,Za,Zb,Zc,Zd,Ze,reduceCtorEq,Zf,Zg,Zh,Zi,Zj,Zk]
 .have c:j=l.length:=by simp at c;omega
  subst c
  rw [List.take_length] at hj3
  have:tw l=false:=by simp [tw,hj3]
  rw [this]
  simp only [go_sem,↓reduceIte,Za,Zb,Zc,Zd,Ze,reduceCtorEq,Zf,Zg,Zh,Zi,Zj,Zk]
theorem twice2_ok (l:List ByteArray) (hl:l.length≤9223372036854775806) (hp:CH) (m:Nat):MeetsF Tryz.prog 187 hp m [.ds (stC l)] (.b (tw l)):=by
 refine meetsF Tryz.func187 (by kernel_rfl) cc187 cr187 rfl fun hf=>?_;unfold ck187
 simp only [go_sem,↓reduceIte,Za,Zb,Zc,Zd,Ze,reduceCtorEq,Zf,Zg,Zh,Zi,Zj,Zk]
 refine loop (fun p:Nat × Nat=>⟨[(0,.ds (stC l)),(3,.i .i64 p.1)],hp,p.2⟩) (fun p=>p.1≤l.length∧m≤p.2∧(l.take p.1).Nodup) (fun p=>l.length - p.1) (0,m) ?_ ?_ (fun ⟨j,n⟩ hj=>?_)
 .exact ⟨by simp,by simp,by simp⟩
 .refine weak_ok ?_ (Sub.refl _) (zna _)
  simp only [go_sem,↓reduceIte,Za,Zb,Zc,Zd,Ze,reduceCtorEq,Zf,Zg,Zh,Zi,Zj,Zk]
 dsimp only at hj
 obtain ⟨hj1,hj2,hj3⟩:=hj
 simp only [go_sem,↓reduceIte,Za,Zb,Zc,Zd,Ze,reduceCtorEq,Zf,Zg,Zh,Zi,Zj,Zk]
 refine cdK_of (fun c=>?_) (fun c=>?_)
 .have c:j<l.length:=by simpa using c
  obtain ⟨x,ex⟩:∃x,l[j]?=some x:=⟨l[j],by simp [c]⟩
  simp only [go_sem,↓reduceIte,Za,Zb,Zc,Zd,Ze,reduceCtorEq,Zf,Zg,Zh,Zi,Zj,Zk]
  refine loop (fun p:Nat × Nat=>⟨[(0,.ds (stC l)),(3,.i .i64 j),(4,.i .i64 p.1)],hp,p.2⟩) (fun p=>p.1≤j∧m≤p.2∧x ∉ l.take p.1) (fun p=>j - p.1) (0,n) ?_ ?_ (fun ⟨i,n2⟩ hi=>?_)
  .exact ⟨by simp,hj2,by simp⟩
  .refine weak_ok ?_ (Sub.refl _) (zna _)
   simp only [go_sem,↓reduceIte,Za,Zb,Zc,Zd,Ze,reduceCtorEq,Zf,Zg,Zh,Zi,Zj,Zk]
  dsimp only at hi
  obtain ⟨hi1,hi2,hi3⟩:=hi
  simp only [go_sem,↓reduceIte,Za,Zb,Zc,Zd,Ze,reduceCtorEq,Zf,Zg,Zh,Zi,Zj,Zk]
  refine cdK_of (fun d=>?_) (fun d=>?_)
  .have d:i<j:=by simpa using d
   obtain ⟨y,ey⟩:∃y,l[i]?=some y:=⟨l[i],by simp⟩
   have hil:i<l.length:=by omega
   simp only [c,d,hil,getK_s (mapC_get st1 ex),getK_s (mapC_get st1 ey),go_sem,↓reduceIte,Za,Zb,Zc,Zd,Ze,reduceCtorEq,Zf,Zg,Zh,Zi,Zj,Zk]
   refine cdK_of (fun q=>?_) (fun q=>?_)
   .have q:x=y:=by simpa using q
    subst q
    have:=tw_at ex (zla (i:=i) (by rw [List.getElem?_take,if_pos d];exact ey))
    rw [this]
    simp only [go_sem,↓reduceIte,Za,Zb,Zc,Zd,Ze,reduceCtorEq,Zf,Zg,Zh,Zi,Zj,Zk]
   .have q:¬x=y:=by simpa using q
    simp only [go_sem,↓reduceIte,Za,Zb,Zc,Zd,Ze,reduceCtorEq,Zf,Zg,Zh,Zi,Zj,Zk]
    refine ⟨(i+1,_),⟨by dsimp only;omega,by dsimp only;omega,?_⟩,by dsimp only;omega,weak_ok ?_ (Sub.refl _) (zna _)⟩
    .dsimp only
     rw [←take_snoc ey]
     simp [hi3,q]
    .simp only [wr64s i (by omega),go_sem,↓reduceIte,Za,Zb,Zc,Zd,Ze,reduceCtorEq,Zf,Zg,Zh,Zi,Zj,Zk]
  .have d:i=j:=by simp at d;omega
   subst d
   simp only [go_sem,↓reduceIte,Za,Zb,Zc,Zd,Ze,reduceCtorEq,Zf,Zg,Zh,Zi,Zj,Zk]
   refine ⟨(i+1,n2),⟨by dsimp only;omega,by dsimp only;omega,by dsimp only;rw [←take_snoc ex];exact nodup_snoc hj3 hi3⟩,by dsimp only;omega,weak_ok ?_ (Sub.refl _) (zna _)⟩
   simp only [wr64s i (by omega),go_sem,↓reduceIte,Za,Zb,Zc,Zd,Ze,reduceCtorEq,Zf,Zg,Zh,Zi,Zj,Zk]
 .have c:j=l.length:=by simp at c;omega
  subst c
  rw [List.take_length] at hj3
  have:tw l=false:=by simp [tw,hj3]
  rw [this]
  simp only [go_sem,↓reduceIte,Za,Zb,Zc,Zd,Ze,reduceCtorEq,Zf,Zg,Zh,Zi,Zj,Zk]
end Go.Proofs.YtinbodeocoeneaaGreatDoor
