/- Proof. Conditions: none. -/
import Derived.Test.YtinbodeocoeneaaGreatDoorIs35
open Nat renaming reduceEqDiff→Za,reduceBEq→Zb,reduceAdd→Zc,reduceLeDiff→Zd,reduceLT→Ze,reduceMul→Zf,reduceSub→Zg
open Int renaming reduceEq→Zh,reduceLT→Zi,reduceLE→Zj,reduceToNat→Zk
open List renaming drop_length→zll
open Nat renaming le_refl→zna
namespace Go.Proofs.YtinbodeocoeneaaGreatDoor
open Go.Eng
set_option linter.all false
set_option maxRecDepth 20000
def zDf:Dfn:=.mk 0 ⟨#[]⟩ [] [] [] [] []
noncomputable def resD (o:Option Dfn):AV:=.tp [dfx (o.getD zDf),.b o.isSome]
theorem find_cons (t:Dfn) (l:List Dfn) (n:ByteArray):findD' (t::l) n=if t.n=n then some t else findD' l n:=by
 unfold findD'
 rw [List.find?_cons]
 by_cases c:t.n=n
 .simp [c]
 .simp [c]
theorem tFind_ok (l:List Dfn) (hl:l.length≤1000000000000) (n:ByteArray) (hp:CH) (m:Nat):MeetsF Tryz.prog 94 hp m [docx l,.s n] (resD (findD' l n)):=by
 obtain ⟨R,hR⟩:∃R,findD' l n=R:=⟨_,rfl⟩
 rw [hR,resD]
 refine meetsF Tryz.func94 (by kernel_rfl) cc94 cr94 rfl fun hf=>?_;unfold ck94
 simp only [go_sem,↓reduceIte,Za,Zb,Zc,Zd,Ze,reduceCtorEq,Zf,Zg,Zh,Zi,Zj,Zk]
 refine loop (fun p:Nat × Nat=>⟨[(1,.s n),(4,.bx (m+1) 0),(9,.ds (mapC dfC l)),(10,.i .i64 l.length),(11,.i .i64 p.1)],(m+1,.bx [.i .i64 0,.s ⟨#[]⟩,.e0,.e0,.e0,.e0,.e0])::hp,p.2⟩)
  (fun p=>p.1≤l.length∧m+2≤p.2∧R=findD' (l.drop p.1) n) (fun p=>l.length - p.1) (0,m+2) ?_ ?_ (fun ⟨j,k⟩ hj=>?_)
 .exact ⟨by simp,by simp,hR.symm⟩
 .refine weak_ok ?_ (Sub.cons ?_ (Sub.base hf ?_)) (zna _)
  all_goals (simp (disch:=omega) only [ite_ne,go_sem,↓reduceIte,Za,Zb,Zc,Zd,Ze,reduceCtorEq,Zf,Zg,Zh,Zi,Zj,Zk])
 dsimp only at hj
 obtain ⟨hj1,hj2,hj3⟩:=hj
 simp (disch:=omega) only [ite_ne,go_sem,↓reduceIte,Za,Zb,Zc,Zd,Ze,reduceCtorEq,Zf,Zg,Zh,Zi,Zj,Zk]
 refine cdK_of (fun q=>?_) (fun q=>?_)
 .have q:j<l.length:=by simpa using q
  obtain ⟨t,et⟩:∃t,l[j]?=some t:=⟨l[j],by simp [q]⟩
  rw [drop_at et,find_cons] at hj3
  have hmk:m≤k:=by omega
  simp (disch:=omega) only [ite_ne,q,getK_s (mapC_get dfC et),go_sem,↓reduceIte,Za,Zb,Zc,Zd,Ze,reduceCtorEq,Zf,Zg,Zh,Zi,Zj,Zk]
  refine cdK_of (fun c=>?_) (fun c=>?_)
  .have c:t.n=n:=by simpa using c
   rw [if_pos c] at hj3
   subst hj3
   simp (disch:=omega) only [ite_ne,hmk,go_sem,↓reduceIte,Za,Zb,Zc,Zd,Ze,reduceCtorEq,Zf,Zg,Zh,Zi,Zj,Zk]
  .have c:¬t.n=n:=by simpa using c
   rw [if_neg c] at hj3
   simp (disch:=omega) only [ite_ne,go_sem,↓reduceIte,Za,Zb,Zc,Zd,Ze,reduceCtorEq,Zf,Zg,Zh,Zi,Zj,Zk]
   refine ⟨(j+1,_),⟨by dsimp only;omega,by dsimp only;omega,hj3⟩,by dsimp only;omega,weak_ok ?_ (Sub.cons ?_ (Sub.base hf ?_)) (zna _)⟩
   all_goals
    simp (disch:=omega) only [ite_ne,wr64s j (by omega),hmk,go_sem,↓reduceIte,Za,Zb,Zc,Zd,Ze,reduceCtorEq,Zf,Zg,Zh,Zi,Zj,Zk]
 .have q:j=l.length:=by simp at q;omega
  subst q
  rw [zll] at hj3
  have hj3:R=none:=hj3
  subst hj3
  simp (disch:=omega) only [ite_ne,go_sem,↓reduceIte,Za,Zb,Zc,Zd,Ze,reduceCtorEq,Zf,Zg,Zh,Zi,Zj,Zk]
  rfl
theorem rFind_ok' (l:List Dfn) (hl:l.length≤1000000000000) (n:ByteArray) (hp:CH) (m:Nat):MeetsF Tryz.prog 111 hp m [docx l,.s n] (resD (findD' l n)):=by
 obtain ⟨R,hR⟩:∃R,findD' l n=R:=⟨_,rfl⟩
 rw [hR,resD]
 refine meetsF Tryz.func111 (by kernel_rfl) cc111 cr111 rfl fun hf=>?_;unfold ck111
 simp only [go_sem,↓reduceIte,Za,Zb,Zc,Zd,Ze,reduceCtorEq,Zf,Zg,Zh,Zi,Zj,Zk]
 refine loop (fun p:Nat × Nat=>⟨[(1,.s n),(2,.bx m 0),(4,.bx (m+1) 0),(6,.i .i64 p.1)],(m,.bx [.ds (mapC dfC l)])::(m+1,.bx [.i .i64 0,.s ⟨#[]⟩,.e0,.e0,.e0,.e0,.e0])::hp,p.2⟩)
  (fun p=>p.1≤l.length∧m+2≤p.2∧R=findD' (l.drop p.1) n) (fun p=>l.length - p.1) (0,m+2) ?_ ?_ (fun ⟨j,k⟩ hj=>?_)
 .exact ⟨by simp,by simp,hR.symm⟩
 .refine weak_ok ?_ (Sub.cons ?_ (Sub.cons ?_ (Sub.base hf ?_))) (zna _)
  all_goals (simp (disch:=omega) only [ite_ne,go_sem,↓reduceIte,Za,Zb,Zc,Zd,Ze,reduceCtorEq,Zf,Zg,Zh,Zi,Zj,Zk])
 dsimp only at hj
 obtain ⟨hj1,hj2,hj3⟩:=hj
 simp (disch:=omega) only [ite_ne,go_sem,↓reduceIte,Za,Zb,Zc,Zd,Ze,reduceCtorEq,Zf,Zg,Zh,Zi,Zj,Zk]
 refine cdK_of (fun q=>?_) (fun q=>?_)
 .have q:j<l.length:=by simpa using q
  obtain ⟨t,et⟩:∃t,l[j]?=some t:=⟨l[j],by simp [q]⟩
  rw [drop_at et,find_cons] at hj3
  have hmk:m≤k:=by omega
  simp (disch:=omega) only [ite_ne,q,getK_s (mapC_get dfC et),go_sem,↓reduceIte,Za,Zb,Zc,Zd,Ze,reduceCtorEq,Zf,Zg,Zh,Zi,Zj,Zk]
  refine cdK_of (fun c=>?_) (fun c=>?_)
  .have c:t.n=n:=by simpa using c
   rw [if_pos c] at hj3
   subst hj3
   simp (disch:=omega) only [ite_ne,hmk,q,getK_s (mapC_get dfC et),go_sem,↓reduceIte,Za,Zb,Zc,Zd,Ze,reduceCtorEq,Zf,Zg,Zh,Zi,Zj,Zk]
  .have c:¬t.n=n:=by simpa using c
   rw [if_neg c] at hj3
   simp (disch:=omega) only [ite_ne,go_sem,↓reduceIte,Za,Zb,Zc,Zd,Ze,reduceCtorEq,Zf,Zg,Zh,Zi,Zj,Zk]
   refine ⟨(j+1,_),⟨by dsimp only;omega,by dsimp only;omega,hj3⟩,by dsimp only;omega,weak_ok ?_ (Sub.cons ?_ (Sub.cons ?_ (Sub.base hf ?_))) (zna _)⟩
   all_goals
    simp (disch:=omega) only [ite_ne,wr64s j (by omega),hmk,go_sem,↓reduceIte,Za,Zb,Zc,Zd,Ze,reduceCtorEq,Zf,Zg,Zh,Zi,Zj,Zk]
 .have q:j=l.length:=by simp at q;omega
  subst q
  rw [zll] at hj3
  have hj3:R=none:=hj3
  subst hj3
  simp (disch:=omega) only [ite_ne,go_sem,↓reduceIte,Za,Zb,Zc,Zd,Ze,reduceCtorEq,Zf,Zg,Zh,Zi,Zj,Zk]
  rfl
theorem tScalar_ok (n:ByteArray) (hp:CH) (m:Nat):MeetsF Tryz.prog 167 hp m [.s n] (.b (scalB n)):=by
 unfold scalB
 refine meetsF Tryz.func167 (by kernel_rfl) cc167 cr167 rfl fun hf=>?_;unfold ck167
 simp only [Bool.or_assoc,go_sem,↓reduceIte,Za,Zb,Zc,Zd,Ze,reduceCtorEq,Zf,Zg,Zh,Zi,Zj,Zk]
theorem rScalar_ok (n:ByteArray) (hp:CH) (m:Nat):MeetsF Tryz.prog 168 hp m [.s n] (.b (scalB n)):=by
 unfold scalB
 refine meetsF Tryz.func168 (by kernel_rfl) cc168 cr168 rfl fun hf=>?_;unfold ck168
 simp only [Bool.or_assoc,go_sem,↓reduceIte,Za,Zb,Zc,Zd,Ze,reduceCtorEq,Zf,Zg,Zh,Zi,Zj,Zk]
theorem kind_ok (l:List Dfn) (hl:l.length≤1000000000000) (n:ByteArray) (hp:CH) (m:Nat):MeetsF Tryz.prog 166 hp m [docx l,.s n] (.i .i64 (kindD l n)):=by
 have h1:=tFind_ok l hl n
 have e:kindD l n=((findD' l n).getD zDf).k:=by
  unfold kindD
  cases findD' l n<;>rfl
 rw [e]
 obtain ⟨R,hR⟩:∃R,findD' l n=R:=⟨_,rfl⟩
 rw [hR] at h1 ⊢
 rw [resD] at h1
 refine meetsF Tryz.func166 (by kernel_rfl) cc166 cr166 rfl fun hf=>?_;unfold ck166
 simp only [go_sem,↓reduceIte,Za,Zb,Zc,Zd,Ze,reduceCtorEq,Zf,Zg,Zh,Zi,Zj,Zk]
 refine vcCall.f (h1 _ _) ?_
 simp only [go_sem,↓reduceIte,Za,Zb,Zc,Zd,Ze,reduceCtorEq,Zf,Zg,Zh,Zi,Zj,Zk]
theorem tComposite_ok (l:List Dfn) (hl:l.length≤1000000000000) (n:ByteArray) (hp:CH) (m:Nat):MeetsF Tryz.prog 149 hp m [docx l,.s n] (.b (compB l n)):=by
 unfold compB
 refine meetsF Tryz.func149 (by kernel_rfl) cc149 cr149 rfl fun hf=>?_;unfold ck149
 simp only [go_sem,↓reduceIte,Za,Zb,Zc,Zd,Ze,reduceCtorEq,Zf,Zg,Zh,Zi,Zj,Zk]
 refine vcCall.f (kind_ok l hl n _ _) ?_
 simp only [go_sem,↓reduceIte,Za,Zb,Zc,Zd,Ze,reduceCtorEq,Zf,Zg,Zh,Zi,Zj,Zk]
 refine vcCall.f (tScalar_ok n _ _) ?_
 simp only [Bool.or_assoc,go_sem,↓reduceIte,Za,Zb,Zc,Zd,Ze,reduceCtorEq,Zf,Zg,Zh,Zi,Zj,Zk]
theorem rComposite_ok (l:List Dfn) (hl:l.length≤1000000000000) (n:ByteArray) (hp:CH) (m:Nat):MeetsF Tryz.prog 150 hp m [docx l,.s n] (.b (compB l n)):=by
 have h1:=rFind_ok' l hl n
 have e:compB l n=(!scalB n&&(findD' l n).isSome&&(decide (((findD' l n).getD zDf).k=1)||(decide (((findD' l n).getD zDf).k=2)||decide (((findD' l n).getD zDf).k=3)))):=by
  unfold compB kindD
  cases findD' l n<;>simp
 rw [e]
 obtain ⟨R,hR⟩:∃R,findD' l n=R:=⟨_,rfl⟩
 rw [hR] at h1 ⊢
 rw [resD] at h1
 refine meetsF Tryz.func150 (by kernel_rfl) cc150 cr150 rfl fun hf=>?_;unfold ck150
 simp only [go_sem,↓reduceIte,Za,Zb,Zc,Zd,Ze,reduceCtorEq,Zf,Zg,Zh,Zi,Zj,Zk]
 refine vcCall.f (h1 _ _) ?_
 simp only [go_sem,↓reduceIte,Za,Zb,Zc,Zd,Ze,reduceCtorEq,Zf,Zg,Zh,Zi,Zj,Zk]
 refine vcCall.f (rScalar_ok n _ _) ?_
 simp only [Bool.or_assoc,go_sem,↓reduceIte,Za,Zb,Zc,Zd,Ze,reduceCtorEq,Zf,Zg,Zh,Zi,Zj,Zk]
def rootS (k:Int):ByteArray:=if k=1 then ⟨#[81,117,101,114,121]⟩ else if k=2 then ⟨#[77,117,116,97,116,105,111,110]⟩ else if k=3 then ⟨#[83,117,98,115,99,114,105,112,116,105,111,110]⟩ else ⟨#[]⟩
theorem tRoot_ok (k:Int) (hp:CH) (m:Nat):MeetsF Tryz.prog 49 hp m [.i .i64 k] (.s (rootS k)):=by
 refine meetsF Tryz.func49 (by kernel_rfl) cc49 cr49 rfl fun hf=>?_;unfold ck49
 simp only [go_sem,↓reduceIte,Za,Zb,Zc,Zd,Ze,reduceCtorEq,Zf,Zg,Zh,Zi,Zj,Zk]
 repeat' (first
  | ((with_reducible refine cdK_of (fun _=>?_) (fun _=>?_))<;>(try simp only [go_sem,↓reduceIte,Za,Zb,Zc,Zd,Ze,reduceCtorEq,Zf,Zg,Zh,Zi,Zj,Zk]))
  | ((with_reducible refine grK_of (fun _=>?_) (fun _=>?_))<;>(try simp only [go_sem,↓reduceIte,Za,Zb,Zc,Zd,Ze,reduceCtorEq,Zf,Zg,Zh,Zi,Zj,Zk]))
  | ((with_reducible refine gCall.s (vcIf_of (fun _=>?_) (fun _=>?_)))<;>(try simp only [go_sem,↓reduceIte,Za,Zb,Zc,Zd,Ze,reduceCtorEq,Zf,Zg,Zh,Zi,Zj,Zk]))
  | ((with_reducible refine getK.m ?_ (fun _ _=>?_));rotate_left;try simp only [go_sem,↓reduceIte,Za,Zb,Zc,Zd,Ze,reduceCtorEq,Zf,Zg,Zh,Zi,Zj,Zk])
  | exact mapC_all (fun _=>rfl)
  | exact mapC_alln (fun _=>⟨rfl,rfl⟩)
  | with_reducible refine And.intro ?_ ?_)
 all_goals clear hf
 all_goals grind [rootS]
theorem rRoot_ok' (k:Int) (hp:CH) (m:Nat):MeetsF Tryz.prog 60 hp m [.i .i64 k] (.s (rootS k)):=by
 refine meetsF Tryz.func60 (by kernel_rfl) cc60 cr60 rfl fun hf=>?_;unfold ck60
 simp only [go_sem,↓reduceIte,Za,Zb,Zc,Zd,Ze,reduceCtorEq,Zf,Zg,Zh,Zi,Zj,Zk]
 repeat' (first
  | ((with_reducible refine cdK_of (fun _=>?_) (fun _=>?_))<;>(try simp only [go_sem,↓reduceIte,Za,Zb,Zc,Zd,Ze,reduceCtorEq,Zf,Zg,Zh,Zi,Zj,Zk]))
  | ((with_reducible refine grK_of (fun _=>?_) (fun _=>?_))<;>(try simp only [go_sem,↓reduceIte,Za,Zb,Zc,Zd,Ze,reduceCtorEq,Zf,Zg,Zh,Zi,Zj,Zk]))
  | ((with_reducible refine gCall.s (vcIf_of (fun _=>?_) (fun _=>?_)))<;>(try simp only [go_sem,↓reduceIte,Za,Zb,Zc,Zd,Ze,reduceCtorEq,Zf,Zg,Zh,Zi,Zj,Zk]))
  | ((with_reducible refine getK.m ?_ (fun _ _=>?_));rotate_left;try simp only [go_sem,↓reduceIte,Za,Zb,Zc,Zd,Ze,reduceCtorEq,Zf,Zg,Zh,Zi,Zj,Zk])
  | exact mapC_all (fun _=>rfl)
  | exact mapC_alln (fun _=>⟨rfl,rfl⟩)
  | with_reducible refine And.intro ?_ ?_)
 all_goals clear hf
 all_goals grind [rootS]
def w64 (n:Int):Int:=IntKind.i64.wrap n
def lgFl:List Fld→Int→Int
 | [],n=>n
 | f::r,n=>lgFl r (w64 (n+w64 (f.args.length+f.dirs.length)))
def szDf (t:Dfn):Int:=w64 (w64 (w64 (w64 (w64 (1+t.fields.length)+t.members.length)+t.inputs.length)+t.dirs.length)+t.impl.length)
def lgDf:List Dfn→Int→Int
 | [],n=>n
 | t::r,n=>lgDf r (lgFl t.fields (w64 (n+szDf t)))
def lgDoc (l:List Dfn):Bool:=if 70<(l.length:Int) then true else decide (1000<lgDf l 0)
theorem rLargeS_ok (l:List Dfn) (hl:l.length≤1000000000000) (hF:∀t∈l,t.fields.length≤2000000000000) (hp:CH) (m:Nat):MeetsF Tryz.prog 44 hp m [docx l] (.b (lgDoc l)):=by
 obtain ⟨R,hR⟩:∃R,lgDoc l=R:=⟨_,rfl⟩
 have e:=hR
 rw [lgDoc] at e
 rw [hR]
 refine meetsF Tryz.func44 (by kernel_rfl) cc44 cr44 rfl fun hf=>?_;unfold ck44
 simp only [go_sem,↓reduceIte,Za,Zb,Zc,Zd,Ze,reduceCtorEq,Zf,Zg,Zh,Zi,Zj,Zk]
 refine cdK_of (fun c=>?_) (fun c=>?_)
 .have c:70<(l.length:Int):=by simpa using c
  rw [if_pos c] at e
  subst e
  simp only [go_sem,↓reduceIte,Za,Zb,Zc,Zd,Ze,reduceCtorEq,Zf,Zg,Zh,Zi,Zj,Zk]
 have c:¬70<(l.length:Int):=by simpa using c
 rw [if_neg c] at e
 simp only [go_sem,↓reduceIte,Za,Zb,Zc,Zd,Ze,reduceCtorEq,Zf,Zg,Zh,Zi,Zj,Zk]
 refine loop (fun p:Nat × Int × Nat=>⟨[(1,.bx m 0),(3,.i .i64 p.2.1),(4,.i .i64 p.1)],(m,.bx [.ds (mapC dfC l)])::hp,p.2.2⟩)
  (fun p=>p.1≤l.length∧m+1≤p.2.2∧R=decide (1000<lgDf (l.drop p.1) p.2.1)) (fun p=>l.length - p.1) (0,0,m+1) ?_ ?_ (fun ⟨j,z,k⟩ hj=>?_)
 .exact ⟨by simp,by simp,e.symm⟩
 .refine weak_ok ?_ (Sub.cons ?_ (Sub.base hf ?_)) (zna _)
  all_goals (simp (disch:=omega) only [ite_ne,go_sem,↓reduceIte,Za,Zb,Zc,Zd,Ze,reduceCtorEq,Zf,Zg,Zh,Zi,Zj,Zk])
 dsimp only at hj
 obtain ⟨hj1,hj2,hj3⟩:=hj
 simp (disch:=omega) only [ite_ne,go_sem,↓reduceIte,Za,Zb,Zc,Zd,Ze,reduceCtorEq,Zf,Zg,Zh,Zi,Zj,Zk]
 refine cdK_of (fun q=>?_) (fun q=>?_)
 .have q:j<l.length:=by simpa using q
  obtain ⟨t,et⟩:∃t,l[j]?=some t:=⟨l[j],by simp [q]⟩
  have htF:=hF t (List.mem_of_getElem? et)
  rw [drop_at et,lgDf] at hj3
  have hmk:m≤k:=by omega
  simp (disch:=omega) only [ite_ne,q,getK_s (mapC_get dfC et),go_sem,↓reduceIte,Za,Zb,Zc,Zd,Ze,reduceCtorEq,Zf,Zg,Zh,Zi,Zj,Zk]
  refine loop (fun p:Nat × Int × Nat=>⟨[(1,.bx m 0),(3,.i .i64 p.2.1),(4,.i .i64 j),(5,.bx k 0),(6,.i .i64 p.1)],(m,.bx [.ds (mapC dfC l)])::(k,.bx [.i .i64 t.k,.s t.n,.ds t.impl,.ds t.dirs,.ds (mapC fldC t.fields),.ds t.members,.ds t.inputs])::hp,p.2.2⟩)
   (fun p=>p.1≤t.fields.length∧k+1≤p.2.2∧R=decide (1000<lgDf (l.drop (j+1)) (lgFl (t.fields.drop p.1) p.2.1))) (fun p=>t.fields.length - p.1) (0,w64 (z+szDf t),k+1) ?_ ?_ (fun ⟨i,z2,k2⟩ hi=>?_)
  .exact ⟨by simp,by simp,hj3⟩
  .refine weak_ok ?_ (Sub.cons ?_ (Sub.cons ?_ (Sub.base hf ?_))) (zna _)
   all_goals (simp (disch:=omega) only [ite_ne,hmk,go_sem,↓reduceIte,Za,Zb,Zc,Zd,Ze,reduceCtorEq,Zf,Zg,Zh,Zi,Zj,Zk])
   all_goals rfl
  dsimp only at hi
  obtain ⟨hi1,hi2,hi3⟩:=hi
  simp (disch:=omega) only [ite_ne,go_sem,↓reduceIte,Za,Zb,Zc,Zd,Ze,reduceCtorEq,Zf,Zg,Zh,Zi,Zj,Zk]
  refine cdK_of (fun q2=>?_) (fun q2=>?_)
  .have q2:i<t.fields.length:=by simpa using q2
   obtain ⟨f,ef⟩:∃f,t.fields[i]?=some f:=⟨t.fields[i],by simp [q2]⟩
   rw [drop_at ef,lgFl] at hi3
   simp (disch:=omega) only [ite_ne,q2,getK_s (mapC_get fldC ef),go_sem,↓reduceIte,Za,Zb,Zc,Zd,Ze,reduceCtorEq,Zf,Zg,Zh,Zi,Zj,Zk]
   refine ⟨(i+1,w64 (z2+w64 (f.args.length+f.dirs.length)),_),⟨by dsimp only;omega,by dsimp only;omega,hi3⟩,by dsimp only;omega,weak_ok ?_ (Sub.cons ?_ (Sub.cons ?_ (Sub.base hf ?_))) (zna _)⟩
   all_goals
    simp (disch:=omega) only [ite_ne,wr64s i (by omega),hmk,w64,go_sem,↓reduceIte,Za,Zb,Zc,Zd,Ze,reduceCtorEq,Zf,Zg,Zh,Zi,Zj,Zk]
  .have q2:i=t.fields.length:=by simp at q2;omega
   subst q2
   rw [zll,lgFl] at hi3
   simp (disch:=omega) only [ite_ne,go_sem,↓reduceIte,Za,Zb,Zc,Zd,Ze,reduceCtorEq,Zf,Zg,Zh,Zi,Zj,Zk]
   refine ⟨(j+1,z2,_),⟨by dsimp only;omega,by dsimp only;omega,hi3⟩,by dsimp only;omega,weak_ok ?_ (Sub.cons ?_ (Sub.base hf ?_)) (zna _)⟩
   all_goals
    simp (disch:=omega) only [ite_ne,wr64s j (by omega),hmk,go_sem,↓reduceIte,Za,Zb,Zc,Zd,Ze,reduceCtorEq,Zf,Zg,Zh,Zi,Zj,Zk]
 .have q:j=l.length:=by simp at q;omega
  subst q
  rw [zll,lgDf] at hj3
  subst hj3
  simp (disch:=omega) only [ite_ne,go_sem,↓reduceIte,Za,Zb,Zc,Zd,Ze,reduceCtorEq,Zf,Zg,Zh,Zi,Zj,Zk]
end Go.Proofs.YtinbodeocoeneaaGreatDoor
