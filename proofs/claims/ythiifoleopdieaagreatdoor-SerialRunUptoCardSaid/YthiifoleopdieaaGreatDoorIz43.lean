/- Proof. Conditions: none. -/
import Derived.Test.YthiifoleopdieaaGreatDoorIz42
open Nat renaming reduceEqDiff→Za,reduceBEq→Zb,reduceAdd→Zc,reduceLeDiff→Zd,reduceLT→Ze,reduceMul→Zf,reduceSub→Zg
open Int renaming reduceEq→Zh,reduceLT→Zi,reduceLE→Zj,reduceToNat→Zk
open List renaming take_length→zlj,take_of_length_le→zlk
open Nat renaming le_refl→zna
namespace Go.Proofs.YthiifoleopdieaaGreatDoor
open Go.Eng
set_option linter.all false
set_option maxRecDepth 20000
theorem snoc_int (l:List Int) (y:Int):mapC in1 l++[[AV.i .i64 y]]=mapC in1 (l++[y]):=mapC_snoc in1 l y
attribute [go_sem] snoc_int
def ixI (k:Int):List Int→Nat→Int
 | [],_=>-1
 | x::r,j=>if k=x then j else ixI k r (j+1)
theorem ixI_mem (k:Int):∀(l:List Int) (j:Nat),(0≤ixI k l j)=(k∈l)
 | [],j=>by simp [ixI]
 | x::r,j=>by
  unfold ixI
  by_cases c:k=x
  .simp [c]
  .rw [if_neg c,ixI_mem k r (j+1)]
   simp [c]
theorem indexI_ok (l:List Int) (k:Int) (hl:l.length≤9223372036854775806) (hp:CH) (m:Nat):MeetsF Tryz.prog 125 hp m [.ds (mapC in1 l),.i .i64 k] (.i .i64 (ixI k l 0)):=by
 refine meetsF Tryz.func125 (by kernel_rfl) cc125 cr125 rfl fun hf=>?_;unfold ck125
 simp only [go_sem,↓reduceIte,Za,Zb,Zc,Zd,Ze,reduceCtorEq,Zf,Zg,Zh,Zi,Zj,Zk]
 refine loop (fun p:Nat × Nat=>⟨[(0,.ds (mapC in1 l)),(1,.i .i64 k),(7,.i .i64 l.length),(8,.i .i64 p.1)],hp,p.2⟩) (fun p=>p.1≤l.length∧ixI k l 0=ixI k (l.drop p.1) p.1) (fun p=>l.length - p.1) (0,m) ?_ ?_ (fun ⟨j,n⟩ hj=>?_)
 .grind
 .refine weak_ok ?_ (Sub.refl _) (zna _)
  simp only [go_sem,↓reduceIte,Za,Zb,Zc,Zd,Ze,reduceCtorEq,Zf,Zg,Zh,Zi,Zj,Zk]
 dsimp only at hj
 simp only [go_sem,↓reduceIte,Za,Zb,Zc,Zd,Ze,reduceCtorEq,Zf,Zg,Zh,Zi,Zj,Zk]
 refine cdK_of (fun c=>?_) (fun c=>?_)
 .have c:j<l.length:=by simpa using c
  obtain ⟨x,ex⟩:∃x,l[j]?=some x:=⟨l[j],by simp [c]⟩
  have e:=drop_at ex
  rw [e,ixI] at hj
  simp only [c,getK_s (mapC_get in1 ex),go_sem,↓reduceIte,Za,Zb,Zc,Zd,Ze,reduceCtorEq,Zf,Zg,Zh,Zi,Zj,Zk]
  refine cdK_of (fun c1=>?_) (fun c1=>?_)
  .have c1:k=x:=by simpa using c1
   simp only [go_sem,↓reduceIte,Za,Zb,Zc,Zd,Ze,reduceCtorEq,Zf,Zg,Zh,Zi,Zj,Zk]
   rw [hj.2,if_pos c1]
  .have c1:¬k=x:=by simpa using c1
   rw [if_neg c1] at hj
   simp only [go_sem,↓reduceIte,Za,Zb,Zc,Zd,Ze,reduceCtorEq,Zf,Zg,Zh,Zi,Zj,Zk]
   refine ⟨(j+1,n),by dsimp only;omega,by dsimp only;omega,weak_ok ?_ (Sub.refl _) (zna _)⟩
   simp only [wr64s j (by omega),go_sem,↓reduceIte,Za,Zb,Zc,Zd,Ze,reduceCtorEq,Zf,Zg,Zh,Zi,Zj,Zk]
 .have c:j=l.length:=by simp at c;omega
  subst c
  rw [List.drop_length,ixI] at hj
  simp only [go_sem,↓reduceIte,Za,Zb,Zc,Zd,Ze,reduceCtorEq,Zf,Zg,Zh,Zi,Zj,Zk]
  rw [hj.2]
theorem containsI_ok (l:List Int) (k:Int) (hl:l.length≤9223372036854775806) (hp:CH) (m:Nat):MeetsF Tryz.prog 99 hp m [.ds (mapC in1 l),.i .i64 k] (.b (decide (k∈l))):=by
 have h1:=indexI_ok l k hl
 have e:=ixI_mem k l 0
 refine meetsF Tryz.func99 (by kernel_rfl) cc99 cr99 rfl fun hf=>?_;unfold ck99
 simp only [go_sem,↓reduceIte,Za,Zb,Zc,Zd,Ze,reduceCtorEq,Zf,Zg,Zh,Zi,Zj,Zk]
 refine vcCall.f (h1 _ _) ?_
 simp only [go_sem,↓reduceIte,Za,Zb,Zc,Zd,Ze,reduceCtorEq,Zf,Zg,Zh,Zi,Zj,Zk]
 simp only [e]
theorem tch1_ok (w:Wri) (f a:ByteArray) (c1 c2:Nat) (hp:CH) (m:Nat) (hc1:gc hp c1=.bx [.s f]) (hc2:gc hp c2=.bx [.s a]):MeetsF Tryz.prog 98 hp m [wx w,.bx c1 0,.bx c2 0] (.b (hits f a w)):=by
 unfold hits
 refine meetsF Tryz.func98 (by kernel_rfl) cc98 cr98 rfl fun hf=>?_;unfold ck98
 have hlt:=bx_lt hf hc1
 have hlt2:=bx_lt hf hc2
 simp (disch:=omega) only [ite_ne,hc1,hc2,go_sem,↓reduceIte,Za,Zb,Zc,Zd,Ze,reduceCtorEq,Zf,Zg,Zh,Zi,Zj,Zk]
theorem srtI_nil:srtI []=[]:=by simp [srtI]
def tchS (f a:ByteArray) (n:Nat) (l:List Int) (w:Wri):List Int:=if hits f a w=true∧0≤w.i∧w.i<(n:Int)∧w.i ∉ l then l++[w.i] else l
def tchL (f a:ByteArray) (n:Nat) (ws:List Wri):List Int:=ws.foldl (tchS f a n) []
theorem tchL_step {f a:ByteArray} {n:Nat} {ws:List Wri} {j:Nat} {w:Wri} (h:ws[j]?=some w):tchL f a n (ws.take (j+1))=tchS f a n (tchL f a n (ws.take j)) w:=by
 unfold tchL
 rw [←take_snoc h,List.foldl_append]
 rfl
theorem tchS_len (f a:ByteArray) (n:Nat) (l:List Int) (w:Wri):(tchS f a n l w).length≤l.length+1:=by
 unfold tchS
 split<;>simp
theorem tchL_len (f a:ByteArray) (n:Nat) (ws:List Wri) (j:Nat):(tchL f a n (ws.take j)).length≤j:=by
 induction j with
 | zero=>simp [tchL]
 | succ j ih =>
  by_cases hj:j<ws.length
  .rw [tchL_step (List.getElem?_eq_getElem hj)]
   have:=tchS_len f a n (tchL f a n (ws.take j)) ws[j]
   omega
  .rw [zlk (by omega),←zlk (i:=j) (l:=ws) (by omega)]
   omega
def tchD (d:Dat) (f a:ByteArray):List Int:=srtI (tchL f (argA d f a) d.i.length d.w)
theorem sort_ok {hp:CH} {m k g:Nat} {l:List Int} (h:gc hp k=.rw g 1 (mapC in1 l)) (h0:l≠[]) (hl:l.length<4611686018427387904) :
  Meets Tryz.prog 100 hp m [.rw k g l.length] fun hp' n' r=>hp'=(k,.rw g 1 (mapC in1 (srtI l)))::hp∧n'=m∧r=.tp [] :=
 meets_sortI Tryz.lays189 rfl ⟨_,Tryz.func100,by kernel_rfl,by kernel_rfl⟩ h h0 hl
theorem dTouched_ok (d:Dat) (hd:d.Fit) (hw:d.w.length≤100000000000) (f a:ByteArray) (hp:CH) (m:Nat):MeetsF Tryz.prog 56 hp m [dx d,.s f,.s a] (.ds (mapC in1 (tchD d f a))):=by
 have h1:=hd.li
 obtain ⟨b,hb⟩:∃b,d.w.any (hits f a)=b:=⟨_,rfl⟩
 obtain ⟨T,hT⟩:∃T,tchD d f a=T:=⟨_,rfl⟩
 rw [hT]
 refine meetsF Tryz.func56 (by kernel_rfl) cc56 cr56 rfl fun hf=>?_;unfold ck56
 simp only [go_sem,↓reduceIte,Za,Zb,Zc,Zd,Ze,reduceCtorEq,Zf,Zg,Zh,Zi,Zj,Zk]
 refine vcCall.f (anyf_wri d.w (hits f a) 98 [.bx (m+1) 0,.bx (m+2) 0] (by omega) _ _ fun w hw n=>tch1_ok w f a (m+1) (m+2) _ _ (by simp only [go_sem,↓reduceIte,Za,Zb,Zc,Zd,Ze,reduceCtorEq,Zf,Zg,Zh,Zi,Zj,Zk]) (by simp only [go_sem,↓reduceIte,Za,Zb,Zc,Zd,Ze,reduceCtorEq,Zf,Zg,Zh,Zi,Zj,Zk])) ?_
 simp only [hb,go_sem,↓reduceIte,Za,Zb,Zc,Zd,Ze,reduceCtorEq,Zf,Zg,Zh,Zi,Zj,Zk]
 have hA:argA d f a=if b=true then a else ⟨#[]⟩:=by rw [argA,hb]
 refine cdK_of (fun c=>?_) (fun c=>?_)
 .have c:b=false:=by simpa using c
  rw [if_neg (by simp [c])] at hA
  simp only [go_sem,↓reduceIte,Za,Zb,Zc,Zd,Ze,reduceCtorEq,Zf,Zg,Zh,Zi,Zj,Zk]
  refine loop (fun p:Nat × Nat=>⟨[(3,.bx m 0),(4,.bx (m+1) 0),(5,.bx (m+2) 0),(7,.rw (m+3) (tchL f (⟨#[]⟩) d.i.length (d.w.take p.1)).length (tchL f (⟨#[]⟩) d.i.length (d.w.take p.1)).length),(16,.ds (mapC wrC d.w)),(17,.i .i64 d.w.length),(18,.i .i64 p.1)],(m,.bx [.ds (mapC itC d.i),.ds (mapC wrC d.w)])::(m+1,.bx [.s f])::(m+2,.bx [.s (⟨#[]⟩)])::(m+3,.rw (tchL f (⟨#[]⟩) d.i.length (d.w.take p.1)).length 1 (mapC in1 (tchL f (⟨#[]⟩) d.i.length (d.w.take p.1))))::hp,p.2⟩)
   (fun p=>p.1≤d.w.length∧m+4≤p.2) (fun p=>d.w.length - p.1) (0,m+4) ?_ ?_ (fun ⟨j,n⟩ hj=>?_)
  .simp
  .refine (weak_e0 (t:=7) (m:=1) ?_).trans (weak_ok ?_ (Sub.cons ?_ (Sub.cons ?_ (Sub.cons ?_ (Sub.cons ?_ (Sub.base hf ?_))))) (zna _))
   all_goals (simp (disch:=omega) only [ite_ne,go_sem,↓reduceIte,Za,Zb,Zc,Zd,Ze,reduceCtorEq,Zf,Zg,Zh,Zi,Zj,Zk])
   all_goals rfl
  dsimp only at hj
  obtain ⟨hj1,hj2⟩:=hj
  have hL:=tchL_len f (⟨#[]⟩) d.i.length d.w j
  simp (disch:=omega) only [ite_ne,go_sem,↓reduceIte,Za,Zb,Zc,Zd,Ze,reduceCtorEq,Zf,Zg,Zh,Zi,Zj,Zk]
  refine cdK_of (fun q=>?_) (fun q=>?_)
  .have q:j<d.w.length:=by simpa using q
   obtain ⟨w,ew⟩:∃w,d.w[j]?=some w:=⟨d.w[j],by simp [q]⟩
   have hst:=tchL_step (f:=f) (a:=⟨#[]⟩) (n:=d.i.length) ew
   obtain ⟨O,hO⟩:∃O,tchL f (⟨#[]⟩) d.i.length (d.w.take j)=O:=⟨_,rfl⟩
   rw [hO] at hst hL ⊢
   have hOt:O.take O.length=O:=zlj
   have k1:(O.length+1)*8≤140737488355328:=by omega
   have k2:O.length+1≤9223372036854775807:=by omega
   have k3:d.w.length - (j+1)<d.w.length - j:=by omega
   simp (disch:=omega) only [ite_ne,q,getK_s (mapC_get wrC ew),go_sem,↓reduceIte,Za,Zb,Zc,Zd,Ze,reduceCtorEq,Zf,Zg,Zh,Zi,Zj,Zk]
   refine gCall.f (fun _=>MeetsF.lend (R:=[(m+3,.sh O.length 1 (mapC in1 O))]) (B:=[]) ?_ trivial ?_ rfl (containsI_ok O w.i (by omega) _ _)) ?_
   .simp (disch:=omega) only [ite_ne,go_sem,↓reduceIte,Za,Zb,Zc,Zd,Ze,reduceCtorEq,Zf,Zg,Zh,Zi,Zj,Zk]
   .simp (disch:=omega) only [ite_ne,hOt,go_sem,↓reduceIte,Za,Zb,Zc,Zd,Ze,reduceCtorEq,Zf,Zg,Zh,Zi,Zj,Zk]
   simp (disch:=omega) only [ite_ne,hOt,go_sem,↓reduceIte,Za,Zb,Zc,Zd,Ze,reduceCtorEq,Zf,Zg,Zh,Zi,Zj,Zk]
   refine cdK_of (fun c=>?_) (fun c=>?_)
   .have e:tchS f (⟨#[]⟩) d.i.length O w=O++[w.i]:=by
     rw [tchS,if_pos]
     simpa [hits,and_assoc] using c
    rw [e] at hst
    simp (disch:=omega) only [ite_ne,k1,k2,go_sem,↓reduceIte,Za,Zb,Zc,Zd,Ze,reduceCtorEq,Zf,Zg,Zh,Zi,Zj,Zk]
    refine ⟨(j+1,_),⟨by dsimp only;omega,by dsimp only;omega⟩,k3,weak_ok ?_ (Sub.cons ?_ (Sub.cons ?_ (Sub.cons ?_ (Sub.cons ?_ (Sub.base hf ?_))))) (zna _)⟩
    all_goals
     simp (disch:=omega) only [ite_ne,wr64s j (by omega),hst,List.length_append,List.length_cons,List.length_nil,go_sem,↓reduceIte,Za,Zb,Zc,Zd,Ze,reduceCtorEq,Zf,Zg,Zh,Zi,Zj,Zk]
   .have e:tchS f (⟨#[]⟩) d.i.length O w=O:=by
     rw [tchS,if_neg]
     rintro ⟨q1,q2,q3,q4⟩
     simp only [hits,Bool.and_eq_true,decide_eq_true_eq] at q1
     simp [q1,q2,q3,q4] at c
    rw [e] at hst
    simp (disch:=omega) only [ite_ne,go_sem,↓reduceIte,Za,Zb,Zc,Zd,Ze,reduceCtorEq,Zf,Zg,Zh,Zi,Zj,Zk]
    refine ⟨(j+1,_),⟨by dsimp only;omega,by dsimp only;omega⟩,k3,weak_ok ?_ (Sub.cons ?_ (Sub.cons ?_ (Sub.cons ?_ (Sub.cons ?_ (Sub.base hf ?_))))) (zna _)⟩
    all_goals
     simp (disch:=omega) only [ite_ne,wr64s j (by omega),hst,go_sem,↓reduceIte,Za,Zb,Zc,Zd,Ze,reduceCtorEq,Zf,Zg,Zh,Zi,Zj,Zk]
  .have q:j=d.w.length:=by simp at q;omega
   subst q
   rw [zlj] at hL ⊢
   obtain ⟨O,hO⟩:∃O,tchL f (⟨#[]⟩) d.i.length d.w=O:=⟨_,rfl⟩
   have hTO:T=srtI O:=by rw [←hT,tchD,hA,hO]
   rw [hO] at hL ⊢
   have hOt:(srtI O).take O.length=srtI O:=by rw [zlk (by rw [srtI_len];omega)]
   have hOl:=srtI_len O
   simp (disch:=omega) only [ite_ne,go_sem,↓reduceIte,Za,Zb,Zc,Zd,Ze,reduceCtorEq,Zf,Zg,Zh,Zi,Zj,Zk]
   rcases Nat.eq_zero_or_pos O.length with h0 | h0
   .have h0:=List.eq_nil_of_length_eq_zero h0
    subst h0
    refine vcCall.f (meets_sort0 Tryz.lays189 rfl ⟨_,Tryz.func100,by kernel_rfl,by kernel_rfl⟩) ?_
    simp (disch:=omega) only [ite_ne,go_sem,↓reduceIte,Za,Zb,Zc,Zd,Ze,reduceCtorEq,Zf,Zg,Zh,Zi,Zj,Zk]
    rw [hTO,srtI_nil]
    rfl
   .have h0:O≠[]:=fun e=>by rw [e] at h0;simp at h0
    refine vcCall.r (sort_ok (k:=m+3) (g:=O.length) (l:=O) ?_ h0 (by omega)) ?_
    .simp (disch:=omega) only [ite_ne,go_sem,↓reduceIte,Za,Zb,Zc,Zd,Ze,reduceCtorEq,Zf,Zg,Zh,Zi,Zj,Zk]
    rintro _ _ _ ⟨rfl,rfl,rfl⟩
    simp (disch:=omega) only [ite_ne,hOt,hOl,go_sem,↓reduceIte,Za,Zb,Zc,Zd,Ze,reduceCtorEq,Zf,Zg,Zh,Zi,Zj,Zk]
    rw [hTO]
 .have c:b=true:=by simpa using c
  rw [if_pos c] at hA
  simp only [go_sem,↓reduceIte,Za,Zb,Zc,Zd,Ze,reduceCtorEq,Zf,Zg,Zh,Zi,Zj,Zk]
  refine loop (fun p:Nat × Nat=>⟨[(3,.bx m 0),(4,.bx (m+1) 0),(5,.bx (m+2) 0),(7,.rw (m+3) (tchL f (a) d.i.length (d.w.take p.1)).length (tchL f (a) d.i.length (d.w.take p.1)).length),(16,.ds (mapC wrC d.w)),(17,.i .i64 d.w.length),(18,.i .i64 p.1)],(m,.bx [.ds (mapC itC d.i),.ds (mapC wrC d.w)])::(m+1,.bx [.s f])::(m+2,.bx [.s (a)])::(m+3,.rw (tchL f (a) d.i.length (d.w.take p.1)).length 1 (mapC in1 (tchL f (a) d.i.length (d.w.take p.1))))::hp,p.2⟩)
   (fun p=>p.1≤d.w.length∧m+4≤p.2) (fun p=>d.w.length - p.1) (0,m+4) ?_ ?_ (fun ⟨j,n⟩ hj=>?_)
  .simp
  .refine (weak_e0 (t:=7) (m:=1) ?_).trans (weak_ok ?_ (Sub.cons ?_ (Sub.cons ?_ (Sub.cons ?_ (Sub.cons ?_ (Sub.base hf ?_))))) (zna _))
   all_goals (simp (disch:=omega) only [ite_ne,go_sem,↓reduceIte,Za,Zb,Zc,Zd,Ze,reduceCtorEq,Zf,Zg,Zh,Zi,Zj,Zk])
   all_goals rfl
  dsimp only at hj
  obtain ⟨hj1,hj2⟩:=hj
  have hL:=tchL_len f (a) d.i.length d.w j
  simp (disch:=omega) only [ite_ne,go_sem,↓reduceIte,Za,Zb,Zc,Zd,Ze,reduceCtorEq,Zf,Zg,Zh,Zi,Zj,Zk]
  refine cdK_of (fun q=>?_) (fun q=>?_)
  .have q:j<d.w.length:=by simpa using q
   obtain ⟨w,ew⟩:∃w,d.w[j]?=some w:=⟨d.w[j],by simp [q]⟩
   have hst:=tchL_step (f:=f) (a:=a) (n:=d.i.length) ew
   obtain ⟨O,hO⟩:∃O,tchL f (a) d.i.length (d.w.take j)=O:=⟨_,rfl⟩
   rw [hO] at hst hL ⊢
   have hOt:O.take O.length=O:=zlj
   have k1:(O.length+1)*8≤140737488355328:=by omega
   have k2:O.length+1≤9223372036854775807:=by omega
   have k3:d.w.length - (j+1)<d.w.length - j:=by omega
   simp (disch:=omega) only [ite_ne,q,getK_s (mapC_get wrC ew),go_sem,↓reduceIte,Za,Zb,Zc,Zd,Ze,reduceCtorEq,Zf,Zg,Zh,Zi,Zj,Zk]
   refine gCall.f (fun _=>MeetsF.lend (R:=[(m+3,.sh O.length 1 (mapC in1 O))]) (B:=[]) ?_ trivial ?_ rfl (containsI_ok O w.i (by omega) _ _)) ?_
   .simp (disch:=omega) only [ite_ne,go_sem,↓reduceIte,Za,Zb,Zc,Zd,Ze,reduceCtorEq,Zf,Zg,Zh,Zi,Zj,Zk]
   .simp (disch:=omega) only [ite_ne,hOt,go_sem,↓reduceIte,Za,Zb,Zc,Zd,Ze,reduceCtorEq,Zf,Zg,Zh,Zi,Zj,Zk]
   simp (disch:=omega) only [ite_ne,hOt,go_sem,↓reduceIte,Za,Zb,Zc,Zd,Ze,reduceCtorEq,Zf,Zg,Zh,Zi,Zj,Zk]
   refine cdK_of (fun c=>?_) (fun c=>?_)
   .have e:tchS f (a) d.i.length O w=O++[w.i]:=by
     rw [tchS,if_pos]
     simpa [hits,and_assoc] using c
    rw [e] at hst
    simp (disch:=omega) only [ite_ne,k1,k2,go_sem,↓reduceIte,Za,Zb,Zc,Zd,Ze,reduceCtorEq,Zf,Zg,Zh,Zi,Zj,Zk]
    refine ⟨(j+1,_),⟨by dsimp only;omega,by dsimp only;omega⟩,k3,weak_ok ?_ (Sub.cons ?_ (Sub.cons ?_ (Sub.cons ?_ (Sub.cons ?_ (Sub.base hf ?_))))) (zna _)⟩
    all_goals
     simp (disch:=omega) only [ite_ne,wr64s j (by omega),hst,List.length_append,List.length_cons,List.length_nil,go_sem,↓reduceIte,Za,Zb,Zc,Zd,Ze,reduceCtorEq,Zf,Zg,Zh,Zi,Zj,Zk]
   .have e:tchS f (a) d.i.length O w=O:=by
     rw [tchS,if_neg]
     rintro ⟨q1,q2,q3,q4⟩
     simp only [hits,Bool.and_eq_true,decide_eq_true_eq] at q1
     simp [q1,q2,q3,q4] at c
    rw [e] at hst
    simp (disch:=omega) only [ite_ne,go_sem,↓reduceIte,Za,Zb,Zc,Zd,Ze,reduceCtorEq,Zf,Zg,Zh,Zi,Zj,Zk]
    refine ⟨(j+1,_),⟨by dsimp only;omega,by dsimp only;omega⟩,k3,weak_ok ?_ (Sub.cons ?_ (Sub.cons ?_ (Sub.cons ?_ (Sub.cons ?_ (Sub.base hf ?_))))) (zna _)⟩
    all_goals
     simp (disch:=omega) only [ite_ne,wr64s j (by omega),hst,go_sem,↓reduceIte,Za,Zb,Zc,Zd,Ze,reduceCtorEq,Zf,Zg,Zh,Zi,Zj,Zk]
  .have q:j=d.w.length:=by simp at q;omega
   subst q
   rw [zlj] at hL ⊢
   obtain ⟨O,hO⟩:∃O,tchL f (a) d.i.length d.w=O:=⟨_,rfl⟩
   have hTO:T=srtI O:=by rw [←hT,tchD,hA,hO]
   rw [hO] at hL ⊢
   have hOt:(srtI O).take O.length=srtI O:=by rw [zlk (by rw [srtI_len];omega)]
   have hOl:=srtI_len O
   simp (disch:=omega) only [ite_ne,go_sem,↓reduceIte,Za,Zb,Zc,Zd,Ze,reduceCtorEq,Zf,Zg,Zh,Zi,Zj,Zk]
   rcases Nat.eq_zero_or_pos O.length with h0 | h0
   .have h0:=List.eq_nil_of_length_eq_zero h0
    subst h0
    refine vcCall.f (meets_sort0 Tryz.lays189 rfl ⟨_,Tryz.func100,by kernel_rfl,by kernel_rfl⟩) ?_
    simp (disch:=omega) only [ite_ne,go_sem,↓reduceIte,Za,Zb,Zc,Zd,Ze,reduceCtorEq,Zf,Zg,Zh,Zi,Zj,Zk]
    rw [hTO,srtI_nil]
    rfl
   .have h0:O≠[]:=fun e=>by rw [e] at h0;simp at h0
    refine vcCall.r (sort_ok (k:=m+3) (g:=O.length) (l:=O) ?_ h0 (by omega)) ?_
    .simp (disch:=omega) only [ite_ne,go_sem,↓reduceIte,Za,Zb,Zc,Zd,Ze,reduceCtorEq,Zf,Zg,Zh,Zi,Zj,Zk]
    rintro _ _ _ ⟨rfl,rfl,rfl⟩
    simp (disch:=omega) only [ite_ne,hOt,hOl,go_sem,↓reduceIte,Za,Zb,Zc,Zd,Ze,reduceCtorEq,Zf,Zg,Zh,Zi,Zj,Zk]
    rw [hTO]
def tcB (f a:ByteArray) (ws:List Wri) (i:Nat):Bool:=ws.any fun w=>hits f a w&&decide (w.i=(i:Int))
def tcL (f a:ByteArray) (ws:List Wri) (n:Nat):List Int:=((List.range n).filter (tcB f a ws)).map fun (i:Nat)=>(i:Int)
theorem tcL_mem {f a:ByteArray} {ws:List Wri} {n:Nat} {x:Int}:x∈tcL f a ws n↔∃w∈ws,hits f a w=true∧0≤w.i∧w.i<(n:Int)∧w.i=x:=by
 unfold tcL tcB
 simp only [List.mem_map,List.mem_filter,List.mem_range,List.any_eq_true,Bool.and_eq_true,decide_eq_true_eq]
 constructor
 .rintro ⟨i,⟨hi,w,hw,h1,h2⟩,rfl⟩
  exact ⟨w,hw,h1,by omega,by omega,h2⟩
 .rintro ⟨w,hw,h1,h2,h3,rfl⟩
  exact ⟨w.i.toNat,⟨by omega,w,hw,h1,by omega⟩,by omega⟩
theorem tchL_mem {f a:ByteArray} {n:Nat}:∀(ws:List Wri) (l:List Int) (x:Int),x∈ws.foldl (tchS f a n) l↔x∈l∨∃w∈ws,hits f a w=true∧0≤w.i∧w.i<(n:Int)∧w.i=x
 | [],l,x=>by simp
 | w::ws,l,x=>by
  rw [List.foldl_cons,tchL_mem ws]
  have:x∈tchS f a n l w↔x∈l∨(hits f a w=true∧0≤w.i∧w.i<(n:Int)∧w.i=x):=by
   unfold tchS
   split
   .rename_i h
    rw [List.mem_append,List.mem_singleton]
    exact ⟨fun q=>q.imp id fun e=>⟨h.1,h.2.1,h.2.2.1,e.symm⟩,fun q=>q.imp id fun e=>e.2.2.2.symm⟩
   .rename_i h
    refine ⟨.inl,fun q=>q.elim id fun e=>Classical.byContradiction fun nx=>h ⟨e.1,e.2.1,e.2.2.1,by rw [e.2.2.2];exact nx⟩⟩
  rw [this,or_assoc]
  simp only [List.mem_cons,exists_eq_or_imp]
theorem tchL_nodup {f a:ByteArray} {n:Nat}:∀(ws:List Wri) (l:List Int),l.Nodup→(ws.foldl (tchS f a n) l).Nodup
 | [],l,h=>h
 | w::ws,l,h=>by
  rw [List.foldl_cons]
  refine tchL_nodup ws _ ?_
  unfold tchS
  split
  .rename_i q
   rw [List.nodup_append]
   exact ⟨h,by simp,fun x hx y hy e=>by simp at hy;subst hy;exact q.2.2.2 (e ▸ hx)⟩
  .exact h
theorem tcL_lt (f a:ByteArray) (ws:List Wri) (n:Nat):(tcL f a ws n).Pairwise (· < ·):=by
 unfold tcL
 rw [List.pairwise_map]
 exact (List.Pairwise.sublist List.filter_sublist List.pairwise_lt_range).imp fun h=>by omega
theorem tchD_eq (d:Dat) (f a:ByteArray):tchD d f a=tcL f (argA d f a) d.w d.i.length:=by
 unfold tchD
 have hp:(srtI (tchL f (argA d f a) d.i.length d.w)).Perm (tchL f (argA d f a) d.i.length d.w):=List.mergeSort_perm _ _
 have hs:(srtI (tchL f (argA d f a) d.i.length d.w)).Pairwise (·≤·):=by
  have:=List.pairwise_mergeSort (le:=fun x y:Int=>decide (x≤y)) (fun a b c h1 h2=>by simp at *;omega) (fun a b=>by simp;omega) (tchL f (argA d f a) d.i.length d.w)
  exact this.imp fun h=>by simpa using h
 have hl:=tcL_lt f (argA d f a) d.w d.i.length
 refine List.Perm.eq_of_pairwise (le:=(·≤·)) (fun a b _ _ h1 h2=>by omega) hs (hl.imp fun h=>by omega) (hp.trans ?_)
 refine (List.perm_ext_iff_of_nodup (tchL_nodup _ _ (by simp)) (hl.imp fun h=>by omega)).2 fun x=>?_
 rw [tcL_mem,tchL_mem]
 simp
end Go.Proofs.YthiifoleopdieaaGreatDoor
