/- Proof. Conditions: none. -/
import Derived.Test.YtinbodeocoeneaaGreatDoorIs39
open Nat renaming reduceEqDiff→Za,reduceBEq→Zb,reduceAdd→Zc,reduceLeDiff→Zd,reduceLT→Ze,reduceMul→Zf,reduceSub→Zg
open Int renaming reduceEq→Zh,reduceLT→Zi,reduceLE→Zj,reduceToNat→Zk
open List renaming length_map→zlv
open Nat renaming le_refl→zna
namespace Go.Proofs.YtinbodeocoeneaaGreatDoor
open Go.Eng
set_option linter.all false
set_option maxRecDepth 20000
inductive Pk.Ok:Pk→Prop
 | mk (p:Pk):AOk p.args→p.picks.length≤1048576→(∀x∈p.picks,Pk.Ok x)→Pk.Ok p
theorem map_take_snocI {α β:Type} (f:α→β) {l:List α} {j:Nat} {x:α} (h:l[j]?=some x):(l.take j).map f++[f x]=(l.take (j+1)).map f:=by
 rw [←take_snoc h,List.map_append]
 rfl
theorem Pk.Ok.a {p:Pk} (h:p.Ok):AOk p.args:=by cases h;assumption
theorem Pk.Ok.l {p:Pk} (h:p.Ok):p.picks.length≤1048576:=by cases h;assumption
theorem Pk.Ok.x {p:Pk} (h:p.Ok) {x:Pk} (hx:x∈p.picks):x.Ok:=by cases h with | mk _ _ _ h=>exact h x hx
theorem leafV_fit {k n:Int} {t:ByteArray}:(Val.mk k n t [] []).Fit:=.mk _ (by simp [Val.items_mk]) (by simp [Val.keys_mk]) (by simp [Val.items_mk])
theorem rawW_fit {d:Dat} {comp:Bool} {ob:Int→Val} (hob:∀i,(ob i).Fit) (v:Val) (hv:v.Fit):(rawW d comp ob v).Fit:=by
 refine Val.ind (Q:=fun v=>v.Fit→(rawW d comp ob v).Fit) (fun v ih hv=>?_) v hv
 rw [rawW_eq]
 split
 .exact hv
 split
 .refine .mk _ (by simp only [listV,Val.items_mk,zlv];exact hv.i) (by simp [listV,Val.keys_mk]) fun x hx=>?_
  simp only [listV,Val.items_mk,List.mem_map] at hx
  obtain ⟨y,hy,rfl⟩:=hx
  exact ih y hy (hv.x hy)
 split
 .exact leafV_fit
 split
 .split
  .split
   .exact hob _
   .exact leafV_fit
  .exact zVal_fit
 .exact zVal_fit
theorem objV_fit {t:ByteArray} {l:List (ByteArray × Val)} (hl:l.length≤1048576) (h:∀x∈l,x.2.Fit):(objV t l).Fit:=by
 refine .mk _ (by simp only [objV,Val.items_mk,List.length_cons,zlv];omega) (by simp only [objV,Val.keys_mk,List.length_cons,zlv];omega) fun x hx=>?_
 simp only [objV,Val.items_mk,List.mem_cons,List.mem_map] at hx
 rcases hx with rfl | ⟨y,hy,rfl⟩
 .exact tx_fit _
 .exact h y hy
theorem fieldsV_len (s:Sup) (d:Dat) (l:List Pk) (i:Int):(fieldsV s d l i).length≤l.length:=by
 rw [fieldsV_eq,zlv]
 exact List.length_filter_le _ _
theorem objectV_fit' {s:Sup} {d:Dat} {l:List Pk} (hl:l.length≤1048576) (h:∀p∈l,∀i,(pickV s d p i).Fit) (i:Int):(objectV s d l i).Fit:=by
 unfold objectV
 split
 .refine objV_fit (Nat.le_trans (fieldsV_len s d l i) hl) fun x hx=>?_
  rw [fieldsV_eq] at hx
  obtain ⟨p,hp,rfl⟩:=List.mem_map.1 hx
  exact h p (List.mem_filter.1 hp).1 i
 .exact zVal_fit
theorem pickV_fit {s:Sup} {d:Dat} {B:Nat} (hd:DOk d B) (p:Pk) (hp:p.Ok) (i:Int):(pickV s d p i).Fit:=by
 refine Pk.ind (Q:=fun p=>p.Ok→∀i,(pickV s d p i).Fit) (fun p ih hp i=>?_) p hp i
 rw [pickV_eq,pickW]
 split
 .exact tx_fit _
 split
 .exact leafV_fit
 .exact rawW_fit (objectV_fit' hp.l fun x hx i=>ih x hx (hp.x hx) i) _ (lookV_sm hd _ _ _).f
theorem objectV_fit {s:Sup} {d:Dat} {B:Nat} (hd:DOk d B) {l:List Pk} (hl:l.length≤1048576) (hp:∀p∈l,p.Ok) (i:Int):(objectV s d l i).Fit:=objectV_fit' hl (fun p h i=>pickV_fit hd p (hp p h) i) i
theorem rfail_ok (t:ByteArray) (hp:CH) (m:Nat):MeetsF Tryz.prog 136 hp m [.s t] (vx (failV t)):=by
 refine meetsF Tryz.func136 (by kernel_rfl) cc136 cr136 rfl fun hf=>?_;unfold ck136
 simp only [go_sem,↓reduceIte,Za,Zb,Zc,Zd,Ze,reduceCtorEq,Zf,Zg,Zh,Zi,Zj,Zk]
 rfl
theorem rfails_ok (s:Sup) (hs:SOk s) (d:Dat) {B:Nat} (hd:DOk d B) (i:Int) (p:Pk) (hp:CH) (m:Nat):MeetsF Tryz.prog 135 hp m [supx s,dx d,.i .i64 i,pkx p] (.b (failB s d i p)):=by
 have hN:=rneeds_ok s hs d i p
 have hnl:=needL_len hs d i p
 obtain ⟨R,hR⟩:∃R,failB s d i p=R:=⟨_,rfl⟩
 have e:=hR
 rw [failB] at e
 rw [hR]
 obtain ⟨L,hL⟩:∃L,needL s d i p=L:=⟨_,rfl⟩
 rw [hL] at hN hnl e
 refine meetsF Tryz.func135 (by kernel_rfl) cc135 cr135 rfl fun hf=>?_;unfold ck135
 simp only [go_sem,↓reduceIte,Za,Zb,Zc,Zd,Ze,reduceCtorEq,Zf,Zg,Zh,Zi,Zj,Zk]
 refine vcCall.f (hN _ _) ?_
 simp only [go_sem,↓reduceIte,Za,Zb,Zc,Zd,Ze,reduceCtorEq,Zf,Zg,Zh,Zi,Zj,Zk]
 refine loop (fun q:Nat × Nat=>⟨[(2,.i .i64 i),(5,.bx (m+1) 0),(9,.ds (stC L)),(10,.i .i64 q.1)],(m+1,.bx [.ds (mapC itC d.i),.ds (mapC wrC d.w)])::hp,q.2⟩)
  (fun q=>q.1≤L.length∧m+3≤q.2∧R=(L.drop q.1).any fun f=>badV d (lookV d i f ⟨#[]⟩)) (fun q=>L.length - q.1) (0,m+3) ?_ ?_ (fun ⟨j,n⟩ hj=>?_)
 .exact ⟨by simp,by simp,e.symm⟩
 .refine weak_ok ?_ (Sub.cons ?_ (Sub.base hf ?_)) (zna _)
  all_goals (simp (disch:=omega) only [ite_ne,go_sem,↓reduceIte,Za,Zb,Zc,Zd,Ze,reduceCtorEq,Zf,Zg,Zh,Zi,Zj,Zk])
 dsimp only at hj
 obtain ⟨hj1,hj2,hj3⟩:=hj
 have hmn:m≤n:=by omega
 simp (disch:=omega) only [ite_ne,go_sem,↓reduceIte,Za,Zb,Zc,Zd,Ze,reduceCtorEq,Zf,Zg,Zh,Zi,Zj,Zk]
 refine cdK_of (fun q=>?_) (fun q=>?_)
 .have q:j<L.length:=by simpa using q
  obtain ⟨f,ef⟩:∃f,L[j]?=some f:=⟨L[j],by simp [q]⟩
  rw [drop_at ef,List.any_cons] at hj3
  have hlk:=rLookup_ok d hd.f.f i f ⟨#[]⟩
  obtain ⟨v,hv⟩:∃v,lookV d i f ⟨#[]⟩=v:=⟨_,rfl⟩
  rw [hv] at hlk hj3
  simp (disch:=omega) only [ite_ne,q,getK_s (mapC_get st1 ef),go_sem,↓reduceIte,Za,Zb,Zc,Zd,Ze,reduceCtorEq,Zf,Zg,Zh,Zi,Zj,Zk]
  refine dCallR.f (fun _ hp' e=>hlk _ _) ?_
  simp (disch:=omega) only [ite_ne,q,getK_s (mapC_get st1 ef),go_sem,↓reduceIte,Za,Zb,Zc,Zd,Ze,reduceCtorEq,Zf,Zg,Zh,Zi,Zj,Zk]
  refine ⟨by omega,gCall.f (fun _=>exists_ok d v.n _ _) ?_⟩
  simp (disch:=omega) only [ite_ne,go_sem,↓reduceIte,Za,Zb,Zc,Zd,Ze,reduceCtorEq,Zf,Zg,Zh,Zi,Zj,Zk]
  refine cdK_of (fun c=>?_) (fun c=>?_)
  .have c2:badV d v=true:=by
    rw [badV]
    simpa [Bool.or_assoc] using c
   rw [c2,Bool.true_or] at hj3
   subst hj3
   simp (disch:=omega) only [ite_ne,hmn,go_sem,↓reduceIte,Za,Zb,Zc,Zd,Ze,reduceCtorEq,Zf,Zg,Zh,Zi,Zj,Zk]
  .have c2:badV d v=false:=by
    rw [badV]
    simpa [Bool.or_assoc] using c
   rw [c2,Bool.false_or] at hj3
   simp (disch:=omega) only [ite_ne,go_sem,↓reduceIte,Za,Zb,Zc,Zd,Ze,reduceCtorEq,Zf,Zg,Zh,Zi,Zj,Zk]
   refine ⟨(j+1,_),⟨by dsimp only;omega,by dsimp only;omega,hj3⟩,by dsimp only;omega,weak_ok ?_ (Sub.cons ?_ (Sub.base hf ?_)) (zna _)⟩
   all_goals
    simp (disch:=omega) only [ite_ne,wr64s j (by omega),hmn,go_sem,↓reduceIte,Za,Zb,Zc,Zd,Ze,reduceCtorEq,Zf,Zg,Zh,Zi,Zj,Zk]
 .have q:j=L.length:=by simp at q;omega
  subst q
  rw [List.drop_length,List.any_nil] at hj3
  subst hj3
  simp (disch:=omega) only [ite_ne,go_sem,↓reduceIte,Za,Zb,Zc,Zd,Ze,reduceCtorEq,Zf,Zg,Zh,Zi,Zj,Zk]
theorem rRaw_of (s:Sup) (hs:SOk s) (d:Dat) {B:Nat} (hd:DOk d B) (p:Pk) (hobf:∀i,(objectV s d p.picks i).Fit)
  (hO:∀i hp m,MeetsF Tryz.prog 158 hp m [supx s,dx d,.i .i64 i,.ds (mapC pkC p.picks)] (vx (objectV s d p.picks i)))
  (v:Val) (hv:VSm v) (h:∀x∈v.items,∀hp m,MeetsF Tryz.prog 137 hp m [supx s,dx d,vx x,pkx p] (vx (rawW d (compB s.doc p.tn) (objectV s d p.picks) x))) (hp:CH) (m:Nat) :
  MeetsF Tryz.prog 137 hp m [supx s,dx d,vx v,pkx p] (vx (rawW d (compB s.doc p.tn) (objectV s d p.picks) v)):=by
 have hvi:=hv.f.i
 have e:=rawW_eq d (compB s.doc p.tn) (objectV s d p.picks) v
 have hC:=rComposite_ok s.doc (Nat.le_trans hs.d (by omega)) p.tn
 have hEx:=exists_ok d v.n
 have hFt:∀x∈v.items,(rawW d (compB s.doc p.tn) (objectV s d p.picks) x).Fit:=fun x hx=>rawW_fit hobf x (hv.f.x hx)
 obtain ⟨C,hCe⟩:∃C,compB s.doc p.tn=C:=⟨_,rfl⟩
 obtain ⟨W,hW⟩:∃W,rawW d C (objectV s d p.picks)=W:=⟨_,rfl⟩
 rw [hCe] at e hC h hFt ⊢
 rw [hW] at e h hFt ⊢
 obtain ⟨R,hR⟩:∃R,W v=R:=⟨_,rfl⟩
 rw [hR] at e ⊢
 have hOn:=hO v.n
 obtain ⟨O,hOe⟩:∃O,objectV s d p.picks v.n=O:=⟨_,rfl⟩
 rw [hOe] at e hOn
 obtain ⟨X,hX⟩:∃X,exB d v.n=X:=⟨_,rfl⟩
 rw [hX] at e hEx
 refine meetsF Tryz.func137 (by kernel_rfl) cc137 cr137 rfl fun hf=>?_;unfold ck137
 simp only [go_sem,↓reduceIte,Za,Zb,Zc,Zd,Ze,reduceCtorEq,Zf,Zg,Zh,Zi,Zj,Zk]
 refine cdK_of (fun c0=>?_) (fun c0=>?_)
 .rw [if_pos (by simp at c0;omega)] at e
  rw [e]
  simp only [c0,go_sem,↓reduceIte,Za,Zb,Zc,Zd,Ze,reduceCtorEq,Zf,Zg,Zh,Zi,Zj,Zk]
  refine vcCall.f (rcopy_ok v hv.f _ _) ?_
  simp only [go_sem,↓reduceIte,Za,Zb,Zc,Zd,Ze,reduceCtorEq,Zf,Zg,Zh,Zi,Zj,Zk]
 simp only [go_sem,↓reduceIte,Za,Zb,Zc,Zd,Ze,reduceCtorEq,Zf,Zg,Zh,Zi,Zj,Zk]
 refine cdK_of (fun c1=>?_) (fun c1=>?_)
 .rw [if_pos (by simp at c1;omega)] at e
  rw [e]
  simp only [c1,go_sem,↓reduceIte,Za,Zb,Zc,Zd,Ze,reduceCtorEq,Zf,Zg,Zh,Zi,Zj,Zk]
  refine vcCall.f (rcopy_ok v hv.f _ _) ?_
  simp only [go_sem,↓reduceIte,Za,Zb,Zc,Zd,Ze,reduceCtorEq,Zf,Zg,Zh,Zi,Zj,Zk]
 simp only [go_sem,↓reduceIte,Za,Zb,Zc,Zd,Ze,reduceCtorEq,Zf,Zg,Zh,Zi,Zj,Zk]
 refine cdK_of (fun c2=>?_) (fun c2=>?_)
 .rw [if_pos (by simp at c2;omega)] at e
  rw [e]
  simp only [c2,go_sem,↓reduceIte,Za,Zb,Zc,Zd,Ze,reduceCtorEq,Zf,Zg,Zh,Zi,Zj,Zk]
  refine vcCall.f (rcopy_ok v hv.f _ _) ?_
  simp only [go_sem,↓reduceIte,Za,Zb,Zc,Zd,Ze,reduceCtorEq,Zf,Zg,Zh,Zi,Zj,Zk]
 simp only [go_sem,↓reduceIte,Za,Zb,Zc,Zd,Ze,reduceCtorEq,Zf,Zg,Zh,Zi,Zj,Zk]
 refine cdK_of (fun c3=>?_) (fun c3=>?_)
 .rw [if_pos (by simp at c3;omega)] at e
  rw [e]
  simp only [c3,go_sem,↓reduceIte,Za,Zb,Zc,Zd,Ze,reduceCtorEq,Zf,Zg,Zh,Zi,Zj,Zk]
  refine vcCall.f (rcopy_ok v hv.f _ _) ?_
  simp only [go_sem,↓reduceIte,Za,Zb,Zc,Zd,Ze,reduceCtorEq,Zf,Zg,Zh,Zi,Zj,Zk]
 simp only [go_sem,↓reduceIte,Za,Zb,Zc,Zd,Ze,reduceCtorEq,Zf,Zg,Zh,Zi,Zj,Zk]
 refine cdK_of (fun c4=>?_) (fun c4=>?_)
 .rw [if_pos (by simp at c4;omega)] at e
  rw [e]
  simp only [c4,go_sem,↓reduceIte,Za,Zb,Zc,Zd,Ze,reduceCtorEq,Zf,Zg,Zh,Zi,Zj,Zk]
  refine vcCall.f (rcopy_ok v hv.f _ _) ?_
  simp only [go_sem,↓reduceIte,Za,Zb,Zc,Zd,Ze,reduceCtorEq,Zf,Zg,Zh,Zi,Zj,Zk]
 simp only [go_sem,↓reduceIte,Za,Zb,Zc,Zd,Ze,reduceCtorEq,Zf,Zg,Zh,Zi,Zj,Zk]
 refine cdK_of (fun c9=>?_) (fun c9=>?_)
 .rw [if_pos (by simp at c9;omega)] at e
  rw [e]
  simp only [c9,go_sem,↓reduceIte,Za,Zb,Zc,Zd,Ze,reduceCtorEq,Zf,Zg,Zh,Zi,Zj,Zk]
  refine vcCall.f (rcopy_ok v hv.f _ _) ?_
  simp only [go_sem,↓reduceIte,Za,Zb,Zc,Zd,Ze,reduceCtorEq,Zf,Zg,Zh,Zi,Zj,Zk]
 have cn:¬((0≤v.k∧v.k≤4)∨v.k=9):=by simp at c0 c1 c2 c3 c4 c9;omega
 rw [if_neg cn] at e
 simp only [go_sem,↓reduceIte,Za,Zb,Zc,Zd,Ze,reduceCtorEq,Zf,Zg,Zh,Zi,Zj,Zk]
 refine cdK_of (fun c5=>?_) (fun c5=>?_)
 .rw [if_pos (by simpa using c5)] at e
  simp only [go_sem,↓reduceIte,Za,Zb,Zc,Zd,Ze,reduceCtorEq,Zf,Zg,Zh,Zi,Zj,Zk]
  refine loop (fun q:Nat × Nat=>⟨[(4,.bx m 0),(5,.bx (m+1) 0),(6,.bx (m+2) 0),(7,.bx (m+3) 0),(8,.bx (m+4) 0),(9,.rw (m+5) q.1 q.1),(10,.i .i64 q.1)],
    (m,.bx [.ds (stC s.g),.ds (mapC dfC s.doc),.ds (mapC kyC s.keys),.ds (mapC jnC s.joins)])::(m+1,.bx [.ds (mapC itC d.i),.ds (mapC wrC d.w)])::(m+2,.bx [.i .i64 v.k,.i .i64 v.n,.s v.s,.ds (mapC valC v.items),.ds (stC v.keys)])::(m+3,.bx [.s p.key,.s p.on,.s p.name,.ds (mapC argC p.args),.s p.tn,.ds (mapC in1 p.tw),.s p.label,.i .i64 p.initial,.ds (mapC pkC p.picks)])::(m+4,.bx [.i .i64 0,.i .i64 0,.s ⟨#[]⟩,.e0,.e0])::(m+5,.rw q.1 5 (mapC valC ((v.items.take q.1).map W)))::hp,q.2⟩)
   (fun q=>q.1≤v.items.length∧m+6≤q.2) (fun q=>v.items.length - q.1) (0,m+6) ?_ ?_ (fun ⟨j,n⟩ hj=>?_)
  .simp
  .refine (weak_e0 (t:=9) (m:=5) ?_).trans (weak_ok ?_ (Sub.cons ?_ (Sub.cons ?_ (Sub.cons ?_ (Sub.cons ?_ (Sub.cons ?_ (Sub.cons ?_ (Sub.base hf ?_))))))) (zna _))
   all_goals (simp (disch:=omega) only [ite_ne,go_sem,↓reduceIte,Za,Zb,Zc,Zd,Ze,reduceCtorEq,Zf,Zg,Zh,Zi,Zj,Zk])
   all_goals rfl
  dsimp only at hj
  obtain ⟨hj1,hj2⟩:=hj
  have hmn:m≤n:=by omega
  simp (disch:=omega) only [ite_ne,go_sem,↓reduceIte,Za,Zb,Zc,Zd,Ze,reduceCtorEq,Zf,Zg,Zh,Zi,Zj,Zk]
  refine cdK_of (fun q=>?_) (fun q=>?_)
  .have q:j<v.items.length:=by simpa using q
   obtain ⟨x,ex⟩:∃x,v.items[j]?=some x:=⟨v.items[j],by simp [q]⟩
   have hx:=h x (List.mem_of_getElem? ex)
   have ht:((v.items.take j).map W).length=j:=by simp;omega
   have hst:=map_take_snocI W ex
   have k1:(j+1)*80≤140737488355328:=by omega
   have k2:j+1≤9223372036854775807:=by omega
   simp (disch:=omega) only [ite_ne,q,getK_s (mapC_get valC ex),go_sem,↓reduceIte,Za,Zb,Zc,Zd,Ze,reduceCtorEq,Zf,Zg,Zh,Zi,Zj,Zk]
   refine dCallR.f (fun _ hp' e=>hx _ _) ?_
   simp (disch:=omega) only [ite_ne,q,getK_s (mapC_get valC ex),ht,k1,k2,go_sem,↓reduceIte,Za,Zb,Zc,Zd,Ze,reduceCtorEq,Zf,Zg,Zh,Zi,Zj,Zk]
   refine ⟨(j+1,_),⟨by dsimp only;omega,by dsimp only;omega⟩,by dsimp only;omega,weak_ok ?_ (Sub.cons ?_ (Sub.cons ?_ (Sub.cons ?_ (Sub.cons ?_ (Sub.cons ?_ (Sub.cons ?_ (Sub.base hf ?_))))))) (zna _)⟩
   all_goals
    simp (disch:=omega) only [ite_ne,wr64s j (by omega),hst,hmn,go_sem,↓reduceIte,Za,Zb,Zc,Zd,Ze,reduceCtorEq,Zf,Zg,Zh,Zi,Zj,Zk]
  .have q:j=v.items.length:=by simp at q;omega
   subst q
   have hl1:(v.items.map W).length=v.items.length:=by simp
   have hl2:(v.items.map W).take v.items.length=v.items.map W:=List.take_of_length_le (by omega)
   rw [List.take_length]
   simp (disch:=omega) only [ite_ne,go_sem,↓reduceIte,Za,Zb,Zc,Zd,Ze,reduceCtorEq,Zf,Zg,Zh,Zi,Zj,Zk]
   refine vcCall.p (List_ok (v.items.map W) (by omega) (fun y hy=>?_) _ _) ?_ ?_
   .obtain ⟨x,hx,rfl⟩:=List.mem_map.1 hy
    exact hFt x hx
   .simp (disch:=omega) only [ite_ne,hl1,hl2,zna,go_sem,↓reduceIte,Za,Zb,Zc,Zd,Ze,reduceCtorEq,Zf,Zg,Zh,Zi,Zj,Zk]
   subst e
   simp (disch:=omega) only [ite_ne,hmn,go_sem,↓reduceIte,Za,Zb,Zc,Zd,Ze,reduceCtorEq,Zf,Zg,Zh,Zi,Zj,Zk]
 have c5':¬v.k=5:=by simpa using c5
 rw [if_neg c5'] at e
 simp only [go_sem,↓reduceIte,Za,Zb,Zc,Zd,Ze,reduceCtorEq,Zf,Zg,Zh,Zi,Zj,Zk]
 refine cdK_of (fun c6=>?_) (fun c6=>?_)
 .rw [if_pos (by simpa using c6)] at e
  subst e
  simp only [go_sem,↓reduceIte,Za,Zb,Zc,Zd,Ze,reduceCtorEq,Zf,Zg,Zh,Zi,Zj,Zk]
  refine vcCall.f (rfail_ok _ _ _) ?_
  simp only [go_sem,↓reduceIte,Za,Zb,Zc,Zd,Ze,reduceCtorEq,Zf,Zg,Zh,Zi,Zj,Zk]
  rfl
 have c6':¬v.k=6:=by simpa using c6
 rw [if_neg c6'] at e
 simp only [go_sem,↓reduceIte,Za,Zb,Zc,Zd,Ze,reduceCtorEq,Zf,Zg,Zh,Zi,Zj,Zk]
 refine cdK_of (fun c8=>?_) (fun c8=>?_)
 .rw [if_pos (by simpa using c8)] at e
  simp only [go_sem,↓reduceIte,Za,Zb,Zc,Zd,Ze,reduceCtorEq,Zf,Zg,Zh,Zi,Zj,Zk]
  refine vcCall.f (hEx _ _) ?_
  simp only [go_sem,↓reduceIte,Za,Zb,Zc,Zd,Ze,reduceCtorEq,Zf,Zg,Zh,Zi,Zj,Zk]
  cases X with
  | false =>
   rw [if_neg (by simp)] at e
   subst e
   simp only [go_sem,↓reduceIte,Za,Zb,Zc,Zd,Ze,reduceCtorEq,Zf,Zg,Zh,Zi,Zj,Zk]
   rfl
  | true =>
   rw [if_pos rfl] at e
   simp only [go_sem,↓reduceIte,Za,Zb,Zc,Zd,Ze,reduceCtorEq,Zf,Zg,Zh,Zi,Zj,Zk]
   refine vcCall.f (hC _ _) ?_
   simp only [go_sem,↓reduceIte,Za,Zb,Zc,Zd,Ze,reduceCtorEq,Zf,Zg,Zh,Zi,Zj,Zk]
   cases C with
   | false =>
    rw [if_neg (by simp)] at e
    subst e
    simp only [go_sem,↓reduceIte,Za,Zb,Zc,Zd,Ze,reduceCtorEq,Zf,Zg,Zh,Zi,Zj,Zk]
    refine vcCall.f (rfail_ok _ _ _) ?_
    simp only [go_sem,↓reduceIte,Za,Zb,Zc,Zd,Ze,reduceCtorEq,Zf,Zg,Zh,Zi,Zj,Zk]
    rfl
   | true =>
    rw [if_pos rfl] at e
    subst e
    simp only [go_sem,↓reduceIte,Za,Zb,Zc,Zd,Ze,reduceCtorEq,Zf,Zg,Zh,Zi,Zj,Zk]
    refine vcCall.f (hOn _ _) ?_
    simp only [go_sem,↓reduceIte,Za,Zb,Zc,Zd,Ze,reduceCtorEq,Zf,Zg,Zh,Zi,Zj,Zk]
 .rw [if_neg (by simpa using c8)] at e
  subst e
  simp only [go_sem,↓reduceIte,Za,Zb,Zc,Zd,Ze,reduceCtorEq,Zf,Zg,Zh,Zi,Zj,Zk]
  rfl
theorem rRaw_ok (s:Sup) (hs:SOk s) (d:Dat) {B:Nat} (hd:DOk d B) (p:Pk) (hobf:∀i,(objectV s d p.picks i).Fit)
  (hO:∀i hp m,MeetsF Tryz.prog 158 hp m [supx s,dx d,.i .i64 i,.ds (mapC pkC p.picks)] (vx (objectV s d p.picks i)))
  (v:Val) (hv:VSm v) (hp:CH) (m:Nat):MeetsF Tryz.prog 137 hp m [supx s,dx d,vx v,pkx p] (vx (rawW d (compB s.doc p.tn) (objectV s d p.picks) v)):=by
 have:=Val.ind (Q:=fun v=>VSm v→∀hp m,MeetsF Tryz.prog 137 hp m [supx s,dx d,vx v,pkx p] (vx (rawW d (compB s.doc p.tn) (objectV s d p.picks) v)))
  (fun v ih hv hp m=>rRaw_of s hs d hd p hobf hO v hv (fun x hx=>ih x hx ⟨hv.f.x hx,hv.r.x hx,by
   have h1:=hv.b
   have h2:avL (valC x)≤avLL (mapC valC v.items):=avLL_in (List.mem_map_of_mem (f:=valC) hx)
   rw [avL_val] at h1
   omega⟩) hp m) v
 exact this hv hp m
theorem rread_of (s:Sup) (hs:SOk s) (d:Dat) {B:Nat} (hd:DOk d B) (p:Pk) (ha:AOk p.args)
  (hRw:∀v,VSm v→∀hp m,MeetsF Tryz.prog 137 hp m [supx s,dx d,vx v,pkx p] (vx (rawW d (compB s.doc p.tn) (objectV s d p.picks) v)))
  (i:Int) (hi:exB d i=true) (hp:CH) (m:Nat):MeetsF Tryz.prog 86 hp m [supx s,dx d,.i .i64 i,pkx p] (vx (pickV s d p i)):=by
 have hF:=rfails_ok s hs d hd i p
 have hA:=rArgs_ok s hs d hd i p ha
 have hL:=rLookup_ok d hd.f.f i p.name (ofL (argT s d i p))
 have hR:=hRw _ (lookV_sm hd i p.name (ofL (argT s d i p)))
 obtain ⟨R,hRe⟩:∃R,pickV s d p i=R:=⟨_,rfl⟩
 have e:=hRe
 rw [pickV_eq,pickW] at e
 unfold sTypename at e
 rw [hRe]
 obtain ⟨W,hW⟩:∃W,rawW d (compB s.doc p.tn) (objectV s d p.picks) (lookV d i p.name (ofL (argT s d i p)))=W:=⟨_,rfl⟩
 rw [hW] at e hR
 obtain ⟨v,hv⟩:∃v,lookV d i p.name (ofL (argT s d i p))=v:=⟨_,rfl⟩
 rw [hv] at hL hR
 obtain ⟨A,hAe⟩:∃A,ofL (argT s d i p)=A:=⟨_,rfl⟩
 rw [hAe] at hA hL
 obtain ⟨F,hFe⟩:∃F,failB s d i p=F:=⟨_,rfl⟩
 rw [hFe] at hF e
 obtain ⟨i',x,rfl,ex,hil,ht⟩:=exB_at hi
 rw [ht] at e
 refine meetsF Tryz.func86 (by kernel_rfl) cc86 cr86 rfl fun hf=>?_;unfold ck86
 simp only [go_sem,↓reduceIte,Za,Zb,Zc,Zd,Ze,reduceCtorEq,Zf,Zg,Zh,Zi,Zj,Zk]
 refine cdK_of (fun c=>?_) (fun c=>?_)
 .rw [if_pos (by simpa using c)] at e
  subst e
  simp (disch:=omega) only [ite_ne,hil,getK_s (mapC_get itC ex),go_sem,↓reduceIte,Za,Zb,Zc,Zd,Ze,reduceCtorEq,Zf,Zg,Zh,Zi,Zj,Zk]
  refine vcCall.f (text_ok _ _ _) ?_
  simp only [go_sem,↓reduceIte,Za,Zb,Zc,Zd,Ze,reduceCtorEq,Zf,Zg,Zh,Zi,Zj,Zk]
 rw [if_neg (by simpa using c)] at e
 simp only [go_sem,↓reduceIte,Za,Zb,Zc,Zd,Ze,reduceCtorEq,Zf,Zg,Zh,Zi,Zj,Zk]
 refine vcCall.f (hF _ _) ?_
 simp only [go_sem,↓reduceIte,Za,Zb,Zc,Zd,Ze,reduceCtorEq,Zf,Zg,Zh,Zi,Zj,Zk]
 cases F with
 | true =>
  rw [if_pos rfl] at e
  subst e
  simp only [go_sem,↓reduceIte,Za,Zb,Zc,Zd,Ze,reduceCtorEq,Zf,Zg,Zh,Zi,Zj,Zk]
  refine vcCall.f (rfail_ok _ _ _) ?_
  simp only [go_sem,↓reduceIte,Za,Zb,Zc,Zd,Ze,reduceCtorEq,Zf,Zg,Zh,Zi,Zj,Zk]
  rfl
 | false =>
  rw [if_neg (by simp)] at e
  subst e
  simp only [go_sem,↓reduceIte,Za,Zb,Zc,Zd,Ze,reduceCtorEq,Zf,Zg,Zh,Zi,Zj,Zk]
  refine dCallR.f (fun _ hp' e=>hA _ _) ?_
  simp (disch:=omega) only [ite_ne,go_sem,↓reduceIte,Za,Zb,Zc,Zd,Ze,reduceCtorEq,Zf,Zg,Zh,Zi,Zj,Zk]
  refine dCallR.f (fun _ hp' e=>hL _ _) ?_
  simp (disch:=omega) only [ite_ne,go_sem,↓reduceIte,Za,Zb,Zc,Zd,Ze,reduceCtorEq,Zf,Zg,Zh,Zi,Zj,Zk]
  refine dCallR.f (fun _ hp' e=>hR _ _) ?_
  simp (disch:=omega) only [ite_ne,go_sem,↓reduceIte,Za,Zb,Zc,Zd,Ze,reduceCtorEq,Zf,Zg,Zh,Zi,Zj,Zk]
end Go.Proofs.YtinbodeocoeneaaGreatDoor
