/- Proof. Conditions: none. -/
import Derived.Test.YtinbodeocoeneaaGreatDoorIs46
open Nat renaming reduceEqDiff→Za,reduceBEq→Zb,reduceAdd→Zc,reduceLeDiff→Zd,reduceLT→Ze,reduceMul→Zf,reduceSub→Zg
open Int renaming reduceEq→Zh,reduceLT→Zi,reduceLE→Zj,reduceToNat→Zk
open List renaming take_of_length_le→zlk
open Nat renaming le_refl→zna
namespace Go.Proofs.YtinbodeocoeneaaGreatDoor
open Go.Eng
set_option linter.all false
set_option maxRecDepth 20000
def RdM (s:Sup) (d:Dat) (f:FuncId) (args:List AV) (r:AV):Prop:=∀(c:Nat) (hp:CH),gc hp c=.bx (rdC s d)→∀m,MeetsF Tryz.prog f hp m (.bx c 0::args) r
theorem traw_of (s:Sup) (hs:SOk s) (d:Dat) {B:Nat} (hd:DOk d B) (p:Pk)
  (hO:∀i,RdM s d 152 [.i .i64 i,.ds (mapC pkC p.picks)] (vx (objectV s d p.picks i)))
  (v:Val) (hv:VSm v) (h:∀x∈v.items,RdM s d 186 [vx x,pkx p] (vx (rawW d (compB s.doc p.tn) (objectV s d p.picks) x))) :
  RdM s d 186 [vx v,pkx p] (vx (rawW d (compB s.doc p.tn) (objectV s d p.picks) v)):=by
 intro k hp hk m
 have hvi:=hv.f.i
 have e:=rawW_eq d (compB s.doc p.tn) (objectV s d p.picks) v
 have hC:=tComposite_ok s.doc (Nat.le_trans hs.d (by omega)) p.tn
 obtain ⟨C,hCe⟩:∃C,compB s.doc p.tn=C:=⟨_,rfl⟩
 obtain ⟨W,hW⟩:∃W,rawW d C (objectV s d p.picks)=W:=⟨_,rfl⟩
 rw [hCe] at e hC h ⊢
 rw [hW] at e h ⊢
 obtain ⟨R,hR⟩:∃R,W v=R:=⟨_,rfl⟩
 rw [hR] at e ⊢
 have hOn:=hO v.n
 obtain ⟨O,hOe⟩:∃O,objectV s d p.picks v.n=O:=⟨_,rfl⟩
 rw [hOe] at e hOn
 have hIt:=fun hp' (q:gc hp' k=.bx (rdC s d)) m'=>ritem_ok s d v.n (c:=k) (hp:=hp') q m'
 obtain ⟨I,hI⟩:∃I,itD d v.n=I:=⟨_,rfl⟩
 obtain ⟨X,hX⟩:∃X,exB d v.n=X:=⟨_,rfl⟩
 rw [hX] at e
 rw [hI,hX] at hIt
 refine meetsF Tryz.func186 (by kernel_rfl) cc186 cr186 rfl fun hf=>?_;unfold ck186
 have hlt:=bx_lt hf hk
 simp only [go_sem,↓reduceIte,Za,Zb,Zc,Zd,Ze,reduceCtorEq,Zf,Zg,Zh,Zi,Zj,Zk]
 refine cdK_of (fun c0=>?_) (fun c0=>?_)
 .rw [if_pos (by simp at c0;omega)] at e
  rw [e]
  simp only [c0,go_sem,↓reduceIte,Za,Zb,Zc,Zd,Ze,reduceCtorEq,Zf,Zg,Zh,Zi,Zj,Zk]
 simp only [go_sem,↓reduceIte,Za,Zb,Zc,Zd,Ze,reduceCtorEq,Zf,Zg,Zh,Zi,Zj,Zk]
 refine cdK_of (fun c1=>?_) (fun c1=>?_)
 .rw [if_pos (by simp at c1;omega)] at e
  rw [e]
  simp only [c1,go_sem,↓reduceIte,Za,Zb,Zc,Zd,Ze,reduceCtorEq,Zf,Zg,Zh,Zi,Zj,Zk]
 simp only [go_sem,↓reduceIte,Za,Zb,Zc,Zd,Ze,reduceCtorEq,Zf,Zg,Zh,Zi,Zj,Zk]
 refine cdK_of (fun c2=>?_) (fun c2=>?_)
 .rw [if_pos (by simp at c2;omega)] at e
  rw [e]
  simp only [c2,go_sem,↓reduceIte,Za,Zb,Zc,Zd,Ze,reduceCtorEq,Zf,Zg,Zh,Zi,Zj,Zk]
 simp only [go_sem,↓reduceIte,Za,Zb,Zc,Zd,Ze,reduceCtorEq,Zf,Zg,Zh,Zi,Zj,Zk]
 refine cdK_of (fun c3=>?_) (fun c3=>?_)
 .rw [if_pos (by simp at c3;omega)] at e
  rw [e]
  simp only [c3,go_sem,↓reduceIte,Za,Zb,Zc,Zd,Ze,reduceCtorEq,Zf,Zg,Zh,Zi,Zj,Zk]
 simp only [go_sem,↓reduceIte,Za,Zb,Zc,Zd,Ze,reduceCtorEq,Zf,Zg,Zh,Zi,Zj,Zk]
 refine cdK_of (fun c4=>?_) (fun c4=>?_)
 .rw [if_pos (by simp at c4;omega)] at e
  rw [e]
  simp only [c4,go_sem,↓reduceIte,Za,Zb,Zc,Zd,Ze,reduceCtorEq,Zf,Zg,Zh,Zi,Zj,Zk]
 simp only [go_sem,↓reduceIte,Za,Zb,Zc,Zd,Ze,reduceCtorEq,Zf,Zg,Zh,Zi,Zj,Zk]
 refine cdK_of (fun c9=>?_) (fun c9=>?_)
 .rw [if_pos (by simp at c9;omega)] at e
  rw [e]
  simp only [c9,go_sem,↓reduceIte,Za,Zb,Zc,Zd,Ze,reduceCtorEq,Zf,Zg,Zh,Zi,Zj,Zk]
 have cn:¬((0≤v.k∧v.k≤4)∨v.k=9):=by simp at c0 c1 c2 c3 c4 c9;omega
 rw [if_neg cn] at e
 simp only [go_sem,↓reduceIte,Za,Zb,Zc,Zd,Ze,reduceCtorEq,Zf,Zg,Zh,Zi,Zj,Zk]
 refine cdK_of (fun c5=>?_) (fun c5=>?_)
 .rw [if_pos (by simpa using c5)] at e
  simp only [go_sem,↓reduceIte,Za,Zb,Zc,Zd,Ze,reduceCtorEq,Zf,Zg,Zh,Zi,Zj,Zk]
  refine loop (fun q:Nat × Nat=>⟨[(0,.bx k 0),(5,.bx (m+1) 0),(6,.bx (m+2) 0),(7,.bx (m+3) 0),(26,.ds (mapC valC v.items)),(27,.i .i64 v.items.length),(28,.i .i64 q.1)],
    (m+1,.bx [.s p.key,.s p.on,.s p.name,.ds (mapC argC p.args),.s p.tn,.ds (mapC in1 p.tw),.s p.label,.i .i64 p.initial,.ds (mapC pkC p.picks)])::(m+2,.bx [.i .i64 0,.i .i64 0,.s ⟨#[]⟩,.e0,.e0])::(m+3,.bx [.i .i64 5,.i .i64 0,.s ⟨#[]⟩,.rw (m+4) q.1 q.1,.e0])::(m+4,.rw q.1 5 (mapC valC ((v.items.take q.1).map W)))::hp,q.2⟩)
   (fun q=>q.1≤v.items.length∧m+5≤q.2) (fun q=>v.items.length - q.1) (0,m+5) ?_ ?_ (fun ⟨j,n⟩ hj=>?_)
  .simp
  .refine (weak_b0 (c:=m+3) (i:=3) (m:=5) (gc_same _ _ _) rfl).trans (weak_ok ?_ (Sub.cons ?_ (Sub.cons ?_ (Sub.cons ?_ (Sub.cons ?_ (Sub.base hf ?_))))) (zna _))
   all_goals (simp (disch:=omega) only [ite_ne,go_sem,↓reduceIte,Za,Zb,Zc,Zd,Ze,reduceCtorEq,Zf,Zg,Zh,Zi,Zj,Zk])
   all_goals rfl
  dsimp only at hj
  obtain ⟨hj1,hj2⟩:=hj
  have hmn:m≤n:=by omega
  simp (disch:=omega) only [ite_ne,go_sem,↓reduceIte,Za,Zb,Zc,Zd,Ze,reduceCtorEq,Zf,Zg,Zh,Zi,Zj,Zk]
  refine cdK_of (fun q=>?_) (fun q=>?_)
  .have q:j<v.items.length:=by simpa using q
   obtain ⟨x,ex⟩:∃x,v.items[j]?=some x:=⟨v.items[j],by simp [q]⟩
   have hx:=h x (List.mem_of_getElem? ex) k
   have ht:((v.items.take j).map W).length=j:=by simp;omega
   have hst:=map_take_snocI W ex
   have k1:(j+1)*80≤140737488355328:=by omega
   have k2:j+1≤9223372036854775807:=by omega
   simp (disch:=omega) only [ite_ne,q,getK_s (mapC_get valC ex),go_sem,↓reduceIte,Za,Zb,Zc,Zd,Ze,reduceCtorEq,Zf,Zg,Zh,Zi,Zj,Zk]
   refine dCallR.f (fun _ hp' e=>hx _ ((e k (.inl (by omega))).trans (by (simp (disch:=omega) only [ite_ne,hk,go_sem,↓reduceIte,Za,Zb,Zc,Zd,Ze,reduceCtorEq,Zf,Zg,Zh,Zi,Zj,Zk]))) _) ?_
   simp (disch:=omega) only [ite_ne,q,getK_s (mapC_get valC ex),ht,k1,k2,go_sem,↓reduceIte,Za,Zb,Zc,Zd,Ze,reduceCtorEq,Zf,Zg,Zh,Zi,Zj,Zk]
   refine ⟨(j+1,_),⟨by dsimp only;omega,by dsimp only;omega⟩,by dsimp only;omega,weak_ok ?_ (Sub.cons ?_ (Sub.cons ?_ (Sub.cons ?_ (Sub.cons ?_ (Sub.base hf ?_))))) (zna _)⟩
   all_goals
    simp (disch:=omega) only [ite_ne,wr64s j (by omega),hst,hmn,go_sem,↓reduceIte,Za,Zb,Zc,Zd,Ze,reduceCtorEq,Zf,Zg,Zh,Zi,Zj,Zk]
  .have q:j=v.items.length:=by simp at q;omega
   subst q
   have hl1:(v.items.map W).length=v.items.length:=by simp
   have hl2:(v.items.map W).take v.items.length=v.items.map W:=zlk (by omega)
   rw [List.take_length]
   subst e
   simp (disch:=omega) only [ite_ne,hl1,hl2,zna,hmn,go_sem,↓reduceIte,Za,Zb,Zc,Zd,Ze,reduceCtorEq,Zf,Zg,Zh,Zi,Zj,Zk]
   try rfl
 have c5':¬v.k=5:=by simpa using c5
 rw [if_neg c5'] at e
 simp only [go_sem,↓reduceIte,Za,Zb,Zc,Zd,Ze,reduceCtorEq,Zf,Zg,Zh,Zi,Zj,Zk]
 refine cdK_of (fun c6=>?_) (fun c6=>?_)
 .rw [if_pos (by simpa using c6)] at e
  subst e
  simp only [go_sem,↓reduceIte,Za,Zb,Zc,Zd,Ze,reduceCtorEq,Zf,Zg,Zh,Zi,Zj,Zk]
  refine vcCall.f (tfail_ok _ _ _) ?_
  simp only [go_sem,↓reduceIte,Za,Zb,Zc,Zd,Ze,reduceCtorEq,Zf,Zg,Zh,Zi,Zj,Zk]
  rfl
 have c6':¬v.k=6:=by simpa using c6
 rw [if_neg c6'] at e
 simp only [go_sem,↓reduceIte,Za,Zb,Zc,Zd,Ze,reduceCtorEq,Zf,Zg,Zh,Zi,Zj,Zk]
 refine cdK_of (fun c8=>?_) (fun c8=>?_)
 .rw [if_pos (by simpa using c8)] at e
  simp only [go_sem,↓reduceIte,Za,Zb,Zc,Zd,Ze,reduceCtorEq,Zf,Zg,Zh,Zi,Zj,Zk]
  refine vcCall.f (hIt _ (by (simp (disch:=omega) only [ite_ne,hk,go_sem,↓reduceIte,Za,Zb,Zc,Zd,Ze,reduceCtorEq,Zf,Zg,Zh,Zi,Zj,Zk])) _) ?_
  simp only [go_sem,↓reduceIte,Za,Zb,Zc,Zd,Ze,reduceCtorEq,Zf,Zg,Zh,Zi,Zj,Zk]
  cases X with
  | false =>
   rw [if_neg (by simp)] at e
   subst e
   simp only [go_sem,↓reduceIte,Za,Zb,Zc,Zd,Ze,reduceCtorEq,Zf,Zg,Zh,Zi,Zj,Zk]
   rfl
  | true =>
   rw [if_pos rfl] at e
   simp (disch:=omega) only [ite_ne,hk,go_sem,↓reduceIte,Za,Zb,Zc,Zd,Ze,reduceCtorEq,Zf,Zg,Zh,Zi,Zj,Zk]
   refine dCallR.f (fun _ hp' e=>hC _ _) ?_
   simp (disch:=omega) only [ite_ne,go_sem,↓reduceIte,Za,Zb,Zc,Zd,Ze,reduceCtorEq,Zf,Zg,Zh,Zi,Zj,Zk]
   cases C with
   | false =>
    rw [if_neg (by simp)] at e
    subst e
    simp only [go_sem,↓reduceIte,Za,Zb,Zc,Zd,Ze,reduceCtorEq,Zf,Zg,Zh,Zi,Zj,Zk]
    refine vcCall.f (tfail_ok _ _ _) ?_
    simp only [go_sem,↓reduceIte,Za,Zb,Zc,Zd,Ze,reduceCtorEq,Zf,Zg,Zh,Zi,Zj,Zk]
    rfl
   | true =>
    rw [if_pos rfl] at e
    subst e
    simp only [go_sem,↓reduceIte,Za,Zb,Zc,Zd,Ze,reduceCtorEq,Zf,Zg,Zh,Zi,Zj,Zk]
    refine vcCall.f (hOn _ _ (by (simp (disch:=omega) only [ite_ne,hk,go_sem,↓reduceIte,Za,Zb,Zc,Zd,Ze,reduceCtorEq,Zf,Zg,Zh,Zi,Zj,Zk])) _) ?_
    simp only [go_sem,↓reduceIte,Za,Zb,Zc,Zd,Ze,reduceCtorEq,Zf,Zg,Zh,Zi,Zj,Zk]
 .rw [if_neg (by simpa using c8)] at e
  subst e
  simp only [go_sem,↓reduceIte,Za,Zb,Zc,Zd,Ze,reduceCtorEq,Zf,Zg,Zh,Zi,Zj,Zk]
  rfl
theorem traw_ok (s:Sup) (hs:SOk s) (d:Dat) {B:Nat} (hd:DOk d B) (p:Pk)
  (hO:∀i,RdM s d 152 [.i .i64 i,.ds (mapC pkC p.picks)] (vx (objectV s d p.picks i)))
  (v:Val) (hv:VSm v):RdM s d 186 [vx v,pkx p] (vx (rawW d (compB s.doc p.tn) (objectV s d p.picks) v)):=by
 have:=Val.ind (Q:=fun v=>VSm v→RdM s d 186 [vx v,pkx p] (vx (rawW d (compB s.doc p.tn) (objectV s d p.picks) v)))
  (fun v ih hv=>traw_of s hs d hd p hO v hv (fun x hx=>ih x hx ⟨hv.f.x hx,hv.r.x hx,by
   have h1:=hv.b
   have h2:avL (valC x)≤avLL (mapC valC v.items):=avLL_in (List.mem_map_of_mem (f:=valC) hx)
   rw [avL_val] at h1
   omega⟩)) v
 exact this hv
theorem tpick_of (s:Sup) (hs:SOk s) (d:Dat) {B:Nat} (hd:DOk d B) (p:Pk) (ha:AOk p.args)
  (hRw:∀v,VSm v→RdM s d 186 [vx v,pkx p] (vx (rawW d (compB s.doc p.tn) (objectV s d p.picks) v)))
  (i:Int):RdM s d 171 [.i .i64 i,.s (typD d i),pkx p] (vx (pickV s d p i)):=by
 intro k hp hk m
 have hA:=fun hp' (q:gc hp' k=.bx (rdC s d)) m'=>targs_ok s hs d hd i p ha (c:=k) (hp:=hp') q m'
 have hL:=dLookup_ok d hd.f.f i p.name (ofL (argT s d i p))
 have hR:=hRw _ (lookV_sm hd i p.name (ofL (argT s d i p))) k
 obtain ⟨R,hRe⟩:∃R,pickV s d p i=R:=⟨_,rfl⟩
 have e:=hRe
 rw [pickV_eq,pickW] at e
 unfold sTypename at e
 rw [hRe]
 obtain ⟨W,hW⟩:∃W,rawW d (compB s.doc p.tn) (objectV s d p.picks) (lookV d i p.name (ofL (argT s d i p)))=W:=⟨_,rfl⟩
 rw [hW] at e hR
 obtain ⟨v,hv⟩:∃v,lookV d i p.name (ofL (argT s d i p))=v:=⟨_,rfl⟩
 rw [hv] at hL hR
 obtain ⟨A,hAe⟩:∃A,ofL (argT s d i p)=A:=⟨_,rfl⟩
 rw [hAe] at hA hL
 obtain ⟨F,hFe⟩:∃F,failB s d i p=F:=⟨_,rfl⟩
 rw [hFe] at hA e
 obtain ⟨T,hT⟩:∃T,typD d i=T:=⟨_,rfl⟩
 rw [hT] at e ⊢
 refine meetsF Tryz.func171 (by kernel_rfl) cc171 cr171 rfl fun hf=>?_;unfold ck171
 have hlt:=bx_lt hf hk
 simp only [go_sem,↓reduceIte,Za,Zb,Zc,Zd,Ze,reduceCtorEq,Zf,Zg,Zh,Zi,Zj,Zk]
 refine cdK_of (fun c=>?_) (fun c=>?_)
 .rw [if_pos (by simpa using c)] at e
  subst e
  simp only [go_sem,↓reduceIte,Za,Zb,Zc,Zd,Ze,reduceCtorEq,Zf,Zg,Zh,Zi,Zj,Zk]
  refine vcCall.f (vText_ok _ _ _) ?_
  simp only [go_sem,↓reduceIte,Za,Zb,Zc,Zd,Ze,reduceCtorEq,Zf,Zg,Zh,Zi,Zj,Zk]
 rw [if_neg (by simpa using c)] at e
 simp only [go_sem,↓reduceIte,Za,Zb,Zc,Zd,Ze,reduceCtorEq,Zf,Zg,Zh,Zi,Zj,Zk]
 refine vcCall.f (hA _ (by (simp (disch:=omega) only [ite_ne,hk,go_sem,↓reduceIte,Za,Zb,Zc,Zd,Ze,reduceCtorEq,Zf,Zg,Zh,Zi,Zj,Zk])) _) ?_
 simp only [go_sem,↓reduceIte,Za,Zb,Zc,Zd,Ze,reduceCtorEq,Zf,Zg,Zh,Zi,Zj,Zk]
 cases F with
 | true =>
  rw [if_pos rfl] at e
  subst e
  simp only [go_sem,↓reduceIte,Za,Zb,Zc,Zd,Ze,reduceCtorEq,Zf,Zg,Zh,Zi,Zj,Zk]
  refine vcCall.f (tfail_ok _ _ _) ?_
  simp only [go_sem,↓reduceIte,Za,Zb,Zc,Zd,Ze,reduceCtorEq,Zf,Zg,Zh,Zi,Zj,Zk]
  rfl
 | false =>
  rw [if_neg (by simp)] at e
  subst e
  simp (disch:=omega) only [ite_ne,hk,go_sem,↓reduceIte,Za,Zb,Zc,Zd,Ze,reduceCtorEq,Zf,Zg,Zh,Zi,Zj,Zk]
  refine dCallR.f (fun _ hp' e=>hL _ _) ?_
  simp (disch:=omega) only [ite_ne,hk,go_sem,↓reduceIte,Za,Zb,Zc,Zd,Ze,reduceCtorEq,Zf,Zg,Zh,Zi,Zj,Zk]
  refine dCallR.f (fun _ hp' e=>hR _ ((e k (.inl (by omega))).trans (by (simp (disch:=omega) only [ite_ne,hk,go_sem,↓reduceIte,Za,Zb,Zc,Zd,Ze,reduceCtorEq,Zf,Zg,Zh,Zi,Zj,Zk]))) _) ?_
  simp (disch:=omega) only [ite_ne,go_sem,↓reduceIte,Za,Zb,Zc,Zd,Ze,reduceCtorEq,Zf,Zg,Zh,Zi,Zj,Zk]
set_option maxHeartbeats 1000000 in
theorem tObject_of (s:Sup) (hs:SOk s) (d:Dat) {B:Nat} (hd:DOk d B) (l:List Pk) (hl:l.length≤1048576)
  (h:∀p∈l,∀i,RdM s d 171 [.i .i64 i,.s (typD d i),pkx p] (vx (pickV s d p i)))
  (i:Int):RdM s d 152 [.i .i64 i,.ds (mapC pkC l)] (vx (objectV s d l i)):=by
 intro k hp hk m
 have hIt:=fun hp' (q:gc hp' k=.bx (rdC s d)) m'=>ritem_ok s d i (c:=k) (hp:=hp') q m'
 obtain ⟨R,hR⟩:∃R,objectV s d l i=R:=⟨_,rfl⟩
 have e:=hR
 rw [objectV] at e
 rw [hR]
 obtain ⟨X,hX⟩:∃X,exB d i=X:=⟨_,rfl⟩
 have h2:=fun p hp=>h p hp i
 rw [hX] at e hIt
 refine meetsF Tryz.func152 (by kernel_rfl) cc152 cr152 rfl fun hf=>?_;unfold ck152
 have hlt:=bx_lt hf hk
 simp only [go_sem,↓reduceIte,Za,Zb,Zc,Zd,Ze,reduceCtorEq,Zf,Zg,Zh,Zi,Zj,Zk]
 refine vcCall.f (hIt _ (by (simp (disch:=omega) only [ite_ne,hk,go_sem,↓reduceIte,Za,Zb,Zc,Zd,Ze,reduceCtorEq,Zf,Zg,Zh,Zi,Zj,Zk])) _) ?_
 cases X with
 | false =>
  rw [if_neg (by simp)] at e
  subst e
  simp only [go_sem,↓reduceIte,Za,Zb,Zc,Zd,Ze,reduceCtorEq,Zf,Zg,Zh,Zi,Zj,Zk]
  rfl
 | true =>
 rw [if_pos rfl] at e
 obtain ⟨i',x,rfl,ex,hil,ht⟩:=exB_at hX
 have hF:∀j p,l[j]?=some p→fieldsV s d (l.take (j+1)) i'=if p.on=x.t then fieldsV s d (l.take j) i'++[(p.key,pickV s d p i')] else fieldsV s d (l.take j) i':=by
  intro j p hjp
  rw [←take_snoc hjp,fieldsV_eq,fieldsV_eq,List.filter_append,List.map_append,ht]
  by_cases c:p.on=x.t
  .rw [if_pos c];simp [c]
  .rw [if_neg c];simp [c]
 rw [ht] at e h2
 rw [itD_at ex hil]
 have hq:∀j,(fieldsV s d (l.take j) i').length≤j:=fun j=>by
  have:=fieldsV_len s d (l.take j) i'
  rw [List.length_take] at this
  omega
 simp only [go_sem,↓reduceIte,Za,Zb,Zc,Zd,Ze,reduceCtorEq,Zf,Zg,Zh,Zi,Zj,Zk]
 refine vcCall.f (vText_ok _ _ _) ?_
 simp only [go_sem,↓reduceIte,Za,Zb,Zc,Zd,Ze,reduceCtorEq,Zf,Zg,Zh,Zi,Zj,Zk]
 refine loop (fun q:Nat × List (ByteArray × Val) × Nat=>⟨[(0,.bx k 0),(1,.i .i64 i'),(6,.bx m 0),(7,.bx (m+1) 0),(9,.bx (m+4) 0),(27,.ds (mapC pkC l)),(28,.i .i64 l.length),(29,.i .i64 q.1)],
   (m,.bx [.i .i64 0,.i .i64 0,.s ⟨#[]⟩,.e0,.e0])::(m+1,.bx [.s x.t,.ds (mapC celC x.l)]) ::
   (m+4,.bx [.i .i64 6,.i .i64 0,.s ⟨#[]⟩,.rw (m+3) q.2.1.length (q.2.1.length+1),.rw (m+2) q.2.1.length (q.2.1.length+1)])::(m+3,.rw q.2.1.length 5 (mapC valC (txV x.t::q.2.1.map (·.2))))::(m+2,.rw q.2.1.length 1 (stC (⟨#[95,95,116]⟩::q.2.1.map (·.1))))::hp,q.2.2⟩)
  (fun q=>q.1≤l.length∧m+5≤q.2.2∧q.2.1=fieldsV s d (l.take q.1) i') (fun q=>l.length - q.1) (0,[],m+5) ?_ ?_ (fun ⟨j,F,n⟩ hj=>?_)
 .exact ⟨by simp,by simp,by dsimp only;rw [List.take_zero,fieldsV_eq];rfl⟩
 .refine weak_ok ?_ (Sub.cons ?_ (Sub.cons ?_ (Sub.cons ?_ (Sub.cons ?_ (Sub.cons ?_ (Sub.base hf ?_)))))) (zna _)
  all_goals (simp (disch:=omega) only [ite_ne,go_sem,↓reduceIte,Za,Zb,Zc,Zd,Ze,reduceCtorEq,Zf,Zg,Zh,Zi,Zj,Zk])
  all_goals rfl
 dsimp only at hj
 obtain ⟨hj1,hj2,hj3⟩:=hj
 have hmn:m≤n:=by omega
 have hFl:F.length≤j:=by rw [hj3];exact hq j
 simp (disch:=omega) only [ite_ne,go_sem,↓reduceIte,Za,Zb,Zc,Zd,Ze,reduceCtorEq,Zf,Zg,Zh,Zi,Zj,Zk]
 refine cdK_of (fun q=>?_) (fun q=>?_)
 .have q:j<l.length:=by simpa using q
  obtain ⟨p,ep⟩:∃p,l[j]?=some p:=⟨l[j],by simp [q]⟩
  have hst:=hF j p ep
  have hrd:=h2 p (List.mem_of_getElem? ep) k
  rw [←hj3] at hst
  have hl1:(F.map (·.2)).length=F.length:=by simp
  have hl2:(F.map (·.1)).length=F.length:=by simp
  have k1:(F.length+1+1)*80≤140737488355328:=by omega
  have k2:(F.length+1+1)*16≤140737488355328:=by omega
  have k3:F.length+1+1≤9223372036854775807:=by omega
  have k4:l.length - (j+1)<l.length - j:=by omega
  simp (disch:=omega) only [ite_ne,q,getK_s (mapC_get pkC ep),go_sem,↓reduceIte,Za,Zb,Zc,Zd,Ze,reduceCtorEq,Zf,Zg,Zh,Zi,Zj,Zk]
  refine cdK_of (fun c=>?_) (fun c=>?_)
  .have c:¬p.on=x.t:=by simpa using c
   rw [if_neg c] at hst
   simp (disch:=omega) only [ite_ne,go_sem,↓reduceIte,Za,Zb,Zc,Zd,Ze,reduceCtorEq,Zf,Zg,Zh,Zi,Zj,Zk]
   refine ⟨(j+1,F,_),⟨by dsimp only;omega,by dsimp only;omega,hst.symm⟩,k4,weak_ok ?_ (Sub.cons ?_ (Sub.cons ?_ (Sub.cons ?_ (Sub.cons ?_ (Sub.cons ?_ (Sub.base hf ?_)))))) (zna _)⟩
   all_goals
    simp (disch:=omega) only [ite_ne,wr64s j (by omega),hmn,go_sem,↓reduceIte,Za,Zb,Zc,Zd,Ze,reduceCtorEq,Zf,Zg,Zh,Zi,Zj,Zk]
  .have c:p.on=x.t:=by simpa using c
   rw [if_pos c] at hst
   simp (disch:=omega) only [ite_ne,hl1,hl2,k1,k2,k3,go_sem,↓reduceIte,Za,Zb,Zc,Zd,Ze,reduceCtorEq,Zf,Zg,Zh,Zi,Zj,Zk]
   refine dCallR.f (fun _ hp' e=>hrd _ ((e k (.inl (by omega))).trans (by (simp (disch:=omega) only [ite_ne,hk,go_sem,↓reduceIte,Za,Zb,Zc,Zd,Ze,reduceCtorEq,Zf,Zg,Zh,Zi,Zj,Zk]))) _) ?_
   simp (disch:=omega) only [ite_ne,hl1,hl2,k1,k2,k3,go_sem,↓reduceIte,Za,Zb,Zc,Zd,Ze,reduceCtorEq,Zf,Zg,Zh,Zi,Zj,Zk]
   refine ⟨(j+1,F++[(p.key,pickV s d p i')],_),⟨by dsimp only;omega,by dsimp only;omega,hst.symm⟩,k4,weak_ok ?_ (Sub.cons ?_ (Sub.cons ?_ (Sub.cons ?_ (Sub.cons ?_ (Sub.cons ?_ (Sub.base hf ?_)))))) (zna _)⟩
   all_goals
    simp (disch:=omega) only [ite_ne,wr64s j (by omega),hmn,List.length_append,List.length_cons,List.length_nil,List.map_append,List.map_cons,List.map_nil,go_sem,↓reduceIte,Za,Zb,Zc,Zd,Ze,reduceCtorEq,Zf,Zg,Zh,Zi,Zj,Zk]
 .have q:j=l.length:=by simp at q;omega
  subst q
  rw [List.take_length] at hj3
  rw [←hj3] at e
  subst e
  have hl1:(F.map (·.2)).length=F.length:=by simp
  have hl2:(F.map (·.1)).length=F.length:=by simp
  have hl3:(F.map (·.2)).take F.length=F.map (·.2):=zlk (by omega)
  have hl4:(F.map (·.1)).take F.length=F.map (·.1):=zlk (by omega)
  simp (disch:=omega) only [ite_ne,hl1,hl2,hl3,hl4,zna,hmn,go_sem,↓reduceIte,Za,Zb,Zc,Zd,Ze,reduceCtorEq,Zf,Zg,Zh,Zi,Zj,Zk]
  try rfl
theorem tpick_ok (s:Sup) (hs:SOk s) (d:Dat) {B:Nat} (hd:DOk d B) (p:Pk) (hpo:p.Ok) (i:Int):RdM s d 171 [.i .i64 i,.s (typD d i),pkx p] (vx (pickV s d p i)):=by
 have:=Pk.ind (Q:=fun p=>p.Ok→∀i,RdM s d 171 [.i .i64 i,.s (typD d i),pkx p] (vx (pickV s d p i)))
  (fun p ih hpo i=>tpick_of s hs d hd p hpo.a (fun v hv=>traw_ok s hs d hd p
   (fun i=>tObject_of s hs d hd p.picks hpo.l (fun x hx i=>ih x hx (hpo.x hx) i) i) v hv) i) p
 exact this hpo i
theorem tobject_ok (s:Sup) (hs:SOk s) (d:Dat) {B:Nat} (hd:DOk d B) (l:List Pk) (hl:l.length≤1048576) (hpo:∀p∈l,p.Ok) (i:Int):RdM s d 152 [.i .i64 i,.ds (mapC pkC l)] (vx (objectV s d l i)) :=
 tObject_of s hs d hd l hl (fun x hx i=>tpick_ok s hs d hd x (hpo x hx) i) i
theorem tObject_ok (s:Sup) (hs:SOk s) (d:Dat) {B:Nat} (hd:DOk d B) (l:List Pk) (hl:l.length≤1048576) (hpo:∀p∈l,p.Ok) (i:Int) (hp:CH) (m:Nat) :
  MeetsF Tryz.prog 125 hp m [supx s,dx d,.i .i64 i,.ds (mapC pkC l)] (vx (objectV s d l i)):=by
 have hO:=tobject_ok s hs d hd l hl hpo i
 obtain ⟨R,hR⟩:∃R,objectV s d l i=R:=⟨_,rfl⟩
 rw [hR] at hO ⊢
 refine meetsF Tryz.func125 (by kernel_rfl) cc125 cr125 rfl fun hf=>?_;unfold ck125
 simp only [go_sem,↓reduceIte,Za,Zb,Zc,Zd,Ze,reduceCtorEq,Zf,Zg,Zh,Zi,Zj,Zk]
 refine vcCall.f (hO _ _ (gc_same _ _ _) _) ?_
 simp only [go_sem,↓reduceIte,Za,Zb,Zc,Zd,Ze,reduceCtorEq,Zf,Zg,Zh,Zi,Zj,Zk]
theorem tArgs_ok (s:Sup) (hs:SOk s) (d:Dat) {B:Nat} (hd:DOk d B) (i:Int) (p:Pk) (ha:AOk p.args) (hp:CH) (m:Nat):MeetsF Tryz.prog 76 hp m [supx s,dx d,.i .i64 i,pkx p] (.s (ofL (argT s d i p))):=by
 have hA:=fun c hp' q m'=>targs_ok s hs d hd i p ha (c:=c) (hp:=hp') q m'
 refine meetsF Tryz.func76 (by kernel_rfl) cc76 cr76 rfl fun hf=>?_;unfold ck76
 simp only [go_sem,↓reduceIte,Za,Zb,Zc,Zd,Ze,reduceCtorEq,Zf,Zg,Zh,Zi,Zj,Zk]
 refine vcCall.f (hA _ _ (gc_same _ _ _) _) ?_
 simp only [go_sem,↓reduceIte,Za,Zb,Zc,Zd,Ze,reduceCtorEq,Zf,Zg,Zh,Zi,Zj,Zk]
end Go.Proofs.YtinbodeocoeneaaGreatDoor
