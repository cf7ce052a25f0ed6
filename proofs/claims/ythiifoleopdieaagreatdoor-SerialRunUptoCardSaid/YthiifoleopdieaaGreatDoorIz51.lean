/- Proof. Conditions: none. -/
import Derived.Test.YthiifoleopdieaaGreatDoorIz50
open Nat renaming reduceEqDiff→Za,reduceBEq→Zb,reduceAdd→Zc,reduceLeDiff→Zd,reduceLT→Ze,reduceMul→Zf,reduceSub→Zg
open Int renaming reduceEq→Zh,reduceLT→Zi,reduceLE→Zj,reduceToNat→Zk
open List renaming length_cons→zlc,length_nil→zle,getElem?_map→zlp,length_map→zlv
open Nat renaming le_refl→zna
namespace Go.Proofs.YthiifoleopdieaaGreatDoor
open Go.Eng
set_option linter.all false
set_option maxRecDepth 20000
set_option maxHeartbeats 1000000
theorem tRun_qry (s:Sup) (hs:SOk s) (d:Dat) {B:Nat} (hd:DOk d B) (p:Pln) (hk:¬p.k=2) (hl:p.l.length≤1048576) (hpo:∀x∈p.l,x.Ok) (hp:CH) (m:Nat) :
  MeetsF Tryz.prog 17 hp m [supx s,dx d,plx p] (.tp [vx (runV s d p).1,dx (runV s d p).2]):=by
 have hRt:=tRoot_ok p.k
 rw [runV,decide_eq_false hk,runL_query]
 obtain ⟨root,hroot⟩:∃root,rootS p.k=root:=⟨_,rfl⟩
 rw [hroot] at hRt ⊢
 dsimp only
 have h1:=tread_ok s hs d hd root p.l hl hpo
 rw [readV] at h1
 obtain ⟨R,hR⟩:∃R,objV root (if 0≤itemI d root then fieldsV s d p.l (itemI d root) else noneF root p.l)=R:=⟨_,rfl⟩
 rw [hR] at h1 ⊢
 have h2:decide (p.k=2)=false:=by simp [hk]
 refine meetsF Tryz.func17 (by kernel_rfl) cc17 cr17 rfl fun hf=>?_;unfold ck17
 simp only [go_sem,↓reduceIte,Za,Zb,Zc,Zd,Ze,reduceCtorEq,Zf,Zg,Zh,Zi,Zj,Zk]
 refine vcCall.f (hRt _ _) ?_
 simp only [h2,hk,go_sem,↓reduceIte,Za,Zb,Zc,Zd,Ze,reduceCtorEq,Zf,Zg,Zh,Zi,Zj,Zk]
 refine dCallR.f (fun _ hp' e=>h1 _ _) ?_
 simp only [h2,hk,go_sem,↓reduceIte,Za,Zb,Zc,Zd,Ze,reduceCtorEq,Zf,Zg,Zh,Zi,Zj,Zk]
 refine dCallR.f (fun _ hp' e=>icopied_ok d hd.f _ _) ?_
 simp only [h2,hk,go_sem,↓reduceIte,Za,Zb,Zc,Zd,Ze,reduceCtorEq,Zf,Zg,Zh,Zi,Zj,Zk]
theorem tRun_ok (s:Sup) (hs:SOk s) (d:Dat) {B:Nat} (hd:DOk d B) (p:Pln) (hl:p.l.length≤1048576) (hpo:∀x∈p.l,x.Ok) (hB:p.k=2→B+p.l.length*d.w.length≤100000000000) (hp:CH) (m:Nat) :
  MeetsF Tryz.prog 17 hp m [supx s,dx d,plx p] (.tp [vx (runV s d p).1,dx (runV s d p).2]):=by
 by_cases hk:p.k=2
 .exact tRun_mut s hs d hd p hk hl hpo (hB hk) hp m
 .exact tRun_qry s hs d hd p hk hl hpo hp m
def fx1:AV→AV
 | .e0=>.ds []
 | α=>α
def fx2:AV→AV
 | .ds L=>.ds (L.map fun e=>e.map fx1)
 | α=>fx1 α
def fx3:AV→AV
 | .ag l=>.ag (l.map fx2)
 | α=>fx2 α
theorem fx1_rel {h:HP} {α:AV} {v:Value} (r:PRel h α v):PRel h (fx1 α) v:=by
 cases r with
 | e0 a=>exact .ds [] 0 a 0 (fun _ _=>undef) (by simp) (fun j e q=>by simp at q) (fun j e q α q1=>by simp at q1) (fun q=>absurd rfl q)
 | un v=>exact .un v
 | b x=>exact .b x
 | i k n=>exact .i k n
 | s x=>exact .s x
 | ag l vs e h1=>exact .ag l vs e h1
 | tp l vs e h1=>exact .tp l vs e h1
 | ds l n a cap us hc hn hm hx=>exact .ds l n a cap us hc hn hm hx
 | np=>exact .np
 | mn=>exact .mn
 | nf=>exact .nf
 | ni=>exact .ni
 | fc t x v h1=>exact .fc t x v h1
 | gd c x v h1 h2=>exact .gd c x v h1 h2
theorem fx2_rel {h:HP} {α:AV} {v:Value} (r:PRel h α v):PRel h (fx2 α) v:=by
 cases r with
 | ds l n a cap us hc hn hm hx =>
  have e:(l.map fun e=>e.map fx1).length=l.length:=by simp
  rw [fx2,←e]
  refine .ds _ n a cap us (by omega) (fun j x hj=>?_) (fun j x q α hj hq=>?_) (fun hne=>?_)
  .rw [zlp] at hj
   obtain ⟨y,hy,rfl⟩:=Option.map_eq_some_iff.1 hj
   rw [zlv]
   exact hn j y hy
  .rw [zlp] at hj
   obtain ⟨y,hy,rfl⟩:=Option.map_eq_some_iff.1 hj
   rw [zlp] at hq
   obtain ⟨z,hz,rfl⟩:=Option.map_eq_some_iff.1 hq
   exact fx1_rel (hm j y q z hy hz)
  .obtain ⟨b,off,ea,hcell⟩:=hx (fun q=>hne (by rw [q];rfl))
   refine ⟨b,off,ea,fun j x q α hj hq=>?_⟩
   rw [zlp] at hj
   obtain ⟨y,hy,rfl⟩:=Option.map_eq_some_iff.1 hj
   rw [zlp] at hq
   obtain ⟨z,hz,rfl⟩:=Option.map_eq_some_iff.1 hq
   exact hcell j y q z hy hz
 | e0 a=>exact fx1_rel (.e0 a)
 | un v=>exact .un v
 | b x=>exact .b x
 | i k n=>exact .i k n
 | s x=>exact .s x
 | ag l vs e h1=>exact .ag l vs e h1
 | tp l vs e h1=>exact .tp l vs e h1
 | np=>exact .np
 | mn=>exact .mn
 | nf=>exact .nf
 | ni=>exact .ni
 | fc t x v h1=>exact .fc t x v h1
 | gd c x v h1 h2=>exact .gd c x v h1 h2
theorem fx3_pre {h:HP} {α:AV} {v:Value} (r:PRel h α v):PRel h (fx3 α) v:=by
 cases α with
 | ag l =>
  cases r with
  | ag _ vs e h1 =>
   refine .ag _ vs (by rw [zlv];exact e) fun j β u a b=>?_
   rw [zlp] at a
   obtain ⟨y,hy,rfl⟩:=Option.map_eq_some_iff.1 a
   exact fx2_rel (h1 j y u hy b)
 | _=>exact fx2_rel r
theorem fx2_r {h:HP} {ρ:RO} {α:AV} {v:Value} (r:Rel h ρ α v):Rel h ρ (fx2 α) v:=by
 cases r with
 | pu _ _ p=>exact .pu _ _ (fx2_rel p)
 | ag l vs e h1=>exact .ag l vs e h1
 | tp l vs e h1=>exact .tp l vs e h1
 | bx k off b c e=>exact .bx k off b c e
 | rw k g len cap a ob e1 e2 e3=>exact .rw k g len cap a ob e1 e2 e3
 | ep α n i off b o len cap h1 h2=>exact .ep α n i off b o len cap h1 h2
 | mp k b c e=>exact .mp k b c e
 | fn f l vs e h1=>exact .fn f l vs e h1
 | fc t x v h1=>exact .fc t x v h1
 | gd c x v h1 h2=>exact .gd c x v h1 h2
theorem fx3_r {h:HP} {ρ:RO} {α:AV} {v:Value} (r:Rel h ρ α v):Rel h ρ (fx3 α) v:=by
 cases r with
 | pu _ _ p=>exact .pu _ _ (fx3_pre p)
 | ag l vs e h1 =>
  refine .ag _ vs (by rw [zlv];exact e) fun j β u a b=>?_
  rw [zlp] at a
  obtain ⟨y,hy,rfl⟩:=Option.map_eq_some_iff.1 a
  exact fx2_r (h1 j y u hy b)
 | tp l vs e h1=>exact .tp l vs e h1
 | bx k off b c e=>exact .bx k off b c e
 | rw k g len cap a ob e1 e2 e3=>exact .rw k g len cap a ob e1 e2 e3
 | ep α n i off b o len cap h1 h2=>exact .ep α n i off b o len cap h1 h2
 | mp k b c e=>exact .mp k b c e
 | fn f l vs e h1=>exact .fn f l vs e h1
 | fc t x v h1=>exact .fc t x v h1
 | gd c x v h1 h2=>exact .gd c x v h1 h2
theorem MeetsF.fix {P:Program} {f:FuncId} {hp:CH} {n:Nat} {args args':List AV} {r:AV} (e:args'.map fx3=args) (m:MeetsF P f hp n args r):MeetsF P f hp n args' r :=
 ⟨m.1,fun h ρ w vs hs ha=>m.2 h ρ w vs hs ⟨by rw [←e,zlv];exact ha.1,fun j β u a b=>by
  rw [←e,zlp] at a
  obtain ⟨y,hy,rfl⟩:=Option.map_eq_some_iff.1 a
  exact fx3_r (ha.2 j y u hy b)⟩⟩
def inV (n:Int):Val:=.mk 2 n ⟨#[]⟩ [] []
theorem in_fit (n:Int):(inV n).Fit:=.mk _ (by simp [inV,Val.items_mk]) (by simp [inV,Val.keys_mk]) (by simp [inV,Val.items_mk])
theorem int_ok (n:Int) (hp:CH) (m:Nat):MeetsF Tryz.prog 28 hp m [.i .i64 n] (vx (inV n)):=by
 refine meetsF Tryz.func28 (by kernel_rfl) cc28 cr28 rfl fun hf=>?_;unfold ck28
 simp only [go_sem,↓reduceIte,Za,Zb,Zc,Zd,Ze,reduceCtorEq,Zf,Zg,Zh,Zi,Zj,Zk]
 rfl
def obV (k:ByteArray) (n:Int):Val:=.mk 6 0 ⟨#[]⟩ [txV ⟨#[77,117,116,97,116,105,111,110]⟩,inV n] [⟨#[95,95,116]⟩,k]
theorem ob_fit (k:ByteArray) (n:Int):(obV k n).Fit:=.mk _ (by simp [obV,Val.items_mk]) (by simp [obV,Val.keys_mk]) (by simp [obV,Val.items_mk,tx_fit,in_fit])
theorem object_ok (k:ByteArray) (n:Int) (hp:CH) (m:Nat):MeetsF Tryz.prog 55 hp m [.s k,.i .i64 n] (vx (obV k n)):=by
 refine meetsF Tryz.func55 (by kernel_rfl) cc55 cr55 rfl fun hf=>?_;unfold ck55
 simp only [go_sem,↓reduceIte,Za,Zb,Zc,Zd,Ze,reduceCtorEq,Zf,Zg,Zh,Zi,Zj,Zk]
 refine vcCall.f (text_ok _ _ _) ?_
 simp only [go_sem,↓reduceIte,Za,Zb,Zc,Zd,Ze,reduceCtorEq,Zf,Zg,Zh,Zi,Zj,Zk]
 refine vcCall.f (int_ok _ _ _) ?_
 simp only [go_sem,↓reduceIte,Za,Zb,Zc,Zd,Ze,reduceCtorEq,Zf,Zg,Zh,Zi,Zj,Zk]
 rfl
def exA:List Val:=[obV ⟨#[97]⟩ 1,zVal,obV ⟨#[98]⟩ 2]
theorem exA1:(joinV exA).keys=[⟨#[95,95,116]⟩,⟨#[97]⟩,⟨#[98]⟩]:=by decide +kernel
theorem exA2:(joinV exA).items.length=3:=by decide +kernel
theorem exA3:((joinV exA).items.map Val.n)=[0,1,2]:=by decide +kernel
def exW (i:Int):Wri:=.mk ⟨#[115,101,116]⟩ ⟨#[]⟩ i (.mk ⟨#[]⟩ ⟨#[]⟩ zVal)
def exT:Dat:=.mk (List.replicate 5 (.mk ⟨#[]⟩ [])) [exW 3,exW 3,exW 9]
theorem exT1:tchD exT ⟨#[115,101,116]⟩ ⟨#[120,58,32,49]⟩=[3]:=by rw [tchD_eq];decide +kernel
theorem exT_fit:exT.Fit:=.mk _ (by decide) (by decide) (by simp [exT,Dat.i_mk,Itm.l_mk]) (by simp [exT,exW,Dat.w_mk,Wri.c_mk,Cel.v_mk,zVal_fit])
def pkK (k:ByteArray):Pk:=.mk k ⟨#[]⟩ ⟨#[]⟩ [] ⟨#[]⟩ [] ⟨#[]⟩ 0 []
theorem pkK_fit (k:ByteArray):(pkK k).Fit:=.mk _ (by simp [pkK,Pk.args]) (by simp [pkK,Pk.tw]) (by simp [pkK,Pk.picks]) (by simp [pkK,Pk.args]) (by simp [pkK,Pk.picks])
def exP:Pln:=.mk 2 [pkK ⟨#[97]⟩,pkK ⟨#[98]⟩]
theorem knows_ok (hp:CH) (m:Nat):MeetsF Tryz.prog 23 hp m [] (.b true):=by
 have a1:=exA1
 have a2:=exA2
 have a3:=exA3
 refine meetsF Tryz.func23 (by kernel_rfl) cc23 cr23 rfl fun hf=>?_;unfold ck23
 simp only [go_sem,↓reduceIte,Za,Zb,Zc,Zd,Ze,reduceCtorEq,Zf,Zg,Zh,Zi,Zj,Zk]
 refine vcCall.f (object_ok _ _ _ _) ?_
 simp only [go_sem,↓reduceIte,Za,Zb,Zc,Zd,Ze,reduceCtorEq,Zf,Zg,Zh,Zi,Zj,Zk]
 refine vcCall.f (object_ok _ _ _ _) ?_
 simp only [go_sem,↓reduceIte,Za,Zb,Zc,Zd,Ze,reduceCtorEq,Zf,Zg,Zh,Zi,Zj,Zk]
 refine vcCall.f (sJoin_ok exA (by decide) (by simp [exA,ob_fit,zVal_fit]) (by decide) _ _) ?_
 obtain ⟨J,hJ⟩:∃J,joinV exA=J:=⟨_,rfl⟩
 rw [hJ] at a1 a2 a3 ⊢
 simp (disch:=omega) only [ite_ne,go_sem,↓reduceIte,Za,Zb,Zc,Zd,Ze,reduceCtorEq,Zf,Zg,Zh,Zi,Zj,Zk]
 refine ⟨by omega,vcCall.q (args':=[.ag [.ds (List.replicate 5 [AV.s ⟨#[]⟩,.e0]),.ds (mapC wrC exT.w)],.s ⟨#[115,101,116]⟩,.s ⟨#[120,58,32,49]⟩]) (MeetsF.fix (args:=[dx exT,.s ⟨#[115,101,116]⟩,.s ⟨#[120,58,32,49]⟩]) rfl (dTouched_ok exT exT_fit (by decide) _ _ _ _)) ?_ ?_⟩
 .simp (disch:=omega) only [ite_ne,go_sem,↓reduceIte,Za,Zb,Zc,Zd,Ze,reduceCtorEq,Zf,Zg,Zh,Zi,Zj,Zk]
  rfl
 rw [exT1]
 simp (disch:=omega) only [ite_ne,go_sem,↓reduceIte,Za,Zb,Zc,Zd,Ze,reduceCtorEq,Zf,Zg,Zh,Zi,Zj,Zk]
 refine vcCall.f (sSplit_ok exP (by decide) (by simp [exP,Pln.l_mk,pkK_fit]) _ _) ?_
 have eS:mapC plC (splitP exP)=[[AV.i .i64 2,.ds [pkC (pkK ⟨#[97]⟩)]],[AV.i .i64 2,.ds [pkC (pkK ⟨#[98]⟩)]]]:=rfl
 rw [eS]
 clear hJ
 obtain ⟨k,nn,s,its,ks⟩:=J
 simp only [Val.keys_mk,Val.items_mk] at a1 a2 a3
 subst a1
 obtain ⟨x,y,z,rfl⟩:=ds_n3 a2
 simp only [List.map_cons,List.map_nil,List.cons.injEq,and_true] at a3
 obtain ⟨-,-,a3⟩:=a3
 simp (disch:=omega) only [ite_ne,a3,mapC_cons,mapC_nil,zlc,zle,st1,pkK,Pk.key,go_sem,↓reduceIte,Za,Zb,Zc,Zd,Ze,reduceCtorEq,Zf,Zg,Zh,Zi,Zj,Zk]
 refine gCall.f (fun _=>MeetsF.cv (args':=[.ds []]) rfl (sJoin_ok [] (by simp) (by simp) (by simp [szJ]) _ _)) ?_
 simp (disch:=omega) only [ite_ne,go_sem,↓reduceIte,Za,Zb,Zc,Zd,Ze,reduceCtorEq,Zf,Zg,Zh,Zi,Zj,Zk]
 rfl
set_option maxHeartbeats 4000000 in
theorem rRun_found (s:Sup) (hs:SOk s) (d:Dat) {B:Nat} (hd:DOk d B) (p:Pln) (hl:p.l.length≤1048576) (hpo:∀x∈p.l,x.Ok) (hB:p.k=2→B+p.l.length*d.w.length≤100000000000) (hI0:0≤itemI d (rootS p.k)) (hp:CH) (m:Nat) :
  MeetsF Tryz.prog 18 hp m [supx s,dx d,plx p] (.tp [vx (runV s d p).1,dx (runV s d p).2]):=by
 have hRt:=rRoot_ok' p.k
 have hCl:=rCloneF_ok d hd.f.f hd.f.w
 rw [runV]
 obtain ⟨mu,hmu⟩:∃mu,decide (p.k=2)=mu:=⟨_,rfl⟩
 have hB:mu=true→B+p.l.length*d.w.length≤100000000000:=fun h=>hB (by rw [←hmu] at h;simpa using h)
 obtain ⟨root,hroot⟩:∃root,rootS p.k=root:=⟨_,rfl⟩
 rw [hroot] at hRt hI0 ⊢
 rw [hmu]
 have hinv:=runL_inv s mu root d p.l hd hB
 have hlen:=runL_len s mu root d p.l
 have hstep:=fun j x (h:p.l[j]?=some x)=>runL_step (s:=s) (mu:=mu) (root:=root) (d:=d) h
 obtain ⟨RF,hRF⟩:∃RF,runL s mu root d p.l=RF:=⟨_,rfl⟩
 rw [hRF]
 have hIt:=rRoot_ok d hd.f.f root
 change ∀hp m,MeetsF Tryz.prog 50 hp m [dx d,.s root] (resI (itemI d root)) at hIt
 rw [resI,if_pos hI0,decide_eq_true hI0] at hIt
 obtain ⟨I,hI⟩:∃I,itemI d root=I:=⟨_,rfl⟩
 rw [hI] at hIt hI0
 refine meetsF Tryz.func18 (by kernel_rfl) cc18 cr18 rfl fun hf=>?_;unfold ck18
 simp (disch:=omega) only [ite_ne,go_sem,↓reduceIte,Za,Zb,Zc,Zd,Ze,reduceCtorEq,Zf,Zg,Zh,Zi,Zj,Zk]
 refine vcCall.f (hRt _ _) ?_
 simp (disch:=omega) only [ite_ne,go_sem,↓reduceIte,Za,Zb,Zc,Zd,Ze,reduceCtorEq,Zf,Zg,Zh,Zi,Zj,Zk]
 refine vcCall.f (hCl _ _) ?_
 simp (disch:=omega) only [ite_ne,go_sem,↓reduceIte,Za,Zb,Zc,Zd,Ze,reduceCtorEq,Zf,Zg,Zh,Zi,Zj,Zk]
 refine vcCall.f (hIt _ _) ?_
 simp (disch:=omega) only [ite_ne,go_sem,↓reduceIte,Za,Zb,Zc,Zd,Ze,reduceCtorEq,Zf,Zg,Zh,Zi,Zj,Zk]
 refine vcCall.f (text_ok _ _ _) ?_
 simp (disch:=omega) only [ite_ne,go_sem,↓reduceIte,Za,Zb,Zc,Zd,Ze,reduceCtorEq,Zf,Zg,Zh,Zi,Zj,Zk]
 refine loop (fun q:Nat × List (ByteArray × Val) × Dat × Nat=>⟨[(3,.bx m 0),(4,.bx (m+1) 0),(5,.bx (m+2) 0),(6,.bx (m+3) 0),(7,.bx (m+4) 0),(8,.s root),(9,.i .i64 I),(10,.b true),(11,.bx (m+7) 0),(12,.i .i64 q.1)],
   (m,.bx [.ds (stC s.g),.ds (mapC dfC s.doc),.ds (mapC kyC s.keys),.ds (mapC jnC s.joins)])::(m+1,.bx [.ds (mapC itC q.2.2.1.i),.ds (mapC wrC q.2.2.1.w)])::(m+2,.bx [.i .i64 p.k,.ds (mapC pkC p.l)])::(m+3,.bx [.i .i64 0,.i .i64 0,.s ⟨#[]⟩,.e0,.e0])::(m+4,.bx [.e0,.e0]) ::
   (m+7,.bx [.i .i64 6,.i .i64 0,.s ⟨#[]⟩,.rw (m+6) q.2.1.length (q.2.1.length+1),.rw (m+5) q.2.1.length (q.2.1.length+1)])::(m+6,.rw q.2.1.length 5 (mapC valC (txV root::q.2.1.map (·.2))))::(m+5,.rw q.2.1.length 1 (stC (⟨#[95,95,116]⟩::q.2.1.map (·.1))))::hp,q.2.2.2⟩)
  (fun q=>q.1≤p.l.length∧m+8≤q.2.2.2∧(q.2.1,q.2.2.1)=runL s mu root d (p.l.take q.1)) (fun q=>p.l.length - q.1) (0,[],d,m+8) ?_ ?_ (fun ⟨j,F,D,n⟩ hj=>?_)
 .exact ⟨by simp,by simp,by dsimp only;rw [List.take_zero];rfl⟩
 .refine weak_ok ?_ (Sub.cons ?_ (Sub.cons ?_ (Sub.cons ?_ (Sub.cons ?_ (Sub.cons ?_ (Sub.cons ?_ (Sub.cons ?_ (Sub.cons ?_ (Sub.base hf ?_))))))))) (zna _)
  all_goals (simp (disch:=omega) only [ite_ne,go_sem,↓reduceIte,Za,Zb,Zc,Zd,Ze,reduceCtorEq,Zf,Zg,Zh,Zi,Zj,Zk])
  all_goals rfl
 dsimp only at hj
 obtain ⟨hj1,hj2,hj3⟩:=hj
 have hmn:m≤n:=by omega
 have hFl:F.length≤j:=by have:=hlen j;rw [←hj3] at this;exact this
 have hV:=hinv j hj1
 rw [←hj3] at hV
 obtain ⟨hI1,hI2,hI3⟩:=hV
 dsimp only at hI1 hI2 hI3
 have hl1:(F.map (·.2)).length=F.length:=by simp
 have hl2:(F.map (·.1)).length=F.length:=by simp
 simp (disch:=omega) only [ite_ne,go_sem,↓reduceIte,Za,Zb,Zc,Zd,Ze,reduceCtorEq,Zf,Zg,Zh,Zi,Zj,Zk]
 refine cdK_of (fun q=>?_) (fun q=>?_)
 .have q:j<p.l.length:=by simpa using q
  obtain ⟨x,ex⟩:∃x,p.l[j]?=some x:=⟨p.l[j],by simp [q]⟩
  have hxo:=hpo x (List.mem_of_getElem? ex)
  have hst:=hstep j x ex
  rw [←hj3,runS] at hst
  have k1:(F.length+1+1)*80≤140737488355328:=by omega
  have k2:(F.length+1+1)*16≤140737488355328:=by omega
  have k3:F.length+1+1≤9223372036854775807:=by omega
  have k4:p.l.length - (j+1)<p.l.length - j:=by omega
  simp (disch:=omega) only [ite_ne,q,getK_s (mapC_get pkC ex),hmn,go_sem,↓reduceIte,Za,Zb,Zc,Zd,Ze,reduceCtorEq,Zf,Zg,Zh,Zi,Zj,Zk]
  refine cdK_of (fun c=>?_) (fun c=>?_)
  .have c:¬x.on=root:=by simpa using c
   rw [if_neg c] at hst
   simp (disch:=omega) only [ite_ne,hmn,go_sem,↓reduceIte,Za,Zb,Zc,Zd,Ze,reduceCtorEq,Zf,Zg,Zh,Zi,Zj,Zk]
   refine ⟨(j+1,F,D,_),⟨by dsimp only;omega,by dsimp only;omega,hst.symm⟩,k4,weak_ok ?_ (Sub.cons ?_ (Sub.cons ?_ (Sub.cons ?_ (Sub.cons ?_ (Sub.cons ?_ (Sub.cons ?_ (Sub.cons ?_ (Sub.cons ?_ (Sub.base hf ?_))))))))) (zna _)⟩
   all_goals
    simp (disch:=omega) only [ite_ne,wr64s j (by omega),hmn,go_sem,↓reduceIte,Za,Zb,Zc,Zd,Ze,reduceCtorEq,Zf,Zg,Zh,Zi,Zj,Zk]
  .have hon:x.on=root:=by simpa using c
   rw [if_pos hon] at hst
   dsimp only at hst
   have hTx:=rText_ok x.args (fun a h=>(hxo.a.v a h).ok) (Nat.le_trans hxo.a.b (by omega)) (Nat.le_trans hxo.a.n (by omega))
   have hD'0:=rootD_dok (s:=s) (mu:=mu) (root:=root) (x:=x) hI3 (fun hm=>by
    rw [if_pos hm,hI1]
    have:(j+1)*d.w.length≤p.l.length*d.w.length:=Nat.mul_le_mul_right _ q
    rw [Nat.add_mul,Nat.one_mul] at this
    have:=hB hm
    omega)
   have hDI:itemI (rootD s mu root D x) root=I:=by rw [rootD_item,hI2,hI]
   have hDr:rootD s mu root D x=if (mu&&!decide (x.name=⟨#[95,95,116,121,112,101,110,97,109,101]⟩))=true then appV D x.name (ofL (argT s D I x)) else D:=by
    unfold rootD rootT
    rw [hI2,hI,if_pos hI0]
    rfl
   have hAr:=rArgs_ok s hs D hI3 I x hxo.a
   have hAp:=rApply_ok D hI3.f x.name (ofL (argT s D I x))
   obtain ⟨T,hT⟩:∃T,ofL (argT s D I x)=T:=⟨_,rfl⟩
   rw [hT] at hAr hAp hDr
   simp (disch:=omega) only [ite_ne,hmn,hmu,go_sem,↓reduceIte,Za,Zb,Zc,Zd,Ze,reduceCtorEq,Zf,Zg,Zh,Zi,Zj,Zk]
   refine cdK_of (fun c3=>?_) (fun c3=>?_)
   .rw [if_pos c3] at hDr
    rw [hDr] at hst hD'0 hDI
    obtain ⟨D',hD'e⟩:∃D',appV D x.name T=D':=⟨_,rfl⟩
    rw [hD'e] at hst hD'0 hDI hAp
    have hRd:=rpick_ok s hs D' hD'0 x hxo I (by rw [←hDI];exact (itemI_ex (by rw [hDI];exact hI0)).1)
    have hP:rootP s root D' x=pickV s D' x I:=by rw [rootP,hDI,if_pos hI0]
    obtain ⟨P,hPe⟩:∃P,pickV s D' x I=P:=⟨_,rfl⟩
    rw [hPe] at hRd hP
    rw [hP] at hst
    simp (disch:=omega) only [ite_ne,hmn,go_sem,↓reduceIte,Za,Zb,Zc,Zd,Ze,reduceCtorEq,Zf,Zg,Zh,Zi,Zj,Zk]
    refine vcCall.f (hTx _ _) ?_
    simp (disch:=omega) only [ite_ne,hmn,go_sem,↓reduceIte,Za,Zb,Zc,Zd,Ze,reduceCtorEq,Zf,Zg,Zh,Zi,Zj,Zk]
    refine vcCall.f (hAr _ _) ?_
    simp (disch:=omega) only [ite_ne,hmn,go_sem,↓reduceIte,Za,Zb,Zc,Zd,Ze,reduceCtorEq,Zf,Zg,Zh,Zi,Zj,Zk]
    refine vcCall.f (hAp _ _) ?_
    simp (disch:=omega) only [ite_ne,hmn,go_sem,↓reduceIte,Za,Zb,Zc,Zd,Ze,reduceCtorEq,Zf,Zg,Zh,Zi,Zj,Zk]
    refine vcCall.f (hRd _ _) ?_
    simp (disch:=omega) only [ite_ne,hl1,hl2,k1,k2,k3,hmn,go_sem,↓reduceIte,Za,Zb,Zc,Zd,Ze,reduceCtorEq,Zf,Zg,Zh,Zi,Zj,Zk]
    refine ⟨(j+1,F++[(x.key,P)],D',_),⟨by dsimp only;omega,by dsimp only;omega,hst.symm⟩,k4,weak_ok ?_ (Sub.cons ?_ (Sub.cons ?_ (Sub.cons ?_ (Sub.cons ?_ (Sub.cons ?_ (Sub.cons ?_ (Sub.cons ?_ (Sub.cons ?_ (Sub.base hf ?_))))))))) (zna _)⟩
    all_goals
     simp (disch:=omega) only [ite_ne,wr64s j (by omega),hmn,List.length_append,zlc,zle,List.map_append,List.map_cons,List.map_nil,go_sem,↓reduceIte,Za,Zb,Zc,Zd,Ze,reduceCtorEq,Zf,Zg,Zh,Zi,Zj,Zk]
   .rw [if_neg (by rw [c3];simp)] at hDr
    rw [hDr] at hst hD'0 hDI
    obtain ⟨D',hD'e⟩:∃D',D=D':=⟨_,rfl⟩
    rw [hD'e] at hst hD'0 hDI
    rw [hD'e]
    have hRd:=rpick_ok s hs D' hD'0 x hxo I (by rw [←hDI];exact (itemI_ex (by rw [hDI];exact hI0)).1)
    have hP:rootP s root D' x=pickV s D' x I:=by rw [rootP,hDI,if_pos hI0]
    obtain ⟨P,hPe⟩:∃P,pickV s D' x I=P:=⟨_,rfl⟩
    rw [hPe] at hRd hP
    rw [hP] at hst
    simp (disch:=omega) only [ite_ne,hmn,go_sem,↓reduceIte,Za,Zb,Zc,Zd,Ze,reduceCtorEq,Zf,Zg,Zh,Zi,Zj,Zk]
    refine vcCall.f (hRd _ _) ?_
    simp (disch:=omega) only [ite_ne,hl1,hl2,k1,k2,k3,hmn,go_sem,↓reduceIte,Za,Zb,Zc,Zd,Ze,reduceCtorEq,Zf,Zg,Zh,Zi,Zj,Zk]
    refine ⟨(j+1,F++[(x.key,P)],D',_),⟨by dsimp only;omega,by dsimp only;omega,hst.symm⟩,k4,weak_ok ?_ (Sub.cons ?_ (Sub.cons ?_ (Sub.cons ?_ (Sub.cons ?_ (Sub.cons ?_ (Sub.cons ?_ (Sub.cons ?_ (Sub.cons ?_ (Sub.base hf ?_))))))))) (zna _)⟩
    all_goals
     simp (disch:=omega) only [ite_ne,wr64s j (by omega),hmn,List.length_append,zlc,zle,List.map_append,List.map_cons,List.map_nil,go_sem,↓reduceIte,Za,Zb,Zc,Zd,Ze,reduceCtorEq,Zf,Zg,Zh,Zi,Zj,Zk]
 .have q:j=p.l.length:=by simp at q;omega
  subst q
  rw [List.take_length,hRF] at hj3
  subst hj3
  have hl3:(F.map (·.2)).take F.length=F.map (·.2):=List.take_of_length_le (by omega)
  have hl4:(F.map (·.1)).take F.length=F.map (·.1):=List.take_of_length_le (by omega)
  simp (disch:=omega) only [ite_ne,hl1,hl2,hl3,hl4,zna,hmn,go_sem,↓reduceIte,Za,Zb,Zc,Zd,Ze,reduceCtorEq,Zf,Zg,Zh,Zi,Zj,Zk]
  try rfl
end Go.Proofs.YthiifoleopdieaaGreatDoor
