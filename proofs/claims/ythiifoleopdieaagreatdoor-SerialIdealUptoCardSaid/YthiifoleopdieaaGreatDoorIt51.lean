/- Proof. Conditions: none. -/
import Derived.Test.YthiifoleopdieaaGreatDoorProg
import Derived.KernelRfl
import Derived.Test.YthiifoleopdieaaGreatDoorRows
import Derived.WalkKit
import Derived.Test.YthiifoleopdieaaGreatDoorIt50
open Nat renaming reduceEqDiff→zqa,reduceBEq→zqb,reduceAdd→zqc,reduceLeDiff→zqd,reduceLT→zqe,reduceMul→zqf,reduceSub→zqg
open Int renaming reduceEq→zqh,reduceLT→zqi,reduceLE→zqj,reduceToNat→zqk
open List renaming getElem?_map→zlp,mem_map_of_mem→zls,length_map→zlv
namespace Go.Proofs.YthiifoleopdieaaGreatDoor
open Go.Eng
set_option linter.all false
set_option maxRecDepth 20000
set_option maxHeartbeats 1000000
theorem tRun_qry (s:Sup) (hs:SOk s) (d:Dat) {B:Nat} (hd:DOk d B) (p:Pln) (hk:¬p.k=2) (hl:p.l.length≤1048576) (hpo:∀x∈p.l,x.Ok) (hp:CH) (m:Nat) :
  MeetsF Tryz.prog 17 hp m [supx s,dx d,plx p] (.tp [vx (runV s d p).1,dx (runV s d p).2]):=by
 have hRt:=tRoot_ok p.k
 rw [runV,decide_eq_false hk,runL_query]
 obtain ⟨root,hroot⟩:∃root,rootS p.k=root:=⟨_,rfl⟩
 rw [hroot] at hRt ⊢
 dsimp only
 have h1:=tread_ok s hs d hd root p.l hl hpo
 rw [readV] at h1
 obtain ⟨R,hR⟩:∃R,objV root (if 0≤itemI d root then fieldsV s d p.l (itemI d root) else noneF root p.l)=R:=⟨_,rfl⟩
 rw [hR] at h1 ⊢
 have h2:decide (p.k=2)=false:=by simp [hk]
 refine meetsF Tryz.func17 (by kernel_rfl) cc17 cr17 rfl fun hf=>?_;unfold ck17
 simp only [go_sem,↓reduceIte,zqa,zqb,zqc,zqd,zqe,reduceCtorEq,zqf,zqg,zqh,zqi,zqj,zqk]
 refine vcCall.f (hRt _ _) ?_
 simp only [h2,hk,go_sem,↓reduceIte,zqa,zqb,zqc,zqd,zqe,reduceCtorEq,zqf,zqg,zqh,zqi,zqj,zqk]
 refine dCallR.f (fun _ hp' e=>h1 _ _) ?_
 simp only [h2,hk,go_sem,↓reduceIte,zqa,zqb,zqc,zqd,zqe,reduceCtorEq,zqf,zqg,zqh,zqi,zqj,zqk]
 refine dCallR.f (fun _ hp' e=>icopied_ok d hd.f _ _) ?_
 simp only [h2,hk,go_sem,↓reduceIte,zqa,zqb,zqc,zqd,zqe,reduceCtorEq,zqf,zqg,zqh,zqi,zqj,zqk]
theorem tRun_ok (s:Sup) (hs:SOk s) (d:Dat) {B:Nat} (hd:DOk d B) (p:Pln) (hl:p.l.length≤1048576) (hpo:∀x∈p.l,x.Ok) (hB:p.k=2→B+p.l.length*d.w.length≤100000000000) (hp:CH) (m:Nat) :
  MeetsF Tryz.prog 17 hp m [supx s,dx d,plx p] (.tp [vx (runV s d p).1,dx (runV s d p).2]):=by
 by_cases hk:p.k=2
 ·exact tRun_mut s hs d hd p hk hl hpo (hB hk) hp m
 ·exact tRun_qry s hs d hd p hk hl hpo hp m
end Go.Proofs.YthiifoleopdieaaGreatDoor
namespace Go.Proofs.YthiifoleopdieaaGreatDoor
open Go.Eng
set_option linter.all false
set_option maxRecDepth 20000
def fx1:AV→AV
 | .e0=>.ds []
 | α=>α
def fx2:AV→AV
 | .ds L=>.ds (L.map fun e=>e.map fx1)
 | α=>fx1 α
def fx3:AV→AV
 | .ag l=>.ag (l.map fx2)
 | α=>fx2 α
theorem fx1_rel {h:HP} {α:AV} {v:Value} (r:PRel h α v):PRel h (fx1 α) v:=by
 cases r with
 | e0 a=>exact .ds [] 0 a 0 (fun _ _=>undef) (by simp) (fun j e q=>by simp at q) (fun j e q α q1=>by simp at q1) (fun q=>absurd rfl q)
 | un v=>exact .un v
 | b x=>exact .b x
 | i k n=>exact .i k n
 | s x=>exact .s x
 | ag l vs e h1=>exact .ag l vs e h1
 | tp l vs e h1=>exact .tp l vs e h1
 | ds l n a cap us hc hn hm hx=>exact .ds l n a cap us hc hn hm hx
 | np=>exact .np
 | mn=>exact .mn
 | nf=>exact .nf
 | ni=>exact .ni
 | fc t x v h1=>exact .fc t x v h1
 | gd c x v h1 h2=>exact .gd c x v h1 h2
theorem fx2_rel {h:HP} {α:AV} {v:Value} (r:PRel h α v):PRel h (fx2 α) v:=by
 cases r with
 | ds l n a cap us hc hn hm hx =>
  have e:(l.map fun e=>e.map fx1).length=l.length:=by simp
  rw [fx2,←e]
  refine .ds _ n a cap us (by omega) (fun j x hj=>?_) (fun j x q α hj hq=>?_) (fun hne=>?_)
  ·rw [zlp] at hj
   obtain ⟨y,hy,rfl⟩:=Option.map_eq_some_iff.1 hj
   rw [zlv]
   exact hn j y hy
  ·rw [zlp] at hj
   obtain ⟨y,hy,rfl⟩:=Option.map_eq_some_iff.1 hj
   rw [zlp] at hq
   obtain ⟨z,hz,rfl⟩:=Option.map_eq_some_iff.1 hq
   exact fx1_rel (hm j y q z hy hz)
  ·obtain ⟨b,off,ea,hcell⟩:=hx (fun q=>hne (by rw [q];rfl))
   refine ⟨b,off,ea,fun j x q α hj hq=>?_⟩
   rw [zlp] at hj
   obtain ⟨y,hy,rfl⟩:=Option.map_eq_some_iff.1 hj
   rw [zlp] at hq
   obtain ⟨z,hz,rfl⟩:=Option.map_eq_some_iff.1 hq
   exact hcell j y q z hy hz
 | e0 a=>exact fx1_rel (.e0 a)
 | un v=>exact .un v
 | b x=>exact .b x
 | i k n=>exact .i k n
 | s x=>exact .s x
 | ag l vs e h1=>exact .ag l vs e h1
 | tp l vs e h1=>exact .tp l vs e h1
 | np=>exact .np
 | mn=>exact .mn
 | nf=>exact .nf
 | ni=>exact .ni
 | fc t x v h1=>exact .fc t x v h1
 | gd c x v h1 h2=>exact .gd c x v h1 h2
theorem fx3_pre {h:HP} {α:AV} {v:Value} (r:PRel h α v):PRel h (fx3 α) v:=by
 cases α with
 | ag l =>
  cases r with
  | ag _ vs e h1 =>
   refine .ag _ vs (by rw [zlv];exact e) fun j β u a b=>?_
   rw [zlp] at a
   obtain ⟨y,hy,rfl⟩:=Option.map_eq_some_iff.1 a
   exact fx2_rel (h1 j y u hy b)
 | _=>exact fx2_rel r
theorem fx2_r {h:HP} {ρ:RO} {α:AV} {v:Value} (r:Rel h ρ α v):Rel h ρ (fx2 α) v:=by
 cases r with
 | pu _ _ p=>exact .pu _ _ (fx2_rel p)
 | ag l vs e h1=>exact .ag l vs e h1
 | tp l vs e h1=>exact .tp l vs e h1
 | bx k off b c e=>exact .bx k off b c e
 | rw k g len cap a ob e1 e2 e3=>exact .rw k g len cap a ob e1 e2 e3
 | ep α n i off b o len cap h1 h2=>exact .ep α n i off b o len cap h1 h2
 | mp k b c e=>exact .mp k b c e
 | fn f l vs e h1=>exact .fn f l vs e h1
 | fc t x v h1=>exact .fc t x v h1
 | gd c x v h1 h2=>exact .gd c x v h1 h2
theorem fx3_r {h:HP} {ρ:RO} {α:AV} {v:Value} (r:Rel h ρ α v):Rel h ρ (fx3 α) v:=by
 cases r with
 | pu _ _ p=>exact .pu _ _ (fx3_pre p)
 | ag l vs e h1 =>
  refine .ag _ vs (by rw [zlv];exact e) fun j β u a b=>?_
  rw [zlp] at a
  obtain ⟨y,hy,rfl⟩:=Option.map_eq_some_iff.1 a
  exact fx2_r (h1 j y u hy b)
 | tp l vs e h1=>exact .tp l vs e h1
 | bx k off b c e=>exact .bx k off b c e
 | rw k g len cap a ob e1 e2 e3=>exact .rw k g len cap a ob e1 e2 e3
 | ep α n i off b o len cap h1 h2=>exact .ep α n i off b o len cap h1 h2
 | mp k b c e=>exact .mp k b c e
 | fn f l vs e h1=>exact .fn f l vs e h1
 | fc t x v h1=>exact .fc t x v h1
 | gd c x v h1 h2=>exact .gd c x v h1 h2
theorem MeetsF.fix {P:Program} {f:FuncId} {hp:CH} {n:Nat} {args args':List AV} {r:AV} (e:args'.map fx3=args) (m:MeetsF P f hp n args r):MeetsF P f hp n args' r :=
 ⟨m.1,fun h ρ w vs hs ha=>m.2 h ρ w vs hs ⟨by rw [←e,zlv];exact ha.1,fun j β u a b=>by
  rw [←e,zlp] at a
  obtain ⟨y,hy,rfl⟩:=Option.map_eq_some_iff.1 a
  exact fx3_r (ha.2 j y u hy b)⟩⟩
def inV (n:Int):Val:=.mk 2 n ⟨#[]⟩ [] []
theorem in_fit (n:Int):(inV n).Fit:=.mk _ (by simp [inV,Val.items_mk]) (by simp [inV,Val.keys_mk]) (by simp [inV,Val.items_mk])
theorem int_ok (n:Int) (hp:CH) (m:Nat):MeetsF Tryz.prog 28 hp m [.i .i64 n] (vx (inV n)):=by
 refine meetsF Tryz.func28 (by kernel_rfl) cc28 cr28 rfl fun hf=>?_;unfold ck28
 simp only [go_sem,↓reduceIte,zqa,zqb,zqc,zqd,zqe,reduceCtorEq,zqf,zqg,zqh,zqi,zqj,zqk]
 rfl
def obV (k:ByteArray) (n:Int):Val:=.mk 6 0 ⟨#[]⟩ [txV ⟨#[77,117,116,97,116,105,111,110]⟩,inV n] [⟨#[95,95,116]⟩,k]
theorem ob_fit (k:ByteArray) (n:Int):(obV k n).Fit:=.mk _ (by simp [obV,Val.items_mk]) (by simp [obV,Val.keys_mk]) (by simp [obV,Val.items_mk,tx_fit,in_fit])
theorem object_ok (k:ByteArray) (n:Int) (hp:CH) (m:Nat):MeetsF Tryz.prog 55 hp m [.s k,.i .i64 n] (vx (obV k n)):=by
 refine meetsF Tryz.func55 (by kernel_rfl) cc55 cr55 rfl fun hf=>?_;unfold ck55
 simp only [go_sem,↓reduceIte,zqa,zqb,zqc,zqd,zqe,reduceCtorEq,zqf,zqg,zqh,zqi,zqj,zqk]
 refine vcCall.f (text_ok _ _ _) ?_
 simp only [go_sem,↓reduceIte,zqa,zqb,zqc,zqd,zqe,reduceCtorEq,zqf,zqg,zqh,zqi,zqj,zqk]
 refine vcCall.f (int_ok _ _ _) ?_
 simp only [go_sem,↓reduceIte,zqa,zqb,zqc,zqd,zqe,reduceCtorEq,zqf,zqg,zqh,zqi,zqj,zqk]
 rfl
def exA:List Val:=[obV ⟨#[97]⟩ 1,zVal,obV ⟨#[98]⟩ 2]
theorem exA1:(joinV exA).keys=[⟨#[95,95,116]⟩,⟨#[97]⟩,⟨#[98]⟩]:=by decide +kernel
theorem exA2:(joinV exA).items.length=3:=by decide +kernel
theorem exA3:((joinV exA).items.map Val.n)=[0,1,2]:=by decide +kernel
def exW (i:Int):Wri:=.mk ⟨#[115,101,116]⟩ ⟨#[]⟩ i (.mk ⟨#[]⟩ ⟨#[]⟩ zVal)
def exT:Dat:=.mk (List.replicate 5 (.mk ⟨#[]⟩ [])) [exW 3,exW 3,exW 9]
theorem exT1:tchD exT ⟨#[115,101,116]⟩ ⟨#[120,58,32,49]⟩=[3]:=by rw [tchD_eq];decide +kernel
theorem exT_fit:exT.Fit:=.mk _ (by decide) (by decide) (by simp [exT,Dat.i_mk,Itm.l_mk]) (by simp [exT,exW,Dat.w_mk,Wri.c_mk,Cel.v_mk,zVal_fit])
def pkK (k:ByteArray):Pk:=.mk k ⟨#[]⟩ ⟨#[]⟩ [] ⟨#[]⟩ [] ⟨#[]⟩ 0 []
theorem pkK_fit (k:ByteArray):(pkK k).Fit:=.mk _ (by simp [pkK,Pk.args]) (by simp [pkK,Pk.tw]) (by simp [pkK,Pk.picks]) (by simp [pkK,Pk.args]) (by simp [pkK,Pk.picks])
def exP:Pln:=.mk 2 [pkK ⟨#[97]⟩,pkK ⟨#[98]⟩]
theorem knows_ok (hp:CH) (m:Nat):MeetsF Tryz.prog 23 hp m [] (.b true):=by
 have a1:=exA1
 have a2:=exA2
 have a3:=exA3
 refine meetsF Tryz.func23 (by kernel_rfl) cc23 cr23 rfl fun hf=>?_;unfold ck23
 simp only [go_sem,↓reduceIte,zqa,zqb,zqc,zqd,zqe,reduceCtorEq,zqf,zqg,zqh,zqi,zqj,zqk]
 refine vcCall.f (object_ok _ _ _ _) ?_
 simp only [go_sem,↓reduceIte,zqa,zqb,zqc,zqd,zqe,reduceCtorEq,zqf,zqg,zqh,zqi,zqj,zqk]
 refine vcCall.f (object_ok _ _ _ _) ?_
 simp only [go_sem,↓reduceIte,zqa,zqb,zqc,zqd,zqe,reduceCtorEq,zqf,zqg,zqh,zqi,zqj,zqk]
 refine vcCall.f (sJoin_ok exA (by decide) (by simp [exA,ob_fit,zVal_fit]) (by decide) _ _) ?_
 obtain ⟨J,hJ⟩:∃J,joinV exA=J:=⟨_,rfl⟩
 rw [hJ] at a1 a2 a3 ⊢
 simp (disch:=omega) only [ite_ne,go_sem,↓reduceIte,zqa,zqb,zqc,zqd,zqe,reduceCtorEq,zqf,zqg,zqh,zqi,zqj,zqk]
 refine ⟨by omega,vcCall.q (args':=[.ag [.ds (List.replicate 5 [AV.s ⟨#[]⟩,.e0]),.ds (mapC wrC exT.w)],.s ⟨#[115,101,116]⟩,.s ⟨#[120,58,32,49]⟩]) (MeetsF.fix (args:=[dx exT,.s ⟨#[115,101,116]⟩,.s ⟨#[120,58,32,49]⟩]) rfl (dTouched_ok exT exT_fit (by decide) _ _ _ _)) ?_ ?_⟩
 ·simp (disch:=omega) only [ite_ne,go_sem,↓reduceIte,zqa,zqb,zqc,zqd,zqe,reduceCtorEq,zqf,zqg,zqh,zqi,zqj,zqk]
  rfl
 rw [exT1]
 simp (disch:=omega) only [ite_ne,go_sem,↓reduceIte,zqa,zqb,zqc,zqd,zqe,reduceCtorEq,zqf,zqg,zqh,zqi,zqj,zqk]
 refine vcCall.f (sSplit_ok exP (by decide) (by simp [exP,Pln.l_mk,pkK_fit]) _ _) ?_
 have eS:mapC plC (splitP exP)=[[AV.i .i64 2,.ds [pkC (pkK ⟨#[97]⟩)]],[AV.i .i64 2,.ds [pkC (pkK ⟨#[98]⟩)]]]:=rfl
 rw [eS]
 clear hJ
 obtain ⟨k,nn,s,its,ks⟩:=J
 simp only [Val.keys_mk,Val.items_mk] at a1 a2 a3
 subst a1
 obtain ⟨x,y,z,rfl⟩:=ds_n3 a2
 simp only [List.map_cons,List.map_nil,List.cons.injEq,and_true] at a3
 obtain ⟨-,-,a3⟩:=a3
 simp (disch:=omega) only [ite_ne,a3,mapC_cons,mapC_nil,List.length_cons,List.length_nil,st1,pkK,Pk.key,go_sem,↓reduceIte,zqa,zqb,zqc,zqd,zqe,reduceCtorEq,zqf,zqg,zqh,zqi,zqj,zqk]
 refine gCall.f (fun _=>MeetsF.cv (args':=[.ds []]) rfl (sJoin_ok [] (by simp) (by simp) (by simp [szJ]) _ _)) ?_
 simp (disch:=omega) only [ite_ne,go_sem,↓reduceIte,zqa,zqb,zqc,zqd,zqe,reduceCtorEq,zqf,zqg,zqh,zqi,zqj,zqk]
 rfl
end Go.Proofs.YthiifoleopdieaaGreatDoor
namespace Go.Proofs.YthiifoleopdieaaGreatDoor
open Go.Eng
set_option linter.all false
theorem rootP_fit {s:Sup} {d:Dat} {B:Nat} (hd:DOk d B) (root:ByteArray) (x:Pk) (hx:x.Ok):(rootP s root d x).Fit:=by
 unfold rootP
 split
 ·exact pickV_fit hd x hx _
 ·split
  ·exact tx_fit _
  ·exact zVal_fit
theorem runL_fit (s:Sup) (mu:Bool) (root:ByteArray) (d:Dat) (l:List Pk) {B:Nat} (hd:DOk d B) (hpo:∀x∈l,x.Ok) (h:mu=true→B+l.length*d.w.length≤100000000000):∀j,j≤l.length→∀y∈(runL s mu root d (l.take j)).1,y.2.Fit
 | 0,_=>by simp [runL]
 | j+1,hj=>by
  have hjl:j<l.length:=by omega
  have ex:=List.getElem?_eq_getElem hjl
  have ih:=runL_fit s mu root d l hd hpo h j (by omega)
  obtain ⟨h1,h2,h3⟩:=runL_inv s mu root d l hd h j (by omega)
  have hD:=rootD_dok (s:=s) (mu:=mu) (root:=root) (x:=l[j]) h3 (fun q=>by
   rw [if_pos q,h1]
   have hh:=h q
   have:(j+1)*d.w.length≤l.length*d.w.length:=Nat.mul_le_mul_right _ hj
   rw [Nat.add_mul,Nat.one_mul] at this
   omega)
  rw [runL_step ex]
  unfold runS
  split
  ·intro y hy
   dsimp only at hy
   rcases List.mem_append.1 hy with hy | hy
   ·exact ih y hy
   ·rw [List.mem_singleton.1 hy]
    exact rootP_fit hD root _ (hpo _ (List.mem_of_getElem? ex))
  ·exact ih
theorem runV_fit (s:Sup) (d:Dat) (p:Pln) {B:Nat} (hd:DOk d B) (hl:p.l.length≤1048576) (hpo:∀x∈p.l,x.Ok) (hB:p.k=2→B+p.l.length*d.w.length≤100000000000):(runV s d p).1.Fit:=by
 have hB':decide (p.k=2)=true→B+p.l.length*d.w.length≤100000000000:=fun h=>hB (by simpa using h)
 have h1:=runL_fit s (decide (p.k=2)) (rootS p.k) d p.l hd hpo hB' p.l.length (Nat.le_refl _)
 have h2:=runL_len s (decide (p.k=2)) (rootS p.k) d p.l p.l.length
 rw [List.take_length] at h1 h2
 exact objV_fit (by omega) h1
end Go.Proofs.YthiifoleopdieaaGreatDoor
namespace Go.Proofs.YthiifoleopdieaaGreatDoor
open Go.Eng
set_option maxRecDepth 100000
def ck924:CC:=(.sq (.rg [⟨some 3,.bo (.t 0),none,[0,4,5,6,7],false⟩,⟨some 4,.bo (.t 1),none,[1],false⟩,⟨some 5,.bo (.t 2),none,[2],false⟩,⟨some 6,.al [.i .i64 0,.i .i64 0,.s ⟨#[]⟩,.e0,.e0],none,[],false⟩,⟨some 7,.al [.e0,.e0],none,[],false⟩]) (.sq (.sq (.rg [⟨some 12,.fa (.t 5) 1,none,[],false⟩,⟨some 13,.ld (.t 12) 1 false,none,[12],false⟩,⟨some 14,.ln false (.t 13),none,[13],false⟩,⟨some 15,.bin .eql 0 (.t 14) (.c (.i .i64 0)),none,[14],false⟩]) (.cd (.t 15) (.sq (.rg [⟨some 16,.ld (.t 3) 4 true,none,[3,15],false⟩,⟨some 17,.ld (.t 4) 2 true,none,[4],false⟩,⟨some 18,.ld (.t 5) 2 true,none,[5],false⟩,⟨some 19,.cl 17 [.t 16,.t 17,.t 18],none,[16,17,18],false⟩,⟨some 20,.ex (.t 19) 0,none,[],false⟩,⟨some 21,.ex (.t 19) 1,none,[19],false⟩,⟨none,.st (.t 6) (.t 20) 5,none,[20],false⟩,⟨none,.st (.t 7) (.t 21) 2,none,[21],false⟩]) .rt) .skip)) (.sq (.rg [⟨some 8,.mv (.c .e0),none,[15],false⟩]) (.sqw (.sq (.rg [⟨some 22,.ld (.t 5) 2 true,none,[5],false⟩,⟨some 23,.cl 57 [.t 22],none,[22],false⟩,⟨some 24,.ln false (.t 23),none,[],false⟩,⟨some 25,.mv (.c (.i .i64 0)),none,[],false⟩]) (.bl 0 (.lp (.sq (.rg [⟨some 26,.bin .lss 0 (.t 25) (.t 24),none,[],false⟩]) (.sq (.cd (.t 26) .skip (.ex 0)) (.sq (.bl 1 (.sq (.rg [⟨some 27,.ia (.t 23) (.t 25) 2,none,[26],false⟩,⟨some 28,.ld (.t 27) 2 true,none,[27],false⟩,⟨some 10,.al [.i .i64 0,.e0],none,[],false⟩,⟨none,.st (.t 10) (.t 28) 2,none,[28],false⟩]) (.sq (.rg [⟨some 11,.al [.i .i64 0,.i .i64 0,.s ⟨#[]⟩,.e0,.e0],none,[],false⟩]) (.sq (.rg [⟨some 30,.ld (.t 3) 4 true,none,[],false⟩,⟨some 31,.ld (.t 4) 2 true,none,[],false⟩,⟨some 32,.ld (.t 10) 2 true,none,[10],false⟩,⟨some 33,.cl 17 [.t 30,.t 31,.t 32],none,[30,31,32],false⟩,⟨some 29,.mv (.t 33),none,[33],false⟩,⟨some 34,.ex (.t 29) 0,none,[],false⟩,⟨some 35,.ex (.t 29) 1,none,[29],false⟩,⟨none,.st (.t 11) (.t 34) 5,none,[34],false⟩,⟨none,.st (.t 4) (.t 35) 2,none,[35],false⟩]) (.rg [⟨some 36,.mv (.t 8),none,[8],false⟩,⟨some 37,.ld (.t 11) 5 true,none,[11],false⟩,⟨some 38,.bs true 5 [.t 37],none,[37],false⟩,⟨some 39,.ap (.t 36) (.t 38) 5 80,none,[36,38],false⟩,⟨some 8,.mv (.t 39),none,[39],false⟩]))))) (.rg [⟨some 40,.bin .add 0 (.t 25) (.c (.i .i64 1)),none,[25],false⟩,⟨some 25,.mv (.t 40),none,[40],false⟩]))))))) (.sq (.dr [⟨⟨some 41,.mv (.t 8),none,[],false⟩,[],false,[]⟩,⟨⟨some 42,.cl 54 [.t 41],none,[],false⟩,[],true,[]⟩,⟨⟨some 43,.ld (.t 4) 2 true,none,[],false⟩,[1],true,[]⟩,⟨⟨none,.st (.t 6) (.t 42) 5,none,[],false⟩,[2],false,[]⟩,⟨⟨none,.st (.t 7) (.t 43) 2,none,[],false⟩,[],false,[]⟩] [3,4,8,23,24,25,26,41,42,43]) .rt)))))
theorem cc924:(Tryz.f24.body.bind (ccode Tryz.prog 44))=some ck924.erase:=by kernel_rfl
theorem cr924:rsv Tryz.prog 44 Tryz.f24.results.toList=some [(.c 6 5 true),(.c 7 2 true)]:=by kernel_rfl
end Go.Proofs.YthiifoleopdieaaGreatDoor
namespace Go.Proofs.YthiifoleopdieaaGreatDoor
open Go.Eng
set_option linter.all false
theorem own:ownKnob Tryz.prog.godebug=none:=by kernel_rfl
theorem kids:Kids Tryz.prog (· < Tryz.prog.types.size):=kids_rows (by kernel_rfl) (by kernel_rfl)
theorem sized {t e:TypeId} (ht:t<Tryz.prog.types.size) (hd:Tryz.prog.underlying t=some (.slice e)):0<Tryz.prog.cellsOf e:=slB_of (by kernel_rfl) ht hd
theorem avLL_mapC {α:Type} {c:α→List AV} {wt:α→Nat}:∀{l:List α},(∀x∈l,wt x≤avL (c x))→(l.map wt).sum≤avLL (mapC c l)
 | [],_=>by simp
 | x::l,h=>by
  have h1:=avLL_mapC (c:=c) (wt:=wt) (l:=l) fun y hy=>h y (by simp [hy])
  have h2:=h x (by simp)
  rw [mapC_cons,avLL,List.map_cons,List.sum_cons]
  omega
theorem mapC_len_le {α:Type} {c:α→List AV} (h:∀x,1≤avL (c x)):∀l:List α,l.length≤avLL (mapC c l)
 | []=>by simp
 | x::l=>by
  have h1:=mapC_len_le h l
  have h2:=h x
  rw [mapC_cons,avLL,List.length_cons]
  omega
theorem avLL_mem {x:List AV}:∀{l:List (List AV)},x∈l→avL x≤avLL l
 | y::l,h=>by
  rw [avLL]
  rcases List.mem_cons.1 h with rfl | h
  ·omega
  ·have:=avLL_mem h
   omega
theorem st1_av (s:ByteArray):1≤avL (st1 s):=by simp [st1,avL,avw]
theorem wtL_sumR (l:List Val):wtL l=(l.map wtV).sum:=by
 induction l with
 | nil=>rfl
 | cons x l ih=>rw [wtL,ih,List.map_cons,List.sum_cons]
theorem valC_av (v:Val):wtV v+3≤avL (valC v):=by
 refine Val.ind (Q:=fun v=>wtV v+3≤avL (valC v)) (fun v ih=>?_) v
 rw [valC_eq,wtV_eq,wtL_sumR]
 have h1:=avLL_mapC (c:=valC) (wt:=wtV) (l:=v.items) fun x hx=>by have:=ih x hx;omega
 have h2:v.keys.length≤avLL (stC v.keys):=mapC_len_le st1_av v.keys
 simp only [avL,avw]
 omega
theorem shp_val {L:List AV} (h:Shp Tryz.prog 52 L):∃v:Val,L=valC v:=by
 suffices key:∀(n:Nat) (L:List AV),avL L≤n→Shp Tryz.prog 52 L→∃v:Val,L=valC v from key _ L (Nat.le_refl _) h
 intro n
 induction n with
 | zero =>
  intro L hn h
  obtain ⟨parts,rfl,hl,hp⟩:=shp_struct Tryz.underlying52 h
  obtain ⟨a,b,c,d,e,rfl⟩:=ds_n5 (show parts.length=5 from hl)
  obtain ⟨a,rfl,_⟩:=shp_int Tryz.underlying3 (hp 0 _ a rfl rfl)
  simp [avL,avw] at hn
 | succ n ih =>
  intro L hn h
  obtain ⟨parts,rfl,hl,hp⟩:=shp_struct Tryz.underlying52 h
  obtain ⟨a,b,c,d,e,rfl⟩:=ds_n5 (show parts.length=5 from hl)
  obtain ⟨a,rfl,_⟩:=shp_int Tryz.underlying3 (hp 0 _ a rfl rfl)
  obtain ⟨b,rfl,_⟩:=shp_int Tryz.underlying3 (hp 1 _ b rfl rfl)
  obtain ⟨c,rfl,_⟩:=shp_string Tryz.underlying9 (hp 2 _ c rfl rfl)
  obtain ⟨l,rfl,_,hx⟩:=shp_slice Tryz.underlying50 (hp 3 _ d rfl rfl)
  obtain ⟨k,rfl,_,hy⟩:=shp_slice Tryz.underlying22 (hp 4 _ e rfl rfl)
  obtain ⟨vs,rfl,_⟩:=mapC_of (c:=valC) fun x h=>ih x (by
   have:=avLL_mem h
   simp [avL,avw] at hn
   omega) (hx x h)
  obtain ⟨ks,rfl,_⟩:=mapC_of (c:=st1) fun x h=>by
   obtain ⟨s,rfl,_⟩:=shp_string Tryz.underlying9 (hy x h)
   exact ⟨s,rfl⟩
  exact ⟨.mk a b c vs ks,by rw [valC_eq];rfl⟩
theorem vx_av (v:Val):wtV v+3≤avw (vx v):=by
 have:=valC_av v
 rw [valC_eq] at this
 exact this
end Go.Proofs.YthiifoleopdieaaGreatDoor
namespace Go.Proofs.YthiifoleopdieaaGreatDoor
open Go.Eng
set_option linter.all false
theorem celC_av (c:Cel):wtV c.v+1≤avL (celC c):=by
 have h:=vx_av c.v
 simp only [vx,avw,avL,celC] at *
 omega
theorem dat_fit (d:Dat) (h:avw (dx d)≤1048576):d.Fit:=by
 simp only [dx,avw,avL] at h
 have hi:d.i.length≤avLL (mapC itC d.i):=mapC_len_le (fun x=>by simp [itC,avL,avw];omega) _
 have hw:d.w.length≤avLL (mapC wrC d.w):=mapC_len_le (fun x=>by simp [wrC,avL,avw];omega) _
 refine .mk d (by omega) (by omega) (fun x hx=>?_) fun x hx=>?_
 ·have h1:=avLL_mem (zls (f:=itC) hx)
  have h1:avL (itC x)≤avLL (mapC itC d.i):=h1
  simp only [itC,avL,avw] at h1
  have h2:x.l.length≤avLL (mapC celC x.l):=mapC_len_le (fun x=>by have:=celC_av x;omega) _
  refine ⟨by omega,fun c hc=>wtV_fit _ ?_⟩
  have h3:avL (celC c)≤avLL (mapC celC x.l):=avLL_mem (zls (f:=celC) hc)
  have:=celC_av c
  omega
 ·have h1:avL (wrC x)≤avLL (mapC wrC d.w):=avLL_mem (zls (f:=wrC) hx)
  have h2:=vx_av x.c.v
  refine wtV_fit _ ?_
  simp only [wrC,vx,avw,avL] at h1 h2
  omega
end Go.Proofs.YthiifoleopdieaaGreatDoor
