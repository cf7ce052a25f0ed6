/- Proof. Conditions: none. -/
import Derived.Test.YthiifoleopdieaaGreatDoorIt42
open Nat renaming reduceEqDiff→zqa,reduceBEq→zqb,reduceAdd→zqc,reduceLeDiff→zqd,reduceLT→zqe,reduceMul→zqf,reduceSub→zqg
open Int renaming reduceEq→zqh,reduceLT→zqi,reduceLE→zqj,reduceToNat→zqk
open List renaming mem_of_getElem?→zla,take_length→zlj,take_of_length_le→zlk,length_map→zlv
open Nat renaming le_refl→zna
namespace Go.Proofs.YthiifoleopdieaaGreatDoor
open Go.Eng
set_option linter.all false
set_option maxRecDepth 20000
def tcB (f a:ByteArray) (ws:List Wri) (i:Nat):Bool:=ws.any fun w=>hits f a w&&decide (w.i=(i:Int))
def tcL (f a:ByteArray) (ws:List Wri) (n:Nat):List Int:=((List.range n).filter (tcB f a ws)).map fun (i:Nat)=>(i:Int)
theorem tcL_mem {f a:ByteArray} {ws:List Wri} {n:Nat} {x:Int}:x∈tcL f a ws n↔∃w∈ws,hits f a w=true∧0≤w.i∧w.i<(n:Int)∧w.i=x:=by
 unfold tcL tcB
 simp only [List.mem_map,List.mem_filter,List.mem_range,List.any_eq_true,Bool.and_eq_true,decide_eq_true_eq]
 constructor
 ·rintro ⟨i,⟨hi,w,hw,h1,h2⟩,rfl⟩
  exact ⟨w,hw,h1,by omega,by omega,h2⟩
 ·rintro ⟨w,hw,h1,h2,h3,rfl⟩
  exact ⟨w.i.toNat,⟨by omega,w,hw,h1,by omega⟩,by omega⟩
theorem tchL_mem {f a:ByteArray} {n:Nat}:∀(ws:List Wri) (l:List Int) (x:Int),x∈ws.foldl (tchS f a n) l↔x∈l∨∃w∈ws,hits f a w=true∧0≤w.i∧w.i<(n:Int)∧w.i=x
 | [],l,x=>by simp
 | w::ws,l,x=>by
  rw [List.foldl_cons,tchL_mem ws]
  have:x∈tchS f a n l w↔x∈l∨(hits f a w=true∧0≤w.i∧w.i<(n:Int)∧w.i=x):=by
   unfold tchS
   split
   ·rename_i h
    rw [List.mem_append,List.mem_singleton]
    exact ⟨fun q=>q.imp id fun e=>⟨h.1,h.2.1,h.2.2.1,e.symm⟩,fun q=>q.imp id fun e=>e.2.2.2.symm⟩
   ·rename_i h
    refine ⟨.inl,fun q=>q.elim id fun e=>Classical.byContradiction fun nx=>h ⟨e.1,e.2.1,e.2.2.1,by rw [e.2.2.2];exact nx⟩⟩
  rw [this,or_assoc]
  simp only [List.mem_cons,exists_eq_or_imp]
theorem tchL_nodup {f a:ByteArray} {n:Nat}:∀(ws:List Wri) (l:List Int),l.Nodup→(ws.foldl (tchS f a n) l).Nodup
 | [],l,h=>h
 | w::ws,l,h=>by
  rw [List.foldl_cons]
  refine tchL_nodup ws _ ?_
  unfold tchS
  split
  ·rename_i q
   rw [List.nodup_append]
   exact ⟨h,by simp,fun x hx y hy e=>by simp at hy;subst hy;exact q.2.2.2 (e ▸ hx)⟩
  ·exact h
theorem tcL_lt (f a:ByteArray) (ws:List Wri) (n:Nat):(tcL f a ws n).Pairwise (· < ·):=by
 unfold tcL
 rw [List.pairwise_map]
 exact (List.Pairwise.sublist List.filter_sublist List.pairwise_lt_range).imp fun h=>by omega
theorem tchD_eq (d:Dat) (f a:ByteArray):tchD d f a=tcL f (argA d f a) d.w d.i.length:=by
 unfold tchD
 have hp:(srtI (tchL f (argA d f a) d.i.length d.w)).Perm (tchL f (argA d f a) d.i.length d.w):=List.mergeSort_perm _ _
 have hs:(srtI (tchL f (argA d f a) d.i.length d.w)).Pairwise (·≤·):=by
  have:=List.pairwise_mergeSort (le:=fun x y:Int=>decide (x≤y)) (fun a b c h1 h2=>by simp at *;omega) (fun a b=>by simp;omega) (tchL f (argA d f a) d.i.length d.w)
  exact this.imp fun h=>by simpa using h
 have hl:=tcL_lt f (argA d f a) d.w d.i.length
 refine List.Perm.eq_of_pairwise (le:=(·≤·)) (fun a b _ _ h1 h2=>by omega) hs (hl.imp fun h=>by omega) (hp.trans ?_)
 refine (List.perm_ext_iff_of_nodup (tchL_nodup _ _ (by simp)) (hl.imp fun h=>by omega)).2 fun x=>?_
 rw [tcL_mem,tchL_mem]
 simp
end Go.Proofs.YthiifoleopdieaaGreatDoor
namespace Go.Proofs.YthiifoleopdieaaGreatDoor
open Go.Eng
set_option linter.all false
set_option maxRecDepth 20000
def prsV (v:Val):List (ByteArray × Val):=v.keys.zip v.items
def jnS (O:List (ByteArray × Val)) (x:ByteArray × Val):List (ByteArray × Val):=if 0≤ix x.1 (O.map (·.1)) 0 then O else O++[x]
def jnV (O:List (ByteArray × Val)) (v:Val):List (ByteArray × Val):=if v.k=6 then (prsV v).foldl jnS O else O
def jnAll (l:List Val):List (ByteArray × Val):=l.foldl jnV []
def jnK (l:List Val) (k:Int):Int:=if l.any (fun v=>decide (v.k=6))=true then 6 else k
def joinV (l:List Val):Val:=.mk (jnK l 0) 0 ⟨#[]⟩ ((jnAll l).map (·.2)) ((jnAll l).map (·.1))
def szJ (l:List Val):Nat:=(l.map fun v=>v.items.length).sum
theorem prsV_len (v:Val):(prsV v).length=min v.keys.length v.items.length:=by simp [prsV,List.length_zip]
theorem prsV_get {v:Val} {i:Nat} {k:ByteArray} {x:Val} (h1:v.keys[i]?=some k) (h2:v.items[i]?=some x):(prsV v)[i]?=some (k,x):=by simp [prsV,List.getElem?_zip_eq_some,h1,h2]
theorem sJoin_ok (l:List Val) (hl:l.length≤1000000000000) (hfv:∀v∈l,v.Fit) (hB:szJ l≤1000000000000) (hp:CH) (m:Nat):MeetsF Tryz.prog 54 hp m [.ds (mapC valC l)] (vx (joinV l)):=by
 obtain ⟨K,hK⟩:∃K,jnK l 0=K:=⟨_,rfl⟩
 obtain ⟨FO,hFO⟩:∃FO,jnAll l=FO:=⟨_,rfl⟩
 have hv:vx (joinV l)=.ag [.i .i64 K,.i .i64 0,.s ⟨#[]⟩,.ds (mapC valC (FO.map (·.2))),.ds (stC (FO.map (·.1)))]:=by rw [joinV,hK,hFO];rfl
 rw [hv]
 refine meetsF Tryz.func54 (by kernel_rfl) cc54 cr54 rfl fun hf=>?_;unfold ck54
 simp only [go_sem,↓reduceIte,zqa,zqb,zqc,zqd,zqe,reduceCtorEq,zqf,zqg,zqh,zqi,zqj,zqk]
 refine loop (fun p:Nat × List (ByteArray × Val) × Int × Nat=>⟨[(2,.bx m 0),(3,.bx (m+1) 0),(7,.ds (mapC valC l)),(8,.i .i64 l.length),(9,.i .i64 p.1)],
   (m,.bx [.i .i64 0,.i .i64 0,.s ⟨#[]⟩,.e0,.e0])::(m+1,.bx [.i .i64 p.2.2.1,.i .i64 0,.s ⟨#[]⟩,.rw (m+2) p.2.1.length p.2.1.length,.rw (m+3) p.2.1.length p.2.1.length])::(m+2,.rw p.2.1.length 5 (mapC valC (p.2.1.map (·.2))))::(m+3,.rw p.2.1.length 1 (stC (p.2.1.map (·.1))))::hp,p.2.2.2⟩)
  (fun p=>p.1≤l.length∧m+4≤p.2.2.2∧p.2.1.length+szJ (l.drop p.1)≤1000000000000∧FO=(l.drop p.1).foldl jnV p.2.1∧K=jnK (l.drop p.1) p.2.2.1) (fun p=>l.length - p.1) (0,[],0,m+4) ?_ ?_ (fun ⟨j,O,k,n⟩ hj=>?_)
 ·exact ⟨by simp,by simp,by simpa using hB,by rw [←hFO];rfl,hK.symm⟩
 ·refine (weak_b0 (c:=m+1) (i:=3) (m:=5) (gc_same _ _ _) rfl).trans ((weak_b0 (c:=m+1) (i:=4) (m:=1) (gc_same _ _ _) rfl).trans (weak_ok ?_ (Sub.cons ?_ (Sub.cons ?_ (Sub.cons ?_ (Sub.cons ?_ (Sub.base hf ?_))))) (zna _)))
  all_goals (simp (disch:=omega) only [ite_ne,go_sem,↓reduceIte,zqa,zqb,zqc,zqd,zqe,reduceCtorEq,zqf,zqg,zqh,zqi,zqj,zqk])
  all_goals rfl
 dsimp only at hj
 obtain ⟨hj1,hj2,hj3,hj4,hj5⟩:=hj
 simp (disch:=omega) only [ite_ne,go_sem,↓reduceIte,zqa,zqb,zqc,zqd,zqe,reduceCtorEq,zqf,zqg,zqh,zqi,zqj,zqk]
 refine cdK_of (fun q=>?_) (fun q=>?_)
 ·have q:j<l.length:=by simpa using q
  obtain ⟨v,ev⟩:∃v,l[j]?=some v:=⟨l[j],by simp [q]⟩
  have hvf:=hfv v (zla ev)
  rw [drop_at ev] at hj3 hj4 hj5
  have eB:szJ (v::l.drop (j+1))=v.items.length+szJ (l.drop (j+1)):=by simp [szJ]
  rw [eB] at hj3
  rw [List.foldl_cons] at hj4
  simp (disch:=omega) only [ite_ne,q,getK_s (mapC_get valC ev),go_sem,↓reduceIte,zqa,zqb,zqc,zqd,zqe,reduceCtorEq,zqf,zqg,zqh,zqi,zqj,zqk]
  refine cdK_of (fun c=>?_) (fun c=>?_)
  ·have c:¬v.k=6:=by simpa using c
   have e1:jnV O v=O:=by rw [jnV,if_neg c]
   have e2:jnK (v::l.drop (j+1)) k=jnK (l.drop (j+1)) k:=by simp [jnK,c]
   rw [e1] at hj4
   rw [e2] at hj5
   simp (disch:=omega) only [ite_ne,go_sem,↓reduceIte,zqa,zqb,zqc,zqd,zqe,reduceCtorEq,zqf,zqg,zqh,zqi,zqj,zqk]
   refine ⟨(j+1,O,k,_),⟨by dsimp only;omega,by dsimp only;omega,by dsimp only;omega,hj4,hj5⟩,by dsimp only;omega,weak_ok ?_ (Sub.cons ?_ (Sub.cons ?_ (Sub.cons ?_ (Sub.cons ?_ (Sub.base hf ?_))))) (zna _)⟩
   all_goals
    simp (disch:=omega) only [ite_ne,wr64s j (by omega),go_sem,↓reduceIte,zqa,zqb,zqc,zqd,zqe,reduceCtorEq,zqf,zqg,zqh,zqi,zqj,zqk]
  ·have c:v.k=6:=by simpa using c
   have e1:jnV O v=(prsV v).foldl jnS O:=by rw [jnV,if_pos c]
   have e2:jnK (v::l.drop (j+1)) k=6:=by simp [jnK,c]
   have e3:jnK (l.drop (j+1)) 6=6:=by simp [jnK]
   rw [e1] at hj4
   rw [e2,←e3] at hj5
   have hZ:=prsV_len v
   obtain ⟨Z,hZ2⟩:∃Z,(prsV v).length=Z:=⟨_,rfl⟩
   rw [hZ2] at hZ
   have hmn:(if (v.items.length:Int)<v.keys.length then (v.items.length:Int) else v.keys.length)=(Z:Nat):=by rw [hZ];split<;>omega
   simp (disch:=omega) only [ite_ne,hmn,go_sem,↓reduceIte,zqa,zqb,zqc,zqd,zqe,reduceCtorEq,zqf,zqg,zqh,zqi,zqj,zqk]
   refine loop (fun p:Nat × List (ByteArray × Val) × Nat=>⟨[(2,.bx m 0),(3,.bx (m+1) 0),(5,.bx n 0),(7,.ds (mapC valC l)),(8,.i .i64 l.length),(9,.i .i64 j),(23,.i .i64 Z),(24,.i .i64 p.1)],
     (n,.bx [.i .i64 v.k,.i .i64 v.n,.s v.s,.ds (mapC valC v.items),.ds (stC v.keys)])::(m,.bx [.i .i64 0,.i .i64 0,.s ⟨#[]⟩,.e0,.e0])::(m+1,.bx [.i .i64 6,.i .i64 0,.s ⟨#[]⟩,.rw (m+2) p.2.1.length p.2.1.length,.rw (m+3) p.2.1.length p.2.1.length])::(m+2,.rw p.2.1.length 5 (mapC valC (p.2.1.map (·.2))))::(m+3,.rw p.2.1.length 1 (stC (p.2.1.map (·.1))))::hp,p.2.2⟩)
    (fun p=>p.1≤Z∧n+1≤p.2.2∧p.2.1.length+(Z - p.1)+szJ (l.drop (j+1))≤1000000000000∧FO=(l.drop (j+1)).foldl jnV (((prsV v).drop p.1).foldl jnS p.2.1)) (fun p=>Z - p.1) (0,O,n+1) ?_ ?_ (fun ⟨i,O,n2⟩ hi=>?_)
   ·exact ⟨by simp,by simp,by dsimp only;omega,by simpa using hj4⟩
   ·refine weak_ok ?_ (Sub.cons ?_ (Sub.cons ?_ (Sub.cons ?_ (Sub.cons ?_ (Sub.cons ?_ (Sub.base hf ?_)))))) (zna _)
    all_goals (simp (disch:=omega) only [ite_ne,go_sem,↓reduceIte,zqa,zqb,zqc,zqd,zqe,reduceCtorEq,zqf,zqg,zqh,zqi,zqj,zqk])
   clear hj4 hj3
   dsimp only at hi
   obtain ⟨hi1,hi2,hi3,hi4⟩:=hi
   simp (disch:=omega) only [ite_ne,go_sem,↓reduceIte,zqa,zqb,zqc,zqd,zqe,reduceCtorEq,zqf,zqg,zqh,zqi,zqj,zqk]
   refine cdK_of (fun q2=>?_) (fun q2=>?_)
   ·have q2:i<Z:=by simpa using q2
    obtain ⟨x,ex⟩:∃x,v.items[i]?=some x:=⟨v.items[i]'(by omega),by simp⟩
    obtain ⟨y,ey⟩:∃y,v.keys[i]?=some y:=⟨v.keys[i]'(by omega),by simp⟩
    have hxf:=hvf.x (zla ex)
    rw [drop_at (prsV_get ey ex),List.foldl_cons] at hi4
    have b1:i<v.keys.length:=by omega
    have b2:i<v.items.length:=by omega
    have t1:(O.map (fun x:ByteArray × Val=>x.1)).take O.length=O.map (fun x:ByteArray × Val=>x.1):=zlk (by simp)
    have k1:(O.length+1)*16≤140737488355328:=by omega
    have k2:(O.length+1)*80≤140737488355328:=by omega
    have k3:O.length+1≤9223372036854775807:=by omega
    have k4:Z - (i+1)<Z - i:=by omega
    have k0:=hvf.i
    have k5:i<9223372036854775807:=by omega
    simp (disch:=omega) only [ite_ne,b1,b2,getK_s (mapC_get st1 ey),getK_s (mapC_get valC ex),go_sem,↓reduceIte,zqa,zqb,zqc,zqd,zqe,reduceCtorEq,zqf,zqg,zqh,zqi,zqj,zqk]
    refine dCallR.f (fun _ hp' e=>MeetsF.lend (R:=[(m+3,.sh O.length 1 (stC (O.map (·.1))))]) (B:=[]) ⟨.inl ((e (m+3) (.inl (by omega))).trans (by (simp (disch:=omega) only [ite_ne,go_sem,↓reduceIte,zqa,zqb,zqc,zqd,zqe,reduceCtorEq,zqf,zqg,zqh,zqi,zqj,zqk]))),trivial⟩ trivial ?_ rfl (contains_ok (O.map (·.1)) y (by simp;omega) _ _)) ?_
    ·simp (disch:=omega) only [ite_ne,t1,zlv,zna,go_sem,↓reduceIte,zqa,zqb,zqc,zqd,zqe,reduceCtorEq,zqf,zqg,zqh,zqi,zqj,zqk]
    simp (disch:=omega) only [ite_ne,b1,b2,getK_s (mapC_get st1 ey),getK_s (mapC_get valC ex),go_sem,↓reduceIte,zqa,zqb,zqc,zqd,zqe,reduceCtorEq,zqf,zqg,zqh,zqi,zqj,zqk]
    refine cdK_of (fun c2=>?_) (fun c2=>?_)
    ·have c2:¬0≤ix y (O.map (·.1)) 0:=by simpa using c2
     have e4:jnS O (y,x)=O++[(y,x)]:=by rw [jnS,if_neg c2]
     rw [e4] at hi4
     simp (disch:=omega) only [ite_ne,b1,b2,getK_s (mapC_get st1 ey),getK_s (mapC_get valC ex),k1,k2,k3,zlv,go_sem,↓reduceIte,zqa,zqb,zqc,zqd,zqe,reduceCtorEq,zqf,zqg,zqh,zqi,zqj,zqk]
     refine dCallR.f (fun _ hp' e=>copy_ok x hxf _ _) ?_
     simp (disch:=omega) only [ite_ne,b1,b2,getK_s (mapC_get st1 ey),getK_s (mapC_get valC ex),k1,k2,k3,zlv,go_sem,↓reduceIte,zqa,zqb,zqc,zqd,zqe,reduceCtorEq,zqf,zqg,zqh,zqi,zqj,zqk]
     refine ⟨(i+1,O++[(y,x)],_),⟨by dsimp only;omega,by dsimp only;omega,by simp;omega,hi4⟩,k4,weak_ok ?_ (Sub.cons ?_ (Sub.cons ?_ (Sub.cons ?_ (Sub.cons ?_ (Sub.cons ?_ (Sub.base hf ?_)))))) (zna _)⟩
     all_goals
      simp (disch:=omega) only [ite_ne,wr64s i k5,List.length_append,List.length_cons,List.length_nil,List.map_append,List.map_cons,List.map_nil,go_sem,↓reduceIte,zqa,zqb,zqc,zqd,zqe,reduceCtorEq,zqf,zqg,zqh,zqi,zqj,zqk]
    ·have c2:0≤ix y (O.map (·.1)) 0:=by simpa using c2
     have e4:jnS O (y,x)=O:=by rw [jnS,if_pos c2]
     rw [e4] at hi4
     simp (disch:=omega) only [ite_ne,go_sem,↓reduceIte,zqa,zqb,zqc,zqd,zqe,reduceCtorEq,zqf,zqg,zqh,zqi,zqj,zqk]
     refine ⟨(i+1,O,_),⟨by dsimp only;omega,by dsimp only;omega,by dsimp only;omega,hi4⟩,k4,weak_ok ?_ (Sub.cons ?_ (Sub.cons ?_ (Sub.cons ?_ (Sub.cons ?_ (Sub.cons ?_ (Sub.base hf ?_)))))) (zna _)⟩
     all_goals
      simp (disch:=omega) only [ite_ne,wr64s i k5,go_sem,↓reduceIte,zqa,zqb,zqc,zqd,zqe,reduceCtorEq,zqf,zqg,zqh,zqi,zqj,zqk]
   ·have q2:i=Z:=by simp at q2;omega
    subst q2
    rw [←hZ2,List.drop_length] at hi4
    simp (disch:=omega) only [ite_ne,go_sem,↓reduceIte,zqa,zqb,zqc,zqd,zqe,reduceCtorEq,zqf,zqg,zqh,zqi,zqj,zqk]
    refine ⟨(j+1,O,6,_),⟨by dsimp only;omega,by dsimp only;omega,by dsimp only;omega,hi4,hj5⟩,by dsimp only;omega,weak_ok ?_ (Sub.cons ?_ (Sub.cons ?_ (Sub.cons ?_ (Sub.cons ?_ (Sub.base hf ?_))))) (zna _)⟩
    all_goals
     simp (disch:=omega) only [ite_ne,wr64s j (by omega),go_sem,↓reduceIte,zqa,zqb,zqc,zqd,zqe,reduceCtorEq,zqf,zqg,zqh,zqi,zqj,zqk]
 ·have q:j=l.length:=by simp at q;omega
  subst q
  rw [List.drop_length] at hj4 hj5
  have hj4:FO=O:=hj4
  have hj5:K=k:=hj5
  subst hj4 hj5
  have e1:(List.map (fun x:ByteArray × Val=>x.2) FO).take FO.length=List.map (fun x:ByteArray × Val=>x.2) FO:=zlk (by simp)
  have e2:(List.map (fun x:ByteArray × Val=>x.1) FO).take FO.length=List.map (fun x:ByteArray × Val=>x.1) FO:=zlk (by simp)
  simp (disch:=omega) only [ite_ne,e1,e2,zlv,zna,go_sem,↓reduceIte,zqa,zqb,zqc,zqd,zqe,reduceCtorEq,zqf,zqg,zqh,zqi,zqj,zqk]
  done
end Go.Proofs.YthiifoleopdieaaGreatDoor
namespace Go.Proofs.YthiifoleopdieaaGreatDoor
open Go.Eng
set_option linter.all false
set_option maxRecDepth 20000
inductive Pk.Fit:Pk→Prop
 | mk (p:Pk):p.args.length≤100000000000→p.tw.length≤100000000000→p.picks.length≤100000000000→(∀a∈p.args,a.v.Fit)→(∀x∈p.picks,Pk.Fit x)→Pk.Fit p
theorem Pk.Fit.a {p:Pk} (h:p.Fit):p.args.length≤100000000000:=by cases h;assumption
theorem Pk.Fit.w {p:Pk} (h:p.Fit):p.tw.length≤100000000000:=by cases h;assumption
theorem Pk.Fit.l {p:Pk} (h:p.Fit):p.picks.length≤100000000000:=by cases h;assumption
theorem Pk.Fit.v {p:Pk} (h:p.Fit) {a:Arg} (ha:a∈p.args):a.v.Fit:=by cases h with | mk _ _ _ _ h _=>exact h a ha
theorem Pk.Fit.x {p:Pk} (h:p.Fit) {x:Pk} (hx:x∈p.picks):x.Fit:=by cases h with | mk _ _ _ _ _ h=>exact h x hx
theorem snoc_arg (l:List Arg) (a:Arg):mapC argC l++[[AV.s a.n,.i .i64 a.v.k,.i .i64 a.v.n,.s a.v.s,.ds (mapC valC a.v.items),.ds (stC a.v.keys)]]=mapC argC (l++[a]):=mapC_snoc argC l a
theorem snoc_pk (l:List Pk) (p:Pk):mapC pkC l++[[AV.s p.key,.s p.on,.s p.name,.ds (mapC argC p.args),.s p.tn,.ds (mapC in1 p.tw),.s p.label,.i .i64 p.initial,.ds (mapC pkC p.picks)]]=mapC pkC (l++[p]):=by rw [←pkC_eq,mapC_snoc]
attribute [go_sem] snoc_arg snoc_pk
theorem cloneI_ok (l:List Int) (h:l.length*8≤140737488355327) (hp:CH) (m:Nat):MeetsF Tryz.prog 128 hp m [.ds (mapC in1 l)] (.ds (mapC in1 l)):=by
 refine meetsF Tryz.func128 (by kernel_rfl) cc128 cr128 rfl fun hf=>?_;unfold ck128
 simp only [go_sem,↓reduceIte,zqa,zqb,zqc,zqd,zqe,reduceCtorEq,zqf,zqg,zqh,zqi,zqj,zqk]
 exact ⟨fun e=>by rw [e],by omega,by omega⟩
theorem copied_of (p:Pk) (hp':p.Fit) (h:∀x∈p.picks,∀hp m,MeetsF Tryz.prog 101 hp m [pkx x] (pkx x)) (hp:CH) (m:Nat):MeetsF Tryz.prog 101 hp m [pkx p] (pkx p):=by
 have h1:=hp'.a
 have h2:=hp'.l
 have h3:=hp'.w
 refine meetsF Tryz.func101 (by kernel_rfl) cc101 cr101 rfl fun hf=>?_;unfold ck101
 simp only [go_sem,↓reduceIte,zqa,zqb,zqc,zqd,zqe,reduceCtorEq,zqf,zqg,zqh,zqi,zqj,zqk]
 refine loop (fun q:Nat × Nat=>⟨[(1,.bx m 0),(2,.bx (m+1) 0),(3,.rw (m+2) q.1 q.1),(10,.ds (mapC argC p.args)),(11,.i .i64 p.args.length),(12,.i .i64 q.1)],
   (m,.bx [.s p.key,.s p.on,.s p.name,.ds (mapC argC p.args),.s p.tn,.ds (mapC in1 p.tw),.s p.label,.i .i64 p.initial,.ds (mapC pkC p.picks)])::(m+1,.bx [.s ⟨#[]⟩,.s ⟨#[]⟩,.s ⟨#[]⟩,.e0,.s ⟨#[]⟩,.e0,.s ⟨#[]⟩,.i .i64 0,.e0])::(m+2,.rw q.1 6 (mapC argC (p.args.take q.1)))::hp,q.2⟩)
  (fun q=>q.1≤p.args.length∧m+3≤q.2) (fun q=>p.args.length - q.1) (0,m+3) ?_ ?_ (fun ⟨j,n⟩ hj=>?_)
 ·simp
 ·refine (weak_e0 (t:=3) (m:=6) ?_).trans (weak_ok ?_ (Sub.cons ?_ (Sub.cons ?_ (Sub.cons ?_ (Sub.base hf ?_)))) (zna _))
  all_goals (simp (disch:=omega) only [ite_ne,go_sem,↓reduceIte,zqa,zqb,zqc,zqd,zqe,reduceCtorEq,zqf,zqg,zqh,zqi,zqj,zqk])
  all_goals rfl
 dsimp only at hj
 obtain ⟨hj1,hj2⟩:=hj
 simp (disch:=omega) only [ite_ne,go_sem,↓reduceIte,zqa,zqb,zqc,zqd,zqe,reduceCtorEq,zqf,zqg,zqh,zqi,zqj,zqk]
 refine cdK_of (fun q=>?_) (fun q=>?_)
 ·have q:j<p.args.length:=by simpa using q
  obtain ⟨a,ea⟩:∃a,p.args[j]?=some a:=⟨p.args[j],by simp [q]⟩
  have haf:=hp'.v (zla ea)
  have ht:(p.args.take j).length=j:=by simp;omega
  have k1:(j+1)*96≤140737488355328:=by omega
  have k2:j+1≤9223372036854775807:=by omega
  have k3:p.args.length - (j+1)<p.args.length - j:=by omega
  simp (disch:=omega) only [ite_ne,q,getK_s (mapC_get argC ea),go_sem,↓reduceIte,zqa,zqb,zqc,zqd,zqe,reduceCtorEq,zqf,zqg,zqh,zqi,zqj,zqk]
  refine dCallR.f (fun _ hp' e=>copy_ok a.v haf _ _) ?_
  simp (disch:=omega) only [ite_ne,q,getK_s (mapC_get argC ea),ht,k1,k2,go_sem,↓reduceIte,zqa,zqb,zqc,zqd,zqe,reduceCtorEq,zqf,zqg,zqh,zqi,zqj,zqk]
  refine ⟨(j+1,_),⟨by dsimp only;omega,by dsimp only;omega⟩,k3,weak_ok ?_ (Sub.cons ?_ (Sub.cons ?_ (Sub.cons ?_ (Sub.base hf ?_)))) (zna _)⟩
  all_goals
   simp (disch:=omega) only [ite_ne,wr64s j (by omega),take_snoc ea,go_sem,↓reduceIte,zqa,zqb,zqc,zqd,zqe,reduceCtorEq,zqf,zqg,zqh,zqi,zqj,zqk]
 ·have q:j=p.args.length:=by simp at q;omega
  subst q
  rw [zlj]
  simp (disch:=omega) only [ite_ne,go_sem,↓reduceIte,zqa,zqb,zqc,zqd,zqe,reduceCtorEq,zqf,zqg,zqh,zqi,zqj,zqk]
  refine loop (fun q:Nat × Nat=>⟨[(1,.bx m 0),(2,.bx (m+1) 0),(3,.rw (m+2) p.args.length p.args.length),(6,.rw n q.1 q.1),(27,.ds (mapC pkC p.picks)),(28,.i .i64 p.picks.length),(29,.i .i64 q.1)],
    (m,.bx [.s p.key,.s p.on,.s p.name,.ds (mapC argC p.args),.s p.tn,.ds (mapC in1 p.tw),.s p.label,.i .i64 p.initial,.ds (mapC pkC p.picks)])::(m+1,.bx [.s ⟨#[]⟩,.s ⟨#[]⟩,.s ⟨#[]⟩,.e0,.s ⟨#[]⟩,.e0,.s ⟨#[]⟩,.i .i64 0,.e0])::(m+2,.rw p.args.length 6 (mapC argC p.args))::(n,.rw q.1 9 (mapC pkC (p.picks.take q.1)))::hp,q.2⟩)
   (fun q=>q.1≤p.picks.length∧n+1≤q.2) (fun q=>p.picks.length - q.1) (0,n+1) ?_ ?_ (fun ⟨j,n2⟩ hj=>?_)
  ·simp
  ·refine (weak_e0 (t:=6) (m:=9) ?_).trans (weak_ok ?_ (Sub.cons ?_ (Sub.cons ?_ (Sub.cons ?_ (Sub.cons ?_ (Sub.base hf ?_))))) (zna _))
   all_goals (simp (disch:=omega) only [ite_ne,go_sem,↓reduceIte,zqa,zqb,zqc,zqd,zqe,reduceCtorEq,zqf,zqg,zqh,zqi,zqj,zqk])
   all_goals rfl
  dsimp only at hj
  obtain ⟨hj1,hj3⟩:=hj
  simp (disch:=omega) only [ite_ne,go_sem,↓reduceIte,zqa,zqb,zqc,zqd,zqe,reduceCtorEq,zqf,zqg,zqh,zqi,zqj,zqk]
  refine cdK_of (fun q=>?_) (fun q=>?_)
  ·have q:j<p.picks.length:=by simpa using q
   obtain ⟨x,ex⟩:∃x,p.picks[j]?=some x:=⟨p.picks[j],by simp [q]⟩
   have hx:=h x (zla ex)
   have ht:(p.picks.take j).length=j:=by simp;omega
   have k1:(j+1)*160≤140737488355328:=by omega
   have k2:j+1≤9223372036854775807:=by omega
   have k3:p.picks.length - (j+1)<p.picks.length - j:=by omega
   simp (disch:=omega) only [ite_ne,q,getK_s (mapC_get pkC ex),go_sem,↓reduceIte,zqa,zqb,zqc,zqd,zqe,reduceCtorEq,zqf,zqg,zqh,zqi,zqj,zqk]
   refine vcCall.f (hx _ _) ?_
   simp (disch:=omega) only [ite_ne,ht,k1,k2,go_sem,↓reduceIte,zqa,zqb,zqc,zqd,zqe,reduceCtorEq,zqf,zqg,zqh,zqi,zqj,zqk]
   refine ⟨(j+1,_),⟨by dsimp only;omega,by dsimp only;omega⟩,k3,weak_ok ?_ (Sub.cons ?_ (Sub.cons ?_ (Sub.cons ?_ (Sub.cons ?_ (Sub.base hf ?_))))) (zna _)⟩
   all_goals
    simp (disch:=omega) only [ite_ne,wr64s j (by omega),take_snoc ex,go_sem,↓reduceIte,zqa,zqb,zqc,zqd,zqe,reduceCtorEq,zqf,zqg,zqh,zqi,zqj,zqk]
  ·have q:j=p.picks.length:=by simp at q;omega
   subst q
   have k1:p.tw.length*8≤140737488355327:=by omega
   rw [zlj]
   simp (disch:=omega) only [ite_ne,go_sem,↓reduceIte,zqa,zqb,zqc,zqd,zqe,reduceCtorEq,zqf,zqg,zqh,zqi,zqj,zqk]
   refine vcCall.f (cloneI_ok p.tw k1 _ _) ?_
   simp (disch:=omega) only [ite_ne,zlj,zna,go_sem,↓reduceIte,zqa,zqb,zqc,zqd,zqe,reduceCtorEq,zqf,zqg,zqh,zqi,zqj,zqk]
theorem copied_ok (p:Pk) (hf:p.Fit) (hp:CH) (m:Nat):MeetsF Tryz.prog 101 hp m [pkx p] (pkx p):=by
 have:=Pk.ind (Q:=fun p=>p.Fit→∀hp m,MeetsF Tryz.prog 101 hp m [pkx p] (pkx p)) (fun p ih hf hp m=>copied_of p hf (fun x hx=>ih x hx (hf.x hx)) hp m) p
 exact this hf hp m
inductive Pln where
 | mk (k:Int) (l:List Pk)
def Pln.k:Pln→Int | .mk k _=>k
theorem Pln.k_mk (k:Int) (l:List Pk):(Pln.mk k l).k=k:=rfl
def Pln.l:Pln→List Pk | .mk _ l=>l
theorem Pln.l_mk (k:Int) (l:List Pk):(Pln.mk k l).l=l:=rfl
theorem Pln.eta (x:Pln):Pln.mk x.k x.l=x:=by cases x;rfl
theorem Pln.ext {x y:Pln} (h0:x.k=y.k) (h1:x.l=y.l):x=y:=by cases x;cases y;simp only [Pln.k_mk,Pln.l_mk] at *;simp [*]
def plC (x:Pln):List AV:=[.i .i64 x.k,.ds (mapC pkC x.l)]
attribute [go_sem] plC Pln.k_mk Pln.l_mk
attribute [grind =] Pln.k_mk Pln.l_mk
attribute [ext] Pln.ext
attribute [grind ext] Pln.ext
abbrev plx (x:Pln):AV:=.ag [.i .i64 x.k,.ds (mapC pkC x.l)]
theorem snoc_pl1 (l:List Pln) (k:Int) (p:Pk):mapC plC l++[[AV.i .i64 k,.ds [[AV.s p.key,.s p.on,.s p.name,.ds (mapC argC p.args),.s p.tn,.ds (mapC in1 p.tw),.s p.label,.i .i64 p.initial,.ds (mapC pkC p.picks)]]]]=mapC plC (l++[.mk k [p]]):=by
 rw [←pkC_eq]
 exact mapC_snoc plC l (.mk k [p])
attribute [go_sem] snoc_pl1
def splitP (p:Pln):List Pln:=p.l.map fun x=>.mk p.k [x]
theorem splitP_len (p:Pln):(splitP p).length=p.l.length:=by simp [splitP]
theorem splitP_step {k:Int} {l:List Pk} {j:Nat} {x:Pk} (h:l[j]?=some x):splitP (.mk k (l.take j))++[.mk k [x]]=splitP (.mk k (l.take (j+1))):=by
 rw [←take_snoc h]
 simp [splitP,Pln.l_mk,Pln.k_mk]
theorem sSplit_ok (p:Pln) (hl:p.l.length≤100000000000) (hfp:∀x∈p.l,x.Fit) (hp:CH) (m:Nat):MeetsF Tryz.prog 57 hp m [plx p] (.ds (mapC plC (splitP p))):=by
 refine meetsF Tryz.func57 (by kernel_rfl) cc57 cr57 rfl fun hf=>?_;unfold ck57
 simp only [go_sem,↓reduceIte,zqa,zqb,zqc,zqd,zqe,reduceCtorEq,zqf,zqg,zqh,zqi,zqj,zqk]
 refine loop (fun q:Nat × Nat=>⟨[(1,.bx m 0),(3,.rw (m+1) q.1 q.1),(7,.ds (mapC pkC p.l)),(8,.i .i64 p.l.length),(9,.i .i64 q.1)],
   (m,.bx [.i .i64 p.k,.ds (mapC pkC p.l)])::(m+1,.rw q.1 2 (mapC plC (splitP (.mk p.k (p.l.take q.1)))))::hp,q.2⟩)
  (fun q=>q.1≤p.l.length∧m+2≤q.2) (fun q=>p.l.length - q.1) (0,m+2) ?_ ?_ (fun ⟨j,n⟩ hj=>?_)
 ·simp
 ·refine (weak_e0 (t:=3) (m:=2) ?_).trans (weak_ok ?_ (Sub.cons ?_ (Sub.cons ?_ (Sub.base hf ?_))) (zna _))
  all_goals (simp (disch:=omega) only [ite_ne,go_sem,↓reduceIte,zqa,zqb,zqc,zqd,zqe,reduceCtorEq,zqf,zqg,zqh,zqi,zqj,zqk])
  all_goals rfl
 dsimp only at hj
 obtain ⟨hj1,hj2⟩:=hj
 simp (disch:=omega) only [ite_ne,go_sem,↓reduceIte,zqa,zqb,zqc,zqd,zqe,reduceCtorEq,zqf,zqg,zqh,zqi,zqj,zqk]
 refine cdK_of (fun q=>?_) (fun q=>?_)
 ·have q:j<p.l.length:=by simpa using q
  obtain ⟨x,ex⟩:∃x,p.l[j]?=some x:=⟨p.l[j],by simp [q]⟩
  have hx:=hfp x (zla ex)
  have ht:(splitP (.mk p.k (p.l.take j))).length=j:=by simp [splitP,Pln.l_mk];omega
  have k1:(j+1)*32≤140737488355328:=by omega
  have k2:j+1≤9223372036854775807:=by omega
  have k3:p.l.length - (j+1)<p.l.length - j:=by omega
  simp (disch:=omega) only [ite_ne,q,getK_s (mapC_get pkC ex),go_sem,↓reduceIte,zqa,zqb,zqc,zqd,zqe,reduceCtorEq,zqf,zqg,zqh,zqi,zqj,zqk]
  refine dCallR.f (fun _ hp' e=>copied_ok x hx _ _) ?_
  simp (disch:=omega) only [ite_ne,q,getK_s (mapC_get pkC ex),ht,k1,k2,go_sem,↓reduceIte,zqa,zqb,zqc,zqd,zqe,reduceCtorEq,zqf,zqg,zqh,zqi,zqj,zqk]
  refine ⟨(j+1,_),⟨by dsimp only;omega,by dsimp only;omega⟩,k3,weak_ok ?_ (Sub.cons ?_ (Sub.cons ?_ (Sub.base hf ?_))) (zna _)⟩
  all_goals
   simp (disch:=omega) only [ite_ne,wr64s j (by omega),splitP_step ex,go_sem,↓reduceIte,zqa,zqb,zqc,zqd,zqe,reduceCtorEq,zqf,zqg,zqh,zqi,zqj,zqk]
 ·have q:j=p.l.length:=by simp at q;omega
  subst q
  rw [zlj]
  have e1:splitP (.mk p.k p.l)=splitP p:=by rw [Pln.eta]
  have e2:=splitP_len p
  have e3:(splitP p).take p.l.length=splitP p:=zlk (by omega)
  rw [e1]
  simp (disch:=omega) only [ite_ne,e2,e3,zna,go_sem,↓reduceIte,zqa,zqb,zqc,zqd,zqe,reduceCtorEq,zqf,zqg,zqh,zqi,zqj,zqk]
end Go.Proofs.YthiifoleopdieaaGreatDoor
