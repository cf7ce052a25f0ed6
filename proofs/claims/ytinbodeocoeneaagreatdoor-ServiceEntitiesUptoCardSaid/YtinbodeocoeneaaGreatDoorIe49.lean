/- Proof. Conditions: none. -/
import Derived.Test.YtinbodeocoeneaaGreatDoorIe48
open Nat renaming reduceEqDiff→Za,reduceBEq→Zb,reduceAdd→Zc,reduceLeDiff→Zd,reduceLT→Ze,reduceMul→Zf,reduceSub→Zg
open Int renaming reduceEq→Zh,reduceLT→Zi,reduceLE→Zj,reduceToNat→Zk
open List renaming mem_of_getElem?→zla,take_length→zlj,take_of_length_le→zlk
open Nat renaming le_refl→zna
namespace Go.Proofs.YtinbodeocoeneaaGreatDoor
open Go.Eng
set_option linter.all false
set_option maxRecDepth 20000
set_option maxHeartbeats 1000000
theorem RepAt.gd {hp:CH} {α:AV} {rep:Option Val} (hα:RepAt hp α rep):α=.np∨∃k2,α=.bx k2 0:=by
 cases rep with
 | none=>exact .inl hα
 | some r =>
  obtain ⟨k2,h,_⟩:=hα
  exact .inr ⟨k2,h⟩
theorem vobject_of (gn:ByteArray) (g:List Dfn) (s:Sup) (hs:SOk s) (d:Dat) {B:Nat} (hd:DOk d B) (l:List Pk) (hl:l.length≤1048576) (rep:Option Val) (i:Int) (hi:exB d i=true)
  (h:∀p∈l,SvR gn g s d rep 59 [.i .i64 i,pkx p] (vx (sPick g s d p rep i))) :
  SvR gn g s d rep 120 [.i .i64 i,.ds (mapC pkC l)] (vx (sObj g s d l rep i)):=by
 intro k hp hk α hα m
 obtain ⟨R,hR⟩:∃R,sObj g s d l rep i=R:=⟨_,rfl⟩
 have e:=hR
 rw [sObj] at e
 rw [hR]
 obtain ⟨i',x,rfl,ex,hil,ht⟩:=exB_at hi
 have hF:∀j p,l[j]?=some p→sFields g s d (l.take (j+1)) rep i'=if p.on=x.t then sFields g s d (l.take j) rep i'++[(p.key,sPick g s d p rep i')] else sFields g s d (l.take j) rep i':=by
  intro j p hjp
  rw [sFields_step hjp,ht]
 rw [ht] at e
 have hq:∀j,(sFields g s d (l.take j) rep i').length≤j:=fun j=>by
  have:=sFields_len g s d rep i' (l.take j)
  rw [List.length_take] at this
  omega
 refine meetsF Tryz.func120 (by kernel_rfl) cc120 cr120 rfl fun hf=>?_;unfold ck120
 have hlt:=bx_lt hf hk
 simp (disch:=omega) only [ite_ne,hk,hil,getK_s (mapC_get itC ex),go_sem,↓reduceIte,Za,Zb,Zc,Zd,Ze,reduceCtorEq,Zf,Zg,Zh,Zi,Zj,Zk]
 refine vcCall.f (vText_ok _ _ _) ?_
 simp only [go_sem,↓reduceIte,Za,Zb,Zc,Zd,Ze,reduceCtorEq,Zf,Zg,Zh,Zi,Zj,Zk]
 refine loop (fun q:Nat × List (ByteArray × Val) × Nat=>⟨[(0,.bx k 0),(1,.i .i64 i'),(3,α),(8,.bx m 0),(9,.s x.t),(10,.bx (m+3) 0),(27,.ds (mapC pkC l)),(28,.i .i64 l.length),(29,.i .i64 q.1)],
   (m,.bx [.i .i64 0,.i .i64 0,.s ⟨#[]⟩,.e0,.e0]) ::
   (m+3,.bx [.i .i64 6,.i .i64 0,.s ⟨#[]⟩,.rw (m+2) q.2.1.length (q.2.1.length+1),.rw (m+1) q.2.1.length (q.2.1.length+1)])::(m+2,.rw q.2.1.length 5 (mapC valC (txV x.t::q.2.1.map (·.2))))::(m+1,.rw q.2.1.length 1 (stC (⟨#[95,95,116]⟩::q.2.1.map (·.1))))::hp,q.2.2⟩)
  (fun q=>q.1≤l.length∧m+4≤q.2.2∧q.2.1=sFields g s d (l.take q.1) rep i') (fun q=>l.length - q.1) (0,[],m+4) ?_ ?_ (fun ⟨j,F,n⟩ hj=>?_)
 .exact ⟨by simp,by simp,by dsimp only;rw [List.take_zero,sFields_eq];rfl⟩
 .refine weak_ok ?_ (Sub.cons ?_ (Sub.cons ?_ (Sub.cons ?_ (Sub.cons ?_ (Sub.base hf ?_))))) (zna _)
  all_goals (simp (disch:=omega) only [ite_ne,go_sem,↓reduceIte,Za,Zb,Zc,Zd,Ze,reduceCtorEq,Zf,Zg,Zh,Zi,Zj,Zk])
  all_goals rfl
 dsimp only at hj
 obtain ⟨hj1,hj2,hj3⟩:=hj
 have hmn:m≤n:=by omega
 have hFl:F.length≤j:=by rw [hj3];exact hq j
 simp (disch:=omega) only [ite_ne,go_sem,↓reduceIte,Za,Zb,Zc,Zd,Ze,reduceCtorEq,Zf,Zg,Zh,Zi,Zj,Zk]
 refine cdK_of (fun q=>?_) (fun q=>?_)
 .have q:j<l.length:=by simpa using q
  obtain ⟨p,ep⟩:∃p,l[j]?=some p:=⟨l[j],by simp [q]⟩
  have hst:=hF j p ep
  have hrd:=h p (zla ep) k
  rw [←hj3] at hst
  have hl1:(F.map (·.2)).length=F.length:=by simp
  have hl2:(F.map (·.1)).length=F.length:=by simp
  have k1:(F.length+1+1)*80≤140737488355328:=by omega
  have k2:(F.length+1+1)*16≤140737488355328:=by omega
  have k3:F.length+1+1≤9223372036854775807:=by omega
  have k4:l.length - (j+1)<l.length - j:=by omega
  simp (disch:=omega) only [ite_ne,q,getK_s (mapC_get pkC ep),go_sem,↓reduceIte,Za,Zb,Zc,Zd,Ze,reduceCtorEq,Zf,Zg,Zh,Zi,Zj,Zk]
  refine cdK_of (fun c=>?_) (fun c=>?_)
  .have c:p.on=x.t:=by simpa using c
   rw [if_pos c] at hst
   have hα2:α=.np∨∃k2,α=.bx k2 0:=hα.gd
   rcases hα2 with rfl | ⟨k9,rfl⟩
   .simp (disch:=omega) only [ite_ne,hl1,hl2,k1,k2,k3,go_sem,↓reduceIte,Za,Zb,Zc,Zd,Ze,reduceCtorEq,Zf,Zg,Zh,Zi,Zj,Zk]
    refine dCallR.f (fun _ hp' e=>hrd hp' ((e k (.inl (show k<n+1 by omega))).trans ?_) _ (hα.up fun k2 cs hk2=>?_) _) ?_
    .simp (disch:=omega) only [ite_ne,hk,go_sem,↓reduceIte,Za,Zb,Zc,Zd,Ze,reduceCtorEq,Zf,Zg,Zh,Zi,Zj,Zk]
    .have hk3:=bx_lt hf hk2
     refine (e k2 (.inl (show k2<n+1 by omega))).trans ?_
     simp (disch:=omega) only [ite_ne,hk2,go_sem,↓reduceIte,Za,Zb,Zc,Zd,Ze,reduceCtorEq,Zf,Zg,Zh,Zi,Zj,Zk]
    simp (disch:=omega) only [ite_ne,hl1,hl2,k1,k2,k3,go_sem,↓reduceIte,Za,Zb,Zc,Zd,Ze,reduceCtorEq,Zf,Zg,Zh,Zi,Zj,Zk]
    refine ⟨(j+1,F++[(p.key,sPick g s d p rep i')],_),⟨by dsimp only;omega,by dsimp only;omega,hst.symm⟩,k4,weak_ok ?_ (Sub.cons ?_ (Sub.cons ?_ (Sub.cons ?_ (Sub.cons ?_ (Sub.base hf ?_))))) (zna _)⟩
    all_goals
     simp (disch:=omega) only [ite_ne,wr64s j (by omega),hmn,List.length_append,List.length_cons,List.length_nil,List.map_append,List.map_cons,List.map_nil,go_sem,↓reduceIte,Za,Zb,Zc,Zd,Ze,reduceCtorEq,Zf,Zg,Zh,Zi,Zj,Zk]
   .simp (disch:=omega) only [ite_ne,hl1,hl2,k1,k2,k3,go_sem,↓reduceIte,Za,Zb,Zc,Zd,Ze,reduceCtorEq,Zf,Zg,Zh,Zi,Zj,Zk]
    refine dCallR.f (fun _ hp' e=>hrd hp' ((e k (.inl (show k<n+1 by omega))).trans ?_) _ (hα.up fun k2 cs hk2=>?_) _) ?_
    .simp (disch:=omega) only [ite_ne,hk,go_sem,↓reduceIte,Za,Zb,Zc,Zd,Ze,reduceCtorEq,Zf,Zg,Zh,Zi,Zj,Zk]
    .have hk3:=bx_lt hf hk2
     refine (e k2 (.inl (show k2<n+1 by omega))).trans ?_
     simp (disch:=omega) only [ite_ne,hk2,go_sem,↓reduceIte,Za,Zb,Zc,Zd,Ze,reduceCtorEq,Zf,Zg,Zh,Zi,Zj,Zk]
    simp (disch:=omega) only [ite_ne,hl1,hl2,k1,k2,k3,go_sem,↓reduceIte,Za,Zb,Zc,Zd,Ze,reduceCtorEq,Zf,Zg,Zh,Zi,Zj,Zk]
    refine ⟨(j+1,F++[(p.key,sPick g s d p rep i')],_),⟨by dsimp only;omega,by dsimp only;omega,hst.symm⟩,k4,weak_ok ?_ (Sub.cons ?_ (Sub.cons ?_ (Sub.cons ?_ (Sub.cons ?_ (Sub.base hf ?_))))) (zna _)⟩
    all_goals
     simp (disch:=omega) only [ite_ne,wr64s j (by omega),hmn,List.length_append,List.length_cons,List.length_nil,List.map_append,List.map_cons,List.map_nil,go_sem,↓reduceIte,Za,Zb,Zc,Zd,Ze,reduceCtorEq,Zf,Zg,Zh,Zi,Zj,Zk]
  .have c:¬p.on=x.t:=by simpa using c
   rw [if_neg c] at hst
   simp (disch:=omega) only [ite_ne,go_sem,↓reduceIte,Za,Zb,Zc,Zd,Ze,reduceCtorEq,Zf,Zg,Zh,Zi,Zj,Zk]
   refine ⟨(j+1,F,_),⟨by dsimp only;omega,by dsimp only;omega,hst.symm⟩,k4,weak_ok ?_ (Sub.cons ?_ (Sub.cons ?_ (Sub.cons ?_ (Sub.cons ?_ (Sub.base hf ?_))))) (zna _)⟩
   all_goals
    simp (disch:=omega) only [ite_ne,wr64s j (by omega),hmn,go_sem,↓reduceIte,Za,Zb,Zc,Zd,Ze,reduceCtorEq,Zf,Zg,Zh,Zi,Zj,Zk]
 .have q:j=l.length:=by simp at q;omega
  subst q
  rw [zlj] at hj3
  rw [←hj3] at e
  subst e
  have hl1:(F.map (·.2)).length=F.length:=by simp
  have hl2:(F.map (·.1)).length=F.length:=by simp
  have hl3:(F.map (·.2)).take F.length=F.map (·.2):=zlk (by omega)
  have hl4:(F.map (·.1)).take F.length=F.map (·.1):=zlk (by omega)
  simp (disch:=omega) only [ite_ne,hl1,hl2,hl3,hl4,zna,hmn,go_sem,↓reduceIte,Za,Zb,Zc,Zd,Ze,reduceCtorEq,Zf,Zg,Zh,Zi,Zj,Zk]
  try rfl
theorem vread_ok (gn:ByteArray) (g:List Dfn) (hg:g.length≤1048576) (hgf:∀t∈g,t.fields.length≤1000000000000) (s:Sup) (hs:SOk s) (d:Dat) {B:Nat} (hd:DOk d B) (p:Pk) (hpo:p.Ok) (rep:Option Val) (hr:ROk rep) (i:Int) (hi:exB d i=true) :
  SvR gn g s d rep 59 [.i .i64 i,pkx p] (vx (sPick g s d p rep i)):=by
 have:=Pk.ind (Q:=fun p=>p.Ok→∀rep,ROk rep→∀i,exB d i=true→SvR gn g s d rep 59 [.i .i64 i,pkx p] (vx (sPick g s d p rep i)))
  (fun p ih hpo rep hr i hi=>vread_of gn g hg hgf s hs d hd p hpo.a (fun v hv=>vraw_ok gn g s hs d hd p
   (fun i hi=>vobject_of gn g s hs d hd p.picks hpo.l none i hi fun x hx=>ih x hx (hpo.x hx) none ROk.none i hi) v hv) rep hr i hi) p
 exact this hpo rep hr i hi
theorem vobject_ok (gn:ByteArray) (g:List Dfn) (hg:g.length≤1048576) (hgf:∀t∈g,t.fields.length≤1000000000000) (s:Sup) (hs:SOk s) (d:Dat) {B:Nat} (hd:DOk d B) (l:List Pk) (hl:l.length≤1048576) (hpo:∀p∈l,p.Ok) (rep:Option Val) (hr:ROk rep) (i:Int) (hi:exB d i=true) :
  SvR gn g s d rep 120 [.i .i64 i,.ds (mapC pkC l)] (vx (sObj g s d l rep i)) :=
 vobject_of gn g s hs d hd l hl rep i hi fun x hx=>vread_ok gn g hg hgf s hs d hd x (hpo x hx) rep hr i hi
/-! ### Datasets are copied -/
abbrev celx (c:Cel):AV:=.ag [.s c.f,.s c.a,.i .i64 c.v.k,.i .i64 c.v.n,.s c.v.s,.ds (mapC valC c.v.items),.ds (stC c.v.keys)]
theorem vcell_ok (c:Cel) (hc:c.v.Fit) (hp:CH) (m:Nat):MeetsF Tryz.prog 91 hp m [celx c] (celx c):=by
 have h1:=copy_ok c.v hc
 refine meetsF Tryz.func91 (by kernel_rfl) cc91 cr91 rfl fun hf=>?_;unfold ck91
 simp only [go_sem,↓reduceIte,Za,Zb,Zc,Zd,Ze,reduceCtorEq,Zf,Zg,Zh,Zi,Zj,Zk]
 refine dCallR.f (fun _ _ _=>h1 _ _) ?_
 simp only [go_sem,↓reduceIte,Za,Zb,Zc,Zd,Ze,reduceCtorEq,Zf,Zg,Zh,Zi,Zj,Zk]
theorem snoc_wr (l:List Wri) (w:Wri):mapC wrC l++[[AV.s w.f,.s w.a,.i .i64 w.i,.s w.c.f,.s w.c.a,.i .i64 w.c.v.k,.i .i64 w.c.v.n,.s w.c.v.s,.ds (mapC valC w.c.v.items),.ds (stC w.c.v.keys)]]=mapC wrC (l++[w]):=mapC_snoc wrC l w
theorem snoc_ce (l:List Cel) (c:Cel):mapC celC l++[[AV.s c.f,.s c.a,.i .i64 c.v.k,.i .i64 c.v.n,.s c.v.s,.ds (mapC valC c.v.items),.ds (stC c.v.keys)]]=mapC celC (l++[c]):=mapC_snoc celC l c
theorem vclone_ok (d:Dat) (hd:d.Fit2) (hp:CH) (m:Nat):MeetsF Tryz.prog 50 hp m [dx d] (dx d):=by
 have h1:=hd.f.li
 have h2:=hd.w
 refine meetsF Tryz.func50 (by kernel_rfl) cc50 cr50 rfl fun hf=>?_;unfold ck50
 simp only [go_sem,↓reduceIte,Za,Zb,Zc,Zd,Ze,reduceCtorEq,Zf,Zg,Zh,Zi,Zj,Zk]
 refine loop (fun q:Nat × Nat=>⟨[(1,.bx m 0),(2,.bx (m+1) 0),(3,.bx (m+2) 0),(4,.fn 91 []),(14,.ds (mapC itC d.i)),(15,.i .i64 d.i.length),(16,.i .i64 q.1)],
   (m,.bx [.ds (mapC itC d.i),.ds (mapC wrC d.w)])::(m+1,.bx [.e0,.e0])::(m+2,.bx [.rw (m+3) q.1 q.1,.e0])::(m+3,.rw q.1 2 (mapC itC (d.i.take q.1)))::hp,q.2⟩)
  (fun q=>q.1≤d.i.length∧m+4≤q.2) (fun q=>d.i.length - q.1) (0,m+4) ?_ ?_ (fun ⟨j,n⟩ hj=>?_)
 .simp
 .refine (weak_b0 (c:=m+2) (i:=0) (m:=2) (cs:=[.e0,.e0]) (by (simp (disch:=omega) only [ite_ne,go_sem,↓reduceIte,Za,Zb,Zc,Zd,Ze,reduceCtorEq,Zf,Zg,Zh,Zi,Zj,Zk])) rfl).trans (weak_ok ?_ (Sub.cons ?_ (Sub.cons ?_ (Sub.cons ?_ (Sub.cons ?_ (Sub.base hf ?_))))) (zna _))
  all_goals (simp (disch:=omega) only [ite_ne,go_sem,↓reduceIte,Za,Zb,Zc,Zd,Ze,reduceCtorEq,Zf,Zg,Zh,Zi,Zj,Zk])
  all_goals rfl
 dsimp only at hj
 obtain ⟨hj1,hj2⟩:=hj
 have hmn:m≤n:=by omega
 simp (disch:=omega) only [ite_ne,go_sem,↓reduceIte,Za,Zb,Zc,Zd,Ze,reduceCtorEq,Zf,Zg,Zh,Zi,Zj,Zk]
 refine cdK_of (fun q=>?_) (fun q=>?_)
 .have q:j<d.i.length:=by simpa using q
  obtain ⟨x,ex⟩:∃x,d.i[j]?=some x:=⟨d.i[j],by simp [q]⟩
  have hxl:=hd.c x (zla ex)
  have hxc:=fun c hc=>hd.f.c (zla ex) (c:=c) hc
  simp (disch:=omega) only [ite_ne,q,getK_s (mapC_get itC ex),go_sem,↓reduceIte,Za,Zb,Zc,Zd,Ze,reduceCtorEq,Zf,Zg,Zh,Zi,Zj,Zk]
  refine loop (fun r:Nat × Nat=>⟨[(1,.bx m 0),(2,.bx (m+1) 0),(3,.bx (m+2) 0),(4,.fn 91 []),(7,.bx (n+1) 0),(14,.ds (mapC itC d.i)),(15,.i .i64 d.i.length),(16,.i .i64 j),(24,.ds (mapC celC x.l)),(25,.i .i64 x.l.length),(26,.i .i64 r.1)],
    (m,.bx [.ds (mapC itC d.i),.ds (mapC wrC d.w)])::(m+1,.bx [.e0,.e0])::(m+2,.bx [.rw (m+3) j j,.e0])::(m+3,.rw j 2 (mapC itC (d.i.take j)))::(n+1,.bx [.s x.t,.rw (n+2) r.1 r.1])::(n+2,.rw r.1 7 (mapC celC (x.l.take r.1)))::hp,r.2⟩)
   (fun r=>r.1≤x.l.length∧n+3≤r.2) (fun r=>x.l.length - r.1) (0,n+3) ?_ ?_ (fun ⟨i,n2⟩ hi=>?_)
  .simp
  .refine (weak_b0 (c:=n+1) (i:=1) (m:=7) (cs:=[.s x.t,.e0]) (by (simp (disch:=omega) only [ite_ne,go_sem,↓reduceIte,Za,Zb,Zc,Zd,Ze,reduceCtorEq,Zf,Zg,Zh,Zi,Zj,Zk])) rfl).trans (weak_ok ?_ (Sub.cons ?_ (Sub.cons ?_ (Sub.cons ?_ (Sub.cons ?_ (Sub.cons ?_ (Sub.cons ?_ (Sub.base hf ?_))))))) (zna _))
   all_goals (simp (disch:=omega) only [ite_ne,hmn,go_sem,↓reduceIte,Za,Zb,Zc,Zd,Ze,reduceCtorEq,Zf,Zg,Zh,Zi,Zj,Zk])
   all_goals rfl
  dsimp only at hi
  obtain ⟨hi1,hi2⟩:=hi
  have hmn2:m≤n2:=by omega
  simp (disch:=omega) only [ite_ne,hmn2,go_sem,↓reduceIte,Za,Zb,Zc,Zd,Ze,reduceCtorEq,Zf,Zg,Zh,Zi,Zj,Zk]
  refine cdK_of (fun r=>?_) (fun r=>?_)
  .have r:i<x.l.length:=by simpa using r
   obtain ⟨y,ey⟩:∃y,x.l[i]?=some y:=⟨x.l[i],by simp [r]⟩
   have hcy:=vcell_ok y (hxc y (zla ey))
   have ht:(x.l.take i).length=i:=by simp;omega
   have k1:(i+1)*112≤140737488355328:=by omega
   have k2:i+1≤9223372036854775807:=by omega
   have k3:x.l.length - (i+1)<x.l.length - i:=by omega
   simp (disch:=omega) only [ite_ne,r,getK_s (mapC_get celC ey),hmn2,go_sem,↓reduceIte,Za,Zb,Zc,Zd,Ze,reduceCtorEq,Zf,Zg,Zh,Zi,Zj,Zk]
   refine dCall.f (fun _ _ _=>hcy _ _) ?_
   simp (disch:=omega) only [ite_ne,r,getK_s (mapC_get celC ey),ht,k1,k2,hmn2,go_sem,↓reduceIte,Za,Zb,Zc,Zd,Ze,reduceCtorEq,Zf,Zg,Zh,Zi,Zj,Zk]
   refine ⟨(i+1,_),⟨by dsimp only;omega,by dsimp only;omega⟩,k3,weak_ok ?_ (Sub.cons ?_ (Sub.cons ?_ (Sub.cons ?_ (Sub.cons ?_ (Sub.cons ?_ (Sub.cons ?_ (Sub.base hf ?_))))))) (zna _)⟩
   all_goals
    simp (disch:=omega) only [ite_ne,wr64s i (by omega),take_snoc ey,snoc_ce,hmn2,go_sem,↓reduceIte,Za,Zb,Zc,Zd,Ze,reduceCtorEq,Zf,Zg,Zh,Zi,Zj,Zk]
  .have r:i=x.l.length:=by simp at r;omega
   subst r
   have ht:(d.i.take j).length=j:=by simp;omega
   have k1:(j+1)*40≤140737488355328:=by omega
   have k2:j+1≤9223372036854775807:=by omega
   have k3:d.i.length - (j+1)<d.i.length - j:=by omega
   rw [zlj]
   simp (disch:=omega) only [ite_ne,hmn2,ht,k1,k2,zlj,zna,go_sem,↓reduceIte,Za,Zb,Zc,Zd,Ze,reduceCtorEq,Zf,Zg,Zh,Zi,Zj,Zk]
   refine ⟨(j+1,_),⟨by dsimp only;omega,by dsimp only;omega⟩,k3,weak_ok ?_ (Sub.cons ?_ (Sub.cons ?_ (Sub.cons ?_ (Sub.cons ?_ (Sub.base hf ?_))))) (zna _)⟩
   all_goals
    simp (disch:=omega) only [ite_ne,wr64s j (by omega),take_snoc ex,hmn2,go_sem,↓reduceIte,Za,Zb,Zc,Zd,Ze,reduceCtorEq,Zf,Zg,Zh,Zi,Zj,Zk]
 .have q:j=d.i.length:=by simp at q;omega
  subst q
  rw [zlj]
  simp (disch:=omega) only [ite_ne,hmn,go_sem,↓reduceIte,Za,Zb,Zc,Zd,Ze,reduceCtorEq,Zf,Zg,Zh,Zi,Zj,Zk]
  refine loop (fun r:Nat × Nat=>⟨[(2,.bx (m+1) 0),(3,.bx (m+2) 0),(4,.fn 91 []),(47,.ds (mapC wrC d.w)),(48,.i .i64 d.w.length),(49,.i .i64 r.1)],
    (m+1,.bx [.e0,.e0])::(m+2,.bx [.rw (m+3) d.i.length d.i.length,.rw n r.1 r.1])::(m+3,.rw d.i.length 2 (mapC itC d.i))::(n,.rw r.1 10 (mapC wrC (d.w.take r.1)))::hp,r.2⟩)
   (fun r=>r.1≤d.w.length∧n+1≤r.2) (fun r=>d.w.length - r.1) (0,n+1) ?_ ?_ (fun ⟨i,n2⟩ hi=>?_)
  .simp
  .refine (weak_b0 (c:=m+2) (i:=1) (m:=10) (cs:=[.rw (m+3) d.i.length d.i.length,.e0]) (by (simp (disch:=omega) only [ite_ne,go_sem,↓reduceIte,Za,Zb,Zc,Zd,Ze,reduceCtorEq,Zf,Zg,Zh,Zi,Zj,Zk])) rfl).trans (weak_ok ?_ (Sub.cons ?_ (Sub.cons ?_ (Sub.cons ?_ (Sub.cons ?_ (Sub.base hf ?_))))) (zna _))
   all_goals (simp (disch:=omega) only [ite_ne,hmn,go_sem,↓reduceIte,Za,Zb,Zc,Zd,Ze,reduceCtorEq,Zf,Zg,Zh,Zi,Zj,Zk])
   all_goals rfl
  dsimp only at hi
  obtain ⟨hi1,hi2⟩:=hi
  have hmn2:m≤n2:=by omega
  simp (disch:=omega) only [ite_ne,hmn2,go_sem,↓reduceIte,Za,Zb,Zc,Zd,Ze,reduceCtorEq,Zf,Zg,Zh,Zi,Zj,Zk]
  refine cdK_of (fun r=>?_) (fun r=>?_)
  .have r:i<d.w.length:=by simpa using r
   obtain ⟨y,ey⟩:∃y,d.w[i]?=some y:=⟨d.w[i],by simp [r]⟩
   have hcy:=vcell_ok y.c (hd.f.w (zla ey))
   have ht:(d.w.take i).length=i:=by simp;omega
   have k1:(i+1)*152≤140737488355328:=by omega
   have k2:i+1≤9223372036854775807:=by omega
   have k3:d.w.length - (i+1)<d.w.length - i:=by omega
   simp (disch:=omega) only [ite_ne,r,getK_s (mapC_get wrC ey),hmn2,go_sem,↓reduceIte,Za,Zb,Zc,Zd,Ze,reduceCtorEq,Zf,Zg,Zh,Zi,Zj,Zk]
   refine dCall.f (fun _ _ _=>hcy _ _) ?_
   simp (disch:=omega) only [ite_ne,r,getK_s (mapC_get wrC ey),ht,k1,k2,hmn2,go_sem,↓reduceIte,Za,Zb,Zc,Zd,Ze,reduceCtorEq,Zf,Zg,Zh,Zi,Zj,Zk]
   refine ⟨(i+1,_),⟨by dsimp only;omega,by dsimp only;omega⟩,k3,weak_ok ?_ (Sub.cons ?_ (Sub.cons ?_ (Sub.cons ?_ (Sub.cons ?_ (Sub.base hf ?_))))) (zna _)⟩
   all_goals
    simp (disch:=omega) only [ite_ne,wr64s i (by omega),take_snoc ey,snoc_wr,hmn2,go_sem,↓reduceIte,Za,Zb,Zc,Zd,Ze,reduceCtorEq,Zf,Zg,Zh,Zi,Zj,Zk]
  .have r:i=d.w.length:=by simp at r;omega
   subst r
   rw [zlj]
   simp (disch:=omega) only [ite_ne,hmn2,zlj,zna,go_sem,↓reduceIte,Za,Zb,Zc,Zd,Ze,reduceCtorEq,Zf,Zg,Zh,Zi,Zj,Zk]
set_option maxHeartbeats 2000000
theorem vent_ok (gn:ByteArray) (g:List Dfn) (hg:g.length≤1048576) (hgf:∀t∈g,t.fields.length≤1000000000000) (s:Sup) (hs:SOk s) (d:Dat) {B:Nat} (hd:DOk d B) (F:Fet) (hk:F.keys.length≤1048576) (hl:F.picks.length≤1048576) (hpo:∀p∈F.picks,p.Ok) (rep:Val) (hr:VSm rep) :
  SvM gn g s d 69 [fetx F,vx rep] (vx (entV g s d F.typ F.keys F.key F.picks rep)):=by
 intro c hp hc m
 obtain ⟨R,hR⟩:∃R,entV g s d F.typ F.keys F.key F.picks rep=R:=⟨_,rfl⟩
 have e:=hR
 rw [hR]
 rw [entV] at e
 refine meetsF Tryz.func69 (by kernel_rfl) cc69 cr69 rfl fun hf=>?_;unfold ck69
 have hlt:=bx_lt hf hc
 simp only [go_sem,↓reduceIte,Za,Zb,Zc,Zd,Ze,reduceCtorEq,Zf,Zg,Zh,Zi,Zj,Zk]
 refine cdK_of (fun q=>?_) (fun q=>?_)
 .rw [if_neg (by simp at q;omega)] at e
  subst e
  simp only [go_sem,↓reduceIte,Za,Zb,Zc,Zd,Ze,reduceCtorEq,Zf,Zg,Zh,Zi,Zj,Zk]
  try rfl
 have q:1≤F.key∧F.key≤F.keys.length∧rep.k=6:=by simp at q;omega
 rw [if_pos q] at e
 obtain ⟨K,hK⟩:∃K:Nat,F.key=K:=⟨F.key.toNat,by omega⟩
 have hKl:K≤F.keys.length:=by omega
 rw [hK,Int.toNat_natCast] at e
 obtain ⟨ks,hks⟩:∃ks,F.keys.take K=ks:=⟨_,rfl⟩
 have hksl:ks.length=K:=by rw [←hks,List.length_take];omega
 have hst:(stC F.keys).take K=stC ks:=by rw [←hks];simp [stC,mapC,List.map_take]
 have hsl:(stC F.keys).length=F.keys.length:=mapC_len _ _
 rw [hks] at e
 have hGet:=fun k=>get_ok rep hr.f k
 have hOb:=fun i hi=>vobject_ok gn g hg hgf s hs d hd F.picks hl hpo (some rep) (fun r hr'=>by cases hr';exact hr) i hi
 simp (disch:=omega) only [ite_ne,hK,hKl,hst,hsl,go_sem,↓reduceIte,Za,Zb,Zc,Zd,Ze,reduceCtorEq,Zf,Zg,Zh,Zi,Zj,Zk]
 refine ⟨by omega,?_⟩
 refine loop (fun q:Nat × List Val × Nat=>⟨[(0,.bx c 0),(4,.bx m 0),(5,.bx (m+1) 0),(6,.bx (m+2) 0),(7,.rw (m+3) q.1 q.1),(35,.ds (stC ks)),(36,.i .i64 K),(37,.i .i64 q.1)],
   (m,.bx [.i .i64 F.g,.i .i64 F.dep,.ds F.path,.s F.typ,.ds (stC F.keys),.i .i64 K,.ds (mapC pkC F.picks),.ds F.after])::(m+1,.bx [.i .i64 rep.k,.i .i64 rep.n,.s rep.s,.ds (mapC valC rep.items),.ds (stC rep.keys)])::(m+2,.bx [.i .i64 0,.i .i64 0,.s ⟨#[]⟩,.e0,.e0])::(m+3,.rw q.1 5 (mapC valC q.2.1))::hp,q.2.2⟩)
  (fun q=>q.1≤K∧m+4≤q.2.2∧q.2.1.length=q.1∧(∀v∈q.2.1,v.Fit)∧R=entF rep (entG g s d F.typ ks F.picks rep) (ks.drop q.1) q.2.1) (fun q=>K - q.1) (0,[],m+4) ?_ ?_ (fun ⟨j,vs,n⟩ hj=>?_)
 .exact ⟨by simp,by simp,rfl,by simp,e.symm⟩
 .refine (weak_e0 (t:=7) (m:=5) ?_).trans (weak_ok ?_ (Sub.cons ?_ (Sub.cons ?_ (Sub.cons ?_ (Sub.cons ?_ (Sub.base hf ?_))))) (zna _))
  all_goals (simp (disch:=omega) only [ite_ne,hK,hksl,go_sem,↓reduceIte,Za,Zb,Zc,Zd,Ze,reduceCtorEq,Zf,Zg,Zh,Zi,Zj,Zk])
  all_goals rfl
 dsimp only at hj
 obtain ⟨hj1,hj2,hj3,hj4,hj5⟩:=hj
 have hmn:m≤n:=by omega
 simp (disch:=omega) only [ite_ne,go_sem,↓reduceIte,Za,Zb,Zc,Zd,Ze,reduceCtorEq,Zf,Zg,Zh,Zi,Zj,Zk]
 refine cdK_of (fun q=>?_) (fun q=>?_)
 .have q:j<K:=by simpa using q
  obtain ⟨k,ek⟩:∃k,ks[j]?=some k:=⟨ks[j]'(by omega),by simp [show j<ks.length by omega]⟩
  rw [drop_at ek,entF] at hj5
  have hG:=hGet k
  rw [resV] at hG
  have k1:(j+1)*80≤140737488355328:=by omega
  have k2:j+1≤9223372036854775807:=by omega
  have hvl:(mapC valC vs).length=j:=by rw [mapC_len];omega
  have hgf2:=getV_fit hr.f k
  obtain ⟨o,ho⟩:∃o,getV rep k=o:=⟨_,rfl⟩
  rw [ho] at hG hj5 hgf2
  simp (disch:=omega) only [ite_ne,q,getK_s (mapC_get st1 ek),hksl,go_sem,↓reduceIte,Za,Zb,Zc,Zd,Ze,reduceCtorEq,Zf,Zg,Zh,Zi,Zj,Zk]
  refine vcCall.f (hG _ _) ?_
  cases o with
  | none =>
   dsimp only at hj5
   subst hj5
   simp (disch:=omega) only [ite_ne,hmn,go_sem,↓reduceIte,Za,Zb,Zc,Zd,Ze,reduceCtorEq,Zf,Zg,Zh,Zi,Zj,Zk]
   try rfl
  | some x =>
   dsimp only at hj5
   have hsn:mapC valC vs++[[AV.i .i64 x.k,.i .i64 x.n,.s x.s,.ds (mapC valC x.items),.ds (stC x.keys)]]=mapC valC (vs++[x]):=by rw [←valC_eq,mapC_snoc]
   simp (disch:=omega) only [ite_ne,hvl,hj3,k1,k2,go_sem,↓reduceIte,Za,Zb,Zc,Zd,Ze,reduceCtorEq,Zf,Zg,Zh,Zi,Zj,Zk]
   refine ⟨(j+1,vs++[x],_),⟨by dsimp only;omega,by dsimp only;omega,by simp [hj3],?_,hj5⟩,by dsimp only;omega,weak_ok ?_ (Sub.cons ?_ (Sub.cons ?_ (Sub.cons ?_ (Sub.cons ?_ (Sub.base hf ?_))))) (zna _)⟩
   .intro v hv
    rcases List.mem_append.1 hv with hv | hv
    .exact hj4 v hv
    .rw [List.mem_singleton.1 hv];exact hgf2
   all_goals
    simp (disch:=omega) only [ite_ne,wr64s j (by omega),hsn,hmn,go_sem,↓reduceIte,Za,Zb,Zc,Zd,Ze,reduceCtorEq,Zf,Zg,Zh,Zi,Zj,Zk]
 .have q:j=K:=by simp at q;omega
  subst q
  rw [←hksl,List.drop_length,entF,entG] at hj5
  have hFd:=dFind_ok d hd.f.f F.typ ks vs (by omega) hj4
  obtain ⟨I,hI⟩:∃I,findD d F.typ ks vs=I:=⟨_,rfl⟩
  have hex:=findD_ex (d:=d) (typ:=F.typ) (ks:=ks) (vs:=vs)
  rw [hI] at hFd hj5 hex
  rw [resI] at hFd
  have hvl:(mapC valC vs).length=j:=by rw [mapC_len];omega
  obtain ⟨I0,hI0⟩:∃I0,(if 0≤I then I else 0)=I0:=⟨_,rfl⟩
  obtain ⟨X,hX⟩:∃X,decide (0≤I)=X:=⟨_,rfl⟩
  rw [hI0,hX] at hFd
  have hcm:c<m:=hlt
  have htk:(mapC valC vs).take j=mapC valC vs:=zlk (by omega)
  simp (disch:=omega) only [ite_ne,hc,hst,hsl,hKl,hmn,go_sem,↓reduceIte,Za,Zb,Zc,Zd,Ze,reduceCtorEq,Zf,Zg,Zh,Zi,Zj,Zk]
  refine ⟨by omega,?_⟩
  refine dCallR.f (fun _ hp' e=>MeetsF.lend (R:=[(m+3,.sh j 5 (mapC valC vs))]) (B:=[]) ⟨.inl ?_,trivial⟩ trivial ?_ rfl (hFd _ _)) ?_
  .refine (e (m+3) (.inl (by omega))).trans ?_
   simp (disch:=omega) only [ite_ne,hc,go_sem,↓reduceIte,Za,Zb,Zc,Zd,Ze,reduceCtorEq,Zf,Zg,Zh,Zi,Zj,Zk]
  .simp (disch:=omega) only [ite_ne,hvl,htk,zna,go_sem,↓reduceIte,Za,Zb,Zc,Zd,Ze,reduceCtorEq,Zf,Zg,Zh,Zi,Zj,Zk]
   try rfl
  simp (disch:=omega) only [ite_ne,hc,hmn,go_sem,↓reduceIte,Za,Zb,Zc,Zd,Ze,reduceCtorEq,Zf,Zg,Zh,Zi,Zj,Zk]
  cases X with
  | false =>
   have z:¬0≤I:=by simpa using hX
   rw [if_neg z] at hj5
   subst hj5
   simp (disch:=omega) only [ite_ne,hmn,go_sem,↓reduceIte,Za,Zb,Zc,Zd,Ze,reduceCtorEq,Zf,Zg,Zh,Zi,Zj,Zk]
   try rfl
  | true =>
   have z:0≤I:=by simpa using hX
   rw [if_pos z] at hj5
   rw [if_pos z] at hI0
   subst hI0
   subst hj5
   simp (disch:=omega) only [ite_ne,hmn,go_sem,↓reduceIte,Za,Zb,Zc,Zd,Ze,reduceCtorEq,Zf,Zg,Zh,Zi,Zj,Zk]
   refine vcCall.f (hOb I (hex z) c _ ?_ (.bx (m+1) 0) ⟨m+1,rfl,?_⟩ _) ?_
   .simp (disch:=omega) only [ite_ne,hc,go_sem,↓reduceIte,Za,Zb,Zc,Zd,Ze,reduceCtorEq,Zf,Zg,Zh,Zi,Zj,Zk]
   .simp (disch:=omega) only [ite_ne,hc,go_sem,↓reduceIte,Za,Zb,Zc,Zd,Ze,reduceCtorEq,Zf,Zg,Zh,Zi,Zj,Zk]
   simp (disch:=omega) only [ite_ne,hmn,go_sem,↓reduceIte,Za,Zb,Zc,Zd,Ze,reduceCtorEq,Zf,Zg,Zh,Zi,Zj,Zk]
theorem vEnts_ok (gn:ByteArray) (g:List Dfn) (hg:g.length≤1048576) (hgf:∀t∈g,t.fields.length≤1000000000000) (s:Sup) (hs:SOk s) (d:Dat) {B:Nat} (hd:DOk d B) (F:Fet) (hk:F.keys.length≤1048576) (hl:F.picks.length≤1048576) (hpo:∀p∈F.picks,p.Ok)
  (l:List Val) (hll:l.length≤1048576) (hr:∀v∈l,VSm v) (hp:CH) (m:Nat) :
  MeetsF Tryz.prog 27 hp m [grx gn g,supx s,dx d,fetx F,.ds (mapC valC l)] (.ds (mapC valC (l.map fun r=>entV g s d F.typ F.keys F.key F.picks r))):=by
 have hE:=fun r (h:r∈l)=>vent_ok gn g hg hgf s hs d hd F hk hl hpo r (hr r h)
 obtain ⟨W,hW⟩:∃W,(fun r=>entV g s d F.typ F.keys F.key F.picks r)=W:=⟨_,rfl⟩
 have hE:∀r∈l,SvM gn g s d 69 [fetx F,vx r] (vx (W r)):=by rw [←hW];exact hE
 rw [hW]
 have k0:l.length*80≤140737488355328:=by omega
 refine meetsF Tryz.func27 (by kernel_rfl) cc27 cr27 rfl fun hf=>?_;unfold ck27
 simp (disch:=omega) only [ite_ne,k0,go_sem,↓reduceIte,Za,Zb,Zc,Zd,Ze,reduceCtorEq,Zf,Zg,Zh,Zi,Zj,Zk]
 refine ⟨by omega,by omega,?_⟩
 refine loop (fun q:Nat × Nat=>⟨[(8,.bx (m+3) 0),(11,.bx (m+4) 0),(12,.rw (m+5) q.1 q.1),(23,.ds (mapC valC l)),(24,.i .i64 l.length),(25,.i .i64 q.1)],
   (m+3,.bx [.i .i64 F.g,.i .i64 F.dep,.ds F.path,.s F.typ,.ds (stC F.keys),.i .i64 F.key,.ds (mapC pkC F.picks),.ds F.after])::(m+4,.bx (rvC gn g s d))::(m+5,.rw q.1 5 (mapC valC ((l.take q.1).map W)))::hp,q.2⟩)
  (fun q=>q.1≤l.length∧m+6≤q.2) (fun q=>l.length - q.1) (0,m+6) ?_ ?_ (fun ⟨j,n⟩ hj=>?_)
 .simp
 .refine weak_ok ?_ (Sub.cons ?_ (Sub.cons ?_ (Sub.cons ?_ (Sub.base hf ?_)))) (zna _)
  all_goals (simp (disch:=omega) only [ite_ne,go_sem,↓reduceIte,Za,Zb,Zc,Zd,Ze,reduceCtorEq,Zf,Zg,Zh,Zi,Zj,Zk])
  all_goals rfl
 dsimp only at hj
 obtain ⟨hj1,hj2⟩:=hj
 have hmn:m≤n:=by omega
 simp (disch:=omega) only [ite_ne,go_sem,↓reduceIte,Za,Zb,Zc,Zd,Ze,reduceCtorEq,Zf,Zg,Zh,Zi,Zj,Zk]
 refine cdK_of (fun q=>?_) (fun q=>?_)
 .have q:j<l.length:=by simpa using q
  obtain ⟨x,ex⟩:∃x,l[j]?=some x:=⟨l[j],by simp [q]⟩
  have hx:=hE x (zla ex) (m+4)
  have ht:((l.take j).map W).length=j:=by simp;omega
  have hst:=map_take_snocI W ex
  have k1:(j+1)*80≤140737488355328:=by omega
  have k2:j+1≤9223372036854775807:=by omega
  simp (disch:=omega) only [ite_ne,q,getK_s (mapC_get valC ex),go_sem,↓reduceIte,Za,Zb,Zc,Zd,Ze,reduceCtorEq,Zf,Zg,Zh,Zi,Zj,Zk]
  refine vcCall.f (hx _ ?_ _) ?_
  .simp (disch:=omega) only [ite_ne,hmn,go_sem,↓reduceIte,Za,Zb,Zc,Zd,Ze,reduceCtorEq,Zf,Zg,Zh,Zi,Zj,Zk]
  simp (disch:=omega) only [ite_ne,ht,k1,k2,go_sem,↓reduceIte,Za,Zb,Zc,Zd,Ze,reduceCtorEq,Zf,Zg,Zh,Zi,Zj,Zk]
  refine ⟨(j+1,_),⟨by dsimp only;omega,by dsimp only;omega⟩,by dsimp only;omega,weak_ok ?_ (Sub.cons ?_ (Sub.cons ?_ (Sub.cons ?_ (Sub.base hf ?_)))) (zna _)⟩
  all_goals
   simp (disch:=omega) only [ite_ne,wr64s j (by omega),hst,hmn,go_sem,↓reduceIte,Za,Zb,Zc,Zd,Ze,reduceCtorEq,Zf,Zg,Zh,Zi,Zj,Zk]
 .have q:j=l.length:=by simp at q;omega
  subst q
  have hl1:(l.map W).length=l.length:=by simp
  have hl2:(l.map W).take l.length=l.map W:=zlk (by omega)
  rw [zlj]
  simp (disch:=omega) only [ite_ne,hl1,hl2,zna,hmn,go_sem,↓reduceIte,Za,Zb,Zc,Zd,Ze,reduceCtorEq,Zf,Zg,Zh,Zi,Zj,Zk]
  try rfl
end Go.Proofs.YtinbodeocoeneaaGreatDoor
