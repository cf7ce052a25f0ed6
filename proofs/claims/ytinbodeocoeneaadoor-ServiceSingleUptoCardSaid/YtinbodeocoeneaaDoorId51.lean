/- Proof. Conditions: none. -/
import Derived.Test.YtinbodeocoeneaaDoorId50
open Nat renaming reduceEqDiff→Za,reduceBEq→Zb,reduceAdd→Zc,reduceLeDiff→Zd,reduceLT→Ze,reduceMul→Zf,reduceSub→Zg
open Int renaming reduceEq→Zh,reduceLT→Zi,reduceLE→Zj,reduceToNat→Zk
open List renaming mem_of_getElem?→zla,take_length→zlj
open Nat renaming le_refl→zna
namespace Go.Proofs.YtinbodeocoeneaaDoor
open Go.Eng
set_option linter.all false
set_option maxRecDepth 20000
set_option maxHeartbeats 1000000
theorem RepAt.gd {hp:CH} {α:AV} {rep:Option Val} (hα:RepAt hp α rep):α=.np∨∃k2,α=.bx k2 0:=by
 cases rep with
 | none=>exact .inl hα
 | some r =>
  obtain ⟨k2,h,_⟩:=hα
  exact .inr ⟨k2,h⟩
theorem vobject_of (gn:ByteArray) (g:List Dfn) (s:Sup) (hs:SOk s) (d:Dat) {B:Nat} (hd:DOk d B) (l:List Pk) (hl:l.length≤1048576) (rep:Option Val) (i:Int) (hi:exB d i=true)
  (h:∀p∈l,SvR gn g s d rep 24 [.i .i64 i,pkx p] (vx (sPick g s d p rep i))) :
  SvR gn g s d rep 68 [.i .i64 i,.ds (mapC pkC l)] (vx (sObj g s d l rep i)):=by
 intro k hp hk α hα m
 obtain ⟨R,hR⟩:∃R,sObj g s d l rep i=R:=⟨_,rfl⟩
 have e:=hR
 rw [sObj] at e
 rw [hR]
 obtain ⟨i',x,rfl,ex,hil,ht⟩:=exB_at hi
 have hF:∀j p,l[j]?=some p→sFields g s d (l.take (j+1)) rep i'=if p.on=x.t then sFields g s d (l.take j) rep i'++[(p.key,sPick g s d p rep i')] else sFields g s d (l.take j) rep i':=by
  intro j p hjp
  rw [sFields_step hjp,ht]
 rw [ht] at e
 have hq:∀j,(sFields g s d (l.take j) rep i').length≤j:=fun j=>by
  have:=sFields_len g s d rep i' (l.take j)
  rw [List.length_take] at this
  omega
 refine meetsF Tryd.func68 (by kernel_rfl) cc68 cr68 rfl fun hf=>?_;unfold ck68
 have hlt:=bx_lt hf hk
 simp (disch:=omega) only [ite_ne,hk,hil,getK_s (mapC_get itC ex),go_sem,↓reduceIte,Za,Zb,Zc,Zd,Ze,reduceCtorEq,Zf,Zg,Zh,Zi,Zj,Zk]
 refine vcCall.f (vText_ok _ _ _) ?_
 simp only [go_sem,↓reduceIte,Za,Zb,Zc,Zd,Ze,reduceCtorEq,Zf,Zg,Zh,Zi,Zj,Zk]
 refine loop (fun q:Nat × List (ByteArray × Val) × Nat=>⟨[(0,.bx k 0),(1,.i .i64 i'),(3,α),(8,.bx m 0),(9,.s x.t),(10,.bx (m+3) 0),(27,.ds (mapC pkC l)),(28,.i .i64 l.length),(29,.i .i64 q.1)],
   (m,.bx [.i .i64 0,.i .i64 0,.s ⟨#[]⟩,.e0,.e0]) ::
   (m+3,.bx [.i .i64 6,.i .i64 0,.s ⟨#[]⟩,.rw (m+2) q.2.1.length (q.2.1.length+1),.rw (m+1) q.2.1.length (q.2.1.length+1)])::(m+2,.rw q.2.1.length 5 (mapC valC (txV x.t::q.2.1.map (·.2))))::(m+1,.rw q.2.1.length 1 (stC (⟨#[95,95,116]⟩::q.2.1.map (·.1))))::hp,q.2.2⟩)
  (fun q=>q.1≤l.length∧m+4≤q.2.2∧q.2.1=sFields g s d (l.take q.1) rep i') (fun q=>l.length - q.1) (0,[],m+4) ?_ ?_ (fun ⟨j,F,n⟩ hj=>?_)
 .exact ⟨by simp,by simp,by dsimp only;rw [List.take_zero,sFields_eq];rfl⟩
 .refine weak_ok ?_ (Sub.cons ?_ (Sub.cons ?_ (Sub.cons ?_ (Sub.cons ?_ (Sub.base hf ?_))))) (zna _)
  all_goals (simp (disch:=omega) only [ite_ne,go_sem,↓reduceIte,Za,Zb,Zc,Zd,Ze,reduceCtorEq,Zf,Zg,Zh,Zi,Zj,Zk])
  all_goals rfl
 dsimp only at hj
 obtain ⟨hj1,hj2,hj3⟩:=hj
 have hmn:m≤n:=by omega
 have hFl:F.length≤j:=by rw [hj3];exact hq j
 simp (disch:=omega) only [ite_ne,go_sem,↓reduceIte,Za,Zb,Zc,Zd,Ze,reduceCtorEq,Zf,Zg,Zh,Zi,Zj,Zk]
 refine cdK_of (fun q=>?_) (fun q=>?_)
 .have q:j<l.length:=by simpa using q
  obtain ⟨p,ep⟩:∃p,l[j]?=some p:=⟨l[j],by simp [q]⟩
  have hst:=hF j p ep
  have hrd:=h p (zla ep) k
  rw [←hj3] at hst
  have hl1:(F.map (·.2)).length=F.length:=by simp
  have hl2:(F.map (·.1)).length=F.length:=by simp
  have k1:(F.length+1+1)*80≤140737488355328:=by omega
  have k2:(F.length+1+1)*16≤140737488355328:=by omega
  have k3:F.length+1+1≤9223372036854775807:=by omega
  have k4:l.length - (j+1)<l.length - j:=by omega
  simp (disch:=omega) only [ite_ne,q,getK_s (mapC_get pkC ep),go_sem,↓reduceIte,Za,Zb,Zc,Zd,Ze,reduceCtorEq,Zf,Zg,Zh,Zi,Zj,Zk]
  refine cdK_of (fun c=>?_) (fun c=>?_)
  .have c:p.on=x.t:=by simpa using c
   rw [if_pos c] at hst
   have hα2:α=.np∨∃k2,α=.bx k2 0:=hα.gd
   rcases hα2 with rfl | ⟨k9,rfl⟩
   .simp (disch:=omega) only [ite_ne,hl1,hl2,k1,k2,k3,go_sem,↓reduceIte,Za,Zb,Zc,Zd,Ze,reduceCtorEq,Zf,Zg,Zh,Zi,Zj,Zk]
    refine dCallR.f (fun _ hp' e=>hrd hp' ((e k (.inl (show k<n+1 by omega))).trans ?_) _ (hα.up fun k2 cs hk2=>?_) _) ?_
    .simp (disch:=omega) only [ite_ne,hk,go_sem,↓reduceIte,Za,Zb,Zc,Zd,Ze,reduceCtorEq,Zf,Zg,Zh,Zi,Zj,Zk]
    .have hk3:=bx_lt hf hk2
     refine (e k2 (.inl (show k2<n+1 by omega))).trans ?_
     simp (disch:=omega) only [ite_ne,hk2,go_sem,↓reduceIte,Za,Zb,Zc,Zd,Ze,reduceCtorEq,Zf,Zg,Zh,Zi,Zj,Zk]
    simp (disch:=omega) only [ite_ne,hl1,hl2,k1,k2,k3,go_sem,↓reduceIte,Za,Zb,Zc,Zd,Ze,reduceCtorEq,Zf,Zg,Zh,Zi,Zj,Zk]
    refine ⟨(j+1,F++[(p.key,sPick g s d p rep i')],_),⟨by dsimp only;omega,by dsimp only;omega,hst.symm⟩,k4,weak_ok ?_ (Sub.cons ?_ (Sub.cons ?_ (Sub.cons ?_ (Sub.cons ?_ (Sub.base hf ?_))))) (zna _)⟩
    all_goals
     simp (disch:=omega) only [ite_ne,wr64s j (by omega),hmn,List.length_append,List.length_cons,List.length_nil,List.map_append,List.map_cons,List.map_nil,go_sem,↓reduceIte,Za,Zb,Zc,Zd,Ze,reduceCtorEq,Zf,Zg,Zh,Zi,Zj,Zk]
   .simp (disch:=omega) only [ite_ne,hl1,hl2,k1,k2,k3,go_sem,↓reduceIte,Za,Zb,Zc,Zd,Ze,reduceCtorEq,Zf,Zg,Zh,Zi,Zj,Zk]
    refine dCallR.f (fun _ hp' e=>hrd hp' ((e k (.inl (show k<n+1 by omega))).trans ?_) _ (hα.up fun k2 cs hk2=>?_) _) ?_
    .simp (disch:=omega) only [ite_ne,hk,go_sem,↓reduceIte,Za,Zb,Zc,Zd,Ze,reduceCtorEq,Zf,Zg,Zh,Zi,Zj,Zk]
    .have hk3:=bx_lt hf hk2
     refine (e k2 (.inl (show k2<n+1 by omega))).trans ?_
     simp (disch:=omega) only [ite_ne,hk2,go_sem,↓reduceIte,Za,Zb,Zc,Zd,Ze,reduceCtorEq,Zf,Zg,Zh,Zi,Zj,Zk]
    simp (disch:=omega) only [ite_ne,hl1,hl2,k1,k2,k3,go_sem,↓reduceIte,Za,Zb,Zc,Zd,Ze,reduceCtorEq,Zf,Zg,Zh,Zi,Zj,Zk]
    refine ⟨(j+1,F++[(p.key,sPick g s d p rep i')],_),⟨by dsimp only;omega,by dsimp only;omega,hst.symm⟩,k4,weak_ok ?_ (Sub.cons ?_ (Sub.cons ?_ (Sub.cons ?_ (Sub.cons ?_ (Sub.base hf ?_))))) (zna _)⟩
    all_goals
     simp (disch:=omega) only [ite_ne,wr64s j (by omega),hmn,List.length_append,List.length_cons,List.length_nil,List.map_append,List.map_cons,List.map_nil,go_sem,↓reduceIte,Za,Zb,Zc,Zd,Ze,reduceCtorEq,Zf,Zg,Zh,Zi,Zj,Zk]
  .have c:¬p.on=x.t:=by simpa using c
   rw [if_neg c] at hst
   simp (disch:=omega) only [ite_ne,go_sem,↓reduceIte,Za,Zb,Zc,Zd,Ze,reduceCtorEq,Zf,Zg,Zh,Zi,Zj,Zk]
   refine ⟨(j+1,F,_),⟨by dsimp only;omega,by dsimp only;omega,hst.symm⟩,k4,weak_ok ?_ (Sub.cons ?_ (Sub.cons ?_ (Sub.cons ?_ (Sub.cons ?_ (Sub.base hf ?_))))) (zna _)⟩
   all_goals
    simp (disch:=omega) only [ite_ne,wr64s j (by omega),hmn,go_sem,↓reduceIte,Za,Zb,Zc,Zd,Ze,reduceCtorEq,Zf,Zg,Zh,Zi,Zj,Zk]
 .have q:j=l.length:=by simp at q;omega
  subst q
  rw [zlj] at hj3
  rw [←hj3] at e
  subst e
  have hl1:(F.map (·.2)).length=F.length:=by simp
  have hl2:(F.map (·.1)).length=F.length:=by simp
  have hl3:(F.map (·.2)).take F.length=F.map (·.2):=List.take_of_length_le (by omega)
  have hl4:(F.map (·.1)).take F.length=F.map (·.1):=List.take_of_length_le (by omega)
  simp (disch:=omega) only [ite_ne,hl1,hl2,hl3,hl4,zna,hmn,go_sem,↓reduceIte,Za,Zb,Zc,Zd,Ze,reduceCtorEq,Zf,Zg,Zh,Zi,Zj,Zk]
  try rfl
theorem vread_ok (gn:ByteArray) (g:List Dfn) (hg:g.length≤1048576) (hgf:∀t∈g,t.fields.length≤1000000000000) (s:Sup) (hs:SOk s) (d:Dat) {B:Nat} (hd:DOk d B) (p:Pk) (hpo:p.Ok) (rep:Option Val) (hr:ROk rep) (i:Int) (hi:exB d i=true) :
  SvR gn g s d rep 24 [.i .i64 i,pkx p] (vx (sPick g s d p rep i)):=by
 have:=Pk.ind (Q:=fun p=>p.Ok→∀rep,ROk rep→∀i,exB d i=true→SvR gn g s d rep 24 [.i .i64 i,pkx p] (vx (sPick g s d p rep i)))
  (fun p ih hpo rep hr i hi=>vread_of gn g hg hgf s hs d hd p hpo.a (fun v hv=>vraw_ok gn g s hs d hd p
   (fun i hi=>vobject_of gn g s hs d hd p.picks hpo.l none i hi fun x hx=>ih x hx (hpo.x hx) none ROk.none i hi) v hv) rep hr i hi) p
 exact this hpo rep hr i hi
/-! ### Datasets are copied -/
abbrev celx (c:Cel):AV:=.ag [.s c.f,.s c.a,.i .i64 c.v.k,.i .i64 c.v.n,.s c.v.s,.ds (mapC valC c.v.items),.ds (stC c.v.keys)]
theorem vcell_ok (c:Cel) (hc:c.v.Fit) (hp:CH) (m:Nat):MeetsF Tryd.prog 30 hp m [celx c] (celx c):=by
 have h1:=copy_ok c.v hc
 refine meetsF Tryd.func30 (by kernel_rfl) cc30 cr30 rfl fun hf=>?_;unfold ck30
 simp only [go_sem,↓reduceIte,Za,Zb,Zc,Zd,Ze,reduceCtorEq,Zf,Zg,Zh,Zi,Zj,Zk]
 refine dCallR.f (fun _ _ _=>h1 _ _) ?_
 simp only [go_sem,↓reduceIte,Za,Zb,Zc,Zd,Ze,reduceCtorEq,Zf,Zg,Zh,Zi,Zj,Zk]
theorem snoc_wr (l:List Wri) (w:Wri):mapC wrC l++[[AV.s w.f,.s w.a,.i .i64 w.i,.s w.c.f,.s w.c.a,.i .i64 w.c.v.k,.i .i64 w.c.v.n,.s w.c.v.s,.ds (mapC valC w.c.v.items),.ds (stC w.c.v.keys)]]=mapC wrC (l++[w]):=mapC_snoc wrC l w
theorem snoc_ce (l:List Cel) (c:Cel):mapC celC l++[[AV.s c.f,.s c.a,.i .i64 c.v.k,.i .i64 c.v.n,.s c.v.s,.ds (mapC valC c.v.items),.ds (stC c.v.keys)]]=mapC celC (l++[c]):=mapC_snoc celC l c
theorem vclone_ok (d:Dat) (hd:d.Fit2) (hp:CH) (m:Nat):MeetsF Tryd.prog 15 hp m [dx d] (dx d):=by
 have h1:=hd.f.li
 have h2:=hd.w
 refine meetsF Tryd.func15 (by kernel_rfl) cc15 cr15 rfl fun hf=>?_;unfold ck15
 simp only [go_sem,↓reduceIte,Za,Zb,Zc,Zd,Ze,reduceCtorEq,Zf,Zg,Zh,Zi,Zj,Zk]
 refine loop (fun q:Nat × Nat=>⟨[(1,.bx m 0),(2,.bx (m+1) 0),(3,.bx (m+2) 0),(4,.fn 30 []),(14,.ds (mapC itC d.i)),(15,.i .i64 d.i.length),(16,.i .i64 q.1)],
   (m,.bx [.ds (mapC itC d.i),.ds (mapC wrC d.w)])::(m+1,.bx [.e0,.e0])::(m+2,.bx [.rw (m+3) q.1 q.1,.e0])::(m+3,.rw q.1 2 (mapC itC (d.i.take q.1)))::hp,q.2⟩)
  (fun q=>q.1≤d.i.length∧m+4≤q.2) (fun q=>d.i.length - q.1) (0,m+4) ?_ ?_ (fun ⟨j,n⟩ hj=>?_)
 .simp
 .refine (weak_b0 (c:=m+2) (i:=0) (m:=2) (cs:=[.e0,.e0]) (by (simp (disch:=omega) only [ite_ne,go_sem,↓reduceIte,Za,Zb,Zc,Zd,Ze,reduceCtorEq,Zf,Zg,Zh,Zi,Zj,Zk])) rfl).trans (weak_ok ?_ (Sub.cons ?_ (Sub.cons ?_ (Sub.cons ?_ (Sub.cons ?_ (Sub.base hf ?_))))) (zna _))
  all_goals (simp (disch:=omega) only [ite_ne,go_sem,↓reduceIte,Za,Zb,Zc,Zd,Ze,reduceCtorEq,Zf,Zg,Zh,Zi,Zj,Zk])
  all_goals rfl
 dsimp only at hj
 obtain ⟨hj1,hj2⟩:=hj
 have hmn:m≤n:=by omega
 simp (disch:=omega) only [ite_ne,go_sem,↓reduceIte,Za,Zb,Zc,Zd,Ze,reduceCtorEq,Zf,Zg,Zh,Zi,Zj,Zk]
 refine cdK_of (fun q=>?_) (fun q=>?_)
 .have q:j<d.i.length:=by simpa using q
  obtain ⟨x,ex⟩:∃x,d.i[j]?=some x:=⟨d.i[j],by simp [q]⟩
  have hxl:=hd.c x (zla ex)
  have hxc:=fun c hc=>hd.f.c (zla ex) (c:=c) hc
  simp (disch:=omega) only [ite_ne,q,getK_s (mapC_get itC ex),go_sem,↓reduceIte,Za,Zb,Zc,Zd,Ze,reduceCtorEq,Zf,Zg,Zh,Zi,Zj,Zk]
  refine loop (fun r:Nat × Nat=>⟨[(1,.bx m 0),(2,.bx (m+1) 0),(3,.bx (m+2) 0),(4,.fn 30 []),(7,.bx (n+1) 0),(14,.ds (mapC itC d.i)),(15,.i .i64 d.i.length),(16,.i .i64 j),(24,.ds (mapC celC x.l)),(25,.i .i64 x.l.length),(26,.i .i64 r.1)],
    (m,.bx [.ds (mapC itC d.i),.ds (mapC wrC d.w)])::(m+1,.bx [.e0,.e0])::(m+2,.bx [.rw (m+3) j j,.e0])::(m+3,.rw j 2 (mapC itC (d.i.take j)))::(n+1,.bx [.s x.t,.rw (n+2) r.1 r.1])::(n+2,.rw r.1 7 (mapC celC (x.l.take r.1)))::hp,r.2⟩)
   (fun r=>r.1≤x.l.length∧n+3≤r.2) (fun r=>x.l.length - r.1) (0,n+3) ?_ ?_ (fun ⟨i,n2⟩ hi=>?_)
  .simp
  .refine (weak_b0 (c:=n+1) (i:=1) (m:=7) (cs:=[.s x.t,.e0]) (by (simp (disch:=omega) only [ite_ne,go_sem,↓reduceIte,Za,Zb,Zc,Zd,Ze,reduceCtorEq,Zf,Zg,Zh,Zi,Zj,Zk])) rfl).trans (weak_ok ?_ (Sub.cons ?_ (Sub.cons ?_ (Sub.cons ?_ (Sub.cons ?_ (Sub.cons ?_ (Sub.cons ?_ (Sub.base hf ?_))))))) (zna _))
   all_goals (simp (disch:=omega) only [ite_ne,hmn,go_sem,↓reduceIte,Za,Zb,Zc,Zd,Ze,reduceCtorEq,Zf,Zg,Zh,Zi,Zj,Zk])
   all_goals rfl
  dsimp only at hi
  obtain ⟨hi1,hi2⟩:=hi
  have hmn2:m≤n2:=by omega
  simp (disch:=omega) only [ite_ne,hmn2,go_sem,↓reduceIte,Za,Zb,Zc,Zd,Ze,reduceCtorEq,Zf,Zg,Zh,Zi,Zj,Zk]
  refine cdK_of (fun r=>?_) (fun r=>?_)
  .have r:i<x.l.length:=by simpa using r
   obtain ⟨y,ey⟩:∃y,x.l[i]?=some y:=⟨x.l[i],by simp [r]⟩
   have hcy:=vcell_ok y (hxc y (zla ey))
   have ht:(x.l.take i).length=i:=by simp;omega
   have k1:(i+1)*112≤140737488355328:=by omega
   have k2:i+1≤9223372036854775807:=by omega
   have k3:x.l.length - (i+1)<x.l.length - i:=by omega
   simp (disch:=omega) only [ite_ne,r,getK_s (mapC_get celC ey),hmn2,go_sem,↓reduceIte,Za,Zb,Zc,Zd,Ze,reduceCtorEq,Zf,Zg,Zh,Zi,Zj,Zk]
   refine dCall.f (fun _ _ _=>hcy _ _) ?_
   simp (disch:=omega) only [ite_ne,r,getK_s (mapC_get celC ey),ht,k1,k2,hmn2,go_sem,↓reduceIte,Za,Zb,Zc,Zd,Ze,reduceCtorEq,Zf,Zg,Zh,Zi,Zj,Zk]
   refine ⟨(i+1,_),⟨by dsimp only;omega,by dsimp only;omega⟩,k3,weak_ok ?_ (Sub.cons ?_ (Sub.cons ?_ (Sub.cons ?_ (Sub.cons ?_ (Sub.cons ?_ (Sub.cons ?_ (Sub.base hf ?_))))))) (zna _)⟩
   all_goals
    simp (disch:=omega) only [ite_ne,wr64s i (by omega),take_snoc ey,snoc_ce,hmn2,go_sem,↓reduceIte,Za,Zb,Zc,Zd,Ze,reduceCtorEq,Zf,Zg,Zh,Zi,Zj,Zk]
  .have r:i=x.l.length:=by simp at r;omega
   subst r
   have ht:(d.i.take j).length=j:=by simp;omega
   have k1:(j+1)*40≤140737488355328:=by omega
   have k2:j+1≤9223372036854775807:=by omega
   have k3:d.i.length - (j+1)<d.i.length - j:=by omega
   rw [zlj]
   simp (disch:=omega) only [ite_ne,hmn2,ht,k1,k2,zlj,zna,go_sem,↓reduceIte,Za,Zb,Zc,Zd,Ze,reduceCtorEq,Zf,Zg,Zh,Zi,Zj,Zk]
   refine ⟨(j+1,_),⟨by dsimp only;omega,by dsimp only;omega⟩,k3,weak_ok ?_ (Sub.cons ?_ (Sub.cons ?_ (Sub.cons ?_ (Sub.cons ?_ (Sub.base hf ?_))))) (zna _)⟩
   all_goals
    simp (disch:=omega) only [ite_ne,wr64s j (by omega),take_snoc ex,hmn2,go_sem,↓reduceIte,Za,Zb,Zc,Zd,Ze,reduceCtorEq,Zf,Zg,Zh,Zi,Zj,Zk]
 .have q:j=d.i.length:=by simp at q;omega
  subst q
  rw [zlj]
  simp (disch:=omega) only [ite_ne,hmn,go_sem,↓reduceIte,Za,Zb,Zc,Zd,Ze,reduceCtorEq,Zf,Zg,Zh,Zi,Zj,Zk]
  refine loop (fun r:Nat × Nat=>⟨[(2,.bx (m+1) 0),(3,.bx (m+2) 0),(4,.fn 30 []),(47,.ds (mapC wrC d.w)),(48,.i .i64 d.w.length),(49,.i .i64 r.1)],
    (m+1,.bx [.e0,.e0])::(m+2,.bx [.rw (m+3) d.i.length d.i.length,.rw n r.1 r.1])::(m+3,.rw d.i.length 2 (mapC itC d.i))::(n,.rw r.1 10 (mapC wrC (d.w.take r.1)))::hp,r.2⟩)
   (fun r=>r.1≤d.w.length∧n+1≤r.2) (fun r=>d.w.length - r.1) (0,n+1) ?_ ?_ (fun ⟨i,n2⟩ hi=>?_)
  .simp
  .refine (weak_b0 (c:=m+2) (i:=1) (m:=10) (cs:=[.rw (m+3) d.i.length d.i.length,.e0]) (by (simp (disch:=omega) only [ite_ne,go_sem,↓reduceIte,Za,Zb,Zc,Zd,Ze,reduceCtorEq,Zf,Zg,Zh,Zi,Zj,Zk])) rfl).trans (weak_ok ?_ (Sub.cons ?_ (Sub.cons ?_ (Sub.cons ?_ (Sub.cons ?_ (Sub.base hf ?_))))) (zna _))
   all_goals (simp (disch:=omega) only [ite_ne,hmn,go_sem,↓reduceIte,Za,Zb,Zc,Zd,Ze,reduceCtorEq,Zf,Zg,Zh,Zi,Zj,Zk])
   all_goals rfl
  dsimp only at hi
  obtain ⟨hi1,hi2⟩:=hi
  have hmn2:m≤n2:=by omega
  simp (disch:=omega) only [ite_ne,hmn2,go_sem,↓reduceIte,Za,Zb,Zc,Zd,Ze,reduceCtorEq,Zf,Zg,Zh,Zi,Zj,Zk]
  refine cdK_of (fun r=>?_) (fun r=>?_)
  .have r:i<d.w.length:=by simpa using r
   obtain ⟨y,ey⟩:∃y,d.w[i]?=some y:=⟨d.w[i],by simp [r]⟩
   have hcy:=vcell_ok y.c (hd.f.w (zla ey))
   have ht:(d.w.take i).length=i:=by simp;omega
   have k1:(i+1)*152≤140737488355328:=by omega
   have k2:i+1≤9223372036854775807:=by omega
   have k3:d.w.length - (i+1)<d.w.length - i:=by omega
   simp (disch:=omega) only [ite_ne,r,getK_s (mapC_get wrC ey),hmn2,go_sem,↓reduceIte,Za,Zb,Zc,Zd,Ze,reduceCtorEq,Zf,Zg,Zh,Zi,Zj,Zk]
   refine dCall.f (fun _ _ _=>hcy _ _) ?_
   simp (disch:=omega) only [ite_ne,r,getK_s (mapC_get wrC ey),ht,k1,k2,hmn2,go_sem,↓reduceIte,Za,Zb,Zc,Zd,Ze,reduceCtorEq,Zf,Zg,Zh,Zi,Zj,Zk]
   refine ⟨(i+1,_),⟨by dsimp only;omega,by dsimp only;omega⟩,k3,weak_ok ?_ (Sub.cons ?_ (Sub.cons ?_ (Sub.cons ?_ (Sub.cons ?_ (Sub.base hf ?_))))) (zna _)⟩
   all_goals
    simp (disch:=omega) only [ite_ne,wr64s i (by omega),take_snoc ey,snoc_wr,hmn2,go_sem,↓reduceIte,Za,Zb,Zc,Zd,Ze,reduceCtorEq,Zf,Zg,Zh,Zi,Zj,Zk]
  .have r:i=d.w.length:=by simp at r;omega
   subst r
   rw [zlj]
   simp (disch:=omega) only [ite_ne,hmn2,zlj,zna,go_sem,↓reduceIte,Za,Zb,Zc,Zd,Ze,reduceCtorEq,Zf,Zg,Zh,Zi,Zj,Zk]
end Go.Proofs.YtinbodeocoeneaaDoor
