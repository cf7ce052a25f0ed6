/- Proof. Conditions: none. -/
import Derived.Test.YtgfidgoefioigaaGreatDoorIj22
noncomputable section
open Go.Proofs.Tryz
open List renaming mem_of_getElem?->zla,length_cons->zlc,length_append->zld,length_nil->zle,drop_length->zll
open Nat renaming le_refl->zna
namespace Go.Proofs.YtgfidgoefioigaaGreatDoor
open Go.Eng
set_option linter.all false
set_option maxRecDepth 20000
set_option maxHeartbeats 1000000
section
variable {Q:qB->Bool} {L:ME} {b:qB}
theorem NT (k:qB):∀(l:List qB) (j:Nat),decide (0<=ix k l j)=decide (k∈l)
 | [],j=>by simp [ix]
 |x::l,j=>by
  rw [ix]
  by_cases c:k=x
  .rw [iP c]
   subst c
   have:(0:Int)<=(j:Int):=Int.natCast_nonneg _
   simp [this]
  .rw [iN c,NT k l (j+1)]
   simp [c]
structure DocOk (doc:List Aw):Prop where
 ok:∀t∈doc,DefOk t
 im:∀t∈doc,t.impl.length<=1000000000000
 me:∀t∈doc,t.members.length<=1000000000000
 len:doc.length<=1000000000000
theorem Agf:DefOk Dz:=⟨rfl,fun e h=>by simp [Dz,Aw.members_mk] at h⟩
theorem Jt {l:List Aw} {n:qB} {t:Aw} (h:Az l n=some t):t∈l:=List.mem_of_find?_eq_some h
theorem DocOk.g {doc:List Aw} (h:DocOk doc) (n:qB):DefOk ((Az doc n).getD Dz)∧((Az doc n).getD Dz).impl.length<=1000000000000∧((Az doc n).getD Dz).members.length<=1000000000000:=by
 cases e:Az doc n with
 |none=>exact ⟨Agf,by simp [Dz,Aw.impl_mk],by simp [Dz,Aw.members_mk]⟩
 |some t=>exact ⟨h.ok t (Jt e),h.im t (Jt e),h.me t (Jt e)⟩
theorem G7 (t:Aw) (ht:DefOk t) (hl:t.impl.length<=1000000000000) (n:qB) (hp:CH) (m:Nat):Af prog 173 hp m [Mc t,.s n] (.b (decide (n∈Hu t.impl))):=by
 have h1:=J2 (Hu t.impl) n (by rw [ht.impl] at hl;simp [Ab] at hl;omega)
 rw [<-ht.impl,NT] at h1
 refine Aj func173 (tA cc173) (tB cc173) (tC cc173) rfl fun hf=>?_;unfold ck173
 simp only [go_sem]
 refine Ac.f (h1 _ _) ?_
 simp only [go_sem]
def El (doc:List Aw) (t:Aw) (name:qB) (sn:List qB) (b:qB):Bool:=GD doc t name b&&!(decide (b∈sn)&&G6 doc t name b)
theorem Ir (doc:List Aw) (t:Aw) (name b:qB):El doc t name [] b=GD doc t name b:=by simp [El]
theorem Kp (doc:List Aw) (t:Aw) (name b:qB):G6 doc t name b=(!(Az doc b).isSome||(decide (((Az doc b).getD Dz).k≠1)||(decide (t.k=2)&&!decide (name∈Hu ((Az doc b).getD Dz).impl)))):=by
 unfold G6
 cases Az doc b<;>simp
theorem Abl (h:FU Q L) (c:Q b=true):B9 b L=some (.b true):=by rw [h.2 b,iP c]
theorem Zy (h:FU Q L) (c:¬Q b=true):B9 b L=none:=by rw [h.2 b,iN c]
theorem Aes (doc:List Aw) (hd:DocOk doc) (name:qB) (hp:CH) (m:Nat):Af prog 157 hp m [B0 doc,.s name] (.ds (Bd (Et doc name))):=by
 have h1:=EF doc hd.len name
 have hg:=hd.g name
 have Bn:=hd.len
 rw [<-ZM]
 unfold Eh at h1
 obtain ⟨t,ht⟩:=A5 ((Az doc name).getD Dz)
 rw [ht] at h1 hg ⊢
 obtain ⟨R,hR⟩:=A5 (ET (Dx doc t name) [] doc)
 rw [hR]
 obtain ⟨g1,g2,g3⟩:=hg
 refine Aj func157 (tA cc157) (tB cc157) (tC cc157) rfl fun hf=>?_;unfold ck157
 simp only [go_sem]
 refine Ac.f (h1 _ _) ?_
 simp only [go_sem]
 refine Ae (fun c1=>?_) (fun c1=>?_)
 .have c1:t.k=1:=by simpa using c1
  have hI:FU (GD doc t name) (DP name (.b true) []):=FU.nil.put name fun b=>by simp [GD,c1]
  obtain ⟨L,hL⟩:=A5 (DP name (AV.b true) [])
  rw [hL] at hI
  have VD:[(name,AV.b true)]=L:=by rw [<-hL];rfl
  simp (disch:=omega) only [VD,go_sem]
  refine loop (fun p:(ME×List qB)×Nat=>⟨[(1,.s name),(2,.bx m 0),(5,.bx (m+1) 0),(7,.mp (m+2)),(61,.mi (m+2))],(m+2,.mr p.1.1 p.1.2)::(m,.bx [.ds (Ab B8 doc)])::(m+1,.bx [.i .i64 t.k,.s t.n,.ds t.impl,.ds t.dirs,.ds (Ab Bv t.fields),.ds t.members,.ds t.inputs])::hp,p.2⟩)
   (fun p=>m+3<=p.2∧FU (El doc t name p.1.2) p.1.1) (fun p=>Fh p.1.1 p.1.2) ((L,[]),m+3) ?_ ?_ (fun ⟨⟨L,sn⟩,k⟩ hj=>?_)
  .exact ⟨by dsimp only;omega,hI.ext (Ir doc t name)⟩
  .refine L5 hf ?_ ?_ ?_ ?_ ?_ (zna _)
   all_goals (simp (disch:=omega) only [go_sem])
  dsimp only at hj
  obtain ⟨Cg,Bc⟩:=hj
  simp (disch:=omega) only [go_sem]
  refine SI (fun Ib=>?_) (fun j b U hb Ss=>?_)
  .have hI3:FU (Dx doc t name) L:=Bc.ext fun b=>by
    unfold El Dx
    cases c:GD doc t name b with
    |false=>simp
    |true=>
     by_cases hs:b∈sn
     .simp [hs]
     .have:G6 doc t name b=false∨True:=.inr trivial
      have hq:El doc t name sn b=true:=by simp [El,c,hs]
      exact absurd (Ib _ (Bc.mem hq)) hs
   simp (disch:=omega) only [go_sem]
   refine loop (fun p:(Nat×ME×List qB)×Nat=>⟨[(7,.mp (m+2)),(15,.rw k p.1.2.2.length p.1.2.2.length),(93,.ds (Ab B8 doc)),(94,.i .i64 doc.length),(95,.i .i64 p.1.1)],(k,.rw p.1.2.2.length 1 (Bd p.1.2.2))::(m+2,.mr p.1.2.1 sn)::hp,p.2⟩)
    (fun p=>p.1.1<=doc.length∧k+1<=p.2∧p.1.2.2.length<=p.1.1∧FU (fun b=>Dx doc t name b&&!decide (b∈p.1.2.2)) p.1.2.1∧R=ET (Dx doc t name) p.1.2.2 (doc.drop p.1.1)) (fun p=>doc.length - p.1.1) ((0,L,[]),k+1) ?_ ?_ (fun ⟨⟨j,L,o⟩,n⟩ hi=>?_)
   .exact ⟨by simp,by simp,by simp,hI3.ext fun b=>by simp,hR.symm⟩
   .refine (Bo (t:=15) (m:=1) ?_).trans (JT hf ?_ ?_ ?_ ?_ (zna _))
    all_goals (simp (disch:=omega) only [go_sem])
   dsimp only at hi
   obtain ⟨LX,HG,Dw,Gq,H5⟩:=hi
   simp (disch:=omega) only [go_sem]
   refine Ae (fun q=>?_) (fun q=>?_)
   .have q:j<doc.length:=by simpa using q
    obtain ⟨x,ex⟩:∃x,doc[j]?=some x:=⟨doc[j],by simp [q]⟩
    rw [A2 ex,ET] at H5
    by_cases c:Dx doc t name x.n=true∧x.n ∉ o
    .rw [iP c] at H5
     have hl:=Abl Gq (b:=x.n) (by simp [c.1,c.2])
     have hg:Ab Cz o++[[AV.s x.n]]=Ab Cz (o++[x.n]):=AX Cz o x.n
     simp (disch:=omega) only [q,Ad (Aa B8 ex),hl,go_sem]
     refine ⟨by omega,by omega,((j+1,De x.n L,o++[x.n]),_),⟨by dsimp only;omega,by dsimp only;omega,by simp;omega,Gq.del x.n fun b=>?_,H5⟩,by dsimp only;omega,JT hf ?_ ?_ ?_ ?_ (zna _)⟩
     .by_cases e:b=x.n<;>simp [e]
     all_goals
      simp (disch:=omega) only [Ap j (by omega),zld,zlc,zle,go_sem]
    .rw [iN c] at H5
     have hl:=Zy Gq (b:=x.n) (by simpa using c)
     simp (disch:=omega) only [q,Ad (Aa B8 ex),hl,go_sem]
     refine ⟨((j+1,L,o),_),⟨by dsimp only;omega,by dsimp only;omega,by dsimp only;omega,Gq,H5⟩,by dsimp only;omega,JT hf ?_ ?_ ?_ ?_ (zna _)⟩
     all_goals
      simp (disch:=omega) only [Ap j (by omega),go_sem]
   .have q:j=doc.length:=by simp at q;omega
    subst q
    rw [zll,ET] at H5
    subst H5
    simp (disch:=omega) only [go_sem]
  .have hm:=zla hb
   obtain ⟨hq,rfl⟩:=Bc.get hm
   have Jx:=EF doc hd.len b
   have Sv:=hd.g b
   have Gh:=Kp doc t name b
   unfold Eh at Jx
   obtain ⟨o,ho⟩:=A5 ((Az doc b).getD Dz)
   obtain ⟨s,hs⟩:=A5 ((Az doc b).isSome)
   rw [ho] at Jx Sv Gh
   rw [hs] at Jx Gh
   have BY:=Hg hm Ss
   have G0:=FX L (sn++[b]) b
   simp (disch:=omega) only [go_sem]
   refine T4 (by simp) (E9 Bc.1 hm) ?_
   simp (disch:=omega) only [go_sem]
   refine Ac.f (Jx _ _) ?_
   simp (disch:=omega) only [go_sem]
   refine AH.f (fun _=>G7 o Sv.1 Sv.2.1 name _ _) ?_
   simp (disch:=omega) only [go_sem]
   refine Ae (fun c=>?_) (fun c=>?_)
   .have hb:G6 doc t name b=true:=by rw [Gh];revert c;cases s<;>simp<;>first | done | (intro h;first | exact h | (rcases h with h | h;exact .inl h;exact .inr h))
    simp (disch:=omega) only [go_sem]
    refine ⟨((De b L,sn++[b]),_),⟨by dsimp only;omega,Bc.del b fun x=>?_⟩,by dsimp only;omega,L5 hf ?_ ?_ ?_ ?_ ?_ (zna _)⟩
    .unfold El
     by_cases e:x=b
     .subst e;simp [hb]
     .simp [e]
    all_goals (simp (disch:=omega) only [go_sem])
   .have hb:G6 doc t name b=false:=by rw [Gh];revert c;cases s<;>simp
    simp (disch:=omega) only [go_sem]
    refine ⟨((L,sn++[b]),_),⟨by dsimp only;omega,Bc.ext fun x=>?_⟩,by dsimp only;omega,L5 hf ?_ ?_ ?_ ?_ ?_ (zna _)⟩
    .unfold El
     by_cases e:x=b
     .subst e;simp [hb]
     .simp [e]
    all_goals (simp (disch:=omega) only [go_sem])
 have c1:¬t.k=1:=by simpa using c1
 simp only [go_sem]
 refine Ae (fun c2=>?_) (fun c2=>?_)
 .have c2:t.k=2:=by simpa using c2
  simp (disch:=omega) only [go_sem]
  refine loop (fun p:(Nat×ME)×Nat=>⟨[(1,.s name),(2,.bx m 0),(5,.bx (m+1) 0),(7,.mp (m+2)),(34,.ds (Ab B8 doc)),(35,.i .i64 doc.length),(36,.i .i64 p.1.1)],(m+2,.mp p.1.2)::(m,.bx [.ds (Ab B8 doc)])::(m+1,.bx [.i .i64 t.k,.s t.n,.ds t.impl,.ds t.dirs,.ds (Ab Bv t.fields),.ds t.members,.ds t.inputs])::hp,p.2⟩)
   (fun p=>p.1.1<=doc.length∧m+3<=p.2∧FU (fun b=>(doc.take p.1.1).any fun x=>decide (x.n=b)&&decide (name∈Hu x.impl)) p.1.2) (fun p=>doc.length - p.1.1) ((0,[]),m+3) ?_ ?_ (fun ⟨⟨j,L⟩,k⟩ hj=>?_)
  .exact ⟨by simp,by simp,FU.nil.ext fun b=>by simp⟩
  .refine L5 hf ?_ ?_ ?_ ?_ ?_ (zna _)
   all_goals (simp (disch:=omega) only [go_sem])
  dsimp only at hj
  obtain ⟨Cg,Bc,As⟩:=hj
  simp (disch:=omega) only [go_sem]
  refine Ae (fun q=>?_) (fun q=>?_)
  .have q:j<doc.length:=by simpa using q
   obtain ⟨x,ex⟩:∃x,doc[j]?=some x:=⟨doc[j],by simp [q]⟩
   have hx:=zla ex
   simp (disch:=omega) only [q,Ad (Aa B8 ex),go_sem]
   refine Ac.f (G7 x (hd.ok x hx) (hd.im x hx) name _ _) ?_
   simp (disch:=omega) only [go_sem]
   refine Ae (fun c=>?_) (fun c=>?_)
   .have c:name∈Hu x.impl:=by simpa using c
    simp (disch:=omega) only [go_sem]
    refine ⟨((j+1,DP x.n (.b true) L),_),⟨by dsimp only;omega,by dsimp only;omega,As.put x.n fun b=>?_⟩,by dsimp only;omega,L5 hf ?_ ?_ ?_ ?_ ?_ (zna _)⟩
    .rw [<-AN ex,List.any_append]
     simp [c,Bool.or_comm,eq_comm]
    all_goals
     simp (disch:=omega) only [Ap j (by omega),go_sem]
   .have c:¬name∈Hu x.impl:=by simpa using c
    simp (disch:=omega) only [go_sem]
    refine ⟨((j+1,L),_),⟨by dsimp only;omega,by dsimp only;omega,As.ext fun b=>?_⟩,by dsimp only;omega,L5 hf ?_ ?_ ?_ ?_ ?_ (zna _)⟩
    .rw [<-AN ex,List.any_append]
     simp [c]
    all_goals
     simp (disch:=omega) only [Ap j (by omega),go_sem]
  .have q:j=doc.length:=by simp at q;omega
   subst q
   have hI:FU (GD doc t name) L:=As.ext fun b=>by rw [List.take_length];simp [GD,c2]
   simp (disch:=omega) only [go_sem]
   refine loop (fun p:(ME×List qB)×Nat=>⟨[(1,.s name),(2,.bx m 0),(5,.bx (m+1) 0),(7,.mp (m+2)),(61,.mi (m+2))],(m+2,.mr p.1.1 p.1.2)::(m,.bx [.ds (Ab B8 doc)])::(m+1,.bx [.i .i64 t.k,.s t.n,.ds t.impl,.ds t.dirs,.ds (Ab Bv t.fields),.ds t.members,.ds t.inputs])::hp,p.2⟩)
    (fun p=>m+3<=p.2∧FU (El doc t name p.1.2) p.1.1) (fun p=>Fh p.1.1 p.1.2) ((L,[]),k) ?_ ?_ (fun ⟨⟨L,sn⟩,k⟩ hj=>?_)
   .exact ⟨by dsimp only;omega,hI.ext (Ir doc t name)⟩
   .refine L5 hf ?_ ?_ ?_ ?_ ?_ (zna _)
    all_goals (simp (disch:=omega) only [go_sem])
   dsimp only at hj
   obtain ⟨Cg,Bc⟩:=hj
   simp (disch:=omega) only [go_sem]
   refine SI (fun Ib=>?_) (fun j b U hb Ss=>?_)
   .have hI3:FU (Dx doc t name) L:=Bc.ext fun b=>by
     unfold El Dx
     cases c:GD doc t name b with
     |false=>simp
     |true=>
      by_cases hs:b∈sn
      .simp [hs]
      .have:G6 doc t name b=false∨True:=.inr trivial
       have hq:El doc t name sn b=true:=by simp [El,c,hs]
       exact absurd (Ib _ (Bc.mem hq)) hs
    simp (disch:=omega) only [go_sem]
    refine loop (fun p:(Nat×ME×List qB)×Nat=>⟨[(7,.mp (m+2)),(15,.rw k p.1.2.2.length p.1.2.2.length),(93,.ds (Ab B8 doc)),(94,.i .i64 doc.length),(95,.i .i64 p.1.1)],(k,.rw p.1.2.2.length 1 (Bd p.1.2.2))::(m+2,.mr p.1.2.1 sn)::hp,p.2⟩)
     (fun p=>p.1.1<=doc.length∧k+1<=p.2∧p.1.2.2.length<=p.1.1∧FU (fun b=>Dx doc t name b&&!decide (b∈p.1.2.2)) p.1.2.1∧R=ET (Dx doc t name) p.1.2.2 (doc.drop p.1.1)) (fun p=>doc.length - p.1.1) ((0,L,[]),k+1) ?_ ?_ (fun ⟨⟨j,L,o⟩,n⟩ hi=>?_)
    .exact ⟨by simp,by simp,by simp,hI3.ext fun b=>by simp,hR.symm⟩
    .refine (Bo (t:=15) (m:=1) ?_).trans (JT hf ?_ ?_ ?_ ?_ (zna _))
     all_goals (simp (disch:=omega) only [go_sem])
    dsimp only at hi
    obtain ⟨LX,HG,Dw,Gq,H5⟩:=hi
    simp (disch:=omega) only [go_sem]
    refine Ae (fun q=>?_) (fun q=>?_)
    .have q:j<doc.length:=by simpa using q
     obtain ⟨x,ex⟩:∃x,doc[j]?=some x:=⟨doc[j],by simp [q]⟩
     rw [A2 ex,ET] at H5
     by_cases c:Dx doc t name x.n=true∧x.n ∉ o
     .rw [iP c] at H5
      have hl:=Abl Gq (b:=x.n) (by simp [c.1,c.2])
      have hg:Ab Cz o++[[AV.s x.n]]=Ab Cz (o++[x.n]):=AX Cz o x.n
      simp (disch:=omega) only [q,Ad (Aa B8 ex),hl,go_sem]
      refine ⟨by omega,by omega,((j+1,De x.n L,o++[x.n]),_),⟨by dsimp only;omega,by dsimp only;omega,by simp;omega,Gq.del x.n fun b=>?_,H5⟩,by dsimp only;omega,JT hf ?_ ?_ ?_ ?_ (zna _)⟩
      .by_cases e:b=x.n<;>simp [e]
      all_goals
       simp (disch:=omega) only [Ap j (by omega),zld,zlc,zle,go_sem]
     .rw [iN c] at H5
      have hl:=Zy Gq (b:=x.n) (by simpa using c)
      simp (disch:=omega) only [q,Ad (Aa B8 ex),hl,go_sem]
      refine ⟨((j+1,L,o),_),⟨by dsimp only;omega,by dsimp only;omega,by dsimp only;omega,Gq,H5⟩,by dsimp only;omega,JT hf ?_ ?_ ?_ ?_ (zna _)⟩
      all_goals
       simp (disch:=omega) only [Ap j (by omega),go_sem]
    .have q:j=doc.length:=by simp at q;omega
     subst q
     rw [zll,ET] at H5
     subst H5
     simp (disch:=omega) only [go_sem]
   .have hm:=zla hb
    obtain ⟨hq,rfl⟩:=Bc.get hm
    have Jx:=EF doc hd.len b
    have Sv:=hd.g b
    have Gh:=Kp doc t name b
    unfold Eh at Jx
    obtain ⟨o,ho⟩:=A5 ((Az doc b).getD Dz)
    obtain ⟨s,hs⟩:=A5 ((Az doc b).isSome)
    rw [ho] at Jx Sv Gh
    rw [hs] at Jx Gh
    have BY:=Hg hm Ss
    have G0:=FX L (sn++[b]) b
    simp (disch:=omega) only [go_sem]
    refine T4 (by simp) (E9 Bc.1 hm) ?_
    simp (disch:=omega) only [go_sem]
    refine Ac.f (Jx _ _) ?_
    simp (disch:=omega) only [go_sem]
    refine AH.f (fun _=>G7 o Sv.1 Sv.2.1 name _ _) ?_
    simp (disch:=omega) only [go_sem]
    refine Ae (fun c=>?_) (fun c=>?_)
    .have hb:G6 doc t name b=true:=by rw [Gh];revert c;cases s<;>simp<;>first | done | (intro h;first | exact h | (rcases h with h | h;exact .inl h;exact .inr h))
     simp (disch:=omega) only [go_sem]
     refine ⟨((De b L,sn++[b]),_),⟨by dsimp only;omega,Bc.del b fun x=>?_⟩,by dsimp only;omega,L5 hf ?_ ?_ ?_ ?_ ?_ (zna _)⟩
     .unfold El
      by_cases e:x=b
      .subst e;simp [hb]
      .simp [e]
     all_goals (simp (disch:=omega) only [go_sem])
    .have hb:G6 doc t name b=false:=by rw [Gh];revert c;cases s<;>simp
     simp (disch:=omega) only [go_sem]
     refine ⟨((L,sn++[b]),_),⟨by dsimp only;omega,Bc.ext fun x=>?_⟩,by dsimp only;omega,L5 hf ?_ ?_ ?_ ?_ ?_ (zna _)⟩
     .unfold El
      by_cases e:x=b
      .subst e;simp [hb]
      .simp [e]
     all_goals (simp (disch:=omega) only [go_sem])
 have c2:¬t.k=2:=by simpa using c2
 simp only [go_sem]
 refine Ae (fun c3=>?_) (fun c3=>?_)
 .have c3:t.k=3:=by simpa using c3
  have Kb:∀e∈t.members,e.length=2:=fun e he=>by obtain ⟨x,y,rfl⟩:=g1.mem e he;rfl
  have Kb:=eq_true Kb
  simp (disch:=omega) only [Kb,go_sem]
  refine loop (fun p:(Nat×ME)×Nat=>⟨[(1,.s name),(2,.bx m 0),(5,.bx (m+1) 0),(7,.mp (m+2)),(50,.ds t.members),(51,.i .i64 t.members.length),(52,.i .i64 p.1.1)],(m+2,.mp p.1.2)::(m,.bx [.ds (Ab B8 doc)])::(m+1,.bx [.i .i64 t.k,.s t.n,.ds t.impl,.ds t.dirs,.ds (Ab Bv t.fields),.ds t.members,.ds t.inputs])::hp,p.2⟩)
   (fun p=>p.1.1<=t.members.length∧m+3<=p.2∧FU (fun b=>decide (b∈F7 (t.members.take p.1.1))) p.1.2) (fun p=>t.members.length - p.1.1) ((0,[]),m+3) ?_ ?_ (fun ⟨⟨j,L⟩,k⟩ hj=>?_)
  .exact ⟨by simp,by simp,FU.nil.ext fun b=>by simp [F7]⟩
  .refine L5 hf ?_ ?_ ?_ ?_ ?_ (zna _)
   all_goals (simp (disch:=omega) only [go_sem])
  dsimp only at hj
  obtain ⟨Cg,Bc,As⟩:=hj
  simp (disch:=omega) only [go_sem]
  refine Ae (fun q=>?_) (fun q=>?_)
  .have q:j<t.members.length:=by simpa using q
   obtain ⟨e,ee⟩:∃e,t.members[j]?=some e:=⟨t.members[j],by simp [q]⟩
   obtain ⟨x,y,rfl⟩:=g1.mem e (zla ee)
   simp (disch:=omega) only [q,Kb,Ad ee,go_sem]
   refine ⟨((j+1,DP x (.b true) L),_),⟨by dsimp only;omega,by dsimp only;omega,As.put x fun b=>?_⟩,by dsimp only;omega,L5 hf ?_ ?_ ?_ ?_ ?_ (zna _)⟩
   .rw [<-AN ee]
    simp [F7,Bool.or_comm]
   all_goals
    simp (disch:=omega) only [Ap j (by omega),go_sem]
  .have q:j=t.members.length:=by simp at q;omega
   subst q
   have hI:FU (GD doc t name) L:=As.ext fun b=>by rw [List.take_length];simp [GD,c1,c2,c3]
   simp (disch:=omega) only [go_sem]
   refine loop (fun p:(ME×List qB)×Nat=>⟨[(1,.s name),(2,.bx m 0),(5,.bx (m+1) 0),(7,.mp (m+2)),(61,.mi (m+2))],(m+2,.mr p.1.1 p.1.2)::(m,.bx [.ds (Ab B8 doc)])::(m+1,.bx [.i .i64 t.k,.s t.n,.ds t.impl,.ds t.dirs,.ds (Ab Bv t.fields),.ds t.members,.ds t.inputs])::hp,p.2⟩)
    (fun p=>m+3<=p.2∧FU (El doc t name p.1.2) p.1.1) (fun p=>Fh p.1.1 p.1.2) ((L,[]),k) ?_ ?_ (fun ⟨⟨L,sn⟩,k⟩ hj=>?_)
   .exact ⟨by dsimp only;omega,hI.ext (Ir doc t name)⟩
   .refine L5 hf ?_ ?_ ?_ ?_ ?_ (zna _)
    all_goals (simp (disch:=omega) only [go_sem])
   dsimp only at hj
   obtain ⟨Cg,Bc⟩:=hj
   simp (disch:=omega) only [go_sem]
   refine SI (fun Ib=>?_) (fun j b U hb Ss=>?_)
   .have hI3:FU (Dx doc t name) L:=Bc.ext fun b=>by
     unfold El Dx
     cases c:GD doc t name b with
     |false=>simp
     |true=>
      by_cases hs:b∈sn
      .simp [hs]
      .have:G6 doc t name b=false∨True:=.inr trivial
       have hq:El doc t name sn b=true:=by simp [El,c,hs]
       exact absurd (Ib _ (Bc.mem hq)) hs
    simp (disch:=omega) only [go_sem]
    refine loop (fun p:(Nat×ME×List qB)×Nat=>⟨[(7,.mp (m+2)),(15,.rw k p.1.2.2.length p.1.2.2.length),(93,.ds (Ab B8 doc)),(94,.i .i64 doc.length),(95,.i .i64 p.1.1)],(k,.rw p.1.2.2.length 1 (Bd p.1.2.2))::(m+2,.mr p.1.2.1 sn)::hp,p.2⟩)
     (fun p=>p.1.1<=doc.length∧k+1<=p.2∧p.1.2.2.length<=p.1.1∧FU (fun b=>Dx doc t name b&&!decide (b∈p.1.2.2)) p.1.2.1∧R=ET (Dx doc t name) p.1.2.2 (doc.drop p.1.1)) (fun p=>doc.length - p.1.1) ((0,L,[]),k+1) ?_ ?_ (fun ⟨⟨j,L,o⟩,n⟩ hi=>?_)
    .exact ⟨by simp,by simp,by simp,hI3.ext fun b=>by simp,hR.symm⟩
    .refine (Bo (t:=15) (m:=1) ?_).trans (JT hf ?_ ?_ ?_ ?_ (zna _))
     all_goals (simp (disch:=omega) only [go_sem])
    dsimp only at hi
    obtain ⟨LX,HG,Dw,Gq,H5⟩:=hi
    simp (disch:=omega) only [go_sem]
    refine Ae (fun q=>?_) (fun q=>?_)
    .have q:j<doc.length:=by simpa using q
     obtain ⟨x,ex⟩:∃x,doc[j]?=some x:=⟨doc[j],by simp [q]⟩
     rw [A2 ex,ET] at H5
     by_cases c:Dx doc t name x.n=true∧x.n ∉ o
     .rw [iP c] at H5
      have hl:=Abl Gq (b:=x.n) (by simp [c.1,c.2])
      have hg:Ab Cz o++[[AV.s x.n]]=Ab Cz (o++[x.n]):=AX Cz o x.n
      simp (disch:=omega) only [q,Ad (Aa B8 ex),hl,go_sem]
      refine ⟨by omega,by omega,((j+1,De x.n L,o++[x.n]),_),⟨by dsimp only;omega,by dsimp only;omega,by simp;omega,Gq.del x.n fun b=>?_,H5⟩,by dsimp only;omega,JT hf ?_ ?_ ?_ ?_ (zna _)⟩
      .by_cases e:b=x.n<;>simp [e]
      all_goals
       simp (disch:=omega) only [Ap j (by omega),zld,zlc,zle,go_sem]
     .rw [iN c] at H5
      have hl:=Zy Gq (b:=x.n) (by simpa using c)
      simp (disch:=omega) only [q,Ad (Aa B8 ex),hl,go_sem]
      refine ⟨((j+1,L,o),_),⟨by dsimp only;omega,by dsimp only;omega,by dsimp only;omega,Gq,H5⟩,by dsimp only;omega,JT hf ?_ ?_ ?_ ?_ (zna _)⟩
      all_goals
       simp (disch:=omega) only [Ap j (by omega),go_sem]
    .have q:j=doc.length:=by simp at q;omega
     subst q
     rw [zll,ET] at H5
     subst H5
     simp (disch:=omega) only [go_sem]
   .have hm:=zla hb
    obtain ⟨hq,rfl⟩:=Bc.get hm
    have Jx:=EF doc hd.len b
    have Sv:=hd.g b
    have Gh:=Kp doc t name b
    unfold Eh at Jx
    obtain ⟨o,ho⟩:=A5 ((Az doc b).getD Dz)
    obtain ⟨s,hs⟩:=A5 ((Az doc b).isSome)
    rw [ho] at Jx Sv Gh
    rw [hs] at Jx Gh
    have BY:=Hg hm Ss
    have G0:=FX L (sn++[b]) b
    simp (disch:=omega) only [go_sem]
    refine T4 (by simp) (E9 Bc.1 hm) ?_
    simp (disch:=omega) only [go_sem]
    refine Ac.f (Jx _ _) ?_
    simp (disch:=omega) only [go_sem]
    refine AH.f (fun _=>G7 o Sv.1 Sv.2.1 name _ _) ?_
    simp (disch:=omega) only [go_sem]
    refine Ae (fun c=>?_) (fun c=>?_)
    .have hb:G6 doc t name b=true:=by rw [Gh];revert c;cases s<;>simp<;>first | done | (intro h;first | exact h | (rcases h with h | h;exact .inl h;exact .inr h))
     simp (disch:=omega) only [go_sem]
     refine ⟨((De b L,sn++[b]),_),⟨by dsimp only;omega,Bc.del b fun x=>?_⟩,by dsimp only;omega,L5 hf ?_ ?_ ?_ ?_ ?_ (zna _)⟩
     .unfold El
      by_cases e:x=b
      .subst e;simp [hb]
      .simp [e]
     all_goals (simp (disch:=omega) only [go_sem])
    .have hb:G6 doc t name b=false:=by rw [Gh];revert c;cases s<;>simp
     simp (disch:=omega) only [go_sem]
     refine ⟨((L,sn++[b]),_),⟨by dsimp only;omega,Bc.ext fun x=>?_⟩,by dsimp only;omega,L5 hf ?_ ?_ ?_ ?_ ?_ (zna _)⟩
     .unfold El
      by_cases e:x=b
      .subst e;simp [hb]
      .simp [e]
     all_goals (simp (disch:=omega) only [go_sem])
 .have c3:¬t.k=3:=by simpa using c3
  have hI:FU (GD doc t name) []:=FU.nil.ext fun b=>by simp [GD,c1,c2,c3]
  obtain ⟨L,hL⟩:∃L:ME,[]=L:=⟨_,rfl⟩
  rw [hL] at hI
  simp (disch:=omega) only [go_sem]
  rw [hL]
  refine loop (fun p:(ME×List qB)×Nat=>⟨[(1,.s name),(2,.bx m 0),(5,.bx (m+1) 0),(7,.mp (m+2)),(61,.mi (m+2))],(m+2,.mr p.1.1 p.1.2)::(m,.bx [.ds (Ab B8 doc)])::(m+1,.bx [.i .i64 t.k,.s t.n,.ds t.impl,.ds t.dirs,.ds (Ab Bv t.fields),.ds t.members,.ds t.inputs])::hp,p.2⟩)
   (fun p=>m+3<=p.2∧FU (El doc t name p.1.2) p.1.1) (fun p=>Fh p.1.1 p.1.2) ((L,[]),m+3) ?_ ?_ (fun ⟨⟨L,sn⟩,k⟩ hj=>?_)
  .exact ⟨by dsimp only;omega,hI.ext (Ir doc t name)⟩
  .refine L5 hf ?_ ?_ ?_ ?_ ?_ (zna _)
   all_goals (simp (disch:=omega) only [go_sem])
  dsimp only at hj
  obtain ⟨Cg,Bc⟩:=hj
  simp (disch:=omega) only [go_sem]
  refine SI (fun Ib=>?_) (fun j b U hb Ss=>?_)
  .have hI3:FU (Dx doc t name) L:=Bc.ext fun b=>by
    unfold El Dx
    cases c:GD doc t name b with
    |false=>simp
    |true=>
     by_cases hs:b∈sn
     .simp [hs]
     .have:G6 doc t name b=false∨True:=.inr trivial
      have hq:El doc t name sn b=true:=by simp [El,c,hs]
      exact absurd (Ib _ (Bc.mem hq)) hs
   simp (disch:=omega) only [go_sem]
   refine loop (fun p:(Nat×ME×List qB)×Nat=>⟨[(7,.mp (m+2)),(15,.rw k p.1.2.2.length p.1.2.2.length),(93,.ds (Ab B8 doc)),(94,.i .i64 doc.length),(95,.i .i64 p.1.1)],(k,.rw p.1.2.2.length 1 (Bd p.1.2.2))::(m+2,.mr p.1.2.1 sn)::hp,p.2⟩)
    (fun p=>p.1.1<=doc.length∧k+1<=p.2∧p.1.2.2.length<=p.1.1∧FU (fun b=>Dx doc t name b&&!decide (b∈p.1.2.2)) p.1.2.1∧R=ET (Dx doc t name) p.1.2.2 (doc.drop p.1.1)) (fun p=>doc.length - p.1.1) ((0,L,[]),k+1) ?_ ?_ (fun ⟨⟨j,L,o⟩,n⟩ hi=>?_)
   .exact ⟨by simp,by simp,by simp,hI3.ext fun b=>by simp,hR.symm⟩
   .refine (Bo (t:=15) (m:=1) ?_).trans (JT hf ?_ ?_ ?_ ?_ (zna _))
    all_goals (simp (disch:=omega) only [go_sem])
   dsimp only at hi
   obtain ⟨LX,HG,Dw,Gq,H5⟩:=hi
   simp (disch:=omega) only [go_sem]
   refine Ae (fun q=>?_) (fun q=>?_)
   .have q:j<doc.length:=by simpa using q
    obtain ⟨x,ex⟩:∃x,doc[j]?=some x:=⟨doc[j],by simp [q]⟩
    rw [A2 ex,ET] at H5
    by_cases c:Dx doc t name x.n=true∧x.n ∉ o
    .rw [iP c] at H5
     have hl:=Abl Gq (b:=x.n) (by simp [c.1,c.2])
     have hg:Ab Cz o++[[AV.s x.n]]=Ab Cz (o++[x.n]):=AX Cz o x.n
     simp (disch:=omega) only [q,Ad (Aa B8 ex),hl,go_sem]
     refine ⟨by omega,by omega,((j+1,De x.n L,o++[x.n]),_),⟨by dsimp only;omega,by dsimp only;omega,by simp;omega,Gq.del x.n fun b=>?_,H5⟩,by dsimp only;omega,JT hf ?_ ?_ ?_ ?_ (zna _)⟩
     .by_cases e:b=x.n<;>simp [e]
     all_goals
      simp (disch:=omega) only [Ap j (by omega),zld,zlc,zle,go_sem]
    .rw [iN c] at H5
     have hl:=Zy Gq (b:=x.n) (by simpa using c)
     simp (disch:=omega) only [q,Ad (Aa B8 ex),hl,go_sem]
     refine ⟨((j+1,L,o),_),⟨by dsimp only;omega,by dsimp only;omega,by dsimp only;omega,Gq,H5⟩,by dsimp only;omega,JT hf ?_ ?_ ?_ ?_ (zna _)⟩
     all_goals
      simp (disch:=omega) only [Ap j (by omega),go_sem]
   .have q:j=doc.length:=by simp at q;omega
    subst q
    rw [zll,ET] at H5
    subst H5
    simp (disch:=omega) only [go_sem]
  .have hm:=zla hb
   obtain ⟨hq,rfl⟩:=Bc.get hm
   have Jx:=EF doc hd.len b
   have Sv:=hd.g b
   have Gh:=Kp doc t name b
   unfold Eh at Jx
   obtain ⟨o,ho⟩:=A5 ((Az doc b).getD Dz)
   obtain ⟨s,hs⟩:=A5 ((Az doc b).isSome)
   rw [ho] at Jx Sv Gh
   rw [hs] at Jx Gh
   have BY:=Hg hm Ss
   have G0:=FX L (sn++[b]) b
   simp (disch:=omega) only [go_sem]
   refine T4 (by simp) (E9 Bc.1 hm) ?_
   simp (disch:=omega) only [go_sem]
   refine Ac.f (Jx _ _) ?_
   simp (disch:=omega) only [go_sem]
   refine AH.f (fun _=>G7 o Sv.1 Sv.2.1 name _ _) ?_
   simp (disch:=omega) only [go_sem]
   refine Ae (fun c=>?_) (fun c=>?_)
   .have hb:G6 doc t name b=true:=by rw [Gh];revert c;cases s<;>simp<;>first | done | (intro h;first | exact h | (rcases h with h | h;exact .inl h;exact .inr h))
    simp (disch:=omega) only [go_sem]
    refine ⟨((De b L,sn++[b]),_),⟨by dsimp only;omega,Bc.del b fun x=>?_⟩,by dsimp only;omega,L5 hf ?_ ?_ ?_ ?_ ?_ (zna _)⟩
    .unfold El
     by_cases e:x=b
     .subst e;simp [hb]
     .simp [e]
    all_goals (simp (disch:=omega) only [go_sem])
   .have hb:G6 doc t name b=false:=by rw [Gh];revert c;cases s<;>simp
    simp (disch:=omega) only [go_sem]
    refine ⟨((L,sn++[b]),_),⟨by dsimp only;omega,Bc.ext fun x=>?_⟩,by dsimp only;omega,L5 hf ?_ ?_ ?_ ?_ ?_ (zna _)⟩
    .unfold El
     by_cases e:x=b
     .subst e;simp [hb]
     .simp [e]
    all_goals (simp (disch:=omega) only [go_sem])
end
