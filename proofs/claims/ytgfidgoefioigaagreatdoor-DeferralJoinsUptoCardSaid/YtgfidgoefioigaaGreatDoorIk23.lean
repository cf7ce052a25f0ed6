/- Proof. Conditions: none. -/
import Derived.Test.YtgfidgoefioigaaGreatDoorIk22
noncomputable section
open Go.Proofs.Tryz
open List renaming mem_of_getElem?->zla,length_cons->zlc,length_append->zld,length_nil->zle,drop_length->zll
open Nat renaming le_refl->zna
namespace Go.Proofs.YtgfidgoefioigaaGreatDoor
open Go.Eng
set_option linter.all false
set_option maxRecDepth 20000
set_option maxHeartbeats 1000000
section
variable {Q:qB->Bool} {L:ME} {b:qB}
theorem Nn (k:qB):∀(l:List qB) (j:Nat),decide (0<=ix k l j)=decide (k∈l)
 | [],j=>by simp [ix]
 |x::l,j=>by
  rw [ix]
  by_cases c:k=x
  .rw [iP c]
   subst c
   have:(0:Int)<=(j:Int):=Int.natCast_nonneg _
   simp [this]
  .rw [iN c,Nn k l (j+1)]
   simp [c]
structure DocOk (doc:List Av):Prop where
 ok:∀t∈doc,DefOk t
 im:∀t∈doc,t.impl.length<=1000000000000
 me:∀t∈doc,t.members.length<=1000000000000
 len:doc.length<=1000000000000
theorem Af1:DefOk DJ:=⟨rfl,fun e h=>by simp [DJ,Av.members_mk] at h⟩
theorem IQ {l:List Av} {n:qB} {t:Av} (h:Ay l n=some t):t∈l:=List.mem_of_find?_eq_some h
theorem DocOk.g {doc:List Av} (h:DocOk doc) (n:qB):DefOk ((Ay doc n).getD DJ)∧((Ay doc n).getD DJ).impl.length<=1000000000000∧((Ay doc n).getD DJ).members.length<=1000000000000:=by
 cases e:Ay doc n with
 |none=>exact ⟨Af1,by simp [DJ,Av.impl_mk],by simp [DJ,Av.members_mk]⟩
 |some t=>exact ⟨h.ok t (IQ e),h.im t (IQ e),h.me t (IQ e)⟩
theorem Gm (t:Av) (ht:DefOk t) (hl:t.impl.length<=1000000000000) (n:qB) (hp:CH) (m:Nat):Ae prog 173 hp m [Lw t,.s n] (.b (decide (n∈GX t.impl))):=by
 have h1:=IZ (GX t.impl) n (by rw [ht.impl] at hl;simp [Ab] at hl;omega)
 rw [<-ht.impl,Nn] at h1
 refine Al func173 (tA cc173) (tB cc173) (tC cc173) rfl fun hf=>?_;unfold ck173
 simp only [go_sem]
 refine Ac.f (h1 _ _) ?_
 simp only [go_sem]
def DS (doc:List Av) (t:Av) (name:qB) (sn:List qB) (b:qB):Bool:=Gu doc t name b&&!(decide (b∈sn)&&Gl doc t name b)
theorem HQ (doc:List Av) (t:Av) (name b:qB):DS doc t name [] b=Gu doc t name b:=by simp [DS]
theorem JB (doc:List Av) (t:Av) (name b:qB):Gl doc t name b=(!(Ay doc b).isSome||(decide (((Ay doc b).getD DJ).k≠1)||(decide (t.k=2)&&!decide (name∈GX ((Ay doc b).getD DJ).impl)))):=by
 unfold Gl
 cases Ay doc b<;>simp
theorem Aa8 (h:FC Q L) (c:Q b=true):B5 b L=some (.b true):=by rw [h.2 b,iP c]
theorem YN (h:FC Q L) (c:¬Q b=true):B5 b L=none:=by rw [h.2 b,iN c]
theorem Aeg (doc:List Av) (hd:DocOk doc) (name:qB) (hp:CH) (m:Nat):Ae prog 157 hp m [B9 doc,.s name] (.ds (Bq (Dj doc name))):=by
 have h1:=Ez doc hd.len name
 have hg:=hd.g name
 have AZ:=hd.len
 rw [<-Z4]
 unfold Eh at h1
 obtain ⟨t,ht⟩:=A7 ((Ay doc name).getD DJ)
 rw [ht] at h1 hg ⊢
 obtain ⟨R,hR⟩:=A7 (EE (Dm doc t name) [] doc)
 rw [hR]
 obtain ⟨g1,g2,g3⟩:=hg
 refine Al func157 (tA cc157) (tB cc157) (tC cc157) rfl fun hf=>?_;unfold ck157
 simp only [go_sem]
 refine Ac.f (h1 _ _) ?_
 simp only [go_sem]
 refine Af (fun c1=>?_) (fun c1=>?_)
 .have c1:t.k=1:=by simpa using c1
  have hI:FC (Gu doc t name) (D4 name (.b true) []):=FC.nil.put name fun b=>by simp [Gu,c1]
  obtain ⟨L,hL⟩:=A7 (D4 name (AV.b true) [])
  rw [hL] at hI
  have hL2:[(name,AV.b true)]=L:=by rw [<-hL];rfl
  simp (disch:=omega) only [hL2,go_sem]
  refine loop (fun p:(ME×List qB)×Nat=>⟨[(1,.s name),(2,.bx m 0),(5,.bx (m+1) 0),(7,.mp (m+2)),(61,.mi (m+2))],(m+2,.mr p.1.1 p.1.2)::(m,.bx [.ds (Ab BB doc)])::(m+1,.bx [.i .i64 t.k,.s t.n,.ds t.impl,.ds t.dirs,.ds (Ab Bu t.fields),.ds t.members,.ds t.inputs])::hp,p.2⟩)
   (fun p=>m+3<=p.2∧FC (DS doc t name p.1.2) p.1.1) (fun p=>ER p.1.1 p.1.2) ((L,[]),m+3) ?_ ?_ (fun ⟨⟨L,sn⟩,k⟩ hj=>?_)
  .exact ⟨by dsimp only;omega,hI.ext (HQ doc t name)⟩
  .refine LH hf ?_ ?_ ?_ ?_ ?_ (zna _)
   all_goals (simp (disch:=omega) only [go_sem])
  dsimp only at hj
  obtain ⟨Cq,Be⟩:=hj
  simp (disch:=omega) only [go_sem]
  refine Sg (fun HF=>?_) (fun j b α hb LM=>?_)
  .have hI3:FC (Dm doc t name) L:=Be.ext fun b=>by
    unfold DS Dm
    cases c:Gu doc t name b with
    |false=>simp
    |true=>
     by_cases hs:b∈sn
     .simp [hs]
     .have:Gl doc t name b=false∨True:=.inr trivial
      have hq:DS doc t name sn b=true:=by simp [DS,c,hs]
      exact absurd (HF _ (Be.mem hq)) hs
   simp (disch:=omega) only [go_sem]
   refine loop (fun p:(Nat×ME×List qB)×Nat=>⟨[(7,.mp (m+2)),(15,.rw k p.1.2.2.length p.1.2.2.length),(93,.ds (Ab BB doc)),(94,.i .i64 doc.length),(95,.i .i64 p.1.1)],(k,.rw p.1.2.2.length 1 (Bq p.1.2.2))::(m+2,.mr p.1.2.1 sn)::hp,p.2⟩)
    (fun p=>p.1.1<=doc.length∧k+1<=p.2∧p.1.2.2.length<=p.1.1∧FC (fun b=>Dm doc t name b&&!decide (b∈p.1.2.2)) p.1.2.1∧R=EE (Dm doc t name) p.1.2.2 (doc.drop p.1.1)) (fun p=>doc.length - p.1.1) ((0,L,[]),k+1) ?_ ?_ (fun ⟨⟨j,L,o⟩,n⟩ hi=>?_)
   .exact ⟨by simp,by simp,by simp,hI3.ext fun b=>by simp,hR.symm⟩
   .refine (By (t:=15) (m:=1) ?_).trans (ID hf ?_ ?_ ?_ ?_ (zna _))
    all_goals (simp (disch:=omega) only [go_sem])
   dsimp only at hi
   obtain ⟨NN,Is,Ed,J1,Hh⟩:=hi
   simp (disch:=omega) only [go_sem]
   refine Af (fun q=>?_) (fun q=>?_)
   .have q:j<doc.length:=by simpa using q
    obtain ⟨x,ex⟩:∃x,doc[j]?=some x:=⟨doc[j],by simp [q]⟩
    rw [A2 ex,EE] at Hh
    by_cases c:Dm doc t name x.n=true∧x.n ∉ o
    .rw [iP c] at Hh
     have hl:=Aa8 J1 (b:=x.n) (by simp [c.1,c.2])
     have hg:Ab C3 o++[[AV.s x.n]]=Ab C3 (o++[x.n]):=Bd C3 o x.n
     simp (disch:=omega) only [q,Ad (Aa BB ex),hl,go_sem]
     refine ⟨by omega,by omega,((j+1,CS x.n L,o++[x.n]),_),⟨by dsimp only;omega,by dsimp only;omega,by simp;omega,J1.del x.n fun b=>?_,Hh⟩,by dsimp only;omega,ID hf ?_ ?_ ?_ ?_ (zna _)⟩
     .by_cases e:b=x.n<;>simp [e]
     all_goals
      simp (disch:=omega) only [Ao j (by omega),zld,zlc,zle,go_sem]
    .rw [iN c] at Hh
     have hl:=YN J1 (b:=x.n) (by simpa using c)
     simp (disch:=omega) only [q,Ad (Aa BB ex),hl,go_sem]
     refine ⟨((j+1,L,o),_),⟨by dsimp only;omega,by dsimp only;omega,by dsimp only;omega,J1,Hh⟩,by dsimp only;omega,ID hf ?_ ?_ ?_ ?_ (zna _)⟩
     all_goals
      simp (disch:=omega) only [Ao j (by omega),go_sem]
   .have q:j=doc.length:=by simp at q;omega
    subst q
    rw [zll,EE] at Hh
    subst Hh
    simp (disch:=omega) only [go_sem]
  .have hm:=zla hb
   obtain ⟨hq,rfl⟩:=Be.get hm
   have Ls:=Ez doc hd.len b
   have RQ:=hd.g b
   have FSw:=JB doc t name b
   unfold Eh at Ls
   obtain ⟨o,ho⟩:=A7 ((Ay doc b).getD DJ)
   obtain ⟨s,hs⟩:=A7 ((Ay doc b).isSome)
   rw [ho] at Ls RQ FSw
   rw [hs] at Ls FSw
   have BL:=GM hm LM
   have GB:=FF L (sn++[b]) b
   simp (disch:=omega) only [go_sem]
   refine Tc (by simp) (Ep Be.1 hm) ?_
   simp (disch:=omega) only [go_sem]
   refine Ac.f (Ls _ _) ?_
   simp (disch:=omega) only [go_sem]
   refine AH.f (fun _=>Gm o RQ.1 RQ.2.1 name _ _) ?_
   simp (disch:=omega) only [go_sem]
   refine Af (fun c=>?_) (fun c=>?_)
   .have hb:Gl doc t name b=true:=by rw [FSw];revert c;cases s<;>simp<;>first | done | (intro h;first | exact h | (rcases h with h | h;exact .inl h;exact .inr h))
    simp (disch:=omega) only [go_sem]
    refine ⟨((CS b L,sn++[b]),_),⟨by dsimp only;omega,Be.del b fun x=>?_⟩,by dsimp only;omega,LH hf ?_ ?_ ?_ ?_ ?_ (zna _)⟩
    .unfold DS
     by_cases e:x=b
     .subst e;simp [hb]
     .simp [e]
    all_goals (simp (disch:=omega) only [go_sem])
   .have hb:Gl doc t name b=false:=by rw [FSw];revert c;cases s<;>simp
    simp (disch:=omega) only [go_sem]
    refine ⟨((L,sn++[b]),_),⟨by dsimp only;omega,Be.ext fun x=>?_⟩,by dsimp only;omega,LH hf ?_ ?_ ?_ ?_ ?_ (zna _)⟩
    .unfold DS
     by_cases e:x=b
     .subst e;simp [hb]
     .simp [e]
    all_goals (simp (disch:=omega) only [go_sem])
 have c1:¬t.k=1:=by simpa using c1
 simp only [go_sem]
 refine Af (fun c2=>?_) (fun c2=>?_)
 .have c2:t.k=2:=by simpa using c2
  simp (disch:=omega) only [go_sem]
  refine loop (fun p:(Nat×ME)×Nat=>⟨[(1,.s name),(2,.bx m 0),(5,.bx (m+1) 0),(7,.mp (m+2)),(34,.ds (Ab BB doc)),(35,.i .i64 doc.length),(36,.i .i64 p.1.1)],(m+2,.mp p.1.2)::(m,.bx [.ds (Ab BB doc)])::(m+1,.bx [.i .i64 t.k,.s t.n,.ds t.impl,.ds t.dirs,.ds (Ab Bu t.fields),.ds t.members,.ds t.inputs])::hp,p.2⟩)
   (fun p=>p.1.1<=doc.length∧m+3<=p.2∧FC (fun b=>(doc.take p.1.1).any fun x=>decide (x.n=b)&&decide (name∈GX x.impl)) p.1.2) (fun p=>doc.length - p.1.1) ((0,[]),m+3) ?_ ?_ (fun ⟨⟨j,L⟩,k⟩ hj=>?_)
  .exact ⟨by simp,by simp,FC.nil.ext fun b=>by simp⟩
  .refine LH hf ?_ ?_ ?_ ?_ ?_ (zna _)
   all_goals (simp (disch:=omega) only [go_sem])
  dsimp only at hj
  obtain ⟨Cq,Be,At⟩:=hj
  simp (disch:=omega) only [go_sem]
  refine Af (fun q=>?_) (fun q=>?_)
  .have q:j<doc.length:=by simpa using q
   obtain ⟨x,ex⟩:∃x,doc[j]?=some x:=⟨doc[j],by simp [q]⟩
   have hx:=zla ex
   simp (disch:=omega) only [q,Ad (Aa BB ex),go_sem]
   refine Ac.f (Gm x (hd.ok x hx) (hd.im x hx) name _ _) ?_
   simp (disch:=omega) only [go_sem]
   refine Af (fun c=>?_) (fun c=>?_)
   .have c:name∈GX x.impl:=by simpa using c
    simp (disch:=omega) only [go_sem]
    refine ⟨((j+1,D4 x.n (.b true) L),_),⟨by dsimp only;omega,by dsimp only;omega,At.put x.n fun b=>?_⟩,by dsimp only;omega,LH hf ?_ ?_ ?_ ?_ ?_ (zna _)⟩
    .rw [<-Bc ex,List.any_append]
     simp [c,Bool.or_comm,eq_comm]
    all_goals
     simp (disch:=omega) only [Ao j (by omega),go_sem]
   .have c:¬name∈GX x.impl:=by simpa using c
    simp (disch:=omega) only [go_sem]
    refine ⟨((j+1,L),_),⟨by dsimp only;omega,by dsimp only;omega,At.ext fun b=>?_⟩,by dsimp only;omega,LH hf ?_ ?_ ?_ ?_ ?_ (zna _)⟩
    .rw [<-Bc ex,List.any_append]
     simp [c]
    all_goals
     simp (disch:=omega) only [Ao j (by omega),go_sem]
  .have q:j=doc.length:=by simp at q;omega
   subst q
   have hI:FC (Gu doc t name) L:=At.ext fun b=>by rw [List.take_length];simp [Gu,c2]
   simp (disch:=omega) only [go_sem]
   refine loop (fun p:(ME×List qB)×Nat=>⟨[(1,.s name),(2,.bx m 0),(5,.bx (m+1) 0),(7,.mp (m+2)),(61,.mi (m+2))],(m+2,.mr p.1.1 p.1.2)::(m,.bx [.ds (Ab BB doc)])::(m+1,.bx [.i .i64 t.k,.s t.n,.ds t.impl,.ds t.dirs,.ds (Ab Bu t.fields),.ds t.members,.ds t.inputs])::hp,p.2⟩)
    (fun p=>m+3<=p.2∧FC (DS doc t name p.1.2) p.1.1) (fun p=>ER p.1.1 p.1.2) ((L,[]),k) ?_ ?_ (fun ⟨⟨L,sn⟩,k⟩ hj=>?_)
   .exact ⟨by dsimp only;omega,hI.ext (HQ doc t name)⟩
   .refine LH hf ?_ ?_ ?_ ?_ ?_ (zna _)
    all_goals (simp (disch:=omega) only [go_sem])
   dsimp only at hj
   obtain ⟨Cq,Be⟩:=hj
   simp (disch:=omega) only [go_sem]
   refine Sg (fun HF=>?_) (fun j b α hb LM=>?_)
   .have hI3:FC (Dm doc t name) L:=Be.ext fun b=>by
     unfold DS Dm
     cases c:Gu doc t name b with
     |false=>simp
     |true=>
      by_cases hs:b∈sn
      .simp [hs]
      .have:Gl doc t name b=false∨True:=.inr trivial
       have hq:DS doc t name sn b=true:=by simp [DS,c,hs]
       exact absurd (HF _ (Be.mem hq)) hs
    simp (disch:=omega) only [go_sem]
    refine loop (fun p:(Nat×ME×List qB)×Nat=>⟨[(7,.mp (m+2)),(15,.rw k p.1.2.2.length p.1.2.2.length),(93,.ds (Ab BB doc)),(94,.i .i64 doc.length),(95,.i .i64 p.1.1)],(k,.rw p.1.2.2.length 1 (Bq p.1.2.2))::(m+2,.mr p.1.2.1 sn)::hp,p.2⟩)
     (fun p=>p.1.1<=doc.length∧k+1<=p.2∧p.1.2.2.length<=p.1.1∧FC (fun b=>Dm doc t name b&&!decide (b∈p.1.2.2)) p.1.2.1∧R=EE (Dm doc t name) p.1.2.2 (doc.drop p.1.1)) (fun p=>doc.length - p.1.1) ((0,L,[]),k+1) ?_ ?_ (fun ⟨⟨j,L,o⟩,n⟩ hi=>?_)
    .exact ⟨by simp,by simp,by simp,hI3.ext fun b=>by simp,hR.symm⟩
    .refine (By (t:=15) (m:=1) ?_).trans (ID hf ?_ ?_ ?_ ?_ (zna _))
     all_goals (simp (disch:=omega) only [go_sem])
    dsimp only at hi
    obtain ⟨NN,Is,Ed,J1,Hh⟩:=hi
    simp (disch:=omega) only [go_sem]
    refine Af (fun q=>?_) (fun q=>?_)
    .have q:j<doc.length:=by simpa using q
     obtain ⟨x,ex⟩:∃x,doc[j]?=some x:=⟨doc[j],by simp [q]⟩
     rw [A2 ex,EE] at Hh
     by_cases c:Dm doc t name x.n=true∧x.n ∉ o
     .rw [iP c] at Hh
      have hl:=Aa8 J1 (b:=x.n) (by simp [c.1,c.2])
      have hg:Ab C3 o++[[AV.s x.n]]=Ab C3 (o++[x.n]):=Bd C3 o x.n
      simp (disch:=omega) only [q,Ad (Aa BB ex),hl,go_sem]
      refine ⟨by omega,by omega,((j+1,CS x.n L,o++[x.n]),_),⟨by dsimp only;omega,by dsimp only;omega,by simp;omega,J1.del x.n fun b=>?_,Hh⟩,by dsimp only;omega,ID hf ?_ ?_ ?_ ?_ (zna _)⟩
      .by_cases e:b=x.n<;>simp [e]
      all_goals
       simp (disch:=omega) only [Ao j (by omega),zld,zlc,zle,go_sem]
     .rw [iN c] at Hh
      have hl:=YN J1 (b:=x.n) (by simpa using c)
      simp (disch:=omega) only [q,Ad (Aa BB ex),hl,go_sem]
      refine ⟨((j+1,L,o),_),⟨by dsimp only;omega,by dsimp only;omega,by dsimp only;omega,J1,Hh⟩,by dsimp only;omega,ID hf ?_ ?_ ?_ ?_ (zna _)⟩
      all_goals
       simp (disch:=omega) only [Ao j (by omega),go_sem]
    .have q:j=doc.length:=by simp at q;omega
     subst q
     rw [zll,EE] at Hh
     subst Hh
     simp (disch:=omega) only [go_sem]
   .have hm:=zla hb
    obtain ⟨hq,rfl⟩:=Be.get hm
    have Ls:=Ez doc hd.len b
    have RQ:=hd.g b
    have FSw:=JB doc t name b
    unfold Eh at Ls
    obtain ⟨o,ho⟩:=A7 ((Ay doc b).getD DJ)
    obtain ⟨s,hs⟩:=A7 ((Ay doc b).isSome)
    rw [ho] at Ls RQ FSw
    rw [hs] at Ls FSw
    have BL:=GM hm LM
    have GB:=FF L (sn++[b]) b
    simp (disch:=omega) only [go_sem]
    refine Tc (by simp) (Ep Be.1 hm) ?_
    simp (disch:=omega) only [go_sem]
    refine Ac.f (Ls _ _) ?_
    simp (disch:=omega) only [go_sem]
    refine AH.f (fun _=>Gm o RQ.1 RQ.2.1 name _ _) ?_
    simp (disch:=omega) only [go_sem]
    refine Af (fun c=>?_) (fun c=>?_)
    .have hb:Gl doc t name b=true:=by rw [FSw];revert c;cases s<;>simp<;>first | done | (intro h;first | exact h | (rcases h with h | h;exact .inl h;exact .inr h))
     simp (disch:=omega) only [go_sem]
     refine ⟨((CS b L,sn++[b]),_),⟨by dsimp only;omega,Be.del b fun x=>?_⟩,by dsimp only;omega,LH hf ?_ ?_ ?_ ?_ ?_ (zna _)⟩
     .unfold DS
      by_cases e:x=b
      .subst e;simp [hb]
      .simp [e]
     all_goals (simp (disch:=omega) only [go_sem])
    .have hb:Gl doc t name b=false:=by rw [FSw];revert c;cases s<;>simp
     simp (disch:=omega) only [go_sem]
     refine ⟨((L,sn++[b]),_),⟨by dsimp only;omega,Be.ext fun x=>?_⟩,by dsimp only;omega,LH hf ?_ ?_ ?_ ?_ ?_ (zna _)⟩
     .unfold DS
      by_cases e:x=b
      .subst e;simp [hb]
      .simp [e]
     all_goals (simp (disch:=omega) only [go_sem])
 have c2:¬t.k=2:=by simpa using c2
 simp only [go_sem]
 refine Af (fun c3=>?_) (fun c3=>?_)
 .have c3:t.k=3:=by simpa using c3
  have LO:∀e∈t.members,e.length=2:=fun e he=>by obtain ⟨x,y,rfl⟩:=g1.mem e he;rfl
  have LO:=eq_true LO
  simp (disch:=omega) only [LO,go_sem]
  refine loop (fun p:(Nat×ME)×Nat=>⟨[(1,.s name),(2,.bx m 0),(5,.bx (m+1) 0),(7,.mp (m+2)),(50,.ds t.members),(51,.i .i64 t.members.length),(52,.i .i64 p.1.1)],(m+2,.mp p.1.2)::(m,.bx [.ds (Ab BB doc)])::(m+1,.bx [.i .i64 t.k,.s t.n,.ds t.impl,.ds t.dirs,.ds (Ab Bu t.fields),.ds t.members,.ds t.inputs])::hp,p.2⟩)
   (fun p=>p.1.1<=t.members.length∧m+3<=p.2∧FC (fun b=>decide (b∈Gc (t.members.take p.1.1))) p.1.2) (fun p=>t.members.length - p.1.1) ((0,[]),m+3) ?_ ?_ (fun ⟨⟨j,L⟩,k⟩ hj=>?_)
  .exact ⟨by simp,by simp,FC.nil.ext fun b=>by simp [Gc]⟩
  .refine LH hf ?_ ?_ ?_ ?_ ?_ (zna _)
   all_goals (simp (disch:=omega) only [go_sem])
  dsimp only at hj
  obtain ⟨Cq,Be,At⟩:=hj
  simp (disch:=omega) only [go_sem]
  refine Af (fun q=>?_) (fun q=>?_)
  .have q:j<t.members.length:=by simpa using q
   obtain ⟨e,ee⟩:∃e,t.members[j]?=some e:=⟨t.members[j],by simp [q]⟩
   obtain ⟨x,y,rfl⟩:=g1.mem e (zla ee)
   simp (disch:=omega) only [q,LO,Ad ee,go_sem]
   refine ⟨((j+1,D4 x (.b true) L),_),⟨by dsimp only;omega,by dsimp only;omega,At.put x fun b=>?_⟩,by dsimp only;omega,LH hf ?_ ?_ ?_ ?_ ?_ (zna _)⟩
   .rw [<-Bc ee]
    simp [Gc,Bool.or_comm]
   all_goals
    simp (disch:=omega) only [Ao j (by omega),go_sem]
  .have q:j=t.members.length:=by simp at q;omega
   subst q
   have hI:FC (Gu doc t name) L:=At.ext fun b=>by rw [List.take_length];simp [Gu,c1,c2,c3]
   simp (disch:=omega) only [go_sem]
   refine loop (fun p:(ME×List qB)×Nat=>⟨[(1,.s name),(2,.bx m 0),(5,.bx (m+1) 0),(7,.mp (m+2)),(61,.mi (m+2))],(m+2,.mr p.1.1 p.1.2)::(m,.bx [.ds (Ab BB doc)])::(m+1,.bx [.i .i64 t.k,.s t.n,.ds t.impl,.ds t.dirs,.ds (Ab Bu t.fields),.ds t.members,.ds t.inputs])::hp,p.2⟩)
    (fun p=>m+3<=p.2∧FC (DS doc t name p.1.2) p.1.1) (fun p=>ER p.1.1 p.1.2) ((L,[]),k) ?_ ?_ (fun ⟨⟨L,sn⟩,k⟩ hj=>?_)
   .exact ⟨by dsimp only;omega,hI.ext (HQ doc t name)⟩
   .refine LH hf ?_ ?_ ?_ ?_ ?_ (zna _)
    all_goals (simp (disch:=omega) only [go_sem])
   dsimp only at hj
   obtain ⟨Cq,Be⟩:=hj
   simp (disch:=omega) only [go_sem]
   refine Sg (fun HF=>?_) (fun j b α hb LM=>?_)
   .have hI3:FC (Dm doc t name) L:=Be.ext fun b=>by
     unfold DS Dm
     cases c:Gu doc t name b with
     |false=>simp
     |true=>
      by_cases hs:b∈sn
      .simp [hs]
      .have:Gl doc t name b=false∨True:=.inr trivial
       have hq:DS doc t name sn b=true:=by simp [DS,c,hs]
       exact absurd (HF _ (Be.mem hq)) hs
    simp (disch:=omega) only [go_sem]
    refine loop (fun p:(Nat×ME×List qB)×Nat=>⟨[(7,.mp (m+2)),(15,.rw k p.1.2.2.length p.1.2.2.length),(93,.ds (Ab BB doc)),(94,.i .i64 doc.length),(95,.i .i64 p.1.1)],(k,.rw p.1.2.2.length 1 (Bq p.1.2.2))::(m+2,.mr p.1.2.1 sn)::hp,p.2⟩)
     (fun p=>p.1.1<=doc.length∧k+1<=p.2∧p.1.2.2.length<=p.1.1∧FC (fun b=>Dm doc t name b&&!decide (b∈p.1.2.2)) p.1.2.1∧R=EE (Dm doc t name) p.1.2.2 (doc.drop p.1.1)) (fun p=>doc.length - p.1.1) ((0,L,[]),k+1) ?_ ?_ (fun ⟨⟨j,L,o⟩,n⟩ hi=>?_)
    .exact ⟨by simp,by simp,by simp,hI3.ext fun b=>by simp,hR.symm⟩
    .refine (By (t:=15) (m:=1) ?_).trans (ID hf ?_ ?_ ?_ ?_ (zna _))
     all_goals (simp (disch:=omega) only [go_sem])
    dsimp only at hi
    obtain ⟨NN,Is,Ed,J1,Hh⟩:=hi
    simp (disch:=omega) only [go_sem]
    refine Af (fun q=>?_) (fun q=>?_)
    .have q:j<doc.length:=by simpa using q
     obtain ⟨x,ex⟩:∃x,doc[j]?=some x:=⟨doc[j],by simp [q]⟩
     rw [A2 ex,EE] at Hh
     by_cases c:Dm doc t name x.n=true∧x.n ∉ o
     .rw [iP c] at Hh
      have hl:=Aa8 J1 (b:=x.n) (by simp [c.1,c.2])
      have hg:Ab C3 o++[[AV.s x.n]]=Ab C3 (o++[x.n]):=Bd C3 o x.n
      simp (disch:=omega) only [q,Ad (Aa BB ex),hl,go_sem]
      refine ⟨by omega,by omega,((j+1,CS x.n L,o++[x.n]),_),⟨by dsimp only;omega,by dsimp only;omega,by simp;omega,J1.del x.n fun b=>?_,Hh⟩,by dsimp only;omega,ID hf ?_ ?_ ?_ ?_ (zna _)⟩
      .by_cases e:b=x.n<;>simp [e]
      all_goals
       simp (disch:=omega) only [Ao j (by omega),zld,zlc,zle,go_sem]
     .rw [iN c] at Hh
      have hl:=YN J1 (b:=x.n) (by simpa using c)
      simp (disch:=omega) only [q,Ad (Aa BB ex),hl,go_sem]
      refine ⟨((j+1,L,o),_),⟨by dsimp only;omega,by dsimp only;omega,by dsimp only;omega,J1,Hh⟩,by dsimp only;omega,ID hf ?_ ?_ ?_ ?_ (zna _)⟩
      all_goals
       simp (disch:=omega) only [Ao j (by omega),go_sem]
    .have q:j=doc.length:=by simp at q;omega
     subst q
     rw [zll,EE] at Hh
     subst Hh
     simp (disch:=omega) only [go_sem]
   .have hm:=zla hb
    obtain ⟨hq,rfl⟩:=Be.get hm
    have Ls:=Ez doc hd.len b
    have RQ:=hd.g b
    have FSw:=JB doc t name b
    unfold Eh at Ls
    obtain ⟨o,ho⟩:=A7 ((Ay doc b).getD DJ)
    obtain ⟨s,hs⟩:=A7 ((Ay doc b).isSome)
    rw [ho] at Ls RQ FSw
    rw [hs] at Ls FSw
    have BL:=GM hm LM
    have GB:=FF L (sn++[b]) b
    simp (disch:=omega) only [go_sem]
    refine Tc (by simp) (Ep Be.1 hm) ?_
    simp (disch:=omega) only [go_sem]
    refine Ac.f (Ls _ _) ?_
    simp (disch:=omega) only [go_sem]
    refine AH.f (fun _=>Gm o RQ.1 RQ.2.1 name _ _) ?_
    simp (disch:=omega) only [go_sem]
    refine Af (fun c=>?_) (fun c=>?_)
    .have hb:Gl doc t name b=true:=by rw [FSw];revert c;cases s<;>simp<;>first | done | (intro h;first | exact h | (rcases h with h | h;exact .inl h;exact .inr h))
     simp (disch:=omega) only [go_sem]
     refine ⟨((CS b L,sn++[b]),_),⟨by dsimp only;omega,Be.del b fun x=>?_⟩,by dsimp only;omega,LH hf ?_ ?_ ?_ ?_ ?_ (zna _)⟩
     .unfold DS
      by_cases e:x=b
      .subst e;simp [hb]
      .simp [e]
     all_goals (simp (disch:=omega) only [go_sem])
    .have hb:Gl doc t name b=false:=by rw [FSw];revert c;cases s<;>simp
     simp (disch:=omega) only [go_sem]
     refine ⟨((L,sn++[b]),_),⟨by dsimp only;omega,Be.ext fun x=>?_⟩,by dsimp only;omega,LH hf ?_ ?_ ?_ ?_ ?_ (zna _)⟩
     .unfold DS
      by_cases e:x=b
      .subst e;simp [hb]
      .simp [e]
     all_goals (simp (disch:=omega) only [go_sem])
 .have c3:¬t.k=3:=by simpa using c3
  have hI:FC (Gu doc t name) []:=FC.nil.ext fun b=>by simp [Gu,c1,c2,c3]
  obtain ⟨L,hL⟩:∃L:ME,[]=L:=⟨_,rfl⟩
  rw [hL] at hI
  simp (disch:=omega) only [go_sem]
  rw [hL]
  refine loop (fun p:(ME×List qB)×Nat=>⟨[(1,.s name),(2,.bx m 0),(5,.bx (m+1) 0),(7,.mp (m+2)),(61,.mi (m+2))],(m+2,.mr p.1.1 p.1.2)::(m,.bx [.ds (Ab BB doc)])::(m+1,.bx [.i .i64 t.k,.s t.n,.ds t.impl,.ds t.dirs,.ds (Ab Bu t.fields),.ds t.members,.ds t.inputs])::hp,p.2⟩)
   (fun p=>m+3<=p.2∧FC (DS doc t name p.1.2) p.1.1) (fun p=>ER p.1.1 p.1.2) ((L,[]),m+3) ?_ ?_ (fun ⟨⟨L,sn⟩,k⟩ hj=>?_)
  .exact ⟨by dsimp only;omega,hI.ext (HQ doc t name)⟩
  .refine LH hf ?_ ?_ ?_ ?_ ?_ (zna _)
   all_goals (simp (disch:=omega) only [go_sem])
  dsimp only at hj
  obtain ⟨Cq,Be⟩:=hj
  simp (disch:=omega) only [go_sem]
  refine Sg (fun HF=>?_) (fun j b α hb LM=>?_)
  .have hI3:FC (Dm doc t name) L:=Be.ext fun b=>by
    unfold DS Dm
    cases c:Gu doc t name b with
    |false=>simp
    |true=>
     by_cases hs:b∈sn
     .simp [hs]
     .have:Gl doc t name b=false∨True:=.inr trivial
      have hq:DS doc t name sn b=true:=by simp [DS,c,hs]
      exact absurd (HF _ (Be.mem hq)) hs
   simp (disch:=omega) only [go_sem]
   refine loop (fun p:(Nat×ME×List qB)×Nat=>⟨[(7,.mp (m+2)),(15,.rw k p.1.2.2.length p.1.2.2.length),(93,.ds (Ab BB doc)),(94,.i .i64 doc.length),(95,.i .i64 p.1.1)],(k,.rw p.1.2.2.length 1 (Bq p.1.2.2))::(m+2,.mr p.1.2.1 sn)::hp,p.2⟩)
    (fun p=>p.1.1<=doc.length∧k+1<=p.2∧p.1.2.2.length<=p.1.1∧FC (fun b=>Dm doc t name b&&!decide (b∈p.1.2.2)) p.1.2.1∧R=EE (Dm doc t name) p.1.2.2 (doc.drop p.1.1)) (fun p=>doc.length - p.1.1) ((0,L,[]),k+1) ?_ ?_ (fun ⟨⟨j,L,o⟩,n⟩ hi=>?_)
   .exact ⟨by simp,by simp,by simp,hI3.ext fun b=>by simp,hR.symm⟩
   .refine (By (t:=15) (m:=1) ?_).trans (ID hf ?_ ?_ ?_ ?_ (zna _))
    all_goals (simp (disch:=omega) only [go_sem])
   dsimp only at hi
   obtain ⟨NN,Is,Ed,J1,Hh⟩:=hi
   simp (disch:=omega) only [go_sem]
   refine Af (fun q=>?_) (fun q=>?_)
   .have q:j<doc.length:=by simpa using q
    obtain ⟨x,ex⟩:∃x,doc[j]?=some x:=⟨doc[j],by simp [q]⟩
    rw [A2 ex,EE] at Hh
    by_cases c:Dm doc t name x.n=true∧x.n ∉ o
    .rw [iP c] at Hh
     have hl:=Aa8 J1 (b:=x.n) (by simp [c.1,c.2])
     have hg:Ab C3 o++[[AV.s x.n]]=Ab C3 (o++[x.n]):=Bd C3 o x.n
     simp (disch:=omega) only [q,Ad (Aa BB ex),hl,go_sem]
     refine ⟨by omega,by omega,((j+1,CS x.n L,o++[x.n]),_),⟨by dsimp only;omega,by dsimp only;omega,by simp;omega,J1.del x.n fun b=>?_,Hh⟩,by dsimp only;omega,ID hf ?_ ?_ ?_ ?_ (zna _)⟩
     .by_cases e:b=x.n<;>simp [e]
     all_goals
      simp (disch:=omega) only [Ao j (by omega),zld,zlc,zle,go_sem]
    .rw [iN c] at Hh
     have hl:=YN J1 (b:=x.n) (by simpa using c)
     simp (disch:=omega) only [q,Ad (Aa BB ex),hl,go_sem]
     refine ⟨((j+1,L,o),_),⟨by dsimp only;omega,by dsimp only;omega,by dsimp only;omega,J1,Hh⟩,by dsimp only;omega,ID hf ?_ ?_ ?_ ?_ (zna _)⟩
     all_goals
      simp (disch:=omega) only [Ao j (by omega),go_sem]
   .have q:j=doc.length:=by simp at q;omega
    subst q
    rw [zll,EE] at Hh
    subst Hh
    simp (disch:=omega) only [go_sem]
  .have hm:=zla hb
   obtain ⟨hq,rfl⟩:=Be.get hm
   have Ls:=Ez doc hd.len b
   have RQ:=hd.g b
   have FSw:=JB doc t name b
   unfold Eh at Ls
   obtain ⟨o,ho⟩:=A7 ((Ay doc b).getD DJ)
   obtain ⟨s,hs⟩:=A7 ((Ay doc b).isSome)
   rw [ho] at Ls RQ FSw
   rw [hs] at Ls FSw
   have BL:=GM hm LM
   have GB:=FF L (sn++[b]) b
   simp (disch:=omega) only [go_sem]
   refine Tc (by simp) (Ep Be.1 hm) ?_
   simp (disch:=omega) only [go_sem]
   refine Ac.f (Ls _ _) ?_
   simp (disch:=omega) only [go_sem]
   refine AH.f (fun _=>Gm o RQ.1 RQ.2.1 name _ _) ?_
   simp (disch:=omega) only [go_sem]
   refine Af (fun c=>?_) (fun c=>?_)
   .have hb:Gl doc t name b=true:=by rw [FSw];revert c;cases s<;>simp<;>first | done | (intro h;first | exact h | (rcases h with h | h;exact .inl h;exact .inr h))
    simp (disch:=omega) only [go_sem]
    refine ⟨((CS b L,sn++[b]),_),⟨by dsimp only;omega,Be.del b fun x=>?_⟩,by dsimp only;omega,LH hf ?_ ?_ ?_ ?_ ?_ (zna _)⟩
    .unfold DS
     by_cases e:x=b
     .subst e;simp [hb]
     .simp [e]
    all_goals (simp (disch:=omega) only [go_sem])
   .have hb:Gl doc t name b=false:=by rw [FSw];revert c;cases s<;>simp
    simp (disch:=omega) only [go_sem]
    refine ⟨((L,sn++[b]),_),⟨by dsimp only;omega,Be.ext fun x=>?_⟩,by dsimp only;omega,LH hf ?_ ?_ ?_ ?_ ?_ (zna _)⟩
    .unfold DS
     by_cases e:x=b
     .subst e;simp [hb]
     .simp [e]
    all_goals (simp (disch:=omega) only [go_sem])
end
