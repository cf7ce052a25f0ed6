/- Proof. Conditions: none. -/
import Derived.Test.YtgfidgoefioigaaGreatDoorIi23
open Go.Proofs.Tryz
open List renaming mem_of_getElem?→zla,length_cons→zlc,length_append→zld,length_nil→zle,drop_length→zll
open Nat renaming le_refl→zna
namespace Go.Proofs.YtgfidgoefioigaaGreatDoor
open Go.Eng
set_option linter.all false
set_option maxRecDepth 20000
set_option maxHeartbeats 1000000
theorem LF (k:ByteArray):∀(l:List ByteArray) (j:Nat),decide (0≤ix k l j)=decide (k∈l)
 | [],j=>by simp [ix]
 | x::l,j=>by
  rw [ix]
  by_cases c:k=x
  .rw [if_pos c]
   subst c
   have:(0:Int)≤(j:Int):=Int.natCast_nonneg _
   simp [this]
  .rw [if_neg c,LF k l (j+1)]
   simp [c]
structure DocOk (doc:List Az):Prop where
 ok:∀t∈doc,DefOk t
 im:∀t∈doc,t.impl.length≤1000000000000
 me:∀t∈doc,t.members.length≤1000000000000
 len:doc.length≤1000000000000
theorem Aah:DefOk Dv:=⟨rfl,fun e h=>by simp [Dv,Az.members_mk] at h⟩
theorem Hx {l:List Az} {n:ByteArray} {t:Az} (h:A1 l n=some t):t∈l:=List.mem_of_find?_eq_some h
theorem DocOk.g {doc:List Az} (h:DocOk doc) (n:ByteArray):DefOk ((A1 doc n).getD Dv)∧((A1 doc n).getD Dv).impl.length≤1000000000000∧((A1 doc n).getD Dv).members.length≤1000000000000:=by
 cases e:A1 doc n with
 | none=>exact ⟨Aah,by simp [Dv,Az.impl_mk],by simp [Dv,Az.members_mk]⟩
 | some t=>exact ⟨h.ok t (Hx e),h.im t (Hx e),h.me t (Hx e)⟩
theorem Fx (t:Az) (ht:DefOk t) (hl:t.impl.length≤1000000000000) (n:ByteArray) (hp:CH) (m:Nat):Ah prog 173 hp m [JN t,.s n] (.b (decide (n∈Gg t.impl))):=by
 have h1:=HO (Gg t.impl) n (by rw [ht.impl] at hl;simp [Ad] at hl;omega)
 rw [←ht.impl,LF] at h1
 refine Am func173 (by kernel_rfl) cc173 cr173 rfl fun hf=>?_;unfold ck173
 simp only [go_sem]
 refine Af.f (h1 _ _) ?_
 simp only [go_sem]
noncomputable def D4 (doc:List Az) (t:Az) (name:ByteArray) (sn:List ByteArray) (b:ByteArray):Bool:=Fq doc t name b&&!(decide (b∈sn)&&F8 doc t name b)
theorem Hb (doc:List Az) (t:Az) (name b:ByteArray):D4 doc t name [] b=Fq doc t name b:=by simp [D4]
theorem Iu (doc:List Az) (t:Az) (name b:ByteArray):F8 doc t name b=(!(A1 doc b).isSome||(decide (((A1 doc b).getD Dv).k≠1)||(decide (t.k=2)&&!decide (name∈Gg ((A1 doc b).getD Dv).impl)))):=by
 unfold F8
 cases A1 doc b<;>simp
theorem VT {Q:ByteArray→Bool} {L:ME} (h:EW Q L) {b:ByteArray} (c:Q b=true):By b L=some (.b true):=by rw [h.2 b,if_pos c]
theorem WC {Q:ByteArray→Bool} {L:ME} (h:EW Q L) {b:ByteArray} (c:¬Q b=true):By b L=none:=by rw [h.2 b,if_neg c]
theorem Z0 (doc:List Az) (hd:DocOk doc) (name:ByteArray) (hp:CH) (m:Nat):Ah prog 157 hp m [B5 doc,.s name] (.ds (Bv (En doc name))):=by
 have h1:=DX doc hd.len name
 have hg:=hd.g name
 have Bb:=hd.len
 rw [←Xq]
 unfold DH at h1
 obtain ⟨t,ht⟩:∃t,(A1 doc name).getD Dv=t:=⟨_,rfl⟩
 rw [ht] at h1 hg ⊢
 obtain ⟨R,hR⟩:∃R,El (CL doc t name) [] doc=R:=⟨_,rfl⟩
 rw [hR]
 obtain ⟨g1,g2,g3⟩:=hg
 refine Am func157 (by kernel_rfl) cc157 cr157 rfl fun hf=>?_;unfold ck157
 simp only [go_sem]
 refine Af.f (h1 _ _) ?_
 simp only [go_sem]
 refine Ai (fun c1=>?_) (fun c1=>?_)
 .have c1:t.k=1:=by simpa using c1
  have hI:EW (Fq doc t name) (Dg name (.b true) []):=EW.nil.put name fun b=>by simp [Fq,c1]
  obtain ⟨L,hL⟩:∃L,Dg name (AV.b true) []=L:=⟨_,rfl⟩
  rw [hL] at hI
  have hL2:[(name,AV.b true)]=L:=by rw [←hL];rfl
  simp (disch:=omega) only [Aa,hL2,go_sem]
  refine loop (fun p:(ME × List ByteArray) × Nat=>⟨[(1,.s name),(2,.bx m 0),(5,.bx (m+1) 0),(7,.mp (m+2)),(61,.mi (m+2))],(m+2,.mr p.1.1 p.1.2)::(m,.bx [.ds (Ad BB doc)])::(m+1,.bx [.i .i64 t.k,.s t.n,.ds t.impl,.ds t.dirs,.ds (Ad Bq t.fields),.ds t.members,.ds t.inputs])::hp,p.2⟩)
   (fun p=>m+3≤p.2∧EW (D4 doc t name p.1.2) p.1.1) (fun p=>Ey p.1.1 p.1.2) ((L,[]),m+3) ?_ ?_ (fun ⟨⟨L,sn⟩,k⟩ hj=>?_)
  .exact ⟨by dsimp only;omega,hI.ext (Hb doc t name)⟩
  .refine Ac ?_ (A6.cons ?_ (A6.cons ?_ (A6.cons ?_ (A6.base hf ?_)))) (zna _)
   all_goals (simp (disch:=omega) only [Aa,go_sem])
  dsimp only at hj
  obtain ⟨Cm,Ba⟩:=hj
  simp (disch:=omega) only [Aa,go_sem]
  refine Q4 (fun GI=>?_) (fun j b α hb hns=>?_)
  .have hI3:EW (CL doc t name) L:=Ba.ext fun b=>by
    unfold D4 CL
    cases c:Fq doc t name b with
    | false=>simp
    | true =>
     by_cases hs:b∈sn
     .simp [hs]
     .have:F8 doc t name b=false∨True:=.inr trivial
      have hq:D4 doc t name sn b=true:=by simp [D4,c,hs]
      exact absurd (GI _ (Ba.mem hq)) hs
   simp (disch:=omega) only [Aa,go_sem]
   refine loop (fun p:(Nat × ME × List ByteArray) × Nat=>⟨[(7,.mp (m+2)),(15,.rw k p.1.2.2.length p.1.2.2.length),(93,.ds (Ad BB doc)),(94,.i .i64 doc.length),(95,.i .i64 p.1.1)],(k,.rw p.1.2.2.length 1 (Bv p.1.2.2))::(m+2,.mr p.1.2.1 sn)::hp,p.2⟩)
    (fun p=>p.1.1≤doc.length∧k+1≤p.2∧p.1.2.2.length≤p.1.1∧EW (fun b=>CL doc t name b&&!decide (b∈p.1.2.2)) p.1.2.1∧R=El (CL doc t name) p.1.2.2 (doc.drop p.1.1)) (fun p=>doc.length - p.1.1) ((0,L,[]),k+1) ?_ ?_ (fun ⟨⟨j,L,o⟩,n⟩ hi=>?_)
   .exact ⟨by simp,by simp,by simp,hI3.ext fun b=>by simp,hR.symm⟩
   .refine (B0 (t:=15) (m:=1) ?_).trans (Ac ?_ (A6.cons ?_ (A6.cons ?_ (A6.base hf ?_))) (zna _))
    all_goals (simp (disch:=omega) only [Aa,go_sem])
   dsimp only at hi
   obtain ⟨Md,Ij,Ex,La,Gn⟩:=hi
   simp (disch:=omega) only [Aa,go_sem]
   refine Ai (fun q=>?_) (fun q=>?_)
   .have q:j<doc.length:=by simpa using q
    obtain ⟨x,ex⟩:∃x,doc[j]?=some x:=⟨doc[j],by simp [q]⟩
    rw [A5 ex,El] at Gn
    by_cases c:CL doc t name x.n=true∧x.n ∉ o
    .rw [if_pos c] at Gn
     have hl:=VT La (b:=x.n) (by simp [c.1,c.2])
     have hg:Ad C9 o++[[AV.s x.n]]=Ad C9 (o++[x.n]):=Bi C9 o x.n
     simp (disch:=omega) only [Aa,q,Ag (Ab BB ex),hl,go_sem]
     refine ⟨by omega,by omega,((j+1,C3 x.n L,o++[x.n]),_),⟨by dsimp only;omega,by dsimp only;omega,by simp;omega,La.del x.n fun b=>?_,Gn⟩,by dsimp only;omega,Ac ?_ (A6.cons ?_ (A6.cons ?_ (A6.base hf ?_))) (zna _)⟩
     .by_cases e:b=x.n<;>simp [e]
     all_goals
      simp (disch:=omega) only [Aa,At j (by omega),zld,zlc,zle,go_sem]
    .rw [if_neg c] at Gn
     have hl:=WC La (b:=x.n) (by simpa using c)
     simp (disch:=omega) only [Aa,q,Ag (Ab BB ex),hl,go_sem]
     refine ⟨((j+1,L,o),_),⟨by dsimp only;omega,by dsimp only;omega,by dsimp only;omega,La,Gn⟩,by dsimp only;omega,Ac ?_ (A6.cons ?_ (A6.cons ?_ (A6.base hf ?_))) (zna _)⟩
     all_goals
      simp (disch:=omega) only [Aa,At j (by omega),go_sem]
   .have q:j=doc.length:=by simp at q;omega
    subst q
    rw [zll,El] at Gn
    subst Gn
    simp (disch:=omega) only [Aa,go_sem]
  .have hm:=zla hb
   obtain ⟨hq,rfl⟩:=Ba.get hm
   have JI:=DX doc hd.len b
   have PA:=hd.g b
   have Fa:=Iu doc t name b
   unfold DH at JI
   obtain ⟨o,ho⟩:∃o,(A1 doc b).getD Dv=o:=⟨_,rfl⟩
   obtain ⟨s,hs⟩:∃s,(A1 doc b).isSome=s:=⟨_,rfl⟩
   rw [ho] at JI PA Fa
   rw [hs] at JI Fa
   have BH:=FP hm hns
   have FH:=EX L (sn++[b]) b
   simp (disch:=omega) only [Aa,go_sem]
   refine Qa (by simp) (DJ Ba.1 hm) ?_
   simp (disch:=omega) only [Aa,go_sem]
   refine Af.f (JI _ _) ?_
   simp (disch:=omega) only [Aa,go_sem]
   refine AA.f (fun _=>Fx o PA.1 PA.2.1 name _ _) ?_
   simp (disch:=omega) only [Aa,go_sem]
   refine Ai (fun c=>?_) (fun c=>?_)
   .have hb:F8 doc t name b=true:=by rw [Fa];revert c;cases s<;>simp<;>first | done | (intro h;first | exact h | (rcases h with h | h;exact .inl h;exact .inr h))
    simp (disch:=omega) only [Aa,go_sem]
    refine ⟨((C3 b L,sn++[b]),_),⟨by dsimp only;omega,Ba.del b fun x=>?_⟩,by dsimp only;omega,Ac ?_ (A6.cons ?_ (A6.cons ?_ (A6.cons ?_ (A6.base hf ?_)))) (zna _)⟩
    .unfold D4
     by_cases e:x=b
     .subst e;simp [hb]
     .simp [e]
    all_goals (simp (disch:=omega) only [Aa,go_sem])
   .have hb:F8 doc t name b=false:=by rw [Fa];revert c;cases s<;>simp
    simp (disch:=omega) only [Aa,go_sem]
    refine ⟨((L,sn++[b]),_),⟨by dsimp only;omega,Ba.ext fun x=>?_⟩,by dsimp only;omega,Ac ?_ (A6.cons ?_ (A6.cons ?_ (A6.cons ?_ (A6.base hf ?_)))) (zna _)⟩
    .unfold D4
     by_cases e:x=b
     .subst e;simp [hb]
     .simp [e]
    all_goals (simp (disch:=omega) only [Aa,go_sem])
 have c1:¬t.k=1:=by simpa using c1
 simp only [go_sem]
 refine Ai (fun c2=>?_) (fun c2=>?_)
 .have c2:t.k=2:=by simpa using c2
  simp (disch:=omega) only [Aa,go_sem]
  refine loop (fun p:(Nat × ME) × Nat=>⟨[(1,.s name),(2,.bx m 0),(5,.bx (m+1) 0),(7,.mp (m+2)),(34,.ds (Ad BB doc)),(35,.i .i64 doc.length),(36,.i .i64 p.1.1)],(m+2,.mp p.1.2)::(m,.bx [.ds (Ad BB doc)])::(m+1,.bx [.i .i64 t.k,.s t.n,.ds t.impl,.ds t.dirs,.ds (Ad Bq t.fields),.ds t.members,.ds t.inputs])::hp,p.2⟩)
   (fun p=>p.1.1≤doc.length∧m+3≤p.2∧EW (fun b=>(doc.take p.1.1).any fun x=>decide (x.n=b)&&decide (name∈Gg x.impl)) p.1.2) (fun p=>doc.length - p.1.1) ((0,[]),m+3) ?_ ?_ (fun ⟨⟨j,L⟩,k⟩ hj=>?_)
  .exact ⟨by simp,by simp,EW.nil.ext fun b=>by simp⟩
  .refine Ac ?_ (A6.cons ?_ (A6.cons ?_ (A6.cons ?_ (A6.base hf ?_)))) (zna _)
   all_goals (simp (disch:=omega) only [Aa,go_sem])
  dsimp only at hj
  obtain ⟨Cm,Ba,Aw⟩:=hj
  simp (disch:=omega) only [Aa,go_sem]
  refine Ai (fun q=>?_) (fun q=>?_)
  .have q:j<doc.length:=by simpa using q
   obtain ⟨x,ex⟩:∃x,doc[j]?=some x:=⟨doc[j],by simp [q]⟩
   have hx:=zla ex
   simp (disch:=omega) only [Aa,q,Ag (Ab BB ex),go_sem]
   refine Af.f (Fx x (hd.ok x hx) (hd.im x hx) name _ _) ?_
   simp (disch:=omega) only [Aa,go_sem]
   refine Ai (fun c=>?_) (fun c=>?_)
   .have c:name∈Gg x.impl:=by simpa using c
    simp (disch:=omega) only [Aa,go_sem]
    refine ⟨((j+1,Dg x.n (.b true) L),_),⟨by dsimp only;omega,by dsimp only;omega,Aw.put x.n fun b=>?_⟩,by dsimp only;omega,Ac ?_ (A6.cons ?_ (A6.cons ?_ (A6.cons ?_ (A6.base hf ?_)))) (zna _)⟩
    .rw [←Bg ex,List.any_append]
     simp [c,Bool.or_comm,eq_comm]
    all_goals
     simp (disch:=omega) only [Aa,At j (by omega),go_sem]
   .have c:¬name∈Gg x.impl:=by simpa using c
    simp (disch:=omega) only [Aa,go_sem]
    refine ⟨((j+1,L),_),⟨by dsimp only;omega,by dsimp only;omega,Aw.ext fun b=>?_⟩,by dsimp only;omega,Ac ?_ (A6.cons ?_ (A6.cons ?_ (A6.cons ?_ (A6.base hf ?_)))) (zna _)⟩
    .rw [←Bg ex,List.any_append]
     simp [c]
    all_goals
     simp (disch:=omega) only [Aa,At j (by omega),go_sem]
  .have q:j=doc.length:=by simp at q;omega
   subst q
   have hI:EW (Fq doc t name) L:=Aw.ext fun b=>by rw [List.take_length];simp [Fq,c2]
   simp (disch:=omega) only [Aa,go_sem]
   refine loop (fun p:(ME × List ByteArray) × Nat=>⟨[(1,.s name),(2,.bx m 0),(5,.bx (m+1) 0),(7,.mp (m+2)),(61,.mi (m+2))],(m+2,.mr p.1.1 p.1.2)::(m,.bx [.ds (Ad BB doc)])::(m+1,.bx [.i .i64 t.k,.s t.n,.ds t.impl,.ds t.dirs,.ds (Ad Bq t.fields),.ds t.members,.ds t.inputs])::hp,p.2⟩)
    (fun p=>m+3≤p.2∧EW (D4 doc t name p.1.2) p.1.1) (fun p=>Ey p.1.1 p.1.2) ((L,[]),k) ?_ ?_ (fun ⟨⟨L,sn⟩,k⟩ hj=>?_)
   .exact ⟨by dsimp only;omega,hI.ext (Hb doc t name)⟩
   .refine Ac ?_ (A6.cons ?_ (A6.cons ?_ (A6.cons ?_ (A6.base hf ?_)))) (zna _)
    all_goals (simp (disch:=omega) only [Aa,go_sem])
   dsimp only at hj
   obtain ⟨Cm,Ba⟩:=hj
   simp (disch:=omega) only [Aa,go_sem]
   refine Q4 (fun GI=>?_) (fun j b α hb hns=>?_)
   .have hI3:EW (CL doc t name) L:=Ba.ext fun b=>by
     unfold D4 CL
     cases c:Fq doc t name b with
     | false=>simp
     | true =>
      by_cases hs:b∈sn
      .simp [hs]
      .have:F8 doc t name b=false∨True:=.inr trivial
       have hq:D4 doc t name sn b=true:=by simp [D4,c,hs]
       exact absurd (GI _ (Ba.mem hq)) hs
    simp (disch:=omega) only [Aa,go_sem]
    refine loop (fun p:(Nat × ME × List ByteArray) × Nat=>⟨[(7,.mp (m+2)),(15,.rw k p.1.2.2.length p.1.2.2.length),(93,.ds (Ad BB doc)),(94,.i .i64 doc.length),(95,.i .i64 p.1.1)],(k,.rw p.1.2.2.length 1 (Bv p.1.2.2))::(m+2,.mr p.1.2.1 sn)::hp,p.2⟩)
     (fun p=>p.1.1≤doc.length∧k+1≤p.2∧p.1.2.2.length≤p.1.1∧EW (fun b=>CL doc t name b&&!decide (b∈p.1.2.2)) p.1.2.1∧R=El (CL doc t name) p.1.2.2 (doc.drop p.1.1)) (fun p=>doc.length - p.1.1) ((0,L,[]),k+1) ?_ ?_ (fun ⟨⟨j,L,o⟩,n⟩ hi=>?_)
    .exact ⟨by simp,by simp,by simp,hI3.ext fun b=>by simp,hR.symm⟩
    .refine (B0 (t:=15) (m:=1) ?_).trans (Ac ?_ (A6.cons ?_ (A6.cons ?_ (A6.base hf ?_))) (zna _))
     all_goals (simp (disch:=omega) only [Aa,go_sem])
    dsimp only at hi
    obtain ⟨Md,Ij,Ex,La,Gn⟩:=hi
    simp (disch:=omega) only [Aa,go_sem]
    refine Ai (fun q=>?_) (fun q=>?_)
    .have q:j<doc.length:=by simpa using q
     obtain ⟨x,ex⟩:∃x,doc[j]?=some x:=⟨doc[j],by simp [q]⟩
     rw [A5 ex,El] at Gn
     by_cases c:CL doc t name x.n=true∧x.n ∉ o
     .rw [if_pos c] at Gn
      have hl:=VT La (b:=x.n) (by simp [c.1,c.2])
      have hg:Ad C9 o++[[AV.s x.n]]=Ad C9 (o++[x.n]):=Bi C9 o x.n
      simp (disch:=omega) only [Aa,q,Ag (Ab BB ex),hl,go_sem]
      refine ⟨by omega,by omega,((j+1,C3 x.n L,o++[x.n]),_),⟨by dsimp only;omega,by dsimp only;omega,by simp;omega,La.del x.n fun b=>?_,Gn⟩,by dsimp only;omega,Ac ?_ (A6.cons ?_ (A6.cons ?_ (A6.base hf ?_))) (zna _)⟩
      .by_cases e:b=x.n<;>simp [e]
      all_goals
       simp (disch:=omega) only [Aa,At j (by omega),zld,zlc,zle,go_sem]
     .rw [if_neg c] at Gn
      have hl:=WC La (b:=x.n) (by simpa using c)
      simp (disch:=omega) only [Aa,q,Ag (Ab BB ex),hl,go_sem]
      refine ⟨((j+1,L,o),_),⟨by dsimp only;omega,by dsimp only;omega,by dsimp only;omega,La,Gn⟩,by dsimp only;omega,Ac ?_ (A6.cons ?_ (A6.cons ?_ (A6.base hf ?_))) (zna _)⟩
      all_goals
       simp (disch:=omega) only [Aa,At j (by omega),go_sem]
    .have q:j=doc.length:=by simp at q;omega
     subst q
     rw [zll,El] at Gn
     subst Gn
     simp (disch:=omega) only [Aa,go_sem]
   .have hm:=zla hb
    obtain ⟨hq,rfl⟩:=Ba.get hm
    have JI:=DX doc hd.len b
    have PA:=hd.g b
    have Fa:=Iu doc t name b
    unfold DH at JI
    obtain ⟨o,ho⟩:∃o,(A1 doc b).getD Dv=o:=⟨_,rfl⟩
    obtain ⟨s,hs⟩:∃s,(A1 doc b).isSome=s:=⟨_,rfl⟩
    rw [ho] at JI PA Fa
    rw [hs] at JI Fa
    have BH:=FP hm hns
    have FH:=EX L (sn++[b]) b
    simp (disch:=omega) only [Aa,go_sem]
    refine Qa (by simp) (DJ Ba.1 hm) ?_
    simp (disch:=omega) only [Aa,go_sem]
    refine Af.f (JI _ _) ?_
    simp (disch:=omega) only [Aa,go_sem]
    refine AA.f (fun _=>Fx o PA.1 PA.2.1 name _ _) ?_
    simp (disch:=omega) only [Aa,go_sem]
    refine Ai (fun c=>?_) (fun c=>?_)
    .have hb:F8 doc t name b=true:=by rw [Fa];revert c;cases s<;>simp<;>first | done | (intro h;first | exact h | (rcases h with h | h;exact .inl h;exact .inr h))
     simp (disch:=omega) only [Aa,go_sem]
     refine ⟨((C3 b L,sn++[b]),_),⟨by dsimp only;omega,Ba.del b fun x=>?_⟩,by dsimp only;omega,Ac ?_ (A6.cons ?_ (A6.cons ?_ (A6.cons ?_ (A6.base hf ?_)))) (zna _)⟩
     .unfold D4
      by_cases e:x=b
      .subst e;simp [hb]
      .simp [e]
     all_goals (simp (disch:=omega) only [Aa,go_sem])
    .have hb:F8 doc t name b=false:=by rw [Fa];revert c;cases s<;>simp
     simp (disch:=omega) only [Aa,go_sem]
     refine ⟨((L,sn++[b]),_),⟨by dsimp only;omega,Ba.ext fun x=>?_⟩,by dsimp only;omega,Ac ?_ (A6.cons ?_ (A6.cons ?_ (A6.cons ?_ (A6.base hf ?_)))) (zna _)⟩
     .unfold D4
      by_cases e:x=b
      .subst e;simp [hb]
      .simp [e]
     all_goals (simp (disch:=omega) only [Aa,go_sem])
 have c2:¬t.k=2:=by simpa using c2
 simp only [go_sem]
 refine Ai (fun c3=>?_) (fun c3=>?_)
 .have c3:t.k=3:=by simpa using c3
  have Km:∀e∈t.members,e.length=2:=fun e he=>by obtain ⟨x,y,rfl⟩:=g1.mem e he;rfl
  have Km:=eq_true Km
  simp (disch:=omega) only [Aa,Km,go_sem]
  refine loop (fun p:(Nat × ME) × Nat=>⟨[(1,.s name),(2,.bx m 0),(5,.bx (m+1) 0),(7,.mp (m+2)),(50,.ds t.members),(51,.i .i64 t.members.length),(52,.i .i64 p.1.1)],(m+2,.mp p.1.2)::(m,.bx [.ds (Ad BB doc)])::(m+1,.bx [.i .i64 t.k,.s t.n,.ds t.impl,.ds t.dirs,.ds (Ad Bq t.fields),.ds t.members,.ds t.inputs])::hp,p.2⟩)
   (fun p=>p.1.1≤t.members.length∧m+3≤p.2∧EW (fun b=>decide (b∈Fh (t.members.take p.1.1))) p.1.2) (fun p=>t.members.length - p.1.1) ((0,[]),m+3) ?_ ?_ (fun ⟨⟨j,L⟩,k⟩ hj=>?_)
  .exact ⟨by simp,by simp,EW.nil.ext fun b=>by simp [Fh]⟩
  .refine Ac ?_ (A6.cons ?_ (A6.cons ?_ (A6.cons ?_ (A6.base hf ?_)))) (zna _)
   all_goals (simp (disch:=omega) only [Aa,go_sem])
  dsimp only at hj
  obtain ⟨Cm,Ba,Aw⟩:=hj
  simp (disch:=omega) only [Aa,go_sem]
  refine Ai (fun q=>?_) (fun q=>?_)
  .have q:j<t.members.length:=by simpa using q
   obtain ⟨e,ee⟩:∃e,t.members[j]?=some e:=⟨t.members[j],by simp [q]⟩
   obtain ⟨x,y,rfl⟩:=g1.mem e (zla ee)
   simp (disch:=omega) only [Aa,q,Km,Ag ee,go_sem]
   refine ⟨((j+1,Dg x (.b true) L),_),⟨by dsimp only;omega,by dsimp only;omega,Aw.put x fun b=>?_⟩,by dsimp only;omega,Ac ?_ (A6.cons ?_ (A6.cons ?_ (A6.cons ?_ (A6.base hf ?_)))) (zna _)⟩
   .rw [←Bg ee]
    simp [Fh,Bool.or_comm]
   all_goals
    simp (disch:=omega) only [Aa,At j (by omega),go_sem]
  .have q:j=t.members.length:=by simp at q;omega
   subst q
   have hI:EW (Fq doc t name) L:=Aw.ext fun b=>by rw [List.take_length];simp [Fq,c1,c2,c3]
   simp (disch:=omega) only [Aa,go_sem]
   refine loop (fun p:(ME × List ByteArray) × Nat=>⟨[(1,.s name),(2,.bx m 0),(5,.bx (m+1) 0),(7,.mp (m+2)),(61,.mi (m+2))],(m+2,.mr p.1.1 p.1.2)::(m,.bx [.ds (Ad BB doc)])::(m+1,.bx [.i .i64 t.k,.s t.n,.ds t.impl,.ds t.dirs,.ds (Ad Bq t.fields),.ds t.members,.ds t.inputs])::hp,p.2⟩)
    (fun p=>m+3≤p.2∧EW (D4 doc t name p.1.2) p.1.1) (fun p=>Ey p.1.1 p.1.2) ((L,[]),k) ?_ ?_ (fun ⟨⟨L,sn⟩,k⟩ hj=>?_)
   .exact ⟨by dsimp only;omega,hI.ext (Hb doc t name)⟩
   .refine Ac ?_ (A6.cons ?_ (A6.cons ?_ (A6.cons ?_ (A6.base hf ?_)))) (zna _)
    all_goals (simp (disch:=omega) only [Aa,go_sem])
   dsimp only at hj
   obtain ⟨Cm,Ba⟩:=hj
   simp (disch:=omega) only [Aa,go_sem]
   refine Q4 (fun GI=>?_) (fun j b α hb hns=>?_)
   .have hI3:EW (CL doc t name) L:=Ba.ext fun b=>by
     unfold D4 CL
     cases c:Fq doc t name b with
     | false=>simp
     | true =>
      by_cases hs:b∈sn
      .simp [hs]
      .have:F8 doc t name b=false∨True:=.inr trivial
       have hq:D4 doc t name sn b=true:=by simp [D4,c,hs]
       exact absurd (GI _ (Ba.mem hq)) hs
    simp (disch:=omega) only [Aa,go_sem]
    refine loop (fun p:(Nat × ME × List ByteArray) × Nat=>⟨[(7,.mp (m+2)),(15,.rw k p.1.2.2.length p.1.2.2.length),(93,.ds (Ad BB doc)),(94,.i .i64 doc.length),(95,.i .i64 p.1.1)],(k,.rw p.1.2.2.length 1 (Bv p.1.2.2))::(m+2,.mr p.1.2.1 sn)::hp,p.2⟩)
     (fun p=>p.1.1≤doc.length∧k+1≤p.2∧p.1.2.2.length≤p.1.1∧EW (fun b=>CL doc t name b&&!decide (b∈p.1.2.2)) p.1.2.1∧R=El (CL doc t name) p.1.2.2 (doc.drop p.1.1)) (fun p=>doc.length - p.1.1) ((0,L,[]),k+1) ?_ ?_ (fun ⟨⟨j,L,o⟩,n⟩ hi=>?_)
    .exact ⟨by simp,by simp,by simp,hI3.ext fun b=>by simp,hR.symm⟩
    .refine (B0 (t:=15) (m:=1) ?_).trans (Ac ?_ (A6.cons ?_ (A6.cons ?_ (A6.base hf ?_))) (zna _))
     all_goals (simp (disch:=omega) only [Aa,go_sem])
    dsimp only at hi
    obtain ⟨Md,Ij,Ex,La,Gn⟩:=hi
    simp (disch:=omega) only [Aa,go_sem]
    refine Ai (fun q=>?_) (fun q=>?_)
    .have q:j<doc.length:=by simpa using q
     obtain ⟨x,ex⟩:∃x,doc[j]?=some x:=⟨doc[j],by simp [q]⟩
     rw [A5 ex,El] at Gn
     by_cases c:CL doc t name x.n=true∧x.n ∉ o
     .rw [if_pos c] at Gn
      have hl:=VT La (b:=x.n) (by simp [c.1,c.2])
      have hg:Ad C9 o++[[AV.s x.n]]=Ad C9 (o++[x.n]):=Bi C9 o x.n
      simp (disch:=omega) only [Aa,q,Ag (Ab BB ex),hl,go_sem]
      refine ⟨by omega,by omega,((j+1,C3 x.n L,o++[x.n]),_),⟨by dsimp only;omega,by dsimp only;omega,by simp;omega,La.del x.n fun b=>?_,Gn⟩,by dsimp only;omega,Ac ?_ (A6.cons ?_ (A6.cons ?_ (A6.base hf ?_))) (zna _)⟩
      .by_cases e:b=x.n<;>simp [e]
      all_goals
       simp (disch:=omega) only [Aa,At j (by omega),zld,zlc,zle,go_sem]
     .rw [if_neg c] at Gn
      have hl:=WC La (b:=x.n) (by simpa using c)
      simp (disch:=omega) only [Aa,q,Ag (Ab BB ex),hl,go_sem]
      refine ⟨((j+1,L,o),_),⟨by dsimp only;omega,by dsimp only;omega,by dsimp only;omega,La,Gn⟩,by dsimp only;omega,Ac ?_ (A6.cons ?_ (A6.cons ?_ (A6.base hf ?_))) (zna _)⟩
      all_goals
       simp (disch:=omega) only [Aa,At j (by omega),go_sem]
    .have q:j=doc.length:=by simp at q;omega
     subst q
     rw [zll,El] at Gn
     subst Gn
     simp (disch:=omega) only [Aa,go_sem]
   .have hm:=zla hb
    obtain ⟨hq,rfl⟩:=Ba.get hm
    have JI:=DX doc hd.len b
    have PA:=hd.g b
    have Fa:=Iu doc t name b
    unfold DH at JI
    obtain ⟨o,ho⟩:∃o,(A1 doc b).getD Dv=o:=⟨_,rfl⟩
    obtain ⟨s,hs⟩:∃s,(A1 doc b).isSome=s:=⟨_,rfl⟩
    rw [ho] at JI PA Fa
    rw [hs] at JI Fa
    have BH:=FP hm hns
    have FH:=EX L (sn++[b]) b
    simp (disch:=omega) only [Aa,go_sem]
    refine Qa (by simp) (DJ Ba.1 hm) ?_
    simp (disch:=omega) only [Aa,go_sem]
    refine Af.f (JI _ _) ?_
    simp (disch:=omega) only [Aa,go_sem]
    refine AA.f (fun _=>Fx o PA.1 PA.2.1 name _ _) ?_
    simp (disch:=omega) only [Aa,go_sem]
    refine Ai (fun c=>?_) (fun c=>?_)
    .have hb:F8 doc t name b=true:=by rw [Fa];revert c;cases s<;>simp<;>first | done | (intro h;first | exact h | (rcases h with h | h;exact .inl h;exact .inr h))
     simp (disch:=omega) only [Aa,go_sem]
     refine ⟨((C3 b L,sn++[b]),_),⟨by dsimp only;omega,Ba.del b fun x=>?_⟩,by dsimp only;omega,Ac ?_ (A6.cons ?_ (A6.cons ?_ (A6.cons ?_ (A6.base hf ?_)))) (zna _)⟩
     .unfold D4
      by_cases e:x=b
      .subst e;simp [hb]
      .simp [e]
     all_goals (simp (disch:=omega) only [Aa,go_sem])
    .have hb:F8 doc t name b=false:=by rw [Fa];revert c;cases s<;>simp
     simp (disch:=omega) only [Aa,go_sem]
     refine ⟨((L,sn++[b]),_),⟨by dsimp only;omega,Ba.ext fun x=>?_⟩,by dsimp only;omega,Ac ?_ (A6.cons ?_ (A6.cons ?_ (A6.cons ?_ (A6.base hf ?_)))) (zna _)⟩
     .unfold D4
      by_cases e:x=b
      .subst e;simp [hb]
      .simp [e]
     all_goals (simp (disch:=omega) only [Aa,go_sem])
 .have c3:¬t.k=3:=by simpa using c3
  have hI:EW (Fq doc t name) []:=EW.nil.ext fun b=>by simp [Fq,c1,c2,c3]
  obtain ⟨L,hL⟩:∃L:ME,[]=L:=⟨_,rfl⟩
  rw [hL] at hI
  simp (disch:=omega) only [Aa,go_sem]
  rw [hL]
  refine loop (fun p:(ME × List ByteArray) × Nat=>⟨[(1,.s name),(2,.bx m 0),(5,.bx (m+1) 0),(7,.mp (m+2)),(61,.mi (m+2))],(m+2,.mr p.1.1 p.1.2)::(m,.bx [.ds (Ad BB doc)])::(m+1,.bx [.i .i64 t.k,.s t.n,.ds t.impl,.ds t.dirs,.ds (Ad Bq t.fields),.ds t.members,.ds t.inputs])::hp,p.2⟩)
   (fun p=>m+3≤p.2∧EW (D4 doc t name p.1.2) p.1.1) (fun p=>Ey p.1.1 p.1.2) ((L,[]),m+3) ?_ ?_ (fun ⟨⟨L,sn⟩,k⟩ hj=>?_)
  .exact ⟨by dsimp only;omega,hI.ext (Hb doc t name)⟩
  .refine Ac ?_ (A6.cons ?_ (A6.cons ?_ (A6.cons ?_ (A6.base hf ?_)))) (zna _)
   all_goals (simp (disch:=omega) only [Aa,go_sem])
  dsimp only at hj
  obtain ⟨Cm,Ba⟩:=hj
  simp (disch:=omega) only [Aa,go_sem]
  refine Q4 (fun GI=>?_) (fun j b α hb hns=>?_)
  .have hI3:EW (CL doc t name) L:=Ba.ext fun b=>by
    unfold D4 CL
    cases c:Fq doc t name b with
    | false=>simp
    | true =>
     by_cases hs:b∈sn
     .simp [hs]
     .have:F8 doc t name b=false∨True:=.inr trivial
      have hq:D4 doc t name sn b=true:=by simp [D4,c,hs]
      exact absurd (GI _ (Ba.mem hq)) hs
   simp (disch:=omega) only [Aa,go_sem]
   refine loop (fun p:(Nat × ME × List ByteArray) × Nat=>⟨[(7,.mp (m+2)),(15,.rw k p.1.2.2.length p.1.2.2.length),(93,.ds (Ad BB doc)),(94,.i .i64 doc.length),(95,.i .i64 p.1.1)],(k,.rw p.1.2.2.length 1 (Bv p.1.2.2))::(m+2,.mr p.1.2.1 sn)::hp,p.2⟩)
    (fun p=>p.1.1≤doc.length∧k+1≤p.2∧p.1.2.2.length≤p.1.1∧EW (fun b=>CL doc t name b&&!decide (b∈p.1.2.2)) p.1.2.1∧R=El (CL doc t name) p.1.2.2 (doc.drop p.1.1)) (fun p=>doc.length - p.1.1) ((0,L,[]),k+1) ?_ ?_ (fun ⟨⟨j,L,o⟩,n⟩ hi=>?_)
   .exact ⟨by simp,by simp,by simp,hI3.ext fun b=>by simp,hR.symm⟩
   .refine (B0 (t:=15) (m:=1) ?_).trans (Ac ?_ (A6.cons ?_ (A6.cons ?_ (A6.base hf ?_))) (zna _))
    all_goals (simp (disch:=omega) only [Aa,go_sem])
   dsimp only at hi
   obtain ⟨Md,Ij,Ex,La,Gn⟩:=hi
   simp (disch:=omega) only [Aa,go_sem]
   refine Ai (fun q=>?_) (fun q=>?_)
   .have q:j<doc.length:=by simpa using q
    obtain ⟨x,ex⟩:∃x,doc[j]?=some x:=⟨doc[j],by simp [q]⟩
    rw [A5 ex,El] at Gn
    by_cases c:CL doc t name x.n=true∧x.n ∉ o
    .rw [if_pos c] at Gn
     have hl:=VT La (b:=x.n) (by simp [c.1,c.2])
     have hg:Ad C9 o++[[AV.s x.n]]=Ad C9 (o++[x.n]):=Bi C9 o x.n
     simp (disch:=omega) only [Aa,q,Ag (Ab BB ex),hl,go_sem]
     refine ⟨by omega,by omega,((j+1,C3 x.n L,o++[x.n]),_),⟨by dsimp only;omega,by dsimp only;omega,by simp;omega,La.del x.n fun b=>?_,Gn⟩,by dsimp only;omega,Ac ?_ (A6.cons ?_ (A6.cons ?_ (A6.base hf ?_))) (zna _)⟩
     .by_cases e:b=x.n<;>simp [e]
     all_goals
      simp (disch:=omega) only [Aa,At j (by omega),zld,zlc,zle,go_sem]
    .rw [if_neg c] at Gn
     have hl:=WC La (b:=x.n) (by simpa using c)
     simp (disch:=omega) only [Aa,q,Ag (Ab BB ex),hl,go_sem]
     refine ⟨((j+1,L,o),_),⟨by dsimp only;omega,by dsimp only;omega,by dsimp only;omega,La,Gn⟩,by dsimp only;omega,Ac ?_ (A6.cons ?_ (A6.cons ?_ (A6.base hf ?_))) (zna _)⟩
     all_goals
      simp (disch:=omega) only [Aa,At j (by omega),go_sem]
   .have q:j=doc.length:=by simp at q;omega
    subst q
    rw [zll,El] at Gn
    subst Gn
    simp (disch:=omega) only [Aa,go_sem]
  .have hm:=zla hb
   obtain ⟨hq,rfl⟩:=Ba.get hm
   have JI:=DX doc hd.len b
   have PA:=hd.g b
   have Fa:=Iu doc t name b
   unfold DH at JI
   obtain ⟨o,ho⟩:∃o,(A1 doc b).getD Dv=o:=⟨_,rfl⟩
   obtain ⟨s,hs⟩:∃s,(A1 doc b).isSome=s:=⟨_,rfl⟩
   rw [ho] at JI PA Fa
   rw [hs] at JI Fa
   have BH:=FP hm hns
   have FH:=EX L (sn++[b]) b
   simp (disch:=omega) only [Aa,go_sem]
   refine Qa (by simp) (DJ Ba.1 hm) ?_
   simp (disch:=omega) only [Aa,go_sem]
   refine Af.f (JI _ _) ?_
   simp (disch:=omega) only [Aa,go_sem]
   refine AA.f (fun _=>Fx o PA.1 PA.2.1 name _ _) ?_
   simp (disch:=omega) only [Aa,go_sem]
   refine Ai (fun c=>?_) (fun c=>?_)
   .have hb:F8 doc t name b=true:=by rw [Fa];revert c;cases s<;>simp<;>first | done | (intro h;first | exact h | (rcases h with h | h;exact .inl h;exact .inr h))
    simp (disch:=omega) only [Aa,go_sem]
    refine ⟨((C3 b L,sn++[b]),_),⟨by dsimp only;omega,Ba.del b fun x=>?_⟩,by dsimp only;omega,Ac ?_ (A6.cons ?_ (A6.cons ?_ (A6.cons ?_ (A6.base hf ?_)))) (zna _)⟩
    .unfold D4
     by_cases e:x=b
     .subst e;simp [hb]
     .simp [e]
    all_goals (simp (disch:=omega) only [Aa,go_sem])
   .have hb:F8 doc t name b=false:=by rw [Fa];revert c;cases s<;>simp
    simp (disch:=omega) only [Aa,go_sem]
    refine ⟨((L,sn++[b]),_),⟨by dsimp only;omega,Ba.ext fun x=>?_⟩,by dsimp only;omega,Ac ?_ (A6.cons ?_ (A6.cons ?_ (A6.cons ?_ (A6.base hf ?_)))) (zna _)⟩
    .unfold D4
     by_cases e:x=b
     .subst e;simp [hb]
     .simp [e]
    all_goals (simp (disch:=omega) only [Aa,go_sem])
end Go.Proofs.YtgfidgoefioigaaGreatDoor
