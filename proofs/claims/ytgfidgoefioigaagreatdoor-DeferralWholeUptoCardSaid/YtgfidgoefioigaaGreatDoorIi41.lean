/- Proof. Conditions: none. -/
import Derived.Test.YtgfidgoefioigaaGreatDoorIi40
open Go.Proofs.Tryz
open List renaming cons_append→zlh,nil_append→zli
namespace Go.Proofs.YtgfidgoefioigaaGreatDoor
open Go.Eng
set_option linter.all false
set_option maxRecDepth 20000
set_option maxHeartbeats 2000000
noncomputable def M5 (name:ByteArray) (v:Ak) (s:AP):Ak × AP :=
 if name=Kl∧v.k=2∧-2147483648≤v.n∧v.n<2147483648 then (v,s)
 else if name=Ci∧v.k=3∨name=Cj∧v.k=1∨name=JM∧v.k=3 then (v,s)
 else if name=JM∧v.k=2 then (.mk 3 0 (R4 (Lib.itoa v.n)) [] [],s) else (AB,BV 23 s)
section
variable {doc:List Az} {lit:Bool} {s:AP} {c:Nat} {hp:CH}
theorem Mh (h:gc hp c=BI doc lit s) (name:ByteArray) (v:Ak) (hr:v.Rng) (n:Nat):AQ prog 184 hp n [.bx c 0,.s name,vx v] ([(c,BI doc lit (M5 name v s).2)]++hp) n (vx (M5 name v s).1):=by
 have Gb:(∀k,n≤k→gc hp k=.no)→wsLt n [(c,BI doc lit (M5 name v s).2)]:=fun hf=>EZ (CR h hf)
 have hc:=h
 unfold BI at hc
 have hD:=MT v.n hr.l hr.u
 have hF:=fun (Ao:CH) (e:gc Ao c=gc hp c) (n':Nat)=>Cv (hp:=Ao) (e.trans h) 23 n'
 refine CP func184 (by kernel_rfl) cc184 cr184 rfl Gb fun hf=>?_;unfold ck184
 have l1:=CR h hf
 obtain ⟨R,hR⟩:∃R,M5 name v s=R:=⟨_,rfl⟩
 rw [hR]
 unfold M5 at hR
 simp (disch:=omega) only [Aa,go_sem]
 refine Ai (fun q=>?_) (fun q=>?_)
 .have p:name=Kl∧v.k=2∧-2147483648≤v.n∧v.n<2147483648:=by simpa [Kl,and_assoc] using q
  rw [if_pos p] at hR
  subst hR
  simp (disch:=omega) only [Aa,go_sem]
  exact B3 h fun j hj j1=>rfl
 have p1:¬(name=Kl∧v.k=2∧-2147483648≤v.n∧v.n<2147483648):=by intro w;simp [w.1,w.2.1,w.2.2.1,w.2.2.2,Kl] at q
 rw [if_neg p1] at hR
 simp (disch:=omega) only [Aa,go_sem]
 refine Ai (fun q2=>?_) (fun q2=>?_)
 .have p:name=Ci∧v.k=3∨name=Cj∧v.k=1∨name=JM∧v.k=3:=.inl (by simpa [Ci] using q2)
  rw [if_pos p] at hR
  subst hR
  simp (disch:=omega) only [Aa,q2,go_sem]
  exact B3 h fun j hj j1=>rfl
 simp (disch:=omega) only [Aa,go_sem]
 refine Ai (fun q3=>?_) (fun q3=>?_)
 .have p:name=Ci∧v.k=3∨name=Cj∧v.k=1∨name=JM∧v.k=3:=.inr (.inl (by simpa [Cj] using q3))
  rw [if_pos p] at hR
  subst hR
  simp (disch:=omega) only [Aa,q3,go_sem]
  exact B3 h fun j hj j1=>rfl
 simp (disch:=omega) only [Aa,go_sem]
 refine Ai (fun q4=>?_) (fun q4=>?_)
 .have p:name=Ci∧v.k=3∨name=Cj∧v.k=1∨name=JM∧v.k=3:=.inr (.inr (by simpa [JM] using q4))
  rw [if_pos p] at hR
  subst hR
  simp (disch:=omega) only [Aa,q4,go_sem]
  exact B3 h fun j hj j1=>rfl
 have p2:¬(name=Ci∧v.k=3∨name=Cj∧v.k=1∨name=JM∧v.k=3):=by
  rintro (w | w | w)
  .simp [w.1,w.2,Ci] at q2
  .simp [w.1,w.2,Cj] at q3
  .simp [w.1,w.2,JM] at q4
 rw [if_neg p2] at hR
 simp (disch:=omega) only [Aa,go_sem]
 refine Ai (fun q5=>?_) (fun q5=>?_)
 .have p:name=JM∧v.k=2:=by simpa [JM] using q5
  rw [if_pos p] at hR
  subst hR
  simp (disch:=omega) only [Aa,go_sem]
  refine Af.f (hD _ _) ?_
  simp (disch:=omega) only [Aa,go_sem]
  try exact B3 h fun j hj j1=>rfl
 have p3:¬(name=JM∧v.k=2):=by intro w;simp [w.1,w.2,JM] at q5
 rw [if_neg p3] at hR
 subst hR
 simp (disch:=omega) only [Aa,go_sem]
 refine Af.x (hF _ (by repeat rw [Aq _ _ (by omega)]) _) ?_
 simp (disch:=omega) only [Aa,go_sem]
 all_goals
  refine B3 (Av _ _ _) fun j hj j1=>?_
  try simp only [zlh,zli]
  repeat rw [Aq _ _ (by omega)]
  try rfl
noncomputable def XG (lit:Bool) (t:Az) (v:Ak) (s:AP):Ak × AP :=
 if (v.k=4∨v.k=3∧lit=false)∧v.s∈Fh t.members then (.mk 4 0 v.s [] [],s) else (AB,BV 23 s)
theorem Sb (h:gc hp c=BI doc lit s) (t:Az) (hm:∀e∈t.members,∃x y,e=[AV.s x,.ds y]) (hl:t.members.length≤1000000000000) (v:Ak) (n:Nat):AQ prog 185 hp n [.bx c 0,JN t,vx v] ([(c,BI doc lit (XG lit t v s).2)]++hp) n (vx (XG lit t v s).1):=by
 have Gb:(∀k,n≤k→gc hp k=.no)→wsLt n [(c,BI doc lit (XG lit t v s).2)]:=fun hf=>EZ (CR h hf)
 have hc:=h
 unfold BI at hc
 obtain ⟨ms,hms⟩:∃ms,t.members=ms:=⟨_,rfl⟩
 have Km:∀e∈ms,e.length=2:=fun e he=>by obtain ⟨x,y,rfl⟩:=hm e (by rw [hms];exact he);rfl
 have Km:=eq_true Km
 obtain ⟨R,hR⟩:∃R,XG lit t v s=R:=⟨_,rfl⟩
 rw [hR] at Gb ⊢
 unfold XG at hR
 rw [hms] at hR hm hl
 refine CP func185 (by kernel_rfl) cc185 cr185 rfl Gb fun hf=>?_;unfold ck185
 have l1:=CR h hf
 have hF:=fun (Ao:CH) (e:gc Ao c=gc hp c) (n':Nat)=>Cv (hp:=Ao) (e.trans h) 23 n'
 have k1:¬n=c:=by omega
 have k2:¬n+1=c:=by omega
 by_cases q:v.k=4∨v.k=3∧lit=false
 .have hR2:(if v.s∈Fh ms then (Ak.mk 4 0 v.s [] [],s) else (AB,BV 23 s))=R:=by
   rw [←hR]
   by_cases w:v.s∈Fh ms
   .rw [if_pos w,if_pos ⟨q,w⟩]
   .rw [if_neg w,if_neg fun e=>w e.2]
  obtain ⟨B,hB⟩:∃B,decide (v.s∈Fh ms)=B:=⟨_,rfl⟩
  have hRB:(if B=true then (Ak.mk 4 0 v.s [] [],s) else (AB,BV 23 s))=R:=by
   rw [←hR2,←hB]
   by_cases w:v.s∈Fh ms
   .simp [w]
   .simp [w]
  clear hR hR2
  by_cases q1:v.k=4
  .simp (disch:=omega) only [Aa,hc,decide_eq_true q1,hms,k1,k2,go_sem]
   refine loop (fun p:Nat × Nat=>⟨[(0,.bx c 0),(4,.bx n 0),(5,.bx (n+1) 0),(6,.bx (n+2) 0),(7,.i .i64 p.1)],(n+2,.bx [.i .i64 0,.i .i64 0,.s ⟨#[]⟩,.e0,.e0])::(n+1,.bx [.i .i64 v.k,.i .i64 v.n,.s v.s,.ds (Ad A2 v.items),.ds (Bv v.keys)])::(n,.bx [.i .i64 t.k,.s t.n,.ds t.impl,.ds t.dirs,.ds (Ad Bq t.fields),.ds ms,.ds t.inputs])::hp,p.2⟩) (fun p=>p.1≤ms.length∧n+3≤p.2∧B=decide (v.s∈Fh (ms.drop p.1))) (fun p=>ms.length - p.1) (0,n+3) ?_ ?_ (fun ⟨j,m⟩ hj=>?_)
   .exact ⟨by simp,by simp,hB.symm⟩
   .refine Ac ?_ (Ae.sub (Ae.cons ?_ (Ae.cons ?_ (Ae.cons ?_ (Ae.base hf fun a ha hax=>?_))))) (Nat.le_refl _)
    .simp (disch:=omega) only [Aa,go_sem]
    .simp (disch:=omega) only [Aa,go_sem]
    .simp (disch:=omega) only [Aa,go_sem]
    .simp (disch:=omega) only [Aa,go_sem]
    .repeat rw [Aq _ _ (by omega)]
   dsimp only at hj
   obtain ⟨Cm,Ba,Aw⟩:=hj
   simp (disch:=omega) only [Aa,go_sem]
   refine Ai (fun q=>?_) (fun q=>?_)
   .have q:j<ms.length:=by simpa using q
    obtain ⟨e,ee⟩:∃e,ms[j]?=some e:=⟨ms[j],by simp [q]⟩
    obtain ⟨x,y,rfl⟩:=hm e (List.mem_of_getElem? ee)
    rw [A5 ee] at Aw
    have Aw:B=decide (v.s∈x::Fh (ms.drop (j+1))):=Aw
    simp (disch:=omega) only [Aa,q,Km,Ag ee,go_sem]
    refine Ai (fun w=>?_) (fun w=>?_)
    .have w:x=v.s:=by simpa using w
     have:B=true:=by rw [Aw];simp [w]
     rw [if_pos this] at hRB
     subst hRB
     simp (disch:=omega) only [Aa,go_sem]
     all_goals
      refine B3 (by (repeat rw [Aq _ _ (by omega)]);exact h) fun j hj j1=>?_
      repeat rw [Aq _ _ (by omega)]
      try rfl
    .have w:¬x=v.s:=by simpa using w
     have c':¬v.s=x:=fun e=>w e.symm
     simp (disch:=omega) only [Aa,go_sem]
     refine ⟨(j+1,m+20),⟨show j+1≤ms.length by omega,show n+3≤m+20 by omega,by rw [Aw];simp [c']⟩,by dsimp only;omega,Ac ?_ (Ae.sub (Ae.cons ?_ (Ae.cons ?_ (Ae.cons ?_ (Ae.base hf fun a ha hax=>?_))))) (by omega)⟩
     .simp (disch:=omega) only [Aa,At j (by omega),go_sem]
     .simp (disch:=omega) only [Aa,go_sem]
     .simp (disch:=omega) only [Aa,go_sem]
     .simp (disch:=omega) only [Aa,go_sem]
     .repeat rw [Aq _ _ (by omega)]
   .have q:j=ms.length:=by simp at q;omega
    subst q
    rw [List.drop_length] at Aw
    have:¬B=true:=by rw [Aw];simp [Fh]
    rw [if_neg this] at hRB
    subst hRB
    simp (disch:=omega) only [Aa,go_sem]
    refine Af.x (hF _ (by repeat rw [Aq _ _ (by omega)]) _) ?_
    simp (disch:=omega) only [Aa,go_sem]
    all_goals
     refine B3 (Av _ _ _) fun j hj j1=>?_
     try simp only [zlh,zli]
     repeat rw [Aq _ _ (by omega)]
     try rfl
  .obtain ⟨q2,rfl⟩:v.k=3∧lit=false:=by rcases q with w | w;exact absurd w q1;exact w
   simp (disch:=omega) only [Aa,hc,decide_eq_false q1,decide_eq_true q2,hms,k1,k2,go_sem]
   refine loop (fun p:Nat × Nat=>⟨[(0,.bx c 0),(4,.bx n 0),(5,.bx (n+1) 0),(6,.bx (n+2) 0),(7,.i .i64 p.1)],(n+2,.bx [.i .i64 0,.i .i64 0,.s ⟨#[]⟩,.e0,.e0])::(n+1,.bx [.i .i64 v.k,.i .i64 v.n,.s v.s,.ds (Ad A2 v.items),.ds (Bv v.keys)])::(n,.bx [.i .i64 t.k,.s t.n,.ds t.impl,.ds t.dirs,.ds (Ad Bq t.fields),.ds ms,.ds t.inputs])::hp,p.2⟩) (fun p=>p.1≤ms.length∧n+3≤p.2∧B=decide (v.s∈Fh (ms.drop p.1))) (fun p=>ms.length - p.1) (0,n+3) ?_ ?_ (fun ⟨j,m⟩ hj=>?_)
   .exact ⟨by simp,by simp,hB.symm⟩
   .refine Ac ?_ (Ae.sub (Ae.cons ?_ (Ae.cons ?_ (Ae.cons ?_ (Ae.base hf fun a ha hax=>?_))))) (Nat.le_refl _)
    .simp (disch:=omega) only [Aa,go_sem]
    .simp (disch:=omega) only [Aa,go_sem]
    .simp (disch:=omega) only [Aa,go_sem]
    .simp (disch:=omega) only [Aa,go_sem]
    .repeat rw [Aq _ _ (by omega)]
   dsimp only at hj
   obtain ⟨Cm,Ba,Aw⟩:=hj
   simp (disch:=omega) only [Aa,go_sem]
   refine Ai (fun q=>?_) (fun q=>?_)
   .have q:j<ms.length:=by simpa using q
    obtain ⟨e,ee⟩:∃e,ms[j]?=some e:=⟨ms[j],by simp [q]⟩
    obtain ⟨x,y,rfl⟩:=hm e (List.mem_of_getElem? ee)
    rw [A5 ee] at Aw
    have Aw:B=decide (v.s∈x::Fh (ms.drop (j+1))):=Aw
    simp (disch:=omega) only [Aa,q,Km,Ag ee,go_sem]
    refine Ai (fun w=>?_) (fun w=>?_)
    .have w:x=v.s:=by simpa using w
     have:B=true:=by rw [Aw];simp [w]
     rw [if_pos this] at hRB
     subst hRB
     simp (disch:=omega) only [Aa,go_sem]
     all_goals
      refine B3 (by (repeat rw [Aq _ _ (by omega)]);exact h) fun j hj j1=>?_
      repeat rw [Aq _ _ (by omega)]
      try rfl
    .have w:¬x=v.s:=by simpa using w
     have c':¬v.s=x:=fun e=>w e.symm
     simp (disch:=omega) only [Aa,go_sem]
     refine ⟨(j+1,m+20),⟨show j+1≤ms.length by omega,show n+3≤m+20 by omega,by rw [Aw];simp [c']⟩,by dsimp only;omega,Ac ?_ (Ae.sub (Ae.cons ?_ (Ae.cons ?_ (Ae.cons ?_ (Ae.base hf fun a ha hax=>?_))))) (by omega)⟩
     .simp (disch:=omega) only [Aa,At j (by omega),go_sem]
     .simp (disch:=omega) only [Aa,go_sem]
     .simp (disch:=omega) only [Aa,go_sem]
     .simp (disch:=omega) only [Aa,go_sem]
     .repeat rw [Aq _ _ (by omega)]
   .have q:j=ms.length:=by simp at q;omega
    subst q
    rw [List.drop_length] at Aw
    have:¬B=true:=by rw [Aw];simp [Fh]
    rw [if_neg this] at hRB
    subst hRB
    simp (disch:=omega) only [Aa,go_sem]
    refine Af.x (hF _ (by repeat rw [Aq _ _ (by omega)]) _) ?_
    simp (disch:=omega) only [Aa,go_sem]
    all_goals
     refine B3 (Av _ _ _) fun j hj j1=>?_
     try simp only [zlh,zli]
     repeat rw [Aq _ _ (by omega)]
     try rfl
 .rw [if_neg fun e=>q e.1] at hR
  subst hR
  have q1:¬v.k=4:=fun e=>q (.inl e)
  by_cases q2:v.k=3
  .have:lit=true:=by cases lit;exact absurd (.inr ⟨q2,rfl⟩) q;rfl
   subst this
   simp (disch:=omega) only [Aa,hc,decide_eq_false q1,decide_eq_true q2,hms,k1,k2,go_sem]
   refine Af.x (hF _ (by repeat rw [Aq _ _ (by omega)]) _) ?_
   simp (disch:=omega) only [Aa,go_sem]
   all_goals
    refine B3 (Av _ _ _) fun j hj j1=>?_
    try simp only [zlh,zli]
    repeat rw [Aq _ _ (by omega)]
    try rfl
  .simp (disch:=omega) only [Aa,hc,decide_eq_false q1,decide_eq_false q2,hms,k1,k2,go_sem]
   refine Af.x (hF _ (by repeat rw [Aq _ _ (by omega)]) _) ?_
   simp (disch:=omega) only [Aa,go_sem]
   all_goals
    refine B3 (Av _ _ _) fun j hj j1=>?_
    try simp only [zlh,zli]
    repeat rw [Aq _ _ (by omega)]
    try rfl
end
end Go.Proofs.YtgfidgoefioigaaGreatDoor
