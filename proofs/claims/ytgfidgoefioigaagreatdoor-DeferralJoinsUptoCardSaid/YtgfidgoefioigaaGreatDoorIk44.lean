/- Proof. Conditions: none. -/
import Derived.Test.YtgfidgoefioigaaGreatDoorIk43
noncomputable section
open List renaming mem_cons->zh,not_mem_nil->zm,take_of_length_le->z14,length_append->z16,length_cons->z11,length_nil->z1c,length->z1z
open Nat renaming zero_le->zw,le_refl->zv
open Bool renaming and_eq_true_iff->z2s
open Int renaming ofNat_lt->z4c
open Go.Proofs.Tryz
open List renaming mem_of_getElem?->zla,getElem?_eq_getElem->zlg,cons_append->zlh,nil_append->zli,drop_length->zll
open Nat renaming le_refl->zna
namespace Go.Proofs.YtgfidgoefioigaaGreatDoor
open Go.Eng
set_option linter.all false
set_option maxRecDepth 20000
set_option maxHeartbeats 2000000
def Ku (F:Ag->Bb->Ag×Bb):List Ag->Bb->List Ag×Bb
 | [],s=>([],s)
 |x::l,s=>if s.2=0 then ((F x s).1::(Ku F l (F x s).2).1,(Ku F l (F x s).2).2) else ([],s)
theorem N7 (F:Ag->Bb->Ag×Bb) (l:List Ag) (s:Bb) (h:s.2≠0):Ku F l s=([],s):=by
 cases l with
 |nil=>rfl
 |cons x l=>unfold Ku;rw [iN h]
theorem HX (F:Ag->Bb->Ag×Bb) (x:Ag) (l:List Ag) (s:Bb) (h:s.2=0):Ku F (x::l) s=((F x s).1::(Ku F l (F x s).2).1,(Ku F l (F x s).2).2):=by
 show (if s.2=0 then _ else _)=_
 rw [iP h]
def Ui (v:Ag):List Ag:=if v.k=5 then v.items else [v]
def lsE (F:Ag->Bb->Ag × Bb) (v:Ag) (s:Bb):Ag × Bb:=(.mk 5 0 ⟨#[]⟩ (Ku F (Ui v) s).1 [],(Ku F (Ui v) s).2)
def NP (lit:Bool) (Fl Fp:qB->List Int->Ag->Bb->Ag×Bb) (v:Ag):List BG->List BG->Bb->(List qB×List Ag)×Bb
 |_,[],s=>(([],[]),s)
 |pre,x::r,s=>
  if s.2=0 then
   if x.n∈pre.map BG.n then NP lit Fl Fp v (pre++[x]) r s
   else if (AB v x.n).isSome=true∧(lit&&decide (((AB v x.n).getD A8).k=7))=false then
    let p:=Fl x.tn x.tw ((AB v x.n).getD A8) s
    let q:=NP lit Fl Fp v (pre++[x]) r p.2
    ((x.n::q.1.1,p.1::q.1.2),q.2)
   else if x.has=true then
    let p:=Fp x.tn x.tw x.d s
    let q:=NP lit Fl Fp v (pre++[x]) r p.2
    ((x.n::q.1.1,p.1::q.1.2),q.2)
   else if Ga x.tw=true then
    let q:=NP lit Fl Fp v (pre++[x]) r (Ce 22 s)
    ((x.n::q.1.1,A8::q.1.2),q.2)
   else NP lit Fl Fp v (pre++[x]) r s
  else (([],[]),s)
def Se (is:List BG) (ks:List qB) (s:Bb):Bb:=ks.foldl (fun s k=>if (BY is k).isSome=true then s else Ce 22 s) s
def PW (lit:Bool) (Fl Fp:qB->List Int->Ag->Bb->Ag×Bb) (is:List BG) (v:Ag) (s:Bb):Ag×Bb :=
 if v.k=6 then
  let q:=NP lit Fl Fp v [] is (Se is v.keys s)
  (.mk 6 0 ⟨#[]⟩ q.1.2 q.1.1,q.2)
 else (A8,Ce 23 s)
def Dt (doc:List Av):Nat->Bool->qB->List Int->Ag->Bb->Ag×Bb
 | 0,_,_,_,_,s=>(A8,s)
 |k+1,lit,tn,tw,v0,s=>
  if Jj doc tn=false then (A8,Ce 10 s) else
  let v:=if lit=true∧v0.k=7 then A8 else v0
  let s1:=Hm (25 - k) s
  if s1.2≠0 then (A8,s1) else
  if v.k=0 then (A8,if Ga tw=true then Ce 23 s1 else s1) else
  if Ca tw=true then lsE (Dt doc k lit tn (Cg tw)) v s1 else
  if BV tn=true then Qf tn v s1 else
  if ((Ay doc tn).getD DJ).k=4 then enE lit ((Ay doc tn).getD DJ) v s1 else
  PW lit (Dt doc k lit) (Dt doc k true) (Bl ((Ay doc tn).getD DJ).inputs) v s1
def CoK (doc:List Av) (k:Nat):Prop:=∀(lit:Bool) (tn:qB) (tw:List Int) (v:Ag) (s:Bb),tw.length<=1000000000->v.Fit->v.Rng->s.2=0->s.1<=4096 ->
 ((Dt doc k lit tn tw v s).2.1<=4097∧((Dt doc k lit tn tw v s).2.2=0->(Dt doc k lit tn tw v s).2.1<=4096)∧(Dt doc k lit tn tw v s).1.Fit) ∧
 ∀(hp:CH) (c n:Nat),gc hp c=BR doc lit s->AO prog 176 hp n [.bx c 0,DW tn tw,vx v,.i .i64 ((26 - k:Nat):Int)] ([(c,BR doc lit (Dt doc k lit tn tw v s).2)]++hp) n (vx (Dt doc k lit tn tw v s).1)
theorem SH (F:Ag->Bb->Ag×Bb):∀(l:List Ag) (s:Bb),(Ku F l s).1.length<=l.length
 | [],s=>by simp [Ku]
 |x::l,s=>by
  by_cases h:s.2=0
  .rw [HX F x l s h]
   have:=SH F l (F x s).2
   simp
   exact this
  .rw [N7 F _ s h];simp
theorem S8 {hp:CH} {n0 c:Nat} {doc:List Av} {lit:Bool} {s s':Bb} (h:gc hp c=BR doc lit s) (h1:c<n0):Kc hp n0 (keys [(c,BR doc lit s')]) [(c,BR doc lit s')]:=by
 refine ⟨h1,by rw [h];trivial,?_,trivial⟩
 exact ⟨rfl,rfl,rfl,rfl,rfl,rfl,rfl,rfl,rfl,trivial⟩
inductive LsS
 | mk (j:Nat) (j6:List Ag) (s:Bb) (g n:Nat)
theorem TY (doc:List Av) (k:Nat) (MB:1<=k) (hk:k<=24) (ih:CoK doc k) (lit:Bool) (tn:qB) (tw:List Int) (v:Ag) (s:Bb) (FQ:tw.length<=1000000000) (hv:v.Fit) (hr:v.Rng) (hs:s.1<=4097) (RN:s.2=0->s.1<=4096)
 (hp:CH) (c n:Nat) (h:gc hp c=BR doc lit s):AO prog 183 hp n [.bx c 0,DW tn tw,vx v,.i .i64 ((25 - k:Nat):Int)] ([(c,BR doc lit (lsE (Dt doc k lit tn tw) v s).2)]++hp) n (vx (lsE (Dt doc k lit tn tw) v s).1):=by
 have DV : (∀ k, n <= k -> gc hp k = .no) -> wsLt n [(c, BR doc lit (lsE (Dt doc k lit tn tw) v s).2)] := fun hf => F8 (Dw h hf)
 have hc:=h
 unfold BR at hc
 obtain ⟨l,hl⟩:=A7 (Ui v)
 have hlI:l.length*80<=140737488355327:=by rw [<-hl];unfold Ui;split;exact hv.i;simp
 have hlx:∀x∈l,x.Fit∧x.Rng:=by
  rw [<-hl];unfold Ui
  split
  .exact fun x hx => ⟨hv.x hx, hr.x hx⟩
  .intro x hx;simp at hx;subst hx;exact ⟨hv,hr⟩
 obtain ⟨R,hR⟩:=A7 (Ku (Dt doc k lit tn tw) l s)
 unfold lsE at DV ⊢
 rw [hl,hR] at DV ⊢
 have lI:Ui v=if v.k=5 then v.items else [v]:=rfl
 refine Cp func183 (tA cc183) (tB cc183) (tC cc183) rfl DV fun hf=>?_;unfold ck183
 have l1:=Dw h hf
 by_cases k5:v.k=5
 .rw [hl,iP k5] at lI
  subst lI
  simp (disch:=omega) only [hc,dT k5,go_sem]
  refine loop (fun p : LsS => match p with
   | .mk j j6 s' g m=>⟨[(0,.bx c 0),(3,.i .i64 ((25 - k:Nat):Int)),(5,.bx n 0),(8,.bx (n+2) 0),(9,.ds (Ab Aw v.items)),(10,.bx (n+4) 0),(11,.i .i64 j)],
    (n+4,.bx [.i .i64 5,.i .i64 0,.s ⟨#[]⟩,.rw (n+5) g j6.length,.e0])::(n+5,.rw g 5 (Ab Aw j6))::(n+2,.bx [.i .i64 0,.i .i64 0,.s ⟨#[]⟩,.e0,.e0])::(n,.bx [.s tn,.ds (Ab D2 tw)])::(c,.bx [.ds (Ab BB doc),.i .i64 0,.i .i64 0,.s ⟨#[]⟩,.e0,.e0,.b lit,.i .i64 s'.1,.i .i64 s'.2])::hp,m⟩)
   (fun p=>match p with | .mk j j6 s' g m=>j<=(v.items).length∧n+6<=m∧j6.length=j∧R=(j6++(Ku (Dt doc k lit tn tw) ((v.items).drop j) s').1,(Ku (Dt doc k lit tn tw) ((v.items).drop j) s').2)∧s'.1<=4097∧(s'.2=0->s'.1<=4096))
   (fun p=>match p with | .mk j j6 s' g m=>(v.items).length - j) (.mk 0 [] s 0 (n+6)) ?_ ?_ (fun p hj=>?_)
  .exact ⟨zw _,zv _,rfl,by rw [<-hR];rfl,hs,RN⟩
  .dsimp only
   refine (DL (c:=n+4) (i:=3) (m:=5) (cs:=[.i .i64 5,.i .i64 0,.s ⟨#[]⟩,.e0,.e0]) ?_ rfl).trans (AR ?_ (Az.sub (Az.cons ?_ (Az.cons ?_ (Az.cons ?_ (Az.cons ?_ (Az.cons ?_ (Az.base hf fun i hi hx=>?_))))))) (zna _))
   all_goals first
    | (simp only [zh,zm,or_false,not_or] at hx
       simp only [AA]
       repeat rw [iN (by omega)]
       done)
    | ((simp (disch:=omega) only [hc,go_sem])
       first | done | rfl | (simp;done))
  obtain ⟨j,j6,s',g,m⟩:=p
  obtain ⟨Cq,Be,At,Cl,CU,JI⟩:=hj
  have Lr:(Ab Aw j6).length=j6.length:=As _ _
  have Lq:(Ab Aw j6).take j6.length=Ab Aw j6:=z14 (by omega)
  dsimp only
  simp (disch:=omega) only [go_sem]
  refine Af (fun q=>?_) (fun q=>?_)
  .have q1:j<(v.items).length:=by
    have:=of_decide_eq_true (z2s.mp q).1
    first
     | exact z4c.1 this
     | (show j<1;omega)
   have q2:s'.2=0:=of_decide_eq_true (z2s.mp q).2
   obtain ⟨x,ex⟩:∃x,(v.items)[j]?=some x:=⟨_,zlg q1⟩
   have eg:=Aa Aw ex
   skip
   obtain ⟨xf,xr⟩:=hlx x (zla ex)
   obtain ⟨⟨f1,f2,f3⟩,f4⟩:=ih lit tn tw x s' FQ xf xr q2 (JI q2)
   rw [A2 ex,HX _ _ _ _ q2] at Cl
   obtain ⟨Y,hY⟩:=A7 (Dt doc k lit tn tw x s')
   rw [hY] at f1 f2 f3 f4 Cl
   have w1:IntKind.i64.wrap (((25 - k:Nat):Int)+1)=((26 - k:Nat):Int):=by
    have:=Ao (25 - k) (by omega)
    rw [this]
    congr 1
    omega
   have q1':¬j=(v.items).length:=by omega
   simp (disch:=omega) only [q1,Ad (Aa Aw ex),w1,go_sem]
   skip
   refine Au.w (ws:=[(c,BR doc lit Y.2)]) (S8 (s:=s') ?_ (by omega)) rfl (fun Am e=>f4 Am c _ ((e c (.inl (by omega))).trans ?_)) ?_
   case refine_3=>
    have u1:¬c=m+9:=by omega
    have u2:¬m+9=n:=by omega
    have u6:¬m+6=n:=by omega
    have u3:(j6.length+1)*80<=140737488355328:=by omega
    have u4:j6.length<=9223372036854775806:=by omega
    simp (disch:=omega) only [Lr,go_sem]
    refine ⟨⟨u1,u2⟩,u3,u4,.mk (j+1) (j6++[Y.1]) Y.2 (g+1) (m+30),⟨show j+1<=(v.items).length by omega,show n+6<=m+30 by omega,by show (j6++[Y.1]).length=j+1;simp;omega,by show R=_;rw [Cl];simp,f1,f2⟩,by show (v.items).length - (j+1)<(v.items).length - j;omega,?_⟩
    dsimp only
    refine AR ?_ (Az.sub (Az.cons ?_ (Az.cons ?_ (Az.cons ?_ (Az.cons ?_ (Az.cons ?_ (Az.base hf fun i hi hx=>?_))))))) (by omega)
    all_goals first
     | (simp only [zh,zm,or_false,not_or] at hx
        simp only [AA]
        repeat rw [iN (by omega)]
        done)
     | ((simp (disch:=omega) only [Lr,BR,Dp,Ao j (by omega),z16,z11,z1c,go_sem])
        first | done | rfl | (simp;done))
   all_goals
    simp only [BR]
    simp (disch:=omega) only [go_sem]
  .have Cl:R=(j6,s'):=by
    by_cases q2:s'.2=0
    .have:j=(v.items).length:=by
      simp [q2] at q
      first
       | omega
       | (have hj1':j<=1:=Cq;show j=1;omega)
     rw [this,zll] at Cl
     rw [Cl]
     simp [Ku]
    .rw [N7 _ _ _ q2] at Cl
     rw [Cl]
     simp
   subst Cl
   simp (disch:=omega) only [Lr,go_sem]
   exact BE (Ar _ _ _) fun j hj j1 => Ak _ _ fun e => j1 e.symm
 .rw [hl,iN k5] at lI
  subst lI
  simp (disch:=omega) only [hc,dF k5,go_sem]
  refine loop (fun p : LsS => match p with
   | .mk j j6 s' g m=>⟨[(0,.bx c 0),(3,.i .i64 ((25 - k:Nat):Int)),(5,.bx n 0),(8,.bx (n+2) 0),(9,.rw (n+3) 0 1),(10,.bx (n+4) 0),(11,.i .i64 j)],
    (n+4,.bx [.i .i64 5,.i .i64 0,.s ⟨#[]⟩,.rw (n+5) g j6.length,.e0])::(n+5,.rw g 5 (Ab Aw j6))::(n+2,.bx [.i .i64 0,.i .i64 0,.s ⟨#[]⟩,.e0,.e0])::(n,.bx [.s tn,.ds (Ab D2 tw)]) ::(n+3,.rw 0 5 [[.i .i64 v.k,.i .i64 v.n,.s v.s,.ds (Ab Aw v.items),.ds (Bq v.keys)]])::(c,.bx [.ds (Ab BB doc),.i .i64 0,.i .i64 0,.s ⟨#[]⟩,.e0,.e0,.b lit,.i .i64 s'.1,.i .i64 s'.2])::hp,m⟩)
   (fun p=>match p with | .mk j j6 s' g m=>j<=([v]).length∧n+6<=m∧j6.length=j∧R=(j6++(Ku (Dt doc k lit tn tw) (([v]).drop j) s').1,(Ku (Dt doc k lit tn tw) (([v]).drop j) s').2)∧s'.1<=4097∧(s'.2=0->s'.1<=4096))
   (fun p=>match p with | .mk j j6 s' g m=>([v]).length - j) (.mk 0 [] s 0 (n+6)) ?_ ?_ (fun p hj=>?_)
  .exact ⟨zw _,zv _,rfl,by rw [<-hR];rfl,hs,RN⟩
  .dsimp only
   refine (DL (c:=n+4) (i:=3) (m:=5) (cs:=[.i .i64 5,.i .i64 0,.s ⟨#[]⟩,.e0,.e0]) ?_ rfl).trans (AR ?_ (Az.sub (Az.cons ?_ (Az.cons ?_ (Az.cons ?_ (Az.cons ?_ (Az.cons ?_ (Az.cons ?_ (Az.base hf fun i hi hx=>?_)))))))) (zna _))
   all_goals first
    | (simp only [zh,zm,or_false,not_or] at hx
       simp only [AA]
       repeat rw [iN (by omega)]
       done)
    | ((simp (disch:=omega) only [hc,go_sem])
       first | done | rfl | (simp;done))
  obtain ⟨j,j6,s',g,m⟩:=p
  obtain ⟨Cq,Be,At,Cl,CU,JI⟩:=hj
  have Lr:(Ab Aw j6).length=j6.length:=As _ _
  have Lq:(Ab Aw j6).take j6.length=Ab Aw j6:=z14 (by omega)
  dsimp only
  simp (disch:=omega) only [go_sem]
  refine Af (fun q=>?_) (fun q=>?_)
  .have q1:j<([v]).length:=by
    have:=of_decide_eq_true (z2s.mp q).1
    first
     | exact z4c.1 this
     | (show j<1;omega)
   have q2:s'.2=0:=of_decide_eq_true (z2s.mp q).2
   obtain ⟨x,ex⟩:∃x,([v])[j]?=some x:=⟨_,zlg q1⟩
   have eg:=Aa Aw ex
   (have eg:([[AV.i .i64 v.k,.i .i64 v.n,.s v.s,.ds (Ab Aw v.items),.ds (Bq v.keys)]]:List (List AV))[j]?=some [AV.i .i64 x.k,.i .i64 x.n,.s x.s,.ds (Ab Aw x.items),.ds (Bq x.keys)]:=by rw [<-B3 v,<-B3 x];exact eg)
   obtain ⟨xf,xr⟩:=hlx x (zla ex)
   obtain ⟨⟨f1,f2,f3⟩,f4⟩:=ih lit tn tw x s' FQ xf xr q2 (JI q2)
   rw [A2 ex,HX _ _ _ _ q2] at Cl
   obtain ⟨Y,hY⟩:=A7 (Dt doc k lit tn tw x s')
   rw [hY] at f1 f2 f3 f4 Cl
   have w1:IntKind.i64.wrap (((25 - k:Nat):Int)+1)=((26 - k:Nat):Int):=by
    have:=Ao (25 - k) (by omega)
    rw [this]
    congr 1
    omega
   have q1':¬j=([v]).length:=by omega
   simp (disch:=omega) only [q1,true_and,w1,go_sem]
   (refine ⟨q1,?_⟩;rw [eg];(simp (disch:=omega) only [w1,go_sem]))
   refine Au.w (ws:=[(c,BR doc lit Y.2)]) (S8 (s:=s') ?_ (by omega)) rfl (fun Am e=>f4 Am c _ ((e c (.inl (by omega))).trans ?_)) ?_
   case refine_3=>
    have u1:¬c=m+9:=by omega
    have u2:¬m+9=n:=by omega
    have u6:¬m+6=n:=by omega
    have u3:(j6.length+1)*80<=140737488355328:=by omega
    have u4:j6.length<=9223372036854775806:=by omega
    simp (disch:=omega) only [Lr,go_sem]
    refine ⟨⟨u1,u6,u6,u2⟩,u3,u4,.mk (j+1) (j6++[Y.1]) Y.2 (g+1) (m+30),⟨show j+1<=([v]).length by omega,show n+6<=m+30 by omega,by show (j6++[Y.1]).length=j+1;simp;omega,by show R=_;rw [Cl];simp,f1,f2⟩,by show ([v]).length - (j+1)<([v]).length - j;omega,?_⟩
    dsimp only
    refine AR ?_ (Az.sub (Az.cons ?_ (Az.cons ?_ (Az.cons ?_ (Az.cons ?_ (Az.cons ?_ (Az.cons ?_ (Az.base hf fun i hi hx=>?_)))))))) (by omega)
    all_goals first
     | (simp only [zh,zm,or_false,not_or] at hx
        simp only [AA]
        repeat rw [iN (by omega)]
        done)
     | ((simp (disch:=omega) only [Lr,BR,Dp,Ao j (by omega),z16,z11,z1c,go_sem])
        first | done | rfl | (simp;done))
   all_goals
    simp only [BR]
    simp (disch:=omega) only [go_sem]
  .have Cl:R=(j6,s'):=by
    by_cases q2:s'.2=0
    .have:j=([v]).length:=by
      simp [q2] at q
      first
       | omega
       | (have hj1':j<=1:=Cq;show j=1;omega)
     rw [this,zll] at Cl
     rw [Cl]
     simp [Ku]
    .rw [N7 _ _ _ q2] at Cl
     rw [Cl]
     simp
   subst Cl
   simp (disch:=omega) only [Lr,go_sem]
   exact BE (Ar _ _ _) fun j hj j1 => Ak _ _ fun e => j1 e.symm
theorem Nu (l:List BG) (hl:l.length<=1000000000000) (i:Nat) (x:BG) (ei:l[i]?=some x) (hp:CH) (m:Nat):Ae prog 188 hp m [.ds (Ab AD l),.i .i64 i] (.b (decide (x.n∈(l.take i).map BG.n))):=by
 have Vt:i<l.length:=(List.getElem?_eq_some_iff.1 ei).1
 obtain ⟨R,hR⟩:=A7 (decide (x.n∈(l.take i).map BG.n))
 rw [hR]
 refine Al func188 (tA cc188) (tB cc188) (tC cc188) rfl fun hf=>?_;unfold ck188
 simp only [go_sem]
 refine loop (fun p:Nat×Nat=>⟨[(0,.ds (Ab AD l)),(1,.i .i64 i),(5,.i .i64 p.1)],hp,p.2⟩) (fun p=>p.1<=i∧m<=p.2∧R=decide (x.n∈((l.take i).drop p.1).map BG.n)) (fun p=>i - p.1) (0,m) ?_ ?_ (fun ⟨j,n⟩ hj=>?_)
 .exact ⟨by simp,by simp,hR.symm⟩
 .refine Dd ?_
  simp only [go_sem]
 dsimp only at hj
 obtain ⟨Cq,Be,At⟩:=hj
 simp (disch:=omega) only [go_sem]
 refine Af (fun q=>?_) (fun q=>?_)
 .have q:j<i:=by simp at q;omega
  have q2:j<l.length:=by omega
  obtain ⟨y,ey⟩:∃y,l[j]?=some y:=⟨l[j],by simp [q2]⟩
  have ey2:(l.take i)[j]?=some y:=by rw [List.getElem?_take,iP q];exact ey
  rw [A2 ey2] at At
  have At:R=decide (x.n∈y.n::((l.take i).drop (j+1)).map BG.n):=At
  simp (disch:=omega) only [q2,Vt,Ad (Aa AD ey),Ad (Aa AD ei),go_sem]
  refine Af (fun w=>?_) (fun w=>?_)
  .have w:y.n=x.n:=by simpa using w
   have:R=true:=by rw [At];simp [w]
   subst this
   simp (disch:=omega) only [Be,go_sem]
  .have w:¬y.n=x.n:=by simpa using w
   have w':¬x.n=y.n:=fun e=>w e.symm
   simp (disch:=omega) only [go_sem]
   refine ⟨(j+1,_),⟨by dsimp only;omega,by dsimp only;omega,by rw [At];simp [w']⟩,by dsimp only;omega,Dd ?_⟩
   simp (disch:=omega) only [Ao j (by omega),go_sem]
 .have q:j=i:=by simp at q;omega
  subst q
  have:R=false:=by rw [At];simp
  subst this
  simp (disch:=omega) only [Be,go_sem]
theorem R5 (doc:List Av) (k:Nat) (hk:k<=24) (ih:CoK doc k) (lit:Bool) (tn:qB) (tw:List Int) (v:Ag) (s:Bb) (FQ:tw.length<=1000000000) (hv:v.Fit) (hr:v.Rng) (hs:s.2=0) (RN:s.1<=4096)
 (hp:CH) (c n:Nat) (h:gc hp c=BR doc lit s):AO prog 189 hp n [.bx c 0,DW tn tw,vx v,.i .i64 ((26 - k:Nat):Int)] ([(c,BR doc lit (Dt doc k true tn tw v s).2)]++hp) n (vx (Dt doc k true tn tw v s).1):=by
 have DV:(∀k,n<=k->gc hp k=.no)->wsLt n [(c,BR doc lit (Dt doc k true tn tw v s).2)]:=fun hf=>F8 (Dw h hf)
 have hc:=h
 unfold BR at hc
 obtain ⟨⟨f1,f2,f3⟩,f4⟩:=ih true tn tw v s FQ hv hr hs RN
 obtain ⟨Y,hY⟩:=A7 (Dt doc k true tn tw v s)
 rw [hY] at f1 f2 f3 f4 DV ⊢
 refine Cp func189 (tA cc189) (tB cc189) (tC cc189) rfl DV fun hf=>?_;unfold ck189
 have l1:=Dw h hf
 simp (disch:=omega) only [hc,go_sem]
 have k1:¬n+11=c:=by omega
 refine ⟨k1,k1,?_⟩
 refine Ac.x (f4 _ c _ (Ar _ _ _)) ?_
 simp only [BR,zlh,zli]
 simp (disch:=omega) only [go_sem]
 try trace_state
 all_goals
  refine BE (Ar _ _ _) fun j hj j1=>?_
  repeat rw [Ak _ _ (by omega)]
theorem MI (is:List BG) (ks:List qB) (s:Bb):(Se is ks s).1=s.1:=by
 unfold Se
 induction ks generalizing s with
 |nil=>rfl
 |cons a ks ih=>
  rw [List.foldl_cons,ih]
  split<;>rfl
theorem W0 {is:List BG} {ks:List qB} {j:Nat} {a:qB} (s:Bb) (e:ks[j]?=some a):Se is (ks.take (j+1)) s=if (BY is a).isSome=true then Se is (ks.take j) s else Ce 22 (Se is (ks.take j) s):=by
 unfold Se
 rw [List.take_add_one,e,List.foldl_append]
 rfl
theorem SM {v:Ag} (hv:v.Fit) (hr:v.Rng) (k:qB):((AB v k).getD A8).Fit∧((AB v k).getD A8).Rng:=by
 cases h:AB v k with
 |none=>exact ⟨.mk _ (by show 0*80<=_;decide) (by show 0*16<=_;decide) (fun x (hx:x∈([]:List Ag))=>(by cases hx)),.mk _ (by show (-9223372036854775808:Int)<=0;decide) (by show (0:Int)<=_;decide) (fun x (hx:x∈([]:List Ag))=>(by cases hx))⟩
 |some y=>
  have hm:y∈v.items:=by
   unfold AB at h
   split at h
   .split at h
    .exact zla h
    .cases h
   .cases h
  exact ⟨hv.x hm,hr.x hm⟩
theorem K4 (j6:List Ag):Ab Aw j6++[[AV.i .i64 0,.i .i64 0,.s ⟨#[]⟩,.ds [],.ds []]]=Ab Aw (j6++[.mk 0 0 ⟨#[]⟩ [] []]):=by
 rw [<-Bd,B3]
 rfl
theorem X6 (lit:Bool) (Fl Fp:qB->List Int->Ag->Bb->Ag×Bb) (v:Ag) (pre l:List BG) (s:Bb) (h:s.2≠0):NP lit Fl Fp v pre l s=(([],[]),s):=by
 cases l with
 |nil=>rfl
 |cons x l=>rw [NP,iN h]
theorem Xa (l:List qB) (a:qB):Ab C3 l++[[AV.s a]]=Ab C3 (l++[a]):=Bd C3 l a
inductive KyS
 | mk (j n:Nat)
inductive ObS
 | mk (j:Nat) (q8:List qB) (j6:List Ag) (s:Bb) (g g2 n:Nat)
theorem OA (doc:List Av) (k:Nat) (MB:1<=k) (hk:k<=24) (ih:CoK doc k) (lit:Bool) (t:Av) (is:List BG) (ht:t.inputs=Ab AD is) (NN:is.length<=16) (Is:∀x∈is,Hi x∧x.n.size<=64) (v:Ag) (s:Bb) (hv:v.Fit) (hr:v.Rng) (hs:s.2=0) (RN:s.1<=4096)
 (hp:CH) (c n:Nat) (h:gc hp c=BR doc lit s):AO prog 186 hp n [.bx c 0,Lw t,vx v,.i .i64 ((25 - k:Nat):Int)] ([(c,BR doc lit (PW lit (Dt doc k lit) (Dt doc k true) is v s).2)]++hp) n (vx (PW lit (Dt doc k lit) (Dt doc k true) is v s).1):=by
 have DV : (∀ k, n <= k -> gc hp k = .no) -> wsLt n [(c, BR doc lit (PW lit (Dt doc k lit) (Dt doc k true) is v s).2)] := fun hf => F8 (Dw h hf)
 have hc:=h
 unfold BR at hc
 have hF:=fun (Am:CH) (e:gc Am c=gc hp c) (n':Nat)=>CK (hp:=Am) (e.trans h) 23 n'
 have Ir:=fun (s':Bb) (Am:CH) (e:gc Am c=BR doc lit s') (e2:Int) (n':Nat)=>CK (hp:=Am) e e2 n'
 obtain ⟨RR,AC⟩:=A7 (PW lit (Dt doc k lit) (Dt doc k true) is v s)
 rw [AC] at DV ⊢
 unfold PW at AC
 simp only [Lw]
 rw [ht]
 have NM:=hv.l
 refine Cp func186 (tA cc186) (tB cc186) (tC cc186) rfl DV fun hf=>?_;unfold ck186
 have l1:=Dw h hf
 by_cases k6:v.k=6
 case neg=>
  rw [iN k6] at AC
  subst AC
  simp (disch:=omega) only [hc,dF k6,go_sem]
  refine Ac.x (hF _ (by repeat rw [Ak _ _ (by omega)]) _) ?_
  simp (disch:=omega) only [go_sem]
  all_goals
   refine BE (Ar _ _ _) fun j hj j1=>?_
   try simp only [zlh,zli]
   repeat rw [Ak _ _ (by omega)]
   try rfl
 rw [iP k6] at AC
 simp (disch:=omega) only [hc,dT k6,go_sem]
 refine loop (fun p : KyS => match p with
  | .mk j m=>⟨[(0,.bx c 0),(3,.i .i64 ((25 - k:Nat):Int)),(5,.bx n 0),(6,.bx (n+1) 0),(8,.bx (n+2) 0),(9,.i .i64 j)],
   (n+2,.bx [.i .i64 0,.i .i64 0,.s ⟨#[]⟩,.e0,.e0])::(n+1,.bx [.i .i64 v.k,.i .i64 v.n,.s v.s,.ds (Ab Aw v.items),.ds (Bq v.keys)])::(n,.bx [.i .i64 t.k,.s t.n,.ds t.impl,.ds t.dirs,.ds (Ab Bu t.fields),.ds t.members,.ds (Ab AD is)]) ::
   (c,.bx [.ds (Ab BB doc),.i .i64 0,.i .i64 0,.s ⟨#[]⟩,.e0,.e0,.b lit,.i .i64 (Se is (v.keys.take j) s).1,.i .i64 (Se is (v.keys.take j) s).2])::hp,m⟩)
  (fun p=>match p with | .mk j m=>j<=v.keys.length∧n+3<=m) (fun p=>match p with | .mk j m=>v.keys.length - j) (.mk 0 (n+3)) ?_ ?_ (fun p hj=>?_)
 .exact ⟨zw _,zv _⟩
 .dsimp only
  refine AR ?_ (Az.sub (Az.cons ?_ (Az.cons ?_ (Az.cons ?_ (Az.cons ?_ (Az.base hf fun i hi hx=>?_)))))) (zna _)
  all_goals first
   | (simp only [zh,zm,or_false,not_or] at hx
      simp only [AA]
      repeat rw [iN (by omega)]
      done)
   | ((simp (disch:=omega) only [hc,go_sem])
      first | done | rfl | (simp;done))
 obtain ⟨j,m⟩:=p
 obtain ⟨Cq,Be⟩:=hj
 dsimp only
 simp (disch:=omega) only [go_sem]
 refine Af (fun q=>?_) (fun q=>?_)
 .have q:j<v.keys.length:=by simpa using q
  obtain ⟨a,ea⟩:∃x,v.keys[j]?=some x:=⟨_,zlg q⟩
  have hI:=D7 is (by omega) a
  have e1:=W0 (is:=is) s ea
  obtain ⟨X,hX⟩:=A7 (BY is a)
  rw [hX] at hI e1
  unfold PK at hI
  obtain ⟨y,hy⟩:=A7 (X.getD UH)
  rw [hy] at hI
  obtain ⟨xb,hxb⟩:=A7 (X.isSome)
  rw [hxb] at hI e1
  simp only [AD] at hI
  obtain ⟨S,hS⟩:=A7 (Se is (v.keys.take j) s)
  rw [hS] at e1
  have u2:¬m+10=n:=by omega
  have u3:¬m+11=n:=by omega
  simp (disch:=omega) only [q,Ad (Aa C3 ea),hS,go_sem]
  refine Au.f (fun _ _ _=>hI _ _) ?_
  cases xb with
  |true=>
   rw [iP rfl] at e1
   simp (disch:=omega) only [q,Ad (Aa C3 ea),hS,go_sem]
   refine ⟨⟨u2,u3⟩,?_⟩
   refine ⟨.mk (j+1) (m+40),⟨show j+1<=v.keys.length by omega,show n+3<=m+40 by omega⟩,by show v.keys.length - (j+1)<v.keys.length - j;omega,?_⟩
   dsimp only
   refine AR ?_ (Az.sub (Az.cons ?_ (Az.cons ?_ (Az.cons ?_ (Az.cons ?_ (Az.base hf fun i hi hx=>?_)))))) (by omega)
   all_goals first
    | (simp only [zh,zm,or_false,not_or] at hx
       simp only [AA]
       repeat rw [iN (by omega)]
       done)
    | ((simp (disch:=omega) only [Ao j (by omega),e1,BR,go_sem])
       first | done | rfl | (simp;done))
  |false=>
   rw [iN (by decide)] at e1
   simp (disch:=omega) only [q,Ad (Aa C3 ea),hS,go_sem]
   refine ⟨⟨u2,u3⟩,?_⟩
   refine Ac.x (Ir S _ (by (repeat rw [Ak _ _ (by omega)]);exact Ar _ _ _) 22 _) ?_
   simp only [zlh,zli]
   simp (disch:=omega) only [go_sem]
   refine ⟨.mk (j+1) (m+40),⟨show j+1<=v.keys.length by omega,show n+3<=m+40 by omega⟩,by show v.keys.length - (j+1)<v.keys.length - j;omega,?_⟩
   dsimp only
   refine AR ?_ (Az.sub (Az.cons ?_ (Az.cons ?_ (Az.cons ?_ (Az.cons ?_ (Az.base hf fun i hi hx=>?_)))))) (by omega)
   all_goals first
    | (simp only [zh,zm,or_false,not_or] at hx
       simp only [AA]
       repeat rw [iN (by omega)]
       done)
    | ((simp (disch:=omega) only [Ao j (by omega),e1,BR,go_sem])
       first | done | rfl | (simp;done))
 have q:j=v.keys.length:=by simp at q;omega
 subst q
 rw [List.take_length]
 have MC:=MI is v.keys s
 obtain ⟨S,hS⟩:=A7 (Se is v.keys s)
 rw [hS] at MC AC ⊢
 simp (disch:=omega) only [go_sem]
 have hS0 : S.2 = 0 -> S.1 <= 4096 := fun _ => by omega
 obtain ⟨Q,hQ⟩:=A7 (NP lit (Dt doc k lit) (Dt doc k true) v [] is S)
 rw [hQ] at AC
 have AC:(Ag.mk 6 0 ⟨#[]⟩ Q.1.2 Q.1.1,Q.2)=RR:=AC
 subst AC
 refine loop (fun p : ObS => match p with
  | .mk j q8 j6 s' g g2 q=>⟨[(0,.bx c 0),(3,.i .i64 ((25 - k:Nat):Int)),(5,.bx n 0),(6,.bx (n+1) 0),(8,.bx (n+2) 0),(12,.bx m 0),(13,.i .i64 j)],
   (m,.bx [.i .i64 6,.i .i64 0,.s ⟨#[]⟩,.rw (m+1) g j6.length,.rw (m+2) g2 q8.length])::(m+1,.rw g 5 (Ab Aw j6))::(m+2,.rw g2 1 (Bq q8))::(n+2,.bx [.i .i64 0,.i .i64 0,.s ⟨#[]⟩,.e0,.e0])::(n+1,.bx [.i .i64 v.k,.i .i64 v.n,.s v.s,.ds (Ab Aw v.items),.ds (Bq v.keys)])::(n,.bx [.i .i64 t.k,.s t.n,.ds t.impl,.ds t.dirs,.ds (Ab Bu t.fields),.ds t.members,.ds (Ab AD is)]) ::
   (c,.bx [.ds (Ab BB doc),.i .i64 0,.i .i64 0,.s ⟨#[]⟩,.e0,.e0,.b lit,.i .i64 s'.1,.i .i64 s'.2])::hp,q⟩)
  (fun p=>match p with | .mk j q8 j6 s' g g2 q=>j<=is.length∧m+3<=q∧j6.length=q8.length∧q8.length<=j∧Q=((q8++(NP lit (Dt doc k lit) (Dt doc k true) v (is.take j) (is.drop j) s').1.1,j6++(NP lit (Dt doc k lit) (Dt doc k true) v (is.take j) (is.drop j) s').1.2),(NP lit (Dt doc k lit) (Dt doc k true) v (is.take j) (is.drop j) s').2)∧s'.1<=4097∧(s'.2=0->s'.1<=4096))
  (fun p=>match p with | .mk j q8 j6 s' g g2 q=>is.length - j) (.mk 0 [] [] S 0 0 (m+3)) ?_ ?_ (fun p hj=>?_)
 .exact ⟨zw _,zv _,rfl,zv _,by rw [<-hQ];rfl,by omega,hS0⟩
 .dsimp only
  refine ((DL (c:=m) (i:=3) (m:=5) (cs:=[.i .i64 6,.i .i64 0,.s ⟨#[]⟩,.e0,.e0]) ?_ rfl).trans (DL (c:=m) (i:=4) (m:=1) (cs:=[.i .i64 6,.i .i64 0,.s ⟨#[]⟩,.rw (m+1) 0 0,.e0]) ?_ rfl)).trans (AR ?_ (Az.sub (Az.cons ?_ (Az.cons ?_ (Az.cons ?_ (Az.cons ?_ (Az.cons ?_ (Az.cons ?_ (Az.cons ?_ (Az.base hf fun i hi hx=>?_))))))))) (zna _))
  all_goals first
   | (simp only [zh,zm,or_false,not_or] at hx
      simp only [AA]
      repeat rw [iN (by omega)]
      done)
   | ((simp (disch:=omega) only [hc,go_sem])
      first | done | rfl | (simp;done))
 obtain ⟨j,q8,j6,s',g,g2,m2⟩:=p
 obtain ⟨Cq,Be,At,Cl,CU,JI,hj7⟩:=hj
 have Lr:(Ab Aw j6).length=j6.length:=As _ _
 have Vv:(Bq q8).length=q8.length:=As _ _
 dsimp only
 simp (disch:=omega) only [go_sem]
 refine Af (fun q=>?_) (fun q=>?_)
 case' refine_2=>
  have hE:NP lit (Dt doc k lit) (Dt doc k true) v (is.take j) (is.drop j) s'=(([],[]),s'):=by
   by_cases q2:s'.2=0
   .have:j=is.length:=by simp [q2] at q;omega
    rw [this,zll]
    rfl
   .exact X6 _ _ _ _ _ _ _ q2
  have CU:Q=((q8,j6),s'):=by rw [CU,hE];simp
  subst CU
  simp (disch:=omega) only [Lr,Vv,go_sem]
  exact BE (Ar _ _ _) fun j hj j1 => Ak _ _ fun e => j1 e.symm
 have q1:j<is.length:=z4c.1 (of_decide_eq_true (z2s.mp q).1)
 have q2:s'.2=0:=of_decide_eq_true (z2s.mp q).2
 obtain ⟨x,ex⟩:∃x,is[j]?=some x:=⟨_,zlg q1⟩
 obtain ⟨⟨x1,⟨x2,x3⟩,x4⟩,x5⟩:=Is x (zla ex)
 have hEa:=Nu is (by omega) j x ex
 have hG:=J8 v hv x.n
 have tk:is.take j++[x]=is.take (j+1):=Bc ex
 rw [A2 ex,NP,iP q2,tk] at CU
 simp (disch:=omega) only [q1,Ad (Aa AD ex),go_sem]
 refine Ac.f (hEa _ _) ?_
 by_cases w1:x.n∈(is.take j).map BG.n
 .rw [iP w1] at CU
  simp (disch:=omega) only [dT w1,go_sem]
  refine ⟨.mk (j+1) (q8) (j6) (s') (g) (g2) (m2+80),⟨show j+1<=is.length by omega,show m+3<=m2+80 by omega,by show z1z _=z1z _;simp [At],by show z1z _<=j+1;first | omega | (simp;omega),by show Q=_;rw [CU];try simp,JI,hj7⟩,by show is.length - (j+1)<is.length - j;omega,?_⟩
  dsimp only
  refine AR ?_ (Az.sub (Az.cons ?_ (Az.cons ?_ (Az.cons ?_ (Az.cons ?_ (Az.cons ?_ (Az.cons ?_ (Az.cons ?_ (Az.base hf fun i hi hx=>?_))))))))) (by omega)
  all_goals first
   | (simp only [zh,zm,or_false,not_or] at hx
      simp only [AA]
      repeat rw [iN (by omega)]
      done)
   | ((simp (disch:=omega) only [Lr,Vv,BR,Dp,Xa,Ao j (by omega),z16,z11,z1c,go_sem])
      first | done | exact K4 j6 | (rw [<-Bd,B3];rfl) | rfl | (simp;done))
 rw [iN w1] at CU
 simp (disch:=omega) only [dF w1,go_sem]
 refine Ac.f (hG _ _) ?_
 have hyf:((AB v x.n).getD A8).Fit∧((AB v x.n).getD A8).Rng:=SM hv hr x.n
 obtain ⟨o,ho⟩:=A7 (AB v x.n)
 rw [ho] at CU hyf ⊢
 unfold Nc
 obtain ⟨y,hy⟩:=A7 (o.getD A8)
 rw [hy] at CU hyf ⊢
 obtain ⟨ob,hob⟩:=A7 (o.isSome)
 rw [hob] at CU ⊢
 have hM:=fun (Am:CH) (e:gc Am c=BR doc lit s') (n':Nat)=>HO (hp:=Am) e y n'
 obtain ⟨mb,hmb⟩:=A7 ((lit&&decide (y.k=7)))
 rw [hmb] at CU
 simp only [hmb] at hM
 have wl:IntKind.i64.wrap (((25 - k:Nat):Int)+1)=((26 - k:Nat):Int):=by
  have:=Ao (25 - k) (by omega)
  rw [this]
  congr 1
  omega
 have u3:(j6.length+1)*80<=140737488355328:=by omega
 have u4:j6.length<=9223372036854775806:=by omega
 have u5:(q8.length+1)*16<=140737488355328:=by omega
 have u6:q8.length<=9223372036854775806:=by omega
 simp (disch:=omega) only [go_sem]
 refine AH.f (fun _=>hM _ (by (repeat rw [Ak _ _ (by omega)]);exact Ar _ _ _) _) ?_
 simp (disch:=omega) only [go_sem]
 refine Af (fun w=>?_) (fun w=>?_)
 .have wA:ob=true∧mb=false:=by simpa using w
  rw [iP wA] at CU
  obtain ⟨⟨f1,f2,f3⟩,f4⟩:=ih lit x.tn x.tw y s' (by omega) hyf.1 hyf.2 q2 (hj7 q2)
  obtain ⟨Y,hY⟩:=A7 (Dt doc k lit x.tn x.tw y s')
  rw [hY] at f1 f2 f3 f4 CU
  dsimp only at CU
  simp (disch:=omega) only [wl,go_sem]
  refine Ac.x (f4 _ c _ (by (repeat rw [Ak _ _ (by omega)]);exact Ar _ _ _)) ?_
  simp only [BR,zlh,zli]
  simp (disch:=omega) only [Lr,Vv,u3,u4,u5,u6,true_and,go_sem]
  refine ⟨.mk (j+1) (q8++[x.n]) (j6++[Y.1]) (Y.2) (g+1) (g2+1) (m2+80),⟨show j+1<=is.length by omega,show m+3<=m2+80 by omega,by show z1z _=z1z _;simp [At],by show z1z _<=j+1;first | omega | (simp;omega),by show Q=_;rw [CU];try simp,f1,f2⟩,by show is.length - (j+1)<is.length - j;omega,?_⟩
  dsimp only
  refine AR ?_ (Az.sub (Az.cons ?_ (Az.cons ?_ (Az.cons ?_ (Az.cons ?_ (Az.cons ?_ (Az.cons ?_ (Az.cons ?_ (Az.base hf fun i hi hx=>?_))))))))) (by omega)
  all_goals first
   | (simp only [zh,zm,or_false,not_or] at hx
      simp only [AA]
      repeat rw [iN (by omega)]
      done)
   | ((simp (disch:=omega) only [Lr,Vv,BR,Dp,Xa,Ao j (by omega),z16,z11,z1c,go_sem])
      first | done | exact K4 j6 | (rw [<-Bd,B3];rfl) | rfl | (simp;done))
 have wA:¬(ob=true∧mb=false):=by intro e;simp [e.1,e.2] at w
 rw [iN wA] at CU
 simp (disch:=omega) only [go_sem]
 refine Af (fun w3=>?_) (fun w3=>?_)
 .rw [iP w3] at CU
  obtain ⟨⟨f1,f2,f3⟩,f4⟩:=ih true x.tn x.tw x.d s' (by omega) x2 x3 q2 (hj7 q2)
  have hP:=fun (Am:CH) (e:gc Am c=BR doc lit s') (n':Nat)=>R5 doc k hk ih lit x.tn x.tw x.d s' (by omega) x2 x3 q2 (hj7 q2) Am c n' e
  obtain ⟨Y,hY⟩:=A7 (Dt doc k true x.tn x.tw x.d s')
  rw [hY] at f1 f2 f3 CU
  simp only [hY] at hP
  dsimp only at CU
  simp (disch:=omega) only [wl,go_sem]
  refine Ac.x (hP _ (by (repeat rw [Ak _ _ (by omega)]);exact Ar _ _ _) _) ?_
  simp only [BR,zlh,zli]
  simp (disch:=omega) only [Lr,Vv,u3,u4,u5,u6,true_and,go_sem]
  refine ⟨.mk (j+1) (q8++[x.n]) (j6++[Y.1]) (Y.2) (g+1) (g2+1) (m2+80),⟨show j+1<=is.length by omega,show m+3<=m2+80 by omega,by show z1z _=z1z _;simp [At],by show z1z _<=j+1;first | omega | (simp;omega),by show Q=_;rw [CU];try simp,f1,f2⟩,by show is.length - (j+1)<is.length - j;omega,?_⟩
  dsimp only
  refine AR ?_ (Az.sub (Az.cons ?_ (Az.cons ?_ (Az.cons ?_ (Az.cons ?_ (Az.cons ?_ (Az.cons ?_ (Az.cons ?_ (Az.base hf fun i hi hx=>?_))))))))) (by omega)
  all_goals first
   | (simp only [zh,zm,or_false,not_or] at hx
      simp only [AA]
      repeat rw [iN (by omega)]
      done)
   | ((simp (disch:=omega) only [Lr,Vv,BR,Dp,Xa,Ao j (by omega),z16,z11,z1c,go_sem])
      first | done | exact K4 j6 | (rw [<-Bd,B3];rfl) | rfl | (simp;done))
 rw [iN (by simp [w3])] at CU
 have hN:=DT x.tn x.tw (by omega)
 simp (disch:=omega) only [go_sem]
 refine Ac.f (hN _ _) ?_
 simp (disch:=omega) only [go_sem]
 refine Af (fun w4=>?_) (fun w4=>?_)
 .rw [iP w4] at CU
  dsimp only at CU
  simp (disch:=omega) only [go_sem]
  refine Ac.x (Ir s' _ (by (repeat rw [Ak _ _ (by omega)]);exact Ar _ _ _) 22 _) ?_
  simp only [BR,zlh,zli]
  simp (disch:=omega) only [Lr,Vv,u3,u4,u5,u6,true_and,go_sem]
  refine ⟨.mk (j+1) (q8++[x.n]) (j6++[A8]) (Ce 22 s') (g+1) (g2+1) (m2+80),⟨show j+1<=is.length by omega,show m+3<=m2+80 by omega,by show z1z _=z1z _;simp [At],by show z1z _<=j+1;first | omega | (simp;omega),by show Q=_;rw [CU];try simp,JI,fun e=>absurd e (by simp [Ce,q2])⟩,by show is.length - (j+1)<is.length - j;omega,?_⟩
  dsimp only
  refine AR ?_ (Az.sub (Az.cons ?_ (Az.cons ?_ (Az.cons ?_ (Az.cons ?_ (Az.cons ?_ (Az.cons ?_ (Az.cons ?_ (Az.base hf fun i hi hx=>?_))))))))) (by omega)
  all_goals first
   | (simp only [zh,zm,or_false,not_or] at hx
      simp only [AA]
      repeat rw [iN (by omega)]
      done)
   | ((simp (disch:=omega) only [Lr,Vv,BR,Dp,Xa,Ao j (by omega),z16,z11,z1c,go_sem])
      first | done | exact K4 j6 | (rw [<-Bd,B3];rfl) | rfl | (simp;done))
 .rw [iN (by simp [w4])] at CU
  simp (disch:=omega) only [go_sem]
  refine ⟨.mk (j+1) (q8) (j6) (s') (g) (g2) (m2+80),⟨show j+1<=is.length by omega,show m+3<=m2+80 by omega,by show z1z _=z1z _;simp [At],by show z1z _<=j+1;first | omega | (simp;omega),by show Q=_;rw [CU];try simp,JI,hj7⟩,by show is.length - (j+1)<is.length - j;omega,?_⟩
  dsimp only
  refine AR ?_ (Az.sub (Az.cons ?_ (Az.cons ?_ (Az.cons ?_ (Az.cons ?_ (Az.cons ?_ (Az.cons ?_ (Az.cons ?_ (Az.base hf fun i hi hx=>?_))))))))) (by omega)
  all_goals first
   | (simp only [zh,zm,or_false,not_or] at hx
      simp only [AA]
      repeat rw [iN (by omega)]
      done)
   | ((simp (disch:=omega) only [Lr,Vv,BR,Dp,Xa,Ao j (by omega),z16,z11,z1c,go_sem])
      first | done | exact K4 j6 | (rw [<-Bd,B3];rfl) | rfl | (simp;done))
