/- Proof. Conditions: none. -/
import Derived.Test.YtgfidgoefioigaaGreatDoorIj41
noncomputable section
open List renaming mem_cons->zh,not_mem_nil->zf,take_of_length_le->z10,length_append->zu,length_cons->z12,length_nil->z1e,length->z1y
open Nat renaming zero_le->zt,le_refl->zx
open Bool renaming and_eq_true_iff->z2p
open Int renaming ofNat_lt->z4u
open Go.Proofs.Tryz
open List renaming mem_of_getElem?->zla,getElem?_eq_getElem->zlg,cons_append->zlh,nil_append->zli,drop_length->zll
open Nat renaming le_refl->zna
namespace Go.Proofs.YtgfidgoefioigaaGreatDoor
open Go.Eng
set_option linter.all false
set_option maxRecDepth 20000
set_option maxHeartbeats 2000000
def Lf (F:Ag->Be->Ag×Be):List Ag->Be->List Ag×Be
 | [],s=>([],s)
 |x::l,s=>if s.2=0 then ((F x s).1::(Lf F l (F x s).2).1,(Lf F l (F x s).2).2) else ([],s)
theorem On (F:Ag->Be->Ag×Be) (l:List Ag) (s:Be) (h:s.2≠0):Lf F l s=([],s):=by
 cases l with
 |nil=>rfl
 |cons x l=>unfold Lf;rw [iN h]
theorem I1 (F:Ag->Be->Ag×Be) (x:Ag) (l:List Ag) (s:Be) (h:s.2=0):Lf F (x::l) s=((F x s).1::(Lf F l (F x s).2).1,(Lf F l (F x s).2).2):=by
 show (if s.2=0 then _ else _)=_
 rw [iP h]
def UA (v:Ag):List Ag:=if v.k=5 then v.items else [v]
def lsE (F:Ag->Be->Ag × Be) (v:Ag) (s:Be):Ag × Be:=(.mk 5 0 ⟨#[]⟩ (Lf F (UA v) s).1 [],(Lf F (UA v) s).2)
def O8 (lit:Bool) (Fl Fp:qB->List Int->Ag->Be->Ag×Be) (v:Ag):List BN->List BN->Be->(List qB×List Ag)×Be
 |_,[],s=>(([],[]),s)
 |pre,x::r,s=>
  if s.2=0 then
   if x.n∈pre.map BN.n then O8 lit Fl Fp v (pre++[x]) r s
   else if (AA v x.n).isSome=true∧(lit&&decide (((AA v x.n).getD A6).k=7))=false then
    let p:=Fl x.tn x.tw ((AA v x.n).getD A6) s
    let q:=O8 lit Fl Fp v (pre++[x]) r p.2
    ((x.n::q.1.1,p.1::q.1.2),q.2)
   else if x.has=true then
    let p:=Fp x.tn x.tw x.d s
    let q:=O8 lit Fl Fp v (pre++[x]) r p.2
    ((x.n::q.1.1,p.1::q.1.2),q.2)
   else if Gk x.tw=true then
    let q:=O8 lit Fl Fp v (pre++[x]) r (Cn 22 s)
    ((x.n::q.1.1,A6::q.1.2),q.2)
   else O8 lit Fl Fp v (pre++[x]) r s
  else (([],[]),s)
def SG (is:List BN) (ks:List qB) (s:Be):Be:=ks.foldl (fun s k=>if (Cd is k).isSome=true then s else Cn 22 s) s
def Qu (lit:Bool) (Fl Fp:qB->List Int->Ag->Be->Ag×Be) (is:List BN) (v:Ag) (s:Be):Ag×Be :=
 if v.k=6 then
  let q:=O8 lit Fl Fp v [] is (SG is v.keys s)
  (.mk 6 0 ⟨#[]⟩ q.1.2 q.1.1,q.2)
 else (A6,Cn 23 s)
def D6 (doc:List Aw):Nat->Bool->qB->List Int->Ag->Be->Ag×Be
 | 0,_,_,_,_,s=>(A6,s)
 |k+1,lit,tn,tw,v0,s=>
  if JF doc tn=false then (A6,Cn 10 s) else
  let v:=if lit=true∧v0.k=7 then A6 else v0
  let s1:=HC (25 - k) s
  if s1.2≠0 then (A6,s1) else
  if v.k=0 then (A6,if Gk tw=true then Cn 23 s1 else s1) else
  if Cu tw=true then lsE (D6 doc k lit tn (DM tw)) v s1 else
  if BU tn=true then Q2 tn v s1 else
  if ((Az doc tn).getD Dz).k=4 then enE lit ((Az doc tn).getD Dz) v s1 else
  Qu lit (D6 doc k lit) (D6 doc k true) (Bm ((Az doc tn).getD Dz).inputs) v s1
def CoK (doc:List Aw) (k:Nat):Prop:=∀(lit:Bool) (tn:qB) (tw:List Int) (v:Ag) (s:Be),tw.length<=1000000000->v.Fit->v.Rng->s.2=0->s.1<=4096 ->
 ((D6 doc k lit tn tw v s).2.1<=4097∧((D6 doc k lit tn tw v s).2.2=0->(D6 doc k lit tn tw v s).2.1<=4096)∧(D6 doc k lit tn tw v s).1.Fit) ∧
 ∀(hp:CH) (c n:Nat),gc hp c=BZ doc lit s->AU prog 176 hp n [.bx c 0,D1 tn tw,vx v,.i .i64 ((26 - k:Nat):Int)] ([(c,BZ doc lit (D6 doc k lit tn tw v s).2)]++hp) n (vx (D6 doc k lit tn tw v s).1)
theorem Tk (F:Ag->Be->Ag×Be):∀(l:List Ag) (s:Be),(Lf F l s).1.length<=l.length
 | [],s=>by simp [Lf]
 |x::l,s=>by
  by_cases h:s.2=0
  .rw [I1 F x l s h]
   have:=Tk F l (F x s).2
   simp
   exact this
  .rw [On F _ s h];simp
theorem Tb {hp:CH} {n0 c:Nat} {doc:List Aw} {lit:Bool} {s s':Be} (h:gc hp c=BZ doc lit s) (h1:c<n0):JQ hp n0 (keys [(c,BZ doc lit s')]) [(c,BZ doc lit s')]:=by
 refine ⟨h1,by rw [h];trivial,?_,trivial⟩
 exact ⟨rfl,rfl,rfl,rfl,rfl,rfl,rfl,rfl,rfl,trivial⟩
inductive LsS
 | mk (j:Nat) (j5:List Ag) (s:Be) (g n:Nat)
theorem U0 (doc:List Aw) (k:Nat) (hk1:1<=k) (hk:k<=24) (ih:CoK doc k) (lit:Bool) (tn:qB) (tw:List Int) (v:Ag) (s:Be) (DG:tw.length<=1000000000) (hv:v.Fit) (hr:v.Rng) (hs:s.1<=4097) (Sr:s.2=0->s.1<=4096)
 (hp:CH) (c n:Nat) (h:gc hp c=BZ doc lit s):AU prog 183 hp n [.bx c 0,D1 tn tw,vx v,.i .i64 ((25 - k:Nat):Int)] ([(c,BZ doc lit (lsE (D6 doc k lit tn tw) v s).2)]++hp) n (vx (lsE (D6 doc k lit tn tw) v s).1):=by
 have Dg : (∀ k, n <= k -> gc hp k = .no) -> wsLt n [(c, BZ doc lit (lsE (D6 doc k lit tn tw) v s).2)] := fun hf => FSw (DD h hf)
 have hc:=h
 unfold BZ at hc
 obtain ⟨l,hl⟩:=A5 (UA v)
 have hlI:l.length*80<=140737488355327:=by rw [<-hl];unfold UA;split;exact hv.i;simp
 have hlx:∀x∈l,x.Fit∧x.Rng:=by
  rw [<-hl];unfold UA
  split
  .exact fun x hx => ⟨hv.x hx, hr.x hx⟩
  .intro x hx;simp at hx;subst hx;exact ⟨hv,hr⟩
 obtain ⟨R,hR⟩:=A5 (Lf (D6 doc k lit tn tw) l s)
 unfold lsE at Dg ⊢
 rw [hl,hR] at Dg ⊢
 have lI:UA v=if v.k=5 then v.items else [v]:=rfl
 refine BR func183 (tA cc183) (tB cc183) (tC cc183) rfl Dg fun hf=>?_;unfold ck183
 have l1:=DD h hf
 by_cases k5:v.k=5
 .rw [hl,iP k5] at lI
  subst lI
  simp (disch:=omega) only [hc,dT k5,go_sem]
  refine loop (fun p : LsS => match p with
   | .mk j j5 s' g m=>⟨[(0,.bx c 0),(3,.i .i64 ((25 - k:Nat):Int)),(5,.bx n 0),(8,.bx (n+2) 0),(9,.ds (Ab Ar v.items)),(10,.bx (n+4) 0),(11,.i .i64 j)],
    (n+4,.bx [.i .i64 5,.i .i64 0,.s ⟨#[]⟩,.rw (n+5) g j5.length,.e0])::(n+5,.rw g 5 (Ab Ar j5))::(n+2,.bx [.i .i64 0,.i .i64 0,.s ⟨#[]⟩,.e0,.e0])::(n,.bx [.s tn,.ds (Ab D0 tw)])::(c,.bx [.ds (Ab B8 doc),.i .i64 0,.i .i64 0,.s ⟨#[]⟩,.e0,.e0,.b lit,.i .i64 s'.1,.i .i64 s'.2])::hp,m⟩)
   (fun p=>match p with | .mk j j5 s' g m=>j<=(v.items).length∧n+6<=m∧j5.length=j∧R=(j5++(Lf (D6 doc k lit tn tw) ((v.items).drop j) s').1,(Lf (D6 doc k lit tn tw) ((v.items).drop j) s').2)∧s'.1<=4097∧(s'.2=0->s'.1<=4096))
   (fun p=>match p with | .mk j j5 s' g m=>(v.items).length - j) (.mk 0 [] s 0 (n+6)) ?_ ?_ (fun p hj=>?_)
  .exact ⟨zt _,zx _,rfl,by rw [<-hR];rfl,hs,Sr⟩
  .dsimp only
   refine (Co (c:=n+4) (i:=3) (m:=5) (cs:=[.i .i64 5,.i .i64 0,.s ⟨#[]⟩,.e0,.e0]) ?_ rfl).trans (AP ?_ (At.sub (At.cons ?_ (At.cons ?_ (At.cons ?_ (At.cons ?_ (At.cons ?_ (At.base hf fun i hi hx=>?_))))))) (zna _))
   all_goals first
    | (simp only [zh,zf,or_false,not_or] at hx
       simp only [A8]
       repeat rw [iN (by omega)]
       done)
    | ((simp (disch:=omega) only [hc,go_sem])
       first | done | rfl | (simp;done))
  obtain ⟨j,j5,s',g,m⟩:=p
  obtain ⟨Cg,Bc,As,Ct,Dh,Kv⟩:=hj
  have LW:(Ab Ar j5).length=j5.length:=Ao _ _
  have LV:(Ab Ar j5).take j5.length=Ab Ar j5:=z10 (by omega)
  dsimp only
  simp (disch:=omega) only [go_sem]
  refine Ae (fun q=>?_) (fun q=>?_)
  .have q1:j<(v.items).length:=by
    have:=of_decide_eq_true (z2p.mp q).1
    first
     | exact z4u.1 this
     | (show j<1;omega)
   have q2:s'.2=0:=of_decide_eq_true (z2p.mp q).2
   obtain ⟨x,ex⟩:∃x,(v.items)[j]?=some x:=⟨_,zlg q1⟩
   have eg:=Aa Ar ex
   skip
   obtain ⟨xf,xr⟩:=hlx x (zla ex)
   obtain ⟨⟨f1,f2,f3⟩,f4⟩:=ih lit tn tw x s' DG xf xr q2 (Kv q2)
   rw [A2 ex,I1 _ _ _ _ q2] at Ct
   obtain ⟨Y,hY⟩:=A5 (D6 doc k lit tn tw x s')
   rw [hY] at f1 f2 f3 f4 Ct
   have w1:IntKind.i64.wrap (((25 - k:Nat):Int)+1)=((26 - k:Nat):Int):=by
    have:=Ap (25 - k) (by omega)
    rw [this]
    congr 1
    omega
   have q1':¬j=(v.items).length:=by omega
   simp (disch:=omega) only [q1,Ad (Aa Ar ex),w1,go_sem]
   skip
   refine Aq.w (ws:=[(c,BZ doc lit Y.2)]) (Tb (s:=s') ?_ (by omega)) rfl (fun Al e=>f4 Al c _ ((e c (.inl (by omega))).trans ?_)) ?_
   case refine_3=>
    have u1:¬c=m+9:=by omega
    have u2:¬m+9=n:=by omega
    have u6:¬m+6=n:=by omega
    have u3:(j5.length+1)*80<=140737488355328:=by omega
    have u4:j5.length<=9223372036854775806:=by omega
    simp (disch:=omega) only [LW,go_sem]
    refine ⟨⟨u1,u2⟩,u3,u4,.mk (j+1) (j5++[Y.1]) Y.2 (g+1) (m+30),⟨show j+1<=(v.items).length by omega,show n+6<=m+30 by omega,by show (j5++[Y.1]).length=j+1;simp;omega,by show R=_;rw [Ct];simp,f1,f2⟩,by show (v.items).length - (j+1)<(v.items).length - j;omega,?_⟩
    dsimp only
    refine AP ?_ (At.sub (At.cons ?_ (At.cons ?_ (At.cons ?_ (At.cons ?_ (At.cons ?_ (At.base hf fun i hi hx=>?_))))))) (by omega)
    all_goals first
     | (simp only [zh,zf,or_false,not_or] at hx
        simp only [A8]
        repeat rw [iN (by omega)]
        done)
     | ((simp (disch:=omega) only [LW,BZ,Dl,Ap j (by omega),zu,z12,z1e,go_sem])
        first | done | rfl | (simp;done))
   all_goals
    simp only [BZ]
    simp (disch:=omega) only [go_sem]
  .have Ct:R=(j5,s'):=by
    by_cases q2:s'.2=0
    .have:j=(v.items).length:=by
      simp [q2] at q
      first
       | omega
       | (have hj1':j<=1:=Cg;show j=1;omega)
     rw [this,zll] at Ct
     rw [Ct]
     simp [Lf]
    .rw [On _ _ _ q2] at Ct
     rw [Ct]
     simp
   subst Ct
   simp (disch:=omega) only [LW,go_sem]
   exact BK (Ax _ _ _) fun j hj j1 => Ai _ _ fun e => j1 e.symm
 .rw [hl,iN k5] at lI
  subst lI
  simp (disch:=omega) only [hc,dF k5,go_sem]
  refine loop (fun p : LsS => match p with
   | .mk j j5 s' g m=>⟨[(0,.bx c 0),(3,.i .i64 ((25 - k:Nat):Int)),(5,.bx n 0),(8,.bx (n+2) 0),(9,.rw (n+3) 0 1),(10,.bx (n+4) 0),(11,.i .i64 j)],
    (n+4,.bx [.i .i64 5,.i .i64 0,.s ⟨#[]⟩,.rw (n+5) g j5.length,.e0])::(n+5,.rw g 5 (Ab Ar j5))::(n+2,.bx [.i .i64 0,.i .i64 0,.s ⟨#[]⟩,.e0,.e0])::(n,.bx [.s tn,.ds (Ab D0 tw)]) ::(n+3,.rw 0 5 [[.i .i64 v.k,.i .i64 v.n,.s v.s,.ds (Ab Ar v.items),.ds (Bd v.keys)]])::(c,.bx [.ds (Ab B8 doc),.i .i64 0,.i .i64 0,.s ⟨#[]⟩,.e0,.e0,.b lit,.i .i64 s'.1,.i .i64 s'.2])::hp,m⟩)
   (fun p=>match p with | .mk j j5 s' g m=>j<=([v]).length∧n+6<=m∧j5.length=j∧R=(j5++(Lf (D6 doc k lit tn tw) (([v]).drop j) s').1,(Lf (D6 doc k lit tn tw) (([v]).drop j) s').2)∧s'.1<=4097∧(s'.2=0->s'.1<=4096))
   (fun p=>match p with | .mk j j5 s' g m=>([v]).length - j) (.mk 0 [] s 0 (n+6)) ?_ ?_ (fun p hj=>?_)
  .exact ⟨zt _,zx _,rfl,by rw [<-hR];rfl,hs,Sr⟩
  .dsimp only
   refine (Co (c:=n+4) (i:=3) (m:=5) (cs:=[.i .i64 5,.i .i64 0,.s ⟨#[]⟩,.e0,.e0]) ?_ rfl).trans (AP ?_ (At.sub (At.cons ?_ (At.cons ?_ (At.cons ?_ (At.cons ?_ (At.cons ?_ (At.cons ?_ (At.base hf fun i hi hx=>?_)))))))) (zna _))
   all_goals first
    | (simp only [zh,zf,or_false,not_or] at hx
       simp only [A8]
       repeat rw [iN (by omega)]
       done)
    | ((simp (disch:=omega) only [hc,go_sem])
       first | done | rfl | (simp;done))
  obtain ⟨j,j5,s',g,m⟩:=p
  obtain ⟨Cg,Bc,As,Ct,Dh,Kv⟩:=hj
  have LW:(Ab Ar j5).length=j5.length:=Ao _ _
  have LV:(Ab Ar j5).take j5.length=Ab Ar j5:=z10 (by omega)
  dsimp only
  simp (disch:=omega) only [go_sem]
  refine Ae (fun q=>?_) (fun q=>?_)
  .have q1:j<([v]).length:=by
    have:=of_decide_eq_true (z2p.mp q).1
    first
     | exact z4u.1 this
     | (show j<1;omega)
   have q2:s'.2=0:=of_decide_eq_true (z2p.mp q).2
   obtain ⟨x,ex⟩:∃x,([v])[j]?=some x:=⟨_,zlg q1⟩
   have eg:=Aa Ar ex
   (have eg:([[AV.i .i64 v.k,.i .i64 v.n,.s v.s,.ds (Ab Ar v.items),.ds (Bd v.keys)]]:List (List AV))[j]?=some [AV.i .i64 x.k,.i .i64 x.n,.s x.s,.ds (Ab Ar x.items),.ds (Bd x.keys)]:=by rw [<-B4 v,<-B4 x];exact eg)
   obtain ⟨xf,xr⟩:=hlx x (zla ex)
   obtain ⟨⟨f1,f2,f3⟩,f4⟩:=ih lit tn tw x s' DG xf xr q2 (Kv q2)
   rw [A2 ex,I1 _ _ _ _ q2] at Ct
   obtain ⟨Y,hY⟩:=A5 (D6 doc k lit tn tw x s')
   rw [hY] at f1 f2 f3 f4 Ct
   have w1:IntKind.i64.wrap (((25 - k:Nat):Int)+1)=((26 - k:Nat):Int):=by
    have:=Ap (25 - k) (by omega)
    rw [this]
    congr 1
    omega
   have q1':¬j=([v]).length:=by omega
   simp (disch:=omega) only [q1,true_and,w1,go_sem]
   (refine ⟨q1,?_⟩;rw [eg];(simp (disch:=omega) only [w1,go_sem]))
   refine Aq.w (ws:=[(c,BZ doc lit Y.2)]) (Tb (s:=s') ?_ (by omega)) rfl (fun Al e=>f4 Al c _ ((e c (.inl (by omega))).trans ?_)) ?_
   case refine_3=>
    have u1:¬c=m+9:=by omega
    have u2:¬m+9=n:=by omega
    have u6:¬m+6=n:=by omega
    have u3:(j5.length+1)*80<=140737488355328:=by omega
    have u4:j5.length<=9223372036854775806:=by omega
    simp (disch:=omega) only [LW,go_sem]
    refine ⟨⟨u1,u6,u6,u2⟩,u3,u4,.mk (j+1) (j5++[Y.1]) Y.2 (g+1) (m+30),⟨show j+1<=([v]).length by omega,show n+6<=m+30 by omega,by show (j5++[Y.1]).length=j+1;simp;omega,by show R=_;rw [Ct];simp,f1,f2⟩,by show ([v]).length - (j+1)<([v]).length - j;omega,?_⟩
    dsimp only
    refine AP ?_ (At.sub (At.cons ?_ (At.cons ?_ (At.cons ?_ (At.cons ?_ (At.cons ?_ (At.cons ?_ (At.base hf fun i hi hx=>?_)))))))) (by omega)
    all_goals first
     | (simp only [zh,zf,or_false,not_or] at hx
        simp only [A8]
        repeat rw [iN (by omega)]
        done)
     | ((simp (disch:=omega) only [LW,BZ,Dl,Ap j (by omega),zu,z12,z1e,go_sem])
        first | done | rfl | (simp;done))
   all_goals
    simp only [BZ]
    simp (disch:=omega) only [go_sem]
  .have Ct:R=(j5,s'):=by
    by_cases q2:s'.2=0
    .have:j=([v]).length:=by
      simp [q2] at q
      first
       | omega
       | (have hj1':j<=1:=Cg;show j=1;omega)
     rw [this,zll] at Ct
     rw [Ct]
     simp [Lf]
    .rw [On _ _ _ q2] at Ct
     rw [Ct]
     simp
   subst Ct
   simp (disch:=omega) only [LW,go_sem]
   exact BK (Ax _ _ _) fun j hj j1 => Ai _ _ fun e => j1 e.symm
theorem Ob (l:List BN) (hl:l.length<=1000000000000) (i:Nat) (x:BN) (ei:l[i]?=some x) (hp:CH) (m:Nat):Af prog 188 hp m [.ds (Ab AD l),.i .i64 i] (.b (decide (x.n∈(l.take i).map BN.n))):=by
 have VV:i<l.length:=(List.getElem?_eq_some_iff.1 ei).1
 obtain ⟨R,hR⟩:=A5 (decide (x.n∈(l.take i).map BN.n))
 rw [hR]
 refine Aj func188 (tA cc188) (tB cc188) (tC cc188) rfl fun hf=>?_;unfold ck188
 simp only [go_sem]
 refine loop (fun p:Nat×Nat=>⟨[(0,.ds (Ab AD l)),(1,.i .i64 i),(5,.i .i64 p.1)],hp,p.2⟩) (fun p=>p.1<=i∧m<=p.2∧R=decide (x.n∈((l.take i).drop p.1).map BN.n)) (fun p=>i - p.1) (0,m) ?_ ?_ (fun ⟨j,n⟩ hj=>?_)
 .exact ⟨by simp,by simp,hR.symm⟩
 .refine Di ?_
  simp only [go_sem]
 dsimp only at hj
 obtain ⟨Cg,Bc,As⟩:=hj
 simp (disch:=omega) only [go_sem]
 refine Ae (fun q=>?_) (fun q=>?_)
 .have q:j<i:=by simp at q;omega
  have q2:j<l.length:=by omega
  obtain ⟨y,ey⟩:∃y,l[j]?=some y:=⟨l[j],by simp [q2]⟩
  have ey2:(l.take i)[j]?=some y:=by rw [List.getElem?_take,iP q];exact ey
  rw [A2 ey2] at As
  have As:R=decide (x.n∈y.n::((l.take i).drop (j+1)).map BN.n):=As
  simp (disch:=omega) only [q2,VV,Ad (Aa AD ey),Ad (Aa AD ei),go_sem]
  refine Ae (fun w=>?_) (fun w=>?_)
  .have w:y.n=x.n:=by simpa using w
   have:R=true:=by rw [As];simp [w]
   subst this
   simp (disch:=omega) only [Bc,go_sem]
  .have w:¬y.n=x.n:=by simpa using w
   have w':¬x.n=y.n:=fun e=>w e.symm
   simp (disch:=omega) only [go_sem]
   refine ⟨(j+1,_),⟨by dsimp only;omega,by dsimp only;omega,by rw [As];simp [w']⟩,by dsimp only;omega,Di ?_⟩
   simp (disch:=omega) only [Ap j (by omega),go_sem]
 .have q:j=i:=by simp at q;omega
  subst q
  have:R=false:=by rw [As];simp
  subst this
  simp (disch:=omega) only [Bc,go_sem]
theorem Sb (doc:List Aw) (k:Nat) (hk:k<=24) (ih:CoK doc k) (lit:Bool) (tn:qB) (tw:List Int) (v:Ag) (s:Be) (DG:tw.length<=1000000000) (hv:v.Fit) (hr:v.Rng) (hs:s.2=0) (Sr:s.1<=4096)
 (hp:CH) (c n:Nat) (h:gc hp c=BZ doc lit s):AU prog 189 hp n [.bx c 0,D1 tn tw,vx v,.i .i64 ((26 - k:Nat):Int)] ([(c,BZ doc lit (D6 doc k true tn tw v s).2)]++hp) n (vx (D6 doc k true tn tw v s).1):=by
 have Dg:(∀k,n<=k->gc hp k=.no)->wsLt n [(c,BZ doc lit (D6 doc k true tn tw v s).2)]:=fun hf=>FSw (DD h hf)
 have hc:=h
 unfold BZ at hc
 obtain ⟨⟨f1,f2,f3⟩,f4⟩:=ih true tn tw v s DG hv hr hs Sr
 obtain ⟨Y,hY⟩:=A5 (D6 doc k true tn tw v s)
 rw [hY] at f1 f2 f3 f4 Dg ⊢
 refine BR func189 (tA cc189) (tB cc189) (tC cc189) rfl Dg fun hf=>?_;unfold ck189
 have l1:=DD h hf
 simp (disch:=omega) only [hc,go_sem]
 have k1:¬n+11=c:=by omega
 refine ⟨k1,k1,?_⟩
 refine Ac.x (f4 _ c _ (Ax _ _ _)) ?_
 simp only [BZ,zlh,zli]
 simp (disch:=omega) only [go_sem]
 try trace_state
 all_goals
  refine BK (Ax _ _ _) fun j hj j1=>?_
  repeat rw [Ai _ _ (by omega)]
theorem Ny (is:List BN) (ks:List qB) (s:Be):(SG is ks s).1=s.1:=by
 unfold SG
 induction ks generalizing s with
 |nil=>rfl
 |cons a ks ih=>
  rw [List.foldl_cons,ih]
  split<;>rfl
theorem WU {is:List BN} {ks:List qB} {j:Nat} {a:qB} (s:Be) (e:ks[j]?=some a):SG is (ks.take (j+1)) s=if (Cd is a).isSome=true then SG is (ks.take j) s else Cn 22 (SG is (ks.take j) s):=by
 unfold SG
 rw [List.take_add_one,e,List.foldl_append]
 rfl
theorem To {v:Ag} (hv:v.Fit) (hr:v.Rng) (k:qB):((AA v k).getD A6).Fit∧((AA v k).getD A6).Rng:=by
 cases h:AA v k with
 |none=>exact ⟨.mk _ (by show 0*80<=_;decide) (by show 0*16<=_;decide) (fun x (hx:x∈([]:List Ag))=>(by cases hx)),.mk _ (by show (-9223372036854775808:Int)<=0;decide) (by show (0:Int)<=_;decide) (fun x (hx:x∈([]:List Ag))=>(by cases hx))⟩
 |some y=>
  have hm:y∈v.items:=by
   unfold AA at h
   split at h
   .split at h
    .exact zla h
    .cases h
   .cases h
  exact ⟨hv.x hm,hr.x hm⟩
theorem Lp (j5:List Ag):Ab Ar j5++[[AV.i .i64 0,.i .i64 0,.s ⟨#[]⟩,.ds [],.ds []]]=Ab Ar (j5++[.mk 0 0 ⟨#[]⟩ [] []]):=by
 rw [<-AX,B4]
 rfl
theorem Yb (lit:Bool) (Fl Fp:qB->List Int->Ag->Be->Ag×Be) (v:Ag) (pre l:List BN) (s:Be) (h:s.2≠0):O8 lit Fl Fp v pre l s=(([],[]),s):=by
 cases l with
 |nil=>rfl
 |cons x l=>rw [O8,iN h]
theorem X3 (l:List qB) (a:qB):Ab Cz l++[[AV.s a]]=Ab Cz (l++[a]):=AX Cz l a
inductive KyS
 | mk (j n:Nat)
inductive ObS
 | mk (j:Nat) (r9:List qB) (j5:List Ag) (s:Be) (g g2 n:Nat)
theorem Pg (doc:List Aw) (k:Nat) (hk1:1<=k) (hk:k<=24) (ih:CoK doc k) (lit:Bool) (t:Aw) (is:List BN) (ht:t.inputs=Ab AD is) (LX:is.length<=16) (HG:∀x∈is,H7 x∧x.n.size<=64) (v:Ag) (s:Be) (hv:v.Fit) (hr:v.Rng) (hs:s.2=0) (Sr:s.1<=4096)
 (hp:CH) (c n:Nat) (h:gc hp c=BZ doc lit s):AU prog 186 hp n [.bx c 0,Mc t,vx v,.i .i64 ((25 - k:Nat):Int)] ([(c,BZ doc lit (Qu lit (D6 doc k lit) (D6 doc k true) is v s).2)]++hp) n (vx (Qu lit (D6 doc k lit) (D6 doc k true) is v s).1):=by
 have Dg : (∀ k, n <= k -> gc hp k = .no) -> wsLt n [(c, BZ doc lit (Qu lit (D6 doc k lit) (D6 doc k true) is v s).2)] := fun hf => FSw (DD h hf)
 have hc:=h
 unfold BZ at hc
 have hF:=fun (Al:CH) (e:gc Al c=gc hp c) (n':Nat)=>CU (hp:=Al) (e.trans h) 23 n'
 have IP:=fun (s':Be) (Al:CH) (e:gc Al c=BZ doc lit s') (e2:Int) (n':Nat)=>CU (hp:=Al) e e2 n'
 obtain ⟨RR,A9⟩:=A5 (Qu lit (D6 doc k lit) (D6 doc k true) is v s)
 rw [A9] at Dg ⊢
 unfold Qu at A9
 simp only [Mc]
 rw [ht]
 have Nt:=hv.l
 refine BR func186 (tA cc186) (tB cc186) (tC cc186) rfl Dg fun hf=>?_;unfold ck186
 have l1:=DD h hf
 by_cases k6:v.k=6
 case neg=>
  rw [iN k6] at A9
  subst A9
  simp (disch:=omega) only [hc,dF k6,go_sem]
  refine Ac.x (hF _ (by repeat rw [Ai _ _ (by omega)]) _) ?_
  simp (disch:=omega) only [go_sem]
  all_goals
   refine BK (Ax _ _ _) fun j hj j1=>?_
   try simp only [zlh,zli]
   repeat rw [Ai _ _ (by omega)]
   try rfl
 rw [iP k6] at A9
 simp (disch:=omega) only [hc,dT k6,go_sem]
 refine loop (fun p : KyS => match p with
  | .mk j m=>⟨[(0,.bx c 0),(3,.i .i64 ((25 - k:Nat):Int)),(5,.bx n 0),(6,.bx (n+1) 0),(8,.bx (n+2) 0),(9,.i .i64 j)],
   (n+2,.bx [.i .i64 0,.i .i64 0,.s ⟨#[]⟩,.e0,.e0])::(n+1,.bx [.i .i64 v.k,.i .i64 v.n,.s v.s,.ds (Ab Ar v.items),.ds (Bd v.keys)])::(n,.bx [.i .i64 t.k,.s t.n,.ds t.impl,.ds t.dirs,.ds (Ab Bv t.fields),.ds t.members,.ds (Ab AD is)]) ::
   (c,.bx [.ds (Ab B8 doc),.i .i64 0,.i .i64 0,.s ⟨#[]⟩,.e0,.e0,.b lit,.i .i64 (SG is (v.keys.take j) s).1,.i .i64 (SG is (v.keys.take j) s).2])::hp,m⟩)
  (fun p=>match p with | .mk j m=>j<=v.keys.length∧n+3<=m) (fun p=>match p with | .mk j m=>v.keys.length - j) (.mk 0 (n+3)) ?_ ?_ (fun p hj=>?_)
 .exact ⟨zt _,zx _⟩
 .dsimp only
  refine AP ?_ (At.sub (At.cons ?_ (At.cons ?_ (At.cons ?_ (At.cons ?_ (At.base hf fun i hi hx=>?_)))))) (zna _)
  all_goals first
   | (simp only [zh,zf,or_false,not_or] at hx
      simp only [A8]
      repeat rw [iN (by omega)]
      done)
   | ((simp (disch:=omega) only [hc,go_sem])
      first | done | rfl | (simp;done))
 obtain ⟨j,m⟩:=p
 obtain ⟨Cg,Bc⟩:=hj
 dsimp only
 simp (disch:=omega) only [go_sem]
 refine Ae (fun q=>?_) (fun q=>?_)
 .have q:j<v.keys.length:=by simpa using q
  obtain ⟨a,ea⟩:∃x,v.keys[j]?=some x:=⟨_,zlg q⟩
  have hI:=DR is (by omega) a
  have e1:=WU (is:=is) s ea
  obtain ⟨X,hX⟩:=A5 (Cd is a)
  rw [hX] at hI e1
  unfold Qi at hI
  obtain ⟨y,hy⟩:=A5 (X.getD Vk)
  rw [hy] at hI
  obtain ⟨xb,hxb⟩:=A5 (X.isSome)
  rw [hxb] at hI e1
  simp only [AD] at hI
  obtain ⟨S,hS⟩:=A5 (SG is (v.keys.take j) s)
  rw [hS] at e1
  have u2:¬m+10=n:=by omega
  have u3:¬m+11=n:=by omega
  simp (disch:=omega) only [q,Ad (Aa Cz ea),hS,go_sem]
  refine Aq.f (fun _ _ _=>hI _ _) ?_
  cases xb with
  |true=>
   rw [iP rfl] at e1
   simp (disch:=omega) only [q,Ad (Aa Cz ea),hS,go_sem]
   refine ⟨⟨u2,u3⟩,?_⟩
   refine ⟨.mk (j+1) (m+40),⟨show j+1<=v.keys.length by omega,show n+3<=m+40 by omega⟩,by show v.keys.length - (j+1)<v.keys.length - j;omega,?_⟩
   dsimp only
   refine AP ?_ (At.sub (At.cons ?_ (At.cons ?_ (At.cons ?_ (At.cons ?_ (At.base hf fun i hi hx=>?_)))))) (by omega)
   all_goals first
    | (simp only [zh,zf,or_false,not_or] at hx
       simp only [A8]
       repeat rw [iN (by omega)]
       done)
    | ((simp (disch:=omega) only [Ap j (by omega),e1,BZ,go_sem])
       first | done | rfl | (simp;done))
  |false=>
   rw [iN (by decide)] at e1
   simp (disch:=omega) only [q,Ad (Aa Cz ea),hS,go_sem]
   refine ⟨⟨u2,u3⟩,?_⟩
   refine Ac.x (IP S _ (by (repeat rw [Ai _ _ (by omega)]);exact Ax _ _ _) 22 _) ?_
   simp only [zlh,zli]
   simp (disch:=omega) only [go_sem]
   refine ⟨.mk (j+1) (m+40),⟨show j+1<=v.keys.length by omega,show n+3<=m+40 by omega⟩,by show v.keys.length - (j+1)<v.keys.length - j;omega,?_⟩
   dsimp only
   refine AP ?_ (At.sub (At.cons ?_ (At.cons ?_ (At.cons ?_ (At.cons ?_ (At.base hf fun i hi hx=>?_)))))) (by omega)
   all_goals first
    | (simp only [zh,zf,or_false,not_or] at hx
       simp only [A8]
       repeat rw [iN (by omega)]
       done)
    | ((simp (disch:=omega) only [Ap j (by omega),e1,BZ,go_sem])
       first | done | rfl | (simp;done))
 have q:j=v.keys.length:=by simp at q;omega
 subst q
 rw [List.take_length]
 have Nu:=Ny is v.keys s
 obtain ⟨S,hS⟩:=A5 (SG is v.keys s)
 rw [hS] at Nu A9 ⊢
 simp (disch:=omega) only [go_sem]
 have hS0 : S.2 = 0 -> S.1 <= 4096 := fun _ => by omega
 obtain ⟨Q,hQ⟩:=A5 (O8 lit (D6 doc k lit) (D6 doc k true) v [] is S)
 rw [hQ] at A9
 have A9:(Ag.mk 6 0 ⟨#[]⟩ Q.1.2 Q.1.1,Q.2)=RR:=A9
 subst A9
 refine loop (fun p : ObS => match p with
  | .mk j r9 j5 s' g g2 q=>⟨[(0,.bx c 0),(3,.i .i64 ((25 - k:Nat):Int)),(5,.bx n 0),(6,.bx (n+1) 0),(8,.bx (n+2) 0),(12,.bx m 0),(13,.i .i64 j)],
   (m,.bx [.i .i64 6,.i .i64 0,.s ⟨#[]⟩,.rw (m+1) g j5.length,.rw (m+2) g2 r9.length])::(m+1,.rw g 5 (Ab Ar j5))::(m+2,.rw g2 1 (Bd r9))::(n+2,.bx [.i .i64 0,.i .i64 0,.s ⟨#[]⟩,.e0,.e0])::(n+1,.bx [.i .i64 v.k,.i .i64 v.n,.s v.s,.ds (Ab Ar v.items),.ds (Bd v.keys)])::(n,.bx [.i .i64 t.k,.s t.n,.ds t.impl,.ds t.dirs,.ds (Ab Bv t.fields),.ds t.members,.ds (Ab AD is)]) ::
   (c,.bx [.ds (Ab B8 doc),.i .i64 0,.i .i64 0,.s ⟨#[]⟩,.e0,.e0,.b lit,.i .i64 s'.1,.i .i64 s'.2])::hp,q⟩)
  (fun p=>match p with | .mk j r9 j5 s' g g2 q=>j<=is.length∧m+3<=q∧j5.length=r9.length∧r9.length<=j∧Q=((r9++(O8 lit (D6 doc k lit) (D6 doc k true) v (is.take j) (is.drop j) s').1.1,j5++(O8 lit (D6 doc k lit) (D6 doc k true) v (is.take j) (is.drop j) s').1.2),(O8 lit (D6 doc k lit) (D6 doc k true) v (is.take j) (is.drop j) s').2)∧s'.1<=4097∧(s'.2=0->s'.1<=4096))
  (fun p=>match p with | .mk j r9 j5 s' g g2 q=>is.length - j) (.mk 0 [] [] S 0 0 (m+3)) ?_ ?_ (fun p hj=>?_)
 .exact ⟨zt _,zx _,rfl,zx _,by rw [<-hQ];rfl,by omega,hS0⟩
 .dsimp only
  refine ((Co (c:=m) (i:=3) (m:=5) (cs:=[.i .i64 6,.i .i64 0,.s ⟨#[]⟩,.e0,.e0]) ?_ rfl).trans (Co (c:=m) (i:=4) (m:=1) (cs:=[.i .i64 6,.i .i64 0,.s ⟨#[]⟩,.rw (m+1) 0 0,.e0]) ?_ rfl)).trans (AP ?_ (At.sub (At.cons ?_ (At.cons ?_ (At.cons ?_ (At.cons ?_ (At.cons ?_ (At.cons ?_ (At.cons ?_ (At.base hf fun i hi hx=>?_))))))))) (zna _))
  all_goals first
   | (simp only [zh,zf,or_false,not_or] at hx
      simp only [A8]
      repeat rw [iN (by omega)]
      done)
   | ((simp (disch:=omega) only [hc,go_sem])
      first | done | rfl | (simp;done))
 obtain ⟨j,r9,j5,s',g,g2,m2⟩:=p
 obtain ⟨Cg,Bc,As,Ct,Dh,Kv,hj7⟩:=hj
 have LW:(Ab Ar j5).length=j5.length:=Ao _ _
 have VY:(Bd r9).length=r9.length:=Ao _ _
 dsimp only
 simp (disch:=omega) only [go_sem]
 refine Ae (fun q=>?_) (fun q=>?_)
 case' refine_2=>
  have hE:O8 lit (D6 doc k lit) (D6 doc k true) v (is.take j) (is.drop j) s'=(([],[]),s'):=by
   by_cases q2:s'.2=0
   .have:j=is.length:=by simp [q2] at q;omega
    rw [this,zll]
    rfl
   .exact Yb _ _ _ _ _ _ _ q2
  have Dh:Q=((r9,j5),s'):=by rw [Dh,hE];simp
  subst Dh
  simp (disch:=omega) only [LW,VY,go_sem]
  exact BK (Ax _ _ _) fun j hj j1 => Ai _ _ fun e => j1 e.symm
 have q1:j<is.length:=z4u.1 (of_decide_eq_true (z2p.mp q).1)
 have q2:s'.2=0:=of_decide_eq_true (z2p.mp q).2
 obtain ⟨x,ex⟩:∃x,is[j]?=some x:=⟨_,zlg q1⟩
 obtain ⟨⟨x1,⟨x2,x3⟩,x4⟩,x5⟩:=HG x (zla ex)
 have hEa:=Ob is (by omega) j x ex
 have hG:=DA v hv x.n
 have tk:is.take j++[x]=is.take (j+1):=AN ex
 rw [A2 ex,O8,iP q2,tk] at Dh
 simp (disch:=omega) only [q1,Ad (Aa AD ex),go_sem]
 refine Ac.f (hEa _ _) ?_
 by_cases w1:x.n∈(is.take j).map BN.n
 .rw [iP w1] at Dh
  simp (disch:=omega) only [dT w1,go_sem]
  refine ⟨.mk (j+1) (r9) (j5) (s') (g) (g2) (m2+80),⟨show j+1<=is.length by omega,show m+3<=m2+80 by omega,by show z1y _=z1y _;simp [As],by show z1y _<=j+1;first | omega | (simp;omega),by show Q=_;rw [Dh];try simp,Kv,hj7⟩,by show is.length - (j+1)<is.length - j;omega,?_⟩
  dsimp only
  refine AP ?_ (At.sub (At.cons ?_ (At.cons ?_ (At.cons ?_ (At.cons ?_ (At.cons ?_ (At.cons ?_ (At.cons ?_ (At.base hf fun i hi hx=>?_))))))))) (by omega)
  all_goals first
   | (simp only [zh,zf,or_false,not_or] at hx
      simp only [A8]
      repeat rw [iN (by omega)]
      done)
   | ((simp (disch:=omega) only [LW,VY,BZ,Dl,X3,Ap j (by omega),zu,z12,z1e,go_sem])
      first | done | exact Lp j5 | (rw [<-AX,B4];rfl) | rfl | (simp;done))
 rw [iN w1] at Dh
 simp (disch:=omega) only [dF w1,go_sem]
 refine Ac.f (hG _ _) ?_
 have hyf:((AA v x.n).getD A6).Fit∧((AA v x.n).getD A6).Rng:=To hv hr x.n
 obtain ⟨o,ho⟩:=A5 (AA v x.n)
 rw [ho] at Dh hyf ⊢
 unfold KQ
 obtain ⟨y,hy⟩:=A5 (o.getD A6)
 rw [hy] at Dh hyf ⊢
 obtain ⟨ob,hob⟩:=A5 (o.isSome)
 rw [hob] at Dh ⊢
 have hM:=fun (Al:CH) (e:gc Al c=BZ doc lit s') (n':Nat)=>Iq (hp:=Al) e y n'
 obtain ⟨mb,hmb⟩:=A5 ((lit&&decide (y.k=7)))
 rw [hmb] at Dh
 simp only [hmb] at hM
 have wl:IntKind.i64.wrap (((25 - k:Nat):Int)+1)=((26 - k:Nat):Int):=by
  have:=Ap (25 - k) (by omega)
  rw [this]
  congr 1
  omega
 have u3:(j5.length+1)*80<=140737488355328:=by omega
 have u4:j5.length<=9223372036854775806:=by omega
 have u5:(r9.length+1)*16<=140737488355328:=by omega
 have u6:r9.length<=9223372036854775806:=by omega
 simp (disch:=omega) only [go_sem]
 refine AH.f (fun _=>hM _ (by (repeat rw [Ai _ _ (by omega)]);exact Ax _ _ _) _) ?_
 simp (disch:=omega) only [go_sem]
 refine Ae (fun w=>?_) (fun w=>?_)
 .have wA:ob=true∧mb=false:=by simpa using w
  rw [iP wA] at Dh
  obtain ⟨⟨f1,f2,f3⟩,f4⟩:=ih lit x.tn x.tw y s' (by omega) hyf.1 hyf.2 q2 (hj7 q2)
  obtain ⟨Y,hY⟩:=A5 (D6 doc k lit x.tn x.tw y s')
  rw [hY] at f1 f2 f3 f4 Dh
  dsimp only at Dh
  simp (disch:=omega) only [wl,go_sem]
  refine Ac.x (f4 _ c _ (by (repeat rw [Ai _ _ (by omega)]);exact Ax _ _ _)) ?_
  simp only [BZ,zlh,zli]
  simp (disch:=omega) only [LW,VY,u3,u4,u5,u6,true_and,go_sem]
  refine ⟨.mk (j+1) (r9++[x.n]) (j5++[Y.1]) (Y.2) (g+1) (g2+1) (m2+80),⟨show j+1<=is.length by omega,show m+3<=m2+80 by omega,by show z1y _=z1y _;simp [As],by show z1y _<=j+1;first | omega | (simp;omega),by show Q=_;rw [Dh];try simp,f1,f2⟩,by show is.length - (j+1)<is.length - j;omega,?_⟩
  dsimp only
  refine AP ?_ (At.sub (At.cons ?_ (At.cons ?_ (At.cons ?_ (At.cons ?_ (At.cons ?_ (At.cons ?_ (At.cons ?_ (At.base hf fun i hi hx=>?_))))))))) (by omega)
  all_goals first
   | (simp only [zh,zf,or_false,not_or] at hx
      simp only [A8]
      repeat rw [iN (by omega)]
      done)
   | ((simp (disch:=omega) only [LW,VY,BZ,Dl,X3,Ap j (by omega),zu,z12,z1e,go_sem])
      first | done | exact Lp j5 | (rw [<-AX,B4];rfl) | rfl | (simp;done))
 have wA:¬(ob=true∧mb=false):=by intro e;simp [e.1,e.2] at w
 rw [iN wA] at Dh
 simp (disch:=omega) only [go_sem]
 refine Ae (fun w3=>?_) (fun w3=>?_)
 .rw [iP w3] at Dh
  obtain ⟨⟨f1,f2,f3⟩,f4⟩:=ih true x.tn x.tw x.d s' (by omega) x2 x3 q2 (hj7 q2)
  have hP:=fun (Al:CH) (e:gc Al c=BZ doc lit s') (n':Nat)=>Sb doc k hk ih lit x.tn x.tw x.d s' (by omega) x2 x3 q2 (hj7 q2) Al c n' e
  obtain ⟨Y,hY⟩:=A5 (D6 doc k true x.tn x.tw x.d s')
  rw [hY] at f1 f2 f3 Dh
  simp only [hY] at hP
  dsimp only at Dh
  simp (disch:=omega) only [wl,go_sem]
  refine Ac.x (hP _ (by (repeat rw [Ai _ _ (by omega)]);exact Ax _ _ _) _) ?_
  simp only [BZ,zlh,zli]
  simp (disch:=omega) only [LW,VY,u3,u4,u5,u6,true_and,go_sem]
  refine ⟨.mk (j+1) (r9++[x.n]) (j5++[Y.1]) (Y.2) (g+1) (g2+1) (m2+80),⟨show j+1<=is.length by omega,show m+3<=m2+80 by omega,by show z1y _=z1y _;simp [As],by show z1y _<=j+1;first | omega | (simp;omega),by show Q=_;rw [Dh];try simp,f1,f2⟩,by show is.length - (j+1)<is.length - j;omega,?_⟩
  dsimp only
  refine AP ?_ (At.sub (At.cons ?_ (At.cons ?_ (At.cons ?_ (At.cons ?_ (At.cons ?_ (At.cons ?_ (At.cons ?_ (At.base hf fun i hi hx=>?_))))))))) (by omega)
  all_goals first
   | (simp only [zh,zf,or_false,not_or] at hx
      simp only [A8]
      repeat rw [iN (by omega)]
      done)
   | ((simp (disch:=omega) only [LW,VY,BZ,Dl,X3,Ap j (by omega),zu,z12,z1e,go_sem])
      first | done | exact Lp j5 | (rw [<-AX,B4];rfl) | rfl | (simp;done))
 rw [iN (by simp [w3])] at Dh
 have hN:=DE x.tn x.tw (by omega)
 simp (disch:=omega) only [go_sem]
 refine Ac.f (hN _ _) ?_
 simp (disch:=omega) only [go_sem]
 refine Ae (fun w4=>?_) (fun w4=>?_)
 .rw [iP w4] at Dh
  dsimp only at Dh
  simp (disch:=omega) only [go_sem]
  refine Ac.x (IP s' _ (by (repeat rw [Ai _ _ (by omega)]);exact Ax _ _ _) 22 _) ?_
  simp only [BZ,zlh,zli]
  simp (disch:=omega) only [LW,VY,u3,u4,u5,u6,true_and,go_sem]
  refine ⟨.mk (j+1) (r9++[x.n]) (j5++[A6]) (Cn 22 s') (g+1) (g2+1) (m2+80),⟨show j+1<=is.length by omega,show m+3<=m2+80 by omega,by show z1y _=z1y _;simp [As],by show z1y _<=j+1;first | omega | (simp;omega),by show Q=_;rw [Dh];try simp,Kv,fun e=>absurd e (by simp [Cn,q2])⟩,by show is.length - (j+1)<is.length - j;omega,?_⟩
  dsimp only
  refine AP ?_ (At.sub (At.cons ?_ (At.cons ?_ (At.cons ?_ (At.cons ?_ (At.cons ?_ (At.cons ?_ (At.cons ?_ (At.base hf fun i hi hx=>?_))))))))) (by omega)
  all_goals first
   | (simp only [zh,zf,or_false,not_or] at hx
      simp only [A8]
      repeat rw [iN (by omega)]
      done)
   | ((simp (disch:=omega) only [LW,VY,BZ,Dl,X3,Ap j (by omega),zu,z12,z1e,go_sem])
      first | done | exact Lp j5 | (rw [<-AX,B4];rfl) | rfl | (simp;done))
 .rw [iN (by simp [w4])] at Dh
  simp (disch:=omega) only [go_sem]
  refine ⟨.mk (j+1) (r9) (j5) (s') (g) (g2) (m2+80),⟨show j+1<=is.length by omega,show m+3<=m2+80 by omega,by show z1y _=z1y _;simp [As],by show z1y _<=j+1;first | omega | (simp;omega),by show Q=_;rw [Dh];try simp,Kv,hj7⟩,by show is.length - (j+1)<is.length - j;omega,?_⟩
  dsimp only
  refine AP ?_ (At.sub (At.cons ?_ (At.cons ?_ (At.cons ?_ (At.cons ?_ (At.cons ?_ (At.cons ?_ (At.cons ?_ (At.base hf fun i hi hx=>?_))))))))) (by omega)
  all_goals first
   | (simp only [zh,zf,or_false,not_or] at hx
      simp only [A8]
      repeat rw [iN (by omega)]
      done)
   | ((simp (disch:=omega) only [LW,VY,BZ,Dl,X3,Ap j (by omega),zu,z12,z1e,go_sem])
      first | done | exact Lp j5 | (rw [<-AX,B4];rfl) | rfl | (simp;done))
