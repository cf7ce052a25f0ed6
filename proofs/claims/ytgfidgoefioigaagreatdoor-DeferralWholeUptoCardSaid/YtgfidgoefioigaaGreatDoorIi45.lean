/- Proof. Conditions: none. -/
import Derived.Test.YtgfidgoefioigaaGreatDoorIi44
open Go.Proofs.Tryz
open List renaming mem_of_getElem?→zla,getElem?_eq_getElem→zlg,cons_append→zlh,nil_append→zli,drop_length→zll
open Nat renaming le_refl→zna
namespace Go.Proofs.YtgfidgoefioigaaGreatDoor
open Go.Eng
set_option linter.all false
set_option maxRecDepth 20000
set_option maxHeartbeats 2000000
noncomputable def ID (F:Ak→AP→Ak × AP):List Ak→AP→List Ak × AP
 | [],s=>([],s)
 | x::l,s=>if s.2=0 then ((F x s).1::(ID F l (F x s).2).1,(ID F l (F x s).2).2) else ([],s)
theorem Lb (F:Ak→AP→Ak × AP) (l:List Ak) (s:AP) (h:s.2≠0):ID F l s=([],s):=by
 cases l with
 | nil=>rfl
 | cons x l=>unfold ID;rw [if_neg h]
theorem Hc (F:Ak→AP→Ak × AP) (x:Ak) (l:List Ak) (s:AP) (h:s.2=0):ID F (x::l) s=((F x s).1::(ID F l (F x s).2).1,(ID F l (F x s).2).2):=by
 show (if s.2=0 then _ else _)=_
 rw [if_pos h]
def RN (v:Ak):List Ak:=if v.k=5 then v.items else [v]
noncomputable def lsE (F:Ak→AP→Ak × AP) (v:Ak) (s:AP):Ak × AP:=(.mk 5 0 ⟨#[]⟩ (ID F (RN v) s).1 [],(ID F (RN v) s).2)
noncomputable def LX (lit:Bool) (Fl Fp:ByteArray→List Int→Ak→AP→Ak × AP) (v:Ak):List B6→List B6→AP→(List ByteArray × List Ak) × AP
 | _,[],s=>(([],[]),s)
 | pre,x::r,s =>
  if s.2=0 then
   if x.n∈pre.map B6.n then LX lit Fl Fp v (pre++[x]) r s
   else if (AF v x.n).isSome=true∧(lit&&decide (((AF v x.n).getD AB).k=7))=false then
    let p:=Fl x.tn x.tw ((AF v x.n).getD AB) s
    let q:=LX lit Fl Fp v (pre++[x]) r p.2
    ((x.n::q.1.1,p.1::q.1.2),q.2)
   else if x.has=true then
    let p:=Fp x.tn x.tw x.d s
    let q:=LX lit Fl Fp v (pre++[x]) r p.2
    ((x.n::q.1.1,p.1::q.1.2),q.2)
   else if FSw x.tw=true then
    let q:=LX lit Fl Fp v (pre++[x]) r (BV 22 s)
    ((x.n::q.1.1,AB::q.1.2),q.2)
   else LX lit Fl Fp v (pre++[x]) r s
  else (([],[]),s)
def QA (is:List B6) (ks:List ByteArray) (s:AP):AP:=ks.foldl (fun s k=>if (BN is k).isSome=true then s else BV 22 s) s
noncomputable def Mj (lit:Bool) (Fl Fp:ByteArray→List Int→Ak→AP→Ak × AP) (is:List B6) (v:Ak) (s:AP):Ak × AP :=
 if v.k=6 then
  let q:=LX lit Fl Fp v [] is (QA is v.keys s)
  (.mk 6 0 ⟨#[]⟩ q.1.2 q.1.1,q.2)
 else (AB,BV 23 s)
noncomputable def CU (doc:List Az):Nat→Bool→ByteArray→List Int→Ak→AP→Ak × AP
 | 0,_,_,_,_,s=>(AB,s)
 | k+1,lit,tn,tw,v0,s =>
  if HN doc tn=false then (AB,BV 10 s) else
  let v:=if lit=true∧v0.k=7 then AB else v0
  let s1:=Gr (25 - k) s
  if s1.2≠0 then (AB,s1) else
  if v.k=0 then (AB,if FSw tw=true then BV 23 s1 else s1) else
  if CK tw=true then lsE (CU doc k lit tn (DT tw)) v s1 else
  if Ck tn=true then M5 tn v s1 else
  if ((A1 doc tn).getD Dv).k=4 then XG lit ((A1 doc tn).getD Dv) v s1 else
  Mj lit (CU doc k lit) (CU doc k true) (AZ ((A1 doc tn).getD Dv).inputs) v s1
def CoK (doc:List Az) (k:Nat):Prop:=∀(lit:Bool) (tn:ByteArray) (tw:List Int) (v:Ak) (s:AP),tw.length≤1000000000→v.Fit→v.Rng→s.2=0→s.1≤4096 →
 ((CU doc k lit tn tw v s).2.1≤4097∧((CU doc k lit tn tw v s).2.2=0→(CU doc k lit tn tw v s).2.1≤4096)∧(CU doc k lit tn tw v s).1.Fit) ∧
 ∀(hp:CH) (c n:Nat),gc hp c=BI doc lit s→AQ prog 176 hp n [.bx c 0,DC tn tw,vx v,.i .i64 ((26 - k:Nat):Int)] ([(c,BI doc lit (CU doc k lit tn tw v s).2)]++hp) n (vx (CU doc k lit tn tw v s).1)
theorem PU (F:Ak→AP→Ak × AP):∀(l:List Ak) (s:AP),(ID F l s).1.length≤l.length
 | [],s=>by simp [ID]
 | x::l,s=>by
  by_cases h:s.2=0
  .rw [Hc F x l s h]
   have:=PU F l (F x s).2
   simp
   exact this
  .rw [Lb F _ s h];simp
theorem PH {hp:CH} {n0 c:Nat} {doc:List Az} {lit:Bool} {s s':AP} (h:gc hp c=BI doc lit s) (h1:c<n0):Ka hp n0 (keys [(c,BI doc lit s')]) [(c,BI doc lit s')]:=by
 refine ⟨h1,by rw [h];trivial,?_,trivial⟩
 exact ⟨rfl,rfl,rfl,rfl,rfl,rfl,rfl,rfl,rfl,trivial⟩
inductive LsS
 | mk (j:Nat) (acc:List Ak) (s:AP) (g n:Nat)
theorem Rf (doc:List Az) (k:Nat) (hk1:1≤k) (hk:k≤24) (ih:CoK doc k) (lit:Bool) (tn:ByteArray) (tw:List Int) (v:Ak) (s:AP) (Fk:tw.length≤1000000000) (hv:v.Fit) (hr:v.Rng) (hs:s.1≤4097) (PB:s.2=0→s.1≤4096)
    (hp:CH) (c n:Nat) (h:gc hp c=BI doc lit s):AQ prog 183 hp n [.bx c 0,DC tn tw,vx v,.i .i64 ((25 - k:Nat):Int)] ([(c,BI doc lit (lsE (CU doc k lit tn tw) v s).2)]++hp) n (vx (lsE (CU doc k lit tn tw) v s).1):=by
  have Gb : (∀ k, n ≤ k → gc hp k = .no) → wsLt n [(c, BI doc lit (lsE (CU doc k lit tn tw) v s).2)] := fun hf => EZ (CR h hf)
  have hc:=h
  unfold BI at hc
  obtain ⟨l,hl⟩:∃l,RN v=l:=⟨_,rfl⟩
  have hlI : l.length * 80 ≤ 140737488355327 := by rw [← hl]; unfold RN; split; exact hv.i; simp
  have hlx:∀x∈l,x.Fit∧x.Rng:=by
    rw [←hl];unfold RN
    split
    . exact fun x hx => ⟨hv.x hx, hr.x hx⟩
    . intro x hx; simp at hx; subst hx; exact ⟨hv, hr⟩
  obtain ⟨R,hR⟩:∃R,ID (CU doc k lit tn tw) l s=R:=⟨_,rfl⟩
  unfold lsE at Gb ⊢
  rw [hl,hR] at Gb ⊢
  have lI:RN v=if v.k=5 then v.items else [v]:=rfl
  refine CP func183 (by kernel_rfl) cc183 cr183 rfl Gb fun hf => ?_; unfold ck183
  have l1:=CR h hf
  by_cases k5:v.k=5
  . rw [hl, if_pos k5] at lI
    subst lI
    simp (disch:=omega) only [Aa,hc,decide_eq_true k5,go_sem]
    refine loop (fun p : LsS => match p with
      | .mk j acc s' g m=>⟨[(0,.bx c 0),(3,.i .i64 ((25 - k:Nat):Int)),(5,.bx n 0),(8,.bx (n+2) 0),(9,.ds (Ad A2 v.items)),(10,.bx (n+4) 0),(11,.i .i64 j)],
         (n+4,.bx [.i .i64 5,.i .i64 0,.s ⟨#[]⟩,.rw (n+5) g acc.length,.e0])::(n+5,.rw g 5 (Ad A2 acc))::(n+2,.bx [.i .i64 0,.i .i64 0,.s ⟨#[]⟩,.e0,.e0])::(n,.bx [.s tn,.ds (Ad Dx tw)])::(c,.bx [.ds (Ad BB doc),.i .i64 0,.i .i64 0,.s ⟨#[]⟩,.e0,.e0,.b lit,.i .i64 s'.1,.i .i64 s'.2])::hp,m⟩)
      (fun p => match p with | .mk j acc s' g m => j ≤ (v.items).length ∧ n + 6 ≤ m ∧ acc.length = j ∧ R = (acc ++ (ID (CU doc k lit tn tw) ((v.items).drop j) s').1, (ID (CU doc k lit tn tw) ((v.items).drop j) s').2) ∧ s'.1 ≤ 4097 ∧ (s'.2 = 0 → s'.1 ≤ 4096))
      (fun p => match p with | .mk j acc s' g m => (v.items).length - j) (.mk 0 [] s 0 (n + 6)) ?_ ?_ (fun p hj => ?_)
    . exact ⟨Nat.zero_le _, Nat.le_refl _, rfl, by rw [← hR]; rfl, hs, PB⟩
    . dsimp only
      refine (Dy (c:=n+4) (i:=3) (m:=5) (cs:=[.i .i64 5,.i .i64 0,.s ⟨#[]⟩,.e0,.e0]) ?_ rfl).trans (Ac ?_ (Ae.sub (Ae.cons ?_ (Ae.cons ?_ (Ae.cons ?_ (Ae.cons ?_ (Ae.cons ?_ (Ae.base hf fun i hi hx=>?_))))))) (zna _))
      all_goals first
        | (simp only [List.mem_cons, List.not_mem_nil, or_false, not_or] at hx
           simp only [AC]
           repeat rw [if_neg (by omega)]
           done)
        | ((simp (disch := omega) only [Aa, hc, go_sem])
           first | done | rfl | (simp;done))
    obtain ⟨j,acc,s',g,m⟩:=p
    obtain ⟨Cm,Ba,Aw,Cc,Dt,LS⟩:=hj
    have JH:(Ad A2 acc).length=acc.length:=Ax _ _
    have JJ : (Ad A2 acc).take acc.length = Ad A2 acc := List.take_of_length_le (by omega)
    dsimp only
    simp (disch:=omega) only [Aa,go_sem]
    refine Ai (fun q=>?_) (fun q=>?_)
    . have q1 : j < (v.items).length := by
        have:=of_decide_eq_true (Bool.and_eq_true_iff.mp q).1
        first
          | exact Int.ofNat_lt.1 this
          | (show j<1;omega)
      have q2:s'.2=0:=of_decide_eq_true (Bool.and_eq_true_iff.mp q).2
      obtain ⟨x,ex⟩:∃x,(v.items)[j]?=some x:=⟨_,zlg q1⟩
      have eg:=Ab A2 ex
      skip
      obtain ⟨xf,xr⟩:=hlx x (zla ex)
      obtain ⟨⟨f1,f2,f3⟩,f4⟩:=ih lit tn tw x s' Fk xf xr q2 (LS q2)
      rw [A5 ex,Hc _ _ _ _ q2] at Cc
      obtain ⟨Y,hY⟩:∃Y,CU doc k lit tn tw x s'=Y:=⟨_,rfl⟩
      rw [hY] at f1 f2 f3 f4 Cc
      have w1:IntKind.i64.wrap (((25 - k:Nat):Int)+1)=((26 - k:Nat):Int):=by
        have := At (25 - k) (by omega)
        rw [this]
        congr 1
        omega
      have q1' : ¬ j = (v.items).length := by omega
      simp (disch:=omega) only [Aa,q1,Ag (Ab A2 ex),w1,go_sem]
      skip
      refine A3.w (ws := [(c, BI doc lit Y.2)]) (PH (s := s') ?_ (by omega)) rfl (fun Ao e => f4 Ao c _ ((e c (.inl (by omega))).trans ?_)) ?_
      case refine_3 =>
        have u1 : ¬ c = m + 9 := by omega
        have u2 : ¬ m + 9 = n := by omega
        have u6 : ¬ m + 6 = n := by omega
        have u3 : (acc.length + 1) * 80 ≤ 140737488355328 := by omega
        have u4 : acc.length ≤ 9223372036854775806 := by omega
        simp (disch:=omega) only [Aa,JH,go_sem]
        refine ⟨⟨u1, u2⟩, u3, u4, .mk (j + 1) (acc ++ [Y.1]) Y.2 (g + 1) (m + 30), ⟨show j + 1 ≤ (v.items).length by omega, show n + 6 ≤ m + 30 by omega, by show (acc ++ [Y.1]).length = j + 1; simp; omega, by show R = _; rw [Cc]; simp, f1, f2⟩, by show (v.items).length - (j + 1) < (v.items).length - j; omega, ?_⟩
        dsimp only
        refine Ac ?_ (Ae.sub (Ae.cons ?_ (Ae.cons ?_ (Ae.cons ?_ (Ae.cons ?_ (Ae.cons ?_ (Ae.base hf fun i hi hx => ?_))))))) (by omega)
        all_goals first
          | (simp only [List.mem_cons, List.not_mem_nil, or_false, not_or] at hx
             simp only [AC]
             repeat rw [if_neg (by omega)]
             done)
          | ((simp (disch := omega) only [Aa, JH, BI, CW, At j (by omega), List.length_append, List.length_cons, List.length_nil, go_sem])
             first | done | rfl | (simp;done))
      all_goals
        simp only [BI]
        simp (disch:=omega) only [Aa,go_sem]
    . have Cc : R = (acc, s') := by
        by_cases q2:s'.2=0
        . have : j = (v.items).length := by
            simp [q2] at q
            first
              | omega
              | (have hj1':j≤1:=Cm;show j=1;omega)
          rw [this,zll] at Cc
          rw [Cc]
          simp [ID]
        . rw [Lb _ _ _ q2] at Cc
          rw [Cc]
          simp
      subst Cc
      simp (disch:=omega) only [Aa,JH,go_sem]
      exact B3 (Av _ _ _) fun j hj j1 => Aq _ _ fun e => j1 e.symm
  . rw [hl, if_neg k5] at lI
    subst lI
    simp (disch:=omega) only [Aa,hc,decide_eq_false k5,go_sem]
    refine loop (fun p : LsS => match p with
      | .mk j acc s' g m=>⟨[(0,.bx c 0),(3,.i .i64 ((25 - k:Nat):Int)),(5,.bx n 0),(8,.bx (n+2) 0),(9,.rw (n+3) 0 1),(10,.bx (n+4) 0),(11,.i .i64 j)],
         (n+4,.bx [.i .i64 5,.i .i64 0,.s ⟨#[]⟩,.rw (n+5) g acc.length,.e0])::(n+5,.rw g 5 (Ad A2 acc))::(n+2,.bx [.i .i64 0,.i .i64 0,.s ⟨#[]⟩,.e0,.e0])::(n,.bx [.s tn,.ds (Ad Dx tw)]) ::(n+3,.rw 0 5 [[.i .i64 v.k,.i .i64 v.n,.s v.s,.ds (Ad A2 v.items),.ds (Bv v.keys)]])::(c,.bx [.ds (Ad BB doc),.i .i64 0,.i .i64 0,.s ⟨#[]⟩,.e0,.e0,.b lit,.i .i64 s'.1,.i .i64 s'.2])::hp,m⟩)
      (fun p => match p with | .mk j acc s' g m => j ≤ ([v]).length ∧ n + 6 ≤ m ∧ acc.length = j ∧ R = (acc ++ (ID (CU doc k lit tn tw) (([v]).drop j) s').1, (ID (CU doc k lit tn tw) (([v]).drop j) s').2) ∧ s'.1 ≤ 4097 ∧ (s'.2 = 0 → s'.1 ≤ 4096))
      (fun p => match p with | .mk j acc s' g m => ([v]).length - j) (.mk 0 [] s 0 (n + 6)) ?_ ?_ (fun p hj => ?_)
    . exact ⟨Nat.zero_le _, Nat.le_refl _, rfl, by rw [← hR]; rfl, hs, PB⟩
    . dsimp only
      refine (Dy (c:=n+4) (i:=3) (m:=5) (cs:=[.i .i64 5,.i .i64 0,.s ⟨#[]⟩,.e0,.e0]) ?_ rfl).trans (Ac ?_ (Ae.sub (Ae.cons ?_ (Ae.cons ?_ (Ae.cons ?_ (Ae.cons ?_ (Ae.cons ?_ (Ae.cons ?_ (Ae.base hf fun i hi hx=>?_)))))))) (zna _))
      all_goals first
        | (simp only [List.mem_cons, List.not_mem_nil, or_false, not_or] at hx
           simp only [AC]
           repeat rw [if_neg (by omega)]
           done)
        | ((simp (disch := omega) only [Aa, hc, go_sem])
           first | done | rfl | (simp;done))
    obtain ⟨j,acc,s',g,m⟩:=p
    obtain ⟨Cm,Ba,Aw,Cc,Dt,LS⟩:=hj
    have JH:(Ad A2 acc).length=acc.length:=Ax _ _
    have JJ : (Ad A2 acc).take acc.length = Ad A2 acc := List.take_of_length_le (by omega)
    dsimp only
    simp (disch:=omega) only [Aa,go_sem]
    refine Ai (fun q=>?_) (fun q=>?_)
    . have q1 : j < ([v]).length := by
        have:=of_decide_eq_true (Bool.and_eq_true_iff.mp q).1
        first
          | exact Int.ofNat_lt.1 this
          | (show j<1;omega)
      have q2:s'.2=0:=of_decide_eq_true (Bool.and_eq_true_iff.mp q).2
      obtain ⟨x,ex⟩:∃x,([v])[j]?=some x:=⟨_,zlg q1⟩
      have eg:=Ab A2 ex
      (have eg : ([[AV.i .i64 v.k, .i .i64 v.n, .s v.s, .ds (Ad A2 v.items), .ds (Bv v.keys)]] : List (List AV))[j]? = some [AV.i .i64 x.k, .i .i64 x.n, .s x.s, .ds (Ad A2 x.items), .ds (Bv x.keys)] := by rw [← Bz v, ← Bz x]; exact eg)
      obtain ⟨xf,xr⟩:=hlx x (zla ex)
      obtain ⟨⟨f1,f2,f3⟩,f4⟩:=ih lit tn tw x s' Fk xf xr q2 (LS q2)
      rw [A5 ex,Hc _ _ _ _ q2] at Cc
      obtain ⟨Y,hY⟩:∃Y,CU doc k lit tn tw x s'=Y:=⟨_,rfl⟩
      rw [hY] at f1 f2 f3 f4 Cc
      have w1:IntKind.i64.wrap (((25 - k:Nat):Int)+1)=((26 - k:Nat):Int):=by
        have := At (25 - k) (by omega)
        rw [this]
        congr 1
        omega
      have q1' : ¬ j = ([v]).length := by omega
      simp (disch:=omega) only [Aa,q1,true_and,w1,go_sem]
      (refine ⟨q1,?_⟩;rw [eg];(simp (disch:=omega) only [Aa,w1,go_sem]))
      refine A3.w (ws := [(c, BI doc lit Y.2)]) (PH (s := s') ?_ (by omega)) rfl (fun Ao e => f4 Ao c _ ((e c (.inl (by omega))).trans ?_)) ?_
      case refine_3 =>
        have u1 : ¬ c = m + 9 := by omega
        have u2 : ¬ m + 9 = n := by omega
        have u6 : ¬ m + 6 = n := by omega
        have u3 : (acc.length + 1) * 80 ≤ 140737488355328 := by omega
        have u4 : acc.length ≤ 9223372036854775806 := by omega
        simp (disch:=omega) only [Aa,JH,go_sem]
        refine ⟨⟨u1, u6, u6, u2⟩, u3, u4, .mk (j + 1) (acc ++ [Y.1]) Y.2 (g + 1) (m + 30), ⟨show j + 1 ≤ ([v]).length by omega, show n + 6 ≤ m + 30 by omega, by show (acc ++ [Y.1]).length = j + 1; simp; omega, by show R = _; rw [Cc]; simp, f1, f2⟩, by show ([v]).length - (j + 1) < ([v]).length - j; omega, ?_⟩
        dsimp only
        refine Ac ?_ (Ae.sub (Ae.cons ?_ (Ae.cons ?_ (Ae.cons ?_ (Ae.cons ?_ (Ae.cons ?_ (Ae.cons ?_ (Ae.base hf fun i hi hx => ?_)))))))) (by omega)
        all_goals first
          | (simp only [List.mem_cons, List.not_mem_nil, or_false, not_or] at hx
             simp only [AC]
             repeat rw [if_neg (by omega)]
             done)
          | ((simp (disch := omega) only [Aa, JH, BI, CW, At j (by omega), List.length_append, List.length_cons, List.length_nil, go_sem])
             first | done | rfl | (simp;done))
      all_goals
        simp only [BI]
        simp (disch:=omega) only [Aa,go_sem]
    . have Cc : R = (acc, s') := by
        by_cases q2:s'.2=0
        . have : j = ([v]).length := by
            simp [q2] at q
            first
              | omega
              | (have hj1':j≤1:=Cm;show j=1;omega)
          rw [this,zll] at Cc
          rw [Cc]
          simp [ID]
        . rw [Lb _ _ _ q2] at Cc
          rw [Cc]
          simp
      subst Cc
      simp (disch:=omega) only [Aa,JH,go_sem]
      exact B3 (Av _ _ _) fun j hj j1 => Aq _ _ fun e => j1 e.symm
theorem LJ (l:List B6) (hl:l.length≤1000000000000) (i:Nat) (x:B6) (ei:l[i]?=some x) (hp:CH) (m:Nat):Ah prog 188 hp m [.ds (Ad A7 l),.i .i64 i] (.b (decide (x.n∈(l.take i).map B6.n))):=by
 have SR:i<l.length:=(List.getElem?_eq_some_iff.1 ei).1
 obtain ⟨R,hR⟩:∃R,decide (x.n∈(l.take i).map B6.n)=R:=⟨_,rfl⟩
 rw [hR]
 refine Am func188 (by kernel_rfl) cc188 cr188 rfl fun hf=>?_;unfold ck188
 simp only [go_sem]
 refine loop (fun p:Nat × Nat=>⟨[(0,.ds (Ad A7 l)),(1,.i .i64 i),(5,.i .i64 p.1)],hp,p.2⟩) (fun p=>p.1≤i∧m≤p.2∧R=decide (x.n∈((l.take i).drop p.1).map B6.n)) (fun p=>i - p.1) (0,m) ?_ ?_ (fun ⟨j,n⟩ hj=>?_)
 .exact ⟨by simp,by simp,hR.symm⟩
 .refine Ac ?_ (A6.refl _) (zna _)
  simp only [go_sem]
 dsimp only at hj
 obtain ⟨Cm,Ba,Aw⟩:=hj
 simp (disch:=omega) only [Aa,go_sem]
 refine Ai (fun q=>?_) (fun q=>?_)
 .have q:j<i:=by simp at q;omega
  have q2:j<l.length:=by omega
  obtain ⟨y,ey⟩:∃y,l[j]?=some y:=⟨l[j],by simp [q2]⟩
  have ey2:(l.take i)[j]?=some y:=by rw [List.getElem?_take,if_pos q];exact ey
  rw [A5 ey2] at Aw
  have Aw:R=decide (x.n∈y.n::((l.take i).drop (j+1)).map B6.n):=Aw
  simp (disch:=omega) only [Aa,q2,SR,Ag (Ab A7 ey),Ag (Ab A7 ei),go_sem]
  refine Ai (fun w=>?_) (fun w=>?_)
  .have w:y.n=x.n:=by simpa using w
   have:R=true:=by rw [Aw];simp [w]
   subst this
   simp (disch:=omega) only [Aa,Ba,go_sem]
  .have w:¬y.n=x.n:=by simpa using w
   have w':¬x.n=y.n:=fun e=>w e.symm
   simp (disch:=omega) only [Aa,go_sem]
   refine ⟨(j+1,_),⟨by dsimp only;omega,by dsimp only;omega,by rw [Aw];simp [w']⟩,by dsimp only;omega,Ac ?_ (A6.refl _) (zna _)⟩
   simp (disch:=omega) only [Aa,At j (by omega),go_sem]
 .have q:j=i:=by simp at q;omega
  subst q
  have:R=false:=by rw [Aw];simp
  subst this
  simp (disch:=omega) only [Aa,Ba,go_sem]
theorem P8 (doc:List Az) (k:Nat) (hk:k≤24) (ih:CoK doc k) (lit:Bool) (tn:ByteArray) (tw:List Int) (v:Ak) (s:AP) (Fk:tw.length≤1000000000) (hv:v.Fit) (hr:v.Rng) (hs:s.2=0) (PB:s.1≤4096)
  (hp:CH) (c n:Nat) (h:gc hp c=BI doc lit s):AQ prog 189 hp n [.bx c 0,DC tn tw,vx v,.i .i64 ((26 - k:Nat):Int)] ([(c,BI doc lit (CU doc k true tn tw v s).2)]++hp) n (vx (CU doc k true tn tw v s).1):=by
 have Gb:(∀k,n≤k→gc hp k=.no)→wsLt n [(c,BI doc lit (CU doc k true tn tw v s).2)]:=fun hf=>EZ (CR h hf)
 have hc:=h
 unfold BI at hc
 obtain ⟨⟨f1,f2,f3⟩,f4⟩:=ih true tn tw v s Fk hv hr hs PB
 obtain ⟨Y,hY⟩:∃Y,CU doc k true tn tw v s=Y:=⟨_,rfl⟩
 rw [hY] at f1 f2 f3 f4 Gb ⊢
 refine CP func189 (by kernel_rfl) cc189 cr189 rfl Gb fun hf=>?_;unfold ck189
 have l1:=CR h hf
 simp (disch:=omega) only [Aa,hc,go_sem]
 have k1:¬n+11=c:=by omega
 refine ⟨k1,k1,?_⟩
 refine Af.x (f4 _ c _ (Av _ _ _)) ?_
 simp only [BI,zlh,zli]
 simp (disch:=omega) only [Aa,go_sem]
 try trace_state
 all_goals
  refine B3 (Av _ _ _) fun j hj j1=>?_
  repeat rw [Aq _ _ (by omega)]
theorem Lj (is:List B6) (ks:List ByteArray) (s:AP):(QA is ks s).1=s.1:=by
 unfold QA
 induction ks generalizing s with
 | nil=>rfl
 | cons a ks ih =>
  rw [List.foldl_cons,ih]
  split<;>rfl
theorem Vt {is:List B6} {ks:List ByteArray} {j:Nat} {a:ByteArray} (s:AP) (e:ks[j]?=some a):QA is (ks.take (j+1)) s=if (BN is a).isSome=true then QA is (ks.take j) s else BV 22 (QA is (ks.take j) s):=by
 unfold QA
 rw [List.take_add_one,e,List.foldl_append]
 rfl
theorem Qp {v:Ak} (hv:v.Fit) (hr:v.Rng) (k:ByteArray):((AF v k).getD AB).Fit∧((AF v k).getD AB).Rng:=by
 cases h:AF v k with
 | none=>exact ⟨.mk _ (by show 0*80≤_;decide) (by show 0*16≤_;decide) (fun x (hx:x∈([]:List Ak))=>(by cases hx)),.mk _ (by show (-9223372036854775808:Int)≤0;decide) (by show (0:Int)≤_;decide) (fun x (hx:x∈([]:List Ak))=>(by cases hx))⟩
 | some y =>
  have hm:y∈v.items:=by
   unfold AF at h
   split at h
   .split at h
    .exact zla h
    .cases h
   .cases h
  exact ⟨hv.x hm,hr.x hm⟩
theorem JB (acc:List Ak):Ad A2 acc++[[AV.i .i64 0,.i .i64 0,.s ⟨#[]⟩,.ds [],.ds []]]=Ad A2 (acc++[.mk 0 0 ⟨#[]⟩ [] []]):=by
 rw [←Bi,Bz]
 rfl
theorem T6 (lit:Bool) (Fl Fp:ByteArray→List Int→Ak→AP→Ak × AP) (v:Ak) (pre l:List B6) (s:AP) (h:s.2≠0):LX lit Fl Fp v pre l s=(([],[]),s):=by
 cases l with
 | nil=>rfl
 | cons x l=>rw [LX,if_neg h]
theorem U2 (l:List ByteArray) (a:ByteArray):Ad C9 l++[[AV.s a]]=Ad C9 (l++[a]):=Bi C9 l a
inductive KyS
 | mk (j n:Nat)
inductive ObS
 | mk (j:Nat) (ack:List ByteArray) (acc:List Ak) (s:AP) (g g2 n:Nat)
theorem Ng (doc:List Az) (k:Nat) (hk1:1≤k) (hk:k≤24) (ih:CoK doc k) (lit:Bool) (t:Az) (is:List B6) (ht:t.inputs=Ad A7 is) (Md:is.length≤16) (Ij:∀x∈is,Gt x∧x.n.size≤64) (v:Ak) (s:AP) (hv:v.Fit) (hr:v.Rng) (hs:s.2=0) (PB:s.1≤4096)
    (hp:CH) (c n:Nat) (h:gc hp c=BI doc lit s):AQ prog 186 hp n [.bx c 0,JN t,vx v,.i .i64 ((25 - k:Nat):Int)] ([(c,BI doc lit (Mj lit (CU doc k lit) (CU doc k true) is v s).2)]++hp) n (vx (Mj lit (CU doc k lit) (CU doc k true) is v s).1):=by
  have Gb : (∀ k, n ≤ k → gc hp k = .no) → wsLt n [(c, BI doc lit (Mj lit (CU doc k lit) (CU doc k true) is v s).2)] := fun hf => EZ (CR h hf)
  have hc:=h
  unfold BI at hc
  have hF := fun (Ao : CH) (e : gc Ao c = gc hp c) (n' : Nat) => Cv (hp := Ao) (e.trans h) 23 n'
  have Hq := fun (s' : AP) (Ao : CH) (e : gc Ao c = BI doc lit s') (e2 : Int) (n' : Nat) => Cv (hp := Ao) e e2 n'
  obtain ⟨RR,AD⟩:∃RR,Mj lit (CU doc k lit) (CU doc k true) is v s=RR:=⟨_,rfl⟩
  rw [AD] at Gb ⊢
  unfold Mj at AD
  simp only [JN]
  rw [ht]
  have LR:=hv.l
  refine CP func186 (by kernel_rfl) cc186 cr186 rfl Gb fun hf => ?_; unfold ck186
  have l1:=CR h hf
  by_cases k6:v.k=6
  case neg =>
    rw [if_neg k6] at AD
    subst AD
    simp (disch:=omega) only [Aa,hc,decide_eq_false k6,go_sem]
    refine Af.x (hF _ (by repeat rw [Aq _ _ (by omega)]) _) ?_
    simp (disch:=omega) only [Aa,go_sem]
    all_goals
      refine B3 (Av _ _ _) fun j hj j1=>?_
      try simp only [zlh,zli]
      repeat rw [Aq _ _ (by omega)]
      try rfl
  rw [if_pos k6] at AD
  simp (disch:=omega) only [Aa,hc,decide_eq_true k6,go_sem]
  refine loop (fun p : KyS => match p with
    | .mk j m=>⟨[(0,.bx c 0),(3,.i .i64 ((25 - k:Nat):Int)),(5,.bx n 0),(6,.bx (n+1) 0),(8,.bx (n+2) 0),(9,.i .i64 j)],
      (n+2,.bx [.i .i64 0,.i .i64 0,.s ⟨#[]⟩,.e0,.e0])::(n+1,.bx [.i .i64 v.k,.i .i64 v.n,.s v.s,.ds (Ad A2 v.items),.ds (Bv v.keys)])::(n,.bx [.i .i64 t.k,.s t.n,.ds t.impl,.ds t.dirs,.ds (Ad Bq t.fields),.ds t.members,.ds (Ad A7 is)]) ::
      (c,.bx [.ds (Ad BB doc),.i .i64 0,.i .i64 0,.s ⟨#[]⟩,.e0,.e0,.b lit,.i .i64 (QA is (v.keys.take j) s).1,.i .i64 (QA is (v.keys.take j) s).2])::hp,m⟩)
    (fun p => match p with | .mk j m => j ≤ v.keys.length ∧ n + 3 ≤ m) (fun p => match p with | .mk j m => v.keys.length - j) (.mk 0 (n + 3)) ?_ ?_ (fun p hj => ?_)
  . exact ⟨Nat.zero_le _, Nat.le_refl _⟩
  . dsimp only
    refine Ac ?_ (Ae.sub (Ae.cons ?_ (Ae.cons ?_ (Ae.cons ?_ (Ae.cons ?_ (Ae.base hf fun i hi hx=>?_)))))) (zna _)
    all_goals first
      | (simp only [List.mem_cons, List.not_mem_nil, or_false, not_or] at hx
         simp only [AC]
         repeat rw [if_neg (by omega)]
         done)
      | ((simp (disch := omega) only [Aa, hc, go_sem])
         first | done | rfl | (simp;done))
  obtain ⟨j,m⟩:=p
  obtain ⟨Cm,Ba⟩:=hj
  dsimp only
  simp (disch:=omega) only [Aa,go_sem]
  refine Ai (fun q=>?_) (fun q=>?_)
  . have q : j < v.keys.length := by simpa using q
    obtain ⟨a,ea⟩:∃x,v.keys[j]?=some x:=⟨_,zlg q⟩
    have hI := Dl is (by omega) a
    have e1:=Vt (is:=is) s ea
    obtain ⟨X,hX⟩:∃X,BN is a=X:=⟨_,rfl⟩
    rw [hX] at hI e1
    unfold Ns at hI
    obtain ⟨y,hy⟩:∃y,X.getD Sp=y:=⟨_,rfl⟩
    rw [hy] at hI
    obtain ⟨xb,hxb⟩:∃y,X.isSome=y:=⟨_,rfl⟩
    rw [hxb] at hI e1
    simp only [A7] at hI
    obtain ⟨S,hS⟩:∃S,QA is (v.keys.take j) s=S:=⟨_,rfl⟩
    rw [hS] at e1
    have u2 : ¬ m + 10 = n := by omega
    have u3 : ¬ m + 11 = n := by omega
    simp (disch:=omega) only [Aa,q,Ag (Ab C9 ea),hS,go_sem]
    refine A3.f (fun _ _ _ => hI _ _) ?_
    cases xb with
    | true =>
      rw [if_pos rfl] at e1
      simp (disch:=omega) only [Aa,q,Ag (Ab C9 ea),hS,go_sem]
      refine ⟨⟨u2,u3⟩,?_⟩
      refine ⟨.mk (j + 1) (m + 40), ⟨show j + 1 ≤ v.keys.length by omega, show n + 3 ≤ m + 40 by omega⟩, by show v.keys.length - (j + 1) < v.keys.length - j; omega, ?_⟩
      dsimp only
      refine Ac ?_ (Ae.sub (Ae.cons ?_ (Ae.cons ?_ (Ae.cons ?_ (Ae.cons ?_ (Ae.base hf fun i hi hx => ?_)))))) (by omega)
      all_goals first
        | (simp only [List.mem_cons, List.not_mem_nil, or_false, not_or] at hx
           simp only [AC]
           repeat rw [if_neg (by omega)]
           done)
        | ((simp (disch := omega) only [Aa, At j (by omega), e1, BI, go_sem])
           first | done | rfl | (simp;done))
    | false =>
      rw [if_neg (by decide)] at e1
      simp (disch:=omega) only [Aa,q,Ag (Ab C9 ea),hS,go_sem]
      refine ⟨⟨u2,u3⟩,?_⟩
      refine Af.x (Hq S _ (by (repeat rw [Aq _ _ (by omega)]); exact Av _ _ _) 22 _) ?_
      simp only [zlh,zli]
      simp (disch:=omega) only [Aa,go_sem]
      refine ⟨.mk (j + 1) (m + 40), ⟨show j + 1 ≤ v.keys.length by omega, show n + 3 ≤ m + 40 by omega⟩, by show v.keys.length - (j + 1) < v.keys.length - j; omega, ?_⟩
      dsimp only
      refine Ac ?_ (Ae.sub (Ae.cons ?_ (Ae.cons ?_ (Ae.cons ?_ (Ae.cons ?_ (Ae.base hf fun i hi hx => ?_)))))) (by omega)
      all_goals first
        | (simp only [List.mem_cons, List.not_mem_nil, or_false, not_or] at hx
           simp only [AC]
           repeat rw [if_neg (by omega)]
           done)
        | ((simp (disch := omega) only [Aa, At j (by omega), e1, BI, go_sem])
           first | done | rfl | (simp;done))
  have q : j = v.keys.length := by simp at q; omega
  subst q
  rw [List.take_length]
  have QO:=Lj is v.keys s
  obtain ⟨S,hS⟩:∃S,QA is v.keys s=S:=⟨_,rfl⟩
  rw [hS] at QO AD ⊢
  simp (disch:=omega) only [Aa,go_sem]
  have hS0 : S.2 = 0 → S.1 ≤ 4096 := fun _ => by omega
  obtain ⟨Q,hQ⟩:∃Q,LX lit (CU doc k lit) (CU doc k true) v [] is S=Q:=⟨_,rfl⟩
  rw [hQ] at AD
  have AD:(Ak.mk 6 0 ⟨#[]⟩ Q.1.2 Q.1.1,Q.2)=RR:=AD
  subst AD
  refine loop (fun p : ObS => match p with
    | .mk j ack acc s' g g2 q=>⟨[(0,.bx c 0),(3,.i .i64 ((25 - k:Nat):Int)),(5,.bx n 0),(6,.bx (n+1) 0),(8,.bx (n+2) 0),(12,.bx m 0),(13,.i .i64 j)],
      (m,.bx [.i .i64 6,.i .i64 0,.s ⟨#[]⟩,.rw (m+1) g acc.length,.rw (m+2) g2 ack.length])::(m+1,.rw g 5 (Ad A2 acc))::(m+2,.rw g2 1 (Bv ack))::(n+2,.bx [.i .i64 0,.i .i64 0,.s ⟨#[]⟩,.e0,.e0])::(n+1,.bx [.i .i64 v.k,.i .i64 v.n,.s v.s,.ds (Ad A2 v.items),.ds (Bv v.keys)])::(n,.bx [.i .i64 t.k,.s t.n,.ds t.impl,.ds t.dirs,.ds (Ad Bq t.fields),.ds t.members,.ds (Ad A7 is)]) ::
      (c,.bx [.ds (Ad BB doc),.i .i64 0,.i .i64 0,.s ⟨#[]⟩,.e0,.e0,.b lit,.i .i64 s'.1,.i .i64 s'.2])::hp,q⟩)
    (fun p => match p with | .mk j ack acc s' g g2 q => j ≤ is.length ∧ m + 3 ≤ q ∧ acc.length = ack.length ∧ ack.length ≤ j ∧ Q = ((ack ++ (LX lit (CU doc k lit) (CU doc k true) v (is.take j) (is.drop j) s').1.1, acc ++ (LX lit (CU doc k lit) (CU doc k true) v (is.take j) (is.drop j) s').1.2), (LX lit (CU doc k lit) (CU doc k true) v (is.take j) (is.drop j) s').2) ∧ s'.1 ≤ 4097 ∧ (s'.2 = 0 → s'.1 ≤ 4096))
    (fun p => match p with | .mk j ack acc s' g g2 q => is.length - j) (.mk 0 [] [] S 0 0 (m + 3)) ?_ ?_ (fun p hj => ?_)
  . exact ⟨Nat.zero_le _, Nat.le_refl _, rfl, Nat.le_refl _, by rw [← hQ]; rfl, by omega, hS0⟩
  . dsimp only
    refine ((Dy (c:=m) (i:=3) (m:=5) (cs:=[.i .i64 6,.i .i64 0,.s ⟨#[]⟩,.e0,.e0]) ?_ rfl).trans (Dy (c:=m) (i:=4) (m:=1) (cs:=[.i .i64 6,.i .i64 0,.s ⟨#[]⟩,.rw (m+1) 0 0,.e0]) ?_ rfl)).trans (Ac ?_ (Ae.sub (Ae.cons ?_ (Ae.cons ?_ (Ae.cons ?_ (Ae.cons ?_ (Ae.cons ?_ (Ae.cons ?_ (Ae.cons ?_ (Ae.base hf fun i hi hx=>?_))))))))) (zna _))
    all_goals first
      | (simp only [List.mem_cons, List.not_mem_nil, or_false, not_or] at hx
         simp only [AC]
         repeat rw [if_neg (by omega)]
         done)
      | ((simp (disch := omega) only [Aa, hc, go_sem])
         first | done | rfl | (simp;done))
  obtain ⟨j,ack,acc,s',g,g2,m2⟩:=p
  obtain ⟨Cm,Ba,Aw,Cc,Dt,LS,hj7⟩:=hj
  have JH:(Ad A2 acc).length=acc.length:=Ax _ _
  have SQ:(Bv ack).length=ack.length:=Ax _ _
  dsimp only
  simp (disch:=omega) only [Aa,go_sem]
  refine Ai (fun q=>?_) (fun q=>?_)
  case' refine_2 =>
    have hE:LX lit (CU doc k lit) (CU doc k true) v (is.take j) (is.drop j) s'=(([],[]),s'):=by
      by_cases q2:s'.2=0
      . have : j = is.length := by simp [q2] at q; omega
        rw [this,zll]
        rfl
      . exact T6 _ _ _ _ _ _ _ q2
    have Dt : Q = ((ack, acc), s') := by rw [Dt, hE]; simp
    subst Dt
    simp (disch:=omega) only [Aa,JH,SQ,go_sem]
    exact B3 (Av _ _ _) fun j hj j1 => Aq _ _ fun e => j1 e.symm
  have q1:j<is.length:=Int.ofNat_lt.1 (of_decide_eq_true (Bool.and_eq_true_iff.mp q).1)
  have q2:s'.2=0:=of_decide_eq_true (Bool.and_eq_true_iff.mp q).2
  obtain ⟨x,ex⟩:∃x,is[j]?=some x:=⟨_,zlg q1⟩
  obtain ⟨⟨x1,⟨x2,x3⟩,x4⟩,x5⟩:=Ij x (zla ex)
  have hEa := LJ is (by omega) j x ex
  have hG:=Iw v hv x.n
  have tk:is.take j++[x]=is.take (j+1):=Bg ex
  rw [A5 ex,LX,if_pos q2,tk] at Dt
  simp (disch:=omega) only [Aa,q1,Ag (Ab A7 ex),go_sem]
  refine Af.f (hEa _ _) ?_
  by_cases w1:x.n∈(is.take j).map B6.n
  . rw [if_pos w1] at Dt
    simp (disch:=omega) only [Aa,decide_eq_true w1,go_sem]
    refine ⟨.mk (j + 1) (ack) (acc) (s') (g) (g2) (m2 + 80), ⟨show j + 1 ≤ is.length by omega, show m + 3 ≤ m2 + 80 by omega, by show List.length _ = List.length _; simp [Aw], by show List.length _ ≤ j + 1; first | omega | (simp; omega), by show Q = _; rw [Dt]; try simp, LS, hj7⟩, by show is.length - (j + 1) < is.length - j; omega, ?_⟩
    dsimp only
    refine Ac ?_ (Ae.sub (Ae.cons ?_ (Ae.cons ?_ (Ae.cons ?_ (Ae.cons ?_ (Ae.cons ?_ (Ae.cons ?_ (Ae.cons ?_ (Ae.base hf fun i hi hx => ?_))))))))) (by omega)
    all_goals first
      | (simp only [List.mem_cons, List.not_mem_nil, or_false, not_or] at hx
         simp only [AC]
         repeat rw [if_neg (by omega)]
         done)
      | ((simp (disch := omega) only [Aa, JH, SQ, BI, CW, U2, At j (by omega), List.length_append, List.length_cons, List.length_nil, go_sem])
         first | done | exact JB acc | (rw [←Bi,Bz];rfl) | rfl | (simp;done))
  rw [if_neg w1] at Dt
  simp (disch:=omega) only [Aa,decide_eq_false w1,go_sem]
  refine Af.f (hG _ _) ?_
  have hyf:((AF v x.n).getD AB).Fit∧((AF v x.n).getD AB).Rng:=Qp hv hr x.n
  obtain ⟨o,ho⟩:∃o,AF v x.n=o:=⟨_,rfl⟩
  rw [ho] at Dt hyf ⊢
  unfold Na
  obtain ⟨y,hy⟩:∃y,o.getD AB=y:=⟨_,rfl⟩
  rw [hy] at Dt hyf ⊢
  obtain ⟨ob,hob⟩:∃y,o.isSome=y:=⟨_,rfl⟩
  rw [hob] at Dt ⊢
  have hM := fun (Ao : CH) (e : gc Ao c = BI doc lit s') (n' : Nat) => GU (hp := Ao) e y n'
  obtain ⟨mb,hmb⟩:∃b,(lit&&decide (y.k=7))=b:=⟨_,rfl⟩
  rw [hmb] at Dt
  simp only [hmb] at hM
  have wl:IntKind.i64.wrap (((25 - k:Nat):Int)+1)=((26 - k:Nat):Int):=by
    have := At (25 - k) (by omega)
    rw [this]
    congr 1
    omega
  have u3 : (acc.length + 1) * 80 ≤ 140737488355328 := by omega
  have u4 : acc.length ≤ 9223372036854775806 := by omega
  have u5 : (ack.length + 1) * 16 ≤ 140737488355328 := by omega
  have u6 : ack.length ≤ 9223372036854775806 := by omega
  simp (disch:=omega) only [Aa,go_sem]
  refine AA.f (fun _ => hM _ (by (repeat rw [Aq _ _ (by omega)]); exact Av _ _ _) _) ?_
  simp (disch:=omega) only [Aa,go_sem]
  refine Ai (fun w=>?_) (fun w=>?_)
  . have wA : ob = true ∧ mb = false := by simpa using w
    rw [if_pos wA] at Dt
    obtain ⟨⟨f1, f2, f3⟩, f4⟩ := ih lit x.tn x.tw y s' (by omega) hyf.1 hyf.2 q2 (hj7 q2)
    obtain ⟨Y,hY⟩:∃Y,CU doc k lit x.tn x.tw y s'=Y:=⟨_,rfl⟩
    rw [hY] at f1 f2 f3 f4 Dt
    dsimp only at Dt
    simp (disch:=omega) only [Aa,wl,go_sem]
    refine Af.x (f4 _ c _ (by (repeat rw [Aq _ _ (by omega)]); exact Av _ _ _)) ?_
    simp only [BI,zlh,zli]
    simp (disch:=omega) only [Aa,JH,SQ,u3,u4,u5,u6,true_and,go_sem]
    refine ⟨.mk (j + 1) (ack ++ [x.n]) (acc ++ [Y.1]) (Y.2) (g + 1) (g2 + 1) (m2 + 80), ⟨show j + 1 ≤ is.length by omega, show m + 3 ≤ m2 + 80 by omega, by show List.length _ = List.length _; simp [Aw], by show List.length _ ≤ j + 1; first | omega | (simp; omega), by show Q = _; rw [Dt]; try simp, f1, f2⟩, by show is.length - (j + 1) < is.length - j; omega, ?_⟩
    dsimp only
    refine Ac ?_ (Ae.sub (Ae.cons ?_ (Ae.cons ?_ (Ae.cons ?_ (Ae.cons ?_ (Ae.cons ?_ (Ae.cons ?_ (Ae.cons ?_ (Ae.base hf fun i hi hx => ?_))))))))) (by omega)
    all_goals first
      | (simp only [List.mem_cons, List.not_mem_nil, or_false, not_or] at hx
         simp only [AC]
         repeat rw [if_neg (by omega)]
         done)
      | ((simp (disch := omega) only [Aa, JH, SQ, BI, CW, U2, At j (by omega), List.length_append, List.length_cons, List.length_nil, go_sem])
         first | done | exact JB acc | (rw [←Bi,Bz];rfl) | rfl | (simp;done))
  have wA : ¬ (ob = true ∧ mb = false) := by intro e; simp [e.1, e.2] at w
  rw [if_neg wA] at Dt
  simp (disch:=omega) only [Aa,go_sem]
  refine Ai (fun w3=>?_) (fun w3=>?_)
  . rw [if_pos w3] at Dt
    obtain ⟨⟨f1, f2, f3⟩, f4⟩ := ih true x.tn x.tw x.d s' (by omega) x2 x3 q2 (hj7 q2)
    have hP := fun (Ao : CH) (e : gc Ao c = BI doc lit s') (n' : Nat) => P8 doc k hk ih lit x.tn x.tw x.d s' (by omega) x2 x3 q2 (hj7 q2) Ao c n' e
    obtain ⟨Y,hY⟩:∃Y,CU doc k true x.tn x.tw x.d s'=Y:=⟨_,rfl⟩
    rw [hY] at f1 f2 f3 Dt
    simp only [hY] at hP
    dsimp only at Dt
    simp (disch:=omega) only [Aa,wl,go_sem]
    refine Af.x (hP _ (by (repeat rw [Aq _ _ (by omega)]); exact Av _ _ _) _) ?_
    simp only [BI,zlh,zli]
    simp (disch:=omega) only [Aa,JH,SQ,u3,u4,u5,u6,true_and,go_sem]
    refine ⟨.mk (j + 1) (ack ++ [x.n]) (acc ++ [Y.1]) (Y.2) (g + 1) (g2 + 1) (m2 + 80), ⟨show j + 1 ≤ is.length by omega, show m + 3 ≤ m2 + 80 by omega, by show List.length _ = List.length _; simp [Aw], by show List.length _ ≤ j + 1; first | omega | (simp; omega), by show Q = _; rw [Dt]; try simp, f1, f2⟩, by show is.length - (j + 1) < is.length - j; omega, ?_⟩
    dsimp only
    refine Ac ?_ (Ae.sub (Ae.cons ?_ (Ae.cons ?_ (Ae.cons ?_ (Ae.cons ?_ (Ae.cons ?_ (Ae.cons ?_ (Ae.cons ?_ (Ae.base hf fun i hi hx => ?_))))))))) (by omega)
    all_goals first
      | (simp only [List.mem_cons, List.not_mem_nil, or_false, not_or] at hx
         simp only [AC]
         repeat rw [if_neg (by omega)]
         done)
      | ((simp (disch := omega) only [Aa, JH, SQ, BI, CW, U2, At j (by omega), List.length_append, List.length_cons, List.length_nil, go_sem])
         first | done | exact JB acc | (rw [←Bi,Bz];rfl) | rfl | (simp;done))
  rw [if_neg (by simp [w3])] at Dt
  have hN := D0 x.tn x.tw (by omega)
  simp (disch:=omega) only [Aa,go_sem]
  refine Af.f (hN _ _) ?_
  simp (disch:=omega) only [Aa,go_sem]
  refine Ai (fun w4=>?_) (fun w4=>?_)
  . rw [if_pos w4] at Dt
    dsimp only at Dt
    simp (disch:=omega) only [Aa,go_sem]
    refine Af.x (Hq s' _ (by (repeat rw [Aq _ _ (by omega)]); exact Av _ _ _) 22 _) ?_
    simp only [BI,zlh,zli]
    simp (disch:=omega) only [Aa,JH,SQ,u3,u4,u5,u6,true_and,go_sem]
    refine ⟨.mk (j + 1) (ack ++ [x.n]) (acc ++ [AB]) (BV 22 s') (g + 1) (g2 + 1) (m2 + 80), ⟨show j + 1 ≤ is.length by omega, show m + 3 ≤ m2 + 80 by omega, by show List.length _ = List.length _; simp [Aw], by show List.length _ ≤ j + 1; first | omega | (simp; omega), by show Q = _; rw [Dt]; try simp, LS, fun e => absurd e (by simp [BV, q2])⟩, by show is.length - (j + 1) < is.length - j; omega, ?_⟩
    dsimp only
    refine Ac ?_ (Ae.sub (Ae.cons ?_ (Ae.cons ?_ (Ae.cons ?_ (Ae.cons ?_ (Ae.cons ?_ (Ae.cons ?_ (Ae.cons ?_ (Ae.base hf fun i hi hx => ?_))))))))) (by omega)
    all_goals first
      | (simp only [List.mem_cons, List.not_mem_nil, or_false, not_or] at hx
         simp only [AC]
         repeat rw [if_neg (by omega)]
         done)
      | ((simp (disch := omega) only [Aa, JH, SQ, BI, CW, U2, At j (by omega), List.length_append, List.length_cons, List.length_nil, go_sem])
         first | done | exact JB acc | (rw [←Bi,Bz];rfl) | rfl | (simp;done))
  . rw [if_neg (by simp [w4])] at Dt
    simp (disch:=omega) only [Aa,go_sem]
    refine ⟨.mk (j + 1) (ack) (acc) (s') (g) (g2) (m2 + 80), ⟨show j + 1 ≤ is.length by omega, show m + 3 ≤ m2 + 80 by omega, by show List.length _ = List.length _; simp [Aw], by show List.length _ ≤ j + 1; first | omega | (simp; omega), by show Q = _; rw [Dt]; try simp, LS, hj7⟩, by show is.length - (j + 1) < is.length - j; omega, ?_⟩
    dsimp only
    refine Ac ?_ (Ae.sub (Ae.cons ?_ (Ae.cons ?_ (Ae.cons ?_ (Ae.cons ?_ (Ae.cons ?_ (Ae.cons ?_ (Ae.cons ?_ (Ae.base hf fun i hi hx => ?_))))))))) (by omega)
    all_goals first
      | (simp only [List.mem_cons, List.not_mem_nil, or_false, not_or] at hx
         simp only [AC]
         repeat rw [if_neg (by omega)]
         done)
      | ((simp (disch := omega) only [Aa, JH, SQ, BI, CW, U2, At j (by omega), List.length_append, List.length_cons, List.length_nil, go_sem])
         first | done | exact JB acc | (rw [←Bi,Bz];rfl) | rfl | (simp;done))
end Go.Proofs.YtgfidgoefioigaaGreatDoor
