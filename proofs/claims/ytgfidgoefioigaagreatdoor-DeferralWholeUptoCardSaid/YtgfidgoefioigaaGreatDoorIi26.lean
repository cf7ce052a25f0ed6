/- Proof. Conditions: none. -/
import Derived.Lib.ItoaLen
import Derived.Test.YtgfidgoefioigaaGreatDoorIi25
open Go.Proofs.Tryz
open List renaming length_cons→zlc,length_append→zld,length_nil→zle,cons_append→zlh,nil_append→zli
open Nat renaming le_refl→zna
namespace Go.Proofs.YtgfidgoefioigaaGreatDoor
open Go.Eng
set_option linter.all false
set_option maxRecDepth 20000
set_option maxHeartbeats 1000000
section
variable {ks:List ByteArray} {fs:List Gq} {on:ByteArray} {picks:List Pk} {path:List Ak}
noncomputable def JO (ks:List ByteArray) (fs:List Gq) (on:ByteArray) (picks:List Pk) (path:List Ak) (j:Nat):List (Pk × Ge):=GT ks fs on path (picks.take j)
noncomputable def H5 (ks:List ByteArray) (fs:List Gq) (on:ByteArray) (picks:List Pk) (path:List Ak) (j:Nat):List Ea:=(JO ks fs on picks path j).flatMap (·.2.2)
noncomputable def R6 (ks:List ByteArray) (fs:List Gq) (on:ByteArray) (picks:List Pk) (path:List Ak) (j:Nat):List Ak:=(JO ks fs on picks path j).map (·.2.1)
noncomputable def Ra (ks:List ByteArray) (fs:List Gq) (on:ByteArray) (picks:List Pk) (path:List Ak) (j:Nat):List ByteArray:=(JO ks fs on picks path j).map (·.1.key)
noncomputable def Vi (ks:List ByteArray) (fs:List Gq) (on:ByteArray) (picks:List Pk) (path:List Ak) (j:Nat):Bool:=(JO ks fs on picks path j).any fun r=>HU r.1.tw r.2.1
theorem Oc {j:Nat} {p:Pk} (h:picks[j]?=some p):JO ks fs on picks path (j+1)=if p.on=on then JO ks fs on picks path j++[(p,itF ks fs p.key p.tn p.tw p.picks (path++[Hp p.key]))] else JO ks fs on picks path j:=by
 unfold JO
 rw [←Bg h,UM]
theorem Wr (j:Nat):(JO ks fs on picks path j).length≤j:=by
 unfold JO GT
 rw [List.length_map]
 have:=List.length_filter_le (fun p:Pk=>decide (p.on=on)) (picks.take j)
 rw [List.length_take] at this
 omega
theorem WV (j:Nat):(R6 ks fs on picks path j).length=(JO ks fs on picks path j).length:=by simp [R6]
theorem VZ (j:Nat):(Ra ks fs on picks path j).length=(JO ks fs on picks path j).length:=by simp [Ra]
theorem V0:∀{k:Nat} {j:Nat},j+k=picks.length→(H5 ks fs on picks path j).length≤(H5 ks fs on picks path picks.length).length
 | 0,j,h=>by rw [show j=picks.length by omega];exact zna _
 | k+1,j,h=>by
  have e:picks[j]?=some (picks[j]'(by omega)):=by simp [show j<picks.length by omega]
  have h1:=V0 (k:=k) (j:=j+1) (by omega)
  have h2:(H5 ks fs on picks path j).length≤(H5 ks fs on picks path (j+1)).length:=by
   unfold H5
   rw [Oc e]
   split
   .rw [List.flatMap_append,zld];omega
   .exact zna _
  omega
theorem WK:JZ ks fs on picks path=(if Vi ks fs on picks path picks.length=true then AB else LM (Ra ks fs on picks path picks.length) (R6 ks fs on picks path picks.length),H5 ks fs on picks path picks.length):=by
 unfold JZ Vi Ra R6 H5 JO
 rw [List.take_length]
end
theorem Q3 (o:Option Ak):Na o=.tp [vx (o.getD AB),.b o.isSome]:=by cases o<;>rfl
theorem RE (doc:List Az) (v:Ak) (hv:v.Fit) (h:∀x∈v.items,Mq doc x) (hz:Mq doc AB):Ad0 doc v:=by
  intro on picks path h6 hw2 LQ hwt hp c km kp gp P kq gq cap len n hR hq hl hP
  subst hl
  rw [WK] at hP ⊢
  have Bb:=LQ.len
  obtain ⟨fs,Of⟩:∃fs,v.items.map (Be doc)=fs:=⟨_,rfl⟩
  rw [Of] at hP ⊢
  dsimp only at hP ⊢
  have hPle : ∀ j, j ≤ picks.length → (H5 v.keys fs on picks path j).length ≤ (H5 v.keys fs on picks path picks.length).length := fun j hj => V0 (k := picks.length - j) (by omega)
  obtain ⟨RP,hRP⟩:∃RP,H5 v.keys fs on picks path picks.length=RP:=⟨_,rfl⟩
  obtain ⟨RV,hRV⟩:∃RV,(if Vi v.keys fs on picks path picks.length=true then AB else LM (Ra v.keys fs on picks path picks.length) (R6 v.keys fs on picks path picks.length))=RV:=⟨_,rfl⟩
  rw [hRP] at hP hPle ⊢
  rw [hRV]
  simp only [zlh,zli]
  have Gb : (∀ k, n ≤ k → gc hp k = .no) → wsLt n (E1 doc (Fw doc) c km kp gp P RP) := fun hf => hR.wsLt hf
  have n1:=hR.n1
  have n2:=hR.n2
  have n3:=hR.n3
  have q1 : kq ≠ c := fun e => by have := hR.hc; rw [← e, hq] at this; cases this
  have q2 : kq ≠ km := fun e => by have := hR.hm; rw [← e, hq] at this; cases this
  have q3 : kq ≠ kp := fun e => by have := hR.hk; rw [← e, hq] at this; cases this
  have hc:=hR.hc
  have hm:=hR.hm
  have hk:=hR.hk
  refine CP func116 (by kernel_rfl) cc116 cr116 rfl Gb fun hf => ?_; unfold ck116
  obtain ⟨l1,l2,l3⟩:=hR.lt hf
  have l4 : kq < n := BJ hf hq (fun e => by cases e)
  simp (disch:=omega) only [Aa,go_sem]
  refine loop (fun p : Nat × Nat => ⟨[(0, .bx c 0), (1, .s on), (3, .rw kq gq path.length), (9, .bx n 0), (10, .bx (n + 1) 0), (11, .bx (n + 2) 0), (12, .b (Vi v.keys fs on picks path p.1)), (20, .ds (Ad Bo picks)), (21, .i .i64 picks.length), (22, .i .i64 p.1)],
      (n+2,.bx [.i .i64 6,.i .i64 0,.s ⟨#[]⟩,.rw (n+3) (JO v.keys fs on picks path p.1).length (JO v.keys fs on picks path p.1).length,.rw (n+4) (JO v.keys fs on picks path p.1).length (JO v.keys fs on picks path p.1).length])::(n+3,.rw (JO v.keys fs on picks path p.1).length 5 (Ad A2 (R6 v.keys fs on picks path p.1)))::(n+4,.rw (JO v.keys fs on picks path p.1).length 1 (Bv (Ra v.keys fs on picks path p.1))) ::
      (n+1,.bx [.i .i64 0,.i .i64 0,.s ⟨#[]⟩,.e0,.e0])::(n,.bx [.i .i64 v.k,.i .i64 v.n,.s v.s,.ds (Ad A2 v.items),.ds (Bv v.keys)]) ::
      (kq,.rc gq 5 cap (Ad A2 path))::(kp,.rw (gp+(H5 v.keys fs on picks path p.1).length) 2 (Ad CZ (P++H5 v.keys fs on picks path p.1)))::(c,.bx [.ds (Ad BB doc),.mp km,.rw kp (gp+(H5 v.keys fs on picks path p.1).length) (P.length+(H5 v.keys fs on picks path p.1).length)])::(km,.mq (Fw doc))::hp,p.2⟩)
    (fun p => p.1 ≤ picks.length ∧ n + 5 ≤ p.2) (fun p => picks.length - p.1) (0, n + 5) ?_ ?_ (fun ⟨j, k⟩ hj => ?_)
  . exact ⟨by simp, by simp⟩
  . refine ((Dy (c := n + 2) (i := 3) (m := 5) (cs := [.i .i64 6, .i .i64 0, .s ⟨#[]⟩, .e0, .e0]) ?_ rfl).trans (Dy (c := n + 2) (i := 4) (m := 1) (cs := [.i .i64 6, .i .i64 0, .s ⟨#[]⟩, .rw (n + 3) 0 0, .e0]) ?_ rfl)).trans
      (Ac ?_ (Ae.sub (Ae.cons ?_ (Ae.cons ?_ (Ae.cons ?_ (Ae.cons ?_ (Ae.cons ?_ (Ae.cons ?_ (Ae.cons ?_ (Ae.cons ?_ (Ae.cons ?_ (Ae.base hf fun i hi hx=>?_))))))))))) (zna _))
    all_goals first
      | (simp only [List.mem_cons, List.not_mem_nil, or_false, not_or] at hx
         simp only [AC]
         repeat rw [if_neg (by omega)]
         done)
      | ((simp (disch := omega) only [Aa, H5, R6, Ra, Vi, JO, GT, List.take_zero, List.filter_nil, List.flatMap_nil, List.map_nil, List.append_nil, hq, hc, hk, hm, go_sem])
         first | done | rfl | (simp;done))
  dsimp only at hj
  obtain ⟨Cm,Ba⟩:=hj
  have oL:=WV (ks:=v.keys) (fs:=fs) (on:=on) (picks:=picks) (path:=path) j
  have kL:=VZ (ks:=v.keys) (fs:=fs) (on:=on) (picks:=picks) (path:=path) j
  have dL:=Wr (ks:=v.keys) (fs:=fs) (on:=on) (picks:=picks) (path:=path) j
  simp (disch:=omega) only [Aa,oL,kL,go_sem]
  refine Ai (fun q=>?_) (fun q=>?_)
  . have q : j < picks.length := by simpa using q
    obtain ⟨p, ex⟩ : ∃ p, picks[j]? = some p := ⟨picks[j], by simp [q]⟩
    have hpm:=List.mem_of_getElem? ex
    have e0:=Oc (ks:=v.keys) (fs:=fs) (on:=on) (path:=path) ex
    simp (disch:=omega) only [Aa,q,Ag (Ab Bo ex),go_sem]
    refine Ai (fun c1=>?_) (fun c1=>?_)
    . have c1 : ¬ p.on = on := by simpa using c1
      rw [if_neg c1] at e0
      have e1 : H5 v.keys fs on picks path (j + 1) = H5 v.keys fs on picks path j := by unfold H5; rw [e0]
      have e2 : R6 v.keys fs on picks path (j + 1) = R6 v.keys fs on picks path j := by unfold R6; rw [e0]
      have e3 : Ra v.keys fs on picks path (j + 1) = Ra v.keys fs on picks path j := by unfold Ra; rw [e0]
      have e4 : Vi v.keys fs on picks path (j + 1) = Vi v.keys fs on picks path j := by unfold Vi; rw [e0]
      have e5:=e0
      simp (disch:=omega) only [Aa,go_sem]
      refine ⟨(j + 1, _), ⟨by dsimp only; omega, by dsimp only; omega⟩, by dsimp only; omega,
        Ac ?_ (Ae.sub (Ae.cons ?_ (Ae.cons ?_ (Ae.cons ?_ (Ae.cons ?_ (Ae.cons ?_ (Ae.cons ?_ (Ae.cons ?_ (Ae.cons ?_ (Ae.cons ?_ (Ae.base hf fun i hi hx=>?_))))))))))) (zna _)⟩
      all_goals first
        | (simp only [List.mem_cons, List.not_mem_nil, or_false, not_or] at hx
           simp only [AC]
           repeat rw [if_neg (by omega)]
           done)
        | ((simp (disch := omega) only [Aa, ED, e1, e2, e3, e4, e5, At j (by omega), List.length_append, List.append_assoc, Nat.add_assoc, List.length_cons, List.length_nil, go_sem])
           first | done | rfl | (simp;done))
    . have c1 : p.on = on := by simpa using c1
      rw [if_pos c1,←Of,FM doc v h6] at e0
      obtain ⟨y,hy⟩:∃y,(AF v p.key).getD AB=y:=⟨_,rfl⟩
      have hget:=IL v hv p.key
      rw [Q3,hy] at hget
      rw [hy,Of] at e0
      have hyk:Mq doc y∧Bu y<Bu v:=by
        rw [←hy]
        cases eg:AF v p.key with
        | none =>
          refine ⟨hz,?_⟩
          have : Bu (Option.getD (none : Option Ak) AB) = 1 := by rw [Bn]; rfl
          omega
        | some x =>
          have hm:=DQ eg
          refine ⟨h x hm,?_⟩
          have:=Cq hm
          show Bu x<Bu v
          rw [Bn v]
          omega
      obtain ⟨hyk,hyw⟩:=hyk
      have hD := hyk p.tn p.tw p.picks (path ++ [Hp p.key]) (LQ.t hpm) (LQ.x hpm) (by simp; omega)
      obtain ⟨X,hX⟩:∃X,Be doc y p.tn p.tw p.picks (path++[Hp p.key])=X:=⟨_,rfl⟩
      rw [hX] at hD e0
      have e1 : H5 v.keys fs on picks path (j + 1) = H5 v.keys fs on picks path j ++ X.2 := by unfold H5; rw [e0, List.flatMap_append]; simp
      have e2 : R6 v.keys fs on picks path (j + 1) = R6 v.keys fs on picks path j ++ [X.1] := by unfold R6; rw [e0, List.map_append]; rfl
      have e3 : Ra v.keys fs on picks path (j + 1) = Ra v.keys fs on picks path j ++ [p.key] := by unfold Ra; rw [e0, List.map_append]; rfl
      have e4 : Vi v.keys fs on picks path (j + 1) = (Vi v.keys fs on picks path j || HU p.tw X.1) := by unfold Vi; rw [e0, List.any_append]; simp
      have e5 : (JO v.keys fs on picks path (j + 1)).length = (JO v.keys fs on picks path j).length + 1 := by rw [e0]; simp
      have hle := hPle (j + 1) (by omega)
      rw [e1,zld] at hle
      have lst:=Uq 0
      simp (disch:=omega) only [Aa,go_sem]
      refine Af.f (hget _ _) ?_
      simp (disch:=omega) only [Aa,go_sem]
      refine A3.f (fun _ Ao e=>Iv p.key _ _) ?_
      by_cases hcap:path.length+1≤cap
      . simp (disch := omega) only [Aa, hcap, FJ, Ir, go_sem]
        refine ⟨⟨by omega, by omega⟩, by omega, by omega, A3.w (ws := E1 doc (Fw doc) c km kp (gp + (H5 v.keys fs on picks path j).length) (P ++ H5 v.keys fs on picks path j) X.2) (F3 ⟨?_, ?_, ?_⟩ (by omega) (by omega) (by omega)) rfl
          (fun Ao e => hD Ao c km kp _ (P ++ H5 v.keys fs on picks path j) kq gq cap (path.length + 1) _ ⟨(e c (.inl (by omega))).trans ?_, (e km (.inl (by omega))).trans ?_, (e kp (.inl (by omega))).trans ?_⟩ ((e kq (.inl (by omega))).trans ?_) (by simp) (by rw [List.length_append]; omega)) ?_⟩
        case refine_8 =>
          simp only [E1,zlh,zli]
          simp (disch:=omega) only [Aa,oL,kL,go_sem]
          refine ⟨⟨⟨by omega, by omega, by omega⟩, by omega, by omega⟩, by omega, by omega, by omega, by omega, (j + 1, _), ⟨by dsimp only; omega, by dsimp only; omega⟩, by dsimp only; omega, (Qh (k := kq) (g := gq) (m := 5) (cap := cap) (l := Ad A2 (path ++ [Hp p.key])) (len := path.length) ?_ (by rw [Ax]; simp)).trans
            (Ac ?_ (Ae.sub (Ae.cons ?_ (Ae.cons ?_ (Ae.cons ?_ (Ae.cons ?_ (Ae.cons ?_ (Ae.cons ?_ (Ae.cons ?_ (Ae.cons ?_ (Ae.cons ?_ (Ae.base hf fun i hi hx=>?_))))))))))) (zna _))⟩
          all_goals first
            | (simp only [List.mem_cons, List.not_mem_nil, or_false, not_or] at hx
               simp only [AC]
               repeat rw [if_neg (by omega)]
               done)
            | ((simp (disch := omega) only [Aa, ED, e1, e2, e3, e4, e5, At j (by omega), List.length_append, List.append_assoc, Nat.add_assoc, List.length_cons, List.length_nil, go_sem])
               first | done | rfl | (simp;done))
        all_goals (simp (disch:=omega) only [Aa,zld,go_sem])
      . simp (disch := omega) only [Aa, hcap, FJ, Ir, go_sem]
        refine ⟨⟨by omega, by omega⟩, A3.w (ws := E1 doc (Fw doc) c km kp (gp + (H5 v.keys fs on picks path j).length) (P ++ H5 v.keys fs on picks path j) X.2) (F3 ⟨?_, ?_, ?_⟩ (by omega) (by omega) (by omega)) rfl
          (fun Ao e => hD.rw ⟨_, func36, by kernel_rfl, by kernel_rfl⟩ Ao c km kp _ (P ++ H5 v.keys fs on picks path j) (k + 12) 0 (path.length + 1) _ ⟨(e c (.inl (by omega))).trans ?_, (e km (.inl (by omega))).trans ?_, (e kp (.inl (by omega))).trans ?_⟩ ((e (k + 12) (.inr ⟨10, by simp, by omega⟩)).trans ?_) (by omega) (by simp) (by rw [List.length_append]; omega)) ?_⟩
        case refine_8 =>
          simp only [E1,zlh,zli]
          simp (disch:=omega) only [Aa,oL,kL,go_sem]
          refine ⟨⟨⟨by omega, by omega, by omega⟩, by omega⟩, by omega, by omega, by omega, by omega, (j + 1, _), ⟨by dsimp only; omega, by dsimp only; omega⟩, by dsimp only; omega,
            Ac ?_ (Ae.sub (Ae.cons ?_ (Ae.cons ?_ (Ae.cons ?_ (Ae.cons ?_ (Ae.cons ?_ (Ae.cons ?_ (Ae.cons ?_ (Ae.cons ?_ (Ae.cons ?_ (Ae.base hf fun i hi hx=>?_))))))))))) (zna _)⟩
          all_goals first
            | (simp only [List.mem_cons, List.not_mem_nil, or_false, not_or] at hx
               simp only [AC]
               repeat rw [if_neg (by omega)]
               done)
            | ((simp (disch := omega) only [Aa, ED, e1, e2, e3, e4, e5, At j (by omega), List.length_append, List.append_assoc, Nat.add_assoc, List.length_cons, List.length_nil, go_sem])
               first | done | rfl | (simp;done))
        all_goals (simp (disch:=omega) only [Aa,zld,go_sem])
  . have q : j = picks.length := by simp at q; omega
    subst q
    simp (disch:=omega) only [Aa,hRP,go_sem]
    refine Ai (fun c1=>?_) (fun c1=>?_)
    . rw [if_pos c1] at hRV
      subst hRV
      simp (disch:=omega) only [Aa,go_sem]
      refine C8 hR ?_ ?_ ?_ fun j hj j1 j2 j3=>?_
      all_goals (simp (disch:=omega) only [Aa,go_sem])
      by_cases e:kq=j
      . subst e; rw [if_pos rfl, hq]
      . rw [if_neg e]
    . rw [if_neg (by simp [c1])] at hRV
      subst hRV
      simp (disch:=omega) only [Aa,oL,kL,go_sem]
      refine ⟨C8 hR ?_ ?_ ?_ fun j hj j1 j2 j3 => ?_, rfl, rfl, rfl, by rw [List.take_of_length_le (by omega)]; rfl, by rw [List.take_of_length_le (by omega)]; rfl⟩
      all_goals (simp (disch:=omega) only [Aa,go_sem])
      by_cases e:kq=j
      . subst e; rw [if_pos rfl, hq]
      . rw [if_neg e]
theorem QN (u:Nat) (hu:u≤9223372036854775808):(Lib.decDigits u).length≤21:=by
 rcases Nat.eq_zero_or_pos u with h | h
 .subst h
  have:=Lib.itoa_length_le 0 (by omega) (by omega)
  simpa [Lib.itoa] using this
 .have:=Lib.itoa_length_le (-(u:Int)) (by omega) (by omega)
  rw [Lib.itoa,if_pos (by omega)] at this
  simp at this
  omega
theorem Re (u:Nat):u≤9223372036854775808→∀(hp:CH) (m:Nat),Ah prog 177 hp m [.i .i64 (-(u:Int))] (.s (R4 (Lib.decDigits u))):=by
 induction u using Nat.strongRecOn with
 | _ u ih =>
  intro hu hp m
  have e1:(-(u:Int)).tmod 10=-((u % 10:Nat):Int):=by rw [Int.neg_tmod];simp [Int.tmod]
  have e2:(-(u:Int)).tdiv 10=-((u / 10:Nat):Int):=by rw [Int.neg_tdiv];simp [Int.tdiv]
  have e3:IntKind.i64.wrap (48 - -((u % 10:Nat):Int))=((48+u % 10:Nat):Int):=by rw [Ry (by omega)];omega
  have e4:IntKind.u8.wrap ((48+u % 10:Nat):Int)=((48+u % 10:Nat):Int):=by rw [wr8];unfold u8;simp;omega
  have e5:IntKind.i64.wrap (-((u / 10:Nat):Int))=-((u / 10:Nat):Int):=Ry (by omega)
  have e6:((48+u % 10:Nat):Int).toNat=48+u % 10:=by omega
  have hd:=QN u hu
  rw [Lib.decDigits] at hd ⊢
  refine Am func177 (by kernel_rfl) cc177 cr177 rfl fun hf=>?_;unfold ck177
  simp only [e1,e2,e3,e4,e5,e6,go_sem]
  refine Ai (fun c=>?_) (fun c=>?_)
  .have c:u<10:=by simp at c;omega
   rw [dif_pos c]
   have c2:u % 10=u:=Nat.mod_eq_of_lt c
   simp only [c2,go_sem]
   rfl
  .have c:¬u<10:=by simp at c;omega
   rw [dif_neg c] at hd ⊢
   simp only [e1,e2,e3,e4,e5,go_sem]
   refine Af.f (ih (u / 10) (by omega) (by omega) _ _) ?_
   rw [zld,zlc,zle] at hd
   simp only [go_sem]
   rw [Un,Qs,MJ]
   refine ⟨?_,rfl⟩
   have:(#[UInt8.ofNat (48+u % 10)]:Array UInt8).size=1:=rfl
   omega
theorem MT (n:Int) (h0:-9223372036854775808≤n) (h1:n≤9223372036854775807) (hp:CH) (m:Nat):Ah prog 170 hp m [.i .i64 n] (.s (R4 (Lib.itoa n))):=by
 have hd:=QN n.natAbs (by omega)
 have hk:=Re n.natAbs (by omega)
 rw [Lib.itoa]
 refine Am func170 (by kernel_rfl) cc170 cr170 rfl fun hf=>?_;unfold ck170
 simp only [go_sem]
 refine Ai (fun c=>?_) (fun c=>?_)
 .have c:n<0:=by simpa using c
  have e:-((n.natAbs:Nat):Int)=n:=by omega
  rw [e] at hk
  rw [if_pos c]
  simp only [go_sem]
  refine Af.f (hk _ _) ?_
  simp only [go_sem]
  rw [Un,Qs,MJ]
  refine ⟨?_,rfl⟩
  have:(#[45]:Array UInt8).size=1:=rfl
  omega
 .have c:¬n<0:=by simpa using c
  have e:-((n.natAbs:Nat):Int)=IntKind.i64.wrap (0 - n):=by rw [Ry (by omega)];omega
  rw [e] at hk
  rw [if_neg c,show n.toNat=n.natAbs by omega]
  simp only [go_sem]
  refine Af.f (hk _ _) ?_
  simp only [go_sem]
structure VOk (v:Ak):Prop where
 f:v.Fit
 r:v.Rng
 b:BG (A2 v)≤1000000000
theorem VOk.x {v:Ak} (h:VOk v) {x:Ak} (hx:x∈v.items):VOk x:=by
 have h1:=h.b
 have h2:BG (A2 x)≤CG (Ad A2 v.items):=Qg (List.mem_map_of_mem (f:=A2) hx)
 rw [Xu] at h1
 exact ⟨h.f.x hx,h.r.x hx,by omega⟩
end Go.Proofs.YtgfidgoefioigaaGreatDoor
