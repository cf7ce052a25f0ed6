/- Proof. Conditions: none. -/
import Derived.Test.YtgfidgoefioigaaGreatDoorIk24
noncomputable section
open List renaming mem_cons->zh,not_mem_nil->zm,length_append->z16,append_assoc->z24,length_cons->z11,length_nil->z1c,take_of_length_le->z14
open Nat renaming add_assoc->ze
open Go.Proofs.Tryz
open List renaming length_cons->zlc,length_append->zld,length_nil->zle,cons_append->zlh,nil_append->zli
open Nat renaming le_refl->zna
namespace Go.Proofs.YtgfidgoefioigaaGreatDoor
open Go.Eng
set_option linter.all false
set_option maxRecDepth 20000
set_option maxHeartbeats 1000000
section
variable {ks:List qB} {fs:List GW} {on:qB} {picks:List Pk} {path:List Ag}
def Lu (ks:List qB) (fs:List GW) (on:qB) (picks:List Pk) (path:List Ag) (j:Nat):List (Pk × Ge):=Gd ks fs on path (picks.take j)
def Ix (ks:List qB) (fs:List GW) (on:qB) (picks:List Pk) (path:List Ag) (j:Nat):List DI:=(Lu ks fs on picks path j).flatMap (·.2.2)
def TJ (ks:List qB) (fs:List GW) (on:qB) (picks:List Pk) (path:List Ag) (j:Nat):List Ag:=(Lu ks fs on picks path j).map (·.2.1)
def TQ (ks:List qB) (fs:List GW) (on:qB) (picks:List Pk) (path:List Ag) (j:Nat):List qB:=(Lu ks fs on picks path j).map (·.1.key)
def V9 (ks:List qB) (fs:List GW) (on:qB) (picks:List Pk) (path:List Ag) (j:Nat):Bool:=(Lu ks fs on picks path j).any fun r=>Ex r.1.tw r.2.1
theorem Oz {j:Nat} {p:Pk} (h:picks[j]?=some p):Lu ks fs on picks path (j+1)=if p.on=on then Lu ks fs on picks path j++[(p,itF ks fs p.key p.tn p.tw p.picks (path++[CY p.key]))] else Lu ks fs on picks path j:=by
 unfold Lu
 rw [<-Bc h,V4]
theorem Aa0 (j:Nat):(Lu ks fs on picks path j).length<=j:=by
 unfold Lu Gd
 rw [List.length_map]
 have:=List.length_filter_le (fun p:Pk=>decide (p.on=on)) (picks.take j)
 rw [List.length_take] at this
 omega
theorem Aag (j:Nat):(TJ ks fs on picks path j).length=(Lu ks fs on picks path j).length:=by simp [TJ]
theorem YL (j:Nat):(TQ ks fs on picks path j).length=(Lu ks fs on picks path j).length:=by simp [TQ]
theorem V7:∀{k:Nat} {j:Nat},j+k=picks.length->(Ix ks fs on picks path j).length<=(Ix ks fs on picks path picks.length).length
 | 0,j,h=>by rw [show j=picks.length by omega];exact zna _
 |k+1,j,h=>by
  have e:picks[j]?=some (picks[j]'(by omega)):=by simp [show j<picks.length by omega]
  have h1:=V7 (k:=k) (j:=j+1) (by omega)
  have h2:(Ix ks fs on picks path j).length<=(Ix ks fs on picks path (j+1)).length:=by
   unfold Ix
   rw [Oz e]
   split
   .rw [List.flatMap_append,zld];omega
   .exact zna _
  omega
theorem YJ:KH ks fs on picks path=(if V9 ks fs on picks path picks.length=true then A8 else Cw (TQ ks fs on picks path picks.length) (TJ ks fs on picks path picks.length),Ix ks fs on picks path picks.length):=by
 unfold KH V9 TQ TJ Ix Lu
 rw [List.take_length]
end
theorem Sp (o:Option Ag):Nc o=.tp [vx (o.getD A8),.b o.isSome]:=by cases o<;>rfl
theorem T5 (doc:List Av) (v:Ag) (hv:v.Fit) (h:∀x∈v.items,Ps doc x) (hz:Ps doc A8):Ak4 doc v:=by
 intro on picks path h6 hw2 MF hwt hp c km kp gp P kq gq cap len n hR hq hl hP
 subst hl
 rw [YJ] at hP ⊢
 have AZ:=MF.len
 obtain ⟨fs,Qw⟩:=A7 (v.items.map (A6 doc))
 rw [Qw] at hP ⊢
 dsimp only at hP ⊢
 have hPle : ∀ j, j <= picks.length -> (Ix v.keys fs on picks path j).length <= (Ix v.keys fs on picks path picks.length).length := fun j hj => V7 (k := picks.length - j) (by omega)
 obtain ⟨RP,hRP⟩:=A7 (Ix v.keys fs on picks path picks.length)
 obtain ⟨RV,x7⟩:=A7 ((if V9 v.keys fs on picks path picks.length=true then A8 else Cw (TQ v.keys fs on picks path picks.length) (TJ v.keys fs on picks path picks.length)))
 rw [hRP] at hP hPle ⊢
 rw [x7]
 simp only [zlh,zli]
 have DV : (∀ k, n <= k -> gc hp k = .no) -> wsLt n (Fu doc (Gz doc) c km kp gp P RP) := fun hf => hR.wsLt hf
 have n1:=hR.n1
 have n2:=hR.n2
 have n3:=hR.n3
 have q1 : kq ≠ c := fun e => by have := hR.hc; rw [<- e, hq] at this; cases this
 have q2 : kq ≠ km := fun e => by have := hR.hm; rw [<- e, hq] at this; cases this
 have q3 : kq ≠ kp := fun e => by have := hR.hk; rw [<- e, hq] at this; cases this
 have hc:=hR.hc
 have hm:=hR.hm
 have hk:=hR.hk
 refine Cp func116 (tA cc116) (tB cc116) (tC cc116) rfl DV fun hf=>?_;unfold ck116
 obtain ⟨l1,l2,l3⟩:=hR.lt hf
 have l4:kq<n:=BT hf hq (fun e=>by cases e)
 simp (disch:=omega) only [go_sem]
 refine loop (fun p : Nat × Nat => ⟨[(0, .bx c 0), (1, .s on), (3, .rw kq gq path.length), (9, .bx n 0), (10, .bx (n + 1) 0), (11, .bx (n + 2) 0), (12, .b (V9 v.keys fs on picks path p.1)), (20, .ds (Ab Bi picks)), (21, .i .i64 picks.length), (22, .i .i64 p.1)],
  (n+2,.bx [.i .i64 6,.i .i64 0,.s ⟨#[]⟩,.rw (n+3) (Lu v.keys fs on picks path p.1).length (Lu v.keys fs on picks path p.1).length,.rw (n+4) (Lu v.keys fs on picks path p.1).length (Lu v.keys fs on picks path p.1).length])::(n+3,.rw (Lu v.keys fs on picks path p.1).length 5 (Ab Aw (TJ v.keys fs on picks path p.1)))::(n+4,.rw (Lu v.keys fs on picks path p.1).length 1 (Bq (TQ v.keys fs on picks path p.1))) ::
  (n+1,.bx [.i .i64 0,.i .i64 0,.s ⟨#[]⟩,.e0,.e0])::(n,.bx [.i .i64 v.k,.i .i64 v.n,.s v.s,.ds (Ab Aw v.items),.ds (Bq v.keys)]) ::
  (kq,.rc gq 5 cap (Ab Aw path))::(kp,.rw (gp+(Ix v.keys fs on picks path p.1).length) 2 (Ab Dr (P++Ix v.keys fs on picks path p.1)))::(c,.bx [.ds (Ab BB doc),.mp km,.rw kp (gp+(Ix v.keys fs on picks path p.1).length) (P.length+(Ix v.keys fs on picks path p.1).length)])::(km,.mq (Gz doc))::hp,p.2⟩)
  (fun p=>p.1<=picks.length∧n+5<=p.2) (fun p=>picks.length - p.1) (0,n+5) ?_ ?_ (fun ⟨j,k⟩ hj=>?_)
 .exact ⟨by simp,by simp⟩
 .refine ((DL (c:=n+2) (i:=3) (m:=5) (cs:=[.i .i64 6,.i .i64 0,.s ⟨#[]⟩,.e0,.e0]) ?_ rfl).trans (DL (c:=n+2) (i:=4) (m:=1) (cs:=[.i .i64 6,.i .i64 0,.s ⟨#[]⟩,.rw (n+3) 0 0,.e0]) ?_ rfl)).trans
   (AR ?_ (Az.sub (Az.cons ?_ (Az.cons ?_ (Az.cons ?_ (Az.cons ?_ (Az.cons ?_ (Az.cons ?_ (Az.cons ?_ (Az.cons ?_ (Az.cons ?_ (Az.base hf fun i hi hx=>?_))))))))))) (zna _))
  all_goals first
   | (simp only [zh,zm,or_false,not_or] at hx
      simp only [AA]
      repeat rw [iN (by omega)]
      done)
   | ((simp (disch:=omega) only [Ix,TJ,TQ,V9,Lu,Gd,List.take_zero,List.filter_nil,List.flatMap_nil,List.map_nil,List.append_nil,hq,hc,hk,hm,go_sem])
      first | done | rfl | (simp;done))
 dsimp only at hj
 obtain ⟨Cq,Be⟩:=hj
 have oL:=Aag (ks:=v.keys) (fs:=fs) (on:=on) (picks:=picks) (path:=path) j
 have kL:=YL (ks:=v.keys) (fs:=fs) (on:=on) (picks:=picks) (path:=path) j
 have dL:=Aa0 (ks:=v.keys) (fs:=fs) (on:=on) (picks:=picks) (path:=path) j
 simp (disch:=omega) only [oL,kL,go_sem]
 refine Af (fun q=>?_) (fun q=>?_)
 .have q:j<picks.length:=by simpa using q
  obtain ⟨p,ex⟩:∃p,picks[j]?=some p:=⟨picks[j],by simp [q]⟩
  have hpm:=List.mem_of_getElem? ex
  have e0:=Oz (ks:=v.keys) (fs:=fs) (on:=on) (path:=path) ex
  simp (disch:=omega) only [q,Ad (Aa Bi ex),go_sem]
  refine Af (fun c1=>?_) (fun c1=>?_)
  .have c1:¬p.on=on:=by simpa using c1
   rw [iN c1] at e0
   have e1:Ix v.keys fs on picks path (j+1)=Ix v.keys fs on picks path j:=by unfold Ix;rw [e0]
   have e2:TJ v.keys fs on picks path (j+1)=TJ v.keys fs on picks path j:=by unfold TJ;rw [e0]
   have e3:TQ v.keys fs on picks path (j+1)=TQ v.keys fs on picks path j:=by unfold TQ;rw [e0]
   have e4:V9 v.keys fs on picks path (j+1)=V9 v.keys fs on picks path j:=by unfold V9;rw [e0]
   have e5:=e0
   simp (disch:=omega) only [go_sem]
   refine ⟨(j+1,_),⟨by dsimp only;omega,by dsimp only;omega⟩,by dsimp only;omega,
    AR ?_ (Az.sub (Az.cons ?_ (Az.cons ?_ (Az.cons ?_ (Az.cons ?_ (Az.cons ?_ (Az.cons ?_ (Az.cons ?_ (Az.cons ?_ (Az.cons ?_ (Az.base hf fun i hi hx=>?_))))))))))) (zna _)⟩
   all_goals first
    | (simp only [zh,zm,or_false,not_or] at hx
       simp only [AA]
       repeat rw [iN (by omega)]
       done)
    | ((simp (disch:=omega) only [Ft,e1,e2,e3,e4,e5,Ao j (by omega),z16,z24,ze,z11,z1c,go_sem])
       first | done | rfl | (simp;done))
  .have c1:p.on=on:=by simpa using c1
   rw [iP c1,<-Qw,FJ doc v h6] at e0
   obtain ⟨y,hy⟩:=A7 ((AB v p.key).getD A8)
   have t7:=I4 v hv p.key
   rw [Sp,hy] at t7
   rw [hy,Qw] at e0
   have hyk:Ps doc y∧AE y<AE v:=by
    rw [<-hy]
    cases eg:AB v p.key with
    |none=>
     refine ⟨hz,?_⟩
     have:AE (Option.getD (none:Option Ag) A8)=1:=by rw [A9];rfl
     omega
    |some x=>
     have hm:=CG eg
     refine ⟨h x hm,?_⟩
     have:=BS hm
     show AE x<AE v
     rw [A9 v]
     omega
   obtain ⟨hyk,hyw⟩:=hyk
   have hD:=hyk p.tn p.tw p.picks (path++[CY p.key]) (MF.t hpm) (MF.x hpm) (by simp;omega)
   obtain ⟨X,hX⟩:=A7 (A6 doc y p.tn p.tw p.picks (path++[CY p.key]))
   rw [hX] at hD e0
   have e1:Ix v.keys fs on picks path (j+1)=Ix v.keys fs on picks path j++X.2:=by unfold Ix;rw [e0,List.flatMap_append];simp
   have e2:TJ v.keys fs on picks path (j+1)=TJ v.keys fs on picks path j++[X.1]:=by unfold TJ;rw [e0,List.map_append];rfl
   have e3:TQ v.keys fs on picks path (j+1)=TQ v.keys fs on picks path j++[p.key]:=by unfold TQ;rw [e0,List.map_append];rfl
   have e4:V9 v.keys fs on picks path (j+1)=(V9 v.keys fs on picks path j||Ex p.tw X.1):=by unfold V9;rw [e0,List.any_append];simp
   have e5:(Lu v.keys fs on picks path (j+1)).length=(Lu v.keys fs on picks path j).length+1:=by rw [e0];simp
   have hle:=hPle (j+1) (by omega)
   rw [e1,zld] at hle
   have lst:=Wp 0
   simp (disch:=omega) only [go_sem]
   refine Ac.f (t7 _ _) ?_
   simp (disch:=omega) only [go_sem]
   refine Au.f (fun _ Am e=>HL p.key _ _) ?_
   by_cases p7:path.length+1<=cap
   .simp (disch:=omega) only [p7,GQ,JF,go_sem]
    refine ⟨⟨by omega,by omega⟩,by omega,by omega,Au.w (ws:=Fu doc (Gz doc) c km kp (gp+(Ix v.keys fs on picks path j).length) (P++Ix v.keys fs on picks path j) X.2) (Gy ⟨?_,?_,?_⟩ (by omega) (by omega) (by omega)) rfl
     (fun Am e=>hD Am c km kp _ (P++Ix v.keys fs on picks path j) kq gq cap (path.length+1) _ ⟨(e c (.inl (by omega))).trans ?_,(e km (.inl (by omega))).trans ?_,(e kp (.inl (by omega))).trans ?_⟩ ((e kq (.inl (by omega))).trans ?_) (by simp) (by rw [z16];omega)) ?_⟩
    case refine_8=>
     simp only [Fu,zlh,zli]
     simp (disch:=omega) only [oL,kL,go_sem]
     refine ⟨⟨⟨by omega,by omega,by omega⟩,by omega,by omega⟩,by omega,by omega,by omega,by omega,(j+1,_),⟨by dsimp only;omega,by dsimp only;omega⟩,by dsimp only;omega,(Sb (k:=kq) (g:=gq) (m:=5) (cap:=cap) (l:=Ab Aw (path++[CY p.key])) (len:=path.length) ?_ (by rw [As];simp)).trans
      (AR ?_ (Az.sub (Az.cons ?_ (Az.cons ?_ (Az.cons ?_ (Az.cons ?_ (Az.cons ?_ (Az.cons ?_ (Az.cons ?_ (Az.cons ?_ (Az.cons ?_ (Az.base hf fun i hi hx=>?_))))))))))) (zna _))⟩
     all_goals first
      | (simp only [zh,zm,or_false,not_or] at hx
         simp only [AA]
         repeat rw [iN (by omega)]
         done)
      | ((simp (disch:=omega) only [Ft,e1,e2,e3,e4,e5,Ao j (by omega),z16,z24,ze,z11,z1c,go_sem])
         first | done | rfl | (simp;done))
    all_goals (simp (disch:=omega) only [zld,go_sem])
   .simp (disch:=omega) only [p7,GQ,JF,go_sem]
    refine ⟨⟨by omega,by omega⟩,Au.w (ws:=Fu doc (Gz doc) c km kp (gp+(Ix v.keys fs on picks path j).length) (P++Ix v.keys fs on picks path j) X.2) (Gy ⟨?_,?_,?_⟩ (by omega) (by omega) (by omega)) rfl
     (fun Am e=>hD.rw ⟨_,func36,by kernel_rfl,by kernel_rfl⟩ Am c km kp _ (P++Ix v.keys fs on picks path j) (k+12) 0 (path.length+1) _ ⟨(e c (.inl (by omega))).trans ?_,(e km (.inl (by omega))).trans ?_,(e kp (.inl (by omega))).trans ?_⟩ ((e (k+12) (.inr ⟨10,by simp,by omega⟩)).trans ?_) (by omega) (by simp) (by rw [z16];omega)) ?_⟩
    case refine_8=>
     simp only [Fu,zlh,zli]
     simp (disch:=omega) only [oL,kL,go_sem]
     refine ⟨⟨⟨by omega,by omega,by omega⟩,by omega⟩,by omega,by omega,by omega,by omega,(j+1,_),⟨by dsimp only;omega,by dsimp only;omega⟩,by dsimp only;omega,
      AR ?_ (Az.sub (Az.cons ?_ (Az.cons ?_ (Az.cons ?_ (Az.cons ?_ (Az.cons ?_ (Az.cons ?_ (Az.cons ?_ (Az.cons ?_ (Az.cons ?_ (Az.base hf fun i hi hx=>?_))))))))))) (zna _)⟩
     all_goals first
      | (simp only [zh,zm,or_false,not_or] at hx
         simp only [AA]
         repeat rw [iN (by omega)]
         done)
      | ((simp (disch:=omega) only [Ft,e1,e2,e3,e4,e5,Ao j (by omega),z16,z24,ze,z11,z1c,go_sem])
         first | done | rfl | (simp;done))
    all_goals (simp (disch:=omega) only [zld,go_sem])
 .have q:j=picks.length:=by simp at q;omega
  subst q
  simp (disch:=omega) only [hRP,go_sem]
  refine Af (fun c1=>?_) (fun c1=>?_)
  .rw [iP c1] at x7
   subst x7
   simp (disch:=omega) only [go_sem]
   refine Dh hR ?_ ?_ ?_ fun j hj j1 j2 j3=>?_
   all_goals (simp (disch:=omega) only [go_sem])
   by_cases e:kq=j
   .subst e;rw [iP rfl,hq]
   .rw [iN e]
  .rw [iN (by simp [c1])] at x7
   subst x7
   simp (disch:=omega) only [oL,kL,go_sem]
   refine ⟨Dh hR ?_ ?_ ?_ fun j hj j1 j2 j3=>?_,rfl,rfl,rfl,by rw [z14 (by omega)];rfl,by rw [z14 (by omega)];rfl⟩
   all_goals (simp (disch:=omega) only [go_sem])
   by_cases e:kq=j
   .subst e;rw [iP rfl,hq]
   .rw [iN e]
theorem SK (u:Nat) (hu:u<=9223372036854775808):(Lib.decDigits u).length<=21:=by
 rcases Nat.eq_zero_or_pos u with h | h
 .subst h
  have:=Lib.itoa_length_le 0 (by omega) (by omega)
  simpa [Lib.itoa] using this
 .have:=Lib.itoa_length_le (-(u:Int)) (by omega) (by omega)
  rw [Lib.itoa,iP (by omega)] at this
  simp at this
  omega
theorem TN (u:Nat):u<=9223372036854775808->∀(hp:CH) (m:Nat),Ae prog 177 hp m [.i .i64 (-(u:Int))] (.s (TU (Lib.decDigits u))):=by
 induction u using Nat.strongRecOn with
 |_ u ih=>
  intro hu hp m
  have e1:(-(u:Int)).tmod 10=-((u % 10:Nat):Int):=by rw [Int.neg_tmod];simp [Int.tmod]
  have e2:(-(u:Int)).tdiv 10=-((u / 10:Nat):Int):=by rw [Int.neg_tdiv];simp [Int.tdiv]
  have e3:IntKind.i64.wrap (48 - -((u % 10:Nat):Int))=((48+u % 10:Nat):Int):=by rw [TA (by omega)];omega
  have e4:IntKind.u8.wrap ((48+u % 10:Nat):Int)=((48+u % 10:Nat):Int):=by rw [wr8];unfold u8;simp;omega
  have e5:IntKind.i64.wrap (-((u / 10:Nat):Int))=-((u / 10:Nat):Int):=TA (by omega)
  have e6:((48+u % 10:Nat):Int).toNat=48+u % 10:=by omega
  have hd:=SK u hu
  rw [Lib.decDigits] at hd ⊢
  refine Al func177 (tA cc177) (tB cc177) (tC cc177) rfl fun hf=>?_;unfold ck177
  simp only [e1,e2,e3,e4,e5,e6,go_sem]
  refine Af (fun c=>?_) (fun c=>?_)
  .have c:u<10:=by simp at c;omega
   rw [dif_pos c]
   have c2:u % 10=u:=Nat.mod_eq_of_lt c
   simp only [c2,go_sem]
   rfl
  .have c:¬u<10:=by simp at c;omega
   rw [dif_neg c] at hd ⊢
   simp only [e1,e2,e3,e4,e5,go_sem]
   refine Ac.f (ih (u / 10) (by omega) (by omega) _ _) ?_
   rw [zld,zlc,zle] at hd
   simp only [go_sem]
   rw [WJ,Tw,P0]
   refine ⟨?_,rfl⟩
   have:(#[UInt8.ofNat (48+u % 10)]:Array UInt8).size=1:=rfl
   omega
theorem OL (n:Int) (h0:-9223372036854775808<=n) (h1:n<=9223372036854775807) (hp:CH) (m:Nat):Ae prog 170 hp m [.i .i64 n] (.s (TU (Lib.itoa n))):=by
 have hd:=SK n.natAbs (by omega)
 have hk:=TN n.natAbs (by omega)
 rw [Lib.itoa]
 refine Al func170 (tA cc170) (tB cc170) (tC cc170) rfl fun hf=>?_;unfold ck170
 simp only [go_sem]
 refine Af (fun c=>?_) (fun c=>?_)
 .have c:n<0:=by simpa using c
  have e:-((n.natAbs:Nat):Int)=n:=by omega
  rw [e] at hk
  rw [iP c]
  simp only [go_sem]
  refine Ac.f (hk _ _) ?_
  simp only [go_sem]
  rw [WJ,Tw,P0]
  refine ⟨?_,rfl⟩
  have:(#[45]:Array UInt8).size=1:=rfl
  omega
 .have c:¬n<0:=by simpa using c
  have e:-((n.natAbs:Nat):Int)=IntKind.i64.wrap (0 - n):=by rw [TA (by omega)];omega
  rw [e] at hk
  rw [iN c,show n.toNat=n.natAbs by omega]
  simp only [go_sem]
  refine Ac.f (hk _ _) ?_
  simp only [go_sem]
structure VOk (v:Ag):Prop where
 f:v.Fit
 r:v.Rng
 b:BO (Aw v)<=1000000000
theorem VOk.x {v:Ag} (h:VOk v) {x:Ag} (hx:x∈v.items):VOk x:=by
 have h1:=h.b
 have h2:BO (Aw x)<=Df (Ab Aw v.items):=Sn (List.mem_map_of_mem (f:=Aw) hx)
 rw [YI] at h1
 exact ⟨h.f.x hx,h.r.x hx,by omega⟩
