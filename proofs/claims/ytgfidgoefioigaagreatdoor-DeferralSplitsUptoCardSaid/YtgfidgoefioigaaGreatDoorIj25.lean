/- Proof. Conditions: none. -/
import Derived.Test.YtgfidgoefioigaaGreatDoorIj24
noncomputable section
open List renaming mem_cons->zh,not_mem_nil->zf,length_append->zu,append_assoc->z1d,length_cons->z12,length_nil->z1e,take_of_length_le->z10
open Nat renaming add_assoc->zd
open Go.Proofs.Tryz
open List renaming length_cons->zlc,length_append->zld,length_nil->zle,cons_append->zlh,nil_append->zli
open Nat renaming le_refl->zna
namespace Go.Proofs.YtgfidgoefioigaaGreatDoor
open Go.Eng
set_option linter.all false
set_option maxRecDepth 20000
set_option maxHeartbeats 1000000
section
variable {ks:List qB} {fs:List GZ} {on:qB} {picks:List Pk} {path:List Ag}
def HS (ks:List qB) (fs:List GZ) (on:qB) (picks:List Pk) (path:List Ag) (j:Nat):List (Pk × Gt):=Gx ks fs on path (picks.take j)
def Fa (ks:List qB) (fs:List GZ) (on:qB) (picks:List Pk) (path:List Ag) (j:Nat):List Dc:=(HS ks fs on picks path j).flatMap (·.2.2)
def LZ (ks:List qB) (fs:List GZ) (on:qB) (picks:List Pk) (path:List Ag) (j:Nat):List Ag:=(HS ks fs on picks path j).map (·.2.1)
def Ma (ks:List qB) (fs:List GZ) (on:qB) (picks:List Pk) (path:List Ag) (j:Nat):List qB:=(HS ks fs on picks path j).map (·.1.key)
def Mz (ks:List qB) (fs:List GZ) (on:qB) (picks:List Pk) (path:List Ag) (j:Nat):Bool:=(HS ks fs on picks path j).any fun r=>Fu r.1.tw r.2.1
theorem KE {j:Nat} {p:Pk} (h:picks[j]?=some p):HS ks fs on picks path (j+1)=if p.on=on then HS ks fs on picks path j++[(p,itF ks fs p.key p.tn p.tw p.picks (path++[CW p.key]))] else HS ks fs on picks path j:=by
 unfold HS
 rw [<-AN h,Wg]
theorem T5 (j:Nat):(HS ks fs on picks path j).length<=j:=by
 unfold HS Gx
 rw [List.length_map]
 have:=List.length_filter_le (fun p:Pk=>decide (p.on=on)) (picks.take j)
 rw [List.length_take] at this
 omega
theorem Tw (j:Nat):(LZ ks fs on picks path j).length=(HS ks fs on picks path j).length:=by simp [LZ]
theorem SF (j:Nat):(Ma ks fs on picks path j).length=(HS ks fs on picks path j).length:=by simp [Ma]
theorem Ra:∀{k:Nat} {j:Nat},j+k=picks.length->(Fa ks fs on picks path j).length<=(Fa ks fs on picks path picks.length).length
 | 0,j,h=>by rw [show j=picks.length by omega];exact zna _
 |k+1,j,h=>by
  have e:picks[j]?=some (picks[j]'(by omega)):=by simp [show j<picks.length by omega]
  have h1:=Ra (k:=k) (j:=j+1) (by omega)
  have h2:(Fa ks fs on picks path j).length<=(Fa ks fs on picks path (j+1)).length:=by
   unfold Fa
   rw [KE e]
   split
   .rw [List.flatMap_append,zld];omega
   .exact zna _
  omega
theorem S8:H0 ks fs on picks path=(if Mz ks fs on picks path picks.length=true then A6 else EV (Ma ks fs on picks path picks.length) (LZ ks fs on picks path picks.length),Fa ks fs on picks path picks.length):=by
 unfold H0 Mz Ma LZ Fa HS
 rw [List.take_length]
end
theorem Ik (o:Option Ag):KQ o=.tp [vx (o.getD A6),.b o.isSome]:=by cases o<;>rfl
theorem TX (doc:List Aw) (v:Ag) (hv:v.Fit) (h:∀x∈v.items,PM doc x) (hz:PM doc A6):Ald doc v:=by
 intro on picks path h6 VG Ht QT hp c km kp gp P kq gq cap len n hR hq hl hP
 subst hl
 rw [S8] at hP ⊢
 have Bn:=Ht.len
 obtain ⟨fs,Ku⟩:=A5 (v.items.map (A7 doc))
 rw [Ku] at hP ⊢
 dsimp only at hP ⊢
 have o8 : ∀ j, j <= picks.length -> (Fa v.keys fs on picks path j).length <= (Fa v.keys fs on picks path picks.length).length := fun j hj => Ra (k := picks.length - j) (by omega)
 obtain ⟨RP,hRP⟩:=A5 (Fa v.keys fs on picks path picks.length)
 obtain ⟨RV,LY⟩:=A5 ((if Mz v.keys fs on picks path picks.length=true then A6 else EV (Ma v.keys fs on picks path picks.length) (LZ v.keys fs on picks path picks.length)))
 rw [hRP] at hP o8 ⊢
 rw [LY]
 simp only [zlh,zli]
 have Dg : (∀ k, n <= k -> gc hp k = .no) -> wsLt n (FH doc (GK doc) c km kp gp P RP) := fun hf => hR.wsLt hf
 have n1:=hR.n1
 have n2:=hR.n2
 have n3:=hR.n3
 have q1 : kq ≠ c := fun e => by have := hR.hc; rw [<- e, hq] at this; cases this
 have q2 : kq ≠ km := fun e => by have := hR.hm; rw [<- e, hq] at this; cases this
 have q3 : kq ≠ kp := fun e => by have := hR.hk; rw [<- e, hq] at this; cases this
 have hc:=hR.hc
 have hm:=hR.hm
 have hk:=hR.hk
 refine BR func116 (tA cc116) (tB cc116) (tC cc116) rfl Dg fun hf=>?_;unfold ck116
 obtain ⟨l1,l2,l3⟩:=hR.lt hf
 have l4:kq<n:=Ca hf hq (fun e=>by cases e)
 simp (disch:=omega) only [go_sem]
 refine loop (fun p : Nat × Nat => ⟨[(0, .bx c 0), (1, .s on), (3, .rw kq gq path.length), (9, .bx n 0), (10, .bx (n + 1) 0), (11, .bx (n + 2) 0), (12, .b (Mz v.keys fs on picks path p.1)), (20, .ds (Ab AJ picks)), (21, .i .i64 picks.length), (22, .i .i64 p.1)],
  (n+2,.bx [.i .i64 6,.i .i64 0,.s ⟨#[]⟩,.rw (n+3) (HS v.keys fs on picks path p.1).length (HS v.keys fs on picks path p.1).length,.rw (n+4) (HS v.keys fs on picks path p.1).length (HS v.keys fs on picks path p.1).length])::(n+3,.rw (HS v.keys fs on picks path p.1).length 5 (Ab Ar (LZ v.keys fs on picks path p.1)))::(n+4,.rw (HS v.keys fs on picks path p.1).length 1 (Bd (Ma v.keys fs on picks path p.1))) ::
  (n+1,.bx [.i .i64 0,.i .i64 0,.s ⟨#[]⟩,.e0,.e0])::(n,.bx [.i .i64 v.k,.i .i64 v.n,.s v.s,.ds (Ab Ar v.items),.ds (Bd v.keys)]) ::
  (kq,.rc gq 5 cap (Ab Ar path))::(kp,.rw (gp+(Fa v.keys fs on picks path p.1).length) 2 (Ab BD (P++Fa v.keys fs on picks path p.1)))::(c,.bx [.ds (Ab B8 doc),.mp km,.rw kp (gp+(Fa v.keys fs on picks path p.1).length) (P.length+(Fa v.keys fs on picks path p.1).length)])::(km,.mq (GK doc))::hp,p.2⟩)
  (fun p=>p.1<=picks.length∧n+5<=p.2) (fun p=>picks.length - p.1) (0,n+5) ?_ ?_ (fun ⟨j,k⟩ hj=>?_)
 .exact ⟨by simp,by simp⟩
 .refine ((Co (c:=n+2) (i:=3) (m:=5) (cs:=[.i .i64 6,.i .i64 0,.s ⟨#[]⟩,.e0,.e0]) ?_ rfl).trans (Co (c:=n+2) (i:=4) (m:=1) (cs:=[.i .i64 6,.i .i64 0,.s ⟨#[]⟩,.rw (n+3) 0 0,.e0]) ?_ rfl)).trans
   (AP ?_ (At.sub (At.cons ?_ (At.cons ?_ (At.cons ?_ (At.cons ?_ (At.cons ?_ (At.cons ?_ (At.cons ?_ (At.cons ?_ (At.cons ?_ (At.base hf fun i hi hx=>?_))))))))))) (zna _))
  all_goals first
   | (simp only [zh,zf,or_false,not_or] at hx
      simp only [A8]
      repeat rw [iN (by omega)]
      done)
   | ((simp (disch:=omega) only [Fa,LZ,Ma,Mz,HS,Gx,List.take_zero,List.filter_nil,List.flatMap_nil,List.map_nil,List.append_nil,hq,hc,hk,hm,go_sem])
      first | done | rfl | (simp;done))
 dsimp only at hj
 obtain ⟨Cg,Bc⟩:=hj
 have oL:=Tw (ks:=v.keys) (fs:=fs) (on:=on) (picks:=picks) (path:=path) j
 have kL:=SF (ks:=v.keys) (fs:=fs) (on:=on) (picks:=picks) (path:=path) j
 have dL:=T5 (ks:=v.keys) (fs:=fs) (on:=on) (picks:=picks) (path:=path) j
 simp (disch:=omega) only [oL,kL,go_sem]
 refine Ae (fun q=>?_) (fun q=>?_)
 .have q:j<picks.length:=by simpa using q
  obtain ⟨p,ex⟩:∃p,picks[j]?=some p:=⟨picks[j],by simp [q]⟩
  have hpm:=List.mem_of_getElem? ex
  have e0:=KE (ks:=v.keys) (fs:=fs) (on:=on) (path:=path) ex
  simp (disch:=omega) only [q,Ad (Aa AJ ex),go_sem]
  refine Ae (fun c1=>?_) (fun c1=>?_)
  .have c1:¬p.on=on:=by simpa using c1
   rw [iN c1] at e0
   have e1:Fa v.keys fs on picks path (j+1)=Fa v.keys fs on picks path j:=by unfold Fa;rw [e0]
   have e2:LZ v.keys fs on picks path (j+1)=LZ v.keys fs on picks path j:=by unfold LZ;rw [e0]
   have e3:Ma v.keys fs on picks path (j+1)=Ma v.keys fs on picks path j:=by unfold Ma;rw [e0]
   have e4:Mz v.keys fs on picks path (j+1)=Mz v.keys fs on picks path j:=by unfold Mz;rw [e0]
   have e5:=e0
   simp (disch:=omega) only [go_sem]
   refine ⟨(j+1,_),⟨by dsimp only;omega,by dsimp only;omega⟩,by dsimp only;omega,
    AP ?_ (At.sub (At.cons ?_ (At.cons ?_ (At.cons ?_ (At.cons ?_ (At.cons ?_ (At.cons ?_ (At.cons ?_ (At.cons ?_ (At.cons ?_ (At.base hf fun i hi hx=>?_))))))))))) (zna _)⟩
   all_goals first
    | (simp only [zh,zf,or_false,not_or] at hx
       simp only [A8]
       repeat rw [iN (by omega)]
       done)
    | ((simp (disch:=omega) only [FG,e1,e2,e3,e4,e5,Ap j (by omega),zu,z1d,zd,z12,z1e,go_sem])
       first | done | rfl | (simp;done))
  .have c1:p.on=on:=by simpa using c1
   rw [iP c1,<-Ku,Ho doc v h6] at e0
   obtain ⟨y,hy⟩:=A5 ((AA v p.key).getD A6)
   have Gj:=IY v hv p.key
   rw [Ik,hy] at Gj
   rw [hy,Ku] at e0
   have hyk:PM doc y∧AG y<AG v:=by
    rw [<-hy]
    cases eg:AA v p.key with
    |none=>
     refine ⟨hz,?_⟩
     have:AG (Option.getD (none:Option Ag) A6)=1:=by rw [AE];rfl
     omega
    |some x=>
     have hm:=CB eg
     refine ⟨h x hm,?_⟩
     have:=B1 hm
     show AG x<AG v
     rw [AE v]
     omega
   obtain ⟨hyk,hyw⟩:=hyk
   have hD:=hyk p.tn p.tw p.picks (path++[CW p.key]) (Ht.t hpm) (Ht.x hpm) (by simp;omega)
   obtain ⟨X,hX⟩:=A5 (A7 doc y p.tn p.tw p.picks (path++[CW p.key]))
   rw [hX] at hD e0
   have e1:Fa v.keys fs on picks path (j+1)=Fa v.keys fs on picks path j++X.2:=by unfold Fa;rw [e0,List.flatMap_append];simp
   have e2:LZ v.keys fs on picks path (j+1)=LZ v.keys fs on picks path j++[X.1]:=by unfold LZ;rw [e0,List.map_append];rfl
   have e3:Ma v.keys fs on picks path (j+1)=Ma v.keys fs on picks path j++[p.key]:=by unfold Ma;rw [e0,List.map_append];rfl
   have e4:Mz v.keys fs on picks path (j+1)=(Mz v.keys fs on picks path j||Fu p.tw X.1):=by unfold Mz;rw [e0,List.any_append];simp
   have e5:(HS v.keys fs on picks path (j+1)).length=(HS v.keys fs on picks path j).length+1:=by rw [e0];simp
   have hle:=o8 (j+1) (by omega)
   rw [e1,zld] at hle
   have lst:=WI 0
   simp (disch:=omega) only [go_sem]
   refine Ac.f (Gj _ _) ?_
   simp (disch:=omega) only [go_sem]
   refine Aq.f (fun _ Al e=>Il p.key _ _) ?_
   by_cases q7:path.length+1<=cap
   .simp (disch:=omega) only [q7,Hn,Ks,go_sem]
    refine ⟨⟨by omega,by omega⟩,by omega,by omega,Aq.w (ws:=FH doc (GK doc) c km kp (gp+(Fa v.keys fs on picks path j).length) (P++Fa v.keys fs on picks path j) X.2) (GJ ⟨?_,?_,?_⟩ (by omega) (by omega) (by omega)) rfl
     (fun Al e=>hD Al c km kp _ (P++Fa v.keys fs on picks path j) kq gq cap (path.length+1) _ ⟨(e c (.inl (by omega))).trans ?_,(e km (.inl (by omega))).trans ?_,(e kp (.inl (by omega))).trans ?_⟩ ((e kq (.inl (by omega))).trans ?_) (by simp) (by rw [zu];omega)) ?_⟩
    case refine_8=>
     simp only [FH,zlh,zli]
     simp (disch:=omega) only [oL,kL,go_sem]
     refine ⟨⟨⟨by omega,by omega,by omega⟩,by omega,by omega⟩,by omega,by omega,by omega,by omega,(j+1,_),⟨by dsimp only;omega,by dsimp only;omega⟩,by dsimp only;omega,(SB (k:=kq) (g:=gq) (m:=5) (cap:=cap) (l:=Ab Ar (path++[CW p.key])) (len:=path.length) ?_ (by rw [Ao];simp)).trans
      (AP ?_ (At.sub (At.cons ?_ (At.cons ?_ (At.cons ?_ (At.cons ?_ (At.cons ?_ (At.cons ?_ (At.cons ?_ (At.cons ?_ (At.cons ?_ (At.base hf fun i hi hx=>?_))))))))))) (zna _))⟩
     all_goals first
      | (simp only [zh,zf,or_false,not_or] at hx
         simp only [A8]
         repeat rw [iN (by omega)]
         done)
      | ((simp (disch:=omega) only [FG,e1,e2,e3,e4,e5,Ap j (by omega),zu,z1d,zd,z12,z1e,go_sem])
         first | done | rfl | (simp;done))
    all_goals (simp (disch:=omega) only [zld,go_sem])
   .simp (disch:=omega) only [q7,Hn,Ks,go_sem]
    refine ⟨⟨by omega,by omega⟩,Aq.w (ws:=FH doc (GK doc) c km kp (gp+(Fa v.keys fs on picks path j).length) (P++Fa v.keys fs on picks path j) X.2) (GJ ⟨?_,?_,?_⟩ (by omega) (by omega) (by omega)) rfl
     (fun Al e=>hD.rw ⟨_,func36,by kernel_rfl,by kernel_rfl⟩ Al c km kp _ (P++Fa v.keys fs on picks path j) (k+12) 0 (path.length+1) _ ⟨(e c (.inl (by omega))).trans ?_,(e km (.inl (by omega))).trans ?_,(e kp (.inl (by omega))).trans ?_⟩ ((e (k+12) (.inr ⟨10,by simp,by omega⟩)).trans ?_) (by omega) (by simp) (by rw [zu];omega)) ?_⟩
    case refine_8=>
     simp only [FH,zlh,zli]
     simp (disch:=omega) only [oL,kL,go_sem]
     refine ⟨⟨⟨by omega,by omega,by omega⟩,by omega⟩,by omega,by omega,by omega,by omega,(j+1,_),⟨by dsimp only;omega,by dsimp only;omega⟩,by dsimp only;omega,
      AP ?_ (At.sub (At.cons ?_ (At.cons ?_ (At.cons ?_ (At.cons ?_ (At.cons ?_ (At.cons ?_ (At.cons ?_ (At.cons ?_ (At.cons ?_ (At.base hf fun i hi hx=>?_))))))))))) (zna _)⟩
     all_goals first
      | (simp only [zh,zf,or_false,not_or] at hx
         simp only [A8]
         repeat rw [iN (by omega)]
         done)
      | ((simp (disch:=omega) only [FG,e1,e2,e3,e4,e5,Ap j (by omega),zu,z1d,zd,z12,z1e,go_sem])
         first | done | rfl | (simp;done))
    all_goals (simp (disch:=omega) only [zld,go_sem])
 .have q:j=picks.length:=by simp at q;omega
  subst q
  simp (disch:=omega) only [hRP,go_sem]
  refine Ae (fun c1=>?_) (fun c1=>?_)
  .rw [iP c1] at LY
   subst LY
   simp (disch:=omega) only [go_sem]
   refine Dr hR ?_ ?_ ?_ fun j hj j1 j2 j3=>?_
   all_goals (simp (disch:=omega) only [go_sem])
   by_cases e:kq=j
   .subst e;rw [iP rfl,hq]
   .rw [iN e]
  .rw [iN (by simp [c1])] at LY
   subst LY
   simp (disch:=omega) only [oL,kL,go_sem]
   refine ⟨Dr hR ?_ ?_ ?_ fun j hj j1 j2 j3=>?_,rfl,rfl,rfl,by rw [z10 (by omega)];rfl,by rw [z10 (by omega)];rfl⟩
   all_goals (simp (disch:=omega) only [go_sem])
   by_cases e:kq=j
   .subst e;rw [iP rfl,hq]
   .rw [iN e]
theorem Tm (u:Nat) (hu:u<=9223372036854775808):(Lib.decDigits u).length<=21:=by
 rcases Nat.eq_zero_or_pos u with h | h
 .subst h
  have:=Lib.itoa_length_le 0 (by omega) (by omega)
  simpa [Lib.itoa] using this
 .have:=Lib.itoa_length_le (-(u:Int)) (by omega) (by omega)
  rw [Lib.itoa,iP (by omega)] at this
  simp at this
  omega
theorem Um (u:Nat):u<=9223372036854775808->∀(hp:CH) (m:Nat),Af prog 177 hp m [.i .i64 (-(u:Int))] (.s (Uv (Lib.decDigits u))):=by
 induction u using Nat.strongRecOn with
 |_ u ih=>
  intro hu hp m
  have e1:(-(u:Int)).tmod 10=-((u % 10:Nat):Int):=by rw [Int.neg_tmod];simp [Int.tmod]
  have e2:(-(u:Int)).tdiv 10=-((u / 10:Nat):Int):=by rw [Int.neg_tdiv];simp [Int.tdiv]
  have e3:IntKind.i64.wrap (48 - -((u % 10:Nat):Int))=((48+u % 10:Nat):Int):=by rw [Ub (by omega)];omega
  have e4:IntKind.u8.wrap ((48+u % 10:Nat):Int)=((48+u % 10:Nat):Int):=by rw [wr8];unfold u8;simp;omega
  have e5:IntKind.i64.wrap (-((u / 10:Nat):Int))=-((u / 10:Nat):Int):=Ub (by omega)
  have e6:((48+u % 10:Nat):Int).toNat=48+u % 10:=by omega
  have hd:=Tm u hu
  rw [Lib.decDigits] at hd ⊢
  refine Aj func177 (tA cc177) (tB cc177) (tC cc177) rfl fun hf=>?_;unfold ck177
  simp only [e1,e2,e3,e4,e5,e6,go_sem]
  refine Ae (fun c=>?_) (fun c=>?_)
  .have c:u<10:=by simp at c;omega
   rw [dif_pos c]
   have c2:u % 10=u:=Nat.mod_eq_of_lt c
   simp only [c2,go_sem]
   rfl
  .have c:¬u<10:=by simp at c;omega
   rw [dif_neg c] at hd ⊢
   simp only [e1,e2,e3,e4,e5,go_sem]
   refine Ac.f (ih (u / 10) (by omega) (by omega) _ _) ?_
   rw [zld,zlc,zle] at hd
   simp only [go_sem]
   rw [Xi,TO,PS]
   refine ⟨?_,rfl⟩
   have:(#[UInt8.ofNat (48+u % 10)]:Array UInt8).size=1:=rfl
   omega
theorem J6 (n:Int) (h0:-9223372036854775808<=n) (h1:n<=9223372036854775807) (hp:CH) (m:Nat):Af prog 170 hp m [.i .i64 n] (.s (Uv (Lib.itoa n))):=by
 have hd:=Tm n.natAbs (by omega)
 have hk:=Um n.natAbs (by omega)
 rw [Lib.itoa]
 refine Aj func170 (tA cc170) (tB cc170) (tC cc170) rfl fun hf=>?_;unfold ck170
 simp only [go_sem]
 refine Ae (fun c=>?_) (fun c=>?_)
 .have c:n<0:=by simpa using c
  have e:-((n.natAbs:Nat):Int)=n:=by omega
  rw [e] at hk
  rw [iP c]
  simp only [go_sem]
  refine Ac.f (hk _ _) ?_
  simp only [go_sem]
  rw [Xi,TO,PS]
  refine ⟨?_,rfl⟩
  have:(#[45]:Array UInt8).size=1:=rfl
  omega
 .have c:¬n<0:=by simpa using c
  have e:-((n.natAbs:Nat):Int)=IntKind.i64.wrap (0 - n):=by rw [Ub (by omega)];omega
  rw [e] at hk
  rw [iN c,show n.toNat=n.natAbs by omega]
  simp only [go_sem]
  refine Ac.f (hk _ _) ?_
  simp only [go_sem]
structure VOk (v:Ag):Prop where
 f:v.Fit
 r:v.Rng
 b:Cf (Ar v)<=1000000000
theorem VOk.x {v:Ag} (h:VOk v) {x:Ag} (hx:x∈v.items):VOk x:=by
 have h1:=h.b
 have h2:Cf (Ar x)<=Er (Ab Ar v.items):=SP (List.mem_map_of_mem (f:=Ar) hx)
 rw [Zu] at h1
 exact ⟨h.f.x hx,h.r.x hx,by omega⟩
