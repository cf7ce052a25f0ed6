/- Proof. Conditions: none. -/
import Derived.Test.YtgfidgoefioigaaGreatDoorIi46
open Go.Proofs.Tryz
open List renaming length_cons→zlc,cons_append→zlh,nil_append→zli,mem_cons→zlw
open Nat renaming le_refl→zna,le_trans→znc
namespace Go.Proofs.YtgfidgoefioigaaGreatDoor
open Go.Eng
set_option linter.all false
set_option maxRecDepth 20000
set_option maxHeartbeats 1000000
theorem Q0 (l:List Pk):(∀p∈l,A8 (BX p.picks)≤A8 p.picks)→A8 (BX l)≤A8 l:=by
 induction l with
 | nil=>intro _;rw [BX];exact zna _
 | cons p l ih =>
  intro h
  have h1:=h p (by simp)
  have h2:=ih fun q hq=>h q (by simp [hq])
  rw [HC]
  split
  .rw [A8,A8,CD,CD,(OO p).2.2.2.2]
   omega
  .rw [A8]
   omega
theorem M1 (l:List Pk):A8 (BX l)≤A8 l:=Q0 l fun p _=>Pk.ind (Q:=fun p=>A8 (BX p.picks)≤A8 p.picks) (fun p ih=>Q0 p.picks ih) p
theorem HM (l:List Pk) (h:BQ l) (H:∀p∈l,BQ (BX p.picks)):BQ (BX l):=by
 have hl:=h.len
 have h1:=Np l
 refine .mk _ (by omega) (fun p hp=>?_) fun p hp=>?_
 .rw [Dz] at hp
  obtain ⟨q,hq,rfl⟩:=List.mem_map.1 hp
  rw [(OO q).2.2.2.1]
  exact h.t (List.mem_filter.1 hq).1
 .rw [Dz] at hp
  obtain ⟨q,hq,rfl⟩:=List.mem_map.1 hp
  rw [(OO q).2.2.2.2]
  exact H q (List.mem_filter.1 hq).1
theorem M2 {l:List Pk} (h:BQ l):BQ (BX l):=by
 have key:∀p:Pk,BQ p.picks→BQ (BX p.picks):=fun p=>Pk.ind (Q:=fun p=>BQ p.picks→BQ (BX p.picks)) (fun p ih h=>HM _ h fun q hq=>ih q hq (h.x hq)) p
 exact HM l h fun p hp=>key p (h.x hp)
theorem Rj {q:Pk} {x:Ak} (h:x.Rng):(D1 q x).Rng:=by
 unfold D1
 split
 .exact .mk _ h.l h.u fun y hy=>h.x (List.mem_of_mem_take hy)
 .exact h
theorem IH (on:ByteArray) (keys:List ByteArray):∀(fs:List CF) (is:List Ak),(∀x∈fs,∀v:Ak,v.Rng→(x.2 v).Rng)→(∀x∈is,x.Rng)→∀x∈Gf on keys fs is,x.Rng
 | [],is,_,h=>h
 | (p,f)::r,is,hf,h=>by
  rw [Gf]
  split
  .rename_i c
   refine IH on keys r _ (fun x hx=>hf x (List.mem_cons_of_mem _ hx)) fun x hx=>?_
   rcases List.mem_or_eq_of_mem_set hx with h1 | h1
   .exact h x h1
   .rw [h1]
    refine hf (p,f) (List.mem_cons_self ..) _ (Rj (h _ ?_))
    rw [List.getD_eq_getElem?_getD,List.getElem?_eq_getElem (by omega)]
    exact List.getElem_mem _
  .exact IH on keys r _ (fun x hx=>hf x (List.mem_cons_of_mem _ hx)) h
theorem Lw {v:Ak} (h:v.n=0) (hx:∀x∈v.items,x.Rng):v.Rng:=.mk _ (by rw [h];decide) (by rw [h];decide) hx
theorem M9 {fs:List CF} (hf:∀x∈fs,∀v:Ak,v.Rng→(x.2 v).Rng) (v:Ak):v.Rng→(Gz fs v).Rng:=by
 refine Ak.ind (Q:=fun v=>v.Rng→(Gz fs v).Rng) (fun v ih h=>?_) v
 rw [FW]
 split
 .refine Lw rfl fun x hx=>?_
  obtain ⟨y,hy,rfl⟩:=List.mem_map.1 hx
  exact ih y hy (h.x hy)
 .split
  .refine Lw rfl fun x hx=>?_
   exact IH _ _ fs _ hf (fun y hy=>h.x hy) x hx
  .exact h
theorem US (p:Pk):∀v:Ak,v.Rng→(NS p v).Rng :=
 Pk.ind (Q:=fun p=>∀v:Ak,v.Rng→(NS p v).Rng) (fun p ih v h=>by
  rw [It]
  exact M9 (fun x hx=>by rw [E5] at hx;obtain ⟨q,hq,rfl⟩:=List.mem_map.1 hx;exact ih q hq) v h) p
theorem Tk (l:List Pk) {v:Ak} (h:v.Rng):(CM l v).Rng :=
 M9 (fun x hx=>by rw [E5] at hx;obtain ⟨q,hq,rfl⟩:=List.mem_map.1 hx;exact US q) v h
/-! ### An object is completed -/
structure Sz (l:List Pk) (v:Ak):Prop where
 p:BQ l
 r:v.Rng
 w:Bu v≤100000000
 c:Bu v*(1+A8 l)≤10000000000
theorem Sz.fit {l:List Pk} {v:Ak} (h:Sz l v):v.Fit:=CX v (by have:=h.w;omega)
theorem Sz.k {l:List Pk} {v:Ak} (h:Sz l v):A8 l≤10000000000:=by
 have h1:=h.c
 have h2:=Es v
 have:1*(1+A8 l)≤Bu v*(1+A8 l):=Nat.mul_le_mul_right _ h2
 omega
theorem Sz.le {l m:List Pk} {v w:Ak} (h:Sz l v) (hp:BQ m) (hr:w.Rng) (h1:Bu w≤Bu v) (h2:A8 m≤A8 l):Sz m w :=
 ⟨hp,hr,znc h1 h.w,znc (Nat.mul_le_mul h1 (by omega)) h.c⟩
theorem Sz.cut {l:List Pk} {v:Ak} (h:Sz l v):Sz (BX l) (CM l v):=h.le (M2 h.p) (Tk l h.r) (Q5 l v) (M1 l)
theorem Sz.run {doc:List Az} (hd:DocOk doc) {l:List Pk} {v:Ak} (h:Sz l v) (root:ByteArray) (hp:CH) (m:Nat) :
  Ah prog 15 hp m [B5 doc,.s root,.ds (Ad Bo l),vx v] (.tp [vx (Be doc v root [] l []).1,.ds (Ad CZ (Be doc v root [] l []).2)]) :=
 Qi doc hd root l h.p v h.fit h.r (by have:=h.w;omega) (by have:=h.c;omega) hp m
theorem Sz.prb {doc:List Az} {l:List Pk} {v:Ak} (h:Sz l v) (root:ByteArray):(Be doc v root [] l []).2.length≤10000000000∧(Be doc v root [] l []).1.Fit∧∀q∈(Be doc v root [] l []).2,q.p.length≤100000000:=by
 have h1:=FQ doc v root [] l []
 have h2:=h.c
 have h3:=LL doc v h.fit root [] l [] h.p (by simp)
 refine ⟨by omega,h3.1,fun q hq=>?_⟩
 have:=(h3.2 q hq).1
 have:=h.w
 simp at *
 omega
def XZ (on name:ByteArray) (c:Pk→Nat):List Pk→Nat
 | []=>0
 | p::r=>(if p.on=on∧p.label=name then c p else 0)+XZ on name c r
set_option maxHeartbeats 2000000
structure RunS (doc:List Az) (hp:CH) (c kp gp:Nat) (P:List Ik):Prop where
 hc:gc hp c=.bx [.ds (Ad BB doc),.rw kp gp P.length]
 hk:gc hp kp=.rw gp 8 (Ad L4 P)
def wsS (doc:List Az) (c kp gp:Nat) (P R:List Ik):CH :=
 [(kp,.rw (gp+R.length) 8 (Ad L4 (P++R))),(c,.bx [.ds (Ad BB doc),.rw kp (gp+R.length) (P.length+R.length)])]
section
variable {doc:List Az} {hp:CH} {c kp gp:Nat} {P R:List Ik}
theorem RunS.n2 (h:RunS doc hp c kp gp P):¬c=kp:=fun e=>by have:=h.hc;rw [e,h.hk] at this;cases this
theorem RunS.lt {n:Nat} (h:RunS doc hp c kp gp P) (hf:∀k,n≤k→gc hp k=.no):c<n∧kp<n :=
 ⟨BJ hf h.hc (fun e=>by cases e),BJ hf h.hk (fun e=>by cases e)⟩
theorem RunS.wsLt {n:Nat} (h:RunS doc hp c kp gp P) (hf:∀k,n≤k→gc hp k=.no):wsLt n (wsS doc c kp gp P R):=by
 obtain ⟨h1,h3⟩:=h.lt hf
 refine ⟨h3,trivial,h1,?_,trivial⟩
 intro α hα
 simp only [zlw,List.not_mem_nil,or_false] at hα
 rcases hα with rfl | rfl
 .rfl
 .exact h3
theorem RunS.of {Ao:CH} (h:RunS doc hp c kp gp P) (e:∀j,(j=c∨j=kp)→gc Ao j=gc hp j):RunS doc Ao c kp gp P :=
 ⟨(e c (.inl rfl)).trans h.hc,(e kp (.inr rfl)).trans h.hk⟩
theorem RunS.app (h:gc hp c=.bx [.ds (Ad BB doc),.rw kp (gp+R.length) (P.length+R.length)]) (h2:gc hp kp=.rw (gp+R.length) 8 (Ad L4 (P++R))):RunS doc hp c kp (gp+R.length) (P++R) :=
 ⟨by rw [h,List.length_append],h2⟩
end
end Go.Proofs.YtgfidgoefioigaaGreatDoor
namespace Go.Eng
set_option linter.unusedVariables false
theorem AI.cvA {P:Program} {f:FuncId} {hp:CH} {n:Nat} {args args':List AV} {i:Nat} {α β:AV} {R:CH→Nat→AV→Prop} (hi:args[i]?=some α) (he:WF hp α=some β) (ha:args'=args.set i β) (c:AI P f hp n args' R):AI P f hp n args R:=by
 subst ha
 refine ⟨c.1,fun h ρ w vs hs ra=>c.2 h ρ w vs hs ⟨by rw [List.length_set];exact ra.1,fun j γ v h1 h2=>?_⟩⟩
 by_cases e:i=j
 .subst e
  rw [List.getElem?_set_self (List.getElem?_eq_some_iff.1 hi).1] at h1
  cases h1
  exact .pu _ _ (GK hs (ra.2 i _ v hi h2) he)
 .rw [List.getElem?_set_ne e] at h1
  exact ra.2 j γ v h1 h2
end Go.Eng
namespace Go.Proofs.YtgfidgoefioigaaGreatDoor
open Go.Eng
set_option linter.all false
set_option maxRecDepth 20000
set_option maxHeartbeats 4000000
theorem Aal (k:ByteArray) (on:ByteArray) (c:Ak):Bu (LM [sT,k] [Hp on,c])=Bu c+Bu (LM [sT,k] [Hp on]):=by
 rw [Bn,Bn (LM [sT,k] [Hp on])]
 simp only [LM,Ak.items_mk,Ak.keys_mk,Df]
 omega
theorem W1 (k:ByteArray) (on:ByteArray):Bu (LM [sT,k] [Hp on])≤10:=by
 rw [Bn]
 simp only [LM,Ak.items_mk,Ak.keys_mk,Df,zlc,List.length_nil]
 rw [Bn]
 simp [Hp,Ak.items_mk,Ak.keys_mk,Df]
structure LatF (doc:List Az) (q:Pk) (v x c:Ak):Prop where
 s:Sz q.picks v
 r:x.Rng
 w:Bu x≤Bu v
 cr:c.Rng
 cw:Bu c≤Bu x
theorem LatF.cnt {doc:List Az} {q:Pk} {v x c:Ak} (h:LatF doc q v x c) (on:ByteArray) (ini:Int):Bu (LM [sT,q.key] [Hp on,c])≤1000000000∧Bu (LM [sT,q.key] [Hp on,c])*(1+A8 [JS q ini])≤1000000000000:=by
 have h1:=Aal q.key on c
 have h2:=W1 q.key on
 have h3:=h.cw
 have h4:=h.w
 have h5:=h.s.w
 have h6:=h.s.c
 have h7:=Es v
 have hk:A8 [JS q ini]≤1+A8 q.picks:=by
  rw [A8,A8,CD]
  have:=M1 q.picks
  have e:(JS q ini).picks=BX q.picks:=rfl
  rw [e]
  omega
 refine ⟨by omega,?_⟩
 have e1:Bu (LM [sT,q.key] [Hp on,c])≤11*Bu v:=by omega
 have e2:1+A8 [JS q ini]≤2*(1+A8 q.picks):=by omega
 refine znc (Nat.mul_le_mul e1 e2) ?_
 have:11*Bu v*(2*(1+A8 q.picks))=22*(Bu v*(1+A8 q.picks)):=by rw [Nat.mul_mul_mul_comm]
 rw [this]
 omega
theorem LatF.fits {doc:List Az} {q:Pk} {v x c:Ak} (h:LatF doc q v x c) (Fk:q.tw.length≤1000000000000) (on:ByteArray) (ini:Int):BQ [JS q ini]∧(LM [sT,q.key] [Hp on,c]).Fit∧(LM [sT,q.key] [Hp on,c]).Rng:=by
 obtain ⟨h1,h2⟩:=h.cnt on ini
 refine ⟨.mk _ (by simp) (fun p hp=>?_) fun p hp=>?_,CX _ (by omega),Lw rfl fun y hy=>?_⟩
 .rw [List.mem_singleton.1 hp]
  show (if CK q.tw=true then DT q.tw else []).length≤_
  split
  .have:=No q.tw;omega
  .simp
 .rw [List.mem_singleton.1 hp]
  exact M2 h.s.p
 .simp only [LM,Ak.items_mk,zlw,List.not_mem_nil,or_false] at hy
  rcases hy with rfl | rfl
  .exact Lw rfl (by simp [Hp,Ak.items_mk])
  .exact h.cr
theorem LatF.out {doc:List Az} {q:Pk} {v x c:Ak} (h:LatF doc q v x c) (Fk:q.tw.length≤1000000000000) (on:ByteArray) (ini:Int):(UT doc on q ini c).2.length≤1000000000000∧(UT doc on q ini c).1.Fit∧∀p∈(UT doc on q ini c).2,p.p.length≤100000000000:=by
 obtain ⟨h1,h2⟩:=h.cnt on ini
 obtain ⟨f1,f2,f3⟩:=h.fits Fk on ini
 have e1:=FQ doc (LM [sT,q.key] [Hp on,c]) on [] [JS q ini] []
 have e2:=LL doc (LM [sT,q.key] [Hp on,c]) f2 on [] [JS q ini] [] f1 (by simp)
 refine ⟨znc e1 h2,e2.1,fun p hp=>?_⟩
 have:=(e2.2 p hp).1
 simp at this
 omega
theorem LatF.run {doc:List Az} (hd:DocOk doc) {q:Pk} {v x c:Ak} (h:LatF doc q v x c) (Fk:q.tw.length≤1000000000000) (on:ByteArray) (ini:Int) (hp:CH) (m:Nat) :
  Ah prog 15 hp m [B5 doc,.s on,.ds (Ad Bo [JS q ini]),vx (LM [sT,q.key] [Hp on,c])] (.tp [vx (UT doc on q ini c).1,.ds (Ad CZ (UT doc on q ini c).2)]):=by
 obtain ⟨h1,h2⟩:=h.cnt on ini
 obtain ⟨f1,f2,f3⟩:=h.fits Fk on ini
 exact Qi doc hd on [JS q ini] f1 _ f2 f3 (by omega) h2 hp m
theorem WA (v:Ak) (q:Pk):Bu (Il v q)≤Bu v:=by
 unfold Il
 cases e:AF v q.key with
 | none=>exact Es v
 | some x =>
  have h1:=Cq (DQ e)
  have h2:=Bn v
  show Bu x≤Bu v
  omega
theorem VC (v:Ak) (q:Pk) (h:(Il v q).k=5∨(Il v q).k=6):Bu (Il v q)+1≤Bu v:=by
 unfold Il at h ⊢
 cases e:AF v q.key with
 | none=>rw [e] at h;exact absurd h (by decide)
 | some x =>
  have h1:=Cq (DQ e)
  have h2:=Bn v
  show Bu x+1≤Bu v
  omega
theorem Uo (l:List Ak) (hl:l.length*80≤140737488355327) (hxs:∀x∈l,x.Fit) (hp:CH) (m:Nat):Ah prog 35 hp m [.ds (Ad A2 l)] (vx (V7 l)):=by
 refine Am func35 (by kernel_rfl) cc35 cr35 rfl fun hf=>?_;unfold ck35
 simp only [go_sem]
 refine Af.f (JC l hl (fun x hx hp m=>NK x (hxs x hx) hp m) _ _) ?_
 simp only [go_sem]
 rfl
theorem Q2 {l:List Ak} (h:l.length≤1000000000000) (hx:∀x∈l,x.Fit):(V7 l).Fit:=.mk _ (by simp only [V7,Ak.items_mk];omega) (by simp [V7,Ak.keys_mk]) (by simpa [V7,Ak.items_mk] using hx)
def X9 (l:List Ea):Prop:=l.length≤1000000000000∧∀p∈l,p.p.length≤1000000000000∧∀x∈p.p,x.Fit
theorem OR (l:List Ea) (h:X9 l) (hp:CH) (m:Nat):Ah prog 12 hp m [.ds (Ad CZ l),.ds (Ad CZ l)] (.b true):=by
 have hl:=h.1
 refine Am func12 (by kernel_rfl) cc12 cr12 rfl fun hf=>?_;unfold ck12
 simp (disch:=omega) only [Aa,go_sem]
 refine loop (fun p:Nat × Nat=>⟨[(0,.ds (Ad CZ l)),(1,.ds (Ad CZ l)),(5,.i .i64 p.1)],hp,p.2⟩) (fun p=>p.1≤l.length) (fun p=>l.length - p.1) (0,m) ?_ ?_ (fun ⟨j,n⟩ hj=>?_)
 .exact Nat.zero_le _
 .refine Ac ?_ (A6.refl _) (zna _)
  simp only [go_sem]
 dsimp only at hj
 simp (disch:=omega) only [Aa,go_sem]
 refine Ai (fun d=>?_) (fun d=>?_)
 case' refine_2 =>
  simp (disch:=omega) only [Aa,go_sem]
 have d:j<l.length:=by simpa using d
 obtain ⟨x,ex⟩:∃x,l[j]?=some x:=⟨l[j],by simp [d]⟩
 obtain ⟨h1,h2⟩:=h.2 x (List.mem_of_getElem? ex)
 have SP:=Uo x.p (by omega) h2
 have hSa:=LH (V7 x.p) (V7 x.p) (Q2 h1 h2) (Q2 h1 h2)
 rw [Kz,decide_eq_true rfl] at hSa
 simp (disch:=omega) only [Aa,d,Ag (Ab CZ ex),Ab CZ ex,Bool.not_true,Bool.not_false,go_sem]
 refine AG.f (fun _ _ _=>SP _ _) ?_
 simp (disch:=omega) only [Aa,d,Ag (Ab CZ ex),Ab CZ ex,Bool.not_true,Bool.not_false,go_sem]
 refine AG.f (fun _ _ _=>SP _ _) ?_
 simp (disch:=omega) only [Aa,d,Ag (Ab CZ ex),Ab CZ ex,Bool.not_true,Bool.not_false,go_sem]
 refine AG.f (fun _ _ _=>hSa _ _) ?_
 simp (disch:=omega) only [Aa,d,Ag (Ab CZ ex),Ab CZ ex,Bool.not_true,Bool.not_false,go_sem]
 refine ⟨(j+1,_),by dsimp only;omega,by dsimp only;omega,Ac ?_ (A6.refl _) (zna _)⟩
 simp (disch:=omega) only [Aa,At j (by omega),go_sem]
set_option maxHeartbeats 2000000
theorem FK (e:Int) (s:AP):(BV e s).1=s.1:=rfl
theorem EF (e:Int) (he:e≠0) (s:AP):(BV e s).2≠0:=by
 unfold BV
 dsimp only
 split
 .exact he
 .assumption
theorem Nr (lv:Nat) (s:AP) (h:s.1≤4096):(Gr lv s).1≤4097∧((Gr lv s).2=0→(Gr lv s).1≤4096∧lv≤24):=by
 unfold Gr
 by_cases c:24<lv
 .simp only [c,if_true]
  have h5:=EF 5 (by decide) s
  split
  .exact ⟨by rw [FK];show (BV 5 s).1+1≤4097;rw [FK];omega,fun e=>absurd e (EF 4 (by decide) _)⟩
  .exact ⟨by show (BV 5 s).1+1≤4097;rw [FK];omega,fun e=>absurd e h5⟩
 .simp only [c,if_false]
  split
  .exact ⟨by rw [FK];show s.1+1≤4097;omega,fun e=>absurd e (EF 4 (by decide) _)⟩
  .exact ⟨by show s.1+1≤4097;omega,fun e=>⟨by show s.1+1≤4096;omega,by omega⟩⟩
theorem Do:AB.Fit:=.mk _ (by show 0*80≤_;decide) (by show 0*16≤_;decide) (fun x (hx:x∈([]:List Ak))=>(by cases hx))
theorem QQ:AB.Rng:=.mk _ (by show (-9223372036854775808:Int)≤0;decide) (by show (0:Int)≤_;decide) (fun x (hx:x∈([]:List Ak))=>(by cases hx))
theorem HV (doc:List Az) (hd:DocB doc) (k:Nat) (hk:k≤24) (ih:1≤k→CoK doc k) (lit:Bool) (tn:ByteArray) (tw:List Int) (v:Ak) (s:AP) (Fk:tw.length≤1000000000) (hv:v.Fit) (hr:v.Rng) (hs:s.2=0) (PB:s.1≤4096)
  (hp:CH) (c n:Nat) (h:gc hp c=BI doc lit s):AQ prog 176 hp n [.bx c 0,DC tn tw,vx v,.i .i64 ((25 - k:Nat):Int)] ([(c,BI doc lit (CU doc (k+1) lit tn tw v s).2)]++hp) n (vx (CU doc (k+1) lit tn tw v s).1):=by
 have Gb:(∀k,n≤k→gc hp k=.no)→wsLt n [(c,BI doc lit (CU doc (k+1) lit tn tw v s).2)]:=fun hf=>EZ (CR h hf)
 have hc:=h
 unfold BI at hc
 have FH:=hd.l
 have hY:=G2 doc FH tn
 obtain ⟨RR,AD⟩:∃RR,CU doc (k+1) lit tn tw v s=RR:=⟨_,rfl⟩
 rw [AD] at Gb ⊢
 rw [CU] at AD
 have hF:=fun (Ao:CH) (e:gc Ao c=gc hp c) (n':Nat)=>Cv (hp:=Ao) (e.trans h) 10 n'
 have hz:∀hp m,Ah prog 18 hp m [.ag [.i .i64 0,.i .i64 0,.s ⟨#[]⟩,.e0,.e0],.s v.s] (.tp [vx AB,.b false]):=fun hp m=>(Iw AB Do v.s hp m).cv rfl
 obtain ⟨ib,hib⟩:∃b,HN doc tn=b:=⟨_,rfl⟩
 rw [hib] at hY AD
 refine CP func176 (by kernel_rfl) cc176 cr176 rfl Gb fun hf=>?_;unfold ck176
 have l1:=CR h hf
 simp (disch:=omega) only [Aa,hc,go_sem]
 refine A3.f (fun _ _ _=>hY _ _) ?_
 cases ib with
 | false =>
  rw [if_pos rfl] at AD
  subst AD
  have u1:¬n+6=c:=by omega
  simp (disch:=omega) only [Aa,go_sem]
  refine Af.x (hF _ (by repeat rw [Aq _ _ (by omega)]) _) ?_
  simp (disch:=omega) only [Aa,go_sem]
  all_goals
   refine B3 (Av _ _ _) fun j hj j1=>?_
   try simp only [zlh,zli]
   repeat rw [Aq _ _ (by omega)]
   try rfl
 | true =>
 rw [if_neg (by decide)] at AD
 obtain ⟨S1,QO⟩:∃S1,Gr (25 - k) s=S1:=⟨_,rfl⟩
 have hN:=Nr (25 - k) s PB
 have hNo:=fun (Ao:CH) (e:gc Ao c=BI doc lit s) (n':Nat)=>Rd (hp:=Ao) e (25 - k) (by omega) (by omega) n'
 rw [QO] at hN AD
 simp only [QO] at hNo
 have Hq:=fun (Ao:CH) (e:gc Ao c=BI doc lit S1) (e2:Int) (n':Nat)=>Cv (hp:=Ao) e e2 n'
 have hNN:=D0 tn tw (by omega)
 by_cases hv7:lit=true∧v.k=7
 .obtain ⟨rfl,h7⟩:=hv7
  have AD:(if S1.2≠0 then (AB,S1) else (AB,if FSw tw=true then BV 23 S1 else S1))=RR:=by
   dsimp only at AD
   simp only [h7,and_self,if_true,(rfl:AB.k=0)] at AD
   exact AD
  simp (disch:=omega) only [Aa,decide_eq_true h7,hc,go_sem]
  refine A3.f (fun _ _ _=>hz _ _) ?_
  simp (disch:=omega) only [Aa,hc,go_sem]
  refine ⟨by omega,?_⟩
  refine Af.x (hNo _ (by (repeat rw [Aq _ _ (by omega)]);exact h) _) ?_
  simp only [BI,zlh,zli]
  simp (disch:=omega) only [Aa,go_sem]
  refine Ai (fun w=>?_) (fun w=>?_)
  .have w:S1.2≠0:=by simpa using w
   rw [if_pos w] at AD
   subst AD
   simp (disch:=omega) only [Aa,go_sem]
   all_goals
    refine B3 (Av _ _ _) fun j hj j1=>?_
    repeat rw [Aq _ _ (by omega)]
  .have w:¬S1.2≠0:=by simpa using w
   rw [if_neg w] at AD
   simp (disch:=omega) only [Aa,go_sem]
   refine Af.f (hNN _ _) ?_
   simp (disch:=omega) only [Aa,go_sem]
   refine Ai (fun w2=>?_) (fun w2=>?_)
   .rw [if_pos w2] at AD
    subst AD
    simp (disch:=omega) only [Aa,go_sem]
    refine Af.x (Hq _ (by (repeat rw [Aq _ _ (by omega)]);exact Av _ _ _) 23 _) ?_
    simp only [BI,zlh,zli]
    simp (disch:=omega) only [Aa,go_sem]
    all_goals
     refine B3 (Av _ _ _) fun j hj j1=>?_
     repeat rw [Aq _ _ (by omega)]
   .rw [if_neg (by simp [w2])] at AD
    subst AD
    simp (disch:=omega) only [Aa,go_sem]
    all_goals
     refine B3 (Av _ _ _) fun j hj j1=>?_
     repeat rw [Aq _ _ (by omega)]
 .dsimp only at AD
  rw [if_neg hv7] at AD
  have e7:(lit&&decide (v.k=7))=false:=by
   cases lit with
   | false=>rfl
   | true=>simp;exact fun e=>hv7 ⟨rfl,e⟩
  simp (disch:=omega) only [Aa,hc,go_sem]
  refine Ai (fun w=>?_) (fun w=>?_)
  .rw [e7] at w;cases w
  have k1:¬n=c:=by omega
  simp (disch:=omega) only [Aa,go_sem]
  refine Af.x (hNo _ (by (repeat rw [Aq _ _ (by omega)]);exact h) _) ?_
  simp only [BI,zlh,zli]
  simp (disch:=omega) only [Aa,go_sem]
  refine Ai (fun w=>?_) (fun w=>?_)
  .have w:S1.2≠0:=by simpa using w
   rw [if_pos w] at AD
   subst AD
   simp (disch:=omega) only [Aa,go_sem]
   all_goals
    refine B3 (Av _ _ _) fun j hj j1=>?_
    repeat rw [Aq _ _ (by omega)]
  have w:¬S1.2≠0:=by simpa using w
  rw [if_neg w] at AD
  simp (disch:=omega) only [Aa,go_sem]
  have hk1:1≤k:=by have:=(hN.2 (Classical.not_not.1 w)).2;omega
  have hSk:S1.2=0:=Classical.not_not.1 w
  have hS4:S1.1≤4096:=(hN.2 hSk).1
  refine Ai (fun w0=>?_) (fun w0=>?_)
  .have w0:v.k=0:=by simpa using w0
   rw [if_pos w0] at AD
   simp (disch:=omega) only [Aa,go_sem]
   refine Af.f (hNN _ _) ?_
   simp (disch:=omega) only [Aa,go_sem]
   refine Ai (fun w2=>?_) (fun w2=>?_)
   .rw [if_pos w2] at AD
    subst AD
    simp (disch:=omega) only [Aa,go_sem]
    refine Af.x (Hq _ (by (repeat rw [Aq _ _ (by omega)]);exact Av _ _ _) 23 _) ?_
    simp only [BI,zlh,zli]
    simp (disch:=omega) only [Aa,go_sem]
    all_goals
     refine B3 (Av _ _ _) fun j hj j1=>?_
     repeat rw [Aq _ _ (by omega)]
   .rw [if_neg (by simp [w2])] at AD
    subst AD
    simp (disch:=omega) only [Aa,go_sem]
    all_goals
     refine B3 (Av _ _ _) fun j hj j1=>?_
     repeat rw [Aq _ _ (by omega)]
  have w0:¬v.k=0:=by simpa using w0
  rw [if_neg w0] at AD
  have hI:=Hv tn tw (by omega)
  simp (disch:=omega) only [Aa,go_sem]
  refine Af.f (hI _ _) ?_
  by_cases c3:CK tw=true
  .rw [if_pos c3] at AD
   rw [if_pos c3]
   have il:(DT tw).length≤tw.length:=by
    unfold DT
    have:=Cs tw
    rw [List.length_tail]
    omega
   have hL:=fun (Ao:CH) (e:gc Ao c=BI doc lit S1) (n':Nat)=>Rf doc k hk1 hk (ih hk1) lit tn (DT tw) v S1 (by omega) hv hr hN.1 (fun e=>(hN.2 e).1) Ao c n' e
   rw [AD] at hL
   simp (disch:=omega) only [Aa,go_sem]
   refine Af.x (hL _ (by (repeat rw [Aq _ _ (by omega)]);exact Av _ _ _) _) ?_
   simp only [BI,zlh,zli]
   simp (disch:=omega) only [Aa,go_sem]
   all_goals
    refine B3 (Av _ _ _) fun j hj j1=>?_
    repeat rw [Aq _ _ (by omega)]
  rw [if_neg c3] at AD
  rw [if_neg c3]
  simp (disch:=omega) only [Aa,go_sem]
  refine Af.f (Ds tn _ _) ?_
  simp (disch:=omega) only [Aa,go_sem]
  refine Ai (fun w4=>?_) (fun w4=>?_)
  .rw [if_pos w4] at AD
   have hL:=fun (Ao:CH) (e:gc Ao c=BI doc lit S1) (n':Nat)=>Mh (hp:=Ao) e tn v hr n'
   rw [AD] at hL
   simp (disch:=omega) only [Aa,go_sem]
   refine Af.x (hL _ (by (repeat rw [Aq _ _ (by omega)]);exact Av _ _ _) _) ?_
   simp only [BI,zlh,zli]
   simp (disch:=omega) only [Aa,go_sem]
   all_goals
    refine B3 (Av _ _ _) fun j hj j1=>?_
    repeat rw [Aq _ _ (by omega)]
  rw [if_neg (by simp [w4])] at AD
  have hFi:=BM doc (by omega) tn
  unfold DH at hFi
  have hb:=B9 (Pm hd tn)
  have hme:(∀e∈((A1 doc tn).getD Dv).members,∃x y,e=[AV.s x,.ds y])∧((A1 doc tn).getD Dv).members.length≤1000000000000:=by
   cases e:A1 doc tn with
   | none=>exact ⟨by intro f hf;simp [Dv,Az.members_mk] at hf,by simp [Dv,Az.members_mk]⟩
   | some t =>
    have hB:=hd.d t (List.mem_of_find?_eq_some e)
    exact ⟨fun e he=>let ⟨x,y,q,_⟩:=hB.m e he;⟨x,y,q⟩,by have:=hB.ml;show t.members.length≤_;omega⟩
  obtain ⟨t,het⟩:∃t,(A1 doc tn).getD Dv=t:=⟨_,rfl⟩
  rw [het] at hFi hb hme AD
  simp (disch:=omega) only [Aa,go_sem]
  refine A3.f (fun _ _ _=>hFi _ _) ?_
  by_cases c4:t.k=4
  .rw [if_pos c4] at AD
   have hL:=fun (Ao:CH) (e:gc Ao c=BI doc lit S1) (n':Nat)=>Sb (hp:=Ao) e t hme.1 hme.2 v n'
   rw [AD] at hL
   have u22:¬n+22=c:=by omega
   simp (disch:=omega) only [Aa,decide_eq_true c4,go_sem]
   refine ⟨u22,?_⟩
   refine Af.x (hL _ (by (repeat rw [Aq _ _ (by omega)]);exact Av _ _ _) _) ?_
   simp only [BI,zlh,zli]
   simp (disch:=omega) only [Aa,go_sem]
   all_goals
    refine B3 (Av _ _ _) fun j hj j1=>?_
    repeat rw [Aq _ _ (by omega)]
  .rw [if_neg c4] at AD
   have hL:=fun (Ao:CH) (e:gc Ao c=BI doc lit S1) (n':Nat)=>Ng doc k hk1 hk (ih hk1) lit t (AZ t.inputs) hb.1 hb.2.1 hb.2.2 v S1 hv hr hSk hS4 Ao c n' e
   rw [AD] at hL
   have u22:¬n+22=c:=by omega
   simp (disch:=omega) only [Aa,decide_eq_false c4,go_sem]
   refine ⟨u22,?_⟩
   refine Af.x (hL _ (by (repeat rw [Aq _ _ (by omega)]);exact Av _ _ _) _) ?_
   simp only [BI,zlh,zli]
   simp (disch:=omega) only [Aa,go_sem]
   all_goals
    refine B3 (Av _ _ _) fun j hj j1=>?_
    repeat rw [Aq _ _ (by omega)]
def Dm (r:Ak × AP):Prop:=r.2.1≤4097∧(r.2.2=0→r.2.1≤4096)∧r.1.Fit
theorem EA {e:Int} (he:e≠0) {s:AP} (h:s.1≤4097):Dm (AB,BV e s):=⟨h,fun q=>absurd q (EF e he s),Do⟩
theorem Vf {F:Ak→AP→Ak × AP} {l:List Ak} (hF:∀x∈l,∀s:AP,s.2=0→s.1≤4096→Dm (F x s)):∀s:AP,s.1≤4097→(s.2=0→s.1≤4096)→(ID F l s).2.1≤4097∧((ID F l s).2.2=0→(ID F l s).2.1≤4096)∧∀x∈(ID F l s).1,x.Fit:=by
 induction l with
 | nil=>exact fun s h1 h2=>⟨h1,h2,fun x hx=>by cases hx⟩
 | cons a l ih =>
  intro s h1 h2
  by_cases h:s.2=0
  .rw [Hc F a l s h]
   obtain ⟨g1,g2,g3⟩:=hF a (List.mem_cons_self ..) s h (h2 h)
   obtain ⟨i1,i2,i3⟩:=ih (fun x hx=>hF x (List.mem_cons_of_mem _ hx)) (F a s).2 g1 g2
   exact ⟨i1,i2,fun x hx=>by
    rcases zlw.1 hx with rfl | hx
    .exact g3
    .exact i3 x hx⟩
  .rw [Lb F _ s h]
   exact ⟨h1,h2,fun x hx=>by cases hx⟩
theorem TH {F:Ak→AP→Ak × AP} {v:Ak} (hv:v.Fit) (hF:∀x∈RN v,∀s:AP,s.2=0→s.1≤4096→Dm (F x s)) (s:AP) (h1:s.1≤4097) (h2:s.2=0→s.1≤4096):Dm (lsE F v s):=by
 obtain ⟨g1,g2,g3⟩:=Vf hF s h1 h2
 refine ⟨g1,g2,.mk _ ?_ (by show 0*16≤_;decide) g3⟩
 have:=PU F (RN v) s
 have h3:(RN v).length*80≤140737488355327:=by unfold RN;split;exact hv.i;simp
 show (ID F (RN v) s).1.length*80≤_
 omega
theorem QX (n:ByteArray) {v:Ak} (hv:v.Fit) {s:AP} (h1:s.1≤4096):Dm (M5 n v s):=by
 unfold M5
 have hs:s.1≤4097:=by omega
 split
 .exact ⟨hs,fun _=>h1,hv⟩
 .split
  .exact ⟨hs,fun _=>h1,hv⟩
  .split
   .exact ⟨hs,fun _=>h1,.mk _ (by show 0*80≤_;decide) (by show 0*16≤_;decide) (fun x (hx:x∈([]:List Ak))=>(by cases hx))⟩
   .exact EA (by decide) hs
theorem TS (lit:Bool) (t:Az) (v:Ak) {s:AP} (h1:s.1≤4096):Dm (XG lit t v s):=by
 unfold XG
 have hs:s.1≤4097:=by omega
 split
 .exact ⟨hs,fun _=>h1,.mk _ (by show 0*80≤_;decide) (by show 0*16≤_;decide) (fun x (hx:x∈([]:List Ak))=>(by cases hx))⟩
 .exact EA (by decide) hs
def Pi (r:(List ByteArray × List Ak) × AP) (n:Nat):Prop:=r.2.1≤4097∧(r.2.2=0→r.2.1≤4096)∧(∀y∈r.1.2,y.Fit)∧r.1.2.length≤n∧r.1.1.length≤n
theorem Pi.up {r:(List ByteArray × List Ak) × AP} {n:Nat} (h:Pi r n):Pi r (n+1):=⟨h.1,h.2.1,h.2.2.1,by have:=h.2.2.2.1;omega,by have:=h.2.2.2.2;omega⟩
theorem Pi.cons {r:(List ByteArray × List Ak) × AP} {n:Nat} (h:Pi r n) {y:Ak} (hy:y.Fit) (a:ByteArray):Pi ((a::r.1.1,y::r.1.2),r.2) (n+1):=by
 refine ⟨h.1,h.2.1,fun x hx=>?_,?_,?_⟩
 .rcases zlw.1 hx with rfl | hx
  .exact hy
  .exact h.2.2.1 x hx
 .have:=h.2.2.2.1
  show (_::_).length≤_
  rw [zlc]
  omega
 .have:=h.2.2.2.2
  show (_::_).length≤_
  rw [zlc]
  omega
theorem U0 {lit:Bool} {Fl Fp:ByteArray→List Int→Ak→AP→Ak × AP} {v:Ak} (hv:v.Fit) (hr:v.Rng):∀(l pre:List B6) (s:AP),(∀x∈l,∀(y:Ak) (s:AP),y.Fit→y.Rng→s.2=0→s.1≤4096→Dm (Fl x.tn x.tw y s))→(∀x∈l,∀s:AP,s.2=0→s.1≤4096→Dm (Fp x.tn x.tw x.d s))→s.1≤4097→(s.2=0→s.1≤4096)→Pi (LX lit Fl Fp v pre l s) l.length:=by
 intro l
 induction l with
 | nil=>exact fun pre s _ _ h1 h2=>⟨h1,h2,(fun x hx=>by cases hx),zna _,zna _⟩
 | cons x l ih =>
  intro pre s hl hp h1 h2
  by_cases h:s.2=0
  .have hi:=fun (s':AP) (a:s'.1≤4097) (b:s'.2=0→s'.1≤4096)=>ih (pre++[x]) s' (fun y hy=>hl y (List.mem_cons_of_mem _ hy)) (fun y hy=>hp y (List.mem_cons_of_mem _ hy)) a b
   have hg:=Qp hv hr x.n
   rw [LX,if_pos h,zlc]
   split
   .exact (hi s h1 h2).up
   .split
    .obtain ⟨g1,g2,g3⟩:=hl x (List.mem_cons_self ..) _ s hg.1 hg.2 h (h2 h)
     exact (hi _ g1 g2).cons g3 _
    .split
     .obtain ⟨g1,g2,g3⟩:=hp x (List.mem_cons_self ..) s h (h2 h)
      exact (hi _ g1 g2).cons g3 _
     .split
      .exact (hi (BV 22 s) h1 (fun q=>absurd q (EF 22 (by decide) s))).cons Do _
      .exact (hi s h1 h2).up
  .rw [T6 _ _ _ _ _ _ _ h]
   exact ⟨h1,h2,(fun x hx=>by cases hx),Nat.zero_le _,Nat.zero_le _⟩
theorem RA {lit:Bool} {Fl Fp:ByteArray→List Int→Ak→AP→Ak × AP} {is:List B6} (hi:is.length≤16) {v:Ak} (hv:v.Fit) (hr:v.Rng) (hl:∀x∈is,∀(y:Ak) (s:AP),y.Fit→y.Rng→s.2=0→s.1≤4096→Dm (Fl x.tn x.tw y s)) (hp:∀x∈is,∀s:AP,s.2=0→s.1≤4096→Dm (Fp x.tn x.tw x.d s)) {s:AP} (h1:s.1≤4096):Dm (Mj lit Fl Fp is v s):=by
 unfold Mj
 split
 .obtain ⟨g1,g2,g3,g4,g5⟩:=U0 (lit:=lit) hv hr is [] (QA is v.keys s) hl hp (by rw [Lj];omega) (fun _=>by rw [Lj];exact h1)
  refine ⟨g1,g2,.mk _ ?_ ?_ g3⟩
  .show (LX lit Fl Fp v [] is (QA is v.keys s)).1.2.length*80≤_
   omega
  .show (LX lit Fl Fp v [] is (QA is v.keys s)).1.1.length*16≤_
   omega
 .exact EA (by decide) (by omega)
theorem Ty {v:Ak} (hv:v.Fit) (hr:v.Rng):∀x∈RN v,x.Fit∧x.Rng:=by
 unfold RN
 split
 .exact fun x hx=>⟨hv.x hx,hr.x hx⟩
 .intro x hx
  simp at hx
  subst hx
  exact ⟨hv,hr⟩
theorem Nx (doc:List Az) (hd:DocB doc) (k:Nat) (hk:k≤24) (ih:1≤k→∀(lit:Bool) (tn:ByteArray) (tw:List Int) (v:Ak) (s:AP),tw.length≤1000000000→v.Fit→v.Rng→s.2=0→s.1≤4096→Dm (CU doc k lit tn tw v s)) (lit:Bool) (tn:ByteArray) (tw:List Int) (v:Ak) (s:AP) (Fk:tw.length≤1000000000) (hv:v.Fit) (hr:v.Rng) (hs:s.2=0) (PB:s.1≤4096):Dm (CU doc (k+1) lit tn tw v s):=by
 rw [CU]
 split
 .exact EA (by decide) (by omega)
 have Og:(if lit=true∧v.k=7 then AB else v).Fit∧(if lit=true∧v.k=7 then AB else v).Rng:=by
  split
  .exact ⟨Do,QQ⟩
  .exact ⟨hv,hr⟩
 obtain ⟨v',e⟩:∃v',(if lit=true∧v.k=7 then AB else v)=v':=⟨_,rfl⟩
 rw [e] at Og
 have hN:=Nr (25 - k) s PB
 obtain ⟨S1,QO⟩:∃S1,Gr (25 - k) s=S1:=⟨_,rfl⟩
 rw [QO] at hN
 simp only [e,QO]
 split
 .rename_i w
  exact ⟨hN.1,fun q=>absurd q w,Do⟩
 rename_i w
 have hSk:S1.2=0:=Classical.not_not.1 w
 have h4:=(hN.2 hSk).1
 have hk1:1≤k:=by have:=(hN.2 hSk).2;omega
 have ih:=ih hk1
 have il:(DT tw).length≤1000000000:=by
  unfold DT
  have:=Cs tw
  rw [List.length_tail]
  omega
 have hb:=B9 (Pm hd tn)
 split
 .split
  .exact EA (by decide) hN.1
  .exact ⟨hN.1,fun _=>h4,Do⟩
 split
 .exact TH Og.1 (fun x hx s a b=>ih lit tn _ x s il (Ty Og.1 Og.2 x hx).1 (Ty Og.1 Og.2 x hx).2 a b) S1 hN.1 (fun _=>h4)
 split
 .exact QX _ Og.1 h4
 split
 .exact TS _ _ _ h4
 .exact RA hb.2.1 Og.1 Og.2 (fun x hx y s a b c d=>ih lit _ _ y s (hb.2.2 x hx).1.1 a b c d) (fun x hx s c d=>ih true _ _ x.d s (hb.2.2 x hx).1.1 (hb.2.2 x hx).1.2.1.1 (hb.2.2 x hx).1.2.1.2 c d) h4
theorem coK (doc:List Az) (hd:DocB doc):∀k,k≤24→CoK doc (k+1):=by
 intro k
 induction k with
 | zero =>
  intro hk lit tn tw v s Fk hv hr hs PB
  refine ⟨?_,fun hp c n h=>HV doc hd 0 hk (fun w=>absurd w (by decide)) lit tn tw v s Fk hv hr hs PB hp c n h⟩
  exact Nx doc hd 0 hk (fun w=>absurd w (by decide)) lit tn tw v s Fk hv hr hs PB
 | succ k ih =>
  intro hk lit tn tw v s Fk hv hr hs PB
  have ih:=ih (by omega)
  refine ⟨?_,fun hp c n h=>by
   have:=HV doc hd (k+1) hk (fun _=>ih) lit tn tw v s Fk hv hr hs PB hp c n h
   have e:26 - (k+1+1)=25 - (k+1):=by omega
   rw [e]
   exact this⟩
  exact Nx doc hd (k+1) hk (fun _ lit tn tw v s a b c d e=>(ih lit tn tw v s a b c d e).1) lit tn tw v s Fk hv hr hs PB
noncomputable def Rq (doc:List Az) (lit:Bool) (tn:ByteArray) (tw:List Int) (v:Ak):Ak × Int :=
 if (CU doc 25 lit tn tw v (0,0)).2.2=0 then ((CU doc 25 lit tn tw v (0,0)).1,0) else (AB,(CU doc 25 lit tn tw v (0,0)).2.2)
theorem WW (doc:List Az) (hd:DocB doc) (lit:Bool) (tn:ByteArray) (tw:List Int) (v:Ak) (Fk:tw.length≤1000000000) (hv:v.Fit) (hr:v.Rng):(Rq doc lit tn tw v).1.Fit:=by
 unfold Rq
 split
 .exact (coK doc hd 24 (by decide) lit tn tw v (0,0) Fk hv hr rfl (by decide)).1.2.2
 .exact Do
theorem Nb (doc:List Az) (hd:DocB doc) (lit:Bool) (tn:ByteArray) (tw:List Int) (v:Ak) (Fk:tw.length≤1000000000) (hv:v.Fit) (hr:v.Rng) (hp:CH) (c n:Nat) (h:gc hp c=BI doc lit (0,0)) :
  AQ prog 165 hp n [.bx c 0,DC tn tw,vx v] ([(c,BI doc lit (CU doc 25 lit tn tw v (0,0)).2)]++hp) n (.tp [vx (Rq doc lit tn tw v).1,.i .i64 (Rq doc lit tn tw v).2]):=by
 have Gb:(∀k,n≤k→gc hp k=.no)→wsLt n [(c,BI doc lit (CU doc 25 lit tn tw v (0,0)).2)]:=fun hf=>EZ (CR h hf)
 obtain ⟨⟨f1,f2,f3⟩,f4⟩:=coK doc hd 24 (by decide) lit tn tw v (0,0) Fk hv hr rfl (by decide)
 obtain ⟨RR,AD⟩:∃RR,Rq doc lit tn tw v=RR:=⟨_,rfl⟩
 rw [AD]
 unfold Rq at AD
 obtain ⟨Y,hY⟩:∃Y,CU doc 25 lit tn tw v (0,0)=Y:=⟨_,rfl⟩
 have f4:∀(hp:CH) (c n:Nat),gc hp c=BI doc lit (0,0)→AQ prog 176 hp n [.bx c 0,DC tn tw,vx v,.i .i64 1] ([(c,BI doc lit (CU doc 25 lit tn tw v (0,0)).2)]++hp) n (vx (CU doc 25 lit tn tw v (0,0)).1):=f4
 rw [hY] at Gb AD ⊢
 simp only [hY] at f4
 refine CP func165 (by kernel_rfl) cc165 cr165 rfl Gb fun hf=>?_;unfold ck165
 have l1:=CR h hf
 simp (disch:=omega) only [Aa,go_sem]
 refine Af.x (f4 _ c _ (by (repeat rw [Aq _ _ (by omega)]);exact h)) ?_
 simp only [BI,zlh,zli]
 have k1:¬n+3=c:=by omega
 have k2:¬c=n+3:=by omega
 by_cases w:Y.2.2=0
 .rw [if_pos w] at AD
  subst AD
  simp (disch:=omega) only [Aa,k1,k2,decide_eq_true w,go_sem]
  refine B3 (Av _ _ _) fun j hj j1=>?_
  repeat rw [Aq _ _ (by omega)]
 .rw [if_neg w] at AD
  subst AD
  have k3:¬n+2=c:=by omega
  simp (disch:=omega) only [Aa,k1,k2,decide_eq_false w,go_sem]
  refine ⟨k3,B3 (Av _ _ _) fun j hj j1=>?_⟩
  repeat rw [Aq _ _ (by omega)]
theorem O8 (doc:List Az) (hd:DocB doc) (tn:ByteArray) (tw:List Int) (v:Ak) (Fk:tw.length≤1000000000) (hv:v.Fit) (hr:v.Rng) (hp:CH) (n:Nat):Ah prog 167 hp n [B5 doc,DC tn tw,vx v] (.tp [vx (Rq doc false tn tw v).1,.i .i64 (Rq doc false tn tw v).2]):=by
 have hR:=fun (Ao:CH) (c:Nat) (e:gc Ao c=BI doc false (0,0)) (n':Nat)=>Nb doc hd false tn tw v Fk hv hr Ao c n' e
 obtain ⟨RR,AD⟩:∃RR,Rq doc false tn tw v=RR:=⟨_,rfl⟩
 simp only [AD] at hR
 rw [AD]
 refine Am func167 (by kernel_rfl) cc167 cr167 rfl fun hf=>?_;unfold ck167
 simp (disch:=omega) only [Aa,go_sem]
 refine Af.x (hR _ (n+4) (Av _ _ _) _) ?_
 simp only [BI,zlh,zli]
 simp (disch:=omega) only [Aa,go_sem]
theorem Li (doc:List Az) (hd:DocB doc) (tn:ByteArray) (tw:List Int) (v:Ak) (Fk:tw.length≤1000000000) (hv:v.Fit) (hr:v.Rng):∃R:Ak × Int,∀(hp:CH) (n:Nat),Ah prog 135 hp n [B5 doc,DC tn tw,vx v,.ag [.i .i64 0,.i .i64 0,.s ⟨#[]⟩,.e0,.e0]] (.tp [vx R.1,.i .i64 R.2]):=by
 have hR:=fun (Ao:CH) (c:Nat) (e:gc Ao c=BI doc true (0,0)) (n':Nat)=>Nb doc hd true tn tw v Fk hv hr Ao c n' e
 obtain ⟨RR,AD⟩:∃RR,Rq doc true tn tw v=RR:=⟨_,rfl⟩
 simp only [AD] at hR
 have hY:=G2 doc hd.l tn
 obtain ⟨ib,hib⟩:∃b,HN doc tn=b:=⟨_,rfl⟩
 rw [hib] at hY
 have hM:=fun (Ao:CH) (c:Nat) (e:gc Ao c=BI doc true (0,0)) (n':Nat)=>GU (hp:=Ao) e v n'
 obtain ⟨mb,hmb⟩:∃b,(true&&decide (v.k=7))=b:=⟨_,rfl⟩
 simp only [hmb] at hM
 refine ⟨if ib=true∧mb=true then (AB,8) else RR,fun hp n=>?_⟩
 refine Am func135 (by kernel_rfl) cc135 cr135 rfl fun hf=>?_;unfold ck135
 simp (disch:=omega) only [Aa,go_sem]
 refine Af.f (hY _ _) ?_
 simp (disch:=omega) only [Aa,go_sem]
 refine AA.f (fun _=>hM _ (n+5) (by (repeat rw [Aq _ _ (by omega)]);exact Av _ _ _) _) ?_
 cases ib<;>cases mb
 case' true.true =>
  simp (disch:=omega) only [Aa,go_sem]
 all_goals
  simp (disch:=omega) only [Aa,go_sem]
  refine Af.x (hR _ (n+5) (by (repeat rw [Aq _ _ (by omega)]);exact Av _ _ _) _) ?_
  simp only [BI,zlh,zli]
  simp (disch:=omega) only [Aa,go_sem]
end Go.Proofs.YtgfidgoefioigaaGreatDoor
