/- Proof. Conditions: none. -/
import Derived.Test.YtgfidgoefioigaaGreatDoorProg
import Derived.KernelRfl
import Derived.Test.YtgfidgoefioigaaGreatDoorIi33
open Go.Proofs.Tryz
open List renaming length_cons→zlc,length_append→zld,length_nil→zle,length_map→zlv
open Nat renaming le_refl→zna
namespace Go.Proofs.YtgfidgoefioigaaGreatDoor
open Go.Eng
set_option linter.all false
set_option maxRecDepth 20000
set_option maxHeartbeats 1000000
noncomputable def LY (s:Bool) (t:Az) (name:ByteArray) (doc:List Az) (j:Nat):List ByteArray:=if s=true then FF t name [] (doc.take j) else []
theorem VY (s:Bool) (t:Az) (name:ByteArray) (doc:List Az) (j:Nat):(LY s t name doc j).length≤j:=by
 unfold LY
 split
 .have:=He t name (doc.take j) []
  rw [List.length_take] at this
  omega
 .simp
theorem Ve {t x:Az} {name:ByteArray} {doc:List Az} {j:Nat} (e:doc[j]?=some x):LY true t name doc (j+1)=if x.n ∉ (doc.take j).map Az.n∧x.k=1∧Kg t name x=true then LY true t name doc j++[x.n] else LY true t name doc j:=by
 unfold LY
 rw [if_pos rfl,if_pos rfl,←Bg e,KI,List.nil_append]
 split
 .rfl
 .rw [List.append_nil]
theorem NF (doc:List Az) (hd:DocOk doc) (name:ByteArray) (hp:CH) (m:Nat):Ah prog 90 hp m [B5 doc,.s name] (.ds (Bv (En doc name))):=by
 have h1:=BM doc hd.len name
 have hg:=hd.g name
 have Bb:=hd.len
 have hposL:En doc name=LY (A1 doc name).isSome ((A1 doc name).getD Dv) name doc doc.length:=by
  unfold En LY
  cases A1 doc name with
  | none=>rfl
  | some t=>rw [if_pos (show (some t).isSome=true from rfl),List.take_length];rfl
 rw [hposL]
 unfold DH at h1
 obtain ⟨t,ht⟩:∃t,(A1 doc name).getD Dv=t:=⟨_,rfl⟩
 obtain ⟨s,hs⟩:∃s,(A1 doc name).isSome=s:=⟨_,rfl⟩
 rw [ht] at h1 hg ⊢
 rw [hs] at h1 ⊢
 obtain ⟨g1,g2,g3⟩:=hg
 obtain ⟨R,hR⟩:∃R,LY s t name doc doc.length=R:=⟨_,rfl⟩
 rw [hR]
 refine Am func90 (by kernel_rfl) cc90 cr90 rfl fun hf=>?_;unfold ck90
 simp only [go_sem]
 refine Af.f (h1 _ _) ?_
 simp (disch:=omega) only [Aa,go_sem]
 refine loop (fun p:Nat × Nat=>⟨[(1,.s name),(2,.bx m 0),(5,.rw (m+2) (LY s t name doc p.1).length (LY s t name doc p.1).length),(6,.bx (m+1) 0),(7,.b s),(8,.i .i64 p.1)],
   (m+2,.rw (LY s t name doc p.1).length 1 (Bv (LY s t name doc p.1)))::(m,.bx [.ds (Ad BB doc)])::(m+1,.bx [.i .i64 t.k,.s t.n,.ds t.impl,.ds t.dirs,.ds (Ad Bq t.fields),.ds t.members,.ds t.inputs])::hp,p.2⟩)
  (fun p=>p.1≤doc.length∧m+3≤p.2) (fun p=>doc.length - p.1) (0,m+3) ?_ ?_ (fun ⟨j,k⟩ hj=>?_)
 .exact ⟨by simp,by simp⟩
 .have p0:LY s t name doc 0=[]:=by unfold LY;split<;>rfl
  refine (B0 (t:=5) (m:=1) ?_).trans (Ac ?_ (A6.cons ?_ (A6.cons ?_ (A6.cons ?_ (A6.base hf ?_)))) (zna _))
  all_goals (simp (disch:=omega) only [Aa,p0,go_sem])
 dsimp only at hj
 obtain ⟨Cm,Ba⟩:=hj
 have Oq:=VY s t name doc j
 simp (disch:=omega) only [Aa,go_sem]
 refine Ai (fun q=>?_) (fun q=>?_)
 .have q:j<doc.length∧s=true:=by simpa using q
  obtain ⟨qj,qs⟩:=q
  subst qs
  obtain ⟨x,ex⟩:∃x,doc[j]?=some x:=⟨doc[j],by simp [qj]⟩
  have SB:=List.mem_of_getElem? ex
  have hx:=hd.ok x SB
  have Ip:=Sj doc Bb j x ex
  have C1:=Ve (t:=t) (name:=name) ex
  have hha:=Lc (Gg x.impl) name (by have:=hd.im x SB;rw [hx.impl] at this;simpa [Ad] using this)
  rw [←hx.impl] at hha
  have hme:=O6 t g1 g3 x.n
  simp (disch:=omega) only [Aa,qj,Ag (Ab BB ex),go_sem]
  refine AA.f (fun _=>Ip _ _) ?_
  simp (disch:=omega) only [Aa,go_sem]
  refine Ai (fun c=>?_) (fun c=>?_)
  .rw [if_neg (fun h=>by rw [decide_eq_true h.1,decide_eq_true h.2.1] at c;cases c)] at C1
   simp (disch:=omega) only [Aa,go_sem]
   refine ⟨(j+1,_),⟨by dsimp only;omega,by dsimp only;omega⟩,by dsimp only;omega,Ac ?_ (A6.cons ?_ (A6.cons ?_ (A6.cons ?_ (A6.base hf ?_)))) (zna _)⟩
   all_goals
    simp (disch:=omega) only [Aa,C1,At j (by omega),go_sem]
  .simp (disch:=omega) only [Aa,go_sem]
   refine AA.f (fun _=>hha _ _) ?_
   simp (disch:=omega) only [Aa,go_sem]
   refine AA.f (fun _=>hme _ _) ?_
   simp (disch:=omega) only [Aa,go_sem]
   refine Ai (fun c2=>?_) (fun c2=>?_)
   .have Bt:Kg t name x=true:=by
     unfold Kg
     rw [←Bool.or_assoc]
     exact c2
    have hk1:x.n ∉ (doc.take j).map Az.n∧x.k=1:=by
     simp only [Bool.or_eq_false_iff,Bool.not_eq_false',decide_eq_true_eq] at c
     exact ⟨c.2,c.1⟩
    rw [if_pos ⟨hk1.1,hk1.2,Bt⟩] at C1
    have hg:Ad C9 (LY true t name doc j)++[[AV.s x.n]]=Ad C9 (LY true t name doc j++[x.n]):=Bi C9 _ x.n
    simp (disch:=omega) only [Aa,hg,go_sem]
    refine ⟨by omega,by omega,(j+1,_),⟨by dsimp only;omega,by dsimp only;omega⟩,by dsimp only;omega,Ac ?_ (A6.cons ?_ (A6.cons ?_ (A6.cons ?_ (A6.base hf ?_)))) (zna _)⟩
    all_goals
     simp (disch:=omega) only [Aa,C1,At j (by omega),zld,zlc,zle,go_sem]
   .have Bt:¬Kg t name x=true:=by
     unfold Kg
     rw [←Bool.or_assoc]
     simp only [c2]
     decide
    rw [if_neg (fun h=>Bt h.2.2)] at C1
    simp (disch:=omega) only [Aa,go_sem]
    refine ⟨(j+1,_),⟨by dsimp only;omega,by dsimp only;omega⟩,by dsimp only;omega,Ac ?_ (A6.cons ?_ (A6.cons ?_ (A6.cons ?_ (A6.base hf ?_)))) (zna _)⟩
    all_goals
     simp (disch:=omega) only [Aa,C1,At j (by omega),go_sem]
 .have hRj:LY s t name doc j=R:=by
   rw [←hR]
   cases s with
   | false=>rfl
   | true =>
    have:j=doc.length:=by simp at q;omega
    rw [this]
  rw [hRj]
  simp (disch:=omega) only [Aa,go_sem]
theorem Z1 (doc:List Az) (hd:DocOk doc) (on name:ByteArray) (hp:CH) (m:Nat):Ah prog 146 hp m [B5 doc,.s on,.s name] (.b (decide (on∈En doc name))):=by
 have Bb:=Jp doc name
 have FH:=hd.len
 have h1:=Lc (En doc name) on (by omega)
 refine Am func146 (by kernel_rfl) cc146 cr146 rfl fun hf=>?_;unfold ck146
 simp only [go_sem]
 refine Af.f (NF doc hd name _ _) ?_
 simp only [go_sem]
 refine Af.f (h1 _ _) ?_
 simp only [go_sem]
structure RunR (doc:List Az) (hp:CH) (c kp gp:Nat) (P:List Ea):Prop where
 hc:gc hp c=.bx [.ds (Ad BB doc),.rw kp gp P.length]
 hk:gc hp kp=.rw gp 2 (Ad CZ P)
def wsR (doc:List Az) (c kp gp:Nat) (P R:List Ea):CH :=
 [(kp,.rw (gp+R.length) 2 (Ad CZ (P++R))),(c,.bx [.ds (Ad BB doc),.rw kp (gp+R.length) (P.length+R.length)])]
section
variable {doc:List Az} {hp:CH} {c kp gp:Nat} {P R:List Ea}
theorem RunR.n2 (h:RunR doc hp c kp gp P):¬c=kp:=fun e=>by have:=h.hc;rw [e,h.hk] at this;cases this
theorem RunR.lt {n:Nat} (h:RunR doc hp c kp gp P) (hf:∀k,n≤k→gc hp k=.no):c<n∧kp<n :=
 ⟨BJ hf h.hc (fun e=>by cases e),BJ hf h.hk (fun e=>by cases e)⟩
theorem RunR.wsLt {n:Nat} (h:RunR doc hp c kp gp P) (hf:∀k,n≤k→gc hp k=.no):wsLt n (wsR doc c kp gp P R):=by
 obtain ⟨h1,h3⟩:=h.lt hf
 refine ⟨h3,trivial,h1,?_,trivial⟩
 intro α hα
 simp only [List.mem_cons,List.not_mem_nil,or_false] at hα
 rcases hα with rfl | rfl
 .rfl
 .exact h3
theorem RunR.of {Ao:CH} (h:RunR doc hp c kp gp P) (e:∀j,(j=c∨j=kp)→gc Ao j=gc hp j):RunR doc Ao c kp gp P :=
 ⟨(e c (.inl rfl)).trans h.hc,(e kp (.inr rfl)).trans h.hk⟩
end
end Go.Proofs.YtgfidgoefioigaaGreatDoor
namespace Go.Eng
set_option linter.unusedVariables false
theorem AI.e0d {P:Program} {f:FuncId} {hp:CH} {n:Nat} {args args':List AV} {i:Nat} {R:CH→Nat→AV→Prop} (hi:args[i]?=some .e0) (ha:args'=args.set i (.ds [])) (c:AI P f hp n args' R):AI P f hp n args R:=by
 subst ha
 refine ⟨c.1,fun h ρ w vs hs ra=>c.2 h ρ w vs hs ⟨by rw [List.length_set];exact ra.1,fun j α v h1 h2=>?_⟩⟩
 by_cases e:i=j
 .subst e
  rw [List.getElem?_set_self (List.getElem?_eq_some_iff.1 hi).1] at h1
  cases h1
  exact .pu _ _ (GK hs (ra.2 i _ v hi h2) rfl)
 .rw [List.getElem?_set_ne e] at h1
  exact ra.2 j α v h1 h2
end Go.Eng
namespace Go.Proofs.YtgfidgoefioigaaGreatDoor
open Go.Eng
set_option linter.all false
set_option maxRecDepth 20000
set_option maxHeartbeats 1000000
def V4 (n:Nat) (R:Ge):Prop:=R.1.Fit∧∀p∈R.2,p.p.length≤n∧∀x∈p.p,x.Fit
theorem V4.mono {n m:Nat} {R:Ge} (h:V4 n R) (hm:n≤m):V4 m R:=⟨h.1,fun p hp=>⟨Nat.le_trans (h.2 p hp).1 hm,(h.2 p hp).2⟩⟩
theorem IS {path:List Ak} (h:∀x∈path,x.Fit) {y:Ak} (hy:y.Fit):∀x∈path++[y],x.Fit:=fun x hx=>by
 rcases List.mem_append.1 hx with h1 | h1
 .exact h x h1
 .rw [List.mem_singleton.1 h1];exact hy
theorem Ht {v:Ak} (h1:v.items=[]) (h2:v.keys=[]):v.Fit:=.mk v (by simp [h1]) (by simp [h2]) (by simp [h1])
theorem We (n:Int):(Oi n).Fit:=Ht rfl rfl
theorem PD (s:ByteArray):(Hp s).Fit:=Ht rfl rfl
theorem LL (doc:List Az) (v:Ak):v.Fit→∀tn tw picks path,BQ picks→(∀x∈path,x.Fit)→V4 (path.length+Bu v) (Be doc v tn tw picks path):=by
 refine Ak.ind (Q:=fun v=>v.Fit→∀tn tw picks path,BQ picks→(∀x∈path,x.Fit)→V4 (path.length+Bu v) (Be doc v tn tw picks path)) (fun v ih hv tn tw picks path LQ hpa=>?_) v
 have hz:∀tn tw picks path,(∀x∈path,x.Fit)→V4 path.length (Be doc AB tn tw picks path):=fun tn tw picks path hpa=>by
  rw [LO,zFn,JR]
  split
  .exact ⟨D5,fun p hp=>by rw [List.mem_singleton.1 (show p∈[Ea.mk path N8] from hp)];exact ⟨zna _,hpa⟩⟩
  .exact ⟨D5,fun p hp=>by cases hp⟩
 have hfail:∀s,V4 (path.length+Bu v) (Fc path s):=fun s=>⟨D5,fun p hp=>by rw [List.mem_singleton.1 (show p∈[Ea.mk path s] from hp)];exact ⟨Nat.le_add_right _ _,hpa⟩⟩
 refine J5 (Q:=fun R=>V4 (path.length+Bu v) R) (fun s _=>hfail s) (fun h0=>?_) (fun _ _=>?_) (fun _ _ _ x hx=>?_) (fun h6 _ _ on _ _ _=>?_)
 .rw [JR]
  split
  .exact hfail _
  .exact ⟨D5,fun p hp=>by cases hp⟩
 .have hr:∀r∈GR (v.items.map (Be doc)) 0 tn (DT (Cz tw)) picks path,V4 (path.length+Bu v) r:=fun r hr=>by
   obtain ⟨i,f,e1,e2,_⟩:=PQ _ _ _ _ _ _ _ hr
   rw [List.getElem?_map] at e1
   cases ex:v.items[i]? with
   | none=>rw [ex] at e1;cases e1
   | some x =>
    rw [ex] at e1
    cases e1
    have hm:=List.mem_of_getElem? ex
    have hw:=Cq hm
    subst e2
    refine (ih x hm (hv.x hm) _ _ _ _ LQ (IS hpa (We _))).mono ?_
    rw [zld,Bn v]
    simp only [zlc,zle]
    omega
  refine ⟨?_,fun p hp=>?_⟩
  .dsimp only [HQ]
   split
   .exact D5
   .refine .mk _ ?_ (by show (0:Nat)*16≤_;omega) fun x hx=>?_
    .show ((GR _ 0 tn _ picks path).map (·.1)).length*80≤_
     rw [zlv,L2,zlv]
     exact hv.i
    .obtain ⟨r,hm,rfl⟩:=List.mem_map.1 (show x∈(GR _ 0 tn _ picks path).map (·.1) from hx)
     exact (hr r hm).1
  .obtain ⟨r,hm,hq⟩:=List.mem_flatMap.1 (show p∈(GR _ 0 tn _ picks path).flatMap (·.2) from hp)
   exact (hr r hm).2 p hq
 .obtain ⟨_,_,h3,h4⟩:=WZ hx
  exact ⟨Ht h3 h4,fun p hp=>by cases hp⟩
 .have hr:∀r∈GT v.keys (v.items.map (Be doc)) on path picks,V4 (path.length+Bu v) r.2:=fun r hr=>by
   obtain ⟨hm,_,e⟩:=Qu h6 hr
   rw [e]
   cases hg:AF v r.1.key with
   | none =>
    refine (hz _ _ _ _ (IS hpa (PD _))).mono ?_
    have:=Es v
    rw [zld]
    simp only [zlc,zle]
    omega
   | some x =>
    have hx:=DQ hg
    have hw:=Cq hx
    refine (ih x hx (hv.x hx) _ _ _ _ (LQ.x hm) (IS hpa (PD _))).mono ?_
    rw [zld,Bn v]
    simp only [zlc,zle]
    omega
  have Bb:(GT v.keys (v.items.map (Be doc)) on path picks).length≤1000000000:=by
   unfold GT
   rw [zlv]
   have:=List.length_filter_le (fun p:Pk=>decide (p.on=on)) picks
   have:=LQ.len
   omega
  refine ⟨?_,fun p hp=>?_⟩
  .dsimp only [JZ]
   split
   .exact D5
   .refine .mk _ ?_ ?_ fun x hx=>?_
    .show ((GT v.keys (v.items.map (Be doc)) on path picks).map (·.2.1)).length*80≤_
     rw [zlv];omega
    .show ((GT v.keys (v.items.map (Be doc)) on path picks).map (·.1.key)).length*16≤_
     rw [zlv];omega
    .obtain ⟨r,hm,rfl⟩:=List.mem_map.1 (show x∈(GT v.keys (v.items.map (Be doc)) on path picks).map (·.2.1) from hx)
     exact (hr r hm).1
  .obtain ⟨r,hm,hq⟩:=List.mem_flatMap.1 (show p∈(GT v.keys (v.items.map (Be doc)) on path picks).flatMap (·.2.2) from hp)
   exact (hr r hm).2 p hq
open Go.Eng Go.KL
set_option maxRecDepth 100000
def ck4:CC:=cK (a:=cF [] [] [] f4) (by delta f4;simp (config := { maxSteps := 9999999 }) only [go_sem];rfl)
theorem cc4:Bf f4 59=some ck4.erase:=by kernel_rfl
theorem cr4:Bh f4 59=some [(.t 6)]:=by kernel_rfl
def ck6:CC:=cK (a:=cF [] [] [] f6) (by delta f6;simp (config := { maxSteps := 9999999 }) only [go_sem];rfl)
theorem cc6:Bf f6 64=some ck6.erase:=by kernel_rfl
theorem cr6:Bh f6 64=some [(.t 6)]:=by kernel_rfl
def ck12:CC:=cK (a:=cF [] [] [] f12) (by delta f12;simp (config := { maxSteps := 9999999 }) only [go_sem];rfl)
theorem cc12:Bf f12 44=some ck12.erase:=by kernel_rfl
theorem cr12:Bh f12 44=some [(.t 4)]:=by kernel_rfl
def ck22:CC:=cK (a:=cF [] [] [] f22) (by delta f22;simp (config := { maxSteps := 9999999 }) only [go_sem];rfl)
theorem cc22:Bf f22 28=some ck22.erase:=by kernel_rfl
theorem cr22:Bh f22 28=some [(.t 2)]:=by kernel_rfl
def ck23:CC:=cK (a:=cF [] [] [] f23) (by delta f23;simp (config := { maxSteps := 9999999 }) only [go_sem];rfl)
theorem cc23:Bf f23 18=some ck23.erase:=by kernel_rfl
theorem cr23:Bh f23 18=some [(.t 2)]:=by kernel_rfl
def ck24:CC:=cK (a:=cF [] [] [] f24) (by delta f24;simp (config := { maxSteps := 9999999 }) only [go_sem];rfl)
theorem cc24:Bf f24 35=some ck24.erase:=by kernel_rfl
theorem cr24:Bh f24 35=some [(.t 4)]:=by kernel_rfl
def ck27:CC:=cK (a:=cF [] [] [] f27) (by delta f27;simp (config := { maxSteps := 9999999 }) only [go_sem];rfl)
theorem cc27:Bf f27 25=some ck27.erase:=by kernel_rfl
theorem cr27:Bh f27 25=some [(.t 2)]:=by kernel_rfl
def ck28:CC:=cK (a:=cF [] [] [] f28) (by delta f28;simp (config := { maxSteps := 9999999 }) only [go_sem];rfl)
theorem cc28:Bf f28 36=some ck28.erase:=by kernel_rfl
theorem cr28:Bh f28 36=some [(.c 4 5 true)]:=by kernel_rfl
def ck42:CC:=cK (a:=cF [] [] [] f42) (by delta f42;simp (config := { maxSteps := 9999999 }) only [go_sem];rfl)
theorem cc42:Bf f42 129=some ck42.erase:=by kernel_rfl
theorem cr42:Bh f42 129=some [(.t 2)]:=by kernel_rfl
def ck43:CC:=cK (a:=cF [] [] [] f43) (by delta f43;simp (config := { maxSteps := 9999999 }) only [go_sem];rfl)
theorem cc43:Bf f43 69=some ck43.erase:=by kernel_rfl
theorem cr43:Bh f43 69=some [(.t 4)]:=by kernel_rfl
def ck44:CC:=cK (a:=cF [] [] [] f44) (by delta f44;simp (config := { maxSteps := 9999999 }) only [go_sem];rfl)
theorem cc44:Bf f44 41=some ck44.erase:=by kernel_rfl
theorem cr44:Bh f44 41=some [(.t 2)]:=by kernel_rfl
def ck45:CC:=cK (a:=cF [] [] [] f45) (by delta f45;simp (config := { maxSteps := 9999999 }) only [go_sem];rfl)
theorem cc45:Bf f45 55=some ck45.erase:=by kernel_rfl
theorem cr45:Bh f45 55=some [(.t 2)]:=by kernel_rfl
def ck47:CC:=cK (a:=cF [] [] [] f47) (by delta f47;simp (config := { maxSteps := 9999999 }) only [go_sem];rfl)
theorem cc47:Bf f47 22=some ck47.erase:=by kernel_rfl
theorem cr47:Bh f47 22=some [(.t 2)]:=by kernel_rfl
def ck48:CC:=cK (a:=cF [] [] [] f48) (by delta f48;simp (config := { maxSteps := 9999999 }) only [go_sem];rfl)
theorem cc48:Bf f48 94=some ck48.erase:=by kernel_rfl
theorem cr48:Bh f48 94=some [(.t 8)]:=by kernel_rfl
def ck50:CC:=cK (a:=cF [] [] [] f50) (by delta f50;simp (config := { maxSteps := 9999999 }) only [go_sem];rfl)
theorem cc50:Bf f50 76=some ck50.erase:=by kernel_rfl
theorem cr50:Bh f50 76=some [(.c 4 5 true)]:=by kernel_rfl
def ck51:CC:=cK (a:=cF [] [] [] f51) (by delta f51;simp (config := { maxSteps := 9999999 }) only [go_sem];rfl)
theorem cc51:Bf f51 12=some ck51.erase:=by kernel_rfl
theorem cr51:Bh f51 12=some [(.t 2)]:=by kernel_rfl
def ck54:CC:=cK (a:=cF [] [] [] f54) (by delta f54;simp (config := { maxSteps := 9999999 }) only [go_sem];rfl)
theorem cc54:Bf f54 9=some ck54.erase:=by kernel_rfl
theorem cr54:Bh f54 9=some [(.t 4)]:=by kernel_rfl
def ck79:CC:=cK (a:=cF [] [] [] f79) (by delta f79;simp (config := { maxSteps := 9999999 }) only [go_sem];rfl)
theorem cc79:Bf f79 65=some ck79.erase:=by kernel_rfl
theorem cr79:Bh f79 65=some [(.t 2)]:=by kernel_rfl
def ck80:CC:=cK (a:=cF [] [] [] f80) (by delta f80;simp (config := { maxSteps := 9999999 }) only [go_sem];rfl)
theorem cc80:Bf f80 52=some ck80.erase:=by kernel_rfl
theorem cr80:Bh f80 52=some [(.t 2)]:=by kernel_rfl
def ck81:CC:=cK (a:=cF [] [] [] f81) (by delta f81;simp (config := { maxSteps := 9999999 }) only [go_sem];rfl)
theorem cc81:Bf f81 48=some ck81.erase:=by kernel_rfl
theorem cr81:Bh f81 48=some [(.t 4)]:=by kernel_rfl
def ck82:CC:=cK (a:=cF [] [] [] f82) (by delta f82;simp (config := { maxSteps := 9999999 }) only [go_sem];rfl)
theorem cc82:Bf f82 59=some ck82.erase:=by kernel_rfl
theorem cr82:Bh f82 59=some [(.t 2)]:=by kernel_rfl
def ck83:CC:=cK (a:=cF [] [] [] f83) (by delta f83;simp (config := { maxSteps := 9999999 }) only [go_sem];rfl)
theorem cc83:Bf f83 94=some ck83.erase:=by kernel_rfl
theorem cr83:Bh f83 94=some [(.t 4)]:=by kernel_rfl
def ck84:CC:=cK (a:=cF [] [] [] f84) (by delta f84;simp (config := { maxSteps := 9999999 }) only [go_sem];rfl)
theorem cc84:Bf f84 95=some ck84.erase:=by kernel_rfl
theorem cr84:Bh f84 95=some [(.t 4)]:=by kernel_rfl
def ck85:CC:=cK (a:=cF [] [] [] f85) (by delta f85;simp (config := { maxSteps := 9999999 }) only [go_sem];rfl)
theorem cc85:Bf f85 58=some ck85.erase:=by kernel_rfl
theorem cr85:Bh f85 58=some [(.t 2)]:=by kernel_rfl
def ck86:CC:=cK (a:=cF [] [] [] f86) (by delta f86;simp (config := { maxSteps := 9999999 }) only [go_sem];rfl)
theorem cc86:Bf f86 80=some ck86.erase:=by kernel_rfl
theorem cr86:Bh f86 80=some [(.t 8)]:=by kernel_rfl
def ck87:CC:=cK (a:=cF [] [] [] f87) (by delta f87;simp (config := { maxSteps := 9999999 }) only [go_sem];rfl)
theorem cc87:Bf f87 76=some ck87.erase:=by kernel_rfl
theorem cr87:Bh f87 76=some [(.t 4)]:=by kernel_rfl
def ck88:CC:=cK (a:=cF [] [] [] f88) (by delta f88;simp (config := { maxSteps := 9999999 }) only [go_sem];rfl)
theorem cc88:Bf f88 49=some ck88.erase:=by kernel_rfl
theorem cr88:Bh f88 49=some [(.t 4)]:=by kernel_rfl
def ck89:CC:=cK (a:=cF [] [] [] f89) (by delta f89;simp (config := { maxSteps := 9999999 }) only [go_sem];rfl)
theorem cc89:Bf f89 61=some ck89.erase:=by kernel_rfl
theorem cr89:Bh f89 61=some [(.t 10)]:=by kernel_rfl
def ck91:CC:=cK (a:=cF [] [] [] f91) (by delta f91;simp (config := { maxSteps := 9999999 }) only [go_sem];rfl)
theorem cc91:Bf f91 19=some ck91.erase:=by kernel_rfl
theorem cr91:Bh f91 19=some [(.t 4)]:=by kernel_rfl
def ck92:CC:=cK (a:=cF [] [] [] f92) (by delta f92;simp (config := { maxSteps := 9999999 }) only [go_sem];rfl)
theorem cc92:Bf f92 106=some ck92.erase:=by kernel_rfl
theorem cr92:Bh f92 106=some [(.t 4)]:=by kernel_rfl
def ck95:CC:=cK (a:=cF [] [] [] f95) (by delta f95;simp (config := { maxSteps := 9999999 }) only [go_sem];rfl)
theorem cc95:Bf f95 18=some ck95.erase:=by kernel_rfl
theorem cr95:Bh f95 18=some [(.t 4)]:=by kernel_rfl
def ck98:CC:=cK (a:=cF [] [] [(50,[15,14]),(51,[16,15,14])] f98) (by delta f98;simp (config := { maxSteps := 9999999 }) only [go_sem];rfl)
theorem cc98:Bf f98 68=some ck98.erase:=by kernel_rfl
theorem cr98:Bh f98 68=some []:=by kernel_rfl
def ck120:CC:=cK (a:=cF [] [] [] f120) (by delta f120;simp (config := { maxSteps := 9999999 }) only [go_sem];rfl)
theorem cc120:Bf f120 21=some ck120.erase:=by kernel_rfl
theorem cr120:Bh f120 21=some [(.t 2)]:=by kernel_rfl
def ck121:CC:=cK (a:=cF [] [] [] f121) (by delta f121;simp (config := { maxSteps := 9999999 }) only [go_sem];rfl)
theorem cc121:Bf f121 54=some ck121.erase:=by kernel_rfl
theorem cr121:Bh f121 54=some [(.t 2)]:=by kernel_rfl
def ck122:CC:=cK (a:=cF [] [] [] f122) (by delta f122;simp (config := { maxSteps := 9999999 }) only [go_sem];rfl)
theorem cc122:Bf f122 28=some ck122.erase:=by kernel_rfl
theorem cr122:Bh f122 28=some [(.t 2)]:=by kernel_rfl
def ck124:CC:=cK (a:=cF [] [] [] f124) (by delta f124;simp (config := { maxSteps := 9999999 }) only [go_sem];rfl)
theorem cc124:Bf f124 28=some ck124.erase:=by kernel_rfl
theorem cr124:Bh f124 28=some [(.t 8)]:=by kernel_rfl
def ck125:CC:=cK (a:=cF [] [] [] f125) (by delta f125;simp (config := { maxSteps := 9999999 }) only [go_sem];rfl)
theorem cc125:Bf f125 25=some ck125.erase:=by kernel_rfl
theorem cr125:Bh f125 25=some [(.t 2)]:=by kernel_rfl
def ck126:CC:=cK (a:=cF [] [] [] f126) (by delta f126;simp (config := { maxSteps := 9999999 }) only [go_sem];rfl)
theorem cc126:Bf f126 42=some ck126.erase:=by kernel_rfl
theorem cr126:Bh f126 42=some [(.t 4)]:=by kernel_rfl
def ck127:CC:=cK (a:=cF [] [] [] f127) (by delta f127;simp (config := { maxSteps := 9999999 }) only [go_sem];rfl)
theorem cc127:Bf f127 28=some ck127.erase:=by kernel_rfl
theorem cr127:Bh f127 28=some [(.c 4 5 true),(.t 5)]:=by kernel_rfl
def ck128:CC:=cK (a:=cF [] [] [] f128) (by delta f128;simp (config := { maxSteps := 9999999 }) only [go_sem];rfl)
theorem cc128:Bf f128 18=some ck128.erase:=by kernel_rfl
theorem cr128:Bh f128 18=some [(.t 4)]:=by kernel_rfl
def ck129:CC:=cK (a:=cF [] [] [] f129) (by delta f129;simp (config := { maxSteps := 9999999 }) only [go_sem];rfl)
theorem cc129:Bf f129 25=some ck129.erase:=by kernel_rfl
theorem cr129:Bh f129 25=some [(.c 4 10 true),(.t 5)]:=by kernel_rfl
def ck130:CC:=cK (a:=cF [] [] [] f130) (by delta f130;simp (config := { maxSteps := 9999999 }) only [go_sem];rfl)
theorem cc130:Bf f130 24=some ck130.erase:=by kernel_rfl
theorem cr130:Bh f130 24=some [(.t 4)]:=by kernel_rfl
def ck131:CC:=cK (a:=cF [] [] [] f131) (by delta f131;simp (config := { maxSteps := 9999999 }) only [go_sem];rfl)
theorem cc131:Bf f131 26=some ck131.erase:=by kernel_rfl
theorem cr131:Bh f131 26=some [(.t 6)]:=by kernel_rfl
def ck133:CC:=cK (a:=cF [] [34] [] f133) (by delta f133;simp (config := { maxSteps := 9999999 }) only [go_sem];rfl)
theorem cc133:Bf f133 148=some ck133.erase:=by kernel_rfl
theorem cr133:Bh f133 148=some [(.t 6)]:=by kernel_rfl
def ck135:CC:=cK (a:=cF [] [] [] f135) (by delta f135;simp (config := { maxSteps := 9999999 }) only [go_sem];rfl)
theorem cc135:Bf f135 31=some ck135.erase:=by kernel_rfl
theorem cr135:Bh f135 31=some [(.c 8 5 true),(.t 9)]:=by kernel_rfl
def ck138:CC:=cK (a:=cF [] [] [] f138) (by delta f138;simp (config := { maxSteps := 9999999 }) only [go_sem];rfl)
theorem cc138:Bf f138 16=some ck138.erase:=by kernel_rfl
theorem cr138:Bh f138 16=some [(.t 2)]:=by kernel_rfl
def ck140:CC:=cK (a:=cF [] [1] [] f140) (by delta f140;simp (config := { maxSteps := 9999999 }) only [go_sem];rfl)
theorem cc140:Bf f140 3=some ck140.erase:=by kernel_rfl
theorem cr140:Bh f140 3=some [(.c 0 2 true)]:=by kernel_rfl
def ck141:CC:=cK (a:=cF [] [] [] f141) (by delta f141;simp (config := { maxSteps := 9999999 }) only [go_sem];rfl)
theorem cc141:Bf f141 89=some ck141.erase:=by kernel_rfl
theorem cr141:Bh f141 89=some [(.t 6)]:=by kernel_rfl
def ck160:CC:=cK (a:=cF [] [] [] f160) (by delta f160;simp (config := { maxSteps := 9999999 }) only [go_sem];rfl)
theorem cc160:Bf f160 10=some ck160.erase:=by kernel_rfl
theorem cr160:Bh f160 10=some [(.t 2)]:=by kernel_rfl
def ck161:CC:=cK (a:=cF [] [] [] f161) (by delta f161;simp (config := { maxSteps := 9999999 }) only [go_sem];rfl)
theorem cc161:Bf f161 62=some ck161.erase:=by kernel_rfl
theorem cr161:Bh f161 62=some [(.t 8)]:=by kernel_rfl
def ck162:CC:=cK (a:=cF [] [] [] f162) (by delta f162;simp (config := { maxSteps := 9999999 }) only [go_sem];rfl)
theorem cc162:Bf f162 18=some ck162.erase:=by kernel_rfl
theorem cr162:Bh f162 18=some [(.t 4)]:=by kernel_rfl
def ck163:CC:=cK (a:=cF [] [] [] f163) (by delta f163;simp (config := { maxSteps := 9999999 }) only [go_sem];rfl)
theorem cc163:Bf f163 69=some ck163.erase:=by kernel_rfl
theorem cr163:Bh f163 69=some [(.t 6)]:=by kernel_rfl
def ck164:CC:=cK (a:=cF [] [] [] f164) (by delta f164;simp (config := { maxSteps := 9999999 }) only [go_sem];rfl)
theorem cc164:Bf f164 29=some ck164.erase:=by kernel_rfl
theorem cr164:Bh f164 29=some [(.t 4)]:=by kernel_rfl
def ck165:CC:=cK (a:=cF [] [] [] f165) (by delta f165;simp (config := { maxSteps := 9999999 }) only [go_sem];rfl)
theorem cc165:Bf f165 24=some ck165.erase:=by kernel_rfl
theorem cr165:Bh f165 24=some [(.c 6 5 true),(.t 7)]:=by kernel_rfl
def ck167:CC:=cK (a:=cF [] [] [] f167) (by delta f167;simp (config := { maxSteps := 9999999 }) only [go_sem];rfl)
theorem cc167:Bf f167 18=some ck167.erase:=by kernel_rfl
theorem cr167:Bh f167 18=some [(.c 6 5 true),(.t 7)]:=by kernel_rfl
def ck175:CC:=cK (a:=cF [] [] [] f175) (by delta f175;simp (config := { maxSteps := 9999999 }) only [go_sem];rfl)
theorem cc175:Bf f175 14=some ck175.erase:=by kernel_rfl
theorem cr175:Bh f175 14=some [(.t 2)]:=by kernel_rfl
def ck176:CC:=cK (a:=cF [] [] [] f176) (by delta f176;simp (config := { maxSteps := 9999999 }) only [go_sem];rfl)
theorem cc176:Bf f176 111=some ck176.erase:=by kernel_rfl
theorem cr176:Bh f176 111=some [(.c 8 5 true)]:=by kernel_rfl
def ck180:CC:=cK (a:=cF [] [] [] f180) (by delta f180;simp (config := { maxSteps := 9999999 }) only [go_sem];rfl)
theorem cc180:Bf f180 13=some ck180.erase:=by kernel_rfl
theorem cr180:Bh f180 13=some []:=by kernel_rfl
def ck182:CC:=cK (a:=cF [] [] [] f182) (by delta f182;simp (config := { maxSteps := 9999999 }) only [go_sem];rfl)
theorem cc182:Bf f182 22=some ck182.erase:=by kernel_rfl
theorem cr182:Bh f182 22=some []:=by kernel_rfl
def ck183:CC:=cK (a:=cF [] [14] [] f183) (by delta f183;simp (config := { maxSteps := 9999999 }) only [go_sem];rfl)
theorem cc183:Bf f183 50=some ck183.erase:=by kernel_rfl
theorem cr183:Bh f183 50=some [(.c 8 5 true)]:=by kernel_rfl
def ck184:CC:=cK (a:=cF [] [] [] f184) (by delta f184;simp (config := { maxSteps := 9999999 }) only [go_sem];rfl)
theorem cc184:Bf f184 64=some ck184.erase:=by kernel_rfl
theorem cr184:Bh f184 64=some [(.c 6 5 true)]:=by kernel_rfl
def ck185:CC:=cK (a:=cF [] [] [] f185) (by delta f185;simp (config := { maxSteps := 9999999 }) only [go_sem];rfl)
theorem cc185:Bf f185 45=some ck185.erase:=by kernel_rfl
theorem cr185:Bh f185 45=some [(.c 6 5 true)]:=by kernel_rfl
def ck186:CC:=cK (a:=cF [] [] [] f186) (by delta f186;simp (config := { maxSteps := 9999999 }) only [go_sem];rfl)
theorem cc186:Bf f186 123=some ck186.erase:=by kernel_rfl
theorem cr186:Bh f186 123=some [(.c 8 5 true)]:=by kernel_rfl
def ck188:CC:=cK (a:=cF [] [] [] f188) (by delta f188;simp (config := { maxSteps := 9999999 }) only [go_sem];rfl)
theorem cc188:Bf f188 22=some ck188.erase:=by kernel_rfl
theorem cr188:Bh f188 22=some [(.t 4)]:=by kernel_rfl
def ck189:CC:=cK (a:=cF [] [] [] f189) (by delta f189;simp (config := { maxSteps := 9999999 }) only [go_sem];rfl)
theorem cc189:Bf f189 41=some ck189.erase:=by kernel_rfl
theorem cr189:Bh f189 41=some [(.c 8 5 true)]:=by kernel_rfl
set_option maxRecDepth 20000
def VA (w:List Int) (j:Nat):Bool:=match w[j]? with
 | none=>true
 | some a=>(decide (a=1)||decide (a=2))&&!(decide (0<j)&&decide (a=1)&&decide (w[j - 1]?=some 1))
def Lk (n:ByteArray) (w:List Int):Bool:=ES n&&decide (w.length≤24)&&decide (∀j,j<w.length→VA w j=true)
theorem IG (n:ByteArray) (w:List Int) (hw:w.length≤1000000000000) (hp:CH) (m:Nat):Ah prog 121 hp m [DC n w] (.b (Lk n w)):=by
 obtain ⟨R,hR⟩:∃R,Lk n w=R:=⟨_,rfl⟩
 rw [hR]
 unfold Lk at hR
 obtain ⟨b,hb⟩:∃b,ES n=b:=⟨_,rfl⟩
 have hN:=BE n
 rw [hb] at hN hR
 refine Am func121 (by kernel_rfl) cc121 cr121 rfl fun hf=>?_;unfold ck121
 simp only [go_sem]
 refine Af.f (hN _ _) ?_
 simp (disch:=omega) only [Aa,go_sem]
 refine Ai (fun c=>?_) (fun c=>?_)
 .have:R=false:=by
   rw [←hR]
   cases b with
   | false=>rfl
   | true=>simp at c;simp;omega
  subst this
  simp (disch:=omega) only [Aa,go_sem]
 have cb:b=true:=by cases b with | true=>rfl | false=>simp at c
 have c24:w.length≤24:=by
  subst cb
  simp at c
  omega
 subst cb
 rw [decide_eq_true c24,Bool.true_and,Bool.true_and] at hR
 simp (disch:=omega) only [Aa,go_sem]
 refine loop (fun p:Nat × Nat=>⟨[(1,.bx m 0),(3,.i .i64 p.1)],(m,.bx [.s n,.ds (Ad Dx w)])::hp,p.2⟩) (fun p=>p.1≤w.length∧m+1≤p.2∧∀i,i<p.1→VA w i=true) (fun p=>w.length - p.1) (0,m+1) ?_ ?_ (fun ⟨j,k⟩ hj=>?_)
 .exact ⟨by simp,by simp,fun i h=>by omega⟩
 .refine Ac ?_ (A6.cons ?_ (A6.base hf ?_)) (zna _)
  all_goals (simp (disch:=omega) only [Aa,go_sem])
 dsimp only at hj
 obtain ⟨Cm,Ba,Aw⟩:=hj
 simp (disch:=omega) only [Aa,go_sem]
 refine Ai (fun q=>?_) (fun q=>?_)
 .have q:j<w.length:=by simpa using q
  obtain ⟨a,ea⟩:∃a,w[j]?=some a:=⟨w[j],by simp [q]⟩
  have stop:∀R',VA w j=false→R=R'→R'=false:=fun R' h e=>by
   rw [←e,←hR,decide_eq_false_iff_not]
   exact fun hh=>by have:=hh j q;rw [h] at this;cases this
  have jr:VA w j=((decide (a=1)||decide (a=2))&&!(decide (0<j)&&decide (a=1)&&decide (w[j - 1]?=some 1))):=by rw [VA,ea]
  have next:∀(x:Bool),VA w j=true→∀i,i<j+1→VA w i=true:=fun _ h i hi=>by
   rcases Nat.lt_or_ge i j with w' | w'
   .exact Aw i w'
   .have:i=j:=by omega
    subst this;exact h
  by_cases a1:a=1
  .subst a1
   rcases Nat.eq_zero_or_pos j with j0 | j0
   .subst j0
    have jr:VA w 0=true:=by rw [jr];rfl
    simp (disch:=omega) only [Aa,q,Ag (Ab Dx ea),go_sem]
    refine ⟨(0+1,_),⟨by dsimp only;omega,by dsimp only;omega,next true jr⟩,by dsimp only;omega,Ac ?_ (A6.cons ?_ (A6.base hf ?_)) (zna _)⟩
    all_goals
     simp (disch:=omega) only [Aa,At 0 (by omega),go_sem]
     try rfl
   .obtain ⟨i,rfl⟩:∃i,j=i+1:=⟨j - 1,by omega⟩
    obtain ⟨b,eb⟩:∃b,w[i]?=some b:=⟨w[i]'(by omega),by simp [show i<w.length by omega]⟩
    rw [Nat.add_sub_cancel,eb] at jr
    have qi:i<w.length:=by omega
    have hm1:IntKind.wrap .i64 (((i+1:Nat):Int) - 1)=(i:Int):=by rw [show (((i+1:Nat):Int) - 1)=(i:Int) by omega];exact Ry (by omega)
    simp (disch:=omega) only [Aa,q,qi,hm1,Ag (Ab Dx ea),Ag (Ab Dx eb),go_sem]
    refine Ai (fun c=>?_) (fun c=>?_)
    .have c:b=1:=by simpa using c
     have:=stop R (by rw [jr,c];simp) rfl
     subst this
     simp (disch:=omega) only [Aa,go_sem]
    .have c:¬b=1:=by simpa using c
     have jr:VA w (i+1)=true:=by rw [jr];simp [c]
     simp (disch:=omega) only [Aa,go_sem]
     refine ⟨(i+1+1,_),⟨by dsimp only;omega,by dsimp only;omega,next true jr⟩,by dsimp only;omega,Ac ?_ (A6.cons ?_ (A6.base hf ?_)) (zna _)⟩
     all_goals
      simp (disch:=omega) only [Aa,At (i+1) (by omega),go_sem]
  .have a1d:decide (a=1)=false:=decide_eq_false a1
   by_cases a2:a=2
   .subst a2
    have jr:VA w j=true:=by rw [jr];simp
    rcases Nat.eq_zero_or_pos j with j0 | j0
    .subst j0
     simp (disch:=omega) only [Aa,q,a1d,Ag (Ab Dx ea),go_sem]
     refine ⟨(0+1,_),⟨by dsimp only;omega,by dsimp only;omega,next true jr⟩,by dsimp only;omega,Ac ?_ (A6.cons ?_ (A6.base hf ?_)) (zna _)⟩
     all_goals
      simp (disch:=omega) only [Aa,At 0 (by omega),go_sem]
      try rfl
    .obtain ⟨i,rfl⟩:∃i,j=i+1:=⟨j - 1,by omega⟩
     simp (disch:=omega) only [Aa,q,a1d,Ag (Ab Dx ea),go_sem]
     refine ⟨(i+1+1,_),⟨by dsimp only;omega,by dsimp only;omega,next true jr⟩,by dsimp only;omega,Ac ?_ (A6.cons ?_ (A6.base hf ?_)) (zna _)⟩
     all_goals
      simp (disch:=omega) only [Aa,At (i+1) (by omega),go_sem]
   .have a2d:decide (a=2)=false:=decide_eq_false a2
    have:=stop R (by rw [jr,a1d,a2d];rfl) rfl
    subst this
    simp (disch:=omega) only [Aa,q,a1d,a2d,Ag (Ab Dx ea),go_sem]
 .have q:j=w.length:=by simp at q;omega
  subst q
  rw [decide_eq_true Aw] at hR
  subst hR
  simp (disch:=omega) only [Aa,go_sem]
end Go.Proofs.YtgfidgoefioigaaGreatDoor
