/- Proof. Conditions: none. -/
import Derived.Test.YtgfidgoefioigaaGreatDoorIk48
noncomputable section
open List renaming mem_cons_self->z19,mem_cons_of_mem->zx,drop_succ_cons->za,drop_zero->zf,take_succ_cons->z8,getD_cons_zero->zk
open Option renaming map_some->z7,isSome_some->zb,getD_some->zc
open Nat renaming zero_le->zw,add_assoc->ze
open Go.Proofs.Tryz
open List renaming length_cons->zlc,length_append->zld,length_nil->zle,append_assoc->zlf,cons_append->zlh,nil_append->zli,take_zero->zlr
open Nat renaming le_refl->zna
namespace Go.Proofs.YtgfidgoefioigaaGreatDoor
open Go.Eng
set_option linter.all false
set_option maxRecDepth 20000
set_option maxHeartbeats 4000000
theorem Sw (doc:List Av) (EA:DocOk doc) (l:List Pk) (hpf:BQ l) (H:∀p∈l,Nz doc p.picks):Nz doc l:=by
 have hF:∀q∈l,Agg doc q:=fun q hq=>Oi doc EA q (hpf.t hq) (H q hq)
 refine Qg doc EA l hF fun on name _=>?_
 refine Qg doc EA (AN on name l) (fun q hq=>?_) fun on' name' h=>?_
 .obtain ⟨p,hp,rfl⟩:∃p∈l,Es p=q:=by
   unfold AN at hq
   obtain ⟨p,hp,e⟩:=List.mem_map.1 hq
   exact ⟨p,(List.mem_filter.1 hp).1,e⟩
  exact Oi doc EA (Es p) (show p.tw.length<=_ from hpf.t hp) (H p hp)
 .rw [Tb] at h
  cases h
theorem Ao0 (doc:List Av) (EA:DocOk doc) (l:List Pk) (hpf:BQ l):Nz doc l:=by
 have key:∀p:Pk,BQ p.picks->Nz doc p.picks:=fun p=>Pk.ind (Q:=fun p=>BQ p.picks->Nz doc p.picks) (fun p ih hp=>Sw doc EA p.picks hp fun q hq=>ih q hq (hp.x hq)) p
 exact Sw doc EA l hpf fun p hp=>key p (hpf.x hp)
theorem Yd (doc:List Av) (EA:DocOk doc) (root:qB) (l:List Pk) (v:Ag) (sz:Sz l v) (Fw:(Ha doc root l v).2.2.length<=100000000000) (hp:CH) (m:Nat) :
 Ae prog 9 hp m [B9 doc,.s root,.ds (Ab Bi l),vx v] (.tp [vx (Ha doc root l v).1,.ds (Ab Dr (Ha doc root l v).2.1),.ds (Ab DU (Ha doc root l v).2.2)]):=by
 have hvw:=sz.w
 have hvf:=sz.fit
 have hPr:=Hx l (by have:=sz.k;omega)
 have hCu:=Aga l sz.p v (by omega)
 have hRu:=sz.cut.run EA root
 obtain ⟨o1,o2,o3⟩:=sz.cut.prb (doc:=doc) root
 have hVi:=Ao0 doc EA l sz.p v
 unfold Ha at Fw ⊢
 obtain ⟨Q,hQ⟩:=A7 (A6 doc (AY l v) root [] (AP l) [])
 rw [hQ] at hRu o1 o2 o3 Fw ⊢
 obtain ⟨R,AC⟩:=A7 ((if v.k=6∧Q.1.k=6 then C0 doc l v Q.1 [] else []))
 dsimp only at Fw ⊢
 rw [AC] at Fw ⊢
 refine Al func9 (tA cc909) (tB cc909) (tC cc909) rfl fun hf=>?_;unfold ck909
 simp (disch:=omega) only [go_sem]
 refine Au.f (fun _ _ _=>hPr _ _) ?_
 simp (disch:=omega) only [go_sem]
 refine Au.f (fun _ _ _=>hCu _ _) ?_
 simp (disch:=omega) only [go_sem]
 refine Au.f (fun _ _ _=>hRu _ _) ?_
 simp (disch:=omega) only [go_sem]
 refine Qd (DL (c:=m+17) (i:=1) (m:=8) (cs:=[.ds (Ab BB doc),.e0]) ?_ rfl) ?_
 .simp (disch:=omega) only [go_sem]
 simp only [List.set_cons_succ,List.set_cons_zero]
 by_cases k6:v.k=6∧Q.1.k=6
 .rw [iP k6] at AC
  have hX:=fun Am n' (e1:RunS doc Am (m+17) (m+18) 0 [])=>hVi Q.1 [] Am (m+17) (m+18) 0 [] n' sz k6.1 o2 (by simp;omega) e1 (by rw [AC];simpa using Fw)
  rw [AC] at hX
  simp (disch:=omega) only [dT k6.1,dT k6.2,go_sem]
  refine Ac.x (AK.e0d (i:=4) (args':=[.bx (m+17) 0,vx v,.ds (Ab Bi l),vx Q.1,.ds []]) rfl rfl (hX _ _ ⟨?_,?_⟩)) ?_
  .simp (disch:=omega) only [go_sem]
  .simp (disch:=omega) only [go_sem]
  simp only [Jv,zlh,zli]
  simp (disch:=omega) only [zle,Nat.zero_add,go_sem]
 .rw [iN k6] at AC
  subst AC
  by_cases k1:v.k=6
  .have k2:¬Q.1.k=6:=fun h=>k6 ⟨k1,h⟩
   simp (disch:=omega) only [dT k1,dF k2,go_sem]
  .simp (disch:=omega) only [dF k1,go_sem]
def Ah2 (l:List DI):Prop:=l.length<=1000000000000∧∀p∈l,p.p.length<=1000000000000∧∀x∈p.p,x.Fit
set_option maxHeartbeats 2000000
section
variable {s:Bb} {F:Ag->Bb->Ag × Bb} {v:Ag} {r:(List qB × List Ag) × Bb} {n:Nat} {lit:Bool} {Fl Fp:qB->List Int->Ag->Bb->Ag × Bb} {doc:List Av}
theorem GR (e:Int) (s:Bb):(Ce e s).1=s.1:=rfl
theorem Fc (e:Int) (he:e≠0) (s:Bb):(Ce e s).2≠0:=by
 unfold Ce
 dsimp only
 split
 .exact he
 .assumption
theorem OU (lv:Nat) (s:Bb) (h:s.1<=4096):(Hm lv s).1<=4097∧((Hm lv s).2=0->(Hm lv s).1<=4096∧lv<=24):=by
 unfold Hm
 by_cases c:24<lv
 .simp only [c,if_true]
  have h5:=Fc 5 (by decide) s
  split
  .exact ⟨by rw [GR];show (Ce 5 s).1+1<=4097;rw [GR];omega,fun e=>absurd e (Fc 4 (by decide) _)⟩
  .exact ⟨by show (Ce 5 s).1+1<=4097;rw [GR];omega,fun e=>absurd e h5⟩
 .simp only [c,if_false]
  split
  .exact ⟨by rw [GR];show s.1+1<=4097;omega,fun e=>absurd e (Fc 4 (by decide) _)⟩
  .exact ⟨by show s.1+1<=4097;omega,fun e=>⟨by show s.1+1<=4096;omega,by omega⟩⟩
theorem DB:A8.Fit:=.mk _ (by show 0*80<=_;decide) (by show 0*16<=_;decide) (fun x (hx:x∈([]:List Ag))=>(by cases hx))
theorem UT:A8.Rng:=.mk _ (by show (-9223372036854775808:Int)<=0;decide) (by show (0:Int)<=_;decide) (fun x (hx:x∈([]:List Ag))=>(by cases hx))
theorem Jm (doc:List Av) (hd:DocB doc) (k:Nat) (hk:k<=24) (ih:1<=k->CoK doc k) (lit:Bool) (tn:qB) (tw:List Int) (v:Ag) (s:Bb) (FQ:tw.length<=1000000000) (hv:v.Fit) (hr:v.Rng) (hs:s.2=0) (RN:s.1<=4096)
 (hp:CH) (c n:Nat) (h:gc hp c=BR doc lit s):AO prog 176 hp n [.bx c 0,DW tn tw,vx v,.i .i64 ((25 - k:Nat):Int)] ([(c,BR doc lit (Dt doc (k+1) lit tn tw v s).2)]++hp) n (vx (Dt doc (k+1) lit tn tw v s).1):=by
 have DV:(∀k,n<=k->gc hp k=.no)->wsLt n [(c,BR doc lit (Dt doc (k+1) lit tn tw v s).2)]:=fun hf=>F8 (Dw h hf)
 have hc:=h
 unfold BR at hc
 have GB:=hd.l
 have hY:=H8 doc GB tn
 obtain ⟨RR,AC⟩:=A7 (Dt doc (k+1) lit tn tw v s)
 rw [AC] at DV ⊢
 rw [Dt] at AC
 have hF:=fun (Am:CH) (e:gc Am c=gc hp c) (n':Nat)=>CK (hp:=Am) (e.trans h) 10 n'
 have hz:∀hp m,Ae prog 18 hp m [.ag [.i .i64 0,.i .i64 0,.s ⟨#[]⟩,.e0,.e0],.s v.s] (.tp [vx A8,.b false]):=fun hp m=>(J8 A8 DB v.s hp m).cv rfl
 obtain ⟨ib,hib⟩:=A7 (Jj doc tn)
 rw [hib] at hY AC
 refine Cp func176 (tA cc176) (tB cc176) (tC cc176) rfl DV fun hf=>?_;unfold ck176
 have l1:=Dw h hf
 simp (disch:=omega) only [hc,go_sem]
 refine Au.f (fun _ _ _=>hY _ _) ?_
 cases ib with
 |false=>
  rw [iP rfl] at AC
  subst AC
  have u1:¬n+6=c:=by omega
  simp (disch:=omega) only [go_sem]
  refine Ac.x (hF _ (by repeat rw [Ak _ _ (by omega)]) _) ?_
  simp (disch:=omega) only [go_sem]
  all_goals
   refine BE (Ar _ _ _) fun j hj j1=>?_
   try simp only [zlh,zli]
   repeat rw [Ak _ _ (by omega)]
   try rfl
 |true=>
 rw [iN (by decide)] at AC
 obtain ⟨S1,MC⟩:=A7 (Hm (25 - k) s)
 have hN:=OU (25 - k) s RN
 have hNo:=fun (Am:CH) (e:gc Am c=BR doc lit s) (n':Nat)=>Uj (hp:=Am) e (25 - k) (by omega) (by omega) n'
 rw [MC] at hN AC
 simp only [MC] at hNo
 have Ir:=fun (Am:CH) (e:gc Am c=BR doc lit S1) (e2:Int) (n':Nat)=>CK (hp:=Am) e e2 n'
 have hNN:=DT tn tw (by omega)
 by_cases hv7:lit=true∧v.k=7
 .obtain ⟨rfl,h7⟩:=hv7
  have AC:(if S1.2≠0 then (A8,S1) else (A8,if Ga tw=true then Ce 23 S1 else S1))=RR:=by
   dsimp only at AC
   simp only [h7,and_self,if_true,(rfl:A8.k=0)] at AC
   exact AC
  simp (disch:=omega) only [dT h7,hc,go_sem]
  refine Au.f (fun _ _ _=>hz _ _) ?_
  simp (disch:=omega) only [hc,go_sem]
  refine ⟨by omega,?_⟩
  refine Ac.x (hNo _ (by (repeat rw [Ak _ _ (by omega)]);exact h) _) ?_
  simp only [BR,zlh,zli]
  simp (disch:=omega) only [go_sem]
  refine Af (fun w=>?_) (fun w=>?_)
  .have w:S1.2≠0:=by simpa using w
   rw [iP w] at AC
   subst AC
   simp (disch:=omega) only [go_sem]
   all_goals
    refine BE (Ar _ _ _) fun j hj j1=>?_
    repeat rw [Ak _ _ (by omega)]
  .have w:¬S1.2≠0:=by simpa using w
   rw [iN w] at AC
   simp (disch:=omega) only [go_sem]
   refine Ac.f (hNN _ _) ?_
   simp (disch:=omega) only [go_sem]
   refine Af (fun w2=>?_) (fun w2=>?_)
   .rw [iP w2] at AC
    subst AC
    simp (disch:=omega) only [go_sem]
    refine Ac.x (Ir _ (by (repeat rw [Ak _ _ (by omega)]);exact Ar _ _ _) 23 _) ?_
    simp only [BR,zlh,zli]
    simp (disch:=omega) only [go_sem]
    all_goals
     refine BE (Ar _ _ _) fun j hj j1=>?_
     repeat rw [Ak _ _ (by omega)]
   .rw [iN (by simp [w2])] at AC
    subst AC
    simp (disch:=omega) only [go_sem]
    all_goals
     refine BE (Ar _ _ _) fun j hj j1=>?_
     repeat rw [Ak _ _ (by omega)]
 .dsimp only at AC
  rw [iN hv7] at AC
  have e7:(lit&&decide (v.k=7))=false:=by
   cases lit with
   |false=>rfl
   |true=>simp;exact fun e=>hv7 ⟨rfl,e⟩
  simp (disch:=omega) only [hc,go_sem]
  refine Af (fun w=>?_) (fun w=>?_)
  .rw [e7] at w;cases w
  have k1:¬n=c:=by omega
  simp (disch:=omega) only [go_sem]
  refine Ac.x (hNo _ (by (repeat rw [Ak _ _ (by omega)]);exact h) _) ?_
  simp only [BR,zlh,zli]
  simp (disch:=omega) only [go_sem]
  refine Af (fun w=>?_) (fun w=>?_)
  .have w:S1.2≠0:=by simpa using w
   rw [iP w] at AC
   subst AC
   simp (disch:=omega) only [go_sem]
   all_goals
    refine BE (Ar _ _ _) fun j hj j1=>?_
    repeat rw [Ak _ _ (by omega)]
  have w:¬S1.2≠0:=by simpa using w
  rw [iN w] at AC
  simp (disch:=omega) only [go_sem]
  have MB:1<=k:=by have:=(hN.2 (Classical.not_not.1 w)).2;omega
  have hSk:S1.2=0:=Classical.not_not.1 w
  have hS4:S1.1<=4096:=(hN.2 hSk).1
  refine Af (fun w0=>?_) (fun w0=>?_)
  .have w0:v.k=0:=by simpa using w0
   rw [iP w0] at AC
   simp (disch:=omega) only [go_sem]
   refine Ac.f (hNN _ _) ?_
   simp (disch:=omega) only [go_sem]
   refine Af (fun w2=>?_) (fun w2=>?_)
   .rw [iP w2] at AC
    subst AC
    simp (disch:=omega) only [go_sem]
    refine Ac.x (Ir _ (by (repeat rw [Ak _ _ (by omega)]);exact Ar _ _ _) 23 _) ?_
    simp only [BR,zlh,zli]
    simp (disch:=omega) only [go_sem]
    all_goals
     refine BE (Ar _ _ _) fun j hj j1=>?_
     repeat rw [Ak _ _ (by omega)]
   .rw [iN (by simp [w2])] at AC
    subst AC
    simp (disch:=omega) only [go_sem]
    all_goals
     refine BE (Ar _ _ _) fun j hj j1=>?_
     repeat rw [Ak _ _ (by omega)]
  have w0:¬v.k=0:=by simpa using w0
  rw [iN w0] at AC
  have hI:=IN tn tw (by omega)
  simp (disch:=omega) only [go_sem]
  refine Ac.f (hI _ _) ?_
  by_cases c3:Ca tw=true
  .rw [iP c3] at AC
   rw [iP c3]
   have il:(Cg tw).length<=tw.length:=by
    unfold Cg
    have:=CB tw
    rw [List.length_tail]
    omega
   have hL:=fun (Am:CH) (e:gc Am c=BR doc lit S1) (n':Nat)=>TY doc k MB hk (ih MB) lit tn (Cg tw) v S1 (by omega) hv hr hN.1 (fun e=>(hN.2 e).1) Am c n' e
   rw [AC] at hL
   simp (disch:=omega) only [go_sem]
   refine Ac.x (hL _ (by (repeat rw [Ak _ _ (by omega)]);exact Ar _ _ _) _) ?_
   simp only [BR,zlh,zli]
   simp (disch:=omega) only [go_sem]
   all_goals
    refine BE (Ar _ _ _) fun j hj j1=>?_
    repeat rw [Ak _ _ (by omega)]
  rw [iN c3] at AC
  rw [iN c3]
  simp (disch:=omega) only [go_sem]
  refine Ac.f (DE tn _ _) ?_
  simp (disch:=omega) only [go_sem]
  refine Af (fun w4=>?_) (fun w4=>?_)
  .rw [iP w4] at AC
   have hL:=fun (Am:CH) (e:gc Am c=BR doc lit S1) (n':Nat)=>O0 (hp:=Am) e tn v hr n'
   rw [AC] at hL
   simp (disch:=omega) only [go_sem]
   refine Ac.x (hL _ (by (repeat rw [Ak _ _ (by omega)]);exact Ar _ _ _) _) ?_
   simp only [BR,zlh,zli]
   simp (disch:=omega) only [go_sem]
   all_goals
    refine BE (Ar _ _ _) fun j hj j1=>?_
    repeat rw [Ak _ _ (by omega)]
  rw [iN (by simp [w4])] at AC
  have hFi:=BW doc (by omega) tn
  unfold Eh at hFi
  have hb:=BH (QS hd tn)
  have y9:(∀e∈((Ay doc tn).getD DJ).members,∃x y,e=[AV.s x,.ds y])∧((Ay doc tn).getD DJ).members.length<=1000000000000:=by
   cases e:Ay doc tn with
   |none=>exact ⟨by intro f hf;simp [DJ,Av.members_mk] at hf,by simp [DJ,Av.members_mk]⟩
   |some t=>
    have hB:=hd.d t (List.mem_of_find?_eq_some e)
    exact ⟨fun e he=>let ⟨x,y,q,_⟩:=hB.m e he;⟨x,y,q⟩,by have:=hB.ml;show t.members.length<=_;omega⟩
  obtain ⟨t,het⟩:=A7 ((Ay doc tn).getD DJ)
  rw [het] at hFi hb y9 AC
  simp (disch:=omega) only [go_sem]
  refine Au.f (fun _ _ _=>hFi _ _) ?_
  by_cases c4:t.k=4
  .rw [iP c4] at AC
   have hL:=fun (Am:CH) (e:gc Am c=BR doc lit S1) (n':Nat)=>Ub (hp:=Am) e t y9.1 y9.2 v n'
   rw [AC] at hL
   have u22:¬n+22=c:=by omega
   simp (disch:=omega) only [dT c4,go_sem]
   refine ⟨u22,?_⟩
   refine Ac.x (hL _ (by (repeat rw [Ak _ _ (by omega)]);exact Ar _ _ _) _) ?_
   simp only [BR,zlh,zli]
   simp (disch:=omega) only [go_sem]
   all_goals
    refine BE (Ar _ _ _) fun j hj j1=>?_
    repeat rw [Ak _ _ (by omega)]
  .rw [iN c4] at AC
   have hL:=fun (Am:CH) (e:gc Am c=BR doc lit S1) (n':Nat)=>OA doc k MB hk (ih MB) lit t (Bl t.inputs) hb.1 hb.2.1 hb.2.2 v S1 hv hr hSk hS4 Am c n' e
   rw [AC] at hL
   have u22:¬n+22=c:=by omega
   simp (disch:=omega) only [dF c4,go_sem]
   refine ⟨u22,?_⟩
   refine Ac.x (hL _ (by (repeat rw [Ak _ _ (by omega)]);exact Ar _ _ _) _) ?_
   simp only [BR,zlh,zli]
   simp (disch:=omega) only [go_sem]
   all_goals
    refine BE (Ar _ _ _) fun j hj j1=>?_
    repeat rw [Ak _ _ (by omega)]
def DD (r:Ag × Bb):Prop:=r.2.1<=4097∧(r.2.2=0->r.2.1<=4096)∧r.1.Fit
theorem Fj {e:Int} (he:e≠0) (h:s.1<=4097):DD (A8,Ce e s):=⟨h,fun q=>absurd q (Fc e he s),DB⟩
theorem Wa {l:List Ag} (hF:∀x∈l,∀s:Bb,s.2=0->s.1<=4096->DD (F x s)):∀s:Bb,s.1<=4097->(s.2=0->s.1<=4096)->(Ku F l s).2.1<=4097∧((Ku F l s).2.2=0->(Ku F l s).2.1<=4096)∧∀x∈(Ku F l s).1,x.Fit:=by
 induction l with
 |nil=>exact fun s h1 h2=>⟨h1,h2,fun x hx=>by cases hx⟩
 |cons a l ih=>
  intro s h1 h2
  by_cases h:s.2=0
  .rw [HX F a l s h]
   obtain ⟨g1,g2,g3⟩:=hF a (z19 ..) s h (h2 h)
   obtain ⟨i1,i2,i3⟩:=ih (fun x hx=>hF x (zx _ hx)) (F a s).2 g1 g2
   exact ⟨i1,i2,fun x hx=>by
    rcases List.mem_cons.1 hx with rfl | hx
    .exact g3
    .exact i3 x hx⟩
  .rw [N7 F _ s h]
   exact ⟨h1,h2,fun x hx=>by cases hx⟩
theorem WC (hv:v.Fit) (hF:∀x∈Ui v,∀s:Bb,s.2=0->s.1<=4096->DD (F x s)) (s:Bb) (h1:s.1<=4097) (h2:s.2=0->s.1<=4096):DD (lsE F v s):=by
 obtain ⟨g1,g2,g3⟩:=Wa hF s h1 h2
 refine ⟨g1,g2,.mk _ ?_ (by show 0*16<=_;decide) g3⟩
 have:=SH F (Ui v) s
 have h3:(Ui v).length*80<=140737488355327:=by unfold Ui;split;exact hv.i;simp
 show (Ku F (Ui v) s).1.length*80<=_
 omega
theorem UG (n:qB) (hv:v.Fit) (h1:s.1<=4096):DD (Qf n v s):=by
 unfold Qf
 have hs:s.1<=4097:=by omega
 split
 .exact ⟨hs,fun _=>h1,hv⟩
 .split
  .exact ⟨hs,fun _=>h1,hv⟩
  .split
   .exact ⟨hs,fun _=>h1,.mk _ (by show 0*80<=_;decide) (by show 0*16<=_;decide) (fun x (hx:x∈([]:List Ag))=>(by cases hx))⟩
   .exact Fj (by decide) hs
theorem WK (lit:Bool) (t:Av) (v:Ag) (h1:s.1<=4096):DD (enE lit t v s):=by
 unfold enE
 have hs:s.1<=4097:=by omega
 split
 .exact ⟨hs,fun _=>h1,.mk _ (by show 0*80<=_;decide) (by show 0*16<=_;decide) (fun x (hx:x∈([]:List Ag))=>(by cases hx))⟩
 .exact Fj (by decide) hs
def Rs (r:(List qB × List Ag) × Bb) (n:Nat):Prop:=r.2.1<=4097∧(r.2.2=0->r.2.1<=4096)∧(∀y∈r.1.2,y.Fit)∧r.1.2.length<=n∧r.1.1.length<=n
theorem Rs.up (h:Rs r n):Rs r (n+1):=⟨h.1,h.2.1,h.2.2.1,by have:=h.2.2.2.1;omega,by have:=h.2.2.2.2;omega⟩
theorem Rs.cons (h:Rs r n) {y:Ag} (hy:y.Fit) (a:qB):Rs ((a::r.1.1,y::r.1.2),r.2) (n+1):=by
 refine ⟨h.1,h.2.1,fun x hx=>?_,?_,?_⟩
 .rcases List.mem_cons.1 hx with rfl | hx
  .exact hy
  .exact h.2.2.1 x hx
 .have:=h.2.2.2.1
  show (_::_).length<=_
  rw [zlc]
  omega
 .have:=h.2.2.2.2
  show (_::_).length<=_
  rw [zlc]
  omega
theorem Xi (hv:v.Fit) (hr:v.Rng):∀(l pre:List BG) (s:Bb),(∀x∈l,∀(y:Ag) (s:Bb),y.Fit->y.Rng->s.2=0->s.1<=4096->DD (Fl x.tn x.tw y s))->(∀x∈l,∀s:Bb,s.2=0->s.1<=4096->DD (Fp x.tn x.tw x.d s))->s.1<=4097->(s.2=0->s.1<=4096)->Rs (NP lit Fl Fp v pre l s) l.length:=by
 intro l
 induction l with
 |nil=>exact fun pre s _ _ h1 h2=>⟨h1,h2,(fun x hx=>by cases hx),zna _,zna _⟩
 |cons x l ih=>
  intro pre s hl hp h1 h2
  by_cases h:s.2=0
  .have hi:=fun (s':Bb) (a:s'.1<=4097) (b:s'.2=0->s'.1<=4096)=>ih (pre++[x]) s' (fun y hy=>hl y (zx _ hy)) (fun y hy=>hp y (zx _ hy)) a b
   have hg:=SM hv hr x.n
   rw [NP,iP h,zlc]
   split
   .exact (hi s h1 h2).up
   .split
    .obtain ⟨g1,g2,g3⟩:=hl x (z19 ..) _ s hg.1 hg.2 h (h2 h)
     exact (hi _ g1 g2).cons g3 _
    .split
     .obtain ⟨g1,g2,g3⟩:=hp x (z19 ..) s h (h2 h)
      exact (hi _ g1 g2).cons g3 _
     .split
      .exact (hi (Ce 22 s) h1 (fun q=>absurd q (Fc 22 (by decide) s))).cons DB _
      .exact (hi s h1 h2).up
  .rw [X6 _ _ _ _ _ _ _ h]
   exact ⟨h1,h2,(fun x hx=>by cases hx),zw _,zw _⟩
theorem Vb {is:List BG} (hi:is.length<=16) (hv:v.Fit) (hr:v.Rng) (hl:∀x∈is,∀(y:Ag) (s:Bb),y.Fit->y.Rng->s.2=0->s.1<=4096->DD (Fl x.tn x.tw y s)) (hp:∀x∈is,∀s:Bb,s.2=0->s.1<=4096->DD (Fp x.tn x.tw x.d s)) (h1:s.1<=4096):DD (PW lit Fl Fp is v s):=by
 unfold PW
 split
 .obtain ⟨g1,g2,g3,g4,g5⟩:=Xi (lit:=lit) hv hr is [] (Se is v.keys s) hl hp (by rw [MI];omega) (fun _=>by rw [MI];exact h1)
  refine ⟨g1,g2,.mk _ ?_ ?_ g3⟩
  .show (NP lit Fl Fp v [] is (Se is v.keys s)).1.2.length*80<=_
   omega
  .show (NP lit Fl Fp v [] is (Se is v.keys s)).1.1.length*16<=_
   omega
 .exact Fj (by decide) (by omega)
theorem WM (hv:v.Fit) (hr:v.Rng):∀x∈Ui v,x.Fit∧x.Rng:=by
 unfold Ui
 split
 .exact fun x hx=>⟨hv.x hx,hr.x hx⟩
 .intro x hx
  simp at hx
  subst hx
  exact ⟨hv,hr⟩
theorem Pa (doc:List Av) (hd:DocB doc) (k:Nat) (hk:k<=24) (ih:1<=k->∀(lit:Bool) (tn:qB) (tw:List Int) (v:Ag) (s:Bb),tw.length<=1000000000->v.Fit->v.Rng->s.2=0->s.1<=4096->DD (Dt doc k lit tn tw v s)) (lit:Bool) (tn:qB) (tw:List Int) (v:Ag) (s:Bb) (FQ:tw.length<=1000000000) (hv:v.Fit) (hr:v.Rng) (hs:s.2=0) (RN:s.1<=4096):DD (Dt doc (k+1) lit tn tw v s):=by
 rw [Dt]
 split
 .exact Fj (by decide) (by omega)
 have Qy:(if lit=true∧v.k=7 then A8 else v).Fit∧(if lit=true∧v.k=7 then A8 else v).Rng:=by
  split
  .exact ⟨DB,UT⟩
  .exact ⟨hv,hr⟩
 obtain ⟨v',e⟩:=A7 ((if lit=true∧v.k=7 then A8 else v))
 rw [e] at Qy
 have hN:=OU (25 - k) s RN
 obtain ⟨S1,MC⟩:=A7 (Hm (25 - k) s)
 rw [MC] at hN
 simp only [e,MC]
 split
 .rename_i w
  exact ⟨hN.1,fun q=>absurd q w,DB⟩
 rename_i w
 have hSk:S1.2=0:=Classical.not_not.1 w
 have h4:=(hN.2 hSk).1
 have MB:1<=k:=by have:=(hN.2 hSk).2;omega
 have ih:=ih MB
 have il:(Cg tw).length<=1000000000:=by
  unfold Cg
  have:=CB tw
  rw [List.length_tail]
  omega
 have hb:=BH (QS hd tn)
 split
 .split
  .exact Fj (by decide) hN.1
  .exact ⟨hN.1,fun _=>h4,DB⟩
 split
 .exact WC Qy.1 (fun x hx s a b=>ih lit tn _ x s il (WM Qy.1 Qy.2 x hx).1 (WM Qy.1 Qy.2 x hx).2 a b) S1 hN.1 (fun _=>h4)
 split
 .exact UG _ Qy.1 h4
 split
 .exact WK _ _ _ h4
 .exact Vb hb.2.1 Qy.1 Qy.2 (fun x hx y s a b c d=>ih lit _ _ y s (hb.2.2 x hx).1.1 a b c d) (fun x hx s c d=>ih true _ _ x.d s (hb.2.2 x hx).1.1 (hb.2.2 x hx).1.2.1.1 (hb.2.2 x hx).1.2.1.2 c d) h4
theorem coK (doc:List Av) (hd:DocB doc):∀k,k<=24->CoK doc (k+1):=by
 intro k
 induction k with
 |zero=>
  intro hk lit tn tw v s FQ hv hr hs RN
  refine ⟨?_,fun hp c n h=>Jm doc hd 0 hk (fun w=>absurd w (by decide)) lit tn tw v s FQ hv hr hs RN hp c n h⟩
  exact Pa doc hd 0 hk (fun w=>absurd w (by decide)) lit tn tw v s FQ hv hr hs RN
 |succ k ih=>
  intro hk lit tn tw v s FQ hv hr hs RN
  have ih:=ih (by omega)
  refine ⟨?_,fun hp c n h=>by
   have:=Jm doc hd (k+1) hk (fun _=>ih) lit tn tw v s FQ hv hr hs RN hp c n h
   have e:26 - (k+1+1)=25 - (k+1):=by omega
   rw [e]
   exact this⟩
  exact Pa doc hd (k+1) hk (fun _ lit tn tw v s a b c d e=>(ih lit tn tw v s a b c d e).1) lit tn tw v s FQ hv hr hs RN
def UO (doc:List Av) (lit:Bool) (tn:qB) (tw:List Int) (v:Ag):Ag×Int :=
 if (Dt doc 25 lit tn tw v (0,0)).2.2=0 then ((Dt doc 25 lit tn tw v (0,0)).1,0) else (A8,(Dt doc 25 lit tn tw v (0,0)).2.2)
theorem Aaf (doc:List Av) (hd:DocB doc) (lit:Bool) (tn:qB) (tw:List Int) (v:Ag) (FQ:tw.length<=1000000000) (hv:v.Fit) (hr:v.Rng):(UO doc lit tn tw v).1.Fit:=by
 unfold UO
 split
 .exact (coK doc hd 24 (by decide) lit tn tw v (0,0) FQ hv hr rfl (by decide)).1.2.2
 .exact DB
theorem PI (doc:List Av) (hd:DocB doc) (lit:Bool) (tn:qB) (tw:List Int) (v:Ag) (FQ:tw.length<=1000000000) (hv:v.Fit) (hr:v.Rng) (hp:CH) (c n:Nat) (h:gc hp c=BR doc lit (0,0)) :
 AO prog 165 hp n [.bx c 0,DW tn tw,vx v] ([(c,BR doc lit (Dt doc 25 lit tn tw v (0,0)).2)]++hp) n (.tp [vx (UO doc lit tn tw v).1,.i .i64 (UO doc lit tn tw v).2]):=by
 have DV:(∀k,n<=k->gc hp k=.no)->wsLt n [(c,BR doc lit (Dt doc 25 lit tn tw v (0,0)).2)]:=fun hf=>F8 (Dw h hf)
 obtain ⟨⟨f1,f2,f3⟩,f4⟩:=coK doc hd 24 (by decide) lit tn tw v (0,0) FQ hv hr rfl (by decide)
 obtain ⟨RR,AC⟩:=A7 (UO doc lit tn tw v)
 rw [AC]
 unfold UO at AC
 obtain ⟨Y,hY⟩:=A7 (Dt doc 25 lit tn tw v (0,0))
 have f4:∀(hp:CH) (c n:Nat),gc hp c=BR doc lit (0,0)->AO prog 176 hp n [.bx c 0,DW tn tw,vx v,.i .i64 1] ([(c,BR doc lit (Dt doc 25 lit tn tw v (0,0)).2)]++hp) n (vx (Dt doc 25 lit tn tw v (0,0)).1):=f4
 rw [hY] at DV AC ⊢
 simp only [hY] at f4
 refine Cp func165 (tA cc165) (tB cc165) (tC cc165) rfl DV fun hf=>?_;unfold ck165
 have l1:=Dw h hf
 simp (disch:=omega) only [go_sem]
 refine Ac.x (f4 _ c _ (by (repeat rw [Ak _ _ (by omega)]);exact h)) ?_
 simp only [BR,zlh,zli]
 have k1:¬n+3=c:=by omega
 have k2:¬c=n+3:=by omega
 by_cases w:Y.2.2=0
 .rw [iP w] at AC
  subst AC
  simp (disch:=omega) only [k1,k2,dT w,go_sem]
  refine BE (Ar _ _ _) fun j hj j1=>?_
  repeat rw [Ak _ _ (by omega)]
 .rw [iN w] at AC
  subst AC
  have k3:¬n+2=c:=by omega
  simp (disch:=omega) only [k1,k2,dF w,go_sem]
  refine ⟨k3,BE (Ar _ _ _) fun j hj j1=>?_⟩
  repeat rw [Ak _ _ (by omega)]
theorem Ra (doc:List Av) (hd:DocB doc) (tn:qB) (tw:List Int) (v:Ag) (FQ:tw.length<=1000000000) (hv:v.Fit) (hr:v.Rng) (hp:CH) (n:Nat):Ae prog 167 hp n [B9 doc,DW tn tw,vx v] (.tp [vx (UO doc false tn tw v).1,.i .i64 (UO doc false tn tw v).2]):=by
 have hR:=fun (Am:CH) (c:Nat) (e:gc Am c=BR doc false (0,0)) (n':Nat)=>PI doc hd false tn tw v FQ hv hr Am c n' e
 obtain ⟨RR,AC⟩:=A7 (UO doc false tn tw v)
 simp only [AC] at hR
 rw [AC]
 refine Al func167 (tA cc167) (tB cc167) (tC cc167) rfl fun hf=>?_;unfold ck167
 simp (disch:=omega) only [go_sem]
 refine Ac.x (hR _ (n+4) (Ar _ _ _) _) ?_
 simp only [BR,zlh,zli]
 simp (disch:=omega) only [go_sem]
theorem MN (doc:List Av) (hd:DocB doc) (tn:qB) (tw:List Int) (v:Ag) (FQ:tw.length<=1000000000) (hv:v.Fit) (hr:v.Rng):∃R:Ag×Int,∀(hp:CH) (n:Nat),Ae prog 135 hp n [B9 doc,DW tn tw,vx v,.ag [.i .i64 0,.i .i64 0,.s ⟨#[]⟩,.e0,.e0]] (.tp [vx R.1,.i .i64 R.2]):=by
 have hR:=fun (Am:CH) (c:Nat) (e:gc Am c=BR doc true (0,0)) (n':Nat)=>PI doc hd true tn tw v FQ hv hr Am c n' e
 obtain ⟨RR,AC⟩:=A7 (UO doc true tn tw v)
 simp only [AC] at hR
 have hY:=H8 doc hd.l tn
 obtain ⟨ib,hib⟩:=A7 (Jj doc tn)
 rw [hib] at hY
 have hM:=fun (Am:CH) (c:Nat) (e:gc Am c=BR doc true (0,0)) (n':Nat)=>HO (hp:=Am) e v n'
 obtain ⟨mb,hmb⟩:=A7 ((true&&decide (v.k=7)))
 simp only [hmb] at hM
 refine ⟨if ib=true∧mb=true then (A8,8) else RR,fun hp n=>?_⟩
 refine Al func135 (tA cc135) (tB cc135) (tC cc135) rfl fun hf=>?_;unfold ck135
 simp (disch:=omega) only [go_sem]
 refine Ac.f (hY _ _) ?_
 simp (disch:=omega) only [go_sem]
 refine AH.f (fun _=>hM _ (n+5) (by (repeat rw [Ak _ _ (by omega)]);exact Ar _ _ _) _) ?_
 cases ib<;>cases mb
 case' true.true=>
  simp (disch:=omega) only [go_sem]
 all_goals
  simp (disch:=omega) only [go_sem]
  refine Ac.x (hR _ (n+5) (by (repeat rw [Ak _ _ (by omega)]);exact Ar _ _ _) _) ?_
  simp only [BR,zlh,zli]
  simp (disch:=omega) only [go_sem]
theorem H9 (doc:List Av) (t:Av) (f:Cr):(Gx doc t f).length<=33:=by
 unfold Gx
 cases Dq t.fields f.n with
 |none=>simp [Nd]
 |some x=>
  unfold Nd
  have h1:=Cc (G6 (t.n++⟨#[46]⟩++f.n) (Bl x.args)) (Bl f.args)
  have h2:=Cc (K1 (t.n++⟨#[46]⟩++f.n) (Bl f.args)) (Bl x.args)
  have h3:=Dl f.args
  have h4:=Dl x.args
  have h5:(if XP doc x.tn (IX x.tw) f.tn (IX f.tw)=true then ([]:List Da) else [.mk 10 (t.n++⟨#[46]⟩++f.n)]).length<=1:=by split<;>simp
  rw [zld,zld]
  omega
theorem El {α β:Type} {A:α->List β} {B:Nat} (h:∀x,(A x).length<=B) (l:List α):(l.flatMap A).length<=l.length*B:=by
 induction l with
 |nil=>simp
 |cons a l ih=>rw [List.flatMap_cons,zld,zlc,Nat.add_mul];have:=h a;omega
theorem Nf (hd:DocB doc) (n:qB):((Ay doc n).getD DJ).fields.length<=64∧∀f∈((Ay doc n).getD DJ).fields,FldB f:=by
 cases h:Ay doc n with
 |none=>exact ⟨by simp [DJ,Av.fields_mk],by intro f hf;simp [DJ,Av.fields_mk] at hf⟩
 |some t=>exact ⟨(hd.d t (List.mem_of_find?_eq_some h)).fl,(hd.d t (List.mem_of_find?_eq_some h)).f⟩
def Vd (doc:List Av) (t:Av) (im:List qB) (nm:qB) (j:Nat):List Da :=
 if P7 doc nm 2=0 then (if nm∈im.take j then [.mk 7 t.n] else ((Ay doc nm).getD DJ).fields.flatMap (Gx doc t)) else [.mk (P7 doc nm 2) t.n]
def L1 (doc:List Av) (t:Av) (im:List qB) (n:Nat):List Da:=(List.range n).flatMap fun j=>match im[j]? with | some nm=>Vd doc t im nm j | none=>[]
theorem UV {t:Av} {im:List qB} {j:Nat} {nm:qB} (e:im[j]?=some nm):L1 doc t im (j+1)=L1 doc t im j++Vd doc t im nm j:=by
 unfold L1
 rw [List.range_succ,List.flatMap_append]
 simp [e]
theorem VB (hd:DocB doc) (t:Av) (im:List qB) (nm:qB) (j:Nat):(Vd doc t im nm j).length<=2112:=by
 unfold Vd
 have h1:=El (H9 doc t) ((Ay doc nm).getD DJ).fields
 have h2:=(Nf hd nm).1
 split
 .split
  .simp
  .omega
 .simp
theorem Ql (hd:DocB doc) (t:Av) (im:List qB) (n:Nat):(L1 doc t im n).length<=n*2112:=by
 have:=El (A:=fun j=>match im[j]? with | some nm=>Vd doc t im nm j | none=>[]) (B:=2112) (fun j=>by
  cases im[j]? with
  |none=>simp
  |some nm=>exact VB hd t im nm j) (List.range n)
 rw [List.length_range] at this
 exact this
theorem Oy (doc:List Av) (hd:DocOk doc) (hb:DocB doc) (t:Av) (ht:DfnB t) (hp:CH) (m:Nat):Ae prog 87 hp m [B9 doc,Lw t] (.ds (Ab AM (L1 doc t (GX t.impl) (GX t.impl).length))):=by
 have Vf:=ht.im
 have Vt:=ht.il
 have GB:=hb.l
 obtain ⟨im,hime⟩:=A7 (GX t.impl)
 rw [hime] at Vf Vt ⊢
 obtain ⟨RR,AC⟩:=A7 (L1 doc t im im.length)
 rw [AC]
 refine Al func87 (tA cc87) (tB cc87) (tC cc87) rfl fun hf=>?_;unfold ck87
 simp (disch:=omega) only [Vf,go_sem]
 refine loop (fun p:R1=>match p with
  | .mk j g L n=>⟨[(2,.bx m 0),(3,.bx (m+1) 0),(5,.rw (m+2) g L.length),(6,.i .i64 j)],(m+2,.rw g 2 (Ab AM L))::(m,.bx [.ds (Ab BB doc)])::(m+1,.bx [.i .i64 t.k,.s t.n,.ds (Bq im),.ds t.dirs,.ds (Ab Bu t.fields),.ds t.members,.ds t.inputs])::hp,n⟩)
  (fun p=>match p with | .mk j g L n=>j<=im.length∧m+3<=n∧L=L1 doc t im j) (fun p=>match p with | .mk j g L n=>im.length - j) (.mk 0 0 [] (m+3)) ?_ ?_ (fun p hj=>?_)
 .exact ⟨zw _,zna _,rfl⟩
 .dsimp only
  refine (By (t:=5) (m:=2) (by (simp (disch:=omega) only [go_sem]))).trans (EU hf ?_ ?_ ?_ ?_ (fun a ha d5=>?_) (zna _))
  .simp (disch:=omega) only [go_sem]
  .simp (disch:=omega) only [go_sem]
   try rfl
  .simp (disch:=omega) only [go_sem]
  .simp (disch:=omega) only [go_sem]
  .repeat rw [Ak _ _ (by omega)]
 obtain ⟨j,g,L,n⟩:=p
 obtain ⟨Cq,Be,At⟩:=hj
 have Ck:(Ab AM L).length=L.length:=As _ _
 have Ve:L.length<=135168:=by rw [At];have:=Ql hb t im j;omega
 have BD:m<=n:=by omega
 dsimp only
 simp (disch:=omega) only [go_sem]
 refine Af (fun q=>?_) (fun q=>?_)
 case' refine_2=>
  have q:j=im.length:=by simp at q;omega
  subst q
  rw [AC] at At
  subst At
  simp (disch:=omega) only [BD,Ck,zna,go_sem]
 have q:j<im.length:=by simpa using q
 obtain ⟨nm,en⟩:∃x,im[j]?=some x:=⟨im[j],by simp [q]⟩
 have hK:=Mr doc hd.len nm 2
 have hH:=Nx (im.take j) nm (by rw [List.length_take];omega)
 have hFi:=BW doc hd.len nm
 have D6:=UV (doc:=doc) (t:=t) en
 unfold Vd at D6
 obtain ⟨e0,he0⟩:=A7 (P7 doc nm 2)
 rw [he0] at hK D6
 obtain ⟨hx1,GD⟩:=Nf hb nm
 obtain ⟨X,hX⟩:=A7 (Ay doc nm)
 rw [hX] at hFi hx1 GD D6
 unfold Eh at hFi
 obtain ⟨x,hx⟩:=A7 (X.getD DJ)
 rw [hx] at hFi hx1 GD D6
 have z3:0<=(j:Int)∧(j:Int)<=(im.length:Int):=by omega
 have k1:(L.length+1)*24<=140737488355328:=by omega
 have k2:L.length<=9223372036854775806:=by omega
 simp (disch:=omega) only [q,Ad (Aa C3 en),go_sem]
 refine Au.f (fun _ _ _=>hK _ _) ?_
 by_cases c0:e0=0
 .subst c0
  rw [iP rfl] at D6
  have eg:(Bq im)[j]?=some [.s nm]:=Aa C3 en
  simp (disch:=omega) only [q,Ad (Aa C3 en),z3.1,z3.2,decide_true,eg,zlc,zle,za,zf,z8,zlr,z7,zb,zc,zk,and_self,Bt,true_and,go_sem]
  refine AJ.f (fun _ _ _=>hH _ _) ?_
  by_cases c1:nm∈im.take j
  .rw [iP c1] at D6
   simp (disch:=omega) only [q,Ad (Aa C3 en),dT c1,Ck,k1,k2,Aq,eg,zlc,zle,za,zf,z8,zlr,z7,zb,zc,zk,and_self,Bt,true_and,go_sem]
   refine ⟨.mk (j+1) (g+1) (L++[.mk 7 t.n]) (n+200),⟨show j+1<=im.length by omega,show m+3<=n+200 by omega,?_⟩,by show im.length - (j+1)<im.length - j;omega,?_⟩
   .show _=_
    rw [D6,<-At]
   dsimp only
   refine EU hf ?_ ?_ ?_ ?_ (fun a ha d5=>?_) (by omega)
   .simp (disch:=omega) only [Ao j (by omega),zld,zlc,zle,go_sem]
    try simp [ze]
   .simp (disch:=omega) only [Ax,Aq,zlf,go_sem]
    try simp [zlf]
   .simp (disch:=omega) only [go_sem]
   .simp (disch:=omega) only [go_sem]
   .repeat rw [Ak _ _ (by omega)]
  .rw [iN c1] at D6
   simp (disch:=omega) only [q,Ad (Aa C3 en),dF c1,eg,zlc,zle,za,zf,z8,zlr,z7,zb,zc,zk,and_self,Bt,true_and,go_sem]
   refine Au.f (fun _ _ _=>hFi _ _) ?_
   simp (disch:=omega) only [q,Ad (Aa C3 en),go_sem]
   have u1:¬n+31=m:=by omega
   have u2:¬n+32=m:=by omega
   refine ⟨⟨u1,u2⟩,?_⟩
   refine loop (fun p:R1=>match p with
    | .mk i g' L' n'=>⟨[(2,.bx m 0),(3,.bx (m+1) 0),(5,.rw (m+2) g' L'.length),(6,.i .i64 j),(8,.bx (n+32) 0),(10,.i .i64 i)],(m+2,.rw g' 2 (Ab AM L'))::(n+32,.bx [.i .i64 x.k,.s x.n,.ds x.impl,.ds x.dirs,.ds (Ab Bu x.fields),.ds x.members,.ds x.inputs])::(m,.bx [.ds (Ab BB doc)])::(m+1,.bx [.i .i64 t.k,.s t.n,.ds (Bq im),.ds t.dirs,.ds (Ab Bu t.fields),.ds t.members,.ds t.inputs])::hp,n'⟩)
    (fun p=>match p with | .mk i g' L' n'=>i<=x.fields.length∧n+33<=n'∧L'=L++(x.fields.take i).flatMap (Gx doc t)) (fun p=>match p with | .mk i g' L' n'=>x.fields.length - i) (.mk 0 g L (n+100)) ?_ ?_ (fun p hi=>?_)
   .exact ⟨zw _,show n+33<=n+100 by omega,by simp⟩
   .dsimp only
    refine Q3 hf ?_ ?_ ?_ ?_ ?_ (fun a ha d5=>?_) (by omega)
    .simp (disch:=omega) only [go_sem]
    .simp (disch:=omega) only [go_sem]
    .simp (disch:=omega) only [go_sem]
    .simp (disch:=omega) only [go_sem]
    .simp (disch:=omega) only [go_sem]
    .repeat rw [Ak _ _ (by omega)]
   obtain ⟨i,g',L',n'⟩:=p
   obtain ⟨NN,Is,Ed⟩:=hi
   have hLl':(Ab AM L').length=L'.length:=As _ _
   have Hf:=El (H9 doc t) (x.fields.take i)
   have hLn':L'.length<=137280:=by rw [Ed,zld];rw [List.length_take] at Hf;omega
   dsimp only
   simp (disch:=omega) only [go_sem]
   refine Af (fun q2=>?_) (fun q2=>?_)
   .have q2:i<x.fields.length:=by simpa using q2
    obtain ⟨f,ef⟩:∃y,x.fields[i]?=some y:=⟨x.fields[i],by simp [q2]⟩
    have QA:=GD f (List.mem_of_getElem? ef)
    have hR:=Qh doc hd t ht f QA
    have hRl:=H9 doc t f
    have hSn:=Bo (A:=Gx doc t) ef
    obtain ⟨F,hF⟩:=A7 (Gx doc t f)
    rw [hF] at hR hRl hSn
    simp only [Lw,flx] at hR
    rw [Vf] at hR
    have k3:(L'.length+F.length)*24<=140737488355328:=by omega
    have k4:L'.length+F.length<=9223372036854775807:=by omega
    have Dz:(Ab AM F).length=F.length:=As _ _
    simp (disch:=omega) only [q2,Ad (Aa Bu ef),go_sem]
    refine Au.f (fun _ _ _=>hR _ _) ?_
    simp (disch:=omega) only [q2,Ad (Aa Bu ef),hLl',Dz,k3,k4,Ax,true_and,go_sem]
    refine ⟨.mk (i+1) (g'+1) (L'++F) (n'+200),⟨show i+1<=x.fields.length by omega,show n+33<=n'+200 by omega,?_⟩,by show x.fields.length - (i+1)<x.fields.length - i;omega,?_⟩
    .show _=_
     rw [hSn,Ed,zlf]
    dsimp only
    refine Q3 hf ?_ ?_ ?_ ?_ ?_ (fun a ha d5=>?_) (by omega)
    .simp (disch:=omega) only [Ao i (by omega),zld,zlc,zle,go_sem]
    .simp (disch:=omega) only [Ax,Aq,zlf,go_sem]
    .simp (disch:=omega) only [go_sem]
    .simp (disch:=omega) only [go_sem]
    .simp (disch:=omega) only [go_sem]
    .repeat rw [Ak _ _ (by omega)]
   have q2:i=x.fields.length:=by simp at q2;omega
   subst q2
   rw [List.take_length] at Ed
   simp (disch:=omega) only [go_sem]
   refine ⟨.mk (j+1) (g') (L') (n'+200),⟨show j+1<=im.length by omega,show m+3<=n'+200 by omega,?_⟩,by show im.length - (j+1)<im.length - j;omega,?_⟩
   .show _=_
    rw [D6,<-At,Ed]
   dsimp only
   refine EU hf ?_ ?_ ?_ ?_ (fun a ha d5=>?_) (by omega)
   .simp (disch:=omega) only [Ao j (by omega),zld,zlc,zle,go_sem]
    try simp [ze]
   .simp (disch:=omega) only [Ax,Aq,zlf,go_sem]
    try simp [zlf]
   .simp (disch:=omega) only [go_sem]
   .simp (disch:=omega) only [go_sem]
   .repeat rw [Ak _ _ (by omega)]
 .rw [iN c0] at D6
  simp (disch:=omega) only [q,Ad (Aa C3 en),z3.1,z3.2,dF c0,true_and,go_sem]
  refine AJ.no ?_
  simp (disch:=omega) only [q,Ad (Aa C3 en),dF c0,Ck,k1,k2,true_and,Aq,go_sem]
  refine ⟨.mk (j+1) (g+1) (L++[.mk e0 t.n]) (n+200),⟨show j+1<=im.length by omega,show m+3<=n+200 by omega,?_⟩,by show im.length - (j+1)<im.length - j;omega,?_⟩
  .show _=_
   rw [D6,<-At]
  dsimp only
  refine EU hf ?_ ?_ ?_ ?_ (fun a ha d5=>?_) (by omega)
  .simp (disch:=omega) only [Ao j (by omega),zld,zlc,zle,go_sem]
   try simp [ze]
  .simp (disch:=omega) only [Ax,Aq,zlf,go_sem]
   try simp [zlf]
  .simp (disch:=omega) only [go_sem]
  .simp (disch:=omega) only [go_sem]
  .repeat rw [Ak _ _ (by omega)]
end
