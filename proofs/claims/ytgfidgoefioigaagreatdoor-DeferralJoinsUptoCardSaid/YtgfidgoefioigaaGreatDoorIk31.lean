/- Proof. Conditions: none. -/
import Derived.Test.YtgfidgoefioigaaGreatDoorIk30
open Nat renaming zero_add->z1g
open Bool renaming and_eq_true->zd
open Go.Proofs.Tryz
open List renaming mem_of_getElem?->zla,length_cons->zlc,length_append->zld,length_nil->zle,drop_length->zll
open Nat renaming le_refl->zna
namespace Go.Proofs.YtgfidgoefioigaaGreatDoor
open Go.Eng
set_option linter.all false
set_option maxRecDepth 20000
section
variable {hp:CH} {m B c:Nat} {v:Ag} {X:Ai}
theorem OJ {a g n:Nat} {l:List (List AV)} (hf:∀k,m<=k->gc hp k=.no) (h:gc hp a=.rw g n l):a<m:=by
 rcases Nat.lt_or_ge a m with q | q
 .exact q
 .rw [hf a q] at h;cases h
theorem Ac4 (v s:Ag):IE v s=-1∨(0<=IE v s∧IE v s<v.items.length):=by
 have:=PV s.s v.keys 0
 unfold IE
 split
 .split<;>omega
 .split<;>omega
theorem TH (d s:Ag) (p:List Ag) (ih:∀v,AE v+AE d<=1000000000000->∀hp m,Ae prog 39 hp m [vx v,.ds (Ab Aw p),vx d] (Rk (FT d p v))) (v:Ag) (hw:AE v+AE d<=1000000000000) (hp:CH) (m:Nat) :
 Ae prog 39 hp m [vx v,.ds (Ab Aw (s::p)),vx d] (Rk (FT d (s::p) v)):=by
 have hv:=CN v (by omega)
 have hd:=CN d (by omega)
 have h1:=hv.i
 have GU:((p.length+1:Nat):Int)=1↔p.length=0:=by omega
 obtain ⟨R,hR⟩:=A7 (FT d (s::p) v)
 rw [hR]
 rw [FT] at hR
 refine Al func39 (tA cc39) (tB cc39) (tC cc39) rfl fun hf=>?_;unfold ck39
 simp only [go_sem]
 have e0:decide (((p.length+1:Nat):Int)=0)=false:=by simp;omega
 rw [e0]
 simp only [e0,go_sem]
 refine Af (fun c=>?_) (fun c=>?_)
 .have c:p.length=0∧s.k=2∧v.k=5∧s.n=v.items.length:=by
   simp only [zd,decide_eq_true_eq] at c
   exact ⟨by omega,c.1.1.2,c.1.2,c.2⟩
  have hw1:=HR v.items
  have hw2:=A9 v
  rw [iP c] at hR
  subst hR
  simp only [go_sem]
  refine Ac.x (RB v hv _ _) ?_
  simp only [go_sem]
  first | refine Au.f (fun _ _ _=>FG d hd _ _) ?_ | refine AJ.f (fun _ _ _=>FG d hd _ _) ?_
  simp only [go_sem]
  omega
 .have c:¬(p.length=0∧s.k=2∧v.k=5∧s.n=v.items.length):=fun h=>by
   have:((p.length+1:Nat):Int)=1:=by omega
   simp [this,h.2.1,h.2.2.1,h.2.2.2] at c
  have hs:=Ac4 v s
  rw [iN c] at hR
  simp only [go_sem]
  first | refine Au.f (fun _ _ _=>LU v s hv _ _) ?_ | refine AJ.f (fun _ _ _=>LU v s hv _ _) ?_
  simp only [go_sem]
  refine Af (fun c1=>?_) (fun c1=>?_)
  .have c1:IE v s<0:=of_decide_eq_true c1
   rw [iP c1] at hR
   subst hR
   simp only [go_sem]
  have c1:¬IE v s<0:=of_decide_eq_false c1
  have c2:(IE v s).toNat<v.items.length:=by omega
  have c3:0<=IE v s:=by omega
  obtain ⟨x,ex⟩:∃x,v.items[(IE v s).toNat]?=some x:=⟨_,List.getElem?_eq_getElem c2⟩
  have hx:=hv.x (zla ex)
  have hwx:=BS (zla ex)
  have hw2:=A9 v
  simp only [iN c1,ex] at hR
  simp only [c2,c3,Ad (Aa Aw ex),go_sem]
  first | refine ⟨⟨by omega,by omega⟩,?_⟩ | skip
  first | refine Au.f (fun _ _ _=>ih x (by omega) _ _) ?_ | refine AJ.f (fun _ _ _=>ih x (by omega) _ _) ?_
  simp only [go_sem]
  refine Af (fun c4=>?_) (fun c4=>?_)
  .have c4:¬(FT d p x).2=0:=by simpa using c4
   rw [iN c4] at hR
   subst hR
   simp only [go_sem]
  .have c4:(FT d p x).2=0:=by simpa using c4
   rw [iP c4] at hR
   subst hR
   simp only [go_sem]
   refine Ac.x (RB v hv _ _) ?_
   simp only [c2,c3,Ad (Aa Aw ex),go_sem]
theorem LV (d:Ag):∀(p:List Ag) (v:Ag),AE v+AE d<=1000000000000->∀hp m,Ae prog 39 hp m [vx v,.ds (Ab Aw p),vx d] (Rk (FT d p v))
 |s::p,v,hw,hp,m=>TH d s p (LV d p) v hw hp m
 | [],v,hw,hp,m=>by
  have hv:=CN v (by omega)
  have hd:=CN d (by omega)
  have w1:=A9 v
  have w2:=A9 d
  have w3:=HR v.items
  have w4:=HR d.items
  obtain ⟨R,hR⟩:=A7 (Jw v d)
  rw [FT,hR]
  have h0:=Aba v d hv hd (by omega) (by omega)
  rw [hR] at h0
  refine Al func39 (tA cc39) (tB cc39) (tC cc39) rfl fun hf=>?_;unfold ck39
  simp only [go_sem]
  refine Ac.f (h0 _ _) ?_
  simp only [go_sem]
theorem Sd {x:Ag} (h:Q7 v=true) (hx:x∈v.items):Q7 x=true:=by
 rw [JN] at h
 simp only [zd] at h
 exact (G0 _).1 h.2 x hx
theorem Aaq (h:Q7 v=true) (h6:v.k=6):v.keys.length=v.items.length:=by
 rw [JN] at h
 simp [h6] at h
 exact h.1
theorem Qi:∀(l:List qB) (r:List Ag) (ks:List qB) (is:List Ag) (ks':List qB) (is':List Ag),NR l r ks is=some (ks',is') ->
 BF is'<=BF is+BF r∧ks'.length<=ks.length+l.length∧ks'.length+is.length=ks.length+is'.length∧((∀x∈is,Q7 x=true)->(∀x∈r,Q7 x=true)->∀x∈is',Q7 x=true)
 | [],r,ks,is,ks',is',h=>by
  rw [NR] at h
  cases h
  exact ⟨by omega,by omega,by omega,fun a _=>a⟩
 |k::l,[],ks,is,ks',is',h=>by
  rw [NR] at h
  cases h
  exact ⟨by omega,by omega,by omega,fun a _=>a⟩
 |k::l,x::r,ks,is,ks',is',h=>by
  rw [NR] at h
  split at h
  .cases h
  .obtain ⟨h1,h2,h3,h4⟩:=Qi l r _ _ _ _ h
   rw [If,BF,BF] at h1
   simp only [zld,zlc,zle] at h2 h3
   refine ⟨by rw [BF];omega,by simp;omega,by omega,fun a b=>h4 (fun y hy=>?_) (fun y hy=>b y (by simp [hy]))⟩
   rcases List.mem_append.1 hy with hy | hy
   .exact a y hy
   .simp at hy;subst hy;exact b _ (by simp)
theorem MM (y:Ag):∀(l:List Ag) (i:Nat) (x:Ag),l[i]?=some x->BF (l.set i y)+AE x=BF l+AE y
 |z::l,0,x,h=>by
  simp at h
  subst h
  rw [List.set_cons_zero,BF,BF]
  omega
 |z::l,i+1,x,h=>by
  have:=MM y l i x (by simpa using h)
  rw [List.set_cons_succ,BF,BF]
  omega
theorem Ul (v d:Ag) (h:(Jw v d).2=0):AE (Jw v d).1<=AE v+AE d∧(Q7 v=true->Q7 d=true->Q7 (Jw v d).1=true):=by
 rw [Jw] at h ⊢
 by_cases c:v.k=6∧d.k=6
 .rw [iP c] at h ⊢
  cases e:NR d.keys d.items v.keys v.items with
  |none=>rw [e,adR] at h;exact absurd h (by decide)
  |some o=>
   obtain ⟨ks,is⟩:=o
   obtain ⟨h1,h2,h3,h4⟩:=Qi _ _ _ _ _ _ e
   rw [adR]
   refine ⟨?_,fun a b=>?_⟩
   .rw [A9 v,A9 d,A9]
    simp only [Ag.items_mk,Ag.keys_mk]
    omega
   .have q:=Aaq a c.1
    rw [JN]
    simp only [Ag.items_mk,Ag.keys_mk,Ag.k_mk,zd]
    refine ⟨?_,(G0 _).2 (h4 (fun x hx=>Sd a hx) (fun x hx=>Sd b hx))⟩
    have:ks.length=is.length:=by omega
    simp [this]
 .rw [iN c] at h ⊢
  by_cases c2:d.k=0
  .rw [iP c2] at h ⊢
   exact ⟨by dsimp only;omega,fun a _=>a⟩
  .rw [iN c2] at h
   exact absurd h (by decide)
theorem OB (d:Ag):∀(p:List Ag) (v:Ag),(FT d p v).2=0->AE (FT d p v).1<=AE v+AE d∧(Q7 v=true->Q7 d=true->Q7 (FT d p v).1=true)
 | [],v,h=>by
  rw [FT] at h ⊢
  exact Ul v d h
 |s::p,v,h=>by
  rw [FT] at h ⊢
  by_cases c:p.length=0∧s.k=2∧v.k=5∧s.n=v.items.length
  .rw [iP c] at h ⊢
   refine ⟨?_,fun a b=>?_⟩
   .rw [A9 v,A9 (Ag.mk v.k v.n v.s (v.items++[d]) v.keys)]
    simp only [Ag.items_mk,Ag.keys_mk]
    rw [If,BF,BF]
    omega
   .rw [JN]
    simp only [Ag.items_mk,Ag.keys_mk,Ag.k_mk,zd]
    refine ⟨by simp [c.2.2.1],(G0 _).2 fun x hx=>?_⟩
    rcases List.mem_append.1 hx with hx | hx
    .exact Sd a hx
    .simp at hx;subst hx;exact b
  .rw [iN c] at h ⊢
   by_cases c1:IE v s<0
   .rw [iP c1] at h
    exact absurd h (by decide)
   rw [iN c1] at h ⊢
   cases ex:v.items[(IE v s).toNat]? with
   |none=>rw [ex] at h;exact absurd (show (8:Int)=0 from h) (by decide)
   |some x=>
    rw [ex] at h
    simp only at h ⊢
    by_cases c2:(FT d p x).2=0
    .rw [iP c2] at h ⊢
     obtain ⟨i1,i2⟩:=OB d p x c2
     have hs:=MM (FT d p x).1 v.items _ x ex
     refine ⟨?_,fun a b=>?_⟩
     .rw [A9 v,A9 (Ag.mk v.k v.n v.s _ v.keys)]
      simp only [Ag.items_mk,Ag.keys_mk]
      omega
     .have hx:=i2 (Sd a (zla ex)) b
      rw [JN] at a ⊢
      simp only [zd] at a
      simp only [Ag.items_mk,Ag.keys_mk,Ag.k_mk,zd,List.length_set]
      refine ⟨a.1,(G0 _).2 fun y hy=>?_⟩
      rcases List.mem_or_eq_of_mem_set hy with hy | hy
      .exact (G0 _).1 a.2 y hy
      .subst hy;exact hx
    .rw [iN c2] at h
     exact absurd h c2
inductive DM where
 | mk (l:qB) (p:List Ag) (d:Ag) (q:List DI)
def DM.l:DM->qB | .mk l _ _ _=>l
def DM.p:DM->List Ag | .mk _ p _ _=>p
def DM.d:DM->Ag | .mk _ _ d _=>d
def DM.q:DM->List DI | .mk _ _ _ q=>q
def DU (x:DM):List AV:=[.s x.l,.ds (Ab Aw x.p),.i .i64 x.d.k,.i .i64 x.d.n,.s x.d.s,.ds (Ab Aw x.d.items),.ds (Bq x.d.keys),.ds (Ab Dr x.q)]
attribute [go_sem] DU
def Vp:List DM->Ag->Ag×Int
 | [],v=>(v,0)
 |p::r,v=>if (FT p.d p.p v).2=0 then Vp r (FT p.d p.p v).1 else (A8,(FT p.d p.p v).2)
def wtP:List DM->Nat
 | []=>0
 |p::r=>AE p.d+wtP r
def MgB (B:Nat):List DM->Ag->Prop
 | [],v=>AE v<=B
 |p::r,v=>AE v+AE p.d<=B∧((FT p.d p.p v).2=0->MgB B r (FT p.d p.p v).1)
theorem MgB.wt:∀{l:List DM} {v:Ag},MgB B l v->AE v<=B
 | [],_,h=>h
 |p::r,v,h=>by have:=h.1;omega
theorem XC:∀(l:List DM) (v:Ag),AE v+wtP l<=B->MgB B l v
 | [],v,h=>by rw [wtP] at h;exact h
 |p::r,v,h=>by
  rw [wtP] at h
  refine ⟨by omega,fun c=>XC r _ ?_⟩
  have:=(OB p.d p.p v c).1
  omega
theorem KJ (v:Ag) (l:List DM) (hl:l.length<=1000000000000) (hw:MgB 1000000000000 l v) (hp:CH) (m:Nat):Ae prog 16 hp m [vx v,.ds (Ab DU l)] (Rk (Vp l v)):=by
 have hv:=CN v hw.wt
 obtain ⟨R,hR⟩:=A7 (Vp l v)
 rw [hR]
 refine Al func16 (tA cc16) (tB cc16) (tC cc16) rfl fun hf=>?_;unfold ck16
 simp only [go_sem]
 refine Ac.f (FG v hv _ _) ?_
 simp only [go_sem]
 refine loop (fun p:Nat×Ag×Nat=>⟨[(4,.bx (m+1) 0),(6,.bx (m+2) 0),(13,.ds (Ab DU l)),(14,.i .i64 l.length),(15,.i .i64 p.1)],
  (m+2,.bx [.i .i64 p.2.1.k,.i .i64 p.2.1.n,.s p.2.1.s,.ds (Ab Aw p.2.1.items),.ds (Bq p.2.1.keys)])::(m+1,.bx [.i .i64 0,.i .i64 0,.s ⟨#[]⟩,.e0,.e0])::hp,p.2.2⟩)
  (fun p=>p.1<=l.length∧m+3<=p.2.2∧R=Vp (l.drop p.1) p.2.1∧MgB 1000000000000 (l.drop p.1) p.2.1) (fun p=>l.length - p.1) (0,v,m+3) ?_ ?_ (fun ⟨j,u,n⟩ hj=>?_)
 .exact ⟨by dsimp only;omega,by dsimp only;omega,hR.symm,hw⟩
 .refine ID hf ?_ ?_ ?_ ?_ (zna _)
  all_goals simp only [go_sem]
 dsimp only at hj
 obtain ⟨Cq,Be,At,Cl⟩:=hj
 simp only [go_sem]
 refine Af (fun d=>?_) (fun d=>?_)
 .have d:j<l.length:=by simpa using d
  obtain ⟨x,ex⟩:∃x,l[j]?=some x:=⟨l[j],by simp [d]⟩
  rw [A2 ex] at At Cl
  rw [Vp] at At
  obtain ⟨Cl,CU⟩:=Cl
  have z6:m<=n:=by omega
  have z1:¬n=m+1:=by omega
  have z2:¬n=m+2:=by omega
  have z3:¬n+1=m+1:=by omega
  have z4:¬n+1=m+2:=by omega
  have z5:m<=n+1:=by omega
  simp only [z1,z2,z3,z4,z5,z6,d,Ad (Aa DU ex),go_sem]
  refine Ac.f (LV x.d x.p u (by omega) _ _) ?_
  simp only [z1,z2,z3,z4,z5,z6,d,go_sem]
  refine Af (fun c=>?_) (fun c=>?_)
  .have c:¬(FT x.d x.p u).2=0:=by simpa using c
   rw [iN c] at At
   subst At
   simp only [z1,z2,z3,z4,z5,z6,d,go_sem]
  .have c:(FT x.d x.p u).2=0:=by simpa using c
   rw [iP c] at At
   have CU:=CU c
   simp only [z1,z2,z3,z4,z5,z6,d,go_sem]
   refine ⟨(j+1,(FT x.d x.p u).1,_),?_,?_,ID hf ?_ ?_ ?_ ?_ (zna _)⟩
   .exact ⟨by dsimp only;omega,by dsimp only;omega,At,CU⟩
   .dsimp only;omega
   all_goals
    simp only [z1,z2,z3,z4,z5,z6,Ao j (by omega),go_sem]
 .have d:j=l.length:=by simp at d;omega
  subst d
  rw [zll,Vp] at At
  subst At
  simp only [go_sem]
theorem Vc (v:Ag) (l:List DM) (hl:l.length<=1000000000000) (hw:AE v+wtP l<=1000000000000) (hp:CH) (m:Nat):Ae prog 16 hp m [vx v,.ds (Ab DU l)] (Rk (Vp l v)):=KJ v l hl (XC l v hw) hp m
def Cm (l:qB) (out:List qB):List qB:=if ¬l=⟨#[]⟩∧¬0<=ix l out 0 then out++[l] else out
mutual
def Y9:Pk->List qB->List qB
 | .mk _ _ _ _ _ _ l _ p,out=>Cy p (Cm l out)
def Cy:List Pk->List qB->List qB
 | [],out=>out
 |p::r,out=>Cy r (Y9 p out)
end
theorem Ns (p:Pk) (out:List qB):Y9 p out=Cy p.picks (Cm p.label out):=by cases p;rw [Y9];rfl
theorem LT (l:qB) (out:List qB):out.length<=(Cm l out).length∧(Cm l out).length<=out.length+1:=by
 unfold Cm
 split<;>simp
theorem Kb:∀(l:List Pk),(∀p∈l,∀out,out.length<=(Cy p.picks out).length∧(Cy p.picks out).length<=out.length+A5 p.picks)->∀out,out.length<=(Cy l out).length∧(Cy l out).length<=out.length+A5 l
 | [],_,out=>by rw [Cy,A5];omega
 |p::r,h,out=>by
  rw [Cy,A5,Ns,Ci]
  have h1:=Kb r (fun q hq=>h q (by simp [hq])) (Cy p.picks (Cm p.label out))
  have h2:=h p (by simp) (Cm p.label out)
  have h3:=LT p.label out
  omega
theorem En (l:List Pk) (out:List qB):out.length<=(Cy l out).length∧(Cy l out).length<=out.length+A5 l:=by
 refine Kb l (fun p _=>?_) out
 exact Pk.ind (Q:=fun p=>∀out,out.length<=(Cy p.picks out).length∧(Cy p.picks out).length<=out.length+A5 p.picks) (fun v ih=>Kb v.picks ih) p
theorem RM {a:CH} (h1:gc a c=X) (h2:∀j,j<m->j≠c->gc a j=gc hp j):Up m ((c,X)::hp) a:=fun j hj=>by
 by_cases hc:c=j
 .subst hc
  rw [Ar]
  exact h1
 .rw [Ak _ _ hc]
  exact h2 j hj (fun e=>hc e.symm)
theorem Gj (hf:∀k,m<=k->gc hp k=.no) (hc:c<m):∀k,m<=k->gc ((c,X)::hp) k=.no:=fun k hk=>by
 rw [Ak _ _ (by omega)]
 exact hf k hk
theorem PB {P : Program} {f : FuncId} {fn : Func} {k : CC} {rs : List RS} (hf : P.funcs[f]? = some fn) (FZ : (fn.name == "runtime.NumGoroutine") = false)
 (hc:fn.body.bind (BP P fn.ntmps)=some k.erase) (HG:NS P fn.ntmps fn.results.toList=some rs) {hp:CH} {n c:Nat} {X:Ai} {args:List AV} {r:AV} (AZ:Nat.ble args.length fn.ntmps=true)
 (hX:X.lt1 n) (Fw:(∀k,n<=k->gc hp k=.no)->c<n) (hv:(∀k,n<=k->gc hp k=.no)->vc P k ⟨C9 0 args,hp,n⟩ (K7 rs (Lz ((c,X)::hp) n [] r))):AO P f hp n args ((c,X)::hp) n r:=by
 have J0 := (by obtain ⟨c, hb, Qx⟩ := bd hc; exact ⟨fn, hf, FZ, by rw [hb]; rfl⟩ : ∃ fn, P.funcs[f]? = some fn ∧ (fn.name == "runtime.NumGoroutine") = false ∧ fn.body.isNone = false)
 refine ⟨J0,fun h J w vs hs ha=>?_⟩
 refine (AK.out (outs:=[]) (fun k hk=>?_) (Gj hs.free (Fw hs.free)) (Jb hf FZ hc HG AZ (hv hs.free))).2 h J w vs hs ha
 by_cases hkc:c=k
 .subst hkc
  rw [Ar]
  exact .inr hX
 .rw [Ak _ _ hkc]
  exact .inl rfl
def Lab (l:List Pk):Prop:=∀(out:List qB) (c g len:Nat) (hp:CH) (m:Nat),out.length=len->gc hp c=.rw g 1 (Bq out)->out.length+A5 l<=1000000000000 ->
 AO prog 49 hp m [.ds (Ab Bi l),.rw c g len] ((c,.rw (g+((Cy l out).length - len)) 1 (Bq (Cy l out)))::hp) m (.rw c (g+((Cy l out).length - len)) (Cy l out).length)
theorem LZ (l:List Pk) (h:∀p∈l,Lab p.picks):Lab l:=by
 intro out c g len hp m hn hk hw
 subst hn
 obtain ⟨L,hL⟩:=A7 (Cy l out)
 have Ck:=En l out
 have AZ:=Ew l
 rw [hL] at Ck ⊢
 refine PB func49 (tA cc49) (tB cc49) (tC cc49) rfl trivial (fun hf=>OJ hf (by assumption)) fun hf=>?_;unfold ck49
 have hc:=OJ hf hk
 simp only [hk,go_sem]
 refine loop (fun p:Nat×(List qB×Nat)×Nat=>⟨[(1,.rw c p.2.1.2 p.2.1.1.length),(7,.ds (Ab Bi l)),(8,.i .i64 l.length),(9,.i .i64 p.1)],(c,.rw p.2.1.2 1 (Bq p.2.1.1))::hp,p.2.2⟩)
  (fun p=>p.1<=l.length∧m<=p.2.2∧L=Cy (l.drop p.1) p.2.1.1∧p.2.1.2+out.length=g+p.2.1.1.length∧out.length<=p.2.1.1.length∧p.2.1.1.length+A5 (l.drop p.1)<=1000000000000) (fun p=>l.length - p.1) (0,(out,g),m) ?_ ?_ (fun ⟨j,⟨o,G⟩,n⟩ hj=>?_)
 .exact ⟨by simp,by simp,hL.symm,by simp,by simp,hw⟩
 .refine AR ?_ (Hd.cons ?_ (Hd.refl _)) (zna _)
  all_goals
   simp only [hk,go_sem]
 dsimp only at hj
 obtain ⟨Cq,Be,At,Cl,CU,JI⟩:=hj
 simp only [go_sem]
 refine Af (fun d=>?_) (fun d=>?_)
 .have d:j<l.length:=by simpa using d
  obtain ⟨x,ex⟩:∃x,l[j]?=some x:=⟨l[j],by simp [d]⟩
  have hx:=h x (zla ex)
  rw [A2 ex] at At JI
  rw [Cy,Ns] at At
  rw [A5,Ci] at JI
  have z1:¬n=c:=by omega
  have z3:¬c=n:=by omega
  have z2:m<=n:=Be
  simp only [z1,z2,d,Ad (Aa Bi ex),go_sem]
  refine AH.f (fun _=>FM o x.label (by omega) c G _ rfl _ _ (by simp only [AA,iN z1];simp)) ?_
  simp only [z1,z2,z3,go_sem]
  refine Af (fun q=>?_) (fun q=>?_)
  .have q:¬x.label=⟨#[]⟩∧¬0<=ix x.label o 0:=by
    simp only [zd,Bool.not_eq_true',decide_eq_false_iff_not] at q
    exact q
   rw [Cm,iP q] at At
   have Gh:=En x.picks (o++[x.label])
   simp only [zld,zlc,zle,z1g] at Gh
   simp only [z1,z2,z3,go_sem]
   refine ⟨by omega,by omega,?_⟩
   refine Ac.x (hx (o++[x.label]) c (G+1) (o.length+1) _ _ (by simp) (Ar _ _ _) (by simp;omega)) ?_
   simp only [z1,z2,z3,go_sem]
   refine ⟨(j+1,(Cy x.picks (o++[x.label]),G+(1+((Cy x.picks (o++[x.label])).length - (o.length+1)))),_),?_,?_,AR ?_ (Hd.base (Gj hf hc) (RM ?_ fun i hi hn=>?_)) (zna _)⟩
   .exact ⟨by dsimp only;omega,by dsimp only;omega,At,by dsimp only;omega,by dsimp only;omega,by dsimp only;omega⟩
   .dsimp only;omega
   .simp only [Ao j (by omega),go_sem]
   .exact Ar _ _ _
   .simp only [AA]
    repeat rw [iN (by omega)]
  .have q:¬(¬x.label=⟨#[]⟩∧¬0<=ix x.label o 0):=fun hq=>by
    simp [hq.1] at q
    exact hq.2 q
   rw [Cm,iN q] at At
   have Gh:=En x.picks o
   simp only [z1,z2,z3,go_sem]
   refine Ac.x (hx o c G o.length _ _ rfl (by simp only [AA,iN z1];simp) (by omega)) ?_
   simp only [z1,z2,z3,go_sem]
   refine ⟨(j+1,(Cy x.picks o,G+((Cy x.picks o).length - o.length)),_),?_,?_,AR ?_ (Hd.base (Gj hf hc) (RM ?_ fun i hi hn=>?_)) (zna _)⟩
   .exact ⟨by dsimp only;omega,by dsimp only;omega,At,by dsimp only;omega,by dsimp only;omega,by dsimp only;omega⟩
   .dsimp only;omega
   .simp only [Ao j (by omega),go_sem]
   .exact Ar _ _ _
   .simp only [AA]
    repeat rw [iN (by omega)]
 .have d:j=l.length:=by simp at d;omega
  subst d
  rw [zll,Cy] at At
  subst At
  simp only [go_sem]
  have e:g+(L.length - out.length)=G:=by omega
  rw [e]
  exact ⟨fun _ _=>rfl,rfl,hc⟩
theorem We (l:List Pk):Lab l:=LZ l fun p _=>Pk.ind (Q:=fun p=>Lab p.picks) (fun v ih=>LZ v.picks ih) p
theorem XU (l:List Pk) (hw:A5 l<=1000000000000) (hp:CH) (m:Nat):Ae prog 49 hp m [.ds (Ab Bi l),.e0] (.ds (Bq (Cy l []))):=by
 obtain ⟨L,hL⟩:=A7 (Cy l [])
 have Ck:=En l []
 have AZ:=Ew l
 rw [hL] at Ck ⊢
 simp only [zle,z1g] at Ck
 refine Al func49 (tA cc49) (tB cc49) (tC cc49) rfl fun hf=>?_;unfold ck49
 simp only [go_sem]
 refine loop (fun p:Nat×(List qB×Nat)×Nat=>⟨[(1,.rw m p.2.1.2 p.2.1.1.length),(7,.ds (Ab Bi l)),(8,.i .i64 l.length),(9,.i .i64 p.1)],(m,.rw p.2.1.2 1 (Bq p.2.1.1))::hp,p.2.2⟩)
  (fun p=>p.1<=l.length∧m+1<=p.2.2∧L=Cy (l.drop p.1) p.2.1.1∧p.2.1.1.length+A5 (l.drop p.1)<=1000000000000) (fun p=>l.length - p.1) (0,([],0),m+1) ?_ ?_ (fun ⟨j,⟨o,G⟩,n⟩ hj=>?_)
 .exact ⟨by simp,by simp,hL.symm,by simpa using hw⟩
 .refine (By (t:=1) (m:=1) ?_).trans (Fo hf ?_ ?_ ?_ (zna _))
  all_goals simp only [go_sem]
 dsimp only at hj
 obtain ⟨Cq,Be,At,JI⟩:=hj
 simp only [go_sem]
 refine Af (fun d=>?_) (fun d=>?_)
 .have d:j<l.length:=by simpa using d
  obtain ⟨x,ex⟩:∃x,l[j]?=some x:=⟨l[j],by simp [d]⟩
  have hx:=We x.picks
  rw [A2 ex] at At JI
  rw [Cy,Ns] at At
  rw [A5,Ci] at JI
  have z1:¬n=m:=by omega
  have z3:¬m=n:=by omega
  have z2:m<=n:=by omega
  simp only [z1,z2,d,Ad (Aa Bi ex),go_sem]
  refine AH.f (fun _=>FM o x.label (by omega) m G _ rfl _ _ (by simp only [AA,iN z1];simp)) ?_
  simp only [z1,z2,z3,go_sem]
  refine Af (fun q=>?_) (fun q=>?_)
  .have q:¬x.label=⟨#[]⟩∧¬0<=ix x.label o 0:=by
    simp only [zd,Bool.not_eq_true',decide_eq_false_iff_not] at q
    exact q
   rw [Cm,iP q] at At
   have Gh:=En x.picks (o++[x.label])
   simp only [zld,zlc,zle,z1g] at Gh
   simp only [z1,z2,z3,go_sem]
   refine ⟨by omega,by omega,?_⟩
   refine Ac.x (hx (o++[x.label]) m (G+1) (o.length+1) _ _ (by simp) (Ar _ _ _) (by simp;omega)) ?_
   simp only [z1,z2,z3,go_sem]
   refine ⟨(j+1,(Cy x.picks (o++[x.label]),G+1+((Cy x.picks (o++[x.label])).length - (o.length+1))),_),?_,?_,Fo hf ?_ ?_ ?_ (zna _)⟩
   .exact ⟨by dsimp only;omega,by dsimp only;omega,At,by dsimp only;omega⟩
   .dsimp only;omega
   all_goals
    simp only [z1,z2,z3,Ao j (by omega),go_sem]
  .have q:¬(¬x.label=⟨#[]⟩∧¬0<=ix x.label o 0):=fun hq=>by
    simp [hq.1] at q
    exact hq.2 q
   rw [Cm,iN q] at At
   have Gh:=En x.picks o
   simp only [z1,z2,z3,go_sem]
   refine Ac.x (hx o m G o.length _ _ rfl (by simp only [AA,iN z1];simp) (by omega)) ?_
   simp only [z1,z2,z3,go_sem]
   refine ⟨(j+1,(Cy x.picks o,G+((Cy x.picks o).length - o.length)),_),?_,?_,Fo hf ?_ ?_ ?_ (zna _)⟩
   .exact ⟨by dsimp only;omega,by dsimp only;omega,At,by dsimp only;omega⟩
   .dsimp only;omega
   all_goals
    simp only [z1,z2,z3,Ao j (by omega),go_sem]
 .have d:j=l.length:=by simp at d;omega
  subst d
  rw [zll,Cy] at At
  subst At
  simp only [go_sem]
theorem U0 (l:List Pk) (hw:A5 l<=1000000000000) (hp:CH) (m:Nat):Ae prog 26 hp m [.ds (Ab Bi l)] (.ds (Bq (Cy l []))):=by
 refine Al func26 (tA cc26) (tB cc26) (tC cc26) rfl fun hf=>?_;unfold ck26
 simp only [go_sem]
 refine Ac.f (XU l hw _ _) ?_
 simp only [go_sem]
end
