/- Proof. Conditions: none. -/
import Derived.Test.YtgfidgoefioigaaGreatDoorIj49
noncomputable section
open List renaming mem_cons_self->z1r,mem_cons_of_mem->z16,flatMap_cons->zy,range->z2u,drop_succ_cons->za,drop_zero->ze,take_succ_cons->z7,getD_cons_zero->zk,mem_of_mem_take->z2f
open Option renaming map_some->z8,isSome_some->zb,getD_some->zc
open Nat renaming zero_le->zt,add_assoc->zd
open Go.Proofs.Tryz
open List renaming mem_of_getElem?->zla,length_cons->zlc,length_append->zld,length_nil->zle,append_assoc->zlf,cons_append->zlh,nil_append->zli,length_take->zlo,take_zero->zlr
open Nat renaming le_refl->zna
namespace Go.Proofs.YtgfidgoefioigaaGreatDoor
open Go.Eng
set_option linter.all false
set_option maxRecDepth 20000
set_option maxHeartbeats 2000000
section
variable {s:Be} {F:Ag->Be->Ag × Be} {v:Ag} {r:(List qB × List Ag) × Be} {n j:Nat} {lit:Bool} {Fl Fp:qB->List Int->Ag->Be->Ag × Be} {doc:List Aw} {t:Aw} {nm:qB}
def DY (r:Ag × Be):Prop:=r.2.1<=4097∧(r.2.2=0->r.2.1<=4096)∧r.1.Fit
theorem F6 {e:Int} (he:e≠0) (h:s.1<=4097):DY (A6,Cn e s):=⟨h,fun q=>absurd q (Fw e he s),DW⟩
theorem W7 {l:List Ag} (hF:∀x∈l,∀s:Be,s.2=0->s.1<=4096->DY (F x s)):∀s:Be,s.1<=4097->(s.2=0->s.1<=4096)->(Lf F l s).2.1<=4097∧((Lf F l s).2.2=0->(Lf F l s).2.1<=4096)∧∀x∈(Lf F l s).1,x.Fit:=by
 induction l with
 |nil=>exact fun s h1 h2=>⟨h1,h2,fun x hx=>by cases hx⟩
 |cons a l ih=>
  intro s h1 h2
  by_cases h:s.2=0
  .rw [I1 F a l s h]
   obtain ⟨g1,g2,g3⟩:=hF a (z1r ..) s h (h2 h)
   obtain ⟨i1,i2,i3⟩:=ih (fun x hx=>hF x (z16 _ hx)) (F a s).2 g1 g2
   exact ⟨i1,i2,fun x hx=>by
    rcases List.mem_cons.1 hx with rfl | hx
    .exact g3
    .exact i3 x hx⟩
  .rw [On F _ s h]
   exact ⟨h1,h2,fun x hx=>by cases hx⟩
theorem Xd (hv:v.Fit) (hF:∀x∈UA v,∀s:Be,s.2=0->s.1<=4096->DY (F x s)) (s:Be) (h1:s.1<=4097) (h2:s.2=0->s.1<=4096):DY (lsE F v s):=by
 obtain ⟨g1,g2,g3⟩:=W7 hF s h1 h2
 refine ⟨g1,g2,.mk _ ?_ (by show 0*16<=_;decide) g3⟩
 have:=Tk F (UA v) s
 have h3:(UA v).length*80<=140737488355327:=by unfold UA;split;exact hv.i;simp
 show (Lf F (UA v) s).1.length*80<=_
 omega
theorem Vj (n:qB) (hv:v.Fit) (h1:s.1<=4096):DY (Q2 n v s):=by
 unfold Q2
 have hs:s.1<=4097:=by omega
 split
 .exact ⟨hs,fun _=>h1,hv⟩
 .split
  .exact ⟨hs,fun _=>h1,hv⟩
  .split
   .exact ⟨hs,fun _=>h1,.mk _ (by show 0*80<=_;decide) (by show 0*16<=_;decide) (fun x (hx:x∈([]:List Ag))=>(by cases hx))⟩
   .exact F6 (by decide) hs
theorem Xj (lit:Bool) (t:Aw) (v:Ag) (h1:s.1<=4096):DY (enE lit t v s):=by
 unfold enE
 have hs:s.1<=4097:=by omega
 split
 .exact ⟨hs,fun _=>h1,.mk _ (by show 0*80<=_;decide) (by show 0*16<=_;decide) (fun x (hx:x∈([]:List Ag))=>(by cases hx))⟩
 .exact F6 (by decide) hs
def RJ (r:(List qB × List Ag) × Be) (n:Nat):Prop:=r.2.1<=4097∧(r.2.2=0->r.2.1<=4096)∧(∀y∈r.1.2,y.Fit)∧r.1.2.length<=n∧r.1.1.length<=n
theorem RJ.up (h:RJ r n):RJ r (n+1):=⟨h.1,h.2.1,h.2.2.1,by have:=h.2.2.2.1;omega,by have:=h.2.2.2.2;omega⟩
theorem RJ.cons (h:RJ r n) {y:Ag} (hy:y.Fit) (a:qB):RJ ((a::r.1.1,y::r.1.2),r.2) (n+1):=by
 refine ⟨h.1,h.2.1,fun x hx=>?_,?_,?_⟩
 .rcases List.mem_cons.1 hx with rfl | hx
  .exact hy
  .exact h.2.2.1 x hx
 .have:=h.2.2.2.1
  show (_::_).length<=_
  rw [zlc]
  omega
 .have:=h.2.2.2.2
  show (_::_).length<=_
  rw [zlc]
  omega
theorem XA (hv:v.Fit) (hr:v.Rng):∀(l pre:List BN) (s:Be),(∀x∈l,∀(y:Ag) (s:Be),y.Fit->y.Rng->s.2=0->s.1<=4096->DY (Fl x.tn x.tw y s))->(∀x∈l,∀s:Be,s.2=0->s.1<=4096->DY (Fp x.tn x.tw x.d s))->s.1<=4097->(s.2=0->s.1<=4096)->RJ (O8 lit Fl Fp v pre l s) l.length:=by
 intro l
 induction l with
 |nil=>exact fun pre s _ _ h1 h2=>⟨h1,h2,(fun x hx=>by cases hx),zna _,zna _⟩
 |cons x l ih=>
  intro pre s hl hp h1 h2
  by_cases h:s.2=0
  .have hi:=fun (s':Be) (a:s'.1<=4097) (b:s'.2=0->s'.1<=4096)=>ih (pre++[x]) s' (fun y hy=>hl y (z16 _ hy)) (fun y hy=>hp y (z16 _ hy)) a b
   have hg:=To hv hr x.n
   rw [O8,iP h,zlc]
   split
   .exact (hi s h1 h2).up
   .split
    .obtain ⟨g1,g2,g3⟩:=hl x (z1r ..) _ s hg.1 hg.2 h (h2 h)
     exact (hi _ g1 g2).cons g3 _
    .split
     .obtain ⟨g1,g2,g3⟩:=hp x (z1r ..) s h (h2 h)
      exact (hi _ g1 g2).cons g3 _
     .split
      .exact (hi (Cn 22 s) h1 (fun q=>absurd q (Fw 22 (by decide) s))).cons DW _
      .exact (hi s h1 h2).up
  .rw [Yb _ _ _ _ _ _ _ h]
   exact ⟨h1,h2,(fun x hx=>by cases hx),zt _,zt _⟩
theorem V4 {is:List BN} (hi:is.length<=16) (hv:v.Fit) (hr:v.Rng) (hl:∀x∈is,∀(y:Ag) (s:Be),y.Fit->y.Rng->s.2=0->s.1<=4096->DY (Fl x.tn x.tw y s)) (hp:∀x∈is,∀s:Be,s.2=0->s.1<=4096->DY (Fp x.tn x.tw x.d s)) (h1:s.1<=4096):DY (Qu lit Fl Fp is v s):=by
 unfold Qu
 split
 .obtain ⟨g1,g2,g3,g4,g5⟩:=XA (lit:=lit) hv hr is [] (SG is v.keys s) hl hp (by rw [Ny];omega) (fun _=>by rw [Ny];exact h1)
  refine ⟨g1,g2,.mk _ ?_ ?_ g3⟩
  .show (O8 lit Fl Fp v [] is (SG is v.keys s)).1.2.length*80<=_
   omega
  .show (O8 lit Fl Fp v [] is (SG is v.keys s)).1.1.length*16<=_
   omega
 .exact F6 (by decide) (by omega)
theorem Xl (hv:v.Fit) (hr:v.Rng):∀x∈UA v,x.Fit∧x.Rng:=by
 unfold UA
 split
 .exact fun x hx=>⟨hv.x hx,hr.x hx⟩
 .intro x hx
  simp at hx
  subst hx
  exact ⟨hv,hr⟩
theorem P4 (doc:List Aw) (hd:DocB doc) (k:Nat) (hk:k<=24) (ih:1<=k->∀(lit:Bool) (tn:qB) (tw:List Int) (v:Ag) (s:Be),tw.length<=1000000000->v.Fit->v.Rng->s.2=0->s.1<=4096->DY (D6 doc k lit tn tw v s)) (lit:Bool) (tn:qB) (tw:List Int) (v:Ag) (s:Be) (DG:tw.length<=1000000000) (hv:v.Fit) (hr:v.Rng) (hs:s.2=0) (Sr:s.1<=4096):DY (D6 doc (k+1) lit tn tw v s):=by
 rw [D6]
 split
 .exact F6 (by decide) (by omega)
 have QL:(if lit=true∧v.k=7 then A6 else v).Fit∧(if lit=true∧v.k=7 then A6 else v).Rng:=by
  split
  .exact ⟨DW,Vw⟩
  .exact ⟨hv,hr⟩
 obtain ⟨v',e⟩:=A5 ((if lit=true∧v.k=7 then A6 else v))
 rw [e] at QL
 have hN:=Py (25 - k) s Sr
 obtain ⟨S1,Nu⟩:=A5 (HC (25 - k) s)
 rw [Nu] at hN
 simp only [e,Nu]
 split
 .rename_i w
  exact ⟨hN.1,fun q=>absurd q w,DW⟩
 rename_i w
 have hSk:S1.2=0:=Classical.not_not.1 w
 have h4:=(hN.2 hSk).1
 have hk1:1<=k:=by have:=(hN.2 hSk).2;omega
 have ih:=ih hk1
 have il:(DM tw).length<=1000000000:=by
  unfold DM
  have:=C8 tw
  rw [List.length_tail]
  omega
 have hb:=BO (Rq hd tn)
 split
 .split
  .exact F6 (by decide) hN.1
  .exact ⟨hN.1,fun _=>h4,DW⟩
 split
 .exact Xd QL.1 (fun x hx s a b=>ih lit tn _ x s il (Xl QL.1 QL.2 x hx).1 (Xl QL.1 QL.2 x hx).2 a b) S1 hN.1 (fun _=>h4)
 split
 .exact Vj _ QL.1 h4
 split
 .exact Xj _ _ _ h4
 .exact V4 hb.2.1 QL.1 QL.2 (fun x hx y s a b c d=>ih lit _ _ y s (hb.2.2 x hx).1.1 a b c d) (fun x hx s c d=>ih true _ _ x.d s (hb.2.2 x hx).1.1 (hb.2.2 x hx).1.2.1.1 (hb.2.2 x hx).1.2.1.2 c d) h4
theorem coK (doc:List Aw) (hd:DocB doc):∀k,k<=24->CoK doc (k+1):=by
 intro k
 induction k with
 |zero=>
  intro hk lit tn tw v s DG hv hr hs Sr
  refine ⟨?_,fun hp c n h=>JI doc hd 0 hk (fun w=>absurd w (by decide)) lit tn tw v s DG hv hr hs Sr hp c n h⟩
  exact P4 doc hd 0 hk (fun w=>absurd w (by decide)) lit tn tw v s DG hv hr hs Sr
 |succ k ih=>
  intro hk lit tn tw v s DG hv hr hs Sr
  have ih:=ih (by omega)
  refine ⟨?_,fun hp c n h=>by
   have:=JI doc hd (k+1) hk (fun _=>ih) lit tn tw v s DG hv hr hs Sr hp c n h
   have e:26 - (k+1+1)=25 - (k+1):=by omega
   rw [e]
   exact this⟩
  exact P4 doc hd (k+1) hk (fun _ lit tn tw v s a b c d e=>(ih lit tn tw v s a b c d e).1) lit tn tw v s DG hv hr hs Sr
def Vs (doc:List Aw) (lit:Bool) (tn:qB) (tw:List Int) (v:Ag):Ag×Int :=
 if (D6 doc 25 lit tn tw v (0,0)).2.2=0 then ((D6 doc 25 lit tn tw v (0,0)).1,0) else (A6,(D6 doc 25 lit tn tw v (0,0)).2.2)
theorem Aax (doc:List Aw) (hd:DocB doc) (lit:Bool) (tn:qB) (tw:List Int) (v:Ag) (DG:tw.length<=1000000000) (hv:v.Fit) (hr:v.Rng):(Vs doc lit tn tw v).1.Fit:=by
 unfold Vs
 split
 .exact (coK doc hd 24 (by decide) lit tn tw v (0,0) DG hv hr rfl (by decide)).1.2.2
 .exact DW
theorem Qh (doc:List Aw) (hd:DocB doc) (lit:Bool) (tn:qB) (tw:List Int) (v:Ag) (DG:tw.length<=1000000000) (hv:v.Fit) (hr:v.Rng) (hp:CH) (c n:Nat) (h:gc hp c=BZ doc lit (0,0)) :
 AU prog 165 hp n [.bx c 0,D1 tn tw,vx v] ([(c,BZ doc lit (D6 doc 25 lit tn tw v (0,0)).2)]++hp) n (.tp [vx (Vs doc lit tn tw v).1,.i .i64 (Vs doc lit tn tw v).2]):=by
 have Dg:(∀k,n<=k->gc hp k=.no)->wsLt n [(c,BZ doc lit (D6 doc 25 lit tn tw v (0,0)).2)]:=fun hf=>FSw (DD h hf)
 obtain ⟨⟨f1,f2,f3⟩,f4⟩:=coK doc hd 24 (by decide) lit tn tw v (0,0) DG hv hr rfl (by decide)
 obtain ⟨RR,A9⟩:=A5 (Vs doc lit tn tw v)
 rw [A9]
 unfold Vs at A9
 obtain ⟨Y,hY⟩:=A5 (D6 doc 25 lit tn tw v (0,0))
 have f4:∀(hp:CH) (c n:Nat),gc hp c=BZ doc lit (0,0)->AU prog 176 hp n [.bx c 0,D1 tn tw,vx v,.i .i64 1] ([(c,BZ doc lit (D6 doc 25 lit tn tw v (0,0)).2)]++hp) n (vx (D6 doc 25 lit tn tw v (0,0)).1):=f4
 rw [hY] at Dg A9 ⊢
 simp only [hY] at f4
 refine BR func165 (tA cc165) (tB cc165) (tC cc165) rfl Dg fun hf=>?_;unfold ck165
 have l1:=DD h hf
 simp (disch:=omega) only [go_sem]
 refine Ac.x (f4 _ c _ (by (repeat rw [Ai _ _ (by omega)]);exact h)) ?_
 simp only [BZ,zlh,zli]
 have k1:¬n+3=c:=by omega
 have k2:¬c=n+3:=by omega
 by_cases w:Y.2.2=0
 .rw [iP w] at A9
  subst A9
  simp (disch:=omega) only [k1,k2,dT w,go_sem]
  refine BK (Ax _ _ _) fun j hj j1=>?_
  repeat rw [Ai _ _ (by omega)]
 .rw [iN w] at A9
  subst A9
  have k3:¬n+2=c:=by omega
  simp (disch:=omega) only [k1,k2,dF w,go_sem]
  refine ⟨k3,BK (Ax _ _ _) fun j hj j1=>?_⟩
  repeat rw [Ai _ _ (by omega)]
theorem R0 (doc:List Aw) (hd:DocB doc) (tn:qB) (tw:List Int) (v:Ag) (DG:tw.length<=1000000000) (hv:v.Fit) (hr:v.Rng) (hp:CH) (n:Nat):Af prog 167 hp n [B0 doc,D1 tn tw,vx v] (.tp [vx (Vs doc false tn tw v).1,.i .i64 (Vs doc false tn tw v).2]):=by
 have hR:=fun (Al:CH) (c:Nat) (e:gc Al c=BZ doc false (0,0)) (n':Nat)=>Qh doc hd false tn tw v DG hv hr Al c n' e
 obtain ⟨RR,A9⟩:=A5 (Vs doc false tn tw v)
 simp only [A9] at hR
 rw [A9]
 refine Aj func167 (tA cc167) (tB cc167) (tC cc167) rfl fun hf=>?_;unfold ck167
 simp (disch:=omega) only [go_sem]
 refine Ac.x (hR _ (n+4) (Ax _ _ _) _) ?_
 simp only [BZ,zlh,zli]
 simp (disch:=omega) only [go_sem]
theorem N4 (doc:List Aw) (hd:DocB doc) (tn:qB) (tw:List Int) (v:Ag) (DG:tw.length<=1000000000) (hv:v.Fit) (hr:v.Rng):∃R:Ag×Int,∀(hp:CH) (n:Nat),Af prog 135 hp n [B0 doc,D1 tn tw,vx v,.ag [.i .i64 0,.i .i64 0,.s ⟨#[]⟩,.e0,.e0]] (.tp [vx R.1,.i .i64 R.2]):=by
 have hR:=fun (Al:CH) (c:Nat) (e:gc Al c=BZ doc true (0,0)) (n':Nat)=>Qh doc hd true tn tw v DG hv hr Al c n' e
 obtain ⟨RR,A9⟩:=A5 (Vs doc true tn tw v)
 simp only [A9] at hR
 have hY:=HT doc hd.l tn
 obtain ⟨ib,hib⟩:=A5 (JF doc tn)
 rw [hib] at hY
 have hM:=fun (Al:CH) (c:Nat) (e:gc Al c=BZ doc true (0,0)) (n':Nat)=>Iq (hp:=Al) e v n'
 obtain ⟨mb,hmb⟩:=A5 ((true&&decide (v.k=7)))
 simp only [hmb] at hM
 refine ⟨if ib=true∧mb=true then (A6,8) else RR,fun hp n=>?_⟩
 refine Aj func135 (tA cc135) (tB cc135) (tC cc135) rfl fun hf=>?_;unfold ck135
 simp (disch:=omega) only [go_sem]
 refine Ac.f (hY _ _) ?_
 simp (disch:=omega) only [go_sem]
 refine AH.f (fun _=>hM _ (n+5) (by (repeat rw [Ai _ _ (by omega)]);exact Ax _ _ _) _) ?_
 cases ib<;>cases mb
 case' true.true=>
  simp (disch:=omega) only [go_sem]
 all_goals
  simp (disch:=omega) only [go_sem]
  refine Ac.x (hR _ (n+5) (by (repeat rw [Ai _ _ (by omega)]);exact Ax _ _ _) _) ?_
  simp only [BZ,zlh,zli]
  simp (disch:=omega) only [go_sem]
theorem HU (doc:List Aw) (t:Aw) (f:Cy):(GH doc t f).length<=33:=by
 unfold GH
 cases D3 t.fields f.n with
 |none=>simp [NK]
 |some x=>
  unfold NK
  have h1:=Cj (GT (t.n++⟨#[46]⟩++f.n) (Bm x.args)) (Bm f.args)
  have h2:=Cj (Lm (t.n++⟨#[46]⟩++f.n) (Bm f.args)) (Bm x.args)
  have h3:=Dv f.args
  have h4:=Dv x.args
  have h5:(if Ys doc x.tn (J0 x.tw) f.tn (J0 f.tw)=true then ([]:List Dn) else [.mk 10 (t.n++⟨#[46]⟩++f.n)]).length<=1:=by split<;>simp
  rw [zld,zld]
  omega
theorem E7 {U β:Type} {A:U->List β} {B:Nat} (h:∀x,(A x).length<=B) (l:List U):(l.flatMap A).length<=l.length*B:=by
 induction l with
 |nil=>simp
 |cons a l ih=>rw [zy,zld,zlc,Nat.add_mul];have:=h a;omega
theorem NL (hd:DocB doc) (n:qB):((Az doc n).getD Dz).fields.length<=64∧∀f∈((Az doc n).getD Dz).fields,FldB f:=by
 cases h:Az doc n with
 |none=>exact ⟨by simp [Dz,Aw.fields_mk],by intro f hf;simp [Dz,Aw.fields_mk] at hf⟩
 |some t=>exact ⟨(hd.d t (List.mem_of_find?_eq_some h)).fl,(hd.d t (List.mem_of_find?_eq_some h)).f⟩
def V6 (doc:List Aw) (t:Aw) (im:List qB) (nm:qB) (j:Nat):List Dn :=
 if PY doc nm 2=0 then (if nm∈im.take j then [.mk 7 t.n] else ((Az doc nm).getD Dz).fields.flatMap (GH doc t)) else [.mk (PY doc nm 2) t.n]
def Mf (doc:List Aw) (t:Aw) (im:List qB) (n:Nat):List Dn:=(z2u n).flatMap fun j=>match im[j]? with | some nm=>V6 doc t im nm j | none=>[]
theorem Vy {im:List qB} (e:im[j]?=some nm):Mf doc t im (j+1)=Mf doc t im j++V6 doc t im nm j:=by
 unfold Mf
 rw [List.range_succ,List.flatMap_append]
 simp [e]
theorem Wk (hd:DocB doc) (t:Aw) (im:List qB) (nm:qB) (j:Nat):(V6 doc t im nm j).length<=2112:=by
 unfold V6
 have h1:=E7 (HU doc t) ((Az doc nm).getD Dz).fields
 have h2:=(NL hd nm).1
 split
 .split
  .simp
  .omega
 .simp
theorem Q8 (hd:DocB doc) (t:Aw) (im:List qB) (n:Nat):(Mf doc t im n).length<=n*2112:=by
 have:=E7 (A:=fun j=>match im[j]? with | some nm=>V6 doc t im nm j | none=>[]) (B:=2112) (fun j=>by
  cases im[j]? with
  |none=>simp
  |some nm=>exact Wk hd t im nm j) (z2u n)
 rw [List.length_range] at this
 exact this
theorem OY (doc:List Aw) (hd:DocOk doc) (hb:DocB doc) (t:Aw) (ht:DfnB t) (hp:CH) (m:Nat):Af prog 87 hp m [B0 doc,Mc t] (.ds (Ab AR (Mf doc t (Hu t.impl) (Hu t.impl).length))):=by
 have V8:=ht.im
 have VV:=ht.il
 have G0:=hb.l
 obtain ⟨im,hime⟩:=A5 (Hu t.impl)
 rw [hime] at V8 VV ⊢
 obtain ⟨RR,A9⟩:=A5 (Mf doc t im im.length)
 rw [A9]
 refine Aj func87 (tA cc87) (tB cc87) (tC cc87) rfl fun hf=>?_;unfold ck87
 simp (disch:=omega) only [V8,go_sem]
 refine loop (fun p:RY=>match p with
  | .mk j g L n=>⟨[(2,.bx m 0),(3,.bx (m+1) 0),(5,.rw (m+2) g L.length),(6,.i .i64 j)],(m+2,.rw g 2 (Ab AR L))::(m,.bx [.ds (Ab B8 doc)])::(m+1,.bx [.i .i64 t.k,.s t.n,.ds (Bd im),.ds t.dirs,.ds (Ab Bv t.fields),.ds t.members,.ds t.inputs])::hp,n⟩)
  (fun p=>match p with | .mk j g L n=>j<=im.length∧m+3<=n∧L=Mf doc t im j) (fun p=>match p with | .mk j g L n=>im.length - j) (.mk 0 0 [] (m+3)) ?_ ?_ (fun p hj=>?_)
 .exact ⟨zt _,zna _,rfl⟩
 .dsimp only
  refine (Bo (t:=5) (m:=2) (by (simp (disch:=omega) only [go_sem]))).trans (Fm hf ?_ ?_ ?_ ?_ (fun a ha c7=>?_) (zna _))
  .simp (disch:=omega) only [go_sem]
  .simp (disch:=omega) only [go_sem]
   try rfl
  .simp (disch:=omega) only [go_sem]
  .simp (disch:=omega) only [go_sem]
  .repeat rw [Ai _ _ (by omega)]
 obtain ⟨j,g,L,n⟩:=p
 obtain ⟨Cg,Bc,As⟩:=hj
 have BS:(Ab AR L).length=L.length:=Ao _ _
 have QK:L.length<=135168:=by rw [As];have:=Q8 hb t im j;omega
 have BC:m<=n:=by omega
 dsimp only
 simp (disch:=omega) only [go_sem]
 refine Ae (fun q=>?_) (fun q=>?_)
 case' refine_2=>
  have q:j=im.length:=by simp at q;omega
  subst q
  rw [A9] at As
  subst As
  simp (disch:=omega) only [BC,BS,zna,go_sem]
 have q:j<im.length:=by simpa using q
 obtain ⟨nm,en⟩:∃x,im[j]?=some x:=⟨im[j],by simp [q]⟩
 have hK:=MT doc hd.len nm 2
 have hH:=Od (im.take j) nm (by rw [zlo];omega)
 have hFi:=BI doc hd.len nm
 have C6:=Vy (doc:=doc) (t:=t) en
 unfold V6 at C6
 obtain ⟨e0,he0⟩:=A5 (PY doc nm 2)
 rw [he0] at hK C6
 obtain ⟨hx1,GX⟩:=NL hb nm
 obtain ⟨X,hX⟩:=A5 (Az doc nm)
 rw [hX] at hFi hx1 GX C6
 unfold Eh at hFi
 obtain ⟨x,hx⟩:=A5 (X.getD Dz)
 rw [hx] at hFi hx1 GX C6
 have z3:0<=(j:Int)∧(j:Int)<=(im.length:Int):=by omega
 have k1:(L.length+1)*24<=140737488355328:=by omega
 have k2:L.length<=9223372036854775806:=by omega
 simp (disch:=omega) only [q,Ad (Aa Cz en),go_sem]
 refine Aq.f (fun _ _ _=>hK _ _) ?_
 by_cases c0:e0=0
 .subst c0
  rw [iP rfl] at C6
  have eg:(Bd im)[j]?=some [.s nm]:=Aa Cz en
  simp (disch:=omega) only [q,Ad (Aa Cz en),z3.1,z3.2,decide_true,eg,zlc,zle,za,ze,z7,zlr,z8,zb,zc,zk,and_self,Bl,true_and,go_sem]
  refine AC.f (fun _ _ _=>hH _ _) ?_
  by_cases c1:nm∈im.take j
  .rw [iP c1] at C6
   simp (disch:=omega) only [q,Ad (Aa Cz en),dT c1,BS,k1,k2,Av,eg,zlc,zle,za,ze,z7,zlr,z8,zb,zc,zk,and_self,Bl,true_and,go_sem]
   refine ⟨.mk (j+1) (g+1) (L++[.mk 7 t.n]) (n+200),⟨show j+1<=im.length by omega,show m+3<=n+200 by omega,?_⟩,by show im.length - (j+1)<im.length - j;omega,?_⟩
   .show _=_
    rw [C6,<-As]
   dsimp only
   refine Fm hf ?_ ?_ ?_ ?_ (fun a ha c7=>?_) (by omega)
   .simp (disch:=omega) only [Ap j (by omega),zld,zlc,zle,go_sem]
    try simp [zd]
   .simp (disch:=omega) only [Ay,Av,zlf,go_sem]
    try simp [zlf]
   .simp (disch:=omega) only [go_sem]
   .simp (disch:=omega) only [go_sem]
   .repeat rw [Ai _ _ (by omega)]
  .rw [iN c1] at C6
   simp (disch:=omega) only [q,Ad (Aa Cz en),dF c1,eg,zlc,zle,za,ze,z7,zlr,z8,zb,zc,zk,and_self,Bl,true_and,go_sem]
   refine Aq.f (fun _ _ _=>hFi _ _) ?_
   simp (disch:=omega) only [q,Ad (Aa Cz en),go_sem]
   have u1:¬n+31=m:=by omega
   have u2:¬n+32=m:=by omega
   refine ⟨⟨u1,u2⟩,?_⟩
   refine loop (fun p:RY=>match p with
    | .mk i g' L' n'=>⟨[(2,.bx m 0),(3,.bx (m+1) 0),(5,.rw (m+2) g' L'.length),(6,.i .i64 j),(8,.bx (n+32) 0),(10,.i .i64 i)],(m+2,.rw g' 2 (Ab AR L'))::(n+32,.bx [.i .i64 x.k,.s x.n,.ds x.impl,.ds x.dirs,.ds (Ab Bv x.fields),.ds x.members,.ds x.inputs])::(m,.bx [.ds (Ab B8 doc)])::(m+1,.bx [.i .i64 t.k,.s t.n,.ds (Bd im),.ds t.dirs,.ds (Ab Bv t.fields),.ds t.members,.ds t.inputs])::hp,n'⟩)
    (fun p=>match p with | .mk i g' L' n'=>i<=x.fields.length∧n+33<=n'∧L'=L++(x.fields.take i).flatMap (GH doc t)) (fun p=>match p with | .mk i g' L' n'=>x.fields.length - i) (.mk 0 g L (n+100)) ?_ ?_ (fun p hi=>?_)
   .exact ⟨zt _,show n+33<=n+100 by omega,by simp⟩
   .dsimp only
    refine Kd hf ?_ ?_ ?_ ?_ ?_ (fun a ha c7=>?_) (by omega)
    .simp (disch:=omega) only [go_sem]
    .simp (disch:=omega) only [go_sem]
    .simp (disch:=omega) only [go_sem]
    .simp (disch:=omega) only [go_sem]
    .simp (disch:=omega) only [go_sem]
    .repeat rw [Ai _ _ (by omega)]
   obtain ⟨i,g',L',n'⟩:=p
   obtain ⟨LX,HG,Dw⟩:=hi
   have hLl':(Ab AR L').length=L'.length:=Ao _ _
   have Fn:=E7 (HU doc t) (x.fields.take i)
   have hLn':L'.length<=137280:=by rw [Dw,zld];rw [zlo] at Fn;omega
   dsimp only
   simp (disch:=omega) only [go_sem]
   refine Ae (fun q2=>?_) (fun q2=>?_)
   .have q2:i<x.fields.length:=by simpa using q2
    obtain ⟨f,ef⟩:∃y,x.fields[i]?=some y:=⟨x.fields[i],by simp [q2]⟩
    have QU:=GX f (zla ef)
    have hR:=Q4 doc hd t ht f QU
    have hRl:=HU doc t f
    have hSn:=Bs (A:=GH doc t) ef
    obtain ⟨F,hF⟩:=A5 (GH doc t f)
    rw [hF] at hR hRl hSn
    simp only [Mc,flx] at hR
    rw [V8] at hR
    have k3:(L'.length+F.length)*24<=140737488355328:=by omega
    have k4:L'.length+F.length<=9223372036854775807:=by omega
    have DI:(Ab AR F).length=F.length:=Ao _ _
    simp (disch:=omega) only [q2,Ad (Aa Bv ef),go_sem]
    refine Aq.f (fun _ _ _=>hR _ _) ?_
    simp (disch:=omega) only [q2,Ad (Aa Bv ef),hLl',DI,k3,k4,Ay,true_and,go_sem]
    refine ⟨.mk (i+1) (g'+1) (L'++F) (n'+200),⟨show i+1<=x.fields.length by omega,show n+33<=n'+200 by omega,?_⟩,by show x.fields.length - (i+1)<x.fields.length - i;omega,?_⟩
    .show _=_
     rw [hSn,Dw,zlf]
    dsimp only
    refine Kd hf ?_ ?_ ?_ ?_ ?_ (fun a ha c7=>?_) (by omega)
    .simp (disch:=omega) only [Ap i (by omega),zld,zlc,zle,go_sem]
    .simp (disch:=omega) only [Ay,Av,zlf,go_sem]
    .simp (disch:=omega) only [go_sem]
    .simp (disch:=omega) only [go_sem]
    .simp (disch:=omega) only [go_sem]
    .repeat rw [Ai _ _ (by omega)]
   have q2:i=x.fields.length:=by simp at q2;omega
   subst q2
   rw [List.take_length] at Dw
   simp (disch:=omega) only [go_sem]
   refine ⟨.mk (j+1) (g') (L') (n'+200),⟨show j+1<=im.length by omega,show m+3<=n'+200 by omega,?_⟩,by show im.length - (j+1)<im.length - j;omega,?_⟩
   .show _=_
    rw [C6,<-As,Dw]
   dsimp only
   refine Fm hf ?_ ?_ ?_ ?_ (fun a ha c7=>?_) (by omega)
   .simp (disch:=omega) only [Ap j (by omega),zld,zlc,zle,go_sem]
    try simp [zd]
   .simp (disch:=omega) only [Ay,Av,zlf,go_sem]
    try simp [zlf]
   .simp (disch:=omega) only [go_sem]
   .simp (disch:=omega) only [go_sem]
   .repeat rw [Ai _ _ (by omega)]
 .rw [iN c0] at C6
  simp (disch:=omega) only [q,Ad (Aa Cz en),z3.1,z3.2,dF c0,true_and,go_sem]
  refine AC.no ?_
  simp (disch:=omega) only [q,Ad (Aa Cz en),dF c0,BS,k1,k2,true_and,Av,go_sem]
  refine ⟨.mk (j+1) (g+1) (L++[.mk e0 t.n]) (n+200),⟨show j+1<=im.length by omega,show m+3<=n+200 by omega,?_⟩,by show im.length - (j+1)<im.length - j;omega,?_⟩
  .show _=_
   rw [C6,<-As]
  dsimp only
  refine Fm hf ?_ ?_ ?_ ?_ (fun a ha c7=>?_) (by omega)
  .simp (disch:=omega) only [Ap j (by omega),zld,zlc,zle,go_sem]
   try simp [zd]
  .simp (disch:=omega) only [Ay,Av,zlf,go_sem]
   try simp [zlf]
  .simp (disch:=omega) only [go_sem]
  .simp (disch:=omega) only [go_sem]
  .repeat rw [Ai _ _ (by omega)]
theorem Pi (ms:List (List AV)) (hm:∀e∈ms,∃x y,e=[AV.s x,.ds y]) (hl:ms.length<=1000000000000) (s:qB) (hp:CH) (m:Nat):Af prog 134 hp m [.ag [.i .i64 0,.s ⟨#[]⟩,.e0,.e0,.e0,.ds ms,.e0],.s s] (.b (decide (s∈F7 ms))):=by
 obtain ⟨R,hR⟩:=A5 (decide (s∈F7 ms))
 rw [hR]
 have Kb:∀e∈ms,e.length=2:=fun e he=>by obtain ⟨x,y,rfl⟩:=hm e he;rfl
 have Kb:=eq_true Kb
 refine Aj func134 (tA cc134) (tB cc134) (tC cc134) rfl fun hf=>?_;unfold ck134
 simp only [go_sem]
 refine loop (fun p:Nat×Nat=>⟨[(1,.s s),(2,.bx m 0),(5,.i .i64 p.1)],(m,.bx [.i .i64 0,.s ⟨#[]⟩,.e0,.e0,.e0,.ds ms,.e0])::hp,p.2⟩) (fun p=>p.1<=ms.length∧m+1<=p.2∧R=decide (s∈F7 (ms.drop p.1))) (fun p=>ms.length - p.1) (0,m+1) ?_ ?_ (fun ⟨j,n⟩ hj=>?_)
 .exact ⟨by simp,by simp,hR.symm⟩
 .refine Gu hf ?_ ?_ ?_ (zna _)
  all_goals (simp (disch:=omega) only [go_sem])
 dsimp only at hj
 obtain ⟨Cg,Bc,As⟩:=hj
 simp (disch:=omega) only [go_sem]
 refine Ae (fun q=>?_) (fun q=>?_)
 .have q:j<ms.length:=by simpa using q
  obtain ⟨e,ee⟩:∃e,ms[j]?=some e:=⟨ms[j],by simp [q]⟩
  obtain ⟨x,y,rfl⟩:=hm e (zla ee)
  rw [A2 ee] at As
  have As:R=decide (s∈x::F7 (ms.drop (j+1))):=As
  simp (disch:=omega) only [q,Kb,Ad ee,go_sem]
  refine Ae (fun c=>?_) (fun c=>?_)
  .have c:x=s:=by simpa using c
   have:R=true:=by rw [As];simp [c]
   subst this
   simp (disch:=omega) only [go_sem]
  .have c:¬x=s:=by simpa using c
   have c':¬s=x:=fun e=>c e.symm
   simp (disch:=omega) only [go_sem]
   refine ⟨(j+1,_),⟨by dsimp only;omega,by dsimp only;omega,by rw [As];simp [c']⟩,by dsimp only;omega,Gu hf ?_ ?_ ?_ (zna _)⟩
   all_goals
    simp (disch:=omega) only [Ap j (by omega),go_sem]
 .have q:j=ms.length:=by simp at q;omega
  subst q
  rw [List.drop_length] at As
  have:R=false:=by rw [As];simp [F7]
  subst this
  simp (disch:=omega) only [go_sem]
def UQ (doc:List Aw) (t:Aw) (nm:qB) (j:Nat):List Dn :=
 if PY doc nm 1=0 then (if nm∈F7 (t.members.take j) then [.mk 7 (t.n++⟨#[46]⟩++nm)] else []) else [.mk (PY doc nm 1) (t.n++⟨#[46]⟩++nm)]
def Mk (doc:List Aw) (t:Aw) (n:Nat):List Dn:=(z2u n).flatMap fun j=>match (t.members[j]?:Option (List AV)) with | some [AV.s nm,AV.ds _]=>UQ doc t nm j | _=>[]
theorem UP {y:List (List AV)} (e:t.members[j]?=some [.s nm,.ds y]):Mk doc t (j+1)=Mk doc t j++UQ doc t nm j:=by
 unfold Mk
 rw [List.range_succ,List.flatMap_append]
 simp [e]
theorem XV (doc:List Aw) (t:Aw) (nm:qB) (j:Nat):(UQ doc t nm j).length<=1:=by
 unfold UQ
 split
 .split<;>simp
 .simp
theorem OM (doc:List Aw) (t:Aw) (n:Nat):(Mk doc t n).length<=n*1:=by
 have:=E7 (A:=fun j=>match (t.members[j]?:Option (List AV)) with | some [AV.s nm,AV.ds _]=>UQ doc t nm j | _=>[]) (B:=1) (fun j=>by
  split
  .exact XV ..
  .simp) (z2u n)
 rw [List.length_range] at this
 exact this
theorem R7 (doc:List Aw) (hd:DocOk doc) (t:Aw) (ht:DfnB t) (hp:CH) (m:Nat):Af prog 88 hp m [B0 doc,Mc t] (.ds (Ab AR (Mk doc t t.members.length))):=by
 have Kb:=ht.ml
 have hm:=ht.m
 have htn:=ht.n
 obtain ⟨RR,A9⟩:=A5 (Mk doc t t.members.length)
 rw [A9]
 have TV:∀e∈t.members,e.length=2:=fun e he=>by obtain ⟨x,y,rfl,_⟩:=hm e he;rfl
 have TV:=eq_true TV
 refine Aj func88 (tA cc88) (tB cc88) (tC cc88) rfl fun hf=>?_;unfold ck88
 simp (disch:=omega) only [go_sem]
 refine loop (fun p:RY=>match p with
  | .mk j g L n=>⟨[(2,.bx m 0),(3,.bx (m+1) 0),(5,.rw (m+2) g L.length),(6,.i .i64 j)],(m+2,.rw g 2 (Ab AR L))::(m,.bx [.ds (Ab B8 doc)])::(m+1,.bx [.i .i64 t.k,.s t.n,.ds t.impl,.ds t.dirs,.ds (Ab Bv t.fields),.ds t.members,.ds t.inputs])::hp,n⟩)
  (fun p=>match p with | .mk j g L n=>j<=t.members.length∧m+3<=n∧L=Mk doc t j) (fun p=>match p with | .mk j g L n=>t.members.length - j) (.mk 0 0 [] (m+3)) ?_ ?_ (fun p hj=>?_)
 .exact ⟨zt _,zna _,rfl⟩
 .dsimp only
  refine (Bo (t:=5) (m:=2) (by (simp (disch:=omega) only [go_sem]))).trans (Fm hf ?_ ?_ ?_ ?_ (fun a ha c7=>?_) (zna _))
  .simp (disch:=omega) only [go_sem]
  .simp (disch:=omega) only [go_sem]
   try rfl
  .simp (disch:=omega) only [go_sem]
  .simp (disch:=omega) only [go_sem]
  .repeat rw [Ai _ _ (by omega)]
 obtain ⟨j,g,L,n⟩:=p
 obtain ⟨Cg,Bc,As⟩:=hj
 have BS:(Ab AR L).length=L.length:=Ao _ _
 have QK:L.length<=64:=by rw [As];have:=OM doc t j;omega
 have BC:m<=n:=by omega
 dsimp only
 simp (disch:=omega) only [go_sem]
 refine Ae (fun q=>?_) (fun q=>?_)
 case' refine_2=>
  have q:j=t.members.length:=by simp at q;omega
  subst q
  rw [A9] at As
  subst As
  simp (disch:=omega) only [BC,BS,zna,go_sem]
 have q:j<t.members.length:=by simpa using q
 obtain ⟨e,ee⟩:∃x,t.members[j]?=some x:=⟨t.members[j],by simp [q]⟩
 obtain ⟨nm,y,rfl,FN⟩:=hm e (zla ee)
 have hK:=MT doc hd.len nm 1
 have hH:=Pi (t.members.take j) (fun e he=>let ⟨x,y,h,_⟩:=hm e (z2f he);⟨x,y,h⟩) (by rw [zlo];omega) nm
 have C6:=UP (doc:=doc) ee
 unfold UQ at C6
 obtain ⟨e0,he0⟩:=A5 (PY doc nm 1)
 rw [he0] at hK C6
 have z1:t.n.size+(#[46]:Array UInt8).size<=9223372036854775807:=by show t.n.size+1<=9223372036854775807;omega
 have z2:t.n.size+((#[46]:Array UInt8).size+nm.size)<=9223372036854775807:=by show t.n.size+(1+nm.size)<=9223372036854775807;omega
 have z3:0<=(j:Int)∧(j:Int)<=(t.members.length:Int):=by omega
 have k1:(L.length+1)*24<=140737488355328:=by omega
 have k2:L.length<=9223372036854775806:=by omega
 simp (disch:=omega) only [q,TV,Ad ee,go_sem]
 refine Ac.f (hK _ _) ?_
 by_cases c0:e0=0
 .subst c0
  rw [iP rfl] at C6
  simp (disch:=omega) only [q,TV,Ad ee,z3.1,z3.2,decide_true,true_and,go_sem]
  refine AH.f (fun _=>hH _ _) ?_
  by_cases c1:nm∈F7 (t.members.take j)
  .rw [iP c1] at C6
   simp (disch:=omega) only [q,TV,Ad ee,dT c1,BS,k1,k2,z1,z2,Av,true_and,go_sem]
   refine ⟨.mk (j+1) (g+1) (L++[.mk 7 (t.n++⟨#[46]⟩++nm)]) (n+200),⟨show j+1<=t.members.length by omega,show m+3<=n+200 by omega,?_⟩,by show t.members.length - (j+1)<t.members.length - j;omega,?_⟩
   .show _=_
    rw [C6,<-As]
    try simp
   dsimp only
   refine Fm hf ?_ ?_ ?_ ?_ (fun a ha c7=>?_) (by omega)
   .simp (disch:=omega) only [Ap j (by omega),zld,zlc,zle,go_sem]
    try simp [zd]
   .simp (disch:=omega) only [Ay,Av,zlf,go_sem]
    try simp [zlf]
   .simp (disch:=omega) only [go_sem]
   .simp (disch:=omega) only [go_sem]
   .repeat rw [Ai _ _ (by omega)]
  .rw [iN c1] at C6
   simp (disch:=omega) only [q,TV,Ad ee,dF c1,BS,true_and,go_sem]
   refine ⟨.mk (j+1) (g) (L) (n+200),⟨show j+1<=t.members.length by omega,show m+3<=n+200 by omega,?_⟩,by show t.members.length - (j+1)<t.members.length - j;omega,?_⟩
   .show _=_
    rw [C6,<-As]
    try simp
   dsimp only
   refine Fm hf ?_ ?_ ?_ ?_ (fun a ha c7=>?_) (by omega)
   .simp (disch:=omega) only [Ap j (by omega),zld,zlc,zle,go_sem]
    try simp [zd]
   .simp (disch:=omega) only [Ay,Av,zlf,go_sem]
    try simp [zlf]
   .simp (disch:=omega) only [go_sem]
   .simp (disch:=omega) only [go_sem]
   .repeat rw [Ai _ _ (by omega)]
 .rw [iN c0] at C6
  simp (disch:=omega) only [q,TV,Ad ee,z3.1,z3.2,dF c0,true_and,go_sem]
  refine BL ?_
  simp (disch:=omega) only [q,TV,Ad ee,dF c0,BS,k1,k2,z1,z2,Av,true_and,go_sem]
  refine ⟨.mk (j+1) (g+1) (L++[.mk e0 (t.n++⟨#[46]⟩++nm)]) (n+200),⟨show j+1<=t.members.length by omega,show m+3<=n+200 by omega,?_⟩,by show t.members.length - (j+1)<t.members.length - j;omega,?_⟩
  .show _=_
   rw [C6,<-As]
   try simp
  dsimp only
  refine Fm hf ?_ ?_ ?_ ?_ (fun a ha c7=>?_) (by omega)
  .simp (disch:=omega) only [Ap j (by omega),zld,zlc,zle,go_sem]
   try simp [zd]
  .simp (disch:=omega) only [Ay,Av,zlf,go_sem]
   try simp [zlf]
  .simp (disch:=omega) only [go_sem]
  .simp (disch:=omega) only [go_sem]
  .repeat rw [Ai _ _ (by omega)]
def HN (doc:List Aw) (t:Aw):List Dn:=if t.k=1 then Mf doc t (Hu t.impl) (Hu t.impl).length else if t.k=3 then Mk doc t t.members.length else []
theorem Qm (hb:DocB doc) (ht:DfnB t):(HN doc t).length<=135168:=by
 unfold HN
 split
 .have:=Q8 hb t (Hu t.impl) (Hu t.impl).length;have:=ht.il;omega
 .split
  .have:=OM doc t t.members.length;have:=ht.ml;omega
  .simp
theorem LL (hb:DocB doc):∀l:List Aw,(∀t∈l,DfnB t)->(l.flatMap (HN doc)).length<=l.length*135168
 | [],_=>by simp
 |t::l,h=>by
  have h1:=Qm hb (h t (z1r ..))
  have h2:=LL hb l fun t ht=>h t (z16 _ ht)
  rw [zy,zld,zlc,Nat.add_mul]
  omega
theorem X7 (doc:List Aw) (hd:DocOk doc) (hb:DocB doc) (hp:CH) (m:Nat):Af prog 44 hp m [B0 doc] (.ds (Ab AR (doc.flatMap (HN doc)))):=by
 have G0:=hb.l
 obtain ⟨RR,A9⟩:=A5 (doc.flatMap (HN doc))
 rw [A9]
 refine Aj func44 (tA cc44) (tB cc44) (tC cc44) rfl fun hf=>?_;unfold ck44
 simp (disch:=omega) only [go_sem]
 refine loop (fun p:RY=>match p with
  | .mk j g L n=>⟨[(1,.bx m 0),(3,.rw (m+1) g L.length),(4,.i .i64 j)],(m+1,.rw g 2 (Ab AR L))::(m,.bx [.ds (Ab B8 doc)])::hp,n⟩)
  (fun p=>match p with | .mk j g L n=>j<=doc.length∧m+2<=n∧L=(doc.take j).flatMap (HN doc)) (fun p=>match p with | .mk j g L n=>doc.length - j) (.mk 0 0 [] (m+2)) ?_ ?_ (fun p hj=>?_)
 .exact ⟨zt _,zna _,by simp⟩
 .dsimp only
  refine (Bo (t:=3) (m:=2) (by (simp (disch:=omega) only [go_sem]))).trans (Mb hf ?_ ?_ ?_ (fun a ha c7=>?_) (zna _))
  .simp (disch:=omega) only [go_sem]
  .simp (disch:=omega) only [go_sem]
   try rfl
  .simp (disch:=omega) only [go_sem]
  .repeat rw [Ai _ _ (by omega)]
 obtain ⟨j,g,L,n⟩:=p
 obtain ⟨Cg,Bc,As⟩:=hj
 have BS:(Ab AR L).length=L.length:=Ao _ _
 have QK:L.length<=8650752:=by rw [As];have:=LL hb (doc.take j) (fun t ht=>hb.d t (z2f ht));rw [zlo] at this;omega
 have BC:m<=n:=by omega
 dsimp only
 simp (disch:=omega) only [go_sem]
 refine Ae (fun q=>?_) (fun q=>?_)
 case' refine_2=>
  have q:j=doc.length:=by simp at q;omega
  subst q
  rw [List.take_length,A9] at As
  subst As
  simp (disch:=omega) only [BC,BS,zna,go_sem]
 have q:j<doc.length:=by simpa using q
 obtain ⟨t,et⟩:∃x,doc[j]?=some x:=⟨doc[j],by simp [q]⟩
 have ht:=hb.d t (zla et)
 have C6:=Bs (A:=HN doc) et
 have Fn:=Qm hb ht
 have hO:=OY doc hd hb t ht
 have hU:=R7 doc hd t ht
 by_cases k1:t.k=1
 .have e1:HN doc t=Mf doc t (Hu t.impl) (Hu t.impl).length:=by unfold HN;rw [iP k1]
  rw [e1] at C6 Fn
  obtain ⟨F,hF⟩:=A5 (Mf doc t (Hu t.impl) (Hu t.impl).length)
  rw [hF] at hO C6 Fn
  have DI:(Ab AR F).length=F.length:=Ao _ _
  have k3:(L.length+F.length)*24<=140737488355328:=by omega
  have k4:L.length+F.length<=9223372036854775807:=by omega
  simp (disch:=omega) only [q,Ad (Aa B8 et),dT k1,go_sem]
  refine Aq.f (fun _ _ _=>hO _ _) ?_
  simp (disch:=omega) only [q,Ad (Aa B8 et),BS,DI,k3,k4,Ay,true_and,go_sem]
  refine ⟨.mk (j+1) (g+1) (L++F) (n+200),⟨show j+1<=doc.length by omega,show m+2<=n+200 by omega,?_⟩,by show doc.length - (j+1)<doc.length - j;omega,?_⟩
  .show _=_
   rw [C6,<-As]
   try simp
  dsimp only
  refine Mb hf ?_ ?_ ?_ (fun a ha c7=>?_) (by omega)
  .simp (disch:=omega) only [Ap j (by omega),zld,zlc,zle,go_sem]
   try simp [zd]
  .simp (disch:=omega) only [Ay,Av,zlf,go_sem]
   try simp [zlf]
  .simp (disch:=omega) only [go_sem]
  .repeat rw [Ai _ _ (by omega)]
 by_cases k2:t.k=3
 .have e1:HN doc t=Mk doc t t.members.length:=by unfold HN;rw [iN k1,iP k2]
  rw [e1] at C6 Fn
  obtain ⟨F,hF⟩:=A5 (Mk doc t t.members.length)
  rw [hF] at hU C6 Fn
  have DI:(Ab AR F).length=F.length:=Ao _ _
  have k3:(L.length+F.length)*24<=140737488355328:=by omega
  have k4:L.length+F.length<=9223372036854775807:=by omega
  simp (disch:=omega) only [q,Ad (Aa B8 et),dF k1,dT k2,go_sem]
  refine Aq.f (fun _ _ _=>hU _ _) ?_
  simp (disch:=omega) only [q,Ad (Aa B8 et),BS,DI,k3,k4,Ay,true_and,go_sem]
  refine ⟨.mk (j+1) (g+1) (L++F) (n+200),⟨show j+1<=doc.length by omega,show m+2<=n+200 by omega,?_⟩,by show doc.length - (j+1)<doc.length - j;omega,?_⟩
  .show _=_
   rw [C6,<-As]
   try simp
  dsimp only
  refine Mb hf ?_ ?_ ?_ (fun a ha c7=>?_) (by omega)
  .simp (disch:=omega) only [Ap j (by omega),zld,zlc,zle,go_sem]
   try simp [zd]
  .simp (disch:=omega) only [Ay,Av,zlf,go_sem]
   try simp [zlf]
  .simp (disch:=omega) only [go_sem]
  .repeat rw [Ai _ _ (by omega)]
 .have e1:HN doc t=[]:=by unfold HN;rw [iN k1,iN k2]
  rw [e1] at C6
  simp (disch:=omega) only [q,Ad (Aa B8 et),dF k1,dF k2,go_sem]
  refine ⟨.mk (j+1) (g) (L) (n+200),⟨show j+1<=doc.length by omega,show m+2<=n+200 by omega,?_⟩,by show doc.length - (j+1)<doc.length - j;omega,?_⟩
  .show _=_
   rw [C6,<-As]
   try simp
  dsimp only
  refine Mb hf ?_ ?_ ?_ (fun a ha c7=>?_) (by omega)
  .simp (disch:=omega) only [Ap j (by omega),zld,zlc,zle,go_sem]
   try simp [zd]
  .simp (disch:=omega) only [Ay,Av,zlf,go_sem]
   try simp [zlf]
  .simp (disch:=omega) only [go_sem]
  .repeat rw [Ai _ _ (by omega)]
end
