/- Proof. Conditions: none. -/
import Derived.Test.YtgfidgoefioigaaGreatDoorCards
import Derived.Test.YtgfidgoefioigaaGreatDoorTie
import Derived.Deep.DeepHandedRow
import Derived.Test.YtgfidgoefioigaaGreatDoorIk53
noncomputable section
open List renaming sublist_append_right->z48,append_eq_nil_iff->z2l
open Go.Proofs.Tryz
open List renaming mem_of_getElem?->zla,map_cons->zln,length_map->zlv
open Nat renaming le_refl->zna
namespace Go.Proofs.YtgfidgoefioigaaGreatDoor
open Go.Eng
open Go.ChangeShapes Go.WideShapes Go.ChangeAt Go.RowKit
set_option linter.all false
theorem TG {P:Program} {W:World} {x y:String×DataW Unit} {name:String} {k:IntKind} {zs:List Int} {g:Nat} {t e:TypeId} {n:Nat}
 (hg:P.globalNamed name=some g) (NU:(P.globals[g]?).map (·.type)=some t) (ht:P.underlying t=some (.array n e)) (he:P.underlying e=some (.int k)) (hce:P.cellsOf e=1) (hct:P.cellsOf t=n)
 (h:laidMet P [x,y,(name,Lib.tabData k zs)] W):∃t fr,W.heap[g]?=some (.cells (zs.map fun z=>Value.int k z).toArray t fr):=by
 obtain ⟨ps,⟨g1,t1,c1,f1,p1,q1,a1,a2,a3,a4,⟨g2,t2,c2,f2,p2,q2,b1,b2,b3,b4,hz,e2⟩,e1⟩,hnd,hrows⟩:=h
 have hs:q2.Sublist ps:=by
  rw [e1,e2]
  exact (z48 _ _).trans (z48 _ _)
 have ht':Lib.TabIs P W name k zs:=Lib.tabIs_of_head (rest:=[]) hg NU ht he hce hct ⟨q2,hz,hnd.sublist hs,fun b off hp=>hrows b off (hs.subset hp)⟩
 unfold Lib.TabIs World.var? at ht'
 rw [hg] at ht'
 simp only [Option.bind_some] at ht'
 split at ht'
 .rename_i cs t fr hh
  cases ht'
  exact ⟨t,fr,hh⟩
 .cases ht'
theorem Ru {w:World} (h:laidMetH prog Rows.deferralSplitsUptoRow.laid w):∀b vs,(b,vs)∈KT->∃t fr,w.heap[b]?=some (.cells vs t fr):=by
 intro b vs hb
 simp only [KT,List.mem_singleton,Prod.mk.injEq] at hb
 obtain ⟨rfl,rfl⟩:=hb
 exact TG (t:=214) (e:=207) (n:=20) (by kernel_rfl) (by kernel_rfl) (by kernel_rfl) (by kernel_rfl) (by kernel_rfl) (by kernel_rfl) h
noncomputable def Rm:DataW Unit->Array Value
 | .agg l=>(l.map fun x=>match x with | .lit (.int k z)=>Value.int k z | _=>Value.int .i64 0).toArray
 |_=>#[]
noncomputable def QE (vs:Array Value):Obj->Obj
 | .cells _ t fr=>.cells vs t fr
 |o=>o
noncomputable def It (os:Os):World :=
 { World.holding prog os ⟨#[],#[],[]⟩ with heap:=(((World.holding prog os ⟨#[],#[],[]⟩).heap.modify 0 (QE (Rm Rows.laid_internal_strconv_uint64pow10))).modify 1 (QE (Rm Rows.laid_math_bits_deBruijn32tab))).modify 2 (QE (Rm Rows.laid_math_bits_deBruijn64tab)) }
abbrev Aco:Value:=.agg #[.int .i64 0,.slice none 0 0]
abbrev Agf:Value:=.agg #[.int .i64 0,.int .i64 0,.string ⟨#[]⟩,.slice none 0 0,.slice none 0 0]
abbrev Afy:Value:=.agg #[.slice none 0 0]
set_option maxRecDepth 100000 in
theorem X3 (os:Os) (vs:Array Value):laidMet prog Rows.deferralSplitsUptoRow.laid ((It os).forCall (fun _ _=>0) ⟨#[],vs,[]⟩).memory :=
 laidMet_of_run' 8 (by kernel_rfl) (by kernel_rfl)
set_option maxRecDepth 20000
set_option maxHeartbeats 4000000
section
variable {l:List Pk} {x z v:Ag} {path:List Ag} {ps:List DM} {doc:List Av}
theorem RK:∀l:List Pk,(∀p∈l,A5 (B8 p.picks)=A5 p.picks)->A5 (B8 l)=A5 l
 | [],_=>by rw [B8]
 |p::r,h=>by
  rw [B8,A5,A5,RK r (fun q hq=>h q (by simp [hq])),Ci (GZ p),Ci p,JZ]
  show 1+A5 (B8 p.picks)+_=_
  rw [h p (by simp)]
theorem O7 (l:List Pk):A5 (B8 l)=A5 l:=RK l fun p _=>Pk.ind (Q:=fun p=>A5 (B8 p.picks)=A5 p.picks) (fun p ih=>RK p.picks ih) p
theorem Nr:∀{l:List Pk} {p:Pk},p∈B8 l->∃q∈l,p=GZ q
 | [],p,h=>by rw [B8] at h;cases h
 |q::r,p,h=>by
  rw [B8] at h
  rcases List.mem_cons.1 h with h | h
  .exact ⟨q,by simp,h⟩
  .obtain ⟨q',hq,e⟩:=Nr h
   exact ⟨q',by simp [hq],e⟩
theorem Ox (h:BQ l) (H:∀p∈l,BQ (B8 p.picks)):BQ (B8 l) :=
 .mk _ (by rw [G8];exact h.len) (fun p hp=>by
  obtain ⟨q,hq,rfl⟩:=Nr hp
  rw [JZ]
  exact show q.tw.length<=_ from h.t hq) fun p hp=>by
  obtain ⟨q,hq,rfl⟩:=Nr hp
  rw [JZ]
  exact H q hq
theorem Wj (h:BQ l):BQ (B8 l) :=
 Ox h fun p hp=>(Pk.ind (Q:=fun p=>BQ p.picks->BQ (B8 p.picks)) (fun p ih h=>Ox h fun q hq=>ih q hq (h.x hq)) p) (h.x hp)
theorem Ts:∀l:List GS,wtA l<=Df (Ab B7 l)
 | []=>by simp [wtA]
 |x::l=>by
  have h1:=Ts l
  have h2:=Ajb x.v
  simp only [vx,ET,BO] at h2
  rw [BX,Df,wtA]
  simp only [B7,BO,ET]
  omega
theorem Agk (n:Int):1<=BO (D2 n):=by simp [D2,BO,ET]
theorem RA:∀l:List Pk,(∀p∈l,wtG p<=BO (Bi p))->Id l<=Df (Ab Bi l)
 | [],_=>by simp [Id]
 |x::l,h=>by
  have h1:=RA l fun p hp=>h p (by simp [hp])
  have h2:=h x (by simp)
  rw [BX,Df,Id]
  omega
theorem Ai6 (p:Pk):wtG p<=BO (Bi p):=by
 refine Pk.ind (Q:=fun p=>wtG p<=BO (Bi p)) (fun v ih=>?_) p
 have h1:=RA v.picks ih
 have h2:=Ts v.args
 have h3:v.tw.length<=Df (Ab D2 v.tw):=Bp Agk v.tw
 rw [Ch,Rv]
 simp only [BO,ET]
 omega
theorem W7 (l:List Pk):Id l<=Df (Ab Bi l):=RA l fun p _=>Ai6 p
theorem PY {l m:List Ag} (h:l.Perm m):BF l=BF m:=by
 induction h with
 |nil=>rfl
 |cons x _ ih=>rw [BF,BF,ih]
 |swap x y l=>rw [BF,BF,BF,BF];omega
 |trans _ _ h1 h2=>rw [h1,h2]
theorem Ng:∀{xs ys:List Ag},xs.length=ys.length->(∀(i:Nat) a b,xs[i]?=some a->ys[i]?=some b->AE a=AE b)->BF xs=BF ys
 | [],[],_,_=>rfl
 |x::xs,y::ys,h,H=>by
  rw [BF,BF,H 0 x y rfl rfl,Ng (by simpa using h) fun i a b ha hb=>H (i+1) a b (by simpa using ha) (by simpa using hb)]
 | [],y::ys,h,_=>by cases h
 |x::xs,[],h,_=>by cases h
theorem Li.wt {y:Ag} (h:Li x y):AE x=AE y:=by
 induction h with
 |refl v=>rfl
 |list xs ys hl hi ih=>
  rw [A9,A9 (EB ys)]
  simp only [EB,Ag.items_mk,Ag.keys_mk]
  rw [Ng hl ih]
 |obj K L G H hp hn hi ih=>
  rw [A9,A9 (Cw L _)]
  simp only [Cw,Ag.items_mk,Ag.keys_mk]
  have h1:BF (K.map G)=BF (K.map H):=Ng (by simp) fun i a b ha hb=>by
   obtain ⟨k,hk,rfl⟩:=C6 ha
   obtain ⟨k',GC,rfl⟩:=C6 hb
   rw [hk] at GC
   cases GC
   exact ih k (zla hk)
  rw [h1,PY (hp.map H),hp.length_eq]
theorem Aav (v:Ag):AE (Cj v)=AE v:=by
 refine Ag.ind (Q:=fun v=>AE (Cj v)=AE v) (fun v ih=>?_) v
 have hm:BF (v.items.map Cj)=BF v.items:=Ng (by simp) fun i a b ha hb=>by
  obtain ⟨x,hx,rfl⟩:=C6 ha
  rw [hb] at hx
  cases hx
  exact ih b (zla hb)
 rw [Gp,A9 v]
 split
 .rename_i c
  have h1:=(Eo v.keys).map fun q=>(v.items.map Cj).getD q A8
  have h2:v.keys.length=(v.items.map Cj).length:=by rw [zlv];exact c.2
  rw [h2,H6] at h1
  rw [A9]
  simp only [Ag.items_mk,Ag.keys_mk]
  rw [PY h1,hm,zlv,G9]
 .rw [A9]
  simp only [Ag.items_mk,Ag.keys_mk]
  rw [hm]
theorem GT.grow (h:GT path ps x z):AE x<=AE z:=by
 induction h with
 |nil=>exact zna _
 |cons P ps r x y z _ _ _ hw _ ih=>omega
theorem GT.bound {B:Nat} (h:GT [] ps x z):2*AE z<=B->MgB B ps x:=by
 induction h with
 |nil x=>exact fun h=>by show AE x<=B;omega
 |cons P ps r x y z h1 _ h3 hw h ih=>
  intro hB
  have:=h.grow
  rw [List.nil_append] at h1
  refine ⟨by omega,fun _=>?_⟩
  rw [h1,h3]
  exact ih hB
theorem Xc {doc:List Av} {l:List Pk} {tn:qB} {tw:List Int} {c:Nat}:∀(xs:List Ag) (j:Nat) (path:List Ag),(∀x∈xs,∀tn tw path,AE (A6 doc x tn tw l path).1<=AE x*c)->BF ((FN (xs.map (A6 doc)) j tn tw l path).map (·.1))<=BF xs*c
 | [],j,path,_=>by rw [List.map_nil,FN,List.map_nil,BF];omega
 |x::xs,j,path,h=>by
  have h1:=h x (by simp) tn tw (path++[Ff j])
  have h2:=Xc (tn:=tn) (tw:=tw) xs (j+1) path fun y hy=>h y (by simp [hy])
  rw [zln,FN,zln,BF,BF,Nat.add_mul]
  omega
theorem VP (h6:v.k=6) {on:qB}:∀(l:List Pk),(∀p∈l,AE (A6 doc (Ba v p) p.tn p.tw p.picks (path++[CY p.key])).1<=AE v*(1+2*A5 p.picks)) ->
 BF ((Gd v.keys (v.items.map (A6 doc)) on path l).map (·.2.1))+(Gd v.keys (v.items.map (A6 doc)) on path l).length<=AE v*(2*A5 l)
 | [],_=>by simp [Gd,BF]
 |p::l,h=>by
  have h1:=h p (by simp)
  have h2:=VP h6 (on:=on) l fun q hq=>h q (by simp [hq])
  have hp:=C7 v
  have e1:AE v*(2*A5 (p::l))=AE v*(1+2*A5 p.picks)+AE v+AE v*(2*A5 l):=by
   rw [A5,Ci,show 2*(1+A5 p.picks+A5 l)=(1+2*A5 p.picks)+1+2*A5 l by omega,Nat.mul_add,Nat.mul_add,Nat.mul_one]
  rw [e1]
  by_cases c:p.on=on
  .have e:Gd v.keys (v.items.map (A6 doc)) on path (p::l)=(p,A6 doc (Ba v p) p.tn p.tw p.picks (path++[CY p.key]))::Gd v.keys (v.items.map (A6 doc)) on path l:=by
    unfold Gd
    rw [List.filter_cons_of_pos (by simp [c]),zln,FJ doc v h6]
    rfl
   rw [e,zln,BF,List.length_cons]
   dsimp only
   omega
  .have e:Gd v.keys (v.items.map (A6 doc)) on path (p::l)=Gd v.keys (v.items.map (A6 doc)) on path l:=by
    unfold Gd
    rw [List.filter_cons_of_neg (by simp [c])]
   rw [e]
   omega
theorem Afe (doc:List Av) (v:Ag):∀tn tw l path,AE (A6 doc v tn tw l path).1<=AE v*(1+2*A5 l):=by
 refine Ag.ind (Q:=fun v=>∀tn tw l path,AE (A6 doc v tn tw l path).1<=AE v*(1+2*A5 l)) (fun v ih tn tw l path=>?_) v
 have hp:=C7 v
 have h1:1<=AE v*(1+2*A5 l):=Nat.mul_pos hp (by omega)
 have hz:AE A8=1:=rfl
 refine F0 (Q:=fun r=>AE r.1<=AE v*(1+2*A5 l)) (fun s _=>h1) (fun c=>?_) (fun c5 cl=>?_) (fun c0 cl lf x hx=>?_) (fun c6 cl lf on NK hc hpo=>?_)
 .rw [H4]
  split
  .exact h1
  .exact h1
 .dsimp only [Gs]
  split
  .exact h1
  .have:=Xc (doc:=doc) (l:=l) (tn:=tn) (tw:=Cg (B0 tw)) (c:=1+2*A5 l) v.items 0 path fun x hx tn tw path=>ih x hx tn tw l path
   rw [A9 (EB _)]
   simp only [EB,Ag.items_mk,Ag.keys_mk,List.length_nil]
   have e:(1+BF v.items)*(1+2*A5 l)<=AE v*(1+2*A5 l):=Nat.mul_le_mul_right _ (by rw [A9];omega)
   rw [Nat.add_mul] at e
   omega
 .obtain ⟨_,_,e1,e2⟩:=MQ hx
  show AE x<=_
  rw [A9,e1,e2]
  simp only [BF,List.length_nil]
  omega
 .dsimp only [KH]
  split
  .exact h1
  .have:=VP (doc:=doc) c6 (on:=on) (path:=path) l fun p _=>by
    have hzz:∀tn tw l path,AE (A6 doc A8 tn tw l path).1<=AE A8*(1+2*A5 l):=fun tn tw l path=>by
     rw [I9,zFn,H4]
     split
     .show 1<=1*_;omega
     .show 1<=1*_;omega
    have a:=JW (Q:=fun x=>∀tn tw l path,AE (A6 doc x tn tw l path).1<=AE x*(1+2*A5 l)) hzz ih p.key p.tn p.tw p.picks (path++[CY p.key])
    exact Nat.le_trans a (Nat.mul_le_mul_right _ (S6 v p))
   rw [A9 (Cw _ _)]
   simp only [Cw,Ag.items_mk,Ag.keys_mk,zlv]
   rw [Nat.mul_add,Nat.mul_one]
   omega
theorem Ya (h:((Pt doc).length:Int)=0):∀t∈doc,BV t.n=false:=by
 intro t ht
 have h1:JY doc true=[]:=by
  unfold Pt at h
  split at h
  .omega
  .rename_i c
   exact List.length_eq_zero_iff.1 (by omega)
 unfold JY at h1
 have h2:=(z2l.1 h1).1
 unfold Gn at h2
 obtain ⟨j,hj⟩:=List.getElem?_of_mem ht
 have hl:=(List.getElem?_eq_some_iff.1 hj).1
 have h3:=List.flatMap_eq_nil_iff.1 h2 j (List.mem_range.2 hl)
 rw [hj] at h3
 dsimp only at h3
 unfold Gw QJ at h3
 have h4:=(z2l.1 h3).1
 have h5:=(z2l.1 (z2l.1 (z2l.1 h4).1).1).1
 unfold F7 at h5
 have h6:=(z2l.1 h5).2
 cases hb:BV t.n with
 |false=>rfl
 |true=>
  rw [iP (by simp [bfD,hb])] at h6
  cases h6
theorem Zz {k:Int} (h:Qn doc k l v=true):((Pt doc).length:Int)=0:=by
 unfold Qn at h
 simp only [Bool.and_eq_true,decide_eq_true_eq] at h
 exact h.1.1.1.1.1.2
theorem R9 (doc:List Av) (k:Int) (l:List Pk) (v:Ag) (h:SpIn doc l v) (hg:Id l<=800000000000) (hp:CH) (m:Nat):Ae prog 5 hp m [B9 doc,plx k l,vx v] (.b true):=by
 have hFt:=Abl doc h.d k l h.r h.w v h.vf
 obtain ⟨F,hF⟩:=A7 (Qn doc k l v)
 rw [hF] at hFt
 cases F with
 |false=>
  refine Al func5 (tA cc5) (tB cc5) (tC cc5) rfl fun hf=>?_;unfold ck5
  simp (disch:=omega) only [go_sem]
  refine Ac.f (hFt _ _) ?_
  simp (disch:=omega) only [go_sem]
  refine Ac.f (Wv _ _) ?_
  simp (disch:=omega) only [go_sem]
 |true=>
  obtain ⟨f1,f2,f3,f4⟩:=TD hF
  have hsc:=Ya (Zz hF)
  obtain ⟨hn,hk⟩:=Aed f1
  have sz0:=h.sz hk
  have sz:Sz (B8 l) v:=sz0.le (Wj h.p) h.vr (zna _) (by rw [O7];exact zna _)
  have hRo:=IH k
  obtain ⟨rs,HG⟩:=A7 (Gi k)
  rw [HG] at hRo
  have hPl:=TI l hg
  have hR:=sz.run h.d.ok rs
  have hwt:=Afe doc v rs [] (B8 l) []
  have hw1:AE v*(1+2*A5 (B8 l))<=4000000*4097:=Nat.mul_le_mul h.vw (by rw [O7];omega)
  have hj:=Yr (doc:=doc) hsc (root:=rs) hn f2
  obtain ⟨Q,hQ⟩:=A7 (A6 doc v rs [] (B8 l) [])
  rw [hQ] at hR hwt hj
  by_cases hb:Q.2=[]
  .obtain ⟨j1,j2,W,j3,j4⟩:=hj hb
   have Fw:=ZP (doc:=doc) (root:=rs) h.vw hk
   have hS:=Yd doc h.d.ok rs l v sz0 Fw
   have hwW:AE W<=16388000000:=by rw [j4.wt];omega
   have hM:=KJ (Ha doc rs l v).1 (Ha doc rs l v).2.2 (by omega) (j3.bound (B:=1000000000000) (by omega))
   rw [j3.all.1] at hM
   have IT:=Oe W (by omega)
   have IU:=Oe Q.1 (by omega)
   rw [j4.sort] at IT
   have hsw:=Aav Q.1
   obtain ⟨Z,hZ⟩:=A7 (Cj Q.1)
   rw [hZ] at IT IU hsw
   have hzf:=CN Z (by omega)
   have hSm:=So Z Z hzf hzf
   rw [UI,dT rfl] at hSm
   rw [j1] at hS
   obtain ⟨a,ha⟩:=A7 ((Ha doc rs l v).1)
   obtain ⟨c,hc⟩:=A7 ((Ha doc rs l v).2.2)
   rw [ha] at hS hM
   rw [hc] at hS hM Fw j2
   obtain ⟨Q1,Q2⟩:=Q
   dsimp only at hb IU
   subst hb
   have hnil:Ab Dr []=[]:=rfl
   rw [hnil] at hS
   dsimp only at hR
   rw [hnil] at hR
   refine Al func5 (tA cc5) (tB cc5) (tC cc5) rfl fun hf=>?_;unfold ck5
   simp (disch:=omega) only [go_sem]
   refine Ac.f (hFt _ _) ?_
   simp (disch:=omega) only [go_sem]
   refine Ac.f (hRo _ _) ?_
   simp (disch:=omega) only [go_sem]
   refine Au.f (fun _ _ _=>hPl _ _) ?_
   simp (disch:=omega) only [go_sem]
   refine Au.f (fun _ _ _=>hR _ _) ?_
   simp (disch:=omega) only [go_sem]
   refine Ac.f (hS _ _) ?_
   simp (disch:=omega) only [go_sem]
   refine loop (fun p:Nat×Nat=>⟨[(8,.bx (m+13) 0),(10,.bx (m+16) 0),(11,.ds []),(12,.ds (Ab DU c)),(13,.i .i64 p.1)],
    (m+16,.bx [.i .i64 a.k,.i .i64 a.n,.s a.s,.ds (Ab Aw a.items),.ds (Bq a.keys)])::(m+13,.bx [.i .i64 Q1.k,.i .i64 Q1.n,.s Q1.s,.ds (Ab Aw Q1.items),.ds (Bq Q1.keys)])::hp,p.2⟩)
    (fun p=>p.1<=c.length∧m+17<=p.2) (fun p=>c.length - p.1) (0,m+17) ?_ ?_ (fun ⟨j,n⟩ hj=>?_)
   .exact ⟨Nat.zero_le _,zna _⟩
   .refine ID hf ?_ ?_ ?_ ?_ (zna _)
    all_goals (simp (disch:=omega) only [go_sem])
   dsimp only at hj
   obtain ⟨Cq,Be⟩:=hj
   simp (disch:=omega) only [go_sem]
   refine Af (fun d=>?_) (fun d=>?_)
   .have d:j<c.length:=by simpa using d
    obtain ⟨x,ex⟩:∃x,c[j]?=some x:=⟨c[j],by simp [d]⟩
    have hx:=j2 x (zla ex)
    simp (disch:=omega) only [d,Ad (Aa DU ex),hx,hnil,go_sem]
    refine ⟨(j+1,n),⟨by dsimp only;omega,by dsimp only;omega⟩,by dsimp only;omega,ID hf ?_ ?_ ?_ ?_ (zna _)⟩
    all_goals (simp (disch:=omega) only [Ao j (by omega),go_sem])
   .have d:j=c.length:=by simp at d;omega
    subst d
    have BD:m<=n:=by omega
    simp (disch:=omega) only [BD,go_sem]
    refine Ac.f (hM _ _) ?_
    simp (disch:=omega) only [BD,go_sem]
    refine AJ.f (fun _ _ _=>IT _ _) ?_
    simp (disch:=omega) only [BD,go_sem]
    refine AJ.f (fun _ _ _=>IU _ _) ?_
    simp (disch:=omega) only [BD,go_sem]
    refine AJ.f (fun _ _ _=>hSm _ _) ?_
    simp (disch:=omega) only [BD,go_sem]
    refine AJ.f (fun _ _ _=>Wv _ _) ?_
    simp (disch:=omega) only [BD,go_sem]
  .have ED:0<Q.2.length:=List.length_pos_iff.2 hb
   have hb3:(Ab Dr Q.2).length=Q.2.length:=As _ _
   refine Al func5 (tA cc5) (tB cc5) (tC cc5) rfl fun hf=>?_;unfold ck5
   simp (disch:=omega) only [go_sem]
   refine Ac.f (hFt _ _) ?_
   simp (disch:=omega) only [go_sem]
   refine Ac.f (hRo _ _) ?_
   simp (disch:=omega) only [go_sem]
   refine Au.f (fun _ _ _=>hPl _ _) ?_
   simp (disch:=omega) only [go_sem]
   refine Au.f (fun _ _ _=>hR _ _) ?_
   simp (disch:=omega) only [hb3,go_sem]
   refine Af (fun d=>?_) (fun d=>?_)
   .simp (disch:=omega) only [go_sem]
    refine Ac.f (Wv _ _) ?_
    simp (disch:=omega) only [go_sem]
   .simp at d
    exact absurd d hb
theorem VO (αs:List AV) (h:ASs prog [24,27,31] αs) (hw:BO αs<=1048576):Ae prog 5 [] 0 αs (.b true):=by
 obtain ⟨α1,α2,α3,rfl,h1,h2,h3⟩:=Aki h
 simp only [BO] at hw
 obtain ⟨doc,k,l,v,rfl,rfl,rfl,hi⟩:=Uo h1 h2 h3 (by omega) (by omega) (by omega)
 have hp:=W7 l
 simp only [ET,BO] at hw
 exact R9 doc k l v hi (by omega) [] 0
set_option maxRecDepth 100000 in
theorem Qc (os:Os) (started:os.Started) (H:Type) (enc:TypeId×Value->H) (F:Stop.Interp) :
 ReturnsInHanded {} checked os 5 .any ((Rows.OpenSpec.upto Rows.deferralJoinsSpec).preRow enc prog f5 Rows.deferralJoinsUptoRow.domain false Rows.deferralJoinsUptoRow.laid) (((Rows.OpenSpec.upto Rows.deferralJoinsSpec).at F).post enc prog f5 false true false false):=by
 have hx:DataW.whole enc prog ((It os).forCall (fun _ _=>0) ⟨#[],#[Afy,Aco,Agf],[]⟩).memory f5.params.toList Rows.deferralJoinsSpec.vars false #[Afy,Aco,Agf].toList 8=some ([.agg [.nil],.agg [.lit (.int .i64 0),.nil],.agg [.lit (.int .i64 0),.lit (.int .i64 0),.lit (.string []),.nil,.nil]],[],[]):=by kernel_rfl
 refine returnsInHanded_of_row (C:=checked) (s:=Rows.OpenSpec.upto Rows.deferralJoinsSpec) own started (by kernel_rfl) func5
  (witness_row_at (enc:=enc) (C:=checked) false (It os) #[Afy,Aco,Agf] rfl (by kernel_rfl) (by kernel_rfl) (by kernel_rfl)
   (OpenSpec.preRow_of_cond 8 hx (by kernel_rfl) (fun k hk=>by cases hk;kernel_rfl) (by kernel_rfl) (X3 os _))) ?_
 intro W base args ds gs e8 A3 hW hc1 hc2 hc3 hL _ _
 have hg:gs=[]:=by
  obtain ⟨p,q,hA,hV,_⟩:=hW
  exact (ChangeShapes.trodVars_none hV).1
 subst hg
 have hk:Rows.uptoBulkAll ds<=1048576:=by first | (simpa [Rows.uptoSmall] using hc1 _ rfl) | (simpa [Rows.uptoSmall] using hc2 _ rfl)
 refine Yn (s:=Rows.deferralJoinsSpec) (tb:=4) Apl Ajg ?_ rfl (fun ds hl=>?_) rfl underlying4 (m:=fun αs h hb=>VO αs h (Nat.le_trans hb hk)) A3 hW (Ru hL)
 .exact Ac5 (by kernel_rfl)
 .obtain ⟨d1,d2,d3,rfl⟩:=Akt (show ds.length=3 from hl)
  exact ⟨rfl,rfl,rfl⟩
theorem UR:Rows.DeferralJoinsUptoSaid :=
 OpenClaim.holds_of_cond 5 f5 rfl rfl rfl rfl rfl rfl rfl ⟨rfl,rfl,rfl,rfl,rfl⟩ rfl rfl rfl rfl rfl (by kernel_rfl) func5 (by kernel_rfl)
  (of_decide_eq_true (by kernel_rfl)) (by unfold Func.isWrapper;first | (rw [iP (by decide +kernel)];kernel_rfl) | (rw [iN (by decide +kernel)];exact ⟨rfl,rfl⟩))
  (fun os started H enc _ F=>by rw [OpenClaim.pre_eq_preRow];exact Qc os started H enc F)
theorem QG (f:FuncId) (fn:Func) (hf:Tryz.pinned.checked.prog.funcNamed Rows.deferralJoinsUptoRow.func=some f) (hfn:Tryz.pinned.checked.prog.funcs[f]?=some fn) :
 false=Tryz.pinned.checked.prog.looks []∧∀(j:Nat) t,fn.params[j]?=some t->Tryz.pinned.checked.prog.wantsStandIn t=false:=by
 obtain rfl:f=5:=Option.some.inj ((show prog.funcNamed Rows.deferralJoinsUptoRow.func=some 5 by kernel_rfl).symm.trans hf) |>.symm
 obtain rfl:fn=f5:=(Option.some.inj (func5.symm.trans hfn)).symm
 refine ⟨by kernel_rfl,fun j t ht=>?_⟩
 have key:∀t∈f5.params.toList,prog.wantsStandIn t=false:=by
  have key:(f5.params.toList.all fun t=>!prog.wantsStandIn t)=true:=by kernel_rfl
  intro t ht;simpa using List.all_eq_true.1 key t ht
 exact key t (Array.mem_toList_iff.2 (Array.mem_of_getElem? ht))
theorem djoi_holds:Rows.DeferralJoinsUptoCardSaid :=
 Claim7.holds_tied_plain_at .later [] _ _ _ _ UR (fun _ h=>by cases h) (by kernel_rfl) (fun _ h=>by cases h) deferralJoinsUpto_row_tie rfl ⟨rfl,rfl⟩ (by kernel_rfl) rfl QG (by kernel_rfl)
end
