/- Proof. Conditions: none. -/
import Derived.Test.YtgfidgoefioigaaGreatDoorIi53
open Go.Proofs.Tryz
open Nat renaming le_refl→zna
namespace Go.Proofs.YtgfidgoefioigaaGreatDoor
open Go.Eng
set_option linter.all false
set_option maxRecDepth 20000
set_option maxHeartbeats 4000000
def Ago (q:Pk):Prop:=∀(raw d:Ak) (path:List Ak) (hp:CH) (c n:Nat),raw.Fit→Bu raw≤100000000→d.Fit→path.length≤2000000000→(raw.k=5∨raw.k=6→path.length+Bu raw≤1000000000)→Ah prog 98 hp n [.bx c 0,vx raw,pkx q,vx d,.ds (Ad A2 path)] (.tp [])
theorem Vv (q:Pk) (H:QZ q.picks):Ago q:=by
 intro raw
 refine Ak.ind (Q:=fun raw=>∀(d:Ak) (path:List Ak) (hp:CH) (c n:Nat),raw.Fit→Bu raw≤100000000→d.Fit→path.length≤2000000000→(raw.k=5∨raw.k=6→path.length+Bu raw≤1000000000)→Ah prog 98 hp n [.bx c 0,vx raw,pkx q,vx d,.ds (Ad A2 path)] (.tp [])) (fun raw ih d path hp c n hr hw hd JG hb=>?_) raw
 have hri:=hr.i
 have hdi:=hd.i
 by_cases k5:raw.k=5∧d.k=5
 .have hb:=hb (.inl k5.1)
  refine Am func98 (by kernel_rfl) cc98 cr98 rfl fun hf=>?_;unfold ck98
  simp (disch:=omega) only [Aa,decide_eq_true k5.1,decide_eq_true k5.2,go_sem]
  refine loop (fun p:Nat × Nat=>⟨[(0,.bx c 0),(4,.ds (Ad A2 path)),(6,.bx n 0),(7,.bx (n+1) 0),(8,.bx (n+2) 0),(10,.i .i64 p.1)],
     (n,.bx [.i .i64 raw.k,.i .i64 raw.n,.s raw.s,.ds (Ad A2 raw.items),.ds (Bv raw.keys)])::(n+1,.bx [.s q.key,.s q.on,.s q.name,.ds (Ad BC q.args),.s q.tn,.ds (Ad Dx q.tw),.s q.label,.i .i64 q.initial,.ds (Ad Bo q.picks)])::(n+2,.bx [.i .i64 d.k,.i .i64 d.n,.s d.s,.ds (Ad A2 d.items),.ds (Bv d.keys)])::hp,p.2⟩)
   (fun p=>p.1≤raw.items.length∧n+3≤p.2) (fun p=>raw.items.length - p.1) (0,n+3) ?_ ?_ (fun ⟨j,n'⟩ hj=>?_)
  .exact ⟨Nat.zero_le _,zna _⟩
  .refine Ac ?_ (Ae.sub (Ae.cons ?_ (Ae.cons ?_ (Ae.cons ?_ (Ae.base hf fun a ha hax=>?_))))) (zna _)
   .simp (disch:=omega) only [Aa,go_sem]
   .simp (disch:=omega) only [Aa,go_sem]
   .simp (disch:=omega) only [Aa,go_sem]
   .simp (disch:=omega) only [Aa,go_sem]
   .repeat rw [Aq _ _ (by omega)]
  dsimp only at hj
  obtain ⟨Cm,Ba⟩:=hj
  simp (disch:=omega) only [Aa,go_sem]
  refine Ai (fun g=>?_) (fun g=>?_)
  case' refine_2 =>
   simp (disch:=omega) only [Aa,go_sem]
  have g:j<raw.items.length∧j<d.items.length:=by simpa using g
  obtain ⟨g1,g2⟩:=g
  obtain ⟨x,ex⟩:∃x,raw.items[j]?=some x:=⟨raw.items[j],by simp [g1]⟩
  obtain ⟨y,ey⟩:∃x,d.items[j]?=some x:=⟨d.items[j],by simp [g2]⟩
  have SB:=List.mem_of_getElem? ex
  have hxw:=Cq SB
  have hvw:=Bn raw
  have hyf:=hd.x (List.mem_of_getElem? ey)
  have hX:=fun Ao n'=>ih x SB y (path++[Oi (j:Nat)]) Ao c n' (hr.x SB) (by omega) hyf (by simp;omega) (fun _=>by simp;omega)
  have hI:=LN (j:Nat)
  have hJ:=PE path [Oi (j:Nat)] (by simp;omega)
  simp (disch:=omega) only [Aa,g1,g2,Ag (Ab A2 ex),Ag (Ab A2 ey),go_sem]
  refine A3.f (fun _ _ _=>hI _ _) ?_
  simp (disch:=omega) only [Aa,g1,g2,Ag (Ab A2 ex),Ag (Ab A2 ey),go_sem]
  refine A3.f (fun _ _ _=>hJ _ _) ?_
  simp (disch:=omega) only [Aa,g1,g2,Ag (Ab A2 ex),Ag (Ab A2 ey),go_sem]
  refine A3.f (fun _ _ _=>hX _ _) ?_
  simp (disch:=omega) only [Aa,g1,g2,Ag (Ab A2 ex),Ag (Ab A2 ey),go_sem]
  refine ⟨(j+1,n'+60),⟨show j+1≤raw.items.length by omega,show n+3≤n'+60 by omega⟩,by show raw.items.length - (j+1)<raw.items.length - j;omega,Ac ?_ (Ae.sub (Ae.cons ?_ (Ae.cons ?_ (Ae.cons ?_ (Ae.base hf fun a ha hax=>?_))))) (by dsimp only;omega)⟩
  .simp (disch:=omega) only [Aa,At j (by omega),go_sem]
  .simp (disch:=omega) only [Aa,go_sem]
  .simp (disch:=omega) only [Aa,go_sem]
  .simp (disch:=omega) only [Aa,go_sem]
  .repeat rw [Aq _ _ (by omega)]
 by_cases k6:raw.k=6∧d.k=6
 .have hb:=hb (.inr k6.1)
  have hV:=fun Ao n'=>H raw d path Ao c n' ⟨hr,hw,hd,hb⟩ k6.1
  have n5:¬raw.k=5:=by rw [k6.1];decide
  refine Am func98 (by kernel_rfl) cc98 cr98 rfl fun hf=>?_;unfold ck98
  simp (disch:=omega) only [Aa,decide_eq_false n5,decide_eq_true k6.1,decide_eq_true k6.2,go_sem]
  refine Af.f (hV _ _) ?_
  simp (disch:=omega) only [Aa,go_sem]
 .refine Am func98 (by kernel_rfl) cc98 cr98 rfl fun hf=>?_;unfold ck98
  by_cases a5:raw.k=5
  .have n5:¬d.k=5:=fun h=>k5 ⟨a5,h⟩
   have n6:¬raw.k=6:=by rw [a5];decide
   simp (disch:=omega) only [Aa,decide_eq_true a5,decide_eq_false n5,decide_eq_false n6,go_sem]
  .by_cases a6:raw.k=6
   .have n6:¬d.k=6:=fun h=>k6 ⟨a6,h⟩
    simp (disch:=omega) only [Aa,decide_eq_false a5,decide_eq_true a6,decide_eq_false n6,go_sem]
   .simp (disch:=omega) only [Aa,decide_eq_false a5,decide_eq_false a6,go_sem]
theorem Kq (q:Pk) (hi:q.initial=-1) (H:QZ q.picks):Adp q:=by
 intro v data path hp c n hz v6
 obtain ⟨hvf,hvw,hd,JG⟩:=hz
 have hGr:=IL v hvf q.key
 have hGd:=IL data hd q.key
 unfold Na at hGr hGd
 have hTx:=Iv q.key
 have hJ:=PE path [Hp q.key] (by simp;omega)
 have raw_l:=WA v q
 have raw_t:=VC v q
 have raw_f:(Il v q).Fit:=NI hvf q.key
 have don_f:(Il data q).Fit:=NI hd q.key
 have hGr:∀hp m,Ah prog 96 hp m [vx v,.s q.key] (.tp [vx (Il v q),.b (AF v q.key).isSome]):=hGr
 have hGd:∀hp m,Ah prog 96 hp m [vx data,.s q.key] (.tp [vx (Il data q),.b (AF data q.key).isSome]):=hGd
 obtain ⟨raw,hraw⟩:∃x,Il v q=x:=⟨_,rfl⟩
 obtain ⟨don,hdon⟩:∃x,Il data q=x:=⟨_,rfl⟩
 rw [hraw] at hGr raw_l raw_t raw_f
 rw [hdon] at hGd don_f
 obtain ⟨b1,hb1⟩:∃b,(AF v q.key).isSome=b:=⟨_,rfl⟩
 obtain ⟨b2,Eo⟩:∃b,(AF data q.key).isSome=b:=⟨_,rfl⟩
 rw [hb1] at hGr
 rw [Eo] at hGd
 have hW:=fun Ao n'=>Vv q H raw don (path++[Hp q.key]) Ao c n' raw_f (by omega) don_f (by simp;omega) (fun h=>by have:=raw_t h;simp;omega)
 refine Am func56 (by kernel_rfl) cc956 cr956 rfl fun hf=>?_;unfold ck956
 simp (disch:=omega) only [Aa,go_sem]
 refine Af.f (hGr _ _) ?_
 simp (disch:=omega) only [Aa,go_sem]
 refine Af.f (hGd _ _) ?_
 simp (disch:=omega) only [Aa,go_sem]
 refine Af.f (hTx _ _) ?_
 simp (disch:=omega) only [Aa,go_sem]
 refine Af.f (hJ _ _) ?_
 simp (disch:=omega) only [Aa,decide_eq_true hi,go_sem]
 refine Af.f (hW _ _) ?_
 simp (disch:=omega) only [Aa,go_sem]
theorem Ajo (l:List Pk) (hp:Pl l) (hf:BQ l):QZ l:=by
 have key:∀p:Pk,Pl p.picks→BQ p.picks→QZ p.picks:=fun p=>Pk.ind (Q:=fun p=>Pl p.picks→BQ p.picks→QZ p.picks) (fun p ih h hf=>K9 p.picks hf.len (fun q hq=>(h.p q hq).1) fun q hq=>Kq q (h.p q hq).2 (ih q hq (h.x q hq) (hf.x hq))) p
 exact K9 l hf.len (fun q hq=>(hp.p q hq).1) fun q hq=>Kq q (hp.p q hq).2 (key q (hp.x q hq) (hf.x hq))
theorem Rk (doc:List Az) (hdoc:DocOk doc) (root:ByteArray) (l:List Pk) (JG:Pl l) (v:Ak) (sz:Sz l v) (hp:CH) (m:Nat) :
  Ah prog 9 hp m [B5 doc,.s root,.ds (Ad Bo l),vx v] (.tp [vx (Be doc v root [] l []).1,.ds (Ad CZ (Be doc v root [] l []).2),.ds []]):=by
 have hvw:=sz.w
 have hvf:=sz.fit
 have hPr:=Ph l (by have:=sz.k;omega)
 have hCu:=Ai3 l sz.p v (by omega)
 have hRu:=sz.cut.run hdoc root
 obtain ⟨o1,o2,o3⟩:=sz.cut.prb (doc:=doc) root
 have hVi:=Ajo l JG sz.p v
 rw [UQ JG] at hPr
 rw [ZI doc JG,UQ JG] at hRu o1 o2 o3
 obtain ⟨Q,hQ⟩:∃Q,Be doc v root [] l []=Q:=⟨_,rfl⟩
 rw [hQ] at hRu o1 o2 o3 ⊢
 have hVi:=fun Ao c n'=>hVi Q.1 [] Ao c n' ⟨hvf,by omega,o2,by simp;omega⟩
 refine Am func9 (by kernel_rfl) cc909 cr909 rfl fun hf=>?_;unfold ck909
 simp (disch:=omega) only [Aa,go_sem]
 refine A3.f (fun _ _ _=>hPr _ _) ?_
 simp (disch:=omega) only [Aa,go_sem]
 refine A3.f (fun _ _ _=>hCu _ _) ?_
 simp (disch:=omega) only [Aa,go_sem]
 refine A3.f (fun _ _ _=>hRu _ _) ?_
 simp (disch:=omega) only [Aa,go_sem]
 refine Tv (Dy (c:=m+17) (i:=1) (m:=8) (cs:=[.ds (Ad BB doc),.e0]) ?_ rfl) ?_
 .simp (disch:=omega) only [Aa,go_sem]
 simp only [List.set_cons_succ,List.set_cons_zero]
 by_cases k6:v.k=6∧Q.1.k=6
 .simp (disch:=omega) only [Aa,decide_eq_true k6.1,decide_eq_true k6.2,go_sem]
  refine Af.x (AI.e0d (i:=4) (args':=[.bx (m+17) 0,vx v,.ds (Ad Bo l),vx Q.1,.ds []]) rfl rfl (hVi _ _ _ k6.1).to) ?_
  simp (disch:=omega) only [Aa,go_sem]
 .by_cases k1:v.k=6
  .have k2:¬Q.1.k=6:=fun h=>k6 ⟨k1,h⟩
   simp (disch:=omega) only [Aa,decide_eq_true k1,decide_eq_false k2,go_sem]
  .simp (disch:=omega) only [Aa,decide_eq_false k1,go_sem]
theorem Ot:∀l:List Pk,(∀p∈l,A8 (BF p.picks)=A8 p.picks)→A8 (BF l)=A8 l
 | [],_=>by rw [BF]
 | p::r,h=>by
  rw [BF,A8,A8,Ot r (fun q hq=>h q (by simp [hq])),CD (Te p),CD p,H1]
  show 1+A8 (BF p.picks)+_=_
  rw [h p (by simp)]
theorem TD (l:List Pk):A8 (BF l)=A8 l:=Ot l fun p _=>Pk.ind (Q:=fun p=>A8 (BF p.picks)=A8 p.picks) (fun p ih=>Ot p.picks ih) p
theorem Lm:∀{l:List Pk} {p:Pk},p∈BF l→∃q∈l,p=Te q
 | [],p,h=>by rw [BF] at h;cases h
 | q::r,p,h=>by
  rw [BF] at h
  rcases List.mem_cons.1 h with h | h
  .exact ⟨q,by simp,h⟩
  .obtain ⟨q',hq,e⟩:=Lm h
   exact ⟨q',by simp [hq],e⟩
theorem MV {l:List Pk} (h:BQ l) (H:∀p∈l,BQ (BF p.picks)):BQ (BF l) :=
 .mk _ (by rw [Fo];exact h.len) (fun p hp=>by
  obtain ⟨q,hq,rfl⟩:=Lm hp
  rw [H1]
  exact show q.tw.length≤_ from h.t hq) fun p hp=>by
  obtain ⟨q,hq,rfl⟩:=Lm hp
  rw [H1]
  exact H q hq
theorem TW {l:List Pk} (h:BQ l):BQ (BF l) :=
 MV h fun p hp=>(Pk.ind (Q:=fun p=>BQ p.picks→BQ (BF p.picks)) (fun p ih h=>MV h fun q hq=>ih q hq (h.x hq)) p) (h.x hp)
theorem Ou (doc:List Az) (k:Int) (l:List Pk) (v:Ak) (h:SpIn doc l v) (hg:Hh l≤800000000000) (hp:CH) (m:Nat):Ah prog 4 hp m [B5 doc,plx k l,vx v] (.b true):=by
 have hFt:=Xz doc h.d k l h.r h.w v h.vf
 obtain ⟨F,hF⟩:∃F,Sh doc k l v=F:=⟨_,rfl⟩
 rw [hF] at hFt
 cases F with
 | false =>
  refine Am func4 (by kernel_rfl) cc4 cr4 rfl fun hf=>?_;unfold ck4
  simp (disch:=omega) only [Aa,go_sem]
  refine Af.f (hFt _ _) ?_
  simp (disch:=omega) only [Aa,go_sem]
  refine Af.f (XI _ _) ?_
  simp (disch:=omega) only [Aa,go_sem]
 | true =>
  obtain ⟨f1,f2,f3,f4⟩:=Sk hF
  obtain ⟨hn,hk⟩:=YP f1
  have sz0:=h.sz hk
  have sz:Sz (BF l) v:=sz0.le (TW h.p) h.vr (zna _) (by rw [TD];exact zna _)
  have hRo:=H8 k
  obtain ⟨rs,GG⟩:∃s,FG k=s:=⟨_,rfl⟩
  rw [GG] at hRo
  have hPl:=QW l hg
  have hS:=Rk doc h.d.ok rs (BF l) (Acv l) v sz
  have hR:=sz.run h.d.ok rs
  have hvw:=sz.w
  have e3:=(LL doc v sz.fit rs [] (BF l) [] sz.p (by simp)).mono (m:=100000000000) (by rw [List.length_nil];omega)
  have e1:=FQ doc v rs [] (BF l) []
  have e2:=sz.c
  obtain ⟨Q,hQ⟩:∃Q,Be doc v rs [] (BF l) []=Q:=⟨_,rfl⟩
  rw [hQ] at hS hR e3 e1
  have hSm:=LH Q.1 Q.1 e3.1 e3.1
  rw [Kz,decide_eq_true rfl] at hSm
  have hPb:=OR Q.2 ⟨by omega,fun p hp=>⟨by have:=(e3.2 p hp).1;omega,(e3.2 p hp).2⟩⟩
  refine Am func4 (by kernel_rfl) cc4 cr4 rfl fun hf=>?_;unfold ck4
  simp (disch:=omega) only [Aa,go_sem]
  refine Af.f (hFt _ _) ?_
  simp (disch:=omega) only [Aa,go_sem]
  refine Af.f (hRo _ _) ?_
  simp (disch:=omega) only [Aa,go_sem]
  refine Af.f (hPl _ _) ?_
  simp (disch:=omega) only [Aa,go_sem]
  refine Af.f (hS _ _) ?_
  simp (disch:=omega) only [Aa,go_sem]
  refine Af.f (hR _ _) ?_
  simp (disch:=omega) only [Aa,go_sem]
  refine EL (Af.f (hSm _ _) ?_)
  simp (disch:=omega) only [Aa,go_sem]
  refine EL (Af.f (hPb _ _) ?_)
  simp (disch:=omega) only [Aa,go_sem]
  refine EL (Af.f (XI _ _) ?_)
  simp (disch:=omega) only [Aa,go_sem]
open Go.ChangeShapes Go.WideShapes Go.ChangeAt Go.RowKit
theorem PK:∀l:List FZ,wtA l≤CG (Ad BC l)
 | []=>by simp [wtA]
 | x::l=>by
  have h1:=PK l
  have h2:=Ac1 x.v
  simp only [vx,Ez,BG] at h2
  rw [BT,CG,wtA]
  simp only [BC,BG,Ez]
  omega
theorem YH (n:Int):1≤BG (Dx n):=by simp [Dx,BG,Ez]
theorem O2:∀l:List Pk,(∀p∈l,WX p≤BG (Bo p))→Hh l≤CG (Ad Bo l)
 | [],_=>by simp [Hh]
 | x::l,h=>by
  have h1:=O2 l fun p hp=>h p (by simp [hp])
  have h2:=h x (by simp)
  rw [BT,CG,Hh]
  omega
theorem Afj (p:Pk):WX p≤BG (Bo p):=by
 refine Pk.ind (Q:=fun p=>WX p≤BG (Bo p)) (fun v ih=>?_) p
 have h1:=O2 v.picks ih
 have h2:=PK v.args
 have h3:v.tw.length≤CG (Ad Dx v.tw):=Bk YH v.tw
 rw [Cg,OJ]
 simp only [BG,Ez]
 omega
theorem UJ (l:List Pk):Hh l≤CG (Ad Bo l):=O2 l fun p _=>Afj p
theorem Us (αs:List AV) (h:ASs prog [24,27,31] αs) (hw:BG αs≤1048576):Ah prog 4 [] 0 αs (.b true):=by
 obtain ⟨α1,α2,α3,rfl,h1,h2,h3⟩:=Adw h
 simp only [BG] at hw
 obtain ⟨doc,k,l,v,rfl,rfl,rfl,hi⟩:=S5 h1 h2 h3 (by omega) (by omega) (by omega)
 have hp:=UJ l
 simp only [Ez,BG] at hw
 exact Ou doc k l v hi (by omega) [] 0
set_option maxRecDepth 100000 in
theorem MP (os:Os) (started:os.Started) (H:Type) (enc:TypeId × Value→H) (F:Stop.Interp) :
  ReturnsInHanded {} checked os 4 .any ((Rows.OpenSpec.upto Rows.deferralWholeSpec).preRow enc prog f4 Rows.deferralWholeUptoRow.domain false Rows.deferralWholeUptoRow.laid) (((Rows.OpenSpec.upto Rows.deferralWholeSpec).at F).post enc prog f4 false true false false):=by
 have hx:DataW.whole enc prog ((Hz os).forCall (fun _ _=>0) ⟨#[],#[YF,YM,Yw],[]⟩).memory f4.params.toList Rows.deferralWholeSpec.vars false #[YF,YM,Yw].toList 8=some ([.agg [.nil],.agg [.lit (.int .i64 0),.nil],.agg [.lit (.int .i64 0),.lit (.int .i64 0),.lit (.string []),.nil,.nil]],[],[]):=by kernel_rfl
 refine returnsInHanded_of_row (C:=checked) (s:=Rows.OpenSpec.upto Rows.deferralWholeSpec) own started (by kernel_rfl) func4
  (witness_row_at (enc:=enc) (C:=checked) false (Hz os) #[YF,YM,Yw] rfl (by kernel_rfl) (by kernel_rfl) (by kernel_rfl)
   (OpenSpec.preRow_of_cond 8 hx (by kernel_rfl) (fun k hk=>by cases hk;kernel_rfl) (by kernel_rfl) (Uy os _))) ?_
 intro W base args ds gs before A4 hW hc1 hc2 hc3 hL _ _
 have hg:gs=[]:=by
  obtain ⟨p,q,hA,hV,_⟩:=hW
  exact (ChangeShapes.trodVars_none hV).1
 subst hg
 have hk:Rows.uptoBulkAll ds≤1048576:=by first | (simpa [Rows.uptoSmall] using hc1 _ rfl) | (simpa [Rows.uptoSmall] using hc2 _ rfl)
 refine Vn (s:=Rows.deferralWholeSpec) (tb:=4) Ajg Adn ?_ rfl (fun ds hl=>?_) rfl underlying4 (m:=fun αs h hb=>Us αs h (Nat.le_trans hb hk)) A4 hW (OL hL)
 .exact Z3 (by kernel_rfl)
 .obtain ⟨d1,d2,d3,rfl⟩:=Adb (show ds.length=3 from hl)
  exact ⟨rfl,rfl,rfl⟩
theorem RY:Rows.DeferralWholeUptoSaid :=
 OpenClaim.holds_of_cond 4 f4 rfl rfl rfl rfl rfl rfl rfl ⟨rfl,rfl,rfl,rfl,rfl⟩ rfl rfl rfl rfl rfl (by kernel_rfl) func4 (by kernel_rfl)
  (of_decide_eq_true (by kernel_rfl)) (by unfold Func.isWrapper;first | (rw [if_pos (by decide +kernel)];kernel_rfl) | (rw [if_neg (by decide +kernel)];exact ⟨rfl,rfl⟩))
  (fun os started H enc _ F=>by rw [OpenClaim.pre_eq_preRow];exact MP os started H enc F)
theorem Pq (f:FuncId) (fn:Func) (hf:Tryz.pinned.checked.prog.funcNamed Rows.deferralWholeUptoRow.func=some f) (hfn:Tryz.pinned.checked.prog.funcs[f]?=some fn) :
  false=Tryz.pinned.checked.prog.looks []∧∀(j:Nat) t,fn.params[j]?=some t→Tryz.pinned.checked.prog.wantsStandIn t=false:=by
 obtain rfl:f=4:=Option.some.inj ((show prog.funcNamed Rows.deferralWholeUptoRow.func=some 4 by kernel_rfl).symm.trans hf) |>.symm
 obtain rfl:fn=f4:=(Option.some.inj (func4.symm.trans hfn)).symm
 refine ⟨by kernel_rfl,fun j t ht=>?_⟩
 have key:∀t∈f4.params.toList,prog.wantsStandIn t=false:=by
  have key:(f4.params.toList.all fun t=>!prog.wantsStandIn t)=true:=by kernel_rfl
  intro t ht;simpa using List.all_eq_true.1 key t ht
 exact key t (Array.mem_toList_iff.2 (Array.mem_of_getElem? ht))
theorem dwho_holds:Rows.DeferralWholeUptoCardSaid :=
 Claim7.holds_tied_plain_at .later [] _ _ _ _ RY (fun _ h=>by cases h) (by kernel_rfl) (fun _ h=>by cases h) deferralWholeUpto_row_tie rfl ⟨rfl,rfl⟩ (by kernel_rfl) rfl Pq (by kernel_rfl)
end Go.Proofs.YtgfidgoefioigaaGreatDoor
