/- Proof. Conditions: none. -/
import Derived.Test.YtgfidgoefioigaaGreatDoorIk29
open List renaming mem_of_getElem?->zg,sum_cons->z2h,drop_eq_nil_of_le->z2k
open Go.Proofs.Tryz
open List renaming length_append->zld,map_cons->zln
open Nat renaming le_refl->zna,le_trans->znc
namespace Go.Proofs.YtgfidgoefioigaaGreatDoor
open Go.Eng
set_option linter.all false
set_option maxRecDepth 20000
section
variable {l picks:List Pk} {doc:List Av} {v:Ag} {tn:qB} {path:List Ag} {w:List Int}
def N4:List Int->Prop
 | []=>True
 | [_]=>True
 |a::b::r=>¬(a=1∧b=1)∧N4 (b::r)
inductive KK:List Pk->Prop
 | mk (l:List Pk):(∀(i j:Nat) p q,i<j->l[i]?=some p->l[j]?=some q->¬(p.on=q.on∧p.key=q.key))->(∀p∈l,N4 p.tw)->(∀p∈l,KK p.picks)->KK l
theorem KK.d:KK l->∀(i j:Nat) p q,i<j->l[i]?=some p->l[j]?=some q->¬(p.on=q.on∧p.key=q.key) | .mk _ h _ _=>h
theorem KK.r:KK l->∀p∈l,N4 p.tw | .mk _ _ h _=>h
theorem KK.x:KK l->∀p∈l,KK p.picks | .mk _ _ _ h=>h
theorem KK.nodup (h:KK l) (on:qB):((l.filter fun p=>decide (p.on=on)).map Pk.key).Nodup:=by
 have key:∀(l:List Pk),(∀(i j:Nat) p q,i<j->l[i]?=some p->l[j]?=some q->¬(p.on=q.on∧p.key=q.key))->((l.filter fun p=>decide (p.on=on)).map Pk.key).Nodup:=by
  intro l
  induction l with
  |nil=>intro _;simp
  |cons x l ih=>
   intro hd
   have h2:=ih fun i j p q v8 hp hq=>hd (i+1) (j+1) p q (by omega) (by simpa using hp) (by simpa using hq)
   by_cases c:x.on=on
   .rw [List.filter_cons_of_pos (by simp [c]),zln,List.nodup_cons]
    refine ⟨fun hm=>?_,h2⟩
    obtain ⟨y,hy,e⟩:=List.mem_map.1 hm
    obtain ⟨hy1,hy2⟩:=List.mem_filter.1 hy
    obtain ⟨j,hj⟩:=List.getElem?_of_mem hy1
    exact hd 0 (j+1) x y (by omega) rfl (by simpa using hj) ⟨by simp at hy2;rw [c,hy2],e.symm⟩
   .rw [List.filter_cons_of_neg (by simp [c])]
    exact h2
 exact key l h.d
theorem N5:∀(fs:List GW) (j:Nat) (tn:qB) (tw:List Int) (picks:List Pk) (path:List Ag) (r:Ge),r∈FN fs j tn tw picks path->∃(i:Nat) (f:GW),fs[i]?=some f∧r=f tn tw picks (path++[Ff (j+i:Nat)])∧(FN fs j tn tw picks path)[i]?=some r
 | [],j,tn,tw,picks,path,r,h=>by rw [FN] at h;cases h
 |f::fs,j,tn,tw,picks,path,r,h=>by
  rw [FN] at h
  rcases List.mem_cons.1 h with rfl | h
  .exact ⟨0,f,rfl,rfl,by rw [FN];exact List.getElem?_cons_zero⟩
  .obtain ⟨i,g,h1,h2,h3⟩:=N5 fs (j+1) tn tw picks path r h
   refine ⟨i+1,g,by simpa using h1,?_,by rw [FN];simpa using h3⟩
   rw [h2]
   have:(j+1+i:Nat)=j+(i+1):=by omega
   rw [this]
theorem JE:∀(fs:List GW) (j:Nat) (tn:qB) (tw:List Int) (picks:List Pk) (path:List Ag) (i:Nat),(FN fs j tn tw picks path)[i]?=(fs[i]?).map fun f=>f tn tw picks (path++[Ff (j+i:Nat)])
 | [],j,tn,tw,picks,path,i=>by rw [FN];simp
 |f::fs,j,tn,tw,picks,path,0=>by rw [FN,List.getElem?_cons_zero,List.getElem?_cons_zero];rfl
 |f::fs,j,tn,tw,picks,path,i+1=>by
  rw [FN,List.getElem?_cons_succ,List.getElem?_cons_succ,JE fs (j+1)]
  have:(j+1+i:Nat)=j+(i+1):=by omega
  rw [this]
theorem F0 {tw:List Int} {Q:Ge->Prop} (h1:∀s,(v.k≠0)->Q (FV path s)) (h2:v.k=0->Q (H4 tw path))
 (h3:v.k=5->Ca (B0 tw)=true->Q (Gs (v.items.map (A6 doc)) tn (Cg (B0 tw)) picks path)) (h4:v.k≠0->Ca (B0 tw)=false->CX doc tn=true->∀x,Ho doc tn v=some x->Q (x,[]))
 (h5:v.k=6->Ca (B0 tw)=false->CX doc tn=false->∀on,typO v=some on->FU doc tn=true->on∈Dj doc tn->Q (KH v.keys (v.items.map (A6 doc)) on picks path)):Q (A6 doc v tn tw picks path):=by
 rw [EL,NF]
 split
 .rename_i c;exact h1 _ (by omega)
 split
 .rename_i c;exact h2 c
 rename_i c9 c0
 split
 .rename_i c
  split
  .rename_i c5;exact h3 c5 c
  .exact h1 _ c0
 rename_i c
 have c:Ca (B0 tw)=false:=by simpa using c
 split
 .rename_i cl
  split
  .rename_i x hx;exact h4 c0 c cl x hx
  .exact h1 _ c0
 rename_i cl
 have cl:CX doc tn=false:=by simpa using cl
 split
 .exact h1 _ c0
 .rename_i on NK
  split
  .rename_i hc;exact h5 (IR NK) c cl on NK hc.1 hc.2
  .exact h1 _ c0
theorem MQ {x:Ag} (h:Ho doc tn v=some x):1<=x.k∧x.k<=4∧x.items=[]∧x.keys=[]:=by
 unfold Ho UY at h
 repeat' split at h
 all_goals first
  | (cases h;done)
  | (cases h;exact ⟨by first | (show (1:Int)<=2;decide) | (show (1:Int)<=3;decide) | (show (1:Int)<=4;decide) | (show (1:Int)<=1;decide),by first | (show (2:Int)<=4;decide) | (show (3:Int)<=4;decide) | (show (4:Int)<=4;decide) | (show (1:Int)<=4;decide),rfl,rfl⟩)
theorem SX (h6:v.k=6) {on:qB} {r:Pk×Ge} (h:r∈Gd v.keys (v.items.map (A6 doc)) on path picks) :
 r.1∈picks∧r.1.on=on∧r.2=A6 doc ((AB v r.1.key).getD A8) r.1.tn r.1.tw r.1.picks (path++[CY r.1.key]):=by
 unfold Gd at h
 obtain ⟨p,hp,rfl⟩:=List.mem_map.1 h
 obtain ⟨h1,h2⟩:=List.mem_filter.1 hp
 exact ⟨h1,by simpa using h2,by rw [FJ doc v h6]⟩
theorem JW {Q:Ag->Prop} (hz:Q A8) (h:∀x∈v.items,Q x) (k:qB):Q ((AB v k).getD A8):=by
 cases e:AB v k with
 |none=>exact hz
 |some x=>exact h x (CG e)
theorem Ow {K:List qB} {L:List Ag} (hn:K.Nodup) {i:Nat} {k:qB} {x:Ag} (hk:K[i]?=some k) (hx:L[i]?=some x):AB (Cw K L) k=some x:=by
 have key:∀(K:List qB) (i j:Nat),K.Nodup->K[i]?=some k->ix k K j=((j+i:Nat):Int):=by
  intro K
  induction K with
  |nil=>intro i j _ h;simp at h
  |cons a K ih=>
   intro i j hn h
   rw [List.nodup_cons] at hn
   rw [ix]
   cases i with
   |zero=>
    simp at h
    rw [iP h.symm]
    rfl
   |succ i=>
    rw [List.getElem?_cons_succ] at h
    rw [iN (fun e=>hn.1 (by rw [<-e];exact zg h)),ih i (j+1) hn.2 h]
    congr 1
    omega
 have e:=key K i 0 hn hk
 have h0:(0:Int)<=((0+i:Nat):Int):=Int.natCast_nonneg _
 unfold AB Cw
 rw [iP (by rfl),Ag.keys_mk,Ag.items_mk,e,iP h0]
 simpa using hx
theorem N4.tail (h:N4 w):N4 w.tail:=by
 cases w with
 |nil=>trivial
 |cons a w=>
  cases w with
  |nil=>trivial
  |cons b w=>exact h.2
theorem N4.nul (h:N4 w):N4 (B0 w):=by
 unfold B0
 split
 .exact h.tail
 .exact h
end
open Go.Eng Go.KL
set_option maxRecDepth 100000
def ck911:CC:=cK (a:=cF [1] [] [] f15) (by delta f15;simp only [go_sem];rfl)
theorem cc911:A4 f15=(false,some ck911.erase,some [(.c 8 5 true),(.t 9)]):=by kernel_rfl
end Go.Proofs.YtgfidgoefioigaaGreatDoor
namespace Go.Eng
set_option linter.all false
def XT (n:Nat):CH->Prop
 | []=>True
 | (k,c)::r=>k<n∧c.und n∧XT n r
theorem Md {n:Nat}:∀{ws:CH},XT n ws->∀x∈ws,x.1<n∧x.2.und n
 | [],_,x,h=>by cases h
 | (k,c)::r,hw,x,h=>by
  rcases List.mem_cons.1 h with rfl | h
  .exact ⟨hw.1,hw.2.1⟩
  .exact Md hw.2.2 x h
theorem AK.e0x {P:Program} {f:FuncId} {hp ws:CH} {n:Nat} {args args':List AV} {i m:Nat} {r:AV} (hi:args[i]?=some .e0) (Vg:args'=args.set i (.rw n 0 0)) (hws:(∀k,n<=k->gc hp k=.no)->XT n ws) (hr0:r.purR=true)
 (c:AO P f ((n,.rc 0 m 0 [])::hp) (n+1) args' (ws++(n,.rc 0 m 0 [])::hp) (n+1) r):AO P f hp n args (ws++hp) n r:=by
 refine ⟨c.1,fun h J w vs hs ha=>?_⟩
 have hw:=Md (hws hs.free)
 have c1:=AK.e0 hi Vg (fun x hx=>(hw x hx).1) c
 refine (c1.2 h J w vs hs ha).mono fun _ w' ⟨v,he,h',ρ',Am,n',r',⟨e1,e2,e3⟩,hh,hr,hm,Cf,hk,hl⟩=>?_
 subst e1 e2 e3
 have r2:Cd J (Yx ρ' n):=fun k g x e=>by
  have:k<n:=by
   rcases Nat.lt_or_ge k n with q | q
   .exact q
   .rw [hs.fr k g q] at e;cases e
  rw [Cu this]
  exact hr _ _ _ e
 have r3:Cd (Yx ρ' n) ρ':=fun k g x e=>(XR e).1
 have gno:gc hp n=.no:=hs.free n (zna n)
 have gn:gc (ws++hp) n=.no:=by
  rcases Ec (ws:=ws) (hp:=hp) n with ⟨_,e⟩ | ⟨c,hm,e⟩
  .rw [e,gno]
  .have:=(hw _ hm).1;omega
 have ge:∀j,j≠n->gc (ws++(n,Ai.rc 0 m 0 [])::hp) j=gc (ws++hp) j:=fun j hj=>QU (fun e=>hj e.symm)
 have own:∀j g,(gc (ws++hp) j).own g->(gc (ws++(n,Ai.rc 0 m 0 [])::hp) j).own g:=fun j g q=>by
  by_cases hj:j=n
  .subst hj;rw [gn] at q;cases q
  .rw [ge j hj];exact q
 have lv:∀b,AF (Yx ρ' n) (ws++hp) b->AF ρ' (ws++(n,Ai.rc 0 m 0 [])::hp) b:=fun b ⟨j,g,c,q,x⟩=>⟨j,g,c,own j g q,r3 _ _ _ x⟩
 refine ⟨v,he,h',Yx ρ' n,_,_,_,⟨rfl,rfl,rfl⟩,hh,r2,⟨hm.hh,fun j=>?_,fun j j' g g' b c c' q q' x x'=>hm.inj j j' g g' b c c' (own j g q) (own j' g' q') (r3 _ _ _ x) (r3 _ _ _ x'),fun b hb=>hm.hid b (lv b hb),fun b hb=>hm.lt b (lv b hb),fun k g hk=>?_,fun j g g' x q y=>?_,hm.gl⟩,.pu _ _ (AV.purR_rel Cf hr0),hk,fun b hb=>hl b (lv b hb)⟩
 .by_cases hj:j=n
  .subst hj;rw [gn];trivial
  .have s:=hm.ch j
   rw [ge j hj] at s
   rcases Ec (ws:=ws) (hp:=hp) j with ⟨_,e⟩ | ⟨c,hcm,e⟩
   .rw [e] at s ⊢
    have sb:=Ai.back hr (hs.ch j) s
    exact Ai.sat_mono (BJ.refl _) r2 (fun _ _ _ _ _=>rfl) sb
   .rw [e] at s ⊢
    obtain ⟨k1,k2⟩:=hw _ hcm
    exact Ai.cut s k1 k2
 .unfold Yx
  rw [iN (by omega)]
 .have hj:j≠n:=fun e=>by subst e;rw [gn] at q;cases q
  exact hm.gens j g g' x (by rw [ge j hj];exact q) (r3 _ _ _ y)
end Go.Eng
namespace Go.Proofs.YtgfidgoefioigaaGreatDoor
open Go.Eng
set_option linter.all false
set_option maxRecDepth 20000
set_option maxHeartbeats 1000000
theorem ST {α β:Type} {f:α->List β} {b:α->Nat}:∀{l:List α},(∀x∈l,(f x).length<=b x)->(l.flatMap f).length<=(l.map b).sum
 | [],_=>by simp
 |x::l,h=>by
  rw [List.flatMap_cons,zld,zln,z2h]
  have h1:=h x (by simp)
  have h2:=ST (l:=l) fun y hy=>h y (by simp [hy])
  omega
theorem Yh (l:List Pk) (W:Nat):(l.map fun p=>W*(1+A5 p.picks)).sum=W*A5 l:=by
 induction l with
 |nil=>simp [A5]
 |cons x l ih=>rw [zln,z2h,ih,A5,Ci];simp only [Nat.mul_add]
theorem P4 (doc:List Av) (tn:qB) (tw:List Int) (picks:List Pk) (path:List Ag) (K:Nat):∀(l:List Ag) (j:Nat),(∀x∈l,∀path,(A6 doc x tn tw picks path).2.length<=AE x*K)->((FN (l.map (A6 doc)) j tn tw picks path).flatMap (·.2)).length<=BF l*K
 | [],j,_=>by rw [List.map_nil,FN];simp
 |x::l,j,h=>by
  rw [zln,FN,List.flatMap_cons,zld,BF,Nat.add_mul]
  have h1:=h x (by simp) (path++[Ff j])
  have h2:=P4 doc tn tw picks path K l (j+1) fun y hy=>h y (by simp [hy])
  omega
theorem Lp {α:Type} (q:α->Bool) (f:α->Nat):∀l:List α,((l.filter q).map f).sum<=(l.map f).sum
 | []=>zna _
 |p::l=>by
  have:=Lp q f l
  rw [List.filter_cons]
  split
  .rw [zln,zln,z2h,z2h]
   omega
  .rw [zln,z2h]
   omega
theorem Iy (doc:List Av) (v:Ag):∀tn tw picks path,(A6 doc v tn tw picks path).2.length<=AE v*(1+A5 picks):=by
 have hz:∀tn tw picks path,(A6 doc A8 tn tw picks path).2.length<=1:=fun tn tw picks path=>by
  rw [I9,zFn,H4]
  split<;>simp [FV]
 refine Ag.ind (Q:=fun v=>∀tn tw picks path,(A6 doc v tn tw picks path).2.length<=AE v*(1+A5 picks)) (fun v ih tn tw picks path=>?_) v
 have h1:1<=AE v*(1+A5 picks):=Nat.mul_pos (C7 v) (by omega)
 have hle:BF v.items<=AE v:=by rw [A9];omega
 refine F0 (Q:=fun R=>R.2.length<=AE v*(1+A5 picks)) (fun s _=>by simpa [FV] using h1) (fun _=>?_) (fun _ _=>?_) (fun _ _ _ x _=>by simp) (fun h6 _ _ on _ _ _=>?_)
 .rw [H4]
  split
  .simpa [FV] using h1
  .simp
 .dsimp only [Gs]
  refine znc (P4 doc tn (Cg (B0 tw)) picks path (1+A5 picks) v.items 0 fun x hx path=>ih x hx _ _ _ _) (Nat.mul_le_mul_right _ hle)
 .dsimp only [KH]
  have hb:∀r∈Gd v.keys (v.items.map (A6 doc)) on path picks,r.2.2.length<=AE v*(1+A5 r.1.picks):=fun r hr=>by
   obtain ⟨_,_,e⟩:=SX h6 hr
   rw [e]
   cases hg:AB v r.1.key with
   |none=>exact znc (hz _ _ _ _) (Nat.mul_pos (C7 v) (by omega))
   |some x=>
    have hx:=CG hg
    exact znc (ih x hx _ _ _ _) (Nat.mul_le_mul_right _ (znc (BS hx) hle))
  have h2:=ST (f:=fun r:Pk×Ge=>r.2.2) (b:=fun r=>AE v*(1+A5 r.1.picks)) hb
  have h3:((Gd v.keys (v.items.map (A6 doc)) on path picks).map fun r=>AE v*(1+A5 r.1.picks)).sum<=AE v*A5 picks:=by
   rw [<-Yh]
   unfold Gd
   rw [List.map_map]
   show ((picks.filter fun p=>decide (p.on=on)).map fun p=>AE v*(1+A5 p.picks)).sum<=_
   exact Lp _ _ _
  rw [Nat.mul_add]
  omega
theorem Sh (doc:List Av) (hd:DocOk doc) (root:qB) (picks:List Pk) (MF:BQ picks) (v:Ag) (hv:v.Fit) (hr:v.Rng) (hw:AE v<=10000000000) (Fw:AE v*(1+A5 picks)<=1000000000000) (hp:CH) (m:Nat) :
 Ae prog 15 hp m [B9 doc,.s root,.ds (Ab Bi picks),vx v] (.tp [vx (A6 doc v root [] picks []).1,.ds (Ab Dr (A6 doc v root [] picks []).2)]):=by
 have hC:=Agt doc hd v hv hr root [] picks [] (by simp) MF (by simp;omega)
 have hct:=Iy doc v root [] picks []
 obtain ⟨R,AC⟩:=A7 (A6 doc v root [] picks [])
 rw [AC] at hC hct ⊢
 have hNm:=U4 root
 have hRl:R.2.length<=1000000000000:=by omega
 refine Al func15 (tA cc911) (tB cc911) (tC cc911) rfl fun hf=>?_;unfold ck911
 simp (disch:=omega) only [go_sem]
 refine Qd ((Z0 (k:=m+3) (Gz doc) ?_).trans (DL (c:=m+4) (i:=2) (m:=2) (cs:=[.ds (Ab BB doc),.mp (m+3),.e0]) ?_ rfl)) ?_
 .simp (disch:=omega) only [go_sem]
 .simp (disch:=omega) only [go_sem]
 simp only [List.set_cons_succ,List.set_cons_zero]
 simp (disch:=omega) only [go_sem]
 refine Au.f (fun _ Am e=>hNm _ _) ?_
 simp (disch:=omega) only [go_sem]
 refine Au.w (ws:=Fu doc (Gz doc) (m+4) (m+3) (m+5) 0 [] R.2) (Gy ⟨?_,?_,?_⟩ (by omega) (by omega) (by omega)) rfl
  (fun Am e=>AK.e0x (i:=3) (m:=5) (args':=[.bx (m+4) 0,DW root [],.ds (Ab Bi picks),.rw (m+18) 0 0,vx v]) rfl rfl (fun hf=>⟨by omega,trivial,by omega,⟨trivial,(show m+3<m+18 by omega),(show m+5<m+18 by omega),trivial⟩,by omega,trivial,trivial⟩) rfl
   (hC _ (m+4) (m+3) (m+5) 0 [] (m+18) 0 0 0 _ ⟨?_,?_,?_⟩ (Ar _ _ _) rfl (by simp;omega))) ?_
 case refine_7=>
  simp only [Fu,List.cons_append,List.nil_append]
  simp (disch:=omega) only [List.length_nil,Nat.zero_add,go_sem]
 all_goals first
  | ((simp (disch:=omega) only [go_sem]);done)
  | (rw [Ak _ _ (by omega),e _ (.inl (by omega))];(simp (disch:=omega) only [go_sem]);done)
  | skip
inductive G3 where
 | mk (n:qB) (args:List GS)
def G3.n:G3->qB | .mk n _=>n
theorem G3.n_mk (n:qB) (args:List GS):(G3.mk n args).n=n:=rfl
def G3.args:G3->List GS | .mk _ args=>args
theorem G3.args_mk (n:qB) (args:List GS):(G3.mk n args).args=args:=rfl
theorem G3.ext {x y:G3} (h0:x.n=y.n) (h1:x.args=y.args):x=y:=by cases x;cases y;simp only [G3.n_mk,G3.args_mk] at *;simp [*]
def F9 (x:G3):List AV:=[.s x.n,.ds (Ab B7 x.args)]
attribute [go_sem] F9 G3.n_mk G3.args_mk
attribute [grind =] G3.n_mk G3.args_mk
attribute [ext] G3.ext
attribute [grind ext] G3.ext
inductive BG where
 | mk (n:qB) (tn:qB) (tw:List Int) (has:Bool) (d:Ag) (dirs:List G3)
def BG.n:BG->qB | .mk n _ _ _ _ _=>n
theorem BG.n_mk (n:qB) (tn:qB) (tw:List Int) (has:Bool) (d:Ag) (dirs:List G3):(BG.mk n tn tw has d dirs).n=n:=rfl
def BG.tn:BG->qB | .mk _ tn _ _ _ _=>tn
theorem BG.tn_mk (n:qB) (tn:qB) (tw:List Int) (has:Bool) (d:Ag) (dirs:List G3):(BG.mk n tn tw has d dirs).tn=tn:=rfl
def BG.tw:BG->List Int | .mk _ _ tw _ _ _=>tw
theorem BG.tw_mk (n:qB) (tn:qB) (tw:List Int) (has:Bool) (d:Ag) (dirs:List G3):(BG.mk n tn tw has d dirs).tw=tw:=rfl
def BG.has:BG->Bool | .mk _ _ _ has _ _=>has
theorem BG.has_mk (n:qB) (tn:qB) (tw:List Int) (has:Bool) (d:Ag) (dirs:List G3):(BG.mk n tn tw has d dirs).has=has:=rfl
def BG.d:BG->Ag | .mk _ _ _ _ d _=>d
theorem BG.d_mk (n:qB) (tn:qB) (tw:List Int) (has:Bool) (d:Ag) (dirs:List G3):(BG.mk n tn tw has d dirs).d=d:=rfl
def BG.dirs:BG->List G3 | .mk _ _ _ _ _ dirs=>dirs
theorem BG.dirs_mk (n:qB) (tn:qB) (tw:List Int) (has:Bool) (d:Ag) (dirs:List G3):(BG.mk n tn tw has d dirs).dirs=dirs:=rfl
theorem BG.ext {x y:BG} (h0:x.n=y.n) (h1:x.tn=y.tn) (h2:x.tw=y.tw) (h3:x.has=y.has) (h4:x.d=y.d) (h5:x.dirs=y.dirs):x=y:=by cases x;cases y;simp only [BG.n_mk,BG.tn_mk,BG.tw_mk,BG.has_mk,BG.d_mk,BG.dirs_mk] at *;simp [*]
attribute [go_sem] BG.n_mk BG.tn_mk BG.tw_mk BG.has_mk BG.d_mk BG.dirs_mk
attribute [grind =] BG.n_mk BG.tn_mk BG.tw_mk BG.has_mk BG.d_mk BG.dirs_mk
attribute [ext] BG.ext
attribute [grind ext] BG.ext
def AD (x:BG):List AV:=[.s x.n,.s x.tn,.ds (Ab D2 x.tw),.b x.has,.i .i64 x.d.k,.i .i64 x.d.n,.s x.d.s,.ds (Ab Aw x.d.items),.ds (Bq x.d.keys),.ds (Ab F9 x.dirs)]
theorem Uc (l:List BG):Eu 10 (Ab AD l)=True:=Em fun _=>⟨rfl,rfl⟩
theorem YU (l:List BG):(∀e,e∈Ab AD l->e.length=10)=True:=eq_true fun e h=>((of_eq_true (Uc l)) e h).1
attribute [go_sem] AD YU
def M8 (d:G3):Prop:=d.args.length<=1000000000∧∀a∈d.args,a.v.Fit
def E2 (l:List (List AV)):Prop:=∃ds:List G3,l=Ab F9 ds∧ds.length<=1000000000∧∀d∈ds,M8 d
def Hi (x:BG):Prop:=x.tw.length<=1000000000∧(x.d.Fit∧x.d.Rng)∧x.dirs.length<=1000000000∧∀d∈x.dirs,M8 d
def Eb (l:List (List AV)):Prop:=∃is:List BG,l=Ab AD is∧is.length<=1000000000∧∀x∈is,Hi x
structure DfnW (t:Av):Prop where
 dirs:E2 t.dirs
 inputs:Eb t.inputs
 fl:t.fields.length<=1000000000
 fields:∀f∈t.fields,Eb f.args∧E2 f.dirs∧f.tw.length<=1000000000
 members:∀e∈t.members,∃x y,e=[.s x,.ds y]∧E2 y
def Ahr (e:List AV):List (List AV):=match e with
 | [.s _,.ds y]=>y
 |_=>[]
mutual
def Q7:Ag->Bool
 | .mk k _ _ i l=>!(decide (k=6)&&!decide (l.length=i.length))&&Uw i
def Uw:List Ag->Bool
 | []=>true
 |x::r=>Q7 x&&Uw r
end
theorem JN (v:Ag):Q7 v=(!(decide (v.k=6)&&!decide (v.keys.length=v.items.length))&&Uw v.items):=by cases v;rw [Q7];rfl
theorem G0 (l:List Ag):Uw l=true↔∀x∈l,Q7 x=true:=by
 induction l with
 |nil=>simp [Uw]
 |cons x r ih=>rw [Uw];simp [ih]
def NR:List qB->List Ag->List qB->List Ag->Option (List qB×List Ag)
 |k::l,x::r,ks,is=>if 0<=ix k ks 0 then none else NR l r (ks++[k]) (is++[x])
 | [],_,ks,is=>some (ks,is)
 |_::_,[],ks,is=>some (ks,is)
def adR (v:Ag) (o:Option (List qB×List Ag)):Ag×Int :=
 match o with
 |some (ks,is)=>(.mk v.k v.n v.s is ks,0)
 |none=>(A8,7)
def Jw (v d:Ag):Ag × Int:=if v.k=6∧d.k=6 then adR v (NR d.keys d.items v.keys v.items) else if d.k=0 then (v,0) else (A8,8)
def IE (v s:Ag):Int :=
 if s.k=3∧v.k=6 then (if ix s.s v.keys 0<v.items.length then ix s.s v.keys 0 else -1)
 else if s.k=2∧v.k=5∧0<=s.n∧s.n<v.items.length then s.n else -1
def FT (d:Ag):List Ag->Ag->Ag×Int
 | [],v=>Jw v d
 |s::p,v=>if p.length=0∧s.k=2∧v.k=5∧s.n=v.items.length then (.mk v.k v.n v.s (v.items++[d]) v.keys,0)
  else if IE v s<0 then (A8,8)
  else match v.items[(IE v s).toNat]? with
   |none=>(A8,8)
   |some x=>if (FT d p x).2=0 then (.mk v.k v.n v.s (v.items.set (IE v s).toNat (FT d p x).1) v.keys,0) else (A8,(FT d p x).2)
def Rk (x:Ag × Int):AV:=.tp [vx x.1,.i .i64 x.2]
attribute [go_sem] Rk
theorem LU (v s:Ag) (hv:v.Fit) (hp:CH) (m:Nat):Ae prog 77 hp m [vx v,vx s] (.i .i64 (IE v s)):=by
 have h1:=hv.l
 have h2:=PV s.s v.keys 0
 refine Al func77 (tA cc77) (tB cc77) (tC cc77) rfl fun hf=>?_;unfold ck77
 simp only [go_sem]
 refine Af (fun c=>?_) (fun c=>?_)
 .have c:s.k=3∧v.k=6:=by simpa using c
  simp only [go_sem]
  refine Ac.f (Ii v.keys s.s (by omega) _ _) ?_
  simp only [go_sem]
  refine Af (fun c2=>?_) (fun c2=>?_)
  .have c2:ix s.s v.keys 0<v.items.length:=by simpa using c2
   simp only [go_sem]
   rw [IE,iP c,iP c2]
  .have c2:¬ix s.s v.keys 0<v.items.length:=by simpa using c2
   simp only [go_sem]
   rw [IE,iP c,iN c2]
 .have c:¬(s.k=3∧v.k=6):=by simpa using c
  simp only [go_sem]
  refine Af (fun c2=>?_) (fun c2=>?_)
  .have c2:s.k=2∧v.k=5∧0<=s.n∧s.n<v.items.length:=by simpa [and_assoc] using c2
   simp only [go_sem]
   rw [IE,iN c,iP c2]
  .have c2:¬(s.k=2∧v.k=5∧0<=s.n∧s.n<v.items.length):=by simpa [and_assoc] using c2
   simp only [go_sem]
   rw [IE,iN c,iN c2]
theorem YW (l:List qB) (k:qB) (hl:l.length<=9223372036854775806) (c g len:Nat) (hn:l.length=len) (hp:CH) (m:Nat) (hk:gc hp c=.rw g 1 (Bq l)):Ae prog 94 hp m [.rw c g len,.s k] (.i .i64 (ix k l 0)):=by
 subst hn
 refine Al func94 (tA cc94) (tB cc94) (tC cc94) rfl fun hf=>?_;unfold ck94
 simp only [hk,go_sem]
 refine loop (fun p:Nat×Nat=>⟨[(0,.rw c g l.length),(1,.s k),(7,.i .i64 l.length),(8,.i .i64 p.1)],hp,p.2⟩) (fun p=>p.1<=l.length∧ix k l 0=ix k (l.drop p.1) p.1) (fun p=>l.length - p.1) (0,m) ?_ ?_ (fun ⟨j,n⟩ hj=>?_)
 .grind
 .refine Dd ?_
  simp only [go_sem]
 dsimp only at hj
 simp only [hk,go_sem]
 refine Af (fun d=>?_) (fun d=>?_)
 .have d:j<l.length:=by simpa using d
  obtain ⟨x,ex⟩:∃x,l[j]?=some x:=⟨l[j],by simp [d]⟩
  have e:=A2 ex
  rw [e,ix] at hj
  simp only [hk,d,Ad (Aa C3 ex),go_sem]
  refine Af (fun c1=>?_) (fun c1=>?_)
  .have c1:k=x:=by simpa using c1
   simp only [go_sem]
   rw [hj.2,iP c1]
  .have c1:¬k=x:=by simpa using c1
   rw [iN c1] at hj
   simp only [go_sem]
   refine ⟨(j+1,n),by dsimp only;omega,by dsimp only;omega,Dd ?_⟩
   simp only [Ao j (by omega),go_sem]
 .have d:j=l.length:=by simp at d;omega
  subst d
  rw [List.drop_length,ix] at hj
  simp only [go_sem]
  rw [hj.2]
theorem FM (l:List qB) (k:qB) (hl:l.length<=9223372036854775806) (c g len:Nat) (hn:l.length=len) (hp:CH) (m:Nat) (hk:gc hp c=.rw g 1 (Bq l)):Ae prog 52 hp m [.rw c g len,.s k] (.b (decide (0<=ix k l 0))):=by
 refine Al func52 (tA cc52) (tB cc52) (tC cc52) rfl fun hf=>?_;unfold ck52
 simp only [hk,go_sem]
 refine Ac.f (YW l k hl c g len hn _ _ hk) ?_
 simp only [go_sem]
theorem Aba (v d:Ag) (hv:v.Fit) (hd:d.Fit) (hi:(v.items.length+d.items.length)*80<=140737488355327) (hk:(v.keys.length+d.keys.length)*16<=140737488355327) (hp:CH) (m:Nat):Ae prog 76 hp m [vx v,vx d] (Rk (Jw v d)):=by
 refine Al func76 (tA cc76) (tB cc76) (tC cc76) rfl fun hf=>?_;unfold ck76
 simp only [go_sem]
 refine Af (fun c=>?_) (fun c=>?_)
 .have c:v.k=6∧d.k=6:=by simpa using c
  rw [Jw,iP c]
  simp only [go_sem]
  refine Ac.x (RB v hv _ _) ?_
  simp only [go_sem]
  refine loop (fun p:Nat×(List qB×List Ag)×Nat=>⟨[(3,.bx (m+1) 0),(4,.bx (m+2) 0),(6,.bx (m+5) 0),(7,.i .i64 p.1)],
   (m+5,.bx [.i .i64 v.k,.i .i64 v.n,.s v.s,.rw (m+3) p.1 p.2.1.2.length,.rw (m+4) p.1 p.2.1.1.length])::(m+3,.rw p.1 5 (Ab Aw p.2.1.2))::(m+4,.rw p.1 1 (Bq p.2.1.1))::(m+2,.bx [.i .i64 0,.i .i64 0,.s ⟨#[]⟩,.e0,.e0]) ::
   (m+1,.bx [.i .i64 d.k,.i .i64 d.n,.s d.s,.ds (Ab Aw d.items),.ds (Bq d.keys)])::hp,p.2.2⟩)
   (fun p=>p.1<=d.keys.length∧p.1<=d.items.length∧p.2.1.2.length=v.items.length+p.1∧p.2.1.1.length=v.keys.length+p.1∧m+6<=p.2.2∧NR d.keys d.items v.keys v.items=NR (d.keys.drop p.1) (d.items.drop p.1) p.2.1.1 p.2.1.2)
   (fun p=>d.keys.length - p.1) (0,(v.keys,v.items),m+6) ?_ ?_ (fun ⟨j,⟨ks,is⟩,n⟩ hj=>?_)
  .exact ⟨by simp,by simp,by simp,by simp,by simp,rfl⟩
  .refine wS5 hf ?_ ?_ ?_ ?_ ?_ ?_ ?_ (zna _)
   all_goals simp only [go_sem]
  dsimp only at hj
  obtain ⟨Cq,Be,At,Cl,CU,JI⟩:=hj
  simp only [go_sem]
  refine Af (fun q=>?_) (fun q=>?_)
  .simp at q
   obtain ⟨q1,q2⟩:=q
   obtain ⟨y,ey⟩:∃y,d.keys[j]?=some y:=⟨d.keys[j],by simp [q1]⟩
   obtain ⟨x,ex⟩:∃x,d.items[j]?=some x:=⟨d.items[j],by simp [q2]⟩
   have hx:=hd.x (zg ex)
   rw [A2 ey,A2 ex,NR] at JI
   simp only [q1,q2,Ad (Aa Aw ex),Ad (Aa C3 ey),go_sem]
   refine Au.f (fun _ Am hh=>FM ks y (by omega) (m+4) j _ rfl _ _ ((hh _ (.inl (by omega))).trans (by simp only [go_sem]))) ?_
   simp only [go_sem]
   refine Af (fun q3=>?_) (fun q3=>?_)
   .have q3:0<=ix y ks 0:=by simpa using q3
    rw [JI,iP q3,adR]
    simp only [go_sem]
   .have q3:¬0<=ix y ks 0:=by simpa using q3
    rw [iN q3] at JI
    simp only [q1,q2,Ad (Aa Aw ex),Ad (Aa C3 ey),go_sem]
    first | refine ⟨⟨by omega,by omega⟩,?_⟩ | skip
    first | refine Au.f (fun _ _ _=>FG x hx _ _) ?_ | refine AJ.f (fun _ _ _=>FG x hx _ _) ?_
    simp only [go_sem]
    refine ⟨⟨by omega,by omega⟩,(j+1,(ks++[y],is++[x]),_),?_,?_,wS5 hf ?_ ?_ ?_ ?_ ?_ ?_ ?_ (zna _)⟩
    .exact ⟨by dsimp only;omega,by dsimp only;omega,by dsimp only;simp;omega,by dsimp only;simp;omega,by dsimp only;omega,JI⟩
    .dsimp only;omega
    all_goals
     simp only [Ao j (by omega),zld,go_sem]
  .have e:NR (d.keys.drop j) (d.items.drop j) ks is=some (ks,is):=by
    simp at q
    rcases Nat.lt_or_ge j d.keys.length with q1 | q1
    .obtain ⟨y,ey⟩:∃y,d.keys[j]?=some y:=⟨d.keys[j],by simp [q1]⟩
     have e3:d.items.drop j=[]:=z2k (by have:=q q1;omega)
     rw [A2 ey,e3,NR]
    .rw [z2k q1,NR]
   rw [JI,e,adR]
   simp only [go_sem]
 .have c:¬(v.k=6∧d.k=6):=by simpa using c
  rw [Jw,iN c]
  simp only [go_sem]
  refine Af (fun q=>?_) (fun q=>?_)
  .have q:d.k=0:=by simpa using q
   rw [iP q]
   simp only [go_sem]
  .have q:¬d.k=0:=by simpa using q
   rw [iN q]
   simp only [go_sem]
