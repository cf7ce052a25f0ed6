/- Proof. Conditions: none. -/
import Derived.Test.YtgfidgoefioigaaGreatDoorIj28
open List renaming flatMap_cons->zy,length_append->zu,sum_cons->z2g
open Go.Proofs.Tryz
open List renaming mem_of_getElem?->zla,length_nil->zle,cons_append->zlh,nil_append->zli,map_cons->zln
open Nat renaming le_refl->zna,le_trans->znc
namespace Go.Proofs.YtgfidgoefioigaaGreatDoor
open Go.Eng
set_option linter.all false
set_option maxRecDepth 20000
theorem XS {P:Program} {w:World} {name:String} {gb:Nat} {k:IntKind} {zs:List Int} {t:TypeId} {fr:Nat×Nat} (hg:P.globalNamed name=some gb) (h:w.heap[gb]?=some (.cells (zs.map fun z=>Value.int k z).toArray t fr)):Lib.TabIs P w name k zs:=by
 unfold Lib.TabIs World.var?
 rw [hg]
 show (match w.heap[gb]? with
  |some (.cells cs _ _)=>some cs
  |_=>none)=_
 rw [h]
theorem Abk (x:Int) (h0:-9223372036854775808<=x) (h1:x<=9223372036854775807) (hp:CH) (m:Nat):Af prog 178 hp m [.i .i64 x] (.s (Uv (Lib.itoa x))) :=
 Rd OH rfl ⟨_,func178,by kernel_rfl,by kernel_rfl⟩ (gb:=0) (fun w ⟨t,fr,h⟩ x h0 h1=>Any.strconv_Itoa OH x h0 h1 w (XS (by kernel_rfl) h)) (by simp [LD]) h0 h1
theorem Pp (x:Int) (h0:-9223372036854775808<=x) (h1:x<=9223372036854775807) (hp:CH) (m:Nat):Af prog 171 hp m [.i .i64 x] (.s (Uv (Lib.itoa x))):=by
 refine Aj func171 (tA cc171) (tB cc171) (tC cc171) rfl fun hf=>?_;unfold ck171
 simp only [go_sem]
 refine Ac.f (Abk x h0 h1 _ _) ?_
 simp only [go_sem]
set_option maxHeartbeats 1000000
section
variable {tw:List Int} {path:List Ag} {l picks:List Pk} {doc:List Aw} {v:Ag} {tn:qB}
abbrev oV (o:Option Ag):AV:=.tp [vx (o.getD A6),.b o.isSome]
theorem Abs (s:qB) (hp:CH) (m:Nat):Af prog 156 hp m [.s s] (vx (enV s)):=by
 refine Aj func156 (tA cc156) (tB cc156) (tC cc156) rfl fun hf=>?_;unfold ck156
 simp only [go_sem]
 rfl
def L8 (p:qB × List (List AV)):List AV:=[.s p.1,.ds p.2]
attribute [go_sem] L8
def unP (l:List (List AV)):List (qB×List (List AV)):=l.map fun e=>match e with
 | [.s x,.ds y]=>(x,y)
 |_=>(⟨#[]⟩,[])
theorem Aft {t:Aw} (ht:DefOk t):t.members=Ab L8 (unP t.members):=by
 have key:∀l:List (List AV),(∀e∈l,∃x y,e=[.s x,.ds y])->l=Ab L8 (unP l):=by
  intro l
  induction l with
  |nil=>intro _;rfl
  |cons e l ih=>
   intro h
   obtain ⟨x,y,rfl⟩:=h e (by simp)
   have:=ih fun e he=>h e (by simp [he])
   show _::l=L8 (x,y)::Ab L8 (unP l)
   rw [<-this]
   rfl
 exact key _ ht.mem
theorem ZR (l:List (List AV)) (h:∀e∈l,∃x y,e=[.s x,.ds y]) (s:qB):((unP l).any fun p=>decide (p.1=s))=decide (s∈F7 l):=by
 induction l with
 |nil=>rfl
 |cons e l ih=>
  obtain ⟨x,y,rfl⟩:=h e (by simp)
  have h2:=ih fun e he=>h e (by simp [he])
  show (decide (x=s)||(unP l).any fun p=>decide (p.1=s))=decide (s∈x::F7 l)
  rw [h2]
  by_cases c:x=s
  .simp [c]
  .have c':¬s=x:=fun e=>c e.symm
   simp [c,c']
theorem Ws (l:List (qB×List (List AV))) (q:(qB×List (List AV))->Bool) (k:FuncId) (i8:List AV) (hl:l.length<=9223372036854775806) (hp:CH) (m:Nat) (h:∀x∈l,∀n,Af prog k hp n ((fun p:qB×List (List AV)=>AV.ag [.s p.1,.ds p.2]) x::i8) (.b (q x))):Af prog 172 hp m [.ds (Ab L8 l),.fn k i8] (.i .i64 (Pj q l 0)):=by
 refine Aj func172 (tA cc172) (tB cc172) (tC cc172) rfl fun hf=>?_;unfold ck172
 simp only [go_sem]
 refine loop (fun p:Nat×Nat=>⟨[(0,.ds (Ab L8 l)),(1,.fn k i8),(7,.i .i64 l.length),(8,.i .i64 p.1)],hp,p.2⟩) (fun p=>p.1<=l.length∧Pj q l 0=Pj q (l.drop p.1) p.1) (fun p=>l.length - p.1) (0,m) ?_ ?_ (fun ⟨j,n⟩ hj=>?_)
 .exact ⟨by simp,rfl⟩
 .refine Di ?_
  simp only [go_sem]
 dsimp only at hj
 obtain ⟨Cg,Bc⟩:=hj
 simp only [go_sem]
 refine Ae (fun c=>?_) (fun c=>?_)
 .have c:j<l.length:=by simpa using c
  obtain ⟨x,ex⟩:∃x,l[j]?=some x:=⟨l[j],by simp [c]⟩
  have hx:=h x (zla ex) n
  rw [A2 ex,Pj] at Bc
  simp only [c,Ad (Aa L8 ex),go_sem]
  refine Ac.f (hx) ?_
  simp only [go_sem]
  refine Ae (fun c1=>?_) (fun c1=>?_)
  .rw [iP c1] at Bc
   simp only [go_sem]
   rw [Bc]
  .rw [iN (by simp [c1])] at Bc
   simp only [go_sem]
   refine ⟨(j+1,n),⟨by dsimp only;omega,Bc⟩,by dsimp only;omega,Di ?_⟩
   simp only [Ap j (by omega),go_sem]
 .have c:j=l.length:=by simp at c;omega
  subst c
  rw [List.drop_length,Pj] at Bc
  simp only [go_sem]
  rw [Bc]
theorem WE (l:List (qB×List (List AV))) (q:(qB×List (List AV))->Bool) (k:FuncId) (i8:List AV) (hl:l.length<=9223372036854775806) (hp:CH) (m:Nat) (h:∀x∈l,∀n,Af prog k hp n ((fun p:qB×List (List AV)=>AV.ag [.s p.1,.ds p.2]) x::i8) (.b (q x))):Af prog 154 hp m [.ds (Ab L8 l),.fn k i8] (.b (l.any q)):=by
 rw [<-PH q l 0]
 refine Aj func154 (tA cc154) (tB cc154) (tC cc154) rfl fun hf=>?_;unfold ck154
 simp only [go_sem]
 refine Ac.f (Ws l q k i8 hl _ _ h) ?_
 simp only [go_sem]
theorem Wx (v:Ag) (k:Nat) (hp:CH) (hk:gc hp k=.bx [.i .i64 v.k,.i .i64 v.n,.s v.s,.ds (Ab Ar v.items),.ds (Bd v.keys)]) (x:qB×List (List AV)) (m:Nat) :
 Af prog 155 hp m [.ag [.s x.1,.ds x.2],.bx k 0] (.b (decide (x.1=v.s))):=by
 refine Aj func155 (tA cc155) (tB cc155) (tC cc155) rfl fun hf=>?_;unfold ck155
 have BY:k<m:=Ca hf hk (fun e=>by cases e)
 simp (disch:=omega) only [hk,go_sem]
theorem Pe (n:qB) (v:Ag) (h0:-9223372036854775808<=v.n) (h1:v.n<=9223372036854775807) (hp:CH) (m:Nat):Af prog 152 hp m [.s n,vx v] (oV (Ju n v)):=by
 unfold oV
 obtain ⟨R,hR⟩:=A5 (Ju n v)
 rw [hR]
 unfold Ju at hR
 refine Aj func152 (tA cc152) (tB cc152) (tC cc152) rfl fun hf=>?_;unfold ck152
 simp only [go_sem]
 refine Ae (fun c=>?_) (fun c=>?_)
 .have c:n=H1∧v.k=2∧-2147483648<=v.n∧v.n<=2147483647:=by simpa [H1,and_assoc] using c
  rw [iP c] at hR
  subst hR
  simp only [go_sem]
  refine Ac.f (LI _ _ _) ?_
  simp only [go_sem]
 have c:¬(n=H1∧v.k=2∧-2147483648<=v.n∧v.n<=2147483647):=by
  intro h
  simp only [H1] at h
  simp [h.1,h.2.1,h.2.2.1,h.2.2.2] at c
 rw [iN c] at hR
 simp only [go_sem]
 refine Ae (fun c=>?_) (fun c=>?_)
 .have c:(n=BF∨n=Gy)∧v.k=3:=by simpa [BF,Gy] using c
  rw [iP c] at hR
  subst hR
  simp only [go_sem]
  refine Ac.f (Il _ _ _) ?_
  simp only [go_sem]
 have c:¬((n=BF∨n=Gy)∧v.k=3):=by
  intro h
  simp only [BF,Gy] at h
  rcases h with ⟨h | h,h2⟩<;>simp [h,h2] at c
 rw [iN c] at hR
 simp only [go_sem]
 refine Ae (fun c=>?_) (fun c=>?_)
 .have c:n=Gy∧v.k=2:=by simpa [Gy] using c
  rw [iP c] at hR
  subst hR
  simp only [go_sem]
  refine Ac.f (Pp v.n h0 h1 _ _) ?_
  simp only [go_sem]
  refine Ac.f (Il _ _ _) ?_
  simp only [go_sem]
 have c:¬(n=Gy∧v.k=2):=by
  intro h
  simp only [Gy] at h
  simp [h.1,h.2] at c
 rw [iN c] at hR
 simp only [go_sem]
 refine Ae (fun c=>?_) (fun c=>?_)
 .have c:n=B2∧v.k=1:=by simpa [B2] using c
  rw [iP c] at hR
  subst hR
  simp only [go_sem]
  rfl
 have c:¬(n=B2∧v.k=1):=by
  intro h
  simp only [B2] at h
  simp [h.1,h.2] at c
 rw [iN c] at hR
 subst hR
 simp only [go_sem]
theorem TZ (doc:List Aw) (hd:DocOk doc) (n:qB) (v:Ag) (h0:-9223372036854775808<=v.n) (h1:v.n<=9223372036854775807) (hp:CH) (m:Nat):Af prog 112 hp m [B0 doc,.s n,vx v] (oV (EK doc n v)):=by
 have Jx:=EF doc hd.len n
 have hg:=hd.g n
 have hs:=Pe n v h0 h1
 have hk:Ff doc n=((Az doc n).getD Dz).k:=by
  unfold Ff
  cases Az doc n<;>rfl
 unfold oV at hs ⊢
 unfold EK
 rw [hk]
 unfold Eh at Jx
 obtain ⟨t,ht⟩:=A5 ((Az doc n).getD Dz)
 rw [ht] at Jx hg ⊢
 obtain ⟨g1,g2,g3⟩:=hg
 have hsc:=HI n
 by_cases c:BU n=true
 .rw [iP c]
  rw [c] at hsc
  refine Aj func112 (tA cc112) (tB cc112) (tC cc112) rfl fun hf=>?_;unfold ck112
  simp only [go_sem]
  refine Ac.f (hsc _ _) ?_
  simp only [go_sem]
  refine Ac.f (hs _ _) ?_
  simp only [go_sem]
 rw [iN c]
 have c:BU n=false:=by simpa using c
 rw [c] at hsc
 have hany:=ZR t.members g1.mem v.s
 have hme:=Aft g1
 have Kb:(unP t.members).length<=9223372036854775806:=by rw [unP,List.length_map];omega
 obtain ⟨M,hM⟩:=A5 (unP t.members)
 rw [hM] at hany hme Kb
 obtain ⟨o,ho⟩:=A5 ((if t.k=4∧v.k=4∧v.s∈F7 t.members then some (enV v.s) else none))
 have hmm:o=if t.k=4∧v.k=4∧(M.any fun p=>decide (p.1=v.s))=true then some (enV v.s) else none:=by
  rw [<-ho,hany]
  simp only [decide_eq_true_eq]
 rw [ho]
 refine Aj func112 (tA cc112) (tB cc112) (tC cc112) rfl fun hf=>?_;unfold ck112
 simp (disch:=omega) only [hme,go_sem]
 refine Ac.f (hsc _ _) ?_
 simp (disch:=omega) only [hme,go_sem]
 refine Ac.f (Jx _ _) ?_
 simp (disch:=omega) only [hme,go_sem]
 refine AH.f (fun _=>WE M (fun p=>decide (p.1=v.s)) _ _ Kb _ _ fun x hx k=>Wx v (m+1) _ (by (simp (disch:=omega) only [go_sem])) x k) ?_
 simp (disch:=omega) only [hme,go_sem]
 refine Ae (fun c=>?_) (fun c=>?_)
 .have c:¬(t.k=4∧v.k=4∧(M.any fun p=>decide (p.1=v.s))=true):=fun h=>by simp [h.1,h.2.1,h.2.2] at c
  rw [hmm,iN c]
  simp only [go_sem]
 .have c:t.k=4∧v.k=4∧(M.any fun p=>decide (p.1=v.s))=true:=by simpa [and_assoc] using c
  rw [hmm,iP c]
  simp only [go_sem]
  refine Ac.f (Abs _ _ _) ?_
  simp only [go_sem]
theorem UE (v:Ag) (hv:v.Fit) (hp:CH) (m:Nat):Af prog 113 hp m [vx v] (.tp [.s ((AA v sT).getD A6).s,.b ((AA v sT).isSome&&decide (((AA v sT).getD A6).k=3))]):=by
 have h1:=IY v hv sT
 rw [Ik] at h1
 obtain ⟨x,hx⟩:=A5 ((AA v sT).getD A6)
 obtain ⟨s,hs⟩:=A5 ((AA v sT).isSome)
 rw [hx,hs] at h1 ⊢
 refine Aj func113 (tA cc113) (tB cc113) (tC cc113) rfl fun hf=>?_;unfold ck113
 simp only [go_sem]
 refine Ac.f (h1 _ _) ?_
 simp only [go_sem]
theorem SR (v:Ag):typO v=if (AA v sT).isSome=true∧((AA v sT).getD A6).k=3 then some ((AA v sT).getD A6).s else none:=by
 unfold typO
 cases AA v sT<;>simp
theorem WL (h:Gk tw=false):Ja tw path=(A6,[]):=by rw [Ja,iN (by simp [h])]
theorem JC (doc:List Aw) (hd:DocOk doc) (v:Ag) (hv:v.Fit) (h0:-9223372036854775808<=v.n) (h1:v.n<=9223372036854775807) (hL:Alh doc v) (hO:Ald doc v):Akj doc v:=by
 intro tn tw picks path DG Ht QT hp c km kp gp P kq gq cap len n hR hq hl hP
 subst hl
 have hRe:=CV doc v
 obtain ⟨R,A9⟩:=A5 (A7 doc v tn tw picks path)
 rw [A9] at hP ⊢
 rw [hRe,JW] at A9
 have VX:=L3 tn tw DG
 have hNu:=Gd tn tw DG
 have O2:=C8 tw
 have hIL:=Ld tn (Cp tw) (by omega)
 have V9:=MJ tn (Cp tw) (by omega)
 have hinl:=Lw (Cp tw)
 have FM:path.length<=1000000000000:=by omega
 simp only [zlh,zli]
 have Dg:(∀k,n<=k->gc hp k=.no)->wsLt n (FH doc (GK doc) c km kp gp P R.2):=fun hf=>hR.wsLt hf
 have n1:=hR.n1
 have n2:=hR.n2
 have n3:=hR.n3
 have q1:kq≠c:=fun e=>by have:=hR.hc;rw [<-e,hq] at this;cases this
 have q2:kq≠km:=fun e=>by have:=hR.hm;rw [<-e,hq] at this;cases this
 have q3:kq≠kp:=fun e=>by have:=hR.hk;rw [<-e,hq] at this;cases this
 have hc:=hR.hc
 have hm:=hR.hm
 have hk:=hR.hk
 refine BR func72 (tA cc72) (tB cc72) (tC cc72) rfl Dg fun hf=>?_;unfold ck72
 obtain ⟨l1,l2,l3⟩:=hR.lt hf
 have l4:kq<n:=Ca hf hq (fun e=>by cases e)
 simp (disch:=omega) only [go_sem]
 refine Ae (fun c9=>?_) (fun c9=>?_)
 .have c9:v.k=9:=by simpa using c9
  rw [iP c9] at A9
  have A9:R=(A6,[Dc.mk path v.s]):=A9.symm
  subst A9
  simp (disch:=omega) only [go_sem]
  refine Ac.x (Ie (hR.of fun j hj=>?_) path FM (by omega) v.s kq gq cap ?_ _) ?_
  .simp only [A8]
   repeat rw [iN (by omega)]
  .simp only [A8]
   repeat rw [iN (by omega)]
   exact hq
  simp only [FH,zlh,zli]
  simp (disch:=omega) only [go_sem]
  refine Dr (R:=[.mk path v.s]) hR ?_ ?_ ?_ fun j hj j1 j2 j3=>?_
  all_goals (simp (disch:=omega) only [go_sem])
 have c9:¬v.k=9:=by simpa using c9
 rw [iN c9] at A9
 simp (disch:=omega) only [go_sem]
 refine AH.f (fun _=>VX _ _) ?_
 simp (disch:=omega) only [go_sem]
 refine Ae (fun c0=>?_) (fun c0=>?_)
 .have c0:v.k=0∧Gk tw=true:=by simpa using c0
  rw [iP c0.1,Ja,iP c0.2] at A9
  have A9:R=(A6,[Dc.mk path GN]):=A9.symm
  subst A9
  simp (disch:=omega) only [go_sem]
  refine Ac.x (Ie (hR.of fun j hj=>?_) path FM (by omega) GN kq gq cap ?_ _) ?_
  .simp only [A8]
   repeat rw [iN (by omega)]
  .simp only [A8]
   repeat rw [iN (by omega)]
   exact hq
  simp only [FH,zlh,zli]
  simp (disch:=omega) only [go_sem]
  refine Dr (R:=[.mk path GN]) hR ?_ ?_ ?_ fun j hj j1 j2 j3=>?_
  all_goals (simp (disch:=omega) only [go_sem])
 simp (disch:=omega) only [go_sem]
 refine Ae (fun s9=>?_) (fun s9=>?_)
 .have s9:v.k=0:=by simpa using s9
  have cn:Gk tw=false:=by simpa [s9] using c0
  rw [iP s9,WL cn] at A9
  subst A9
  simp (disch:=omega) only [go_sem]
  refine Dr hR ?_ ?_ ?_ fun j hj j1 j2 j3=>?_
  all_goals (simp (disch:=omega) only [hc,hm,hk,zle,Nat.add_zero,List.append_nil,go_sem])
 have s9:¬v.k=0:=by simpa using s9
 rw [iN s9] at A9
 simp (disch:=omega) only [go_sem]
 refine Ac.f (hNu _ _) ?_
 simp (disch:=omega) only [go_sem]
 refine Ac.f (hIL _ _) ?_
 simp (disch:=omega) only [go_sem]
 refine Ae (fun cl=>?_) (fun cl=>?_)
 .rw [iP cl] at A9
  rw [iP cl] at V9
  simp (disch:=omega) only [go_sem]
  refine Ae (fun c5=>?_) (fun c5=>?_)
  .have c5:¬v.k=5:=by simpa using c5
   rw [iN c5] at A9
   have A9:R=(A6,[Dc.mk path CR]):=A9.symm
   subst A9
   simp (disch:=omega) only [go_sem]
   refine Ac.x (Ie (hR.of fun j hj=>?_) path FM (by omega) CR kq gq cap ?_ _) ?_
   .simp only [A8]
    repeat rw [iN (by omega)]
   .simp only [A8]
    repeat rw [iN (by omega)]
    exact hq
   simp only [FH,zlh,zli]
   simp (disch:=omega) only [go_sem]
   refine Dr (R:=[.mk path CR]) hR ?_ ?_ ?_ fun j hj j1 j2 j3=>?_
   all_goals (simp (disch:=omega) only [go_sem])
  have c5:v.k=5:=by simpa using c5
  rw [iP c5] at A9
  subst A9
  simp (disch:=omega) only [go_sem]
  refine Ac.f (V9 _ _) ?_
  simp (disch:=omega) only [go_sem]
  refine Ac.x (hL tn (DM (Cp tw)) picks path (by omega) Ht QT _ c km kp gp P kq gq cap path.length _ (hR.of fun j hj=>?_) ?_ rfl hP) ?_
  .simp only [A8]
   repeat rw [iN (by omega)]
  .simp only [A8]
   repeat rw [iN (by omega)]
   exact hq
  simp only [FH,zlh,zli]
  simp (disch:=omega) only [go_sem]
  refine Dr hR ?_ ?_ ?_ fun j hj j1 j2 j3=>?_
  all_goals (simp (disch:=omega) only [go_sem])
 rw [iN (by simp [cl])] at A9
 simp (disch:=omega) only [hc,go_sem]
 refine Aq.f (fun _ Al e=>Yz doc hd.len tn _ _) ?_
 simp (disch:=omega) only [go_sem]
 refine Ae (fun cf=>?_) (fun cf=>?_)
 .rw [iP cf] at A9
  have TU:=TZ doc hd tn v h0 h1
  obtain ⟨o,ho⟩:=A5 (EK doc tn v)
  rw [ho] at TU A9
  unfold oV at TU
  simp (disch:=omega) only [hc,go_sem]
  refine Aq.f (fun _ Al e=>TU _ _) ?_
  simp (disch:=omega) only [go_sem]
  refine ⟨by omega,?_⟩
  refine Ae (fun cs=>?_) (fun cs=>?_)
  .cases o with
   |none=>cases cs
   |some x=>
    dsimp only at A9
    subst A9
    simp (disch:=omega) only [go_sem]
    refine Dr hR ?_ ?_ ?_ fun j hj j1 j2 j3=>?_
    all_goals (simp (disch:=omega) only [hc,hm,hk,zle,Nat.add_zero,List.append_nil,go_sem])
  .cases o with
   |some x=>cases cs
   |none=>
    have A9:R=(A6,[Dc.mk path CR]):=A9.symm
    subst A9
    simp (disch:=omega) only [go_sem]
    refine Ac.x (Ie (hR.of fun j hj=>?_) path FM (by omega) CR kq gq cap ?_ _) ?_
    .simp only [A8]
     repeat rw [iN (by omega)]
    .simp only [A8]
     repeat rw [iN (by omega)]
     exact hq
    simp only [FH,zlh,zli]
    simp (disch:=omega) only [go_sem]
    refine Dr (R:=[.mk path CR]) hR ?_ ?_ ?_ fun j hj j1 j2 j3=>?_
    all_goals (simp (disch:=omega) only [go_sem])
 rw [iN (by simp [cf])] at A9
 have OC:=UE v hv
 have VH:=SR v
 obtain ⟨x,hx⟩:=A5 ((AA v sT).getD A6)
 obtain ⟨s,hs⟩:=A5 ((AA v sT).isSome)
 rw [hx,hs] at OC VH
 have hcm:=Mn doc hd.len tn
 simp (disch:=omega) only [go_sem]
 refine Ac.f (OC _ _) ?_
 simp (disch:=omega) only [hc,go_sem]
 refine AC.f (fun _ Al e=>hcm _ _) ?_
 simp (disch:=omega) only [hc,go_sem]
 refine AC.f (fun _ Al e=>Ai3 (U:=.rw kp gp P.length) hd ((e c (.inl (by omega))).trans ?_) ((e km (.inl (by omega))).trans ?_) x.s tn _) ?_
 case refine_3=>
  simp (disch:=omega) only [go_sem]
  refine Ae (fun cc=>?_) (fun cc=>?_)
  .have Fn:R=Ey path CR:=by
    rw [<-A9]
    cases ht:typO v with
    |none=>rfl
    |some on=>
     rw [VH] at ht
     split at ht
     .rename_i hcnd
      cases ht
      have k6:v.k=6:=Ov (by rw [VH,iP hcnd])
      dsimp only
      rw [iN (fun hh=>by simp [k6,hcnd.1,hcnd.2,hh.1,hh.2] at cc)]
     .cases ht
   have Fn:R=(A6,[Dc.mk path CR]):=Fn
   subst Fn
   simp (disch:=omega) only [go_sem]
   refine Ac.x (Ie (hR.of fun j hj=>?_) path FM (by omega) CR kq gq cap ?_ _) ?_
   .simp only [A8]
    repeat rw [iN (by omega)]
   .simp only [A8]
    repeat rw [iN (by omega)]
    exact hq
   simp only [FH,zlh,zli]
   simp (disch:=omega) only [go_sem]
   refine Dr (R:=[.mk path CR]) hR ?_ ?_ ?_ fun j hj j1 j2 j3=>?_
   all_goals (simp (disch:=omega) only [go_sem])
  .have TS:v.k=6∧s=true∧x.k=3∧F0 doc tn=true∧x.s∈Et doc tn:=by simpa [and_assoc] using cc
   obtain ⟨k6,s1,x3,cb,xp⟩:=TS
   rw [iP ⟨s1,x3⟩] at VH
   rw [VH] at A9
   dsimp only at A9
   rw [iP ⟨cb,xp⟩] at A9
   subst A9
   have VG:2<=AG v:=by
    cases hg:AA v sT with
    |none=>rw [hg] at hs;subst s1;cases hs
    |some y=>
     have:=B1 (CB hg)
     have:=CT y
     rw [AE]
     omega
   simp (disch:=omega) only [go_sem]
   refine Ac.x (hO x.s picks path k6 VG Ht QT _ c km kp gp P kq gq cap path.length _ (hR.of fun j hj=>?_) ?_ rfl hP) ?_
   .simp only [A8]
    repeat rw [iN (by omega)]
   .simp only [A8]
    repeat rw [iN (by omega)]
    exact hq
   simp only [FH,zlh,zli]
   simp (disch:=omega) only [go_sem]
   refine Dr hR ?_ ?_ ?_ fun j hj j1 j2 j3=>?_
   all_goals (simp (disch:=omega) only [go_sem])
 all_goals (simp (disch:=omega) only [hc,hm,go_sem])
theorem Ag5 (doc:List Aw) (hd:DocOk doc) (v:Ag):v.Fit->v.Rng->PM doc v:=by
 have hzf:A6.Fit:=DC
 have Sw:A6.Rng:=.mk _ (by decide) (by decide) (by simp [A6,Ag.items_mk])
 have hz:PM doc A6:=by
  refine J1 doc A6 (JC doc hd A6 hzf Sw.l Sw.u (I7 doc A6 hzf fun x hx=>?_) ?_)
  .simp [A6,Ag.items_mk] at hx
  .intro on picks path h6
   simp [A6,Ag.k_mk] at h6
 exact Ag.ind (Q:=fun v=>v.Fit->v.Rng->PM doc v) (fun v ih hv hr=>J1 doc v (JC doc hd v hv hr.l hr.u (I7 doc v hv fun x hx=>ih x hx (hv.x hx) (hr.x hx)) (TX doc v hv (fun x hx=>ih x hx (hv.x hx) (hr.x hx)) hz))) v
def Vp:List Int->Prop
 | []=>True
 | [_]=>True
 |a::b::r=>¬(a=1∧b=1)∧Vp (b::r)
inductive Ok:List Pk->Prop
 | mk (l:List Pk):(∀(i j:Nat) p q,i<j->l[i]?=some p->l[j]?=some q->¬(p.on=q.on∧p.key=q.key))->(∀p∈l,Vp p.tw)->(∀p∈l,Ok p.picks)->Ok l
theorem Ok.d:Ok l->∀(i j:Nat) p q,i<j->l[i]?=some p->l[j]?=some q->¬(p.on=q.on∧p.key=q.key) | .mk _ h _ _=>h
theorem Ok.r:Ok l->∀p∈l,Vp p.tw | .mk _ _ h _=>h
theorem Ok.x:Ok l->∀p∈l,Ok p.picks | .mk _ _ _ h=>h
theorem TD:∀(fs:List GZ) (j:Nat) (tn:qB) (tw:List Int) (picks:List Pk) (path:List Ag) (r:Gt),r∈Gz fs j tn tw picks path->∃(i:Nat) (f:GZ),fs[i]?=some f∧r=f tn tw picks (path++[Fo (j+i:Nat)])∧(Gz fs j tn tw picks path)[i]?=some r
 | [],j,tn,tw,picks,path,r,h=>by rw [Gz] at h;cases h
 |f::fs,j,tn,tw,picks,path,r,h=>by
  rw [Gz] at h
  rcases List.mem_cons.1 h with rfl | h
  .exact ⟨0,f,rfl,rfl,by rw [Gz];exact List.getElem?_cons_zero⟩
  .obtain ⟨i,g,h1,h2,h3⟩:=TD fs (j+1) tn tw picks path r h
   refine ⟨i+1,g,by simpa using h1,?_,by rw [Gz];simpa using h3⟩
   rw [h2]
   have:(j+1+i:Nat)=j+(i+1):=by omega
   rw [this]
theorem TI:∀(fs:List GZ) (j:Nat) (tn:qB) (tw:List Int) (picks:List Pk) (path:List Ag) (i:Nat),(Gz fs j tn tw picks path)[i]?=(fs[i]?).map fun f=>f tn tw picks (path++[Fo (j+i:Nat)])
 | [],j,tn,tw,picks,path,i=>by rw [Gz];simp
 |f::fs,j,tn,tw,picks,path,0=>by rw [Gz,List.getElem?_cons_zero,List.getElem?_cons_zero];rfl
 |f::fs,j,tn,tw,picks,path,i+1=>by
  rw [Gz,List.getElem?_cons_succ,List.getElem?_cons_succ,TI fs (j+1)]
  have:(j+1+i:Nat)=j+(i+1):=by omega
  rw [this]
theorem K0 {Q:Gt->Prop} (h1:∀s,(v.k≠0)->Q (Ey path s)) (h2:v.k=0->Q (Ja tw path))
 (h3:v.k=5->Cu (Cp tw)=true->Q (Gl (v.items.map (A7 doc)) tn (DM (Cp tw)) picks path)) (h4:v.k≠0->Cu (Cp tw)=false->Ex doc tn=true->∀x,EK doc tn v=some x->Q (x,[]))
 (h5:v.k=6->Cu (Cp tw)=false->Ex doc tn=false->∀on,typO v=some on->F0 doc tn=true->on∈Et doc tn->Q (H0 v.keys (v.items.map (A7 doc)) on picks path)):Q (A7 doc v tn tw picks path):=by
 rw [CV,JW]
 split
 .rename_i c;exact h1 _ (by omega)
 split
 .rename_i c;exact h2 c
 rename_i c9 c0
 split
 .rename_i c
  split
  .rename_i c5;exact h3 c5 c
  .exact h1 _ c0
 rename_i c
 have c:Cu (Cp tw)=false:=by simpa using c
 split
 .rename_i cl
  split
  .rename_i x hx;exact h4 c0 c cl x hx
  .exact h1 _ c0
 rename_i cl
 have cl:Ex doc tn=false:=by simpa using cl
 split
 .exact h1 _ c0
 .rename_i on IH
  split
  .rename_i hc;exact h5 (Ov IH) c cl on IH hc.1 hc.2
  .exact h1 _ c0
theorem N7 {x:Ag} (h:EK doc tn v=some x):1<=x.k∧x.k<=4∧x.items=[]∧x.keys=[]:=by
 unfold EK Ju at h
 repeat' split at h
 all_goals first
  | (cases h;done)
  | (cases h;exact ⟨by first | (show (1:Int)<=2;decide) | (show (1:Int)<=3;decide) | (show (1:Int)<=4;decide) | (show (1:Int)<=1;decide),by first | (show (2:Int)<=4;decide) | (show (3:Int)<=4;decide) | (show (4:Int)<=4;decide) | (show (1:Int)<=4;decide),rfl,rfl⟩)
theorem T0 (h6:v.k=6) {on:qB} {r:Pk×Gt} (h:r∈Gx v.keys (v.items.map (A7 doc)) on path picks) :
 r.1∈picks∧r.1.on=on∧r.2=A7 doc ((AA v r.1.key).getD A6) r.1.tn r.1.tw r.1.picks (path++[CW r.1.key]):=by
 unfold Gx at h
 obtain ⟨p,hp,rfl⟩:=List.mem_map.1 h
 obtain ⟨h1,h2⟩:=List.mem_filter.1 hp
 exact ⟨h1,by simpa using h2,by rw [Ho doc v h6]⟩
theorem Wt {K:List qB} {L:List Ag} (hn:K.Nodup) {i:Nat} {k:qB} {x:Ag} (hk:K[i]?=some k) (hx:L[i]?=some x):AA (EV K L) k=some x:=by
 have key:∀(K:List qB) (i j:Nat),K.Nodup->K[i]?=some k->ix k K j=((j+i:Nat):Int):=by
  intro K
  induction K with
  |nil=>intro i j _ h;simp at h
  |cons a K ih=>
   intro i j hn h
   rw [List.nodup_cons] at hn
   rw [ix]
   cases i with
   |zero=>
    simp at h
    rw [iP h.symm]
    rfl
   |succ i=>
    rw [List.getElem?_cons_succ] at h
    rw [iN (fun e=>hn.1 (by rw [<-e];exact zla h)),ih i (j+1) hn.2 h]
    congr 1
    omega
 have e:=key K i 0 hn hk
 have h0:(0:Int)<=((0+i:Nat):Int):=Int.natCast_nonneg _
 unfold AA EV
 rw [iP (by rfl),Ag.keys_mk,Ag.items_mk,e,iP h0]
 simpa using hx
theorem Vp.tail {w:List Int} (h:Vp w):Vp w.tail:=by
 cases w with
 |nil=>trivial
 |cons a w=>
  cases w with
  |nil=>trivial
  |cons b w=>exact h.2
end
open Go.Eng Go.KL
set_option maxRecDepth 100000
def ck911:CC:=cK (a:=cF [1] [] [] f15) (by delta f15;simp only [go_sem];rfl)
theorem cc911:A3 f15=(false,some ck911.erase,some [(.c 8 5 true),(.t 9)]):=by kernel_rfl
def ck912:CC:=cK (a:=cF [1] [] [] f30) (by delta f30;simp only [go_sem];rfl)
theorem cc912:A3 f30=(false,some ck912.erase,some [(.c 8 5 true),(.t 9)]):=by kernel_rfl
end Go.Proofs.YtgfidgoefioigaaGreatDoor
namespace Go.Eng
set_option linter.all false
def Yw (n:Nat):CH->Prop
 | []=>True
 | (k,c)::r=>k<n∧c.und n∧Yw n r
theorem MD {n:Nat}:∀{ws:CH},Yw n ws->∀x∈ws,x.1<n∧x.2.und n
 | [],_,x,h=>by cases h
 | (k,c)::r,hw,x,h=>by
  rcases List.mem_cons.1 h with rfl | h
  .exact ⟨hw.1,hw.2.1⟩
  .exact MD hw.2.2 x h
theorem AO.e0x {P:Program} {f:FuncId} {hp ws:CH} {n:Nat} {args args':List AV} {i m:Nat} {r:AV} (hi:args[i]?=some .e0) (VA:args'=args.set i (.rw n 0 0)) (hws:(∀k,n<=k->gc hp k=.no)->Yw n ws) (hr0:r.purR=true)
 (c:AU P f ((n,.rc 0 m 0 [])::hp) (n+1) args' (ws++(n,.rc 0 m 0 [])::hp) (n+1) r):AU P f hp n args (ws++hp) n r:=by
 refine ⟨c.1,fun h J w vs hs ha=>?_⟩
 have hw:=MD (hws hs.free)
 have c1:=AO.e0 hi VA (fun x hx=>(hw x hx).1) c
 refine (c1.2 h J w vs hs ha).mono fun _ w' ⟨v,he,h',ρ',Al,n',r',⟨e1,e2,e3⟩,hh,hr,hm,Cr,hk,hl⟩=>?_
 subst e1 e2 e3
 have r2:Ck J (YP ρ' n):=fun k g x e=>by
  have:k<n:=by
   rcases Nat.lt_or_ge k n with q | q
   .exact q
   .rw [hs.fr k g q] at e;cases e
  rw [C4 this]
  exact hr _ _ _ e
 have r3:Ck (YP ρ' n) ρ':=fun k g x e=>(Yt e).1
 have gno:gc hp n=.no:=hs.free n (zna n)
 have gn:gc (ws++hp) n=.no:=by
  rcases Ev (ws:=ws) (hp:=hp) n with ⟨_,e⟩ | ⟨c,hm,e⟩
  .rw [e,gno]
  .have:=(hw _ hm).1;omega
 have ge:∀j,j≠n->gc (ws++(n,Ak.rc 0 m 0 [])::hp) j=gc (ws++hp) j:=fun j hj=>Rs (fun e=>hj e.symm)
 have own:∀j g,(gc (ws++hp) j).own g->(gc (ws++(n,Ak.rc 0 m 0 [])::hp) j).own g:=fun j g q=>by
  by_cases hj:j=n
  .subst hj;rw [gn] at q;cases q
  .rw [ge j hj];exact q
 have lv:∀b,AI (YP ρ' n) (ws++hp) b->AI ρ' (ws++(n,Ak.rc 0 m 0 [])::hp) b:=fun b ⟨j,g,c,q,x⟩=>⟨j,g,c,own j g q,r3 _ _ _ x⟩
 refine ⟨v,he,h',YP ρ' n,_,_,_,⟨rfl,rfl,rfl⟩,hh,r2,⟨hm.hh,fun j=>?_,fun j j' g g' b c c' q q' x x'=>hm.inj j j' g g' b c c' (own j g q) (own j' g' q') (r3 _ _ _ x) (r3 _ _ _ x'),fun b hb=>hm.hid b (lv b hb),fun b hb=>hm.lt b (lv b hb),fun k g hk=>?_,fun j g g' x q y=>?_,hm.gl⟩,.pu _ _ (AV.purR_rel Cr hr0),hk,fun b hb=>hl b (lv b hb)⟩
 .by_cases hj:j=n
  .subst hj;rw [gn];trivial
  .have s:=hm.ch j
   rw [ge j hj] at s
   rcases Ev (ws:=ws) (hp:=hp) j with ⟨_,e⟩ | ⟨c,hcm,e⟩
   .rw [e] at s ⊢
    have sb:=Ak.back hr (hs.ch j) s
    exact Ak.sat_mono (BQ.refl _) r2 (fun _ _ _ _ _=>rfl) sb
   .rw [e] at s ⊢
    obtain ⟨k1,k2⟩:=hw _ hcm
    exact Ak.cut s k1 k2
 .unfold YP
  rw [iN (by omega)]
 .have hj:j≠n:=fun e=>by subst e;rw [gn] at q;cases q
  exact hm.gens j g g' x (by rw [ge j hj];exact q) (r3 _ _ _ y)
end Go.Eng
namespace Go.Proofs.YtgfidgoefioigaaGreatDoor
open Go.Eng
set_option linter.all false
set_option maxRecDepth 20000
set_option maxHeartbeats 1000000
theorem Ty {U β:Type} {f:U->List β} {b:U->Nat}:∀{l:List U},(∀x∈l,(f x).length<=b x)->(l.flatMap f).length<=(l.map b).sum
 | [],_=>by simp
 |x::l,h=>by
  rw [zy,zu,zln,z2g]
  have h1:=h x (by simp)
  have h2:=Ty (l:=l) fun y hy=>h y (by simp [hy])
  omega
theorem YB (l:List Pk) (W:Nat):(l.map fun p=>W*(1+AF p.picks)).sum=W*AF l:=by
 induction l with
 |nil=>simp [AF]
 |cons x l ih=>rw [zln,z2g,ih,AF,Cs];simp only [Nat.mul_add]
theorem PX (doc:List Aw) (tn:qB) (tw:List Int) (picks:List Pk) (path:List Ag) (K:Nat):∀(l:List Ag) (j:Nat),(∀x∈l,∀path,(A7 doc x tn tw picks path).2.length<=AG x*K)->((Gz (l.map (A7 doc)) j tn tw picks path).flatMap (·.2)).length<=Ci l*K
 | [],j,_=>by rw [List.map_nil,Gz];simp
 |x::l,j,h=>by
  rw [zln,Gz,zy,zu,Ci,Nat.add_mul]
  have h1:=h x (by simp) (path++[Fo j])
  have h2:=PX doc tn tw picks path K l (j+1) fun y hy=>h y (by simp [hy])
  omega
theorem LU {U:Type} (q:U->Bool) (f:U->Nat):∀l:List U,((l.filter q).map f).sum<=(l.map f).sum
 | []=>zna _
 |p::l=>by
  have:=LU q f l
  rw [List.filter_cons]
  split
  .rw [zln,zln,z2g,z2g]
   omega
  .rw [zln,z2g]
   omega
theorem E6 (doc:List Aw) (v:Ag):∀tn tw picks path,(A7 doc v tn tw picks path).2.length<=AG v*(1+AF picks):=by
 have hz:∀tn tw picks path,(A7 doc A6 tn tw picks path).2.length<=1:=fun tn tw picks path=>by
  rw [NV,zFn,Ja]
  split<;>simp [Ey]
 refine Ag.ind (Q:=fun v=>∀tn tw picks path,(A7 doc v tn tw picks path).2.length<=AG v*(1+AF picks)) (fun v ih tn tw picks path=>?_) v
 have h1:1<=AG v*(1+AF picks):=Nat.mul_pos (CT v) (by omega)
 have hle:Ci v.items<=AG v:=by rw [AE];omega
 refine K0 (Q:=fun R=>R.2.length<=AG v*(1+AF picks)) (fun s _=>by simpa [Ey] using h1) (fun _=>?_) (fun _ _=>?_) (fun _ _ _ x _=>by simp) (fun h6 _ _ on _ _ _=>?_)
 .rw [Ja]
  split
  .simpa [Ey] using h1
  .simp
 .dsimp only [Gl]
  refine znc (PX doc tn (DM (Cp tw)) picks path (1+AF picks) v.items 0 fun x hx path=>ih x hx _ _ _ _) (Nat.mul_le_mul_right _ hle)
 .dsimp only [H0]
  have hb:∀r∈Gx v.keys (v.items.map (A7 doc)) on path picks,r.2.2.length<=AG v*(1+AF r.1.picks):=fun r hr=>by
   obtain ⟨_,_,e⟩:=T0 h6 hr
   rw [e]
   cases hg:AA v r.1.key with
   |none=>exact znc (hz _ _ _ _) (Nat.mul_pos (CT v) (by omega))
   |some x=>
    have hx:=CB hg
    exact znc (ih x hx _ _ _ _) (Nat.mul_le_mul_right _ (znc (B1 hx) hle))
  have h2:=Ty (f:=fun r:Pk×Gt=>r.2.2) (b:=fun r=>AG v*(1+AF r.1.picks)) hb
  have h3:((Gx v.keys (v.items.map (A7 doc)) on path picks).map fun r=>AG v*(1+AF r.1.picks)).sum<=AG v*AF picks:=by
   rw [<-YB]
   unfold Gx
   rw [List.map_map]
   show ((picks.filter fun p=>decide (p.on=on)).map fun p=>AG v*(1+AF p.picks)).sum<=_
   exact LU _ _ _
  rw [Nat.mul_add]
  omega
theorem SJ (doc:List Aw) (hd:DocOk doc) (root:qB) (picks:List Pk) (Ht:B6 picks) (v:Ag) (hv:v.Fit) (hr:v.Rng) (hw:AG v<=10000000000) (Da:AG v*(1+AF picks)<=1000000000000) (hp:CH) (m:Nat) :
 Af prog 15 hp m [B0 doc,.s root,.ds (Ab AJ picks),vx v] (.tp [vx (A7 doc v root [] picks []).1,.ds (Ab BD (A7 doc v root [] picks []).2)]):=by
 have hC:=Ag5 doc hd v hv hr root [] picks [] (by simp) Ht (by simp;omega)
 have hct:=E6 doc v root [] picks []
 obtain ⟨R,A9⟩:=A5 (A7 doc v root [] picks [])
 rw [A9] at hC hct ⊢
 have hNm:=UX root
 have hRl:R.2.length<=1000000000000:=by omega
 refine Aj func15 (tA cc911) (tB cc911) (tC cc911) rfl fun hf=>?_;unfold ck911
 simp (disch:=omega) only [go_sem]
 refine LF ((ZJ (k:=m+3) (GK doc) ?_).trans (Co (c:=m+4) (i:=2) (m:=2) (cs:=[.ds (Ab B8 doc),.mp (m+3),.e0]) ?_ rfl)) ?_
 .simp (disch:=omega) only [go_sem]
 .simp (disch:=omega) only [go_sem]
 simp only [List.set_cons_succ,List.set_cons_zero]
 simp (disch:=omega) only [go_sem]
 refine Aq.f (fun _ Al e=>hNm _ _) ?_
 simp (disch:=omega) only [go_sem]
 refine Aq.w (ws:=FH doc (GK doc) (m+4) (m+3) (m+5) 0 [] R.2) (GJ ⟨?_,?_,?_⟩ (by omega) (by omega) (by omega)) rfl
  (fun Al e=>AO.e0x (i:=3) (m:=5) (args':=[.bx (m+4) 0,D1 root [],.ds (Ab AJ picks),.rw (m+18) 0 0,vx v]) rfl rfl (fun hf=>⟨by omega,trivial,by omega,⟨trivial,(show m+3<m+18 by omega),(show m+5<m+18 by omega),trivial⟩,by omega,trivial,trivial⟩) rfl
   (hC _ (m+4) (m+3) (m+5) 0 [] (m+18) 0 0 0 _ ⟨?_,?_,?_⟩ (Ax _ _ _) rfl (by simp;omega))) ?_
 case refine_7=>
  simp only [FH,zlh,zli]
  simp (disch:=omega) only [zle,Nat.zero_add,go_sem]
 all_goals first
  | ((simp (disch:=omega) only [go_sem]);done)
  | (rw [Ai _ _ (by omega),e _ (.inl (by omega))];(simp (disch:=omega) only [go_sem]);done)
  | skip
theorem Uu (doc:List Aw) (hd:DocOk doc) (n:qB) (v:Ag) (h0:-9223372036854775808<=v.n) (h1:v.n<=9223372036854775807) (hp:CH) (m:Nat):Af prog 144 hp m [B0 doc,.s n,vx v] (oV (EK doc n v)):=by
 unfold oV
 obtain ⟨R,hR⟩:=A5 (EK doc n v)
 rw [hR]
 have Jx:=BI doc hd.len n
 have hg:=hd.g n
 have hk:Ff doc n=((Az doc n).getD Dz).k:=by
  unfold Ff
  cases Az doc n<;>rfl
 have Wa:(Az doc n).isSome=false->((Az doc n).getD Dz).k=0:=by
  cases Az doc n<;>simp [Dz,Aw.k_mk]
 unfold EK at hR
 rw [hk] at hR
 unfold Eh at Jx
 obtain ⟨t,ht⟩:=A5 ((Az doc n).getD Dz)
 obtain ⟨s,hs⟩:=A5 ((Az doc n).isSome)
 rw [ht,hs] at Jx Wa
 rw [ht] at hg hR
 obtain ⟨g1,g2,g3⟩:=hg
 have hsc:=CP n
 have i1:BU H1=true:=by decide
 have i2:BU BF=true:=by decide
 have i3:BU Gy=true:=by decide
 have i4:BU B2=true:=by decide
 refine Aj func144 (tA cc144) (tB cc144) (tC cc144) rfl fun hf=>?_;unfold ck144
 simp only [go_sem]
 refine Ae (fun c=>?_) (fun c=>?_)
 .have c:n=H1∧v.k=2∧-2147483648<=v.n∧v.n<=2147483647:=by
   have:n=H1∧v.k=2∧-2147483648<=v.n∧v.n<2147483648:=by simpa [H1,and_assoc] using c
   exact ⟨this.1,this.2.1,this.2.2.1,by omega⟩
  rw [c.1,iP i1,Ju,iP ⟨rfl,c.2⟩] at hR
  subst hR
  simp only [go_sem]
  rfl
 have ca:¬(n=H1∧v.k=2∧-2147483648<=v.n∧v.n<=2147483647):=by
  intro h
  have h4:v.n<2147483648:=by omega
  simp only [H1] at h
  simp [h.1,h.2.1,h.2.2.1,h4] at c
 clear c
 simp only [go_sem]
 refine Ae (fun c=>?_) (fun c=>?_)
 .simp (disch:=omega) only [c,go_sem]
  have c:n=BF∧v.k=3:=by simpa [BF] using c
  rw [c.1,iP i2,Ju,iN (by rw [<-c.1];exact ca),iP ⟨.inl rfl,c.2⟩] at hR
  subst hR
  try rfl
 have cb:¬(n=BF∧v.k=3):=by
  intro h
  simp only [BF] at h
  simp [h.1,h.2] at c
 simp only [go_sem]
 refine Ae (fun c=>?_) (fun c=>?_)
 .have c:n=Gy∧v.k=3:=by simpa [Gy] using c
  rw [c.1,iP i3,Ju,iN (by rw [<-c.1];exact ca),iP ⟨.inr rfl,c.2⟩] at hR
  subst hR
  simp only [go_sem]
  try rfl
 have cc:¬(n=Gy∧v.k=3):=by
  intro h
  simp only [Gy] at h
  simp [h.1,h.2] at c
 simp only [go_sem]
 refine Ae (fun c=>?_) (fun c=>?_)
 .have c:n=B2∧v.k=1:=by simpa [B2] using c
  have d1:¬((B2=BF∨B2=Gy)∧v.k=3):=fun h=>by rw [c.2] at h;exact absurd h.2 (by decide)
  have d2:¬(B2=Gy∧v.k=2):=fun h=>by rw [c.2] at h;exact absurd h.2 (by decide)
  rw [c.1,iP i4,Ju,iN (by rw [<-c.1];exact ca),iN d1,iN d2,iP ⟨rfl,c.2⟩] at hR
  subst hR
  simp only [go_sem]
  try rfl
 have cd:¬(n=B2∧v.k=1):=by
  intro h
  simp only [B2] at h
  simp [h.1,h.2] at c
 simp only [go_sem]
 refine Ae (fun c=>?_) (fun c=>?_)
 .have c:n=Gy∧v.k=2:=by simpa [Gy] using c
  have d1:¬((Gy=BF∨Gy=Gy)∧v.k=3):=fun h=>by rw [c.2] at h;exact absurd h.2 (by decide)
  rw [c.1,iP i3,Ju,iN (by rw [<-c.1];exact ca),iN d1,iP ⟨rfl,c.2⟩] at hR
  subst hR
  simp only [go_sem]
  refine Ac.f (J6 v.n h0 h1 _ _) ?_
  simp only [go_sem]
  try rfl
 have ce:¬(n=Gy∧v.k=2):=by
  intro h
  simp only [Gy] at h
  simp [h.1,h.2] at c
 have hsN:Ju n v=none:=by
  rw [Ju,iN ca,iN (fun h=>by rcases h with ⟨h | h,h2⟩;exact cb ⟨h,h2⟩;exact cc ⟨h,h2⟩),iN ce,iN cd]
 rw [hsN] at hR
 simp only [go_sem]
 refine Ac.f (Jx _ _) ?_
 simp only [go_sem]
 refine Ac.f (hsc _ _) ?_
 simp only [go_sem]
 refine Ae (fun c=>?_) (fun c=>?_)
 .have hRn:R=none:=by
   rw [<-hR]
   by_cases h1:BU n=true
   .rw [iP h1]
   .rw [iN h1]
    refine iN fun h=>?_
    have Gi:BU n=false:=by simpa using h1
    have JX:s=true:=by
     cases JZ:s with
     |true=>rfl
     |false=>have:=Wa JZ;rw [h.1] at this;exact absurd this (by decide)
    simp [Gi,JX,h.1,h.2.1] at c
  subst hRn
  simp only [go_sem]
  try rfl
 have c:BU n=false∧s=true∧t.k=4∧v.k=4:=by simpa [and_assoc] using c
 have hR2:R=if v.s∈F7 t.members then some (enV v.s) else none:=by
  rw [<-hR]
  simp [c.1,c.2.2.1,c.2.2.2]
 have hR:=hR2.symm
 have Kb:∀e∈t.members,e.length=2:=fun e he=>by obtain ⟨x,y,rfl⟩:=g1.mem e he;rfl
 have Kb:=eq_true Kb
 simp only [go_sem]
 refine loop (fun p:Nat×Nat=>⟨[(5,.bx (m+1) 0),(6,.bx (m+2) 0),(8,.bx (m+3) 0),(10,.i .i64 p.1)],(m+3,.bx [.i .i64 t.k,.s t.n,.ds t.impl,.ds t.dirs,.ds (Ab Bv t.fields),.ds t.members,.ds t.inputs])::(m+2,.bx [.i .i64 0,.i .i64 0,.s ⟨#[]⟩,.e0,.e0])::(m+1,.bx [.i .i64 v.k,.i .i64 v.n,.s v.s,.ds (Ab Ar v.items),.ds (Bd v.keys)])::hp,p.2⟩)
  (fun p=>p.1<=t.members.length∧m+4<=p.2∧(if v.s∈F7 (t.members.drop p.1) then some (enV v.s) else none)=R) (fun p=>t.members.length - p.1) (0,m+4) ?_ ?_ (fun ⟨j,k⟩ hj=>?_)
 .exact ⟨by simp,by simp,hR⟩
 .refine L5 hf ?_ ?_ ?_ ?_ ?_ (zna _)
  all_goals (simp (disch:=omega) only [go_sem])
 dsimp only at hj
 obtain ⟨Cg,Bc,As⟩:=hj
 simp (disch:=omega) only [go_sem]
 refine Ae (fun q=>?_) (fun q=>?_)
 .have q:j<t.members.length:=by simpa using q
  obtain ⟨e,ee⟩:∃e,t.members[j]?=some e:=⟨t.members[j],by simp [q]⟩
  obtain ⟨x,y,rfl⟩:=g1.mem e (zla ee)
  rw [A2 ee] at As
  have As:(if v.s∈x::F7 (t.members.drop (j+1)) then some (enV v.s) else none)=R:=As
  simp (disch:=omega) only [q,Kb,Ad ee,go_sem]
  refine Ae (fun c1=>?_) (fun c1=>?_)
  .have c1:x=v.s:=by simpa using c1
   rw [iP (by simp [c1])] at As
   subst As
   simp (disch:=omega) only [go_sem]
   try rfl
  .have c1:¬x=v.s:=by simpa using c1
   have c2:¬v.s=x:=fun e=>c1 e.symm
   simp (disch:=omega) only [go_sem]
   refine ⟨(j+1,_),⟨by dsimp only;omega,by dsimp only;omega,by rw [<-As];simp [c2]⟩,by dsimp only;omega,L5 hf ?_ ?_ ?_ ?_ ?_ (zna _)⟩
   all_goals
    simp (disch:=omega) only [Ap j (by omega),go_sem]
 .have q:j=t.members.length:=by simp at q;omega
  subst q
  rw [List.drop_length,iN (by simp [F7])] at As
  subst As
  simp (disch:=omega) only [go_sem]
  try rfl
