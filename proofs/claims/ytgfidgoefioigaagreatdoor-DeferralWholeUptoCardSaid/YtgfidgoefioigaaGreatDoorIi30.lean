/- Proof. Conditions: none. -/
import Derived.Test.YtgfidgoefioigaaGreatDoorIi29
open Go.Proofs.Tryz
open List renaming cons_append→zlh,nil_append→zli
namespace Go.Proofs.YtgfidgoefioigaaGreatDoor
open Go.Eng
set_option linter.all false
set_option maxRecDepth 20000
theorem Tg {P:Program} {w:World} {name:String} {gb:Nat} {k:IntKind} {zs:List Int} {t:TypeId} {fr:Nat × Nat} (hg:P.globalNamed name=some gb) (h:w.heap[gb]?=some (.cells (zs.map fun z=>Value.int k z).toArray t fr)):Lib.TabIs P w name k zs:=by
 unfold Lib.TabIs World.var?
 rw [hg]
 show (match w.heap[gb]? with
  | some (.cells cs _ _)=>some cs
  | _=>none)=_
 rw [h]
theorem Xg (x:Int) (h0:-9223372036854775808≤x) (h1:x≤9223372036854775807) (hp:CH) (m:Nat):Ah prog 178 hp m [.i .i64 x] (.s (R4 (Lib.itoa x))) :=
 OZ N7 rfl ⟨_,func178,by kernel_rfl,by kernel_rfl⟩ (gb:=0) (fun w ⟨t,fr,h⟩ x h0 h1=>Any.strconv_Itoa N7 x h0 h1 w (Tg (by kernel_rfl) h)) (by simp [IF]) h0 h1
theorem NY (x:Int) (h0:-9223372036854775808≤x) (h1:x≤9223372036854775807) (hp:CH) (m:Nat):Ah prog 171 hp m [.i .i64 x] (.s (R4 (Lib.itoa x))):=by
 refine Am func171 (by kernel_rfl) cc171 cr171 rfl fun hf=>?_;unfold ck171
 simp only [go_sem]
 refine Af.f (Xg x h0 h1 _ _) ?_
 simp only [go_sem]
set_option maxHeartbeats 1000000
abbrev oV (o:Option Ak):AV:=.tp [vx (o.getD AB),.b o.isSome]
theorem WD (s:ByteArray) (hp:CH) (m:Nat):Ah prog 156 hp m [.s s] (vx (enV s)):=by
 refine Am func156 (by kernel_rfl) cc156 cr156 rfl fun hf=>?_;unfold ck156
 simp only [go_sem]
 rfl
def Je (p:ByteArray × List (List AV)):List AV:=[.s p.1,.ds p.2]
attribute [go_sem] Je
def XV (l:List (List AV)):List (ByteArray × List (List AV)):=l.map fun e=>match e with
 | [.s x,.ds y]=>(x,y)
 | _=>(⟨#[]⟩,[])
theorem Aas {t:Az} (ht:DefOk t):t.members=Ad Je (XV t.members):=by
 have key:∀l:List (List AV),(∀e∈l,∃x y,e=[.s x,.ds y])→l=Ad Je (XV l):=by
  intro l
  induction l with
  | nil=>intro _;rfl
  | cons e l ih =>
   intro h
   obtain ⟨x,y,rfl⟩:=h e (by simp)
   have:=ih fun e he=>h e (by simp [he])
   show _::l=Je (x,y)::Ad Je (XV l)
   rw [←this]
   rfl
 exact key _ ht.mem
theorem WO (l:List (List AV)) (h:∀e∈l,∃x y,e=[.s x,.ds y]) (s:ByteArray):((XV l).any fun p=>decide (p.1=s))=decide (s∈Fh l):=by
 induction l with
 | nil=>rfl
 | cons e l ih =>
  obtain ⟨x,y,rfl⟩:=h e (by simp)
  have h2:=ih fun e he=>h e (by simp [he])
  show (decide (x=s)||(XV l).any fun p=>decide (p.1=s))=decide (s∈x::Fh l)
  rw [h2]
  by_cases c:x=s
  .simp [c]
  .have c':¬s=x:=fun e=>c e.symm
   simp [c,c']
theorem TF (l:List (ByteArray × List (List AV))) (q:(ByteArray × List (List AV))→Bool) (k:FuncId) (caps:List AV) (hl:l.length≤9223372036854775806) (hp:CH) (m:Nat) (h:∀x∈l,∀n,Ah prog k hp n ((fun p:ByteArray × List (List AV)=>AV.ag [.s p.1,.ds p.2]) x::caps) (.b (q x))):Ah prog 172 hp m [.ds (Ad Je l),.fn k caps] (.i .i64 (Nd q l 0)):=by
 refine Am func172 (by kernel_rfl) cc172 cr172 rfl fun hf=>?_;unfold ck172
 simp only [go_sem]
 refine loop (fun p:Nat × Nat=>⟨[(0,.ds (Ad Je l)),(1,.fn k caps),(7,.i .i64 l.length),(8,.i .i64 p.1)],hp,p.2⟩) (fun p=>p.1≤l.length∧Nd q l 0=Nd q (l.drop p.1) p.1) (fun p=>l.length - p.1) (0,m) ?_ ?_ (fun ⟨j,n⟩ hj=>?_)
 .exact ⟨by simp,rfl⟩
 .refine Ac ?_ (A6.refl _) (Nat.le_refl _)
  simp only [go_sem]
 dsimp only at hj
 obtain ⟨Cm,Ba⟩:=hj
 simp only [go_sem]
 refine Ai (fun c=>?_) (fun c=>?_)
 .have c:j<l.length:=by simpa using c
  obtain ⟨x,ex⟩:∃x,l[j]?=some x:=⟨l[j],by simp [c]⟩
  have hx:=h x (List.mem_of_getElem? ex) n
  rw [A5 ex,Nd] at Ba
  simp only [c,Ag (Ab Je ex),go_sem]
  refine Af.f (hx) ?_
  simp only [go_sem]
  refine Ai (fun c1=>?_) (fun c1=>?_)
  .rw [if_pos c1] at Ba
   simp only [go_sem]
   rw [Ba]
  .rw [if_neg (by simp [c1])] at Ba
   simp only [go_sem]
   refine ⟨(j+1,n),⟨by dsimp only;omega,Ba⟩,by dsimp only;omega,Ac ?_ (A6.refl _) (Nat.le_refl _)⟩
   simp only [At j (by omega),go_sem]
 .have c:j=l.length:=by simp at c;omega
  subst c
  rw [List.drop_length,Nd] at Ba
  simp only [go_sem]
  rw [Ba]
theorem Ue (l:List (ByteArray × List (List AV))) (q:(ByteArray × List (List AV))→Bool) (k:FuncId) (caps:List AV) (hl:l.length≤9223372036854775806) (hp:CH) (m:Nat) (h:∀x∈l,∀n,Ah prog k hp n ((fun p:ByteArray × List (List AV)=>AV.ag [.s p.1,.ds p.2]) x::caps) (.b (q x))):Ah prog 154 hp m [.ds (Ad Je l),.fn k caps] (.b (l.any q)):=by
 rw [←Nt q l 0]
 refine Am func154 (by kernel_rfl) cc154 cr154 rfl fun hf=>?_;unfold ck154
 simp only [go_sem]
 refine Af.f (TF l q k caps hl _ _ h) ?_
 simp only [go_sem]
theorem Tb (v:Ak) (k:Nat) (hp:CH) (hk:gc hp k=.bx [.i .i64 v.k,.i .i64 v.n,.s v.s,.ds (Ad A2 v.items),.ds (Bv v.keys)]) (x:ByteArray × List (List AV)) (m:Nat) :
  Ah prog 155 hp m [.ag [.s x.1,.ds x.2],.bx k 0] (.b (decide (x.1=v.s))):=by
 refine Am func155 (by kernel_rfl) cc155 cr155 rfl fun hf=>?_;unfold ck155
 have BH:k<m:=BJ hf hk (fun e=>by cases e)
 simp (disch:=omega) only [Aa,hk,go_sem]
theorem Mv (n:ByteArray) (v:Ak) (h0:-9223372036854775808≤v.n) (h1:v.n≤9223372036854775807) (hp:CH) (m:Nat):Ah prog 152 hp m [.s n,vx v] (oV (R8 n v)):=by
 unfold oV
 obtain ⟨R,hR⟩:∃R,R8 n v=R:=⟨_,rfl⟩
 rw [hR]
 unfold R8 at hR
 refine Am func152 (by kernel_rfl) cc152 cr152 rfl fun hf=>?_;unfold ck152
 simp only [go_sem]
 refine Ai (fun c=>?_) (fun c=>?_)
 .have c:n=Kl∧v.k=2∧-2147483648≤v.n∧v.n≤2147483647:=by simpa [Kl,and_assoc] using c
  rw [if_pos c] at hR
  subst hR
  simp only [go_sem]
  refine Af.f (LN _ _ _) ?_
  simp only [go_sem]
 have c:¬(n=Kl∧v.k=2∧-2147483648≤v.n∧v.n≤2147483647):=by
  intro h
  simp only [Kl] at h
  simp [h.1,h.2.1,h.2.2.1,h.2.2.2] at c
 rw [if_neg c] at hR
 simp only [go_sem]
 refine Ai (fun c=>?_) (fun c=>?_)
 .have c:(n=Ci∨n=JM)∧v.k=3:=by simpa [Ci,JM] using c
  rw [if_pos c] at hR
  subst hR
  simp only [go_sem]
  refine Af.f (Iv _ _ _) ?_
  simp only [go_sem]
 have c:¬((n=Ci∨n=JM)∧v.k=3):=by
  intro h
  simp only [Ci,JM] at h
  rcases h with ⟨h | h,h2⟩<;>simp [h,h2] at c
 rw [if_neg c] at hR
 simp only [go_sem]
 refine Ai (fun c=>?_) (fun c=>?_)
 .have c:n=JM∧v.k=2:=by simpa [JM] using c
  rw [if_pos c] at hR
  subst hR
  simp only [go_sem]
  refine Af.f (NY v.n h0 h1 _ _) ?_
  simp only [go_sem]
  refine Af.f (Iv _ _ _) ?_
  simp only [go_sem]
 have c:¬(n=JM∧v.k=2):=by
  intro h
  simp only [JM] at h
  simp [h.1,h.2] at c
 rw [if_neg c] at hR
 simp only [go_sem]
 refine Ai (fun c=>?_) (fun c=>?_)
 .have c:n=Cj∧v.k=1:=by simpa [Cj] using c
  rw [if_pos c] at hR
  subst hR
  simp only [go_sem]
  rfl
 have c:¬(n=Cj∧v.k=1):=by
  intro h
  simp only [Cj] at h
  simp [h.1,h.2] at c
 rw [if_neg c] at hR
 subst hR
 simp only [go_sem]
theorem Ri (doc:List Az) (hd:DocOk doc) (n:ByteArray) (v:Ak) (h0:-9223372036854775808≤v.n) (h1:v.n≤9223372036854775807) (hp:CH) (m:Nat):Ah prog 112 hp m [B5 doc,.s n,vx v] (oV (GQ doc n v)):=by
 have JI:=DX doc hd.len n
 have hg:=hd.g n
 have hs:=Mv n v h0 h1
 have hk:Ft doc n=((A1 doc n).getD Dv).k:=by
  unfold Ft
  cases A1 doc n<;>rfl
 unfold oV at hs ⊢
 unfold GQ
 rw [hk]
 unfold DH at JI
 obtain ⟨t,ht⟩:∃t,(A1 doc n).getD Dv=t:=⟨_,rfl⟩
 rw [ht] at JI hg ⊢
 obtain ⟨g1,g2,g3⟩:=hg
 have hsc:=G9 n
 by_cases c:Ck n=true
 .rw [if_pos c]
  rw [c] at hsc
  refine Am func112 (by kernel_rfl) cc112 cr112 rfl fun hf=>?_;unfold ck112
  simp only [go_sem]
  refine Af.f (hsc _ _) ?_
  simp only [go_sem]
  refine Af.f (hs _ _) ?_
  simp only [go_sem]
 rw [if_neg c]
 have c:Ck n=false:=by simpa using c
 rw [c] at hsc
 have hany:=WO t.members g1.mem v.s
 have hme:=Aas g1
 have Km:(XV t.members).length≤9223372036854775806:=by rw [XV,List.length_map];omega
 obtain ⟨M,hM⟩:∃M,XV t.members=M:=⟨_,rfl⟩
 rw [hM] at hany hme Km
 obtain ⟨o,ho⟩:∃o,(if t.k=4∧v.k=4∧v.s∈Fh t.members then some (enV v.s) else none)=o:=⟨_,rfl⟩
 have hmm:o=if t.k=4∧v.k=4∧(M.any fun p=>decide (p.1=v.s))=true then some (enV v.s) else none:=by
  rw [←ho,hany]
  simp only [decide_eq_true_eq]
 rw [ho]
 refine Am func112 (by kernel_rfl) cc112 cr112 rfl fun hf=>?_;unfold ck112
 simp (disch:=omega) only [Aa,hme,go_sem]
 refine Af.f (hsc _ _) ?_
 simp (disch:=omega) only [Aa,hme,go_sem]
 refine Af.f (JI _ _) ?_
 simp (disch:=omega) only [Aa,hme,go_sem]
 refine AA.f (fun _=>Ue M (fun p=>decide (p.1=v.s)) _ _ Km _ _ fun x hx k=>Tb v (m+1) _ (by (simp (disch:=omega) only [Aa,go_sem])) x k) ?_
 simp (disch:=omega) only [Aa,hme,go_sem]
 refine Ai (fun c=>?_) (fun c=>?_)
 .have c:¬(t.k=4∧v.k=4∧(M.any fun p=>decide (p.1=v.s))=true):=fun h=>by simp [h.1,h.2.1,h.2.2] at c
  rw [hmm,if_neg c]
  simp only [go_sem]
 .have c:t.k=4∧v.k=4∧(M.any fun p=>decide (p.1=v.s))=true:=by simpa [and_assoc] using c
  rw [hmm,if_pos c]
  simp only [go_sem]
  refine Af.f (WD _ _ _) ?_
  simp only [go_sem]
theorem S6 (v:Ak) (hv:v.Fit) (hp:CH) (m:Nat):Ah prog 113 hp m [vx v] (.tp [.s ((AF v sT).getD AB).s,.b ((AF v sT).isSome&&decide (((AF v sT).getD AB).k=3))]):=by
 have h1:=IL v hv sT
 rw [Q3] at h1
 obtain ⟨x,hx⟩:∃x,(AF v sT).getD AB=x:=⟨_,rfl⟩
 obtain ⟨s,hs⟩:∃s,(AF v sT).isSome=s:=⟨_,rfl⟩
 rw [hx,hs] at h1 ⊢
 refine Am func113 (by kernel_rfl) cc113 cr113 rfl fun hf=>?_;unfold ck113
 simp only [go_sem]
 refine Af.f (h1 _ _) ?_
 simp only [go_sem]
theorem Xm (v:Ak):typO v=if (AF v sT).isSome=true∧((AF v sT).getD AB).k=3 then some ((AF v sT).getD AB).s else none:=by
 unfold typO
 cases AF v sT<;>simp
theorem Zz {tw:List Int} {path:List Ak} (h:FSw tw=false):JR tw path=(AB,[]):=by rw [JR,if_neg (by simp [h])]
theorem HX (doc:List Az) (hd:DocOk doc) (v:Ak) (hv:v.Fit) (h0:-9223372036854775808≤v.n) (h1:v.n≤9223372036854775807) (hL:Acb doc v) (hO:Ad0 doc v):Acg doc v:=by
 intro tn tw picks path Fk LQ hwt hp c km kp gp P kq gq cap len n hR hq hl hP
 subst hl
 have hRe:=CY doc v
 obtain ⟨R,AD⟩:∃R,Be doc v tn tw picks path=R:=⟨_,rfl⟩
 rw [AD] at hP ⊢
 rw [hRe,Ms] at AD
 have hNN:=I7 tn tw Fk
 have hNu:=EY tn tw Fk
 have Ma:=Cs tw
 have hIL:=J8 tn (Cz tw) (by omega)
 have hIn:=Ro tn (Cz tw) (by omega)
 have hinl:=No (Cz tw)
 have JG:path.length≤1000000000000:=by omega
 simp only [zlh,zli]
 have Gb:(∀k,n≤k→gc hp k=.no)→wsLt n (E1 doc (Fw doc) c km kp gp P R.2):=fun hf=>hR.wsLt hf
 have n1:=hR.n1
 have n2:=hR.n2
 have n3:=hR.n3
 have q1:kq≠c:=fun e=>by have:=hR.hc;rw [←e,hq] at this;cases this
 have q2:kq≠km:=fun e=>by have:=hR.hm;rw [←e,hq] at this;cases this
 have q3:kq≠kp:=fun e=>by have:=hR.hk;rw [←e,hq] at this;cases this
 have hc:=hR.hc
 have hm:=hR.hm
 have hk:=hR.hk
 refine CP func72 (by kernel_rfl) cc72 cr72 rfl Gb fun hf=>?_;unfold ck72
 obtain ⟨l1,l2,l3⟩:=hR.lt hf
 have l4:kq<n:=BJ hf hq (fun e=>by cases e)
 simp (disch:=omega) only [Aa,go_sem]
 refine Ai (fun c9=>?_) (fun c9=>?_)
 .have c9:v.k=9:=by simpa using c9
  rw [if_pos c9] at AD
  have AD:R=(AB,[Ea.mk path v.s]):=AD.symm
  subst AD
  simp (disch:=omega) only [Aa,go_sem]
  refine Af.x (GL (hR.of fun j hj=>?_) path JG (by omega) v.s kq gq cap ?_ _) ?_
  .simp only [AC]
   repeat rw [if_neg (by omega)]
  .simp only [AC]
   repeat rw [if_neg (by omega)]
   exact hq
  simp only [E1,zlh,zli]
  simp (disch:=omega) only [Aa,go_sem]
  refine C8 (R:=[.mk path v.s]) hR ?_ ?_ ?_ fun j hj j1 j2 j3=>?_
  all_goals (simp (disch:=omega) only [Aa,go_sem])
 have c9:¬v.k=9:=by simpa using c9
 rw [if_neg c9] at AD
 simp (disch:=omega) only [Aa,go_sem]
 refine AA.f (fun _=>hNN _ _) ?_
 simp (disch:=omega) only [Aa,go_sem]
 refine Ai (fun c0=>?_) (fun c0=>?_)
 .have c0:v.k=0∧FSw tw=true:=by simpa using c0
  rw [if_pos c0.1,JR,if_pos c0.2] at AD
  have AD:R=(AB,[Ea.mk path N8]):=AD.symm
  subst AD
  simp (disch:=omega) only [Aa,go_sem]
  refine Af.x (GL (hR.of fun j hj=>?_) path JG (by omega) N8 kq gq cap ?_ _) ?_
  .simp only [AC]
   repeat rw [if_neg (by omega)]
  .simp only [AC]
   repeat rw [if_neg (by omega)]
   exact hq
  simp only [E1,zlh,zli]
  simp (disch:=omega) only [Aa,go_sem]
  refine C8 (R:=[.mk path N8]) hR ?_ ?_ ?_ fun j hj j1 j2 j3=>?_
  all_goals (simp (disch:=omega) only [Aa,go_sem])
 simp (disch:=omega) only [Aa,go_sem]
 refine Ai (fun c00=>?_) (fun c00=>?_)
 .have c00:v.k=0:=by simpa using c00
  have cn:FSw tw=false:=by simpa [c00] using c0
  rw [if_pos c00,Zz cn] at AD
  subst AD
  simp (disch:=omega) only [Aa,go_sem]
  refine C8 hR ?_ ?_ ?_ fun j hj j1 j2 j3=>?_
  all_goals (simp (disch:=omega) only [Aa,hc,hm,hk,List.length_nil,Nat.add_zero,List.append_nil,go_sem])
 have c00:¬v.k=0:=by simpa using c00
 rw [if_neg c00] at AD
 simp (disch:=omega) only [Aa,go_sem]
 refine Af.f (hNu _ _) ?_
 simp (disch:=omega) only [Aa,go_sem]
 refine Af.f (hIL _ _) ?_
 simp (disch:=omega) only [Aa,go_sem]
 refine Ai (fun cl=>?_) (fun cl=>?_)
 .rw [if_pos cl] at AD
  rw [if_pos cl] at hIn
  simp (disch:=omega) only [Aa,go_sem]
  refine Ai (fun c5=>?_) (fun c5=>?_)
  .have c5:¬v.k=5:=by simpa using c5
   rw [if_neg c5] at AD
   have AD:R=(AB,[Ea.mk path Ew]):=AD.symm
   subst AD
   simp (disch:=omega) only [Aa,go_sem]
   refine Af.x (GL (hR.of fun j hj=>?_) path JG (by omega) Ew kq gq cap ?_ _) ?_
   .simp only [AC]
    repeat rw [if_neg (by omega)]
   .simp only [AC]
    repeat rw [if_neg (by omega)]
    exact hq
   simp only [E1,zlh,zli]
   simp (disch:=omega) only [Aa,go_sem]
   refine C8 (R:=[.mk path Ew]) hR ?_ ?_ ?_ fun j hj j1 j2 j3=>?_
   all_goals (simp (disch:=omega) only [Aa,go_sem])
  have c5:v.k=5:=by simpa using c5
  rw [if_pos c5] at AD
  subst AD
  simp (disch:=omega) only [Aa,go_sem]
  refine Af.f (hIn _ _) ?_
  simp (disch:=omega) only [Aa,go_sem]
  refine Af.x (hL tn (DT (Cz tw)) picks path (by omega) LQ hwt _ c km kp gp P kq gq cap path.length _ (hR.of fun j hj=>?_) ?_ rfl hP) ?_
  .simp only [AC]
   repeat rw [if_neg (by omega)]
  .simp only [AC]
   repeat rw [if_neg (by omega)]
   exact hq
  simp only [E1,zlh,zli]
  simp (disch:=omega) only [Aa,go_sem]
  refine C8 hR ?_ ?_ ?_ fun j hj j1 j2 j3=>?_
  all_goals (simp (disch:=omega) only [Aa,go_sem])
 rw [if_neg (by simp [cl])] at AD
 simp (disch:=omega) only [Aa,hc,go_sem]
 refine A3.f (fun _ Ao e=>Ui doc hd.len tn _ _) ?_
 simp (disch:=omega) only [Aa,go_sem]
 refine Ai (fun cf=>?_) (fun cf=>?_)
 .rw [if_pos cf] at AD
  have hlf:=Ri doc hd tn v h0 h1
  obtain ⟨o,ho⟩:∃o,GQ doc tn v=o:=⟨_,rfl⟩
  rw [ho] at hlf AD
  unfold oV at hlf
  simp (disch:=omega) only [Aa,hc,go_sem]
  refine A3.f (fun _ Ao e=>hlf _ _) ?_
  simp (disch:=omega) only [Aa,go_sem]
  refine ⟨by omega,?_⟩
  refine Ai (fun cs=>?_) (fun cs=>?_)
  .cases o with
   | none=>cases cs
   | some x =>
    dsimp only at AD
    subst AD
    simp (disch:=omega) only [Aa,go_sem]
    refine C8 hR ?_ ?_ ?_ fun j hj j1 j2 j3=>?_
    all_goals (simp (disch:=omega) only [Aa,hc,hm,hk,List.length_nil,Nat.add_zero,List.append_nil,go_sem])
  .cases o with
   | some x=>cases cs
   | none =>
    have AD:R=(AB,[Ea.mk path Ew]):=AD.symm
    subst AD
    simp (disch:=omega) only [Aa,go_sem]
    refine Af.x (GL (hR.of fun j hj=>?_) path JG (by omega) Ew kq gq cap ?_ _) ?_
    .simp only [AC]
     repeat rw [if_neg (by omega)]
    .simp only [AC]
     repeat rw [if_neg (by omega)]
     exact hq
    simp only [E1,zlh,zli]
    simp (disch:=omega) only [Aa,go_sem]
    refine C8 (R:=[.mk path Ew]) hR ?_ ?_ ?_ fun j hj j1 j2 j3=>?_
    all_goals (simp (disch:=omega) only [Aa,go_sem])
 rw [if_neg (by simp [cf])] at AD
 have Mc:=S6 v hv
 have hte:=Xm v
 obtain ⟨x,hx⟩:∃x,(AF v sT).getD AB=x:=⟨_,rfl⟩
 obtain ⟨s,hs⟩:∃s,(AF v sT).isSome=s:=⟨_,rfl⟩
 rw [hx,hs] at Mc hte
 have hcm:=Kh doc hd.len tn
 simp (disch:=omega) only [Aa,go_sem]
 refine Af.f (Mc _ _) ?_
 simp (disch:=omega) only [Aa,hc,go_sem]
 refine AG.f (fun _ Ao e=>hcm _ _) ?_
 simp (disch:=omega) only [Aa,hc,go_sem]
 refine AG.f (fun _ Ao e=>Aew (α:=.rw kp gp P.length) hd ((e c (.inl (by omega))).trans ?_) ((e km (.inl (by omega))).trans ?_) x.s tn _) ?_
 case refine_3 =>
  simp (disch:=omega) only [Aa,go_sem]
  refine Ai (fun cc=>?_) (fun cc=>?_)
  .have GF:R=Fc path Ew:=by
    rw [←AD]
    cases ht:typO v with
    | none=>rfl
    | some on =>
     rw [hte] at ht
     split at ht
     .rename_i hcnd
      cases ht
      have k6:v.k=6:=TQ (by rw [hte,if_pos hcnd])
      dsimp only
      rw [if_neg (fun hh=>by simp [k6,hcnd.1,hcnd.2,hh.1,hh.2] at cc)]
     .cases ht
   have GF:R=(AB,[Ea.mk path Ew]):=GF
   subst GF
   simp (disch:=omega) only [Aa,go_sem]
   refine Af.x (GL (hR.of fun j hj=>?_) path JG (by omega) Ew kq gq cap ?_ _) ?_
   .simp only [AC]
    repeat rw [if_neg (by omega)]
   .simp only [AC]
    repeat rw [if_neg (by omega)]
    exact hq
   simp only [E1,zlh,zli]
   simp (disch:=omega) only [Aa,go_sem]
   refine C8 (R:=[.mk path Ew]) hR ?_ ?_ ?_ fun j hj j1 j2 j3=>?_
   all_goals (simp (disch:=omega) only [Aa,go_sem])
  .have SN:v.k=6∧s=true∧x.k=3∧Mw doc tn=true∧x.s∈En doc tn:=by simpa [and_assoc] using cc
   obtain ⟨k6,s1,x3,cb,xp⟩:=SN
   rw [if_pos ⟨s1,x3⟩] at hte
   rw [hte] at AD
   dsimp only at AD
   rw [if_pos ⟨cb,xp⟩] at AD
   subst AD
   have hw2:2≤Bu v:=by
    cases hg:AF v sT with
    | none=>rw [hg] at hs;subst s1;cases hs
    | some y =>
     have:=Cq (DQ hg)
     have:=Es y
     rw [Bn]
     omega
   simp (disch:=omega) only [Aa,go_sem]
   refine Af.x (hO x.s picks path k6 hw2 LQ hwt _ c km kp gp P kq gq cap path.length _ (hR.of fun j hj=>?_) ?_ rfl hP) ?_
   .simp only [AC]
    repeat rw [if_neg (by omega)]
   .simp only [AC]
    repeat rw [if_neg (by omega)]
    exact hq
   simp only [E1,zlh,zli]
   simp (disch:=omega) only [Aa,go_sem]
   refine C8 hR ?_ ?_ ?_ fun j hj j1 j2 j3=>?_
   all_goals (simp (disch:=omega) only [Aa,go_sem])
 all_goals (simp (disch:=omega) only [Aa,hc,hm,go_sem])
theorem Zq (doc:List Az) (hd:DocOk doc) (v:Ak):v.Fit→v.Rng→Mq doc v:=by
 have hzf:AB.Fit:=D5
 have SM:AB.Rng:=.mk _ (by decide) (by decide) (by simp [AB,Ak.items_mk])
 have hz:Mq doc AB:=by
  refine Ia doc AB (HX doc hd AB hzf SM.l SM.u (Hf doc AB hzf fun x hx=>?_) ?_)
  .simp [AB,Ak.items_mk] at hx
  .intro on picks path h6
   simp [AB,Ak.k_mk] at h6
 exact Ak.ind (Q:=fun v=>v.Fit→v.Rng→Mq doc v) (fun v ih hv hr=>Ia doc v (HX doc hd v hv hr.l hr.u (Hf doc v hv fun x hx=>ih x hx (hv.x hx) (hr.x hx)) (RE doc v hv (fun x hx=>ih x hx (hv.x hx) (hr.x hx)) hz))) v
end Go.Proofs.YtgfidgoefioigaaGreatDoor
