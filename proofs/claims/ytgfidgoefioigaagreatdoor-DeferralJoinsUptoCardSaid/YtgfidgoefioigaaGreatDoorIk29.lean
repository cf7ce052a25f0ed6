/- Proof. Conditions: none. -/
import Derived.Test.YtgfidgoefioigaaGreatDoorIk28
open Go.Proofs.Tryz
open List renaming cons_append->zlh,nil_append->zli
namespace Go.Proofs.YtgfidgoefioigaaGreatDoor
open Go.Eng
set_option linter.all false
set_option maxRecDepth 20000
theorem Xz {P:Program} {w:World} {name:String} {gb:Nat} {k:IntKind} {zs:List Int} {t:TypeId} {fr:Nat×Nat} (hg:P.globalNamed name=some gb) (h:w.heap[gb]?=some (.cells (zs.map fun z=>Value.int k z).toArray t fr)):Lib.TabIs P w name k zs:=by
 unfold Lib.TabIs World.var?
 rw [hg]
 show (match w.heap[gb]? with
  |some (.cells cs _ _)=>some cs
  |_=>none)=_
 rw [h]
theorem Aa7 (x:Int) (h0:-9223372036854775808<=x) (h1:x<=9223372036854775807) (hp:CH) (m:Nat):Ae prog 178 hp m [.i .i64 x] (.s (TU (Lib.itoa x))) :=
 QI Oa rfl ⟨_,func178,by kernel_rfl,by kernel_rfl⟩ (gb:=0) (fun w ⟨t,fr,h⟩ x h0 h1=>Any.strconv_Itoa Oa x h0 h1 w (Xz (by kernel_rfl) h)) (by simp [KT]) h0 h1
theorem OH (x:Int) (h0:-9223372036854775808<=x) (h1:x<=9223372036854775807) (hp:CH) (m:Nat):Ae prog 171 hp m [.i .i64 x] (.s (TU (Lib.itoa x))):=by
 refine Al func171 (tA cc171) (tB cc171) (tC cc171) rfl fun hf=>?_;unfold ck171
 simp only [go_sem]
 refine Ac.f (Aa7 x h0 h1 _ _) ?_
 simp only [go_sem]
set_option maxHeartbeats 1000000
abbrev oV (o:Option Ag):AV:=.tp [vx (o.getD A8),.b o.isSome]
theorem Abh (s:qB) (hp:CH) (m:Nat):Ae prog 156 hp m [.s s] (vx (enV s)):=by
 refine Al func156 (tA cc156) (tB cc156) (tC cc156) rfl fun hf=>?_;unfold ck156
 simp only [go_sem]
 rfl
def KN (p:qB × List (List AV)):List AV:=[.s p.1,.ds p.2]
attribute [go_sem] KN
def unP (l:List (List AV)):List (qB×List (List AV)):=l.map fun e=>match e with
 | [.s x,.ds y]=>(x,y)
 |_=>(⟨#[]⟩,[])
theorem Afd {t:Av} (ht:DefOk t):t.members=Ab KN (unP t.members):=by
 have key:∀l:List (List AV),(∀e∈l,∃x y,e=[.s x,.ds y])->l=Ab KN (unP l):=by
  intro l
  induction l with
  |nil=>intro _;rfl
  |cons e l ih=>
   intro h
   obtain ⟨x,y,rfl⟩:=h e (by simp)
   have:=ih fun e he=>h e (by simp [he])
   show _::l=KN (x,y)::Ab KN (unP l)
   rw [<-this]
   rfl
 exact key _ ht.mem
theorem Z8 (l:List (List AV)) (h:∀e∈l,∃x y,e=[.s x,.ds y]) (s:qB):((unP l).any fun p=>decide (p.1=s))=decide (s∈Gc l):=by
 induction l with
 |nil=>rfl
 |cons e l ih=>
  obtain ⟨x,y,rfl⟩:=h e (by simp)
  have h2:=ih fun e he=>h e (by simp [he])
  show (decide (x=s)||(unP l).any fun p=>decide (p.1=s))=decide (s∈x::Gc l)
  rw [h2]
  by_cases c:x=s
  .simp [c]
  .have c':¬s=x:=fun e=>c e.symm
   simp [c,c']
theorem VJ (l:List (qB×List (List AV))) (q:(qB×List (List AV))->Bool) (k:FuncId) (i8:List AV) (hl:l.length<=9223372036854775806) (hp:CH) (m:Nat) (h:∀x∈l,∀n,Ae prog k hp n ((fun p:qB×List (List AV)=>AV.ag [.s p.1,.ds p.2]) x::i8) (.b (q x))):Ae prog 172 hp m [.ds (Ab KN l),.fn k i8] (.i .i64 (OD q l 0)):=by
 refine Al func172 (tA cc172) (tB cc172) (tC cc172) rfl fun hf=>?_;unfold ck172
 simp only [go_sem]
 refine loop (fun p:Nat×Nat=>⟨[(0,.ds (Ab KN l)),(1,.fn k i8),(7,.i .i64 l.length),(8,.i .i64 p.1)],hp,p.2⟩) (fun p=>p.1<=l.length∧OD q l 0=OD q (l.drop p.1) p.1) (fun p=>l.length - p.1) (0,m) ?_ ?_ (fun ⟨j,n⟩ hj=>?_)
 .exact ⟨by simp,rfl⟩
 .refine Dd ?_
  simp only [go_sem]
 dsimp only at hj
 obtain ⟨Cq,Be⟩:=hj
 simp only [go_sem]
 refine Af (fun c=>?_) (fun c=>?_)
 .have c:j<l.length:=by simpa using c
  obtain ⟨x,ex⟩:∃x,l[j]?=some x:=⟨l[j],by simp [c]⟩
  have hx:=h x (List.mem_of_getElem? ex) n
  rw [A2 ex,OD] at Be
  simp only [c,Ad (Aa KN ex),go_sem]
  refine Ac.f (hx) ?_
  simp only [go_sem]
  refine Af (fun c1=>?_) (fun c1=>?_)
  .rw [iP c1] at Be
   simp only [go_sem]
   rw [Be]
  .rw [iN (by simp [c1])] at Be
   simp only [go_sem]
   refine ⟨(j+1,n),⟨by dsimp only;omega,Be⟩,by dsimp only;omega,Dd ?_⟩
   simp only [Ao j (by omega),go_sem]
 .have c:j=l.length:=by simp at c;omega
  subst c
  rw [List.drop_length,OD] at Be
  simp only [go_sem]
  rw [Be]
theorem Wk (l:List (qB×List (List AV))) (q:(qB×List (List AV))->Bool) (k:FuncId) (i8:List AV) (hl:l.length<=9223372036854775806) (hp:CH) (m:Nat) (h:∀x∈l,∀n,Ae prog k hp n ((fun p:qB×List (List AV)=>AV.ag [.s p.1,.ds p.2]) x::i8) (.b (q x))):Ae prog 154 hp m [.ds (Ab KN l),.fn k i8] (.b (l.any q)):=by
 rw [<-Po q l 0]
 refine Al func154 (tA cc154) (tB cc154) (tC cc154) rfl fun hf=>?_;unfold ck154
 simp only [go_sem]
 refine Ac.f (VJ l q k i8 hl _ _ h) ?_
 simp only [go_sem]
theorem VN (v:Ag) (k:Nat) (hp:CH) (hk:gc hp k=.bx [.i .i64 v.k,.i .i64 v.n,.s v.s,.ds (Ab Aw v.items),.ds (Bq v.keys)]) (x:qB×List (List AV)) (m:Nat) :
 Ae prog 155 hp m [.ag [.s x.1,.ds x.2],.bx k 0] (.b (decide (x.1=v.s))):=by
 refine Al func155 (tA cc155) (tB cc155) (tC cc155) rfl fun hf=>?_;unfold ck155
 have BL:k<m:=BT hf hk (fun e=>by cases e)
 simp (disch:=omega) only [hk,go_sem]
theorem O8 (n:qB) (v:Ag) (h0:-9223372036854775808<=v.n) (h1:v.n<=9223372036854775807) (hp:CH) (m:Nat):Ae prog 152 hp m [.s n,vx v] (oV (UY n v)):=by
 unfold oV
 obtain ⟨R,hR⟩:=A7 (UY n v)
 rw [hR]
 unfold UY at hR
 refine Al func152 (tA cc152) (tB cc152) (tC cc152) rfl fun hf=>?_;unfold ck152
 simp only [go_sem]
 refine Af (fun c=>?_) (fun c=>?_)
 .have c:n=LI∧v.k=2∧-2147483648<=v.n∧v.n<=2147483647:=by simpa [LI,and_assoc] using c
  rw [iP c] at hR
  subst hR
  simp only [go_sem]
  refine Ac.f (KW _ _ _) ?_
  simp only [go_sem]
 have c:¬(n=LI∧v.k=2∧-2147483648<=v.n∧v.n<=2147483647):=by
  intro h
  simp only [LI] at h
  simp [h.1,h.2.1,h.2.2.1,h.2.2.2] at c
 rw [iN c] at hR
 simp only [go_sem]
 refine Af (fun c=>?_) (fun c=>?_)
 .have c:(n=Cv∨n=Lv)∧v.k=3:=by simpa [Cv,Lv] using c
  rw [iP c] at hR
  subst hR
  simp only [go_sem]
  refine Ac.f (HL _ _ _) ?_
  simp only [go_sem]
 have c:¬((n=Cv∨n=Lv)∧v.k=3):=by
  intro h
  simp only [Cv,Lv] at h
  rcases h with ⟨h | h,h2⟩<;>simp [h,h2] at c
 rw [iN c] at hR
 simp only [go_sem]
 refine Af (fun c=>?_) (fun c=>?_)
 .have c:n=Lv∧v.k=2:=by simpa [Lv] using c
  rw [iP c] at hR
  subst hR
  simp only [go_sem]
  refine Ac.f (OH v.n h0 h1 _ _) ?_
  simp only [go_sem]
  refine Ac.f (HL _ _ _) ?_
  simp only [go_sem]
 have c:¬(n=Lv∧v.k=2):=by
  intro h
  simp only [Lv] at h
  simp [h.1,h.2] at c
 rw [iN c] at hR
 simp only [go_sem]
 refine Af (fun c=>?_) (fun c=>?_)
 .have c:n=Cz∧v.k=1:=by simpa [Cz] using c
  rw [iP c] at hR
  subst hR
  simp only [go_sem]
  rfl
 have c:¬(n=Cz∧v.k=1):=by
  intro h
  simp only [Cz] at h
  simp [h.1,h.2] at c
 rw [iN c] at hR
 subst hR
 simp only [go_sem]
theorem T8 (doc:List Av) (hd:DocOk doc) (n:qB) (v:Ag) (h0:-9223372036854775808<=v.n) (h1:v.n<=9223372036854775807) (hp:CH) (m:Nat):Ae prog 112 hp m [B9 doc,.s n,vx v] (oV (Ho doc n v)):=by
 have Ls:=Ez doc hd.len n
 have hg:=hd.g n
 have hs:=O8 n v h0 h1
 have hk:Fq doc n=((Ay doc n).getD DJ).k:=by
  unfold Fq
  cases Ay doc n<;>rfl
 unfold oV at hs ⊢
 unfold Ho
 rw [hk]
 unfold Eh at Ls
 obtain ⟨t,ht⟩:=A7 ((Ay doc n).getD DJ)
 rw [ht] at Ls hg ⊢
 obtain ⟨g1,g2,g3⟩:=hg
 have hsc:=Hr n
 by_cases c:BV n=true
 .rw [iP c]
  rw [c] at hsc
  refine Al func112 (tA cc112) (tB cc112) (tC cc112) rfl fun hf=>?_;unfold ck112
  simp only [go_sem]
  refine Ac.f (hsc _ _) ?_
  simp only [go_sem]
  refine Ac.f (hs _ _) ?_
  simp only [go_sem]
 rw [iN c]
 have c:BV n=false:=by simpa using c
 rw [c] at hsc
 have hany:=Z8 t.members g1.mem v.s
 have y9:=Afd g1
 have LO:(unP t.members).length<=9223372036854775806:=by rw [unP,List.length_map];omega
 obtain ⟨M,hM⟩:=A7 (unP t.members)
 rw [hM] at hany y9 LO
 obtain ⟨o,ho⟩:=A7 ((if t.k=4∧v.k=4∧v.s∈Gc t.members then some (enV v.s) else none))
 have hmm:o=if t.k=4∧v.k=4∧(M.any fun p=>decide (p.1=v.s))=true then some (enV v.s) else none:=by
  rw [<-ho,hany]
  simp only [decide_eq_true_eq]
 rw [ho]
 refine Al func112 (tA cc112) (tB cc112) (tC cc112) rfl fun hf=>?_;unfold ck112
 simp (disch:=omega) only [y9,go_sem]
 refine Ac.f (hsc _ _) ?_
 simp (disch:=omega) only [y9,go_sem]
 refine Ac.f (Ls _ _) ?_
 simp (disch:=omega) only [y9,go_sem]
 refine AH.f (fun _=>Wk M (fun p=>decide (p.1=v.s)) _ _ LO _ _ fun x hx k=>VN v (m+1) _ (by (simp (disch:=omega) only [go_sem])) x k) ?_
 simp (disch:=omega) only [y9,go_sem]
 refine Af (fun c=>?_) (fun c=>?_)
 .have c:¬(t.k=4∧v.k=4∧(M.any fun p=>decide (p.1=v.s))=true):=fun h=>by simp [h.1,h.2.1,h.2.2] at c
  rw [hmm,iN c]
  simp only [go_sem]
 .have c:t.k=4∧v.k=4∧(M.any fun p=>decide (p.1=v.s))=true:=by simpa [and_assoc] using c
  rw [hmm,iP c]
  simp only [go_sem]
  refine Ac.f (Abh _ _ _) ?_
  simp only [go_sem]
theorem Um (v:Ag) (hv:v.Fit) (hp:CH) (m:Nat):Ae prog 113 hp m [vx v] (.tp [.s ((AB v sT).getD A8).s,.b ((AB v sT).isSome&&decide (((AB v sT).getD A8).k=3))]):=by
 have h1:=I4 v hv sT
 rw [Sp] at h1
 obtain ⟨x,hx⟩:=A7 ((AB v sT).getD A8)
 obtain ⟨s,hs⟩:=A7 ((AB v sT).isSome)
 rw [hx,hs] at h1 ⊢
 refine Al func113 (tA cc113) (tB cc113) (tC cc113) rfl fun hf=>?_;unfold ck113
 simp only [go_sem]
 refine Ac.f (h1 _ _) ?_
 simp only [go_sem]
theorem Zt (v:Ag):typO v=if (AB v sT).isSome=true∧((AB v sT).getD A8).k=3 then some ((AB v sT).getD A8).s else none:=by
 unfold typO
 cases AB v sT<;>simp
theorem Aee {tw:List Int} {path:List Ag} (h:Ga tw=false):H4 tw path=(A8,[]):=by rw [H4,iN (by simp [h])]
theorem Jh (doc:List Av) (hd:DocOk doc) (v:Ag) (hv:v.Fit) (h0:-9223372036854775808<=v.n) (h1:v.n<=9223372036854775807) (hL:Ak8 doc v) (hO:Ak4 doc v):Akb doc v:=by
 intro tn tw picks path FQ MF hwt hp c km kp gp P kq gq cap len n hR hq hl hP
 subst hl
 have hRe:=EL doc v
 obtain ⟨R,AC⟩:=A7 (A6 doc v tn tw picks path)
 rw [AC] at hP ⊢
 rw [hRe,NF] at AC
 have hNN:=KG tn tw FQ
 have hNu:=FL tn tw FQ
 have NI:=CB tw
 have hIL:=Ks tn (B0 tw) (by omega)
 have hIn:=Mj tn (B0 tw) (by omega)
 have hinl:=P5 (B0 tw)
 have JH:path.length<=1000000000000:=by omega
 simp only [zlh,zli]
 have DV:(∀k,n<=k->gc hp k=.no)->wsLt n (Fu doc (Gz doc) c km kp gp P R.2):=fun hf=>hR.wsLt hf
 have n1:=hR.n1
 have n2:=hR.n2
 have n3:=hR.n3
 have q1:kq≠c:=fun e=>by have:=hR.hc;rw [<-e,hq] at this;cases this
 have q2:kq≠km:=fun e=>by have:=hR.hm;rw [<-e,hq] at this;cases this
 have q3:kq≠kp:=fun e=>by have:=hR.hk;rw [<-e,hq] at this;cases this
 have hc:=hR.hc
 have hm:=hR.hm
 have hk:=hR.hk
 refine Cp func72 (tA cc72) (tB cc72) (tC cc72) rfl DV fun hf=>?_;unfold ck72
 obtain ⟨l1,l2,l3⟩:=hR.lt hf
 have l4:kq<n:=BT hf hq (fun e=>by cases e)
 simp (disch:=omega) only [go_sem]
 refine Af (fun c9=>?_) (fun c9=>?_)
 .have c9:v.k=9:=by simpa using c9
  rw [iP c9] at AC
  have AC:R=(A8,[DI.mk path v.s]):=AC.symm
  subst AC
  simp (disch:=omega) only [go_sem]
  refine Ac.x (HI (hR.of fun j hj=>?_) path JH (by omega) v.s kq gq cap ?_ _) ?_
  .simp only [AA]
   repeat rw [iN (by omega)]
  .simp only [AA]
   repeat rw [iN (by omega)]
   exact hq
  simp only [Fu,zlh,zli]
  simp (disch:=omega) only [go_sem]
  refine Dh (R:=[.mk path v.s]) hR ?_ ?_ ?_ fun j hj j1 j2 j3=>?_
  all_goals (simp (disch:=omega) only [go_sem])
 have c9:¬v.k=9:=by simpa using c9
 rw [iN c9] at AC
 simp (disch:=omega) only [go_sem]
 refine AH.f (fun _=>hNN _ _) ?_
 simp (disch:=omega) only [go_sem]
 refine Af (fun c0=>?_) (fun c0=>?_)
 .have c0:v.k=0∧Ga tw=true:=by simpa using c0
  rw [iP c0.1,H4,iP c0.2] at AC
  have AC:R=(A8,[DI.mk path PM]):=AC.symm
  subst AC
  simp (disch:=omega) only [go_sem]
  refine Ac.x (HI (hR.of fun j hj=>?_) path JH (by omega) PM kq gq cap ?_ _) ?_
  .simp only [AA]
   repeat rw [iN (by omega)]
  .simp only [AA]
   repeat rw [iN (by omega)]
   exact hq
  simp only [Fu,zlh,zli]
  simp (disch:=omega) only [go_sem]
  refine Dh (R:=[.mk path PM]) hR ?_ ?_ ?_ fun j hj j1 j2 j3=>?_
  all_goals (simp (disch:=omega) only [go_sem])
 simp (disch:=omega) only [go_sem]
 refine Af (fun c00=>?_) (fun c00=>?_)
 .have c00:v.k=0:=by simpa using c00
  have cn:Ga tw=false:=by simpa [c00] using c0
  rw [iP c00,Aee cn] at AC
  subst AC
  simp (disch:=omega) only [go_sem]
  refine Dh hR ?_ ?_ ?_ fun j hj j1 j2 j3=>?_
  all_goals (simp (disch:=omega) only [hc,hm,hk,List.length_nil,Nat.add_zero,List.append_nil,go_sem])
 have c00:¬v.k=0:=by simpa using c00
 rw [iN c00] at AC
 simp (disch:=omega) only [go_sem]
 refine Ac.f (hNu _ _) ?_
 simp (disch:=omega) only [go_sem]
 refine Ac.f (hIL _ _) ?_
 simp (disch:=omega) only [go_sem]
 refine Af (fun cl=>?_) (fun cl=>?_)
 .rw [iP cl] at AC
  rw [iP cl] at hIn
  simp (disch:=omega) only [go_sem]
  refine Af (fun c5=>?_) (fun c5=>?_)
  .have c5:¬v.k=5:=by simpa using c5
   rw [iN c5] at AC
   have AC:R=(A8,[DI.mk path EP]):=AC.symm
   subst AC
   simp (disch:=omega) only [go_sem]
   refine Ac.x (HI (hR.of fun j hj=>?_) path JH (by omega) EP kq gq cap ?_ _) ?_
   .simp only [AA]
    repeat rw [iN (by omega)]
   .simp only [AA]
    repeat rw [iN (by omega)]
    exact hq
   simp only [Fu,zlh,zli]
   simp (disch:=omega) only [go_sem]
   refine Dh (R:=[.mk path EP]) hR ?_ ?_ ?_ fun j hj j1 j2 j3=>?_
   all_goals (simp (disch:=omega) only [go_sem])
  have c5:v.k=5:=by simpa using c5
  rw [iP c5] at AC
  subst AC
  simp (disch:=omega) only [go_sem]
  refine Ac.f (hIn _ _) ?_
  simp (disch:=omega) only [go_sem]
  refine Ac.x (hL tn (Cg (B0 tw)) picks path (by omega) MF hwt _ c km kp gp P kq gq cap path.length _ (hR.of fun j hj=>?_) ?_ rfl hP) ?_
  .simp only [AA]
   repeat rw [iN (by omega)]
  .simp only [AA]
   repeat rw [iN (by omega)]
   exact hq
  simp only [Fu,zlh,zli]
  simp (disch:=omega) only [go_sem]
  refine Dh hR ?_ ?_ ?_ fun j hj j1 j2 j3=>?_
  all_goals (simp (disch:=omega) only [go_sem])
 rw [iN (by simp [cl])] at AC
 simp (disch:=omega) only [hc,go_sem]
 refine Au.f (fun _ Am e=>XX doc hd.len tn _ _) ?_
 simp (disch:=omega) only [go_sem]
 refine Af (fun cf=>?_) (fun cf=>?_)
 .rw [iP cf] at AC
  have hlf:=T8 doc hd tn v h0 h1
  obtain ⟨o,ho⟩:=A7 (Ho doc tn v)
  rw [ho] at hlf AC
  unfold oV at hlf
  simp (disch:=omega) only [hc,go_sem]
  refine Au.f (fun _ Am e=>hlf _ _) ?_
  simp (disch:=omega) only [go_sem]
  refine ⟨by omega,?_⟩
  refine Af (fun cs=>?_) (fun cs=>?_)
  .cases o with
   |none=>cases cs
   |some x=>
    dsimp only at AC
    subst AC
    simp (disch:=omega) only [go_sem]
    refine Dh hR ?_ ?_ ?_ fun j hj j1 j2 j3=>?_
    all_goals (simp (disch:=omega) only [hc,hm,hk,List.length_nil,Nat.add_zero,List.append_nil,go_sem])
  .cases o with
   |some x=>cases cs
   |none=>
    have AC:R=(A8,[DI.mk path EP]):=AC.symm
    subst AC
    simp (disch:=omega) only [go_sem]
    refine Ac.x (HI (hR.of fun j hj=>?_) path JH (by omega) EP kq gq cap ?_ _) ?_
    .simp only [AA]
     repeat rw [iN (by omega)]
    .simp only [AA]
     repeat rw [iN (by omega)]
     exact hq
    simp only [Fu,zlh,zli]
    simp (disch:=omega) only [go_sem]
    refine Dh (R:=[.mk path EP]) hR ?_ ?_ ?_ fun j hj j1 j2 j3=>?_
    all_goals (simp (disch:=omega) only [go_sem])
 rw [iN (by simp [cf])] at AC
 have NU:=Um v hv
 have hte:=Zt v
 obtain ⟨x,hx⟩:=A7 ((AB v sT).getD A8)
 obtain ⟨s,hs⟩:=A7 ((AB v sT).isSome)
 rw [hx,hs] at NU hte
 have hcm:=LF doc hd.len tn
 simp (disch:=omega) only [go_sem]
 refine Ac.f (NU _ _) ?_
 simp (disch:=omega) only [hc,go_sem]
 refine AJ.f (fun _ Am e=>hcm _ _) ?_
 simp (disch:=omega) only [hc,go_sem]
 refine AJ.f (fun _ Am e=>Aiq (α:=.rw kp gp P.length) hd ((e c (.inl (by omega))).trans ?_) ((e km (.inl (by omega))).trans ?_) x.s tn _) ?_
 case refine_3=>
  simp (disch:=omega) only [go_sem]
  refine Af (fun cc=>?_) (fun cc=>?_)
  .have Hf:R=FV path EP:=by
    rw [<-AC]
    cases ht:typO v with
    |none=>rfl
    |some on=>
     rw [hte] at ht
     split at ht
     .rename_i hcnd
      cases ht
      have k6:v.k=6:=IR (by rw [hte,iP hcnd])
      dsimp only
      rw [iN (fun hh=>by simp [k6,hcnd.1,hcnd.2,hh.1,hh.2] at cc)]
     .cases ht
   have Hf:R=(A8,[DI.mk path EP]):=Hf
   subst Hf
   simp (disch:=omega) only [go_sem]
   refine Ac.x (HI (hR.of fun j hj=>?_) path JH (by omega) EP kq gq cap ?_ _) ?_
   .simp only [AA]
    repeat rw [iN (by omega)]
   .simp only [AA]
    repeat rw [iN (by omega)]
    exact hq
   simp only [Fu,zlh,zli]
   simp (disch:=omega) only [go_sem]
   refine Dh (R:=[.mk path EP]) hR ?_ ?_ ?_ fun j hj j1 j2 j3=>?_
   all_goals (simp (disch:=omega) only [go_sem])
  .have Vw:v.k=6∧s=true∧x.k=3∧FU doc tn=true∧x.s∈Dj doc tn:=by simpa [and_assoc] using cc
   obtain ⟨k6,s1,x3,cb,xp⟩:=Vw
   rw [iP ⟨s1,x3⟩] at hte
   rw [hte] at AC
   dsimp only at AC
   rw [iP ⟨cb,xp⟩] at AC
   subst AC
   have hw2:2<=AE v:=by
    cases hg:AB v sT with
    |none=>rw [hg] at hs;subst s1;cases hs
    |some y=>
     have:=BS (CG hg)
     have:=C7 y
     rw [A9]
     omega
   simp (disch:=omega) only [go_sem]
   refine Ac.x (hO x.s picks path k6 hw2 MF hwt _ c km kp gp P kq gq cap path.length _ (hR.of fun j hj=>?_) ?_ rfl hP) ?_
   .simp only [AA]
    repeat rw [iN (by omega)]
   .simp only [AA]
    repeat rw [iN (by omega)]
    exact hq
   simp only [Fu,zlh,zli]
   simp (disch:=omega) only [go_sem]
   refine Dh hR ?_ ?_ ?_ fun j hj j1 j2 j3=>?_
   all_goals (simp (disch:=omega) only [go_sem])
 all_goals (simp (disch:=omega) only [hc,hm,go_sem])
theorem Agt (doc:List Av) (hd:DocOk doc) (v:Ag):v.Fit->v.Rng->Ps doc v:=by
 have hzf:A8.Fit:=DQ
 have Vu:A8.Rng:=.mk _ (by decide) (by decide) (by simp [A8,Ag.items_mk])
 have hz:Ps doc A8:=by
  refine IY doc A8 (Jh doc hd A8 hzf Vu.l Vu.u (Ic doc A8 hzf fun x hx=>?_) ?_)
  .simp [A8,Ag.items_mk] at hx
  .intro on picks path h6
   simp [A8,Ag.k_mk] at h6
 exact Ag.ind (Q:=fun v=>v.Fit->v.Rng->Ps doc v) (fun v ih hv hr=>IY doc v (Jh doc hd v hv hr.l hr.u (Ic doc v hv fun x hx=>ih x hx (hv.x hx) (hr.x hx)) (T5 doc v hv (fun x hx=>ih x hx (hv.x hx) (hr.x hx)) hz))) v
