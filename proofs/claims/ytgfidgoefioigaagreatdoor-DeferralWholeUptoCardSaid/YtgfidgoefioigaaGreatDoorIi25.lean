/- Proof. Conditions: none. -/
import Derived.Test.YtgfidgoefioigaaGreatDoorIi24
open Go.Proofs.Tryz
open List renaming mem_of_getElem?→zla,getElem?_eq_some_iff→zlb,length_append→zld,cons_append→zlh,nil_append→zli,mem_cons→zlw
open Nat renaming le_refl→zna
namespace Go.Proofs.YtgfidgoefioigaaGreatDoor
open Go.Eng
set_option linter.all false
set_option maxRecDepth 20000
set_option maxHeartbeats 1000000
theorem UA (l:List Ea) (p:List Ak) (s:ByteArray):Ad CZ l++[[AV.ds (Ad A2 p),AV.s s]]=Ad CZ (l++[.mk p s]):=Bi CZ l (.mk p s)
attribute [go_sem] UA
structure RunH (doc:List Az) (F:ByteArray→AV) (hp:CH) (c km kp gp:Nat) (P:List Ea):Prop where
 hc:gc hp c=.bx [.ds (Ad BB doc),.mp km,.rw kp gp P.length]
 hm:gc hp km=.mq F
 hk:gc hp kp=.rw gp 2 (Ad CZ P)
def E1 (doc:List Az) (F:ByteArray→AV) (c km kp gp:Nat) (P R:List Ea):CH :=
 [(kp,.rw (gp+R.length) 2 (Ad CZ (P++R))),(c,.bx [.ds (Ad BB doc),.mp km,.rw kp (gp+R.length) (P.length+R.length)]),(km,.mq F)]
section
variable {doc:List Az} {F:ByteArray→AV} {hp:CH} {c km kp gp:Nat} {P R:List Ea}
theorem RunH.n1 (h:RunH doc F hp c km kp gp P):¬c=km:=fun e=>by have:=h.hc;rw [e,h.hm] at this;cases this
theorem RunH.n2 (h:RunH doc F hp c km kp gp P):¬c=kp:=fun e=>by have:=h.hc;rw [e,h.hk] at this;cases this
theorem RunH.n3 (h:RunH doc F hp c km kp gp P):¬km=kp:=fun e=>by have:=h.hm;rw [e,h.hk] at this;cases this
theorem BJ {hp:CH} {n k:Nat} {X:Ap} (hf:∀k,n≤k→gc hp k=.no) (h:gc hp k=X) (hX:X≠.no):k<n:=by
 rcases Nat.lt_or_ge k n with q | q
 .exact q
 .exact absurd (h.symm.trans (hf k q)) hX
theorem RunH.lt {n:Nat} (h:RunH doc F hp c km kp gp P) (hf:∀k,n≤k→gc hp k=.no):c<n∧km<n∧kp<n :=
 ⟨BJ hf h.hc (fun e=>by cases e),BJ hf h.hm (fun e=>by cases e),BJ hf h.hk (fun e=>by cases e)⟩
theorem RunH.wsLt {n:Nat} (h:RunH doc F hp c km kp gp P) (hf:∀k,n≤k→gc hp k=.no):wsLt n (E1 doc F c km kp gp P R):=by
 obtain ⟨h1,h2,h3⟩:=h.lt hf
 refine ⟨h3,trivial,h1,?_,h2,trivial,trivial⟩
 intro α hα
 simp only [zlw,List.not_mem_nil,or_false] at hα
 rcases hα with rfl | rfl | rfl
 .rfl
 .exact h2
 .exact h3
theorem C8 {n:Nat} {Ao:CH} (h:RunH doc F hp c km kp gp P) (h1:gc Ao kp=.rw (gp+R.length) 2 (Ad CZ (P++R))) (h2:gc Ao c=.bx [.ds (Ad BB doc),.mp km,.rw kp (gp+R.length) (P.length+R.length)]) (h3:gc Ao km=.mq F)
  (h4:∀j,j<n→j≠c→j≠km→j≠kp→gc Ao j=gc hp j):Up n (E1 doc F c km kp gp P R++hp) Ao:=fun j hj=>by
 simp only [E1,zlh,zli]
 by_cases e1:kp=j
 .subst e1;rw [Av,h1]
 .rw [Aq _ _ e1]
  by_cases e2:c=j
  .subst e2;rw [Av,h2]
  .rw [Aq _ _ e2]
   by_cases e3:km=j
   .subst e3;rw [Av,h3]
   .rw [Aq _ _ e3]
    exact h4 j hj (fun e=>e2 e.symm) (fun e=>e3 e.symm) (fun e=>e1 e.symm)
theorem Yi (h:RunH doc F hp c km kp gp P) (D6:CH):gc (E1 doc F c km kp gp P R++D6) kp=.rw (gp+R.length) 2 (Ad CZ (P++R))∧gc (E1 doc F c km kp gp P R++D6) c=.bx [.ds (Ad BB doc),.mp km,.rw kp (gp+R.length) (P.length+R.length)] ∧
  gc (E1 doc F c km kp gp P R++D6) km=.mq F∧∀j,j≠c→j≠km→j≠kp→gc (E1 doc F c km kp gp P R++D6) j=gc D6 j:=by
 simp only [E1,zlh,zli]
 have n1:=h.n1
 have n2:=h.n2
 have n3:=h.n3
 refine ⟨Av _ _ _,?_,?_,fun j j1 j2 j3=>?_⟩
 .rw [Aq _ _ (fun e=>n2 e.symm),Av]
 .rw [Aq _ _ (fun e=>n3 e.symm),Aq _ _ n1,Av]
 .rw [Aq _ _ (fun e=>j3 e.symm),Aq _ _ (fun e=>j1 e.symm),Aq _ _ (fun e=>j2 e.symm)]
theorem RunH.ws (h:RunH doc F hp c km kp gp P) (D6:CH):RunH doc F (E1 doc F c km kp gp P R++D6) c km kp (gp+R.length) (P++R):=by
 obtain ⟨h1,h2,h3,_⟩:=Yi (R:=R) h D6
 exact ⟨by rw [zld];exact h2,h3,h1⟩
theorem RunH.of {Ao:CH} (h:RunH doc F hp c km kp gp P) (e:∀j,(j=c∨j=km∨j=kp)→gc Ao j=gc hp j):RunH doc F Ao c km kp gp P :=
 ⟨(e c (.inl rfl)).trans h.hc,(e km (.inr (.inl rfl))).trans h.hm,(e kp (.inr (.inr rfl))).trans h.hk⟩
end
theorem Ug (l:List Ak) (h:l.length≤1000000000000) (k g len:Nat) (hp:CH) (hk:gc hp k=.rw g 5 (Ad A2 l)) (he:len=l.length) (m:Nat):Ah prog 93 hp m [.rw k g len] (.ds (Ad A2 l)):=by
 subst he
 refine Am func93 (by kernel_rfl) cc93 cr93 rfl fun hf=>?_;unfold ck93
 have BH:k<m:=BJ hf hk (fun e=>by cases e)
 simp (disch:=omega) only [Aa,hk,go_sem]
 exact ⟨fun e=>by rw [List.eq_nil_of_length_eq_zero (e trivial)];rfl,by omega,by omega⟩
theorem Wl {doc:List Az} {F:ByteArray→AV} {hp:CH} {c km kp gp:Nat} {P:List Ea} (h:RunH doc F hp c km kp gp P) (path:List Ak) (JG:path.length≤1000000000000) (hP:P.length≤1000000000000) (s:ByteArray) (kq gq:Nat) (hq:gc hp kq=.rw gq 5 (Ad A2 path)) (n:Nat) :
  AQ prog 107 hp n [.bx c 0,.rw kq gq path.length,.s s] (E1 doc F c km kp gp P [.mk path s]++hp) n (vx AB):=by
 have Gb:(∀k,n≤k→gc hp k=.no)→wsLt n (E1 doc F c km kp gp P [.mk path s]):=fun hf=>h.wsLt hf
 have n1:=h.n1
 have n2:=h.n2
 have n3:=h.n3
 have m1:¬km=c:=fun e=>n1 e.symm
 have m2:¬kp=c:=fun e=>n2 e.symm
 have m3:¬kp=km:=fun e=>n3 e.symm
 have hc:=h.hc
 have hm:=h.hm
 have hk:=h.hk
 refine CP func107 (by kernel_rfl) cc107 cr107 rfl Gb fun hf=>?_;unfold ck107
 obtain ⟨l1,l2,l3⟩:=h.lt hf
 have l4:kq<n:=BJ hf hq (fun e=>by cases e)
 simp (disch:=omega) only [Aa,hc,hk,hm,n1,n2,n3,m1,m2,m3,go_sem]
 refine A3.f (fun _ Ao e=>Ug path JG kq gq _ Ao ((e kq (.inl (by omega))).trans (by rw [Aq _ _ (by omega)];exact hq)) rfl _) ?_
 simp (disch:=omega) only [Aa,hc,hk,hm,n1,n2,n3,m1,m2,m3,go_sem]
 refine ⟨⟨by omega,by omega⟩,C8 h ?_ ?_ ?_ fun j hj j1 j2 j3=>?_⟩
 .rw [Aq _ _ n2,Av];rfl
 .rw [Av];rfl
 .rw [Aq _ _ n1,Aq _ _ m3,Aq _ _ (by omega),hm]
 .rw [Aq _ _ (fun e=>j1 e.symm),Aq _ _ (fun e=>j3 e.symm),Aq _ _ (by omega)]
theorem GL {doc:List Az} {F:ByteArray→AV} {hp:CH} {c km kp gp:Nat} {P:List Ea} (h:RunH doc F hp c km kp gp P) (path:List Ak) (JG:path.length≤1000000000000) (hP:P.length≤1000000000000) (s:ByteArray) (kq gq cap:Nat) (hq:gc hp kq=.rc gq 5 cap (Ad A2 path)) (n:Nat) :
  AQ prog 107 hp n [.bx c 0,.rw kq gq path.length,.s s] (E1 doc F c km kp gp P [.mk path s]++hp) n (vx AB):=by
 have q1:kq≠c:=fun e=>by have:=h.hc;rw [←e,hq] at this;cases this
 have q2:kq≠km:=fun e=>by have:=h.hm;rw [←e,hq] at this;cases this
 have q3:kq≠kp:=fun e=>by have:=h.hk;rw [←e,hq] at this;cases this
 refine AI.rc hq (fun x hx=>?_) (Wl (h.of fun j hj=>Aq _ _ fun e=>?_) path JG hP s kq gq (Av _ _ _) n)
 .simp only [E1,zlw,List.not_mem_nil,or_false] at hx
  rcases hx with rfl | rfl | rfl
  .exact fun e=>q3 e.symm
  .exact fun e=>q1 e.symm
  .exact fun e=>q2 e.symm
 .rcases hj with rfl | rfl | rfl
  .exact q1 e
  .exact q2 e
  .exact q3 e
noncomputable def Fw (doc:List Az) (x:ByteArray):AV:=.ds (Bv (En doc x))
theorem Aew {doc:List Az} (hd:DocOk doc) {hp:CH} {c km:Nat} {α:AV} (hc:gc hp c=.bx [.ds (Ad BB doc),.mp km,α]) (hm:gc hp km=.mq (Fw doc)) (on name:ByteArray) (n:Nat) :
  Ah prog 115 hp n [.bx c 0,.s on,.s name] (.b (decide (on∈En doc name))):=by
 have n1:¬c=km:=fun e=>by rw [e,hm] at hc;cases hc
 have n2:¬km=c:=fun e=>n1 e.symm
 have Bb:=Jp doc name
 have FH:=hd.len
 have hct:=HO (En doc name) on (by omega)
 rw [LF] at hct
 refine Ah.mq hm rfl (by exact ⟨_,func115,by kernel_rfl,by kernel_rfl⟩) fun l hl=>?_
 have hc2:gc ((km,Ap.mp l)::hp) c=.bx [.ds (Ad BB doc),.mp km,α]:=by rw [Aq _ _ n2];exact hc
 cases e:By name l with
 | some β =>
  have hβ:β=.ds (Bv (En doc name)):=hl _ (HH e)
  subst hβ
  refine T1 func115 (by kernel_rfl) cc115 cr115 rfl fun hf=>?_;unfold ck115
  have l1:km<n:=BJ hf (Av _ _ _) (fun e=>by cases e)
  have l2:c<n:=BJ hf hc2 (fun e=>by cases e)
  simp (disch:=omega) only [Aa,hc,n1,n2,e,go_sem]
  refine Af.f (hct _ _) ?_
  simp (disch:=omega) only [Aa,hc,n1,n2,e,go_sem]
  refine ⟨l,hl,fun j hj=>.inl (Aq _ _ fun q=>hj q.symm),rfl⟩
 | none =>
  refine T1 func115 (by kernel_rfl) cc115 cr115 rfl fun hf=>?_;unfold ck115
  have l1:km<n:=BJ hf (Av _ _ _) (fun e=>by cases e)
  have l2:c<n:=BJ hf hc2 (fun e=>by cases e)
  simp (disch:=omega) only [Aa,hc,n1,n2,e,go_sem]
  refine Af.f (Z0 doc hd name _ _) ?_
  simp (disch:=omega) only [Aa,hc,n1,n2,e,go_sem]
  refine Af.f (hct _ _) ?_
  simp (disch:=omega) only [Aa,hc,n1,n2,e,go_sem]
  refine ⟨_,fun p hp=>?_,fun j hj=>.inl (by rw [if_neg (fun q=>hj q.symm)]),rfl⟩
  rcases J9 hp with rfl | hp
  .rfl
  .exact hl p hp
theorem Lc (l:List ByteArray) (s:ByteArray) (hl:l.length≤1000000000000) (hp:CH) (m:Nat):Ah prog 132 hp m [.ds (Bv l),.s s] (.b (decide (s∈l))):=by
 obtain ⟨R,hR⟩:∃R,decide (s∈l)=R:=⟨_,rfl⟩
 rw [hR]
 refine Am func132 (by kernel_rfl) cc132 cr132 rfl fun hf=>?_;unfold ck132
 simp only [go_sem]
 refine loop (fun p:Nat × Nat=>⟨[(0,.ds (Bv l)),(1,.s s),(5,.i .i64 p.1)],hp,p.2⟩) (fun p=>p.1≤l.length∧R=decide (s∈l.drop p.1)) (fun p=>l.length - p.1) (0,m) ?_ ?_ (fun ⟨j,n⟩ hj=>?_)
 .exact ⟨by simp,hR.symm⟩
 .refine Ac ?_ (A6.refl _) (zna _)
  simp only [go_sem]
 dsimp only at hj
 obtain ⟨Cm,Ba⟩:=hj
 simp only [go_sem]
 refine Ai (fun q=>?_) (fun q=>?_)
 .have q:j<l.length:=by simpa using q
  obtain ⟨x,ex⟩:∃x,l[j]?=some x:=⟨l[j],by simp [q]⟩
  rw [A5 ex] at Ba
  simp only [q,Ag (Ab C9 ex),go_sem]
  refine Ai (fun c=>?_) (fun c=>?_)
  .have c:x=s:=by simpa using c
   have:R=true:=by rw [Ba];simp [c]
   subst this
   simp only [go_sem]
  .have c:¬x=s:=by simpa using c
   have c':¬s=x:=fun e=>c e.symm
   simp only [go_sem]
   refine ⟨(j+1,_),⟨by dsimp only;omega,by rw [Ba];simp [c']⟩,by dsimp only;omega,Ac ?_ (A6.refl _) (zna _)⟩
   simp only [At j (by omega),go_sem]
 .have q:j=l.length:=by simp at q;omega
  subst q
  rw [List.drop_length] at Ba
  have:R=false:=by rw [Ba];simp
  subst this
  simp only [go_sem]
theorem Sj (doc:List Az) (hl:doc.length≤1000000000000) (at':Nat) (x:Az) (ex:doc[at']?=some x) (hp:CH) (m:Nat):Ah prog 136 hp m [B5 doc,.i .i64 at'] (.b (decide (x.n ∉ (doc.take at').map Az.n))):=by
 obtain ⟨R,hR⟩:∃R,decide (x.n ∉ (doc.take at').map Az.n)=R:=⟨_,rfl⟩
 rw [hR]
 have hat:at' < doc.length:=(zlb.1 ex).1
 refine Am func136 (by kernel_rfl) cc136 cr136 rfl fun hf=>?_;unfold ck136
 simp only [go_sem]
 refine loop (fun p:Nat × Nat=>⟨[(1,.i .i64 at'),(2,.bx m 0),(5,.i .i64 p.1)],(m,.bx [.ds (Ad BB doc)])::hp,p.2⟩) (fun p=>p.1≤at'∧m+1≤p.2∧∀i t,i<p.1→doc[i]?=some t→t.n≠x.n) (fun p=>at' - p.1) (0,m+1) ?_ ?_ (fun ⟨j,n⟩ hj=>?_)
 .exact ⟨by simp,by simp,fun i t h=>by omega⟩
 .refine Ac ?_ (A6.cons ?_ (A6.base hf ?_)) (zna _)
  all_goals (simp (disch:=omega) only [Aa,go_sem])
 dsimp only at hj
 obtain ⟨Cm,Ba,Aw⟩:=hj
 simp (disch:=omega) only [Aa,go_sem]
 refine Ai (fun q=>?_) (fun q=>?_)
 .have q:j<at':=by simpa using q
  obtain ⟨y,ey⟩:∃y,doc[j]?=some y:=⟨doc[j]'(by omega),by simp [show j<doc.length by omega]⟩
  have b1:((j:Int)<(doc.length:Int))=True:=eq_true (by omega)
  have b2:((at':Int)<(doc.length:Int))=True:=eq_true (by omega)
  have b3:(j<doc.length)=True:=eq_true (by omega)
  have b4:(at' < doc.length)=True:=eq_true hat
  simp (disch:=omega) only [Aa,q,b1,b2,b3,b4,Ag (Ab BB ey),Ag (Ab BB ex),go_sem]
  refine Ai (fun c=>?_) (fun c=>?_)
  .have c:y.n=x.n:=by simpa using c
   have:R=false:=by
    rw [←hR,decide_eq_false_iff_not,Classical.not_not]
    exact List.mem_map.2 ⟨y,zla (i:=j) (by rw [List.getElem?_take,if_pos q];exact ey),c⟩
   subst this
   simp (disch:=omega) only [Aa,go_sem]
  .have c:¬y.n=x.n:=by simpa using c
   simp (disch:=omega) only [Aa,go_sem]
   refine ⟨(j+1,_),⟨by dsimp only;omega,by dsimp only;omega,fun i t hi ht=>?_⟩,by dsimp only;omega,Ac ?_ (A6.cons ?_ (A6.base hf ?_)) (zna _)⟩
   .rcases Nat.lt_or_ge i j with w | w
    .exact Aw i t w ht
    .have:i=j:=by dsimp only at hi;omega
     subst this
     rw [ey] at ht
     cases ht
     exact c
   all_goals
    simp (disch:=omega) only [Aa,At j (by omega),go_sem]
 .have q:j=at':=by simp at q;omega
  subst q
  have:R=true:=by
   rw [←hR,decide_eq_true_eq]
   intro hm
   obtain ⟨t,ht,e⟩:=List.mem_map.1 hm
   obtain ⟨i,hi⟩:=List.getElem?_of_mem ht
   rw [List.getElem?_take] at hi
   split at hi
   .rename_i w
    exact Aw i t w hi e
   .cases hi
  subst this
  simp (disch:=omega) only [Aa,go_sem]
theorem O6 (t:Az) (ht:DefOk t) (hl:t.members.length≤1000000000000) (s:ByteArray) (hp:CH) (m:Nat):Ah prog 134 hp m [JN t,.s s] (.b (decide (s∈Fh t.members))):=by
 obtain ⟨R,hR⟩:∃R,decide (s∈Fh t.members)=R:=⟨_,rfl⟩
 rw [hR]
 have Km:∀e∈t.members,e.length=2:=fun e he=>by obtain ⟨x,y,rfl⟩:=ht.mem e he;rfl
 have Km:=eq_true Km
 refine Am func134 (by kernel_rfl) cc134 cr134 rfl fun hf=>?_;unfold ck134
 simp only [go_sem]
 refine loop (fun p:Nat × Nat=>⟨[(1,.s s),(2,.bx m 0),(5,.i .i64 p.1)],(m,.bx [.i .i64 t.k,.s t.n,.ds t.impl,.ds t.dirs,.ds (Ad Bq t.fields),.ds t.members,.ds t.inputs])::hp,p.2⟩) (fun p=>p.1≤t.members.length∧m+1≤p.2∧R=decide (s∈Fh (t.members.drop p.1))) (fun p=>t.members.length - p.1) (0,m+1) ?_ ?_ (fun ⟨j,n⟩ hj=>?_)
 .exact ⟨by simp,by simp,hR.symm⟩
 .refine Ac ?_ (A6.cons ?_ (A6.base hf ?_)) (zna _)
  all_goals (simp (disch:=omega) only [Aa,go_sem])
 dsimp only at hj
 obtain ⟨Cm,Ba,Aw⟩:=hj
 simp (disch:=omega) only [Aa,go_sem]
 refine Ai (fun q=>?_) (fun q=>?_)
 .have q:j<t.members.length:=by simpa using q
  obtain ⟨e,ee⟩:∃e,t.members[j]?=some e:=⟨t.members[j],by simp [q]⟩
  obtain ⟨x,y,rfl⟩:=ht.mem e (zla ee)
  rw [A5 ee] at Aw
  have Aw:R=decide (s∈x::Fh (t.members.drop (j+1))):=Aw
  simp (disch:=omega) only [Aa,q,Km,Ag ee,go_sem]
  refine Ai (fun c=>?_) (fun c=>?_)
  .have c:x=s:=by simpa using c
   have:R=true:=by rw [Aw];simp [c]
   subst this
   simp (disch:=omega) only [Aa,go_sem]
  .have c:¬x=s:=by simpa using c
   have c':¬s=x:=fun e=>c e.symm
   simp (disch:=omega) only [Aa,go_sem]
   refine ⟨(j+1,_),⟨by dsimp only;omega,by dsimp only;omega,by rw [Aw];simp [c']⟩,by dsimp only;omega,Ac ?_ (A6.cons ?_ (A6.base hf ?_)) (zna _)⟩
   all_goals
    simp (disch:=omega) only [Aa,At j (by omega),go_sem]
 .have q:j=t.members.length:=by simp at q;omega
  subst q
  rw [List.drop_length] at Aw
  have:R=false:=by rw [Aw];simp [Fh]
  subst this
  simp (disch:=omega) only [Aa,go_sem]
inductive BQ:List Pk→Prop
 | mk (l:List Pk):l.length≤1000000000→(∀p∈l,p.tw.length≤1000000000000)→(∀p∈l,BQ p.picks)→BQ l
theorem BQ.len {l:List Pk} (h:BQ l):l.length≤1000000000:=by cases h;assumption
theorem BQ.t {l:List Pk} (h:BQ l) {p:Pk} (hp:p∈l):p.tw.length≤1000000000000:=by cases h with | mk _ _ h _=>exact h p hp
theorem BQ.x {l:List Pk} (h:BQ l) {p:Pk} (hp:p∈l):BQ p.picks:=by cases h with | mk _ _ _ h=>exact h p hp
def KA (f:FuncId) (doc:List Az) (pre:List AV) (post:List AV) (path:List Ak) (R2:List Ea) (r:AV):Prop :=
 ∀(hp:CH) (c km kp gp:Nat) (P:List Ea) (kq gq cap len n:Nat),RunH doc (Fw doc) hp c km kp gp P→gc hp kq=.rc gq 5 cap (Ad A2 path)→len=path.length→P.length+R2.length≤1000000000000 →
  AQ prog f hp n (.bx c 0::pre++.rw kq gq len::post) (E1 doc (Fw doc) c km kp gp P R2++hp) n r
theorem KA.rw {f : FuncId} {doc : List Az} {pre post : List AV} {path : List Ak} {R2 : List Ea} {r : AV} (h : KA f doc pre post path R2 r) (Io : ∃ fn, prog.funcs[f]? = some fn ∧ (fn.name == "runtime.NumGoroutine") = false ∧ fn.body.isNone = false)
  (hp:CH) (c km kp gp:Nat) (P:List Ea) (kq gq len n:Nat) (hR:RunH doc (Fw doc) hp c km kp gp P) (hq:gc hp kq=.rw gq 5 (Ad A2 path)) (hkq:kq≠kp) (hl:len=path.length) (hP:P.length+R2.length≤1000000000000) :
  AQ prog f hp n (.bx c 0::pre++.rw kq gq len::post) (E1 doc (Fw doc) c km kp gp P R2++hp) n r:=by
 have q1:kq≠c:=fun e=>by have:=hR.hc;rw [←e,hq] at this;cases this
 have q2:kq≠km:=fun e=>by have:=hR.hm;rw [←e,hq] at this;cases this
 refine AI.open hq (fun x hx=>?_) Io fun cap _=>h _ c km kp gp P kq gq cap len n (hR.of fun j hj=>Aq _ _ fun e=>?_) (Av _ _ _) hl hP
 .simp only [E1,zlw,List.not_mem_nil,or_false] at hx
  rcases hx with rfl | rfl | rfl
  .exact fun e=>hkq e.symm
  .exact fun e=>q1 e.symm
  .exact fun e=>q2 e.symm
 .rcases hj with rfl | rfl | rfl
  .exact q1 e
  .exact q2 e
  .exact hkq e
theorem F3 {doc:List Az} {F:ByteArray→AV} {hp:CH} {c km kp gp n0:Nat} {P R:List Ea} (h:RunH doc F hp c km kp gp P) (h1:c<n0) (h2:km<n0) (h3:kp<n0):Ka hp n0 (keys (E1 doc F c km kp gp P R)) (E1 doc F c km kp gp P R):=by
 refine ⟨h3,by rw [h.hk];trivial,trivial,h1,by rw [h.hc];trivial,⟨rfl,?_,?_,trivial⟩,h2,by rw [h.hm];trivial,trivial,trivial⟩
 .show km∈[kp,c,km];simp
 .show kp∈[kp,c,km];simp
def Mq (doc:List Az) (v:Ak):Prop:=∀(tn:ByteArray) (tw:List Int) (picks:List Pk) (path:List Ak),tw.length≤1000000000000→BQ picks→path.length+Bu v≤100000000000 →
 KA 36 doc [DC tn tw,.ds (Ad Bo picks)] [vx v] path (Be doc v tn tw picks path).2 (.tp [vx (Be doc v tn tw picks path).1,.b (HU tw (Be doc v tn tw picks path).1)])
def Acg (doc:List Az) (v:Ak):Prop:=∀(tn:ByteArray) (tw:List Int) (picks:List Pk) (path:List Ak),tw.length≤1000000000000→BQ picks→path.length+Bu v≤100000000000 →
 KA 72 doc [DC tn tw,.ds (Ad Bo picks)] [vx v] path (Be doc v tn tw picks path).2 (vx (Be doc v tn tw picks path).1)
def Acb (doc:List Az) (v:Ak):Prop:=∀(tn:ByteArray) (tw:List Int) (picks:List Pk) (path:List Ak),tw.length≤1000000000000→BQ picks→path.length+Bu v≤100000000000 →
 KA 110 doc [DC tn tw,.ds (Ad Bo picks)] [vx v] path (HQ (v.items.map (Be doc)) tn tw picks path).2 (vx (HQ (v.items.map (Be doc)) tn tw picks path).1)
def Ad0 (doc:List Az) (v:Ak):Prop:=∀(on:ByteArray) (picks:List Pk) (path:List Ak),v.k=6→2≤Bu v→BQ picks→path.length+Bu v≤100000000000 →
 KA 116 doc [.s on,.ds (Ad Bo picks)] [vx v] path (JZ v.keys (v.items.map (Be doc)) on picks path).2 (vx (JZ v.keys (v.items.map (Be doc)) on picks path).1)
theorem Ia (doc:List Az) (v:Ak) (h:Acg doc v):Mq doc v:=by
 intro tn tw picks path Fk LQ hwt hp c km kp gp P kq gq cap len n hR hq hl hP
 subst hl
 have hN:=h tn tw picks path Fk LQ hwt
 obtain ⟨R,AD⟩:∃R,Be doc v tn tw picks path=R:=⟨_,rfl⟩
 rw [AD] at hN hP ⊢
 have hNN:=I7 tn tw Fk
 unfold HU
 simp only [zlh,zli]
 have Gb:(∀k,n≤k→gc hp k=.no)→wsLt n (E1 doc (Fw doc) c km kp gp P R.2):=fun hf=>hR.wsLt hf
 have n1:=hR.n1
 have n2:=hR.n2
 have n3:=hR.n3
 refine CP func36 (by kernel_rfl) cc36 cr36 rfl Gb fun hf=>?_;unfold ck36
 obtain ⟨l1,l2,l3⟩:=hR.lt hf
 have l4:kq<n:=BJ hf hq (fun e=>by cases e)
 simp (disch:=omega) only [Aa,E1,go_sem]
 refine Af.x (hN _ c km kp gp P kq gq cap path.length _ (hR.of fun j hj=>?_) ?_ rfl hP) ?_
 .simp only [AC]
  repeat rw [if_neg (by omega)]
 .simp only [AC]
  repeat rw [if_neg (by omega)]
  exact hq
 simp only [E1,zlh,zli]
 simp (disch:=omega) only [Aa,go_sem]
 refine AG.f (fun _ Ao e=>hNN _ _) ?_
 simp (disch:=omega) only [Aa,go_sem]
 refine C8 hR ?_ ?_ ?_ fun j hj j1 j2 j3=>?_
 all_goals (simp (disch:=omega) only [Aa,go_sem])
noncomputable def Wc (fs:List Gq) (tn:ByteArray) (tw:List Int) (picks:List Pk) (path:List Ak) (j:Nat):List Ge:=GR (fs.take j) 0 tn tw picks path
noncomputable def JT (fs:List Gq) (tn:ByteArray) (tw:List Int) (picks:List Pk) (path:List Ak) (j:Nat):List Ea:=(Wc fs tn tw picks path j).flatMap (·.2)
noncomputable def U8 (fs:List Gq) (tn:ByteArray) (tw:List Int) (picks:List Pk) (path:List Ak) (j:Nat):List Ak:=(Wc fs tn tw picks path j).map (·.1)
noncomputable def XA (fs:List Gq) (tn:ByteArray) (tw:List Int) (picks:List Pk) (path:List Ak) (j:Nat):Bool:=(Wc fs tn tw picks path j).any fun r=>HU tw r.1
section
variable {fs:List Gq} {tn:ByteArray} {tw:List Int} {picks:List Pk} {path:List Ak}
theorem IR {j:Nat} {f:Gq} (h:fs[j]?=some f):Wc fs tn tw picks path (j+1)=Wc fs tn tw picks path j++[f tn tw picks (path++[Oi (j:Nat)])]:=by
 unfold Wc
 have hj:(fs.take j).length=j:=by have:=(zlb.1 h).1;simp;omega
 rw [←Bg h,Nz,hj,Nat.zero_add]
theorem MS {j:Nat} {f:Gq} (h:fs[j]?=some f):JT fs tn tw picks path (j+1)=JT fs tn tw picks path j++(f tn tw picks (path++[Oi (j:Nat)])).2:=by
 unfold JT
 rw [IR h,List.flatMap_append]
 simp
theorem Tc {j:Nat} {f:Gq} (h:fs[j]?=some f):U8 fs tn tw picks path (j+1)=U8 fs tn tw picks path j++[(f tn tw picks (path++[Oi (j:Nat)])).1]:=by
 unfold U8
 rw [IR h,List.map_append]
 rfl
theorem TB {j:Nat} {f:Gq} (h:fs[j]?=some f):XA fs tn tw picks path (j+1)=(XA fs tn tw picks path j||HU tw (f tn tw picks (path++[Oi (j:Nat)])).1):=by
 unfold XA
 rw [IR h,List.any_append]
 simp
theorem W0 {j:Nat} (h:j≤fs.length):(U8 fs tn tw picks path j).length=j:=by
 unfold U8 Wc
 rw [List.length_map,L2,List.length_take]
 omega
theorem Vl:∀{k:Nat} {j:Nat},j+k=fs.length→(JT fs tn tw picks path j).length≤(JT fs tn tw picks path fs.length).length
 | 0,j,h=>by rw [show j=fs.length by omega];exact zna _
 | k+1,j,h=>by
  have e:fs[j]?=some (fs[j]'(by omega)):=by simp [show j<fs.length by omega]
  have:=Vl (k:=k) (j:=j+1) (by omega)
  rw [MS e,zld] at this
  omega
theorem Ur:HQ fs tn tw picks path=(if XA fs tn tw picks path fs.length=true then AB else V7 (U8 fs tn tw picks path fs.length),JT fs tn tw picks path fs.length):=by
 unfold HQ XA U8 JT Wc
 rw [List.take_length]
end
theorem LN (n:Int) (hp:CH) (m:Nat):Ah prog 100 hp m [.i .i64 n] (vx (Oi n)):=by
 refine Am func100 (by kernel_rfl) cc100 cr100 rfl fun hf=>?_;unfold ck100
 simp only [go_sem]
 rfl
theorem Iv (s:ByteArray) (hp:CH) (m:Nat):Ah prog 97 hp m [.s s] (vx (Hp s)):=by
 refine Am func97 (by kernel_rfl) cc97 cr97 rfl fun hf=>?_;unfold ck97
 simp only [go_sem]
 rfl
theorem FJ (l:List Ak):(Ad A2 l).take l.length=Ad A2 l:=by rw [HB,List.take_length]
theorem Ir (n:Nat):(n≤n)=True:=eq_true (zna n)
theorem ED (l:List Ak) (x:Ak):(Ad A2 (l++[x])).take l.length=Ad A2 l:=by rw [HB,List.take_left' rfl]
theorem Hf (doc:List Az) (v:Ak) (hv:v.Fit) (h:∀x∈v.items,Mq doc x):Acb doc v:=by
  intro tn tw picks path Fk LQ hwt hp c km kp gp P kq gq cap len n hR hq hl hP
  subst hl
  rw [Ur] at hP ⊢
  have Bb:=hv.i
  have GF : (v.items.map (Be doc)).length = v.items.length := by simp
  rw [GF] at hP ⊢
  obtain ⟨fs,Of⟩:∃fs,v.items.map (Be doc)=fs:=⟨_,rfl⟩
  rw [Of] at hP GF ⊢
  dsimp only at hP ⊢
  have hPle : ∀ j, j ≤ v.items.length → (JT fs tn tw picks path j).length ≤ (JT fs tn tw picks path v.items.length).length := fun j hj => by
    have := Vl (fs := fs) (tn := tn) (tw := tw) (picks := picks) (path := path) (k := v.items.length - j) (j := j) (by omega)
    rwa [GF] at this
  obtain ⟨RP,hRP⟩:∃RP,JT fs tn tw picks path v.items.length=RP:=⟨_,rfl⟩
  obtain ⟨RV,hRV⟩:∃RV,(if XA fs tn tw picks path v.items.length=true then AB else V7 (U8 fs tn tw picks path v.items.length))=RV:=⟨_,rfl⟩
  rw [hRP] at hP hPle ⊢
  rw [hRV]
  simp only [zlh,zli]
  have Gb : (∀ k, n ≤ k → gc hp k = .no) → wsLt n (E1 doc (Fw doc) c km kp gp P RP) := fun hf => hR.wsLt hf
  have n1:=hR.n1
  have n2:=hR.n2
  have n3:=hR.n3
  have q1 : kq ≠ c := fun e => by have := hR.hc; rw [← e, hq] at this; cases this
  have q2 : kq ≠ km := fun e => by have := hR.hm; rw [← e, hq] at this; cases this
  have q3 : kq ≠ kp := fun e => by have := hR.hk; rw [← e, hq] at this; cases this
  have hc:=hR.hc
  have hm:=hR.hm
  have hk:=hR.hk
  refine CP func110 (by kernel_rfl) cc110 cr110 rfl Gb fun hf => ?_; unfold ck110
  obtain ⟨l1,l2,l3⟩:=hR.lt hf
  have l4 : kq < n := BJ hf hq (fun e => by cases e)
  simp (disch:=omega) only [Aa,go_sem]
  refine loop (fun p : Nat × Nat => ⟨[(0, .bx c 0), (2, .ds (Ad Bo picks)), (3, .rw kq gq path.length), (6, .bx n 0), (10, .bx (n + 2) 0), (11, .bx (n + 3) 0), (12, .b (XA fs tn tw picks path p.1)), (19, .ds (Ad A2 v.items)), (20, .i .i64 v.items.length), (21, .i .i64 p.1)],
      (n+3,.bx [.i .i64 5,.i .i64 0,.s ⟨#[]⟩,.rw (n+4) p.1 p.1,.e0])::(n+4,.rw p.1 5 (Ad A2 (U8 fs tn tw picks path p.1)))::(n+2,.bx [.i .i64 0,.i .i64 0,.s ⟨#[]⟩,.e0,.e0])::(n,.bx [.s tn,.ds (Ad Dx tw)]) ::
      (kq,.rc gq 5 cap (Ad A2 path))::(kp,.rw (gp+(JT fs tn tw picks path p.1).length) 2 (Ad CZ (P++JT fs tn tw picks path p.1)))::(c,.bx [.ds (Ad BB doc),.mp km,.rw kp (gp+(JT fs tn tw picks path p.1).length) (P.length+(JT fs tn tw picks path p.1).length)])::(km,.mq (Fw doc))::hp,p.2⟩)
    (fun p => p.1 ≤ v.items.length ∧ n + 5 ≤ p.2) (fun p => v.items.length - p.1) (0, n + 5) ?_ ?_ (fun ⟨j, k⟩ hj => ?_)
  . exact ⟨by simp, by simp⟩
  . refine (Dy (c := n + 3) (i := 3) (m := 5) (cs := [.i .i64 5, .i .i64 0, .s ⟨#[]⟩, .e0, .e0]) ?_ rfl).trans (Ac ?_ (Ae.sub (Ae.cons ?_ (Ae.cons ?_ (Ae.cons ?_ (Ae.cons ?_ (Ae.cons ?_ (Ae.cons ?_ (Ae.cons ?_ (Ae.cons ?_ (Ae.base hf fun i hi hx => ?_)))))))))) (Nat.le_refl _))
    all_goals first
      | (simp only [List.mem_cons, List.not_mem_nil, or_false, not_or] at hx
         simp only [AC]
         repeat rw [if_neg (by omega)]
         done)
      | ((simp (disch := omega) only [Aa, JT, U8, XA, Wc, GR, List.take_zero, List.flatMap_nil, List.map_nil, List.append_nil, hq, hc, hk, hm, go_sem])
         first | done | rfl | (simp;done))
  dsimp only at hj
  obtain ⟨Cm,Ba⟩:=hj
  have oL : (U8 fs tn tw picks path j).length = j := W0 (by omega)
  simp (disch:=omega) only [Aa,oL,go_sem]
  refine Ai (fun q=>?_) (fun q=>?_)
  . have q : j < v.items.length := by simpa using q
    obtain ⟨x, ex⟩ : ∃ x, v.items[j]? = some x := ⟨v.items[j], by simp [q]⟩
    have hx:=h x (zla ex)
    have ef : fs[j]? = some (Be doc x) := by rw [← Of, List.getElem?_map, ex]; rfl
    have e1:=MS (tn:=tn) (tw:=tw) (picks:=picks) (path:=path) ef
    have e2:=Tc (tn:=tn) (tw:=tw) (picks:=picks) (path:=path) ef
    have e3:=TB (tn:=tn) (tw:=tw) (picks:=picks) (path:=path) ef
    have hle := hPle (j + 1) (by omega)
    have hwx : Bu x < Bu v := by have := Cq (List.mem_of_getElem? ex); rw [Bn v]; omega
    have hD := hx tn tw picks (path ++ [Oi (j : Nat)]) Fk LQ (by simp; omega)
    rw [e1,zld] at hle
    obtain ⟨X,hX⟩:∃X,Be doc x tn tw picks (path++[Oi (j:Nat)])=X:=⟨_,rfl⟩
    rw [hX] at hD e1 e2 e3 hle
    have hjm:(1:Int)≤1:=Int.le_refl 1
    by_cases hcap:path.length+1≤cap
    . simp (disch := omega) only [Aa, q, Ag (Ab A2 ex), go_sem]
      refine A3.f (fun _ Ao e=>LN j _ _) ?_
      simp (disch:=omega) only [Aa,hcap,FJ,Ir,go_sem]
      refine ⟨⟨by omega, by omega⟩, by omega, by omega, A3.w (ws := E1 doc (Fw doc) c km kp (gp + (JT fs tn tw picks path j).length) (P ++ JT fs tn tw picks path j) X.2) (F3 ⟨?_, ?_, ?_⟩ (by omega) (by omega) (by omega)) rfl
        (fun Ao e => hD Ao c km kp _ (P ++ JT fs tn tw picks path j) kq gq cap (path.length + 1) _ ⟨(e c (.inl (by omega))).trans ?_, (e km (.inl (by omega))).trans ?_, (e kp (.inl (by omega))).trans ?_⟩ ((e kq (.inl (by omega))).trans ?_) (by simp) (by rw [List.length_append]; omega)) ?_⟩
      case refine_8 =>
        simp only [E1,zlh,zli]
        simp (disch:=omega) only [Aa,oL,go_sem]
        refine ⟨⟨⟨by omega, by omega, by omega⟩, ⟨by omega, by omega⟩, by omega⟩, by omega, by omega, (j + 1, _), ⟨by dsimp only; omega, by dsimp only; omega⟩, by dsimp only; omega, (Qh (k := kq) (g := gq) (m := 5) (cap := cap) (l := Ad A2 (path ++ [Oi (j : Nat)])) (len := path.length) ?_ (by rw [Ax]; simp)).trans
          (Ac ?_ (Ae.sub (Ae.cons ?_ (Ae.cons ?_ (Ae.cons ?_ (Ae.cons ?_ (Ae.cons ?_ (Ae.cons ?_ (Ae.cons ?_ (Ae.cons ?_ (Ae.base hf fun i hi hx=>?_)))))))))) (zna _))⟩
        all_goals first
          | (simp only [List.mem_cons, List.not_mem_nil, or_false, not_or] at hx
             simp only [AC]
             repeat rw [if_neg (by omega)]
             done)
          | ((simp (disch := omega) only [Aa, ED, e1, e2, e3, At j (by omega), List.length_append, List.append_assoc, Nat.add_assoc, List.length_cons, List.length_nil, go_sem])
             first | done | rfl | (simp;done))
      all_goals (simp (disch:=omega) only [Aa,zld,go_sem])
    . simp (disch := omega) only [Aa, q, Ag (Ab A2 ex), go_sem]
      refine A3.f (fun _ Ao e=>LN j _ _) ?_
      simp (disch:=omega) only [Aa,hcap,FJ,Ir,go_sem]
      refine ⟨⟨by omega, by omega⟩, by omega, A3.w (ws := E1 doc (Fw doc) c km kp (gp + (JT fs tn tw picks path j).length) (P ++ JT fs tn tw picks path j) X.2) (F3 ⟨?_, ?_, ?_⟩ (by omega) (by omega) (by omega)) rfl
        (fun Ao e => hD.rw ⟨_, func36, by kernel_rfl, by kernel_rfl⟩ Ao c km kp _ (P ++ JT fs tn tw picks path j) (k + 8) 0 (path.length + 1) _ ⟨(e c (.inl (by omega))).trans ?_, (e km (.inl (by omega))).trans ?_, (e kp (.inl (by omega))).trans ?_⟩ ((e (k + 8) (.inr ⟨7, by simp, by omega⟩)).trans ?_) (by omega) (by simp) (by rw [List.length_append]; omega)) ?_⟩
      case refine_8 =>
        simp only [E1,zlh,zli]
        simp (disch:=omega) only [Aa,oL,go_sem]
        refine ⟨⟨⟨by omega, by omega, by omega⟩, by omega, by omega⟩, by omega, by omega, (j + 1, _), ⟨by dsimp only; omega, by dsimp only; omega⟩, by dsimp only; omega,
          Ac ?_ (Ae.sub (Ae.cons ?_ (Ae.cons ?_ (Ae.cons ?_ (Ae.cons ?_ (Ae.cons ?_ (Ae.cons ?_ (Ae.cons ?_ (Ae.cons ?_ (Ae.base hf fun i hi hx=>?_)))))))))) (zna _)⟩
        all_goals first
          | (simp only [List.mem_cons, List.not_mem_nil, or_false, not_or] at hx
             simp only [AC]
             repeat rw [if_neg (by omega)]
             done)
          | ((simp (disch := omega) only [Aa, ED, e1, e2, e3, At j (by omega), List.length_append, List.append_assoc, Nat.add_assoc, List.length_cons, List.length_nil, go_sem])
             first | done | rfl | (simp;done))
      all_goals (simp (disch:=omega) only [Aa,zld,go_sem])
  . have q : j = v.items.length := by simp at q; omega
    subst q
    simp (disch:=omega) only [Aa,hRP,go_sem]
    refine Ai (fun c1=>?_) (fun c1=>?_)
    . rw [if_pos c1] at hRV
      subst hRV
      simp (disch:=omega) only [Aa,go_sem]
      refine C8 hR ?_ ?_ ?_ fun j hj j1 j2 j3=>?_
      all_goals (simp (disch:=omega) only [Aa,go_sem])
      by_cases e:kq=j
      . subst e; rw [if_pos rfl, hq]
      . rw [if_neg e]
    . rw [if_neg (by simp [c1])] at hRV
      subst hRV
      simp (disch:=omega) only [Aa,oL,go_sem]
      refine ⟨C8 hR ?_ ?_ ?_ fun j hj j1 j2 j3 => ?_, rfl, rfl, rfl, by rw [List.take_of_length_le (by omega)]; rfl, rfl⟩
      all_goals (simp (disch:=omega) only [Aa,go_sem])
      by_cases e:kq=j
      . subst e; rw [if_pos rfl, hq]
      . rw [if_neg e]
end Go.Proofs.YtgfidgoefioigaaGreatDoor
