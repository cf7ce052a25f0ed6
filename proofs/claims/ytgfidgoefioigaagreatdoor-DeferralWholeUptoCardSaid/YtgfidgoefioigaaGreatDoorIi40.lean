/- Proof. Conditions: none. -/
import Derived.Test.YtgfidgoefioigaaGreatDoorIi39
open Go.Proofs.Tryz
open List renaming cons_append→zlh,nil_append→zli
open Nat renaming le_refl→zna
namespace Go.Proofs.YtgfidgoefioigaaGreatDoor
open Go.Eng
set_option linter.all false
set_option maxRecDepth 20000
set_option maxHeartbeats 1000000
theorem Pm {doc:List Az} (hd:DocB doc) (n:ByteArray):Fd ((A1 doc n).getD Dv).inputs:=by
 cases h:A1 doc n with
 | none=>exact KR
 | some t=>exact (hd.d t (List.mem_of_find?_eq_some h)).i
abbrev Yd (f:FuncId) (hp:CH) (m:Nat) (args:List AV) (B:Bool):Prop:=AI prog f hp m args (Rx (fun b:Bool=>b=B) fun b Ao n' r'=>Ao=[]++hp∧n'=m∧r'=.b b)
noncomputable def Px (doc:List Az) (own:ByteArray):Nat→Nat→List ByteArray→List ByteArray
 | 0,_,l=>l
 | f+1,j,l=>match l[j]? with
  | some x=>Px doc own f (j+1) (LD doc own (AZ ((A1 doc x).getD Dv).inputs) l)
  | none=>l
theorem UF (doc:List Az) (own:ByteArray) (f:Nat) (l:List ByteArray):Px doc own f l.length l=l:=by
 cases f with
 | zero=>rfl
 | succ f=>rw [Px,List.getElem?_eq_none (zna _)]
noncomputable def VE (doc:List Az) (t:Az):Bool:=if t.k=5 then decide (t.n∈Px doc t.n 66 0 (LD doc t.n (AZ t.inputs) [])) else false
inductive CiS
 | mk (j g:Nat) (l:List ByteArray) (n:Nat)
theorem Er (doc:List Az) (hd:DocB doc) (t:Az) (ht:Fd t.inputs) (hp:CH) (m:Nat):Yd 126 hp m [B5 doc,JN t] (VE doc t):=by
 obtain ⟨B,hB⟩:∃B,VE doc t=B:=⟨_,rfl⟩
 rw [hB]
 unfold VE at hB
 have FH:=hd.l
 refine ER (fun b:Bool=>b=B) (fun _=>[]) (fun b=>.b b) func126 (by kernel_rfl) cc126 cr126 rfl (fun hf i hi=>trivial) fun hf=>?_
 unfold ck126
 simp only [go_sem]
 refine Ai (fun c=>?_) (fun c=>?_)
 .rw [if_neg (by simpa using c)] at hB
  simp only [go_sem]
  refine BY false hB ?_
  simp only [go_sem]
  try rfl
 rw [if_pos (by simpa using c)] at hB
 obtain ⟨T,hT⟩:∃T,Px doc t.n 66 0 (LD doc t.n (AZ t.inputs) [])=T:=⟨_,rfl⟩
 rw [hT] at hB
 have hN:=fun Ao m'=>AI.e0w (hp:=Ao) (n:=m') (args:=[B5 doc,JN t,.s t.n,.e0]) (m:=1) (i:=3) rfl rfl (QJ doc FH t ht t.n m' 0 [] ⟨by simp,by simp⟩ ((m',.rw 0 1 [])::Ao) (Av _ _ _) (m'+1))
 simp only [go_sem]
 refine Af.r (hN _ _) ?_
 rintro Ao n' r ⟨i,hi,e1,e2,e3⟩
 subst e1
 subst e2
 subst e3
 obtain ⟨g,l⟩:=i
 obtain ⟨Md,Ij,hi0⟩:=hi
 simp only [nxW,nxR,zlh,zli]
 simp (disch:=omega) only [Aa,go_sem]
 refine loop (fun p:CiS=>match p with
  | .mk j g' l' n=>⟨[(2,.bx m 0),(3,.bx (m+1) 0),(5,.rw (m+2) g' l'.length),(6,.i .i64 j)],(m+2,.rw g' 1 (Bv l'))::(m,.bx [.ds (Ad BB doc)])::(m+1,.bx [.i .i64 t.k,.s t.n,.ds t.impl,.ds t.dirs,.ds (Ad Bq t.fields),.ds t.members,.ds t.inputs])::hp,n⟩)
  (fun p=>match p with | .mk j g' l' n=>j≤l'.length∧m+3≤n∧WI doc t.n l'∧T=Px doc t.n (66 - j) j l') (fun p=>match p with | .mk j g' l' n=>66 - j) (.mk 0 g l (m+3)) ?_ ?_ (fun p hj=>?_)
 .exact ⟨Nat.zero_le _,zna _,Md,by rw [hi0];exact hT.symm⟩
 .dsimp only
  refine Ac ?_ (Ae.sub (Ae.cons ?_ (Ae.cons ?_ (Ae.cons ?_ (Ae.base hf fun a ha hax=>?_))))) (zna _)
  .simp (disch:=omega) only [Aa,go_sem]
  .simp (disch:=omega) only [Aa,go_sem]
  .simp (disch:=omega) only [Aa,go_sem]
  .simp (disch:=omega) only [Aa,go_sem]
  .repeat rw [Aq _ _ (by omega)]
 obtain ⟨j,g',l',n⟩:=p
 obtain ⟨Cm,Ba,Aw,Cc⟩:=hj
 have hll:=Aw.len
 have hSl:(Bv l').length=l'.length:=Ax _ _
 have JJ:(Bv l').take l'.length=Bv l':=List.take_of_length_le (by omega)
 dsimp only
 simp (disch:=omega) only [Aa,hSl,zna,JJ,go_sem]
 refine Ai (fun q=>?_) (fun q=>?_)
 .have q:j<l'.length:=by simpa using q
  obtain ⟨x,ex⟩:∃x,l'[j]?=some x:=⟨l'[j],by simp [q]⟩
  have hfu:66 - j=66 - (j+1)+1:=by omega
  rw [hfu,Px,ex] at Cc
  dsimp only at Cc
  have hF:=BM doc (by omega) x
  have hBi:=Pm hd x
  obtain ⟨R,hR⟩:∃R,A1 doc x=R:=⟨_,rfl⟩
  rw [hR] at hF hBi Cc
  unfold DH at hF
  obtain ⟨D,hD⟩:∃D,R.getD Dv=D:=⟨_,rfl⟩
  rw [hD] at hF hBi Cc
  have hX:=fun Ao e m'=>QJ doc FH D hBi t.n (m+2) g' l' Aw Ao e m'
  simp (disch:=omega) only [Aa,q,hSl,zna,JJ,Ag (Ab C9 ex),go_sem]
  refine A3.f (fun _ _ _=>hF _ _) ?_
  simp (disch:=omega) only [Aa,go_sem]
  refine ⟨⟨by omega,by omega,by omega⟩,?_⟩
  refine Af.r (hX _ (by (simp (disch:=omega) only [Aa,go_sem])) _) ?_
  rintro Ao n' r ⟨i,hi,e1,e2,e3⟩
  subst e1
  subst e2
  subst e3
  obtain ⟨g2,l2⟩:=i
  obtain ⟨Ex,La,Gn⟩:=hi
  rw [←Gn] at Cc
  simp only [nxW,nxR,zlh,zli]
  simp (disch:=omega) only [Aa,go_sem]
  refine ⟨.mk (j+1) g2 l2 (n+50),⟨show j+1≤l2.length by omega,show m+3≤n+50 by omega,Ex,Cc⟩,by show 66 - (j+1)<66 - j;omega,?_⟩
  dsimp only
  refine Ac ?_ (Ae.sub (Ae.cons ?_ (Ae.cons ?_ (Ae.cons ?_ (Ae.base hf fun a ha hax=>?_))))) (by omega)
  .simp (disch:=omega) only [Aa,At j (by omega),go_sem]
  .simp (disch:=omega) only [Aa,go_sem]
  .simp (disch:=omega) only [Aa,go_sem]
  .simp (disch:=omega) only [Aa,go_sem]
  .repeat rw [Aq _ _ (by omega)]
 .have q:j=l'.length:=by simp at q;omega
  subst q
  rw [UF] at Cc
  rw [Cc] at hB
  simp (disch:=omega) only [Aa,hSl,zna,JJ,go_sem]
  have hH:=fun Ao (e:gc Ao (m+2)=.rw g' 1 (Bv l')) m'=>K3 l' t.n (by omega) e m'
  refine Af.f (hH _ (by (simp (disch:=omega) only [Aa,go_sem])) _) ?_
  simp (disch:=omega) only [Aa,go_sem]
  refine BY (decide (t.n∈l')) hB ?_
  have BO:m≤n:=by omega
  simp (disch:=omega) only [Aa,BO,go_sem]
theorem NJ (doc:List Az) (FH:doc.length≤64) (n:ByteArray) (hp:CH) (m:Nat):Ah prog 128 hp m [B5 doc,.s n] (.b (Ck n||(A1 doc n).isSome)):=by
 have hF:=BM doc (by omega) n
 obtain ⟨R,hR⟩:∃R,A1 doc n=R:=⟨_,rfl⟩
 rw [hR] at hF ⊢
 unfold DH at hF
 refine Am func128 (by kernel_rfl) cc128 cr128 rfl fun hf=>?_;unfold ck128
 simp only [go_sem]
 refine Af.f (hF _ _) ?_
 simp (disch:=omega) only [Aa,go_sem]
 refine Af.f (Ds _ _ _) ?_
 simp (disch:=omega) only [Aa,go_sem]
noncomputable def HN (doc:List Az) (n:ByteArray):Bool:=E9 doc n||((A1 doc n).isSome&&decide (((A1 doc n).getD Dv).k=5))
theorem G2 (doc:List Az) (FH:doc.length≤64) (n:ByteArray) (hp:CH) (m:Nat):Ah prog 130 hp m [B5 doc,.s n] (.b (HN doc n)):=by
 have hF:=BM doc (by omega) n
 have hL:=ML doc (by omega) n
 unfold HN
 obtain ⟨R,hR⟩:∃R,A1 doc n=R:=⟨_,rfl⟩
 rw [hR] at hF ⊢
 unfold DH at hF
 obtain ⟨b,hb⟩:∃b,E9 doc n=b:=⟨_,rfl⟩
 rw [hb] at hL ⊢
 refine Am func130 (by kernel_rfl) cc130 cr130 rfl fun hf=>?_;unfold ck130
 simp only [go_sem]
 refine Af.f (hF _ _) ?_
 simp (disch:=omega) only [Aa,go_sem]
 refine Af.f (hL _ _) ?_
 simp (disch:=omega) only [Aa,go_sem]
def ON (t:Az):Bool:=if t.k=1∨t.k=2 then decide (t.fields.length=0) else if t.k=3∨t.k=4 then decide (t.members.length=0) else if t.k=5 then decide (t.inputs.length=0) else false
theorem UW (t:Az) (hp:CH) (m:Nat):Ah prog 125 hp m [JN t] (.b (ON t)):=by
 have c1:∀n:Nat,decide ((n:Int)=0)=decide (n=0):=fun n=>by simp
 refine Am func125 (by kernel_rfl) cc125 cr125 rfl fun hf=>?_;unfold ck125
 by_cases k1:t.k=1
 .have:ON t=decide (t.fields.length=0):=by simp [ON,k1]
  rw [this]
  simp (disch:=omega) only [Aa,decide_eq_true k1,c1,go_sem]
 by_cases k2:t.k=2
 .have:ON t=decide (t.fields.length=0):=by simp [ON,k2]
  rw [this]
  simp (disch:=omega) only [Aa,decide_eq_false k1,decide_eq_true k2,c1,go_sem]
 by_cases k3:t.k=3
 .have:ON t=decide (t.members.length=0):=by simp [ON,k3]
  rw [this]
  simp (disch:=omega) only [Aa,decide_eq_false k1,decide_eq_false k2,decide_eq_true k3,c1,go_sem]
 by_cases k4:t.k=4
 .have:ON t=decide (t.members.length=0):=by simp [ON,k4]
  rw [this]
  simp (disch:=omega) only [Aa,decide_eq_false k1,decide_eq_false k2,decide_eq_false k3,decide_eq_true k4,c1,go_sem]
 by_cases k5:t.k=5
 .have:ON t=decide (t.inputs.length=0):=by simp [ON,k5]
  rw [this]
  simp (disch:=omega) only [Aa,decide_eq_false k1,decide_eq_false k2,decide_eq_false k3,decide_eq_false k4,decide_eq_true k5,c1,go_sem]
 have:ON t=false:=by simp [ON,k1,k2,k3,k4,k5]
 rw [this]
 simp (disch:=omega) only [Aa,decide_eq_false k1,decide_eq_false k2,decide_eq_false k3,decide_eq_false k4,decide_eq_false k5,c1,go_sem]
def Sp:B6:=.mk ⟨#[]⟩ ⟨#[]⟩ [] false AB []
def BN (l:List B6) (n:ByteArray):Option B6:=l.find? fun x=>decide (x.n=n)
noncomputable def Ns (o:Option B6):AV:=.tp [.ag (A7 (o.getD Sp)),.b o.isSome]
theorem P0 (t:B6) (l:List B6) (n:ByteArray):BN (t::l) n=if t.n=n then some t else BN l n:=by
 unfold BN
 rw [List.find?_cons]
 by_cases c:t.n=n
 .simp [c]
 .simp [c]
theorem Dl (l:List B6) (hl:l.length≤1000000000000) (n:ByteArray) (hp:CH) (m:Nat):Ah prog 129 hp m [.ds (Ad A7 l),.s n] (Ns (BN l n)):=by
 obtain ⟨R,hR⟩:∃R,BN l n=R:=⟨_,rfl⟩
 rw [hR,Ns]
 refine Am func129 (by kernel_rfl) cc129 cr129 rfl fun hf=>?_;unfold ck129
 simp only [go_sem]
 refine loop (fun p:Nat × Nat=>⟨[(0,.ds (Ad A7 l)),(1,.s n),(4,.bx m 0),(6,.i .i64 p.1)],(m,.bx [.s ⟨#[]⟩,.s ⟨#[]⟩,.e0,.b false,.i .i64 0,.i .i64 0,.s ⟨#[]⟩,.e0,.e0,.e0])::hp,p.2⟩)
  (fun p=>p.1≤l.length∧m+1≤p.2∧R=BN (l.drop p.1) n) (fun p=>l.length - p.1) (0,m+1) ?_ ?_ (fun ⟨j,k⟩ hj=>?_)
 .exact ⟨by simp,by simp,hR.symm⟩
 .refine Ac ?_ (A6.cons ?_ (A6.base hf ?_)) (zna _)
  all_goals (simp (disch:=omega) only [Aa,go_sem])
 dsimp only at hj
 obtain ⟨Cm,Ba,Aw⟩:=hj
 have LW:m≤k:=by omega
 simp (disch:=omega) only [Aa,go_sem]
 refine Ai (fun q=>?_) (fun q=>?_)
 .have q:j<l.length:=by simpa using q
  obtain ⟨y,et⟩:∃y,l[j]?=some y:=⟨l[j],by simp [q]⟩
  rw [A5 et,P0] at Aw
  simp (disch:=omega) only [Aa,q,Ag (Ab A7 et),go_sem]
  refine Ai (fun c=>?_) (fun c=>?_)
  .have c:y.n=n:=by simpa using c
   rw [if_pos c] at Aw
   subst Aw
   simp (disch:=omega) only [Aa,LW,q,Ag (Ab A7 et),Option.getD_some,Option.isSome_some,go_sem]
  .have c:¬y.n=n:=by simpa using c
   rw [if_neg c] at Aw
   simp (disch:=omega) only [Aa,go_sem]
   refine ⟨(j+1,_),⟨by dsimp only;omega,by dsimp only;omega,Aw⟩,by dsimp only;omega,Ac ?_ (A6.cons ?_ (A6.base hf ?_)) (zna _)⟩
   all_goals
    simp (disch:=omega) only [Aa,At j (by omega),LW,go_sem]
 .have q:j=l.length:=by simp at q;omega
  subst q
  rw [List.drop_length] at Aw
  have Aw:R=none:=Aw
  subst Aw
  simp (disch:=omega) only [Aa,LW,go_sem]
  try rfl
set_option maxHeartbeats 2000000
abbrev AP:=Nat × Int
def BI (doc:List Az) (lit:Bool) (s:AP):Ap:=.bx [.ds (Ad BB doc),.i .i64 0,.i .i64 0,.s ⟨#[]⟩,.e0,.e0,.b lit,.i .i64 s.1,.i .i64 s.2]
theorem EZ {n:Nat} {c:Nat} {doc:List Az} {lit:Bool} {s:AP} (h:c<n):wsLt n [(c,BI doc lit s)]:=by
 refine ⟨h,?_,trivial⟩
 intro α hα
 simp only [List.mem_cons,List.not_mem_nil,or_false] at hα
 rcases hα with rfl | rfl | rfl | rfl | rfl | rfl | rfl | rfl | rfl<;>rfl
theorem B3 {n c:Nat} {X:Ap} {hp Ao:CH} (h1:gc Ao c=X) (h2:∀j,j<n→j≠c→gc Ao j=gc hp j):Up n ([(c,X)]++hp) Ao:=fun j hj=>by
 simp only [zlh,zli]
 by_cases e:c=j
 .subst e;rw [Av,h1]
 .rw [Aq _ _ e];exact h2 j hj fun e'=>e e'.symm
def BV (e:Int) (s:AP):AP:=(s.1,if s.2=0 then e else s.2)
def Gr (lv:Nat) (s:AP):AP :=
 let s1:=if 24<lv then BV 5 s else s
 if 4096<s1.1+1 then BV 4 (s1.1+1,s1.2) else (s1.1+1,s1.2)
section
variable {doc:List Az} {lit:Bool} {s:AP} {c:Nat} {hp:CH}
theorem CR {n:Nat} (h:gc hp c=BI doc lit s) (hf:∀k,n≤k→gc hp k=.no):c<n:=BJ hf h (fun e=>by cases e)
theorem Cv (h:gc hp c=BI doc lit s) (e:Int) (n:Nat):AQ prog 180 hp n [.bx c 0,.i .i64 e] ([(c,BI doc lit (BV e s))]++hp) n (.tp []):=by
 have Gb:(∀k,n≤k→gc hp k=.no)→wsLt n [(c,BI doc lit (BV e s))]:=fun hf=>EZ (CR h hf)
 have hc:gc hp c=.bx [.ds (Ad BB doc),.i .i64 0,.i .i64 0,.s ⟨#[]⟩,.e0,.e0,.b lit,.i .i64 s.1,.i .i64 s.2]:=h
 refine CP func180 (by kernel_rfl) cc180 cr180 rfl Gb fun hf=>?_;unfold ck180
 have l1:=CR h hf
 unfold BV
 simp (disch:=omega) only [Aa,hc,go_sem]
 by_cases q:s.2=0
 .simp (disch:=omega) only [Aa,hc,decide_eq_true q,go_sem]
  refine B3 ?_ fun j hj j1=>?_
  .simp only [q,if_true,BI]
   simp (disch:=omega) only [Aa,go_sem]
  .have j2:¬c=j:=fun e=>j1 e.symm
   simp (disch:=omega) only [Aa,j2,go_sem]
 .simp (disch:=omega) only [Aa,hc,decide_eq_false q,go_sem]
  refine B3 ?_ fun j hj j1=>rfl
  simp only [q,if_false,BI]
  exact hc
theorem Rd (h:gc hp c=BI doc lit s) (lv:Nat) (hl:lv≤1000) (hs:s.1≤1000000) (n:Nat):AQ prog 182 hp n [.bx c 0,.i .i64 lv] ([(c,BI doc lit (Gr lv s))]++hp) n (.tp []):=by
 have Gb:(∀k,n≤k→gc hp k=.no)→wsLt n [(c,BI doc lit (Gr lv s))]:=fun hf=>EZ (CR h hf)
 have hc:gc hp c=.bx [.ds (Ad BB doc),.i .i64 0,.i .i64 0,.s ⟨#[]⟩,.e0,.e0,.b lit,.i .i64 s.1,.i .i64 s.2]:=h
 refine CP func182 (by kernel_rfl) cc182 cr182 rfl Gb fun hf=>?_;unfold ck182
 have l1:=CR h hf
 unfold Gr
 have w1:IntKind.i64.wrap ((s.1:Int)+1)=((s.1+1:Nat):Int):=At s.1 (by omega)
 have j2:∀j,j≠c→¬c=j:=fun j h e=>h e.symm
 simp (disch:=omega) only [Aa,go_sem]
 refine Ai (fun q=>?_) (fun q=>?_)
 .have q:24<lv:=by simp at q;omega
  rw [if_pos q]
  simp (disch:=omega) only [Aa,go_sem]
  refine Af.x (Cv h 5 _) ?_
  have h':gc ([(c,BI doc lit (BV 5 s))]++hp) c=BI doc lit (BV 5 s):=Av _ _ _
  have w2:(BV 5 s).1=s.1:=rfl
  obtain ⟨s',hs'⟩:∃s',BV 5 s=s':=⟨_,rfl⟩
  rw [hs'] at h' w2 ⊢
  rw [←w2] at w1
  have Oo:=h'
  unfold BI at Oo
  simp (disch:=omega) only [Aa,BI,Oo,w1,go_sem]
  refine Ai (fun q2=>?_) (fun q2=>?_)
  .have q2:4096<s'.1+1:=by simp at q2;omega
   rw [if_pos q2]
   simp (disch:=omega) only [Aa,go_sem]
   refine Af.x (Cv (doc:=doc) (lit:=lit) (s:=(s'.1+1,s'.2)) (Av _ _ _) 4 _) ?_
   simp (disch:=omega) only [Aa,go_sem]
   all_goals
    refine B3 (Av _ _ _) fun j hj j1=>?_
    have j3:=j2 j j1
    simp (disch:=omega) only [Aa,j3,go_sem]
  .have q2:¬4096<s'.1+1:=by simp at q2;omega
   rw [if_neg q2]
   simp (disch:=omega) only [Aa,go_sem]
   all_goals
    refine B3 (Av _ _ _) fun j hj j1=>?_
    have j3:=j2 j j1
    simp (disch:=omega) only [Aa,j3,go_sem]
 .have q:¬24<lv:=by simp at q;omega
  rw [if_neg q]
  have h':=h
  obtain ⟨s',hs'⟩:∃s':AP,s'=s:=⟨_,rfl⟩
  have w2:s'.1=s.1:=by rw [hs']
  rw [←hs'] at h'
  rw [←w2] at w1
  rw [←hs']
  simp (disch:=omega) only [Aa,go_sem]
  have Oo:=h'
  unfold BI at Oo
  simp (disch:=omega) only [Aa,BI,Oo,w1,go_sem]
  refine Ai (fun q2=>?_) (fun q2=>?_)
  .have q2:4096<s'.1+1:=by simp at q2;omega
   rw [if_pos q2]
   simp (disch:=omega) only [Aa,go_sem]
   refine Af.x (Cv (doc:=doc) (lit:=lit) (s:=(s'.1+1,s'.2)) (Av _ _ _) 4 _) ?_
   simp (disch:=omega) only [Aa,go_sem]
   all_goals
    refine B3 (Av _ _ _) fun j hj j1=>?_
    have j3:=j2 j j1
    simp (disch:=omega) only [Aa,j3,go_sem]
  .have q2:¬4096<s'.1+1:=by simp at q2;omega
   rw [if_neg q2]
   simp (disch:=omega) only [Aa,go_sem]
   all_goals
    refine B3 (Av _ _ _) fun j hj j1=>?_
    have j3:=j2 j j1
    simp (disch:=omega) only [Aa,j3,go_sem]
theorem GU (h:gc hp c=BI doc lit s) (v:Ak) (n:Nat):Ah prog 164 hp n [.bx c 0,vx v] (.b (lit&&decide (v.k=7))):=by
 have hc:gc hp c=.bx [.ds (Ad BB doc),.i .i64 0,.i .i64 0,.s ⟨#[]⟩,.e0,.e0,.b lit,.i .i64 s.1,.i .i64 s.2]:=h
 have hG:∀hp m,Ah prog 18 hp m [.ag [.i .i64 0,.i .i64 0,.s ⟨#[]⟩,.e0,.e0],.s v.s] (.tp [vx AB,.b false]):=fun hp m=>(Iw AB (.mk _ (by show 0*80≤_;decide) (by show 0*16≤_;decide) (fun x (hx:x∈([]:List Ak))=>(by cases hx))) v.s hp m).cv rfl
 refine Am func164 (by kernel_rfl) cc164 cr164 rfl fun hf=>?_;unfold ck164
 have l1:=CR h hf
 cases lit with
 | false =>
  simp (disch:=omega) only [Aa,hc,go_sem]
 | true =>
  simp (disch:=omega) only [Aa,hc,go_sem]
  refine Ai (fun q=>?_) (fun q=>?_)
  .have q:decide (v.k=7)=false:=by simpa using q
   rw [q]
   first | done | (simp (disch:=omega) only [Aa,go_sem])
  .have q:decide (v.k=7)=true:=by simpa using q
   rw [q]
   have k1:¬n=c:=by omega
   have k2:¬n+11=c:=by omega
   simp (disch:=omega) only [Aa,hc,k1,go_sem]
   refine A3.f (fun _ _ _=>hG _ _) ?_
   simp (disch:=omega) only [Aa,k2,go_sem]
end
end Go.Proofs.YtgfidgoefioigaaGreatDoor
