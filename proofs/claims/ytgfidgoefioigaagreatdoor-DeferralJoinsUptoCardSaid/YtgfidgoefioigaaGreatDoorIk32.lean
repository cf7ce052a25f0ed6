/- Proof. Conditions: none. -/
import Derived.Test.YtgfidgoefioigaaGreatDoorIk31
noncomputable section
open List renaming mem_of_getElem?->zg
open Go.Proofs.Tryz
open Nat renaming le_refl->zna
namespace Go.Proofs.YtgfidgoefioigaaGreatDoor
open Go.Eng
set_option linter.all false
set_option maxRecDepth 20000
theorem Ab6 (n:Int) (hp:CH) (m:Nat):Ae prog 25 hp m [.i .i64 n] (vx (.mk 2 n ⟨#[]⟩ [] [])):=by
 refine Al func25 (tA cc25) (tB cc25) (tC cc25) rfl fun hf=>?_;unfold ck25
 simp only [go_sem]
def mjA:Ag:=.mk 6 0 ⟨#[]⟩ [.mk 2 1 ⟨#[]⟩ [] []] [⟨#[97]⟩]
def mjB:Ag:=.mk 6 0 ⟨#[]⟩ [.mk 2 2 ⟨#[]⟩ [] []] [⟨#[98]⟩]
def mjC:Ag:=.mk 6 0 ⟨#[]⟩ [.mk 2 1 ⟨#[]⟩ [] [],.mk 2 2 ⟨#[]⟩ [] []] [⟨#[97]⟩,⟨#[98]⟩]
theorem mjM:Vp [.mk ⟨#[120]⟩ [] mjB []] mjA=(mjC,0):=by
 have h:Jw mjA mjB=(mjC,0):=by
  simp [Jw,mjA,mjB,mjC,NR,adR,ix,Ag.k_mk,Ag.keys_mk,Ag.items_mk,Ag.n_mk,Ag.s_mk]
 rw [Vp,DM.d,DM.p,FT,h,iP rfl,Vp]
theorem mjW:AE mjA+wtP [.mk ⟨#[120]⟩ [] mjB []]<=1000000000000:=by
 simp [wtP,DM.d,mjA,mjB,AE,BF]
def mjP:Pk:=.mk ⟨#[97]⟩ ⟨#[]⟩ ⟨#[]⟩ [] ⟨#[]⟩ [] ⟨#[120]⟩ 0 []
theorem mjL:Cy [mjP] []=[⟨#[120]⟩]:=by
 simp [Cy,mjP,Y9,Cm,ix]
theorem Wv (hp:CH) (m:Nat):Ae prog 7 hp m [] (.b true):=by
 have hM:=Vc mjA [.mk ⟨#[120]⟩ [] mjB []] (by decide) mjW
 have hL:=U0 [mjP] (by simp [A5,IL,mjP])
 rw [mjM] at hM
 rw [mjL] at hL
 refine Al func7 (tA cc7) (tB cc7) (tC cc7) rfl fun hf=>?_;unfold ck7
 simp only [go_sem]
 refine Ac.f (Ab6 1 _ _) ?_
 simp only [go_sem]
 refine Ac.f (Ab6 2 _ _) ?_
 simp only [go_sem]
 refine Ac.q (args':=[vx mjA,.ds (Ab DU [.mk ⟨#[120]⟩ [] mjB []])]) (hM _ _) (by simp only [go_sem]<;>rfl) ?_
 simp only [go_sem]
 refine Ac.q (args':=[.ds (Ab Bi [mjP])]) (hL _ _) (by simp only [go_sem]<;>rfl) ?_
 simp only [mjC,go_sem]
mutual
def lgP:Pk->Int->Bool
 | .mk _ _ _ _ _ _ _ _ p,n=>decide (0<(p.length:Int))&&((decide (IntKind.i64.wrap (n - 1)<=0)||decide (60<(p.length:Int)))||lgL p (IntKind.i64.wrap (n - 1)))
def lgL:List Pk->Int->Bool
 | [],_=>false
 |p::r,n=>lgP p n||lgL r n
end
def Q6 (l:List Pk) (n:Int):Bool:=(decide (n<=0)||decide (60<(l.length:Int)))||lgL l n
theorem Agp (p:Pk) (n:Int):lgP p n=(decide (0<(p.picks.length:Int))&&Q6 p.picks (IntKind.i64.wrap (n - 1))):=by cases p;rw [lgP];rfl
theorem Xn (l:List Pk) (hl:l.length<=1000000000000) (h:∀p∈l,∀n hp m,Ae prog 20 hp m [.ds (Ab Bi p.picks),.i .i64 n] (.b (Q6 p.picks n))) (n:Int) (hp:CH) (m:Nat):Ae prog 20 hp m [.ds (Ab Bi l),.i .i64 n] (.b (Q6 l n)):=by
 refine Al func20 (tA cc20) (tB cc20) (tC cc20) rfl fun hf=>?_;unfold ck20
 simp only [go_sem]
 refine Af (fun c=>?_) (fun c=>?_)
 .rw [Q6,c]
  simp only [go_sem]
 rw [Q6,c]
 simp only [go_sem]
 refine loop (fun p:Nat×Nat=>⟨[(0,.ds (Ab Bi l)),(1,.i .i64 n),(5,.i .i64 p.1)],hp,p.2⟩) (fun p=>p.1<=l.length∧lgL l n=lgL (l.drop p.1) n) (fun p=>l.length - p.1) (0,m) ?_ ?_ (fun ⟨j,N⟩ hj=>?_)
 .exact ⟨by simp,rfl⟩
 .refine Dd ?_
  simp only [go_sem]
 dsimp only at hj
 simp only [go_sem]
 refine Af (fun d=>?_) (fun d=>?_)
 .have d:j<l.length:=by simpa using d
  obtain ⟨x,ex⟩:∃x,l[j]?=some x:=⟨l[j],by simp [d]⟩
  have hx:=h x (zg ex)
  rw [A2 ex,lgL,Agp] at hj
  simp only [d,Ad (Aa Bi ex),go_sem]
  by_cases g:decide (0<(x.picks.length:Int))=true
  .rw [g] at hj
   simp only [g]
   simp only [d,Ad (Aa Bi ex),go_sem]
   simp only [Bool.true_and] at hj
   refine JC (Ac.f (hx _ _ _) ?_)
   simp only [d,go_sem]
   refine Af (fun q=>?_) (fun q=>?_)
   .have q:Q6 x.picks (IntKind.i64.wrap (n - 1))=true:=by simpa using q
    rw [hj.2,q]
    simp only [go_sem]
   .have q:Q6 x.picks (IntKind.i64.wrap (n - 1))=false:=by simpa using q
    rw [q,Bool.false_or] at hj
    simp only [go_sem]
    refine ⟨(j+1,N),⟨by dsimp only;omega,hj.2⟩,by dsimp only;omega,Dd ?_⟩
    simp only [Ao j (by omega),go_sem]
  .have g:decide (0<(x.picks.length:Int))=false:=by simpa using g
   rw [g] at hj
   simp only [g]
   simp only [d,Ad (Aa Bi ex),go_sem]
   simp only [Bool.false_and,Bool.false_or] at hj
   refine BU ?_
   simp only [d,go_sem]
   refine ⟨(j+1,N),⟨by dsimp only;omega,hj.2⟩,by dsimp only;omega,Dd ?_⟩
   simp only [Ao j (by omega),go_sem]
 .have d:j=l.length:=by simp at d;omega
  subst d
  rw [List.drop_length,lgL] at hj
  rw [hj.2]
  simp only [go_sem]
theorem Adn (l:List Pk) (hw:A5 l<=1000000000000) (n:Int) (hp:CH) (m:Nat):Ae prog 20 hp m [.ds (Ab Bi l),.i .i64 n] (.b (Q6 l n)):=by
 have key:∀p:Pk,IL p<=1000000000000->∀n hp m,Ae prog 20 hp m [.ds (Ab Bi p.picks),.i .i64 n] (.b (Q6 p.picks n)):=fun p=>Pk.ind (Q:=fun p=>IL p<=1000000000000->∀n hp m,Ae prog 20 hp m [.ds (Ab Bi p.picks),.i .i64 n] (.b (Q6 p.picks n))) (fun v ih hv=>by
  rw [Ci] at hv
  have:=Ew v.picks
  exact Xn v.picks (by omega) fun p hp=>ih p hp (by have:=DP hp;omega)) p
 have:=Ew l
 exact Xn l (by omega) (fun p hp=>key p (by have:=DP hp;omega)) n hp m
theorem Kq (k:qB):∀(l:List qB) (j:Nat),0<=ix k l j↔k∈l
 | [],j=>by simp [ix]
 |x::r,j=>by
  rw [ix]
  split
  .rename_i h;simp [h]
  .rename_i h;rw [Kq k r (j+1)];simp [h]
def wtA:List GS->Nat
 | []=>0
 |a::r=>1+AE a.v+wtA r
mutual
def wtG:Pk->Nat
 | .mk _ _ _ a _ tw _ _ p=>1+wtA a+tw.length+Id p
def Id:List Pk->Nat
 | []=>0
 |p::r=>wtG p+Id r
end
theorem Rv (p:Pk):wtG p=1+wtA p.args+p.tw.length+Id p.picks:=by cases p;rw [wtG];rfl
theorem KA {x:Pk}:∀{l:List Pk},x∈l->wtG x<=Id l
 |y::r,h=>by
  rw [Id]
  rcases List.mem_cons.1 h with rfl | h
  .omega
  .have:=KA h
   omega
theorem Pq:∀l:List Pk,l.length<=Id l
 | []=>by simp
 |y::r=>by
  have:=Pq r
  have:=Rv y
  rw [Id]
  simp
  omega
mutual
def GZ:Pk->Pk
 | .mk k o n a tn tw _ _ p=>.mk k o n a tn tw ⟨#[]⟩ (-1) (B8 p)
def B8:List Pk->List Pk
 | []=>[]
 |p::r=>GZ p::B8 r
end
theorem JZ (p:Pk):GZ p=.mk p.key p.on p.name p.args p.tn p.tw ⟨#[]⟩ (-1) (B8 p.picks):=by cases p;rw [GZ];rfl
theorem G8:∀l:List Pk,(B8 l).length=l.length
 | []=>rfl
 |p::r=>by rw [B8,List.length_cons,List.length_cons,G8 r]
theorem Ph:∀a b:List Pk,B8 (a++b)=B8 a++B8 b
 | [],b=>rfl
 |p::r,b=>by rw [List.cons_append,B8,Ph r b,B8,List.cons_append]
theorem YG (l:List Pk) (p:Pk):Ab Bi (B8 l)++[[AV.s p.key,.s p.on,.s p.name,.ds (Ab B7 p.args),.s p.tn,.ds (Ab D2 p.tw),.s ⟨#[]⟩,.i .i64 (-1),.ds (Ab Bi (B8 p.picks))]]=Ab Bi (B8 (l++[p])):=by
 rw [Ph,B8,B8,JZ,<-Bd,Ch]
 rfl
theorem LS (l:List Pk) (hw:Id l<=800000000000) (h:∀p∈l,∀hp m,Ae prog 14 hp m [.ds (Ab Bi p.picks)] (.ds (Ab Bi (B8 p.picks)))) (hp:CH) (m:Nat):Ae prog 14 hp m [.ds (Ab Bi l)] (.ds (Ab Bi (B8 l))):=by
 have AZ:=Pq l
 refine Al func14 (tA cc14) (tB cc14) (tC cc14) rfl fun hf=>?_;unfold ck14
 simp only [go_sem]
 refine loop (fun q:Nat×Nat=>⟨[(0,.ds (Ab Bi l)),(3,.rw m q.1 q.1),(4,.i .i64 q.1)],(m,.rw q.1 9 (Ab Bi (B8 (l.take q.1))))::hp,q.2⟩)
  (fun q=>q.1<=l.length∧m+1<=q.2) (fun q=>l.length - q.1) (0,m+1) ?_ ?_ (fun ⟨j,n⟩ hj=>?_)
 .exact ⟨by simp,by simp⟩
 .refine (By (t:=3) (m:=9) ?_).trans (Fo hf ?_ ?_ ?_ (zna _))
  all_goals
   simp only [B8,go_sem]
 dsimp only at hj
 have z0:m<=n:=by omega
 have z1:¬n=m:=by omega
 simp only [z0,z1,go_sem]
 refine Af (fun d=>?_) (fun d=>?_)
 .have d:j<l.length:=by simpa using d
  obtain ⟨x,ex⟩:∃x,l[j]?=some x:=⟨l[j],by simp [d]⟩
  have hr:=h x (zg ex)
  have ht:(B8 (l.take j)).length=j:=by rw [G8];simp;omega
  simp only [z0,z1,d,Ad (Aa Bi ex),go_sem]
  refine Ac.f (hr _ _) ?_
  simp only [z0,z1,d,ht,YG,go_sem]
  refine ⟨by omega,by omega,(j+1,_),?_,?_,Fo hf ?_ ?_ ?_ (zna _)⟩
  .exact ⟨by dsimp only;omega,by dsimp only;omega⟩
  .dsimp only;omega
  all_goals
   simp only [z0,z1,Ao j (by omega),Bc ex,go_sem]
 .have d:j=l.length:=by simp at d;omega
  subst d
  have ht:(B8 l).take l.length=B8 l:=by rw [List.take_of_length_le (by rw [G8];exact zna _)]
  simp only [z0,z1,List.take_length,G8,zna,ht,go_sem]
theorem TI (l:List Pk) (hw:Id l<=800000000000) (hp:CH) (m:Nat):Ae prog 14 hp m [.ds (Ab Bi l)] (.ds (Ab Bi (B8 l))):=by
 have key:∀p:Pk,wtG p<=800000000000->∀hp m,Ae prog 14 hp m [.ds (Ab Bi p.picks)] (.ds (Ab Bi (B8 p.picks))):=fun p=>Pk.ind (Q:=fun p=>wtG p<=800000000000->∀hp m,Ae prog 14 hp m [.ds (Ab Bi p.picks)] (.ds (Ab Bi (B8 p.picks)))) (fun v ih hv=>by
  rw [Rv] at hv
  exact LS v.picks (by omega) fun p hp=>ih p hp (by have:=KA hp;omega)) p
 exact LS l hw (fun p hp=>key p (by have:=KA hp;omega)) hp m
def typF (v:Ag):qB:=((AB v sT).getD A8).s
def NT (i:Int) (n:Nat):Nat:=if i=-1 then n else min i.toNat n
def BM (p:Pk) (x:Ag):Ag:=if x.k=5 then .mk x.k x.n x.s (x.items.take (NT p.initial x.items.length)) x.keys else x
abbrev CF:=Pk × (Ag->Ag)
def Hc (on:qB) (keys:List qB):List CF->List Ag->List Ag
 | [],is=>is
 | (p,f)::r,is=>
  if p.on=on∧p.label=⟨#[]⟩∧0<=ix p.key keys 0∧ix p.key keys 0<is.length then
   Hc on keys r (is.set (ix p.key keys 0).toNat (f (BM p (is.getD (ix p.key keys 0).toNat A8))))
  else Hc on keys r is
def Og (fs:List CF) (v:Ag):Ag:=.mk 6 0 ⟨#[]⟩ (Hc (typF v) v.keys fs v.items) v.keys
mutual
def I5 (fs:List CF):Ag->Ag
 | .mk k n s i l=>if k=5 then .mk 5 0 ⟨#[]⟩ (Sc fs i) [] else if k=6 then Og fs (.mk k n s i l) else .mk k n s i l
def Sc (fs:List CF):List Ag->List Ag
 | []=>[]
 |x::r=>I5 fs x::Sc fs r
end
theorem T9 (fs:List CF) (l:List Ag):Sc fs l=l.map (I5 fs):=by
 induction l with
 |nil=>rfl
 |cons x l ih=>rw [Sc,ih];rfl
theorem F5 (fs:List CF) (v:Ag):I5 fs v=if v.k=5 then .mk 5 0 ⟨#[]⟩ (v.items.map (I5 fs)) [] else if v.k=6 then Og fs v else v:=by
 cases v
 rw [I5,T9]
 rfl
mutual
def FH:Pk->Ag->Ag
 | .mk _ _ _ _ _ _ _ _ p=>I5 (Fa p)
def Fa:List Pk->List CF
 | []=>[]
 |p::r=>(p,FH p)::Fa r
end
theorem Ek (l:List Pk):Fa l=l.map fun p=>(p,FH p):=by
 induction l with
 |nil=>rfl
 |cons x l ih=>rw [Fa,ih];rfl
def AY (l:List Pk) (v:Ag):Ag:=I5 (Fa l) v
theorem Eg (p:Pk):FH p=AY p.picks:=by cases p;rfl
def SN (p:Pk) (l:qB) (q:List Pk):Pk:=.mk p.key p.on p.name p.args p.tn p.tw l p.initial q
mutual
def G4:Pk->Pk
 | .mk k o n a tn tw l i p=>.mk k o n a tn tw l i (AP p)
def AP:List Pk->List Pk
 | []=>[]
 |p::r=>match p.label.size with
  | 0=>G4 p::AP r
  |_=>AP r
end
theorem Ab7 (b:qB):b.size=0↔b=⟨#[]⟩:=by
 constructor
 .intro h
  apply ByteArray.ext
  exact Array.eq_empty_of_size_eq_zero h
 .rintro rfl;rfl
theorem SQ (p:Pk):G4 p=SN p p.label (AP p.picks):=by cases p;rw [G4];rfl
theorem Mv (p:Pk) (r:List Pk):AP (p::r)=if p.label=⟨#[]⟩ then G4 p::AP r else AP r:=by
 rw [AP]
 by_cases h:p.label=⟨#[]⟩
 .rw [iP h,(Ab7 _).2 h]
  rfl
 .rw [iN h]
  have:p.label.size≠0:=fun e=>h ((Ab7 _).1 e)
  split
  .rename_i e;exact absurd e this
  .rfl
theorem CA (l:List Pk):AP l=(l.filter fun p=>decide (p.label=⟨#[]⟩)).map G4:=by
 induction l with
 |nil=>rfl
 |cons p l ih=>
  rw [Mv,ih]
  by_cases h:p.label=⟨#[]⟩
  .rw [iP h,List.filter_cons_of_pos (by simp [h])];rfl
  .rw [iN h,List.filter_cons_of_neg (by simp [h])]
theorem TS (l:List Pk) (p:Pk):AP (l++[p])=if p.label=⟨#[]⟩ then AP l++[G4 p] else AP l:=by
 rw [CA,CA,List.filter_append,List.map_append]
 by_cases h:p.label=⟨#[]⟩
 .rw [iP h];simp [h]
 .rw [iN h];simp [h]
def Gb (l:List DI) (j7:List Ag) (n:Nat):List DI:=l.map fun q=>.mk (j7++q.p.drop n) q.t
def Es (p:Pk):Pk:=SN p ⟨#[]⟩ p.picks
def CJ (on:qB):List Pk->List qB->List qB
 | [],o=>o
 |p::r,o=>CJ on r (if p.on=on then Cm p.label o else o)
abbrev PF1:=Ag->List Ag->List DM
abbrev PF:=Ag->PF1
mutual
def CZ (f:PF):Ag->PF1
 | .mk k n s i l=>fun d path=>if k=5∧d.k=5 then Hv f i d.items 0 path else if k=6∧d.k=6 then f (.mk k n s i l) d path else []
def Hv (f:PF):List Ag->List Ag->Nat->List Ag->List DM
 | [],_,_,_=>[]
 |x::r,ys,j,path=>match ys with
  | []=>[]
  |y::r'=>CZ f x y (path++[Ff j])++Hv f r r' (j+1) path
end
theorem Db (f:PF) (v d:Ag) (path:List Ag):CZ f v d path=if v.k=5∧d.k=5 then Hv f v.items d.items 0 path else if v.k=6∧d.k=6 then f v d path else []:=by
 cases v
 rw [CZ]
 rfl
theorem Qu (f:PF) (l:List Ag) (j:Nat) (path:List Ag):Hv f l [] j path=[]:=by
 cases l<;>rw [Hv]
def Cx (q:Pk) (ini:Int):Pk:=.mk q.key q.on q.name q.args (if Ca q.tw=true then q.tn else ⟨#[]⟩) (if Ca q.tw=true then Cg q.tw else []) ⟨#[]⟩ ini (AP q.picks)
def H5 (doc:List Av) (cut:Ag->Ag) (f:PF) (on key:qB) (one:Pk) (CP:List Ag):List Ag->Nat->List DM
 | [],_=>[]
 |x::r,j=>
  .mk ⟨#[]⟩ (CP++[Ff j]) ((AB (A6 doc (Cw [sT,key] [CY on,cut x]) on [] [one] []).1 key).getD A8) (Gb (A6 doc (Cw [sT,key] [CY on,cut x]) on [] [one] []).2 (CP++[Ff j]) 1) ::
   (CZ f x ((AB (A6 doc (Cw [sT,key] [CY on,cut x]) on [] [one] []).1 key).getD A8) (CP++[Ff j])++H5 doc cut f on key one CP r (j+1))
def Ba (v:Ag) (q:Pk):Ag:=(AB v q.key).getD A8
def NW (doc:List Av) (q:Pk) (f:PF) (v data:Ag) (path:List Ag):List DM :=
 if q.initial=-1∨¬(Ba data q).k=5∨¬(Ba v q).k=5 then CZ f (Ba v q) (Ba data q) (path++[CY q.key])
 else CZ f (EB ((Ba v q).items.take (NT q.initial (Ba v q).items.length))) (Ba data q) (path++[CY q.key]) ++
  H5 doc (FH q) f (typF v) q.key (Cx q q.initial) (path++[CY q.key]) ((Ba v q).items.drop (NT q.initial (Ba v q).items.length)) (NT q.initial (Ba v q).items.length)
abbrev VF:=Pk × PF
def ZB (on name:qB) (fs:List VF):List VF:=fs.filter fun x=>decide (x.1.on=on)&&decide (x.1.label=name)
def AN (on name:qB) (l:List Pk):List Pk:=(l.filter fun x=>decide (x.on=on)&&decide (x.label=name)).map Es
def Aii (doc:List Av) (cut:List Pk->Ag->Ag) (fs:List VF) (v:Ag) (path:List Ag) (name:qB):List DM :=
 .mk name path (A6 doc (cut (AN (typF v) name (fs.map (·.1))) v) (typF v) [] (AP (AN (typF v) name (fs.map (·.1)))) []).1 (Gb (A6 doc (cut (AN (typF v) name (fs.map (·.1))) v) (typF v) [] (AP (AN (typF v) name (fs.map (·.1)))) []).2 path 0) ::
  (if (A6 doc (cut (AN (typF v) name (fs.map (·.1))) v) (typF v) [] (AP (AN (typF v) name (fs.map (·.1)))) []).1.k=6 then
   (ZB (typF v) name fs).flatMap fun x=>x.2 v (A6 doc (cut (AN (typF v) name (fs.map (·.1))) v) (typF v) [] (AP (AN (typF v) name (fs.map (·.1)))) []).1 path else [])
def Acm (doc:List Av) (cut:List Pk->Ag->Ag) (fs:List VF) (v data:Ag) (path:List Ag):List DM :=
 (CJ (typF v) (fs.map (·.1)) []).flatMap (Aii doc cut fs v path)++(ZB (typF v) ⟨#[]⟩ fs).flatMap fun x=>x.2 v data path
mutual
def C4 (doc:List Av):Pk->PF
 | .mk k o n a tn tw l i p=>NW doc (.mk k o n a tn tw l i p) (Acm doc AY (Jt doc p))
def Jt (doc:List Av):List Pk->List VF
 | []=>[]
 |p::r=>(p,C4 doc p)::Jt doc r
end
theorem LY (doc:List Av) (l:List Pk):Jt doc l=l.map fun p=>(p,C4 doc p):=by
 induction l with
 |nil=>rw [Jt];rfl
 |cons x l ih=>rw [Jt,ih];rfl
def C0 (doc:List Av) (l:List Pk):PF:=Acm doc AY (Jt doc l)
theorem GP (doc:List Av) (q:Pk):C4 doc q=NW doc q (C0 doc q.picks):=by cases q;rw [C4];rfl
abbrev Aor:=Ag × List DI × List DM
def Ha (doc:List Av) (root:qB) (l:List Pk) (d8:Ag):Aor :=
 ((A6 doc (AY l d8) root [] (AP l) []).1,(A6 doc (AY l d8) root [] (AP l) []).2,if d8.k=6∧(A6 doc (AY l d8) root [] (AP l) []).1.k=6 then C0 doc l d8 (A6 doc (AY l d8) root [] (AP l) []).1 [] else [])
theorem W8 (q:Pk) (i:Int):Cx (Es q) i=Cx q i:=rfl
theorem Wn (q:Pk):FH (Es q)=FH q:=by rw [Eg,Eg];rfl
theorem G1 (doc:List Av) (q:Pk):C4 doc (Es q)=C4 doc q:=by
 rw [GP,GP]
 funext v d path
 unfold NW
 rw [Wn,W8]
 rfl
theorem Py (doc:List Av) (on name:qB) (l:List Pk) (v data:Ag) (path:List Ag):((ZB on name (Jt doc l)).flatMap fun x=>x.2 v data path)=(AN on name l).flatMap fun q=>C4 doc q v data path:=by
 unfold ZB AN
 rw [LY]
 induction l with
 |nil=>rfl
 |cons q l ih=>
  rw [List.map_cons,List.filter_cons,List.filter_cons]
  dsimp only
  split
  .rw [List.flatMap_cons,List.map_cons,List.flatMap_cons,ih,G1]
  .exact ih
theorem Mw (doc:List Av) (l:List Pk):(Jt doc l).map (·.1)=l:=by rw [LY,List.map_map];exact List.map_id _
theorem ML (doc:List Av) (l:List Pk) (v data:Ag) (path:List Ag):C0 doc l v data path =
 (CJ (typF v) l []).flatMap (fun name=>.mk name path (A6 doc (AY (AN (typF v) name l) v) (typF v) [] (AP (AN (typF v) name l)) []).1 (Gb (A6 doc (AY (AN (typF v) name l) v) (typF v) [] (AP (AN (typF v) name l)) []).2 path 0) ::
  (if (A6 doc (AY (AN (typF v) name l) v) (typF v) [] (AP (AN (typF v) name l)) []).1.k=6 then (AN (typF v) name l).flatMap (fun q=>C4 doc q v (A6 doc (AY (AN (typF v) name l) v) (typF v) [] (AP (AN (typF v) name l)) []).1 path) else [])) ++
 (AN (typF v) ⟨#[]⟩ l).flatMap fun q=>C4 doc q v data path:=by
 unfold C0 Acm
 rw [Mw,Py]
 congr 2
 funext name
 unfold Aii
 rw [Mw,Py]
/-! ### Labels -/
theorem WV (l:qB) (o:List qB) (h:o.Nodup∧⟨#[]⟩ ∉ o):(Cm l o).Nodup∧⟨#[]⟩ ∉ Cm l o:=by
 unfold Cm
 split
 .rename_i c
  have hn:l ∉ o:=fun hm=>c.2 ((Kq l o 0).2 hm)
  refine ⟨?_,fun hm=>?_⟩
  .rw [List.nodup_append]
   refine ⟨h.1,by simp,fun a ha b hb=>?_⟩
   simp at hb
   subst hb
   exact fun e=>hn (e ▸ ha)
  .rcases List.mem_append.1 hm with hm | hm
   .exact h.2 hm
   .simp at hm
    exact c.1 hm.symm
 .exact h
theorem No (on:qB):∀(l:List Pk) (o:List qB),(o.Nodup∧⟨#[]⟩ ∉ o)->(CJ on l o).Nodup∧⟨#[]⟩ ∉ CJ on l o
 | [],o,h=>h
 |p::r,o,h=>by
  rw [CJ]
  refine No on r _ ?_
  split
  .exact WV _ _ h
  .exact h
theorem Lf (on name:qB):∀(l:List Pk) (o:List qB),name∈CJ on l o->name∈o∨∃p∈l,p.on=on∧p.label=name
 | [],o,h=>.inl h
 |p::r,o,h=>by
  rw [CJ] at h
  rcases Lf on name r _ h with h | ⟨q,hq,h⟩
  .split at h
   .rename_i c
    unfold Cm at h
    split at h
    .rcases List.mem_append.1 h with h | h
     .exact .inl h
     .simp at h
      exact .inr ⟨p,by simp,c,h.symm⟩
    .exact .inl h
   .exact .inl h
  .exact .inr ⟨q,by simp [hq],h⟩
