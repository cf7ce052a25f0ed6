/- Proof. Conditions: none. -/
import Derived.Test.YtgfidgoefioigaaGreatDoorIj30
noncomputable section
open List renaming filter_cons->z19,flatMap_cons->zy,append_nil->zg
open Go.Proofs.Tryz
open List renaming length_cons->zlc,length_append->zld,length_nil->zle,cons_append->zlh,nil_append->zli,map_cons->zln
open Nat renaming le_refl->zna
namespace Go.Proofs.YtgfidgoefioigaaGreatDoor
open Go.Eng
set_option linter.all false
set_option maxRecDepth 20000
def typF (v:Ag):qB:=((AA v sT).getD A6).s
def I5 (i:Int) (n:Nat):Nat:=if i=-1 then n else min i.toNat n
def BV (p:Pk) (x:Ag):Ag:=if x.k=5 then .mk x.k x.n x.s (x.items.take (I5 p.initial x.items.length)) x.keys else x
abbrev CF:=Pk × (Ag->Ag)
def Hz (on:qB) (keys:List qB):List CF->List Ag->List Ag
 | [],is=>is
 | (p,f)::r,is=>
  if p.on=on∧p.label=⟨#[]⟩∧0<=ix p.key keys 0∧ix p.key keys 0<is.length then
   Hz on keys r (is.set (ix p.key keys 0).toNat (f (BV p (is.getD (ix p.key keys 0).toNat A6))))
  else Hz on keys r is
def N3 (fs:List CF) (v:Ag):Ag:=.mk 6 0 ⟨#[]⟩ (Hz (typF v) v.keys fs v.items) v.keys
mutual
def Fj (fs:List CF):Ag->Ag
 | .mk k n s i l=>if k=5 then .mk 5 0 ⟨#[]⟩ (SC fs i) [] else if k=6 then N3 fs (.mk k n s i l) else .mk k n s i l
def SC (fs:List CF):List Ag->List Ag
 | []=>[]
 |x::r=>Fj fs x::SC fs r
end
theorem Ua (fs:List CF) (l:List Ag):SC fs l=l.map (Fj fs):=by
 induction l with
 |nil=>rfl
 |cons x l ih=>rw [SC,ih];rfl
theorem Ez (fs:List CF) (v:Ag):Fj fs v=if v.k=5 then .mk 5 0 ⟨#[]⟩ (v.items.map (Fj fs)) [] else if v.k=6 then N3 fs v else v:=by
 cases v
 rw [Fj,Ua]
 rfl
mutual
def Eu:Pk->Ag->Ag
 | .mk _ _ _ _ _ _ _ _ p=>Fj (Dm p)
def Dm:List Pk->List CF
 | []=>[]
 |p::r=>(p,Eu p)::Dm r
end
theorem E5 (l:List Pk):Dm l=l.map fun p=>(p,Eu p):=by
 induction l with
 |nil=>rfl
 |cons x l ih=>rw [Dm,ih];rfl
def Bp (l:List Pk) (v:Ag):Ag:=Fj (Dm l) v
theorem D5 (p:Pk):Eu p=Bp p.picks:=by cases p;rfl
def Ei (p:Pk) (x:Ag):Ag:=if x.k=5∧0<=p.initial∧p.initial<x.items.length then .mk 5 0 ⟨#[]⟩ (x.items.take p.initial.toNat) [] else x
def Gs (on key:qB):List CF->Ag->Ag
 | [],x=>x
 | (p,f)::r,x=>if p.on=on∧p.key=key∧p.label=⟨#[]⟩ then Gs on key r (f (Ei p x)) else Gs on key r x
def JU (fs:List CF) (v:Ag):Ag:=.mk 6 0 ⟨#[]⟩ (List.zipWith (fun k x=>Gs (typF v) k fs x) v.keys v.items) (v.keys.take v.items.length)
mutual
def Fk (fs:List CF):Ag->Ag
 | .mk k n s i l=>if k=5 then .mk 5 0 ⟨#[]⟩ (Td fs i) [] else if k=6 then JU fs (.mk k n s i l) else .mk k n s i l
def Td (fs:List CF):List Ag->List Ag
 | []=>[]
 |x::r=>Fk fs x::Td fs r
end
theorem UR (fs:List CF) (l:List Ag):Td fs l=l.map (Fk fs):=by
 induction l with
 |nil=>rfl
 |cons x l ih=>rw [Td,ih];rfl
theorem E3 (fs:List CF) (v:Ag):Fk fs v=if v.k=5 then .mk 5 0 ⟨#[]⟩ (v.items.map (Fk fs)) [] else if v.k=6 then JU fs v else v:=by
 cases v
 rw [Fk,UR]
 rfl
mutual
def F9:Pk->Ag->Ag
 | .mk _ _ _ _ _ _ _ _ p=>Fk (C7 p)
def C7:List Pk->List CF
 | []=>[]
 |p::r=>(p,F9 p)::C7 r
end
theorem Hj (l:List Pk):C7 l=l.map fun p=>(p,F9 p):=by
 induction l with
 |nil=>rfl
 |cons x l ih=>rw [C7,ih];rfl
def C5 (l:List Pk) (v:Ag):Ag:=Fk (C7 l) v
theorem Ed (p:Pk):F9 p=C5 p.picks:=by cases p;rfl
def PG (p:Pk) (l:qB) (q:List Pk):Pk:=.mk p.key p.on p.name p.args p.tn p.tw l p.initial q
mutual
def HW:Pk->Pk
 | .mk k o n a tn tw l i p=>.mk k o n a tn tw l i (AM p)
def AM:List Pk->List Pk
 | []=>[]
 |p::r=>match p.label.size with
  | 0=>HW p::AM r
  |_=>AM r
end
theorem Acl (b:qB):b.size=0↔b=⟨#[]⟩:=by
 constructor
 .intro h
  apply ByteArray.ext
  exact Array.eq_empty_of_size_eq_zero h
 .rintro rfl;rfl
theorem Oe (p:Pk):HW p=PG p p.label (AM p.picks):=by cases p;rw [HW];rfl
theorem MZ (p:Pk) (r:List Pk):AM (p::r)=if p.label=⟨#[]⟩ then HW p::AM r else AM r:=by
 rw [AM]
 by_cases h:p.label=⟨#[]⟩
 .rw [iP h,(Acl _).2 h]
  rfl
 .rw [iN h]
  have:p.label.size≠0:=fun e=>h ((Acl _).1 e)
  split
  .rename_i e;exact absurd e this
  .rfl
theorem CL (l:List Pk):AM l=(l.filter fun p=>decide (p.label=⟨#[]⟩)).map HW:=by
 induction l with
 |nil=>rfl
 |cons p l ih=>
  rw [MZ,ih]
  by_cases h:p.label=⟨#[]⟩
  .rw [iP h,List.filter_cons_of_pos (by simp [h])];rfl
  .rw [iN h,List.filter_cons_of_neg (by simp [h])]
theorem M3 (l:List Pk) (p:Pk):AM (l++[p])=if p.label=⟨#[]⟩ then AM l++[HW p] else AM l:=by
 rw [CL,CL,List.filter_append,List.map_append]
 by_cases h:p.label=⟨#[]⟩
 .rw [iP h];simp [h]
 .rw [iN h];simp [h]
def Ef (l:List Dc) (d8:List Ag) (n:Nat):List Dc:=l.map fun q=>.mk (d8++q.p.drop n) q.t
def DL (p:Pk):Pk:=PG p ⟨#[]⟩ p.picks
def C0 (on:qB):List Pk->List qB->List qB
 | [],o=>o
 |p::r,o=>C0 on r (if p.on=on then Cc p.label o else o)
abbrev PF1:=Ag->List Ag->List DB
abbrev PF:=Ag->PF1
mutual
def Cb (f:PF):Ag->PF1
 | .mk k n s i l=>fun d path=>if k=5∧d.k=5 then Dy f i d.items 0 path else if k=6∧d.k=6 then f (.mk k n s i l) d path else []
def Dy (f:PF):List Ag->List Ag->Nat->List Ag->List DB
 | [],_,_,_=>[]
 |x::r,ys,j,path=>match ys with
  | []=>[]
  |y::r'=>Cb f x y (path++[Fo j])++Dy f r r' (j+1) path
end
theorem Cq (f:PF) (v d:Ag) (path:List Ag):Cb f v d path=if v.k=5∧d.k=5 then Dy f v.items d.items 0 path else if v.k=6∧d.k=6 then f v d path else []:=by
 cases v
 rw [Cb]
 rfl
theorem Em (f:PF) (l:List Ag) (j:Nat) (path:List Ag):Dy f l [] j path=[]:=by
 cases l<;>rw [Dy]
def B5 (q:Pk) (ini:Int):Pk:=.mk q.key q.on q.name q.args (if Cu q.tw=true then q.tn else ⟨#[]⟩) (if Cu q.tw=true then DM q.tw else []) ⟨#[]⟩ ini (AM q.picks)
def DN (doc:List Aw) (cut:Ag->Ag) (f:PF) (on key:qB) (one:Pk) (BM:List Ag):List Ag->Nat->List DB
 | [],_=>[]
 |x::r,j=>
  .mk ⟨#[]⟩ (BM++[Fo j]) ((AA (A7 doc (EV [sT,key] [CW on,cut x]) on [] [one] []).1 key).getD A6) (Ef (A7 doc (EV [sT,key] [CW on,cut x]) on [] [one] []).2 (BM++[Fo j]) 1) ::
   (Cb f x ((AA (A7 doc (EV [sT,key] [CW on,cut x]) on [] [one] []).1 key).getD A6) (BM++[Fo j])++DN doc cut f on key one BM r (j+1))
def AW (v:Ag) (q:Pk):Ag:=(AA v q.key).getD A6
def OE (doc:List Aw) (q:Pk) (f:PF) (v data:Ag) (path:List Ag):List DB :=
 if q.initial=-1∨¬(AW data q).k=5∨¬(AW v q).k=5 then Cb f (AW v q) (AW data q) (path++[CW q.key])
 else Cb f (IM ((AW v q).items.take (I5 q.initial (AW v q).items.length))) (AW data q) (path++[CW q.key]) ++
  DN doc (Eu q) f (typF v) q.key (B5 q q.initial) (path++[CW q.key]) ((AW v q).items.drop (I5 q.initial (AW v q).items.length)) (I5 q.initial (AW v q).items.length)
def Ya (doc:List Aw) (q:Pk) (f:PF) (v data:Ag) (path:List Ag):List DB :=
 Cb f (AW v q) (AW data q) (path++[CW q.key]) ++
  (if 0<=q.initial∧(AW v q).k=5∧(AW data q).k=5 then DN doc (F9 q) f (typF v) q.key (B5 q (-1)) (path++[CW q.key]) ((AW v q).items.drop q.initial.toNat) q.initial.toNat else [])
abbrev VF:=Pk × PF
def UK (on name:qB) (fs:List VF):List VF:=fs.filter fun x=>decide (x.1.on=on)&&decide (x.1.label=name)
def AB (on name:qB) (l:List Pk):List Pk:=(l.filter fun x=>decide (x.on=on)&&decide (x.label=name)).map DL
def Aed (doc:List Aw) (cut:List Pk->Ag->Ag) (fs:List VF) (v:Ag) (path:List Ag) (name:qB):List DB :=
 .mk name path (A7 doc (cut (AB (typF v) name (fs.map (·.1))) v) (typF v) [] (AM (AB (typF v) name (fs.map (·.1)))) []).1 (Ef (A7 doc (cut (AB (typF v) name (fs.map (·.1))) v) (typF v) [] (AM (AB (typF v) name (fs.map (·.1)))) []).2 path 0) ::
  (if (A7 doc (cut (AB (typF v) name (fs.map (·.1))) v) (typF v) [] (AM (AB (typF v) name (fs.map (·.1)))) []).1.k=6 then
   (UK (typF v) name fs).flatMap fun x=>x.2 v (A7 doc (cut (AB (typF v) name (fs.map (·.1))) v) (typF v) [] (AM (AB (typF v) name (fs.map (·.1)))) []).1 path else [])
def TW (doc:List Aw) (cut:List Pk->Ag->Ag) (fs:List VF) (v data:Ag) (path:List Ag):List DB :=
 (C0 (typF v) (fs.map (·.1)) []).flatMap (Aed doc cut fs v path)++(UK (typF v) ⟨#[]⟩ fs).flatMap fun x=>x.2 v data path
mutual
def C3 (doc:List Aw):Pk->PF
 | .mk k o n a tn tw l i p=>OE doc (.mk k o n a tn tw l i p) (TW doc Bp (JO doc p))
def JO (doc:List Aw):List Pk->List VF
 | []=>[]
 |p::r=>(p,C3 doc p)::JO doc r
end
theorem M8 (doc:List Aw) (l:List Pk):JO doc l=l.map fun p=>(p,C3 doc p):=by
 induction l with
 |nil=>rw [JO];rfl
 |cons x l ih=>rw [JO,ih];rfl
def Cx (doc:List Aw) (l:List Pk):PF:=TW doc Bp (JO doc l)
theorem Hl (doc:List Aw) (q:Pk):C3 doc q=OE doc q (Cx doc q.picks):=by cases q;rw [C3];rfl
mutual
def GI (doc:List Aw):Pk->PF
 | .mk k o n a tn tw l i p=>Ya doc (.mk k o n a tn tw l i p) (TW doc C5 (J4 doc p))
def J4 (doc:List Aw):List Pk->List VF
 | []=>[]
 |p::r=>(p,GI doc p)::J4 doc r
end
theorem MY (doc:List Aw) (l:List Pk):J4 doc l=l.map fun p=>(p,GI doc p):=by
 induction l with
 |nil=>rw [J4];rfl
 |cons x l ih=>rw [J4,ih];rfl
def Dd (doc:List Aw) (l:List Pk):PF:=TW doc C5 (J4 doc l)
theorem Kg (doc:List Aw) (q:Pk):GI doc q=Ya doc q (Dd doc q.picks):=by cases q;rw [GI];rfl
abbrev Akp:=Ag × List Dc × List DB
def GA (doc:List Aw) (root:qB) (l:List Pk) (raw:Ag):Akp :=
 ((A7 doc (Bp l raw) root [] (AM l) []).1,(A7 doc (Bp l raw) root [] (AM l) []).2,if raw.k=6∧(A7 doc (Bp l raw) root [] (AM l) []).1.k=6 then Cx doc l raw (A7 doc (Bp l raw) root [] (AM l) []).1 [] else [])
def Ri (doc:List Aw) (root:qB) (l:List Pk) (raw:Ag):Akp :=
 ((A7 doc (C5 l raw) root [] (AM l) []).1,(A7 doc (C5 l raw) root [] (AM l) []).2,if raw.k=6∧(A7 doc (C5 l raw) root [] (AM l) []).1.k=6 then Dd doc l raw (A7 doc (C5 l raw) root [] (AM l) []).1 [] else [])
theorem P8 (q:Pk) (i:Int):B5 (DL q) i=B5 q i:=rfl
theorem WG (q:Pk):Eu (DL q)=Eu q:=by rw [D5,D5];rfl
theorem Wn (q:Pk):F9 (DL q)=F9 q:=by rw [Ed,Ed];rfl
theorem GO (doc:List Aw) (q:Pk):C3 doc (DL q)=C3 doc q:=by
 rw [Hl,Hl]
 funext v d path
 unfold OE
 rw [WG,P8]
 rfl
theorem L7 (doc:List Aw) (q:Pk):GI doc (DL q)=GI doc q:=by
 rw [Kg,Kg]
 funext v d path
 unfold Ya
 rw [Wn,P8]
 rfl
theorem PQ (doc:List Aw) (on name:qB) (l:List Pk) (v data:Ag) (path:List Ag):((UK on name (JO doc l)).flatMap fun x=>x.2 v data path)=(AB on name l).flatMap fun q=>C3 doc q v data path:=by
 unfold UK AB
 rw [M8]
 induction l with
 |nil=>rfl
 |cons q l ih=>
  rw [zln,z19,z19]
  dsimp only
  split
  .rw [zy,zln,zy,ih,GO]
  .exact ih
theorem MG (doc:List Aw) (on name:qB) (l:List Pk) (v data:Ag) (path:List Ag):((UK on name (J4 doc l)).flatMap fun x=>x.2 v data path)=(AB on name l).flatMap fun q=>GI doc q v data path:=by
 unfold UK AB
 rw [MY]
 induction l with
 |nil=>rfl
 |cons q l ih=>
  rw [zln,z19,z19]
  dsimp only
  split
  .rw [zy,zln,zy,ih,L7]
  .exact ih
theorem Na (doc:List Aw) (l:List Pk):(JO doc l).map (·.1)=l:=by rw [M8,List.map_map];exact List.map_id _
theorem M5 (doc:List Aw) (l:List Pk):(J4 doc l).map (·.1)=l:=by rw [MY,List.map_map];exact List.map_id _
theorem Ke (doc:List Aw) (l:List Pk) (v data:Ag) (path:List Ag):Cx doc l v data path =
 (C0 (typF v) l []).flatMap (fun name=>.mk name path (A7 doc (Bp (AB (typF v) name l) v) (typF v) [] (AM (AB (typF v) name l)) []).1 (Ef (A7 doc (Bp (AB (typF v) name l) v) (typF v) [] (AM (AB (typF v) name l)) []).2 path 0) ::
  (if (A7 doc (Bp (AB (typF v) name l) v) (typF v) [] (AM (AB (typF v) name l)) []).1.k=6 then (AB (typF v) name l).flatMap (fun q=>C3 doc q v (A7 doc (Bp (AB (typF v) name l) v) (typF v) [] (AM (AB (typF v) name l)) []).1 path) else [])) ++
 (AB (typF v) ⟨#[]⟩ l).flatMap fun q=>C3 doc q v data path:=by
 unfold Cx TW
 rw [Na,PQ]
 congr 2
 funext name
 unfold Aed
 rw [Na,PQ]
theorem N0 (doc:List Aw) (l:List Pk) (v data:Ag) (path:List Ag):Dd doc l v data path =
 (C0 (typF v) l []).flatMap (fun name=>.mk name path (A7 doc (C5 (AB (typF v) name l) v) (typF v) [] (AM (AB (typF v) name l)) []).1 (Ef (A7 doc (C5 (AB (typF v) name l) v) (typF v) [] (AM (AB (typF v) name l)) []).2 path 0) ::
  (if (A7 doc (C5 (AB (typF v) name l) v) (typF v) [] (AM (AB (typF v) name l)) []).1.k=6 then (AB (typF v) name l).flatMap (fun q=>GI doc q v (A7 doc (C5 (AB (typF v) name l) v) (typF v) [] (AM (AB (typF v) name l)) []).1 path) else [])) ++
 (AB (typF v) ⟨#[]⟩ l).flatMap fun q=>GI doc q v data path:=by
 unfold Dd TW
 rw [M5,MG]
 congr 2
 funext name
 unfold Aed
 rw [M5,MG]
/-! ### Labels -/
theorem Xx (l:qB) (o:List qB) (h:o.Nodup∧⟨#[]⟩ ∉ o):(Cc l o).Nodup∧⟨#[]⟩ ∉ Cc l o:=by
 unfold Cc
 split
 .rename_i c
  have hn:l ∉ o:=fun hm=>c.2 ((WS l o 0).2 hm)
  refine ⟨?_,fun hm=>?_⟩
  .rw [List.nodup_append]
   refine ⟨h.1,by simp,fun a ha b hb=>?_⟩
   simp at hb
   subst hb
   exact fun e=>hn (e ▸ ha)
  .rcases List.mem_append.1 hm with hm | hm
   .exact h.2 hm
   .simp at hm
    exact c.1 hm.symm
 .exact h
theorem Tq (on:qB):∀(l:List Pk) (o:List qB),(o.Nodup∧⟨#[]⟩ ∉ o)->(C0 on l o).Nodup∧⟨#[]⟩ ∉ C0 on l o
 | [],o,h=>h
 |p::r,o,h=>by
  rw [C0]
  refine Tq on r _ ?_
  split
  .exact Xx _ _ h
  .exact h
theorem QB (on name:qB):∀(l:List Pk) (o:List qB),name∈C0 on l o->name∈o∨∃p∈l,p.on=on∧p.label=name
 | [],o,h=>.inl h
 |p::r,o,h=>by
  rw [C0] at h
  rcases QB on name r _ h with h | ⟨q,hq,h⟩
  .split at h
   .rename_i c
    unfold Cc at h
    split at h
    .rcases List.mem_append.1 h with h | h
     .exact .inl h
     .simp at h
      exact .inr ⟨p,by simp,c,h.symm⟩
    .exact .inl h
   .exact .inl h
  .exact .inr ⟨q,by simp [hq],h⟩
set_option maxHeartbeats 1000000
def O9 (s:Bool) (t:Aw) (name:qB) (doc:List Aw) (j:Nat):List qB:=if s=true then GG t name [] (doc.take j) else []
theorem Abd (s:Bool) (t:Aw) (name:qB) (doc:List Aw) (j:Nat):(O9 s t name doc j).length<=j:=by
 unfold O9
 split
 .have:=I2 t name (doc.take j) []
  rw [List.length_take] at this
  omega
 .simp
theorem Y5 {t x:Aw} {name:qB} {doc:List Aw} {j:Nat} (e:doc[j]?=some x):O9 true t name doc (j+1)=if x.n ∉ (doc.take j).map Aw.n∧x.k=1∧Mp t name x=true then O9 true t name doc j++[x.n] else O9 true t name doc j:=by
 unfold O9
 rw [iP rfl,iP rfl,<-AN e,MQ,zli]
 split
 .rfl
 .rw [zg]
theorem QC (doc:List Aw) (hd:DocOk doc) (name:qB) (hp:CH) (m:Nat):Af prog 90 hp m [B0 doc,.s name] (.ds (Bd (Et doc name))):=by
 have h1:=BI doc hd.len name
 have hg:=hd.g name
 have Bn:=hd.len
 have hposL:Et doc name=O9 (Az doc name).isSome ((Az doc name).getD Dz) name doc doc.length:=by
  unfold Et O9
  cases Az doc name with
  |none=>rfl
  |some t=>rw [iP (show (some t).isSome=true from rfl),List.take_length];rfl
 rw [hposL]
 unfold Eh at h1
 obtain ⟨t,ht⟩:=A5 ((Az doc name).getD Dz)
 obtain ⟨s,hs⟩:=A5 ((Az doc name).isSome)
 rw [ht] at h1 hg ⊢
 rw [hs] at h1 ⊢
 obtain ⟨g1,g2,g3⟩:=hg
 obtain ⟨R,hR⟩:=A5 (O9 s t name doc doc.length)
 rw [hR]
 refine Aj func90 (tA cc90) (tB cc90) (tC cc90) rfl fun hf=>?_;unfold ck90
 simp only [go_sem]
 refine Ac.f (h1 _ _) ?_
 simp (disch:=omega) only [go_sem]
 refine loop (fun p:Nat×Nat=>⟨[(1,.s name),(2,.bx m 0),(5,.rw (m+2) (O9 s t name doc p.1).length (O9 s t name doc p.1).length),(6,.bx (m+1) 0),(7,.b s),(8,.i .i64 p.1)],
  (m+2,.rw (O9 s t name doc p.1).length 1 (Bd (O9 s t name doc p.1)))::(m,.bx [.ds (Ab B8 doc)])::(m+1,.bx [.i .i64 t.k,.s t.n,.ds t.impl,.ds t.dirs,.ds (Ab Bv t.fields),.ds t.members,.ds t.inputs])::hp,p.2⟩)
  (fun p=>p.1<=doc.length∧m+3<=p.2) (fun p=>doc.length - p.1) (0,m+3) ?_ ?_ (fun ⟨j,k⟩ hj=>?_)
 .exact ⟨by simp,by simp⟩
 .have p0:O9 s t name doc 0=[]:=by unfold O9;split<;>rfl
  refine (Bo (t:=5) (m:=1) ?_).trans (L5 hf ?_ ?_ ?_ ?_ ?_ (zna _))
  all_goals (simp (disch:=omega) only [p0,go_sem])
 dsimp only at hj
 obtain ⟨Cg,Bc⟩:=hj
 have QR:=Abd s t name doc j
 simp (disch:=omega) only [go_sem]
 refine Ae (fun q=>?_) (fun q=>?_)
 .have q:j<doc.length∧s=true:=by simpa using q
  obtain ⟨qj,qs⟩:=q
  subst qs
  obtain ⟨x,ex⟩:∃x,doc[j]?=some x:=⟨doc[j],by simp [qj]⟩
  have Jy:=List.mem_of_getElem? ex
  have hx:=hd.ok x Jy
  have JY:=U5 doc Bn j x ex
  have Db:=Y5 (t:=t) (name:=name) ex
  have hha:=Od (Hu x.impl) name (by have:=hd.im x Jy;rw [hx.impl] at this;simpa [Ab] using this)
  rw [<-hx.impl] at hha
  have hme:=R6 t g1 g3 x.n
  simp (disch:=omega) only [qj,Ad (Aa B8 ex),go_sem]
  refine AH.f (fun _=>JY _ _) ?_
  simp (disch:=omega) only [go_sem]
  refine Ae (fun c=>?_) (fun c=>?_)
  .rw [iN (fun h=>by rw [dT h.1,dT h.2.1] at c;cases c)] at Db
   simp (disch:=omega) only [go_sem]
   refine ⟨(j+1,_),⟨by dsimp only;omega,by dsimp only;omega⟩,by dsimp only;omega,L5 hf ?_ ?_ ?_ ?_ ?_ (zna _)⟩
   all_goals
    simp (disch:=omega) only [Db,Ap j (by omega),go_sem]
  .simp (disch:=omega) only [go_sem]
   refine AH.f (fun _=>hha _ _) ?_
   simp (disch:=omega) only [go_sem]
   refine AH.f (fun _=>hme _ _) ?_
   simp (disch:=omega) only [go_sem]
   refine Ae (fun c2=>?_) (fun c2=>?_)
   .have Bz:Mp t name x=true:=by
     unfold Mp
     rw [<-Bool.or_assoc]
     exact c2
    have hk1:x.n ∉ (doc.take j).map Aw.n∧x.k=1:=by
     simp only [Bool.or_eq_false_iff,Bool.not_eq_false',decide_eq_true_eq] at c
     exact ⟨c.2,c.1⟩
    rw [iP ⟨hk1.1,hk1.2,Bz⟩] at Db
    have hg:Ab Cz (O9 true t name doc j)++[[AV.s x.n]]=Ab Cz (O9 true t name doc j++[x.n]):=AX Cz _ x.n
    simp (disch:=omega) only [hg,go_sem]
    refine ⟨by omega,by omega,(j+1,_),⟨by dsimp only;omega,by dsimp only;omega⟩,by dsimp only;omega,L5 hf ?_ ?_ ?_ ?_ ?_ (zna _)⟩
    all_goals
     simp (disch:=omega) only [Db,Ap j (by omega),zld,zlc,zle,go_sem]
   .have Bz:¬Mp t name x=true:=by
     unfold Mp
     rw [<-Bool.or_assoc]
     simp only [c2]
     decide
    rw [iN (fun h=>Bz h.2.2)] at Db
    simp (disch:=omega) only [go_sem]
    refine ⟨(j+1,_),⟨by dsimp only;omega,by dsimp only;omega⟩,by dsimp only;omega,L5 hf ?_ ?_ ?_ ?_ ?_ (zna _)⟩
    all_goals
     simp (disch:=omega) only [Db,Ap j (by omega),go_sem]
 .have hRj:O9 s t name doc j=R:=by
   rw [<-hR]
   cases s with
   |false=>rfl
   |true=>
    have:j=doc.length:=by simp at q;omega
    rw [this]
  rw [hRj]
  simp (disch:=omega) only [go_sem]
theorem NY (doc:List Aw) (hd:DocOk doc) (on name:qB) (hp:CH) (m:Nat):Af prog 146 hp m [B0 doc,.s on,.s name] (.b (decide (on∈Et doc name))):=by
 have Bn:=LA doc name
 have G0:=hd.len
 have h1:=Od (Et doc name) on (by omega)
 refine Aj func146 (tA cc146) (tB cc146) (tC cc146) rfl fun hf=>?_;unfold ck146
 simp only [go_sem]
 refine Ac.f (QC doc hd name _ _) ?_
 simp only [go_sem]
 refine Ac.f (h1 _ _) ?_
 simp only [go_sem]
theorem TA (path:List Ag) (FM:path.length<=1000000000000) (x:Ag) (hp:CH) (m:Nat):Af prog 169 hp m [.ds (Ab Ar path),vx x] (.ds (Ab Ar (path++[x]))):=by
 refine Aj func169 (tA cc169) (tB cc169) (tC cc169) rfl fun hf=>?_;unfold ck169
 simp (disch:=omega) only [go_sem]
 exact ⟨by omega,by omega,by omega,by omega⟩
structure RunR (doc:List Aw) (hp:CH) (c kp gp:Nat) (P:List Dc):Prop where
 hc:gc hp c=.bx [.ds (Ab B8 doc),.rw kp gp P.length]
 hk:gc hp kp=.rw gp 2 (Ab BD P)
def Ix (doc:List Aw) (c kp gp:Nat) (P R:List Dc):CH :=
 [(kp,.rw (gp+R.length) 2 (Ab BD (P++R))),(c,.bx [.ds (Ab B8 doc),.rw kp (gp+R.length) (P.length+R.length)])]
section
variable {doc:List Aw} {hp:CH} {c kp gp:Nat} {P R:List Dc}
section
variable {n:Nat} {Al:CH}
theorem RunR.n2 (h:RunR doc hp c kp gp P):¬c=kp:=fun e=>by have:=h.hc;rw [e,h.hk] at this;cases this
theorem RunR.lt (h:RunR doc hp c kp gp P) (hf:∀k,n<=k->gc hp k=.no):c<n∧kp<n :=
 ⟨Ca hf h.hc (fun e=>by cases e),Ca hf h.hk (fun e=>by cases e)⟩
theorem RunR.wsLt (h:RunR doc hp c kp gp P) (hf:∀k,n<=k->gc hp k=.no):wsLt n (Ix doc c kp gp P R):=by
 obtain ⟨h1,h3⟩:=h.lt hf
 refine ⟨h3,trivial,h1,?_,trivial⟩
 intro U hα
 simp only [List.mem_cons,List.not_mem_nil,or_false] at hα
 rcases hα with rfl | rfl
 .rfl
 .exact h3
theorem Dt (h:RunR doc hp c kp gp P) (h1:gc Al kp=.rw (gp+R.length) 2 (Ab BD (P++R))) (h2:gc Al c=.bx [.ds (Ab B8 doc),.rw kp (gp+R.length) (P.length+R.length)])
 (h4:∀j,j<n->j≠c->j≠kp->gc Al j=gc hp j):Up n (Ix doc c kp gp P R++hp) Al:=fun j hj=>by
 simp only [Ix,zlh,zli]
 by_cases e1:kp=j
 .subst e1;rw [Ax,h1]
 .rw [Ai _ _ e1]
  by_cases e2:c=j
  .subst e2;rw [Ax,h2]
  .rw [Ai _ _ e2]
   exact h4 j hj (fun e=>e2 e.symm) (fun e=>e1 e.symm)
theorem RunR.of (h:RunR doc hp c kp gp P) (e:∀j,(j=c∨j=kp)->gc Al j=gc hp j):RunR doc Al c kp gp P :=
 ⟨(e c (.inl rfl)).trans h.hc,(e kp (.inr rfl)).trans h.hk⟩
theorem GL {n0:Nat} (h:RunR doc hp c kp gp P) (h1:c<n0) (h3:kp<n0):JQ hp n0 (keys (Ix doc c kp gp P R)) (Ix doc c kp gp P R):=by
 refine ⟨h3,by rw [h.hk];trivial,trivial,h1,by rw [h.hc];trivial,⟨rfl,?_,trivial⟩,trivial⟩
 show kp∈[kp,c];simp
end
end
theorem FD {doc:List Aw} {hp:CH} {c kp gp:Nat} {P:List Dc} (h:RunR doc hp c kp gp P) (path:List Ag) (FM:path.length<=1000000000000) (hP:P.length<=1000000000000) (s:qB) (n:Nat) :
 AU prog 102 hp n [.bx c 0,.ds (Ab Ar path),.s s] (Ix doc c kp gp P [.mk path s]++hp) n (.tp []):=by
 have Dg:(∀k,n<=k->gc hp k=.no)->wsLt n (Ix doc c kp gp P [.mk path s]):=fun hf=>h.wsLt hf
 have n2:=h.n2
 have m2:¬kp=c:=fun e=>n2 e.symm
 have hc:=h.hc
 have hk:=h.hk
 refine BR func102 (tA cc102) (tB cc102) (tC cc102) rfl Dg fun hf=>?_;unfold ck102
 obtain ⟨l1,l3⟩:=h.lt hf
 simp (disch:=omega) only [hc,hk,n2,m2,go_sem]
 refine ⟨by omega,by omega,by omega,by omega,Dt h ?_ ?_ fun j hj j1 j3=>?_⟩
 all_goals (simp (disch:=omega) only [go_sem])
def DoR (f:FuncId) (doc:List Aw) (args:List AV) (R2:List Dc) (r:AV):Prop :=
 ∀(hp:CH) (c kp gp:Nat) (P:List Dc) (n:Nat),RunR doc hp c kp gp P->P.length+R2.length<=1000000000000 ->
  AU prog f hp n (.bx c 0::args) (Ix doc c kp gp P R2++hp) n r
def nbR (doc:List Aw) (v:Ag):GZ:=fun tn tw picks path=>if v.k=0 then (A6,[]) else A7 doc v tn tw picks path
def VlK (doc:List Aw) (v:Ag):Prop:=∀(tn:qB) (tw:List Int) (picks:List Pk) (path:List Ag),tw.length<=1000000000000->B6 picks->path.length+AG v<=100000000000 ->
 DoR 57 doc [D1 tn tw,vx v,.ds (Ab AJ picks),.ds (Ab Ar path)] (A7 doc v tn tw picks path).2 (.tp [vx (A7 doc v tn tw picks path).1,.b (Fu tw (A7 doc v tn tw picks path).1)])
def NuK (doc:List Aw) (v:Ag):Prop:=∀(tn:qB) (tw:List Int) (picks:List Pk) (path:List Ag),tw.length<=1000000000000->B6 picks->path.length+AG v<=100000000000 ->
 DoR 103 doc [D1 tn (Cp tw),vx v,.ds (Ab AJ picks),.ds (Ab Ar path)] (nbR doc v tn tw picks path).2 (vx (nbR doc v tn tw picks path).1)
def LsK (doc:List Aw) (v:Ag):Prop:=∀(tn:qB) (tw:List Int) (picks:List Pk) (path:List Ag),tw.length<=1000000000000->B6 picks->path.length+AG v<=100000000000 ->
 DoR 143 doc [D1 tn tw,vx v,.ds (Ab AJ picks),.ds (Ab Ar path)] (Gl (v.items.map (A7 doc)) tn tw picks path).2 (vx (Gl (v.items.map (A7 doc)) tn tw picks path).1)
def ObK (doc:List Aw) (v:Ag):Prop:=∀(on:qB) (picks:List Pk) (path:List Ag),v.k=6->2<=AG v->B6 picks->path.length+AG v<=100000000000 ->
 DoR 147 doc [.s on,vx v,.ds (Ab AJ picks),.ds (Ab Ar path)] (H0 v.keys (v.items.map (A7 doc)) on picks path).2 (vx (H0 v.keys (v.items.map (A7 doc)) on picks path).1)
theorem Qs (doc:List Aw) (v:Ag) (h:NuK doc v):VlK doc v:=by
 intro tn tw picks path DG Ht QT hp c kp gp P n hR hP
 have hN:=h tn tw picks path DG Ht QT
 have VX:=DE tn tw DG
 have hNu:=D8 tn tw DG
 have Dg:(∀k,n<=k->gc hp k=.no)->wsLt n (Ix doc c kp gp P (A7 doc v tn tw picks path).2):=fun hf=>hR.wsLt hf
 have n2:=hR.n2
 have m2:¬kp=c:=fun e=>n2 e.symm
 have hc:=hR.hc
 have hk:=hR.hk
 unfold nbR at hN
 by_cases c1:v.k=0∧Gk tw=true
 .obtain ⟨c0,cn⟩:=c1
  have VE:A7 doc v tn tw picks path=(A6,[Dc.mk path GN]):=by rw [CV,JW,iN (by omega),iP c0,Ja,iP cn];rfl
  rw [iP c0] at hN
  rw [VE] at Dg hP ⊢
  have hlo:Fu tw A6=true:=by rw [Fu,cn];rfl
  have cd:decide (v.k=0)=true:=dT c0
  have hN:DoR 103 doc [D1 tn (Cp tw),vx v,.ds (Ab AJ picks),.ds (Ab Ar path)] [] (vx A6):=hN
  rw [cn] at VX
  dsimp only at hP Dg ⊢
  simp only [zlc,zle] at hP
  rw [hlo]
  refine BR func57 (tA cc57) (tB cc57) (tC cc57) rfl Dg fun hf=>?_;unfold ck57
  obtain ⟨l1,l3⟩:=hR.lt hf
  simp (disch:=omega) only [cd,go_sem]
  refine AH.f (fun _=>VX _ _) ?_
  simp (disch:=omega) only [cd,go_sem]
  refine Ac.x (FD (hR.of fun j hj=>?_) path (by omega) (by omega) GN _) ?_
  .simp only [A8]
   repeat rw [iN (by omega)]
  simp only [Ix,zlh,zli]
  simp (disch:=omega) only [go_sem]
  refine Aq.f (fun _ Al e=>hNu _ _) ?_
  simp (disch:=omega) only [go_sem]
  refine Aq.w (ws:=Ix doc c kp (gp+1) (P++[Dc.mk path GN]) []) (GL (P:=P++[Dc.mk path GN]) (gp:=gp+1) ⟨?_,?_⟩ (by omega) (by omega)) rfl
   (fun Al e=>hN Al c kp (gp+1) (P++[Dc.mk path GN]) _ ⟨(e c (.inl (by omega))).trans ?_,(e kp (.inl (by omega))).trans ?_⟩ (by simp;omega)) ?_
  case refine_5=>
   simp only [Ix,zlh,zli]
   simp (disch:=omega) only [go_sem]
   refine ⟨⟨by omega,by omega⟩,AC.f (fun _ Al e=>VX _ _) ?_⟩
   simp (disch:=omega) only [cn,go_sem]
   refine Dt (R:=[.mk path GN]) hR ?_ ?_ fun j hj j1 j3=>?_
   all_goals (simp (disch:=omega) only [go_sem])
   rw [zld]
   rfl
  all_goals (simp (disch:=omega) only [zld,zlc,zle,go_sem])
 .have hnb:nbR doc v tn tw picks path=A7 doc v tn tw picks path:=by
   unfold nbR
   by_cases c0:v.k=0
   .have cn:Gk tw=false:=by simpa [c0] using c1
    rw [iP c0,CV,JW,iN (by omega),iP c0,WL cn]
   .rw [iN c0]
  unfold nbR at hnb
  rw [hnb] at hN
  obtain ⟨R,A9⟩:=A5 (A7 doc v tn tw picks path)
  rw [A9] at hN hP Dg ⊢
  unfold Fu
  have c1:(decide (v.k=0)&&Gk tw)=false:=by
   cases e:(decide (v.k=0)&&Gk tw) with
   |false=>rfl
   |true=>simp only [Bool.and_eq_true,decide_eq_true_eq] at e;exact absurd e c1
  refine BR func57 (tA cc57) (tB cc57) (tC cc57) rfl Dg fun hf=>?_;unfold ck57
  obtain ⟨l1,l3⟩:=hR.lt hf
  simp (disch:=omega) only [go_sem]
  refine AH.f (fun _=>VX _ _) ?_
  simp (disch:=omega) only [c1,go_sem]
  refine Aq.f (fun _ Al e=>hNu _ _) ?_
  simp (disch:=omega) only [go_sem]
  refine Aq.w (ws:=Ix doc c kp gp P R.2) (GL ⟨?_,?_⟩ (by omega) (by omega)) rfl
   (fun Al e=>hN Al c kp gp P _ ⟨(e c (.inl (by omega))).trans ?_,(e kp (.inl (by omega))).trans ?_⟩ (by omega)) ?_
  case refine_5=>
   simp only [Ix,zlh,zli]
   simp (disch:=omega) only [go_sem]
   refine ⟨⟨by omega,by omega⟩,AC.f (fun _ Al e=>VX _ _) ?_⟩
   simp (disch:=omega) only [go_sem]
   refine Dt hR ?_ ?_ fun j hj j1 j3=>?_
   all_goals (simp (disch:=omega) only [go_sem])
  all_goals (simp (disch:=omega) only [hc,hk,go_sem])
theorem Rb {doc:List Aw} {n:qB} (h:Ex doc n=true):F0 doc n=false:=by
 unfold Ex at h
 unfold F0
 cases c:BU n with
 |true=>simp
 |false=>
  rw [c] at h
  simp only [Bool.false_or,decide_eq_true_eq] at h
  simp [h]
theorem Iz (doc:List Aw) (hd:DocOk doc) (v:Ag) (hv:v.Fit) (h0:-9223372036854775808<=v.n) (h1:v.n<=9223372036854775807) (hL:LsK doc v) (hO:ObK doc v):NuK doc v:=by
 intro tn tw picks path DG Ht QT hp c kp gp P n hR hP
 have hRe:=CV doc v
 obtain ⟨R,A9⟩:=A5 (nbR doc v tn tw picks path)
 rw [A9] at hP ⊢
 unfold nbR at A9
 rw [hRe,JW] at A9
 have O2:=C8 tw
 have V9:=FF tn (Cp tw) (by omega)
 have hinl:=Lw (Cp tw)
 have FM:path.length<=1000000000000:=by omega
 have Dg:(∀k,n<=k->gc hp k=.no)->wsLt n (Ix doc c kp gp P R.2):=fun hf=>hR.wsLt hf
 have n2:=hR.n2
 have m2:¬kp=c:=fun e=>n2 e.symm
 have hc:=hR.hc
 have hk:=hR.hk
 have hnum:R.2.length=R.2.length:=rfl
 refine BR func103 (tA cc103) (tB cc103) (tC cc103) rfl Dg fun hf=>?_;unfold ck103
 obtain ⟨l1,l3⟩:=hR.lt hf
 simp (disch:=omega) only [go_sem]
 refine Ae (fun c9=>?_) (fun c9=>?_)
 .have c9:v.k=9:=by simpa using c9
  rw [iN (by omega),iP c9] at A9
  have A9:R=(A6,[Dc.mk path v.s]):=A9.symm
  subst A9
  simp only [zlc,zle] at hP
  simp (disch:=omega) only [go_sem]
  refine Ac.x (FD (hR.of fun j hj=>?_) path FM (by omega) v.s _) ?_
  .simp only [A8]
   repeat rw [iN (by omega)]
  simp only [Ix,zlh,zli]
  simp (disch:=omega) only [go_sem]
  refine Dt (R:=[.mk path v.s]) hR ?_ ?_ fun j hj j1 j3=>?_
  all_goals (simp (disch:=omega) only [go_sem])
 have c9:¬v.k=9:=by simpa using c9
 rw [iN c9] at A9
 simp (disch:=omega) only [go_sem]
 refine Ae (fun s9=>?_) (fun s9=>?_)
 .have s9:v.k=0:=by simpa using s9
  rw [iP s9] at A9
  subst A9
  simp (disch:=omega) only [go_sem]
  refine Dt hR ?_ ?_ fun j hj j1 j3=>?_
  all_goals (simp (disch:=omega) only [hc,hk,zle,Nat.add_zero,zg,go_sem])
 have s9:¬v.k=0:=by simpa using s9
 rw [iN s9,iN s9] at A9
 simp (disch:=omega) only [go_sem]
 by_cases cl:Cu (Cp tw)=true
 .rw [iP cl] at A9
  rw [iP cl] at V9
  refine Ac.f (V9 _ _) ?_
  simp (disch:=omega) only [hc,go_sem]
  refine Ae (fun c5=>?_) (fun c5=>?_)
  .have c5:v.k=5:=by simpa using c5
   rw [iP c5] at A9
   subst A9
   simp (disch:=omega) only [hc,go_sem]
   refine Ac.x (hL tn (DM (Cp tw)) picks path (by omega) Ht QT _ c kp gp P _ (hR.of fun j hj=>?_) hP) ?_
   .simp only [A8]
    repeat rw [iN (by omega)]
   simp only [Ix,zlh,zli]
   simp (disch:=omega) only [hc,go_sem]
   refine Dt hR ?_ ?_ fun j hj j1 j3=>?_
   all_goals (simp (disch:=omega) only [go_sem])
  .have c5:¬v.k=5:=by simpa using c5
   rw [iN c5] at A9
   have A9:R=(A6,[Dc.mk path CR]):=A9.symm
   subst A9
   simp only [zlc,zle] at hP
   have Gj:=DA v hv sT
   rw [Ik] at Gj
   obtain ⟨x,hx⟩:=A5 ((AA v sT).getD A6)
   obtain ⟨s,hs⟩:=A5 ((AA v sT).isSome)
   rw [hx,hs] at Gj
   simp (disch:=omega) only [hc,go_sem]
   refine AC.f (fun _ Al e=>Io doc hd.len tn _ _) ?_
   simp (disch:=omega) only [hc,go_sem]
   refine Ac.f (Gj _ _) ?_
   simp (disch:=omega) only [hc,go_sem]
   refine AC.f (fun _ Al e=>Fi doc hd.len tn _ _) ?_
   simp (disch:=omega) only [hc,go_sem]
   refine AC.f (fun _ Al e=>NY doc hd x.s tn _ _) ?_
   simp (disch:=omega) only [hc,go_sem]
   refine Ac.x (FD (hR.of fun j hj=>?_) path FM (by omega) CR _) ?_
   .simp only [A8]
    repeat rw [iN (by omega)]
   simp only [Ix,zlh,zli]
   simp (disch:=omega) only [go_sem]
   refine Dt (R:=[.mk path CR]) hR ?_ ?_ fun j hj j1 j3=>?_
   all_goals (simp (disch:=omega) only [go_sem])
 .rw [iN cl] at A9
  rw [iN cl] at V9
  refine Ac.f (V9 _ _) ?_
  have Gj:=DA v hv sT
  rw [Ik] at Gj
  have VH:=SR v
  obtain ⟨x,hx⟩:=A5 ((AA v sT).getD A6)
  obtain ⟨s,hs⟩:=A5 ((AA v sT).isSome)
  rw [hx,hs] at Gj VH
  have G1:=Uu doc hd tn v h0 h1
  obtain ⟨o,ho⟩:=A5 (EK doc tn v)
  rw [ho] at G1 A9
  unfold oV at G1
  simp (disch:=omega) only [hc,go_sem]
  refine AC.f (fun _ Al e=>Io doc hd.len tn _ _) ?_
  simp (disch:=omega) only [hc,go_sem]
  refine Ae (fun cf=>?_) (fun cf=>?_)
  .rw [iP cf] at A9
   have hcb:=Rb cf
   simp (disch:=omega) only [hc,go_sem]
   refine Aq.f (fun _ Al e=>G1 _ _) ?_
   simp (disch:=omega) only [hc,go_sem]
   refine ⟨by omega,?_⟩
   refine Ae (fun cs=>?_) (fun cs=>?_)
   .cases o with
    |none=>cases cs
    |some y=>
     dsimp only at A9
     subst A9
     simp (disch:=omega) only [hc,go_sem]
     refine Dt hR ?_ ?_ fun j hj j1 j3=>?_
     all_goals (simp (disch:=omega) only [hc,hk,zle,Nat.add_zero,zg,go_sem])
   .cases o with
    |some y=>cases cs
    |none=>
     have A9:R=(A6,[Dc.mk path CR]):=A9.symm
     subst A9
     simp only [zlc,zle] at hP
     simp (disch:=omega) only [hc,go_sem]
     refine Ac.f (Gj _ _) ?_
     simp (disch:=omega) only [hc,go_sem]
     refine AC.f (fun _ Al e=>Fi doc hd.len tn _ _) ?_
     simp (disch:=omega) only [hc,go_sem]
     refine AC.f (fun _ Al e=>NY doc hd x.s tn _ _) ?_
     simp (disch:=omega) only [hcb,go_sem]
     refine Ac.x (FD (hR.of fun j hj=>?_) path FM (by omega) CR _) ?_
     .simp only [A8]
      repeat rw [iN (by omega)]
     simp only [Ix,zlh,zli]
     simp (disch:=omega) only [go_sem]
     refine Dt (R:=[.mk path CR]) hR ?_ ?_ fun j hj j1 j3=>?_
     all_goals (simp (disch:=omega) only [go_sem])
  .rw [iN (by simp [cf])] at A9
   simp (disch:=omega) only [hc,go_sem]
   refine Ac.f (Gj _ _) ?_
   simp (disch:=omega) only [hc,go_sem]
   refine AC.f (fun _ Al e=>Fi doc hd.len tn _ _) ?_
   simp (disch:=omega) only [hc,go_sem]
   refine AC.f (fun _ Al e=>NY doc hd x.s tn _ _) ?_
   simp (disch:=omega) only [hc,go_sem]
   have Fn:(s&&decide (x.k=3)&&F0 doc tn&&decide (x.s∈Et doc tn))=false->R=(A6,[Dc.mk path CR]):=fun cc=>by
    rw [<-A9]
    cases ht:typO v with
    |none=>rfl
    |some on=>
     rw [VH] at ht
     split at ht
     .rename_i hcnd
      cases ht
      dsimp only
      rw [iN (fun hh=>by simp [hcnd.1,hcnd.2,hh.1,hh.2] at cc)]
      rfl
     .cases ht
   refine Ae (fun cc=>?_) (fun cc=>?_)
   .have TS:s=true∧x.k=3∧F0 doc tn=true∧x.s∈Et doc tn:=by simpa [and_assoc] using cc
    obtain ⟨s1,x3,cb,xp⟩:=TS
    rw [iP ⟨s1,x3⟩] at VH
    have k6:=Ov VH
    rw [VH] at A9
    dsimp only at A9
    rw [iP ⟨cb,xp⟩] at A9
    subst A9
    have VG:2<=AG v:=by
     cases hg:AA v sT with
     |none=>rw [hg] at hs;subst s1;cases hs
     |some y=>
      have:=B1 (CB hg)
      have:=CT y
      rw [AE]
      omega
    simp (disch:=omega) only [go_sem]
    refine Ac.x (hO x.s picks path k6 VG Ht QT _ c kp gp P _ (hR.of fun j hj=>?_) hP) ?_
    .simp only [A8]
     repeat rw [iN (by omega)]
    simp only [Ix,zlh,zli]
    simp (disch:=omega) only [go_sem]
    refine Dt hR ?_ ?_ fun j hj j1 j3=>?_
    all_goals (simp (disch:=omega) only [go_sem])
   .have Fn:=Fn cc
    subst Fn
    simp only [zlc,zle] at hP
    simp (disch:=omega) only [go_sem]
    refine Ac.x (FD (hR.of fun j hj=>?_) path FM (by omega) CR _) ?_
    .simp only [A8]
     repeat rw [iN (by omega)]
    simp only [Ix,zlh,zli]
    simp (disch:=omega) only [go_sem]
    refine Dt (R:=[.mk path CR]) hR ?_ ?_ fun j hj j1 j3=>?_
    all_goals (simp (disch:=omega) only [go_sem])
