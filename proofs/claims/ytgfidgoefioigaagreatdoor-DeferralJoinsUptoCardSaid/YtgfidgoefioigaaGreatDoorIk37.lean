/- Proof. Conditions: none. -/
import Derived.Test.YtgfidgoefioigaaGreatDoorIk36
noncomputable section
open List renaming range->z1y,ext_getElem?->z31,flatten_nil->z1w
open Option renaming map_some->z7
open Bool renaming or_eq_true->z1v,and_eq_true->zd,or_eq_false_iff->z33,and_eq_false_iff->z3q
open UInt8 renaming not_lt->z54
open Go.Proofs.Tryz
open List renaming mem_of_getElem?->zla,getElem?_eq_some_iff->zlb,getElem?_eq_getElem->zlg,take_of_length_le->zlk,getElem?_map->zlp,flatten_cons->zlt
open Nat renaming le_refl->zna,lt_or_ge->znb
namespace Go.Proofs.YtgfidgoefioigaaGreatDoor
open Go.Eng
set_option linter.all false
theorem Lk:∀a b:List UInt8,Op.bytesLess a b=true->Op.bytesLess b a=false
 | [],[],h=>by simp [Op.bytesLess] at h
 | [],y::b,h=>by simp [Op.bytesLess]
 |x::a,[],h=>by simp [Op.bytesLess] at h
 |x::a,y::b,h=>by
  have ih:=Lk a b
  simp only [Op.bytesLess,z1v,decide_eq_true_eq,zd,beq_iff_eq,z33,decide_eq_false_iff_not,z3q,beq_eq_false_iff_ne] at h ⊢
  rcases h with h | ⟨h1,h2⟩
  .exact ⟨z54.2 (UInt8.le_of_lt h),.inl fun e=>by subst e;exact UInt8.lt_irrefl _ h⟩
  .subst h1
   exact ⟨UInt8.lt_irrefl _,.inr (ih h2)⟩
theorem KX:∀a b c:List UInt8,Op.bytesLess a b=true->Op.bytesLess b c=true->Op.bytesLess a c=true
 | [],[],c,h,h2=>by simp [Op.bytesLess] at h
 | [],y::b,[],h,h2=>by simp [Op.bytesLess] at h2
 | [],y::b,z::c,h,h2=>by simp [Op.bytesLess]
 |x::a,[],c,h,h2=>by simp [Op.bytesLess] at h
 |x::a,y::b,[],h,h2=>by simp [Op.bytesLess] at h2
 |x::a,y::b,z::c,h,h2=>by
  have ih:=KX a b c
  simp only [Op.bytesLess,z1v,decide_eq_true_eq,zd,beq_iff_eq] at h h2 ⊢
  rcases h with h | ⟨h1,h⟩
  .rcases h2 with h2 | ⟨h3,h2⟩
   .exact .inl (UInt8.lt_trans h h2)
   .subst h3;exact .inl h
  .subst h1
   rcases h2 with h2 | ⟨h3,h2⟩
   .exact .inl h2
   .subst h3;exact .inr ⟨rfl,ih h h2⟩
theorem K8:∀a b:List UInt8,Op.bytesLess a b=false->Op.bytesLess b a=false->a=b
 | [],[],_,_=>rfl
 | [],y::b,h,_=>by simp [Op.bytesLess] at h
 |x::a,[],_,h=>by simp [Op.bytesLess] at h
 |x::a,y::b,h,h2=>by
  have ih:=K8 a b
  simp only [Op.bytesLess,z33,decide_eq_false_iff_not,z3q,beq_eq_false_iff_ne] at h h2
  have e:x=y:=UInt8.le_antisymm (z54.1 h2.1) (z54.1 h.1)
  subst e
  rw [ih (by rcases h.2 with q | q;exact absurd rfl q;exact q) (by rcases h2.2 with q | q;exact absurd rfl q;exact q)]
set_option maxRecDepth 20000
section
variable {l K:List qB} {x:Nat}
def TT (l:List qB) (x y:Nat):Prop:=Op.bytesLess (l.getD x ⟨#[]⟩).toList (l.getD y ⟨#[]⟩).toList=true∨(l.getD x ⟨#[]⟩=l.getD y ⟨#[]⟩∧x<y)
instance (l:List qB):DecidableRel (TT l):=fun x y=>by unfold TT;infer_instance
theorem Pe (l:List qB):∀x y z,TT l x y->TT l y z->TT l x z:=fun x y z h1 h2=>by
 unfold TT at *
 generalize l.getD x ⟨#[]⟩=a at *
 generalize l.getD y ⟨#[]⟩=b at *
 generalize l.getD z ⟨#[]⟩=c at *
 rcases h1 with h1 | ⟨rfl,h1⟩
 .rcases h2 with h2 | ⟨rfl,h2⟩
  .exact .inl (KX _ _ _ h1 h2)
  .exact .inl h1
 .rcases h2 with h2 | ⟨rfl,h2⟩
  .exact .inl h2
  .exact .inr ⟨rfl,by omega⟩
theorem WE (l:List qB):∀x,¬TT l x x:=fun x h=>by
 unfold TT at h
 rcases h with h | ⟨_,h⟩
 .rw [Iv] at h;cases h
 .omega
theorem Aay (l:List qB):∀x y,TT l x y->¬TT l y x:=fun x y h1 h2=>WE l x (Pe l x y x h1 h2)
theorem Adg (l:List qB) (x y:Nat):TT l x y∨x=y∨TT l y x:=by
 unfold TT
 generalize l.getD x ⟨#[]⟩=a at *
 generalize l.getD y ⟨#[]⟩=b at *
 cases h1:Op.bytesLess a.toList b.toList with
 |true=>exact .inl (.inl rfl)
 |false=>
  cases h2:Op.bytesLess b.toList a.toList with
  |true=>exact .inr (.inr (.inl rfl))
  |false=>
   have e:=Lg (K8 _ _ h1 h2)
   rcases Nat.lt_trichotomy x y with c | c | c
   .exact .inl (.inr ⟨e,c⟩)
   .exact .inr (.inl c)
   .exact .inr (.inr (.inr ⟨e.symm,c⟩))
def DN (l:List qB):List Nat:=(z1y l.length).mergeSort fun x y=>decide (TT l x y)||decide (x=y)
theorem Eo (l:List qB):(DN l).Perm (z1y l.length):=List.mergeSort_perm _ _
theorem G9 (l:List qB):(DN l).length=l.length:=by rw [(Eo l).length_eq,List.length_range]
theorem Gr:x∈DN l↔x<l.length:=by rw [(Eo l).mem_iff,List.mem_range]
theorem Oj (l:List qB):(DN l).Pairwise (TT l):=by
 have h1:(DN l).Pairwise fun x y=>(decide (TT l x y)||decide (x=y))=true:=List.pairwise_mergeSort (fun a b c h1 h2=>by
  simp only [z1v,decide_eq_true_eq] at *
  rcases h1 with h1 | rfl
  .rcases h2 with h2 | rfl
   .exact .inl (Pe l _ _ _ h1 h2)
   .exact .inl h1
  .exact h2) (fun a b=>by
  simp only [z1v,decide_eq_true_eq]
  rcases Adg l a b with h | h | h
  .exact .inl (.inl h)
  .exact .inl (.inr h)
  .exact .inr (.inl h)) _
 have h2:(DN l).Nodup:=(Eo l).symm.nodup List.nodup_range
 refine (h1.and h2).imp fun {a b} h=>?_
 obtain ⟨h3,h4⟩:=h
 simp only [z1v,decide_eq_true_eq] at h3
 exact h3.resolve_right h4
def LA (l:List qB) (x:Nat):Nat:=(z1y l.length).countP fun y=>decide (TT l y x)
theorem JA {i:Nat} (h:(DN l)[i]?=some x):LA l x=i:=by
 unfold LA
 rw [<-(Eo l).countP_eq]
 have hi:=(zlb.1 h).1
 have hs:=List.pairwise_iff_getElem.1 (Oj l)
 have hx:(DN l)[i]=x:=(zlb.1 h).2
 have c1:(((DN l).take i).countP fun y=>decide (TT l y x))=i:=by
  have:(((DN l).take i).countP fun y=>decide (TT l y x))=((DN l).take i).length:=by
   rw [List.countP_eq_length]
   intro y hy
   obtain ⟨k,hk⟩:=List.getElem?_of_mem hy
   rw [List.getElem?_take] at hk
   split at hk
   .rename_i w
    have MB:=(zlb.1 hk).1
    have LN:(DN l)[k]=y:=(zlb.1 hk).2
    have:=hs k i MB hi w
    rw [hx,LN] at this
    exact dT this
   .cases hk
  rw [this,List.length_take]
  omega
 have c2:(((DN l).drop i).countP fun y=>decide (TT l y x))=0:=by
  rw [List.countP_eq_zero]
  intro y hy
  obtain ⟨k,hk⟩:=List.getElem?_of_mem hy
  rw [List.getElem?_drop] at hk
  have MB:=(zlb.1 hk).1
  have LN:(DN l)[i+k]=y:=(zlb.1 hk).2
  rcases Nat.eq_zero_or_pos k with w | w
  .subst w
   have:y=x:=by rw [<-LN,<-hx];rfl
   rw [this]
   simpa using WE l x
  .have:=hs i (i+k) hi MB (by omega)
   rw [hx,LN] at this
   simpa using Aay l _ _ this
 have:=congrArg (List.countP fun y=>decide (TT l y x)) (List.take_append_drop i (DN l))
 rw [List.countP_append,c1,c2] at this
 exact this.symm
theorem SJ (l:List qB) (h:x<l.length):LA l x<l.length:=by
 obtain ⟨i,hi⟩:=List.getElem?_of_mem (Gr.2 h)
 rw [JA hi,<-G9 l]
 exact (zlb.1 hi).1
theorem XO (l:List qB) {y:Nat} (hx:x<l.length) (hy:y<l.length) (e:LA l x=LA l y):x=y:=by
 obtain ⟨i,hi⟩:=List.getElem?_of_mem (Gr.2 hx)
 obtain ⟨j,hj⟩:=List.getElem?_of_mem (Gr.2 hy)
 rw [JA hi,JA hj] at e
 subst e
 rw [hi] at hj
 exact Option.some.inj hj
mutual
def Cj:Ag->Ag
 | .mk k n s i l=>if k=6∧l.length=i.length then .mk k n s ((DN l).map fun q=>(M3 i).getD q A8) ((DN l).map fun q=>l.getD q ⟨#[]⟩) else .mk k n s (M3 i) l
def M3:List Ag->List Ag
 | []=>[]
 |x::r=>Cj x::M3 r
end
theorem T4 (l:List Ag):M3 l=l.map Cj:=by
 induction l with
 |nil=>rw [M3];rfl
 |cons x l ih=>rw [M3,ih];rfl
theorem Gp (v:Ag):Cj v=if v.k=6∧v.keys.length=v.items.length then .mk v.k v.n v.s ((DN v.keys).map fun q=>(v.items.map Cj).getD q A8) ((DN v.keys).map fun q=>v.keys.getD q ⟨#[]⟩) else .mk v.k v.n v.s (v.items.map Cj) v.keys:=by
 cases v
 rw [Cj,T4]
 rfl
theorem H6 {α:Type} (L:List α) (d:α):((z1y L.length).map fun q=>L.getD q d)=L:=by
 apply z31
 intro i
 rcases znb i L.length with h | h
 .rw [zlp,List.getElem?_range h,z7,List.getD_eq_getElem?_getD,zlg h]
  rfl
 .rw [List.getElem?_eq_none (by simpa using h),List.getElem?_eq_none h]
def LC (K:List qB):List qB:=(DN K).map fun q=>K.getD q ⟨#[]⟩
theorem GJ (K:List qB):(LC K).Perm K:=by
 have:=(Eo K).map fun q=>K.getD q ⟨#[]⟩
 rwa [H6] at this
theorem NY (h:K.Nodup):(LC K).Pairwise fun a b=>Op.bytesLess a.toList b.toList=true:=by
 have h2:(LC K).Nodup:=(GJ K).symm.nodup h
 have h1:(LC K).Pairwise fun a b=>Op.bytesLess a.toList b.toList=true∨a=b:=by
  unfold LC
  rw [List.pairwise_map]
  refine (Oj K).imp fun {a b} h=>?_
  rcases h with h | h
  .exact .inl h
  .exact .inr h.1
 exact (h1.and h2).imp fun {a b} h=>h.1.resolve_right h.2
theorem ZC {L:List qB} (hp:K.Perm L) (h:K.Nodup):LC K=LC L:=by
 refine List.Perm.eq_of_pairwise (le:=fun a b=>Op.bytesLess a.toList b.toList=true) (fun a b _ _ h1 h2=>?_) (NY h) (NY (hp.nodup h)) (((GJ K).trans hp).trans (GJ L).symm)
 have:=Lk _ _ h1
 rw [h2] at this
 cases this
theorem O6 (K:List qB) (G:qB->Ag):Cj (Cw K (K.map G))=Cw (LC K) ((LC K).map fun k=>Cj (G k)):=by
 rw [Gp,iP ⟨rfl,by simp [Cw,Ag.items_mk,Ag.keys_mk]⟩]
 unfold Cw LC
 simp only [Ag.items_mk,Ag.keys_mk,Ag.k_mk,Ag.n_mk,Ag.s_mk]
 congr 1
 rw [List.map_map,List.map_map]
 apply List.map_congr_left
 intro q hq
 have hq:=Gr.1 hq
 have e:K[q]?=some (K.getD q ⟨#[]⟩):=by rw [List.getD_eq_getElem?_getD,zlg hq];rfl
 rw [List.getD_eq_getElem?_getD,zlp,e]
 rfl
theorem Li.sort {x y:Ag} (h:Li x y):Cj x=Cj y:=by
 induction h with
 |refl v=>rfl
 |list xs ys hl hi ih=>
  have:xs.map Cj=ys.map Cj:=by
   apply z31
   intro i
   rw [zlp,zlp]
   rcases znb i xs.length with q | q
   .have e1:xs[i]?=some xs[i]:=zlg q
    have e2:ys[i]?=some ys[i]:=zlg (by omega)
    rw [e1,e2,z7,z7,ih i _ _ e1 e2]
   .rw [List.getElem?_eq_none q,List.getElem?_eq_none (by omega)]
  rw [Gp,Gp,iN (fun c=>absurd c.1 (show ¬(5:Int)=6 by decide)),iN (fun c=>absurd c.1 (show ¬(5:Int)=6 by decide))]
  unfold EB
  simp only [Ag.items_mk,Ag.keys_mk,Ag.k_mk,Ag.n_mk,Ag.s_mk]
  rw [this]
 |obj K L G H hp hn hi ih=>
  rw [O6,O6,<-ZC hp hn]
  congr 1
  apply List.map_congr_left
  intro k hk
  exact ih k ((GJ K).mem_iff.1 hk)
end
set_option maxHeartbeats 1000000
section
variable {L:List AV} {l:List (List AV)}
theorem Wm (l:List qB) (i:Nat) (s:qB):(Ab C3 l).set i [AV.s s]=Ab C3 (l.set i s):=by simp [Ab,List.map_set,C3]
theorem Ad0 (l:List qB) (x y:Nat):decide (TT l x y)=(Op.bytesLess (l.getD x ⟨#[]⟩).toList (l.getD y ⟨#[]⟩).toList||(decide (l.getD x ⟨#[]⟩=l.getD y ⟨#[]⟩)&&decide (x<y))):=by
 rw [Bool.eq_iff_iff,decide_eq_true_eq]
 unfold TT
 simp
def L4 (l:List qB) (i j:Nat):Nat:=(z1y j).countP fun y=>decide (TT l y i)
theorem TM (l:List qB) (i j:Nat):L4 l i (j+1)=if decide (TT l j i)=true then L4 l i j+1 else L4 l i j:=by
 unfold L4
 rw [List.range_succ,List.countP_append,List.countP_singleton]
 split<;>rfl
theorem Zv (l:List qB) (i j:Nat):L4 l i j<=j:=by
 unfold L4
 have:=List.countP_le_length (p:=fun y=>decide (TT l y i)) (l:=z1y j)
 rwa [List.length_range] at this
theorem UF (l:List qB) (hl:l.length<=100000000000) (i:Nat) (hi:i<l.length) (hp:CH) (m:Nat):Ae prog 41 hp m [.ds (Bq l),.i .i64 i] (.i .i64 (LA l i:Nat)):=by
 obtain ⟨R,hR⟩:=A7 (LA l i)
 rw [hR]
 have ei:l[i]?=some (l.getD i ⟨#[]⟩):=by rw [List.getD_eq_getElem?_getD,zlg hi];rfl
 refine Al func41 (tA cc41) (tB cc41) (tC cc41) rfl fun hf=>?_;unfold ck41
 simp only [go_sem]
 refine loop (fun p:Nat×Nat=>⟨[(0,.ds (Bq l)),(1,.i .i64 i),(5,.i .i64 (L4 l i p.1:Nat)),(6,.i .i64 p.1)],hp,p.2⟩) (fun p=>p.1<=l.length) (fun p=>l.length - p.1) (0,m) ?_ ?_ (fun ⟨j,n⟩ hj=>?_)
 .exact Nat.zero_le _
 .have h0:L4 l i 0=0:=rfl
  refine Dd ?_
  simp only [h0,go_sem]
 dsimp only at hj
 have hc:=Zv l i j
 simp only [go_sem]
 refine Af (fun q=>?_) (fun q=>?_)
 .have q:j<l.length:=by simpa using q
  have ej:l[j]?=some (l.getD j ⟨#[]⟩):=by rw [List.getD_eq_getElem?_getD,zlg q];rfl
  have ht:=Ad0 l j i
  have hs:=TM l i j
  obtain ⟨x,hx⟩:=A7 (l.getD j ⟨#[]⟩)
  obtain ⟨y,hy⟩:=A7 (l.getD i ⟨#[]⟩)
  rw [hx] at ej ht
  rw [hy] at ei ht
  simp only [q,hi,Ad (Aa C3 ej),Ad (Aa C3 ei),Aa C3 ej,Aa C3 ei,go_sem]
  have ec:((j:Int)<(i:Int))=(j<i):=propext Int.ofNat_lt
  refine Af (fun c=>?_) (fun c=>?_)
  .rw [iP (by rw [ht];simpa only [ec] using c)] at hs
   have w1:=Ao (L4 l i j) (by omega)
   simp only [w1,Ao j (by omega),go_sem]
   refine ⟨(j+1,_),by dsimp only;omega,by dsimp only;omega,Dd ?_⟩
   simp only [hs,go_sem]
  .rw [iN (by rw [ht];simp only [ec] at c;rw [c];simp)] at hs
   simp only [Ao j (by omega),go_sem]
   refine ⟨(j+1,_),by dsimp only;omega,by dsimp only;omega,Dd ?_⟩
   simp only [hs,go_sem]
 .have q:j=l.length:=by simp at q;omega
  subst q
  have:L4 l i l.length=R:=hR
  rw [this]
  simp only [go_sem]
def D3 {α:Type} (r:Nat->Nat) (F:Nat->α) (l:List α):Nat->List α
 | 0=>l
 |j+1=>(D3 r F l j).set (r j) (F j)
theorem Ev {α:Type} (r:Nat->Nat) (F:Nat->α) (l:List α):∀j,(D3 r F l j).length=l.length
 | 0=>rfl
 |j+1=>by rw [D3,List.length_set,Ev r F l j]
theorem KF {α:Type} (r:Nat->Nat) (F:Nat->α) (l:List α) {n:Nat} (hr:∀x,x<n->r x<l.length) (hi:∀x y,x<n->y<n->r x=r y->x=y):∀j,j<=n->∀i,i<j->(D3 r F l j)[r i]?=some (F i)
 | 0,_,i,h=>by omega
 |j+1,hj,i,h=>by
  rw [D3,List.getElem?_set]
  by_cases e:r j=r i
  .have:j=i:=hi j i (by omega) (by omega) e
   subst this
   rw [iP rfl,iP (by rw [Ev];exact hr j (by omega))]
  .rw [iN e]
   have:i≠j:=fun q=>e (by rw [q])
   exact KF r F l hr hi j (by omega) i (by omega)
theorem Abn {α:Type} (F:Nat->α) (l:List α):D3 (fun x=>x) F l l.length=(z1y l.length).map F:=by
 apply z31
 intro i
 rcases znb i l.length with h | h
 .rw [KF (fun x=>x) F l (n:=l.length) (fun x hx=>hx) (fun x y _ _ e=>e) l.length (zna _) i h,zlp,List.getElem?_range h]
  rfl
 .rw [List.getElem?_eq_none (by rw [Ev];exact h),List.getElem?_eq_none (by simpa using h)]
theorem M7 {α:Type} (l:List qB) (F:Nat->α) (L:List α) (h:L.length=l.length):D3 (LA l) F L l.length=(DN l).map F:=by
 apply z31
 intro i
 rcases znb i l.length with hi | hi
 .have e1:(DN l)[i]?=some ((DN l)[i]'(by rw [G9];exact hi)):=zlg _
  generalize (DN l)[i]'(by rw [G9];exact hi)=x at e1
  have h3:=KF (LA l) F L (n:=l.length) (fun x hx=>by rw [h];exact SJ l hx) (fun x y hx hy e=>XO l hx hy e) l.length (zna _) x (Gr.1 (zla e1))
  rw [JA e1] at h3
  rw [h3,zlp,e1]
  rfl
 .rw [List.getElem?_eq_none (by rw [Ev,h];exact hi),List.getElem?_eq_none (by rw [List.length_map,G9];exact hi)]
theorem VA (v:Ag) (hv:v.Fit) (hw:AE v<=100000000000) (h:∀x∈v.items,∀hp m,Ae prog 17 hp m [vx x] (vx (Cj x))) (hp:CH) (m:Nat):Ae prog 17 hp m [vx v] (vx (Cj v)):=by
 have h1:=hv.i
 have h2:=hv.l
 have e:=Gp v
 rw [A9] at hw
 obtain ⟨R,hR⟩:=A7 (Cj v)
 rw [hR] at e ⊢
 obtain ⟨F,hF⟩:∃F:Nat->Ag,F=fun q=>(v.items.map Cj).getD q A8:=⟨_,rfl⟩
 have hFx:∀j x,v.items[j]?=some x->F j=Cj x:=fun j x ex=>by
  rw [hF]
  dsimp only
  rw [List.getD_eq_getElem?_getD,zlp,ex]
  rfl
 by_cases d:v.k=6∧v.keys.length=v.items.length
 .rw [iP d] at e
  obtain ⟨d6,dl⟩:=d
  obtain ⟨G,hG⟩:∃G:Nat->qB,G=fun q=>v.keys.getD q ⟨#[]⟩:=⟨_,rfl⟩
  rw [<-hF,<-hG] at e
  obtain ⟨r,hr⟩:∃r,r=LA v.keys:=⟨_,rfl⟩
  have Tz:∀x,x<v.keys.length->r x<v.keys.length:=fun x hx=>by rw [hr];exact SJ v.keys hx
  have hbf:=fun i hi=>UF v.keys (by omega) i hi
  rw [<-hr] at hbf
  have d6d:decide (v.k=6)=true:=dT d6
  have dld:decide ((v.keys.length:Int)=(v.items.length:Int))=true:=dT (by omega)
  have fin1:=M7 v.keys F v.items dl.symm
  have fin2:=M7 v.keys G v.keys rfl
  rw [<-hr,dl] at fin1 fin2
  refine Al func17 (tA cc17) (tB cc17) (tC cc17) rfl fun hf=>?_;unfold ck17
  simp only [go_sem]
  refine Ac.x (SG v hv _ _) ?_
  simp only [go_sem]
  refine loop (fun p:Nat×Nat=>⟨[(1,.bx m 0),(2,.bx (m+1) 0),(3,.bx (m+4) 0),(4,.i .i64 p.1)],
   (m+4,.bx [.i .i64 v.k,.i .i64 v.n,.s v.s,.rw (m+2) 0 v.items.length,.rw (m+3) 0 v.keys.length])::(m+2,.rw 0 5 (Ab Aw (D3 r F v.items p.1)))::(m+3,.rw 0 1 (Bq (D3 r G v.keys p.1)))::(m+1,.bx [.i .i64 0,.i .i64 0,.s ⟨#[]⟩,.e0,.e0])::(m,.bx [.i .i64 v.k,.i .i64 v.n,.s v.s,.ds (Ab Aw v.items),.ds (Bq v.keys)])::hp,p.2⟩) (fun p=>p.1<=v.items.length∧m+5<=p.2) (fun p=>v.items.length - p.1) (0,m+5) ?_ ?_ (fun ⟨j,n⟩ hj=>?_)
  .exact ⟨by simp,by simp⟩
  .refine wS5 hf ?_ ?_ ?_ ?_ ?_ ?_ ?_ (zna _)
   all_goals
    simp only [D3,go_sem]
  dsimp only at hj
  obtain ⟨Cq,Be⟩:=hj
  have z1:¬n=m:=by omega
  have z2:¬n=m+1:=by omega
  have z3:¬n=m+2:=by omega
  have z4:¬n=m+3:=by omega
  have z5:¬n=m+4:=by omega
  have z6:m<=n:=by omega
  have l1:=Ev r F v.items j
  have l2:=Ev r G v.keys j
  have t1:(D3 r F v.items j).take v.items.length=D3 r F v.items j:=zlk (by omega)
  have t2:(D3 r G v.keys j).take v.keys.length=D3 r G v.keys j:=zlk (by omega)
  simp only [go_sem]
  refine Af (fun c=>?_) (fun c=>?_)
  .have c:j<v.items.length:=by simpa using c
   have ck:j<v.keys.length:=by omega
   have hrj:=Tz j ck
   have hri:r j<v.items.length:=by omega
   obtain ⟨x,ex⟩:∃x,v.items[j]?=some x:=⟨v.items[j],by simp [c]⟩
   have ey:v.keys[j]?=some (G j):=by rw [hG];dsimp only;rw [List.getD_eq_getElem?_getD,zlg ck];rfl
   have hx:=h x (zla ex)
   rw [<-hFx j x ex] at hx
   have s1:(D3 r F v.items j).set (r j) (F j)=D3 r F v.items (j+1):=rfl
   have s2:(D3 r G v.keys j).set (r j) (G j)=D3 r G v.keys (j+1):=rfl
   obtain ⟨y1,e1⟩:∃y,(D3 r F v.items j)[r j]?=some y:=⟨_,zlg (by omega)⟩
   obtain ⟨y2,e2⟩:∃y,(D3 r G v.keys j)[r j]?=some y:=⟨_,zlg (by omega)⟩
   simp only [c,d6d,dld,z1,z2,z3,z4,z5,z6,go_sem]
   refine Ac.f (hbf j ck _ _) ?_
   simp only [c,ck,hrj,hri,d6d,dld,z1,z2,z3,z4,z5,z6,l1,l2,t1,t2,Ad (Aa C3 ey),Ad (Aa Aw ex),Aa Aw e1,Aa C3 e2,go_sem]
   refine Au.f (fun _ Am e=>hx _ _) ?_
   simp only [c,ck,hrj,hri,z1,z2,z3,z4,z5,z6,l1,l2,t1,t2,Aa Aw e1,Aa C3 e2,Wm,s1,s2,go_sem]
   refine ⟨(j+1,_),⟨by dsimp only;omega,by dsimp only;omega⟩,by dsimp only;omega,wS5 hf ?_ ?_ ?_ ?_ ?_ ?_ ?_ (zna _)⟩
   all_goals
    simp only [Ao j (by omega),z1,z2,z3,z4,z5,z6,Wm,s1,s2,go_sem]
  .have c:j=v.items.length:=by simp at c;omega
   subst c
   rw [fin1] at t1 l1 ⊢
   rw [fin2] at t2 l2 ⊢
   subst e
   have t3:v.items.length<=((DN v.keys).map F).length:=by omega
   have t4:v.keys.length<=((DN v.keys).map G).length:=by omega
   simp only [z1,z2,z3,z4,z5,z6,t1,t2,t3,t4,go_sem]
 .rw [iN d] at e
  have dd:(decide (v.k=6)&&decide ((v.keys.length:Int)=(v.items.length:Int)))=false:=by
   cases q:(decide (v.k=6)&&decide ((v.keys.length:Int)=(v.items.length:Int))) with
   |false=>rfl
   |true=>simp only [zd,decide_eq_true_eq] at q;exact absurd ⟨q.1,by omega⟩ d
  have fin1:=Abn F v.items
  have fin2:(z1y v.items.length).map F=v.items.map Cj:=by
   rw [hF]
   have:=H6 (v.items.map Cj) A8
   rwa [List.length_map] at this
  rw [fin2] at fin1
  refine Al func17 (tA cc17) (tB cc17) (tC cc17) rfl fun hf=>?_;unfold ck17
  simp only [go_sem]
  refine Ac.x (SG v hv _ _) ?_
  simp only [go_sem]
  refine loop (fun p:Nat×Nat=>⟨[(1,.bx m 0),(2,.bx (m+1) 0),(3,.bx (m+4) 0),(4,.i .i64 p.1)],
   (m+4,.bx [.i .i64 v.k,.i .i64 v.n,.s v.s,.rw (m+2) 0 v.items.length,.rw (m+3) 0 v.keys.length])::(m+2,.rw 0 5 (Ab Aw (D3 (fun x=>x) F v.items p.1)))::(m+3,.rw 0 1 (Bq v.keys))::(m+1,.bx [.i .i64 0,.i .i64 0,.s ⟨#[]⟩,.e0,.e0])::(m,.bx [.i .i64 v.k,.i .i64 v.n,.s v.s,.ds (Ab Aw v.items),.ds (Bq v.keys)])::hp,p.2⟩) (fun p=>p.1<=v.items.length∧m+5<=p.2) (fun p=>v.items.length - p.1) (0,m+5) ?_ ?_ (fun ⟨j,n⟩ hj=>?_)
  .exact ⟨by simp,by simp⟩
  .refine wS5 hf ?_ ?_ ?_ ?_ ?_ ?_ ?_ (zna _)
   all_goals
    simp only [D3,go_sem]
  dsimp only at hj
  obtain ⟨Cq,Be⟩:=hj
  have z1:¬n=m:=by omega
  have z2:¬n=m+1:=by omega
  have z3:¬n=m+2:=by omega
  have z4:¬n=m+3:=by omega
  have z5:¬n=m+4:=by omega
  have z6:m<=n:=by omega
  have l1:=Ev (fun x=>x) F v.items j
  have t1:(D3 (fun x=>x) F v.items j).take v.items.length=D3 (fun x=>x) F v.items j:=zlk (by omega)
  simp only [go_sem]
  refine Af (fun c=>?_) (fun c=>?_)
  .have c:j<v.items.length:=by simpa using c
   obtain ⟨x,ex⟩:∃x,v.items[j]?=some x:=⟨v.items[j],by simp [c]⟩
   have hx:=h x (zla ex)
   rw [<-hFx j x ex] at hx
   have s1:(D3 (fun x=>x) F v.items j).set j (F j)=D3 (fun x=>x) F v.items (j+1):=rfl
   obtain ⟨y1,e1⟩:∃y,(D3 (fun x=>x) F v.items j)[j]?=some y:=⟨_,zlg (by omega)⟩
   generalize D3 (fun x=>x) F v.items j=K at l1 t1 s1 e1 ⊢
   simp only [c,dd,z1,z2,z3,z4,z5,z6,l1,t1,Ad (Aa Aw ex),Aa Aw e1,go_sem]
   refine Au.f (fun _ Am e=>hx _ _) ?_
   simp only [c,z1,z2,z3,z4,z5,z6,l1,t1,Aa Aw e1,s1,go_sem]
   refine ⟨(j+1,_),⟨by dsimp only;omega,by dsimp only;omega⟩,by dsimp only;omega,wS5 hf ?_ ?_ ?_ ?_ ?_ ?_ ?_ (zna _)⟩
   all_goals
    simp only [Ao j (by omega),z1,z2,z3,z4,z5,z6,s1,go_sem]
  .have c:j=v.items.length:=by simp at c;omega
   subst c
   rw [fin1] at t1 l1 ⊢
   subst e
   have t3:v.items.length<=(v.items.map Cj).length:=by omega
   simp only [z1,z2,z3,z4,z5,z6,t1,t3,go_sem]
theorem Oe (v:Ag):AE v<=100000000000->∀hp m,Ae prog 17 hp m [vx v] (vx (Cj v)):=by
 refine Ag.ind (Q:=fun v=>AE v<=100000000000->∀hp m,Ae prog 17 hp m [vx v] (vx (Cj v))) (fun v ih hw=>?_) v
 refine VA v (CN v (by omega)) hw fun x hx=>ih x hx ?_
 have:=BS hx
 rw [A9] at hw
 omega
theorem own:ownKnob prog.godebug=none:=by kernel_rfl
theorem Apl:Kids prog (· < prog.types.size):=kids_rows (by kernel_rfl) (by kernel_rfl)
theorem Ajg {t e:TypeId} (ht:t<prog.types.size) (hd:prog.underlying t=some (.slice e)):0<prog.cellsOf e:=Aeq (by kernel_rfl) ht hd
theorem Mu {α:Type} {c:α->List AV} {wt:α->Nat}:∀{l:List α},(∀x∈l,wt x<=BO (c x))->(l.map wt).sum<=Df (Ab c l)
 | [],_=>by simp
 |x::l,h=>by
  have h1:=Mu (c:=c) (wt:=wt) (l:=l) fun y hy=>h y (by simp [hy])
  have h2:=h x (by simp)
  rw [BX,Df,List.map_cons,List.sum_cons]
  omega
theorem Bp {α:Type} {c:α->List AV} (h:∀x,1<=BO (c x)):∀l:List α,l.length<=Df (Ab c l)
 | []=>by simp
 |x::l=>by
  have h1:=Bp h l
  have h2:=h x
  rw [BX,Df,List.length_cons]
  omega
theorem Cn {x:List AV}:∀{l:List (List AV)},x∈l->BO x<=Df l
 |y::l,h=>by
  rw [Df]
  rcases List.mem_cons.1 h with rfl | h
  .omega
  .have:=Cn h
   omega
theorem Ac3 (s:qB):1<=BO (C3 s):=by simp [C3,BO,ET]
theorem VX (l:List Ag):BF l=(l.map AE).sum:=by
 induction l with
 |nil=>rfl
 |cons x l ih=>rw [BF,ih,List.map_cons,List.sum_cons]
theorem Tk (v:Ag):AE v+3<=BO (Aw v):=by
 refine Ag.ind (Q:=fun v=>AE v+3<=BO (Aw v)) (fun v ih=>?_) v
 rw [B3,A9,VX]
 have h1:=Mu (c:=Aw) (wt:=AE) (l:=v.items) fun x hx=>by have:=ih x hx;omega
 have h2:v.keys.length<=Df (Bq v.keys):=Bp Ac3 v.keys
 simp only [BO,ET]
 omega
theorem Abg (h:Fy prog 31 L):∃v:Ag,L=Aw v:=by
 suffices key:∀(n:Nat) (L:List AV),BO L<=n->Fy prog 31 L->∃v:Ag,L=Aw v from key _ L (zna _) h
 intro n
 induction n with
 |zero=>
  intro L hn h
  obtain ⟨parts,rfl,hl,hp⟩:=Bh underlying31 h
  obtain ⟨a,b,c,d,e,rfl⟩:=Tv (show parts.length=5 from hl)
  obtain ⟨a,rfl,_⟩:=CM underlying3 (hp 0 _ a rfl rfl)
  simp [BO,ET] at hn
 |succ n ih=>
  intro L hn h
  obtain ⟨parts,rfl,hl,hp⟩:=Bh underlying31 h
  obtain ⟨a,b,c,d,e,rfl⟩:=Tv (show parts.length=5 from hl)
  obtain ⟨a,rfl,_⟩:=CM underlying3 (hp 0 _ a rfl rfl)
  obtain ⟨b,rfl,_⟩:=CM underlying3 (hp 1 _ b rfl rfl)
  obtain ⟨c,rfl,_⟩:=AX underlying9 (hp 2 _ c rfl rfl)
  obtain ⟨l,rfl,_,hx⟩:=AL underlying28 (hp 3 _ d rfl rfl)
  obtain ⟨k,rfl,_,hy⟩:=AL underlying29 (hp 4 _ e rfl rfl)
  obtain ⟨vs,rfl,_⟩:=EM (c:=Aw) fun x h=>ih x (by
   have:=Cn h
   simp [BO,ET] at hn
   omega) (hx x h)
  obtain ⟨ks,rfl,_⟩:=EM (c:=C3) fun x h=>by
   obtain ⟨s,rfl,_⟩:=AX underlying9 (hy x h)
   exact ⟨s,rfl⟩
  exact ⟨.mk a b c vs ks,by rw [B3];rfl⟩
theorem Ajb (v:Ag):AE v+3<=ET (vx v):=by
 have:=Tk v
 rw [B3] at this
 exact this
theorem CV {β:Type} {c:β->List AV} {Q:β->Prop}:∀{l:List (List AV)},(∀x∈l,∃y,x=c y∧Q y)->∃m:List β,l=Ab c m∧∀y∈m,Q y
 | [],_=>⟨[],rfl,by simp⟩
 |x::l,h=>by
  obtain ⟨y,rfl,hy⟩:=h x (by simp)
  obtain ⟨m,e,hl⟩:=CV (c:=c) (Q:=Q) (l:=l) fun z hz=>h z (by simp [hz])
  refine ⟨y::m,by rw [BX,<-e],fun z hz=>?_⟩
  rcases List.mem_cons.1 hz with rfl | hz
  .exact hy
  .exact hl z hz
theorem Ahx {n:Int} (h:(Lit.int .i64 n).wf=true):-9223372036854775808<=n∧n<=9223372036854775807:=by
 simp only [Lit.wf,zd,decide_eq_true_eq] at h
 exact h
theorem ZK (v:Ag):Fy prog 31 (Aw v)->v.Rng:=by
 refine Ag.ind (Q:=fun v=>Fy prog 31 (Aw v)->v.Rng) (fun v ih h=>?_) v
 rw [B3] at h
 obtain ⟨parts,e0,hl,hp⟩:=Bh underlying31 h
 obtain ⟨a,b,c,d,e,rfl⟩:=Tv (show parts.length=5 from hl)
 obtain ⟨a,rfl,_⟩:=CM underlying3 (hp 0 _ a rfl rfl)
 obtain ⟨b,rfl,hb⟩:=CM underlying3 (hp 1 _ b rfl rfl)
 obtain ⟨c,rfl,_⟩:=AX underlying9 (hp 2 _ c rfl rfl)
 obtain ⟨l,rfl,_,hx⟩:=AL underlying28 (hp 3 _ d rfl rfl)
 obtain ⟨k,rfl,_,hy⟩:=AL underlying29 (hp 4 _ e rfl rfl)
 simp only [zlt,z1w,List.cons_append,List.nil_append,List.cons.injEq,AV.i.injEq,AV.ds.injEq,true_and,and_true] at e0
 obtain ⟨_,e1,_,e2,_⟩:=e0
 have:=Ahx hb
 refine .mk v (by omega) (by omega) fun x hx'=>ih x hx' (hx _ ?_)
 rw [<-e2]
 exact List.mem_map_of_mem (f:=Aw) hx'
structure VS (v:Ag):Prop where
 f:v.Fit
 r:v.Rng
 w:AE v<=1048576
theorem HV (h:Fy prog 31 L) (hb:BO L<=1048576):∃v:Ag,L=Aw v∧VS v:=by
 obtain ⟨v,rfl⟩:=Abg h
 have:=Tk v
 exact ⟨v,rfl,⟨CN v (by omega),ZK v h,by omega⟩⟩
theorem CL:∀a b:List AV,BO (a++b)=BO a+BO b
 | [],b=>by simp [BO]
 |x::a,b=>by rw [List.cons_append,BO,BO,CL a b];omega
theorem Yf (h:Fy prog 156 L) (hb:BO L<=1048576):∃x:GS,L=B7 x∧x.v.Fit:=by
 obtain ⟨parts,rfl,hl,hp⟩:=Bh underlying156 h
 obtain ⟨a,b,rfl⟩:=HN (show parts.length=2 from hl)
 obtain ⟨a,rfl,_⟩:=AX underlying9 (hp 0 _ a rfl rfl)
 simp only [zlt,z1w,CL,BO,ET] at hb
 obtain ⟨v,rfl,hv⟩:=HV (hp 1 _ b rfl rfl) (by omega)
 refine ⟨.mk a v,?_,hv.f⟩
 rw [B3]
 rfl
theorem Oc (a:GS):1<=BO (B7 a):=by simp [B7,BO,ET];omega
theorem SE (p:Pk):1<=BO (Bi p):=by rw [Ch];simp [BO,ET];omega
theorem N6 (n:Int):1<=BO (D2 n):=by simp [D2,BO,ET]
theorem Aku (p:Pk):IL p<=BO (Bi p):=by
 refine Pk.ind (Q:=fun p=>IL p<=BO (Bi p)) (fun p ih=>?_) p
 have key:∀l:List Pk,(∀x∈l,IL x<=BO (Bi x))->A5 l<=Df (Ab Bi l):=by
  intro l
  induction l with
  |nil=>intro _;simp [A5]
  |cons x l ihl=>
   intro h
   have h1:=h x (by simp)
   have h2:=ihl fun y hy=>h y (by simp [hy])
   rw [A5,BX]
   show _<=BO (Bi x)+Df (Ab Bi l)
   omega
 have:=key p.picks ih
 rw [Ci,Ch]
 simp only [BO,ET]
 omega
theorem Ael (l:List Pk):A5 l<=Df (Ab Bi l):=by
 induction l with
 |nil=>simp [A5]
 |cons x l ih=>
  have:=Aku x
  rw [A5,BX]
  show _<=BO (Bi x)+Df (Ab Bi l)
  omega
theorem WT (h:∀x∈l,Fy prog 9 x):∃m,l=Bq m:=by
 obtain ⟨ks,rfl,_⟩:=EM (c:=C3) (l:=l) fun x hx=>by
  obtain ⟨s,rfl,_⟩:=AX underlying9 (h x hx)
  exact ⟨s,rfl⟩
 exact ⟨ks,rfl⟩
theorem PP (a:G3):1<=BO (F9 a):=by simp [F9,BO,ET];omega
theorem XA (a:BG):1<=BO (AD a):=by simp [AD,BO,ET];omega
theorem Qk (h:Fy prog 154 L) (hb:BO L<=1048576):∃x:G3,L=F9 x∧M8 x:=by
 obtain ⟨parts,rfl,hl,hp⟩:=Bh underlying154 h
 obtain ⟨a,b,rfl⟩:=HN (show parts.length=2 from hl)
 obtain ⟨a,rfl,_⟩:=AX underlying9 (hp 0 _ a rfl rfl)
 obtain ⟨l,rfl,_,hx⟩:=AL underlying61 (hp 1 _ b rfl rfl)
 simp only [zlt,z1w,CL,BO,ET] at hb
 obtain ⟨al,rfl,ha⟩:=CV (c:=B7) (Q:=fun a=>a.v.Fit) fun x h=>Yf (hx x h) (by have:=Cn h;omega)
 have h2:=Bp Oc al
 exact ⟨.mk a al,rfl,by simp only [G3.args_mk];omega,ha⟩
theorem IA (h:∀x∈l,Fy prog 154 x) (hb:Df l<=1048576):E2 l:=by
 obtain ⟨ds,rfl,hd⟩:=CV (c:=F9) (Q:=M8) fun x hx=>Qk (h x hx) (by have:=Cn hx;omega)
 have h2:=Bp PP ds
 exact ⟨ds,rfl,by omega,hd⟩
theorem WN (h:Fy prog 161 L) (hb:BO L<=1048576):∃x:BG,L=AD x∧Hi x:=by
 obtain ⟨parts,rfl,hl,hp⟩:=Bh underlying161 h
 obtain ⟨a,b,c,d,e,rfl⟩:=Tv (show parts.length=5 from hl)
 obtain ⟨a,rfl,_⟩:=AX underlying9 (hp 0 _ a rfl rfl)
 obtain ⟨ts,rfl,Gh,DX⟩:=Bh underlying64 (hp 1 _ b rfl rfl)
 obtain ⟨t,u,rfl⟩:=HN (show ts.length=2 from Gh)
 obtain ⟨t,rfl,_⟩:=AX underlying9 (DX 0 _ t rfl rfl)
 obtain ⟨w,rfl,_,hy⟩:=AL underlying62 (DX 1 _ u rfl rfl)
 obtain ⟨ws,rfl,_⟩:=EM (c:=D2) fun x h=>by
  obtain ⟨n,rfl,_⟩:=CM underlying3 (hy x h)
  exact ⟨n,rfl⟩
 obtain ⟨c,rfl⟩:=WB underlying4 (hp 2 _ c rfl rfl)
 obtain ⟨l,rfl,_,hx⟩:=AL underlying85 (hp 4 _ e rfl rfl)
 simp only [zlt,z1w,CL,BO,ET] at hb
 obtain ⟨v,rfl,hv⟩:=HV (hp 3 _ d rfl rfl) (by omega)
 obtain ⟨ds,rfl,hd⟩:=CV (c:=F9) (Q:=M8) fun x h=>Qk (hx x h) (by have:=Cn h;omega)
 have h2:=Bp PP ds
 have h3:=Bp N6 ws
 refine ⟨.mk a t ws c v ds,?_,by simp only [BG.tw_mk];omega,⟨hv.f,hv.r⟩,by simp only [BG.dirs_mk];omega,hd⟩
 rw [B3]
 rfl
theorem Ms (h:∀x∈l,Fy prog 161 x) (hb:Df l<=1048576):Eb l:=by
 obtain ⟨ds,rfl,hd⟩:=CV (c:=AD) (Q:=Hi) fun x hx=>WN (h x hx) (by have:=Cn hx;omega)
 have h2:=Bp XA ds
 exact ⟨ds,rfl,by omega,hd⟩
theorem WG (x:Cr):1<=BO (Bu x):=by simp only [Bu,BO,ET];omega
theorem VR {β:Type} {c:β->List AV} (hc:∀x,1<=BO (c x)) (h:∀x∈l,∃y,x=c y):l.length<=Df l:=by
 obtain ⟨m,rfl,_⟩:=EM (c:=c) h
 have:=Bp hc m
 rw [As]
 exact this
theorem VL (h:Fy prog 92 L) (hb:BO L<=1048576):∃x:Cr,L=Bu x∧(Eb x.args∧E2 x.dirs∧x.tw.length<=1000000000):=by
 obtain ⟨parts,rfl,hl,hp⟩:=Bh underlying92 h
 obtain ⟨a,b,c,d,rfl⟩:=Ace (show parts.length=4 from hl)
 obtain ⟨a,rfl,_⟩:=AX underlying9 (hp 0 _ a rfl rfl)
 obtain ⟨l,rfl,_,hx⟩:=AL underlying88 (hp 1 _ b rfl rfl)
 obtain ⟨ts,rfl,Gh,DX⟩:=Bh underlying64 (hp 2 _ c rfl rfl)
 obtain ⟨t,u,rfl⟩:=HN (show ts.length=2 from Gh)
 obtain ⟨t,rfl,_⟩:=AX underlying9 (DX 0 _ t rfl rfl)
 obtain ⟨w,rfl,_,hy⟩:=AL underlying62 (DX 1 _ u rfl rfl)
 obtain ⟨l2,rfl,_,hz⟩:=AL underlying85 (hp 3 _ d rfl rfl)
 simp only [zlt,z1w,CL,BO,ET] at hb
 have h3:=VR N6 (l:=w) fun x h=>by
  obtain ⟨n,rfl,_⟩:=CM underlying3 (hy x h)
  exact ⟨n,rfl⟩
 have hA:=Ms hx (by omega)
 have hB:=IA hz (by omega)
 exact ⟨.mk a l t w l2,rfl,hA,hB,by simp only [Cr.tw_mk];omega⟩
theorem ZO (s:qB):1<=BO (C3 s):=by simp [C3,BO,ET]
theorem Yb (p:qB × List (List AV)):1<=BO (KN p):=by simp [KN,BO,ET];omega
structure DfnQ (t:Av):Prop where
 ok:DefOk t
 im:t.impl.length<=1000000000000
 me:t.members.length<=1000000000000
 w:DfnW t
theorem Ww (h:Fy prog 90 L) (hb:BO L<=1048576):∃x:Av,L=BB x∧DfnQ x:=by
 obtain ⟨parts,rfl,hl,hp⟩:=Bh underlying90 h
 match parts,hl,hp,hb with
 | [a,b,c,d,e,f,g],_,hp,hb=>
  obtain ⟨a,rfl,_⟩:=CM underlying3 (hp 0 _ a rfl rfl)
  obtain ⟨b,rfl,_⟩:=AX underlying9 (hp 1 _ b rfl rfl)
  obtain ⟨c,rfl,_,hc⟩:=AL underlying29 (hp 2 _ c rfl rfl)
  obtain ⟨d,rfl,_,hdd⟩:=AL underlying85 (hp 3 _ d rfl rfl)
  obtain ⟨l,rfl,_,hx⟩:=AL underlying86 (hp 4 _ e rfl rfl)
  obtain ⟨f,rfl,_,hm⟩:=AL underlying87 (hp 5 _ f rfl rfl)
  obtain ⟨g,rfl,_,hi⟩:=AL underlying88 (hp 6 _ g rfl rfl)
  simp only [zlt,z1w,CL,BO,ET] at hb
  obtain ⟨fs,rfl,Qw⟩:=CV (c:=Bu) (Q:=fun x=>Eb x.args∧E2 x.dirs∧x.tw.length<=1000000000) fun x h=>VL (hx x h) (by have:=Cn h;omega)
  have h1:=Bp WG fs
  obtain ⟨cs,rfl⟩:=WT hc
  have h2:cs.length<=Df (Bq cs):=Bp ZO cs
  have Dx:∀e∈f,∃x y,e=[AV.s x,.ds y]∧E2 y:=fun e he=>by
   obtain ⟨ps,rfl,hl3,hp3⟩:=Bh underlying159 (hm e he)
   obtain ⟨u,w,rfl⟩:=HN (show ps.length=2 from hl3)
   obtain ⟨u,rfl,_⟩:=AX underlying9 (hp3 0 _ u rfl rfl)
   obtain ⟨w,rfl,_,hw⟩:=AL underlying85 (hp3 1 _ w rfl rfl)
   have hbe:=Cn he
   simp only [zlt,z1w,CL,BO,ET] at hbe
   exact ⟨u,w,rfl,IA hw (by omega)⟩
  have h3:=VR Yb (l:=f) fun e he=>by
   obtain ⟨x,y,rfl,_⟩:=Dx e he
   exact ⟨(x,y),rfl⟩
  have hA:=IA hdd (by omega)
  have hB:=Ms hi (by omega)
  refine ⟨.mk a b (Bq cs) d fs f g,rfl,⟨⟨?_,fun e he=>?_⟩,?_,?_,⟨hA,hB,?_,Qw,Dx⟩⟩⟩
  .simp only [Av.impl_mk];rw [Ae1]
  .obtain ⟨x,y,e1,_⟩:=Dx e he
   exact ⟨x,y,e1⟩
  .show (Ab C3 cs).length<=_
   rw [As]
   omega
  .simp only [Av.members_mk];omega
  .simp only [Av.fields_mk];omega
theorem Zw (x:Av):1<=BO (BB x):=by simp only [BB,BO,ET];omega
structure DocQ (doc:List Av):Prop where
 ok:DocOk doc
 w:∀t∈doc,DfnW t
structure CQ (doc:List Av) (l:List Pk) (v:Ag):Prop where
 d:DocQ doc
 p:BQ l
 vs:VS v
 n:AE v+A5 l<=1048576
theorem CQ.cnt {doc:List Av} {l:List Pk} {v:Ag} (h:CQ doc l v):AE v*(1+A5 l)<=1000000000000:=by
 have:=h.n
 have h1:=h.vs.w
 have h2:AE v*(1+A5 l)<=1048576*(1+A5 l):=Nat.mul_le_mul_right _ h1
 rcases znb (A5 l) 900000 with c | c
 .have h3:1048576*(1+A5 l)<=1048576*900000:=Nat.mul_le_mul_left _ (by omega)
  omega
 .have h4:AE v*(1+A5 l)<=200000*(1+A5 l):=Nat.mul_le_mul_right _ (by omega)
  have h5:200000*(1+A5 l)<=200000*1048577:=Nat.mul_le_mul_left _ (by omega)
  omega
theorem QZ {α:AV} (h:AS prog 31 α) (hb:ET α<=1048576):∃v,α=vx v∧VS v:=by
 obtain ⟨L,rfl,h2⟩:=I3 underlying31 h
 obtain ⟨v,rfl,hv⟩:=HV h2 (by simpa [ET] using hb)
 exact ⟨v,by rw [B3],hv⟩
end
