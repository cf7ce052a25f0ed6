/- Proof. Conditions: none. -/
import Derived.Test.YtgfidgoefioigaaGreatDoorIk21
noncomputable section
open List renaming mem_map->zq,nodup_cons->z1k,countP_eq_length_filter->z3w,mem_append->z1l,mem_singleton->z1s,filter_cons_of_neg->z27,filter_cons_of_pos->z28,filter_cons->z1o,mem_append_left->z32
open Go.Proofs.Tryz
open List renaming length_cons->zlc,map_cons->zln,mem_cons->zlw
namespace Go.Proofs.YtgfidgoefioigaaGreatDoor
open Go.Eng
set_option linter.all false
abbrev ME:=List (qB × AV)
section
variable {k b:qB} {v α:AV} {p:qB × AV}
def KS (l:ME):Prop:=(l.map (·.1)).Nodup
theorem KR (b k:qB) (v:AV):∀l:ME,B5 b (D4 k v l)=if b=k then some v else B5 b l
 | []=>by simp [D4,B5]
 | (x,α)::r=>by
  rw [D4]
  by_cases h:k=x
  .subst h
   rw [iP rfl,B5,B5]
   split<;>rfl
  .rw [iN h,B5,B5,KR b k v r]
   by_cases hb:b=x
   .subst hb
    rw [iP rfl,iP rfl,iN (fun e=>h e.symm)]
   .rw [iN hb,iN hb]
theorem KD:∀{l:ME},p∈D4 k v l->p=(k,v)∨p∈l
 | [],h=>by simp [D4] at h;exact .inl h
 | (x,α)::r,h=>by
  rw [D4] at h
  split at h
  .rcases zlw.1 h with h | h
   .exact .inl h
   .exact .inr (by simp [h])
  .rcases zlw.1 h with h | h
   .exact .inr (by simp [h])
   .rcases KD h with h | h
    .exact .inl h
    .exact .inr (by simp [h])
theorem Wr {x:qB}:∀{l:ME},x∈(D4 k v l).map (·.1)->x=k∨x∈l.map (·.1):=fun {l} h=>by
 obtain ⟨p,hp,rfl⟩:=zq.1 h
 rcases KD hp with rfl | h
 .exact .inl rfl
 .exact .inr (zq.2 ⟨p,h,rfl⟩)
theorem Tj {k:qB} {v:AV}:∀{l:ME},KS l->KS (D4 k v l)
 | [],h=>by simp [KS,D4]
 | (x,α)::r,h=>by
  simp only [KS,zln,z1k] at h
  rw [D4]
  split
  .rename_i e
   subst e
   simp only [KS,zln,z1k]
   exact h
  .rename_i e
   simp only [KS,zln,z1k]
   exact ⟨fun q=>by
    rcases Wr q with q | q
    .exact e q.symm
    .exact h.1 q,Tj (l:=r) h.2⟩
theorem Oo:∀{l:ME},p∈CS k l->p∈l
 | [],h=>by simp [CS] at h
 | (x,α)::r,h=>by
  rw [CS] at h
  split at h
  .simp [h]
  .rcases zlw.1 h with h | h
   .simp [h]
   .simp [Oo h]
theorem Tt {k:qB}:∀{l:ME},KS l->KS (CS k l)
 | [],h=>by simp [KS,CS]
 | (x,α)::r,h=>by
  simp only [KS,zln,z1k] at h
  rw [CS]
  split
  .exact h.2
  .simp only [KS,zln,z1k]
   exact ⟨fun q=>by
    obtain ⟨p,hp,e⟩:=zq.1 q
    exact h.1 (zq.2 ⟨p,Oo hp,e⟩),Tt (l:=r) h.2⟩
theorem Kk:∀{l:ME},b ∉ l.map (·.1)->B5 b l=none
 | [],_=>rfl
 | (x,α)::r,h=>by
  simp only [zln,zlw,not_or] at h
  rw [B5,iN h.1,Kk h.2]
theorem KM (b:qB):∀{l:ME},KS l->B5 b (CS k l)=if b=k then none else B5 b l
 | [],_=>by simp [CS,B5]
 | (x,α)::r,h=>by
  simp only [KS,zln,z1k] at h
  rw [CS]
  by_cases e:k=x
  .subst e
   rw [iP rfl,B5]
   by_cases hb:b=k
   .subst hb
    rw [iP rfl,Kk h.1]
   .rw [iN hb,iN hb]
  .rw [iN e,B5,B5,KM b (l:=r) h.2]
   by_cases hb:b=x
   .subst hb
    rw [iP rfl,iP rfl,iN (fun q=>e q.symm)]
   .rw [iN hb,iN hb]
theorem Ep:∀{l:ME},KS l->(b,α)∈l->B5 b l=some α
 | [],_,h=>by cases h
 | (x,β)::r,hk,h=>by
  simp only [KS,zln,z1k] at hk
  rw [B5]
  rcases zlw.1 h with h | h
  .cases h
   rw [iP rfl]
  .have hb:¬b=x:=fun e=>hk.1 (by rw [<-e];exact zq.2 ⟨_,h,rfl⟩)
   rw [iN hb]
   exact Ep hk.2 h
theorem Iz:∀{l:ME},B5 b l=some α->(b,α)∈l
 | [],h=>by cases h
 | (x,β)::r,h=>by
  rw [B5] at h
  split at h
  .rename_i e;cases h;subst e;simp
  .simp [Iz h]
def ER (l:ME) (sn:List qB):Nat:=(l.filter fun p:qB × AV=>decide (p.1 ∉ sn)).length
theorem GM {l:ME} {sn:List qB} (h:(b,α)∈l) (hb:b ∉ sn):ER l (sn++[b])<ER l sn:=by
 unfold ER
 induction l with
 |nil=>cases h
 |cons p l ih=>
  have le:∀l:ME,(l.filter fun p:qB×AV=>decide (p.1 ∉ sn++[b])).length<=(l.filter fun p:qB×AV=>decide (p.1 ∉ sn)).length:=fun l=>by
   rw [<-z3w,<-z3w]
   refine List.countP_mono_left fun x _ hx=>?_
   simp only [z1l,z1s,not_or,decide_eq_true_eq] at hx ⊢
   exact hx.1
  rcases zlw.1 h with h | h
  .subst h
   rw [z27 (by simp),z28 (by simpa using hb),zlc]
   have:=le l
   omega
  .have:=ih h
   by_cases c:p.1∈sn
   .rw [z27 (by simp [c]),z27 (by simp [c])]
    exact this
   .rw [z28 (p:=fun p:qB×AV=>decide (p.1 ∉ sn)) (by simpa using c),zlc]
    by_cases c2:p.1=b
    .rw [z27 (by simp [c2])]
     omega
    .rw [z28 (by simp [c,c2]),zlc]
     omega
theorem FF (l:ME) (sn:List qB) (k:qB):ER (CS k l) sn<=ER l sn:=by
 unfold ER
 induction l with
 |nil=>exact Nat.le_refl _
 |cons p l ih=>
  obtain ⟨x,α⟩:=p
  rw [CS]
  split
  .rw [z1o]
   split
   .rw [zlc];omega
   .exact Nat.le_refl _
  .rw [z1o,z1o]
   split
   .rw [zlc,zlc];omega
   .exact ih
end
set_option maxRecDepth 20000
section
variable {Q R:qB->Bool} {L:ME} {b:qB} {x:Av} {l:List Av}
def FC (Q:qB->Bool) (L:ME):Prop:=KS L∧∀b,B5 b L=if Q b=true then some (.b true) else none
theorem FC.nil:FC (fun _=>false) []:=⟨by simp [KS],fun b=>by simp [B5]⟩
theorem FC.put (h:FC Q L) (k:qB) (hR:∀b,R b=(decide (b=k)||Q b)):FC R (D4 k (.b true) L):=⟨Tj h.1,fun b=>by
 rw [KR,h.2 b,hR b]
 by_cases e:b=k<;>simp [e]⟩
theorem FC.del (h:FC Q L) (k:qB) (hR:∀b,R b=(Q b&&!decide (b=k))):FC R (CS k L):=⟨Tt h.1,fun b=>by
 rw [KM b h.1,h.2 b,hR b]
 by_cases e:b=k<;>simp [e]⟩
theorem FC.ext (h:FC Q L) (hR:∀b,R b=Q b):FC R L:=⟨h.1,fun b=>by rw [h.2 b,hR b]⟩
theorem FC.get (h:FC Q L) {α:AV} (hb:(b,α)∈L):Q b=true∧α=.b true:=by
 have:=Ep h.1 hb
 rw [h.2 b] at this
 split at this
 .cases this;exact ⟨by assumption,rfl⟩
 .cases this
theorem FC.mem (h:FC Q L) (hb:Q b=true):(b,.b true)∈L:=by
 have:=h.2 b
 rw [iP hb] at this
 exact Iz this
def Gu (doc:List Av) (t:Av) (name:qB) (b:qB):Bool :=
 if t.k=1 then decide (b=name) else if t.k=2 then doc.any (fun x=>decide (x.n=b)&&decide (name∈GX x.impl)) else if t.k=3 then decide (b∈Gc t.members) else false
def Gl (doc:List Av) (t:Av) (name:qB) (b:qB):Bool:=match Ay doc b with
 |none=>true
 |some o=>decide (o.k≠1)||(decide (t.k=2)&&!decide (name∈GX o.impl))
def Dm (doc:List Av) (t:Av) (name:qB) (b:qB):Bool:=Gu doc t name b&&!Gl doc t name b
def EE (Q:qB->Bool):List qB->List Av->List qB
 |out,[]=>out
 |out,x::r=>if Q x.n=true∧x.n ∉ out then EE Q (out++[x.n]) r else EE Q out r
theorem Jk:∀{pre:List Av},x.n ∉ pre.map Av.n->Ay (pre++x::l) x.n=some x
 | [],_=>by rw [List.nil_append,GK,iP rfl]
 |y::pre,h=>by
  simp only [zln,zlw,not_or] at h
  rw [List.cons_append,GK,iN (fun e=>h.1 e.symm),Jk h.2]
theorem QF {doc pre:List Av} {t:Av} {name:qB} (hd:doc=pre++x::l) (hx:x.n ∉ pre.map Av.n):Dm doc t name x.n=(decide (x.k=1)&&Jy t name x):=by
 have hf:Ay doc x.n=some x:=by rw [hd];exact Jk hx
 have hm:x∈doc:=by rw [hd];simp
 unfold Dm Gu Gl Jy
 rw [hf]
 by_cases k1:x.k=1
 .by_cases t1:t.k=1
  .simp [k1,t1]
  .by_cases t2:t.k=2
   .by_cases c:name∈GX x.impl
    .have:(doc.any fun y=>decide (y.n=x.n)&&decide (name∈GX y.impl))=true:=List.any_eq_true.2 ⟨x,hm,by simp [c]⟩
     simp [k1,t2,c,this]
    .simp [k1,t2,c]
   .by_cases t3:t.k=3
    .simp [k1,t3]
    .simp [k1,t1,t2,t3]
 .simp [k1]
theorem JG (doc:List Av) (t:Av) (name:qB):∀(l pre:List Av) (out:List qB),doc=pre++l->(∀b,b∈out↔b∈pre.map Av.n∧Dm doc t name b=true) ->
 EE (Dm doc t name) out l=out++E0 t name (pre.map Av.n) l
 | [],pre,out,_,_=>by rw [EE,E0,List.append_nil]
 |x::l,pre,out,hd,ho=>by
  have e:(pre++[x]).map Av.n=pre.map Av.n++[x.n]:=by simp
  have hd2:doc=(pre++[x])++l:=by rw [hd];simp
  rw [EE,E0]
  by_cases hs:x.n∈pre.map Av.n
  .rw [iN (fun h=>h.2 ((ho _).2 ⟨hs,h.1⟩)),iN (fun h=>h.1 hs),<-e]
   refine JG doc t name l (pre++[x]) out hd2 fun b=>?_
   rw [ho b,e]
   constructor
   .exact fun h=>⟨z32 _ h.1,h.2⟩
   .refine fun h=>⟨?_,h.2⟩
    rcases z1l.1 h.1 with h | h
    .exact h
    .rw [z1s.1 h];exact hs
  .have hm:=QF (t:=t) (name:=name) hd hs
   have hno:x.n ∉ out:=fun h=>hs ((ho _).1 h).1
   by_cases c:x.k=1∧Jy t name x=true
   .have hq:Dm doc t name x.n=true:=by rw [hm];simp [c.1,c.2]
    rw [iP ⟨hq,hno⟩,iP ⟨hs,c.1,c.2⟩,<-e,JG doc t name l (pre++[x]) (out++[x.n]) hd2 fun b=>?_]
    .rw [List.append_assoc];rfl
    .rw [e,z1l,z1l,ho b]
     constructor
     .rintro (h | h)
      .exact ⟨.inl h.1,h.2⟩
      .rw [z1s.1 h];exact ⟨.inr (by simp),hq⟩
     .rintro ⟨h | h,h2⟩
      .exact .inl ⟨h,h2⟩
      .exact .inr h
   .have hq:¬Dm doc t name x.n=true:=fun h=>by
     rw [hm] at h
     simp only [Bool.and_eq_true,decide_eq_true_eq] at h
     exact c h
    rw [iN (fun h=>hq h.1),iN (fun h=>c ⟨h.2.1,h.2.2⟩),<-e]
    refine JG doc t name l (pre++[x]) out hd2 fun b=>?_
    rw [ho b,e]
    constructor
    .exact fun h=>⟨z32 _ h.1,h.2⟩
    .refine fun h=>⟨?_,h.2⟩
     rcases z1l.1 h.1 with h' | h'
     .exact h'
     .rw [z1s.1 h'] at h;exact absurd h.2 hq
theorem Z4 (doc:List Av) (name:qB):EE (Dm doc ((Ay doc name).getD DJ) name) [] doc=Dj doc name:=by
 unfold Dj
 cases h:Ay doc name with
 |none=>
  have:∀l:List Av,EE (Dm doc (Option.getD none DJ) name) [] l=[]:=by
   intro l
   induction l with
   |nil=>rw [EE]
   |cons x l ih=>
    rw [EE,iN (fun h=>by
     have:=h.1
     simp [Dm,Gu,DJ,Av.k_mk] at this),ih]
  exact this doc
 |some t=>
  have:=JG doc t name doc [] [] rfl (fun b=>by simp)
  rw [List.nil_append] at this
  exact this
abbrev DW (tn:qB) (tw:List Int):AV:=.ag [.s tn,.ds (Ab D2 tw)]
attribute [go_sem] DW
theorem Wp (k:Nat):(0<((k+1:Nat):Int))=True:=eq_true (by omega)
theorem Afb (k:Nat):(1<=((k+1:Nat):Int))=True:=eq_true (by omega)
theorem YV (x:Int):(x<=x)=True:=eq_true (Int.le_refl x)
theorem Af6 (l:List Int):(∀e,e∈Ab D2 l->e.length=1)=True:=eq_true fun e h=>((of_eq_true (Pv l)) e h).1
attribute [go_sem] Wp Afb YV Af6
theorem GG (l:List Int) (h:l.length<=1000000000000) (hp:CH) (m:Nat):Ae prog 149 hp m [.ds (Ab D2 l)] (.ds (Ab D2 l)):=by
 refine Al func149 (tA cc149) (tB cc149) (tC cc149) rfl fun hf=>?_;unfold ck149
 simp only [go_sem]
 exact ⟨fun e=>by rw [e],by omega,by omega⟩
theorem U4 (n:qB) (hp:CH) (m:Nat):Ae prog 37 hp m [.s n] (DW n []):=by
 refine Al func37 (tA cc37) (tB cc37) (tC cc37) rfl fun hf=>?_;unfold ck37
 simp only [go_sem]
theorem SC:Ga []=false:=rfl
theorem PE (a:Int) (w:List Int):Ga (a::w)=decide (a=1):=by simp [Ga]
theorem KG (n:qB) (w:List Int) (hw:w.length<=1000000000000) (hp:CH) (m:Nat):Ae prog 73 hp m [DW n w] (.b (Ga w)):=by
 cases w with
 |nil=>
  rw [SC]
  refine Al func73 (tA cc73) (tB cc73) (tC cc73) rfl fun hf=>?_;unfold ck73
  simp only [go_sem]
 |cons a w=>
  rw [PE]
  refine Al func73 (tA cc73) (tB cc73) (tC cc73) rfl fun hf=>?_;unfold ck73
  simp only [go_sem]
theorem DT (n:qB) (w:List Int) (hw:w.length<=1000000000000) (hp:CH) (m:Nat):Ae prog 101 hp m [DW n w] (.b (Ga w)):=by
 cases w with
 |nil=>
  rw [SC]
  refine Al func101 (tA cc101) (tB cc101) (tC cc101) rfl fun hf=>?_;unfold ck101
  simp only [go_sem]
 |cons a w=>
  rw [PE]
  refine Al func101 (tA cc101) (tB cc101) (tC cc101) rfl fun hf=>?_;unfold ck101
  simp only [go_sem]
theorem FL (n:qB) (w:List Int) (hw:w.length<=1000000000000) (hp:CH) (m:Nat):Ae prog 108 hp m [DW n w] (DW n (B0 w)):=by
 have h1:=KG n w hw
 unfold B0
 by_cases c:Ga w=true
 .rw [iP c]
  rw [c] at h1
  cases w with
  |nil=>cases c
  |cons a w=>
   simp only [zlc] at hw
   refine Al func108 (tA cc108) (tB cc108) (tC cc108) rfl fun hf=>?_;unfold ck108
   simp only [go_sem]
   refine Ac.f (h1 _ _) ?_
   simp only [go_sem]
   first | refine Au.f (fun _ _ _=>GG w (by omega) _ _) ?_ | refine AJ.f (fun _ _ _=>GG w (by omega) _ _) ?_
   simp only [go_sem]
   rfl
 .rw [iN c]
  have c:Ga w=false:=by simpa using c
  rw [c] at h1
  refine Al func108 (tA cc108) (tB cc108) (tC cc108) rfl fun hf=>?_;unfold ck108
  simp only [go_sem]
  refine Ac.f (h1 _ _) ?_
  simp only [go_sem]
  first | refine Au.f (fun _ _ _=>GG w hw _ _) ?_ | refine AJ.f (fun _ _ _=>GG w hw _ _) ?_
  simp only [go_sem]
theorem Ty (n:qB) (a:Int) (w:List Int) (hw:w.length<=1000000000000) (hp:CH) (m:Nat):Ae prog 148 hp m [DW n (a::w)] (DW n w):=by
 refine Al func148 (tA cc148) (tB cc148) (tC cc148) rfl fun hf=>?_;unfold ck148
 simp only [go_sem]
 exact ⟨by omega,by omega⟩
theorem Ei (n:qB) (w:List Int) (hw:w.length<=1000000000000) (hp:CH) (m:Nat):Ae prog 104 hp m [DW n w] (DW n (B0 w)):=by
 have h1:=DT n w hw
 unfold B0
 by_cases c:Ga w=true
 .rw [iP c]
  rw [c] at h1
  cases w with
  |nil=>cases c
  |cons a w=>
   simp only [zlc] at hw
   refine Al func104 (tA cc104) (tB cc104) (tC cc104) rfl fun hf=>?_;unfold ck104
   simp only [go_sem]
   refine Ac.f (h1 _ _) ?_
   simp only [go_sem]
   refine Ac.f (Ty n a w (by omega) _ _) ?_
   simp only [go_sem]
   rfl
 .rw [iN c]
  have c:Ga w=false:=by simpa using c
  rw [c] at h1
  refine Al func104 (tA cc104) (tB cc104) (tC cc104) rfl fun hf=>?_;unfold ck104
  simp only [go_sem]
  refine Ac.f (h1 _ _) ?_
  simp only [go_sem]
  exact ⟨by omega,by omega⟩
theorem MU (w:List Int):Ca w=decide ((B0 w).head?=some 2):=rfl
theorem Ks (n:qB) (w:List Int) (hw:w.length<=1000000000000) (hp:CH) (m:Nat):Ae prog 109 hp m [DW n w] (.b (Ca w)):=by
 have h1:=FL n w hw
 have h2:=CB w
 rw [MU]
 obtain ⟨u,hu⟩:=A7 (B0 w)
 rw [hu] at h1 h2 ⊢
 cases u with
 |nil=>
  refine Al func109 (tA cc109) (tB cc109) (tC cc109) rfl fun hf=>?_;unfold ck109
  simp only [go_sem]
  refine Ac.f (h1 _ _) ?_
  simp only [go_sem]
  simp
 |cons a u=>
  simp only [zlc] at h2
  have e:decide ((a::u).head?=some 2)=decide (a=2):=by simp
  rw [e]
  refine Al func109 (tA cc109) (tB cc109) (tC cc109) rfl fun hf=>?_;unfold ck109
  simp only [go_sem]
  refine Ac.f (h1 _ _) ?_
  simp only [go_sem]
theorem JV (n:qB) (w:List Int) (hw:w.length<=1000000000000) (hp:CH) (m:Nat):Ae prog 137 hp m [DW n w] (.b (Ca w)):=by
 have h1:=Ei n w hw
 have h2:=CB w
 rw [MU]
 obtain ⟨u,hu⟩:=A7 (B0 w)
 rw [hu] at h1 h2 ⊢
 cases u with
 |nil=>
  refine Al func137 (tA cc137) (tB cc137) (tC cc137) rfl fun hf=>?_;unfold ck137
  simp only [go_sem]
  refine Ac.f (h1 _ _) ?_
  simp only [go_sem]
  simp
 |cons a u=>
  simp only [zlc] at h2
  have e:decide ((a::u).head?=some 2)=decide (a=2):=by simp
  rw [e]
  refine Al func137 (tA cc137) (tB cc137) (tC cc137) rfl fun hf=>?_;unfold ck137
  simp only [go_sem]
  refine Ac.f (h1 _ _) ?_
  simp only [go_sem]
theorem O4 {w:List Int} (h:Ca w=true):∃u,B0 w=2::u∧Cg w=u:=by
 rw [MU] at h
 unfold Cg
 cases e:B0 w with
 |nil=>rw [e] at h;simp at h
 |cons a u=>rw [e] at h;simp at h;exact ⟨u,by rw [h],rfl⟩
theorem Mj (n:qB) (w:List Int) (hw:w.length<=1000000000000) (hp:CH) (m:Nat):Ae prog 99 hp m [DW n w] (if Ca w=true then .tp [DW n (Cg w),.b true] else .tp [DW ⟨#[]⟩ [],.b false]):=by
 have h1:=Ks n w hw
 have h2:=FL n w hw
 have h3:=CB w
 by_cases c:Ca w=true
 .rw [iP c]
  obtain ⟨u,e1,e2⟩:=O4 c
  rw [c] at h1
  rw [e1] at h2 h3
  rw [e2]
  simp only [zlc] at h3
  refine Al func99 (tA cc99) (tB cc99) (tC cc99) rfl fun hf=>?_;unfold ck99
  simp only [go_sem]
  refine Ac.f (h1 _ _) ?_
  simp only [go_sem]
  refine Ac.f (h2 _ _) ?_
  simp only [go_sem]
 .rw [iN c]
  have c:Ca w=false:=by simpa using c
  rw [c] at h1
  refine Al func99 (tA cc99) (tB cc99) (tC cc99) rfl fun hf=>?_;unfold ck99
  simp only [go_sem]
  refine Ac.f (h1 _ _) ?_
  simp only [go_sem]
theorem IN (n:qB) (w:List Int) (hw:w.length<=1000000000000) (hp:CH) (m:Nat):Ae prog 106 hp m [DW n w] (if Ca w=true then .tp [DW n (Cg w),.b true] else .tp [DW ⟨#[]⟩ [],.b false]):=by
 have h1:=JV n w hw
 have h2:=Ei n w hw
 have h3:=CB w
 by_cases c:Ca w=true
 .rw [iP c]
  obtain ⟨u,e1,e2⟩:=O4 c
  rw [c] at h1
  rw [e1] at h2 h3
  rw [e2]
  simp only [zlc] at h3
  refine Al func106 (tA cc106) (tB cc106) (tC cc106) rfl fun hf=>?_;unfold ck106
  simp only [go_sem]
  refine Ac.f (h1 _ _) ?_
  simp only [go_sem]
  refine Ac.f (h2 _ _) ?_
  simp only [go_sem]
  refine Ac.f (Ty n 2 u (by omega) _ _) ?_
  simp only [go_sem]
 .rw [iN c]
  have c:Ca w=false:=by simpa using c
  rw [c] at h1
  refine Al func106 (tA cc106) (tB cc106) (tC cc106) rfl fun hf=>?_;unfold ck106
  simp only [go_sem]
  refine Ac.f (h1 _ _) ?_
  simp only [go_sem]
theorem XX (l:List Av) (hl:l.length<=1000000000000) (n:qB) (hp:CH) (m:Nat):Ae prog 111 hp m [B9 l,.s n] (.b (CX l n)):=by
 unfold CX
 refine Al func111 (tA cc111) (tB cc111) (tC cc111) rfl fun hf=>?_;unfold ck111
 simp only [go_sem]
 refine Ac.f (Hr n _ _) ?_
 simp only [go_sem]
 refine AH.f (fun _=>Tx l hl n _ _) ?_
 simp only [go_sem]
theorem ON (l:List Av) (hl:l.length<=1000000000000) (n:qB) (hp:CH) (m:Nat):Ae prog 142 hp m [B9 l,.s n] (.b (CX l n)):=by
 have h1:=BW l hl n
 have e:CX l n=(BV n||((Ay l n).isSome&&decide (((Ay l n).getD DJ).k=4))):=by
  unfold CX Fq
  cases Ay l n<;>simp
 rw [e]
 obtain ⟨R,hR⟩:=A7 (Ay l n)
 rw [hR] at h1 ⊢
 rw [Eh] at h1
 refine Al func142 (tA cc142) (tB cc142) (tC cc142) rfl fun hf=>?_;unfold ck142
 simp only [go_sem]
 refine Ac.f (h1 _ _) ?_
 simp only [go_sem]
 refine Ac.f (DE n _ _) ?_
 simp only [go_sem]
end
