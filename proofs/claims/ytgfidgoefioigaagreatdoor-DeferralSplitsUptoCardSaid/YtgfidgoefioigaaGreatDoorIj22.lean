/- Proof. Conditions: none. -/
import Derived.Test.YtgfidgoefioigaaGreatDoorIj21
noncomputable section
open List renaming mem_map->zw,nodup_cons->z1z,countP_eq_length_filter->z3p,mem_append->z1k,mem_singleton->z1q,filter_cons_of_neg->z2s,filter_cons_of_pos->z2t,filter_cons->z19,mem_append_left->z3i
open Go.Proofs.Tryz
open List renaming length_cons->zlc,map_cons->zln,mem_cons->zlw
namespace Go.Proofs.YtgfidgoefioigaaGreatDoor
open Go.Eng
set_option linter.all false
abbrev ME:=List (qB × AV)
section
variable {k b:qB} {v U:AV} {p:qB × AV}
def KS (l:ME):Prop:=(l.map (·.1)).Nodup
theorem LC (b k:qB) (v:AV):∀l:ME,B9 b (DP k v l)=if b=k then some v else B9 b l
 | []=>by simp [DP,B9]
 | (x,U)::r=>by
  rw [DP]
  by_cases h:k=x
  .subst h
   rw [iP rfl,B9,B9]
   split<;>rfl
  .rw [iN h,B9,B9,LC b k v r]
   by_cases hb:b=x
   .subst hb
    rw [iP rfl,iP rfl,iN (fun e=>h e.symm)]
   .rw [iN hb,iN hb]
theorem Ly:∀{l:ME},p∈DP k v l->p=(k,v)∨p∈l
 | [],h=>by simp [DP] at h;exact .inl h
 | (x,U)::r,h=>by
  rw [DP] at h
  split at h
  .rcases zlw.1 h with h | h
   .exact .inl h
   .exact .inr (by simp [h])
  .rcases zlw.1 h with h | h
   .exact .inr (by simp [h])
   .rcases Ly h with h | h
    .exact .inl h
    .exact .inr (by simp [h])
theorem WM {x:qB}:∀{l:ME},x∈(DP k v l).map (·.1)->x=k∨x∈l.map (·.1):=fun {l} h=>by
 obtain ⟨p,hp,rfl⟩:=zw.1 h
 rcases Ly hp with rfl | h
 .exact .inl rfl
 .exact .inr (zw.2 ⟨p,h,rfl⟩)
theorem TC {k:qB} {v:AV}:∀{l:ME},KS l->KS (DP k v l)
 | [],h=>by simp [KS,DP]
 | (x,U)::r,h=>by
  simp only [KS,zln,z1z] at h
  rw [DP]
  split
  .rename_i e
   subst e
   simp only [KS,zln,z1z]
   exact h
  .rename_i e
   simp only [KS,zln,z1z]
   exact ⟨fun q=>by
    rcases WM q with q | q
    .exact e q.symm
    .exact h.1 q,TC (l:=r) h.2⟩
theorem OS:∀{l:ME},p∈De k l->p∈l
 | [],h=>by simp [De] at h
 | (x,U)::r,h=>by
  rw [De] at h
  split at h
  .simp [h]
  .rcases zlw.1 h with h | h
   .simp [h]
   .simp [OS h]
theorem TM {k:qB}:∀{l:ME},KS l->KS (De k l)
 | [],h=>by simp [KS,De]
 | (x,U)::r,h=>by
  simp only [KS,zln,z1z] at h
  rw [De]
  split
  .exact h.2
  .simp only [KS,zln,z1z]
   exact ⟨fun q=>by
    obtain ⟨p,hp,e⟩:=zw.1 q
    exact h.1 (zw.2 ⟨p,OS hp,e⟩),TM (l:=r) h.2⟩
theorem KU:∀{l:ME},b ∉ l.map (·.1)->B9 b l=none
 | [],_=>rfl
 | (x,U)::r,h=>by
  simp only [zln,zlw,not_or] at h
  rw [B9,iN h.1,KU h.2]
theorem L6 (b:qB):∀{l:ME},KS l->B9 b (De k l)=if b=k then none else B9 b l
 | [],_=>by simp [De,B9]
 | (x,U)::r,h=>by
  simp only [KS,zln,z1z] at h
  rw [De]
  by_cases e:k=x
  .subst e
   rw [iP rfl,B9]
   by_cases hb:b=k
   .subst hb
    rw [iP rfl,KU h.1]
   .rw [iN hb,iN hb]
  .rw [iN e,B9,B9,L6 b (l:=r) h.2]
   by_cases hb:b=x
   .subst hb
    rw [iP rfl,iP rfl,iN (fun q=>e q.symm)]
   .rw [iN hb,iN hb]
theorem E9:∀{l:ME},KS l->(b,U)∈l->B9 b l=some U
 | [],_,h=>by cases h
 | (x,β)::r,hk,h=>by
  simp only [KS,zln,z1z] at hk
  rw [B9]
  rcases zlw.1 h with h | h
  .cases h
   rw [iP rfl]
  .have hb:¬b=x:=fun e=>hk.1 (by rw [<-e];exact zw.2 ⟨_,h,rfl⟩)
   rw [iN hb]
   exact E9 hk.2 h
theorem IT:∀{l:ME},B9 b l=some U->(b,U)∈l
 | [],h=>by cases h
 | (x,β)::r,h=>by
  rw [B9] at h
  split at h
  .rename_i e;cases h;subst e;simp
  .simp [IT h]
def Fh (l:ME) (sn:List qB):Nat:=(l.filter fun p:qB × AV=>decide (p.1 ∉ sn)).length
theorem Hg {l:ME} {sn:List qB} (h:(b,U)∈l) (hb:b ∉ sn):Fh l (sn++[b])<Fh l sn:=by
 unfold Fh
 induction l with
 |nil=>cases h
 |cons p l ih=>
  have le:∀l:ME,(l.filter fun p:qB×AV=>decide (p.1 ∉ sn++[b])).length<=(l.filter fun p:qB×AV=>decide (p.1 ∉ sn)).length:=fun l=>by
   rw [<-z3p,<-z3p]
   refine List.countP_mono_left fun x _ hx=>?_
   simp only [z1k,z1q,not_or,decide_eq_true_eq] at hx ⊢
   exact hx.1
  rcases zlw.1 h with h | h
  .subst h
   rw [z2s (by simp),z2t (by simpa using hb),zlc]
   have:=le l
   omega
  .have:=ih h
   by_cases c:p.1∈sn
   .rw [z2s (by simp [c]),z2s (by simp [c])]
    exact this
   .rw [z2t (p:=fun p:qB×AV=>decide (p.1 ∉ sn)) (by simpa using c),zlc]
    by_cases c2:p.1=b
    .rw [z2s (by simp [c2])]
     omega
    .rw [z2t (by simp [c,c2]),zlc]
     omega
theorem FX (l:ME) (sn:List qB) (k:qB):Fh (De k l) sn<=Fh l sn:=by
 unfold Fh
 induction l with
 |nil=>exact Nat.le_refl _
 |cons p l ih=>
  obtain ⟨x,U⟩:=p
  rw [De]
  split
  .rw [z19]
   split
   .rw [zlc];omega
   .exact Nat.le_refl _
  .rw [z19,z19]
   split
   .rw [zlc,zlc];omega
   .exact ih
end
set_option maxRecDepth 20000
section
variable {Q R:qB->Bool} {L:ME} {b:qB} {x:Aw} {l:List Aw}
def FU (Q:qB->Bool) (L:ME):Prop:=KS L∧∀b,B9 b L=if Q b=true then some (.b true) else none
theorem FU.nil:FU (fun _=>false) []:=⟨by simp [KS],fun b=>by simp [B9]⟩
theorem FU.put (h:FU Q L) (k:qB) (hR:∀b,R b=(decide (b=k)||Q b)):FU R (DP k (.b true) L):=⟨TC h.1,fun b=>by
 rw [LC,h.2 b,hR b]
 by_cases e:b=k<;>simp [e]⟩
theorem FU.del (h:FU Q L) (k:qB) (hR:∀b,R b=(Q b&&!decide (b=k))):FU R (De k L):=⟨TM h.1,fun b=>by
 rw [L6 b h.1,h.2 b,hR b]
 by_cases e:b=k<;>simp [e]⟩
theorem FU.ext (h:FU Q L) (hR:∀b,R b=Q b):FU R L:=⟨h.1,fun b=>by rw [h.2 b,hR b]⟩
theorem FU.get (h:FU Q L) {U:AV} (hb:(b,U)∈L):Q b=true∧U=.b true:=by
 have:=E9 h.1 hb
 rw [h.2 b] at this
 split at this
 .cases this;exact ⟨by assumption,rfl⟩
 .cases this
theorem FU.mem (h:FU Q L) (hb:Q b=true):(b,.b true)∈L:=by
 have:=h.2 b
 rw [iP hb] at this
 exact IT this
def GD (doc:List Aw) (t:Aw) (name:qB) (b:qB):Bool :=
 if t.k=1 then decide (b=name) else if t.k=2 then doc.any (fun x=>decide (x.n=b)&&decide (name∈Hu x.impl)) else if t.k=3 then decide (b∈F7 t.members) else false
def G6 (doc:List Aw) (t:Aw) (name:qB) (b:qB):Bool:=match Az doc b with
 |none=>true
 |some o=>decide (o.k≠1)||(decide (t.k=2)&&!decide (name∈Hu o.impl))
def Dx (doc:List Aw) (t:Aw) (name:qB) (b:qB):Bool:=GD doc t name b&&!G6 doc t name b
def ET (Q:qB->Bool):List qB->List Aw->List qB
 |out,[]=>out
 |out,x::r=>if Q x.n=true∧x.n ∉ out then ET Q (out++[x.n]) r else ET Q out r
theorem JG:∀{pre:List Aw},x.n ∉ pre.map Aw.n->Az (pre++x::l) x.n=some x
 | [],_=>by rw [List.nil_append,He,iP rfl]
 |y::pre,h=>by
  simp only [zln,zlw,not_or] at h
  rw [List.cons_append,He,iN (fun e=>h.1 e.symm),JG h.2]
theorem Rc {doc pre:List Aw} {t:Aw} {name:qB} (hd:doc=pre++x::l) (hx:x.n ∉ pre.map Aw.n):Dx doc t name x.n=(decide (x.k=1)&&Mp t name x):=by
 have hf:Az doc x.n=some x:=by rw [hd];exact JG hx
 have hm:x∈doc:=by rw [hd];simp
 unfold Dx GD G6 Mp
 rw [hf]
 by_cases k1:x.k=1
 .by_cases t1:t.k=1
  .simp [k1,t1]
  .by_cases t2:t.k=2
   .by_cases c:name∈Hu x.impl
    .have:(doc.any fun y=>decide (y.n=x.n)&&decide (name∈Hu y.impl))=true:=List.any_eq_true.2 ⟨x,hm,by simp [c]⟩
     simp [k1,t2,c,this]
    .simp [k1,t2,c]
   .by_cases t3:t.k=3
    .simp [k1,t3]
    .simp [k1,t1,t2,t3]
 .simp [k1]
theorem Kt (doc:List Aw) (t:Aw) (name:qB):∀(l pre:List Aw) (out:List qB),doc=pre++l->(∀b,b∈out↔b∈pre.map Aw.n∧Dx doc t name b=true) ->
 ET (Dx doc t name) out l=out++GG t name (pre.map Aw.n) l
 | [],pre,out,_,_=>by rw [ET,GG,List.append_nil]
 |x::l,pre,out,hd,ho=>by
  have e:(pre++[x]).map Aw.n=pre.map Aw.n++[x.n]:=by simp
  have hd2:doc=(pre++[x])++l:=by rw [hd];simp
  rw [ET,GG]
  by_cases hs:x.n∈pre.map Aw.n
  .rw [iN (fun h=>h.2 ((ho _).2 ⟨hs,h.1⟩)),iN (fun h=>h.1 hs),<-e]
   refine Kt doc t name l (pre++[x]) out hd2 fun b=>?_
   rw [ho b,e]
   constructor
   .exact fun h=>⟨z3i _ h.1,h.2⟩
   .refine fun h=>⟨?_,h.2⟩
    rcases z1k.1 h.1 with h | h
    .exact h
    .rw [z1q.1 h];exact hs
  .have hm:=Rc (t:=t) (name:=name) hd hs
   have Wa:x.n ∉ out:=fun h=>hs ((ho _).1 h).1
   by_cases c:x.k=1∧Mp t name x=true
   .have hq:Dx doc t name x.n=true:=by rw [hm];simp [c.1,c.2]
    rw [iP ⟨hq,Wa⟩,iP ⟨hs,c.1,c.2⟩,<-e,Kt doc t name l (pre++[x]) (out++[x.n]) hd2 fun b=>?_]
    .rw [List.append_assoc];rfl
    .rw [e,z1k,z1k,ho b]
     constructor
     .rintro (h | h)
      .exact ⟨.inl h.1,h.2⟩
      .rw [z1q.1 h];exact ⟨.inr (by simp),hq⟩
     .rintro ⟨h | h,h2⟩
      .exact .inl ⟨h,h2⟩
      .exact .inr h
   .have hq:¬Dx doc t name x.n=true:=fun h=>by
     rw [hm] at h
     simp only [Bool.and_eq_true,decide_eq_true_eq] at h
     exact c h
    rw [iN (fun h=>hq h.1),iN (fun h=>c ⟨h.2.1,h.2.2⟩),<-e]
    refine Kt doc t name l (pre++[x]) out hd2 fun b=>?_
    rw [ho b,e]
    constructor
    .exact fun h=>⟨z3i _ h.1,h.2⟩
    .refine fun h=>⟨?_,h.2⟩
     rcases z1k.1 h.1 with h' | h'
     .exact h'
     .rw [z1q.1 h'] at h;exact absurd h.2 hq
theorem ZM (doc:List Aw) (name:qB):ET (Dx doc ((Az doc name).getD Dz) name) [] doc=Et doc name:=by
 unfold Et
 cases h:Az doc name with
 |none=>
  have:∀l:List Aw,ET (Dx doc (Option.getD none Dz) name) [] l=[]:=by
   intro l
   induction l with
   |nil=>rw [ET]
   |cons x l ih=>
    rw [ET,iN (fun h=>by
     have:=h.1
     simp [Dx,GD,Dz,Aw.k_mk] at this),ih]
  exact this doc
 |some t=>
  have:=Kt doc t name doc [] [] rfl (fun b=>by simp)
  rw [List.nil_append] at this
  exact this
abbrev D1 (tn:qB) (tw:List Int):AV:=.ag [.s tn,.ds (Ab D0 tw)]
attribute [go_sem] D1
theorem WI (k:Nat):(0<((k+1:Nat):Int))=True:=eq_true (by omega)
theorem Afr (k:Nat):(1<=((k+1:Nat):Int))=True:=eq_true (by omega)
theorem Z5 (x:Int):(x<=x)=True:=eq_true (Int.le_refl x)
theorem Agk (l:List Int):(∀e,e∈Ab D0 l->e.length=1)=True:=eq_true fun e h=>((of_eq_true (PN l)) e h).1
attribute [go_sem] WI Afr Z5 Agk
theorem Ha (l:List Int) (h:l.length<=1000000000000) (hp:CH) (m:Nat):Af prog 149 hp m [.ds (Ab D0 l)] (.ds (Ab D0 l)):=by
 refine Aj func149 (tA cc149) (tB cc149) (tC cc149) rfl fun hf=>?_;unfold ck149
 simp only [go_sem]
 exact ⟨fun e=>by rw [e],by omega,by omega⟩
theorem UX (n:qB) (hp:CH) (m:Nat):Af prog 37 hp m [.s n] (D1 n []):=by
 refine Aj func37 (tA cc37) (tB cc37) (tC cc37) rfl fun hf=>?_;unfold ck37
 simp only [go_sem]
theorem UC (n:qB) (hp:CH) (m:Nat):Af prog 58 hp m [.s n] (D1 n []):=by
 refine Aj func58 (tA cc58) (tB cc58) (tC cc58) rfl fun hf=>?_;unfold ck58
 simp only [go_sem]
theorem Tg:Gk []=false:=rfl
theorem Qf (a:Int) (w:List Int):Gk (a::w)=decide (a=1):=by simp [Gk]
theorem L3 (n:qB) (w:List Int) (hw:w.length<=1000000000000) (hp:CH) (m:Nat):Af prog 73 hp m [D1 n w] (.b (Gk w)):=by
 cases w with
 |nil=>
  rw [Tg]
  refine Aj func73 (tA cc73) (tB cc73) (tC cc73) rfl fun hf=>?_;unfold ck73
  simp only [go_sem]
 |cons a w=>
  rw [Qf]
  refine Aj func73 (tA cc73) (tB cc73) (tC cc73) rfl fun hf=>?_;unfold ck73
  simp only [go_sem]
theorem DE (n:qB) (w:List Int) (hw:w.length<=1000000000000) (hp:CH) (m:Nat):Af prog 101 hp m [D1 n w] (.b (Gk w)):=by
 cases w with
 |nil=>
  rw [Tg]
  refine Aj func101 (tA cc101) (tB cc101) (tC cc101) rfl fun hf=>?_;unfold ck101
  simp only [go_sem]
 |cons a w=>
  rw [Qf]
  refine Aj func101 (tA cc101) (tB cc101) (tC cc101) rfl fun hf=>?_;unfold ck101
  simp only [go_sem]
theorem Gd (n:qB) (w:List Int) (hw:w.length<=1000000000000) (hp:CH) (m:Nat):Af prog 108 hp m [D1 n w] (D1 n (Cp w)):=by
 have h1:=L3 n w hw
 unfold Cp
 by_cases c:Gk w=true
 .rw [iP c]
  rw [c] at h1
  cases w with
  |nil=>cases c
  |cons a w=>
   simp only [zlc] at hw
   refine Aj func108 (tA cc108) (tB cc108) (tC cc108) rfl fun hf=>?_;unfold ck108
   simp only [go_sem]
   refine Ac.f (h1 _ _) ?_
   simp only [go_sem]
   first | refine Aq.f (fun _ _ _=>Ha w (by omega) _ _) ?_ | refine AC.f (fun _ _ _=>Ha w (by omega) _ _) ?_
   simp only [go_sem]
   rfl
 .rw [iN c]
  have c:Gk w=false:=by simpa using c
  rw [c] at h1
  refine Aj func108 (tA cc108) (tB cc108) (tC cc108) rfl fun hf=>?_;unfold ck108
  simp only [go_sem]
  refine Ac.f (h1 _ _) ?_
  simp only [go_sem]
  first | refine Aq.f (fun _ _ _=>Ha w hw _ _) ?_ | refine AC.f (fun _ _ _=>Ha w hw _ _) ?_
  simp only [go_sem]
theorem TQ (n:qB) (a:Int) (w:List Int) (hw:w.length<=1000000000000) (hp:CH) (m:Nat):Af prog 148 hp m [D1 n (a::w)] (D1 n w):=by
 refine Aj func148 (tA cc148) (tB cc148) (tC cc148) rfl fun hf=>?_;unfold ck148
 simp only [go_sem]
 exact ⟨by omega,by omega⟩
theorem D8 (n:qB) (w:List Int) (hw:w.length<=1000000000000) (hp:CH) (m:Nat):Af prog 104 hp m [D1 n w] (D1 n (Cp w)):=by
 have h1:=DE n w hw
 unfold Cp
 by_cases c:Gk w=true
 .rw [iP c]
  rw [c] at h1
  cases w with
  |nil=>cases c
  |cons a w=>
   simp only [zlc] at hw
   refine Aj func104 (tA cc104) (tB cc104) (tC cc104) rfl fun hf=>?_;unfold ck104
   simp only [go_sem]
   refine Ac.f (h1 _ _) ?_
   simp only [go_sem]
   refine Ac.f (TQ n a w (by omega) _ _) ?_
   simp only [go_sem]
   rfl
 .rw [iN c]
  have c:Gk w=false:=by simpa using c
  rw [c] at h1
  refine Aj func104 (tA cc104) (tB cc104) (tC cc104) rfl fun hf=>?_;unfold ck104
  simp only [go_sem]
  refine Ac.f (h1 _ _) ?_
  simp only [go_sem]
  exact ⟨by omega,by omega⟩
theorem NB (w:List Int):Cu w=decide ((Cp w).head?=some 2):=rfl
theorem Ld (n:qB) (w:List Int) (hw:w.length<=1000000000000) (hp:CH) (m:Nat):Af prog 109 hp m [D1 n w] (.b (Cu w)):=by
 have h1:=Gd n w hw
 have h2:=C8 w
 rw [NB]
 obtain ⟨u,hu⟩:=A5 (Cp w)
 rw [hu] at h1 h2 ⊢
 cases u with
 |nil=>
  refine Aj func109 (tA cc109) (tB cc109) (tC cc109) rfl fun hf=>?_;unfold ck109
  simp only [go_sem]
  refine Ac.f (h1 _ _) ?_
  simp only [go_sem]
  simp
 |cons a u=>
  simp only [zlc] at h2
  have e:decide ((a::u).head?=some 2)=decide (a=2):=by simp
  rw [e]
  refine Aj func109 (tA cc109) (tB cc109) (tC cc109) rfl fun hf=>?_;unfold ck109
  simp only [go_sem]
  refine Ac.f (h1 _ _) ?_
  simp only [go_sem]
theorem KF (n:qB) (w:List Int) (hw:w.length<=1000000000000) (hp:CH) (m:Nat):Af prog 137 hp m [D1 n w] (.b (Cu w)):=by
 have h1:=D8 n w hw
 have h2:=C8 w
 rw [NB]
 obtain ⟨u,hu⟩:=A5 (Cp w)
 rw [hu] at h1 h2 ⊢
 cases u with
 |nil=>
  refine Aj func137 (tA cc137) (tB cc137) (tC cc137) rfl fun hf=>?_;unfold ck137
  simp only [go_sem]
  refine Ac.f (h1 _ _) ?_
  simp only [go_sem]
  simp
 |cons a u=>
  simp only [zlc] at h2
  have e:decide ((a::u).head?=some 2)=decide (a=2):=by simp
  rw [e]
  refine Aj func137 (tA cc137) (tB cc137) (tC cc137) rfl fun hf=>?_;unfold ck137
  simp only [go_sem]
  refine Ac.f (h1 _ _) ?_
  simp only [go_sem]
theorem Pc {w:List Int} (h:Cu w=true):∃u,Cp w=2::u∧DM w=u:=by
 rw [NB] at h
 unfold DM
 cases e:Cp w with
 |nil=>rw [e] at h;simp at h
 |cons a u=>rw [e] at h;simp at h;exact ⟨u,by rw [h],rfl⟩
theorem MJ (n:qB) (w:List Int) (hw:w.length<=1000000000000) (hp:CH) (m:Nat):Af prog 99 hp m [D1 n w] (if Cu w=true then .tp [D1 n (DM w),.b true] else .tp [D1 ⟨#[]⟩ [],.b false]):=by
 have h1:=Ld n w hw
 have h2:=Gd n w hw
 have h3:=C8 w
 by_cases c:Cu w=true
 .rw [iP c]
  obtain ⟨u,e1,e2⟩:=Pc c
  rw [c] at h1
  rw [e1] at h2 h3
  rw [e2]
  simp only [zlc] at h3
  refine Aj func99 (tA cc99) (tB cc99) (tC cc99) rfl fun hf=>?_;unfold ck99
  simp only [go_sem]
  refine Ac.f (h1 _ _) ?_
  simp only [go_sem]
  refine Ac.f (h2 _ _) ?_
  simp only [go_sem]
 .rw [iN c]
  have c:Cu w=false:=by simpa using c
  rw [c] at h1
  refine Aj func99 (tA cc99) (tB cc99) (tC cc99) rfl fun hf=>?_;unfold ck99
  simp only [go_sem]
  refine Ac.f (h1 _ _) ?_
  simp only [go_sem]
theorem FF (n:qB) (w:List Int) (hw:w.length<=1000000000000) (hp:CH) (m:Nat):Af prog 106 hp m [D1 n w] (if Cu w=true then .tp [D1 n (DM w),.b true] else .tp [D1 ⟨#[]⟩ [],.b false]):=by
 have h1:=KF n w hw
 have h2:=D8 n w hw
 have h3:=C8 w
 by_cases c:Cu w=true
 .rw [iP c]
  obtain ⟨u,e1,e2⟩:=Pc c
  rw [c] at h1
  rw [e1] at h2 h3
  rw [e2]
  simp only [zlc] at h3
  refine Aj func106 (tA cc106) (tB cc106) (tC cc106) rfl fun hf=>?_;unfold ck106
  simp only [go_sem]
  refine Ac.f (h1 _ _) ?_
  simp only [go_sem]
  refine Ac.f (h2 _ _) ?_
  simp only [go_sem]
  refine Ac.f (TQ n 2 u (by omega) _ _) ?_
  simp only [go_sem]
 .rw [iN c]
  have c:Cu w=false:=by simpa using c
  rw [c] at h1
  refine Aj func106 (tA cc106) (tB cc106) (tC cc106) rfl fun hf=>?_;unfold ck106
  simp only [go_sem]
  refine Ac.f (h1 _ _) ?_
  simp only [go_sem]
theorem Yz (l:List Aw) (hl:l.length<=1000000000000) (n:qB) (hp:CH) (m:Nat):Af prog 111 hp m [B0 l,.s n] (.b (Ex l n)):=by
 unfold Ex
 refine Aj func111 (tA cc111) (tB cc111) (tC cc111) rfl fun hf=>?_;unfold ck111
 simp only [go_sem]
 refine Ac.f (HI n _ _) ?_
 simp only [go_sem]
 refine AH.f (fun _=>TP l hl n _ _) ?_
 simp only [go_sem]
theorem Io (l:List Aw) (hl:l.length<=1000000000000) (n:qB) (hp:CH) (m:Nat):Af prog 142 hp m [B0 l,.s n] (.b (Ex l n)):=by
 have h1:=BI l hl n
 have e:Ex l n=(BU n||((Az l n).isSome&&decide (((Az l n).getD Dz).k=4))):=by
  unfold Ex Ff
  cases Az l n<;>simp
 rw [e]
 obtain ⟨R,hR⟩:=A5 (Az l n)
 rw [hR] at h1 ⊢
 rw [Eh] at h1
 refine Aj func142 (tA cc142) (tB cc142) (tC cc142) rfl fun hf=>?_;unfold ck142
 simp only [go_sem]
 refine Ac.f (h1 _ _) ?_
 simp only [go_sem]
 refine Ac.f (CP n _ _) ?_
 simp only [go_sem]
end
