/- Proof. Conditions: none. -/
import Derived.Test.YtgfidgoefioigaaGreatDoorIi22
open Go.Proofs.Tryz
open List renaming length_cons→zlc,map_cons→zln,mem_cons→zlw
namespace Go.Proofs.YtgfidgoefioigaaGreatDoor
open Go.Eng
set_option linter.all false
abbrev ME:=List (ByteArray × AV)
def KS (l:ME):Prop:=(l.map (·.1)).Nodup
theorem Jf (b k:ByteArray) (v:AV):∀l:ME,By b (Dg k v l)=if b=k then some v else By b l
 | []=>by simp [Dg,By]
 | (x,α)::r=>by
  rw [Dg]
  by_cases h:k=x
  .subst h
   rw [if_pos rfl,By,By]
   split<;>rfl
  .rw [if_neg h,By,By,Jf b k v r]
   by_cases hb:b=x
   .subst hb
    rw [if_pos rfl,if_pos rfl,if_neg (fun e=>h e.symm)]
   .rw [if_neg hb,if_neg hb]
theorem J9 {k:ByteArray} {v:AV} {p:ByteArray × AV}:∀{l:ME},p∈Dg k v l→p=(k,v)∨p∈l
 | [],h=>by simp [Dg] at h;exact .inl h
 | (x,α)::r,h=>by
  rw [Dg] at h
  split at h
  .rcases zlw.1 h with h | h
   .exact .inl h
   .exact .inr (by simp [h])
  .rcases zlw.1 h with h | h
   .exact .inr (by simp [h])
   .rcases J9 h with h | h
    .exact .inl h
    .exact .inr (by simp [h])
theorem UK {k:ByteArray} {v:AV} {x:ByteArray}:∀{l:ME},x∈(Dg k v l).map (·.1)→x=k∨x∈l.map (·.1):=fun {l} h=>by
 obtain ⟨p,hp,rfl⟩:=List.mem_map.1 h
 rcases J9 hp with rfl | h
 .exact .inl rfl
 .exact .inr (List.mem_map.2 ⟨p,h,rfl⟩)
theorem PW {k:ByteArray} {v:AV}:∀{l:ME},KS l→KS (Dg k v l)
 | [],h=>by simp [KS,Dg]
 | (x,α)::r,h=>by
  simp only [KS,zln,List.nodup_cons] at h
  rw [Dg]
  split
  .rename_i e
   subst e
   simp only [KS,zln,List.nodup_cons]
   exact h
  .rename_i e
   simp only [KS,zln,List.nodup_cons]
   exact ⟨fun q=>by
    rcases UK q with q | q
    .exact e q.symm
    .exact h.1 q,PW (l:=r) h.2⟩
theorem Nj {k:ByteArray} {p:ByteArray × AV}:∀{l:ME},p∈C3 k l→p∈l
 | [],h=>by simp [C3] at h
 | (x,α)::r,h=>by
  rw [C3] at h
  split at h
  .simp [h]
  .rcases zlw.1 h with h | h
   .simp [h]
   .simp [Nj h]
theorem PP {k:ByteArray}:∀{l:ME},KS l→KS (C3 k l)
 | [],h=>by simp [KS,C3]
 | (x,α)::r,h=>by
  simp only [KS,zln,List.nodup_cons] at h
  rw [C3]
  split
  .exact h.2
  .simp only [KS,zln,List.nodup_cons]
   exact ⟨fun q=>by
    obtain ⟨p,hp,e⟩:=List.mem_map.1 q
    exact h.1 (List.mem_map.2 ⟨p,Nj hp,e⟩),PP (l:=r) h.2⟩
theorem Jy {b:ByteArray}:∀{l:ME},b ∉ l.map (·.1)→By b l=none
 | [],_=>rfl
 | (x,α)::r,h=>by
  simp only [zln,zlw,not_or] at h
  rw [By,if_neg h.1,Jy h.2]
theorem JD {k:ByteArray} (b:ByteArray):∀{l:ME},KS l→By b (C3 k l)=if b=k then none else By b l
 | [],_=>by simp [C3,By]
 | (x,α)::r,h=>by
  simp only [KS,zln,List.nodup_cons] at h
  rw [C3]
  by_cases e:k=x
  .subst e
   rw [if_pos rfl,By]
   by_cases hb:b=k
   .subst hb
    rw [if_pos rfl,Jy h.1]
   .rw [if_neg hb,if_neg hb]
  .rw [if_neg e,By,By,JD b (l:=r) h.2]
   by_cases hb:b=x
   .subst hb
    rw [if_pos rfl,if_pos rfl,if_neg (fun q=>e q.symm)]
   .rw [if_neg hb,if_neg hb]
theorem DJ {b:ByteArray} {α:AV}:∀{l:ME},KS l→(b,α)∈l→By b l=some α
 | [],_,h=>by cases h
 | (x,β)::r,hk,h=>by
  simp only [KS,zln,List.nodup_cons] at hk
  rw [By]
  rcases zlw.1 h with h | h
  .cases h
   rw [if_pos rfl]
  .have hb:¬b=x:=fun e=>hk.1 (by rw [←e];exact List.mem_map.2 ⟨_,h,rfl⟩)
   rw [if_neg hb]
   exact DJ hk.2 h
theorem HH {b:ByteArray} {α:AV}:∀{l:ME},By b l=some α→(b,α)∈l
 | [],h=>by cases h
 | (x,β)::r,h=>by
  rw [By] at h
  split at h
  .rename_i e;cases h;subst e;simp
  .simp [HH h]
def Ey (l:ME) (sn:List ByteArray):Nat:=(l.filter fun p:ByteArray × AV=>decide (p.1 ∉ sn)).length
theorem FP {l:ME} {sn:List ByteArray} {b:ByteArray} {α:AV} (h:(b,α)∈l) (hb:b ∉ sn):Ey l (sn++[b])<Ey l sn:=by
 unfold Ey
 induction l with
 | nil=>cases h
 | cons p l ih =>
  have le:∀l:ME,(l.filter fun p:ByteArray × AV=>decide (p.1 ∉ sn++[b])).length≤(l.filter fun p:ByteArray × AV=>decide (p.1 ∉ sn)).length:=fun l=>by
   rw [←List.countP_eq_length_filter,←List.countP_eq_length_filter]
   refine List.countP_mono_left fun x _ hx=>?_
   simp only [List.mem_append,List.mem_singleton,not_or,decide_eq_true_eq] at hx ⊢
   exact hx.1
  rcases zlw.1 h with h | h
  .subst h
   rw [List.filter_cons_of_neg (by simp),List.filter_cons_of_pos (by simpa using hb),zlc]
   have:=le l
   omega
  .have:=ih h
   by_cases c:p.1∈sn
   .rw [List.filter_cons_of_neg (by simp [c]),List.filter_cons_of_neg (by simp [c])]
    exact this
   .rw [List.filter_cons_of_pos (p:=fun p:ByteArray × AV=>decide (p.1 ∉ sn)) (by simpa using c),zlc]
    by_cases c2:p.1=b
    .rw [List.filter_cons_of_neg (by simp [c2])]
     omega
    .rw [List.filter_cons_of_pos (by simp [c,c2]),zlc]
     omega
theorem EX (l:ME) (sn:List ByteArray) (k:ByteArray):Ey (C3 k l) sn≤Ey l sn:=by
 unfold Ey
 induction l with
 | nil=>exact Nat.le_refl _
 | cons p l ih =>
  obtain ⟨x,α⟩:=p
  rw [C3]
  split
  .rw [List.filter_cons]
   split
   .rw [zlc];omega
   .exact Nat.le_refl _
  .rw [List.filter_cons,List.filter_cons]
   split
   .rw [zlc,zlc];omega
   .exact ih
set_option maxRecDepth 20000
def EW (Q:ByteArray→Bool) (L:ME):Prop:=KS L∧∀b,By b L=if Q b=true then some (.b true) else none
theorem EW.nil:EW (fun _=>false) []:=⟨by simp [KS],fun b=>by simp [By]⟩
theorem EW.put {Q R:ByteArray→Bool} {L:ME} (h:EW Q L) (k:ByteArray) (hR:∀b,R b=(decide (b=k)||Q b)):EW R (Dg k (.b true) L):=⟨PW h.1,fun b=>by
 rw [Jf,h.2 b,hR b]
 by_cases e:b=k<;>simp [e]⟩
theorem EW.del {Q R:ByteArray→Bool} {L:ME} (h:EW Q L) (k:ByteArray) (hR:∀b,R b=(Q b&&!decide (b=k))):EW R (C3 k L):=⟨PP h.1,fun b=>by
 rw [JD b h.1,h.2 b,hR b]
 by_cases e:b=k<;>simp [e]⟩
theorem EW.ext {Q R:ByteArray→Bool} {L:ME} (h:EW Q L) (hR:∀b,R b=Q b):EW R L:=⟨h.1,fun b=>by rw [h.2 b,hR b]⟩
theorem EW.get {Q:ByteArray→Bool} {L:ME} (h:EW Q L) {b:ByteArray} {α:AV} (hb:(b,α)∈L):Q b=true∧α=.b true:=by
 have:=DJ h.1 hb
 rw [h.2 b] at this
 split at this
 .cases this;exact ⟨by assumption,rfl⟩
 .cases this
theorem EW.mem {Q:ByteArray→Bool} {L:ME} (h:EW Q L) {b:ByteArray} (hb:Q b=true):(b,.b true)∈L:=by
 have:=h.2 b
 rw [if_pos hb] at this
 exact HH this
noncomputable def Fq (doc:List Az) (t:Az) (name:ByteArray) (b:ByteArray):Bool :=
 if t.k=1 then decide (b=name) else if t.k=2 then doc.any (fun x=>decide (x.n=b)&&decide (name∈Gg x.impl)) else if t.k=3 then decide (b∈Fh t.members) else false
noncomputable def F8 (doc:List Az) (t:Az) (name:ByteArray) (b:ByteArray):Bool:=match A1 doc b with
 | none=>true
 | some o=>decide (o.k≠1)||(decide (t.k=2)&&!decide (name∈Gg o.impl))
noncomputable def CL (doc:List Az) (t:Az) (name:ByteArray) (b:ByteArray):Bool:=Fq doc t name b&&!F8 doc t name b
noncomputable def El (Q:ByteArray→Bool):List ByteArray→List Az→List ByteArray
 | out,[]=>out
 | out,x::r=>if Q x.n=true∧x.n ∉ out then El Q (out++[x.n]) r else El Q out r
theorem HL {x:Az} {l:List Az}:∀{pre:List Az},x.n ∉ pre.map Az.n→A1 (pre++x::l) x.n=some x
 | [],_=>by rw [List.nil_append,FO,if_pos rfl]
 | y::pre,h=>by
  simp only [zln,zlw,not_or] at h
  rw [List.cons_append,FO,if_neg (fun e=>h.1 e.symm),HL h.2]
theorem OP {doc pre l:List Az} {t x:Az} {name:ByteArray} (hd:doc=pre++x::l) (hx:x.n ∉ pre.map Az.n):CL doc t name x.n=(decide (x.k=1)&&Kg t name x):=by
 have hf:A1 doc x.n=some x:=by rw [hd];exact HL hx
 have hm:x∈doc:=by rw [hd];simp
 unfold CL Fq F8 Kg
 rw [hf]
 by_cases k1:x.k=1
 .by_cases t1:t.k=1
  .simp [k1,t1]
  .by_cases t2:t.k=2
   .by_cases c:name∈Gg x.impl
    .have:(doc.any fun y=>decide (y.n=x.n)&&decide (name∈Gg y.impl))=true:=List.any_eq_true.2 ⟨x,hm,by simp [c]⟩
     simp [k1,t2,c,this]
    .simp [k1,t2,c]
   .by_cases t3:t.k=3
    .simp [k1,t3]
    .simp [k1,t1,t2,t3]
 .simp [k1]
theorem I1 (doc:List Az) (t:Az) (name:ByteArray):∀(l pre:List Az) (out:List ByteArray),doc=pre++l→(∀b,b∈out↔b∈pre.map Az.n∧CL doc t name b=true) →
  El (CL doc t name) out l=out++FF t name (pre.map Az.n) l
 | [],pre,out,_,_=>by rw [El,FF,List.append_nil]
 | x::l,pre,out,hd,ho=>by
  have e:(pre++[x]).map Az.n=pre.map Az.n++[x.n]:=by simp
  have hd2:doc=(pre++[x])++l:=by rw [hd];simp
  rw [El,FF]
  by_cases hs:x.n∈pre.map Az.n
  .rw [if_neg (fun h=>h.2 ((ho _).2 ⟨hs,h.1⟩)),if_neg (fun h=>h.1 hs),←e]
   refine I1 doc t name l (pre++[x]) out hd2 fun b=>?_
   rw [ho b,e]
   constructor
   .exact fun h=>⟨List.mem_append_left _ h.1,h.2⟩
   .refine fun h=>⟨?_,h.2⟩
    rcases List.mem_append.1 h.1 with h | h
    .exact h
    .rw [List.mem_singleton.1 h];exact hs
  .have hm:=OP (t:=t) (name:=name) hd hs
   have hno:x.n ∉ out:=fun h=>hs ((ho _).1 h).1
   by_cases c:x.k=1∧Kg t name x=true
   .have hq:CL doc t name x.n=true:=by rw [hm];simp [c.1,c.2]
    rw [if_pos ⟨hq,hno⟩,if_pos ⟨hs,c.1,c.2⟩,←e,I1 doc t name l (pre++[x]) (out++[x.n]) hd2 fun b=>?_]
    .rw [List.append_assoc];rfl
    .rw [e,List.mem_append,List.mem_append,ho b]
     constructor
     .rintro (h | h)
      .exact ⟨.inl h.1,h.2⟩
      .rw [List.mem_singleton.1 h];exact ⟨.inr (by simp),hq⟩
     .rintro ⟨h | h,h2⟩
      .exact .inl ⟨h,h2⟩
      .exact .inr h
   .have hq:¬CL doc t name x.n=true:=fun h=>by
     rw [hm] at h
     simp only [Bool.and_eq_true,decide_eq_true_eq] at h
     exact c h
    rw [if_neg (fun h=>hq h.1),if_neg (fun h=>c ⟨h.2.1,h.2.2⟩),←e]
    refine I1 doc t name l (pre++[x]) out hd2 fun b=>?_
    rw [ho b,e]
    constructor
    .exact fun h=>⟨List.mem_append_left _ h.1,h.2⟩
    .refine fun h=>⟨?_,h.2⟩
     rcases List.mem_append.1 h.1 with h' | h'
     .exact h'
     .rw [List.mem_singleton.1 h'] at h;exact absurd h.2 hq
theorem Xq (doc:List Az) (name:ByteArray):El (CL doc ((A1 doc name).getD Dv) name) [] doc=En doc name:=by
 unfold En
 cases h:A1 doc name with
 | none =>
  have:∀l:List Az,El (CL doc (Option.getD none Dv) name) [] l=[]:=by
   intro l
   induction l with
   | nil=>rw [El]
   | cons x l ih =>
    rw [El,if_neg (fun h=>by
     have:=h.1
     simp [CL,Fq,Dv,Az.k_mk] at this),ih]
  exact this doc
 | some t =>
  have:=I1 doc t name doc [] [] rfl (fun b=>by simp)
  rw [List.nil_append] at this
  exact this
abbrev DC (tn:ByteArray) (tw:List Int):AV:=.ag [.s tn,.ds (Ad Dx tw)]
attribute [go_sem] DC
theorem Uq (k:Nat):(0<((k+1:Nat):Int))=True:=eq_true (by omega)
theorem YL (k:Nat):(1≤((k+1:Nat):Int))=True:=eq_true (by omega)
theorem W9 (x:Int):(x≤x)=True:=eq_true (Int.le_refl x)
theorem Zu (l:List Int):(∀e,e∈Ad Dx l→e.length=1)=True:=eq_true fun e h=>((of_eq_true (Nl l)) e h).1
attribute [go_sem] Uq YL W9 Zu
theorem Ga (l:List Int) (h:l.length≤1000000000000) (hp:CH) (m:Nat):Ah prog 149 hp m [.ds (Ad Dx l)] (.ds (Ad Dx l)):=by
 refine Am func149 (by kernel_rfl) cc149 cr149 rfl fun hf=>?_;unfold ck149
 simp only [go_sem]
 exact ⟨fun e=>by rw [e],by omega,by omega⟩
theorem RQ (n:ByteArray) (hp:CH) (m:Nat):Ah prog 37 hp m [.s n] (DC n []):=by
 refine Am func37 (by kernel_rfl) cc37 cr37 rfl fun hf=>?_;unfold ck37
 simp only [go_sem]
theorem Qk:FSw []=false:=rfl
theorem MB (a:Int) (w:List Int):FSw (a::w)=decide (a=1):=by simp [FSw]
theorem I7 (n:ByteArray) (w:List Int) (hw:w.length≤1000000000000) (hp:CH) (m:Nat):Ah prog 73 hp m [DC n w] (.b (FSw w)):=by
 cases w with
 | nil =>
  rw [Qk]
  refine Am func73 (by kernel_rfl) cc73 cr73 rfl fun hf=>?_;unfold ck73
  simp only [go_sem]
 | cons a w =>
  rw [MB]
  refine Am func73 (by kernel_rfl) cc73 cr73 rfl fun hf=>?_;unfold ck73
  simp only [go_sem]
theorem D0 (n:ByteArray) (w:List Int) (hw:w.length≤1000000000000) (hp:CH) (m:Nat):Ah prog 101 hp m [DC n w] (.b (FSw w)):=by
 cases w with
 | nil =>
  rw [Qk]
  refine Am func101 (by kernel_rfl) cc101 cr101 rfl fun hf=>?_;unfold ck101
  simp only [go_sem]
 | cons a w =>
  rw [MB]
  refine Am func101 (by kernel_rfl) cc101 cr101 rfl fun hf=>?_;unfold ck101
  simp only [go_sem]
theorem EY (n:ByteArray) (w:List Int) (hw:w.length≤1000000000000) (hp:CH) (m:Nat):Ah prog 108 hp m [DC n w] (DC n (Cz w)):=by
 have h1:=I7 n w hw
 unfold Cz
 by_cases c:FSw w=true
 .rw [if_pos c]
  rw [c] at h1
  cases w with
  | nil=>cases c
  | cons a w =>
   simp only [zlc] at hw
   refine Am func108 (by kernel_rfl) cc108 cr108 rfl fun hf=>?_;unfold ck108
   simp only [go_sem]
   refine Af.f (h1 _ _) ?_
   simp only [go_sem]
   first | refine A3.f (fun _ _ _=>Ga w (by omega) _ _) ?_ | refine AG.f (fun _ _ _=>Ga w (by omega) _ _) ?_
   simp only [go_sem]
   rfl
 .rw [if_neg c]
  have c:FSw w=false:=by simpa using c
  rw [c] at h1
  refine Am func108 (by kernel_rfl) cc108 cr108 rfl fun hf=>?_;unfold ck108
  simp only [go_sem]
  refine Af.f (h1 _ _) ?_
  simp only [go_sem]
  first | refine A3.f (fun _ _ _=>Ga w hw _ _) ?_ | refine AG.f (fun _ _ _=>Ga w hw _ _) ?_
  simp only [go_sem]
theorem PG (n:ByteArray) (a:Int) (w:List Int) (hw:w.length≤1000000000000) (hp:CH) (m:Nat):Ah prog 148 hp m [DC n (a::w)] (DC n w):=by
 refine Am func148 (by kernel_rfl) cc148 cr148 rfl fun hf=>?_;unfold ck148
 simp only [go_sem]
 exact ⟨by omega,by omega⟩
theorem DE (n:ByteArray) (w:List Int) (hw:w.length≤1000000000000) (hp:CH) (m:Nat):Ah prog 104 hp m [DC n w] (DC n (Cz w)):=by
 have h1:=D0 n w hw
 unfold Cz
 by_cases c:FSw w=true
 .rw [if_pos c]
  rw [c] at h1
  cases w with
  | nil=>cases c
  | cons a w =>
   simp only [zlc] at hw
   refine Am func104 (by kernel_rfl) cc104 cr104 rfl fun hf=>?_;unfold ck104
   simp only [go_sem]
   refine Af.f (h1 _ _) ?_
   simp only [go_sem]
   refine Af.f (PG n a w (by omega) _ _) ?_
   simp only [go_sem]
   rfl
 .rw [if_neg c]
  have c:FSw w=false:=by simpa using c
  rw [c] at h1
  refine Am func104 (by kernel_rfl) cc104 cr104 rfl fun hf=>?_;unfold ck104
  simp only [go_sem]
  refine Af.f (h1 _ _) ?_
  simp only [go_sem]
  exact ⟨by omega,by omega⟩
theorem Lg (w:List Int):CK w=decide ((Cz w).head?=some 2):=rfl
theorem J8 (n:ByteArray) (w:List Int) (hw:w.length≤1000000000000) (hp:CH) (m:Nat):Ah prog 109 hp m [DC n w] (.b (CK w)):=by
 have h1:=EY n w hw
 have h2:=Cs w
 rw [Lg]
 obtain ⟨u,hu⟩:∃u,Cz w=u:=⟨_,rfl⟩
 rw [hu] at h1 h2 ⊢
 cases u with
 | nil =>
  refine Am func109 (by kernel_rfl) cc109 cr109 rfl fun hf=>?_;unfold ck109
  simp only [go_sem]
  refine Af.f (h1 _ _) ?_
  simp only [go_sem]
  simp
 | cons a u =>
  simp only [zlc] at h2
  have e:decide ((a::u).head?=some 2)=decide (a=2):=by simp
  rw [e]
  refine Am func109 (by kernel_rfl) cc109 cr109 rfl fun hf=>?_;unfold ck109
  simp only [go_sem]
  refine Af.f (h1 _ _) ?_
  simp only [go_sem]
theorem J1 (n:ByteArray) (w:List Int) (hw:w.length≤1000000000000) (hp:CH) (m:Nat):Ah prog 137 hp m [DC n w] (.b (CK w)):=by
 have h1:=DE n w hw
 have h2:=Cs w
 rw [Lg]
 obtain ⟨u,hu⟩:∃u,Cz w=u:=⟨_,rfl⟩
 rw [hu] at h1 h2 ⊢
 cases u with
 | nil =>
  refine Am func137 (by kernel_rfl) cc137 cr137 rfl fun hf=>?_;unfold ck137
  simp only [go_sem]
  refine Af.f (h1 _ _) ?_
  simp only [go_sem]
  simp
 | cons a u =>
  simp only [zlc] at h2
  have e:decide ((a::u).head?=some 2)=decide (a=2):=by simp
  rw [e]
  refine Am func137 (by kernel_rfl) cc137 cr137 rfl fun hf=>?_;unfold ck137
  simp only [go_sem]
  refine Af.f (h1 _ _) ?_
  simp only [go_sem]
theorem MA {w:List Int} (h:CK w=true):∃u,Cz w=2::u∧DT w=u:=by
 rw [Lg] at h
 unfold DT
 cases e:Cz w with
 | nil=>rw [e] at h;simp at h
 | cons a u=>rw [e] at h;simp at h;exact ⟨u,by rw [h],rfl⟩
theorem Ro (n:ByteArray) (w:List Int) (hw:w.length≤1000000000000) (hp:CH) (m:Nat):Ah prog 99 hp m [DC n w] (if CK w=true then .tp [DC n (DT w),.b true] else .tp [DC ⟨#[]⟩ [],.b false]):=by
 have h1:=J8 n w hw
 have h2:=EY n w hw
 have h3:=Cs w
 by_cases c:CK w=true
 .rw [if_pos c]
  obtain ⟨u,e1,e2⟩:=MA c
  rw [c] at h1
  rw [e1] at h2 h3
  rw [e2]
  simp only [zlc] at h3
  refine Am func99 (by kernel_rfl) cc99 cr99 rfl fun hf=>?_;unfold ck99
  simp only [go_sem]
  refine Af.f (h1 _ _) ?_
  simp only [go_sem]
  refine Af.f (h2 _ _) ?_
  simp only [go_sem]
 .rw [if_neg c]
  have c:CK w=false:=by simpa using c
  rw [c] at h1
  refine Am func99 (by kernel_rfl) cc99 cr99 rfl fun hf=>?_;unfold ck99
  simp only [go_sem]
  refine Af.f (h1 _ _) ?_
  simp only [go_sem]
theorem Hv (n:ByteArray) (w:List Int) (hw:w.length≤1000000000000) (hp:CH) (m:Nat):Ah prog 106 hp m [DC n w] (if CK w=true then .tp [DC n (DT w),.b true] else .tp [DC ⟨#[]⟩ [],.b false]):=by
 have h1:=J1 n w hw
 have h2:=DE n w hw
 have h3:=Cs w
 by_cases c:CK w=true
 .rw [if_pos c]
  obtain ⟨u,e1,e2⟩:=MA c
  rw [c] at h1
  rw [e1] at h2 h3
  rw [e2]
  simp only [zlc] at h3
  refine Am func106 (by kernel_rfl) cc106 cr106 rfl fun hf=>?_;unfold ck106
  simp only [go_sem]
  refine Af.f (h1 _ _) ?_
  simp only [go_sem]
  refine Af.f (h2 _ _) ?_
  simp only [go_sem]
  refine Af.f (PG n 2 u (by omega) _ _) ?_
  simp only [go_sem]
 .rw [if_neg c]
  have c:CK w=false:=by simpa using c
  rw [c] at h1
  refine Am func106 (by kernel_rfl) cc106 cr106 rfl fun hf=>?_;unfold ck106
  simp only [go_sem]
  refine Af.f (h1 _ _) ?_
  simp only [go_sem]
theorem Ui (l:List Az) (hl:l.length≤1000000000000) (n:ByteArray) (hp:CH) (m:Nat):Ah prog 111 hp m [B5 l,.s n] (.b (E9 l n)):=by
 unfold E9
 refine Am func111 (by kernel_rfl) cc111 cr111 rfl fun hf=>?_;unfold ck111
 simp only [go_sem]
 refine Af.f (G9 n _ _) ?_
 simp only [go_sem]
 refine AA.f (fun _=>Qj l hl n _ _) ?_
 simp only [go_sem]
theorem ML (l:List Az) (hl:l.length≤1000000000000) (n:ByteArray) (hp:CH) (m:Nat):Ah prog 142 hp m [B5 l,.s n] (.b (E9 l n)):=by
 have h1:=BM l hl n
 have e:E9 l n=(Ck n||((A1 l n).isSome&&decide (((A1 l n).getD Dv).k=4))):=by
  unfold E9 Ft
  cases A1 l n<;>simp
 rw [e]
 obtain ⟨R,hR⟩:∃R,A1 l n=R:=⟨_,rfl⟩
 rw [hR] at h1 ⊢
 rw [DH] at h1
 refine Am func142 (by kernel_rfl) cc142 cr142 rfl fun hf=>?_;unfold ck142
 simp only [go_sem]
 refine Af.f (h1 _ _) ?_
 simp only [go_sem]
 refine Af.f (Ds n _ _) ?_
 simp only [go_sem]
end Go.Proofs.YtgfidgoefioigaaGreatDoor
