/- Proof. Conditions: none. -/
import Derived.Test.YtgfidgoefioigaaGreatDoorIk14
open List renaming append_nil->zj
open List renaming mem_of_getElem?->zla,getElem?_eq_some_iff->zlb,append_assoc->zlf,getElem?_eq_getElem->zlg,nil_append->zli
open Nat renaming lt_or_ge->znb
namespace Go.Eng
set_option linter.all false
abbrev D5:=List (Option (Nat × Nat))
section
variable {ρ':RO} {n k i:Nat} {sel:D5}
def AV.lt1 (n:Nat):AV->Prop
 | .bx k _=>k<n
 | .rw k _ _=>k<n
 | .rf k _ _ _ _=>k<n
 | .mp k=>k<n
 | α=>α.pur=true
def ρS (ρ':RO) (n:Nat) (sel:D5):RO:=fun k g=>
 if k<n then ρ' k g else if g=0 then (match sel[k - n]? with
  |some (some (k',g'))=>ρ' k' g'
  |some none=>some (none,0)
  |none=>none) else none
theorem ρS_lt (h:k<n) (g:Nat):ρS ρ' n sel k g=ρ' k g:=by simp [ρS,h]
theorem ρS_new {g:Nat} (h:sel[i]?=some (some (k,g))):ρS ρ' n sel (n+i) 0=ρ' k g:=by
 have:¬(n+i<n):=by omega
 simp [ρS,this,h]
theorem ρS_none (h:sel[i]?=some none):ρS ρ' n sel (n+i) 0=some (none,0):=by
 have:¬(n+i<n):=by omega
 simp [ρS,this,h]
theorem EI {h:HP} {α:AV} {v:Value} (o:α.lt1 n) (r:AW h ρ' α v):AW h (ρS ρ' n sel) α v:=by
 cases α with
 |bx k off=>
  cases r with
  |pu _ _ p=>exact .pu _ _ p
  |bx _ _ b c e=>exact .bx _ _ _ _ ((ρS_lt o 0).trans e)
 |rw k g len=>
  cases r with
  |pu _ _ p=>exact .pu _ _ p
  |rw _ _ _ cap a ob e hl ha=>exact .rw _ _ _ _ _ _ ((ρS_lt o g).trans e) hl ha
 |rf k g m off len=>
  cases r with
  |pu _ _ p=>exact .pu _ _ p
  |rf _ _ _ _ _ cap a ob e hl ha=>exact .rf _ _ _ _ _ _ _ _ ((ρS_lt o g).trans e) hl ha
 |mp k=>
  cases r with
  |pu _ _ p=>exact .pu _ _ p
  |mp _ b c e=>exact .mp _ _ _ ((ρS_lt o 0).trans e)
 |_=>exact .pu _ _ (AV.pur_rel r (by simpa [AV.lt1] using o))
abbrev B2:=List (Nat × List (List AV))
end
def Y3 (Am:CH) (n:Nat) (sel:D5) (outs:B2) (e a:AV) (K:D5->B2->Prop):Prop :=
 match e with
 | .rw j g0 len=>(∃k g m l r,a=.rw k g len∧outs=(m,l)::r∧j=n+sel.length∧g0=0∧n<=k∧(∀g',some (k,g') ∉ sel)∧gc Am k=.rw g m l∧K (sel++[some (k,g)]) r) ∨
  (∃m r,a=.e0∧outs=(m,[])::r∧j=n+sel.length∧g0=0∧len=0∧K (sel++[none]) r)∨(a=.rw j g0 len∧j<n∧K sel outs)
 |e=>(a=e∧e.lt1 n∧K sel outs)∨(Du Am a=some e∧K sel outs)
def YA (Am:CH) (n:Nat):D5->B2->List AV->List AV->(D5->B2->Prop)->Prop
 |sel,outs,[],[],K=>K sel outs
 |sel,outs,e::E,a::A,K=>Y3 Am n sel outs e a fun sel outs=>YA Am n sel outs E A K
 |_,_,_,_,_=>False
def mtA (Am:CH) (n:Nat) (sel:D5) (outs:B2) (e a:AV) (K:D5->B2->Prop):Prop :=
 match e,a with
 | .ag E,.ag A=>YA Am n sel outs E A K
 | .ag _,_=>False
 |e,a=>Y3 Am n sel outs e a K
def mtT (Am:CH) (n:Nat):D5->B2->List AV->List AV->(D5->B2->Prop)->Prop
 |sel,outs,[],[],K=>K sel outs
 |sel,outs,e::E,a::A,K=>mtA Am n sel outs e a fun sel outs=>mtT Am n sel outs E A K
 |_,_,_,_,_=>False
def mtR (Am:CH) (n:Nat) (outs:B2) (e a:AV) (K:D5->B2->Prop):Prop :=
 match e,a with
 | .tp E,.tp A=>mtT Am n [] outs E A K
 | .tp _,_=>False
 |e,a=>mtA Am n [] outs e a K
structure MtS (Am:CH) (n:Nat) (sel:D5) (o:B2):Prop where
 len:sel.length=o.length
 ge:∀(i:Nat) k g,sel[i]?=some (some (k,g))->n<=k∧∃m l,o[i]?=some (m,l)∧gc Am k=.rw g m l
 no:∀(i:Nat),sel[i]?=some none->∃m,o[i]?=some (m,[])
 inj:∀(i j:Nat) k g g',sel[i]?=some (some (k,g))->sel[j]?=some (some (k,g'))->i=j
theorem MtS.nil (Am:CH) (n:Nat):MtS Am n [] []:=⟨rfl,fun i k g h=>by simp at h,fun i h=>by simp at h,fun i j k g g' h=>by simp at h⟩
theorem MtS.snoc {Am:CH} {n:Nat} {sel:D5} {o:B2} (M:MtS Am n sel o) {x:Option (Nat×Nat)} {m:Nat} {l:List (List AV)}
 (h1:∀k g,x=some (k,g)->n<=k∧gc Am k=.rw g m l∧∀g',some (k,g') ∉ sel) (h2:x=none->l=[]):MtS Am n (sel++[x]) (o++[(m,l)]):=by
 have key:∀(i:Nat) y,(sel++[x])[i]?=some y->sel[i]?=some y∨(i=sel.length∧y=x):=by
  intro i y h
  rw [List.getElem?_append] at h
  split at h
  .exact .inl h
  .rename_i hi
   right
   have:i - sel.length=0:=by
    have:=(zlb.1 h).1
    simp at this
    omega
   rw [this] at h
   simp at h
   exact ⟨by omega,h.symm⟩
 have keyo:∀(i:Nat) y,o[i]?=some y->(o++[(m,l)])[i]?=some y:=by
  intro i y h
  have hi:=(zlb.1 h).1
  rw [List.getElem?_append_left hi]
  exact h
 refine ⟨by simp [M.len],fun i k g h=>?_,fun i h=>?_,fun i j k g g' hi hj=>?_⟩
 .rcases key i _ h with h3 | ⟨rfl,h3⟩
  .obtain ⟨a,m',l',b,c⟩:=M.ge i k g h3
   exact ⟨a,m',l',keyo _ _ b,c⟩
  .obtain ⟨a,b,_⟩:=h1 k g h3.symm
   exact ⟨a,m,l,by simp [M.len],b⟩
 .rcases key i _ h with h3 | ⟨rfl,h3⟩
  .obtain ⟨m',b⟩:=M.no i h3
   exact ⟨m',keyo _ _ b⟩
  .exact ⟨m,by rw [h2 h3.symm];simp [M.len]⟩
 .rcases key i _ hi with h3 | ⟨e3,h3⟩<;>rcases key j _ hj with h4 | ⟨e4,h4⟩
  .exact M.inj i j k g g' h3 h4
  .exact absurd (zla h3) ((h1 k g' h4.symm).2.2 g)
  .exact absurd (zla h4) ((h1 k g h3.symm).2.2 g')
  .omega
section
variable {h:HP} {ρ':RO} {Am:CH} {n n0:Nat} {w:World}
section
variable {sel:D5} {o outs:B2} {e a:AV} {K:D5->B2->Prop} {v:Value}
def Fin (h:HP) (ρ':RO) (n:Nat) (sel:D5) (e:AV) (v:Value):Prop:=∀s2:D5,AW h (ρS ρ' n (sel++s2)) e v
theorem Xu (m:SatH h ρ' Am n0 w) (M:MtS Am n sel o) (r:AW h ρ' a v) (hm:Y3 Am n sel outs e a K) :
 ∃s2 o2 j8,outs=o2++j8∧MtS Am n (sel++s2) (o++o2)∧Fin h ρ' n (sel++s2) e v∧K (sel++s2) j8:=by
 have pure:∀e,Du Am a=some e->Fin h ρ' n sel e v:=fun e he s2=>.pu _ _ (EX m r he).1
 have sel0:∀{e},Fin h ρ' n sel e v->K sel outs->∃s2 o2 j8,outs=o2++j8∧MtS Am n (sel++s2) (o++o2)∧Fin h ρ' n (sel++s2) e v∧K (sel++s2) j8:=by
  intro e f k
  exact ⟨[],[],outs,rfl,by simpa using M,by simpa using f,by simpa using k⟩
 unfold Y3 at hm
 split at hm
 .rename_i j g0 len
  rcases hm with ⟨k,g,m',l,rr,rfl,rfl,rfl,rfl,hk,hf,hg,hK⟩ | ⟨m',rr,rfl,rfl,rfl,rfl,rfl,hK⟩ | ⟨rfl,hj,hK⟩
  .refine ⟨[some (k,g)],[(m',l)],rr,rfl,M.snoc (fun k' g' h=>by cases h;exact ⟨hk,hg,hf⟩) (fun h=>by cases h),fun s2=>?_,hK⟩
   cases r with
   |pu _ _ p=>cases p
   |rw _ _ _ cap a ob e hl ha=>
    exact .rw _ _ _ cap a ob ((ρS_new (by simp)).trans e) hl ha
  .refine ⟨[none],[(m',[])],rr,rfl,M.snoc (fun k' g' h=>by cases h) (fun _=>rfl),fun s2=>?_,hK⟩
   cases r with
   |pu _ _ p=>
    cases p with
    |e0 a=>exact .rw _ _ _ 0 a none (ρS_none (by simp)) (Nat.le_refl _) (fun b hb=>by cases hb)
  .exact sel0 (fun s2=>EI (α:=.rw j g0 len) hj r) hK
 .rename_i e B1
  rcases hm with ⟨rfl,hl,hK⟩ | ⟨hp,hK⟩
  .exact sel0 (fun s2=>EI hl r) hK
  .exact sel0 (pure _ hp) hK
theorem Ad9 (m:SatH h ρ' Am n0 w):∀{E A:List AV} {sel:D5} {o outs:B2} {K:D5->B2->Prop} {vs:List Value},MtS Am n sel o->Bv h ρ' A vs->YA Am n sel outs E A K ->
 ∃s2 o2 j8,outs=o2++j8∧MtS Am n (sel++s2) (o++o2)∧(∀s3:D5,Bv h (ρS ρ' n (sel++s2++s3)) E vs)∧K (sel++s2) j8:=by
 intro E
 induction E with
 |nil=>
  intro A sel o outs K vs M r hm
  cases A with
  |nil=>
   have:vs=[]:=by have:=r.1;simpa using this.symm
   subst this
   exact ⟨[],[],outs,rfl,by simpa using M,fun s3=>Bv.nil,by simpa [YA] using hm⟩
  |cons a A=>simp [YA] at hm
 |cons e E ih=>
  intro A sel o outs K vs M r hm
  cases A with
  |nil=>simp [YA] at hm
  |cons a A=>
   cases vs with
   |nil=>have:=r.1;simp at this
   |cons v vs=>
    have r1:AW h ρ' a v:=r.2 0 a v rfl rfl
    have r2:Bv h ρ' A vs:=⟨by have:=r.1;simpa using this,fun j α u x y=>r.2 (j+1) α u (by simpa using x) (by simpa using y)⟩
    obtain ⟨s2,o2,j8,e1,e2,e3,e4⟩:=Xu m M r1 hm
    obtain ⟨s4,o4,outs4,f1,f2,f3,f4⟩:=ih e2 r2 e4
    refine ⟨s2++s4,o2++o4,outs4,by rw [e1,f1,zlf],by simpa [zlf] using f2,fun s3=>?_,by simpa [zlf] using f4⟩
    have a1:=e3 (s4++s3)
    have a2:=f3 s3
    simp only [zlf] at a1 a2 ⊢
    exact Bv.cons a1 a2
theorem XS (m:SatH h ρ' Am n0 w) (M:MtS Am n sel o) (r:AW h ρ' a v) (hm:mtA Am n sel outs e a K) :
 ∃s2 o2 j8,outs=o2++j8∧MtS Am n (sel++s2) (o++o2)∧Fin h ρ' n (sel++s2) e v∧K (sel++s2) j8:=by
 unfold mtA at hm
 split at hm
 .rename_i E A
  obtain ⟨vs,rfl,rs⟩:=r.agg
  obtain ⟨s2,o2,j8,e1,e2,e3,e4⟩:=Ad9 m M rs hm
  exact ⟨s2,o2,j8,e1,e2,fun s3=>AW.mkAgg (e3 s3),e4⟩
 .exact hm.elim
 .exact Xu m M r hm
theorem Ae4 (m:SatH h ρ' Am n0 w):∀{E A:List AV} {sel:D5} {o outs:B2} {K:D5->B2->Prop} {vs:List Value},MtS Am n sel o->Bv h ρ' A vs->mtT Am n sel outs E A K ->
 ∃s2 o2 j8,outs=o2++j8∧MtS Am n (sel++s2) (o++o2)∧(∀s3:D5,Bv h (ρS ρ' n (sel++s2++s3)) E vs)∧K (sel++s2) j8:=by
 intro E
 induction E with
 |nil=>
  intro A sel o outs K vs M r hm
  cases A with
  |nil=>
   have:vs=[]:=by have:=r.1;simpa using this.symm
   subst this
   exact ⟨[],[],outs,rfl,by simpa using M,fun s3=>Bv.nil,by simpa [mtT] using hm⟩
  |cons a A=>simp [mtT] at hm
 |cons e E ih=>
  intro A sel o outs K vs M r hm
  cases A with
  |nil=>simp [mtT] at hm
  |cons a A=>
   cases vs with
   |nil=>have:=r.1;simp at this
   |cons v vs=>
    have r1:AW h ρ' a v:=r.2 0 a v rfl rfl
    have r2:Bv h ρ' A vs:=⟨by have:=r.1;simpa using this,fun j α u x y=>r.2 (j+1) α u (by simpa using x) (by simpa using y)⟩
    obtain ⟨s2,o2,j8,e1,e2,e3,e4⟩:=XS m M r1 hm
    obtain ⟨s4,o4,outs4,f1,f2,f3,f4⟩:=ih e2 r2 e4
    refine ⟨s2++s4,o2++o4,outs4,by rw [e1,f1,zlf],by simpa [zlf] using f2,fun s3=>?_,by simpa [zlf] using f4⟩
    have a1:=e3 (s4++s3)
    have a2:=f3 s3
    simp only [zlf] at a1 a2 ⊢
    exact Bv.cons a1 a2
theorem QY (m:SatH h ρ' Am n0 w) (r:AW h ρ' a v) (hm:mtR Am n outs e a fun _ o=>o=[]) :
 ∃sel,MtS Am n sel outs∧AW h (ρS ρ' n sel) e v:=by
 unfold mtR at hm
 split at hm
 .rename_i E A
  obtain ⟨vs,rfl,rs⟩:=r.tup
  obtain ⟨s2,o2,j8,e1,e2,e3,e4⟩:=Ae4 m (MtS.nil Am n) rs hm
  subst e4
  simp only [zli,zj] at e1 e2
  subst e1
  have:=e3 []
  simp only [zli,zj] at this
  exact ⟨s2,e2,AW.mkTup this⟩
 .exact hm.elim
 .obtain ⟨s2,o2,j8,e1,e2,e3,e4⟩:=XS m (MtS.nil Am n) r hm
  subst e4
  simp only [zli,zj] at e1 e2
  subst e1
  have:=e3 []
  simp only [zli,zj] at this
  exact ⟨s2,e2,this⟩
end
end
section
variable {n:Nat} {Am hp Il:CH} {sel:D5} {outs:B2} {K K':D5->B2->Prop} {e a r:AV} {P:Program} {f:FuncId} {args:List AV}
def Cb:Nat->B2->CH
 |_,[]=>[]
 |n,(m,l)::r=>(n,.rw 0 m l)::Cb (n+1) r
theorem C1:∀{outs:B2} {n k:Nat} {hp:CH},k<n->gc (Cb n outs++hp) k=gc hp k
 | [],n,k,hp,h=>rfl
 | (m,l)::r,n,k,hp,h=>by
  show gc ((n,_)::(Cb (n+1) r++hp)) k=_
  rw [Ak _ _ (by omega)]
  exact C1 (by omega)
theorem Dk:∀{outs:B2} {n i m:Nat} {l:List (List AV)} {hp:CH},outs[i]?=some (m,l)->gc (Cb n outs++hp) (n+i)=.rw 0 m l
 | [],n,i,m,l,hp,h=>by simp at h
 | (m',l')::r,n,0,m,l,hp,h=>by
  simp at h
  obtain ⟨rfl,rfl⟩:=h
  exact Ar _ _ _
 | (m',l')::r,n,i+1,m,l,hp,h=>by
  show gc ((n,_)::(Cb (n+1) r++hp)) (n+(i+1))=_
  rw [Ak _ _ (by omega),show n+(i+1)=n+1+i by omega]
  exact Dk (by simpa using h)
theorem DC:∀{outs:B2} {n k:Nat} {hp:CH},n+outs.length<=k->gc (Cb n outs++hp) k=gc hp k
 | [],n,k,hp,h=>rfl
 | (m,l)::r,n,k,hp,h=>by
  show gc ((n,_)::(Cb (n+1) r++hp)) k=_
  simp only [List.length_cons] at h
  rw [Ak _ _ (by omega)]
  exact DC (by omega)
def Ai.lt1 (n:Nat):Ai->Prop
 | .bx cs=>∀α∈cs,α.lt1 n
 | .rn _ _ l=>∀e∈l,∀α∈e,α.lt1 n
 |_=>True
def HB:CH->List AV->List AV->CH
 |hp,.rw _ _ _::E,_::A=>HB hp E A
 |hp,_::E,a::A=>HB (shutC hp a) E A
 |hp,_,_=>hp
theorem JX {J:RO} {w:World}:∀{E A:List AV} {h:HP} {hp:CH},SatH h J hp n w->∃h',BJ h h'∧SatH h' J (HB hp E A) n w∧∀b,AF J (HB hp E A) b->AF J hp b:=by
 intro E
 induction E with
 |nil=>intro A h hp m;exact ⟨h,BJ.refl _,by simpa [HB] using m,fun b hb=>by simpa [HB] using hb⟩
 |cons e E ih=>
  intro A h hp m
  cases A with
  |nil=>
   have:HB hp (e::E) []=hp:=by cases e<;>rfl
   rw [this]
   exact ⟨h,BJ.refl _,m,fun b hb=>hb⟩
  |cons a A=>
   by_cases hr:∃j g l,e=.rw j g l
   .obtain ⟨j,g,l,rfl⟩:=hr
    exact ih m
   .have:HB hp (e::E) (a::A)=HB (shutC hp a) E A:=by
     cases e<;>first | rfl | exact absurd ⟨_,_,_,rfl⟩ hr
    rw [this]
    obtain ⟨h1,a1,a2,a3⟩:=SatH.shutL (h:=h) [a] m
    obtain ⟨h2,b1,b2,b3⟩:=ih a2
    exact ⟨h2,a1.trans b1,b2,fun b hb=>a3 b (b3 b hb)⟩
/-! ### The same,to be reckoned -/
def O1 (k:Nat):D5->Prop
 | []=>True
 |none::r=>O1 k r
 |some (k',_)::r=>k≠k'∧O1 k r
theorem Kw {k:Nat}:∀{sel:D5},O1 k sel->∀g',some (k,g') ∉ sel
 | [],_,g',h=>by cases h
 |none::r,hn,g',h=>by
  rcases List.mem_cons.1 h with e | e
  .cases e
  .exact Kw (sel:=r) hn g' e
 |some (k',g)::r,hn,g',h=>by
  rcases List.mem_cons.1 h with e | e
  .cases e;exact hn.1 rfl
  .exact Kw (sel:=r) hn.2 g' e
def fP (n:Nat) (e a:AV):Option AV->Prop
 |some b=>b=e
 |none=>a=e∧e.lt1 n
def fC (Am:CH) (n:Nat) (sel:D5) (outs:B2) (K:D5->B2->Prop):AV->AV->Prop
 | .rw j g0 len,.rw k g m6=>match outs with
  | (m,l)::r=>j=n+sel.length∧g0=0∧len=m6∧n<=k∧O1 k sel∧gc Am k=.rw g m l∧K (sel++[some (k,g)]) r
  | []=>j=k∧g0=g∧len=m6∧j<n∧K sel []
 | .rw j g0 len,.e0=>match outs with
  | (m,l)::r=>j=n+sel.length∧g0=0∧len=0∧l=[]∧K (sel++[none]) r
  | []=>False
 | .rw _ _ _,_=>False
 |e,a=>fP n e a (Du Am a)∧K sel outs
theorem Aca (h:fC Am n sel outs K e a):Y3 Am n sel outs e a K:=by
 have key:∀e a,(∀j g l,e≠.rw j g l)->fP n e a (Du Am a)∧K sel outs->Y3 Am n sel outs e a K:=by
  intro e a B1 ⟨h1,h2⟩
  have:(a=e∧e.lt1 n∧K sel outs)∨(Du Am a=some e∧K sel outs):=by
   cases hp:Du Am a with
   |none=>rw [hp] at h1;exact .inl ⟨h1.1,h1.2,h2⟩
   |some b=>rw [hp] at h1;exact .inr ⟨by rw [show b=e from h1],h2⟩
  unfold Y3
  cases e<;>first | exact this | exact absurd rfl (B1 _ _ _)
 unfold fC at h
 split at h
 .split at h
  .obtain ⟨a1,a2,a3,a4,a5,a6,a7⟩:=h
   subst a2;subst a3
   exact .inl ⟨_,_,_,_,_,rfl,rfl,a1,rfl,a4,Kw a5,a6,a7⟩
  .obtain ⟨a1,a2,a3,a4,a5⟩:=h
   subst a1;subst a2;subst a3
   exact .inr (.inr ⟨rfl,a4,a5⟩)
 .split at h
  .obtain ⟨a1,a2,a3,a4,a5⟩:=h
   subst a2;subst a3;subst a4
   exact .inr (.inl ⟨_,_,rfl,rfl,a1,rfl,rfl,a5⟩)
  .exact h.elim
 .exact h.elim
 .rename_i h1 h2 h3
  exact key _ _ (fun j g l e=>by first | exact h3 j g l e | exact h1 j g l e | exact h2 j g l e) h
def fL (Am:CH) (n:Nat) (K:D5->B2->Prop):List AV->List AV->D5->B2->Prop
 | [],[],sel,outs=>K sel outs
 |e::E,a::A,sel,outs=>fC Am n sel outs (fL Am n K E A) e a
 |_,_,_,_=>False
theorem Km (hk:∀s o,K s o->K' s o) (h:Y3 Am n sel outs e a K):Y3 Am n sel outs e a K':=by
 unfold Y3 at *
 split at h
 .rcases h with ⟨k,g,m',l,rr,a1,a2,a3,a4,a5,a6,a7,a8⟩ | ⟨m',rr,a1,a2,a3,a4,a5,a6⟩ | ⟨a1,a2,a3⟩
  .exact .inl ⟨k,g,m',l,rr,a1,a2,a3,a4,a5,a6,a7,hk _ _ a8⟩
  .exact .inr (.inl ⟨m',rr,a1,a2,a3,a4,a5,hk _ _ a6⟩)
  .exact .inr (.inr ⟨a1,a2,hk _ _ a3⟩)
 .rcases h with ⟨a1,a2,a3⟩ | ⟨a1,a2⟩
  .exact .inl ⟨a1,a2,hk _ _ a3⟩
  .exact .inr ⟨a1,hk _ _ a2⟩
theorem Ab4:∀{E A:List AV} {sel:D5} {outs:B2},fL Am n K E A sel outs->YA Am n sel outs E A K
 | [],[],sel,outs,h=>h
 |e::E,a::A,sel,outs,h=>Km (fun s o=>Ab4) (Aca h)
 | [],a::A,_,_,h=>h.elim
 |e::E,[],_,_,h=>h.elim
def fA (Am:CH) (n:Nat) (sel:D5) (outs:B2) (K:D5->B2->Prop):AV->AV->Prop
 | .ag E,.ag A=>fL Am n K E A sel outs
 | .ag _,_=>False
 |e,a=>fC Am n sel outs K e a
theorem Ab0 (h:fA Am n sel outs K e a):mtA Am n sel outs e a K:=by
 unfold fA at h
 unfold mtA
 split at h
 .exact Ab4 h
 .exact h.elim
 .rename_i h1 h2
  exact Aca h
def fT (Am:CH) (n:Nat) (K:D5->B2->Prop):List AV->List AV->D5->B2->Prop
 | [],[],sel,outs=>K sel outs
 |e::E,a::A,sel,outs=>fA Am n sel outs (fT Am n K E A) e a
 |_,_,_,_=>False
theorem OY (hk:∀s o,K s o->K' s o):∀{E A:List AV} {sel:D5} {outs:B2},YA Am n sel outs E A K->YA Am n sel outs E A K'
 | [],[],sel,outs,h=>hk _ _ h
 |e::E,a::A,sel,outs,h=>Km (fun s o=>OY hk) h
 | [],a::A,_,_,h=>h.elim
 |e::E,[],_,_,h=>h.elim
theorem Xh (hk:∀s o,K s o->K' s o) (h:mtA Am n sel outs e a K):mtA Am n sel outs e a K':=by
 unfold mtA at *
 split at h
 .exact OY hk h
 .exact h.elim
 .exact Km hk h
theorem Abv:∀{E A:List AV} {sel:D5} {outs:B2},fT Am n K E A sel outs->mtT Am n sel outs E A K
 | [],[],sel,outs,h=>h
 |e::E,a::A,sel,outs,h=>Xh (fun s o=>Abv) (Ab0 h)
 | [],a::A,_,_,h=>h.elim
 |e::E,[],_,_,h=>h.elim
def G7 (_:D5) (o:B2):Prop:=o=[]
def fR (Am:CH) (n:Nat) (outs:B2):AV->AV->Prop
 | .tp E,.tp A=>fT Am n G7 E A [] outs
 | .tp _,_=>False
 |e,a=>fA Am n [] outs G7 e a
theorem Xm (h:fR Am n outs e a):mtR Am n outs e a fun _ o=>o=[]:=by
 unfold fR at h
 unfold mtR
 split at h
 .exact Abv h
 .exact h.elim
 .rename_i h1 h2
  exact Ab0 h
def Lz (Il:CH) (n:Nat) (outs:B2) (r:AV) (Am:CH) (_:Nat) (r':AV):Prop :=
 Up n Il (HB Am (Bn r) (Bn r'))∧fR (HB Am (Bn r) (Bn r')) n outs r r'
theorem AK.out (h1:∀k,k<n->gc Il k=gc hp k∨(gc Il k).lt1 n) (BZ:∀k,n<=k->gc Il k=.no)
 (m0:AK P f hp n args (Lz Il n outs r)):AO P f hp n args (Cb n outs++Il) (n+outs.length) r:=by
 refine ⟨m0.1,fun h J w vs hs ha=>(m0.2 h J w vs hs ha).mono fun e w' ⟨v,he,h',ρ',Am,n',r',⟨e1,e2⟩,hh,hr,hm,Cf,hk,hl⟩=>?_⟩
 have e2:=Xm e2
 obtain ⟨h2,a1,a2,a3⟩:=JX (E:=Bn r) (A:=Bn r') hm
 generalize HB Am (Bn r) (Bn r')=hq at *
 obtain ⟨sel,M,rel⟩:=QY a2 (Cf.mono a1 (Cd.refl _)) e2
 have hρ:Cd J (ρS ρ' n sel):=fun k g x hx=>by
  rcases znb k n with Bx | Bx
  .rw [ρS_lt Bx];exact hr _ _ _ hx
  .rw [hs.fr k g Bx] at hx;cases hx
 -- what may be written
 have E7:∀k g b c,(gc (Cb n outs++Il) k).own g->ρS ρ' n sel k g=some (some b,c)->∃k2 g2,(gc hq k2).own g2∧ρ' k2 g2=some (some b,c)∧(k<n->k2=k)∧(n<=k->∃i,k=n+i∧sel[i]?=some (some (k2,g2))):=by
  intro k g b c hg hx
  rcases znb k n with Bx | Bx
  .rw [C1 Bx] at hg
   rw [ρS_lt Bx] at hx
   exact ⟨k,g,by rw [e1 k Bx];exact hg,hx,fun _=>rfl,fun h=>by omega⟩
  .obtain ⟨i,rfl⟩:∃i,k=n+i:=⟨k - n,by omega⟩
   rcases znb i outs.length with hi | hi
   .have ho:outs[i]?=some outs[i]:=zlg hi
    have Ly:i<sel.length:=by rw [M.len];exact hi
    have Fv:sel[i]?=some sel[i]:=zlg Ly
    rw [Dk (m:=outs[i].1) (l:=outs[i].2) ho] at hg
    cases hg
    cases GD:sel[i] with
    |none=>
     rw [GD] at Fv
     rw [ρS_none Fv] at hx
     cases hx
    |some p=>
     obtain ⟨k2,g2⟩:=p
     rw [GD] at Fv
     rw [ρS_new Fv] at hx
     obtain ⟨_,m2,l2,_,q⟩:=M.ge i k2 g2 Fv
     exact ⟨k2,g2,by rw [q];rfl,hx,fun h=>by omega,fun _=>⟨i,rfl,Fv⟩⟩
   .rw [DC (by omega),BZ _ (by omega)] at hg
    cases hg
 have AI:∀b,AF (ρS ρ' n sel) (Cb n outs++Il) b->AF ρ' hq b:=fun b ⟨k,g,c,hg,hx⟩=>by
  obtain ⟨k2,g2,q1,q2,_⟩:=E7 k g b c hg hx
  exact ⟨k2,g2,c,q1,q2⟩
 refine ⟨v,he,h2,ρS ρ' n sel,_,_,r,⟨rfl,rfl,rfl⟩,hh.trans a1,hρ,⟨a2.hh,fun k=>?_,fun k k' g g' b c c' q1 q2 q3 q4=>?_,fun b hb=>a2.hid b (AI b hb),fun b hb=>a2.lt b (AI b hb),fun k g hk=>?_,fun k g g' x q1 q2=>?_,a2.gl⟩,rel,hk,fun b hb=>hl b (a3 b (AI b hb))⟩
 .rcases znb k n with Bx | Bx
  .rw [C1 Bx]
   have s1:=a2.ch k
   rw [e1 k Bx] at s1
   rcases h1 k Bx with hu | hu
   .have s0:=hs.ch k
    rw [<-hu] at s0
    exact Ai.sat_mono (BJ.refl _) hρ (fun _ _ _ _ _=>rfl) (Ai.back hr s0 s1)
   .cases hc:gc Il k with
    |no=>trivial
    |bx cs=>
     rw [hc] at s1 hu
     obtain ⟨b,c,p6,ty,b1,b2,b3,b4⟩:=s1
     exact ⟨b,c,p6,ty,(ρS_lt Bx 0).trans b1,b2,b3,fun j α u x y=>EI (hu α (zla x)) (b4 j α u x y)⟩
    |rw g mm l=>
     rw [hc] at s1
     obtain ⟨ob,cap,b1,b2⟩:=s1
     exact ⟨ob,cap,(ρS_lt Bx g).trans b1,b2⟩
    |sh g mm l=>
     rw [hc] at s1
     obtain ⟨ob,cap,b1,b2⟩:=s1
     exact ⟨ob,cap,(ρS_lt Bx g).trans b1,b2⟩
    |rc g mm cap l=>
     rw [hc] at s1
     obtain ⟨ob,b1,b2⟩:=s1
     exact ⟨ob,(ρS_lt Bx g).trans b1,b2⟩
    |mp l=>
     rw [hc] at s1
     obtain ⟨b,c,es,cl,b1,b2⟩:=s1
     exact ⟨b,c,es,cl,(ρS_lt Bx 0).trans b1,b2⟩
    |mq F=>
     rw [hc] at s1
     obtain ⟨b,c,es,cl,b1,b2⟩:=s1
     exact ⟨b,c,es,cl,(ρS_lt Bx 0).trans b1,b2⟩
    |mr l sn=>
     rw [hc] at s1
     obtain ⟨b,c,es,cl,b1,q1,q2,q3,q4,b2,c2,w7,g2,q5⟩:=s1
     exact ⟨b,c,es,cl,(ρS_lt Bx 0).trans b1,q1,q2,q3,q4,b2,c2,w7,(ρS_lt Bx 1).trans g2,q5⟩
    |ro cs=>
     rw [hc] at s1
     obtain ⟨b,c,us,e,fr,b1,b2⟩:=s1
     exact ⟨b,c,us,e,fr,(ρS_lt Bx 0).trans b1,b2⟩
    |rn g mm l=>
     rw [hc] at s1 hu
     obtain ⟨ob,cap,b1,b2,b2',b3,b4,b5⟩:=s1
     refine ⟨ob,cap,(ρS_lt Bx g).trans b1,b2,b2',b3,b4,fun b hb=>?_⟩
     obtain ⟨p6,ty,c1,c2,c3⟩:=b5 b hb
     exact ⟨p6,ty,c1,c2,fun j x q α y1 y2=>let ⟨u,z1,z2⟩:=c3 j x q α y1 y2;⟨u,z1,EI (hu x (zla y1) α (zla y2)) z2⟩⟩
    |sb T e g bs=>
     rw [hc] at s1
     obtain ⟨b,c,p,v,b1,b2,b3,b4,b5,⟨y,b6⟩,b7⟩:=s1
     exact ⟨b,c,p,v,(ρS_lt Bx 0).trans b1,b2,b3,b4,b5,⟨y,(ρS_lt Bx g).trans b6⟩,fun x hx=>⟨(b7 x hx).1,let ⟨c2,q⟩:=(b7 x hx).2;⟨c2,(ρS_lt Bx g).trans q⟩⟩⟩
  .obtain ⟨i,rfl⟩:∃i,k=n+i:=⟨k - n,by omega⟩
   rcases znb i outs.length with hi | hi
   .have ho:outs[i]?=some outs[i]:=zlg hi
    have Ly:i<sel.length:=by rw [M.len];exact hi
    have Fv:sel[i]?=some sel[i]:=zlg Ly
    rw [Dk (m:=outs[i].1) (l:=outs[i].2) ho]
    cases GD:sel[i] with
    |none=>
     rw [GD] at Fv
     obtain ⟨m2,q⟩:=M.no i Fv
     rw [ho] at q
     have q:outs[i]=(m2,[]):=Option.some.inj q
     rw [q]
     exact ⟨none,0,ρS_none Fv,by simp,by simp [maxLen],fun j e h=>by simp at h,fun _=>rfl,fun b hb=>by cases hb⟩
    |some p=>
     obtain ⟨k2,g2⟩:=p
     rw [GD] at Fv
     obtain ⟨_,m2,l2,q1,q2⟩:=M.ge i k2 g2 Fv
     rw [ho] at q1
     have q1:outs[i]=(m2,l2):=Option.some.inj q1
     have s1:=a2.ch k2
     rw [q2] at s1
     rw [q1]
     obtain ⟨ob,cap,b1,b2⟩:=s1
     exact ⟨ob,cap,(ρS_new Fv).trans b1,b2⟩
   .rw [DC (by omega),BZ _ (by omega)]
    trivial
 .obtain ⟨k2,g2,x1,x2,x3,x4⟩:=E7 k g b c q1 q3
  obtain ⟨k2',w8,y1,y2,y3,y4⟩:=E7 k' g' b c' q2 q4
  have e3:=a2.inj k2 k2' g2 w8 b c c' x1 y1 x2 y2
  subst e3
  rcases znb k n with Bx | Bx<;>rcases znb k' n with E9 | E9
  .rw [<-x3 Bx,<-y3 E9]
  .obtain ⟨i,_,IU⟩:=y4 E9
   have:=(M.ge i k2 w8 IU).1
   have:=x3 Bx
   omega
  .obtain ⟨i,_,IU⟩:=x4 Bx
   have:=(M.ge i k2 g2 IU).1
   have:=y3 E9
   omega
  .obtain ⟨i,rfl,IU⟩:=x4 Bx
   obtain ⟨j,rfl,hs3⟩:=y4 E9
   rw [M.inj i j k2 g2 w8 IU hs3]
 .have Bx:¬k<n:=by omega
  have:sel[k - n]?=none:=List.getElem?_eq_none (by rw [M.len];omega)
  simp [ρS,Bx,this]
 .rcases znb k n with Bx | Bx
  .rw [C1 Bx] at q1
   rw [ρS_lt Bx] at q2
   exact a2.gens k g g' x (by rw [e1 k Bx];exact q1) q2
  .by_cases hg:g'=0
   .omega
   .have E9:¬k<n:=by omega
    simp [ρS,E9,hg] at q2
theorem E4 {fn : Func} {k : CC} {rs : List RS} (hf : P.funcs[f]? = some fn) (FZ : (fn.name == "runtime.NumGoroutine") = false)
 (hc:fn.body.bind (BP P fn.ntmps)=some k.erase) (HG:NS P fn.ntmps fn.results.toList=some rs) {hp:CH} {n:Nat} {args:List AV} {outs:B2} {r:AV} (AZ:Nat.ble args.length fn.ntmps=true)
 (hv:(∀k,n<=k->gc hp k=.no)->vc P k ⟨C9 0 args,hp,n⟩ (K7 rs (Lz hp n outs r))):AO P f hp n args (Cb n outs++hp) (n+outs.length) r:=by
 have J0 := (by obtain ⟨c, hb, Qx⟩ := bd hc; exact ⟨fn, hf, FZ, by rw [hb]; rfl⟩ : ∃ fn, P.funcs[f]? = some fn ∧ (fn.name == "runtime.NumGoroutine") = false ∧ fn.body.isNone = false)
 refine ⟨J0,fun h J w vs hs ha=>?_⟩
 exact (AK.out (fun k _=>.inl rfl) hs.free (Jb hf FZ hc HG AZ (hv hs.free))).2 h J w vs hs ha
theorem AO.toF {n1:Nat} {r0:AV} (m:AO P f hp n args Il n1 r0) (h:Sk hp n r Il n1 r0):Ae P f hp n args r :=
 AK.toF ⟨m.1,fun h' J w vs hs ha=>(m.2 h' J w vs hs ha).mono fun e w' ⟨v,he,h2,ρ',Am,n',r',⟨e1,e2,e3⟩,x⟩=>⟨v,he,h2,ρ',Am,n',r',by subst e1;subst e2;subst e3;exact h,x⟩⟩
/-! ### Reckoning -/
end
section
variable {Am:CH} {n:Nat} {sel:D5} {outs:B2} {K:D5->B2->Prop}
section
variable {k g j g0 len m6 m:Nat} {r:B2} {e a:AV} {l:List (List AV)} {x:Bool} {E A:List AV}
theorem Yi:O1 k []=True:=nd rfl
theorem Uu {k':Nat} {r:D5}:O1 k (some (k',g)::r)=(k≠k'∧O1 k r):=nd rfl
theorem YS {b:AV}:fP n e a (some b)=(b=e):=nd rfl
theorem Ala:fC Am n sel ((m,l)::r) K (.rw j g0 len) (.rw k g m6)=(j=n+sel.length∧g0=0∧len=m6∧n<=k∧O1 k sel∧gc Am k=.rw g m l∧K (sel++[some (k,g)]) r):=nd rfl
theorem Agh:fC Am n sel [] K (.rw j g0 len) (.rw k g m6)=(j=k∧g0=g∧len=m6∧j<n∧K sel []):=nd rfl
theorem Aky:fC Am n sel ((m,l)::r) K (.rw j g0 len) .e0=(j=n+sel.length∧g0=0∧len=0∧l=[]∧K (sel++[none]) r):=nd rfl
theorem Apo:fC Am n sel outs K (.b x) a=(fP n (.b x) a (Du Am a)∧K sel outs):=nd (by cases a<;>rfl)
theorem Anl {k:IntKind} {x:Int}:fC Am n sel outs K (.i k x) a=(fP n (.i k x) a (Du Am a)∧K sel outs):=nd (by cases a<;>rfl)
theorem Apn {x:qB}:fC Am n sel outs K (.s x) a=(fP n (.s x) a (Du Am a)∧K sel outs):=nd (by cases a<;>rfl)
theorem Ai2 {x:List (List AV)}:fC Am n sel outs K (.ds x) a=(fP n (.ds x) a (Du Am a)∧K sel outs):=nd (by cases a<;>rfl)
theorem Afh:fL Am n K [] [] sel outs=K sel outs:=nd rfl
theorem YC:fL Am n K (e::E) (a::A) sel outs=fC Am n sel outs (fL Am n K E A) e a:=nd rfl
theorem Aju:fA Am n sel outs K (.ag E) (.ag A)=fL Am n K E A sel outs:=nd rfl
theorem Am2:fA Am n sel outs K (.b x) a=fC Am n sel outs K (.b x) a:=nd (by cases a<;>rfl)
theorem Amn {k:IntKind} {x:Int}:fA Am n sel outs K (.i k x) a=fC Am n sel outs K (.i k x) a:=nd (by cases a<;>rfl)
theorem Akp {x:List (List AV)}:fA Am n sel outs K (.ds x) a=fC Am n sel outs K (.ds x) a:=nd (by cases a<;>rfl)
theorem Ais:fA Am n sel outs K (.rw j g len) a=fC Am n sel outs K (.rw j g len) a:=nd (by cases a<;>rfl)
theorem Agj:fT Am n K [] [] sel outs=K sel outs:=nd rfl
theorem ZM:fT Am n K (e::E) (a::A) sel outs=fA Am n sel outs (fT Am n K E A) e a:=nd rfl
theorem U9 {o:B2}:G7 sel o=(o=[]):=nd rfl
theorem Aib:fR Am n outs (.tp E) (.tp A)=fT Am n G7 E A [] outs:=nd rfl
theorem Aka:fR Am n outs (.ag E) a=fA Am n [] outs G7 (.ag E) a:=nd (by cases a<;>rfl)
theorem Ak3:fR Am n outs (.rw j g len) a=fA Am n [] outs G7 (.rw j g len) a:=nd (by cases a<;>rfl)
theorem Am8:fR Am n outs (.b x) a=fA Am n [] outs G7 (.b x) a:=nd (by cases a<;>rfl)
theorem Ajz {x:List (List AV)}:fR Am n outs (.ds x) a=fA Am n [] outs G7 (.ds x) a:=nd (by cases a<;>rfl)
theorem Z9 {Il:CH} {r r':AV}:Lz Il n outs r Am k r'=(Up n Il (HB Am (Bn r) (Bn r'))∧fR (HB Am (Bn r) (Bn r')) n outs r r'):=nd rfl
theorem Aah:HB Am [] A=Am:=nd (by cases A<;>rfl)
theorem Aea {l:Nat}:HB Am (.rw j g l::E) (a::A)=HB Am E A:=nd rfl
theorem Ah8:HB Am (.b x::E) (a::A)=HB (shutC Am a) E A:=nd rfl
theorem Ain {k:IntKind} {x:Int}:HB Am (.i k x::E) (a::A)=HB (shutC Am a) E A:=nd rfl
theorem Akv {x:qB}:HB Am (.s x::E) (a::A)=HB (shutC Am a) E A:=nd rfl
theorem Agb {x:List (List AV)}:HB Am (.ds x::E) (a::A)=HB (shutC Am a) E A:=nd rfl
theorem RL (n:Nat):Cb n []=[]:=nd rfl
theorem Ou (n m:Nat) (l:List (List AV)) (r:B2):Cb n ((m,l)::r)=(n,.rw 0 m l)::Cb (n+1) r:=nd rfl
end
end
section
variable {hp:CH} {m c:Nat} {X:Ai}
attribute [go_sem] Yi Uu YS Ala Agh Aky Apo Anl Apn Ai2 Afh YC Aju Am2 Amn Akp Ais Agj ZM U9 Aib Aka Ak3 Am8 Ajz Z9 Aah Aea Ah8 Ain Akv Agb RL Ou AV.lt1
/-! ### One row of the caller is written -/
theorem OJ {a g n:Nat} {l:List (List AV)} (hf:∀k,m<=k->gc hp k=.no) (h:gc hp a=.rw g n l):a<m:=by
 rcases znb a m with q | q
 .exact q
 .rw [hf a q] at h;cases h
theorem RM {a:CH} (h1:gc a c=X) (h2:∀j,j<m->j≠c->gc a j=gc hp j):Up m ((c,X)::hp) a:=fun j hj=>by
 by_cases hc:c=j
 .subst hc
  rw [Ar]
  exact h1
 .rw [Ak _ _ hc]
  exact h2 j hj (fun e=>hc e.symm)
theorem Gj (hf:∀k,m<=k->gc hp k=.no) (hc:c<m):∀k,m<=k->gc ((c,X)::hp) k=.no:=fun k hk=>by
 rw [Ak _ _ (by omega)]
 exact hf k hk
theorem PB {P : Program} {f : FuncId} {fn : Func} {k : CC} {rs : List RS} (hf : P.funcs[f]? = some fn) (FZ : (fn.name == "runtime.NumGoroutine") = false)
 (hc:fn.body.bind (BP P fn.ntmps)=some k.erase) (HG:NS P fn.ntmps fn.results.toList=some rs) {hp:CH} {n c:Nat} {X:Ai} {args:List AV} {r:AV} (AZ:Nat.ble args.length fn.ntmps=true)
 (hX:X.lt1 n) (Fw:(∀k,n<=k->gc hp k=.no)->c<n) (hv:(∀k,n<=k->gc hp k=.no)->vc P k ⟨C9 0 args,hp,n⟩ (K7 rs (Lz ((c,X)::hp) n [] r))):AO P f hp n args ((c,X)::hp) n r:=by
 have J0 := (by obtain ⟨c, hb, Qx⟩ := bd hc; exact ⟨fn, hf, FZ, by rw [hb]; rfl⟩ : ∃ fn, P.funcs[f]? = some fn ∧ (fn.name == "runtime.NumGoroutine") = false ∧ fn.body.isNone = false)
 refine ⟨J0,fun h J w vs hs ha=>?_⟩
 refine (AK.out (outs:=[]) (fun k hk=>?_) (Gj hs.free (Fw hs.free)) (Jb hf FZ hc HG AZ (hv hs.free))).2 h J w vs hs ha
 by_cases hkc:c=k
 .subst hkc
  rw [Ar]
  exact .inr hX
 .rw [Ak _ _ hkc]
  exact .inl rfl
end
