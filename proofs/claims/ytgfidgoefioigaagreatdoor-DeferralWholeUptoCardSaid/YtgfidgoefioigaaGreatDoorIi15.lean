/- Proof. Conditions: none. -/
import Derived.Test.YtgfidgoefioigaaGreatDoorIi14
open List renaming mem_of_getElem?→zla,getElem?_eq_some_iff→zlb,append_assoc→zlf,getElem?_eq_getElem→zlg,nil_append→zli
open Nat renaming lt_or_ge→znb
namespace Go.Eng
set_option linter.all false
abbrev Dh:=List (Option (Nat × Nat))
def AV.lt1 (n:Nat):AV→Prop
 | .bx k _=>k<n
 | .rw k _ _=>k<n
 | .rf k _ _ _ _=>k<n
 | .mp k=>k<n
 | α=>α.pur=true
def ρS (ρ':RO) (n:Nat) (sel:Dh):RO:=fun k g =>
 if k<n then ρ' k g else if g=0 then (match sel[k - n]? with
  | some (some (k',g'))=>ρ' k' g'
  | some none=>some (none,0)
  | none=>none) else none
theorem ρS_lt {ρ':RO} {n:Nat} {sel:Dh} {k:Nat} (h:k<n) (g:Nat):ρS ρ' n sel k g=ρ' k g:=by simp [ρS,h]
theorem ρS_new {ρ':RO} {n:Nat} {sel:Dh} {i k g:Nat} (h:sel[i]?=some (some (k,g))):ρS ρ' n sel (n+i) 0=ρ' k g:=by
 have:¬(n+i<n):=by omega
 simp [ρS,this,h]
theorem ρS_none {ρ':RO} {n:Nat} {sel:Dh} {i:Nat} (h:sel[i]?=some none):ρS ρ' n sel (n+i) 0=some (none,0):=by
 have:¬(n+i<n):=by omega
 simp [ρS,this,h]
theorem Et {h:HP} {ρ':RO} {n:Nat} {sel:Dh} {α:AV} {v:Value} (o:α.lt1 n) (r:AN h ρ' α v):AN h (ρS ρ' n sel) α v:=by
 cases α with
 | bx k off =>
  cases r with
  | pu _ _ p=>exact .pu _ _ p
  | bx _ _ b c e=>exact .bx _ _ _ _ ((ρS_lt o 0).trans e)
 | rw k g len =>
  cases r with
  | pu _ _ p=>exact .pu _ _ p
  | rw _ _ _ cap a ob e hl ha=>exact .rw _ _ _ _ _ _ ((ρS_lt o g).trans e) hl ha
 | rf k g m off len =>
  cases r with
  | pu _ _ p=>exact .pu _ _ p
  | rf _ _ _ _ _ cap a ob e hl ha=>exact .rf _ _ _ _ _ _ _ _ ((ρS_lt o g).trans e) hl ha
 | mp k =>
  cases r with
  | pu _ _ p=>exact .pu _ _ p
  | mp _ b c e=>exact .mp _ _ _ ((ρS_lt o 0).trans e)
 | _=>exact .pu _ _ (AV.pur_rel r (by simpa [AV.lt1] using o))
abbrev Bw:=List (Nat × List (List AV))
def VB (Ao:CH) (n:Nat) (sel:Dh) (outs:Bw) (e a:AV) (K:Dh→Bw→Prop):Prop :=
 match e with
 | .rw j g0 len=>(∃k g m l r,a=.rw k g len∧outs=(m,l)::r∧j=n+sel.length∧g0=0∧n≤k∧(∀g',some (k,g') ∉ sel)∧gc Ao k=.rw g m l∧K (sel++[some (k,g)]) r) ∨
   (∃m r,a=.e0∧outs=(m,[])::r∧j=n+sel.length∧g0=0∧len=0∧K (sel++[none]) r)∨(a=.rw j g0 len∧j<n∧K sel outs)
 | e=>(a=e∧e.lt1 n∧K sel outs)∨(Di Ao a=some e∧K sel outs)
def X4 (Ao:CH) (n:Nat):Dh→Bw→List AV→List AV→(Dh→Bw→Prop)→Prop
 | sel,outs,[],[],K=>K sel outs
 | sel,outs,e::E,a::A,K=>VB Ao n sel outs e a fun sel outs=>X4 Ao n sel outs E A K
 | _,_,_,_,_=>False
def Wv (Ao:CH) (n:Nat) (sel:Dh) (outs:Bw) (e a:AV) (K:Dh→Bw→Prop):Prop :=
 match e,a with
 | .ag E,.ag A=>X4 Ao n sel outs E A K
 | .ag _,_=>False
 | e,a=>VB Ao n sel outs e a K
def YT (Ao:CH) (n:Nat):Dh→Bw→List AV→List AV→(Dh→Bw→Prop)→Prop
 | sel,outs,[],[],K=>K sel outs
 | sel,outs,e::E,a::A,K=>Wv Ao n sel outs e a fun sel outs=>YT Ao n sel outs E A K
 | _,_,_,_,_=>False
def mtR (Ao:CH) (n:Nat) (outs:Bw) (e a:AV) (K:Dh→Bw→Prop):Prop :=
 match e,a with
 | .tp E,.tp A=>YT Ao n [] outs E A K
 | .tp _,_=>False
 | e,a=>Wv Ao n [] outs e a K
structure MtS (Ao:CH) (n:Nat) (sel:Dh) (o:Bw):Prop where
 len:sel.length=o.length
 ge:∀(i:Nat) k g,sel[i]?=some (some (k,g))→n≤k∧∃m l,o[i]?=some (m,l)∧gc Ao k=.rw g m l
 no:∀(i:Nat),sel[i]?=some none→∃m,o[i]?=some (m,[])
 inj:∀(i j:Nat) k g g',sel[i]?=some (some (k,g))→sel[j]?=some (some (k,g'))→i=j
theorem MtS.nil (Ao:CH) (n:Nat):MtS Ao n [] []:=⟨rfl,fun i k g h=>by simp at h,fun i h=>by simp at h,fun i j k g g' h=>by simp at h⟩
theorem MtS.snoc {Ao:CH} {n:Nat} {sel:Dh} {o:Bw} (M:MtS Ao n sel o) {x:Option (Nat × Nat)} {m:Nat} {l:List (List AV)}
  (h1:∀k g,x=some (k,g)→n≤k∧gc Ao k=.rw g m l∧∀g',some (k,g') ∉ sel) (h2:x=none→l=[]):MtS Ao n (sel++[x]) (o++[(m,l)]):=by
 have key:∀(i:Nat) y,(sel++[x])[i]?=some y→sel[i]?=some y∨(i=sel.length∧y=x):=by
  intro i y h
  rw [List.getElem?_append] at h
  split at h
  .exact .inl h
  .rename_i hi
   right
   have:i - sel.length=0:=by
    have:=(zlb.1 h).1
    simp at this
    omega
   rw [this] at h
   simp at h
   exact ⟨by omega,h.symm⟩
 have keyo:∀(i:Nat) y,o[i]?=some y→(o++[(m,l)])[i]?=some y:=by
  intro i y h
  have hi:=(zlb.1 h).1
  rw [List.getElem?_append_left hi]
  exact h
 refine ⟨by simp [M.len],fun i k g h=>?_,fun i h=>?_,fun i j k g g' hi hj=>?_⟩
 .rcases key i _ h with h3 | ⟨rfl,h3⟩
  .obtain ⟨a,m',l',b,c⟩:=M.ge i k g h3
   exact ⟨a,m',l',keyo _ _ b,c⟩
  .obtain ⟨a,b,_⟩:=h1 k g h3.symm
   exact ⟨a,m,l,by simp [M.len],b⟩
 .rcases key i _ h with h3 | ⟨rfl,h3⟩
  .obtain ⟨m',b⟩:=M.no i h3
   exact ⟨m',keyo _ _ b⟩
  .exact ⟨m,by rw [h2 h3.symm];simp [M.len]⟩
 .rcases key i _ hi with h3 | ⟨e3,h3⟩<;>rcases key j _ hj with h4 | ⟨e4,h4⟩
  .exact M.inj i j k g g' h3 h4
  .exact absurd (zla h3) ((h1 k g' h4.symm).2.2 g)
  .exact absurd (zla h4) ((h1 k g h3.symm).2.2 g')
  .omega
section
variable {h:HP} {ρ':RO} {Ao:CH} {n n0:Nat} {w:World}
def Fin (h:HP) (ρ':RO) (n:Nat) (sel:Dh) (e:AV) (v:Value):Prop:=∀s2:Dh,AN h (ρS ρ' n (sel++s2)) e v
theorem Tm (m:SatH h ρ' Ao n0 w) {sel:Dh} {o outs:Bw} {e a:AV} {K:Dh→Bw→Prop} {v:Value} (M:MtS Ao n sel o) (r:AN h ρ' a v) (hm:VB Ao n sel outs e a K) :
  ∃s2 o2 outs2,outs=o2++outs2∧MtS Ao n (sel++s2) (o++o2)∧Fin h ρ' n (sel++s2) e v∧K (sel++s2) outs2:=by
 have pure:∀e,Di Ao a=some e→Fin h ρ' n sel e v:=fun e he s2=>.pu _ _ (FY m r he).1
 have sel0:∀{e},Fin h ρ' n sel e v→K sel outs→∃s2 o2 outs2,outs=o2++outs2∧MtS Ao n (sel++s2) (o++o2)∧Fin h ρ' n (sel++s2) e v∧K (sel++s2) outs2:=by
  intro e f k
  exact ⟨[],[],outs,rfl,by simpa using M,by simpa using f,by simpa using k⟩
 unfold VB at hm
 split at hm
 .rename_i j g0 len
  rcases hm with ⟨k,g,m',l,rr,rfl,rfl,rfl,rfl,hk,hf,hg,hK⟩ | ⟨m',rr,rfl,rfl,rfl,rfl,rfl,hK⟩ | ⟨rfl,hj,hK⟩
  .refine ⟨[some (k,g)],[(m',l)],rr,rfl,M.snoc (fun k' g' h=>by cases h;exact ⟨hk,hg,hf⟩) (fun h=>by cases h),fun s2=>?_,hK⟩
   cases r with
   | pu _ _ p=>cases p
   | rw _ _ _ cap a ob e hl ha =>
    exact .rw _ _ _ cap a ob ((ρS_new (by simp)).trans e) hl ha
  .refine ⟨[none],[(m',[])],rr,rfl,M.snoc (fun k' g' h=>by cases h) (fun _=>rfl),fun s2=>?_,hK⟩
   cases r with
   | pu _ _ p =>
    cases p with
    | e0 a=>exact .rw _ _ _ 0 a none (ρS_none (by simp)) (Nat.le_refl _) (fun b hb=>by cases hb)
  .exact sel0 (fun s2=>Et (α:=.rw j g0 len) hj r) hK
 .rename_i e B2
  rcases hm with ⟨rfl,hl,hK⟩ | ⟨hp,hK⟩
  .exact sel0 (fun s2=>Et hl r) hK
  .exact sel0 (pure _ hp) hK
theorem ZT (m:SatH h ρ' Ao n0 w):∀{E A:List AV} {sel:Dh} {o outs:Bw} {K:Dh→Bw→Prop} {vs:List Value},MtS Ao n sel o→Br h ρ' A vs→X4 Ao n sel outs E A K →
  ∃s2 o2 outs2,outs=o2++outs2∧MtS Ao n (sel++s2) (o++o2)∧(∀s3:Dh,Br h (ρS ρ' n (sel++s2++s3)) E vs)∧K (sel++s2) outs2:=by
 intro E
 induction E with
 | nil =>
  intro A sel o outs K vs M r hm
  cases A with
  | nil =>
   have:vs=[]:=by have:=r.1;simpa using this.symm
   subst this
   exact ⟨[],[],outs,rfl,by simpa using M,fun s3=>Br.nil,by simpa [X4] using hm⟩
  | cons a A=>simp [X4] at hm
 | cons e E ih =>
  intro A sel o outs K vs M r hm
  cases A with
  | nil=>simp [X4] at hm
  | cons a A =>
   cases vs with
   | nil=>have:=r.1;simp at this
   | cons v vs =>
    have r1:AN h ρ' a v:=r.2 0 a v rfl rfl
    have r2:Br h ρ' A vs:=⟨by have:=r.1;simpa using this,fun j α u x y=>r.2 (j+1) α u (by simpa using x) (by simpa using y)⟩
    obtain ⟨s2,o2,outs2,e1,e2,e3,e4⟩:=Tm m M r1 hm
    obtain ⟨s4,o4,outs4,f1,f2,f3,f4⟩:=ih e2 r2 e4
    refine ⟨s2++s4,o2++o4,outs4,by rw [e1,f1,zlf],by simpa [zlf] using f2,fun s3=>?_,by simpa [zlf] using f4⟩
    have a1:=e3 (s4++s3)
    have a2:=f3 s3
    simp only [zlf] at a1 a2 ⊢
    exact Br.cons a1 a2
theorem UU (m:SatH h ρ' Ao n0 w) {sel:Dh} {o outs:Bw} {e a:AV} {K:Dh→Bw→Prop} {v:Value} (M:MtS Ao n sel o) (r:AN h ρ' a v) (hm:Wv Ao n sel outs e a K) :
  ∃s2 o2 outs2,outs=o2++outs2∧MtS Ao n (sel++s2) (o++o2)∧Fin h ρ' n (sel++s2) e v∧K (sel++s2) outs2:=by
 unfold Wv at hm
 split at hm
 .rename_i E A
  obtain ⟨vs,rfl,rs⟩:=r.agg
  obtain ⟨s2,o2,outs2,e1,e2,e3,e4⟩:=ZT m M rs hm
  exact ⟨s2,o2,outs2,e1,e2,fun s3=>AN.mkAgg (e3 s3),e4⟩
 .exact hm.elim
 .exact Tm m M r hm
theorem Y6 (m:SatH h ρ' Ao n0 w):∀{E A:List AV} {sel:Dh} {o outs:Bw} {K:Dh→Bw→Prop} {vs:List Value},MtS Ao n sel o→Br h ρ' A vs→YT Ao n sel outs E A K →
  ∃s2 o2 outs2,outs=o2++outs2∧MtS Ao n (sel++s2) (o++o2)∧(∀s3:Dh,Br h (ρS ρ' n (sel++s2++s3)) E vs)∧K (sel++s2) outs2:=by
 intro E
 induction E with
 | nil =>
  intro A sel o outs K vs M r hm
  cases A with
  | nil =>
   have:vs=[]:=by have:=r.1;simpa using this.symm
   subst this
   exact ⟨[],[],outs,rfl,by simpa using M,fun s3=>Br.nil,by simpa [YT] using hm⟩
  | cons a A=>simp [YT] at hm
 | cons e E ih =>
  intro A sel o outs K vs M r hm
  cases A with
  | nil=>simp [YT] at hm
  | cons a A =>
   cases vs with
   | nil=>have:=r.1;simp at this
   | cons v vs =>
    have r1:AN h ρ' a v:=r.2 0 a v rfl rfl
    have r2:Br h ρ' A vs:=⟨by have:=r.1;simpa using this,fun j α u x y=>r.2 (j+1) α u (by simpa using x) (by simpa using y)⟩
    obtain ⟨s2,o2,outs2,e1,e2,e3,e4⟩:=UU m M r1 hm
    obtain ⟨s4,o4,outs4,f1,f2,f3,f4⟩:=ih e2 r2 e4
    refine ⟨s2++s4,o2++o4,outs4,by rw [e1,f1,zlf],by simpa [zlf] using f2,fun s3=>?_,by simpa [zlf] using f4⟩
    have a1:=e3 (s4++s3)
    have a2:=f3 s3
    simp only [zlf] at a1 a2 ⊢
    exact Br.cons a1 a2
theorem OG (m:SatH h ρ' Ao n0 w) {outs:Bw} {e a:AV} {v:Value} (r:AN h ρ' a v) (hm:mtR Ao n outs e a fun _ o=>o=[]) :
  ∃sel,MtS Ao n sel outs∧AN h (ρS ρ' n sel) e v:=by
 unfold mtR at hm
 split at hm
 .rename_i E A
  obtain ⟨vs,rfl,rs⟩:=r.tup
  obtain ⟨s2,o2,outs2,e1,e2,e3,e4⟩:=Y6 m (MtS.nil Ao n) rs hm
  subst e4
  simp only [zli,List.append_nil] at e1 e2
  subst e1
  have:=e3 []
  simp only [zli,List.append_nil] at this
  exact ⟨s2,e2,AN.mkTup this⟩
 .exact hm.elim
 .obtain ⟨s2,o2,outs2,e1,e2,e3,e4⟩:=UU m (MtS.nil Ao n) r hm
  subst e4
  simp only [zli,List.append_nil] at e1 e2
  subst e1
  have:=e3 []
  simp only [zli,List.append_nil] at this
  exact ⟨s2,e2,this⟩
end
def BR:Nat→Bw→CH
 | _,[]=>[]
 | n,(m,l)::r=>(n,.rw 0 m l)::BR (n+1) r
theorem Co:∀{outs:Bw} {n k:Nat} {hp:CH},k<n→gc (BR n outs++hp) k=gc hp k
 | [],n,k,hp,h=>rfl
 | (m,l)::r,n,k,hp,h=>by
  show gc ((n,_)::(BR (n+1) r++hp)) k=_
  rw [Aq _ _ (by omega)]
  exact Co (by omega)
theorem CB:∀{outs:Bw} {n i m:Nat} {l:List (List AV)} {hp:CH},outs[i]?=some (m,l)→gc (BR n outs++hp) (n+i)=.rw 0 m l
 | [],n,i,m,l,hp,h=>by simp at h
 | (m',l')::r,n,0,m,l,hp,h=>by
  simp at h
  obtain ⟨rfl,rfl⟩:=h
  exact Av _ _ _
 | (m',l')::r,n,i+1,m,l,hp,h=>by
  show gc ((n,_)::(BR (n+1) r++hp)) (n+(i+1))=_
  rw [Aq _ _ (by omega),show n+(i+1)=n+1+i by omega]
  exact CB (by simpa using h)
theorem Dp:∀{outs:Bw} {n k:Nat} {hp:CH},n+outs.length≤k→gc (BR n outs++hp) k=gc hp k
 | [],n,k,hp,h=>rfl
 | (m,l)::r,n,k,hp,h=>by
  show gc ((n,_)::(BR (n+1) r++hp)) k=_
  simp only [List.length_cons] at h
  rw [Aq _ _ (by omega)]
  exact Dp (by omega)
def Ap.lt1 (n:Nat):Ap→Prop
 | .bx cs=>∀α∈cs,α.lt1 n
 | .rn _ _ l=>∀e∈l,∀α∈e,α.lt1 n
 | _=>True
def G6:CH→List AV→List AV→CH
 | hp,.rw _ _ _::E,_::A=>G6 hp E A
 | hp,_::E,a::A=>G6 (shutC hp a) E A
 | hp,_,_=>hp
theorem IB {ρ:RO} {n:Nat} {w:World}:∀{E A:List AV} {h:HP} {hp:CH},SatH h ρ hp n w→∃h',B8 h h'∧SatH h' ρ (G6 hp E A) n w∧∀b,A9 ρ (G6 hp E A) b→A9 ρ hp b:=by
 intro E
 induction E with
 | nil=>intro A h hp m;exact ⟨h,B8.refl _,by simpa [G6] using m,fun b hb=>by simpa [G6] using hb⟩
 | cons e E ih =>
  intro A h hp m
  cases A with
  | nil =>
   have:G6 hp (e::E) []=hp:=by cases e<;>rfl
   rw [this]
   exact ⟨h,B8.refl _,m,fun b hb=>hb⟩
  | cons a A =>
   by_cases hr:∃j g l,e=.rw j g l
   .obtain ⟨j,g,l,rfl⟩:=hr
    exact ih m
   .have:G6 hp (e::E) (a::A)=G6 (shutC hp a) E A:=by
     cases e<;>first | rfl | exact absurd ⟨_,_,_,rfl⟩ hr
    rw [this]
    obtain ⟨h1,a1,a2,a3⟩:=SatH.shutL (h:=h) [a] m
    obtain ⟨h2,b1,b2,b3⟩:=ih a2
    exact ⟨h2,a1.trans b1,b2,fun b hb=>a3 b (b3 b hb)⟩
/-! ### The same,to be reckoned -/
def MM (k:Nat):Dh→Prop
 | []=>True
 | none::r=>MM k r
 | some (k',_)::r=>k≠k'∧MM k r
theorem Jc {k:Nat}:∀{sel:Dh},MM k sel→∀g',some (k,g') ∉ sel
 | [],_,g',h=>by cases h
 | none::r,hn,g',h=>by
  rcases List.mem_cons.1 h with e | e
  .cases e
  .exact Jc (sel:=r) hn g' e
 | some (k',g)::r,hn,g',h=>by
  rcases List.mem_cons.1 h with e | e
  .cases e;exact hn.1 rfl
  .exact Jc (sel:=r) hn.2 g' e
def fP (n:Nat) (e a:AV):Option AV→Prop
 | some b=>b=e
 | none=>a=e∧e.lt1 n
def fC (Ao:CH) (n:Nat) (sel:Dh) (outs:Bw) (K:Dh→Bw→Prop):AV→AV→Prop
 | .rw j g0 len,.rw k g len'=>match outs with
  | (m,l)::r=>j=n+sel.length∧g0=0∧len=len'∧n≤k∧MM k sel∧gc Ao k=.rw g m l∧K (sel++[some (k,g)]) r
  | []=>j=k∧g0=g∧len=len'∧j<n∧K sel []
 | .rw j g0 len,.e0=>match outs with
  | (m,l)::r=>j=n+sel.length∧g0=0∧len=0∧l=[]∧K (sel++[none]) r
  | []=>False
 | .rw _ _ _,_=>False
 | e,a=>fP n e a (Di Ao a)∧K sel outs
theorem XK {Ao:CH} {n:Nat} {sel:Dh} {outs:Bw} {K:Dh→Bw→Prop} {e a:AV} (h:fC Ao n sel outs K e a):VB Ao n sel outs e a K:=by
 have key:∀e a,(∀j g l,e≠.rw j g l)→fP n e a (Di Ao a)∧K sel outs→VB Ao n sel outs e a K:=by
  intro e a B2 ⟨h1,h2⟩
  have:(a=e∧e.lt1 n∧K sel outs)∨(Di Ao a=some e∧K sel outs):=by
   cases hp:Di Ao a with
   | none=>rw [hp] at h1;exact .inl ⟨h1.1,h1.2,h2⟩
   | some b=>rw [hp] at h1;exact .inr ⟨by rw [show b=e from h1],h2⟩
  unfold VB
  cases e<;>first | exact this | exact absurd rfl (B2 _ _ _)
 unfold fC at h
 split at h
 .split at h
  .obtain ⟨a1,a2,a3,a4,a5,a6,a7⟩:=h
   subst a2;subst a3
   exact .inl ⟨_,_,_,_,_,rfl,rfl,a1,rfl,a4,Jc a5,a6,a7⟩
  .obtain ⟨a1,a2,a3,a4,a5⟩:=h
   subst a1;subst a2;subst a3
   exact .inr (.inr ⟨rfl,a4,a5⟩)
 .split at h
  .obtain ⟨a1,a2,a3,a4,a5⟩:=h
   subst a2;subst a3;subst a4
   exact .inr (.inl ⟨_,_,rfl,rfl,a1,rfl,rfl,a5⟩)
  .exact h.elim
 .exact h.elim
 .rename_i h1 h2 h3
  exact key _ _ (fun j g l e=>by first | exact h3 j g l e | exact h1 j g l e | exact h2 j g l e) h
def fL (Ao:CH) (n:Nat) (K:Dh→Bw→Prop):List AV→List AV→Dh→Bw→Prop
 | [],[],sel,outs=>K sel outs
 | e::E,a::A,sel,outs=>fC Ao n sel outs (fL Ao n K E A) e a
 | _,_,_,_=>False
theorem I8 {Ao:CH} {n:Nat} {sel:Dh} {outs:Bw} {K K':Dh→Bw→Prop} {e a:AV} (hk:∀s o,K s o→K' s o) (h:VB Ao n sel outs e a K):VB Ao n sel outs e a K':=by
 unfold VB at *
 split at h
 .rcases h with ⟨k,g,m',l,rr,a1,a2,a3,a4,a5,a6,a7,a8⟩ | ⟨m',rr,a1,a2,a3,a4,a5,a6⟩ | ⟨a1,a2,a3⟩
  .exact .inl ⟨k,g,m',l,rr,a1,a2,a3,a4,a5,a6,a7,hk _ _ a8⟩
  .exact .inr (.inl ⟨m',rr,a1,a2,a3,a4,a5,hk _ _ a6⟩)
  .exact .inr (.inr ⟨a1,a2,hk _ _ a3⟩)
 .rcases h with ⟨a1,a2,a3⟩ | ⟨a1,a2⟩
  .exact .inl ⟨a1,a2,hk _ _ a3⟩
  .exact .inr ⟨a1,hk _ _ a2⟩
theorem XT {Ao:CH} {n:Nat} {K:Dh→Bw→Prop}:∀{E A:List AV} {sel:Dh} {outs:Bw},fL Ao n K E A sel outs→X4 Ao n sel outs E A K
 | [],[],sel,outs,h=>h
 | e::E,a::A,sel,outs,h=>I8 (fun s o=>XT) (XK h)
 | [],a::A,_,_,h=>h.elim
 | e::E,[],_,_,h=>h.elim
def fA (Ao:CH) (n:Nat) (sel:Dh) (outs:Bw) (K:Dh→Bw→Prop):AV→AV→Prop
 | .ag E,.ag A=>fL Ao n K E A sel outs
 | .ag _,_=>False
 | e,a=>fC Ao n sel outs K e a
theorem XM {Ao:CH} {n:Nat} {sel:Dh} {outs:Bw} {K:Dh→Bw→Prop} {e a:AV} (h:fA Ao n sel outs K e a):Wv Ao n sel outs e a K:=by
 unfold fA at h
 unfold Wv
 split at h
 .exact XT h
 .exact h.elim
 .rename_i h1 h2
  exact XK h
def fT (Ao:CH) (n:Nat) (K:Dh→Bw→Prop):List AV→List AV→Dh→Bw→Prop
 | [],[],sel,outs=>K sel outs
 | e::E,a::A,sel,outs=>fA Ao n sel outs (fT Ao n K E A) e a
 | _,_,_,_=>False
theorem MO {Ao:CH} {n:Nat} {K K':Dh→Bw→Prop} (hk:∀s o,K s o→K' s o):∀{E A:List AV} {sel:Dh} {outs:Bw},X4 Ao n sel outs E A K→X4 Ao n sel outs E A K'
 | [],[],sel,outs,h=>hk _ _ h
 | e::E,a::A,sel,outs,h=>I8 (fun s o=>MO hk) h
 | [],a::A,_,_,h=>h.elim
 | e::E,[],_,_,h=>h.elim
theorem Vj {Ao:CH} {n:Nat} {sel:Dh} {outs:Bw} {K K':Dh→Bw→Prop} {e a:AV} (hk:∀s o,K s o→K' s o) (h:Wv Ao n sel outs e a K):Wv Ao n sel outs e a K':=by
 unfold Wv at *
 split at h
 .exact MO hk h
 .exact h.elim
 .exact I8 hk h
theorem XE {Ao:CH} {n:Nat} {K:Dh→Bw→Prop}:∀{E A:List AV} {sel:Dh} {outs:Bw},fT Ao n K E A sel outs→YT Ao n sel outs E A K
 | [],[],sel,outs,h=>h
 | e::E,a::A,sel,outs,h=>Vj (fun s o=>XE) (XM h)
 | [],a::A,_,_,h=>h.elim
 | e::E,[],_,_,h=>h.elim
def F9 (_:Dh) (o:Bw):Prop:=o=[]
def fR (Ao:CH) (n:Nat) (outs:Bw):AV→AV→Prop
 | .tp E,.tp A=>fT Ao n F9 E A [] outs
 | .tp _,_=>False
 | e,a=>fA Ao n [] outs F9 e a
theorem TV {Ao:CH} {n:Nat} {outs:Bw} {e a:AV} (h:fR Ao n outs e a):mtR Ao n outs e a fun _ o=>o=[]:=by
 unfold fR at h
 unfold mtR
 split at h
 .exact XE h
 .exact h.elim
 .rename_i h1 h2
  exact XM h
def JU (Hm:CH) (n:Nat) (outs:Bw) (r:AV) (Ao:CH) (_:Nat) (r':AV):Prop :=
 Up n Hm (G6 Ao (Bc r) (Bc r'))∧fR (G6 Ao (Bc r) (Bc r')) n outs r r'
theorem AI.out {P:Program} {f:FuncId} {hp Hm:CH} {n:Nat} {args:List AV} {outs:Bw} {r:AV} (h1:∀k,k<n→gc Hm k=gc hp k∨(gc Hm k).lt1 n) (BP:∀k,n≤k→gc Hm k=.no)
  (m0:AI P f hp n args (JU Hm n outs r)):AQ P f hp n args (BR n outs++Hm) (n+outs.length) r:=by
 refine ⟨m0.1,fun h ρ w vs hs ha=>(m0.2 h ρ w vs hs ha).mono fun e w' ⟨v,he,h',ρ',Ao,n',r',⟨e1,e2⟩,hh,hr,hm,BW,hk,hl⟩=>?_⟩
 have e2:=TV e2
 obtain ⟨h2,a1,a2,a3⟩:=IB (E:=Bc r) (A:=Bc r') hm
 generalize G6 Ao (Bc r) (Bc r')=hq at *
 obtain ⟨sel,M,rel⟩:=OG a2 (BW.mono a1 (BS.refl _)) e2
 have hρ:BS ρ (ρS ρ' n sel):=fun k g x hx=>by
  rcases znb k n with Bt | Bt
  .rw [ρS_lt Bt];exact hr _ _ _ hx
  .rw [hs.fr k g Bt] at hx;cases hx
 -- what may be written
 have Eh:∀k g b c,(gc (BR n outs++Hm) k).own g→ρS ρ' n sel k g=some (some b,c)→∃k2 g2,(gc hq k2).own g2∧ρ' k2 g2=some (some b,c)∧(k<n→k2=k)∧(n≤k→∃i,k=n+i∧sel[i]?=some (some (k2,g2))):=by
  intro k g b c hg hx
  rcases znb k n with Bt | Bt
  .rw [Co Bt] at hg
   rw [ρS_lt Bt] at hx
   exact ⟨k,g,by rw [e1 k Bt];exact hg,hx,fun _=>rfl,fun h=>by omega⟩
  .obtain ⟨i,rfl⟩:∃i,k=n+i:=⟨k - n,by omega⟩
   rcases znb i outs.length with hi | hi
   .have ho:outs[i]?=some outs[i]:=zlg hi
    have JP:i<sel.length:=by rw [M.len];exact hi
    have EG:sel[i]?=some sel[i]:=zlg JP
    rw [CB (m:=outs[i].1) (l:=outs[i].2) ho] at hg
    cases hg
    cases FI:sel[i] with
    | none =>
     rw [FI] at EG
     rw [ρS_none EG] at hx
     cases hx
    | some p =>
     obtain ⟨k2,g2⟩:=p
     rw [FI] at EG
     rw [ρS_new EG] at hx
     obtain ⟨_,m2,l2,_,q⟩:=M.ge i k2 g2 EG
     exact ⟨k2,g2,by rw [q];rfl,hx,fun h=>by omega,fun _=>⟨i,rfl,EG⟩⟩
   .rw [Dp (by omega),BP _ (by omega)] at hg
    cases hg
 have AJ:∀b,A9 (ρS ρ' n sel) (BR n outs++Hm) b→A9 ρ' hq b:=fun b ⟨k,g,c,hg,hx⟩=>by
  obtain ⟨k2,g2,q1,q2,_⟩:=Eh k g b c hg hx
  exact ⟨k2,g2,c,q1,q2⟩
 refine ⟨v,he,h2,ρS ρ' n sel,_,_,r,⟨rfl,rfl,rfl⟩,hh.trans a1,hρ,⟨a2.hh,fun k=>?_,fun k k' g g' b c c' q1 q2 q3 q4=>?_,fun b hb=>a2.hid b (AJ b hb),fun b hb=>a2.lt b (AJ b hb),fun k g hk=>?_,fun k g g' x q1 q2=>?_,a2.gl⟩,rel,hk,fun b hb=>hl b (a3 b (AJ b hb))⟩
 .rcases znb k n with Bt | Bt
  .rw [Co Bt]
   have s1:=a2.ch k
   rw [e1 k Bt] at s1
   rcases h1 k Bt with hu | hu
   .have s0:=hs.ch k
    rw [←hu] at s0
    exact Ap.sat_mono (B8.refl _) hρ (fun _ _ _ _ _=>rfl) (Ap.back hr s0 s1)
   .cases hc:gc Hm k with
    | no=>trivial
    | bx cs =>
     rw [hc] at s1 hu
     obtain ⟨b,c,vs',ty,b1,b2,b3,b4⟩:=s1
     exact ⟨b,c,vs',ty,(ρS_lt Bt 0).trans b1,b2,b3,fun j α u x y=>Et (hu α (zla x)) (b4 j α u x y)⟩
    | rw g mm l =>
     rw [hc] at s1
     obtain ⟨ob,cap,b1,b2⟩:=s1
     exact ⟨ob,cap,(ρS_lt Bt g).trans b1,b2⟩
    | sh g mm l =>
     rw [hc] at s1
     obtain ⟨ob,cap,b1,b2⟩:=s1
     exact ⟨ob,cap,(ρS_lt Bt g).trans b1,b2⟩
    | rc g mm cap l =>
     rw [hc] at s1
     obtain ⟨ob,b1,b2⟩:=s1
     exact ⟨ob,(ρS_lt Bt g).trans b1,b2⟩
    | mp l =>
     rw [hc] at s1
     obtain ⟨b,c,es,cl,b1,b2⟩:=s1
     exact ⟨b,c,es,cl,(ρS_lt Bt 0).trans b1,b2⟩
    | mq F =>
     rw [hc] at s1
     obtain ⟨b,c,es,cl,b1,b2⟩:=s1
     exact ⟨b,c,es,cl,(ρS_lt Bt 0).trans b1,b2⟩
    | mr l sn =>
     rw [hc] at s1
     obtain ⟨b,c,es,cl,b1,q1,q2,q3,q4,b2,c2,sn2,g2,q5⟩:=s1
     exact ⟨b,c,es,cl,(ρS_lt Bt 0).trans b1,q1,q2,q3,q4,b2,c2,sn2,(ρS_lt Bt 1).trans g2,q5⟩
    | ro cs =>
     rw [hc] at s1
     obtain ⟨b,c,us,e,fr,b1,b2⟩:=s1
     exact ⟨b,c,us,e,fr,(ρS_lt Bt 0).trans b1,b2⟩
    | rn g mm l =>
     rw [hc] at s1 hu
     obtain ⟨ob,cap,b1,b2,b2',b3,b4,b5⟩:=s1
     refine ⟨ob,cap,(ρS_lt Bt g).trans b1,b2,b2',b3,b4,fun b hb=>?_⟩
     obtain ⟨vs',ty,c1,c2,c3⟩:=b5 b hb
     exact ⟨vs',ty,c1,c2,fun j x q α y1 y2=>let ⟨u,z1,z2⟩:=c3 j x q α y1 y2;⟨u,z1,Et (hu x (zla y1) α (zla y2)) z2⟩⟩
    | sb T e g bs =>
     rw [hc] at s1
     obtain ⟨b,c,p,v,b1,b2,b3,b4,b5,⟨y,b6⟩,b7⟩:=s1
     exact ⟨b,c,p,v,(ρS_lt Bt 0).trans b1,b2,b3,b4,b5,⟨y,(ρS_lt Bt g).trans b6⟩,fun x hx=>⟨(b7 x hx).1,let ⟨c2,q⟩:=(b7 x hx).2;⟨c2,(ρS_lt Bt g).trans q⟩⟩⟩
  .obtain ⟨i,rfl⟩:∃i,k=n+i:=⟨k - n,by omega⟩
   rcases znb i outs.length with hi | hi
   .have ho:outs[i]?=some outs[i]:=zlg hi
    have JP:i<sel.length:=by rw [M.len];exact hi
    have EG:sel[i]?=some sel[i]:=zlg JP
    rw [CB (m:=outs[i].1) (l:=outs[i].2) ho]
    cases FI:sel[i] with
    | none =>
     rw [FI] at EG
     obtain ⟨m2,q⟩:=M.no i EG
     rw [ho] at q
     have q:outs[i]=(m2,[]):=Option.some.inj q
     rw [q]
     exact ⟨none,0,ρS_none EG,by simp,by simp [maxLen],fun j e h=>by simp at h,fun _=>rfl,fun b hb=>by cases hb⟩
    | some p =>
     obtain ⟨k2,g2⟩:=p
     rw [FI] at EG
     obtain ⟨_,m2,l2,q1,q2⟩:=M.ge i k2 g2 EG
     rw [ho] at q1
     have q1:outs[i]=(m2,l2):=Option.some.inj q1
     have s1:=a2.ch k2
     rw [q2] at s1
     rw [q1]
     obtain ⟨ob,cap,b1,b2⟩:=s1
     exact ⟨ob,cap,(ρS_new EG).trans b1,b2⟩
   .rw [Dp (by omega),BP _ (by omega)]
    trivial
 .obtain ⟨k2,g2,x1,x2,x3,x4⟩:=Eh k g b c q1 q3
  obtain ⟨k2',g2',y1,y2,y3,y4⟩:=Eh k' g' b c' q2 q4
  have e3:=a2.inj k2 k2' g2 g2' b c c' x1 y1 x2 y2
  subst e3
  rcases znb k n with Bt | Bt<;>rcases znb k' n with Ee | Ee
  .rw [←x3 Bt,←y3 Ee]
  .obtain ⟨i,_,JK⟩:=y4 Ee
   have:=(M.ge i k2 g2' JK).1
   have:=x3 Bt
   omega
  .obtain ⟨i,_,JK⟩:=x4 Bt
   have:=(M.ge i k2 g2 JK).1
   have:=y3 Ee
   omega
  .obtain ⟨i,rfl,JK⟩:=x4 Bt
   obtain ⟨j,rfl,hs3⟩:=y4 Ee
   rw [M.inj i j k2 g2 g2' JK hs3]
 .have Bt:¬k<n:=by omega
  have:sel[k - n]?=none:=List.getElem?_eq_none (by rw [M.len];omega)
  simp [ρS,Bt,this]
 .rcases znb k n with Bt | Bt
  .rw [Co Bt] at q1
   rw [ρS_lt Bt] at q2
   exact a2.gens k g g' x (by rw [e1 k Bt];exact q1) q2
  .by_cases hg:g'=0
   .omega
   .have Ee:¬k<n:=by omega
    simp [ρS,Ee,hg] at q2
theorem Fy {P : Program} {f : FuncId} {fn : Func} {k : CC} {rs : List RS} (hf : P.funcs[f]? = some fn) (Fn : (fn.name == "runtime.NumGoroutine") = false)
  (hc:fn.body.bind (BL P fn.ntmps)=some k.erase) (GG:MW P fn.ntmps fn.results.toList=some rs) {hp:CH} {n:Nat} {args:List AV} {outs:Bw} {r:AV} (Bb:Nat.ble args.length fn.ntmps=true)
  (hv:(∀k,n≤k→gc hp k=.no)→vc P k ⟨Cu 0 args,hp,n⟩ (Ji rs (JU hp n outs r))):AQ P f hp n args (BR n outs++hp) (n+outs.length) r:=by
 have Io := (by obtain ⟨c, hb, Oo⟩ := bd hc; exact ⟨fn, hf, Fn, by rw [hb]; rfl⟩ : ∃ fn, P.funcs[f]? = some fn ∧ (fn.name == "runtime.NumGoroutine") = false ∧ fn.body.isNone = false)
 refine ⟨Io,fun h ρ w vs hs ha=>?_⟩
 exact (AI.out (fun k _=>.inl rfl) hs.free (Ib hf Fn hc GG Bb (hv hs.free))).2 h ρ w vs hs ha
theorem AQ.toF {P:Program} {f:FuncId} {hp Hm:CH} {n n1:Nat} {args:List AV} {r0 r:AV} (m:AQ P f hp n args Hm n1 r0) (h:PX hp n r Hm n1 r0):Ah P f hp n args r :=
 AI.toF ⟨m.1,fun h' ρ w vs hs ha=>(m.2 h' ρ w vs hs ha).mono fun e w' ⟨v,he,h2,ρ',Ao,n',r',⟨e1,e2,e3⟩,x⟩=>⟨v,he,h2,ρ',Ao,n',r',by subst e1;subst e2;subst e3;exact h,x⟩⟩
/-! ### Reckoning -/
section
variable {Ao:CH} {n:Nat} {sel:Dh} {outs:Bw} {K:Dh→Bw→Prop}
theorem U7 {k:Nat}:MM k []=True:=nd rfl
theorem Rv {k k' g:Nat} {r:Dh}:MM k (some (k',g)::r)=(k≠k'∧MM k r):=nd rfl
theorem Xj {e a b:AV}:fP n e a (some b)=(b=e):=nd rfl
theorem Abs {j g0 len k g len' m:Nat} {l:List (List AV)} {r:Bw}:fC Ao n sel ((m,l)::r) K (.rw j g0 len) (.rw k g len')=(j=n+sel.length∧g0=0∧len=len'∧n≤k∧MM k sel∧gc Ao k=.rw g m l∧K (sel++[some (k,g)]) r):=nd rfl
theorem YY {j g0 len k g len':Nat}:fC Ao n sel [] K (.rw j g0 len) (.rw k g len')=(j=k∧g0=g∧len=len'∧j<n∧K sel []):=nd rfl
theorem Ac6 {j g0 len m:Nat} {l:List (List AV)} {r:Bw}:fC Ao n sel ((m,l)::r) K (.rw j g0 len) .e0=(j=n+sel.length∧g0=0∧len=0∧l=[]∧K (sel++[none]) r):=nd rfl
theorem Ag1 {x:Bool} {a:AV}:fC Ao n sel outs K (.b x) a=(fP n (.b x) a (Di Ao a)∧K sel outs):=nd (by cases a<;>rfl)
theorem Aii {k:IntKind} {x:Int} {a:AV}:fC Ao n sel outs K (.i k x) a=(fP n (.i k x) a (Di Ao a)∧K sel outs):=nd (by cases a<;>rfl)
theorem Ahm {x:ByteArray} {a:AV}:fC Ao n sel outs K (.s x) a=(fP n (.s x) a (Di Ao a)∧K sel outs):=nd (by cases a<;>rfl)
theorem Abv {x:List (List AV)} {a:AV}:fC Ao n sel outs K (.ds x) a=(fP n (.ds x) a (Di Ao a)∧K sel outs):=nd (by cases a<;>rfl)
theorem Aau:fL Ao n K [] [] sel outs=K sel outs:=nd rfl
theorem WY {e a:AV} {E A:List AV}:fL Ao n K (e::E) (a::A) sel outs=fC Ao n sel outs (fL Ao n K E A) e a:=nd rfl
theorem Ade {E A:List AV}:fA Ao n sel outs K (.ag E) (.ag A)=fL Ao n K E A sel outs:=nd rfl
theorem Ahh {x:Bool} {a:AV}:fA Ao n sel outs K (.b x) a=fC Ao n sel outs K (.b x) a:=nd (by cases a<;>rfl)
theorem Ah3 {k:IntKind} {x:Int} {a:AV}:fA Ao n sel outs K (.i k x) a=fC Ao n sel outs K (.i k x) a:=nd (by cases a<;>rfl)
theorem Aen {x:List (List AV)} {a:AV}:fA Ao n sel outs K (.ds x) a=fC Ao n sel outs K (.ds x) a:=nd (by cases a<;>rfl)
theorem Ad9 {j g len:Nat} {a:AV}:fA Ao n sel outs K (.rw j g len) a=fC Ao n sel outs K (.rw j g len) a:=nd (by cases a<;>rfl)
theorem Yc:fT Ao n K [] [] sel outs=K sel outs:=nd rfl
theorem Ws {e a:AV} {E A:List AV}:fT Ao n K (e::E) (a::A) sel outs=fA Ao n sel outs (fT Ao n K E A) e a:=nd rfl
theorem Sr {o:Bw}:F9 sel o=(o=[]):=nd rfl
theorem Ae3 {E A:List AV}:fR Ao n outs (.tp E) (.tp A)=fT Ao n F9 E A [] outs:=nd rfl
theorem Ab0 {E:List AV} {a:AV}:fR Ao n outs (.ag E) a=fA Ao n [] outs F9 (.ag E) a:=nd (by cases a<;>rfl)
theorem Ad4 {j g len:Nat} {a:AV}:fR Ao n outs (.rw j g len) a=fA Ao n [] outs F9 (.rw j g len) a:=nd (by cases a<;>rfl)
theorem Agn {x:Bool} {a:AV}:fR Ao n outs (.b x) a=fA Ao n [] outs F9 (.b x) a:=nd (by cases a<;>rfl)
theorem Ab3 {x:List (List AV)} {a:AV}:fR Ao n outs (.ds x) a=fA Ao n [] outs F9 (.ds x) a:=nd (by cases a<;>rfl)
theorem Wk {Hm:CH} {r r':AV} {k:Nat}:JU Hm n outs r Ao k r'=(Up n Hm (G6 Ao (Bc r) (Bc r'))∧fR (G6 Ao (Bc r) (Bc r')) n outs r r'):=nd rfl
theorem Wj {A:List AV}:G6 Ao [] A=Ao:=nd (by cases A<;>rfl)
theorem ZL {j g l:Nat} {a:AV} {E A:List AV}:G6 Ao (.rw j g l::E) (a::A)=G6 Ao E A:=nd rfl
theorem Aca {x:Bool} {a:AV} {E A:List AV}:G6 Ao (.b x::E) (a::A)=G6 (shutC Ao a) E A:=nd rfl
theorem Adx {k:IntKind} {x:Int} {a:AV} {E A:List AV}:G6 Ao (.i k x::E) (a::A)=G6 (shutC Ao a) E A:=nd rfl
theorem Ady {x:ByteArray} {a:AV} {E A:List AV}:G6 Ao (.s x::E) (a::A)=G6 (shutC Ao a) E A:=nd rfl
theorem Zr {x:List (List AV)} {a:AV} {E A:List AV}:G6 Ao (.ds x::E) (a::A)=G6 (shutC Ao a) E A:=nd rfl
theorem Pp (n:Nat):BR n []=[]:=nd rfl
theorem NZ (n m:Nat) (l:List (List AV)) (r:Bw):BR n ((m,l)::r)=(n,.rw 0 m l)::BR (n+1) r:=nd rfl
end
attribute [go_sem] U7 Rv Xj Abs YY Ac6 Ag1 Aii Ahm Abv Aau WY Ade Ahh Ah3 Aen Ad9 Yc Ws Sr Ae3 Ab0 Ad4 Agn Ab3 Wk Wj ZL Aca Adx Ady Zr Pp NZ AV.lt1
/-! ### One row of the caller is written -/
theorem M4 {hp:CH} {m a g n:Nat} {l:List (List AV)} (hf:∀k,m≤k→gc hp k=.no) (h:gc hp a=.rw g n l):a<m:=by
 rcases znb a m with q | q
 .exact q
 .rw [hf a q] at h;cases h
theorem OV {m c:Nat} {X:Ap} {hp a:CH} (h1:gc a c=X) (h2:∀j,j<m→j≠c→gc a j=gc hp j):Up m ((c,X)::hp) a:=fun j hj=>by
 by_cases hc:c=j
 .subst hc
  rw [Av]
  exact h1
 .rw [Aq _ _ hc]
  exact h2 j hj (fun e=>hc e.symm)
theorem FC {m c:Nat} {X:Ap} {hp:CH} (hf:∀k,m≤k→gc hp k=.no) (hc:c<m):∀k,m≤k→gc ((c,X)::hp) k=.no:=fun k hk=>by
 rw [Aq _ _ (by omega)]
 exact hf k hk
theorem NQ {P : Program} {f : FuncId} {fn : Func} {k : CC} {rs : List RS} (hf : P.funcs[f]? = some fn) (Fn : (fn.name == "runtime.NumGoroutine") = false)
  (hc:fn.body.bind (BL P fn.ntmps)=some k.erase) (GG:MW P fn.ntmps fn.results.toList=some rs) {hp:CH} {n c:Nat} {X:Ap} {args:List AV} {r:AV} (Bb:Nat.ble args.length fn.ntmps=true)
  (hX:X.lt1 n) (hcn:(∀k,n≤k→gc hp k=.no)→c<n) (hv:(∀k,n≤k→gc hp k=.no)→vc P k ⟨Cu 0 args,hp,n⟩ (Ji rs (JU ((c,X)::hp) n [] r))):AQ P f hp n args ((c,X)::hp) n r:=by
 have Io := (by obtain ⟨c, hb, Oo⟩ := bd hc; exact ⟨fn, hf, Fn, by rw [hb]; rfl⟩ : ∃ fn, P.funcs[f]? = some fn ∧ (fn.name == "runtime.NumGoroutine") = false ∧ fn.body.isNone = false)
 refine ⟨Io,fun h ρ w vs hs ha=>?_⟩
 refine (AI.out (outs:=[]) (fun k hk=>?_) (FC hs.free (hcn hs.free)) (Ib hf Fn hc GG Bb (hv hs.free))).2 h ρ w vs hs ha
 by_cases hkc:c=k
 .subst hkc
  rw [Av]
  exact .inr hX
 .rw [Aq _ _ hkc]
  exact .inl rfl
end Go.Eng
