/- Proof. Conditions: none. -/
import Derived.Test.YtinbodeocoeneaaGreatDoorIc16
open List renaming mem_of_getElem?→zla,getElem?_eq_some_iff→zlb,append_assoc→zlf,getElem?_eq_getElem→zlg,nil_append→zli
open Nat renaming lt_or_ge→znb
namespace Go.Eng
set_option linter.all false
abbrev Sel:=List (Option (Nat × Nat))
def AV.lt1 (n:Nat):AV→Prop
 | .bx k _=>k<n
 | .rw k _ _=>k<n
 | .mp k=>k<n
 | α=>α.pur=true
def ρS (ρ':RO) (n:Nat) (sel:Sel):RO:=fun k g =>
 if k<n then ρ' k g else if g=0 then (match sel[k - n]? with
  | some (some (k',g'))=>ρ' k' g'
  | some none=>some (none,0)
  | none=>none) else none
theorem ρS_lt {ρ':RO} {n:Nat} {sel:Sel} {k:Nat} (h:k<n) (g:Nat):ρS ρ' n sel k g=ρ' k g:=by simp [ρS,h]
theorem ρS_new {ρ':RO} {n:Nat} {sel:Sel} {i k g:Nat} (h:sel[i]?=some (some (k,g))):ρS ρ' n sel (n+i) 0=ρ' k g:=by
 have:¬(n+i<n):=by omega
 simp [ρS,this,h]
theorem ρS_none {ρ':RO} {n:Nat} {sel:Sel} {i:Nat} (h:sel[i]?=some none):ρS ρ' n sel (n+i) 0=some (none,0):=by
 have:¬(n+i<n):=by omega
 simp [ρS,this,h]
theorem lt1_rel {h:HP} {ρ':RO} {n:Nat} {sel:Sel} {α:AV} {v:Value} (o:α.lt1 n) (r:Rel h ρ' α v):Rel h (ρS ρ' n sel) α v:=by
 cases α with
 | bx k off =>
  cases r with
  | pu _ _ p=>exact .pu _ _ p
  | bx _ _ b c e=>exact .bx _ _ _ _ ((ρS_lt o 0).trans e)
 | rw k g len =>
  cases r with
  | pu _ _ p=>exact .pu _ _ p
  | rw _ _ _ cap a ob e hl ha=>exact .rw _ _ _ _ _ _ ((ρS_lt o g).trans e) hl ha
 | mp k =>
  cases r with
  | pu _ _ p=>exact .pu _ _ p
  | mp _ b c e=>exact .mp _ _ _ ((ρS_lt o 0).trans e)
 | _=>exact .pu _ _ (AV.pur_rel r (by simpa [AV.lt1] using o))
abbrev Outs:=List (Nat × List (List AV))
def mtC (hp':CH) (n:Nat) (sel:Sel) (outs:Outs) (e a:AV) (K:Sel→Outs→Prop):Prop :=
 match e with
 | .rw j g0 len=>(∃k g m l r,a=.rw k g len∧outs=(m,l)::r∧j=n+sel.length∧g0=0∧n≤k∧(∀g',some (k,g') ∉ sel)∧gc hp' k=.rw g m l∧K (sel++[some (k,g)]) r) ∨
   (∃m r,a=.e0∧outs=(m,[])::r∧j=n+sel.length∧g0=0∧len=0∧K (sel++[none]) r)∨(a=.rw j g0 len∧j<n∧K sel outs)
 | e=>(a=e∧e.lt1 n∧K sel outs)∨(pureC hp' a=some e∧K sel outs)
def mtL (hp':CH) (n:Nat):Sel→Outs→List AV→List AV→(Sel→Outs→Prop)→Prop
 | sel,outs,[],[],K=>K sel outs
 | sel,outs,e::E,a::A,K=>mtC hp' n sel outs e a fun sel outs=>mtL hp' n sel outs E A K
 | _,_,_,_,_=>False
def mtA (hp':CH) (n:Nat) (sel:Sel) (outs:Outs) (e a:AV) (K:Sel→Outs→Prop):Prop :=
 match e,a with
 | .ag E,.ag A=>mtL hp' n sel outs E A K
 | .ag _,_=>False
 | e,a=>mtC hp' n sel outs e a K
def mtT (hp':CH) (n:Nat):Sel→Outs→List AV→List AV→(Sel→Outs→Prop)→Prop
 | sel,outs,[],[],K=>K sel outs
 | sel,outs,e::E,a::A,K=>mtA hp' n sel outs e a fun sel outs=>mtT hp' n sel outs E A K
 | _,_,_,_,_=>False
def mtR (hp':CH) (n:Nat) (outs:Outs) (e a:AV) (K:Sel→Outs→Prop):Prop :=
 match e,a with
 | .tp E,.tp A=>mtT hp' n [] outs E A K
 | .tp _,_=>False
 | e,a=>mtA hp' n [] outs e a K
structure MtS (hp':CH) (n:Nat) (sel:Sel) (o:Outs):Prop where
 len:sel.length=o.length
 ge:∀(i:Nat) k g,sel[i]?=some (some (k,g))→n≤k∧∃m l,o[i]?=some (m,l)∧gc hp' k=.rw g m l
 no:∀(i:Nat),sel[i]?=some none→∃m,o[i]?=some (m,[])
 inj:∀(i j:Nat) k g g',sel[i]?=some (some (k,g))→sel[j]?=some (some (k,g'))→i=j
theorem MtS.nil (hp':CH) (n:Nat):MtS hp' n [] []:=⟨rfl,fun i k g h=>by simp at h,fun i h=>by simp at h,fun i j k g g' h=>by simp at h⟩
theorem MtS.snoc {hp':CH} {n:Nat} {sel:Sel} {o:Outs} (M:MtS hp' n sel o) {x:Option (Nat × Nat)} {m:Nat} {l:List (List AV)}
  (h1:∀k g,x=some (k,g)→n≤k∧gc hp' k=.rw g m l∧∀g',some (k,g') ∉ sel) (h2:x=none→l=[]):MtS hp' n (sel++[x]) (o++[(m,l)]):=by
 have key:∀(i:Nat) y,(sel++[x])[i]?=some y→sel[i]?=some y∨(i=sel.length∧y=x):=by
  intro i y h
  rw [List.getElem?_append] at h
  split at h
  .exact .inl h
  .rename_i hi
   right
   have:i - sel.length=0:=by
    have:=(zlb.1 h).1
    simp at this
    omega
   rw [this] at h
   simp at h
   exact ⟨by omega,h.symm⟩
 have keyo:∀(i:Nat) y,o[i]?=some y→(o++[(m,l)])[i]?=some y:=by
  intro i y h
  have hi:=(zlb.1 h).1
  rw [List.getElem?_append_left hi]
  exact h
 refine ⟨by simp [M.len],fun i k g h=>?_,fun i h=>?_,fun i j k g g' hi hj=>?_⟩
 .rcases key i _ h with h3 | ⟨rfl,h3⟩
  .obtain ⟨a,m',l',b,c⟩:=M.ge i k g h3
   exact ⟨a,m',l',keyo _ _ b,c⟩
  .obtain ⟨a,b,_⟩:=h1 k g h3.symm
   exact ⟨a,m,l,by simp [M.len],b⟩
 .rcases key i _ h with h3 | ⟨rfl,h3⟩
  .obtain ⟨m',b⟩:=M.no i h3
   exact ⟨m',keyo _ _ b⟩
  .exact ⟨m,by rw [h2 h3.symm];simp [M.len]⟩
 .rcases key i _ hi with h3 | ⟨e3,h3⟩<;>rcases key j _ hj with h4 | ⟨e4,h4⟩
  .exact M.inj i j k g g' h3 h4
  .exact absurd (zla h3) ((h1 k g' h4.symm).2.2 g)
  .exact absurd (zla h4) ((h1 k g h3.symm).2.2 g')
  .omega
section
variable {h:HP} {ρ':RO} {hp':CH} {n n0:Nat} {w:World}
def Fin (h:HP) (ρ':RO) (n:Nat) (sel:Sel) (e:AV) (v:Value):Prop:=∀s2:Sel,Rel h (ρS ρ' n (sel++s2)) e v
theorem mtC_of (m:SatH h ρ' hp' n0 w) {sel:Sel} {o outs:Outs} {e a:AV} {K:Sel→Outs→Prop} {v:Value} (M:MtS hp' n sel o) (r:Rel h ρ' a v) (hm:mtC hp' n sel outs e a K) :
  ∃s2 o2 outs2,outs=o2++outs2∧MtS hp' n (sel++s2) (o++o2)∧Fin h ρ' n (sel++s2) e v∧K (sel++s2) outs2:=by
 have pure:∀e,pureC hp' a=some e→Fin h ρ' n sel e v:=fun e he s2=>.pu _ _ (pureC_rel m r he).1
 have sel0:∀{e},Fin h ρ' n sel e v→K sel outs→∃s2 o2 outs2,outs=o2++outs2∧MtS hp' n (sel++s2) (o++o2)∧Fin h ρ' n (sel++s2) e v∧K (sel++s2) outs2:=by
  intro e f k
  exact ⟨[],[],outs,rfl,by simpa using M,by simpa using f,by simpa using k⟩
 unfold mtC at hm
 split at hm
 .rename_i j g0 len
  rcases hm with ⟨k,g,m',l,rr,rfl,rfl,rfl,rfl,hk,hf,hg,hK⟩ | ⟨m',rr,rfl,rfl,rfl,rfl,rfl,hK⟩ | ⟨rfl,hj,hK⟩
  .refine ⟨[some (k,g)],[(m',l)],rr,rfl,M.snoc (fun k' g' h=>by cases h;exact ⟨hk,hg,hf⟩) (fun h=>by cases h),fun s2=>?_,hK⟩
   cases r with
   | pu _ _ p=>cases p
   | rw _ _ _ cap a ob e hl ha =>
    exact .rw _ _ _ cap a ob ((ρS_new (by simp)).trans e) hl ha
  .refine ⟨[none],[(m',[])],rr,rfl,M.snoc (fun k' g' h=>by cases h) (fun _=>rfl),fun s2=>?_,hK⟩
   cases r with
   | pu _ _ p =>
    cases p with
    | e0 a=>exact .rw _ _ _ 0 a none (ρS_none (by simp)) (Nat.le_refl _) (fun b hb=>by cases hb)
  .exact sel0 (fun s2=>lt1_rel (α:=.rw j g0 len) hj r) hK
 .rename_i e hne
  rcases hm with ⟨rfl,hl,hK⟩ | ⟨hp,hK⟩
  .exact sel0 (fun s2=>lt1_rel hl r) hK
  .exact sel0 (pure _ hp) hK
theorem mtL_of (m:SatH h ρ' hp' n0 w):∀{E A:List AV} {sel:Sel} {o outs:Outs} {K:Sel→Outs→Prop} {vs:List Value},MtS hp' n sel o→RelL h ρ' A vs→mtL hp' n sel outs E A K →
  ∃s2 o2 outs2,outs=o2++outs2∧MtS hp' n (sel++s2) (o++o2)∧(∀s3:Sel,RelL h (ρS ρ' n (sel++s2++s3)) E vs)∧K (sel++s2) outs2:=by
 intro E
 induction E with
 | nil =>
  intro A sel o outs K vs M r hm
  cases A with
  | nil =>
   have:vs=[]:=by have:=r.1;simpa using this.symm
   subst this
   exact ⟨[],[],outs,rfl,by simpa using M,fun s3=>RelL.nil,by simpa [mtL] using hm⟩
  | cons a A=>simp [mtL] at hm
 | cons e E ih =>
  intro A sel o outs K vs M r hm
  cases A with
  | nil=>simp [mtL] at hm
  | cons a A =>
   cases vs with
   | nil=>have:=r.1;simp at this
   | cons v vs =>
    have r1:Rel h ρ' a v:=r.2 0 a v rfl rfl
    have r2:RelL h ρ' A vs:=⟨by have:=r.1;simpa using this,fun j α u x y=>r.2 (j+1) α u (by simpa using x) (by simpa using y)⟩
    obtain ⟨s2,o2,outs2,e1,e2,e3,e4⟩:=mtC_of m M r1 hm
    obtain ⟨s4,o4,outs4,f1,f2,f3,f4⟩:=ih e2 r2 e4
    refine ⟨s2++s4,o2++o4,outs4,by rw [e1,f1,zlf],by simpa [zlf] using f2,fun s3=>?_,by simpa [zlf] using f4⟩
    have a1:=e3 (s4++s3)
    have a2:=f3 s3
    simp only [zlf] at a1 a2 ⊢
    exact RelL.cons a1 a2
theorem mtA_of (m:SatH h ρ' hp' n0 w) {sel:Sel} {o outs:Outs} {e a:AV} {K:Sel→Outs→Prop} {v:Value} (M:MtS hp' n sel o) (r:Rel h ρ' a v) (hm:mtA hp' n sel outs e a K) :
  ∃s2 o2 outs2,outs=o2++outs2∧MtS hp' n (sel++s2) (o++o2)∧Fin h ρ' n (sel++s2) e v∧K (sel++s2) outs2:=by
 unfold mtA at hm
 split at hm
 .rename_i E A
  obtain ⟨vs,rfl,rs⟩:=r.agg
  obtain ⟨s2,o2,outs2,e1,e2,e3,e4⟩:=mtL_of m M rs hm
  exact ⟨s2,o2,outs2,e1,e2,fun s3=>Rel.mkAgg (e3 s3),e4⟩
 .exact hm.elim
 .exact mtC_of m M r hm
theorem mtT_of (m:SatH h ρ' hp' n0 w):∀{E A:List AV} {sel:Sel} {o outs:Outs} {K:Sel→Outs→Prop} {vs:List Value},MtS hp' n sel o→RelL h ρ' A vs→mtT hp' n sel outs E A K →
  ∃s2 o2 outs2,outs=o2++outs2∧MtS hp' n (sel++s2) (o++o2)∧(∀s3:Sel,RelL h (ρS ρ' n (sel++s2++s3)) E vs)∧K (sel++s2) outs2:=by
 intro E
 induction E with
 | nil =>
  intro A sel o outs K vs M r hm
  cases A with
  | nil =>
   have:vs=[]:=by have:=r.1;simpa using this.symm
   subst this
   exact ⟨[],[],outs,rfl,by simpa using M,fun s3=>RelL.nil,by simpa [mtT] using hm⟩
  | cons a A=>simp [mtT] at hm
 | cons e E ih =>
  intro A sel o outs K vs M r hm
  cases A with
  | nil=>simp [mtT] at hm
  | cons a A =>
   cases vs with
   | nil=>have:=r.1;simp at this
   | cons v vs =>
    have r1:Rel h ρ' a v:=r.2 0 a v rfl rfl
    have r2:RelL h ρ' A vs:=⟨by have:=r.1;simpa using this,fun j α u x y=>r.2 (j+1) α u (by simpa using x) (by simpa using y)⟩
    obtain ⟨s2,o2,outs2,e1,e2,e3,e4⟩:=mtA_of m M r1 hm
    obtain ⟨s4,o4,outs4,f1,f2,f3,f4⟩:=ih e2 r2 e4
    refine ⟨s2++s4,o2++o4,outs4,by rw [e1,f1,zlf],by simpa [zlf] using f2,fun s3=>?_,by simpa [zlf] using f4⟩
    have a1:=e3 (s4++s3)
    have a2:=f3 s3
    simp only [zlf] at a1 a2 ⊢
    exact RelL.cons a1 a2
theorem mtR_of (m:SatH h ρ' hp' n0 w) {outs:Outs} {e a:AV} {v:Value} (r:Rel h ρ' a v) (hm:mtR hp' n outs e a fun _ o=>o=[]) :
  ∃sel,MtS hp' n sel outs∧Rel h (ρS ρ' n sel) e v:=by
 unfold mtR at hm
 split at hm
 .rename_i E A
  obtain ⟨vs,rfl,rs⟩:=r.tup
  obtain ⟨s2,o2,outs2,e1,e2,e3,e4⟩:=mtT_of m (MtS.nil hp' n) rs hm
  subst e4
  simp only [zli,List.append_nil] at e1 e2
  subst e1
  have:=e3 []
  simp only [zli,List.append_nil] at this
  exact ⟨s2,e2,Rel.mkTup this⟩
 .exact hm.elim
 .obtain ⟨s2,o2,outs2,e1,e2,e3,e4⟩:=mtA_of m (MtS.nil hp' n) r hm
  subst e4
  simp only [zli,List.append_nil] at e1 e2
  subst e1
  have:=e3 []
  simp only [zli,List.append_nil] at this
  exact ⟨s2,e2,this⟩
end
def rowsAt:Nat→Outs→CH
 | _,[]=>[]
 | n,(m,l)::r=>(n,.rw 0 m l)::rowsAt (n+1) r
theorem rowsAt_lt:∀{outs:Outs} {n k:Nat} {hp:CH},k<n→gc (rowsAt n outs++hp) k=gc hp k
 | [],n,k,hp,h=>rfl
 | (m,l)::r,n,k,hp,h=>by
  show gc ((n,_)::(rowsAt (n+1) r++hp)) k=_
  rw [gc_ne _ _ (by omega)]
  exact rowsAt_lt (by omega)
theorem rowsAt_get:∀{outs:Outs} {n i m:Nat} {l:List (List AV)} {hp:CH},outs[i]?=some (m,l)→gc (rowsAt n outs++hp) (n+i)=.rw 0 m l
 | [],n,i,m,l,hp,h=>by simp at h
 | (m',l')::r,n,0,m,l,hp,h=>by
  simp at h
  obtain ⟨rfl,rfl⟩:=h
  exact gc_same _ _ _
 | (m',l')::r,n,i+1,m,l,hp,h=>by
  show gc ((n,_)::(rowsAt (n+1) r++hp)) (n+(i+1))=_
  rw [gc_ne _ _ (by omega),show n+(i+1)=n+1+i by omega]
  exact rowsAt_get (by simpa using h)
theorem rowsAt_ge:∀{outs:Outs} {n k:Nat} {hp:CH},n+outs.length≤k→gc (rowsAt n outs++hp) k=gc hp k
 | [],n,k,hp,h=>rfl
 | (m,l)::r,n,k,hp,h=>by
  show gc ((n,_)::(rowsAt (n+1) r++hp)) k=_
  simp only [List.length_cons] at h
  rw [gc_ne _ _ (by omega)]
  exact rowsAt_ge (by omega)
def Chunk.lt1 (n:Nat):Chunk→Prop
 | .bx cs=>∀α∈cs,α.lt1 n
 | .rn _ _ l=>∀e∈l,∀α∈e,α.lt1 n
 | _=>True
def shX:CH→List AV→List AV→CH
 | hp,.rw _ _ _::E,_::A=>shX hp E A
 | hp,_::E,a::A=>shX (shutC hp a) E A
 | hp,_,_=>hp
theorem shX_shut {ρ:RO} {n:Nat} {w:World}:∀{E A:List AV} {h:HP} {hp:CH},SatH h ρ hp n w→∃h',HLe h h'∧SatH h' ρ (shX hp E A) n w∧∀b,live ρ (shX hp E A) b→live ρ hp b:=by
 intro E
 induction E with
 | nil=>intro A h hp m;exact ⟨h,HLe.refl _,by simpa [shX] using m,fun b hb=>by simpa [shX] using hb⟩
 | cons e E ih =>
  intro A h hp m
  cases A with
  | nil =>
   have:shX hp (e::E) []=hp:=by cases e<;>rfl
   rw [this]
   exact ⟨h,HLe.refl _,m,fun b hb=>hb⟩
  | cons a A =>
   by_cases hr:∃j g l,e=.rw j g l
   .obtain ⟨j,g,l,rfl⟩:=hr
    exact ih m
   .have:shX hp (e::E) (a::A)=shX (shutC hp a) E A:=by
     cases e<;>first | rfl | exact absurd ⟨_,_,_,rfl⟩ hr
    rw [this]
    obtain ⟨h1,a1,a2,a3⟩:=SatH.shutL (h:=h) [a] m
    obtain ⟨h2,b1,b2,b3⟩:=ih a2
    exact ⟨h2,a1.trans b1,b2,fun b hb=>a3 b (b3 b hb)⟩
/-! ### The same,to be reckoned -/
def nsel (k:Nat):Sel→Prop
 | []=>True
 | none::r=>nsel k r
 | some (k',_)::r=>k≠k'∧nsel k r
theorem nsel_mem {k:Nat}:∀{sel:Sel},nsel k sel→∀g',some (k,g') ∉ sel
 | [],_,g',h=>by cases h
 | none::r,hn,g',h=>by
  rcases List.mem_cons.1 h with e | e
  .cases e
  .exact nsel_mem (sel:=r) hn g' e
 | some (k',g)::r,hn,g',h=>by
  rcases List.mem_cons.1 h with e | e
  .cases e;exact hn.1 rfl
  .exact nsel_mem (sel:=r) hn.2 g' e
def fP (n:Nat) (e a:AV):Option AV→Prop
 | some b=>b=e
 | none=>a=e∧e.lt1 n
def fC (hp':CH) (n:Nat) (sel:Sel) (outs:Outs) (K:Sel→Outs→Prop):AV→AV→Prop
 | .rw j g0 len,.rw k g len'=>match outs with
  | (m,l)::r=>j=n+sel.length∧g0=0∧len=len'∧n≤k∧nsel k sel∧gc hp' k=.rw g m l∧K (sel++[some (k,g)]) r
  | []=>j=k∧g0=g∧len=len'∧j<n∧K sel []
 | .rw j g0 len,.e0=>match outs with
  | (m,l)::r=>j=n+sel.length∧g0=0∧len=0∧l=[]∧K (sel++[none]) r
  | []=>False
 | .rw _ _ _,_=>False
 | e,a=>fP n e a (pureC hp' a)∧K sel outs
theorem fC_mt {hp':CH} {n:Nat} {sel:Sel} {outs:Outs} {K:Sel→Outs→Prop} {e a:AV} (h:fC hp' n sel outs K e a):mtC hp' n sel outs e a K:=by
 have key:∀e a,(∀j g l,e≠.rw j g l)→fP n e a (pureC hp' a)∧K sel outs→mtC hp' n sel outs e a K:=by
  intro e a hne ⟨h1,h2⟩
  have:(a=e∧e.lt1 n∧K sel outs)∨(pureC hp' a=some e∧K sel outs):=by
   cases hp:pureC hp' a with
   | none=>rw [hp] at h1;exact .inl ⟨h1.1,h1.2,h2⟩
   | some b=>rw [hp] at h1;exact .inr ⟨by rw [show b=e from h1],h2⟩
  unfold mtC
  cases e<;>first | exact this | exact absurd rfl (hne _ _ _)
 unfold fC at h
 split at h
 .split at h
  .obtain ⟨a1,a2,a3,a4,a5,a6,a7⟩:=h
   subst a2;subst a3
   exact .inl ⟨_,_,_,_,_,rfl,rfl,a1,rfl,a4,nsel_mem a5,a6,a7⟩
  .obtain ⟨a1,a2,a3,a4,a5⟩:=h
   subst a1;subst a2;subst a3
   exact .inr (.inr ⟨rfl,a4,a5⟩)
 .split at h
  .obtain ⟨a1,a2,a3,a4,a5⟩:=h
   subst a2;subst a3;subst a4
   exact .inr (.inl ⟨_,_,rfl,rfl,a1,rfl,rfl,a5⟩)
  .exact h.elim
 .exact h.elim
 .rename_i h1 h2 h3
  exact key _ _ (fun j g l e=>by first | exact h3 j g l e | exact h1 j g l e | exact h2 j g l e) h
def fL (hp':CH) (n:Nat) (K:Sel→Outs→Prop):List AV→List AV→Sel→Outs→Prop
 | [],[],sel,outs=>K sel outs
 | e::E,a::A,sel,outs=>fC hp' n sel outs (fL hp' n K E A) e a
 | _,_,_,_=>False
theorem mtC_mono {hp':CH} {n:Nat} {sel:Sel} {outs:Outs} {K K':Sel→Outs→Prop} {e a:AV} (hk:∀s o,K s o→K' s o) (h:mtC hp' n sel outs e a K):mtC hp' n sel outs e a K':=by
 unfold mtC at *
 split at h
 .rcases h with ⟨k,g,m',l,rr,a1,a2,a3,a4,a5,a6,a7,a8⟩ | ⟨m',rr,a1,a2,a3,a4,a5,a6⟩ | ⟨a1,a2,a3⟩
  .exact .inl ⟨k,g,m',l,rr,a1,a2,a3,a4,a5,a6,a7,hk _ _ a8⟩
  .exact .inr (.inl ⟨m',rr,a1,a2,a3,a4,a5,hk _ _ a6⟩)
  .exact .inr (.inr ⟨a1,a2,hk _ _ a3⟩)
 .rcases h with ⟨a1,a2,a3⟩ | ⟨a1,a2⟩
  .exact .inl ⟨a1,a2,hk _ _ a3⟩
  .exact .inr ⟨a1,hk _ _ a2⟩
theorem fL_mt {hp':CH} {n:Nat} {K:Sel→Outs→Prop}:∀{E A:List AV} {sel:Sel} {outs:Outs},fL hp' n K E A sel outs→mtL hp' n sel outs E A K
 | [],[],sel,outs,h=>h
 | e::E,a::A,sel,outs,h=>mtC_mono (fun s o=>fL_mt) (fC_mt h)
 | [],a::A,_,_,h=>h.elim
 | e::E,[],_,_,h=>h.elim
def fA (hp':CH) (n:Nat) (sel:Sel) (outs:Outs) (K:Sel→Outs→Prop):AV→AV→Prop
 | .ag E,.ag A=>fL hp' n K E A sel outs
 | .ag _,_=>False
 | e,a=>fC hp' n sel outs K e a
theorem fA_mt {hp':CH} {n:Nat} {sel:Sel} {outs:Outs} {K:Sel→Outs→Prop} {e a:AV} (h:fA hp' n sel outs K e a):mtA hp' n sel outs e a K:=by
 unfold fA at h
 unfold mtA
 split at h
 .exact fL_mt h
 .exact h.elim
 .rename_i h1 h2
  exact fC_mt h
def fT (hp':CH) (n:Nat) (K:Sel→Outs→Prop):List AV→List AV→Sel→Outs→Prop
 | [],[],sel,outs=>K sel outs
 | e::E,a::A,sel,outs=>fA hp' n sel outs (fT hp' n K E A) e a
 | _,_,_,_=>False
theorem mtL_mono {hp':CH} {n:Nat} {K K':Sel→Outs→Prop} (hk:∀s o,K s o→K' s o):∀{E A:List AV} {sel:Sel} {outs:Outs},mtL hp' n sel outs E A K→mtL hp' n sel outs E A K'
 | [],[],sel,outs,h=>hk _ _ h
 | e::E,a::A,sel,outs,h=>mtC_mono (fun s o=>mtL_mono hk) h
 | [],a::A,_,_,h=>h.elim
 | e::E,[],_,_,h=>h.elim
theorem mtA_mono {hp':CH} {n:Nat} {sel:Sel} {outs:Outs} {K K':Sel→Outs→Prop} {e a:AV} (hk:∀s o,K s o→K' s o) (h:mtA hp' n sel outs e a K):mtA hp' n sel outs e a K':=by
 unfold mtA at *
 split at h
 .exact mtL_mono hk h
 .exact h.elim
 .exact mtC_mono hk h
theorem fT_mt {hp':CH} {n:Nat} {K:Sel→Outs→Prop}:∀{E A:List AV} {sel:Sel} {outs:Outs},fT hp' n K E A sel outs→mtT hp' n sel outs E A K
 | [],[],sel,outs,h=>h
 | e::E,a::A,sel,outs,h=>mtA_mono (fun s o=>fT_mt) (fA_mt h)
 | [],a::A,_,_,h=>h.elim
 | e::E,[],_,_,h=>h.elim
def noMore (_:Sel) (o:Outs):Prop:=o=[]
def fR (hp':CH) (n:Nat) (outs:Outs):AV→AV→Prop
 | .tp E,.tp A=>fT hp' n noMore E A [] outs
 | .tp _,_=>False
 | e,a=>fA hp' n [] outs noMore e a
theorem fR_mt {hp':CH} {n:Nat} {outs:Outs} {e a:AV} (h:fR hp' n outs e a):mtR hp' n outs e a fun _ o=>o=[]:=by
 unfold fR at h
 unfold mtR
 split at h
 .exact fT_mt h
 .exact h.elim
 .rename_i h1 h2
  exact fA_mt h
def outF (hp1:CH) (n:Nat) (outs:Outs) (r:AV) (hp':CH) (_:Nat) (r':AV):Prop :=
 Up n hp1 (shX hp' (rcells r) (rcells r'))∧fR (shX hp' (rcells r) (rcells r')) n outs r r'
theorem Meets.out {P:Program} {f:FuncId} {hp hp1:CH} {n:Nat} {args:List AV} {outs:Outs} {r:AV} (h1:∀k,k<n→gc hp1 k=gc hp k∨(gc hp1 k).lt1 n) (hfree:∀k,n≤k→gc hp1 k=.no)
  (m0:Meets P f hp n args (outF hp1 n outs r)):MeetsX P f hp n args (rowsAt n outs++hp1) (n+outs.length) r:=by
 refine ⟨m0.1,fun h ρ w vs hs ha=>(m0.2 h ρ w vs hs ha).mono fun e w' ⟨v,he,h',ρ',hp',n',r',⟨e1,e2⟩,hh,hr,hm,hrel,hk,hl⟩=>?_⟩
 have e2:=fR_mt e2
 obtain ⟨h2,a1,a2,a3⟩:=shX_shut (E:=rcells r) (A:=rcells r') hm
 generalize shX hp' (rcells r) (rcells r')=hq at *
 obtain ⟨sel,M,rel⟩:=mtR_of a2 (hrel.mono a1 (RLe.refl _)) e2
 have hρ:RLe ρ (ρS ρ' n sel):=fun k g x hx=>by
  rcases znb k n with hkn | hkn
  .rw [ρS_lt hkn];exact hr _ _ _ hx
  .rw [hs.fr k g hkn] at hx;cases hx
 -- what may be written
 have hgen:∀k g b c,(gc (rowsAt n outs++hp1) k).own g→ρS ρ' n sel k g=some (some b,c)→∃k2 g2,(gc hq k2).own g2∧ρ' k2 g2=some (some b,c)∧(k<n→k2=k)∧(n≤k→∃i,k=n+i∧sel[i]?=some (some (k2,g2))):=by
  intro k g b c hg hx
  rcases znb k n with hkn | hkn
  .rw [rowsAt_lt hkn] at hg
   rw [ρS_lt hkn] at hx
   exact ⟨k,g,by rw [e1 k hkn];exact hg,hx,fun _=>rfl,fun h=>by omega⟩
  .obtain ⟨i,rfl⟩:∃i,k=n+i:=⟨k - n,by omega⟩
   rcases znb i outs.length with hi | hi
   .have ho:outs[i]?=some outs[i]:=zlg hi
    have hi':i<sel.length:=by rw [M.len];exact hi
    have hsi:sel[i]?=some sel[i]:=zlg hi'
    rw [rowsAt_get (m:=outs[i].1) (l:=outs[i].2) ho] at hg
    cases hg
    cases hx2:sel[i] with
    | none =>
     rw [hx2] at hsi
     rw [ρS_none hsi] at hx
     cases hx
    | some p =>
     obtain ⟨k2,g2⟩:=p
     rw [hx2] at hsi
     rw [ρS_new hsi] at hx
     obtain ⟨_,m2,l2,_,q⟩:=M.ge i k2 g2 hsi
     exact ⟨k2,g2,by rw [q];rfl,hx,fun h=>by omega,fun _=>⟨i,rfl,hsi⟩⟩
   .rw [rowsAt_ge (by omega),hfree _ (by omega)] at hg
    cases hg
 have hlive:∀b,live (ρS ρ' n sel) (rowsAt n outs++hp1) b→live ρ' hq b:=fun b ⟨k,g,c,hg,hx⟩=>by
  obtain ⟨k2,g2,q1,q2,_⟩:=hgen k g b c hg hx
  exact ⟨k2,g2,c,q1,q2⟩
 refine ⟨v,he,h2,ρS ρ' n sel,_,_,r,⟨rfl,rfl,rfl⟩,hh.trans a1,hρ,⟨a2.hh,fun k=>?_,fun k k' g g' b c c' q1 q2 q3 q4=>?_,fun b hb=>a2.hid b (hlive b hb),fun b hb=>a2.lt b (hlive b hb),fun k g hk=>?_,fun k g g' x q1 q2=>?_,a2.gl⟩,rel,hk,fun b hb=>hl b (a3 b (hlive b hb))⟩
 .rcases znb k n with hkn | hkn
  .rw [rowsAt_lt hkn]
   have s1:=a2.ch k
   rw [e1 k hkn] at s1
   rcases h1 k hkn with hu | hu
   .have s0:=hs.ch k
    rw [←hu] at s0
    exact Chunk.sat_mono (HLe.refl _) hρ (fun _ _ _ _ _=>rfl) (Chunk.back hr s0 s1)
   .cases hc:gc hp1 k with
    | no=>trivial
    | bx cs =>
     rw [hc] at s1 hu
     obtain ⟨b,c,vs',ty,b1,b2,b3,b4⟩:=s1
     exact ⟨b,c,vs',ty,(ρS_lt hkn 0).trans b1,b2,b3,fun j α u x y=>lt1_rel (hu α (zla x)) (b4 j α u x y)⟩
    | rw g mm l =>
     rw [hc] at s1
     obtain ⟨ob,cap,b1,b2⟩:=s1
     exact ⟨ob,cap,(ρS_lt hkn g).trans b1,b2⟩
    | sh g mm l =>
     rw [hc] at s1
     obtain ⟨ob,cap,b1,b2⟩:=s1
     exact ⟨ob,cap,(ρS_lt hkn g).trans b1,b2⟩
    | mp l =>
     rw [hc] at s1
     obtain ⟨b,c,es,cl,b1,b2⟩:=s1
     exact ⟨b,c,es,cl,(ρS_lt hkn 0).trans b1,b2⟩
    | ro cs =>
     rw [hc] at s1
     obtain ⟨b,c,us,e,fr,b1,b2⟩:=s1
     exact ⟨b,c,us,e,fr,(ρS_lt hkn 0).trans b1,b2⟩
    | rn g mm l =>
     rw [hc] at s1 hu
     obtain ⟨ob,cap,b1,b2,b2',b3,b4,b5⟩:=s1
     refine ⟨ob,cap,(ρS_lt hkn g).trans b1,b2,b2',b3,b4,fun b hb=>?_⟩
     obtain ⟨vs',ty,c1,c2,c3⟩:=b5 b hb
     exact ⟨vs',ty,c1,c2,fun j x q α y1 y2=>let ⟨u,z1,z2⟩:=c3 j x q α y1 y2;⟨u,z1,lt1_rel (hu x (zla y1) α (zla y2)) z2⟩⟩
    | sb T e g bs =>
     rw [hc] at s1
     obtain ⟨b,c,p,v,b1,b2,b3,b4,b5,⟨y,b6⟩,b7⟩:=s1
     exact ⟨b,c,p,v,(ρS_lt hkn 0).trans b1,b2,b3,b4,b5,⟨y,(ρS_lt hkn g).trans b6⟩,fun x hx=>⟨(b7 x hx).1,let ⟨c2,q⟩:=(b7 x hx).2;⟨c2,(ρS_lt hkn g).trans q⟩⟩⟩
  .obtain ⟨i,rfl⟩:∃i,k=n+i:=⟨k - n,by omega⟩
   rcases znb i outs.length with hi | hi
   .have ho:outs[i]?=some outs[i]:=zlg hi
    have hi':i<sel.length:=by rw [M.len];exact hi
    have hsi:sel[i]?=some sel[i]:=zlg hi'
    rw [rowsAt_get (m:=outs[i].1) (l:=outs[i].2) ho]
    cases hx2:sel[i] with
    | none =>
     rw [hx2] at hsi
     obtain ⟨m2,q⟩:=M.no i hsi
     rw [ho] at q
     have q:outs[i]=(m2,[]):=Option.some.inj q
     rw [q]
     exact ⟨none,0,ρS_none hsi,by simp,by simp [maxLen],fun j e h=>by simp at h,fun _=>rfl,fun b hb=>by cases hb⟩
    | some p =>
     obtain ⟨k2,g2⟩:=p
     rw [hx2] at hsi
     obtain ⟨_,m2,l2,q1,q2⟩:=M.ge i k2 g2 hsi
     rw [ho] at q1
     have q1:outs[i]=(m2,l2):=Option.some.inj q1
     have s1:=a2.ch k2
     rw [q2] at s1
     rw [q1]
     obtain ⟨ob,cap,b1,b2⟩:=s1
     exact ⟨ob,cap,(ρS_new hsi).trans b1,b2⟩
   .rw [rowsAt_ge (by omega),hfree _ (by omega)]
    trivial
 .obtain ⟨k2,g2,x1,x2,x3,x4⟩:=hgen k g b c q1 q3
  obtain ⟨k2',g2',y1,y2,y3,y4⟩:=hgen k' g' b c' q2 q4
  have e3:=a2.inj k2 k2' g2 g2' b c c' x1 y1 x2 y2
  subst e3
  rcases znb k n with hkn | hkn<;>rcases znb k' n with hkn' | hkn'
  .rw [←x3 hkn,←y3 hkn']
  .obtain ⟨i,_,hs2⟩:=y4 hkn'
   have:=(M.ge i k2 g2' hs2).1
   have:=x3 hkn
   omega
  .obtain ⟨i,_,hs2⟩:=x4 hkn
   have:=(M.ge i k2 g2 hs2).1
   have:=y3 hkn'
   omega
  .obtain ⟨i,rfl,hs2⟩:=x4 hkn
   obtain ⟨j,rfl,hs3⟩:=y4 hkn'
   rw [M.inj i j k2 g2 g2' hs2 hs3]
 .have hkn:¬k<n:=by omega
  have:sel[k - n]?=none:=List.getElem?_eq_none (by rw [M.len];omega)
  simp [ρS,hkn,this]
 .rcases znb k n with hkn | hkn
  .rw [rowsAt_lt hkn] at q1
   rw [ρS_lt hkn] at q2
   exact a2.gens k g g' x (by rw [e1 k hkn];exact q1) q2
  .by_cases hg:g'=0
   .omega
   .have hkn':¬k<n:=by omega
    simp [ρS,hkn',hg] at q2
theorem meetsOut {P : Program} {f : FuncId} {fn : Func} {k : CC} {rs : List RS} (hf : P.funcs[f]? = some fn) (hnm : (fn.name == "runtime.NumGoroutine") = false)
  (hc:fn.body.bind (ccode P fn.ntmps)=some k.erase) (hrs:rsv P fn.ntmps fn.results.toList=some rs) {hp:CH} {n:Nat} {args:List AV} {outs:Outs} {r:AV} (hlen:Nat.ble args.length fn.ntmps=true)
  (hv:(∀k,n≤k→gc hp k=.no)→vc P k ⟨argEnv 0 args,hp,n⟩ (endQ rs (outF hp n outs r))):MeetsX P f hp n args (rowsAt n outs++hp) (n+outs.length) r:=by
 have hok := (by obtain ⟨c, hb, hc'⟩ := bd hc; exact ⟨fn, hf, hnm, by rw [hb]; rfl⟩ : ∃ fn, P.funcs[f]? = some fn ∧ (fn.name == "runtime.NumGoroutine") = false ∧ fn.body.isNone = false)
 refine ⟨hok,fun h ρ w vs hs ha=>?_⟩
 exact (Meets.out (fun k _=>.inl rfl) hs.free (meets hf hnm hc hrs hlen (hv hs.free))).2 h ρ w vs hs ha
theorem MeetsX.toF {P:Program} {f:FuncId} {hp hp1:CH} {n n1:Nat} {args:List AV} {r0 r:AV} (m:MeetsX P f hp n args hp1 n1 r0) (h:pureQ hp n r hp1 n1 r0):MeetsF P f hp n args r :=
 Meets.toF ⟨m.1,fun h' ρ w vs hs ha=>(m.2 h' ρ w vs hs ha).mono fun e w' ⟨v,he,h2,ρ',hp',n',r',⟨e1,e2,e3⟩,x⟩=>⟨v,he,h2,ρ',hp',n',r',by subst e1;subst e2;subst e3;exact h,x⟩⟩
/-! ### Reckoning -/
section
variable {hp':CH} {n:Nat} {sel:Sel} {outs:Outs} {K:Sel→Outs→Prop}
theorem nsel_nil {k:Nat}:nsel k []=True:=nd rfl
theorem nsel_some {k k' g:Nat} {r:Sel}:nsel k (some (k',g)::r)=(k≠k'∧nsel k r):=nd rfl
theorem fP_some {e a b:AV}:fP n e a (some b)=(b=e):=nd rfl
theorem fC_rw {j g0 len k g len' m:Nat} {l:List (List AV)} {r:Outs}:fC hp' n sel ((m,l)::r) K (.rw j g0 len) (.rw k g len')=(j=n+sel.length∧g0=0∧len=len'∧n≤k∧nsel k sel∧gc hp' k=.rw g m l∧K (sel++[some (k,g)]) r):=nd rfl
theorem fC_e0 {j g0 len m:Nat} {l:List (List AV)} {r:Outs}:fC hp' n sel ((m,l)::r) K (.rw j g0 len) .e0=(j=n+sel.length∧g0=0∧len=0∧l=[]∧K (sel++[none]) r):=nd rfl
theorem fC_i {k:IntKind} {x:Int} {a:AV}:fC hp' n sel outs K (.i k x) a=(fP n (.i k x) a (pureC hp' a)∧K sel outs):=nd (by cases a<;>rfl)
theorem fC_s {x:ByteArray} {a:AV}:fC hp' n sel outs K (.s x) a=(fP n (.s x) a (pureC hp' a)∧K sel outs):=nd (by cases a<;>rfl)
theorem fC_ds {x:List (List AV)} {a:AV}:fC hp' n sel outs K (.ds x) a=(fP n (.ds x) a (pureC hp' a)∧K sel outs):=nd (by cases a<;>rfl)
theorem fL_nil:fL hp' n K [] [] sel outs=K sel outs:=nd rfl
theorem fL_cons {e a:AV} {E A:List AV}:fL hp' n K (e::E) (a::A) sel outs=fC hp' n sel outs (fL hp' n K E A) e a:=nd rfl
theorem fA_ag {E A:List AV}:fA hp' n sel outs K (.ag E) (.ag A)=fL hp' n K E A sel outs:=nd rfl
theorem fA_rw {j g len:Nat} {a:AV}:fA hp' n sel outs K (.rw j g len) a=fC hp' n sel outs K (.rw j g len) a:=nd (by cases a<;>rfl)
theorem noMore_eq {o:Outs}:noMore sel o=(o=[]):=nd rfl
theorem fR_ag {E:List AV} {a:AV}:fR hp' n outs (.ag E) a=fA hp' n [] outs noMore (.ag E) a:=nd (by cases a<;>rfl)
theorem fR_rw {j g len:Nat} {a:AV}:fR hp' n outs (.rw j g len) a=fA hp' n [] outs noMore (.rw j g len) a:=nd (by cases a<;>rfl)
theorem outF_eq {hp1:CH} {r r':AV} {k:Nat}:outF hp1 n outs r hp' k r'=(Up n hp1 (shX hp' (rcells r) (rcells r'))∧fR (shX hp' (rcells r) (rcells r')) n outs r r'):=nd rfl
theorem shX_nil {A:List AV}:shX hp' [] A=hp':=nd (by cases A<;>rfl)
theorem shX_rw {j g l:Nat} {a:AV} {E A:List AV}:shX hp' (.rw j g l::E) (a::A)=shX hp' E A:=nd rfl
theorem shX_i {k:IntKind} {x:Int} {a:AV} {E A:List AV}:shX hp' (.i k x::E) (a::A)=shX (shutC hp' a) E A:=nd rfl
theorem shX_s {x:ByteArray} {a:AV} {E A:List AV}:shX hp' (.s x::E) (a::A)=shX (shutC hp' a) E A:=nd rfl
end
attribute [go_sem] nsel_nil nsel_some fP_some fC_rw fC_e0 fC_i fC_s fC_ds fL_nil fL_cons fA_ag fA_rw noMore_eq fR_ag fR_rw outF_eq shX_nil shX_rw shX_i shX_s AV.lt1
end Go.Eng
