/- Proof. Conditions: none. -/
import Derived.Test.YtgfidgoefioigaaGreatDoorIj14
open List renaming append_nil->zg
open List renaming mem_of_getElem?->zla,getElem?_eq_some_iff->zlb,append_assoc->zlf,getElem?_eq_getElem->zlg,nil_append->zli
open Nat renaming lt_or_ge->znb
namespace Go.Eng
set_option linter.all false
abbrev DQ:=List (Option (Nat × Nat))
section
variable {ρ':RO} {n k i:Nat} {sel:DQ}
def AV.lt1 (n:Nat):AV->Prop
 | .bx k _=>k<n
 | .rw k _ _=>k<n
 | .rf k _ _ _ _=>k<n
 | .mp k=>k<n
 | U=>U.pur=true
def ρS (ρ':RO) (n:Nat) (sel:DQ):RO:=fun k g=>
 if k<n then ρ' k g else if g=0 then (match sel[k - n]? with
  |some (some (k',g'))=>ρ' k' g'
  |some none=>some (none,0)
  |none=>none) else none
theorem ρS_lt (h:k<n) (g:Nat):ρS ρ' n sel k g=ρ' k g:=by simp [ρS,h]
theorem ρS_new {g:Nat} (h:sel[i]?=some (some (k,g))):ρS ρ' n sel (n+i) 0=ρ' k g:=by
 have:¬(n+i<n):=by omega
 simp [ρS,this,h]
theorem ρS_none (h:sel[i]?=some none):ρS ρ' n sel (n+i) 0=some (none,0):=by
 have:¬(n+i<n):=by omega
 simp [ρS,this,h]
theorem EZ {h:HP} {U:AV} {v:Value} (o:U.lt1 n) (r:Ba h ρ' U v):Ba h (ρS ρ' n sel) U v:=by
 cases U with
 |bx k off=>
  cases r with
  |pu _ _ p=>exact .pu _ _ p
  |bx _ _ b c e=>exact .bx _ _ _ _ ((ρS_lt o 0).trans e)
 |rw k g len=>
  cases r with
  |pu _ _ p=>exact .pu _ _ p
  |rw _ _ _ cap a ob e hl ha=>exact .rw _ _ _ _ _ _ ((ρS_lt o g).trans e) hl ha
 |rf k g m off len=>
  cases r with
  |pu _ _ p=>exact .pu _ _ p
  |rf _ _ _ _ _ cap a ob e hl ha=>exact .rf _ _ _ _ _ _ _ _ ((ρS_lt o g).trans e) hl ha
 |mp k=>
  cases r with
  |pu _ _ p=>exact .pu _ _ p
  |mp _ b c e=>exact .mp _ _ _ ((ρS_lt o 0).trans e)
 |_=>exact .pu _ _ (AV.pur_rel r (by simpa [AV.lt1] using o))
abbrev B3:=List (Nat × List (List AV))
end
def YW (Al:CH) (n:Nat) (sel:DQ) (outs:B3) (e a:AV) (K:DQ->B3->Prop):Prop :=
 match e with
 | .rw j g0 len=>(∃k g m l r,a=.rw k g len∧outs=(m,l)::r∧j=n+sel.length∧g0=0∧n<=k∧(∀g',some (k,g') ∉ sel)∧gc Al k=.rw g m l∧K (sel++[some (k,g)]) r) ∨
  (∃m r,a=.e0∧outs=(m,[])::r∧j=n+sel.length∧g0=0∧len=0∧K (sel++[none]) r)∨(a=.rw j g0 len∧j<n∧K sel outs)
 |e=>(a=e∧e.lt1 n∧K sel outs)∨(D7 Al a=some e∧K sel outs)
def Zp (Al:CH) (n:Nat):DQ->B3->List AV->List AV->(DQ->B3->Prop)->Prop
 |sel,outs,[],[],K=>K sel outs
 |sel,outs,e::E,a::A,K=>YW Al n sel outs e a fun sel outs=>Zp Al n sel outs E A K
 |_,_,_,_,_=>False
def mtA (Al:CH) (n:Nat) (sel:DQ) (outs:B3) (e a:AV) (K:DQ->B3->Prop):Prop :=
 match e,a with
 | .ag E,.ag A=>Zp Al n sel outs E A K
 | .ag _,_=>False
 |e,a=>YW Al n sel outs e a K
def mtT (Al:CH) (n:Nat):DQ->B3->List AV->List AV->(DQ->B3->Prop)->Prop
 |sel,outs,[],[],K=>K sel outs
 |sel,outs,e::E,a::A,K=>mtA Al n sel outs e a fun sel outs=>mtT Al n sel outs E A K
 |_,_,_,_,_=>False
def mtR (Al:CH) (n:Nat) (outs:B3) (e a:AV) (K:DQ->B3->Prop):Prop :=
 match e,a with
 | .tp E,.tp A=>mtT Al n [] outs E A K
 | .tp _,_=>False
 |e,a=>mtA Al n [] outs e a K
structure MtS (Al:CH) (n:Nat) (sel:DQ) (o:B3):Prop where
 len:sel.length=o.length
 ge:∀(i:Nat) k g,sel[i]?=some (some (k,g))->n<=k∧∃m l,o[i]?=some (m,l)∧gc Al k=.rw g m l
 no:∀(i:Nat),sel[i]?=some none->∃m,o[i]?=some (m,[])
 inj:∀(i j:Nat) k g g',sel[i]?=some (some (k,g))->sel[j]?=some (some (k,g'))->i=j
theorem MtS.nil (Al:CH) (n:Nat):MtS Al n [] []:=⟨rfl,fun i k g h=>by simp at h,fun i h=>by simp at h,fun i j k g g' h=>by simp at h⟩
theorem MtS.snoc {Al:CH} {n:Nat} {sel:DQ} {o:B3} (M:MtS Al n sel o) {x:Option (Nat×Nat)} {m:Nat} {l:List (List AV)}
 (h1:∀k g,x=some (k,g)->n<=k∧gc Al k=.rw g m l∧∀g',some (k,g') ∉ sel) (h2:x=none->l=[]):MtS Al n (sel++[x]) (o++[(m,l)]):=by
 have key:∀(i:Nat) y,(sel++[x])[i]?=some y->sel[i]?=some y∨(i=sel.length∧y=x):=by
  intro i y h
  rw [List.getElem?_append] at h
  split at h
  .exact .inl h
  .rename_i hi
   right
   have:i - sel.length=0:=by
    have:=(zlb.1 h).1
    simp at this
    omega
   rw [this] at h
   simp at h
   exact ⟨by omega,h.symm⟩
 have keyo:∀(i:Nat) y,o[i]?=some y->(o++[(m,l)])[i]?=some y:=by
  intro i y h
  have hi:=(zlb.1 h).1
  rw [List.getElem?_append_left hi]
  exact h
 refine ⟨by simp [M.len],fun i k g h=>?_,fun i h=>?_,fun i j k g g' hi hj=>?_⟩
 .rcases key i _ h with h3 | ⟨rfl,h3⟩
  .obtain ⟨a,m',l',b,c⟩:=M.ge i k g h3
   exact ⟨a,m',l',keyo _ _ b,c⟩
  .obtain ⟨a,b,_⟩:=h1 k g h3.symm
   exact ⟨a,m,l,by simp [M.len],b⟩
 .rcases key i _ h with h3 | ⟨rfl,h3⟩
  .obtain ⟨m',b⟩:=M.no i h3
   exact ⟨m',keyo _ _ b⟩
  .exact ⟨m,by rw [h2 h3.symm];simp [M.len]⟩
 .rcases key i _ hi with h3 | ⟨e3,h3⟩<;>rcases key j _ hj with h4 | ⟨e4,h4⟩
  .exact M.inj i j k g g' h3 h4
  .exact absurd (zla h3) ((h1 k g' h4.symm).2.2 g)
  .exact absurd (zla h4) ((h1 k g h3.symm).2.2 g')
  .omega
section
variable {h:HP} {ρ':RO} {Al:CH} {n n0:Nat} {w:World}
section
variable {sel:DQ} {o outs:B3} {e a:AV} {K:DQ->B3->Prop} {v:Value}
def Fin (h:HP) (ρ':RO) (n:Nat) (sel:DQ) (e:AV) (v:Value):Prop:=∀s2:DQ,Ba h (ρS ρ' n (sel++s2)) e v
theorem XM (m:SatH h ρ' Al n0 w) (M:MtS Al n sel o) (r:Ba h ρ' a v) (hm:YW Al n sel outs e a K) :
 ∃s2 o2 j6,outs=o2++j6∧MtS Al n (sel++s2) (o++o2)∧Fin h ρ' n (sel++s2) e v∧K (sel++s2) j6:=by
 have pure:∀e,D7 Al a=some e->Fin h ρ' n sel e v:=fun e he s2=>.pu _ _ (Fq m r he).1
 have sel0:∀{e},Fin h ρ' n sel e v->K sel outs->∃s2 o2 j6,outs=o2++j6∧MtS Al n (sel++s2) (o++o2)∧Fin h ρ' n (sel++s2) e v∧K (sel++s2) j6:=by
  intro e f k
  exact ⟨[],[],outs,rfl,by simpa using M,by simpa using f,by simpa using k⟩
 unfold YW at hm
 split at hm
 .rename_i j g0 len
  rcases hm with ⟨k,g,m',l,rr,rfl,rfl,rfl,rfl,hk,hf,hg,hK⟩ | ⟨m',rr,rfl,rfl,rfl,rfl,rfl,hK⟩ | ⟨rfl,hj,hK⟩
  .refine ⟨[some (k,g)],[(m',l)],rr,rfl,M.snoc (fun k' g' h=>by cases h;exact ⟨hk,hg,hf⟩) (fun h=>by cases h),fun s2=>?_,hK⟩
   cases r with
   |pu _ _ p=>cases p
   |rw _ _ _ cap a ob e hl ha=>
    exact .rw _ _ _ cap a ob ((ρS_new (by simp)).trans e) hl ha
  .refine ⟨[none],[(m',[])],rr,rfl,M.snoc (fun k' g' h=>by cases h) (fun _=>rfl),fun s2=>?_,hK⟩
   cases r with
   |pu _ _ p=>
    cases p with
    |e0 a=>exact .rw _ _ _ 0 a none (ρS_none (by simp)) (Nat.le_refl _) (fun b hb=>by cases hb)
  .exact sel0 (fun s2=>EZ (U:=.rw j g0 len) hj r) hK
 .rename_i e BG
  rcases hm with ⟨rfl,hl,hK⟩ | ⟨hp,hK⟩
  .exact sel0 (fun s2=>EZ hl r) hK
  .exact sel0 (pure _ hp) hK
theorem Aen (m:SatH h ρ' Al n0 w):∀{E A:List AV} {sel:DQ} {o outs:B3} {K:DQ->B3->Prop} {vs:List Value},MtS Al n sel o->Bx h ρ' A vs->Zp Al n sel outs E A K ->
 ∃s2 o2 j6,outs=o2++j6∧MtS Al n (sel++s2) (o++o2)∧(∀s3:DQ,Bx h (ρS ρ' n (sel++s2++s3)) E vs)∧K (sel++s2) j6:=by
 intro E
 induction E with
 |nil=>
  intro A sel o outs K vs M r hm
  cases A with
  |nil=>
   have:vs=[]:=by have:=r.1;simpa using this.symm
   subst this
   exact ⟨[],[],outs,rfl,by simpa using M,fun s3=>Bx.nil,by simpa [Zp] using hm⟩
  |cons a A=>simp [Zp] at hm
 |cons e E ih=>
  intro A sel o outs K vs M r hm
  cases A with
  |nil=>simp [Zp] at hm
  |cons a A=>
   cases vs with
   |nil=>have:=r.1;simp at this
   |cons v vs=>
    have r1:Ba h ρ' a v:=r.2 0 a v rfl rfl
    have r2:Bx h ρ' A vs:=⟨by have:=r.1;simpa using this,fun j U u x y=>r.2 (j+1) U u (by simpa using x) (by simpa using y)⟩
    obtain ⟨s2,o2,j6,e1,e2,e3,e4⟩:=XM m M r1 hm
    obtain ⟨s4,o4,outs4,f1,f2,f3,f4⟩:=ih e2 r2 e4
    refine ⟨s2++s4,o2++o4,outs4,by rw [e1,f1,zlf],by simpa [zlf] using f2,fun s3=>?_,by simpa [zlf] using f4⟩
    have a1:=e3 (s4++s3)
    have a2:=f3 s3
    simp only [zlf] at a1 a2 ⊢
    exact Bx.cons a1 a2
theorem Yv (m:SatH h ρ' Al n0 w) (M:MtS Al n sel o) (r:Ba h ρ' a v) (hm:mtA Al n sel outs e a K) :
 ∃s2 o2 j6,outs=o2++j6∧MtS Al n (sel++s2) (o++o2)∧Fin h ρ' n (sel++s2) e v∧K (sel++s2) j6:=by
 unfold mtA at hm
 split at hm
 .rename_i E A
  obtain ⟨vs,rfl,rs⟩:=r.agg
  obtain ⟨s2,o2,j6,e1,e2,e3,e4⟩:=Aen m M rs hm
  exact ⟨s2,o2,j6,e1,e2,fun s3=>Ba.mkAgg (e3 s3),e4⟩
 .exact hm.elim
 .exact XM m M r hm
theorem Afk (m:SatH h ρ' Al n0 w):∀{E A:List AV} {sel:DQ} {o outs:B3} {K:DQ->B3->Prop} {vs:List Value},MtS Al n sel o->Bx h ρ' A vs->mtT Al n sel outs E A K ->
 ∃s2 o2 j6,outs=o2++j6∧MtS Al n (sel++s2) (o++o2)∧(∀s3:DQ,Bx h (ρS ρ' n (sel++s2++s3)) E vs)∧K (sel++s2) j6:=by
 intro E
 induction E with
 |nil=>
  intro A sel o outs K vs M r hm
  cases A with
  |nil=>
   have:vs=[]:=by have:=r.1;simpa using this.symm
   subst this
   exact ⟨[],[],outs,rfl,by simpa using M,fun s3=>Bx.nil,by simpa [mtT] using hm⟩
  |cons a A=>simp [mtT] at hm
 |cons e E ih=>
  intro A sel o outs K vs M r hm
  cases A with
  |nil=>simp [mtT] at hm
  |cons a A=>
   cases vs with
   |nil=>have:=r.1;simp at this
   |cons v vs=>
    have r1:Ba h ρ' a v:=r.2 0 a v rfl rfl
    have r2:Bx h ρ' A vs:=⟨by have:=r.1;simpa using this,fun j U u x y=>r.2 (j+1) U u (by simpa using x) (by simpa using y)⟩
    obtain ⟨s2,o2,j6,e1,e2,e3,e4⟩:=Yv m M r1 hm
    obtain ⟨s4,o4,outs4,f1,f2,f3,f4⟩:=ih e2 r2 e4
    refine ⟨s2++s4,o2++o4,outs4,by rw [e1,f1,zlf],by simpa [zlf] using f2,fun s3=>?_,by simpa [zlf] using f4⟩
    have a1:=e3 (s4++s3)
    have a2:=f3 s3
    simp only [zlf] at a1 a2 ⊢
    exact Bx.cons a1 a2
theorem Ry (m:SatH h ρ' Al n0 w) (r:Ba h ρ' a v) (hm:mtR Al n outs e a fun _ o=>o=[]) :
 ∃sel,MtS Al n sel outs∧Ba h (ρS ρ' n sel) e v:=by
 unfold mtR at hm
 split at hm
 .rename_i E A
  obtain ⟨vs,rfl,rs⟩:=r.tup
  obtain ⟨s2,o2,j6,e1,e2,e3,e4⟩:=Afk m (MtS.nil Al n) rs hm
  subst e4
  simp only [zli,zg] at e1 e2
  subst e1
  have:=e3 []
  simp only [zli,zg] at this
  exact ⟨s2,e2,Ba.mkTup this⟩
 .exact hm.elim
 .obtain ⟨s2,o2,j6,e1,e2,e3,e4⟩:=Yv m (MtS.nil Al n) r hm
  subst e4
  simp only [zli,zg] at e1 e2
  subst e1
  have:=e3 []
  simp only [zli,zg] at this
  exact ⟨s2,e2,this⟩
end
end
section
variable {n:Nat} {Al hp II:CH} {sel:DQ} {outs:B3} {K K':DQ->B3->Prop} {e a r:AV} {P:Program} {f:FuncId} {args:List AV}
def Ch:Nat->B3->CH
 |_,[]=>[]
 |n,(m,l)::r=>(n,.rw 0 m l)::Ch (n+1) r
theorem CD:∀{outs:B3} {n k:Nat} {hp:CH},k<n->gc (Ch n outs++hp) k=gc hp k
 | [],n,k,hp,h=>rfl
 | (m,l)::r,n,k,hp,h=>by
  show gc ((n,_)::(Ch (n+1) r++hp)) k=_
  rw [Ai _ _ (by omega)]
  exact CD (by omega)
theorem Du:∀{outs:B3} {n i m:Nat} {l:List (List AV)} {hp:CH},outs[i]?=some (m,l)->gc (Ch n outs++hp) (n+i)=.rw 0 m l
 | [],n,i,m,l,hp,h=>by simp at h
 | (m',l')::r,n,0,m,l,hp,h=>by
  simp at h
  obtain ⟨rfl,rfl⟩:=h
  exact Ax _ _ _
 | (m',l')::r,n,i+1,m,l,hp,h=>by
  show gc ((n,_)::(Ch (n+1) r++hp)) (n+(i+1))=_
  rw [Ai _ _ (by omega),show n+(i+1)=n+1+i by omega]
  exact Du (by simpa using h)
theorem DX:∀{outs:B3} {n k:Nat} {hp:CH},n+outs.length<=k->gc (Ch n outs++hp) k=gc hp k
 | [],n,k,hp,h=>rfl
 | (m,l)::r,n,k,hp,h=>by
  show gc ((n,_)::(Ch (n+1) r++hp)) k=_
  simp only [List.length_cons] at h
  rw [Ai _ _ (by omega)]
  exact DX (by omega)
def Ak.lt1 (n:Nat):Ak->Prop
 | .bx cs=>∀U∈cs,U.lt1 n
 | .rn _ _ l=>∀e∈l,∀U∈e,U.lt1 n
 |_=>True
def HX:CH->List AV->List AV->CH
 |hp,.rw _ _ _::E,_::A=>HX hp E A
 |hp,_::E,a::A=>HX (shutC hp a) E A
 |hp,_,_=>hp
theorem KG {J:RO} {w:World}:∀{E A:List AV} {h:HP} {hp:CH},SatH h J hp n w->∃h',BQ h h'∧SatH h' J (HX hp E A) n w∧∀b,AI J (HX hp E A) b->AI J hp b:=by
 intro E
 induction E with
 |nil=>intro A h hp m;exact ⟨h,BQ.refl _,by simpa [HX] using m,fun b hb=>by simpa [HX] using hb⟩
 |cons e E ih=>
  intro A h hp m
  cases A with
  |nil=>
   have:HX hp (e::E) []=hp:=by cases e<;>rfl
   rw [this]
   exact ⟨h,BQ.refl _,m,fun b hb=>hb⟩
  |cons a A=>
   by_cases hr:∃j g l,e=.rw j g l
   .obtain ⟨j,g,l,rfl⟩:=hr
    exact ih m
   .have:HX hp (e::E) (a::A)=HX (shutC hp a) E A:=by
     cases e<;>first | rfl | exact absurd ⟨_,_,_,rfl⟩ hr
    rw [this]
    obtain ⟨h1,a1,a2,a3⟩:=SatH.shutL (h:=h) [a] m
    obtain ⟨h2,b1,b2,b3⟩:=ih a2
    exact ⟨h2,a1.trans b1,b2,fun b hb=>a3 b (b3 b hb)⟩
/-! ### The same,to be reckoned -/
def Pa (k:Nat):DQ->Prop
 | []=>True
 |none::r=>Pa k r
 |some (k',_)::r=>k≠k'∧Pa k r
theorem Li {k:Nat}:∀{sel:DQ},Pa k sel->∀g',some (k,g') ∉ sel
 | [],_,g',h=>by cases h
 |none::r,hn,g',h=>by
  rcases List.mem_cons.1 h with e | e
  .cases e
  .exact Li (sel:=r) hn g' e
 |some (k',g)::r,hn,g',h=>by
  rcases List.mem_cons.1 h with e | e
  .cases e;exact hn.1 rfl
  .exact Li (sel:=r) hn.2 g' e
def fP (n:Nat) (e a:AV):Option AV->Prop
 |some b=>b=e
 |none=>a=e∧e.lt1 n
def fC (Al:CH) (n:Nat) (sel:DQ) (outs:B3) (K:DQ->B3->Prop):AV->AV->Prop
 | .rw j g0 len,.rw k g l9=>match outs with
  | (m,l)::r=>j=n+sel.length∧g0=0∧len=l9∧n<=k∧Pa k sel∧gc Al k=.rw g m l∧K (sel++[some (k,g)]) r
  | []=>j=k∧g0=g∧len=l9∧j<n∧K sel []
 | .rw j g0 len,.e0=>match outs with
  | (m,l)::r=>j=n+sel.length∧g0=0∧len=0∧l=[]∧K (sel++[none]) r
  | []=>False
 | .rw _ _ _,_=>False
 |e,a=>fP n e a (D7 Al a)∧K sel outs
theorem Acp (h:fC Al n sel outs K e a):YW Al n sel outs e a K:=by
 have key:∀e a,(∀j g l,e≠.rw j g l)->fP n e a (D7 Al a)∧K sel outs->YW Al n sel outs e a K:=by
  intro e a BG ⟨h1,h2⟩
  have:(a=e∧e.lt1 n∧K sel outs)∨(D7 Al a=some e∧K sel outs):=by
   cases hp:D7 Al a with
   |none=>rw [hp] at h1;exact .inl ⟨h1.1,h1.2,h2⟩
   |some b=>rw [hp] at h1;exact .inr ⟨by rw [show b=e from h1],h2⟩
  unfold YW
  cases e<;>first | exact this | exact absurd rfl (BG _ _ _)
 unfold fC at h
 split at h
 .split at h
  .obtain ⟨a1,a2,a3,a4,a5,a6,a7⟩:=h
   subst a2;subst a3
   exact .inl ⟨_,_,_,_,_,rfl,rfl,a1,rfl,a4,Li a5,a6,a7⟩
  .obtain ⟨a1,a2,a3,a4,a5⟩:=h
   subst a1;subst a2;subst a3
   exact .inr (.inr ⟨rfl,a4,a5⟩)
 .split at h
  .obtain ⟨a1,a2,a3,a4,a5⟩:=h
   subst a2;subst a3;subst a4
   exact .inr (.inl ⟨_,_,rfl,rfl,a1,rfl,rfl,a5⟩)
  .exact h.elim
 .exact h.elim
 .rename_i h1 h2 h3
  exact key _ _ (fun j g l e=>by first | exact h3 j g l e | exact h1 j g l e | exact h2 j g l e) h
def fL (Al:CH) (n:Nat) (K:DQ->B3->Prop):List AV->List AV->DQ->B3->Prop
 | [],[],sel,outs=>K sel outs
 |e::E,a::A,sel,outs=>fC Al n sel outs (fL Al n K E A) e a
 |_,_,_,_=>False
theorem KX (hk:∀s o,K s o->K' s o) (h:YW Al n sel outs e a K):YW Al n sel outs e a K':=by
 unfold YW at *
 split at h
 .rcases h with ⟨k,g,m',l,rr,a1,a2,a3,a4,a5,a6,a7,a8⟩ | ⟨m',rr,a1,a2,a3,a4,a5,a6⟩ | ⟨a1,a2,a3⟩
  .exact .inl ⟨k,g,m',l,rr,a1,a2,a3,a4,a5,a6,a7,hk _ _ a8⟩
  .exact .inr (.inl ⟨m',rr,a1,a2,a3,a4,a5,hk _ _ a6⟩)
  .exact .inr (.inr ⟨a1,a2,hk _ _ a3⟩)
 .rcases h with ⟨a1,a2,a3⟩ | ⟨a1,a2⟩
  .exact .inl ⟨a1,a2,hk _ _ a3⟩
  .exact .inr ⟨a1,hk _ _ a2⟩
theorem Acg:∀{E A:List AV} {sel:DQ} {outs:B3},fL Al n K E A sel outs->Zp Al n sel outs E A K
 | [],[],sel,outs,h=>h
 |e::E,a::A,sel,outs,h=>KX (fun s o=>Acg) (Acp h)
 | [],a::A,_,_,h=>h.elim
 |e::E,[],_,_,h=>h.elim
def fA (Al:CH) (n:Nat) (sel:DQ) (outs:B3) (K:DQ->B3->Prop):AV->AV->Prop
 | .ag E,.ag A=>fL Al n K E A sel outs
 | .ag _,_=>False
 |e,a=>fC Al n sel outs K e a
theorem Acb (h:fA Al n sel outs K e a):mtA Al n sel outs e a K:=by
 unfold fA at h
 unfold mtA
 split at h
 .exact Acg h
 .exact h.elim
 .rename_i h1 h2
  exact Acp h
def fT (Al:CH) (n:Nat) (K:DQ->B3->Prop):List AV->List AV->DQ->B3->Prop
 | [],[],sel,outs=>K sel outs
 |e::E,a::A,sel,outs=>fA Al n sel outs (fT Al n K E A) e a
 |_,_,_,_=>False
theorem P2 (hk:∀s o,K s o->K' s o):∀{E A:List AV} {sel:DQ} {outs:B3},Zp Al n sel outs E A K->Zp Al n sel outs E A K'
 | [],[],sel,outs,h=>hk _ _ h
 |e::E,a::A,sel,outs,h=>KX (fun s o=>P2 hk) h
 | [],a::A,_,_,h=>h.elim
 |e::E,[],_,_,h=>h.elim
theorem X9 (hk:∀s o,K s o->K' s o) (h:mtA Al n sel outs e a K):mtA Al n sel outs e a K':=by
 unfold mtA at *
 split at h
 .exact P2 hk h
 .exact h.elim
 .exact KX hk h
theorem Ab5:∀{E A:List AV} {sel:DQ} {outs:B3},fT Al n K E A sel outs->mtT Al n sel outs E A K
 | [],[],sel,outs,h=>h
 |e::E,a::A,sel,outs,h=>X9 (fun s o=>Ab5) (Acb h)
 | [],a::A,_,_,h=>h.elim
 |e::E,[],_,_,h=>h.elim
def GV (_:DQ) (o:B3):Prop:=o=[]
def fR (Al:CH) (n:Nat) (outs:B3):AV->AV->Prop
 | .tp E,.tp A=>fT Al n GV E A [] outs
 | .tp _,_=>False
 |e,a=>fA Al n [] outs GV e a
theorem XE (h:fR Al n outs e a):mtR Al n outs e a fun _ o=>o=[]:=by
 unfold fR at h
 unfold mtR
 split at h
 .exact Ab5 h
 .exact h.elim
 .rename_i h1 h2
  exact Acb h
def Me (II:CH) (n:Nat) (outs:B3) (r:AV) (Al:CH) (_:Nat) (r':AV):Prop :=
 Up n II (HX Al (Br r) (Br r'))∧fR (HX Al (Br r) (Br r')) n outs r r'
theorem AO.out (h1:∀k,k<n->gc II k=gc hp k∨(gc II k).lt1 n) (Ce:∀k,n<=k->gc II k=.no)
 (m0:AO P f hp n args (Me II n outs r)):AU P f hp n args (Ch n outs++II) (n+outs.length) r:=by
 refine ⟨m0.1,fun h J w vs hs ha=>(m0.2 h J w vs hs ha).mono fun e w' ⟨v,he,h',ρ',Al,n',r',⟨e1,e2⟩,hh,hr,hm,Cr,hk,hl⟩=>?_⟩
 have e2:=XE e2
 obtain ⟨h2,a1,a2,a3⟩:=KG (E:=Br r) (A:=Br r') hm
 generalize HX Al (Br r) (Br r')=hq at *
 obtain ⟨sel,M,rel⟩:=Ry a2 (Cr.mono a1 (Ck.refl _)) e2
 have hρ:Ck J (ρS ρ' n sel):=fun k g x hx=>by
  rcases znb k n with Bz | Bz
  .rw [ρS_lt Bz];exact hr _ _ _ hx
  .rw [hs.fr k g Bz] at hx;cases hx
 -- what may be written
 have EO:∀k g b c,(gc (Ch n outs++II) k).own g->ρS ρ' n sel k g=some (some b,c)->∃k2 g2,(gc hq k2).own g2∧ρ' k2 g2=some (some b,c)∧(k<n->k2=k)∧(n<=k->∃i,k=n+i∧sel[i]?=some (some (k2,g2))):=by
  intro k g b c hg hx
  rcases znb k n with Bz | Bz
  .rw [CD Bz] at hg
   rw [ρS_lt Bz] at hx
   exact ⟨k,g,by rw [e1 k Bz];exact hg,hx,fun _=>rfl,fun h=>by omega⟩
  .obtain ⟨i,rfl⟩:∃i,k=n+i:=⟨k - n,by omega⟩
   rcases znb i outs.length with hi | hi
   .have ho:outs[i]?=some outs[i]:=zlg hi
    have Md:i<sel.length:=by rw [M.len];exact hi
    have FJ:sel[i]?=some sel[i]:=zlg Md
    rw [Du (m:=outs[i].1) (l:=outs[i].2) ho] at hg
    cases hg
    cases GX:sel[i] with
    |none=>
     rw [GX] at FJ
     rw [ρS_none FJ] at hx
     cases hx
    |some p=>
     obtain ⟨k2,g2⟩:=p
     rw [GX] at FJ
     rw [ρS_new FJ] at hx
     obtain ⟨_,m2,l2,_,q⟩:=M.ge i k2 g2 FJ
     exact ⟨k2,g2,by rw [q];rfl,hx,fun h=>by omega,fun _=>⟨i,rfl,FJ⟩⟩
   .rw [DX (by omega),Ce _ (by omega)] at hg
    cases hg
 have AL:∀b,AI (ρS ρ' n sel) (Ch n outs++II) b->AI ρ' hq b:=fun b ⟨k,g,c,hg,hx⟩=>by
  obtain ⟨k2,g2,q1,q2,_⟩:=EO k g b c hg hx
  exact ⟨k2,g2,c,q1,q2⟩
 refine ⟨v,he,h2,ρS ρ' n sel,_,_,r,⟨rfl,rfl,rfl⟩,hh.trans a1,hρ,⟨a2.hh,fun k=>?_,fun k k' g g' b c c' q1 q2 q3 q4=>?_,fun b hb=>a2.hid b (AL b hb),fun b hb=>a2.lt b (AL b hb),fun k g hk=>?_,fun k g g' x q1 q2=>?_,a2.gl⟩,rel,hk,fun b hb=>hl b (a3 b (AL b hb))⟩
 .rcases znb k n with Bz | Bz
  .rw [CD Bz]
   have s1:=a2.ch k
   rw [e1 k Bz] at s1
   rcases h1 k Bz with hu | hu
   .have s0:=hs.ch k
    rw [<-hu] at s0
    exact Ak.sat_mono (BQ.refl _) hρ (fun _ _ _ _ _=>rfl) (Ak.back hr s0 s1)
   .cases hc:gc II k with
    |no=>trivial
    |bx cs=>
     rw [hc] at s1 hu
     obtain ⟨b,c,p9,ty,b1,b2,b3,b4⟩:=s1
     exact ⟨b,c,p9,ty,(ρS_lt Bz 0).trans b1,b2,b3,fun j U u x y=>EZ (hu U (zla x)) (b4 j U u x y)⟩
    |rw g mm l=>
     rw [hc] at s1
     obtain ⟨ob,cap,b1,b2⟩:=s1
     exact ⟨ob,cap,(ρS_lt Bz g).trans b1,b2⟩
    |sh g mm l=>
     rw [hc] at s1
     obtain ⟨ob,cap,b1,b2⟩:=s1
     exact ⟨ob,cap,(ρS_lt Bz g).trans b1,b2⟩
    |rc g mm cap l=>
     rw [hc] at s1
     obtain ⟨ob,b1,b2⟩:=s1
     exact ⟨ob,(ρS_lt Bz g).trans b1,b2⟩
    |mp l=>
     rw [hc] at s1
     obtain ⟨b,c,es,cl,b1,b2⟩:=s1
     exact ⟨b,c,es,cl,(ρS_lt Bz 0).trans b1,b2⟩
    |mq F=>
     rw [hc] at s1
     obtain ⟨b,c,es,cl,b1,b2⟩:=s1
     exact ⟨b,c,es,cl,(ρS_lt Bz 0).trans b1,b2⟩
    |mr l sn=>
     rw [hc] at s1
     obtain ⟨b,c,es,cl,b1,q1,q2,q3,q4,b2,c2,x7,g2,q5⟩:=s1
     exact ⟨b,c,es,cl,(ρS_lt Bz 0).trans b1,q1,q2,q3,q4,b2,c2,x7,(ρS_lt Bz 1).trans g2,q5⟩
    |ro cs=>
     rw [hc] at s1
     obtain ⟨b,c,us,e,fr,b1,b2⟩:=s1
     exact ⟨b,c,us,e,fr,(ρS_lt Bz 0).trans b1,b2⟩
    |rn g mm l=>
     rw [hc] at s1 hu
     obtain ⟨ob,cap,b1,b2,b2',b3,b4,b5⟩:=s1
     refine ⟨ob,cap,(ρS_lt Bz g).trans b1,b2,b2',b3,b4,fun b hb=>?_⟩
     obtain ⟨p9,ty,c1,c2,c3⟩:=b5 b hb
     exact ⟨p9,ty,c1,c2,fun j x q U y1 y2=>let ⟨u,z1,z2⟩:=c3 j x q U y1 y2;⟨u,z1,EZ (hu x (zla y1) U (zla y2)) z2⟩⟩
    |sb T e g bs=>
     rw [hc] at s1
     obtain ⟨b,c,p,v,b1,b2,b3,b4,b5,⟨y,b6⟩,b7⟩:=s1
     exact ⟨b,c,p,v,(ρS_lt Bz 0).trans b1,b2,b3,b4,b5,⟨y,(ρS_lt Bz g).trans b6⟩,fun x hx=>⟨(b7 x hx).1,let ⟨c2,q⟩:=(b7 x hx).2;⟨c2,(ρS_lt Bz g).trans q⟩⟩⟩
  .obtain ⟨i,rfl⟩:∃i,k=n+i:=⟨k - n,by omega⟩
   rcases znb i outs.length with hi | hi
   .have ho:outs[i]?=some outs[i]:=zlg hi
    have Md:i<sel.length:=by rw [M.len];exact hi
    have FJ:sel[i]?=some sel[i]:=zlg Md
    rw [Du (m:=outs[i].1) (l:=outs[i].2) ho]
    cases GX:sel[i] with
    |none=>
     rw [GX] at FJ
     obtain ⟨m2,q⟩:=M.no i FJ
     rw [ho] at q
     have q:outs[i]=(m2,[]):=Option.some.inj q
     rw [q]
     exact ⟨none,0,ρS_none FJ,by simp,by simp [maxLen],fun j e h=>by simp at h,fun _=>rfl,fun b hb=>by cases hb⟩
    |some p=>
     obtain ⟨k2,g2⟩:=p
     rw [GX] at FJ
     obtain ⟨_,m2,l2,q1,q2⟩:=M.ge i k2 g2 FJ
     rw [ho] at q1
     have q1:outs[i]=(m2,l2):=Option.some.inj q1
     have s1:=a2.ch k2
     rw [q2] at s1
     rw [q1]
     obtain ⟨ob,cap,b1,b2⟩:=s1
     exact ⟨ob,cap,(ρS_new FJ).trans b1,b2⟩
   .rw [DX (by omega),Ce _ (by omega)]
    trivial
 .obtain ⟨k2,g2,x1,x2,x3,x4⟩:=EO k g b c q1 q3
  obtain ⟨k2',y9,y1,y2,y3,y4⟩:=EO k' g' b c' q2 q4
  have e3:=a2.inj k2 k2' g2 y9 b c c' x1 y1 x2 y2
  subst e3
  rcases znb k n with Bz | Bz<;>rcases znb k' n with EQ | EQ
  .rw [<-x3 Bz,<-y3 EQ]
  .obtain ⟨i,_,JZ⟩:=y4 EQ
   have:=(M.ge i k2 y9 JZ).1
   have:=x3 Bz
   omega
  .obtain ⟨i,_,JZ⟩:=x4 Bz
   have:=(M.ge i k2 g2 JZ).1
   have:=y3 EQ
   omega
  .obtain ⟨i,rfl,JZ⟩:=x4 Bz
   obtain ⟨j,rfl,hs3⟩:=y4 EQ
   rw [M.inj i j k2 g2 y9 JZ hs3]
 .have Bz:¬k<n:=by omega
  have:sel[k - n]?=none:=List.getElem?_eq_none (by rw [M.len];omega)
  simp [ρS,Bz,this]
 .rcases znb k n with Bz | Bz
  .rw [CD Bz] at q1
   rw [ρS_lt Bz] at q2
   exact a2.gens k g g' x (by rw [e1 k Bz];exact q1) q2
  .by_cases hg:g'=0
   .omega
   .have EQ:¬k<n:=by omega
    simp [ρS,EQ,hg] at q2
theorem GP {fn : Func} {k : CC} {rs : List RS} (hf : P.funcs[f]? = some fn) (FN : (fn.name == "runtime.NumGoroutine") = false)
 (hc:fn.body.bind (BX P fn.ntmps)=some k.erase) (Ic:OB P fn.ntmps fn.results.toList=some rs) {hp:CH} {n:Nat} {args:List AV} {outs:B3} {r:AV} (Bn:Nat.ble args.length fn.ntmps=true)
 (hv:(∀k,n<=k->gc hp k=.no)->vc P k ⟨CK 0 args,hp,n⟩ (Lt rs (Me hp n outs r))):AU P f hp n args (Ch n outs++hp) (n+outs.length) r:=by
 have Ka := (by obtain ⟨c, hb, Mt⟩ := bd hc; exact ⟨fn, hf, FN, by rw [hb]; rfl⟩ : ∃ fn, P.funcs[f]? = some fn ∧ (fn.name == "runtime.NumGoroutine") = false ∧ fn.body.isNone = false)
 refine ⟨Ka,fun h J w vs hs ha=>?_⟩
 exact (AO.out (fun k _=>.inl rfl) hs.free (J5 hf FN hc Ic Bn (hv hs.free))).2 h J w vs hs ha
theorem AU.toF {n1:Nat} {r0:AV} (m:AU P f hp n args II n1 r0) (h:SM hp n r II n1 r0):Af P f hp n args r :=
 AO.toF ⟨m.1,fun h' J w vs hs ha=>(m.2 h' J w vs hs ha).mono fun e w' ⟨v,he,h2,ρ',Al,n',r',⟨e1,e2,e3⟩,x⟩=>⟨v,he,h2,ρ',Al,n',r',by subst e1;subst e2;subst e3;exact h,x⟩⟩
/-! ### Reckoning -/
end
section
variable {Al:CH} {n:Nat} {sel:DQ} {outs:B3} {K:DQ->B3->Prop}
section
variable {k g j g0 len l9 m:Nat} {r:B3} {e a:AV} {l:List (List AV)} {x:Bool} {E A:List AV}
theorem YC:Pa k []=True:=nd rfl
theorem UM {k':Nat} {r:DQ}:Pa k (some (k',g)::r)=(k≠k'∧Pa k r):=nd rfl
theorem Z2 {b:AV}:fP n e a (some b)=(b=e):=nd rfl
theorem Alj:fC Al n sel ((m,l)::r) K (.rw j g0 len) (.rw k g l9)=(j=n+sel.length∧g0=0∧len=l9∧n<=k∧Pa k sel∧gc Al k=.rw g m l∧K (sel++[some (k,g)]) r):=nd rfl
theorem Agu:fC Al n sel [] K (.rw j g0 len) (.rw k g l9)=(j=k∧g0=g∧len=l9∧j<n∧K sel []):=nd rfl
theorem Ak7:fC Al n sel ((m,l)::r) K (.rw j g0 len) .e0=(j=n+sel.length∧g0=0∧len=0∧l=[]∧K (sel++[none]) r):=nd rfl
theorem Apy:fC Al n sel outs K (.b x) a=(fP n (.b x) a (D7 Al a)∧K sel outs):=nd (by cases a<;>rfl)
theorem Anx {k:IntKind} {x:Int}:fC Al n sel outs K (.i k x) a=(fP n (.i k x) a (D7 Al a)∧K sel outs):=nd (by cases a<;>rfl)
theorem Apx {x:qB}:fC Al n sel outs K (.s x) a=(fP n (.s x) a (D7 Al a)∧K sel outs):=nd (by cases a<;>rfl)
theorem Ajf {x:List (List AV)}:fC Al n sel outs K (.ds x) a=(fP n (.ds x) a (D7 Al a)∧K sel outs):=nd (by cases a<;>rfl)
theorem Afx:fL Al n K [] [] sel outs=K sel outs:=nd rfl
theorem Zr:fL Al n K (e::E) (a::A) sel outs=fC Al n sel outs (fL Al n K E A) e a:=nd rfl
theorem Aj3:fA Al n sel outs K (.ag E) (.ag A)=fL Al n K E A sel outs:=nd rfl
theorem Anf:fA Al n sel outs K (.b x) a=fC Al n sel outs K (.b x) a:=nd (by cases a<;>rfl)
theorem Amx {k:IntKind} {x:Int}:fA Al n sel outs K (.i k x) a=fC Al n sel outs K (.i k x) a:=nd (by cases a<;>rfl)
theorem Aky {x:List (List AV)}:fA Al n sel outs K (.ds x) a=fC Al n sel outs K (.ds x) a:=nd (by cases a<;>rfl)
theorem Ai5:fA Al n sel outs K (.rw j g len) a=fC Al n sel outs K (.rw j g len) a:=nd (by cases a<;>rfl)
theorem Agw:fT Al n K [] [] sel outs=K sel outs:=nd rfl
theorem Aae:fT Al n K (e::E) (a::A) sel outs=fA Al n sel outs (fT Al n K E A) e a:=nd rfl
theorem Vc {o:B3}:GV sel o=(o=[]):=nd rfl
theorem Aim:fR Al n outs (.tp E) (.tp A)=fT Al n GV E A [] outs:=nd rfl
theorem Aki:fR Al n outs (.ag E) a=fA Al n [] outs GV (.ag E) a:=nd (by cases a<;>rfl)
theorem Alc:fR Al n outs (.rw j g len) a=fA Al n [] outs GV (.rw j g len) a:=nd (by cases a<;>rfl)
theorem Anl:fR Al n outs (.b x) a=fA Al n [] outs GV (.b x) a:=nd (by cases a<;>rfl)
theorem Aj8 {x:List (List AV)}:fR Al n outs (.ds x) a=fA Al n [] outs GV (.ds x) a:=nd (by cases a<;>rfl)
theorem ZS {II:CH} {r r':AV}:Me II n outs r Al k r'=(Up n II (HX Al (Br r) (Br r'))∧fR (HX Al (Br r) (Br r')) n outs r r'):=nd rfl
theorem Aay:HX Al [] A=Al:=nd (by cases A<;>rfl)
theorem Aeo {l:Nat}:HX Al (.rw j g l::E) (a::A)=HX Al E A:=nd rfl
theorem Aij:HX Al (.b x::E) (a::A)=HX (shutC Al a) E A:=nd rfl
theorem Aiz {k:IntKind} {x:Int}:HX Al (.i k x::E) (a::A)=HX (shutC Al a) E A:=nd rfl
theorem Ak4 {x:qB}:HX Al (.s x::E) (a::A)=HX (shutC Al a) E A:=nd rfl
theorem Ago {x:List (List AV)}:HX Al (.ds x::E) (a::A)=HX (shutC Al a) E A:=nd rfl
theorem Sp (n:Nat):Ch n []=[]:=nd rfl
theorem OV (n m:Nat) (l:List (List AV)) (r:B3):Ch n ((m,l)::r)=(n,.rw 0 m l)::Ch (n+1) r:=nd rfl
end
end
section
variable {hp:CH} {m c:Nat} {X:Ak}
attribute [go_sem] YC UM Z2 Alj Agu Ak7 Apy Anx Apx Ajf Afx Zr Aj3 Anf Amx Aky Ai5 Agw Aae Vc Aim Aki Alc Anl Aj8 ZS Aay Aeo Aij Aiz Ak4 Ago Sp OV AV.lt1
/-! ### One row of the caller is written -/
theorem Pq {a g n:Nat} {l:List (List AV)} (hf:∀k,m<=k->gc hp k=.no) (h:gc hp a=.rw g n l):a<m:=by
 rcases znb a m with q | q
 .exact q
 .rw [hf a q] at h;cases h
theorem Sq {a:CH} (h1:gc a c=X) (h2:∀j,j<m->j≠c->gc a j=gc hp j):Up m ((c,X)::hp) a:=fun j hj=>by
 by_cases hc:c=j
 .subst hc
  rw [Ax]
  exact h1
 .rw [Ai _ _ hc]
  exact h2 j hj (fun e=>hc e.symm)
theorem G4 (hf:∀k,m<=k->gc hp k=.no) (hc:c<m):∀k,m<=k->gc ((c,X)::hp) k=.no:=fun k hk=>by
 rw [Ai _ _ (by omega)]
 exact hf k hk
theorem Qc {P : Program} {f : FuncId} {fn : Func} {k : CC} {rs : List RS} (hf : P.funcs[f]? = some fn) (FN : (fn.name == "runtime.NumGoroutine") = false)
 (hc:fn.body.bind (BX P fn.ntmps)=some k.erase) (Ic:OB P fn.ntmps fn.results.toList=some rs) {hp:CH} {n c:Nat} {X:Ak} {args:List AV} {r:AV} (Bn:Nat.ble args.length fn.ntmps=true)
 (hX:X.lt1 n) (Da:(∀k,n<=k->gc hp k=.no)->c<n) (hv:(∀k,n<=k->gc hp k=.no)->vc P k ⟨CK 0 args,hp,n⟩ (Lt rs (Me ((c,X)::hp) n [] r))):AU P f hp n args ((c,X)::hp) n r:=by
 have Ka := (by obtain ⟨c, hb, Mt⟩ := bd hc; exact ⟨fn, hf, FN, by rw [hb]; rfl⟩ : ∃ fn, P.funcs[f]? = some fn ∧ (fn.name == "runtime.NumGoroutine") = false ∧ fn.body.isNone = false)
 refine ⟨Ka,fun h J w vs hs ha=>?_⟩
 refine (AO.out (outs:=[]) (fun k hk=>?_) (G4 hs.free (Da hs.free)) (J5 hf FN hc Ic Bn (hv hs.free))).2 h J w vs hs ha
 by_cases hkc:c=k
 .subst hkc
  rw [Ax]
  exact .inr hX
 .rw [Ai _ _ hkc]
  exact .inl rfl
end
