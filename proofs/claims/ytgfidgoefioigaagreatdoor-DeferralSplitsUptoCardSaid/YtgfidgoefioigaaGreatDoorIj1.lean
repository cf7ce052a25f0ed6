/- Proof. Conditions: none. -/
import Derived.Below
import Derived.Laws.Rows
import Derived.Laws.Append
import Derived.Laws.CopyRow
import Derived.Laws.Pointers
import Derived.Tactics
import Derived.Orders
import Derived.Lib.FrozenHead2
import Derived.Lib.LaidTab
import Derived.MapKept
import Derived.Lib.ItoaNum
open List renaming length_drop->z2l
open Option renaming some->zm
open Nat renaming reduceEqDiff->Za,reduceBEq->Zb,reduceAdd->Zc,reduceLeDiff->Zd,reduceLT->Ze,reduceMul->Zf,reduceSub->Zg
open Int renaming reduceEq->Zh,reduceLT->Zi,reduceLE->Zj,reduceToNat->Zk
open List renaming getElem?_eq_some_iff->zlb,length_take->zlo
attribute [go_sem] Za Zb Zc Zd Ze reduceCtorEq Zf Zg Zh Zi Zj Zk
attribute [go_sem ↓] reduceIte
namespace Go.Eng
abbrev qB:=ByteArray
set_option linter.all false
section
variable {c p:Prop}
theorem A5 {U:Sort _} (a:U):∃x,a=x:=⟨a,rfl⟩
theorem iN [h:Decidable c] (hnc:¬c) {U:Sort _} {t e:U}:(if c then t else e)=e:=if_neg hnc
theorem iP [h:Decidable c] (hc:c) {U:Sort _} {t e:U}:(if c then t else e)=t:=if_pos hc
theorem dT [h:Decidable p] (hp:p):decide p=true:=decide_eq_true hp
theorem dF [h:Decidable p] (hp:¬p):decide p=false:=decide_eq_false hp
inductive AV where
 | un
 | b (x:Bool)
 | i (k:IntKind) (n:Int)
 | s (x:qB)
 | ag (l:List AV)
 | tp (l:List AV)
 | ds (l:List (List AV))
 | e0
 | np
 | bx (k off:Nat)
 | rw (k g len:Nat)
 | ep (U:AV) (n i off:Nat)
 | mp (k:Nat)
 | mi (k:Nat)
 | mn
 | fn (f:Nat) (c:List AV)
 | nf
 | fc (t:Nat) (x:AV)
 | ni
 | gd (c:Bool) (x:AV)
 | rf (k g n off len:Nat)
end
abbrev HP:=Nat->Option Obj
abbrev RO:=Nat->Nat->Option (Option Nat × Nat)
section
variable {h h':HP} {U:AV} {v:Value} {J ρ':RO}
def Eq (h:HP) (b o:Nat):Option Value:=match h b with | some (.cells c _ _)=>c[o]? | _=>none
inductive Bq (h:HP):AV->Value->Prop
 | un (v:Value):Bq h .un v
 | b (x:Bool):Bq h (.b x) (.bool x)
 | i (k:IntKind) (n:Int):Bq h (.i k n) (.int k n)
 | s (x:qB):Bq h (.s x) (.string x)
 | ag (l:List AV) (vs:List Value):l.length=vs.length->(∀(j:Nat) U v,l[j]?=some U->vs[j]?=some v->Bq h U v)->Bq h (.ag l) (.agg vs.toArray)
 | tp (l:List AV) (vs:List Value):l.length=vs.length->(∀(j:Nat) U v,l[j]?=some U->vs[j]?=some v->Bq h U v)->Bq h (.tp l) (.tuple vs.toArray)
 | ds (l:List (List AV)) (n:Nat) (a:Option Addr) (cap:Nat) (us:Nat->Nat->Value):l.length<=cap->(∀(j:Nat) e,l[j]?=some e->e.length=n) ->
   (∀(j:Nat) e (q:Nat) U,l[j]?=some e->e[q]?=some U->Bq h U (us j q)) ->
   (l≠[]->∃b off,a=some ⟨b,off,none⟩∧∀(j:Nat) e (q:Nat) U,l[j]?=some e->e[q]?=some U->Eq h b (off+n*j+q)=some (us j q)) ->
   Bq h (.ds l) (.slice a l.length cap)
 | e0 (a:Option Addr):Bq h .e0 (.slice a 0 0)
 | np:Bq h .np (.pointer none)
 | mn:Bq h .mn (.map none)
 | nf:Bq h .nf .nilFunc
 | ni:Bq h .ni .nilIface
 | fc (t:Nat) (x:AV) (v:Value):Bq h x v->Bq h (.fc t x) (.iface t v)
 | gd (c:Bool) (x:AV) (v:Value):(c=true->Bq h x v)->(c=false->v=undef)->Bq h (.gd c x) v
inductive Ba (h:HP) (J:RO):AV->Value->Prop
 | pu (U:AV) (v:Value):Bq h U v->Ba h J U v
 | ag (l:List AV) (vs:List Value):l.length=vs.length->(∀(j:Nat) U v,l[j]?=some U->vs[j]?=some v->Ba h J U v)->Ba h J (.ag l) (.agg vs.toArray)
 | tp (l:List AV) (vs:List Value):l.length=vs.length->(∀(j:Nat) U v,l[j]?=some U->vs[j]?=some v->Ba h J U v)->Ba h J (.tp l) (.tuple vs.toArray)
 | bx (k off b c:Nat):J k 0=some (some b,c)->Ba h J (.bx k off) (.pointer (some ⟨b,off,none⟩))
 | rw (k g len cap:Nat) (a:Option Addr) (ob:Option Nat):J k g=some (ob,cap)->len<=cap->(∀b,ob=some b->a=some ⟨b,0,none⟩)->Ba h J (.rw k g len) (.slice a len cap)
 | ep (U:AV) (n i off b o len cap:Nat):Ba h J U (.slice (some ⟨b,o,none⟩) len cap)->i<len->Ba h J (.ep U n i off) (.pointer (some ⟨b,o+n*i+off,none⟩))
 | mp (k b c:Nat):J k 0=some (some b,c)->Ba h J (.mp k) (.map (some b))
 | mi (k b c:Nat):J k 1=some (some b,c)->Ba h J (.mi k) (.pointer (some ⟨b,0,none⟩))
 | fn (f:Nat) (l:List AV) (vs:List Value):l.length=vs.length->(∀(j:Nat) U v,l[j]?=some U->vs[j]?=some v->Ba h J U v)->Ba h J (.fn f l) (.func (.func f) #[] vs.toArray)
 | fc (t:Nat) (x:AV) (v:Value):Ba h J x v->Ba h J (.fc t x) (.iface t v)
 | gd (c:Bool) (x:AV) (v:Value):(c=true->Ba h J x v)->(c=false->v=undef)->Ba h J (.gd c x) v
 | rf (k g n off len cap:Nat) (a:Option Addr) (ob:Option Nat):J k g=some (ob,cap)->off+len<=cap->(∀b,ob=some b->off<cap->a=some ⟨b,n*off,none⟩)->Ba h J (.rf k g n off len) (.slice a len (cap - off))
def BQ (h h':HP):Prop:=∀b o,h b=some o->h' b=some o
def Ck (J ρ':RO):Prop:=∀k g x,J k g=some x->ρ' k g=some x
theorem BQ.refl (h:HP):BQ h h:=fun _ _ e=>e
theorem BQ.trans {a b c:HP} (x:BQ a b) (y:BQ b c):BQ a c:=fun k o e=>y k o (x k o e)
theorem Ck.refl (J:RO):Ck J J:=fun _ _ _ e=>e
theorem Ck.trans {a b c:RO} (x:Ck a b) (y:Ck b c):Ck a c:=fun k g v e=>y k g v (x k g v e)
theorem PP (hh:BQ h h') {b o:Nat} {u:Value} (e:Eq h b o=some u):Eq h' b o=some u:=by
 unfold Eq at *
 cases hb:h b with
 |none=>simp [hb] at e
 |some x=>rw [hb] at e;rw [hh _ _ hb];exact e
theorem Bq.mono (hh:BQ h h') (r:Bq h U v):Bq h' U v:=by
 induction r with
 |un v=>exact .un v
 |b x=>exact .b x
 |i k n=>exact .i k n
 |s x=>exact .s x
 |ag l vs e _ ih=>exact .ag l vs e ih
 |tp l vs e _ ih=>exact .tp l vs e ih
 |ds l n a cap us hc hn _ hm ih=>
  refine .ds l n a cap us hc hn ih fun hl=>?_
  obtain ⟨b,off,ea,hx⟩:=hm hl
  exact ⟨b,off,ea,fun j e q U h1 h2=>PP hh (hx j e q U h1 h2)⟩
 |e0 a=>exact .e0 a
 |np=>exact .np
 |mn=>exact .mn
 |nf=>exact .nf
 |ni=>exact .ni
 |fc t x v _ ih=>exact .fc t x v ih
 |gd c x v _ hf ih=>exact .gd c x v ih hf
theorem Ba.mono (hh:BQ h h') (hr:Ck J ρ') (r:Ba h J U v):Ba h' ρ' U v:=by
 induction r with
 |pu U v p=>exact .pu U v (p.mono hh)
 |ag l vs e _ ih=>exact .ag l vs e ih
 |tp l vs e _ ih=>exact .tp l vs e ih
 |bx k off b c e=>exact .bx k off b c (hr _ _ _ e)
 |rw k g len cap a ob e hl ha=>exact .rw k g len cap a ob (hr _ _ _ e) hl ha
 |ep U n i off b o len cap _ hi ih=>exact .ep U n i off b o len cap ih hi
 |mp k b c e=>exact .mp k b c (hr _ _ _ e)
 |mi k b c e=>exact .mi k b c (hr _ _ _ e)
 |fn f l vs e _ ih=>exact .fn f l vs e ih
 |fc t x v _ ih=>exact .fc t x v ih
 |gd c x v _ hf ih=>exact .gd c x v ih hf
 |rf k g n off len cap a ob e hl ha=>exact .rf k g n off len cap a ob (hr _ _ _ e) hl ha
theorem EG {U β:Type} {l:List U} {vs:List β} (e:l.length=vs.length) {j:Nat} {x:U} (h:l[j]?=some x):∃v,vs[j]?=some v:=by
 have hj:j<vs.length:=by have:=(zlb.1 h).1;omega
 exact ⟨vs[j],List.getElem?_eq_getElem hj⟩
theorem Ba.back (hr:Ck J ρ') {v0:Value} (r0:Ba h J U v0) (r:Ba h' ρ' U v):Ba h' J U v:=by
 induction r0 generalizing v with
 |pu U v0 p=>
  induction p generalizing v with
  |un=>exact .pu _ _ (.un _)
  |b x=>cases r with | pu _ _ p=>exact .pu _ _ p
  |i x=>cases r with | pu _ _ p=>exact .pu _ _ p
  |s x=>cases r with | pu _ _ p=>exact .pu _ _ p
  |ag l vs e _ ih=>
   cases r with
   |pu _ _ p=>exact .pu _ _ p
   |ag _ ws e' h'=>
    exact .ag _ _ e' fun j U v h1 h2=>let ⟨u,hu⟩:=EG e h1;ih j U u h1 hu (h' j U v h1 h2)
  |tp l vs e _ ih=>
   cases r with
   |pu _ _ p=>exact .pu _ _ p
   |tp _ ws e' h'=>
    exact .tp _ _ e' fun j U v h1 h2=>let ⟨u,hu⟩:=EG e h1;ih j U u h1 hu (h' j U v h1 h2)
  |ds=>cases r with | pu _ _ p=>exact .pu _ _ p
  |e0=>cases r with | pu _ _ p=>exact .pu _ _ p
  |np=>cases r with | pu _ _ p=>exact .pu _ _ p
  |mn=>cases r with | pu _ _ p=>exact .pu _ _ p
  |nf=>cases r with | pu _ _ p=>exact .pu _ _ p
  |ni=>cases r with | pu _ _ p=>exact .pu _ _ p
  |fc t x v0 _ ih=>
   cases r with
   |pu _ _ p=>exact .pu _ _ p
   |fc _ _ v h'=>exact .fc _ _ _ (ih h')
  |gd c x v0 _ hf ih=>
   cases r with
   |pu _ _ p=>exact .pu _ _ p
   |gd _ _ v h' hf'=>exact .gd _ _ _ (fun hc=>ih hc (h' hc)) hf'
 |ag l vs e _ ih=>
  cases r with
  |pu _ _ p=>exact .pu _ _ p
  |ag _ ws e' h'=>
   exact .ag _ _ e' fun j U v h1 h2=>let ⟨u,hu⟩:=EG e h1;ih j U u h1 hu (h' j U v h1 h2)
 |tp l vs e _ ih=>
  cases r with
  |pu _ _ p=>exact .pu _ _ p
  |tp _ ws e' h'=>
   exact .tp _ _ e' fun j U v h1 h2=>let ⟨u,hu⟩:=EG e h1;ih j U u h1 hu (h' j U v h1 h2)
 |bx k off b c e0=>
  cases r with
  |pu _ _ p=>exact .pu _ _ p
  |bx _ _ b' c' e=>
   rw [hr _ _ _ e0] at e
   cases e
   exact .bx _ _ _ _ e0
 |rw k g len cap a ob e0 hl ha=>
  cases r with
  |pu _ _ p=>exact .pu _ _ p
  |rw _ _ _ i6 a' o7 e hl' VA=>
   rw [hr _ _ _ e0] at e
   cases e
   exact .rw _ _ _ _ _ _ e0 hl' VA
 |ep U n i off b o len cap _ hi ih=>
  cases r with
  |pu _ _ p=>exact .pu _ _ p
  |ep _ _ _ _ b' o' l9 i6 r' Md=>exact .ep _ _ _ _ _ _ _ _ (ih r') Md
 |mp k b c e0=>
  cases r with
  |pu _ _ p=>exact .pu _ _ p
  |mp _ b' c' e=>
   rw [hr _ _ _ e0] at e
   cases e
   exact .mp _ _ _ e0
 |mi k b c e0=>
  cases r with
  |pu _ _ p=>exact .pu _ _ p
  |mi _ b' c' e=>
   rw [hr _ _ _ e0] at e
   cases e
   exact .mi _ _ _ e0
 |fn f l vs e _ ih=>
  cases r with
  |pu _ _ p=>exact .pu _ _ p
  |fn _ _ ws e' h'=>
   exact .fn _ _ _ e' fun j U v h1 h2=>let ⟨u,hu⟩:=EG e h1;ih j U u h1 hu (h' j U v h1 h2)
 |fc t x v0 _ ih=>
  cases r with
  |pu _ _ p=>exact .pu _ _ p
  |fc _ _ v h'=>exact .fc _ _ _ (ih h')
 |gd c x v0 _ hf ih=>
  cases r with
  |pu _ _ p=>exact .pu _ _ p
  |gd _ _ v h' hf'=>exact .gd _ _ _ (fun hc=>ih hc (h' hc)) hf'
 |rf k g n off len cap a ob e0 hl ha=>
  cases r with
  |pu _ _ p=>cases p
  |rf _ _ _ _ _ i6 a' o7 e hl' VA=>
   rw [hr _ _ _ e0] at e
   cases e
   exact .rf _ _ _ _ _ _ _ _ e0 hl' VA
inductive Ak where
 | no
 | bx (cs:List AV)
 | rw (g n:Nat) (l:List (List AV))
 | sh (g n:Nat) (l:List (List AV))
 | mp (l:List (qB × AV))
 | mr (l:List (qB × AV)) (sn:List qB)
 | ro (cs:List AV)
 | rn (g n:Nat) (l:List (List AV))
 | sb (T e g:Nat) (bs:qB)
 | rc (g n cap:Nat) (l:List (List AV))
 | mq (F:qB->AV)
end
abbrev CH:=List (Nat × Ak)
section
variable {c:Ak} {g n k j m:Nat} {h h':HP} {J ρ':RO} {hp r:CH} {w w':World} {U:AV} {v:Value} {l:List (List AV)}
def gc:CH->Nat->Ak
 | [],_=>.no
 | (k,c)::r,j=>if k=j then c else gc r j
abbrev EN:=List (Nat × AV)
def ge:EN->Nat->AV
 | [],_=>.un
 | (k,c)::r,j=>if k=j then c else ge r j
def Ak.gen:Ak->Option Nat
 | .bx _=>some 0
 | .rw g _ _=>some g
 | .mp _=>some 0
 | .mr _ _=>some 1
 | .rn g _ _=>some g
 | .sb _ _ g _=>some g
 | .rc g _ _ _=>some g
 | .mq _=>some 0
 |_=>none
def Ak.own:Ak->Nat->Prop
 | .sb _ _ g _,j=>j=0∨j=g
 | .mr _ _,j=>j=0∨j=1
 |c,g=>c.gen=some g
def Ak.rgen:Ak->Option Nat
 | .rw g _ _=>some g
 | .rn g _ _=>some g
 | .sb _ _ g _=>some g
 | .mp _=>some 0
 | .mr _ _=>some 1
 | .rc g _ _ _=>some g
 | .mq _=>some 0
 |_=>none
theorem Ak.rgen_gen (h:c.rgen=some g):c.gen=some g:=by cases c<;>first | exact h | cases h
theorem Ak.gen_own (h:c.gen=some g):c.own g:=by cases c<;>first | exact h | exact .inr (zm.inj h).symm
theorem Ak.own_none (h:c.gen=none):¬c.own g:=fun e=>by
 cases c<;>first | (cases h;done) | (cases e;done)
def Ak.sat (h:HP) (J:RO) (w:World) (k:Nat):Ak->Prop
 | .no=>True
 | .bx cs=>∃b c vs e,J k 0=some (some b,c)∧w.heap[b]?=some (.cells vs e (0,0))∧vs.size=cs.length∧∀(j:Nat) U v,cs[j]?=some U->vs[j]?=some v->Ba h J U v
 | .rw g n l=>∃ob cap,J k g=some (ob,cap)∧l.length<=cap∧cap<=maxLen∧(∀(j:Nat) e,l[j]?=some e->e.length=n)∧(ob=none->cap=0) ∧
  ∀b,ob=some b->∃vs e,w.heap[b]?=some (.cells vs e (0,0))∧vs.size=cap*n∧∀(j:Nat) x (q:Nat) U,l[j]?=some x->x[q]?=some U->∃u,vs[n*j+q]?=some u∧Bq h U u
 | .sh g n l=>∃ob cap,J k g=some (ob,cap)∧l.length<=cap∧cap<=maxLen∧(∀(j:Nat) e,l[j]?=some e->e.length=n)∧(ob=none->cap=0) ∧
  ∀b,ob=some b->∃vs e fr,h b=some (.cells vs e fr)∧∀(j:Nat) x (q:Nat) U,l[j]?=some x->x[q]?=some U->∃u,vs[n*j+q]?=some u∧Bq h U u
 | .mp l=>∃b c es b8,J k 0=some (some b,c)∧w.heap[b]?=some (.map es b8)∧es.size=l.length∧MapKept.Stamped es b8 ∧
  ∀(j:Nat) x U,l[j]?=some (x,U)->∃u born,es[j]?=some ⟨.string x,u,born⟩∧Bq h U u
 | .mr l sn=>∃b c es b8,J k 0=some (some b,c)∧w.heap[b]?=some (.map es b8)∧es.size=l.length∧MapKept.Stamped es b8 ∧
  (∀(j:Nat) x U,l[j]?=some (x,U)->∃u born,es[j]?=some ⟨.string x,u,born⟩∧Bq h U u) ∧
  ∃b2 c2 seen,J k 1=some (some b2,c2)∧b≠b2∧w.heap[b2]?=some (.mapIter (some b) b8 seen b8)∧(∀e∈es.toList,∀x,e.key=.string x->(seen.contains e.born=true↔x∈sn)) ∧
  ∀x,sn.getLast?=some x->∃st,seen.back?=some st∧∀e∈es.toList,e.key=.string x->e.born=st
 | .ro cs=>∃b c vs e fr,J k 0=some (some b,c)∧h b=some (.cells vs e fr)∧vs.size=cs.length∧∀(j:Nat) U v,cs[j]?=some U->vs[j]?=some v->Bq h U v
 | .rn g n l=>∃ob cap,J k g=some (ob,cap)∧l.length<=cap∧cap<=maxLen∧(∀(j:Nat) e,l[j]?=some e->e.length=n)∧(ob=none->cap=0) ∧
  ∀b,ob=some b->∃vs e,w.heap[b]?=some (.cells vs e (0,0))∧vs.size=cap*n∧∀(j:Nat) x (q:Nat) U,l[j]?=some x->x[q]?=some U->∃u,vs[n*j+q]?=some u∧Ba h J U u
 | .sb T e g bs=>∃b c p v,J k 0=some (some b,c)∧w.heap[b]?=some (.cells #[p,v] T (0,0))∧(p=.pointer none∨p=.pointer (some ⟨b,0,none⟩))∧w.ownsRowF 0 e 1 v bs.size (Lib.strCells bs)∧v.ownBlock≠some b∧(∃y,J k g=some y) ∧
  ∀b2,v.ownBlock=some b2->0<g∧∃c2,J k g=some (some b2,c2)
 | .rc g n cap l=>∃ob,J k g=some (ob,cap)∧l.length<=cap∧cap<=maxLen∧(∀(j:Nat) e,l[j]?=some e->e.length=n)∧(ob=none->cap=0) ∧
  ∀b,ob=some b->∃vs e,w.heap[b]?=some (.cells vs e (0,0))∧vs.size=cap*n∧∀(j:Nat) x (q:Nat) U,l[j]?=some x->x[q]?=some U->∃u,vs[n*j+q]?=some u∧Bq h U u
 | .mq F=>∃b c es b8,J k 0=some (some b,c)∧w.heap[b]?=some (.map es b8)∧MapKept.Stamped es b8∧∃l:List (qB×AV),es.size=l.length∧(∀p∈l,p.2=F p.1) ∧
  ∀(j:Nat) x U,l[j]?=some (x,U)->∃u born,es[j]?=some ⟨.string x,u,born⟩∧Bq h U u
def LD:List (Nat × Array Value):=[(0,(Lib.pow10Tab.map fun z=>Value.int IntKind.u64 z).toArray)]
def AI (J:RO) (hp:CH) (b:Nat):Prop:=∃k g c,(gc hp k).own g∧J k g=some (some b,c)
structure SatH (h:HP) (J:RO) (hp:CH) (n:Nat) (w:World):Prop where
 hh:∀b o,h b=some o->w.heap[b]?=some o
 ch:∀k,(gc hp k).sat h J w k
 inj:∀k k' g g' b c c',(gc hp k).own g->(gc hp k').own g'->J k g=some (some b,c)->J k' g'=some (some b,c')->k=k'
 hid:∀b,AI J hp b->h b=none
 lt:∀b,AI J hp b->b<w.heap.size
 fr:∀k g,n<=k->J k g=none
 gens:∀k g g' x,(gc hp k).rgen=some g->J k g'=some x->g'<=g
 gl:∀b vs,(b,vs)∈LD->∃t fr,h b=some (.cells vs t fr)
theorem SatH.glm (m:SatH h J hp n w) (hh:BQ h h'):∀b vs,(b,vs)∈LD->∃t fr,h' b=some (.cells vs t fr):=fun b vs e=>let ⟨t,fr,x⟩:=m.gl b vs e;⟨t,fr,hh _ _ x⟩
structure Keeps (X:Nat->Prop) (w w':World):Prop where
 os:w'.os=w.os
 tape:w'.tape=w.tape
 output:w'.output=w.output
 size:w.heap.size<=w'.heap.size
 block:∀b,b<w.heap.size->¬X b->w'.heap[b]?=w.heap[b]?
theorem Keeps.refl (X:Nat->Prop) (w:World):Keeps X w w:=⟨rfl,rfl,rfl,Nat.le_refl _,fun _ _ _=>rfl⟩
theorem Keeps.trans {X Y:Nat->Prop} {a b c:World} (x:Keeps X a b) (y:Keeps Y b c) (hy:∀k,k<a.heap.size->Y k->X k):Keeps X a c :=
 ⟨y.os.trans x.os,y.tape.trans x.tape,y.output.trans x.output,Nat.le_trans x.size y.size,
  fun k hk hX => (y.block k (Nat.lt_of_lt_of_le hk x.size) (fun hY => hX (hy k hk hY))).trans (x.block k hk hX)⟩
theorem Keeps.below (x:Keeps (fun _=>False) w w'):RowKit.Below w.heap.size w w' :=
 ⟨x.os,x.tape,x.output,x.size,fun k hk=>x.block k hk (fun h=>h)⟩
structure St where
 env:EN
 hp:CH
 n:Nat
structure Ctx where
 w0:World
 X:Nat->Prop
 h0:HP
 ρ0:RO
 N:Nat
structure Sat (C:Ctx) (st:St) (h:HP) (J:RO) (a:Act) (w:World):Prop where
 hle:BQ C.h0 h
 rle:Ck C.ρ0 J
 keep:Keeps C.X C.w0 w
 own:∀b,AI J st.hp b->C.w0.heap.size<=b∨C.X b
 mem:SatH h J st.hp st.n w
 env:∀t,t<C.N->∃v,a.tmps[t]?=some v∧Ba h J (ge st.env t) v
 size:a.tmps.size=C.N
 defers:a.defers=[]
def S (C:Ctx) (st:St) (a:Act) (w:World):Prop:=∃h J,Sat C st h J a w
theorem Am (h:k≠j):gc ((k,c)::r) j=gc r j:=by simp [gc,h]
theorem Ah:gc ((k,c)::r) k=c:=by simp [gc]
theorem Ak.sat_mono (hh:BQ h h') (hr:Ck J ρ')
 (hw:∀g b x,c.own g->J k g=some (some b,x)->w'.heap[b]?=w.heap[b]?) (s:c.sat h J w k):c.sat h' ρ' w' k:=by
 cases c with
 |no=>trivial
 |bx cs=>
  obtain ⟨b,c,vs,e,h1,h2,h3,h4⟩:=s
  exact ⟨b,c,vs,e,hr _ _ _ h1,by rw [hw 0 b c rfl h1];exact h2,h3,fun j U v a1 a2=>(h4 j U v a1 a2).mono hh hr⟩
 |rw g n l=>
  obtain ⟨ob,cap,h1,h2,EY,h3,h4,h5⟩:=s
  refine ⟨ob,cap,hr _ _ _ h1,h2,EY,h3,h4,fun b hb=>?_⟩
  subst hb
  obtain ⟨vs,e,a1,a2,a3⟩:=h5 b rfl
  exact ⟨vs,e,by rw [hw g b cap rfl h1];exact a1,a2,fun j x q U y1 y2=>let ⟨u,z1,z2⟩:=a3 j x q U y1 y2;⟨u,z1,z2.mono hh⟩⟩
 |rc g n cap l=>
  obtain ⟨ob,h1,h2,EY,h3,h4,h5⟩:=s
  refine ⟨ob,hr _ _ _ h1,h2,EY,h3,h4,fun b hb=>?_⟩
  subst hb
  obtain ⟨vs,e,a1,a2,a3⟩:=h5 b rfl
  exact ⟨vs,e,by rw [hw g b cap rfl h1];exact a1,a2,fun j x q U y1 y2=>let ⟨u,z1,z2⟩:=a3 j x q U y1 y2;⟨u,z1,z2.mono hh⟩⟩
 |sh g n l=>
  obtain ⟨ob,cap,h1,h2,EY,h3,h4,h5⟩:=s
  refine ⟨ob,cap,hr _ _ _ h1,h2,EY,h3,h4,fun b hb=>?_⟩
  obtain ⟨vs,e,fr,a1,a3⟩:=h5 b hb
  exact ⟨vs,e,fr,hh _ _ a1,fun j x q U y1 y2=>let ⟨u,z1,z2⟩:=a3 j x q U y1 y2;⟨u,z1,z2.mono hh⟩⟩
 |mp l=>
  obtain ⟨b,c,es,b8,h1,h2,h3,h3',h4⟩:=s
  exact ⟨b,c,es,b8,hr _ _ _ h1,by rw [hw 0 b c rfl h1];exact h2,h3,h3',fun j x U a1=>let ⟨u,born,z1,z2⟩:=h4 j x U a1;⟨u,born,z1,z2.mono hh⟩⟩
 |mq F=>
  obtain ⟨b,c,es,b8,h1,h2,h3',l,h3,h5,h4⟩:=s
  exact ⟨b,c,es,b8,hr _ _ _ h1,by rw [hw 0 b c rfl h1];exact h2,h3',l,h3,h5,fun j x U a1=>let ⟨u,born,z1,z2⟩:=h4 j x U a1;⟨u,born,z1,z2.mono hh⟩⟩
 |mr l sn=>
  obtain ⟨b,c,es,b8,h1,h2,h3,h3',h4,b2,c2,seen,h5,h6,h7,h8⟩:=s
  exact ⟨b,c,es,b8,hr _ _ _ h1,by rw [hw 0 b c (.inl rfl) h1];exact h2,h3,h3',fun j x U a1=>let ⟨u,born,z1,z2⟩:=h4 j x U a1;⟨u,born,z1,z2.mono hh⟩,b2,c2,seen,hr _ _ _ h5,h6,by rw [hw 1 b2 c2 (.inr rfl) h5];exact h7,h8⟩
 |ro cs=>
  obtain ⟨b,c,vs,e,fr,h1,h2,h3,h4⟩:=s
  exact ⟨b,c,vs,e,fr,hr _ _ _ h1,hh _ _ h2,h3,fun j U v a1 a2=>(h4 j U v a1 a2).mono hh⟩
 |rn g n l=>
  obtain ⟨ob,cap,h1,h2,EY,h3,h4,h5⟩:=s
  refine ⟨ob,cap,hr _ _ _ h1,h2,EY,h3,h4,fun b hb=>?_⟩
  subst hb
  obtain ⟨vs,e,a1,a2,a3⟩:=h5 b rfl
  exact ⟨vs,e,by rw [hw g b cap rfl h1];exact a1,a2,fun j x q U y1 y2=>let ⟨u,z1,z2⟩:=a3 j x q U y1 y2;⟨u,z1,z2.mono hh hr⟩⟩
 |sb T e g bs=>
  obtain ⟨b,c,p,v,h1,h2,h3,h4,h5,⟨y,hy⟩,h6⟩:=s
  refine ⟨b,c,p,v,hr _ _ _ h1,by rw [hw 0 b c (.inl rfl) h1];exact h2,h3,⟨h4.1,?_⟩,h5,⟨y,hr _ _ _ hy⟩,fun b2 e2=>⟨(h6 b2 e2).1,let ⟨c2,q⟩:=(h6 b2 e2).2;⟨c2,hr _ _ _ q⟩⟩⟩
  rcases h4.2 with q | ⟨g1,cap,cur,fz,a1,a2,a3,a4⟩
  .exact .inl q
  .subst a1
   obtain ⟨_,c2,q⟩:=h6 g1 rfl
   exact .inr ⟨g1,cap,cur,fz,rfl,a2,by rw [hw g g1 c2 (.inr rfl) q];exact a3,a4⟩
theorem SatH.heap (m:SatH h J hp n w) (e:w'.heap=w.heap):SatH h J hp n w' :=
 ⟨fun b o x=>by rw [e];exact m.hh b o x,fun k=>Ak.sat_mono (BQ.refl _) (Ck.refl _) (fun _ _ _ _ _=>by rw [e]) (m.ch k),m.inj,m.hid,fun b hb=>by rw [e];exact m.lt b hb,m.fr,m.gens,m.gl⟩
theorem SatH.put {n':Nat} (m:SatH h J hp n w) (k:Nat) (c':Ak)
 (hr:Ck J ρ') (BG:∀k' g,k'≠k->ρ' k' g=J k' g)
 (hw:∀b,b<w.heap.size->(h b≠none∨∃k' g c,k'≠k∧(gc hp k').own g∧J k' g=some (some b,c))->w'.heap[b]?=w.heap[b]?)
 (EB:w.heap.size<=w'.heap.size)
 (hs:c'.sat h ρ' w' k)
 (hb:∀g b c,c'.own g->ρ' k g=some (some b,c)->h b=none∧b<w'.heap.size∧∀k' g' c2,k'≠k->(gc hp k').own g'->J k' g'≠some (some b,c2))
 (JY:∀k' g,n'<=k'->ρ' k' g=none)
 (hg:∀g g' x,c'.rgen=some g->ρ' k g'=some x->g'<=g):SatH h ρ' ((k,c')::hp) n' w':=by
 have BY:∀b o,h b=some o->b<w.heap.size:=fun b o e=>(Array.getElem?_eq_some_iff.1 (m.hh b o e)).1
 refine ⟨fun b o e=>?_,fun k'=>?_,fun k1 k2 g1 g2 b c1 c2 e1 e2 r1 r2=>?_,fun b hl=>?_,fun b hl=>?_,JY,fun k1 g g' x e r=>?_,m.gl⟩
 .rw [hw b (BY b o e) (.inl (by simp [e]))]
  exact m.hh b o e
 .by_cases hk:k=k'
  .subst hk
   rw [Ah]
   exact hs
  .rw [Am hk]
   refine Ak.sat_mono (BQ.refl _) hr (fun g b x e r=>?_) (m.ch k')
   exact hw b (m.lt b ⟨k',g,x,e,r⟩) (.inr ⟨k',g,x,fun e=>hk e.symm,e,r⟩)
 .by_cases h1:k=k1
  .subst h1
   by_cases h2:k=k2
   .exact h2
   .rw [Ah] at e1
    rw [Am h2] at e2
    rw [BG k2 g2 (fun e=>h2 e.symm)] at r2
    exact absurd r2 ((hb g1 b c1 e1 r1).2.2 k2 g2 c2 (fun e=>h2 e.symm) e2)
  .rw [Am h1] at e1
   rw [BG k1 g1 (fun e=>h1 e.symm)] at r1
   by_cases h2:k=k2
   .subst h2
    rw [Ah] at e2
    exact absurd r1 ((hb g2 b c2 e2 r2).2.2 k1 g1 c1 (fun e=>h1 e.symm) e1)
   .rw [Am h2] at e2
    rw [BG k2 g2 (fun e=>h2 e.symm)] at r2
    exact m.inj k1 k2 g1 g2 b c1 c2 e1 e2 r1 r2
 .obtain ⟨k1,g,c,e,r⟩:=hl
  by_cases h1:k=k1
  .subst h1
   rw [Ah] at e
   exact (hb g b c e r).1
  .rw [Am h1] at e
   rw [BG k1 g (fun e=>h1 e.symm)] at r
   exact m.hid b ⟨k1,g,c,e,r⟩
 .obtain ⟨k1,g,c,e,r⟩:=hl
  by_cases h1:k=k1
  .subst h1
   rw [Ah] at e
   exact (hb g b c e r).2.1
  .rw [Am h1] at e
   rw [BG k1 g (fun e=>h1 e.symm)] at r
   exact Nat.lt_of_lt_of_le (m.lt b ⟨k1,g,c,e,r⟩) EB
 .by_cases h1:k=k1
  .subst h1
   rw [Ah] at e
   exact hg g g' x e r
  .rw [Am h1] at e
   rw [BG k1 g' (fun e=>h1 e.symm)] at r
   exact m.gens k1 g g' x e r
def By (J:RO) (k g:Nat) (x:Option Nat × Nat):RO:=fun k' g'=>if k'=k∧g'=g then some x else J k' g'
theorem A0 (J:RO) (k g:Nat) (x:Option Nat × Nat):By J k g x k g=some x:=by simp [By]
theorem BT (x:Option Nat×Nat) (hn:J k g=none):Ck J (By J k g x):=fun k' g' y e=>by
 unfold By
 by_cases h:k'=k∧g'=g
 .obtain ⟨rfl,rfl⟩:=h
  rw [hn] at e
  cases e
 .rw [if_neg h]
  exact e
theorem AY {k':Nat} (g':Nat) (x:Option Nat × Nat) (h:k'≠k):By J k g x k' g'=J k' g':=by simp [By,h]
def Fr (J ρ':RO) (k0:Nat):Prop:=∀k,k≠k0->(∀g,J k g=none)->∀g,ρ' k g=none
theorem Fr.refl (J:RO) (k0:Nat):Fr J J k0:=fun _ _ h=>h
theorem Fr.new (J:RO) (k0 g:Nat) (x:Option Nat × Nat):Fr J (By J k0 g x) k0:=fun k hk h g'=>by rw [AY _ _ hk];exact h g'
theorem Fr.old {g1:Nat} {y:Option Nat×Nat} (hy:J k g1=some y) (k0 g:Nat) (x:Option Nat×Nat):Fr J (By J k g x) k0:=fun k' hk h g'=>by
 have:k'≠k:=fun e=>by subst e;rw [h g1] at hy;cases hy
 rw [AY _ _ this];exact h g'
theorem SatH.new (m:SatH h J hp n w) {k0:Nat} (Ia:∀g,J k0 g=none) (c':Ak) (o:Obj) (cap:Nat)
 (hs:c'.sat h (By J k0 0 (some w.heap.size,cap)) (w.alloc o) k0) :
 SatH h (By J k0 0 (some w.heap.size,cap)) ((k0,c')::hp) (max n (k0+1)) (w.alloc o)∧Ck J (By J k0 0 (some w.heap.size,cap)):=by
 have hn:J k0 0=none:=Ia 0
 refine ⟨m.put k0 c' (BT _ hn) (fun k' g hk=>AY _ _ hk) (fun b hb _=>heap_alloc_old w o b hb) (by simp) hs ?_ ?_ ?_,BT _ hn⟩
 .intro g b c hg hr
  obtain rfl:g=0:=by
   by_cases h0:g=0
   .exact h0
   .unfold By at hr
    rw [if_neg (by omega),Ia g] at hr
    cases hr
  rw [A0] at hr
  cases hr
  refine ⟨?_,by simp,fun k' g' c2 hk D2 hr=>?_⟩
  .cases hb:h w.heap.size with
   |none=>rfl
   |some o=>
    have:=m.hh _ _ hb
    simp at this
  .have:=m.lt _ ⟨k',g',c2,D2,hr⟩
   omega
 .intro k' g hk
  rw [AY _ _ (by omega)]
  exact m.fr k' g (by omega)
 .intro g g' x e hx
  by_cases h0:g'=0
  .omega
  .unfold By at hx
   rw [if_neg (by omega)] at hx
   rw [Ia g'] at hx
   cases hx
def sl (hp:CH):AV->Option (List (List AV))
 | .ds l=>some l
 | .e0=>some []
 | .rw k g len=>match gc hp k with
  | .rw g' n l=>if g=g'∧len<=l.length then some (l.take len) else none
  | .sh g' n l=>if g=g'∧len<=l.length then some (l.take len) else none
  | .rn g' n l=>if g=g'∧len<=l.length then some (l.take len) else none
  |_=>none
 | .rf k g n off len=>match gc hp k with
  | .rw g' n' l=>if g=g'∧n=n'∧off+len<=l.length then some ((l.drop off).take len) else none
  |_=>none
 |_=>none
def sl0 (hp:CH) (U:AV):Option (List (List AV)) :=
 match U with
 | .rw k _ _=>match gc hp k with
  | .rn _ _ _=>none
  |_=>sl hp U
 | U=>sl hp U
theorem Bu {U:Type} {l:List U} {x:U} (h:(l.take n)[j]?=some x):l[j]?=some x∧j<n:=by
 rw [List.getElem?_take] at h
 split at h
 .exact ⟨h,by assumption⟩
 .cases h
theorem Bk {U:Type} {l:List U} {o q:Nat} {x:U} (h:((l.drop o).take m)[q]?=some x):l[o+q]?=some x∧q<m:=by
 obtain ⟨h1,h2⟩:=Bu h
 rw [List.getElem?_drop] at h1
 exact ⟨h1,h2⟩
theorem Pu (m:SatH h J hp n w) (r:Ba h J U v) (hl:sl0 hp U=some l) :
 ∃a cap,v=.slice a l.length cap∧l.length<=cap∧∃q0,(∀(j:Nat) e,l[j]?=some e->e.length=q0) ∧
  (l≠[]->∃b o,a=some ⟨b,o,none⟩∧∀(j:Nat) e (q:Nat) x,l[j]?=some e->e[q]?=some x->∃u,w.cell? ⟨b,o+q0*j+q,none⟩=some u∧Bq h x u):=by
 cases U with
 |ds l'=>
  simp only [sl0,sl,zm.injEq] at hl
  subst hl
  cases r with
  |pu _ _ p=>
   cases p with
   |ds _ q0 a cap us hc hn Al hm=>
    refine ⟨a,cap,rfl,hc,q0,hn,fun BG=>?_⟩
    obtain ⟨b,o,ea,hx⟩:=hm BG
    refine ⟨b,o,ea,fun j e q x h1 h2=>⟨us j q,?_,Al j e q x h1 h2⟩⟩
    have:=hx j e q x h1 h2
    unfold Eq at this
    cases hb:h b with
    |none=>simp [hb] at this
    |some ob=>
     have hb':=m.hh b ob hb
     rw [hb] at this
     cases ob<;>simp at this
     simp [World.cell?,hb',this]
 |e0=>
  simp only [sl0,sl,zm.injEq] at hl
  subst hl
  cases r with
  |pu _ _ p=>
   cases p with
   |e0 a=>exact ⟨a,0,rfl,Nat.le_refl _,0,fun j e hj=>by simp at hj,fun BG=>absurd rfl BG⟩
 |rw k g len=>
  cases r with
  |pu _ _ p=>cases p
  |rw _ _ _ cap a ob e OD ha=>
   have hk:=m.ch k
   simp only [sl0,sl] at hl
   cases IJ:gc hp k with
   |no=>simp [IJ] at hl
   |bx cs=>simp [IJ] at hl
   |mp l=>simp [IJ] at hl
   |mr l sn=>simp [IJ] at hl
   |ro cs=>simp [IJ] at hl
   |rn g' n' l'=>simp [IJ] at hl
   |sb T e g bs=>simp [IJ] at hl
   |rc g n c l=>simp [IJ] at hl
   |mq F=>simp [IJ] at hl
   |rw g' n' l'=>
    rw [IJ] at hl hk
    simp only at hl
    split at hl
    .rename_i hc
     obtain ⟨rfl,hle⟩:=hc
     simp only [zm.injEq] at hl
     subst hl
     obtain ⟨o7,i6,h1,h2,EY,h3,h4,h5⟩:=hk
     rw [e] at h1
     cases h1
     have Bn:(l'.take len).length=len:=by rw [zlo];omega
     refine ⟨a,cap,by rw [Bn],by omega,n',fun j x hj=>h3 j x (Bu hj).1,fun BG=>?_⟩
     cases ob with
     |none=>
      have:=h4 rfl
      have:len=0:=by omega
      subst this
      simp at BG
     |some b=>
      obtain ⟨vs,ty,a1,a2,a3⟩:=h5 b rfl
      refine ⟨b,0,ha b rfl,fun j x q y y1 y2=>?_⟩
      obtain ⟨u,z1,z2⟩:=a3 j x q y (Bu y1).1 y2
      refine ⟨u,?_,z2⟩
      simp [World.cell?,a1,z1]
    .cases hl
   |sh g' n' l'=>
    rw [IJ] at hl hk
    simp only at hl
    split at hl
    .rename_i hc
     obtain ⟨rfl,hle⟩:=hc
     simp only [zm.injEq] at hl
     subst hl
     obtain ⟨o7,i6,h1,h2,EY,h3,h4,h5⟩:=hk
     rw [e] at h1
     cases h1
     have Bn:(l'.take len).length=len:=by rw [zlo];omega
     refine ⟨a,cap,by rw [Bn],by omega,n',fun j x hj=>h3 j x (Bu hj).1,fun BG=>?_⟩
     cases ob with
     |none=>
      have:=h4 rfl
      have:len=0:=by omega
      subst this
      simp at BG
     |some b=>
      obtain ⟨vs,ty,fr,a1,a3⟩:=h5 b rfl
      refine ⟨b,0,ha b rfl,fun j x q y y1 y2=>?_⟩
      obtain ⟨u,z1,z2⟩:=a3 j x q y (Bu y1).1 y2
      have hb:=m.hh b _ a1
      refine ⟨u,?_,z2⟩
      simp [World.cell?,hb,z1]
    .cases hl
 |rf k g n off len=>
  cases r with
  |pu _ _ p=>cases p
  |rf _ _ _ _ _ cap a ob e OD ha=>
   have hk:=m.ch k
   simp only [sl0,sl] at hl
   split at hl
   .rename_i g' n' l' IJ
    split at hl
    .rename_i hc
     obtain ⟨rfl,rfl,hle⟩:=hc
     simp only [zm.injEq] at hl
     subst hl
     rw [IJ] at hk
     obtain ⟨o7,i6,h1,h2,EY,h3,h4,h5⟩:=hk
     rw [e] at h1
     cases h1
     have Bn:((l'.drop off).take len).length=len:=by rw [zlo,z2l];omega
     refine ⟨a,cap - off,by rw [Bn],by omega,n,fun j x hj=>h3 (off+j) x (Bk hj).1,fun BG=>?_⟩
     have HZ:0<len:=by
      rcases Nat.eq_zero_or_pos len with q | q
      .subst q;simp at BG
      .exact q
     cases ob with
     |none=>have:=h4 rfl;omega
     |some b=>
      obtain ⟨vs,ty,a1,a2,a3⟩:=h5 b rfl
      refine ⟨b,n*off,ha b rfl (by omega),fun j x q y y1 y2=>?_⟩
      obtain ⟨u,z1,z2⟩:=a3 (off+j) x q y (Bk y1).1 y2
      refine ⟨u,?_,z2⟩
      rw [Nat.mul_add] at z1
      simp [World.cell?,a1,z1]
    .cases hl
   .cases hl
 |_=>simp [sl0,sl] at hl
theorem Fb (m:SatH h J hp n w) (r:Ba h J U v) (hl:sl hp U=some l) :
 ∃a cap,v=.slice a l.length cap∧l.length<=cap∧∃q0,(∀(j:Nat) e,l[j]?=some e->e.length=q0) ∧
  (l≠[]->∃b o,a=some ⟨b,o,none⟩∧∀(j:Nat) e (q:Nat) x,l[j]?=some e->e[q]?=some x->∃u,w.cell? ⟨b,o+q0*j+q,none⟩=some u∧Ba h J x u):=by
 have old:sl0 hp U=some l->∃a cap,v=.slice a l.length cap∧l.length<=cap∧∃q0,(∀(j:Nat) e,l[j]?=some e->e.length=q0) ∧
  (l≠[]->∃b o,a=some ⟨b,o,none⟩∧∀(j:Nat) e (q:Nat) x,l[j]?=some e->e[q]?=some x->∃u,w.cell? ⟨b,o+q0*j+q,none⟩=some u∧Ba h J x u):=fun hl=>by
  obtain ⟨a,cap,e1,e2,q0,e3,e4⟩:=Pu m r hl
  refine ⟨a,cap,e1,e2,q0,e3,fun BG=>?_⟩
  obtain ⟨b,o,e5,e6⟩:=e4 BG
  exact ⟨b,o,e5,fun j e q x h1 h2=>let ⟨u,z1,z2⟩:=e6 j e q x h1 h2;⟨u,z1,.pu _ _ z2⟩⟩
 cases U with
 |rw k g len=>
  cases IJ:gc hp k with
  |rn g' n' l'=>
   cases r with
   |pu _ _ p=>cases p
   |rw _ _ _ cap a ob e OD ha=>
   have hk:=m.ch k
   simp only [sl] at hl
   rw [IJ] at hl hk
   simp only at hl
   split at hl
   .rename_i hc
    obtain ⟨rfl,hle⟩:=hc
    simp only [zm.injEq] at hl
    subst hl
    obtain ⟨o7,i6,h1,h2,EY,h3,h4,h5⟩:=hk
    rw [e] at h1
    cases h1
    have Bn:(l'.take len).length=len:=by rw [zlo];omega
    refine ⟨a,cap,by rw [Bn],by omega,n',fun j x hj=>h3 j x (Bu hj).1,fun BG=>?_⟩
    cases ob with
    |none=>
     have:=h4 rfl
     have:len=0:=by omega
     subst this
     simp at BG
    |some b=>
     obtain ⟨vs,ty,a1,a2,a3⟩:=h5 b rfl
     refine ⟨b,0,ha b rfl,fun j x q y y1 y2=>?_⟩
     obtain ⟨u,z1,z2⟩:=a3 j x q y (Bu y1).1 y2
     refine ⟨u,?_,z2⟩
     simp [World.cell?,a1,z1]
   .cases hl
  |_=>exact old (by simp only [sl0,IJ];exact hl)
 |_=>exact old hl
def J9 (hp:CH) (m:Nat):AV->Option (List AV)
 | .bx k off=>match gc hp k with
  | .bx cs=>if off+m<=cs.length then some ((cs.drop off).take m) else none
  | .ro cs=>if off+m<=cs.length then some ((cs.drop off).take m) else none
  |_=>none
 | .ep U n i off=>match sl hp U with
  |some l=>match l[i]? with
   |some e=>if e.length=n∧off+m<=e.length then some ((e.drop off).take m) else none
   |none=>none
  |none=>none
 |_=>none
theorem QJ (mm:SatH h J hp n w) (r:Ba h J U v) {cs:List AV} (hl:J9 hp m U=some cs) :
 ∃b o,v=.pointer (some ⟨b,o,none⟩)∧cs.length=m∧∃us:List Value,us.length=m∧(∀(q:Nat) u,us[q]?=some u->w.cell? ⟨b,o+q,none⟩=some u) ∧
  ∀(q:Nat) x u,cs[q]?=some x->us[q]?=some u->Ba h J x u:=by
 have j4:∀(b o:Nat) (cs:List AV),(∀(q:Nat) x,cs[q]?=some x->∃u,w.cell? ⟨b,o+q,none⟩=some u∧Ba h J x u) ->
  ∃us:List Value,us.length=cs.length∧(∀(q:Nat) u,us[q]?=some u->w.cell? ⟨b,o+q,none⟩=some u)∧∀(q:Nat) x u,cs[q]?=some x->us[q]?=some u->Ba h J x u:=by
  intro b o cs
  induction cs generalizing o with
  |nil=>intro _;exact ⟨[],rfl,fun q u hq=>by simp at hq,fun q x u hq=>by simp at hq⟩
  |cons c cs ih=>
   intro hx
   obtain ⟨u,hu,hr⟩:=hx 0 c rfl
   obtain ⟨us,e1,e2,e3⟩:=ih (o+1) (fun q x hq=>by
    obtain ⟨u,a1,a2⟩:=hx (q+1) x (by simpa using hq)
    exact ⟨u,by rw [show o+1+q=o+(q+1) by omega];exact a1,a2⟩)
   refine ⟨u::us,by simp [e1],fun q v hq=>?_,fun q x v hq hv=>?_⟩
   .cases q with
    |zero=>simp at hq;subst hq;exact hu
    |succ q=>rw [show o+(q+1)=o+1+q by omega];exact e2 q v (by simpa using hq)
   .cases q with
    |zero=>simp at hq hv;subst hq;subst hv;exact hr
    |succ q=>exact e3 q x v (by simpa using hq) (by simpa using hv)
 cases U with
 |bx k off=>
  cases r with
  |pu _ _ p=>cases p
  |bx _ _ b c e=>
   have hk:=mm.ch k
   simp only [J9] at hl
   cases IJ:gc hp k with
   |bx xs=>
    rw [IJ] at hl hk
    simp only at hl
    split at hl
    .rename_i hle
     simp only [zm.injEq] at hl
     subst hl
     obtain ⟨b',c',vs,ty,h1,h2,h3,h4⟩:=hk
     rw [e] at h1
     cases h1
     have Bn:((xs.drop off).take m).length=m:=by rw [zlo,z2l];omega
     refine ⟨b,off,rfl,Bn,?_⟩
     obtain ⟨us,e1,e2,e3⟩:=j4 b off ((xs.drop off).take m) (fun q x hq=>by
      obtain ⟨a1,a2⟩:=Bk hq
      have BY:off+q<vs.size:=by rw [h3];exact (zlb.1 a1).1
      refine ⟨vs[off+q],by simp [World.cell?,h2,BY],h4 _ _ _ a1 (by simp [BY])⟩)
     exact ⟨us,by rw [e1,Bn],e2,e3⟩
    .cases hl
   |ro xs=>
    rw [IJ] at hl hk
    simp only at hl
    split at hl
    .rename_i hle
     simp only [zm.injEq] at hl
     subst hl
     obtain ⟨b',c',vs,ty,fr,h1,h2,h3,h4⟩:=hk
     rw [e] at h1
     cases h1
     have Bn:((xs.drop off).take m).length=m:=by rw [zlo,z2l];omega
     refine ⟨b,off,rfl,Bn,?_⟩
     obtain ⟨us,e1,e2,e3⟩:=j4 b off ((xs.drop off).take m) (fun q x hq=>by
      obtain ⟨a1,a2⟩:=Bk hq
      have BY:off+q<vs.size:=by rw [h3];exact (zlb.1 a1).1
      refine ⟨vs[off+q],by simp [World.cell?,mm.hh _ _ h2,BY],.pu _ _ (h4 _ _ _ a1 (by simp [BY]))⟩)
     exact ⟨us,by rw [e1,Bn],e2,e3⟩
    .cases hl
   |_=>rw [IJ] at hl;simp at hl
 |ep β n' i off=>
  cases r with
  |pu _ _ p=>cases p
  |ep _ _ _ _ b o len cap rβ hi=>
   simp only [J9] at hl
   cases hs:sl hp β with
   |none=>simp [hs] at hl
   |some l=>
    rw [hs] at hl
    simp only at hl
    cases hli:l[i]? with
    |none=>simp [hli] at hl
    |some e=>
     rw [hli] at hl
     simp only at hl
     split at hl
     .rename_i hc
      simp only [zm.injEq] at hl
      subst hl
      obtain ⟨a',i6,ev,_,q0,hq0,hm⟩:=Fb mm rβ hs
      have BG:l≠[]:=by intro e;subst e;simp at hli
      obtain ⟨b',o',ea,hx⟩:=hm BG
      injection ev with e1 e2 e3
      subst e1
      injection ea with ea
      injection ea with ea1 ea2 ea3
      subst ea1
      subst ea2
      have hq:=hq0 i e hli
      have Bn:((e.drop off).take m).length=m:=by rw [zlo,z2l];omega
      refine ⟨b,o+n'*i+off,rfl,Bn,?_⟩
      obtain ⟨us,e1,e2,e3⟩:=j4 b (o+n'*i+off) ((e.drop off).take m) (fun q x hq=>by
       obtain ⟨a1,a2⟩:=Bk hq
       obtain ⟨u,z1,z2⟩:=hx i e (off+q) x hli a1
       refine ⟨u,?_,z2⟩
       have:q0=n':=by omega
       subst this
       rw [show o+q0*i+off+q=o+q0*i+(off+q) by omega]
       exact z1)
      exact ⟨us,by rw [e1,Bn],e2,e3⟩
     .cases hl
 |_=>simp [J9] at hl
end
