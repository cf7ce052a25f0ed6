/- Proof. Conditions: none. -/
import Derived.Below
import Derived.Laws.Rows
import Derived.Laws.Append
import Derived.Laws.CopyRow
import Derived.Laws.Pointers
import Derived.Tactics
import Derived.Orders
import Derived.Lib.FrozenHead2
import Derived.Lib.LaidTab
import Derived.Lib.ItoaNum
open List renaming getElem?_eq_some_iff→zlb,length_take→zlo
namespace Go.Eng
set_option linter.all false
inductive AV where
 | un
 | b (x:Bool)
 | i (k:IntKind) (n:Int)
 | s (x:ByteArray)
 | ag (l:List AV)
 | tp (l:List AV)
 | ds (l:List (List AV))
 | e0
 | np
 | bx (k off:Nat)
 | rw (k g len:Nat)
 | ep (α:AV) (n i off:Nat)
 | mp (k:Nat)
 | mn
 | fn (f:Nat) (c:List AV)
 | nf
 | fc (t:Nat) (x:AV)
 | ni
 | gd (c:Bool) (x:AV)
abbrev HP:=Nat→Option Obj
abbrev RO:=Nat→Nat→Option (Option Nat × Nat)
def cellAt (h:HP) (b o:Nat):Option Value:=match h b with | some (.cells c _ _)=>c[o]? | _=>none
inductive PRel (h:HP):AV→Value→Prop
 | un (v:Value):PRel h .un v
 | b (x:Bool):PRel h (.b x) (.bool x)
 | i (k:IntKind) (n:Int):PRel h (.i k n) (.int k n)
 | s (x:ByteArray):PRel h (.s x) (.string x)
 | ag (l:List AV) (vs:List Value):l.length=vs.length→(∀(j:Nat) α v,l[j]?=some α→vs[j]?=some v→PRel h α v)→PRel h (.ag l) (.agg vs.toArray)
 | tp (l:List AV) (vs:List Value):l.length=vs.length→(∀(j:Nat) α v,l[j]?=some α→vs[j]?=some v→PRel h α v)→PRel h (.tp l) (.tuple vs.toArray)
 | ds (l:List (List AV)) (n:Nat) (a:Option Addr) (cap:Nat) (us:Nat→Nat→Value):l.length≤cap→(∀(j:Nat) e,l[j]?=some e→e.length=n) →
   (∀(j:Nat) e (q:Nat) α,l[j]?=some e→e[q]?=some α→PRel h α (us j q)) →
   (l≠[]→∃b off,a=some ⟨b,off,none⟩∧∀(j:Nat) e (q:Nat) α,l[j]?=some e→e[q]?=some α→cellAt h b (off+n*j+q)=some (us j q)) →
   PRel h (.ds l) (.slice a l.length cap)
 | e0 (a:Option Addr):PRel h .e0 (.slice a 0 0)
 | np:PRel h .np (.pointer none)
 | mn:PRel h .mn (.map none)
 | nf:PRel h .nf .nilFunc
 | ni:PRel h .ni .nilIface
 | fc (t:Nat) (x:AV) (v:Value):PRel h x v→PRel h (.fc t x) (.iface t v)
 | gd (c:Bool) (x:AV) (v:Value):(c=true→PRel h x v)→(c=false→v=undef)→PRel h (.gd c x) v
inductive Rel (h:HP) (ρ:RO):AV→Value→Prop
 | pu (α:AV) (v:Value):PRel h α v→Rel h ρ α v
 | ag (l:List AV) (vs:List Value):l.length=vs.length→(∀(j:Nat) α v,l[j]?=some α→vs[j]?=some v→Rel h ρ α v)→Rel h ρ (.ag l) (.agg vs.toArray)
 | tp (l:List AV) (vs:List Value):l.length=vs.length→(∀(j:Nat) α v,l[j]?=some α→vs[j]?=some v→Rel h ρ α v)→Rel h ρ (.tp l) (.tuple vs.toArray)
 | bx (k off b c:Nat):ρ k 0=some (some b,c)→Rel h ρ (.bx k off) (.pointer (some ⟨b,off,none⟩))
 | rw (k g len cap:Nat) (a:Option Addr) (ob:Option Nat):ρ k g=some (ob,cap)→len≤cap→(∀b,ob=some b→a=some ⟨b,0,none⟩)→Rel h ρ (.rw k g len) (.slice a len cap)
 | ep (α:AV) (n i off b o len cap:Nat):Rel h ρ α (.slice (some ⟨b,o,none⟩) len cap)→i<len→Rel h ρ (.ep α n i off) (.pointer (some ⟨b,o+n*i+off,none⟩))
 | mp (k b c:Nat):ρ k 0=some (some b,c)→Rel h ρ (.mp k) (.map (some b))
 | fn (f:Nat) (l:List AV) (vs:List Value):l.length=vs.length→(∀(j:Nat) α v,l[j]?=some α→vs[j]?=some v→Rel h ρ α v)→Rel h ρ (.fn f l) (.func (.func f) #[] vs.toArray)
 | fc (t:Nat) (x:AV) (v:Value):Rel h ρ x v→Rel h ρ (.fc t x) (.iface t v)
 | gd (c:Bool) (x:AV) (v:Value):(c=true→Rel h ρ x v)→(c=false→v=undef)→Rel h ρ (.gd c x) v
def HLe (h h':HP):Prop:=∀b o,h b=some o→h' b=some o
def RLe (ρ ρ':RO):Prop:=∀k g x,ρ k g=some x→ρ' k g=some x
theorem HLe.refl (h:HP):HLe h h:=fun _ _ e=>e
theorem HLe.trans {a b c:HP} (x:HLe a b) (y:HLe b c):HLe a c:=fun k o e=>y k o (x k o e)
theorem RLe.refl (ρ:RO):RLe ρ ρ:=fun _ _ _ e=>e
theorem RLe.trans {a b c:RO} (x:RLe a b) (y:RLe b c):RLe a c:=fun k g v e=>y k g v (x k g v e)
theorem cellAt_mono {h h':HP} (hh:HLe h h') {b o:Nat} {u:Value} (e:cellAt h b o=some u):cellAt h' b o=some u:=by
 unfold cellAt at *
 cases hb:h b with
 | none=>simp [hb] at e
 | some x=>rw [hb] at e;rw [hh _ _ hb];exact e
theorem PRel.mono {h h':HP} (hh:HLe h h') {α:AV} {v:Value} (r:PRel h α v):PRel h' α v:=by
 induction r with
 | un v=>exact .un v
 | b x=>exact .b x
 | i k n=>exact .i k n
 | s x=>exact .s x
 | ag l vs e _ ih=>exact .ag l vs e ih
 | tp l vs e _ ih=>exact .tp l vs e ih
 | ds l n a cap us hc hn _ hm ih =>
  refine .ds l n a cap us hc hn ih fun hl=>?_
  obtain ⟨b,off,ea,hx⟩:=hm hl
  exact ⟨b,off,ea,fun j e q α h1 h2=>cellAt_mono hh (hx j e q α h1 h2)⟩
 | e0 a=>exact .e0 a
 | np=>exact .np
 | mn=>exact .mn
 | nf=>exact .nf
 | ni=>exact .ni
 | fc t x v _ ih=>exact .fc t x v ih
 | gd c x v _ hf ih=>exact .gd c x v ih hf
theorem Rel.mono {h h':HP} {ρ ρ':RO} (hh:HLe h h') (hr:RLe ρ ρ') {α:AV} {v:Value} (r:Rel h ρ α v):Rel h' ρ' α v:=by
 induction r with
 | pu α v p=>exact .pu α v (p.mono hh)
 | ag l vs e _ ih=>exact .ag l vs e ih
 | tp l vs e _ ih=>exact .tp l vs e ih
 | bx k off b c e=>exact .bx k off b c (hr _ _ _ e)
 | rw k g len cap a ob e hl ha=>exact .rw k g len cap a ob (hr _ _ _ e) hl ha
 | ep α n i off b o len cap _ hi ih=>exact .ep α n i off b o len cap ih hi
 | mp k b c e=>exact .mp k b c (hr _ _ _ e)
 | fn f l vs e _ ih=>exact .fn f l vs e ih
 | fc t x v _ ih=>exact .fc t x v ih
 | gd c x v _ hf ih=>exact .gd c x v ih hf
theorem idx_some {α β:Type} {l:List α} {vs:List β} (e:l.length=vs.length) {j:Nat} {x:α} (h:l[j]?=some x):∃v,vs[j]?=some v:=by
 have hj:j<vs.length:=by have:=(zlb.1 h).1;omega
 exact ⟨vs[j],List.getElem?_eq_getElem hj⟩
theorem Rel.back {h h':HP} {ρ ρ':RO} (hr:RLe ρ ρ') {α:AV} {v0 v:Value} (r0:Rel h ρ α v0) (r:Rel h' ρ' α v):Rel h' ρ α v:=by
 induction r0 generalizing v with
 | pu α v0 p =>
  induction p generalizing v with
  | un=>exact .pu _ _ (.un _)
  | b x=>cases r with | pu _ _ p=>exact .pu _ _ p
  | i x=>cases r with | pu _ _ p=>exact .pu _ _ p
  | s x=>cases r with | pu _ _ p=>exact .pu _ _ p
  | ag l vs e _ ih =>
   cases r with
   | pu _ _ p=>exact .pu _ _ p
   | ag _ ws e' h' =>
    exact .ag _ _ e' fun j α v h1 h2=>let ⟨u,hu⟩:=idx_some e h1;ih j α u h1 hu (h' j α v h1 h2)
  | tp l vs e _ ih =>
   cases r with
   | pu _ _ p=>exact .pu _ _ p
   | tp _ ws e' h' =>
    exact .tp _ _ e' fun j α v h1 h2=>let ⟨u,hu⟩:=idx_some e h1;ih j α u h1 hu (h' j α v h1 h2)
  | ds=>cases r with | pu _ _ p=>exact .pu _ _ p
  | e0=>cases r with | pu _ _ p=>exact .pu _ _ p
  | np=>cases r with | pu _ _ p=>exact .pu _ _ p
  | mn=>cases r with | pu _ _ p=>exact .pu _ _ p
  | nf=>cases r with | pu _ _ p=>exact .pu _ _ p
  | ni=>cases r with | pu _ _ p=>exact .pu _ _ p
  | fc t x v0 _ ih =>
   cases r with
   | pu _ _ p=>exact .pu _ _ p
   | fc _ _ v h'=>exact .fc _ _ _ (ih h')
  | gd c x v0 _ hf ih =>
   cases r with
   | pu _ _ p=>exact .pu _ _ p
   | gd _ _ v h' hf'=>exact .gd _ _ _ (fun hc=>ih hc (h' hc)) hf'
 | ag l vs e _ ih =>
  cases r with
  | pu _ _ p=>exact .pu _ _ p
  | ag _ ws e' h' =>
   exact .ag _ _ e' fun j α v h1 h2=>let ⟨u,hu⟩:=idx_some e h1;ih j α u h1 hu (h' j α v h1 h2)
 | tp l vs e _ ih =>
  cases r with
  | pu _ _ p=>exact .pu _ _ p
  | tp _ ws e' h' =>
   exact .tp _ _ e' fun j α v h1 h2=>let ⟨u,hu⟩:=idx_some e h1;ih j α u h1 hu (h' j α v h1 h2)
 | bx k off b c e0 =>
  cases r with
  | pu _ _ p=>exact .pu _ _ p
  | bx _ _ b' c' e =>
   rw [hr _ _ _ e0] at e
   cases e
   exact .bx _ _ _ _ e0
 | rw k g len cap a ob e0 hl ha =>
  cases r with
  | pu _ _ p=>exact .pu _ _ p
  | rw _ _ _ cap' a' ob' e hl' ha' =>
   rw [hr _ _ _ e0] at e
   cases e
   exact .rw _ _ _ _ _ _ e0 hl' ha'
 | ep α n i off b o len cap _ hi ih =>
  cases r with
  | pu _ _ p=>exact .pu _ _ p
  | ep _ _ _ _ b' o' len' cap' r' hi'=>exact .ep _ _ _ _ _ _ _ _ (ih r') hi'
 | mp k b c e0 =>
  cases r with
  | pu _ _ p=>exact .pu _ _ p
  | mp _ b' c' e =>
   rw [hr _ _ _ e0] at e
   cases e
   exact .mp _ _ _ e0
 | fn f l vs e _ ih =>
  cases r with
  | pu _ _ p=>exact .pu _ _ p
  | fn _ _ ws e' h' =>
   exact .fn _ _ _ e' fun j α v h1 h2=>let ⟨u,hu⟩:=idx_some e h1;ih j α u h1 hu (h' j α v h1 h2)
 | fc t x v0 _ ih =>
  cases r with
  | pu _ _ p=>exact .pu _ _ p
  | fc _ _ v h'=>exact .fc _ _ _ (ih h')
 | gd c x v0 _ hf ih =>
  cases r with
  | pu _ _ p=>exact .pu _ _ p
  | gd _ _ v h' hf'=>exact .gd _ _ _ (fun hc=>ih hc (h' hc)) hf'
inductive Chunk where
 | no
 | bx (cs:List AV)
 | rw (g n:Nat) (l:List (List AV))
 | sh (g n:Nat) (l:List (List AV))
 | mp (l:List (ByteArray × AV))
 | ro (cs:List AV)
 | rn (g n:Nat) (l:List (List AV))
 | sb (T e g:Nat) (bs:ByteArray)
abbrev CH:=List (Nat × Chunk)
def gc:CH→Nat→Chunk
 | [],_=>.no
 | (k,c)::r,j=>if k=j then c else gc r j
abbrev EN:=List (Nat × AV)
def ge:EN→Nat→AV
 | [],_=>.un
 | (k,c)::r,j=>if k=j then c else ge r j
def Chunk.gen:Chunk→Option Nat
 | .bx _=>some 0
 | .rw g _ _=>some g
 | .mp _=>some 0
 | .rn g _ _=>some g
 | .sb _ _ g _=>some g
 | _=>none
def Chunk.own:Chunk→Nat→Prop
 | .sb _ _ g _,j=>j=0∨j=g
 | c,g=>c.gen=some g
def Chunk.rgen:Chunk→Option Nat
 | .rw g _ _=>some g
 | .rn g _ _=>some g
 | .sb _ _ g _=>some g
 | _=>none
theorem Chunk.rgen_gen {c:Chunk} {g:Nat} (h:c.rgen=some g):c.gen=some g:=by cases c<;>first | exact h | cases h
theorem Chunk.gen_own {c:Chunk} {g:Nat} (h:c.gen=some g):c.own g:=by cases c<;>first | exact h | exact .inr (Option.some.inj h).symm
theorem Chunk.own_none {c:Chunk} {g:Nat} (h:c.gen=none):¬c.own g:=fun e=>by
 cases c<;>first | (cases h;done) | (cases e;done)
def Chunk.sat (h:HP) (ρ:RO) (w:World) (k:Nat):Chunk→Prop
 | .no=>True
 | .bx cs=>∃b c vs e,ρ k 0=some (some b,c)∧w.heap[b]?=some (.cells vs e (0,0))∧vs.size=cs.length∧∀(j:Nat) α v,cs[j]?=some α→vs[j]?=some v→Rel h ρ α v
 | .rw g n l=>∃ob cap,ρ k g=some (ob,cap)∧l.length≤cap∧cap≤maxLen∧(∀(j:Nat) e,l[j]?=some e→e.length=n)∧(ob=none→cap=0) ∧
   ∀b,ob=some b→∃vs e,w.heap[b]?=some (.cells vs e (0,0))∧vs.size=cap*n∧∀(j:Nat) x (q:Nat) α,l[j]?=some x→x[q]?=some α→∃u,vs[n*j+q]?=some u∧PRel h α u
 | .sh g n l=>∃ob cap,ρ k g=some (ob,cap)∧l.length≤cap∧cap≤maxLen∧(∀(j:Nat) e,l[j]?=some e→e.length=n)∧(ob=none→cap=0) ∧
   ∀b,ob=some b→∃vs e fr,h b=some (.cells vs e fr)∧∀(j:Nat) x (q:Nat) α,l[j]?=some x→x[q]?=some α→∃u,vs[n*j+q]?=some u∧PRel h α u
 | .mp l=>∃b c es clock,ρ k 0=some (some b,c)∧w.heap[b]?=some (.map es clock)∧es.size=l.length ∧
   ∀(j:Nat) x α,l[j]?=some (x,α)→∃u born,es[j]?=some ⟨.string x,u,born⟩∧PRel h α u
 | .ro cs=>∃b c vs e fr,ρ k 0=some (some b,c)∧h b=some (.cells vs e fr)∧vs.size=cs.length∧∀(j:Nat) α v,cs[j]?=some α→vs[j]?=some v→PRel h α v
 | .rn g n l=>∃ob cap,ρ k g=some (ob,cap)∧l.length≤cap∧cap≤maxLen∧(∀(j:Nat) e,l[j]?=some e→e.length=n)∧(ob=none→cap=0) ∧
   ∀b,ob=some b→∃vs e,w.heap[b]?=some (.cells vs e (0,0))∧vs.size=cap*n∧∀(j:Nat) x (q:Nat) α,l[j]?=some x→x[q]?=some α→∃u,vs[n*j+q]?=some u∧Rel h ρ α u
 | .sb T e g bs=>∃b c p v,ρ k 0=some (some b,c)∧w.heap[b]?=some (.cells #[p,v] T (0,0))∧(p=.pointer none∨p=.pointer (some ⟨b,0,none⟩))∧w.ownsRowF 0 e 1 v bs.size (Lib.strCells bs)∧v.ownBlock≠some b∧(∃y,ρ k g=some y) ∧
   ∀b2,v.ownBlock=some b2→0<g∧∃c2,ρ k g=some (some b2,c2)
def glTab:List (Nat × Array Value):=[(1,(Lib.pow10Tab.map fun z=>Value.int IntKind.u64 z).toArray)]
def live (ρ:RO) (hp:CH) (b:Nat):Prop:=∃k g c,(gc hp k).own g∧ρ k g=some (some b,c)
structure SatH (h:HP) (ρ:RO) (hp:CH) (n:Nat) (w:World):Prop where
 hh:∀b o,h b=some o→w.heap[b]?=some o
 ch:∀k,(gc hp k).sat h ρ w k
 inj:∀k k' g g' b c c',(gc hp k).own g→(gc hp k').own g'→ρ k g=some (some b,c)→ρ k' g'=some (some b,c')→k=k'
 hid:∀b,live ρ hp b→h b=none
 lt:∀b,live ρ hp b→b<w.heap.size
 fr:∀k g,n≤k→ρ k g=none
 gens:∀k g g' x,(gc hp k).rgen=some g→ρ k g'=some x→g'≤g
 gl:∀b vs,(b,vs)∈glTab→∃t fr,h b=some (.cells vs t fr)
theorem SatH.glm {h h':HP} {ρ:RO} {hp:CH} {n:Nat} {w:World} (m:SatH h ρ hp n w) (hh:HLe h h'):∀b vs,(b,vs)∈glTab→∃t fr,h' b=some (.cells vs t fr):=fun b vs e=>let ⟨t,fr,x⟩:=m.gl b vs e;⟨t,fr,hh _ _ x⟩
structure Keeps (X:Nat→Prop) (w w':World):Prop where
 os:w'.os=w.os
 tape:w'.tape=w.tape
 output:w'.output=w.output
 size:w.heap.size≤w'.heap.size
 block:∀b,b<w.heap.size→¬X b→w'.heap[b]?=w.heap[b]?
theorem Keeps.refl (X:Nat→Prop) (w:World):Keeps X w w:=⟨rfl,rfl,rfl,Nat.le_refl _,fun _ _ _=>rfl⟩
theorem Keeps.trans {X Y:Nat→Prop} {a b c:World} (x:Keeps X a b) (y:Keeps Y b c) (hy:∀k,k<a.heap.size→Y k→X k):Keeps X a c :=
  ⟨y.os.trans x.os,y.tape.trans x.tape,y.output.trans x.output,Nat.le_trans x.size y.size,
   fun k hk hX => (y.block k (Nat.lt_of_lt_of_le hk x.size) (fun hY => hX (hy k hk hY))).trans (x.block k hk hX)⟩
theorem Keeps.below {w w':World} (x:Keeps (fun _=>False) w w'):RowKit.Below w.heap.size w w' :=
 ⟨x.os,x.tape,x.output,x.size,fun k hk=>x.block k hk (fun h=>h)⟩
structure St where
 env:EN
 hp:CH
 n:Nat
structure Ctx where
 w0:World
 X:Nat→Prop
 h0:HP
 ρ0:RO
 N:Nat
structure Sat (C:Ctx) (st:St) (h:HP) (ρ:RO) (a:Act) (w:World):Prop where
 hle:HLe C.h0 h
 rle:RLe C.ρ0 ρ
 keep:Keeps C.X C.w0 w
 own:∀b,live ρ st.hp b→C.w0.heap.size≤b∨C.X b
 mem:SatH h ρ st.hp st.n w
 env:∀t,t<C.N→∃v,a.tmps[t]?=some v∧Rel h ρ (ge st.env t) v
 size:a.tmps.size=C.N
 defers:a.defers=[]
def S (C:Ctx) (st:St) (a:Act) (w:World):Prop:=∃h ρ,Sat C st h ρ a w
theorem gc_cons_ne {k j:Nat} {c:Chunk} {r:CH} (h:k≠j):gc ((k,c)::r) j=gc r j:=by simp [gc,h]
theorem gc_cons_same {k:Nat} {c:Chunk} {r:CH}:gc ((k,c)::r) k=c:=by simp [gc]
theorem Chunk.sat_mono {h h':HP} {ρ ρ':RO} {w w':World} {k:Nat} {c:Chunk} (hh:HLe h h') (hr:RLe ρ ρ')
  (hw:∀g b x,c.own g→ρ k g=some (some b,x)→w'.heap[b]?=w.heap[b]?) (s:c.sat h ρ w k):c.sat h' ρ' w' k:=by
 cases c with
 | no=>trivial
 | bx cs =>
  obtain ⟨b,c,vs,e,h1,h2,h3,h4⟩:=s
  exact ⟨b,c,vs,e,hr _ _ _ h1,by rw [hw 0 b c rfl h1];exact h2,h3,fun j α v a1 a2=>(h4 j α v a1 a2).mono hh hr⟩
 | rw g n l =>
  obtain ⟨ob,cap,h1,h2,h2',h3,h4,h5⟩:=s
  refine ⟨ob,cap,hr _ _ _ h1,h2,h2',h3,h4,fun b hb=>?_⟩
  subst hb
  obtain ⟨vs,e,a1,a2,a3⟩:=h5 b rfl
  exact ⟨vs,e,by rw [hw g b cap rfl h1];exact a1,a2,fun j x q α y1 y2=>let ⟨u,z1,z2⟩:=a3 j x q α y1 y2;⟨u,z1,z2.mono hh⟩⟩
 | sh g n l =>
  obtain ⟨ob,cap,h1,h2,h2',h3,h4,h5⟩:=s
  refine ⟨ob,cap,hr _ _ _ h1,h2,h2',h3,h4,fun b hb=>?_⟩
  obtain ⟨vs,e,fr,a1,a3⟩:=h5 b hb
  exact ⟨vs,e,fr,hh _ _ a1,fun j x q α y1 y2=>let ⟨u,z1,z2⟩:=a3 j x q α y1 y2;⟨u,z1,z2.mono hh⟩⟩
 | mp l =>
  obtain ⟨b,c,es,clock,h1,h2,h3,h4⟩:=s
  exact ⟨b,c,es,clock,hr _ _ _ h1,by rw [hw 0 b c rfl h1];exact h2,h3,fun j x α a1=>let ⟨u,born,z1,z2⟩:=h4 j x α a1;⟨u,born,z1,z2.mono hh⟩⟩
 | ro cs =>
  obtain ⟨b,c,vs,e,fr,h1,h2,h3,h4⟩:=s
  exact ⟨b,c,vs,e,fr,hr _ _ _ h1,hh _ _ h2,h3,fun j α v a1 a2=>(h4 j α v a1 a2).mono hh⟩
 | rn g n l =>
  obtain ⟨ob,cap,h1,h2,h2',h3,h4,h5⟩:=s
  refine ⟨ob,cap,hr _ _ _ h1,h2,h2',h3,h4,fun b hb=>?_⟩
  subst hb
  obtain ⟨vs,e,a1,a2,a3⟩:=h5 b rfl
  exact ⟨vs,e,by rw [hw g b cap rfl h1];exact a1,a2,fun j x q α y1 y2=>let ⟨u,z1,z2⟩:=a3 j x q α y1 y2;⟨u,z1,z2.mono hh hr⟩⟩
 | sb T e g bs =>
  obtain ⟨b,c,p,v,h1,h2,h3,h4,h5,⟨y,hy⟩,h6⟩:=s
  refine ⟨b,c,p,v,hr _ _ _ h1,by rw [hw 0 b c (.inl rfl) h1];exact h2,h3,⟨h4.1,?_⟩,h5,⟨y,hr _ _ _ hy⟩,fun b2 e2=>⟨(h6 b2 e2).1,let ⟨c2,q⟩:=(h6 b2 e2).2;⟨c2,hr _ _ _ q⟩⟩⟩
  rcases h4.2 with q | ⟨g1,cap,cur,fz,a1,a2,a3,a4⟩
  .exact .inl q
  .subst a1
   obtain ⟨_,c2,q⟩:=h6 g1 rfl
   exact .inr ⟨g1,cap,cur,fz,rfl,a2,by rw [hw g g1 c2 (.inr rfl) q];exact a3,a4⟩
theorem SatH.heap {h:HP} {ρ:RO} {hp:CH} {n:Nat} {w w':World} (m:SatH h ρ hp n w) (e:w'.heap=w.heap):SatH h ρ hp n w' :=
 ⟨fun b o x=>by rw [e];exact m.hh b o x,fun k=>Chunk.sat_mono (HLe.refl _) (RLe.refl _) (fun _ _ _ _ _=>by rw [e]) (m.ch k),m.inj,m.hid,fun b hb=>by rw [e];exact m.lt b hb,m.fr,m.gens,m.gl⟩
theorem SatH.put {h:HP} {ρ ρ':RO} {hp:CH} {n n':Nat} {w w':World} (m:SatH h ρ hp n w) (k:Nat) (c':Chunk)
  (hr:RLe ρ ρ') (hne:∀k' g,k'≠k→ρ' k' g=ρ k' g)
  (hw:∀b,b<w.heap.size→(h b≠none∨∃k' g c,k'≠k∧(gc hp k').own g∧ρ k' g=some (some b,c))→w'.heap[b]?=w.heap[b]?)
  (hsz:w.heap.size≤w'.heap.size)
  (hs:c'.sat h ρ' w' k)
  (hb:∀g b c,c'.own g→ρ' k g=some (some b,c)→h b=none∧b<w'.heap.size∧∀k' g' c2,k'≠k→(gc hp k').own g'→ρ k' g'≠some (some b,c2))
  (hfr:∀k' g,n'≤k'→ρ' k' g=none)
  (hg:∀g g' x,c'.rgen=some g→ρ' k g'=some x→g'≤g):SatH h ρ' ((k,c')::hp) n' w':=by
 have hlt:∀b o,h b=some o→b<w.heap.size:=fun b o e=>(Array.getElem?_eq_some_iff.1 (m.hh b o e)).1
 refine ⟨fun b o e=>?_,fun k'=>?_,fun k1 k2 g1 g2 b c1 c2 e1 e2 r1 r2=>?_,fun b hl=>?_,fun b hl=>?_,hfr,fun k1 g g' x e r=>?_,m.gl⟩
 .rw [hw b (hlt b o e) (.inl (by simp [e]))]
  exact m.hh b o e
 .by_cases hk:k=k'
  .subst hk
   rw [gc_cons_same]
   exact hs
  .rw [gc_cons_ne hk]
   refine Chunk.sat_mono (HLe.refl _) hr (fun g b x e r=>?_) (m.ch k')
   exact hw b (m.lt b ⟨k',g,x,e,r⟩) (.inr ⟨k',g,x,fun e=>hk e.symm,e,r⟩)
 .by_cases h1:k=k1
  .subst h1
   by_cases h2:k=k2
   .exact h2
   .rw [gc_cons_same] at e1
    rw [gc_cons_ne h2] at e2
    rw [hne k2 g2 (fun e=>h2 e.symm)] at r2
    exact absurd r2 ((hb g1 b c1 e1 r1).2.2 k2 g2 c2 (fun e=>h2 e.symm) e2)
  .rw [gc_cons_ne h1] at e1
   rw [hne k1 g1 (fun e=>h1 e.symm)] at r1
   by_cases h2:k=k2
   .subst h2
    rw [gc_cons_same] at e2
    exact absurd r1 ((hb g2 b c2 e2 r2).2.2 k1 g1 c1 (fun e=>h1 e.symm) e1)
   .rw [gc_cons_ne h2] at e2
    rw [hne k2 g2 (fun e=>h2 e.symm)] at r2
    exact m.inj k1 k2 g1 g2 b c1 c2 e1 e2 r1 r2
 .obtain ⟨k1,g,c,e,r⟩:=hl
  by_cases h1:k=k1
  .subst h1
   rw [gc_cons_same] at e
   exact (hb g b c e r).1
  .rw [gc_cons_ne h1] at e
   rw [hne k1 g (fun e=>h1 e.symm)] at r
   exact m.hid b ⟨k1,g,c,e,r⟩
 .obtain ⟨k1,g,c,e,r⟩:=hl
  by_cases h1:k=k1
  .subst h1
   rw [gc_cons_same] at e
   exact (hb g b c e r).2.1
  .rw [gc_cons_ne h1] at e
   rw [hne k1 g (fun e=>h1 e.symm)] at r
   exact Nat.lt_of_lt_of_le (m.lt b ⟨k1,g,c,e,r⟩) hsz
 .by_cases h1:k=k1
  .subst h1
   rw [gc_cons_same] at e
   exact hg g g' x e r
  .rw [gc_cons_ne h1] at e
   rw [hne k1 g' (fun e=>h1 e.symm)] at r
   exact m.gens k1 g g' x e r
def rset (ρ:RO) (k g:Nat) (x:Option Nat × Nat):RO:=fun k' g'=>if k'=k∧g'=g then some x else ρ k' g'
theorem rset_same (ρ:RO) (k g:Nat) (x:Option Nat × Nat):rset ρ k g x k g=some x:=by simp [rset]
theorem rset_le {ρ:RO} {k g:Nat} (x:Option Nat × Nat) (hn:ρ k g=none):RLe ρ (rset ρ k g x):=fun k' g' y e=>by
 unfold rset
 by_cases h:k'=k∧g'=g
 .obtain ⟨rfl,rfl⟩:=h
  rw [hn] at e
  cases e
 .rw [if_neg h]
  exact e
theorem rset_ne {ρ:RO} {k g k':Nat} (g':Nat) (x:Option Nat × Nat) (h:k'≠k):rset ρ k g x k' g'=ρ k' g':=by simp [rset,h]
def Fr (ρ ρ':RO) (k0:Nat):Prop:=∀k,k≠k0→(∀g,ρ k g=none)→∀g,ρ' k g=none
theorem Fr.refl (ρ:RO) (k0:Nat):Fr ρ ρ k0:=fun _ _ h=>h
theorem Fr.new (ρ:RO) (k0 g:Nat) (x:Option Nat × Nat):Fr ρ (rset ρ k0 g x) k0:=fun k hk h g'=>by rw [rset_ne _ _ hk];exact h g'
theorem Fr.old {ρ:RO} {k g1:Nat} {y:Option Nat × Nat} (hy:ρ k g1=some y) (k0 g:Nat) (x:Option Nat × Nat):Fr ρ (rset ρ k g x) k0:=fun k' hk h g'=>by
 have:k'≠k:=fun e=>by subst e;rw [h g1] at hy;cases hy
 rw [rset_ne _ _ this];exact h g'
theorem SatH.new {h:HP} {ρ:RO} {hp:CH} {n:Nat} {w:World} (m:SatH h ρ hp n w) {k0:Nat} (hk0:∀g,ρ k0 g=none) (c':Chunk) (o:Obj) (cap:Nat)
  (hs:c'.sat h (rset ρ k0 0 (some w.heap.size,cap)) (w.alloc o) k0) :
  SatH h (rset ρ k0 0 (some w.heap.size,cap)) ((k0,c')::hp) (max n (k0+1)) (w.alloc o)∧RLe ρ (rset ρ k0 0 (some w.heap.size,cap)):=by
 have hn:ρ k0 0=none:=hk0 0
 refine ⟨m.put k0 c' (rset_le _ hn) (fun k' g hk=>rset_ne _ _ hk) (fun b hb _=>heap_alloc_old w o b hb) (by simp) hs ?_ ?_ ?_,rset_le _ hn⟩
 .intro g b c hg hr
  obtain rfl:g=0:=by
   by_cases h0:g=0
   .exact h0
   .unfold rset at hr
    rw [if_neg (by omega),hk0 g] at hr
    cases hr
  rw [rset_same] at hr
  cases hr
  refine ⟨?_,by simp,fun k' g' c2 hk hg' hr=>?_⟩
  .cases hb:h w.heap.size with
   | none=>rfl
   | some o =>
    have:=m.hh _ _ hb
    simp at this
  .have:=m.lt _ ⟨k',g',c2,hg',hr⟩
   omega
 .intro k' g hk
  rw [rset_ne _ _ (by omega)]
  exact m.fr k' g (by omega)
 .intro g g' x e hx
  by_cases h0:g'=0
  .omega
  .unfold rset at hx
   rw [if_neg (by omega)] at hx
   rw [hk0 g'] at hx
   cases hx
def sl (hp:CH):AV→Option (List (List AV))
 | .ds l=>some l
 | .e0=>some []
 | .rw k g len=>match gc hp k with
  | .rw g' n l=>if g=g'∧len≤l.length then some (l.take len) else none
  | .sh g' n l=>if g=g'∧len≤l.length then some (l.take len) else none
  | .rn g' n l=>if g=g'∧len≤l.length then some (l.take len) else none
  | _=>none
 | _=>none
def sl0 (hp:CH) (α:AV):Option (List (List AV)) :=
 match α with
 | .rw k _ _=>match gc hp k with
  | .rn _ _ _=>none
  | _=>sl hp α
 | α=>sl hp α
theorem take_get {α:Type} {l:List α} {n j:Nat} {x:α} (h:(l.take n)[j]?=some x):l[j]?=some x∧j<n:=by
 rw [List.getElem?_take] at h
 split at h
 .exact ⟨h,by assumption⟩
 .cases h
theorem sl0_read {h:HP} {ρ:RO} {hp:CH} {n:Nat} {w:World} (m:SatH h ρ hp n w) {α:AV} {v:Value} (r:Rel h ρ α v) {l:List (List AV)} (hl:sl0 hp α=some l) :
  ∃a cap,v=.slice a l.length cap∧l.length≤cap∧∃q0,(∀(j:Nat) e,l[j]?=some e→e.length=q0) ∧
   (l≠[]→∃b o,a=some ⟨b,o,none⟩∧∀(j:Nat) e (q:Nat) x,l[j]?=some e→e[q]?=some x→∃u,w.cell? ⟨b,o+q0*j+q,none⟩=some u∧PRel h x u):=by
 cases α with
 | ds l' =>
  simp only [sl0,sl,Option.some.injEq] at hl
  subst hl
  cases r with
  | pu _ _ p =>
   cases p with
   | ds _ q0 a cap us hc hn hp' hm =>
    refine ⟨a,cap,rfl,hc,q0,hn,fun hne=>?_⟩
    obtain ⟨b,o,ea,hx⟩:=hm hne
    refine ⟨b,o,ea,fun j e q x h1 h2=>⟨us j q,?_,hp' j e q x h1 h2⟩⟩
    have:=hx j e q x h1 h2
    unfold cellAt at this
    cases hb:h b with
    | none=>simp [hb] at this
    | some ob =>
     have hb':=m.hh b ob hb
     rw [hb] at this
     cases ob<;>simp at this
     simp [World.cell?,hb',this]
 | e0 =>
  simp only [sl0,sl,Option.some.injEq] at hl
  subst hl
  cases r with
  | pu _ _ p =>
   cases p with
   | e0 a=>exact ⟨a,0,rfl,Nat.le_refl _,0,fun j e hj=>by simp at hj,fun hne=>absurd rfl hne⟩
 | rw k g len =>
  cases r with
  | pu _ _ p=>cases p
  | rw _ _ _ cap a ob e hlc ha =>
   have hk:=m.ch k
   simp only [sl0,sl] at hl
   cases hgc:gc hp k with
   | no=>simp [hgc] at hl
   | bx cs=>simp [hgc] at hl
   | mp l=>simp [hgc] at hl
   | ro cs=>simp [hgc] at hl
   | rn g' n' l'=>simp [hgc] at hl
   | sb T e g bs=>simp [hgc] at hl
   | rw g' n' l' =>
    rw [hgc] at hl hk
    simp only at hl
    split at hl
    .rename_i hc
     obtain ⟨rfl,hle⟩:=hc
     simp only [Option.some.injEq] at hl
     subst hl
     obtain ⟨ob',cap',h1,h2,h2',h3,h4,h5⟩:=hk
     rw [e] at h1
     cases h1
     have hlen:(l'.take len).length=len:=by rw [zlo];omega
     refine ⟨a,cap,by rw [hlen],by omega,n',fun j x hj=>h3 j x (take_get hj).1,fun hne=>?_⟩
     cases ob with
     | none =>
      have:=h4 rfl
      have:len=0:=by omega
      subst this
      simp at hne
     | some b =>
      obtain ⟨vs,ty,a1,a2,a3⟩:=h5 b rfl
      refine ⟨b,0,ha b rfl,fun j x q y y1 y2=>?_⟩
      obtain ⟨u,z1,z2⟩:=a3 j x q y (take_get y1).1 y2
      refine ⟨u,?_,z2⟩
      simp [World.cell?,a1,z1]
    .cases hl
   | sh g' n' l' =>
    rw [hgc] at hl hk
    simp only at hl
    split at hl
    .rename_i hc
     obtain ⟨rfl,hle⟩:=hc
     simp only [Option.some.injEq] at hl
     subst hl
     obtain ⟨ob',cap',h1,h2,h2',h3,h4,h5⟩:=hk
     rw [e] at h1
     cases h1
     have hlen:(l'.take len).length=len:=by rw [zlo];omega
     refine ⟨a,cap,by rw [hlen],by omega,n',fun j x hj=>h3 j x (take_get hj).1,fun hne=>?_⟩
     cases ob with
     | none =>
      have:=h4 rfl
      have:len=0:=by omega
      subst this
      simp at hne
     | some b =>
      obtain ⟨vs,ty,fr,a1,a3⟩:=h5 b rfl
      refine ⟨b,0,ha b rfl,fun j x q y y1 y2=>?_⟩
      obtain ⟨u,z1,z2⟩:=a3 j x q y (take_get y1).1 y2
      have hb:=m.hh b _ a1
      refine ⟨u,?_,z2⟩
      simp [World.cell?,hb,z1]
    .cases hl
 | _=>simp [sl0,sl] at hl
theorem sl_read {h:HP} {ρ:RO} {hp:CH} {n:Nat} {w:World} (m:SatH h ρ hp n w) {α:AV} {v:Value} (r:Rel h ρ α v) {l:List (List AV)} (hl:sl hp α=some l) :
  ∃a cap,v=.slice a l.length cap∧l.length≤cap∧∃q0,(∀(j:Nat) e,l[j]?=some e→e.length=q0) ∧
   (l≠[]→∃b o,a=some ⟨b,o,none⟩∧∀(j:Nat) e (q:Nat) x,l[j]?=some e→e[q]?=some x→∃u,w.cell? ⟨b,o+q0*j+q,none⟩=some u∧Rel h ρ x u):=by
 have old:sl0 hp α=some l→∃a cap,v=.slice a l.length cap∧l.length≤cap∧∃q0,(∀(j:Nat) e,l[j]?=some e→e.length=q0) ∧
   (l≠[]→∃b o,a=some ⟨b,o,none⟩∧∀(j:Nat) e (q:Nat) x,l[j]?=some e→e[q]?=some x→∃u,w.cell? ⟨b,o+q0*j+q,none⟩=some u∧Rel h ρ x u):=fun hl=>by
  obtain ⟨a,cap,e1,e2,q0,e3,e4⟩:=sl0_read m r hl
  refine ⟨a,cap,e1,e2,q0,e3,fun hne=>?_⟩
  obtain ⟨b,o,e5,e6⟩:=e4 hne
  exact ⟨b,o,e5,fun j e q x h1 h2=>let ⟨u,z1,z2⟩:=e6 j e q x h1 h2;⟨u,z1,.pu _ _ z2⟩⟩
 cases α with
 | rw k g len =>
  cases hgc:gc hp k with
  | rn g' n' l' =>
   cases r with
   | pu _ _ p=>cases p
   | rw _ _ _ cap a ob e hlc ha =>
   have hk:=m.ch k
   simp only [sl] at hl
   rw [hgc] at hl hk
   simp only at hl
   split at hl
   .rename_i hc
    obtain ⟨rfl,hle⟩:=hc
    simp only [Option.some.injEq] at hl
    subst hl
    obtain ⟨ob',cap',h1,h2,h2',h3,h4,h5⟩:=hk
    rw [e] at h1
    cases h1
    have hlen:(l'.take len).length=len:=by rw [zlo];omega
    refine ⟨a,cap,by rw [hlen],by omega,n',fun j x hj=>h3 j x (take_get hj).1,fun hne=>?_⟩
    cases ob with
    | none =>
     have:=h4 rfl
     have:len=0:=by omega
     subst this
     simp at hne
    | some b =>
     obtain ⟨vs,ty,a1,a2,a3⟩:=h5 b rfl
     refine ⟨b,0,ha b rfl,fun j x q y y1 y2=>?_⟩
     obtain ⟨u,z1,z2⟩:=a3 j x q y (take_get y1).1 y2
     refine ⟨u,?_,z2⟩
     simp [World.cell?,a1,z1]
   .cases hl
  | _=>exact old (by simp only [sl0,hgc];exact hl)
 | _=>exact old hl
def ldc (hp:CH) (m:Nat):AV→Option (List AV)
 | .bx k off=>match gc hp k with
  | .bx cs=>if off+m≤cs.length then some ((cs.drop off).take m) else none
  | .ro cs=>if off+m≤cs.length then some ((cs.drop off).take m) else none
  | _=>none
 | .ep α n i off=>match sl hp α with
  | some l=>match l[i]? with
   | some e=>if e.length=n∧off+m≤e.length then some ((e.drop off).take m) else none
   | none=>none
  | none=>none
 | _=>none
theorem drop_take_get {α:Type} {l:List α} {o m q:Nat} {x:α} (h:((l.drop o).take m)[q]?=some x):l[o+q]?=some x∧q<m:=by
 obtain ⟨h1,h2⟩:=take_get h
 rw [List.getElem?_drop] at h1
 exact ⟨h1,h2⟩
theorem ldc_read {h:HP} {ρ:RO} {hp:CH} {n:Nat} {w:World} (mm:SatH h ρ hp n w) {α:AV} {v:Value} (r:Rel h ρ α v) {m:Nat} {cs:List AV} (hl:ldc hp m α=some cs) :
  ∃b o,v=.pointer (some ⟨b,o,none⟩)∧cs.length=m∧∃us:List Value,us.length=m∧(∀(q:Nat) u,us[q]?=some u→w.cell? ⟨b,o+q,none⟩=some u) ∧
   ∀(q:Nat) x u,cs[q]?=some x→us[q]?=some u→Rel h ρ x u:=by
 have fin:∀(b o:Nat) (cs:List AV),(∀(q:Nat) x,cs[q]?=some x→∃u,w.cell? ⟨b,o+q,none⟩=some u∧Rel h ρ x u) →
   ∃us:List Value,us.length=cs.length∧(∀(q:Nat) u,us[q]?=some u→w.cell? ⟨b,o+q,none⟩=some u)∧∀(q:Nat) x u,cs[q]?=some x→us[q]?=some u→Rel h ρ x u:=by
  intro b o cs
  induction cs generalizing o with
  | nil=>intro _;exact ⟨[],rfl,fun q u hq=>by simp at hq,fun q x u hq=>by simp at hq⟩
  | cons c cs ih =>
   intro hx
   obtain ⟨u,hu,hr⟩:=hx 0 c rfl
   obtain ⟨us,e1,e2,e3⟩:=ih (o+1) (fun q x hq=>by
    obtain ⟨u,a1,a2⟩:=hx (q+1) x (by simpa using hq)
    exact ⟨u,by rw [show o+1+q=o+(q+1) by omega];exact a1,a2⟩)
   refine ⟨u::us,by simp [e1],fun q v hq=>?_,fun q x v hq hv=>?_⟩
   .cases q with
    | zero=>simp at hq;subst hq;exact hu
    | succ q=>rw [show o+(q+1)=o+1+q by omega];exact e2 q v (by simpa using hq)
   .cases q with
    | zero=>simp at hq hv;subst hq;subst hv;exact hr
    | succ q=>exact e3 q x v (by simpa using hq) (by simpa using hv)
 cases α with
 | bx k off =>
  cases r with
  | pu _ _ p=>cases p
  | bx _ _ b c e =>
   have hk:=mm.ch k
   simp only [ldc] at hl
   cases hgc:gc hp k with
   | bx xs =>
    rw [hgc] at hl hk
    simp only at hl
    split at hl
    .rename_i hle
     simp only [Option.some.injEq] at hl
     subst hl
     obtain ⟨b',c',vs,ty,h1,h2,h3,h4⟩:=hk
     rw [e] at h1
     cases h1
     have hlen:((xs.drop off).take m).length=m:=by rw [zlo,List.length_drop];omega
     refine ⟨b,off,rfl,hlen,?_⟩
     obtain ⟨us,e1,e2,e3⟩:=fin b off ((xs.drop off).take m) (fun q x hq=>by
      obtain ⟨a1,a2⟩:=drop_take_get hq
      have hlt:off+q<vs.size:=by rw [h3];exact (zlb.1 a1).1
      refine ⟨vs[off+q],by simp [World.cell?,h2,hlt],h4 _ _ _ a1 (by simp [hlt])⟩)
     exact ⟨us,by rw [e1,hlen],e2,e3⟩
    .cases hl
   | ro xs =>
    rw [hgc] at hl hk
    simp only at hl
    split at hl
    .rename_i hle
     simp only [Option.some.injEq] at hl
     subst hl
     obtain ⟨b',c',vs,ty,fr,h1,h2,h3,h4⟩:=hk
     rw [e] at h1
     cases h1
     have hlen:((xs.drop off).take m).length=m:=by rw [zlo,List.length_drop];omega
     refine ⟨b,off,rfl,hlen,?_⟩
     obtain ⟨us,e1,e2,e3⟩:=fin b off ((xs.drop off).take m) (fun q x hq=>by
      obtain ⟨a1,a2⟩:=drop_take_get hq
      have hlt:off+q<vs.size:=by rw [h3];exact (zlb.1 a1).1
      refine ⟨vs[off+q],by simp [World.cell?,mm.hh _ _ h2,hlt],.pu _ _ (h4 _ _ _ a1 (by simp [hlt]))⟩)
     exact ⟨us,by rw [e1,hlen],e2,e3⟩
    .cases hl
   | _=>rw [hgc] at hl;simp at hl
 | ep β n' i off =>
  cases r with
  | pu _ _ p=>cases p
  | ep _ _ _ _ b o len cap rβ hi =>
   simp only [ldc] at hl
   cases hs:sl hp β with
   | none=>simp [hs] at hl
   | some l =>
    rw [hs] at hl
    simp only at hl
    cases hli:l[i]? with
    | none=>simp [hli] at hl
    | some e =>
     rw [hli] at hl
     simp only at hl
     split at hl
     .rename_i hc
      simp only [Option.some.injEq] at hl
      subst hl
      obtain ⟨a',cap',ev,_,q0,hq0,hm⟩:=sl_read mm rβ hs
      have hne:l≠[]:=by intro e;subst e;simp at hli
      obtain ⟨b',o',ea,hx⟩:=hm hne
      injection ev with e1 e2 e3
      subst e1
      injection ea with ea
      injection ea with ea1 ea2 ea3
      subst ea1
      subst ea2
      have hq:=hq0 i e hli
      have hlen:((e.drop off).take m).length=m:=by rw [zlo,List.length_drop];omega
      refine ⟨b,o+n'*i+off,rfl,hlen,?_⟩
      obtain ⟨us,e1,e2,e3⟩:=fin b (o+n'*i+off) ((e.drop off).take m) (fun q x hq=>by
       obtain ⟨a1,a2⟩:=drop_take_get hq
       obtain ⟨u,z1,z2⟩:=hx i e (off+q) x hli a1
       refine ⟨u,?_,z2⟩
       have:q0=n':=by omega
       subst this
       rw [show o+q0*i+off+q=o+q0*i+(off+q) by omega]
       exact z1)
      exact ⟨us,by rw [e1,hlen],e2,e3⟩
     .cases hl
 | _=>simp [ldc] at hl
end Go.Eng
