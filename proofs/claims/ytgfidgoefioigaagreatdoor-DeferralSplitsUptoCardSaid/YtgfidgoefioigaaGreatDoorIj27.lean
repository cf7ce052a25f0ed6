/- Proof. Conditions: none. -/
import Derived.Shelf.Strings.BuilderF
import Derived.Test.YtgfidgoefioigaaGreatDoorIj26
namespace Go.Eng
open Go.Shelf Go.RowKit Go.Proofs
set_option linter.all false
section
variable {P:Program} (w:World)
variable {w}
end
structure BA (T e b:Nat) (p v:Value) (bs:List Value) (w:World):Prop where
 blk:w.heap[b]?=some (.cells #[p,v] T (0,0))
 own:w.ownsRowF 0 e 1 v bs.length bs
 ne:v.ownBlock≠some b
structure Wrote (T e b:Nat) (p' v:Value) (bs':List Value) (w w':World):Prop where
 ex:∃v',BA T e b p' v' bs' w'∧∀g,v'.ownBlock=some g->v.ownBlock=some g∨w.heap.size<=g
 os:w'.os=w.os
 tape:w'.tape=w.tape
 output:w'.output=w.output
 size:w.heap.size<=w'.heap.size
 block:∀k,k<w.heap.size->k≠b->some k≠v.ownBlock->w'.heap[k]?=w.heap[k]?
theorem BA.lt {T e b:Nat} {p v:Value} {bs:List Value} {w:World} (h:BA T e b p v bs w):b<w.heap.size:=by
 rcases Nat.lt_or_ge b w.heap.size with h' | h'
 .exact h'
 .have:=h.blk
  rw [Array.getElem?_eq_none h'] at this
  cases this
theorem Wrote.put {T e b:Nat} {p v v':Value} {bs':List Value} {w w1 w2:World} (BY:b<w.heap.size) (ho:w1.os=w.os∧w1.tape=w.tape∧w1.output=w.output∧w.heap.size<=w1.heap.size∧∀k,k<w.heap.size->k≠b->w1.heap[k]?=w.heap[k]?)
 (hg:w1.grownBy w2 v.ownBlock) (ER:w2.heap[b]?=some (.cells #[p,v] T (0,0))) (t8:w2.ownsRowF 0 e 1 v' bs'.length bs') (hTe:T≠e) (hw:∀g,v'.ownBlock=some g->v.ownBlock=some g∨w.heap.size<=g) :
 Wrote T e b p v bs' w (w2.setCell ⟨b,1,none⟩ v'):=by
 have BG:=Lib.ownBlock_neF t8 ER hTe
 obtain ⟨o1,o2,o3,o4,o5⟩:=ho
 refine ⟨⟨v',⟨?_,?_,BG⟩,hw⟩,hg.os.trans o1,hg.tape.trans o2,hg.output.trans o3,?_,fun k hk hkb hkv=>?_⟩
 .simp [World.setCell,Array.getElem?_modify,ER]
 .exact t8.kept (row:=some b) ⟨rfl,rfl,rfl,by simp [World.setCell],fun k _ hk=>Below.heap_setCell _ _ _ _ (fun e=>hk (by simp [e]))⟩ (Or.inr BG)
 .have:=hg.size
  simp [World.setCell]
  omega
 .rw [Below.heap_setCell _ _ _ _ (fun e=>hkb e),hg.block k (by omega) hkv]
  exact o5 k hk hkb
variable {P:Program} {J:Ren}
section
variable {h:HP} {vs:List Value}
theorem Bx.un {J:RO} {U:AV} {l:List AV} (r:Bx h J (U::l) vs):∃v p9,vs=v::p9∧Ba h J U v∧Bx h J l p9:=by
 cases vs with
 |nil=>cases r.1
 |cons v vs=>exact ⟨v,vs,rfl,r.2 0 U v rfl rfl,Nat.succ.inj r.1,fun j β u a b=>r.2 (j+1) β u a b⟩
theorem Bx.un0 {J:RO} (r:Bx h J [] vs):vs=[]:=List.eq_nil_of_length_eq_zero r.1.symm
end
variable {P:Program} {J:Ren}
