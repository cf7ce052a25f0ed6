/- Proof. Conditions: none. -/
import Derived.Shelf.Strings.OnBuilder
import Derived.Test.YtgfidgoefioigaaGreatDoorIj27
namespace Go.Eng
open Go.Shelf Go.RowKit Go.Proofs
set_option linter.all false
theorem SatH.grown {h:HP} {J:RO} {hp:CH} {n:Nat} {w w':World} (m:SatH h J hp n w) (EB:w.heap.size<=w'.heap.size) (hb:∀b,b<w.heap.size->w'.heap[b]?=w.heap[b]?):SatH h J hp n w' :=
 ⟨fun b o e=>by rw [hb b (Array.getElem?_eq_some_iff.1 (m.hh b o e)).1];exact m.hh b o e,fun k=>Ak.sat_mono (BQ.refl _) (Ck.refl _) (fun g b x q1 q2=>hb b (m.lt b ⟨k,g,x,q1,q2⟩)) (m.ch k),m.inj,m.hid,fun b q=>Nat.lt_of_lt_of_le (m.lt b q) EB,m.fr,m.gens,m.gl⟩
theorem Below.keeps {w w':World} (X:Nat->Prop) (B:Below w.heap.size w w'):Keeps X w w':=⟨B.os,B.tape,B.output,B.size,fun k hk _=>B.block k hk⟩
variable {P:Program} {J:Ren}
def Acv (x:Int):qB:=⟨(Lib.itoa x).toArray⟩
theorem Rd (L : LaysM.n171 P J) {f : FuncId} (hf : J.f 171 = f) (hfn : ∃ fn, P.funcs[f]? = some fn ∧ (fn.name == "runtime.NumGoroutine") = false ∧ fn.body.isNone = false) {gb : Nat}
 (htab:∀w:World,(∃t fr,w.heap[gb]?=some (.cells (Lib.pow10Tab.map fun z=>Value.int IntKind.u64 z).toArray t fr))->∀x,-9223372036854775808<=x->x<=9223372036854775807 ->
  Calls P (J.f 171) #[.int .i64 x] w fun e w'=>e=.returned (.string (Acv x))∧∃k os,w'=Sort.grow (w.drewN k) os)
 (hgl:(gb,(Lib.pow10Tab.map fun z=>Value.int IntKind.u64 z).toArray)∈LD) {hp:CH} {n:Nat} {x:Int} (h0:-9223372036854775808<=x) (h1:x<=9223372036854775807):Af P f hp n [.i .i64 x] (.s (Acv x)):=by
 subst hf
 refine ⟨hfn,fun h ρ0 w vs hs ha=>?_⟩
 obtain ⟨v1,r1,rfl,x1,ha⟩:=ha.un
 obtain rfl:=ha.un0
 have e1:v1=.int .i64 x:=by
  cases x1 with
  |pu _ _ q=>cases q;rfl
 subst e1
 obtain ⟨t,fr,q⟩:=hs.gl _ _ hgl
 refine (htab w ⟨t,fr,hs.hh _ _ q⟩ x h0 h1).mono fun e w' ⟨he,k,os,hw⟩=>?_
 have B:Below w.heap.size w w':=by
  subst hw
  exact ⟨rfl,rfl,rfl,by simp [Sort.grow],fun k hk=>by simp only [Sort.grow,World.heap_drewN];exact Array.getElem?_append_left hk⟩
 exact ⟨_,he,h,BQ.refl _,hs.grown B.size (fun b hb=>B.block b hb),.s _,Below.keeps _ B⟩
