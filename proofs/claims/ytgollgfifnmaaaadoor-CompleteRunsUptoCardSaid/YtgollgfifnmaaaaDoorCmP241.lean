/- Proof. Conditions: none. -/
import Derived.Test.YtgollgfifnmaaaaDoorCmP240
open Nat renaming reduceEqDiff→Za,reduceBEq→Zb,reduceAdd→Zc,reduceLeDiff→Zd,reduceLT→Ze,reduceMul→Zf,reduceSub→Zg
open Int renaming reduceEq→Zh,reduceLT→Zi,reduceLE→Zj,reduceToNat→Zk
namespace Go.Proofs.YtgollgfifnmaaaaDoor
open Go.Eng
set_option linter.all false
set_option maxRecDepth 20000
theorem tabIs_at {P:Program} {w:World} {name:String} {gb:Nat} {k:IntKind} {zs:List Int} {t:TypeId} {fr:Nat × Nat} (hg:P.globalNamed name=some gb) (h:w.heap[gb]?=some (.cells (zs.map fun z=>Value.int k z).toArray t fr)):Lib.TabIs P w name k zs:=by
 unfold Lib.TabIs World.var?
 rw [hg]
 show (match w.heap[gb]? with
  | some (.cells cs _ _)=>some cs
  | _=>none)=_
 rw [h]
theorem itoa_ok (x:Int) (h0:-9223372036854775808≤x) (h1:x≤9223372036854775807) (hp:CH) (m:Nat):MeetsF Tryd.prog 85 hp m [.i .i64 x] (.s (ofL (Lib.itoa x))) :=
 meets_itoa Tryd.laysM171 rfl ⟨_,Tryd.func85,by kernel_rfl,by kernel_rfl⟩ (gb:=0) (fun w ⟨t,fr,h⟩ x h0 h1=>Any.strconv_Itoa Tryd.laysM171 x h0 h1 w (tabIs_at (by kernel_rfl) h)) (by simp [glTab]) h0 h1
theorem tDecimal_ok (x:Int) (h0:-9223372036854775808≤x) (h1:x≤9223372036854775807) (hp:CH) (m:Nat):MeetsF Tryd.prog 62 hp m [.i .i64 x] (.s (ofL (Lib.itoa x))):=by
 refine meetsF Tryd.func62 (by kernel_rfl) cc62 cr62 rfl fun hf=>?_;unfold ck62
 simp only [go_sem,↓reduceIte,Za,Zb,Zc,Zd,Ze,reduceCtorEq,Zf,Zg,Zh,Zi,Zj,Zk]
 refine vcCall.f (itoa_ok x h0 h1 _ _) ?_
 simp only [go_sem,↓reduceIte,Za,Zb,Zc,Zd,Ze,reduceCtorEq,Zf,Zg,Zh,Zi,Zj,Zk]
end Go.Proofs.YtgollgfifnmaaaaDoor
