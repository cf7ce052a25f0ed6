/-
  The parts SeE of the proof, in one file. Conditions: none.
-/
import Derived.Test.YthiifoleopdieaaPk50
namespace Go.Proofs.Ythiifoleopdieaa
open Go.Eng
set_option linter.unusedVariables false
set_option linter.unusedSimpArgs false
set_option maxRecDepth 20000
/-- Empty slices without capacity as slices of no elements. -/
def fx1 : AV → AV
  | .e0 => .ds []
  | α => α
def fx2 : AV → AV
  | .ds L => .ds (L.map fun e => e.map fx1)
  | α => fx1 α
def fx3 : AV → AV
  | .ag l => .ag (l.map fx2)
  | α => fx2 α
theorem fx1_rel {h : HP} {α : AV} {v : Value} (r : PRel h α v) : PRel h (fx1 α) v := by
  cases r with
  | e0 a => exact .ds [] 0 a 0 (fun _ _ => undef) (by simp) (fun j e q => by simp at q) (fun j e q α q1 => by simp at q1) (fun q => absurd rfl q)
  | un v => exact .un v
  | b x => exact .b x
  | i k n => exact .i k n
  | s x => exact .s x
  | ag l vs e h1 => exact .ag l vs e h1
  | tp l vs e h1 => exact .tp l vs e h1
  | ds l n a cap us hc hn hm hx => exact .ds l n a cap us hc hn hm hx
  | np => exact .np
  | mn => exact .mn
  | nf => exact .nf
  | ni => exact .ni
  | fc t x v h1 => exact .fc t x v h1
  | gd c x v h1 h2 => exact .gd c x v h1 h2
theorem fx2_rel {h : HP} {α : AV} {v : Value} (r : PRel h α v) : PRel h (fx2 α) v := by
  cases r with
  | ds l n a cap us hc hn hm hx =>
    have e : (l.map fun e => e.map fx1).length = l.length := by simp
    rw [fx2, ← e]
    refine .ds _ n a cap us (by omega) (fun j x hj => ?_) (fun j x q α hj hq => ?_) (fun hne => ?_)
    · rw [List.getElem?_map] at hj
      obtain ⟨y, hy, rfl⟩ := Option.map_eq_some_iff.1 hj
      rw [List.length_map]
      exact hn j y hy
    · rw [List.getElem?_map] at hj
      obtain ⟨y, hy, rfl⟩ := Option.map_eq_some_iff.1 hj
      rw [List.getElem?_map] at hq
      obtain ⟨z, hz, rfl⟩ := Option.map_eq_some_iff.1 hq
      exact fx1_rel (hm j y q z hy hz)
    · obtain ⟨b, off, ea, hcell⟩ := hx (fun q => hne (by rw [q]; rfl))
      refine ⟨b, off, ea, fun j x q α hj hq => ?_⟩
      rw [List.getElem?_map] at hj
      obtain ⟨y, hy, rfl⟩ := Option.map_eq_some_iff.1 hj
      rw [List.getElem?_map] at hq
      obtain ⟨z, hz, rfl⟩ := Option.map_eq_some_iff.1 hq
      exact hcell j y q z hy hz
  | e0 a => exact fx1_rel (.e0 a)
  | un v => exact .un v
  | b x => exact .b x
  | i k n => exact .i k n
  | s x => exact .s x
  | ag l vs e h1 => exact .ag l vs e h1
  | tp l vs e h1 => exact .tp l vs e h1
  | np => exact .np
  | mn => exact .mn
  | nf => exact .nf
  | ni => exact .ni
  | fc t x v h1 => exact .fc t x v h1
  | gd c x v h1 h2 => exact .gd c x v h1 h2
theorem fx3_pre {h : HP} {α : AV} {v : Value} (r : PRel h α v) : PRel h (fx3 α) v := by
  cases α with
  | ag l =>
    cases r with
    | ag _ vs e h1 =>
      refine .ag _ vs (by rw [List.length_map]; exact e) fun j β u a b => ?_
      rw [List.getElem?_map] at a
      obtain ⟨y, hy, rfl⟩ := Option.map_eq_some_iff.1 a
      exact fx2_rel (h1 j y u hy b)
  | _ => exact fx2_rel r
theorem fx2_r {h : HP} {ρ : RO} {α : AV} {v : Value} (r : Rel h ρ α v) : Rel h ρ (fx2 α) v := by
  cases r with
  | pu _ _ p => exact .pu _ _ (fx2_rel p)
  | ag l vs e h1 => exact .ag l vs e h1
  | tp l vs e h1 => exact .tp l vs e h1
  | bx k off b c e => exact .bx k off b c e
  | rw k g len cap a ob e1 e2 e3 => exact .rw k g len cap a ob e1 e2 e3
  | ep α n i off b o len cap h1 h2 => exact .ep α n i off b o len cap h1 h2
  | mp k b c e => exact .mp k b c e
  | fn f l vs e h1 => exact .fn f l vs e h1
  | fc t x v h1 => exact .fc t x v h1
  | gd c x v h1 h2 => exact .gd c x v h1 h2
theorem fx3_r {h : HP} {ρ : RO} {α : AV} {v : Value} (r : Rel h ρ α v) : Rel h ρ (fx3 α) v := by
  cases r with
  | pu _ _ p => exact .pu _ _ (fx3_pre p)
  | ag l vs e h1 =>
    refine .ag _ vs (by rw [List.length_map]; exact e) fun j β u a b => ?_
    rw [List.getElem?_map] at a
    obtain ⟨y, hy, rfl⟩ := Option.map_eq_some_iff.1 a
    exact fx2_r (h1 j y u hy b)
  | tp l vs e h1 => exact .tp l vs e h1
  | bx k off b c e => exact .bx k off b c e
  | rw k g len cap a ob e1 e2 e3 => exact .rw k g len cap a ob e1 e2 e3
  | ep α n i off b o len cap h1 h2 => exact .ep α n i off b o len cap h1 h2
  | mp k b c e => exact .mp k b c e
  | fn f l vs e h1 => exact .fn f l vs e h1
  | fc t x v h1 => exact .fc t x v h1
  | gd c x v h1 h2 => exact .gd c x v h1 h2
theorem MeetsF.fix {P : Program} {f : FuncId} {hp : CH} {n : Nat} {args args' : List AV} {r : AV} (e : args'.map fx3 = args) (m : MeetsF P f hp n args r) : MeetsF P f hp n args' r :=
  ⟨m.1, fun h ρ w vs hs ha => m.2 h ρ w vs hs ⟨by rw [← e, List.length_map]; exact ha.1, fun j β u a b => by
    rw [← e, List.getElem?_map] at a
    obtain ⟨y, hy, rfl⟩ := Option.map_eq_some_iff.1 a
    exact fx3_r (ha.2 j y u hy b)⟩⟩
def inV (n : Int) : Val := .mk 2 n ⟨#[]⟩ [] []
theorem in_fit (n : Int) : (inV n).Fit := .mk _ (by simp [inV, Val.items_mk]) (by simp [inV, Val.keys_mk]) (by simp [inV, Val.items_mk])
theorem int_ok (n : Int) (hp : CH) (m : Nat) : MeetsF Try.prog 48 hp m [.i .i64 n] (vx (inV n)) := by
  refine meetsF Try.func48 (by kernel_rfl) cc48 cr48 rfl fun hf => ?_; unfold ck48
  simp only [go_sem, ↓reduceIte, Nat.reduceEqDiff, Nat.reduceBEq, Nat.reduceAdd, Nat.reduceLeDiff, Nat.reduceLT, reduceCtorEq, Nat.reduceMul, Nat.reduceSub, Int.reduceEq, Int.reduceLT, Int.reduceLE, Int.reduceToNat]
  rfl
/-- An object with one field. -/
def obV (k : ByteArray) (n : Int) : Val := .mk 6 0 ⟨#[]⟩ [txV ⟨#[77, 117, 116, 97, 116, 105, 111, 110]⟩, inV n] [⟨#[95, 95, 116]⟩, k]
theorem ob_fit (k : ByteArray) (n : Int) : (obV k n).Fit := .mk _ (by simp [obV, Val.items_mk]) (by simp [obV, Val.keys_mk]) (by simp [obV, Val.items_mk, tx_fit, in_fit])
theorem object_ok (k : ByteArray) (n : Int) (hp : CH) (m : Nat) : MeetsF Try.prog 20 hp m [.s k, .i .i64 n] (vx (obV k n)) := by
  refine meetsF Try.func20 (by kernel_rfl) cc20 cr20 rfl fun hf => ?_; unfold ck20
  simp only [go_sem, ↓reduceIte, Nat.reduceEqDiff, Nat.reduceBEq, Nat.reduceAdd, Nat.reduceLeDiff, Nat.reduceLT, reduceCtorEq, Nat.reduceMul, Nat.reduceSub, Int.reduceEq, Int.reduceLT, Int.reduceLE, Int.reduceToNat]
  refine vcCall.f (text_ok _ _ _) ?_
  simp only [go_sem, ↓reduceIte, Nat.reduceEqDiff, Nat.reduceBEq, Nat.reduceAdd, Nat.reduceLeDiff, Nat.reduceLT, reduceCtorEq, Nat.reduceMul, Nat.reduceSub, Int.reduceEq, Int.reduceLT, Int.reduceLE, Int.reduceToNat]
  refine vcCall.f (int_ok _ _ _) ?_
  simp only [go_sem, ↓reduceIte, Nat.reduceEqDiff, Nat.reduceBEq, Nat.reduceAdd, Nat.reduceLeDiff, Nat.reduceLT, reduceCtorEq, Nat.reduceMul, Nat.reduceSub, Int.reduceEq, Int.reduceLT, Int.reduceLE, Int.reduceToNat]
  rfl
def exA : List Val := [obV ⟨#[97]⟩ 1, zVal, obV ⟨#[98]⟩ 2]
theorem exA1 : (joinV exA).keys = [⟨#[95, 95, 116]⟩, ⟨#[97]⟩, ⟨#[98]⟩] := by decide +kernel
theorem exA2 : (joinV exA).items.length = 3 := by decide +kernel
theorem exA3 : ((joinV exA).items.map Val.n) = [0, 1, 2] := by decide +kernel
def exW (i : Int) : Wri := .mk ⟨#[115, 101, 116]⟩ ⟨#[]⟩ i (.mk ⟨#[]⟩ ⟨#[]⟩ zVal)
def exT : Dat := .mk (List.replicate 5 (.mk ⟨#[]⟩ [])) [exW 3, exW 3, exW 9]
theorem exT1 : tchD exT ⟨#[115, 101, 116]⟩ ⟨#[120, 58, 32, 49]⟩ = [3] := by rw [tchD_eq]; decide +kernel
theorem exT_fit : exT.Fit := .mk _ (by decide) (by decide) (by simp [exT, Dat.i_mk, Itm.l_mk]) (by simp [exT, exW, Dat.w_mk, Wri.c_mk, Cel.v_mk, zVal_fit])
def pkK (k : ByteArray) : Pk := .mk k ⟨#[]⟩ ⟨#[]⟩ [] ⟨#[]⟩ [] ⟨#[]⟩ 0 []
theorem pkK_fit (k : ByteArray) : (pkK k).Fit := .mk _ (by simp [pkK, Pk.args]) (by simp [pkK, Pk.tw]) (by simp [pkK, Pk.picks]) (by simp [pkK, Pk.args]) (by simp [pkK, Pk.picks])
def exP : Pln := .mk 2 [pkK ⟨#[97]⟩, pkK ⟨#[98]⟩]
theorem knows_ok (hp : CH) (m : Nat) : MeetsF Try.prog 7 hp m [] (.b true) := by
  have a1 := exA1
  have a2 := exA2
  have a3 := exA3
  refine meetsF Try.func7 (by kernel_rfl) cc7 cr7 rfl fun hf => ?_; unfold ck7
  simp only [go_sem, ↓reduceIte, Nat.reduceEqDiff, Nat.reduceBEq, Nat.reduceAdd, Nat.reduceLeDiff, Nat.reduceLT, reduceCtorEq, Nat.reduceMul, Nat.reduceSub, Int.reduceEq, Int.reduceLT, Int.reduceLE, Int.reduceToNat]
  refine vcCall.f (object_ok _ _ _ _) ?_
  simp only [go_sem, ↓reduceIte, Nat.reduceEqDiff, Nat.reduceBEq, Nat.reduceAdd, Nat.reduceLeDiff, Nat.reduceLT, reduceCtorEq, Nat.reduceMul, Nat.reduceSub, Int.reduceEq, Int.reduceLT, Int.reduceLE, Int.reduceToNat]
  refine vcCall.f (object_ok _ _ _ _) ?_
  simp only [go_sem, ↓reduceIte, Nat.reduceEqDiff, Nat.reduceBEq, Nat.reduceAdd, Nat.reduceLeDiff, Nat.reduceLT, reduceCtorEq, Nat.reduceMul, Nat.reduceSub, Int.reduceEq, Int.reduceLT, Int.reduceLE, Int.reduceToNat]
  refine vcCall.f (sJoin_ok exA (by decide) (by simp [exA, ob_fit, zVal_fit]) (by decide) _ _) ?_
  obtain ⟨J, hJ⟩ : ∃ J, joinV exA = J := ⟨_, rfl⟩
  rw [hJ] at a1 a2 a3 ⊢
  simp (disch := omega) only [ite_ne, go_sem, ↓reduceIte, Nat.reduceEqDiff, Nat.reduceBEq, Nat.reduceAdd, Nat.reduceLeDiff, Nat.reduceLT, reduceCtorEq, Nat.reduceMul, Nat.reduceSub, Int.reduceEq, Int.reduceLT, Int.reduceLE, Int.reduceToNat]
  refine ⟨by omega, vcCall.q (args' := [.ag [.ds (List.replicate 5 [AV.s ⟨#[]⟩, .e0]), .ds (mapC wrC exT.w)], .s ⟨#[115, 101, 116]⟩, .s ⟨#[120, 58, 32, 49]⟩]) (MeetsF.fix (args := [dx exT, .s ⟨#[115, 101, 116]⟩, .s ⟨#[120, 58, 32, 49]⟩]) rfl (dTouched_ok exT exT_fit (by decide) _ _ _ _)) ?_ ?_⟩
  · simp (disch := omega) only [ite_ne, go_sem, ↓reduceIte, Nat.reduceEqDiff, Nat.reduceBEq, Nat.reduceAdd, Nat.reduceLeDiff, Nat.reduceLT, reduceCtorEq, Nat.reduceMul, Nat.reduceSub, Int.reduceEq, Int.reduceLT, Int.reduceLE, Int.reduceToNat]
    rfl
  rw [exT1]
  simp (disch := omega) only [ite_ne, go_sem, ↓reduceIte, Nat.reduceEqDiff, Nat.reduceBEq, Nat.reduceAdd, Nat.reduceLeDiff, Nat.reduceLT, reduceCtorEq, Nat.reduceMul, Nat.reduceSub, Int.reduceEq, Int.reduceLT, Int.reduceLE, Int.reduceToNat]
  refine vcCall.f (sSplit_ok exP (by decide) (by simp [exP, Pln.l_mk, pkK_fit]) _ _) ?_
  have eS : mapC plC (splitP exP) = [[AV.i .i64 2, .ds [pkC (pkK ⟨#[97]⟩)]], [AV.i .i64 2, .ds [pkC (pkK ⟨#[98]⟩)]]] := rfl
  rw [eS]
  clear hJ
  obtain ⟨k, nn, s, its, ks⟩ := J
  simp only [Val.keys_mk, Val.items_mk] at a1 a2 a3
  subst a1
  obtain ⟨x, y, z, rfl⟩ := ds_n3 a2
  simp only [List.map_cons, List.map_nil, List.cons.injEq, and_true] at a3
  obtain ⟨-, -, a3⟩ := a3
  simp (disch := omega) only [ite_ne, a3, mapC_cons, mapC_nil, List.length_cons, List.length_nil, st1, pkK, Pk.key, go_sem, ↓reduceIte, Nat.reduceEqDiff, Nat.reduceBEq, Nat.reduceAdd, Nat.reduceLeDiff, Nat.reduceLT, reduceCtorEq, Nat.reduceMul, Nat.reduceSub, Int.reduceEq, Int.reduceLT, Int.reduceLE, Int.reduceToNat]
  refine gCall.f (fun _ => MeetsF.cv (args' := [.ds []]) rfl (sJoin_ok [] (by simp) (by simp) (by simp [szJ]) _ _)) ?_
  simp (disch := omega) only [ite_ne, go_sem, ↓reduceIte, Nat.reduceEqDiff, Nat.reduceBEq, Nat.reduceAdd, Nat.reduceLeDiff, Nat.reduceLT, reduceCtorEq, Nat.reduceMul, Nat.reduceSub, Int.reduceEq, Int.reduceLT, Int.reduceLE, Int.reduceToNat]
  rfl
end Go.Proofs.Ythiifoleopdieaa
