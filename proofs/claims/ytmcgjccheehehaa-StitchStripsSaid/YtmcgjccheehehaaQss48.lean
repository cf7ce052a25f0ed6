/-
  The parts SbD SbE SbF of the proof, in one file. Conditions: none.
-/
import Derived.Test.YtmcgjccheehehaaQss47
namespace Go.Proofs.Ytmcgjccheehehaa
open Go.Eng
set_option linter.unusedVariables false
set_option linter.unusedSimpArgs false
/-- What 'clean' asks of one node. -/
structure ClC (v : Val) : Prop where
  a : v.k ≠ 6 → v.keys = []
  b : v.k ≠ 6 → v.k ≠ 5 → v.items = []
  c : v.k = 6 → v.keys.length = v.items.length
  d : v.k = 6 ∨ v.k = 5 → v.n = 0 ∧ v.s = ⟨#[]⟩
  e : ∀ (i k : Nat) (x : ByteArray), k < i → i < v.items.length → v.keys[k]? = some x → v.keys[i]? ≠ some x
inductive Cl : Val → Prop
  | mk (v : Val) : ClC v → (∀ x ∈ v.items, Cl x) → Cl v
theorem Cl.c {v : Val} (h : Cl v) : ClC v := by cases h; assumption
theorem Cl.x {v : Val} (h : Cl v) : ∀ x ∈ v.items, Cl x := by cases h; assumption
/-- No stripped value is large. -/
theorem wt_strip (v : Val) : ∀ l, wtV (stripV v l) ≤ 3 * wtV v * (1 + wtKs l) := by
  refine Val.ind (Q := fun v => ∀ l, wtV (stripV v l) ≤ 3 * wtV v * (1 + wtKs l)) (fun v ih l => ?_) v
  have hv := wtV_eq v
  rw [stripV_eq]
  split
  · have hL : ∀ q : List Val, (∀ x ∈ q, x ∈ v.items) → wtL (q.map fun x => stripV x l) ≤ 3 * wtL q * (1 + wtKs l) := by
      intro q
      induction q with
      | nil => intro _; simp [wtL]
      | cons y q ihq =>
        intro hm
        have h1 := ihq fun x hx => hm x (by simp [hx])
        have h2 := ih y (hm y (by simp)) l
        rw [List.map_cons, wtL, wtL]
        have : 3 * (wtV y + wtL q) * (1 + wtKs l) = 3 * wtV y * (1 + wtKs l) + 3 * wtL q * (1 + wtKs l) := by rw [Nat.mul_add 3, Nat.add_mul]
        omega
    have h1 := hL v.items fun x hx => hx
    rw [wtV_eq]
    simp only [Val.items_mk, Val.keys_mk, List.length_nil]
    have h2 : 3 * wtV v * (1 + wtKs l) = 3 * wtL v.items * (1 + wtKs l) + 3 * (1 + v.keys.length) * (1 + wtKs l) := by
      rw [← Nat.add_mul, ← Nat.mul_add, hv]
      congr 2
      omega
    have h3 : 1 * 1 ≤ 3 * (1 + v.keys.length) * (1 + wtKs l) := Nat.mul_le_mul (by omega) (by omega)
    omega
  · split
    · have hone : ∀ p ∈ l, wtV (stripE v p) ≤ 3 * wtL v.items * wtK p + 1 := fun p hp => by
        unfold stripE
        cases e : getV v p.key with
        | none => simp [failV, wtV_eq, Val.items_mk, Val.keys_mk, wtL]
        | some x =>
          have h1 := ih x (getV_mem e) p.picks
          have h2 := wtL_mem (getV_mem e)
          rw [wtK_eq]
          exact Nat.le_succ_of_le (Nat.le_trans h1 (Nat.mul_le_mul_right _ (Nat.mul_le_mul_left _ h2)))
      have hL : ∀ q : List Pk, (∀ p ∈ q, p ∈ l) → wtL ((onP (typT v) q).map (stripE v)) + (onP (typT v) q).length ≤ 3 * wtL v.items * wtKs q + 2 * wtKs q := by
        intro q
        induction q with
        | nil => intro _; simp [onP, wtL]
        | cons y q ihq =>
          intro hm
          have h1 := ihq fun x hx => hm x (by simp [hx])
          have h2 := hone y (hm y (by simp))
          have h3 := wtK_eq y
          rw [wtKs, Nat.mul_add]
          unfold onP at h1 ⊢
          rw [List.filter_cons]
          split
          · rw [List.map_cons, wtL, List.length_cons]
            omega
          · omega
      have h1 := hL l fun p hp => hp
      rw [wtV_eq]
      unfold collV
      simp only [Val.items_mk, Val.keys_mk, List.length_cons, List.length_map]
      rw [wtL, wtV_eq]
      simp only [Val.items_mk, Val.keys_mk, wtL, List.length_nil]
      have h2 : 3 * wtV v * (1 + wtKs l) = 3 * wtL v.items * wtKs l + 3 * (1 + v.keys.length) * wtKs l + 3 * wtV v := by
        rw [Nat.mul_add, Nat.mul_one, Nat.add_comm, ← Nat.add_mul, ← Nat.mul_add, hv]
        congr 3
        omega
      have h3 : 3 * 1 * wtKs l ≤ 3 * (1 + v.keys.length) * wtKs l := Nat.mul_le_mul_right _ (by omega)
      have := wtV_pos v
      omega
    · calc wtV v = 1 * wtV v * 1 := by omega
        _ ≤ 3 * wtV v * (1 + wtKs l) := Nat.mul_le_mul (Nat.mul_le_mul_right _ (by omega)) (by omega)
end Go.Proofs.Ytmcgjccheehehaa
namespace Go.Proofs.Ytmcgjccheehehaa
open Go.Eng
set_option linter.unusedVariables false
set_option linter.unusedSimpArgs false
/-- Two lists, element by element. -/
inductive F2 {α β : Type} (R : α → β → Prop) : List α → List β → Prop
  | nil : F2 R [] []
  | cons {a : α} {b : β} {l : List α} {m : List β} : R a b → F2 R l m → F2 R (a :: l) (b :: m)
theorem F2.app {α β : Type} {R : α → β → Prop} {l l' : List α} {m m' : List β} (h : F2 R l m) (h' : F2 R l' m') : F2 R (l ++ l') (m ++ m') := by
  induction h with
  | nil => exact h'
  | cons r _ ih => exact .cons r ih
end Go.Proofs.Ytmcgjccheehehaa
namespace Go.Proofs.Ytmcgjccheehehaa
open Go.Eng
set_option linter.unusedVariables false
set_option linter.unusedSimpArgs false
theorem wt_failO (f : Fet) (s : ByteArray) : wtV (failO f s) ≤ 3 + 2 * wtKs f.pk := by
  have h1 := onP_len f.t f.pk
  have h2 := wtKs_len f.pk
  rw [wtV_eq]
  unfold failO collV
  simp only [Val.items_mk, Val.keys_mk, List.length_cons, List.length_map]
  rw [wtL, wt_fails, wtV_eq]
  simp only [Val.items_mk, Val.keys_mk, List.length_nil, wtL]
  omega
end Go.Proofs.Ytmcgjccheehehaa
