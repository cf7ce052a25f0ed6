/-
  The parts EngE of the proof, in one file. Conditions: none.
-/
import Derived.Test.YtmcgjccheehehaaQse4
namespace Go.Eng
set_option linter.unusedVariables false
set_option linter.unusedSimpArgs false
def obl (env : EN) (p : Prop) : List Src → Prop
  | [] => True
  | s :: r => ob p (s.ev env) ∧ obl env p r
def obo (env : EN) (p : Prop) : Option Src → Prop
  | none => True
  | some s => ob p (s.ev env)
/-- The operands that stand under a guard are there. -/
def COp.obs (env : EN) (p : Prop) : COp → Prop
  | .pk c a b => ob p (c.ev env) ∧ match fet (c.ev env) with
    | .b x => ob (p ∧ x = true) (a.ev env) ∧ ob (p ∧ x = false) (b.ev env)
    | _ => False
  | .mv x | .ld x _ _ | .un _ x | .ci _ x | .cs x | .cb x | .mi _ x | .fa x _ | .fl x _ _ _ | .ta x _ _ | .ex x _ | .ln _ x | .bo x | .s0 x | .nc x | .nl _ x => ob p (x.ev env)
  | .bd _ ps => obl env p (ps.map (·.2.2))
  | .bin _ _ x y | .ia x y _ | .eqs _ _ x y | .ix x y | .ai x y _ _ _ | .mm _ x y | .lk x y _ _ | .st x y _ | .ap x y _ _ | .aps x y | .ms x y _ _ _ => ob p (x.ev env) ∧ ob p (y.ev env)
  | .mf _ xs | .bs _ _ xs | .cl _ xs => obl env p xs
  | .sc x lo hi _ | .ss x lo hi => ob p (x.ev env) ∧ obo env p lo ∧ obo env p hi
  | .al _ | .mk => True
  | .mu x s y => ob p (x.ev env) ∧ ob p (s.ev env) ∧ ob p (y.ev env)
  | .cc x xs => ob p (x.ev env) ∧ obl env p xs
section
variable {P : Program} {C : Ctx} {st : St} {h : HP} {ρ : RO} {a : Act} {w : World} (S : Sat C st h ρ a w) {p : Prop} (hp : p)
include S hp
theorem src_rel {x : Operand} {s : Src} (e : csrc C.N x = some s) (o : ob p (s.ev st.env)) : Rel h ρ (fet (s.ev st.env)) (a.eval x) := fet_rel (csrc_rel S e) hp o
theorem srcs_rel {xs : List Operand} {l : List Src} (e : srcs C.N xs = some l) (o : obl st.env p l) : RelL h ρ (l.map fun s => fet (s.ev st.env)) (xs.map a.eval) := by
  induction xs generalizing l with
  | nil => simp [srcs] at e; subst e; exact .nil
  | cons x xs ih =>
    unfold srcs at e
    split at e
    · rename_i s l' e1 e2
      cases e
      exact .cons (src_rel S hp e1 o.1) (ih e2 o.2)
    · cases e
end
theorem setBlk {off : Nat} : ∀ (cs : List Value) (k : Nat) (cells : Array Value), off + k + cs.length ≤ cells.size →
    ((cs.zipIdx k).foldl (fun (x : Array Value) (c : Value × Nat) => x.setIfInBounds (off + c.2) c.1) cells).size = cells.size ∧
    ∀ j : Nat, ((cs.zipIdx k).foldl (fun (x : Array Value) (c : Value × Nat) => x.setIfInBounds (off + c.2) c.1) cells)[j]? = if off + k ≤ j ∧ j < off + k + cs.length then cs[j - (off + k)]? else cells[j]? := by
  intro cs
  induction cs with
  | nil =>
    intro k cells _
    refine ⟨rfl, fun j => ?_⟩
    have : ¬ (off + k ≤ j ∧ j < off + k + 0) := by omega
    simp
    omega
  | cons c cs ih =>
    intro k cells hk
    simp only [List.length_cons] at hk
    simp only [List.zipIdx_cons, List.foldl_cons, List.length_cons]
    obtain ⟨i1, i2⟩ := ih (k + 1) (cells.setIfInBounds (off + k) c) (by simp; omega)
    refine ⟨by rw [i1]; simp, fun j => ?_⟩
    rw [i2 j, Array.getElem?_setIfInBounds]
    by_cases c1 : j = off + k
    · subst c1
      rw [if_neg (by omega), if_pos rfl, if_pos (by omega), if_pos (by omega)]
      simp
    · by_cases c2 : off + (k + 1) ≤ j ∧ j < off + (k + 1) + cs.length
      · rw [if_pos c2, if_pos (by omega)]
        rw [show j - (off + k) = (j - (off + (k + 1))) + 1 by omega]
        simp
      · rw [if_neg c2, if_neg (by omega), if_neg (by omega)]
/-- A struct built from parts. -/
theorem fill_rel {h : HP} {ρ : RO} {a : Act} {f : Src → AV} {places : Nat → Option (Nat × Nat)} :
    ∀ (ps : List (Nat × Nat × Src)) (vs : List (Nat × Value)) (z : List AV) (cells : Array Value) (out : List AV),
      ps.length = vs.length → (∀ (j : Nat) q i v, ps[j]? = some q → vs[j]? = some (i, v) → places i = some (q.1, q.2.1) ∧ Rel h ρ (f q.2.2) v) →
      RelL h ρ z cells.toList → bdl f z ps = some out → ∃ cs, Instr.fill places cells vs = some cs ∧ RelL h ρ out cs.toList := by
  intro ps
  induction ps with
  | nil =>
    intro vs z cells out hl _ hz hb
    cases vs with
    | nil => simp [bdl] at hb; subst hb; exact ⟨cells, rfl, hz⟩
    | cons => simp at hl
  | cons q ps ih =>
    intro vs z cells out hl hx hz hb
    cases vs with
    | nil => simp at hl
    | cons v vs =>
      obtain ⟨i, v⟩ := v
      obtain ⟨off, m, s⟩ := q
      obtain ⟨hpl0, hr⟩ := hx 0 (off, m, s) i v rfl rfl
      have hpl : places i = some (off, m) := hpl0
      unfold bdl at hb
      split at hb
      · rename_i cs hcs
        split at hb
        · rename_i hc
          have hrc := AV.cl_rel hr hcs
          have hsz : v.cells.size = m := by have := hrc.1; simp at this; omega
          have hzl := hz.1
          simp only [Array.length_toList] at hzl
          simp only [Instr.fill, hpl]
          have hcond : ¬ ((decide (v.cells.size ≠ m) || decide (off + v.cells.size > cells.size)) = true) := by simp; omega
          rw [if_neg hcond]
          obtain ⟨s1, s2⟩ := setBlk (off := off) v.cells.toList 0 cells (by simp; omega)
          have ef : v.cells.zipIdx.foldl (fun (cs : Array Value) (x : Value × Nat) => cs.setIfInBounds (off + x.2) x.1) cells = (v.cells.toList.zipIdx 0).foldl (fun (x : Array Value) (c : Value × Nat) => x.setIfInBounds (off + c.2) c.1) cells := by
            rw [← Array.foldl_toList, Array.toList_zipIdx]
          rw [ef]
          refine ih vs _ _ out (by simpa using hl) (fun j q i v h1 h2 => hx (j + 1) q i v (by simpa using h1) (by simpa using h2)) ?_ hb
          have hlen : cs.length = v.cells.toList.length := hrc.1
          have hlen2 : cs.length = v.cells.size := by simpa using hlen
          refine ⟨by simp only [Array.length_toList, s1]; simp; omega, fun j α u h1 h2 => ?_⟩
          rw [Array.getElem?_toList, s2 j] at h2
          simp only [List.append_assoc, List.getElem?_append, List.length_take, List.getElem?_take, List.getElem?_drop] at h1
          rw [show min off z.length = off by omega] at h1
          simp only [Array.length_toList] at h2
          by_cases c1 : j < off
          · rw [if_pos c1, if_pos c1] at h1
            rw [if_neg (by omega)] at h2
            exact hz.2 j α u h1 (by simpa using h2)
          · rw [if_neg c1] at h1
            by_cases c2 : j - off < cs.length
            · rw [if_pos c2] at h1
              rw [if_pos (by omega)] at h2
              exact hrc.2 _ α u h1 h2
            · rw [if_neg c2, show off + m + (j - off - cs.length) = j by omega] at h1
              rw [if_neg (by omega)] at h2
              exact hz.2 j α u h1 (by simpa using h2)
        · cases hb
      · cases hb
theorem byt_inv : ∀ (l : List (List AV)) (b : List UInt8), byt l = some b → ∃ xs : List Int, l = xs.map (fun n => [AV.i .u8 n]) ∧ b = xs.map (fun n => UInt8.ofNat n.toNat) := by
  intro l
  induction l with
  | nil => intro b hb; simp [byt] at hb; subst hb; exact ⟨[], rfl, rfl⟩
  | cons e l ih =>
    intro b hb
    unfold byt at hb
    split at hb
    · rename_i e1; cases e1
    · rename_i n r e1
      cases e1
      split at hb
      · rename_i l' hl'
        cases hb
        obtain ⟨xs, rfl, rfl⟩ := ih l' hl'
        exact ⟨n :: xs, rfl, rfl⟩
      · cases hb
    · cases hb
end Go.Eng
