/-
  The parts EngH of the proof, in one file. Conditions: none.
-/
import Derived.Test.YtmcgjccheehehaaQse7
namespace Go.Eng
set_option linter.unusedVariables false
set_option linter.unusedSimpArgs false
/-- A row is shut: nobody writes it any more. -/
theorem SatH.shut {h : HP} {ρ : RO} {hp : CH} {n0 : Nat} {w : World} (m : SatH h ρ hp n0 w) {k g n : Nat} {l : List (List AV)} (hk : gc hp k = .rw g n l) :
    ∃ h', HLe h h' ∧ SatH h' ρ ((k, .sh g n l) :: hp) n0 w ∧ (∀ b, live ρ ((k, .sh g n l) :: hp) b → live ρ hp b) := by
  have hck := m.ch k
  rw [hk] at hck
  obtain ⟨ob, cap, h1, h2, h2', h3, h4, h5⟩ := hck
  have hlive : ∀ b, live ρ ((k, .sh g n l) :: hp) b → live ρ hp b ∧ ob ≠ some b := by
    rintro b ⟨k', g', c, e, r⟩
    by_cases hkk : k = k'
    · subst hkk
      rw [gc_cons_same] at e
      cases e
    · rw [gc_cons_ne hkk] at e
      refine ⟨⟨k', g', c, e, r⟩, fun e2 => ?_⟩
      subst e2
      exact hkk (m.inj k k' g g' b cap c (by rw [hk]; rfl) e h1 r)
  let h' : HP := fun b => if ob = some b then w.heap[b]? else h b
  have hle : HLe h h' := by
    intro b o e
    show (if ob = some b then w.heap[b]? else h b) = some o
    split
    · exact m.hh b o e
    · exact e
  refine ⟨h', hle, ⟨fun b o e => ?_, fun k' => ?_, fun k1 k2 g1 g2 b c1 c2 e1 e2 r1 r2 => ?_, fun b hb => ?_, fun b hb => m.lt b (hlive b hb).1, m.fr, fun k1 g1 g' mm l' x e r => ?_⟩, fun b hb => (hlive b hb).1⟩
  · change (if ob = some b then w.heap[b]? else h b) = some o at e
    split at e
    · exact e
    · exact m.hh b o e
  · by_cases hkk : k = k'
    · subst hkk
      rw [gc_cons_same]
      refine ⟨ob, cap, h1, h2, h2', h3, h4, fun b hb => ?_⟩
      obtain ⟨vs, e, a1, a2, a3⟩ := h5 b hb
      refine ⟨vs, e, (0, 0), ?_, fun j x q α y1 y2 => let ⟨u, z1, z2⟩ := a3 j x q α y1 y2; ⟨u, z1, z2.mono hle⟩⟩
      show (if ob = some b then w.heap[b]? else h b) = _
      rw [if_pos hb]
      exact a1
    · rw [gc_cons_ne hkk]
      exact Chunk.sat_mono hle (RLe.refl _) (fun _ _ _ _ _ => rfl) (m.ch k')
  · by_cases h1' : k = k1
    · subst h1'
      rw [gc_cons_same] at e1
      cases e1
    · by_cases h2' : k = k2
      · subst h2'
        rw [gc_cons_same] at e2
        cases e2
      · rw [gc_cons_ne h1'] at e1
        rw [gc_cons_ne h2'] at e2
        exact m.inj k1 k2 g1 g2 b c1 c2 e1 e2 r1 r2
  · obtain ⟨hl, hne⟩ := hlive b hb
    show (if ob = some b then w.heap[b]? else h b) = none
    rw [if_neg hne]
    exact m.hid b hl
  · by_cases h1' : k = k1
    · subst h1'
      rw [gc_cons_same] at e
      cases e
    · rw [gc_cons_ne h1'] at e
      exact m.gens k1 g1 g' mm l' x e r
def shutC (hp : CH) : AV → CH
  | .rw k g _ => match gc hp k with
    | .rw g' n l => if g = g' then (k, .sh g' n l) :: hp else hp
    | _ => hp
  | _ => hp
def shutL (hp : CH) : List AV → CH
  | [] => hp
  | α :: r => shutL (shutC hp α) r
/-- A one-cell value as a value that does not lead into chunks. -/
def pureC (hp : CH) : AV → Option AV
  | .rw k g len => match gc hp k with
    | .sh g' n l => if g = g' ∧ len ≤ l.length then some (.ds (l.take len)) else none
    | _ => none
  | .e0 => some (.ds [])
  | α => if α.pur && α.one then some α else none
def pureL (hp : CH) : List AV → Option (List AV)
  | [] => some []
  | α :: r => match pureC hp α, pureL hp r with
    | some β, some l => some (β :: l)
    | _, _ => none
theorem Sat.shutC {C : Ctx} {st : St} {h : HP} {ρ : RO} {a : Act} {w : World} (S : Sat C st h ρ a w) (α : AV) : ∃ h', HLe h h' ∧ Sat C { st with hp := shutC st.hp α } h' ρ a w := by
  unfold Eng.shutC
  split
  · split
    · rename_i k g len g' n l hk
      split
      · obtain ⟨h', hle, m', hl⟩ := S.mem.shut hk
        refine ⟨h', hle, S.hle.trans hle, S.rle, S.keep, fun b hb => S.own b (hl b hb), m', fun t ht => ?_, S.size, S.defers⟩
        obtain ⟨v, h1, h2⟩ := S.env t ht
        exact ⟨v, h1, h2.mono hle (RLe.refl _)⟩
      · exact ⟨h, HLe.refl _, S⟩
    · exact ⟨h, HLe.refl _, S⟩
  · exact ⟨h, HLe.refl _, S⟩
theorem Sat.shutL {C : Ctx} {st : St} {a : Act} {w : World} (l : List AV) : ∀ {h : HP} {ρ : RO} {st : St}, Sat C st h ρ a w → ∃ h', HLe h h' ∧ Sat C { st with hp := shutL st.hp l } h' ρ a w := by
  induction l with
  | nil => intro h ρ st S; exact ⟨h, HLe.refl _, S⟩
  | cons α r ih =>
    intro h ρ st S
    obtain ⟨h1, e1, S1⟩ := S.shutC α
    obtain ⟨h2, e2, S2⟩ := ih S1
    exact ⟨h2, e1.trans e2, S2⟩
theorem pureC_rel {h : HP} {ρ : RO} {hp : CH} {n : Nat} {w : World} (m : SatH h ρ hp n w) {α β : AV} {v : Value} (r : Rel h ρ α v) (e : pureC hp α = some β) : PRel h β v ∧ v.oneCell' = true := by
  have gen : ∀ α : AV, Rel h ρ α v → (if α.pur && α.one then some α else none) = some β → PRel h β v ∧ v.oneCell' = true := by
    intro α r e
    split at e
    · rename_i hc
      simp only [Bool.and_eq_true] at hc
      cases e
      exact ⟨AV.pur_rel r hc.1, AV.one_rel r hc.2⟩
    · cases e
  unfold pureC at e
  split at e
  · rename_i k g len
    split at e
    · rename_i g' n' l hk
      split at e
      · rename_i hc
        obtain ⟨rfl, hle⟩ := hc
        cases e
        exact sh_ds m r hk hle
      · cases e
    · cases e
  · cases e
    cases r with
    | pu _ _ p =>
      cases p with
      | e0 a => exact ⟨.ds [] 0 a 0 (fun _ _ => undef) (Nat.le_refl _) (fun j e h => by simp at h) (fun j e q α h => by simp at h) (fun h => absurd rfl h), rfl⟩
  · exact gen _ r e
theorem pureL_rel {h : HP} {ρ : RO} {hp : CH} {n : Nat} {w : World} (m : SatH h ρ hp n w) : ∀ {l l' : List AV} {vs : List Value}, RelL h ρ l vs → pureL hp l = some l' →
    l'.length = vs.length ∧ (∀ (j : Nat) α v, l'[j]? = some α → vs[j]? = some v → PRel h α v) ∧ ∀ v ∈ vs, v.oneCell' = true := by
  intro l
  induction l with
  | nil =>
    intro l' vs r e
    simp [pureL] at e
    subst e
    have : vs = [] := by have := r.1; simpa using this.symm
    subst this
    exact ⟨rfl, fun j α v h => by simp at h, fun v h => by cases h⟩
  | cons α l ih =>
    intro l' vs r e
    cases vs with
    | nil => have := r.1; simp at this
    | cons v vs =>
      unfold pureL at e
      split at e
      · rename_i β l2 e1 e2
        cases e
        obtain ⟨p1, p2⟩ := pureC_rel m (r.2 0 α v rfl rfl) e1
        obtain ⟨i1, i2, i3⟩ := ih (l' := l2) (vs := vs) ⟨by have := r.1; simpa using this, fun j α v h1 h2 => r.2 (j + 1) α v (by simpa using h1) (by simpa using h2)⟩ e2
        refine ⟨by simp [i1], fun j α v h1 h2 => ?_, fun u hu => ?_⟩
        · cases j with
          | zero => simp at h1 h2; subst h1; subst h2; exact p1
          | succ j => exact i2 j α v (by simpa using h1) (by simpa using h2)
        · rcases List.mem_cons.1 hu with rfl | hu
          · exact p2
          · exact i3 u hu
      · cases e
/-! ### Rows that are built -/
theorem fill_row {n : Nat} : ∀ (vs : List Value) (k : Nat) (cells : Array Value), (k + vs.length) * n ≤ cells.size → (∀ v ∈ vs, v.cells.size = n) →
    ∃ cs, Instr.fill (fun i => some (i * n, n)) cells ((vs.zipIdx k).map fun x => (x.2, x.1)) = some cs ∧ cs.size = cells.size ∧ (∀ i : Nat, i < k * n → cs[i]? = cells[i]?) ∧
      ∀ (j : Nat) v (q : Nat), vs[j]? = some v → q < n → cs[n * (k + j) + q]? = v.cells[q]? := by
  intro vs
  induction vs with
  | nil => intro k cells _ _; exact ⟨cells, rfl, rfl, fun _ _ => rfl, fun j v q h => by simp at h⟩
  | cons v vs ih =>
    intro k cells hk hv
    have hn := hv v (by simp)
    have hkn : k * n + n ≤ cells.size := by
      have : (k + (v :: vs).length) * n = k * n + vs.length * n + n := by simp [Nat.add_mul]; omega
      omega
    simp only [List.zipIdx_cons, List.map_cons, Instr.fill]
    have hcond : ¬ ((decide (v.cells.size ≠ n) || decide (k * n + v.cells.size > cells.size)) = true) := by simp; omega
    rw [if_neg hcond]
    obtain ⟨s1, s2⟩ := setBlk (off := k * n) v.cells.toList 0 cells (by simp; omega)
    have ef : v.cells.zipIdx.foldl (fun (cs : Array Value) (x : Value × Nat) => cs.setIfInBounds (k * n + x.2) x.1) cells = (v.cells.toList.zipIdx 0).foldl (fun (x : Array Value) (c : Value × Nat) => x.setIfInBounds (k * n + c.2) c.1) cells := by
      rw [← Array.foldl_toList, Array.toList_zipIdx]
    rw [ef]
    obtain ⟨cs, e1, e2, e3, e4⟩ := ih (k + 1) _ (by rw [s1]; simp at hk; rw [show k + 1 + vs.length = k + (vs.length + 1) by omega]; exact hk) (fun u hu => hv u (by simp [hu]))
    refine ⟨cs, e1, by rw [e2, s1], fun i hi => ?_, fun j u q h1 h2 => ?_⟩
    · rw [e3 i (by rw [Nat.add_mul]; omega), s2 i, if_neg (by omega)]
    · cases j with
      | zero =>
        simp at h1
        subst h1
        have hkk : n * k = k * n := Nat.mul_comm _ _
        rw [Nat.add_zero, e3 _ (by rw [Nat.add_mul]; omega), s2, if_pos (by simp; omega)]
        rw [show n * k + q - (k * n + 0) = q by omega]
        simp
      | succ j =>
        have := e4 j u q (by simpa using h1) h2
        rw [show k + (j + 1) = k + 1 + j by omega]
        exact this
theorem inOrder_zip : ∀ (ps : List (Nat × Operand)) (k : Nat) (f : Operand → Value), inOrder k ps = true → (ps.map fun (i, x) => (i, f x)) = ((ps.map fun p => f p.2).zipIdx k).map fun x => (x.2, x.1) := by
  intro ps
  induction ps with
  | nil => intro k f _; rfl
  | cons p ps ih =>
    intro k f h
    obtain ⟨i, x⟩ := p
    simp only [inOrder, Bool.and_eq_true, beq_iff_eq] at h
    obtain ⟨rfl, h⟩ := h
    simp [ih _ f h]
theorem tyEl_inv {P : Program} {t e : TypeId} (he : tyEl P t = some e) : P.underlying t = some (.slice e) := by
  unfold tyEl at he
  split at he
  · rename_i e' h; cases he; exact h
  · cases he
theorem run_buildSlice {P : Program} (w : World) {t e : TypeId} {n : Nat} (he : tyEl P t = some e) (hn : tySz P e = some n) (hz : ((P.info? e).bind (·.zero)).isSome = true) {len : Nat} {ps : Array (Nat × Value)} {vs : List Value}
    (hps : ps.toList = (vs.zipIdx 0).map fun x => (x.2, x.1)) (hlen : vs.length = len) (hb : len * n ≤ 16777216) (hv : ∀ v ∈ vs, v.cells.size = n) :
    ∃ cs : Array Value, (Instr.buildSlice t len ps).run P w = .ok (.slice (some ⟨w.heap.size, 0, none⟩) len len) (w.alloc (.cells cs e)) ∧ cs.size = len * n ∧
      ∀ (j : Nat) v (q : Nat), vs[j]? = some v → q < n → cs[n * j + q]? = v.cells[q]? := by
  have hu := tyEl_inv he
  · cases hi : P.info? e with
    | none => simp [hi] at hz
    | some i =>
      simp [hi] at hz
      obtain ⟨z, hz⟩ := Option.isSome_iff_exists.1 hz
      have hzr : (zeroValue e).run P w = .ok z w := by simp [zeroValue, typeInfo, hi, hz]
      let zero : Array Value := if len * n = 0 then #[] else z.cells
      obtain ⟨cs, h1, h2, _, h4⟩ := fill_row (n := n) vs 0 ((Array.range (len * n)).map (zero[· % zero.size]!)) (by simp [hlen]) hv
      refine ⟨cs, ?_, by rw [h2]; simp, fun j v q g1 g2 => by simpa using h4 j v q g1 g2⟩
      have hnb : ¬ (len * n > 2 ^ 24) := by simpa using hb
      simp only [Instr.buildSlice, Sem.run_bind, run_underlying hu, Result.andThen_ok, run_sizeOf' hn]
      rw [if_neg hnb]
      by_cases h0 : len * n = 0
      · simp only [zero, h0, if_true] at h1
        rw [← hps] at h1
        simp [h0, newRow]
        simp at h1
        simp [h1]
      · simp only [zero, if_neg h0] at h1
        rw [← hps] at h1
        simp [h0, hzr, newRow, h1]
/-- Parts of a literal: each a list of n cells that do not lead into chunks. -/
def partsL (hp : CH) (n : Nat) : List AV → Option (List (List AV))
  | [] => some []
  | α :: r => match α.cl, partsL hp n r with
    | some cs, some l => match pureL hp cs with
      | some cs' => if cs'.length = n then some (cs' :: l) else none
      | none => none
    | _, _ => none
def shutP (hp : CH) : List AV → CH
  | [] => hp
  | α :: r => match α.cl with
    | some cs => shutP (shutL hp cs) r
    | none => shutP hp r
theorem partsL_rel {h : HP} {ρ : RO} {hp : CH} {n0 : Nat} {w : World} (m : SatH h ρ hp n0 w) {n : Nat} : ∀ {l : List AV} {out : List (List AV)} {vs : List Value}, RelL h ρ l vs → partsL hp n l = some out →
    out.length = vs.length ∧ (∀ e ∈ out, e.length = n) ∧ (∀ v ∈ vs, v.cells.size = n ∧ ∀ u ∈ v.cells.toList, u.oneCell' = true) ∧
      ∀ (j : Nat) e v (q : Nat) α u, out[j]? = some e → vs[j]? = some v → e[q]? = some α → v.cells[q]? = some u → PRel h α u := by
  intro l
  induction l with
  | nil =>
    intro out vs r e
    simp [partsL] at e
    subst e
    have : vs = [] := by have := r.1; simpa using this.symm
    subst this
    exact ⟨rfl, (fun e h => (by cases h)), (fun v h => (by cases h)), (fun j e v q α u h => by simp at h)⟩
  | cons α l ih =>
    intro out vs r e
    cases vs with
    | nil => have := r.1; simp at this
    | cons v vs =>
      unfold partsL at e
      split at e
      · rename_i cs l2 e1 e2
        split at e
        · rename_i cs' e3
          split at e
          · rename_i hlen
            cases e
            have rc := AV.cl_rel (r.2 0 α v rfl rfl) e1
            obtain ⟨p1, p2, p3⟩ := pureL_rel m rc e3
            obtain ⟨i1, i2, i3, i4⟩ := ih (out := l2) (vs := vs) ⟨by have := r.1; simpa using this, fun j α v h1 h2 => r.2 (j + 1) α v (by simpa using h1) (by simpa using h2)⟩ e2
            refine ⟨by simp [i1], fun e he => ?_, fun u hu => ?_, fun j e u q β x h1 h2 h3 h4 => ?_⟩
            · rcases List.mem_cons.1 he with rfl | he
              · exact hlen
              · exact i2 e he
            · rcases List.mem_cons.1 hu with rfl | hu
              · exact ⟨by simp at p1; omega, p3⟩
              · exact i3 u hu
            · cases j with
              | zero => simp at h1 h2; subst h1; subst h2; exact p2 q β x h3 (by simpa using h4)
              | succ j => exact i4 j e u q β x (by simpa using h1) (by simpa using h2) h3 h4
          · cases e
        · cases e
      · cases e
theorem Sat.shutP {C : Ctx} {a : Act} {w : World} (l : List AV) : ∀ {h : HP} {ρ : RO} {st : St}, Sat C st h ρ a w → ∃ h', HLe h h' ∧ Sat C { st with hp := shutP st.hp l } h' ρ a w := by
  induction l with
  | nil => intro h ρ st S; exact ⟨h, HLe.refl _, S⟩
  | cons α r ih =>
    intro h ρ st S
    unfold Eng.shutP
    split
    · rename_i cs _
      obtain ⟨h1, e1, S1⟩ := Sat.shutL (st := st) cs S
      obtain ⟨h2, e2, S2⟩ := ih S1
      exact ⟨h2, e1.trans e2, S2⟩
    · exact ih S
end Go.Eng
