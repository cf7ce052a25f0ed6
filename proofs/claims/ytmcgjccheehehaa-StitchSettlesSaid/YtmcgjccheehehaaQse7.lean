/-
  The parts EngG of the proof, in one file. Conditions: none.
-/
import Derived.Test.YtmcgjccheehehaaQse6
namespace Go.Eng
set_option linter.unusedVariables false
set_option linter.unusedSimpArgs false
def EN.set (env : EN) (d : Option Nat) (α : AV) : EN := match d with | some t => (t, α) :: env | none => env
/-- The state behind an operation. -/
theorem Sat.step {C : Ctx} {st : St} {h h' : HP} {ρ ρ' : RO} {a : Act} {w w' : World} {hp' : CH} {n' : Nat} (S : Sat C st h ρ a w) (hh : HLe h h') (hr : RLe ρ ρ') (m' : SatH h' ρ' hp' n' w')
    (hk : Keeps (live ρ st.hp) w w') (hl : ∀ b, live ρ' hp' b → live ρ st.hp b ∨ w.heap.size ≤ b) (d : Option Nat) {v : Value} {α : AV} (r : Rel h' ρ' α v) :
    Sat C ⟨EN.set st.env d α, hp', n'⟩ h' ρ' (a.put d v) w' := by
  refine ⟨S.hle.trans hh, S.rle.trans hr, S.keep.trans hk (fun b hb hl => ?_), fun b hb => ?_, m', fun t ht => ?_, ?_, ?_⟩
  · rcases S.own b hl with h1 | h1
    · omega
    · exact h1
  · rcases hl b hb with h1 | h1
    · exact S.own b h1
    · exact .inl (Nat.le_trans S.keep.size h1)
  · cases d with
    | none =>
      obtain ⟨v0, h1, h2⟩ := S.env t ht
      exact ⟨v0, h1, h2.mono hh hr⟩
    | some d =>
      simp only [Act.put, EN.set, ge]
      by_cases hd : d = t
      · subst hd
        rw [if_pos rfl]
        exact ⟨v, by simp [S.size, ht], r⟩
      · rw [if_neg hd]
        obtain ⟨v0, h1, h2⟩ := S.env t ht
        refine ⟨v0, ?_, h2.mono hh hr⟩
        rw [Array.getElem?_setIfInBounds_ne hd]
        exact h1
  · cases d <;> simp [Act.put, S.size]
  · cases d <;> simp [Act.put, S.defers]
/-- A value alone. -/
theorem Sat.val {C : Ctx} {st : St} {h : HP} {ρ : RO} {a : Act} {w : World} (S : Sat C st h ρ a w) (d : Option Nat) {v : Value} {α : AV} (r : Rel h ρ α v) :
    Sat C ⟨EN.set st.env d α, st.hp, st.n⟩ h ρ (a.put d v) w :=
  S.step (HLe.refl _) (RLe.refl _) S.mem (Keeps.refl _ _) (fun b h => .inl h) d r
theorem Keeps.alloc (X : Nat → Prop) (w : World) (o : Obj) : Keeps X w (w.alloc o) :=
  ⟨rfl, rfl, rfl, by simp, fun b hb _ => heap_alloc_old w o b hb⟩
theorem Keeps.setRow {X : Nat → Prop} (w : World) (g : Nat) (cs : Array Value) (h : X g) : Keeps X w (w.setRow g cs) :=
  ⟨rfl, rfl, rfl, by simp, fun b hb hx => setRow_other w g b cs (fun e => hx (e ▸ h))⟩
theorem Keeps.drew (X : Nat → Prop) (w : World) : Keeps X w w.drew := ⟨rfl, rfl, rfl, Nat.le_refl _, fun _ _ _ => rfl⟩
/-- The writable blocks behind a new chunk. -/
theorem live_cons_new {ρ : RO} {hp : CH} {k g0 : Nat} {c : Chunk} {x : Option Nat × Nat} {B : Nat} (hx : ∀ b, x.1 = some b → B ≤ b) (hc : c.gen = some g0) (b : Nat)
    (hl : live (rset ρ k g0 x) ((k, c) :: hp) b) : live ρ hp b ∨ B ≤ b := by
  obtain ⟨k', g, cc, e, r⟩ := hl
  by_cases hk : k = k'
  · subst hk
    rw [gc_cons_same, hc] at e
    cases e
    rw [rset_same] at r
    cases r
    exact .inr (hx b rfl)
  · rw [gc_cons_ne hk] at e
    rw [rset_ne _ _ (fun e => hk e.symm)] at r
    exact .inl ⟨k', g, cc, e, r⟩
section
variable {P : Program} {C : Ctx} {st : St} {h : HP} {ρ : RO} {a : Act} {w : World} (S : Sat C st h ρ a w)
include S
/-- A new variable. -/
theorem box_step {k0 : Nat} (hk0 : ∀ g, ρ k0 g = none) (d : Option Nat) {cs : List AV} {vs : Array Value} (t : TypeId) (r : RelL h ρ cs vs.toList) :
    ∃ ρ', Fr ρ ρ' k0 ∧ Sat C ⟨EN.set st.env d (.bx k0 0), (k0, .bx cs) :: st.hp, max st.n (k0 + 1)⟩ h ρ' (a.put d (.pointer (some ⟨w.heap.size, 0, none⟩))) (w.alloc (.cells vs t)) := by
  have hn : ρ k0 0 = none := hk0 0
  have hle := rset_le (some w.heap.size, 0) hn
  have hs : (Chunk.bx cs).sat h (rset ρ k0 0 (some w.heap.size, 0)) (w.alloc (.cells vs t)) k0 := by
    refine ⟨w.heap.size, 0, vs, t, rset_same _ _ _ _, heap_alloc_new w _, by have := r.1; simpa using this.symm, fun j α v h1 h2 => (r.2 j α v h1 (by simpa using h2)).mono (HLe.refl _) hle⟩
  obtain ⟨m, _⟩ := S.mem.new hk0 (.bx cs) (.cells vs t) 0 rfl hs
  refine ⟨_, Fr.new _ _ _ _, S.step (HLe.refl _) hle m (Keeps.alloc _ _ _) (fun b hb => ?_) d (.bx _ _ _ _ (rset_same _ _ _ _))⟩
  exact live_cons_new (B := w.heap.size) (fun b e => by cases e; exact Nat.le_refl _) rfl b hb
/-- A store into a variable. -/
theorem store_step {k off : Nat} {cs xs : List AV} {v : Value} {vs : List Value} (hk : gc st.hp k = .bx cs) (rp : Rel h ρ (.bx k off) v) (hle : off + xs.length ≤ cs.length) (r : RelL h ρ xs vs) (ho : ones xs = true) :
    ∃ b w', v = .pointer (some ⟨b, off, none⟩) ∧ (storeCells ⟨b, off, none⟩ vs).run P w = .ok () w' ∧
      ∀ d, Sat C ⟨EN.set st.env d .un, (k, .bx (cs.take off ++ xs ++ cs.drop (off + xs.length))) :: st.hp, st.n⟩ h ρ (a.put d undef) w' := by
  cases rp with
  | pu _ _ p => cases p
  | bx _ _ b c e =>
    have hck := S.mem.ch k
    rw [hk] at hck
    obtain ⟨b', c', old, ty, h1, h2, h3, h4⟩ := hck
    rw [e] at h1
    cases h1
    have hvl : xs.length = vs.length := r.1
    have hrun := run_storeCells_at (P := P) b off ty vs 0 old w h2 (by omega) (ones_rel r ho)
    refine ⟨b, _, rfl, hrun, fun d => ?_⟩
    have hlive : live ρ st.hp b := ⟨k, 0, c, by rw [hk]; rfl, e⟩
    simp only [Nat.add_zero]
    refine S.step (HLe.refl _) (RLe.refl _) (S.mem.put k _ (RLe.refl _) (fun _ _ _ => rfl) (fun b2 hb2 hx => ?_) (by simp) ?_ ?_ S.mem.fr ?_) (Keeps.setRow _ _ _ hlive) (fun b2 hb2 => .inl ?_) d (.pu _ _ (.un _))
    · apply setRow_other
      intro e2
      subst e2
      rcases hx with hx | ⟨k', g', c2, hne, hg, hr⟩
      · exact hx (S.mem.hid _ hlive)
      · exact hne (S.mem.inj k' k g' 0 _ _ _ hg (by rw [hk]; rfl) hr e)
    · refine ⟨b, c, _, ty, e, setRow_heap w b old _ ty _ h2, ?_, fun j α u g1 g2 => ?_⟩
      · simp
        omega
      · simp only [List.getElem?_toArray] at g2
        simp only [List.append_assoc, List.getElem?_append, List.length_take, List.getElem?_take, List.getElem?_drop] at g1 g2
        rw [show min off cs.length = off by omega] at g1
        rw [show min off old.toList.length = off by simp; omega] at g2
        by_cases c1 : j < off
        · rw [if_pos c1, if_pos c1] at g1 g2
          exact h4 j α u g1 (by simpa using g2)
        · rw [if_neg c1] at g1 g2
          rw [← hvl] at g2
          by_cases c2 : j - off < xs.length
          · rw [if_pos c2] at g1 g2
            exact r.2 _ α u g1 g2
          · rw [if_neg c2] at g1 g2
            exact h4 _ α u g1 (by simpa using g2)
    · intro g b2 c2 hg hr
      cases hg
      rw [e] at hr
      cases hr
      refine ⟨S.mem.hid _ hlive, by simpa using S.mem.lt _ hlive, fun k' g' c3 hne hg' hr' => ?_⟩
      exact hne (S.mem.inj k' k g' 0 _ _ _ hg' (by rw [hk]; rfl) hr' e)
    · intro g mm l g' x e1
      cases e1
    · obtain ⟨k', g', c3, hg', hr'⟩ := hb2
      by_cases hkk : k = k'
      · subst hkk
        rw [gc_cons_same] at hg'
        exact ⟨k, g', c3, by rw [hk]; exact hg', hr'⟩
      · rw [gc_cons_ne hkk] at hg'
        exact ⟨k', g', c3, hg', hr'⟩
end
/-- Values without a way into chunks. -/
def AV.pur : AV → Bool
  | .b _ | .i _ _ | .s _ | .ds _ | .e0 | .np | .mn | .nf | .ni => true
  | .fc _ x => x.pur
  | _ => false
theorem AV.pur_rel {h : HP} {ρ : RO} {α : AV} {v : Value} (r : Rel h ρ α v) (o : α.pur = true) : PRel h α v := by
  induction r with
  | pu _ _ p => exact p
  | fc t x v _ ih => exact .fc t x v (ih (by simpa [AV.pur] using o))
  | _ => simp [AV.pur] at o
def purs (l : List AV) : Bool := l.all fun α => α.pur && α.one
theorem purs_ones {l : List AV} (e : purs l = true) : ones l = true := by
  simp only [purs, ones, List.all_eq_true, Bool.and_eq_true] at *
  exact fun x hx => (e x hx).2
theorem purs_rel {h : HP} {ρ : RO} {l : List AV} {vs : List Value} (r : RelL h ρ l vs) (e : purs l = true) {j : Nat} {α : AV} {v : Value} (h1 : l[j]? = some α) (h2 : vs[j]? = some v) : PRel h α v := by
  simp only [purs, List.all_eq_true, Bool.and_eq_true] at e
  exact AV.pur_rel (r.2 j α v h1 h2) (e α (List.mem_of_getElem? h1)).1
section
variable {P : Program} {C : Ctx} {st : St} {h : HP} {ρ : RO} {a : Act} {w : World} (S : Sat C st h ρ a w)
include S
/-- A store into an element of a row. -/
theorem row_store_step {k g len n i off : Nat} {l : List (List AV)} {xs e : List AV} {v : Value} {vs : List Value} (hk : gc st.hp k = .rw g n l) (rp : Rel h ρ (.ep (.rw k g len) n i off) v) (he : l[i]? = some e)
    (hle : off + xs.length ≤ n) (r : RelL h ρ xs vs) (ho : purs xs = true) :
    ∃ b o w', v = .pointer (some ⟨b, o, none⟩) ∧ (storeCells ⟨b, o, none⟩ vs).run P w = .ok () w' ∧
      ∀ d, Sat C ⟨EN.set st.env d .un, (k, .rw g n (l.set i (e.take off ++ xs ++ e.drop (off + xs.length)))) :: st.hp, st.n⟩ h ρ (a.put d undef) w' := by
  cases rp with
  | pu _ _ p => cases p
  | ep _ _ _ _ b o len' cap' r0 hi =>
    cases r0 with
    | pu _ _ p => cases p
    | rw _ _ _ _ _ ob e1 hlc ha =>
      have hck := S.mem.ch k
      rw [hk] at hck
      obtain ⟨ob', cap, h1, h2, h2', h3, h4, h5⟩ := hck
      rw [e1] at h1
      cases h1
      cases ob with
      | none => have := h4 rfl; omega
      | some b' =>
        have hb := ha b' rfl
        cases hb
        obtain ⟨old, ty, a1, a2, a3⟩ := h5 b rfl
        have hil : i < l.length := (List.getElem?_eq_some_iff.1 he).1
        have hen : e.length = n := h3 i e he
        have hvl : xs.length = vs.length := r.1
        have hni : n * i + n ≤ old.size := by
          rw [a2, ← Nat.mul_succ, Nat.mul_comm cap']
          exact Nat.mul_le_mul_left _ (by omega)
        have hrun := run_storeCells_at (P := P) b (0 + n * i + off) ty vs 0 old w a1 (by omega) (ones_rel r (purs_ones ho))
        refine ⟨b, _, _, rfl, hrun, fun d => ?_⟩
        have hlive : live ρ st.hp b := ⟨k, g, cap', by rw [hk]; rfl, e1⟩
        simp only [Nat.add_zero, Nat.zero_add]
        refine S.step (HLe.refl _) (RLe.refl _) (S.mem.put k _ (RLe.refl _) (fun _ _ _ => rfl) (fun b2 hb2 hx => ?_) (by simp) ?_ ?_ S.mem.fr ?_) (Keeps.setRow _ _ _ hlive) (fun b2 hb2 => .inl ?_) d (.pu _ _ (.un _))
        · apply setRow_other
          intro e2
          subst e2
          rcases hx with hx | ⟨k', g', c2, hne, hg, hr⟩
          · exact hx (S.mem.hid _ hlive)
          · exact hne (S.mem.inj k' k g' g _ _ _ hg (by rw [hk]; rfl) hr e1)
        · refine ⟨some b, cap', e1, by simpa using h2, h2', fun j y hy => ?_, (fun hx => by cases hx), fun b2 hb2 => ?_⟩
          · rw [List.getElem?_set] at hy
            split at hy
            · simp only [hil, ↓reduceIte, Option.some.injEq] at hy
              subst hy
              simp
              omega
            · exact h3 j y hy
          · cases hb2
            refine ⟨_, ty, setRow_heap w b old _ ty _ a1, ?_, fun j y q β g1 g2 => ?_⟩
            · simp
              omega
            · have hmin : min (n * i + off) old.size = n * i + off := by omega
              rw [List.getElem?_set] at g1
              rw [List.getElem?_toArray, List.append_assoc, List.getElem?_append]
              simp only [List.length_take, Array.length_toList, hmin]
              split at g1
              · rename_i hij
                subst hij
                simp only [hil, ↓reduceIte, Option.some.injEq] at g1
                subst g1
                rw [List.append_assoc, List.getElem?_append] at g2
                simp only [List.length_take, show min off e.length = off by omega] at g2
                split at g2
                · rename_i c1
                  rw [List.getElem?_take, if_pos c1] at g2
                  obtain ⟨u, z1, z2⟩ := a3 i e q β he g2
                  refine ⟨u, ?_, z2⟩
                  rw [if_pos (by omega), List.getElem?_take, if_pos (by omega)]
                  simpa using z1
                · rename_i c1
                  rw [List.getElem?_append] at g2
                  rw [if_neg (by omega), List.getElem?_append]
                  split at g2
                  · rename_i c2
                    obtain ⟨u, hu⟩ := idx_some hvl g2
                    refine ⟨u, ?_, purs_rel r ho g2 hu⟩
                    rw [if_pos (by omega), show n * i + q - (n * i + off) = q - off by omega]
                    exact hu
                  · rename_i c2
                    rw [List.getElem?_drop, show off + xs.length + (q - off - xs.length) = q by omega] at g2
                    obtain ⟨u, z1, z2⟩ := a3 i e q β he g2
                    refine ⟨u, ?_, z2⟩
                    rw [if_neg (by omega), List.getElem?_drop, show n * i + off + vs.length + (n * i + q - (n * i + off) - vs.length) = n * i + q by omega]
                    simpa using z1
              · rename_i hij
                obtain ⟨u, z1, z2⟩ := a3 j y q β g1 g2
                refine ⟨u, ?_, z2⟩
                have hq : q < n := by
                  have := h3 j y g1
                  have := (List.getElem?_eq_some_iff.1 g2).1
                  omega
                by_cases hlt : j < i
                · have : n * j + n ≤ n * i := by rw [← Nat.mul_succ]; exact Nat.mul_le_mul_left _ hlt
                  rw [if_pos (by omega), List.getElem?_take, if_pos (by omega)]
                  simpa using z1
                · have : n * i + n ≤ n * j := by rw [← Nat.mul_succ]; exact Nat.mul_le_mul_left _ (by omega)
                  rw [if_neg (by omega), List.getElem?_append, if_neg (by omega), List.getElem?_drop, show n * i + off + vs.length + (n * j + q - (n * i + off) - vs.length) = n * j + q by omega]
                  simpa using z1
        · intro g2 b2 c2 hg hr
          cases hg
          rw [e1] at hr
          cases hr
          refine ⟨S.mem.hid _ hlive, by simpa using S.mem.lt _ hlive, fun k' g' c3 hne hg' hr' => ?_⟩
          exact hne (S.mem.inj k' k g' g _ _ _ hg' (by rw [hk]; rfl) hr' e1)
        · intro g2 mm l' g' x e2 hx
          cases e2
          exact S.mem.gens k g g' n l x hk hx
        · obtain ⟨k', g', c3, hg', hr'⟩ := hb2
          by_cases hkk : k = k'
          · subst hkk
            rw [gc_cons_same] at hg'
            exact ⟨k, g', c3, by rw [hk]; exact hg', hr'⟩
          · rw [gc_cons_ne hkk] at hg'
            exact ⟨k', g', c3, hg', hr'⟩
end
/-- The cells of a slice's elements, as they lie in memory. -/
theorem row_cells {P : Program} {h : HP} {ρ : RO} {hp : CH} {n0 : Nat} {w : World} (mm : SatH h ρ hp n0 w) {α : AV} {v : Value} (r : Rel h ρ α v) {l : List (List AV)} (hl : sl hp α = some l) {n : Nat} (hn : ∀ e ∈ l, e.length = n) :
    ∃ a cap vs, v = .slice a l.length cap ∧ l.length ≤ cap ∧ vs.length = l.length * n ∧ (∀ w' : World, w'.heap = w.heap → (Builtin.firstCells n l.length v).run P w' = .ok (List.toArray vs) w') ∧
      ∀ (j : Nat) e (q : Nat) x, l[j]? = some e → e[q]? = some x → ∃ u, vs[n * j + q]? = some u ∧ PRel h x u := by
  obtain ⟨a, cap, rfl, hc, q0, hq, hm⟩ := sl_read mm r hl
  by_cases hne : l = []
  · subst hne
    refine ⟨a, cap, [], rfl, hc, by simp, fun w' _ => ?_, fun j e q x h1 => by simp at h1⟩
    cases a with
    | none => simp [Builtin.firstCells]
    | some a => simpa using run_firstCells_some (P := P) w' n 0 a 0 cap [] (by simp) (fun j v h => by simp at h)
  · obtain ⟨b, o, rfl, hx⟩ := hm hne
    have hq0 : q0 = n := by
      cases l with
      | nil => exact absurd rfl hne
      | cons e l => have h1 := hq 0 e rfl; have h2 := hn e (by simp); omega
    subst hq0
    have cell : ∀ i, i < l.length * q0 → ∃ u, w.cell? ⟨b, o + i, none⟩ = some u ∧ ∀ x, (∃ e, l[i / q0]? = some e ∧ e[i % q0]? = some x) → PRel h x u := by
      intro i hi
      have hpos : 0 < q0 := by
        rcases Nat.eq_zero_or_pos q0 with h0 | h0
        · subst h0; simp at hi
        · exact h0
      have hj : i / q0 < l.length := by rw [Nat.div_lt_iff_lt_mul hpos]; exact hi
      have he : l[i / q0]? = some l[i / q0] := by simp [hj]
      have hel := hq _ _ he
      have hq' : i % q0 < l[i / q0].length := by rw [hel]; exact Nat.mod_lt _ hpos
      have hx0 : l[i / q0][i % q0]? = some l[i / q0][i % q0] := by simp [hq']
      obtain ⟨u, h1, h2⟩ := hx _ _ _ _ he hx0
      refine ⟨u, ?_, fun x ⟨e, g1, g2⟩ => ?_⟩
      · rw [show o + i = o + q0 * (i / q0) + i % q0 by have := Nat.div_add_mod i q0; omega]
        exact h1
      · rw [he] at g1
        cases g1
        rw [hx0] at g2
        cases g2
        exact h2
    let vs : List Value := (List.range (l.length * q0)).map fun i => (w.cell? ⟨b, o + i, none⟩).getD undef
    have hvs : vs.length = l.length * q0 := by simp [vs]
    have hget : ∀ i, i < l.length * q0 → ∃ u, vs[i]? = some u ∧ w.cell? ⟨b, o + i, none⟩ = some u ∧ ∀ x, (∃ e, l[i / q0]? = some e ∧ e[i % q0]? = some x) → PRel h x u := by
      intro i hi
      obtain ⟨u, h1, h2⟩ := cell i hi
      refine ⟨u, ?_, h1, h2⟩
      simp [vs, hi, h1]
    refine ⟨_, cap, vs, rfl, hc, hvs, fun w' hw' => ?_, fun j e q x h1 h2 => ?_⟩
    · refine run_firstCells_some (P := P) w' q0 l.length ⟨b, o, none⟩ l.length cap vs hvs fun j v hv => ?_
      have hj : j < l.length * q0 := by have := (List.getElem?_eq_some_iff.1 hv).1; omega
      obtain ⟨u, g1, g2, _⟩ := hget j hj
      rw [g1] at hv
      cases hv
      rw [Addr.add_lit]
      have : w'.cell? ⟨b, o + j, none⟩ = w.cell? ⟨b, o + j, none⟩ := by simp [World.cell?, hw']
      rw [this]
      exact g2
    · have hj : j < l.length := (List.getElem?_eq_some_iff.1 h1).1
      have hel := hq _ _ h1
      have hqq : q < q0 := by have := (List.getElem?_eq_some_iff.1 h2).1; omega
      have hlt : q0 * j + q < l.length * q0 := by
        have : q0 * j + q0 ≤ q0 * l.length := by rw [← Nat.mul_succ]; exact Nat.mul_le_mul_left _ hj
        rw [Nat.mul_comm l.length q0]
        omega
      obtain ⟨u, g1, _, g3⟩ := hget _ hlt
      refine ⟨u, g1, g3 x ⟨e, ?_, ?_⟩⟩
      · rw [show (q0 * j + q) / q0 = j by rw [Nat.mul_add_div (by omega)]; simp [Nat.div_eq_of_lt hqq]]
        exact h1
      · rw [show (q0 * j + q) % q0 = q by rw [Nat.mul_add_mod]; exact Nat.mod_eq_of_lt hqq]
        exact h2
end Go.Eng
