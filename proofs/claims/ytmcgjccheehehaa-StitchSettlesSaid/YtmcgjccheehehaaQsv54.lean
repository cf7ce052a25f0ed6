/-
  The statement StitchSettles, for all picks and values; before it: what the statements' arguments read as, with the bytes that they take. Conditions: none.
-/
import Derived.Test.YtmcgjccheehehaaQsv53
import Derived.ChangeStays
import Derived.ChangeArms
import Derived.ChangeShapes
import Derived.ProofKit
import Derived.OpenShut
import Derived.SizedLaws
namespace Go.Eng
open Go.RowKit
set_option linter.unusedVariables false
set_option linter.unusedSimpArgs false
/-- The cells of a value of a type, as they are read, with the bytes that they take. -/
inductive Shq (P : Program) : TypeId → List AV → Prop
  | b {t : TypeId} (x : Bool) : P.underlying t = some .bool → Shq P t [.b x]
  | i {t : TypeId} (k : IntKind) (n : Int) : P.underlying t = some (.int k) → (Lit.int k n).wf = true → Shq P t [.i k n]
  | s {t : TypeId} (s : ByteArray) : P.underlying t = some .string → s.size ≤ reachBytes → Shq P t [.s s]
  | ds {t e : TypeId} (l : List (List AV)) : P.underlying t = some (.slice e) → l.length ≤ maxLen → l.length * P.bytesOf e ≤ reachBytes → (∀ x ∈ l, Shq P e x) → Shq P t [.ds l]
  | st {t : TypeId} {fs : Array Field} (parts : List (List AV)) : P.underlying t = some (.struct fs) → parts.length = fs.toList.length → (∀ (i : Nat) f p, fs.toList[i]? = some f → parts[i]? = some p → Shq P f.type p) → Shq P t parts.flatten
  | un {t : TypeId} (l : List AV) : (∀ d, P.underlying t = some d → match d with | .bool | .int _ | .string | .slice _ | .struct _ => False | _ => True) → Shq P t l
theorem Shq.shp {P : Program} {t : TypeId} {L : List AV} (h : Shq P t L) : Shp P t L := by
  induction h with
  | b x h => exact .b x h
  | i k n h w => exact .i k n h w
  | s s h w => exact .s s h (Nat.le_trans w (by decide))
  | ds l h w _ _ ih => exact .ds l h w ih
  | st parts h w _ ih => exact .st parts h w ih
  | un l h => exact .un l h
section
variable {H : Type} {enc : TypeId × Value → H} {P : Program} {w : World} {held : Bool} {T : TypeId → Prop}
theorem weightsAll_mem {H : Type} {P : Program} {e : TypeId} : ∀ {l : List (DataW H)} {d : DataW H}, d ∈ l → ∀ n ∈ d.weights P e, n ∈ DataW.weightsAll P e l
  | y :: l, d, h, n, hn => by
    rw [DataW.weightsAll, List.mem_append]
    rcases List.mem_cons.1 h with rfl | h
    · exact .inl hn
    · exact .inr (weightsAll_mem h n hn)
theorem weightsEach_app {H : Type} {P : Program} (a : List TypeId) (b : List (DataW H)) : ∀ {ts : List TypeId} {ds : List (DataW H)} {n : Nat}, n ∈ DataW.weightsEach P ts ds → n ∈ DataW.weightsEach P (ts ++ a) (ds ++ b)
  | [], _, n, h => by simp [DataW.weightsEach] at h
  | _ :: _, [], n, h => by simp [DataW.weightsEach] at h
  | t :: ts, d :: ds, n, h => by
    rw [DataW.weightsEach, List.mem_append] at h
    rw [List.cons_append, List.cons_append, DataW.weightsEach, List.mem_append]
    rcases h with h | h
    · exact .inl h
    · exact .inr (weightsEach_app a b h)
theorem shapeq_of (K : Kids P T) (hsz : ∀ {t e : TypeId}, T t → P.underlying t = some (.slice e) → 0 < P.cellsOf e) : ∀ (n : Nat) (t : TypeId) (cs : List Value) (x : DataW H × List MemPlace), T t → DataW.trod enc P w 0 (fun _ => true) held n t cs = some x → (∀ m ∈ x.1.weights P t, m ≤ reachBytes) → ∃ L, Shq P t L ∧ PL w L cs := by
  intro n
  induction n with
  | zero => intro t cs x _ h _; simp [DataW.trod] at h
  | succ n ih =>
    intro t cs x ht h hwt
    cases hd : P.underlying t with
    | none => simp [DataW.trod, hd] at h
    | some d =>
      by_cases hb : d = .bool
      · subst hb
        obtain ⟨b, rfl, rfl⟩ := DataW.trod_bool hd h
        exact ⟨_, .b b hd, PL.one (.b b)⟩
      by_cases hi : ∃ k, d = .int k
      · obtain ⟨k, rfl⟩ := hi
        obtain ⟨m, rfl, rfl, hw⟩ := DataW.trod_int hd h
        exact ⟨_, .i k m hd hw, PL.one (.i k m)⟩
      by_cases hs : d = .string
      · subst hs
        obtain ⟨s, rfl, rfl, hm⟩ := DataW.trod_string hd h
        exact ⟨_, .s s hd (by simpa using hwt _ (by rw [DataW.weights]; exact List.mem_singleton.2 rfl)), PL.one (.s s)⟩
      by_cases hsl : ∃ e, d = .slice e
      · obtain ⟨e, rfl⟩ := hsl
        rcases DataW.trod_slice hd h with ⟨rfl, rfl⟩ | ⟨a, len, cap, elems, rest, m, hm, rfl, rfl, _, hlc, hcm, hel, hin, _⟩
        · exact ⟨_, .ds [] hd (by simp) (by simp) (fun x hx => (by cases hx)), PL.one (.ds [] 0 none 0 (fun _ _ => undef) (Nat.le_refl _) (fun j e h => by simp at h) (fun j e q α h => by simp at h) (fun h => absurd rfl h))⟩
        · cases hm
          have hw0 : (elems.length + rest.length) * P.bytesOf e ≤ reachBytes := hwt _ (by simp [DataW.weights, hd])
          have hw1 : ∀ d ∈ elems, ∀ m ∈ d.1.weights P e, m ≤ reachBytes := fun d hd' m hm => hwt m (by
            have := weightsAll_mem (List.mem_map_of_mem (f := (·.1)) hd') m hm
            simp only [DataW.weights, hd]
            exact List.mem_cons_of_mem _ (List.mem_append.2 (.inl this)))
          have hz := hsz ht hd
          have hte := K.slice ht hd
          generalize hn : P.cellsOf e = z at *
          have hel' := hel
          have hel : ∀ i, i < len → ∃ us x, w.cells? 0 (a.add (i * z)) z = some us ∧ DataW.trod enc P w 0 (fun _ => true) held n e us = some x ∧ elems[i]? = some x := by
            intro i hi
            have h1 := hin i hi
            rw [List.getElem?_eq_getElem (by omega)] at h1
            cases hc : w.cells? 0 (a.add (i * z)) z with
            | none => rw [hc] at h1; cases h1
            | some us => rw [hc] at h1; exact ⟨us, _, rfl, h1, List.getElem?_eq_getElem (by omega)⟩
          by_cases hl0 : len = 0
          · subst hl0
            exact ⟨_, .ds [] hd (by simp) (by simp) (fun x hx => (by cases hx)), PL.one (.ds [] 0 (some a) cap (fun _ _ => undef) (Nat.zero_le _) (fun j e h => by simp at h) (fun j e q α h => by simp at h) (fun h => absurd rfl h))⟩
          have hsp : a.spot = none := by
            obtain ⟨us, x, h1, _, _⟩ := hel 0 (by omega)
            obtain ⟨_, h2, h3⟩ := World.cells?_some h1
            have h4 := h3 0 hz
            rw [List.getElem?_eq_getElem (by omega)] at h4
            have := cell_spot h4
            simpa [Addr.add] using this
          obtain ⟨b, o, sp⟩ := a
          simp only at hsp
          subst hsp
          obtain ⟨l, hl1, hl2⟩ := list_of (fun i L => Shq P e L ∧ L.length = z ∧ (∀ (q : Nat) α, L[q]? = some α → ∃ u, w.cell? ⟨b, o + z * i + q, none⟩ = some u ∧ PRel (hOf w) α u)) len (by
            intro i hi
            obtain ⟨us, x, h1, h2, hx2⟩ := hel i hi
            obtain ⟨_, h3, h4⟩ := World.cells?_some h1
            obtain ⟨L, s1, s2⟩ := ih e us x hte h2 (hw1 x (List.mem_of_getElem? hx2))
            refine ⟨L, s1, s2.1.trans h3, fun q α hq => ?_⟩
            have hqn : q < z := by have := (List.getElem?_eq_some_iff.1 hq).1; rw [s2.1, h3] at this; exact this
            have h5 := h4 q hqn
            rw [add_plain, add_plain] at h5
            have hu : us[q]? = some us[q] := List.getElem?_eq_getElem (by omega)
            exact ⟨us[q], by rw [← hu, ← h5, Nat.mul_comm z i], s2.2 q α _ hq hu⟩)
          refine ⟨_, .ds l hd (by omega) (Nat.le_trans (Nat.mul_le_mul_right _ (by omega)) hw0) (fun x hx => ?_), ?_⟩
          · obtain ⟨i, hi, rfl⟩ := List.mem_iff_getElem.1 hx
            exact (hl2 i _ (List.getElem?_eq_getElem hi)).1
          · rw [← hl1]
            refine PL.one (.ds l z (some ⟨b, o, none⟩) cap (fun j q => (w.cell? ⟨b, o + z * j + q, none⟩).getD undef) (by omega) (fun j x hx => (hl2 j x hx).2.1) (fun j x q α hx hq => ?_) (fun _ => ⟨b, o, rfl, fun j x q α hx hq => ?_⟩))
            · obtain ⟨u, hu, r⟩ := (hl2 j x hx).2.2 q α hq
              rw [hu]
              exact r
            · obtain ⟨u, hu, r⟩ := (hl2 j x hx).2.2 q α hq
              rw [hu]
              exact cellAt_of hu
      by_cases hst : ∃ fs, d = .struct fs
      · obtain ⟨fs, rfl⟩ := hst
        obtain ⟨xs, m, hm, rfl, hlen', hxs, hf⟩ := DataW.trod_struct hd h
        cases hm
        obtain ⟨k1, k2, k3⟩ := K.struct ht hd
        obtain ⟨parts, p1, p2, p3⟩ := fields_of (w := w) cs fs.toList 0 (fun i L => ∀ f, fs.toList[i]? = some f → Shq P f.type L) (fun j f hf' => by rw [Nat.zero_add]; exact k3 j f hf') (fun i f hf' => by
          have hi : i < fs.size := by have := (List.getElem?_eq_some_iff.1 hf').1; simpa using this
          have hfe : fs[i]? = some f := by simpa using hf'
          have h1 := hf i f hfe
          rw [List.getElem?_eq_getElem (by omega)] at h1
          obtain ⟨L, a, b⟩ := ih f.type _ _ (k1 _ (List.mem_of_getElem? hf')) h1 (fun m hm => hwt m (by
            simp only [DataW.weights, hd]
            exact DataW.weights_mem_each (j := i) (t := f.type) (by rw [List.getElem?_map, hf']; rfl) (by rw [List.getElem?_map, List.getElem?_eq_getElem (by omega)]; rfl) m hm))
          exact ⟨L, a.shp, b, fun g hg => by rw [hf'] at hg; cases hg; exact a⟩)
        refine ⟨_, .st parts hd p1 (fun i f p a b => (p2 i f p a b).2 f a), ?_⟩
        have e : ((cs.drop 0).take ((fs.toList.map fun f => P.cellsOf f.type).sum)) = cs := by rw [← k2, List.drop_zero, ← hlen', List.take_length]
        rw [e] at p3
        exact p3
      · refine ⟨cs.map fun _ => .un, .un _ fun d' hd' => ?_, ⟨by simp, fun j α v h1 h2 => ?_⟩⟩
        · rw [hd] at hd'
          cases hd'
          cases d <;> simp_all
        · simp at h1
          obtain ⟨_, _, rfl⟩ := h1
          exact .un _
/-- What an argument of a type reads as. -/
def AQ (P : Program) (t : TypeId) (α : AV) : Prop := (∃ fs L, P.underlying t = some (.struct fs) ∧ α = .ag L ∧ Shq P t L) ∨ ((∀ fs, P.underlying t ≠ some (.struct fs)) ∧ Shq P t [α])
def AQs (P : Program) : List TypeId → List AV → Prop
  | [], [] => True
  | t :: ts, α :: αs => AQ P t α ∧ AQs P ts αs
  | _, _ => False
theorem argq_of (K : Kids P T) (hsz : ∀ {t e : TypeId}, T t → P.underlying t = some (.slice e) → 0 < P.cellsOf e) {t : TypeId} {v : Value} {d : DataW H} {p : List MemPlace} (ht : T t) {base : Nat} (hv : Value.okWide P w .any base t v) (h : DataW.Trod enc P w 0 (fun _ => true) held t v d p) (hwt : ∀ m ∈ d.weights P t, m ≤ reachBytes) : ∃ α, AQ P t α ∧ PRel (hOf w) α v := by
  obtain ⟨n, hn⟩ := h
  obtain ⟨L, s1, s2⟩ := shapeq_of K hsz n t _ _ ht hn hwt
  by_cases hst : ∃ fs, P.underlying t = some (.struct fs)
  · obtain ⟨fs, hfs⟩ := hst
    obtain ⟨cs, rfl, _⟩ := WideShapes.okWide_struct hfs hv
    refine ⟨.ag L, .inl ⟨fs, L, hfs, rfl, s1⟩, ?_⟩
    have : PRel (hOf w) (.ag L) (.agg cs.toList.toArray) := .ag L cs.toList (by simpa [Value.cells] using s2.1) (fun j α v h1 h2 => s2.2 j α v h1 (by simpa [Value.cells] using h2))
    simpa using this
  · have hst' : ∀ fs, P.underlying t ≠ some (.struct fs) := fun fs e => hst ⟨fs, e⟩
    have hone : v.cells = #[v] → ∃ α, AQ P t α ∧ PRel (hOf w) α v := by
      intro hc
      rw [hc] at s2
      obtain ⟨α, rfl⟩ : ∃ α, L = [α] := by
        have := s2.1
        cases L with
        | nil => simp at this
        | cons a r => cases r with
          | nil => exact ⟨a, rfl⟩
          | cons => simp at this
      exact ⟨α, .inr ⟨hst', s1⟩, s2.2 0 _ _ rfl rfl⟩
    have hun : (∀ d, P.underlying t = some d → match d with | .bool | .int _ | .string | .slice _ | .struct _ => False | _ => True) → ∃ α, AQ P t α ∧ PRel (hOf w) α v := fun h => ⟨.un, .inr ⟨hst', .un _ h⟩, .un _⟩
    cases hd : P.underlying t with
    | none => exact hun (fun d h => by rw [hd] at h; cases h)
    | some d =>
      cases d with
      | bool => obtain ⟨b, rfl⟩ := WideShapes.okWide_bool hd hv; exact hone rfl
      | int k => obtain ⟨b, rfl⟩ := WideShapes.okWide_int hd hv; exact hone rfl
      | string => obtain ⟨b, rfl⟩ := WideShapes.okWide_string hd hv; exact hone rfl
      | slice e => obtain ⟨a, b, c, rfl⟩ := WideShapes.okWide_slice hd hv; exact hone rfl
      | struct fs => exact absurd hd (hst' fs)
      | _ => exact hun (fun d h => by rw [hd] at h; cases h; trivial)
theorem law_sized (K : Kids P T) (hsz : ∀ {t e : TypeId}, T t → P.underlying t = some (.slice e) → 0 < P.cellsOf e) {f : FuncId} {fn : Func} {s : ChangeSpec} {tb : TypeId} (hT : ∀ t ∈ fn.params.toList, T t) (hvs : s.vars = [])
    (hs : ∀ (ds : List (DataW H)), ds.length = fn.params.toList.length → (s.fn H ds).results = [.lit (.bool true)] ∧ (s.fn H ds).args = ds ∧ (s.fn H ds).vars = []) (hres : fn.resultTypes = #[tb]) (htb : P.underlying tb = some .bool)
    {base : Nat} {args : Array Value} {ds gs : List (DataW H)} {before : List MemPlace} (m : ∀ αs, AQs P fn.params.toList αs → MeetsF P f [] 0 αs (.b true))
    (hval : ∀ (j : Nat) t v, fn.params[j]? = some t → args[j]? = some v → Value.okWide P w .any base t v) (hW : DataW.Whole enc P fn.params.toList s.vars false w args.toList ds gs before)
    {vt : List TypeId} (hwt : (DataW.weightsEach P (fn.params.toList ++ vt) (ds ++ gs)).all (· ≤ reachBytes) = true) :
    Calls P f args w fun e W' => ∃ v, e = .returned v ∧ s.post enc P fn false true false false w args v W' := by
  have hW' := hW
  obtain ⟨p, q, hA, hV, rfl, _, _⟩ := hW
  rw [hvs] at hV
  obtain ⟨rfl, rfl⟩ := ChangeShapes.trodVars_none hV
  have hwt : ∀ m ∈ DataW.weightsEach P fn.params.toList ds, m ≤ reachBytes := fun m hm => by
    have := List.all_eq_true.1 hwt m (weightsEach_app vt [] hm)
    simpa using this
  have key : ∀ (ts : List TypeId) (vs : List Value) (ds : List (DataW H)) (p : List MemPlace), (∀ t ∈ ts, T t) → (∀ (j : Nat) t v, ts[j]? = some t → vs[j]? = some v → Value.okWide P w .any base t v) → DataW.TrodAll enc P w 0 (fun _ => true) true ts vs ds p → (∀ m ∈ DataW.weightsEach P ts ds, m ≤ reachBytes) →
      (∃ αs, AQs P ts αs ∧ RelL (hOf w) (fun _ _ => none) αs vs) ∧ ds.length = ts.length ∧ ∀ W' sp, Below w.heap.size w W' → (∀ x ∈ p, sp x.block = true) → DataW.TrodAll enc P W' 0 sp true ts vs ds p := by
    intro ts
    induction ts with
    | nil =>
      intro vs ds p _ _ h _
      obtain ⟨rfl, rfl, rfl⟩ := ChangeShapes.trodAll_nil h
      exact ⟨⟨[], trivial, RelL.nil⟩, rfl, fun _ _ _ _ => rfl⟩
    | cons t ts ih =>
      intro vs ds p hT hv h hwt
      obtain ⟨v, vs', d, ds', p1, p2, rfl, rfl, rfl, h1, h2⟩ := ChangeShapes.trodAll_cons h
      obtain ⟨⟨αs, a1, a2⟩, a3, a4⟩ := ih vs' ds' p2 (fun t ht => hT t (by simp [ht])) (fun j t v x y => hv (j + 1) t v (by simpa using x) (by simpa using y)) h2 (fun m hm => hwt m (by rw [DataW.weightsEach, List.mem_append]; exact .inr hm))
      obtain ⟨α, b1, b2⟩ := argq_of K hsz (hT t (by simp)) (hv 0 t v rfl rfl) h1 (fun m hm => hwt m (by rw [DataW.weightsEach, List.mem_append]; exact .inl hm))
      refine ⟨⟨α :: αs, ⟨b1, a1⟩, RelL.cons (.pu _ _ b2) a2⟩, by simp [a3], fun W' sp hb hp => ?_⟩
      obtain ⟨n, hn⟩ := h1
      have hlt := DataW.trod_lt n t _ _ hn
      exact ⟨p1, p2, ⟨n, DataW.trod_stays K hsz (fun h => by cases h) (hT t (by simp)) hn (fun x hx => hb.same (hlt x hx)) (fun x hx => hp x (by simp [hx]))⟩, a4 W' sp hb (fun x hx => hp x (by simp [hx])), rfl⟩
  have hvl : ∀ (j : Nat) t v, fn.params.toList[j]? = some t → args.toList[j]? = some v → Value.okWide P w .any base t v := fun j t v x y => hval j t v (by simpa using x) (by simpa using y)
  obtain ⟨⟨αs, h1, h2⟩, h3, h4⟩ := key _ _ _ _ hT hvl hA hwt
  have hsat : SatH (hOf w) (fun _ _ => none) [] 0 w := ⟨fun b o e => e, fun k => trivial, fun k k' g g' b c c' e => by simp [gc, Chunk.gen] at e, fun b ⟨k, g, c, e, _⟩ => by simp [gc, Chunk.gen] at e, fun b ⟨k, g, c, e, _⟩ => by simp [gc, Chunk.gen] at e, fun _ _ _ => rfl, fun k g g' mm l x e => by simp [gc] at e⟩
  have hc := (m αs h1).2 _ _ w args.toList hsat h2
  have e : args.toList.toArray = args := by simp
  rw [e] at hc
  refine hc.mono fun e W' ⟨v, he, h', _, _, hr, hk⟩ => ?_
  cases hr
  have hb : Below w.heap.size w W' := (Keeps.below ⟨hk.os, hk.tape, hk.output, hk.size, fun b hb _ => hk.block b hb (fun ⟨k, g, c, e, _⟩ => by simp [gc, Chunk.gen] at e)⟩)
  have hs1 := hs (ds ++ []) (by simpa using h3)
  refine ⟨_, he, ds, [], p ++ [], [], p, [], hW', ?_, ?_, ?_, World.keptBut_mono (fun _ h => h.elim) (hb.frame (fun _ => False)), fun h => (by cases h)⟩
  · rw [hres, hs1.1]
    exact ⟨[], [], RowKit.shut_bool htb true, rfl, rfl⟩
  · rw [hs1.2.1, List.append_nil]
    have hlt := DataW.TrodAll.lt hA
    exact h4 W' _ hb (fun x hx => by simpa using hlt x hx)
  · rw [hs1.2.2, hvs]
    rfl
end
section
variable {P : Program} {t e : TypeId} {L : List AV} {α : AV}
theorem AQ.as (h : AQ P t α) : AS P t α := by
  rcases h with ⟨fs, L, h1, h2, h3⟩ | ⟨h1, h2⟩
  · exact .inl ⟨fs, L, h1, h2, h3.shp⟩
  · exact .inr ⟨h1, h2.shp⟩
theorem shq_string (hd : P.underlying t = some .string) (h : Shq P t L) : ∃ s : ByteArray, L = [.s s] ∧ s.size ≤ reachBytes := by
  cases h with
  | b x hd' => rw [hd] at hd'; cases hd'
  | i _ n hd' hw => rw [hd] at hd'; cases hd'
  | s s hd' hs => exact ⟨s, rfl, hs⟩
  | ds _ hd' => rw [hd] at hd'; cases hd'
  | st _ hd' => rw [hd] at hd'; cases hd'
  | un _ h => exact (h _ hd).elim
theorem shq_slice (hd : P.underlying t = some (.slice e)) (h : Shq P t L) : ∃ l : List (List AV), L = [.ds l] ∧ l.length * P.bytesOf e ≤ reachBytes ∧ ∀ x ∈ l, Shq P e x := by
  cases h with
  | b x hd' => rw [hd] at hd'; cases hd'
  | i _ n hd' hw => rw [hd] at hd'; cases hd'
  | s _ hd' => rw [hd] at hd'; cases hd'
  | ds l hd' _ hl hx => rw [hd] at hd'; cases hd'; exact ⟨l, rfl, hl, hx⟩
  | st _ hd' => rw [hd] at hd'; cases hd'
  | un _ h => exact (h _ hd).elim
theorem shq_struct {fs : Array Field} (hd : P.underlying t = some (.struct fs)) (h : Shq P t L) : ∃ parts : List (List AV), L = parts.flatten ∧ parts.length = fs.toList.length ∧ ∀ (i : Nat) f p, fs.toList[i]? = some f → parts[i]? = some p → Shq P f.type p := by
  cases h with
  | b x hd' => rw [hd] at hd'; cases hd'
  | i _ n hd' hw => rw [hd] at hd'; cases hd'
  | s _ hd' => rw [hd] at hd'; cases hd'
  | ds _ hd' => rw [hd] at hd'; cases hd'
  | st parts hd' hl hx => rw [hd] at hd'; cases hd'; exact ⟨parts, rfl, hl, hx⟩
  | un _ h => exact (h _ hd).elim
theorem aq_string (hd : P.underlying t = some .string) (h : AQ P t α) : ∃ s : ByteArray, α = .s s ∧ s.size ≤ reachBytes := by
  rcases h with ⟨fs, L, hs, _⟩ | ⟨_, h⟩
  · rw [hd] at hs; cases hs
  · obtain ⟨n, e, hw⟩ := shq_string hd h
    cases e
    exact ⟨n, rfl, hw⟩
theorem aq_slice (hd : P.underlying t = some (.slice e)) (h : AQ P t α) : ∃ l : List (List AV), α = .ds l ∧ l.length * P.bytesOf e ≤ reachBytes ∧ ∀ x ∈ l, Shq P e x := by
  rcases h with ⟨fs, L, hs, _⟩ | ⟨_, h⟩
  · rw [hd] at hs; cases hs
  · obtain ⟨l, e, hl, hx⟩ := shq_slice hd h
    cases e
    exact ⟨l, rfl, hl, hx⟩
theorem aq_struct {fs : Array Field} (hd : P.underlying t = some (.struct fs)) (h : AQ P t α) : ∃ L, α = .ag L ∧ Shq P t L := by
  rcases h with ⟨fs, L, _, e, h⟩ | ⟨h, _⟩
  · exact ⟨L, e, h⟩
  · exact absurd hd (h fs)
theorem aq_n1 {P : Program} {t1 : TypeId} {αs : List AV} (h : AQs P [t1] αs) : ∃ α1, αs = [α1] ∧ AQ P t1 α1 := by
  match αs, h with
  | [α1], h => exact ⟨α1, rfl, h.1⟩
  | [], h => exact (h : False).elim
  | α1 :: x :: l, h => exact (h.2 : False).elim
theorem aq_n2 {P : Program} {t1 t2 : TypeId} {αs : List AV} (h : AQs P [t1, t2] αs) : ∃ α1 α2, αs = [α1, α2] ∧ AQ P t1 α1 ∧ AQ P t2 α2 := by
  match αs, h with
  | [α1, α2], h => exact ⟨α1, α2, rfl, h.1, h.2.1⟩
  | [], h => exact (h : False).elim
  | [α1], h => exact (h.2 : False).elim
  | α1 :: α2 :: x :: l, h => exact (h.2.2 : False).elim
theorem aq_n3 {P : Program} {t1 t2 t3 : TypeId} {αs : List AV} (h : AQs P [t1, t2, t3] αs) : ∃ α1 α2 α3, αs = [α1, α2, α3] ∧ AQ P t1 α1 ∧ AQ P t2 α2 ∧ AQ P t3 α3 := by
  match αs, h with
  | [α1, α2, α3], h => exact ⟨α1, α2, α3, rfl, h.1, h.2.1, h.2.2.1⟩
  | [], h => exact (h : False).elim
  | [α1], h => exact (h.2 : False).elim
  | [α1, α2], h => exact (h.2.2 : False).elim
  | α1 :: α2 :: α3 :: x :: l, h => exact (h.2.2.2 : False).elim
theorem aq_n4 {P : Program} {t1 t2 t3 t4 : TypeId} {αs : List AV} (h : AQs P [t1, t2, t3, t4] αs) : ∃ α1 α2 α3 α4, αs = [α1, α2, α3, α4] ∧ AQ P t1 α1 ∧ AQ P t2 α2 ∧ AQ P t3 α3 ∧ AQ P t4 α4 := by
  match αs, h with
  | [α1, α2, α3, α4], h => exact ⟨α1, α2, α3, α4, rfl, h.1, h.2.1, h.2.2.1, h.2.2.2.1⟩
  | [], h => exact (h : False).elim
  | [α1], h => exact (h.2 : False).elim
  | [α1, α2], h => exact (h.2.2 : False).elim
  | [α1, α2, α3], h => exact (h.2.2.2 : False).elim
  | α1 :: α2 :: α3 :: α4 :: x :: l, h => exact (h.2.2.2.2 : False).elim
theorem aq_n5 {P : Program} {t1 t2 t3 t4 t5 : TypeId} {αs : List AV} (h : AQs P [t1, t2, t3, t4, t5] αs) : ∃ α1 α2 α3 α4 α5, αs = [α1, α2, α3, α4, α5] ∧ AQ P t1 α1 ∧ AQ P t2 α2 ∧ AQ P t3 α3 ∧ AQ P t4 α4 ∧ AQ P t5 α5 := by
  match αs, h with
  | [α1, α2, α3, α4, α5], h => exact ⟨α1, α2, α3, α4, α5, rfl, h.1, h.2.1, h.2.2.1, h.2.2.2.1, h.2.2.2.2.1⟩
  | [], h => exact (h : False).elim
  | [α1], h => exact (h.2 : False).elim
  | [α1, α2], h => exact (h.2.2 : False).elim
  | [α1, α2, α3], h => exact (h.2.2.2 : False).elim
  | [α1, α2, α3, α4], h => exact (h.2.2.2.2 : False).elim
  | α1 :: α2 :: α3 :: α4 :: α5 :: x :: l, h => exact (h.2.2.2.2.2 : False).elim
theorem aq_n6 {P : Program} {t1 t2 t3 t4 t5 t6 : TypeId} {αs : List AV} (h : AQs P [t1, t2, t3, t4, t5, t6] αs) : ∃ α1 α2 α3 α4 α5 α6, αs = [α1, α2, α3, α4, α5, α6] ∧ AQ P t1 α1 ∧ AQ P t2 α2 ∧ AQ P t3 α3 ∧ AQ P t4 α4 ∧ AQ P t5 α5 ∧ AQ P t6 α6 := by
  match αs, h with
  | [α1, α2, α3, α4, α5, α6], h => exact ⟨α1, α2, α3, α4, α5, α6, rfl, h.1, h.2.1, h.2.2.1, h.2.2.2.1, h.2.2.2.2.1, h.2.2.2.2.2.1⟩
  | [], h => exact (h : False).elim
  | [α1], h => exact (h.2 : False).elim
  | [α1, α2], h => exact (h.2.2 : False).elim
  | [α1, α2, α3], h => exact (h.2.2.2 : False).elim
  | [α1, α2, α3, α4], h => exact (h.2.2.2.2 : False).elim
  | [α1, α2, α3, α4, α5], h => exact (h.2.2.2.2.2 : False).elim
  | α1 :: α2 :: α3 :: α4 :: α5 :: α6 :: x :: l, h => exact (h.2.2.2.2.2.2 : False).elim
end
end Go.Eng
namespace Go.Proofs.Ytmcgjccheehehaa
open Go.Eng
set_option linter.unusedVariables false
set_option linter.unusedSimpArgs false
theorem bV : Try.prog.bytesOf 25 = 80 := by kernel_rfl
theorem bS : Try.prog.bytesOf 9 = 16 := by kernel_rfl
theorem bR : reachBytes = 140737488351232 := rfl
/-- A value that is read fits. -/
theorem val_reach (v : Val) : Shq Try.prog 25 (valC v) → v.Fit := by
  refine Val.ind (Q := fun v => Shq Try.prog 25 (valC v) → v.Fit) (fun v ih h => ?_) v
  rw [valC_eq] at h
  obtain ⟨parts, e0, hl, hp⟩ := shq_struct Try.underlying25 h
  obtain ⟨a, b, c, d, e, rfl⟩ := ds_n5 (show parts.length = 5 from hl)
  obtain ⟨a, rfl, _⟩ := shp_int Try.underlying3 (hp 0 _ a rfl rfl).shp
  obtain ⟨b, rfl, _⟩ := shp_int Try.underlying3 (hp 1 _ b rfl rfl).shp
  obtain ⟨c, rfl, _⟩ := shp_string Try.underlying9 (hp 2 _ c rfl rfl).shp
  obtain ⟨l, rfl, hl1, hx⟩ := shq_slice Try.underlying22 (hp 3 _ d rfl rfl)
  obtain ⟨k, rfl, hk1, _⟩ := shq_slice Try.underlying23 (hp 4 _ e rfl rfl)
  simp only [List.flatten_cons, List.flatten_nil, List.cons_append, List.nil_append, List.cons.injEq, AV.ds.injEq, and_true] at e0
  obtain ⟨_, _, _, e2, e3⟩ := e0
  rw [bV, bR, ← e2] at hl1
  rw [bS, bR, ← e3] at hk1
  simp only [mapC, stC, List.length_map] at hl1 hk1
  refine .mk v (by omega) (by omega) fun x hx' => ih x hx' (hx _ ?_)
  rw [← e2]
  exact List.mem_map_of_mem (f := valC) hx'
/-- A value that is read, its lists. -/
theorem val_reachN (v : Val) : Shq Try.prog 25 (valC v) → RN v := by
  refine Val.ind (Q := fun v => Shq Try.prog 25 (valC v) → RN v) (fun v ih h => ?_) v
  rw [valC_eq] at h
  obtain ⟨parts, e0, hl, hp⟩ := shq_struct Try.underlying25 h
  obtain ⟨a, b, c, d, e, rfl⟩ := ds_n5 (show parts.length = 5 from hl)
  obtain ⟨a, rfl, _⟩ := shp_int Try.underlying3 (hp 0 _ a rfl rfl).shp
  obtain ⟨b, rfl, _⟩ := shp_int Try.underlying3 (hp 1 _ b rfl rfl).shp
  obtain ⟨c, rfl, _⟩ := shp_string Try.underlying9 (hp 2 _ c rfl rfl).shp
  obtain ⟨l, rfl, hl1, hx⟩ := shq_slice Try.underlying22 (hp 3 _ d rfl rfl)
  obtain ⟨k, rfl, _⟩ := shq_slice Try.underlying23 (hp 4 _ e rfl rfl)
  simp only [List.flatten_cons, List.flatten_nil, List.cons_append, List.nil_append, List.cons.injEq, AV.ds.injEq, and_true] at e0
  obtain ⟨_, _, _, e2, e3⟩ := e0
  rw [bV, bR, ← e2] at hl1
  simp only [mapC, List.length_map] at hl1
  refine .mk v (by omega) fun x hx' => ih x hx' (hx _ ?_)
  rw [← e2]
  exact List.mem_map_of_mem (f := valC) hx'
theorem readq_val {α : AV} (h : AQ Try.prog 25 α) : ∃ v : Val, α = vx v ∧ v.Fit ∧ RN v := by
  obtain ⟨L, rfl, h2⟩ := aq_struct Try.underlying25 h
  obtain ⟨v, rfl⟩ := shp_val h2.shp
  exact ⟨v, by rw [valC_eq], val_reach v h2, val_reachN v h2⟩
theorem bK : Try.prog.bytesOf 69 = 160 := by kernel_rfl
theorem pk_reach (p : Pk) : Shq Try.prog 69 (pkC p) → PkR p.picks := by
  refine Pk.ind (Q := fun p => Shq Try.prog 69 (pkC p) → PkR p.picks) (fun p ih h => ?_) p
  rw [pkC_eq] at h
  obtain ⟨parts, e0, hl, hp⟩ := shq_struct Try.underlying69 h
  match parts, hl, hp, e0 with
  | [a, b, c, d, e, f, g, i], _, hp, e0 =>
    obtain ⟨a, rfl, _⟩ := shp_string Try.underlying9 (hp 0 _ a rfl rfl).shp
    obtain ⟨b, rfl, _⟩ := shp_string Try.underlying9 (hp 1 _ b rfl rfl).shp
    obtain ⟨c, rfl, _⟩ := shp_string Try.underlying9 (hp 2 _ c rfl rfl).shp
    obtain ⟨l, rfl, _⟩ := shp_slice Try.underlying65 (hp 3 _ d rfl rfl).shp
    obtain ⟨ts, rfl, hl2, hp2⟩ := shp_struct Try.underlying67 (hp 4 _ e rfl rfl).shp
    obtain ⟨t, u, rfl⟩ := ds_n2 (show ts.length = 2 from hl2)
    obtain ⟨t, rfl, _⟩ := shp_string Try.underlying9 (hp2 0 _ t rfl rfl)
    obtain ⟨w, rfl, _⟩ := shp_slice Try.underlying45 (hp2 1 _ u rfl rfl)
    obtain ⟨f, rfl, _⟩ := shp_string Try.underlying9 (hp 5 _ f rfl rfl).shp
    obtain ⟨g, rfl, _⟩ := shp_int Try.underlying3 (hp 6 _ g rfl rfl).shp
    obtain ⟨q, rfl, h1, hz⟩ := shq_slice Try.underlying38 (hp 7 _ i rfl rfl)
    simp only [List.flatten_cons, List.flatten_nil, List.cons_append, List.nil_append, List.append_nil, List.cons.injEq, AV.ds.injEq, and_true] at e0
    obtain ⟨_, _, _, _, _, _, _, _, e9⟩ := e0
    rw [bK, bR, ← e9] at h1
    simp only [mapC, List.length_map] at h1
    refine .mk _ (by omega) fun x hx => ih x hx (hz _ ?_)
    rw [← e9]
    exact List.mem_map_of_mem (f := pkC) hx
theorem readq_picks {α : AV} (h : AQ Try.prog 38 α) : ∃ l : List Pk, α = .ds (mapC pkC l) ∧ PkR l := by
  obtain ⟨l, rfl, h1, hx⟩ := aq_slice Try.underlying38 h
  obtain ⟨m, rfl, _⟩ := mapC_of (c := pkC) fun x h => shp_pk (hx x h).shp
  rw [bK, bR] at h1
  simp only [mapC, List.length_map] at h1
  exact ⟨m, rfl, .mk _ (by omega) fun p hp => pk_reach p (hx _ (List.mem_map_of_mem (f := pkC) hp))⟩
theorem settles_law (αs : List AV) (h : AQs Try.prog [38, 25] αs) : MeetsF Try.prog 9 [] 0 αs (.b true) := by
  obtain ⟨α1, α2, rfl, h1, h2⟩ := aq_n2 h
  obtain ⟨x1, rfl, w1⟩ := readq_picks h1
  obtain ⟨x2, rfl, w2⟩ := readq_val h2
  exact lawSettlesG x1 x2 w1 w2.1 w2.2 [] 0
set_option maxRecDepth 100000 in
theorem settles_lifted (os : Os) (started : os.Started) (H : Type) (enc : TypeId × Value → H) :
    ReturnsInHanded {} Try.checked os 9 .any (Rows.stitchSettlesSpec.pre6 enc Try.prog Try.f9 Rows.stitchSettlesRow.domain false) (Rows.stitchSettlesSpec.post enc Try.prog Try.f9 false true false false) := by
  refine returnsInHanded_of_change_sized (C := Try.checked) own started (by kernel_rfl) Try.func9
    (ChangeSpec.witness6 (enc := enc) (C := Try.checked) false ⟨#[], #[.slice none 0 0, .agg #[.int .i64 0, .int .i64 0, .string ⟨#[]⟩, .slice none 0 0, .slice none 0 0]], []⟩ 8 (by kernel_rfl) (by kernel_rfl) (by kernel_rfl) (by kernel_rfl)) ?_
  intro W base args ds gs before hval hW _ hz _
  refine law_sized (tb := 4) kids sized ?_ rfl (fun ds hl => ?_) rfl Try.underlying4 (m := fun αs h => settles_law αs h) hval hW hz
  · exact par_lt (by kernel_rfl)
  · obtain ⟨d1, d2, rfl⟩ := ds_n2 (show ds.length = 2 from hl)
    exact ⟨rfl, rfl, rfl⟩
/-- The statement StitchSettles. -/
theorem settles_holds : Rows.StitchSettlesSaid :=
  OpenClaim.holds_of_wide 9 Try.f9 rfl rfl rfl rfl rfl rfl rfl ⟨rfl, rfl, rfl, rfl, rfl⟩ rfl rfl rfl rfl rfl (by kernel_rfl) Try.func9 (by kernel_rfl)
    (of_decide_eq_true (by kernel_rfl)) (by unfold Func.isWrapper; first | (rw [if_pos (by decide +kernel)]; kernel_rfl) | (rw [if_neg (by decide +kernel)]; exact ⟨rfl, rfl⟩))
    (fun os started H enc _ => settles_lifted os started H enc)
end Go.Proofs.Ytmcgjccheehehaa
