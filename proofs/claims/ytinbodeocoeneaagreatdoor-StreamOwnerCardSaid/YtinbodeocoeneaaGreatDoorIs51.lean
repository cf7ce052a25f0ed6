/- What the arguments of the statements on streams read as, with the bytes that they take. Conditions: none. -/
import Derived.Test.YtinbodeocoeneaaGreatDoorCards
import Derived.Test.YtinbodeocoeneaaGreatDoorTie
import Derived.ProofKit
import Derived.OpenShut
import Derived.Deep.DeepHandedRow
import Derived.Lib.LaidTab
import Derived.Test.YtinbodeocoeneaaGreatDoorIs50
import Derived.ChangeStays
import Derived.ChangeArms
import Derived.ChangeShapes
import Derived.SizedLaws
namespace Go.Eng
open Go.RowKit
set_option linter.unusedVariables false
set_option linter.unusedSimpArgs false
/-- The cells of a value of a type, as they are read, with the bytes that they take. -/
inductive Shq (P : Program) : TypeId → List AV → Prop
  | b {t : TypeId} (x : Bool) : P.underlying t = some .bool → Shq P t [.b x]
  | i {t : TypeId} (k : IntKind) (n : Int) : P.underlying t = some (.int k) → (Lit.int k n).wf = true → Shq P t [.i k n]
  | s {t : TypeId} (s : ByteArray) : P.underlying t = some .string → s.size ≤ reachBytes → Shq P t [.s s]
  | ds {t e : TypeId} (l : List (List AV)) : P.underlying t = some (.slice e) → l.length ≤ maxLen → l.length * P.bytesOf e ≤ reachBytes → (∀ x ∈ l, Shq P e x) → Shq P t [.ds l]
  | st {t : TypeId} {fs : Array Field} (parts : List (List AV)) : P.underlying t = some (.struct fs) → parts.length = fs.toList.length → (∀ (i : Nat) f p, fs.toList[i]? = some f → parts[i]? = some p → Shq P f.type p) → Shq P t parts.flatten
  | un {t : TypeId} (l : List AV) : (∀ d, P.underlying t = some d → match d with | .bool | .int _ | .string | .slice _ | .struct _ => False | _ => True) → Shq P t l

theorem Shq.shp {P : Program} {t : TypeId} {L : List AV} (h : Shq P t L) : Shp P t L := by
  induction h with
  | b x h => exact .b x h
  | i k n h w => exact .i k n h w
  | s s h w => exact .s s h (Nat.le_trans w (by decide))
  | ds l h w _ _ ih => exact .ds l h w ih
  | st parts h w _ ih => exact .st parts h w ih
  | un l h => exact .un l h
section
variable {H : Type} {enc : TypeId × Value → H} {P : Program} {w : World} {held : Bool} {T : TypeId → Prop}
theorem weightsAll_mem {H : Type} {P : Program} {e : TypeId} : ∀ {l : List (DataW H)} {d : DataW H}, d ∈ l → ∀ n ∈ d.weights P e, n ∈ DataW.weightsAll P e l
  | y :: l, d, h, n, hn => by
    rw [DataW.weightsAll, List.mem_append]
    rcases List.mem_cons.1 h with rfl | h
    · exact .inl hn
    · exact .inr (weightsAll_mem h n hn)
theorem weightsEach_app {H : Type} {P : Program} (a : List TypeId) (b : List (DataW H)) : ∀ {ts : List TypeId} {ds : List (DataW H)} {n : Nat}, n ∈ DataW.weightsEach P ts ds → n ∈ DataW.weightsEach P (ts ++ a) (ds ++ b)
  | [], _, n, h => by simp [DataW.weightsEach] at h
  | _ :: _, [], n, h => by simp [DataW.weightsEach] at h
  | t :: ts, d :: ds, n, h => by
    rw [DataW.weightsEach, List.mem_append] at h
    rw [List.cons_append, List.cons_append, DataW.weightsEach, List.mem_append]
    rcases h with h | h
    · exact .inl h
    · exact .inr (weightsEach_app a b h)
theorem shapeq_of (K : Kids P T) (hsz : ∀ {t e : TypeId}, T t → P.underlying t = some (.slice e) → 0 < P.cellsOf e) : ∀ (n : Nat) (t : TypeId) (cs : List Value) (x : DataW H × List MemPlace), T t → DataW.trod enc P w 0 (fun _ => true) held n t cs = some x → (∀ m ∈ x.1.weights P t, m ≤ reachBytes) → ∃ L, Shq P t L ∧ PL w L cs := by
  intro n
  induction n with
  | zero => intro t cs x _ h _; simp [DataW.trod] at h
  | succ n ih =>
    intro t cs x ht h hwt
    cases hd : P.underlying t with
    | none => simp [DataW.trod, hd] at h
    | some d =>
      by_cases hb : d = .bool
      · subst hb
        obtain ⟨b, rfl, rfl⟩ := DataW.trod_bool hd h
        exact ⟨_, .b b hd, PL.one (.b b)⟩
      by_cases hi : ∃ k, d = .int k
      · obtain ⟨k, rfl⟩ := hi
        obtain ⟨m, rfl, rfl, hw⟩ := DataW.trod_int hd h
        exact ⟨_, .i k m hd hw, PL.one (.i k m)⟩
      by_cases hs : d = .string
      · subst hs
        obtain ⟨s, rfl, rfl, hm⟩ := DataW.trod_string hd h
        exact ⟨_, .s s hd (by simpa using hwt _ (by rw [DataW.weights]; exact List.mem_singleton.2 rfl)), PL.one (.s s)⟩
      by_cases hsl : ∃ e, d = .slice e
      · obtain ⟨e, rfl⟩ := hsl
        rcases DataW.trod_slice hd h with ⟨rfl, rfl⟩ | ⟨a, len, cap, elems, rest, m, hm, rfl, rfl, _, hlc, hcm, hel, hin, _⟩
        · exact ⟨_, .ds [] hd (by simp) (by simp) (fun x hx => (by cases hx)), PL.one (.ds [] 0 none 0 (fun _ _ => undef) (Nat.le_refl _) (fun j e h => by simp at h) (fun j e q α h => by simp at h) (fun h => absurd rfl h))⟩
        · cases hm
          have hw0 : (elems.length + rest.length) * P.bytesOf e ≤ reachBytes := hwt _ (by simp [DataW.weights, hd])
          have hw1 : ∀ d ∈ elems, ∀ m ∈ d.1.weights P e, m ≤ reachBytes := fun d hd' m hm => hwt m (by
            have := weightsAll_mem (List.mem_map_of_mem (f := (·.1)) hd') m hm
            simp only [DataW.weights, hd]
            exact List.mem_cons_of_mem _ (List.mem_append.2 (.inl this)))
          have hz := hsz ht hd
          have hte := K.slice ht hd
          generalize hn : P.cellsOf e = z at *
          have hel' := hel
          have hel : ∀ i, i < len → ∃ us x, w.cells? 0 (a.add (i * z)) z = some us ∧ DataW.trod enc P w 0 (fun _ => true) held n e us = some x ∧ elems[i]? = some x := by
            intro i hi
            have h1 := hin i hi
            rw [List.getElem?_eq_getElem (by omega)] at h1
            cases hc : w.cells? 0 (a.add (i * z)) z with
            | none => rw [hc] at h1; cases h1
            | some us => rw [hc] at h1; exact ⟨us, _, rfl, h1, List.getElem?_eq_getElem (by omega)⟩
          by_cases hl0 : len = 0
          · subst hl0
            exact ⟨_, .ds [] hd (by simp) (by simp) (fun x hx => (by cases hx)), PL.one (.ds [] 0 (some a) cap (fun _ _ => undef) (Nat.zero_le _) (fun j e h => by simp at h) (fun j e q α h => by simp at h) (fun h => absurd rfl h))⟩
          have hsp : a.spot = none := by
            obtain ⟨us, x, h1, _, _⟩ := hel 0 (by omega)
            obtain ⟨_, h2, h3⟩ := World.cells?_some h1
            have h4 := h3 0 hz
            rw [List.getElem?_eq_getElem (by omega)] at h4
            have := cell_spot h4
            simpa [Addr.add] using this
          obtain ⟨b, o, sp⟩ := a
          simp only at hsp
          subst hsp
          obtain ⟨l, hl1, hl2⟩ := list_of (fun i L => Shq P e L ∧ L.length = z ∧ (∀ (q : Nat) α, L[q]? = some α → ∃ u, w.cell? ⟨b, o + z * i + q, none⟩ = some u ∧ PRel (hOf w) α u)) len (by
            intro i hi
            obtain ⟨us, x, h1, h2, hx2⟩ := hel i hi
            obtain ⟨_, h3, h4⟩ := World.cells?_some h1
            obtain ⟨L, s1, s2⟩ := ih e us x hte h2 (hw1 x (List.mem_of_getElem? hx2))
            refine ⟨L, s1, s2.1.trans h3, fun q α hq => ?_⟩
            have hqn : q < z := by have := (List.getElem?_eq_some_iff.1 hq).1; rw [s2.1, h3] at this; exact this
            have h5 := h4 q hqn
            rw [add_plain, add_plain] at h5
            have hu : us[q]? = some us[q] := List.getElem?_eq_getElem (by omega)
            exact ⟨us[q], by rw [← hu, ← h5, Nat.mul_comm z i], s2.2 q α _ hq hu⟩)
          refine ⟨_, .ds l hd (by omega) (Nat.le_trans (Nat.mul_le_mul_right _ (by omega)) hw0) (fun x hx => ?_), ?_⟩
          · obtain ⟨i, hi, rfl⟩ := List.mem_iff_getElem.1 hx
            exact (hl2 i _ (List.getElem?_eq_getElem hi)).1
          · rw [← hl1]
            refine PL.one (.ds l z (some ⟨b, o, none⟩) cap (fun j q => (w.cell? ⟨b, o + z * j + q, none⟩).getD undef) (by omega) (fun j x hx => (hl2 j x hx).2.1) (fun j x q α hx hq => ?_) (fun _ => ⟨b, o, rfl, fun j x q α hx hq => ?_⟩))
            · obtain ⟨u, hu, r⟩ := (hl2 j x hx).2.2 q α hq
              rw [hu]
              exact r
            · obtain ⟨u, hu, r⟩ := (hl2 j x hx).2.2 q α hq
              rw [hu]
              exact cellAt_of hu
      by_cases hst : ∃ fs, d = .struct fs
      · obtain ⟨fs, rfl⟩ := hst
        obtain ⟨xs, m, hm, rfl, hlen', hxs, hf⟩ := DataW.trod_struct hd h
        cases hm
        obtain ⟨k1, k2, k3⟩ := K.struct ht hd
        obtain ⟨parts, p1, p2, p3⟩ := fields_of (w := w) cs fs.toList 0 (fun i L => ∀ f, fs.toList[i]? = some f → Shq P f.type L) (fun j f hf' => by rw [Nat.zero_add]; exact k3 j f hf') (fun i f hf' => by
          have hi : i < fs.size := by have := (List.getElem?_eq_some_iff.1 hf').1; simpa using this
          have hfe : fs[i]? = some f := by simpa using hf'
          have h1 := hf i f hfe
          rw [List.getElem?_eq_getElem (by omega)] at h1
          obtain ⟨L, a, b⟩ := ih f.type _ _ (k1 _ (List.mem_of_getElem? hf')) h1 (fun m hm => hwt m (by
            simp only [DataW.weights, hd]
            exact DataW.weights_mem_each (j := i) (t := f.type) (by rw [List.getElem?_map, hf']; rfl) (by rw [List.getElem?_map, List.getElem?_eq_getElem (by omega)]; rfl) m hm))
          exact ⟨L, a.shp, b, fun g hg => by rw [hf'] at hg; cases hg; exact a⟩)
        refine ⟨_, .st parts hd p1 (fun i f p a b => (p2 i f p a b).2 f a), ?_⟩
        have e : ((cs.drop 0).take ((fs.toList.map fun f => P.cellsOf f.type).sum)) = cs := by rw [← k2, List.drop_zero, ← hlen', List.take_length]
        rw [e] at p3
        exact p3
      · refine ⟨cs.map fun _ => .un, .un _ fun d' hd' => ?_, ⟨by simp, fun j α v h1 h2 => ?_⟩⟩
        · rw [hd] at hd'
          cases hd'
          cases d <;> simp_all
        · simp at h1
          obtain ⟨_, _, rfl⟩ := h1
          exact .un _

/-- What an argument of a type reads as. -/
def AQ (P : Program) (t : TypeId) (α : AV) : Prop := (∃ fs L, P.underlying t = some (.struct fs) ∧ α = .ag L ∧ Shq P t L) ∨ ((∀ fs, P.underlying t ≠ some (.struct fs)) ∧ Shq P t [α])
def AQs (P : Program) : List TypeId → List AV → Prop
  | [], [] => True
  | t :: ts, α :: αs => AQ P t α ∧ AQs P ts αs
  | _, _ => False
theorem argq_of (K : Kids P T) (hsz : ∀ {t e : TypeId}, T t → P.underlying t = some (.slice e) → 0 < P.cellsOf e) {t : TypeId} {v : Value} {d : DataW H} {p : List MemPlace} (ht : T t) {base : Nat} (hv : Value.okWide P w .any base t v) (h : DataW.Trod enc P w 0 (fun _ => true) held t v d p) (hwt : ∀ m ∈ d.weights P t, m ≤ reachBytes) : ∃ α, AQ P t α ∧ PRel (hOf w) α v := by
  obtain ⟨n, hn⟩ := h
  obtain ⟨L, s1, s2⟩ := shapeq_of K hsz n t _ _ ht hn hwt
  by_cases hst : ∃ fs, P.underlying t = some (.struct fs)
  · obtain ⟨fs, hfs⟩ := hst
    obtain ⟨cs, rfl, _⟩ := WideShapes.okWide_struct hfs hv
    refine ⟨.ag L, .inl ⟨fs, L, hfs, rfl, s1⟩, ?_⟩
    have : PRel (hOf w) (.ag L) (.agg cs.toList.toArray) := .ag L cs.toList (by simpa [Value.cells] using s2.1) (fun j α v h1 h2 => s2.2 j α v h1 (by simpa [Value.cells] using h2))
    simpa using this
  · have hst' : ∀ fs, P.underlying t ≠ some (.struct fs) := fun fs e => hst ⟨fs, e⟩
    have hone : v.cells = #[v] → ∃ α, AQ P t α ∧ PRel (hOf w) α v := by
      intro hc
      rw [hc] at s2
      obtain ⟨α, rfl⟩ : ∃ α, L = [α] := by
        have := s2.1
        cases L with
        | nil => simp at this
        | cons a r => cases r with
          | nil => exact ⟨a, rfl⟩
          | cons => simp at this
      exact ⟨α, .inr ⟨hst', s1⟩, s2.2 0 _ _ rfl rfl⟩
    have hun : (∀ d, P.underlying t = some d → match d with | .bool | .int _ | .string | .slice _ | .struct _ => False | _ => True) → ∃ α, AQ P t α ∧ PRel (hOf w) α v := fun h => ⟨.un, .inr ⟨hst', .un _ h⟩, .un _⟩
    cases hd : P.underlying t with
    | none => exact hun (fun d h => by rw [hd] at h; cases h)
    | some d =>
      cases d with
      | bool => obtain ⟨b, rfl⟩ := WideShapes.okWide_bool hd hv; exact hone rfl
      | int k => obtain ⟨b, rfl⟩ := WideShapes.okWide_int hd hv; exact hone rfl
      | string => obtain ⟨b, rfl⟩ := WideShapes.okWide_string hd hv; exact hone rfl
      | slice e => obtain ⟨a, b, c, rfl⟩ := WideShapes.okWide_slice hd hv; exact hone rfl
      | struct fs => exact absurd hd (hst' fs)
      | _ => exact hun (fun d h => by rw [hd] at h; cases h; trivial)
theorem law_sized (K : Kids P T) (hsz : ∀ {t e : TypeId}, T t → P.underlying t = some (.slice e) → 0 < P.cellsOf e) {f : FuncId} {fn : Func} {s : ChangeSpec} {tb : TypeId} (hT : ∀ t ∈ fn.params.toList, T t) (hvs : s.vars = [])
    (hs : ∀ (ds : List (DataW H)), ds.length = fn.params.toList.length → (s.fn H ds).results = [.lit (.bool true)] ∧ (s.fn H ds).args = ds ∧ (s.fn H ds).vars = []) (hres : fn.resultTypes = #[tb]) (htb : P.underlying tb = some .bool)
    {base : Nat} {args : Array Value} {ds gs : List (DataW H)} {before : List MemPlace} (m : ∀ αs, AQs P fn.params.toList αs → MeetsF P f [] 0 αs (.b true))
    (hval : ∀ (j : Nat) t v, fn.params[j]? = some t → args[j]? = some v → Value.okWide P w .any base t v) (hW : DataW.Whole enc P fn.params.toList s.vars false w args.toList ds gs before)
    {vt : List TypeId} (hwt : (DataW.weightsEach P (fn.params.toList ++ vt) (ds ++ gs)).all (· ≤ reachBytes) = true)
    (hgl : ∀ b vs, (b, vs) ∈ glTab → ∃ t fr, w.heap[b]? = some (.cells vs t fr) := by intro b vs h; cases h) :
    Calls P f args w fun e W' => ∃ v, e = .returned v ∧ s.post enc P fn false true false false w args v W' := by
  have hW' := hW
  obtain ⟨p, q, hA, hV, rfl, _, _⟩ := hW
  rw [hvs] at hV
  obtain ⟨rfl, rfl⟩ := ChangeShapes.trodVars_none hV
  have hwt : ∀ m ∈ DataW.weightsEach P fn.params.toList ds, m ≤ reachBytes := fun m hm => by
    have := List.all_eq_true.1 hwt m (weightsEach_app vt [] hm)
    simpa using this
  have key : ∀ (ts : List TypeId) (vs : List Value) (ds : List (DataW H)) (p : List MemPlace), (∀ t ∈ ts, T t) → (∀ (j : Nat) t v, ts[j]? = some t → vs[j]? = some v → Value.okWide P w .any base t v) → DataW.TrodAll enc P w 0 (fun _ => true) true ts vs ds p → (∀ m ∈ DataW.weightsEach P ts ds, m ≤ reachBytes) →
      (∃ αs, AQs P ts αs ∧ RelL (hOf w) (fun _ _ => none) αs vs) ∧ ds.length = ts.length ∧ ∀ W' sp, Below w.heap.size w W' → (∀ x ∈ p, sp x.block = true) → DataW.TrodAll enc P W' 0 sp true ts vs ds p := by
    intro ts
    induction ts with
    | nil =>
      intro vs ds p _ _ h _
      obtain ⟨rfl, rfl, rfl⟩ := ChangeShapes.trodAll_nil h
      exact ⟨⟨[], trivial, RelL.nil⟩, rfl, fun _ _ _ _ => rfl⟩
    | cons t ts ih =>
      intro vs ds p hT hv h hwt
      obtain ⟨v, vs', d, ds', p1, p2, rfl, rfl, rfl, h1, h2⟩ := ChangeShapes.trodAll_cons h
      obtain ⟨⟨αs, a1, a2⟩, a3, a4⟩ := ih vs' ds' p2 (fun t ht => hT t (by simp [ht])) (fun j t v x y => hv (j + 1) t v (by simpa using x) (by simpa using y)) h2 (fun m hm => hwt m (by rw [DataW.weightsEach, List.mem_append]; exact .inr hm))
      obtain ⟨α, b1, b2⟩ := argq_of K hsz (hT t (by simp)) (hv 0 t v rfl rfl) h1 (fun m hm => hwt m (by rw [DataW.weightsEach, List.mem_append]; exact .inl hm))
      refine ⟨⟨α :: αs, ⟨b1, a1⟩, RelL.cons (.pu _ _ b2) a2⟩, by simp [a3], fun W' sp hb hp => ?_⟩
      obtain ⟨n, hn⟩ := h1
      have hlt := DataW.trod_lt n t _ _ hn
      exact ⟨p1, p2, ⟨n, DataW.trod_stays K hsz (fun h => by cases h) (hT t (by simp)) hn (fun x hx => hb.same (hlt x hx)) (fun x hx => hp x (by simp [hx]))⟩, a4 W' sp hb (fun x hx => hp x (by simp [hx])), rfl⟩
  have hvl : ∀ (j : Nat) t v, fn.params.toList[j]? = some t → args.toList[j]? = some v → Value.okWide P w .any base t v := fun j t v x y => hval j t v (by simpa using x) (by simpa using y)
  obtain ⟨⟨αs, h1, h2⟩, h3, h4⟩ := key _ _ _ _ hT hvl hA hwt
  have hsat : SatH (hOf w) (fun _ _ => none) [] 0 w := ⟨fun b o e => e, fun k => trivial, fun k k' g g' b c c' e => (by cases e), fun b ⟨k, g, c, e, _⟩ => (by cases e), fun b ⟨k, g, c, e, _⟩ => (by cases e), fun _ _ _ => rfl, fun k g g' x e _ => (by cases e), hgl⟩
  have hc := (m αs h1).2 _ _ w args.toList hsat h2
  have e : args.toList.toArray = args := by simp
  rw [e] at hc
  refine hc.mono fun e W' ⟨v, he, h', _, _, hr, hk⟩ => ?_
  cases hr
  have hb : Below w.heap.size w W' := (Keeps.below ⟨hk.os, hk.tape, hk.output, hk.size, fun b hb _ => hk.block b hb (fun ⟨k, g, c, e, _⟩ => by cases e)⟩)
  have hs1 := hs (ds ++ []) (by simpa using h3)
  refine ⟨_, he, ds, [], p ++ [], [], p, [], hW', ?_, ?_, ?_, World.keptBut_mono (fun _ h => h.elim) (hb.frame (fun _ => False)), fun h => (by cases h)⟩
  · rw [hres, hs1.1]
    exact ⟨[], [], RowKit.shut_bool htb true, rfl, rfl⟩
  · rw [hs1.2.1, List.append_nil]
    have hlt := DataW.TrodAll.lt hA
    exact h4 W' _ hb (fun x hx => by simpa using hlt x hx)
  · rw [hs1.2.2, hvs]
    rfl
end
section
variable {P : Program} {t e : TypeId} {L : List AV} {α : AV}
theorem AQ.as (h : AQ P t α) : AS P t α := by
  rcases h with ⟨fs, L, h1, h2, h3⟩ | ⟨h1, h2⟩
  · exact .inl ⟨fs, L, h1, h2, h3.shp⟩
  · exact .inr ⟨h1, h2.shp⟩
theorem shq_string (hd : P.underlying t = some .string) (h : Shq P t L) : ∃ s : ByteArray, L = [.s s] ∧ s.size ≤ reachBytes := by
  cases h with
  | b x hd' => rw [hd] at hd'; cases hd'
  | i _ n hd' hw => rw [hd] at hd'; cases hd'
  | s s hd' hs => exact ⟨s, rfl, hs⟩
  | ds _ hd' => rw [hd] at hd'; cases hd'
  | st _ hd' => rw [hd] at hd'; cases hd'
  | un _ h => exact (h _ hd).elim
theorem shq_slice (hd : P.underlying t = some (.slice e)) (h : Shq P t L) : ∃ l : List (List AV), L = [.ds l] ∧ l.length * P.bytesOf e ≤ reachBytes ∧ ∀ x ∈ l, Shq P e x := by
  cases h with
  | b x hd' => rw [hd] at hd'; cases hd'
  | i _ n hd' hw => rw [hd] at hd'; cases hd'
  | s _ hd' => rw [hd] at hd'; cases hd'
  | ds l hd' _ hl hx => rw [hd] at hd'; cases hd'; exact ⟨l, rfl, hl, hx⟩
  | st _ hd' => rw [hd] at hd'; cases hd'
  | un _ h => exact (h _ hd).elim
theorem shq_struct {fs : Array Field} (hd : P.underlying t = some (.struct fs)) (h : Shq P t L) : ∃ parts : List (List AV), L = parts.flatten ∧ parts.length = fs.toList.length ∧ ∀ (i : Nat) f p, fs.toList[i]? = some f → parts[i]? = some p → Shq P f.type p := by
  cases h with
  | b x hd' => rw [hd] at hd'; cases hd'
  | i _ n hd' hw => rw [hd] at hd'; cases hd'
  | s _ hd' => rw [hd] at hd'; cases hd'
  | ds _ hd' => rw [hd] at hd'; cases hd'
  | st parts hd' hl hx => rw [hd] at hd'; cases hd'; exact ⟨parts, rfl, hl, hx⟩
  | un _ h => exact (h _ hd).elim
theorem aq_string (hd : P.underlying t = some .string) (h : AQ P t α) : ∃ s : ByteArray, α = .s s ∧ s.size ≤ reachBytes := by
  rcases h with ⟨fs, L, hs, _⟩ | ⟨_, h⟩
  · rw [hd] at hs; cases hs
  · obtain ⟨n, e, hw⟩ := shq_string hd h
    cases e
    exact ⟨n, rfl, hw⟩
theorem aq_slice (hd : P.underlying t = some (.slice e)) (h : AQ P t α) : ∃ l : List (List AV), α = .ds l ∧ l.length * P.bytesOf e ≤ reachBytes ∧ ∀ x ∈ l, Shq P e x := by
  rcases h with ⟨fs, L, hs, _⟩ | ⟨_, h⟩
  · rw [hd] at hs; cases hs
  · obtain ⟨l, e, hl, hx⟩ := shq_slice hd h
    cases e
    exact ⟨l, rfl, hl, hx⟩
theorem aq_struct {fs : Array Field} (hd : P.underlying t = some (.struct fs)) (h : AQ P t α) : ∃ L, α = .ag L ∧ Shq P t L := by
  rcases h with ⟨fs, L, _, e, h⟩ | ⟨h, _⟩
  · exact ⟨L, e, h⟩
  · exact absurd hd (h fs)
theorem aq_n1 {P : Program} {t1 : TypeId} {αs : List AV} (h : AQs P [t1] αs) : ∃ α1, αs = [α1] ∧ AQ P t1 α1 := by
  match αs, h with
  | [α1], h => exact ⟨α1, rfl, h.1⟩
  | [], h => exact (h : False).elim
  | α1 :: x :: l, h => exact (h.2 : False).elim
theorem aq_n2 {P : Program} {t1 t2 : TypeId} {αs : List AV} (h : AQs P [t1, t2] αs) : ∃ α1 α2, αs = [α1, α2] ∧ AQ P t1 α1 ∧ AQ P t2 α2 := by
  match αs, h with
  | [α1, α2], h => exact ⟨α1, α2, rfl, h.1, h.2.1⟩
  | [], h => exact (h : False).elim
  | [α1], h => exact (h.2 : False).elim
  | α1 :: α2 :: x :: l, h => exact (h.2.2 : False).elim
theorem aq_n3 {P : Program} {t1 t2 t3 : TypeId} {αs : List AV} (h : AQs P [t1, t2, t3] αs) : ∃ α1 α2 α3, αs = [α1, α2, α3] ∧ AQ P t1 α1 ∧ AQ P t2 α2 ∧ AQ P t3 α3 := by
  match αs, h with
  | [α1, α2, α3], h => exact ⟨α1, α2, α3, rfl, h.1, h.2.1, h.2.2.1⟩
  | [], h => exact (h : False).elim
  | [α1], h => exact (h.2 : False).elim
  | [α1, α2], h => exact (h.2.2 : False).elim
  | α1 :: α2 :: α3 :: x :: l, h => exact (h.2.2.2 : False).elim
theorem aq_n4 {P : Program} {t1 t2 t3 t4 : TypeId} {αs : List AV} (h : AQs P [t1, t2, t3, t4] αs) : ∃ α1 α2 α3 α4, αs = [α1, α2, α3, α4] ∧ AQ P t1 α1 ∧ AQ P t2 α2 ∧ AQ P t3 α3 ∧ AQ P t4 α4 := by
  match αs, h with
  | [α1, α2, α3, α4], h => exact ⟨α1, α2, α3, α4, rfl, h.1, h.2.1, h.2.2.1, h.2.2.2.1⟩
  | [], h => exact (h : False).elim
  | [α1], h => exact (h.2 : False).elim
  | [α1, α2], h => exact (h.2.2 : False).elim
  | [α1, α2, α3], h => exact (h.2.2.2 : False).elim
  | α1 :: α2 :: α3 :: α4 :: x :: l, h => exact (h.2.2.2.2 : False).elim
theorem aq_n5 {P : Program} {t1 t2 t3 t4 t5 : TypeId} {αs : List AV} (h : AQs P [t1, t2, t3, t4, t5] αs) : ∃ α1 α2 α3 α4 α5, αs = [α1, α2, α3, α4, α5] ∧ AQ P t1 α1 ∧ AQ P t2 α2 ∧ AQ P t3 α3 ∧ AQ P t4 α4 ∧ AQ P t5 α5 := by
  match αs, h with
  | [α1, α2, α3, α4, α5], h => exact ⟨α1, α2, α3, α4, α5, rfl, h.1, h.2.1, h.2.2.1, h.2.2.2.1, h.2.2.2.2.1⟩
  | [], h => exact (h : False).elim
  | [α1], h => exact (h.2 : False).elim
  | [α1, α2], h => exact (h.2.2 : False).elim
  | [α1, α2, α3], h => exact (h.2.2.2 : False).elim
  | [α1, α2, α3, α4], h => exact (h.2.2.2.2 : False).elim
  | α1 :: α2 :: α3 :: α4 :: α5 :: x :: l, h => exact (h.2.2.2.2.2 : False).elim
theorem aq_n6 {P : Program} {t1 t2 t3 t4 t5 t6 : TypeId} {αs : List AV} (h : AQs P [t1, t2, t3, t4, t5, t6] αs) : ∃ α1 α2 α3 α4 α5 α6, αs = [α1, α2, α3, α4, α5, α6] ∧ AQ P t1 α1 ∧ AQ P t2 α2 ∧ AQ P t3 α3 ∧ AQ P t4 α4 ∧ AQ P t5 α5 ∧ AQ P t6 α6 := by
  match αs, h with
  | [α1, α2, α3, α4, α5, α6], h => exact ⟨α1, α2, α3, α4, α5, α6, rfl, h.1, h.2.1, h.2.2.1, h.2.2.2.1, h.2.2.2.2.1, h.2.2.2.2.2.1⟩
  | [], h => exact (h : False).elim
  | [α1], h => exact (h.2 : False).elim
  | [α1, α2], h => exact (h.2.2 : False).elim
  | [α1, α2, α3], h => exact (h.2.2.2 : False).elim
  | [α1, α2, α3, α4], h => exact (h.2.2.2.2 : False).elim
  | [α1, α2, α3, α4, α5], h => exact (h.2.2.2.2.2 : False).elim
  | α1 :: α2 :: α3 :: α4 :: α5 :: α6 :: x :: l, h => exact (h.2.2.2.2.2.2 : False).elim
end
end Go.Eng
open Nat renaming reduceEqDiff→Za,reduceBEq→Zb,reduceAdd→Zc,reduceLeDiff→Zd,reduceLT→Ze,reduceMul→Zf,reduceSub→Zg
open Int renaming reduceEq→Zh,reduceLT→Zi,reduceLE→Zj,reduceToNat→Zk
open List renaming drop_length→zll,mem_map_of_mem→zls,flatten_cons→zlt
open Nat renaming le_refl→zna
namespace Go.Proofs.YtinbodeocoeneaaGreatDoor
open Go.Eng
open Go.ChangeShapes Go.WideShapes Go.ChangeAt Go.RowKit
set_option linter.all false
theorem tab_third {P:Program} {W:World} {x y:String × DataW Unit} {name:String} {k:IntKind} {zs:List Int} {g:Nat} {t e:TypeId} {n:Nat}
  (hg:P.globalNamed name=some g) (hty:(P.globals[g]?).map (·.type)=some t) (ht:P.underlying t=some (.array n e)) (he:P.underlying e=some (.int k)) (hce:P.cellsOf e=1) (hct:P.cellsOf t=n)
  (h:laidMet P [x,y,(name,Lib.tabData k zs)] W):∃t fr,W.heap[g]?=some (.cells (zs.map fun z=>Value.int k z).toArray t fr):=by
 obtain ⟨ps,⟨g1,t1,c1,f1,p1,q1,a1,a2,a3,a4,⟨g2,t2,c2,f2,p2,q2,b1,b2,b3,b4,hz,e2⟩,e1⟩,hnd,hrows⟩:=h
 have hs:q2.Sublist ps:=by
  rw [e1,e2]
  exact (List.sublist_append_right _ _).trans (List.sublist_append_right _ _)
 have ht':Lib.TabIs P W name k zs:=Lib.tabIs_of_head (rest:=[]) hg hty ht he hce hct ⟨q2,hz,hnd.sublist hs,fun b off hp=>hrows b off (hs.subset hp)⟩
 unfold Lib.TabIs World.var? at ht'
 rw [hg] at ht'
 simp only [Option.bind_some] at ht'
 split at ht'
 .rename_i cs t fr hh
  cases ht'
  exact ⟨t,fr,hh⟩
 .cases ht'
theorem pow10_laid {w:World} (h:laidMetH Tryz.prog Rows.streamSourceUptoRow.laid w):∀b vs,(b,vs)∈glTab→∃t fr,w.heap[b]?=some (.cells vs t fr):=by
 intro b vs hb
 simp only [glTab,List.mem_singleton,Prod.mk.injEq] at hb
 obtain ⟨rfl,rfl⟩:=hb
 exact tab_third (t:=238) (e:=231) (n:=20) (by kernel_rfl) (by kernel_rfl) (by kernel_rfl) (by kernel_rfl) (by kernel_rfl) (by kernel_rfl) h
noncomputable def valsOf:DataW Unit→Array Value
 | .agg l=>(l.map fun x=>match x with | .lit (.int k z)=>Value.int k z | _=>Value.int .i64 0).toArray
 | _=>#[]
def setTab (vs:Array Value):Obj→Obj
 | .cells _ t fr=>.cells vs t fr
 | o=>o
noncomputable def laidWorld (os:Os):World :=
 { World.holding Tryz.prog os ⟨#[],#[],[]⟩ with heap:=(((World.holding Tryz.prog os ⟨#[],#[],[]⟩).heap.modify 1 (setTab (valsOf Rows.laid_internal_strconv_uint64pow10))).modify 2 (setTab (valsOf Rows.laid_math_bits_deBruijn32tab))).modify 3 (setTab (valsOf Rows.laid_math_bits_deBruijn64tab)) }
abbrev case0:Value:=.agg #[.slice none 0 0,.slice none 0 0,.slice none 0 0,.slice none 0 0,.slice none 0 0,.slice none 0 0,.int .i64 0,.slice none 0 0]
abbrev val0:Value:=.agg #[.int .i64 0,.int .i64 0,.string ⟨#[]⟩,.slice none 0 0,.slice none 0 0]
abbrev vals0:Value:=.slice none 0 0
set_option maxRecDepth 100000 in
theorem laid_met (os:Os) (vs:Array Value):laidMet Tryz.prog Rows.streamSourceUptoRow.laid ((laidWorld os).forCall (fun _ _=>0) ⟨#[],vs,[]⟩).memory :=
 laidMet_of_run' 8 (by kernel_rfl) (by kernel_rfl)
theorem mapC_ofQ {β:Type} {c:β→List AV} {Q:β→Prop}:∀{l:List (List AV)},(∀x∈l,∃y,x=c y∧Q y)→∃m:List β,l=mapC c m∧∀y∈m,Q y
 | [],_=>⟨[],rfl,by simp⟩
 | x::l,h=>by
  obtain ⟨y,rfl,hy⟩:=h x (by simp)
  obtain ⟨m,e,hl⟩:=mapC_ofQ (c:=c) (Q:=Q) (l:=l) fun z hz=>h z (by simp [hz])
  refine ⟨y::m,by rw [mapC_cons,←e],fun z hz=>?_⟩
  rcases List.mem_cons.1 hz with rfl | hz
  .exact hy
  .exact hl z hz
theorem wf64 {n:Int} (h:(Lit.int .i64 n).wf=true):-9223372036854775808≤n∧n≤9223372036854775807:=by
 simp only [Lit.wf,Bool.and_eq_true,decide_eq_true_eq] at h
 exact h
theorem val_rng (v:Val):Shp Tryz.prog 42 (valC v)→v.Rng:=by
 refine Val.ind (Q:=fun v=>Shp Tryz.prog 42 (valC v)→v.Rng) (fun v ih h=>?_) v
 rw [valC_eq] at h
 obtain ⟨parts,e0,hl,hp⟩:=shp_struct Tryz.underlying42 h
 obtain ⟨a,b,c,d,e,rfl⟩:=ds_n5 (show parts.length=5 from hl)
 obtain ⟨a,rfl,_⟩:=shp_int Tryz.underlying3 (hp 0 _ a rfl rfl)
 obtain ⟨b,rfl,hb⟩:=shp_int Tryz.underlying3 (hp 1 _ b rfl rfl)
 obtain ⟨c,rfl,_⟩:=shp_string Tryz.underlying9 (hp 2 _ c rfl rfl)
 obtain ⟨l,rfl,_,hx⟩:=shp_slice Tryz.underlying40 (hp 3 _ d rfl rfl)
 obtain ⟨k,rfl,_,hy⟩:=shp_slice Tryz.underlying22 (hp 4 _ e rfl rfl)
 simp only [zlt,List.flatten_nil,List.cons_append,List.nil_append,List.cons.injEq,AV.i.injEq,AV.ds.injEq,true_and,and_true] at e0
 obtain ⟨_,e1,_,e2,_⟩:=e0
 have:=wf64 hb
 refine .mk v (by omega) (by omega) fun x hx'=>ih x hx' (hx _ ?_)
 rw [←e2]
 exact zls (f:=valC) hx'
theorem bV:Tryz.prog.bytesOf 42=80:=by kernel_rfl
theorem bS:Tryz.prog.bytesOf 9=16:=by kernel_rfl
theorem bC:Tryz.prog.bytesOf 89=112:=by kernel_rfl
theorem bI:Tryz.prog.bytesOf 92=40:=by kernel_rfl
theorem bW:Tryz.prog.bytesOf 129=152:=by kernel_rfl
theorem bA:Tryz.prog.bytesOf 136=96:=by kernel_rfl
theorem bK:Tryz.prog.bytesOf 49=160:=by kernel_rfl
theorem bN:Tryz.prog.bytesOf 3=8:=by kernel_rfl
theorem bF:Tryz.prog.bytesOf 105=104:=by kernel_rfl
theorem bG:Tryz.prog.bytesOf 109=144:=by kernel_rfl
theorem bR:reachBytes=140737488351232:=rfl
theorem val_reach (v:Val):Shq Tryz.prog 42 (valC v)→v.Fit:=by
 refine Val.ind (Q:=fun v=>Shq Tryz.prog 42 (valC v)→v.Fit) (fun v ih h=>?_) v
 rw [valC_eq] at h
 obtain ⟨parts,e0,hl,hp⟩:=shq_struct Tryz.underlying42 h
 obtain ⟨a,b,c,d,e,rfl⟩:=ds_n5 (show parts.length=5 from hl)
 obtain ⟨a,rfl,_⟩:=shp_int Tryz.underlying3 (hp 0 _ a rfl rfl).shp
 obtain ⟨b,rfl,_⟩:=shp_int Tryz.underlying3 (hp 1 _ b rfl rfl).shp
 obtain ⟨c,rfl,_⟩:=shp_string Tryz.underlying9 (hp 2 _ c rfl rfl).shp
 obtain ⟨l,rfl,hl1,hx⟩:=shq_slice Tryz.underlying40 (hp 3 _ d rfl rfl)
 obtain ⟨k,rfl,hk1,_⟩:=shq_slice Tryz.underlying22 (hp 4 _ e rfl rfl)
 simp only [List.flatten_cons,List.flatten_nil,List.cons_append,List.nil_append,List.cons.injEq,AV.ds.injEq,and_true] at e0
 obtain ⟨_,_,_,e2,e3⟩:=e0
 rw [bV,bR,←e2] at hl1
 rw [bS,bR,←e3] at hk1
 simp only [mapC,stC,List.length_map] at hl1 hk1
 refine .mk v (by omega) (by omega) fun x hx'=>ih x hx' (hx _ ?_)
 rw [←e2]
 exact List.mem_map_of_mem (f:=valC) hx'
theorem avL_app:∀a b:List AV,avL (a++b)=avL a+avL b
 | [],b=>by simp [avL]
 | x::a,b=>by rw [List.cons_append,avL,avL,avL_app a b];omega
theorem shq_valQ {L:List AV} (h:Shq Tryz.prog 42 L):∃v:Val,L=valC v∧v.Fit:=by
 obtain ⟨v,rfl⟩:=shp_val h.shp
 exact ⟨v,rfl,val_reach v h⟩
theorem shq_celQ {L:List AV} (h:Shq Tryz.prog 89 L):∃x:Cel,L=celC x∧x.v.Fit:=by
 obtain ⟨parts,rfl,hl,hp⟩:=shq_struct Tryz.underlying89 h
 obtain ⟨a,b,c,rfl⟩:=ds_n3 (show parts.length=3 from hl)
 obtain ⟨a,rfl,_⟩:=shp_string Tryz.underlying9 (hp 0 _ a rfl rfl).shp
 obtain ⟨b,rfl,_⟩:=shp_string Tryz.underlying9 (hp 1 _ b rfl rfl).shp
 obtain ⟨v,rfl,hv⟩:=shq_valQ (hp 2 _ c rfl rfl)
 refine ⟨.mk a b v,?_,hv⟩
 rw [valC_eq]
 rfl
theorem shq_itmQ {L:List AV} (h:Shq Tryz.prog 92 L):∃x:Itm,L=itC x∧(x.l.length≤1256584717421∧∀c∈x.l,c.v.Fit):=by
 obtain ⟨parts,rfl,hl,hp⟩:=shq_struct Tryz.underlying92 h
 obtain ⟨a,b,rfl⟩:=ds_n2 (show parts.length=2 from hl)
 obtain ⟨a,rfl,_⟩:=shp_string Tryz.underlying9 (hp 0 _ a rfl rfl).shp
 obtain ⟨l,rfl,h1,hx⟩:=shq_slice Tryz.underlying90 (hp 1 _ b rfl rfl)
 obtain ⟨cs,rfl,hq⟩:=mapC_ofQ (c:=celC) (Q:=fun c=>c.v.Fit) fun x h=>shq_celQ (hx x h)
 rw [bC,bR,mapC_len] at h1
 exact ⟨.mk a cs,rfl,by simp only [Itm.l_mk];omega,hq⟩
theorem shq_wriQ {L:List AV} (h:Shq Tryz.prog 129 L):∃x:Wri,L=wrC x∧x.c.v.Fit:=by
 obtain ⟨parts,rfl,hl,hp⟩:=shq_struct Tryz.underlying129 h
 obtain ⟨a,b,c,d,rfl⟩:=ds_n4 (show parts.length=4 from hl)
 obtain ⟨a,rfl,_⟩:=shp_string Tryz.underlying9 (hp 0 _ a rfl rfl).shp
 obtain ⟨b,rfl,_⟩:=shp_string Tryz.underlying9 (hp 1 _ b rfl rfl).shp
 obtain ⟨c,rfl,_⟩:=shp_int Tryz.underlying3 (hp 2 _ c rfl rfl).shp
 obtain ⟨x,rfl,hx⟩:=shq_celQ (hp 3 _ d rfl rfl)
 exact ⟨.mk a b c x,rfl,hx⟩
theorem shq_datQ {L:List AV} (h:Shq Tryz.prog 33 L):∃d:Dat,L=[.ds (mapC itC d.i),.ds (mapC wrC d.w)]∧d.Fit:=by
 obtain ⟨parts,rfl,hl,hp⟩:=shq_struct Tryz.underlying33 h
 obtain ⟨a,b,rfl⟩:=ds_n2 (show parts.length=2 from hl)
 obtain ⟨l,rfl,h1,hx⟩:=shq_slice Tryz.underlying30 (hp 0 _ a rfl rfl)
 obtain ⟨l2,rfl,h2,hy⟩:=shq_slice Tryz.underlying31 (hp 1 _ b rfl rfl)
 obtain ⟨is,rfl,hi⟩:=mapC_ofQ (c:=itC) (Q:=fun x=>x.l.length≤1256584717421∧∀c∈x.l,c.v.Fit) fun x h=>shq_itmQ (hx x h)
 obtain ⟨ws,rfl,hw⟩:=mapC_ofQ (c:=wrC) (Q:=fun x=>x.c.v.Fit) fun x h=>shq_wriQ (hy x h)
 rw [bI,bR,mapC_len] at h1
 rw [bW,bR,mapC_len] at h2
 exact ⟨.mk is ws,rfl,.mk _ (by simp only [Dat.i_mk];omega) (by simp only [Dat.w_mk];omega) hi hw⟩
theorem shq_argQ {L:List AV} (h:Shq Tryz.prog 136 L):∃x:Arg,L=argC x∧x.v.Fit:=by
 obtain ⟨parts,rfl,hl,hp⟩:=shq_struct Tryz.underlying136 h
 obtain ⟨a,b,rfl⟩:=ds_n2 (show parts.length=2 from hl)
 obtain ⟨a,rfl,_⟩:=shp_string Tryz.underlying9 (hp 0 _ a rfl rfl).shp
 obtain ⟨v,rfl,hv⟩:=shq_valQ (hp 1 _ b rfl rfl)
 refine ⟨.mk a v,?_,hv⟩
 rw [valC_eq]
 rfl
theorem shq_pkQ {L:List AV} (h:Shq Tryz.prog 49 L):∃x:Pk,L=pkC x∧x.Fit:=by
 suffices key:∀(n:Nat) (L:List AV),avL L≤n→Shq Tryz.prog 49 L→∃x:Pk,L=pkC x∧x.Fit from key _ L (Nat.le_refl _) h
 intro n
 induction n with
 | zero =>
  intro L hn h
  obtain ⟨parts,rfl,hl,hp⟩:=shq_struct Tryz.underlying49 h
  match parts,hl,hp,hn with
  | a::r,_,hp,hn =>
   obtain ⟨a,rfl,_⟩:=shp_string Tryz.underlying9 (hp 0 _ a rfl rfl).shp
   simp [avL,avw] at hn
 | succ n ih =>
  intro L hn h
  obtain ⟨parts,rfl,hl,hp⟩:=shq_struct Tryz.underlying49 h
  match parts,hl,hp,hn with
  | [a,b,c,d,e,f,g,i],_,hp,hn =>
   obtain ⟨a,rfl,_⟩:=shp_string Tryz.underlying9 (hp 0 _ a rfl rfl).shp
   obtain ⟨b,rfl,_⟩:=shp_string Tryz.underlying9 (hp 1 _ b rfl rfl).shp
   obtain ⟨c,rfl,_⟩:=shp_string Tryz.underlying9 (hp 2 _ c rfl rfl).shp
   obtain ⟨l,rfl,n1,hx⟩:=shq_slice Tryz.underlying44 (hp 3 _ d rfl rfl)
   obtain ⟨ts,rfl,hl2,hp2⟩:=shq_struct Tryz.underlying47 (hp 4 _ e rfl rfl)
   obtain ⟨t,u,rfl⟩:=ds_n2 (show ts.length=2 from hl2)
   obtain ⟨t,rfl,_⟩:=shp_string Tryz.underlying9 (hp2 0 _ t rfl rfl).shp
   obtain ⟨w,rfl,n2,hy⟩:=shq_slice Tryz.underlying45 (hp2 1 _ u rfl rfl)
   obtain ⟨ws,rfl,_⟩:=mapC_of (c:=in1) fun x h=>by
    obtain ⟨n,rfl,_⟩:=shp_int Tryz.underlying3 (hy x h).shp
    exact ⟨n,rfl⟩
   obtain ⟨f,rfl,_⟩:=shp_string Tryz.underlying9 (hp 5 _ f rfl rfl).shp
   obtain ⟨g,rfl,_⟩:=shp_int Tryz.underlying3 (hp 6 _ g rfl rfl).shp
   obtain ⟨p,rfl,n3,hz⟩:=shq_slice Tryz.underlying34 (hp 7 _ i rfl rfl)
   simp only [List.flatten_cons,List.flatten_nil,avL_app,avL,avw] at hn
   obtain ⟨al,rfl,ha⟩:=mapC_ofQ (c:=argC) (Q:=fun a=>a.v.Fit) fun x h=>shq_argQ (hx x h)
   obtain ⟨ps,rfl,hps⟩:=mapC_ofQ (c:=pkC) (Q:=fun p=>p.Fit) fun x h=>ih x (by have:=avLL_mem h;omega) (hz x h)
   rw [bA,bR,mapC_len] at n1
   rw [bN,bR,mapC_len] at n2
   rw [bK,bR,mapC_len] at n3
   exact ⟨.mk a b c al t ws f g ps,by rw [pkC_eq];rfl,.mk _ (by simp only [Pk.args];omega) (by simp only [Pk.tw];omega) (by simp only [Pk.picks];omega) ha hps⟩
theorem shp_strs {l:List (List AV)} (h:∀x∈l,Shp Tryz.prog 9 x):∃m,l=stC m:=by
 obtain ⟨ks,rfl,_⟩:=mapC_of (c:=st1) (l:=l) fun x hx=>by
  obtain ⟨s,rfl,_⟩:=shp_string Tryz.underlying9 (h x hx)
  exact ⟨s,rfl⟩
 exact ⟨ks,rfl⟩
theorem shq_strs {l:List (List AV)} (h:∀x∈l,Shq Tryz.prog 9 x) (hb:l.length*16≤140737488351232):∃m,l=stC m∧m.length≤8796093021952:=by
 obtain ⟨m,rfl⟩:=shp_strs fun x hx=>(h x hx).shp
 simp only [stC,mapC_len] at hb
 exact ⟨m,rfl,by omega⟩
theorem shq_jnQ {L:List AV} (h:Shq Tryz.prog 96 L):∃x:Jn,L=jnC x∧(x.req.length≤8796093021952∧x.prov.length≤8796093021952):=by
 obtain ⟨parts,rfl,hl,hp⟩:=shq_struct Tryz.underlying96 h
 match parts,hl,hp with
 | [a,b,c,d,e,f],_,hp =>
  obtain ⟨a,rfl,_⟩:=shp_string Tryz.underlying9 (hp 0 _ a rfl rfl).shp
  obtain ⟨b,rfl,_⟩:=shp_string Tryz.underlying9 (hp 1 _ b rfl rfl).shp
  obtain ⟨c,rfl,_⟩:=shp_int Tryz.underlying3 (hp 2 _ c rfl rfl).shp
  obtain ⟨d,rfl⟩:=shp_bool Tryz.underlying4 (hp 3 _ d rfl rfl).shp
  obtain ⟨l,rfl,n1,hx⟩:=shq_slice Tryz.underlying22 (hp 4 _ e rfl rfl)
  obtain ⟨l2,rfl,n2,hy⟩:=shq_slice Tryz.underlying22 (hp 5 _ f rfl rfl)
  rw [bS,bR] at n1 n2
  obtain ⟨r,rfl,h1⟩:=shq_strs hx n1
  obtain ⟨q,rfl,h2⟩:=shq_strs hy n2
  exact ⟨.mk a b c d r q,rfl,by simp only [Jn.req_mk];omega,by simp only [Jn.prov_mk];omega⟩
theorem shp_kyQ {L:List AV} (h:Shp Tryz.prog 259 L):∃x:Ky,L=kyC x:=by
 obtain ⟨parts,rfl,hl,hp⟩:=shp_struct Tryz.underlying259 h
 obtain ⟨a,b,c,rfl⟩:=ds_n3 (show parts.length=3 from hl)
 obtain ⟨a,rfl,_⟩:=shp_string Tryz.underlying9 (hp 0 _ a rfl rfl)
 obtain ⟨b,rfl,_⟩:=shp_int Tryz.underlying3 (hp 1 _ b rfl rfl)
 obtain ⟨l,rfl,_,hx⟩:=shp_slice Tryz.underlying22 (hp 2 _ c rfl rfl)
 obtain ⟨r,rfl⟩:=shp_strs hx
 exact ⟨.mk a b r,rfl⟩
theorem shp_fldQ {L:List AV} (h:Shp Tryz.prog 105 L):∃x:Fld,L=fldC x:=by
 obtain ⟨parts,rfl,hl,hp⟩:=shp_struct Tryz.underlying105 h
 obtain ⟨a,b,c,d,rfl⟩:=ds_n4 (show parts.length=4 from hl)
 obtain ⟨a,rfl,_⟩:=shp_string Tryz.underlying9 (hp 0 _ a rfl rfl)
 obtain ⟨l,rfl,_,_⟩:=shp_slice Tryz.underlying102 (hp 1 _ b rfl rfl)
 obtain ⟨ts,rfl,hl2,hp2⟩:=shp_struct Tryz.underlying47 (hp 2 _ c rfl rfl)
 obtain ⟨t,u,rfl⟩:=ds_n2 (show ts.length=2 from hl2)
 obtain ⟨t,rfl,_⟩:=shp_string Tryz.underlying9 (hp2 0 _ t rfl rfl)
 obtain ⟨w,rfl,_,_⟩:=shp_slice Tryz.underlying45 (hp2 1 _ u rfl rfl)
 obtain ⟨l2,rfl,_,_⟩:=shp_slice Tryz.underlying103 (hp 3 _ d rfl rfl)
 exact ⟨.mk a l t w l2,rfl⟩
theorem shq_dfnQ {L:List AV} (h:Shq Tryz.prog 109 L):∃x:Dfn,L=dfC x∧x.fields.length≤2000000000000:=by
 obtain ⟨parts,rfl,hl,hp⟩:=shq_struct Tryz.underlying109 h
 match parts,hl,hp with
 | [a,b,c,d,e,f,g],_,hp =>
  obtain ⟨a,rfl,_⟩:=shp_int Tryz.underlying3 (hp 0 _ a rfl rfl).shp
  obtain ⟨b,rfl,_⟩:=shp_string Tryz.underlying9 (hp 1 _ b rfl rfl).shp
  obtain ⟨c,rfl,_,_⟩:=shp_slice Tryz.underlying22 (hp 2 _ c rfl rfl).shp
  obtain ⟨d,rfl,_,_⟩:=shp_slice Tryz.underlying103 (hp 3 _ d rfl rfl).shp
  obtain ⟨l,rfl,n1,hx⟩:=shq_slice Tryz.underlying106 (hp 4 _ e rfl rfl)
  obtain ⟨f,rfl,_,_⟩:=shp_slice Tryz.underlying107 (hp 5 _ f rfl rfl).shp
  obtain ⟨g,rfl,_,_⟩:=shp_slice Tryz.underlying102 (hp 6 _ g rfl rfl).shp
  obtain ⟨fs,rfl,_⟩:=mapC_of (c:=fldC) fun x h=>shp_fldQ (hx x h).shp
  rw [bF,bR,mapC_len] at n1
  exact ⟨.mk a b c d fs f g,rfl,by simp only [Dfn.fields_mk];omega⟩
def JOk (s:Sup):Prop:=∀y∈s.joins,y.req.length≤8796093021952∧y.prov.length≤8796093021952
theorem shq_supQ {L:List AV} (h:Shq Tryz.prog 29 L) :
  ∃s:Sup,L=[.ds (stC s.g),.ds (mapC dfC s.doc),.ds (mapC kyC s.keys),.ds (mapC jnC s.joins)]∧JOk s∧s.doc.length≤1000000000000∧∀t∈s.doc,t.fields.length≤2000000000000:=by
 obtain ⟨parts,rfl,hl,hp⟩:=shq_struct Tryz.underlying29 h
 obtain ⟨a,b,c,d,rfl⟩:=ds_n4 (show parts.length=4 from hl)
 obtain ⟨a,rfl,_,ha⟩:=shp_slice Tryz.underlying22 (hp 0 _ a rfl rfl).shp
 obtain ⟨ts,rfl,hl2,hp2⟩:=shq_struct Tryz.underlying25 (hp 1 _ b rfl rfl)
 match ts,hl2,hp2 with
 | [t],_,hp2 =>
  obtain ⟨t,rfl,n1,ht⟩:=shq_slice Tryz.underlying23 (hp2 0 _ t rfl rfl)
  obtain ⟨c,rfl,_,hc⟩:=shp_slice Tryz.underlying26 (hp 2 _ c rfl rfl).shp
  obtain ⟨d,rfl,_,hd⟩:=shq_slice Tryz.underlying27 (hp 3 _ d rfl rfl)
  obtain ⟨g,rfl⟩:=shp_strs ha
  obtain ⟨doc,rfl,hdoc⟩:=mapC_ofQ (c:=dfC) (Q:=fun t=>t.fields.length≤2000000000000) fun x h=>shq_dfnQ (ht x h)
  obtain ⟨ks,rfl,_⟩:=mapC_of (c:=kyC) fun x h=>shp_kyQ (hc x h)
  obtain ⟨js,rfl,hjs⟩:=mapC_ofQ (c:=jnC) (Q:=fun j=>j.req.length≤8796093021952∧j.prov.length≤8796093021952) fun x h=>shq_jnQ (hd x h)
  rw [bG,bR,mapC_len] at n1
  exact ⟨.mk g doc ks js,rfl,hjs,by simp only [Sup.doc_mk];omega,hdoc⟩
structure TOk (S:Sup) (D:Dat) (P:Pln):Prop where
 j:JOk S
 sd:S.doc.length≤1000000000000
 f:∀t∈S.doc,t.fields.length≤2000000000000
 d:D.Fit
 l:P.l.length≤10000000000000
 p:∀x∈P.l,x.Fit
abbrev casex (s:Sup) (d:Dat) (p:Pln):AV:=.ag [.ds (stC s.g),.ds (mapC dfC s.doc),.ds (mapC kyC s.keys),.ds (mapC jnC s.joins),.ds (mapC itC d.i),.ds (mapC wrC d.w),.i .i64 p.k,.ds (mapC pkC p.l)]
theorem readq_case45 {α:AV} (h:AQ Tryz.prog 38 α):∃s d p,α=casex s d p∧TOk s d p:=by
 obtain ⟨L,rfl,h2⟩:=aq_struct Tryz.underlying38 h
 obtain ⟨parts,rfl,hl,hp⟩:=shq_struct Tryz.underlying38 h2
 obtain ⟨a,b,c,rfl⟩:=ds_n3 (show parts.length=3 from hl)
 obtain ⟨s,rfl,hj,hs,hf⟩:=shq_supQ (hp 0 _ a rfl rfl)
 obtain ⟨d,rfl,hd⟩:=shq_datQ (hp 1 _ b rfl rfl)
 obtain ⟨ts,rfl,hl2,hp2⟩:=shq_struct Tryz.underlying36 (hp 2 _ c rfl rfl)
 obtain ⟨t,u,rfl⟩:=ds_n2 (show ts.length=2 from hl2)
 obtain ⟨k,rfl,_⟩:=shp_int Tryz.underlying3 (hp2 0 _ t rfl rfl).shp
 obtain ⟨l,rfl,n1,hx⟩:=shq_slice Tryz.underlying34 (hp2 1 _ u rfl rfl)
 obtain ⟨ps,rfl,hps⟩:=mapC_ofQ (c:=pkC) (Q:=fun p=>p.Fit) fun x h=>shq_pkQ (hx x h)
 rw [bK,bR,mapC_len] at n1
 exact ⟨s,d,.mk k ps,rfl,⟨hj,hs,hf,hd,by simp only [Pln.l_mk];omega,hps⟩⟩
set_option maxRecDepth 20000
def ROk (rep:Option Val):Prop:=∀r,rep=some r→VSm r
theorem ROk.none:ROk none:=fun r h=>by cases h
theorem tNeeds_ok (s:Sup) (hs:SOk s) (t f:ByteArray) (hp:CH) (m:Nat):MeetsF Tryz.prog 98 hp m [supx s,.s t,.s f] (.ds (stC (reqJ s.joins t f))):=by
 have hjl:=hs.j
 have hrl:=reqJ_len hs.r t f
 obtain ⟨R,hR⟩:∃R,reqJ s.joins t f=R:=⟨_,rfl⟩
 rw [hR] at hrl ⊢
 have hcl:=clone_ok R (by omega)
 refine meetsF Tryz.func98 (by kernel_rfl) cc98 cr98 rfl fun hf=>?_;unfold ck98
 simp only [go_sem,↓reduceIte,Za,Zb,Zc,Zd,Ze,reduceCtorEq,Zf,Zg,Zh,Zi,Zj,Zk]
 refine loop (fun q:Nat × Nat=>⟨[(1,.s t),(2,.s f),(10,.ds (mapC jnC s.joins)),(11,.i .i64 s.joins.length),(12,.i .i64 q.1)],(m,.bx [.ds (stC s.g),.ds (mapC dfC s.doc),.ds (mapC kyC s.keys),.ds (mapC jnC s.joins)])::hp,q.2⟩)
  (fun q=>q.1≤s.joins.length∧m+1≤q.2∧R=reqJ (s.joins.drop q.1) t f) (fun q=>s.joins.length - q.1) (0,m+1) ?_ ?_ (fun ⟨j,n⟩ hj=>?_)
 .exact ⟨by simp,by simp,hR.symm⟩
 .refine weak_ok ?_ (Sub.cons ?_ (Sub.base hf ?_)) (zna _)
  all_goals (simp (disch:=omega) only [ite_ne,go_sem,↓reduceIte,Za,Zb,Zc,Zd,Ze,reduceCtorEq,Zf,Zg,Zh,Zi,Zj,Zk])
 dsimp only at hj
 obtain ⟨hj1,hj2,hj3⟩:=hj
 have hmn:m≤n:=by omega
 simp (disch:=omega) only [ite_ne,go_sem,↓reduceIte,Za,Zb,Zc,Zd,Ze,reduceCtorEq,Zf,Zg,Zh,Zi,Zj,Zk]
 refine cdK_of (fun q=>?_) (fun q=>?_)
 .have q:j<s.joins.length:=by simpa using q
  obtain ⟨y,ey⟩:∃y,s.joins[j]?=some y:=⟨s.joins[j],by simp [q]⟩
  rw [drop_at ey,reqJ_cons] at hj3
  simp (disch:=omega) only [ite_ne,q,getK_s (mapC_get jnC ey),go_sem,↓reduceIte,Za,Zb,Zc,Zd,Ze,reduceCtorEq,Zf,Zg,Zh,Zi,Zj,Zk]
  refine cdK_of (fun c=>?_) (fun c=>?_)
  .have c:y.t=t∧y.f=f∧0<y.req.length:=by
    simp only [Bool.and_eq_true,decide_eq_true_eq] at c
    exact ⟨c.1.1,c.1.2,by omega⟩
   rw [if_pos c] at hj3
   subst hj3
   simp (disch:=omega) only [ite_ne,go_sem,↓reduceIte,Za,Zb,Zc,Zd,Ze,reduceCtorEq,Zf,Zg,Zh,Zi,Zj,Zk]
   refine vcCall.f (hcl _ _) ?_
   simp (disch:=omega) only [ite_ne,hmn,go_sem,↓reduceIte,Za,Zb,Zc,Zd,Ze,reduceCtorEq,Zf,Zg,Zh,Zi,Zj,Zk]
  .have c:¬(y.t=t∧y.f=f∧0<y.req.length):=by
    rintro ⟨c1,c2,c3⟩
    rw [Bool.eq_false_iff] at c
    exact c (by simp only [Bool.and_eq_true,decide_eq_true_eq];exact ⟨⟨c1,c2⟩,by omega⟩)
   rw [if_neg c] at hj3
   simp (disch:=omega) only [ite_ne,go_sem,↓reduceIte,Za,Zb,Zc,Zd,Ze,reduceCtorEq,Zf,Zg,Zh,Zi,Zj,Zk]
   refine ⟨(j+1,_),⟨by dsimp only;omega,by dsimp only;omega,hj3⟩,by dsimp only;omega,weak_ok ?_ (Sub.cons ?_ (Sub.base hf ?_)) (zna _)⟩
   all_goals
    simp (disch:=omega) only [ite_ne,wr64s j (by omega),hmn,go_sem,↓reduceIte,Za,Zb,Zc,Zd,Ze,reduceCtorEq,Zf,Zg,Zh,Zi,Zj,Zk]
 .have q:j=s.joins.length:=by simp at q;omega
  subst q
  rw [zll] at hj3
  have hj3:R=[]:=hj3
  subst hj3
  simp (disch:=omega) only [ite_ne,hmn,go_sem,↓reduceIte,Za,Zb,Zc,Zd,Ze,reduceCtorEq,Zf,Zg,Zh,Zi,Zj,Zk]
theorem rNeeds_ok (s:Sup) (hs:SOk s) (t f:ByteArray) (hp:CH) (m:Nat):MeetsF Tryz.prog 20 hp m [supx s,.s t,.s f] (.ds (stC (reqJ s.joins t f))):=by
 have hjl:=hs.j
 have hrl:=reqJ_len hs.r t f
 obtain ⟨R,hR⟩:∃R,reqJ s.joins t f=R:=⟨_,rfl⟩
 rw [hR] at hrl ⊢
 have hcl:=clone_ok R (by omega)
 refine meetsF Tryz.func20 (by kernel_rfl) cc20 cr20 rfl fun hf=>?_;unfold ck20
 simp only [go_sem,↓reduceIte,Za,Zb,Zc,Zd,Ze,reduceCtorEq,Zf,Zg,Zh,Zi,Zj,Zk]
 refine loop (fun q:Nat × Nat=>⟨[(1,.s t),(2,.s f),(3,.bx m 0),(7,.i .i64 q.1)],(m,.bx [.ds (stC s.g),.ds (mapC dfC s.doc),.ds (mapC kyC s.keys),.ds (mapC jnC s.joins)])::hp,q.2⟩)
  (fun q=>q.1≤s.joins.length∧m+1≤q.2∧R=reqJ (s.joins.drop q.1) t f) (fun q=>s.joins.length - q.1) (0,m+1) ?_ ?_ (fun ⟨j,n⟩ hj=>?_)
 .exact ⟨by simp,by simp,hR.symm⟩
 .refine weak_ok ?_ (Sub.cons ?_ (Sub.base hf ?_)) (zna _)
  all_goals (simp (disch:=omega) only [ite_ne,go_sem,↓reduceIte,Za,Zb,Zc,Zd,Ze,reduceCtorEq,Zf,Zg,Zh,Zi,Zj,Zk])
 dsimp only at hj
 obtain ⟨hj1,hj2,hj3⟩:=hj
 have hmn:m≤n:=by omega
 simp (disch:=omega) only [ite_ne,go_sem,↓reduceIte,Za,Zb,Zc,Zd,Ze,reduceCtorEq,Zf,Zg,Zh,Zi,Zj,Zk]
 refine cdK_of (fun q=>?_) (fun q=>?_)
 .have q:j<s.joins.length:=by simpa using q
  obtain ⟨y,ey⟩:∃y,s.joins[j]?=some y:=⟨s.joins[j],by simp [q]⟩
  rw [drop_at ey,reqJ_cons] at hj3
  simp (disch:=omega) only [ite_ne,q,getK_s (mapC_get jnC ey),go_sem,↓reduceIte,Za,Zb,Zc,Zd,Ze,reduceCtorEq,Zf,Zg,Zh,Zi,Zj,Zk]
  refine cdK_of (fun c=>?_) (fun c=>?_)
  .have c:y.t=t∧y.f=f∧0<y.req.length:=by
    simp only [Bool.and_eq_true,decide_eq_true_eq] at c
    exact ⟨c.1.1,c.1.2,by omega⟩
   rw [if_pos c] at hj3
   subst hj3
   simp (disch:=omega) only [ite_ne,go_sem,↓reduceIte,Za,Zb,Zc,Zd,Ze,reduceCtorEq,Zf,Zg,Zh,Zi,Zj,Zk]
   try rfl
  .have c:¬(y.t=t∧y.f=f∧0<y.req.length):=by
    rintro ⟨c1,c2,c3⟩
    rw [Bool.eq_false_iff] at c
    exact c (by simp only [Bool.and_eq_true,decide_eq_true_eq];exact ⟨⟨c1,c2⟩,by omega⟩)
   rw [if_neg c] at hj3
   simp (disch:=omega) only [ite_ne,go_sem,↓reduceIte,Za,Zb,Zc,Zd,Ze,reduceCtorEq,Zf,Zg,Zh,Zi,Zj,Zk]
   refine ⟨(j+1,_),⟨by dsimp only;omega,by dsimp only;omega,hj3⟩,by dsimp only;omega,weak_ok ?_ (Sub.cons ?_ (Sub.base hf ?_)) (zna _)⟩
   all_goals
    simp (disch:=omega) only [ite_ne,wr64s j (by omega),hmn,go_sem,↓reduceIte,Za,Zb,Zc,Zd,Ze,reduceCtorEq,Zf,Zg,Zh,Zi,Zj,Zk]
 .have q:j=s.joins.length:=by simp at q;omega
  subst q
  rw [zll] at hj3
  have hj3:R=[]:=hj3
  subst hj3
  simp (disch:=omega) only [ite_ne,hmn,go_sem,↓reduceIte,Za,Zb,Zc,Zd,Ze,reduceCtorEq,Zf,Zg,Zh,Zi,Zj,Zk]
noncomputable def findJ (l:List Jn) (t f:ByteArray) (g:Int):Option Jn:=l.find? fun y=>decide (y.t=t)&&(decide (y.f=f)&&decide (y.g=g))
def zJn:Jn:=.mk ⟨#[]⟩ ⟨#[]⟩ 0 false [] []
abbrev jnx (y:Jn):AV:=.ag [.s y.t,.s y.f,.i .i64 y.g,.b y.x,.ds (stC y.req),.ds (stC y.prov)]
noncomputable def resJ (o:Option Jn):AV:=.tp [jnx (o.getD zJn),.b o.isSome]
theorem findJ_cons (y:Jn) (l:List Jn) (t f:ByteArray) (g:Int):findJ (y::l) t f g=if y.t=t∧y.f=f∧y.g=g then some y else findJ l t f g:=by
 unfold findJ
 rw [List.find?_cons]
 by_cases c:y.t=t∧y.f=f∧y.g=g
 .simp [c]
 .rw [if_neg c]
  have:(decide (y.t=t)&&(decide (y.f=f)&&decide (y.g=g)))=false:=by
   rw [Bool.eq_false_iff]
   intro h
   simp only [Bool.and_eq_true,decide_eq_true_eq] at h
   exact c h
  rw [this]
theorem tFind2_ok (s:Sup) (hjl:s.joins.length≤1048576) (hj0:JOk s) (t f:ByteArray) (g:Int) (hp:CH) (m:Nat):MeetsF Tryz.prog 42 hp m [supx s,.s t,.s f,.i .i64 g] (resJ (findJ s.joins t f g)):=by
 obtain ⟨R,hR⟩:∃R,findJ s.joins t f g=R:=⟨_,rfl⟩
 rw [hR,resJ]
 refine meetsF Tryz.func42 (by kernel_rfl) cc42 cr42 rfl fun hf=>?_;unfold ck42
 simp only [go_sem,↓reduceIte,Za,Zb,Zc,Zd,Ze,reduceCtorEq,Zf,Zg,Zh,Zi,Zj,Zk]
 refine loop (fun q:Nat × Nat=>⟨[(1,.s t),(2,.s f),(3,.i .i64 g),(8,.bx (m+1) 0),(13,.ds (mapC jnC s.joins)),(14,.i .i64 s.joins.length),(15,.i .i64 q.1)],(m,.bx [.ds (stC s.g),.ds (mapC dfC s.doc),.ds (mapC kyC s.keys),.ds (mapC jnC s.joins)])::(m+1,.bx [.s ⟨#[]⟩,.s ⟨#[]⟩,.i .i64 0,.b false,.e0,.e0])::hp,q.2⟩)
  (fun q=>q.1≤s.joins.length∧m+2≤q.2∧R=findJ (s.joins.drop q.1) t f g) (fun q=>s.joins.length - q.1) (0,m+2) ?_ ?_ (fun ⟨j,n⟩ hj=>?_)
 .exact ⟨by simp,by simp,hR.symm⟩
 .refine weak_ok ?_ (Sub.cons ?_ (Sub.cons ?_ (Sub.base hf ?_))) (zna _)
  all_goals (simp (disch:=omega) only [ite_ne,go_sem,↓reduceIte,Za,Zb,Zc,Zd,Ze,reduceCtorEq,Zf,Zg,Zh,Zi,Zj,Zk])
 dsimp only at hj
 obtain ⟨hj1,hj2,hj3⟩:=hj
 have hmn:m≤n:=by omega
 simp (disch:=omega) only [ite_ne,go_sem,↓reduceIte,Za,Zb,Zc,Zd,Ze,reduceCtorEq,Zf,Zg,Zh,Zi,Zj,Zk]
 refine cdK_of (fun q=>?_) (fun q=>?_)
 .have q:j<s.joins.length:=by simpa using q
  obtain ⟨y,ey⟩:∃y,s.joins[j]?=some y:=⟨s.joins[j],by simp [q]⟩
  obtain ⟨l1,l2⟩:=hj0 y (List.mem_of_getElem? ey)
  rw [drop_at ey,findJ_cons] at hj3
  simp (disch:=omega) only [ite_ne,q,getK_s (mapC_get jnC ey),go_sem,↓reduceIte,Za,Zb,Zc,Zd,Ze,reduceCtorEq,Zf,Zg,Zh,Zi,Zj,Zk]
  refine cdK_of (fun c=>?_) (fun c=>?_)
  .have c:y.t=t∧y.f=f∧y.g=g:=by
    simp only [Bool.and_eq_true,decide_eq_true_eq] at c
    exact ⟨c.1.1,c.1.2,c.2⟩
   rw [if_pos c] at hj3
   subst hj3
   simp (disch:=omega) only [ite_ne,go_sem,↓reduceIte,Za,Zb,Zc,Zd,Ze,reduceCtorEq,Zf,Zg,Zh,Zi,Zj,Zk]
   refine dCallR.f (fun _ _ _=>clone_ok y.req (by omega) _ _) ?_
   simp (disch:=omega) only [ite_ne,go_sem,↓reduceIte,Za,Zb,Zc,Zd,Ze,reduceCtorEq,Zf,Zg,Zh,Zi,Zj,Zk]
   refine dCallR.f (fun _ _ _=>clone_ok y.prov (by omega) _ _) ?_
   simp (disch:=omega) only [ite_ne,hmn,q,getK_s (mapC_get jnC ey),go_sem,↓reduceIte,Za,Zb,Zc,Zd,Ze,reduceCtorEq,Zf,Zg,Zh,Zi,Zj,Zk]
   try rfl
  .have c:¬(y.t=t∧y.f=f∧y.g=g):=by
    rintro ⟨c1,c2,c3⟩
    rw [Bool.eq_false_iff] at c
    exact c (by simp only [Bool.and_eq_true,decide_eq_true_eq];exact ⟨⟨c1,c2⟩,c3⟩)
   rw [if_neg c] at hj3
   simp (disch:=omega) only [ite_ne,go_sem,↓reduceIte,Za,Zb,Zc,Zd,Ze,reduceCtorEq,Zf,Zg,Zh,Zi,Zj,Zk]
   refine ⟨(j+1,_),⟨by dsimp only;omega,by dsimp only;omega,hj3⟩,by dsimp only;omega,weak_ok ?_ (Sub.cons ?_ (Sub.cons ?_ (Sub.base hf ?_))) (zna _)⟩
   all_goals
    simp (disch:=omega) only [ite_ne,wr64s j (by omega),hmn,go_sem,↓reduceIte,Za,Zb,Zc,Zd,Ze,reduceCtorEq,Zf,Zg,Zh,Zi,Zj,Zk]
 .have q:j=s.joins.length:=by simp at q;omega
  subst q
  rw [zll] at hj3
  have hj3:R=none:=hj3
  subst hj3
  simp (disch:=omega) only [ite_ne,hmn,go_sem,↓reduceIte,Za,Zb,Zc,Zd,Ze,reduceCtorEq,Zf,Zg,Zh,Zi,Zj,Zk]
  try rfl
theorem rFind2_ok (s:Sup) (hjl:s.joins.length≤1048576) (hj0:JOk s) (t f:ByteArray) (g:Int) (hp:CH) (m:Nat):MeetsF Tryz.prog 43 hp m [supx s,.s t,.s f,.i .i64 g] (resJ (findJ s.joins t f g)):=by
 obtain ⟨R,hR⟩:∃R,findJ s.joins t f g=R:=⟨_,rfl⟩
 rw [hR,resJ]
 refine meetsF Tryz.func43 (by kernel_rfl) cc43 cr43 rfl fun hf=>?_;unfold ck43
 simp only [go_sem,↓reduceIte,Za,Zb,Zc,Zd,Ze,reduceCtorEq,Zf,Zg,Zh,Zi,Zj,Zk]
 refine loop (fun q:Nat × Nat=>⟨[(1,.s t),(2,.s f),(3,.i .i64 g),(8,.bx (m+1) 0),(4,.bx m 0),(10,.i .i64 q.1)],(m,.bx [.ds (stC s.g),.ds (mapC dfC s.doc),.ds (mapC kyC s.keys),.ds (mapC jnC s.joins)])::(m+1,.bx [.s ⟨#[]⟩,.s ⟨#[]⟩,.i .i64 0,.b false,.e0,.e0])::hp,q.2⟩)
  (fun q=>q.1≤s.joins.length∧m+2≤q.2∧R=findJ (s.joins.drop q.1) t f g) (fun q=>s.joins.length - q.1) (0,m+2) ?_ ?_ (fun ⟨j,n⟩ hj=>?_)
 .exact ⟨by simp,by simp,hR.symm⟩
 .refine weak_ok ?_ (Sub.cons ?_ (Sub.cons ?_ (Sub.base hf ?_))) (zna _)
  all_goals (simp (disch:=omega) only [ite_ne,go_sem,↓reduceIte,Za,Zb,Zc,Zd,Ze,reduceCtorEq,Zf,Zg,Zh,Zi,Zj,Zk])
 dsimp only at hj
 obtain ⟨hj1,hj2,hj3⟩:=hj
 have hmn:m≤n:=by omega
 simp (disch:=omega) only [ite_ne,go_sem,↓reduceIte,Za,Zb,Zc,Zd,Ze,reduceCtorEq,Zf,Zg,Zh,Zi,Zj,Zk]
 refine cdK_of (fun q=>?_) (fun q=>?_)
 .have q:j<s.joins.length:=by simpa using q
  obtain ⟨y,ey⟩:∃y,s.joins[j]?=some y:=⟨s.joins[j],by simp [q]⟩
  obtain ⟨l1,l2⟩:=hj0 y (List.mem_of_getElem? ey)
  rw [drop_at ey,findJ_cons] at hj3
  simp (disch:=omega) only [ite_ne,q,getK_s (mapC_get jnC ey),go_sem,↓reduceIte,Za,Zb,Zc,Zd,Ze,reduceCtorEq,Zf,Zg,Zh,Zi,Zj,Zk]
  refine cdK_of (fun c=>?_) (fun c=>?_)
  .have c:y.t=t∧y.f=f∧y.g=g:=by
    simp only [Bool.and_eq_true,decide_eq_true_eq] at c
    exact ⟨c.1.1,c.1.2,c.2⟩
   rw [if_pos c] at hj3
   subst hj3
   simp (disch:=omega) only [ite_ne,hmn,q,getK_s (mapC_get jnC ey),go_sem,↓reduceIte,Za,Zb,Zc,Zd,Ze,reduceCtorEq,Zf,Zg,Zh,Zi,Zj,Zk]
   try rfl
  .have c:¬(y.t=t∧y.f=f∧y.g=g):=by
    rintro ⟨c1,c2,c3⟩
    rw [Bool.eq_false_iff] at c
    exact c (by simp only [Bool.and_eq_true,decide_eq_true_eq];exact ⟨⟨c1,c2⟩,c3⟩)
   rw [if_neg c] at hj3
   simp (disch:=omega) only [ite_ne,go_sem,↓reduceIte,Za,Zb,Zc,Zd,Ze,reduceCtorEq,Zf,Zg,Zh,Zi,Zj,Zk]
   refine ⟨(j+1,_),⟨by dsimp only;omega,by dsimp only;omega,hj3⟩,by dsimp only;omega,weak_ok ?_ (Sub.cons ?_ (Sub.cons ?_ (Sub.base hf ?_))) (zna _)⟩
   all_goals
    simp (disch:=omega) only [ite_ne,wr64s j (by omega),hmn,go_sem,↓reduceIte,Za,Zb,Zc,Zd,Ze,reduceCtorEq,Zf,Zg,Zh,Zi,Zj,Zk]
 .have q:j=s.joins.length:=by simp at q;omega
  subst q
  rw [zll] at hj3
  have hj3:R=none:=hj3
  subst hj3
  simp (disch:=omega) only [ite_ne,hmn,go_sem,↓reduceIte,Za,Zb,Zc,Zd,Ze,reduceCtorEq,Zf,Zg,Zh,Zi,Zj,Zk]
  try rfl
end Go.Proofs.YtinbodeocoeneaaGreatDoor
