/-
  The parts CmM CmD of the proof, in one file. Conditions: none.
-/
import Derived.Test.YtgollgfifnmaaaaDoorCmP133
namespace Go.Proofs.YtgollgfifnmaaaaDoor
open Go.Eng
set_option linter.unusedVariables false
set_option linter.unusedSimpArgs false
abbrev ME := List (ByteArray × AV)
def KS (l : ME) : Prop := (l.map (·.1)).Nodup
theorem mfind_mput (b k : ByteArray) (v : AV) : ∀ l : ME, mfind b (mput k v l) = if b = k then some v else mfind b l
  | [] => by simp [mput, mfind]
  | (x, α) :: r => by
    rw [mput]
    by_cases h : k = x
    · subst h
      rw [if_pos rfl, mfind, mfind]
      split <;> rfl
    · rw [if_neg h, mfind, mfind, mfind_mput b k v r]
      by_cases hb : b = x
      · subst hb
        rw [if_pos rfl, if_pos rfl, if_neg (fun e => h e.symm)]
      · rw [if_neg hb, if_neg hb]
theorem mput_mem {k : ByteArray} {v : AV} {p : ByteArray × AV} : ∀ {l : ME}, p ∈ mput k v l → p = (k, v) ∨ p ∈ l
  | [], h => by simp [mput] at h; exact .inl h
  | (x, α) :: r, h => by
    rw [mput] at h
    split at h
    · rcases List.mem_cons.1 h with h | h
      · exact .inl h
      · exact .inr (by simp [h])
    · rcases List.mem_cons.1 h with h | h
      · exact .inr (by simp [h])
      · rcases mput_mem h with h | h
        · exact .inl h
        · exact .inr (by simp [h])
theorem mput_key {k : ByteArray} {v : AV} {x : ByteArray} : ∀ {l : ME}, x ∈ (mput k v l).map (·.1) → x = k ∨ x ∈ l.map (·.1) := fun {l} h => by
  obtain ⟨p, hp, rfl⟩ := List.mem_map.1 h
  rcases mput_mem hp with rfl | h
  · exact .inl rfl
  · exact .inr (List.mem_map.2 ⟨p, h, rfl⟩)
theorem ks_mput {k : ByteArray} {v : AV} : ∀ {l : ME}, KS l → KS (mput k v l)
  | [], h => by simp [KS, mput]
  | (x, α) :: r, h => by
    simp only [KS, List.map_cons, List.nodup_cons] at h
    rw [mput]
    split
    · rename_i e
      subst e
      simp only [KS, List.map_cons, List.nodup_cons]
      exact h
    · rename_i e
      simp only [KS, List.map_cons, List.nodup_cons]
      exact ⟨fun q => by
        rcases mput_key q with q | q
        · exact e q.symm
        · exact h.1 q, ks_mput (l := r) h.2⟩
theorem mdel_mem {k : ByteArray} {p : ByteArray × AV} : ∀ {l : ME}, p ∈ mdel k l → p ∈ l
  | [], h => by simp [mdel] at h
  | (x, α) :: r, h => by
    rw [mdel] at h
    split at h
    · simp [h]
    · rcases List.mem_cons.1 h with h | h
      · simp [h]
      · simp [mdel_mem h]
theorem ks_mdel {k : ByteArray} : ∀ {l : ME}, KS l → KS (mdel k l)
  | [], h => by simp [KS, mdel]
  | (x, α) :: r, h => by
    simp only [KS, List.map_cons, List.nodup_cons] at h
    rw [mdel]
    split
    · exact h.2
    · simp only [KS, List.map_cons, List.nodup_cons]
      exact ⟨fun q => by
        obtain ⟨p, hp, e⟩ := List.mem_map.1 q
        exact h.1 (List.mem_map.2 ⟨p, mdel_mem hp, e⟩), ks_mdel (l := r) h.2⟩
theorem mfind_none {b : ByteArray} : ∀ {l : ME}, b ∉ l.map (·.1) → mfind b l = none
  | [], _ => rfl
  | (x, α) :: r, h => by
    simp only [List.map_cons, List.mem_cons, not_or] at h
    rw [mfind, if_neg h.1, mfind_none h.2]
theorem mfind_mdel {k : ByteArray} (b : ByteArray) : ∀ {l : ME}, KS l → mfind b (mdel k l) = if b = k then none else mfind b l
  | [], _ => by simp [mdel, mfind]
  | (x, α) :: r, h => by
    simp only [KS, List.map_cons, List.nodup_cons] at h
    rw [mdel]
    by_cases e : k = x
    · subst e
      rw [if_pos rfl, mfind]
      by_cases hb : b = k
      · subst hb
        rw [if_pos rfl, mfind_none h.1]
      · rw [if_neg hb, if_neg hb]
    · rw [if_neg e, mfind, mfind, mfind_mdel b (l := r) h.2]
      by_cases hb : b = x
      · subst hb
        rw [if_pos rfl, if_pos rfl, if_neg (fun q => e q.symm)]
      · rw [if_neg hb, if_neg hb]
theorem mfind_get {b : ByteArray} {α : AV} : ∀ {l : ME}, KS l → (b, α) ∈ l → mfind b l = some α
  | [], _, h => by cases h
  | (x, β) :: r, hk, h => by
    simp only [KS, List.map_cons, List.nodup_cons] at hk
    rw [mfind]
    rcases List.mem_cons.1 h with h | h
    · cases h
      rw [if_pos rfl]
    · have hb : ¬ b = x := fun e => hk.1 (by rw [← e]; exact List.mem_map.2 ⟨_, h, rfl⟩)
      rw [if_neg hb]
      exact mfind_get hk.2 h
theorem mfind_mem {b : ByteArray} {α : AV} : ∀ {l : ME}, mfind b l = some α → (b, α) ∈ l
  | [], h => by cases h
  | (x, β) :: r, h => by
    rw [mfind] at h
    split at h
    · rename_i e; cases h; subst e; simp
    · simp [mfind_mem h]
/-- How many entries were not seen. -/
def unseen (l : ME) (sn : List ByteArray) : Nat := (l.filter fun p : ByteArray × AV => decide (p.1 ∉ sn)).length
theorem unseen_lt {l : ME} {sn : List ByteArray} {b : ByteArray} {α : AV} (h : (b, α) ∈ l) (hb : b ∉ sn) : unseen l (sn ++ [b]) < unseen l sn := by
  unfold unseen
  induction l with
  | nil => cases h
  | cons p l ih =>
    have le : ∀ l : ME, (l.filter fun p : ByteArray × AV => decide (p.1 ∉ sn ++ [b])).length ≤ (l.filter fun p : ByteArray × AV => decide (p.1 ∉ sn)).length := fun l => by
      rw [← List.countP_eq_length_filter, ← List.countP_eq_length_filter]
      refine List.countP_mono_left fun x _ hx => ?_
      simp only [List.mem_append, List.mem_singleton, not_or, decide_eq_true_eq] at hx ⊢
      exact hx.1
    rcases List.mem_cons.1 h with h | h
    · subst h
      rw [List.filter_cons_of_neg (by simp), List.filter_cons_of_pos (by simpa using hb), List.length_cons]
      have := le l
      omega
    · have := ih h
      by_cases c : p.1 ∈ sn
      · rw [List.filter_cons_of_neg (by simp [c]), List.filter_cons_of_neg (by simp [c])]
        exact this
      · rw [List.filter_cons_of_pos (p := fun p : ByteArray × AV => decide (p.1 ∉ sn)) (by simpa using c), List.length_cons]
        by_cases c2 : p.1 = b
        · rw [List.filter_cons_of_neg (by simp [c2])]
          omega
        · rw [List.filter_cons_of_pos (by simp [c, c2]), List.length_cons]
          omega
theorem unseen_del (l : ME) (sn : List ByteArray) (k : ByteArray) : unseen (mdel k l) sn ≤ unseen l sn := by
  unfold unseen
  induction l with
  | nil => exact Nat.le_refl _
  | cons p l ih =>
    obtain ⟨x, α⟩ := p
    rw [mdel]
    split
    · rw [List.filter_cons]
      split
      · rw [List.length_cons]; omega
      · exact Nat.le_refl _
    · rw [List.filter_cons, List.filter_cons]
      split
      · rw [List.length_cons, List.length_cons]; omega
      · exact ih
end Go.Proofs.YtgollgfifnmaaaaDoor
namespace Go.Proofs.YtgollgfifnmaaaaDoor
open Go.Eng
set_option linter.unusedVariables false
set_option linter.unusedSimpArgs false
set_option maxRecDepth 20000
/-- A map that holds true for the keys of a set, and nothing else. -/
def InM (Q : ByteArray → Bool) (L : ME) : Prop := KS L ∧ ∀ b, mfind b L = if Q b = true then some (.b true) else none
theorem InM.nil : InM (fun _ => false) [] := ⟨by simp [KS], fun b => by simp [mfind]⟩
theorem InM.put {Q R : ByteArray → Bool} {L : ME} (h : InM Q L) (k : ByteArray) (hR : ∀ b, R b = (decide (b = k) || Q b)) : InM R (mput k (.b true) L) := ⟨ks_mput h.1, fun b => by
  rw [mfind_mput, h.2 b, hR b]
  by_cases e : b = k <;> simp [e]⟩
theorem InM.del {Q R : ByteArray → Bool} {L : ME} (h : InM Q L) (k : ByteArray) (hR : ∀ b, R b = (Q b && !decide (b = k))) : InM R (mdel k L) := ⟨ks_mdel h.1, fun b => by
  rw [mfind_mdel b h.1, h.2 b, hR b]
  by_cases e : b = k <;> simp [e]⟩
theorem InM.ext {Q R : ByteArray → Bool} {L : ME} (h : InM Q L) (hR : ∀ b, R b = Q b) : InM R L := ⟨h.1, fun b => by rw [h.2 b, hR b]⟩
theorem InM.get {Q : ByteArray → Bool} {L : ME} (h : InM Q L) {b : ByteArray} {α : AV} (hb : (b, α) ∈ L) : Q b = true ∧ α = .b true := by
  have := mfind_get h.1 hb
  rw [h.2 b] at this
  split at this
  · cases this; exact ⟨by assumption, rfl⟩
  · cases this
theorem InM.mem {Q : ByteArray → Bool} {L : ME} (h : InM Q L) {b : ByteArray} (hb : Q b = true) : (b, .b true) ∈ L := by
  have := h.2 b
  rw [if_pos hb] at this
  exact mfind_mem this
noncomputable def may0 (doc : List Dfn) (t : Dfn) (name : ByteArray) (b : ByteArray) : Bool :=
  if t.k = 1 then decide (b = name) else if t.k = 2 then doc.any (fun x => decide (x.n = b) && decide (name ∈ unS x.impl)) else if t.k = 3 then decide (b ∈ unM t.members) else false
noncomputable def badT (doc : List Dfn) (t : Dfn) (name : ByteArray) (b : ByteArray) : Bool := match findD' doc b with
  | none => true
  | some o => decide (o.k ≠ 1) || (decide (t.k = 2) && !decide (name ∈ unS o.impl))
noncomputable def mayT (doc : List Dfn) (t : Dfn) (name : ByteArray) (b : ByteArray) : Bool := may0 doc t name b && !badT doc t name b
noncomputable def posW (Q : ByteArray → Bool) : List ByteArray → List Dfn → List ByteArray
  | out, [] => out
  | out, x :: r => if Q x.n = true ∧ x.n ∉ out then posW Q (out ++ [x.n]) r else posW Q out r
theorem findD_first {x : Dfn} {l : List Dfn} : ∀ {pre : List Dfn}, x.n ∉ pre.map Dfn.n → findD' (pre ++ x :: l) x.n = some x
  | [], _ => by rw [List.nil_append, find_cons, if_pos rfl]
  | y :: pre, h => by
    simp only [List.map_cons, List.mem_cons, not_or] at h
    rw [List.cons_append, find_cons, if_neg (fun e => h.1 e.symm), findD_first h.2]
theorem mayT_first {doc pre l : List Dfn} {t x : Dfn} {name : ByteArray} (hd : doc = pre ++ x :: l) (hx : x.n ∉ pre.map Dfn.n) : mayT doc t name x.n = (decide (x.k = 1) && kndB t name x) := by
  have hf : findD' doc x.n = some x := by rw [hd]; exact findD_first hx
  have hm : x ∈ doc := by rw [hd]; simp
  unfold mayT may0 badT kndB
  rw [hf]
  by_cases k1 : x.k = 1
  · by_cases t1 : t.k = 1
    · simp [k1, t1]
    · by_cases t2 : t.k = 2
      · by_cases c : name ∈ unS x.impl
        · have : (doc.any fun y => decide (y.n = x.n) && decide (name ∈ unS y.impl)) = true := List.any_eq_true.2 ⟨x, hm, by simp [c]⟩
          simp [k1, t2, c, this]
        · simp [k1, t2, c]
      · by_cases t3 : t.k = 3
        · simp [k1, t3]
        · simp [k1, t1, t2, t3]
  · simp [k1]
theorem posW_go (doc : List Dfn) (t : Dfn) (name : ByteArray) : ∀ (l pre : List Dfn) (out : List ByteArray), doc = pre ++ l → (∀ b, b ∈ out ↔ b ∈ pre.map Dfn.n ∧ mayT doc t name b = true) →
    posW (mayT doc t name) out l = out ++ posR t name (pre.map Dfn.n) l
  | [], pre, out, _, _ => by rw [posW, posR, List.append_nil]
  | x :: l, pre, out, hd, ho => by
    have e : (pre ++ [x]).map Dfn.n = pre.map Dfn.n ++ [x.n] := by simp
    have hd2 : doc = (pre ++ [x]) ++ l := by rw [hd]; simp
    rw [posW, posR]
    by_cases hs : x.n ∈ pre.map Dfn.n
    · rw [if_neg (fun h => h.2 ((ho _).2 ⟨hs, h.1⟩)), if_neg (fun h => h.1 hs), ← e]
      refine posW_go doc t name l (pre ++ [x]) out hd2 fun b => ?_
      rw [ho b, e]
      constructor
      · exact fun h => ⟨List.mem_append_left _ h.1, h.2⟩
      · refine fun h => ⟨?_, h.2⟩
        rcases List.mem_append.1 h.1 with h | h
        · exact h
        · rw [List.mem_singleton.1 h]; exact hs
    · have hm := mayT_first (t := t) (name := name) hd hs
      have hno : x.n ∉ out := fun h => hs ((ho _).1 h).1
      by_cases c : x.k = 1 ∧ kndB t name x = true
      · have hq : mayT doc t name x.n = true := by rw [hm]; simp [c.1, c.2]
        rw [if_pos ⟨hq, hno⟩, if_pos ⟨hs, c.1, c.2⟩, ← e, posW_go doc t name l (pre ++ [x]) (out ++ [x.n]) hd2 fun b => ?_]
        · rw [List.append_assoc]; rfl
        · rw [e, List.mem_append, List.mem_append, ho b]
          constructor
          · rintro (h | h)
            · exact ⟨.inl h.1, h.2⟩
            · rw [List.mem_singleton.1 h]; exact ⟨.inr (by simp), hq⟩
          · rintro ⟨h | h, h2⟩
            · exact .inl ⟨h, h2⟩
            · exact .inr h
      · have hq : ¬ mayT doc t name x.n = true := fun h => by
          rw [hm] at h
          simp only [Bool.and_eq_true, decide_eq_true_eq] at h
          exact c h
        rw [if_neg (fun h => hq h.1), if_neg (fun h => c ⟨h.2.1, h.2.2⟩), ← e]
        refine posW_go doc t name l (pre ++ [x]) out hd2 fun b => ?_
        rw [ho b, e]
        constructor
        · exact fun h => ⟨List.mem_append_left _ h.1, h.2⟩
        · refine fun h => ⟨?_, h.2⟩
          rcases List.mem_append.1 h.1 with h' | h'
          · exact h'
          · rw [List.mem_singleton.1 h'] at h; exact absurd h.2 hq
theorem posW_eq (doc : List Dfn) (name : ByteArray) : posW (mayT doc ((findD' doc name).getD zDf) name) [] doc = posL doc name := by
  unfold posL
  cases h : findD' doc name with
  | none =>
    have : ∀ l : List Dfn, posW (mayT doc (Option.getD none zDf) name) [] l = [] := by
      intro l
      induction l with
      | nil => rw [posW]
      | cons x l ih =>
        rw [posW, if_neg (fun h => by
          have := h.1
          simp [mayT, may0, zDf, Dfn.k_mk] at this), ih]
    exact this doc
  | some t =>
    have := posW_go doc t name doc [] [] rfl (fun b => by simp)
    rw [List.nil_append] at this
    exact this
end Go.Proofs.YtgollgfifnmaaaaDoor
