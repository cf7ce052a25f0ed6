/-
  The parts SbB of the proof, in one file. Conditions: none.
-/
import Derived.Test.YtmcgjccheehehaaQsv45
namespace Go.Proofs.Ytmcgjccheehehaa
open Go.Eng
set_option linter.unusedVariables false
set_option linter.unusedSimpArgs false
set_option maxRecDepth 20000
set_option maxHeartbeats 1000000
theorem gCall_no {P : Program} {f : FuncId} {hp : CH} {n : Nat} {args : List AV} {K : CH → Nat → AV → Prop} (k : K hp n (.gd false .un)) : gCall P f hp n args false K := .inl ⟨.un, fun h => (by cases h), k⟩
mutual
/-- The number that stands for the picks of a pick. -/
def pkN : Pk → Int
  | .mk _ _ _ _ _ _ _ _ ps => pkNs ps ps.length
def pkNs : List Pk → Int → Int
  | [], a => a
  | p :: r, a => if a ≤ 200 then pkNs r (IntKind.i64.wrap (a + pkN p)) else a
end
theorem pkN_eq (p : Pk) : pkN p = pkNs p.picks p.picks.length := by cases p; rw [pkN]; rfl
theorem pkNs_at {l : List Pk} {j : Nat} {a : Int} (h : l.length ≤ j ∨ ¬ a ≤ 200) : pkNs (l.drop j) a = a := by
  cases e : l.drop j with
  | nil => rw [pkNs]
  | cons k r =>
    rw [pkNs, if_neg]
    rcases h with h | h
    · rw [List.drop_eq_nil_of_le h] at e; cases e
    · exact h
theorem picks_of (l : List Pk) (hl : l.length ≤ 1000000000000) (ih : ∀ p ∈ l, ∀ hp m, MeetsF Try.prog 36 hp m [.ds (mapC pkC p.picks)] (.i .i64 (pkN p))) (hp : CH) (m : Nat) :
    MeetsF Try.prog 36 hp m [.ds (mapC pkC l)] (.i .i64 (pkNs l l.length)) := by
  obtain ⟨R, hR⟩ : ∃ R, pkNs l l.length = R := ⟨_, rfl⟩
  rw [hR]
  refine meetsF Try.func36 (by kernel_rfl) cc36 cr36 rfl fun hf => ?_; unfold ck36
  simp only [go_sem, ↓reduceIte, Nat.reduceEqDiff, Nat.reduceBEq, Nat.reduceAdd, Nat.reduceLeDiff, Nat.reduceLT, reduceCtorEq, Nat.reduceMul, Nat.reduceSub, Int.reduceEq, Int.reduceLT, Int.reduceLE, Int.reduceToNat]
  refine loopg (fun q : Nat × Int => ⟨[(0, .ds (mapC pkC l)), (3, .i .i64 q.2), (4, .i .i64 q.1)], hp, m⟩)
    (fun q => q.1 ≤ l.length ∧ pkNs (l.drop q.1) q.2 = R) (fun q => l.length - q.1) (0, (l.length : Int)) ?_ ?_ (fun ⟨j, a⟩ hj => ?_)
  · exact ⟨Nat.zero_le _, hR⟩
  · refine weak_ok ?_ (Sub.base hf ?_) (Nat.le_refl _)
    all_goals first | (simp only [go_sem, ↓reduceIte, Nat.reduceEqDiff, Nat.reduceBEq, Nat.reduceAdd, Nat.reduceLeDiff, Nat.reduceLT, reduceCtorEq, Nat.reduceMul, Nat.reduceSub, Int.reduceEq, Int.reduceLT, Int.reduceLE, Int.reduceToNat]; done) | (dsimp only; omega) | trace_state
  dsimp only at hj
  obtain ⟨hj1, hj2⟩ := hj
  simp only [go_sem, ↓reduceIte, Nat.reduceEqDiff, Nat.reduceBEq, Nat.reduceAdd, Nat.reduceLeDiff, Nat.reduceLT, reduceCtorEq, Nat.reduceMul, Nat.reduceSub, Int.reduceEq, Int.reduceLT, Int.reduceLE, Int.reduceToNat]
  refine cdK_of (fun d => ?_) (fun d => ?_)
  · simp only [Bool.and_eq_true, decide_eq_true_eq] at d
    have d1 : j < l.length := by omega
    obtain ⟨p, ep⟩ : ∃ p, l[j]? = some p := ⟨l[j], by simp⟩
    rw [drop_at ep, pkNs, if_pos d.2] at hj2
    have k6 : j < 9223372036854775807 := by omega
    have hx := ih p (List.mem_of_getElem? ep)
    simp only [d1, getK_s (mapC_get pkC ep), go_sem, ↓reduceIte, Nat.reduceEqDiff, Nat.reduceBEq, Nat.reduceAdd, Nat.reduceLeDiff, Nat.reduceLT, reduceCtorEq, Nat.reduceMul, Nat.reduceSub, Int.reduceEq, Int.reduceLT, Int.reduceLE, Int.reduceToNat]
    refine vcCall.f (hx _ _) ?_
    simp only [wr64s j k6, go_sem, ↓reduceIte, Nat.reduceEqDiff, Nat.reduceBEq, Nat.reduceAdd, Nat.reduceLeDiff, Nat.reduceLT, reduceCtorEq, Nat.reduceMul, Nat.reduceSub, Int.reduceEq, Int.reduceLT, Int.reduceLE, Int.reduceToNat]
    refine ⟨(j + 1, IntKind.i64.wrap (a + pkN p)), ⟨d1, hj2⟩, by dsimp only; omega, weakG_ok ?_ (SubG.base hf ?_ ?_ ?_)⟩
    all_goals first | (simp only [go_sem, ↓reduceIte, Nat.reduceEqDiff, Nat.reduceBEq, Nat.reduceAdd, Nat.reduceLeDiff, Nat.reduceLT, reduceCtorEq, Nat.reduceMul, Nat.reduceSub, Int.reduceEq, Int.reduceLT, Int.reduceLE, Int.reduceToNat]; done) | (dsimp only; omega) | trace_state
  · have hab : a = R := by
      rw [← hj2, pkNs_at]
      simp only [Bool.and_eq_false_iff, decide_eq_false_iff_not] at d
      omega
    subst hab
    simp only [go_sem, ↓reduceIte, Nat.reduceEqDiff, Nat.reduceBEq, Nat.reduceAdd, Nat.reduceLeDiff, Nat.reduceLT, reduceCtorEq, Nat.reduceMul, Nat.reduceSub, Int.reduceEq, Int.reduceLT, Int.reduceLE, Int.reduceToNat]
theorem picks_ok (l : List Pk) (hl : wtKs l ≤ 1000000000000) (hp : CH) (m : Nat) : MeetsF Try.prog 36 hp m [.ds (mapC pkC l)] (.i .i64 (pkNs l l.length)) := by
  have key : ∀ p : Pk, wtK p ≤ 1000000000000 → ∀ hp m, MeetsF Try.prog 36 hp m [.ds (mapC pkC p.picks)] (.i .i64 (pkN p)) :=
    fun p => Pk.ind (Q := fun p => wtK p ≤ 1000000000000 → ∀ hp m, MeetsF Try.prog 36 hp m [.ds (mapC pkC p.picks)] (.i .i64 (pkN p))) (fun p ih hw hp m => by
      have := wtK_eq p
      have := wtKs_len p.picks
      rw [pkN_eq]
      exact picks_of p.picks (by omega) (fun q hq => ih q hq (by have := wtKs_mem hq; omega)) hp m) p
  have := wtKs_len l
  exact picks_of l (by omega) (fun p hp => key p (by have := wtKs_mem hp; omega)) hp m
theorem picks_okG (l : List Pk) (hl : PkR l) (hp : CH) (m : Nat) : MeetsF Try.prog 36 hp m [.ds (mapC pkC l)] (.i .i64 (pkNs l l.length)) := by
  have key : ∀ p : Pk, PkR p.picks → ∀ hp m, MeetsF Try.prog 36 hp m [.ds (mapC pkC p.picks)] (.i .i64 (pkN p)) :=
    fun p => Pk.ind (Q := fun p => PkR p.picks → ∀ hp m, MeetsF Try.prog 36 hp m [.ds (mapC pkC p.picks)] (.i .i64 (pkN p))) (fun p ih hw hp m => by
      have h1 := hw.n
      rw [pkN_eq]
      exact picks_of p.picks (by omega) (fun q hq => ih q hq (hw.x hq)) hp m) p
  have h1 := hl.n
  exact picks_of l (by omega) (fun p hp => key p (hl.x hp)) hp m
/-- No two picks have the same type and key, no key is __t. -/
inductive Sg : List Pk → Prop
  | mk (l : List Pk) : (∀ (i k : Nat) p q, k < i → l[k]? = some p → l[i]? = some q → ¬ (p.on = q.on ∧ p.key = q.key)) → (∀ p ∈ l, p.key ≠ ttN) → (∀ p ∈ l, Sg p.picks) → Sg l
theorem Sg.n {l : List Pk} (h : Sg l) : ∀ (i k : Nat) p q, k < i → l[k]? = some p → l[i]? = some q → ¬ (p.on = q.on ∧ p.key = q.key) := by cases h; assumption
theorem Sg.t {l : List Pk} (h : Sg l) : ∀ p ∈ l, p.key ≠ ttN := by cases h; assumption
theorem Sg.p {l : List Pk} (h : Sg l) : ∀ p ∈ l, Sg p.picks := by cases h; assumption
theorem single_of (l : List Pk) (hl : l.length ≤ 1000000000000) (ih : ∀ p ∈ l, ∀ b : Bool, (b = true ↔ Sg p.picks) → ∀ hp m, MeetsF Try.prog 42 hp m [.ds (mapC pkC p.picks)] (.b b)) (b : Bool) (hb : b = true ↔ Sg l) (hp : CH) (m : Nat) :
    MeetsF Try.prog 42 hp m [.ds (mapC pkC l)] (.b b) := by
  have no : ¬ Sg l → b = false := fun h => by
    cases b
    · rfl
    · exact absurd (hb.1 rfl) h
  refine meetsF Try.func42 (by kernel_rfl) cc42 cr42 rfl fun hf => ?_; unfold ck42
  simp only [go_sem, ↓reduceIte, Nat.reduceEqDiff, Nat.reduceBEq, Nat.reduceAdd, Nat.reduceLeDiff, Nat.reduceLT, reduceCtorEq, Nat.reduceMul, Nat.reduceSub, Int.reduceEq, Int.reduceLT, Int.reduceLE, Int.reduceToNat]
  refine loopg (fun q : Nat => ⟨[(0, .ds (mapC pkC l)), (3, .i .i64 q)], hp, m⟩)
    (fun j => j ≤ l.length ∧ (∀ (i k : Nat) p q, i < j → k < i → l[k]? = some p → l[i]? = some q → ¬ (p.on = q.on ∧ p.key = q.key)) ∧ (∀ i p, i < j → l[i]? = some p → p.key ≠ ttN ∧ Sg p.picks)) (fun q => l.length - q) 0 ?_ ?_ (fun j hj => ?_)
  · exact ⟨Nat.zero_le _, fun i k p q h => absurd h (Nat.not_lt_zero _), fun i p h => absurd h (Nat.not_lt_zero _)⟩
  · refine weak_ok ?_ (Sub.base hf ?_) (Nat.le_refl _)
    all_goals first | (simp only [go_sem, ↓reduceIte, Nat.reduceEqDiff, Nat.reduceBEq, Nat.reduceAdd, Nat.reduceLeDiff, Nat.reduceLT, reduceCtorEq, Nat.reduceMul, Nat.reduceSub, Int.reduceEq, Int.reduceLT, Int.reduceLE, Int.reduceToNat]; done) | (dsimp only; omega) | trace_state
  obtain ⟨hj1, hj2, hj3⟩ := hj
  simp only [go_sem, ↓reduceIte, Nat.reduceEqDiff, Nat.reduceBEq, Nat.reduceAdd, Nat.reduceLeDiff, Nat.reduceLT, reduceCtorEq, Nat.reduceMul, Nat.reduceSub, Int.reduceEq, Int.reduceLT, Int.reduceLE, Int.reduceToNat]
  refine cdK_of (fun d => ?_) (fun d => ?_)
  · have d1 : j < l.length := by simpa using d
    obtain ⟨q, eq⟩ : ∃ p, l[j]? = some p := ⟨l[j], by simp⟩
    simp only [go_sem, ↓reduceIte, Nat.reduceEqDiff, Nat.reduceBEq, Nat.reduceAdd, Nat.reduceLeDiff, Nat.reduceLT, reduceCtorEq, Nat.reduceMul, Nat.reduceSub, Int.reduceEq, Int.reduceLT, Int.reduceLE, Int.reduceToNat]
    refine loopg (fun k : Nat => ⟨[(0, .ds (mapC pkC l)), (3, .i .i64 j), (4, .i .i64 k)], hp, m⟩)
      (fun k => k ≤ j ∧ ∀ i p, i < k → l[i]? = some p → ¬ (p.on = q.on ∧ p.key = q.key)) (fun k => j - k) 0 ?_ ?_ (fun k hk => ?_)
    · exact ⟨Nat.zero_le _, fun i p h => absurd h (Nat.not_lt_zero _)⟩
    · refine weak_ok ?_ (Sub.base hf ?_) (Nat.le_refl _)
      all_goals first | (simp only [go_sem, ↓reduceIte, Nat.reduceEqDiff, Nat.reduceBEq, Nat.reduceAdd, Nat.reduceLeDiff, Nat.reduceLT, reduceCtorEq, Nat.reduceMul, Nat.reduceSub, Int.reduceEq, Int.reduceLT, Int.reduceLE, Int.reduceToNat]; done) | (dsimp only; omega) | trace_state
    obtain ⟨hk1, hk2⟩ := hk
    simp only [go_sem, ↓reduceIte, Nat.reduceEqDiff, Nat.reduceBEq, Nat.reduceAdd, Nat.reduceLeDiff, Nat.reduceLT, reduceCtorEq, Nat.reduceMul, Nat.reduceSub, Int.reduceEq, Int.reduceLT, Int.reduceLE, Int.reduceToNat]
    refine cdK_of (fun c => ?_) (fun c => ?_)
    · have c1 : k < j := by simpa using c
      have c2 : k < l.length := by omega
      obtain ⟨p, ep⟩ : ∃ p, l[k]? = some p := ⟨l[k], by simp⟩
      have k6 : k < 9223372036854775807 := by omega
      simp only [c2, d1, getK_s (mapC_get pkC ep), getK_s (mapC_get pkC eq), mapC_get pkC ep, mapC_get pkC eq, go_sem, ↓reduceIte, Nat.reduceEqDiff, Nat.reduceBEq, Nat.reduceAdd, Nat.reduceLeDiff, Nat.reduceLT, reduceCtorEq, Nat.reduceMul, Nat.reduceSub, Int.reduceEq, Int.reduceLT, Int.reduceLE, Int.reduceToNat]
      refine cdK_of (fun e => ?_) (fun e => ?_)
      · have e : p.on = q.on ∧ p.key = q.key := by simpa using e
        have hb0 := no fun h => h.n j k p q c1 ep eq e
        subst hb0
        simp only [go_sem, ↓reduceIte, Nat.reduceEqDiff, Nat.reduceBEq, Nat.reduceAdd, Nat.reduceLeDiff, Nat.reduceLT, reduceCtorEq, Nat.reduceMul, Nat.reduceSub, Int.reduceEq, Int.reduceLT, Int.reduceLE, Int.reduceToNat]
      · have e : ¬ (p.on = q.on ∧ p.key = q.key) := by simpa using e
        simp only [wr64s k k6, go_sem, ↓reduceIte, Nat.reduceEqDiff, Nat.reduceBEq, Nat.reduceAdd, Nat.reduceLeDiff, Nat.reduceLT, reduceCtorEq, Nat.reduceMul, Nat.reduceSub, Int.reduceEq, Int.reduceLT, Int.reduceLE, Int.reduceToNat]
        refine ⟨k + 1, ⟨c1, fun i p' hi hp' => ?_⟩, by omega, weakG_ok ?_ (SubG.base hf ?_ ?_ ?_)⟩
        · rcases Nat.lt_or_ge i k with h | h
          · exact hk2 i p' h hp'
          · have : i = k := by omega
            subst this
            rw [ep] at hp'
            cases hp'
            exact e
        all_goals first | (simp only [go_sem, ↓reduceIte, Nat.reduceEqDiff, Nat.reduceBEq, Nat.reduceAdd, Nat.reduceLeDiff, Nat.reduceLT, reduceCtorEq, Nat.reduceMul, Nat.reduceSub, Int.reduceEq, Int.reduceLT, Int.reduceLE, Int.reduceToNat]; done) | (dsimp only; omega) | trace_state
    · have c : k = j := by simp at c; omega
      subst c
      have k6 : k < 9223372036854775807 := by omega
      obtain ⟨b', hb'⟩ : ∃ b' : Bool, (b' = true ↔ Sg q.picks) := by
        by_cases h : Sg q.picks
        · exact ⟨true, by simp [h]⟩
        · exact ⟨false, by simp [h]⟩
      have hx := ih q (List.mem_of_getElem? eq) b' hb'
      by_cases e0 : q.key = ttN
      · have hb0 := no fun h => h.t q (List.mem_of_getElem? eq) e0
        subst hb0
        simp only [d1, getK_s (mapC_get pkC eq), mapC_get pkC eq, e0, go_sem, ↓reduceIte, Nat.reduceEqDiff, Nat.reduceBEq, Nat.reduceAdd, Nat.reduceLeDiff, Nat.reduceLT, reduceCtorEq, Nat.reduceMul, Nat.reduceSub, Int.reduceEq, Int.reduceLT, Int.reduceLE, Int.reduceToNat]
        refine gCall_no ?_
        simp only [go_sem, ↓reduceIte, Nat.reduceEqDiff, Nat.reduceBEq, Nat.reduceAdd, Nat.reduceLeDiff, Nat.reduceLT, reduceCtorEq, Nat.reduceMul, Nat.reduceSub, Int.reduceEq, Int.reduceLT, Int.reduceLE, Int.reduceToNat]
      simp only [d1, getK_s (mapC_get pkC eq), mapC_get pkC eq, e0, go_sem, ↓reduceIte, Nat.reduceEqDiff, Nat.reduceBEq, Nat.reduceAdd, Nat.reduceLeDiff, Nat.reduceLT, reduceCtorEq, Nat.reduceMul, Nat.reduceSub, Int.reduceEq, Int.reduceLT, Int.reduceLE, Int.reduceToNat]
      refine gCall.f (fun _ => hx _ _) ?_
      simp only [d1, getK_s (mapC_get pkC eq), mapC_get pkC eq, go_sem, ↓reduceIte, Nat.reduceEqDiff, Nat.reduceBEq, Nat.reduceAdd, Nat.reduceLeDiff, Nat.reduceLT, reduceCtorEq, Nat.reduceMul, Nat.reduceSub, Int.reduceEq, Int.reduceLT, Int.reduceLE, Int.reduceToNat]
      refine cdK_of (fun e => ?_) (fun e => ?_)
      · have e : ¬ b' = true := by simpa using e
        have hb0 := no fun h => e (hb'.2 (h.p q (List.mem_of_getElem? eq)))
        subst hb0
        simp only [go_sem, ↓reduceIte, Nat.reduceEqDiff, Nat.reduceBEq, Nat.reduceAdd, Nat.reduceLeDiff, Nat.reduceLT, reduceCtorEq, Nat.reduceMul, Nat.reduceSub, Int.reduceEq, Int.reduceLT, Int.reduceLE, Int.reduceToNat]
      · have e : ¬ q.key = ttN ∧ b' = true := ⟨e0, by simpa using e⟩
        simp only [wr64s k k6, go_sem, ↓reduceIte, Nat.reduceEqDiff, Nat.reduceBEq, Nat.reduceAdd, Nat.reduceLeDiff, Nat.reduceLT, reduceCtorEq, Nat.reduceMul, Nat.reduceSub, Int.reduceEq, Int.reduceLT, Int.reduceLE, Int.reduceToNat]
        refine ⟨k + 1, ⟨d1, fun i k' p' q' h1 h2 h3 h4 => ?_, fun i p' h1 h2 => ?_⟩, by omega, weakG_ok ?_ (SubG.base hf ?_ ?_ ?_)⟩
        · rcases Nat.lt_or_ge i k with h | h
          · exact hj2 i k' p' q' h h2 h3 h4
          · have : i = k := by omega
            subst this
            rw [eq] at h4
            cases h4
            exact hk2 k' p' h2 h3
        · rcases Nat.lt_or_ge i k with h | h
          · exact hj3 i p' h h2
          · have : i = k := by omega
            subst this
            rw [eq] at h2
            cases h2
            exact ⟨e.1, hb'.1 e.2⟩
        all_goals first | (simp only [go_sem, ↓reduceIte, Nat.reduceEqDiff, Nat.reduceBEq, Nat.reduceAdd, Nat.reduceLeDiff, Nat.reduceLT, reduceCtorEq, Nat.reduceMul, Nat.reduceSub, Int.reduceEq, Int.reduceLT, Int.reduceLE, Int.reduceToNat]; done) | (dsimp only; omega) | trace_state
  · have d : j = l.length := by simp at d; omega
    subst d
    have : b = true := hb.2 (.mk _ (fun i k p q h1 h2 h3 => hj2 i k p q (List.getElem?_eq_some_iff.1 h3).1 h1 h2 h3) (fun p hp => ?_) fun p hp => ?_)
    · subst this
      simp only [go_sem, ↓reduceIte, Nat.reduceEqDiff, Nat.reduceBEq, Nat.reduceAdd, Nat.reduceLeDiff, Nat.reduceLT, reduceCtorEq, Nat.reduceMul, Nat.reduceSub, Int.reduceEq, Int.reduceLT, Int.reduceLE, Int.reduceToNat]
    · obtain ⟨i, hi, rfl⟩ := List.mem_iff_getElem.1 hp
      exact (hj3 i _ hi (by simp)).1
    · obtain ⟨i, hi, rfl⟩ := List.mem_iff_getElem.1 hp
      exact (hj3 i _ hi (by simp)).2
theorem exB (p : Prop) : ∃ b : Bool, (b = true ↔ p) := by
  by_cases h : p
  · exact ⟨true, by simp [h]⟩
  · exact ⟨false, by simp [h]⟩
theorem single_ok (l : List Pk) (hl : wtKs l ≤ 1000000000000) (b : Bool) (hb : b = true ↔ Sg l) (hp : CH) (m : Nat) : MeetsF Try.prog 42 hp m [.ds (mapC pkC l)] (.b b) := by
  have key : ∀ p : Pk, wtK p ≤ 1000000000000 → ∀ b : Bool, (b = true ↔ Sg p.picks) → ∀ hp m, MeetsF Try.prog 42 hp m [.ds (mapC pkC p.picks)] (.b b) :=
    fun p => Pk.ind (Q := fun p => wtK p ≤ 1000000000000 → ∀ b : Bool, (b = true ↔ Sg p.picks) → ∀ hp m, MeetsF Try.prog 42 hp m [.ds (mapC pkC p.picks)] (.b b)) (fun p ih hw b hb hp m => by
      have := wtK_eq p
      have := wtKs_len p.picks
      exact single_of p.picks (by omega) (fun q hq => ih q hq (by have := wtKs_mem hq; omega)) b hb hp m) p
  have := wtKs_len l
  exact single_of l (by omega) (fun p hp => key p (by have := wtKs_mem hp; omega)) b hb hp m
theorem single_okG (l : List Pk) (hl : PkR l) (b : Bool) (hb : b = true ↔ Sg l) (hp : CH) (m : Nat) : MeetsF Try.prog 42 hp m [.ds (mapC pkC l)] (.b b) := by
  have key : ∀ p : Pk, PkR p.picks → ∀ b : Bool, (b = true ↔ Sg p.picks) → ∀ hp m, MeetsF Try.prog 42 hp m [.ds (mapC pkC p.picks)] (.b b) :=
    fun p => Pk.ind (Q := fun p => PkR p.picks → ∀ b : Bool, (b = true ↔ Sg p.picks) → ∀ hp m, MeetsF Try.prog 42 hp m [.ds (mapC pkC p.picks)] (.b b)) (fun p ih hw b hb hp m => by
      have h1 := hw.n
      exact single_of p.picks (by omega) (fun q hq => ih q hq (hw.x hq)) b hb hp m) p
  have h1 := hl.n
  exact single_of l (by omega) (fun p hp => key p (hl.x hp)) b hb hp m
end Go.Proofs.Ytmcgjccheehehaa
