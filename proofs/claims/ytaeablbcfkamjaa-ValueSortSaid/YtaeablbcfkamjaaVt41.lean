/-
  The parts VsB of the proof, in one file. Conditions: none.
-/
import Derived.Test.YtaeablbcfkamjaaVt40
namespace Go.Proofs.Ytaeablbcfkamjaa.Vs
set_option linter.unusedVariables false
set_option maxRecDepth 20000
/-- Search by halves. -/
def bs1 (q : Nat → Bool) (i j : Nat) : Nat := if i < j then (if q ((i + j) / 2) = true then bs1 q ((i + j) / 2 + 1) j else bs1 q i ((i + j) / 2)) else i
termination_by j - i
decreasing_by all_goals omega
theorem bs1_spec (q : Nat → Bool) : ∀ (n i j lo hi : Nat), j - i ≤ n → i ≤ j → lo ≤ i → j ≤ hi → (i = lo ∨ q (i - 1) = true) → (j = hi ∨ q j = false) →
    lo ≤ bs1 q i j ∧ bs1 q i j ≤ hi ∧ (bs1 q i j = lo ∨ q (bs1 q i j - 1) = true) ∧ (bs1 q i j = hi ∨ q (bs1 q i j) = false)
  | n, i, j, lo, hi, hn, h1, h2, h3, h4, h5 => by
    rw [bs1]
    by_cases c : i < j
    · rw [if_pos c]
      obtain ⟨n, rfl⟩ : ∃ k, n = k + 1 := ⟨n - 1, by omega⟩
      by_cases d : q ((i + j) / 2) = true
      · rw [if_pos d]
        exact bs1_spec q n _ _ lo hi (by omega) (by omega) (by omega) h3 (.inr (by rw [Nat.add_sub_cancel]; exact d)) h5
      · rw [if_neg d]
        exact bs1_spec q n _ _ lo hi (by omega) (by omega) h2 (by omega) h4 (.inr (by simpa using d))
    · rw [if_neg c]
      have : i = j := by omega
      subst this
      exact ⟨h2, h3, h4, h5⟩
def cutS (less : Nat → Nat → Bool) (a m b : Nat) (d : List Nat) : Nat :=
  bs1 (fun c => !less (rd d ((a + b) / 2 + m - 1 - c)) (rd d c)) (if (a + b) / 2 < m then (a + b) / 2 + m - b else a) (if (a + b) / 2 < m then (a + b) / 2 else m)
def turnS (st m en : Nat) (d : List Nat) : List Nat := if st < m ∧ m < en then pm d (rt st m en) else d
/-- Merging in place. -/
def symF (less : Nat → Nat → Bool) : Nat → Nat → Nat → Nat → List Nat → List Nat
  | 0, _, _, _, d => d
  | f + 1, a, m, b, d =>
    if m - a = 1 then pm d (mvR a (bs1 (fun h => less (rd d h) (rd d a)) m b - 1))
    else if b - m = 1 then pm d (mvL m (bs1 (fun h => !less (rd d m) (rd d h)) a m))
    else if (a + b) / 2 < (a + b) / 2 + m - cutS less a m b d ∧ (a + b) / 2 + m - cutS less a m b d < b then
      symF less f ((a + b) / 2) ((a + b) / 2 + m - cutS less a m b d) b (if a < cutS less a m b d ∧ cutS less a m b d < (a + b) / 2 then symF less f a (cutS less a m b d) ((a + b) / 2) (turnS (cutS less a m b d) m ((a + b) / 2 + m - cutS less a m b d) d) else turnS (cutS less a m b d) m ((a + b) / 2 + m - cutS less a m b d) d)
    else if a < cutS less a m b d ∧ cutS less a m b d < (a + b) / 2 then symF less f a (cutS less a m b d) ((a + b) / 2) (turnS (cutS less a m b d) m ((a + b) / 2 + m - cutS less a m b d) d) else turnS (cutS less a m b d) m ((a + b) / 2 + m - cutS less a m b d) d
section
variable {T : Nat → Nat → Prop} {less : Nat → Nat → Bool}
theorem turnS_eq (st m en : Nat) (d : List Nat) (h : st ≤ m) (h2 : m ≤ en) : turnS st m en d = pm d (rt st m en) := by
  unfold turnS
  split
  · rfl
  · refine (pm_id fun k hk => ?_).symm
    unfold rt
    repeat' split
    all_goals omega
theorem turnS_len (st m en : Nat) (d : List Nat) : (turnS st m en d).length = d.length := by
  unfold turnS
  split
  · exact pm_len _ _
  · rfl
theorem symF_len (less : Nat → Nat → Bool) : ∀ (f a m b : Nat) (d : List Nat), (symF less f a m b d).length = d.length
  | 0, _, _, _, d => rfl
  | f + 1, a, m, b, d => by
    rw [symF]
    repeat' split
    all_goals first | exact pm_len _ _ | (simp only [symF_len less f, turnS_len])
theorem cut_of {d : List Nat} {a m b : Nat} (hp : Pre T less d a m b) (h1 : a < m) (h2 : m < b) : Cut T d a m b ((a + b) / 2) (cutS less a m b d) ((a + b) / 2 + m - cutS less a m b d) ∧ cutS less a m b d ≤ (a + b) / 2 := by
  have key := bs1_spec (fun c => !less (rd d ((a + b) / 2 + m - 1 - c)) (rd d c)) _ (if (a + b) / 2 < m then (a + b) / 2 + m - b else a) (if (a + b) / 2 < m then (a + b) / 2 else m) _ _ (Nat.le_refl _) (by split <;> omega) (Nat.le_refl _) (Nat.le_refl _) (.inl rfl) (.inl rfl)
  have hst : bs1 (fun c => !less (rd d ((a + b) / 2 + m - 1 - c)) (rd d c)) (if (a + b) / 2 < m then (a + b) / 2 + m - b else a) (if (a + b) / 2 < m then (a + b) / 2 else m) = cutS less a m b d := rfl
  rw [hst] at key
  generalize cutS less a m b d = st at key
  obtain ⟨k1, k2, k3, k4⟩ := key
  have b1 : a ≤ st ∧ st ≤ m ∧ st ≤ (a + b) / 2 ∧ (a + b) / 2 + m - st ≤ b := by
    by_cases c : (a + b) / 2 < m
    · rw [if_pos c] at k1 k2; omega
    · rw [if_neg c] at k1 k2; omega
  obtain ⟨b1, b2, b3, b4⟩ := b1
  refine ⟨⟨b1, b2, by omega, b4, by omega, fun q1 q2 => ?_, fun q1 q2 => ?_⟩, b3⟩
  · have : ¬ st = (if (a + b) / 2 < m then (a + b) / 2 + m - b else a) := by split <;> omega
    have h := k3.resolve_left this
    simp only [Bool.not_eq_true'] at h
    have e : (a + b) / 2 + m - 1 - (st - 1) = (a + b) / 2 + m - st := by omega
    rw [e] at h
    exact (hp.x (st - 1) _ (by omega) (by omega) (by omega) q2).2 h
  · have : ¬ st = (if (a + b) / 2 < m then (a + b) / 2 else m) := by split <;> omega
    have h := k4.resolve_left this
    simp only [Bool.not_eq_false'] at h
    have e : (a + b) / 2 + m - 1 - st = (a + b) / 2 + m - st - 1 := by omega
    rw [e] at h
    exact (hp.x st _ (by omega) (by omega) (by omega) (by omega)).1 h
theorem symF_mrg (hT : ∀ x y z, T x y → T y z → T x z) : ∀ (f a m b : Nat) (d : List Nat), Pre T less d a m b → a < m → m < b → b ≤ d.length → b - a ≤ f → Mrg T a b d (symF less f a m b d)
  | 0, a, m, b, d, _, h1, h2, _, hf => by omega
  | f + 1, a, m, b, d, hp, h1, h2, hb, hf => by
    rw [symF]
    by_cases c1 : m - a = 1
    · rw [if_pos c1]
      have : m = a + 1 := by omega
      subst this
      obtain ⟨k1, k2, k3, k4⟩ := bs1_spec (fun h => less (rd d h) (rd d a)) _ (a + 1) b (a + 1) b (Nat.le_refl _) (by omega) (Nat.le_refl _) (Nat.le_refl _) (.inl rfl) (.inl rfl)
      exact mrg_left hT hp hb k1 k2 k3 k4
    rw [if_neg c1]
    by_cases c2 : b - m = 1
    · rw [if_pos c2]
      have : b = m + 1 := by omega
      subst this
      obtain ⟨k1, k2, k3, k4⟩ := bs1_spec (fun h => !less (rd d m) (rd d h)) _ a m a m (Nat.le_refl _) (by omega) (Nat.le_refl _) (Nat.le_refl _) (.inl rfl) (.inl rfl)
      exact mrg_right hT hp hb k1 k2 (by simpa using k3) (by simpa using k4)
    rw [if_neg c2]
    obtain ⟨hc, hs⟩ := cut_of hp h1 h2
    generalize cutS less a m b d = st at hc hs ⊢
    have ht := turnS_eq st m ((a + b) / 2 + m - st) d hc.h2 hc.h3
    rw [ht]
    have g1 := hc.h1
    have g2 := hc.h2
    have g4 := hc.h4
    obtain ⟨d1, hd1⟩ : ∃ d1, (if a < st ∧ st < (a + b) / 2 then symF less f a st ((a + b) / 2) (pm d (rt st m ((a + b) / 2 + m - st))) else pm d (rt st m ((a + b) / 2 + m - st))) = d1 := ⟨_, rfl⟩
    rw [hd1]
    have M1 : (a < st ∧ st < (a + b) / 2 → Mrg T a ((a + b) / 2) (pm d (rt st m ((a + b) / 2 + m - st))) d1) ∧ (¬ (a < st ∧ st < (a + b) / 2) → d1 = pm d (rt st m ((a + b) / 2 + m - st))) := by
      refine ⟨fun q => ?_, fun q => ?_⟩
      · rw [if_pos q] at hd1
        rw [← hd1]
        exact symF_mrg hT f _ _ _ _ (hc.pre1 hb hp) q.1 q.2 (by rw [pm_len]; omega) (by omega)
      · rw [if_neg q] at hd1
        exact hd1.symm
    have ho : ∀ k, (a + b) / 2 ≤ k → rd d1 k = rd (pm d (rt st m ((a + b) / 2 + m - st))) k := fun k hk => by
      by_cases q : a < st ∧ st < (a + b) / 2
      · exact (M1.1 q).out k (by omega)
      · rw [M1.2 q]
    have hl : d1.length = d.length := by
      rw [← hd1]
      split
      · rw [symF_len, pm_len]
      · exact pm_len _ _
    refine hc.mrg hT hb hp M1 ⟨fun q => ?_, fun q => ?_⟩
    · rw [if_pos q]
      exact symF_mrg hT f _ _ _ _ (hc.pre2 hb hp ho) q.1 q.2 (by rw [hl]; exact hb) (by omega)
    · rw [if_neg q]
end
end Go.Proofs.Ytaeablbcfkamjaa.Vs
