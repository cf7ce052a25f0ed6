/-
  The parts VsA of the proof, in one file. Conditions: none.
-/
import Derived.Test.YtaeablbcfkamjaaVt39
namespace Go.Proofs.Ytaeablbcfkamjaa.Vs
set_option linter.unusedVariables false
/-- A list read at a place. -/
def rd (d : List Nat) (k : Nat) : Nat := d.getD k 0
/-- The places of a list exchanged. -/
def pm (d : List Nat) (σ : Nat → Nat) : List Nat := (List.range d.length).map fun k => rd d (σ k)
theorem pm_len (d : List Nat) (σ : Nat → Nat) : (pm d σ).length = d.length := by simp [pm]
theorem pm_get (d : List Nat) (σ : Nat → Nat) {k : Nat} (h : k < d.length) : (pm d σ)[k]? = some (rd d (σ k)) := by simp [pm, h]
theorem rd_pm (d : List Nat) (σ : Nat → Nat) {k : Nat} (h : k < d.length) : rd (pm d σ) k = rd d (σ k) := by
  unfold rd
  rw [List.getD_eq_getElem?_getD, pm_get d σ h]
  rfl
theorem get_rd {d : List Nat} {k : Nat} (h : k < d.length) : d[k]? = some (rd d k) := by
  unfold rd
  rw [List.getD_eq_getElem?_getD, List.getElem?_eq_getElem h]
  rfl
theorem ext_rd {c d : List Nat} (hl : c.length = d.length) (h : ∀ k, k < d.length → rd c k = rd d k) : c = d := by
  apply List.ext_getElem?
  intro k
  rcases Nat.lt_or_ge k d.length with q | q
  · rw [get_rd q, get_rd (hl ▸ q), h k q]
  · rw [List.getElem?_eq_none q, List.getElem?_eq_none (by omega)]
theorem rd_set (d : List Nat) (i : Nat) (x : Nat) (k : Nat) (h : i < d.length) : rd (d.set i x) k = if k = i then x else rd d k := by
  unfold rd
  rw [List.getD_eq_getElem?_getD, List.getD_eq_getElem?_getD]
  by_cases e : k = i
  · subst e; rw [List.getElem?_set_self h, if_pos rfl]; rfl
  · rw [List.getElem?_set_ne (fun q => e q.symm), if_neg e]
theorem pm_id {d : List Nat} {σ : Nat → Nat} (h : ∀ k, k < d.length → σ k = k) : pm d σ = d := ext_rd (pm_len _ _) fun k hk => by rw [rd_pm d σ hk, h k hk]
theorem pm_pm {d : List Nat} {σ τ ω : Nat → Nat} (h : ∀ k, k < d.length → τ k < d.length ∧ σ (τ k) = ω k) : pm (pm d σ) τ = pm d ω := ext_rd (by rw [pm_len, pm_len, pm_len]) fun k hk => by
  rw [pm_len] at hk
  rw [rd_pm _ τ (by rw [pm_len]; exact hk), rd_pm d σ (h k hk).1, rd_pm d ω hk, (h k hk).2]
/-- n places from a on exchanged with those from b on. -/
def sw (a b n k : Nat) : Nat := if a ≤ k ∧ k < a + n then k + (b - a) else if b ≤ k ∧ k < b + n then k - (b - a) else k
theorem sw_step {d : List Nat} {a b n i : Nat} (h1 : a + n ≤ b) (h2 : b + n ≤ d.length) (hi : i < n) :
    ((pm d (sw a b i)).set (a + i) (rd (pm d (sw a b i)) (b + i))).set (b + i) (rd (pm d (sw a b i)) (a + i)) = pm d (sw a b (i + 1)) := by
  have e1 : rd (pm d (sw a b i)) (b + i) = rd d (b + i) := by
    rw [rd_pm _ _ (by omega)]; congr 1; unfold sw; split <;> (try split) <;> omega
  have e2 : rd (pm d (sw a b i)) (a + i) = rd d (a + i) := by
    rw [rd_pm _ _ (by omega)]; congr 1; unfold sw; split <;> (try split) <;> omega
  refine ext_rd (by simp [pm_len]) fun k hk => ?_
  rw [pm_len] at hk
  rw [rd_set _ _ _ _ (by rw [List.length_set, pm_len]; omega), rd_set _ _ _ _ (by rw [pm_len]; omega), e1, e2, rd_pm _ _ hk, rd_pm _ _ hk]
  by_cases c1 : k = b + i
  · rw [if_pos c1]; congr 1; unfold sw; split <;> (try split) <;> omega
  · rw [if_neg c1]
    by_cases c2 : k = a + i
    · rw [if_pos c2]; congr 1; unfold sw; split <;> (try split) <;> omega
    · rw [if_neg c2]
      congr 1
      unfold sw
      repeat' split
      all_goals omega
/-- The part from m on comes ahead of the part from a on. -/
def rt (a m b k : Nat) : Nat := if a ≤ k ∧ k < a + (b - m) then k + (m - a) else if a + (b - m) ≤ k ∧ k < b then k - (b - m) else k
theorem rt_gt {d : List Nat} {m i j : Nat} (h1 : i ≤ m) (h2 : m + j ≤ d.length) (hij : j < i) : pm (pm d (sw (m - i) m j)) (rt (m - (i - j)) m (m + j)) = pm d (rt (m - i) m (m + j)) := by
  refine pm_pm fun k hk => ?_
  unfold sw rt
  refine ⟨?_, ?_⟩
  · split <;> (try split) <;> omega
  · repeat' split
    all_goals omega
theorem rt_lt {d : List Nat} {m i j : Nat} (h1 : i ≤ m) (h2 : m + j ≤ d.length) (hij : i < j) : pm (pm d (sw (m - i) (m + j - i) i)) (rt (m - i) m (m + (j - i))) = pm d (rt (m - i) m (m + j)) := by
  refine pm_pm fun k hk => ?_
  unfold sw rt
  refine ⟨?_, ?_⟩
  · split <;> (try split) <;> omega
  · repeat' split
    all_goals omega
theorem rt_eq {d : List Nat} {m i : Nat} (h1 : i ≤ m) (h2 : m + i ≤ d.length) : pm d (sw (m - i) m i) = pm d (rt (m - i) m (m + i)) := by
  refine ext_rd (by rw [pm_len, pm_len]) fun k hk => ?_
  rw [pm_len] at hk
  rw [rd_pm _ _ hk, rd_pm _ _ hk]
  congr 1
  unfold sw rt
  repeat' split
  all_goals omega
section
variable {T : Nat → Nat → Prop} {less : Nat → Nat → Bool}
/-- Ascending from a to b. -/
def Srt (T : Nat → Nat → Prop) (d : List Nat) (a b : Nat) : Prop := ∀ i j, a ≤ i → i < j → j < b → T (rd d i) (rd d j)
structure Mrg (T : Nat → Nat → Prop) (a b : Nat) (d c : List Nat) : Prop where
  len : c.length = d.length
  out : ∀ k, ¬ (a ≤ k ∧ k < b) → rd c k = rd d k
  mem : ∀ k, a ≤ k → k < b → ∃ k', a ≤ k' ∧ k' < b ∧ rd c k = rd d k'
  srt : Srt T c a b
/-- Two parts, each ascending; between them the comparison tells the order. -/
structure Pre (T : Nat → Nat → Prop) (less : Nat → Nat → Bool) (d : List Nat) (a m b : Nat) : Prop where
  l : Srt T d a m
  r : Srt T d m b
  x : ∀ i j, a ≤ i → i < m → m ≤ j → j < b → (less (rd d j) (rd d i) = true → T (rd d j) (rd d i)) ∧ (less (rd d j) (rd d i) = false → T (rd d i) (rd d j))
theorem Srt.le (hT : ∀ x y z, T x y → T y z → T x z) {d : List Nat} {a b : Nat} (h : Srt T d a b) {i j : Nat} {z : Nat} (h1 : a ≤ i) (h2 : i ≤ j) (h3 : j < b) (q : T (rd d j) z) : T (rd d i) z := by
  rcases Nat.lt_or_ge i j with c | c
  · exact hT _ _ _ (h i j h1 c h3) q
  · have : i = j := by omega
    subst this; exact q
theorem Srt.ge (hT : ∀ x y z, T x y → T y z → T x z) {d : List Nat} {a b : Nat} (h : Srt T d a b) {i j : Nat} {z : Nat} (h1 : a ≤ i) (h2 : i ≤ j) (h3 : j < b) (q : T z (rd d i)) : T z (rd d j) := by
  rcases Nat.lt_or_ge i j with c | c
  · exact hT _ _ _ q (h i j h1 c h3)
  · have : i = j := by omega
    subst this; exact q
/-- One element moved to the right, from a to t. -/
def mvR (a t k : Nat) : Nat := if a ≤ k ∧ k < t then k + 1 else if k = t then a else k
theorem mvR_step {d : List Nat} {a t : Nat} (h1 : a ≤ t) (h2 : t + 1 < d.length) :
    ((pm d (mvR a t)).set t (rd (pm d (mvR a t)) (t + 1))).set (t + 1) (rd (pm d (mvR a t)) t) = pm d (mvR a (t + 1)) := by
  refine ext_rd (by simp [pm_len]) fun k hk => ?_
  rw [pm_len] at hk
  rw [rd_set _ _ _ _ (by rw [List.length_set, pm_len]; omega), rd_set _ _ _ _ (by rw [pm_len]; omega), rd_pm _ _ h2, rd_pm _ _ (by omega), rd_pm _ _ hk, rd_pm _ _ hk]
  unfold mvR
  repeat' split
  all_goals first | omega | (congr 1; omega)
/-- One element moved to the left, from m to t. -/
def mvL (m t k : Nat) : Nat := if k = t then m else if t < k ∧ k ≤ m then k - 1 else k
theorem mvL_step {d : List Nat} {m t : Nat} (h1 : t + 1 ≤ m) (h2 : m < d.length) :
    ((pm d (mvL m (t + 1))).set (t + 1) (rd (pm d (mvL m (t + 1))) t)).set t (rd (pm d (mvL m (t + 1))) (t + 1)) = pm d (mvL m t) := by
  refine ext_rd (by simp [pm_len]) fun k hk => ?_
  rw [pm_len] at hk
  rw [rd_set _ _ _ _ (by rw [List.length_set, pm_len]; omega), rd_set _ _ _ _ (by rw [pm_len]; omega), rd_pm _ _ (by omega), rd_pm _ _ (by omega), rd_pm _ _ hk, rd_pm _ _ hk]
  unfold mvL
  repeat' split
  all_goals first | omega | (congr 1; omega)
theorem mrg_left (hT : ∀ x y z, T x y → T y z → T x z) {d : List Nat} {a b i : Nat} (hp : Pre T less d a (a + 1) b) (hb : b ≤ d.length) (h1 : a + 1 ≤ i) (h2 : i ≤ b) (h3 : i = a + 1 ∨ less (rd d (i - 1)) (rd d a) = true)
    (h4 : i = b ∨ less (rd d i) (rd d a) = false) : Mrg T a b d (pm d (mvR a (i - 1))) := by
  have b1 : a + 1 < i → T (rd d (i - 1)) (rd d a) := fun c => (hp.x a (i - 1) (Nat.le_refl _) (by omega) (by omega) (by omega)).1 (h3.resolve_left (by omega))
  have b2 : i < b → T (rd d a) (rd d i) := fun c => (hp.x a i (Nat.le_refl _) (by omega) (by omega) (by omega)).2 (h4.resolve_left (by omega))
  refine ⟨pm_len _ _, fun k hk => ?_, fun k k1 k2 => ⟨mvR a (i - 1) k, ?_, ?_, rd_pm _ _ (by omega)⟩, fun x y q1 q2 q3 => ?_⟩
  · rcases Nat.lt_or_ge k d.length with q | q
    · rw [rd_pm _ _ q]; congr 1; unfold mvR; repeat' split
      all_goals omega
    · unfold rd
      rw [List.getD_eq_getElem?_getD, List.getD_eq_getElem?_getD, List.getElem?_eq_none (by rw [pm_len]; exact q), List.getElem?_eq_none q]
  · unfold mvR; repeat' split
    all_goals omega
  · unfold mvR; repeat' split
    all_goals omega
  · rw [rd_pm _ _ (by omega), rd_pm _ _ (by omega)]
    rcases Nat.lt_or_ge x (i - 1) with c1 | c1
    · have e1 : mvR a (i - 1) x = x + 1 := by unfold mvR; rw [if_pos ⟨q1, c1⟩]
      rw [e1]
      rcases Nat.lt_or_ge y (i - 1) with c2 | c2
      · have e2 : mvR a (i - 1) y = y + 1 := by unfold mvR; rw [if_pos ⟨by omega, c2⟩]
        rw [e2]
        exact hp.r _ _ (by omega) (by omega) (by omega)
      · rcases Nat.eq_or_lt_of_le c2 with c3 | c3
        · have e2 : mvR a (i - 1) y = a := by unfold mvR; rw [if_neg (by omega), if_pos c3.symm]
          rw [e2]
          exact hp.r.le hT (by omega) (by omega) (by omega) (b1 (by omega))
        · have e2 : mvR a (i - 1) y = y := by unfold mvR; rw [if_neg (by omega), if_neg (by omega)]
          rw [e2]
          exact hp.r _ _ (by omega) (by omega) (by omega)
    · have e2 : mvR a (i - 1) y = y := by unfold mvR; rw [if_neg (by omega), if_neg (by omega)]
      rw [e2]
      rcases Nat.eq_or_lt_of_le c1 with c3 | c3
      · have e1 : mvR a (i - 1) x = a := by unfold mvR; rw [if_neg (by omega), if_pos c3.symm]
        rw [e1]
        exact hp.r.ge hT (by omega) (show i ≤ y by omega) (by omega) (b2 (by omega))
      · have e1 : mvR a (i - 1) x = x := by unfold mvR; rw [if_neg (by omega), if_neg (by omega)]
        rw [e1]
        exact hp.r _ _ (by omega) (by omega) (by omega)
theorem mrg_right (hT : ∀ x y z, T x y → T y z → T x z) {d : List Nat} {a m i : Nat} (hp : Pre T less d a m (m + 1)) (hb : m + 1 ≤ d.length) (h1 : a ≤ i) (h2 : i ≤ m) (h3 : i = a ∨ less (rd d m) (rd d (i - 1)) = false)
    (h4 : i = m ∨ less (rd d m) (rd d i) = true) : Mrg T a (m + 1) d (pm d (mvL m i)) := by
  have b1 : a < i → T (rd d (i - 1)) (rd d m) := fun c => (hp.x (i - 1) m (by omega) (by omega) (by omega) (by omega)).2 (h3.resolve_left (by omega))
  have b2 : i < m → T (rd d m) (rd d i) := fun c => (hp.x i m (by omega) (by omega) (by omega) (by omega)).1 (h4.resolve_left (by omega))
  refine ⟨pm_len _ _, fun k hk => ?_, fun k k1 k2 => ⟨mvL m i k, ?_, ?_, rd_pm _ _ (by omega)⟩, fun x y q1 q2 q3 => ?_⟩
  · rcases Nat.lt_or_ge k d.length with q | q
    · rw [rd_pm _ _ q]; congr 1; unfold mvL; repeat' split
      all_goals omega
    · unfold rd
      rw [List.getD_eq_getElem?_getD, List.getD_eq_getElem?_getD, List.getElem?_eq_none (by rw [pm_len]; exact q), List.getElem?_eq_none q]
  · unfold mvL; repeat' split
    all_goals omega
  · unfold mvL; repeat' split
    all_goals omega
  · rw [rd_pm _ _ (by omega), rd_pm _ _ (by omega)]
    rcases Nat.lt_or_ge y i with c1 | c1
    · have e1 : mvL m i y = y := by unfold mvL; rw [if_neg (by omega), if_neg (by omega)]
      have e2 : mvL m i x = x := by unfold mvL; rw [if_neg (by omega), if_neg (by omega)]
      rw [e1, e2]
      exact hp.l _ _ (by omega) (by omega) (by omega)
    · rcases Nat.eq_or_lt_of_le c1 with c3 | c3
      · have e1 : mvL m i y = m := by unfold mvL; rw [if_pos c3.symm]
        have e2 : mvL m i x = x := by unfold mvL; rw [if_neg (by omega), if_neg (by omega)]
        rw [e1, e2]
        exact hp.l.le hT (by omega) (show x ≤ i - 1 by omega) (by omega) (b1 (by omega))
      · have e1 : mvL m i y = y - 1 := by unfold mvL; rw [if_neg (by omega), if_pos (by omega)]
        rw [e1]
        rcases Nat.lt_or_ge x i with c2 | c2
        · have e2 : mvL m i x = x := by unfold mvL; rw [if_neg (by omega), if_neg (by omega)]
          rw [e2]
          exact hp.l _ _ (by omega) (by omega) (by omega)
        · rcases Nat.eq_or_lt_of_le c2 with c4 | c4
          · have e2 : mvL m i x = m := by unfold mvL; rw [if_pos c4.symm]
            rw [e2]
            exact hp.l.ge hT (by omega) (show i ≤ y - 1 by omega) (by omega) (b2 (by omega))
          · have e2 : mvL m i x = x - 1 := by unfold mvL; rw [if_neg (by omega), if_pos (by omega)]
            rw [e2]
            exact hp.l _ _ (by omega) (by omega) (by omega)
/-- What the halves are after the turn. -/
structure Cut (T : Nat → Nat → Prop) (d : List Nat) (a m b mid st en : Nat) : Prop where
  h1 : a ≤ st
  h2 : st ≤ m
  h3 : m ≤ en
  h4 : en ≤ b
  h5 : st + (en - m) = mid
  x1 : a < st → en < b → T (rd d (st - 1)) (rd d en)
  x2 : st < m → m < en → T (rd d (en - 1)) (rd d st)
theorem rt_rd {d : List Nat} {a m b k : Nat} (hk : k < d.length) : rd (pm d (rt a m b)) k = rd d (rt a m b k) := rd_pm _ _ hk
theorem Cut.pre1 {d : List Nat} {a m b mid st en : Nat} (hb : b ≤ d.length) (hp : Pre T less d a m b) (c : Cut T d a m b mid st en) : Pre T less (pm d (rt st m en)) a st mid := by
  obtain ⟨h1, h2, h3, h4, h5, _, _⟩ := c
  have e1 : ∀ k, k < st → rd (pm d (rt st m en)) k = rd d k := fun k hk => by rw [rt_rd (by omega)]; unfold rt; rw [if_neg (by omega), if_neg (by omega)]
  have e2 : ∀ k, st ≤ k → k < mid → rd (pm d (rt st m en)) k = rd d (k + (m - st)) := fun k k1 k2 => by rw [rt_rd (by omega)]; unfold rt; rw [if_pos (by omega)]
  refine ⟨fun i j q1 q2 q3 => ?_, fun i j q1 q2 q3 => ?_, fun i j q1 q2 q3 q4 => ?_⟩
  · rw [e1 i (by omega), e1 j (by omega)]; exact hp.l _ _ q1 q2 (by omega)
  · rw [e2 i (by omega) (by omega), e2 j (by omega) (by omega)]; exact hp.r _ _ (by omega) (by omega) (by omega)
  · rw [e1 i (by omega), e2 j (by omega) (by omega)]; exact hp.x _ _ q1 (by omega) (by omega) (by omega)
theorem Cut.pre2 {d c1 : List Nat} {a m b mid st en : Nat} (hb : b ≤ d.length) (hp : Pre T less d a m b) (c : Cut T d a m b mid st en) (ho : ∀ k, mid ≤ k → rd c1 k = rd (pm d (rt st m en)) k) : Pre T less c1 mid en b := by
  obtain ⟨h1, h2, h3, h4, h5, _, _⟩ := c
  have e1 : ∀ k, mid ≤ k → k < en → rd c1 k = rd d (k - (en - m)) := fun k k1 k2 => by rw [ho k k1, rt_rd (by omega)]; unfold rt; rw [if_neg (by omega), if_pos (by omega)]
  have e2 : ∀ k, en ≤ k → k < b → rd c1 k = rd d k := fun k k1 k2 => by rw [ho k (by omega), rt_rd (by omega)]; unfold rt; rw [if_neg (by omega), if_neg (by omega)]
  refine ⟨fun i j q1 q2 q3 => ?_, fun i j q1 q2 q3 => ?_, fun i j q1 q2 q3 q4 => ?_⟩
  · rw [e1 i (by omega) (by omega), e1 j (by omega) (by omega)]; exact hp.l _ _ (by omega) (by omega) (by omega)
  · rw [e2 i (by omega) (by omega), e2 j (by omega) (by omega)]; exact hp.r _ _ (by omega) (by omega) (by omega)
  · rw [e1 i (by omega) (by omega), e2 j (by omega) (by omega)]; exact hp.x _ _ (by omega) (by omega) (by omega) (by omega)
theorem Cut.mrg (hT : ∀ x y z, T x y → T y z → T x z) {d c1 c2 : List Nat} {a m b mid st en : Nat} (hb : b ≤ d.length) (hp : Pre T less d a m b) (c : Cut T d a m b mid st en)
    (m1 : (a < st ∧ st < mid → Mrg T a mid (pm d (rt st m en)) c1) ∧ (¬ (a < st ∧ st < mid) → c1 = pm d (rt st m en))) (m2 : (mid < en ∧ en < b → Mrg T mid b c1 c2) ∧ (¬ (mid < en ∧ en < b) → c2 = c1)) : Mrg T a b d c2 := by
  have p1 := c.pre1 hb hp
  have M1 : Mrg T a mid (pm d (rt st m en)) c1 := by
    by_cases q : a < st ∧ st < mid
    · exact m1.1 q
    · rw [m1.2 q]
      refine ⟨rfl, fun _ _ => rfl, fun k k1 k2 => ⟨k, k1, k2, rfl⟩, ?_⟩
      rcases Nat.lt_or_ge a st with w | w
      · have : mid = st := by have := c.h5; omega
        rw [this]; exact p1.l
      · have : a = st := by have := c.h1; omega
        rw [this]; exact p1.r
  have p2 := c.pre2 (c1 := c1) hb hp fun k hk => M1.out k (by omega)
  have M2 : Mrg T mid b c1 c2 := by
    by_cases q : mid < en ∧ en < b
    · exact m2.1 q
    · rw [m2.2 q]
      refine ⟨rfl, fun _ _ => rfl, fun k k1 k2 => ⟨k, k1, k2, rfl⟩, ?_⟩
      rcases Nat.lt_or_ge en b with w | w
      · have : mid = en := by have := c.h5; have := c.h2; have := c.h3; omega
        rw [this]; exact p2.r
      · have : b = en := by have := c.h4; omega
        rw [this]; exact p2.l
  obtain ⟨h1, h2, h3, h4, h5, x1, x2⟩ := c
  have cl : ∀ x, a ≤ x → x < mid → ∃ x', a ≤ x' ∧ x' < mid ∧ rd c2 x = rd (pm d (rt st m en)) x' := fun x q1 q2 => by
    rw [M2.out x (by omega)]; exact M1.mem x q1 q2
  have cr : ∀ y, mid ≤ y → y < b → ∃ y', mid ≤ y' ∧ y' < b ∧ rd c2 y = rd (pm d (rt st m en)) y' := fun y q1 q2 => by
    obtain ⟨y', r1, r2, r3⟩ := M2.mem y q1 q2
    exact ⟨y', r1, r2, by rw [r3, M1.out y' (by omega)]⟩
  have e1 : ∀ k, k < st → rd (pm d (rt st m en)) k = rd d k := fun k hk => by rw [rt_rd (by omega)]; unfold rt; rw [if_neg (by omega), if_neg (by omega)]
  have e2 : ∀ k, st ≤ k → k < mid → rd (pm d (rt st m en)) k = rd d (k + (m - st)) := fun k k1 k2 => by rw [rt_rd (by omega)]; unfold rt; rw [if_pos (by omega)]
  have e3 : ∀ k, mid ≤ k → k < en → rd (pm d (rt st m en)) k = rd d (k - (en - m)) := fun k k1 k2 => by rw [rt_rd (by omega)]; unfold rt; rw [if_neg (by omega), if_pos (by omega)]
  have e4 : ∀ k, en ≤ k → k < b → rd (pm d (rt st m en)) k = rd d k := fun k k1 k2 => by rw [rt_rd (by omega)]; unfold rt; rw [if_neg (by omega), if_neg (by omega)]
  have cross : ∀ x y, a ≤ x → x < mid → mid ≤ y → y < b → T (rd (pm d (rt st m en)) x) (rd (pm d (rt st m en)) y) := fun x y q1 q2 q3 q4 => by
    rcases Nat.lt_or_ge x st with cx | cx <;> rcases Nat.lt_or_ge y en with cy | cy
    · rw [e1 x cx, e3 y q3 cy]; exact hp.l _ _ q1 (by omega) (by omega)
    · rw [e1 x cx, e4 y cy q4]
      exact hp.l.le hT q1 (show x ≤ st - 1 by omega) (by omega) (hp.r.ge hT (by omega) cy q4 (x1 (by omega) (by omega)))
    · rw [e2 x cx q2, e3 y q3 cy]
      exact hp.r.le hT (by omega) (show x + (m - st) ≤ en - 1 by omega) (by omega) (hp.l.ge hT (by omega) (show st ≤ y - (en - m) by omega) (by omega) (x2 (by omega) (by omega)))
    · rw [e2 x cx q2, e4 y cy q4]; exact hp.r _ _ (by omega) (by omega) (by omega)
  refine ⟨by rw [M2.len, M1.len, pm_len], fun k hk => ?_, fun k k1 k2 => ?_, fun x y q1 q2 q3 => ?_⟩
  · rw [M2.out k (by omega), M1.out k (by omega)]
    rcases Nat.lt_or_ge k d.length with q | q
    · rw [rt_rd q]; congr 1; unfold rt; repeat' split
      all_goals omega
    · unfold rd
      rw [List.getD_eq_getElem?_getD, List.getD_eq_getElem?_getD, List.getElem?_eq_none (by rw [pm_len]; exact q), List.getElem?_eq_none q]
  · have key : ∀ z, a ≤ z → z < b → ∃ z', a ≤ z' ∧ z' < b ∧ rd (pm d (rt st m en)) z = rd d z' := fun z z1 z2 => by
      refine ⟨rt st m en z, ?_, ?_, rt_rd (by omega)⟩
      · unfold rt; repeat' split
        all_goals omega
      · unfold rt; repeat' split
        all_goals omega
    rcases Nat.lt_or_ge k mid with q | q
    · obtain ⟨x', r1, r2, r3⟩ := cl k k1 q
      obtain ⟨z, z1, z2, z3⟩ := key x' r1 (by omega)
      exact ⟨z, z1, z2, by rw [r3, z3]⟩
    · obtain ⟨x', r1, r2, r3⟩ := cr k q k2
      obtain ⟨z, z1, z2, z3⟩ := key x' (by omega) r2
      exact ⟨z, z1, z2, by rw [r3, z3]⟩
  · rcases Nat.lt_or_ge x mid with cx | cx
    · rcases Nat.lt_or_ge y mid with cy | cy
      · rw [M2.out x (by omega), M2.out y (by omega)]
        exact M1.srt x y q1 q2 cy
      · obtain ⟨x', r1, r2, r3⟩ := cl x q1 cx
        obtain ⟨y', s1, s2, s3⟩ := cr y cy q3
        rw [r3, s3]
        exact cross x' y' r1 r2 s1 s2
    · exact M2.srt x y cx q2 q3
end
end Go.Proofs.Ytaeablbcfkamjaa.Vs
