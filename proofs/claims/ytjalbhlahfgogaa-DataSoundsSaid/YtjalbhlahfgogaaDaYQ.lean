/-
  The statements about items found by keys, and sound datasets, for all datasets. Conditions: none.
-/
import Derived.Test.YtjalbhlahfgogaaDaRQ
import Derived.Test.YtjalbhlahfgogaaDaI
namespace Go.Proofs.Ytjalbhlahfgogaa
open Go.Eng
set_option linter.unusedVariables false
set_option linter.unusedSimpArgs false
theorem lawSoundsL (d : Dat) (hd : d.Fit) (K : List Ky) (hK : K.length ≤ 1000000000000000) (hb : 12 < K.length ∨ ∃ k ∈ K, 6 < k.l.length) (hp : CH) (m : Nat) : MeetsF Try.prog 9 hp m [.ds (mapC kyC K), dx d] (.b true) := by
  refine meetsF Try.func9 (by kernel_rfl) cc9 cr9 rfl fun hf => ?_; unfold ck9
  simp only [go_sem, ↓reduceIte, Nat.reduceEqDiff, Nat.reduceBEq, Nat.reduceAdd, Nat.reduceLeDiff, Nat.reduceLT, reduceCtorEq, Nat.reduceMul, Nat.reduceSub, Int.reduceEq, Int.reduceLT, Int.reduceLE, Int.reduceToNat]
  refine vcCall.f (large_ok d hd _ _) ?_
  simp only [go_sem, ↓reduceIte, Nat.reduceEqDiff, Nat.reduceBEq, Nat.reduceAdd, Nat.reduceLeDiff, Nat.reduceLT, reduceCtorEq, Nat.reduceMul, Nat.reduceSub, Int.reduceEq, Int.reduceLT, Int.reduceLE, Int.reduceToNat]
  refine cdK_of (fun c => ?_) (fun c => ?_)
  · simp only [go_sem, ↓reduceIte, Nat.reduceEqDiff, Nat.reduceBEq, Nat.reduceAdd, Nat.reduceLeDiff, Nat.reduceLT, reduceCtorEq, Nat.reduceMul, Nat.reduceSub, Int.reduceEq, Int.reduceLT, Int.reduceLE, Int.reduceToNat]
    refine vcCall.f (ex20_ok _ _) ?_
    simp only [go_sem, ↓reduceIte, Nat.reduceEqDiff, Nat.reduceBEq, Nat.reduceAdd, Nat.reduceLeDiff, Nat.reduceLT, reduceCtorEq, Nat.reduceMul, Nat.reduceSub, Int.reduceEq, Int.reduceLT, Int.reduceLE, Int.reduceToNat]
  simp only [go_sem, ↓reduceIte, Nat.reduceEqDiff, Nat.reduceBEq, Nat.reduceAdd, Nat.reduceLeDiff, Nat.reduceLT, reduceCtorEq, Nat.reduceMul, Nat.reduceSub, Int.reduceEq, Int.reduceLT, Int.reduceLE, Int.reduceToNat]
  simp only [Bool.or_eq_false_iff, decide_eq_false_iff_not] at c
  have hb : ∃ k ∈ K, 6 < k.l.length := hb.resolve_left (by omega)
  refine loop (fun p : Nat × Nat => ⟨[(0, .ds (mapC kyC K)), (3, .bx m 0), (5, .i .i64 p.1)], (m, .bx [.ds (mapC itC d.i), .ds (mapC wrC d.w)]) :: hp, p.2⟩)
    (fun p => p.1 ≤ K.length ∧ m + 1 ≤ p.2 ∧ ∀ (i : Nat) k, i < p.1 → K[i]? = some k → k.l.length ≤ 6) (fun p => K.length - p.1) (0, m + 1) ?_ ?_ (fun ⟨j, n⟩ hj => ?_)
  · exact ⟨by simp, by simp, fun i k h => by simp at h⟩
  · refine weak_ok ?_ (Sub.refl _) (Nat.le_refl _)
    simp only [go_sem, ↓reduceIte, Nat.reduceEqDiff, Nat.reduceBEq, Nat.reduceAdd, Nat.reduceLeDiff, Nat.reduceLT, reduceCtorEq, Nat.reduceMul, Nat.reduceSub, Int.reduceEq, Int.reduceLT, Int.reduceLE, Int.reduceToNat]
  dsimp only at hj
  obtain ⟨hj1, hj2, hj3⟩ := hj
  have z1 : ¬ n = m := by omega
  have z2 : m ≤ n := by omega
  have z3 : ¬ m = n := by omega
  simp only [z1, z2, go_sem, ↓reduceIte, Nat.reduceEqDiff, Nat.reduceBEq, Nat.reduceAdd, Nat.reduceLeDiff, Nat.reduceLT, reduceCtorEq, Nat.reduceMul, Nat.reduceSub, Int.reduceEq, Int.reduceLT, Int.reduceLE, Int.reduceToNat]
  refine cdK_of (fun q => ?_) (fun q => ?_)
  · have q : j < K.length := by simpa using q
    obtain ⟨k, ek⟩ : ∃ k, K[j]? = some k := ⟨K[j], by simp [q]⟩
    simp only [z1, z2, q, getK_s (mapC_get kyC ek), go_sem, ↓reduceIte, Nat.reduceEqDiff, Nat.reduceBEq, Nat.reduceAdd, Nat.reduceLeDiff, Nat.reduceLT, reduceCtorEq, Nat.reduceMul, Nat.reduceSub, Int.reduceEq, Int.reduceLT, Int.reduceLE, Int.reduceToNat]
    refine cdK_of (fun c => ?_) (fun c => ?_)
    · simp only [z1, z2, go_sem, ↓reduceIte, Nat.reduceEqDiff, Nat.reduceBEq, Nat.reduceAdd, Nat.reduceLeDiff, Nat.reduceLT, reduceCtorEq, Nat.reduceMul, Nat.reduceSub, Int.reduceEq, Int.reduceLT, Int.reduceLE, Int.reduceToNat]
      refine vcCall.f (ex20_ok _ _) ?_
      simp only [z1, z2, go_sem, ↓reduceIte, Nat.reduceEqDiff, Nat.reduceBEq, Nat.reduceAdd, Nat.reduceLeDiff, Nat.reduceLT, reduceCtorEq, Nat.reduceMul, Nat.reduceSub, Int.reduceEq, Int.reduceLT, Int.reduceLE, Int.reduceToNat]
    · simp only [z1, z2, go_sem, ↓reduceIte, Nat.reduceEqDiff, Nat.reduceBEq, Nat.reduceAdd, Nat.reduceLeDiff, Nat.reduceLT, reduceCtorEq, Nat.reduceMul, Nat.reduceSub, Int.reduceEq, Int.reduceLT, Int.reduceLE, Int.reduceToNat]
      have c2 : k.l.length ≤ 6 := by simp at c; omega
      refine ⟨(j + 1, _), ⟨by dsimp only; omega, by dsimp only; omega, fun i k' hi hk' => ?_⟩, by dsimp only; omega, weak_ok ?_ (Sub.refl _) (Nat.le_refl _)⟩
      · dsimp only at hi
        rcases Nat.lt_or_ge i j with h | h
        · exact hj3 i k' h hk'
        · obtain rfl : i = j := by omega
          rw [ek] at hk'
          cases hk'
          exact c2
      simp only [z1, z2, wr64s j (by omega), go_sem, ↓reduceIte, Nat.reduceEqDiff, Nat.reduceBEq, Nat.reduceAdd, Nat.reduceLeDiff, Nat.reduceLT, reduceCtorEq, Nat.reduceMul, Nat.reduceSub, Int.reduceEq, Int.reduceLT, Int.reduceLE, Int.reduceToNat]
  · exfalso
    have q : K.length ≤ j := by simpa using q
    obtain ⟨k, hk, h6⟩ := hb
    obtain ⟨i, hi, rfl⟩ := List.mem_iff_getElem.1 hk
    have := hj3 i K[i] (by omega) (by simp [hi])
    omega
theorem lawSoundsS (d : Dat) (hd : d.Fit) (K : List Ky) (hK : K.length ≤ 1000000000000000) (hp : CH) (m : Nat) : MeetsF Try.prog 9 hp m [.ds (mapC kyC K), dx d] (.b true) := by
  by_cases c1 : 12 < K.length
  · exact lawSoundsL d hd K hK (.inl c1) hp m
  · by_cases c2 : ∃ k ∈ K, 6 < k.l.length
    · exact lawSoundsL d hd K hK (.inr c2) hp m
    · refine lawSounds d hd K (by omega) (fun k hk => ?_) hp m
      have : ¬ 6 < k.l.length := fun h => c2 ⟨k, hk, h⟩
      omega
theorem shp_key {L : List AV} (h : Shp Try.prog 53 L) : ∃ x : Ky, L = kyC x := by
  obtain ⟨parts, rfl, hl, hp⟩ := shp_struct Try.underlying53 h
  obtain ⟨a, b, c, rfl⟩ := ds_n3 (show parts.length = 3 from hl)
  obtain ⟨a, rfl, _⟩ := shp_string Try.underlying9 (hp 0 _ a rfl rfl)
  obtain ⟨b, rfl, _⟩ := shp_int Try.underlying3 (hp 1 _ b rfl rfl)
  obtain ⟨l, rfl, _, hx⟩ := shp_slice Try.underlying32 (hp 2 _ c rfl rfl)
  obtain ⟨ks, rfl, _⟩ := mapC_of (c := st1) fun x h => by
    obtain ⟨s, rfl, _⟩ := shp_string Try.underlying9 (hx x h)
    exact ⟨s, rfl⟩
  exact ⟨.mk a b ks, rfl⟩
theorem reads_key {α : AV} (h : AS Try.prog 53 α) : ∃ k : Ky, α = kx k ∧ True := by
  obtain ⟨L, rfl, h2⟩ := as_struct Try.underlying53 h
  obtain ⟨k, rfl⟩ := shp_key h2
  exact ⟨k, rfl, trivial⟩
theorem bK : Try.prog.bytesOf 53 = 48 := by kernel_rfl
theorem readq_key {α : AV} (h : AQ Try.prog 53 α) : ∃ k : Ky, α = kx k ∧ True := reads_key h.as
theorem readq_keys {α : AV} (h : AQ Try.prog 56 α) : ∃ l : List Ky, α = .ds (mapC kyC l) ∧ l.length ≤ 1000000000000000 := by
  obtain ⟨l, rfl, hl, hx⟩ := aq_slice Try.underlying56 h
  obtain ⟨vs, rfl, e⟩ := mapC_of (c := kyC) fun x h => shp_key (hx x h).shp
  rw [bK, bR] at hl
  exact ⟨vs, rfl, by omega⟩
theorem finds_law (αs : List AV) (h : AQs Try.prog [25, 53, 31] αs) : MeetsF Try.prog 8 [] 0 αs (.b true) := by
  obtain ⟨α1, α2, α3, rfl, h1, h2, h3⟩ := aq_n3 h
  obtain ⟨x1, rfl, w1⟩ := readq_data h1
  obtain ⟨x2, rfl, w2⟩ := readq_key h2
  obtain ⟨x3, rfl, w3⟩ := readq_vals h3
  exact lawFinds x1 w1 x2.t x2.g x2.l x3 (by omega) w3.2 [] 0
set_option maxRecDepth 100000 in
theorem finds_lifted (os : Os) (started : os.Started) (H : Type) (enc : TypeId × Value → H) :
    ReturnsInHanded {} Try.checked os 8 .any (Rows.dataFindsSpec.pre6 enc Try.prog Try.f8 Rows.dataFindsRow.domain false) (Rows.dataFindsSpec.post enc Try.prog Try.f8 false true false false) := by
  refine returnsInHanded_of_change_sized (C := Try.checked) own started (by kernel_rfl) Try.func8
    (ChangeSpec.witness6 (enc := enc) (C := Try.checked) false ⟨#[], #[.agg #[.slice none 0 0, .slice none 0 0], .agg #[.string ⟨#[]⟩, .int .i64 0, .slice none 0 0], .slice none 0 0], []⟩ 8 (by kernel_rfl) (by kernel_rfl) (by kernel_rfl) (by kernel_rfl)) ?_
  intro W base args ds gs before hval hW _ hz _
  refine law_sized (tb := 4) kids sized ?_ rfl (fun ds hl => ?_) rfl Try.underlying4 (m := fun αs h => finds_law αs h) hval hW hz
  · exact par_lt (by kernel_rfl)
  · obtain ⟨d1, d2, d3, rfl⟩ := ds_n3 (show ds.length = 3 from hl)
    exact ⟨rfl, rfl, rfl⟩
/-- The statement DataFinds. -/
theorem finds_holds : Rows.DataFindsSaid :=
  OpenClaim.holds_of_wide 8 Try.f8 rfl rfl rfl rfl rfl rfl rfl ⟨rfl, rfl, rfl, rfl, rfl⟩ rfl rfl rfl rfl rfl (by kernel_rfl) Try.func8 (by kernel_rfl)
    (of_decide_eq_true (by kernel_rfl)) (by unfold Func.isWrapper; first | (rw [if_pos (by decide +kernel)]; kernel_rfl) | (rw [if_neg (by decide +kernel)]; exact ⟨rfl, rfl⟩))
    (fun os started H enc _ => finds_lifted os started H enc)
theorem sounds_law (αs : List AV) (h : AQs Try.prog [56, 25] αs) : MeetsF Try.prog 9 [] 0 αs (.b true) := by
  obtain ⟨α1, α2, rfl, h1, h2⟩ := aq_n2 h
  obtain ⟨x1, rfl, w1⟩ := readq_keys h1
  obtain ⟨x2, rfl, w2⟩ := readq_data h2
  exact lawSoundsS x2 w2 x1 w1 [] 0
set_option maxRecDepth 100000 in
theorem sounds_lifted (os : Os) (started : os.Started) (H : Type) (enc : TypeId × Value → H) :
    ReturnsInHanded {} Try.checked os 9 .any (Rows.dataSoundsSpec.pre6 enc Try.prog Try.f9 Rows.dataSoundsRow.domain false) (Rows.dataSoundsSpec.post enc Try.prog Try.f9 false true false false) := by
  refine returnsInHanded_of_change_sized (C := Try.checked) own started (by kernel_rfl) Try.func9
    (ChangeSpec.witness6 (enc := enc) (C := Try.checked) false ⟨#[], #[.slice none 0 0, .agg #[.slice none 0 0, .slice none 0 0]], []⟩ 8 (by kernel_rfl) (by kernel_rfl) (by kernel_rfl) (by kernel_rfl)) ?_
  intro W base args ds gs before hval hW _ hz _
  refine law_sized (tb := 4) kids sized ?_ rfl (fun ds hl => ?_) rfl Try.underlying4 (m := fun αs h => sounds_law αs h) hval hW hz
  · exact par_lt (by kernel_rfl)
  · obtain ⟨d1, d2, rfl⟩ := ds_n2 (show ds.length = 2 from hl)
    exact ⟨rfl, rfl, rfl⟩
/-- The statement DataSounds. -/
theorem sounds_holds : Rows.DataSoundsSaid :=
  OpenClaim.holds_of_wide 9 Try.f9 rfl rfl rfl rfl rfl rfl rfl ⟨rfl, rfl, rfl, rfl, rfl⟩ rfl rfl rfl rfl rfl (by kernel_rfl) Try.func9 (by kernel_rfl)
    (of_decide_eq_true (by kernel_rfl)) (by unfold Func.isWrapper; first | (rw [if_pos (by decide +kernel)]; kernel_rfl) | (rw [if_neg (by decide +kernel)]; exact ⟨rfl, rfl⟩))
    (fun os started H enc _ => sounds_lifted os started H enc)
end Go.Proofs.Ytjalbhlahfgogaa
