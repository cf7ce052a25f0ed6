/-
  The statement about labels of picks. Conditions: none.
-/
import Derived.Test.YtmcgjccheehehaaVaR
import Derived.Test.YtmcgjccheehehaaDlE
namespace Go.Proofs.Ytmcgjccheehehaa
open Go.Eng
set_option linter.unusedVariables false
set_option linter.unusedSimpArgs false
theorem shp_arg {L : List AV} (h : Shp Try.prog 77 L) : ∃ x : Arg, L = argC x := by
  obtain ⟨parts, rfl, hl, hp⟩ := shp_struct Try.underlying77 h
  obtain ⟨a, b, rfl⟩ := ds_n2 (show parts.length = 2 from hl)
  obtain ⟨a, rfl, _⟩ := shp_string Try.underlying9 (hp 0 _ a rfl rfl)
  obtain ⟨v, rfl⟩ := shp_val (hp 1 _ b rfl rfl)
  refine ⟨.mk a v, ?_⟩
  rw [valC_eq]
  rfl
theorem shp_pk {L : List AV} (h : Shp Try.prog 69 L) : ∃ x : Pk, L = pkC x := by
  suffices key : ∀ (n : Nat) (L : List AV), avL L ≤ n → Shp Try.prog 69 L → ∃ x : Pk, L = pkC x from key _ L (Nat.le_refl _) h
  intro n
  induction n with
  | zero =>
    intro L hn h
    obtain ⟨parts, rfl, hl, hp⟩ := shp_struct Try.underlying69 h
    match parts, hl, hp, hn with
    | a :: r, _, hp, hn =>
      obtain ⟨a, rfl, _⟩ := shp_string Try.underlying9 (hp 0 _ a rfl rfl)
      simp [avL, avw] at hn
  | succ n ih =>
    intro L hn h
    obtain ⟨parts, rfl, hl, hp⟩ := shp_struct Try.underlying69 h
    match parts, hl, hp, hn with
    | [a, b, c, d, e, f, g, i], _, hp, hn =>
      obtain ⟨a, rfl, _⟩ := shp_string Try.underlying9 (hp 0 _ a rfl rfl)
      obtain ⟨b, rfl, _⟩ := shp_string Try.underlying9 (hp 1 _ b rfl rfl)
      obtain ⟨c, rfl, _⟩ := shp_string Try.underlying9 (hp 2 _ c rfl rfl)
      obtain ⟨l, rfl, _, hx⟩ := shp_slice Try.underlying65 (hp 3 _ d rfl rfl)
      obtain ⟨al, rfl, _⟩ := mapC_of (c := argC) fun x h => shp_arg (hx x h)
      obtain ⟨ts, rfl, hl2, hp2⟩ := shp_struct Try.underlying67 (hp 4 _ e rfl rfl)
      obtain ⟨t, u, rfl⟩ := ds_n2 (show ts.length = 2 from hl2)
      obtain ⟨t, rfl, _⟩ := shp_string Try.underlying9 (hp2 0 _ t rfl rfl)
      obtain ⟨w, rfl, _, hy⟩ := shp_slice Try.underlying45 (hp2 1 _ u rfl rfl)
      obtain ⟨ws, rfl, _⟩ := mapC_of (c := in1) fun x h => by
        obtain ⟨n, rfl, _⟩ := shp_int Try.underlying3 (hy x h)
        exact ⟨n, rfl⟩
      obtain ⟨f, rfl, _⟩ := shp_string Try.underlying9 (hp 5 _ f rfl rfl)
      obtain ⟨g, rfl, _⟩ := shp_int Try.underlying3 (hp 6 _ g rfl rfl)
      obtain ⟨p, rfl, _, hz⟩ := shp_slice Try.underlying38 (hp 7 _ i rfl rfl)
      obtain ⟨ps, rfl, _⟩ := mapC_of (c := pkC) fun x h => ih x (by
        have := avLL_mem h
        simp [avL, avw] at hn
        omega) (hz x h)
      exact ⟨.mk a b c al t ws f g ps, by rw [pkC_eq]; rfl⟩
theorem reads_picks {α : AV} (h : AS Try.prog 38 α) : ∃ l : List Pk, α = .ds (mapC pkC l) ∧ True := by
  obtain ⟨l, rfl, _, hx⟩ := as_slice Try.underlying38 h
  obtain ⟨m, rfl, _⟩ := mapC_of (c := pkC) fun x h => shp_pk (hx x h)
  exact ⟨m, rfl, trivial⟩
theorem args_av : ∀ l : List Arg, wtA l ≤ avLL (mapC argC l)
  | [] => by simp [wtA]
  | x :: l => by
    have h1 := args_av l
    have h2 := vx_av x.v
    simp only [vx, avw, avL] at h2
    rw [mapC_cons, avLL, wtA]
    simp only [argC, avL, avw]
    omega
theorem in1_av (n : Int) : 1 ≤ avL (in1 n) := by simp [in1, avL, avw]
theorem pks_av : ∀ l : List Pk, (∀ p ∈ l, wtG p ≤ avL (pkC p)) → wtGs l ≤ avLL (mapC pkC l)
  | [], _ => by simp [wtGs]
  | x :: l, h => by
    have h1 := pks_av l fun p hp => h p (by simp [hp])
    have h2 := h x (by simp)
    rw [mapC_cons, avLL, wtGs]
    omega
theorem pk_av (p : Pk) : wtG p ≤ avL (pkC p) := by
  refine Pk.ind (Q := fun p => wtG p ≤ avL (pkC p)) (fun v ih => ?_) p
  have h1 := pks_av v.picks ih
  have h2 := args_av v.args
  have h3 : v.tw.length ≤ avLL (mapC in1 v.tw) := mapC_len_le in1_av v.tw
  rw [pkC_eq, wtG_eq]
  simp only [avL, avw]
  omega
theorem picks_av (l : List Pk) : wtGs l ≤ avLL (mapC pkC l) := pks_av l fun p _ => pk_av p
theorem labels_law (αs : List AV) (h : ASs Try.prog [38] αs) (hw : avL αs ≤ 1048576) : MeetsF Try.prog 4 [] 0 αs (.b true) := by
  obtain ⟨α1, rfl, h1⟩ := as_n1 h
  obtain ⟨x1, rfl, w1⟩ := reads_picks h1
  simp only [avL] at hw
  exact lawLabels x1 (by have := picks_av x1; simp only [avw] at hw; omega) [] 0
set_option maxRecDepth 100000 in
theorem labels_lifted (os : Os) (started : os.Started) (H : Type) (enc : TypeId × Value → H) (F : Stop.Interp) :
    ReturnsInHanded {} Try.checked os 4 .any ((Rows.OpenSpec.upto Rows.deferralLabelsSpec).pre6 enc Try.prog Try.f4 Rows.deferralLabelsUptoRow.domain false) (((Rows.OpenSpec.upto Rows.deferralLabelsSpec).at F).post enc Try.prog Try.f4 false true false false) := by
  refine returnsInHanded_of_cond (C := Try.checked) (k := Rows.uptoSmall) rfl own started (by kernel_rfl) Try.func4
    (OpenSpec.witness (enc := enc) (C := Try.checked) (k := Rows.uptoSmall) rfl false ⟨#[], #[.slice none 0 0], []⟩ 8 (by kernel_rfl) (by kernel_rfl) (by kernel_rfl) (x := ([.nil], [], [])) (by kernel_rfl) (by kernel_rfl) (by kernel_rfl)) ?_
  intro W base args ds gs before hval hW _ hk _
  have hg : gs = [] := by
    obtain ⟨p, q, hA, hV, _⟩ := hW
    exact (ChangeShapes.trodVars_none hV).1
  subst hg
  have hk : Rows.uptoBulkAll ds ≤ 1048576 := by simpa [Rows.uptoSmall] using hk
  refine law_core (s := Rows.deferralLabelsSpec) (tb := 4) kids sized ?_ rfl (fun ds hl => ?_) rfl Try.underlying4 (m := fun αs h hb => labels_law αs h (Nat.le_trans hb hk)) hval hW
  · exact par_lt (by kernel_rfl)
  · obtain ⟨d1, rfl⟩ := ds_n1 (show ds.length = 1 from hl)
    exact ⟨rfl, rfl, rfl⟩
/-- The statement DeferralLabels, where what it reads is not too much. -/
theorem labels_holds : Rows.DeferralLabelsUptoSaid :=
  OpenClaim.holds_of_cond 4 Try.f4 rfl rfl rfl rfl rfl rfl rfl ⟨rfl, rfl, rfl, rfl, rfl⟩ rfl rfl rfl rfl rfl (by kernel_rfl) Try.func4 (by kernel_rfl)
    (of_decide_eq_true (by kernel_rfl)) (by unfold Func.isWrapper; first | (rw [if_pos (by decide +kernel)]; kernel_rfl) | (rw [if_neg (by decide +kernel)]; exact ⟨rfl, rfl⟩))
    (fun os started H enc _ F => labels_lifted os started H enc F)
end Go.Proofs.Ytmcgjccheehehaa
