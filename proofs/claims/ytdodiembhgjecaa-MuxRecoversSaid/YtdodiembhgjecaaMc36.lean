/-
  The parts MxI of the proof, in one file. Conditions: none.
-/
import Derived.Shelf.Slices.Cells
import Derived.Test.YtdodiembhgjecaaMc35
namespace Go.Proofs.Ytdodiembhgjecaa
open Go.Shelf Go.RowKit Go.Lib Go.Proofs Go.Eng
set_option linter.unusedVariables false
set_option linter.unusedSimpArgs false
set_option maxRecDepth 20000
theorem meets_delI {hp : CH} {n k g i : Nat} {L : List Int} (hk : gc hp k = .rw g 1 (mapC in1 L)) (hi : i < L.length) :
    Meets Try.prog 46 hp n [.rw k g L.length, .i .i64 i, .i .i64 ((i : Int) + 1)] fun hp' n' r => hp' = [(k, .rw (g + 1) 1 (mapC in1 (L.eraseIdx i)))] ++ hp ∧ n' = n ∧ r = .rw k (g + 1) (L.length - 1) := by
  refine ⟨⟨_, Try.func46, by kernel_rfl, by kernel_rfl⟩, fun h ρ w vs hs ha => ?_⟩
  obtain ⟨v1, v2, v3, rfl, x1, x2, x3⟩ := args3 ha
  obtain rfl := x2.int
  obtain rfl := x3.int
  have hLl : (mapC in1 L).length = L.length := mapC_len _ _
  obtain ⟨ob, cap, e1, e2, e3, e5, hm, hrow⟩ := row_list hs hk (Nat.le_refl _) (ones_in L)
  rw [hLl] at e2 hrow
  have e3' : cap ≤ 9223372036854775807 := by unfold maxLen at e3; omega
  obtain ⟨b, rfl⟩ : ∃ b, ob = some b := by
    cases ob with
    | none => have := e5 rfl; omega
    | some b => exact ⟨b, rfl⟩
  obtain ⟨hlive, cur, te, cs, hbk, hsz, hcs, hcl, hcj, hc1, hcell⟩ := hrow b rfl
  obtain rfl : v1 = .slice (some ⟨b, 0, none⟩) L.length cap := by
    cases x1 with
    | pu _ _ q => cases q
    | rw _ _ _ cap' a ob' q1 q2 q3 =>
      rw [e1] at q1
      cases q1
      rw [q3 b rfl]
  rw [Nat.mul_one] at hsz
  have hcv : ∀ (j : Nat) y, L[j]? = some y → cur[j]? = some (.int .i64 y) := fun j y hy => by
    obtain ⟨u, u1, u2⟩ := hcell j _ 0 _ (mapC_get in1 hy) rfl
    rw [Nat.one_mul, Nat.add_zero] at u1
    cases u2
    exact u1
  have hij : ((i : Int) + 1) = ((i + 1 : Nat) : Int) := by omega
  rw [hij]
  have hel : (L.eraseIdx i).length = L.length - 1 := List.length_eraseIdx_of_lt hi
  refine (Any.slices_Delete_int_cells Try.laysNm223 b 0 L.length cap i (i + 1) L w (Nat.le_refl _) e2 e3' (by omega) (by omega) (fun j hj => ?_) (fun j hj => ?_)).mono fun ee w' ⟨he, q, hw⟩ => ?_
  · rw [Nat.zero_add]
    have := hcv j _ (List.getElem?_eq_getElem hj)
    simp [World.cell?, hbk, this, List.getD, hj]
  · simp [World.frozen?, hbk]
  rw [List.take_length, show i + 1 - i = 1 by omega, ← List.eraseIdx_eq_take_drop_succ] at hw
  rw [show i + 1 - i = 1 by omega] at he
  have hb0 : (w.drewN q).heap[b]? = some (.cells cur te (0, 0)) := hbk
  obtain ⟨c1, a1, a2, a3, a4, a5⟩ := sets_ok b ((L.eraseIdx i ++ List.replicate 1 0).map (Value.int .i64)) 0 (w.drewN q) cur te (0, 0) hb0
  rw [← hw] at a1 a5
  have hdrew : Keeps (· = b) w (w.drewN q) := ⟨rfl, rfl, rfl, Nat.le_refl _, fun _ _ _ => rfl⟩
  have t := hdrew.trans a5 fun _ _ q => q
  obtain ⟨q1, q2, q3, q4⟩ := regen hs hk (.inl ⟨cap, e1⟩) (w' := w') (l := mapC in1 (L.eraseIdx i)) ⟨t.os, t.tape, t.output, t.size, fun x hx q => t.block x hx fun e => q ⟨cap, by rw [e]; exact e1⟩⟩ a1 (cap := cap) (by rw [a2, hsz, Nat.mul_one]) (by rw [mapC_len, hel]; omega) e3 (fun y hy => mapC_all (c := in1) (n := 1) (fun _ => rfl) y hy) (int_cells fun j y hy => by
    have hjl : j < L.length - 1 := by rw [← hel]; exact (List.getElem?_eq_some_iff.1 hy).1
    rw [a3 j (by omega) (by simp [hel]; omega) (by omega), Nat.sub_zero, List.getElem?_map, List.getElem?_append_left (by omega), hy]
    rfl)
  exact ⟨_, he, h, _, _, _, _, ⟨rfl, rfl, rfl⟩, HLe.refl _, q1, q2, .rw _ _ _ _ _ _ (rset_same _ _ _ _) (by omega) (fun b' q => by cases q; rfl), q4, q3⟩
end Go.Proofs.Ytdodiembhgjecaa
