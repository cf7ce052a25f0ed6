/-
  The parts PcD of the proof, in one file. Conditions: none.
-/
import Derived.Lib.Overlaps
import Derived.Shelf.Spec.SlicesInsert
import Derived.Test.YtpenniildabheaaPb31
namespace Go.Proofs.Ytpenniildabheaa
open Go.Shelf Go.RowKit Go.Lib Go.Sort Go.Proofs Go.Eng
set_option linter.unusedVariables false
set_option linter.unusedSimpArgs false
theorem ent_sizeOf : ∀ w, (Go.sizeOf 81).run Try.prog w = .ok 3 w := by
  obtain ⟨i0, hi0, h0, h1, h2⟩ := info_parts ent_info
  intro w
  simp [Go.sizeOf, typeInfo, hi0, h1]
set_option maxHeartbeats 4000000 in
set_option maxRecDepth 1000000 in
/-- Some elements, room: in place. -/
theorem ins_shift (b n c vb voff vc : Nat) (cs vs : List Value) (w : World) (hi : 0 < n) (hroom : n + 1 ≤ c) (hc63 : c ≤ 9223372036854775807) (hvb : vb ≠ b)
    (hcl : cs.length = n * 3) (hvl : vs.length = 3)
    (hcs : ∀ j v, cs[j]? = some v → w.cell? ⟨b, j, none⟩ = some v) (hsp : ∀ j, j < (n + 1) * 3 → (w.cell? ⟨b, j, none⟩).isSome = true) (hfz : ∀ j, j < (n + 1) * 3 → w.frozen? ⟨b, j, none⟩ = false)
    (hvs : ∀ j v, vs[j]? = some v → w.cell? ⟨vb, voff + j, none⟩ = some v) (h1c : ∀ v ∈ cs, v.oneCell' = true) (h1v : ∀ v ∈ vs, v.oneCell' = true)
    (tA tB : TypeId) (kA kB : Nat) (hsa : w.shape? vb = some (tA, kA)) (hsb : w.shape? b = some (tB, kB)) (hkA : kA ≠ 0) (hkB : kB ≠ 0) (hfb : w.frozen? ⟨b, 3, none⟩ = false) (hfe : w.frozen? ⟨b, kB, none⟩ = false) :
    Calls Try.prog 36 #[.slice (some ⟨b, 0, none⟩) n c, .int .i64 0, .slice (some ⟨vb, voff, none⟩) 1 vc] w fun e w' =>
      e = .returned (.slice (some ⟨b, 0, none⟩) (n + 1) c) ∧ w' = (w.drew.setCells b 3 cs).setCells b 0 vs := by
  have hz2 : ¬ ((0 : Int) = (n : Int)) := by omega
  have hz3 : ¬ ((c : Int) < (n : Int) + 1) := by omega
  have hov : ∀ lb cb, (callFunc 46 #[.slice (some ⟨vb, voff, none⟩) 1 vc, .slice (some ⟨b, 3, none⟩) lb cb]).run Try.prog w = .ok (.value (.bool false)) w := fun lb cb => by
    rw [run_callFunc_extern Try.func46 (by kernel_rfl) (by kernel_rfl) (by kernel_rfl) (e := Extern.SlicesOverlaps.overlaps #[52, 52] #[4]) (by kernel_rfl),
      run_overlaps_apart2 w 52 4 81 ent_sl 3 ent_sizeOf ⟨vb, voff, none⟩ ⟨b, 3, none⟩ 1 vc lb cb hvb tA tB kA kB hsa hsb hkA hkB hfb hfe]
    rfl
  have mixed : Try.prog.follows .mixedOrders = true := by kernel_rfl
  have hw2 : IntKind.i64.wrap 1 = 1 := by rw [IntKind.wrap_i64]; omega
  have hw3 : (1 : Int).toNat = 1 := rfl
  have hw1 : IntKind.i64.wrap ((n : Int) + 1) = (n : Int) + 1 := by rw [IntKind.wrap_i64]; omega
  have hb2 : ¬ (c = 1) := by omega
  have hb3 : (1 : Int) ≤ (n : Int) + 1 := by omega
  have hb5 : (0 : Int) ≤ (n : Int) + 1 := by omega
  have hb4 : ¬ (c = 0) := by omega
  have hcp1 : ∀ ty dl dc sl sc, sl = n + 1 → dl = n → (Builtin.copy_ #[52, 52] ty #[.slice (some ⟨b, 3, none⟩) dl dc, .slice (some ⟨b, 0, none⟩) sl sc]).run Try.prog w.drew = .ok (goInt n) (w.drew.setCells b 3 cs) := fun ty dl dc sl sc hsl hdl => by
    subst hsl hdl
    have h := run_copy_sized (P := Try.prog) w.drew 52 52 ty 81 3 b 3 dl dc ⟨b, 0, none⟩ (dl + 1) sc cs ent_sl ent_size (by rw [hcl]; simp only [Nat.min_def]; split <;> omega)
      (fun j v hj => by rw [Addr.add_lit, Nat.zero_add]; exact hcs j v hj)
      (fun j hj => hsp _ (by omega)) (fun j hj => hfz _ (by omega)) h1c
    rw [h]
    congr 2
    all_goals (simp only [Nat.min_def]; split <;> omega)
  obtain ⟨W1, hW1⟩ : ∃ W1, W1 = w.drew.setCells b 3 cs := ⟨_, rfl⟩
  have hsp1 : ∀ k, k < (n + 1) * 3 → (W1.cell? ⟨b, k, none⟩).isSome = true := fun k hk => by
    rw [hW1]
    exact sets_some b cs 3 w.drew (fun j hj => hsp _ (by omega)) _ (hsp k hk)
  have hcp2 : ∀ (W : World), (∀ x, W.cell? x = W1.cell? x) → (∀ x, W.frozen? x = W1.frozen? x) → ∀ ty dl dc, dl = n + 1 → (Builtin.copy_ #[52, 52] ty #[.slice (some ⟨b, 0, none⟩) dl dc, .slice (some ⟨vb, voff, none⟩) 1 vc]).run Try.prog W = .ok (goInt 1) (W.setCells b 0 vs) := fun W hWc hWf ty dl dc hdl => by
    subst hdl
    have h := run_copy_sized (P := Try.prog) W 52 52 ty 81 3 b 0 (n + 1) dc ⟨vb, voff, none⟩ 1 vc vs ent_sl ent_size (by rw [hvl]; simp only [Nat.min_def]; split <;> omega)
      (fun j v hj => by
        rw [Addr.add_lit, hWc, hW1, World.cell?_setCells_out b _ _ _ _ (fun h _ => absurd h hvb)]
        exact hvs j v hj)
      (fun j hj => by rw [hWc]; exact hsp1 _ (by omega)) (fun j hj => by rw [hWf, hW1, World.frozen?_setCells]; exact hfz _ (by omega)) h1v
    rw [h]
    congr 2
    all_goals (simp only [Nat.min_def]; split <;> omega)
  rw [← hW1] at hcp1
  go_enter Try.func36, Try.ntmps36
  go_wp2_with (simp only [hov])
  go_region_law_o (refine step_copy_runI rfl _ _ 52 52 rfl _ _ (by simp [Act.eval, Act.put]) (by simp [Act.eval, Act.put]) (hcp1 _ _ _ _ _ (by omega) (by omega)) ?_)
  go_wp2_with (at_builtin; refine wpList_copy_runI _ rfl _ _ 52 52 rfl _ _ rfl rfl (hcp2 _ (fun _ => rfl) (fun _ => rfl) _ _ _ (by omega)) ?_)
  go_ret
  first | exact ⟨rfl, rfl⟩ | exact ⟨rfl, by rw [hW1]⟩
end Go.Proofs.Ytpenniildabheaa
