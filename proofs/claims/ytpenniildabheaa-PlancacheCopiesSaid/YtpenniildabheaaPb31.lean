/-
  The parts PcC of the proof, in one file. Conditions: none.
-/
import Derived.Shelf.Spec.SlicesInsertGrow
import Derived.Test.YtpenniildabheaaPb30
namespace Go.Proofs.Ytpenniildabheaa
open Go.Shelf Go.RowKit Go.Lib Go.Sort Go.Proofs Go.Eng
set_option linter.unusedVariables false
set_option linter.unusedSimpArgs false
theorem ent_size : (Try.prog.info? 81).map (·.size) = some 3 := by
  obtain ⟨i0, hi0, h0, h1, h2⟩ := info_parts ent_info
  rw [hi0]; simp [h1]
set_option maxHeartbeats 4000000 in
set_option maxRecDepth 1000000 in
/-- No element, room. -/
theorem ins_room0 (b c vb voff vc : Nat) (vs : List Value) (w : World) (hc : 1 ≤ c) (hvl : vs.length = 3)
    (hsp : ∀ j, j < 3 → (w.cell? ⟨b, j, none⟩).isSome = true) (hfz : ∀ j, j < 3 → w.frozen? ⟨b, j, none⟩ = false)
    (hvs : ∀ j v, vs[j]? = some v → w.cell? ⟨vb, voff + j, none⟩ = some v) (h1v : ∀ v ∈ vs, v.oneCell' = true) :
    Calls Try.prog 36 #[.slice (some ⟨b, 0, none⟩) 0 c, .int .i64 0, .slice (some ⟨vb, voff, none⟩) 1 vc] w fun e w' =>
      e = .returned (.slice (some ⟨b, 0, none⟩) 1 c) ∧ w' = w.setCells b 0 vs := by
  obtain ⟨i0, hi0, hz0, hz1, hz2⟩ := info_parts ent_info
  have hrun : ∀ ty, (Builtin.append_ #[52, 52] ty #[.slice (some ⟨b, 0, none⟩) 0 c, .slice (some ⟨vb, voff, none⟩) 1 vc]).run Try.prog w = .ok (.slice (some ⟨b, 0, none⟩) 1 c) (w.setCells b 0 vs) := fun ty => by
    have h := run_append_room_cells (P := Try.prog) w 52 ty 81 i0 ent_sl hi0 b 0 0 c ⟨vb, voff, none⟩ 1 vc vs (by rw [hvl, hz1]) (fun j u hj => by rw [Addr.add_lit]; exact hvs j u hj) h1v (by omega)
      (fun j hj => by rw [Nat.zero_mul, Nat.add_zero, Nat.zero_add]; exact hsp j (by omega)) (fun j hj => by rw [Nat.zero_mul, Nat.add_zero, Nat.zero_add]; exact hfz j (by omega))
    simpa using h
  have mixed : Try.prog.follows .mixedOrders = true := by kernel_rfl
  go_enter Try.func36, Try.ntmps36
  go_wp2_with (at_builtin; refine Lib.wpList_append_run _ rfl _ _ _ _ rfl _ _ rfl rfl _ _ (hrun _) ?_)
  go_ret
  exact ⟨rfl, rfl⟩
set_option maxHeartbeats 4000000 in
set_option maxRecDepth 1000000 in
/-- No element, no room. -/
theorem ins_grow0 (base : Option Addr) (hb : ∀ a, base = some a → ∃ ab ao asp, a = ⟨ab, ao, asp⟩) (vb voff vc : Nat) (vs : List Value) (w : World) (hvl : vs.length = 3)
    (hvs : ∀ j v, vs[j]? = some v → w.cell? ⟨vb, voff + j, none⟩ = some v) (h1v : ∀ v ∈ vs, v.oneCell' = true) :
    Calls Try.prog 36 #[.slice base 0 0, .int .i64 0, .slice (some ⟨vb, voff, none⟩) 1 vc] w fun e w' =>
      e = .returned (.slice (some ⟨w.heap.size, 0, none⟩) 1 (grownCap w 1 0 81)) ∧ w' = w.drew.alloc (.cells (vs.toArray ++ Builtin.zeroCells zE.cells (grownCap w 1 0 81 - 1)) 81) := by
  obtain ⟨i0, hi0, hz0, hzs, hzb⟩ := info_parts ent_info
  have hsrc : Src Try.prog i0.size 52 (.slice (some ⟨vb, voff, none⟩) 1 vc) 1 vs w := by
    rw [hzs]
    exact Src.ofSlice w ent_sl ⟨vb, voff, none⟩ 1 vc vs (by omega) (fun j u hj => by rw [Addr.add_lit]; exact hvs j u hj) h1v
  have hold : (Builtin.firstCells i0.size 0 (.slice base 0 0)).run Try.prog w.drew = .ok ([] : List Value).toArray w.drew := by
    rw [hzs]
    cases base with
    | none => exact run_firstCells_none w.drew 3 0 0 0
    | some a => exact run_firstCells_some w.drew 3 0 a 0 0 [] (by simp) (fun j v hj => by simp at hj)
  have hrun : ∀ ty, (Builtin.append_ #[52, 52] ty #[.slice base 0 0, .slice (some ⟨vb, voff, none⟩) 1 vc]).run Try.prog w = _ := fun ty =>
    run_append_grow_src w 52 52 ty 81 i0 _ ent_sl hi0 hz0 base 0 0 [] hold _ 1 vs hsrc (by omega) (by omega) (by rw [hzb]; exact growslice_fits (by omega) (by omega))
  have mixed : Try.prog.follows .mixedOrders = true := by kernel_rfl
  go_enter Try.func36, Try.ntmps36
  cases base with
  | none =>
    go_wp2_with (at_builtin; refine Lib.wpList_append_run _ rfl _ _ _ _ rfl _ _ rfl rfl _ _ (hrun _) ?_)
    go_ret
    exact ⟨rfl, rfl⟩
  | some a =>
    obtain ⟨ab, ao, asp⟩ := a
    go_wp2_with (at_builtin; refine Lib.wpList_append_run _ rfl _ _ _ _ rfl _ _ rfl rfl _ _ (hrun _) ?_)
    all_goals (go_ret; exact ⟨rfl, rfl⟩)
end Go.Proofs.Ytpenniildabheaa
