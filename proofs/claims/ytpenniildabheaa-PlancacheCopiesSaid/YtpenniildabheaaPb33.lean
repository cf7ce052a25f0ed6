/-
  The parts PcE of the proof, in one file. Conditions: none.
-/
import Derived.Shelf.Spec.SlicesInsert
import Derived.Shelf.Spec.SlicesInsertGrow
import Derived.Test.YtpenniildabheaaPb32
namespace Go.Proofs.Ytpenniildabheaa
open Go.Shelf Go.RowKit Go.Lib Go.Sort Go.Proofs Go.Eng
set_option linter.unusedVariables false
set_option linter.unusedSimpArgs false
set_option maxHeartbeats 4000000 in
set_option maxRecDepth 1000000 in
/-- Some elements, no room: a new row. -/
theorem ins_grow (b n vb voff vc : Nat) (cs vs : List Value) (w : World) (hi : 0 < n) (hbig : (n + 1) * 48 ≤ 140737488355328)
    (hcl : cs.length = n * 3) (hvl : vs.length = 3)
    (hcs : ∀ j v, cs[j]? = some v → w.cell? ⟨b, j, none⟩ = some v)
    (hvs : ∀ j v, vs[j]? = some v → w.cell? ⟨vb, voff + j, none⟩ = some v) (h1c : ∀ v ∈ cs, v.oneCell' = true) (h1v : ∀ v ∈ vs, v.oneCell' = true) :
    Calls Try.prog 36 #[.slice (some ⟨b, 0, none⟩) n n, .int .i64 0, .slice (some ⟨vb, voff, none⟩) 1 vc] w fun e w' =>
      e = .returned (.slice (some ⟨w.heap.size, 0, none⟩) (n + 1) (grownCap w (n + 1) n 81)) ∧
      w' = (((w.alloc (.cells (Builtin.zeroCells zE.cells (n + 1) ++ Builtin.zeroCells zE.cells (grownCap w (n + 1) n 81 - (n + 1))) 81)).drew.setCells w.heap.size 0 vs).drew).setCells w.heap.size 3 cs := by
  obtain ⟨i0, hi0, hz0, hzs, hzb⟩ := info_parts ent_info
  have t3 : Try.prog.underlying 3 = some (.int .i64) := by kernel_rfl
  have hz2 : ¬ ((0 : Int) = (n : Int)) := by omega
  have hz3 : (n : Int) < (n : Int) + 1 := by omega
  have hbw : b < w.heap.size := block_lt_of_cell (hcs 0 _ (List.getElem?_eq_getElem (by omega)))
  have hvw : vb < w.heap.size := block_lt_of_cell (hvs 0 _ (List.getElem?_eq_getElem (by omega)))
  have hkk : (n : Int) + 1 = ((n + 1 : Nat) : Int) := by omega
  have hold : (Builtin.firstCells i0.size 0 (.slice (some ⟨b, 0, none⟩) 0 n)).run Try.prog w.drew = .ok ([] : List Value).toArray w.drew := by
    rw [hzs]
    exact run_firstCells_some w.drew 3 0 ⟨b, 0, none⟩ 0 n [] (by simp) (fun j v hj => by simp at hj)
  have hrz : ∀ ty, (Builtin.append_ #[52, 3] ty #[.slice (some ⟨b, 0, none⟩) 0 n, .int .i64 ((n : Int) + 1)]).run Try.prog w =
      .ok (.slice (some ⟨w.heap.size, 0, none⟩) (n + 1) (grownCap w (n + 1) n 81)) (w.drew.alloc (.cells (Builtin.zeroCells zE.cells (n + 1) ++ Builtin.zeroCells zE.cells (grownCap w (n + 1) n 81 - (n + 1))) 81)) := fun ty => by
    have h := Lib.run_append_grow_zeros w 52 3 ty 81 i0 _ .i64 .i64 ent_sl t3 hi0 hz0 (some ⟨b, 0, none⟩) 0 n [] hold (n + 1) (by omega) (by omega) (by omega) (by omega) (by rw [hzb]; omega) (by rw [hzb, Nat.zero_add]; exact growslice_fits (by omega) hbig)
    rw [Nat.zero_add] at h
    rw [hkk]
    simpa using h
  obtain ⟨G, hG⟩ : ∃ G, G = grownCap w (n + 1) n 81 := ⟨_, rfl⟩
  obtain ⟨ROW, hROW⟩ : ∃ ROW : Array Value, ROW = Builtin.zeroCells zE.cells (n + 1) ++ Builtin.zeroCells zE.cells (G - (n + 1)) := ⟨_, rfl⟩
  rw [← hG] at hrz ⊢
  rw [← hROW] at hrz ⊢
  have hRl : (n + 1) * 3 ≤ ROW.size := by
    rw [hROW]
    simp [Builtin.zeroCells, Value.cells]
    try omega
  obtain ⟨W1, hW1⟩ : ∃ W1, W1 = w.drew.alloc (.cells ROW 81) := ⟨_, rfl⟩
  rw [← hW1] at hrz
  have hN : ∀ j, j < (n + 1) * 3 → (W1.cell? ⟨w.heap.size, j, none⟩).isSome = true := fun j hj => by
    rw [hW1, World.cell?_alloc_at (w := w.drew) ROW _ w.heap.size j rfl, Array.getElem?_eq_getElem (by omega)]; rfl
  have hNf : ∀ j, W1.frozen? ⟨w.heap.size, j, none⟩ = false := fun j => by rw [hW1]; exact World.frozen?_alloc_at (w := w.drew) ROW _ w.heap.size j rfl
  have hOb : ∀ j v, w.cell? ⟨b, j, none⟩ = some v → W1.cell? ⟨b, j, none⟩ = some v := fun j v h => by rw [hW1, World.cell?_alloc_past (w := w.drew) _ b j hbw]; exact h
  have hOv : ∀ j v, w.cell? ⟨vb, j, none⟩ = some v → W1.cell? ⟨vb, j, none⟩ = some v := fun j v h => by rw [hW1, World.cell?_alloc_past (w := w.drew) _ vb j hvw]; exact h
  have hcpA : ∀ (W : World), (∀ x, W.cell? x = W1.cell? x) → (∀ x, W.frozen? x = W1.frozen? x) → ∀ ty dl dc, dl = n + 1 → (Builtin.copy_ #[52, 52] ty #[.slice (some ⟨w.heap.size, 0, none⟩) dl dc, .slice (some ⟨vb, voff, none⟩) 1 vc]).run Try.prog W = .ok (goInt 1) (W.setCells w.heap.size 0 vs) := fun W hWc hWf ty dl dc hdl => by
    subst hdl
    have h := run_copy_sized (P := Try.prog) W 52 52 ty 81 3 w.heap.size 0 (n + 1) dc ⟨vb, voff, none⟩ 1 vc vs ent_sl ent_size (by rw [hvl]; simp only [Nat.min_def]; split <;> omega)
      (fun j v hj => by rw [Addr.add_lit, hWc]; exact hOv _ v (hvs j v hj))
      (fun j hj => by rw [hWc]; exact hN _ (by omega)) (fun j hj => by rw [hWf]; exact hNf _) h1v
    rw [h]
    congr 2
    all_goals (simp only [Nat.min_def]; split <;> omega)
  have hGn : n + 1 ≤ G := by rw [hG]; exact grownCap_ge w _ _ _
  have hG63 : G ≤ 9223372036854775807 := by
    have := grownCap_le_maxLen w (n + 1) n 81 (by unfold maxLen; omega)
    rw [← hG] at this
    unfold maxLen at this
    omega
  have hG0 : ¬ (G = 0) := by omega
  have hG1 : ¬ (G = 1) := by omega
  have hb3 : (1 : Int) ≤ (n : Int) + 1 := by omega
  have hb5 : (0 : Int) ≤ (n : Int) + 1 := by omega
  have hn0 : ¬ (n = 0) := by omega
  have hbN : b ≠ w.heap.size := by omega
  have hcpB : ∀ (W : World), (∀ x, W.cell? x = (W1.setCells w.heap.size 0 vs).cell? x) → (∀ x, W.frozen? x = (W1.setCells w.heap.size 0 vs).frozen? x) → ∀ ty dl dc sl sc, dl = n → sl = n → (Builtin.copy_ #[52, 52] ty #[.slice (some ⟨w.heap.size, 3, none⟩) dl dc, .slice (some ⟨b, 0, none⟩) sl sc]).run Try.prog W = .ok (goInt n) (W.setCells w.heap.size 3 cs) := fun W hWc hWf ty dl dc sl sc hdl hsl => by
    subst hdl
    rw [hsl]
    have h := run_copy_sized (P := Try.prog) W 52 52 ty 81 3 w.heap.size 3 dl dc ⟨b, 0, none⟩ dl sc cs ent_sl ent_size (by rw [hcl]; simp only [Nat.min_def]; split <;> omega)
      (fun j v hj => by
        rw [Addr.add_lit, hWc, World.cell?_setCells_out _ _ _ _ _ (fun h _ => absurd h hbN), Nat.zero_add]
        exact hOb _ v (hcs j v hj))
      (fun j hj => by rw [hWc]; exact sets_some _ vs 0 _ (fun t ht => hN _ (by omega)) _ (hN _ (by omega)))
      (fun j hj => by rw [hWf, World.frozen?_setCells]; exact hNf _) h1c
    rw [h]
    congr 2
    all_goals (simp only [Nat.min_def]; split <;> omega)
  subst hW1
  have hE1 : ∀ x, ((w.alloc (.cells ROW 81)).drew).cell? x = (w.drew.alloc (.cells ROW 81)).cell? x := fun x => rfl
  have hE2 : ∀ x, ((w.alloc (.cells ROW 81)).drew).frozen? x = (w.drew.alloc (.cells ROW 81)).frozen? x := fun x => rfl
  have hF1 : ∀ x, (((w.alloc (.cells ROW 81)).drew.setCells w.heap.size 0 vs).drew).cell? x = ((w.drew.alloc (.cells ROW 81)).setCells w.heap.size 0 vs).cell? x := fun x => rfl
  have hF2 : ∀ x, (((w.alloc (.cells ROW 81)).drew.setCells w.heap.size 0 vs).drew).frozen? x = ((w.drew.alloc (.cells ROW 81)).setCells w.heap.size 0 vs).frozen? x := fun x => rfl
  have hw2 : IntKind.i64.wrap 1 = 1 := by rw [IntKind.wrap_i64]; omega
  have hw3 : (1 : Int).toNat = 1 := rfl
  have hw1 : IntKind.i64.wrap ((n : Int) + 1) = (n : Int) + 1 := by rw [IntKind.wrap_i64]; omega
  have mixed : Try.prog.follows .mixedOrders = true := by kernel_rfl
  clear hkk hold hROW hG hRl
  go_enter Try.func36, Try.ntmps36
  go_wp2_with (first
    | (at_builtin; refine Lib.wpList_append_run _ rfl _ _ _ _ rfl _ _ rfl rfl _ _ (hrz _) ?_)
    | (at_builtin; refine wpList_copy_runI _ rfl _ _ 52 52 rfl _ _ rfl rfl (hcpA _ hE1 hE2 _ _ _ (by omega)) ?_)
    | (at_builtin; refine wpList_copy_runI _ rfl _ _ 52 52 rfl _ _ rfl rfl (hcpB _ (fun _ => rfl) (fun _ => rfl) _ _ _ _ _ (by omega) (by omega)) ?_))
  go_region_law_o (refine step_copy_runI rfl _ _ 52 52 rfl (.slice (some ⟨w.heap.size, 3, none⟩) n (G - 1)) (.slice (some ⟨b, 0, none⟩) n n) (by simp [Act.eval, Act.put]) (by simp [Act.eval, Act.put]) (hcpB _ hF1 hF2 3 _ _ _ _ (by omega) (by omega)) ?_)
  go_wp2
  go_ret
  exact ⟨rfl, rfl⟩
end Go.Proofs.Ytpenniildabheaa
