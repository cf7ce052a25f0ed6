/-
  The parts PcB of the proof, in one file. Conditions: none.
-/
import Derived.WalkKit
import Derived.Sort.WalkB12
import Derived.Lib.SlicesDelete
import Derived.Test.YtpenniildabheaaPb29
namespace Go.Proofs.Ytpenniildabheaa
open Go.Shelf Go.RowKit Go.Lib Go.Sort Go.Proofs Go.Eng
set_option linter.unusedVariables false
set_option linter.unusedSimpArgs false
abbrev zE : Value := .agg #[.string ⟨#[]⟩, .int .i64 0, .slice none 0 0]
abbrev zEs : List Value := [.string ⟨#[]⟩, .int .i64 0, .slice none 0 0]
theorem ent_info : (Try.prog.info? 81).map (fun i => (i.zero, i.size, i.bytes)) = some (some zE, 3, 48) := by kernel_rfl
theorem ent_sl : Try.prog.underlying 52 = some (.slice 81) := by kernel_rfl
theorem ent_zc : (Builtin.zeroCells zE.cells 1).toList = zEs := by
  have e : zE.cells = #[.string ⟨#[]⟩, .int .i64 0, .slice none 0 0] := by simp [Value.cells]
  rw [e]
  simp [Builtin.zeroCells]
  rfl
theorem ent_zero : ∀ w, (zeroValue 81).run Try.prog w = .ok zE w := by
  intro w
  obtain ⟨i0, hi0, h0, h1, h2⟩ := info_parts ent_info
  simp [zeroValue, typeInfo, hi0, h0]
set_option maxHeartbeats 4000000 in
set_option maxRecDepth 1000000 in
theorem del_low (b n cap i : Nat) (cs : List Value) (w : World) (hi : i < n) (hn : n ≤ cap) (hm : cap ≤ 9223372036854775807) (hl : cs.length = n * 3)
    (hcs : ∀ j v, cs[j]? = some v → w.cell? ⟨b, j, none⟩ = some v) (hfz : ∀ j, j < n * 3 → w.frozen? ⟨b, j, none⟩ = false) (h1 : ∀ v ∈ cs, v.oneCell' = true) :
    Calls Try.prog 42 #[.slice (some ⟨b, 0, none⟩) n cap, .int .i64 i, .int .i64 ((i : Int) + 1)] w fun e w' => e = .returned (.slice (some ⟨b, 0, none⟩) (n - 1) cap) ∧
      w' = (w.drew.setCells b (i * 3) (cs.drop ((i + 1) * 3))).setCells b ((n - 1) * 3) zEs := by
  obtain ⟨i0, hi0, hz0, hz1, hz2⟩ := info_parts ent_info
  have t52 := ent_sl
  obtain ⟨news, hnews⟩ : ∃ news, news = cs.drop ((i + 1) * 3) := ⟨_, rfl⟩
  have hlen : news.length = (n - (i + 1)) * 3 := by rw [hnews, List.length_drop, hl, Nat.sub_mul]
  have hget : ∀ t u, news[t]? = some u → w.cell? ⟨b, (i + 1) * 3 + t, none⟩ = some u := fun t u hu => by
    rw [hnews, List.getElem?_drop] at hu
    exact hcs _ _ hu
  obtain ⟨A, hA, hsrc⟩ : ∃ A : Addr, (if cap = i + 1 then some (⟨b, 0, none⟩ : Addr) else some ⟨b, (i + 1) * 3, none⟩) = some A ∧ Hid (∀ t u, news[t]? = some u → w.drew.cell? (A.add t) = some u) := by
    by_cases h : cap = i + 1
    · refine ⟨⟨b, 0, none⟩, by simp [h], fun t u hu => ?_⟩
      have h0 : news.length = 0 := by rw [hlen]; omega
      rw [List.length_eq_zero_iff.1 h0] at hu
      simp at hu
    · refine ⟨⟨b, (i + 1) * 3, none⟩, by simp [h], fun t u hu => ?_⟩
      rw [Addr.add_lit]
      exact hget t u hu
  have s1 : Hid (news.length = (n - (i + 1)) * 3) := hlen
  have s2 : Hid (∀ u ∈ news, u.oneCell' = true) := fun u hu => h1 u (by rw [hnews] at hu; exact List.mem_of_mem_drop hu)
  have hsome : ∀ t, t < n * 3 → (w.cell? ⟨b, t, none⟩).isSome = true := fun t ht => by
    obtain ⟨v, hv⟩ : ∃ v, cs[t]? = some v := ⟨cs[t]'(by omega), by simp [show t < cs.length by omega]⟩
    rw [hcs t v hv]; rfl
  have s3 : Hid (∀ t, t < news.length → (w.drew.cell? ⟨b, 0 + i * 3 + t, none⟩).isSome = true ∧ w.drew.frozen? ⟨b, 0 + i * 3 + t, none⟩ = false) := by
    intro t ht
    rw [hlen] at ht
    rw [Nat.zero_add]
    exact ⟨hsome (i * 3 + t) (by omega), hfz _ (by omega)⟩
  obtain ⟨W1, hW1⟩ : ∃ W1, W1 = w.drew.setCells b (0 + i * 3) news := ⟨_, rfl⟩
  have hW : Hid (W1 = w.drew.setCells b (0 + i * 3) news) := hW1
  have hcl : ∀ ty, (Builtin.clear_ #[52] ty #[.slice (some ⟨b, (i + (n - (i + 1))) * 3, none⟩) (n - (i + (n - (i + 1)))) (cap - (i + (n - (i + 1))))]).run Try.prog W1 = .ok (.tuple #[]) (W1.setCells b ((n - 1) * 3) zEs) := fun ty => by
    have e1 : i + (n - (i + 1)) = n - 1 := by omega
    have e2 : n - (n - 1) = 1 := by omega
    rw [e1, e2]
    refine run_clear_sized W1 52 81 ty zE t52 ent_zero zEs b ((n - 1) * 3) 1 _ (by omega) ent_zc (by decide) (fun t ht => ?_) (fun t ht => ?_)
    · rw [hW1]
      have h3 : zEs.length = 3 := rfl
      refine sets_some b news _ w.drew (fun j hj => ?_) _ ?_
      · rw [Nat.zero_add]
        exact hsome _ (by omega)
      · exact hsome _ (by omega)
    · rw [hW1, World.frozen?_setCells]
      exact hfz _ (by have : zEs.length = 3 := rfl; omega)
  have hic : i ≤ cap := by omega
  have hjc : i + 1 ≤ cap := by omega
  have hb1 : (0 : Int) ≤ (i : Int) + 1 := by omega
  have hb2 : (i : Int) + 1 ≤ (n : Int) := by omega
  have htn : ((i : Int) + 1).toNat = i + 1 := by omega
  have mixed : Try.prog.follows .mixedOrders = true := by kernel_rfl
  have hN : Hid (news = cs.drop ((i + 1) * 3)) := hnews
  clear hW1 hget hnews hlen hsome hcs hfz
  go_enter Try.func42, Try.ntmps42
  go_wp2_with fail
  go_region_law_o (refine step_append_room rfl (.tmp 22) (.tmp 25) 52 rfl 81 i0 3 t52 hi0 hz1 b 0 i cap (by simp [Act.eval, Act.put]) A (n - (i + 1)) (cap - (i + 1)) news (by simp [Act.eval, Act.put]) s1.out hsrc.out s2.out (by omega) s3.out ?_; rw [← hW.out])
  go_wp2
  go_ret
  refine ⟨?_, ?_⟩
  · show Ending.returned (Value.slice (some ⟨b, 0, none⟩) (i + (n - (i + 1))) cap) = _
    rw [show i + (n - (i + 1)) = n - 1 by omega]
  · rw [hW.out, hN.out, Nat.zero_add]
end Go.Proofs.Ytpenniildabheaa
