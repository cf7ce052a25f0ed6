/-
  The parts CmC CcR of the proof, in one file. Conditions: none.
-/
import Derived.Test.YtgollgfifnmaaaaDoorProg
import Derived.KernelRfl
import Derived.Test.YtgollgfifnmaaaaDoorCmP342
namespace Go.Proofs.YtgollgfifnmaaaaDoor
open Go.Eng
set_option linter.unusedVariables false
set_option linter.unusedSimpArgs false
set_option maxRecDepth 20000
abbrev FFn := ByteArray → List Int → List Pk → Bool
/-- The picks of a type, one behind the other; none: one does not fit. -/
noncomputable def shpR (on : ByteArray) (keys : List ByteArray) (fs : List FFn) : List Pk → Nat → Option Nat
  | [], at' => some at'
  | p :: r, at' => if p.on = on then (if at' < keys.length ∧ at' < fs.length ∧ keys[at']? = some p.key ∧ (fs.getD at' fun _ _ _ => false) p.tn p.tw p.picks = true then shpR on keys fs r (at' + 1) else none) else shpR on keys fs r at'
noncomputable def shpB (v : Val) (fs : List FFn) (on : ByteArray) (picks : List Pk) : Bool := match shpR on v.keys fs picks 0 with
  | none => false
  | some n => decide (v.k = 6) && (decide (n = v.keys.length) && decide (n = fs.length))
noncomputable def fitB (doc : List Dfn) (v : Val) (fs : List FFn) : FFn := fun tn tw picks =>
  if v.k = 0 then !nnW tw
  else if lstW tw = true then fs.all (fun f => f tn (innW tw) picks) && (decide (v.k = 5) && decide (v.keys.length = 0))
  else if leafB doc tn = true then decide (fs.length = 0) && (decide (1 ≤ v.k) && decide (v.k ≤ 4))
  else (posL doc tn).any fun on => shpB v fs on picks
mutual
noncomputable def fitV (doc : List Dfn) : Val → FFn
  | .mk k n s i l => fitB doc (.mk k n s i l) (fitL doc i)
noncomputable def fitL (doc : List Dfn) : List Val → List FFn
  | [] => []
  | v :: r => fitV doc v :: fitL doc r
end
theorem fitL_map (doc : List Dfn) (l : List Val) : fitL doc l = l.map (fitV doc) := by
  induction l with
  | nil => rw [fitL]; rfl
  | cons v l ih => rw [fitL, ih, List.map_cons]
theorem fitV_eq (doc : List Dfn) (v : Val) : fitV doc v = fitB doc v (v.items.map (fitV doc)) := by
  cases v
  rw [fitV, fitL_map]
  rfl
theorem RgtW.tail {w : List Int} (h : RgtW w) : RgtW w.tail := by
  cases w with
  | nil => trivial
  | cons a w =>
    cases w with
    | nil => trivial
    | cons b w => exact h.2
theorem RgtW.nul {w : List Int} (h : RgtW w) : RgtW (nulW w) := by
  unfold nulW
  split
  · exact h.tail
  · exact h
theorem RgtW.inn {w : List Int} (h : RgtW w) : RgtW (innW w) := h.nul.tail
theorem RgtW.nul_nul {w : List Int} (h : RgtW w) : nulW (nulW w) = nulW w := by
  cases w with
  | nil => rfl
  | cons a w =>
    cases w with
    | nil =>
      by_cases c : a = 1
      · subst c; rfl
      · have : nnW [a] = false := by simp [nnW, c]
        simp [nulW, this]
    | cons b w =>
      by_cases c : a = 1
      · subst c
        have hb : ¬ b = 1 := fun e => h.1 ⟨rfl, e⟩
        have h1 : nnW (1 :: b :: w) = true := rfl
        have h2 : nnW (b :: w) = false := by simp [nnW, hb]
        simp [nulW, h1, h2]
      · have : nnW (a :: b :: w) = false := by simp [nnW, c]
        simp [nulW, this]
theorem shpR_ok (on : ByteArray) (keys : List ByteArray) (fs : List FFn) : ∀ (l : List Pk) (at' : Nat), (∀ i p, (l.filter fun p => decide (p.on = on))[i]? = some p → keys[at' + i]? = some p.key ∧ ∃ f, fs[at' + i]? = some f ∧ f p.tn p.tw p.picks = true) →
    shpR on keys fs l at' = some (at' + (l.filter fun p => decide (p.on = on)).length)
  | [], at', _ => by rw [shpR]; rfl
  | p :: l, at', h => by
    rw [shpR]
    by_cases c : p.on = on
    · have e : ((p :: l).filter fun p => decide (p.on = on)) = p :: (l.filter fun p => decide (p.on = on)) := List.filter_cons_of_pos (by simp [c])
      rw [e] at h ⊢
      obtain ⟨h1, f, h2, h3⟩ := h 0 p rfl
      rw [Nat.add_zero] at h1 h2
      rw [if_pos c, if_pos ⟨(List.getElem?_eq_some_iff.1 h1).1, (List.getElem?_eq_some_iff.1 h2).1, h1, by rw [List.getD_eq_getElem?_getD, h2]; exact h3⟩,
        shpR_ok on keys fs l (at' + 1) fun i q hq => by
          have := h (i + 1) q (by simpa using hq)
          rw [show at' + 1 + i = at' + (i + 1) by omega]
          exact this]
      rw [List.length_cons]
      congr 1
      omega
    · have e : ((p :: l).filter fun p => decide (p.on = on)) = l.filter fun p => decide (p.on = on) := List.filter_cons_of_neg (by simp [c])
      rw [e] at h ⊢
      rw [if_neg c]
      exact shpR_ok on keys fs l at' h
theorem fitV_z (doc : List Dfn) (tn : ByteArray) (tw : List Int) (picks : List Pk) : fitV doc zVal tn tw picks = !nnW tw := by
  rw [fitV_eq, fitB, if_pos (by rfl)]
/-- Completed data fits its position. -/
theorem cmp_fits (doc : List Dfn) (v : Val) : ∀ tn tw picks path, RgtW tw → Good picks → lostB tw (cplV doc v tn tw picks path).1 = false → fitV doc (cplV doc v tn tw picks path).1 tn tw picks = true := by
  refine Val.ind (Q := fun v => ∀ tn tw picks path, RgtW tw → Good picks → lostB tw (cplV doc v tn tw picks path).1 = false → fitV doc (cplV doc v tn tw picks path).1 tn tw picks = true) (fun v ih tn tw picks path ht hg => ?_) v
  have hzz : ∀ tn tw picks, lostB tw zVal = false → fitV doc zVal tn tw picks = true := fun tn tw picks h => by
    rw [fitV_z]
    have : lostB tw zVal = nnW tw := by simp [lostB, zVal, Val.k_mk]
    rw [← this, h]
    rfl
  have hnul : ∀ tn (tw : List Int) picks (path : List Val), lostB tw (nulR tw path).1 = false → fitV doc (nulR tw path).1 tn tw picks = true := fun tn tw picks path => by
    rw [nulR]
    split <;> exact hzz _ _ _
  have hz : ∀ tn tw picks path, RgtW tw → Good picks → lostB tw (cplV doc zVal tn tw picks path).1 = false → fitV doc (cplV doc zVal tn tw picks path).1 tn tw picks = true := fun tn tw picks path _ _ => by
    rw [cplV_z]; exact hnul _ _ _ _
  refine cplV_cases (Q := fun R => lostB tw R.1 = false → fitV doc R.1 tn tw picks = true) (fun s _ => hzz _ _ _) (fun _ => hnul _ _ _ _) (fun c5 cl => ?_) (fun _ cl lf x hx _ => ?_) (fun c6 cl lf on hon _ hpo => ?_)
  · dsimp only [listR]
    split
    · exact hzz _ _ _
    rename_i hany
    intro _
    have hl : lstW tw = true := by
      rw [lstW, ht.nul_nul] at cl
      exact cl
    rw [fitV_eq, fitB, if_neg (by simp [liV, Val.k_mk]), if_pos hl]
    have e : innW (nulW tw) = innW tw := by rw [innW, ht.nul_nul, innW]
    simp only [liV, Val.items_mk, Val.k_mk, Val.keys_mk, List.length_nil, decide_true, Bool.and_true, List.all_eq_true]
    intro f hf
    obtain ⟨x, hx, rfl⟩ := List.mem_map.1 hf
    obtain ⟨r, hr, rfl⟩ := List.mem_map.1 hx
    obtain ⟨i, g, e1, e2, e3⟩ := mem_lsR _ _ _ _ _ _ _ hr
    rw [List.getElem?_map] at e1
    cases ex : v.items[i]? with
    | none => rw [ex] at e1; cases e1
    | some y =>
      rw [ex] at e1
      cases e1
      have hnl : lostB (innW (nulW tw)) r.1 = false := by
        cases q : lostB (innW (nulW tw)) r.1 with
        | false => rfl
        | true => exact absurd (List.any_eq_true.2 ⟨r, hr, q⟩) hany
      rw [← e]
      rw [e2] at hnl ⊢
      exact ih y (List.mem_of_getElem? ex) tn _ picks _ ht.nul.inn hg hnl
  · obtain ⟨k1, k2, k3, k4⟩ := leafC_k hx
    have hl : lstW tw = false := by
      rw [lstW, ht.nul_nul] at cl
      exact cl
    rw [fitV_eq, fitB, if_neg (by dsimp only; omega), if_neg (by simp [hl]), if_pos lf]
    simp only [k3, List.map_nil, List.length_nil, decide_true, Bool.true_and, Bool.and_eq_true, decide_eq_true_eq]
    exact ⟨k1, k2⟩
  · dsimp only [objR]
    split
    · exact hzz _ _ _
    rename_i hany
    intro _
    have hl : lstW tw = false := by
      rw [lstW, ht.nul_nul] at cl
      exact cl
    rw [fitV_eq, fitB, if_neg (by simp [obR, Val.k_mk]), if_neg (by simp [hl]), if_neg (by simp [lf]), List.any_eq_true]
    refine ⟨on, hpo, ?_⟩
    have hlen : (obS v.keys (v.items.map (cplV doc)) on path picks).length = (picks.filter fun p => decide (p.on = on)).length := by unfold obS; rw [List.length_map]
    have := shpR_ok on (obR ((obS v.keys (v.items.map (cplV doc)) on path picks).map (·.1.key)) ((obS v.keys (v.items.map (cplV doc)) on path picks).map (·.2.1))).keys
      ((obR ((obS v.keys (v.items.map (cplV doc)) on path picks).map (·.1.key)) ((obS v.keys (v.items.map (cplV doc)) on path picks).map (·.2.1))).items.map (fitV doc)) picks 0 fun i p hp => by
        rw [Nat.zero_add]
        simp only [obR, Val.keys_mk, Val.items_mk]
        have hr : (obS v.keys (v.items.map (cplV doc)) on path picks)[i]? = some (p, itF v.keys (v.items.map (cplV doc)) p.key p.tn p.tw p.picks (path ++ [txV p.key])) := by
          unfold obS
          rw [List.getElem?_map, hp]
          rfl
        refine ⟨by rw [List.getElem?_map, hr]; rfl, _, by rw [List.getElem?_map, List.getElem?_map, hr]; rfl, ?_⟩
        have hm := List.mem_of_getElem? hr
        obtain ⟨q1, q2, q3⟩ := obS_mem c6 hm
        have hnl : lostB p.tw (itF v.keys (v.items.map (cplV doc)) p.key p.tn p.tw p.picks (path ++ [txV p.key])).1 = false := by
          cases q : lostB p.tw (itF v.keys (v.items.map (cplV doc)) p.key p.tn p.tw p.picks (path ++ [txV p.key])).1 with
          | false => rfl
          | true => exact absurd (List.any_eq_true.2 ⟨_, hm, q⟩) hany
        dsimp only at q1 q2 q3 ⊢
        rw [q3] at hnl ⊢
        exact getD_ind (Q := fun x => ∀ tn tw picks path, RgtW tw → Good picks → lostB tw (cplV doc x tn tw picks path).1 = false → fitV doc (cplV doc x tn tw picks path).1 tn tw picks = true) hz ih p.key _ _ _ _ (hg.r _ q1) (hg.x _ q1) hnl
    rw [shpB, this]
    simp only [obR, Val.k_mk, Val.keys_mk, Val.items_mk, List.length_map, hlen, Nat.zero_add, decide_true, Bool.and_self]
end Go.Proofs.YtgollgfifnmaaaaDoor
namespace Go.Proofs.YtgollgfifnmaaaaDoor
open Go.Eng
set_option maxRecDepth 100000
def ck910 : CC := (.sq (.rg [⟨(some 0), (.mv (.c (.b false))), none, [0, 1, 2, 3, 4, 5, 6, 7], false⟩]) (.sq (.rg [⟨(some 11), (.bs false 1 [(.c (.i .i64 1))]), none, [], false⟩, ⟨(some 12), (.bd [(.s ⟨#[]⟩), .e0] [(0, (1, (.c (.s ⟨#[83, 116, 114, 105, 110, 103]⟩)))), (1, (1, (.t 11)))]), none, [11], false⟩, ⟨(some 13), (.bd [(.s ⟨#[]⟩), .e0, (.s ⟨#[]⟩), .e0, .e0] [(0, (1, (.c (.s ⟨#[110, 97, 109, 101]⟩)))), (2, (2, (.t 12)))]), none, [12], false⟩, ⟨(some 1), (.al [(.s ⟨#[]⟩), .e0, (.s ⟨#[]⟩), .e0, .e0]), none, [], false⟩, ⟨none, (.st (.t 1) (.t 13) 5), none, [13], false⟩]) (.sq (.rg [⟨(some 14), (.bd [(.s ⟨#[]⟩), .e0] [(0, (1, (.c (.s ⟨#[85, 115, 101, 114]⟩))))]), none, [], false⟩, ⟨(some 15), (.bd [(.s ⟨#[]⟩), .e0, (.s ⟨#[]⟩), .e0, .e0] [(0, (1, (.c (.s ⟨#[109, 101]⟩)))), (2, (2, (.t 14)))]), none, [14], false⟩, ⟨(some 2), (.al [(.s ⟨#[]⟩), .e0, (.s ⟨#[]⟩), .e0, .e0]), none, [], false⟩, ⟨none, (.st (.t 2) (.t 15) 5), none, [15], false⟩]) (.sq (.rg [⟨(some 16), (.ld (.t 2) 5 true), none, [], false⟩, ⟨(some 17), (.bs false 5 [(.t 16)]), none, [16], false⟩, ⟨(some 18), (.bd [(.i .i64 0), (.s ⟨#[]⟩), .e0, .e0, .e0, .e0, .e0] [(0, (1, (.c (.i .i64 1)))), (1, (1, (.c (.s ⟨#[81, 117, 101, 114, 121]⟩)))), (4, (1, (.t 17)))]), none, [17], false⟩, ⟨(some 19), (.ld (.t 1) 5 true), none, [], false⟩, ⟨(some 20), (.bs false 5 [(.t 19)]), none, [19], false⟩, ⟨(some 21), (.bd [(.i .i64 0), (.s ⟨#[]⟩), .e0, .e0, .e0, .e0, .e0] [(0, (1, (.c (.i .i64 1)))), (1, (1, (.c (.s ⟨#[85, 115, 101, 114]⟩)))), (4, (1, (.t 20)))]), none, [20], false⟩, ⟨(some 22), (.bs false 7 [(.t 18), (.t 21)]), none, [18, 21], false⟩, ⟨(some 23), (.bd [.e0] [(0, (1, (.t 22)))]), none, [22], false⟩, ⟨(some 3), (.al [.e0]), none, [], false⟩, ⟨none, (.st (.t 3) (.t 23) 1), none, [23], false⟩]) (.sq (.rg [⟨(some 24), (.fa (.t 1) 2), none, [1], false⟩, ⟨(some 25), (.ld (.t 24) 2 true), none, [24], false⟩, ⟨(some 26), (.bd [(.s ⟨#[]⟩), (.s ⟨#[]⟩), (.s ⟨#[]⟩), .e0, (.s ⟨#[]⟩), .e0, (.s ⟨#[]⟩), (.i .i64 0), .e0] [(0, (1, (.c (.s ⟨#[110, 97, 109, 101]⟩)))), (1, (1, (.c (.s ⟨#[85, 115, 101, 114]⟩)))), (2, (1, (.c (.s ⟨#[110, 97, 109, 101]⟩)))), (4, (2, (.t 25))), (7, (1, (.c (.i .i64 (-1)))))]), none, [25], false⟩, ⟨(some 4), (.al [(.s ⟨#[]⟩), (.s ⟨#[]⟩), (.s ⟨#[]⟩), .e0, (.s ⟨#[]⟩), .e0, (.s ⟨#[]⟩), (.i .i64 0), .e0]), none, [], false⟩, ⟨none, (.st (.t 4) (.t 26) 9), none, [26], false⟩]) (.sqw (.rg [⟨(some 27), (.fa (.t 2) 2), none, [2], false⟩, ⟨(some 28), (.ld (.t 27) 2 true), none, [27], false⟩, ⟨(some 29), (.ld (.t 4) 9 true), none, [4], false⟩, ⟨(some 30), (.bs false 9 [(.t 29)]), none, [29], false⟩, ⟨(some 31), (.bd [(.s ⟨#[]⟩), (.s ⟨#[]⟩), (.s ⟨#[]⟩), .e0, (.s ⟨#[]⟩), .e0, (.s ⟨#[]⟩), (.i .i64 0), .e0] [(0, (1, (.c (.s ⟨#[109, 101]⟩)))), (1, (1, (.c (.s ⟨#[81, 117, 101, 114, 121]⟩)))), (2, (1, (.c (.s ⟨#[109, 101]⟩)))), (4, (2, (.t 28))), (7, (1, (.c (.i .i64 (-1))))), (8, (1, (.t 30)))]), none, [28, 30], false⟩, ⟨(some 32), (.bs false 9 [(.t 31)]), none, [31], false⟩, ⟨(some 5), (.mv (.t 32)), none, [32], false⟩]) (.sq (.dr [⟨⟨(some 34), (.ld (.t 3) 1 true), none, [], false⟩, [], true, []⟩, ⟨⟨(some 35), (.mv (.t 5)), none, [], false⟩, [], false, []⟩, ⟨⟨(some 36), (.bd [(.i .i64 0), (.i .i64 0), (.s ⟨#[]⟩), .e0, .e0] []), none, [], false⟩, [], false, []⟩, ⟨⟨(some 37), (.cl 29 [(.c (.s ⟨#[85, 115, 101, 114]⟩)), (.c (.s ⟨#[110, 97, 109, 101]⟩)), (.t 36)]), none, [], false⟩, [0], true, []⟩, ⟨⟨(some 38), (.cl 29 [(.c (.s ⟨#[81, 117, 101, 114, 121]⟩)), (.c (.s ⟨#[109, 101]⟩)), (.t 37)]), none, [], false⟩, [0], true, [3]⟩, ⟨⟨(some 39), (.cl 11 [(.t 34), (.c (.s ⟨#[81, 117, 101, 114, 121]⟩)), (.t 35), (.t 38)]), none, [], false⟩, [], true, [4, 3]⟩, ⟨⟨(some 33), (.mv (.t 39)), none, [], false⟩, [], false, []⟩, ⟨⟨(some 40), (.ex (.t 33) 0), none, [], false⟩, [], false, []⟩, ⟨⟨(some 41), (.ex (.t 33) 1), none, [], false⟩, [], false, []⟩, ⟨⟨(some 6), (.al [(.i .i64 0), (.i .i64 0), (.s ⟨#[]⟩), .e0, .e0]), none, [], false⟩, [0, 3, 4, 5], false, []⟩, ⟨⟨none, (.st (.t 6) (.t 40) 5), none, [], false⟩, [], false, []⟩, ⟨⟨(some 7), (.mv (.t 41)), none, [], false⟩, [], false, []⟩] [5, 33, 34, 35, 36, 37, 38, 39, 40, 41]) (.sq (.rg [⟨(some 43), (.ld (.t 3) 1 true), none, [3], false⟩, ⟨(some 44), (.bd [(.i .i64 0), (.i .i64 0), (.s ⟨#[]⟩), .e0, .e0] [(0, (1, (.c (.i .i64 2)))), (1, (1, (.c (.i .i64 7))))]), none, [], false⟩, ⟨(some 45), (.cl 17 [(.t 43), (.c (.s ⟨#[73, 68]⟩)), (.t 44)]), none, [43, 44], false⟩, ⟨(some 42), (.mv (.t 45)), none, [45], false⟩, ⟨(some 46), (.ex (.t 42) 0), none, [], false⟩, ⟨(some 47), (.ex (.t 42) 1), none, [42], false⟩, ⟨(some 8), (.al [(.i .i64 0), (.i .i64 0), (.s ⟨#[]⟩), .e0, .e0]), none, [], false⟩, ⟨none, (.st (.t 8) (.t 46) 5), none, [46], false⟩, ⟨(some 9), (.mv (.t 47)), none, [47], false⟩]) (.sq (.rg [⟨(some 48), (.bd [(.i .i64 0), (.i .i64 0), (.s ⟨#[]⟩), .e0, .e0] []), none, [], false⟩, ⟨(some 49), (.cl 19 [(.t 48), (.c .e0)]), none, [48], false⟩, ⟨(some 10), (.al [(.i .i64 0), (.i .i64 0), (.s ⟨#[]⟩), .e0, .e0]), none, [], false⟩, ⟨none, (.st (.t 10) (.t 49) 5), none, [49], false⟩]) (.sq (.sq (.rg [⟨(some 50), (.mv (.t 7)), none, [], false⟩, ⟨(some 51), (.ln false (.t 50)), none, [50], false⟩, ⟨(some 52), (.bin .neq 0 (.t 51) (.c (.i .i64 1))), none, [51], false⟩, ⟨(some 53), (.mv (.t 52)), none, [52], false⟩, ⟨(some 54), (.mv (.t 7)), (some (53, false)), [], false⟩, ⟨(some 55), (.ia (.t 54) (.c (.i .i64 0)) 2), (some (53, false)), [54], false⟩, ⟨(some 56), (.fa (.t 55) 0), (some (53, false)), [55], false⟩, ⟨(some 57), (.ld (.t 56) 1 false), (some (53, false)), [56], false⟩, ⟨(some 58), (.ln false (.t 57)), (some (53, false)), [57], false⟩, ⟨(some 59), (.bin .neq 0 (.t 58) (.c (.i .i64 2))), (some (53, false)), [58], false⟩, ⟨(some 60), (.pk (.t 53) (.c (.b true)) (.t 59)), none, [53, 59], false⟩, ⟨(some 61), (.mv (.t 60)), none, [60], false⟩, ⟨(some 62), (.fa (.t 6) 4), (some (61, false)), [], false⟩, ⟨(some 63), (.ld (.t 62) 1 false), (some (61, false)), [62], false⟩, ⟨(some 64), (.ln false (.t 63)), (some (61, false)), [63], false⟩, ⟨(some 65), (.bin .neq 0 (.t 64) (.c (.i .i64 1))), (some (61, false)), [64], false⟩, ⟨(some 66), (.pk (.t 61) (.c (.b true)) (.t 65)), none, [61, 65], false⟩, ⟨(some 67), (.mv (.t 66)), none, [66], false⟩, ⟨(some 68), (.fa (.t 6) 3), (some (67, false)), [], false⟩, ⟨(some 69), (.ld (.t 68) 1 false), (some (67, false)), [68], false⟩, ⟨(some 70), (.ln false (.t 69)), (some (67, false)), [69], false⟩, ⟨(some 71), (.bin .neq 0 (.t 70) (.c (.i .i64 1))), (some (67, false)), [70], false⟩, ⟨(some 72), (.pk (.t 67) (.c (.b true)) (.t 71)), none, [67, 71], false⟩, ⟨(some 73), (.mv (.t 72)), none, [72], false⟩, ⟨(some 74), (.fa (.t 10) 4), (some (73, false)), [], false⟩, ⟨(some 75), (.ld (.t 74) 1 false), (some (73, false)), [74], false⟩, ⟨(some 76), (.ln false (.t 75)), (some (73, false)), [75], false⟩, ⟨(some 77), (.bin .neq 0 (.t 76) (.c (.i .i64 1))), (some (73, false)), [76], false⟩, ⟨(some 78), (.pk (.t 73) (.c (.b true)) (.t 77)), none, [73, 77], false⟩]) (.cd (.t 78) (.sq (.rg [⟨(some 0), (.mv (.c (.b false))), none, [6, 7, 8, 9, 10, 78], false⟩]) .rt) .skip)) (.sq (.rg [⟨(some 79), (.fa (.t 6) 4), none, [78], false⟩, ⟨(some 80), (.ld (.t 79) 1 false), none, [79], false⟩, ⟨(some 81), (.ia (.t 80) (.c (.i .i64 0)) 1), none, [80], false⟩, ⟨(some 82), (.ld (.t 81) 1 false), none, [81], false⟩, ⟨(some 83), (.bin .eql 0 (.t 82) (.c (.s ⟨#[109, 101]⟩))), none, [82], false⟩, ⟨(some 84), (.mv (.t 83)), none, [83], false⟩, ⟨(some 85), (.fa (.t 6) 3), (some (84, true)), [6], false⟩, ⟨(some 86), (.ld (.t 85) 1 false), (some (84, true)), [85], false⟩, ⟨(some 87), (.ia (.t 86) (.c (.i .i64 0)) 5), (some (84, true)), [86], false⟩, ⟨(some 88), (.fa (.t 87) 0), (some (84, true)), [87], false⟩, ⟨(some 89), (.ld (.t 88) 1 false), (some (84, true)), [88], false⟩, ⟨(some 90), (.bin .eql 0 (.t 89) (.c (.i .i64 0))), (some (84, true)), [89], false⟩, ⟨(some 91), (.pk (.t 84) (.t 90) (.c (.b false))), none, [84, 90], false⟩, ⟨(some 92), (.mv (.t 91)), none, [91], false⟩, ⟨(some 93), (.mv (.t 7)), (some (92, true)), [], false⟩, ⟨(some 94), (.ia (.t 93) (.c (.i .i64 0)) 2), (some (92, true)), [93], false⟩, ⟨(some 95), (.fa (.t 94) 1), (some (92, true)), [94], false⟩, ⟨(some 96), (.ld (.t 95) 1 false), (some (92, true)), [95], false⟩, ⟨(some 97), (.bin .eql 0 (.t 96) (.c (.s ⟨#[110, 117, 108, 108]⟩))), (some (92, true)), [96], false⟩, ⟨(some 98), (.pk (.t 92) (.t 97) (.c (.b false))), none, [92, 97], false⟩, ⟨(some 99), (.mv (.t 98)), none, [98], false⟩, ⟨(some 100), (.mv (.t 7)), (some (99, true)), [7], false⟩, ⟨(some 101), (.ia (.t 100) (.c (.i .i64 0)) 2), (some (99, true)), [100], false⟩, ⟨(some 102), (.fa (.t 101) 0), (some (99, true)), [101], false⟩, ⟨(some 103), (.ld (.t 102) 1 false), (some (99, true)), [102], false⟩, ⟨(some 104), (.ia (.t 103) (.c (.i .i64 1)) 5), (some (99, true)), [103], false⟩, ⟨(some 105), (.fa (.t 104) 2), (some (99, true)), [104], false⟩, ⟨(some 106), (.ld (.t 105) 1 false), (some (99, true)), [105], false⟩, ⟨(some 107), (.bin .eql 0 (.t 106) (.c (.s ⟨#[110, 97, 109, 101]⟩))), (some (99, true)), [106], false⟩, ⟨(some 108), (.pk (.t 99) (.t 107) (.c (.b false))), none, [99, 107], false⟩, ⟨(some 109), (.mv (.t 108)), none, [108], false⟩, ⟨(some 110), (.mv (.t 9)), (some (109, true)), [9], false⟩, ⟨(some 111), (.pk (.t 109) (.t 110) (.c (.b false))), none, [109, 110], false⟩, ⟨(some 112), (.mv (.t 111)), none, [111], false⟩, ⟨(some 113), (.fa (.t 8) 2), (some (112, true)), [8], false⟩, ⟨(some 114), (.ld (.t 113) 1 false), (some (112, true)), [113], false⟩, ⟨(some 115), (.bin .eql 0 (.t 114) (.c (.s ⟨#[55]⟩))), (some (112, true)), [114], false⟩, ⟨(some 116), (.pk (.t 112) (.t 115) (.c (.b false))), none, [112, 115], false⟩, ⟨(some 117), (.mv (.t 116)), none, [116], false⟩, ⟨(some 118), (.fa (.t 10) 4), (some (117, true)), [10], false⟩, ⟨(some 119), (.ld (.t 118) 1 false), (some (117, true)), [118], false⟩, ⟨(some 120), (.ia (.t 119) (.c (.i .i64 0)) 1), (some (117, true)), [119], false⟩, ⟨(some 121), (.ld (.t 120) 1 false), (some (117, true)), [120], false⟩, ⟨(some 122), (.bin .eql 0 (.t 121) (.c (.s ⟨#[100, 97, 116, 97]⟩))), (some (117, true)), [121], false⟩, ⟨(some 123), (.pk (.t 117) (.t 122) (.c (.b false))), none, [117, 122], false⟩, ⟨(some 0), (.mv (.t 123)), none, [123], false⟩]) .rt)))))))))))
theorem cc910 : (Tryd.f10.body.bind (ccode Tryd.prog 124)) = some ck910.erase := by kernel_rfl
theorem cr910 : rsv Tryd.prog 124 Tryd.f10.results.toList = some [(.t 0)] := by kernel_rfl
def ck911 : CC := (.sq (.rg [⟨(some 4), (.bo (.t 0)), none, [0, 5, 6, 7], false⟩, ⟨(some 7), (.bo (.t 3)), none, [3], false⟩, ⟨(some 8), (.al [(.i .i64 0), (.i .i64 0), (.s ⟨#[]⟩), .e0, .e0]), none, [], false⟩, ⟨(some 9), (.mv (.c .e0)), none, [9], false⟩]) (.sqw (.rg [⟨(some 13), (.ld (.t 4) 1 true), none, [4], false⟩, ⟨(some 14), .mk, none, [], false⟩, ⟨(some 15), (.bd [.e0, .mn, .e0] [(0, (1, (.t 13))), (1, (1, (.t 14)))]), none, [13, 14], false⟩, ⟨(some 16), (.bo (.t 15)), none, [15], false⟩, ⟨(some 10), (.mv (.t 16)), none, [16], false⟩]) (.sq (.dr [⟨⟨(some 18), (.mv (.t 10)), none, [], false⟩, [], false, []⟩, ⟨⟨(some 19), (.mv (.t 1)), none, [], false⟩, [], false, []⟩, ⟨⟨(some 20), (.cl 31 [(.t 19)]), none, [], false⟩, [], true, []⟩, ⟨⟨(some 21), (.mv (.t 2)), none, [], false⟩, [], false, []⟩, ⟨⟨(some 22), (.ld (.t 7) 5 true), none, [], false⟩, [2], true, []⟩, ⟨⟨(some 23), (.cl 30 [(.t 18), (.t 20), (.t 21), (.c .e0), (.t 22)]), none, [], false⟩, [], true, [2]⟩, ⟨⟨(some 17), (.mv (.t 23)), none, [], false⟩, [], false, []⟩, ⟨⟨(some 24), (.ex (.t 17) 0), none, [], false⟩, [], false, []⟩, ⟨⟨(some 25), (.ex (.t 17) 1), none, [], false⟩, [], false, []⟩, ⟨⟨(some 11), (.al [(.i .i64 0), (.i .i64 0), (.s ⟨#[]⟩), .e0, .e0]), none, [], false⟩, [2, 4, 5], false, []⟩, ⟨⟨none, (.st (.t 11) (.t 24) 5), none, [], false⟩, [], false, []⟩, ⟨⟨(some 12), (.mv (.t 25)), none, [], false⟩, [], false, []⟩] [1, 2, 7, 12, 17, 18, 19, 20, 21, 22, 23, 24, 25]) (.sq (.dr [⟨⟨(some 26), (.ld (.t 11) 5 true), none, [], false⟩, [], false, []⟩, ⟨⟨(some 27), (.mv (.t 10)), none, [], false⟩, [], false, []⟩, ⟨⟨(some 28), (.nc (.t 27)), none, [], false⟩, [], false, []⟩, ⟨⟨(some 29), (.fa (.t 28) 2), none, [], false⟩, [], false, []⟩, ⟨⟨(some 30), (.ld (.t 29) 1 false), none, [], false⟩, [], true, []⟩, ⟨⟨none, (.st (.t 8) (.t 26) 5), none, [], false⟩, [4], false, []⟩, ⟨⟨(some 9), (.mv (.t 30)), none, [], false⟩, [], false, []⟩] [10, 11, 26, 27, 28, 29, 30]) .rt))))
theorem cc911 : (Tryd.f11.body.bind (ccode Tryd.prog 31)) = some ck911.erase := by kernel_rfl
theorem cr911 : rsv Tryd.prog 31 Tryd.f11.results.toList = some [(.c 8 5 true), (.t 9)] := by kernel_rfl
def ck919 : CC := (.sq (.rg [⟨(some 2), (.bo (.t 0)), none, [0, 3, 4, 5, 6, 7], false⟩, ⟨(some 4), (.al [(.i .i64 0), (.i .i64 0), (.s ⟨#[]⟩), .e0, .e0]), none, [], false⟩]) (.sq (.sq (.rg [⟨(some 8), (.mv (.t 1)), none, [], false⟩, ⟨(some 9), (.ln false (.t 8)), none, [8], false⟩, ⟨(some 10), (.bin .eql 0 (.t 9) (.c (.i .i64 0))), none, [9], false⟩]) (.cd (.t 10) (.sq (.rg [⟨(some 11), (.bs false 1 [(.c (.s ⟨#[100, 97, 116, 97]⟩))]), none, [1, 10], false⟩, ⟨(some 12), (.ld (.t 2) 5 true), none, [2], false⟩, ⟨(some 13), (.cl 45 [(.t 12)]), none, [12], false⟩, ⟨(some 14), (.bs false 5 [(.t 13)]), none, [13], false⟩, ⟨(some 15), (.bd [(.i .i64 0), (.i .i64 0), (.s ⟨#[]⟩), .e0, .e0] [(0, (1, (.c (.i .i64 6)))), (4, (1, (.t 11))), (3, (1, (.t 14)))]), none, [11, 14], false⟩, ⟨none, (.st (.t 4) (.t 15) 5), none, [15], false⟩]) .rt) .skip)) (.sq (.rg [⟨(some 16), (.bd [(.i .i64 0), (.i .i64 0), (.s ⟨#[]⟩), .e0, .e0] [(0, (1, (.c (.i .i64 5))))]), none, [10], false⟩, ⟨(some 5), (.al [(.i .i64 0), (.i .i64 0), (.s ⟨#[]⟩), .e0, .e0]), none, [], false⟩, ⟨none, (.st (.t 5) (.t 16) 5), none, [16], false⟩]) (.sqw (.sq (.rg [⟨(some 17), (.mv (.t 1)), none, [1], false⟩, ⟨(some 18), (.ln false (.t 17)), none, [], false⟩, ⟨(some 19), (.mv (.c (.i .i64 0))), none, [], false⟩]) (.bl 0 (.lp (.sq (.rg [⟨(some 20), (.bin .lss 0 (.t 19) (.t 18)), none, [], false⟩]) (.sq (.cd (.t 20) .skip (.ex 0)) (.sq (.bl 1 (.sq (.rg [⟨(some 21), (.ia (.t 17) (.t 19) 2), none, [20], false⟩, ⟨(some 22), (.ld (.t 21) 2 true), none, [21], false⟩, ⟨(some 7), (.al [.e0, (.s ⟨#[]⟩)]), none, [], false⟩, ⟨none, (.st (.t 7) (.t 22) 2), none, [22], false⟩]) (.dr [⟨⟨(some 23), (.fa (.t 5) 3), none, [], false⟩, [], false, []⟩, ⟨⟨(some 24), (.ld (.t 23) 1 false), none, [], false⟩, [], true, []⟩, ⟨⟨(some 25), (.fa (.t 7) 1), none, [], false⟩, [], false, []⟩, ⟨⟨(some 26), (.ld (.t 25) 1 false), none, [], false⟩, [], false, []⟩, ⟨⟨(some 27), (.cl 47 [(.t 26)]), none, [], false⟩, [1], true, []⟩, ⟨⟨(some 28), (.fa (.t 7) 0), none, [], false⟩, [], false, []⟩, ⟨⟨(some 29), (.ld (.t 28) 1 false), none, [], false⟩, [4], false, []⟩, ⟨⟨(some 30), (.cl 48 [(.t 29)]), none, [], false⟩, [1], false, [4]⟩, ⟨⟨(some 31), (.cl 46 [(.c (.s ⟨#[109, 101, 115, 115, 97, 103, 101]⟩)), (.t 27), (.c (.s ⟨#[112, 97, 116, 104]⟩)), (.t 30)]), none, [], false⟩, [1], false, [4, 7]⟩, ⟨⟨(some 32), (.bs true 5 [(.t 31)]), none, [], false⟩, [1], false, []⟩, ⟨⟨(some 33), (.ap (.t 24) (.t 32) 5 80), none, [], false⟩, [], false, []⟩, ⟨⟨(some 34), (.fa (.t 5) 3), none, [], false⟩, [], false, []⟩, ⟨⟨none, (.st (.t 34) (.t 33) 1), none, [], false⟩, [], false, []⟩] [7, 23, 24, 25, 26, 27, 28, 29, 30, 31, 32, 33, 34]))) (.rg [⟨(some 35), (.bin .add 0 (.t 19) (.c (.i .i64 1))), none, [19], false⟩, ⟨(some 19), (.mv (.t 35)), none, [35], false⟩]))))))) (.sq (.dr [⟨⟨(some 36), (.ld (.t 2) 5 true), none, [], false⟩, [], false, []⟩, ⟨⟨(some 37), (.cl 45 [(.t 36)]), none, [], false⟩, [], true, []⟩, ⟨⟨(some 38), (.ld (.t 5) 5 true), none, [], false⟩, [1], false, []⟩, ⟨⟨(some 39), (.cl 46 [(.c (.s ⟨#[100, 97, 116, 97]⟩)), (.t 37), (.c (.s ⟨#[101, 114, 114, 111, 114, 115]⟩)), (.t 38)]), none, [], false⟩, [], false, [1]⟩, ⟨⟨none, (.st (.t 4) (.t 39) 5), none, [], false⟩, [], false, []⟩] [2, 5, 17, 18, 19, 20, 36, 37, 38, 39]) .rt)))))
theorem cc919 : (Tryd.f19.body.bind (ccode Tryd.prog 40)) = some ck919.erase := by kernel_rfl
theorem cr919 : rsv Tryd.prog 40 Tryd.f19.results.toList = some [(.c 4 5 true)] := by kernel_rfl
end Go.Proofs.YtgollgfifnmaaaaDoor
