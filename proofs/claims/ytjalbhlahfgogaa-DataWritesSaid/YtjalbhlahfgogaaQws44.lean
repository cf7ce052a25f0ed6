/-
  The parts DaO of the proof, in one file. Conditions: none.
-/
import Derived.Test.YtjalbhlahfgogaaQws43
namespace Go.Proofs.Ytjalbhlahfgogaa
open Go.Eng
set_option linter.unusedVariables false
set_option linter.unusedSimpArgs false
set_option maxRecDepth 20000
set_option maxHeartbeats 2000000
theorem appL_vals {f a : ByteArray} {Q : Cel → Prop} : ∀ {ws : List Wri} {l : List Itm}, (∀ x ∈ l, ∀ c ∈ x.l, Q c) → (∀ w ∈ ws, Q w.c) → ∀ x ∈ appL f a ws l, ∀ c ∈ x.l, Q c
  | [], l, h, _ => h
  | w :: ws, l, h, hw => appL_vals (ws := ws) (l := appS f a l w) (fun x hx => by
      unfold appS wrI at hx
      split at hx
      · split at hx
        · split at hx
          · rename_i y hy
            rcases List.mem_or_eq_of_mem_set hx with hx | rfl
            · exact h x hx
            · intro c hc
              rw [Itm.l_mk] at hc
              unfold putC at hc
              split at hc
              · rcases List.mem_or_eq_of_mem_set hc with hc | rfl
                · exact h y (List.mem_of_getElem? hy) c hc
                · exact hw w (by simp)
              · rcases List.mem_append.1 hc with hc | hc
                · exact h y (List.mem_of_getElem? hy) c hc
                · simp at hc
                  subst hc
                  exact hw w (by simp)
          · exact h x hx
        · exact h x hx
      · exact h x hx) fun v hv => hw v (by simp [hv])
theorem appV_fit {d : Dat} (hd : d.Fit2) (f a : ByteArray) : (appV d f a).Fit := by
  refine .mk _ (by rw [appV_len]; exact hd.f.li) hd.f.lw (fun x hx => ⟨?_, ?_⟩) fun w hw => hd.f.w hw
  · have := appL_cells hd.c x hx
    have := hd.w
    omega
  · exact appL_vals (Q := fun c => c.v.Fit) (fun x hx c hc => hd.f.c hx hc) (fun w hw => hd.f.w hw) x hx
theorem appV_fit2 {d : Dat} (hd : d.Fit2) {B : Nat} (hB : ∀ x ∈ d.i, x.l.length ≤ B) (h : B + d.w.length ≤ 1256584717500) (f a : ByteArray) : (appV d f a).Fit2 :=
  ⟨appV_fit hd f a, hd.w, fun x hx => Nat.le_trans (appL_cells hB x hx) h⟩
/-- A later write of the same cell. -/
def lastP (f a : ByteArray) (n : Nat) (w v : Wri) : Bool := decide (v.f = f) && (decide (v.a = a) && (decide (v.i = n) && (decide (v.c.f = w.c.f) && decide (v.c.a = w.c.a))))
theorem lawWrites (d : Dat) (hd : d.Fit2) (f a : ByteArray) (hd2 : (appV d f a).Fit2) (hp : CH) (m : Nat) : MeetsF Try.prog 7 hp m [dx d, .s f, .s a] (.b true) := by
  have h1 := hd.f.li
  have h2 := hd.w
  have h3 := dApply_ok d hd f a
  have h4 := dApply_ok (appV d f a) hd2 f (argA d f a)
  rw [appV_again] at h4
  have h5 := rsameD_eq (appV d f a) hd2.f
  have hVl := appV_len d f a
  have hVw : (appV d f a).w = d.w := rfl
  obtain ⟨V, hV⟩ : ∃ V, appV d f a = V := ⟨_, rfl⟩
  rw [hV] at h3 h4 h5 hVl hVw hd2
  have hVf := hd2.f
  obtain ⟨arg, harg⟩ : ∃ x, argA d f a = x := ⟨_, rfl⟩
  rw [harg] at h4
  refine meetsF Try.func7 (by kernel_rfl) cc7 cr7 rfl fun hf => ?_; unfold ck7
  simp only [go_sem, ↓reduceIte, Nat.reduceEqDiff, Nat.reduceBEq, Nat.reduceAdd, Nat.reduceLeDiff, Nat.reduceLT, reduceCtorEq, Nat.reduceMul, Nat.reduceSub, Int.reduceEq, Int.reduceLT, Int.reduceLE, Int.reduceToNat]
  refine vcCall.f (large_ok d hd.f _ _) ?_
  simp only [go_sem, ↓reduceIte, Nat.reduceEqDiff, Nat.reduceBEq, Nat.reduceAdd, Nat.reduceLeDiff, Nat.reduceLT, reduceCtorEq, Nat.reduceMul, Nat.reduceSub, Int.reduceEq, Int.reduceLT, Int.reduceLE, Int.reduceToNat]
  refine cdK_of (fun c => ?_) (fun c => ?_)
  · simp only [go_sem, ↓reduceIte, Nat.reduceEqDiff, Nat.reduceBEq, Nat.reduceAdd, Nat.reduceLeDiff, Nat.reduceLT, reduceCtorEq, Nat.reduceMul, Nat.reduceSub, Int.reduceEq, Int.reduceLT, Int.reduceLE, Int.reduceToNat]
    refine vcCall.f (ex20_ok _ _) ?_
    simp only [go_sem, ↓reduceIte, Nat.reduceEqDiff, Nat.reduceBEq, Nat.reduceAdd, Nat.reduceLeDiff, Nat.reduceLT, reduceCtorEq, Nat.reduceMul, Nat.reduceSub, Int.reduceEq, Int.reduceLT, Int.reduceLE, Int.reduceToNat]
  simp only [go_sem, ↓reduceIte, Nat.reduceEqDiff, Nat.reduceBEq, Nat.reduceAdd, Nat.reduceLeDiff, Nat.reduceLT, reduceCtorEq, Nat.reduceMul, Nat.reduceSub, Int.reduceEq, Int.reduceLT, Int.reduceLE, Int.reduceToNat]
  refine vcCall.f (h3 _ _) ?_
  simp only [go_sem, ↓reduceIte, Nat.reduceEqDiff, Nat.reduceBEq, Nat.reduceAdd, Nat.reduceLeDiff, Nat.reduceLT, reduceCtorEq, Nat.reduceMul, Nat.reduceSub, Int.reduceEq, Int.reduceLT, Int.reduceLE, Int.reduceToNat]
  refine loopg (fun q : Bool × Nat => ⟨[(1, .s f), (2, .s a), (3, .bx m 0), (7, .bx (m + 1) 0), (8, .b q.1), (9, .i .i64 q.2)], (m + 1, .bx [.ds (mapC itC V.i), .ds (mapC wrC V.w)]) :: (m, .bx [.ds (mapC itC d.i), .ds (mapC wrC d.w)]) :: hp, m + 2⟩)
    (fun q => q.2 ≤ d.w.length ∧ (q.1 || (d.w.drop q.2).any (hits f a)) = d.w.any (hits f a)) (fun q => d.w.length - q.2) (false, 0) ⟨Nat.zero_le _, by simp⟩ ?_ (fun ⟨e, j⟩ ⟨hj, he⟩ => ?_)
  · refine weak_ok ?_ (Sub.cons ?_ (Sub.cons ?_ (Sub.base hf ?_))) (Nat.le_refl _)
    all_goals first | (simp only [go_sem, ↓reduceIte, Nat.reduceEqDiff, Nat.reduceBEq, Nat.reduceAdd, Nat.reduceLeDiff, Nat.reduceLT, reduceCtorEq, Nat.reduceMul, Nat.reduceSub, Int.reduceEq, Int.reduceLT, Int.reduceLE, Int.reduceToNat]; done) | (dsimp only; omega) | trace_state
  dsimp only at hj he
  simp only [go_sem, ↓reduceIte, Nat.reduceEqDiff, Nat.reduceBEq, Nat.reduceAdd, Nat.reduceLeDiff, Nat.reduceLT, reduceCtorEq, Nat.reduceMul, Nat.reduceSub, Int.reduceEq, Int.reduceLT, Int.reduceLE, Int.reduceToNat]
  refine cdK_of (fun c1 => ?_) (fun c1 => ?_)
  · have c1 : j < d.w.length := by simpa using c1
    have j6 : j < 9223372036854775807 := by omega
    obtain ⟨w, ew⟩ : ∃ w, d.w[j]? = some w := ⟨d.w[j], by simp [c1]⟩
    rw [drop_at ew, List.any_cons] at he
    cases e with
    | true =>
      simp only [c1, getK_s (mapC_get wrC ew), wr64s j j6, go_sem, ↓reduceIte, Nat.reduceEqDiff, Nat.reduceBEq, Nat.reduceAdd, Nat.reduceLeDiff, Nat.reduceLT, reduceCtorEq, Nat.reduceMul, Nat.reduceSub, Int.reduceEq, Int.reduceLT, Int.reduceLE, Int.reduceToNat]
      refine ⟨(true, j + 1), ⟨c1, by simpa using he⟩, by dsimp only; omega, weakG_ok ?_ (SubG.cons ?_ ?_ ?_ (SubG.cons ?_ ?_ ?_ (SubG.base hf ?_ ?_ ?_)))⟩
      all_goals first | (simp only [go_sem, ↓reduceIte, Nat.reduceEqDiff, Nat.reduceBEq, Nat.reduceAdd, Nat.reduceLeDiff, Nat.reduceLT, reduceCtorEq, Nat.reduceMul, Nat.reduceSub, Int.reduceEq, Int.reduceLT, Int.reduceLE, Int.reduceToNat]; done) | (dsimp only; omega) | trace_state
    | false =>
      by_cases w1 : w.f = f
      case neg =>
        have e : hits f a w = false := by simp [hits, w1]
        simp only [c1, w1, getK_s (mapC_get wrC ew), mapC_get wrC ew, wr64s j j6, go_sem, ↓reduceIte, Nat.reduceEqDiff, Nat.reduceBEq, Nat.reduceAdd, Nat.reduceLeDiff, Nat.reduceLT, reduceCtorEq, Nat.reduceMul, Nat.reduceSub, Int.reduceEq, Int.reduceLT, Int.reduceLE, Int.reduceToNat]
        refine ⟨(false, j + 1), ⟨c1, by simpa [e] using he⟩, by dsimp only; omega, weakG_ok ?_ (SubG.cons ?_ ?_ ?_ (SubG.cons ?_ ?_ ?_ (SubG.base hf ?_ ?_ ?_)))⟩
        all_goals first | (simp only [go_sem, ↓reduceIte, Nat.reduceEqDiff, Nat.reduceBEq, Nat.reduceAdd, Nat.reduceLeDiff, Nat.reduceLT, reduceCtorEq, Nat.reduceMul, Nat.reduceSub, Int.reduceEq, Int.reduceLT, Int.reduceLE, Int.reduceToNat]; done) | (dsimp only; omega) | trace_state
      by_cases w2 : w.a = a
      case neg =>
        have e : hits f a w = false := by simp [hits, w2]
        simp only [c1, w1, w2, getK_s (mapC_get wrC ew), mapC_get wrC ew, wr64s j j6, go_sem, ↓reduceIte, Nat.reduceEqDiff, Nat.reduceBEq, Nat.reduceAdd, Nat.reduceLeDiff, Nat.reduceLT, reduceCtorEq, Nat.reduceMul, Nat.reduceSub, Int.reduceEq, Int.reduceLT, Int.reduceLE, Int.reduceToNat]
        refine ⟨(false, j + 1), ⟨c1, by simpa [e] using he⟩, by dsimp only; omega, weakG_ok ?_ (SubG.cons ?_ ?_ ?_ (SubG.cons ?_ ?_ ?_ (SubG.base hf ?_ ?_ ?_)))⟩
        all_goals first | (simp only [go_sem, ↓reduceIte, Nat.reduceEqDiff, Nat.reduceBEq, Nat.reduceAdd, Nat.reduceLeDiff, Nat.reduceLT, reduceCtorEq, Nat.reduceMul, Nat.reduceSub, Int.reduceEq, Int.reduceLT, Int.reduceLE, Int.reduceToNat]; done) | (dsimp only; omega) | trace_state
      have e : hits f a w = true := by simp [hits, w1, w2]
      simp only [c1, w1, w2, getK_s (mapC_get wrC ew), mapC_get wrC ew, wr64s j j6, go_sem, ↓reduceIte, Nat.reduceEqDiff, Nat.reduceBEq, Nat.reduceAdd, Nat.reduceLeDiff, Nat.reduceLT, reduceCtorEq, Nat.reduceMul, Nat.reduceSub, Int.reduceEq, Int.reduceLT, Int.reduceLE, Int.reduceToNat]
      refine ⟨(true, j + 1), ⟨c1, by simpa [e] using he⟩, by dsimp only; omega, weakG_ok ?_ (SubG.cons ?_ ?_ ?_ (SubG.cons ?_ ?_ ?_ (SubG.base hf ?_ ?_ ?_)))⟩
      all_goals first | (simp only [go_sem, ↓reduceIte, Nat.reduceEqDiff, Nat.reduceBEq, Nat.reduceAdd, Nat.reduceLeDiff, Nat.reduceLT, reduceCtorEq, Nat.reduceMul, Nat.reduceSub, Int.reduceEq, Int.reduceLT, Int.reduceLE, Int.reduceToNat]; done) | (dsimp only; omega) | trace_state
  · have c1 : j = d.w.length := by simp at c1; omega
    subst c1
    rw [List.drop_length] at he
    have he : d.w.any (hits f a) = e := by simpa using he.symm
    cases e with
    | true =>
      have ea : arg = a := by rw [← harg]; unfold argA; rw [if_pos he]
      simp only [hVl, ← ea, beq_self_eq_true, go_sem, ↓reduceIte, Nat.reduceEqDiff, Nat.reduceBEq, Nat.reduceAdd, Nat.reduceLeDiff, Nat.reduceLT, reduceCtorEq, Nat.reduceMul, Nat.reduceSub, Int.reduceEq, Int.reduceLT, Int.reduceLE, Int.reduceToNat]
      refine loopg (fun q : Nat => ⟨[(1, .s f), (2, .s arg), (3, .bx m 0), (7, .bx (m + 1) 0), (10, .i .i64 q)], (m + 1, .bx [.ds (mapC itC V.i), .ds (mapC wrC V.w)]) :: (m, .bx [.ds (mapC itC d.i), .ds (mapC wrC d.w)]) :: hp, m + 2⟩)
        (fun q => q ≤ d.i.length) (fun q => d.i.length - q) 0 (Nat.zero_le _) ?_ (fun n hn => ?_)
      · refine weak_ok ?_ (Sub.cons ?_ (Sub.cons ?_ (Sub.base hf ?_))) (Nat.le_refl _)
        all_goals first | (simp only [go_sem, ↓reduceIte, Nat.reduceEqDiff, Nat.reduceBEq, Nat.reduceAdd, Nat.reduceLeDiff, Nat.reduceLT, reduceCtorEq, Nat.reduceMul, Nat.reduceSub, Int.reduceEq, Int.reduceLT, Int.reduceLE, Int.reduceToNat]; done) | (dsimp only; omega) | trace_state
      simp only [go_sem, ↓reduceIte, Nat.reduceEqDiff, Nat.reduceBEq, Nat.reduceAdd, Nat.reduceLeDiff, Nat.reduceLT, reduceCtorEq, Nat.reduceMul, Nat.reduceSub, Int.reduceEq, Int.reduceLT, Int.reduceLE, Int.reduceToNat]
      refine cdK_of (fun c => ?_) (fun c => ?_)
      · have c : n < d.i.length := by simpa using c
        have n6 : n < 9223372036854775807 := by omega
        have w0 : IntKind.i64.wrap ((d.w.length : Int) - 1) = (d.w.length : Int) - 1 := wr64 (by omega)
        obtain ⟨y, ey⟩ : ∃ y, d.i[n]? = some y := ⟨d.i[n], by simp [c]⟩
        have cV : n < V.i.length := by omega
        obtain ⟨z, ez⟩ : ∃ z, V.i[n]? = some z := ⟨V.i[n], by simp [cV]⟩
        simp only [w0, go_sem, ↓reduceIte, Nat.reduceEqDiff, Nat.reduceBEq, Nat.reduceAdd, Nat.reduceLeDiff, Nat.reduceLT, reduceCtorEq, Nat.reduceMul, Nat.reduceSub, Int.reduceEq, Int.reduceLT, Int.reduceLE, Int.reduceToNat]
        refine loopg (fun q : Bool × Nat => ⟨[(1, .s f), (2, .s arg), (3, .bx m 0), (7, .bx (m + 1) 0), (10, .i .i64 n), (11, .b q.1), (12, .i .i64 ((q.2 : Int) - 1))], (m + 1, .bx [.ds (mapC itC V.i), .ds (mapC wrC V.w)]) :: (m, .bx [.ds (mapC itC d.i), .ds (mapC wrC d.w)]) :: hp, m + 2⟩)
          (fun q => q.2 ≤ d.w.length ∧ (q.1 = false → ∀ v ∈ d.w.drop q.2, ¬ (hits f arg v = true ∧ v.i = n))) (fun q => q.2) (false, d.w.length) ⟨Nat.le_refl _, fun _ v hv => by simp at hv⟩ ?_ (fun ⟨tch, r⟩ ⟨hr, ht⟩ => ?_)
        · refine weak_ok ?_ (Sub.cons ?_ (Sub.cons ?_ (Sub.base hf ?_))) (Nat.le_refl _)
          all_goals first | (simp only [go_sem, ↓reduceIte, Nat.reduceEqDiff, Nat.reduceBEq, Nat.reduceAdd, Nat.reduceLeDiff, Nat.reduceLT, reduceCtorEq, Nat.reduceMul, Nat.reduceSub, Int.reduceEq, Int.reduceLT, Int.reduceLE, Int.reduceToNat]; done) | (dsimp only; omega) | trace_state
        dsimp only at hr ht
        simp only [go_sem, ↓reduceIte, Nat.reduceEqDiff, Nat.reduceBEq, Nat.reduceAdd, Nat.reduceLeDiff, Nat.reduceLT, reduceCtorEq, Nat.reduceMul, Nat.reduceSub, Int.reduceEq, Int.reduceLT, Int.reduceLE, Int.reduceToNat]
        refine cdK_of (fun c1 => ?_) (fun c1 => ?_)
        · obtain ⟨i, rfl⟩ : ∃ i, r = i + 1 := ⟨r - 1, by simp at c1; omega⟩
          have ei : (((i + 1 : Nat) : Int) - 1) = (i : Int) := by omega
          have hi : i < d.w.length := by omega
          have i6 : i < 9223372036854775807 := by omega
          obtain ⟨w, ew⟩ : ∃ w, d.w[i]? = some w := ⟨d.w[i], by simp [hi]⟩
          have fw := hd.f.w (List.mem_of_getElem? ew)
          have w1 : IntKind.i64.wrap ((i : Int) - 1) = (i : Int) - 1 := wr64 (by omega)
          rw [ei] at c1 ⊢
          have next : ¬ (hits f arg w = true ∧ w.i = n) → tch = false → ∀ v ∈ d.w.drop i, ¬ (hits f arg v = true ∧ v.i = n) := fun h e v hv => by
            rw [drop_at ew] at hv
            rcases List.mem_cons.1 hv with rfl | hv
            · exact h
            · exact ht e v hv
          by_cases hff : w.f = f
          case neg =>
            simp only [hi, hff, getK_s (mapC_get wrC ew), w1, go_sem, ↓reduceIte, Nat.reduceEqDiff, Nat.reduceBEq, Nat.reduceAdd, Nat.reduceLeDiff, Nat.reduceLT, reduceCtorEq, Nat.reduceMul, Nat.reduceSub, Int.reduceEq, Int.reduceLT, Int.reduceLE, Int.reduceToNat]
            refine ⟨(tch, i), ⟨by dsimp only; omega, next (by simp [hits, hff])⟩, by dsimp only; omega, weakG_ok ?_ (SubG.cons ?_ ?_ ?_ (SubG.cons ?_ ?_ ?_ (SubG.base hf ?_ ?_ ?_)))⟩
            all_goals first | (simp only [go_sem, ↓reduceIte, Nat.reduceEqDiff, Nat.reduceBEq, Nat.reduceAdd, Nat.reduceLeDiff, Nat.reduceLT, reduceCtorEq, Nat.reduceMul, Nat.reduceSub, Int.reduceEq, Int.reduceLT, Int.reduceLE, Int.reduceToNat]; done) | (dsimp only; omega) | trace_state
          by_cases haa : w.a = arg
          case neg =>
            simp only [hi, hff, haa, getK_s (mapC_get wrC ew), w1, go_sem, ↓reduceIte, Nat.reduceEqDiff, Nat.reduceBEq, Nat.reduceAdd, Nat.reduceLeDiff, Nat.reduceLT, reduceCtorEq, Nat.reduceMul, Nat.reduceSub, Int.reduceEq, Int.reduceLT, Int.reduceLE, Int.reduceToNat]
            refine ⟨(tch, i), ⟨by dsimp only; omega, next (by simp [hits, haa])⟩, by dsimp only; omega, weakG_ok ?_ (SubG.cons ?_ ?_ ?_ (SubG.cons ?_ ?_ ?_ (SubG.base hf ?_ ?_ ?_)))⟩
            all_goals first | (simp only [go_sem, ↓reduceIte, Nat.reduceEqDiff, Nat.reduceBEq, Nat.reduceAdd, Nat.reduceLeDiff, Nat.reduceLT, reduceCtorEq, Nat.reduceMul, Nat.reduceSub, Int.reduceEq, Int.reduceLT, Int.reduceLE, Int.reduceToNat]; done) | (dsimp only; omega) | trace_state
          by_cases hin : w.i = n
          case neg =>
            simp only [hi, hff, haa, hin, getK_s (mapC_get wrC ew), w1, go_sem, ↓reduceIte, Nat.reduceEqDiff, Nat.reduceBEq, Nat.reduceAdd, Nat.reduceLeDiff, Nat.reduceLT, reduceCtorEq, Nat.reduceMul, Nat.reduceSub, Int.reduceEq, Int.reduceLT, Int.reduceLE, Int.reduceToNat]
            refine ⟨(tch, i), ⟨by dsimp only; omega, next (fun h => hin h.2)⟩, by dsimp only; omega, weakG_ok ?_ (SubG.cons ?_ ?_ ?_ (SubG.cons ?_ ?_ ?_ (SubG.base hf ?_ ?_ ?_)))⟩
            all_goals first | (simp only [go_sem, ↓reduceIte, Nat.reduceEqDiff, Nat.reduceBEq, Nat.reduceAdd, Nat.reduceLeDiff, Nat.reduceLT, reduceCtorEq, Nat.reduceMul, Nat.reduceSub, Int.reduceEq, Int.reduceLT, Int.reduceLE, Int.reduceToNat]; done) | (dsimp only; omega) | trace_state
          have hw : hits f arg w = true := by simp [hits, hff, haa]
          simp only [hi, hff, haa, hin, getK_s (mapC_get wrC ew), wr64s i i6, go_sem, ↓reduceIte, Nat.reduceEqDiff, Nat.reduceBEq, Nat.reduceAdd, Nat.reduceLeDiff, Nat.reduceLT, reduceCtorEq, Nat.reduceMul, Nat.reduceSub, Int.reduceEq, Int.reduceLT, Int.reduceLE, Int.reduceToNat]
          obtain ⟨T, hT⟩ : ∃ T, (d.w.drop (i + 1)).any (lastP f arg n w) = T := ⟨_, rfl⟩
          refine loopg (fun q : Bool × Nat => ⟨[(1, .s f), (2, .s arg), (3, .bx m 0), (7, .bx (m + 1) 0), (10, .i .i64 n), (12, .i .i64 i), (13, .bx (m + 2) 0), (14, .b q.1), (15, .i .i64 q.2)], (m + 2, .bx [.s f, .s arg, .i .i64 n, .s w.c.f, .s w.c.a, .i .i64 w.c.v.k, .i .i64 w.c.v.n, .s w.c.v.s, .ds (mapC valC w.c.v.items), .ds (stC w.c.v.keys)]) :: (m + 1, .bx [.ds (mapC itC V.i), .ds (mapC wrC V.w)]) :: (m, .bx [.ds (mapC itC d.i), .ds (mapC wrC d.w)]) :: hp, m + 3⟩)
            (fun q => q.2 ≤ d.w.length ∧ (q.1 && !(d.w.drop q.2).any (lastP f arg n w)) = !T) (fun q => d.w.length - q.2) (true, i + 1) ⟨hi, by rw [Bool.true_and, hT]⟩ ?_ (fun ⟨lst, k⟩ ⟨hk, hl⟩ => ?_)
          · refine weak_ok ?_ (Sub.cons ?_ (Sub.cons ?_ (Sub.cons ?_ (Sub.base hf ?_)))) (Nat.le_refl _)
            all_goals first | (simp only [go_sem, ↓reduceIte, Nat.reduceEqDiff, Nat.reduceBEq, Nat.reduceAdd, Nat.reduceLeDiff, Nat.reduceLT, reduceCtorEq, Nat.reduceMul, Nat.reduceSub, Int.reduceEq, Int.reduceLT, Int.reduceLE, Int.reduceToNat]; done) | (dsimp only; omega) | trace_state
          dsimp only at hk hl
          simp only [go_sem, ↓reduceIte, Nat.reduceEqDiff, Nat.reduceBEq, Nat.reduceAdd, Nat.reduceLeDiff, Nat.reduceLT, reduceCtorEq, Nat.reduceMul, Nat.reduceSub, Int.reduceEq, Int.reduceLT, Int.reduceLE, Int.reduceToNat]
          refine cdK_of (fun c2 => ?_) (fun c2 => ?_)
          · have c2 : k < d.w.length := by simpa using c2
            have k6 : k < 9223372036854775807 := by omega
            obtain ⟨v, ev⟩ : ∃ v, d.w[k]? = some v := ⟨d.w[k], by simp [c2]⟩
            rw [drop_at ev, List.any_cons] at hl
            cases lst with
            | false =>
              simp only [c2, getK_s (mapC_get wrC ev), wr64s k k6, go_sem, ↓reduceIte, Nat.reduceEqDiff, Nat.reduceBEq, Nat.reduceAdd, Nat.reduceLeDiff, Nat.reduceLT, reduceCtorEq, Nat.reduceMul, Nat.reduceSub, Int.reduceEq, Int.reduceLT, Int.reduceLE, Int.reduceToNat]
              refine ⟨(false, k + 1), ⟨c2, by simpa using hl⟩, by dsimp only; omega, weakG_ok ?_ (SubG.cons ?_ ?_ ?_ (SubG.cons ?_ ?_ ?_ (SubG.cons ?_ ?_ ?_ (SubG.base hf ?_ ?_ ?_))))⟩
              all_goals first | (simp only [go_sem, ↓reduceIte, Nat.reduceEqDiff, Nat.reduceBEq, Nat.reduceAdd, Nat.reduceLeDiff, Nat.reduceLT, reduceCtorEq, Nat.reduceMul, Nat.reduceSub, Int.reduceEq, Int.reduceLT, Int.reduceLE, Int.reduceToNat]; done) | (dsimp only; omega) | trace_state
            | true =>
              by_cases v1 : v.f = f
              case neg =>
                have e : lastP f arg n w v = false := by simp [lastP, v1]
                simp only [c2, v1, getK_s (mapC_get wrC ev), wr64s k k6, go_sem, ↓reduceIte, Nat.reduceEqDiff, Nat.reduceBEq, Nat.reduceAdd, Nat.reduceLeDiff, Nat.reduceLT, reduceCtorEq, Nat.reduceMul, Nat.reduceSub, Int.reduceEq, Int.reduceLT, Int.reduceLE, Int.reduceToNat]
                refine ⟨(true, k + 1), ⟨c2, by simpa [e] using hl⟩, by dsimp only; omega, weakG_ok ?_ (SubG.cons ?_ ?_ ?_ (SubG.cons ?_ ?_ ?_ (SubG.cons ?_ ?_ ?_ (SubG.base hf ?_ ?_ ?_))))⟩
                all_goals first | (simp only [go_sem, ↓reduceIte, Nat.reduceEqDiff, Nat.reduceBEq, Nat.reduceAdd, Nat.reduceLeDiff, Nat.reduceLT, reduceCtorEq, Nat.reduceMul, Nat.reduceSub, Int.reduceEq, Int.reduceLT, Int.reduceLE, Int.reduceToNat]; done) | (dsimp only; omega) | trace_state
              by_cases v2 : v.a = arg
              case neg =>
                have e : lastP f arg n w v = false := by simp [lastP, v2]
                simp only [c2, v1, v2, getK_s (mapC_get wrC ev), wr64s k k6, go_sem, ↓reduceIte, Nat.reduceEqDiff, Nat.reduceBEq, Nat.reduceAdd, Nat.reduceLeDiff, Nat.reduceLT, reduceCtorEq, Nat.reduceMul, Nat.reduceSub, Int.reduceEq, Int.reduceLT, Int.reduceLE, Int.reduceToNat]
                refine ⟨(true, k + 1), ⟨c2, by simpa [e] using hl⟩, by dsimp only; omega, weakG_ok ?_ (SubG.cons ?_ ?_ ?_ (SubG.cons ?_ ?_ ?_ (SubG.cons ?_ ?_ ?_ (SubG.base hf ?_ ?_ ?_))))⟩
                all_goals first | (simp only [go_sem, ↓reduceIte, Nat.reduceEqDiff, Nat.reduceBEq, Nat.reduceAdd, Nat.reduceLeDiff, Nat.reduceLT, reduceCtorEq, Nat.reduceMul, Nat.reduceSub, Int.reduceEq, Int.reduceLT, Int.reduceLE, Int.reduceToNat]; done) | (dsimp only; omega) | trace_state
              by_cases v3 : v.i = n
              case neg =>
                have e : lastP f arg n w v = false := by simp [lastP, v3]
                simp only [c2, v1, v2, v3, getK_s (mapC_get wrC ev), wr64s k k6, go_sem, ↓reduceIte, Nat.reduceEqDiff, Nat.reduceBEq, Nat.reduceAdd, Nat.reduceLeDiff, Nat.reduceLT, reduceCtorEq, Nat.reduceMul, Nat.reduceSub, Int.reduceEq, Int.reduceLT, Int.reduceLE, Int.reduceToNat]
                refine ⟨(true, k + 1), ⟨c2, by simpa [e] using hl⟩, by dsimp only; omega, weakG_ok ?_ (SubG.cons ?_ ?_ ?_ (SubG.cons ?_ ?_ ?_ (SubG.cons ?_ ?_ ?_ (SubG.base hf ?_ ?_ ?_))))⟩
                all_goals first | (simp only [go_sem, ↓reduceIte, Nat.reduceEqDiff, Nat.reduceBEq, Nat.reduceAdd, Nat.reduceLeDiff, Nat.reduceLT, reduceCtorEq, Nat.reduceMul, Nat.reduceSub, Int.reduceEq, Int.reduceLT, Int.reduceLE, Int.reduceToNat]; done) | (dsimp only; omega) | trace_state
              by_cases v4 : v.c.f = w.c.f
              case neg =>
                have e : lastP f arg n w v = false := by simp [lastP, v4]
                simp only [c2, v1, v2, v3, v4, getK_s (mapC_get wrC ev), wr64s k k6, go_sem, ↓reduceIte, Nat.reduceEqDiff, Nat.reduceBEq, Nat.reduceAdd, Nat.reduceLeDiff, Nat.reduceLT, reduceCtorEq, Nat.reduceMul, Nat.reduceSub, Int.reduceEq, Int.reduceLT, Int.reduceLE, Int.reduceToNat]
                refine ⟨(true, k + 1), ⟨c2, by simpa [e] using hl⟩, by dsimp only; omega, weakG_ok ?_ (SubG.cons ?_ ?_ ?_ (SubG.cons ?_ ?_ ?_ (SubG.cons ?_ ?_ ?_ (SubG.base hf ?_ ?_ ?_))))⟩
                all_goals first | (simp only [go_sem, ↓reduceIte, Nat.reduceEqDiff, Nat.reduceBEq, Nat.reduceAdd, Nat.reduceLeDiff, Nat.reduceLT, reduceCtorEq, Nat.reduceMul, Nat.reduceSub, Int.reduceEq, Int.reduceLT, Int.reduceLE, Int.reduceToNat]; done) | (dsimp only; omega) | trace_state
              by_cases v5 : v.c.a = w.c.a
              case neg =>
                have e : lastP f arg n w v = false := by simp [lastP, v5]
                simp only [c2, v1, v2, v3, v4, v5, getK_s (mapC_get wrC ev), wr64s k k6, go_sem, ↓reduceIte, Nat.reduceEqDiff, Nat.reduceBEq, Nat.reduceAdd, Nat.reduceLeDiff, Nat.reduceLT, reduceCtorEq, Nat.reduceMul, Nat.reduceSub, Int.reduceEq, Int.reduceLT, Int.reduceLE, Int.reduceToNat]
                refine ⟨(true, k + 1), ⟨c2, by simpa [e] using hl⟩, by dsimp only; omega, weakG_ok ?_ (SubG.cons ?_ ?_ ?_ (SubG.cons ?_ ?_ ?_ (SubG.cons ?_ ?_ ?_ (SubG.base hf ?_ ?_ ?_))))⟩
                all_goals first | (simp only [go_sem, ↓reduceIte, Nat.reduceEqDiff, Nat.reduceBEq, Nat.reduceAdd, Nat.reduceLeDiff, Nat.reduceLT, reduceCtorEq, Nat.reduceMul, Nat.reduceSub, Int.reduceEq, Int.reduceLT, Int.reduceLE, Int.reduceToNat]; done) | (dsimp only; omega) | trace_state
              have e : lastP f arg n w v = true := by simp [lastP, v1, v2, v3, v4, v5]
              simp only [c2, v1, v2, v3, v4, v5, getK_s (mapC_get wrC ev), wr64s k k6, go_sem, ↓reduceIte, Nat.reduceEqDiff, Nat.reduceBEq, Nat.reduceAdd, Nat.reduceLeDiff, Nat.reduceLT, reduceCtorEq, Nat.reduceMul, Nat.reduceSub, Int.reduceEq, Int.reduceLT, Int.reduceLE, Int.reduceToNat]
              refine ⟨(false, k + 1), ⟨c2, by simpa [e] using hl⟩, by dsimp only; omega, weakG_ok ?_ (SubG.cons ?_ ?_ ?_ (SubG.cons ?_ ?_ ?_ (SubG.cons ?_ ?_ ?_ (SubG.base hf ?_ ?_ ?_))))⟩
              all_goals first | (simp only [go_sem, ↓reduceIte, Nat.reduceEqDiff, Nat.reduceBEq, Nat.reduceAdd, Nat.reduceLeDiff, Nat.reduceLT, reduceCtorEq, Nat.reduceMul, Nat.reduceSub, Int.reduceEq, Int.reduceLT, Int.reduceLE, Int.reduceToNat]; done) | (dsimp only; omega) | trace_state
          · have c2 : k = d.w.length := by simp at c2; omega
            subst c2
            rw [List.drop_length] at hl
            have hl : lst = !T := by simpa using hl
            cases lst with
            | false =>
              simp only [go_sem, ↓reduceIte, Nat.reduceEqDiff, Nat.reduceBEq, Nat.reduceAdd, Nat.reduceLeDiff, Nat.reduceLT, reduceCtorEq, Nat.reduceMul, Nat.reduceSub, Int.reduceEq, Int.reduceLT, Int.reduceLE, Int.reduceToNat]
              refine dCall.no ?_
              simp only [go_sem, ↓reduceIte, Nat.reduceEqDiff, Nat.reduceBEq, Nat.reduceAdd, Nat.reduceLeDiff, Nat.reduceLT, reduceCtorEq, Nat.reduceMul, Nat.reduceSub, Int.reduceEq, Int.reduceLT, Int.reduceLE, Int.reduceToNat]
              refine dCall.no ?_
              simp only [w1, go_sem, ↓reduceIte, Nat.reduceEqDiff, Nat.reduceBEq, Nat.reduceAdd, Nat.reduceLeDiff, Nat.reduceLT, reduceCtorEq, Nat.reduceMul, Nat.reduceSub, Int.reduceEq, Int.reduceLT, Int.reduceLE, Int.reduceToNat]
              refine ⟨(true, i), ⟨by dsimp only; omega, fun e => by cases e⟩, by dsimp only; omega, weakG_ok ?_ (SubG.cons ?_ ?_ ?_ (SubG.cons ?_ ?_ ?_ (SubG.base hf ?_ ?_ ?_)))⟩
              all_goals first | (simp only [go_sem, ↓reduceIte, Nat.reduceEqDiff, Nat.reduceBEq, Nat.reduceAdd, Nat.reduceLeDiff, Nat.reduceLT, reduceCtorEq, Nat.reduceMul, Nat.reduceSub, Int.reduceEq, Int.reduceLT, Int.reduceLE, Int.reduceToNat]; done) | (dsimp only; omega) | trace_state
            | true =>
              have hT' : T = false := by simpa using hl.symm
              have hlook : lookV V n w.c.f w.c.a = w.c.v := by
                rw [← hV]
                refine look_last d f a n c ew (by rw [harg]; exact hw) hin fun u hu q => ?_
                rw [hT'] at hT
                have := List.any_eq_false.1 hT u hu
                rw [harg] at q
                simp only [hits, Bool.and_eq_true, decide_eq_true_eq] at q
                simp [lastP, q.1.1, q.1.2, q.2.1, q.2.2.1, q.2.2.2] at this
              have hlk := dLookup_ok V hVf n w.c.f w.c.a
              rw [hlook] at hlk
              have hsm := same_ok w.c.v w.c.v fw fw
              rw [cmpV_refl] at hsm
              simp only [go_sem, ↓reduceIte, Nat.reduceEqDiff, Nat.reduceBEq, Nat.reduceAdd, Nat.reduceLeDiff, Nat.reduceLT, reduceCtorEq, Nat.reduceMul, Nat.reduceSub, Int.reduceEq, Int.reduceLT, Int.reduceLE, Int.reduceToNat]
              refine dCall.f (fun _ hp' _ => hlk hp' _) ?_
              simp only [go_sem, ↓reduceIte, Nat.reduceEqDiff, Nat.reduceBEq, Nat.reduceAdd, Nat.reduceLeDiff, Nat.reduceLT, reduceCtorEq, Nat.reduceMul, Nat.reduceSub, Int.reduceEq, Int.reduceLT, Int.reduceLE, Int.reduceToNat]
              refine dCall.f (fun _ hp' _ => hsm hp' _) ?_
              simp only [w1, go_sem, ↓reduceIte, Nat.reduceEqDiff, Nat.reduceBEq, Nat.reduceAdd, Nat.reduceLeDiff, Nat.reduceLT, reduceCtorEq, Nat.reduceMul, Nat.reduceSub, Int.reduceEq, Int.reduceLT, Int.reduceLE, Int.reduceToNat]
              refine ⟨(true, i), ⟨by dsimp only; omega, fun e => by cases e⟩, by dsimp only; omega, weakG_ok ?_ (SubG.cons ?_ ?_ ?_ (SubG.cons ?_ ?_ ?_ (SubG.base hf ?_ ?_ ?_)))⟩
              all_goals first | (simp only [go_sem, ↓reduceIte, Nat.reduceEqDiff, Nat.reduceBEq, Nat.reduceAdd, Nat.reduceLeDiff, Nat.reduceLT, reduceCtorEq, Nat.reduceMul, Nat.reduceSub, Int.reduceEq, Int.reduceLT, Int.reduceLE, Int.reduceToNat]; done) | (dsimp only; omega) | trace_state
        · have r0 : r = 0 := by simp at c1; omega
          subst r0
          cases tch with
          | true =>
            simp only [go_sem, ↓reduceIte, Nat.reduceEqDiff, Nat.reduceBEq, Nat.reduceAdd, Nat.reduceLeDiff, Nat.reduceLT, reduceCtorEq, Nat.reduceMul, Nat.reduceSub, Int.reduceEq, Int.reduceLT, Int.reduceLE, Int.reduceToNat]
            refine dCall.no ?_
            simp only [wr64s n n6, go_sem, ↓reduceIte, Nat.reduceEqDiff, Nat.reduceBEq, Nat.reduceAdd, Nat.reduceLeDiff, Nat.reduceLT, reduceCtorEq, Nat.reduceMul, Nat.reduceSub, Int.reduceEq, Int.reduceLT, Int.reduceLE, Int.reduceToNat]
            refine ⟨n + 1, c, by omega, weakG_ok ?_ (SubG.cons ?_ ?_ ?_ (SubG.cons ?_ ?_ ?_ (SubG.base hf ?_ ?_ ?_)))⟩
            all_goals first | (simp only [go_sem, ↓reduceIte, Nat.reduceEqDiff, Nat.reduceBEq, Nat.reduceAdd, Nat.reduceLeDiff, Nat.reduceLT, reduceCtorEq, Nat.reduceMul, Nat.reduceSub, Int.reduceEq, Int.reduceLT, Int.reduceLE, Int.reduceToNat]; done) | (dsimp only; omega) | trace_state
          | false =>
            have hz : z = y := by
              have := appV_same d f a n fun w hw => by rw [harg]; exact ht rfl w (by simpa using hw)
              rw [hV, ez, ey] at this
              cases this
              rfl
            subst hz
            have hsi := rsameI_eq z (hd.f.ll (List.mem_of_getElem? ey)) fun c hc => hd.f.c (List.mem_of_getElem? ey) hc
            simp only [c, cV, getK_s (mapC_get itC ey), getK_s (mapC_get itC ez), mapC_get itC ez, mapC_get itC ey, go_sem, ↓reduceIte, Nat.reduceEqDiff, Nat.reduceBEq, Nat.reduceAdd, Nat.reduceLeDiff, Nat.reduceLT, reduceCtorEq, Nat.reduceMul, Nat.reduceSub, Int.reduceEq, Int.reduceLT, Int.reduceLE, Int.reduceToNat]
            refine dCall.f (fun _ hp' _ => hsi hp' _) ?_
            simp only [wr64s n n6, go_sem, ↓reduceIte, Nat.reduceEqDiff, Nat.reduceBEq, Nat.reduceAdd, Nat.reduceLeDiff, Nat.reduceLT, reduceCtorEq, Nat.reduceMul, Nat.reduceSub, Int.reduceEq, Int.reduceLT, Int.reduceLE, Int.reduceToNat]
            refine ⟨n + 1, c, by omega, weakG_ok ?_ (SubG.cons ?_ ?_ ?_ (SubG.cons ?_ ?_ ?_ (SubG.base hf ?_ ?_ ?_)))⟩
            all_goals first | (simp only [go_sem, ↓reduceIte, Nat.reduceEqDiff, Nat.reduceBEq, Nat.reduceAdd, Nat.reduceLeDiff, Nat.reduceLT, reduceCtorEq, Nat.reduceMul, Nat.reduceSub, Int.reduceEq, Int.reduceLT, Int.reduceLE, Int.reduceToNat]; done) | (dsimp only; omega) | trace_state
      · simp only [go_sem, ↓reduceIte, Nat.reduceEqDiff, Nat.reduceBEq, Nat.reduceAdd, Nat.reduceLeDiff, Nat.reduceLT, reduceCtorEq, Nat.reduceMul, Nat.reduceSub, Int.reduceEq, Int.reduceLT, Int.reduceLE, Int.reduceToNat]
        refine dCallR.f (fun _ hp' _ => h4 hp' _) ?_
        simp only [go_sem, ↓reduceIte, Nat.reduceEqDiff, Nat.reduceBEq, Nat.reduceAdd, Nat.reduceLeDiff, Nat.reduceLT, reduceCtorEq, Nat.reduceMul, Nat.reduceSub, Int.reduceEq, Int.reduceLT, Int.reduceLE, Int.reduceToNat]
        refine dCallR.f (fun _ hp' _ => h5 hp' _) ?_
        simp only [go_sem, ↓reduceIte, Nat.reduceEqDiff, Nat.reduceBEq, Nat.reduceAdd, Nat.reduceLeDiff, Nat.reduceLT, reduceCtorEq, Nat.reduceMul, Nat.reduceSub, Int.reduceEq, Int.reduceLT, Int.reduceLE, Int.reduceToNat]
        refine dCall.f (fun _ hp' _ => ex20_ok hp' _) ?_
        simp only [go_sem, ↓reduceIte, Nat.reduceEqDiff, Nat.reduceBEq, Nat.reduceAdd, Nat.reduceLeDiff, Nat.reduceLT, reduceCtorEq, Nat.reduceMul, Nat.reduceSub, Int.reduceEq, Int.reduceLT, Int.reduceLE, Int.reduceToNat]
    | false =>
      have ea : arg = ⟨#[]⟩ := by rw [← harg]; unfold argA; rw [he, if_neg (by simp)]
      simp only [hVl, ← ea, beq_self_eq_true, go_sem, ↓reduceIte, Nat.reduceEqDiff, Nat.reduceBEq, Nat.reduceAdd, Nat.reduceLeDiff, Nat.reduceLT, reduceCtorEq, Nat.reduceMul, Nat.reduceSub, Int.reduceEq, Int.reduceLT, Int.reduceLE, Int.reduceToNat]
      refine loopg (fun q : Nat => ⟨[(1, .s f), (2, .s arg), (3, .bx m 0), (7, .bx (m + 1) 0), (10, .i .i64 q)], (m + 1, .bx [.ds (mapC itC V.i), .ds (mapC wrC V.w)]) :: (m, .bx [.ds (mapC itC d.i), .ds (mapC wrC d.w)]) :: hp, m + 2⟩)
        (fun q => q ≤ d.i.length) (fun q => d.i.length - q) 0 (Nat.zero_le _) ?_ (fun n hn => ?_)
      · refine weak_ok ?_ (Sub.cons ?_ (Sub.cons ?_ (Sub.base hf ?_))) (Nat.le_refl _)
        all_goals first | (simp only [go_sem, ↓reduceIte, Nat.reduceEqDiff, Nat.reduceBEq, Nat.reduceAdd, Nat.reduceLeDiff, Nat.reduceLT, reduceCtorEq, Nat.reduceMul, Nat.reduceSub, Int.reduceEq, Int.reduceLT, Int.reduceLE, Int.reduceToNat]; done) | (dsimp only; omega) | trace_state
      simp only [go_sem, ↓reduceIte, Nat.reduceEqDiff, Nat.reduceBEq, Nat.reduceAdd, Nat.reduceLeDiff, Nat.reduceLT, reduceCtorEq, Nat.reduceMul, Nat.reduceSub, Int.reduceEq, Int.reduceLT, Int.reduceLE, Int.reduceToNat]
      refine cdK_of (fun c => ?_) (fun c => ?_)
      · have c : n < d.i.length := by simpa using c
        have n6 : n < 9223372036854775807 := by omega
        have w0 : IntKind.i64.wrap ((d.w.length : Int) - 1) = (d.w.length : Int) - 1 := wr64 (by omega)
        obtain ⟨y, ey⟩ : ∃ y, d.i[n]? = some y := ⟨d.i[n], by simp [c]⟩
        have cV : n < V.i.length := by omega
        obtain ⟨z, ez⟩ : ∃ z, V.i[n]? = some z := ⟨V.i[n], by simp [cV]⟩
        simp only [w0, go_sem, ↓reduceIte, Nat.reduceEqDiff, Nat.reduceBEq, Nat.reduceAdd, Nat.reduceLeDiff, Nat.reduceLT, reduceCtorEq, Nat.reduceMul, Nat.reduceSub, Int.reduceEq, Int.reduceLT, Int.reduceLE, Int.reduceToNat]
        refine loopg (fun q : Bool × Nat => ⟨[(1, .s f), (2, .s arg), (3, .bx m 0), (7, .bx (m + 1) 0), (10, .i .i64 n), (11, .b q.1), (12, .i .i64 ((q.2 : Int) - 1))], (m + 1, .bx [.ds (mapC itC V.i), .ds (mapC wrC V.w)]) :: (m, .bx [.ds (mapC itC d.i), .ds (mapC wrC d.w)]) :: hp, m + 2⟩)
          (fun q => q.2 ≤ d.w.length ∧ (q.1 = false → ∀ v ∈ d.w.drop q.2, ¬ (hits f arg v = true ∧ v.i = n))) (fun q => q.2) (false, d.w.length) ⟨Nat.le_refl _, fun _ v hv => by simp at hv⟩ ?_ (fun ⟨tch, r⟩ ⟨hr, ht⟩ => ?_)
        · refine weak_ok ?_ (Sub.cons ?_ (Sub.cons ?_ (Sub.base hf ?_))) (Nat.le_refl _)
          all_goals first | (simp only [go_sem, ↓reduceIte, Nat.reduceEqDiff, Nat.reduceBEq, Nat.reduceAdd, Nat.reduceLeDiff, Nat.reduceLT, reduceCtorEq, Nat.reduceMul, Nat.reduceSub, Int.reduceEq, Int.reduceLT, Int.reduceLE, Int.reduceToNat]; done) | (dsimp only; omega) | trace_state
        dsimp only at hr ht
        simp only [go_sem, ↓reduceIte, Nat.reduceEqDiff, Nat.reduceBEq, Nat.reduceAdd, Nat.reduceLeDiff, Nat.reduceLT, reduceCtorEq, Nat.reduceMul, Nat.reduceSub, Int.reduceEq, Int.reduceLT, Int.reduceLE, Int.reduceToNat]
        refine cdK_of (fun c1 => ?_) (fun c1 => ?_)
        · obtain ⟨i, rfl⟩ : ∃ i, r = i + 1 := ⟨r - 1, by simp at c1; omega⟩
          have ei : (((i + 1 : Nat) : Int) - 1) = (i : Int) := by omega
          have hi : i < d.w.length := by omega
          have i6 : i < 9223372036854775807 := by omega
          obtain ⟨w, ew⟩ : ∃ w, d.w[i]? = some w := ⟨d.w[i], by simp [hi]⟩
          have fw := hd.f.w (List.mem_of_getElem? ew)
          have w1 : IntKind.i64.wrap ((i : Int) - 1) = (i : Int) - 1 := wr64 (by omega)
          rw [ei] at c1 ⊢
          have next : ¬ (hits f arg w = true ∧ w.i = n) → tch = false → ∀ v ∈ d.w.drop i, ¬ (hits f arg v = true ∧ v.i = n) := fun h e v hv => by
            rw [drop_at ew] at hv
            rcases List.mem_cons.1 hv with rfl | hv
            · exact h
            · exact ht e v hv
          by_cases hff : w.f = f
          case neg =>
            simp only [hi, hff, getK_s (mapC_get wrC ew), w1, go_sem, ↓reduceIte, Nat.reduceEqDiff, Nat.reduceBEq, Nat.reduceAdd, Nat.reduceLeDiff, Nat.reduceLT, reduceCtorEq, Nat.reduceMul, Nat.reduceSub, Int.reduceEq, Int.reduceLT, Int.reduceLE, Int.reduceToNat]
            refine ⟨(tch, i), ⟨by dsimp only; omega, next (by simp [hits, hff])⟩, by dsimp only; omega, weakG_ok ?_ (SubG.cons ?_ ?_ ?_ (SubG.cons ?_ ?_ ?_ (SubG.base hf ?_ ?_ ?_)))⟩
            all_goals first | (simp only [go_sem, ↓reduceIte, Nat.reduceEqDiff, Nat.reduceBEq, Nat.reduceAdd, Nat.reduceLeDiff, Nat.reduceLT, reduceCtorEq, Nat.reduceMul, Nat.reduceSub, Int.reduceEq, Int.reduceLT, Int.reduceLE, Int.reduceToNat]; done) | (dsimp only; omega) | trace_state
          by_cases haa : w.a = arg
          case neg =>
            simp only [hi, hff, haa, getK_s (mapC_get wrC ew), w1, go_sem, ↓reduceIte, Nat.reduceEqDiff, Nat.reduceBEq, Nat.reduceAdd, Nat.reduceLeDiff, Nat.reduceLT, reduceCtorEq, Nat.reduceMul, Nat.reduceSub, Int.reduceEq, Int.reduceLT, Int.reduceLE, Int.reduceToNat]
            refine ⟨(tch, i), ⟨by dsimp only; omega, next (by simp [hits, haa])⟩, by dsimp only; omega, weakG_ok ?_ (SubG.cons ?_ ?_ ?_ (SubG.cons ?_ ?_ ?_ (SubG.base hf ?_ ?_ ?_)))⟩
            all_goals first | (simp only [go_sem, ↓reduceIte, Nat.reduceEqDiff, Nat.reduceBEq, Nat.reduceAdd, Nat.reduceLeDiff, Nat.reduceLT, reduceCtorEq, Nat.reduceMul, Nat.reduceSub, Int.reduceEq, Int.reduceLT, Int.reduceLE, Int.reduceToNat]; done) | (dsimp only; omega) | trace_state
          by_cases hin : w.i = n
          case neg =>
            simp only [hi, hff, haa, hin, getK_s (mapC_get wrC ew), w1, go_sem, ↓reduceIte, Nat.reduceEqDiff, Nat.reduceBEq, Nat.reduceAdd, Nat.reduceLeDiff, Nat.reduceLT, reduceCtorEq, Nat.reduceMul, Nat.reduceSub, Int.reduceEq, Int.reduceLT, Int.reduceLE, Int.reduceToNat]
            refine ⟨(tch, i), ⟨by dsimp only; omega, next (fun h => hin h.2)⟩, by dsimp only; omega, weakG_ok ?_ (SubG.cons ?_ ?_ ?_ (SubG.cons ?_ ?_ ?_ (SubG.base hf ?_ ?_ ?_)))⟩
            all_goals first | (simp only [go_sem, ↓reduceIte, Nat.reduceEqDiff, Nat.reduceBEq, Nat.reduceAdd, Nat.reduceLeDiff, Nat.reduceLT, reduceCtorEq, Nat.reduceMul, Nat.reduceSub, Int.reduceEq, Int.reduceLT, Int.reduceLE, Int.reduceToNat]; done) | (dsimp only; omega) | trace_state
          have hw : hits f arg w = true := by simp [hits, hff, haa]
          simp only [hi, hff, haa, hin, getK_s (mapC_get wrC ew), wr64s i i6, go_sem, ↓reduceIte, Nat.reduceEqDiff, Nat.reduceBEq, Nat.reduceAdd, Nat.reduceLeDiff, Nat.reduceLT, reduceCtorEq, Nat.reduceMul, Nat.reduceSub, Int.reduceEq, Int.reduceLT, Int.reduceLE, Int.reduceToNat]
          obtain ⟨T, hT⟩ : ∃ T, (d.w.drop (i + 1)).any (lastP f arg n w) = T := ⟨_, rfl⟩
          refine loopg (fun q : Bool × Nat => ⟨[(1, .s f), (2, .s arg), (3, .bx m 0), (7, .bx (m + 1) 0), (10, .i .i64 n), (12, .i .i64 i), (13, .bx (m + 2) 0), (14, .b q.1), (15, .i .i64 q.2)], (m + 2, .bx [.s f, .s arg, .i .i64 n, .s w.c.f, .s w.c.a, .i .i64 w.c.v.k, .i .i64 w.c.v.n, .s w.c.v.s, .ds (mapC valC w.c.v.items), .ds (stC w.c.v.keys)]) :: (m + 1, .bx [.ds (mapC itC V.i), .ds (mapC wrC V.w)]) :: (m, .bx [.ds (mapC itC d.i), .ds (mapC wrC d.w)]) :: hp, m + 3⟩)
            (fun q => q.2 ≤ d.w.length ∧ (q.1 && !(d.w.drop q.2).any (lastP f arg n w)) = !T) (fun q => d.w.length - q.2) (true, i + 1) ⟨hi, by rw [Bool.true_and, hT]⟩ ?_ (fun ⟨lst, k⟩ ⟨hk, hl⟩ => ?_)
          · refine weak_ok ?_ (Sub.cons ?_ (Sub.cons ?_ (Sub.cons ?_ (Sub.base hf ?_)))) (Nat.le_refl _)
            all_goals first | (simp only [go_sem, ↓reduceIte, Nat.reduceEqDiff, Nat.reduceBEq, Nat.reduceAdd, Nat.reduceLeDiff, Nat.reduceLT, reduceCtorEq, Nat.reduceMul, Nat.reduceSub, Int.reduceEq, Int.reduceLT, Int.reduceLE, Int.reduceToNat]; done) | (dsimp only; omega) | trace_state
          dsimp only at hk hl
          simp only [go_sem, ↓reduceIte, Nat.reduceEqDiff, Nat.reduceBEq, Nat.reduceAdd, Nat.reduceLeDiff, Nat.reduceLT, reduceCtorEq, Nat.reduceMul, Nat.reduceSub, Int.reduceEq, Int.reduceLT, Int.reduceLE, Int.reduceToNat]
          refine cdK_of (fun c2 => ?_) (fun c2 => ?_)
          · have c2 : k < d.w.length := by simpa using c2
            have k6 : k < 9223372036854775807 := by omega
            obtain ⟨v, ev⟩ : ∃ v, d.w[k]? = some v := ⟨d.w[k], by simp [c2]⟩
            rw [drop_at ev, List.any_cons] at hl
            cases lst with
            | false =>
              simp only [c2, getK_s (mapC_get wrC ev), wr64s k k6, go_sem, ↓reduceIte, Nat.reduceEqDiff, Nat.reduceBEq, Nat.reduceAdd, Nat.reduceLeDiff, Nat.reduceLT, reduceCtorEq, Nat.reduceMul, Nat.reduceSub, Int.reduceEq, Int.reduceLT, Int.reduceLE, Int.reduceToNat]
              refine ⟨(false, k + 1), ⟨c2, by simpa using hl⟩, by dsimp only; omega, weakG_ok ?_ (SubG.cons ?_ ?_ ?_ (SubG.cons ?_ ?_ ?_ (SubG.cons ?_ ?_ ?_ (SubG.base hf ?_ ?_ ?_))))⟩
              all_goals first | (simp only [go_sem, ↓reduceIte, Nat.reduceEqDiff, Nat.reduceBEq, Nat.reduceAdd, Nat.reduceLeDiff, Nat.reduceLT, reduceCtorEq, Nat.reduceMul, Nat.reduceSub, Int.reduceEq, Int.reduceLT, Int.reduceLE, Int.reduceToNat]; done) | (dsimp only; omega) | trace_state
            | true =>
              by_cases v1 : v.f = f
              case neg =>
                have e : lastP f arg n w v = false := by simp [lastP, v1]
                simp only [c2, v1, getK_s (mapC_get wrC ev), wr64s k k6, go_sem, ↓reduceIte, Nat.reduceEqDiff, Nat.reduceBEq, Nat.reduceAdd, Nat.reduceLeDiff, Nat.reduceLT, reduceCtorEq, Nat.reduceMul, Nat.reduceSub, Int.reduceEq, Int.reduceLT, Int.reduceLE, Int.reduceToNat]
                refine ⟨(true, k + 1), ⟨c2, by simpa [e] using hl⟩, by dsimp only; omega, weakG_ok ?_ (SubG.cons ?_ ?_ ?_ (SubG.cons ?_ ?_ ?_ (SubG.cons ?_ ?_ ?_ (SubG.base hf ?_ ?_ ?_))))⟩
                all_goals first | (simp only [go_sem, ↓reduceIte, Nat.reduceEqDiff, Nat.reduceBEq, Nat.reduceAdd, Nat.reduceLeDiff, Nat.reduceLT, reduceCtorEq, Nat.reduceMul, Nat.reduceSub, Int.reduceEq, Int.reduceLT, Int.reduceLE, Int.reduceToNat]; done) | (dsimp only; omega) | trace_state
              by_cases v2 : v.a = arg
              case neg =>
                have e : lastP f arg n w v = false := by simp [lastP, v2]
                simp only [c2, v1, v2, getK_s (mapC_get wrC ev), wr64s k k6, go_sem, ↓reduceIte, Nat.reduceEqDiff, Nat.reduceBEq, Nat.reduceAdd, Nat.reduceLeDiff, Nat.reduceLT, reduceCtorEq, Nat.reduceMul, Nat.reduceSub, Int.reduceEq, Int.reduceLT, Int.reduceLE, Int.reduceToNat]
                refine ⟨(true, k + 1), ⟨c2, by simpa [e] using hl⟩, by dsimp only; omega, weakG_ok ?_ (SubG.cons ?_ ?_ ?_ (SubG.cons ?_ ?_ ?_ (SubG.cons ?_ ?_ ?_ (SubG.base hf ?_ ?_ ?_))))⟩
                all_goals first | (simp only [go_sem, ↓reduceIte, Nat.reduceEqDiff, Nat.reduceBEq, Nat.reduceAdd, Nat.reduceLeDiff, Nat.reduceLT, reduceCtorEq, Nat.reduceMul, Nat.reduceSub, Int.reduceEq, Int.reduceLT, Int.reduceLE, Int.reduceToNat]; done) | (dsimp only; omega) | trace_state
              by_cases v3 : v.i = n
              case neg =>
                have e : lastP f arg n w v = false := by simp [lastP, v3]
                simp only [c2, v1, v2, v3, getK_s (mapC_get wrC ev), wr64s k k6, go_sem, ↓reduceIte, Nat.reduceEqDiff, Nat.reduceBEq, Nat.reduceAdd, Nat.reduceLeDiff, Nat.reduceLT, reduceCtorEq, Nat.reduceMul, Nat.reduceSub, Int.reduceEq, Int.reduceLT, Int.reduceLE, Int.reduceToNat]
                refine ⟨(true, k + 1), ⟨c2, by simpa [e] using hl⟩, by dsimp only; omega, weakG_ok ?_ (SubG.cons ?_ ?_ ?_ (SubG.cons ?_ ?_ ?_ (SubG.cons ?_ ?_ ?_ (SubG.base hf ?_ ?_ ?_))))⟩
                all_goals first | (simp only [go_sem, ↓reduceIte, Nat.reduceEqDiff, Nat.reduceBEq, Nat.reduceAdd, Nat.reduceLeDiff, Nat.reduceLT, reduceCtorEq, Nat.reduceMul, Nat.reduceSub, Int.reduceEq, Int.reduceLT, Int.reduceLE, Int.reduceToNat]; done) | (dsimp only; omega) | trace_state
              by_cases v4 : v.c.f = w.c.f
              case neg =>
                have e : lastP f arg n w v = false := by simp [lastP, v4]
                simp only [c2, v1, v2, v3, v4, getK_s (mapC_get wrC ev), wr64s k k6, go_sem, ↓reduceIte, Nat.reduceEqDiff, Nat.reduceBEq, Nat.reduceAdd, Nat.reduceLeDiff, Nat.reduceLT, reduceCtorEq, Nat.reduceMul, Nat.reduceSub, Int.reduceEq, Int.reduceLT, Int.reduceLE, Int.reduceToNat]
                refine ⟨(true, k + 1), ⟨c2, by simpa [e] using hl⟩, by dsimp only; omega, weakG_ok ?_ (SubG.cons ?_ ?_ ?_ (SubG.cons ?_ ?_ ?_ (SubG.cons ?_ ?_ ?_ (SubG.base hf ?_ ?_ ?_))))⟩
                all_goals first | (simp only [go_sem, ↓reduceIte, Nat.reduceEqDiff, Nat.reduceBEq, Nat.reduceAdd, Nat.reduceLeDiff, Nat.reduceLT, reduceCtorEq, Nat.reduceMul, Nat.reduceSub, Int.reduceEq, Int.reduceLT, Int.reduceLE, Int.reduceToNat]; done) | (dsimp only; omega) | trace_state
              by_cases v5 : v.c.a = w.c.a
              case neg =>
                have e : lastP f arg n w v = false := by simp [lastP, v5]
                simp only [c2, v1, v2, v3, v4, v5, getK_s (mapC_get wrC ev), wr64s k k6, go_sem, ↓reduceIte, Nat.reduceEqDiff, Nat.reduceBEq, Nat.reduceAdd, Nat.reduceLeDiff, Nat.reduceLT, reduceCtorEq, Nat.reduceMul, Nat.reduceSub, Int.reduceEq, Int.reduceLT, Int.reduceLE, Int.reduceToNat]
                refine ⟨(true, k + 1), ⟨c2, by simpa [e] using hl⟩, by dsimp only; omega, weakG_ok ?_ (SubG.cons ?_ ?_ ?_ (SubG.cons ?_ ?_ ?_ (SubG.cons ?_ ?_ ?_ (SubG.base hf ?_ ?_ ?_))))⟩
                all_goals first | (simp only [go_sem, ↓reduceIte, Nat.reduceEqDiff, Nat.reduceBEq, Nat.reduceAdd, Nat.reduceLeDiff, Nat.reduceLT, reduceCtorEq, Nat.reduceMul, Nat.reduceSub, Int.reduceEq, Int.reduceLT, Int.reduceLE, Int.reduceToNat]; done) | (dsimp only; omega) | trace_state
              have e : lastP f arg n w v = true := by simp [lastP, v1, v2, v3, v4, v5]
              simp only [c2, v1, v2, v3, v4, v5, getK_s (mapC_get wrC ev), wr64s k k6, go_sem, ↓reduceIte, Nat.reduceEqDiff, Nat.reduceBEq, Nat.reduceAdd, Nat.reduceLeDiff, Nat.reduceLT, reduceCtorEq, Nat.reduceMul, Nat.reduceSub, Int.reduceEq, Int.reduceLT, Int.reduceLE, Int.reduceToNat]
              refine ⟨(false, k + 1), ⟨c2, by simpa [e] using hl⟩, by dsimp only; omega, weakG_ok ?_ (SubG.cons ?_ ?_ ?_ (SubG.cons ?_ ?_ ?_ (SubG.cons ?_ ?_ ?_ (SubG.base hf ?_ ?_ ?_))))⟩
              all_goals first | (simp only [go_sem, ↓reduceIte, Nat.reduceEqDiff, Nat.reduceBEq, Nat.reduceAdd, Nat.reduceLeDiff, Nat.reduceLT, reduceCtorEq, Nat.reduceMul, Nat.reduceSub, Int.reduceEq, Int.reduceLT, Int.reduceLE, Int.reduceToNat]; done) | (dsimp only; omega) | trace_state
          · have c2 : k = d.w.length := by simp at c2; omega
            subst c2
            rw [List.drop_length] at hl
            have hl : lst = !T := by simpa using hl
            cases lst with
            | false =>
              simp only [go_sem, ↓reduceIte, Nat.reduceEqDiff, Nat.reduceBEq, Nat.reduceAdd, Nat.reduceLeDiff, Nat.reduceLT, reduceCtorEq, Nat.reduceMul, Nat.reduceSub, Int.reduceEq, Int.reduceLT, Int.reduceLE, Int.reduceToNat]
              refine dCall.no ?_
              simp only [go_sem, ↓reduceIte, Nat.reduceEqDiff, Nat.reduceBEq, Nat.reduceAdd, Nat.reduceLeDiff, Nat.reduceLT, reduceCtorEq, Nat.reduceMul, Nat.reduceSub, Int.reduceEq, Int.reduceLT, Int.reduceLE, Int.reduceToNat]
              refine dCall.no ?_
              simp only [w1, go_sem, ↓reduceIte, Nat.reduceEqDiff, Nat.reduceBEq, Nat.reduceAdd, Nat.reduceLeDiff, Nat.reduceLT, reduceCtorEq, Nat.reduceMul, Nat.reduceSub, Int.reduceEq, Int.reduceLT, Int.reduceLE, Int.reduceToNat]
              refine ⟨(true, i), ⟨by dsimp only; omega, fun e => by cases e⟩, by dsimp only; omega, weakG_ok ?_ (SubG.cons ?_ ?_ ?_ (SubG.cons ?_ ?_ ?_ (SubG.base hf ?_ ?_ ?_)))⟩
              all_goals first | (simp only [go_sem, ↓reduceIte, Nat.reduceEqDiff, Nat.reduceBEq, Nat.reduceAdd, Nat.reduceLeDiff, Nat.reduceLT, reduceCtorEq, Nat.reduceMul, Nat.reduceSub, Int.reduceEq, Int.reduceLT, Int.reduceLE, Int.reduceToNat]; done) | (dsimp only; omega) | trace_state
            | true =>
              have hT' : T = false := by simpa using hl.symm
              have hlook : lookV V n w.c.f w.c.a = w.c.v := by
                rw [← hV]
                refine look_last d f a n c ew (by rw [harg]; exact hw) hin fun u hu q => ?_
                rw [hT'] at hT
                have := List.any_eq_false.1 hT u hu
                rw [harg] at q
                simp only [hits, Bool.and_eq_true, decide_eq_true_eq] at q
                simp [lastP, q.1.1, q.1.2, q.2.1, q.2.2.1, q.2.2.2] at this
              have hlk := dLookup_ok V hVf n w.c.f w.c.a
              rw [hlook] at hlk
              have hsm := same_ok w.c.v w.c.v fw fw
              rw [cmpV_refl] at hsm
              simp only [go_sem, ↓reduceIte, Nat.reduceEqDiff, Nat.reduceBEq, Nat.reduceAdd, Nat.reduceLeDiff, Nat.reduceLT, reduceCtorEq, Nat.reduceMul, Nat.reduceSub, Int.reduceEq, Int.reduceLT, Int.reduceLE, Int.reduceToNat]
              refine dCall.f (fun _ hp' _ => hlk hp' _) ?_
              simp only [go_sem, ↓reduceIte, Nat.reduceEqDiff, Nat.reduceBEq, Nat.reduceAdd, Nat.reduceLeDiff, Nat.reduceLT, reduceCtorEq, Nat.reduceMul, Nat.reduceSub, Int.reduceEq, Int.reduceLT, Int.reduceLE, Int.reduceToNat]
              refine dCall.f (fun _ hp' _ => hsm hp' _) ?_
              simp only [w1, go_sem, ↓reduceIte, Nat.reduceEqDiff, Nat.reduceBEq, Nat.reduceAdd, Nat.reduceLeDiff, Nat.reduceLT, reduceCtorEq, Nat.reduceMul, Nat.reduceSub, Int.reduceEq, Int.reduceLT, Int.reduceLE, Int.reduceToNat]
              refine ⟨(true, i), ⟨by dsimp only; omega, fun e => by cases e⟩, by dsimp only; omega, weakG_ok ?_ (SubG.cons ?_ ?_ ?_ (SubG.cons ?_ ?_ ?_ (SubG.base hf ?_ ?_ ?_)))⟩
              all_goals first | (simp only [go_sem, ↓reduceIte, Nat.reduceEqDiff, Nat.reduceBEq, Nat.reduceAdd, Nat.reduceLeDiff, Nat.reduceLT, reduceCtorEq, Nat.reduceMul, Nat.reduceSub, Int.reduceEq, Int.reduceLT, Int.reduceLE, Int.reduceToNat]; done) | (dsimp only; omega) | trace_state
        · have r0 : r = 0 := by simp at c1; omega
          subst r0
          cases tch with
          | true =>
            simp only [go_sem, ↓reduceIte, Nat.reduceEqDiff, Nat.reduceBEq, Nat.reduceAdd, Nat.reduceLeDiff, Nat.reduceLT, reduceCtorEq, Nat.reduceMul, Nat.reduceSub, Int.reduceEq, Int.reduceLT, Int.reduceLE, Int.reduceToNat]
            refine dCall.no ?_
            simp only [wr64s n n6, go_sem, ↓reduceIte, Nat.reduceEqDiff, Nat.reduceBEq, Nat.reduceAdd, Nat.reduceLeDiff, Nat.reduceLT, reduceCtorEq, Nat.reduceMul, Nat.reduceSub, Int.reduceEq, Int.reduceLT, Int.reduceLE, Int.reduceToNat]
            refine ⟨n + 1, c, by omega, weakG_ok ?_ (SubG.cons ?_ ?_ ?_ (SubG.cons ?_ ?_ ?_ (SubG.base hf ?_ ?_ ?_)))⟩
            all_goals first | (simp only [go_sem, ↓reduceIte, Nat.reduceEqDiff, Nat.reduceBEq, Nat.reduceAdd, Nat.reduceLeDiff, Nat.reduceLT, reduceCtorEq, Nat.reduceMul, Nat.reduceSub, Int.reduceEq, Int.reduceLT, Int.reduceLE, Int.reduceToNat]; done) | (dsimp only; omega) | trace_state
          | false =>
            have hz : z = y := by
              have := appV_same d f a n fun w hw => by rw [harg]; exact ht rfl w (by simpa using hw)
              rw [hV, ez, ey] at this
              cases this
              rfl
            subst hz
            have hsi := rsameI_eq z (hd.f.ll (List.mem_of_getElem? ey)) fun c hc => hd.f.c (List.mem_of_getElem? ey) hc
            simp only [c, cV, getK_s (mapC_get itC ey), getK_s (mapC_get itC ez), mapC_get itC ez, mapC_get itC ey, go_sem, ↓reduceIte, Nat.reduceEqDiff, Nat.reduceBEq, Nat.reduceAdd, Nat.reduceLeDiff, Nat.reduceLT, reduceCtorEq, Nat.reduceMul, Nat.reduceSub, Int.reduceEq, Int.reduceLT, Int.reduceLE, Int.reduceToNat]
            refine dCall.f (fun _ hp' _ => hsi hp' _) ?_
            simp only [wr64s n n6, go_sem, ↓reduceIte, Nat.reduceEqDiff, Nat.reduceBEq, Nat.reduceAdd, Nat.reduceLeDiff, Nat.reduceLT, reduceCtorEq, Nat.reduceMul, Nat.reduceSub, Int.reduceEq, Int.reduceLT, Int.reduceLE, Int.reduceToNat]
            refine ⟨n + 1, c, by omega, weakG_ok ?_ (SubG.cons ?_ ?_ ?_ (SubG.cons ?_ ?_ ?_ (SubG.base hf ?_ ?_ ?_)))⟩
            all_goals first | (simp only [go_sem, ↓reduceIte, Nat.reduceEqDiff, Nat.reduceBEq, Nat.reduceAdd, Nat.reduceLeDiff, Nat.reduceLT, reduceCtorEq, Nat.reduceMul, Nat.reduceSub, Int.reduceEq, Int.reduceLT, Int.reduceLE, Int.reduceToNat]; done) | (dsimp only; omega) | trace_state
      · simp only [go_sem, ↓reduceIte, Nat.reduceEqDiff, Nat.reduceBEq, Nat.reduceAdd, Nat.reduceLeDiff, Nat.reduceLT, reduceCtorEq, Nat.reduceMul, Nat.reduceSub, Int.reduceEq, Int.reduceLT, Int.reduceLE, Int.reduceToNat]
        refine dCallR.f (fun _ hp' _ => h4 hp' _) ?_
        simp only [go_sem, ↓reduceIte, Nat.reduceEqDiff, Nat.reduceBEq, Nat.reduceAdd, Nat.reduceLeDiff, Nat.reduceLT, reduceCtorEq, Nat.reduceMul, Nat.reduceSub, Int.reduceEq, Int.reduceLT, Int.reduceLE, Int.reduceToNat]
        refine dCallR.f (fun _ hp' _ => h5 hp' _) ?_
        simp only [go_sem, ↓reduceIte, Nat.reduceEqDiff, Nat.reduceBEq, Nat.reduceAdd, Nat.reduceLeDiff, Nat.reduceLT, reduceCtorEq, Nat.reduceMul, Nat.reduceSub, Int.reduceEq, Int.reduceLT, Int.reduceLE, Int.reduceToNat]
        refine dCall.f (fun _ hp' _ => ex20_ok hp' _) ?_
        simp only [go_sem, ↓reduceIte, Nat.reduceEqDiff, Nat.reduceBEq, Nat.reduceAdd, Nat.reduceLeDiff, Nat.reduceLT, reduceCtorEq, Nat.reduceMul, Nat.reduceSub, Int.reduceEq, Int.reduceLT, Int.reduceLE, Int.reduceToNat]
end Go.Proofs.Ytjalbhlahfgogaa
