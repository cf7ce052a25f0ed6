/-
  The parts SbI of the proof, in one file. Conditions: none.
-/
import Derived.Test.YtmcgjccheehehaaQke50
namespace Go.Proofs.Ytmcgjccheehehaa
open Go.Eng
set_option linter.unusedVariables false
set_option linter.unusedSimpArgs false
set_option maxRecDepth 20000
set_option maxHeartbeats 2000000
theorem F2.mem {α β : Type} {R : α → β → Prop} {l : List α} {m : List β} (h : F2 R l m) {y : β} (hy : y ∈ m) : ∃ x ∈ l, R x y := by
  induction h with
  | nil => cases hy
  | cons r _ ih =>
    rcases List.mem_cons.1 hy with rfl | hy
    · exact ⟨_, by simp, r⟩
    · obtain ⟨x, hx, hr⟩ := ih hy
      exact ⟨x, by simp [hx], hr⟩
theorem failO_has (f : Fet) (s : ByteArray) {p : Pk} (hp : p ∈ f.pk) (ho : p.on = f.t) : (getV (failO f s) p.key).isSome = true := by
  unfold failO collV
  rw [getV_out (by simp), inB_iff]
  right
  refine List.mem_map.2 ⟨p, ?_, rfl⟩
  unfold onP
  exact List.mem_filter.2 ⟨hp, by simp [ho]⟩
theorem keep_whole {f : Fet} (hn : f.t ≠ ⟨#[]⟩) (v : Val) (s : List Val) (H : ∀ r ∈ s, tyB r f.t = true → Wh f.pk f.t r) : ∀ y ∈ objV f.p (mergeV f v s), tyB y f.t = true → Wh f.pk f.t y := by
  intro y hy ht
  obtain ⟨x, hx, s', hs', rfl⟩ := (chg_objs hn (fun r => r ∈ s) v f.p s fun r hr => hr).2.mem hy
  rw [tyB_eq hn] at ht
  rcases mgSt_of f x s' with ⟨h1, h2⟩ | ⟨h1, b, h2, h6, hb, hm⟩
  · rw [h2] at ht
    simp [isT, h1] at ht
  · rw [h2, join_obj (typT_some (by rw [h1]; exact hn)).1 h6 (by rw [h1, hb])]
    intro p hp ho
    refine join_has ?_
    rcases hm with ⟨m, rfl⟩ | hm
    · exact failO_has f m hp ho
    · exact H b (hs' b hm) (by rw [tyB_eq hn]; simp [isT, hb]) p hp ho
theorem keep_count {f : Fet} (hn : f.t ≠ ⟨#[]⟩) (v : Val) (s : List Val) : ((objV f.p (mergeV f v s)).filter fun y => tyB y f.t).length = (repsV f v).length := by
  unfold repsV repsL
  rw [List.length_map]
  have h := (chg_objs hn (fun _ => True) v f.p s fun r _ => trivial).2
  unfold mergeV
  revert h
  generalize objV f.p (chg (mgSt f) f.p v s).1 = M
  generalize objV f.p v = L
  intro h
  induction h with
  | nil => rfl
  | @cons x y l m r _ ih =>
    have e : tyB y f.t = isT f.t x := by
      obtain ⟨s', _, rfl⟩ := r
      rw [tyB_eq hn]
      rcases mgSt_of f x s' with ⟨h1, h2⟩ | ⟨h1, b, h2, h6, hb, hm⟩
      · rw [h2]
      · have h6 := (typT_some (v := x) (by rw [h1]; exact hn)).1
        have := (mgSt_k hn h6 s').2
        unfold isT
        rw [this]
    rw [List.filter_cons, List.filter_cons]
    simp only [e]
    split
    · rw [List.length_cons, List.length_cons, ih]
    · exact ih
theorem rcount_w (p : List Hop) (v : Val) (hv : v.Fit) (hp1 : p.length ≤ 1000000000) (hw : wtV v ≤ 1000000000000) (hp : CH) (m : Nat) : MeetsF Try.prog 29 hp m [.ds (mapC hopC p), vx v] (.i .i64 (objV p v).length) := by
  have h1 := robj_ok v hv (by omega) p hp1
  obtain ⟨L, hL⟩ : ∃ L, objV p v = L := ⟨_, rfl⟩
  rw [hL] at h1 ⊢
  refine meetsF Try.func29 (by kernel_rfl) cc29 cr29 rfl fun hf => ?_; unfold ck29
  simp only [go_sem, ↓reduceIte, Nat.reduceEqDiff, Nat.reduceBEq, Nat.reduceAdd, Nat.reduceLeDiff, Nat.reduceLT, reduceCtorEq, Nat.reduceMul, Nat.reduceSub, Int.reduceEq, Int.reduceLT, Int.reduceLE, Int.reduceToNat]
  refine vcCall.f (h1 _ _) ?_
  simp only [go_sem, ↓reduceIte, Nat.reduceEqDiff, Nat.reduceBEq, Nat.reduceAdd, Nat.reduceLeDiff, Nat.reduceLT, reduceCtorEq, Nat.reduceMul, Nat.reduceSub, Int.reduceEq, Int.reduceLT, Int.reduceLE, Int.reduceToNat]
theorem lawKeeps (f : Fet) (v : Val) (r : List Val) (h : FetOk f v) (hpk : wtKs f.pk ≤ 100000000) (hrl : wtL r ≤ 100000000000) (hr : ∀ x ∈ r, wtV x ≤ 100000000000) (hw : wtV (mergeV f v r) ≤ 1000000000000) (hp : CH) (m : Nat) : MeetsF Try.prog 10 hp m [fx f, vx v, .ds (mapC valC r)] (.b true) := by
  have hL := large_ok f v h.fit (by omega)
  obtain ⟨L, eL⟩ : ∃ L, lgB f v = L := ⟨_, rfl⟩
  rw [eL] at hL
  have hW := weight_ok 2000 (.mk 0 0 ⟨#[]⟩ r []) (wtV_fit _ (by rw [wtV_eq]; simp only [Val.items_mk, Val.keys_mk, List.length_nil]; omega))
  obtain ⟨W, eW⟩ : ∃ W, wgV 2000 (.mk 0 0 ⟨#[]⟩ r []) = W := ⟨_, rfl⟩
  rw [eW] at hW
  have hW : ∀ hp m, MeetsF Try.prog 30 hp m [.ag [.i .i64 0, .i .i64 0, .s ⟨#[]⟩, .ds (mapC valC r), .ds (stC [])], .i .i64 2000] (.i .i64 W) := hW
  have h1 := merge_ok f v r h hpk hr
  have tF := wtV_fit _ hw
  have h2 := weight_ok 200000 _ tF
  have h3 := fun (i : Nat) => rcount_w (f.p.take i) (mergeV f v r) tF (by have := h.p; rw [List.length_take]; omega) hw
  have h4 := fun (i : Nat) => rcount_w (f.p.take i) v h.fit (by have := h.p; rw [List.length_take]; omega) (by have := h.w; omega)
  have hc : f.t ≠ ⟨#[]⟩ → ∀ i, (objV (f.p.take i) (mergeV f v r)).length = (objV (f.p.take i) v).length := fun hn i => by
    have := chg_count hn (f.p.drop i) v (f.p.take i) r
    rw [List.take_append_drop] at this
    exact this
  have h5 := robj_ok _ tF (by omega) f.p h.p
  have h6 := rreps_ok f v h
  have hkw := fun hn => keep_whole (f := f) hn v r
  have hkc := fun hn => keep_count (f := f) hn v r
  have hof := objV_fit _ tF f.p
  have hol := objV_len (mergeV f v r) f.p
  have hrw : (repsV f v).length ≤ 100000000000 := by
    have := repsL_len f (objV f.p v)
    have := objV_len v f.p
    have := h.w
    unfold repsV
    omega
  obtain ⟨T, eT⟩ : ∃ T, mergeV f v r = T := ⟨_, rfl⟩
  rw [eT] at h1 h2 h3 hc h5 hkw hkc hof hol hw tF
  obtain ⟨W2, eW2⟩ : ∃ W, wgV 200000 T = W := ⟨_, rfl⟩
  rw [eW2] at h2
  obtain ⟨O, eO⟩ : ∃ O, objV f.p T = O := ⟨_, rfl⟩
  rw [eO] at h5 hkw hkc hof hol
  obtain ⟨Q, eQ⟩ : ∃ Q, repsV f v = Q := ⟨_, rfl⟩
  rw [eQ] at h6 hkc hrw
  have hpl := wtKs_len f.pk
  have hrl' := wtL_len r
  have hpp := h.p
  refine meetsF Try.func10 (by kernel_rfl) cc10 cr10 rfl fun hf => ?_; unfold ck10
  simp only [go_sem, ↓reduceIte, Nat.reduceEqDiff, Nat.reduceBEq, Nat.reduceAdd, Nat.reduceLeDiff, Nat.reduceLT, reduceCtorEq, Nat.reduceMul, Nat.reduceSub, Int.reduceEq, Int.reduceLT, Int.reduceLE, Int.reduceToNat]
  refine vcCall.f (hL _ _) ?_
  simp only [go_sem, ↓reduceIte, Nat.reduceEqDiff, Nat.reduceBEq, Nat.reduceAdd, Nat.reduceLeDiff, Nat.reduceLT, reduceCtorEq, Nat.reduceMul, Nat.reduceSub, Int.reduceEq, Int.reduceLT, Int.reduceLE, Int.reduceToNat]
  refine gCall.f (fun _ => MeetsF.cv (args' := [.ag [.i .i64 0, .i .i64 0, .s ⟨#[]⟩, .ds (mapC valC r), .ds (stC [])], .i .i64 2000]) (by simp only [go_sem, ↓reduceIte, Nat.reduceEqDiff, Nat.reduceBEq, Nat.reduceAdd, Nat.reduceLeDiff, Nat.reduceLT, reduceCtorEq, Nat.reduceMul, Nat.reduceSub, Int.reduceEq, Int.reduceLT, Int.reduceLE, Int.reduceToNat]) (hW _ _)) ?_
  simp only [go_sem, ↓reduceIte, Nat.reduceEqDiff, Nat.reduceBEq, Nat.reduceAdd, Nat.reduceLeDiff, Nat.reduceLT, reduceCtorEq, Nat.reduceMul, Nat.reduceSub, Int.reduceEq, Int.reduceLT, Int.reduceLE, Int.reduceToNat]
  refine cdK_of (fun c => ?_) (fun c => ?_)
  · simp only [go_sem, ↓reduceIte, Nat.reduceEqDiff, Nat.reduceBEq, Nat.reduceAdd, Nat.reduceLeDiff, Nat.reduceLT, reduceCtorEq, Nat.reduceMul, Nat.reduceSub, Int.reduceEq, Int.reduceLT, Int.reduceLE, Int.reduceToNat]
    refine vcCall.f (ex36_ok _ _) ?_
    simp only [go_sem, ↓reduceIte, Nat.reduceEqDiff, Nat.reduceBEq, Nat.reduceAdd, Nat.reduceLeDiff, Nat.reduceLT, reduceCtorEq, Nat.reduceMul, Nat.reduceSub, Int.reduceEq, Int.reduceLT, Int.reduceLE, Int.reduceToNat]
  simp only [Bool.or_eq_false_iff, decide_eq_false_iff_not] at c
  have hn : f.t ≠ ⟨#[]⟩ := c.2
  have hc := hc hn
  have h3 : ∀ (i : Nat) (hp : CH) (m : Nat), MeetsF Try.prog 29 hp m [.ds (mapC hopC (f.p.take i)), vx T] (.i .i64 (objV (f.p.take i) v).length) := fun i hp m => by rw [← hc i]; exact h3 i hp m
  have hkw := hkw hn
  have hkc := hkc hn
  simp only [go_sem, ↓reduceIte, Nat.reduceEqDiff, Nat.reduceBEq, Nat.reduceAdd, Nat.reduceLeDiff, Nat.reduceLT, reduceCtorEq, Nat.reduceMul, Nat.reduceSub, Int.reduceEq, Int.reduceLT, Int.reduceLE, Int.reduceToNat]
  refine vcCall.f (h1 _ _) ?_
  simp only [go_sem, ↓reduceIte, Nat.reduceEqDiff, Nat.reduceBEq, Nat.reduceAdd, Nat.reduceLeDiff, Nat.reduceLT, reduceCtorEq, Nat.reduceMul, Nat.reduceSub, Int.reduceEq, Int.reduceLT, Int.reduceLE, Int.reduceToNat]
  refine vcCall.f (h2 _ _) ?_
  simp only [go_sem, ↓reduceIte, Nat.reduceEqDiff, Nat.reduceBEq, Nat.reduceAdd, Nat.reduceLeDiff, Nat.reduceLT, reduceCtorEq, Nat.reduceMul, Nat.reduceSub, Int.reduceEq, Int.reduceLT, Int.reduceLE, Int.reduceToNat]
  refine cdK_of (fun c2 => ?_) (fun c2 => ?_)
  · simp only [go_sem, ↓reduceIte, Nat.reduceEqDiff, Nat.reduceBEq, Nat.reduceAdd, Nat.reduceLeDiff, Nat.reduceLT, reduceCtorEq, Nat.reduceMul, Nat.reduceSub, Int.reduceEq, Int.reduceLT, Int.reduceLE, Int.reduceToNat]
    refine vcCall.f (ex36_ok _ _) ?_
    simp only [go_sem, ↓reduceIte, Nat.reduceEqDiff, Nat.reduceBEq, Nat.reduceAdd, Nat.reduceLeDiff, Nat.reduceLT, reduceCtorEq, Nat.reduceMul, Nat.reduceSub, Int.reduceEq, Int.reduceLT, Int.reduceLE, Int.reduceToNat]
  simp only [go_sem, ↓reduceIte, Nat.reduceEqDiff, Nat.reduceBEq, Nat.reduceAdd, Nat.reduceLeDiff, Nat.reduceLT, reduceCtorEq, Nat.reduceMul, Nat.reduceSub, Int.reduceEq, Int.reduceLT, Int.reduceLE, Int.reduceToNat]
  refine loopg (fun q : Nat => ⟨[(2, .ds (mapC valC r)), (3, .bx m 0), (4, .bx (m + 1) 0), (7, .bx (m + 2) 0), (8, .i .i64 q)], (m + 2, .bx [.i .i64 T.k, .i .i64 T.n, .s T.s, .ds (mapC valC T.items), .ds (stC T.keys)]) :: (m + 1, .bx [.i .i64 v.k, .i .i64 v.n, .s v.s, .ds (mapC valC v.items), .ds (stC v.keys)]) :: (m, .bx [.i .i64 f.g, .i .i64 f.d, .ds (mapC hopC f.p), .s f.t, .ds (stC f.ks), .i .i64 f.ky, .ds (mapC pkC f.pk), .ds (mapC in1 f.af)]) :: hp, m + 3⟩)
    (fun j => j ≤ f.p.length + 1) (fun q => f.p.length + 1 - q) 0 ?_ ?_ (fun j hj => ?_)
  · exact Nat.zero_le _
  · refine weak_ok ?_ (Sub.cons ?_ (Sub.cons ?_ (Sub.cons ?_ (Sub.base hf ?_)))) (Nat.le_refl _)
    all_goals first | (simp only [go_sem, ↓reduceIte, Nat.reduceEqDiff, Nat.reduceBEq, Nat.reduceAdd, Nat.reduceLeDiff, Nat.reduceLT, reduceCtorEq, Nat.reduceMul, Nat.reduceSub, Int.reduceEq, Int.reduceLT, Int.reduceLE, Int.reduceToNat]; done) | (dsimp only; omega) | trace_state
  simp only [go_sem, ↓reduceIte, Nat.reduceEqDiff, Nat.reduceBEq, Nat.reduceAdd, Nat.reduceLeDiff, Nat.reduceLT, reduceCtorEq, Nat.reduceMul, Nat.reduceSub, Int.reduceEq, Int.reduceLT, Int.reduceLE, Int.reduceToNat]
  refine cdK_of (fun d => ?_) (fun d => ?_)
  · have d1 : j ≤ f.p.length := by simp at d; omega
    have k6 : j < 9223372036854775807 := by omega
    have dI := eq_true (show (j : Int) ≤ (f.p.length : Int) by omega)
    simp only [d1, dI, go_sem, ↓reduceIte, Nat.reduceEqDiff, Nat.reduceBEq, Nat.reduceAdd, Nat.reduceLeDiff, Nat.reduceLT, reduceCtorEq, Nat.reduceMul, Nat.reduceSub, Int.reduceEq, Int.reduceLT, Int.reduceLE, Int.reduceToNat]
    refine dCallR.f (fun _ hp' _ => h3 j hp' _) ?_
    simp only [d1, dI, go_sem, ↓reduceIte, Nat.reduceEqDiff, Nat.reduceBEq, Nat.reduceAdd, Nat.reduceLeDiff, Nat.reduceLT, reduceCtorEq, Nat.reduceMul, Nat.reduceSub, Int.reduceEq, Int.reduceLT, Int.reduceLE, Int.reduceToNat]
    refine dCallR.f (fun _ hp' _ => h4 j hp' _) ?_
    simp only [d1, wr64s j k6, go_sem, ↓reduceIte, Nat.reduceEqDiff, Nat.reduceBEq, Nat.reduceAdd, Nat.reduceLeDiff, Nat.reduceLT, reduceCtorEq, Nat.reduceMul, Nat.reduceSub, Int.reduceEq, Int.reduceLT, Int.reduceLE, Int.reduceToNat]
    refine ⟨j + 1, by omega, by omega, weakG_ok ?_ (SubG.cons ?_ ?_ ?_ (SubG.cons ?_ ?_ ?_ (SubG.cons ?_ ?_ ?_ (SubG.base hf ?_ ?_ ?_))))⟩
    all_goals first | (simp only [go_sem, ↓reduceIte, Nat.reduceEqDiff, Nat.reduceBEq, Nat.reduceAdd, Nat.reduceLeDiff, Nat.reduceLT, reduceCtorEq, Nat.reduceMul, Nat.reduceSub, Int.reduceEq, Int.reduceLT, Int.reduceLE, Int.reduceToNat]; done) | (dsimp only; omega) | trace_state
  clear d hj
  simp only [go_sem, ↓reduceIte, Nat.reduceEqDiff, Nat.reduceBEq, Nat.reduceAdd, Nat.reduceLeDiff, Nat.reduceLT, reduceCtorEq, Nat.reduceMul, Nat.reduceSub, Int.reduceEq, Int.reduceLT, Int.reduceLE, Int.reduceToNat]
  refine loopg (fun q : Nat => ⟨[(2, .ds (mapC valC r)), (3, .bx m 0), (4, .bx (m + 1) 0), (7, .bx (m + 2) 0), (9, .i .i64 q)], (m + 2, .bx [.i .i64 T.k, .i .i64 T.n, .s T.s, .ds (mapC valC T.items), .ds (stC T.keys)]) :: (m + 1, .bx [.i .i64 v.k, .i .i64 v.n, .s v.s, .ds (mapC valC v.items), .ds (stC v.keys)]) :: (m, .bx [.i .i64 f.g, .i .i64 f.d, .ds (mapC hopC f.p), .s f.t, .ds (stC f.ks), .i .i64 f.ky, .ds (mapC pkC f.pk), .ds (mapC in1 f.af)]) :: hp, m + 3⟩)
    (fun j => j ≤ r.length ∧ ∀ i x, i < j → r[i]? = some x → tyB x f.t = true → Wh f.pk f.t x) (fun q => r.length - q) 0 ?_ ?_ (fun j hj => ?_)
  · exact ⟨Nat.zero_le _, fun i x hi => absurd hi (Nat.not_lt_zero _)⟩
  · refine weak_ok ?_ (Sub.cons ?_ (Sub.cons ?_ (Sub.cons ?_ (Sub.base hf ?_)))) (Nat.le_refl _)
    all_goals first | (simp only [go_sem, ↓reduceIte, Nat.reduceEqDiff, Nat.reduceBEq, Nat.reduceAdd, Nat.reduceLeDiff, Nat.reduceLT, reduceCtorEq, Nat.reduceMul, Nat.reduceSub, Int.reduceEq, Int.reduceLT, Int.reduceLE, Int.reduceToNat]; done) | (dsimp only; omega) | trace_state
  obtain ⟨hj1, hj2⟩ := hj
  simp only [go_sem, ↓reduceIte, Nat.reduceEqDiff, Nat.reduceBEq, Nat.reduceAdd, Nat.reduceLeDiff, Nat.reduceLT, reduceCtorEq, Nat.reduceMul, Nat.reduceSub, Int.reduceEq, Int.reduceLT, Int.reduceLE, Int.reduceToNat]
  refine cdK_of (fun d => ?_) (fun d => ?_)
  · have d1 : j < r.length := by simpa using d
    obtain ⟨x, ex⟩ : ∃ x, r[j]? = some x := ⟨r[j], by simp⟩
    have k6 : j < 9223372036854775807 := by omega
    have fx' : x.Fit := wtV_fit x (by have := hr x (List.mem_of_getElem? ex); omega)
    have ht := typed_ok x fx' f.t
    obtain ⟨B, hB⟩ : ∃ B, tyB x f.t = B := ⟨_, rfl⟩
    rw [hB] at ht
    obtain ⟨b', hb'⟩ := exB (Wh f.pk f.t x)
    have hw' := whole_ok f.pk (by omega) f.t x fx' b' hb'
    simp only [d1, getK_s (mapC_get valC ex), go_sem, ↓reduceIte, Nat.reduceEqDiff, Nat.reduceBEq, Nat.reduceAdd, Nat.reduceLeDiff, Nat.reduceLT, reduceCtorEq, Nat.reduceMul, Nat.reduceSub, Int.reduceEq, Int.reduceLT, Int.reduceLE, Int.reduceToNat]
    refine dCallR.f (fun _ hp' _ => ht hp' _) ?_
    cases B with
    | false =>
      simp only [d1, getK_s (mapC_get valC ex), mapC_get valC ex, go_sem, ↓reduceIte, Nat.reduceEqDiff, Nat.reduceBEq, Nat.reduceAdd, Nat.reduceLeDiff, Nat.reduceLT, reduceCtorEq, Nat.reduceMul, Nat.reduceSub, Int.reduceEq, Int.reduceLT, Int.reduceLE, Int.reduceToNat]
      refine dCall.no ?_
      simp only [wr64s j k6, go_sem, ↓reduceIte, Nat.reduceEqDiff, Nat.reduceBEq, Nat.reduceAdd, Nat.reduceLeDiff, Nat.reduceLT, reduceCtorEq, Nat.reduceMul, Nat.reduceSub, Int.reduceEq, Int.reduceLT, Int.reduceLE, Int.reduceToNat]
      refine ⟨j + 1, ⟨d1, fun i y hi hy hty => ?_⟩, by omega, weakG_ok ?_ (SubG.cons ?_ ?_ ?_ (SubG.cons ?_ ?_ ?_ (SubG.cons ?_ ?_ ?_ (SubG.base hf ?_ ?_ ?_))))⟩
      · rcases Nat.lt_or_ge i j with q | q
        · exact hj2 i y q hy hty
        · have : i = j := by omega
          subst this
          rw [ex] at hy
          cases hy
          rw [hB] at hty
          cases hty
      all_goals first | (simp only [go_sem, ↓reduceIte, Nat.reduceEqDiff, Nat.reduceBEq, Nat.reduceAdd, Nat.reduceLeDiff, Nat.reduceLT, reduceCtorEq, Nat.reduceMul, Nat.reduceSub, Int.reduceEq, Int.reduceLT, Int.reduceLE, Int.reduceToNat]; done) | (dsimp only; omega) | trace_state
    | true =>
      simp only [d1, getK_s (mapC_get valC ex), mapC_get valC ex, go_sem, ↓reduceIte, Nat.reduceEqDiff, Nat.reduceBEq, Nat.reduceAdd, Nat.reduceLeDiff, Nat.reduceLT, reduceCtorEq, Nat.reduceMul, Nat.reduceSub, Int.reduceEq, Int.reduceLT, Int.reduceLE, Int.reduceToNat]
      refine dCall.f (fun _ hp' _ => hw' hp' _) ?_
      simp only [go_sem, ↓reduceIte, Nat.reduceEqDiff, Nat.reduceBEq, Nat.reduceAdd, Nat.reduceLeDiff, Nat.reduceLT, reduceCtorEq, Nat.reduceMul, Nat.reduceSub, Int.reduceEq, Int.reduceLT, Int.reduceLE, Int.reduceToNat]
      refine cdK_of (fun e => ?_) (fun e => ?_)
      · simp only [go_sem, ↓reduceIte, Nat.reduceEqDiff, Nat.reduceBEq, Nat.reduceAdd, Nat.reduceLeDiff, Nat.reduceLT, reduceCtorEq, Nat.reduceMul, Nat.reduceSub, Int.reduceEq, Int.reduceLT, Int.reduceLE, Int.reduceToNat]
        refine vcCall.f (ex36_ok _ _) ?_
        simp only [go_sem, ↓reduceIte, Nat.reduceEqDiff, Nat.reduceBEq, Nat.reduceAdd, Nat.reduceLeDiff, Nat.reduceLT, reduceCtorEq, Nat.reduceMul, Nat.reduceSub, Int.reduceEq, Int.reduceLT, Int.reduceLE, Int.reduceToNat]
      · have e : b' = true := by simpa using e
        simp only [wr64s j k6, go_sem, ↓reduceIte, Nat.reduceEqDiff, Nat.reduceBEq, Nat.reduceAdd, Nat.reduceLeDiff, Nat.reduceLT, reduceCtorEq, Nat.reduceMul, Nat.reduceSub, Int.reduceEq, Int.reduceLT, Int.reduceLE, Int.reduceToNat]
        refine ⟨j + 1, ⟨d1, fun i y hi hy hty => ?_⟩, by omega, weakG_ok ?_ (SubG.cons ?_ ?_ ?_ (SubG.cons ?_ ?_ ?_ (SubG.cons ?_ ?_ ?_ (SubG.base hf ?_ ?_ ?_))))⟩
        · rcases Nat.lt_or_ge i j with q | q
          · exact hj2 i y q hy hty
          · have : i = j := by omega
            subst this
            rw [ex] at hy
            cases hy
            exact hb'.1 e
        all_goals first | (simp only [go_sem, ↓reduceIte, Nat.reduceEqDiff, Nat.reduceBEq, Nat.reduceAdd, Nat.reduceLeDiff, Nat.reduceLT, reduceCtorEq, Nat.reduceMul, Nat.reduceSub, Int.reduceEq, Int.reduceLT, Int.reduceLE, Int.reduceToNat]; done) | (dsimp only; omega) | trace_state
  have hall : ∀ x ∈ r, tyB x f.t = true → Wh f.pk f.t x := fun x hx => by
    obtain ⟨i, hi, rfl⟩ := List.mem_iff_getElem.1 hx
    refine hj2 i _ ?_ (by simp)
    simp at d
    omega
  have hkw := hkw hall
  clear d hj1 hj2
  simp only [go_sem, ↓reduceIte, Nat.reduceEqDiff, Nat.reduceBEq, Nat.reduceAdd, Nat.reduceLeDiff, Nat.reduceLT, reduceCtorEq, Nat.reduceMul, Nat.reduceSub, Int.reduceEq, Int.reduceLT, Int.reduceLE, Int.reduceToNat]
  refine vcCall.f (h5 _ _) ?_
  simp only [go_sem, ↓reduceIte, Nat.reduceEqDiff, Nat.reduceBEq, Nat.reduceAdd, Nat.reduceLeDiff, Nat.reduceLT, reduceCtorEq, Nat.reduceMul, Nat.reduceSub, Int.reduceEq, Int.reduceLT, Int.reduceLE, Int.reduceToNat]
  refine loopg (fun q : Nat => ⟨[(3, .bx m 0), (4, .bx (m + 1) 0), (10, .i .i64 ((O.take q).filter fun y => tyB y f.t).length), (11, .ds (mapC valC O)), (12, .i .i64 q)], (m + 2, .bx [.i .i64 T.k, .i .i64 T.n, .s T.s, .ds (mapC valC T.items), .ds (stC T.keys)]) :: (m + 1, .bx [.i .i64 v.k, .i .i64 v.n, .s v.s, .ds (mapC valC v.items), .ds (stC v.keys)]) :: (m, .bx [.i .i64 f.g, .i .i64 f.d, .ds (mapC hopC f.p), .s f.t, .ds (stC f.ks), .i .i64 f.ky, .ds (mapC pkC f.pk), .ds (mapC in1 f.af)]) :: hp, m + 3⟩)
    (fun j => j ≤ O.length) (fun q => O.length - q) 0 ?_ ?_ (fun j hj => ?_)
  · exact Nat.zero_le _
  · refine weak_ok ?_ (Sub.cons ?_ (Sub.cons ?_ (Sub.cons ?_ (Sub.base hf ?_)))) (Nat.le_refl _)
    all_goals first | (simp only [go_sem, ↓reduceIte, Nat.reduceEqDiff, Nat.reduceBEq, Nat.reduceAdd, Nat.reduceLeDiff, Nat.reduceLT, reduceCtorEq, Nat.reduceMul, Nat.reduceSub, Int.reduceEq, Int.reduceLT, Int.reduceLE, Int.reduceToNat]; done) | (dsimp only; omega) | trace_state
  simp only [go_sem, ↓reduceIte, Nat.reduceEqDiff, Nat.reduceBEq, Nat.reduceAdd, Nat.reduceLeDiff, Nat.reduceLT, reduceCtorEq, Nat.reduceMul, Nat.reduceSub, Int.reduceEq, Int.reduceLT, Int.reduceLE, Int.reduceToNat]
  refine cdK_of (fun d => ?_) (fun d => ?_)
  · have d1 : j < O.length := by simpa using d
    obtain ⟨x, ex⟩ : ∃ x, O[j]? = some x := ⟨O[j], by simp⟩
    have k6 : j < 9223372036854775807 := by omega
    have fx' : x.Fit := hof x (List.mem_of_getElem? ex)
    have ht := typed_ok x fx' f.t
    have hty := hkw x (List.mem_of_getElem? ex)
    obtain ⟨B, hB⟩ : ∃ B, tyB x f.t = B := ⟨_, rfl⟩
    rw [hB] at ht hty
    have hsn : (O.take (j + 1)).filter (fun y => tyB y f.t) = (O.take j).filter (fun y => tyB y f.t) ++ if B = true then [x] else [] := by
      rw [← take_snoc ex, List.filter_append, List.filter_cons, List.filter_nil, hB]
    have hcn : ((O.take j).filter fun y => tyB y f.t).length < 9223372036854775807 := by
      have := List.length_filter_le (fun y => tyB y f.t) (O.take j)
      rw [List.length_take] at this
      omega
    obtain ⟨N, hN⟩ : ∃ N, ((O.take j).filter fun y => tyB y f.t).length = N := ⟨_, rfl⟩
    rw [hN] at hcn
    simp only [d1, getK_s (mapC_get valC ex), hN, go_sem, ↓reduceIte, Nat.reduceEqDiff, Nat.reduceBEq, Nat.reduceAdd, Nat.reduceLeDiff, Nat.reduceLT, reduceCtorEq, Nat.reduceMul, Nat.reduceSub, Int.reduceEq, Int.reduceLT, Int.reduceLE, Int.reduceToNat]
    refine dCallR.f (fun _ hp' _ => ht hp' _) ?_
    cases B with
    | false =>
      have hN' : ((O.take (j + 1)).filter fun y => tyB y f.t).length = N := by rw [hsn, List.length_append, hN]; simp
      simp only [wr64s j k6, go_sem, ↓reduceIte, Nat.reduceEqDiff, Nat.reduceBEq, Nat.reduceAdd, Nat.reduceLeDiff, Nat.reduceLT, reduceCtorEq, Nat.reduceMul, Nat.reduceSub, Int.reduceEq, Int.reduceLT, Int.reduceLE, Int.reduceToNat]
      refine ⟨j + 1, d1, by omega, weakG_ok ?_ (SubG.cons ?_ ?_ ?_ (SubG.cons ?_ ?_ ?_ (SubG.cons ?_ ?_ ?_ (SubG.base hf ?_ ?_ ?_))))⟩
      all_goals first | ((simp only [hN', go_sem, ↓reduceIte, Nat.reduceEqDiff, Nat.reduceBEq, Nat.reduceAdd, Nat.reduceLeDiff, Nat.reduceLT, reduceCtorEq, Nat.reduceMul, Nat.reduceSub, Int.reduceEq, Int.reduceLT, Int.reduceLE, Int.reduceToNat]); done) | (dsimp only; omega) | trace_state
    | true =>
      have hN' : ((O.take (j + 1)).filter fun y => tyB y f.t).length = N + 1 := by rw [hsn, List.length_append, hN]; simp
      have hw' := whole_ok f.pk (by omega) f.t x fx' true (by simp [hty rfl])
      simp only [d1, getK_s (mapC_get valC ex), wr64s N hcn, go_sem, ↓reduceIte, Nat.reduceEqDiff, Nat.reduceBEq, Nat.reduceAdd, Nat.reduceLeDiff, Nat.reduceLT, reduceCtorEq, Nat.reduceMul, Nat.reduceSub, Int.reduceEq, Int.reduceLT, Int.reduceLE, Int.reduceToNat]
      refine dCallR.f (fun _ hp' _ => hw' hp' _) ?_
      simp only [wr64s j k6, go_sem, ↓reduceIte, Nat.reduceEqDiff, Nat.reduceBEq, Nat.reduceAdd, Nat.reduceLeDiff, Nat.reduceLT, reduceCtorEq, Nat.reduceMul, Nat.reduceSub, Int.reduceEq, Int.reduceLT, Int.reduceLE, Int.reduceToNat]
      refine ⟨j + 1, d1, by omega, weakG_ok ?_ (SubG.cons ?_ ?_ ?_ (SubG.cons ?_ ?_ ?_ (SubG.cons ?_ ?_ ?_ (SubG.base hf ?_ ?_ ?_))))⟩
      all_goals first | ((simp only [hN', go_sem, ↓reduceIte, Nat.reduceEqDiff, Nat.reduceBEq, Nat.reduceAdd, Nat.reduceLeDiff, Nat.reduceLT, reduceCtorEq, Nat.reduceMul, Nat.reduceSub, Int.reduceEq, Int.reduceLT, Int.reduceLE, Int.reduceToNat]); done) | (dsimp only; omega) | trace_state
  · have d : j = O.length := by simp at d; omega
    subst d
    rw [List.take_length, hkc]
    simp only [go_sem, ↓reduceIte, Nat.reduceEqDiff, Nat.reduceBEq, Nat.reduceAdd, Nat.reduceLeDiff, Nat.reduceLT, reduceCtorEq, Nat.reduceMul, Nat.reduceSub, Int.reduceEq, Int.reduceLT, Int.reduceLE, Int.reduceToNat]
    refine vcCall.f (h6 _ _) ?_
    simp only [go_sem, ↓reduceIte, Nat.reduceEqDiff, Nat.reduceBEq, Nat.reduceAdd, Nat.reduceLeDiff, Nat.reduceLT, reduceCtorEq, Nat.reduceMul, Nat.reduceSub, Int.reduceEq, Int.reduceLT, Int.reduceLE, Int.reduceToNat]
    refine gCall_t (vcCall.f (ex36_ok _ _) ?_)
    simp only [go_sem, ↓reduceIte, Nat.reduceEqDiff, Nat.reduceBEq, Nat.reduceAdd, Nat.reduceLeDiff, Nat.reduceLT, reduceCtorEq, Nat.reduceMul, Nat.reduceSub, Int.reduceEq, Int.reduceLT, Int.reduceLE, Int.reduceToNat]
end Go.Proofs.Ytmcgjccheehehaa
