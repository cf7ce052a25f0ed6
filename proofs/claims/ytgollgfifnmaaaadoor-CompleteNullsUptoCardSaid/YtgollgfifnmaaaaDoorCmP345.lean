/-
  The parts CmN CmW of the proof, in one file. Conditions: none.
-/
import Derived.Test.YtgollgfifnmaaaaDoorCmP344
namespace Go.Proofs.YtgollgfifnmaaaaDoor
open Go.Eng
set_option linter.unusedVariables false
set_option linter.unusedSimpArgs false
set_option maxRecDepth 20000
set_option maxHeartbeats 1000000
def sData : ByteArray := ⟨#[100, 97, 116, 97]⟩
def sErrors : ByteArray := ⟨#[101, 114, 114, 111, 114, 115]⟩
def sMessage : ByteArray := ⟨#[109, 101, 115, 115, 97, 103, 101]⟩
def sPath : ByteArray := ⟨#[112, 97, 116, 104]⟩
def errV (p : Prb) : Val := obR [sMessage, sPath] [txV p.t, liV p.p]
def respV (data : Val) (l : List Prb) : Val := if l = [] then obR [sData] [data] else obR [sData, sErrors] [data, liV (l.map errV)]
theorem List_ok (l : List Val) (hl : l.length * 80 ≤ 140737488355327) (hxs : ∀ x ∈ l, x.Fit) (hp : CH) (m : Nat) : MeetsF Tryd.prog 48 hp m [.ds (mapC valC l)] (vx (liV l)) := by
  refine meetsF Tryd.func48 (by kernel_rfl) cc48 cr48 rfl fun hf => ?_; unfold ck48
  simp only [go_sem, ↓reduceIte, Nat.reduceEqDiff, Nat.reduceBEq, Nat.reduceAdd, Nat.reduceLeDiff, Nat.reduceLT, reduceCtorEq, Nat.reduceMul, Nat.reduceSub, Int.reduceEq, Int.reduceLT, Int.reduceLE, Int.reduceToNat]
  refine vcCall.f (copies_ok l hl (fun x hx hp m => copy_ok x (hxs x hx) hp m) _ _) ?_
  simp only [go_sem, ↓reduceIte, Nat.reduceEqDiff, Nat.reduceBEq, Nat.reduceAdd, Nat.reduceLeDiff, Nat.reduceLT, reduceCtorEq, Nat.reduceMul, Nat.reduceSub, Int.reduceEq, Int.reduceLT, Int.reduceLE, Int.reduceToNat]
  rfl
theorem cobject_ok (a : ByteArray) (x : Val) (b : ByteArray) (y : Val) (hp : CH) (m : Nat) : MeetsF Tryd.prog 46 hp m [.s a, vx x, .s b, vx y] (vx (obR [a, b] [x, y])) := by
  refine meetsF Tryd.func46 (by kernel_rfl) cc46 cr46 rfl fun hf => ?_; unfold ck46
  simp only [go_sem, ↓reduceIte, Nat.reduceEqDiff, Nat.reduceBEq, Nat.reduceAdd, Nat.reduceLeDiff, Nat.reduceLT, reduceCtorEq, Nat.reduceMul, Nat.reduceSub, Int.reduceEq, Int.reduceLT, Int.reduceLE, Int.reduceToNat]
  simp only [obR, liV, Val.k_mk, Val.n_mk, Val.s_mk, Val.items_mk, Val.keys_mk, mapC_cons, mapC_nil, valC_eq]
  rfl
def PrbsFit (l : List Prb) : Prop := l.length ≤ 1000000000 ∧ ∀ p ∈ l, p.p.length ≤ 1000000000 ∧ ∀ x ∈ p.p, x.Fit
theorem tResp_ok (data : Val) (hdf : data.Fit) (l : List Prb) (hl : PrbsFit l) (hp : CH) (m : Nat) : MeetsF Tryd.prog 19 hp m [vx data, .ds (mapC prbC l)] (vx (respV data l)) := by
  have hlen := hl.1
  have hcp := copy_ok data hdf
  by_cases h0 : l = []
  · subst h0
    have hR : respV data [] = obR [sData] [data] := if_pos rfl
    rw [hR]
    refine meetsF Tryd.func19 (by kernel_rfl) cc919 cr919 rfl fun hf => ?_; unfold ck919
    simp only [go_sem, ↓reduceIte, Nat.reduceEqDiff, Nat.reduceBEq, Nat.reduceAdd, Nat.reduceLeDiff, Nat.reduceLT, reduceCtorEq, Nat.reduceMul, Nat.reduceSub, Int.reduceEq, Int.reduceLT, Int.reduceLE, Int.reduceToNat]
    refine vcCall.f (hcp _ _) ?_
    simp only [go_sem, ↓reduceIte, Nat.reduceEqDiff, Nat.reduceBEq, Nat.reduceAdd, Nat.reduceLeDiff, Nat.reduceLT, reduceCtorEq, Nat.reduceMul, Nat.reduceSub, Int.reduceEq, Int.reduceLT, Int.reduceLE, Int.reduceToNat]
    simp only [obR, liV, Val.k_mk, Val.n_mk, Val.s_mk, Val.items_mk, Val.keys_mk, mapC_cons, mapC_nil, valC_eq]
    rfl
  have hlp : 0 < l.length := List.length_pos_iff.2 h0
  have hR : respV data l = obR [sData, sErrors] [data, liV (l.map errV)] := if_neg h0
  rw [hR]
  have hz : (decide ((l.length : Int) = 0)) = false := by simp; omega
  refine meetsF Tryd.func19 (by kernel_rfl) cc919 cr919 rfl fun hf => ?_; unfold ck919
  simp (disch := omega) only [ite_ne, hz, go_sem, ↓reduceIte, Nat.reduceEqDiff, Nat.reduceBEq, Nat.reduceAdd, Nat.reduceLeDiff, Nat.reduceLT, reduceCtorEq, Nat.reduceMul, Nat.reduceSub, Int.reduceEq, Int.reduceLT, Int.reduceLE, Int.reduceToNat]
  refine loop (fun p : Nat × Nat => ⟨[(2, .bx m 0), (4, .bx (m + 1) 0), (5, .bx (m + 2) 0), (17, .ds (mapC prbC l)), (18, .i .i64 l.length), (19, .i .i64 p.1)],
      (m + 2, .bx [.i .i64 5, .i .i64 0, .s ⟨#[]⟩, .rw (m + 3) p.1 p.1, .e0]) :: (m + 3, .rw p.1 5 (mapC valC ((l.take p.1).map errV))) :: (m + 1, .bx [.i .i64 0, .i .i64 0, .s ⟨#[]⟩, .e0, .e0]) :: (m, .bx [.i .i64 data.k, .i .i64 data.n, .s data.s, .ds (mapC valC data.items), .ds (stC data.keys)]) :: hp, p.2⟩)
    (fun p => p.1 ≤ l.length ∧ m + 4 ≤ p.2) (fun p => l.length - p.1) (0, m + 4) ?_ ?_ (fun ⟨j, k⟩ hj => ?_)
  · exact ⟨by simp, by simp⟩
  · refine (weak_b0 (c := m + 2) (i := 3) (m := 5) (cs := [.i .i64 5, .i .i64 0, .s ⟨#[]⟩, .e0, .e0]) ?_ rfl).trans (weak_ok ?_ (Sub.cons ?_ (Sub.cons ?_ (Sub.cons ?_ (Sub.cons ?_ (Sub.base hf ?_))))) (Nat.le_refl _))
    all_goals first
      | ((simp (disch := omega) only [ite_ne, List.take_zero, List.map_nil, go_sem, ↓reduceIte, Nat.reduceEqDiff, Nat.reduceBEq, Nat.reduceAdd, Nat.reduceLeDiff, Nat.reduceLT, reduceCtorEq, Nat.reduceMul, Nat.reduceSub, Int.reduceEq, Int.reduceLT, Int.reduceLE, Int.reduceToNat])
         first | done | rfl)
  dsimp only at hj
  obtain ⟨hj1, hj2⟩ := hj
  have oL : ((l.take j).map errV).length = j := by simp; omega
  simp (disch := omega) only [ite_ne, oL, go_sem, ↓reduceIte, Nat.reduceEqDiff, Nat.reduceBEq, Nat.reduceAdd, Nat.reduceLeDiff, Nat.reduceLT, reduceCtorEq, Nat.reduceMul, Nat.reduceSub, Int.reduceEq, Int.reduceLT, Int.reduceLE, Int.reduceToNat]
  refine cdK_of (fun q => ?_) (fun q => ?_)
  · have q : j < l.length := by simpa using q
    obtain ⟨x, ex⟩ : ∃ x, l[j]? = some x := ⟨l[j], by simp [q]⟩
    have hxf := hl.2 x (List.mem_of_getElem? ex)
    have e1 : (l.take (j + 1)).map errV = (l.take j).map errV ++ [obR [sMessage, sPath] [txV x.t, liV x.p]] := by rw [← take_snoc ex, List.map_append]; rfl
    simp (disch := omega) only [ite_ne, q, getK_s (mapC_get prbC ex), go_sem, ↓reduceIte, Nat.reduceEqDiff, Nat.reduceBEq, Nat.reduceAdd, Nat.reduceLeDiff, Nat.reduceLT, reduceCtorEq, Nat.reduceMul, Nat.reduceSub, Int.reduceEq, Int.reduceLT, Int.reduceLE, Int.reduceToNat]
    refine dCallR.f (fun _ hp' e => Text_ok x.t _ _) ?_
    simp (disch := omega) only [ite_ne, go_sem, ↓reduceIte, Nat.reduceEqDiff, Nat.reduceBEq, Nat.reduceAdd, Nat.reduceLeDiff, Nat.reduceLT, reduceCtorEq, Nat.reduceMul, Nat.reduceSub, Int.reduceEq, Int.reduceLT, Int.reduceLE, Int.reduceToNat]
    refine dCallR.f (fun _ hp' e => List_ok x.p (by omega) hxf.2 _ _) ?_
    simp (disch := omega) only [ite_ne, go_sem, ↓reduceIte, Nat.reduceEqDiff, Nat.reduceBEq, Nat.reduceAdd, Nat.reduceLeDiff, Nat.reduceLT, reduceCtorEq, Nat.reduceMul, Nat.reduceSub, Int.reduceEq, Int.reduceLT, Int.reduceLE, Int.reduceToNat]
    refine dCallR.f (fun _ hp' e => cobject_ok sMessage (txV x.t) sPath (liV x.p) _ _) ?_
    simp (disch := omega) only [ite_ne, oL, go_sem, ↓reduceIte, Nat.reduceEqDiff, Nat.reduceBEq, Nat.reduceAdd, Nat.reduceLeDiff, Nat.reduceLT, reduceCtorEq, Nat.reduceMul, Nat.reduceSub, Int.reduceEq, Int.reduceLT, Int.reduceLE, Int.reduceToNat]
    refine ⟨⟨by omega, by omega⟩, (j + 1, _), ⟨by dsimp only; omega, by dsimp only; omega⟩, by dsimp only; omega, weak_ok ?_ (Sub.cons ?_ (Sub.cons ?_ (Sub.cons ?_ (Sub.cons ?_ (Sub.base hf ?_))))) (Nat.le_refl _)⟩
    all_goals
      simp (disch := omega) only [ite_ne, e1, wr64s j (by omega), go_sem, ↓reduceIte, Nat.reduceEqDiff, Nat.reduceBEq, Nat.reduceAdd, Nat.reduceLeDiff, Nat.reduceLT, reduceCtorEq, Nat.reduceMul, Nat.reduceSub, Int.reduceEq, Int.reduceLT, Int.reduceLE, Int.reduceToNat]
  · have q : j = l.length := by simp at q; omega
    subst q
    rw [List.take_length]
    rw [List.take_length] at oL
    simp (disch := omega) only [ite_ne, go_sem, ↓reduceIte, Nat.reduceEqDiff, Nat.reduceBEq, Nat.reduceAdd, Nat.reduceLeDiff, Nat.reduceLT, reduceCtorEq, Nat.reduceMul, Nat.reduceSub, Int.reduceEq, Int.reduceLT, Int.reduceLE, Int.reduceToNat]
    refine wk_of (weak_shb (c := m + 2) (i := 3) (k := m + 3) (g := l.length) (len := l.length) (m := 5) (cs := [.i .i64 5, .i .i64 0, .s ⟨#[]⟩, .rw (m + 3) l.length l.length, .e0]) (l := mapC valC (l.map errV)) ?_ rfl ?_ (by rw [mapC_len]; omega)) ?_
    · simp (disch := omega) only [ite_ne, go_sem, ↓reduceIte, Nat.reduceEqDiff, Nat.reduceBEq, Nat.reduceAdd, Nat.reduceLeDiff, Nat.reduceLT, reduceCtorEq, Nat.reduceMul, Nat.reduceSub, Int.reduceEq, Int.reduceLT, Int.reduceLE, Int.reduceToNat]
    · simp (disch := omega) only [ite_ne, go_sem, ↓reduceIte, Nat.reduceEqDiff, Nat.reduceBEq, Nat.reduceAdd, Nat.reduceLeDiff, Nat.reduceLT, reduceCtorEq, Nat.reduceMul, Nat.reduceSub, Int.reduceEq, Int.reduceLT, Int.reduceLE, Int.reduceToNat]
    have ht : (mapC valC (l.map errV)).take l.length = mapC valC (l.map errV) := List.take_of_length_le (by rw [mapC_len]; omega)
    simp only [List.set_cons_succ, List.set_cons_zero, ht]
    simp (disch := omega) only [ite_ne, go_sem, ↓reduceIte, Nat.reduceEqDiff, Nat.reduceBEq, Nat.reduceAdd, Nat.reduceLeDiff, Nat.reduceLT, reduceCtorEq, Nat.reduceMul, Nat.reduceSub, Int.reduceEq, Int.reduceLT, Int.reduceLE, Int.reduceToNat]
    refine dCallR.f (fun _ hp' e => hcp _ _) ?_
    simp (disch := omega) only [ite_ne, oL, go_sem, ↓reduceIte, Nat.reduceEqDiff, Nat.reduceBEq, Nat.reduceAdd, Nat.reduceLeDiff, Nat.reduceLT, reduceCtorEq, Nat.reduceMul, Nat.reduceSub, Int.reduceEq, Int.reduceLT, Int.reduceLE, Int.reduceToNat]
    refine dCallR.f (fun _ hp' e => (cobject_ok sData data sErrors (liV (l.map errV)) _ _).cv ?_) ?_
    case refine_2 =>
      simp (disch := omega) only [ite_ne, go_sem, ↓reduceIte, Nat.reduceEqDiff, Nat.reduceBEq, Nat.reduceAdd, Nat.reduceLeDiff, Nat.reduceLT, reduceCtorEq, Nat.reduceMul, Nat.reduceSub, Int.reduceEq, Int.reduceLT, Int.reduceLE, Int.reduceToNat]
    all_goals first | rfl | simp [cvT, cvA]
end Go.Proofs.YtgollgfifnmaaaaDoor
namespace Go.Proofs.YtgollgfifnmaaaaDoor
open Go.Eng
set_option linter.unusedVariables false
set_option linter.unusedSimpArgs false
set_option maxRecDepth 20000
set_option maxHeartbeats 1000000
def wgK (lim : Int) : List ByteArray → Int → Int
  | [], a => a
  | k :: r, a => if a ≤ lim then wgK lim r (IntKind.i64.wrap (IntKind.i64.wrap (a + 1) + k.size)) else a
mutual
def wgV (lim : Int) : Val → Int
  | .mk _ _ s i l => wgL lim i (wgK lim l (IntKind.i64.wrap (1 + s.size)))
def wgL (lim : Int) : List Val → Int → Int
  | [], a => a
  | v :: r, a => if a ≤ lim then wgL lim r (IntKind.i64.wrap (a + wgV lim v)) else a
end
theorem wgV_eq (lim : Int) (v : Val) : wgV lim v = wgL lim v.items (wgK lim v.keys (IntKind.i64.wrap (1 + v.s.size))) := by cases v; rw [wgV]; rfl
theorem wgK_at {lim : Int} {l : List ByteArray} {j : Nat} {a : Int} (h : l.length ≤ j ∨ ¬ a ≤ lim) : wgK lim (l.drop j) a = a := by
  cases e : l.drop j with
  | nil => rw [wgK]
  | cons k r =>
    rw [wgK, if_neg]
    rcases h with h | h
    · rw [List.drop_eq_nil_of_le h] at e; cases e
    · exact h
theorem wgL_at {lim : Int} {l : List Val} {j : Nat} {a : Int} (h : l.length ≤ j ∨ ¬ a ≤ lim) : wgL lim (l.drop j) a = a := by
  cases e : l.drop j with
  | nil => rw [wgL]
  | cons k r =>
    rw [wgL, if_neg]
    rcases h with h | h
    · rw [List.drop_eq_nil_of_le h] at e; cases e
    · exact h
theorem weight_of (v : Val) (lim : Int) (hv : v.Fit) (ih : ∀ x ∈ v.items, ∀ hp m, MeetsF Tryd.prog 16 hp m [vx x, .i .i64 lim] (.i .i64 (wgV lim x))) (hp : CH) (m : Nat) :
    MeetsF Tryd.prog 16 hp m [vx v, .i .i64 lim] (.i .i64 (wgV lim v)) := by
  have li := hv.i
  have lk := hv.l
  have e := wgV_eq lim v
  obtain ⟨R, hR⟩ : ∃ R, wgV lim v = R := ⟨_, rfl⟩
  obtain ⟨A, hA⟩ : ∃ A, IntKind.i64.wrap (1 + v.s.size) = A := ⟨_, rfl⟩
  obtain ⟨B, hB⟩ : ∃ B, wgK lim v.keys A = B := ⟨_, rfl⟩
  rw [hR, hA, hB] at e
  rw [hR]
  refine meetsF Tryd.func16 (by kernel_rfl) cc16 cr16 rfl fun hf => ?_; unfold ck16
  simp only [hA, go_sem, ↓reduceIte, Nat.reduceEqDiff, Nat.reduceBEq, Nat.reduceAdd, Nat.reduceLeDiff, Nat.reduceLT, reduceCtorEq, Nat.reduceMul, Nat.reduceSub, Int.reduceEq, Int.reduceLT, Int.reduceLE, Int.reduceToNat]
  refine loopg (fun q : Nat × Int => ⟨[(1, .i .i64 lim), (2, .bx m 0), (5, .i .i64 q.2), (6, .i .i64 q.1)], (m, .bx [.i .i64 v.k, .i .i64 v.n, .s v.s, .ds (mapC valC v.items), .ds (stC v.keys)]) :: hp, m + 1⟩)
    (fun q => q.1 ≤ v.keys.length ∧ wgK lim (v.keys.drop q.1) q.2 = B) (fun q => v.keys.length - q.1) (0, A) ?_ ?_ (fun ⟨j, a⟩ hj => ?_)
  · exact ⟨Nat.zero_le _, hB⟩
  · refine weak_ok ?_ (Sub.cons ?_ (Sub.base hf ?_)) (Nat.le_refl _)
    all_goals first | (simp only [go_sem, ↓reduceIte, Nat.reduceEqDiff, Nat.reduceBEq, Nat.reduceAdd, Nat.reduceLeDiff, Nat.reduceLT, reduceCtorEq, Nat.reduceMul, Nat.reduceSub, Int.reduceEq, Int.reduceLT, Int.reduceLE, Int.reduceToNat]; done) | trace_state
  dsimp only at hj
  obtain ⟨hj1, hj2⟩ := hj
  simp only [go_sem, ↓reduceIte, Nat.reduceEqDiff, Nat.reduceBEq, Nat.reduceAdd, Nat.reduceLeDiff, Nat.reduceLT, reduceCtorEq, Nat.reduceMul, Nat.reduceSub, Int.reduceEq, Int.reduceLT, Int.reduceLE, Int.reduceToNat]
  refine cdK_of (fun d => ?_) (fun d => ?_)
  · simp only [Bool.and_eq_true, decide_eq_true_eq] at d
    have d1 : j < v.keys.length := by omega
    obtain ⟨k, ek⟩ : ∃ k, v.keys[j]? = some k := ⟨v.keys[j], by simp⟩
    rw [drop_at ek, wgK, if_pos d.2] at hj2
    have k6 : j < 9223372036854775807 := by omega
    simp only [d1, getK_s (mapC_get st1 ek), wr64s j k6, go_sem, ↓reduceIte, Nat.reduceEqDiff, Nat.reduceBEq, Nat.reduceAdd, Nat.reduceLeDiff, Nat.reduceLT, reduceCtorEq, Nat.reduceMul, Nat.reduceSub, Int.reduceEq, Int.reduceLT, Int.reduceLE, Int.reduceToNat]
    refine ⟨(j + 1, IntKind.i64.wrap (IntKind.i64.wrap (a + 1) + k.size)), ⟨d1, hj2⟩, by dsimp only; omega, weakG_ok ?_ (SubG.cons ?_ ?_ ?_ (SubG.base hf ?_ ?_ ?_))⟩
    all_goals first | (simp only [go_sem, ↓reduceIte, Nat.reduceEqDiff, Nat.reduceBEq, Nat.reduceAdd, Nat.reduceLeDiff, Nat.reduceLT, reduceCtorEq, Nat.reduceMul, Nat.reduceSub, Int.reduceEq, Int.reduceLT, Int.reduceLE, Int.reduceToNat]; done) | (dsimp only; omega) | trace_state
  · have hab : a = B := by
      rw [← hj2, wgK_at]
      simp only [Bool.and_eq_false_iff, decide_eq_false_iff_not] at d
      omega
    subst hab
    clear hj2 hj1 d
    simp only [go_sem, ↓reduceIte, Nat.reduceEqDiff, Nat.reduceBEq, Nat.reduceAdd, Nat.reduceLeDiff, Nat.reduceLT, reduceCtorEq, Nat.reduceMul, Nat.reduceSub, Int.reduceEq, Int.reduceLT, Int.reduceLE, Int.reduceToNat]
    refine loopg (fun q : Nat × Int => ⟨[(1, .i .i64 lim), (2, .bx m 0), (5, .i .i64 q.2), (7, .i .i64 q.1)], (m, .bx [.i .i64 v.k, .i .i64 v.n, .s v.s, .ds (mapC valC v.items), .ds (stC v.keys)]) :: hp, m + 1⟩)
      (fun q => q.1 ≤ v.items.length ∧ wgL lim (v.items.drop q.1) q.2 = R) (fun q => v.items.length - q.1) (0, a) ?_ ?_ (fun ⟨j, a⟩ hj => ?_)
    · exact ⟨Nat.zero_le _, e.symm⟩
    · refine weak_ok ?_ (Sub.cons ?_ (Sub.base hf ?_)) (Nat.le_refl _)
      all_goals first | (simp only [go_sem, ↓reduceIte, Nat.reduceEqDiff, Nat.reduceBEq, Nat.reduceAdd, Nat.reduceLeDiff, Nat.reduceLT, reduceCtorEq, Nat.reduceMul, Nat.reduceSub, Int.reduceEq, Int.reduceLT, Int.reduceLE, Int.reduceToNat]; done) | (dsimp only; omega) | trace_state
    dsimp only at hj
    obtain ⟨hj1, hj2⟩ := hj
    simp only [go_sem, ↓reduceIte, Nat.reduceEqDiff, Nat.reduceBEq, Nat.reduceAdd, Nat.reduceLeDiff, Nat.reduceLT, reduceCtorEq, Nat.reduceMul, Nat.reduceSub, Int.reduceEq, Int.reduceLT, Int.reduceLE, Int.reduceToNat]
    refine cdK_of (fun d => ?_) (fun d => ?_)
    · simp only [Bool.and_eq_true, decide_eq_true_eq] at d
      have d1 : j < v.items.length := by omega
      obtain ⟨x, ex⟩ : ∃ x, v.items[j]? = some x := ⟨v.items[j], by simp⟩
      rw [drop_at ex, wgL, if_pos d.2] at hj2
      have k6 : j < 9223372036854775807 := by omega
      have hx := ih x (List.mem_of_getElem? ex)
      simp only [d1, getK_s (mapC_get valC ex), go_sem, ↓reduceIte, Nat.reduceEqDiff, Nat.reduceBEq, Nat.reduceAdd, Nat.reduceLeDiff, Nat.reduceLT, reduceCtorEq, Nat.reduceMul, Nat.reduceSub, Int.reduceEq, Int.reduceLT, Int.reduceLE, Int.reduceToNat]
      refine vcCall.f (hx _ _) ?_
      simp only [wr64s j k6, go_sem, ↓reduceIte, Nat.reduceEqDiff, Nat.reduceBEq, Nat.reduceAdd, Nat.reduceLeDiff, Nat.reduceLT, reduceCtorEq, Nat.reduceMul, Nat.reduceSub, Int.reduceEq, Int.reduceLT, Int.reduceLE, Int.reduceToNat]
      refine ⟨(j + 1, IntKind.i64.wrap (a + wgV lim x)), ⟨d1, hj2⟩, by dsimp only; omega, weakG_ok ?_ (SubG.cons ?_ ?_ ?_ (SubG.base hf ?_ ?_ ?_))⟩
      all_goals first | (simp only [go_sem, ↓reduceIte, Nat.reduceEqDiff, Nat.reduceBEq, Nat.reduceAdd, Nat.reduceLeDiff, Nat.reduceLT, reduceCtorEq, Nat.reduceMul, Nat.reduceSub, Int.reduceEq, Int.reduceLT, Int.reduceLE, Int.reduceToNat]; done) | (dsimp only; omega) | trace_state
    · have hab : a = R := by
        rw [← hj2, wgL_at]
        simp only [Bool.and_eq_false_iff, decide_eq_false_iff_not] at d
        omega
      subst hab
      simp only [go_sem, ↓reduceIte, Nat.reduceEqDiff, Nat.reduceBEq, Nat.reduceAdd, Nat.reduceLeDiff, Nat.reduceLT, reduceCtorEq, Nat.reduceMul, Nat.reduceSub, Int.reduceEq, Int.reduceLT, Int.reduceLE, Int.reduceToNat]
theorem weight_ok (lim : Int) (v : Val) : v.Fit → ∀ hp m, MeetsF Tryd.prog 16 hp m [vx v, .i .i64 lim] (.i .i64 (wgV lim v)) :=
  Val.ind (Q := fun v => v.Fit → ∀ hp m, MeetsF Tryd.prog 16 hp m [vx v, .i .i64 lim] (.i .i64 (wgV lim v))) (fun v ih hv => weight_of v lim hv fun x hx => ih x hx (hv.x hx)) v
end Go.Proofs.YtgollgfifnmaaaaDoor
