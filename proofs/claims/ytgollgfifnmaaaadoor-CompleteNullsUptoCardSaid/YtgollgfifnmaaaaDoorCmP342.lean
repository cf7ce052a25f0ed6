/-
  The parts CmB of the proof, in one file. Conditions: none.
-/
import Derived.Test.YtgollgfifnmaaaaDoorCmP341
namespace Go.Proofs.YtgollgfifnmaaaaDoor
open Go.Eng
set_option linter.unusedVariables false
set_option linter.unusedSimpArgs false
set_option maxRecDepth 20000
/-- Picks of one type have different keys; and types are without two outer wrappers of one kind. -/
def RgtW : List Int → Prop
  | [] => True
  | [_] => True
  | a :: b :: r => ¬ (a = 1 ∧ b = 1) ∧ RgtW (b :: r)
inductive Good : List Pk → Prop
  | mk (l : List Pk) : (∀ (i j : Nat) p q, i < j → l[i]? = some p → l[j]? = some q → ¬ (p.on = q.on ∧ p.key = q.key)) → (∀ p ∈ l, RgtW p.tw) → (∀ p ∈ l, Good p.picks) → Good l
theorem Good.d {l : List Pk} : Good l → ∀ (i j : Nat) p q, i < j → l[i]? = some p → l[j]? = some q → ¬ (p.on = q.on ∧ p.key = q.key) | .mk _ h _ _ => h
theorem Good.r {l : List Pk} : Good l → ∀ p ∈ l, RgtW p.tw | .mk _ _ h _ => h
theorem Good.x {l : List Pk} : Good l → ∀ p ∈ l, Good p.picks | .mk _ _ _ h => h
/-- The keys of the picks of a type are different. -/
theorem Good.nodup {l : List Pk} (h : Good l) (on : ByteArray) : ((l.filter fun p => decide (p.on = on)).map Pk.key).Nodup := by
  have key : ∀ (l : List Pk), (∀ (i j : Nat) p q, i < j → l[i]? = some p → l[j]? = some q → ¬ (p.on = q.on ∧ p.key = q.key)) → ((l.filter fun p => decide (p.on = on)).map Pk.key).Nodup := by
    intro l
    induction l with
    | nil => intro _; simp
    | cons x l ih =>
      intro hd
      have h2 := ih fun i j p q hij hp hq => hd (i + 1) (j + 1) p q (by omega) (by simpa using hp) (by simpa using hq)
      by_cases c : x.on = on
      · rw [List.filter_cons_of_pos (by simp [c]), List.map_cons, List.nodup_cons]
        refine ⟨fun hm => ?_, h2⟩
        obtain ⟨y, hy, e⟩ := List.mem_map.1 hm
        obtain ⟨hy1, hy2⟩ := List.mem_filter.1 hy
        obtain ⟨j, hj⟩ := List.getElem?_of_mem hy1
        exact hd 0 (j + 1) x y (by omega) rfl (by simpa using hj) ⟨by simp at hy2; rw [c, hy2], e.symm⟩
      · rw [List.filter_cons_of_neg (by simp [c])]
        exact h2
  exact key l h.d
/-- The way along a path, to null. -/
noncomputable def mtB : Val → List Val → Bool
  | v, [] => decide (v.k = 0)
  | v, s :: r => if v.k = 0 then true
    else if s.k = 2 ∧ v.k = 5 ∧ 0 ≤ s.n ∧ s.n < v.items.length then mtB (v.items.getD s.n.toNat zVal) r
    else match getV v s.s with
      | none => false
      | some x => if s.k = 3 then mtB x r else false
theorem mtB_z (p : List Val) : mtB zVal p = true := by
  cases p with
  | nil => rfl
  | cons s r => rw [mtB, if_pos (show zVal.k = 0 from rfl)]
theorem mem_lsR : ∀ (fs : List CFn) (j : Nat) (tn : ByteArray) (tw : List Int) (picks : List Pk) (path : List Val) (r : CRes), r ∈ lsR fs j tn tw picks path → ∃ (i : Nat) (f : CFn), fs[i]? = some f ∧ r = f tn tw picks (path ++ [inV (j + i : Nat)]) ∧ (lsR fs j tn tw picks path)[i]? = some r
  | [], j, tn, tw, picks, path, r, h => by rw [lsR] at h; cases h
  | f :: fs, j, tn, tw, picks, path, r, h => by
    rw [lsR] at h
    rcases List.mem_cons.1 h with rfl | h
    · exact ⟨0, f, rfl, rfl, by rw [lsR]; exact List.getElem?_cons_zero⟩
    · obtain ⟨i, g, h1, h2, h3⟩ := mem_lsR fs (j + 1) tn tw picks path r h
      refine ⟨i + 1, g, by simpa using h1, ?_, by rw [lsR]; simpa using h3⟩
      rw [h2]
      have : (j + 1 + i : Nat) = j + (i + 1) := by omega
      rw [this]
theorem lsR_get : ∀ (fs : List CFn) (j : Nat) (tn : ByteArray) (tw : List Int) (picks : List Pk) (path : List Val) (i : Nat), (lsR fs j tn tw picks path)[i]? = (fs[i]?).map fun f => f tn tw picks (path ++ [inV (j + i : Nat)])
  | [], j, tn, tw, picks, path, i => by rw [lsR]; simp
  | f :: fs, j, tn, tw, picks, path, 0 => by rw [lsR, List.getElem?_cons_zero, List.getElem?_cons_zero]; rfl
  | f :: fs, j, tn, tw, picks, path, i + 1 => by
    rw [lsR, List.getElem?_cons_succ, List.getElem?_cons_succ, lsR_get fs (j + 1)]
    have : (j + 1 + i : Nat) = j + (i + 1) := by omega
    rw [this]
/-- The cases of a completion. -/
theorem cplV_cases {doc : List Dfn} {v : Val} {tn : ByteArray} {tw : List Int} {picks : List Pk} {path : List Val} {Q : CRes → Prop} (h1 : ∀ s, (v.k ≠ 0) → Q (failR path s)) (h2 : v.k = 0 → Q (nulR tw path))
    (h3 : v.k = 5 → lstW (nulW tw) = true → Q (listR (v.items.map (cplV doc)) tn (innW (nulW tw)) picks path)) (h4 : v.k ≠ 0 → lstW (nulW tw) = false → leafB doc tn = true → ∀ x, leafC doc tn v = some x → Q (x, []))
    (h5 : v.k = 6 → lstW (nulW tw) = false → leafB doc tn = false → ∀ on, typO v = some on → compB doc tn = true → on ∈ posL doc tn → Q (objR v.keys (v.items.map (cplV doc)) on picks path)) : Q (cplV doc v tn tw picks path) := by
  rw [cplV_eq, cplB]
  split
  · rename_i c; exact h1 _ (by omega)
  split
  · rename_i c; exact h2 c
  rename_i c9 c0
  split
  · rename_i c
    split
    · rename_i c5; exact h3 c5 c
    · exact h1 _ c0
  rename_i c
  have c : lstW (nulW tw) = false := by simpa using c
  split
  · rename_i cl
    split
    · rename_i x hx; exact h4 c0 c cl x hx
    · exact h1 _ c0
  rename_i cl
  have cl : leafB doc tn = false := by simpa using cl
  split
  · exact h1 _ c0
  · rename_i on hon
    split
    · rename_i hc; exact h5 (typO_k hon) c cl on hon hc.1 hc.2
    · exact h1 _ c0
theorem leafC_k {doc : List Dfn} {tn : ByteArray} {v x : Val} (h : leafC doc tn v = some x) : 1 ≤ x.k ∧ x.k ≤ 4 ∧ x.items = [] ∧ x.keys = [] := by
  unfold leafC scaC at h
  repeat' split at h
  all_goals first
    | (cases h; done)
    | (cases h; exact ⟨by first | (show (1 : Int) ≤ 2; decide) | (show (1 : Int) ≤ 3; decide) | (show (1 : Int) ≤ 4; decide) | (show (1 : Int) ≤ 1; decide), by first | (show (2 : Int) ≤ 4; decide) | (show (3 : Int) ≤ 4; decide) | (show (4 : Int) ≤ 4; decide) | (show (1 : Int) ≤ 4; decide), rfl, rfl⟩)
theorem obS_mem {doc : List Dfn} {v : Val} (h6 : v.k = 6) {on : ByteArray} {path : List Val} {picks : List Pk} {r : Pk × CRes} (h : r ∈ obS v.keys (v.items.map (cplV doc)) on path picks) :
    r.1 ∈ picks ∧ r.1.on = on ∧ r.2 = cplV doc ((getV v r.1.key).getD zVal) r.1.tn r.1.tw r.1.picks (path ++ [txV r.1.key]) := by
  unfold obS at h
  obtain ⟨p, hp, rfl⟩ := List.mem_map.1 h
  obtain ⟨h1, h2⟩ := List.mem_filter.1 hp
  exact ⟨h1, by simpa using h2, by rw [itF_get doc v h6]⟩
theorem getD_ind {Q : Val → Prop} {v : Val} (hz : Q zVal) (h : ∀ x ∈ v.items, Q x) (k : ByteArray) : Q ((getV v k).getD zVal) := by
  cases e : getV v k with
  | none => exact hz
  | some x => exact h x (getV_mem e)
/-- If there is no problem, null comes of null alone. -/
theorem cmp_null (doc : List Dfn) (v : Val) : ∀ tn tw picks path, (cplV doc v tn tw picks path).2 = [] → (cplV doc v tn tw picks path).1.k = 0 → v.k = 0 ∧ nnW tw = false := by
  refine Val.ind (Q := fun v => ∀ tn tw picks path, (cplV doc v tn tw picks path).2 = [] → (cplV doc v tn tw picks path).1.k = 0 → v.k = 0 ∧ nnW tw = false) (fun v ih tn tw picks path => ?_) v
  have hz : ∀ tn tw picks path, (cplV doc zVal tn tw picks path).2 = [] → (cplV doc zVal tn tw picks path).1.k = 0 → zVal.k = 0 ∧ nnW tw = false := fun tn tw picks path h1 _ => by
    rw [cplV_z, zFn, nulR] at h1
    split at h1
    · cases h1
    · rename_i c; exact ⟨rfl, by simpa using c⟩
  refine cplV_cases (Q := fun r => r.2 = [] → r.1.k = 0 → v.k = 0 ∧ nnW tw = false) (fun s _ h => by cases h) (fun c h _ => ?_) (fun c5 cl h1 h2 => ?_) (fun _ _ _ x hx _ h2 => ?_) (fun c6 _ _ on hon _ _ h1 h2 => ?_)
  · refine ⟨c, ?_⟩
    rw [nulR] at h
    split at h
    · cases h
    · rename_i q; simpa using q
  · exfalso
    dsimp only [listR] at h1 h2
    split at h2
    · rename_i ha
      obtain ⟨r, hr, hl⟩ := List.any_eq_true.1 ha
      obtain ⟨i, f, e1, e2, _⟩ := mem_lsR _ _ _ _ _ _ _ hr
      rw [List.getElem?_map] at e1
      cases ex : v.items[i]? with
      | none => rw [ex] at e1; cases e1
      | some x =>
        rw [ex] at e1
        cases e1
        have hn : r.2 = [] := List.flatMap_eq_nil_iff.1 h1 r hr
        simp only [lostB, Bool.and_eq_true, decide_eq_true_eq] at hl
        have := ih x (List.mem_of_getElem? ex) tn (innW (nulW tw)) picks (path ++ [inV (0 + i : Nat)]) (by rw [← e2]; exact hn) (by rw [← e2]; exact hl.1)
        rw [hl.2] at this
        cases this.2
    · simp [liV, Val.k_mk] at h2
  · have := leafC_k hx
    dsimp only at h2
    omega
  · exfalso
    dsimp only [objR] at h1 h2
    split at h2
    · rename_i ha
      obtain ⟨r, hr, hl⟩ := List.any_eq_true.1 ha
      obtain ⟨e1, e2, e3⟩ := obS_mem c6 hr
      have hn : r.2.2 = [] := List.flatMap_eq_nil_iff.1 h1 r hr
      simp only [lostB, Bool.and_eq_true, decide_eq_true_eq] at hl
      have := getD_ind (Q := fun x => ∀ tn tw picks path, (cplV doc x tn tw picks path).2 = [] → (cplV doc x tn tw picks path).1.k = 0 → x.k = 0 ∧ nnW tw = false) hz ih r.1.key r.1.tn r.1.tw r.1.picks (path ++ [txV r.1.key]) (by rw [← e3]; exact hn) (by rw [← e3]; exact hl.1)
      rw [hl.2] at this
      cases this.2
    · simp [obR, Val.k_mk] at h2
/-- The place of a pick in an object. -/
theorem getV_obR {K : List ByteArray} {L : List Val} (hn : K.Nodup) {i : Nat} {k : ByteArray} {x : Val} (hk : K[i]? = some k) (hx : L[i]? = some x) : getV (obR K L) k = some x := by
  have key : ∀ (K : List ByteArray) (i j : Nat), K.Nodup → K[i]? = some k → ix k K j = ((j + i : Nat) : Int) := by
    intro K
    induction K with
    | nil => intro i j _ h; simp at h
    | cons a K ih =>
      intro i j hn h
      rw [List.nodup_cons] at hn
      rw [ix]
      cases i with
      | zero =>
        simp at h
        rw [if_pos h.symm]
        rfl
      | succ i =>
        rw [List.getElem?_cons_succ] at h
        rw [if_neg (fun e => hn.1 (by rw [← e]; exact List.mem_of_getElem? h)), ih i (j + 1) hn.2 h]
        congr 1
        omega
  have e := key K i 0 hn hk
  have h0 : (0 : Int) ≤ ((0 + i : Nat) : Int) := Int.natCast_nonneg _
  unfold getV obR
  rw [if_pos (by rfl), Val.keys_mk, Val.items_mk, e, if_pos h0]
  simpa using hx
/-- Each problem's path leads to null. -/
theorem cmp_meets (doc : List Dfn) (v : Val) : ∀ tn tw picks path, Good picks → ∀ q ∈ (cplV doc v tn tw picks path).2, ∃ r, q.p = path ++ r ∧ mtB (cplV doc v tn tw picks path).1 r = true := by
  refine Val.ind (Q := fun v => ∀ tn tw picks path, Good picks → ∀ q ∈ (cplV doc v tn tw picks path).2, ∃ r, q.p = path ++ r ∧ mtB (cplV doc v tn tw picks path).1 r = true) (fun v ih tn tw picks path hg => ?_) v
  have hfail : ∀ (path : List Val) s, ∀ q ∈ (failR path s).2, ∃ r, q.p = path ++ r ∧ mtB (failR path s).1 r = true := fun path s q hq => by
    rw [List.mem_singleton.1 hq]
    exact ⟨[], by simp [Prb.p_mk], mtB_z _⟩
  have hnul : ∀ (tw : List Int) (path : List Val), ∀ q ∈ (nulR tw path).2, ∃ r, q.p = path ++ r ∧ mtB (nulR tw path).1 r = true := fun tw path => by
    rw [nulR]
    split
    · exact hfail _ _
    · intro q hq; cases hq
  have hz : ∀ tn tw picks path, Good picks → ∀ q ∈ (cplV doc zVal tn tw picks path).2, ∃ r, q.p = path ++ r ∧ mtB (cplV doc zVal tn tw picks path).1 r = true := fun tn tw picks path _ => by
    rw [cplV_z]; exact hnul tw path
  refine cplV_cases (Q := fun R => ∀ q ∈ R.2, ∃ r, q.p = path ++ r ∧ mtB R.1 r = true) (fun s _ => hfail _ s) (fun _ => hnul _ _) (fun c5 cl q hq => ?_) (fun _ _ _ x hx q hq => by cases hq) (fun c6 _ _ on hon _ _ q hq => ?_)
  · dsimp only [listR] at hq ⊢
    obtain ⟨r, hr, hqr⟩ := List.mem_flatMap.1 hq
    obtain ⟨i, f, e1, e2, e3⟩ := mem_lsR _ _ _ _ _ _ _ hr
    rw [List.getElem?_map] at e1
    cases ex : v.items[i]? with
    | none => rw [ex] at e1; cases e1
    | some x =>
      rw [ex] at e1
      cases e1
      obtain ⟨s, h1, h2⟩ := ih x (List.mem_of_getElem? ex) tn (innW (nulW tw)) picks (path ++ [inV (0 + i : Nat)]) hg q (by rw [← e2]; exact hqr)
      rw [← e2] at h2
      refine ⟨inV (0 + i : Nat) :: s, by rw [h1]; simp, ?_⟩
      split
      · exact mtB_z _
      · have hlen : i < ((lsR (v.items.map (cplV doc)) 0 tn (innW (nulW tw)) picks path).map (·.1)).length := by
          rw [List.length_map]
          exact (List.getElem?_eq_some_iff.1 e3).1
        rw [mtB, if_neg (by simp [liV, Val.k_mk]), if_pos (by simp only [liV, inV, Val.k_mk, Val.n_mk, Val.items_mk]; refine ⟨trivial, trivial, Int.natCast_nonneg _, ?_⟩; omega)]
        have hg2 : (liV ((lsR (v.items.map (cplV doc)) 0 tn (innW (nulW tw)) picks path).map (·.1))).items.getD (inV ((0 + i : Nat) : Int)).n.toNat zVal = r.1 := by
          simp only [liV, inV, Val.n_mk, Val.items_mk, List.getD_eq_getElem?_getD, Int.toNat_natCast, Nat.zero_add, List.getElem?_map, e3]
          rfl
        rw [hg2]
        exact h2
  · dsimp only [objR] at hq ⊢
    obtain ⟨r, hr, hqr⟩ := List.mem_flatMap.1 hq
    obtain ⟨e1, e2, e3⟩ := obS_mem c6 hr
    obtain ⟨s, h1, h2⟩ := getD_ind (Q := fun x => ∀ tn tw picks path, Good picks → ∀ q ∈ (cplV doc x tn tw picks path).2, ∃ r, q.p = path ++ r ∧ mtB (cplV doc x tn tw picks path).1 r = true) hz ih r.1.key r.1.tn r.1.tw r.1.picks (path ++ [txV r.1.key]) (hg.x _ e1) q (by rw [← e3]; exact hqr)
    rw [← e3] at h2
    refine ⟨txV r.1.key :: s, by rw [h1]; simp, ?_⟩
    split
    · exact mtB_z _
    · obtain ⟨i, hi⟩ := List.getElem?_of_mem hr
      have hk : ((obS v.keys (v.items.map (cplV doc)) on path picks).map (·.1.key)).Nodup := by
        have : (obS v.keys (v.items.map (cplV doc)) on path picks).map (·.1.key) = (picks.filter fun p => decide (p.on = on)).map Pk.key := by
          unfold obS
          rw [List.map_map]
          rfl
        rw [this]
        exact hg.nodup on
      have hget := getV_obR (L := (obS v.keys (v.items.map (cplV doc)) on path picks).map (·.2.1)) hk (i := i) (k := r.1.key) (x := r.2.1) (by rw [List.getElem?_map, hi]; rfl) (by rw [List.getElem?_map, hi]; rfl)
      rw [mtB, if_neg (by simp [obR, Val.k_mk]), if_neg (by simp [txV, Val.k_mk])]
      have hs : (txV r.1.key).s = r.1.key := rfl
      rw [hs, hget]
      dsimp only
      rw [if_pos (by rfl)]
      exact h2
/-- The paths of problems are different. -/
theorem nodup_flat {α β : Type} {f : α → List β} : ∀ {l : List α}, (∀ x ∈ l, (f x).Nodup) → (∀ (i j : Nat) x y, i < j → l[i]? = some x → l[j]? = some y → ∀ a ∈ f x, a ∉ f y) → (l.flatMap f).Nodup
  | [], _, _ => by simp
  | x :: l, h1, h2 => by
    rw [List.flatMap_cons, List.nodup_append]
    refine ⟨h1 x (by simp), nodup_flat (fun y hy => h1 y (by simp [hy])) (fun i j a b hij ha hb => h2 (i + 1) (j + 1) a b (by omega) (by simpa using ha) (by simpa using hb)), fun a ha b hb e => ?_⟩
    subst e
    obtain ⟨y, hy, hay⟩ := List.mem_flatMap.1 hb
    obtain ⟨j, hj⟩ := List.getElem?_of_mem hy
    exact h2 0 (j + 1) x y (by omega) rfl (by simpa using hj) a ha hay
theorem cmp_paths (doc : List Dfn) (v : Val) : ∀ tn tw picks path, Good picks → ((cplV doc v tn tw picks path).2.map Prb.p).Nodup := by
  refine Val.ind (Q := fun v => ∀ tn tw picks path, Good picks → ((cplV doc v tn tw picks path).2.map Prb.p).Nodup) (fun v ih tn tw picks path hg => ?_) v
  have hz : ∀ tn tw picks path, Good picks → ((cplV doc zVal tn tw picks path).2.map Prb.p).Nodup := fun tn tw picks path _ => by
    rw [cplV_z, zFn, nulR]
    split <;> simp [failR]
  have pre : ∀ (x : Val) tn tw picks path a, Good picks → a ∈ (cplV doc x tn tw picks path).2.map Prb.p → ∃ r, a = path ++ r := fun x tn tw picks path a hg ha => by
    obtain ⟨q, hq, rfl⟩ := List.mem_map.1 ha
    obtain ⟨r, h1, _⟩ := cmp_meets doc x tn tw picks path hg q hq
    exact ⟨r, h1⟩
  refine cplV_cases (Q := fun R => (R.2.map Prb.p).Nodup) (fun s _ => by simp [failR]) (fun _ => by rw [nulR]; split <;> simp [failR]) (fun c5 cl => ?_) (fun _ _ _ x hx => by simp) (fun c6 _ _ on hon _ _ => ?_)
  · dsimp only [listR]
    rw [List.map_flatMap]
    have get : ∀ (i : Nat) r, (lsR (v.items.map (cplV doc)) 0 tn (innW (nulW tw)) picks path)[i]? = some r → ∃ x ∈ v.items, r = cplV doc x tn (innW (nulW tw)) picks (path ++ [inV (0 + i : Nat)]) := fun i r hr => by
      rw [lsR_get, List.getElem?_map] at hr
      cases ex : v.items[i]? with
      | none => rw [ex] at hr; cases hr
      | some x => rw [ex] at hr; cases hr; exact ⟨x, List.mem_of_getElem? ex, rfl⟩
    refine nodup_flat (fun r hr => ?_) (fun i j r s hij hr hs a ha hb => ?_)
    · obtain ⟨i, hi⟩ := List.getElem?_of_mem hr
      obtain ⟨x, hx, rfl⟩ := get i r hi
      exact ih x hx _ _ _ _ hg
    · obtain ⟨x, hx, rfl⟩ := get i r hr
      obtain ⟨y, hy, rfl⟩ := get j s hs
      obtain ⟨r1, e1⟩ := pre _ _ _ _ _ a hg ha
      obtain ⟨r2, e2⟩ := pre _ _ _ _ _ a hg hb
      rw [e1, List.append_assoc, List.append_assoc] at e2
      have := List.append_cancel_left e2
      simp only [List.cons_append, List.nil_append, List.cons.injEq, inV, Val.mk.injEq] at this
      omega
  · dsimp only [objR]
    rw [List.map_flatMap]
    refine nodup_flat (fun r hr => ?_) (fun i j r s hij hr hs a ha hb => ?_)
    · obtain ⟨e1, e2, e3⟩ := obS_mem c6 hr
      rw [e3]
      exact getD_ind (Q := fun x => ∀ tn tw picks path, Good picks → ((cplV doc x tn tw picks path).2.map Prb.p).Nodup) hz ih r.1.key _ _ _ _ (hg.x _ e1)
    · obtain ⟨e1, e2, e3⟩ := obS_mem c6 (List.mem_of_getElem? hr)
      obtain ⟨f1, f2, f3⟩ := obS_mem c6 (List.mem_of_getElem? hs)
      rw [e3] at ha
      rw [f3] at hb
      obtain ⟨r1, h1⟩ := pre _ _ _ _ _ a (hg.x _ e1) ha
      obtain ⟨r2, h2⟩ := pre _ _ _ _ _ a (hg.x _ f1) hb
      rw [h1, List.append_assoc, List.append_assoc] at h2
      have := List.append_cancel_left h2
      simp only [List.cons_append, List.nil_append, List.cons.injEq, txV, Val.mk.injEq] at this
      have hk : ((obS v.keys (v.items.map (cplV doc)) on path picks).map (·.1.key)).Nodup := by
        have : (obS v.keys (v.items.map (cplV doc)) on path picks).map (·.1.key) = (picks.filter fun p => decide (p.on = on)).map Pk.key := by
          unfold obS
          rw [List.map_map]
          rfl
        rw [this]
        exact hg.nodup on
      have hp := List.pairwise_iff_getElem.1 hk i j (by rw [List.length_map]; exact (List.getElem?_eq_some_iff.1 hr).1) (by rw [List.length_map]; exact (List.getElem?_eq_some_iff.1 hs).1) hij
      apply hp
      rw [List.getElem_map, List.getElem_map]
      have q1 := (List.getElem?_eq_some_iff.1 hr).2
      have q2 := (List.getElem?_eq_some_iff.1 hs).2
      rw [q1, q2]
      simp only [true_and, and_true] at this
      exact this.1
end Go.Proofs.YtgollgfifnmaaaaDoor
