/-
  The parts CmB CmC of the proof, in one file. Conditions: none.
-/
import Derived.Test.YtgollgfifnmaaaaDoorCmP441
namespace Go.Proofs.YtgollgfifnmaaaaDoor
open Go.Eng
set_option linter.unusedVariables false
set_option linter.unusedSimpArgs false
set_option maxRecDepth 20000
/-- Picks of one type have different keys; and types are without two outer wrappers of one kind. -/
def RgtW : List Int → Prop
  | [] => True
  | [_] => True
  | a :: b :: r => ¬ (a = 1 ∧ b = 1) ∧ RgtW (b :: r)
inductive Good : List Pk → Prop
  | mk (l : List Pk) : (∀ (i j : Nat) p q, i < j → l[i]? = some p → l[j]? = some q → ¬ (p.on = q.on ∧ p.key = q.key)) → (∀ p ∈ l, RgtW p.tw) → (∀ p ∈ l, Good p.picks) → Good l
theorem Good.d {l : List Pk} : Good l → ∀ (i j : Nat) p q, i < j → l[i]? = some p → l[j]? = some q → ¬ (p.on = q.on ∧ p.key = q.key) | .mk _ h _ _ => h
theorem Good.r {l : List Pk} : Good l → ∀ p ∈ l, RgtW p.tw | .mk _ _ h _ => h
theorem Good.x {l : List Pk} : Good l → ∀ p ∈ l, Good p.picks | .mk _ _ _ h => h
/-- The keys of the picks of a type are different. -/
theorem Good.nodup {l : List Pk} (h : Good l) (on : ByteArray) : ((l.filter fun p => decide (p.on = on)).map Pk.key).Nodup := by
  have key : ∀ (l : List Pk), (∀ (i j : Nat) p q, i < j → l[i]? = some p → l[j]? = some q → ¬ (p.on = q.on ∧ p.key = q.key)) → ((l.filter fun p => decide (p.on = on)).map Pk.key).Nodup := by
    intro l
    induction l with
    | nil => intro _; simp
    | cons x l ih =>
      intro hd
      have h2 := ih fun i j p q hij hp hq => hd (i + 1) (j + 1) p q (by omega) (by simpa using hp) (by simpa using hq)
      by_cases c : x.on = on
      · rw [List.filter_cons_of_pos (by simp [c]), List.map_cons, List.nodup_cons]
        refine ⟨fun hm => ?_, h2⟩
        obtain ⟨y, hy, e⟩ := List.mem_map.1 hm
        obtain ⟨hy1, hy2⟩ := List.mem_filter.1 hy
        obtain ⟨j, hj⟩ := List.getElem?_of_mem hy1
        exact hd 0 (j + 1) x y (by omega) rfl (by simpa using hj) ⟨by simp at hy2; rw [c, hy2], e.symm⟩
      · rw [List.filter_cons_of_neg (by simp [c])]
        exact h2
  exact key l h.d
/-- The way along a path, to null. -/
noncomputable def mtB : Val → List Val → Bool
  | v, [] => decide (v.k = 0)
  | v, s :: r => if v.k = 0 then true
    else if s.k = 2 ∧ v.k = 5 ∧ 0 ≤ s.n ∧ s.n < v.items.length then mtB (v.items.getD s.n.toNat zVal) r
    else match getV v s.s with
      | none => false
      | some x => if s.k = 3 then mtB x r else false
theorem mtB_z (p : List Val) : mtB zVal p = true := by
  cases p with
  | nil => rfl
  | cons s r => rw [mtB, if_pos (show zVal.k = 0 from rfl)]
theorem mem_lsR : ∀ (fs : List CFn) (j : Nat) (tn : ByteArray) (tw : List Int) (picks : List Pk) (path : List Val) (r : CRes), r ∈ lsR fs j tn tw picks path → ∃ (i : Nat) (f : CFn), fs[i]? = some f ∧ r = f tn tw picks (path ++ [inV (j + i : Nat)]) ∧ (lsR fs j tn tw picks path)[i]? = some r
  | [], j, tn, tw, picks, path, r, h => by rw [lsR] at h; cases h
  | f :: fs, j, tn, tw, picks, path, r, h => by
    rw [lsR] at h
    rcases List.mem_cons.1 h with rfl | h
    · exact ⟨0, f, rfl, rfl, by rw [lsR]; exact List.getElem?_cons_zero⟩
    · obtain ⟨i, g, h1, h2, h3⟩ := mem_lsR fs (j + 1) tn tw picks path r h
      refine ⟨i + 1, g, by simpa using h1, ?_, by rw [lsR]; simpa using h3⟩
      rw [h2]
      have : (j + 1 + i : Nat) = j + (i + 1) := by omega
      rw [this]
/-- The cases of a completion. -/
theorem cplV_cases {doc : List Dfn} {v : Val} {tn : ByteArray} {tw : List Int} {picks : List Pk} {path : List Val} {Q : CRes → Prop} (h1 : ∀ s, (v.k ≠ 0) → Q (failR path s)) (h2 : v.k = 0 → Q (nulR tw path))
    (h3 : v.k = 5 → lstW (nulW tw) = true → Q (listR (v.items.map (cplV doc)) tn (innW (nulW tw)) picks path)) (h4 : v.k ≠ 0 → lstW (nulW tw) = false → leafB doc tn = true → ∀ x, leafC doc tn v = some x → Q (x, []))
    (h5 : v.k = 6 → lstW (nulW tw) = false → leafB doc tn = false → ∀ on, typO v = some on → compB doc tn = true → on ∈ posL doc tn → Q (objR v.keys (v.items.map (cplV doc)) on picks path)) : Q (cplV doc v tn tw picks path) := by
  rw [cplV_eq, cplB]
  split
  · rename_i c; exact h1 _ (by omega)
  split
  · rename_i c; exact h2 c
  rename_i c9 c0
  split
  · rename_i c
    split
    · rename_i c5; exact h3 c5 c
    · exact h1 _ c0
  rename_i c
  have c : lstW (nulW tw) = false := by simpa using c
  split
  · rename_i cl
    split
    · rename_i x hx; exact h4 c0 c cl x hx
    · exact h1 _ c0
  rename_i cl
  have cl : leafB doc tn = false := by simpa using cl
  split
  · exact h1 _ c0
  · rename_i on hon
    split
    · rename_i hc; exact h5 (typO_k hon) c cl on hon hc.1 hc.2
    · exact h1 _ c0
theorem leafC_k {doc : List Dfn} {tn : ByteArray} {v x : Val} (h : leafC doc tn v = some x) : 1 ≤ x.k ∧ x.k ≤ 4 ∧ x.items = [] ∧ x.keys = [] := by
  unfold leafC scaC at h
  repeat' split at h
  all_goals first
    | (cases h; done)
    | (cases h; exact ⟨by first | (show (1 : Int) ≤ 2; decide) | (show (1 : Int) ≤ 3; decide) | (show (1 : Int) ≤ 4; decide) | (show (1 : Int) ≤ 1; decide), by first | (show (2 : Int) ≤ 4; decide) | (show (3 : Int) ≤ 4; decide) | (show (4 : Int) ≤ 4; decide) | (show (1 : Int) ≤ 4; decide), rfl, rfl⟩)
theorem obS_mem {doc : List Dfn} {v : Val} (h6 : v.k = 6) {on : ByteArray} {path : List Val} {picks : List Pk} {r : Pk × CRes} (h : r ∈ obS v.keys (v.items.map (cplV doc)) on path picks) :
    r.1 ∈ picks ∧ r.1.on = on ∧ r.2 = cplV doc ((getV v r.1.key).getD zVal) r.1.tn r.1.tw r.1.picks (path ++ [txV r.1.key]) := by
  unfold obS at h
  obtain ⟨p, hp, rfl⟩ := List.mem_map.1 h
  obtain ⟨h1, h2⟩ := List.mem_filter.1 hp
  exact ⟨h1, by simpa using h2, by rw [itF_get doc v h6]⟩
theorem getD_ind {Q : Val → Prop} {v : Val} (hz : Q zVal) (h : ∀ x ∈ v.items, Q x) (k : ByteArray) : Q ((getV v k).getD zVal) := by
  cases e : getV v k with
  | none => exact hz
  | some x => exact h x (getV_mem e)
/-- The place of a pick in an object. -/
theorem getV_obR {K : List ByteArray} {L : List Val} (hn : K.Nodup) {i : Nat} {k : ByteArray} {x : Val} (hk : K[i]? = some k) (hx : L[i]? = some x) : getV (obR K L) k = some x := by
  have key : ∀ (K : List ByteArray) (i j : Nat), K.Nodup → K[i]? = some k → ix k K j = ((j + i : Nat) : Int) := by
    intro K
    induction K with
    | nil => intro i j _ h; simp at h
    | cons a K ih =>
      intro i j hn h
      rw [List.nodup_cons] at hn
      rw [ix]
      cases i with
      | zero =>
        simp at h
        rw [if_pos h.symm]
        rfl
      | succ i =>
        rw [List.getElem?_cons_succ] at h
        rw [if_neg (fun e => hn.1 (by rw [← e]; exact List.mem_of_getElem? h)), ih i (j + 1) hn.2 h]
        congr 1
        omega
  have e := key K i 0 hn hk
  have h0 : (0 : Int) ≤ ((0 + i : Nat) : Int) := Int.natCast_nonneg _
  unfold getV obR
  rw [if_pos (by rfl), Val.keys_mk, Val.items_mk, e, if_pos h0]
  simpa using hx
/-- Each problem's path leads to null. -/
theorem cmp_meets (doc : List Dfn) (v : Val) : ∀ tn tw picks path, Good picks → ∀ q ∈ (cplV doc v tn tw picks path).2, ∃ r, q.p = path ++ r ∧ mtB (cplV doc v tn tw picks path).1 r = true := by
  refine Val.ind (Q := fun v => ∀ tn tw picks path, Good picks → ∀ q ∈ (cplV doc v tn tw picks path).2, ∃ r, q.p = path ++ r ∧ mtB (cplV doc v tn tw picks path).1 r = true) (fun v ih tn tw picks path hg => ?_) v
  have hfail : ∀ (path : List Val) s, ∀ q ∈ (failR path s).2, ∃ r, q.p = path ++ r ∧ mtB (failR path s).1 r = true := fun path s q hq => by
    rw [List.mem_singleton.1 hq]
    exact ⟨[], by simp [Prb.p_mk], mtB_z _⟩
  have hnul : ∀ (tw : List Int) (path : List Val), ∀ q ∈ (nulR tw path).2, ∃ r, q.p = path ++ r ∧ mtB (nulR tw path).1 r = true := fun tw path => by
    rw [nulR]
    split
    · exact hfail _ _
    · intro q hq; cases hq
  have hz : ∀ tn tw picks path, Good picks → ∀ q ∈ (cplV doc zVal tn tw picks path).2, ∃ r, q.p = path ++ r ∧ mtB (cplV doc zVal tn tw picks path).1 r = true := fun tn tw picks path _ => by
    rw [cplV_z]; exact hnul tw path
  refine cplV_cases (Q := fun R => ∀ q ∈ R.2, ∃ r, q.p = path ++ r ∧ mtB R.1 r = true) (fun s _ => hfail _ s) (fun _ => hnul _ _) (fun c5 cl q hq => ?_) (fun _ _ _ x hx q hq => by cases hq) (fun c6 _ _ on hon _ _ q hq => ?_)
  · dsimp only [listR] at hq ⊢
    obtain ⟨r, hr, hqr⟩ := List.mem_flatMap.1 hq
    obtain ⟨i, f, e1, e2, e3⟩ := mem_lsR _ _ _ _ _ _ _ hr
    rw [List.getElem?_map] at e1
    cases ex : v.items[i]? with
    | none => rw [ex] at e1; cases e1
    | some x =>
      rw [ex] at e1
      cases e1
      obtain ⟨s, h1, h2⟩ := ih x (List.mem_of_getElem? ex) tn (innW (nulW tw)) picks (path ++ [inV (0 + i : Nat)]) hg q (by rw [← e2]; exact hqr)
      rw [← e2] at h2
      refine ⟨inV (0 + i : Nat) :: s, by rw [h1]; simp, ?_⟩
      split
      · exact mtB_z _
      · have hlen : i < ((lsR (v.items.map (cplV doc)) 0 tn (innW (nulW tw)) picks path).map (·.1)).length := by
          rw [List.length_map]
          exact (List.getElem?_eq_some_iff.1 e3).1
        rw [mtB, if_neg (by simp [liV, Val.k_mk]), if_pos (by simp only [liV, inV, Val.k_mk, Val.n_mk, Val.items_mk]; refine ⟨trivial, trivial, Int.natCast_nonneg _, ?_⟩; omega)]
        have hg2 : (liV ((lsR (v.items.map (cplV doc)) 0 tn (innW (nulW tw)) picks path).map (·.1))).items.getD (inV ((0 + i : Nat) : Int)).n.toNat zVal = r.1 := by
          simp only [liV, inV, Val.n_mk, Val.items_mk, List.getD_eq_getElem?_getD, Int.toNat_natCast, Nat.zero_add, List.getElem?_map, e3]
          rfl
        rw [hg2]
        exact h2
  · dsimp only [objR] at hq ⊢
    obtain ⟨r, hr, hqr⟩ := List.mem_flatMap.1 hq
    obtain ⟨e1, e2, e3⟩ := obS_mem c6 hr
    obtain ⟨s, h1, h2⟩ := getD_ind (Q := fun x => ∀ tn tw picks path, Good picks → ∀ q ∈ (cplV doc x tn tw picks path).2, ∃ r, q.p = path ++ r ∧ mtB (cplV doc x tn tw picks path).1 r = true) hz ih r.1.key r.1.tn r.1.tw r.1.picks (path ++ [txV r.1.key]) (hg.x _ e1) q (by rw [← e3]; exact hqr)
    rw [← e3] at h2
    refine ⟨txV r.1.key :: s, by rw [h1]; simp, ?_⟩
    split
    · exact mtB_z _
    · obtain ⟨i, hi⟩ := List.getElem?_of_mem hr
      have hk : ((obS v.keys (v.items.map (cplV doc)) on path picks).map (·.1.key)).Nodup := by
        have : (obS v.keys (v.items.map (cplV doc)) on path picks).map (·.1.key) = (picks.filter fun p => decide (p.on = on)).map Pk.key := by
          unfold obS
          rw [List.map_map]
          rfl
        rw [this]
        exact hg.nodup on
      have hget := getV_obR (L := (obS v.keys (v.items.map (cplV doc)) on path picks).map (·.2.1)) hk (i := i) (k := r.1.key) (x := r.2.1) (by rw [List.getElem?_map, hi]; rfl) (by rw [List.getElem?_map, hi]; rfl)
      rw [mtB, if_neg (by simp [obR, Val.k_mk]), if_neg (by simp [txV, Val.k_mk])]
      have hs : (txV r.1.key).s = r.1.key := rfl
      rw [hs, hget]
      dsimp only
      rw [if_pos (by rfl)]
      exact h2
end Go.Proofs.YtgollgfifnmaaaaDoor
namespace Go.Proofs.YtgollgfifnmaaaaDoor
open Go.Eng
set_option linter.unusedVariables false
set_option linter.unusedSimpArgs false
set_option maxRecDepth 20000
abbrev FFn := ByteArray → List Int → List Pk → Bool
/-- The picks of a type, one behind the other; none: one does not fit. -/
noncomputable def shpR (on : ByteArray) (keys : List ByteArray) (fs : List FFn) : List Pk → Nat → Option Nat
  | [], at' => some at'
  | p :: r, at' => if p.on = on then (if at' < keys.length ∧ at' < fs.length ∧ keys[at']? = some p.key ∧ (fs.getD at' fun _ _ _ => false) p.tn p.tw p.picks = true then shpR on keys fs r (at' + 1) else none) else shpR on keys fs r at'
noncomputable def shpB (v : Val) (fs : List FFn) (on : ByteArray) (picks : List Pk) : Bool := match shpR on v.keys fs picks 0 with
  | none => false
  | some n => decide (v.k = 6) && (decide (n = v.keys.length) && decide (n = fs.length))
noncomputable def fitB (doc : List Dfn) (v : Val) (fs : List FFn) : FFn := fun tn tw picks =>
  if v.k = 0 then !nnW tw
  else if lstW tw = true then fs.all (fun f => f tn (innW tw) picks) && (decide (v.k = 5) && decide (v.keys.length = 0))
  else if leafB doc tn = true then decide (fs.length = 0) && (decide (1 ≤ v.k) && decide (v.k ≤ 4))
  else (posL doc tn).any fun on => shpB v fs on picks
mutual
noncomputable def fitV (doc : List Dfn) : Val → FFn
  | .mk k n s i l => fitB doc (.mk k n s i l) (fitL doc i)
noncomputable def fitL (doc : List Dfn) : List Val → List FFn
  | [] => []
  | v :: r => fitV doc v :: fitL doc r
end
theorem RgtW.tail {w : List Int} (h : RgtW w) : RgtW w.tail := by
  cases w with
  | nil => trivial
  | cons a w =>
    cases w with
    | nil => trivial
    | cons b w => exact h.2
/-! ### Null in the place of a root pick -/
noncomputable def outP (key : ByteArray) (q : Prb) : Bool := match q.p with
  | [] => true
  | s :: _ => !(decide (s.k = 3) && decide (s.s = key))
theorem itF_set {ks : List ByteArray} {fs : List CFn} {i : Nat} {key : ByteArray} (hk : ks[i]? = some key) (hf : ∀ j, j < i → ks[j]? ≠ some key) (hi : i < fs.length) (k : ByteArray) :
    itF ks (fs.set i zFn) k = if k = key then zFn else itF ks fs k := by
  have at' : ∀ (l : List ByteArray) (j : Nat), 0 ≤ ix k l j → l[(ix k l j - j).toNat]? = some k ∧ ∀ n, n < (ix k l j - j).toNat → l[n]? ≠ some k := by
    intro l
    induction l with
    | nil => intro j h; simp [ix] at h
    | cons a l ih =>
      intro j h
      rw [ix] at h ⊢
      split
      · rename_i c
        refine ⟨by simp [c], fun n hn => by simp at hn⟩
      · rename_i c
        rw [if_neg c] at h
        obtain ⟨h1, h2⟩ := ih (j + 1) h
        have hge : ((j + 1 : Nat) : Int) ≤ ix k l (j + 1) := by
          rcases ix_lt k l (j + 1) with q | q
          · omega
          · exact q.1
        have e : (ix k l (j + 1) - (j : Int)).toNat = (ix k l (j + 1) - ((j + 1 : Nat) : Int)).toNat + 1 := by omega
        rw [e]
        refine ⟨by rw [List.getElem?_cons_succ]; exact h1, fun n hn => ?_⟩
        cases n with
        | zero => simp; exact fun e => c e.symm
        | succ n => rw [List.getElem?_cons_succ]; exact h2 n (by omega)
  have no : ∀ (l : List ByteArray) (j : Nat), ¬ 0 ≤ ix k l j → k ∉ l := by
    intro l
    induction l with
    | nil => intro j _; simp
    | cons a l ih =>
      intro j h
      rw [ix] at h
      split at h
      · exact absurd (Int.natCast_nonneg _) h
      · rename_i c
        rw [List.mem_cons, not_or]
        exact ⟨fun e => c e, ih _ h⟩
  unfold itF
  by_cases h0 : 0 ≤ ix k ks 0
  · obtain ⟨h1, h2⟩ := at' ks 0 h0
    have e : (ix k ks 0 - ((0 : Nat) : Int)).toNat = (ix k ks 0).toNat := by simp
    rw [e] at h1 h2
    rw [if_pos h0, if_pos h0, List.getElem?_set]
    by_cases c : k = key
    · subst c
      have : i = (ix k ks 0).toNat := by
        rcases Nat.lt_trichotomy i (ix k ks 0).toNat with q | q | q
        · exact absurd hk (h2 i q)
        · exact q
        · exact absurd h1 (hf _ q)
      rw [if_pos this, if_pos hi, if_pos rfl]
      rfl
    · have : ¬ i = (ix k ks 0).toNat := fun q => by
        rw [← q, hk] at h1
        cases h1
        exact c rfl
      rw [if_neg this, if_neg c]
  · rw [if_neg h0, if_neg h0]
    split
    · rename_i c
      subst c
      exact absurd (List.mem_of_getElem? hk) (no ks 0 h0)
    · rfl
theorem cmp_cut (doc : List Dfn) (root : ByteArray) (L : List Pk) (v : Val) (i : Nat) (key : ByteArray) (hg : Good L) (h6 : v.k = 6) (hlen : v.keys.length = v.items.length) (h0 : v.keys[0]? = some sT) (h1 : 1 ≤ i) (hk : v.keys[i]? = some key)
    (hf : ∀ j, j < i → v.keys[j]? ≠ some key) (hn : ∀ p ∈ L, p.key = key → nnW p.tw = false) (w : Val) (hw : w = .mk v.k v.n v.s (v.items.set i zVal) v.keys) :
    (cplV doc v root [] L []).1.keys = (cplV doc w root [] L []).1.keys ∧ (cplV doc v root [] L []).1.items.length = (cplV doc w root [] L []).1.items.length ∧ (cplV doc v root [] L []).1.keys.length = (cplV doc v root [] L []).1.items.length ∧
    (cplV doc w root [] L []).2 = (cplV doc v root [] L []).2.filter (outP key) ∧ (cplV doc v root [] L []).1.k = (cplV doc w root [] L []).1.k ∧
    ∀ (j : Nat) k x y, (cplV doc v root [] L []).1.keys[j]? = some k → (cplV doc v root [] L []).1.items[j]? = some x → (cplV doc w root [] L []).1.items[j]? = some y → (k ≠ key → x = y) ∧ (k = key → y.k = 0) := by
  have hi : i < v.items.length := by have := (List.getElem?_eq_some_iff.1 hk).1; omega
  have w6 : w.k = 6 := by rw [hw]; exact h6
  have wk : w.keys = v.keys := by rw [hw]; rfl
  have wi : w.items.map (cplV doc) = (v.items.map (cplV doc)).set i zFn := by rw [hw, Val.items_mk, List.map_set, cplV_z]
  have hty : typO w = typO v := by
    unfold typO getV
    rw [if_pos h6, if_pos w6, wk]
    have e : ix sT v.keys 0 = 0 := by
      cases hkeys : v.keys with
      | nil => rw [hkeys] at h0; cases h0
      | cons a r =>
        rw [hkeys] at h0
        simp at h0
        rw [ix, if_pos h0.symm]
        rfl
    rw [e, hw, Val.items_mk]
    simp only [Int.le_refl, if_true]
    have : (v.items.set i zVal)[(0 : Int).toNat]? = v.items[(0 : Int).toNat]? := by
      rw [List.getElem?_set, if_neg (by simp; omega)]
    rw [this]
  have hB : ∀ (u : Val), u.k = 6 → leafB doc root = true → leafC doc root u = none := fun u hu _ => by
    unfold leafC scaC
    rw [hu]
    simp
  -- both fail
  have same : ∀ s : ByteArray, (failR [] s).1.keys = (failR [] s).1.keys ∧ (failR [] s).1.items.length = (failR [] s).1.items.length ∧ (failR [] s).1.keys.length = (failR [] s).1.items.length ∧
      (failR [] s).2 = (failR [] s).2.filter (outP key) ∧ (failR [] s).1.k = (failR [] s).1.k ∧ ∀ (j : Nat) k x y, (failR [] s).1.keys[j]? = some k → (failR [] s).1.items[j]? = some x → (failR [] s).1.items[j]? = some y → (k ≠ key → x = y) ∧ (k = key → y.k = 0) :=
    fun s => ⟨rfl, rfl, rfl, rfl, rfl, fun j k x y h => by simp [failR, zVal, Val.keys_mk] at h⟩
  have eV : ∀ u : Val, u.k = 6 → cplV doc u root [] L [] = if leafB doc root = true then failR [] sType else match typO u with
      | none => failR [] sType
      | some on => if compB doc root = true ∧ on ∈ posL doc root then objR u.keys (u.items.map (cplV doc)) on L [] else failR [] sType := fun u hu => by
    rw [cplV_eq, cplB, if_neg (by omega), if_neg (by omega), if_neg (by decide)]
    split
    · rename_i hl
      rw [hB u hu hl]
    · rfl
  rw [eV v h6, eV w w6, hty]
  split
  · exact same _
  split
  · exact same _
  rename_i on hon
  split
  rotate_left
  · exact same _
  rw [wk, wi]
  have hS : obS v.keys ((v.items.map (cplV doc)).set i zFn) on [] L = (obS v.keys (v.items.map (cplV doc)) on [] L).map fun r => if r.1.key = key then (r.1, ((zVal, []) : CRes)) else r := by
    unfold obS
    rw [List.map_map]
    apply List.map_congr_left
    intro p hp
    have hpL := (List.mem_filter.1 hp).1
    simp only [Function.comp]
    rw [itF_set hk hf (by rw [List.length_map]; exact hi)]
    by_cases c : p.key = key
    · rw [if_pos c, if_pos c, zFn, nulR, hn p hpL c]
      rfl
    · rw [if_neg c, if_neg c]
  have hany : (obS v.keys ((v.items.map (cplV doc)).set i zFn) on [] L).any (fun r => lostB r.1.tw r.2.1) = (obS v.keys (v.items.map (cplV doc)) on [] L).any (fun r => lostB r.1.tw r.2.1) := by
    rw [hS, List.any_map, Bool.eq_iff_iff, List.any_eq_true, List.any_eq_true]
    have nl : ∀ r ∈ obS v.keys (v.items.map (cplV doc)) on [] L, r.1.key = key → ∀ x, lostB r.1.tw x = false := fun r hr c x => by
      rw [lostB, hn r.1 (obS_mem h6 hr).1 c, Bool.and_false]
    constructor
    · rintro ⟨r, hr, h⟩
      refine ⟨r, hr, ?_⟩
      simp only [Function.comp] at h
      split at h
      · rename_i c; rw [nl r hr c] at h; cases h
      · exact h
    · rintro ⟨r, hr, h⟩
      refine ⟨r, hr, ?_⟩
      simp only [Function.comp]
      split
      · rename_i c; rw [nl r hr c] at h; cases h
      · exact h
  have hkeys : (obS v.keys ((v.items.map (cplV doc)).set i zFn) on [] L).map (·.1.key) = (obS v.keys (v.items.map (cplV doc)) on [] L).map (·.1.key) := by
    rw [hS, List.map_map]
    apply List.map_congr_left
    intro r _
    simp only [Function.comp]
    split <;> rfl
  have hflat : (obS v.keys ((v.items.map (cplV doc)).set i zFn) on [] L).flatMap (·.2.2) = ((obS v.keys (v.items.map (cplV doc)) on [] L).flatMap (·.2.2)).filter (outP key) := by
    rw [hS]
    have : ∀ l : List (Pk × CRes), (∀ r ∈ l, r ∈ obS v.keys (v.items.map (cplV doc)) on [] L) → (l.map fun r => if r.1.key = key then (r.1, ((zVal, []) : CRes)) else r).flatMap (·.2.2) = (l.flatMap (·.2.2)).filter (outP key) := by
      intro l
      induction l with
      | nil => intro _; rfl
      | cons r l ih =>
        intro hm
        rw [List.map_cons, List.flatMap_cons, List.flatMap_cons, List.filter_append, ih fun x hx => hm x (by simp [hx])]
        congr 1
        have hr := hm r (by simp)
        obtain ⟨e1, e2, e3⟩ := obS_mem h6 hr
        have pre : ∀ q ∈ r.2.2, ∃ t, q.p = txV r.1.key :: t := fun q hq => by
          rw [e3] at hq
          obtain ⟨t, h, _⟩ := cmp_meets doc _ _ _ _ _ (hg.x _ e1) q hq
          exact ⟨t, by rw [h]; rfl⟩
        by_cases c : r.1.key = key
        · rw [if_pos c]
          symm
          rw [List.filter_eq_nil_iff]
          intro q hq
          obtain ⟨t, ht⟩ := pre q hq
          simp [outP, ht, txV, Val.k_mk, Val.s_mk, c]
        · rw [if_neg c]
          symm
          rw [List.filter_eq_self]
          intro q hq
          obtain ⟨t, ht⟩ := pre q hq
          simp [outP, ht, txV, Val.k_mk, Val.s_mk, c]
    exact this _ fun r h => h
  unfold objR
  rw [hany, hkeys, hflat]
  split
  · refine ⟨rfl, rfl, rfl, rfl, rfl, fun j k x y h => by simp [zVal, Val.keys_mk] at h⟩
  · refine ⟨rfl, by simp only [obR, Val.items_mk, List.length_map]; rw [hS, List.length_map], by simp [obR, Val.items_mk, Val.keys_mk], rfl, rfl, fun j k x y e1 e2 e3 => ?_⟩
    simp only [obR, Val.keys_mk, Val.items_mk] at e1 e2 e3
    rw [hS, List.map_map] at e3
    rw [List.getElem?_map] at e1 e2 e3
    cases er : (obS v.keys (v.items.map (cplV doc)) on [] L)[j]? with
    | none => rw [er] at e1; cases e1
    | some r =>
      rw [er] at e1 e2 e3
      simp only [Option.map_some, Function.comp, Option.some.injEq] at e1 e2 e3
      refine ⟨fun c => ?_, fun c => ?_⟩
      · rw [e1, if_neg c] at e3
        rw [← e2, ← e3]
      · rw [e1, if_pos c] at e3
        rw [← e3]
        rfl
end Go.Proofs.YtgollgfifnmaaaaDoor
