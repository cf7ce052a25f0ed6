/-
  The parts CmL of the proof, in one file. Conditions: none.
-/
import Derived.Test.YtgollgfifnmaaaaDoorCmS146
namespace Go.Eng
set_option linter.unusedVariables false
set_option linter.unusedSimpArgs false
def wsUnd (n : Nat) : CH → Prop
  | [] => True
  | (k, c) :: r => k < n ∧ c.und n ∧ wsUnd n r
theorem wsUnd_mem {n : Nat} : ∀ {ws : CH}, wsUnd n ws → ∀ x ∈ ws, x.1 < n ∧ x.2.und n
  | [], _, x, h => by cases h
  | (k, c) :: r, hw, x, h => by
    rcases List.mem_cons.1 h with rfl | h
    · exact ⟨hw.1, hw.2.1⟩
    · exact wsUnd_mem hw.2.2 x h
/-- An argument that is an empty slice without capacity, as a row that is let go afterwards. -/
theorem Meets.e0x {P : Program} {f : FuncId} {hp ws : CH} {n : Nat} {args args' : List AV} {i m : Nat} {r : AV} (hi : args[i]? = some .e0) (ha' : args' = args.set i (.rw n 0 0)) (hws : (∀ k, n ≤ k → gc hp k = .no) → wsUnd n ws) (hr0 : r.purR = true)
    (c : MeetsX P f ((n, .rc 0 m 0 []) :: hp) (n + 1) args' (ws ++ (n, .rc 0 m 0 []) :: hp) (n + 1) r) : MeetsX P f hp n args (ws ++ hp) n r := by
  refine ⟨c.1, fun h ρ w vs hs ha => ?_⟩
  have hw := wsUnd_mem (hws hs.free)
  have c1 := Meets.e0 hi ha' (fun x hx => (hw x hx).1) c
  refine (c1.2 h ρ w vs hs ha).mono fun _ w' ⟨v, he, h', ρ', hp', n', r', ⟨e1, e2, e3⟩, hh, hr, hm, hrel, hk, hl⟩ => ?_
  subst e1 e2 e3
  have r2 : RLe ρ (ROx ρ' n) := fun k g x e => by
    have : k < n := by
      rcases Nat.lt_or_ge k n with q | q
      · exact q
      · rw [hs.fr k g q] at e; cases e
    rw [ROx_lt this]
    exact hr _ _ _ e
  have r3 : RLe (ROx ρ' n) ρ' := fun k g x e => (ROx_some e).1
  have gno : gc hp n = .no := hs.free n (Nat.le_refl n)
  have gn : gc (ws ++ hp) n = .no := by
    rcases gc_app (ws := ws) (hp := hp) n with ⟨_, e⟩ | ⟨c, hm, e⟩
    · rw [e, gno]
    · have := (hw _ hm).1; omega
  have ge : ∀ j, j ≠ n → gc (ws ++ (n, Chunk.rc 0 m 0 []) :: hp) j = gc (ws ++ hp) j := fun j hj => gc_mid (fun e => hj e.symm)
  have own : ∀ j g, (gc (ws ++ hp) j).own g → (gc (ws ++ (n, Chunk.rc 0 m 0 []) :: hp) j).own g := fun j g q => by
    by_cases hj : j = n
    · subst hj; rw [gn] at q; cases q
    · rw [ge j hj]; exact q
  have lv : ∀ b, live (ROx ρ' n) (ws ++ hp) b → live ρ' (ws ++ (n, Chunk.rc 0 m 0 []) :: hp) b := fun b ⟨j, g, c, q, x⟩ => ⟨j, g, c, own j g q, r3 _ _ _ x⟩
  refine ⟨v, he, h', ROx ρ' n, _, _, _, ⟨rfl, rfl, rfl⟩, hh, r2, ⟨hm.hh, fun j => ?_, fun j j' g g' b c c' q q' x x' => hm.inj j j' g g' b c c' (own j g q) (own j' g' q') (r3 _ _ _ x) (r3 _ _ _ x'), fun b hb => hm.hid b (lv b hb), fun b hb => hm.lt b (lv b hb), fun k g hk => ?_, fun j g g' x q y => ?_, hm.gl⟩, .pu _ _ (AV.purR_rel hrel hr0), hk, fun b hb => hl b (lv b hb)⟩
  · by_cases hj : j = n
    · subst hj; rw [gn]; trivial
    · have s := hm.ch j
      rw [ge j hj] at s
      rcases gc_app (ws := ws) (hp := hp) j with ⟨_, e⟩ | ⟨c, hcm, e⟩
      · rw [e] at s ⊢
        have sb := Chunk.back hr (hs.ch j) s
        exact Chunk.sat_mono (HLe.refl _) r2 (fun _ _ _ _ _ => rfl) sb
      · rw [e] at s ⊢
        obtain ⟨k1, k2⟩ := hw _ hcm
        exact Chunk.cut s k1 k2
  · unfold ROx
    rw [if_neg (by omega)]
  · have hj : j ≠ n := fun e => by subst e; rw [gn] at q; cases q
    exact hm.gens j g g' x (by rw [ge j hj]; exact q) (r3 _ _ _ y)
end Go.Eng
namespace Go.Proofs.YtgollgfifnmaaaaDoor
open Go.Eng
set_option linter.unusedVariables false
set_option linter.unusedSimpArgs false
set_option maxRecDepth 20000
set_option maxHeartbeats 1000000
theorem flat_le {α β : Type} {f : α → List β} {b : α → Nat} : ∀ {l : List α}, (∀ x ∈ l, (f x).length ≤ b x) → (l.flatMap f).length ≤ (l.map b).sum
  | [], _ => by simp
  | x :: l, h => by
    rw [List.flatMap_cons, List.length_append, List.map_cons, List.sum_cons]
    have h1 := h x (by simp)
    have h2 := flat_le (l := l) fun y hy => h y (by simp [hy])
    omega
theorem wtKs_sum (l : List Pk) (W : Nat) : (l.map fun p => W * (1 + wtKs p.picks)).sum = W * wtKs l := by
  induction l with
  | nil => simp [wtKs]
  | cons x l ih => rw [List.map_cons, List.sum_cons, ih, wtKs, wtK_eq]; simp only [Nat.mul_add]
theorem lsR_flat (doc : List Dfn) (tn : ByteArray) (tw : List Int) (picks : List Pk) (path : List Val) (K : Nat) : ∀ (l : List Val) (j : Nat), (∀ x ∈ l, ∀ path, (cplV doc x tn tw picks path).2.length ≤ wtV x * K) → ((lsR (l.map (cplV doc)) j tn tw picks path).flatMap (·.2)).length ≤ wtL l * K
  | [], j, _ => by rw [List.map_nil, lsR]; simp
  | x :: l, j, h => by
    rw [List.map_cons, lsR, List.flatMap_cons, List.length_append, wtL, Nat.add_mul]
    have h1 := h x (by simp) (path ++ [inV j])
    have h2 := lsR_flat doc tn tw picks path K l (j + 1) fun y hy => h y (by simp [hy])
    omega
theorem filter_sum {α : Type} (q : α → Bool) (f : α → Nat) : ∀ l : List α, ((l.filter q).map f).sum ≤ (l.map f).sum
  | [] => Nat.le_refl _
  | p :: l => by
    have := filter_sum q f l
    rw [List.filter_cons]
    split
    · rw [List.map_cons, List.map_cons, List.sum_cons, List.sum_cons]
      omega
    · rw [List.map_cons, List.sum_cons]
      omega
theorem cpl_count (doc : List Dfn) (v : Val) : ∀ tn tw picks path, (cplV doc v tn tw picks path).2.length ≤ wtV v * (1 + wtKs picks) := by
  have hz : ∀ tn tw picks path, (cplV doc zVal tn tw picks path).2.length ≤ 1 := fun tn tw picks path => by
    rw [cplV_z, zFn, nulR]
    split <;> simp [failR]
  refine Val.ind (Q := fun v => ∀ tn tw picks path, (cplV doc v tn tw picks path).2.length ≤ wtV v * (1 + wtKs picks)) (fun v ih tn tw picks path => ?_) v
  have h1 : 1 ≤ wtV v * (1 + wtKs picks) := Nat.mul_pos (wtV_pos v) (by omega)
  have hle : wtL v.items ≤ wtV v := by rw [wtV_eq]; omega
  refine cplV_cases (Q := fun R => R.2.length ≤ wtV v * (1 + wtKs picks)) (fun s _ => by simpa [failR] using h1) (fun _ => ?_) (fun _ _ => ?_) (fun _ _ _ x _ => by simp) (fun h6 _ _ on _ _ _ => ?_)
  · rw [nulR]
    split
    · simpa [failR] using h1
    · simp
  · dsimp only [listR]
    refine Nat.le_trans (lsR_flat doc tn (innW (nulW tw)) picks path (1 + wtKs picks) v.items 0 fun x hx path => ih x hx _ _ _ _) (Nat.mul_le_mul_right _ hle)
  · dsimp only [objR]
    have hb : ∀ r ∈ obS v.keys (v.items.map (cplV doc)) on path picks, r.2.2.length ≤ wtV v * (1 + wtKs r.1.picks) := fun r hr => by
      obtain ⟨_, _, e⟩ := obS_mem h6 hr
      rw [e]
      cases hg : getV v r.1.key with
      | none => exact Nat.le_trans (hz _ _ _ _) (Nat.mul_pos (wtV_pos v) (by omega))
      | some x =>
        have hx := getV_mem hg
        exact Nat.le_trans (ih x hx _ _ _ _) (Nat.mul_le_mul_right _ (Nat.le_trans (wtL_mem hx) hle))
    have h2 := flat_le (f := fun r : Pk × CRes => r.2.2) (b := fun r => wtV v * (1 + wtKs r.1.picks)) hb
    have h3 : ((obS v.keys (v.items.map (cplV doc)) on path picks).map fun r => wtV v * (1 + wtKs r.1.picks)).sum ≤ wtV v * wtKs picks := by
      rw [← wtKs_sum]
      unfold obS
      rw [List.map_map]
      show ((picks.filter fun p => decide (p.on = on)).map fun p => wtV v * (1 + wtKs p.picks)).sum ≤ _
      exact filter_sum _ _ _
    rw [Nat.mul_add]
    omega
theorem tRun_ok (doc : List Dfn) (hd : DocOk doc) (root : ByteArray) (picks : List Pk) (hpk : PFit picks) (v : Val) (hv : v.Fit) (hr : v.Rng) (hw : wtV v ≤ 10000000000) (hcn : wtV v * (1 + wtKs picks) ≤ 1000000000000) (hp : CH) (m : Nat) :
    MeetsF Tryd.prog 11 hp m [docx doc, .s root, .ds (mapC pkC picks), vx v] (.tp [vx (cplV doc v root [] picks []).1, .ds (mapC prbC (cplV doc v root [] picks []).2)]) := by
  have hC := cpl_ok doc hd v hv hr root [] picks [] (by simp) hpk (by simp; omega)
  have hct := cpl_count doc v root [] picks []
  obtain ⟨R, hRR⟩ : ∃ R, cplV doc v root [] picks [] = R := ⟨_, rfl⟩
  rw [hRR] at hC hct ⊢
  have hNm := tNamed_ok root
  have hRl : R.2.length ≤ 1000000000000 := by omega
  refine meetsF Tryd.func11 (by kernel_rfl) cc911 cr911 rfl fun hf => ?_; unfold ck911
  simp (disch := omega) only [ite_ne, go_sem, ↓reduceIte, Nat.reduceEqDiff, Nat.reduceBEq, Nat.reduceAdd, Nat.reduceLeDiff, Nat.reduceLT, reduceCtorEq, Nat.reduceMul, Nat.reduceSub, Int.reduceEq, Int.reduceLT, Int.reduceLE, Int.reduceToNat]
  refine wk_of ((weak_mq (k := m + 3) (posF doc) ?_).trans (weak_b0 (c := m + 4) (i := 2) (m := 2) (cs := [.ds (mapC dfC doc), .mp (m + 3), .e0]) ?_ rfl)) ?_
  · simp (disch := omega) only [ite_ne, go_sem, ↓reduceIte, Nat.reduceEqDiff, Nat.reduceBEq, Nat.reduceAdd, Nat.reduceLeDiff, Nat.reduceLT, reduceCtorEq, Nat.reduceMul, Nat.reduceSub, Int.reduceEq, Int.reduceLT, Int.reduceLE, Int.reduceToNat]
  · simp (disch := omega) only [ite_ne, go_sem, ↓reduceIte, Nat.reduceEqDiff, Nat.reduceBEq, Nat.reduceAdd, Nat.reduceLeDiff, Nat.reduceLT, reduceCtorEq, Nat.reduceMul, Nat.reduceSub, Int.reduceEq, Int.reduceLT, Int.reduceLE, Int.reduceToNat]
  simp only [List.set_cons_succ, List.set_cons_zero]
  simp (disch := omega) only [ite_ne, go_sem, ↓reduceIte, Nat.reduceEqDiff, Nat.reduceBEq, Nat.reduceAdd, Nat.reduceLeDiff, Nat.reduceLT, reduceCtorEq, Nat.reduceMul, Nat.reduceSub, Int.reduceEq, Int.reduceLT, Int.reduceLE, Int.reduceToNat]
  refine dCallR.f (fun _ hp' e => hNm _ _) ?_
  simp (disch := omega) only [ite_ne, go_sem, ↓reduceIte, Nat.reduceEqDiff, Nat.reduceBEq, Nat.reduceAdd, Nat.reduceLeDiff, Nat.reduceLT, reduceCtorEq, Nat.reduceMul, Nat.reduceSub, Int.reduceEq, Int.reduceLT, Int.reduceLE, Int.reduceToNat]
  refine dCallR.w (ws := wsC doc (posF doc) (m + 4) (m + 3) (m + 5) 0 [] R.2) (wsOk_wsC ⟨?_, ?_, ?_⟩ (by omega) (by omega) (by omega)) rfl
    (fun hp' e => Meets.e0x (i := 3) (m := 5) (args' := [.bx (m + 4) 0, rfx root [], .ds (mapC pkC picks), .rw (m + 18) 0 0, vx v]) rfl rfl (fun hf => ⟨by omega, trivial, by omega, ⟨trivial, (show m + 3 < m + 18 by omega), (show m + 5 < m + 18 by omega), trivial⟩, by omega, trivial, trivial⟩) rfl
      (hC _ (m + 4) (m + 3) (m + 5) 0 [] (m + 18) 0 0 0 _ ⟨?_, ?_, ?_⟩ (gc_same _ _ _) rfl (by simp; omega))) ?_
  case refine_7 =>
    simp only [wsC, List.cons_append, List.nil_append]
    simp (disch := omega) only [ite_ne, List.length_nil, Nat.zero_add, go_sem, ↓reduceIte, Nat.reduceEqDiff, Nat.reduceBEq, Nat.reduceAdd, Nat.reduceLeDiff, Nat.reduceLT, reduceCtorEq, Nat.reduceMul, Nat.reduceSub, Int.reduceEq, Int.reduceLT, Int.reduceLE, Int.reduceToNat]
  all_goals first
    | ((simp (disch := omega) only [ite_ne, go_sem, ↓reduceIte, Nat.reduceEqDiff, Nat.reduceBEq, Nat.reduceAdd, Nat.reduceLeDiff, Nat.reduceLT, reduceCtorEq, Nat.reduceMul, Nat.reduceSub, Int.reduceEq, Int.reduceLT, Int.reduceLE, Int.reduceToNat]); done)
    | (rw [gc_ne _ _ (by omega), e _ (.inl (by omega))]; (simp (disch := omega) only [ite_ne, go_sem, ↓reduceIte, Nat.reduceEqDiff, Nat.reduceBEq, Nat.reduceAdd, Nat.reduceLeDiff, Nat.reduceLT, reduceCtorEq, Nat.reduceMul, Nat.reduceSub, Int.reduceEq, Int.reduceLT, Int.reduceLE, Int.reduceToNat]); done)
    | skip
end Go.Proofs.YtgollgfifnmaaaaDoor
