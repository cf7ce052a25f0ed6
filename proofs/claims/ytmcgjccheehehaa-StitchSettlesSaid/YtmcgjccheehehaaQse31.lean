/-
  The parts SaC of the proof, in one file. Conditions: none.
-/
import Derived.Test.YtmcgjccheehehaaQse30
namespace Go.Proofs.Ytmcgjccheehehaa
open Go.Eng
set_option linter.unusedVariables false
set_option linter.unusedSimpArgs false
set_option maxRecDepth 20000
theorem cOk_lt1 {ks : List Nat} {n : Nat} (h : ∀ k ∈ ks, k < n) {c : Chunk} (o : cOk ks c) : c.lt1 n := by
  cases c with
  | bx cs =>
    intro α hα
    obtain ⟨j, hj⟩ := List.getElem?_of_mem hα
    have := asOk_get (l := cs) o hj
    cases α <;> first
      | exact h _ this
      | (simp [aOk, AV.pur] at this; done)
      | exact this
  | _ => trivial
/-- A contract by which chunks of the caller are written. -/
theorem meetsWs {P : Program} {f : FuncId} {fn : Func} {k : CC} {rs : List RS} (hf : P.funcs[f]? = some fn) (hnm : (fn.name == "runtime.NumGoroutine") = false)
    (hc : fn.body.bind (ccode P fn.ntmps) = some k.erase) (hrs : rsv P fn.ntmps fn.results.toList = some rs) {hp : CH} {n : Nat} {ws : CH} {args : List AV} {r : AV} (hlen : Nat.ble args.length fn.ntmps = true)
    (hk : ∀ k ∈ keys ws, k < n) (hX : ∀ hp k, k ∈ keys ws → (gc (ws ++ hp) k).lt1 n) (hv : (∀ k, n ≤ k → gc hp k = .no) → vc P k ⟨argEnv 0 args, hp, n⟩ (endQ rs (outF (ws ++ hp) n [] r))) : MeetsX P f hp n args (ws ++ hp) n r := by
  have hok := (by obtain ⟨c, hb, hc'⟩ := bd hc; exact ⟨fn, hf, hnm, by rw [hb]; rfl⟩ : ∃ fn, P.funcs[f]? = some fn ∧ (fn.name == "runtime.NumGoroutine") = false ∧ fn.body.isNone = false)
  refine ⟨hok, fun h ρ w vs hs ha => ?_⟩
  refine (Meets.out (outs := []) (fun k _ => ?_) (fun k hkn => ?_) (meets hf hnm hc hrs hlen (hv hs.free))).2 h ρ w vs hs ha
  · by_cases q : k ∈ keys ws
    · exact .inr (hX hp k q)
    · exact .inl (gc_ws_ne q)
  · rw [gc_ws_ne fun q => by have := hk k q; omega]
    exact hs.free k hkn
section
variable {σ : Type} {A : Acc σ}
theorem Acc.Ok.lt1 (hA : A.Ok) (s : σ) {n : Nat} (h : ∀ k ∈ A.ks, k < n) (hp : CH) (k : Nat) (hk : k ∈ Eng.keys (A.W s)) : (gc (A.W s ++ hp) k).lt1 n := by
  have o := hA.ok s s (A.W s) n fun k hk => ⟨h k hk, rfl⟩
  rw [← hA.keys s] at o
  obtain ⟨_, _, h3⟩ := wsOk_mem o hk
  obtain ⟨c, e1, e2⟩ := h3 hp
  rw [e1]
  exact cOk_lt1 (by rw [hA.keys]; exact h) e2
theorem gc_W_in (hA : A.Ok) (s : σ) (hp : CH) {k : Nat} (hk : k ∈ A.ks) : gc (A.W s ++ hp) k = gc (A.W s) k := by
  have := gc_ws_in (ws := A.W s) (hp := hp) (hp' := []) (k := k) (by rw [hA.keys]; exact hk)
  rwa [List.append_nil] at this
theorem sub_Wx (hA : A.Ok) {m : Nat} {s : σ} {hp X : CH} (hf : ∀ k, m ≤ k → gc hp k = .no) (h1 : ∀ k ∈ A.ks, gc X k = gc (A.W s) k) (h2 : ∀ k, k < m → ¬ k ∈ A.ks → gc X k = gc hp k) : Sub X (A.W s ++ hp) := fun j => by
  by_cases hj : j ∈ A.ks
  · left; rw [gc_W_in hA s hp hj, h1 j hj]
  · have e1 : gc (A.W s ++ hp) j = gc hp j := gc_ws_ne (by rw [hA.keys]; exact hj)
    rcases Nat.lt_or_ge j m with q | q
    · left; rw [e1, h2 j q hj]
    · right; rw [e1, hf j q]
theorem up_W (hA : A.Ok) {m : Nat} {s : σ} {hp X : CH} (h : ∀ k, k < m → ¬ k ∈ A.ks → gc X k = gc hp k) : Up m (A.W s ++ hp) (A.W s ++ X) := fun j hj => by
  by_cases q : j ∈ A.ks
  · rw [gc_W_in hA s hp q, gc_W_in hA s X q]
  · rw [gc_ws_ne (by rw [hA.keys]; exact q), gc_ws_ne (by rw [hA.keys]; exact q)]
    exact h j hj q
theorem change_of (hA : A.Ok) (v : Val) (hv : v.Fit) (hvw : wtV v ≤ 100000000000) (ih : ∀ x ∈ v.items, ∀ (p : List Hop) (s : σ), p.length ≤ 1000000000 → A.B s (wtV x) → ∀ hp m, (∀ k ∈ A.ks, k < m ∧ gc hp k = gc (A.W s) k) →
      MeetsX Try.prog 63 hp m [.ds (mapC hopC p), vx x, .fn A.f A.caps] (A.W (chg A.st p x s).2 ++ hp) m (vx (chg A.st p x s).1))
    (p : List Hop) (s : σ) (hpl : p.length ≤ 1000000000) (hB : A.B s (wtV v)) (hp : CH) (m : Nat) (hk : ∀ k ∈ A.ks, k < m ∧ gc hp k = gc (A.W s) k) :
    MeetsX Try.prog 63 hp m [.ds (mapC hopC p), vx v, .fn A.f A.caps] (A.W (chg A.st p v s).2 ++ hp) m (vx (chg A.st p v s).1) := by
  have h1 := hv.i
  have e := chg_eq A.st p v s
  obtain ⟨R, hR⟩ : ∃ R, chg A.st p v s = R := ⟨_, rfl⟩
  rw [hR] at e ⊢
  have hkm : ∀ k ∈ A.ks, k < m := fun k h => (hk k h).1
  refine meetsWs Try.func63 (by kernel_rfl) cc63 cr63 rfl (fun k h => hkm k (by rw [← hA.keys]; exact h)) (fun hp k h => hA.lt1 _ hkm hp k h) fun hf => ?_; unfold ck63
  have hup : Up m (A.W s ++ hp) hp := fun j hj => by
    by_cases q : j ∈ A.ks
    · rw [gc_W_in hA s hp q, (hk j q).2]
    · rw [gc_ws_ne (by rw [hA.keys]; exact q)]
  have gw : ∀ (s : σ) (X : CH) (j : Nat), m ≤ j → gc (A.W s ++ X) j = gc X j := fun s X j hj => gc_ws_ne (by rw [hA.keys]; intro q; have := hkm j q; omega)
  simp only [go_sem, ↓reduceIte, Nat.reduceEqDiff, Nat.reduceBEq, Nat.reduceAdd, Nat.reduceLeDiff, Nat.reduceLT, reduceCtorEq, Nat.reduceMul, Nat.reduceSub, Int.reduceEq, Int.reduceLT, Int.reduceLE, Int.reduceToNat]
  refine cdK_of (fun c => ?_) (fun c => ?_)
  · have c : v.k = 5 := by simpa using c
    rw [if_pos c] at e
    simp only [go_sem, ↓reduceIte, Nat.reduceEqDiff, Nat.reduceBEq, Nat.reduceAdd, Nat.reduceLeDiff, Nat.reduceLT, reduceCtorEq, Nat.reduceMul, Nat.reduceSub, Int.reduceEq, Int.reduceLT, Int.reduceLE, Int.reduceToNat]
    refine vcCall.x (copy_r v hv _ _) ?_
    simp only [go_sem, ↓reduceIte, Nat.reduceEqDiff, Nat.reduceBEq, Nat.reduceAdd, Nat.reduceLeDiff, Nat.reduceLT, reduceCtorEq, Nat.reduceMul, Nat.reduceSub, Int.reduceEq, Int.reduceLT, Int.reduceLE, Int.reduceToNat]
    have hb0 : A.B s (wtL v.items) := hA.mono s (1 + v.keys.length) _ (by rw [show 1 + v.keys.length + wtL v.items = wtV v by rw [wtV_eq]; omega]; exact hB)
    refine loop (fun p' : Nat × List Val × σ × Nat => ⟨[(0, .ds (mapC hopC p)), (2, .fn A.f A.caps), (6, .bx (m + 1) 0), (7, .bx (m + 4) 0), (19, .ds (mapC valC v.items)), (20, .i .i64 v.items.length), (21, .i .i64 p'.1)],
        (m + 4, .bx [.i .i64 v.k, .i .i64 v.n, .s v.s, .rw (m + 2) 0 v.items.length, .rw (m + 3) 0 v.keys.length]) :: (m + 2, .rw 0 5 (mapC valC (p'.2.1 ++ v.items.drop p'.1))) :: (m + 3, .rw 0 1 (stC v.keys)) :: (m + 1, .bx [.i .i64 0, .i .i64 0, .s ⟨#[]⟩, .e0, .e0]) :: (A.W p'.2.2.1 ++ hp), p'.2.2.2⟩)
      (fun p' => p'.1 ≤ v.items.length ∧ m + 5 ≤ p'.2.2.2 ∧ p'.2.1.length = p'.1 ∧ chgL A.st p (v.items.take p'.1) s = (p'.2.1, p'.2.2.1) ∧ A.B p'.2.2.1 (wtL (v.items.drop p'.1))) (fun p' => v.items.length - p'.1) (0, [], s, m + 5) ?_ ?_ (fun ⟨j, l, t, n⟩ hj => ?_)
    · exact ⟨by simp, by simp, rfl, by simp only [List.take_zero]; rw [chgL], hb0⟩
    · refine weak_ok ?_ (Sub.cons ?_ (Sub.cons ?_ (Sub.cons ?_ (Sub.cons ?_ (sub_Wx hA hf (fun k hk' => ?_) fun k hk' hn => ?_))))) (Nat.le_refl _)
      · simp only [go_sem, ↓reduceIte, Nat.reduceEqDiff, Nat.reduceBEq, Nat.reduceAdd, Nat.reduceLeDiff, Nat.reduceLT, reduceCtorEq, Nat.reduceMul, Nat.reduceSub, Int.reduceEq, Int.reduceLT, Int.reduceLE, Int.reduceToNat]
      · simp only [go_sem, ↓reduceIte, Nat.reduceEqDiff, Nat.reduceBEq, Nat.reduceAdd, Nat.reduceLeDiff, Nat.reduceLT, reduceCtorEq, Nat.reduceMul, Nat.reduceSub, Int.reduceEq, Int.reduceLT, Int.reduceLE, Int.reduceToNat]
      · simp only [go_sem, ↓reduceIte, Nat.reduceEqDiff, Nat.reduceBEq, Nat.reduceAdd, Nat.reduceLeDiff, Nat.reduceLT, reduceCtorEq, Nat.reduceMul, Nat.reduceSub, Int.reduceEq, Int.reduceLT, Int.reduceLE, Int.reduceToNat]
      · simp only [go_sem, ↓reduceIte, Nat.reduceEqDiff, Nat.reduceBEq, Nat.reduceAdd, Nat.reduceLeDiff, Nat.reduceLT, reduceCtorEq, Nat.reduceMul, Nat.reduceSub, Int.reduceEq, Int.reduceLT, Int.reduceLE, Int.reduceToNat]
      · simp only [go_sem, ↓reduceIte, Nat.reduceEqDiff, Nat.reduceBEq, Nat.reduceAdd, Nat.reduceLeDiff, Nat.reduceLT, reduceCtorEq, Nat.reduceMul, Nat.reduceSub, Int.reduceEq, Int.reduceLT, Int.reduceLE, Int.reduceToNat]
      · have := hkm k hk'
        simp only [gc_cons]
        repeat rw [if_neg (by omega)]
        exact (hk k hk').2
      · simp only [gc_cons]
        repeat rw [if_neg (by omega)]
    dsimp only at hj
    obtain ⟨hj1, hj2, hj3, hj4, hj5⟩ := hj
    have z1 : ¬ n = m + 1 := by omega
    have z2 : ¬ n = m + 2 := by omega
    have z3 : ¬ n = m + 3 := by omega
    have z4 : ¬ n = m + 4 := by omega
    have z5 : ¬ n = m := by omega
    have z6 : m ≤ n := by omega
    have g0 := fun s X => gw s X n (by omega)
    have g1 := fun s X => gw s X (m + 1) (by omega)
    have g2 := fun s X => gw s X (m + 2) (by omega)
    have g3 := fun s X => gw s X (m + 3) (by omega)
    have g4 := fun s X => gw s X (m + 4) (by omega)
    simp only [z1, z2, z3, z4, z5, z6, g0, g1, g2, g3, g4, go_sem, ↓reduceIte, Nat.reduceEqDiff, Nat.reduceBEq, Nat.reduceAdd, Nat.reduceLeDiff, Nat.reduceLT, reduceCtorEq, Nat.reduceMul, Nat.reduceSub, Int.reduceEq, Int.reduceLT, Int.reduceLE, Int.reduceToNat]
    refine cdK_of (fun d => ?_) (fun d => ?_)
    · have d : j < v.items.length := by simpa using d
      obtain ⟨x, ex⟩ : ∃ x, v.items[j]? = some x := ⟨v.items[j], by simp [d]⟩
      have hxm := List.mem_of_getElem? ex
      rw [drop_at ex, wtL] at hj5
      have hBx : A.B t (wtV x) := hA.mono t (wtL (v.items.drop (j + 1))) _ (by rw [Nat.add_comm]; exact hj5)
      have hnext := (chg_B hA x (hv.x hxm) (by have := wtL_mem hxm; have := wtV_eq v; omega) p t _ hj5).1
      have hsn := chgL_snoc A.st p x (v.items.take j) s
      rw [take_snoc ex, hj4] at hsn
      dsimp only at hsn
      obtain ⟨Y, hY⟩ : ∃ Y, chg A.st p x t = Y := ⟨_, rfl⟩
      have hi := ih x hxm p t hpl hBx
      rw [hY] at hsn hnext hi
      simp only [z1, z2, z3, z4, z5, z6, g0, g1, g2, g3, g4, d, getK_s (mapC_get valC ex), go_sem, ↓reduceIte, Nat.reduceEqDiff, Nat.reduceBEq, Nat.reduceAdd, Nat.reduceLeDiff, Nat.reduceLT, reduceCtorEq, Nat.reduceMul, Nat.reduceSub, Int.reduceEq, Int.reduceLT, Int.reduceLE, Int.reduceToNat]
      refine dCallR.w (ws := A.W Y.2) ?_ rfl (fun hp' hh => hi hp' _ fun k hk' => ?_) ?_
      · rw [hA.keys]
        refine hA.ok t Y.2 _ _ fun k hk' => ?_
        have := hkm k hk'
        refine ⟨by omega, ?_⟩
        simp only [gc_cons]
        repeat rw [if_neg (by omega)]
        exact gc_W_in hA t hp hk'
      · have := hkm k hk'
        refine ⟨by omega, ?_⟩
        rw [hh k (.inl (by omega))]
        simp only [gc_cons]
        repeat rw [if_neg (by omega)]
        exact gc_W_in hA t hp hk'
      have hdis : dis (keys (A.W Y.2)) [m + 4] := fun a ha b hb => by
        rw [hA.keys] at ha
        have := hkm a ha
        simp at hb
        omega
      have hlen : v.items.length ≤ (l ++ v.items.drop j).length := by simp; omega
      have hat : (l ++ v.items.drop j)[j]? = some x := by
        rw [List.getElem?_append_right (by omega), hj3, Nat.sub_self]
        simp [ex]
      have htk : List.take v.items.length (l ++ v.items.drop j) = l ++ v.items.drop j := List.take_of_length_le (by simp; omega)
      have hset : (l ++ v.items.drop j).set j Y.1 = l ++ [Y.1] ++ v.items.drop (j + 1) := by
        rw [List.set_append_right _ _ (by omega), hj3, Nat.sub_self, drop_at ex, List.set_cons_zero, List.append_assoc, List.singleton_append]
      simp only [z1, z2, z3, z4, z5, z6, g0, g1, g2, g3, g4, d, hlen, htk, mapC_get valC hat, go_sem, ↓reduceIte, Nat.reduceEqDiff, Nat.reduceBEq, Nat.reduceAdd, Nat.reduceLeDiff, Nat.reduceLT, reduceCtorEq, Nat.reduceMul, Nat.reduceSub, Int.reduceEq, Int.reduceLT, Int.reduceLE, Int.reduceToNat]
      refine ⟨hdis, by simp; omega, (j + 1, l ++ [Y.1], Y.2, n + 10), ⟨d, by dsimp only; omega, by simp [hj3], hsn, hnext⟩, by dsimp only; omega, weak_ok ?_ (Sub.cons ?_ (Sub.cons ?_ (Sub.cons ?_ (Sub.cons ?_ (sub_Wx (s := Y.2) hA hf (fun k hk' => ?_) fun k hk' hn => ?_))))) (Nat.le_refl _)⟩
      · simp only [z1, z2, z3, z4, z5, z6, g0, g1, g2, g3, g4, d, go_sem, ↓reduceIte, Nat.reduceEqDiff, Nat.reduceBEq, Nat.reduceAdd, Nat.reduceLeDiff, Nat.reduceLT, reduceCtorEq, Nat.reduceMul, Nat.reduceSub, Int.reduceEq, Int.reduceLT, Int.reduceLE, Int.reduceToNat]
        exact congrArg _ (wr64s j (by omega))
      · simp only [z1, z2, z3, z4, z5, z6, g0, g1, g2, g3, g4, d, hset, go_sem, ↓reduceIte, Nat.reduceEqDiff, Nat.reduceBEq, Nat.reduceAdd, Nat.reduceLeDiff, Nat.reduceLT, reduceCtorEq, Nat.reduceMul, Nat.reduceSub, Int.reduceEq, Int.reduceLT, Int.reduceLE, Int.reduceToNat]
      · simp only [z1, z2, z3, z4, z5, z6, g0, g1, g2, g3, g4, d, hset, go_sem, ↓reduceIte, Nat.reduceEqDiff, Nat.reduceBEq, Nat.reduceAdd, Nat.reduceLeDiff, Nat.reduceLT, reduceCtorEq, Nat.reduceMul, Nat.reduceSub, Int.reduceEq, Int.reduceLT, Int.reduceLE, Int.reduceToNat]
      · simp only [z1, z2, z3, z4, z5, z6, g0, g1, g2, g3, g4, d, hset, go_sem, ↓reduceIte, Nat.reduceEqDiff, Nat.reduceBEq, Nat.reduceAdd, Nat.reduceLeDiff, Nat.reduceLT, reduceCtorEq, Nat.reduceMul, Nat.reduceSub, Int.reduceEq, Int.reduceLT, Int.reduceLE, Int.reduceToNat]
      · simp only [z1, z2, z3, z4, z5, z6, g0, g1, g2, g3, g4, d, hset, go_sem, ↓reduceIte, Nat.reduceEqDiff, Nat.reduceBEq, Nat.reduceAdd, Nat.reduceLeDiff, Nat.reduceLT, reduceCtorEq, Nat.reduceMul, Nat.reduceSub, Int.reduceEq, Int.reduceLT, Int.reduceLE, Int.reduceToNat]
      · have := hkm k hk'
        simp only [gc_cons]
        repeat rw [if_neg (by omega)]
        exact gc_W_in hA Y.2 _ hk'
      · simp only [gc_cons]
        repeat rw [if_neg (by omega)]
        have e1 : ∀ X, gc (A.W Y.2 ++ X) k = gc X k := fun X => gc_ws_ne (by rw [hA.keys]; exact hn)
        have e2 : ∀ X, gc (A.W t ++ X) k = gc X k := fun X => gc_ws_ne (by rw [hA.keys]; exact hn)
        simp only [e1, e2, gc_cons]
        repeat rw [if_neg (by omega)]
    · have d : j = v.items.length := by simp at d; omega
      subst d
      rw [List.take_length] at hj4
      rw [hj4] at e
      subst e
      rw [List.drop_length, List.append_nil]
      have hle : v.items.length ≤ l.length := by omega
      have htk : List.take v.items.length l = l := List.take_of_length_le (by omega)
      simp only [z1, z2, z3, z4, z5, z6, g0, g1, g2, g3, g4, hle, htk, go_sem, ↓reduceIte, Nat.reduceEqDiff, Nat.reduceBEq, Nat.reduceAdd, Nat.reduceLeDiff, Nat.reduceLT, reduceCtorEq, Nat.reduceMul, Nat.reduceSub, Int.reduceEq, Int.reduceLT, Int.reduceLE, Int.reduceToNat]
  have c : ¬ v.k = 5 := by simpa using c
  rw [if_neg c] at e
  simp only [go_sem, ↓reduceIte, Nat.reduceEqDiff, Nat.reduceBEq, Nat.reduceAdd, Nat.reduceLeDiff, Nat.reduceLT, reduceCtorEq, Nat.reduceMul, Nat.reduceSub, Int.reduceEq, Int.reduceLT, Int.reduceLE, Int.reduceToNat]
  refine cdK_of (fun c2 => ?_) (fun c2 => ?_)
  · simp only [Bool.and_eq_true, decide_eq_true_eq] at c2
    obtain ⟨c3, c4⟩ := c2
    have hp0 : p = [] := List.length_eq_zero_iff.1 (by omega)
    subst hp0
    rw [if_pos c3] at e
    dsimp only at e
    have hcall := hA.call s v hv hvw (hA.mono s (wtV v - 1) _ (by rw [show wtV v - 1 + 1 = wtV v by rw [wtV_eq]; omega]; exact hB))
    rw [← e] at hcall
    simp only [go_sem, ↓reduceIte, Nat.reduceEqDiff, Nat.reduceBEq, Nat.reduceAdd, Nat.reduceLeDiff, Nat.reduceLT, reduceCtorEq, Nat.reduceMul, Nat.reduceSub, Int.reduceEq, Int.reduceLT, Int.reduceLE, Int.reduceToNat]
    refine vcCall.x (hcall _ _ fun k hk' => ?_) ?_
    · have := hkm k hk'
      refine ⟨by omega, ?_⟩
      simp only [gc_cons]
      repeat rw [if_neg (by omega)]
      exact (hk k hk').2
    have g0 := fun s X => gw s X m (by omega)
    have g1 := fun s X => gw s X (m + 1) (by omega)
    simp only [g0, g1, go_sem, ↓reduceIte, Nat.reduceEqDiff, Nat.reduceBEq, Nat.reduceAdd, Nat.reduceLeDiff, Nat.reduceLT, reduceCtorEq, Nat.reduceMul, Nat.reduceSub, Int.reduceEq, Int.reduceLT, Int.reduceLE, Int.reduceToNat]
    refine up_W hA fun k hk' hn => ?_
    simp only [gc_cons]
    repeat rw [if_neg (by omega)]
  have c3 : ¬ (v.k = 6 ∧ p.length = 0) := by
    intro q
    simp [q.1, q.2] at c2
  have g0 := fun s X => gw s X m (by omega)
  have g1 := fun s X => gw s X (m + 1) (by omega)
  cases p with
  | nil =>
    have c4 : ¬ v.k = 6 := fun q => c3 ⟨q, rfl⟩
    rw [if_neg c4] at e
    subst e
    simp only [g0, g1, c4, go_sem, ↓reduceIte, Nat.reduceEqDiff, Nat.reduceBEq, Nat.reduceAdd, Nat.reduceLeDiff, Nat.reduceLT, reduceCtorEq, Nat.reduceMul, Nat.reduceSub, Int.reduceEq, Int.reduceLT, Int.reduceLE, Int.reduceToNat]
    first | refine dCallR.f (fun _ _ _ => stypeOf_ok v hv _ _) ?_ | refine dCall.f (fun _ _ _ => stypeOf_ok v hv _ _) ?_
    simp only [go_sem, ↓reduceIte, Nat.reduceEqDiff, Nat.reduceBEq, Nat.reduceAdd, Nat.reduceLeDiff, Nat.reduceLT, reduceCtorEq, Nat.reduceMul, Nat.reduceSub, Int.reduceEq, Int.reduceLT, Int.reduceLE, Int.reduceToNat]
    simp only [g0, g1, c4, List.getElem?_nil, Option.map_none, Option.getD_none, go_sem, ↓reduceIte, Nat.reduceEqDiff, Nat.reduceBEq, Nat.reduceAdd, Nat.reduceLeDiff, Nat.reduceLT, reduceCtorEq, Nat.reduceMul, Nat.reduceSub, Int.reduceEq, Int.reduceLT, Int.reduceLE, Int.reduceToNat]
    refine vcCall.f (copy_ok v hv _ _) ?_
    simp only [go_sem, ↓reduceIte, Nat.reduceEqDiff, Nat.reduceBEq, Nat.reduceAdd, Nat.reduceLeDiff, Nat.reduceLT, reduceCtorEq, Nat.reduceMul, Nat.reduceSub, Int.reduceEq, Int.reduceLT, Int.reduceLE, Int.reduceToNat]
    exact hup
  | cons h p' =>
    simp only [g0, g1, go_sem, ↓reduceIte, Nat.reduceEqDiff, Nat.reduceBEq, Nat.reduceAdd, Nat.reduceLeDiff, Nat.reduceLT, reduceCtorEq, Nat.reduceMul, Nat.reduceSub, Int.reduceEq, Int.reduceLT, Int.reduceLE, Int.reduceToNat]
    first | refine dCallR.f (fun _ _ _ => stypeOf_ok v hv _ _) ?_ | refine dCall.f (fun _ _ _ => stypeOf_ok v hv _ _) ?_
    simp only [go_sem, ↓reduceIte, Nat.reduceEqDiff, Nat.reduceBEq, Nat.reduceAdd, Nat.reduceLeDiff, Nat.reduceLT, reduceCtorEq, Nat.reduceMul, Nat.reduceSub, Int.reduceEq, Int.reduceLT, Int.reduceLE, Int.reduceToNat]
    refine cdK_of (fun c4 => ?_) (fun c4 => ?_)
    · have c4 : v.k = 6 ∧ h.o = typT v := by simpa using c4
      rw [if_pos c4.1] at e
      dsimp only at e
      simp only [g0, g1, go_sem, ↓reduceIte, Nat.reduceEqDiff, Nat.reduceBEq, Nat.reduceAdd, Nat.reduceLeDiff, Nat.reduceLT, reduceCtorEq, Nat.reduceMul, Nat.reduceSub, Int.reduceEq, Int.reduceLT, Int.reduceLE, Int.reduceToNat]
      first | refine dCallR.f (fun _ _ _ => sindex_ok v hv h.k _ _) ?_ | refine dCall.f (fun _ _ _ => sindex_ok v hv h.k _ _) ?_
      simp only [go_sem, ↓reduceIte, Nat.reduceEqDiff, Nat.reduceBEq, Nat.reduceAdd, Nat.reduceLeDiff, Nat.reduceLT, reduceCtorEq, Nat.reduceMul, Nat.reduceSub, Int.reduceEq, Int.reduceLT, Int.reduceLE, Int.reduceToNat]
      refine cdK_of (fun c5 => ?_) (fun c5 => ?_)
      · have c5 : ¬ 0 ≤ ixO v h.k := by simpa using c5
        rw [if_neg (fun q => c5 q.2)] at e
        subst e
        simp only [g0, g1, go_sem, ↓reduceIte, Nat.reduceEqDiff, Nat.reduceBEq, Nat.reduceAdd, Nat.reduceLeDiff, Nat.reduceLT, reduceCtorEq, Nat.reduceMul, Nat.reduceSub, Int.reduceEq, Int.reduceLT, Int.reduceLE, Int.reduceToNat]
        refine vcCall.f (copy_ok v hv _ _) ?_
        simp only [go_sem, ↓reduceIte, Nat.reduceEqDiff, Nat.reduceBEq, Nat.reduceAdd, Nat.reduceLeDiff, Nat.reduceLT, reduceCtorEq, Nat.reduceMul, Nat.reduceSub, Int.reduceEq, Int.reduceLT, Int.reduceLE, Int.reduceToNat]
        exact hup
      · have c5 : 0 ≤ ixO v h.k := by simpa using c5
        rw [if_pos ⟨c4.2, c5⟩] at e
        have hi : (ixO v h.k).toNat < v.items.length := by
          have h1 := ix_lt h.k (v.keys.take (szO v)) 0
          have h2 := szO_le v
          have h3 : ix h.k (v.keys.take (szO v)) 0 = ixO v h.k := rfl
          rw [h3] at h1
          simp at h1
          omega
        obtain ⟨J, hJ⟩ : ∃ J : Nat, ixO v h.k = J := ⟨(ixO v h.k).toNat, by omega⟩
        rw [hJ] at e hi
        rw [hJ]
        rw [Int.toNat_natCast] at e hi
        simp only [g0, g1, go_sem, ↓reduceIte, Nat.reduceEqDiff, Nat.reduceBEq, Nat.reduceAdd, Nat.reduceLeDiff, Nat.reduceLT, reduceCtorEq, Nat.reduceMul, Nat.reduceSub, Int.reduceEq, Int.reduceLT, Int.reduceLE, Int.reduceToNat]
        refine vcCall.x (copy_r v hv _ _) ?_
        have g3 := fun s X => gw s X (m + 15) (by omega)
        have g4 := fun s X => gw s X (m + 15 + 1) (by omega)
        obtain ⟨x, ex⟩ : ∃ x, v.items[J]? = some x := ⟨v.items[J], by simp [hi]⟩
        have hxm := List.mem_of_getElem? ex
        simp only [g0, g1, g3, g4, getK_s (mapC_get valC ex), go_sem, ↓reduceIte, Nat.reduceEqDiff, Nat.reduceBEq, Nat.reduceAdd, Nat.reduceLeDiff, Nat.reduceLT, reduceCtorEq, Nat.reduceMul, Nat.reduceSub, Int.reduceEq, Int.reduceLT, Int.reduceLE, Int.reduceToNat]
        refine ⟨by omega, hi, ?_⟩
        have hpl' : p'.length ≤ 1000000000 := by simp only [List.length_cons] at hpl; omega
        have hBx : A.B s (wtV x) := hA.mono s (wtV v - wtV x) _ (by rw [show wtV v - wtV x + wtV x = wtV v by have := wtL_mem hxm; have := wtV_eq v; omega]; exact hB)
        rw [chgN_at A.st p' _ _ _ s ex] at e
        obtain ⟨Y, hY⟩ : ∃ Y, chg A.st p' x s = Y := ⟨_, rfl⟩
        have hix := ih x hxm p' s hpl' hBx
        rw [hY] at e hix
        refine dCallR.w (ws := A.W Y.2) ?_ rfl (fun hp' hh => hix hp' _ fun k hk' => ?_) ?_
        · rw [hA.keys]
          refine hA.ok s Y.2 _ _ fun k hk' => ?_
          have := hkm k hk'
          refine ⟨by omega, ?_⟩
          simp only [gc_cons]
          repeat rw [if_neg (by omega)]
          exact (hk k hk').2
        · have := hkm k hk'
          refine ⟨by omega, ?_⟩
          rw [hh k (.inl (by omega))]
          simp only [gc_cons]
          repeat rw [if_neg (by omega)]
          exact (hk k hk').2
        have hdis : dis (keys (A.W Y.2)) [m + 24] := fun a ha b hb => by
          rw [hA.keys] at ha
          have := hkm a ha
          simp at hb
          omega
        have g5 := fun s X => gw s X (m + 22) (by omega)
        have g6 := fun s X => gw s X (m + 23) (by omega)
        have g7 := fun s X => gw s X (m + 24) (by omega)
        subst e
        simp only [g0, g1, g3, g4, g5, g6, g7, mapC_get valC ex, go_sem, ↓reduceIte, Nat.reduceEqDiff, Nat.reduceBEq, Nat.reduceAdd, Nat.reduceLeDiff, Nat.reduceLT, reduceCtorEq, Nat.reduceMul, Nat.reduceSub, Int.reduceEq, Int.reduceLT, Int.reduceLE, Int.reduceToNat]
        refine ⟨hdis, hi, up_W hA fun k hk' hn => ?_⟩
        simp only [gc_cons]
        repeat rw [if_neg (by omega)]
    · have c4 : ¬ (v.k = 6 ∧ h.o = typT v) := by simpa using c4
      have e : R = (v, s) := by
        rw [e]
        split
        · rename_i q
          dsimp only
          rw [if_neg (fun q' => c4 ⟨q, q'.1⟩)]
        · rfl
      subst e
      simp only [g0, g1, go_sem, ↓reduceIte, Nat.reduceEqDiff, Nat.reduceBEq, Nat.reduceAdd, Nat.reduceLeDiff, Nat.reduceLT, reduceCtorEq, Nat.reduceMul, Nat.reduceSub, Int.reduceEq, Int.reduceLT, Int.reduceLE, Int.reduceToNat]
      refine vcCall.f (copy_ok v hv _ _) ?_
      simp only [go_sem, ↓reduceIte, Nat.reduceEqDiff, Nat.reduceBEq, Nat.reduceAdd, Nat.reduceLeDiff, Nat.reduceLT, reduceCtorEq, Nat.reduceMul, Nat.reduceSub, Int.reduceEq, Int.reduceLT, Int.reduceLE, Int.reduceToNat]
      exact hup
theorem change_ok (hA : A.Ok) (v : Val) (hv : v.Fit) (hvw : wtV v ≤ 100000000000) : ∀ (p : List Hop) (s : σ), p.length ≤ 1000000000 → A.B s (wtV v) → ∀ hp m, (∀ k ∈ A.ks, k < m ∧ gc hp k = gc (A.W s) k) →
      MeetsX Try.prog 63 hp m [.ds (mapC hopC p), vx v, .fn A.f A.caps] (A.W (chg A.st p v s).2 ++ hp) m (vx (chg A.st p v s).1) := by
  have := Val.ind (Q := fun v => v.Fit → wtV v ≤ 100000000000 → ∀ (p : List Hop) (s : σ), p.length ≤ 1000000000 → A.B s (wtV v) → ∀ hp m, (∀ k ∈ A.ks, k < m ∧ gc hp k = gc (A.W s) k) →
      MeetsX Try.prog 63 hp m [.ds (mapC hopC p), vx v, .fn A.f A.caps] (A.W (chg A.st p v s).2 ++ hp) m (vx (chg A.st p v s).1)) (fun v ih hv hvw p s h1 h2 hp m hk => change_of hA v hv hvw (fun x hx p s h1 h2 => ih x hx (hv.x hx) (by have := wtL_mem hx; have := wtV_eq v; omega) p s h1 h2) p s h1 h2 hp m hk) v
  exact this hv hvw
end
end Go.Proofs.Ytmcgjccheehehaa
