/-
  The parts CmG CmH of the proof, in one file. Conditions: none.
-/
import Derived.Test.YtgollgfifnmaaaaDoorCmS136
namespace Go.Proofs.YtgollgfifnmaaaaDoor
open Go.Eng
set_option linter.unusedVariables false
set_option linter.unusedSimpArgs false
set_option maxRecDepth 20000
set_option maxHeartbeats 1000000
theorem snoc_prb (l : List Prb) (p : List Val) (s : ByteArray) : mapC prbC l ++ [[AV.ds (mapC valC p), AV.s s]] = mapC prbC (l ++ [.mk p s]) := mapC_snoc prbC l (.mk p s)
attribute [go_sem] snoc_prb
/-- The state of a completion in memory. -/
structure RunH (doc : List Dfn) (F : ByteArray → AV) (hp : CH) (c km kp gp : Nat) (P : List Prb) : Prop where
  hc : gc hp c = .bx [.ds (mapC dfC doc), .mp km, .rw kp gp P.length]
  hm : gc hp km = .mq F
  hk : gc hp kp = .rw gp 2 (mapC prbC P)
def wsC (doc : List Dfn) (F : ByteArray → AV) (c km kp gp : Nat) (P R : List Prb) : CH :=
  [(kp, .rw (gp + R.length) 2 (mapC prbC (P ++ R))), (c, .bx [.ds (mapC dfC doc), .mp km, .rw kp (gp + R.length) (P.length + R.length)]), (km, .mq F)]
section
variable {doc : List Dfn} {F : ByteArray → AV} {hp : CH} {c km kp gp : Nat} {P R : List Prb}
theorem RunH.n1 (h : RunH doc F hp c km kp gp P) : ¬ c = km := fun e => by have := h.hc; rw [e, h.hm] at this; cases this
theorem RunH.n2 (h : RunH doc F hp c km kp gp P) : ¬ c = kp := fun e => by have := h.hc; rw [e, h.hk] at this; cases this
theorem RunH.n3 (h : RunH doc F hp c km kp gp P) : ¬ km = kp := fun e => by have := h.hm; rw [e, h.hk] at this; cases this
theorem free_lt {hp : CH} {n k : Nat} {X : Chunk} (hf : ∀ k, n ≤ k → gc hp k = .no) (h : gc hp k = X) (hX : X ≠ .no) : k < n := by
  rcases Nat.lt_or_ge k n with q | q
  · exact q
  · exact absurd (h.symm.trans (hf k q)) hX
theorem RunH.lt {n : Nat} (h : RunH doc F hp c km kp gp P) (hf : ∀ k, n ≤ k → gc hp k = .no) : c < n ∧ km < n ∧ kp < n :=
  ⟨free_lt hf h.hc (fun e => by cases e), free_lt hf h.hm (fun e => by cases e), free_lt hf h.hk (fun e => by cases e)⟩
theorem RunH.wsLt {n : Nat} (h : RunH doc F hp c km kp gp P) (hf : ∀ k, n ≤ k → gc hp k = .no) : wsLt n (wsC doc F c km kp gp P R) := by
  obtain ⟨h1, h2, h3⟩ := h.lt hf
  refine ⟨h3, trivial, h1, ?_, h2, trivial, trivial⟩
  intro α hα
  simp only [List.mem_cons, List.not_mem_nil, or_false] at hα
  rcases hα with rfl | rfl | rfl
  · rfl
  · exact h2
  · exact h3
/-- Memory behind a part of the completion. -/
theorem up_wsC {n : Nat} {hp' : CH} (h : RunH doc F hp c km kp gp P) (h1 : gc hp' kp = .rw (gp + R.length) 2 (mapC prbC (P ++ R))) (h2 : gc hp' c = .bx [.ds (mapC dfC doc), .mp km, .rw kp (gp + R.length) (P.length + R.length)]) (h3 : gc hp' km = .mq F)
    (h4 : ∀ j, j < n → j ≠ c → j ≠ km → j ≠ kp → gc hp' j = gc hp j) : Up n (wsC doc F c km kp gp P R ++ hp) hp' := fun j hj => by
  simp only [wsC, List.cons_append, List.nil_append]
  by_cases e1 : kp = j
  · subst e1; rw [gc_same, h1]
  · rw [gc_ne _ _ e1]
    by_cases e2 : c = j
    · subst e2; rw [gc_same, h2]
    · rw [gc_ne _ _ e2]
      by_cases e3 : km = j
      · subst e3; rw [gc_same, h3]
      · rw [gc_ne _ _ e3]
        exact h4 j hj (fun e => e2 e.symm) (fun e => e3 e.symm) (fun e => e1 e.symm)
theorem gc_wsC (h : RunH doc F hp c km kp gp P) (hp2 : CH) : gc (wsC doc F c km kp gp P R ++ hp2) kp = .rw (gp + R.length) 2 (mapC prbC (P ++ R)) ∧ gc (wsC doc F c km kp gp P R ++ hp2) c = .bx [.ds (mapC dfC doc), .mp km, .rw kp (gp + R.length) (P.length + R.length)] ∧
    gc (wsC doc F c km kp gp P R ++ hp2) km = .mq F ∧ ∀ j, j ≠ c → j ≠ km → j ≠ kp → gc (wsC doc F c km kp gp P R ++ hp2) j = gc hp2 j := by
  simp only [wsC, List.cons_append, List.nil_append]
  have n1 := h.n1
  have n2 := h.n2
  have n3 := h.n3
  refine ⟨gc_same _ _ _, ?_, ?_, fun j j1 j2 j3 => ?_⟩
  · rw [gc_ne _ _ (fun e => n2 e.symm), gc_same]
  · rw [gc_ne _ _ (fun e => n3 e.symm), gc_ne _ _ n1, gc_same]
  · rw [gc_ne _ _ (fun e => j3 e.symm), gc_ne _ _ (fun e => j1 e.symm), gc_ne _ _ (fun e => j2 e.symm)]
theorem RunH.ws (h : RunH doc F hp c km kp gp P) (hp2 : CH) : RunH doc F (wsC doc F c km kp gp P R ++ hp2) c km kp (gp + R.length) (P ++ R) := by
  obtain ⟨h1, h2, h3, _⟩ := gc_wsC (R := R) h hp2
  exact ⟨by rw [List.length_append]; exact h2, h3, h1⟩
theorem RunH.of {hp' : CH} (h : RunH doc F hp c km kp gp P) (e : ∀ j, (j = c ∨ j = km ∨ j = kp) → gc hp' j = gc hp j) : RunH doc F hp' c km kp gp P :=
  ⟨(e c (.inl rfl)).trans h.hc, (e km (.inr (.inl rfl))).trans h.hm, (e kp (.inr (.inr rfl))).trans h.hk⟩
end
theorem vclone_r (l : List Val) (h : l.length ≤ 1000000000000) (k g len : Nat) (hp : CH) (hk : gc hp k = .rw g 5 (mapC valC l)) (he : len = l.length) (m : Nat) : MeetsF Tryd.prog 89 hp m [.rw k g len] (.ds (mapC valC l)) := by
  subst he
  refine meetsF Tryd.func89 (by kernel_rfl) cc89 cr89 rfl fun hf => ?_; unfold ck89
  have hlt : k < m := free_lt hf hk (fun e => by cases e)
  simp (disch := omega) only [ite_ne, hk, go_sem, ↓reduceIte, Nat.reduceEqDiff, Nat.reduceBEq, Nat.reduceAdd, Nat.reduceLeDiff, Nat.reduceLT, reduceCtorEq, Nat.reduceMul, Nat.reduceSub, Int.reduceEq, Int.reduceLT, Int.reduceLE, Int.reduceToNat]
  exact ⟨fun e => by rw [List.eq_nil_of_length_eq_zero (e trivial)]; rfl, by omega, by omega⟩
/-- A problem more. -/
theorem fail_rw {doc : List Dfn} {F : ByteArray → AV} {hp : CH} {c km kp gp : Nat} {P : List Prb} (h : RunH doc F hp c km kp gp P) (path : List Val) (hpl : path.length ≤ 1000000000000) (hP : P.length ≤ 1000000000000) (s : ByteArray) (kq gq : Nat) (hq : gc hp kq = .rw gq 5 (mapC valC path)) (n : Nat) :
    MeetsX Tryd.prog 71 hp n [.bx c 0, .rw kq gq path.length, .s s] (wsC doc F c km kp gp P [.mk path s] ++ hp) n (vx zVal) := by
  have hWS : (∀ k, n ≤ k → gc hp k = .no) → wsLt n (wsC doc F c km kp gp P [.mk path s]) := fun hf => h.wsLt hf
  have n1 := h.n1
  have n2 := h.n2
  have n3 := h.n3
  have m1 : ¬ km = c := fun e => n1 e.symm
  have m2 : ¬ kp = c := fun e => n2 e.symm
  have m3 : ¬ kp = km := fun e => n3 e.symm
  have hc := h.hc
  have hm := h.hm
  have hk := h.hk
  refine meetsW Tryd.func71 (by kernel_rfl) cc71 cr71 rfl hWS fun hf => ?_; unfold ck71
  obtain ⟨l1, l2, l3⟩ := h.lt hf
  have l4 : kq < n := free_lt hf hq (fun e => by cases e)
  simp (disch := omega) only [ite_ne, hc, hk, hm, n1, n2, n3, m1, m2, m3, go_sem, ↓reduceIte, Nat.reduceEqDiff, Nat.reduceBEq, Nat.reduceAdd, Nat.reduceLeDiff, Nat.reduceLT, reduceCtorEq, Nat.reduceMul, Nat.reduceSub, Int.reduceEq, Int.reduceLT, Int.reduceLE, Int.reduceToNat]
  refine dCallR.f (fun _ hp' e => vclone_r path hpl kq gq _ hp' ((e kq (.inl (by omega))).trans (by rw [gc_ne _ _ (by omega)]; exact hq)) rfl _) ?_
  simp (disch := omega) only [ite_ne, hc, hk, hm, n1, n2, n3, m1, m2, m3, go_sem, ↓reduceIte, Nat.reduceEqDiff, Nat.reduceBEq, Nat.reduceAdd, Nat.reduceLeDiff, Nat.reduceLT, reduceCtorEq, Nat.reduceMul, Nat.reduceSub, Int.reduceEq, Int.reduceLT, Int.reduceLE, Int.reduceToNat]
  refine ⟨⟨by omega, by omega⟩, up_wsC h ?_ ?_ ?_ fun j hj j1 j2 j3 => ?_⟩
  · rw [gc_ne _ _ n2, gc_same]; rfl
  · rw [gc_same]; rfl
  · rw [gc_ne _ _ n1, gc_ne _ _ m3, gc_ne _ _ (by omega), hm]
  · rw [gc_ne _ _ (fun e => j1 e.symm), gc_ne _ _ (fun e => j3 e.symm), gc_ne _ _ (by omega)]
theorem fail_ok {doc : List Dfn} {F : ByteArray → AV} {hp : CH} {c km kp gp : Nat} {P : List Prb} (h : RunH doc F hp c km kp gp P) (path : List Val) (hpl : path.length ≤ 1000000000000) (hP : P.length ≤ 1000000000000) (s : ByteArray) (kq gq cap : Nat) (hq : gc hp kq = .rc gq 5 cap (mapC valC path)) (n : Nat) :
    MeetsX Tryd.prog 71 hp n [.bx c 0, .rw kq gq path.length, .s s] (wsC doc F c km kp gp P [.mk path s] ++ hp) n (vx zVal) := by
  have q1 : kq ≠ c := fun e => by have := h.hc; rw [← e, hq] at this; cases this
  have q2 : kq ≠ km := fun e => by have := h.hm; rw [← e, hq] at this; cases this
  have q3 : kq ≠ kp := fun e => by have := h.hk; rw [← e, hq] at this; cases this
  refine Meets.rc hq (fun x hx => ?_) (fail_rw (h.of fun j hj => gc_ne _ _ fun e => ?_) path hpl hP s kq gq (gc_same _ _ _) n)
  · simp only [wsC, List.mem_cons, List.not_mem_nil, or_false] at hx
    rcases hx with rfl | rfl | rfl
    · exact fun e => q3 e.symm
    · exact fun e => q1 e.symm
    · exact fun e => q2 e.symm
  · rcases hj with rfl | rfl | rfl
    · exact q1 e
    · exact q2 e
    · exact q3 e
noncomputable def posF (doc : List Dfn) (x : ByteArray) : AV := .ds (stC (posL doc x))
/-- Is an object of a type? -/
theorem is_ok {doc : List Dfn} (hd : DocOk doc) {hp : CH} {c km : Nat} {α : AV} (hc : gc hp c = .bx [.ds (mapC dfC doc), .mp km, α]) (hm : gc hp km = .mq (posF doc)) (on name : ByteArray) (n : Nat) :
    MeetsF Tryd.prog 78 hp n [.bx c 0, .s on, .s name] (.b (decide (on ∈ posL doc name))) := by
  have n1 : ¬ c = km := fun e => by rw [e, hm] at hc; cases hc
  have n2 : ¬ km = c := fun e => n1 e.symm
  have hlen := posL_len doc name
  have hdl := hd.len
  have hct := contains_ok (posL doc name) on (by omega)
  rw [ix_mem'] at hct
  refine MeetsF.mq hm rfl (by exact ⟨_, Tryd.func78, by kernel_rfl, by kernel_rfl⟩) fun l hl => ?_
  have hc2 : gc ((km, Chunk.mp l) :: hp) c = .bx [.ds (mapC dfC doc), .mp km, α] := by rw [gc_ne _ _ n2]; exact hc
  cases e : mfind name l with
  | some β =>
    have hβ : β = .ds (stC (posL doc name)) := hl _ (mfind_mem e)
    subst hβ
    refine meetsN Tryd.func78 (by kernel_rfl) cc78 cr78 rfl fun hf => ?_; unfold ck78
    have l1 : km < n := free_lt hf (gc_same _ _ _) (fun e => by cases e)
    have l2 : c < n := free_lt hf hc2 (fun e => by cases e)
    simp (disch := omega) only [ite_ne, hc, n1, n2, e, go_sem, ↓reduceIte, Nat.reduceEqDiff, Nat.reduceBEq, Nat.reduceAdd, Nat.reduceLeDiff, Nat.reduceLT, reduceCtorEq, Nat.reduceMul, Nat.reduceSub, Int.reduceEq, Int.reduceLT, Int.reduceLE, Int.reduceToNat]
    refine vcCall.f (hct _ _) ?_
    simp (disch := omega) only [ite_ne, hc, n1, n2, e, go_sem, ↓reduceIte, Nat.reduceEqDiff, Nat.reduceBEq, Nat.reduceAdd, Nat.reduceLeDiff, Nat.reduceLT, reduceCtorEq, Nat.reduceMul, Nat.reduceSub, Int.reduceEq, Int.reduceLT, Int.reduceLE, Int.reduceToNat]
    refine ⟨l, hl, fun j hj => .inl (gc_ne _ _ fun q => hj q.symm), rfl⟩
  | none =>
    refine meetsN Tryd.func78 (by kernel_rfl) cc78 cr78 rfl fun hf => ?_; unfold ck78
    have l1 : km < n := free_lt hf (gc_same _ _ _) (fun e => by cases e)
    have l2 : c < n := free_lt hf hc2 (fun e => by cases e)
    simp (disch := omega) only [ite_ne, hc, n1, n2, e, go_sem, ↓reduceIte, Nat.reduceEqDiff, Nat.reduceBEq, Nat.reduceAdd, Nat.reduceLeDiff, Nat.reduceLT, reduceCtorEq, Nat.reduceMul, Nat.reduceSub, Int.reduceEq, Int.reduceLT, Int.reduceLE, Int.reduceToNat]
    refine vcCall.f (pos_ok doc hd name _ _) ?_
    simp (disch := omega) only [ite_ne, hc, n1, n2, e, go_sem, ↓reduceIte, Nat.reduceEqDiff, Nat.reduceBEq, Nat.reduceAdd, Nat.reduceLeDiff, Nat.reduceLT, reduceCtorEq, Nat.reduceMul, Nat.reduceSub, Int.reduceEq, Int.reduceLT, Int.reduceLE, Int.reduceToNat]
    refine vcCall.f (hct _ _) ?_
    simp (disch := omega) only [ite_ne, hc, n1, n2, e, go_sem, ↓reduceIte, Nat.reduceEqDiff, Nat.reduceBEq, Nat.reduceAdd, Nat.reduceLeDiff, Nat.reduceLT, reduceCtorEq, Nat.reduceMul, Nat.reduceSub, Int.reduceEq, Int.reduceLT, Int.reduceLE, Int.reduceToNat]
    refine ⟨_, fun p hp => ?_, fun j hj => .inl (by rw [if_neg (fun q => hj q.symm)]), rfl⟩
    rcases mput_mem hp with rfl | hp
    · rfl
    · exact hl p hp
end Go.Proofs.YtgollgfifnmaaaaDoor
namespace Go.Proofs.YtgollgfifnmaaaaDoor
open Go.Eng
set_option linter.unusedVariables false
set_option linter.unusedSimpArgs false
set_option maxRecDepth 20000
set_option maxHeartbeats 1000000
inductive PFit : List Pk → Prop
  | mk (l : List Pk) : l.length ≤ 1000000000 → (∀ p ∈ l, p.tw.length ≤ 1000000000000) → (∀ p ∈ l, PFit p.picks) → PFit l
theorem PFit.len {l : List Pk} (h : PFit l) : l.length ≤ 1000000000 := by cases h; assumption
theorem PFit.t {l : List Pk} (h : PFit l) {p : Pk} (hp : p ∈ l) : p.tw.length ≤ 1000000000000 := by cases h with | mk _ _ h _ => exact h p hp
theorem PFit.x {l : List Pk} (h : PFit l) {p : Pk} (hp : p ∈ l) : PFit p.picks := by cases h with | mk _ _ _ h => exact h p hp
/-- What a part of the completion does, called on a path that lies in a row of known capacity. -/
def Doing (f : FuncId) (doc : List Dfn) (pre : List AV) (post : List AV) (path : List Val) (R2 : List Prb) (r : AV) : Prop :=
  ∀ (hp : CH) (c km kp gp : Nat) (P : List Prb) (kq gq cap len n : Nat), RunH doc (posF doc) hp c km kp gp P → gc hp kq = .rc gq 5 cap (mapC valC path) → len = path.length → P.length + R2.length ≤ 1000000000000 →
    MeetsX Tryd.prog f hp n (.bx c 0 :: pre ++ .rw kq gq len :: post) (wsC doc (posF doc) c km kp gp P R2 ++ hp) n r
theorem Doing.rw {f : FuncId} {doc : List Dfn} {pre post : List AV} {path : List Val} {R2 : List Prb} {r : AV} (h : Doing f doc pre post path R2 r) (hok : ∃ fn, Tryd.prog.funcs[f]? = some fn ∧ (fn.name == "runtime.NumGoroutine") = false ∧ fn.body.isNone = false)
    (hp : CH) (c km kp gp : Nat) (P : List Prb) (kq gq len n : Nat) (hR : RunH doc (posF doc) hp c km kp gp P) (hq : gc hp kq = .rw gq 5 (mapC valC path)) (hkq : kq ≠ kp) (hl : len = path.length) (hP : P.length + R2.length ≤ 1000000000000) :
    MeetsX Tryd.prog f hp n (.bx c 0 :: pre ++ .rw kq gq len :: post) (wsC doc (posF doc) c km kp gp P R2 ++ hp) n r := by
  have q1 : kq ≠ c := fun e => by have := hR.hc; rw [← e, hq] at this; cases this
  have q2 : kq ≠ km := fun e => by have := hR.hm; rw [← e, hq] at this; cases this
  refine Meets.open hq (fun x hx => ?_) hok fun cap _ => h _ c km kp gp P kq gq cap len n (hR.of fun j hj => gc_ne _ _ fun e => ?_) (gc_same _ _ _) hl hP
  · simp only [wsC, List.mem_cons, List.not_mem_nil, or_false] at hx
    rcases hx with rfl | rfl | rfl
    · exact fun e => hkq e.symm
    · exact fun e => q1 e.symm
    · exact fun e => q2 e.symm
  · rcases hj with rfl | rfl | rfl
    · exact q1 e
    · exact q2 e
    · exact hkq e
theorem wsOk_wsC {doc : List Dfn} {F : ByteArray → AV} {hp : CH} {c km kp gp n0 : Nat} {P R : List Prb} (h : RunH doc F hp c km kp gp P) (h1 : c < n0) (h2 : km < n0) (h3 : kp < n0) : wsOk hp n0 (keys (wsC doc F c km kp gp P R)) (wsC doc F c km kp gp P R) := by
  refine ⟨h3, by rw [h.hk]; trivial, trivial, h1, by rw [h.hc]; trivial, ⟨rfl, ?_, ?_, trivial⟩, h2, by rw [h.hm]; trivial, trivial, trivial⟩
  · show km ∈ [kp, c, km]; simp
  · show kp ∈ [kp, c, km]; simp
/-- The contracts of the four functions. -/
def CplK (doc : List Dfn) (v : Val) : Prop := ∀ (tn : ByteArray) (tw : List Int) (picks : List Pk) (path : List Val), tw.length ≤ 1000000000000 → PFit picks → path.length + wtV v ≤ 100000000000 →
  Doing 30 doc [rfx tn tw, .ds (mapC pkC picks)] [vx v] path (cplV doc v tn tw picks path).2 (.tp [vx (cplV doc v tn tw picks path).1, .b (lostB tw (cplV doc v tn tw picks path).1)])
def NulK (doc : List Dfn) (v : Val) : Prop := ∀ (tn : ByteArray) (tw : List Int) (picks : List Pk) (path : List Val), tw.length ≤ 1000000000000 → PFit picks → path.length + wtV v ≤ 100000000000 →
  Doing 56 doc [rfx tn tw, .ds (mapC pkC picks)] [vx v] path (cplV doc v tn tw picks path).2 (vx (cplV doc v tn tw picks path).1)
def LstK (doc : List Dfn) (v : Val) : Prop := ∀ (tn : ByteArray) (tw : List Int) (picks : List Pk) (path : List Val), tw.length ≤ 1000000000000 → PFit picks → path.length + wtV v ≤ 100000000000 →
  Doing 75 doc [rfx tn tw, .ds (mapC pkC picks)] [vx v] path (listR (v.items.map (cplV doc)) tn tw picks path).2 (vx (listR (v.items.map (cplV doc)) tn tw picks path).1)
def ObjK (doc : List Dfn) (v : Val) : Prop := ∀ (on : ByteArray) (picks : List Pk) (path : List Val), v.k = 6 → 2 ≤ wtV v → PFit picks → path.length + wtV v ≤ 100000000000 →
  Doing 79 doc [.s on, .ds (mapC pkC picks)] [vx v] path (objR v.keys (v.items.map (cplV doc)) on picks path).2 (vx (objR v.keys (v.items.map (cplV doc)) on picks path).1)
theorem complete_of (doc : List Dfn) (v : Val) (h : NulK doc v) : CplK doc v := by
  intro tn tw picks path htw hpk hwt hp c km kp gp P kq gq cap len n hR hq hl hP
  subst hl
  have hN := h tn tw picks path htw hpk hwt
  obtain ⟨R, hRR⟩ : ∃ R, cplV doc v tn tw picks path = R := ⟨_, rfl⟩
  rw [hRR] at hN hP ⊢
  have hNN := tIsNN_ok tn tw htw
  unfold lostB
  simp only [List.cons_append, List.nil_append]
  have hWS : (∀ k, n ≤ k → gc hp k = .no) → wsLt n (wsC doc (posF doc) c km kp gp P R.2) := fun hf => hR.wsLt hf
  have n1 := hR.n1
  have n2 := hR.n2
  have n3 := hR.n3
  refine meetsW Tryd.func30 (by kernel_rfl) cc30 cr30 rfl hWS fun hf => ?_; unfold ck30
  obtain ⟨l1, l2, l3⟩ := hR.lt hf
  have l4 : kq < n := free_lt hf hq (fun e => by cases e)
  simp (disch := omega) only [ite_ne, wsC, go_sem, ↓reduceIte, Nat.reduceEqDiff, Nat.reduceBEq, Nat.reduceAdd, Nat.reduceLeDiff, Nat.reduceLT, reduceCtorEq, Nat.reduceMul, Nat.reduceSub, Int.reduceEq, Int.reduceLT, Int.reduceLE, Int.reduceToNat]
  refine vcCall.x (hN _ c km kp gp P kq gq cap path.length _ (hR.of fun j hj => ?_) ?_ rfl hP) ?_
  · simp only [gc_cons]
    repeat rw [if_neg (by omega)]
  · simp only [gc_cons]
    repeat rw [if_neg (by omega)]
    exact hq
  simp only [wsC, List.cons_append, List.nil_append]
  simp (disch := omega) only [ite_ne, go_sem, ↓reduceIte, Nat.reduceEqDiff, Nat.reduceBEq, Nat.reduceAdd, Nat.reduceLeDiff, Nat.reduceLT, reduceCtorEq, Nat.reduceMul, Nat.reduceSub, Int.reduceEq, Int.reduceLT, Int.reduceLE, Int.reduceToNat]
  refine dCall.f (fun _ hp' e => hNN _ _) ?_
  simp (disch := omega) only [ite_ne, go_sem, ↓reduceIte, Nat.reduceEqDiff, Nat.reduceBEq, Nat.reduceAdd, Nat.reduceLeDiff, Nat.reduceLT, reduceCtorEq, Nat.reduceMul, Nat.reduceSub, Int.reduceEq, Int.reduceLT, Int.reduceLE, Int.reduceToNat]
  refine up_wsC hR ?_ ?_ ?_ fun j hj j1 j2 j3 => ?_
  all_goals (simp (disch := omega) only [ite_ne, go_sem, ↓reduceIte, Nat.reduceEqDiff, Nat.reduceBEq, Nat.reduceAdd, Nat.reduceLeDiff, Nat.reduceLT, reduceCtorEq, Nat.reduceMul, Nat.reduceSub, Int.reduceEq, Int.reduceLT, Int.reduceLE, Int.reduceToNat])
end Go.Proofs.YtgollgfifnmaaaaDoor
