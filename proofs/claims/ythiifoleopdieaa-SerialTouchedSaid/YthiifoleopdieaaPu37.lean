/-
  The parts DaK of the proof, in one file. Conditions: none.
-/
import Derived.Test.YthiifoleopdieaaPu36
namespace Go.Proofs.Ythiifoleopdieaa
open Go.Eng
set_option linter.unusedVariables false
set_option linter.unusedSimpArgs false
set_option maxRecDepth 20000
theorem cvA_s (hp : CH) (s : ByteArray) : cvA hp (.s s) = some (.s s) := by simp [cvA, pureC, AV.pur, AV.one]
theorem cvA_sh {hp : CH} {k g n len : Nat} {l : List (List AV)} (h : gc hp k = .sh g n l) (hl : len = l.length) : cvA hp (.rw k g len) = some (.ds l) := by simp [cvA, pureC, h, hl]
theorem nest_pure {f : FuncId} {d : Dat} {hp : CH} {m : Nat} {args : List AV} (h : Meets Try.prog f hp m args (NestR d m hp)) : MeetsF Try.prog f hp m args (dx d) := by
  refine Meets.nest h fun hp' n' r ⟨ko, go, A, kw, gw, hr, h1, h2, h3, ⟨h4, h4'⟩, ⟨h5, h5'⟩, hN, hF⟩ => ?_
  subst hr
  have hget := hN.get
  have hlen := hN.len
  obtain ⟨ks, hks⟩ : ∃ ks : List AV, ks = A.map fun e => e.getD 1 .un := ⟨_, rfl⟩
  have hin : ∀ (i : Nat) t k g z, A[i]? = some [.s t, .rw k g z] → AV.rw k g z ∈ ks := fun i t k g z e => by
    rw [hks]
    exact List.mem_map.2 ⟨_, List.mem_of_getElem? e, rfl⟩
  have hge : ∀ α ∈ ks, ∀ k g len, α = .rw k g len → m ≤ k := fun α hα k g len e => by
    rw [hks] at hα
    obtain ⟨x, hx, rfl⟩ := List.mem_map.1 hα
    obtain ⟨i, hi, rfl⟩ := List.mem_iff_getElem.1 hx
    obtain ⟨k', g', q1, q2, q3, q4⟩ := hget i (d.i[i]'(by omega)) (by simp)
    rw [List.getElem?_eq_getElem hi] at q3
    simp only [Option.some.injEq] at q3
    rw [q3] at e
    simp only [List.getD_cons_succ, List.getD_cons_zero, AV.rw.injEq] at e
    omega
  have hko : gc (shutL hp' ks) ko = .rn go 2 A := by
    rcases gc_shutL (k := ko) (l := ks) (hp := hp') with e | e <;> rw [e, h1] <;> rfl
  have hkw : gc (shutL hp' ks) kw = .rw gw 10 (mapC wrC d.w) ∨ gc (shutL hp' ks) kw = .sh gw 10 (mapC wrC d.w) := by
    rcases gc_shutL (k := kw) (l := ks) (hp := hp') with e | e
    · exact .inl (by rw [e, h2])
    · exact .inr (by rw [e, h2]; rfl)
  have hup : Up m hp (shutL hp' ks) := fun k hk => by
    rw [gc_shutL_not fun α hα g len e => by have := hge α hα k g len e; omega]
    exact h3 k hk
  have hne : ko ≠ kw := fun e => by subst e; rw [h1] at h2; cases h2
  refine ⟨ks, ko, go, 2, A, mapC itC d.i, hko, by rw [mapC_len, hlen], fun j e he => ?_, ?_⟩
  · have hj : j < d.i.length := by rw [← hlen]; exact (List.getElem?_eq_some_iff.1 he).1
    obtain ⟨k, g, q1, q2, q3, q4⟩ := hget j d.i[j] (by simp [hj])
    rw [he] at q3
    simp only [Option.some.injEq] at q3
    subst q3
    refine ⟨itC d.i[j], mapC_get itC (by simp [hj]), ?_⟩
    have hs : gc (shutL hp' ks) k = .sh g 7 (mapC celC d.i[j].l) := gc_shutL_in ⟨_, hin j _ k g _ he⟩ (.inl q4)
    rw [cvT, cvT, cvT, cvA_s, cvA_sh hs (by rw [mapC_len])]
    rfl
  · obtain ⟨S, hS⟩ : ∃ S, shutL hp' ks = S := ⟨_, rfl⟩
    rw [hS] at hko hkw hup
    unfold pureQ
    rw [hS]
    have e1 : rcells (.ag [.rw ko go d.i.length, .rw kw gw d.w.length]) = [.rw ko go d.i.length, .rw kw gw d.w.length] := rfl
    rw [e1, shutL, shutL, shutL]
    have e2 : shutC ((ko, .rw go 2 (mapC itC d.i)) :: S) (.rw ko go d.i.length) = (ko, .sh go 2 (mapC itC d.i)) :: (ko, .rw go 2 (mapC itC d.i)) :: S := by simp [shutC, gc_same]
    rw [e2]
    have up2 : Up m hp ((ko, .sh go 2 (mapC itC d.i)) :: (ko, .rw go 2 (mapC itC d.i)) :: S) := up_in (up_in hup h4) h4
    rcases hkw with e | e
    · have e3 : shutC ((ko, .sh go 2 (mapC itC d.i)) :: (ko, .rw go 2 (mapC itC d.i)) :: S) (.rw kw gw d.w.length) = (kw, .sh gw 10 (mapC wrC d.w)) :: (ko, .sh go 2 (mapC itC d.i)) :: (ko, .rw go 2 (mapC itC d.i)) :: S := by
        simp [shutC, gc_ne _ _ hne, e]
      rw [e3]
      refine ⟨up_in up2 h5, ?_⟩
      simp [cvR, cvA, pureL, pureC, gc_same, gc_ne _ _ hne, gc_ne _ _ (Ne.symm hne), mapC_len]
      rw [List.take_of_length_le (by rw [mapC_len]; exact Nat.le_refl _), List.take_of_length_le (by rw [mapC_len]; exact Nat.le_refl _)]
      exact ⟨rfl, rfl⟩
    · have e3 : shutC ((ko, .sh go 2 (mapC itC d.i)) :: (ko, .rw go 2 (mapC itC d.i)) :: S) (.rw kw gw d.w.length) = (ko, .sh go 2 (mapC itC d.i)) :: (ko, .rw go 2 (mapC itC d.i)) :: S := by
        simp [shutC, gc_ne _ _ hne, e]
      rw [e3]
      refine ⟨up2, ?_⟩
      simp [cvR, cvA, pureL, pureC, gc_same, gc_ne _ _ hne, e, mapC_len]
      rw [List.take_of_length_le (by rw [mapC_len]; exact Nat.le_refl _), List.take_of_length_le (by rw [mapC_len]; exact Nat.le_refl _)]
      exact ⟨rfl, rfl⟩
theorem set_cel (l : List Cel) (i : Nat) (c : Cel) : (mapC celC l).set i [AV.s c.f, .s c.a, .i .i64 c.v.k, .i .i64 c.v.n, .s c.v.s, .ds (mapC valC c.v.items), .ds (stC c.v.keys)] = mapC celC (l.set i c) := by
  rw [show [AV.s c.f, .s c.a, .i .i64 c.v.k, .i .i64 c.v.n, .s c.v.s, .ds (mapC valC c.v.items), .ds (stC c.v.keys)] = celC c from rfl]
  simp [mapC, List.map_set]
attribute [go_sem] set_cel
/-! ### What a write makes of a dataset -/
def putC (l : List Cel) (c : Cel) : List Cel := if 0 ≤ atI c.f c.a l then l.set (atI c.f c.a l).toNat c else l ++ [c]
def wrI (l : List Itm) (w : Wri) : List Itm := if 0 ≤ w.i then (match l[w.i.toNat]? with | some x => l.set w.i.toNat (.mk x.t (putC x.l w.c)) | none => l) else l
def hits (f a : ByteArray) (w : Wri) : Bool := decide (w.f = f) && decide (w.a = a)
def appS (f a : ByteArray) (l : List Itm) (w : Wri) : List Itm := if hits f a w = true then wrI l w else l
def argA (d : Dat) (f a : ByteArray) : ByteArray := if d.w.any (hits f a) = true then a else ⟨#[]⟩
def appL (f a : ByteArray) (ws : List Wri) (l : List Itm) : List Itm := ws.foldl (appS f a) l
def appV (d : Dat) (f a : ByteArray) : Dat := .mk (appL f (argA d f a) d.w d.i) d.w
theorem wrI_len (l : List Itm) (w : Wri) : (wrI l w).length = l.length := by
  unfold wrI
  split
  · split <;> simp
  · rfl
theorem appS_len (f a : ByteArray) (l : List Itm) (w : Wri) : (appS f a l w).length = l.length := by
  unfold appS
  split
  · exact wrI_len l w
  · rfl
theorem appL_len (f a : ByteArray) (ws : List Wri) : ∀ l : List Itm, (appL f a ws l).length = l.length := by
  induction ws with
  | nil => intro l; rfl
  | cons w ws ih => intro l; rw [appL, List.foldl_cons]; exact (ih _).trans (appS_len f a l w)
theorem appL_step {f a : ByteArray} {ws : List Wri} {l : List Itm} {j : Nat} {w : Wri} (h : ws[j]? = some w) : appL f a (ws.take (j + 1)) l = appS f a (appL f a (ws.take j) l) w := by
  unfold appL
  rw [← take_snoc h, List.foldl_append]
  rfl
theorem putC_len (l : List Cel) (c : Cel) : (putC l c).length ≤ l.length + 1 := by
  unfold putC
  split <;> simp
structure Dat.Fit2 (d : Dat) : Prop where
  f : d.Fit
  w : d.w.length ≤ 200
  c : ∀ x ∈ d.i, x.l.length ≤ 1256584717500
theorem wrI_cells {l : List Itm} {w : Wri} {B : Nat} (h : ∀ x ∈ l, x.l.length ≤ B) : ∀ x ∈ wrI l w, x.l.length ≤ B + 1 := by
  unfold wrI
  split
  · split
    · rename_i x hx
      intro y hy
      rcases List.mem_or_eq_of_mem_set hy with hy | rfl
      · have := h y hy; omega
      · have := putC_len x.l w.c
        have := h x (List.mem_of_getElem? hx)
        rw [Itm.l_mk]
        omega
    · intro x hx; have := h x hx; omega
  · intro x hx; have := h x hx; omega
theorem appL_cells {f a : ByteArray} : ∀ {ws : List Wri} {l : List Itm} {B : Nat}, (∀ x ∈ l, x.l.length ≤ B) → ∀ x ∈ appL f a ws l, x.l.length ≤ B + ws.length
  | [], l, B, h => h
  | w :: ws, l, B, h => fun x hx => by
    rw [appL, List.foldl_cons] at hx
    have h1 : ∀ x ∈ appS f a l w, x.l.length ≤ B + 1 := by
      unfold appS
      split
      · exact wrI_cells h
      · intro x hx; have := h x hx; omega
    have := appL_cells (ws := ws) h1 x hx
    rw [List.length_cons]
    omega
/-- A row is changed. -/
theorem Nst.set {H H' : CH} {lo hi hi' : Nat} {l : List Itm} {A : List (List AV)} (h : Nst H lo hi l A) {i : Nat} {x : Itm} {k g z : Nat} (ex : l[i]? = some x) (eA : A[i]? = some [.s x.t, .rw k g z]) (hh : hi ≤ hi') {l' : List Cel} {g' : Nat}
    (hk : gc H' k = .rw g' 7 (mapC celC l')) (he : ∀ j, lo ≤ j → j < hi → j ≠ k → (∃ g c, gc H j = .rw g 7 c) → gc H' j = gc H j) : Nst H' lo hi' (l.set i (.mk x.t l')) (A.set i [.s x.t, .rw k g' l'.length]) := by
  have hiA : i < A.length := (List.getElem?_eq_some_iff.1 eA).1
  have hil : i < l.length := (List.getElem?_eq_some_iff.1 ex).1
  have hrow := h.row eA
  refine ⟨by simp [h.len], fun j y q => ?_, fun j j' t t' k1 g1 g2 z1 z2 e1 e2 => ?_⟩
  · by_cases e : i = j
    · subst e
      rw [List.getElem?_set_self hil] at q
      cases q
      exact ⟨k, g', hrow.1, by omega, by rw [List.getElem?_set_self hiA]; rfl, hk⟩
    · rw [List.getElem?_set_ne e] at q
      obtain ⟨k', g'', q1, q2, q3, q4⟩ := h.get j y q
      refine ⟨k', g'', q1, by omega, by rw [List.getElem?_set_ne e]; exact q3, ?_⟩
      rw [he k' q1 q2 (fun e2 => e (h.inj i j _ _ _ _ _ _ _ eA (by rw [e2] at q3; exact q3))) ⟨_, _, q4⟩]
      exact q4
  · have key : ∀ {j : Nat} {t : ByteArray} {k1 g1 z1 : Nat}, (A.set i [.s x.t, .rw k g' l'.length])[j]? = some [.s t, .rw k1 g1 z1] → ∃ t0 g0 z0, A[j]? = some [.s t0, .rw k1 g0 z0] := fun {j t k1 g1 z1} q => by
      by_cases e : i = j
      · subst e
        rw [List.getElem?_set_self hiA] at q
        simp only [Option.some.injEq, List.cons.injEq, AV.rw.injEq] at q
        exact ⟨_, _, _, by rw [eA, q.2.1.1]⟩
      · rw [List.getElem?_set_ne e] at q
        exact ⟨_, _, _, q⟩
    obtain ⟨t0, g0, z0, a1⟩ := key e1
    obtain ⟨t3, g3, z3, a2⟩ := key e2
    exact h.inj j j' _ _ _ _ _ _ _ a1 a2
end Go.Proofs.Ythiifoleopdieaa
