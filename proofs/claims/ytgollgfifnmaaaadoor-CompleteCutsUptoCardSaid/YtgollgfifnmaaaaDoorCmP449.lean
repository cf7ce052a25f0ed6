/-
  The parts CmR of the proof, in one file. Conditions: none.
-/
import Derived.Test.YtgollgfifnmaaaaDoorCmP448
namespace Go.Proofs.YtgollgfifnmaaaaDoor
open Go.Eng
set_option linter.unusedVariables false
set_option linter.unusedSimpArgs false
theorem mapC_ofQ {β : Type} {c : β → List AV} {Q : β → Prop} : ∀ {l : List (List AV)}, (∀ x ∈ l, ∃ y, x = c y ∧ Q y) → ∃ m : List β, l = mapC c m ∧ ∀ y ∈ m, Q y
  | [], _ => ⟨[], rfl, by simp⟩
  | x :: l, h => by
    obtain ⟨y, rfl, hy⟩ := h x (by simp)
    obtain ⟨m, e, hl⟩ := mapC_ofQ (c := c) (Q := Q) (l := l) fun z hz => h z (by simp [hz])
    refine ⟨y :: m, by rw [mapC_cons, ← e], fun z hz => ?_⟩
    rcases List.mem_cons.1 hz with rfl | hz
    · exact hy
    · exact hl z hz
theorem wf64 {n : Int} (h : (Lit.int .i64 n).wf = true) : -9223372036854775808 ≤ n ∧ n ≤ 9223372036854775807 := by
  simp only [Lit.wf, Bool.and_eq_true, decide_eq_true_eq] at h
  exact h
theorem val_rng (v : Val) : Shp Tryd.prog 29 (valC v) → v.Rng := by
  refine Val.ind (Q := fun v => Shp Tryd.prog 29 (valC v) → v.Rng) (fun v ih h => ?_) v
  rw [valC_eq] at h
  obtain ⟨parts, e0, hl, hp⟩ := shp_struct Tryd.underlying29 h
  obtain ⟨a, b, c, d, e, rfl⟩ := ds_n5 (show parts.length = 5 from hl)
  obtain ⟨a, rfl, _⟩ := shp_int Tryd.underlying3 (hp 0 _ a rfl rfl)
  obtain ⟨b, rfl, hb⟩ := shp_int Tryd.underlying3 (hp 1 _ b rfl rfl)
  obtain ⟨c, rfl, _⟩ := shp_string Tryd.underlying9 (hp 2 _ c rfl rfl)
  obtain ⟨l, rfl, _, hx⟩ := shp_slice Tryd.underlying26 (hp 3 _ d rfl rfl)
  obtain ⟨k, rfl, _, hy⟩ := shp_slice Tryd.underlying27 (hp 4 _ e rfl rfl)
  simp only [List.flatten_cons, List.flatten_nil, List.cons_append, List.nil_append, List.cons.injEq, AV.i.injEq, AV.ds.injEq, true_and, and_true] at e0
  obtain ⟨_, e1, _, e2, _⟩ := e0
  have := wf64 hb
  refine .mk v (by omega) (by omega) fun x hx' => ih x hx' (hx _ ?_)
  rw [← e2]
  exact List.mem_map_of_mem (f := valC) hx'
/-- What holds of a value that is read. -/
structure VS (v : Val) : Prop where
  f : v.Fit
  r : v.Rng
  w : wtV v ≤ 1048576
theorem shp_valQ {L : List AV} (h : Shp Tryd.prog 29 L) (hb : avL L ≤ 1048576) : ∃ v : Val, L = valC v ∧ VS v := by
  obtain ⟨v, rfl⟩ := shp_val h
  have := valC_av v
  exact ⟨v, rfl, ⟨wtV_fit v (by omega), val_rng v h, by omega⟩⟩
theorem avL_app : ∀ a b : List AV, avL (a ++ b) = avL a + avL b
  | [], b => by simp [avL]
  | x :: a, b => by rw [List.cons_append, avL, avL, avL_app a b]; omega
theorem shp_argQ {L : List AV} (h : Shp Tryd.prog 110 L) (hb : avL L ≤ 1048576) : ∃ x : Arg, L = argC x ∧ x.v.Fit := by
  obtain ⟨parts, rfl, hl, hp⟩ := shp_struct Tryd.underlying110 h
  obtain ⟨a, b, rfl⟩ := ds_n2 (show parts.length = 2 from hl)
  obtain ⟨a, rfl, _⟩ := shp_string Tryd.underlying9 (hp 0 _ a rfl rfl)
  simp only [List.flatten_cons, List.flatten_nil, avL_app, avL, avw] at hb
  obtain ⟨v, rfl, hv⟩ := shp_valQ (hp 1 _ b rfl rfl) (by omega)
  refine ⟨.mk a v, ?_, hv.f⟩
  rw [valC_eq]
  rfl
theorem argC_one (a : Arg) : 1 ≤ avL (argC a) := by simp [argC, avL, avw]; omega
theorem pkC_one (p : Pk) : 1 ≤ avL (pkC p) := by rw [pkC_eq]; simp [avL, avw]; omega
theorem in1_one (n : Int) : 1 ≤ avL (in1 n) := by simp [in1, avL, avw]
theorem pk_wt (p : Pk) : wtK p ≤ avL (pkC p) := by
  refine Pk.ind (Q := fun p => wtK p ≤ avL (pkC p)) (fun p ih => ?_) p
  have key : ∀ l : List Pk, (∀ x ∈ l, wtK x ≤ avL (pkC x)) → wtKs l ≤ avLL (mapC pkC l) := by
    intro l
    induction l with
    | nil => intro _; simp [wtKs]
    | cons x l ihl =>
      intro h
      have h1 := h x (by simp)
      have h2 := ihl fun y hy => h y (by simp [hy])
      rw [wtKs, mapC_cons]
      show _ ≤ avL (pkC x) + avLL (mapC pkC l)
      omega
  have := key p.picks ih
  rw [wtK_eq, pkC_eq]
  simp only [avL, avw]
  omega
theorem pks_wt (l : List Pk) : wtKs l ≤ avLL (mapC pkC l) := by
  induction l with
  | nil => simp [wtKs]
  | cons x l ih =>
    have := pk_wt x
    rw [wtKs, mapC_cons]
    show _ ≤ avL (pkC x) + avLL (mapC pkC l)
    omega
theorem shp_pkQ {L : List AV} (h : Shp Tryd.prog 57 L) (hb : avL L ≤ 1048576) : ∃ x : Pk, L = pkC x ∧ x.tw.length ≤ 1000000000000 ∧ PFit x.picks := by
  suffices key : ∀ (n : Nat) (L : List AV), avL L ≤ n → avL L ≤ 1048576 → Shp Tryd.prog 57 L → ∃ x : Pk, L = pkC x ∧ x.tw.length ≤ 1000000000000 ∧ PFit x.picks from key _ L (Nat.le_refl _) hb h
  intro n
  induction n with
  | zero =>
    intro L hn hb h
    obtain ⟨parts, rfl, hl, hp⟩ := shp_struct Tryd.underlying57 h
    match parts, hl, hp, hn with
    | a :: r, _, hp, hn =>
      obtain ⟨a, rfl, _⟩ := shp_string Tryd.underlying9 (hp 0 _ a rfl rfl)
      simp [avL, avw] at hn
  | succ n ih =>
    intro L hn hb h
    obtain ⟨parts, rfl, hl, hp⟩ := shp_struct Tryd.underlying57 h
    match parts, hl, hp, hn, hb with
    | [a, b, c, d, e, f, g, i], _, hp, hn, hb =>
      obtain ⟨a, rfl, _⟩ := shp_string Tryd.underlying9 (hp 0 _ a rfl rfl)
      obtain ⟨b, rfl, _⟩ := shp_string Tryd.underlying9 (hp 1 _ b rfl rfl)
      obtain ⟨c, rfl, _⟩ := shp_string Tryd.underlying9 (hp 2 _ c rfl rfl)
      obtain ⟨l, rfl, _, hx⟩ := shp_slice Tryd.underlying55 (hp 3 _ d rfl rfl)
      obtain ⟨ts, rfl, hl2, hp2⟩ := shp_struct Tryd.underlying52 (hp 4 _ e rfl rfl)
      obtain ⟨t, u, rfl⟩ := ds_n2 (show ts.length = 2 from hl2)
      obtain ⟨t, rfl, _⟩ := shp_string Tryd.underlying9 (hp2 0 _ t rfl rfl)
      obtain ⟨w, rfl, _, hy⟩ := shp_slice Tryd.underlying50 (hp2 1 _ u rfl rfl)
      obtain ⟨ws, rfl, _⟩ := mapC_of (c := in1) fun x h => by
        obtain ⟨n, rfl, _⟩ := shp_int Tryd.underlying3 (hy x h)
        exact ⟨n, rfl⟩
      obtain ⟨f, rfl, _⟩ := shp_string Tryd.underlying9 (hp 5 _ f rfl rfl)
      obtain ⟨g, rfl, _⟩ := shp_int Tryd.underlying3 (hp 6 _ g rfl rfl)
      obtain ⟨p, rfl, _, hz⟩ := shp_slice Tryd.underlying25 (hp 7 _ i rfl rfl)
      simp only [List.flatten_cons, List.flatten_nil, avL_app, avL, avw] at hb hn
      obtain ⟨al, rfl, ha⟩ := mapC_ofQ (c := argC) (Q := fun a => a.v.Fit) fun x h => shp_argQ (hx x h) (by have := avLL_mem h; omega)
      obtain ⟨ps, rfl, hps⟩ := mapC_ofQ (c := pkC) (Q := fun p => p.tw.length ≤ 1000000000000 ∧ PFit p.picks) fun x h => ih x (by have := avLL_mem h; omega) (by have := avLL_mem h; omega) (hz x h)
      have h2 := mapC_len_le pkC_one ps
      have h3 := mapC_len_le in1_one ws
      exact ⟨.mk a b c al t ws f g ps, by rw [pkC_eq]; rfl, by simp only [Pk.tw]; omega, .mk _ (by simp only [Pk.picks]; omega) (fun p hp => (hps p hp).1) (fun p hp => (hps p hp).2)⟩
theorem shp_strs {l : List (List AV)} (h : ∀ x ∈ l, Shp Tryd.prog 9 x) : ∃ m, l = stC m := by
  obtain ⟨ks, rfl, _⟩ := mapC_of (c := st1) (l := l) fun x hx => by
    obtain ⟨s, rfl, _⟩ := shp_string Tryd.underlying9 (h x hx)
    exact ⟨s, rfl⟩
  exact ⟨ks, rfl⟩
theorem dirC_one (a : Dir) : 1 ≤ avL (dirC a) := by simp [dirC, avL, avw]; omega
theorem inpC_one (a : Inp) : 1 ≤ avL (inpC a) := by simp [inpC, avL, avw]; omega
theorem shp_dirQ {L : List AV} (h : Shp Tryd.prog 108 L) (hb : avL L ≤ 1048576) : ∃ x : Dir, L = dirC x ∧ DirOk x := by
  obtain ⟨parts, rfl, hl, hp⟩ := shp_struct Tryd.underlying108 h
  obtain ⟨a, b, rfl⟩ := ds_n2 (show parts.length = 2 from hl)
  obtain ⟨a, rfl, _⟩ := shp_string Tryd.underlying9 (hp 0 _ a rfl rfl)
  obtain ⟨l, rfl, _, hx⟩ := shp_slice Tryd.underlying55 (hp 1 _ b rfl rfl)
  simp only [List.flatten_cons, List.flatten_nil, avL_app, avL, avw] at hb
  obtain ⟨al, rfl, ha⟩ := mapC_ofQ (c := argC) (Q := fun a => a.v.Fit) fun x h => shp_argQ (hx x h) (by have := avLL_mem h; omega)
  have h2 := mapC_len_le argC_one al
  exact ⟨.mk a al, rfl, by simp only [Dir.args_mk]; omega, ha⟩
theorem shp_dirsQ {l : List (List AV)} (h : ∀ x ∈ l, Shp Tryd.prog 108 x) (hb : avLL l ≤ 1048576) : DirsOk l := by
  obtain ⟨ds, rfl, hd⟩ := mapC_ofQ (c := dirC) (Q := DirOk) fun x hx => shp_dirQ (h x hx) (by have := avLL_mem hx; omega)
  have h2 := mapC_len_le dirC_one ds
  exact ⟨ds, rfl, by omega, hd⟩
theorem shp_inpQ {L : List AV} (h : Shp Tryd.prog 112 L) (hb : avL L ≤ 1048576) : ∃ x : Inp, L = inpC x ∧ InpOk x := by
  obtain ⟨parts, rfl, hl, hp⟩ := shp_struct Tryd.underlying112 h
  obtain ⟨a, b, c, d, e, rfl⟩ := ds_n5 (show parts.length = 5 from hl)
  obtain ⟨a, rfl, _⟩ := shp_string Tryd.underlying9 (hp 0 _ a rfl rfl)
  obtain ⟨ts, rfl, hl2, hp2⟩ := shp_struct Tryd.underlying52 (hp 1 _ b rfl rfl)
  obtain ⟨t, u, rfl⟩ := ds_n2 (show ts.length = 2 from hl2)
  obtain ⟨t, rfl, _⟩ := shp_string Tryd.underlying9 (hp2 0 _ t rfl rfl)
  obtain ⟨w, rfl, _, hy⟩ := shp_slice Tryd.underlying50 (hp2 1 _ u rfl rfl)
  obtain ⟨ws, rfl, _⟩ := mapC_of (c := in1) fun x h => by
    obtain ⟨n, rfl, _⟩ := shp_int Tryd.underlying3 (hy x h)
    exact ⟨n, rfl⟩
  obtain ⟨c, rfl⟩ := shp_bool Tryd.underlying4 (hp 2 _ c rfl rfl)
  obtain ⟨l, rfl, _, hx⟩ := shp_slice Tryd.underlying64 (hp 4 _ e rfl rfl)
  simp only [List.flatten_cons, List.flatten_nil, avL_app, avL, avw] at hb
  obtain ⟨v, rfl, hv⟩ := shp_valQ (hp 3 _ d rfl rfl) (by omega)
  obtain ⟨ds, rfl, hd⟩ := mapC_ofQ (c := dirC) (Q := DirOk) fun x h => shp_dirQ (hx x h) (by have := avLL_mem h; omega)
  have h2 := mapC_len_le dirC_one ds
  have h3 := mapC_len_le in1_one ws
  refine ⟨.mk a t ws c v ds, ?_, by simp only [Inp.tw_mk]; omega, hv.f, by simp only [Inp.dirs_mk]; omega, hd⟩
  rw [valC_eq]
  rfl
theorem shp_inpsQ {l : List (List AV)} (h : ∀ x ∈ l, Shp Tryd.prog 112 x) (hb : avLL l ≤ 1048576) : InpsOk l := by
  obtain ⟨ds, rfl, hd⟩ := mapC_ofQ (c := inpC) (Q := InpOk) fun x hx => shp_inpQ (h x hx) (by have := avLL_mem hx; omega)
  have h2 := mapC_len_le inpC_one ds
  exact ⟨ds, rfl, by omega, hd⟩
theorem fldC_one (x : Fld) : 1 ≤ avL (fldC x) := by simp only [fldC, avL, avw]; omega
theorem len_of {β : Type} {c : β → List AV} (hc : ∀ x, 1 ≤ avL (c x)) {l : List (List AV)} (h : ∀ x ∈ l, ∃ y, x = c y) : l.length ≤ avLL l := by
  obtain ⟨m, rfl, _⟩ := mapC_of (c := c) h
  have := mapC_len_le hc m
  rw [mapC_len]
  exact this
theorem shp_fldQ {L : List AV} (h : Shp Tryd.prog 66 L) (hb : avL L ≤ 1048576) : ∃ x : Fld, L = fldC x ∧ (InpsOk x.args ∧ DirsOk x.dirs ∧ x.tw.length ≤ 1000000000) := by
  obtain ⟨parts, rfl, hl, hp⟩ := shp_struct Tryd.underlying66 h
  obtain ⟨a, b, c, d, rfl⟩ := ds_n4 (show parts.length = 4 from hl)
  obtain ⟨a, rfl, _⟩ := shp_string Tryd.underlying9 (hp 0 _ a rfl rfl)
  obtain ⟨l, rfl, _, hx⟩ := shp_slice Tryd.underlying63 (hp 1 _ b rfl rfl)
  obtain ⟨ts, rfl, hl2, hp2⟩ := shp_struct Tryd.underlying52 (hp 2 _ c rfl rfl)
  obtain ⟨t, u, rfl⟩ := ds_n2 (show ts.length = 2 from hl2)
  obtain ⟨t, rfl, _⟩ := shp_string Tryd.underlying9 (hp2 0 _ t rfl rfl)
  obtain ⟨w, rfl, _, hy⟩ := shp_slice Tryd.underlying50 (hp2 1 _ u rfl rfl)
  obtain ⟨l2, rfl, _, hz⟩ := shp_slice Tryd.underlying64 (hp 3 _ d rfl rfl)
  simp only [List.flatten_cons, List.flatten_nil, avL_app, avL, avw] at hb
  have h3 := len_of in1_one (l := w) fun x h => by
    obtain ⟨n, rfl, _⟩ := shp_int Tryd.underlying3 (hy x h)
    exact ⟨n, rfl⟩
  have hA := shp_inpsQ hx (by omega)
  have hB := shp_dirsQ hz (by omega)
  exact ⟨.mk a l t w l2, rfl, hA, hB, by simp only [Fld.tw_mk]; omega⟩
theorem st1_one (s : ByteArray) : 1 ≤ avL (st1 s) := by simp [st1, avL, avw]
theorem memC_one (p : ByteArray × List (List AV)) : 1 ≤ avL (memC p) := by simp [memC, avL, avw]; omega
structure DfnQ (t : Dfn) : Prop where
  ok : DefOk t
  im : t.impl.length ≤ 1000000000000
  me : t.members.length ≤ 1000000000000
  w : DfnW t
theorem shp_dfnQ {L : List AV} (h : Shp Tryd.prog 70 L) (hb : avL L ≤ 1048576) : ∃ x : Dfn, L = dfC x ∧ DfnQ x := by
  obtain ⟨parts, rfl, hl, hp⟩ := shp_struct Tryd.underlying70 h
  match parts, hl, hp, hb with
  | [a, b, c, d, e, f, g], _, hp, hb =>
    obtain ⟨a, rfl, _⟩ := shp_int Tryd.underlying3 (hp 0 _ a rfl rfl)
    obtain ⟨b, rfl, _⟩ := shp_string Tryd.underlying9 (hp 1 _ b rfl rfl)
    obtain ⟨c, rfl, _, hc⟩ := shp_slice Tryd.underlying27 (hp 2 _ c rfl rfl)
    obtain ⟨d, rfl, _, hdd⟩ := shp_slice Tryd.underlying64 (hp 3 _ d rfl rfl)
    obtain ⟨l, rfl, _, hx⟩ := shp_slice Tryd.underlying67 (hp 4 _ e rfl rfl)
    obtain ⟨f, rfl, _, hm⟩ := shp_slice Tryd.underlying68 (hp 5 _ f rfl rfl)
    obtain ⟨g, rfl, _, hi⟩ := shp_slice Tryd.underlying63 (hp 6 _ g rfl rfl)
    simp only [List.flatten_cons, List.flatten_nil, avL_app, avL, avw] at hb
    obtain ⟨fs, rfl, hfs⟩ := mapC_ofQ (c := fldC) (Q := fun x => InpsOk x.args ∧ DirsOk x.dirs ∧ x.tw.length ≤ 1000000000) fun x h => shp_fldQ (hx x h) (by have := avLL_mem h; omega)
    have h1 := mapC_len_le fldC_one fs
    obtain ⟨cs, rfl⟩ := shp_strs hc
    have h2 : cs.length ≤ avLL (stC cs) := mapC_len_le st1_one cs
    have hmem : ∀ e ∈ f, ∃ x y, e = [AV.s x, .ds y] ∧ DirsOk y := fun e he => by
      obtain ⟨ps, rfl, hl3, hp3⟩ := shp_struct Tryd.underlying85 (hm e he)
      obtain ⟨u, w, rfl⟩ := ds_n2 (show ps.length = 2 from hl3)
      obtain ⟨u, rfl, _⟩ := shp_string Tryd.underlying9 (hp3 0 _ u rfl rfl)
      obtain ⟨w, rfl, _, hw⟩ := shp_slice Tryd.underlying64 (hp3 1 _ w rfl rfl)
      have hbe := avLL_mem he
      simp only [List.flatten_cons, List.flatten_nil, avL_app, avL, avw] at hbe
      exact ⟨u, w, rfl, shp_dirsQ hw (by omega)⟩
    have h3 := len_of memC_one (l := f) fun e he => by
      obtain ⟨x, y, rfl, _⟩ := hmem e he
      exact ⟨(x, y), rfl⟩
    have hA := shp_dirsQ hdd (by omega)
    have hB := shp_inpsQ hi (by omega)
    refine ⟨.mk a b (stC cs) d fs f g, rfl, ⟨⟨?_, fun e he => ?_⟩, ?_, ?_, ⟨hA, hB, ?_, hfs, hmem⟩⟩⟩
    · simp only [Dfn.impl_mk]; rw [unS_st]
    · obtain ⟨x, y, e1, _⟩ := hmem e he
      exact ⟨x, y, e1⟩
    · show (mapC st1 cs).length ≤ _
      rw [mapC_len]
      omega
    · simp only [Dfn.members_mk]; omega
    · simp only [Dfn.fields_mk]; omega
theorem dfC_one (x : Dfn) : 1 ≤ avL (dfC x) := by simp only [dfC, avL, avw]; omega
structure DocQ (doc : List Dfn) : Prop where
  ok : DocOk doc
  w : ∀ t ∈ doc, DfnW t
theorem shp_docQ {L : List AV} (h : Shp Tryd.prog 24 L) (hb : avL L ≤ 1048576) : ∃ doc : List Dfn, L = [.ds (mapC dfC doc)] ∧ DocQ doc := by
  obtain ⟨ts, rfl, hl2, hp2⟩ := shp_struct Tryd.underlying24 h
  match ts, hl2, hp2, hb with
  | [t], _, hp2, hb =>
    obtain ⟨t, rfl, _, ht⟩ := shp_slice Tryd.underlying22 (hp2 0 _ t rfl rfl)
    simp only [List.flatten_cons, List.flatten_nil, avL_app, avL, avw] at hb
    obtain ⟨doc, rfl, hdoc⟩ := mapC_ofQ (c := dfC) (Q := DfnQ) fun x h => shp_dfnQ (ht x h) (by have := avLL_mem h; omega)
    have h1 := mapC_len_le dfC_one doc
    exact ⟨doc, rfl, ⟨fun t ht => (hdoc t ht).ok, fun t ht => (hdoc t ht).im, fun t ht => (hdoc t ht).me, by omega⟩, fun t ht => (hdoc t ht).w⟩
/-- What holds of a case that is read. -/
structure CQ (doc : List Dfn) (l : List Pk) (v : Val) : Prop where
  d : DocQ doc
  p : PFit l
  vs : VS v
  n : wtV v + wtKs l ≤ 1048576
theorem CQ.cnt {doc : List Dfn} {l : List Pk} {v : Val} (h : CQ doc l v) : wtV v * (1 + wtKs l) ≤ 1000000000000 := by
  have := h.n
  have h1 := h.vs.w
  have h2 : wtV v * (1 + wtKs l) ≤ 1048576 * (1 + wtKs l) := Nat.mul_le_mul_right _ h1
  rcases Nat.lt_or_ge (wtKs l) 900000 with c | c
  · have h3 : 1048576 * (1 + wtKs l) ≤ 1048576 * 900000 := Nat.mul_le_mul_left _ (by omega)
    omega
  · have h4 : wtV v * (1 + wtKs l) ≤ 200000 * (1 + wtKs l) := Nat.mul_le_mul_right _ (by omega)
    have h5 : 200000 * (1 + wtKs l) ≤ 200000 * 1048577 := Nat.mul_le_mul_left _ (by omega)
    omega
abbrev cse (doc : List Dfn) (root : ByteArray) (l : List Pk) (v : Val) : AV := .ag [.ds (mapC dfC doc), .s root, .ds (mapC pkC l), .i .i64 v.k, .i .i64 v.n, .s v.s, .ds (mapC valC v.items), .ds (stC v.keys)]
theorem reads_case22 {α : AV} (h : AS Tryd.prog 31 α) (hb : avw α ≤ 1048576) : ∃ doc root l v, α = cse doc root l v ∧ CQ doc l v := by
  obtain ⟨L, rfl, h2⟩ := as_struct Tryd.underlying31 h
  obtain ⟨parts, rfl, hl, hp⟩ := shp_struct Tryd.underlying31 h2
  obtain ⟨a, b, c, d, rfl⟩ := ds_n4 (show parts.length = 4 from hl)
  obtain ⟨b, rfl, _⟩ := shp_string Tryd.underlying9 (hp 1 _ b rfl rfl)
  obtain ⟨l, rfl, _, hx⟩ := shp_slice Tryd.underlying25 (hp 2 _ c rfl rfl)
  simp only [List.flatten_cons, List.flatten_nil, avL_app, avL, avw] at hb
  obtain ⟨doc, rfl, hd⟩ := shp_docQ (hp 0 _ a rfl rfl) (by omega)
  obtain ⟨v, rfl, hv⟩ := shp_valQ (hp 3 _ d rfl rfl) (by omega)
  obtain ⟨ps, rfl, hps⟩ := mapC_ofQ (c := pkC) (Q := fun p => p.tw.length ≤ 1000000000000 ∧ PFit p.picks) fun x h => shp_pkQ (hx x h) (by have := avLL_mem h; omega)
  have h1 := mapC_len_le pkC_one ps
  have h3 := pks_wt ps
  have h4 := valC_av v
  refine ⟨doc, b, ps, v, ?_, ⟨hd, .mk _ (by omega) (fun p hp => (hps p hp).1) (fun p hp => (hps p hp).2), hv, by omega⟩⟩
  rw [valC_eq]
  rfl
end Go.Proofs.YtgollgfifnmaaaaDoor
