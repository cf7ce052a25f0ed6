/-
  The parts EngW of the proof, in one file. Conditions: none.
-/
import Derived.Test.YtmcgjccheehehaaQse15
namespace Go.Eng
set_option linter.unusedVariables false
set_option linter.unusedSimpArgs false
theorem cops_get {P : Program} {N : Nat} {ops : List Oper} : ∀ {l : List Oper} {cl : List CO}, cops P N ops l = some cl → cl.length = l.length ∧ ∀ (i : Nat) o, l[i]? = some o → ∃ c g, cop P N ops o = some c ∧ cguard N ops o.guard = some g ∧ cl[i]? = some ⟨o.dst, c, g, [], false⟩
  | [], cl, h => by simp [cops] at h; subst h; exact ⟨rfl, fun i o h => by simp at h⟩
  | o :: r, cl, h => by
    unfold cops at h
    split at h
    · rename_i c g l' h1 h2 h3
      cases h
      obtain ⟨e1, e2⟩ := cops_get h3
      refine ⟨by simp [e1], fun i o' ho => ?_⟩
      cases i with
      | zero => simp at ho; subst ho; exact ⟨c, g, h1, h2, rfl⟩
      | succ i => simpa using e2 i o' (by simpa using ho)
    · cases h
theorem mkD_get {bs : List (List Nat)} {cl : List CO} : (mkD bs cl).length = cl.length ∧ ∀ (i : Nat) c, cl[i]? = some c → ∃ d, (mkD bs cl)[i]? = some d ∧ d.o = c := by
  have hl : (mkD bs cl).length = cl.length := by simp [mkD]
  refine ⟨hl, fun i c h => ?_⟩
  have hi := (List.getElem?_eq_some_iff.1 h).1
  refine ⟨(mkD bs cl)[i]'(by omega), List.getElem?_eq_getElem (by omega), ?_⟩
  have hx : (mkD bs cl)[i]? = some ((mkD bs cl)[i]'(by omega)) := List.getElem?_eq_getElem (by omega)
  generalize (mkD bs cl)[i]'(by omega) = d at hx
  unfold mkD at hx
  rw [List.getElem?_map, List.getElem?_zipIdx, h] at hx
  simp only [Option.map_some, Option.some.injEq] at hx
  rw [← hx]
theorem apart_spec {x y : CO} (h : x.apart y = true) : (∀ d ∈ x.dsts, d ∉ y.slots ∧ d ∉ y.dsts) ∧ ∀ d ∈ y.dsts, d ∉ x.slots := by
  unfold CO.apart at h
  simp only [Bool.and_eq_true, List.all_eq_true, Bool.not_eq_true', List.contains_eq_mem, decide_eq_false_iff_not, List.mem_append, not_or] at h
  exact h
def Fre (n0 j i : Nat) (tx ty : TE) : Prop :=
  dis (keys tx.ws) ty.R ∧ dis (keys tx.ws) (keys ty.ws) ∧ dis (keys ty.ws) tx.R ∧ (ty.c = true → ∀ k ∈ keys tx.ws, k = n0 + j) ∧ (tx.c = true → ∀ k ∈ keys ty.ws, k = n0 + i)
structure Plan (P : Program) (N : Nat) (ops : Array Oper) (n0 : Nat) (dl : List DO) (ts : List TE) (bs : List (List Nat)) (env0 : EN) (hp0 : CH) : Prop where
  size : ops.size = dl.length
  op : ∀ (i : Nat) o, ops[i]? = some o → ∃ d t, dl[i]? = some d ∧ ts[i]? = some t ∧ cop P N ops.toList o = some d.o.op ∧ cguard N ops.toList o.guard = some d.o.g ∧ d.o.dst = o.dst ∧ t.d = o.dst ∧
    dOp P n0 (n0 + dl.length) i d (aL (fun x => decide (x < i)) 0 env0 (ts.map TE.eu)) (aL (fun x => decide (x < i)) 0 hp0 (ts.map TE.ws)) t.eq
  edge : ∀ (i : Nat) o, ops[i]? = some o → (∀ e ∈ o.after, Region.binds .any e = true → e.on < i) ∧ ∀ j ∈ bs.getD i [], j < i ∧ ∃ e ∈ o.after, Region.binds .any e = true ∧ (e.on = j ∨ j ∈ bs.getD e.on [])
  pair : ∀ (j i : Nat) x y tx ty, j < i → dl[j]? = some x → dl[i]? = some y → ts[j]? = some tx → ts[i]? = some ty → j ∈ bs.getD i [] ∨ (x.o.apart y.o = true ∧ Fre n0 j i tx ty)
  bf : ∀ (i : Nat) y, dl[i]? = some y → ∀ j ∈ y.bf, j ∈ bs.getD i []
  len : ts.length = dl.length
section
variable {P : Program} {C : Ctx} {ops : Array Oper} {n0 : Nat} {dl : List DO} {ts : List TE} {bs : List (List Nat)} {env0 : EN} {hp0 : CH}
def Inv (C : Ctx) (n0 : Nat) (dl : List DO) (ts : List TE) (env0 : EN) (hp0 : CH) (L : Nat → Bool) (a : Act) (w : World) : Prop :=
  ∃ h ρ, Sat C ⟨aL L 0 env0 (ts.map TE.eu), aL L 0 hp0 (ts.map TE.ws), n0 + dl.length⟩ h ρ a w ∧ ∀ i, i < dl.length → L i = false → ∀ g, ρ (n0 + i) g = none
theorem Plan.get (p : Plan P C.N ops n0 dl ts bs env0 hp0) {j : Nat} {t : TE} (h : ts[j]? = some t) : ∃ d, dl[j]? = some d ∧ t.d = d.o.dst := by
  have hj : j < ops.size := by rw [p.size, ← p.len]; exact (List.getElem?_eq_some_iff.1 h).1
  obtain ⟨d, t', h1, h2, _, _, h3, h4, _⟩ := p.op j ops[j] (by simp [hj])
  rw [h] at h2
  cases h2
  exact ⟨d, h1, by rw [h4, h3]⟩
theorem eu_keys {t : TE} {x : Nat} (h : x ∈ t.eu.map (·.1)) : t.d = some x := by
  unfold TE.eu at h
  split at h
  · rename_i y hy; simp at h; subst h; exact hy
  · simp at h
theorem map_get {α β : Type} {f : α → β} {l : List α} {j : Nat} {u : β} (h : (l.map f)[j]? = some u) : ∃ t, l[j]? = some t ∧ u = f t := by
  rw [List.getElem?_map] at h
  cases hx : l[j]? with
  | none => rw [hx] at h; cases h
  | some t => rw [hx] at h; cases h; exact ⟨t, rfl, rfl⟩
theorem Plan.step (p : Plan P C.N ops n0 dl ts bs env0 hp0) {L L' : Nat → Bool} (hcl : ∀ i, L i = true → ∀ j ∈ bs.getD i [], L j = true) {i : Nat} {o : Oper} (ho : ops[i]? = some o) (hLi : L i = false)
    (hready : ∀ e ∈ o.after, Region.binds .any e = true → L e.on = true) (hne : ∀ j, j ≠ i → L' j = L j) (ht' : L' i = true) {a : Act} {w : World} (hinv : Inv C n0 dl ts env0 hp0 L a w) {Q : Exit → Act → World → Prop} {K : Act → World → Prop}
    (hK : ∀ a' w', Inv C n0 dl ts env0 hp0 L' a' w' → K a' w') : wpOp P ops Q i K a w := by
  obtain ⟨h, ρ, hS, hfree⟩ := hinv
  obtain ⟨d, t, hd, ht, c1, c2, c3, c4, c5⟩ := p.op i o ho
  have him : i < dl.length := (List.getElem?_eq_some_iff.1 hd).1
  have hb : ∀ x ∈ bs.getD i [], L x = true := by
    intro x hx
    obtain ⟨_, e, he, hbe, hor⟩ := (p.edge i o ho).2 x hx
    have := hready e he hbe
    rcases hor with rfl | hx
    · exact this
    · exact hcl _ this x hx
  have hslot : ∀ s ∈ d.o.slots, ge (aL (fun x => decide (x < i)) 0 env0 (ts.map TE.eu)) s = ge (aL L 0 env0 (ts.map TE.eu)) s := by
    intro s hs
    rw [ge_lk, ge_lk]
    refine aL_congr _ 0 _ _ rfl fun j u hj hk => ?_
    obtain ⟨tj, htj, rfl⟩ := map_get hj
    obtain ⟨dj, hdj, hdst⟩ := p.get htj
    have hmem : s ∈ dj.o.dsts := by unfold CO.dsts; rw [← hdst, eu_keys hk]; simp
    simp only [Nat.zero_add]
    rcases Nat.lt_trichotomy j i with hlt | rfl | hgt
    · rcases p.pair j i dj d tj t hlt hdj hd htj ht with hx | ⟨hx, _⟩
      · rw [hb j hx]; simp [hlt]
      · exact absurd hs ((apart_spec hx).1 s hmem).1
    · rw [hLi]; simp
    · cases hLj : L j with
      | false => simp; omega
      | true =>
        rcases p.pair i j d dj t tj hgt hd hdj ht htj with hx | ⟨hx, _⟩
        · have := hcl j hLj i hx; rw [hLi] at this; cases this
        · exact absurd hs ((apart_spec hx).2 s hmem)
  have hch : ∀ k, (∀ (j : Nat) tj, ts[j]? = some tj → k ∈ keys tj.ws → decide (j < i) = L j) → gc (aL (fun x => decide (x < i)) 0 hp0 (ts.map TE.ws)) k = gc (aL L 0 hp0 (ts.map TE.ws)) k := by
    intro k hk
    rw [gc_lk, gc_lk]
    refine aL_congr _ 0 _ _ rfl fun j u hj hx => ?_
    obtain ⟨tj, htj, rfl⟩ := map_get hj
    simp only [Nat.zero_add]
    exact hk j tj htj hx
  have hsame : Same n0 d.bf (aL (fun x => decide (x < i)) 0 hp0 (ts.map TE.ws)) (aL L 0 hp0 (ts.map TE.ws)) t.eq := by
    intro α ws R c hE
    obtain ⟨_, _, rfl, rfl⟩ := hE
    refine ⟨fun k hk => hch k fun j tj htj hx => ?_, fun hc k hk => hch k fun j tj htj hx => ?_⟩
    · obtain ⟨dj, hdj, _⟩ := p.get htj
      rcases Nat.lt_trichotomy j i with hlt | rfl | hgt
      · rcases p.pair j i dj d tj t hlt hdj hd htj ht with h1 | ⟨_, h1⟩
        · rw [hb j h1]; simp [hlt]
        · exact absurd rfl (h1.1 k hx k hk)
      · rw [hLi]; simp
      · cases hLj : L j with
        | false => simp; omega
        | true =>
          rcases p.pair i j d dj t tj hgt hd hdj ht htj with h1 | ⟨_, h1⟩
          · have := hcl j hLj i h1; rw [hLi] at this; cases this
          · exact absurd rfl (h1.2.2.1 k hx k hk)
    · obtain ⟨dj, hdj, _⟩ := p.get htj
      rcases Nat.lt_trichotomy j i with hlt | rfl | hgt
      · rcases p.pair j i dj d tj t hlt hdj hd htj ht with h1 | ⟨_, h1⟩
        · rw [hb j h1]; simp [hlt]
        · have e := h1.2.2.2.1 hc k hx
          rcases hk with hk | ⟨j', hj', hk⟩
          · omega
          · have : j = j' := by omega
            subst this
            rw [hb j (p.bf i d hd j hj')]
            simp [hlt]
      · rw [hLi]; simp
      · cases hLj : L j with
        | false => simp; omega
        | true =>
          rcases p.pair i j d dj t tj hgt hd hdj ht htj with h1 | ⟨_, h1⟩
          · have := hcl j hLj i h1; rw [hLi] at this; cases this
          · have e := h1.2.2.2.2 hc k hx
            rcases hk with hk | ⟨j', hj', hk⟩
            · omega
            · have : j = j' := by omega
              subst this
              have := ((p.edge i o ho).2 j (p.bf i d hd j hj')).1
              omega
  have hop := dOp_tr (fun s hs => Src.ev_congr fun t ht => hslot t (by unfold CO.slots; exact List.mem_append_left _ (List.mem_flatMap.2 ⟨s, hs, ht⟩)))
    (fun t want e => hslot t (by unfold CO.slots; rw [e]; simp)) hsame c5
  have hst := dOp_step (P := P) (i := i) c1 c2 c3 (by omega) hS (hfree i him hLi) hop Q
  have fin : ∀ a' w', (∃ h' ρ', Sat C ⟨EN.set (aL L 0 env0 (ts.map TE.eu)) o.dst t.α, t.ws ++ aL L 0 hp0 (ts.map TE.ws), n0 + dl.length⟩ h' ρ' a' w' ∧ Fr ρ ρ' (n0 + i)) → K a' w' := by
    intro a' w' ⟨h', ρ', s, fr⟩
    refine hK a' w' ⟨h', ρ', s.congr (fun x => ?_) (fun x => ?_), fun j hj hLj g => ?_⟩
    · rw [← c4, set_eu, ge_lk, ge_lk]
      refine (aL_set (j0 := i) (by rw [List.getElem?_map, ht]; rfl) hne ht' fun j u hj hlt hL y hy hz => ?_).symm
      obtain ⟨tj, htj, rfl⟩ := map_get hj
      obtain ⟨dj, hdj, hdst⟩ := p.get htj
      have m1 : y ∈ dj.o.dsts := by unfold CO.dsts; rw [← hdst, eu_keys hy]; simp
      have m2 : y ∈ d.o.dsts := by unfold CO.dsts; rw [c3, ← c4, eu_keys hz]; simp
      rcases p.pair i j d dj t tj hlt hd hdj ht htj with h1 | ⟨h1, _⟩
      · have := hcl j hL i h1; rw [hLi] at this; cases this
      · exact ((apart_spec h1).1 y m2).2 m1
    · rw [gc_lk, gc_lk]
      refine (aL_set (j0 := i) (by rw [List.getElem?_map, ht]; rfl) hne ht' fun j u hj hlt hL y hy hz => ?_).symm
      obtain ⟨tj, htj, rfl⟩ := map_get hj
      obtain ⟨dj, hdj, _⟩ := p.get htj
      rcases p.pair i j d dj t tj hlt hd hdj ht htj with h1 | ⟨_, h1⟩
      · have := hcl j hL i h1; rw [hLi] at this; cases this
      · exact absurd rfl (h1.2.1 y hz y hy)
    · have hji : j ≠ i := fun e => by subst e; rw [ht'] at hLj; cases hLj
      exact fr (n0 + j) (by omega) (hfree j hj (by rw [← hne j hji]; exact hLj)) g
  unfold wpOp
  rw [ho]
  simp only
  split
  · rename_i hw
    rw [if_pos hw] at hst
    exact .inl (Oper.wp_mono fin hst)
  · rename_i hw
    rw [if_neg hw] at hst
    exact fin _ _ hst
def cnt : List Bool → Nat
  | [] => 0
  | b :: r => (if b then 0 else 1) + cnt r
theorem cnt_set : ∀ (l : List Bool) (i : Nat), l[i]? = some false → cnt (l.set i true) + 1 = cnt l
  | [], i, h => by simp at h
  | b :: r, 0, h => by simp at h; subst h; simp [cnt]; omega
  | b :: r, i + 1, h => by
    have := cnt_set r i (by simpa using h)
    simp only [List.set_cons_succ, cnt]
    omega
theorem cnt_zero : ∀ (l : List Bool), cnt l = 0 → ∀ i, i < l.length → l[i]? = some true
  | [], _, i, h => by simp at h
  | b :: r, h, 0, _ => by cases b <;> simp [cnt] at h ⊢
  | b :: r, h, i + 1, hi => by
    have : cnt r = 0 := by simp only [cnt] at h; omega
    simpa using cnt_zero r this i (by simpa using hi)
theorem Plan.any (p : Plan P C.N ops n0 dl ts bs env0 hp0) {Q : Exit → Act → World → Prop} (hq : ∀ a w, Inv C n0 dl ts env0 hp0 (fun _ => true) a w → Q .normal a w) : ∀ (fuel : Nat) (listed : Array Bool) (a : Act) (w : World), listed.size = dl.length →
    (∀ i, listed.getD i false = true → ∀ j ∈ bs.getD i [], listed.getD j false = true) → Inv C n0 dl ts env0 hp0 (fun i => listed.getD i false) a w → cnt listed.toList ≤ fuel → wpAny P .any ops Q fuel listed a w := by
  have full : ∀ (listed : Array Bool) (a : Act) (w : World), listed.size = dl.length → (∀ i, i < dl.length → listed.getD i false = true) → Inv C n0 dl ts env0 hp0 (fun i => listed.getD i false) a w → Q .normal a w := by
    intro listed a w hsz hall ⟨h, ρ, s, _⟩
    refine hq a w ⟨h, ρ, s.congr (fun x => ?_) (fun x => ?_), fun i _ e => by cases e⟩
    · rw [ge_lk, ge_lk]
      refine aL_congr _ 0 _ _ rfl fun j u hj _ => ?_
      rw [Nat.zero_add]
      exact hall j (by have := (List.getElem?_eq_some_iff.1 hj).1; simp at this; rw [← p.len]; exact this)
    · rw [gc_lk, gc_lk]
      refine aL_congr _ 0 _ _ rfl fun j u hj _ => ?_
      rw [Nat.zero_add]
      exact hall j (by have := (List.getElem?_eq_some_iff.1 hj).1; simp at this; rw [← p.len]; exact this)
  have hgt : ∀ (listed : Array Bool) i, listed.size = dl.length → i < dl.length → listed.getD i true = listed.getD i false := by
    intro listed i hsz hi
    simp [Array.getD, show i < listed.size by omega]
  intro fuel
  induction fuel with
  | zero =>
    intro listed a w hsz hcl hinv hcnt
    have hall : ∀ i, i < dl.length → listed.getD i false = true := by
      intro i hi
      have h1 : listed[i]? = some true := by rw [← Array.getElem?_toList]; exact cnt_zero listed.toList (by omega) i (by simpa [hsz] using hi)
      rw [Array.getD_eq_getD_getElem?, h1]
      rfl
    refine ⟨?_, full listed a w hsz hall hinv⟩
    unfold Region.ready
    rw [List.filter_eq_nil_iff]
    intro i hi
    have hi' : i < dl.length := by rw [← p.size]; simpa using hi
    rw [hgt listed i hsz hi', hall i hi']
    simp
  | succ fuel ih =>
    intro listed a w hsz hcl hinv hcnt
    refine ⟨fun hr => full listed a w hsz (fun i => ?_) hinv, fun i hi => ?_⟩
    · induction i using Nat.strongRecOn with
      | _ i ihi =>
        intro hi
        cases hx : listed.getD i false with
        | true => rfl
        | false =>
          have hio : i < ops.size := by rw [p.size]; exact hi
          have : i ∈ Region.ready .any ops listed := by
            unfold Region.ready
            refine List.mem_filter.2 ⟨by simpa using hio, ?_⟩
            rw [hgt listed i hsz hi, hx]
            simp only [Bool.not_false, Bool.true_and, Array.getElem?_eq_getElem hio, Option.map_some, Option.getD_some, Array.all_eq_true']
            intro e he
            cases hbd : Region.binds .any e with
            | false => simp
            | true =>
              have := (p.edge i ops[i] (by simp [hio])).1 e he hbd
              simp [ihi e.on this (by omega)]
          rw [hr] at this
          simp at this
    · unfold Region.ready at hi
      obtain ⟨h1, h2⟩ := List.mem_filter.1 hi
      have hio : i < ops.size := by simpa using h1
      have him : i < dl.length := by rw [← p.size]; exact hio
      simp only [Bool.and_eq_true, Bool.not_eq_true', Array.getElem?_eq_getElem hio, Option.map_some, Option.getD_some] at h2
      obtain ⟨h3, h4⟩ := h2
      rw [hgt listed i hsz him] at h3
      have hset : ∀ j, (listed.setIfInBounds i true).getD j false = if j = i then true else listed.getD j false := by
        intro j
        have hs : i < listed.size := by omega
        by_cases hji : j = i
        · subst hji
          simp [Array.getD, hs]
        · rw [if_neg hji]
          by_cases hj : j < listed.size
          · simp [Array.getD, hj, Array.getElem_setIfInBounds, Ne.symm hji]
          · simp [Array.getD, hj]
      rw [Array.all_eq_true'] at h4
      refine p.step (L := fun i => listed.getD i false) (L' := fun j => (listed.setIfInBounds i true).getD j false) hcl (o := ops[i]) (by simp [hio]) h3 (fun e he hbd => ?_) (fun j hj => ?_) ?_ hinv (fun a' w' hinv' => ih _ a' w' (by simpa using hsz) (fun j hj x hx => ?_) hinv' ?_)
      · have := h4 e he
        simpa [hbd] using this
      · simp only [hset, if_neg hj]
      · show (listed.setIfInBounds i true).getD i false = true
        rw [hset, if_pos rfl]
      · rw [hset] at hj ⊢
        split
        · rfl
        · split at hj
          · rename_i hji
            subst hji
            obtain ⟨_, e, he, hbd, hor⟩ := (p.edge j ops[j] (by simp [hio])).2 x hx
            have h5 : listed.getD e.on false = true := by have := h4 e he; simpa [hbd] using this
            rcases hor with rfl | hx
            · exact h5
            · exact hcl _ h5 x hx
          · exact hcl j hj x hx
      · have : listed.toList[i]? = some false := by
          have hs : i < listed.size := by omega
          simp [Array.getD, hs] at h3
          simp [hs, h3]
        have := cnt_set listed.toList i this
        simp
        omega
end
theorem cdraw_dr {P : Program} {N : Nat} {l : List Oper} {c : CC} (h : cdraw P N l = some c) : ∃ dl, c = .dr dl [] := by
  unfold cdraw at h
  split at h
  · split at h
    · cases h; exact ⟨_, rfl⟩
    · cases h
  · cases h
/-- ████ THE LAW of a region that draws an order. ████ -/
theorem draw_sound {P : Program} {C : Ctx} {id : Nat} {ops : Array Oper} {dl : List DO} {st : St} {a : Act} {w : World} {K : EN → CH → Prop} {Q : Exit → Act → World → Prop} (hc : cdraw P C.N ops.toList = some (.dr dl []))
    (hv : vcD P st.n (st.n + dl.length) 0 dl st.env st.hp [] K) (hS : S C st a w) (hq : ∀ env hp a' w', K env hp → S C ⟨env, hp, st.n + dl.length⟩ a' w' → Q .normal a' w') : (Code.region id ops true).wp P Q a w := by
  obtain ⟨ts, e', h', hval, hK⟩ := val_of dl 0 st.env st.hp [] K hv
  unfold cdraw at hc
  split at hc
  · rename_i cl hcl
    split at hc
    · rename_i hck
      simp only [Option.some.injEq, CC.dr.injEq] at hc
      obtain ⟨rfl, _⟩ := hc
      generalize hbs : befs ops.toList = bs at *
      unfold dCk at hck
      simp only [Bool.and_eq_true, beq_iff_eq] at hck
      obtain ⟨⟨⟨k1, k2⟩, k3⟩, k4⟩ := hck
      obtain ⟨g1, g2⟩ := cops_get hcl
      obtain ⟨m1, m2⟩ := mkD_get (bs := bs) (cl := cl)
      have hlen := val_len _ _ _ _ _ _ _ _ hval
      have hget : ∀ {i : Nat} {d : DO}, (mkD bs cl)[i]? = some d → ∃ t, ts[i]? = some t := fun h => by
        have := (List.getElem?_eq_some_iff.1 h).1
        exact ⟨ts[_], List.getElem?_eq_getElem (by omega)⟩
      have plan : Plan P C.N ops st.n (mkD bs cl) ts bs st.env st.hp := by
        refine ⟨by simpa using k2.symm, fun i o ho => ?_, fun i o ho => ?_, fun j i x y tx ty hlt hx hy htx hty => ?_, fun i y hy j hj => ?_, hlen⟩
        · obtain ⟨c, g, c1, c2, c3⟩ := g2 i o (by simpa using ho)
          obtain ⟨d, d1, d2⟩ := m2 i _ c3
          obtain ⟨t, ht⟩ := hget d1
          have := val_get _ _ _ _ _ _ _ _ hval i d t d1 ht
          simp only [Nat.zero_add] at this
          refine ⟨d, t, d1, ht, by rw [d2]; exact c1, by rw [d2]; exact c2, by rw [d2], ?_, this.2⟩
          rw [this.1, d2]
        · unfold bOk at k3
          rw [List.all_eq_true] at k3
          have hi : i < ops.size := (Array.getElem?_eq_some_iff.1 ho).1
          have := k3 i (by simpa using hi)
          rw [Array.getElem?_toList, ho] at this
          simp only [Bool.and_eq_true, Array.all_eq_true', List.all_eq_true, Bool.or_eq_true, Bool.not_eq_true', decide_eq_true_eq] at this
          refine ⟨fun e he hb => ?_, fun j hj => ?_⟩
          · rcases this.1 e he with h1 | h1
            · rw [hb] at h1; cases h1
            · exact h1
          · obtain ⟨h1, h2⟩ := this.2 j hj
            refine ⟨h1, ?_⟩
            rw [Array.any_eq_true'] at h2
            obtain ⟨e, he, h3⟩ := h2
            simp only [Bool.and_eq_true, Bool.or_eq_true, beq_iff_eq, List.contains_eq_mem, decide_eq_true_eq] at h3
            exact ⟨e, he, h3.1, h3.2⟩
        · unfold pOk at k4
          rw [List.all_eq_true] at k4
          have := k4 i (by simpa using (List.getElem?_eq_some_iff.1 hy).1)
          rw [hy] at this
          simp only [Bool.and_eq_true, List.all_eq_true] at this
          have h2 := this.2 j (by simpa using hlt)
          rw [hx] at h2
          simp only [Bool.and_eq_true, Bool.or_eq_true, Bool.not_eq_true', List.contains_eq_mem, decide_eq_true_eq] at h2
          refine h2.imp (fun h => h) fun ⟨ha, hm⟩ => ⟨ha, ?_⟩
          have vx := val_get _ _ _ _ _ _ _ _ hval j x tx hx htx
          have vy := val_get _ _ _ _ _ _ _ _ hval i y ty hy hty
          obtain ⟨kx1, kx2, kx3⟩ := dOp_kind vx.2
          obtain ⟨ky1, ky2, ky3⟩ := dOp_kind vy.2
          have kne : ∀ {u : CH} {k : Nat}, k ∈ keys u → u ≠ [] := fun h e => by subst e; simp [keys] at h
          have rne : ∀ {u : List Nat} {k : Nat}, k ∈ u → u ≠ [] := fun h e => by subst e; simp at h
          rcases hm with hm | ⟨hm1, hm2⟩
          · have hm' : ∀ {p : Prop}, (x.o.op.mw = true ∧ (y.o.op.mw = true ∨ y.o.op.mr = true)) ∨ (y.o.op.mw = true ∧ x.o.op.mr = true) → p := by
              intro p hx
              exfalso
              unfold mates at hm
              rcases hx with ⟨e1, e2 | e2⟩ | ⟨e1, e2⟩ <;> simp [e1, e2] at hm
            exact ⟨fun a ha b hb => hm' (.inl ⟨kx1 (kne ha), .inr (ky2 (rne hb))⟩), fun a ha b hb => hm' (.inl ⟨kx1 (kne ha), .inl (ky1 (kne hb))⟩), fun a ha b hb => hm' (.inr ⟨ky1 (kne ha), kx2 (rne hb)⟩),
              fun hc a ha => hm' (.inl ⟨kx1 (kne ha), .inr (ky3 hc)⟩), fun hc a ha => hm' (.inr ⟨ky1 (kne ha), kx3 hc⟩)⟩
          · have := val_cf _ _ _ _ _ _ _ _ hval j i x tx y ty hlt hx htx hy hty hm2 (by simpa using hm1)
            simp only [Nat.zero_add] at this
            exact this
        · unfold pOk at k4
          rw [List.all_eq_true] at k4
          have := k4 i (by simpa using (List.getElem?_eq_some_iff.1 hy).1)
          rw [hy] at this
          simp only [Bool.and_eq_true, List.all_eq_true, List.contains_eq_mem, decide_eq_true_eq] at this
          exact this.1 j hj
      refine wp_region_any k1 (plan.any (fun a' w' hinv => ?_) _ _ _ _ (by simp [plan.size]) (fun i hi => ?_) ?_ ?_)
      · obtain ⟨h, ρ, s, _⟩ := hinv
        obtain ⟨e1, e2⟩ := val_end _ _ _ _ _ _ _ _ hval
        rw [← e1, ← e2] at s
        exact hq _ _ _ _ hK ⟨h, ρ, s⟩
      · exfalso
        simp [Array.getD] at hi
      · obtain ⟨h, ρ, s⟩ := hS
        have hL : ∀ j, (Array.replicate ops.size false).getD j false = false := by intro j; simp [Array.getD]
        refine ⟨h, ρ, ?_, fun i _ _ g => s.mem.fr (st.n + i) g (by omega)⟩
        rw [aL_pre _ _ _ (fun j _ => hL j), aL_pre _ _ _ (fun j _ => hL j)]
        exact Sat.more (n := st.n) (w := w) (Nat.le_add_right _ _) rfl rfl rfl rfl s
      · have : ∀ n, cnt (List.replicate n false) = n := by
          intro n
          induction n with
          | zero => rfl
          | succ n ih => simp [List.replicate_succ, cnt, ih]; omega
        simp [this]
    · cases hc
  · cases hc
end Go.Eng
