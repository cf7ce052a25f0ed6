/-
  The parts CmA CmM CmD of the proof, in one file. Conditions: none.
-/
import Derived.Test.YtgollgfifnmaaaaDoorCmP331
namespace Go.Proofs.YtgollgfifnmaaaaDoor
open Go.Eng
set_option linter.unusedVariables false
set_option linter.unusedSimpArgs false
set_option maxRecDepth 20000
instance bytesLawful : LawfulBEq ByteArray where
  eq_of_beq h := by rw [bytes_dec] at h; simpa using h
  rfl := by intro a; rw [bytes_dec]; simp
inductive Prb where
  | mk (p : List Val) (t : ByteArray)
def Prb.p : Prb → List Val | .mk p _ => p
theorem Prb.p_mk (p : List Val) (t : ByteArray) : (Prb.mk p t).p = p := rfl
def Prb.t : Prb → ByteArray | .mk _ t => t
theorem Prb.t_mk (p : List Val) (t : ByteArray) : (Prb.mk p t).t = t := rfl
theorem Prb.ext {x y : Prb} (h0 : x.p = y.p) (h1 : x.t = y.t) : x = y := by cases x; cases y; simp only [Prb.p_mk, Prb.t_mk] at *; simp [*]
def prbC (x : Prb) : List AV := [.ds (mapC valC x.p), .s x.t]
attribute [go_sem] prbC Prb.p_mk Prb.t_mk
attribute [grind =] Prb.p_mk Prb.t_mk
attribute [ext] Prb.ext
attribute [grind ext] Prb.ext
/-- The outermost wrapper of a type. -/
def nnW (w : List Int) : Bool := decide (w.head? = some 1)
def nulW (w : List Int) : List Int := if nnW w = true then w.tail else w
def lstW (w : List Int) : Bool := decide ((nulW w).head? = some 2)
def innW (w : List Int) : List Int := (nulW w).tail
theorem nulW_len (w : List Int) : (nulW w).length ≤ w.length := by
  unfold nulW
  split
  · simp
  · exact Nat.le_refl _
theorem innW_len (w : List Int) : (innW w).length ≤ w.length := by
  have := nulW_len w
  simp only [innW, List.length_tail]
  omega
/-- Names in cells. -/
def unS (l : List (List AV)) : List ByteArray := l.map fun e => match e with
  | [.s x] => x
  | _ => ⟨#[]⟩
theorem unS_st (l : List ByteArray) : unS (stC l) = l := by
  induction l with
  | nil => rfl
  | cons x l ih =>
    have : unS (stC (x :: l)) = x :: unS (stC l) := rfl
    rw [this, ih]
def unM (l : List (List AV)) : List ByteArray := l.map fun e => match e with
  | .s x :: _ => x
  | _ => ⟨#[]⟩
/-- A schema whose names are names. -/
structure DefOk (t : Dfn) : Prop where
  impl : t.impl = stC (unS t.impl)
  mem : ∀ e ∈ t.members, ∃ x y, e = [.s x, .ds y]
/-- Is an object type of a definition? -/
noncomputable def kndB (t : Dfn) (name : ByteArray) (x : Dfn) : Bool :=
  (decide (t.k = 1) && decide (x.n = name)) || ((decide (t.k = 2) && decide (name ∈ unS x.impl)) || (decide (t.k = 3) && decide (x.n ∈ unM t.members)))
/-- The possible types among definitions, but for names seen before. -/
noncomputable def posR (t : Dfn) (name : ByteArray) : List ByteArray → List Dfn → List ByteArray
  | _, [] => []
  | seen, x :: r => if x.n ∉ seen ∧ x.k = 1 ∧ kndB t name x = true then x.n :: posR t name (seen ++ [x.n]) r else posR t name (seen ++ [x.n]) r
noncomputable def posL (doc : List Dfn) (name : ByteArray) : List ByteArray := match findD' doc name with
  | none => []
  | some t => posR t name [] doc
theorem posR_len (t : Dfn) (name : ByteArray) : ∀ (l : List Dfn) (seen : List ByteArray), (posR t name seen l).length ≤ l.length
  | [], seen => by simp [posR]
  | x :: r, seen => by
    rw [posR]
    split
    · simp only [List.length_cons]
      have := posR_len t name r (seen ++ [x.n])
      omega
    · simp only [List.length_cons]
      have := posR_len t name r (seen ++ [x.n])
      omega
theorem posL_len (doc : List Dfn) (name : ByteArray) : (posL doc name).length ≤ doc.length := by
  unfold posL
  split
  · simp
  · exact posR_len _ _ _ _
/-- The values of leaf types. -/
def inV (n : Int) : Val := .mk 2 n ⟨#[]⟩ [] []
def enV (s : ByteArray) : Val := .mk 4 0 s [] []
def boV (n : Int) : Val := .mk 1 n ⟨#[]⟩ [] []
def liV (l : List Val) : Val := .mk 5 0 ⟨#[]⟩ l []
def obR (ks : List ByteArray) (l : List Val) : Val := .mk 6 0 ⟨#[]⟩ l ks
def sInt : ByteArray := ⟨#[73, 110, 116]⟩
def sString : ByteArray := ⟨#[83, 116, 114, 105, 110, 103]⟩
def sBoolean : ByteArray := ⟨#[66, 111, 111, 108, 101, 97, 110]⟩
def sID : ByteArray := ⟨#[73, 68]⟩
def sNull : ByteArray := ⟨#[110, 117, 108, 108]⟩
def sType : ByteArray := ⟨#[116, 121, 112, 101]⟩
noncomputable def scaC (n : ByteArray) (v : Val) : Option Val :=
  if n = sInt ∧ v.k = 2 ∧ -2147483648 ≤ v.n ∧ v.n ≤ 2147483647 then some (inV v.n)
  else if (n = sString ∨ n = sID) ∧ v.k = 3 then some (txV v.s)
  else if n = sID ∧ v.k = 2 then some (txV (ofL (Lib.itoa v.n)))
  else if n = sBoolean ∧ v.k = 1 then some (boV v.n)
  else none
noncomputable def leafC (doc : List Dfn) (n : ByteArray) (v : Val) : Option Val :=
  if scalB n = true then scaC n v
  else if kindD doc n = 4 ∧ v.k = 4 ∧ v.s ∈ unM ((findD' doc n).getD zDf).members then some (enV v.s) else none
noncomputable def leafB (doc : List Dfn) (n : ByteArray) : Bool := scalB n || decide (kindD doc n = 4)
/-- A completed value, and its problems. -/
abbrev CRes := Val × List Prb
abbrev CFn := ByteArray → List Int → List Pk → List Val → CRes
def failR (path : List Val) (s : ByteArray) : CRes := (zVal, [.mk path s])
def nulR (tw : List Int) (path : List Val) : CRes := if nnW tw = true then failR path sNull else (zVal, [])
/-- The completion of what is not there. -/
def zFn : CFn := fun _ tw _ path => nulR tw path
def lostB (tw : List Int) (v : Val) : Bool := decide (v.k = 0) && nnW tw
/-- The elements of a list. -/
noncomputable def lsR (fs : List CFn) (j : Nat) (tn : ByteArray) (tw : List Int) (picks : List Pk) (path : List Val) : List CRes := match fs with
  | [] => []
  | f :: r => f tn tw picks (path ++ [inV j]) :: lsR r (j + 1) tn tw picks path
/-- The picks of a type. -/
noncomputable def itF (ks : List ByteArray) (fs : List CFn) (key : ByteArray) : CFn := if 0 ≤ ix key ks 0 then (fs[(ix key ks 0).toNat]?).getD zFn else zFn
noncomputable def obS (ks : List ByteArray) (fs : List CFn) (on : ByteArray) (path : List Val) (picks : List Pk) : List (Pk × CRes) :=
  (picks.filter fun p => decide (p.on = on)).map fun p => (p, itF ks fs p.key p.tn p.tw p.picks (path ++ [txV p.key]))
noncomputable def listR (fs : List CFn) (tn : ByteArray) (tw : List Int) (picks : List Pk) (path : List Val) : CRes :=
  ((if (lsR fs 0 tn tw picks path).any (fun r => lostB tw r.1) = true then zVal else liV ((lsR fs 0 tn tw picks path).map (·.1))), (lsR fs 0 tn tw picks path).flatMap (·.2))
noncomputable def objR (ks : List ByteArray) (fs : List CFn) (on : ByteArray) (picks : List Pk) (path : List Val) : CRes :=
  ((if (obS ks fs on path picks).any (fun r => lostB r.1.tw r.2.1) = true then zVal else obR ((obS ks fs on path picks).map (·.1.key)) ((obS ks fs on path picks).map (·.2.1))), (obS ks fs on path picks).flatMap (·.2.2))
/-- The type of a raw object. -/
noncomputable def typO (v : Val) : Option ByteArray := match getV v sT with
  | none => none
  | some t => if t.k = 3 then some t.s else none
noncomputable def cplB (doc : List Dfn) (v : Val) (fs : List CFn) : CFn := fun tn tw picks path =>
  if v.k = 9 then failR path v.s
  else if v.k = 0 then nulR tw path
  else if lstW (nulW tw) = true then (if v.k = 5 then listR fs tn (innW (nulW tw)) picks path else failR path sType)
  else if leafB doc tn = true then (match leafC doc tn v with
    | some x => (x, [])
    | none => failR path sType)
  else match typO v with
    | none => failR path sType
    | some on => if compB doc tn = true ∧ on ∈ posL doc tn then objR v.keys fs on picks path else failR path sType
mutual
noncomputable def cplV (doc : List Dfn) : Val → CFn
  | .mk k n s i l => cplB doc (.mk k n s i l) (cplL doc i)
noncomputable def cplL (doc : List Dfn) : List Val → List CFn
  | [] => []
  | v :: r => cplV doc v :: cplL doc r
end
theorem cplL_map (doc : List Dfn) (l : List Val) : cplL doc l = l.map (cplV doc) := by
  induction l with
  | nil => rw [cplL]; rfl
  | cons v l ih => rw [cplL, ih, List.map_cons]
theorem cplV_eq (doc : List Dfn) (v : Val) : cplV doc v = cplB doc v (v.items.map (cplV doc)) := by
  cases v
  rw [cplV, cplL_map]
  rfl
theorem cplV_z (doc : List Dfn) : cplV doc zVal = zFn := by
  rw [cplV_eq]
  funext tn tw picks path
  rfl
/-- The item of a key. -/
theorem itF_get (doc : List Dfn) (v : Val) (hv : v.k = 6) (key : ByteArray) : itF v.keys (v.items.map (cplV doc)) key = cplV doc ((getV v key).getD zVal) := by
  unfold itF getV
  rw [if_pos hv]
  split
  · rw [List.getElem?_map]
    cases v.items[(ix key v.keys 0).toNat]? with
    | none => exact (cplV_z doc).symm
    | some x => rfl
  · exact (cplV_z doc).symm
theorem lsR_len : ∀ (fs : List CFn) (j : Nat) (tn : ByteArray) (tw : List Int) (picks : List Pk) (path : List Val), (lsR fs j tn tw picks path).length = fs.length
  | [], j, tn, tw, picks, path => by rw [lsR]; rfl
  | f :: r, j, tn, tw, picks, path => by rw [lsR, List.length_cons, List.length_cons, lsR_len r]
theorem lsR_snoc (f : CFn) : ∀ (fs : List CFn) (j : Nat) (tn : ByteArray) (tw : List Int) (picks : List Pk) (path : List Val), lsR (fs ++ [f]) j tn tw picks path = lsR fs j tn tw picks path ++ [f tn tw picks (path ++ [inV (j + fs.length : Nat)])]
  | [], j, tn, tw, picks, path => by rw [List.nil_append, lsR, lsR, lsR]; rfl
  | x :: fs, j, tn, tw, picks, path => by
    rw [List.cons_append, lsR, lsR, lsR_snoc f fs, List.cons_append, List.length_cons]
    have e : (j + 1 + fs.length : Nat) = j + (fs.length + 1) := by omega
    rw [e]
theorem obS_snoc (ks : List ByteArray) (fs : List CFn) (on : ByteArray) (path : List Val) (l : List Pk) (p : Pk) :
    obS ks fs on path (l ++ [p]) = if p.on = on then obS ks fs on path l ++ [(p, itF ks fs p.key p.tn p.tw p.picks (path ++ [txV p.key]))] else obS ks fs on path l := by
  unfold obS
  rw [List.filter_append, List.map_append]
  by_cases c : p.on = on
  · rw [if_pos c]; simp [c]
  · rw [if_neg c]; simp [c]
/-- Is an object returned? -/
theorem typO_k {v : Val} {on : ByteArray} (h : typO v = some on) : v.k = 6 := by
  unfold typO getV at h
  split at h
  · cases h
  · rename_i t ht
    split at ht
    · assumption
    · cases ht
end Go.Proofs.YtgollgfifnmaaaaDoor
namespace Go.Proofs.YtgollgfifnmaaaaDoor
open Go.Eng
set_option linter.unusedVariables false
set_option linter.unusedSimpArgs false
abbrev ME := List (ByteArray × AV)
def KS (l : ME) : Prop := (l.map (·.1)).Nodup
theorem mfind_mput (b k : ByteArray) (v : AV) : ∀ l : ME, mfind b (mput k v l) = if b = k then some v else mfind b l
  | [] => by simp [mput, mfind]
  | (x, α) :: r => by
    rw [mput]
    by_cases h : k = x
    · subst h
      rw [if_pos rfl, mfind, mfind]
      split <;> rfl
    · rw [if_neg h, mfind, mfind, mfind_mput b k v r]
      by_cases hb : b = x
      · subst hb
        rw [if_pos rfl, if_pos rfl, if_neg (fun e => h e.symm)]
      · rw [if_neg hb, if_neg hb]
theorem mput_mem {k : ByteArray} {v : AV} {p : ByteArray × AV} : ∀ {l : ME}, p ∈ mput k v l → p = (k, v) ∨ p ∈ l
  | [], h => by simp [mput] at h; exact .inl h
  | (x, α) :: r, h => by
    rw [mput] at h
    split at h
    · rcases List.mem_cons.1 h with h | h
      · exact .inl h
      · exact .inr (by simp [h])
    · rcases List.mem_cons.1 h with h | h
      · exact .inr (by simp [h])
      · rcases mput_mem h with h | h
        · exact .inl h
        · exact .inr (by simp [h])
theorem mput_key {k : ByteArray} {v : AV} {x : ByteArray} : ∀ {l : ME}, x ∈ (mput k v l).map (·.1) → x = k ∨ x ∈ l.map (·.1) := fun {l} h => by
  obtain ⟨p, hp, rfl⟩ := List.mem_map.1 h
  rcases mput_mem hp with rfl | h
  · exact .inl rfl
  · exact .inr (List.mem_map.2 ⟨p, h, rfl⟩)
theorem ks_mput {k : ByteArray} {v : AV} : ∀ {l : ME}, KS l → KS (mput k v l)
  | [], h => by simp [KS, mput]
  | (x, α) :: r, h => by
    simp only [KS, List.map_cons, List.nodup_cons] at h
    rw [mput]
    split
    · rename_i e
      subst e
      simp only [KS, List.map_cons, List.nodup_cons]
      exact h
    · rename_i e
      simp only [KS, List.map_cons, List.nodup_cons]
      exact ⟨fun q => by
        rcases mput_key q with q | q
        · exact e q.symm
        · exact h.1 q, ks_mput (l := r) h.2⟩
theorem mdel_mem {k : ByteArray} {p : ByteArray × AV} : ∀ {l : ME}, p ∈ mdel k l → p ∈ l
  | [], h => by simp [mdel] at h
  | (x, α) :: r, h => by
    rw [mdel] at h
    split at h
    · simp [h]
    · rcases List.mem_cons.1 h with h | h
      · simp [h]
      · simp [mdel_mem h]
theorem ks_mdel {k : ByteArray} : ∀ {l : ME}, KS l → KS (mdel k l)
  | [], h => by simp [KS, mdel]
  | (x, α) :: r, h => by
    simp only [KS, List.map_cons, List.nodup_cons] at h
    rw [mdel]
    split
    · exact h.2
    · simp only [KS, List.map_cons, List.nodup_cons]
      exact ⟨fun q => by
        obtain ⟨p, hp, e⟩ := List.mem_map.1 q
        exact h.1 (List.mem_map.2 ⟨p, mdel_mem hp, e⟩), ks_mdel (l := r) h.2⟩
theorem mfind_none {b : ByteArray} : ∀ {l : ME}, b ∉ l.map (·.1) → mfind b l = none
  | [], _ => rfl
  | (x, α) :: r, h => by
    simp only [List.map_cons, List.mem_cons, not_or] at h
    rw [mfind, if_neg h.1, mfind_none h.2]
theorem mfind_mdel {k : ByteArray} (b : ByteArray) : ∀ {l : ME}, KS l → mfind b (mdel k l) = if b = k then none else mfind b l
  | [], _ => by simp [mdel, mfind]
  | (x, α) :: r, h => by
    simp only [KS, List.map_cons, List.nodup_cons] at h
    rw [mdel]
    by_cases e : k = x
    · subst e
      rw [if_pos rfl, mfind]
      by_cases hb : b = k
      · subst hb
        rw [if_pos rfl, mfind_none h.1]
      · rw [if_neg hb, if_neg hb]
    · rw [if_neg e, mfind, mfind, mfind_mdel b (l := r) h.2]
      by_cases hb : b = x
      · subst hb
        rw [if_pos rfl, if_pos rfl, if_neg (fun q => e q.symm)]
      · rw [if_neg hb, if_neg hb]
theorem mfind_get {b : ByteArray} {α : AV} : ∀ {l : ME}, KS l → (b, α) ∈ l → mfind b l = some α
  | [], _, h => by cases h
  | (x, β) :: r, hk, h => by
    simp only [KS, List.map_cons, List.nodup_cons] at hk
    rw [mfind]
    rcases List.mem_cons.1 h with h | h
    · cases h
      rw [if_pos rfl]
    · have hb : ¬ b = x := fun e => hk.1 (by rw [← e]; exact List.mem_map.2 ⟨_, h, rfl⟩)
      rw [if_neg hb]
      exact mfind_get hk.2 h
theorem mfind_mem {b : ByteArray} {α : AV} : ∀ {l : ME}, mfind b l = some α → (b, α) ∈ l
  | [], h => by cases h
  | (x, β) :: r, h => by
    rw [mfind] at h
    split at h
    · rename_i e; cases h; subst e; simp
    · simp [mfind_mem h]
/-- How many entries were not seen. -/
def unseen (l : ME) (sn : List ByteArray) : Nat := (l.filter fun p : ByteArray × AV => decide (p.1 ∉ sn)).length
theorem unseen_lt {l : ME} {sn : List ByteArray} {b : ByteArray} {α : AV} (h : (b, α) ∈ l) (hb : b ∉ sn) : unseen l (sn ++ [b]) < unseen l sn := by
  unfold unseen
  induction l with
  | nil => cases h
  | cons p l ih =>
    have le : ∀ l : ME, (l.filter fun p : ByteArray × AV => decide (p.1 ∉ sn ++ [b])).length ≤ (l.filter fun p : ByteArray × AV => decide (p.1 ∉ sn)).length := fun l => by
      rw [← List.countP_eq_length_filter, ← List.countP_eq_length_filter]
      refine List.countP_mono_left fun x _ hx => ?_
      simp only [List.mem_append, List.mem_singleton, not_or, decide_eq_true_eq] at hx ⊢
      exact hx.1
    rcases List.mem_cons.1 h with h | h
    · subst h
      rw [List.filter_cons_of_neg (by simp), List.filter_cons_of_pos (by simpa using hb), List.length_cons]
      have := le l
      omega
    · have := ih h
      by_cases c : p.1 ∈ sn
      · rw [List.filter_cons_of_neg (by simp [c]), List.filter_cons_of_neg (by simp [c])]
        exact this
      · rw [List.filter_cons_of_pos (p := fun p : ByteArray × AV => decide (p.1 ∉ sn)) (by simpa using c), List.length_cons]
        by_cases c2 : p.1 = b
        · rw [List.filter_cons_of_neg (by simp [c2])]
          omega
        · rw [List.filter_cons_of_pos (by simp [c, c2]), List.length_cons]
          omega
theorem unseen_del (l : ME) (sn : List ByteArray) (k : ByteArray) : unseen (mdel k l) sn ≤ unseen l sn := by
  unfold unseen
  induction l with
  | nil => exact Nat.le_refl _
  | cons p l ih =>
    obtain ⟨x, α⟩ := p
    rw [mdel]
    split
    · rw [List.filter_cons]
      split
      · rw [List.length_cons]; omega
      · exact Nat.le_refl _
    · rw [List.filter_cons, List.filter_cons]
      split
      · rw [List.length_cons, List.length_cons]; omega
      · exact ih
end Go.Proofs.YtgollgfifnmaaaaDoor
namespace Go.Proofs.YtgollgfifnmaaaaDoor
open Go.Eng
set_option linter.unusedVariables false
set_option linter.unusedSimpArgs false
set_option maxRecDepth 20000
/-- A map that holds true for the keys of a set, and nothing else. -/
def InM (Q : ByteArray → Bool) (L : ME) : Prop := KS L ∧ ∀ b, mfind b L = if Q b = true then some (.b true) else none
theorem InM.nil : InM (fun _ => false) [] := ⟨by simp [KS], fun b => by simp [mfind]⟩
theorem InM.put {Q R : ByteArray → Bool} {L : ME} (h : InM Q L) (k : ByteArray) (hR : ∀ b, R b = (decide (b = k) || Q b)) : InM R (mput k (.b true) L) := ⟨ks_mput h.1, fun b => by
  rw [mfind_mput, h.2 b, hR b]
  by_cases e : b = k <;> simp [e]⟩
theorem InM.del {Q R : ByteArray → Bool} {L : ME} (h : InM Q L) (k : ByteArray) (hR : ∀ b, R b = (Q b && !decide (b = k))) : InM R (mdel k L) := ⟨ks_mdel h.1, fun b => by
  rw [mfind_mdel b h.1, h.2 b, hR b]
  by_cases e : b = k <;> simp [e]⟩
theorem InM.ext {Q R : ByteArray → Bool} {L : ME} (h : InM Q L) (hR : ∀ b, R b = Q b) : InM R L := ⟨h.1, fun b => by rw [h.2 b, hR b]⟩
theorem InM.get {Q : ByteArray → Bool} {L : ME} (h : InM Q L) {b : ByteArray} {α : AV} (hb : (b, α) ∈ L) : Q b = true ∧ α = .b true := by
  have := mfind_get h.1 hb
  rw [h.2 b] at this
  split at this
  · cases this; exact ⟨by assumption, rfl⟩
  · cases this
theorem InM.mem {Q : ByteArray → Bool} {L : ME} (h : InM Q L) {b : ByteArray} (hb : Q b = true) : (b, .b true) ∈ L := by
  have := h.2 b
  rw [if_pos hb] at this
  exact mfind_mem this
noncomputable def may0 (doc : List Dfn) (t : Dfn) (name : ByteArray) (b : ByteArray) : Bool :=
  if t.k = 1 then decide (b = name) else if t.k = 2 then doc.any (fun x => decide (x.n = b) && decide (name ∈ unS x.impl)) else if t.k = 3 then decide (b ∈ unM t.members) else false
noncomputable def badT (doc : List Dfn) (t : Dfn) (name : ByteArray) (b : ByteArray) : Bool := match findD' doc b with
  | none => true
  | some o => decide (o.k ≠ 1) || (decide (t.k = 2) && !decide (name ∈ unS o.impl))
noncomputable def mayT (doc : List Dfn) (t : Dfn) (name : ByteArray) (b : ByteArray) : Bool := may0 doc t name b && !badT doc t name b
noncomputable def posW (Q : ByteArray → Bool) : List ByteArray → List Dfn → List ByteArray
  | out, [] => out
  | out, x :: r => if Q x.n = true ∧ x.n ∉ out then posW Q (out ++ [x.n]) r else posW Q out r
theorem findD_first {x : Dfn} {l : List Dfn} : ∀ {pre : List Dfn}, x.n ∉ pre.map Dfn.n → findD' (pre ++ x :: l) x.n = some x
  | [], _ => by rw [List.nil_append, find_cons, if_pos rfl]
  | y :: pre, h => by
    simp only [List.map_cons, List.mem_cons, not_or] at h
    rw [List.cons_append, find_cons, if_neg (fun e => h.1 e.symm), findD_first h.2]
theorem mayT_first {doc pre l : List Dfn} {t x : Dfn} {name : ByteArray} (hd : doc = pre ++ x :: l) (hx : x.n ∉ pre.map Dfn.n) : mayT doc t name x.n = (decide (x.k = 1) && kndB t name x) := by
  have hf : findD' doc x.n = some x := by rw [hd]; exact findD_first hx
  have hm : x ∈ doc := by rw [hd]; simp
  unfold mayT may0 badT kndB
  rw [hf]
  by_cases k1 : x.k = 1
  · by_cases t1 : t.k = 1
    · simp [k1, t1]
    · by_cases t2 : t.k = 2
      · by_cases c : name ∈ unS x.impl
        · have : (doc.any fun y => decide (y.n = x.n) && decide (name ∈ unS y.impl)) = true := List.any_eq_true.2 ⟨x, hm, by simp [c]⟩
          simp [k1, t2, c, this]
        · simp [k1, t2, c]
      · by_cases t3 : t.k = 3
        · simp [k1, t3]
        · simp [k1, t1, t2, t3]
  · simp [k1]
theorem posW_go (doc : List Dfn) (t : Dfn) (name : ByteArray) : ∀ (l pre : List Dfn) (out : List ByteArray), doc = pre ++ l → (∀ b, b ∈ out ↔ b ∈ pre.map Dfn.n ∧ mayT doc t name b = true) →
    posW (mayT doc t name) out l = out ++ posR t name (pre.map Dfn.n) l
  | [], pre, out, _, _ => by rw [posW, posR, List.append_nil]
  | x :: l, pre, out, hd, ho => by
    have e : (pre ++ [x]).map Dfn.n = pre.map Dfn.n ++ [x.n] := by simp
    have hd2 : doc = (pre ++ [x]) ++ l := by rw [hd]; simp
    rw [posW, posR]
    by_cases hs : x.n ∈ pre.map Dfn.n
    · rw [if_neg (fun h => h.2 ((ho _).2 ⟨hs, h.1⟩)), if_neg (fun h => h.1 hs), ← e]
      refine posW_go doc t name l (pre ++ [x]) out hd2 fun b => ?_
      rw [ho b, e]
      constructor
      · exact fun h => ⟨List.mem_append_left _ h.1, h.2⟩
      · refine fun h => ⟨?_, h.2⟩
        rcases List.mem_append.1 h.1 with h | h
        · exact h
        · rw [List.mem_singleton.1 h]; exact hs
    · have hm := mayT_first (t := t) (name := name) hd hs
      have hno : x.n ∉ out := fun h => hs ((ho _).1 h).1
      by_cases c : x.k = 1 ∧ kndB t name x = true
      · have hq : mayT doc t name x.n = true := by rw [hm]; simp [c.1, c.2]
        rw [if_pos ⟨hq, hno⟩, if_pos ⟨hs, c.1, c.2⟩, ← e, posW_go doc t name l (pre ++ [x]) (out ++ [x.n]) hd2 fun b => ?_]
        · rw [List.append_assoc]; rfl
        · rw [e, List.mem_append, List.mem_append, ho b]
          constructor
          · rintro (h | h)
            · exact ⟨.inl h.1, h.2⟩
            · rw [List.mem_singleton.1 h]; exact ⟨.inr (by simp), hq⟩
          · rintro ⟨h | h, h2⟩
            · exact .inl ⟨h, h2⟩
            · exact .inr h
      · have hq : ¬ mayT doc t name x.n = true := fun h => by
          rw [hm] at h
          simp only [Bool.and_eq_true, decide_eq_true_eq] at h
          exact c h
        rw [if_neg (fun h => hq h.1), if_neg (fun h => c ⟨h.2.1, h.2.2⟩), ← e]
        refine posW_go doc t name l (pre ++ [x]) out hd2 fun b => ?_
        rw [ho b, e]
        constructor
        · exact fun h => ⟨List.mem_append_left _ h.1, h.2⟩
        · refine fun h => ⟨?_, h.2⟩
          rcases List.mem_append.1 h.1 with h' | h'
          · exact h'
          · rw [List.mem_singleton.1 h'] at h; exact absurd h.2 hq
theorem posW_eq (doc : List Dfn) (name : ByteArray) : posW (mayT doc ((findD' doc name).getD zDf) name) [] doc = posL doc name := by
  unfold posL
  cases h : findD' doc name with
  | none =>
    have : ∀ l : List Dfn, posW (mayT doc (Option.getD none zDf) name) [] l = [] := by
      intro l
      induction l with
      | nil => rw [posW]
      | cons x l ih =>
        rw [posW, if_neg (fun h => by
          have := h.1
          simp [mayT, may0, zDf, Dfn.k_mk] at this), ih]
    exact this doc
  | some t =>
    have := posW_go doc t name doc [] [] rfl (fun b => by simp)
    rw [List.nil_append] at this
    exact this
end Go.Proofs.YtgollgfifnmaaaaDoor
