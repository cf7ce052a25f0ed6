/-
  The parts VaG CmA of the proof, in one file. Conditions: none.
-/
import Derived.Test.YtgollgfifnmaaaaDoorCmP132
namespace Go.Proofs.YtgollgfifnmaaaaDoor
open Go.Eng
set_option linter.unusedVariables false
set_option linter.unusedSimpArgs false
set_option maxRecDepth 20000
/-- An object's item. -/
noncomputable def getV (v : Val) (k : ByteArray) : Option Val := if v.k = 6 then (if 0 ≤ ix k v.keys 0 then v.items[(ix k v.keys 0).toNat]? else none) else none
noncomputable def resV (o : Option Val) : AV := .tp [vx (o.getD zVal), .b o.isSome]
attribute [go_sem] resV zVal Option.getD_none Option.getD_some Option.isSome_none Option.isSome_some
theorem get_ok (v : Val) (hv : v.Fit) (k : ByteArray) (hp : CH) (m : Nat) : MeetsF Tryd.prog 91 hp m [vx v, .s k] (resV (getV v k)) := by
  refine meetsF Tryd.func91 (by kernel_rfl) cc91 cr91 rfl fun hf => ?_; unfold ck91
  have h1 := hv.l
  have h2 := ix_lt k v.keys 0
  simp only [go_sem, ↓reduceIte, Nat.reduceEqDiff, Nat.reduceBEq, Nat.reduceAdd, Nat.reduceLeDiff, Nat.reduceLT, reduceCtorEq, Nat.reduceMul, Nat.reduceSub, Int.reduceEq, Int.reduceLT, Int.reduceLE, Int.reduceToNat]
  refine vcCall.f (index_ok v.keys k (by omega) _ _) ?_
  simp only [go_sem, ↓reduceIte, Nat.reduceEqDiff, Nat.reduceBEq, Nat.reduceAdd, Nat.reduceLeDiff, Nat.reduceLT, reduceCtorEq, Nat.reduceMul, Nat.reduceSub, Int.reduceEq, Int.reduceLT, Int.reduceLE, Int.reduceToNat]
  refine cdK_of (fun c => ?_) (fun c => ?_)
  · have e : getV v k = none := by
      unfold getV
      simp at c
      grind
    rw [e]
    simp only [go_sem, ↓reduceIte, Nat.reduceEqDiff, Nat.reduceBEq, Nat.reduceAdd, Nat.reduceLeDiff, Nat.reduceLT, reduceCtorEq, Nat.reduceMul, Nat.reduceSub, Int.reduceEq, Int.reduceLT, Int.reduceLE, Int.reduceToNat]
  · simp at c
    obtain ⟨x, ex⟩ : ∃ x, v.items[(ix k v.keys 0).toNat]? = some x := ⟨v.items[(ix k v.keys 0).toNat], List.getElem?_eq_getElem (by omega)⟩
    have e : getV v k = some x := by unfold getV; rw [if_pos c.1.1, if_pos c.1.2, ex]
    have hx := hv.x (List.mem_of_getElem? ex)
    have c3 : (ix k v.keys 0).toNat < v.items.length := by omega
    rw [e]
    simp only [c3, c.1.2, getK_s (mapC_get valC ex), go_sem, ↓reduceIte, Nat.reduceEqDiff, Nat.reduceBEq, Nat.reduceAdd, Nat.reduceLeDiff, Nat.reduceLT, reduceCtorEq, Nat.reduceMul, Nat.reduceSub, Int.reduceEq, Int.reduceLT, Int.reduceLE, Int.reduceToNat]
    refine vcCall.f (copy_ok x hx _ _) ?_
    simp only [go_sem, ↓reduceIte, Nat.reduceEqDiff, Nat.reduceBEq, Nat.reduceAdd, Nat.reduceLeDiff, Nat.reduceLT, reduceCtorEq, Nat.reduceMul, Nat.reduceSub, Int.reduceEq, Int.reduceLT, Int.reduceLE, Int.reduceToNat]
theorem zval_fit : zVal.Fit := .mk _ (by simp [zVal, Val.items_mk]) (by simp [zVal, Val.keys_mk]) (by simp [zVal, Val.items_mk])
theorem getV_mem {v x : Val} {k : ByteArray} (h : getV v k = some x) : x ∈ v.items := by
  unfold getV at h
  split at h
  · split at h
    · exact List.mem_of_getElem? h
    · cases h
  · cases h
end Go.Proofs.YtgollgfifnmaaaaDoor
namespace Go.Proofs.YtgollgfifnmaaaaDoor
open Go.Eng
set_option linter.unusedVariables false
set_option linter.unusedSimpArgs false
set_option maxRecDepth 20000
instance bytesLawful : LawfulBEq ByteArray where
  eq_of_beq h := by rw [bytes_dec] at h; simpa using h
  rfl := by intro a; rw [bytes_dec]; simp
inductive Prb where
  | mk (p : List Val) (t : ByteArray)
def Prb.p : Prb → List Val | .mk p _ => p
theorem Prb.p_mk (p : List Val) (t : ByteArray) : (Prb.mk p t).p = p := rfl
def Prb.t : Prb → ByteArray | .mk _ t => t
theorem Prb.t_mk (p : List Val) (t : ByteArray) : (Prb.mk p t).t = t := rfl
theorem Prb.ext {x y : Prb} (h0 : x.p = y.p) (h1 : x.t = y.t) : x = y := by cases x; cases y; simp only [Prb.p_mk, Prb.t_mk] at *; simp [*]
def prbC (x : Prb) : List AV := [.ds (mapC valC x.p), .s x.t]
attribute [go_sem] prbC Prb.p_mk Prb.t_mk
attribute [grind =] Prb.p_mk Prb.t_mk
attribute [ext] Prb.ext
attribute [grind ext] Prb.ext
/-- The outermost wrapper of a type. -/
def nnW (w : List Int) : Bool := decide (w.head? = some 1)
def nulW (w : List Int) : List Int := if nnW w = true then w.tail else w
def lstW (w : List Int) : Bool := decide ((nulW w).head? = some 2)
def innW (w : List Int) : List Int := (nulW w).tail
theorem nulW_len (w : List Int) : (nulW w).length ≤ w.length := by
  unfold nulW
  split
  · simp
  · exact Nat.le_refl _
theorem innW_len (w : List Int) : (innW w).length ≤ w.length := by
  have := nulW_len w
  simp only [innW, List.length_tail]
  omega
/-- Names in cells. -/
def unS (l : List (List AV)) : List ByteArray := l.map fun e => match e with
  | [.s x] => x
  | _ => ⟨#[]⟩
theorem unS_st (l : List ByteArray) : unS (stC l) = l := by
  induction l with
  | nil => rfl
  | cons x l ih =>
    have : unS (stC (x :: l)) = x :: unS (stC l) := rfl
    rw [this, ih]
def unM (l : List (List AV)) : List ByteArray := l.map fun e => match e with
  | .s x :: _ => x
  | _ => ⟨#[]⟩
/-- A schema whose names are names. -/
structure DefOk (t : Dfn) : Prop where
  impl : t.impl = stC (unS t.impl)
  mem : ∀ e ∈ t.members, ∃ x y, e = [.s x, .ds y]
/-- Is an object type of a definition? -/
noncomputable def kndB (t : Dfn) (name : ByteArray) (x : Dfn) : Bool :=
  (decide (t.k = 1) && decide (x.n = name)) || ((decide (t.k = 2) && decide (name ∈ unS x.impl)) || (decide (t.k = 3) && decide (x.n ∈ unM t.members)))
/-- The possible types among definitions, but for names seen before. -/
noncomputable def posR (t : Dfn) (name : ByteArray) : List ByteArray → List Dfn → List ByteArray
  | _, [] => []
  | seen, x :: r => if x.n ∉ seen ∧ x.k = 1 ∧ kndB t name x = true then x.n :: posR t name (seen ++ [x.n]) r else posR t name (seen ++ [x.n]) r
noncomputable def posL (doc : List Dfn) (name : ByteArray) : List ByteArray := match findD' doc name with
  | none => []
  | some t => posR t name [] doc
theorem posR_len (t : Dfn) (name : ByteArray) : ∀ (l : List Dfn) (seen : List ByteArray), (posR t name seen l).length ≤ l.length
  | [], seen => by simp [posR]
  | x :: r, seen => by
    rw [posR]
    split
    · simp only [List.length_cons]
      have := posR_len t name r (seen ++ [x.n])
      omega
    · simp only [List.length_cons]
      have := posR_len t name r (seen ++ [x.n])
      omega
theorem posL_len (doc : List Dfn) (name : ByteArray) : (posL doc name).length ≤ doc.length := by
  unfold posL
  split
  · simp
  · exact posR_len _ _ _ _
/-- The values of leaf types. -/
def inV (n : Int) : Val := .mk 2 n ⟨#[]⟩ [] []
def enV (s : ByteArray) : Val := .mk 4 0 s [] []
def boV (n : Int) : Val := .mk 1 n ⟨#[]⟩ [] []
def liV (l : List Val) : Val := .mk 5 0 ⟨#[]⟩ l []
def obR (ks : List ByteArray) (l : List Val) : Val := .mk 6 0 ⟨#[]⟩ l ks
def sInt : ByteArray := ⟨#[73, 110, 116]⟩
def sString : ByteArray := ⟨#[83, 116, 114, 105, 110, 103]⟩
def sBoolean : ByteArray := ⟨#[66, 111, 111, 108, 101, 97, 110]⟩
def sID : ByteArray := ⟨#[73, 68]⟩
def sNull : ByteArray := ⟨#[110, 117, 108, 108]⟩
def sType : ByteArray := ⟨#[116, 121, 112, 101]⟩
noncomputable def scaC (n : ByteArray) (v : Val) : Option Val :=
  if n = sInt ∧ v.k = 2 ∧ -2147483648 ≤ v.n ∧ v.n ≤ 2147483647 then some (inV v.n)
  else if (n = sString ∨ n = sID) ∧ v.k = 3 then some (txV v.s)
  else if n = sID ∧ v.k = 2 then some (txV (ofL (Lib.itoa v.n)))
  else if n = sBoolean ∧ v.k = 1 then some (boV v.n)
  else none
noncomputable def leafC (doc : List Dfn) (n : ByteArray) (v : Val) : Option Val :=
  if scalB n = true then scaC n v
  else if kindD doc n = 4 ∧ v.k = 4 ∧ v.s ∈ unM ((findD' doc n).getD zDf).members then some (enV v.s) else none
noncomputable def leafB (doc : List Dfn) (n : ByteArray) : Bool := scalB n || decide (kindD doc n = 4)
/-- A completed value, and its problems. -/
abbrev CRes := Val × List Prb
abbrev CFn := ByteArray → List Int → List Pk → List Val → CRes
def failR (path : List Val) (s : ByteArray) : CRes := (zVal, [.mk path s])
def nulR (tw : List Int) (path : List Val) : CRes := if nnW tw = true then failR path sNull else (zVal, [])
/-- The completion of what is not there. -/
def zFn : CFn := fun _ tw _ path => nulR tw path
def lostB (tw : List Int) (v : Val) : Bool := decide (v.k = 0) && nnW tw
/-- The elements of a list. -/
noncomputable def lsR (fs : List CFn) (j : Nat) (tn : ByteArray) (tw : List Int) (picks : List Pk) (path : List Val) : List CRes := match fs with
  | [] => []
  | f :: r => f tn tw picks (path ++ [inV j]) :: lsR r (j + 1) tn tw picks path
/-- The picks of a type. -/
noncomputable def itF (ks : List ByteArray) (fs : List CFn) (key : ByteArray) : CFn := if 0 ≤ ix key ks 0 then (fs[(ix key ks 0).toNat]?).getD zFn else zFn
noncomputable def obS (ks : List ByteArray) (fs : List CFn) (on : ByteArray) (path : List Val) (picks : List Pk) : List (Pk × CRes) :=
  (picks.filter fun p => decide (p.on = on)).map fun p => (p, itF ks fs p.key p.tn p.tw p.picks (path ++ [txV p.key]))
noncomputable def listR (fs : List CFn) (tn : ByteArray) (tw : List Int) (picks : List Pk) (path : List Val) : CRes :=
  ((if (lsR fs 0 tn tw picks path).any (fun r => lostB tw r.1) = true then zVal else liV ((lsR fs 0 tn tw picks path).map (·.1))), (lsR fs 0 tn tw picks path).flatMap (·.2))
noncomputable def objR (ks : List ByteArray) (fs : List CFn) (on : ByteArray) (picks : List Pk) (path : List Val) : CRes :=
  ((if (obS ks fs on path picks).any (fun r => lostB r.1.tw r.2.1) = true then zVal else obR ((obS ks fs on path picks).map (·.1.key)) ((obS ks fs on path picks).map (·.2.1))), (obS ks fs on path picks).flatMap (·.2.2))
/-- The type of a raw object. -/
noncomputable def typO (v : Val) : Option ByteArray := match getV v sT with
  | none => none
  | some t => if t.k = 3 then some t.s else none
noncomputable def cplB (doc : List Dfn) (v : Val) (fs : List CFn) : CFn := fun tn tw picks path =>
  if v.k = 9 then failR path v.s
  else if v.k = 0 then nulR tw path
  else if lstW (nulW tw) = true then (if v.k = 5 then listR fs tn (innW (nulW tw)) picks path else failR path sType)
  else if leafB doc tn = true then (match leafC doc tn v with
    | some x => (x, [])
    | none => failR path sType)
  else match typO v with
    | none => failR path sType
    | some on => if compB doc tn = true ∧ on ∈ posL doc tn then objR v.keys fs on picks path else failR path sType
mutual
noncomputable def cplV (doc : List Dfn) : Val → CFn
  | .mk k n s i l => cplB doc (.mk k n s i l) (cplL doc i)
noncomputable def cplL (doc : List Dfn) : List Val → List CFn
  | [] => []
  | v :: r => cplV doc v :: cplL doc r
end
theorem cplL_map (doc : List Dfn) (l : List Val) : cplL doc l = l.map (cplV doc) := by
  induction l with
  | nil => rw [cplL]; rfl
  | cons v l ih => rw [cplL, ih, List.map_cons]
theorem cplV_eq (doc : List Dfn) (v : Val) : cplV doc v = cplB doc v (v.items.map (cplV doc)) := by
  cases v
  rw [cplV, cplL_map]
  rfl
theorem cplV_z (doc : List Dfn) : cplV doc zVal = zFn := by
  rw [cplV_eq]
  funext tn tw picks path
  rfl
/-- The item of a key. -/
theorem itF_get (doc : List Dfn) (v : Val) (hv : v.k = 6) (key : ByteArray) : itF v.keys (v.items.map (cplV doc)) key = cplV doc ((getV v key).getD zVal) := by
  unfold itF getV
  rw [if_pos hv]
  split
  · rw [List.getElem?_map]
    cases v.items[(ix key v.keys 0).toNat]? with
    | none => exact (cplV_z doc).symm
    | some x => rfl
  · exact (cplV_z doc).symm
theorem lsR_len : ∀ (fs : List CFn) (j : Nat) (tn : ByteArray) (tw : List Int) (picks : List Pk) (path : List Val), (lsR fs j tn tw picks path).length = fs.length
  | [], j, tn, tw, picks, path => by rw [lsR]; rfl
  | f :: r, j, tn, tw, picks, path => by rw [lsR, List.length_cons, List.length_cons, lsR_len r]
theorem lsR_snoc (f : CFn) : ∀ (fs : List CFn) (j : Nat) (tn : ByteArray) (tw : List Int) (picks : List Pk) (path : List Val), lsR (fs ++ [f]) j tn tw picks path = lsR fs j tn tw picks path ++ [f tn tw picks (path ++ [inV (j + fs.length : Nat)])]
  | [], j, tn, tw, picks, path => by rw [List.nil_append, lsR, lsR, lsR]; rfl
  | x :: fs, j, tn, tw, picks, path => by
    rw [List.cons_append, lsR, lsR, lsR_snoc f fs, List.cons_append, List.length_cons]
    have e : (j + 1 + fs.length : Nat) = j + (fs.length + 1) := by omega
    rw [e]
theorem obS_snoc (ks : List ByteArray) (fs : List CFn) (on : ByteArray) (path : List Val) (l : List Pk) (p : Pk) :
    obS ks fs on path (l ++ [p]) = if p.on = on then obS ks fs on path l ++ [(p, itF ks fs p.key p.tn p.tw p.picks (path ++ [txV p.key]))] else obS ks fs on path l := by
  unfold obS
  rw [List.filter_append, List.map_append]
  by_cases c : p.on = on
  · rw [if_pos c]; simp [c]
  · rw [if_neg c]; simp [c]
/-- Is an object returned? -/
theorem typO_k {v : Val} {on : ByteArray} (h : typO v = some on) : v.k = 6 := by
  unfold typO getV at h
  split at h
  · cases h
  · rename_i t ht
    split at ht
    · assumption
    · cases ht
end Go.Proofs.YtgollgfifnmaaaaDoor
