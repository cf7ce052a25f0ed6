/-
  Labels of picks. Conditions: none.
-/
import Derived.Test.YtmcgjccheehehaaDfG
namespace Go.Proofs.Ytmcgjccheehehaa
open Go.Eng
set_option linter.unusedVariables false
set_option linter.unusedSimpArgs false
set_option maxRecDepth 20000
inductive Arg where
  | mk (n : ByteArray) (v : Val)
def Arg.n : Arg → ByteArray | .mk n _ => n
theorem Arg.n_mk (n : ByteArray) (v : Val) : (Arg.mk n v).n = n := rfl
def Arg.v : Arg → Val | .mk _ v => v
theorem Arg.v_mk (n : ByteArray) (v : Val) : (Arg.mk n v).v = v := rfl
theorem Arg.eta (x : Arg) : Arg.mk x.n x.v = x := by cases x; rfl
theorem Arg.ext {x y : Arg} (h0 : x.n = y.n) (h1 : x.v = y.v) : x = y := by cases x; cases y; simp only [Arg.n_mk, Arg.v_mk] at *; simp [*]
attribute [go_sem]  Arg.n_mk Arg.v_mk
attribute [grind =] Arg.n_mk Arg.v_mk
attribute [ext] Arg.ext
attribute [grind ext] Arg.ext
def argC (x : Arg) : List AV := [.s x.n, .i .i64 x.v.k, .i .i64 x.v.n, .s x.v.s, .ds (mapC valC x.v.items), .ds (stC x.v.keys)]
inductive Pk where
  | mk (key on name : ByteArray) (args : List Arg) (tn : ByteArray) (tw : List Int) (label : ByteArray) (initial : Int) (picks : List Pk)
def Pk.key : Pk → ByteArray | .mk x _ _ _ _ _ _ _ _ => x
def Pk.on : Pk → ByteArray | .mk _ x _ _ _ _ _ _ _ => x
def Pk.name : Pk → ByteArray | .mk _ _ x _ _ _ _ _ _ => x
def Pk.args : Pk → List Arg | .mk _ _ _ x _ _ _ _ _ => x
def Pk.tn : Pk → ByteArray | .mk _ _ _ _ x _ _ _ _ => x
def Pk.tw : Pk → List Int | .mk _ _ _ _ _ x _ _ _ => x
def Pk.label : Pk → ByteArray | .mk _ _ _ _ _ _ x _ _ => x
def Pk.initial : Pk → Int | .mk _ _ _ _ _ _ _ x _ => x
def Pk.picks : Pk → List Pk | .mk _ _ _ _ _ _ _ _ x => x
mutual
def pkC : Pk → List AV
  | .mk k o n a tn tw l i p => [.s k, .s o, .s n, .ds (mapC argC a), .s tn, .ds (mapC in1 tw), .s l, .i .i64 i, .ds (pksC p)]
def pksC : List Pk → List (List AV)
  | [] => []
  | p :: r => pkC p :: pksC r
end
theorem pksC_eq (l : List Pk) : pksC l = mapC pkC l := by
  induction l with
  | nil => rfl
  | cons v l ih => rw [pksC, mapC_cons, ih]
theorem pkC_eq (p : Pk) : pkC p = [.s p.key, .s p.on, .s p.name, .ds (mapC argC p.args), .s p.tn, .ds (mapC in1 p.tw), .s p.label, .i .i64 p.initial, .ds (mapC pkC p.picks)] := by
  cases p
  rw [pkC, pksC_eq]
  rfl
attribute [go_sem] pkC_eq
theorem len_pk (l : List Pk) : (∀ e, e ∈ mapC pkC l → e.length = 9) = True := eq_true fun e h => by
  obtain ⟨x, _, rfl⟩ := mapC_mem _ _ h
  rw [pkC_eq]
  rfl
attribute [go_sem] len_pk
theorem Pk.picks_lt (v x : Pk) (h : x ∈ v.picks) : SizeOf.sizeOf x < SizeOf.sizeOf v := by
  cases v
  have := List.sizeOf_lt_of_mem h
  simp only [Pk.picks] at this
  simp
  omega
theorem Pk.ind {Q : Pk → Prop} (h : ∀ v, (∀ x ∈ v.picks, Q x) → Q v) (v : Pk) : Q v := h v fun x hx => Pk.ind h x
termination_by SizeOf.sizeOf v
decreasing_by exact Pk.picks_lt v x hx
mutual
def wtK : Pk → Nat
  | .mk _ _ _ _ _ _ _ _ p => 1 + wtKs p
def wtKs : List Pk → Nat
  | [] => 0
  | p :: r => wtK p + wtKs r
end
theorem wtK_eq (p : Pk) : wtK p = 1 + wtKs p.picks := by cases p; rw [wtK]; rfl
theorem wtKs_mem {x : Pk} : ∀ {l : List Pk}, x ∈ l → wtK x ≤ wtKs l
  | y :: r, h => by
    rw [wtKs]
    rcases List.mem_cons.1 h with rfl | h
    · omega
    · have := wtKs_mem h
      omega
theorem wtKs_len : ∀ l : List Pk, l.length ≤ wtKs l
  | [] => by simp
  | y :: r => by
    have := wtKs_len r
    have := wtK_eq y
    rw [wtKs]
    simp
    omega
def addLb (l : ByteArray) (out : List ByteArray) : List ByteArray := if ¬ l = ⟨#[]⟩ ∧ ¬ 0 ≤ ix l out 0 then out ++ [l] else out
mutual
def labP : Pk → List ByteArray → List ByteArray
  | .mk _ _ _ _ _ _ l _ p, out => labL p (addLb l out)
def labL : List Pk → List ByteArray → List ByteArray
  | [], out => out
  | p :: r, out => labL r (labP p out)
end
theorem labP_eq (p : Pk) (out : List ByteArray) : labP p out = labL p.picks (addLb p.label out) := by cases p; rw [labP]; rfl
theorem addLb_len (l : ByteArray) (out : List ByteArray) : out.length ≤ (addLb l out).length ∧ (addLb l out).length ≤ out.length + 1 := by
  unfold addLb
  split <;> simp
theorem labL_len : ∀ (l : List Pk), (∀ p ∈ l, ∀ out, out.length ≤ (labL p.picks out).length ∧ (labL p.picks out).length ≤ out.length + wtKs p.picks) → ∀ out, out.length ≤ (labL l out).length ∧ (labL l out).length ≤ out.length + wtKs l
  | [], _, out => by rw [labL, wtKs]; omega
  | p :: r, h, out => by
    rw [labL, wtKs, labP_eq, wtK_eq]
    have h1 := labL_len r (fun q hq => h q (by simp [hq])) (labL p.picks (addLb p.label out))
    have h2 := h p (by simp) (addLb p.label out)
    have h3 := addLb_len p.label out
    omega
theorem labL_lens (l : List Pk) (out : List ByteArray) : out.length ≤ (labL l out).length ∧ (labL l out).length ≤ out.length + wtKs l := by
  refine labL_len l (fun p _ => ?_) out
  exact Pk.ind (Q := fun p => ∀ out, out.length ≤ (labL p.picks out).length ∧ (labL p.picks out).length ≤ out.length + wtKs p.picks) (fun v ih => labL_len v.picks ih) p
theorem up_upd {m c : Nat} {X : Chunk} {hp a : CH} (h1 : gc a c = X) (h2 : ∀ j, j < m → j ≠ c → gc a j = gc hp j) : Up m ((c, X) :: hp) a := fun j hj => by
  by_cases hc : c = j
  · subst hc
    rw [gc_same]
    exact h1
  · rw [gc_ne _ _ hc]
    exact h2 j hj (fun e => hc e.symm)
theorem free_upd {m c : Nat} {X : Chunk} {hp : CH} (hf : ∀ k, m ≤ k → gc hp k = .no) (hc : c < m) : ∀ k, m ≤ k → gc ((c, X) :: hp) k = .no := fun k hk => by
  rw [gc_ne _ _ (by omega)]
  exact hf k hk
/-- A contract by which one row of the caller is written. -/
theorem meetsUpd {P : Program} {f : FuncId} {fn : Func} {k : CC} {rs : List RS} (hf : P.funcs[f]? = some fn) (hnm : (fn.name == "runtime.NumGoroutine") = false)
    (hc : fn.body.bind (ccode P fn.ntmps) = some k.erase) (hrs : rsv P fn.ntmps fn.results.toList = some rs) {hp : CH} {n c : Nat} {X : Chunk} {args : List AV} {r : AV} (hlen : Nat.ble args.length fn.ntmps = true)
    (hX : X.lt1 n) (hcn : (∀ k, n ≤ k → gc hp k = .no) → c < n) (hv : (∀ k, n ≤ k → gc hp k = .no) → vc P k ⟨argEnv 0 args, hp, n⟩ (endQ rs (outF ((c, X) :: hp) n [] r))) : MeetsX P f hp n args ((c, X) :: hp) n r := by
  have hok := (by obtain ⟨c, hb, hc'⟩ := bd hc; exact ⟨fn, hf, hnm, by rw [hb]; rfl⟩ : ∃ fn, P.funcs[f]? = some fn ∧ (fn.name == "runtime.NumGoroutine") = false ∧ fn.body.isNone = false)
  refine ⟨hok, fun h ρ w vs hs ha => ?_⟩
  refine (Meets.out (outs := []) (fun k hk => ?_) (free_upd hs.free (hcn hs.free)) (meets hf hnm hc hrs hlen (hv hs.free))).2 h ρ w vs hs ha
  by_cases hkc : c = k
  · subst hkc
    rw [gc_same]
    exact .inr hX
  · rw [gc_ne _ _ hkc]
    exact .inl rfl
end Go.Proofs.Ytmcgjccheehehaa
