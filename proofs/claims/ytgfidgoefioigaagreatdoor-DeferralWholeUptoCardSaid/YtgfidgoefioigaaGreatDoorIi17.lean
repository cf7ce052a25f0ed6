/- Proof. Conditions: none. -/
import Derived.Test.YtgfidgoefioigaaGreatDoorRows
import Derived.ChangeStays
import Derived.ChangeArms
import Derived.ChangeShapes
import Derived.ProofKit
import Derived.OpenShut
import Derived.Test.YtgfidgoefioigaaGreatDoorIi16
open List renaming getElem?_eq_some_iff→zlb,getElem?_eq_getElem→zlg,cons_append→zlh,take_length→zlj
open Nat renaming le_refl→zna
namespace Go.Eng
open Go.RowKit
set_option linter.all false
inductive EH (P:Program):TypeId→List AV→Prop
 | b {t:TypeId} (x:Bool):P.underlying t=some .bool→EH P t [.b x]
 | i {t:TypeId} (k:IntKind) (n:Int):P.underlying t=some (.int k)→(Lit.int k n).wf=true→EH P t [.i k n]
 | s {t:TypeId} (s:ByteArray):P.underlying t=some .string→s.size≤maxLen→EH P t [.s s]
 | ds {t e:TypeId} (l:List (List AV)):P.underlying t=some (.slice e)→l.length≤maxLen→(∀x∈l,EH P e x)→EH P t [.ds l]
 | st {t:TypeId} {fs:Array Field} (parts:List (List AV)):P.underlying t=some (.struct fs)→parts.length=fs.toList.length→(∀(i:Nat) f p,fs.toList[i]?=some f→parts[i]?=some p→EH P f.type p)→EH P t parts.flatten
 | un {t:TypeId} (l:List AV):(∀d,P.underlying t=some d→match d with | .bool | .int _ | .string | .slice _ | .struct _=>False | _=>True)→EH P t l
mutual
def Ez:AV→Nat
 | .b _=>1
 | .i _ _=>1
 | .s s=>s.size+1
 | .ds l=>CG l+1
 | .ag l=>BG l
 | _=>0
def BG:List AV→Nat
 | []=>0
 | a::r=>Ez a+BG r
def CG:List (List AV)→Nat
 | []=>0
 | a::r=>BG a+CG r
end
theorem Cx (a b:List AV):BG (a++b)=BG a+BG b:=by
 induction a with
 | nil=>simp [BG]
 | cons x a ih=>rw [zlh,BG,BG,ih];omega
theorem YR {α:Type} (l:List α):BG (l.map fun _=>AV.un)=0:=by
 induction l with
 | nil=>rfl
 | cons x a ih=>rw [List.map_cons,BG,ih];rfl
def Th (w:World):HP:=fun b=>w.heap[b]?
def PL (w:World) (L:List AV) (cs:List Value):Prop:=L.length=cs.length∧∀(j:Nat) α v,L[j]?=some α→cs[j]?=some v→Bd (Th w) α v
theorem PL.one {w:World} {α:AV} {v:Value} (r:Bd (Th w) α v):PL w [α] [v]:=⟨rfl,fun j β u h1 h2=>by
 cases j with
 | zero=>simp at h1 h2;subst h1;subst h2;exact r
 | succ j=>simp at h1⟩
theorem PL.app {w:World} {L M:List AV} {cs ds:List Value} (a:PL w L cs) (b:PL w M ds):PL w (L++M) (cs++ds):=⟨by simp [a.1,b.1],fun j α v h1 h2=>by
 rw [List.getElem?_append] at h1 h2
 rw [←a.1] at h2
 split at h1
 .rename_i hj;rw [if_pos hj] at h2;exact a.2 j α v h1 h2
 .rename_i hj;rw [if_neg hj] at h2;exact b.2 _ α v h1 h2⟩
section
variable {H:Type} {enc:TypeId × Value→H} {P:Program} {w:World} {held:Bool} {T:TypeId→Prop}
theorem Hf {α:Type} (p:Nat→α→Prop):∀(len:Nat),(∀i,i<len→∃x,p i x)→∃l:List α,l.length=len∧∀(i:Nat) x,l[i]?=some x→p i x
 | 0,_=>⟨[],rfl,fun i x h=>by simp at h⟩
 | len+1,h=>by
  obtain ⟨l,h1,h2⟩:=Hf p len fun i hi=>h i (by omega)
  obtain ⟨x,hx⟩:=h len (by omega)
  refine ⟨l++[x],by simp [h1],fun i y hy=>?_⟩
  rw [List.getElem?_append] at hy
  split at hy
  .exact h2 i y hy
  .rename_i hi
   have:i - l.length=0:=by
    have:=(zlb.1 hy).1
    simp at this
    omega
   rw [this] at hy
   simp at hy
   rw [←hy,show i=len by omega]
   exact hx
theorem KQ (b o k:Nat):(⟨b,o,none⟩:Addr).add k=⟨b,o+k,none⟩:=by
 unfold Addr.add
 split
 .rename_i h;subst h;rfl
 .rfl
theorem RG {a:Addr} {u:Value} (h:w.cell? a=some u):a.spot=none:=by
 unfold World.cell? at h
 split at h
 .split at h
  .cases h
  .rename_i hs;simpa using hs
 .cases h
theorem Rn {b o:Nat} {u:Value} (h:w.cell? ⟨b,o,none⟩=some u):DB (Th w) b o=some u:=by
 unfold World.cell? at h
 unfold DB Th
 simp only [Option.isSome_none] at h
 split at h
 .rename_i c _ _ hc;rw [hc];simpa using h
 .cases h
theorem KO (cs:List Value):∀(F:List Field) (o:Nat) (Q:Nat→List AV→Prop),(∀(j:Nat) f,F[j]?=some f→f.offset=o+((F.take j).map fun f=>P.cellsOf f.type).sum) →
  (∀(i:Nat) f,F[i]?=some f→∃L,EH P f.type L∧PL w L ((cs.drop f.offset).take (P.cellsOf f.type))∧Q i L) →
  ∃parts:List (List AV),parts.length=F.length∧(∀(i:Nat) f p,F[i]?=some f→parts[i]?=some p→EH P f.type p∧Q i p)∧PL w parts.flatten ((cs.drop o).take ((F.map fun f=>P.cellsOf f.type).sum))
 | [],o,_,_,_=>⟨[],rfl,fun i f p h=>by simp at h,by simpa using ⟨rfl,fun j α v h=>by simp at h⟩⟩
 | f::F,o,Q,ho,hL=>by
  obtain ⟨L,h1,h2,h3⟩:=hL 0 f rfl
  have e0:f.offset=o:=by simpa using ho 0 f rfl
  obtain ⟨parts,a1,a2,a3⟩:=KO cs F (o+P.cellsOf f.type) (fun i=>Q (i+1)) (fun j g hg=>by
   have:=ho (j+1) g (by simpa using hg)
   simp only [List.take_succ_cons,List.map_cons,List.sum_cons] at this
   omega) (fun i g hg=>hL (i+1) g (by simpa using hg))
  refine ⟨L::parts,by simp [a1],fun i g p hg hp=>?_,?_⟩
  .cases i with
   | zero=>simp at hg hp;subst hg;subst hp;exact ⟨h1,h3⟩
   | succ i=>exact a2 i g p (by simpa using hg) (by simpa using hp)
  .rw [e0] at h2
   have:=PL.app h2 a3
   simp only [List.flatten_cons,List.map_cons,List.sum_cons]
   rw [List.take_add,List.drop_drop]
   exact this
open Go.Proofs.YtgfidgoefioigaaGreatDoor.Rows in
theorem LC {H:Type}:∀(l:List (List AV)) (ds:List (DataW H)),l.length=ds.length→(∀(i:Nat) p d,l[i]?=some p→ds[i]?=some d→BG p≤uptoBulk d)→CG l≤uptoBulkAll ds∧BG l.flatten≤uptoBulkAll ds
 | [],[],_,_=>⟨Nat.zero_le _,Nat.zero_le _⟩
 | [],d::ds,h,_=>by simp at h
 | p::l,[],h,_=>by simp at h
 | p::l,d::ds,h,hp=>by
  obtain ⟨h1,h2⟩:=LC l ds (by simpa using h) (fun i q e hq he=>hp (i+1) q e (by simpa using hq) (by simpa using he))
  have h3:=hp 0 p d rfl rfl
  rw [CG,uptoBulkAll,List.flatten_cons,Cx]
  omega
theorem Vw (K : Kids P T) (DN : ∀ {t e : TypeId}, T t → P.underlying t = some (.slice e) → 0 < P.cellsOf e) : ∀ (n : Nat) (t : TypeId) (cs : List Value) (x : DataW H × List MemPlace), T t → DataW.trod enc P w 0 (fun _ => true) held n t cs = some x → ∃ L, EH P t L ∧ PL w L cs ∧ BG L ≤ Go.Proofs.YtgfidgoefioigaaGreatDoor.Rows.uptoBulk x.1 := by
  intro n
  induction n with
  | zero => intro t cs x _ h; simp [DataW.trod] at h
  | succ n ih =>
    intro t cs x ht h
    cases hd:P.underlying t with
    | none => simp [DataW.trod, hd] at h
    | some d =>
      by_cases hb:d=.bool
      . subst hb
        obtain ⟨b,rfl,rfl⟩:=DataW.trod_bool hd h
        exact ⟨_,.b b hd,PL.one (.b b),zna _⟩
      by_cases hi:∃k,d=.int k
      . obtain ⟨k, rfl⟩ := hi
        obtain ⟨m,rfl,rfl,hw⟩:=DataW.trod_int hd h
        exact ⟨_,.i k m hd hw,PL.one (.i k m),zna _⟩
      by_cases hs:d=.string
      . subst hs
        obtain ⟨s,rfl,rfl,hm⟩:=DataW.trod_string hd h
        refine ⟨_,.s s hd hm,PL.one (.s s),?_⟩
        show s.size+1+0≤s.data.toList.length+1
        simp
      by_cases hsl:∃e,d=.slice e
      . obtain ⟨e, rfl⟩ := hsl
        rcases DataW.trod_slice hd h with ⟨rfl,rfl⟩ | ⟨a,len,cap,elems,rest,m,hm,rfl,rfl,_,Mb,hcm,Ol,hin,_⟩
        . exact ⟨_, .ds [] hd (by simp) (fun x hx => (by cases hx)), PL.one (.ds [] 0 none 0 (fun _ _ => undef) (Nat.le_refl _) (fun j e h => by simp at h) (fun j e q α h => by simp at h) (fun h => absurd rfl h)), Nat.le_refl _⟩
        . cases hm
          have hz:=DN ht hd
          have hte:=K.slice ht hd
          generalize hn:P.cellsOf e=z at *
          have hel':=Ol
          have Ol : ∀ i, i < len → ∃ us x, w.cells? 0 (a.add (i * z)) z = some us ∧ DataW.trod enc P w 0 (fun _ => true) held n e us = some x ∧ elems[i]? = some x := by
            intro i hi
            have h1:=hin i hi
            rw [List.getElem?_eq_getElem (by omega)] at h1
            cases hc:w.cells? 0 (a.add (i*z)) z with
            | none => rw [hc] at h1; cases h1
            | some us => rw [hc] at h1; exact ⟨us, _, rfl, h1, List.getElem?_eq_getElem (by omega)⟩
          by_cases hl0:len=0
          . subst hl0
            exact ⟨_, .ds [] hd (by simp) (fun x hx => (by cases hx)), PL.one (.ds [] 0 (some a) cap (fun _ _ => undef) (Nat.zero_le _) (fun j e h => by simp at h) (fun j e q α h => by simp at h) (fun h => absurd rfl h)), by show 0 + 1 + 0 ≤ _ + _ + 1; omega⟩
          have hsp:a.spot=none:=by
            obtain ⟨us, x, h1, _, _⟩ := Ol 0 (by omega)
            obtain ⟨_,h2,h3⟩:=World.cells?_some h1
            have h4:=h3 0 hz
            rw [List.getElem?_eq_getElem (by omega)] at h4
            have:=RG h4
            simpa [Addr.add] using this
          obtain ⟨b,o,sp⟩:=a
          simp only at hsp
          subst hsp
          obtain ⟨l, hl1, Fm⟩ := Hf (fun i L => EH P e L ∧ L.length = z ∧ (∀ (q : Nat) α, L[q]? = some α → ∃ u, w.cell? ⟨b, o + z * i + q, none⟩ = some u ∧ Bd (Th w) α u) ∧ ∀ d, elems[i]? = some d → BG L ≤ Go.Proofs.YtgfidgoefioigaaGreatDoor.Rows.uptoBulk d.1) len (by
            intro i hi
            obtain ⟨us,x,h1,h2,FI⟩:=Ol i hi
            obtain ⟨_,h3,h4⟩:=World.cells?_some h1
            obtain ⟨L,s1,s2,s3⟩:=ih e us x hte h2
            refine ⟨L, s1, s2.1.trans h3, fun q α hq => ?_, fun d hd => by rw [FI] at hd; cases hd; exact s3⟩
            have hqn : q < z := by have := (List.getElem?_eq_some_iff.1 hq).1; rw [s2.1, h3] at this; exact this
            have h5:=h4 q hqn
            rw [KQ,KQ] at h5
            have hu : us[q]? = some us[q] := List.getElem?_eq_getElem (by omega)
            exact ⟨us[q], by rw [← hu, ← h5, Nat.mul_comm z i], s2.2 q α _ hq hu⟩)
          refine ⟨_, .ds l hd (by omega) (fun x hx => ?_), ?_, ?_⟩
          . obtain ⟨i, hi, rfl⟩ := List.mem_iff_getElem.1 hx
            exact (Fm i _ (zlg hi)).1
          . rw [← hl1]
            refine PL.one (.ds l z (some ⟨b, o, none⟩) cap (fun j q => (w.cell? ⟨b, o + z * j + q, none⟩).getD undef) (by omega) (fun j x hx => (Fm j x hx).2.1) (fun j x q α hx hq => ?_) (fun _ => ⟨b, o, rfl, fun j x q α hx hq => ?_⟩))
            . obtain ⟨u, hu, r⟩ := (Fm j x hx).2.2.1 q α hq
              rw [hu]
              exact r
            . obtain ⟨u, hu, r⟩ := (Fm j x hx).2.2.1 q α hq
              rw [hu]
              exact Rn hu
          . have hb := (LC l (elems.map (·.1)) (by simp; omega) (fun i p d hp hd => by
              simp only [List.getElem?_map,Option.map_eq_some_iff] at hd
              obtain ⟨x,hx,rfl⟩:=hd
              exact (Fm i p hp).2.2.2 x hx)).1
            show CG l+1+0≤_+_+1
            omega
      by_cases C1:∃fs,d=.struct fs
      . obtain ⟨fs, rfl⟩ := C1
        obtain ⟨xs,m,hm,rfl,hlen',hxs,hf⟩:=DataW.trod_struct hd h
        cases hm
        obtain ⟨k1,k2,k3⟩:=K.struct ht hd
        obtain ⟨parts, p1, p2, p3⟩ := KO (w := w) cs fs.toList 0 (fun i L => ∀ d, xs[i]? = some d → BG L ≤ Go.Proofs.YtgfidgoefioigaaGreatDoor.Rows.uptoBulk d.1) (fun j f hf' => by rw [Nat.zero_add]; exact k3 j f hf') (fun i f hf' => by
          have hi : i < fs.size := by have := (List.getElem?_eq_some_iff.1 hf').1; simpa using this
          have hfe : fs[i]? = some f := by simpa using hf'
          have h1:=hf i f hfe
          rw [List.getElem?_eq_getElem (by omega)] at h1
          obtain ⟨L,a,b,c⟩:=ih f.type _ _ (k1 _ (List.mem_of_getElem? hf')) h1
          exact ⟨L, a, b, fun d hd => by rw [List.getElem?_eq_getElem (by omega)] at hd; cases hd; exact c⟩)
        refine ⟨_, .st parts hd p1 (fun i f p a b => (p2 i f p a b).1), ?_, ?_⟩
        rotate_left
        . have hsz2 : fs.toList.length = fs.size := by simp
          have hb := (LC parts (xs.map (·.1)) (by simp; omega) (fun i p d hp hd => by
            simp only [List.getElem?_map,Option.map_eq_some_iff] at hd
            obtain ⟨x,hx,rfl⟩:=hd
            have hi : i < fs.toList.length := by have := (List.getElem?_eq_some_iff.1 hp).1; omega
            exact (p2 i _ p (zlg hi) hp).2 x hx)).2
          show BG parts.flatten≤_+1
          omega
        have e : ((cs.drop 0).take ((fs.toList.map fun f => P.cellsOf f.type).sum)) = cs := by rw [← k2, List.drop_zero, ← hlen', List.take_length]
        rw [e] at p3
        exact p3
      . refine ⟨cs.map fun _ => .un, .un _ fun d' Cr => ?_, ⟨by simp, fun j α v h1 h2 => ?_⟩, by rw [YR]; exact Nat.zero_le _⟩
        . rw [hd] at Cr
          cases Cr
          cases d<;>simp_all
        . simp at h1
          obtain ⟨_,_,rfl⟩:=h1
          exact .un _
def slB (P:Program):Bool:=(List.range P.types.size).all fun t=>match P.underlying t with
 | some (.slice e)=>decide (0<P.cellsOf e)
 | _=>true
theorem Yf (h:slB P=true) {t e:TypeId} (ht:t<P.types.size) (hd:P.underlying t=some (.slice e)):0<P.cellsOf e:=by
 have:=List.all_eq_true.1 h t (by simpa using ht)
 simpa [hd] using this
def AS (P:Program) (t:TypeId) (α:AV):Prop:=(∃fs L,P.underlying t=some (.struct fs)∧α=.ag L∧EH P t L)∨((∀fs,P.underlying t≠some (.struct fs))∧EH P t [α])
def ASs (P:Program):List TypeId→List AV→Prop
 | [],[]=>True
 | t::ts,α::αs=>AS P t α∧ASs P ts αs
 | _,_=>False
theorem ZF (K:Kids P T) (DN:∀{t e:TypeId},T t→P.underlying t=some (.slice e)→0<P.cellsOf e) {t:TypeId} {v:Value} {d:DataW H} {p:List MemPlace} (ht:T t) {base:Nat} (hv:Value.okWide P w .any base t v) (h:DataW.Trod enc P w 0 (fun _=>true) held t v d p):∃α,AS P t α∧Bd (Th w) α v∧Ez α≤Go.Proofs.YtgfidgoefioigaaGreatDoor.Rows.uptoBulk d:=by
 obtain ⟨n,hn⟩:=h
 obtain ⟨L,s1,s2,s3⟩:=Vw K DN n t _ _ ht hn
 by_cases C1:∃fs,P.underlying t=some (.struct fs)
 .obtain ⟨fs,Of⟩:=C1
  obtain ⟨cs,rfl,_⟩:=WideShapes.okWide_struct Of hv
  refine ⟨.ag L,.inl ⟨fs,L,Of,rfl,s1⟩,?_⟩
  have:Bd (Th w) (.ag L) (.agg cs.toList.toArray):=.ag L cs.toList (by simpa [Value.cells] using s2.1) (fun j α v h1 h2=>s2.2 j α v h1 (by simpa [Value.cells] using h2))
  exact ⟨by simpa using this,s3⟩
 .have hst':∀fs,P.underlying t≠some (.struct fs):=fun fs e=>C1 ⟨fs,e⟩
  have Hj:v.cells=#[v]→∃α,AS P t α∧Bd (Th w) α v∧Ez α≤Go.Proofs.YtgfidgoefioigaaGreatDoor.Rows.uptoBulk d:=by
   intro hc
   rw [hc] at s2
   obtain ⟨α,rfl⟩:∃α,L=[α]:=by
    have:=s2.1
    cases L with
    | nil=>simp at this
    | cons a r=>cases r with
     | nil=>exact ⟨a,rfl⟩
     | cons=>simp at this
   exact ⟨α,.inr ⟨hst',s1⟩,s2.2 0 _ _ rfl rfl,by rw [BG,BG] at s3;exact s3⟩
  have hun:(∀d,P.underlying t=some d→match d with | .bool | .int _ | .string | .slice _ | .struct _=>False | _=>True)→∃α,AS P t α∧Bd (Th w) α v∧Ez α≤Go.Proofs.YtgfidgoefioigaaGreatDoor.Rows.uptoBulk d:=fun h=>⟨.un,.inr ⟨hst',.un _ h⟩,.un _,Nat.zero_le _⟩
  cases hd:P.underlying t with
  | none=>exact hun (fun d h=>by rw [hd] at h;cases h)
  | some d =>
   cases d with
   | bool=>obtain ⟨b,rfl⟩:=WideShapes.okWide_bool hd hv;exact Hj rfl
   | int k=>obtain ⟨b,rfl⟩:=WideShapes.okWide_int hd hv;exact Hj rfl
   | string=>obtain ⟨b,rfl⟩:=WideShapes.okWide_string hd hv;exact Hj rfl
   | slice e=>obtain ⟨a,b,c,rfl⟩:=WideShapes.okWide_slice hd hv;exact Hj rfl
   | struct fs=>exact absurd hd (hst' fs)
   | _=>exact hun (fun d h=>by rw [hd] at h;cases h;trivial)
theorem Vn (K:Kids P T) (DN:∀{t e:TypeId},T t→P.underlying t=some (.slice e)→0<P.cellsOf e) {f:FuncId} {fn:Func} {s:ChangeSpec} {tb:TypeId} (hT:∀t∈fn.params.toList,T t) (hvs:s.vars=[])
  (hs:∀(ds:List (DataW H)),ds.length=fn.params.toList.length→(s.fn H ds).results=[.lit (.bool true)]∧(s.fn H ds).args=ds∧(s.fn H ds).vars=[]) (hres:fn.resultTypes=#[tb]) (htb:P.underlying tb=some .bool)
  {base:Nat} {args:Array Value} {ds gs:List (DataW H)} {before:List MemPlace} (m:∀αs,ASs P fn.params.toList αs→BG αs≤Go.Proofs.YtgfidgoefioigaaGreatDoor.Rows.uptoBulkAll ds→Ah P f [] 0 αs (.b true))
  (A4:∀(j:Nat) t v,fn.params[j]?=some t→args[j]?=some v→Value.okWide P w .any base t v) (hW:DataW.Whole enc P fn.params.toList s.vars false w args.toList ds gs before)
  (hgl:∀b vs,(b,vs)∈IF→∃t fr,w.heap[b]?=some (.cells vs t fr):=by intro b vs h;cases h) :
  Calls P f args w fun e W'=>∃v,e=.returned v∧s.post enc P fn false true false false w args v W':=by
 have hW':=hW
 obtain ⟨p,q,hA,hV,rfl,_,_⟩:=hW
 rw [hvs] at hV
 obtain ⟨rfl,rfl⟩:=ChangeShapes.trodVars_none hV
 have key:∀(ts:List TypeId) (vs:List Value) (ds:List (DataW H)) (p:List MemPlace),(∀t∈ts,T t)→(∀(j:Nat) t v,ts[j]?=some t→vs[j]?=some v→Value.okWide P w .any base t v)→DataW.TrodAll enc P w 0 (fun _=>true) true ts vs ds p →
   (∃αs,ASs P ts αs∧Br (Th w) (fun _ _=>none) αs vs∧BG αs≤Go.Proofs.YtgfidgoefioigaaGreatDoor.Rows.uptoBulkAll ds)∧ds.length=ts.length∧∀W' sp,Below w.heap.size w W'→(∀x∈p,sp x.block=true)→DataW.TrodAll enc P W' 0 sp true ts vs ds p:=by
  intro ts
  induction ts with
  | nil =>
   intro vs ds p _ _ h
   obtain ⟨rfl,rfl,rfl⟩:=ChangeShapes.trodAll_nil h
   exact ⟨⟨[],trivial,Br.nil,zna _⟩,rfl,fun _ _ _ _=>rfl⟩
  | cons t ts ih =>
   intro vs ds p hT hv h
   obtain ⟨v,vs',d,ds',p1,p2,rfl,rfl,rfl,h1,h2⟩:=ChangeShapes.trodAll_cons h
   obtain ⟨⟨αs,a1,a2,a5⟩,a3,a4⟩:=ih vs' ds' p2 (fun t ht=>hT t (by simp [ht])) (fun j t v x y=>hv (j+1) t v (by simpa using x) (by simpa using y)) h2
   obtain ⟨α,b1,b2,b3⟩:=ZF K DN (hT t (by simp)) (hv 0 t v rfl rfl) h1
   refine ⟨⟨α::αs,⟨b1,a1⟩,Br.cons (.pu _ _ b2) a2,by rw [BG,Go.Proofs.YtgfidgoefioigaaGreatDoor.Rows.uptoBulkAll];omega⟩,by simp [a3],fun W' sp hb hp=>?_⟩
   obtain ⟨n,hn⟩:=h1
   have BH:=DataW.trod_lt n t _ _ hn
   exact ⟨p1,p2,⟨n,DataW.trod_stays K DN (fun h=>by cases h) (hT t (by simp)) hn (fun x hx=>hb.same (BH x hx)) (fun x hx=>hp x (by simp [hx]))⟩,a4 W' sp hb (fun x hx=>hp x (by simp [hx])),rfl⟩
 have LR:∀(j:Nat) t v,fn.params.toList[j]?=some t→args.toList[j]?=some v→Value.okWide P w .any base t v:=fun j t v x y=>A4 j t v (by simpa using x) (by simpa using y)
 obtain ⟨⟨αs,h1,h2,h5⟩,h3,h4⟩:=key _ _ _ _ hT LR hA
 have De:SatH (Th w) (fun _ _=>none) [] 0 w:=⟨fun b o e=>e,fun k=>trivial,fun k k' g g' b c c' e=>(by cases e),fun b ⟨k,g,c,e,_⟩=>(by cases e),fun b ⟨k,g,c,e,_⟩=>(by cases e),fun _ _ _=>rfl,fun k g g' x e _=>(by cases e),hgl⟩
 have hc:=(m αs h1 h5).2 _ _ w args.toList De h2
 have e:args.toList.toArray=args:=by simp
 rw [e] at hc
 refine hc.mono fun e W' ⟨v,he,h',_,_,hr,hk⟩=>?_
 cases hr
 have hb:Below w.heap.size w W':=(Keeps.below ⟨hk.os,hk.tape,hk.output,hk.size,fun b hb _=>hk.block b hb (fun ⟨k,g,c,e,_⟩=>by cases e)⟩)
 have JL:=hs (ds++[]) (by simpa using h3)
 refine ⟨_,he,ds,[],p++[],[],p,[],hW',?_,?_,?_,World.keptBut_mono (fun _ h=>h.elim) (hb.frame (fun _=>False)),fun h=>(by cases h)⟩
 .rw [hres,JL.1]
  exact ⟨[],[],RowKit.shut_bool htb true,rfl,rfl⟩
 .rw [JL.2.1,List.append_nil]
  have BH:=DataW.TrodAll.lt hA
  exact h4 W' _ hb (fun x hx=>by simpa using BH x hx)
 .rw [JL.2.2,hvs]
  rfl
end
/-! ### Readings by type -/
section
variable {P:Program} {t e:TypeId} {L:List AV} {α:AV}
theorem TN (hd:P.underlying t=some .bool) (h:EH P t L):∃x,L=[.b x]:=by
 cases h with
 | b x _=>exact ⟨x,rfl⟩
 | i _ _ Cr=>rw [hd] at Cr;cases Cr
 | s _ Cr=>rw [hd] at Cr;cases Cr
 | ds _ Cr=>rw [hd] at Cr;cases Cr
 | st _ Cr=>rw [hd] at Cr;cases Cr
 | un _ h=>exact (h _ hd).elim
theorem Cy {k:IntKind} (hd:P.underlying t=some (.int k)) (h:EH P t L):∃n,L=[.i k n]∧(Lit.int k n).wf=true:=by
 cases h with
 | b x Cr=>rw [hd] at Cr;cases Cr
 | i _ n Cr hw=>rw [hd] at Cr;cases Cr;exact ⟨n,rfl,hw⟩
 | s _ Cr=>rw [hd] at Cr;cases Cr
 | ds _ Cr=>rw [hd] at Cr;cases Cr
 | st _ Cr=>rw [hd] at Cr;cases Cr
 | un _ h=>exact (h _ hd).elim
theorem AO (hd:P.underlying t=some .string) (h:EH P t L):∃s:ByteArray,L=[.s s]∧s.size≤maxLen:=by
 cases h with
 | b x Cr=>rw [hd] at Cr;cases Cr
 | i _ n Cr hw=>rw [hd] at Cr;cases Cr
 | s s Cr hs=>exact ⟨s,rfl,hs⟩
 | ds _ Cr=>rw [hd] at Cr;cases Cr
 | st _ Cr=>rw [hd] at Cr;cases Cr
 | un _ h=>exact (h _ hd).elim
theorem AH (hd:P.underlying t=some (.slice e)) (h:EH P t L):∃l:List (List AV),L=[.ds l]∧l.length≤maxLen∧∀x∈l,EH P e x:=by
 cases h with
 | b x Cr=>rw [hd] at Cr;cases Cr
 | i _ n Cr hw=>rw [hd] at Cr;cases Cr
 | s _ Cr=>rw [hd] at Cr;cases Cr
 | ds l Cr hl hx=>rw [hd] at Cr;cases Cr;exact ⟨l,rfl,hl,hx⟩
 | st _ Cr=>rw [hd] at Cr;cases Cr
 | un _ h=>exact (h _ hd).elim
theorem AU {fs:Array Field} (hd:P.underlying t=some (.struct fs)) (h:EH P t L):∃parts:List (List AV),L=parts.flatten∧parts.length=fs.toList.length∧∀(i:Nat) f p,fs.toList[i]?=some f→parts[i]?=some p→EH P f.type p:=by
 cases h with
 | b x Cr=>rw [hd] at Cr;cases Cr
 | i _ n Cr hw=>rw [hd] at Cr;cases Cr
 | s _ Cr=>rw [hd] at Cr;cases Cr
 | ds _ Cr=>rw [hd] at Cr;cases Cr
 | st parts Cr hl hx=>rw [hd] at Cr;cases Cr;exact ⟨parts,rfl,hl,hx⟩
 | un _ h=>exact (h _ hd).elim
theorem Hy {fs:Array Field} (hd:P.underlying t=some (.struct fs)) (h:AS P t α):∃L,α=.ag L∧EH P t L:=by
 rcases h with ⟨fs,L,_,e,h⟩ | ⟨h,_⟩
 .exact ⟨L,e,h⟩
 .exact absurd hd (h fs)
theorem Eq {β:Type} {c:β→List AV}:∀{l:List (List AV)},(∀x∈l,∃y,x=c y)→∃m:List β,l=Ad c m∧m.length=l.length
 | [],_=>⟨[],rfl,rfl⟩
 | x::l,h=>by
  obtain ⟨y,rfl⟩:=h x (by simp)
  obtain ⟨m,e,hl⟩:=Eq (c:=c) (l:=l) fun z hz=>h z (by simp [hz])
  exact ⟨y::m,by rw [e,BT],by simp [hl]⟩
end
theorem GW {β:Type} {l:List β} (h:l.length=2):∃t1 t2,l=[t1,t2]:=by
 match l,h with
 | [t1,t2],_=>exact ⟨t1,t2,rfl⟩
theorem Adw {P:Program} {t1 t2 t3:TypeId} {αs:List AV} (h:ASs P [t1,t2,t3] αs):∃α1 α2 α3,αs=[α1,α2,α3]∧AS P t1 α1∧AS P t2 α2∧AS P t3 α3:=by
 match αs,h with
 | [α1,α2,α3],h=>exact ⟨α1,α2,α3,rfl,h.1,h.2.1,h.2.2.1⟩
 | [],h=>exact (h:False).elim
 | [α1],h=>exact (h.2:False).elim
 | [α1,α2],h=>exact (h.2.2:False).elim
 | α1::α2::α3::x::l,h=>exact (h.2.2.2:False).elim
theorem Adb {β:Type} {l:List β} (h:l.length=3):∃t1 t2 t3,l=[t1,t2,t3]:=by
 match l,h with
 | [t1,t2,t3],_=>exact ⟨t1,t2,t3,rfl⟩
theorem X8 {β:Type} {l:List β} (h:l.length=4):∃t1 t2 t3 t4,l=[t1,t2,t3,t4]:=by
 match l,h with
 | [t1,t2,t3,t4],_=>exact ⟨t1,t2,t3,t4,rfl⟩
theorem PV {β:Type} {l:List β} (h:l.length=5):∃t1 t2 t3 t4 t5,l=[t1,t2,t3,t4,t5]:=by
 match l,h with
 | [t1,t2,t3,t4,t5],_=>exact ⟨t1,t2,t3,t4,t5,rfl⟩
theorem Z3 {P:Program} {l:Array TypeId} (h:(l.toList.all fun t=>decide (t<P.types.size))=true):∀t∈l.toList,t<P.types.size:=fun t ht=>of_decide_eq_true (List.all_eq_true.1 h t ht)
theorem SatH.recast {h:HP} {ρ:RO} {hp:CH} {n:Nat} {w:World} (m:SatH h ρ hp n w) {k:Nat} {c:Ap} (hg:∀j,c.own j→(gc hp k).own j) (hr:c.rgen=(gc hp k).rgen) (hs:c.sat h ρ w k):SatH h ρ ((k,c)::hp) n w:=by
 have g1:∀j g,(gc ((k,c)::hp) j).own g→(gc hp j).own g:=fun j g=>by
  by_cases e:k=j
  .subst e;rw [Av];exact hg g
  .rw [Aq c hp e];exact id
 have g2:∀j,(gc ((k,c)::hp) j).rgen=(gc hp j).rgen:=fun j=>by
  by_cases e:k=j
  .subst e;rw [Av];exact hr
  .rw [Aq c hp e]
 have hl:∀b,A9 ρ ((k,c)::hp) b→A9 ρ hp b:=fun b ⟨j,g,x,e,r⟩=>⟨j,g,x,g1 _ _ e,r⟩
 refine ⟨m.hh,fun j=>?_,fun k k' g g' b c c' a1 a2=>m.inj k k' g g' b c c' (g1 _ _ a1) (g1 _ _ a2),fun b hb=>m.hid b (hl b hb),fun b hb=>m.lt b (hl b hb),m.fr,fun j g g' x e r=>m.gens j g g' x (by rw [←g2];exact e) r,m.gl⟩
 by_cases e:k=j
 .subst e;rw [Av];exact hs
 .rw [Aq c hp e];exact m.ch j
theorem Ct {ρ:RO} {hp:CH} {k:Nat} {c:Ap} (hg:∀j,c.own j→(gc hp k).own j) (b:Nat) (h:A9 ρ ((k,c)::hp) b):A9 ρ hp b:=by
 obtain ⟨j,g,x,e,r⟩:=h
 refine ⟨j,g,x,?_,r⟩
 by_cases q:k=j
 .subst q;rw [Av] at e;exact hg _ e
 .rw [Aq c hp q] at e;exact e
theorem T1 {P : Program} {f : FuncId} {fn : Func} {k : CC} {rs : List RS} (hf : P.funcs[f]? = some fn) (Fn : (fn.name == "runtime.NumGoroutine") = false)
  (hc:fn.body.bind (BL P fn.ntmps)=some k.erase) (GG:MW P fn.ntmps fn.results.toList=some rs) {hp:CH} {n:Nat} {args:List AV} {R:CH→Nat→AV→Prop} (Bb:Nat.ble args.length fn.ntmps=true)
  (hv:(∀k,n≤k→gc hp k=.no)→vc P k ⟨Cu 0 args,hp,n⟩ (Ji rs R)):AI P f hp n args R:=by
 have Io := (by obtain ⟨c, hb, Oo⟩ := bd hc; exact ⟨fn, hf, Fn, by rw [hb]; rfl⟩ : ∃ fn, P.funcs[f]? = some fn ∧ (fn.name == "runtime.NumGoroutine") = false ∧ fn.body.isNone = false)
 exact ⟨Io,fun h ρ w vs hs ha=>(Ib hf Fn hc GG Bb (hv hs.free)).2 h ρ w vs hs ha⟩
theorem AI.post {P:Program} {f:FuncId} {hp:CH} {n:Nat} {args:List AV} {R R':CH→Nat→AV→Prop} (m:AI P f hp n args R)
  (k:∀Ao n' r h ρ w v,R Ao n' r→SatH h ρ Ao n' w→AN h ρ r v→∃h' ρ' D6 n2 r2,R' D6 n2 r2∧B8 h h'∧BS ρ ρ'∧SatH h' ρ' D6 n2 w∧AN h' ρ' r2 v∧∀b,A9 ρ' D6 b→A9 ρ Ao b):AI P f hp n args R':=by
 refine ⟨m.1,fun h ρ w vs hs ha=>(m.2 h ρ w vs hs ha).mono fun e w' ⟨v,he,h',ρ',Ao,n',r',q1,hh,hr,hm,BW,hk,hl⟩=>?_⟩
 obtain ⟨h2,ρ2,D6,n2,r2,x1,x2,x3,x4,x5,x6⟩:=k Ao n' r' h' ρ' w' v q1 hm BW
 exact ⟨v,he,h2,ρ2,D6,n2,r2,x1,hh.trans x2,hr.trans x3,x4,x5,hk,fun b hb=>hl b (x6 b hb)⟩
/-! ### Parts of memory,but for some chunks -/
def UpX (X:List Nat) (n:Nat) (hp Ao:CH):Prop:=∀k,k<n→k ∉ X→gc Ao k=gc hp k
def Ae (X:List Nat) (hp Ao:CH):Prop:=∀k,k ∉ X→gc Ao k=gc hp k∨gc Ao k=.no
theorem Ae.sub {hp Ao:CH} (h:Ae [] hp Ao):A6 hp Ao:=fun k=>h k (by simp)
theorem Ae.cons {X:List Nat} {hp Ao:CH} {k:Nat} {c:Ap} (h:gc hp k=c) (s:Ae (k::X) hp Ao):Ae X hp ((k,c)::Ao):=fun j hj=>by
 by_cases q:k=j
 .subst q
  exact .inl (by rw [Av];exact h.symm)
 .rw [Aq c Ao q]
  exact s j (by simp [hj,Ne.symm q])
theorem Ae.base {X:List Nat} {n:Nat} {B hp:CH} (hf:∀k,n≤k→gc B k=.no) (hu:UpX X n B hp):Ae X hp B:=fun k hk=>by
 rcases Nat.lt_or_ge k n with h | h
 .exact .inl (hu k h hk).symm
 .exact .inr (hf k h)
def Jm (X:List Nat) (n:Nat) (h0 hp Ao:CH):Prop:=∀k,k ∉ X→gc Ao k=.no∨gc hp k=gc Ao k∧k<n∧((gc Ao k).und n∨gc Ao k=gc h0 k)
theorem Jm.sub {n:Nat} {h0 hp Ao:CH} (h:Jm [] n h0 hp Ao):RB n h0 hp Ao:=fun k=>h k (by simp)
theorem Jm.cons {X:List Nat} {n:Nat} {h0 hp Ao:CH} {k:Nat} {c:Ap} (h:gc hp k=c) (hk:k<n) (hb:c.und n) (s:Jm (k::X) n h0 hp Ao):Jm X n h0 hp ((k,c)::Ao):=fun j hj=>by
 by_cases q:k=j
 .subst q
  exact .inr ⟨by rw [Av];exact h,hk,.inl (by rw [Av];exact hb)⟩
 .rw [Aq c Ao q]
  exact s j (by simp [hj,Ne.symm q])
theorem Jm.base {X:List Nat} {n m:Nat} {B h0 hp:CH} (hf:∀k,m≤k→gc B k=.no) (hm:m≤n) (h1:UpX X m B h0) (h2:UpX X m B hp):Jm X n h0 hp B:=fun k hk=>by
 rcases Nat.lt_or_ge k m with h | h
 .exact .inr ⟨h2 k h hk,Nat.lt_of_lt_of_le h hm,.inr (h1 k h hk).symm⟩
 .exact .inl (hf k h)
theorem D8 {ws hp:CH} (k:Nat):(k ∉ keys ws∧gc (ws++hp) k=gc hp k)∨∃c,(k,c)∈ws∧gc (ws++hp) k=c:=by
 induction ws with
 | nil=>exact .inl ⟨by simp [keys],rfl⟩
 | cons x ws ih =>
  obtain ⟨j,c⟩:=x
  by_cases e:j=k
  .subst e
   exact .inr ⟨c,by simp,by rw [zlh,Av]⟩
  .rw [zlh,Aq _ _ e]
   rcases ih with ⟨h1,h2⟩ | ⟨c',h1,h2⟩
   .exact .inl ⟨by simp [keys] at h1 ⊢;exact ⟨fun q=>e q.symm,h1⟩,h2⟩
   .exact .inr ⟨c',by simp [h1],h2⟩
def wsLt (n:Nat):CH→Prop
 | []=>True
 | (k,c)::r=>k<n∧c.lt1 n∧wsLt n r
theorem Hd {n:Nat}:∀{ws:CH},wsLt n ws→∀x∈ws,x.1<n∧x.2.lt1 n
 | [],_,x,h=>by cases h
 | (k,c)::r,hw,x,h=>by
  rcases List.mem_cons.1 h with rfl | h
  .exact ⟨hw.1,hw.2.1⟩
  .exact Hd hw.2.2 x h
theorem CP {P : Program} {f : FuncId} {fn : Func} {k : CC} {rs : List RS} (hf : P.funcs[f]? = some fn) (Fn : (fn.name == "runtime.NumGoroutine") = false)
  (hc:fn.body.bind (BL P fn.ntmps)=some k.erase) (GG:MW P fn.ntmps fn.results.toList=some rs) {hp ws:CH} {n:Nat} {args:List AV} {r:AV} (Bb:Nat.ble args.length fn.ntmps=true)
  (hX:(∀k,n≤k→gc hp k=.no)→wsLt n ws) (hv:(∀k,n≤k→gc hp k=.no)→vc P k ⟨Cu 0 args,hp,n⟩ (Ji rs (JU (ws++hp) n [] r))):AQ P f hp n args (ws++hp) n r:=by
 have Io := (by obtain ⟨c, hb, Oo⟩ := bd hc; exact ⟨fn, hf, Fn, by rw [hb]; rfl⟩ : ∃ fn, P.funcs[f]? = some fn ∧ (fn.name == "runtime.NumGoroutine") = false ∧ fn.body.isNone = false)
 refine ⟨Io,fun h ρ w vs hs ha=>?_⟩
 have hw:=Hd (hX hs.free)
 refine (AI.out (outs:=[]) (fun k hk=>?_) (fun k hk=>?_) (Ib hf Fn hc GG Bb (hv hs.free))).2 h ρ w vs hs ha
 .rcases D8 (ws:=ws) (hp:=hp) k with ⟨_,e⟩ | ⟨c,hm,e⟩
  .exact .inl e
  .exact .inr (by rw [e];exact (hw _ hm).2)
 .rcases D8 (ws:=ws) (hp:=hp) k with ⟨_,e⟩ | ⟨c,hm,e⟩
  .rw [e];exact hs.free k hk
  .have:=(hw _ hm).1
   omega
theorem CA {ρ:RO} {hp Ao:CH} (e:∀j,gc Ao j=gc hp j) {b:Nat} (h:A9 ρ Ao b):A9 ρ hp b:=by
 obtain ⟨j,g,c,q,r⟩:=h
 exact ⟨j,g,c,by rw [←e];exact q,r⟩
theorem SatH.congrS {h:HP} {ρ:RO} {hp Ao:CH} {n:Nat} {w:World} (s:SatH h ρ hp n w) (e:∀j,gc Ao j=gc hp j):SatH h ρ Ao n w :=
 ⟨s.hh,fun j=>by rw [e j];exact s.ch j,fun j j' g g' b c c' q q'=>s.inj j j' g g' b c c' (by rw [←e];exact q) (by rw [←e];exact q'),fun b hb=>s.hid b (CA e hb),fun b hb=>s.lt b (CA e hb),s.fr,fun j g g' x q r=>s.gens j g g' x (by rw [←e];exact q) r,s.gl⟩
theorem Ya {k j:Nat} {X Y:Ap} {hp:CH}:gc ((k,X)::(k,Y)::hp) j=gc ((k,X)::hp) j:=by
 by_cases hj:k=j
 .subst hj;rw [Aj,Aj]
 .rw [Al hj,Al hj,Al hj]
theorem O1 {ws hp:CH} {k j:Nat} {X:Ap} (h:k≠j):gc (ws++(k,X)::hp) j=gc (ws++hp) j:=by
 induction ws with
 | nil=>rw [List.nil_append,List.nil_append,Al h]
 | cons x ws ih =>
  obtain ⟨i,c⟩:=x
  rw [zlh,zlh]
  by_cases hi:i=j
  .subst hi;rw [Aj,Aj]
  .rw [Al hi,Al hi,ih]
theorem AI.hp {P:Program} {f:FuncId} {hp Gd:CH} {n:Nat} {args:List AV} {R:CH→Nat→AV→Prop} (m:AI P f Gd n args R) (e:∀j,gc Gd j=gc hp j):AI P f hp n args R :=
 ⟨m.1,fun h ρ w vs hs ha=>(m.2 h ρ w vs (hs.congrS e) ha).mono fun _ w' ⟨v,he,h',ρ',Ao,n',r',q1,hh,hr,hm,BW,hk,hl⟩ =>
  ⟨v,he,h',ρ',Ao,n',r',q1,hh,hr,hm,BW,⟨hk.os,hk.tape,hk.output,hk.size,fun b hb hx=>hk.block b hb fun q=>hx (CA e q)⟩,fun b hb=>(hl b hb).imp (CA e) id⟩⟩
theorem AI.imp {P:Program} {f:FuncId} {hp:CH} {n:Nat} {args:List AV} {R R':CH→Nat→AV→Prop} (m:AI P f hp n args R) (k:∀Ao n' r,R Ao n' r→∃D6,(∀j,gc D6 j=gc Ao j)∧R' D6 n' r):AI P f hp n args R' :=
 m.post fun Ao n' r h ρ w v q hs hr=>let ⟨D6,e,q2⟩:=k Ao n' r q;⟨h,ρ,D6,n',r,q2,B8.refl _,BS.refl _,hs.congrS e,hr,fun b hb=>CA e hb⟩
theorem AI.rc {P:Program} {f:FuncId} {hp ws:CH} {n:Nat} {args:List AV} {r:AV} {k g m cap:Nat} {l:List (List AV)} (hk:gc hp k=.rc g m cap l) (hws:∀x∈ws,x.1≠k)
  (c:AQ P f ((k,.rw g m l)::hp) n args (ws++(k,.rw g m l)::hp) n r):AQ P f hp n args (ws++hp) n r:=by
 refine ⟨c.1,fun h ρ w vs hs ha=>?_⟩
 have sk:=hs.ch k
 rw [hk] at sk
 have sk2:=sk
 obtain ⟨ob,r1,r2,_⟩:=sk2
 have srw:(Ap.rw g m l).sat h ρ w k:=by have:=HG sk (zna _);rwa [zlj] at this
 have ho:∀j,(Ap.rw g m l).own j→(gc hp k).own j:=fun j e=>by rw [hk];exact e
 have JL:SatH h ρ ((k,.rw g m l)::hp) n w:=hs.recast ho (by rw [hk];rfl) srw
 refine (c.2 h ρ w vs JL ha).mono fun _ w' ⟨v,he,h',ρ',Ao,n',r',⟨e1,e2,e3⟩,hh,hr,hm,BW,Gx,hl⟩=>?_
 subst e1 e2 e3
 have hg:gc (ws++(k,Ap.rw g m l)::hp) k=.rw g m l:=by
  rcases D8 (ws:=ws) (hp:=(k,Ap.rw g m l)::hp) k with ⟨_,e⟩ | ⟨c,hm,e⟩
  .rw [e,Aj]
  .exact absurd rfl (hws _ hm)
 have sw:=hm.ch k
 rw [hg] at sw
 have ho2:∀j,(Ap.rc g m cap l).own j→(gc (ws++(k,Ap.rw g m l)::hp) k).own j:=fun j e=>by rw [hg];exact e
 have QP:=hm.recast ho2 (by rw [hg];rfl) (Hw sw (hr _ _ _ r1))
 have ee:∀j,gc (ws++hp) j=gc ((k,Ap.rc g m cap l)::(ws++(k,Ap.rw g m l)::hp)) j:=fun j=>by
  by_cases hj:k=j
  .subst hj
   rw [Aj]
   rcases D8 (ws:=ws) (hp:=hp) k with ⟨_,e⟩ | ⟨c,hm,e⟩
   .rw [e,hk]
   .exact absurd rfl (hws _ hm)
  .rw [Al hj,O1 hj]
 exact ⟨v,he,h',ρ',_,_,_,⟨rfl,rfl,rfl⟩,hh,hr,QP.congrS ee,BW,⟨Gx.os,Gx.tape,Gx.output,Gx.size,fun b hb hx=>Gx.block b hb fun q=>hx (Ct ho _ q)⟩,
  fun b hb=>(hl b (Ct ho2 _ (CA ee hb))).imp (Ct ho _) id⟩
theorem AI.open {P:Program} {f:FuncId} {hp ws:CH} {n:Nat} {args:List AV} {r:AV} {k g m:Nat} {l:List (List AV)} (hk:gc hp k=.rw g m l) (hws:∀x∈ws,x.1≠k)
  (Io : ∃ fn, P.funcs[f]? = some fn ∧ (fn.name == "runtime.NumGoroutine") = false ∧ fn.body.isNone = false)
  (c:∀cap,l.length≤cap→AQ P f ((k,.rc g m cap l)::hp) n args (ws++(k,.rc g m cap l)::hp) n r):AQ P f hp n args (ws++hp) n r:=by
 refine ⟨Io,fun h ρ w vs hs ha=>?_⟩
 have sk:=hs.ch k
 rw [hk] at sk
 have sk2:=sk
 obtain ⟨ob,cap,r1,r2,_⟩:=sk2
 have ho:∀j,(Ap.rc g m cap l).own j→(gc hp k).own j:=fun j e=>by rw [hk];exact e
 have JL:SatH h ρ ((k,.rc g m cap l)::hp) n w:=hs.recast ho (by rw [hk];rfl) (Hw sk r1)
 refine ((c cap r2).2 h ρ w vs JL ha).mono fun _ w' ⟨v,he,h',ρ',Ao,n',r',⟨e1,e2,e3⟩,hh,hr,hm,BW,Gx,hl⟩=>?_
 subst e1 e2 e3
 have hg:gc (ws++(k,Ap.rc g m cap l)::hp) k=.rc g m cap l:=by
  rcases D8 (ws:=ws) (hp:=(k,Ap.rc g m cap l)::hp) k with ⟨_,e⟩ | ⟨c,hm,e⟩
  .rw [e,Aj]
  .exact absurd rfl (hws _ hm)
 have sw:=hm.ch k
 rw [hg] at sw
 have ho2:∀j,(Ap.rw g m l).own j→(gc (ws++(k,Ap.rc g m cap l)::hp) k).own j:=fun j e=>by rw [hg];exact e
 have srw:(Ap.rw g m l).sat h' ρ' w' k:=by have:=HG sw (zna _);rwa [zlj] at this
 have QP:=hm.recast ho2 (by rw [hg];rfl) srw
 have ee:∀j,gc (ws++hp) j=gc ((k,Ap.rw g m l)::(ws++(k,Ap.rc g m cap l)::hp)) j:=fun j=>by
  by_cases hj:k=j
  .subst hj
   rw [Aj]
   rcases D8 (ws:=ws) (hp:=hp) k with ⟨_,e⟩ | ⟨c,hm,e⟩
   .rw [e,hk]
   .exact absurd rfl (hws _ hm)
  .rw [Al hj,O1 hj]
 exact ⟨v,he,h',ρ',_,_,_,⟨rfl,rfl,rfl⟩,hh,hr,QP.congrS ee,BW,⟨Gx.os,Gx.tape,Gx.output,Gx.size,fun b hb hx=>Gx.block b hb fun q=>hx (Ct ho _ q)⟩,
  fun b hb=>(hl b (Ct ho2 _ (CA ee hb))).imp (Ct ho _) id⟩
theorem Qh {env:EN} {hp:CH} {n k g m cap len:Nat} {l:List (List AV)} (hk:gc hp k=.rc g m cap l) (hle:len≤l.length):Ej ⟨env,hp,n⟩ ⟨env,(k,.rc g m cap (l.take len))::hp,n⟩:=by
 rintro C a w ⟨h,ρ,s⟩
 have sk:=s.mem.ch k
 rw [show gc (St.hp ⟨env,hp,n⟩) k=.rc g m cap l from hk] at sk
 obtain ⟨ob,r1,r2,r2',r3,r4,r5⟩:=sk
 exact ⟨h,ρ,s.recastC (k:=k) (.rc g m cap (l.take len)) (fun j e=>by rw [hk];exact e) (by rw [hk];rfl) ⟨ob,r1,by rw [List.length_take];omega,r2',fun j e he=>r3 j e (Bm he).1,r4,fun b hb=>by
  obtain ⟨vs,e,z1,z2,z3⟩:=r5 b hb
  exact ⟨vs,e,z1,z2,fun j x q α g1 g2=>z3 j x q α (Bm g1).1 g2⟩⟩⟩
theorem AI.e0 {P:Program} {f:FuncId} {hp ws:CH} {n:Nat} {args args':List AV} {i m:Nat} {r:AV} (hi:args[i]?=some .e0) (SC:args'=args.set i (.rw n 0 0)) (hws:∀x∈ws,x.1<n)
  (c:AQ P f ((n,.rc 0 m 0 [])::hp) (n+1) args' (ws++(n,.rc 0 m 0 [])::hp) (n+1) r):AQ P f hp n args (ws++(n,.rc 0 m 0 [])::hp) (n+1) r:=by
 subst SC
 refine ⟨c.1,fun h ρ w vs hs ha=>?_⟩
 have Ip:∀g,ρ n g=none:=fun g=>hs.fr n g (zna _)
 have hle:BS ρ (Bs ρ n 0 (none,0)):=BD _ (Ip 0)
 have JL:SatH h (Bs ρ n 0 (none,0)) ((n,.rc 0 m 0 [])::hp) (n+1) w:=by
  refine hs.put n _ hle (fun k' g' hk=>AL _ _ hk) (fun b _ _=>rfl) (zna _) ?_ ?_ ?_ ?_
  .exact ⟨none,Ay _ _ _ _,by simp,by unfold maxLen;omega,(fun j e h=>by simp at h),(fun _=>rfl),(fun b hb=>by cases hb)⟩
  .intro g b c hg hr
   cases hg
   rw [Ay] at hr
   cases hr
  .intro k' g' hk
   rw [AL _ _ (by omega)]
   exact hs.fr k' g' (by omega)
  .intro g2 g' y e1 hr
   cases e1
   by_cases hgg:g'=0
   .omega
   .unfold Bs at hr
    rw [if_neg (by omega),Ip g'] at hr
    cases hr
 have hl0:∀b,A9 (Bs ρ n 0 (none,0)) ((n,.rc 0 m 0 [])::hp) b→A9 ρ hp b:=fun b ⟨j,g,c,q,x⟩=>by
  by_cases hj:n=j
  .subst hj
   rw [Aj] at q
   cases q
   rw [Ay] at x
   cases x
  .rw [Al hj] at q
   rw [AL _ _ (fun e=>hj e.symm)] at x
   exact ⟨j,g,c,q,x⟩
 have ra:Br h (Bs ρ n 0 (none,0)) (args.set i (.rw n 0 0)) vs:=by
  refine ⟨by rw [List.length_set];exact ha.1,fun j α v e1 e2=>?_⟩
  by_cases hj:i=j
  .subst hj
   have BH:i<args.length:=(zlb.1 hi).1
   rw [List.getElem?_set_self BH] at e1
   cases e1
   have:=ha.2 i _ v hi e2
   cases this with
   | pu _ _ p=>cases p with | e0 a=>exact .rw _ _ _ _ a none (Ay _ _ _ _) (zna _) (fun b hb=>by cases hb)
  .rw [List.getElem?_set_ne hj] at e1
   exact (ha.2 j α v e1 e2).mono (B8.refl _) hle
 refine (c.2 h _ w vs JL ra).mono fun _ w' ⟨v,he,h',ρ',Ao,n',r',q,hh,hr,hm,BW,Gx,hl⟩=>?_
 exact ⟨v,he,h',ρ',Ao,n',r',q,hh,hle.trans hr,hm,BW,⟨Gx.os,Gx.tape,Gx.output,Gx.size,fun b hb hx=>Gx.block b hb fun q=>hx (hl0 b q)⟩,fun b hb=>(hl b hb).imp (hl0 b) id⟩
theorem Ah.mq {P:Program} {f:FuncId} {hp:CH} {n:Nat} {args:List AV} {r:AV} {k:Nat} {F:ByteArray→AV} (hk:gc hp k=.mq F) (Gd:r.purR=true)
  (Io : ∃ fn, P.funcs[f]? = some fn ∧ (fn.name == "runtime.NumGoroutine") = false ∧ fn.body.isNone = false)
  (c:∀l,(∀p∈l,p.2=F p.1)→AI P f ((k,.mp l)::hp) n args fun Ao n' r'=>r'=r∧∃l',(∀p∈l',p.2=F p.1)∧(∀j,j≠k→gc Ao j=gc hp j∨n≤j)∧gc Ao k=.mp l'):Ah P f hp n args r:=by
 refine ⟨Io,fun h ρ w vs hs ha=>?_⟩
 have sk:=hs.ch k
 rw [hk] at sk
 obtain ⟨b,c0,es,cl,r1,r2,r3,l,r4,r5,r6⟩:=sk
 have ho:∀j,(Ap.mp l).own j→(gc hp k).own j:=fun j e=>by rw [hk];exact e
 have JL:SatH h ρ ((k,.mp l)::hp) n w:=hs.recast ho (by rw [hk];rfl) ⟨b,c0,es,cl,r1,r2,r4,r3,r6⟩
 have Bt:k<n:=by
  rcases Nat.lt_or_ge k n with q | q
  .exact q
  .rw [hs.fr k 0 q] at r1;cases r1
 refine ((c l r5).2 h ρ w vs JL ha).mono fun _ w' ⟨v,he,h',ρ',Ao,n',r',⟨e1,l',q1,q2,q3⟩,hh,hr,hm,BW,Gx,hl⟩=>?_
 subst e1
 have Gw:∀b,A9 ρ hp b→A9 ρ' Ao b:=fun b ⟨j,g,c,q,x⟩=>by
  refine ⟨j,g,c,?_,hr _ _ _ x⟩
  by_cases hj:j=k
  .subst hj
   rw [q3]
   rw [hk] at q
   exact q
  .rcases q2 j hj with e | e
   .rw [e];exact q
   .rw [hs.fr j g e] at x;cases x
 refine ⟨v,he,h',hh,⟨hm.hh,fun j=>?_,hs.inj,fun b hb=>hm.hid b (Gw b hb),fun b hb=>hm.lt b (Gw b hb),hs.fr,hs.gens,hm.gl⟩,AV.purR_rel BW Gd,⟨Gx.os,Gx.tape,Gx.output,Gx.size,fun b hb hx=>Gx.block b hb fun q=>hx (Ct ho _ q)⟩⟩
 by_cases hj:j=k
 .subst hj
  rw [hk]
  have s:=hm.ch j
  rw [q3] at s
  obtain ⟨b',c',es',cl',x1,x2,x3,x4,x5⟩:=s
  rw [hr _ _ _ r1] at x1
  cases x1
  exact ⟨b,c0,es',cl',r1,x2,x4,l',x3,q1,x5⟩
 .have s0:=hs.ch j
  rcases q2 j hj with e | e
  .have s:=hm.ch j
   rw [e] at s
   exact Ap.back hr s0 s
  .rw [hs.free j e];trivial
theorem X2 {env:EN} {hp:CH} {n k:Nat} (F:ByteArray→AV) (hk:gc hp k=.mp []):Ej ⟨env,hp,n⟩ ⟨env,(k,.mq F)::hp,n⟩:=by
 rintro C a w ⟨h,ρ,s⟩
 have sk:=s.mem.ch k
 rw [show gc (St.hp ⟨env,hp,n⟩) k=.mp [] from hk] at sk
 obtain ⟨b,c,es,cl,r1,r2,r3,r4,r5⟩:=sk
 exact ⟨h,ρ,s.recastC (k:=k) (.mq F) (fun j e=>by rw [hk];exact e) (by rw [hk];rfl) ⟨b,c,es,cl,r1,r2,r4,[],r3,fun p hp=>by simp at hp,r5⟩⟩
end Go.Eng
