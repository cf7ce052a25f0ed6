/- Proof. Conditions: none. -/
import Derived.Test.YtinbodeocoeneaaGreatDoorRows
import Derived.ChangeStays
import Derived.ChangeArms
import Derived.ChangeShapes
import Derived.ProofKit
import Derived.OpenShut
import Derived.Test.YtinbodeocoeneaaGreatDoorIc19
open List renaming getElem?_eq_some_iff→zlb,getElem?_eq_getElem→zlg
open Nat renaming le_refl→zna
namespace Go.Eng
open Go.RowKit
set_option linter.all false
inductive Shp (P:Program):TypeId→List AV→Prop
 | b {t:TypeId} (x:Bool):P.underlying t=some .bool→Shp P t [.b x]
 | i {t:TypeId} (k:IntKind) (n:Int):P.underlying t=some (.int k)→(Lit.int k n).wf=true→Shp P t [.i k n]
 | s {t:TypeId} (s:ByteArray):P.underlying t=some .string→s.size≤maxLen→Shp P t [.s s]
 | ds {t e:TypeId} (l:List (List AV)):P.underlying t=some (.slice e)→l.length≤maxLen→(∀x∈l,Shp P e x)→Shp P t [.ds l]
 | st {t:TypeId} {fs:Array Field} (parts:List (List AV)):P.underlying t=some (.struct fs)→parts.length=fs.toList.length→(∀(i:Nat) f p,fs.toList[i]?=some f→parts[i]?=some p→Shp P f.type p)→Shp P t parts.flatten
 | un {t:TypeId} (l:List AV):(∀d,P.underlying t=some d→match d with | .bool | .int _ | .string | .slice _ | .struct _=>False | _=>True)→Shp P t l
mutual
def avw:AV→Nat
 | .b _=>1
 | .i _ _=>1
 | .s s=>s.size+1
 | .ds l=>avLL l+1
 | .ag l=>avL l
 | _=>0
def avL:List AV→Nat
 | []=>0
 | a::r=>avw a+avL r
def avLL:List (List AV)→Nat
 | []=>0
 | a::r=>avL a+avLL r
end
theorem avL_app (a b:List AV):avL (a++b)=avL a+avL b:=by
 induction a with
 | nil=>simp [avL]
 | cons x a ih=>rw [List.cons_append,avL,avL,ih];omega
theorem avL_un {α:Type} (l:List α):avL (l.map fun _=>AV.un)=0:=by
 induction l with
 | nil=>rfl
 | cons x a ih=>rw [List.map_cons,avL,ih];rfl
def hOf (w:World):HP:=fun b=>w.heap[b]?
def PL (w:World) (L:List AV) (cs:List Value):Prop:=L.length=cs.length∧∀(j:Nat) α v,L[j]?=some α→cs[j]?=some v→PRel (hOf w) α v
theorem PL.one {w:World} {α:AV} {v:Value} (r:PRel (hOf w) α v):PL w [α] [v]:=⟨rfl,fun j β u h1 h2=>by
 cases j with
 | zero=>simp at h1 h2;subst h1;subst h2;exact r
 | succ j=>simp at h1⟩
theorem PL.app {w:World} {L M:List AV} {cs ds:List Value} (a:PL w L cs) (b:PL w M ds):PL w (L++M) (cs++ds):=⟨by simp [a.1,b.1],fun j α v h1 h2=>by
 rw [List.getElem?_append] at h1 h2
 rw [←a.1] at h2
 split at h1
 .rename_i hj;rw [if_pos hj] at h2;exact a.2 j α v h1 h2
 .rename_i hj;rw [if_neg hj] at h2;exact b.2 _ α v h1 h2⟩
section
variable {H:Type} {enc:TypeId × Value→H} {P:Program} {w:World} {held:Bool} {T:TypeId→Prop}
theorem list_of {α:Type} (p:Nat→α→Prop):∀(len:Nat),(∀i,i<len→∃x,p i x)→∃l:List α,l.length=len∧∀(i:Nat) x,l[i]?=some x→p i x
 | 0,_=>⟨[],rfl,fun i x h=>by simp at h⟩
 | len+1,h=>by
  obtain ⟨l,h1,h2⟩:=list_of p len fun i hi=>h i (by omega)
  obtain ⟨x,hx⟩:=h len (by omega)
  refine ⟨l++[x],by simp [h1],fun i y hy=>?_⟩
  rw [List.getElem?_append] at hy
  split at hy
  .exact h2 i y hy
  .rename_i hi
   have:i - l.length=0:=by
    have:=(zlb.1 hy).1
    simp at this
    omega
   rw [this] at hy
   simp at hy
   rw [←hy,show i=len by omega]
   exact hx
theorem add_plain (b o k:Nat):(⟨b,o,none⟩:Addr).add k=⟨b,o+k,none⟩:=by
 unfold Addr.add
 split
 .rename_i h;subst h;rfl
 .rfl
theorem cell_spot {a:Addr} {u:Value} (h:w.cell? a=some u):a.spot=none:=by
 unfold World.cell? at h
 split at h
 .split at h
  .cases h
  .rename_i hs;simpa using hs
 .cases h
theorem cellAt_of {b o:Nat} {u:Value} (h:w.cell? ⟨b,o,none⟩=some u):cellAt (hOf w) b o=some u:=by
 unfold World.cell? at h
 unfold cellAt hOf
 simp only [Option.isSome_none] at h
 split at h
 .rename_i c _ _ hc;rw [hc];simpa using h
 .cases h
theorem fields_of (cs:List Value):∀(F:List Field) (o:Nat) (Q:Nat→List AV→Prop),(∀(j:Nat) f,F[j]?=some f→f.offset=o+((F.take j).map fun f=>P.cellsOf f.type).sum) →
  (∀(i:Nat) f,F[i]?=some f→∃L,Shp P f.type L∧PL w L ((cs.drop f.offset).take (P.cellsOf f.type))∧Q i L) →
  ∃parts:List (List AV),parts.length=F.length∧(∀(i:Nat) f p,F[i]?=some f→parts[i]?=some p→Shp P f.type p∧Q i p)∧PL w parts.flatten ((cs.drop o).take ((F.map fun f=>P.cellsOf f.type).sum))
 | [],o,_,_,_=>⟨[],rfl,fun i f p h=>by simp at h,by simpa using ⟨rfl,fun j α v h=>by simp at h⟩⟩
 | f::F,o,Q,ho,hL=>by
  obtain ⟨L,h1,h2,h3⟩:=hL 0 f rfl
  have e0:f.offset=o:=by simpa using ho 0 f rfl
  obtain ⟨parts,a1,a2,a3⟩:=fields_of cs F (o+P.cellsOf f.type) (fun i=>Q (i+1)) (fun j g hg=>by
   have:=ho (j+1) g (by simpa using hg)
   simp only [List.take_succ_cons,List.map_cons,List.sum_cons] at this
   omega) (fun i g hg=>hL (i+1) g (by simpa using hg))
  refine ⟨L::parts,by simp [a1],fun i g p hg hp=>?_,?_⟩
  .cases i with
   | zero=>simp at hg hp;subst hg;subst hp;exact ⟨h1,h3⟩
   | succ i=>exact a2 i g p (by simpa using hg) (by simpa using hp)
  .rw [e0] at h2
   have:=PL.app h2 a3
   simp only [List.flatten_cons,List.map_cons,List.sum_cons]
   rw [List.take_add,List.drop_drop]
   exact this
open Go.Proofs.YtinbodeocoeneaaGreatDoor.Rows in
theorem bulk_pt {H:Type}:∀(l:List (List AV)) (ds:List (DataW H)),l.length=ds.length→(∀(i:Nat) p d,l[i]?=some p→ds[i]?=some d→avL p≤uptoBulk d)→avLL l≤uptoBulkAll ds∧avL l.flatten≤uptoBulkAll ds
 | [],[],_,_=>⟨Nat.zero_le _,Nat.zero_le _⟩
 | [],d::ds,h,_=>by simp at h
 | p::l,[],h,_=>by simp at h
 | p::l,d::ds,h,hp=>by
  obtain ⟨h1,h2⟩:=bulk_pt l ds (by simpa using h) (fun i q e hq he=>hp (i+1) q e (by simpa using hq) (by simpa using he))
  have h3:=hp 0 p d rfl rfl
  rw [avLL,uptoBulkAll,List.flatten_cons,avL_app]
  omega
theorem shape_of (K : Kids P T) (hsz : ∀ {t e : TypeId}, T t → P.underlying t = some (.slice e) → 0 < P.cellsOf e) : ∀ (n : Nat) (t : TypeId) (cs : List Value) (x : DataW H × List MemPlace), T t → DataW.trod enc P w 0 (fun _ => true) held n t cs = some x → ∃ L, Shp P t L ∧ PL w L cs ∧ avL L ≤ Go.Proofs.YtinbodeocoeneaaGreatDoor.Rows.uptoBulk x.1 := by
  intro n
  induction n with
  | zero => intro t cs x _ h; simp [DataW.trod] at h
  | succ n ih =>
    intro t cs x ht h
    cases hd:P.underlying t with
    | none => simp [DataW.trod, hd] at h
    | some d =>
      by_cases hb:d=.bool
      . subst hb
        obtain ⟨b,rfl,rfl⟩:=DataW.trod_bool hd h
        exact ⟨_,.b b hd,PL.one (.b b),zna _⟩
      by_cases hi:∃k,d=.int k
      . obtain ⟨k, rfl⟩ := hi
        obtain ⟨m,rfl,rfl,hw⟩:=DataW.trod_int hd h
        exact ⟨_,.i k m hd hw,PL.one (.i k m),zna _⟩
      by_cases hs:d=.string
      . subst hs
        obtain ⟨s,rfl,rfl,hm⟩:=DataW.trod_string hd h
        refine ⟨_,.s s hd hm,PL.one (.s s),?_⟩
        show s.size+1+0≤s.data.toList.length+1
        simp
      by_cases hsl:∃e,d=.slice e
      . obtain ⟨e, rfl⟩ := hsl
        rcases DataW.trod_slice hd h with ⟨rfl,rfl⟩ | ⟨a,len,cap,elems,rest,m,hm,rfl,rfl,_,hlc,hcm,hel,hin,_⟩
        . exact ⟨_, .ds [] hd (by simp) (fun x hx => (by cases hx)), PL.one (.ds [] 0 none 0 (fun _ _ => undef) (Nat.le_refl _) (fun j e h => by simp at h) (fun j e q α h => by simp at h) (fun h => absurd rfl h)), Nat.le_refl _⟩
        . cases hm
          have hz:=hsz ht hd
          have hte:=K.slice ht hd
          generalize hn:P.cellsOf e=z at *
          have hel':=hel
          have hel : ∀ i, i < len → ∃ us x, w.cells? 0 (a.add (i * z)) z = some us ∧ DataW.trod enc P w 0 (fun _ => true) held n e us = some x ∧ elems[i]? = some x := by
            intro i hi
            have h1:=hin i hi
            rw [List.getElem?_eq_getElem (by omega)] at h1
            cases hc:w.cells? 0 (a.add (i*z)) z with
            | none => rw [hc] at h1; cases h1
            | some us => rw [hc] at h1; exact ⟨us, _, rfl, h1, List.getElem?_eq_getElem (by omega)⟩
          by_cases hl0:len=0
          . subst hl0
            exact ⟨_, .ds [] hd (by simp) (fun x hx => (by cases hx)), PL.one (.ds [] 0 (some a) cap (fun _ _ => undef) (Nat.zero_le _) (fun j e h => by simp at h) (fun j e q α h => by simp at h) (fun h => absurd rfl h)), by show 0 + 1 + 0 ≤ _ + _ + 1; omega⟩
          have hsp:a.spot=none:=by
            obtain ⟨us, x, h1, _, _⟩ := hel 0 (by omega)
            obtain ⟨_,h2,h3⟩:=World.cells?_some h1
            have h4:=h3 0 hz
            rw [List.getElem?_eq_getElem (by omega)] at h4
            have:=cell_spot h4
            simpa [Addr.add] using this
          obtain ⟨b,o,sp⟩:=a
          simp only at hsp
          subst hsp
          obtain ⟨l, hl1, hl2⟩ := list_of (fun i L => Shp P e L ∧ L.length = z ∧ (∀ (q : Nat) α, L[q]? = some α → ∃ u, w.cell? ⟨b, o + z * i + q, none⟩ = some u ∧ PRel (hOf w) α u) ∧ ∀ d, elems[i]? = some d → avL L ≤ Go.Proofs.YtinbodeocoeneaaGreatDoor.Rows.uptoBulk d.1) len (by
            intro i hi
            obtain ⟨us,x,h1,h2,hx2⟩:=hel i hi
            obtain ⟨_,h3,h4⟩:=World.cells?_some h1
            obtain ⟨L,s1,s2,s3⟩:=ih e us x hte h2
            refine ⟨L, s1, s2.1.trans h3, fun q α hq => ?_, fun d hd => by rw [hx2] at hd; cases hd; exact s3⟩
            have hqn : q < z := by have := (List.getElem?_eq_some_iff.1 hq).1; rw [s2.1, h3] at this; exact this
            have h5:=h4 q hqn
            rw [add_plain,add_plain] at h5
            have hu : us[q]? = some us[q] := List.getElem?_eq_getElem (by omega)
            exact ⟨us[q], by rw [← hu, ← h5, Nat.mul_comm z i], s2.2 q α _ hq hu⟩)
          refine ⟨_, .ds l hd (by omega) (fun x hx => ?_), ?_, ?_⟩
          . obtain ⟨i, hi, rfl⟩ := List.mem_iff_getElem.1 hx
            exact (hl2 i _ (zlg hi)).1
          . rw [← hl1]
            refine PL.one (.ds l z (some ⟨b, o, none⟩) cap (fun j q => (w.cell? ⟨b, o + z * j + q, none⟩).getD undef) (by omega) (fun j x hx => (hl2 j x hx).2.1) (fun j x q α hx hq => ?_) (fun _ => ⟨b, o, rfl, fun j x q α hx hq => ?_⟩))
            . obtain ⟨u, hu, r⟩ := (hl2 j x hx).2.2.1 q α hq
              rw [hu]
              exact r
            . obtain ⟨u, hu, r⟩ := (hl2 j x hx).2.2.1 q α hq
              rw [hu]
              exact cellAt_of hu
          . have hb := (bulk_pt l (elems.map (·.1)) (by simp; omega) (fun i p d hp hd => by
              simp only [List.getElem?_map,Option.map_eq_some_iff] at hd
              obtain ⟨x,hx,rfl⟩:=hd
              exact (hl2 i p hp).2.2.2 x hx)).1
            show avLL l+1+0≤_+_+1
            omega
      by_cases hst:∃fs,d=.struct fs
      . obtain ⟨fs, rfl⟩ := hst
        obtain ⟨xs,m,hm,rfl,hlen',hxs,hf⟩:=DataW.trod_struct hd h
        cases hm
        obtain ⟨k1,k2,k3⟩:=K.struct ht hd
        obtain ⟨parts, p1, p2, p3⟩ := fields_of (w := w) cs fs.toList 0 (fun i L => ∀ d, xs[i]? = some d → avL L ≤ Go.Proofs.YtinbodeocoeneaaGreatDoor.Rows.uptoBulk d.1) (fun j f hf' => by rw [Nat.zero_add]; exact k3 j f hf') (fun i f hf' => by
          have hi : i < fs.size := by have := (List.getElem?_eq_some_iff.1 hf').1; simpa using this
          have hfe : fs[i]? = some f := by simpa using hf'
          have h1:=hf i f hfe
          rw [List.getElem?_eq_getElem (by omega)] at h1
          obtain ⟨L,a,b,c⟩:=ih f.type _ _ (k1 _ (List.mem_of_getElem? hf')) h1
          exact ⟨L, a, b, fun d hd => by rw [List.getElem?_eq_getElem (by omega)] at hd; cases hd; exact c⟩)
        refine ⟨_, .st parts hd p1 (fun i f p a b => (p2 i f p a b).1), ?_, ?_⟩
        rotate_left
        . have hsz2 : fs.toList.length = fs.size := by simp
          have hb := (bulk_pt parts (xs.map (·.1)) (by simp; omega) (fun i p d hp hd => by
            simp only [List.getElem?_map,Option.map_eq_some_iff] at hd
            obtain ⟨x,hx,rfl⟩:=hd
            have hi : i < fs.toList.length := by have := (List.getElem?_eq_some_iff.1 hp).1; omega
            exact (p2 i _ p (zlg hi) hp).2 x hx)).2
          show avL parts.flatten≤_+1
          omega
        have e : ((cs.drop 0).take ((fs.toList.map fun f => P.cellsOf f.type).sum)) = cs := by rw [← k2, List.drop_zero, ← hlen', List.take_length]
        rw [e] at p3
        exact p3
      . refine ⟨cs.map fun _ => .un, .un _ fun d' hd' => ?_, ⟨by simp, fun j α v h1 h2 => ?_⟩, by rw [avL_un]; exact Nat.zero_le _⟩
        . rw [hd] at hd'
          cases hd'
          cases d<;>simp_all
        . simp at h1
          obtain ⟨_,_,rfl⟩:=h1
          exact .un _
def slB (P:Program):Bool:=(List.range P.types.size).all fun t=>match P.underlying t with
 | some (.slice e)=>decide (0<P.cellsOf e)
 | _=>true
theorem slB_of (h:slB P=true) {t e:TypeId} (ht:t<P.types.size) (hd:P.underlying t=some (.slice e)):0<P.cellsOf e:=by
 have:=List.all_eq_true.1 h t (by simpa using ht)
 simpa [hd] using this
def AS (P:Program) (t:TypeId) (α:AV):Prop:=(∃fs L,P.underlying t=some (.struct fs)∧α=.ag L∧Shp P t L)∨((∀fs,P.underlying t≠some (.struct fs))∧Shp P t [α])
def ASs (P:Program):List TypeId→List AV→Prop
 | [],[]=>True
 | t::ts,α::αs=>AS P t α∧ASs P ts αs
 | _,_=>False
theorem arg_of (K:Kids P T) (hsz:∀{t e:TypeId},T t→P.underlying t=some (.slice e)→0<P.cellsOf e) {t:TypeId} {v:Value} {d:DataW H} {p:List MemPlace} (ht:T t) {base:Nat} (hv:Value.okWide P w .any base t v) (h:DataW.Trod enc P w 0 (fun _=>true) held t v d p):∃α,AS P t α∧PRel (hOf w) α v∧avw α≤Go.Proofs.YtinbodeocoeneaaGreatDoor.Rows.uptoBulk d:=by
 obtain ⟨n,hn⟩:=h
 obtain ⟨L,s1,s2,s3⟩:=shape_of K hsz n t _ _ ht hn
 by_cases hst:∃fs,P.underlying t=some (.struct fs)
 .obtain ⟨fs,hfs⟩:=hst
  obtain ⟨cs,rfl,_⟩:=WideShapes.okWide_struct hfs hv
  refine ⟨.ag L,.inl ⟨fs,L,hfs,rfl,s1⟩,?_⟩
  have:PRel (hOf w) (.ag L) (.agg cs.toList.toArray):=.ag L cs.toList (by simpa [Value.cells] using s2.1) (fun j α v h1 h2=>s2.2 j α v h1 (by simpa [Value.cells] using h2))
  exact ⟨by simpa using this,s3⟩
 .have hst':∀fs,P.underlying t≠some (.struct fs):=fun fs e=>hst ⟨fs,e⟩
  have hone:v.cells=#[v]→∃α,AS P t α∧PRel (hOf w) α v∧avw α≤Go.Proofs.YtinbodeocoeneaaGreatDoor.Rows.uptoBulk d:=by
   intro hc
   rw [hc] at s2
   obtain ⟨α,rfl⟩:∃α,L=[α]:=by
    have:=s2.1
    cases L with
    | nil=>simp at this
    | cons a r=>cases r with
     | nil=>exact ⟨a,rfl⟩
     | cons=>simp at this
   exact ⟨α,.inr ⟨hst',s1⟩,s2.2 0 _ _ rfl rfl,by rw [avL,avL] at s3;exact s3⟩
  have hun:(∀d,P.underlying t=some d→match d with | .bool | .int _ | .string | .slice _ | .struct _=>False | _=>True)→∃α,AS P t α∧PRel (hOf w) α v∧avw α≤Go.Proofs.YtinbodeocoeneaaGreatDoor.Rows.uptoBulk d:=fun h=>⟨.un,.inr ⟨hst',.un _ h⟩,.un _,Nat.zero_le _⟩
  cases hd:P.underlying t with
  | none=>exact hun (fun d h=>by rw [hd] at h;cases h)
  | some d =>
   cases d with
   | bool=>obtain ⟨b,rfl⟩:=WideShapes.okWide_bool hd hv;exact hone rfl
   | int k=>obtain ⟨b,rfl⟩:=WideShapes.okWide_int hd hv;exact hone rfl
   | string=>obtain ⟨b,rfl⟩:=WideShapes.okWide_string hd hv;exact hone rfl
   | slice e=>obtain ⟨a,b,c,rfl⟩:=WideShapes.okWide_slice hd hv;exact hone rfl
   | struct fs=>exact absurd hd (hst' fs)
   | _=>exact hun (fun d h=>by rw [hd] at h;cases h;trivial)
theorem law_core (K:Kids P T) (hsz:∀{t e:TypeId},T t→P.underlying t=some (.slice e)→0<P.cellsOf e) {f:FuncId} {fn:Func} {s:ChangeSpec} {tb:TypeId} (hT:∀t∈fn.params.toList,T t) (hvs:s.vars=[])
  (hs:∀(ds:List (DataW H)),ds.length=fn.params.toList.length→(s.fn H ds).results=[.lit (.bool true)]∧(s.fn H ds).args=ds∧(s.fn H ds).vars=[]) (hres:fn.resultTypes=#[tb]) (htb:P.underlying tb=some .bool)
  {base:Nat} {args:Array Value} {ds gs:List (DataW H)} {before:List MemPlace} (m:∀αs,ASs P fn.params.toList αs→avL αs≤Go.Proofs.YtinbodeocoeneaaGreatDoor.Rows.uptoBulkAll ds→MeetsF P f [] 0 αs (.b true))
  (hval:∀(j:Nat) t v,fn.params[j]?=some t→args[j]?=some v→Value.okWide P w .any base t v) (hW:DataW.Whole enc P fn.params.toList s.vars false w args.toList ds gs before)
  (hgl:∀b vs,(b,vs)∈glTab→∃t fr,w.heap[b]?=some (.cells vs t fr):=by intro b vs h;cases h) :
  Calls P f args w fun e W'=>∃v,e=.returned v∧s.post enc P fn false true false false w args v W':=by
 have hW':=hW
 obtain ⟨p,q,hA,hV,rfl,_,_⟩:=hW
 rw [hvs] at hV
 obtain ⟨rfl,rfl⟩:=ChangeShapes.trodVars_none hV
 have key:∀(ts:List TypeId) (vs:List Value) (ds:List (DataW H)) (p:List MemPlace),(∀t∈ts,T t)→(∀(j:Nat) t v,ts[j]?=some t→vs[j]?=some v→Value.okWide P w .any base t v)→DataW.TrodAll enc P w 0 (fun _=>true) true ts vs ds p →
   (∃αs,ASs P ts αs∧RelL (hOf w) (fun _ _=>none) αs vs∧avL αs≤Go.Proofs.YtinbodeocoeneaaGreatDoor.Rows.uptoBulkAll ds)∧ds.length=ts.length∧∀W' sp,Below w.heap.size w W'→(∀x∈p,sp x.block=true)→DataW.TrodAll enc P W' 0 sp true ts vs ds p:=by
  intro ts
  induction ts with
  | nil =>
   intro vs ds p _ _ h
   obtain ⟨rfl,rfl,rfl⟩:=ChangeShapes.trodAll_nil h
   exact ⟨⟨[],trivial,RelL.nil,zna _⟩,rfl,fun _ _ _ _=>rfl⟩
  | cons t ts ih =>
   intro vs ds p hT hv h
   obtain ⟨v,vs',d,ds',p1,p2,rfl,rfl,rfl,h1,h2⟩:=ChangeShapes.trodAll_cons h
   obtain ⟨⟨αs,a1,a2,a5⟩,a3,a4⟩:=ih vs' ds' p2 (fun t ht=>hT t (by simp [ht])) (fun j t v x y=>hv (j+1) t v (by simpa using x) (by simpa using y)) h2
   obtain ⟨α,b1,b2,b3⟩:=arg_of K hsz (hT t (by simp)) (hv 0 t v rfl rfl) h1
   refine ⟨⟨α::αs,⟨b1,a1⟩,RelL.cons (.pu _ _ b2) a2,by rw [avL,Go.Proofs.YtinbodeocoeneaaGreatDoor.Rows.uptoBulkAll];omega⟩,by simp [a3],fun W' sp hb hp=>?_⟩
   obtain ⟨n,hn⟩:=h1
   have hlt:=DataW.trod_lt n t _ _ hn
   exact ⟨p1,p2,⟨n,DataW.trod_stays K hsz (fun h=>by cases h) (hT t (by simp)) hn (fun x hx=>hb.same (hlt x hx)) (fun x hx=>hp x (by simp [hx]))⟩,a4 W' sp hb (fun x hx=>hp x (by simp [hx])),rfl⟩
 have hvl:∀(j:Nat) t v,fn.params.toList[j]?=some t→args.toList[j]?=some v→Value.okWide P w .any base t v:=fun j t v x y=>hval j t v (by simpa using x) (by simpa using y)
 obtain ⟨⟨αs,h1,h2,h5⟩,h3,h4⟩:=key _ _ _ _ hT hvl hA
 have hsat:SatH (hOf w) (fun _ _=>none) [] 0 w:=⟨fun b o e=>e,fun k=>trivial,fun k k' g g' b c c' e=>(by cases e),fun b ⟨k,g,c,e,_⟩=>(by cases e),fun b ⟨k,g,c,e,_⟩=>(by cases e),fun _ _ _=>rfl,fun k g g' x e _=>(by cases e),hgl⟩
 have hc:=(m αs h1 h5).2 _ _ w args.toList hsat h2
 have e:args.toList.toArray=args:=by simp
 rw [e] at hc
 refine hc.mono fun e W' ⟨v,he,h',_,_,hr,hk⟩=>?_
 cases hr
 have hb:Below w.heap.size w W':=(Keeps.below ⟨hk.os,hk.tape,hk.output,hk.size,fun b hb _=>hk.block b hb (fun ⟨k,g,c,e,_⟩=>by cases e)⟩)
 have hs1:=hs (ds++[]) (by simpa using h3)
 refine ⟨_,he,ds,[],p++[],[],p,[],hW',?_,?_,?_,World.keptBut_mono (fun _ h=>h.elim) (hb.frame (fun _=>False)),fun h=>(by cases h)⟩
 .rw [hres,hs1.1]
  exact ⟨[],[],RowKit.shut_bool htb true,rfl,rfl⟩
 .rw [hs1.2.1,List.append_nil]
  have hlt:=DataW.TrodAll.lt hA
  exact h4 W' _ hb (fun x hx=>by simpa using hlt x hx)
 .rw [hs1.2.2,hvs]
  rfl
end
/-! ### Readings by type -/
section
variable {P:Program} {t e:TypeId} {L:List AV} {α:AV}
theorem shp_bool (hd:P.underlying t=some .bool) (h:Shp P t L):∃x,L=[.b x]:=by
 cases h with
 | b x _=>exact ⟨x,rfl⟩
 | i _ _ hd'=>rw [hd] at hd';cases hd'
 | s _ hd'=>rw [hd] at hd';cases hd'
 | ds _ hd'=>rw [hd] at hd';cases hd'
 | st _ hd'=>rw [hd] at hd';cases hd'
 | un _ h=>exact (h _ hd).elim
theorem shp_int {k:IntKind} (hd:P.underlying t=some (.int k)) (h:Shp P t L):∃n,L=[.i k n]∧(Lit.int k n).wf=true:=by
 cases h with
 | b x hd'=>rw [hd] at hd';cases hd'
 | i _ n hd' hw=>rw [hd] at hd';cases hd';exact ⟨n,rfl,hw⟩
 | s _ hd'=>rw [hd] at hd';cases hd'
 | ds _ hd'=>rw [hd] at hd';cases hd'
 | st _ hd'=>rw [hd] at hd';cases hd'
 | un _ h=>exact (h _ hd).elim
theorem shp_string (hd:P.underlying t=some .string) (h:Shp P t L):∃s:ByteArray,L=[.s s]∧s.size≤maxLen:=by
 cases h with
 | b x hd'=>rw [hd] at hd';cases hd'
 | i _ n hd' hw=>rw [hd] at hd';cases hd'
 | s s hd' hs=>exact ⟨s,rfl,hs⟩
 | ds _ hd'=>rw [hd] at hd';cases hd'
 | st _ hd'=>rw [hd] at hd';cases hd'
 | un _ h=>exact (h _ hd).elim
theorem shp_slice (hd:P.underlying t=some (.slice e)) (h:Shp P t L):∃l:List (List AV),L=[.ds l]∧l.length≤maxLen∧∀x∈l,Shp P e x:=by
 cases h with
 | b x hd'=>rw [hd] at hd';cases hd'
 | i _ n hd' hw=>rw [hd] at hd';cases hd'
 | s _ hd'=>rw [hd] at hd';cases hd'
 | ds l hd' hl hx=>rw [hd] at hd';cases hd';exact ⟨l,rfl,hl,hx⟩
 | st _ hd'=>rw [hd] at hd';cases hd'
 | un _ h=>exact (h _ hd).elim
theorem shp_struct {fs:Array Field} (hd:P.underlying t=some (.struct fs)) (h:Shp P t L):∃parts:List (List AV),L=parts.flatten∧parts.length=fs.toList.length∧∀(i:Nat) f p,fs.toList[i]?=some f→parts[i]?=some p→Shp P f.type p:=by
 cases h with
 | b x hd'=>rw [hd] at hd';cases hd'
 | i _ n hd' hw=>rw [hd] at hd';cases hd'
 | s _ hd'=>rw [hd] at hd';cases hd'
 | ds _ hd'=>rw [hd] at hd';cases hd'
 | st parts hd' hl hx=>rw [hd] at hd';cases hd';exact ⟨parts,rfl,hl,hx⟩
 | un _ h=>exact (h _ hd).elim
theorem as_slice (hd:P.underlying t=some (.slice e)) (h:AS P t α):∃l:List (List AV),α=.ds l∧l.length≤maxLen∧∀x∈l,Shp P e x:=by
 rcases h with ⟨fs,L,hs,_⟩ | ⟨_,h⟩
 .rw [hd] at hs;cases hs
 .obtain ⟨l,e,hl,hx⟩:=shp_slice hd h
  cases e
  exact ⟨l,rfl,hl,hx⟩
theorem as_struct {fs:Array Field} (hd:P.underlying t=some (.struct fs)) (h:AS P t α):∃L,α=.ag L∧Shp P t L:=by
 rcases h with ⟨fs,L,_,e,h⟩ | ⟨h,_⟩
 .exact ⟨L,e,h⟩
 .exact absurd hd (h fs)
theorem mapC_of {β:Type} {c:β→List AV}:∀{l:List (List AV)},(∀x∈l,∃y,x=c y)→∃m:List β,l=mapC c m∧m.length=l.length
 | [],_=>⟨[],rfl,rfl⟩
 | x::l,h=>by
  obtain ⟨y,rfl⟩:=h x (by simp)
  obtain ⟨m,e,hl⟩:=mapC_of (c:=c) (l:=l) fun z hz=>h z (by simp [hz])
  exact ⟨y::m,by rw [e,mapC_cons],by simp [hl]⟩
end
/-! ### Arguments in number -/
theorem as_n1 {P:Program} {t1:TypeId} {αs:List AV} (h:ASs P [t1] αs):∃α1,αs=[α1]∧AS P t1 α1:=by
 match αs,h with
 | [α1],h=>exact ⟨α1,rfl,h.1⟩
 | [],h=>exact (h:False).elim
 | α1::x::l,h=>exact (h.2:False).elim
theorem ds_n1 {β:Type} {l:List β} (h:l.length=1):∃t1,l=[t1]:=by
 match l,h with
 | [t1],_=>exact ⟨t1,rfl⟩
theorem as_n2 {P:Program} {t1 t2:TypeId} {αs:List AV} (h:ASs P [t1,t2] αs):∃α1 α2,αs=[α1,α2]∧AS P t1 α1∧AS P t2 α2:=by
 match αs,h with
 | [α1,α2],h=>exact ⟨α1,α2,rfl,h.1,h.2.1⟩
 | [],h=>exact (h:False).elim
 | [α1],h=>exact (h.2:False).elim
 | α1::α2::x::l,h=>exact (h.2.2:False).elim
theorem ds_n2 {β:Type} {l:List β} (h:l.length=2):∃t1 t2,l=[t1,t2]:=by
 match l,h with
 | [t1,t2],_=>exact ⟨t1,t2,rfl⟩
theorem ds_n3 {β:Type} {l:List β} (h:l.length=3):∃t1 t2 t3,l=[t1,t2,t3]:=by
 match l,h with
 | [t1,t2,t3],_=>exact ⟨t1,t2,t3,rfl⟩
theorem ds_n4 {β:Type} {l:List β} (h:l.length=4):∃t1 t2 t3 t4,l=[t1,t2,t3,t4]:=by
 match l,h with
 | [t1,t2,t3,t4],_=>exact ⟨t1,t2,t3,t4,rfl⟩
theorem ds_n5 {β:Type} {l:List β} (h:l.length=5):∃t1 t2 t3 t4 t5,l=[t1,t2,t3,t4,t5]:=by
 match l,h with
 | [t1,t2,t3,t4,t5],_=>exact ⟨t1,t2,t3,t4,t5,rfl⟩
theorem par_lt {P:Program} {l:Array TypeId} (h:(l.toList.all fun t=>decide (t<P.types.size))=true):∀t∈l.toList,t<P.types.size:=fun t ht=>of_decide_eq_true (List.all_eq_true.1 h t ht)
end Go.Eng
