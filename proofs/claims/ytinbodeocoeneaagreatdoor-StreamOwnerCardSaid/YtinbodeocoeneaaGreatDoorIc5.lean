/- Proof. Conditions: none. -/
import Derived.Test.YtinbodeocoeneaaGreatDoorIc4
open List renaming getElem?_eq_some_iff→zlb,append_assoc→zlf,getElem?_append→zlm,length_take→zlo
open Nat renaming mul_le_mul_left→zne
namespace Go.Eng
set_option linter.all false
def EN.set (env:EN) (d:Option Nat) (α:AV):EN:=match d with | some t=>(t,α)::env | none=>env
theorem Sat.step {C:Ctx} {st:St} {h h':HP} {ρ ρ':RO} {a:Act} {w w':World} {hp':CH} {n':Nat} (S:Sat C st h ρ a w) (hh:HLe h h') (hr:RLe ρ ρ') (m':SatH h' ρ' hp' n' w')
  (hk:Keeps (live ρ st.hp) w w') (hl:∀b,live ρ' hp' b→live ρ st.hp b∨w.heap.size≤b) (d:Option Nat) {v:Value} {α:AV} (r:Rel h' ρ' α v) :
  Sat C ⟨EN.set st.env d α,hp',n'⟩ h' ρ' (a.put d v) w':=by
 refine ⟨S.hle.trans hh,S.rle.trans hr,S.keep.trans hk (fun b hb hl=>?_),fun b hb=>?_,m',fun t ht=>?_,?_,?_⟩
 .rcases S.own b hl with h1 | h1
  .omega
  .exact h1
 .rcases hl b hb with h1 | h1
  .exact S.own b h1
  .exact .inl (Nat.le_trans S.keep.size h1)
 .cases d with
  | none =>
   obtain ⟨v0,h1,h2⟩:=S.env t ht
   exact ⟨v0,h1,h2.mono hh hr⟩
  | some d =>
   simp only [Act.put,EN.set,ge]
   by_cases hd:d=t
   .subst hd
    rw [if_pos rfl]
    exact ⟨v,by simp [S.size,ht],r⟩
   .rw [if_neg hd]
    obtain ⟨v0,h1,h2⟩:=S.env t ht
    refine ⟨v0,?_,h2.mono hh hr⟩
    rw [Array.getElem?_setIfInBounds_ne hd]
    exact h1
 .cases d<;>simp [Act.put,S.size]
 .cases d<;>simp [Act.put,S.defers]
theorem Sat.val {C:Ctx} {st:St} {h:HP} {ρ:RO} {a:Act} {w:World} (S:Sat C st h ρ a w) (d:Option Nat) {v:Value} {α:AV} (r:Rel h ρ α v) :
  Sat C ⟨EN.set st.env d α,st.hp,st.n⟩ h ρ (a.put d v) w :=
 S.step (HLe.refl _) (RLe.refl _) S.mem (Keeps.refl _ _) (fun b h=>.inl h) d r
theorem Keeps.alloc (X:Nat→Prop) (w:World) (o:Obj):Keeps X w (w.alloc o) :=
 ⟨rfl,rfl,rfl,by simp,fun b hb _=>heap_alloc_old w o b hb⟩
theorem Keeps.setRow {X:Nat→Prop} (w:World) (g:Nat) (cs:Array Value) (h:X g):Keeps X w (w.setRow g cs) :=
 ⟨rfl,rfl,rfl,by simp,fun b hb hx=>setRow_other w g b cs (fun e=>hx (e ▸ h))⟩
theorem Keeps.drew (X:Nat→Prop) (w:World):Keeps X w w.drew:=⟨rfl,rfl,rfl,Nat.le_refl _,fun _ _ _=>rfl⟩
theorem live_cons_new {ρ:RO} {hp:CH} {k g0:Nat} {c:Chunk} {x:Option Nat × Nat} {B:Nat} (hx:∀b,x.1=some b→B≤b) (hc:∀j,c.own j→some g0=some j) (b:Nat)
  (hl:live (rset ρ k g0 x) ((k,c)::hp) b):live ρ hp b∨B≤b:=by
 obtain ⟨k',g,cc,e,r⟩:=hl
 by_cases hk:k=k'
 .subst hk
  rw [gc_cons_same] at e
  cases hc g e
  rw [rset_same] at r
  cases r
  exact .inr (hx b rfl)
 .rw [gc_cons_ne hk] at e
  rw [rset_ne _ _ (fun e=>hk e.symm)] at r
  exact .inl ⟨k',g,cc,e,r⟩
section
variable {P:Program} {C:Ctx} {st:St} {h:HP} {ρ:RO} {a:Act} {w:World} (S:Sat C st h ρ a w)
include S
theorem box_step {k0:Nat} (hk0:∀g,ρ k0 g=none) (d:Option Nat) {cs:List AV} {vs:Array Value} (t:TypeId) (r:RelL h ρ cs vs.toList) :
  ∃ρ',Fr ρ ρ' k0∧Sat C ⟨EN.set st.env d (.bx k0 0),(k0,.bx cs)::st.hp,max st.n (k0+1)⟩ h ρ' (a.put d (.pointer (some ⟨w.heap.size,0,none⟩))) (w.alloc (.cells vs t)):=by
 have hn:ρ k0 0=none:=hk0 0
 have hle:=rset_le (some w.heap.size,0) hn
 have hs:(Chunk.bx cs).sat h (rset ρ k0 0 (some w.heap.size,0)) (w.alloc (.cells vs t)) k0:=by
  refine ⟨w.heap.size,0,vs,t,rset_same _ _ _ _,heap_alloc_new w _,by have:=r.1;simpa using this.symm,fun j α v h1 h2=>(r.2 j α v h1 (by simpa using h2)).mono (HLe.refl _) hle⟩
 obtain ⟨m,_⟩:=S.mem.new hk0 (.bx cs) (.cells vs t) 0 hs
 refine ⟨_,Fr.new _ _ _ _,S.step (HLe.refl _) hle m (Keeps.alloc _ _ _) (fun b hb=>?_) d (.bx _ _ _ _ (rset_same _ _ _ _))⟩
 exact live_cons_new (B:=w.heap.size) (fun b e=>by cases e;exact Nat.le_refl _) (fun j e=>by exact e) b hb
theorem store_step {k off:Nat} {cs xs:List AV} {v:Value} {vs:List Value} (hk:gc st.hp k=.bx cs) (rp:Rel h ρ (.bx k off) v) (hle:off+xs.length≤cs.length) (r:RelL h ρ xs vs) (ho:ones xs=true) :
  ∃b w',v=.pointer (some ⟨b,off,none⟩)∧(storeCells ⟨b,off,none⟩ vs).run P w=.ok () w' ∧
   ∀d,Sat C ⟨EN.set st.env d .un,(k,.bx (cs.take off++xs++cs.drop (off+xs.length)))::st.hp,st.n⟩ h ρ (a.put d undef) w':=by
 cases rp with
 | pu _ _ p=>cases p
 | bx _ _ b c e =>
  have hck:=S.mem.ch k
  rw [hk] at hck
  obtain ⟨b',c',old,ty,h1,h2,h3,h4⟩:=hck
  rw [e] at h1
  cases h1
  have hvl:xs.length=vs.length:=r.1
  have hrun:=run_storeCells_at (P:=P) b off ty vs 0 old w h2 (by omega) (ones_rel r ho)
  refine ⟨b,_,rfl,hrun,fun d=>?_⟩
  have hlive:live ρ st.hp b:=⟨k,0,c,by rw [hk];rfl,e⟩
  simp only [Nat.add_zero]
  refine S.step (HLe.refl _) (RLe.refl _) (S.mem.put k _ (RLe.refl _) (fun _ _ _=>rfl) (fun b2 hb2 hx=>?_) (by simp) ?_ ?_ S.mem.fr ?_) (Keeps.setRow _ _ _ hlive) (fun b2 hb2=>.inl ?_) d (.pu _ _ (.un _))
  .apply setRow_other
   intro e2
   subst e2
   rcases hx with hx | ⟨k',g',c2,hne,hg,hr⟩
   .exact hx (S.mem.hid _ hlive)
   .exact hne (S.mem.inj k' k g' 0 _ _ _ hg (by rw [hk];rfl) hr e)
  .refine ⟨b,c,_,ty,e,setRow_heap w b old _ ty _ h2,?_,fun j α u g1 g2=>?_⟩
   .simp
    omega
   .simp only [List.getElem?_toArray] at g2
    simp only [zlf,zlm,zlo,List.getElem?_take,List.getElem?_drop] at g1 g2
    rw [show min off cs.length=off by omega] at g1
    rw [show min off old.toList.length=off by simp;omega] at g2
    by_cases c1:j<off
    .rw [if_pos c1,if_pos c1] at g1 g2
     exact h4 j α u g1 (by simpa using g2)
    .rw [if_neg c1] at g1 g2
     rw [←hvl] at g2
     by_cases c2:j - off<xs.length
     .rw [if_pos c2] at g1 g2
      exact r.2 _ α u g1 g2
     .rw [if_neg c2] at g1 g2
      exact h4 _ α u g1 (by simpa using g2)
  .intro g b2 c2 hg hr
   cases hg
   rw [e] at hr
   cases hr
   refine ⟨S.mem.hid _ hlive,by simpa using S.mem.lt _ hlive,fun k' g' c3 hne hg' hr'=>?_⟩
   exact hne (S.mem.inj k' k g' 0 _ _ _ hg' (by rw [hk];rfl) hr' e)
  .intro g g' x e1
   cases e1
  .obtain ⟨k',g',c3,hg',hr'⟩:=hb2
   by_cases hkk:k=k'
   .subst hkk
    rw [gc_cons_same] at hg'
    exact ⟨k,g',c3,by rw [hk];exact hg',hr'⟩
   .rw [gc_cons_ne hkk] at hg'
    exact ⟨k',g',c3,hg',hr'⟩
end
def AV.pur:AV→Bool
 | .b _ | .i _ _ | .s _ | .ds _ | .e0 | .np | .mn | .nf | .ni=>true
 | .fc _ x=>x.pur
 | _=>false
theorem AV.pur_rel {h:HP} {ρ:RO} {α:AV} {v:Value} (r:Rel h ρ α v) (o:α.pur=true):PRel h α v:=by
 induction r with
 | pu _ _ p=>exact p
 | fc t x v _ ih=>exact .fc t x v (ih (by simpa [AV.pur] using o))
 | _=>simp [AV.pur] at o
def purs (l:List AV):Bool:=l.all fun α=>α.pur&&α.one
theorem purs_ones {l:List AV} (e:purs l=true):ones l=true:=by
 simp only [purs,ones,List.all_eq_true,Bool.and_eq_true] at *
 exact fun x hx=>(e x hx).2
theorem purs_rel {h:HP} {ρ:RO} {l:List AV} {vs:List Value} (r:RelL h ρ l vs) (e:purs l=true) {j:Nat} {α:AV} {v:Value} (h1:l[j]?=some α) (h2:vs[j]?=some v):PRel h α v:=by
 simp only [purs,List.all_eq_true,Bool.and_eq_true] at e
 exact AV.pur_rel (r.2 j α v h1 h2) (e α (List.mem_of_getElem? h1)).1
def rowC:Bool→Nat→Nat→List (List AV)→Chunk
 | false,g,n,l=>.rw g n l
 | true,g,n,l=>.rn g n l
def RR:Bool→HP→RO→AV→Value→Prop
 | false,h,_,α,v=>PRel h α v
 | true,h,ρ,α,v=>Rel h ρ α v
def okC:Bool→List AV→Bool
 | false,l=>purs l
 | true,l=>ones l
theorem rowC_own (nb:Bool) (g n:Nat) (l:List (List AV)) (j:Nat):(rowC nb g n l).own j=(some g=some j):=by cases nb<;>rfl
theorem rowC_rgen (nb:Bool) (g n:Nat) (l:List (List AV)):(rowC nb g n l).rgen=some g:=by cases nb<;>rfl
theorem RR.rel {nb:Bool} {h:HP} {ρ:RO} {α:AV} {v:Value} (r:RR nb h ρ α v):Rel h ρ α v:=by
 cases nb with
 | false=>exact .pu _ _ r
 | true=>exact r
theorem RR.mono {nb:Bool} {h h':HP} {ρ ρ':RO} (hh:HLe h h') (hr:RLe ρ ρ') {α:AV} {v:Value} (r:RR nb h ρ α v):RR nb h' ρ' α v:=by
 cases nb with
 | false=>exact PRel.mono hh r
 | true=>exact Rel.mono hh hr r
theorem okC_ones {nb:Bool} {l:List AV} (e:okC nb l=true):ones l=true:=by
 cases nb with
 | false=>exact purs_ones e
 | true=>exact e
theorem okC_rel {nb:Bool} {h:HP} {ρ:RO} {l:List AV} {vs:List Value} (r:RelL h ρ l vs) (e:okC nb l=true) {j:Nat} {α:AV} {v:Value} (h1:l[j]?=some α) (h2:vs[j]?=some v):RR nb h ρ α v:=by
 cases nb with
 | false=>exact purs_rel r e h1 h2
 | true=>exact r.2 j α v h1 h2
theorem rowC_sat {nb:Bool} {g n:Nat} {l:List (List AV)} {h:HP} {ρ:RO} {w:World} {k:Nat}:(rowC nb g n l).sat h ρ w k↔∃ob cap,ρ k g=some (ob,cap)∧l.length≤cap∧cap≤maxLen∧(∀(j:Nat) e,l[j]?=some e→e.length=n)∧(ob=none→cap=0) ∧
   ∀b,ob=some b→∃vs e,w.heap[b]?=some (.cells vs e (0,0))∧vs.size=cap*n∧∀(j:Nat) x (q:Nat) α,l[j]?=some x→x[q]?=some α→∃u,vs[n*j+q]?=some u∧RR nb h ρ α u:=by
 cases nb<;>exact Iff.rfl
section
variable {P:Program} {C:Ctx} {st:St} {h:HP} {ρ:RO} {a:Act} {w:World} (S:Sat C st h ρ a w)
include S
theorem row_store_stepN {nb:Bool} {k g len n i off:Nat} {l:List (List AV)} {xs e:List AV} {v:Value} {vs:List Value} (hk:gc st.hp k=rowC nb g n l) (rp:Rel h ρ (.ep (.rw k g len) n i off) v) (he:l[i]?=some e)
    (hle:off+xs.length≤n) (r:RelL h ρ xs vs) (ho:okC nb xs=true) :
    ∃b o w',v=.pointer (some ⟨b,o,none⟩)∧(storeCells ⟨b,o,none⟩ vs).run P w=.ok () w' ∧
      ∀d,Sat C ⟨EN.set st.env d .un,(k,rowC nb g n (l.set i (e.take off++xs++e.drop (off+xs.length))))::st.hp,st.n⟩ h ρ (a.put d undef) w':=by
  cases rp with
  | pu _ _ p => cases p
  | ep _ _ _ _ b o len' cap' r0 hi =>
    cases r0 with
    | pu _ _ p => cases p
    | rw _ _ _ _ _ ob e1 hlc ha =>
      have hck:=S.mem.ch k
      rw [hk,rowC_sat] at hck
      obtain ⟨ob',cap,h1,h2,h2',h3,h4,h5⟩:=hck
      rw [e1] at h1
      cases h1
      cases ob with
      | none => have := h4 rfl; omega
      | some b' =>
        have hb:=ha b' rfl
        cases hb
        obtain ⟨old,ty,a1,a2,a3⟩:=h5 b rfl
        have hil:i<l.length:=(zlb.1 he).1
        have hen:e.length=n:=h3 i e he
        have hvl:xs.length=vs.length:=r.1
        have hni:n*i+n≤old.size:=by
          rw [a2,←Nat.mul_succ,Nat.mul_comm cap']
          exact Nat.mul_le_mul_left _ (by omega)
        have hrun := run_storeCells_at (P := P) b (0 + n * i + off) ty vs 0 old w a1 (by omega) (ones_rel r (okC_ones ho))
        refine ⟨b,_,_,rfl,hrun,fun d=>?_⟩
        have hlive : live ρ st.hp b := ⟨k, g, cap', by rw [hk, rowC_own], e1⟩
        simp only [Nat.add_zero,Nat.zero_add]
        refine S.step (HLe.refl _) (RLe.refl _) (S.mem.put k _ (RLe.refl _) (fun _ _ _ => rfl) (fun b2 hb2 hx => ?_) (by simp) ?_ ?_ S.mem.fr ?_) (Keeps.setRow _ _ _ hlive) (fun b2 hb2 => .inl ?_) d (.pu _ _ (.un _))
        . apply setRow_other
          intro e2
          subst e2
          rcases hx with hx | ⟨k',g',c2,hne,hg,hr⟩
          . exact hx (S.mem.hid _ hlive)
          . exact hne (S.mem.inj k' k g' g _ _ _ hg (by rw [hk, rowC_own]) hr e1)
        . rw [rowC_sat]
          refine ⟨some b, cap', e1, by simpa using h2, h2', fun j y hy => ?_, (fun hx => by cases hx), fun b2 hb2 => ?_⟩
          . rw [List.getElem?_set] at hy
            split at hy
            . simp only [hil, ↓reduceIte, Option.some.injEq] at hy
              subst hy
              simp
              omega
            . exact h3 j y hy
          . cases hb2
            refine ⟨_,ty,setRow_heap w b old _ ty _ a1,?_,fun j y q β g1 g2=>?_⟩
            . simp
              omega
            . have hmin : min (n * i + off) old.size = n * i + off := by omega
              rw [List.getElem?_set] at g1
              rw [List.getElem?_toArray,zlf,zlm]
              simp only [zlo,Array.length_toList,hmin]
              split at g1
              . rename_i hij
                subst hij
                simp only [hil,↓reduceIte,Option.some.injEq] at g1
                subst g1
                rw [zlf,zlm] at g2
                simp only [List.length_take, show min off e.length = off by omega] at g2
                split at g2
                . rename_i c1
                  rw [List.getElem?_take,if_pos c1] at g2
                  obtain ⟨u,z1,z2⟩:=a3 i e q β he g2
                  refine ⟨u,?_,z2⟩
                  rw [if_pos (by omega), List.getElem?_take, if_pos (by omega)]
                  simpa using z1
                . rename_i c1
                  rw [zlm] at g2
                  rw [if_neg (by omega), List.getElem?_append]
                  split at g2
                  . rename_i c2
                    obtain ⟨u,hu⟩:=idx_some hvl g2
                    refine ⟨u,?_,okC_rel r ho g2 hu⟩
                    rw [if_pos (by omega), show n * i + q - (n * i + off) = q - off by omega]
                    exact hu
                  . rename_i c2
                    rw [List.getElem?_drop, show off + xs.length + (q - off - xs.length) = q by omega] at g2
                    obtain ⟨u,z1,z2⟩:=a3 i e q β he g2
                    refine ⟨u,?_,z2⟩
                    rw [if_neg (by omega), List.getElem?_drop, show n * i + off + vs.length + (n * i + q - (n * i + off) - vs.length) = n * i + q by omega]
                    simpa using z1
              . rename_i hij
                obtain ⟨u,z1,z2⟩:=a3 j y q β g1 g2
                refine ⟨u,?_,z2⟩
                have hq:q<n:=by
                  have:=h3 j y g1
                  have:=(zlb.1 g2).1
                  omega
                by_cases hlt:j<i
                . have : n * j + n ≤ n * i := by rw [← Nat.mul_succ]; exact Nat.mul_le_mul_left _ hlt
                  rw [if_pos (by omega), List.getElem?_take, if_pos (by omega)]
                  simpa using z1
                . have : n * i + n ≤ n * j := by rw [← Nat.mul_succ]; exact Nat.mul_le_mul_left _ (by omega)
                  rw [if_neg (by omega), List.getElem?_append, if_neg (by omega), List.getElem?_drop, show n * i + off + vs.length + (n * j + q - (n * i + off) - vs.length) = n * j + q by omega]
                  simpa using z1
        . intro g2 b2 c2 hg hr
          rw [rowC_own] at hg
          cases hg
          rw [e1] at hr
          cases hr
          refine ⟨S.mem.hid _ hlive, by simpa using S.mem.lt _ hlive, fun k' g' c3 hne hg' hr' => ?_⟩
          exact hne (S.mem.inj k' k g' g _ _ _ hg' (by rw [hk, rowC_own]) hr' e1)
        . intro g2 g' x e2 hx
          rw [rowC_rgen] at e2
          cases e2
          exact S.mem.gens k g g' x (by rw [hk]; exact rowC_rgen ..) hx
        . obtain ⟨k', g', c3, hg', hr'⟩ := hb2
          by_cases hkk:k=k'
          . subst hkk
            rw [gc_cons_same,rowC_own] at hg'
            exact ⟨k, g', c3, by rw [hk, rowC_own]; exact hg', hr'⟩
          . rw [gc_cons_ne hkk] at hg'
            exact ⟨k',g',c3,hg',hr'⟩
theorem row_store_step {k g len n i off:Nat} {l:List (List AV)} {xs e:List AV} {v:Value} {vs:List Value} (hk:gc st.hp k=.rw g n l) (rp:Rel h ρ (.ep (.rw k g len) n i off) v) (he:l[i]?=some e)
  (hle:off+xs.length≤n) (r:RelL h ρ xs vs) (ho:purs xs=true) :
  ∃b o w',v=.pointer (some ⟨b,o,none⟩)∧(storeCells ⟨b,o,none⟩ vs).run P w=.ok () w' ∧
   ∀d,Sat C ⟨EN.set st.env d .un,(k,.rw g n (l.set i (e.take off++xs++e.drop (off+xs.length))))::st.hp,st.n⟩ h ρ (a.put d undef) w':=row_store_stepN (nb:=false) S hk rp he hle r ho
end
theorem row_cellsR {P:Program} {R:AV→Value→Prop} {w:World} {v:Value} {l:List (List AV)} (hl:∃a cap,v=.slice a l.length cap∧l.length≤cap∧∃q0,(∀(j:Nat) e,l[j]?=some e→e.length=q0) ∧
   (l≠[]→∃b o,a=some ⟨b,o,none⟩∧∀(j:Nat) e (q:Nat) x,l[j]?=some e→e[q]?=some x→∃u,w.cell? ⟨b,o+q0*j+q,none⟩=some u∧R x u)) {n:Nat} (hn:∀e∈l,e.length=n) :
  ∃a cap vs,v=.slice a l.length cap∧l.length≤cap∧vs.length=l.length*n∧(∀w':World,w'.heap=w.heap→(Builtin.firstCells n l.length v).run P w'=.ok (List.toArray vs) w') ∧
   ∀(j:Nat) e (q:Nat) x,l[j]?=some e→e[q]?=some x→∃u,vs[n*j+q]?=some u∧R x u:=by
 obtain ⟨a,cap,rfl,hc,q0,hq,hm⟩:=hl
 by_cases hne:l=[]
 .subst hne
  refine ⟨a,cap,[],rfl,hc,by simp,fun w' _=>?_,fun j e q x h1=>by simp at h1⟩
  cases a with
  | none=>simp [Builtin.firstCells]
  | some a=>simpa using run_firstCells_some (P:=P) w' n 0 a 0 cap [] (by simp) (fun j v h=>by simp at h)
 .obtain ⟨b,o,rfl,hx⟩:=hm hne
  have hq0:q0=n:=by
   cases l with
   | nil=>exact absurd rfl hne
   | cons e l=>have h1:=hq 0 e rfl;have h2:=hn e (by simp);omega
  subst hq0
  have cell:∀i,i<l.length*q0→∃u,w.cell? ⟨b,o+i,none⟩=some u∧∀x,(∃e,l[i / q0]?=some e∧e[i % q0]?=some x)→R x u:=by
   intro i hi
   have hpos:0<q0:=by
    rcases Nat.eq_zero_or_pos q0 with h0 | h0
    .subst h0;simp at hi
    .exact h0
   have hj:i / q0<l.length:=by rw [Nat.div_lt_iff_lt_mul hpos];exact hi
   have he:l[i / q0]?=some l[i / q0]:=by simp [hj]
   have hel:=hq _ _ he
   have hq':i % q0<l[i / q0].length:=by rw [hel];exact Nat.mod_lt _ hpos
   have hx0:l[i / q0][i % q0]?=some l[i / q0][i % q0]:=by simp [hq']
   obtain ⟨u,h1,h2⟩:=hx _ _ _ _ he hx0
   refine ⟨u,?_,fun x ⟨e,g1,g2⟩=>?_⟩
   .rw [show o+i=o+q0*(i / q0)+i % q0 by have:=Nat.div_add_mod i q0;omega]
    exact h1
   .rw [he] at g1
    cases g1
    rw [hx0] at g2
    cases g2
    exact h2
  let vs:List Value:=(List.range (l.length*q0)).map fun i=>(w.cell? ⟨b,o+i,none⟩).getD undef
  have hvs:vs.length=l.length*q0:=by simp [vs]
  have hget:∀i,i<l.length*q0→∃u,vs[i]?=some u∧w.cell? ⟨b,o+i,none⟩=some u∧∀x,(∃e,l[i / q0]?=some e∧e[i % q0]?=some x)→R x u:=by
   intro i hi
   obtain ⟨u,h1,h2⟩:=cell i hi
   refine ⟨u,?_,h1,h2⟩
   simp [vs,hi,h1]
  refine ⟨_,cap,vs,rfl,hc,hvs,fun w' hw'=>?_,fun j e q x h1 h2=>?_⟩
  .refine run_firstCells_some (P:=P) w' q0 l.length ⟨b,o,none⟩ l.length cap vs hvs fun j v hv=>?_
   have hj:j<l.length*q0:=by have:=(zlb.1 hv).1;omega
   obtain ⟨u,g1,g2,_⟩:=hget j hj
   rw [g1] at hv
   cases hv
   rw [Addr.add_lit]
   have:w'.cell? ⟨b,o+j,none⟩=w.cell? ⟨b,o+j,none⟩:=by simp [World.cell?,hw']
   rw [this]
   exact g2
  .have hj:j<l.length:=(zlb.1 h1).1
   have hel:=hq _ _ h1
   have hqq:q<q0:=by have:=(zlb.1 h2).1;omega
   have hlt:q0*j+q<l.length*q0:=by
    have:q0*j+q0≤q0*l.length:=by rw [←Nat.mul_succ];exact zne _ hj
    rw [Nat.mul_comm l.length q0]
    omega
   obtain ⟨u,g1,_,g3⟩:=hget _ hlt
   refine ⟨u,g1,g3 x ⟨e,?_,?_⟩⟩
   .rw [show (q0*j+q) / q0=j by rw [Nat.mul_add_div (by omega)];simp [Nat.div_eq_of_lt hqq]]
    exact h1
   .rw [show (q0*j+q) % q0=q by rw [Nat.mul_add_mod];exact Nat.mod_eq_of_lt hqq]
    exact h2
theorem row_cells {P:Program} {h:HP} {ρ:RO} {hp:CH} {n0:Nat} {w:World} (mm:SatH h ρ hp n0 w) {α:AV} {v:Value} (r:Rel h ρ α v) {l:List (List AV)} (hl:sl hp α=some l) {n:Nat} (hn:∀e∈l,e.length=n) :
  ∃a cap vs,v=.slice a l.length cap∧l.length≤cap∧vs.length=l.length*n∧(∀w':World,w'.heap=w.heap→(Builtin.firstCells n l.length v).run P w'=.ok (List.toArray vs) w') ∧
   ∀(j:Nat) e (q:Nat) x,l[j]?=some e→e[q]?=some x→∃u,vs[n*j+q]?=some u∧Rel h ρ x u:=row_cellsR (sl_read mm r hl) hn
theorem SatH.shut {h:HP} {ρ:RO} {hp:CH} {n0:Nat} {w:World} (m:SatH h ρ hp n0 w) {k g n:Nat} {l:List (List AV)} (hk:gc hp k=.rw g n l) :
  ∃h',HLe h h'∧SatH h' ρ ((k,.sh g n l)::hp) n0 w∧(∀b,live ρ ((k,.sh g n l)::hp) b→live ρ hp b):=by
 have hck:=m.ch k
 rw [hk] at hck
 obtain ⟨ob,cap,h1,h2,h2',h3,h4,h5⟩:=hck
 have hlive:∀b,live ρ ((k,.sh g n l)::hp) b→live ρ hp b∧ob≠some b:=by
  rintro b ⟨k',g',c,e,r⟩
  by_cases hkk:k=k'
  .subst hkk
   rw [gc_cons_same] at e
   cases e
  .rw [gc_cons_ne hkk] at e
   refine ⟨⟨k',g',c,e,r⟩,fun e2=>?_⟩
   subst e2
   exact hkk (m.inj k k' g g' b cap c (by rw [hk];rfl) e h1 r)
 let h':HP:=fun b=>if ob=some b then w.heap[b]? else h b
 have hle:HLe h h':=by
  intro b o e
  show (if ob=some b then w.heap[b]? else h b)=some o
  split
  .exact m.hh b o e
  .exact e
 refine ⟨h',hle,⟨fun b o e=>?_,fun k'=>?_,fun k1 k2 g1 g2 b c1 c2 e1 e2 r1 r2=>?_,fun b hb=>?_,fun b hb=>m.lt b (hlive b hb).1,m.fr,fun k1 g1 g' x e r=>?_,m.glm hle⟩,fun b hb=>(hlive b hb).1⟩
 .change (if ob=some b then w.heap[b]? else h b)=some o at e
  split at e
  .exact e
  .exact m.hh b o e
 .by_cases hkk:k=k'
  .subst hkk
   rw [gc_cons_same]
   refine ⟨ob,cap,h1,h2,h2',h3,h4,fun b hb=>?_⟩
   obtain ⟨vs,e,a1,a2,a3⟩:=h5 b hb
   refine ⟨vs,e,(0,0),?_,fun j x q α y1 y2=>let ⟨u,z1,z2⟩:=a3 j x q α y1 y2;⟨u,z1,z2.mono hle⟩⟩
   show (if ob=some b then w.heap[b]? else h b)=_
   rw [if_pos hb]
   exact a1
  .rw [gc_cons_ne hkk]
   exact Chunk.sat_mono hle (RLe.refl _) (fun _ _ _ _ _=>rfl) (m.ch k')
 .by_cases h1':k=k1
  .subst h1'
   rw [gc_cons_same] at e1
   cases e1
  .by_cases h2':k=k2
   .subst h2'
    rw [gc_cons_same] at e2
    cases e2
   .rw [gc_cons_ne h1'] at e1
    rw [gc_cons_ne h2'] at e2
    exact m.inj k1 k2 g1 g2 b c1 c2 e1 e2 r1 r2
 .obtain ⟨hl,hne⟩:=hlive b hb
  show (if ob=some b then w.heap[b]? else h b)=none
  rw [if_neg hne]
  exact m.hid b hl
 .by_cases h1':k=k1
  .subst h1'
   rw [gc_cons_same] at e
   cases e
  .rw [gc_cons_ne h1'] at e
   exact m.gens k1 g1 g' x e r
def shutC (hp:CH):AV→CH
 | .rw k g _=>match gc hp k with
  | .rw g' n l=>if g=g' then (k,.sh g' n l)::hp else hp
  | _=>hp
 | _=>hp
def shutL (hp:CH):List AV→CH
 | []=>hp
 | α::r=>shutL (shutC hp α) r
def pureC (hp:CH):AV→Option AV
 | .rw k g len=>match gc hp k with
  | .sh g' n l=>if g=g'∧len≤l.length then some (.ds (l.take len)) else none
  | _=>none
 | .e0=>some (.ds [])
 | α=>if α.pur&&α.one then some α else none
def pureL (hp:CH):List AV→Option (List AV)
 | []=>some []
 | α::r=>match pureC hp α,pureL hp r with
  | some β,some l=>some (β::l)
  | _,_=>none
theorem Sat.shutC {C:Ctx} {st:St} {h:HP} {ρ:RO} {a:Act} {w:World} (S:Sat C st h ρ a w) (α:AV):∃h',HLe h h'∧Sat C { st with hp:=shutC st.hp α } h' ρ a w:=by
 unfold Eng.shutC
 split
 .split
  .rename_i k g len g' n l hk
   split
   .obtain ⟨h',hle,m',hl⟩:=S.mem.shut hk
    refine ⟨h',hle,S.hle.trans hle,S.rle,S.keep,fun b hb=>S.own b (hl b hb),m',fun t ht=>?_,S.size,S.defers⟩
    obtain ⟨v,h1,h2⟩:=S.env t ht
    exact ⟨v,h1,h2.mono hle (RLe.refl _)⟩
   .exact ⟨h,HLe.refl _,S⟩
  .exact ⟨h,HLe.refl _,S⟩
 .exact ⟨h,HLe.refl _,S⟩
theorem Sat.shutL {C:Ctx} {st:St} {a:Act} {w:World} (l:List AV):∀{h:HP} {ρ:RO} {st:St},Sat C st h ρ a w→∃h',HLe h h'∧Sat C { st with hp:=shutL st.hp l } h' ρ a w:=by
 induction l with
 | nil=>intro h ρ st S;exact ⟨h,HLe.refl _,S⟩
 | cons α r ih =>
  intro h ρ st S
  obtain ⟨h1,e1,S1⟩:=S.shutC α
  obtain ⟨h2,e2,S2⟩:=ih S1
  exact ⟨h2,e1.trans e2,S2⟩
theorem pureC_rel {h:HP} {ρ:RO} {hp:CH} {n:Nat} {w:World} (m:SatH h ρ hp n w) {α β:AV} {v:Value} (r:Rel h ρ α v) (e:pureC hp α=some β):PRel h β v∧v.oneCell'=true:=by
 have gen:∀α:AV,Rel h ρ α v→(if α.pur&&α.one then some α else none)=some β→PRel h β v∧v.oneCell'=true:=by
  intro α r e
  split at e
  .rename_i hc
   simp only [Bool.and_eq_true] at hc
   cases e
   exact ⟨AV.pur_rel r hc.1,AV.one_rel r hc.2⟩
  .cases e
 unfold pureC at e
 split at e
 .rename_i k g len
  split at e
  .rename_i g' n' l hk
   split at e
   .rename_i hc
    obtain ⟨rfl,hle⟩:=hc
    cases e
    exact sh_ds m r hk hle
   .cases e
  .cases e
 .cases e
  cases r with
  | pu _ _ p =>
   cases p with
   | e0 a=>exact ⟨.ds [] 0 a 0 (fun _ _=>undef) (Nat.le_refl _) (fun j e h=>by simp at h) (fun j e q α h=>by simp at h) (fun h=>absurd rfl h),rfl⟩
 .exact gen _ r e
theorem pureL_rel {h:HP} {ρ:RO} {hp:CH} {n:Nat} {w:World} (m:SatH h ρ hp n w):∀{l l':List AV} {vs:List Value},RelL h ρ l vs→pureL hp l=some l' →
  l'.length=vs.length∧(∀(j:Nat) α v,l'[j]?=some α→vs[j]?=some v→PRel h α v)∧∀v∈vs,v.oneCell'=true:=by
 intro l
 induction l with
 | nil =>
  intro l' vs r e
  simp [pureL] at e
  subst e
  have:vs=[]:=by have:=r.1;simpa using this.symm
  subst this
  exact ⟨rfl,fun j α v h=>by simp at h,fun v h=>by cases h⟩
 | cons α l ih =>
  intro l' vs r e
  cases vs with
  | nil=>have:=r.1;simp at this
  | cons v vs =>
   unfold pureL at e
   split at e
   .rename_i β l2 e1 e2
    cases e
    obtain ⟨p1,p2⟩:=pureC_rel m (r.2 0 α v rfl rfl) e1
    obtain ⟨i1,i2,i3⟩:=ih (l':=l2) (vs:=vs) ⟨by have:=r.1;simpa using this,fun j α v h1 h2=>r.2 (j+1) α v (by simpa using h1) (by simpa using h2)⟩ e2
    refine ⟨by simp [i1],fun j α v h1 h2=>?_,fun u hu=>?_⟩
    .cases j with
     | zero=>simp at h1 h2;subst h1;subst h2;exact p1
     | succ j=>exact i2 j α v (by simpa using h1) (by simpa using h2)
    .rcases List.mem_cons.1 hu with rfl | hu
     .exact p2
     .exact i3 u hu
   .cases e
/-! ### Rows that are built -/
theorem fill_row {n:Nat}:∀(vs:List Value) (k:Nat) (cells:Array Value),(k+vs.length)*n≤cells.size→(∀v∈vs,v.cells.size=n) →
  ∃cs,Instr.fill (fun i=>some (i*n,n)) cells ((vs.zipIdx k).map fun x=>(x.2,x.1))=some cs∧cs.size=cells.size∧(∀i:Nat,i<k*n→cs[i]?=cells[i]?) ∧
   ∀(j:Nat) v (q:Nat),vs[j]?=some v→q<n→cs[n*(k+j)+q]?=v.cells[q]?:=by
 intro vs
 induction vs with
 | nil=>intro k cells _ _;exact ⟨cells,rfl,rfl,fun _ _=>rfl,fun j v q h=>by simp at h⟩
 | cons v vs ih =>
  intro k cells hk hv
  have hn:=hv v (by simp)
  have hkn:k*n+n≤cells.size:=by
   have:(k+(v::vs).length)*n=k*n+vs.length*n+n:=by simp [Nat.add_mul];omega
   omega
  simp only [List.zipIdx_cons,List.map_cons,Instr.fill]
  have hcond:¬((decide (v.cells.size≠n)||decide (k*n+v.cells.size > cells.size))=true):=by simp;omega
  rw [if_neg hcond]
  obtain ⟨s1,s2⟩:=setBlk (off:=k*n) v.cells.toList 0 cells (by simp;omega)
  have ef:v.cells.zipIdx.foldl (fun (cs:Array Value) (x:Value × Nat)=>cs.setIfInBounds (k*n+x.2) x.1) cells=(v.cells.toList.zipIdx 0).foldl (fun (x:Array Value) (c:Value × Nat)=>x.setIfInBounds (k*n+c.2) c.1) cells:=by
   rw [←Array.foldl_toList,Array.toList_zipIdx]
  rw [ef]
  obtain ⟨cs,e1,e2,e3,e4⟩:=ih (k+1) _ (by rw [s1];simp at hk;rw [show k+1+vs.length=k+(vs.length+1) by omega];exact hk) (fun u hu=>hv u (by simp [hu]))
  refine ⟨cs,e1,by rw [e2,s1],fun i hi=>?_,fun j u q h1 h2=>?_⟩
  .rw [e3 i (by rw [Nat.add_mul];omega),s2 i,if_neg (by omega)]
  .cases j with
   | zero =>
    simp at h1
    subst h1
    have hkk:n*k=k*n:=Nat.mul_comm _ _
    rw [Nat.add_zero,e3 _ (by rw [Nat.add_mul];omega),s2,if_pos (by simp;omega)]
    rw [show n*k+q - (k*n+0)=q by omega]
    simp
   | succ j =>
    have:=e4 j u q (by simpa using h1) h2
    rw [show k+(j+1)=k+1+j by omega]
    exact this
theorem inOrder_zip:∀(ps:List (Nat × Operand)) (k:Nat) (f:Operand→Value),inOrder k ps=true→(ps.map fun (i,x)=>(i,f x))=((ps.map fun p=>f p.2).zipIdx k).map fun x=>(x.2,x.1):=by
 intro ps
 induction ps with
 | nil=>intro k f _;rfl
 | cons p ps ih =>
  intro k f h
  obtain ⟨i,x⟩:=p
  simp only [inOrder,Bool.and_eq_true,beq_iff_eq] at h
  obtain ⟨rfl,h⟩:=h
  simp [ih _ f h]
theorem tyEl_inv {P:Program} {t e:TypeId} (he:tyEl P t=some e):P.underlying t=some (.slice e):=by
 unfold tyEl at he
 split at he
 .rename_i e' h;cases he;exact h
 .cases he
theorem run_buildSlice {P:Program} (w:World) {t e:TypeId} {n:Nat} (he:tyEl P t=some e) (hn:tySz P e=some n) (hz:((P.info? e).bind (·.zero)).isSome=true) {len:Nat} {ps:Array (Nat × Value)} {vs:List Value}
  (hps:ps.toList=(vs.zipIdx 0).map fun x=>(x.2,x.1)) (hlen:vs.length=len) (hb:len*n≤16777216) (hv:∀v∈vs,v.cells.size=n) :
  ∃cs:Array Value,(Instr.buildSlice t len ps).run P w=.ok (.slice (some ⟨w.heap.size,0,none⟩) len len) (w.alloc (.cells cs e))∧cs.size=len*n ∧
   ∀(j:Nat) v (q:Nat),vs[j]?=some v→q<n→cs[n*j+q]?=v.cells[q]?:=by
 have hu:=tyEl_inv he
 .cases hi:P.info? e with
  | none=>simp [hi] at hz
  | some i =>
   simp [hi] at hz
   obtain ⟨z,hz⟩:=Option.isSome_iff_exists.1 hz
   have hzr:(zeroValue e).run P w=.ok z w:=by simp [zeroValue,typeInfo,hi,hz]
   let zero:Array Value:=if len*n=0 then #[] else z.cells
   obtain ⟨cs,h1,h2,_,h4⟩:=fill_row (n:=n) vs 0 ((Array.range (len*n)).map (zero[· % zero.size]!)) (by simp [hlen]) hv
   refine ⟨cs,?_,by rw [h2];simp,fun j v q g1 g2=>by simpa using h4 j v q g1 g2⟩
   have hnb:¬(len*n > 2 ^ 24):=by simpa using hb
   simp only [Instr.buildSlice,Sem.run_bind,run_underlying hu,Result.andThen_ok,run_sizeOf' hn]
   rw [if_neg hnb]
   by_cases h0:len*n=0
   .simp only [zero,h0,if_true] at h1
    rw [←hps] at h1
    simp [h0,newRow]
    simp at h1
    simp [h1]
   .simp only [zero,if_neg h0] at h1
    rw [←hps] at h1
    simp [h0,hzr,newRow,h1]
def partsL (hp:CH) (n:Nat):List AV→Option (List (List AV))
 | []=>some []
 | α::r=>match α.cl,partsL hp n r with
  | some cs,some l=>match pureL hp cs with
   | some cs'=>if cs'.length=n then some (cs'::l) else none
   | none=>none
  | _,_=>none
def shutP (hp:CH):List AV→CH
 | []=>hp
 | α::r=>match α.cl with
  | some cs=>shutP (shutL hp cs) r
  | none=>shutP hp r
theorem partsL_rel {h:HP} {ρ:RO} {hp:CH} {n0:Nat} {w:World} (m:SatH h ρ hp n0 w) {n:Nat}:∀{l:List AV} {out:List (List AV)} {vs:List Value},RelL h ρ l vs→partsL hp n l=some out →
  out.length=vs.length∧(∀e∈out,e.length=n)∧(∀v∈vs,v.cells.size=n∧∀u∈v.cells.toList,u.oneCell'=true) ∧
   ∀(j:Nat) e v (q:Nat) α u,out[j]?=some e→vs[j]?=some v→e[q]?=some α→v.cells[q]?=some u→PRel h α u:=by
 intro l
 induction l with
 | nil =>
  intro out vs r e
  simp [partsL] at e
  subst e
  have:vs=[]:=by have:=r.1;simpa using this.symm
  subst this
  exact ⟨rfl,(fun e h=>(by cases h)),(fun v h=>(by cases h)),(fun j e v q α u h=>by simp at h)⟩
 | cons α l ih =>
  intro out vs r e
  cases vs with
  | nil=>have:=r.1;simp at this
  | cons v vs =>
   unfold partsL at e
   split at e
   .rename_i cs l2 e1 e2
    split at e
    .rename_i cs' e3
     split at e
     .rename_i hlen
      cases e
      have rc:=AV.cl_rel (r.2 0 α v rfl rfl) e1
      obtain ⟨p1,p2,p3⟩:=pureL_rel m rc e3
      obtain ⟨i1,i2,i3,i4⟩:=ih (out:=l2) (vs:=vs) ⟨by have:=r.1;simpa using this,fun j α v h1 h2=>r.2 (j+1) α v (by simpa using h1) (by simpa using h2)⟩ e2
      refine ⟨by simp [i1],fun e he=>?_,fun u hu=>?_,fun j e u q β x h1 h2 h3 h4=>?_⟩
      .rcases List.mem_cons.1 he with rfl | he
       .exact hlen
       .exact i2 e he
      .rcases List.mem_cons.1 hu with rfl | hu
       .exact ⟨by simp at p1;omega,p3⟩
       .exact i3 u hu
      .cases j with
       | zero=>simp at h1 h2;subst h1;subst h2;exact p2 q β x h3 (by simpa using h4)
       | succ j=>exact i4 j e u q β x (by simpa using h1) (by simpa using h2) h3 h4
     .cases e
    .cases e
   .cases e
theorem Sat.shutP {C:Ctx} {a:Act} {w:World} (l:List AV):∀{h:HP} {ρ:RO} {st:St},Sat C st h ρ a w→∃h',HLe h h'∧Sat C { st with hp:=shutP st.hp l } h' ρ a w:=by
 induction l with
 | nil=>intro h ρ st S;exact ⟨h,HLe.refl _,S⟩
 | cons α r ih =>
  intro h ρ st S
  unfold Eng.shutP
  split
  .rename_i cs _
   obtain ⟨h1,e1,S1⟩:=Sat.shutL (st:=st) cs S
   obtain ⟨h2,e2,S2⟩:=ih S1
   exact ⟨h2,e1.trans e2,S2⟩
  .exact ih S
end Go.Eng
