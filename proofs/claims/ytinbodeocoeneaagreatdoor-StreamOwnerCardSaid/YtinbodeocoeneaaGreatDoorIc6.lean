/- Proof. Conditions: none. -/
import Derived.Test.YtinbodeocoeneaaGreatDoorIc5
open List renaming getElem?_eq_some_iff→zlb,getElem?_append→zlm
namespace Go.Eng
set_option linter.all false
section
variable {P:Program}
theorem run_ap_fits {w:World} {t u ty e:TypeId} {i:TypeInfo} {d:TypeDesc} (ht:P.underlying t=some (.slice e)) (hu:P.underlying u=some d) (hd:∀k,d≠.int k) (hi:P.info? e=some i)
  {xv:Value} {m:Nat} {news:List Value} (hlen:(Builtin.lenOf xv).run P w=.ok m w) (hnew:(Builtin.firstCells i.size m xv).run P w=.ok news.toArray w)
  {base:Option Addr} {sLen sCap:Nat} (hfit:sLen+m≤sCap) {w':World} (hst:∀a,base=some a→(storeCells (a.add (sLen*i.size)) news).run P w=.ok () w') (hno:base=none→w'=w) :
  (Builtin.append_ #[t,u] ty #[.slice base sLen sCap,xv]).run P w=.ok (.slice base (sLen+m) sCap) w':=by
 cases base with
 | none =>
  have:=hno rfl
  subst this
  simp only [Builtin.append_]
  simp [run_underlying ht,run_underlying hu,sizeOf,typeInfo,hi,hlen]
  cases d with
  | int k=>exact absurd rfl (hd k)
  | _=>simp [hfit,hnew]
 | some a =>
  have h:=hst a rfl
  simp only [Builtin.append_]
  simp [run_underlying ht,run_underlying hu,sizeOf,typeInfo,hi,hlen]
  cases d with
  | int k=>exact absurd rfl (hd k)
  | _=>simp [hfit,hnew,h]
theorem run_ap_grows {w:World} {t u ty e:TypeId} {i:TypeInfo} {d:TypeDesc} {z:Value} (ht:P.underlying t=some (.slice e)) (hu:P.underlying u=some d) (hd:∀k,d≠.int k) (hi:P.info? e=some i) (hz:i.zero=some z)
  {xv:Value} {m:Nat} {news olds:List Value} (hlen:(Builtin.lenOf xv).run P w=.ok m w) (hnew:(Builtin.firstCells i.size m xv).run P w.drew=.ok news.toArray w.drew)
  {base:Option Addr} {sLen sCap:Nat} (hold:(Builtin.firstCells i.size sLen (.slice base sLen sCap)).run P w.drew=.ok olds.toArray w.drew) (hgr:sCap<sLen+m)
  (h63:((sLen+m:Nat):Int)≤9223372036854775807) (hfit:Builtin.nextslicecap (sLen+m) sCap*i.bytes≤281474976710656) :
  (Builtin.append_ #[t,u] ty #[.slice base sLen sCap,xv]).run P w =
   .ok (.slice (some ⟨w.heap.size,0,none⟩) (sLen+m) (grownCap w (sLen+m) sCap e)) (w.drew.alloc (.cells ((olds++news).toArray++Builtin.zeroCells z.cells (grownCap w (sLen+m) sCap e - (sLen+m))) e)):=by
 have hn:¬(sLen+m≤sCap):=by omega
 have h63':¬(9223372036854775807<((sLen:Int)+(m:Int))):=by omega
 have h48':¬(281474976710656<Builtin.nextslicecap (sLen+m) sCap*i.bytes):=by omega
 have e:∀Z:Array Value,(olds++news).toArray++Z=olds.toArray++(news.toArray++Z):=fun Z=>by rw [←Array.append_assoc];simp
 rw [e]
 simp only [Builtin.append_]
 simp [run_underlying ht,run_underlying hu,sizeOf,typeInfo,zeroValue,hi,hz,hlen,hn]
 cases d with
 | int k=>exact absurd rfl (hd k)
 | _=>simp [hn,h63',h48',Question.forced,hnew,hold,newRow,grownCap]
end
def apR (hp:CH) (nx k0 n:Nat) (x:AV) (l2:List (List AV)):Option (AV × (Nat × Chunk) × Nat) :=
 match x with
 | .e0=>some (.rw k0 0 l2.length,(k0,.rw 0 n l2),max nx (k0+1))
 | .rw k g len=>match gc hp k with
  | .rw g' n' l=>if g=g'∧n=n'∧len=l.length then some (.rw k (g+1) (len+l2.length),(k,.rw (g+1) n (l++l2)),nx) else none
  | _=>none
 | _=>none
def rowK:Bool→Chunk→Option (Nat × Nat × List (List AV))
 | false,.rw g n l=>some (g,n,l)
 | true,.rn g n l=>some (g,n,l)
 | _,_=>none
theorem rowK_eq {nb:Bool} {c:Chunk} {g n:Nat} {l:List (List AV)} (h:rowK nb c=some (g,n,l)):c=rowC nb g n l:=by
 cases nb<;>cases c<;>first | (cases h;done) | (simp only [rowK,Option.some.injEq,Prod.mk.injEq] at h;obtain ⟨rfl,rfl,rfl⟩:=h;rfl)
def apRN (nb:Bool) (hp:CH) (nx k0 n:Nat) (x:AV) (l2:List (List AV)):Option (AV × (Nat × Chunk) × Nat) :=
 match x with
 | .e0=>some (.rw k0 0 l2.length,(k0,rowC nb 0 n l2),max nx (k0+1))
 | .rw k g len=>match rowK nb (gc hp k) with
  | some (g',n',l)=>if g=g'∧n=n'∧len=l.length then some (.rw k (g+1) (len+l2.length),(k,rowC nb (g+1) n (l++l2)),nx) else none
  | none=>none
 | _=>none
theorem apR_N {hp:CH} {nx k0 n:Nat} {x:AV} {l2:List (List AV)}:apR hp nx k0 n x l2=apRN false hp nx k0 n x l2:=by
 cases x with
 | rw k g len =>
  simp only [apR,apRN]
  cases gc hp k<;>rfl
 | _=>rfl
theorem sl_readN {nb:Bool} {h:HP} {ρ:RO} {hp:CH} {n0:Nat} {w:World} (m:SatH h ρ hp n0 w) {k g len n:Nat} {v:Value} (r:Rel h ρ (.rw k g len) v) {l:List (List AV)} (hk:gc hp k=rowC nb g n l) (hl:len=l.length) :
  ∃a cap,v=.slice a l.length cap∧l.length≤cap∧∃q0,(∀(j:Nat) e,l[j]?=some e→e.length=q0) ∧
   (l≠[]→∃b o,a=some ⟨b,o,none⟩∧∀(j:Nat) e (q:Nat) x,l[j]?=some e→e[q]?=some x→∃u,w.cell? ⟨b,o+q0*j+q,none⟩=some u∧RR nb h ρ x u):=by
 cases nb with
 | false=>exact sl0_read m r (by simp [sl0,sl,hk,rowC,hl])
 | true=>exact sl_read m r (by simp [sl,hk,rowC,hl])
def apLen:AV→Nat
 | .rw _ _ len=>len
 | _=>0
theorem grownCap_le (w:World) (need old:Nat) (e:TypeId) (h:need≤9223372036854775807):need≤grownCap w need old e∧grownCap w need old e≤maxLen:=by
 have h1:w.tape w.drawn (.appendCap need old e) % (2 ^ 63 - need)<2 ^ 63 - need:=Nat.mod_lt _ (by omega)
 show need≤need+w.tape w.drawn (.appendCap need old e) % (2 ^ 63 - need)∧need+w.tape w.drawn (.appendCap need old e) % (2 ^ 63 - need)≤2 ^ 63 - 1
 omega
def OldP (ρ ρ':RO) (w w':World) (x:AV):Prop:=RLe ρ ρ'∧∀k g len,x=.rw k g len→ρ' k (g+1)=ρ k g∨∀b,b<w.heap.size→w'.heap[b]?=w.heap[b]?
theorem ap_coreN {nb:Bool} {P:Program} {C:Ctx} {st:St} {h:HP} {ρ:RO} {a:Act} {w:World} (S:Sat C st h ρ a w) {t u ty e:TypeId} {i:TypeInfo} {d:TypeDesc} {z:Value}
    (ht:P.underlying t=some (.slice e)) (hu:P.underlying u=some d) (hd:∀k,d≠.int k) (hi:P.info? e=some i) (hz:i.zero=some z) (hzs:z.cells.size=i.size)
    {x:AV} {xv yv:Value} (rx:Rel h ρ x xv) {l2:List (List AV)} {news:List Value}
    (hlen:∀w':World,w'.heap=w.heap→(Builtin.lenOf yv).run P w'=.ok l2.length w') (hnew:∀w':World,w'.heap=w.heap→(Builtin.firstCells i.size l2.length yv).run P w'=.ok news.toArray w')
    (hnl:news.length=l2.length*i.size) (hne:∀e∈l2,e.length=i.size) (hcells:∀(j:Nat) e (q:Nat) x,l2[j]?=some e→e[q]?=some x→∃u,news[i.size*j+q]?=some u∧RR nb h ρ x u) (hone:∀v∈news,v.oneCell'=true)
    (hsz:(apLen x+l2.length)*i.bytes≤140737488355328) (h63:apLen x+l2.length≤9223372036854775807)
    {α:AV} {kc:Nat × Chunk} {nx':Nat} {k0:Nat} (hk0:∀g,ρ k0 g=none) (hap:apRN nb st.hp st.n k0 i.size x l2=some (α,kc,nx')) :
    ∃v w',(Builtin.append_ #[t,u] ty #[xv,yv]).run P w=.ok v w'∧∀dd,∃ρ',Fr ρ ρ' k0∧Sat C ⟨EN.set st.env dd α,kc::st.hp,nx'⟩ h ρ' (a.put dd v) w'∧OldP ρ ρ' w w' x:=by
  -- a new block for chunk k,generation g
  have fresh:∀(k g len cap:Nat) (base:Option Addr) (olds:List Value) (l:List (List AV)),xv=.slice base len cap→len=l.length→apLen x=len→(Builtin.firstCells i.size len xv).run P w.drew=.ok olds.toArray w.drew→olds.length=len*i.size →
      (∀(j:Nat) e (q:Nat) x,l[j]?=some e→e[q]?=some x→∃u,olds[i.size*j+q]?=some u∧RR nb h ρ x u)→(∀e∈l,e.length=i.size)→cap<len+l2.length→len≤cap →
      ρ k g=none→(∀g',ρ k g'≠none→g'≤g)→Fr ρ (rset ρ k g (some w.heap.size,grownCap w (len+l2.length) cap e)) k0→nx'=max st.n (k+1) →
      α=.rw k g (len+l2.length)→kc=(k,rowC nb g i.size (l++l2))→∃v w',(Builtin.append_ #[t,u] ty #[xv,yv]).run P w=.ok v w'∧∀dd,∃ρ',Fr ρ ρ' k0∧Sat C ⟨EN.set st.env dd α,kc::st.hp,nx'⟩ h ρ' (a.put dd v) w'∧OldP ρ ρ' w w' x:=by
    intro k g len cap base olds l ex hll hal hold hol hoc hle hgr hlc hρ hgen hFr hnx eα ekc
    subst ex eα ekc
    have hfit := growslice_fits hgr (by rw [← hal]; exact hsz)
    have hrun := run_ap_grows (w := w) (ty := ty) ht hu hd hi hz (hlen w rfl) (hnew w.drew rfl) hold hgr (by have := h63; rw [hal] at this; omega) hfit
    obtain ⟨c1, c2⟩ := grownCap_le w (len + l2.length) cap e (by rw [← hal]; exact h63)
    generalize hcap:grownCap w (len+l2.length) cap e=gcap at *
    refine ⟨_, _, hrun, fun dd => ⟨rset ρ k g (some w.heap.size, gcap), hFr, ?_, rset_le _ hρ, fun _ _ _ _ => .inr fun b hb => heap_alloc_old w.drew _ b hb⟩⟩
    have hrle:=rset_le (some w.heap.size,gcap) hρ
    have hsat:(rowC nb g i.size (l++l2)).sat h (rset ρ k g (some w.heap.size,gcap)) (w.drew.alloc (.cells ((olds++news).toArray++Builtin.zeroCells z.cells (gcap - (len+l2.length))) e)) k:=by
      rw [rowC_sat]
      refine ⟨some w.heap.size, gcap, rset_same _ _ _ _, by simp; omega, c2, fun j e he => ?_, (fun hx => by cases hx), fun b hb => ?_⟩
      . rw [List.getElem?_append] at he
        split at he
        . exact hle e (List.mem_of_getElem? he)
        . exact hne e (List.mem_of_getElem? he)
      . cases hb
        refine ⟨_,_,heap_alloc_new w.drew _,?_,fun j y q β h1 h2=>?_⟩
        . simp [Builtin.zeroCells, hol, hnl, hzs]
          rw [←Nat.add_mul,←Nat.add_mul]
          congr 1
          omega
        . have hy : y.length = i.size := by
            rw [zlm] at h1
            split at h1
            . exact hle y (List.mem_of_getElem? h1)
            . exact hne y (List.mem_of_getElem? h1)
          have hq : q < i.size := by have := (List.getElem?_eq_some_iff.1 h2).1; omega
          have hbd:∀m,j<m→i.size*j+q<m*i.size:=by
            intro m hm
            have : i.size * j + i.size ≤ i.size * m := by rw [← Nat.mul_succ]; exact Nat.mul_le_mul_left _ hm
            rw [Nat.mul_comm m]
            omega
          rw [zlm] at h1
          split at h1
          . rename_i hj
            obtain ⟨v,g1,g2⟩:=hoc j y q β h1 h2
            refine ⟨v,?_,g2.mono (HLe.refl _) hrle⟩
            have:=hbd l.length hj
            have hlt : i.size * j + q < olds.length := by rw [hol, hll]; exact this
            rw [Array.getElem?_append]
            rw [if_pos (by simp; omega)]
            rw [List.getElem?_toArray,List.getElem?_append_left hlt]
            exact g1
          . rename_i hj
            obtain ⟨v,g1,g2⟩:=hcells (j - l.length) y q β h1 h2
            refine ⟨v,?_,g2.mono (HLe.refl _) hrle⟩
            have hjl:j - l.length<l2.length:=(zlb.1 h1).1
            have e1:i.size*j+q=len*i.size+(i.size*(j - l.length)+q):=by
              rw [hll,Nat.mul_sub,Nat.mul_comm l.length]
              have : i.size * l.length ≤ i.size * j := Nat.mul_le_mul_left _ (by omega)
              omega
            have hlt:i.size*(j - l.length)+q<news.length:=(zlb.1 g1).1
            rw [Array.getElem?_append]
            rw [if_pos (by simp; omega)]
            rw [List.getElem?_toArray, List.getElem?_append_right (by omega), hol, e1, Nat.add_sub_cancel_left]
            exact g1
    have hnl2 : ∀ b, live ρ st.hp b → b ≠ w.heap.size := fun b hb e => by have := S.mem.lt b hb; omega
    refine S.step (HLe.refl _) hrle ?_ ((Keeps.drew _ _).trans (Keeps.alloc _ _ _) (fun _ _ h => h)) (fun b hb => ?_) dd (.rw _ _ _ _ _ (some w.heap.size) (rset_same _ _ _ _) (by omega) (fun b hb => by cases hb; rfl))
    . refine SatH.put (S.mem.heap (w' := w.drew) rfl) k _ hrle (fun k' g' hk => rset_ne _ _ hk) (fun b hb _ => heap_alloc_old w.drew _ b hb) (by simp) hsat ?_ ?_ ?_
      . intro g2 b c hg hr
        rw [rowC_own] at hg
        cases hg
        rw [rset_same] at hr
        cases hr
        refine ⟨?_, by simp, fun k' g' c2 hk hg' hr => ?_⟩
        . cases hb : h w.heap.size with
          | none => rfl
          | some o => have := S.mem.hh _ _ hb; simp at this
        . exact hnl2 _ ⟨k', g', c2, hg', hr⟩ rfl
      . intro k' g' hk
        rw [rset_ne _ _ (by omega)]
        exact S.mem.fr k' g' (by omega)
      . intro g2 g' y e1 hr
        rw [rowC_rgen] at e1
        cases e1
        by_cases hgg:g'=g
        . omega
        . unfold rset at hr
          rw [if_neg (by omega)] at hr
          exact hgen g' (by rw [hr]; simp)
    . exact live_cons_new (B := w.heap.size) (fun b e => by cases e; exact Nat.le_refl _) (fun j e => by rw [rowC_own] at e; exact e) b hb
  unfold apRN at hap
  split at hap
  . -- an empty slice without capacity
    cases hap
    have exv : ∃ base, xv = .slice base 0 0 := by cases rx with | pu _ _ p => cases p with | e0 a => exact ⟨a, rfl⟩
    obtain ⟨base,rfl⟩:=exv
    have hρ:∀g,ρ k0 g=none:=hk0
    by_cases h0:l2=[]
    . subst h0
      have hnn : news = [] := by simpa using hnl
      subst hnn
      have hrun := run_ap_fits (w := w) (ty := ty) ht hu hd hi (hlen w rfl) (hnew w rfl) (base := base) (sLen := 0) (sCap := 0) (by simp) (w' := w) (fun a _ => by simp [storeCells]) (fun _ => rfl)
      refine ⟨_, _, hrun, fun dd => ⟨rset ρ k0 0 (none, 0), Fr.new _ _ _ _, ?_, rset_le _ (hk0 0), fun _ _ _ e => (by cases e)⟩⟩
      have hrle:=rset_le (none,0) (hρ 0)
      refine S.step (HLe.refl _) hrle ?_ (Keeps.refl _ _) (fun b hb => ?_) dd (.rw _ _ _ _ _ none (rset_same _ _ _ _) (by simp) (fun b hb => by cases hb))
      . refine S.mem.put k0 _ hrle (fun k' g' hk => rset_ne _ _ hk) (fun b _ _ => rfl) (Nat.le_refl _) ?_ ?_ ?_ ?_
        . rw [rowC_sat]
          exact ⟨none, 0, rset_same _ _ _ _, by simp, by unfold maxLen; omega, (fun j e h => by simp at h), (fun _ => rfl), (fun b hb => by cases hb)⟩
        . intro g b c hg hr
          rw [rowC_own] at hg
          cases hg
          rw [rset_same] at hr
          cases hr
        . intro k' g' hk
          rw [rset_ne _ _ (by omega)]
          exact S.mem.fr k' g' (by omega)
        . intro g2 g' y e1 hr
          rw [rowC_rgen] at e1
          cases e1
          by_cases hgg:g'=0
          . omega
          . unfold rset at hr
            rw [if_neg (by omega), hρ g'] at hr
            cases hr
      . rcases live_cons_new (B := w.heap.size) (fun b e => by cases e) (fun j e => by rw [rowC_own] at e; exact e) b hb with h1 | h1
        . exact .inl h1
        . exact .inr h1
    . have hpos : 0 < l2.length := List.length_pos_iff.2 h0
      refine fresh k0 0 0 0 base [] [] rfl rfl rfl ?_ (by simp) (fun j e q x h => by simp at h) (fun e h => (by cases h)) (by omega) (Nat.le_refl _) (hρ 0) (fun g' hg => absurd (hρ g') hg) (Fr.new _ _ _ _) (by omega) (by simp) (by simp)
      cases base with
      | none => simp [Builtin.firstCells]
      | some a => simpa using run_firstCells_some (P := P) w.drew i.size 0 a 0 0 [] (by simp) (fun j v h => by simp at h)
  . rename_i k g len
    split at hap
    . rename_i g' n' l hk
      have hk:=rowK_eq hk
      split at hap
      . rename_i hc
        obtain ⟨rfl,hnn',hll⟩:=hc
        cases hap
        have hck:=S.mem.ch k
        rw [hk,rowC_sat] at hck
        obtain ⟨ob,cap,h1,h2,h2',h3,h4,h5⟩:=hck
        have hls : ∀ e ∈ l, e.length = i.size := fun e he => by
          obtain ⟨j,hj,rfl⟩:=List.mem_iff_getElem.1 he
          rw [hnn']
          exact h3 j _ (by simp [hj])
        obtain ⟨base,cap',olds,exv,hlc,hol,hold,hoc⟩:=row_cellsR (P:=P) (sl_readN S.mem rx hk hll) hls
        have hcc:cap'=cap∧(∀b,ob=some b→base=some ⟨b,0,none⟩):=by
          subst exv
          cases rx with
          | pu _ _ p => cases p
          | rw _ _ _ _ _ ob' e1 hl1 ha => rw [h1] at e1; cases e1; exact ⟨rfl, ha⟩
        obtain ⟨rfl,hbase⟩:=hcc
        subst hll
        have hρ1:ρ k (g+1)=none:=by
          cases hx:ρ k (g+1) with
          | none => rfl
          | some y => have := S.mem.gens k g (g + 1) y (by rw [hk]; exact rowC_rgen ..) hx; omega
        have hkn:k<st.n:=by
          rcases Nat.lt_or_ge k st.n with hlt | hge
          . exact hlt
          . rw [S.mem.fr k g hge] at h1; cases h1
        by_cases hfit:l.length+l2.length≤cap'
        . -- there is room
          have hrle:RLe ρ (rset ρ k (g+1) (ob,cap')):=rset_le _ hρ1
          cases ob with
          | none =>
            have hc0:=h4 rfl
            have hl20 : l2 = [] := List.length_eq_zero_iff.1 (by omega)
            subst hl20
            have hnn0 : news = [] := by simpa using hnl
            subst hnn0
            have hrun := run_ap_fits (w := w) (ty := ty) ht hu hd hi (hlen w rfl) (hnew w rfl) (base := base) (sLen := l.length) (sCap := cap') (by simpa using hfit) (w' := w) (fun a _ => by simp [storeCells]) (fun _ => rfl)
            rw [exv]
            refine ⟨_, _, hrun, fun dd => ⟨rset ρ k (g + 1) (none, cap'), Fr.old h1 _ _ _, ?_, hrle, fun _ _ _ e => by cases e; exact .inl (by rw [rset_same]; exact h1.symm)⟩⟩
            refine S.step (HLe.refl _) hrle ?_ (Keeps.refl _ _) (fun b hb => ?_) dd (.rw _ _ _ _ _ none (rset_same _ _ _ _) (by simpa using hfit) (fun b hb => by cases hb))
            . refine S.mem.put k _ hrle (fun k' g' hk => rset_ne _ _ hk) (fun b _ _ => rfl) (Nat.le_refl _) ?_ ?_ ?_ ?_
              . rw [rowC_sat]
                exact ⟨none, cap', rset_same _ _ _ _, by simpa using hfit, h2', (fun j e he => by rw [List.append_nil] at he; rw [hnn']; exact h3 j e he), h4, (fun b hb => by cases hb)⟩
              . intro g b c hg hr
                rw [rowC_own] at hg
                cases hg
                rw [rset_same] at hr
                cases hr
              . intro k' g' hk'
                rw [rset_ne _ _ (by omega)]
                exact S.mem.fr k' g' hk'
              . intro g2 g' y e1 hr
                rw [rowC_rgen] at e1
                cases e1
                by_cases hgg:g'=g+1
                . omega
                . unfold rset at hr
                  rw [if_neg (by omega)] at hr
                  have := S.mem.gens k g g' y (by rw [hk]; exact rowC_rgen ..) hr
                  omega
            . rcases live_cons_new (B := w.heap.size) (fun b e => by cases e) (fun j e => by rw [rowC_own] at e; exact e) b hb with h1 | h1
              . exact .inl h1
              . exact .inr h1
          | some b =>
            have hb:=hbase b rfl
            subst hb
            obtain ⟨old,te,a1,a2,a3⟩:=h5 b rfl
            have hlive : live ρ st.hp b := ⟨k, g, cap', by rw [hk, rowC_own], h1⟩
            have hroom:l.length*i.size+news.length≤old.size:=by
              rw [hnl,a2,←hnn',←Nat.add_mul]
              exact Nat.mul_le_mul_right _ hfit
            have hst := run_storeCells_at (P := P) b (l.length * i.size) te news 0 old w a1 (by omega) hone
            simp only [Nat.add_zero] at hst
            have hrun:=run_ap_fits (w:=w) (ty:=ty) ht hu hd hi (hlen w rfl) (hnew w rfl) (base:=some ⟨b,0,none⟩) (sLen:=l.length) (sCap:=cap') hfit
              (fun a' ha' => by cases ha'; rw [Addr.add_lit, Nat.zero_add]; exact hst) (fun hx => by cases hx)
            rw [exv]
            refine ⟨_, _, hrun, fun dd => ⟨rset ρ k (g + 1) (some b, cap'), Fr.old h1 _ _ _, ?_, hrle, fun _ _ _ e => by cases e; exact .inl (by rw [rset_same]; exact h1.symm)⟩⟩
            refine S.step (HLe.refl _) hrle ?_ (Keeps.setRow _ _ _ hlive) (fun b2 hb2 => ?_) dd (.rw _ _ _ _ _ (some b) (rset_same _ _ _ _) (by omega) (fun b2 hb2 => by cases hb2; rfl))
            . refine S.mem.put k _ hrle (fun k' g' hk => rset_ne _ _ hk) (fun b2 hb2 hx => ?_) (by simp) ?_ ?_ ?_ ?_
              . apply setRow_other
                intro e2
                subst e2
                rcases hx with hx | ⟨k2,g2,c2,hne2,hg2,hr2⟩
                . exact hx (S.mem.hid _ hlive)
                . exact hne2 (S.mem.inj k2 k g2 g _ _ _ hg2 (by rw [hk, rowC_own]) hr2 h1)
              . rw [rowC_sat]
                refine ⟨some b, cap', rset_same _ _ _ _, by simpa using hfit, h2', fun j y hy => ?_, (fun hx => by cases hx), fun b2 hb2 => ?_⟩
                . rw [List.getElem?_append] at hy
                  split at hy
                  . exact hls y (List.mem_of_getElem? hy)
                  . exact hne y (List.mem_of_getElem? hy)
                . cases hb2
                  refine ⟨_,te,setRow_heap w b old _ te _ a1,?_,fun j y q β g1 g2=>?_⟩
                  . simp
                    rw [←hnn'] at a2
                    omega
                  . have hy : y.length = i.size := by
                      rw [zlm] at g1
                      split at g1
                      . exact hls y (List.mem_of_getElem? g1)
                      . exact hne y (List.mem_of_getElem? g1)
                    have hq : q < i.size := by have := (List.getElem?_eq_some_iff.1 g2).1; omega
                    have hbd:∀m,j<m→i.size*j+q<m*i.size:=by
                      intro m hm
                      have : i.size * j + i.size ≤ i.size * m := by rw [← Nat.mul_succ]; exact Nat.mul_le_mul_left _ hm
                      rw [Nat.mul_comm m]
                      omega
                    have hmin : min (l.length * i.size) old.size = l.length * i.size := by omega
                    rw [zlm] at g1
                    rw [List.getElem?_toArray,List.append_assoc,zlm]
                    simp only [List.length_take,Array.length_toList,hmin]
                    split at g1
                    . rename_i hj
                      rw [if_pos (hbd _ hj),List.getElem?_take,if_pos (hbd _ hj)]
                      obtain ⟨v,z1,z2⟩:=a3 j y q β g1 g2
                      refine ⟨v,?_,z2.mono (HLe.refl _) hrle⟩
                      rw [hnn']
                      simpa using z1
                    . rename_i hj
                      obtain ⟨v,z1,z2⟩:=hcells (j - l.length) y q β g1 g2
                      have e1:i.size*j+q=l.length*i.size+(i.size*(j - l.length)+q):=by
                        rw [Nat.mul_sub,Nat.mul_comm l.length]
                        have : i.size * l.length ≤ i.size * j := Nat.mul_le_mul_left _ (by omega)
                        omega
                      have hlt:i.size*(j - l.length)+q<news.length:=(zlb.1 z1).1
                      refine ⟨v,?_,z2.mono (HLe.refl _) hrle⟩
                      rw [if_neg (by omega), List.getElem?_append, if_pos (by omega), e1, Nat.add_sub_cancel_left]
                      exact z1
              . intro g2 b2 c2 hg2 hr2
                rw [rowC_own] at hg2
                cases hg2
                rw [rset_same] at hr2
                cases hr2
                refine ⟨S.mem.hid _ hlive, by simpa using S.mem.lt _ hlive, fun k2 g3 c3 hne2 hg3 hr3 => ?_⟩
                exact hne2 (S.mem.inj k2 k g3 g _ _ _ hg3 (by rw [hk, rowC_own]) hr3 h1)
              . intro k' g' hk'
                rw [rset_ne _ _ (by omega)]
                exact S.mem.fr k' g' hk'
              . intro g2 g' y e1 hr
                rw [rowC_rgen] at e1
                cases e1
                by_cases hgg:g'=g+1
                . omega
                . unfold rset at hr
                  rw [if_neg (by omega)] at hr
                  have := S.mem.gens k g g' y (by rw [hk]; exact rowC_rgen ..) hr
                  omega
            . obtain ⟨k2, g2, c2, e2, r2⟩ := hb2
              by_cases hkk:k=k2
              . subst hkk
                rw [gc_cons_same,rowC_own] at e2
                cases e2
                rw [rset_same] at r2
                cases r2
                exact .inl hlive
              . rw [gc_cons_ne hkk] at e2
                rw [rset_ne _ _ (fun e => hkk e.symm)] at r2
                exact .inl ⟨k2,g2,c2,e2,r2⟩
        . -- it grows
          refine fresh k (g + 1) l.length cap' base olds l exv rfl rfl (hold w.drew rfl) hol hoc hls (by omega) hlc hρ1 (fun g' hg => ?_) (Fr.old h1 _ _ _) (by omega) rfl rfl
          cases hx:ρ k g' with
          | none => exact absurd hx hg
          | some y => have := S.mem.gens k g g' y (by rw [hk]; exact rowC_rgen ..) hx; omega
      . cases hap
    . cases hap
  . cases hap
end Go.Eng
