/- Proof. Conditions: none. -/
import Derived.Test.YtinbodeocoeneaaGreatDoorIc7
open List renaming mem_of_getElem?→zla,getElem?_eq_some_iff→zlb,getElem?_eq_getElem→zlg,getElem?_append→zlm
open Nat renaming le_refl→zna,mul_le_mul_left→zne
namespace Go.Eng
set_option linter.all false
theorem csrc_single {N:Nat} {l:List Operand} {x:Src} (e:srcs N l=some [x]):∃y,l=[y]∧csrc N y=some x:=by
 cases l with
 | nil=>simp [srcs] at e
 | cons y r =>
  unfold srcs at e
  split at e
  .rename_i s l' h1 h2
   cases e
   cases r with
   | nil=>exact ⟨y,rfl,h1⟩
   | cons z r =>
    unfold srcs at h2
    split at h2<;>cases h2
  .cases e
theorem csrc_pair {N:Nat} {l:List Operand} {x x':Src} (e:srcs N l=some [x,x']):∃y y',l=[y,y']∧csrc N y=some x∧csrc N y'=some x':=by
 cases l with
 | nil=>simp [srcs] at e
 | cons y r =>
  unfold srcs at e
  split at e
  .rename_i s l' h1 h2
   cases e
   obtain ⟨y',rfl,h3⟩:=csrc_single h2
   exact ⟨y,y',rfl,h1,h3⟩
  .cases e
theorem run_eq_nil {P:Program} (w:World) (d:Nat) {t e:TypeId} (a:Option Addr) (l c:Nat) (h:P.underlying t=some (.slice e)):(Op.equalIn (d+1) t (.slice a l c) (.slice none 0 0)).run P w=.ok a.isNone w:=by
 cases a<;>simp [Op.equalIn,run_underlying h]
theorem run_eql_nil {P:Program} (w:World) {t e:TypeId} (a:Option Addr) (l c:Nat) (h:P.underlying t=some (.slice e)):(binOp .eql t (.slice a l c) (.slice none 0 0)).run P w=.ok (.bool a.isNone) w:=by
 have:=run_eq_nil w 9999 a l c h
 show (do pure (Value.bool (←Op.equalIn 10000 t (.slice a l c) (.slice none 0 0))):Sem Value).run P w=_
 rw [Sem.run_bind,this]
 rfl
theorem run_neq_nil {P:Program} (w:World) {t e:TypeId} (a:Option Addr) (l c:Nat) (h:P.underlying t=some (.slice e)):(binOp .neq t (.slice a l c) (.slice none 0 0)).run P w=.ok (.bool (!a.isNone)) w:=by
 have:=run_eq_nil w 9999 a l c h
 show (do pure (Value.bool (!(←Op.equalIn 10000 t (.slice a l c) (.slice none 0 0)))):Sem Value).run P w=_
 rw [Sem.run_bind,this]
 rfl
theorem nl_rel {h : HP} {ρ : RO} {hp : CH} {n0 : Nat} {w : World} (mm : SatH h ρ hp n0 w) {α : AV} {v : Value} (r : Rel h ρ α v) {neg : Bool} {K : Bool → Prop} (k : nlK hp α neg K) : ∃ (a : Option Addr) (len cap : Nat), v = .slice a len cap ∧ K (match neg with | true => !a.isNone | false => a.isNone) := by
  have both : ∀ b : Bool, K (!neg) ∧ K neg → K (match neg with | true => !b | false => b) := by
    intro b h
    cases neg<;>cases b<;>first | exact h.1 | exact h.2
  cases α with
  | ds l =>
    cases r with
    | pu _ _ p =>
      cases p with
      | ds _ q0 a cap _ _ _ _ hm =>
        refine ⟨a,_,_,rfl,?_⟩
        by_cases hl:l=[]
        . exact both _ ⟨k.1 hl, k.2⟩
        . obtain ⟨b, off, rfl, _⟩ := hm hl
          cases neg<;>exact k.2
  | e0 => cases r with | pu _ _ p => cases p with | e0 a => exact ⟨_, _, _, rfl, both _ k⟩
  | rw g i len =>
    cases r with
    | pu _ _ p => cases p
    | rw _ _ _ cap a ob e hl ha =>
      refine ⟨a,_,_,rfl,?_⟩
      cases a with
      | some a => cases neg <;> exact k.2
      | none =>
        refine both _ ⟨k.1 ?_,k.2⟩
        have ho:ob=none:=by
          cases ob with
          | none => rfl
          | some b => have := ha b rfl; cases this
        have hk:=mm.ch g
        unfold nlZ
        split
        . rename_i g' n' l' hg
          intro eg
          subst eg
          rw [hg] at hk
          obtain ⟨ob',cap',h1,h2,h2',h3,h4,h5⟩:=hk
          rw [e] at h1
          cases h1
          have:=h4 ho
          omega
        . rename_i g' n' l' hg
          intro eg
          subst eg
          rw [hg] at hk
          obtain ⟨ob',cap',h1,h2,h2',h3,h4,h5⟩:=hk
          rw [e] at h1
          cases h1
          have:=h4 ho
          omega
        . trivial
  | _ => exact k.elim
theorem run_store {P:Program} {w w':World} {t:TypeId} {b off:Nat} {v:Value} (hz:tySz P t=some v.cells.size) (h:(storeCells ⟨b,off,none⟩ v.cells.toList).run P w=.ok () w') :
  (Instr.storeAt t (.pointer (some ⟨b,off,none⟩)) v).run P w=.ok () w':=by
 simp [Instr.storeAt,Instr.sureAddr,storeVar,run_sizeOf' hz,h]
theorem run_ms {P:Program} {w:World} {t e:TypeId} {i:TypeInfo} {z:Value} (ht:P.underlying t=some (.slice e)) (hi:P.info? e=some i) (hz:i.zero=some z) (hzs:z.cells.size=i.size)
  {k1 k2:IntKind} {x y:Int} (h0:0≤x) (h1:x≤y) (h2:y*i.bytes≤140737488355328) (h3:y≤9223372036854775807) :
  ∃cs:Array Value,(Instr.makeSlice t (.int k1 x) (.int k2 y)).run P w=.ok (.slice (some ⟨w.heap.size,0,none⟩) x.toNat y.toNat) (w.alloc (.cells cs e))∧cs.size=y.toNat*i.size ∧
   ∀(j q:Nat),j<y.toNat→q<i.size→cs[i.size*j+q]?=z.cells[q]?:=by
 have wx:IntKind.i64.wrap x=x:=by simp [IntKind.wrap,IntKind.bits,IntKind.signed];omega
 have wy:IntKind.i64.wrap y=y:=by simp [IntKind.wrap,IntKind.bits,IntKind.signed];omega
 refine ⟨(Array.range (y.toNat*i.size)).map (z.cells[· % z.cells.size]!),?_,by simp,fun j q hj hq=>?_⟩
 .have c1:¬(281474976710656<(i.bytes:Int)*y):=by rw [Int.mul_comm];omega
  have c2:¬x<0:=by omega
  have c3:¬y<x:=by omega
  have c4:¬y<0:=by omega
  have hzr:(zeroValue e).run P w=.ok z w:=by simp [zeroValue,typeInfo,hi,hz]
  have hsz:(sizeOf e).run P w=.ok i.size w:=by simp [sizeOf,typeInfo,hi]
  by_cases hn:y.toNat*i.size=0
  .simp only [Instr.makeSlice]
   simp [run_underlying ht,asInt,asIntOf,typeInfo,hi,wx,wy,c1,c2,c3,c4,hsz,hn,newRow,show Array.range 0=#[] from rfl]
  .simp only [Instr.makeSlice]
   simp [run_underlying ht,asInt,asIntOf,typeInfo,hi,wx,wy,c1,c2,c3,c4,hsz,hn,newRow,hzr]
 .have hlt:i.size*j+q<y.toNat*i.size:=by
   have:i.size*j+i.size≤i.size*y.toNat:=by rw [←Nat.mul_succ];exact zne _ hj
   rw [Nat.mul_comm y.toNat]
   omega
  simp [hlt,hzs]
  rw [Nat.mod_eq_of_lt hq]
  simp [hzs,hq]
theorem partsN_rel {h:HP} {ρ:RO} {n:Nat}:∀{l:List AV} {out:List (List AV)} {vs:List Value},RelL h ρ l vs→partsN n l=some out →
  out.length=vs.length∧(∀e∈out,e.length=n)∧(∀v∈vs,v.cells.size=n∧∀u∈v.cells.toList,u.oneCell'=true) ∧
   ∀(j:Nat) e v (q:Nat) α u,out[j]?=some e→vs[j]?=some v→e[q]?=some α→v.cells[q]?=some u→Rel h ρ α u:=by
 intro l
 induction l with
 | nil =>
  intro out vs r e
  simp [partsN] at e
  subst e
  have:vs=[]:=by have:=r.1;simpa using this.symm
  subst this
  exact ⟨rfl,(fun e h=>(by cases h)),(fun v h=>(by cases h)),(fun j e v q α u h=>by simp at h)⟩
 | cons α l ih =>
  intro out vs r e
  cases vs with
  | nil=>have:=r.1;simp at this
  | cons v vs =>
   unfold partsN at e
   split at e
   .rename_i cs l2 e1 e2
    split at e
    .rename_i hlen
     cases e
     have rc:=AV.cl_rel (r.2 0 α v rfl rfl) e1
     obtain ⟨i1,i2,i3,i4⟩:=ih (out:=l2) (vs:=vs) ⟨by have:=r.1;simpa using this,fun j α v h1 h2=>r.2 (j+1) α v (by simpa using h1) (by simpa using h2)⟩ e2
     refine ⟨by simp [i1],fun e he=>?_,fun u hu=>?_,fun j e u q β x h1 h2 h3 h4=>?_⟩
     .rcases List.mem_cons.1 he with rfl | he
      .exact hlen.1
      .exact i2 e he
     .rcases List.mem_cons.1 hu with rfl | hu
      .exact ⟨by have:=rc.1;simp at this;omega,ones_rel rc hlen.2⟩
      .exact i3 u hu
     .cases j with
      | zero=>simp at h1 h2;subst h1;subst h2;exact rc.2 q β x h3 (by simpa using h4)
      | succ j=>exact i4 j e u q β x (by simpa using h1) (by simpa using h2) h3 h4
    .cases e
   .cases e
theorem nst_sl {hp:CH} {α:AV} {l:List (List AV)} (h:nst hp α=some l):sl hp α=some l:=by
 unfold nst at h
 split at h
 .rename_i k g len
  split at h
  .rename_i g' n l' hk
   simp [sl,hk,h]
  .cases h
 .cases h
def Post3 (c:COp) (st:St) (h h':HP) (ρ ρ':RO) (k0:Nat) (w w':World):Prop :=
 (c.isC=false→Fr ρ ρ' k0)∧∀x y n b,c=.ap x y n b→h'=h∧OldP ρ ρ' w w' (fet (x.ev st.env))
theorem runAt_sound {P:Program} {C:Ctx} {st:St} {a:Act} {w:World} {ops:List Oper} {o:Oper} {c:COp} {g:Option (Nat × Bool)} (hc:cop P C.N ops o=some c) {K:St→Prop} {k0:Nat} {dp:List Nat} {fz:Bool} (hv:vcRun P k0 ⟨o.dst,c,g,dp,fz⟩ st K) {h:HP} {ρ:RO} (S:Sat C st h ρ a w) (hk0:∀g,ρ k0 g=none) (Q:Exit→Act→World→Prop) :
    o.wp P a w (fun a' w'=>∃st' h' ρ',K st'∧Sat C st' h' ρ' a' w'∧Post3 c st h h' ρ ρ' k0 w w') Q:=by
  obtain ⟨hobsB,hv⟩:=hv
  have hobs := COp.obsB_obs (p := True) (fun _ => rfl) hobsB
  have mm:=S.mem
  -- an operation that yields a value
  have yields:∀v w',(execOp a.eval o).run P w=.ok (.value v) w'→(∃st' h' ρ',K st'∧Sat C st' h' ρ' (a.put o.dst v) w'∧Post3 c st h h' ρ ρ' k0 w w')→o.wp P a w (fun a' w'=>∃st' h' ρ',K st'∧Sat C st' h' ρ' a' w'∧Post3 c st h h' ρ ρ' k0 w w') Q:=by
    intro v w' e hx
    unfold Oper.wp
    rw [e]
    exact hx
  by_cases hval:c.isV=true
  . have hv' : c.pre st.hp (fun s => fet (s.ev st.env)) ∧ match c.val st.hp (fun s => fet (s.ev st.env)) with
      | some α=>K ⟨EN.set st.env o.dst α,st.hp,st.n⟩
      | none => False := by cases c <;> first | exact valK_val hv | (simp [COp.isV] at hval)
    obtain ⟨hpre,hk⟩:=hv'
    cases hvl : c.val st.hp (fun s => fet (s.ev st.env)) with
    | none => rw [hvl] at hk; exact hk.elim
    | some α =>
      rw [hvl] at hk
      obtain ⟨v,h1,h2⟩:=val_sound (P:=P) S trivial hc hval hobs hpre hvl
      exact yields v w h1 ⟨_, h, ρ, hk, S.val o.dst h2, ⟨fun _ => Fr.refl _ _, fun _ _ _ _ e => by subst e; simp [COp.isV] at hval⟩⟩
  . unfold cop at hc
    have contra:∀{α:Type} {x:Option α} {f:α→COp},(∀y,(f y).isV=true)→x.map f=some c→False:=by
      intro α x f hf e
      cases x with
      | none => cases e
      | some y => simp at e; subst e; exact hval (hf y)
    split at hc
    . exact (contra (fun _ => rfl) hc).elim
    . exact (contra (fun _ => rfl) hc).elim
    . split at hc
      . cases hc; exact absurd rfl hval
      . cases hc
    . split at hc
      . split at hc
        . exact (contra (fun _ => rfl) hc).elim
        . cases hc
      . split at hc
        . split at hc
          . exact (contra (fun _ => rfl) hc).elim
          . cases hc
        . cases hc
      . cases hc
    . split at hc
      . split at hc
        . cases hc
        . cases hc; exact absurd rfl hval
      . cases hc
    . rename_i op t x y yt ho
      split at hc
      . rename_i sx sy ex ey
        split at hc
        . cases hc; exact absurd rfl hval
        . split at hc
          . split at hc
            . split at hc
              . cases hc; exact absurd rfl hval
              . cases hc
            . split at hc
              . cases hc; exact absurd rfl hval
              . cases hc
            . cases hc
          . rename_i e hu
            unfold nlC at hc
            split at hc
            . cases hc
              obtain ⟨aa,len,cap,ev,hK⟩:=nl_rel S.mem (src_rel S trivial ex hobs) hv
              refine yields (.bool aa.isNone) w ?_ ⟨_, h, ρ, hK, S.val o.dst (.pu _ _ (.b _)), ⟨fun _ => Fr.refl _ _, fun _ _ _ _ e => (by cases e)⟩⟩
              have e2:a.eval (.const (.slice none 0 0))=.slice none 0 0:=rfl
              simp only [execOp,ho,ev,e2]
              simp [eqGuard,run_eql_nil w aa len cap hu]
            . cases hc
              obtain ⟨aa,len,cap,ev,hK⟩:=nl_rel S.mem (src_rel S trivial ex hobs) hv
              refine yields (.bool (!aa.isNone)) w ?_ ⟨_, h, ρ, hK, S.val o.dst (.pu _ _ (.b _)), ⟨fun _ => Fr.refl _ _, fun _ _ _ _ e => (by cases e)⟩⟩
              have e2:a.eval (.const (.slice none 0 0))=.slice none 0 0:=rfl
              simp only [execOp,ho,ev,e2]
              simp [eqGuard,run_neq_nil w aa len cap hu]
            . cases hc
          . cases hc
      . cases hc
    . exact (contra (fun _ => rfl) hc).elim
    . split at hc
      . cases hc; exact absurd rfl hval
      . cases hc; exact absurd rfl hval
      . split at hc
        . split at hc
          . cases hc; exact absurd rfl hval
          . cases hc
        . cases hc
      . cases hc
    . split at hc
      . cases hc
      . cases hc; exact absurd rfl hval
      . cases hc
    . split at hc
      . exact (contra (fun _ => rfl) hc).elim
      . cases hc
    . split at hc
      . cases hc
      . split at hc
        . split at hc
          . exact (contra (fun _ => rfl) hc).elim
          . cases hc
        . cases hc
      . cases hc
    . exact (contra (fun _ => rfl) hc).elim
    . split at hc
      . split at hc
        . split at hc
          . cases hc
          . cases hc; exact absurd rfl hval
        . cases hc
      . cases hc
    . split at hc
      . split at hc
        . split at hc
          . cases hc
          . cases hc; exact absurd rfl hval
        . cases hc
      . cases hc
    . split at hc
      . exact (contra (fun _ => rfl) hc).elim
      . cases hc
    . split at hc
      . cases hc; exact absurd rfl hval
      . split at hc
        . split at hc
          . cases hc
          . cases hc; exact absurd rfl hval
        . cases hc
      . cases hc
    . split at hc
      . exact (contra (fun _ => rfl) hc).elim
      . cases hc; exact absurd rfl hval
      . cases hc
    . split at hc
      . split at hc
        . exact (contra (fun _ => rfl) hc).elim
        . cases hc
      . cases hc
    . -- alloc
      rename_i t ho
      split at hc
      . rename_i i hi
        split at hc
        . rename_i z hz
          rcases alC_or hc with ⟨zl,ec,rfl⟩ | ⟨e,rfl,hze⟩
          . obtain ⟨ρ', hF, S'⟩ := box_step S hk0 o.dst (vs := z.cells) t (cavs_rel ec h ρ)
            refine yields _ _ ?_ ⟨_, h, ρ', hv, S', ⟨fun _ => hF, fun _ _ _ _ e => (by cases e)⟩⟩
            simp [execOp,ho,Instr.alloc,zeroValue,typeInfo,hi,hz,newVar,newRow]
          . subst hze
            simp only at hv
            have hle:=rset_le (some w.heap.size,0) (hk0 0)
            have hs:(Chunk.sb t e 0 ⟨#[]⟩).sat h (rset ρ k0 0 (some w.heap.size,0)) (w.alloc (.cells #[.pointer none,.slice none 0 0] t)) k0 :=
              ⟨w.heap.size, 0, _, _, rset_same _ _ _ _, heap_alloc_new w _, .inl rfl, ⟨rfl, .inl ⟨rfl, rfl⟩⟩, (fun e => (by cases e)), ⟨_, rset_same _ _ _ _⟩, fun b2 e2 => (by cases e2)⟩
            obtain ⟨m,_⟩:=S.mem.new hk0 (.sb t e 0 ⟨#[]⟩) (.cells #[.pointer none,.slice none 0 0] t) 0 hs
            refine yields (.pointer (some ⟨w.heap.size, 0, none⟩)) (w.alloc (.cells #[.pointer none, .slice none 0 0] t)) ?_ ⟨_, h, _, hv, S.step (HLe.refl _) hle m (Keeps.alloc _ _ _) (fun b hb => ?_) o.dst (.bx _ _ _ _ (rset_same _ _ _ _)), ⟨fun _ => Fr.new _ _ _ _, fun _ _ _ _ e => (by cases e)⟩⟩
            . simp [execOp, ho, Instr.alloc, zeroValue, typeInfo, hi, hz, newVar, newRow, Value.cells]
            . exact live_cons_new (B := w.heap.size) (fun b e => by cases e; exact Nat.le_refl _) (fun j e => by rcases e with rfl | rfl <;> rfl) b hb
        . cases hc
      . cases hc
    . -- box
      rename_i t x ho
      cases ex:csrc C.N x with
      | none => simp [ex] at hc
      | some s =>
        simp [ex] at hc
        subst hc
        simp only at hv
        split at hv
        . rename_i cs hcs
          have r:=AV.cl_rel (src_rel S trivial ex hobs) hcs
          obtain ⟨ρ',hF,S'⟩:=box_step S hk0 o.dst (vs:=(a.eval x).cells) t r
          refine yields _ _ ?_ ⟨_, h, ρ', hv, S', ⟨fun _ => hF, fun _ _ _ _ e => (by cases e)⟩⟩
          simp [execOp,ho,Instr.box,newVar,newRow]
        . exact hv.elim
    . -- store
      rename_i t x y ho
      split at hc
      . rename_i sx sy m ex ey em
        cases hc
        simp only at hv
        split at hv
        . rename_i cs hcs
          obtain ⟨hlen,hone,hst⟩:=hv
          unfold stK at hst
          split at hst
          . rename_i k off hp0
            split at hst
            . rename_i old hk
              obtain ⟨hle,hK⟩:=hst
              have rp:=src_rel S trivial ex hobs.1
              rw [hp0] at rp
              have r:=AV.cl_rel (src_rel S trivial ey hobs.2) hcs
              obtain ⟨b,w',ev,hrun,hsat⟩:=store_step (P:=P) S hk rp hle r hone
              have hcsz : (a.eval y).cells.size = m := by have := r.1; simp at this; omega
              have hst:(execOp a.eval o).run P w=.ok .skip w':=by
                simp only [execOp,ho,ev]
                rw [←hcsz] at em
                simp [run_store em hrun]
              unfold Oper.wp
              rw [hst]
              exact ⟨_, h, ρ, hK, hsat o.dst, ⟨fun _ => Fr.refl _ _, fun _ _ _ _ e => (by cases e)⟩⟩
            . exact hst.elim
          . rename_i k g len n i off hp0
            split at hst
            . rename_i g' n' l hk
              obtain ⟨⟨rfl,rfl,hle,hpu⟩,e,he,hK⟩:=hst
              have rp:=src_rel S trivial ex hobs.1
              rw [hp0] at rp
              have r:=AV.cl_rel (src_rel S trivial ey hobs.2) hcs
              obtain ⟨b,ofs,w',ev,hrun,hsat⟩:=row_store_step (P:=P) S hk rp he hle r hpu
              have hcsz : (a.eval y).cells.size = m := by have := r.1; simp at this; omega
              have hst:(execOp a.eval o).run P w=.ok .skip w':=by
                simp only [execOp,ho,ev]
                rw [←hcsz] at em
                simp [run_store em hrun]
              unfold Oper.wp
              rw [hst]
              exact ⟨_, h, ρ, hK, hsat o.dst, ⟨fun _ => Fr.refl _ _, fun _ _ _ _ e => (by cases e)⟩⟩
            . rename_i g' n' l hk
              obtain ⟨⟨rfl,rfl,hle,hpu⟩,e,he,hK⟩:=hst
              have rp:=src_rel S trivial ex hobs.1
              rw [hp0] at rp
              have r:=AV.cl_rel (src_rel S trivial ey hobs.2) hcs
              obtain ⟨b,ofs,w',ev,hrun,hsat⟩:=row_store_stepN (nb:=true) (P:=P) S hk rp he hle r hpu
              have hcsz : (a.eval y).cells.size = m := by have := r.1; simp at this; omega
              have hst:(execOp a.eval o).run P w=.ok .skip w':=by
                simp only [execOp,ho,ev]
                rw [←hcsz] at em
                simp [run_store em hrun]
              unfold Oper.wp
              rw [hst]
              exact ⟨_, h, ρ, hK, hsat o.dst, ⟨fun _ => Fr.refl _ _, fun _ _ _ _ e => (by cases e)⟩⟩
            . exact hst.elim
          . exact hst.elim
        . exact hv.elim
      . cases hc
    . -- buildSlice
      rename_i t len ps ho
      split at hc
      . rename_i e l ee el
        split at hc
        . rename_i n en
          split at hc
          . rename_i hcond
            cases hc
            obtain ⟨c1,c2,c3,c4,c5⟩:=hcond
            simp only at hv
            cases fz with
            | true =>
              simp only at hv
              split at hv
              . rename_i out hout
                have r:=srcs_rel S trivial el hobs
                obtain ⟨p1,p2,p3,p4⟩:=partsN_rel r hout
                have hvl : ((ps.toList.map (·.2)).map a.eval).length = len := by simpa using c2
                obtain ⟨cs, hrun, hcs, hcc⟩ := run_buildSlice (P := P) w ee en c4 (len := len) (ps := ps.map fun (i, x) => (i, a.eval x)) (vs := (ps.toList.map (·.2)).map a.eval)
                  (by rw [Array.toList_map, inOrder_zip ps.toList 0 a.eval c1, List.map_map]; rfl) hvl c3 (fun v hv => (p3 v hv).1)
                have hexec:(execOp a.eval o).run P w=.ok (.value (.slice (some ⟨w.heap.size,0,none⟩) len len)) (w.alloc (.cells cs e)):=by
                  simp only [execOp,ho]
                  exact run_value hrun
                have hol : out.length = len := by rw [p1]; exact hvl
                have hn0:ρ k0 0=none:=hk0 0
                have hrle:=rset_le (some w.heap.size,len) hn0
                have hcell:∀(j:Nat) x (q:Nat) α,out[j]?=some x→x[q]?=some α→∃u,cs[n*j+q]?=some u∧Rel h (rset ρ k0 0 (some w.heap.size,len)) α u:=by
                  intro j x q α g1 g2
                  have hj : j < ((ps.toList.map (·.2)).map a.eval).length := by rw [← p1]; exact (List.getElem?_eq_some_iff.1 g1).1
                  have hv1:((ps.toList.map (·.2)).map a.eval)[j]?=some ((ps.toList.map (·.2)).map a.eval)[j]:=zlg hj
                  have hxl:=p2 x (zla g1)
                  have hq : q < n := by have := (List.getElem?_eq_some_iff.1 g2).1; omega
                  have hcv:=(p3 _ (List.getElem_mem hj)).1
                  have hq2 : q < (((ps.toList.map (·.2)).map a.eval)[j]).cells.size := by omega
                  refine ⟨(((ps.toList.map (·.2)).map a.eval)[j]).cells[q], ?_, (p4 j x _ q α _ g1 hv1 g2 (by simp [hq2])).mono (HLe.refl _) hrle⟩
                  rw [hcc j _ q hv1 hq]
                  simp [hq2]
                have hsat:(Chunk.rn 0 n out).sat h (rset ρ k0 0 (some w.heap.size,len)) (w.alloc (.cells cs e)) k0:=by
                  refine ⟨some w.heap.size, len, rset_same _ _ _ _, by omega, ?_, fun j x hx => p2 x (List.mem_of_getElem? hx), (fun hx => by cases hx), fun b hb => ?_⟩
                  . unfold maxLen
                    have : len * 1 ≤ len * n := Nat.mul_le_mul_left _ (by omega)
                    omega
                  . cases hb
                    exact ⟨cs,e,heap_alloc_new w _,hcs,hcell⟩
                obtain ⟨m2,_⟩:=S.mem.new hk0 (.rn 0 n out) (.cells cs e) len hsat
                refine yields _ _ hexec ⟨_, h, _, hv, S.step (HLe.refl _) hrle m2 (Keeps.alloc _ _ _) (fun b hb => ?_) o.dst ?_, ⟨fun _ => Fr.new _ _ _ _, fun _ _ _ _ e => (by cases e)⟩⟩
                . exact live_cons_new (B := w.heap.size) (fun b e => by cases e; exact Nat.le_refl _) (fun j e => by exact e) b hb
                . rw [hol]
                  exact .rw _ _ _ _ _ (some w.heap.size) (rset_same _ _ _ _) (Nat.le_refl _) (fun b hb => by cases hb; rfl)
              . exact hv.elim
            | false =>
              simp only at hv
              have r:=srcs_rel S trivial el hobs
              obtain ⟨h1, hle1, S1⟩ := Sat.shutP (l.map fun s => fet (s.ev st.env)) S
              have r1:=r.mono hle1 (RLe.refl _)
              split at hv
              . rename_i out hout
                obtain ⟨p1,p2,p3,p4⟩:=partsL_rel S1.mem r1 hout
                have hvl : ((ps.toList.map (·.2)).map a.eval).length = len := by simpa using c2
                obtain ⟨cs, hrun, hcs, hcc⟩ := run_buildSlice (P := P) w ee en c4 (len := len) (ps := ps.map fun (i, x) => (i, a.eval x)) (vs := (ps.toList.map (·.2)).map a.eval)
                  (by rw [Array.toList_map, inOrder_zip ps.toList 0 a.eval c1, List.map_map]; rfl) hvl c3 (fun v hv => (p3 v hv).1)
                have hexec:(execOp a.eval o).run P w=.ok (.value (.slice (some ⟨w.heap.size,0,none⟩) len len)) (w.alloc (.cells cs e)):=by
                  simp only [execOp,ho]
                  exact run_value hrun
                have hol : out.length = len := by rw [p1]; exact hvl
                have hcell:∀(j:Nat) x (q:Nat) α,out[j]?=some x→x[q]?=some α→∃u,cs[n*j+q]?=some u∧PRel h1 α u:=by
                  intro j x q α g1 g2
                  have hj : j < ((ps.toList.map (·.2)).map a.eval).length := by rw [← p1]; exact (List.getElem?_eq_some_iff.1 g1).1
                  have hv1:((ps.toList.map (·.2)).map a.eval)[j]?=some ((ps.toList.map (·.2)).map a.eval)[j]:=zlg hj
                  have hxl:=p2 x (zla g1)
                  have hq : q < n := by have := (List.getElem?_eq_some_iff.1 g2).1; omega
                  have hcv:=(p3 _ (List.getElem_mem hj)).1
                  have hq2 : q < (((ps.toList.map (·.2)).map a.eval)[j]).cells.size := by omega
                  refine ⟨(((ps.toList.map (·.2)).map a.eval)[j]).cells[q], ?_, p4 j x _ q α _ g1 hv1 g2 (by simp [hq2])⟩
                  rw [hcc j _ q hv1 hq]
                  simp [hq2]
                split at hv
                . -- nobody writes it
                  let h2 : HP := fun b => if b = w.heap.size then some (.cells cs e) else h1 b
                  have hnone:h1 w.heap.size=none:=by
                    cases hb:h1 w.heap.size with
                    | none => rfl
                    | some o => have := S1.mem.hh _ _ hb; simp at this
                  have hle2:HLe h1 h2:=by
                    intro b o eb
                    show (if b=w.heap.size then some (.cells cs e) else h1 b)=some o
                    rw [if_neg (fun e0 => by subst e0; rw [hnone] at eb; cases eb)]
                    exact eb
                  have m2 : SatH h2 ρ (shutP st.hp (l.map fun s => fet (s.ev st.env))) st.n (w.alloc (.cells cs e)) := by
                    have m1:=S1.mem
                    have hold : ∀ b, b < w.heap.size → (w.alloc (.cells cs e)).heap[b]? = w.heap[b]? := fun b hb => heap_alloc_old w _ b hb
                    refine ⟨fun b o eb => ?_, fun k => Chunk.sat_mono hle2 (RLe.refl _) (fun g b x e1 r1 => hold b (m1.lt b ⟨k, g, x, e1, r1⟩)) (m1.ch k), m1.inj, fun b hb => ?_, fun b hb => by have := m1.lt b hb; simp; omega, m1.fr, m1.gens, m1.glm hle2⟩
                    . change (if b = w.heap.size then some (.cells cs e) else h1 b) = some o at eb
                      split at eb
                      . rename_i hb
                        cases eb
                        subst hb
                        exact heap_alloc_new w _
                      . have := m1.hh b o eb
                        rw [hold b (Array.getElem?_eq_some_iff.1 this).1]
                        exact this
                    . show (if b = w.heap.size then some (.cells cs e) else h1 b) = none
                      have:=m1.lt b hb
                      rw [if_neg (by omega)]
                      exact m1.hid b hb
                  refine yields _ _ hexec ⟨_, h2, ρ, hv, S1.step hle2 (RLe.refl _) m2 (Keeps.alloc _ _ _) (fun b hb => .inl hb) o.dst (.pu _ _ ?_), ⟨fun _ => Fr.refl _ _, fun _ _ _ _ e => (by cases e)⟩⟩
                  rw [←hol]
                  refine .ds out n _ _ (fun j q => (cs[n * j + q]?).getD undef) (Nat.le_refl _) (fun j x hx => p2 x (List.mem_of_getElem? hx)) (fun j x q α g1 g2 => ?_) fun _ => ⟨_, _, rfl, fun j x q α g1 g2 => ?_⟩
                  . obtain ⟨u, z1, z2⟩ := hcell j x q α g1 g2
                    simp only [z1,Option.getD_some]
                    exact z2.mono hle2
                  . obtain ⟨u, z1, z2⟩ := hcell j x q α g1 g2
                    simp [cellAt,h2,z1]
                . -- a row of its own
                  have hn0:ρ k0 0=none:=hk0 0
                  have hrle:=rset_le (some w.heap.size,len) hn0
                  have hsat:(Chunk.rw 0 n out).sat h1 (rset ρ k0 0 (some w.heap.size,len)) (w.alloc (.cells cs e)) k0:=by
                    refine ⟨some w.heap.size, len, rset_same _ _ _ _, by omega, ?_, fun j x hx => p2 x (List.mem_of_getElem? hx), (fun hx => by cases hx), fun b hb => ?_⟩
                    . unfold maxLen
                      have : len * 1 ≤ len * n := Nat.mul_le_mul_left _ (by omega)
                      omega
                    . cases hb
                      exact ⟨cs,e,heap_alloc_new w _,hcs,hcell⟩
                  obtain ⟨m2,_⟩:=S1.mem.new hk0 (.rw 0 n out) (.cells cs e) len hsat
                  refine yields _ _ hexec ⟨_, h1, _, hv, S1.step (HLe.refl _) hrle m2 (Keeps.alloc _ _ _) (fun b hb => ?_) o.dst ?_, ⟨fun _ => Fr.new _ _ _ _, fun _ _ _ _ e => (by cases e)⟩⟩
                  . exact live_cons_new (B := w.heap.size) (fun b e => by cases e; exact Nat.le_refl _) (fun j e => by exact e) b hb
                  . rw [hol]
                    exact .rw _ _ _ _ _ (some w.heap.size) (rset_same _ _ _ _) (Nat.le_refl _) (fun b hb => by cases hb; rfl)
              . exact hv.elim
          . cases hc
        . cases hc
      . cases hc
    . -- makeSlice
      rename_i t l cp ho
      split at hc
      . rename_i sl sc e el ec ee
        split at hc
        . rename_i i hi
          split at hc
          . rename_i z hz
            split at hc
            . rename_i hzs
              cases ezl:cavs z.cells.toList with
              | none => simp [ezl] at hc
              | some zl =>
                simp [ezl] at hc
                subst hc
                simp only at hv
                split at hv
                . rename_i k1 x k2 y hx hy
                  obtain ⟨h0,h1,h2,h3,h4,h5,hK⟩:=hv
                  have rl:=src_rel S trivial el hobs.1
                  have rc:=src_rel S trivial ec hobs.2
                  rw [hx] at rl
                  rw [hy] at rc
                  obtain ⟨cs,hrun,hcs,hcc⟩:=run_ms (P:=P) (w:=w) (tyEl_inv ee) hi hz hzs (k1:=k1) (k2:=k2) h0 h1 h2 h3
                  have hexec:(execOp a.eval o).run P w=.ok (.value (.slice (some ⟨w.heap.size,0,none⟩) x.toNat y.toNat)) (w.alloc (.cells cs e)):=by
                    simp only [execOp,ho,rl.int,rc.int]
                    exact run_value hrun
                  have rz:=cavs_rel ezl h ρ
                  have hn0:ρ k0 0=none:=hk0 0
                  have hrle:=rset_le (some w.heap.size,y.toNat) hn0
                  have hsat:(Chunk.rw 0 i.size (List.replicate x.toNat zl)).sat h (rset ρ k0 0 (some w.heap.size,y.toNat)) (w.alloc (.cells cs e)) k0:=by
                    refine ⟨some w.heap.size, y.toNat, rset_same _ _ _ _, by simp; omega, by unfold maxLen; omega, fun j x hx => ?_, (fun hx => by cases hx), fun b hb => ?_⟩
                    . rw [List.getElem?_replicate] at hx
                      split at hx
                      . cases hx; exact h4
                      . cases hx
                    . cases hb
                      refine ⟨cs,e,heap_alloc_new w _,hcs,fun j xx q α g1 g2=>?_⟩
                      rw [List.getElem?_replicate] at g1
                      split at g1
                      . rename_i hj
                        cases g1
                        have hq : q < i.size := by have := (List.getElem?_eq_some_iff.1 g2).1; omega
                        have hq2 : q < z.cells.size := by omega
                        refine ⟨z.cells[q], ?_, purs_rel rz h5 g2 (by simp [hq2])⟩
                        rw [hcc j q (by omega) hq]
                        simp [hq2]
                      . cases g1
                  obtain ⟨m2,_⟩:=S.mem.new hk0 (.rw 0 i.size (List.replicate x.toNat zl)) (.cells cs e) y.toNat hsat
                  refine yields _ _ hexec ⟨_, h, _, hK, S.step (HLe.refl _) hrle m2 (Keeps.alloc _ _ _) (fun b hb => ?_) o.dst ?_, ⟨fun _ => Fr.new _ _ _ _, fun _ _ _ _ e => (by cases e)⟩⟩
                  . exact live_cons_new (B := w.heap.size) (fun b e => by cases e; exact Nat.le_refl _) (fun j e => by exact e) b hb
                  . exact .rw _ _ _ _ _ (some w.heap.size) (rset_same _ _ _ _) (by omega) (fun b hb => by cases hb; rfl)
                . exact hv.elim
            . cases hc
          . cases hc
        . cases hc
      . cases hc
    . exact (contra (fun _ => rfl) hc).elim
    . -- a new map
      rename_i t ho
      split at hc
      . split at hc
        . cases hc
          simp only at hv
          have hle:=rset_le (some w.heap.size,0) (hk0 0)
          have hs : (Chunk.mp []).sat h (rset ρ k0 0 (some w.heap.size, 0)) (w.alloc (.map #[] 0)) k0 := ⟨w.heap.size, 0, #[], 0, rset_same _ _ _ _, heap_alloc_new w _, rfl, fun j x α e => by simp at e⟩
          obtain ⟨m,_⟩:=S.mem.new hk0 (.mp []) (.map #[] 0) 0 hs
          refine yields (.map (some w.heap.size)) (w.alloc (.map #[] 0)) ?_ ⟨_, h, _, hv, S.step (HLe.refl _) hle m (Keeps.alloc _ _ _) (fun b hb => ?_) o.dst (.mp _ _ _ (rset_same _ _ _ _)), ⟨fun _ => Fr.new _ _ _ _, fun _ _ _ _ e => (by cases e)⟩⟩
          . simp only [execOp, ho]
            refine run_value ?_
            rfl
          . exact live_cons_new (B := w.heap.size) (fun b e => by cases e; exact Nat.le_refl _) (fun j e => by exact e) b hb
        . cases hc
      . cases hc
    . -- lookup
      split at hc
      . split at hc
        . split at hc
          . exact (contra (fun _ => rfl) hc).elim
          . cases hc
        . cases hc
      . cases hc
    . -- an entry of a map
      rename_i t xm xk xv ho
      split at hc
      . rename_i sm ss sx kt e em es ex et
        split at hc
        . rename_i ek
          cases hc
          simp only at hv
          unfold muK at hv
          split at hv
          . rename_i k b h1 h2
            split at hv
            . rename_i l hk
              obtain ⟨hpu,hK⟩:=hv
              have r1:=src_rel S trivial em hobs.1
              have r2:=src_rel S trivial es hobs.2.1
              have r3:=AV.purR_rel (src_rel S trivial ex hobs.2.2) hpu
              rw [h1] at r1
              rw [h2] at r2
              have e2:=r2.str
              generalize hev:a.eval xm=vv at r1
              cases r1 with
              | pu _ _ p => cases p
              | mp _ bb c e0 =>
                have hck:=S.mem.ch k
                rw [hk] at hck
                obtain ⟨b',c',ees,clock,q1,q2,q3⟩:=mp_mr hck
                rw [e0] at q1
                cases q1
                have hck2:=MapKept.run_checkKey (P:=P) (w:=w) ek (k:=.string b) trivial false 9999
                have hlive : live ρ st.hp bb := ⟨k, 0, c, by rw [hk]; rfl, e0⟩
                have fin:∀es' clock',MR h (mput b (fet (Src.ev st.env sx)) l) (Array.toList es')→(execOp a.eval o).run P w=.ok .skip { w with heap:=w.heap.setIfInBounds bb (.map es' clock') } →
                    o.wp P a w (fun a' w'=>∃st' h' ρ',K st'∧Sat C st' h' ρ' a' w'∧Post3 (.mu sm ss sx) st h h' ρ ρ' k0 w w') Q:=by
                  intro es' clock' hm hrun
                  unfold Oper.wp
                  rw [hrun]
                  obtain ⟨g1,g2⟩:=MapKept.heap_set (o':=Obj.map es' clock') q2
                  have hsz : w.heap.size ≤ (w.heap.setIfInBounds bb (Obj.map es' clock')).size := by simp
                  suffices hS:Sat C ⟨EN.set st.env o.dst .un,(k,.mp (mput b (fet (Src.ev st.env sx)) l))::st.hp,st.n⟩ h ρ (a.put o.dst undef) { w with heap:=w.heap.setIfInBounds bb (.map es' clock') } from
                    ⟨_, h, ρ, hK, hS, ⟨fun _ => Fr.refl _ _, fun _ _ _ _ e => (by cases e)⟩⟩
                  refine S.step (w' := { w with heap := w.heap.setIfInBounds bb (.map es' clock') }) (HLe.refl _) (RLe.refl _) (S.mem.put (w' := { w with heap := w.heap.setIfInBounds bb (.map es' clock') }) k _ (RLe.refl _) (fun _ _ _ => rfl) (fun b2 hb2 hx => ?_) hsz ?_ ?_ S.mem.fr ?_) ⟨rfl, rfl, rfl, hsz, fun b2 hb2 hx => ?_⟩ (fun b2 hb2 => .inl ?_) o.dst (.pu _ _ (.un _))
                  . refine g2 b2 fun e2 => ?_
                    subst e2
                    rcases hx with hx | ⟨k',g',c2,hne,hg,hr⟩
                    . exact hx (S.mem.hid _ hlive)
                    . exact hne (S.mem.inj k' k g' 0 _ _ _ hg (by rw [hk]; rfl) hr e0)
                  . exact ⟨bb, c, es', clock', e0, g1, by simpa using hm.1, fun j x α hj => by
                      obtain ⟨u,born,z1,z2⟩:=hm.2 j x α hj
                      exact ⟨u, born, by simpa using z1, z2⟩⟩
                  . intro g b2 c2 hg hr
                    cases hg
                    rw [e0] at hr
                    cases hr
                    refine ⟨S.mem.hid _ hlive, by simpa using S.mem.lt _ hlive, fun k' g' c3 hne hg' hr' => ?_⟩
                    exact hne (S.mem.inj k' k g' 0 _ _ _ hg' (by rw [hk]; rfl) hr' e0)
                  . intro g g' x e1
                    cases e1
                  . exact g2 b2 fun e2 => hx (e2 ▸ hlive)
                  . obtain ⟨k', g', c3, hg', hr'⟩ := hb2
                    by_cases hkk:k=k'
                    . subst hkk
                      rw [gc_cons_same] at hg'
                      exact ⟨k, g', c3, by rw [hk]; exact hg', hr'⟩
                    . rw [gc_cons_ne hkk] at hg'
                      exact ⟨k',g',c3,hg',hr'⟩
                rcases find_mp h b (fet (Src.ev st.env sx)) l ees.toList 0 q3 with ⟨m1,m2,m3⟩ | ⟨γ,j,v,m1,m2,_,m3,born,m4⟩
                . have hf := MapKept.run_findKey (P := P) (w := w) ek m2
                  refine fin (ees.push ⟨.string b,a.eval xv,clock⟩) (clock+1) ?_ ?_
                  . rw [m3]
                    refine ⟨by have := q3.1; simp at this ⊢; omega, fun j x α hj => ?_⟩
                    rw [zlm] at hj
                    have hl:=q3.1
                    split at hj
                    . rename_i hlt
                      obtain ⟨u,born,z1,z2⟩:=q3.2 j x α hj
                      exact ⟨u, born, by rw [Array.toList_push, List.getElem?_append, if_pos (by omega)]; exact z1, z2⟩
                    . rename_i hlt
                      have hj0:j - l.length=0:=by
                        have:=(zlb.1 hj).1
                        simp at this
                        omega
                      rw [hj0] at hj
                      simp at hj
                      obtain ⟨rfl,rfl⟩:=hj
                      exact ⟨a.eval xv, clock, by rw [Array.toList_push, List.getElem?_append, if_neg (by omega), show j - ees.toList.length = 0 by omega]; rfl, r3⟩
                  . simp only [execOp, ho]
                    rw [hev,e2]
                    simp [Instr.mapUpdate,run_underlying et,MapKept.run_getObj_map q2,MapKept.run_setObj_map _ q2,hck2,hf]
                . have hf := MapKept.run_findKey (P := P) (w := w) ek m2
                  simp only [Nat.zero_add] at hf
                  have hje : ees[j]? = some ⟨.string b, v, born⟩ := by simpa using m4
                  refine fin (ees.modify j fun e=>{ e with key:=.string b,val:=a.eval xv }) clock ?_ ?_
                  . rw [m3]
                    refine ⟨by have := q3.1; simp at this ⊢; omega, fun i x α hi => ?_⟩
                    rw [List.getElem?_set] at hi
                    split at hi
                    . rename_i hji
                      subst hji
                      split at hi
                      . simp only [Option.some.injEq, Prod.mk.injEq] at hi
                        obtain ⟨rfl,rfl⟩:=hi
                        exact ⟨a.eval xv, born, by simp [Array.getElem?_modify, hje], r3⟩
                      . cases hi
                    . rename_i hji
                      obtain ⟨u,born2,z1,z2⟩:=q3.2 i x α hi
                      exact ⟨u, born2, by simpa [Array.getElem?_modify, hji] using z1, z2⟩
                  . simp only [execOp, ho]
                    rw [hev,e2]
                    simp [Instr.mapUpdate,run_underlying et,MapKept.run_getObj_map q2,MapKept.run_setObj_map _ q2,hck2,hf,hje,Instr.keyThatStays,Instr.sameBits,bytes_dec]
            . exact hv.elim
          . exact hv.elim
        . cases hc
      . cases hc
    . -- calls
      rename_i cc ho
      have callStep:c.isC=true→∀(g:FuncId) (args:List AV) (vs:List Value),RelL h ρ args vs→(execOp a.eval o).run P w=(callFunc g vs.toArray).run P w →
          vcCall P g st.hp st.n args (fun hp' n' r=>K ⟨EN.set st.env o.dst r,hp',n'⟩)→o.wp P a w (fun a' w'=>∃st' h' ρ',K st'∧Sat C st' h' ρ' a' w'∧Post3 c st h h' ρ ρ' k0 w w') Q:=by
        intro hisC g args vs hr hx hcall
        obtain ⟨R,⟨⟨fn,hf,hnm,hb⟩,hm⟩,hk⟩:=hcall
        have:(execOp a.eval o).run P w=.ok (.enter g vs.toArray) w:=by
          rw [hx]
          simp only [callFunc,Sem.run_bind,run_program,Result.andThen_ok,hf,hnm,hb]
          rfl
        unfold Oper.wp
        rw [this]
        refine (hm h ρ w vs S.mem hr).mono fun e w' ⟨v,he,h',ρ',hp',n',r,hR,hh,hrl,hmem,hrel,hkeep,hlv⟩=>?_
        subst he
        exact ⟨_, h', ρ', hk hp' n' r hR, S.step hh hrl hmem hkeep hlv o.dst hrel, ⟨fun hx => (by rw [hisC] at hx; cases hx), fun _ _ _ _ e => by subst e; simp [COp.isC] at hisC⟩⟩
      have apStep:∀(nb:Bool) (y1 y2:Operand) (x y:Src) (t u e:TypeId) (i:TypeInfo) (d:TypeDesc) (z:Value),cc.callee=.builtin .append→cc.args.toList=[y1,y2]→cc.argTypes.toList=[t,u]→csrc C.N y1=some x →
          tyEl P t=some e→P.underlying u=some d→(∀k,d≠.int k)→P.info? e=some i→i.zero=some z→z.cells.size=i.size→ob True (x.ev st.env)→∀(l2:List (List AV)) (news:List Value),
          (∀w':World,w'.heap=w.heap→(Builtin.lenOf (a.eval y2)).run P w'=.ok l2.length w')→(∀w':World,w'.heap=w.heap→(Builtin.firstCells i.size l2.length (a.eval y2)).run P w'=.ok news.toArray w') →
          news.length=l2.length*i.size→(∀e∈l2,e.length=i.size)→(∀(j:Nat) e (q:Nat) x,l2[j]?=some e→e[q]?=some x→∃u,news[i.size*j+q]?=some u∧RR nb h ρ x u)→(∀v∈news,v.oneCell'=true) →
          (apLen (fet (x.ev st.env))+l2.length)*i.bytes≤140737488355328→apLen (fet (x.ev st.env))+l2.length≤9223372036854775807→∀α kc nx,apRN nb st.hp st.n k0 i.size (fet (x.ev st.env)) l2=some (α,kc,nx)→K ⟨EN.set st.env o.dst α,kc::st.hp,nx⟩→(∀x' y' n b,c=.ap x' y' n b→x'=x) →
          o.wp P a w (fun a' w'=>∃st' h' ρ',K st'∧Sat C st' h' ρ' a' w'∧Post3 c st h h' ρ ρ' k0 w w') Q:=by
        intro nb y1 y2 x y t u e i d z hcal hargs hty ex ee hd hdn hi hz hzs obx l2 news g1 g2 g3 g4 g5 g6 g7 g8 α kc nx hap hK hcx
        have harg : cc.args = #[y1, y2] := by apply Array.ext'; simpa using hargs
        have htys : cc.argTypes = #[t, u] := by apply Array.ext'; simpa using hty
        obtain ⟨v,w',hrun,hsat⟩:=ap_coreN (nb:=nb) (P:=P) S (ty:=o.type) (tyEl_inv ee) hd hdn hi hz hzs (src_rel S trivial ex obx) g1 g2 g3 g4 g5 g6 g7 g8 hk0 hap
        obtain ⟨ρ',hF,S',hO⟩:=hsat o.dst
        refine yields v w' ?_ ⟨_, h, ρ', hK, S', ⟨fun _ => hF, fun x' y' n' b' e => by rw [hcx x' y' n' b' e]; exact ⟨rfl, hO⟩⟩⟩
        simp [execOp,ho,resolve,hcal,harg,htys,invoke,builtin,hrun]
      split at hc
      . split at hc
        . split at hc
          . cases hc; exact absurd rfl hval
          . cases hc; exact absurd rfl hval
          . cases hc
        . cases hc
      . -- append
        rename_i hcal
        split at hc
        . rename_i x y t u ea et
          obtain ⟨y1,y2,hargs,ex,ey⟩:=csrc_pair ea
          split at hc
          . rename_i e e' ee eu
            split at hc
            . rename_i i hi
              split at hc
              . rename_i z hz
                split at hc
                . rename_i hzs
                  cases hc
                  simp only at hv
                  split at hv
                  . rename_i l2 hl2
                    have hl2:nst st.hp (fet (y.ev st.env))=some l2:=by
                      cases fz with
                      | true => exact hl2
                      | false => cases hl2
                    obtain ⟨hgood,hsz,h63,hv⟩:=hv
                    split at hv
                    . rename_i α kc nx hap
                      obtain ⟨aa, cap, news, ev, _, hnl, hfc, hcl⟩ := row_cells (P := P) S.mem (src_rel S trivial ey hobs.2) (nst_sl hl2) (fun e he => (hgood e he).1)
                      refine apStep true y1 y2 x y t u e i (.slice e') z hcal hargs et ex ee eu (fun k hk => by cases hk) hi hz hzs hobs.1 l2 news (fun w' _ => by rw [ev]; rfl) hfc hnl (fun e he => (hgood e he).1) hcl ?_ hsz h63 α kc nx hap hv (fun _ _ _ _ e => by cases e; rfl)
                      intro v hvm
                      obtain ⟨jj,hjj,rfl⟩:=List.mem_iff_getElem.1 hvm
                      rw [hnl] at hjj
                      have hpos:0<i.size:=by
                        rcases Nat.eq_zero_or_pos i.size with h0 | h0
                        . rw [h0] at hjj; simp at hjj
                        . exact h0
                      have hj : jj / i.size < l2.length := by rw [Nat.div_lt_iff_lt_mul hpos]; exact hjj
                      have hel:=(hgood _ (List.getElem_mem hj))
                      have hq : jj % i.size < (l2[jj / i.size]).length := by rw [hel.1]; exact Nat.mod_lt _ hpos
                      obtain ⟨u,z1,z2⟩:=hcl (jj / i.size) _ (jj % i.size) _ (zlg hj) (zlg hq)
                      rw [Nat.div_add_mod, List.getElem?_eq_getElem (by omega)] at z1
                      cases z1
                      exact AV.one_rel (ρ:=ρ) z2 (List.all_eq_true.1 hel.2 _ (List.getElem_mem hq))
                    . exact hv.elim
                  . split at hv
                    . rename_i l2 hl2
                      obtain ⟨hgood,hsz,h63,hv⟩:=hv
                      split at hv
                      . rename_i α kc nx hap
                        obtain ⟨aa, cap, news, ev, _, hnl, hfc, hcl0⟩ := row_cells (P := P) S.mem (src_rel S trivial ey hobs.2) hl2 (fun e he => (hgood e he).1)
                        have hcl : ∀ (j : Nat) e (q : Nat) x, l2[j]? = some e → e[q]? = some x → ∃ u, news[i.size * j + q]? = some u ∧ PRel h x u := fun j e q x g1 g2 => by
                          obtain ⟨u,z1,z2⟩:=hcl0 j e q x g1 g2
                          have hp:=(hgood e (zla g1)).2
                          simp only [purs,List.all_eq_true,Bool.and_eq_true] at hp
                          exact ⟨u,z1,AV.pur_rel z2 (hp x (zla g2)).1⟩
                        refine apStep false y1 y2 x y t u e i (.slice e') z hcal hargs et ex ee eu (fun k hk => by cases hk) hi hz hzs hobs.1 l2 news (fun w' _ => by rw [ev]; rfl) hfc hnl (fun e he => (hgood e he).1) hcl ?_ hsz h63 α kc nx (by rw [← apR_N]; exact hap) hv (fun _ _ _ _ e => by cases e; rfl)
                        intro v hvm
                        obtain ⟨jj,hjj,rfl⟩:=List.mem_iff_getElem.1 hvm
                        rw [hnl] at hjj
                        have hpos:0<i.size:=by
                          rcases Nat.eq_zero_or_pos i.size with h0 | h0
                          . rw [h0] at hjj; simp at hjj
                          . exact h0
                        have hj : jj / i.size < l2.length := by rw [Nat.div_lt_iff_lt_mul hpos]; exact hjj
                        have hel:=(hgood _ (List.getElem_mem hj))
                        have hq : jj % i.size < (l2[jj / i.size]).length := by rw [hel.1]; exact Nat.mod_lt _ hpos
                        obtain ⟨u,z1,z2⟩:=hcl (jj / i.size) _ (jj % i.size) _ (zlg hj) (zlg hq)
                        rw [Nat.div_add_mod, List.getElem?_eq_getElem (by omega)] at z1
                        cases z1
                        exact AV.one_rel (ρ:=ρ) (.pu _ _ z2) (List.all_eq_true.1 (purs_ones hel.2) _ (List.getElem_mem hq))
                      . exact hv.elim
                    . exact hv.elim
                . cases hc
              . cases hc
            . cases hc
          . rename_i e ee eu
            split at hc
            . rename_i i hi
              split at hc
              . rename_i z hz
                split at hc
                . rename_i hzs
                  obtain ⟨hzs,hs1,hb1⟩:=hzs
                  cases hc
                  simp only at hv
                  split at hv
                  . rename_i b hb
                    obtain ⟨hsz,hv⟩:=hv
                    split at hv
                    . rename_i α kc nx hap
                      have ry:=src_rel S trivial ey hobs.2
                      rw [hb] at ry
                      have evy:=ry.str
                      have hbl : (byteEls b).length = b.size := by simp [byteEls]
                      refine apStep false y1 y2 x y t u e i .string z hcal hargs et ex ee eu (fun k hk => by cases hk) hi hz hzs hobs.1 (byteEls b) (b.data.toList.map fun x => Value.int .u8 x.toNat) (fun w' _ => by rw [evy, hbl]; rfl) (fun w' _ => ?_) (by rw [hs1]; simp [byteEls]) (fun e he => ?_) (fun j e q x g1 g2 => ?_) (fun v hv => ?_) (by rw [hb1, hbl]; omega) (by rw [hbl]; omega) α kc nx (by rw [hs1, ← apR_N]; exact hap) hv (fun _ _ _ _ e => (by cases e))
                      . rw [evy, hbl]
                        simp only [Builtin.firstCells,Sem.run_pure]
                        congr 1
                        apply Array.ext'
                        have:(b.extract 0 b.size)=b:=by
                          apply ByteArray.ext
                          simp [ByteArray.extract,ByteArray.copySlice]
                        simp [this]
                      . simp only [byteEls, List.mem_map] at he
                        obtain ⟨x,_,rfl⟩:=he
                        simp [hs1]
                      . rw [hs1]
                        simp only [byteEls,List.getElem?_map] at g1
                        cases hj:b.data.toList[j]? with
                        | none => rw [hj] at g1; simp at g1
                        | some c =>
                          rw [hj] at g1
                          simp at g1
                          subst g1
                          cases q with
                          | zero =>
                            simp at g2
                            subst g2
                            refine ⟨.int .u8 c.toNat,?_,.i _ _⟩
                            simp only [Nat.one_mul,Nat.add_zero,List.getElem?_map,hj,Option.map_some]
                          | succ q => simp at g2
                      . simp only [List.mem_map] at hv
                        obtain ⟨x,_,rfl⟩:=hv
                        rfl
                    . exact hv.elim
                  . exact hv.elim
                . cases hc
              . cases hc
            . cases hc
          . cases hc
        . cases hc
      . split at hc
        . cases hc; exact absurd rfl hval
        . cases hc
      . split at hc
        . cases hc; exact absurd rfl hval
        . cases hc
      . -- a function by its name
        rename_i f hcal
        cases ea:srcs C.N cc.args.toList with
        | none => simp [ea] at hc
        | some l =>
          simp [ea] at hc
          subst hc
          have r:=srcs_rel S trivial ea hobs
          refine callStep rfl f _ _ r ?_ hv
          have em : cc.args.map a.eval = (cc.args.toList.map a.eval).toArray := by apply Array.ext'; simp
          simp [execOp,ho,resolve,hcal,Act.eval,Deferred.ofValue,invoke]
          rw [em]
      . -- a function value
        rename_i f _ hcal
        split at hc
        . rename_i sx l ex el
          cases hc
          simp only at hv
          split at hv
          . rename_i g caps hg
            have rf:=src_rel S trivial ex hobs.1
            rw [hg] at rf
            obtain ⟨cs,ev,rcs⟩:=rf.func
            have r:=srcs_rel S trivial el hobs.2
            refine callStep rfl g _ ((cc.args.toList.map a.eval) ++ cs) ⟨by have h1 := r.1; have h2 := rcs.1; simp at h1 ⊢; omega, fun j α v g1 g2 => ?_⟩ ?_ hv
            . rw [List.getElem?_append] at g1 g2
              have hl:=r.1
              rw [hl] at g1
              split at g1
              . rename_i hj
                rw [if_pos hj] at g2
                exact r.2 j α v g1 g2
              . rename_i hj
                rw [if_neg hj] at g2
                exact rcs.2 _ α v g1 g2
            . have em : cc.args.map a.eval ++ cs.toArray = ((cc.args.toList.map a.eval) ++ cs).toArray := by apply Array.ext'; simp
              simp [execOp,ho,resolve,hcal,ev,Deferred.ofValue,invoke]
              rw [em]
          . exact hv.elim
        . cases hc
      . cases hc
    . cases hc
theorem run_sound {P:Program} {C:Ctx} {st:St} {a:Act} {w:World} {ops:List Oper} {o:Oper} {c:COp} {g:Option (Nat × Bool)} (hc:cop P C.N ops o=some c) {K:St→Prop} {dp:List Nat} {fz:Bool} (hv:vcRun P st.n ⟨o.dst,c,g,dp,fz⟩ st K) (hS:S C st a w) (Q:Exit→Act→World→Prop) :
  o.wp P a w (fun a' w'=>∃st',K st'∧S C st' a' w') Q:=by
 obtain ⟨h,ρ,S⟩:=hS
 exact Oper.wp_mono (fun a' w' ⟨st',h',ρ',k,s,_⟩=>⟨st',k,h',ρ',s⟩) (runAt_sound hc hv S (fun g=>S.mem.fr st.n g (zna _)) Q)
end Go.Eng
