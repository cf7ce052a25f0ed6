/- Proof. Conditions: none. -/
import Derived.Test.YtgfidgoefioigaaGreatDoorIj7
open List renaming replicate->z2i,mem_map->zw,getElem_mem->z2d,mem_of_getElem?->zq,mem_iff_getElem->z2e,all_eq_true->z13
open Option renaming map_some->z8,map_eq_some_iff->z1h
open Nat renaming mul_comm->z1g,eq_zero_or_pos->z1l,le_refl->zx,mul_le_mul_left->z15,div_lt_iff_lt_mul->z3d
open Array renaming toList_map->z3f,ext'->z1t
open List renaming mem_of_getElem?->zla,getElem?_eq_some_iff->zlb,getElem?_eq_getElem->zlg,getElem?_append->zlm,getElem?_map->zlp
open Nat renaming le_refl->zna,mul_le_mul_left->zne
namespace Go.Eng
set_option linter.all false
section
variable {N b n c:Nat} {l:List Operand} {x:Bj} {P:Program} {t e ty:TypeId} {h:HP} {J:RO} {hp:CH} {w w':World} {U:AV} {v z:Value} {K:St->Prop} {i:TypeInfo} {o:Oper} {a:Act} {C:Ctx} {st:St} {zl:List AV} {d4:List Oper} {g:Option (Nat × Bool)} {dp:List Nat} {fz:Bool}
theorem Jz (e:srcs N l=some [x]):∃y,l=[y]∧Bt N y=some x:=by
 cases l with
 |nil=>simp [srcs] at e
 |cons y r=>
  unfold srcs at e
  split at e
  .rename_i s l' h1 h2
   cases e
   cases r with
   |nil=>exact ⟨y,rfl,h1⟩
   |cons z r=>
    unfold srcs at h2
    split at h2<;>cases h2
  .cases e
theorem MF {x':Bj} (e:srcs N l=some [x,x']):∃y y',l=[y,y']∧Bt N y=some x∧Bt N y'=some x':=by
 cases l with
 |nil=>simp [srcs] at e
 |cons y r=>
  unfold srcs at e
  split at e
  .rename_i s l' h1 h2
   cases e
   obtain ⟨y',rfl,h3⟩:=Jz h2
   exact ⟨y,y',rfl,h1,h3⟩
  .cases e
theorem LQ (w:World) (d:Nat) (a:Option Addr) (l c:Nat) (h:P.underlying t=some (.slice e)):(Op.equalIn (d+1) t (.slice a l c) (.slice none 0 0)).run P w=.ok a.isNone w:=by
 cases a<;>simp [Op.equalIn,run_underlying h]
theorem P7 (w:World) (a:Option Addr) (l c:Nat) (h:P.underlying t=some (.slice e)):(binOp .eql t (.slice a l c) (.slice none 0 0)).run P w=.ok (.bool a.isNone) w:=by
 have:=LQ w 9999 a l c h
 show (do pure (Value.bool (<-Op.equalIn 10000 t (.slice a l c) (.slice none 0 0))):Sem Value).run P w=_
 rw [Sem.run_bind,this]
 rfl
theorem Qx (w:World) (a:Option Addr) (l c:Nat) (h:P.underlying t=some (.slice e)):(binOp .neq t (.slice a l c) (.slice none 0 0)).run P w=.ok (.bool (!a.isNone)) w:=by
 have:=LQ w 9999 a l c h
 show (do pure (Value.bool (!(<-Op.equalIn 10000 t (.slice a l c) (.slice none 0 0)))):Sem Value).run P w=_
 rw [Sem.run_bind,this]
 rfl
theorem Wz {n0:Nat} (mm:SatH h J hp n0 w) (r:Ba h J U v) {neg:Bool} {K:Bool->Prop} (k:nlK hp U neg K):∃(a:Option Addr) (len cap:Nat),v=.slice a len cap∧K (match neg with | true=>!a.isNone | false=>a.isNone):=by
 have both:∀b:Bool,K (!neg)∧K neg->K (match neg with | true=>!b | false=>b):=by
  intro b h
  cases neg<;>cases b<;>first | exact h.1 | exact h.2
 cases U with
 |ds l=>
  cases r with
  |pu _ _ p=>
   cases p with
   |ds _ q0 a cap _ _ _ _ hm=>
    refine ⟨a,_,_,rfl,?_⟩
    by_cases hl:l=[]
    .exact both _ ⟨k.1 hl,k.2⟩
    .obtain ⟨b,off,rfl,_⟩:=hm hl
     cases neg<;>exact k.2
 | e0 => cases r with | pu _ _ p => cases p with | e0 a => exact ⟨_, _, _, rfl, both _ k⟩
 |rw g i len=>
  cases r with
  | pu _ _ p => cases p
  |rw _ _ _ cap a ob e hl ha=>
   refine ⟨a,_,_,rfl,?_⟩
   cases a with
   | some a => cases neg <;> exact k.2
   |none=>
    refine both _ ⟨k.1 ?_,k.2⟩
    have ho:ob=none:=by
     cases ob with
     | none => rfl
     | some b => have := ha b rfl; cases this
    have hk:=mm.ch g
    unfold nlZ
    split
    .rename_i g' n' l' hg
     intro eg
     subst eg
     rw [hg] at hk
     obtain ⟨o7,i6,h1,h2,EY,h3,h4,h5⟩:=hk
     rw [e] at h1
     cases h1
     have:=h4 ho
     omega
    .rename_i g' n' l' hg
     intro eg
     subst eg
     rw [hg] at hk
     obtain ⟨o7,i6,h1,h2,EY,h3,h4,h5⟩:=hk
     rw [e] at h1
     cases h1
     have:=h4 ho
     omega
    .trivial
 | _ => exact k.elim
theorem IZ {off:Nat} (hz:E1 P t=some v.cells.size) (h:(storeCells ⟨b,off,none⟩ v.cells.toList).run P w=.ok () w') :
 (Instr.storeAt t (.pointer (some ⟨b,off,none⟩)) v).run P w=.ok () w':=by
 simp [Instr.storeAt,Instr.sureAddr,storeVar,C2 hz,h]
theorem Aem (ht:P.underlying t=some (.slice e)) (hi:P.info? e=some i) (hz:i.zero=some z) (Hs:z.cells.size=i.size)
 {k1 k2:IntKind} {x y:Int} (h0:0<=x) (h1:x<=y) (h2:y*i.bytes<=140737488355328) (h3:y<=9223372036854775807) :
 ∃cs:Array Value,(Instr.makeSlice t (.int k1 x) (.int k2 y)).run P w=.ok (.slice (some ⟨w.heap.size,0,none⟩) x.toNat y.toNat) (w.alloc (.cells cs e))∧cs.size=y.toNat*i.size ∧
  ∀(j q:Nat),j<y.toNat->q<i.size->cs[i.size*j+q]?=z.cells[q]?:=by
 have wx:IntKind.i64.wrap x=x:=by simp [IntKind.wrap,IntKind.bits,IntKind.signed];omega
 have wy:IntKind.i64.wrap y=y:=by simp [IntKind.wrap,IntKind.bits,IntKind.signed];omega
 refine ⟨(Array.range (y.toNat*i.size)).map (z.cells[· % z.cells.size]!),?_,by simp,fun j q hj hq=>?_⟩
 .have c1:¬(281474976710656<(i.bytes:Int)*y):=by rw [Int.mul_comm];omega
  have c2:¬x<0:=by omega
  have c3:¬y<x:=by omega
  have c4:¬y<0:=by omega
  have Sw:(zeroValue e).run P w=.ok z w:=by simp [zeroValue,typeInfo,hi,hz]
  have EB:(sizeOf e).run P w=.ok i.size w:=by simp [sizeOf,typeInfo,hi]
  by_cases hn:y.toNat*i.size=0
  .simp only [Instr.makeSlice]
   simp [run_underlying ht,asInt,asIntOf,typeInfo,hi,wx,wy,c1,c2,c3,c4,EB,hn,newRow,show Array.range 0=#[] from rfl]
  .simp only [Instr.makeSlice]
   simp [run_underlying ht,asInt,asIntOf,typeInfo,hi,wx,wy,c1,c2,c3,c4,EB,hn,newRow,Sw]
 .have BY:i.size*j+q<y.toNat*i.size:=by
   have:i.size*j+i.size<=i.size*y.toNat:=by rw [<-Nat.mul_succ];exact zne _ hj
   rw [z1g y.toNat]
   omega
  simp [BY,Hs]
  rw [Nat.mod_eq_of_lt hq]
  simp [Hs,hq]
theorem RT:∀{l:List AV} {out:List (List AV)} {vs:List Value},Bx h J l vs->Jk n l=some out ->
 out.length=vs.length∧(∀e∈out,e.length=n)∧(∀v∈vs,v.cells.size=n∧∀u∈v.cells.toList,u.oneCell'=true) ∧
  ∀(j:Nat) e v (q:Nat) U u,out[j]?=some e->vs[j]?=some v->e[q]?=some U->v.cells[q]?=some u->Ba h J U u:=by
 intro l
 induction l with
 |nil=>
  intro out vs r e
  simp [Jk] at e
  subst e
  have:vs=[]:=by have:=r.1;simpa using this.symm
  subst this
  exact ⟨rfl,(fun e h=>(by cases h)),(fun v h=>(by cases h)),(fun j e v q U u h=>by simp at h)⟩
 |cons U l ih=>
  intro out vs r e
  cases vs with
  |nil=>have:=r.1;simp at this
  |cons v vs=>
   unfold Jk at e
   split at e
   .rename_i cs l2 e1 e2
    split at e
    .rename_i Bn
     cases e
     have rc:=AV.cl_rel (r.2 0 U v rfl rfl) e1
     obtain ⟨i1,i2,i3,i4⟩:=ih (out:=l2) (vs:=vs) ⟨by have:=r.1;simpa using this,fun j U v h1 h2=>r.2 (j+1) U v (by simpa using h1) (by simpa using h2)⟩ e2
     refine ⟨by simp [i1],fun e he=>?_,fun u hu=>?_,fun j e u q β x h1 h2 h3 h4=>?_⟩
     .rcases List.mem_cons.1 he with rfl | he
      .exact Bn.1
      .exact i2 e he
     .rcases List.mem_cons.1 hu with rfl | hu
      .exact ⟨by have:=rc.1;simp at this;omega,KA rc Bn.2⟩
      .exact i3 u hu
     .cases j with
      |zero=>simp at h1 h2;subst h1;subst h2;exact rc.2 q β x h3 (by simpa using h4)
      |succ j=>exact i4 j e u q β x (by simpa using h1) (by simpa using h2) h3 h4
    .cases e
   .cases e
theorem Ae2 {l:List (List AV)} (h:nst hp U=some l):sl hp U=some l:=by
 unfold nst at h
 split at h
 .rename_i k g len
  split at h
  .rename_i g' n l' hk
   simp [sl,hk,h]
  .cases h
 .cases h
theorem Oo (ht:P.underlying t=some (.slice e)) (hv:∀w,(zeroValue e).run P w=.ok z w) {o:Nat} (hn:0<n)
 (Db:(storeCells ⟨b,o,none⟩ (Builtin.zeroCells z.cells n).toList).run P w=.ok () w'):(Builtin.clear_ #[t] ty #[.slice (some ⟨b,o,none⟩) n c]).run P w=.ok (.tuple #[]) w':=by
 obtain ⟨m,rfl⟩:∃m,n=m+1:=⟨n - 1,by omega⟩
 simp [Builtin.clear_,run_underlying ht,hv,Db]
theorem Pb (ht:P.underlying t=some (.slice e)) {a:Option Addr}:(Builtin.clear_ #[t] ty #[.slice a 0 c]).run P w=.ok (.tuple #[]) w:=by
 cases a<;>simp [Builtin.clear_,run_underlying ht]
theorem OG (S:Sat C st h J a w) (ht:P.underlying t=some (.slice e)) (hi:P.info? e=some i) (hz:i.zero=some z) (Hs:z.cells.size=i.size) (VE:E0 z.cells.toList=some zl)
 {k g off len cap cp:Nat} {ob:Option Nat} {ad:Option Addr} {l:List (List AV)} (hk:gc st.hp k=.rw g i.size l) (hl:off+len=l.length) (hr:J k g=some (ob,cap)) (q7:off+len<=cap) (had:∀b,ob=some b->0<len->ad=some ⟨b,i.size*off,none⟩) :
 ∃w',(Builtin.clear_ #[t] ty #[.slice ad len cp]).run P w=.ok (.tuple #[]) w'∧SatH h J ((k,.rw g i.size (l.take off++z2i len zl))::st.hp) st.n w'∧Keeps (AI J st.hp) w w'∧∀b,AI J ((k,.rw g i.size (l.take off++z2i len zl))::st.hp) b->AI J st.hp b:=by
 obtain ⟨hzl1,hzl2⟩:=Vl VE h
 have FK:=Yc VE
 have hzsz:zl.length=i.size:=by rw [hzl1,<-Hs];simp
 have Do:=S.mem.ch k
 rw [hk] at Do
 obtain ⟨o7,i6,h1,h2,EY,h3,h4,h5⟩:=Do
 rw [hr] at h1
 cases h1
 generalize hX:l.take off++z2i len zl=X
 have hXl:X.length=l.length:=by rw [<-hX];simp;omega
 have hX3 : ∀ (j : Nat) y, X[j]? = some y -> y.length = i.size := fun j y hy => by
  rw [<-hX,zlm] at hy
  split at hy
  .exact h3 j y (Bu hy).1
  .rw [List.getElem?_replicate] at hy
   split at hy
   .cases hy;exact hzsz
   .cases hy
 have G1:∀b,AI J ((k,.rw g i.size X)::st.hp) b->AI J st.hp b:=fun b ⟨j,g',c,q,x⟩=>by
  by_cases hj:k=j
  .subst hj
   rw [Ah] at q
   exact ⟨k,g',c,by rw [hk];exact q,x⟩
  .rw [Am hj] at q
   exact ⟨j,g',c,q,x⟩
 have j4:∀w',(∀b,b<w.heap.size->ob≠some b->w'.heap[b]?=w.heap[b]?)->w.heap.size<=w'.heap.size->(Ak.rw g i.size X).sat h J w' k->SatH h J ((k,.rw g i.size X)::st.hp) st.n w':=by
  intro w' hw EB hs
  refine S.mem.put k _ (Ck.refl _) (fun _ _ _=>rfl) (fun b hb hx=>hw b hb fun e2=>?_) EB hs ?_ S.mem.fr ?_
  .subst e2
   have AL:AI J st.hp b:=⟨k,g,cap,by rw [hk];rfl,hr⟩
   rcases hx with hx | ⟨k2,g2,c2,s6,w8,Nw⟩
   .exact hx (S.mem.hid _ AL)
   .exact s6 (S.mem.inj k2 k g2 g _ _ _ w8 (by rw [hk];rfl) Nw hr)
  .intro g2 b c hg hx
   have AL:AI J st.hp b:=⟨k,g2,c,by rw [hk];exact hg,hx⟩
   exact ⟨S.mem.hid _ AL,Nat.lt_of_lt_of_le (S.mem.lt _ AL) EB,fun k' g' c3 BG D2 ES=>BG (S.mem.inj k' k g' g2 _ _ _ D2 (by rw [hk];exact hg) ES hx)⟩
  .intro g2 g' y e1 hx
   exact S.mem.gens k g2 g' y (by rw [hk];exact e1) hx
 rcases z1l len with q | q
 .subst q
  have hXX:X=l:=by rw [<-hX];simp;exact List.take_of_length_le (by omega)
  refine ⟨w,Pb ht,j4 w (fun _ _ _=>rfl) (zx _) ?_,Keeps.refl _ _,G1⟩
  rw [hXX]
  exact ⟨ob,cap,hr,h2,EY,h3,h4,h5⟩
 .cases ob with
  | none => have := h4 rfl; omega
  |some b=>
   obtain ⟨old,te,a1,a2,a3⟩:=h5 b rfl
   have hzl:(Builtin.zeroCells z.cells len).toList.length=len*i.size:=by simp [Builtin.zeroCells,Hs]
   have hz1:∀v∈(Builtin.zeroCells z.cells len).toList,v.oneCell'=true:=by
    intro v hv
    simp only [Builtin.zeroCells,z3f,zw,Array.toList_range,List.mem_range] at hv
    obtain ⟨j,hj,rfl⟩:=hv
    have Hr:0<z.cells.size:=by
     rcases z1l z.cells.size with q | q
     .rw [q] at hj;simp at hj
     .exact q
    have BY:j % z.cells.size<z.cells.size:=Nat.mod_lt _ Hr
    rw [getElem!_pos z.cells _ BY]
    exact FK _ (by simp)
   have hroom:i.size*off+len*i.size<=old.size:=by
    rw [a2,z1g i.size,<-Nat.add_mul]
    exact Nat.mul_le_mul_right _ q7
   have Db:=run_storeCells_at (P:=P) b (i.size*off) te (Builtin.zeroCells z.cells len).toList 0 old w a1 (by rw [hzl];omega) hz1
   simp only [Nat.add_zero] at Db
   have hzv : ∀ w, (zeroValue e).run P w = .ok z w := fun w => by simp [zeroValue, typeInfo, hi, hz]
   have AL:AI J st.hp b:=⟨k,g,cap,by rw [hk];rfl,hr⟩
   rw [had b rfl q]
   refine ⟨_,Oo ht hzv q Db,j4 _ (fun b2 ER BG=>setRow_other _ _ _ _ (fun e2=>BG (by rw [e2]))) (by simp) ?_,Keeps.setRow _ _ _ AL,G1⟩
   refine ⟨some b,cap,hr,by omega,EY,hX3,(fun hx=>by cases hx),fun b2 ER=>?_⟩
   cases ER
   refine ⟨_,te,setRow_heap w b old _ te _ a1,?_,fun j y r β g1 g2=>?_⟩
   .rw [hzl]
    simp [Hs,Builtin.zeroCells]
    omega
   .have Ic:r<i.size:=by
     have:=hX3 j y g1
     have:=(zlb.1 g2).1
     omega
    have w6:min (i.size*off) old.size=i.size*off:=by omega
    rw [List.getElem?_toArray,List.append_assoc,zlm]
    simp only [List.length_take,Array.length_toList,w6]
    rw [<-hX,zlm] at g1
    split at g1
    .obtain ⟨g1,hjo⟩:=Bu g1
     obtain ⟨u,z1,z2⟩:=a3 j y r β g1 g2
     refine ⟨u,?_,z2⟩
     have BY:i.size*j+r<i.size*off:=by
      have:i.size*j+i.size<=i.size*off:=by rw [<-Nat.mul_succ];exact z15 _ hjo
      omega
     rw [if_pos BY,List.getElem?_take,if_pos BY]
     simpa using z1
    .rename_i hjo
     rw [List.getElem?_replicate] at g1
     split at g1
     .rename_i hjl
      cases g1
      have hto:(l.take off).length=off:=by simp;omega
      rw [hto] at hjo hjl
      have hge:i.size*off<=i.size*j:=z15 _ (by omega)
      have e1:i.size*j+r - i.size*off=(j - off)*i.size+r:=by
       rw [z1g (j - off),Nat.mul_sub]
       omega
      have BY:(j - off)*i.size+r<len*i.size:=by
       have:(j - off)*i.size+i.size<=len*i.size:=by rw [<-Nat.succ_mul];exact Nat.mul_le_mul_right _ (by omega)
       omega
      obtain ⟨v,hv⟩:∃v,z.cells.toList[r]?=some v:=⟨z.cells.toList[r]'(by simp;omega),List.getElem?_eq_getElem _⟩
      refine ⟨v,?_,hzl2 r β v g2 hv⟩
      rw [if_neg (by omega),List.getElem?_append_left (by rw [hzl,e1];exact BY),e1]
      have hr3:r<z.cells.size:=by omega
      simp only [Builtin.zeroCells,z3f,zlp,Array.toList_range]
      rw [List.getElem?_range (by rw [Hs];exact BY)]
      simp only [z8,Hs]
      rw [z1g,Nat.mul_add_mod,Nat.mod_eq_of_lt Ic,getElem!_pos z.cells _ hr3]
      rw [Array.getElem?_toList,Array.getElem?_eq_getElem hr3] at hv
      exact hv
     .cases g1
theorem Abx (S:Sat C st h J a w) (ht:P.underlying t=some (.slice e)) (hi:P.info? e=some i) (hz:i.zero=some z) (Hs:z.cells.size=i.size) (VE:E0 z.cells.toList=some zl)
 {x:AV} {v:Value} (rx:Ba h J x v) {K:CH->Prop} (hv:clK st.hp x i.size zl K) :
 ∃w' Al,(Builtin.clear_ #[t] ty #[v]).run P w=.ok (.tuple #[]) w'∧K Al∧SatH h J Al st.n w'∧Keeps (AI J st.hp) w w'∧∀b,AI J Al b->AI J st.hp b:=by
 unfold clK at hv
 split at hv
 .rename_i k g len
  split at hv
  .rename_i g' m l hk
   obtain ⟨⟨rfl,rfl,hl⟩,hK⟩:=hv
   cases rx with
   |pu _ _ p=>cases p
   |rw _ _ _ cap ad ob e1 OD ha=>
    obtain ⟨w',h1,h2,h3,h4⟩:=OG S (ty:=ty) (cp:=cap) (ad:=ad) (ob:=ob) ht hi hz Hs VE (off:=0) (len:=len) hk (by omega) e1 (by omega) (fun b hb _=>by rw [ha b hb,Nat.mul_zero])
    rw [List.take_zero,List.nil_append] at h2 h4
    exact ⟨w',_,h1,hK,h2,h3,h4⟩
  .exact hv.elim
 .rename_i k g n' off len
  split at hv
  .rename_i g' m l hk
   obtain ⟨⟨rfl,rfl,rfl,hl⟩,hK⟩:=hv
   cases rx with
   |pu _ _ p=>cases p
   |rf _ _ _ _ _ cap ad ob e1 OD ha=>
    obtain ⟨w',h1,h2,h3,h4⟩:=OG S (ty:=ty) (cp:=cap - off) (ad:=ad) (ob:=ob) ht hi hz Hs VE (off:=off) (len:=len) hk hl e1 OD (fun b hb hp=>ha b hb (by omega))
    exact ⟨w',_,h1,hK,h2,h3,h4⟩
  .exact hv.elim
 .exact hv.elim
def JN (c:Au) (st:St) (h h':HP) (J ρ':RO) (k0:Nat) (w w':World):Prop :=
 (c.isC=false->Fr J ρ' k0)∧∀x y n b,c=.ap x y n b->h'=h∧Ahz st.hp J ρ' w w' (Bf (x.ev st.env))
theorem Ek {c:Au} (hc:PT P C.N d4 o=some c) {k0:Nat} (hv:D9 P k0 ⟨o.dst,c,g,dp,fz⟩ st K) (S:Sat C st h J a w) (Ia:∀g,J k0 g=none) (Q:Exit->Act->World->Prop) :
 o.wp P a w (fun a' w'=>∃c8 h' ρ',K c8∧Sat C c8 h' ρ' a' w'∧JN c st h h' J ρ' k0 w w') Q:=by
 obtain ⟨hobsB,hv⟩:=hv
 have AZ:=Au.obsB_obs (p:=True) (fun _=>rfl) hobsB
 have mm:=S.mem
 -- an operation that d9 a value
 have d9:∀v w',(execOp a.eval o).run P w=.ok (.value v) w'->(∃c8 h' ρ',K c8∧Sat C c8 h' ρ' (a.put o.dst v) w'∧JN c st h h' J ρ' k0 w w')->o.wp P a w (fun a' w'=>∃c8 h' ρ',K c8∧Sat C c8 h' ρ' a' w'∧JN c st h h' J ρ' k0 w w') Q:=by
  intro v w' e hx
  unfold Oper.wp
  rw [e]
  exact hx
 by_cases A4:c.isV=true
 .have QL:c.pre st.hp (fun s=>Bf (s.ev st.env))∧match c.val st.hp (fun s=>Bf (s.ev st.env)) with
   |some U=>K ⟨EN.set st.env o.dst U,st.hp,st.n⟩
   | none => False := by cases c <;> first | exact KR hv | (simp [Au.isV] at A4)
  obtain ⟨DJ,hk⟩:=QL
  cases Nt:c.val st.hp (fun s=>Bf (s.ev st.env)) with
  | none => rw [Nt] at hk; exact hk.elim
  |some U=>
   rw [Nt] at hk
   obtain ⟨v,h1,h2⟩:=Jf (P:=P) S trivial hc A4 AZ DJ Nt
   exact d9 v w h1 ⟨_,h,J,hk,S.val o.dst h2,⟨fun _=>Fr.refl _ _,fun _ _ _ _ e=>by subst e;simp [Au.isV] at A4⟩⟩
 .unfold PT at hc
  have j7:∀{U:Type} {x:Option U} {f:U->Au},(∀y,(f y).isV=true)->x.map f=some c->False:=by
   intro U x f hf e
   cases x with
   | none => cases e
   | some y => simp at e; subst e; exact A4 (hf y)
  split at hc
  .exact (j7 (fun _=>rfl) hc).elim
  .exact (j7 (fun _=>rfl) hc).elim
  .split at hc
   .cases hc;exact absurd rfl A4
   .cases hc
  .split at hc
   .split at hc
    .exact (j7 (fun _=>rfl) hc).elim
    .cases hc
   .split at hc
    .split at hc
     .exact (j7 (fun _=>rfl) hc).elim
     .cases hc
    .cases hc
   .cases hc
  .split at hc
   .split at hc
    .cases hc
    .cases hc;exact absurd rfl A4
   .cases hc
  .rename_i op t x y yt ho
   split at hc
   .rename_i sx sy ex ey
    split at hc
    .cases hc;exact absurd rfl A4
    .split at hc
     .split at hc
      .split at hc
       .cases hc;exact absurd rfl A4
       .cases hc
      .split at hc
       .cases hc;exact absurd rfl A4
       .cases hc
      .cases hc
     .rename_i e hu
      unfold nlC at hc
      split at hc
      .cases hc
       obtain ⟨aa,len,cap,ev,hK⟩:=Wz S.mem (A1 S trivial ex AZ) hv
       refine d9 (.bool aa.isNone) w ?_ ⟨_,h,J,hK,S.val o.dst (.pu _ _ (.b _)),⟨fun _=>Fr.refl _ _,fun _ _ _ _ e=>(by cases e)⟩⟩
       have e2:a.eval (.const (.slice none 0 0))=.slice none 0 0:=rfl
       simp only [execOp,ho,ev,e2]
       simp [eqGuard,P7 w aa len cap hu]
      .cases hc
       obtain ⟨aa,len,cap,ev,hK⟩:=Wz S.mem (A1 S trivial ex AZ) hv
       refine d9 (.bool (!aa.isNone)) w ?_ ⟨_,h,J,hK,S.val o.dst (.pu _ _ (.b _)),⟨fun _=>Fr.refl _ _,fun _ _ _ _ e=>(by cases e)⟩⟩
       have e2:a.eval (.const (.slice none 0 0))=.slice none 0 0:=rfl
       simp only [execOp,ho,ev,e2]
       simp [eqGuard,Qx w aa len cap hu]
      .cases hc
     .cases hc
   .cases hc
  .exact (j7 (fun _=>rfl) hc).elim
  .split at hc
   .cases hc;exact absurd rfl A4
   .cases hc;exact absurd rfl A4
   .split at hc
    .split at hc
     .cases hc;exact absurd rfl A4
     .cases hc
    .cases hc
   .cases hc
  .split at hc
   .cases hc
   .cases hc;exact absurd rfl A4
   .cases hc
  .split at hc
   .exact (j7 (fun _=>rfl) hc).elim
   .cases hc
  .split at hc
   .cases hc
   .split at hc
    .split at hc
     .exact (j7 (fun _=>rfl) hc).elim
     .cases hc
    .cases hc
   .cases hc
  .exact (j7 (fun _=>rfl) hc).elim
  .split at hc
   .split at hc
    .split at hc
     .cases hc
     .cases hc;exact absurd rfl A4
    .cases hc
   .cases hc
  .split at hc
   .split at hc
    .split at hc
     .cases hc
     .cases hc;exact absurd rfl A4
    .cases hc
   .cases hc
  .split at hc
   .exact (j7 (fun _=>rfl) hc).elim
   .split at hc
    .exact (j7 (fun _=>rfl) hc).elim
    .cases hc
   .cases hc
  .split at hc
   .cases hc;exact absurd rfl A4
   .split at hc
    .split at hc
     .cases hc
     .cases hc;exact absurd rfl A4
    .cases hc
   .cases hc
  .split at hc
   .exact (j7 (fun _=>rfl) hc).elim
   .cases hc;exact absurd rfl A4
   .cases hc
  .split at hc
   .split at hc
    .exact (j7 (fun _=>rfl) hc).elim
    .cases hc
   .cases hc
  . -- alloc
   rename_i t ho
   split at hc
   .rename_i i hi
    split at hc
    .rename_i z hz
     rcases Sj hc with ⟨zl,ec,rfl⟩ | ⟨e,rfl,hze⟩
     .obtain ⟨ρ',hF,S'⟩:=PZ S Ia o.dst (vs:=z.cells) t (GW ec h J)
      refine d9 _ _ ?_ ⟨_,h,ρ',hv,S',⟨fun _=>hF,fun _ _ _ _ e=>(by cases e)⟩⟩
      simp [execOp,ho,Instr.alloc,zeroValue,typeInfo,hi,hz,newVar,newRow]
     .subst hze
      simp only at hv
      have hle:=BT (some w.heap.size,0) (Ia 0)
      have hs:(Ak.sb t e 0 ⟨#[]⟩).sat h (By J k0 0 (some w.heap.size,0)) (w.alloc (.cells #[.pointer none,.slice none 0 0] t)) k0 :=
       ⟨w.heap.size,0,_,_,A0 _ _ _ _,heap_alloc_new w _,.inl rfl,⟨rfl,.inl ⟨rfl,rfl⟩⟩,(fun e=>(by cases e)),⟨_,A0 _ _ _ _⟩,fun b2 e2=>(by cases e2)⟩
      obtain ⟨m,_⟩:=S.mem.new Ia (.sb t e 0 ⟨#[]⟩) (.cells #[.pointer none,.slice none 0 0] t) 0 hs
      refine d9 (.pointer (some ⟨w.heap.size,0,none⟩)) (w.alloc (.cells #[.pointer none,.slice none 0 0] t)) ?_ ⟨_,h,_,hv,S.step (BQ.refl _) hle m (Keeps.alloc _ _ _) (fun b hb=>?_) o.dst (.bx _ _ _ _ (A0 _ _ _ _)),⟨fun _=>Fr.new _ _ _ _,fun _ _ _ _ e=>(by cases e)⟩⟩
      .simp [execOp,ho,Instr.alloc,zeroValue,typeInfo,hi,hz,newVar,newRow,Value.cells]
      .exact B7 (B:=w.heap.size) (fun b e=>by cases e;exact zx _) (fun j e=>by rcases e with rfl | rfl<;>rfl) b hb
    .cases hc
   .cases hc
  . -- box
   rename_i t x ho
   cases ex:Bt C.N x with
   | none => simp [ex] at hc
   |some s=>
    simp [ex] at hc
    subst hc
    simp only at hv
    split at hv
    .rename_i cs QM
     have r:=AV.cl_rel (A1 S trivial ex AZ) QM
     obtain ⟨ρ',hF,S'⟩:=PZ S Ia o.dst (vs:=(a.eval x).cells) t r
     refine d9 _ _ ?_ ⟨_,h,ρ',hv,S',⟨fun _=>hF,fun _ _ _ _ e=>(by cases e)⟩⟩
     simp [execOp,ho,Instr.box,newVar,newRow]
    .exact hv.elim
  . -- store
   rename_i t x y ho
   split at hc
   .rename_i sx sy m ex ey em
    cases hc
    simp only at hv
    split at hv
    .rename_i cs QM
     obtain ⟨Bn,FK,Db⟩:=hv
     unfold stK at Db
     split at Db
     .rename_i k off Hr
      split at Db
      .rename_i old hk
       obtain ⟨hle,hK⟩:=Db
       have rp:=A1 S trivial ex AZ.1
       rw [Hr] at rp
       have r:=AV.cl_rel (A1 S trivial ey AZ.2) QM
       obtain ⟨b,w',ev,BE,DH⟩:=R9 (P:=P) S hk rp hle r FK
       have hcsz:(a.eval y).cells.size=m:=by have:=r.1;simp at this;omega
       have Db:(execOp a.eval o).run P w=.ok .skip w':=by
        simp only [execOp,ho,ev]
        rw [<-hcsz] at em
        simp [IZ em BE]
       unfold Oper.wp
       rw [Db]
       exact ⟨_,h,J,hK,DH o.dst,⟨fun _=>Fr.refl _ _,fun _ _ _ _ e=>(by cases e)⟩⟩
      .exact Db.elim
     .rename_i k g len n i off Hr
      split at Db
      .rename_i g' n' l hk
       obtain ⟨⟨rfl,rfl,hle,hpu⟩,e,he,hK⟩:=Db
       have rp:=A1 S trivial ex AZ.1
       rw [Hr] at rp
       have r:=AV.cl_rel (A1 S trivial ey AZ.2) QM
       obtain ⟨b,ofs,w',ev,BE,DH⟩:=Lz (P:=P) S hk rp he hle r hpu
       have hcsz:(a.eval y).cells.size=m:=by have:=r.1;simp at this;omega
       have Db:(execOp a.eval o).run P w=.ok .skip w':=by
        simp only [execOp,ho,ev]
        rw [<-hcsz] at em
        simp [IZ em BE]
       unfold Oper.wp
       rw [Db]
       exact ⟨_,h,J,hK,DH o.dst,⟨fun _=>Fr.refl _ _,fun _ _ _ _ e=>(by cases e)⟩⟩
      .rename_i g' n' l hk
       obtain ⟨⟨rfl,rfl,hle,hpu⟩,e,he,hK⟩:=Db
       have rp:=A1 S trivial ex AZ.1
       rw [Hr] at rp
       have r:=AV.cl_rel (A1 S trivial ey AZ.2) QM
       obtain ⟨b,ofs,w',ev,BE,DH⟩:=Gm (nb:=true) (P:=P) S hk rp he hle r hpu
       have hcsz:(a.eval y).cells.size=m:=by have:=r.1;simp at this;omega
       have Db:(execOp a.eval o).run P w=.ok .skip w':=by
        simp only [execOp,ho,ev]
        rw [<-hcsz] at em
        simp [IZ em BE]
       unfold Oper.wp
       rw [Db]
       exact ⟨_,h,J,hK,DH o.dst,⟨fun _=>Fr.refl _ _,fun _ _ _ _ e=>(by cases e)⟩⟩
      .exact Db.elim
     .exact Db.elim
    .exact hv.elim
   .cases hc
  . -- buildSlice
   rename_i t len ps ho
   split at hc
   .rename_i e l ee el
    split at hc
    .rename_i n en
     split at hc
     .rename_i n7
      cases hc
      obtain ⟨c1,c2,c3,c4,c5⟩:=n7
      simp only at hv
      cases fz with
      |true=>
       simp only at hv
       split at hv
       .rename_i out hout
        have r:=ED S trivial el AZ
        obtain ⟨p1,p2,p3,p4⟩:=RT r hout
        have Nt:((ps.toList.map (·.2)).map a.eval).length=len:=by simpa using c2
        obtain ⟨cs,BE,QM,TS⟩:=G5 (P:=P) w ee en c4 (len:=len) (ps:=ps.map fun (i,x)=>(i,a.eval x)) (vs:=(ps.toList.map (·.2)).map a.eval)
         (by rw [z3f,J3 ps.toList 0 a.eval c1,List.map_map];rfl) Nt c3 (fun v hv=>(p3 v hv).1)
        have q9:(execOp a.eval o).run P w=.ok (.value (.slice (some ⟨w.heap.size,0,none⟩) len len)) (w.alloc (.cells cs e)):=by
         simp only [execOp,ho]
         exact CS BE
        have QR:out.length=len:=by rw [p1];exact Nt
        have hn0:J k0 0=none:=Ia 0
        have Eb:=BT (some w.heap.size,len) hn0
        have n9:∀(j:Nat) x (q:Nat) U,out[j]?=some x->x[q]?=some U->∃u,cs[n*j+q]?=some u∧Ba h (By J k0 0 (some w.heap.size,len)) U u:=by
         intro j x q U g1 g2
         have hj:j<((ps.toList.map (·.2)).map a.eval).length:=by rw [<-p1];exact (List.getElem?_eq_some_iff.1 g1).1
         have hv1:((ps.toList.map (·.2)).map a.eval)[j]?=some ((ps.toList.map (·.2)).map a.eval)[j]:=zlg hj
         have hxl:=p2 x (zla g1)
         have hq:q<n:=by have:=(List.getElem?_eq_some_iff.1 g2).1;omega
         have VE:=(p3 _ (z2d hj)).1
         have hq2:q<(((ps.toList.map (·.2)).map a.eval)[j]).cells.size:=by omega
         refine ⟨(((ps.toList.map (·.2)).map a.eval)[j]).cells[q],?_,(p4 j x _ q U _ g1 hv1 g2 (by simp [hq2])).mono (BQ.refl _) Eb⟩
         rw [TS j _ q hv1 hq]
         simp [hq2]
        have DH:(Ak.rn 0 n out).sat h (By J k0 0 (some w.heap.size,len)) (w.alloc (.cells cs e)) k0:=by
         refine ⟨some w.heap.size,len,A0 _ _ _ _,by omega,?_,fun j x hx=>p2 x (zq hx),(fun hx=>by cases hx),fun b hb=>?_⟩
         .unfold maxLen
          have:len*1<=len*n:=z15 _ (by omega)
          omega
         .cases hb
          exact ⟨cs,e,heap_alloc_new w _,QM,n9⟩
        obtain ⟨m2,_⟩:=S.mem.new Ia (.rn 0 n out) (.cells cs e) len DH
        refine d9 _ _ q9 ⟨_,h,_,hv,S.step (BQ.refl _) Eb m2 (Keeps.alloc _ _ _) (fun b hb=>?_) o.dst ?_,⟨fun _=>Fr.new _ _ _ _,fun _ _ _ _ e=>(by cases e)⟩⟩
        .exact B7 (B:=w.heap.size) (fun b e=>by cases e;exact zx _) (fun j e=>by exact e) b hb
        .rw [QR]
         exact .rw _ _ _ _ _ (some w.heap.size) (A0 _ _ _ _) (zx _) (fun b hb=>by cases hb;rfl)
       .exact hv.elim
      |false=>
       simp only at hv
       have r:=ED S trivial el AZ
       obtain ⟨h1,hle1,S1⟩:=Sat.shutP (l.map fun s=>Bf (s.ev st.env)) S
       have r1:=r.mono hle1 (Ck.refl _)
       split at hv
       .rename_i out hout
        obtain ⟨p1,p2,p3,p4⟩:=Sh S1.mem r1 hout
        have Nt:((ps.toList.map (·.2)).map a.eval).length=len:=by simpa using c2
        obtain ⟨cs,BE,QM,TS⟩:=G5 (P:=P) w ee en c4 (len:=len) (ps:=ps.map fun (i,x)=>(i,a.eval x)) (vs:=(ps.toList.map (·.2)).map a.eval)
         (by rw [z3f,J3 ps.toList 0 a.eval c1,List.map_map];rfl) Nt c3 (fun v hv=>(p3 v hv).1)
        have q9:(execOp a.eval o).run P w=.ok (.value (.slice (some ⟨w.heap.size,0,none⟩) len len)) (w.alloc (.cells cs e)):=by
         simp only [execOp,ho]
         exact CS BE
        have QR:out.length=len:=by rw [p1];exact Nt
        have n9:∀(j:Nat) x (q:Nat) U,out[j]?=some x->x[q]?=some U->∃u,cs[n*j+q]?=some u∧Bq h1 U u:=by
         intro j x q U g1 g2
         have hj:j<((ps.toList.map (·.2)).map a.eval).length:=by rw [<-p1];exact (List.getElem?_eq_some_iff.1 g1).1
         have hv1:((ps.toList.map (·.2)).map a.eval)[j]?=some ((ps.toList.map (·.2)).map a.eval)[j]:=zlg hj
         have hxl:=p2 x (zla g1)
         have hq:q<n:=by have:=(List.getElem?_eq_some_iff.1 g2).1;omega
         have VE:=(p3 _ (z2d hj)).1
         have hq2:q<(((ps.toList.map (·.2)).map a.eval)[j]).cells.size:=by omega
         refine ⟨(((ps.toList.map (·.2)).map a.eval)[j]).cells[q],?_,p4 j x _ q U _ g1 hv1 g2 (by simp [hq2])⟩
         rw [TS j _ q hv1 hq]
         simp [hq2]
        split at hv
        . -- nobody writes it
         let h2 : HP := fun b => if b = w.heap.size then some (.cells cs e) else h1 b
         have hnone:h1 w.heap.size=none:=by
          cases hb:h1 w.heap.size with
          | none => rfl
          | some o => have := S1.mem.hh _ _ hb; simp at this
         have hle2:BQ h1 h2:=by
          intro b o eb
          show (if b=w.heap.size then some (.cells cs e) else h1 b)=some o
          rw [if_neg (fun e0=>by subst e0;rw [hnone] at eb;cases eb)]
          exact eb
         have m2:SatH h2 J (shutP st.hp (l.map fun s=>Bf (s.ev st.env))) st.n (w.alloc (.cells cs e)):=by
          have m1:=S1.mem
          have E2 : ∀ b, b < w.heap.size -> (w.alloc (.cells cs e)).heap[b]? = w.heap[b]? := fun b hb => heap_alloc_old w _ b hb
          refine ⟨fun b o eb=>?_,fun k=>Ak.sat_mono hle2 (Ck.refl _) (fun g b x e1 r1=>E2 b (m1.lt b ⟨k,g,x,e1,r1⟩)) (m1.ch k),m1.inj,fun b hb=>?_,fun b hb=>by have:=m1.lt b hb;simp;omega,m1.fr,m1.gens,m1.glm hle2⟩
          .change (if b=w.heap.size then some (.cells cs e) else h1 b)=some o at eb
           split at eb
           .rename_i hb
            cases eb
            subst hb
            exact heap_alloc_new w _
           .have:=m1.hh b o eb
            rw [E2 b (Array.getElem?_eq_some_iff.1 this).1]
            exact this
          .show (if b=w.heap.size then some (.cells cs e) else h1 b)=none
           have:=m1.lt b hb
           rw [if_neg (by omega)]
           exact m1.hid b hb
         refine d9 _ _ q9 ⟨_,h2,J,hv,S1.step hle2 (Ck.refl _) m2 (Keeps.alloc _ _ _) (fun b hb=>.inl hb) o.dst (.pu _ _ ?_),⟨fun _=>Fr.refl _ _,fun _ _ _ _ e=>(by cases e)⟩⟩
         rw [<-QR]
         refine .ds out n _ _ (fun j q => (cs[n * j + q]?).getD undef) (zx _) (fun j x hx => p2 x (zq hx)) (fun j x q U g1 g2 => ?_) fun _ => ⟨_, _, rfl, fun j x q U g1 g2 => ?_⟩
         .obtain ⟨u,z1,z2⟩:=n9 j x q U g1 g2
          simp only [z1,Option.getD_some]
          exact z2.mono hle2
         .obtain ⟨u,z1,z2⟩:=n9 j x q U g1 g2
          simp [Eq,h2,z1]
        . -- a row of its own
         have hn0:J k0 0=none:=Ia 0
         have Eb:=BT (some w.heap.size,len) hn0
         have DH:(Ak.rw 0 n out).sat h1 (By J k0 0 (some w.heap.size,len)) (w.alloc (.cells cs e)) k0:=by
          refine ⟨some w.heap.size,len,A0 _ _ _ _,by omega,?_,fun j x hx=>p2 x (zq hx),(fun hx=>by cases hx),fun b hb=>?_⟩
          .unfold maxLen
           have:len*1<=len*n:=z15 _ (by omega)
           omega
          .cases hb
           exact ⟨cs,e,heap_alloc_new w _,QM,n9⟩
         obtain ⟨m2,_⟩:=S1.mem.new Ia (.rw 0 n out) (.cells cs e) len DH
         refine d9 _ _ q9 ⟨_,h1,_,hv,S1.step (BQ.refl _) Eb m2 (Keeps.alloc _ _ _) (fun b hb=>?_) o.dst ?_,⟨fun _=>Fr.new _ _ _ _,fun _ _ _ _ e=>(by cases e)⟩⟩
         .exact B7 (B:=w.heap.size) (fun b e=>by cases e;exact zx _) (fun j e=>by exact e) b hb
         .rw [QR]
          exact .rw _ _ _ _ _ (some w.heap.size) (A0 _ _ _ _) (zx _) (fun b hb=>by cases hb;rfl)
       .exact hv.elim
     .cases hc
    .cases hc
   .cases hc
  . -- makeSlice
   rename_i t l cp ho
   split at hc
   .rename_i sl sc e el ec ee
    split at hc
    .rename_i i hi
     split at hc
     .rename_i z hz
      split at hc
      .rename_i Hs
       cases ezl:E0 z.cells.toList with
       | none => simp [ezl] at hc
       |some zl=>
        simp [ezl] at hc
        subst hc
        simp only at hv
        split at hv
        .rename_i k1 x k2 y hx hy
         obtain ⟨h0,h1,h2,h3,h4,h5,hK⟩:=hv
         have rl:=A1 S trivial el AZ.1
         have rc:=A1 S trivial ec AZ.2
         rw [hx] at rl
         rw [hy] at rc
         obtain ⟨cs,BE,QM,TS⟩:=Aem (P:=P) (w:=w) (GC ee) hi hz Hs (k1:=k1) (k2:=k2) h0 h1 h2 h3
         have q9:(execOp a.eval o).run P w=.ok (.value (.slice (some ⟨w.heap.size,0,none⟩) x.toNat y.toNat)) (w.alloc (.cells cs e)):=by
          simp only [execOp,ho,rl.int,rc.int]
          exact CS BE
         have rz:=GW ezl h J
         have hn0:J k0 0=none:=Ia 0
         have Eb:=BT (some w.heap.size,y.toNat) hn0
         have DH:(Ak.rw 0 i.size (z2i x.toNat zl)).sat h (By J k0 0 (some w.heap.size,y.toNat)) (w.alloc (.cells cs e)) k0:=by
          refine ⟨some w.heap.size,y.toNat,A0 _ _ _ _,by simp;omega,by unfold maxLen;omega,fun j x hx=>?_,(fun hx=>by cases hx),fun b hb=>?_⟩
          .rw [List.getElem?_replicate] at hx
           split at hx
           .cases hx;exact h4
           .cases hx
          .cases hb
           refine ⟨cs,e,heap_alloc_new w _,QM,fun j xx q U g1 g2=>?_⟩
           rw [List.getElem?_replicate] at g1
           split at g1
           .rename_i hj
            cases g1
            have hq:q<i.size:=by have:=(List.getElem?_eq_some_iff.1 g2).1;omega
            have hq2:q<z.cells.size:=by omega
            refine ⟨z.cells[q],?_,Qj rz h5 g2 (by simp [hq2])⟩
            rw [TS j q (by omega) hq]
            simp [hq2]
           .cases g1
         obtain ⟨m2,_⟩:=S.mem.new Ia (.rw 0 i.size (z2i x.toNat zl)) (.cells cs e) y.toNat DH
         refine d9 _ _ q9 ⟨_,h,_,hK,S.step (BQ.refl _) Eb m2 (Keeps.alloc _ _ _) (fun b hb=>?_) o.dst ?_,⟨fun _=>Fr.new _ _ _ _,fun _ _ _ _ e=>(by cases e)⟩⟩
         .exact B7 (B:=w.heap.size) (fun b e=>by cases e;exact zx _) (fun j e=>by exact e) b hb
         .exact .rw _ _ _ _ _ (some w.heap.size) (A0 _ _ _ _) (by omega) (fun b hb=>by cases hb;rfl)
        .exact hv.elim
      .cases hc
     .cases hc
    .cases hc
   .cases hc
  .exact (j7 (fun _=>rfl) hc).elim
  . -- a new map
   rename_i t ho
   split at hc
   .split at hc
    .cases hc
     simp only at hv
     have hle:=BT (some w.heap.size,0) (Ia 0)
     have hs:(Ak.mp []).sat h (By J k0 0 (some w.heap.size,0)) (w.alloc (.map #[] 0)) k0:=⟨w.heap.size,0,#[],0,A0 _ _ _ _,heap_alloc_new w _,rfl,MapKept.stamped_empty 0,fun j x U e=>by simp at e⟩
     obtain ⟨m,_⟩:=S.mem.new Ia (.mp []) (.map #[] 0) 0 hs
     refine d9 (.map (some w.heap.size)) (w.alloc (.map #[] 0)) ?_ ⟨_,h,_,hv,S.step (BQ.refl _) hle m (Keeps.alloc _ _ _) (fun b hb=>?_) o.dst (.mp _ _ _ (A0 _ _ _ _)),⟨fun _=>Fr.new _ _ _ _,fun _ _ _ _ e=>(by cases e)⟩⟩
     .simp only [execOp,ho]
      refine CS ?_
      rfl
     .exact B7 (B:=w.heap.size) (fun b e=>by cases e;exact zx _) (fun j e=>by exact e) b hb
    .cases hc
   .cases hc
  . -- lookup
   split at hc
   .split at hc
    .split at hc
     .exact (j7 (fun _=>rfl) hc).elim
     .cases hc
    .cases hc
   .cases hc
  . -- an entry of a map
   rename_i t xm xk xv ho
   split at hc
   .rename_i sm ss sx kt e em es ex et
    split at hc
    .rename_i ek
     cases hc
     simp only at hv
     unfold muK at hv
     split at hv
     .rename_i k b h1 h2
      split at hv
      .rename_i l hk
       obtain ⟨hpu,hK⟩:=hv
       have r1:=A1 S trivial em AZ.1
       have r2:=A1 S trivial es AZ.2.1
       have r3:=AV.purR_rel (A1 S trivial ex AZ.2.2) hpu
       rw [h1] at r1
       rw [h2] at r2
       have e2:=r2.str
       generalize hev:a.eval xm=vv at r1
       cases r1 with
       | pu _ _ p => cases p
       |mp _ bb c e0=>
        have Do:=S.mem.ch k
        rw [hk] at Do
        obtain ⟨b',c',v7,b8,q1,q2,q3,q4⟩:=Ye Do
        rw [e0] at q1
        cases q1
        have v8:=MapKept.run_checkKey (P:=P) (w:=w) ek (k:=.string b) trivial false 9999
        have AL:AI J st.hp bb:=⟨k,0,c,by rw [hk];rfl,e0⟩
        have j4:∀l8 l5,MapKept.Stamped l8 l5->MR h (DP b (Bf (Bj.ev st.env sx)) l) (Array.toList l8)->(execOp a.eval o).run P w=.ok .skip { w with heap:=w.heap.setIfInBounds bb (.map l8 l5) } ->
         o.wp P a w (fun a' w'=>∃c8 h' ρ',K c8∧Sat C c8 h' ρ' a' w'∧JN (.mu sm ss sx) st h h' J ρ' k0 w w') Q:=by
         intro l8 l5 Db hm BE
         unfold Oper.wp
         rw [BE]
         obtain ⟨g1,g2⟩:=MapKept.heap_set (o':=Obj.map l8 l5) q2
         have EB:w.heap.size<=(w.heap.setIfInBounds bb (Obj.map l8 l5)).size:=by simp
         suffices hS:Sat C ⟨EN.set st.env o.dst .un,(k,.mp (DP b (Bf (Bj.ev st.env sx)) l))::st.hp,st.n⟩ h J (a.put o.dst undef) { w with heap:=w.heap.setIfInBounds bb (.map l8 l5) } from
          ⟨_,h,J,hK,hS,⟨fun _=>Fr.refl _ _,fun _ _ _ _ e=>(by cases e)⟩⟩
         refine S.step (w':={ w with heap:=w.heap.setIfInBounds bb (.map l8 l5) }) (BQ.refl _) (Ck.refl _) (S.mem.put (w':={ w with heap:=w.heap.setIfInBounds bb (.map l8 l5) }) k _ (Ck.refl _) (fun _ _ _=>rfl) (fun b2 ER hx=>?_) EB ?_ ?_ S.mem.fr ?_) ⟨rfl,rfl,rfl,EB,fun b2 ER hx=>?_⟩ (fun b2 ER=>.inl ?_) o.dst (.pu _ _ (.un _))
         .refine g2 b2 fun e2=>?_
          subst e2
          rcases hx with hx | ⟨k',g',c2,BG,hg,hr⟩
          .exact hx (S.mem.hid _ AL)
          .exact BG (S.mem.inj k' k g' 0 _ _ _ hg (by rw [hk];rfl) hr e0)
         .exact ⟨bb, c, l8, l5, e0, g1, by simpa using hm.1, Db, fun j x U hj => by
           obtain ⟨u,born,z1,z2⟩:=hm.2 j x U hj
           exact ⟨u,born,by simpa using z1,z2⟩⟩
         .intro g b2 c2 hg hr
          cases hg
          rw [e0] at hr
          cases hr
          refine ⟨S.mem.hid _ AL,by simpa using S.mem.lt _ AL,fun k' g' c3 BG D2 ES=>?_⟩
          exact BG (S.mem.inj k' k g' 0 _ _ _ D2 (by rw [hk];rfl) ES e0)
         .intro g g' x e1 hx
          exact S.mem.gens k g g' x (by rw [hk];exact e1) hx
         .exact g2 b2 fun e2 => hx (e2 ▸ AL)
         .obtain ⟨k',g',c3,D2,ES⟩:=ER
          by_cases E4:k=k'
          .subst E4
           rw [Ah] at D2
           exact ⟨k,g',c3,by rw [hk];exact D2,ES⟩
          .rw [Am E4] at D2
           exact ⟨k',g',c3,D2,ES⟩
        rcases Kc h b (Bf (Bj.ev st.env sx)) l v7.toList 0 q3 with ⟨m1,m2,m3⟩ | ⟨γ,j,v,m1,m2,_,m3,born,m4⟩
        .have hf:=MapKept.run_findKey (P:=P) (w:=w) ek m2
         refine j4 (v7.push ⟨.string b,a.eval xv,b8⟩) (b8+1) (MapKept.stamped_push q4 (T3 q3 m1)) ?_ ?_
         .rw [m3]
          refine ⟨by have:=q3.1;simp at this ⊢;omega,fun j x U hj=>?_⟩
          rw [zlm] at hj
          have hl:=q3.1
          split at hj
          .rename_i BY
           obtain ⟨u,born,z1,z2⟩:=q3.2 j x U hj
           exact ⟨u,born,by rw [Array.toList_push,List.getElem?_append,if_pos (by omega)];exact z1,z2⟩
          .rename_i BY
           have hj0:j - l.length=0:=by
            have:=(zlb.1 hj).1
            simp at this
            omega
           rw [hj0] at hj
           simp at hj
           obtain ⟨rfl,rfl⟩:=hj
           exact ⟨a.eval xv,b8,by rw [Array.toList_push,List.getElem?_append,if_neg (by omega),show j - v7.toList.length=0 by omega];rfl,r3⟩
         .simp only [execOp,ho]
          rw [hev,e2]
          simp [Instr.mapUpdate,run_underlying et,MapKept.run_getObj_map q2,MapKept.run_setObj_map _ q2,v8,hf]
        .have hf:=MapKept.run_findKey (P:=P) (w:=w) ek m2
         simp only [Nat.zero_add] at hf
         have hje:v7[j]?=some ⟨.string b,v,born⟩:=by simpa using m4
         refine j4 (v7.modify j fun e=>{ e with key:=.string b,val:=a.eval xv }) b8 (MapKept.stamped_modify q4 j _ (fun _ _=>rfl) (fun e _ he=>by rw [hje] at he;cases he;rfl)) ?_ ?_
         .rw [m3]
          refine ⟨by have:=q3.1;simp at this ⊢;omega,fun i x U hi=>?_⟩
          rw [List.getElem?_set] at hi
          split at hi
          .rename_i hji
           subst hji
           split at hi
           .simp only [Option.some.injEq,Prod.mk.injEq] at hi
            obtain ⟨rfl,rfl⟩:=hi
            exact ⟨a.eval xv,born,by simp [Array.getElem?_modify,hje],r3⟩
           .cases hi
          .rename_i hji
           obtain ⟨u,born2,z1,z2⟩:=q3.2 i x U hi
           exact ⟨u,born2,by simpa [Array.getElem?_modify,hji] using z1,z2⟩
         .simp only [execOp,ho]
          rw [hev,e2]
          simp [Instr.mapUpdate,run_underlying et,MapKept.run_getObj_map q2,MapKept.run_setObj_map _ q2,v8,hf,hje,Instr.keyThatStays,Instr.sameBits,DS]
      .exact hv.elim
     .exact hv.elim
    .cases hc
   .cases hc
  . -- a map is gone through
   rename_i t xm ho
   split at hc
   .rename_i sx kt e ex et
    split at hc
    .rename_i ek
     cases hc
     simp only at hv
     unfold mgK at hv
     split at hv
     .rename_i k h1
      split at hv
      .rename_i l hk
       have r1:=A1 S trivial ex AZ
       rw [h1] at r1
       generalize hev:a.eval xm=vv at r1
       cases r1 with
       | pu _ _ p => cases p
       |mp _ bb c e0=>
        have Do:=S.mem.ch k
        rw [hk] at Do
        obtain ⟨b',c',es,b8,q1,q2,q3,q4,q5⟩:=Do
        rw [e0] at q1
        cases q1
        have h1n:J k 1=none:=by
         cases hx:J k 1 with
         | none => rfl
         | some y => have := S.mem.gens k 0 1 y (by rw [hk]; rfl) hx; omega
        have Eb:=BT (some w.heap.size,0) h1n
        have hbs:bb<w.heap.size:=(Array.getElem?_eq_some_iff.1 q2).1
        have h00:By J k 1 (some w.heap.size,0) k 0=some (some bb,c):=Eb _ _ _ e0
        have AL:AI J st.hp bb:=⟨k,0,c,by rw [hk];rfl,e0⟩
        have Bz:k<st.n:=by
         rcases Nat.lt_or_ge k st.n with BY | hge
         .exact BY
         .rw [S.mem.fr k 0 hge] at e0;cases e0
        have DH:(Ak.mr l []).sat h (By J k 1 (some w.heap.size,0)) (w.alloc (.mapIter (some bb) b8 #[] b8)) k :=
         ⟨bb,c,es,b8,h00,by rw [heap_alloc_old _ _ _ hbs];exact q2,q3,q4,q5,w.heap.size,0,#[],A0 _ _ _ _,Nat.ne_of_lt hbs,heap_alloc_new _ _,fun e he x hx=>by simp,fun x hx=>by simp at hx⟩
        refine d9 (.pointer (some ⟨w.heap.size,0,none⟩)) (w.alloc (.mapIter (some bb) b8 #[] b8)) ?_ ⟨_,h,_,hv,S.step (BQ.refl _) Eb ?_ (Keeps.alloc _ _ _) (fun b hb=>?_) o.dst (.mi _ _ _ (A0 _ _ _ _)),⟨fun _=>Fr.old e0 _ _ _,fun _ _ _ _ e=>(by cases e)⟩⟩
        .simp only [execOp,ho]
         refine CS ?_
         rw [hev]
         simp [Instr.range,run_underlying et,MapKept.run_getObj_map q2]
        .refine S.mem.put k _ Eb (fun k' g' hk=>AY _ _ hk) (fun b hb _=>heap_alloc_old _ _ _ hb) (by simp) DH ?_ ?_ ?_
         .rintro g b c2 (rfl | rfl) hr
          .rw [h00] at hr
           cases hr
           refine ⟨S.mem.hid _ AL,by simp;omega,fun k' g' c3 BG D2 ES=>?_⟩
           exact BG (S.mem.inj k' k g' 0 _ _ _ D2 (by rw [hk];rfl) ES e0)
          .rw [A0] at hr
           cases hr
           refine ⟨?_,by simp,fun k' g' c3 BG D2 ES=>?_⟩
           .cases hb:h w.heap.size with
            | none => rfl
            | some o => have := S.mem.hh _ _ hb; simp at this
           .have:=S.mem.lt _ ⟨k',g',c3,D2,ES⟩
            omega
         .intro k' g' HF
          rw [AY _ _ (by omega)]
          exact S.mem.fr k' g' HF
         .intro g g' x e1 hr
          cases e1
          by_cases hgg:g'=1
          .omega
          .unfold By at hr
           rw [if_neg (by omega)] at hr
           have:=S.mem.gens k 0 g' x (by rw [hk];rfl) hr
           omega
        .obtain ⟨k',g',c3,D2,ES⟩:=hb
         by_cases E4:k=k'
         .subst E4
          rw [Ah] at D2
          rcases D2 with rfl | rfl
          .rw [h00] at ES
           cases ES
           exact .inl AL
          .rw [A0] at ES
           cases ES
           exact .inr (zna _)
         .rw [Am E4] at D2
          rw [AY _ _ (fun e=>E4 e.symm)] at ES
          exact .inl ⟨k',g',c3,D2,ES⟩
      .exact hv.elim
     .exact hv.elim
    .cases hc
   .cases hc
  . -- the next key
   rename_i it ho
   obtain ⟨sx,ex,rfl⟩:=z1h.1 hc
   simp only at hv
   unfold mxK at hv
   split at hv
   .rename_i k h1
    split at hv
    .rename_i l sn hk
     obtain ⟨hK1,hK2⟩:=hv
     have r1:=A1 S trivial ex AZ
     rw [h1] at r1
     generalize hev:a.eval it=vv at r1
     cases r1 with
     | pu _ _ p => cases p
     |mi _ b2 c2 e0=>
      have Do:=S.mem.ch k
      rw [hk] at Do
      obtain ⟨bb,c,es,b8,q1,q2,q3,q4,q5,b2',c2',seen,g1,g2,g3,g4,g5⟩:=Do
      rw [e0] at g1
      cases g1
      have AL:AI J st.hp b2:=⟨k,1,c2,by rw [hk];exact .inr rfl,e0⟩
      obtain ⟨wd,hwd,BE⟩:=X6 (P:=P) o.type g3 q2 q4
      have hg : wd.heap = w.heap := by rcases hwd with rfl | rfl <;> rfl
      have HH:Keeps (AI J st.hp) w wd:=by
       rcases hwd with rfl | rfl
       .exact Keeps.refl _ _
       .exact Keeps.drew _ _
      have ent : ∀ e ∈ es.toList, ∃ (j : Nat) (x : qB) (U : AV), l[j]? = some (x, U) ∧ e.key = .string x ∧ Bq h U e.val := fun e he => by
       obtain ⟨j,hj⟩:=List.getElem?_of_mem he
       have hjl:j<l.length:=by
        have h9:=(zlb.1 hj).1
        simp at h9
        omega
       obtain ⟨u,born,z1,z2⟩:=q5 j (l[j]).1 (l[j]).2 (by rw [List.getElem?_eq_getElem hjl])
       have:es[j]?=some e:=by simpa using hj
       rw [z1] at this
       cases this
       exact ⟨j,_,_,by rw [List.getElem?_eq_getElem hjl],rfl,z2⟩
      rcases BE with ⟨Ib,BE⟩ | ⟨e,he,Ss,BE⟩
      .refine d9 (.tuple #[.bool false]) wd ?_ ⟨_,h,J,hK1 fun p hp=>?_,S.step (BQ.refl _) (Ck.refl _) (S.mem.heap hg) HH (fun b hb=>.inl hb) o.dst (Ba.mkTup (vs:=[.bool false]) (.cons (.pu _ _ (.b _)) .nil)),⟨fun _=>Fr.refl _ _,fun _ _ _ _ e=>(by cases e)⟩⟩
       .simp only [execOp,ho]
        refine CS ?_
        rw [hev]
        exact BE
       .obtain ⟨j,hj⟩:=List.getElem?_of_mem hp
        obtain ⟨u,born,z1,_⟩:=q5 j p.1 p.2 hj
        have hm:(⟨.string p.1,u,born⟩:MapEntry)∈es.toList:=zq (by simpa using z1)
        exact (g4 _ hm p.1 rfl).1 (Ib _ hm)
      .obtain ⟨j,x,U,hj,p6,A4⟩:=ent e he
       have hxs : x ∉ sn := fun hx => by
        have:=(g4 e he x p6).2 hx
        rw [Ss] at this
        cases this
       have hsz2:b2<w.heap.size:=(Array.getElem?_eq_some_iff.1 g3).1
       have hst2 : ∀ e' ∈ es.toList, ∀ y, e'.key = .string y -> (((seen.push e.born).contains e'.born = true) ↔ y ∈ sn ++ [x]) := fun e' he' y hy => by
        rw [Array.contains_push]
        simp only [Bool.or_eq_true,beq_iff_eq,List.mem_append,List.mem_singleton]
        rw [g4 e' he' y hy]
        have inj:e'.born=e.born↔y=x:=by
         constructor
         .intro hb
          have:=Dk q4.2.1 he' he hb
          subst this
          rw [p6] at hy
          injection hy with hy
          exact hy.symm
         .intro hb
          subst hb
          have:=Dk q4.2.2 he' he (by rw [hy,p6])
          subst this
          rfl
        constructor
        .rintro (h | h)
         .exact .inl h
         .exact .inr (inj.1 h)
        .rintro (h | h)
         .exact .inl h
         .exact .inr (inj.2 h)
       have DH:(Ak.mr l (sn++[x])).sat h J { wd with heap:=wd.heap.setIfInBounds b2 (.mapIter (some bb) b8 (seen.push e.born) b8) } k:=by
        refine ⟨bb,c,es,b8,q1,?_,q3,q4,q5,b2,c2,seen.push e.born,e0,g2,?_,hst2,fun y hy=>⟨e.born,by simp,fun e' he' hy'=>?_⟩⟩
        .show (wd.heap.setIfInBounds b2 _)[bb]?=_
         rw [hg,Array.getElem?_setIfInBounds_ne (fun e=>g2 e.symm)]
         exact q2
        .show (wd.heap.setIfInBounds b2 _)[b2]?=_
         rw [hg]
         simp [hsz2]
        .have:y=x:=by simpa using hy.symm
         subst this
         have:=Dk q4.2.2 he' he (by rw [hy',p6])
         rw [this]
       refine d9 (.tuple #[.bool true,e.key,e.val]) _ ?_ ⟨_,h,J,hK2 j x U hj hxs,S.step (BQ.refl _) (Ck.refl _) (S.mem.put (w':={ wd with heap:=wd.heap.setIfInBounds b2 (.mapIter (some bb) b8 (seen.push e.born) b8) }) k _ (Ck.refl _) (fun _ _ _=>rfl) (fun b hb hx=>?_) (by show _<=(wd.heap.setIfInBounds b2 _).size;simp [hg]) DH ?_ S.mem.fr ?_) ?_ (fun b hb=>.inl ?_) o.dst (by rw [p6];exact Ba.mkTup (vs:=[.bool true,.string x,e.val]) (.cons (.pu _ _ (.b _)) (.cons (.pu _ _ (.s _)) (.cons (.pu _ _ A4) .nil)))),⟨fun _=>Fr.refl _ _,fun _ _ _ _ e=>(by cases e)⟩⟩
       .simp only [execOp,ho]
        refine CS ?_
        rw [hev]
        exact BE
       .show (wd.heap.setIfInBounds b2 _)[b]?=_
        rw [hg,Array.getElem?_setIfInBounds_ne]
        intro e2
        subst e2
        rcases hx with hx | ⟨k',g',c3,BG,D2,ES⟩
        .exact hx (S.mem.hid _ AL)
        .exact BG (S.mem.inj k' k g' 1 _ _ _ D2 (by rw [hk];exact .inr rfl) ES e0)
       .intro g b c3 D2 ES
        have G1:AI J st.hp b:=⟨k,g,c3,by rw [hk];exact D2,ES⟩
        refine ⟨S.mem.hid _ G1,by show b<(wd.heap.setIfInBounds b2 _).size;simp [hg];exact S.mem.lt _ G1,fun k' g' c4 BG w8 Nw=>?_⟩
        exact BG (S.mem.inj k' k g' g _ _ _ w8 (by rw [hk];exact D2) Nw ES)
       .intro g g' y e1 hr
        exact S.mem.gens k g g' y (by rw [hk];exact e1) hr
       .refine HH.trans (Y:=AI J st.hp) ⟨rfl,rfl,rfl,by simp,fun b hb hx=>?_⟩ (fun _ _ h=>h)
        show (wd.heap.setIfInBounds b2 _)[b]?=_
        rw [Array.getElem?_setIfInBounds_ne (fun e2=>hx (by rw [<-e2];exact AL))]
       .obtain ⟨k',g',c3,D2,ES⟩:=hb
        by_cases E4:k=k'
        .subst E4
         rw [Ah] at D2
         exact ⟨k,g',c3,by rw [hk];exact D2,ES⟩
        .rw [Am E4] at D2
         exact ⟨k',g',c3,D2,ES⟩
    .exact hv.elim
   .exact hv.elim
  . -- the entry at hand
   rename_i it ho
   obtain ⟨sx,ex,rfl⟩:=z1h.1 hc
   simp only at hv
   unfold meK at hv
   split at hv
   .rename_i k h1
    split at hv
    .rename_i l sn hk
     obtain ⟨x,hx,U,hfx,hK⟩:=hv
     have r1:=A1 S trivial ex AZ
     rw [h1] at r1
     generalize hev:a.eval it=vv at r1
     cases r1 with
     | pu _ _ p => cases p
     |mi _ b2 c2 e0=>
      have Do:=S.mem.ch k
      rw [hk] at Do
      obtain ⟨bb,c,es,b8,q1,q2,q3,q4,q5,b2',c2',seen,g1,g2,g3,g4,g5⟩:=Do
      rw [e0] at g1
      cases g1
      obtain ⟨L1,JX,JZ⟩:=g5 x hx
      rcases Kc h x .un l es.toList 0 ⟨by simpa using q3, fun j y β hj => by
       obtain ⟨u,born,z1,z2⟩:=q5 j y β hj
       exact ⟨u,born,by simpa using z1,z2⟩⟩ with ⟨m1,_⟩ | ⟨γ,j,u,m1,_,m3,_,born,m5⟩
      .rw [m1] at hfx;cases hfx
      .rw [m1] at hfx
       cases hfx
       have hje:es[j]?=some ⟨.string x,u,born⟩:=by simpa using m5
       have hm:(⟨.string x,u,born⟩:MapEntry)∈es.toList:=zla m5
       have hb:born=L1:=JZ _ hm rfl
       have hfind:es.find? (fun e=>e.born == L1)=some ⟨.string x,u,born⟩:=by
        cases hf:es.find? (fun e=>e.born == L1) with
        |none=>
         have:=Array.find?_eq_none.1 hf _ (by simpa using hm)
         simp [hb] at this
        |some e'=>
         have h1:=Array.find?_some hf
         have h2:=Array.mem_of_find?_eq_some hf
         have:=Dk q4.2.1 (by simpa using h2) hm (by simp at h1;rw [h1,hb])
         rw [this]
       refine d9 (.tuple #[.string x,u]) w ?_ ⟨_,h,J,hK,S.val o.dst (Ba.mkTup (vs:=[.string x,u]) (.cons (.pu _ _ (.s _)) (.cons (.pu _ _ m3) .nil))),⟨fun _=>Fr.refl _ _,fun _ _ _ _ e=>(by cases e)⟩⟩
       simp only [execOp,ho]
       refine CS ?_
       rw [hev]
       simp [Instr.entry,Gn g3,MapKept.run_getObj_map q2,JX,hfind]
    .exact hv.elim
   .exact hv.elim
  . -- calls
   rename_i cc ho
   have callStep:c.isC=true->∀(g:FuncId) (args:List AV) (vs:List Value),Bx h J args vs->(execOp a.eval o).run P w=(callFunc g vs.toArray).run P w ->
    Ac P g st.hp st.n args (fun Al n' r=>K ⟨EN.set st.env o.dst r,Al,n'⟩)->o.wp P a w (fun a' w'=>∃c8 h' ρ',K c8∧Sat C c8 h' ρ' a' w'∧JN c st h h' J ρ' k0 w w') Q:=by
    intro hisC g args vs hr hx hcall
    obtain ⟨R,⟨⟨fn,hf,FN,hb⟩,hm⟩,hk⟩:=hcall
    have:(execOp a.eval o).run P w=.ok (.enter g vs.toArray) w:=by
     rw [hx]
     simp only [callFunc,Sem.run_bind,run_program,Result.andThen_ok,hf,FN,hb]
     rfl
    unfold Oper.wp
    rw [this]
    refine (hm h J w vs S.mem hr).mono fun e w' ⟨v,he,h',ρ',Al,n',r,hR,hh,VR,DF,Cr,o9,G1⟩=>?_
    subst he
    exact ⟨_,h',ρ',hk Al n' r hR,S.step hh VR DF o9 G1 o.dst Cr,⟨fun hx=>(by rw [hisC] at hx;cases hx),fun _ _ _ _ e=>by subst e;simp [Au.isC] at hisC⟩⟩
   have apStep:∀(nb:Bool) (y1 y2:Operand) (x y:Bj) (t u e:TypeId) (i:TypeInfo) (d:TypeDesc) (z:Value),cc.callee=.builtin .append->cc.args.toList=[y1,y2]->cc.argTypes.toList=[t,u]->Bt C.N y1=some x ->
    IR P t=some e->P.underlying u=some d->(∀k,d≠.int k)->P.info? e=some i->i.zero=some z->z.cells.size=i.size->ob True (x.ev st.env)->∀(l2:List (List AV)) (d7:List Value),
    (∀w':World,w'.heap=w.heap->(Builtin.lenOf (a.eval y2)).run P w'=.ok l2.length w')->(∀w':World,w'.heap=w.heap->(Builtin.firstCells i.size l2.length (a.eval y2)).run P w'=.ok d7.toArray w') ->
    d7.length=l2.length*i.size->(∀e∈l2,e.length=i.size)->(∀(j:Nat) e (q:Nat) x,l2[j]?=some e->e[q]?=some x->∃u,d7[i.size*j+q]?=some u∧RR nb h J x u)->(∀v∈d7,v.oneCell'=true) ->
    (C1 (Bf (x.ev st.env))+l2.length)*i.bytes<=140737488355328->C1 (Bf (x.ev st.env))+l2.length<=9223372036854775807->∀U kc nx,Qp nb st.hp st.n k0 i.size (Bf (x.ev st.env)) l2=some (U,kc,nx)->K ⟨EN.set st.env o.dst U,kc::st.hp,nx⟩->(∀x' y' n b,c=.ap x' y' n b->x'=x) ->
    o.wp P a w (fun a' w'=>∃c8 h' ρ',K c8∧Sat C c8 h' ρ' a' w'∧JN c st h h' J ρ' k0 w w') Q:=by
    intro nb y1 y2 x y t u e i d z j8 DK OC ex ee hd hdn hi hz Hs obx l2 d7 g1 g2 g3 g4 g5 g6 g7 g8 U kc nx IG hK hcx
    have H3:cc.args=#[y1,y2]:=by apply z1t;simpa using DK
    have s7:cc.argTypes=#[t,u]:=by apply z1t;simpa using OC
    obtain ⟨v,w',BE,DH⟩:=OX (nb:=nb) (P:=P) S (ty:=o.type) (GC ee) hd hdn hi hz Hs (A1 S trivial ex obx) g1 g2 g3 g4 g5 g6 g7 g8 Ia IG
    obtain ⟨ρ',hF,S',hO⟩:=DH o.dst
    refine d9 v w' ?_ ⟨_,h,ρ',hK,S',⟨fun _=>hF,fun x' y' n' b' e=>by rw [hcx x' y' n' b' e];exact ⟨rfl,hO.old S.mem⟩⟩⟩
    simp [execOp,ho,resolve,j8,H3,s7,invoke,builtin,BE]
   have apStepR:∀(y1 y2:Operand) (x y:Bj) (t u e:TypeId) (i:TypeInfo) (d:TypeDesc) (z:Value),cc.callee=.builtin .append->cc.args.toList=[y1,y2]->cc.argTypes.toList=[t,u]->Bt C.N y1=some x ->
    IR P t=some e->P.underlying u=some d->(∀k,d≠.int k)->P.info? e=some i->i.zero=some z->z.cells.size=i.size->ob True (x.ev st.env)->∀(l2:List (List AV)) (d7:List Value),
    (∀w':World,w'.heap=w.heap->(Builtin.lenOf (a.eval y2)).run P w'=.ok l2.length w')->(∀w':World,w'.heap=w.heap->(Builtin.firstCells i.size l2.length (a.eval y2)).run P w'=.ok d7.toArray w') ->
    d7.length=l2.length*i.size->(∀e∈l2,e.length=i.size)->(∀(j:Nat) e (q:Nat) x,l2[j]?=some e->e[q]?=some x->∃u,d7[i.size*j+q]?=some u∧Bq h x u)->(∀v∈d7,v.oneCell'=true) ->
    (C1 (Bf (x.ev st.env))+l2.length)*i.bytes<=140737488355328->C1 (Bf (x.ev st.env))+l2.length<=9223372036854775807->∀U kc nx,HQ st.hp st.n k0 i.size (Bf (x.ev st.env)) l2=some (U,kc,nx)->K ⟨EN.set st.env o.dst U,kc::st.hp,nx⟩->(∀x' y' n b,c=.ap x' y' n b->x'=x) ->
    o.wp P a w (fun a' w'=>∃c8 h' ρ',K c8∧Sat C c8 h' ρ' a' w'∧JN c st h h' J ρ' k0 w w') Q:=by
    intro y1 y2 x y t u e i d z j8 DK OC ex ee hd hdn hi hz Hs obx l2 d7 g1 g2 g3 g4 g5 g6 g7 g8 U kc nx IG hK hcx
    rcases Aga IG with h1 | ⟨k,g,len,cap,l,hx,hk,hle,hr⟩ | ⟨k,g,off,len,cap,l,hx,hk,hle,h0,hr⟩
    .exact apStep false y1 y2 x y t u e i d z j8 DK OC ex ee hd hdn hi hz Hs obx l2 d7 g1 g2 g3 g4 g5 g6 g7 g8 U kc nx h1 hK hcx
    .have H3:cc.args=#[y1,y2]:=by apply z1t;simpa using DK
     have s7:cc.argTypes=#[t,u]:=by apply z1t;simpa using OC
     obtain ⟨v,w',BE,DH⟩:=WZ (P:=P) S (ty:=o.type) (GC ee) hd hdn hi hz Hs (A1 S trivial ex obx) g1 g2 g3 g4 g5 g6 g7 g8 Ia hx hk hle hr
     obtain ⟨ρ',hF,S',hO⟩:=DH o.dst
     refine d9 v w' ?_ ⟨_, h, ρ', hK, S', ⟨fun _ => hF, fun x' y' n' b' e => by
      rw [hcx x' y' n' b' e]
      refine ⟨rfl,hO,fun k2 g2 len2 n2 l2 ex2 QS=>?_⟩
      rw [hx] at ex2
      cases ex2
      rw [hk] at QS
      cases QS⟩⟩
     simp [execOp,ho,resolve,j8,H3,s7,invoke,builtin,BE]
    .have H3:cc.args=#[y1,y2]:=by apply z1t;simpa using DK
     have s7:cc.argTypes=#[t,u]:=by apply z1t;simpa using OC
     obtain ⟨v,w',BE,DH⟩:=YJ (P:=P) S (ty:=o.type) (GC ee) hd hdn hi hz Hs (A1 S trivial ex obx) g1 g2 g3 g4 g5 g6 g7 g8 Ia hx hk hle h0 hr
     obtain ⟨ρ',hF,S',hO⟩:=DH o.dst
     refine d9 v w' ?_ ⟨_, h, ρ', hK, S', ⟨fun _ => hF, fun x' y' n' b' e => by
      rw [hcx x' y' n' b' e]
      refine ⟨rfl,hO,fun k2 g2 len2 n2 l2 ex2 QS=>?_⟩
      rw [hx] at ex2
      cases ex2⟩⟩
     simp [execOp,ho,resolve,j8,H3,s7,invoke,builtin,BE]
   split at hc
   .split at hc
    .split at hc
     .cases hc;exact absurd rfl A4
     .cases hc;exact absurd rfl A4
     .cases hc
    .cases hc
   . -- append
    rename_i j8
    split at hc
    .rename_i x y t u ea et
     obtain ⟨y1,y2,DK,ex,ey⟩:=MF ea
     split at hc
     .rename_i e e' ee eu
      split at hc
      .rename_i i hi
       split at hc
       .rename_i z hz
        split at hc
        .rename_i Hs
         cases hc
         simp only at hv
         split at hv
         .rename_i l2 G2
          have G2:nst st.hp (Bf (y.ev st.env))=some l2:=by
           cases fz with
           | true => exact G2
           | false => cases G2
          obtain ⟨o6,EB,Wb,hv⟩:=hv
          split at hv
          .rename_i U kc nx IG
           obtain ⟨aa,cap,d7,ev,_,O2,hfc,O6⟩:=MI (P:=P) S.mem (A1 S trivial ey AZ.2) (Ae2 G2) (fun e he=>(o6 e he).1)
           refine apStep true y1 y2 x y t u e i (.slice e') z j8 DK et ex ee eu (fun k hk=>by cases hk) hi hz Hs AZ.1 l2 d7 (fun w' _=>by rw [ev];rfl) hfc O2 (fun e he=>(o6 e he).1) O6 ?_ EB Wb U kc nx IG hv (fun _ _ _ _ e=>by cases e;rfl)
           intro v hvm
           obtain ⟨jj,hjj,rfl⟩:=z2e.1 hvm
           rw [O2] at hjj
           have HZ:0<i.size:=by
            rcases z1l i.size with h0 | h0
            .rw [h0] at hjj;simp at hjj
            .exact h0
           have hj:jj / i.size<l2.length:=by rw [z3d HZ];exact hjj
           have Kw:=(o6 _ (z2d hj))
           have hq:jj % i.size<(l2[jj / i.size]).length:=by rw [Kw.1];exact Nat.mod_lt _ HZ
           obtain ⟨u,z1,z2⟩:=O6 (jj / i.size) _ (jj % i.size) _ (zlg hj) (zlg hq)
           rw [Nat.div_add_mod,List.getElem?_eq_getElem (by omega)] at z1
           cases z1
           exact AV.one_rel (J:=J) z2 (z13.1 Kw.2 _ (z2d hq))
          .exact hv.elim
         .split at hv
          .rename_i l2 G2
           obtain ⟨o6,EB,Wb,hv⟩:=hv
           split at hv
           .rename_i U kc nx IG
            obtain ⟨aa,cap,d7,ev,_,O2,hfc,hcl0⟩:=MI (P:=P) S.mem (A1 S trivial ey AZ.2) G2 (fun e he=>(o6 e he).1)
            have O6 : ∀ (j : Nat) e (q : Nat) x, l2[j]? = some e -> e[q]? = some x -> ∃ u, d7[i.size * j + q]? = some u ∧ Bq h x u := fun j e q x g1 g2 => by
             obtain ⟨u,z1,z2⟩:=hcl0 j e q x g1 g2
             have hp:=(o6 e (zla g1)).2
             simp only [FW,z13,Bool.and_eq_true] at hp
             exact ⟨u,z1,AV.pur_rel z2 (hp x (zla g2)).1⟩
            refine apStepR y1 y2 x y t u e i (.slice e') z j8 DK et ex ee eu (fun k hk=>by cases hk) hi hz Hs AZ.1 l2 d7 (fun w' _=>by rw [ev];rfl) hfc O2 (fun e he=>(o6 e he).1) O6 ?_ EB Wb U kc nx IG hv (fun _ _ _ _ e=>by cases e;rfl)
            intro v hvm
            obtain ⟨jj,hjj,rfl⟩:=z2e.1 hvm
            rw [O2] at hjj
            have HZ:0<i.size:=by
             rcases z1l i.size with h0 | h0
             .rw [h0] at hjj;simp at hjj
             .exact h0
            have hj:jj / i.size<l2.length:=by rw [z3d HZ];exact hjj
            have Kw:=(o6 _ (z2d hj))
            have hq:jj % i.size<(l2[jj / i.size]).length:=by rw [Kw.1];exact Nat.mod_lt _ HZ
            obtain ⟨u,z1,z2⟩:=O6 (jj / i.size) _ (jj % i.size) _ (zlg hj) (zlg hq)
            rw [Nat.div_add_mod,List.getElem?_eq_getElem (by omega)] at z1
            cases z1
            exact AV.one_rel (J:=J) (.pu _ _ z2) (z13.1 (MP Kw.2) _ (z2d hq))
           .exact hv.elim
          .exact hv.elim
        .cases hc
       .cases hc
      .cases hc
     .rename_i e ee eu
      split at hc
      .rename_i i hi
       split at hc
       .rename_i z hz
        split at hc
        .rename_i Hs
         obtain ⟨Hs,JX,VB⟩:=Hs
         cases hc
         simp only at hv
         split at hv
         .rename_i b hb
          obtain ⟨EB,hv⟩:=hv
          split at hv
          .rename_i U kc nx IG
           have ry:=A1 S trivial ey AZ.2
           rw [hb] at ry
           have evy:=ry.str
           have hbl:(Ec b).length=b.size:=by simp [Ec]
           refine apStepR y1 y2 x y t u e i .string z j8 DK et ex ee eu (fun k hk=>by cases hk) hi hz Hs AZ.1 (Ec b) (b.data.toList.map fun x=>Value.int .u8 x.toNat) (fun w' _=>by rw [evy,hbl];rfl) (fun w' _=>?_) (by rw [JX];simp [Ec]) (fun e he=>?_) (fun j e q x g1 g2=>?_) (fun v hv=>?_) (by rw [VB,hbl];omega) (by rw [hbl];omega) U kc nx (by rw [JX];exact IG) hv (fun _ _ _ _ e=>(by cases e))
           .rw [evy,hbl]
            simp only [Builtin.firstCells,Sem.run_pure]
            congr 1
            apply z1t
            have:(b.extract 0 b.size)=b:=by
             apply ByteArray.ext
             simp [ByteArray.extract,ByteArray.copySlice]
            simp [this]
           .simp only [Ec,zw] at he
            obtain ⟨x,_,rfl⟩:=he
            simp [JX]
           .rw [JX]
            simp only [Ec,zlp] at g1
            cases hj:b.data.toList[j]? with
            | none => rw [hj] at g1; simp at g1
            |some c=>
             rw [hj] at g1
             simp at g1
             subst g1
             cases q with
             |zero=>
              simp at g2
              subst g2
              refine ⟨.int .u8 c.toNat,?_,.i _ _⟩
              simp only [Nat.one_mul,Nat.add_zero,zlp,hj,z8]
             | succ q => simp at g2
           .simp only [zw] at hv
            obtain ⟨x,_,rfl⟩:=hv
            rfl
          .exact hv.elim
         .exact hv.elim
        .cases hc
       .cases hc
      .cases hc
     .cases hc
    .cases hc
   .split at hc
    .cases hc;exact absurd rfl A4
    .cases hc
   .split at hc
    .cases hc;exact absurd rfl A4
    .cases hc
   . -- an entry is deleted
    rename_i j8
    split at hc
    .rename_i sm ss t u ea et
     obtain ⟨y1,y2,DK,ex,ey⟩:=MF ea
     have H3:cc.args=#[y1,y2]:=by apply z1t;simpa using DK
     have s7:cc.argTypes=#[t,u]:=by apply z1t;simpa using et
     split at hc
     .rename_i kt e eu
      split at hc
      .rename_i ek
       cases hc
       simp only at hv
       have r1:=A1 S trivial ex AZ.1
       have r2:=A1 S trivial ey AZ.2
       unfold mdK at hv
       split at hv
       .rename_i k b h1 h2
        rw [h1] at r1
        rw [h2] at r2
        have e2:=r2.str
        generalize hev:a.eval y1=vv at r1
        cases r1 with
        | pu _ _ p => cases p
        |mp _ bb c e0=>
         have key:∀(l:List (qB×AV)) (C':Ak) (c':Nat) (es:Array MapEntry) (b8:Nat),w.heap[bb]?=some (.map es b8)->MR h l es.toList->MapKept.Stamped es b8->(gc st.hp k).own 0->(∀g,C'.own g->(gc st.hp k).own g)->(∀g,C'.rgen=some g->(gc st.hp k).rgen=some g) ->
          (∀l8,MR h (De b l) l8.toList->MapKept.Stamped l8 b8->(∀x∈l8.toList,x∈es.toList)->C'.sat h J { w with heap:=w.heap.setIfInBounds bb (.map l8 b8) } k) ->
          K ⟨EN.set st.env o.dst .un,(k,C')::st.hp,st.n⟩->o.wp P a w (fun a' w'=>∃c8 h' ρ',K c8∧Sat C c8 h' ρ' a' w'∧JN (.mpd sm ss) st h h' J ρ' k0 w w') Q:=by
          intro l C' c' es b8 q2 q3 q4 t8 how hrg DH hK
          obtain ⟨l8,BE,hm,Db,hsub⟩:=RH (P:=P) (h:=h) (b:=b) (u:=u) (ty:=o.type) eu ek q2 q3 q4
          have AL:AI J st.hp bb:=⟨k,0,c,t8,e0⟩
          refine d9 (.tuple #[]) { w with heap:=w.heap.setIfInBounds bb (.map l8 b8) } ?_ ⟨_,h,J,hK,S.step (BQ.refl _) (Ck.refl _) (S.mem.put (w':={ w with heap:=w.heap.setIfInBounds bb (.map l8 b8) }) k _ (Ck.refl _) (fun _ _ _=>rfl) (fun b2 ER hx=>?_) (by simp) (DH l8 hm Db hsub) ?_ S.mem.fr ?_) ⟨rfl,rfl,rfl,by simp,fun b2 ER hx=>?_⟩ (fun b2 ER=>.inl ?_) o.dst (.pu _ _ (.un _)),⟨fun _=>Fr.refl _ _,fun _ _ _ _ e=>(by cases e)⟩⟩
          .simp [execOp,ho,resolve,j8,H3,s7,invoke,builtin,hev,e2,BE]
          .show (w.heap.setIfInBounds bb _)[b2]?=_
           rw [Array.getElem?_setIfInBounds_ne]
           intro e2
           subst e2
           rcases hx with hx | ⟨k',g',c3,BG,D2,ES⟩
           .exact hx (S.mem.hid _ AL)
           .exact BG (S.mem.inj k' k g' 0 _ _ _ D2 t8 ES e0)
          .intro g b2 c3 D2 ES
           have G1:AI J st.hp b2:=⟨k,g,c3,how g D2,ES⟩
           refine ⟨S.mem.hid _ G1,by simpa using S.mem.lt _ G1,fun k' g' c4 BG w8 Nw=>?_⟩
           exact BG (S.mem.inj k' k g' g _ _ _ w8 (how g D2) Nw ES)
          .intro g g' y e1 hr
           exact S.mem.gens k g g' y (hrg g e1) hr
          .show (w.heap.setIfInBounds bb _)[b2]?=_
           rw [Array.getElem?_setIfInBounds_ne (fun e3=>hx (by rw [<-e3];exact AL))]
          .obtain ⟨k',g',c3,D2,ES⟩:=ER
           by_cases E4:k=k'
           .subst E4
            rw [Ah] at D2
            exact ⟨k,g',c3,how g' D2,ES⟩
           .rw [Am E4] at D2
            exact ⟨k',g',c3,D2,ES⟩
         have Do:=S.mem.ch k
         split at hv
         .rename_i l hk
          rw [hk] at Do
          obtain ⟨b',c',es,b8,q1,q2,q3,q4⟩:=Ye Do
          rw [e0] at q1
          cases q1
          have EB:bb<w.heap.size:=(Array.getElem?_eq_some_iff.1 q2).1
          refine key l _ c es b8 q2 q3 q4 (by rw [hk];rfl) (fun g e=>by rw [hk];exact e) (fun g e=>by rw [hk];exact e) (fun l8 m1 m2 m3=>?_) hv
          exact ⟨bb, c, l8, b8, e0, by simp [EB], by simpa using m1.1, m2, fun j x U hj => by
           obtain ⟨u,born,z1,z2⟩:=m1.2 j x U hj
           exact ⟨u,born,by simpa using z1,z2⟩⟩
         .rename_i l sn hk
          rw [hk] at Do
          have hck0:=Do
          obtain ⟨b',c',es,b8,q1,q2,q3⟩:=Acy hck0
          obtain ⟨b'',c'',es2,clock2,p1,p2,p3,p4,p5,b2,c2,seen,g1,g2,g3,g4,g5⟩:=Do
          rw [e0] at q1 p1
          cases q1
          cases p1
          rw [q2] at p2
          cases p2
          have EB:bb<w.heap.size:=(Array.getElem?_eq_some_iff.1 q2).1
          refine key l _ c es b8 q2 q3 p4 (by rw [hk];exact .inl rfl) (fun g e=>by rw [hk];exact e) (fun g e=>by rw [hk];exact e) (fun l8 m1 m2 m3=>?_) hv
          refine ⟨bb,c,l8,b8,e0,by simp [EB],by simpa using m1.1,m2,fun j x U hj=>?_,b2,c2,seen,g1,g2,?_,fun e he x hx=>g4 e (m3 e he) x hx,fun x hx=>?_⟩
          .obtain ⟨u,born,z1,z2⟩:=m1.2 j x U hj
           exact ⟨u,born,by simpa using z1,z2⟩
          .show (w.heap.setIfInBounds bb _)[b2]?=_
           rw [Array.getElem?_setIfInBounds_ne g2]
           exact g3
          .obtain ⟨Cz,s1,s2⟩:=g5 x hx
           exact ⟨Cz,s1,fun e he hx=>s2 e (m3 e he) hx⟩
         .exact hv.elim
       .exact hv.elim
      .cases hc
     .cases hc
    .cases hc
   . -- a slice is cleared
    rename_i j8
    split at hc
    .rename_i sx t ea et
     obtain ⟨y1,DK,ex⟩:=Jz ea
     have H3:cc.args=#[y1]:=by apply z1t;simpa using DK
     have s7:cc.argTypes=#[t]:=by apply z1t;simpa using et
     split at hc
     .rename_i e het
      have eu:P.underlying t=some (.slice e):=by
       unfold IR at het
       split at het<;>simp_all
      split at hc
      .rename_i i hi
       split at hc
       .rename_i z hz
        split at hc
        .rename_i Hs
         obtain ⟨zl,VE,rfl⟩:=z1h.1 hc
         simp only at hv
         have r1:=A1 S trivial ex AZ
         obtain ⟨w',Al,q1,q2,q3,q4,q5⟩:=Abx S (ty:=o.type) eu hi hz Hs VE r1 hv
         refine d9 (.tuple #[]) w' ?_ ⟨_,h,J,q2,S.step (BQ.refl _) (Ck.refl _) q3 q4 (fun b hb=>.inl (q5 b hb)) _ (.pu _ _ (.un _)),(fun _=>Fr.refl _ _),(fun x y n b e=>by cases e)⟩
         simp [execOp,ho,resolve,j8,H3,s7,invoke,builtin,q1]
        .cases hc
       .cases hc
      .cases hc
     .cases hc
    .cases hc
   . -- a function by its name
    rename_i f j8
    cases ea:srcs C.N cc.args.toList with
    | none => simp [ea] at hc
    |some l=>
     simp [ea] at hc
     subst hc
     have r:=ED S trivial ea AZ
     refine callStep rfl f _ _ r ?_ hv
     have em:cc.args.map a.eval=(cc.args.toList.map a.eval).toArray:=by apply z1t;simp
     simp [execOp,ho,resolve,j8,Act.eval,Deferred.ofValue,invoke]
     rw [em]
   . -- a function value
    rename_i f _ j8
    split at hc
    .rename_i sx l ex el
     cases hc
     simp only at hv
     split at hv
     .rename_i g i8 hg
      have rf:=A1 S trivial ex AZ.1
      rw [hg] at rf
      obtain ⟨cs,ev,rcs⟩:=rf.func
      have r:=ED S trivial el AZ.2
      refine callStep rfl g _ ((cc.args.toList.map a.eval)++cs) ⟨by have h1:=r.1;have h2:=rcs.1;simp at h1 ⊢;omega,fun j U v g1 g2=>?_⟩ ?_ hv
      .rw [List.getElem?_append] at g1 g2
       have hl:=r.1
       rw [hl] at g1
       split at g1
       .rename_i hj
        rw [if_pos hj] at g2
        exact r.2 j U v g1 g2
       .rename_i hj
        rw [if_neg hj] at g2
        exact rcs.2 _ U v g1 g2
      .have em:cc.args.map a.eval++cs.toArray=((cc.args.toList.map a.eval)++cs).toArray:=by apply z1t;simp
       simp [execOp,ho,resolve,j8,ev,Deferred.ofValue,invoke]
       rw [em]
     .exact hv.elim
    .cases hc
   .cases hc
  .cases hc
theorem Fx {c:Au} (hc:PT P C.N d4 o=some c) (hv:D9 P st.n ⟨o.dst,c,g,dp,fz⟩ st K) (hS:S C st a w) (Q:Exit->Act->World->Prop) :
 o.wp P a w (fun a' w'=>∃c8,K c8∧S C c8 a' w') Q:=by
 obtain ⟨h,J,S⟩:=hS
 exact Oper.wp_mono (fun a' w' ⟨c8,h',ρ',k,s,_⟩=>⟨c8,k,h',ρ',s⟩) (Ek hc hv S (fun g=>S.mem.fr st.n g (zna _)) Q)
end
