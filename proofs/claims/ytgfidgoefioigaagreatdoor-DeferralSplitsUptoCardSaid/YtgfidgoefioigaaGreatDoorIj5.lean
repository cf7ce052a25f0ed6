/- Proof. Conditions: none. -/
import Derived.Test.YtgfidgoefioigaaGreatDoorIj4
open List renaming mem_of_getElem?->zq,length_eq_zero_iff->z26,length_eraseIdx->z4j
open Nat renaming mul_le_mul_left->z15,mul_comm->z1g,add_sub_cancel_left->z2z,le_refl->zx
open Array renaming filter_eq_empty_iff->z3u,mem_filter->z41
open List renaming getElem?_eq_some_iff->zlb,getElem?_append->zlm
open Nat renaming le_refl->zna
namespace Go.Eng
set_option linter.all false
section
variable {P:Program}
section
variable {w:World} {t u ty e:TypeId} {i:TypeInfo} {d:TypeDesc}
theorem Fe (ht:P.underlying t=some (.slice e)) (hu:P.underlying u=some d) (hd:∀k,d≠.int k) (hi:P.info? e=some i)
 {xv:Value} {m:Nat} {d7:List Value} (Bn:(Builtin.lenOf xv).run P w=.ok m w) (Gw:(Builtin.firstCells i.size m xv).run P w=.ok d7.toArray w)
 {base:Option Addr} {sLen sCap:Nat} (IK:sLen+m<=sCap) {w':World} (Db:∀a,base=some a->(storeCells (a.add (sLen*i.size)) d7).run P w=.ok () w') (Wa:base=none->w'=w) :
 (Builtin.append_ #[t,u] ty #[.slice base sLen sCap,xv]).run P w=.ok (.slice base (sLen+m) sCap) w':=by
 cases base with
 |none=>
  have:=Wa rfl
  subst this
  simp only [Builtin.append_]
  simp [run_underlying ht,run_underlying hu,sizeOf,typeInfo,hi,Bn]
  cases d with
  |int k=>exact absurd rfl (hd k)
  |_=>simp [IK,Gw]
 |some a=>
  have h:=Db a rfl
  simp only [Builtin.append_]
  simp [run_underlying ht,run_underlying hu,sizeOf,typeInfo,hi,Bn]
  cases d with
  |int k=>exact absurd rfl (hd k)
  |_=>simp [IK,Gw,h]
theorem IC {z:Value} (ht:P.underlying t=some (.slice e)) (hu:P.underlying u=some d) (hd:∀k,d≠.int k) (hi:P.info? e=some i) (hz:i.zero=some z)
 {xv:Value} {m:Nat} {d7 m7:List Value} (Bn:(Builtin.lenOf xv).run P w=.ok m w) (Gw:(Builtin.firstCells i.size m xv).run P w.drew=.ok d7.toArray w.drew)
 {base:Option Addr} {sLen sCap:Nat} (E2:(Builtin.firstCells i.size sLen (.slice base sLen sCap)).run P w.drew=.ok m7.toArray w.drew) (hgr:sCap<sLen+m)
 (Wb:((sLen+m:Nat):Int)<=9223372036854775807) (IK:Builtin.nextslicecap (sLen+m) sCap*i.bytes<=281474976710656) :
 (Builtin.append_ #[t,u] ty #[.slice base sLen sCap,xv]).run P w =
  .ok (.slice (some ⟨w.heap.size,0,none⟩) (sLen+m) (grownCap w (sLen+m) sCap e)) (w.drew.alloc (.cells ((m7++d7).toArray++Builtin.zeroCells z.cells (grownCap w (sLen+m) sCap e - (sLen+m))) e)):=by
 have hn:¬(sLen+m<=sCap):=by omega
 have h63':¬(9223372036854775807<((sLen:Int)+(m:Int))):=by omega
 have h48':¬(281474976710656<Builtin.nextslicecap (sLen+m) sCap*i.bytes):=by omega
 have e:∀Z:Array Value,(m7++d7).toArray++Z=m7.toArray++(d7.toArray++Z):=fun Z=>by rw [<-Array.append_assoc];simp
 rw [e]
 simp only [Builtin.append_]
 simp [run_underlying ht,run_underlying hu,sizeOf,typeInfo,zeroValue,hi,hz,Bn,hn]
 cases d with
 |int k=>exact absurd rfl (hd k)
 |_=>simp [hn,h63',h48',Question.forced,Gw,E2,newRow,grownCap]
end
end
section
variable {nb:Bool} {g n:Nat} {l:List (List AV)} {hp:CH} {x:AV} {h:HP} {J:RO} {w:World}
def HQ (hp:CH) (nx k0 n:Nat) (x:AV) (l2:List (List AV)):Option (AV×(Nat×Ak)×Nat) :=
 match x with
 | .e0=>some (.rw k0 0 l2.length,(k0,.rw 0 n l2),max nx (k0+1))
 | .rw k g len=>match gc hp k with
  | .rw g' n' l=>if g=g'∧n=n'∧len=l.length then some (.rw k (g+1) (len+l2.length),(k,.rw (g+1) n (l++l2)),nx) else none
  | .rc g' n' cap l=>if g=g'∧n=n'∧len<=l.length then some (if len+l2.length<=cap then (.rw k g (len+l2.length),(k,.rc g n cap (l.take len++l2)),nx) else (.rw k0 0 (len+l2.length),(k0,.rw 0 n (l.take len++l2)),max nx (k0+1))) else none
  |_=>none
 | .rf k g n' off len=>match gc hp k with
  | .rc g' n2 cap l=>if g=g'∧n'=n∧n2=n∧off+len<=l.length∧0<l2.length then some (if off+len+l2.length<=cap then (.rf k g n off (len+l2.length),(k,.rc g n cap (l.take (off+len)++l2)),nx) else (.rf k0 0 n 0 (len+l2.length),(k0,.rw 0 n ((l.drop off).take len++l2)),max nx (k0+1))) else none
  |_=>none
 |_=>none
def XH:Bool->Ak->Option (Nat×Nat×List (List AV))
 |false,.rw g n l=>some (g,n,l)
 |true,.rn g n l=>some (g,n,l)
 |_,_=>none
theorem Z0 {c:Ak} (h:XH nb c=some (g,n,l)):c=G9 nb g n l:=by
 cases nb<;>cases c<;>first | (cases h;done) | (simp only [XH,Option.some.injEq,Prod.mk.injEq] at h;obtain ⟨rfl,rfl,rfl⟩:=h;rfl)
def Qp (nb:Bool) (hp:CH) (nx k0 n:Nat) (x:AV) (l2:List (List AV)):Option (AV×(Nat×Ak)×Nat) :=
 match x with
 | .e0=>some (.rw k0 0 l2.length,(k0,G9 nb 0 n l2),max nx (k0+1))
 | .rw k g len=>match XH nb (gc hp k) with
  |some (g',n',l)=>if g=g'∧n=n'∧len=l.length then some (.rw k (g+1) (len+l2.length),(k,G9 nb (g+1) n (l++l2)),nx) else none
  |none=>none
 |_=>none
theorem Aga {nx k0:Nat} {l2:List (List AV)} {r:AV×(Nat×Ak)×Nat} (h:HQ hp nx k0 n x l2=some r):Qp false hp nx k0 n x l2=some r ∨
 (∃k g len cap l,x=.rw k g len∧gc hp k=.rc g n cap l∧len<=l.length∧r=if len+l2.length<=cap then (.rw k g (len+l2.length),(k,.rc g n cap (l.take len++l2)),nx) else (.rw k0 0 (len+l2.length),(k0,.rw 0 n (l.take len++l2)),max nx (k0+1))) ∨
 ∃k g off len cap l,x=.rf k g n off len∧gc hp k=.rc g n cap l∧off+len<=l.length∧0<l2.length∧r=if off+len+l2.length<=cap then (.rf k g n off (len+l2.length),(k,.rc g n cap (l.take (off+len)++l2)),nx) else (.rf k0 0 n 0 (len+l2.length),(k0,.rw 0 n ((l.drop off).take len++l2)),max nx (k0+1)):=by
 cases x with
 |rw k g len=>
  cases hg:gc hp k with
  |rc g' n' cap l=>
   right
   left
   simp only [HQ,hg] at h
   split at h
   .rename_i hc
    obtain ⟨rfl,rfl,hle⟩:=hc
    cases h
    exact ⟨k,g,len,cap,l,rfl,hg,hle,rfl⟩
   .cases h
  |_=>
   left
   simp only [HQ,hg] at h
   simp only [Qp,hg]
   exact h
 |rf k g n' off len=>
  right
  right
  cases hg:gc hp k with
  |rc g' n2 cap l=>
   simp only [HQ,hg] at h
   split at h
   .rename_i hc
    obtain ⟨rfl,rfl,rfl,hle,h0⟩:=hc
    cases h
    exact ⟨k,g,off,len,cap,l,rfl,hg,hle,h0,rfl⟩
   .cases h
  |_=>simp [HQ,hg] at h
 |_=>exact .inl h
theorem WF {n0:Nat} (m:SatH h J hp n0 w) {k len:Nat} {v:Value} (r:Ba h J (.rw k g len) v) (hk:gc hp k=G9 nb g n l) (hl:len=l.length) :
 ∃a cap,v=.slice a l.length cap∧l.length<=cap∧∃q0,(∀(j:Nat) e,l[j]?=some e->e.length=q0) ∧
  (l≠[]->∃b o,a=some ⟨b,o,none⟩∧∀(j:Nat) e (q:Nat) x,l[j]?=some e->e[q]?=some x->∃u,w.cell? ⟨b,o+q0*j+q,none⟩=some u∧RR nb h J x u):=by
 cases nb with
 |false=>exact Pu m r (by simp [sl0,sl,hk,G9,hl])
 |true=>exact Fb m r (by simp [sl,hk,G9,hl])
def C1:AV->Nat
 | .rw _ _ len=>len
 | .rf _ _ _ _ len=>len
 |_=>0
theorem JJ (w:World) (n8 old:Nat) (e:TypeId) (h:n8<=9223372036854775807):n8<=grownCap w n8 old e∧grownCap w n8 old e<=maxLen:=by
 have h1:w.tape w.drawn (.appendCap n8 old e) % (2 ^ 63 - n8)<2 ^ 63 - n8:=Nat.mod_lt _ (by omega)
 show n8<=n8+w.tape w.drawn (.appendCap n8 old e) % (2 ^ 63 - n8)∧n8+w.tape w.drawn (.appendCap n8 old e) % (2 ^ 63 - n8)<=2 ^ 63 - 1
 omega
def Aoz (J ρ':RO) (w w':World) (k g:Nat):Prop:=ρ' k (g+1)=J k g∨((∀b,b<w.heap.size->w'.heap[b]?=w.heap[b]?)∧∀b c,ρ' k (g+1)=some (some b,c)->w.heap.size<=b)
def Ahz (hp:CH) (J ρ':RO) (w w':World) (x:AV):Prop:=Ck J ρ'∧∀k g len n l,x=.rw k g len->gc hp k=.rw g n l->Aoz J ρ' w w' k g
def Zt (m:Nat) (J ρ':RO) (w w':World) (x:AV):Prop:=Ck J ρ'∧∀k g len ob cap,x=.rw k g len->J k g=some (ob,cap)->(len+m<=cap->ρ' k (g+1)=J k g) ∧
 (cap<len+m->(∀b,b<w.heap.size->w'.heap[b]?=w.heap[b]?)∧∀b c,ρ' k (g+1)=some (some b,c)->w.heap.size<=b)
theorem Zt.old {m:Nat} {ρ':RO} {w':World} (c:Zt m J ρ' w w' x) (s:SatH h J hp n w):Ahz hp J ρ' w w' x:=by
 refine ⟨c.1,fun k g len n l ex hk=>?_⟩
 have hc:=s.ch k
 rw [hk] at hc
 obtain ⟨ob,cap,h1,_⟩:=hc
 have h2:=c.2 k g len ob cap ex h1
 rcases Nat.lt_or_ge cap (len+m) with q | q
 .exact .inr (h2.2 q)
 .exact .inl (h2.1 q)
theorem OX {P:Program} {C:Ctx} {st:St} {a:Act} (S:Sat C st h J a w) {t u ty e:TypeId} {i:TypeInfo} {d:TypeDesc} {z:Value}
 (ht:P.underlying t=some (.slice e)) (hu:P.underlying u=some d) (hd:∀k,d≠.int k) (hi:P.info? e=some i) (hz:i.zero=some z) (Hs:z.cells.size=i.size)
 {x:AV} {xv yv:Value} (rx:Ba h J x xv) {l2:List (List AV)} {d7:List Value}
 (Bn:∀w':World,w'.heap=w.heap->(Builtin.lenOf yv).run P w'=.ok l2.length w') (Gw:∀w':World,w'.heap=w.heap->(Builtin.firstCells i.size l2.length yv).run P w'=.ok d7.toArray w')
 (O2:d7.length=l2.length*i.size) (BG:∀e∈l2,e.length=i.size) (l6:∀(j:Nat) e (q:Nat) x,l2[j]?=some e->e[q]?=some x->∃u,d7[i.size*j+q]?=some u∧RR nb h J x u) (FK:∀v∈d7,v.oneCell'=true)
 (EB:(C1 x+l2.length)*i.bytes<=140737488355328) (Wb:C1 x+l2.length<=9223372036854775807)
 {U:AV} {kc:Nat×Ak} {nx':Nat} {k0:Nat} (Ia:∀g,J k0 g=none) (IG:Qp nb st.hp st.n k0 i.size x l2=some (U,kc,nx')) :
 ∃v w',(Builtin.append_ #[t,u] ty #[xv,yv]).run P w=.ok v w'∧∀dd,∃ρ',Fr J ρ' k0∧Sat C ⟨EN.set st.env dd U,kc::st.hp,nx'⟩ h ρ' (a.put dd v) w'∧Zt l2.length J ρ' w w' x:=by
 -- a new block for chunk k,generation g
 have fresh:∀(k g len cap:Nat) (base:Option Addr) (m7:List Value) (l:List (List AV)),xv=.slice base len cap->len=l.length->C1 x=len->(Builtin.firstCells i.size len xv).run P w.drew=.ok m7.toArray w.drew->m7.length=len*i.size ->
  (∀(j:Nat) e (q:Nat) x,l[j]?=some e->e[q]?=some x->∃u,m7[i.size*j+q]?=some u∧RR nb h J x u)->(∀e∈l,e.length=i.size)->cap<len+l2.length->len<=cap ->
  J k g=none->(∀g',J k g'≠none->g'<=g)->Fr J (By J k g (some w.heap.size,grownCap w (len+l2.length) cap e)) k0->nx'=max st.n (k+1) ->
  U=.rw k g (len+l2.length)->kc=(k,G9 nb g i.size (l++l2))->(∀k' g' l9,x=.rw k' g' l9->k'=k∧g'+1=g)->∃v w',(Builtin.append_ #[t,u] ty #[xv,yv]).run P w=.ok v w'∧∀dd,∃ρ',Fr J ρ' k0∧Sat C ⟨EN.set st.env dd U,kc::st.hp,nx'⟩ h ρ' (a.put dd v) w'∧Zt l2.length J ρ' w w' x:=by
  intro k g len cap base m7 l ex hll LW E2 QR hoc hle hgr OD hρ EO hFr hnx eα ekc hxk
  subst ex eα ekc
  have IK:=growslice_fits hgr (by rw [<-LW];exact EB)
  have BE:=IC (w:=w) (ty:=ty) ht hu hd hi hz (Bn w rfl) (Gw w.drew rfl) E2 hgr (by have:=Wb;rw [LW] at this;omega) IK
  obtain ⟨c1,c2⟩:=JJ w (len+l2.length) cap e (by rw [<-LW];exact Wb)
  generalize q7:grownCap w (len+l2.length) cap e=gcap at *
  have hfr2:∀k' g' l9 ob2 cap2,x=.rw k' g' l9->J k' g'=some (ob2,cap2)->¬l9+l2.length<=cap2:=by
   intro k' g' l9 ob2 cap2 ex hr hc
   rw [ex] at rx
   cases rx with
   | pu _ _ p => cases p
   | rw _ _ _ _ _ ob3 e1 hl1 ha => rw [hr] at e1; cases e1; omega
  refine ⟨_, _, BE, fun dd => ⟨By J k g (some w.heap.size, gcap), hFr, ?_, BT _ hρ, fun k' g' l9 ob2 cap2 ex Nw => ⟨fun hc => absurd hc (hfr2 k' g' l9 ob2 cap2 ex Nw), fun _ => ⟨fun b hb => heap_alloc_old w.drew _ b hb, fun b c hr => by
   obtain ⟨q1,q2⟩:=hxk k' g' _ ex
   rw [q1,q2,A0] at hr
   cases hr
   exact zna _⟩⟩⟩⟩
  have Eb:=BT (some w.heap.size,gcap) hρ
  have DH:(G9 nb g i.size (l++l2)).sat h (By J k g (some w.heap.size,gcap)) (w.drew.alloc (.cells ((m7++d7).toArray++Builtin.zeroCells z.cells (gcap - (len+l2.length))) e)) k:=by
   rw [EC]
   refine ⟨some w.heap.size,gcap,A0 _ _ _ _,by simp;omega,c2,fun j e he=>?_,(fun hx=>by cases hx),fun b hb=>?_⟩
   .rw [List.getElem?_append] at he
    split at he
    .exact hle e (zq he)
    .exact BG e (zq he)
   .cases hb
    refine ⟨_,_,heap_alloc_new w.drew _,?_,fun j y q β h1 h2=>?_⟩
    .simp [Builtin.zeroCells,QR,O2,Hs]
     rw [<-Nat.add_mul,<-Nat.add_mul]
     congr 1
     omega
    .have hy:y.length=i.size:=by
      rw [zlm] at h1
      split at h1
      .exact hle y (zq h1)
      .exact BG y (zq h1)
     have hq:q<i.size:=by have:=(List.getElem?_eq_some_iff.1 h2).1;omega
     have VZ:∀m,j<m->i.size*j+q<m*i.size:=by
      intro m hm
      have:i.size*j+i.size<=i.size*m:=by rw [<-Nat.mul_succ];exact z15 _ hm
      rw [z1g m]
      omega
     rw [zlm] at h1
     split at h1
     .rename_i hj
      obtain ⟨v,g1,g2⟩:=hoc j y q β h1 h2
      refine ⟨v,?_,g2.mono (BQ.refl _) Eb⟩
      have:=VZ l.length hj
      have BY:i.size*j+q<m7.length:=by rw [QR,hll];exact this
      rw [Array.getElem?_append]
      rw [if_pos (by simp;omega)]
      rw [List.getElem?_toArray,List.getElem?_append_left BY]
      exact g1
     .rename_i hj
      obtain ⟨v,g1,g2⟩:=l6 (j - l.length) y q β h1 h2
      refine ⟨v,?_,g2.mono (BQ.refl _) Eb⟩
      have hjl:j - l.length<l2.length:=(zlb.1 h1).1
      have e1:i.size*j+q=len*i.size+(i.size*(j - l.length)+q):=by
       rw [hll,Nat.mul_sub,z1g l.length]
       have:i.size*l.length<=i.size*j:=z15 _ (by omega)
       omega
      have BY:i.size*(j - l.length)+q<d7.length:=(zlb.1 g1).1
      rw [Array.getElem?_append]
      rw [if_pos (by simp;omega)]
      rw [List.getElem?_toArray,List.getElem?_append_right (by omega),QR,e1,z2z]
      exact g1
  have hnl2 : ∀ b, AI J st.hp b -> b ≠ w.heap.size := fun b hb e => by have := S.mem.lt b hb; omega
  refine S.step (BQ.refl _) Eb ?_ ((Keeps.drew _ _).trans (Keeps.alloc _ _ _) (fun _ _ h=>h)) (fun b hb=>?_) dd (.rw _ _ _ _ _ (some w.heap.size) (A0 _ _ _ _) (by omega) (fun b hb=>by cases hb;rfl))
  .refine SatH.put (S.mem.heap (w':=w.drew) rfl) k _ Eb (fun k' g' hk=>AY _ _ hk) (fun b hb _=>heap_alloc_old w.drew _ b hb) (by simp) DH ?_ ?_ ?_
   .intro g2 b c hg hr
    rw [BP] at hg
    cases hg
    rw [A0] at hr
    cases hr
    refine ⟨?_,by simp,fun k' g' c2 hk D2 hr=>?_⟩
    .cases hb:h w.heap.size with
     | none => rfl
     | some o => have := S.mem.hh _ _ hb; simp at this
    .exact hnl2 _ ⟨k',g',c2,D2,hr⟩ rfl
   .intro k' g' hk
    rw [AY _ _ (by omega)]
    exact S.mem.fr k' g' (by omega)
   .intro g2 g' y e1 hr
    rw [CE] at e1
    cases e1
    by_cases hgg:g'=g
    .omega
    .unfold By at hr
     rw [if_neg (by omega)] at hr
     exact EO g' (by rw [hr];simp)
  .exact B7 (B:=w.heap.size) (fun b e=>by cases e;exact zx _) (fun j e=>by rw [BP] at e;exact e) b hb
 unfold Qp at IG
 split at IG
 . -- an empty slice without capacity
  cases IG
  have exv : ∃ base, xv = .slice base 0 0 := by cases rx with | pu _ _ p => cases p with | e0 a => exact ⟨a, rfl⟩
  obtain ⟨base,rfl⟩:=exv
  have hρ:∀g,J k0 g=none:=Ia
  by_cases h0:l2=[]
  .subst h0
   have hnn:d7=[]:=by simpa using O2
   subst hnn
   have BE:=Fe (w:=w) (ty:=ty) ht hu hd hi (Bn w rfl) (Gw w rfl) (base:=base) (sLen:=0) (sCap:=0) (by simp) (w':=w) (fun a _=>by simp [storeCells]) (fun _=>rfl)
   refine ⟨_,_,BE,fun dd=>⟨By J k0 0 (none,0),Fr.new _ _ _ _,?_,BT _ (Ia 0),fun _ _ _ _ _ e=>(by cases e)⟩⟩
   have Eb:=BT (none,0) (hρ 0)
   refine S.step (BQ.refl _) Eb ?_ (Keeps.refl _ _) (fun b hb=>?_) dd (.rw _ _ _ _ _ none (A0 _ _ _ _) (by simp) (fun b hb=>by cases hb))
   .refine S.mem.put k0 _ Eb (fun k' g' hk=>AY _ _ hk) (fun b _ _=>rfl) (zx _) ?_ ?_ ?_ ?_
    .rw [EC]
     exact ⟨none,0,A0 _ _ _ _,by simp,by unfold maxLen;omega,(fun j e h=>by simp at h),(fun _=>rfl),(fun b hb=>by cases hb)⟩
    .intro g b c hg hr
     rw [BP] at hg
     cases hg
     rw [A0] at hr
     cases hr
    .intro k' g' hk
     rw [AY _ _ (by omega)]
     exact S.mem.fr k' g' (by omega)
    .intro g2 g' y e1 hr
     rw [CE] at e1
     cases e1
     by_cases hgg:g'=0
     .omega
     .unfold By at hr
      rw [if_neg (by omega),hρ g'] at hr
      cases hr
   .rcases B7 (B:=w.heap.size) (fun b e=>by cases e) (fun j e=>by rw [BP] at e;exact e) b hb with h1 | h1
    .exact .inl h1
    .exact .inr h1
  .have HZ:0<l2.length:=List.length_pos_iff.2 h0
   refine fresh k0 0 0 0 base [] [] rfl rfl rfl ?_ (by simp) (fun j e q x h=>by simp at h) (fun e h=>(by cases h)) (by omega) (zx _) (hρ 0) (fun g' hg=>absurd (hρ g') hg) (Fr.new _ _ _ _) (by omega) (by simp) (by simp) (fun _ _ _ e=>(by cases e))
   cases base with
   | none => simp [Builtin.firstCells]
   | some a => simpa using run_firstCells_some (P := P) w.drew i.size 0 a 0 0 [] (by simp) (fun j v h => by simp at h)
 .rename_i k g len
  split at IG
  .rename_i g' n' l hk
   have hk:=Z0 hk
   split at IG
   .rename_i hc
    obtain ⟨rfl,hnn',hll⟩:=hc
    cases IG
    have Do:=S.mem.ch k
    rw [hk,EC] at Do
    obtain ⟨ob,cap,h1,h2,EY,h3,h4,h5⟩:=Do
    have hls : ∀ e ∈ l, e.length = i.size := fun e he => by
     obtain ⟨j,hj,rfl⟩:=List.mem_iff_getElem.1 he
     rw [hnn']
     exact h3 j _ (by simp [hj])
    obtain ⟨base,i6,m7,exv,OD,QR,E2,hoc⟩:=HV (P:=P) (WF S.mem rx hk hll) hls
    have TS:i6=cap∧(∀b,ob=some b->base=some ⟨b,0,none⟩):=by
     subst exv
     cases rx with
     | pu _ _ p => cases p
     | rw _ _ _ _ _ o7 e1 hl1 ha => rw [h1] at e1; cases e1; exact ⟨rfl, ha⟩
    obtain ⟨rfl,hbase⟩:=TS
    subst hll
    have hρ1:J k (g+1)=none:=by
     cases hx:J k (g+1) with
     | none => rfl
     | some y => have := S.mem.gens k g (g + 1) y (by rw [hk]; exact CE ..) hx; omega
    have Bz:k<st.n:=by
     rcases Nat.lt_or_ge k st.n with BY | hge
     .exact BY
     .rw [S.mem.fr k g hge] at h1;cases h1
    by_cases IK:l.length+l2.length<=i6
    . -- there is room
     have Eb:Ck J (By J k (g+1) (ob,i6)):=BT _ hρ1
     cases ob with
     |none=>
      have hc0:=h4 rfl
      have hl20:l2=[]:=z26.1 (by omega)
      subst hl20
      have hnn0:d7=[]:=by simpa using O2
      subst hnn0
      have BE:=Fe (w:=w) (ty:=ty) ht hu hd hi (Bn w rfl) (Gw w rfl) (base:=base) (sLen:=l.length) (sCap:=i6) (by simpa using IK) (w':=w) (fun a _=>by simp [storeCells]) (fun _=>rfl)
      rw [exv]
      refine ⟨_,_,BE,fun dd=>⟨By J k (g+1) (none,i6),Fr.old h1 _ _ _,?_,Eb,fun _ _ _ _ _ e hr=>by cases e;rw [h1] at hr;cases hr;exact ⟨fun _=>by rw [A0];exact h1.symm,fun hx=>absurd hx (by omega)⟩⟩⟩
      refine S.step (BQ.refl _) Eb ?_ (Keeps.refl _ _) (fun b hb=>?_) dd (.rw _ _ _ _ _ none (A0 _ _ _ _) (by simpa using IK) (fun b hb=>by cases hb))
      .refine S.mem.put k _ Eb (fun k' g' hk=>AY _ _ hk) (fun b _ _=>rfl) (zx _) ?_ ?_ ?_ ?_
       .rw [EC]
        exact ⟨none,i6,A0 _ _ _ _,by simpa using IK,EY,(fun j e he=>by rw [List.append_nil] at he;rw [hnn'];exact h3 j e he),h4,(fun b hb=>by cases hb)⟩
       .intro g b c hg hr
        rw [BP] at hg
        cases hg
        rw [A0] at hr
        cases hr
       .intro k' g' HF
        rw [AY _ _ (by omega)]
        exact S.mem.fr k' g' HF
       .intro g2 g' y e1 hr
        rw [CE] at e1
        cases e1
        by_cases hgg:g'=g+1
        .omega
        .unfold By at hr
         rw [if_neg (by omega)] at hr
         have:=S.mem.gens k g g' y (by rw [hk];exact CE ..) hr
         omega
      .rcases B7 (B:=w.heap.size) (fun b e=>by cases e) (fun j e=>by rw [BP] at e;exact e) b hb with h1 | h1
       .exact .inl h1
       .exact .inr h1
     |some b=>
      have hb:=hbase b rfl
      subst hb
      obtain ⟨old,te,a1,a2,a3⟩:=h5 b rfl
      have AL:AI J st.hp b:=⟨k,g,i6,by rw [hk,BP],h1⟩
      have hroom:l.length*i.size+d7.length<=old.size:=by
       rw [O2,a2,<-hnn',<-Nat.add_mul]
       exact Nat.mul_le_mul_right _ IK
      have Db:=run_storeCells_at (P:=P) b (l.length*i.size) te d7 0 old w a1 (by omega) FK
      simp only [Nat.add_zero] at Db
      have BE:=Fe (w:=w) (ty:=ty) ht hu hd hi (Bn w rfl) (Gw w rfl) (base:=some ⟨b,0,none⟩) (sLen:=l.length) (sCap:=i6) IK
       (fun a' VA=>by cases VA;rw [Addr.add_lit,Nat.zero_add];exact Db) (fun hx=>by cases hx)
      rw [exv]
      refine ⟨_,_,BE,fun dd=>⟨By J k (g+1) (some b,i6),Fr.old h1 _ _ _,?_,Eb,fun _ _ _ _ _ e hr=>by cases e;rw [h1] at hr;cases hr;exact ⟨fun _=>by rw [A0];exact h1.symm,fun hx=>absurd hx (by omega)⟩⟩⟩
      refine S.step (BQ.refl _) Eb ?_ (Keeps.setRow _ _ _ AL) (fun b2 ER=>?_) dd (.rw _ _ _ _ _ (some b) (A0 _ _ _ _) (by omega) (fun b2 ER=>by cases ER;rfl))
      .refine S.mem.put k _ Eb (fun k' g' hk=>AY _ _ hk) (fun b2 ER hx=>?_) (by simp) ?_ ?_ ?_ ?_
       .apply setRow_other
        intro e2
        subst e2
        rcases hx with hx | ⟨k2,g2,c2,s6,w8,Nw⟩
        .exact hx (S.mem.hid _ AL)
        .exact s6 (S.mem.inj k2 k g2 g _ _ _ w8 (by rw [hk,BP]) Nw h1)
       .rw [EC]
        refine ⟨some b,i6,A0 _ _ _ _,by simpa using IK,EY,fun j y hy=>?_,(fun hx=>by cases hx),fun b2 ER=>?_⟩
        .rw [List.getElem?_append] at hy
         split at hy
         .exact hls y (zq hy)
         .exact BG y (zq hy)
        .cases ER
         refine ⟨_,te,setRow_heap w b old _ te _ a1,?_,fun j y q β g1 g2=>?_⟩
         .simp
          rw [<-hnn'] at a2
          omega
         .have hy:y.length=i.size:=by
           rw [zlm] at g1
           split at g1
           .exact hls y (zq g1)
           .exact BG y (zq g1)
          have hq:q<i.size:=by have:=(List.getElem?_eq_some_iff.1 g2).1;omega
          have VZ:∀m,j<m->i.size*j+q<m*i.size:=by
           intro m hm
           have:i.size*j+i.size<=i.size*m:=by rw [<-Nat.mul_succ];exact z15 _ hm
           rw [z1g m]
           omega
          have w6:min (l.length*i.size) old.size=l.length*i.size:=by omega
          rw [zlm] at g1
          rw [List.getElem?_toArray,List.append_assoc,zlm]
          simp only [List.length_take,Array.length_toList,w6]
          split at g1
          .rename_i hj
           rw [if_pos (VZ _ hj),List.getElem?_take,if_pos (VZ _ hj)]
           obtain ⟨v,z1,z2⟩:=a3 j y q β g1 g2
           refine ⟨v,?_,z2.mono (BQ.refl _) Eb⟩
           rw [hnn']
           simpa using z1
          .rename_i hj
           obtain ⟨v,z1,z2⟩:=l6 (j - l.length) y q β g1 g2
           have e1:i.size*j+q=l.length*i.size+(i.size*(j - l.length)+q):=by
            rw [Nat.mul_sub,z1g l.length]
            have:i.size*l.length<=i.size*j:=z15 _ (by omega)
            omega
           have BY:i.size*(j - l.length)+q<d7.length:=(zlb.1 z1).1
           refine ⟨v,?_,z2.mono (BQ.refl _) Eb⟩
           rw [if_neg (by omega),List.getElem?_append,if_pos (by omega),e1,z2z]
           exact z1
       .intro g2 b2 c2 w8 Nw
        rw [BP] at w8
        cases w8
        rw [A0] at Nw
        cases Nw
        refine ⟨S.mem.hid _ AL,by simpa using S.mem.lt _ AL,fun k2 g3 c3 s6 hg3 hr3=>?_⟩
        exact s6 (S.mem.inj k2 k g3 g _ _ _ hg3 (by rw [hk,BP]) hr3 h1)
       .intro k' g' HF
        rw [AY _ _ (by omega)]
        exact S.mem.fr k' g' HF
       .intro g2 g' y e1 hr
        rw [CE] at e1
        cases e1
        by_cases hgg:g'=g+1
        .omega
        .unfold By at hr
         rw [if_neg (by omega)] at hr
         have:=S.mem.gens k g g' y (by rw [hk];exact CE ..) hr
         omega
      .obtain ⟨k2,g2,c2,e2,r2⟩:=ER
       by_cases E4:k=k2
       .subst E4
        rw [Ah,BP] at e2
        cases e2
        rw [A0] at r2
        cases r2
        exact .inl AL
       .rw [Am E4] at e2
        rw [AY _ _ (fun e=>E4 e.symm)] at r2
        exact .inl ⟨k2,g2,c2,e2,r2⟩
    . -- it grows
     refine fresh k (g+1) l.length i6 base m7 l exv rfl rfl (E2 w.drew rfl) QR hoc hls (by omega) OD hρ1 (fun g' hg=>?_) (Fr.old h1 _ _ _) (by omega) rfl rfl (fun _ _ _ e=>by cases e;exact ⟨rfl,rfl⟩)
     cases hx:J k g' with
     | none => exact absurd hx hg
     | some y => have := S.mem.gens k g g' y (by rw [hk]; exact CE ..) hx; omega
   .cases IG
  .cases IG
 .cases IG
/-! ### Maps that are gone through -/
end
section
variable {P:Program}
section
variable {w:World} {r m s l bb b8:Nat} {seen:Array Nat} {es:Array MapEntry} {h:HP}
theorem Mo (w:World) (n:Nat) (hn:0<n):∃i wd,i<n∧(wd=w∨wd=w.drew)∧(choose (.mapNext n)).run P w=.ok i wd:=by
 by_cases h:n<=1
 .refine ⟨0,w,hn,.inl rfl,?_⟩
  simp [choose,Sem.run,Question.forced,h]
 .refine ⟨(w.tape w.drawn (.mapNext n)) % n,w.drew,Nat.mod_lt _ hn,.inr rfl,?_⟩
  simp [choose,Sem.run,Question.forced,h,Question.cut]
theorem Gn (hb:w.heap[r]?=some (.mapIter (some m) s seen l)):(getObj r).run P w=.ok (.mapIter (some m) s seen l) w:=by
 simp [getObj,Sem.run,hb]
theorem JV (o:Obj) (hb:w.heap[r]?=some (.mapIter (some m) s seen l)):(setObj r o).run P w=.ok () { w with heap:=w.heap.setIfInBounds r o }:=by
 simp [setObj,Sem.run,hb]
theorem X6 {b2:Nat} (ty:TypeId) (g:w.heap[b2]?=some (.mapIter (some bb) b8 seen b8)) (q:w.heap[bb]?=some (.map es b8)) (Db:MapKept.Stamped es b8) :
 ∃wd:World,(wd=w∨wd=w.drew)∧(((∀e∈es.toList,seen.contains e.born=true)∧(Instr.next (.pointer (some ⟨b2,0,none⟩)) false ty).run P w=.ok (.tuple #[.bool false]) wd) ∨
  ∃e,e∈es.toList∧seen.contains e.born=false∧(Instr.next (.pointer (some ⟨b2,0,none⟩)) false ty).run P w=.ok (.tuple #[.bool true,e.key,e.val]) { wd with heap:=wd.heap.setIfInBounds b2 (.mapIter (some bb) b8 (seen.push e.born) b8) }):=by
 have BY:∀e∈es,e.born<b8:=fun e he=>Db.1 e (by simpa using he)
 have n7:(!seen.isEmpty&&!es.isEmpty&&es.all (fun e=>decide (e.born ≥ b8)))=false:=by
  by_cases h0:es.isEmpty=true
  .simp [h0]
  .have EB:0<es.size:=by
    rcases Nat.eq_zero_or_pos es.size with q | q
    .exact absurd (by simpa [Array.isEmpty] using q) h0
    .exact q
   have:(es.all fun e=>decide (e.born ≥ b8))=false:=by
    rw [Array.all_eq_false]
    exact ⟨0,EB,by have:=BY es[0] (by simp);simp;omega⟩
   simp [this]
 generalize hl:(es.filter fun e=>!seen.contains e.born)=left
 have Gw:(left.filter fun e=>decide (e.born ≥ b8))=#[]:=by
  rw [z3u]
  intro e he
  subst hl
  have:=BY e (z41.1 he).1
  simp
  omega
 have E2:(left.filter fun e=>decide (e.born<b8))=left:=by
  rw [Array.filter_eq_self]
  intro e he
  subst hl
  have:=BY e (z41.1 he).1
  simpa using this
 generalize hC:((if left.isEmpty=true then #[none] else #[])++left.map some)=C
 have HZ:0<C.size:=by
  subst hC
  by_cases h0:left.isEmpty=true
  .simp [h0]
   omega
  .have:0<left.size:=by
    rcases Nat.eq_zero_or_pos left.size with q | q
    .exact absurd (by simpa [Array.isEmpty] using q) h0
    .exact q
   simp [h0]
   exact this
 obtain ⟨i,wd,hi,hwd,hch⟩:=Mo (P:=P) w C.size HZ
 refine ⟨wd,hwd,?_⟩
 have hg:wd.heap=w.heap:=by rcases hwd with rfl | rfl<;>rfl
 have run:∀r,C[i]?=some r->(Instr.next (.pointer (some ⟨b2,0,none⟩)) false ty).run P w=(match r with
  |some e=>(do setObj b2 (.mapIter (some bb) b8 (seen.push e.born) b8);pure (.tuple #[.bool true,e.key,e.val]):Sem Value).run P wd
  |none=>.ok (.tuple #[.bool false]) wd):=fun r hr=>by
  unfold Instr.next
  simp only [Sem.run_bind,Gn g,Result.andThen_ok,MapKept.run_getObj_map q,n7,Bool.false_eq_true,if_false,hl,E2,Gw,Array.append_empty,hC,hch,hr]
  cases r with
  |none=>rfl
  |some e=>simp only [Sem.run_bind]
 cases hr:C[i]? with
 |none=>rw [Array.getElem?_eq_getElem hi] at hr;cases hr
 |some r=>
  have BE:=run r hr
  have DF:r∈C:=Array.mem_of_getElem? hr
  cases r with
  |none=>
   left
   refine ⟨fun e he=>?_,BE⟩
   by_cases h0:left.isEmpty=true
   .have:left=#[]:=by simpa using h0
    rw [<-hl,z3u] at this
    have:=this (a:=e) (by simpa using he)
    simpa using this
   .subst hC
    simp [h0] at DF
  |some e=>
   right
   have Kw:e∈left:=by
    subst hC
    rcases Array.mem_append.1 DF with h | h
    .split at h<;>simp at h
    .simpa using h
   rw [<-hl] at Kw
   obtain ⟨h1,h2⟩:=z41.1 Kw
   refine ⟨e,by simpa using h1,by simpa using h2,?_⟩
   rw [BE]
   have g':wd.heap[b2]?=some (.mapIter (some bb) b8 seen b8):=by rw [hg];exact g
   simp only [Sem.run_bind,JV _ g',Result.andThen_ok]
   rfl
theorem YO (h:HP) (b:qB):∀(l:List (qB×AV)) (es:List MapEntry) (i:Nat),MR h l es ->
 (De b l=l∧Instr.findNow .string (.string b) es i=some none)∨∃(j:Nat) (u:Value),Instr.findNow .string (.string b) es i=some (some (i+j,u))∧j<es.length∧De b l=l.eraseIdx j
 | [],es,i,m=>by
  have:es=[]:=z26.1 m.1
  subst this
  exact .inl ⟨rfl,rfl⟩
 | (x,U)::l,es,i,m=>by
  obtain ⟨u,born,r,rfl,hp,m2⟩:=m.cons
  by_cases hx:b=x
  .subst hx
   exact .inr ⟨0,u,by simp [Instr.findNow,Instr.sameNow,DS],by simp,by simp [De]⟩
  .have hs:Instr.sameNow .string (.string b) (.string x)=some false:=by
    simp only [Instr.sameNow,DS]
    simp [hx]
   rcases YO h b l r (i+1) m2 with ⟨h1,h2⟩ | ⟨j,v,h1,h2,h3⟩
   .exact .inl ⟨by simp [De,hx,h1],by simp [Instr.findNow,hs,h2]⟩
   .exact .inr ⟨j+1,v,by simp [Instr.findNow,hs,h1];omega,by simp;exact h2,by simp [De,hx,h3]⟩
theorem MR.erase {l:List (qB×AV)} {es:List MapEntry} (m:MR h l es) (j:Nat):MR h (l.eraseIdx j) (es.eraseIdx j):=by
 refine ⟨?_,fun i x U hi=>?_⟩
 .rw [z4j,z4j,m.1]
 .rw [List.getElem?_eraseIdx] at hi ⊢
  split at hi
  .rename_i BY
   rw [if_pos BY]
   exact m.2 i x U hi
  .rename_i BY
   rw [if_neg BY]
   exact m.2 (i+1) x U hi
theorem RH {l:List (qB×AV)} {b:qB} {t u ty kt e:TypeId} (ht:P.underlying t=some (.map kt e)) (hk:P.underlying kt=some .string)
 (q:w.heap[bb]?=some (.map es b8)) (m:MR h l es.toList) (Db:MapKept.Stamped es b8):∃l8,(Builtin.delete_ #[t,u] ty #[.map (some bb),.string b]).run P w=.ok (.tuple #[]) { w with heap:=w.heap.setIfInBounds bb (.map l8 b8) } ∧
  MR h (De b l) l8.toList∧MapKept.Stamped l8 b8∧∀x∈l8.toList,x∈es.toList:=by
 have Do:=MapKept.run_checkKey (P:=P) (w:=w) hk (k:=.string b) trivial es.isEmpty 9999
 rcases YO h b l es.toList 0 m with ⟨h1,h2⟩ | ⟨j,v,h1,h2,h3⟩
 .refine ⟨es,?_,by rw [h1];exact m,Db,fun _ hx=>hx⟩
  have hf:=MapKept.run_findKey (P:=P) (w:=w) hk h2
  simp [Builtin.delete_,run_underlying ht,MapKept.run_getObj_map q,Do,hf,MapKept.run_setObj_map _ q]
 .have hf:=MapKept.run_findKey (P:=P) (w:=w) hk h1
  have hj:j<es.size:=by simpa using h2
  have he:(es.eraseIdxIfInBounds j).toList=es.toList.eraseIdx j:=by simp [Array.eraseIdxIfInBounds,hj]
  refine ⟨es.eraseIdxIfInBounds j,?_,by rw [h3,he];exact m.erase j,MapKept.stamped_erase Db j,fun x hx=>?_⟩
  .simp only [Nat.zero_add] at hf
   simp [Builtin.delete_,run_underlying ht,MapKept.run_getObj_map q,Do,hf,MapKept.run_setObj_map _ q]
  .rw [he] at hx
   exact List.mem_of_mem_eraseIdx hx
end
end
