/- Proof. Conditions: none. -/
import Derived.Test.YtgfidgoefioigaaGreatDoorIi31
open Go.Proofs.Tryz
open List renaming mem_of_getElem?→zla
namespace Go.Proofs.YtgfidgoefioigaaGreatDoor
open Go.Eng
set_option linter.all false
set_option maxRecDepth 20000
theorem M4 {hp:CH} {m a g n:Nat} {l:List (List AV)} (hf:∀k,m≤k→gc hp k=.no) (h:gc hp a=.rw g n l):a<m:=by
 rcases Nat.lt_or_ge a m with q | q
 .exact q
 .rw [hf a q] at h;cases h
theorem YW (v s:Ak):IM v s=-1∨(0≤IM v s∧IM v s<v.items.length):=by
 have:=M0 s.s v.keys 0
 unfold IM
 split
 .split<;>omega
 .split<;>omega
theorem Sd (d s:Ak) (p:List Ak) (ih:∀v,Bu v+Bu d≤1000000000000→∀hp m,Ah prog 39 hp m [vx v,.ds (Ad A2 p),vx d] (P3 (H9 d p v))) (v:Ak) (hw:Bu v+Bu d≤1000000000000) (hp:CH) (m:Nat) :
  Ah prog 39 hp m [vx v,.ds (Ad A2 (s::p)),vx d] (P3 (H9 d (s::p) v)):=by
 have hv:=CX v (by omega)
 have hd:=CX d (by omega)
 have h1:=hv.i
 have Gd:((p.length+1:Nat):Int)=1↔p.length=0:=by omega
 obtain ⟨R,hR⟩:∃R,H9 d (s::p) v=R:=⟨_,rfl⟩
 rw [hR]
 rw [H9] at hR
 refine Am func39 (by kernel_rfl) cc39 cr39 rfl fun hf=>?_;unfold ck39
 simp only [go_sem]
 have e0:decide (((p.length+1:Nat):Int)=0)=false:=by simp;omega
 rw [e0]
 simp only [e0,go_sem]
 refine Ai (fun c=>?_) (fun c=>?_)
 .have c:p.length=0∧s.k=2∧v.k=5∧s.n=v.items.length:=by
   simp only [Bool.and_eq_true,decide_eq_true_eq] at c
   exact ⟨by omega,c.1.1.2,c.1.2,c.2⟩
  have hw1:=GP v.items
  have hw2:=Bn v
  rw [if_pos c] at hR
  subst hR
  simp only [go_sem]
  refine Af.x (OF v hv _ _) ?_
  simp only [go_sem]
  first | refine A3.f (fun _ _ _=>EI d hd _ _) ?_ | refine AG.f (fun _ _ _=>EI d hd _ _) ?_
  simp only [go_sem]
  omega
 .have c:¬(p.length=0∧s.k=2∧v.k=5∧s.n=v.items.length):=fun h=>by
   have:((p.length+1:Nat):Int)=1:=by omega
   simp [this,h.2.1,h.2.2.1,h.2.2.2] at c
  have hs:=YW v s
  rw [if_neg c] at hR
  simp only [go_sem]
  first | refine A3.f (fun _ _ _=>KK v s hv _ _) ?_ | refine AG.f (fun _ _ _=>KK v s hv _ _) ?_
  simp only [go_sem]
  refine Ai (fun c1=>?_) (fun c1=>?_)
  .have c1:IM v s<0:=of_decide_eq_true c1
   rw [if_pos c1] at hR
   subst hR
   simp only [go_sem]
  have c1:¬IM v s<0:=of_decide_eq_false c1
  have c2:(IM v s).toNat<v.items.length:=by omega
  have c3:0≤IM v s:=by omega
  obtain ⟨x,ex⟩:∃x,v.items[(IM v s).toNat]?=some x:=⟨_,List.getElem?_eq_getElem c2⟩
  have hx:=hv.x (zla ex)
  have hwx:=Cq (zla ex)
  have hw2:=Bn v
  simp only [if_neg c1,ex] at hR
  simp only [c2,c3,Ag (Ab A2 ex),go_sem]
  first | refine ⟨⟨by omega,by omega⟩,?_⟩ | skip
  first | refine A3.f (fun _ _ _=>ih x (by omega) _ _) ?_ | refine AG.f (fun _ _ _=>ih x (by omega) _ _) ?_
  simp only [go_sem]
  refine Ai (fun c4=>?_) (fun c4=>?_)
  .have c4:¬(H9 d p x).2=0:=by simpa using c4
   rw [if_neg c4] at hR
   subst hR
   simp only [go_sem]
  .have c4:(H9 d p x).2=0:=by simpa using c4
   rw [if_pos c4] at hR
   subst hR
   simp only [go_sem]
   refine Af.x (OF v hv _ _) ?_
   simp only [c2,c3,Ag (Ab A2 ex),go_sem]
theorem Ko (d:Ak):∀(p:List Ak) (v:Ak),Bu v+Bu d≤1000000000000→∀hp m,Ah prog 39 hp m [vx v,.ds (Ad A2 p),vx d] (P3 (H9 d p v))
 | s::p,v,hw,hp,m=>Sd d s p (Ko d p) v hw hp m
 | [],v,hw,hp,m=>by
  have hv:=CX v (by omega)
  have hd:=CX d (by omega)
  have w1:=Bn v
  have w2:=Bn d
  have w3:=GP v.items
  have w4:=GP d.items
  obtain ⟨R,hR⟩:∃R,J6 v d=R:=⟨_,rfl⟩
  rw [H9,hR]
  have h0:=Wt v d hv hd (by omega) (by omega)
  rw [hR] at h0
  refine Am func39 (by kernel_rfl) cc39 cr39 rfl fun hf=>?_;unfold ck39
  simp only [go_sem]
  refine Af.f (h0 _ _) ?_
  simp only [go_sem]
theorem Q8 {v x:Ak} (h:Ok v=true) (hx:x∈v.items):Ok x=true:=by
 rw [IA] at h
 simp only [Bool.and_eq_true] at h
 exact (Fs _).1 h.2 x hx
theorem Wz {v:Ak} (h:Ok v=true) (h6:v.k=6):v.keys.length=v.items.length:=by
 rw [IA] at h
 simp [h6] at h
 exact h.1
theorem NA:∀(l:List ByteArray) (r:List Ak) (ks:List ByteArray) (is:List Ak) (ks':List ByteArray) (is':List Ak),Qv l r ks is=some (ks',is') →
  Df is'≤Df is+Df r∧ks'.length≤ks.length+l.length∧ks'.length+is.length=ks.length+is'.length∧((∀x∈is,Ok x=true)→(∀x∈r,Ok x=true)→∀x∈is',Ok x=true)
 | [],r,ks,is,ks',is',h=>by
  rw [Qv] at h
  cases h
  exact ⟨by omega,by omega,by omega,fun a _=>a⟩
 | k::l,[],ks,is,ks',is',h=>by
  rw [Qv] at h
  cases h
  exact ⟨by omega,by omega,by omega,fun a _=>a⟩
 | k::l,x::r,ks,is,ks',is',h=>by
  rw [Qv] at h
  split at h
  .cases h
  .obtain ⟨h1,h2,h3,h4⟩:=NA l r _ _ _ _ h
   rw [QK,Df,Df] at h1
   simp only [List.length_append,List.length_cons,List.length_nil] at h2 h3
   refine ⟨by rw [Df];omega,by simp;omega,by omega,fun a b=>h4 (fun y hy=>?_) (fun y hy=>b y (by simp [hy]))⟩
   rcases List.mem_append.1 hy with hy | hy
   .exact a y hy
   .simp at hy;subst hy;exact b _ (by simp)
theorem Q9 (y:Ak):∀(l:List Ak) (i:Nat) (x:Ak),l[i]?=some x→Df (l.set i y)+Bu x=Df l+Bu y
 | z::l,0,x,h=>by
  simp at h
  subst h
  rw [List.set_cons_zero,Df,Df]
  omega
 | z::l,i+1,x,h=>by
  have:=Q9 y l i x (by simpa using h)
  rw [List.set_cons_succ,Df,Df]
  omega
theorem QY (v d:Ak) (h:(J6 v d).2=0):Bu (J6 v d).1≤Bu v+Bu d∧(Ok v=true→Ok d=true→Ok (J6 v d).1=true):=by
 rw [J6] at h ⊢
 by_cases c:v.k=6∧d.k=6
 .rw [if_pos c] at h ⊢
  cases e:Qv d.keys d.items v.keys v.items with
  | none=>rw [e,adR] at h;exact absurd h (by decide)
  | some o =>
   obtain ⟨ks,is⟩:=o
   obtain ⟨h1,h2,h3,h4⟩:=NA _ _ _ _ _ _ e
   rw [adR]
   refine ⟨?_,fun a b=>?_⟩
   .rw [Bn v,Bn d,Bn]
    simp only [Ak.items_mk,Ak.keys_mk]
    omega
   .have q:=Wz a c.1
    rw [IA]
    simp only [Ak.items_mk,Ak.keys_mk,Ak.k_mk,Bool.and_eq_true]
    refine ⟨?_,(Fs _).2 (h4 (fun x hx=>Q8 a hx) (fun x hx=>Q8 b hx))⟩
    have:ks.length=is.length:=by omega
    simp [this]
 .rw [if_neg c] at h ⊢
  by_cases c2:d.k=0
  .rw [if_pos c2] at h ⊢
   exact ⟨by dsimp only;omega,fun a _=>a⟩
  .rw [if_neg c2] at h
   exact absurd h (by decide)
theorem Mf (d:Ak):∀(p:List Ak) (v:Ak),(H9 d p v).2=0→Bu (H9 d p v).1≤Bu v+Bu d∧(Ok v=true→Ok d=true→Ok (H9 d p v).1=true)
 | [],v,h=>by
  rw [H9] at h ⊢
  exact QY v d h
 | s::p,v,h=>by
  rw [H9] at h ⊢
  by_cases c:p.length=0∧s.k=2∧v.k=5∧s.n=v.items.length
  .rw [if_pos c] at h ⊢
   refine ⟨?_,fun a b=>?_⟩
   .rw [Bn v,Bn (Ak.mk v.k v.n v.s (v.items++[d]) v.keys)]
    simp only [Ak.items_mk,Ak.keys_mk]
    rw [QK,Df,Df]
    omega
   .rw [IA]
    simp only [Ak.items_mk,Ak.keys_mk,Ak.k_mk,Bool.and_eq_true]
    refine ⟨by simp [c.2.2.1],(Fs _).2 fun x hx=>?_⟩
    rcases List.mem_append.1 hx with hx | hx
    .exact Q8 a hx
    .simp at hx;subst hx;exact b
  .rw [if_neg c] at h ⊢
   by_cases c1:IM v s<0
   .rw [if_pos c1] at h
    exact absurd h (by decide)
   rw [if_neg c1] at h ⊢
   cases ex:v.items[(IM v s).toNat]? with
   | none=>rw [ex] at h;exact absurd (show (8:Int)=0 from h) (by decide)
   | some x =>
    rw [ex] at h
    simp only at h ⊢
    by_cases c2:(H9 d p x).2=0
    .rw [if_pos c2] at h ⊢
     obtain ⟨i1,i2⟩:=Mf d p x c2
     have hs:=Q9 (H9 d p x).1 v.items _ x ex
     refine ⟨?_,fun a b=>?_⟩
     .rw [Bn v,Bn (Ak.mk v.k v.n v.s _ v.keys)]
      simp only [Ak.items_mk,Ak.keys_mk]
      omega
     .have hx:=i2 (Q8 a (zla ex)) b
      rw [IA] at a ⊢
      simp only [Bool.and_eq_true] at a
      simp only [Ak.items_mk,Ak.keys_mk,Ak.k_mk,Bool.and_eq_true,List.length_set]
      refine ⟨a.1,(Fs _).2 fun y hy=>?_⟩
      rcases List.mem_or_eq_of_mem_set hy with hy | hy
      .exact (Fs _).1 a.2 y hy
      .subst hy;exact hx
    .rw [if_neg c2] at h
     exact absurd h c2
inductive Ik where
 | mk (l:ByteArray) (p:List Ak) (d:Ak) (q:List Ea)
def Ik.l:Ik→ByteArray | .mk l _ _ _=>l
def Ik.p:Ik→List Ak | .mk _ p _ _=>p
def Ik.d:Ik→Ak | .mk _ _ d _=>d
def Ik.q:Ik→List Ea | .mk _ _ _ q=>q
def L4 (x:Ik):List AV:=[.s x.l,.ds (Ad A2 x.p),.i .i64 x.d.k,.i .i64 x.d.n,.s x.d.s,.ds (Ad A2 x.d.items),.ds (Bv x.d.keys),.ds (Ad CZ x.q)]
attribute [go_sem] L4
def V6:List Ik→Ak→Ak × Int
 | [],v=>(v,0)
 | p::r,v=>if (H9 p.d p.p v).2=0 then V6 r (H9 p.d p.p v).1 else (AB,(H9 p.d p.p v).2)
def Y5:List Ik→Nat
 | []=>0
 | p::r=>Bu p.d+Y5 r
def MgB (B:Nat):List Ik→Ak→Prop
 | [],v=>Bu v≤B
 | p::r,v=>Bu v+Bu p.d≤B∧((H9 p.d p.p v).2=0→MgB B r (H9 p.d p.p v).1)
theorem MgB.wt {B:Nat}:∀{l:List Ik} {v:Ak},MgB B l v→Bu v≤B
 | [],_,h=>h
 | p::r,v,h=>by have:=h.1;omega
theorem TM {B:Nat}:∀(l:List Ik) (v:Ak),Bu v+Y5 l≤B→MgB B l v
 | [],v,h=>by rw [Y5] at h;exact h
 | p::r,v,h=>by
  rw [Y5] at h
  refine ⟨by omega,fun c=>TM r _ ?_⟩
  have:=(Mf p.d p.p v c).1
  omega
theorem OC (v:Ak) (l:List Ik) (hl:l.length≤1000000000000) (hw:MgB 1000000000000 l v) (hp:CH) (m:Nat):Ah prog 16 hp m [vx v,.ds (Ad L4 l)] (P3 (V6 l v)):=by
 have hv:=CX v hw.wt
 obtain ⟨R,hR⟩:∃R,V6 l v=R:=⟨_,rfl⟩
 rw [hR]
 refine Am func16 (by kernel_rfl) cc16 cr16 rfl fun hf=>?_;unfold ck16
 simp only [go_sem]
 refine Af.f (EI v hv _ _) ?_
 simp only [go_sem]
 refine loop (fun p:Nat × Ak × Nat=>⟨[(4,.bx (m+1) 0),(6,.bx (m+2) 0),(13,.ds (Ad L4 l)),(14,.i .i64 l.length),(15,.i .i64 p.1)],
   (m+2,.bx [.i .i64 p.2.1.k,.i .i64 p.2.1.n,.s p.2.1.s,.ds (Ad A2 p.2.1.items),.ds (Bv p.2.1.keys)])::(m+1,.bx [.i .i64 0,.i .i64 0,.s ⟨#[]⟩,.e0,.e0])::hp,p.2.2⟩)
  (fun p=>p.1≤l.length∧m+3≤p.2.2∧R=V6 (l.drop p.1) p.2.1∧MgB 1000000000000 (l.drop p.1) p.2.1) (fun p=>l.length - p.1) (0,v,m+3) ?_ ?_ (fun ⟨j,u,n⟩ hj=>?_)
 .exact ⟨by dsimp only;omega,by dsimp only;omega,hR.symm,hw⟩
 .refine Ac ?_ (A6.cons ?_ (A6.cons ?_ (A6.base hf ?_))) (Nat.le_refl _)
  all_goals simp only [go_sem]
 dsimp only at hj
 obtain ⟨Cm,Ba,Aw,Cc⟩:=hj
 simp only [go_sem]
 refine Ai (fun d=>?_) (fun d=>?_)
 .have d:j<l.length:=by simpa using d
  obtain ⟨x,ex⟩:∃x,l[j]?=some x:=⟨l[j],by simp [d]⟩
  rw [A5 ex] at Aw Cc
  rw [V6] at Aw
  obtain ⟨Cc,Dt⟩:=Cc
  have z6:m≤n:=by omega
  have z1:¬n=m+1:=by omega
  have z2:¬n=m+2:=by omega
  have z3:¬n+1=m+1:=by omega
  have z4:¬n+1=m+2:=by omega
  have z5:m≤n+1:=by omega
  simp only [z1,z2,z3,z4,z5,z6,d,Ag (Ab L4 ex),go_sem]
  refine Af.f (Ko x.d x.p u (by omega) _ _) ?_
  simp only [z1,z2,z3,z4,z5,z6,d,go_sem]
  refine Ai (fun c=>?_) (fun c=>?_)
  .have c:¬(H9 x.d x.p u).2=0:=by simpa using c
   rw [if_neg c] at Aw
   subst Aw
   simp only [z1,z2,z3,z4,z5,z6,d,go_sem]
  .have c:(H9 x.d x.p u).2=0:=by simpa using c
   rw [if_pos c] at Aw
   have Dt:=Dt c
   simp only [z1,z2,z3,z4,z5,z6,d,go_sem]
   refine ⟨(j+1,(H9 x.d x.p u).1,_),?_,?_,Ac ?_ (A6.cons ?_ (A6.cons ?_ (A6.base hf ?_))) (Nat.le_refl _)⟩
   .exact ⟨by dsimp only;omega,by dsimp only;omega,Aw,Dt⟩
   .dsimp only;omega
   all_goals
    simp only [z1,z2,z3,z4,z5,z6,At j (by omega),go_sem]
 .have d:j=l.length:=by simp at d;omega
  subst d
  rw [List.drop_length,V6] at Aw
  subst Aw
  simp only [go_sem]
theorem RD (v:Ak) (l:List Ik) (hl:l.length≤1000000000000) (hw:Bu v+Y5 l≤1000000000000) (hp:CH) (m:Nat):Ah prog 16 hp m [vx v,.ds (Ad L4 l)] (P3 (V6 l v)):=OC v l hl (TM l v hw) hp m
def C0 (l:ByteArray) (out:List ByteArray):List ByteArray:=if ¬l=⟨#[]⟩∧¬0≤ix l out 0 then out++[l] else out
mutual
def WH:Pk→List ByteArray→List ByteArray
 | .mk _ _ _ _ _ _ l _ p,out=>Cl p (C0 l out)
def Cl:List Pk→List ByteArray→List ByteArray
 | [],out=>out
 | p::r,out=>Cl r (WH p out)
end
theorem Lz (p:Pk) (out:List ByteArray):WH p out=Cl p.picks (C0 p.label out):=by cases p;rw [WH];rfl
theorem RL (l:ByteArray) (out:List ByteArray):out.length≤(C0 l out).length∧(C0 l out).length≤out.length+1:=by
 unfold C0
 split<;>simp
theorem Jd:∀(l:List Pk),(∀p∈l,∀out,out.length≤(Cl p.picks out).length∧(Cl p.picks out).length≤out.length+A8 p.picks)→∀out,out.length≤(Cl l out).length∧(Cl l out).length≤out.length+A8 l
 | [],_,out=>by rw [Cl,A8];omega
 | p::r,h,out=>by
  rw [Cl,A8,Lz,CD]
  have h1:=Jd r (fun q hq=>h q (by simp [hq])) (Cl p.picks (C0 p.label out))
  have h2:=h p (by simp) (C0 p.label out)
  have h3:=RL p.label out
  omega
theorem DK (l:List Pk) (out:List ByteArray):out.length≤(Cl l out).length∧(Cl l out).length≤out.length+A8 l:=by
 refine Jd l (fun p _=>?_) out
 exact Pk.ind (Q:=fun p=>∀out,out.length≤(Cl p.picks out).length∧(Cl p.picks out).length≤out.length+A8 p.picks) (fun v ih=>Jd v.picks ih) p
theorem OV {m c:Nat} {X:Ap} {hp a:CH} (h1:gc a c=X) (h2:∀j,j<m→j≠c→gc a j=gc hp j):Up m ((c,X)::hp) a:=fun j hj=>by
 by_cases hc:c=j
 .subst hc
  rw [Av]
  exact h1
 .rw [Aq _ _ hc]
  exact h2 j hj (fun e=>hc e.symm)
theorem FC {m c:Nat} {X:Ap} {hp:CH} (hf:∀k,m≤k→gc hp k=.no) (hc:c<m):∀k,m≤k→gc ((c,X)::hp) k=.no:=fun k hk=>by
 rw [Aq _ _ (by omega)]
 exact hf k hk
theorem NQ {P : Program} {f : FuncId} {fn : Func} {k : CC} {rs : List RS} (hf : P.funcs[f]? = some fn) (Fn : (fn.name == "runtime.NumGoroutine") = false)
  (hc:fn.body.bind (BL P fn.ntmps)=some k.erase) (GG:MW P fn.ntmps fn.results.toList=some rs) {hp:CH} {n c:Nat} {X:Ap} {args:List AV} {r:AV} (Bb:Nat.ble args.length fn.ntmps=true)
  (hX:X.lt1 n) (hcn:(∀k,n≤k→gc hp k=.no)→c<n) (hv:(∀k,n≤k→gc hp k=.no)→vc P k ⟨Cu 0 args,hp,n⟩ (Ji rs (JU ((c,X)::hp) n [] r))):AQ P f hp n args ((c,X)::hp) n r:=by
 have Io := (by obtain ⟨c, hb, Oo⟩ := bd hc; exact ⟨fn, hf, Fn, by rw [hb]; rfl⟩ : ∃ fn, P.funcs[f]? = some fn ∧ (fn.name == "runtime.NumGoroutine") = false ∧ fn.body.isNone = false)
 refine ⟨Io,fun h ρ w vs hs ha=>?_⟩
 refine (AI.out (outs:=[]) (fun k hk=>?_) (FC hs.free (hcn hs.free)) (Ib hf Fn hc GG Bb (hv hs.free))).2 h ρ w vs hs ha
 by_cases hkc:c=k
 .subst hkc
  rw [Av]
  exact .inr hX
 .rw [Aq _ _ hkc]
  exact .inl rfl
end Go.Proofs.YtgfidgoefioigaaGreatDoor
