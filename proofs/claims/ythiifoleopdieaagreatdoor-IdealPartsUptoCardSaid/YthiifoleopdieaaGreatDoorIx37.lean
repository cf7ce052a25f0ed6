/- Proof. Conditions: none. -/
import Derived.Shelf.Strings.OnBuilder
import Derived.Shelf.Strconv.Itoa3
import Derived.Test.YthiifoleopdieaaGreatDoorIx36
namespace Go.Eng
open Go.Shelf Go.RowKit Go.Proofs
set_option linter.all false
theorem RelL.un {h:HP} {ρ:RO} {α:AV} {l:List AV} {vs:List Value} (r:RelL h ρ (α::l) vs):∃v vs',vs=v::vs'∧Rel h ρ α v∧RelL h ρ l vs':=by
 cases vs with
 | nil=>cases r.1
 | cons v vs=>exact ⟨v,vs,rfl,r.2 0 α v rfl rfl,Nat.succ.inj r.1,fun j β u a b=>r.2 (j+1) β u a b⟩
theorem RelL.un0 {h:HP} {ρ:RO} {vs:List Value} (r:RelL h ρ [] vs):vs=[]:=List.eq_nil_of_length_eq_zero r.1.symm
theorem sb_open {h:HP} {ρ0:RO} {hp:CH} {n:Nat} {w:World} (hs:SatH h ρ0 hp n w) {k T e g:Nat} {bs:ByteArray} (hk:gc hp k=.sb T e g bs) {v1:Value} (r:Rel h ρ0 (.bx k 0) v1) :
  ∃b c p v,v1=.pointer (some ⟨b,0,none⟩)∧ρ0 k 0=some (some b,c)∧(p=.pointer none∨p=.pointer (some ⟨b,0,none⟩))∧BA T e b p v (Lib.strCells bs) w∧(∃y,ρ0 k g=some y) ∧
   ∀b2,v.ownBlock=some b2→0<g∧∃c2,ρ0 k g=some (some b2,c2):=by
 have s:=hs.ch k
 rw [hk] at s
 obtain ⟨b,c,p,v,h1,h2,h3,h4,h5,h6,h7⟩:=s
 cases r with
 | pu _ _ q=>cases q
 | bx _ _ b' c' q =>
  rw [h1] at q
  cases q
  exact ⟨b,c,p,v,rfl,h1,h3,⟨h2,by rw [Lib.strCells_length];exact h4,h5⟩,h6,h7⟩
theorem sb_put {h:HP} {ρ0:RO} {hp:CH} {n:Nat} {w w':World} (hs:SatH h ρ0 hp n w) {k T e g:Nat} {bs bs':ByteArray} (hk:gc hp k=.sb T e g bs) {b c:Nat} {p' v:Value} (h1:ρ0 k 0=some (some b,c))
  (hy:∃y,ρ0 k g=some y) (h7:∀b2,v.ownBlock=some b2→0<g∧∃c2,ρ0 k g=some (some b2,c2)) (hp':p'=.pointer none∨p'=.pointer (some ⟨b,0,none⟩)) (W:Wrote T e b p' v (Lib.strCells bs') w w') :
  ∃ρ' g',RLe ρ0 ρ'∧SatH h ρ' ((k,.sb T e g' bs')::hp) n w'∧Keeps (live ρ0 hp) w w'∧∀x,live ρ' ((k,.sb T e g' bs')::hp) x→live ρ0 hp x∨w.heap.size≤x:=by
 obtain ⟨⟨v',B,hwh⟩,o1,o2,o3,o4,o5⟩:=W
 have lb:live ρ0 hp b:=⟨k,0,c,by rw [hk];exact .inl rfl,h1⟩
 have lv:∀b2,v.ownBlock=some b2→live ρ0 hp b2:=fun b2 e2=>let ⟨_,c2,q⟩:=h7 b2 e2;⟨k,g,c2,by rw [hk];exact .inr rfl,q⟩
 have hkeep:Keeps (live ρ0 hp) w w':=⟨o1,o2,o3,o4,fun x hx hl=>o5 x hx (fun q=>hl (q ▸ lb)) (fun q=>hl (lv x q.symm))⟩
 have hkn:k<n:=by
  rcases Nat.lt_or_ge k n with q | q
  .exact q
  .rw [hs.fr k 0 q] at h1;cases h1
 have hothers:∀x,x<w.heap.size→(h x≠none∨∃k' g c,k'≠k∧(gc hp k').own g∧ρ0 k' g=some (some x,c))→w'.heap[x]?=w.heap[x]?:=fun x hx hq=>by
  refine o5 x hx (fun q=>?_) (fun q=>?_)
  .subst q
   rcases hq with hq | ⟨k',g',c',q1,q2,q3⟩
   .exact hq (hs.hid _ lb)
   .exact q1 (hs.inj k' k g' 0 _ _ _ q2 (by rw [hk];exact .inl rfl) q3 h1)
  .obtain ⟨_,c2,r2⟩:=h7 x q.symm
   rcases hq with hq | ⟨k',g',c',q1,q2,q3⟩
   .exact hq (hs.hid _ (lv x q.symm))
   .exact q1 (hs.inj k' k g' g _ _ _ q2 (by rw [hk];exact .inr rfl) q3 r2)
 have hsz:∀x,live ρ0 hp x→x<w'.heap.size:=fun x hx=>Nat.lt_of_lt_of_le (hs.lt x hx) o4
 have hown:∀(X:Value),w'.ownsRowF 0 e 1 X (Lib.strCells bs').length (Lib.strCells bs')→w'.ownsRowF 0 e 1 X bs'.size (Lib.strCells bs'):=fun X q=>by rw [Lib.strCells_length] at q;exact q
 by_cases hnew:∃b2,v'.ownBlock=some b2∧v.ownBlock≠some b2
 .
  obtain ⟨b2,e2,ne2⟩:=hnew
  have hge:w.heap.size≤b2:=(hwh b2 e2).resolve_left ne2
  have hlt2:b2<w'.heap.size:=by
   rcases B.own.2 with ⟨q,_⟩ | ⟨g1,cap,cur,fz,q,_,q3,_⟩
   .rw [q] at e2;cases e2
   .rw [q] at e2
    cases e2
    exact (Array.getElem?_eq_some_iff.1 q3).1
  have hfree:ρ0 k (g+1)=none:=by
   cases q:ρ0 k (g+1) with
   | none=>rfl
   | some x=>have:=hs.gens k g (g+1) x (by rw [hk];rfl) q;omega
  have hle:=rset_le (some b2,0) hfree
  have h0:rset ρ0 k (g+1) (some b2,0) k 0=some (some b,c):=hle _ _ _ h1
  have hlive:∀x,live (rset ρ0 k (g+1) (some b2,0)) ((k,.sb T e (g+1) bs')::hp) x→live ρ0 hp x∨x=b2:=by
   rintro x ⟨k',g',c',q1,q2⟩
   by_cases hkk:k=k'
   .subst hkk
    rw [gc_cons_same] at q1
    rcases q1 with rfl | rfl
    .rw [h0] at q2;cases q2;exact .inl lb
    .rw [rset_same] at q2;cases q2;exact .inr rfl
   .rw [gc_cons_ne hkk] at q1
    rw [rset_ne _ _ (fun q=>hkk q.symm)] at q2
    exact .inl ⟨k',g',c',q1,q2⟩
  refine ⟨_,g+1,hle,hs.put k _ hle (fun k' g' hne=>rset_ne _ _ hne) hothers o4 ?_ ?_ ?_ ?_,hkeep,fun x hx=>(hlive x hx).imp id (fun (q:x=b2)=>by rw [q];exact hge)⟩
  .exact ⟨b,c,p',v',h0,B.blk,hp',hown _ B.own,B.ne,⟨_,rset_same _ _ _ _⟩,fun b3 e3=>by rw [e2] at e3;cases e3;exact ⟨Nat.succ_pos g,0,rset_same _ _ _ _⟩⟩
  .intro g' x c' q1 q2
   rcases q1 with rfl | rfl
   .rw [h0] at q2
    cases q2
    exact ⟨hs.hid _ lb,hsz _ lb,fun k' g2 c2 hne q3 q4=>hne (hs.inj k' k g2 0 _ _ _ q3 (by rw [hk];exact .inl rfl) q4 h1)⟩
   .rw [rset_same] at q2
    cases q2
    refine ⟨?_,hlt2,fun k' g2 c2 hne q3 q4=>?_⟩
    .cases q:h b2 with
     | none=>rfl
     | some o=>have:=(Array.getElem?_eq_some_iff.1 (hs.hh _ _ q)).1;omega
    .have:=hs.lt b2 ⟨k',g2,c2,q3,q4⟩;omega
  .intro k' g' hk'
   rw [rset_ne _ _ (by omega)]
   exact hs.fr k' g' hk'
  .intro g1 g' x q1 q2
   cases q1
   by_cases hg:g'=g+1
   .omega
   .have:rset ρ0 k (g+1) (some b2,0) k g'=ρ0 k g':=by simp [rset,hg]
    rw [this] at q2
    have:=hs.gens k g g' x (by rw [hk];rfl) q2
    omega
 .
  have hsame:∀b2,v'.ownBlock=some b2→v.ownBlock=some b2:=fun b2 e2=>Classical.byContradiction fun q=>hnew ⟨b2,e2,q⟩
  have hlive:∀x,live ρ0 ((k,.sb T e g bs')::hp) x→live ρ0 hp x:=by
   rintro x ⟨k',g',c',q1,q2⟩
   by_cases hkk:k=k'
   .subst hkk
    rw [gc_cons_same] at q1
    exact ⟨k,g',c',by rw [hk];exact q1,q2⟩
   .rw [gc_cons_ne hkk] at q1
    exact ⟨k',g',c',q1,q2⟩
  refine ⟨ρ0,g,RLe.refl _,hs.put k _ (RLe.refl _) (fun _ _ _=>rfl) hothers o4 ?_ ?_ hs.fr ?_,hkeep,fun x hx=>.inl (hlive x hx)⟩
  .exact ⟨b,c,p',v',h1,B.blk,hp',hown _ B.own,B.ne,hy,fun b2 e2=>h7 b2 (hsame b2 e2)⟩
  .intro g' x c' q1 q2
   have hl:live ρ0 hp x:=⟨k,g',c',by rw [hk];exact q1,q2⟩
   exact ⟨hs.hid _ hl,hsz _ hl,fun k' g2 c2 hne q3 q4=>hne (hs.inj k' k g2 g' _ _ _ q3 (by rw [hk];exact q1) q4 q2)⟩
  .intro g1 g' x q1 q2
   cases q1
   exact hs.gens k g g' x (by rw [hk];rfl) q2
theorem strCells_app (a b:ByteArray):Lib.strCells a++Lib.strCells b=Lib.strCells (a++b):=by
 unfold Lib.strCells
 rw [ByteArray.data_append,Array.toList_append,List.map_append]
theorem strCells_push (a:ByteArray) (c:UInt8):Lib.strCells a++[.int .u8 c.toNat]=Lib.strCells (a.push c):=by
 unfold Lib.strCells
 rw [ByteArray.data_push,Array.toList_push,List.map_append]
 rfl
variable {P:Program} {ρ:Ren}
theorem meets_sbString (L : Lays.n166 P ρ) (X : Builder.Extra P ρ) {f : FuncId} (hf : ρ.f 166 = f) (hfn : ∃ fn, P.funcs[f]? = some fn ∧ (fn.name == "runtime.NumGoroutine") = false ∧ fn.body.isNone = false) {hp : CH} {n k g : Nat} {bs s : ByteArray}
  {T e:Nat} (hT:ρ.t 72=T) (he:ρ.t 5=e) (hk:gc hp k=.sb T e g bs) (hlen:bs.size+s.size≤140737488355328) :
  Meets P f hp n [.bx k 0,.s s] fun hp' n' r=>∃g',hp'=(k,.sb T e g' (bs++s))::hp∧n'=n∧r=.tp [.i .i64 s.size,.ni]:=by
 subst hf hT he
 refine ⟨hfn,fun h ρ0 w vs hs ha=>?_⟩
 obtain ⟨v1,r1,rfl,x1,ha⟩:=ha.un
 obtain ⟨v2,r2,rfl,x2,ha⟩:=ha.un
 obtain rfl:=ha.un0
 obtain ⟨b,c,p,v,rfl,h1,h3,B,hy,h7⟩:=sb_open hs hk x1
 have e2:v2=.string s:=by
  cases x2 with
  | pu _ _ q=>cases q;rfl
 subst e2
 refine (sb_string L X h3 B s (by rw [Lib.strCells_length];exact hlen)).mono fun e w' ⟨he,W⟩=>?_
 rw [strCells_app] at W
 obtain ⟨ρ',g',q1,q2,q3,q4⟩:=sb_put hs hk h1 hy h7 (.inr rfl) W
 exact ⟨_,he,h,ρ',_,n,_,⟨g',rfl,rfl,rfl⟩,HLe.refl _,q1,q2,.pu _ _ (.tp _ _ rfl fun j α u a1 a2=>by
  match j,a1,a2 with
  | 0,a1,a2=>cases a1;cases a2;exact .i _ _
  | 1,a1,a2=>cases a1;cases a2;exact .ni),q3,q4⟩
theorem meets_sbByte (L : Lays.n167 P ρ) (X : Builder.Extra P ρ) {f : FuncId} (hf : ρ.f 167 = f) (hfn : ∃ fn, P.funcs[f]? = some fn ∧ (fn.name == "runtime.NumGoroutine") = false ∧ fn.body.isNone = false) {hp : CH} {n k g : Nat} {bs : ByteArray} {c : UInt8}
  {T e:Nat} (hT:ρ.t 72=T) (he:ρ.t 5=e) (hk:gc hp k=.sb T e g bs) (hlen:bs.size+1≤140737488355328) :
  Meets P f hp n [.bx k 0,.i .u8 c.toNat] fun hp' n' r=>∃g',hp'=(k,.sb T e g' (bs.push c))::hp∧n'=n∧r=.ni:=by
 subst hf hT he
 refine ⟨hfn,fun h ρ0 w vs hs ha=>?_⟩
 obtain ⟨v1,r1,rfl,x1,ha⟩:=ha.un
 obtain ⟨v2,r2,rfl,x2,ha⟩:=ha.un
 obtain rfl:=ha.un0
 obtain ⟨b,c0,p,v,rfl,h1,h3,B,hy,h7⟩:=sb_open hs hk x1
 have e2:v2=.int .u8 c.toNat:=by
  cases x2 with
  | pu _ _ q=>cases q;rfl
 subst e2
 refine (sb_byte L X h3 B c.toNat (by rw [Lib.strCells_length];exact hlen)).mono fun e w' ⟨he,W⟩=>?_
 rw [strCells_push] at W
 obtain ⟨ρ',g',q1,q2,q3,q4⟩:=sb_put hs hk h1 hy h7 (.inr rfl) W
 exact ⟨_,he,h,ρ',_,n,_,⟨g',rfl,rfl,rfl⟩,HLe.refl _,q1,q2,.pu _ _ .ni,q3,q4⟩
theorem meets_sbRead (L : Lays.n169 P ρ) (X : Builder.Extra P ρ) {f : FuncId} (hf : ρ.f 169 = f) (hfn : ∃ fn, P.funcs[f]? = some fn ∧ (fn.name == "runtime.NumGoroutine") = false ∧ fn.body.isNone = false) {hp : CH} {n k g : Nat} {bs : ByteArray}
  {T e:Nat} (hT:ρ.t 72=T) (he:ρ.t 5=e) (hk:gc hp k=.sb T e g bs) (h0:bs.size≠0):MeetsF P f hp n [.bx k 0] (.s bs):=by
 subst hf hT he
 refine ⟨hfn,fun h ρ0 w vs hs ha=>?_⟩
 obtain ⟨v1,r1,rfl,x1,ha⟩:=ha.un
 obtain rfl:=ha.un0
 obtain ⟨b,c0,p,v,rfl,h1,h3,B,hy,h7⟩:=sb_open hs hk x1
 have hne:bs.data.toList≠[]:=fun q=>h0 (by have:=congrArg List.length q;simpa using this)
 refine (sb_read L X bs.data.toList B hne).mono fun e w' ⟨he,B',R⟩=>?_
 have lb:live ρ0 hp b:=⟨k,0,c0,by rw [hk];exact .inl rfl,h1⟩
 have lv:∀b2,v.ownBlock=some b2→live ρ0 hp b2:=fun b2 e2=>let ⟨_,c2,q⟩:=h7 b2 e2;⟨k,g,c2,by rw [hk];exact .inr rfl,q⟩
 have m:SatH h ρ0 ((k,.sb (ρ.t 72) (ρ.t 5) g bs)::hp) n w':=by
  refine hs.put k _ (RLe.refl _) (fun _ _ _=>rfl) (fun x hx hq=>R.block x hx fun q=>?_) R.size ?_ ?_ hs.fr ?_
  .obtain ⟨_,c2,r2⟩:=h7 x q.symm
   rcases hq with hq | ⟨k',g',c',q1,q2,q3⟩
   .exact hq (hs.hid _ (lv x q.symm))
   .exact q1 (hs.inj k' k g' g _ _ _ q2 (by rw [hk];exact .inr rfl) q3 r2)
  .have q:=B'.own
   rw [show (Lib.byteCells bs.data.toList).length=bs.size by rw [Lib.byteCells_length];simp] at q
   exact ⟨b,c0,p,v,h1,B'.blk,h3,q,B'.ne,hy,h7⟩
  .intro g' x c' q1 q2
   have hl:live ρ0 hp x:=⟨k,g',c',by rw [hk];exact q1,q2⟩
   exact ⟨hs.hid _ hl,Nat.lt_of_lt_of_le (hs.lt x hl) R.size,fun k' g2 c2 hne q3 q4=>hne (hs.inj k' k g2 g' _ _ _ q3 (by rw [hk];exact q1) q4 q2)⟩
  .intro g1 g' x q1 q2
   cases q1
   exact hs.gens k g g' x (by rw [hk];rfl) q2
 refine ⟨_,he,h,HLe.refl _,m.congr fun j=>?_,.s _,⟨R.os,R.tape,R.output,R.size,fun x hx hl=>R.block x hx fun q=>hl (lv x q.symm)⟩⟩
 by_cases q:k=j
 .subst q;rw [gc_cons_same,hk]
 .rw [gc_cons_ne q]
theorem SatH.grown {h:HP} {ρ:RO} {hp:CH} {n:Nat} {w w':World} (m:SatH h ρ hp n w) (hsz:w.heap.size≤w'.heap.size) (hb:∀b,b<w.heap.size→w'.heap[b]?=w.heap[b]?):SatH h ρ hp n w' :=
 ⟨fun b o e=>by rw [hb b (Array.getElem?_eq_some_iff.1 (m.hh b o e)).1];exact m.hh b o e,fun k=>Chunk.sat_mono (HLe.refl _) (RLe.refl _) (fun g b x q1 q2=>hb b (m.lt b ⟨k,g,x,q1,q2⟩)) (m.ch k),m.inj,m.hid,fun b q=>Nat.lt_of_lt_of_le (m.lt b q) hsz,m.fr,m.gens,m.gl⟩
theorem Below.keeps {w w':World} (X:Nat→Prop) (B:Below w.heap.size w w'):Keeps X w w':=⟨B.os,B.tape,B.output,B.size,fun k hk _=>B.block k hk⟩
def joinB (xs:List ByteArray) (sep:ByteArray):ByteArray:=⟨(Lib.join (xs.map (·.data.toList)) sep.data.toList).toArray⟩
variable {P:Program} {ρ:Ren}
theorem meets_join (L : Lays.n156 P ρ) (X : Builder.Extra P ρ) {f : FuncId} (hf : ρ.f 156 = f) (hfn : ∃ fn, P.funcs[f]? = some fn ∧ (fn.name == "runtime.NumGoroutine") = false ∧ fn.body.isNone = false) {hp : CH} {n : Nat} {α : AV} {xs : List ByteArray} {sep : ByteArray}
  (hsl:sl0 hp α=some (xs.map fun x=>[AV.s x])) (hlen:(joinB xs sep).size≤140737488355328) (hN:xs.length≤140737488355328):MeetsF P f hp n [α,.s sep] (.s (joinB xs sep)):=by
 subst hf
 refine ⟨hfn,fun h ρ0 w vs hs ha=>?_⟩
 obtain ⟨v1,r1,rfl,x1,ha⟩:=ha.un
 obtain ⟨v2,r2,rfl,x2,ha⟩:=ha.un
 obtain rfl:=ha.un0
 have e2:v2=.string sep:=by
  cases x2 with
  | pu _ _ q=>cases q;rfl
 subst e2
 obtain ⟨a,cap,rfl,hc,q0,hq,hcell⟩:=sl0_read hs x1 hsl
 simp only [List.length_map] at hc ⊢
 have fin:Calls P (ρ.f 156) #[.slice a xs.length cap,.string sep] w fun e w'=>e=.returned (.string (joinB xs sep))∧Below w.heap.size w w':=by
  cases xs with
  | nil=>exact (Any.strings_Join_none L X a cap sep w).mono fun e w' ⟨he,hw⟩=>⟨he,by subst hw;exact Below.refl _ _⟩
  | cons x xs =>
   obtain ⟨b,o,rfl,hce⟩:=hcell (by simp)
   have hq0:q0=1:=(hq 0 [AV.s x] rfl).symm
   subst hq0
   have hcs:∀(j:Nat) y,(x::xs)[j]?=some y→w.cell? ⟨b,o+j,none⟩=some (.string y):=fun j y hj=>by
    obtain ⟨u,u1,u2⟩:=hce j [AV.s y] 0 (AV.s y) (by simp only [List.getElem?_map,hj];rfl) rfl
    rw [show o+1*j+0=o+j by omega] at u1
    cases u2
    exact u1
   have hbk:b<w.heap.size:=by
    have:=hcs 0 x rfl
    unfold World.cell? at this
    rcases Nat.lt_or_ge b w.heap.size with q | q
    .exact q
    .rw [Array.getElem?_eq_none q] at this;cases this
   exact Any.strings_Join L X b o cap (x::xs) sep w hcs hbk hN hc (by simpa [joinB,ByteArray.size] using hlen)
 refine fin.mono fun e w' ⟨he,B⟩=>⟨_,he,h,HLe.refl _,hs.grown B.size (fun b hb=>B.block b hb),.s _,Below.keeps _ B⟩
def itoaB (x:Int):ByteArray:=⟨(Lib.itoa x).toArray⟩
theorem meets_itoa (L : LaysM.n171 P ρ) {f : FuncId} (hf : ρ.f 171 = f) (hfn : ∃ fn, P.funcs[f]? = some fn ∧ (fn.name == "runtime.NumGoroutine") = false ∧ fn.body.isNone = false) {gb : Nat}
  (htab:∀w:World,(∃t fr,w.heap[gb]?=some (.cells (Lib.pow10Tab.map fun z=>Value.int IntKind.u64 z).toArray t fr))→∀x,-9223372036854775808≤x→x≤9223372036854775807 →
   Calls P (ρ.f 171) #[.int .i64 x] w fun e w'=>e=.returned (.string (itoaB x))∧∃k os,w'=Sort.grow (w.drewN k) os)
  (hgl:(gb,(Lib.pow10Tab.map fun z=>Value.int IntKind.u64 z).toArray)∈glTab) {hp:CH} {n:Nat} {x:Int} (h0:-9223372036854775808≤x) (h1:x≤9223372036854775807):MeetsF P f hp n [.i .i64 x] (.s (itoaB x)):=by
 subst hf
 refine ⟨hfn,fun h ρ0 w vs hs ha=>?_⟩
 obtain ⟨v1,r1,rfl,x1,ha⟩:=ha.un
 obtain rfl:=ha.un0
 have e1:v1=.int .i64 x:=by
  cases x1 with
  | pu _ _ q=>cases q;rfl
 subst e1
 obtain ⟨t,fr,q⟩:=hs.gl _ _ hgl
 refine (htab w ⟨t,fr,hs.hh _ _ q⟩ x h0 h1).mono fun e w' ⟨he,k,os,hw⟩=>?_
 have B:Below w.heap.size w w':=by
  subst hw
  exact ⟨rfl,rfl,rfl,by simp [Sort.grow],fun k hk=>by simp only [Sort.grow,World.heap_drewN];exact Array.getElem?_append_left hk⟩
 exact ⟨_,he,h,HLe.refl _,hs.grown B.size (fun b hb=>B.block b hb),.s _,Below.keeps _ B⟩
end Go.Eng
