/- Proof. Conditions: none. -/
import Derived.Test.YtgfidgoefioigaaGreatDoorProg
import Derived.KernelRfl
import Derived.Test.YtgfidgoefioigaaGreatDoorIi30
open Go.Proofs.Tryz
open List renaming length_append→zld,map_cons→zln
open Nat renaming le_refl→zna,le_trans→znc
namespace Go.Proofs.YtgfidgoefioigaaGreatDoor
open Go.Eng
set_option linter.all false
set_option maxRecDepth 20000
def Ru:List Int→Prop
 | []=>True
 | [_]=>True
 | a::b::r=>¬(a=1∧b=1)∧Ru (b::r)
inductive Le:List Pk→Prop
 | mk (l:List Pk):(∀(i j:Nat) p q,i<j→l[i]?=some p→l[j]?=some q→¬(p.on=q.on∧p.key=q.key))→(∀p∈l,Ru p.tw)→(∀p∈l,Le p.picks)→Le l
theorem Le.d {l:List Pk}:Le l→∀(i j:Nat) p q,i<j→l[i]?=some p→l[j]?=some q→¬(p.on=q.on∧p.key=q.key) | .mk _ h _ _=>h
theorem Le.r {l:List Pk}:Le l→∀p∈l,Ru p.tw | .mk _ _ h _=>h
theorem Le.x {l:List Pk}:Le l→∀p∈l,Le p.picks | .mk _ _ _ h=>h
theorem PQ:∀(fs:List Gq) (j:Nat) (tn:ByteArray) (tw:List Int) (picks:List Pk) (path:List Ak) (r:Ge),r∈GR fs j tn tw picks path→∃(i:Nat) (f:Gq),fs[i]?=some f∧r=f tn tw picks (path++[Oi (j+i:Nat)])∧(GR fs j tn tw picks path)[i]?=some r
 | [],j,tn,tw,picks,path,r,h=>by rw [GR] at h;cases h
 | f::fs,j,tn,tw,picks,path,r,h=>by
  rw [GR] at h
  rcases List.mem_cons.1 h with rfl | h
  .exact ⟨0,f,rfl,rfl,by rw [GR];exact List.getElem?_cons_zero⟩
  .obtain ⟨i,g,h1,h2,h3⟩:=PQ fs (j+1) tn tw picks path r h
   refine ⟨i+1,g,by simpa using h1,?_,by rw [GR];simpa using h3⟩
   rw [h2]
   have:(j+1+i:Nat)=j+(i+1):=by omega
   rw [this]
theorem J5 {doc:List Az} {v:Ak} {tn:ByteArray} {tw:List Int} {picks:List Pk} {path:List Ak} {Q:Ge→Prop} (h1:∀s,(v.k≠0)→Q (Fc path s)) (h2:v.k=0→Q (JR tw path))
  (h3:v.k=5→CK (Cz tw)=true→Q (HQ (v.items.map (Be doc)) tn (DT (Cz tw)) picks path)) (h4:v.k≠0→CK (Cz tw)=false→E9 doc tn=true→∀x,GQ doc tn v=some x→Q (x,[]))
  (h5:v.k=6→CK (Cz tw)=false→E9 doc tn=false→∀on,typO v=some on→Mw doc tn=true→on∈En doc tn→Q (JZ v.keys (v.items.map (Be doc)) on picks path)):Q (Be doc v tn tw picks path):=by
 rw [CY,Ms]
 split
 .rename_i c;exact h1 _ (by omega)
 split
 .rename_i c;exact h2 c
 rename_i c9 c0
 split
 .rename_i c
  split
  .rename_i c5;exact h3 c5 c
  .exact h1 _ c0
 rename_i c
 have c:CK (Cz tw)=false:=by simpa using c
 split
 .rename_i cl
  split
  .rename_i x hx;exact h4 c0 c cl x hx
  .exact h1 _ c0
 rename_i cl
 have cl:E9 doc tn=false:=by simpa using cl
 split
 .exact h1 _ c0
 .rename_i on hon
  split
  .rename_i hc;exact h5 (TQ hon) c cl on hon hc.1 hc.2
  .exact h1 _ c0
theorem WZ {doc:List Az} {tn:ByteArray} {v x:Ak} (h:GQ doc tn v=some x):1≤x.k∧x.k≤4∧x.items=[]∧x.keys=[]:=by
 unfold GQ R8 at h
 repeat' split at h
 all_goals first
  | (cases h;done)
  | (cases h;exact ⟨by first | (show (1:Int)≤2;decide) | (show (1:Int)≤3;decide) | (show (1:Int)≤4;decide) | (show (1:Int)≤1;decide),by first | (show (2:Int)≤4;decide) | (show (3:Int)≤4;decide) | (show (4:Int)≤4;decide) | (show (1:Int)≤4;decide),rfl,rfl⟩)
theorem Qu {doc:List Az} {v:Ak} (h6:v.k=6) {on:ByteArray} {path:List Ak} {picks:List Pk} {r:Pk × Ge} (h:r∈GT v.keys (v.items.map (Be doc)) on path picks) :
  r.1∈picks∧r.1.on=on∧r.2=Be doc ((AF v r.1.key).getD AB) r.1.tn r.1.tw r.1.picks (path++[Hp r.1.key]):=by
 unfold GT at h
 obtain ⟨p,hp,rfl⟩:=List.mem_map.1 h
 obtain ⟨h1,h2⟩:=List.mem_filter.1 hp
 exact ⟨h1,by simpa using h2,by rw [FM doc v h6]⟩
theorem Ru.tail {w:List Int} (h:Ru w):Ru w.tail:=by
 cases w with
 | nil=>trivial
 | cons a w =>
  cases w with
  | nil=>trivial
  | cons b w=>exact h.2
open Go.Eng Go.KL
set_option maxRecDepth 100000
def ck911:CC:=cK (a:=cF [1] [] [] f15) (by delta f15;simp (config := { maxSteps := 9999999 }) only [go_sem];rfl)
theorem cc911:Bf f15 31=some ck911.erase:=by kernel_rfl
theorem cr911:Bh f15 31=some [(.c 8 5 true),(.t 9)]:=by kernel_rfl
end Go.Proofs.YtgfidgoefioigaaGreatDoor
namespace Go.Eng
set_option linter.all false
def TO (n:Nat):CH→Prop
 | []=>True
 | (k,c)::r=>k<n∧c.und n∧TO n r
theorem K5 {n:Nat}:∀{ws:CH},TO n ws→∀x∈ws,x.1<n∧x.2.und n
 | [],_,x,h=>by cases h
 | (k,c)::r,hw,x,h=>by
  rcases List.mem_cons.1 h with rfl | h
  .exact ⟨hw.1,hw.2.1⟩
  .exact K5 hw.2.2 x h
theorem AI.e0x {P:Program} {f:FuncId} {hp ws:CH} {n:Nat} {args args':List AV} {i m:Nat} {r:AV} (hi:args[i]?=some .e0) (SC:args'=args.set i (.rw n 0 0)) (hws:(∀k,n≤k→gc hp k=.no)→TO n ws) (hr0:r.purR=true)
  (c:AQ P f ((n,.rc 0 m 0 [])::hp) (n+1) args' (ws++(n,.rc 0 m 0 [])::hp) (n+1) r):AQ P f hp n args (ws++hp) n r:=by
 refine ⟨c.1,fun h ρ w vs hs ha=>?_⟩
 have hw:=K5 (hws hs.free)
 have c1:=AI.e0 hi SC (fun x hx=>(hw x hx).1) c
 refine (c1.2 h ρ w vs hs ha).mono fun _ w' ⟨v,he,h',ρ',Ao,n',r',⟨e1,e2,e3⟩,hh,hr,hm,BW,hk,hl⟩=>?_
 subst e1 e2 e3
 have r2:BS ρ (Vz ρ' n):=fun k g x e=>by
  have:k<n:=by
   rcases Nat.lt_or_ge k n with q | q
   .exact q
   .rw [hs.fr k g q] at e;cases e
  rw [Ch this]
  exact hr _ _ _ e
 have r3:BS (Vz ρ' n) ρ':=fun k g x e=>(TI e).1
 have gno:gc hp n=.no:=hs.free n (zna n)
 have gn:gc (ws++hp) n=.no:=by
  rcases D8 (ws:=ws) (hp:=hp) n with ⟨_,e⟩ | ⟨c,hm,e⟩
  .rw [e,gno]
  .have:=(hw _ hm).1;omega
 have ge:∀j,j≠n→gc (ws++(n,Ap.rc 0 m 0 [])::hp) j=gc (ws++hp) j:=fun j hj=>O1 (fun e=>hj e.symm)
 have own:∀j g,(gc (ws++hp) j).own g→(gc (ws++(n,Ap.rc 0 m 0 [])::hp) j).own g:=fun j g q=>by
  by_cases hj:j=n
  .subst hj;rw [gn] at q;cases q
  .rw [ge j hj];exact q
 have lv:∀b,A9 (Vz ρ' n) (ws++hp) b→A9 ρ' (ws++(n,Ap.rc 0 m 0 [])::hp) b:=fun b ⟨j,g,c,q,x⟩=>⟨j,g,c,own j g q,r3 _ _ _ x⟩
 refine ⟨v,he,h',Vz ρ' n,_,_,_,⟨rfl,rfl,rfl⟩,hh,r2,⟨hm.hh,fun j=>?_,fun j j' g g' b c c' q q' x x'=>hm.inj j j' g g' b c c' (own j g q) (own j' g' q') (r3 _ _ _ x) (r3 _ _ _ x'),fun b hb=>hm.hid b (lv b hb),fun b hb=>hm.lt b (lv b hb),fun k g hk=>?_,fun j g g' x q y=>?_,hm.gl⟩,.pu _ _ (AV.purR_rel BW hr0),hk,fun b hb=>hl b (lv b hb)⟩
 .by_cases hj:j=n
  .subst hj;rw [gn];trivial
  .have s:=hm.ch j
   rw [ge j hj] at s
   rcases D8 (ws:=ws) (hp:=hp) j with ⟨_,e⟩ | ⟨c,hcm,e⟩
   .rw [e] at s ⊢
    have sb:=Ap.back hr (hs.ch j) s
    exact Ap.sat_mono (B8.refl _) r2 (fun _ _ _ _ _=>rfl) sb
   .rw [e] at s ⊢
    obtain ⟨k1,k2⟩:=hw _ hcm
    exact Ap.cut s k1 k2
 .unfold Vz
  rw [if_neg (by omega)]
 .have hj:j≠n:=fun e=>by subst e;rw [gn] at q;cases q
  exact hm.gens j g g' x (by rw [ge j hj];exact q) (r3 _ _ _ y)
end Go.Eng
namespace Go.Proofs.YtgfidgoefioigaaGreatDoor
open Go.Eng
set_option linter.all false
set_option maxRecDepth 20000
set_option maxHeartbeats 1000000
theorem PM {α β:Type} {f:α→List β} {b:α→Nat}:∀{l:List α},(∀x∈l,(f x).length≤b x)→(l.flatMap f).length≤(l.map b).sum
 | [],_=>by simp
 | x::l,h=>by
  rw [List.flatMap_cons,zld,zln,List.sum_cons]
  have h1:=h x (by simp)
  have h2:=PM (l:=l) fun y hy=>h y (by simp [hy])
  omega
theorem Vh (l:List Pk) (W:Nat):(l.map fun p=>W*(1+A8 p.picks)).sum=W*A8 l:=by
 induction l with
 | nil=>simp [A8]
 | cons x l ih=>rw [zln,List.sum_cons,ih,A8,CD];simp only [Nat.mul_add]
theorem N9 (doc:List Az) (tn:ByteArray) (tw:List Int) (picks:List Pk) (path:List Ak) (K:Nat):∀(l:List Ak) (j:Nat),(∀x∈l,∀path,(Be doc x tn tw picks path).2.length≤Bu x*K)→((GR (l.map (Be doc)) j tn tw picks path).flatMap (·.2)).length≤Df l*K
 | [],j,_=>by rw [List.map_nil,GR];simp
 | x::l,j,h=>by
  rw [zln,GR,List.flatMap_cons,zld,Df,Nat.add_mul]
  have h1:=h x (by simp) (path++[Oi j])
  have h2:=N9 doc tn tw picks path K l (j+1) fun y hy=>h y (by simp [hy])
  omega
theorem I9 {α:Type} (q:α→Bool) (f:α→Nat):∀l:List α,((l.filter q).map f).sum≤(l.map f).sum
 | []=>zna _
 | p::l=>by
  have:=I9 q f l
  rw [List.filter_cons]
  split
  .rw [zln,zln,List.sum_cons,List.sum_cons]
   omega
  .rw [zln,List.sum_cons]
   omega
theorem FQ (doc:List Az) (v:Ak):∀tn tw picks path,(Be doc v tn tw picks path).2.length≤Bu v*(1+A8 picks):=by
 have hz:∀tn tw picks path,(Be doc AB tn tw picks path).2.length≤1:=fun tn tw picks path=>by
  rw [LO,zFn,JR]
  split<;>simp [Fc]
 refine Ak.ind (Q:=fun v=>∀tn tw picks path,(Be doc v tn tw picks path).2.length≤Bu v*(1+A8 picks)) (fun v ih tn tw picks path=>?_) v
 have h1:1≤Bu v*(1+A8 picks):=Nat.mul_pos (Es v) (by omega)
 have hle:Df v.items≤Bu v:=by rw [Bn];omega
 refine J5 (Q:=fun R=>R.2.length≤Bu v*(1+A8 picks)) (fun s _=>by simpa [Fc] using h1) (fun _=>?_) (fun _ _=>?_) (fun _ _ _ x _=>by simp) (fun h6 _ _ on _ _ _=>?_)
 .rw [JR]
  split
  .simpa [Fc] using h1
  .simp
 .dsimp only [HQ]
  refine znc (N9 doc tn (DT (Cz tw)) picks path (1+A8 picks) v.items 0 fun x hx path=>ih x hx _ _ _ _) (Nat.mul_le_mul_right _ hle)
 .dsimp only [JZ]
  have hb:∀r∈GT v.keys (v.items.map (Be doc)) on path picks,r.2.2.length≤Bu v*(1+A8 r.1.picks):=fun r hr=>by
   obtain ⟨_,_,e⟩:=Qu h6 hr
   rw [e]
   cases hg:AF v r.1.key with
   | none=>exact znc (hz _ _ _ _) (Nat.mul_pos (Es v) (by omega))
   | some x =>
    have hx:=DQ hg
    exact znc (ih x hx _ _ _ _) (Nat.mul_le_mul_right _ (znc (Cq hx) hle))
  have h2:=PM (f:=fun r:Pk × Ge=>r.2.2) (b:=fun r=>Bu v*(1+A8 r.1.picks)) hb
  have h3:((GT v.keys (v.items.map (Be doc)) on path picks).map fun r=>Bu v*(1+A8 r.1.picks)).sum≤Bu v*A8 picks:=by
   rw [←Vh]
   unfold GT
   rw [List.map_map]
   show ((picks.filter fun p=>decide (p.on=on)).map fun p=>Bu v*(1+A8 p.picks)).sum≤_
   exact I9 _ _ _
  rw [Nat.mul_add]
  omega
theorem Qi (doc:List Az) (hd:DocOk doc) (root:ByteArray) (picks:List Pk) (LQ:BQ picks) (v:Ak) (hv:v.Fit) (hr:v.Rng) (hw:Bu v≤10000000000) (hcn:Bu v*(1+A8 picks)≤1000000000000) (hp:CH) (m:Nat) :
  Ah prog 15 hp m [B5 doc,.s root,.ds (Ad Bo picks),vx v] (.tp [vx (Be doc v root [] picks []).1,.ds (Ad CZ (Be doc v root [] picks []).2)]):=by
 have hC:=Zq doc hd v hv hr root [] picks [] (by simp) LQ (by simp;omega)
 have hct:=FQ doc v root [] picks []
 obtain ⟨R,AD⟩:∃R,Be doc v root [] picks []=R:=⟨_,rfl⟩
 rw [AD] at hC hct ⊢
 have hNm:=RQ root
 have hRl:R.2.length≤1000000000000:=by omega
 refine Am func15 (by kernel_rfl) cc911 cr911 rfl fun hf=>?_;unfold ck911
 simp (disch:=omega) only [Aa,go_sem]
 refine Tv ((X2 (k:=m+3) (Fw doc) ?_).trans (Dy (c:=m+4) (i:=2) (m:=2) (cs:=[.ds (Ad BB doc),.mp (m+3),.e0]) ?_ rfl)) ?_
 .simp (disch:=omega) only [Aa,go_sem]
 .simp (disch:=omega) only [Aa,go_sem]
 simp only [List.set_cons_succ,List.set_cons_zero]
 simp (disch:=omega) only [Aa,go_sem]
 refine A3.f (fun _ Ao e=>hNm _ _) ?_
 simp (disch:=omega) only [Aa,go_sem]
 refine A3.w (ws:=E1 doc (Fw doc) (m+4) (m+3) (m+5) 0 [] R.2) (F3 ⟨?_,?_,?_⟩ (by omega) (by omega) (by omega)) rfl
  (fun Ao e=>AI.e0x (i:=3) (m:=5) (args':=[.bx (m+4) 0,DC root [],.ds (Ad Bo picks),.rw (m+18) 0 0,vx v]) rfl rfl (fun hf=>⟨by omega,trivial,by omega,⟨trivial,(show m+3<m+18 by omega),(show m+5<m+18 by omega),trivial⟩,by omega,trivial,trivial⟩) rfl
   (hC _ (m+4) (m+3) (m+5) 0 [] (m+18) 0 0 0 _ ⟨?_,?_,?_⟩ (Av _ _ _) rfl (by simp;omega))) ?_
 case refine_7 =>
  simp only [E1,List.cons_append,List.nil_append]
  simp (disch:=omega) only [Aa,List.length_nil,Nat.zero_add,go_sem]
 all_goals first
  | ((simp (disch:=omega) only [Aa,go_sem]);done)
  | (rw [Aq _ _ (by omega),e _ (.inl (by omega))];(simp (disch:=omega) only [Aa,go_sem]);done)
  | skip
inductive F0 where
 | mk (n:ByteArray) (args:List FZ)
def F0.n:F0→ByteArray | .mk n _=>n
theorem F0.n_mk (n:ByteArray) (args:List FZ):(F0.mk n args).n=n:=rfl
def F0.args:F0→List FZ | .mk _ args=>args
theorem F0.args_mk (n:ByteArray) (args:List FZ):(F0.mk n args).args=args:=rfl
theorem F0.ext {x y:F0} (h0:x.n=y.n) (h1:x.args=y.args):x=y:=by cases x;cases y;simp only [F0.n_mk,F0.args_mk] at *;simp [*]
def EM (x:F0):List AV:=[.s x.n,.ds (Ad BC x.args)]
attribute [go_sem] EM F0.n_mk F0.args_mk
attribute [grind =] F0.n_mk F0.args_mk
attribute [ext] F0.ext
attribute [grind ext] F0.ext
inductive B6 where
 | mk (n:ByteArray) (tn:ByteArray) (tw:List Int) (has:Bool) (d:Ak) (dirs:List F0)
def B6.n:B6→ByteArray | .mk n _ _ _ _ _=>n
theorem B6.n_mk (n:ByteArray) (tn:ByteArray) (tw:List Int) (has:Bool) (d:Ak) (dirs:List F0):(B6.mk n tn tw has d dirs).n=n:=rfl
def B6.tn:B6→ByteArray | .mk _ tn _ _ _ _=>tn
theorem B6.tn_mk (n:ByteArray) (tn:ByteArray) (tw:List Int) (has:Bool) (d:Ak) (dirs:List F0):(B6.mk n tn tw has d dirs).tn=tn:=rfl
def B6.tw:B6→List Int | .mk _ _ tw _ _ _=>tw
theorem B6.tw_mk (n:ByteArray) (tn:ByteArray) (tw:List Int) (has:Bool) (d:Ak) (dirs:List F0):(B6.mk n tn tw has d dirs).tw=tw:=rfl
def B6.has:B6→Bool | .mk _ _ _ has _ _=>has
theorem B6.has_mk (n:ByteArray) (tn:ByteArray) (tw:List Int) (has:Bool) (d:Ak) (dirs:List F0):(B6.mk n tn tw has d dirs).has=has:=rfl
def B6.d:B6→Ak | .mk _ _ _ _ d _=>d
theorem B6.d_mk (n:ByteArray) (tn:ByteArray) (tw:List Int) (has:Bool) (d:Ak) (dirs:List F0):(B6.mk n tn tw has d dirs).d=d:=rfl
def B6.dirs:B6→List F0 | .mk _ _ _ _ _ dirs=>dirs
theorem B6.dirs_mk (n:ByteArray) (tn:ByteArray) (tw:List Int) (has:Bool) (d:Ak) (dirs:List F0):(B6.mk n tn tw has d dirs).dirs=dirs:=rfl
theorem B6.ext {x y:B6} (h0:x.n=y.n) (h1:x.tn=y.tn) (h2:x.tw=y.tw) (h3:x.has=y.has) (h4:x.d=y.d) (h5:x.dirs=y.dirs):x=y:=by cases x;cases y;simp only [B6.n_mk,B6.tn_mk,B6.tw_mk,B6.has_mk,B6.d_mk,B6.dirs_mk] at *;simp [*]
attribute [go_sem] B6.n_mk B6.tn_mk B6.tw_mk B6.has_mk B6.d_mk B6.dirs_mk
attribute [grind =] B6.n_mk B6.tn_mk B6.tw_mk B6.has_mk B6.d_mk B6.dirs_mk
attribute [ext] B6.ext
attribute [grind ext] B6.ext
def A7 (x:B6):List AV:=[.s x.n,.s x.tn,.ds (Ad Dx x.tw),.b x.has,.i .i64 x.d.k,.i .i64 x.d.n,.s x.d.s,.ds (Ad A2 x.d.items),.ds (Bv x.d.keys),.ds (Ad EM x.dirs)]
theorem Rw (l:List B6):DP 10 (Ad A7 l)=True:=DL fun _=>⟨rfl,rfl⟩
theorem Xa (l:List B6):(∀e,e∈Ad A7 l→e.length=10)=True:=eq_true fun e h=>((of_eq_true (Rw l)) e h).1
attribute [go_sem] A7 Xa
def KN (d:F0):Prop:=d.args.length≤1000000000∧∀a∈d.args,a.v.Fit
def Ed (l:List (List AV)):Prop:=∃ds:List F0,l=Ad EM ds∧ds.length≤1000000000∧∀d∈ds,KN d
def Gt (x:B6):Prop:=x.tw.length≤1000000000∧(x.d.Fit∧x.d.Rng)∧x.dirs.length≤1000000000∧∀d∈x.dirs,KN d
def D9 (l:List (List AV)):Prop:=∃is:List B6,l=Ad A7 is∧is.length≤1000000000∧∀x∈is,Gt x
structure DfnW (t:Az):Prop where
 dirs:Ed t.dirs
 inputs:D9 t.inputs
 fl:t.fields.length≤1000000000
 fields:∀f∈t.fields,D9 f.args∧Ed f.dirs∧f.tw.length≤1000000000
 members:∀e∈t.members,∃x y,e=[.s x,.ds y]∧Ed y
def Adk (e:List AV):List (List AV):=match e with
 | [.s _,.ds y]=>y
 | _=>[]
mutual
def Ok:Ak→Bool
 | .mk k _ _ i l=>!(decide (k=6)&&!decide (l.length=i.length))&&Sq i
def Sq:List Ak→Bool
 | []=>true
 | x::r=>Ok x&&Sq r
end
theorem IA (v:Ak):Ok v=(!(decide (v.k=6)&&!decide (v.keys.length=v.items.length))&&Sq v.items):=by cases v;rw [Ok];rfl
theorem Fs (l:List Ak):Sq l=true↔∀x∈l,Ok x=true:=by
 induction l with
 | nil=>simp [Sq]
 | cons x r ih=>rw [Sq];simp [ih]
def Qv:List ByteArray→List Ak→List ByteArray→List Ak→Option (List ByteArray × List Ak)
 | k::l,x::r,ks,is=>if 0≤ix k ks 0 then none else Qv l r (ks++[k]) (is++[x])
 | [],_,ks,is=>some (ks,is)
 | _::_,[],ks,is=>some (ks,is)
def adR (v:Ak) (o:Option (List ByteArray × List Ak)):Ak × Int :=
 match o with
 | some (ks,is)=>(.mk v.k v.n v.s is ks,0)
 | none=>(AB,7)
def J6 (v d:Ak):Ak × Int:=if v.k=6∧d.k=6 then adR v (Qv d.keys d.items v.keys v.items) else if d.k=0 then (v,0) else (AB,8)
def IM (v s:Ak):Int :=
 if s.k=3∧v.k=6 then (if ix s.s v.keys 0<v.items.length then ix s.s v.keys 0 else -1)
 else if s.k=2∧v.k=5∧0≤s.n∧s.n<v.items.length then s.n else -1
def H9 (d:Ak):List Ak→Ak→Ak × Int
 | [],v=>J6 v d
 | s::p,v=>if p.length=0∧s.k=2∧v.k=5∧s.n=v.items.length then (.mk v.k v.n v.s (v.items++[d]) v.keys,0)
  else if IM v s<0 then (AB,8)
  else match v.items[(IM v s).toNat]? with
   | none=>(AB,8)
   | some x=>if (H9 d p x).2=0 then (.mk v.k v.n v.s (v.items.set (IM v s).toNat (H9 d p x).1) v.keys,0) else (AB,(H9 d p x).2)
def P3 (x:Ak × Int):AV:=.tp [vx x.1,.i .i64 x.2]
attribute [go_sem] P3
theorem KK (v s:Ak) (hv:v.Fit) (hp:CH) (m:Nat):Ah prog 77 hp m [vx v,vx s] (.i .i64 (IM v s)):=by
 have h1:=hv.l
 have h2:=M0 s.s v.keys 0
 refine Am func77 (by kernel_rfl) cc77 cr77 rfl fun hf=>?_;unfold ck77
 simp only [go_sem]
 refine Ai (fun c=>?_) (fun c=>?_)
 .have c:s.k=3∧v.k=6:=by simpa using c
  simp only [go_sem]
  refine Af.f (GJ v.keys s.s (by omega) _ _) ?_
  simp only [go_sem]
  refine Ai (fun c2=>?_) (fun c2=>?_)
  .have c2:ix s.s v.keys 0<v.items.length:=by simpa using c2
   simp only [go_sem]
   rw [IM,if_pos c,if_pos c2]
  .have c2:¬ix s.s v.keys 0<v.items.length:=by simpa using c2
   simp only [go_sem]
   rw [IM,if_pos c,if_neg c2]
 .have c:¬(s.k=3∧v.k=6):=by simpa using c
  simp only [go_sem]
  refine Ai (fun c2=>?_) (fun c2=>?_)
  .have c2:s.k=2∧v.k=5∧0≤s.n∧s.n<v.items.length:=by simpa [and_assoc] using c2
   simp only [go_sem]
   rw [IM,if_neg c,if_pos c2]
  .have c2:¬(s.k=2∧v.k=5∧0≤s.n∧s.n<v.items.length):=by simpa [and_assoc] using c2
   simp only [go_sem]
   rw [IM,if_neg c,if_neg c2]
theorem X0 (l:List ByteArray) (k:ByteArray) (hl:l.length≤9223372036854775806) (c g len:Nat) (hn:l.length=len) (hp:CH) (m:Nat) (hk:gc hp c=.rw g 1 (Bv l)):Ah prog 94 hp m [.rw c g len,.s k] (.i .i64 (ix k l 0)):=by
 subst hn
 refine Am func94 (by kernel_rfl) cc94 cr94 rfl fun hf=>?_;unfold ck94
 simp only [hk,go_sem]
 refine loop (fun p:Nat × Nat=>⟨[(0,.rw c g l.length),(1,.s k),(7,.i .i64 l.length),(8,.i .i64 p.1)],hp,p.2⟩) (fun p=>p.1≤l.length∧ix k l 0=ix k (l.drop p.1) p.1) (fun p=>l.length - p.1) (0,m) ?_ ?_ (fun ⟨j,n⟩ hj=>?_)
 .grind
 .refine Ac ?_ (A6.refl _) (zna _)
  simp only [go_sem]
 dsimp only at hj
 simp only [hk,go_sem]
 refine Ai (fun d=>?_) (fun d=>?_)
 .have d:j<l.length:=by simpa using d
  obtain ⟨x,ex⟩:∃x,l[j]?=some x:=⟨l[j],by simp [d]⟩
  have e:=A5 ex
  rw [e,ix] at hj
  simp only [hk,d,Ag (Ab C9 ex),go_sem]
  refine Ai (fun c1=>?_) (fun c1=>?_)
  .have c1:k=x:=by simpa using c1
   simp only [go_sem]
   rw [hj.2,if_pos c1]
  .have c1:¬k=x:=by simpa using c1
   rw [if_neg c1] at hj
   simp only [go_sem]
   refine ⟨(j+1,n),by dsimp only;omega,by dsimp only;omega,Ac ?_ (A6.refl _) (zna _)⟩
   simp only [At j (by omega),go_sem]
 .have d:j=l.length:=by simp at d;omega
  subst d
  rw [List.drop_length,ix] at hj
  simp only [go_sem]
  rw [hj.2]
theorem EP (l:List ByteArray) (k:ByteArray) (hl:l.length≤9223372036854775806) (c g len:Nat) (hn:l.length=len) (hp:CH) (m:Nat) (hk:gc hp c=.rw g 1 (Bv l)):Ah prog 52 hp m [.rw c g len,.s k] (.b (decide (0≤ix k l 0))):=by
 refine Am func52 (by kernel_rfl) cc52 cr52 rfl fun hf=>?_;unfold ck52
 simp only [hk,go_sem]
 refine Af.f (X0 l k hl c g len hn _ _ hk) ?_
 simp only [go_sem]
theorem Wt (v d:Ak) (hv:v.Fit) (hd:d.Fit) (hi:(v.items.length+d.items.length)*80≤140737488355327) (hk:(v.keys.length+d.keys.length)*16≤140737488355327) (hp:CH) (m:Nat):Ah prog 76 hp m [vx v,vx d] (P3 (J6 v d)):=by
 refine Am func76 (by kernel_rfl) cc76 cr76 rfl fun hf=>?_;unfold ck76
 simp only [go_sem]
 refine Ai (fun c=>?_) (fun c=>?_)
 .have c:v.k=6∧d.k=6:=by simpa using c
  rw [J6,if_pos c]
  simp only [go_sem]
  refine Af.x (OF v hv _ _) ?_
  simp only [go_sem]
  refine loop (fun p:Nat × (List ByteArray × List Ak) × Nat=>⟨[(3,.bx (m+1) 0),(4,.bx (m+2) 0),(6,.bx (m+5) 0),(7,.i .i64 p.1)],
    (m+5,.bx [.i .i64 v.k,.i .i64 v.n,.s v.s,.rw (m+3) p.1 p.2.1.2.length,.rw (m+4) p.1 p.2.1.1.length])::(m+3,.rw p.1 5 (Ad A2 p.2.1.2))::(m+4,.rw p.1 1 (Bv p.2.1.1))::(m+2,.bx [.i .i64 0,.i .i64 0,.s ⟨#[]⟩,.e0,.e0]) ::
    (m+1,.bx [.i .i64 d.k,.i .i64 d.n,.s d.s,.ds (Ad A2 d.items),.ds (Bv d.keys)])::hp,p.2.2⟩)
   (fun p=>p.1≤d.keys.length∧p.1≤d.items.length∧p.2.1.2.length=v.items.length+p.1∧p.2.1.1.length=v.keys.length+p.1∧m+6≤p.2.2∧Qv d.keys d.items v.keys v.items=Qv (d.keys.drop p.1) (d.items.drop p.1) p.2.1.1 p.2.1.2)
   (fun p=>d.keys.length - p.1) (0,(v.keys,v.items),m+6) ?_ ?_ (fun ⟨j,⟨ks,is⟩,n⟩ hj=>?_)
  .exact ⟨by simp,by simp,by simp,by simp,by simp,rfl⟩
  .refine Ac ?_ (A6.cons ?_ (A6.cons ?_ (A6.cons ?_ (A6.cons ?_ (A6.cons ?_ (A6.base hf ?_)))))) (zna _)
   all_goals simp only [go_sem]
  dsimp only at hj
  obtain ⟨Cm,Ba,Aw,Cc,Dt,LS⟩:=hj
  simp only [go_sem]
  refine Ai (fun q=>?_) (fun q=>?_)
  .simp at q
   obtain ⟨q1,q2⟩:=q
   obtain ⟨y,ey⟩:∃y,d.keys[j]?=some y:=⟨d.keys[j],by simp [q1]⟩
   obtain ⟨x,ex⟩:∃x,d.items[j]?=some x:=⟨d.items[j],by simp [q2]⟩
   have hx:=hd.x (List.mem_of_getElem? ex)
   rw [A5 ey,A5 ex,Qv] at LS
   simp only [q1,q2,Ag (Ab A2 ex),Ag (Ab C9 ey),go_sem]
   refine A3.f (fun _ Ao hh=>EP ks y (by omega) (m+4) j _ rfl _ _ ((hh _ (.inl (by omega))).trans (by simp only [go_sem]))) ?_
   simp only [go_sem]
   refine Ai (fun q3=>?_) (fun q3=>?_)
   .have q3:0≤ix y ks 0:=by simpa using q3
    rw [LS,if_pos q3,adR]
    simp only [go_sem]
   .have q3:¬0≤ix y ks 0:=by simpa using q3
    rw [if_neg q3] at LS
    simp only [q1,q2,Ag (Ab A2 ex),Ag (Ab C9 ey),go_sem]
    first | refine ⟨⟨by omega,by omega⟩,?_⟩ | skip
    first | refine A3.f (fun _ _ _=>EI x hx _ _) ?_ | refine AG.f (fun _ _ _=>EI x hx _ _) ?_
    simp only [go_sem]
    refine ⟨⟨by omega,by omega⟩,(j+1,(ks++[y],is++[x]),_),?_,?_,Ac ?_ (A6.cons ?_ (A6.cons ?_ (A6.cons ?_ (A6.cons ?_ (A6.cons ?_ (A6.base hf ?_)))))) (zna _)⟩
    .exact ⟨by dsimp only;omega,by dsimp only;omega,by dsimp only;simp;omega,by dsimp only;simp;omega,by dsimp only;omega,LS⟩
    .dsimp only;omega
    all_goals
     simp only [At j (by omega),zld,go_sem]
  .have e:Qv (d.keys.drop j) (d.items.drop j) ks is=some (ks,is):=by
    simp at q
    rcases Nat.lt_or_ge j d.keys.length with q1 | q1
    .obtain ⟨y,ey⟩:∃y,d.keys[j]?=some y:=⟨d.keys[j],by simp [q1]⟩
     have e3:d.items.drop j=[]:=List.drop_eq_nil_of_le (by have:=q q1;omega)
     rw [A5 ey,e3,Qv]
    .rw [List.drop_eq_nil_of_le q1,Qv]
   rw [LS,e,adR]
   simp only [go_sem]
 .have c:¬(v.k=6∧d.k=6):=by simpa using c
  rw [J6,if_neg c]
  simp only [go_sem]
  refine Ai (fun q=>?_) (fun q=>?_)
  .have q:d.k=0:=by simpa using q
   rw [if_pos q]
   simp only [go_sem]
  .have q:¬d.k=0:=by simpa using q
   rw [if_neg q]
   simp only [go_sem]
end Go.Proofs.YtgfidgoefioigaaGreatDoor
