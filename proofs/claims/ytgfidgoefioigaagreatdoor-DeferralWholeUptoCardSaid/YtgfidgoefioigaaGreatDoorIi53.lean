/- Proof. Conditions: none. -/
import Derived.Test.YtgfidgoefioigaaGreatDoorCards
import Derived.Test.YtgfidgoefioigaaGreatDoorTie
import Derived.ProofKit
import Derived.OpenShut
import Derived.Deep.DeepHandedRow
import Derived.Lib.LaidTab
import Derived.Test.YtgfidgoefioigaaGreatDoorIi52
open Go.Proofs.Tryz
open List renaming length_cons→zlc,length_append→zld,length_nil→zle
open Nat renaming le_refl→zna
namespace Go.Proofs.YtgfidgoefioigaaGreatDoor
open Go.Eng
open Go.ChangeShapes Go.WideShapes Go.ChangeAt Go.RowKit
set_option linter.all false
theorem Rr {P:Program} {W:World} {x y:String × DataW Unit} {name:String} {k:IntKind} {zs:List Int} {g:Nat} {t e:TypeId} {n:Nat}
  (hg:P.globalNamed name=some g) (Mc:(P.globals[g]?).map (·.type)=some t) (ht:P.underlying t=some (.array n e)) (he:P.underlying e=some (.int k)) (hce:P.cellsOf e=1) (hct:P.cellsOf t=n)
  (h:laidMet P [x,y,(name,Lib.tabData k zs)] W):∃t fr,W.heap[g]?=some (.cells (zs.map fun z=>Value.int k z).toArray t fr):=by
 obtain ⟨ps,⟨g1,t1,c1,f1,p1,q1,a1,a2,a3,a4,⟨g2,t2,c2,f2,p2,q2,b1,b2,b3,b4,hz,e2⟩,e1⟩,hnd,hrows⟩:=h
 have hs:q2.Sublist ps:=by
  rw [e1,e2]
  exact (List.sublist_append_right _ _).trans (List.sublist_append_right _ _)
 have ht':Lib.TabIs P W name k zs:=Lib.tabIs_of_head (rest:=[]) hg Mc ht he hce hct ⟨q2,hz,hnd.sublist hs,fun b off hp=>hrows b off (hs.subset hp)⟩
 unfold Lib.TabIs World.var? at ht'
 rw [hg] at ht'
 simp only [Option.bind_some] at ht'
 split at ht'
 .rename_i cs t fr hh
  cases ht'
  exact ⟨t,fr,hh⟩
 .cases ht'
theorem OL {w:World} (h:laidMetH prog Rows.deferralSplitsUptoRow.laid w):∀b vs,(b,vs)∈IF→∃t fr,w.heap[b]?=some (.cells vs t fr):=by
 intro b vs hb
 simp only [IF,List.mem_singleton,Prod.mk.injEq] at hb
 obtain ⟨rfl,rfl⟩:=hb
 exact Rr (t:=214) (e:=207) (n:=20) (by kernel_rfl) (by kernel_rfl) (by kernel_rfl) (by kernel_rfl) (by kernel_rfl) (by kernel_rfl) h
noncomputable def Po:DataW Unit→Array Value
 | .agg l=>(l.map fun x=>match x with | .lit (.int k z)=>Value.int k z | _=>Value.int .i64 0).toArray
 | _=>#[]
def Ow (vs:Array Value):Obj→Obj
 | .cells _ t fr=>.cells vs t fr
 | o=>o
noncomputable def Hz (os:Os):World :=
 { World.holding prog os ⟨#[],#[],[]⟩ with heap:=(((World.holding prog os ⟨#[],#[],[]⟩).heap.modify 0 (Ow (Po Rows.laid_internal_strconv_uint64pow10))).modify 1 (Ow (Po Rows.laid_math_bits_deBruijn32tab))).modify 2 (Ow (Po Rows.laid_math_bits_deBruijn64tab)) }
abbrev YM:Value:=.agg #[.int .i64 0,.slice none 0 0]
abbrev Yw:Value:=.agg #[.int .i64 0,.int .i64 0,.string ⟨#[]⟩,.slice none 0 0,.slice none 0 0]
abbrev YF:Value:=.agg #[.slice none 0 0]
set_option maxRecDepth 100000 in
theorem Uy (os:Os) (vs:Array Value):laidMet prog Rows.deferralSplitsUptoRow.laid ((Hz os).forCall (fun _ _=>0) ⟨#[],vs,[]⟩).memory :=
 laidMet_of_run' 8 (by kernel_rfl) (by kernel_rfl)
set_option maxRecDepth 20000
set_option maxHeartbeats 4000000
noncomputable def Lu (on:ByteArray) (l:List Pk):List Pk:=l.filter fun p=>decide (p.on=on)
theorem Ss (on:ByteArray) (l:List Pk) (p:Pk):Lu on (l++[p])=if p.on=on then Lu on l++[p] else Lu on l:=by
 unfold Lu
 rw [List.filter_append]
 by_cases c:p.on=on
 .rw [if_pos c];simp [c]
 .rw [if_neg c];simp [c]
theorem Ux (on:ByteArray) (l:List Pk):(Lu on l).length≤l.length:=List.length_filter_le _ _
theorem KT (on:ByteArray):∀(l:List Pk) (p:Pk) (o:List ByteArray),Fg on (l++[p]) o=if p.on=on then C0 p.label (Fg on l o) else Fg on l o
 | [],p,o=>by rw [List.nil_append,Fg,Fg,Fg]
 | q::l,p,o=>by rw [List.cons_append,Fg,Fg,KT on l p]
theorem J3 (on:ByteArray):∀(m:List Pk) ,(∀p∈m,p.label=⟨#[]⟩)→Fg on m []=[]
 | [],_=>rfl
 | p::m,h=>by
  have e:C0 p.label []=[]:=by unfold C0;rw [if_neg (fun c=>c.1 (h p (by simp)))]
  rw [Fg,e]
  split
  .exact J3 on m fun q hq=>h q (by simp [hq])
  .exact J3 on m fun q hq=>h q (by simp [hq])
theorem MU (on:ByteArray):∀(l:List Pk) (o:List ByteArray),(Fg on l o).length≤o.length+l.length
 | [],o=>by rw [Fg];omega
 | p::l,o=>by
  rw [Fg,zlc]
  have h:=MU on l
  split
  .have h1:=h (C0 p.label o)
   have h2:(C0 p.label o).length≤o.length+1:=by unfold C0;split<;>simp
   omega
  .have h1:=h o
   omega
inductive ViZ
 | mk (j g1 g2:Nat) (o:List Pk) (k:List ByteArray) (n:Nat)
def ZOk (v data:Ak) (path:List Ak):Prop:=v.Fit∧Bu v≤100000000∧data.Fit∧path.length+Bu v≤1000000000
def QZ (l:List Pk):Prop:=∀(v data:Ak) (path:List Ak) (hp:CH) (c n:Nat),ZOk v data path→v.k=6→Ah prog 29 hp n [.bx c 0,vx v,.ds (Ad Bo l),vx data,.ds (Ad A2 path)] (.tp [])
def Adp (q:Pk):Prop:=∀(v data:Ak) (path:List Ak) (hp:CH) (c n:Nat),ZOk v data path→v.k=6→Ah prog 56 hp n [.bx c 0,vx v,pkx q,vx data,.ds (Ad A2 path)] (.tp [])
theorem K9 (l:List Pk) (hlf:l.length≤1000000000) (hpl0:∀p∈l,p.label=⟨#[]⟩) (hF:∀q∈l,Adp q):QZ l:=by
 intro v data path hp c n hz v6
 obtain ⟨hvf,hvw,hd,JG⟩:=hz
 have hT:=HZ v hvf
 obtain ⟨on,hon⟩:∃o,typF v=o:=⟨_,rfl⟩
 rw [hon] at hT
 refine Am func29 (by kernel_rfl) cc929 cr929 rfl fun hf=>?_;unfold ck929
 simp (disch:=omega) only [Aa,go_sem]
 refine Af.f (hT _ _) ?_
 simp (disch:=omega) only [Aa,go_sem]
 refine loop (fun p:ViZ=>match p with
  | .mk j g1 g2 O K n'=>⟨[(0,.bx c 0),(4,.ds (Ad A2 path)),(6,.bx n 0),(8,.bx (n+1) 0),(10,.s on),(11,.rw (n+2) g1 O.length),(12,.rw (n+3) g2 K.length),(26,.ds (Ad Bo l)),(27,.i .i64 l.length),(28,.i .i64 j)],
    (n+2,.rw g1 9 (Ad Bo O))::(n+3,.rw g2 1 (Bv K))::(n,.bx [.i .i64 v.k,.i .i64 v.n,.s v.s,.ds (Ad A2 v.items),.ds (Bv v.keys)])::(n+1,.bx [.i .i64 data.k,.i .i64 data.n,.s data.s,.ds (Ad A2 data.items),.ds (Bv data.keys)])::hp,n'⟩)
  (fun p=>match p with | .mk j g1 g2 O K n'=>j≤l.length∧n+4≤n'∧O=Lu on (l.take j)∧K=Fg on (l.take j) []) (fun p=>match p with | .mk j g1 g2 O K n'=>l.length - j) (.mk 0 0 0 [] [] (n+4)) ?_ ?_ (fun p hj=>?_)
 .exact ⟨Nat.zero_le _,zna _,rfl,rfl⟩
 .dsimp only
  refine (B0 (t:=11) (m:=9) (by (simp (disch:=omega) only [Aa,go_sem]))).trans ((B0 (t:=12) (m:=1) (by (simp (disch:=omega) only [Aa,go_sem]))).trans (Ac ?_ (Ae.sub (Ae.cons ?_ (Ae.cons ?_ (Ae.cons ?_ (Ae.cons ?_ (Ae.base hf fun a ha hax=>?_)))))) (zna _)))
  .simp (disch:=omega) only [Aa,go_sem]
  .simp (disch:=omega) only [Aa,go_sem]
   try rfl
  .simp (disch:=omega) only [Aa,go_sem]
   try rfl
  .simp (disch:=omega) only [Aa,go_sem]
  .simp (disch:=omega) only [Aa,go_sem]
  .repeat rw [Aq _ _ (by omega)]
 obtain ⟨j,g1,g2,O,K,n'⟩:=p
 obtain ⟨Cm,Ba,Aw,Cc⟩:=hj
 have hOl:(Ad Bo O).length=O.length:=Ax _ _
 have hKl:(Bv K).length=K.length:=Ax _ _
 have hOn:O.length≤l.length:=by rw [Aw];have:=Ux on (l.take j);rw [List.length_take] at this;omega
 have hKn:K.length≤l.length:=by rw [Cc];have:=MU on (l.take j) [];rw [List.length_take,zle] at this;omega
 dsimp only
 simp (disch:=omega) only [Aa,go_sem]
 refine Ai (fun q=>?_) (fun q=>?_)
 .have q:j<l.length:=by simpa using q
  obtain ⟨x,ex⟩:∃x,l[j]?=some x:=⟨l[j],by simp [q]⟩
  have QO:Lu on (l.take (j+1))=if x.on=on then Lu on (l.take j)++[x] else Lu on (l.take j):=by rw [←Bg ex,Ss]
  have hS2:Fg on (l.take (j+1)) []=if x.on=on then C0 x.label (Fg on (l.take j) []) else Fg on (l.take j) []:=by rw [←Bg ex,KT]
  rw [←Aw] at QO
  rw [←Cc] at hS2
  simp (disch:=omega) only [Aa,q,Ag (Ab Bo ex),go_sem]
  refine Ai (fun d=>?_) (fun d=>?_)
  .have d:¬x.on=on:=by simpa using d
   rw [if_neg d] at QO hS2
   simp (disch:=omega) only [Aa,go_sem]
   refine ⟨.mk (j+1) (g1) (g2) (O) (K) (n'+60),⟨show j+1≤l.length by omega,show n+4≤n'+60 by omega,QO.symm,hS2.symm⟩,by show l.length - (j+1)<l.length - j;omega,?_⟩
   dsimp only
   refine Ac ?_ (Ae.sub (Ae.cons ?_ (Ae.cons ?_ (Ae.cons ?_ (Ae.cons ?_ (Ae.base hf fun a ha hax=>?_)))))) (by omega)
   .simp (disch:=omega) only [Aa,At j (by omega),zld,zlc,zle,go_sem]
   .simp (disch:=omega) only [Aa,go_sem]
   .simp (disch:=omega) only [Aa,go_sem]
   .simp (disch:=omega) only [Aa,go_sem]
   .simp (disch:=omega) only [Aa,go_sem]
   .repeat rw [Aq _ _ (by omega)]
  have d:x.on=on:=by simpa using d
  rw [if_pos d] at QO hS2
  have k1:(O.length+1)*160≤140737488355328:=by omega
  have k2:O.length+1≤9223372036854775807:=by omega
  have k3:(K.length+1)*16≤140737488355328:=by omega
  have k4:K.length+1≤9223372036854775807:=by omega
  have sn1:Ad Bo O++[[AV.s x.key,.s x.on,.s x.name,.ds (Ad BC x.args),.s x.tn,.ds (Ad Dx x.tw),.s x.label,.i .i64 x.initial,.ds (Ad Bo x.picks)]]=Ad Bo (O++[x]):=by rw [←Bi Bo O x,Cg]
  have sn2:Bv K++[[.s x.label]]=Bv (K++[x.label]):=Bi C9 _ _
  simp (disch:=omega) only [Aa,q,Ag (Ab Bo ex),hOl,k1,k2,sn1,go_sem]
  refine AA.f (fun _=>EP K x.label (by omega) (n+3) g2 K.length rfl _ _ (by (simp (disch:=omega) only [Aa,go_sem]))) ?_
  simp (disch:=omega) only [Aa,go_sem]
  refine Ai (fun e=>?_) (fun e=>?_)
  .have e:¬x.label=⟨#[]⟩∧¬0≤ix x.label K 0:=by simpa using e
   unfold C0 at hS2
   rw [if_pos e] at hS2
   simp (disch:=omega) only [Aa,hKl,k3,k4,sn2,go_sem]
   refine ⟨.mk (j+1) (g1+1) (g2+1) (O++[x]) (K++[x.label]) (n'+60),⟨show j+1≤l.length by omega,show n+4≤n'+60 by omega,QO.symm,hS2.symm⟩,by show l.length - (j+1)<l.length - j;omega,?_⟩
   dsimp only
   refine Ac ?_ (Ae.sub (Ae.cons ?_ (Ae.cons ?_ (Ae.cons ?_ (Ae.cons ?_ (Ae.base hf fun a ha hax=>?_)))))) (by omega)
   .simp (disch:=omega) only [Aa,At j (by omega),zld,zlc,zle,go_sem]
   .simp (disch:=omega) only [Aa,go_sem]
   .simp (disch:=omega) only [Aa,go_sem]
   .simp (disch:=omega) only [Aa,go_sem]
   .simp (disch:=omega) only [Aa,go_sem]
   .repeat rw [Aq _ _ (by omega)]
  .have e:¬(¬x.label=⟨#[]⟩∧¬0≤ix x.label K 0):=by simpa using e
   unfold C0 at hS2
   rw [if_neg e] at hS2
   simp (disch:=omega) only [Aa,go_sem]
   refine ⟨.mk (j+1) (g1+1) (g2) (O++[x]) (K) (n'+60),⟨show j+1≤l.length by omega,show n+4≤n'+60 by omega,QO.symm,hS2.symm⟩,by show l.length - (j+1)<l.length - j;omega,?_⟩
   dsimp only
   refine Ac ?_ (Ae.sub (Ae.cons ?_ (Ae.cons ?_ (Ae.cons ?_ (Ae.cons ?_ (Ae.base hf fun a ha hax=>?_)))))) (by omega)
   .simp (disch:=omega) only [Aa,At j (by omega),zld,zlc,zle,go_sem]
   .simp (disch:=omega) only [Aa,go_sem]
   .simp (disch:=omega) only [Aa,go_sem]
   .simp (disch:=omega) only [Aa,go_sem]
   .simp (disch:=omega) only [Aa,go_sem]
   .repeat rw [Aq _ _ (by omega)]
 have q:j=l.length:=by simp at q;omega
 subst q
 rw [List.take_length] at Aw Cc
 have hK0:K=[]:=by rw [Cc];exact J3 on l hpl0
 simp (disch:=omega) only [Aa,go_sem]
 refine Tv ((Ql (t:=11) (k:=n+2) (g:=g1) (len:=O.length) (m:=9) (l:=Ad Bo O) (by (simp (disch:=omega) only [Aa,go_sem])) (by (simp (disch:=omega) only [Aa,go_sem])) (by omega)).trans (Ql (t:=12) (k:=n+3) (g:=g2) (len:=K.length) (m:=1) (l:=Bv K) (by (simp (disch:=omega) only [Aa,go_sem])) (by (simp (disch:=omega) only [Aa,go_sem])) (by omega))) ?_
 have tk1:(Ad Bo O).take O.length=Ad Bo O:=List.take_of_length_le (by omega)
 have tk2:(Bv K).take K.length=Bv K:=List.take_of_length_le (by omega)
 rw [tk1,tk2]
 subst hK0
 simp (disch:=omega) only [Aa,hKl,go_sem]
 have hOm:∀x∈O,x∈l:=fun x hx=>by
  rw [Aw] at hx
  exact (List.mem_filter.1 hx).1
 refine loop (fun p:Nat=>⟨[(0,.bx c 0),(4,.ds (Ad A2 path)),(6,.bx n 0),(8,.bx (n+1) 0),(11,.ds (Ad Bo O)),(56,.ds []),(57,.i .i64 0),(58,.i .i64 0)],
    (n,.bx [.i .i64 v.k,.i .i64 v.n,.s v.s,.ds (Ad A2 v.items),.ds (Bv v.keys)])::(n+1,.bx [.i .i64 data.k,.i .i64 data.n,.s data.s,.ds (Ad A2 data.items),.ds (Bv data.keys)])::hp,p⟩)
  (fun p=>n+4≤p) (fun p=>0) n' Ba ?_ (fun p hi=>?_)
 .refine Ac ?_ (Ae.sub (Ae.cons ?_ (Ae.cons ?_ (Ae.base hf fun a ha hax=>?_)))) (zna _)
  .simp (disch:=omega) only [Aa,go_sem]
  .simp (disch:=omega) only [Aa,go_sem]
  .simp (disch:=omega) only [Aa,go_sem]
  .repeat rw [Aq _ _ (by omega)]
 have hn':n≤p:=by omega
 simp (disch:=omega) only [Aa,go_sem]
 refine loop (fun p:Nat × Nat=>⟨[(0,.bx c 0),(4,.ds (Ad A2 path)),(6,.bx n 0),(8,.bx (n+1) 0),(115,.ds (Ad Bo O)),(116,.i .i64 O.length),(117,.i .i64 p.1)],
    (n,.bx [.i .i64 v.k,.i .i64 v.n,.s v.s,.ds (Ad A2 v.items),.ds (Bv v.keys)])::(n+1,.bx [.i .i64 data.k,.i .i64 data.n,.s data.s,.ds (Ad A2 data.items),.ds (Bv data.keys)])::hp,p.2⟩)
  (fun p=>p.1≤O.length∧n+4≤p.2) (fun p=>O.length - p.1) (0,p) ?_ ?_ (fun ⟨j,n''⟩ hj=>?_)
 .exact ⟨Nat.zero_le _,hi⟩
 .refine Ac ?_ (Ae.sub (Ae.cons ?_ (Ae.cons ?_ (Ae.base hf fun a ha hax=>?_)))) (zna _)
  .simp (disch:=omega) only [Aa,hOl,go_sem]
  .simp (disch:=omega) only [Aa,go_sem]
  .simp (disch:=omega) only [Aa,go_sem]
  .repeat rw [Aq _ _ (by omega)]
 dsimp only at hj
 obtain ⟨Cm,hj2'⟩:=hj
 simp (disch:=omega) only [Aa,go_sem]
 refine Ai (fun d=>?_) (fun d=>?_)
 case' refine_2 =>
  simp (disch:=omega) only [Aa,go_sem]
 have d:j<O.length:=by simpa using d
 obtain ⟨x,ex⟩:∃x,O[j]?=some x:=⟨O[j],by simp [d]⟩
 have SB:=hOm x (List.mem_of_getElem? ex)
 have hX:=fun Ao n'=>hF x SB v data path Ao c n' ⟨hvf,hvw,hd,JG⟩ v6
 have hxl:=hpl0 x SB
 simp (disch:=omega) only [Aa,d,Ag (Ab Bo ex),decide_eq_true hxl,go_sem]
 refine Af.f (hX _ _) ?_
 simp (disch:=omega) only [Aa,go_sem]
 refine ⟨(j+1,n''+60),⟨show j+1≤O.length by omega,show n+4≤n''+60 by omega⟩,by show O.length - (j+1)<O.length - j;omega,Ac ?_ (Ae.sub (Ae.cons ?_ (Ae.cons ?_ (Ae.base hf fun a ha hax=>?_)))) (by dsimp only;omega)⟩
 .simp (disch:=omega) only [Aa,At j (by omega),go_sem]
 .simp (disch:=omega) only [Aa,go_sem]
 .simp (disch:=omega) only [Aa,go_sem]
 .repeat rw [Aq _ _ (by omega)]
end Go.Proofs.YtgfidgoefioigaaGreatDoor
