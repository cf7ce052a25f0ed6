/- Proof. Conditions: none. -/
import Derived.Test.YtgollgfifnmaaaaDoorCards
import Derived.Test.YtgollgfifnmaaaaDoorTie
import Derived.ProofKit
import Derived.OpenShut
import Derived.Deep.DeepHandedRow
import Derived.Lib.LaidTab
import Derived.Test.YtgollgfifnmaaaaDoorCmP252
open Nat renaming reduceEqDiff→Za,reduceBEq→Zb,reduceAdd→Zc,reduceLeDiff→Zd,reduceLT→Ze,reduceMul→Zf,reduceSub→Zg
open Int renaming reduceEq→Zh,reduceLT→Zi,reduceLE→Zj,reduceToNat→Zk
open Nat renaming le_refl→zna
namespace Go.Proofs.YtgollgfifnmaaaaDoor
open Go.Eng
open Go.ChangeShapes Go.WideShapes Go.ChangeAt Go.RowKit
set_option linter.all false
theorem tab_third {P:Program} {W:World} {x y:String × DataW Unit} {name:String} {k:IntKind} {zs:List Int} {g:Nat} {t e:TypeId} {n:Nat}
  (hg:P.globalNamed name=some g) (hty:(P.globals[g]?).map (·.type)=some t) (ht:P.underlying t=some (.array n e)) (he:P.underlying e=some (.int k)) (hce:P.cellsOf e=1) (hct:P.cellsOf t=n)
  (h:laidMet P [x,y,(name,Lib.tabData k zs)] W):∃t fr,W.heap[g]?=some (.cells (zs.map fun z=>Value.int k z).toArray t fr):=by
 obtain ⟨ps,⟨g1,t1,c1,f1,p1,q1,a1,a2,a3,a4,⟨g2,t2,c2,f2,p2,q2,b1,b2,b3,b4,hz,e2⟩,e1⟩,hnd,hrows⟩:=h
 have hs:q2.Sublist ps:=by
  rw [e1,e2]
  exact (List.sublist_append_right _ _).trans (List.sublist_append_right _ _)
 have ht':Lib.TabIs P W name k zs:=Lib.tabIs_of_head (rest:=[]) hg hty ht he hce hct ⟨q2,hz,hnd.sublist hs,fun b off hp=>hrows b off (hs.subset hp)⟩
 unfold Lib.TabIs World.var? at ht'
 rw [hg] at ht'
 simp only [Option.bind_some] at ht'
 split at ht'
 .rename_i cs t fr hh
  cases ht'
  exact ⟨t,fr,hh⟩
 .cases ht'
theorem pow10_laid {w:World} (h:laidMetH Tryd.prog Rows.completeRunsUptoRow.laid w):∀b vs,(b,vs)∈glTab→∃t fr,w.heap[b]?=some (.cells vs t fr):=by
 intro b vs hb
 simp only [glTab,List.mem_singleton,Prod.mk.injEq] at hb
 obtain ⟨rfl,rfl⟩:=hb
 exact tab_third (t:=142) (e:=135) (n:=20) (by kernel_rfl) (by kernel_rfl) (by kernel_rfl) (by kernel_rfl) (by kernel_rfl) (by kernel_rfl) h
noncomputable def valsOf:DataW Unit→Array Value
 | .agg l=>(l.map fun x=>match x with | .lit (.int k z)=>Value.int k z | _=>Value.int .i64 0).toArray
 | _=>#[]
def setTab (vs:Array Value):Obj→Obj
 | .cells _ t fr=>.cells vs t fr
 | o=>o
noncomputable def laidWorld (os:Os):World :=
 { World.holding Tryd.prog os ⟨#[],#[],[]⟩ with heap:=(((World.holding Tryd.prog os ⟨#[],#[],[]⟩).heap.modify 0 (setTab (valsOf Rows.laid_internal_strconv_uint64pow10))).modify 1 (setTab (valsOf Rows.laid_math_bits_deBruijn32tab))).modify 2 (setTab (valsOf Rows.laid_math_bits_deBruijn64tab)) }
abbrev case0:Value:=.agg #[.slice none 0 0,.string ⟨#[]⟩,.slice none 0 0,.int .i64 0,.int .i64 0,.string ⟨#[]⟩,.slice none 0 0,.slice none 0 0]
set_option maxRecDepth 100000 in
theorem laid_met (os:Os) (vs:Array Value):laidMet Tryd.prog Rows.completeRunsUptoRow.laid ((laidWorld os).forCall (fun _ _=>0) ⟨#[],vs,[]⟩).memory :=
 laidMet_of_run' 8 (by kernel_rfl) (by kernel_rfl)
set_option maxRecDepth 20000
set_option maxHeartbeats 1000000
def rgJ (w:List Int) (j:Nat):Bool:=match w[j]? with
 | none=>true
 | some a=>(decide (a=1)||decide (a=2))&&!(decide (0<j)&&decide (a=1)&&decide (w[j - 1]?=some 1))
def rgtB (n:ByteArray) (w:List Int):Bool:=nmS n&&decide (w.length≤24)&&decide (∀j,j<w.length→rgJ w j=true)
theorem rRight_ok (n:ByteArray) (w:List Int) (hw:w.length≤1000000000000) (hp:CH) (m:Nat):MeetsF Tryd.prog 55 hp m [rfx n w] (.b (rgtB n w)):=by
 obtain ⟨R,hR⟩:∃R,rgtB n w=R:=⟨_,rfl⟩
 rw [hR]
 unfold rgtB at hR
 obtain ⟨b,hb⟩:∃b,nmS n=b:=⟨_,rfl⟩
 have hN:=Name2_ok n
 rw [hb] at hN hR
 refine meetsF Tryd.func55 (by kernel_rfl) cc55 cr55 rfl fun hf=>?_;unfold ck55
 simp only [go_sem,↓reduceIte,Za,Zb,Zc,Zd,Ze,reduceCtorEq,Zf,Zg,Zh,Zi,Zj,Zk]
 refine vcCall.f (hN _ _) ?_
 simp (disch:=omega) only [ite_ne,go_sem,↓reduceIte,Za,Zb,Zc,Zd,Ze,reduceCtorEq,Zf,Zg,Zh,Zi,Zj,Zk]
 refine cdK_of (fun c=>?_) (fun c=>?_)
 .have:R=false:=by
   rw [←hR]
   cases b with
   | false=>rfl
   | true=>simp at c;simp;omega
  subst this
  simp (disch:=omega) only [ite_ne,go_sem,↓reduceIte,Za,Zb,Zc,Zd,Ze,reduceCtorEq,Zf,Zg,Zh,Zi,Zj,Zk]
 have cb:b=true:=by cases b with | true=>rfl | false=>simp at c
 have c24:w.length≤24:=by
  subst cb
  simp at c
  omega
 subst cb
 rw [decide_eq_true c24,Bool.true_and,Bool.true_and] at hR
 simp (disch:=omega) only [ite_ne,go_sem,↓reduceIte,Za,Zb,Zc,Zd,Ze,reduceCtorEq,Zf,Zg,Zh,Zi,Zj,Zk]
 refine loop (fun p:Nat × Nat=>⟨[(1,.bx m 0),(3,.i .i64 p.1)],(m,.bx [.s n,.ds (mapC in1 w)])::hp,p.2⟩) (fun p=>p.1≤w.length∧m+1≤p.2∧∀i,i<p.1→rgJ w i=true) (fun p=>w.length - p.1) (0,m+1) ?_ ?_ (fun ⟨j,k⟩ hj=>?_)
 .exact ⟨by simp,by simp,fun i h=>by omega⟩
 .refine weak_ok ?_ (Sub.cons ?_ (Sub.base hf ?_)) (zna _)
  all_goals (simp (disch:=omega) only [ite_ne,go_sem,↓reduceIte,Za,Zb,Zc,Zd,Ze,reduceCtorEq,Zf,Zg,Zh,Zi,Zj,Zk])
 dsimp only at hj
 obtain ⟨hj1,hj2,hj3⟩:=hj
 simp (disch:=omega) only [ite_ne,go_sem,↓reduceIte,Za,Zb,Zc,Zd,Ze,reduceCtorEq,Zf,Zg,Zh,Zi,Zj,Zk]
 refine cdK_of (fun q=>?_) (fun q=>?_)
 .have q:j<w.length:=by simpa using q
  obtain ⟨a,ea⟩:∃a,w[j]?=some a:=⟨w[j],by simp [q]⟩
  have stop:∀R',rgJ w j=false→R=R'→R'=false:=fun R' h e=>by
   rw [←e,←hR,decide_eq_false_iff_not]
   exact fun hh=>by have:=hh j q;rw [h] at this;cases this
  have jr:rgJ w j=((decide (a=1)||decide (a=2))&&!(decide (0<j)&&decide (a=1)&&decide (w[j - 1]?=some 1))):=by rw [rgJ,ea]
  have next:∀(x:Bool),rgJ w j=true→∀i,i<j+1→rgJ w i=true:=fun _ h i hi=>by
   rcases Nat.lt_or_ge i j with w' | w'
   .exact hj3 i w'
   .have:i=j:=by omega
    subst this;exact h
  by_cases a1:a=1
  .subst a1
   rcases Nat.eq_zero_or_pos j with j0 | j0
   .subst j0
    have jr:rgJ w 0=true:=by rw [jr];rfl
    simp (disch:=omega) only [ite_ne,q,getK_s (mapC_get in1 ea),go_sem,↓reduceIte,Za,Zb,Zc,Zd,Ze,reduceCtorEq,Zf,Zg,Zh,Zi,Zj,Zk]
    refine ⟨(0+1,_),⟨by dsimp only;omega,by dsimp only;omega,next true jr⟩,by dsimp only;omega,weak_ok ?_ (Sub.cons ?_ (Sub.base hf ?_)) (zna _)⟩
    all_goals
     simp (disch:=omega) only [ite_ne,wr64s 0 (by omega),go_sem,↓reduceIte,Za,Zb,Zc,Zd,Ze,reduceCtorEq,Zf,Zg,Zh,Zi,Zj,Zk]
     try rfl
   .obtain ⟨i,rfl⟩:∃i,j=i+1:=⟨j - 1,by omega⟩
    obtain ⟨b,eb⟩:∃b,w[i]?=some b:=⟨w[i]'(by omega),by simp [show i<w.length by omega]⟩
    rw [Nat.add_sub_cancel,eb] at jr
    have qi:i<w.length:=by omega
    have hm1:IntKind.wrap .i64 (((i+1:Nat):Int) - 1)=(i:Int):=by rw [show (((i+1:Nat):Int) - 1)=(i:Int) by omega];exact wr64 (by omega)
    simp (disch:=omega) only [ite_ne,q,qi,hm1,getK_s (mapC_get in1 ea),getK_s (mapC_get in1 eb),go_sem,↓reduceIte,Za,Zb,Zc,Zd,Ze,reduceCtorEq,Zf,Zg,Zh,Zi,Zj,Zk]
    refine cdK_of (fun c=>?_) (fun c=>?_)
    .have c:b=1:=by simpa using c
     have:=stop R (by rw [jr,c];simp) rfl
     subst this
     simp (disch:=omega) only [ite_ne,go_sem,↓reduceIte,Za,Zb,Zc,Zd,Ze,reduceCtorEq,Zf,Zg,Zh,Zi,Zj,Zk]
    .have c:¬b=1:=by simpa using c
     have jr:rgJ w (i+1)=true:=by rw [jr];simp [c]
     simp (disch:=omega) only [ite_ne,go_sem,↓reduceIte,Za,Zb,Zc,Zd,Ze,reduceCtorEq,Zf,Zg,Zh,Zi,Zj,Zk]
     refine ⟨(i+1+1,_),⟨by dsimp only;omega,by dsimp only;omega,next true jr⟩,by dsimp only;omega,weak_ok ?_ (Sub.cons ?_ (Sub.base hf ?_)) (zna _)⟩
     all_goals
      simp (disch:=omega) only [ite_ne,wr64s (i+1) (by omega),go_sem,↓reduceIte,Za,Zb,Zc,Zd,Ze,reduceCtorEq,Zf,Zg,Zh,Zi,Zj,Zk]
  .have a1d:decide (a=1)=false:=decide_eq_false a1
   by_cases a2:a=2
   .subst a2
    have jr:rgJ w j=true:=by rw [jr];simp
    rcases Nat.eq_zero_or_pos j with j0 | j0
    .subst j0
     simp (disch:=omega) only [ite_ne,q,a1d,getK_s (mapC_get in1 ea),go_sem,↓reduceIte,Za,Zb,Zc,Zd,Ze,reduceCtorEq,Zf,Zg,Zh,Zi,Zj,Zk]
     refine ⟨(0+1,_),⟨by dsimp only;omega,by dsimp only;omega,next true jr⟩,by dsimp only;omega,weak_ok ?_ (Sub.cons ?_ (Sub.base hf ?_)) (zna _)⟩
     all_goals
      simp (disch:=omega) only [ite_ne,wr64s 0 (by omega),go_sem,↓reduceIte,Za,Zb,Zc,Zd,Ze,reduceCtorEq,Zf,Zg,Zh,Zi,Zj,Zk]
      try rfl
    .obtain ⟨i,rfl⟩:∃i,j=i+1:=⟨j - 1,by omega⟩
     simp (disch:=omega) only [ite_ne,q,a1d,getK_s (mapC_get in1 ea),go_sem,↓reduceIte,Za,Zb,Zc,Zd,Ze,reduceCtorEq,Zf,Zg,Zh,Zi,Zj,Zk]
     refine ⟨(i+1+1,_),⟨by dsimp only;omega,by dsimp only;omega,next true jr⟩,by dsimp only;omega,weak_ok ?_ (Sub.cons ?_ (Sub.base hf ?_)) (zna _)⟩
     all_goals
      simp (disch:=omega) only [ite_ne,wr64s (i+1) (by omega),go_sem,↓reduceIte,Za,Zb,Zc,Zd,Ze,reduceCtorEq,Zf,Zg,Zh,Zi,Zj,Zk]
   .have a2d:decide (a=2)=false:=decide_eq_false a2
    have:=stop R (by rw [jr,a1d,a2d];rfl) rfl
    subst this
    simp (disch:=omega) only [ite_ne,q,a1d,a2d,getK_s (mapC_get in1 ea),go_sem,↓reduceIte,Za,Zb,Zc,Zd,Ze,reduceCtorEq,Zf,Zg,Zh,Zi,Zj,Zk]
 .have q:j=w.length:=by simp at q;omega
  subst q
  rw [decide_eq_true hj3] at hR
  subst hR
  simp (disch:=omega) only [ite_ne,go_sem,↓reduceIte,Za,Zb,Zc,Zd,Ze,reduceCtorEq,Zf,Zg,Zh,Zi,Zj,Zk]
noncomputable def wqG (lv:Int):List Pk→Int→List (Pk × (Int→Int))→Int
 | _,n,[]=>n
 | pre,n,x::r=>if (pre.any fun y=>decide (y.on=x.1.on)&&decide (y.key=x.1.key))=true then -1
  else if x.2 (lv+1)<0∨30<lv∨rgtB x.1.tn x.1.tw=false then -1
  else if 200<n+1+x.2 (lv+1) then -1 else wqG lv (pre++[x.1]) (n+1+x.2 (lv+1)) r
mutual
noncomputable def wqK:Pk→Int→Int
 | .mk a b c al t ws f g ps=>fun lv=>wqG lv [] 0 (wqL ps)
noncomputable def wqL:List Pk→List (Pk × (Int→Int))
 | []=>[]
 | p::r=>(p,wqK p)::wqL r
end
noncomputable def wqP (l:List Pk) (lv:Int):Int:=wqG lv [] 0 (wqL l)
theorem wqK_eq (p:Pk) (lv:Int):wqK p lv=wqP p.picks lv:=by cases p;rw [wqK];rfl
theorem wqG_rng (lv:Int):∀(L:List (Pk × (Int→Int))) (pre:List Pk) (n:Int),0≤n→n≤200→-1≤wqG lv pre n L∧wqG lv pre n L≤200
 | [],pre,n,h0,h1=>by rw [wqG];omega
 | x::L,pre,n,h0,h1=>by
  rw [wqG]
  split
  .omega
  .split
   .omega
   .rename_i c
    split
    .omega
    .exact wqG_rng lv L _ _ (by omega) (by omega)
theorem wqP_rng (l:List Pk) (lv:Int):-1≤wqP l lv∧wqP l lv≤200:=wqG_rng lv _ _ _ (by omega) (by omega)
theorem wqG_cons {lv:Int} {pre:List Pk} {n:Int} {x:Pk} {f:Int→Int} {r:List (Pk × (Int→Int))} {m:Int} (h:f (lv+1)=m):wqG lv pre n ((x,f)::r)=if (pre.any fun y=>decide (y.on=x.on)&&decide (y.key=x.key))=true then -1
  else if m<0∨30<lv∨rgtB x.tn x.tw=false then -1 else if 200<n+1+m then -1 else wqG lv (pre++[x]) (n+1+m) r:=by
 subst h
 rw [wqG]
def WgK (l:List Pk):Prop:=∀lv:Int,PFit l→0≤lv→lv+wtKs l≤1000000000000→∀hp m,MeetsF Tryd.prog 28 hp m [.ds (mapC pkC l),.i .i64 lv] (.i .i64 (wqP l lv))
theorem weight22_of (l:List Pk) (h:∀p∈l,WgK p.picks):WgK l:=by
 intro lv hpk h0 hlv hp m
 have hlen:=hpk.len
 obtain ⟨R,hR⟩:∃R,wqP l lv=R:=⟨_,rfl⟩
 rw [hR]
 refine meetsF Tryd.func28 (by kernel_rfl) cc28 cr28 rfl fun hf=>?_;unfold ck28
 simp only [go_sem,↓reduceIte,Za,Zb,Zc,Zd,Ze,reduceCtorEq,Zf,Zg,Zh,Zi,Zj,Zk]
 refine loop (fun p:(Nat × Int) × Nat=>⟨[(0,.ds (mapC pkC l)),(1,.i .i64 lv),(5,.i .i64 p.1.2),(6,.i .i64 p.1.1)],hp,p.2⟩) (fun p=>p.1.1≤l.length∧0≤p.1.2∧p.1.2≤200∧R=wqG lv (l.take p.1.1) p.1.2 (wqL (l.drop p.1.1))) (fun p=>l.length - p.1.1) ((0,0),m) ?_ ?_ (fun ⟨⟨j,n⟩,k⟩ hj=>?_)
 .exact ⟨by simp,by simp,by simp,by rw [←hR];rfl⟩
 .refine weak_ok ?_ (Sub.refl _) (zna _)
  simp only [go_sem,↓reduceIte,Za,Zb,Zc,Zd,Ze,reduceCtorEq,Zf,Zg,Zh,Zi,Zj,Zk]
 dsimp only at hj
 obtain ⟨hj1,hj2,hj3,hj4⟩:=hj
 simp only [go_sem,↓reduceIte,Za,Zb,Zc,Zd,Ze,reduceCtorEq,Zf,Zg,Zh,Zi,Zj,Zk]
 refine cdK_of (fun q=>?_) (fun q=>?_)
 .have q:j<l.length:=by simpa using q
  obtain ⟨x,ex⟩:∃x,l[j]?=some x:=⟨l[j],by simp [q]⟩
  have hxm:=List.mem_of_getElem? ex
  rw [drop_at ex,wqL] at hj4
  have hx:=h x hxm (lv+1) (hpk.x hxm) (by omega) (by have:=wtKs_mem hxm;rw [wtK_eq] at this;omega)
  have hrg:=rRight_ok x.tn x.tw (hpk.t hxm)
  rw [←wqK_eq] at hx
  have hrn:=wqP_rng x.picks (lv+1)
  rw [←wqK_eq] at hrn
  obtain ⟨mm,hmm⟩:∃mm,wqK x (lv+1)=mm:=⟨_,rfl⟩
  rw [hmm] at hx hrn
  rw [wqG_cons hmm,take_snoc ex] at hj4
  simp only [go_sem,↓reduceIte,Za,Zb,Zc,Zd,Ze,reduceCtorEq,Zf,Zg,Zh,Zi,Zj,Zk]
  refine loop (fun p:Nat × Nat=>⟨[(0,.ds (mapC pkC l)),(1,.i .i64 lv),(5,.i .i64 n),(6,.i .i64 j),(7,.i .i64 p.1)],hp,p.2⟩) (fun p=>p.1≤j∧((l.take p.1).any fun y=>decide (y.on=x.on)&&decide (y.key=x.key))=false) (fun p=>j - p.1) (0,k) ?_ ?_ (fun ⟨i,k2⟩ hi=>?_)
  .exact ⟨by simp,by simp⟩
  .refine weak_ok ?_ (Sub.refl _) (zna _)
   simp only [go_sem,↓reduceIte,Za,Zb,Zc,Zd,Ze,reduceCtorEq,Zf,Zg,Zh,Zi,Zj,Zk]
  dsimp only at hi
  obtain ⟨hi1,hi2⟩:=hi
  simp only [go_sem,↓reduceIte,Za,Zb,Zc,Zd,Ze,reduceCtorEq,Zf,Zg,Zh,Zi,Zj,Zk]
  refine cdK_of (fun q2=>?_) (fun q2=>?_)
  .have q2:i<j:=by simpa using q2
   obtain ⟨y,ey⟩:∃y,l[i]?=some y:=⟨l[i]'(by omega),by simp [show i<l.length by omega]⟩
   have b1:i<l.length:=by omega
   simp only [q,b1,getK_s (mapC_get pkC ex),getK_s (mapC_get pkC ey),mapC_get pkC ex,mapC_get pkC ey,pkC_eq,go_sem,↓reduceIte,Za,Zb,Zc,Zd,Ze,reduceCtorEq,Zf,Zg,Zh,Zi,Zj,Zk]
   refine cdK_of (fun c=>?_) (fun c=>?_)
   .have hany:((l.take j).any fun y=>decide (y.on=x.on)&&decide (y.key=x.key))=true:=List.any_eq_true.2 ⟨y,List.mem_of_getElem? (i:=i) (by rw [List.getElem?_take,if_pos q2];exact ey),c⟩
    rw [if_pos hany] at hj4
    subst hj4
    simp only [go_sem,↓reduceIte,Za,Zb,Zc,Zd,Ze,reduceCtorEq,Zf,Zg,Zh,Zi,Zj,Zk]
   .simp only [go_sem,↓reduceIte,Za,Zb,Zc,Zd,Ze,reduceCtorEq,Zf,Zg,Zh,Zi,Zj,Zk]
    refine ⟨(i+1,_),⟨by dsimp only;omega,?_⟩,by dsimp only;omega,weak_ok ?_ (Sub.refl _) (zna _)⟩
    .rw [←take_snoc ey,List.any_append,hi2]
     simp only [List.any_cons,List.any_nil,Bool.or_false,Bool.false_or]
     exact c
    simp only [wr64s i (by omega),go_sem,↓reduceIte,Za,Zb,Zc,Zd,Ze,reduceCtorEq,Zf,Zg,Zh,Zi,Zj,Zk]
  .have q2:i=j:=by simp at q2;omega
   subst q2
   rw [hi2,if_neg (by simp)] at hj4
   simp only [q,wr64g (lv+1) (by omega),getK_s (mapC_get pkC ex),go_sem,↓reduceIte,Za,Zb,Zc,Zd,Ze,reduceCtorEq,Zf,Zg,Zh,Zi,Zj,Zk]
   refine vcCall.f (hx _ _) ?_
   cases hcd:(decide (mm<0)||decide (30<lv)) with
   | true =>
    have hor:mm<0∨30<lv∨rgtB x.tn x.tw=false:=by
     simp only [Bool.or_eq_true,decide_eq_true_eq] at hcd
     rcases hcd with h | h
     .exact .inl h
     .exact .inr (.inl h)
    rw [if_pos hor] at hj4
    subst hj4
    simp only [q,hcd,getK_s (mapC_get pkC ex),mapC_get pkC ex,pkC_eq,go_sem,↓reduceIte,Za,Zb,Zc,Zd,Ze,reduceCtorEq,Zf,Zg,Zh,Zi,Zj,Zk]
    refine gCall.f (r:=.b true) (fun h=>by cases h) ?_
    simp only [hcd,go_sem,↓reduceIte,Za,Zb,Zc,Zd,Ze,reduceCtorEq,Zf,Zg,Zh,Zi,Zj,Zk]
   | false =>
    have hnc:0≤mm∧lv≤30:=by
     simp only [Bool.or_eq_false_iff,decide_eq_false_iff_not] at hcd
     omega
    obtain ⟨hm0,hl3⟩:=hnc
    simp only [q,hcd,getK_s (mapC_get pkC ex),mapC_get pkC ex,pkC_eq,go_sem,↓reduceIte,Za,Zb,Zc,Zd,Ze,reduceCtorEq,Zf,Zg,Zh,Zi,Zj,Zk]
    refine gCall.f (fun _=>hrg _ _) ?_
    simp only [q,hcd,getK_s (mapC_get pkC ex),mapC_get pkC ex,pkC_eq,go_sem,↓reduceIte,Za,Zb,Zc,Zd,Ze,reduceCtorEq,Zf,Zg,Zh,Zi,Zj,Zk]
    refine cdK_of (fun c=>?_) (fun c=>?_)
    .have c:rgtB x.tn x.tw=false:=by simpa using c
     rw [if_pos (.inr (.inr c))] at hj4
     subst hj4
     simp only [go_sem,↓reduceIte,Za,Zb,Zc,Zd,Ze,reduceCtorEq,Zf,Zg,Zh,Zi,Zj,Zk]
    .have c:rgtB x.tn x.tw=true:=by simpa using c
     rw [if_neg (fun h=>by rcases h with h | h | h;exact absurd h (by omega);exact absurd h (by omega);rw [c] at h;cases h)] at hj4
     simp only [wr64g (n+1) (by omega),wr64g (n+1+mm) (by omega),go_sem,↓reduceIte,Za,Zb,Zc,Zd,Ze,reduceCtorEq,Zf,Zg,Zh,Zi,Zj,Zk]
     refine cdK_of (fun c2=>?_) (fun c2=>?_)
     .have c2:200<n+1+mm:=by simpa using c2
      rw [if_pos c2] at hj4
      subst hj4
      simp only [go_sem,↓reduceIte,Za,Zb,Zc,Zd,Ze,reduceCtorEq,Zf,Zg,Zh,Zi,Zj,Zk]
     .have c2:¬200<n+1+mm:=by simpa using c2
      rw [if_neg c2] at hj4
      simp only [go_sem,↓reduceIte,Za,Zb,Zc,Zd,Ze,reduceCtorEq,Zf,Zg,Zh,Zi,Zj,Zk]
      refine ⟨((i+1,n+1+mm),_),⟨by dsimp only;omega,by dsimp only;omega,by dsimp only;omega,hj4⟩,by dsimp only;omega,weak_ok ?_ (Sub.refl _) (zna _)⟩
      simp only [wr64s i (by omega),go_sem,↓reduceIte,Za,Zb,Zc,Zd,Ze,reduceCtorEq,Zf,Zg,Zh,Zi,Zj,Zk]
 .have q:j=l.length:=by simp at q;omega
  subst q
  rw [List.drop_length,wqL,wqG] at hj4
  subst hj4
  simp only [go_sem,↓reduceIte,Za,Zb,Zc,Zd,Ze,reduceCtorEq,Zf,Zg,Zh,Zi,Zj,Zk]
theorem weight22_ok (l:List Pk):WgK l:=by
 refine weight22_of l fun p _=>?_
 exact Pk.ind (Q:=fun p=>WgK p.picks) (fun p ih=>weight22_of _ ih) p
noncomputable def expV (doc:List Dfn) (l:List Pk) (v:Val):Bool:=decide ((l.length:Int)≤200)&&(decide (wtD 600 doc doc.length≤600)&&(decide (wgV 2000 v≤2000)&&decide (0≤wqP l 1)))
theorem expected_ok (doc:List Dfn) (root:ByteArray) (l:List Pk) (v:Val) (h:CQ doc l v) (hp:CH) (m:Nat):MeetsF Tryd.prog 9 hp m [cse doc root l v] (.b (expV doc l v)):=by
 have h1:=dWeight_ok 600 doc h.d.ok h.d.w
 have h2:=weight_ok 2000 v h.vs.f
 have hn:=h.n
 have h3:=weight22_ok l 1 h.p (by omega) (by omega)
 unfold expV
 refine meetsF Tryd.func9 (by kernel_rfl) cc9 cr9 rfl fun hf=>?_;unfold ck9
 simp only [go_sem,↓reduceIte,Za,Zb,Zc,Zd,Ze,reduceCtorEq,Zf,Zg,Zh,Zi,Zj,Zk]
 refine gCall.f (fun _=>h1 _ _) ?_
 simp only [go_sem,↓reduceIte,Za,Zb,Zc,Zd,Ze,reduceCtorEq,Zf,Zg,Zh,Zi,Zj,Zk]
 refine gCall.f (fun _=>h2 _ _) ?_
 simp only [go_sem,↓reduceIte,Za,Zb,Zc,Zd,Ze,reduceCtorEq,Zf,Zg,Zh,Zi,Zj,Zk]
 refine gCall.f (fun _=>h3 _ _) ?_
 simp only [go_sem,↓reduceIte,Za,Zb,Zc,Zd,Ze,reduceCtorEq,Zf,Zg,Zh,Zi,Zj,Zk]
 try simp [Bool.and_assoc]
end Go.Proofs.YtgollgfifnmaaaaDoor
