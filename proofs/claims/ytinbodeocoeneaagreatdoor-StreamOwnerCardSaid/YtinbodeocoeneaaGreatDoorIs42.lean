/- Proof. Conditions: none. -/
import Derived.Test.YtinbodeocoeneaaGreatDoorIs41
open Nat renaming reduceEqDiff→Za,reduceBEq→Zb,reduceAdd→Zc,reduceLeDiff→Zd,reduceLT→Ze,reduceMul→Zf,reduceSub→Zg
open Int renaming reduceEq→Zh,reduceLT→Zi,reduceLE→Zj,reduceToNat→Zk
open List renaming mem_of_getElem?→zla,drop_length→zll
open Nat renaming le_refl→zna
namespace Go.Proofs.YtinbodeocoeneaaGreatDoor
open Go.Eng
set_option linter.all false
set_option maxRecDepth 20000
inductive Pk.Fit:Pk→Prop
 | mk (p:Pk):p.args.length≤1466015503658→p.tw.length≤17592186043904→p.picks.length≤879609302195→(∀a∈p.args,a.v.Fit)→(∀x∈p.picks,Pk.Fit x)→Pk.Fit p
theorem Pk.Fit.a {p:Pk} (h:p.Fit):p.args.length≤1466015503658:=by cases h;assumption
theorem Pk.Fit.w {p:Pk} (h:p.Fit):p.tw.length≤17592186043904:=by cases h;assumption
theorem Pk.Fit.l {p:Pk} (h:p.Fit):p.picks.length≤879609302195:=by cases h;assumption
theorem Pk.Fit.v {p:Pk} (h:p.Fit) {a:Arg} (ha:a∈p.args):a.v.Fit:=by cases h with | mk _ _ _ _ h _=>exact h a ha
theorem Pk.Fit.x {p:Pk} (h:p.Fit) {x:Pk} (hx:x∈p.picks):x.Fit:=by cases h with | mk _ _ _ _ _ h=>exact h x hx
theorem snoc_arg (l:List Arg) (a:Arg):mapC argC l++[[AV.s a.n,.i .i64 a.v.k,.i .i64 a.v.n,.s a.v.s,.ds (mapC valC a.v.items),.ds (stC a.v.keys)]]=mapC argC (l++[a]):=mapC_snoc argC l a
theorem snoc_pk (l:List Pk) (p:Pk):mapC pkC l++[[AV.s p.key,.s p.on,.s p.name,.ds (mapC argC p.args),.s p.tn,.ds (mapC in1 p.tw),.s p.label,.i .i64 p.initial,.ds (mapC pkC p.picks)]]=mapC pkC (l++[p]):=by rw [←pkC_eq,mapC_snoc]
attribute [go_sem] snoc_arg snoc_pk
inductive Pln where
 | mk (k:Int) (l:List Pk)
def Pln.k:Pln→Int | .mk k _=>k
theorem Pln.k_mk (k:Int) (l:List Pk):(Pln.mk k l).k=k:=rfl
def Pln.l:Pln→List Pk | .mk _ l=>l
theorem Pln.l_mk (k:Int) (l:List Pk):(Pln.mk k l).l=l:=rfl
theorem Pln.eta (x:Pln):Pln.mk x.k x.l=x:=by cases x;rfl
theorem Pln.ext {x y:Pln} (h0:x.k=y.k) (h1:x.l=y.l):x=y:=by cases x;cases y;simp only [Pln.k_mk,Pln.l_mk] at *;simp [*]
attribute [go_sem] Pln.k_mk Pln.l_mk
attribute [grind =] Pln.k_mk Pln.l_mk
attribute [ext] Pln.ext
attribute [grind ext] Pln.ext
abbrev plx (x:Pln):AV:=.ag [.i .i64 x.k,.ds (mapC pkC x.l)]
def cntA:List Arg→Int→Int→Int
 | [],_,n=>n
 | a::r,most,n=>if n≤most then cntA r most (w64 (n+szV a.v)) else n
mutual
def cntK:Pk→Int→Int→Int
 | .mk _ _ _ a _ _ _ _ p,most,n=>w64 (cntA a most (w64 (n+1))+cntL p (w64 (most - cntA a most (w64 (n+1)))) 0)
def cntL:List Pk→Int→Int→Int
 | [],_,n=>n
 | p::r,most,n=>if n≤most then cntL r most (cntK p most n) else n
end
theorem cntK_eq (p:Pk) (most n:Int):cntK p most n=w64 (cntA p.args most (w64 (n+1))+cntL p.picks (w64 (most - cntA p.args most (w64 (n+1)))) 0):=by cases p;rw [cntK];rfl
theorem cntA_stop {n most:Int} (h:¬n≤most):∀l:List Arg,cntA l most n=n
 | []=>rfl
 | a::r=>by rw [cntA,if_neg h]
theorem cntL_stop {n most:Int} (h:¬n≤most) (l:List Pk):cntL l most n=n:=by
 cases l with
 | nil=>rw [cntL]
 | cons p r=>rw [cntL,if_neg h]
theorem count_of (l:List Pk) (hl:l.length≤10000000000000) (hA:∀p∈l,p.Fit) (h:∀p∈l,∀most hp m,MeetsF Tryz.prog 71 hp m [.ds (mapC pkC p.picks),.i .i64 most] (.i .i64 (cntL p.picks most 0)))
  (most:Int) (hp:CH) (m:Nat):MeetsF Tryz.prog 71 hp m [.ds (mapC pkC l),.i .i64 most] (.i .i64 (cntL l most 0)):=by
 obtain ⟨R,hR⟩:∃R,cntL l most 0=R:=⟨_,rfl⟩
 rw [hR]
 refine meetsF Tryz.func71 (by kernel_rfl) cc71 cr71 rfl fun hf=>?_;unfold ck71
 simp only [go_sem,↓reduceIte,Za,Zb,Zc,Zd,Ze,reduceCtorEq,Zf,Zg,Zh,Zi,Zj,Zk]
 refine loop (fun q:Nat × Int × Nat=>⟨[(0,.ds (mapC pkC l)),(1,.i .i64 most),(5,.i .i64 q.2.1),(6,.i .i64 q.1)],hp,q.2.2⟩)
  (fun q=>q.1≤l.length∧m≤q.2.2∧R=cntL (l.drop q.1) most q.2.1) (fun q=>l.length - q.1) (0,0,m) ?_ ?_ (fun ⟨j,z,n⟩ hj=>?_)
 .exact ⟨by simp,by simp,hR.symm⟩
 .refine weak_ok ?_ (Sub.refl _) (zna _)
  all_goals (simp (disch:=omega) only [ite_ne,go_sem,↓reduceIte,Za,Zb,Zc,Zd,Ze,reduceCtorEq,Zf,Zg,Zh,Zi,Zj,Zk])
 dsimp only at hj
 obtain ⟨hj1,hj2,hj3⟩:=hj
 simp (disch:=omega) only [ite_ne,go_sem,↓reduceIte,Za,Zb,Zc,Zd,Ze,reduceCtorEq,Zf,Zg,Zh,Zi,Zj,Zk]
 refine cdK_of (fun q=>?_) (fun q=>?_)
 .have q1:j<l.length:=by simp at q;omega
  have q2:z≤most:=by simp at q;omega
  obtain ⟨p,ep⟩:∃p,l[j]?=some p:=⟨l[j],by simp [q1]⟩
  have ha:=hA p (zla ep)
  have han:=ha.a
  have hrec:=h p (zla ep)
  rw [drop_at ep,cntL,if_pos q2,cntK_eq] at hj3
  obtain ⟨Z,hZ⟩:∃Z,cntA p.args most (w64 (z+1))=Z:=⟨_,rfl⟩
  rw [hZ] at hj3
  simp (disch:=omega) only [ite_ne,go_sem,↓reduceIte,Za,Zb,Zc,Zd,Ze,reduceCtorEq,Zf,Zg,Zh,Zi,Zj,Zk]
  refine loop (fun q:Nat × Int × Nat=>⟨[(0,.ds (mapC pkC l)),(1,.i .i64 most),(5,.i .i64 q.2.1),(6,.i .i64 j),(7,.i .i64 q.1)],hp,q.2.2⟩)
   (fun q=>q.1≤p.args.length∧m≤q.2.2∧Z=cntA (p.args.drop q.1) most q.2.1) (fun q=>p.args.length - q.1) (0,w64 (z+1),n) ?_ ?_ (fun ⟨i,z2,n2⟩ hi=>?_)
  .exact ⟨by simp,hj2,hZ.symm⟩
  .refine weak_ok ?_ (Sub.refl _) (zna _)
   all_goals (simp (disch:=omega) only [ite_ne,w64,go_sem,↓reduceIte,Za,Zb,Zc,Zd,Ze,reduceCtorEq,Zf,Zg,Zh,Zi,Zj,Zk])
  dsimp only at hi
  obtain ⟨hi1,hi2,hi3⟩:=hi
  simp (disch:=omega) only [ite_ne,q1,getK_s (mapC_get pkC ep),mapC_get pkC ep,go_sem,↓reduceIte,Za,Zb,Zc,Zd,Ze,reduceCtorEq,Zf,Zg,Zh,Zi,Zj,Zk]
  refine cdK_of (fun q=>?_) (fun q=>?_)
  .have q3:i<p.args.length:=by simp at q;omega
   have q4:z2≤most:=by simp at q;omega
   obtain ⟨a,ea⟩:∃a,p.args[i]?=some a:=⟨p.args[i],by simp [q3]⟩
   rw [drop_at ea,cntA,if_pos q4] at hi3
   simp (disch:=omega) only [ite_ne,q1,q3,getK_s (mapC_get pkC ep),mapC_get pkC ep,getK_s (mapC_get argC ea),mapC_get argC ea,go_sem,↓reduceIte,Za,Zb,Zc,Zd,Ze,reduceCtorEq,Zf,Zg,Zh,Zi,Zj,Zk]
   refine vcCall.f (size_ok a.v (ha.v (zla ea)) _ _) ?_
   simp (disch:=omega) only [ite_ne,go_sem,↓reduceIte,Za,Zb,Zc,Zd,Ze,reduceCtorEq,Zf,Zg,Zh,Zi,Zj,Zk]
   refine ⟨(i+1,w64 (z2+szV a.v),_),⟨by dsimp only;omega,by dsimp only;omega,hi3⟩,by dsimp only;omega,weak_ok ?_ (Sub.refl _) (zna _)⟩
   all_goals
    simp (disch:=omega) only [ite_ne,wr64s i (by omega),w64,go_sem,↓reduceIte,Za,Zb,Zc,Zd,Ze,reduceCtorEq,Zf,Zg,Zh,Zi,Zj,Zk]
  .have q3:Z=z2:=by
    by_cases q4:z2≤most
    .have q5:i=p.args.length:=by simp at q;omega
     subst q5
     rw [zll,cntA] at hi3
     exact hi3
    .rw [cntA_stop q4] at hi3
     exact hi3
   subst q3
   simp (disch:=omega) only [ite_ne,q1,getK_s (mapC_get pkC ep),mapC_get pkC ep,go_sem,↓reduceIte,Za,Zb,Zc,Zd,Ze,reduceCtorEq,Zf,Zg,Zh,Zi,Zj,Zk]
   refine vcCall.f (hrec _ _ _) ?_
   simp (disch:=omega) only [ite_ne,go_sem,↓reduceIte,Za,Zb,Zc,Zd,Ze,reduceCtorEq,Zf,Zg,Zh,Zi,Zj,Zk]
   refine ⟨(j+1,w64 (Z+cntL p.picks (w64 (most - Z)) 0),_),⟨by dsimp only;omega,by dsimp only;omega,hj3⟩,by dsimp only;omega,weak_ok ?_ (Sub.refl _) (zna _)⟩
   all_goals
    simp (disch:=omega) only [ite_ne,wr64s j (by omega),w64,go_sem,↓reduceIte,Za,Zb,Zc,Zd,Ze,reduceCtorEq,Zf,Zg,Zh,Zi,Zj,Zk]
 .have q1:R=z:=by
   by_cases q4:z≤most
   .have q5:j=l.length:=by simp at q;omega
    subst q5
    rw [zll,cntL] at hj3
    exact hj3
   .rw [cntL_stop q4] at hj3
    exact hj3
  subst q1
  simp (disch:=omega) only [ite_ne,go_sem,↓reduceIte,Za,Zb,Zc,Zd,Ze,reduceCtorEq,Zf,Zg,Zh,Zi,Zj,Zk]
theorem count_ok (l:List Pk) (hl:l.length≤10000000000000) (hpo:∀p∈l,p.Fit) (most:Int) (hp:CH) (m:Nat):MeetsF Tryz.prog 71 hp m [.ds (mapC pkC l),.i .i64 most] (.i .i64 (cntL l most 0)):=by
 have key:∀p:Pk,p.Fit→∀most hp m,MeetsF Tryz.prog 71 hp m [.ds (mapC pkC p.picks),.i .i64 most] (.i .i64 (cntL p.picks most 0)):=fun p=>by
  refine Pk.ind (Q:=fun p=>p.Fit→∀most hp m,MeetsF Tryz.prog 71 hp m [.ds (mapC pkC p.picks),.i .i64 most] (.i .i64 (cntL p.picks most 0))) (fun p ih hpo most hp m=>?_) p
  exact count_of p.picks (by have:=hpo.l;omega) (fun x hx=>hpo.x hx) (fun x hx=>ih x hx (hpo.x hx)) most hp m
 exact count_of l hl hpo (fun x hx=>key x (hpo x hx)) most hp m
mutual
def wgW (d:Dat) (W:Int→Int→Int):Val→Int→Int
 | .mk k n _ i _,most=>if (decide (k=8)&&exB d n&&decide (wgWs d W i most 1≤most))=true then w64 (wgWs d W i most 1+W n (w64 (most - wgWs d W i most 1))) else wgWs d W i most 1
def wgWs (d:Dat) (W:Int→Int→Int):List Val→Int→Int→Int
 | [],_,a=>a
 | x::r,most,a=>if a≤most then wgWs d W r most (w64 (a+wgW d W x (w64 (most - a)))) else a
end
theorem wgW_eq (d:Dat) (W:Int→Int→Int) (v:Val) (most:Int):wgW d W v most=if (decide (v.k=8)&&exB d v.n&&decide (wgWs d W v.items most 1≤most))=true then w64 (wgWs d W v.items most 1+W v.n (w64 (most - wgWs d W v.items most 1))) else wgWs d W v.items most 1:=by cases v;rw [wgW];rfl
theorem wgWs_stop {d:Dat} {W:Int→Int→Int} {n most:Int} (h:¬n≤most) (l:List Val):wgWs d W l most n=n:=by
 cases l with
 | nil=>rw [wgWs]
 | cons p r=>rw [wgWs,if_neg h]
def wgC (g:Val→Int→Int) (name:ByteArray):List Cel→Int→Int→Int
 | [],_,n=>n
 | c::r,most,n=>if n≤most then wgC g name r most (if c.f=name then w64 (n+g c.v (w64 (most - n))) else n) else n
theorem wgC_stop {g:Val→Int→Int} {name:ByteArray} {n most:Int} (h:¬n≤most) (l:List Cel):wgC g name l most n=n:=by
 cases l with
 | nil=>rw [wgC]
 | cons p r=>rw [wgC,if_neg h]
def celD (d:Dat) (i:Int):List Cel:=((d.i[i.toNat]?).map Itm.l).getD []
theorem celD_at {d:Dat} {j:Nat} {x:Itm} (h:d.i[j]?=some x):celD d j=x.l:=by rw [celD,Int.toNat_natCast,h];rfl
mutual
def wgP (d:Dat):Pk→Int→Int→Int→Int
 | .mk _ on name args _ _ _ _ picks,i,most,n=>if on=typD d i then wgC (wgW d fun j m=>wgL d picks j m 1) name (celD d i) most (w64 (w64 (n+1)+args.length)) else w64 (w64 (n+1)+args.length)
def wgL (d:Dat):List Pk→Int→Int→Int→Int
 | [],_,_,n=>n
 | p::r,i,most,n=>if n≤most then wgL d r i most (wgP d p i most n) else n
end
theorem wgP_eq (d:Dat) (p:Pk) (i most n:Int):wgP d p i most n=if p.on=typD d i then wgC (wgW d fun j m=>wgL d p.picks j m 1) p.name (celD d i) most (w64 (w64 (n+1)+p.args.length)) else w64 (w64 (n+1)+p.args.length):=by cases p;rw [wgP];rfl
theorem wgL_stop {d:Dat} {i n most:Int} (h:¬n≤most) (l:List Pk):wgL d l i most n=n:=by
 cases l with
 | nil=>rw [wgL]
 | cons p r=>rw [wgL,if_neg h]
theorem weigh_of (d:Dat) (p:Pk) (W:Int→Int→Int) (hW:∀i,exB d i=true→∀most hp m,MeetsF Tryz.prog 72 hp m [dx d,.i .i64 i,.ds (mapC pkC p.picks),.i .i64 most] (.i .i64 (W i most)))
  (v:Val) (hv:v.Fit) (h:∀x∈v.items,∀most hp m,MeetsF Tryz.prog 124 hp m [dx d,vx x,pkx p,.i .i64 most] (.i .i64 (wgW d W x most))) (most:Int) (hp:CH) (m:Nat) :
  MeetsF Tryz.prog 124 hp m [dx d,vx v,pkx p,.i .i64 most] (.i .i64 (wgW d W v most)):=by
 have hvi:=hv.i
 have e:=wgW_eq d W v most
 have hEx:=exists_ok d v.n
 have hWn:=hW v.n
 obtain ⟨R,hR⟩:∃R,wgW d W v most=R:=⟨_,rfl⟩
 rw [hR] at e ⊢
 obtain ⟨Z,hZ⟩:∃Z,wgWs d W v.items most 1=Z:=⟨_,rfl⟩
 rw [hZ] at e
 obtain ⟨X,hX⟩:∃X,exB d v.n=X:=⟨_,rfl⟩
 rw [hX] at e hEx hWn
 refine meetsF Tryz.func124 (by kernel_rfl) cc124 cr124 rfl fun hf=>?_;unfold ck124
 simp only [go_sem,↓reduceIte,Za,Zb,Zc,Zd,Ze,reduceCtorEq,Zf,Zg,Zh,Zi,Zj,Zk]
 refine loop (fun q:Nat × Int × Nat=>⟨[(3,.i .i64 most),(4,.bx m 0),(5,.bx (m+1) 0),(6,.bx (m+2) 0),(9,.i .i64 q.2.1),(10,.i .i64 q.1)],
   (m,.bx [.ds (mapC itC d.i),.ds (mapC wrC d.w)])::(m+1,.bx [.i .i64 v.k,.i .i64 v.n,.s v.s,.ds (mapC valC v.items),.ds (stC v.keys)])::(m+2,.bx [.s p.key,.s p.on,.s p.name,.ds (mapC argC p.args),.s p.tn,.ds (mapC in1 p.tw),.s p.label,.i .i64 p.initial,.ds (mapC pkC p.picks)])::hp,q.2.2⟩)
  (fun q=>q.1≤v.items.length∧m+3≤q.2.2∧Z=wgWs d W (v.items.drop q.1) most q.2.1) (fun q=>v.items.length - q.1) (0,1,m+3) ?_ ?_ (fun ⟨j,z,n⟩ hj=>?_)
 .exact ⟨by simp,by simp,hZ.symm⟩
 .refine weak_ok ?_ (Sub.cons ?_ (Sub.cons ?_ (Sub.cons ?_ (Sub.base hf ?_)))) (zna _)
  all_goals (simp (disch:=omega) only [ite_ne,go_sem,↓reduceIte,Za,Zb,Zc,Zd,Ze,reduceCtorEq,Zf,Zg,Zh,Zi,Zj,Zk])
 dsimp only at hj
 obtain ⟨hj1,hj2,hj3⟩:=hj
 have hmn:m≤n:=by omega
 simp (disch:=omega) only [ite_ne,go_sem,↓reduceIte,Za,Zb,Zc,Zd,Ze,reduceCtorEq,Zf,Zg,Zh,Zi,Zj,Zk]
 refine cdK_of (fun q=>?_) (fun q=>?_)
 .have q1:j<v.items.length:=by simp at q;omega
  have q2:z≤most:=by simp at q;omega
  obtain ⟨x,ex⟩:∃x,v.items[j]?=some x:=⟨v.items[j],by simp [q1]⟩
  have hrec:=h x (zla ex)
  rw [drop_at ex,wgWs,if_pos q2] at hj3
  simp (disch:=omega) only [ite_ne,q1,getK_s (mapC_get valC ex),go_sem,↓reduceIte,Za,Zb,Zc,Zd,Ze,reduceCtorEq,Zf,Zg,Zh,Zi,Zj,Zk]
  refine dCallR.f (fun _ hp' e=>hrec _ _ _) ?_
  simp (disch:=omega) only [ite_ne,q1,getK_s (mapC_get valC ex),go_sem,↓reduceIte,Za,Zb,Zc,Zd,Ze,reduceCtorEq,Zf,Zg,Zh,Zi,Zj,Zk]
  refine ⟨(j+1,w64 (z+wgW d W x (w64 (most - z))),_),⟨by dsimp only;omega,by dsimp only;omega,hj3⟩,by dsimp only;omega,weak_ok ?_ (Sub.cons ?_ (Sub.cons ?_ (Sub.cons ?_ (Sub.base hf ?_)))) (zna _)⟩
  all_goals
   simp (disch:=omega) only [ite_ne,wr64s j (by omega),w64,hmn,go_sem,↓reduceIte,Za,Zb,Zc,Zd,Ze,reduceCtorEq,Zf,Zg,Zh,Zi,Zj,Zk]
 .have q1:Z=z:=by
   by_cases q4:z≤most
   .have q5:j=v.items.length:=by simp at q;omega
    subst q5
    rw [zll,wgWs] at hj3
    exact hj3
   .rw [wgWs_stop q4] at hj3
    exact hj3
  subst q1
  simp (disch:=omega) only [ite_ne,go_sem,↓reduceIte,Za,Zb,Zc,Zd,Ze,reduceCtorEq,Zf,Zg,Zh,Zi,Zj,Zk]
  refine gCall.f (fun _=>hEx _ _) ?_
  simp (disch:=omega) only [ite_ne,go_sem,↓reduceIte,Za,Zb,Zc,Zd,Ze,reduceCtorEq,Zf,Zg,Zh,Zi,Zj,Zk]
  refine cdK_of (fun c=>?_) (fun c=>?_)
  .rw [if_pos c] at e
   have hXt:X=true:=by
    simp only [Bool.and_eq_true] at c
    exact c.1.2
   simp (disch:=omega) only [ite_ne,go_sem,↓reduceIte,Za,Zb,Zc,Zd,Ze,reduceCtorEq,Zf,Zg,Zh,Zi,Zj,Zk]
   refine vcCall.f (hWn hXt _ _ _) ?_
   subst e
   simp (disch:=omega) only [ite_ne,w64,hmn,go_sem,↓reduceIte,Za,Zb,Zc,Zd,Ze,reduceCtorEq,Zf,Zg,Zh,Zi,Zj,Zk]
  .rw [if_neg (by simp [c])] at e
   subst e
   simp (disch:=omega) only [ite_ne,hmn,go_sem,↓reduceIte,Za,Zb,Zc,Zd,Ze,reduceCtorEq,Zf,Zg,Zh,Zi,Zj,Zk]
theorem Weigh_of (d:Dat) (hd:d.Fit) (l:List Pk) (hl:l.length≤10000000000000) (hA:∀p∈l,p.args.length≤1466015503658)
  (h:∀p∈l,∀v,v.Fit→∀most hp m,MeetsF Tryz.prog 124 hp m [dx d,vx v,pkx p,.i .i64 most] (.i .i64 (wgW d (fun j m=>wgL d p.picks j m 1) v most)))
  (i:Int) (hi:exB d i=true) (most:Int) (hp:CH) (m:Nat):MeetsF Tryz.prog 72 hp m [dx d,.i .i64 i,.ds (mapC pkC l),.i .i64 most] (.i .i64 (wgL d l i most 1)):=by
 obtain ⟨R,hR⟩:∃R,wgL d l i most 1=R:=⟨_,rfl⟩
 rw [hR]
 obtain ⟨i',x,rfl,ex,hil,ht⟩:=exB_at hi
 have hcl:=celD_at ex
 have hxl:=hd.ll (zla ex)
 have hxv:=fun cc (h:cc∈x.l)=>hd.c (zla ex) h
 refine meetsF Tryz.func72 (by kernel_rfl) cc72 cr72 rfl fun hf=>?_;unfold ck72
 simp only [go_sem,↓reduceIte,Za,Zb,Zc,Zd,Ze,reduceCtorEq,Zf,Zg,Zh,Zi,Zj,Zk]
 refine loop (fun q:Nat × Int × Nat=>⟨[(1,.i .i64 i'),(2,.ds (mapC pkC l)),(3,.i .i64 most),(4,.bx m 0),(9,.i .i64 q.2.1),(10,.i .i64 q.1)],(m,.bx [.ds (mapC itC d.i),.ds (mapC wrC d.w)])::hp,q.2.2⟩)
  (fun q=>q.1≤l.length∧m+1≤q.2.2∧R=wgL d (l.drop q.1) i' most q.2.1) (fun q=>l.length - q.1) (0,1,m+1) ?_ ?_ (fun ⟨j,z,n⟩ hj=>?_)
 .exact ⟨by simp,by simp,hR.symm⟩
 .refine weak_ok ?_ (Sub.cons ?_ (Sub.base hf ?_)) (zna _)
  all_goals (simp (disch:=omega) only [ite_ne,go_sem,↓reduceIte,Za,Zb,Zc,Zd,Ze,reduceCtorEq,Zf,Zg,Zh,Zi,Zj,Zk])
 dsimp only at hj
 obtain ⟨hj1,hj2,hj3⟩:=hj
 have hmn:m≤n:=by omega
 simp (disch:=omega) only [ite_ne,go_sem,↓reduceIte,Za,Zb,Zc,Zd,Ze,reduceCtorEq,Zf,Zg,Zh,Zi,Zj,Zk]
 refine cdK_of (fun q=>?_) (fun q=>?_)
 .have q1:j<l.length:=by simp at q;omega
  have q2:z≤most:=by simp at q;omega
  obtain ⟨p,ep⟩:∃p,l[j]?=some p:=⟨l[j],by simp [q1]⟩
  have han:=hA p (zla ep)
  have hrec:=h p (zla ep)
  rw [drop_at ep,wgL,if_pos q2,wgP_eq,ht,hcl] at hj3
  obtain ⟨G,hG⟩:∃G,wgW d (fun j m=>wgL d p.picks j m 1)=G:=⟨_,rfl⟩
  rw [hG] at hj3 hrec
  simp (disch:=omega) only [ite_ne,q1,getK_s (mapC_get pkC ep),hil,getK_s (mapC_get itC ex),go_sem,↓reduceIte,Za,Zb,Zc,Zd,Ze,reduceCtorEq,Zf,Zg,Zh,Zi,Zj,Zk]
  refine cdK_of (fun c=>?_) (fun c=>?_)
  .have c:¬p.on=x.t:=by simpa using c
   rw [if_neg c] at hj3
   simp (disch:=omega) only [ite_ne,go_sem,↓reduceIte,Za,Zb,Zc,Zd,Ze,reduceCtorEq,Zf,Zg,Zh,Zi,Zj,Zk]
   refine ⟨(j+1,w64 (w64 (z+1)+p.args.length),_),⟨by dsimp only;omega,by dsimp only;omega,hj3⟩,by dsimp only;omega,weak_ok ?_ (Sub.cons ?_ (Sub.base hf ?_)) (zna _)⟩
   all_goals
    simp (disch:=omega) only [ite_ne,wr64s j (by omega),w64,hmn,go_sem,↓reduceIte,Za,Zb,Zc,Zd,Ze,reduceCtorEq,Zf,Zg,Zh,Zi,Zj,Zk]
  .have c:p.on=x.t:=by simpa using c
   rw [if_pos c] at hj3
   obtain ⟨Z,hZ⟩:∃Z,wgC G p.name x.l most (w64 (w64 (z+1)+p.args.length))=Z:=⟨_,rfl⟩
   rw [hZ] at hj3
   simp (disch:=omega) only [ite_ne,go_sem,↓reduceIte,Za,Zb,Zc,Zd,Ze,reduceCtorEq,Zf,Zg,Zh,Zi,Zj,Zk]
   refine loop (fun q:Nat × Int × Nat=>⟨[(1,.i .i64 i'),(2,.ds (mapC pkC l)),(3,.i .i64 most),(4,.bx m 0),(9,.i .i64 q.2.1),(10,.i .i64 j),(11,.i .i64 q.1)],(m,.bx [.ds (mapC itC d.i),.ds (mapC wrC d.w)])::hp,q.2.2⟩)
    (fun q=>q.1≤x.l.length∧n≤q.2.2∧Z=wgC G p.name (x.l.drop q.1) most q.2.1) (fun q=>x.l.length - q.1) (0,w64 (w64 (z+1)+p.args.length),n+12) ?_ ?_ (fun ⟨i2,z2,n2⟩ hi2=>?_)
   .exact ⟨by simp,by simp,hZ.symm⟩
   .refine weak_ok ?_ (Sub.cons ?_ (Sub.base hf ?_)) (zna _)
    all_goals (simp (disch:=omega) only [ite_ne,w64,hmn,go_sem,↓reduceIte,Za,Zb,Zc,Zd,Ze,reduceCtorEq,Zf,Zg,Zh,Zi,Zj,Zk])
   dsimp only at hi2
   obtain ⟨hi3,hi4,hi5⟩:=hi2
   have hmn2:m≤n2:=by omega
   simp (disch:=omega) only [ite_ne,hil,getK_s (mapC_get itC ex),go_sem,↓reduceIte,Za,Zb,Zc,Zd,Ze,reduceCtorEq,Zf,Zg,Zh,Zi,Zj,Zk]
   refine cdK_of (fun q=>?_) (fun q=>?_)
   .have q3:i2<x.l.length:=by simp at q;omega
    have q4:z2≤most:=by simp at q;omega
    obtain ⟨cc,ec⟩:∃cc,x.l[i2]?=some cc:=⟨x.l[i2],by simp [q3]⟩
    have hcv:=hxv cc (zla ec)
    rw [drop_at ec,wgC,if_pos q4] at hi5
    simp (disch:=omega) only [ite_ne,hil,getK_s (mapC_get itC ex),q3,getK_s (mapC_get celC ec),q1,getK_s (mapC_get pkC ep),go_sem,↓reduceIte,Za,Zb,Zc,Zd,Ze,reduceCtorEq,Zf,Zg,Zh,Zi,Zj,Zk]
    refine cdK_of (fun c3=>?_) (fun c3=>?_)
    .have c3:cc.f=p.name:=by simpa using c3
     rw [if_pos c3] at hi5
     simp (disch:=omega) only [ite_ne,hil,getK_s (mapC_get itC ex),q3,getK_s (mapC_get celC ec),q1,getK_s (mapC_get pkC ep),go_sem,↓reduceIte,Za,Zb,Zc,Zd,Ze,reduceCtorEq,Zf,Zg,Zh,Zi,Zj,Zk]
     refine dCallR.f (fun _ hp' e=>hrec cc.v hcv _ _ _) ?_
     simp (disch:=omega) only [ite_ne,hil,getK_s (mapC_get itC ex),q3,getK_s (mapC_get celC ec),q1,getK_s (mapC_get pkC ep),go_sem,↓reduceIte,Za,Zb,Zc,Zd,Ze,reduceCtorEq,Zf,Zg,Zh,Zi,Zj,Zk]
     refine ⟨(i2+1,w64 (z2+G cc.v (w64 (most - z2))),_),⟨by dsimp only;omega,by dsimp only;omega,hi5⟩,by dsimp only;omega,weak_ok ?_ (Sub.cons ?_ (Sub.base hf ?_)) (zna _)⟩
     all_goals
      simp (disch:=omega) only [ite_ne,wr64s i2 (by omega),w64,hmn2,go_sem,↓reduceIte,Za,Zb,Zc,Zd,Ze,reduceCtorEq,Zf,Zg,Zh,Zi,Zj,Zk]
    .have c3:¬cc.f=p.name:=by simpa using c3
     rw [if_neg c3] at hi5
     simp (disch:=omega) only [ite_ne,go_sem,↓reduceIte,Za,Zb,Zc,Zd,Ze,reduceCtorEq,Zf,Zg,Zh,Zi,Zj,Zk]
     refine ⟨(i2+1,z2,_),⟨by dsimp only;omega,by dsimp only;omega,hi5⟩,by dsimp only;omega,weak_ok ?_ (Sub.cons ?_ (Sub.base hf ?_)) (zna _)⟩
     all_goals
      simp (disch:=omega) only [ite_ne,wr64s i2 (by omega),hmn2,go_sem,↓reduceIte,Za,Zb,Zc,Zd,Ze,reduceCtorEq,Zf,Zg,Zh,Zi,Zj,Zk]
   .have q3:Z=z2:=by
     by_cases q4:z2≤most
     .have q5:i2=x.l.length:=by simp at q;omega
      subst q5
      rw [zll,wgC] at hi5
      exact hi5
     .rw [wgC_stop q4] at hi5
      exact hi5
    subst q3
    simp (disch:=omega) only [ite_ne,go_sem,↓reduceIte,Za,Zb,Zc,Zd,Ze,reduceCtorEq,Zf,Zg,Zh,Zi,Zj,Zk]
    refine ⟨(j+1,Z,_),⟨by dsimp only;omega,by dsimp only;omega,hj3⟩,by dsimp only;omega,weak_ok ?_ (Sub.cons ?_ (Sub.base hf ?_)) (zna _)⟩
    all_goals
     simp (disch:=omega) only [ite_ne,wr64s j (by omega),hmn2,go_sem,↓reduceIte,Za,Zb,Zc,Zd,Ze,reduceCtorEq,Zf,Zg,Zh,Zi,Zj,Zk]
 .have q1:R=z:=by
   by_cases q4:z≤most
   .have q5:j=l.length:=by simp at q;omega
    subst q5
    rw [zll,wgL] at hj3
    exact hj3
   .rw [wgL_stop q4] at hj3
    exact hj3
  subst q1
  simp (disch:=omega) only [ite_ne,hmn,go_sem,↓reduceIte,Za,Zb,Zc,Zd,Ze,reduceCtorEq,Zf,Zg,Zh,Zi,Zj,Zk]
theorem weigh_ok (d:Dat) (hd:d.Fit) (p:Pk) (hpo:p.Fit) (v:Val) (hv:v.Fit) (most:Int) (hp:CH) (m:Nat) :
  MeetsF Tryz.prog 124 hp m [dx d,vx v,pkx p,.i .i64 most] (.i .i64 (wgW d (fun j m=>wgL d p.picks j m 1) v most)):=by
 have key:=Pk.ind (Q:=fun p=>p.Fit→∀v,v.Fit→∀most hp m,MeetsF Tryz.prog 124 hp m [dx d,vx v,pkx p,.i .i64 most] (.i .i64 (wgW d (fun j m=>wgL d p.picks j m 1) v most))) (fun p ih hpo v hv=>by
  have hW:=Weigh_of d hd p.picks (by have:=hpo.l;omega) (fun x hx=>(hpo.x hx).a) fun x hx v hv=>ih x hx (hpo.x hx) v hv
  refine Val.ind (Q:=fun v=>v.Fit→∀most hp m,MeetsF Tryz.prog 124 hp m [dx d,vx v,pkx p,.i .i64 most] (.i .i64 (wgW d (fun j m=>wgL d p.picks j m 1) v most))) (fun v ihv hv=>?_) v hv
  exact weigh_of d p (fun j m=>wgL d p.picks j m 1) (fun i hi most hp m=>hW i hi most hp m) v hv fun x hx=>ihv x hx (hv.x hx)) p
 exact key hpo v hv most hp m
theorem Weigh_ok (d:Dat) (hd:d.Fit) (l:List Pk) (hl:l.length≤10000000000000) (hpo:∀p∈l,p.Fit) (i:Int) (hi:exB d i=true) (most:Int) (hp:CH) (m:Nat) :
  MeetsF Tryz.prog 72 hp m [dx d,.i .i64 i,.ds (mapC pkC l),.i .i64 most] (.i .i64 (wgL d l i most 1)) :=
 Weigh_of d hd l hl (fun x hx=>(hpo x hx).a) (fun x hx v hv=>weigh_ok d hd x (hpo x hx) v hv) i hi most hp m
noncomputable def lgX (s:Sup) (d:Dat) (l:List Pk):Bool :=
 (lgDoc s.doc||decide (300<(s.joins.length:Int))||decide (60<(s.keys.length:Int))||lgD d||decide (400<cntL l 400 0))||(List.range d.i.length).any fun i=>decide (6000<wgL d l i 6000 1)
theorem range_any (q:Nat→Bool) (n:Nat):(List.range n).any q=true↔∃i,i<n∧q i=true:=by simp
theorem rLarge_ok (s:Sup) (hsd:s.doc.length≤1000000000000) (hF:∀t∈s.doc,t.fields.length≤2000000000000) (d:Dat) (hd:d.Fit) (l:List Pk) (hl:l.length≤10000000000000) (hpo:∀p∈l,p.Fit) (hp:CH) (m:Nat) :
  MeetsF Tryz.prog 29 hp m [supx s,dx d,.ds (mapC pkC l)] (.b (lgX s d l)):=by
 have hil:=hd.li
 have h1:=rLargeS_ok s.doc hsd hF
 have h2:=large_ok d hd
 have h3:=count_ok l hl hpo 400
 have h4:=fun i hi=>Weigh_ok d hd l hl hpo i hi 6000
 obtain ⟨R,hR⟩:∃R,lgX s d l=R:=⟨_,rfl⟩
 have e:=hR
 rw [lgX] at e
 rw [hR]
 obtain ⟨x1,hx1⟩:∃x,lgDoc s.doc=x:=⟨_,rfl⟩
 obtain ⟨x2,hx2⟩:∃x,lgD d=x:=⟨_,rfl⟩
 obtain ⟨x3,hx3⟩:∃x,cntL l 400 0=x:=⟨_,rfl⟩
 rw [hx1] at h1 e
 rw [hx2] at h2 e
 rw [hx3] at h3 e
 refine meetsF Tryz.func29 (by kernel_rfl) cc29 cr29 rfl fun hf=>?_;unfold ck29
 simp only [go_sem,↓reduceIte,Za,Zb,Zc,Zd,Ze,reduceCtorEq,Zf,Zg,Zh,Zi,Zj,Zk]
 refine vcCall.f (h1 _ _) ?_
 simp only [go_sem,↓reduceIte,Za,Zb,Zc,Zd,Ze,reduceCtorEq,Zf,Zg,Zh,Zi,Zj,Zk]
 refine gCall.f (fun _=>h2 _ _) ?_
 simp only [go_sem,↓reduceIte,Za,Zb,Zc,Zd,Ze,reduceCtorEq,Zf,Zg,Zh,Zi,Zj,Zk]
 refine gCall.f (fun _=>h3 _ _) ?_
 simp only [go_sem,↓reduceIte,Za,Zb,Zc,Zd,Ze,reduceCtorEq,Zf,Zg,Zh,Zi,Zj,Zk]
 refine cdK_of (fun c=>?_) (fun c=>?_)
 .rw [c,Bool.true_or] at e
  subst e
  simp only [go_sem,↓reduceIte,Za,Zb,Zc,Zd,Ze,reduceCtorEq,Zf,Zg,Zh,Zi,Zj,Zk]
 rw [c,Bool.false_or] at e
 simp only [go_sem,↓reduceIte,Za,Zb,Zc,Zd,Ze,reduceCtorEq,Zf,Zg,Zh,Zi,Zj,Zk]
 refine loop (fun q:Nat × Nat=>⟨[(2,.ds (mapC pkC l)),(4,.bx (m+1) 0),(7,.i .i64 q.1)],(m+1,.bx [.ds (mapC itC d.i),.ds (mapC wrC d.w)])::hp,q.2⟩)
  (fun q=>q.1≤d.i.length∧m+2≤q.2∧∀i:Nat,i<q.1→decide (6000<wgL d l i 6000 1)=false) (fun q=>d.i.length - q.1) (0,m+2) ?_ ?_ (fun ⟨j,n⟩ hj=>?_)
 .exact ⟨by simp,by simp,fun i hi=>absurd hi (by simp)⟩
 .refine weak_ok ?_ (Sub.cons ?_ (Sub.base hf ?_)) (zna _)
  all_goals (simp (disch:=omega) only [ite_ne,go_sem,↓reduceIte,Za,Zb,Zc,Zd,Ze,reduceCtorEq,Zf,Zg,Zh,Zi,Zj,Zk])
 dsimp only at hj
 obtain ⟨hj1,hj2,hj3⟩:=hj
 have hmn:m≤n:=by omega
 simp (disch:=omega) only [ite_ne,go_sem,↓reduceIte,Za,Zb,Zc,Zd,Ze,reduceCtorEq,Zf,Zg,Zh,Zi,Zj,Zk]
 refine cdK_of (fun q=>?_) (fun q=>?_)
 .have q1:j<d.i.length:=by simpa using q
  have hex:exB d (j:Int)=true:=by simp [exB];omega
  have hw:=h4 j hex
  obtain ⟨z,hz⟩:∃z,wgL d l j 6000 1=z:=⟨_,rfl⟩
  rw [hz] at hw
  simp (disch:=omega) only [ite_ne,go_sem,↓reduceIte,Za,Zb,Zc,Zd,Ze,reduceCtorEq,Zf,Zg,Zh,Zi,Zj,Zk]
  refine vcCall.f (hw _ _) ?_
  simp (disch:=omega) only [ite_ne,go_sem,↓reduceIte,Za,Zb,Zc,Zd,Ze,reduceCtorEq,Zf,Zg,Zh,Zi,Zj,Zk]
  refine cdK_of (fun c2=>?_) (fun c2=>?_)
  .have:R=true:=by
    rw [←e,range_any]
    exact ⟨j,q1,by rw [hz];exact c2⟩
   subst this
   simp (disch:=omega) only [ite_ne,hmn,go_sem,↓reduceIte,Za,Zb,Zc,Zd,Ze,reduceCtorEq,Zf,Zg,Zh,Zi,Zj,Zk]
  .simp (disch:=omega) only [ite_ne,go_sem,↓reduceIte,Za,Zb,Zc,Zd,Ze,reduceCtorEq,Zf,Zg,Zh,Zi,Zj,Zk]
   refine ⟨(j+1,_),⟨by dsimp only;omega,by dsimp only;omega,fun i hi=>?_⟩,by dsimp only;omega,weak_ok ?_ (Sub.cons ?_ (Sub.base hf ?_)) (zna _)⟩
   .rcases Nat.lt_or_ge i j with h | h
    .exact hj3 i h
    .dsimp only at hi
     have:i=j:=by omega
     rw [this,hz]
     exact c2
   all_goals
    simp (disch:=omega) only [ite_ne,wr64s j (by omega),hmn,go_sem,↓reduceIte,Za,Zb,Zc,Zd,Ze,reduceCtorEq,Zf,Zg,Zh,Zi,Zj,Zk]
 .have q1:j=d.i.length:=by simp at q;omega
  subst q1
  have:R=false:=by
   rw [←e,Bool.eq_false_iff]
   intro h
   obtain ⟨i,hi,h⟩:=(range_any _ _).1 h
   rw [hj3 i hi] at h
   cases h
  subst this
  simp (disch:=omega) only [ite_ne,hmn,go_sem,↓reduceIte,Za,Zb,Zc,Zd,Ze,reduceCtorEq,Zf,Zg,Zh,Zi,Zj,Zk]
end Go.Proofs.YtinbodeocoeneaaGreatDoor
