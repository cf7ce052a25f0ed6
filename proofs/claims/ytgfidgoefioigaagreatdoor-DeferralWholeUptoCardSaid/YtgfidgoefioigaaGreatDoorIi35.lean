/- Proof. Conditions: none. -/
import Derived.Test.YtgfidgoefioigaaGreatDoorIi34
open Go.Proofs.Tryz
open List renaming mem_of_getElem?→zla,drop_length→zll
open Nat renaming le_refl→zna
namespace Go.Proofs.YtgfidgoefioigaaGreatDoor
open Go.Eng
set_option linter.all false
set_option maxRecDepth 20000
set_option maxHeartbeats 1000000
theorem Ie (v:Ak) (hv:v.Fit) (hp:CH) (m:Nat):Ah prog 119 hp m [vx v] (.b (Dn true v)):=by
 rw [Dn]
 refine Am func119 (by kernel_rfl) cc119 cr119 rfl fun hf=>?_;unfold ck119
 simp only [go_sem]
 refine Af.f (LK v hv _ _) ?_
 simp only [go_sem]
 refine AA.f (fun _=>Kr v hv _ _) ?_
 simp only [go_sem]
 refine AA.f (fun _=>My v true hv _ _) ?_
 simp only [go_sem]
mutual
def L9:Ak→Bool
 | .mk k n s i ks=>clL i&&!decide (k=7)
def clL:List Ak→Bool
 | []=>true
 | v::r=>L9 v&&clL r
end
theorem Xh (l:List Ak):clL l=l.all L9:=by
 induction l with
 | nil=>rw [clL];rfl
 | cons v l ih=>rw [clL,ih,List.all_cons]
theorem Yh (v:Ak):L9 v=(v.items.all L9&&!decide (v.k=7)):=by
 cases v
 rw [L9,Xh]
 rfl
theorem RX (v:Ak) (hv:v.Fit) (ih:∀x∈v.items,∀hp m,Ah prog 120 hp m [vx x] (.b (L9 x))) (hp:CH) (m:Nat):Ah prog 120 hp m [vx v] (.b (L9 v)):=by
 have h3:=hv.i
 rw [Yh]
 obtain ⟨R,hR⟩:∃R,v.items.all L9=R:=⟨_,rfl⟩
 rw [hR]
 refine Am func120 (by kernel_rfl) cc120 cr120 rfl fun hf=>?_;unfold ck120
 simp only [go_sem]
 refine loop (fun p:Nat × Nat=>⟨[(1,.bx m 0),(3,.i .i64 p.1)],(m,.bx [.i .i64 v.k,.i .i64 v.n,.s v.s,.ds (Ad A2 v.items),.ds (Bv v.keys)])::hp,p.2⟩) (fun p=>p.1≤v.items.length∧m+1≤p.2∧R=(v.items.drop p.1).all L9) (fun p=>v.items.length - p.1) (0,m+1) ?_ ?_ (fun ⟨j,n⟩ hj=>?_)
 .exact ⟨by simp,by simp,hR.symm⟩
 .refine Ac ?_ (A6.cons ?_ (A6.base hf ?_)) (zna _)
  all_goals (simp (disch:=omega) only [Aa,go_sem])
 dsimp only at hj
 obtain ⟨Cm,Ba,Aw⟩:=hj
 have BO:m≤n:=by omega
 simp (disch:=omega) only [Aa,go_sem]
 refine Ai (fun q=>?_) (fun q=>?_)
 .have q:j<v.items.length:=by simpa using q
  obtain ⟨x,ex⟩:∃x,v.items[j]?=some x:=⟨v.items[j],by simp [q]⟩
  rw [A5 ex,List.all_cons] at Aw
  have hx:=ih x (zla ex)
  simp (disch:=omega) only [Aa,q,Ag (Ab A2 ex),go_sem]
  refine Af.f (hx _ _) ?_
  simp (disch:=omega) only [Aa,go_sem]
  refine Ai (fun c=>?_) (fun c=>?_)
  .have c:L9 x=false:=by simpa using c
   rw [c,Bool.false_and] at Aw
   subst Aw
   simp (disch:=omega) only [Aa,BO,go_sem]
  .have c:L9 x=true:=by simpa using c
   rw [c,Bool.true_and] at Aw
   simp (disch:=omega) only [Aa,go_sem]
   refine ⟨(j+1,n),⟨by dsimp only;omega,by dsimp only;omega,Aw⟩,by dsimp only;omega,Ac ?_ (A6.refl _) (zna _)⟩
   simp (disch:=omega) only [Aa,At j (by omega),go_sem]
 .have q:j=v.items.length:=by simp at q;omega
  subst q
  rw [zll] at Aw
  have Aw:R=true:=Aw
  subst Aw
  simp (disch:=omega) only [Aa,BO,go_sem]
  try simp
theorem K8 (v:Ak):v.Fit→∀hp m,Ah prog 120 hp m [vx v] (.b (L9 v)):=by
 refine Ak.ind (Q:=fun v=>v.Fit→∀hp m,Ah prog 120 hp m [vx v] (.b (L9 v))) (fun v ih hv=>?_) v
 exact RX v hv fun x hx=>ih x hx (hv.x hx)
def nlV (v:Ak):Bool:=decide (v.k=0)&&(decide (v.n=0)&&(decide (v.s=⟨#[]⟩)&&(decide (v.items.length=0)&&decide (v.keys.length=0))))
theorem Xl (v:Ak) (hp:CH) (m:Nat):Ah prog 122 hp m [vx v] (.b (nlV v)):=by
 refine Am func122 (by kernel_rfl) cc122 cr122 rfl fun hf=>?_;unfold ck122
 simp only [go_sem]
 unfold nlV
 simp [Bool.and_assoc]
noncomputable def Z4 (a:FZ):Bool:=ES a.n&&(Dn true a.v&&L9 a.v)
noncomputable def drR (d:F0):Bool:=ES d.n&&(decide (d.args.length≤16)&&d.args.all Z4)
noncomputable def YX (l:List F0):Bool:=decide (l.length≤16)&&l.all drR
theorem Mm (l:List F0) (hl:l.length≤1000000000) (hd:∀d∈l,KN d) (hp:CH) (m:Nat):Ah prog 79 hp m [.ds (Ad EM l)] (.b (YX l)):=by
 unfold YX
 obtain ⟨R,hR⟩:∃R,l.all drR=R:=⟨_,rfl⟩
 rw [hR]
 refine Am func79 (by kernel_rfl) cc79 cr79 rfl fun hf=>?_;unfold ck79
 simp only [go_sem]
 refine Ai (fun q=>?_) (fun q=>?_)
 .have q:¬l.length≤16:=by simp at q;omega
  simp (disch:=omega) only [Aa,decide_eq_false q,go_sem]
  try simp
 have q16:l.length≤16:=by simp at q;omega
 simp only [go_sem]
 refine loop (fun p:Nat × Nat=>⟨[(0,.ds (Ad EM l)),(3,.i .i64 p.1)],hp,p.2⟩) (fun p=>p.1≤l.length∧m≤p.2∧R=(l.drop p.1).all drR) (fun p=>l.length - p.1) (0,m) ?_ ?_ (fun ⟨j,n⟩ hj=>?_)
 .exact ⟨by simp,by simp,hR.symm⟩
 .refine Ac ?_ (A6.refl _) (zna _)
  simp only [go_sem]
 dsimp only at hj
 obtain ⟨Cm,Ba,Aw⟩:=hj
 simp (disch:=omega) only [Aa,go_sem]
 refine Ai (fun q=>?_) (fun q=>?_)
 case' refine_2 =>
  have q:j=l.length:=by simp at q;omega
  subst q
  rw [zll] at Aw
  have Aw:R=true:=Aw
  subst Aw
  simp (disch:=omega) only [Aa,Ba,decide_eq_true q16,go_sem]
  try simp
 have q:j<l.length:=by simpa using q
 obtain ⟨x,ex⟩:∃x,l[j]?=some x:=⟨l[j],by simp [q]⟩
 have hx:=hd x (zla ex)
 rw [A5 ex,List.all_cons] at Aw
 obtain ⟨D,hD⟩:∃D,x.args.all Z4=D:=⟨_,rfl⟩
 have hxr:drR x=(ES x.n&&(decide (x.args.length≤16)&&D)):=by rw [←hD];rfl
 rw [hxr] at Aw
 simp (disch:=omega) only [Aa,q,Ag (Ab EM ex),go_sem]
 have hN:=BE x.n
 cases hn:ES x.n with
 | false =>
  rw [hn] at hN Aw
  have Aw:R=false:=Aw
  subst Aw
  refine Af.f (hN _ _) ?_
  simp (disch:=omega) only [Aa,Ba,go_sem]
  try simp
 | true =>
 rw [hn] at hN Aw
 refine Af.f (hN _ _) ?_
 simp (disch:=omega) only [Aa,q,Ag (Ab EM ex),go_sem]
 refine Ai (fun c=>?_) (fun c=>?_)
 .have c:¬x.args.length≤16:=by simp at c;omega
  have Aw:R=false:=by rw [Aw,decide_eq_false c];rfl
  subst Aw
  simp (disch:=omega) only [Aa,Ba,go_sem]
  try simp
 have c2:x.args.length≤16:=by simp at c;omega
 rw [decide_eq_true c2,Bool.true_and,Bool.true_and] at Aw
 have hDl:x.args.length≤1000000000:=hx.1
 simp (disch:=omega) only [Aa,go_sem]
 refine loop (fun p:Nat × Nat=>⟨[(0,.ds (Ad EM l)),(3,.i .i64 j),(4,.i .i64 p.1)],hp,p.2⟩) (fun p=>p.1≤x.args.length∧n≤p.2∧D=(x.args.drop p.1).all Z4) (fun p=>x.args.length - p.1) (0,n) ?_ ?_ (fun ⟨i,o⟩ hi=>?_)
 .exact ⟨by simp,by simp,hD.symm⟩
 .refine Ac ?_ (A6.refl _) (zna _)
  simp only [go_sem]
 dsimp only at hi
 obtain ⟨Md,Ij,Ex⟩:=hi
 have hmo:m≤o:=by omega
 simp (disch:=omega) only [Aa,q,Ag (Ab EM ex),go_sem]
 refine Ai (fun q2=>?_) (fun q2=>?_)
 .have q2:i<x.args.length:=by simpa using q2
  obtain ⟨y,ey⟩:∃y,x.args[i]?=some y:=⟨x.args[i],by simp [q2]⟩
  have hy:=hx.2 y (zla ey)
  rw [A5 ey,List.all_cons] at Ex
  simp (disch:=omega) only [Aa,q,q2,Ag (Ab EM ex),Ag (Ab BC ey),go_sem]
  refine Af.f (BE _ _ _) ?_
  simp (disch:=omega) only [Aa,go_sem]
  refine AA.f (fun _=>Ie _ hy _ _) ?_
  simp (disch:=omega) only [Aa,go_sem]
  refine AA.f (fun _=>K8 _ hy _ _) ?_
  simp (disch:=omega) only [Aa,go_sem]
  refine Ai (fun c=>?_) (fun c=>?_)
  .have c:Z4 y=false:=by unfold Z4;revert c;cases ES y.n<;>cases Dn true y.v<;>cases L9 y.v<;>simp
   rw [c,Bool.false_and] at Ex
   rw [Ex,Bool.false_and] at Aw
   subst Aw
   simp (disch:=omega) only [Aa,hmo,go_sem]
   try simp
  .have c:Z4 y=true:=by unfold Z4;revert c;cases ES y.n<;>cases Dn true y.v<;>cases L9 y.v<;>simp
   rw [c,Bool.true_and] at Ex
   simp (disch:=omega) only [Aa,go_sem]
   refine ⟨(i+1,_),⟨by dsimp only;omega,by dsimp only;omega,Ex⟩,by dsimp only;omega,Ac ?_ (A6.base hf ?_) (zna _)⟩
   .simp (disch:=omega) only [Aa,At i (by omega),go_sem]
   .intro k hk
    repeat rw [Aq _ _ (by omega)]
 .have q2:i=x.args.length:=by simp at q2;omega
  subst q2
  rw [zll] at Ex
  have Ex:D=true:=Ex
  rw [Ex,Bool.true_and] at Aw
  simp (disch:=omega) only [Aa,go_sem]
  refine ⟨(j+1,o),⟨by dsimp only;omega,by dsimp only;omega,Aw⟩,by dsimp only;omega,Ac ?_ (A6.refl _) (zna _)⟩
  simp (disch:=omega) only [Aa,At j (by omega),go_sem]
open Classical in
noncomputable def JV (l:List (List AV)):Bool:=if h:Ed l then YX (Classical.choose h) else false
theorem H4 (l:List (List AV)) (h:Ed l) (hp:CH) (m:Nat):Ah prog 79 hp m [.ds l] (.b (JV l)):=by
 obtain ⟨h1,h2,h3⟩:=Classical.choose_spec h
 have e:JV l=YX (Classical.choose h):=by unfold JV;rw [dif_pos h]
 have:=Mm (Classical.choose h) h2 h3 hp m
 rw [←h1,←e] at this
 exact this
noncomputable def XX (x:B6):Bool:=ES x.n&&(Lk x.tn x.tw&&YX x.dirs)
noncomputable def Yg (x:B6):Bool:=(x.has&&(Dn true x.d&&L9 x.d))||(!x.has&&nlV x.d)
noncomputable def isR (l:List B6):Bool:=decide (l.length≤16)&&l.all fun x=>XX x&&Yg x
theorem Pd (l:List B6) (hl:l.length≤1000000000) (hd:∀d∈l,Gt d) (hp:CH) (m:Nat):Ah prog 82 hp m [.ds (Ad A7 l)] (.b (isR l)):=by
 unfold isR
 obtain ⟨R,hR⟩:∃R,(l.all fun x=>XX x&&Yg x)=R:=⟨_,rfl⟩
 rw [hR]
 refine Am func82 (by kernel_rfl) cc82 cr82 rfl fun hf=>?_;unfold ck82
 simp only [go_sem]
 refine Ai (fun q=>?_) (fun q=>?_)
 .have q:¬l.length≤16:=by simp at q;omega
  simp (disch:=omega) only [Aa,decide_eq_false q,go_sem]
  try simp
 have q16:l.length≤16:=by simp at q;omega
 simp only [go_sem]
 refine loop (fun p:Nat × Nat=>⟨[(0,.ds (Ad A7 l)),(3,.i .i64 p.1)],hp,p.2⟩) (fun p=>p.1≤l.length∧m≤p.2∧R=(l.drop p.1).all fun x=>XX x&&Yg x) (fun p=>l.length - p.1) (0,m) ?_ ?_ (fun ⟨j,n⟩ hj=>?_)
 .exact ⟨by simp,by simp,hR.symm⟩
 .refine Ac ?_ (A6.refl _) (zna _)
  simp only [go_sem]
 dsimp only at hj
 obtain ⟨Cm,Ba,Aw⟩:=hj
 simp (disch:=omega) only [Aa,go_sem]
 refine Ai (fun q=>?_) (fun q=>?_)
 case' refine_2 =>
  have q:j=l.length:=by simp at q;omega
  subst q
  rw [zll] at Aw
  have Aw:R=true:=Aw
  subst Aw
  simp (disch:=omega) only [Aa,Ba,decide_eq_true q16,go_sem]
  try simp
 have q:j<l.length:=by simpa using q
 obtain ⟨x,ex⟩:∃x,l[j]?=some x:=⟨l[j],by simp [q]⟩
 obtain ⟨x1,⟨x2,_⟩,x3,x4⟩:=hd x (zla ex)
 rw [A5 ex,List.all_cons] at Aw
 have hX:=IG x.tn x.tw (by omega)
 have hDs:=Mm x.dirs x3 x4
 simp (disch:=omega) only [Aa,q,Ag (Ab A7 ex),go_sem]
 refine Af.f (BE _ _ _) ?_
 simp (disch:=omega) only [Aa,go_sem]
 refine AA.f (fun _=>hX _ _) ?_
 simp (disch:=omega) only [Aa,go_sem]
 refine AA.f (fun _=>hDs _ _) ?_
 simp (disch:=omega) only [Aa,go_sem]
 refine Ai (fun c=>?_) (fun c=>?_)
 .have c:XX x=false:=by unfold XX;revert c;cases ES x.n<;>cases Lk x.tn x.tw<;>cases YX x.dirs<;>simp
  rw [c,Bool.false_and,Bool.false_and] at Aw
  subst Aw
  simp (disch:=omega) only [Aa,Ba,go_sem]
  try simp
 have c:XX x=true:=by unfold XX;revert c;cases ES x.n<;>cases Lk x.tn x.tw<;>cases YX x.dirs<;>simp
 rw [c,Bool.true_and] at Aw
 have BO:m≤n:=Ba
 simp (disch:=omega) only [Aa,go_sem]
 refine AA.f (fun _=>Ie _ x2 _ _) ?_
 simp (disch:=omega) only [Aa,go_sem]
 refine AA.f (fun _=>K8 _ x2 _ _) ?_
 simp (disch:=omega) only [Aa,go_sem]
 refine AA.f (fun _=>Xl _ _ _) ?_
 simp (disch:=omega) only [Aa,go_sem]
 refine Ai (fun c2=>?_) (fun c2=>?_)
 .have c2:Yg x=false:=by unfold Yg;revert c2;cases x.has<;>cases Dn true x.d<;>cases L9 x.d<;>cases nlV x.d<;>simp
  rw [c2,Bool.false_and] at Aw
  subst Aw
  simp (disch:=omega) only [Aa,Ba,go_sem]
  try simp
 have c2:Yg x=true:=by unfold Yg;revert c2;cases x.has<;>cases Dn true x.d<;>cases L9 x.d<;>cases nlV x.d<;>simp
 rw [c2,Bool.true_and] at Aw
 simp (disch:=omega) only [Aa,go_sem]
 refine ⟨(j+1,_),⟨by dsimp only;omega,by dsimp only;omega,Aw⟩,by dsimp only;omega,Ac ?_ (A6.base hf ?_) (zna _)⟩
 .simp (disch:=omega) only [Aa,At j (by omega),go_sem]
 .intro k hk
  repeat rw [Aq _ _ (by omega)]
open Classical in
noncomputable def L8 (l:List (List AV)):Bool:=if h:D9 l then isR (Classical.choose h) else false
theorem HS (l:List (List AV)) (h:D9 l) (hp:CH) (m:Nat):Ah prog 82 hp m [.ds l] (.b (L8 l)):=by
 obtain ⟨h1,h2,h3⟩:=Classical.choose_spec h
 have e:L8 l=isR (Classical.choose h):=by unfold L8;rw [dif_pos h]
 have:=Pd (Classical.choose h) h2 h3 hp m
 rw [←h1,←e] at this
 exact this
end Go.Proofs.YtgfidgoefioigaaGreatDoor
