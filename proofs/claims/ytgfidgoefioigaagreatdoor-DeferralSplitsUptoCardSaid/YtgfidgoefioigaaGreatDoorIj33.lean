/- Proof. Conditions: none. -/
import Derived.Test.YtgfidgoefioigaaGreatDoorIj32
noncomputable section
open List renaming all_cons->z29
open Bool renaming true_and->zv,false_and->z11
open Go.Proofs.Tryz
open List renaming mem_of_getElem?->zla,drop_length->zll
open Nat renaming le_refl->zna
namespace Go.Proofs.YtgfidgoefioigaaGreatDoor
open Go.Eng
set_option linter.all false
set_option maxRecDepth 20000
set_option maxHeartbeats 1000000
def YV (w:List Int) (j:Nat):Bool:=match w[j]? with
 |none=>true
 |some a=>(decide (a=1)||decide (a=2))&&!(decide (0<j)&&decide (a=1)&&decide (w[j - 1]?=some 1))
def Oh (n:qB) (w:List Int):Bool:=Gb n&&decide (w.length<=24)&&decide (∀j,j<w.length->YV w j=true)
theorem LO (n:qB) (w:List Int) (hw:w.length<=1000000000000) (hp:CH) (m:Nat):Af prog 121 hp m [D1 n w] (.b (Oh n w)):=by
 obtain ⟨R,hR⟩:=A5 (Oh n w)
 rw [hR]
 unfold Oh at hR
 obtain ⟨b,hb⟩:=A5 (Gb n)
 have hN:=BW n
 rw [hb] at hN hR
 refine Aj func121 (tA cc121) (tB cc121) (tC cc121) rfl fun hf=>?_;unfold ck121
 simp only [go_sem]
 refine Ac.f (hN _ _) ?_
 simp (disch:=omega) only [go_sem]
 refine Ae (fun c=>?_) (fun c=>?_)
 .have:R=false:=by
   rw [<-hR]
   cases b with
   |false=>rfl
   |true=>simp at c;simp;omega
  subst this
  simp (disch:=omega) only [go_sem]
 have cb:b=true:=by cases b with | true=>rfl | false=>simp at c
 have c24:w.length<=24:=by
  subst cb
  simp at c
  omega
 subst cb
 rw [dT c24,zv,zv] at hR
 simp (disch:=omega) only [go_sem]
 refine loop (fun p:Nat×Nat=>⟨[(1,.bx m 0),(3,.i .i64 p.1)],(m,.bx [.s n,.ds (Ab D0 w)])::hp,p.2⟩) (fun p=>p.1<=w.length∧m+1<=p.2∧∀i,i<p.1->YV w i=true) (fun p=>w.length - p.1) (0,m+1) ?_ ?_ (fun ⟨j,k⟩ hj=>?_)
 .exact ⟨by simp,by simp,fun i h=>by omega⟩
 .refine Gu hf ?_ ?_ ?_ (zna _)
  all_goals (simp (disch:=omega) only [go_sem])
 dsimp only at hj
 obtain ⟨Cg,Bc,As⟩:=hj
 simp (disch:=omega) only [go_sem]
 refine Ae (fun q=>?_) (fun q=>?_)
 .have q:j<w.length:=by simpa using q
  obtain ⟨a,ea⟩:∃a,w[j]?=some a:=⟨w[j],by simp [q]⟩
  have stop:∀R',YV w j=false->R=R'->R'=false:=fun R' h e=>by
   rw [<-e,<-hR,decide_eq_false_iff_not]
   exact fun hh=>by have:=hh j q;rw [h] at this;cases this
  have jr:YV w j=((decide (a=1)||decide (a=2))&&!(decide (0<j)&&decide (a=1)&&decide (w[j - 1]?=some 1))):=by rw [YV,ea]
  have next:∀(x:Bool),YV w j=true->∀i,i<j+1->YV w i=true:=fun _ h i hi=>by
   rcases Nat.lt_or_ge i j with w' | w'
   .exact As i w'
   .have:i=j:=by omega
    subst this;exact h
  by_cases a1:a=1
  .subst a1
   rcases Nat.eq_zero_or_pos j with j0 | j0
   .subst j0
    have jr:YV w 0=true:=by rw [jr];rfl
    simp (disch:=omega) only [q,Ad (Aa D0 ea),go_sem]
    refine ⟨(0+1,_),⟨by dsimp only;omega,by dsimp only;omega,next true jr⟩,by dsimp only;omega,Gu hf ?_ ?_ ?_ (zna _)⟩
    all_goals
     simp (disch:=omega) only [Ap 0 (by omega),go_sem]
     try rfl
   .obtain ⟨i,rfl⟩:∃i,j=i+1:=⟨j - 1,by omega⟩
    obtain ⟨b,eb⟩:∃b,w[i]?=some b:=⟨w[i]'(by omega),by simp [show i<w.length by omega]⟩
    rw [Nat.add_sub_cancel,eb] at jr
    have qi:i<w.length:=by omega
    have hm1:IntKind.wrap .i64 (((i+1:Nat):Int) - 1)=(i:Int):=by rw [show (((i+1:Nat):Int) - 1)=(i:Int) by omega];exact Ub (by omega)
    simp (disch:=omega) only [q,qi,hm1,Ad (Aa D0 ea),Ad (Aa D0 eb),go_sem]
    refine Ae (fun c=>?_) (fun c=>?_)
    .have c:b=1:=by simpa using c
     have:=stop R (by rw [jr,c];simp) rfl
     subst this
     simp (disch:=omega) only [go_sem]
    .have c:¬b=1:=by simpa using c
     have jr:YV w (i+1)=true:=by rw [jr];simp [c]
     simp (disch:=omega) only [go_sem]
     refine ⟨(i+1+1,_),⟨by dsimp only;omega,by dsimp only;omega,next true jr⟩,by dsimp only;omega,Gu hf ?_ ?_ ?_ (zna _)⟩
     all_goals
      simp (disch:=omega) only [Ap (i+1) (by omega),go_sem]
  .have a1d:decide (a=1)=false:=dF a1
   by_cases a2:a=2
   .subst a2
    have jr:YV w j=true:=by rw [jr];simp
    rcases Nat.eq_zero_or_pos j with j0 | j0
    .subst j0
     simp (disch:=omega) only [q,a1d,Ad (Aa D0 ea),go_sem]
     refine ⟨(0+1,_),⟨by dsimp only;omega,by dsimp only;omega,next true jr⟩,by dsimp only;omega,Gu hf ?_ ?_ ?_ (zna _)⟩
     all_goals
      simp (disch:=omega) only [Ap 0 (by omega),go_sem]
      try rfl
    .obtain ⟨i,rfl⟩:∃i,j=i+1:=⟨j - 1,by omega⟩
     simp (disch:=omega) only [q,a1d,Ad (Aa D0 ea),go_sem]
     refine ⟨(i+1+1,_),⟨by dsimp only;omega,by dsimp only;omega,next true jr⟩,by dsimp only;omega,Gu hf ?_ ?_ ?_ (zna _)⟩
     all_goals
      simp (disch:=omega) only [Ap (i+1) (by omega),go_sem]
   .have a2d:decide (a=2)=false:=dF a2
    have:=stop R (by rw [jr,a1d,a2d];rfl) rfl
    subst this
    simp (disch:=omega) only [q,a1d,a2d,Ad (Aa D0 ea),go_sem]
 .have q:j=w.length:=by simp at q;omega
  subst q
  rw [dT As] at hR
  subst hR
  simp (disch:=omega) only [go_sem]
theorem J7 (v:Ag) (hv:v.Fit) (hp:CH) (m:Nat):Af prog 119 hp m [vx v] (.b (DU true v)):=by
 rw [DU]
 refine Aj func119 (tA cc119) (tB cc119) (tC cc119) rfl fun hf=>?_;unfold ck119
 simp only [go_sem]
 refine Ac.f (Oa v hv _ _) ?_
 simp only [go_sem]
 refine AH.f (fun _=>MM v hv _ _) ?_
 simp only [go_sem]
 refine AH.f (fun _=>PC v true hv _ _) ?_
 simp only [go_sem]
mutual
def NJ:Ag->Bool
 | .mk k n s i ks=>clL i&&!decide (k=7)
def clL:List Ag->Bool
 | []=>true
 |v::r=>NJ v&&clL r
end
theorem ZH (l:List Ag):clL l=l.all NJ:=by
 induction l with
 |nil=>rw [clL];rfl
 |cons v l ih=>rw [clL,ih,z29]
theorem Adx (v:Ag):NJ v=(v.items.all NJ&&!decide (v.k=7)):=by
 cases v
 rw [NJ,ZH]
 rfl
theorem Vv (v:Ag) (hv:v.Fit) (ih:∀x∈v.items,∀hp m,Af prog 120 hp m [vx x] (.b (NJ x))) (hp:CH) (m:Nat):Af prog 120 hp m [vx v] (.b (NJ v)):=by
 have h3:=hv.i
 rw [Adx]
 obtain ⟨R,hR⟩:=A5 (v.items.all NJ)
 rw [hR]
 refine Aj func120 (tA cc120) (tB cc120) (tC cc120) rfl fun hf=>?_;unfold ck120
 simp only [go_sem]
 refine loop (fun p:Nat×Nat=>⟨[(1,.bx m 0),(3,.i .i64 p.1)],(m,.bx [.i .i64 v.k,.i .i64 v.n,.s v.s,.ds (Ab Ar v.items),.ds (Bd v.keys)])::hp,p.2⟩) (fun p=>p.1<=v.items.length∧m+1<=p.2∧R=(v.items.drop p.1).all NJ) (fun p=>v.items.length - p.1) (0,m+1) ?_ ?_ (fun ⟨j,n⟩ hj=>?_)
 .exact ⟨by simp,by simp,hR.symm⟩
 .refine Gu hf ?_ ?_ ?_ (zna _)
  all_goals (simp (disch:=omega) only [go_sem])
 dsimp only at hj
 obtain ⟨Cg,Bc,As⟩:=hj
 have BC:m<=n:=by omega
 simp (disch:=omega) only [go_sem]
 refine Ae (fun q=>?_) (fun q=>?_)
 .have q:j<v.items.length:=by simpa using q
  obtain ⟨x,ex⟩:∃x,v.items[j]?=some x:=⟨v.items[j],by simp [q]⟩
  rw [A2 ex,z29] at As
  have hx:=ih x (zla ex)
  simp (disch:=omega) only [q,Ad (Aa Ar ex),go_sem]
  refine Ac.f (hx _ _) ?_
  simp (disch:=omega) only [go_sem]
  refine Ae (fun c=>?_) (fun c=>?_)
  .have c:NJ x=false:=by simpa using c
   rw [c,z11] at As
   subst As
   simp (disch:=omega) only [BC,go_sem]
  .have c:NJ x=true:=by simpa using c
   rw [c,zv] at As
   simp (disch:=omega) only [go_sem]
   refine ⟨(j+1,n),⟨by dsimp only;omega,by dsimp only;omega,As⟩,by dsimp only;omega,Di ?_⟩
   simp (disch:=omega) only [Ap j (by omega),go_sem]
 .have q:j=v.items.length:=by simp at q;omega
  subst q
  rw [zll] at As
  have As:R=true:=As
  subst As
  simp (disch:=omega) only [BC,go_sem]
  try simp
theorem MA (v:Ag):v.Fit->∀hp m,Af prog 120 hp m [vx v] (.b (NJ v)):=by
 refine Ag.ind (Q:=fun v=>v.Fit->∀hp m,Af prog 120 hp m [vx v] (.b (NJ v))) (fun v ih hv=>?_) v
 exact Vv v hv fun x hx=>ih x hx (hv.x hx)
def nlV (v:Ag):Bool:=decide (v.k=0)&&(decide (v.n=0)&&(decide (v.s=⟨#[]⟩)&&(decide (v.items.length=0)&&decide (v.keys.length=0))))
theorem Aaj (v:Ag) (hp:CH) (m:Nat):Af prog 122 hp m [vx v] (.b (nlV v)):=by
 refine Aj func122 (tA cc122) (tB cc122) (tC cc122) rfl fun hf=>?_;unfold ck122
 simp only [go_sem]
 unfold nlV
 simp [Bool.and_assoc]
def agR (a:HD):Bool:=Gb a.n&&(DU true a.v&&NJ a.v)
def drR (d:GR):Bool:=Gb d.n&&(decide (d.args.length<=16)&&d.args.all agR)
def dsR (l:List GR):Bool:=decide (l.length<=16)&&l.all drR
theorem Qo (l:List GR) (hl:l.length<=1000000000) (hd:∀d∈l,Nq d) (hp:CH) (m:Nat):Af prog 79 hp m [.ds (Ab FT l)] (.b (dsR l)):=by
 unfold dsR
 obtain ⟨R,hR⟩:=A5 (l.all drR)
 rw [hR]
 refine Aj func79 (tA cc79) (tB cc79) (tC cc79) rfl fun hf=>?_;unfold ck79
 simp only [go_sem]
 refine Ae (fun q=>?_) (fun q=>?_)
 .have q:¬l.length<=16:=by simp at q;omega
  simp (disch:=omega) only [dF q,go_sem]
  try simp
 have q16:l.length<=16:=by simp at q;omega
 simp only [go_sem]
 refine loop (fun p:Nat×Nat=>⟨[(0,.ds (Ab FT l)),(3,.i .i64 p.1)],hp,p.2⟩) (fun p=>p.1<=l.length∧m<=p.2∧R=(l.drop p.1).all drR) (fun p=>l.length - p.1) (0,m) ?_ ?_ (fun ⟨j,n⟩ hj=>?_)
 .exact ⟨by simp,by simp,hR.symm⟩
 .refine Di ?_
  simp only [go_sem]
 dsimp only at hj
 obtain ⟨Cg,Bc,As⟩:=hj
 simp (disch:=omega) only [go_sem]
 refine Ae (fun q=>?_) (fun q=>?_)
 case' refine_2=>
  have q:j=l.length:=by simp at q;omega
  subst q
  rw [zll] at As
  have As:R=true:=As
  subst As
  simp (disch:=omega) only [Bc,dT q16,go_sem]
  try simp
 have q:j<l.length:=by simpa using q
 obtain ⟨x,ex⟩:∃x,l[j]?=some x:=⟨l[j],by simp [q]⟩
 have hx:=hd x (zla ex)
 rw [A2 ex,z29] at As
 obtain ⟨D,hD⟩:=A5 (x.args.all agR)
 have hxr:drR x=(Gb x.n&&(decide (x.args.length<=16)&&D)):=by rw [<-hD];rfl
 rw [hxr] at As
 simp (disch:=omega) only [q,Ad (Aa FT ex),go_sem]
 have hN:=BW x.n
 cases hn:Gb x.n with
 |false=>
  rw [hn] at hN As
  have As:R=false:=As
  subst As
  refine Ac.f (hN _ _) ?_
  simp (disch:=omega) only [Bc,go_sem]
  try simp
 |true=>
 rw [hn] at hN As
 refine Ac.f (hN _ _) ?_
 simp (disch:=omega) only [q,Ad (Aa FT ex),go_sem]
 refine Ae (fun c=>?_) (fun c=>?_)
 .have c:¬x.args.length<=16:=by simp at c;omega
  have As:R=false:=by rw [As,dF c];rfl
  subst As
  simp (disch:=omega) only [Bc,go_sem]
  try simp
 have c2:x.args.length<=16:=by simp at c;omega
 rw [dT c2,zv,zv] at As
 have hDl:x.args.length<=1000000000:=hx.1
 simp (disch:=omega) only [go_sem]
 refine loop (fun p:Nat×Nat=>⟨[(0,.ds (Ab FT l)),(3,.i .i64 j),(4,.i .i64 p.1)],hp,p.2⟩) (fun p=>p.1<=x.args.length∧n<=p.2∧D=(x.args.drop p.1).all agR) (fun p=>x.args.length - p.1) (0,n) ?_ ?_ (fun ⟨i,o⟩ hi=>?_)
 .exact ⟨by simp,by simp,hD.symm⟩
 .refine Di ?_
  simp only [go_sem]
 dsimp only at hi
 obtain ⟨LX,HG,Dw⟩:=hi
 have hmo:m<=o:=by omega
 simp (disch:=omega) only [q,Ad (Aa FT ex),go_sem]
 refine Ae (fun q2=>?_) (fun q2=>?_)
 .have q2:i<x.args.length:=by simpa using q2
  obtain ⟨y,ey⟩:∃y,x.args[i]?=some y:=⟨x.args[i],by simp [q2]⟩
  have hy:=hx.2 y (zla ey)
  rw [A2 ey,z29] at Dw
  simp (disch:=omega) only [q,q2,Ad (Aa FT ex),Ad (Aa BB ey),go_sem]
  refine Ac.f (BW _ _ _) ?_
  simp (disch:=omega) only [go_sem]
  refine AH.f (fun _=>J7 _ hy _ _) ?_
  simp (disch:=omega) only [go_sem]
  refine AH.f (fun _=>MA _ hy _ _) ?_
  simp (disch:=omega) only [go_sem]
  refine Ae (fun c=>?_) (fun c=>?_)
  .have c:agR y=false:=by unfold agR;revert c;cases Gb y.n<;>cases DU true y.v<;>cases NJ y.v<;>simp
   rw [c,z11] at Dw
   rw [Dw,z11] at As
   subst As
   simp (disch:=omega) only [hmo,go_sem]
   try simp
  .have c:agR y=true:=by unfold agR;revert c;cases Gb y.n<;>cases DU true y.v<;>cases NJ y.v<;>simp
   rw [c,zv] at Dw
   simp (disch:=omega) only [go_sem]
   refine ⟨(i+1,_),⟨by dsimp only;omega,by dsimp only;omega,Dw⟩,by dsimp only;omega,wS0 hf ?_ ?_ (zna _)⟩
   .simp (disch:=omega) only [Ap i (by omega),go_sem]
   .intro k hk
    repeat rw [Ai _ _ (by omega)]
 .have q2:i=x.args.length:=by simp at q2;omega
  subst q2
  rw [zll] at Dw
  have Dw:D=true:=Dw
  rw [Dw,zv] at As
  simp (disch:=omega) only [go_sem]
  refine ⟨(j+1,o),⟨by dsimp only;omega,by dsimp only;omega,As⟩,by dsimp only;omega,Di ?_⟩
  simp (disch:=omega) only [Ap j (by omega),go_sem]
open Classical in
def Mi (l:List (List AV)):Bool:=if h:EH l then dsR (Classical.choose h) else false
theorem Jj (l:List (List AV)) (h:EH l) (hp:CH) (m:Nat):Af prog 79 hp m [.ds l] (.b (Mi l)):=by
 obtain ⟨h1,h2,h3⟩:=Classical.choose_spec h
 have e:Mi l=dsR (Classical.choose h):=by unfold Mi;rw [dif_pos h]
 have:=Qo (Classical.choose h) h2 h3 hp m
 rw [<-h1,<-e] at this
 exact this
def inA (x:BN):Bool:=Gb x.n&&(Oh x.tn x.tw&&dsR x.dirs)
def inB (x:BN):Bool:=(x.has&&(DU true x.d&&NJ x.d))||(!x.has&&nlV x.d)
def isR (l:List BN):Bool:=decide (l.length<=16)&&l.all fun x=>inA x&&inB x
theorem Rl (l:List BN) (hl:l.length<=1000000000) (hd:∀d∈l,H7 d) (hp:CH) (m:Nat):Af prog 82 hp m [.ds (Ab AD l)] (.b (isR l)):=by
 unfold isR
 obtain ⟨R,hR⟩:∃R,(l.all fun x=>inA x&&inB x)=R:=⟨_,rfl⟩
 rw [hR]
 refine Aj func82 (tA cc82) (tB cc82) (tC cc82) rfl fun hf=>?_;unfold ck82
 simp only [go_sem]
 refine Ae (fun q=>?_) (fun q=>?_)
 .have q:¬l.length<=16:=by simp at q;omega
  simp (disch:=omega) only [dF q,go_sem]
  try simp
 have q16:l.length<=16:=by simp at q;omega
 simp only [go_sem]
 refine loop (fun p:Nat×Nat=>⟨[(0,.ds (Ab AD l)),(3,.i .i64 p.1)],hp,p.2⟩) (fun p=>p.1<=l.length∧m<=p.2∧R=(l.drop p.1).all fun x=>inA x&&inB x) (fun p=>l.length - p.1) (0,m) ?_ ?_ (fun ⟨j,n⟩ hj=>?_)
 .exact ⟨by simp,by simp,hR.symm⟩
 .refine Di ?_
  simp only [go_sem]
 dsimp only at hj
 obtain ⟨Cg,Bc,As⟩:=hj
 simp (disch:=omega) only [go_sem]
 refine Ae (fun q=>?_) (fun q=>?_)
 case' refine_2=>
  have q:j=l.length:=by simp at q;omega
  subst q
  rw [zll] at As
  have As:R=true:=As
  subst As
  simp (disch:=omega) only [Bc,dT q16,go_sem]
  try simp
 have q:j<l.length:=by simpa using q
 obtain ⟨x,ex⟩:∃x,l[j]?=some x:=⟨l[j],by simp [q]⟩
 obtain ⟨x1,⟨x2,_⟩,x3,x4⟩:=hd x (zla ex)
 rw [A2 ex,z29] at As
 have hX:=LO x.tn x.tw (by omega)
 have hDs:=Qo x.dirs x3 x4
 simp (disch:=omega) only [q,Ad (Aa AD ex),go_sem]
 refine Ac.f (BW _ _ _) ?_
 simp (disch:=omega) only [go_sem]
 refine AH.f (fun _=>hX _ _) ?_
 simp (disch:=omega) only [go_sem]
 refine AH.f (fun _=>hDs _ _) ?_
 simp (disch:=omega) only [go_sem]
 refine Ae (fun c=>?_) (fun c=>?_)
 .have c:inA x=false:=by unfold inA;revert c;cases Gb x.n<;>cases Oh x.tn x.tw<;>cases dsR x.dirs<;>simp
  rw [c,z11,z11] at As
  subst As
  simp (disch:=omega) only [Bc,go_sem]
  try simp
 have c:inA x=true:=by unfold inA;revert c;cases Gb x.n<;>cases Oh x.tn x.tw<;>cases dsR x.dirs<;>simp
 rw [c,zv] at As
 have BC:m<=n:=Bc
 simp (disch:=omega) only [go_sem]
 refine AH.f (fun _=>J7 _ x2 _ _) ?_
 simp (disch:=omega) only [go_sem]
 refine AH.f (fun _=>MA _ x2 _ _) ?_
 simp (disch:=omega) only [go_sem]
 refine AH.f (fun _=>Aaj _ _ _) ?_
 simp (disch:=omega) only [go_sem]
 refine Ae (fun c2=>?_) (fun c2=>?_)
 .have c2:inB x=false:=by unfold inB;revert c2;cases x.has<;>cases DU true x.d<;>cases NJ x.d<;>cases nlV x.d<;>simp
  rw [c2,z11] at As
  subst As
  simp (disch:=omega) only [Bc,go_sem]
  try simp
 have c2:inB x=true:=by unfold inB;revert c2;cases x.has<;>cases DU true x.d<;>cases NJ x.d<;>cases nlV x.d<;>simp
 rw [c2,zv] at As
 simp (disch:=omega) only [go_sem]
 refine ⟨(j+1,_),⟨by dsimp only;omega,by dsimp only;omega,As⟩,by dsimp only;omega,wS0 hf ?_ ?_ (zna _)⟩
 .simp (disch:=omega) only [Ap j (by omega),go_sem]
 .intro k hk
  repeat rw [Ai _ _ (by omega)]
open Classical in
def N8 (l:List (List AV)):Bool:=if h:Es l then isR (Classical.choose h) else false
theorem JH (l:List (List AV)) (h:Es l) (hp:CH) (m:Nat):Af prog 82 hp m [.ds l] (.b (N8 l)):=by
 obtain ⟨h1,h2,h3⟩:=Classical.choose_spec h
 have e:N8 l=isR (Classical.choose h):=by unfold N8;rw [dif_pos h]
 have:=Rl (Classical.choose h) h2 h3 hp m
 rw [<-h1,<-e] at this
 exact this
