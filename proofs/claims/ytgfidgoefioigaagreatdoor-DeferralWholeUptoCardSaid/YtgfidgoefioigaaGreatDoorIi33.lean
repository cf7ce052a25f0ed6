/- Proof. Conditions: none. -/
import Derived.Test.YtgfidgoefioigaaGreatDoorIi32
open Go.Proofs.Tryz
open List renaming mem_of_getElem?→zla,length_cons→zlc,length_nil→zle,drop_length→zll
open Nat renaming le_refl→zna
namespace Go.Proofs.YtgfidgoefioigaaGreatDoor
open Go.Eng
set_option linter.all false
set_option maxRecDepth 20000
def Lab (l:List Pk):Prop:=∀(out:List ByteArray) (c g len:Nat) (hp:CH) (m:Nat),out.length=len→gc hp c=.rw g 1 (Bv out)→out.length+A8 l≤1000000000000 →
 AQ prog 49 hp m [.ds (Ad Bo l),.rw c g len] ((c,.rw (g+((Cl l out).length - len)) 1 (Bv (Cl l out)))::hp) m (.rw c (g+((Cl l out).length - len)) (Cl l out).length)
theorem KP (l:List Pk) (h:∀p∈l,Lab p.picks):Lab l:=by
 intro out c g len hp m hn hk hw
 subst hn
 obtain ⟨L,hL⟩:∃L,Cl l out=L:=⟨_,rfl⟩
 have Cb:=DK l out
 have Bb:=DS l
 rw [hL] at Cb ⊢
 refine NQ func49 (by kernel_rfl) cc49 cr49 rfl trivial (fun hf=>M4 hf (by assumption)) fun hf=>?_;unfold ck49
 have hc:=M4 hf hk
 simp only [hk,go_sem]
 refine loop (fun p:Nat × (List ByteArray × Nat) × Nat=>⟨[(1,.rw c p.2.1.2 p.2.1.1.length),(7,.ds (Ad Bo l)),(8,.i .i64 l.length),(9,.i .i64 p.1)],(c,.rw p.2.1.2 1 (Bv p.2.1.1))::hp,p.2.2⟩)
  (fun p=>p.1≤l.length∧m≤p.2.2∧L=Cl (l.drop p.1) p.2.1.1∧p.2.1.2+out.length=g+p.2.1.1.length∧out.length≤p.2.1.1.length∧p.2.1.1.length+A8 (l.drop p.1)≤1000000000000) (fun p=>l.length - p.1) (0,(out,g),m) ?_ ?_ (fun ⟨j,⟨o,G⟩,n⟩ hj=>?_)
 .exact ⟨by simp,by simp,hL.symm,by simp,by simp,hw⟩
 .refine Ac ?_ (A6.cons ?_ (A6.refl _)) (zna _)
  all_goals
   simp only [hk,go_sem]
 dsimp only at hj
 obtain ⟨Cm,Ba,Aw,Cc,Dt,LS⟩:=hj
 simp only [go_sem]
 refine Ai (fun d=>?_) (fun d=>?_)
 .have d:j<l.length:=by simpa using d
  obtain ⟨x,ex⟩:∃x,l[j]?=some x:=⟨l[j],by simp [d]⟩
  have hx:=h x (zla ex)
  rw [A5 ex] at Aw LS
  rw [Cl,Lz] at Aw
  rw [A8,CD] at LS
  have z1:¬n=c:=by omega
  have z3:¬c=n:=by omega
  have z2:m≤n:=Ba
  simp only [z1,z2,d,Ag (Ab Bo ex),go_sem]
  refine AA.f (fun _=>EP o x.label (by omega) c G _ rfl _ _ (by simp only [AC,if_neg z1];simp)) ?_
  simp only [z1,z2,z3,go_sem]
  refine Ai (fun q=>?_) (fun q=>?_)
  .have q:¬x.label=⟨#[]⟩∧¬0≤ix x.label o 0:=by
    simp only [Bool.and_eq_true,Bool.not_eq_true',decide_eq_false_iff_not] at q
    exact q
   rw [C0,if_pos q] at Aw
   have Fm:=DK x.picks (o++[x.label])
   simp only [List.length_append,zlc,zle,Nat.zero_add] at Fm
   simp only [z1,z2,z3,go_sem]
   refine ⟨by omega,by omega,?_⟩
   refine Af.x (hx (o++[x.label]) c (G+1) (o.length+1) _ _ (by simp) (Av _ _ _) (by simp;omega)) ?_
   simp only [z1,z2,z3,go_sem]
   refine ⟨(j+1,(Cl x.picks (o++[x.label]),G+(1+((Cl x.picks (o++[x.label])).length - (o.length+1)))),_),?_,?_,Ac ?_ (A6.base (FC hf hc) (OV ?_ fun i hi hn=>?_)) (zna _)⟩
   .exact ⟨by dsimp only;omega,by dsimp only;omega,Aw,by dsimp only;omega,by dsimp only;omega,by dsimp only;omega⟩
   .dsimp only;omega
   .simp only [At j (by omega),go_sem]
   .exact Av _ _ _
   .simp only [AC]
    repeat rw [if_neg (by omega)]
  .have q:¬(¬x.label=⟨#[]⟩∧¬0≤ix x.label o 0):=fun hq=>by
    simp [hq.1] at q
    exact hq.2 q
   rw [C0,if_neg q] at Aw
   have Fm:=DK x.picks o
   simp only [z1,z2,z3,go_sem]
   refine Af.x (hx o c G o.length _ _ rfl (by simp only [AC,if_neg z1];simp) (by omega)) ?_
   simp only [z1,z2,z3,go_sem]
   refine ⟨(j+1,(Cl x.picks o,G+((Cl x.picks o).length - o.length)),_),?_,?_,Ac ?_ (A6.base (FC hf hc) (OV ?_ fun i hi hn=>?_)) (zna _)⟩
   .exact ⟨by dsimp only;omega,by dsimp only;omega,Aw,by dsimp only;omega,by dsimp only;omega,by dsimp only;omega⟩
   .dsimp only;omega
   .simp only [At j (by omega),go_sem]
   .exact Av _ _ _
   .simp only [AC]
    repeat rw [if_neg (by omega)]
 .have d:j=l.length:=by simp at d;omega
  subst d
  rw [zll,Cl] at Aw
  subst Aw
  simp only [go_sem]
  have e:g+(L.length - out.length)=G:=by omega
  rw [e]
  exact ⟨fun _ _=>rfl,rfl,hc⟩
theorem UY (l:List Pk):Lab l:=KP l fun p _=>Pk.ind (Q:=fun p=>Lab p.picks) (fun v ih=>KP v.picks ih) p
theorem T0 (l:List Pk) (hw:A8 l≤1000000000000) (hp:CH) (m:Nat):Ah prog 49 hp m [.ds (Ad Bo l),.e0] (.ds (Bv (Cl l []))):=by
 obtain ⟨L,hL⟩:∃L,Cl l []=L:=⟨_,rfl⟩
 have Cb:=DK l []
 have Bb:=DS l
 rw [hL] at Cb ⊢
 simp only [zle,Nat.zero_add] at Cb
 refine Am func49 (by kernel_rfl) cc49 cr49 rfl fun hf=>?_;unfold ck49
 simp only [go_sem]
 refine loop (fun p:Nat × (List ByteArray × Nat) × Nat=>⟨[(1,.rw m p.2.1.2 p.2.1.1.length),(7,.ds (Ad Bo l)),(8,.i .i64 l.length),(9,.i .i64 p.1)],(m,.rw p.2.1.2 1 (Bv p.2.1.1))::hp,p.2.2⟩)
  (fun p=>p.1≤l.length∧m+1≤p.2.2∧L=Cl (l.drop p.1) p.2.1.1∧p.2.1.1.length+A8 (l.drop p.1)≤1000000000000) (fun p=>l.length - p.1) (0,([],0),m+1) ?_ ?_ (fun ⟨j,⟨o,G⟩,n⟩ hj=>?_)
 .exact ⟨by simp,by simp,hL.symm,by simpa using hw⟩
 .refine (B0 (t:=1) (m:=1) ?_).trans (Ac ?_ (A6.cons ?_ (A6.base hf ?_)) (zna _))
  all_goals simp only [go_sem]
 dsimp only at hj
 obtain ⟨Cm,Ba,Aw,LS⟩:=hj
 simp only [go_sem]
 refine Ai (fun d=>?_) (fun d=>?_)
 .have d:j<l.length:=by simpa using d
  obtain ⟨x,ex⟩:∃x,l[j]?=some x:=⟨l[j],by simp [d]⟩
  have hx:=UY x.picks
  rw [A5 ex] at Aw LS
  rw [Cl,Lz] at Aw
  rw [A8,CD] at LS
  have z1:¬n=m:=by omega
  have z3:¬m=n:=by omega
  have z2:m≤n:=by omega
  simp only [z1,z2,d,Ag (Ab Bo ex),go_sem]
  refine AA.f (fun _=>EP o x.label (by omega) m G _ rfl _ _ (by simp only [AC,if_neg z1];simp)) ?_
  simp only [z1,z2,z3,go_sem]
  refine Ai (fun q=>?_) (fun q=>?_)
  .have q:¬x.label=⟨#[]⟩∧¬0≤ix x.label o 0:=by
    simp only [Bool.and_eq_true,Bool.not_eq_true',decide_eq_false_iff_not] at q
    exact q
   rw [C0,if_pos q] at Aw
   have Fm:=DK x.picks (o++[x.label])
   simp only [List.length_append,zlc,zle,Nat.zero_add] at Fm
   simp only [z1,z2,z3,go_sem]
   refine ⟨by omega,by omega,?_⟩
   refine Af.x (hx (o++[x.label]) m (G+1) (o.length+1) _ _ (by simp) (Av _ _ _) (by simp;omega)) ?_
   simp only [z1,z2,z3,go_sem]
   refine ⟨(j+1,(Cl x.picks (o++[x.label]),G+1+((Cl x.picks (o++[x.label])).length - (o.length+1))),_),?_,?_,Ac ?_ (A6.cons ?_ (A6.base hf ?_)) (zna _)⟩
   .exact ⟨by dsimp only;omega,by dsimp only;omega,Aw,by dsimp only;omega⟩
   .dsimp only;omega
   all_goals
    simp only [z1,z2,z3,At j (by omega),go_sem]
  .have q:¬(¬x.label=⟨#[]⟩∧¬0≤ix x.label o 0):=fun hq=>by
    simp [hq.1] at q
    exact hq.2 q
   rw [C0,if_neg q] at Aw
   have Fm:=DK x.picks o
   simp only [z1,z2,z3,go_sem]
   refine Af.x (hx o m G o.length _ _ rfl (by simp only [AC,if_neg z1];simp) (by omega)) ?_
   simp only [z1,z2,z3,go_sem]
   refine ⟨(j+1,(Cl x.picks o,G+((Cl x.picks o).length - o.length)),_),?_,?_,Ac ?_ (A6.cons ?_ (A6.base hf ?_)) (zna _)⟩
   .exact ⟨by dsimp only;omega,by dsimp only;omega,Aw,by dsimp only;omega⟩
   .dsimp only;omega
   all_goals
    simp only [z1,z2,z3,At j (by omega),go_sem]
 .have d:j=l.length:=by simp at d;omega
  subst d
  rw [zll,Cl] at Aw
  subst Aw
  simp only [go_sem]
theorem S8 (l:List Pk) (hw:A8 l≤1000000000000) (hp:CH) (m:Nat):Ah prog 26 hp m [.ds (Ad Bo l)] (.ds (Bv (Cl l []))):=by
 refine Am func26 (by kernel_rfl) cc26 cr26 rfl fun hf=>?_;unfold ck26
 simp only [go_sem]
 refine Af.f (T0 l hw _ _) ?_
 simp only [go_sem]
theorem XH (n:Int) (hp:CH) (m:Nat):Ah prog 25 hp m [.i .i64 n] (vx (.mk 2 n ⟨#[]⟩ [] [])):=by
 refine Am func25 (by kernel_rfl) cc25 cr25 rfl fun hf=>?_;unfold ck25
 simp only [go_sem]
def Yv:Ak:=.mk 6 0 ⟨#[]⟩ [.mk 2 1 ⟨#[]⟩ [] []] [⟨#[97]⟩]
def mjB:Ak:=.mk 6 0 ⟨#[]⟩ [.mk 2 2 ⟨#[]⟩ [] []] [⟨#[98]⟩]
def mjC:Ak:=.mk 6 0 ⟨#[]⟩ [.mk 2 1 ⟨#[]⟩ [] [],.mk 2 2 ⟨#[]⟩ [] []] [⟨#[97]⟩,⟨#[98]⟩]
theorem mjM:V6 [.mk ⟨#[120]⟩ [] mjB []] Yv=(mjC,0):=by
 have h:J6 Yv mjB=(mjC,0):=by
  simp [J6,Yv,mjB,mjC,Qv,adR,ix,Ak.k_mk,Ak.keys_mk,Ak.items_mk,Ak.n_mk,Ak.s_mk]
 rw [V6,Ik.d,Ik.p,H9,h,if_pos rfl,V6]
theorem mjW:Bu Yv+Y5 [.mk ⟨#[120]⟩ [] mjB []]≤1000000000000:=by
 simp [Y5,Ik.d,Yv,mjB,Bu,Df]
def mjP:Pk:=.mk ⟨#[97]⟩ ⟨#[]⟩ ⟨#[]⟩ [] ⟨#[]⟩ [] ⟨#[120]⟩ 0 []
theorem mjL:Cl [mjP] []=[⟨#[120]⟩]:=by
 simp [Cl,mjP,WH,C0,ix]
theorem XI (hp:CH) (m:Nat):Ah prog 7 hp m [] (.b true):=by
 have hM:=RD Yv [.mk ⟨#[120]⟩ [] mjB []] (by decide) mjW
 have hL:=S8 [mjP] (by simp [A8,PO,mjP])
 rw [mjM] at hM
 rw [mjL] at hL
 refine Am func7 (by kernel_rfl) cc7 cr7 rfl fun hf=>?_;unfold ck7
 simp only [go_sem]
 refine Af.f (XH 1 _ _) ?_
 simp only [go_sem]
 refine Af.f (XH 2 _ _) ?_
 simp only [go_sem]
 refine Af.q (args':=[vx Yv,.ds (Ad L4 [.mk ⟨#[120]⟩ [] mjB []])]) (hM _ _) (by simp only [go_sem]<;>rfl) ?_
 simp only [go_sem]
 refine Af.q (args':=[.ds (Ad Bo [mjP])]) (hL _ _) (by simp only [go_sem]<;>rfl) ?_
 simp only [mjC,go_sem]
mutual
def lgP:Pk→Int→Bool
 | .mk _ _ _ _ _ _ _ _ p,n=>decide (0<(p.length:Int))&&((decide (IntKind.i64.wrap (n - 1)≤0)||decide (60<(p.length:Int)))||Yp p (IntKind.i64.wrap (n - 1)))
def Yp:List Pk→Int→Bool
 | [],_=>false
 | p::r,n=>lgP p n||Yp r n
end
def Oj (l:List Pk) (n:Int):Bool:=(decide (n≤0)||decide (60<(l.length:Int)))||Yp l n
theorem Yx (p:Pk) (n:Int):lgP p n=(decide (0<(p.picks.length:Int))&&Oj p.picks (IntKind.i64.wrap (n - 1))):=by cases p;rw [lgP];rfl
theorem TK (l:List Pk) (hl:l.length≤1000000000000) (h:∀p∈l,∀n hp m,Ah prog 20 hp m [.ds (Ad Bo p.picks),.i .i64 n] (.b (Oj p.picks n))) (n:Int) (hp:CH) (m:Nat):Ah prog 20 hp m [.ds (Ad Bo l),.i .i64 n] (.b (Oj l n)):=by
 refine Am func20 (by kernel_rfl) cc20 cr20 rfl fun hf=>?_;unfold ck20
 simp only [go_sem]
 refine Ai (fun c=>?_) (fun c=>?_)
 .rw [Oj,c]
  simp only [go_sem]
 rw [Oj,c]
 simp only [go_sem]
 refine loop (fun p:Nat × Nat=>⟨[(0,.ds (Ad Bo l)),(1,.i .i64 n),(5,.i .i64 p.1)],hp,p.2⟩) (fun p=>p.1≤l.length∧Yp l n=Yp (l.drop p.1) n) (fun p=>l.length - p.1) (0,m) ?_ ?_ (fun ⟨j,N⟩ hj=>?_)
 .exact ⟨by simp,rfl⟩
 .refine Ac ?_ (A6.refl _) (zna _)
  simp only [go_sem]
 dsimp only at hj
 simp only [go_sem]
 refine Ai (fun d=>?_) (fun d=>?_)
 .have d:j<l.length:=by simpa using d
  obtain ⟨x,ex⟩:∃x,l[j]?=some x:=⟨l[j],by simp [d]⟩
  have hx:=h x (zla ex)
  rw [A5 ex,Yp,Yx] at hj
  simp only [d,Ag (Ab Bo ex),go_sem]
  by_cases g:decide (0<(x.picks.length:Int))=true
  .rw [g] at hj
   simp only [g]
   simp only [d,Ag (Ab Bo ex),go_sem]
   simp only [Bool.true_and] at hj
   refine EL (Af.f (hx _ _ _) ?_)
   simp only [d,go_sem]
   refine Ai (fun q=>?_) (fun q=>?_)
   .have q:Oj x.picks (IntKind.i64.wrap (n - 1))=true:=by simpa using q
    rw [hj.2,q]
    simp only [go_sem]
   .have q:Oj x.picks (IntKind.i64.wrap (n - 1))=false:=by simpa using q
    rw [q,Bool.false_or] at hj
    simp only [go_sem]
    refine ⟨(j+1,N),⟨by dsimp only;omega,hj.2⟩,by dsimp only;omega,Ac ?_ (A6.refl _) (zna _)⟩
    simp only [At j (by omega),go_sem]
  .have g:decide (0<(x.picks.length:Int))=false:=by simpa using g
   rw [g] at hj
   simp only [g]
   simp only [d,Ag (Ab Bo ex),go_sem]
   simp only [Bool.false_and,Bool.false_or] at hj
   refine BK ?_
   simp only [d,go_sem]
   refine ⟨(j+1,N),⟨by dsimp only;omega,hj.2⟩,by dsimp only;omega,Ac ?_ (A6.refl _) (zna _)⟩
   simp only [At j (by omega),go_sem]
 .have d:j=l.length:=by simp at d;omega
  subst d
  rw [zll,Yp] at hj
  rw [hj.2]
  simp only [go_sem]
theorem Zt (l:List Pk) (hw:A8 l≤1000000000000) (n:Int) (hp:CH) (m:Nat):Ah prog 20 hp m [.ds (Ad Bo l),.i .i64 n] (.b (Oj l n)):=by
 have key:∀p:Pk,PO p≤1000000000000→∀n hp m,Ah prog 20 hp m [.ds (Ad Bo p.picks),.i .i64 n] (.b (Oj p.picks n)):=fun p=>Pk.ind (Q:=fun p=>PO p≤1000000000000→∀n hp m,Ah prog 20 hp m [.ds (Ad Bo p.picks),.i .i64 n] (.b (Oj p.picks n))) (fun v ih hv=>by
  rw [CD] at hv
  have:=DS v.picks
  exact TK v.picks (by omega) fun p hp=>ih p hp (by have:=DV hp;omega)) p
 have:=DS l
 exact TK l (by omega) (fun p hp=>key p (by have:=DV hp;omega)) n hp m
def wtA:List FZ→Nat
 | []=>0
 | a::r=>1+Bu a.v+wtA r
mutual
def WX:Pk→Nat
 | .mk _ _ _ a _ tw _ _ p=>1+wtA a+tw.length+Hh p
def Hh:List Pk→Nat
 | []=>0
 | p::r=>WX p+Hh r
end
theorem OJ (p:Pk):WX p=1+wtA p.args+p.tw.length+Hh p.picks:=by cases p;rw [WX];rfl
theorem J7 {x:Pk}:∀{l:List Pk},x∈l→WX x≤Hh l
 | y::r,h=>by
  rw [Hh]
  rcases List.mem_cons.1 h with rfl | h
  .omega
  .have:=J7 h
   omega
theorem NB:∀l:List Pk,l.length≤Hh l
 | []=>by simp
 | y::r=>by
  have:=NB r
  have:=OJ y
  rw [Hh]
  simp
  omega
mutual
def Te:Pk→Pk
 | .mk k o n a tn tw _ _ p=>.mk k o n a tn tw ⟨#[]⟩ (-1) (BF p)
def BF:List Pk→List Pk
 | []=>[]
 | p::r=>Te p::BF r
end
theorem H1 (p:Pk):Te p=.mk p.key p.on p.name p.args p.tn p.tw ⟨#[]⟩ (-1) (BF p.picks):=by cases p;rw [Te];rfl
theorem Fo:∀l:List Pk,(BF l).length=l.length
 | []=>rfl
 | p::r=>by rw [BF,zlc,zlc,Fo r]
theorem MQ:∀a b:List Pk,BF (a++b)=BF a++BF b
 | [],b=>rfl
 | p::r,b=>by rw [List.cons_append,BF,MQ r b,BF,List.cons_append]
theorem X1 (l:List Pk) (p:Pk):Ad Bo (BF l)++[[AV.s p.key,.s p.on,.s p.name,.ds (Ad BC p.args),.s p.tn,.ds (Ad Dx p.tw),.s ⟨#[]⟩,.i .i64 (-1),.ds (Ad Bo (BF p.picks))]]=Ad Bo (BF (l++[p])):=by
 rw [MQ,BF,BF,H1,←Bi,Cg]
 rfl
theorem Ks (l:List Pk) (hw:Hh l≤800000000000) (h:∀p∈l,∀hp m,Ah prog 14 hp m [.ds (Ad Bo p.picks)] (.ds (Ad Bo (BF p.picks)))) (hp:CH) (m:Nat):Ah prog 14 hp m [.ds (Ad Bo l)] (.ds (Ad Bo (BF l))):=by
 have Bb:=NB l
 refine Am func14 (by kernel_rfl) cc14 cr14 rfl fun hf=>?_;unfold ck14
 simp only [go_sem]
 refine loop (fun q:Nat × Nat=>⟨[(0,.ds (Ad Bo l)),(3,.rw m q.1 q.1),(4,.i .i64 q.1)],(m,.rw q.1 9 (Ad Bo (BF (l.take q.1))))::hp,q.2⟩)
  (fun q=>q.1≤l.length∧m+1≤q.2) (fun q=>l.length - q.1) (0,m+1) ?_ ?_ (fun ⟨j,n⟩ hj=>?_)
 .exact ⟨by simp,by simp⟩
 .refine (B0 (t:=3) (m:=9) ?_).trans (Ac ?_ (A6.cons ?_ (A6.base hf ?_)) (zna _))
  all_goals
   simp only [BF,go_sem]
 dsimp only at hj
 have z0:m≤n:=by omega
 have z1:¬n=m:=by omega
 simp only [z0,z1,go_sem]
 refine Ai (fun d=>?_) (fun d=>?_)
 .have d:j<l.length:=by simpa using d
  obtain ⟨x,ex⟩:∃x,l[j]?=some x:=⟨l[j],by simp [d]⟩
  have hr:=h x (zla ex)
  have ht:(BF (l.take j)).length=j:=by rw [Fo];simp;omega
  simp only [z0,z1,d,Ag (Ab Bo ex),go_sem]
  refine Af.f (hr _ _) ?_
  simp only [z0,z1,d,ht,X1,go_sem]
  refine ⟨by omega,by omega,(j+1,_),?_,?_,Ac ?_ (A6.cons ?_ (A6.base hf ?_)) (zna _)⟩
  .exact ⟨by dsimp only;omega,by dsimp only;omega⟩
  .dsimp only;omega
  all_goals
   simp only [z0,z1,At j (by omega),Bg ex,go_sem]
 .have d:j=l.length:=by simp at d;omega
  subst d
  have ht:(BF l).take l.length=BF l:=by rw [List.take_of_length_le (by rw [Fo];exact zna _)]
  simp only [z0,z1,List.take_length,Fo,zna,ht,go_sem]
theorem QW (l:List Pk) (hw:Hh l≤800000000000) (hp:CH) (m:Nat):Ah prog 14 hp m [.ds (Ad Bo l)] (.ds (Ad Bo (BF l))):=by
 have key:∀p:Pk,WX p≤800000000000→∀hp m,Ah prog 14 hp m [.ds (Ad Bo p.picks)] (.ds (Ad Bo (BF p.picks))):=fun p=>Pk.ind (Q:=fun p=>WX p≤800000000000→∀hp m,Ah prog 14 hp m [.ds (Ad Bo p.picks)] (.ds (Ad Bo (BF p.picks)))) (fun v ih hv=>by
  rw [OJ] at hv
  exact Ks v.picks (by omega) fun p hp=>ih p hp (by have:=J7 hp;omega)) p
 exact Ks l hw (fun p hp=>key p (by have:=J7 hp;omega)) hp m
noncomputable def typF (v:Ak):ByteArray:=((AF v sT).getD AB).s
noncomputable def V5 (i:Int) (n:Nat):Nat:=if i=-1 then n else min i.toNat n
noncomputable def D1 (p:Pk) (x:Ak):Ak:=if x.k=5 then .mk x.k x.n x.s (x.items.take (V5 p.initial x.items.length)) x.keys else x
abbrev CF:=Pk × (Ak→Ak)
noncomputable def Gf (on:ByteArray) (keys:List ByteArray):List CF→List Ak→List Ak
 | [],is=>is
 | (p,f)::r,is =>
  if p.on=on∧p.label=⟨#[]⟩∧0≤ix p.key keys 0∧ix p.key keys 0<is.length then
   Gf on keys r (is.set (ix p.key keys 0).toNat (f (D1 p (is.getD (ix p.key keys 0).toNat AB))))
  else Gf on keys r is
noncomputable def Nv (fs:List CF) (v:Ak):Ak:=.mk 6 0 ⟨#[]⟩ (Gf (typF v) v.keys fs v.items) v.keys
mutual
noncomputable def Gz (fs:List CF):Ak→Ak
 | .mk k n s i l=>if k=5 then .mk 5 0 ⟨#[]⟩ (Qn fs i) [] else if k=6 then Nv fs (.mk k n s i l) else .mk k n s i l
noncomputable def Qn (fs:List CF):List Ak→List Ak
 | []=>[]
 | x::r=>Gz fs x::Qn fs r
end
theorem RH (fs:List CF) (l:List Ak):Qn fs l=l.map (Gz fs):=by
 induction l with
 | nil=>rfl
 | cons x l ih=>rw [Qn,ih];rfl
theorem FW (fs:List CF) (v:Ak):Gz fs v=if v.k=5 then .mk 5 0 ⟨#[]⟩ (v.items.map (Gz fs)) [] else if v.k=6 then Nv fs v else v:=by
 cases v
 rw [Gz,RH]
 rfl
mutual
noncomputable def NS:Pk→Ak→Ak
 | .mk _ _ _ _ _ _ _ _ p=>Gz (DW p)
noncomputable def DW:List Pk→List CF
 | []=>[]
 | p::r=>(p,NS p)::DW r
end
theorem E5 (l:List Pk):DW l=l.map fun p=>(p,NS p):=by
 induction l with
 | nil=>rfl
 | cons x l ih=>rw [DW,ih];rfl
noncomputable def CM (l:List Pk) (v:Ak):Ak:=Gz (DW l) v
theorem It (p:Pk):NS p=CM p.picks:=by cases p;rfl
noncomputable def Qt (p:Pk) (l:ByteArray) (q:List Pk):Pk:=.mk p.key p.on p.name p.args p.tn p.tw l p.initial q
mutual
noncomputable def In:Pk→Pk
 | .mk k o n a tn tw l i p=>.mk k o n a tn tw l i (BX p)
noncomputable def BX:List Pk→List Pk
 | []=>[]
 | p::r=>match p.label.size with
  | 0=>In p::BX r
  | _=>BX r
end
theorem XO (b:ByteArray):b.size=0↔b=⟨#[]⟩:=by
 constructor
 .intro h
  apply ByteArray.ext
  exact Array.eq_empty_of_size_eq_zero h
 .rintro rfl;rfl
theorem LG (p:Pk):In p=Qt p p.label (BX p.picks):=by cases p;rw [In];rfl
theorem HC (p:Pk) (r:List Pk):BX (p::r)=if p.label=⟨#[]⟩ then In p::BX r else BX r:=by
 rw [BX]
 by_cases h:p.label=⟨#[]⟩
 .rw [if_pos h,(XO _).2 h]
  rfl
 .rw [if_neg h]
  have:p.label.size≠0:=fun e=>h ((XO _).1 e)
  split
  .rename_i e;exact absurd e this
  .rfl
theorem Dz (l:List Pk):BX l=(l.filter fun p=>decide (p.label=⟨#[]⟩)).map In:=by
 induction l with
 | nil=>rfl
 | cons p l ih =>
  rw [HC,ih]
  by_cases h:p.label=⟨#[]⟩
  .rw [if_pos h,List.filter_cons_of_pos (by simp [h])];rfl
  .rw [if_neg h,List.filter_cons_of_neg (by simp [h])]
theorem QU (l:List Pk) (p:Pk):BX (l++[p])=if p.label=⟨#[]⟩ then BX l++[In p] else BX l:=by
 rw [Dz,Dz,List.filter_append,List.map_append]
 by_cases h:p.label=⟨#[]⟩
 .rw [if_pos h];simp [h]
 .rw [if_neg h];simp [h]
noncomputable def Fg (on:ByteArray):List Pk→List ByteArray→List ByteArray
 | [],o=>o
 | p::r,o=>Fg on r (if p.on=on then C0 p.label o else o)
noncomputable def JS (q:Pk) (ini:Int):Pk:=.mk q.key q.on q.name q.args (if CK q.tw=true then q.tn else ⟨#[]⟩) (if CK q.tw=true then DT q.tw else []) ⟨#[]⟩ ini (BX q.picks)
noncomputable def Il (v:Ak) (q:Pk):Ak:=(AF v q.key).getD AB
end Go.Proofs.YtgfidgoefioigaaGreatDoor
