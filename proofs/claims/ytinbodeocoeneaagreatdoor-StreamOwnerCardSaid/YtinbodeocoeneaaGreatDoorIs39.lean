/- Proof. Conditions: none. -/
import Derived.Test.YtinbodeocoeneaaGreatDoorIs38
open Nat renaming reduceEqDiff→Za,reduceBEq→Zb,reduceAdd→Zc,reduceLeDiff→Zd,reduceLT→Ze,reduceMul→Zf,reduceSub→Zg
open Int renaming reduceEq→Zh,reduceLT→Zi,reduceLE→Zj,reduceToNat→Zk
open List renaming mem_of_getElem?→zla,length_cons→zlc
open Nat renaming le_refl→zna,le_trans→znc
namespace Go.Proofs.YtinbodeocoeneaaGreatDoor
open Go.Eng
set_option linter.all false
def putA (l:List Cel) (cs:List Cel):List Cel:=cs.foldl putC l
theorem putA_cons (l:List Cel) (c:Cel) (cs:List Cel):putA l (c::cs)=putA (putC l c) cs:=rfl
def cAt (f a:ByteArray) (n:Nat) (ws:List Wri):List Cel:=(ws.filter fun w=>hits f a w&&decide (w.i=n)).map Wri.c
theorem appS_get (f a:ByteArray) (l:List Itm) (w:Wri) (n:Nat):(appS f a l w)[n]?=l[n]?.map fun x=>if (hits f a w&&decide (w.i=n))=true then .mk x.t (putC x.l w.c) else x:=by
 unfold appS wrI
 cases hh:hits f a w with
 | false =>
  rw [if_neg (by simp)]
  simp
 | true =>
  rw [if_pos rfl]
  simp only [Bool.true_and,decide_eq_true_eq]
  by_cases h0:0≤w.i
  .rw [if_pos h0]
   cases hx:l[w.i.toNat]? with
   | none =>
    simp only
    by_cases e:w.i=n
    .rw [e,Int.toNat_natCast] at hx
     rw [hx]
     rfl
    .simp [e]
   | some x =>
    simp only
    by_cases e:w.i=n
    .rw [e,Int.toNat_natCast] at hx ⊢
     rw [List.getElem?_set_self (List.getElem?_eq_some_iff.1 hx).1,hx]
     simp
    .rw [List.getElem?_set_ne (by omega)]
     simp [e]
  .rw [if_neg h0]
   have e:¬w.i=n:=by omega
   simp [e]
theorem appL_get (f a:ByteArray) (n:Nat):∀(ws:List Wri) (l:List Itm),(appL f a ws l)[n]?=l[n]?.map fun x=>.mk x.t (putA x.l (cAt f a n ws))
 | [],l=>by
  have:(fun x:Itm=>Itm.mk x.t (putA x.l (cAt f a n [])))=fun x=>x:=by funext x;exact Itm.eta x
  rw [this]
  simp [appL]
 | w::ws,l=>by
  rw [show appL f a (w::ws) l=appL f a ws (appS f a l w) from rfl,appL_get f a n ws,appS_get,Option.map_map]
  congr 1
  funext x
  simp only [Function.comp,cAt,List.filter_cons]
  split
  .rw [List.map_cons,putA_cons,Itm.t_mk,Itm.l_mk]
  .rfl
theorem appV_len (d:Dat) (f a:ByteArray):(appV d f a).i.length=d.i.length:=appL_len _ _ _ _
set_option maxRecDepth 20000
set_option maxHeartbeats 2000000
theorem appL_vals {f a:ByteArray} {Q:Cel→Prop}:∀{ws:List Wri} {l:List Itm},(∀x∈l,∀c∈x.l,Q c)→(∀w∈ws,Q w.c)→∀x∈appL f a ws l,∀c∈x.l,Q c
 | [],l,h,_=>h
 | w::ws,l,h,hw=>appL_vals (ws:=ws) (l:=appS f a l w) (fun x hx=>by
   unfold appS wrI at hx
   split at hx
   .split at hx
    .split at hx
     .rename_i y hy
      rcases List.mem_or_eq_of_mem_set hx with hx | rfl
      .exact h x hx
      .intro c hc
       rw [Itm.l_mk] at hc
       unfold putC at hc
       split at hc
       .rcases List.mem_or_eq_of_mem_set hc with hc | rfl
        .exact h y (zla hy) c hc
        .exact hw w (by simp)
       .rcases List.mem_append.1 hc with hc | hc
        .exact h y (zla hy) c hc
        .simp at hc
         subst hc
         exact hw w (by simp)
     .exact h x hx
    .exact h x hx
   .exact h x hx) fun v hv=>hw v (by simp [hv])
theorem appV_fit {d:Dat} (hd:d.Fit2) (f a:ByteArray):(appV d f a).Fit:=by
 refine .mk _ (by rw [appV_len];exact hd.f.li) hd.f.lw (fun x hx=>⟨?_,?_⟩) fun w hw=>hd.f.w hw
 .have:=appL_cells hd.c x hx
  have:=hd.w
  omega
 .exact appL_vals (Q:=fun c=>c.v.Fit) (fun x hx c hc=>hd.f.c hx hc) (fun w hw=>hd.f.w hw) x hx
theorem appV_fit2 {d:Dat} (hd:d.Fit2) {B:Nat} (hB:∀x∈d.i,x.l.length≤B) (h:B+d.w.length≤100000000000) (f a:ByteArray):(appV d f a).Fit2 :=
 ⟨appV_fit hd f a,hd.w,fun x hx=>znc (appL_cells hB x hx) h⟩
structure VSm (v:Val):Prop where
 f:v.Fit
 r:v.Rng
 b:avL (valC v)≤1048576
theorem VSm.z:VSm zVal:=⟨zVal_fit,.mk _ (by simp [zVal,Val.n_mk]) (by simp [zVal,Val.n_mk]) (by simp [zVal,Val.items_mk]),by rw [avL_val];simp [zVal,Val.s_mk,Val.items_mk,Val.keys_mk,mapC,avLL,ByteArray.size]⟩
theorem VSm.ok {v:Val} (h:VSm v):VOk v:=⟨h.f,h.r,znc h.b (by omega)⟩
structure DOk (d:Dat) (B:Nat):Prop where
 f:d.Fit2
 v:∀x∈d.i,∀c∈x.l,VSm c.v
 w:∀w∈d.w,VSm w.c.v
 c:∀x∈d.i,x.l.length≤B
structure SOk (s:Sup):Prop where
 j:s.joins.length≤1048576
 r:∀j∈s.joins,j.req.length≤1048576
 d:s.doc.length≤1048576
theorem cellV_sm {l:List Cel} (h:∀c∈l,VSm c.v) (i:Int):VSm (cellV l i):=by
 unfold cellV
 split
 .split
  .rename_i c hc
   exact h c (zla hc)
  .exact VSm.z
 .exact VSm.z
theorem lookV_sm {d:Dat} {B:Nat} (hd:DOk d B) (i:Int) (f a:ByteArray):VSm (lookV d i f a):=by
 unfold lookV
 split
 .exact VSm.z
 .split
  .rename_i x hx
   unfold lookX
   split
   .exact cellV_sm (hd.v x (zla hx)) _
   .exact cellV_sm (hd.v x (zla hx)) _
  .exact VSm.z
theorem leafOf_sm {v:Val} (h:VSm v):VSm (leafOf v):=by
 unfold leafOf
 split
 .exact h
 .exact VSm.z
theorem leafOf_lok {v:Val} (h:VSm v):LOk (leafOf v):=by
 have hs:=leafOf_sm h
 have hb:=hs.b
 rw [avL_val] at hb
 refine ⟨hs.r,?_,?_,by omega⟩
 .unfold leafOf
  split
  .rename_i q
   simp only [leafV,Bool.and_eq_true,decide_eq_true_eq] at q
   omega
  .simp [zVal,Val.k_mk]
 .unfold leafOf
  split
  .rename_i q
   simp only [leafV,Bool.and_eq_true,decide_eq_true_eq] at q
   omega
  .simp [zVal,Val.k_mk]
theorem reqJ_cons (j:Jn) (J:List Jn) (t f:ByteArray):reqJ (j::J) t f=if j.t=t∧j.f=f∧0<j.req.length then j.req else reqJ J t f:=by
 unfold reqJ
 rw [List.find?_cons]
 by_cases c:j.t=t∧j.f=f∧0<j.req.length
 .rw [if_pos c]
  simp [c]
 .rw [if_neg c]
  have:(decide (j.t=t)&&(decide (j.f=f)&&decide (0<j.req.length)))=false:=by
   rw [Bool.eq_false_iff]
   intro h
   simp only [Bool.and_eq_true,decide_eq_true_eq] at h
   exact c h
  rw [this]
theorem reqJ_len {J:List Jn} (h:∀j∈J,j.req.length≤1048576) (t f:ByteArray):(reqJ J t f).length≤1048576:=by
 induction J with
 | nil=>simp [reqJ]
 | cons j J ih =>
  rw [reqJ_cons]
  split
  .exact h j (by simp)
  .exact ih fun y hy=>h y (by simp [hy])
theorem needL_len {s:Sup} (hs:SOk s) (d:Dat) (i:Int) (p:Pk):(needL s d i p).length≤1048576:=by
 unfold needL
 split
 .exact reqJ_len hs.r _ _
 .simp
theorem exB_at {d:Dat} {i:Int} (h:exB d i=true):∃(j:Nat) (x:Itm),i=j∧d.i[j]?=some x∧j<d.i.length∧typD d i=x.t:=by
 simp only [exB,Bool.and_eq_true,decide_eq_true_eq] at h
 obtain ⟨j,rfl⟩:∃j:Nat,i=j:=⟨i.toNat,by omega⟩
 have hj:j<d.i.length:=by omega
 obtain ⟨x,ex⟩:∃x,d.i[j]?=some x:=⟨d.i[j],by simp [hj]⟩
 exact ⟨j,x,rfl,ex,hj,typD_at ex⟩
theorem exists_ok (d:Dat) (i:Int) (hp:CH) (m:Nat):MeetsF Tryz.prog 129 hp m [dx d,.i .i64 i] (.b (exB d i)):=by
 unfold exB
 refine meetsF Tryz.func129 (by kernel_rfl) cc129 cr129 rfl fun hf=>?_;unfold ck129
 simp only [go_sem,↓reduceIte,Za,Zb,Zc,Zd,Ze,reduceCtorEq,Zf,Zg,Zh,Zi,Zj,Zk]
theorem rneeds_ok (s:Sup) (hs:SOk s) (d:Dat) (i:Int) (p:Pk) (hp:CH) (m:Nat):MeetsF Tryz.prog 79 hp m [supx s,dx d,.i .i64 i,pkx p] (.ds (stC (needL s d i p))):=by
 have hjl:=hs.j
 obtain ⟨R,hR⟩:∃R,needL s d i p=R:=⟨_,rfl⟩
 have e:=hR
 rw [needL] at e
 rw [hR]
 obtain ⟨E,hE⟩:∃E,exB d i=E:=⟨_,rfl⟩
 have hex:=exists_ok d i
 rw [hE] at e hex
 refine meetsF Tryz.func79 (by kernel_rfl) cc79 cr79 rfl fun hf=>?_;unfold ck79
 simp only [go_sem,↓reduceIte,Za,Zb,Zc,Zd,Ze,reduceCtorEq,Zf,Zg,Zh,Zi,Zj,Zk]
 refine vcCall.f (hex _ _) ?_
 simp only [go_sem,↓reduceIte,Za,Zb,Zc,Zd,Ze,reduceCtorEq,Zf,Zg,Zh,Zi,Zj,Zk]
 cases E with
 | false =>
  rw [if_neg (by simp)] at e
  subst e
  simp only [go_sem,↓reduceIte,Za,Zb,Zc,Zd,Ze,reduceCtorEq,Zf,Zg,Zh,Zi,Zj,Zk]
 | true =>
  rw [if_pos rfl] at e
  obtain ⟨i',x,rfl,ex,hil,ht⟩:=exB_at hE
  rw [ht] at e
  simp only [go_sem,↓reduceIte,Za,Zb,Zc,Zd,Ze,reduceCtorEq,Zf,Zg,Zh,Zi,Zj,Zk]
  refine loop (fun q:Nat × Nat=>⟨[(2,.i .i64 i'),(4,.bx m 0),(5,.bx (m+1) 0),(7,.bx (m+2) 0),(9,.i .i64 q.1)],(m,.bx [.ds (stC s.g),.ds (mapC dfC s.doc),.ds (mapC kyC s.keys),.ds (mapC jnC s.joins)])::(m+1,.bx [.ds (mapC itC d.i),.ds (mapC wrC d.w)])::(m+2,.bx [.s p.key,.s p.on,.s p.name,.ds (mapC argC p.args),.s p.tn,.ds (mapC in1 p.tw),.s p.label,.i .i64 p.initial,.ds (mapC pkC p.picks)])::hp,q.2⟩)
   (fun q=>q.1≤s.joins.length∧m+3≤q.2∧R=reqJ (s.joins.drop q.1) x.t p.name) (fun q=>s.joins.length - q.1) (0,m+3) ?_ ?_ (fun ⟨j,n⟩ hj=>?_)
  .exact ⟨by simp,by simp,e.symm⟩
  .refine weak_ok ?_ (Sub.cons ?_ (Sub.cons ?_ (Sub.cons ?_ (Sub.base hf ?_)))) (zna _)
   all_goals (simp (disch:=omega) only [ite_ne,go_sem,↓reduceIte,Za,Zb,Zc,Zd,Ze,reduceCtorEq,Zf,Zg,Zh,Zi,Zj,Zk])
  dsimp only at hj
  obtain ⟨hj1,hj2,hj3⟩:=hj
  have hmn:m≤n:=by omega
  simp (disch:=omega) only [ite_ne,go_sem,↓reduceIte,Za,Zb,Zc,Zd,Ze,reduceCtorEq,Zf,Zg,Zh,Zi,Zj,Zk]
  refine cdK_of (fun q=>?_) (fun q=>?_)
  .have q:j<s.joins.length:=by simpa using q
   obtain ⟨t,et⟩:∃t,s.joins[j]?=some t:=⟨s.joins[j],by simp [q]⟩
   rw [drop_at et,reqJ_cons] at hj3
   simp (disch:=omega) only [ite_ne,q,getK_s (mapC_get jnC et),hil,getK_s (mapC_get itC ex),go_sem,↓reduceIte,Za,Zb,Zc,Zd,Ze,reduceCtorEq,Zf,Zg,Zh,Zi,Zj,Zk]
   refine cdK_of (fun c=>?_) (fun c=>?_)
   .have c:t.t=x.t∧t.f=p.name∧0<t.req.length:=by
     simp only [Bool.and_eq_true,decide_eq_true_eq] at c
     exact ⟨c.1.1,c.1.2,by omega⟩
    rw [if_pos c] at hj3
    subst hj3
    simp (disch:=omega) only [ite_ne,hmn,go_sem,↓reduceIte,Za,Zb,Zc,Zd,Ze,reduceCtorEq,Zf,Zg,Zh,Zi,Zj,Zk]
   .have c:¬(t.t=x.t∧t.f=p.name∧0<t.req.length):=by
     rintro ⟨c1,c2,c3⟩
     rw [Bool.eq_false_iff] at c
     exact c (by simp only [Bool.and_eq_true,decide_eq_true_eq];exact ⟨⟨c1,c2⟩,by omega⟩)
    rw [if_neg c] at hj3
    simp (disch:=omega) only [ite_ne,go_sem,↓reduceIte,Za,Zb,Zc,Zd,Ze,reduceCtorEq,Zf,Zg,Zh,Zi,Zj,Zk]
    refine ⟨(j+1,_),⟨by dsimp only;omega,by dsimp only;omega,hj3⟩,by dsimp only;omega,weak_ok ?_ (Sub.cons ?_ (Sub.cons ?_ (Sub.cons ?_ (Sub.base hf ?_)))) (zna _)⟩
    all_goals
     simp (disch:=omega) only [ite_ne,wr64s j (by omega),hmn,go_sem,↓reduceIte,Za,Zb,Zc,Zd,Ze,reduceCtorEq,Zf,Zg,Zh,Zi,Zj,Zk]
  .have q:j=s.joins.length:=by simp at q;omega
   subst q
   rw [List.drop_length] at hj3
   have hj3:R=[]:=hj3
   subst hj3
   simp (disch:=omega) only [ite_ne,go_sem,↓reduceIte,Za,Zb,Zc,Zd,Ze,reduceCtorEq,Zf,Zg,Zh,Zi,Zj,Zk]
theorem rLeaf_ok (v:Val) (hv:v.Fit) (hp:CH) (m:Nat):MeetsF Tryz.prog 80 hp m [vx v] (vx (leafOf v)):=by
 obtain ⟨R,hR⟩:∃R,leafOf v=R:=⟨_,rfl⟩
 have e:=hR
 rw [leafOf,leafV] at e
 rw [hR]
 refine meetsF Tryz.func80 (by kernel_rfl) cc80 cr80 rfl fun hf=>?_;unfold ck80
 simp only [go_sem,↓reduceIte,Za,Zb,Zc,Zd,Ze,reduceCtorEq,Zf,Zg,Zh,Zi,Zj,Zk]
 refine gCall.f (fun _=>rRight_ok v hv _ _) ?_
 simp only [go_sem,↓reduceIte,Za,Zb,Zc,Zd,Ze,reduceCtorEq,Zf,Zg,Zh,Zi,Zj,Zk]
 refine cdK_of (fun c=>?_) (fun c=>?_)
 .rw [if_pos c] at e
  subst e
  simp only [go_sem,↓reduceIte,Za,Zb,Zc,Zd,Ze,reduceCtorEq,Zf,Zg,Zh,Zi,Zj,Zk]
 .rw [if_neg (by simp [c])] at e
  subst e
  simp only [go_sem,↓reduceIte,Za,Zb,Zc,Zd,Ze,reduceCtorEq,Zf,Zg,Zh,Zi,Zj,Zk]
  rfl
theorem needV_take {s:Sup} {d:Dat} {i:Int} {p:Pk} {L:List ByteArray} {j:Nat} {f:ByteArray} (h:L[j]?=some f):(L.take j).map (fun f=>leafOf (lookV d i f ⟨#[]⟩))++[leafOf (lookV d i f ⟨#[]⟩)]=(L.take (j+1)).map fun f=>leafOf (lookV d i f ⟨#[]⟩):=by
 rw [←take_snoc h,List.map_append]
 rfl
theorem sumB {α:Type} {c:α→List AV} {B:Nat}:∀{l:List α},(∀x∈l,avL (c x)≤B)→avLL (mapC c l)≤l.length*B
 | [],_=>by simp [mapC,avLL]
 | x::l,h=>by
  have h1:=sumB (c:=c) (B:=B) (l:=l) fun y hy=>h y (by simp [hy])
  have h2:=h x (by simp)
  rw [mapC_cons,avLL_cons,zlc,Nat.add_mul]
  omega
theorem needV_sm {s:Sup} {d:Dat} {B:Nat} (hd:DOk d B) (i:Int) (p:Pk):∀v∈needV s d i p,VSm v:=fun v hv=>by
 unfold needV at hv
 obtain ⟨f,_,rfl⟩:=List.mem_map.1 hv
 exact leafOf_sm (lookV_sm hd _ _ _)
theorem needV_lok {s:Sup} {d:Dat} {B:Nat} (hd:DOk d B) (i:Int) (p:Pk):∀v∈needV s d i p,LOk v:=fun v hv=>by
 unfold needV at hv
 obtain ⟨f,_,rfl⟩:=List.mem_map.1 hv
 exact leafOf_lok (lookV_sm hd _ _ _)
theorem needV_len (s:Sup) (d:Dat) (i:Int) (p:Pk):(needV s d i p).length=(needL s d i p).length:=by simp [needV]
theorem needV_sum {s:Sup} (hs:SOk s) {d:Dat} {B:Nat} (hd:DOk d B) (i:Int) (p:Pk):avLL (mapC valC (needV s d i p))≤2000000000000:=by
 have h1:=sumB (c:=valC) (B:=1048576) fun v hv=>(needV_sm (s:=s) hd i p v hv).b
 have h2:=needL_len hs d i p
 rw [needV_len] at h1
 have h3:(needL s d i p).length*1048576≤1048576*1048576:=Nat.mul_le_mul_right _ h2
 omega
structure AOk (l:List Arg):Prop where
 v:∀a∈l,VSm a.v
 b:avLL (mapC argC l)≤1048576
 n:l.length≤1048576
theorem argsL_len {l:List Arg} (h:AOk l):(argsL l).length≤33554432:=by
 have h1:=args_len l fun a ha=>(h.v a ha).ok
 have h2:=jn_le (l.map argL)
 have h3:=h.b
 unfold argsL
 omega
theorem rArgs_ok (s:Sup) (hs:SOk s) (d:Dat) {B:Nat} (hd:DOk d B) (i:Int) (p:Pk) (ha:AOk p.args) (hp:CH) (m:Nat):MeetsF Tryz.prog 37 hp m [supx s,dx d,.i .i64 i,pkx p] (.s (ofL (argT s d i p))):=by
 have hT:=rText_ok p.args (fun a h=>(ha.v a h).ok) (znc ha.b (by omega)) (znc ha.n (by omega))
 have hN:=rneeds_ok s hs d i p
 have hnl:=needL_len hs d i p
 have hvl:=needV_len s d i p
 have hP:=rPrint_ok (needV s d i p) (by omega) (needV_lok hd i p) (needV_sum hs hd i p)
 have hLL:=List_ok (needV s d i p) (by omega) fun v hv=>(needV_sm hd i p v hv).f
 have hal:=argsL_len ha
 have hpl:(prnL (needV s d i p)).length≤64000000000002:=by
  have h1:=prn_len (needV s d i p) fun v hv=>(needV_lok hd i p v hv).r
  have h2:=jc_le ((needV s d i p).map prnV)
  have h3:=needV_sum hs hd i p
  simp only [prnL,zlc,List.length_append,List.length_nil]
  omega
 obtain ⟨R,hR⟩:∃R,argT s d i p=R:=⟨_,rfl⟩
 have e:=hR
 rw [argT] at e
 rw [hR]
 obtain ⟨V,hV⟩:∃V,needV s d i p=V:=⟨_,rfl⟩
 have hVe:=hV
 rw [needV] at hVe
 rw [hV] at hP hLL hvl hpl e
 obtain ⟨L,hL⟩:∃L,needL s d i p=L:=⟨_,rfl⟩
 rw [hL] at hN hnl hvl e hVe
 obtain ⟨A,hA⟩:∃A,argsL p.args=A:=⟨_,rfl⟩
 rw [hA] at hT e hal
 refine meetsF Tryz.func37 (by kernel_rfl) cc37 cr37 rfl fun hf=>?_;unfold ck37
 simp only [go_sem,↓reduceIte,Za,Zb,Zc,Zd,Ze,reduceCtorEq,Zf,Zg,Zh,Zi,Zj,Zk]
 refine vcCall.f (hT _ _) ?_
 simp only [go_sem,↓reduceIte,Za,Zb,Zc,Zd,Ze,reduceCtorEq,Zf,Zg,Zh,Zi,Zj,Zk]
 refine vcCall.f (hN _ _) ?_
 simp only [go_sem,↓reduceIte,Za,Zb,Zc,Zd,Ze,reduceCtorEq,Zf,Zg,Zh,Zi,Zj,Zk]
 refine cdK_of (fun c=>?_) (fun c=>?_)
 .have c:L=[]:=by
   have c:(L.length:Int)=0:=by simpa using c
   exact List.eq_nil_of_length_eq_zero (by omega)
  rw [if_pos c,List.append_nil] at e
  subst e
  simp only [go_sem,↓reduceIte,Za,Zb,Zc,Zd,Ze,reduceCtorEq,Zf,Zg,Zh,Zi,Zj,Zk]
 .have c:¬L=[]:=fun q=>by subst q;simp at c
  rw [if_neg c] at e
  simp only [go_sem,↓reduceIte,Za,Zb,Zc,Zd,Ze,reduceCtorEq,Zf,Zg,Zh,Zi,Zj,Zk]
  refine loop (fun q:Nat × Nat=>⟨[(2,.i .i64 i),(5,.bx (m+1) 0),(9,.s (ofL A)),(10,.ds (stC L)),(11,.rw (m+3) q.1 q.1),(12,.i .i64 q.1)],(m+1,.bx [.ds (mapC itC d.i),.ds (mapC wrC d.w)])::(m+3,.rw q.1 5 (mapC valC ((L.take q.1).map fun f=>leafOf (lookV d i f ⟨#[]⟩))))::hp,q.2⟩)
   (fun q=>q.1≤L.length∧m+4≤q.2) (fun q=>L.length - q.1) (0,m+4) ?_ ?_ (fun ⟨j,n⟩ hj=>?_)
  .simp
  .refine (weak_e0 (t:=11) (m:=5) ?_).trans (weak_ok ?_ (Sub.cons ?_ (Sub.cons ?_ (Sub.base hf ?_))) (zna _))
   all_goals (simp (disch:=omega) only [ite_ne,go_sem,↓reduceIte,Za,Zb,Zc,Zd,Ze,reduceCtorEq,Zf,Zg,Zh,Zi,Zj,Zk])
   all_goals rfl
  dsimp only at hj
  obtain ⟨hj1,hj2⟩:=hj
  have hmn:m≤n:=by omega
  simp (disch:=omega) only [ite_ne,go_sem,↓reduceIte,Za,Zb,Zc,Zd,Ze,reduceCtorEq,Zf,Zg,Zh,Zi,Zj,Zk]
  refine cdK_of (fun q=>?_) (fun q=>?_)
  .have q:j<L.length:=by simpa using q
   obtain ⟨f,ef⟩:∃f,L[j]?=some f:=⟨L[j],by simp [q]⟩
   have hst:=needV_take (s:=s) (d:=d) (i:=i) (p:=p) ef
   have ht:((L.take j).map fun f=>leafOf (lookV d i f ⟨#[]⟩)).length=j:=by simp;omega
   have k1:(j+1)*80≤140737488355328:=by omega
   have k2:j+1≤9223372036854775807:=by omega
   simp (disch:=omega) only [ite_ne,q,getK_s (mapC_get st1 ef),go_sem,↓reduceIte,Za,Zb,Zc,Zd,Ze,reduceCtorEq,Zf,Zg,Zh,Zi,Zj,Zk]
   refine dCallR.f (fun _ hp' e=>rLookup_ok d hd.f.f i f ⟨#[]⟩ _ _) ?_
   simp (disch:=omega) only [ite_ne,q,getK_s (mapC_get st1 ef),go_sem,↓reduceIte,Za,Zb,Zc,Zd,Ze,reduceCtorEq,Zf,Zg,Zh,Zi,Zj,Zk]
   refine dCallR.f (fun _ hp' e=>rLeaf_ok _ (lookV_sm hd i f ⟨#[]⟩).f _ _) ?_
   simp (disch:=omega) only [ite_ne,q,getK_s (mapC_get st1 ef),ht,k1,k2,go_sem,↓reduceIte,Za,Zb,Zc,Zd,Ze,reduceCtorEq,Zf,Zg,Zh,Zi,Zj,Zk]
   refine ⟨(j+1,_),⟨by dsimp only;omega,by dsimp only;omega⟩,by dsimp only;omega,weak_ok ?_ (Sub.cons ?_ (Sub.cons ?_ (Sub.base hf ?_))) (zna _)⟩
   all_goals
    simp (disch:=omega) only [ite_ne,wr64s j (by omega),hst,hmn,go_sem,↓reduceIte,Za,Zb,Zc,Zd,Ze,reduceCtorEq,Zf,Zg,Zh,Zi,Zj,Zk]
  .have q:j=L.length:=by simp at q;omega
   subst q
   have ht2:V.take L.length=V:=List.take_of_length_le (by omega)
   rw [List.take_length,hVe]
   simp (disch:=omega) only [ite_ne,go_sem,↓reduceIte,Za,Zb,Zc,Zd,Ze,reduceCtorEq,Zf,Zg,Zh,Zi,Zj,Zk]
   refine vcCall.p (hLL _ _) ?_ ?_
   .simp (disch:=omega) only [ite_ne,hvl,ht2,zna,go_sem,↓reduceIte,Za,Zb,Zc,Zd,Ze,reduceCtorEq,Zf,Zg,Zh,Zi,Zj,Zk]
   simp (disch:=omega) only [ite_ne,go_sem,↓reduceIte,Za,Zb,Zc,Zd,Ze,reduceCtorEq,Zf,Zg,Zh,Zi,Zj,Zk]
   refine vcCall.f (hP _ _) ?_
   subst e
   simp (disch:=first | omega | (simp only [List.length_append,zlc,List.length_nil];omega)) only [ite_ne,s_cat,mk_ofL,ofL_app,litS,List.cons_append,List.append_assoc,List.nil_append,hmn,go_sem,↓reduceIte,Za,Zb,Zc,Zd,Ze,reduceCtorEq,Zf,Zg,Zh,Zi,Zj,Zk]
end Go.Proofs.YtinbodeocoeneaaGreatDoor
