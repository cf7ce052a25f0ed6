/- Proof. Conditions: none. -/
import Derived.Test.YtgollgfifnmaaaaDoorCmP249
open Nat renaming reduceEqDiff→Za,reduceBEq→Zb,reduceAdd→Zc,reduceLeDiff→Zd,reduceLT→Ze,reduceMul→Zf,reduceSub→Zg
open Int renaming reduceEq→Zh,reduceLT→Zi,reduceLE→Zj,reduceToNat→Zk
open List renaming mem_of_getElem?→zla,length_append→zld
open Nat renaming le_refl→zna
namespace Go.Proofs.YtgollgfifnmaaaaDoor
open Go.Eng
set_option linter.all false
set_option maxRecDepth 20000
set_option maxHeartbeats 1000000
theorem rlist_of (doc:List Dfn) (v:Val) (hv:v.Fit) (h:∀x∈v.items,VlK doc x):LsK doc v:=by
  intro tn tw picks path htw hpk hwt hp c kp gp P n hR hP
  rw [listR_eq] at hP ⊢
  have hlen:=hv.i
  have hpl : path.length ≤ 1000000000000 := by omega
  have hfl : (v.items.map (cplV doc)).length = v.items.length := by simp
  rw [hfl] at hP ⊢
  obtain ⟨fs,hfs⟩:∃fs,v.items.map (cplV doc)=fs:=⟨_,rfl⟩
  rw [hfs] at hP hfl ⊢
  dsimp only at hP ⊢
  have hPle : ∀ j, j ≤ v.items.length → (lsP fs tn tw picks path j).length ≤ (lsP fs tn tw picks path v.items.length).length := fun j hj => by
    have := lsP_le (fs := fs) (tn := tn) (tw := tw) (picks := picks) (path := path) (k := v.items.length - j) (j := j) (by omega)
    rwa [hfl] at this
  obtain ⟨RP,hRP⟩:∃RP,lsP fs tn tw picks path v.items.length=RP:=⟨_,rfl⟩
  obtain ⟨RV,hRV⟩:∃RV,(if lsL fs tn tw picks path v.items.length=true then zVal else liV (lsO fs tn tw picks path v.items.length))=RV:=⟨_,rfl⟩
  rw [hRP] at hP hPle ⊢
  rw [hRV]
  have hWS : (∀ k, n ≤ k → gc hp k = .no) → wsLt n (wsR doc c kp gp P RP) := fun hf => hR.wsLt hf
  have n2:=hR.n2
  have m2 : ¬ kp = c := fun e => n2 e.symm
  have hc:=hR.hc
  have hk:=hR.hk
  refine meetsW Tryd.func80 (by kernel_rfl) cc80 cr80 rfl hWS fun hf => ?_; unfold ck80
  obtain ⟨l1,l3⟩:=hR.lt hf
  simp (disch:=omega) only [ite_ne,go_sem,↓reduceIte,Za,Zb,Zc,Zd,Ze,reduceCtorEq,Zf,Zg,Zh,Zi,Zj,Zk]
  refine loop (fun p : Nat × Nat => ⟨[(0, .bx c 0), (3, .ds (mapC pkC picks)), (4, .ds (mapC valC path)), (6, .bx n 0), (7, .bx (n + 1) 0), (10, .bx (n + 2) 0), (11, .bx (n + 3) 0), (12, .b (lsL fs tn tw picks path p.1)), (13, .i .i64 p.1)],
      (n+3,.bx [.i .i64 5,.i .i64 0,.s ⟨#[]⟩,.rw (n+4) p.1 p.1,.e0])::(n+4,.rw p.1 5 (mapC valC (lsO fs tn tw picks path p.1)))::(n+2,.bx [.i .i64 0,.i .i64 0,.s ⟨#[]⟩,.e0,.e0])::(n+1,.bx [.i .i64 v.k,.i .i64 v.n,.s v.s,.ds (mapC valC v.items),.ds (stC v.keys)])::(n,.bx [.s tn,.ds (mapC in1 tw)]) ::
      (kp,.rw (gp+(lsP fs tn tw picks path p.1).length) 2 (mapC prbC (P++lsP fs tn tw picks path p.1)))::(c,.bx [.ds (mapC dfC doc),.rw kp (gp+(lsP fs tn tw picks path p.1).length) (P.length+(lsP fs tn tw picks path p.1).length)])::hp,p.2⟩)
    (fun p => p.1 ≤ v.items.length ∧ n + 5 ≤ p.2) (fun p => v.items.length - p.1) (0, n + 5) ?_ ?_ (fun ⟨j, k⟩ hj => ?_)
  . exact ⟨by simp, by simp⟩
  . refine (weak_b0 (c := n + 3) (i := 3) (m := 5) (cs := [.i .i64 5, .i .i64 0, .s ⟨#[]⟩, .e0, .e0]) ?_ rfl).trans (weak_ok ?_ (SubX.sub (SubX.cons ?_ (SubX.cons ?_ (SubX.cons ?_ (SubX.cons ?_ (SubX.cons ?_ (SubX.cons ?_ (SubX.cons ?_ (SubX.base hf fun i hi hx => ?_))))))))) (Nat.le_refl _))
    all_goals first
      | (simp only [List.mem_cons, List.not_mem_nil, or_false, not_or] at hx
         simp only [gc_cons]
         repeat rw [if_neg (by omega)]
         done)
      | ((simp (disch := omega) only [ite_ne, lsP, lsO, lsL, lsD, lsR, List.take_zero, List.flatMap_nil, List.map_nil, List.append_nil, hc, hk, go_sem, ↓reduceIte, Nat.reduceEqDiff, Nat.reduceBEq, Nat.reduceAdd, Nat.reduceLeDiff, Nat.reduceLT, reduceCtorEq, Nat.reduceMul, Nat.reduceSub, Int.reduceEq, Int.reduceLT, Int.reduceLE, Int.reduceToNat])
         first | done | rfl | (simp;done))
  dsimp only at hj
  obtain ⟨hj1,hj2⟩:=hj
  have oL : (lsO fs tn tw picks path j).length = j := lsO_len (by omega)
  simp (disch:=omega) only [ite_ne,oL,go_sem,↓reduceIte,Za,Zb,Zc,Zd,Ze,reduceCtorEq,Zf,Zg,Zh,Zi,Zj,Zk]
  refine cdK_of (fun q=>?_) (fun q=>?_)
  . have q : j < v.items.length := by simpa using q
    obtain ⟨x, ex⟩ : ∃ x, v.items[j]? = some x := ⟨v.items[j], by simp [q]⟩
    have hx:=h x (zla ex)
    have ef : fs[j]? = some (cplV doc x) := by rw [← hfs, List.getElem?_map, ex]; rfl
    have e1:=lsP_step (tn:=tn) (tw:=tw) (picks:=picks) (path:=path) ef
    have e2:=lsO_step (tn:=tn) (tw:=tw) (picks:=picks) (path:=path) ef
    have e3:=lsL_step (tn:=tn) (tw:=tw) (picks:=picks) (path:=path) ef
    have hle := hPle (j + 1) (by omega)
    have hwx : wtV x < wtV v := by have := wtL_mem (List.mem_of_getElem? ex); rw [wtV_eq v]; omega
    have hD := hx tn tw picks (path ++ [inV (j : Nat)]) htw hpk (by simp; omega)
    rw [e1,zld] at hle
    obtain ⟨X,hX⟩:∃X,cplV doc x tn tw picks (path++[inV (j:Nat)])=X:=⟨_,rfl⟩
    rw [hX] at hD e1 e2 e3 hle
    simp (disch:=omega) only [ite_ne,q,getK_s (mapC_get valC ex),go_sem,↓reduceIte,Za,Zb,Zc,Zd,Ze,reduceCtorEq,Zf,Zg,Zh,Zi,Zj,Zk]
    refine dCallR.f (fun _ hp' e => (down_ok path hpl (inV j) _ _).cv rfl) ?_
    simp (disch:=omega) only [ite_ne,go_sem,↓reduceIte,Za,Zb,Zc,Zd,Ze,reduceCtorEq,Zf,Zg,Zh,Zi,Zj,Zk]
    refine dCallR.w (ws := wsR doc c kp (gp + (lsP fs tn tw picks path j).length) (P ++ lsP fs tn tw picks path j) X.2) (wsOk_wsR ⟨?_, ?_⟩ (by omega) (by omega)) rfl
      (fun hp' e => hD hp' c kp _ (P ++ lsP fs tn tw picks path j) _ ⟨(e c (.inl (by omega))).trans ?_, (e kp (.inl (by omega))).trans ?_⟩ (by rw [List.length_append]; omega)) ?_
    case refine_5 =>
      simp only [wsR,List.cons_append,List.nil_append]
      simp (disch:=omega) only [ite_ne,oL,go_sem,↓reduceIte,Za,Zb,Zc,Zd,Ze,reduceCtorEq,Zf,Zg,Zh,Zi,Zj,Zk]
      refine ⟨⟨⟨by omega, by omega⟩, by omega, by omega⟩, by omega, by omega, (j + 1, _), ⟨by dsimp only; omega, by dsimp only; omega⟩, by dsimp only; omega,
        weak_ok ?_ (SubX.sub (SubX.cons ?_ (SubX.cons ?_ (SubX.cons ?_ (SubX.cons ?_ (SubX.cons ?_ (SubX.cons ?_ (SubX.cons ?_ (SubX.base hf fun i hi hx=>?_))))))))) (zna _)⟩
      all_goals first
        | (simp only [List.mem_cons, List.not_mem_nil, or_false, not_or] at hx
           simp only [gc_cons]
           repeat rw [if_neg (by omega)]
           done)
        | ((simp (disch := omega) only [ite_ne, e1, e2, e3, wr64s j (by omega), List.length_append, List.append_assoc, Nat.add_assoc, List.length_cons, List.length_nil, go_sem, ↓reduceIte, Nat.reduceEqDiff, Nat.reduceBEq, Nat.reduceAdd, Nat.reduceLeDiff, Nat.reduceLT, reduceCtorEq, Nat.reduceMul, Nat.reduceSub, Int.reduceEq, Int.reduceLT, Int.reduceLE, Int.reduceToNat])
           first | done | rfl | (simp;done))
    all_goals (simp (disch:=omega) only [ite_ne,zld,go_sem,↓reduceIte,Za,Zb,Zc,Zd,Ze,reduceCtorEq,Zf,Zg,Zh,Zi,Zj,Zk])
  . have q : j = v.items.length := by simp at q; omega
    subst q
    simp (disch:=omega) only [ite_ne,hRP,go_sem,↓reduceIte,Za,Zb,Zc,Zd,Ze,reduceCtorEq,Zf,Zg,Zh,Zi,Zj,Zk]
    refine cdK_of (fun c1=>?_) (fun c1=>?_)
    . rw [if_pos c1] at hRV
      subst hRV
      simp (disch:=omega) only [ite_ne,go_sem,↓reduceIte,Za,Zb,Zc,Zd,Ze,reduceCtorEq,Zf,Zg,Zh,Zi,Zj,Zk]
      refine up_wsR hR ?_ ?_ fun j hj j1 j3=>?_
      all_goals (simp (disch:=omega) only [ite_ne,go_sem,↓reduceIte,Za,Zb,Zc,Zd,Ze,reduceCtorEq,Zf,Zg,Zh,Zi,Zj,Zk])
    . rw [if_neg (by simp [c1])] at hRV
      subst hRV
      simp (disch:=omega) only [ite_ne,oL,go_sem,↓reduceIte,Za,Zb,Zc,Zd,Ze,reduceCtorEq,Zf,Zg,Zh,Zi,Zj,Zk]
      refine ⟨up_wsR hR ?_ ?_ fun j hj j1 j3 => ?_, rfl, rfl, rfl, by rw [List.take_of_length_le (by omega)]; rfl, rfl⟩
      all_goals (simp (disch:=omega) only [ite_ne,go_sem,↓reduceIte,Za,Zb,Zc,Zd,Ze,reduceCtorEq,Zf,Zg,Zh,Zi,Zj,Zk])
theorem robject_of (doc:List Dfn) (v:Val) (hv:v.Fit) (h:∀x∈v.items,VlK doc x) (hz:VlK doc zVal):ObK doc v:=by
  intro on picks path h6 hw2 hpk hwt hp c kp gp P n hR hP
  rw [objR_eq] at hP ⊢
  have hlen:=hpk.len
  have hpl : path.length ≤ 1000000000000 := by omega
  obtain ⟨fs,hfs⟩:∃fs,v.items.map (cplV doc)=fs:=⟨_,rfl⟩
  rw [hfs] at hP ⊢
  dsimp only at hP ⊢
  have hPle : ∀ j, j ≤ picks.length → (obP v.keys fs on picks path j).length ≤ (obP v.keys fs on picks path picks.length).length := fun j hj => obP_le (k := picks.length - j) (by omega)
  obtain ⟨RP,hRP⟩:∃RP,obP v.keys fs on picks path picks.length=RP:=⟨_,rfl⟩
  obtain ⟨RV,hRV⟩:∃RV,(if obL v.keys fs on picks path picks.length=true then zVal else obR (obK v.keys fs on picks path picks.length) (obO v.keys fs on picks path picks.length))=RV:=⟨_,rfl⟩
  rw [hRP] at hP hPle ⊢
  rw [hRV]
  have hWS : (∀ k, n ≤ k → gc hp k = .no) → wsLt n (wsR doc c kp gp P RP) := fun hf => hR.wsLt hf
  have n2:=hR.n2
  have m2 : ¬ kp = c := fun e => n2 e.symm
  have hc:=hR.hc
  have hk:=hR.hk
  refine meetsW Tryd.func84 (by kernel_rfl) cc84 cr84 rfl hWS fun hf => ?_; unfold ck84
  obtain ⟨l1,l3⟩:=hR.lt hf
  simp (disch:=omega) only [ite_ne,go_sem,↓reduceIte,Za,Zb,Zc,Zd,Ze,reduceCtorEq,Zf,Zg,Zh,Zi,Zj,Zk]
  refine loop (fun p : Nat × Nat => ⟨[(0, .bx c 0), (1, .s on), (3, .ds (mapC pkC picks)), (4, .ds (mapC valC path)), (7, .bx n 0), (10, .bx (n + 1) 0), (11, .bx (n + 2) 0), (12, .b (obL v.keys fs on picks path p.1)), (13, .i .i64 p.1)],
      (n+2,.bx [.i .i64 6,.i .i64 0,.s ⟨#[]⟩,.rw (n+3) (obD v.keys fs on picks path p.1).length (obD v.keys fs on picks path p.1).length,.rw (n+4) (obD v.keys fs on picks path p.1).length (obD v.keys fs on picks path p.1).length])::(n+3,.rw (obD v.keys fs on picks path p.1).length 5 (mapC valC (obO v.keys fs on picks path p.1)))::(n+4,.rw (obD v.keys fs on picks path p.1).length 1 (stC (obK v.keys fs on picks path p.1))) ::
      (n+1,.bx [.i .i64 0,.i .i64 0,.s ⟨#[]⟩,.e0,.e0])::(n,.bx [.i .i64 v.k,.i .i64 v.n,.s v.s,.ds (mapC valC v.items),.ds (stC v.keys)]) ::
      (kp,.rw (gp+(obP v.keys fs on picks path p.1).length) 2 (mapC prbC (P++obP v.keys fs on picks path p.1)))::(c,.bx [.ds (mapC dfC doc),.rw kp (gp+(obP v.keys fs on picks path p.1).length) (P.length+(obP v.keys fs on picks path p.1).length)])::hp,p.2⟩)
    (fun p => p.1 ≤ picks.length ∧ n + 5 ≤ p.2) (fun p => picks.length - p.1) (0, n + 5) ?_ ?_ (fun ⟨j, k⟩ hj => ?_)
  . exact ⟨by simp, by simp⟩
  . refine ((weak_b0 (c := n + 2) (i := 3) (m := 5) (cs := [.i .i64 6, .i .i64 0, .s ⟨#[]⟩, .e0, .e0]) ?_ rfl).trans (weak_b0 (c := n + 2) (i := 4) (m := 1) (cs := [.i .i64 6, .i .i64 0, .s ⟨#[]⟩, .rw (n + 3) 0 0, .e0]) ?_ rfl)).trans
      (weak_ok ?_ (SubX.sub (SubX.cons ?_ (SubX.cons ?_ (SubX.cons ?_ (SubX.cons ?_ (SubX.cons ?_ (SubX.cons ?_ (SubX.cons ?_ (SubX.base hf fun i hi hx=>?_))))))))) (zna _))
    all_goals first
      | (simp only [List.mem_cons, List.not_mem_nil, or_false, not_or] at hx
         simp only [gc_cons]
         repeat rw [if_neg (by omega)]
         done)
      | ((simp (disch := omega) only [ite_ne, obP, obO, obK, obL, obD, obS, List.take_zero, List.filter_nil, List.flatMap_nil, List.map_nil, List.append_nil, hc, hk, go_sem, ↓reduceIte, Nat.reduceEqDiff, Nat.reduceBEq, Nat.reduceAdd, Nat.reduceLeDiff, Nat.reduceLT, reduceCtorEq, Nat.reduceMul, Nat.reduceSub, Int.reduceEq, Int.reduceLT, Int.reduceLE, Int.reduceToNat])
         first | done | rfl | (simp;done))
  dsimp only at hj
  obtain ⟨hj1,hj2⟩:=hj
  have oL:=obO_len (ks:=v.keys) (fs:=fs) (on:=on) (picks:=picks) (path:=path) j
  have kL:=obK_len (ks:=v.keys) (fs:=fs) (on:=on) (picks:=picks) (path:=path) j
  have dL:=obD_len (ks:=v.keys) (fs:=fs) (on:=on) (picks:=picks) (path:=path) j
  simp (disch:=omega) only [ite_ne,oL,kL,go_sem,↓reduceIte,Za,Zb,Zc,Zd,Ze,reduceCtorEq,Zf,Zg,Zh,Zi,Zj,Zk]
  refine cdK_of (fun q=>?_) (fun q=>?_)
  . have q : j < picks.length := by simpa using q
    obtain ⟨p, ex⟩ : ∃ p, picks[j]? = some p := ⟨picks[j], by simp [q]⟩
    have hpm:=zla ex
    have e0:=obD_step (ks:=v.keys) (fs:=fs) (on:=on) (path:=path) ex
    simp (disch:=omega) only [ite_ne,q,getK_s (mapC_get pkC ex),go_sem,↓reduceIte,Za,Zb,Zc,Zd,Ze,reduceCtorEq,Zf,Zg,Zh,Zi,Zj,Zk]
    refine cdK_of (fun c1=>?_) (fun c1=>?_)
    . have c1 : ¬ p.on = on := by simpa using c1
      rw [if_neg c1] at e0
      have e1 : obP v.keys fs on picks path (j + 1) = obP v.keys fs on picks path j := by unfold obP; rw [e0]
      have e2 : obO v.keys fs on picks path (j + 1) = obO v.keys fs on picks path j := by unfold obO; rw [e0]
      have e3 : obK v.keys fs on picks path (j + 1) = obK v.keys fs on picks path j := by unfold obK; rw [e0]
      have e4 : obL v.keys fs on picks path (j + 1) = obL v.keys fs on picks path j := by unfold obL; rw [e0]
      have e5:=e0
      simp (disch:=omega) only [ite_ne,go_sem,↓reduceIte,Za,Zb,Zc,Zd,Ze,reduceCtorEq,Zf,Zg,Zh,Zi,Zj,Zk]
      refine ⟨(j + 1, _), ⟨by dsimp only; omega, by dsimp only; omega⟩, by dsimp only; omega,
        weak_ok ?_ (SubX.sub (SubX.cons ?_ (SubX.cons ?_ (SubX.cons ?_ (SubX.cons ?_ (SubX.cons ?_ (SubX.cons ?_ (SubX.cons ?_ (SubX.base hf fun i hi hx=>?_))))))))) (zna _)⟩
      all_goals first
        | (simp only [List.mem_cons, List.not_mem_nil, or_false, not_or] at hx
           simp only [gc_cons]
           repeat rw [if_neg (by omega)]
           done)
        | ((simp (disch := omega) only [ite_ne, e1, e2, e3, e4, e5, wr64s j (by omega), List.length_append, List.append_assoc, Nat.add_assoc, List.length_cons, List.length_nil, go_sem, ↓reduceIte, Nat.reduceEqDiff, Nat.reduceBEq, Nat.reduceAdd, Nat.reduceLeDiff, Nat.reduceLT, reduceCtorEq, Nat.reduceMul, Nat.reduceSub, Int.reduceEq, Int.reduceLT, Int.reduceLE, Int.reduceToNat])
           first | done | rfl | (simp;done))
    . have c1 : p.on = on := by simpa using c1
      rw [if_pos c1,←hfs,itF_get doc v h6] at e0
      obtain ⟨y,hy⟩:∃y,(getV v p.key).getD zVal=y:=⟨_,rfl⟩
      have hget:=rget_ok v hv p.key
      rw [resV_eq,hy] at hget
      rw [hy,hfs] at e0
      have hyk:VlK doc y∧wtV y<wtV v:=by
        rw [←hy]
        cases eg:getV v p.key with
        | none =>
          refine ⟨hz,?_⟩
          have : wtV (Option.getD (none : Option Val) zVal) = 1 := by rw [wtV_eq]; rfl
          omega
        | some x =>
          have hm:=getV_mem eg
          refine ⟨h x hm,?_⟩
          have:=wtL_mem hm
          show wtV x<wtV v
          rw [wtV_eq v]
          omega
      obtain ⟨hyk,hyw⟩:=hyk
      have hD := hyk p.tn p.tw p.picks (path ++ [txV p.key]) (hpk.t hpm) (hpk.x hpm) (by simp; omega)
      obtain ⟨X,hX⟩:∃X,cplV doc y p.tn p.tw p.picks (path++[txV p.key])=X:=⟨_,rfl⟩
      rw [hX] at hD e0
      have e1 : obP v.keys fs on picks path (j + 1) = obP v.keys fs on picks path j ++ X.2 := by unfold obP; rw [e0, List.flatMap_append]; simp
      have e2 : obO v.keys fs on picks path (j + 1) = obO v.keys fs on picks path j ++ [X.1] := by unfold obO; rw [e0, List.map_append]; rfl
      have e3 : obK v.keys fs on picks path (j + 1) = obK v.keys fs on picks path j ++ [p.key] := by unfold obK; rw [e0, List.map_append]; rfl
      have e4 : obL v.keys fs on picks path (j + 1) = (obL v.keys fs on picks path j || lostB p.tw X.1) := by unfold obL; rw [e0, List.any_append]; simp
      have e5 : (obD v.keys fs on picks path (j + 1)).length = (obD v.keys fs on picks path j).length + 1 := by rw [e0]; simp
      have hle := hPle (j + 1) (by omega)
      rw [e1,zld] at hle
      simp (disch:=omega) only [ite_ne,q,getK_s (mapC_get pkC ex),go_sem,↓reduceIte,Za,Zb,Zc,Zd,Ze,reduceCtorEq,Zf,Zg,Zh,Zi,Zj,Zk]
      refine dCallR.f (fun _ hp' e => hget _ _) ?_
      simp (disch:=omega) only [ite_ne,q,getK_s (mapC_get pkC ex),go_sem,↓reduceIte,Za,Zb,Zc,Zd,Ze,reduceCtorEq,Zf,Zg,Zh,Zi,Zj,Zk]
      refine ⟨by omega, dCallR.f (fun _ hp' e => (down_ok path hpl (txV p.key) _ _).cv rfl) ?_⟩
      simp (disch:=omega) only [ite_ne,go_sem,↓reduceIte,Za,Zb,Zc,Zd,Ze,reduceCtorEq,Zf,Zg,Zh,Zi,Zj,Zk]
      refine dCallR.w (ws := wsR doc c kp (gp + (obP v.keys fs on picks path j).length) (P ++ obP v.keys fs on picks path j) X.2) (wsOk_wsR ⟨?_, ?_⟩ (by omega) (by omega)) rfl
        (fun hp' e => hD hp' c kp _ (P ++ obP v.keys fs on picks path j) _ ⟨(e c (.inl (by omega))).trans ?_, (e kp (.inl (by omega))).trans ?_⟩ (by rw [List.length_append]; omega)) ?_
      case refine_5 =>
        simp only [wsR,List.cons_append,List.nil_append]
        simp (disch:=omega) only [ite_ne,oL,kL,q,getK_s (mapC_get pkC ex),go_sem,↓reduceIte,Za,Zb,Zc,Zd,Ze,reduceCtorEq,Zf,Zg,Zh,Zi,Zj,Zk]
        refine ⟨⟨by omega, by omega⟩, ⟨by omega, by omega⟩, by omega, by omega, (j + 1, _), ⟨by dsimp only; omega, by dsimp only; omega⟩, by dsimp only; omega,
          weak_ok ?_ (SubX.sub (SubX.cons ?_ (SubX.cons ?_ (SubX.cons ?_ (SubX.cons ?_ (SubX.cons ?_ (SubX.cons ?_ (SubX.cons ?_ (SubX.base hf fun i hi hx=>?_))))))))) (zna _)⟩
        all_goals first
          | (simp only [List.mem_cons, List.not_mem_nil, or_false, not_or] at hx
             simp only [gc_cons]
             repeat rw [if_neg (by omega)]
             done)
          | ((simp (disch := omega) only [ite_ne, e1, e2, e3, e4, e5, wr64s j (by omega), List.length_append, List.append_assoc, Nat.add_assoc, List.length_cons, List.length_nil, go_sem, ↓reduceIte, Nat.reduceEqDiff, Nat.reduceBEq, Nat.reduceAdd, Nat.reduceLeDiff, Nat.reduceLT, reduceCtorEq, Nat.reduceMul, Nat.reduceSub, Int.reduceEq, Int.reduceLT, Int.reduceLE, Int.reduceToNat])
             first | done | rfl | (simp;done))
      all_goals (simp (disch:=omega) only [ite_ne,zld,go_sem,↓reduceIte,Za,Zb,Zc,Zd,Ze,reduceCtorEq,Zf,Zg,Zh,Zi,Zj,Zk])
  . have q : j = picks.length := by simp at q; omega
    subst q
    simp (disch:=omega) only [ite_ne,hRP,go_sem,↓reduceIte,Za,Zb,Zc,Zd,Ze,reduceCtorEq,Zf,Zg,Zh,Zi,Zj,Zk]
    refine cdK_of (fun c1=>?_) (fun c1=>?_)
    . rw [if_pos c1] at hRV
      subst hRV
      simp (disch:=omega) only [ite_ne,go_sem,↓reduceIte,Za,Zb,Zc,Zd,Ze,reduceCtorEq,Zf,Zg,Zh,Zi,Zj,Zk]
      refine up_wsR hR ?_ ?_ fun j hj j1 j3=>?_
      all_goals (simp (disch:=omega) only [ite_ne,go_sem,↓reduceIte,Za,Zb,Zc,Zd,Ze,reduceCtorEq,Zf,Zg,Zh,Zi,Zj,Zk])
    . rw [if_neg (by simp [c1])] at hRV
      subst hRV
      simp (disch:=omega) only [ite_ne,oL,kL,go_sem,↓reduceIte,Za,Zb,Zc,Zd,Ze,reduceCtorEq,Zf,Zg,Zh,Zi,Zj,Zk]
      refine ⟨up_wsR hR ?_ ?_ fun j hj j1 j3 => ?_, rfl, rfl, rfl, by rw [List.take_of_length_le (by omega)]; rfl, by rw [List.take_of_length_le (by omega)]; rfl⟩
      all_goals (simp (disch:=omega) only [ite_ne,go_sem,↓reduceIte,Za,Zb,Zc,Zd,Ze,reduceCtorEq,Zf,Zg,Zh,Zi,Zj,Zk])
theorem val_ok (doc:List Dfn) (hd:DocOk doc) (v:Val):v.Fit→v.Rng→VlK doc v:=by
 have hzf:zVal.Fit:=zval_fit
 have hzr:zVal.Rng:=.mk _ (by decide) (by decide) (by simp [zVal,Val.items_mk])
 have hz:VlK doc zVal:=by
  refine value_of doc zVal (rnullable_of doc hd zVal hzf hzr.l hzr.u (rlist_of doc zVal hzf fun x hx=>?_) ?_)
  .simp [zVal,Val.items_mk] at hx
  .intro on picks path h6
   simp [zVal,Val.k_mk] at h6
 exact Val.ind (Q:=fun v=>v.Fit→v.Rng→VlK doc v) (fun v ih hv hr=>value_of doc v (rnullable_of doc hd v hv hr.l hr.u (rlist_of doc v hv fun x hx=>ih x hx (hv.x hx) (hr.x hx)) (robject_of doc v hv (fun x hx=>ih x hx (hv.x hx) (hr.x hx)) hz))) v
end Go.Proofs.YtgollgfifnmaaaaDoor
