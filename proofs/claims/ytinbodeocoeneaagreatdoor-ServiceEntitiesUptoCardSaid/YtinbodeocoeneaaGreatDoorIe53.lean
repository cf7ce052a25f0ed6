/- Proof. Conditions: none. -/
import Derived.Test.YtinbodeocoeneaaGreatDoorIe52
open Nat renaming reduceEqDiff→Za,reduceBEq→Zb,reduceAdd→Zc,reduceLeDiff→Zd,reduceLT→Ze,reduceMul→Zf,reduceSub→Zg
open Int renaming reduceEq→Zh,reduceLT→Zi,reduceLE→Zj,reduceToNat→Zk
open List renaming take_of_length_le→zlk
open Nat renaming le_refl→zna
namespace Go.Proofs.YtinbodeocoeneaaGreatDoor
open Go.Eng
set_option linter.all false
set_option maxRecDepth 20000
set_option maxHeartbeats 4000000
theorem gRoot_ok (gn:ByteArray) (g:List Dfn) (hg:g.length≤1048576) (hgf:∀t∈g,t.fields.length≤1000000000000) (s:Sup) (hs:SOk s) (d:Dat) {B:Nat} (hd:DOk d B) (kd:Int) (l:List Pk) (hl:l.length≤1048576) (hpo:∀x∈l,x.Ok) (hB:kd=2→B+l.length*d.w.length≤100000000000) (hp:CH) (m:Nat) :
    MeetsF Tryz.prog 24 hp m [grx gn g,supx s,dx d,.i .i64 kd,.ds (mapC pkC l)] (.tp [vx (sRunV g s d kd l).1,dx (sRunV g s d kd l).2]):=by
  have hRt:=rRoot_ok' kd
  have hCl:=rCloneF_ok d hd.f.f hd.f.w
  rw [sRunV]
  obtain ⟨mu,hmu⟩:∃mu,decide (kd=2)=mu:=⟨_,rfl⟩
  have hB : mu = true → B + l.length * d.w.length ≤ 100000000000 := fun h => hB (by rw [← hmu] at h; simpa using h)
  obtain ⟨root,hroot⟩:∃root,rootS kd=root:=⟨_,rfl⟩
  rw [hroot] at hRt ⊢
  rw [hmu]
  have hinv:=sRunL_inv g s mu root d l hd hB
  have hlen:=sRunL_len g s mu root d l
  have hstep := fun j x (h : l[j]? = some x) => sRunL_step (g := g) (s := s) (mu := mu) (root := root) (d := d) h
  obtain ⟨RF,hRF⟩:∃RF,sRunL g s mu root d l=RF:=⟨_,rfl⟩
  rw [hRF]
  obtain ⟨I,hI⟩:∃I,itemI d root=I:=⟨_,rfl⟩
  obtain ⟨I0,hI0⟩:∃I0,(if 0≤I then I else 0)=I0:=⟨_,rfl⟩
  obtain ⟨X,hX⟩:∃X,decide (0≤I)=X:=⟨_,rfl⟩
  refine meetsF Tryz.func24 (by kernel_rfl) cc24 cr24 rfl fun hf => ?_; unfold ck24
  simp (disch:=omega) only [ite_ne,go_sem,↓reduceIte,Za,Zb,Zc,Zd,Ze,reduceCtorEq,Zf,Zg,Zh,Zi,Zj,Zk]
  refine vcCall.f (hRt _ _) ?_
  simp (disch:=omega) only [ite_ne,go_sem,↓reduceIte,Za,Zb,Zc,Zd,Ze,reduceCtorEq,Zf,Zg,Zh,Zi,Zj,Zk]
  refine vcCall.f (hCl _ _) ?_
  simp (disch:=omega) only [ite_ne,go_sem,↓reduceIte,Za,Zb,Zc,Zd,Ze,reduceCtorEq,Zf,Zg,Zh,Zi,Zj,Zk]
  refine vcCall.f (text_ok _ _ _) ?_
  simp (disch:=omega) only [ite_ne,go_sem,↓reduceIte,Za,Zb,Zc,Zd,Ze,reduceCtorEq,Zf,Zg,Zh,Zi,Zj,Zk]
  refine loop (fun q : Nat × List (ByteArray × Val) × Dat × Nat => ⟨[(3, .i .i64 kd), (4, .ds (mapC pkC l)), (5, .bx m 0), (6, .bx (m + 1) 0), (10, .bx (m + 3) 0), (11, .bx (m + 4) 0), (12, .s root), (13, .bx (m + 5) 0), (14, .bx (m + 8) 0), (15, .i .i64 q.1)],
      (m,.bx [.s gn,.ds (mapC dfC g)])::(m+1,.bx [.ds (stC s.g),.ds (mapC dfC s.doc),.ds (mapC kyC s.keys),.ds (mapC jnC s.joins)])::(m+3,.bx [.i .i64 0,.i .i64 0,.s ⟨#[]⟩,.e0,.e0])::(m+4,.bx [.e0,.e0])::(m+5,.bx [.ds (mapC itC q.2.2.1.i),.ds (mapC wrC q.2.2.1.w)]) ::
      (m+8,.bx [.i .i64 6,.i .i64 0,.s ⟨#[]⟩,.rw (m+7) q.2.1.length (q.2.1.length+1),.rw (m+6) q.2.1.length (q.2.1.length+1)])::(m+7,.rw q.2.1.length 5 (mapC valC (txV root::q.2.1.map (·.2))))::(m+6,.rw q.2.1.length 1 (stC (⟨#[95,95,116]⟩::q.2.1.map (·.1))))::hp,q.2.2.2⟩)
    (fun q => q.1 ≤ l.length ∧ m + 9 ≤ q.2.2.2 ∧ (q.2.1, q.2.2.1) = sRunL g s mu root d (l.take q.1)) (fun q => l.length - q.1) (0, [], d, m + 9) ?_ ?_ (fun ⟨j, F, D, n⟩ hj => ?_)
  . exact ⟨by simp, by simp, by dsimp only; rw [List.take_zero]; rfl⟩
  . refine weak_ok ?_ (Sub.cons ?_ (Sub.cons ?_ (Sub.cons ?_ (Sub.cons ?_ (Sub.cons ?_ (Sub.cons ?_ (Sub.cons ?_ (Sub.cons ?_ (Sub.base hf ?_))))))))) (Nat.le_refl _)
    all_goals (simp (disch:=omega) only [ite_ne,go_sem,↓reduceIte,Za,Zb,Zc,Zd,Ze,reduceCtorEq,Zf,Zg,Zh,Zi,Zj,Zk])
    all_goals rfl
  dsimp only at hj
  obtain ⟨hj1,hj2,hj3⟩:=hj
  have hmn : m ≤ n := by omega
  have hFl : F.length ≤ j := by have := hlen j; rw [← hj3] at this; exact this
  have hV:=hinv j hj1
  rw [←hj3] at hV
  obtain ⟨hI1,hI2,hI3⟩:=hV
  dsimp only at hI1 hI2 hI3
  have hIt:=rRoot_ok D hI3.f.f root
  change ∀hp m,MeetsF Tryz.prog 36 hp m [dx D,.s root] (resI (itemI D root)) at hIt
  rw [hI2,hI,resI] at hIt
  rw [hI0,hX] at hIt
  have hl1 : (F.map (·.2)).length = F.length := by simp
  have hl2 : (F.map (·.1)).length = F.length := by simp
  simp (disch:=omega) only [ite_ne,go_sem,↓reduceIte,Za,Zb,Zc,Zd,Ze,reduceCtorEq,Zf,Zg,Zh,Zi,Zj,Zk]
  refine cdK_of (fun q=>?_) (fun q=>?_)
  . have q : j < l.length := by simpa using q
    obtain ⟨x, ex⟩ : ∃ x, l[j]? = some x := ⟨l[j], by simp [q]⟩
    have hxo:=hpo x (List.mem_of_getElem? ex)
    have hst:=hstep j x ex
    rw [←hj3,sRunS] at hst
    have k1 : (F.length + 1 + 1) * 80 ≤ 140737488355328 := by omega
    have k2 : (F.length + 1 + 1) * 16 ≤ 140737488355328 := by omega
    have k3 : F.length + 1 + 1 ≤ 9223372036854775807 := by omega
    have k4 : l.length - (j + 1) < l.length - j := by omega
    simp (disch:=omega) only [ite_ne,q,getK_s (mapC_get pkC ex),hmn,go_sem,↓reduceIte,Za,Zb,Zc,Zd,Ze,reduceCtorEq,Zf,Zg,Zh,Zi,Zj,Zk]
    refine cdK_of (fun c=>?_) (fun c=>?_)
    . have c : ¬ x.on = root := by simpa using c
      rw [if_neg c] at hst
      simp (disch:=omega) only [ite_ne,hmn,go_sem,↓reduceIte,Za,Zb,Zc,Zd,Ze,reduceCtorEq,Zf,Zg,Zh,Zi,Zj,Zk]
      refine ⟨(j + 1, F, D, _), ⟨by dsimp only; omega, by dsimp only; omega, hst.symm⟩, k4, weak_ok ?_ (Sub.cons ?_ (Sub.cons ?_ (Sub.cons ?_ (Sub.cons ?_ (Sub.cons ?_ (Sub.cons ?_ (Sub.cons ?_ (Sub.cons ?_ (Sub.base hf ?_))))))))) (Nat.le_refl _)⟩
      all_goals
        simp (disch := omega) only [ite_ne, wr64s j (by omega), hmn, go_sem, ↓reduceIte, Nat.reduceEqDiff, Nat.reduceBEq, Nat.reduceAdd, Nat.reduceLeDiff, Nat.reduceLT, reduceCtorEq, Nat.reduceMul, Nat.reduceSub, Int.reduceEq, Int.reduceLT, Int.reduceLE, Int.reduceToNat]
    . have hon : x.on = root := by simpa using c
      rw [if_pos hon] at hst
      dsimp only at hst
      have hTx := rText_ok x.args (fun a h => (hxo.a.v a h).ok) (Nat.le_trans hxo.a.b (by omega)) (Nat.le_trans hxo.a.n (by omega))
      have hDf:=gdef_ok gn g hg hgf root x.name
      obtain ⟨D0,hD0⟩:∃b,defB g root x.name=b:=⟨_,rfl⟩
      rw [hD0] at hDf
      have hD'0 := sRootD_dok (g := g) (s := s) (mu := mu) (root := root) (x := x) hI3 (fun hm => by
        rw [if_pos hm,hI1]
        have:(j+1)*d.w.length≤l.length*d.w.length:=Nat.mul_le_mul_right _ q
        rw [Nat.add_mul,Nat.one_mul] at this
        have:=hB hm
        omega)
      have hDr:sRootD g s mu root D x=if (mu&&(D0&&!decide (x.name=⟨#[95,95,116,121,112,101,110,97,109,101]⟩)))=true then appV D x.name (ofL (sRootT s root D x)) else D:=by
        unfold sRootD
        rw [hD0]
        rfl
      simp (disch:=omega) only [ite_ne,hmn,hmu,go_sem,↓reduceIte,Za,Zb,Zc,Zd,Ze,reduceCtorEq,Zf,Zg,Zh,Zi,Zj,Zk]
      refine vcCall.f (hDf _ _) ?_
      simp (disch:=omega) only [ite_ne,hmn,hmu,go_sem,↓reduceIte,Za,Zb,Zc,Zd,Ze,reduceCtorEq,Zf,Zg,Zh,Zi,Zj,Zk]
      refine vcCall.f (hIt _ _) ?_
      simp (disch:=omega) only [ite_ne,hmn,hmu,go_sem,↓reduceIte,Za,Zb,Zc,Zd,Ze,reduceCtorEq,Zf,Zg,Zh,Zi,Zj,Zk]
      refine cdK_of (fun c3=>?_) (fun c3=>?_)
      . have c3' : (mu && (D0 && !decide (x.name = ⟨#[95, 95, 116, 121, 112, 101, 110, 97, 109, 101]⟩))) = true := by
          simp only [Bool.and_eq_true] at c3 ⊢
          exact ⟨c3.1.2,c3.1.1,c3.2⟩
        rw [if_pos c3'] at hDr
        obtain rfl : D0 = true := by simp only [Bool.and_eq_true] at c3'; exact c3'.2.1
        have c7:¬x.name=⟨#[95,95,116,121,112,101,110,97,109,101]⟩:=by
          simp only [Bool.and_eq_true,Bool.not_eq_true',decide_eq_false_iff_not] at c3'
          exact c3'.2.2
        cases X with
        | true =>
          have c4 : 0 ≤ I := by simpa using hX
          rw [if_pos c4] at hI0
          subst hI0
          have hTe : sRootT s root D x = sArg s D none I x := by rw [sRootT, hI2, hI, if_pos c4]
          have hEx : exB D I = true := by rw [← hI, ← hI2]; exact (itemI_ex (by rw [hI2, hI]; exact c4)).1
          have hTt:=gtext_ok gn g s hs D hI3 zVal VSm.z false I hEx x hxo.a
          rw [repO_none] at hTt
          have hAp:=rApply_ok D hI3.f x.name (ofL (sRootT s root D x))
          rw [hTe] at hAp hDr
          obtain ⟨T,hT⟩:∃T,ofL (sArg s D none I x)=T:=⟨_,rfl⟩
          rw [hT] at hAp hDr hTt
          rw [hDr] at hst hD'0
          obtain ⟨D',hD'e⟩:∃D',appV D x.name T=D':=⟨_,rfl⟩
          rw [hD'e] at hst hD'0 hAp
          have hD':=hD'0
          have hDI : itemI D' root = I := by rw [← hD'e, ← hDr, sRootD_item, hI2, hI]
          have hP:sRootP g s root D' x=if defB g root x.name=true then (if 0≤I then sPick g s D' x none I else if x.name=⟨#[95,95,116,121,112,101,110,97,109,101]⟩ then txV root else zVal) else failV sField:=by
            unfold sRootP
            rw [hDI]
            rfl
          rw [hD0] at hP
          simp (disch:=omega) only [ite_ne,hmn,go_sem,↓reduceIte,Za,Zb,Zc,Zd,Ze,reduceCtorEq,Zf,Zg,Zh,Zi,Zj,Zk]
          refine vcCall.f (hTx _ _) ?_
          simp (disch:=omega) only [ite_ne,hmn,go_sem,↓reduceIte,Za,Zb,Zc,Zd,Ze,reduceCtorEq,Zf,Zg,Zh,Zi,Zj,Zk]
          refine vcCall.f (MeetsF.cv ?_ (hTt _ _)) ?_
          . simp (disch := omega) only [ite_ne, hmn, go_sem, ↓reduceIte, Nat.reduceEqDiff, Nat.reduceBEq, Nat.reduceAdd, Nat.reduceLeDiff, Nat.reduceLT, reduceCtorEq, Nat.reduceMul, Nat.reduceSub, Int.reduceEq, Int.reduceLT, Int.reduceLE, Int.reduceToNat]
            try rfl
          simp (disch:=omega) only [ite_ne,hmn,go_sem,↓reduceIte,Za,Zb,Zc,Zd,Ze,reduceCtorEq,Zf,Zg,Zh,Zi,Zj,Zk]
          refine vcCall.f (hAp _ _) ?_
          simp (disch:=omega) only [ite_ne,hmn,go_sem,↓reduceIte,Za,Zb,Zc,Zd,Ze,reduceCtorEq,Zf,Zg,Zh,Zi,Zj,Zk]
          rw [if_pos rfl,if_pos c4] at hP
          have hRd := gpick_ok gn g hg hgf s hs D' hD' x hxo zVal VSm.z false I (by rw [← hDI]; exact (itemI_ex (by rw [hDI]; exact c4)).1)
          rw [repO_none] at hRd
          rw [hP] at hst
          obtain ⟨P,hPe⟩:∃P,sPick g s D' x none I=P:=⟨_,rfl⟩
          rw [hPe] at hst hRd
          refine vcCall.f (MeetsF.cv ?_ (hRd _ _)) ?_
          . simp (disch := omega) only [ite_ne, hmn, go_sem, ↓reduceIte, Nat.reduceEqDiff, Nat.reduceBEq, Nat.reduceAdd, Nat.reduceLeDiff, Nat.reduceLT, reduceCtorEq, Nat.reduceMul, Nat.reduceSub, Int.reduceEq, Int.reduceLT, Int.reduceLE, Int.reduceToNat]
            try rfl
          simp (disch:=omega) only [ite_ne,hl1,hl2,k1,k2,k3,hmn,go_sem,↓reduceIte,Za,Zb,Zc,Zd,Ze,reduceCtorEq,Zf,Zg,Zh,Zi,Zj,Zk]
          refine ⟨(j + 1, F ++ [(x.key, P)], D', _), ⟨by dsimp only; omega, by dsimp only; omega, hst.symm⟩, k4, weak_ok ?_ (Sub.cons ?_ (Sub.cons ?_ (Sub.cons ?_ (Sub.cons ?_ (Sub.cons ?_ (Sub.cons ?_ (Sub.cons ?_ (Sub.cons ?_ (Sub.base hf ?_))))))))) (Nat.le_refl _)⟩
          all_goals
            simp (disch := omega) only [ite_ne, wr64s j (by omega), hmn, List.length_append, List.length_cons, List.length_nil, List.map_append, List.map_cons, List.map_nil, go_sem, ↓reduceIte, Nat.reduceEqDiff, Nat.reduceBEq, Nat.reduceAdd, Nat.reduceLeDiff, Nat.reduceLT, reduceCtorEq, Nat.reduceMul, Nat.reduceSub, Int.reduceEq, Int.reduceLT, Int.reduceLE, Int.reduceToNat]
        | false =>
          have c4 : ¬ 0 ≤ I := by simpa using hX
          have hTe : sRootT s root D x = argsL x.args := by rw [sRootT, hI2, hI, if_neg c4]
          have hAp:=rApply_ok D hI3.f x.name (ofL (sRootT s root D x))
          rw [hTe] at hAp hDr
          obtain ⟨T,hT⟩:∃T,ofL (argsL x.args)=T:=⟨_,rfl⟩
          rw [hT] at hAp hDr hTx
          rw [hDr] at hst hD'0
          obtain ⟨D',hD'e⟩:∃D',appV D x.name T=D':=⟨_,rfl⟩
          rw [hD'e] at hst hD'0 hAp
          have hD':=hD'0
          have hDI : itemI D' root = I := by rw [← hD'e, ← hDr, sRootD_item, hI2, hI]
          have hP:sRootP g s root D' x=if defB g root x.name=true then (if 0≤I then sPick g s D' x none I else if x.name=⟨#[95,95,116,121,112,101,110,97,109,101]⟩ then txV root else zVal) else failV sField:=by
            unfold sRootP
            rw [hDI]
            rfl
          rw [hD0] at hP
          rw [if_pos rfl,if_neg c4,if_neg c7] at hP
          simp (disch:=omega) only [ite_ne,hmn,go_sem,↓reduceIte,Za,Zb,Zc,Zd,Ze,reduceCtorEq,Zf,Zg,Zh,Zi,Zj,Zk]
          refine vcCall.f (hTx _ _) ?_
          simp (disch:=omega) only [ite_ne,hmn,go_sem,↓reduceIte,Za,Zb,Zc,Zd,Ze,reduceCtorEq,Zf,Zg,Zh,Zi,Zj,Zk]
          refine vcCall.f (hAp _ _) ?_
          have c8 : decide (x.name = ⟨#[95, 95, 116, 121, 112, 101, 110, 97, 109, 101]⟩) = false := by simp [c7]
          simp (disch:=omega) only [ite_ne,hmn,c8,hl1,hl2,k1,k2,k3,go_sem,↓reduceIte,Za,Zb,Zc,Zd,Ze,reduceCtorEq,Zf,Zg,Zh,Zi,Zj,Zk]
          rw [hP] at hst
          have hz:mapC valC (F.map (·.2))++[[AV.i .i64 0,.i .i64 0,.s ⟨#[]⟩,.ds [],.ds []]]=mapC valC (F.map (·.2)++[zVal]):=mapC_snoc valC _ zVal
          refine ⟨(j + 1, F ++ [(x.key, zVal)], D', _), ⟨by dsimp only; omega, by dsimp only; omega, hst.symm⟩, k4, weak_ok ?_ (Sub.cons ?_ (Sub.cons ?_ (Sub.cons ?_ (Sub.cons ?_ (Sub.cons ?_ (Sub.cons ?_ (Sub.cons ?_ (Sub.cons ?_ (Sub.base hf ?_))))))))) (Nat.le_refl _)⟩
          all_goals
            simp (disch := omega) only [ite_ne, wr64s j (by omega), hmn, hz, List.length_append, List.length_cons, List.length_nil, List.map_append, List.map_cons, List.map_nil, go_sem, ↓reduceIte, Nat.reduceEqDiff, Nat.reduceBEq, Nat.reduceAdd, Nat.reduceLeDiff, Nat.reduceLT, reduceCtorEq, Nat.reduceMul, Nat.reduceSub, Int.reduceEq, Int.reduceLT, Int.reduceLE, Int.reduceToNat]
      . have c3' : ¬ (mu && (D0 && !decide (x.name = ⟨#[95, 95, 116, 121, 112, 101, 110, 97, 109, 101]⟩))) = true := by
          intro h
          simp only [Bool.and_eq_true] at h
          rw [Bool.eq_false_iff] at c3
          exact c3 (by simp only [Bool.and_eq_true]; exact ⟨⟨h.2.1, h.1⟩, h.2.2⟩)
        rw [if_neg c3'] at hDr
        rw [hDr] at hst hD'0
        obtain ⟨D',hD'e⟩:∃D',D=D':=⟨_,rfl⟩
        rw [hD'e] at hst hD'0
        have hD':=hD'0
        rw [hD'e]
        have hDI : itemI D' root = I := by rw [← hD'e, ← hDr, sRootD_item, hI2, hI]
        have hP:sRootP g s root D' x=if defB g root x.name=true then (if 0≤I then sPick g s D' x none I else if x.name=⟨#[95,95,116,121,112,101,110,97,109,101]⟩ then txV root else zVal) else failV sField:=by
          unfold sRootP
          rw [hDI]
          rfl
        rw [hD0] at hP
        cases D0 with
        | false =>
          simp (disch:=omega) only [ite_ne,hmn,go_sem,↓reduceIte,Za,Zb,Zc,Zd,Ze,reduceCtorEq,Zf,Zg,Zh,Zi,Zj,Zk]
          rw [if_neg (by simp)] at hP
          rw [hP] at hst
          obtain ⟨P,hPe⟩:∃P,failV sField=P:=⟨_,rfl⟩
          have hFl2:=gfail_ok sField
          unfold sField at hFl2
          have hFl2 : ∀ hp m, MeetsF Tryz.prog 65 hp m [.s ⟨#[102, 105, 101, 108, 100]⟩] (vx P) := by rw [← hPe]; exact hFl2
          rw [hPe] at hst
          refine vcCall.f (hFl2 _ _) ?_
          simp (disch:=omega) only [ite_ne,hl1,hl2,k1,k2,k3,hmn,go_sem,↓reduceIte,Za,Zb,Zc,Zd,Ze,reduceCtorEq,Zf,Zg,Zh,Zi,Zj,Zk]
          refine ⟨(j + 1, F ++ [(x.key, P)], D', _), ⟨by dsimp only; omega, by dsimp only; omega, hst.symm⟩, k4, weak_ok ?_ (Sub.cons ?_ (Sub.cons ?_ (Sub.cons ?_ (Sub.cons ?_ (Sub.cons ?_ (Sub.cons ?_ (Sub.cons ?_ (Sub.cons ?_ (Sub.base hf ?_))))))))) (Nat.le_refl _)⟩
          all_goals
            simp (disch := omega) only [ite_ne, wr64s j (by omega), hmn, List.length_append, List.length_cons, List.length_nil, List.map_append, List.map_cons, List.map_nil, go_sem, ↓reduceIte, Nat.reduceEqDiff, Nat.reduceBEq, Nat.reduceAdd, Nat.reduceLeDiff, Nat.reduceLT, reduceCtorEq, Nat.reduceMul, Nat.reduceSub, Int.reduceEq, Int.reduceLT, Int.reduceLE, Int.reduceToNat]
        | true =>
          cases X with
          | true =>
            have c4 : 0 ≤ I := by simpa using hX
            rw [if_pos c4] at hI0
            subst hI0
            simp (disch:=omega) only [ite_ne,hmn,go_sem,↓reduceIte,Za,Zb,Zc,Zd,Ze,reduceCtorEq,Zf,Zg,Zh,Zi,Zj,Zk]
            rw [if_pos rfl,if_pos c4] at hP
            have hRd := gpick_ok gn g hg hgf s hs D' hD' x hxo zVal VSm.z false I (by rw [← hDI]; exact (itemI_ex (by rw [hDI]; exact c4)).1)
            rw [repO_none] at hRd
            rw [hP] at hst
            obtain ⟨P,hPe⟩:∃P,sPick g s D' x none I=P:=⟨_,rfl⟩
            rw [hPe] at hst hRd
            refine vcCall.f (MeetsF.cv ?_ (hRd _ _)) ?_
            . simp (disch := omega) only [ite_ne, hmn, go_sem, ↓reduceIte, Nat.reduceEqDiff, Nat.reduceBEq, Nat.reduceAdd, Nat.reduceLeDiff, Nat.reduceLT, reduceCtorEq, Nat.reduceMul, Nat.reduceSub, Int.reduceEq, Int.reduceLT, Int.reduceLE, Int.reduceToNat]
              try rfl
            simp (disch:=omega) only [ite_ne,hl1,hl2,k1,k2,k3,hmn,go_sem,↓reduceIte,Za,Zb,Zc,Zd,Ze,reduceCtorEq,Zf,Zg,Zh,Zi,Zj,Zk]
            refine ⟨(j + 1, F ++ [(x.key, P)], D', _), ⟨by dsimp only; omega, by dsimp only; omega, hst.symm⟩, k4, weak_ok ?_ (Sub.cons ?_ (Sub.cons ?_ (Sub.cons ?_ (Sub.cons ?_ (Sub.cons ?_ (Sub.cons ?_ (Sub.cons ?_ (Sub.cons ?_ (Sub.base hf ?_))))))))) (Nat.le_refl _)⟩
            all_goals
              simp (disch := omega) only [ite_ne, wr64s j (by omega), hmn, List.length_append, List.length_cons, List.length_nil, List.map_append, List.map_cons, List.map_nil, go_sem, ↓reduceIte, Nat.reduceEqDiff, Nat.reduceBEq, Nat.reduceAdd, Nat.reduceLeDiff, Nat.reduceLT, reduceCtorEq, Nat.reduceMul, Nat.reduceSub, Int.reduceEq, Int.reduceLT, Int.reduceLE, Int.reduceToNat]
          | false =>
            have c4 : ¬ 0 ≤ I := by simpa using hX
            rw [if_pos rfl,if_neg c4] at hP
            simp (disch:=omega) only [ite_ne,hmn,go_sem,↓reduceIte,Za,Zb,Zc,Zd,Ze,reduceCtorEq,Zf,Zg,Zh,Zi,Zj,Zk]
            refine cdK_of (fun c5=>?_) (fun c5=>?_)
            . rw [if_pos (by simpa using c5)] at hP
              rw [hP] at hst
              obtain ⟨P,hPe⟩:∃P,txV root=P:=⟨_,rfl⟩
              have hTt:=text_ok root
              simp (disch:=omega) only [ite_ne,hmn,go_sem,↓reduceIte,Za,Zb,Zc,Zd,Ze,reduceCtorEq,Zf,Zg,Zh,Zi,Zj,Zk]
              refine vcCall.f (hTt _ _) ?_
              rw [hPe] at hst ⊢
              simp (disch:=omega) only [ite_ne,hl1,hl2,k1,k2,k3,hmn,go_sem,↓reduceIte,Za,Zb,Zc,Zd,Ze,reduceCtorEq,Zf,Zg,Zh,Zi,Zj,Zk]
              refine ⟨(j + 1, F ++ [(x.key, P)], D', _), ⟨by dsimp only; omega, by dsimp only; omega, hst.symm⟩, k4, weak_ok ?_ (Sub.cons ?_ (Sub.cons ?_ (Sub.cons ?_ (Sub.cons ?_ (Sub.cons ?_ (Sub.cons ?_ (Sub.cons ?_ (Sub.cons ?_ (Sub.base hf ?_))))))))) (Nat.le_refl _)⟩
              all_goals
                simp (disch := omega) only [ite_ne, wr64s j (by omega), hmn, List.length_append, List.length_cons, List.length_nil, List.map_append, List.map_cons, List.map_nil, go_sem, ↓reduceIte, Nat.reduceEqDiff, Nat.reduceBEq, Nat.reduceAdd, Nat.reduceLeDiff, Nat.reduceLT, reduceCtorEq, Nat.reduceMul, Nat.reduceSub, Int.reduceEq, Int.reduceLT, Int.reduceLE, Int.reduceToNat]
            . rw [if_neg (by simpa using c5)] at hP
              simp (disch:=omega) only [ite_ne,hl1,hl2,k1,k2,k3,hmn,go_sem,↓reduceIte,Za,Zb,Zc,Zd,Ze,reduceCtorEq,Zf,Zg,Zh,Zi,Zj,Zk]
              rw [hP] at hst
              have hz:mapC valC (F.map (·.2))++[[AV.i .i64 0,.i .i64 0,.s ⟨#[]⟩,.ds [],.ds []]]=mapC valC (F.map (·.2)++[zVal]):=mapC_snoc valC _ zVal
              refine ⟨(j + 1, F ++ [(x.key, zVal)], D', _), ⟨by dsimp only; omega, by dsimp only; omega, hst.symm⟩, k4, weak_ok ?_ (Sub.cons ?_ (Sub.cons ?_ (Sub.cons ?_ (Sub.cons ?_ (Sub.cons ?_ (Sub.cons ?_ (Sub.cons ?_ (Sub.cons ?_ (Sub.base hf ?_))))))))) (Nat.le_refl _)⟩
              all_goals
                simp (disch := omega) only [ite_ne, wr64s j (by omega), hmn, hz, List.length_append, List.length_cons, List.length_nil, List.map_append, List.map_cons, List.map_nil, go_sem, ↓reduceIte, Nat.reduceEqDiff, Nat.reduceBEq, Nat.reduceAdd, Nat.reduceLeDiff, Nat.reduceLT, reduceCtorEq, Nat.reduceMul, Nat.reduceSub, Int.reduceEq, Int.reduceLT, Int.reduceLE, Int.reduceToNat]
  . have q : j = l.length := by simp at q; omega
    subst q
    rw [List.take_length,hRF] at hj3
    subst hj3
    have hl3 : (F.map (·.2)).take F.length = F.map (·.2) := List.take_of_length_le (by omega)
    have hl4 : (F.map (·.1)).take F.length = F.map (·.1) := List.take_of_length_le (by omega)
    simp (disch:=omega) only [ite_ne,hl1,hl2,hl3,hl4,zna,hmn,go_sem,↓reduceIte,Za,Zb,Zc,Zd,Ze,reduceCtorEq,Zf,Zg,Zh,Zi,Zj,Zk]
    try rfl
set_option maxHeartbeats 2000000
theorem gone_ok (gn:ByteArray) (g:List Dfn) (hg:g.length≤1048576) (hgf:∀t∈g,t.fields.length≤1000000000000) (s:Sup) (hs:SOk s) (d:Dat) {B:Nat} (hd:DOk d B) (F:Fet) (hk:F.keys.length≤1048576) (hl:F.picks.length≤1048576) (hpo:∀p∈F.picks,p.Ok) (rep:Val) (hr:VSm rep) (hp:CH) (m:Nat) :
  MeetsF Tryz.prog 70 hp m [grx gn g,supx s,dx d,fetx F,vx rep] (vx (entV g s d F.typ F.keys F.key F.picks rep)):=by
 obtain ⟨R,hR⟩:∃R,entV g s d F.typ F.keys F.key F.picks rep=R:=⟨_,rfl⟩
 have e:=hR
 rw [hR]
 rw [entV] at e
 refine meetsF Tryz.func70 (by kernel_rfl) cc70 cr70 rfl fun hf=>?_;unfold ck70
 simp only [go_sem,↓reduceIte,Za,Zb,Zc,Zd,Ze,reduceCtorEq,Zf,Zg,Zh,Zi,Zj,Zk]
 refine cdK_of (fun q=>?_) (fun q=>?_)
 .rw [if_neg (by simp at q;omega)] at e
  subst e
  simp only [go_sem,↓reduceIte,Za,Zb,Zc,Zd,Ze,reduceCtorEq,Zf,Zg,Zh,Zi,Zj,Zk]
  try rfl
 have q:1≤F.key∧F.key≤F.keys.length∧rep.k=6:=by simp at q;omega
 rw [if_pos q] at e
 obtain ⟨K,hK⟩:∃K:Nat,F.key=K:=⟨F.key.toNat,by omega⟩
 have hKl:K≤F.keys.length:=by omega
 rw [hK,Int.toNat_natCast] at e
 obtain ⟨ks,hks⟩:∃ks,F.keys.take K=ks:=⟨_,rfl⟩
 have hksl:ks.length=K:=by rw [←hks,List.length_take];omega
 have hst:(stC F.keys).take K=stC ks:=by rw [←hks];simp [stC,mapC,List.map_take]
 have hsl:(stC F.keys).length=F.keys.length:=mapC_len _ _
 have hget:∀j k,ks[j]?=some k→F.keys[j]?=some k:=fun j k h=>by
  rw [←hks,List.getElem?_take] at h
  split at h
  .exact h
  .cases h
 rw [hks] at e
 have hGet:=fun k=>rget_ok rep hr.f k
 have hOb:=fun i hi=>gobject_ok gn g hg hgf s hs d hd F.picks hl hpo rep hr true i hi
 simp (disch:=omega) only [ite_ne,hK,go_sem,↓reduceIte,Za,Zb,Zc,Zd,Ze,reduceCtorEq,Zf,Zg,Zh,Zi,Zj,Zk]
 refine loop (fun q:Nat × List Val × Nat=>⟨[(5,.bx m 0),(6,.bx (m+1) 0),(7,.bx (m+2) 0),(8,.bx (m+3) 0),(9,.bx (m+4) 0),(10,.bx (m+5) 0),(11,.rw (m+6) q.1 q.1),(12,.i .i64 q.1)],
   (m,.bx [.s gn,.ds (mapC dfC g)])::(m+1,.bx [.ds (stC s.g),.ds (mapC dfC s.doc),.ds (mapC kyC s.keys),.ds (mapC jnC s.joins)])::(m+2,.bx [.ds (mapC itC d.i),.ds (mapC wrC d.w)]) ::
   (m+3,.bx [.i .i64 F.g,.i .i64 F.dep,.ds F.path,.s F.typ,.ds (stC F.keys),.i .i64 K,.ds (mapC pkC F.picks),.ds F.after])::(m+4,.bx [.i .i64 rep.k,.i .i64 rep.n,.s rep.s,.ds (mapC valC rep.items),.ds (stC rep.keys)])::(m+5,.bx [.i .i64 0,.i .i64 0,.s ⟨#[]⟩,.e0,.e0])::(m+6,.rw q.1 5 (mapC valC q.2.1))::hp,q.2.2⟩)
  (fun q=>q.1≤K∧m+7≤q.2.2∧q.2.1.length=q.1∧(∀v∈q.2.1,v.Fit)∧R=entF rep (entG g s d F.typ ks F.picks rep) (ks.drop q.1) q.2.1) (fun q=>K - q.1) (0,[],m+7) ?_ ?_ (fun ⟨j,vs,n⟩ hj=>?_)
 .exact ⟨by simp,by simp,rfl,by simp,e.symm⟩
 .refine (weak_e0 (t:=11) (m:=5) ?_).trans (weak_ok ?_ (Sub.cons ?_ (Sub.cons ?_ (Sub.cons ?_ (Sub.cons ?_ (Sub.cons ?_ (Sub.cons ?_ (Sub.cons ?_ (Sub.base hf ?_)))))))) (zna _))
  all_goals (simp (disch:=omega) only [ite_ne,hK,go_sem,↓reduceIte,Za,Zb,Zc,Zd,Ze,reduceCtorEq,Zf,Zg,Zh,Zi,Zj,Zk])
  all_goals rfl
 dsimp only at hj
 obtain ⟨hj1,hj2,hj3,hj4,hj5⟩:=hj
 have hmn:m≤n:=by omega
 simp (disch:=omega) only [ite_ne,go_sem,↓reduceIte,Za,Zb,Zc,Zd,Ze,reduceCtorEq,Zf,Zg,Zh,Zi,Zj,Zk]
 refine cdK_of (fun q=>?_) (fun q=>?_)
 .have q:j<K:=by simpa using q
  obtain ⟨k,ek⟩:∃k,ks[j]?=some k:=⟨ks[j]'(by omega),by simp [show j<ks.length by omega]⟩
  have ek2:=hget j k ek
  have q2:j<F.keys.length:=by omega
  rw [drop_at ek,entF] at hj5
  have hG:=hGet k
  rw [resV] at hG
  have k1:(j+1)*80≤140737488355328:=by omega
  have k2:j+1≤9223372036854775807:=by omega
  have hvl:(mapC valC vs).length=j:=by rw [mapC_len];omega
  have hgf2:=getV_fit hr.f k
  obtain ⟨o,ho⟩:∃o,getV rep k=o:=⟨_,rfl⟩
  rw [ho] at hG hj5 hgf2
  simp (disch:=omega) only [ite_ne,q2,getK_s (mapC_get st1 ek2),go_sem,↓reduceIte,Za,Zb,Zc,Zd,Ze,reduceCtorEq,Zf,Zg,Zh,Zi,Zj,Zk]
  refine dCallR.f (fun _ _ _=>hG _ _) ?_
  cases o with
  | none =>
   dsimp only at hj5
   subst hj5
   simp (disch:=omega) only [ite_ne,hmn,q2,getK_s (mapC_get st1 ek2),go_sem,↓reduceIte,Za,Zb,Zc,Zd,Ze,reduceCtorEq,Zf,Zg,Zh,Zi,Zj,Zk]
   try exact ⟨by omega,by omega⟩
  | some x =>
   dsimp only at hj5
   have hsn:mapC valC vs++[[AV.i .i64 x.k,.i .i64 x.n,.s x.s,.ds (mapC valC x.items),.ds (stC x.keys)]]=mapC valC (vs++[x]):=by rw [←valC_eq,mapC_snoc]
   simp (disch:=omega) only [ite_ne,hvl,hj3,k1,k2,q2,getK_s (mapC_get st1 ek2),go_sem,↓reduceIte,Za,Zb,Zc,Zd,Ze,reduceCtorEq,Zf,Zg,Zh,Zi,Zj,Zk]
   refine ⟨⟨by omega,by omega⟩,(j+1,vs++[x],_),⟨by dsimp only;omega,by dsimp only;omega,by simp [hj3],?_,hj5⟩,by dsimp only;omega,weak_ok ?_ (Sub.cons ?_ (Sub.cons ?_ (Sub.cons ?_ (Sub.cons ?_ (Sub.cons ?_ (Sub.cons ?_ (Sub.cons ?_ (Sub.base hf ?_)))))))) (zna _)⟩
   .intro v hv
    rcases List.mem_append.1 hv with hv | hv
    .exact hj4 v hv
    .rw [List.mem_singleton.1 hv];exact hgf2
   all_goals
    simp (disch:=omega) only [ite_ne,wr64s j (by omega),hsn,hmn,go_sem,↓reduceIte,Za,Zb,Zc,Zd,Ze,reduceCtorEq,Zf,Zg,Zh,Zi,Zj,Zk]
 .have q:j=K:=by simp at q;omega
  subst q
  rw [←hksl,List.drop_length,entF,entG] at hj5
  have hFd:=rFind_ok d hd.f.f F.typ ks vs (by omega) hj4
  obtain ⟨I,hI⟩:∃I,findD d F.typ ks vs=I:=⟨_,rfl⟩
  have hex:=findD_ex (d:=d) (typ:=F.typ) (ks:=ks) (vs:=vs)
  rw [hI] at hFd hj5 hex
  rw [resI] at hFd
  have hvl:(mapC valC vs).length=j:=by rw [mapC_len];omega
  obtain ⟨I0,hI0⟩:∃I0,(if 0≤I then I else 0)=I0:=⟨_,rfl⟩
  obtain ⟨X,hX⟩:∃X,decide (0≤I)=X:=⟨_,rfl⟩
  rw [hI0,hX] at hFd
  have htk:(mapC valC vs).take j=mapC valC vs:=zlk (by omega)
  simp (disch:=omega) only [ite_ne,hst,hsl,hKl,hmn,go_sem,↓reduceIte,Za,Zb,Zc,Zd,Ze,reduceCtorEq,Zf,Zg,Zh,Zi,Zj,Zk]
  refine ⟨by omega,?_⟩
  refine dCallR.f (fun _ hp' e=>MeetsF.lend (R:=[(m+6,.sh j 5 (mapC valC vs))]) (B:=[]) ⟨.inl ?_,trivial⟩ trivial ?_ rfl (hFd _ _)) ?_
  .refine (e (m+6) (.inl (by omega))).trans ?_
   simp (disch:=omega) only [ite_ne,hmn,go_sem,↓reduceIte,Za,Zb,Zc,Zd,Ze,reduceCtorEq,Zf,Zg,Zh,Zi,Zj,Zk]
  .simp (disch:=omega) only [ite_ne,hvl,htk,zna,go_sem,↓reduceIte,Za,Zb,Zc,Zd,Ze,reduceCtorEq,Zf,Zg,Zh,Zi,Zj,Zk]
   try rfl
  simp (disch:=omega) only [ite_ne,hmn,go_sem,↓reduceIte,Za,Zb,Zc,Zd,Ze,reduceCtorEq,Zf,Zg,Zh,Zi,Zj,Zk]
  cases X with
  | false =>
   have z:¬0≤I:=by simpa using hX
   rw [if_neg z] at hj5
   subst hj5
   simp (disch:=omega) only [ite_ne,hmn,go_sem,↓reduceIte,Za,Zb,Zc,Zd,Ze,reduceCtorEq,Zf,Zg,Zh,Zi,Zj,Zk]
   try rfl
  | true =>
   have z:0≤I:=by simpa using hX
   rw [if_pos z] at hj5
   rw [if_pos z] at hI0
   subst hI0
   subst hj5
   simp (disch:=omega) only [ite_ne,hmn,go_sem,↓reduceIte,Za,Zb,Zc,Zd,Ze,reduceCtorEq,Zf,Zg,Zh,Zi,Zj,Zk]
   refine vcCall.f (hOb I (hex z) _ _) ?_
   simp (disch:=omega) only [ite_ne,hmn,go_sem,↓reduceIte,Za,Zb,Zc,Zd,Ze,reduceCtorEq,Zf,Zg,Zh,Zi,Zj,Zk]
   try rfl
theorem gEnts_ok (gn:ByteArray) (g:List Dfn) (hg:g.length≤1048576) (hgf:∀t∈g,t.fields.length≤1000000000000) (s:Sup) (hs:SOk s) (d:Dat) {B:Nat} (hd:DOk d B) (F:Fet) (hk:F.keys.length≤1048576) (hl:F.picks.length≤1048576) (hpo:∀p∈F.picks,p.Ok)
  (l:List Val) (hll:l.length≤1048576) (hr:∀v∈l,VSm v) (hp:CH) (m:Nat) :
  MeetsF Tryz.prog 28 hp m [grx gn g,supx s,dx d,fetx F,.ds (mapC valC l)] (.ds (mapC valC (l.map fun r=>entV g s d F.typ F.keys F.key F.picks r))):=by
 have hE:=fun r (h:r∈l)=>gone_ok gn g hg hgf s hs d hd F hk hl hpo r (hr r h)
 obtain ⟨W,hW⟩:∃W,(fun r=>entV g s d F.typ F.keys F.key F.picks r)=W:=⟨_,rfl⟩
 have hE:∀r∈l,∀hp m,MeetsF Tryz.prog 70 hp m [grx gn g,supx s,dx d,fetx F,vx r] (vx (W r)):=by rw [←hW];exact hE
 rw [hW]
 refine meetsF Tryz.func28 (by kernel_rfl) cc28 cr28 rfl fun hf=>?_;unfold ck28
 simp only [go_sem,↓reduceIte,Za,Zb,Zc,Zd,Ze,reduceCtorEq,Zf,Zg,Zh,Zi,Zj,Zk]
 refine loop (fun q:Nat × Nat=>⟨[(4,.ds (mapC valC l)),(5,.bx m 0),(6,.bx (m+1) 0),(7,.bx (m+2) 0),(8,.bx (m+3) 0),(11,.rw (m+4) q.1 q.1),(12,.i .i64 q.1)],
   (m,.bx [.s gn,.ds (mapC dfC g)])::(m+1,.bx [.ds (stC s.g),.ds (mapC dfC s.doc),.ds (mapC kyC s.keys),.ds (mapC jnC s.joins)])::(m+2,.bx [.ds (mapC itC d.i),.ds (mapC wrC d.w)]) ::
   (m+3,.bx [.i .i64 F.g,.i .i64 F.dep,.ds F.path,.s F.typ,.ds (stC F.keys),.i .i64 F.key,.ds (mapC pkC F.picks),.ds F.after])::(m+4,.rw q.1 5 (mapC valC ((l.take q.1).map W)))::hp,q.2⟩)
  (fun q=>q.1≤l.length∧m+5≤q.2) (fun q=>l.length - q.1) (0,m+5) ?_ ?_ (fun ⟨j,n⟩ hj=>?_)
 .simp
 .refine (weak_e0 (t:=11) (m:=5) ?_).trans (weak_ok ?_ (Sub.cons ?_ (Sub.cons ?_ (Sub.cons ?_ (Sub.cons ?_ (Sub.cons ?_ (Sub.base hf ?_)))))) (zna _))
  all_goals (simp (disch:=omega) only [ite_ne,go_sem,↓reduceIte,Za,Zb,Zc,Zd,Ze,reduceCtorEq,Zf,Zg,Zh,Zi,Zj,Zk])
  all_goals rfl
 dsimp only at hj
 obtain ⟨hj1,hj2⟩:=hj
 have hmn:m≤n:=by omega
 simp (disch:=omega) only [ite_ne,go_sem,↓reduceIte,Za,Zb,Zc,Zd,Ze,reduceCtorEq,Zf,Zg,Zh,Zi,Zj,Zk]
 refine cdK_of (fun q=>?_) (fun q=>?_)
 .have q:j<l.length:=by simpa using q
  obtain ⟨x,ex⟩:∃x,l[j]?=some x:=⟨l[j],by simp [q]⟩
  have hx:=hE x (List.mem_of_getElem? ex)
  have ht:((l.take j).map W).length=j:=by simp;omega
  have hst:=map_take_snocI W ex
  have k1:(j+1)*80≤140737488355328:=by omega
  have k2:j+1≤9223372036854775807:=by omega
  simp (disch:=omega) only [ite_ne,q,getK_s (mapC_get valC ex),go_sem,↓reduceIte,Za,Zb,Zc,Zd,Ze,reduceCtorEq,Zf,Zg,Zh,Zi,Zj,Zk]
  refine dCallR.f (fun _ _ _=>hx _ _) ?_
  simp (disch:=omega) only [ite_ne,q,getK_s (mapC_get valC ex),ht,k1,k2,go_sem,↓reduceIte,Za,Zb,Zc,Zd,Ze,reduceCtorEq,Zf,Zg,Zh,Zi,Zj,Zk]
  refine ⟨(j+1,_),⟨by dsimp only;omega,by dsimp only;omega⟩,by dsimp only;omega,weak_ok ?_ (Sub.cons ?_ (Sub.cons ?_ (Sub.cons ?_ (Sub.cons ?_ (Sub.cons ?_ (Sub.base hf ?_)))))) (zna _)⟩
  all_goals
   simp (disch:=omega) only [ite_ne,wr64s j (by omega),hst,hmn,go_sem,↓reduceIte,Za,Zb,Zc,Zd,Ze,reduceCtorEq,Zf,Zg,Zh,Zi,Zj,Zk]
 .have q:j=l.length:=by simp at q;omega
  subst q
  have hl1:(l.map W).length=l.length:=by simp
  have hl2:(l.map W).take l.length=l.map W:=zlk (by omega)
  rw [List.take_length]
  simp (disch:=omega) only [ite_ne,hl1,hl2,zna,hmn,go_sem,↓reduceIte,Za,Zb,Zc,Zd,Ze,reduceCtorEq,Zf,Zg,Zh,Zi,Zj,Zk]
  try rfl
end Go.Proofs.YtinbodeocoeneaaGreatDoor
