/- Proof. Conditions: none. -/
import Derived.Test.YtinbodeocoeneaaGreatDoorIe49
open Nat renaming reduceEqDiff→Za,reduceBEq→Zb,reduceAdd→Zc,reduceLeDiff→Zd,reduceLT→Ze,reduceMul→Zf,reduceSub→Zg
open Int renaming reduceEq→Zh,reduceLT→Zi,reduceLE→Zj,reduceToNat→Zk
open List renaming mem_of_getElem?→zla,length_nil→zle
open Nat renaming le_refl→zna,le_trans→znc
namespace Go.Proofs.YtinbodeocoeneaaGreatDoor
open Go.Eng
set_option linter.all false
set_option maxRecDepth 20000
set_option maxHeartbeats 4000000
theorem vRoot_ok (gn:ByteArray) (g:List Dfn) (hg:g.length≤1048576) (hgf:∀t∈g,t.fields.length≤1000000000000) (s:Sup) (hs:SOk s) (d:Dat) {B:Nat} (hd:DOk d B) (kd:Int) (l:List Pk) (hl:l.length≤1048576) (hpo:∀x∈l,x.Ok) (hB:kd=2→B+l.length*d.w.length≤100000000000) (hp:CH) (m:Nat) :
    MeetsF Tryz.prog 23 hp m [grx gn g,supx s,dx d,.i .i64 kd,.ds (mapC pkC l)] (.tp [vx (sRunV g s d kd l).1,dx (sRunV g s d kd l).2]):=by
  have hRt:=tRoot_ok kd
  have hCl:=vclone_ok d hd.f
  rw [sRunV]
  obtain ⟨mu,hmu⟩:∃mu,decide (kd=2)=mu:=⟨_,rfl⟩
  have hB : mu = true → B + l.length * d.w.length ≤ 100000000000 := fun h => hB (by rw [← hmu] at h; simpa using h)
  obtain ⟨root,hroot⟩:∃root,rootS kd=root:=⟨_,rfl⟩
  rw [hroot] at hRt ⊢
  rw [hmu]
  have hinv:=sRunL_inv g s mu root d l hd hB
  have hlen:=sRunL_len g s mu root d l
  have hstep := fun j x (h : l[j]? = some x) => sRunL_step (g := g) (s := s) (mu := mu) (root := root) (d := d) h
  obtain ⟨RF,hRF⟩:∃RF,sRunL g s mu root d l=RF:=⟨_,rfl⟩
  rw [hRF]
  have hIt:=dRoot_ok d hd.f.f root
  change ∀hp m,MeetsF Tryz.prog 51 hp m [dx d,.s root] (resI (itemI d root)) at hIt
  obtain ⟨I,hI⟩:∃I,itemI d root=I:=⟨_,rfl⟩
  rw [hI,resI] at hIt
  obtain ⟨I0,hI0⟩:∃I0,(if 0≤I then I else 0)=I0:=⟨_,rfl⟩
  obtain ⟨X,hX⟩:∃X,decide (0≤I)=X:=⟨_,rfl⟩
  rw [hI0,hX] at hIt
  refine meetsF Tryz.func23 (by kernel_rfl) cc23 cr23 rfl fun hf => ?_; unfold ck23
  simp (disch:=omega) only [ite_ne,go_sem,↓reduceIte,Za,Zb,Zc,Zd,Ze,reduceCtorEq,Zf,Zg,Zh,Zi,Zj,Zk]
  refine vcCall.f (hRt _ _) ?_
  simp (disch:=omega) only [ite_ne,go_sem,↓reduceIte,Za,Zb,Zc,Zd,Ze,reduceCtorEq,Zf,Zg,Zh,Zi,Zj,Zk]
  refine dCallR.f (fun _ _ _ => hCl _ _) ?_
  simp (disch:=omega) only [ite_ne,go_sem,↓reduceIte,Za,Zb,Zc,Zd,Ze,reduceCtorEq,Zf,Zg,Zh,Zi,Zj,Zk]
  refine vcCall.f (hIt _ _) ?_
  simp (disch:=omega) only [ite_ne,go_sem,↓reduceIte,Za,Zb,Zc,Zd,Ze,reduceCtorEq,Zf,Zg,Zh,Zi,Zj,Zk]
  refine vcCall.f (vText_ok _ _ _) ?_
  simp (disch:=omega) only [ite_ne,go_sem,↓reduceIte,Za,Zb,Zc,Zd,Ze,reduceCtorEq,Zf,Zg,Zh,Zi,Zj,Zk]
  refine loop (fun q : Nat × List (ByteArray × Val) × Dat × Nat => ⟨[(3, .i .i64 kd), (5, .bx m 0), (10, .bx (m + 3) 0), (11, .bx (m + 4) 0), (12, .s root), (13, .bx (m + 10) 0), (14, .i .i64 I0), (15, .b X), (16, .bx (m + 14) 0), (43, .ds (mapC pkC l)), (44, .i .i64 l.length), (45, .i .i64 q.1)],
      (m,.bx [.s gn,.ds (mapC dfC g)])::(m+3,.bx [.i .i64 0,.i .i64 0,.s ⟨#[]⟩,.e0,.e0])::(m+4,.bx [.e0,.e0])::(m+10,.bx (rvC gn g s q.2.2.1)) ::
      (m+14,.bx [.i .i64 6,.i .i64 0,.s ⟨#[]⟩,.rw (m+13) q.2.1.length (q.2.1.length+1),.rw (m+12) q.2.1.length (q.2.1.length+1)])::(m+13,.rw q.2.1.length 5 (mapC valC (txV root::q.2.1.map (·.2))))::(m+12,.rw q.2.1.length 1 (stC (⟨#[95,95,116]⟩::q.2.1.map (·.1))))::hp,q.2.2.2⟩)
    (fun q => q.1 ≤ l.length ∧ m + 15 ≤ q.2.2.2 ∧ (q.2.1, q.2.2.1) = sRunL g s mu root d (l.take q.1)) (fun q => l.length - q.1) (0, [], d, m + 15) ?_ ?_ (fun ⟨j, F, D, n⟩ hj => ?_)
  . exact ⟨by simp, by simp, by dsimp only; rw [List.take_zero]; rfl⟩
  . refine weak_ok ?_ (Sub.cons ?_ (Sub.cons ?_ (Sub.cons ?_ (Sub.cons ?_ (Sub.cons ?_ (Sub.cons ?_ (Sub.cons ?_ (Sub.base hf ?_)))))))) (Nat.le_refl _)
    all_goals (simp (disch:=omega) only [ite_ne,go_sem,↓reduceIte,Za,Zb,Zc,Zd,Ze,reduceCtorEq,Zf,Zg,Zh,Zi,Zj,Zk])
    all_goals rfl
  dsimp only at hj
  obtain ⟨hj1,hj2,hj3⟩:=hj
  have hmn : m ≤ n := by omega
  have hFl : F.length ≤ j := by have := hlen j; rw [← hj3] at this; exact this
  have hV:=hinv j hj1
  rw [←hj3] at hV
  obtain ⟨hI1,hI2,hI3⟩:=hV
  dsimp only at hI1 hI2 hI3
  have hl1 : (F.map (·.2)).length = F.length := by simp
  have hl2 : (F.map (·.1)).length = F.length := by simp
  simp (disch:=omega) only [ite_ne,go_sem,↓reduceIte,Za,Zb,Zc,Zd,Ze,reduceCtorEq,Zf,Zg,Zh,Zi,Zj,Zk]
  refine cdK_of (fun q=>?_) (fun q=>?_)
  . have q : j < l.length := by simpa using q
    obtain ⟨x, ex⟩ : ∃ x, l[j]? = some x := ⟨l[j], by simp [q]⟩
    have hxo:=hpo x (zla ex)
    have hst:=hstep j x ex
    rw [←hj3,sRunS] at hst
    have k1 : (F.length + 1 + 1) * 80 ≤ 140737488355328 := by omega
    have k2 : (F.length + 1 + 1) * 16 ≤ 140737488355328 := by omega
    have k3 : F.length + 1 + 1 ≤ 9223372036854775807 := by omega
    have k4 : l.length - (j + 1) < l.length - j := by omega
    simp (disch:=omega) only [ite_ne,q,getK_s (mapC_get pkC ex),hmn,go_sem,↓reduceIte,Za,Zb,Zc,Zd,Ze,reduceCtorEq,Zf,Zg,Zh,Zi,Zj,Zk]
    refine cdK_of (fun c=>?_) (fun c=>?_)
    . have c : ¬ x.on = root := by simpa using c
      rw [if_neg c] at hst
      simp (disch:=omega) only [ite_ne,hmn,go_sem,↓reduceIte,Za,Zb,Zc,Zd,Ze,reduceCtorEq,Zf,Zg,Zh,Zi,Zj,Zk]
      refine ⟨(j + 1, F, D, _), ⟨by dsimp only; omega, by dsimp only; omega, hst.symm⟩, k4, weak_ok ?_ (Sub.cons ?_ (Sub.cons ?_ (Sub.cons ?_ (Sub.cons ?_ (Sub.cons ?_ (Sub.cons ?_ (Sub.cons ?_ (Sub.base hf ?_)))))))) (Nat.le_refl _)⟩
      all_goals
        simp (disch := omega) only [ite_ne, wr64s j (by omega), hmn, go_sem, ↓reduceIte, Nat.reduceEqDiff, Nat.reduceBEq, Nat.reduceAdd, Nat.reduceLeDiff, Nat.reduceLT, reduceCtorEq, Nat.reduceMul, Nat.reduceSub, Int.reduceEq, Int.reduceLT, Int.reduceLE, Int.reduceToNat]
    . have hon : x.on = root := by simpa using c
      rw [if_pos hon] at hst
      dsimp only at hst
      have hTx := tText_ok x.args (fun a h => (hxo.a.v a h).ok) (Nat.le_trans hxo.a.b (by omega)) (Nat.le_trans hxo.a.n (by omega))
      have hDf:=vdefines_ok gn g hg hgf root x.name
      obtain ⟨D0,hD0⟩:∃b,defB g root x.name=b:=⟨_,rfl⟩
      rw [hD0] at hDf
      have hD'0 := sRootD_dok (g := g) (s := s) (mu := mu) (root := root) (x := x) hI3 (fun hm => by
        rw [if_pos hm,hI1]
        have:(j+1)*d.w.length≤l.length*d.w.length:=Nat.mul_le_mul_right _ q
        rw [Nat.add_mul,Nat.one_mul] at this
        have:=hB hm
        omega)
      have hDr:sRootD g s mu root D x=if (mu&&(D0&&!decide (x.name=⟨#[95,95,116,121,112,101,110,97,109,101]⟩)))=true then appV D x.name (ofL (sRootT s root D x)) else D:=by
        unfold sRootD
        rw [hD0]
        rfl
      simp (disch:=omega) only [ite_ne,hmn,hmu,go_sem,↓reduceIte,Za,Zb,Zc,Zd,Ze,reduceCtorEq,Zf,Zg,Zh,Zi,Zj,Zk]
      refine vcCall.f (hDf _ _) ?_
      simp (disch:=omega) only [ite_ne,hmn,hmu,go_sem,↓reduceIte,Za,Zb,Zc,Zd,Ze,reduceCtorEq,Zf,Zg,Zh,Zi,Zj,Zk]
      refine cdK_of (fun c3=>?_) (fun c3=>?_)
      . have c3' : (mu && (D0 && !decide (x.name = ⟨#[95, 95, 116, 121, 112, 101, 110, 97, 109, 101]⟩))) = true := by
          rw [←Bool.and_assoc];exact c3
        rw [if_pos c3'] at hDr
        obtain rfl : D0 = true := by simp only [Bool.and_eq_true] at c3'; exact c3'.2.1
        have c7:¬x.name=⟨#[95,95,116,121,112,101,110,97,109,101]⟩:=by
          simp only [Bool.and_eq_true,Bool.not_eq_true',decide_eq_false_iff_not] at c3'
          exact c3'.2.2
        cases X with
        | true =>
          have c4 : 0 ≤ I := by simpa using hX
          rw [if_pos c4] at hI0
          subst hI0
          have hTe : sRootT s root D x = txtL x.args (sVals s D none I x.name) := by rw [sRootT, hI2, hI, if_pos c4]; rfl
          have hEx : exB D I = true := by rw [← hI, ← hI2]; exact (itemI_ex (by rw [hI2, hI]; exact c4)).1
          have hnl:=sNeed_len hs D I x.name
          have hvl:=sVals_len s D none I x.name
          have hTt := vtext_ok x hxo.a (sVals s D none I x.name) (by omega) (sVals_lok hI3 ROk.none I x.name) (sVals_sm hI3 ROk.none I x.name) (sVals_sum hs hI3 ROk.none I x.name)
          have hRq := fun hp' (q : gc hp' (m + 10) = .bx (rvC gn g s D)) m' => vrequired_ok gn g s hs D hI3 I hEx x.name none ROk.none (c := m + 10) (hp := hp') q (α := .np) rfl m'
          have hAp:=dApply_ok D hI3.f x.name (ofL (sRootT s root D x))
          rw [hTe] at hAp hDr
          obtain ⟨T,hT⟩:∃T,ofL (txtL x.args (sVals s D none I x.name))=T:=⟨_,rfl⟩
          rw [hT] at hAp hDr hTt
          obtain ⟨V,hV⟩:∃V,sVals s D none I x.name=V:=⟨_,rfl⟩
          rw [hV] at hTt hRq
          rw [hDr] at hst hD'0
          obtain ⟨D',hD'e⟩:∃D',appV D x.name T=D':=⟨_,rfl⟩
          rw [hD'e] at hst hD'0 hAp
          have hD':=hD'0
          have hDI : itemI D' root = I := by rw [← hD'e, ← hDr, sRootD_item, hI2, hI]
          have hP:sRootP g s root D' x=if defB g root x.name=true then (if 0≤I then sPick g s D' x none I else if x.name=⟨#[95,95,116,121,112,101,110,97,109,101]⟩ then txV root else zVal) else failV sField:=by
            unfold sRootP
            rw [hDI]
            rfl
          rw [hD0] at hP
          simp (disch:=omega) only [ite_ne,hmn,go_sem,↓reduceIte,Za,Zb,Zc,Zd,Ze,reduceCtorEq,Zf,Zg,Zh,Zi,Zj,Zk]
          refine vcCall.f (hTx _ _) ?_
          simp (disch:=omega) only [ite_ne,hmn,go_sem,↓reduceIte,Za,Zb,Zc,Zd,Ze,reduceCtorEq,Zf,Zg,Zh,Zi,Zj,Zk]
          refine vcCall.f (hRq _ ?_ _) ?_
          . simp (disch := omega) only [ite_ne, hmn, go_sem, ↓reduceIte, Nat.reduceEqDiff, Nat.reduceBEq, Nat.reduceAdd, Nat.reduceLeDiff, Nat.reduceLT, reduceCtorEq, Nat.reduceMul, Nat.reduceSub, Int.reduceEq, Int.reduceLT, Int.reduceLE, Int.reduceToNat]
          simp (disch:=omega) only [ite_ne,hmn,go_sem,↓reduceIte,Za,Zb,Zc,Zd,Ze,reduceCtorEq,Zf,Zg,Zh,Zi,Zj,Zk]
          refine vcCall.f (hTt _ _) ?_
          simp (disch:=omega) only [ite_ne,hmn,go_sem,↓reduceIte,Za,Zb,Zc,Zd,Ze,reduceCtorEq,Zf,Zg,Zh,Zi,Zj,Zk]
          refine dCallR.f (fun _ _ _ => hAp _ _) ?_
          simp (disch:=omega) only [ite_ne,hmn,go_sem,↓reduceIte,Za,Zb,Zc,Zd,Ze,reduceCtorEq,Zf,Zg,Zh,Zi,Zj,Zk]
          rw [if_pos rfl,if_pos c4] at hP
          have hRd := vread_ok gn g hg hgf s hs D' hD' x hxo none ROk.none I (by rw [← hDI]; exact (itemI_ex (by rw [hDI]; exact c4)).1)
          rw [hP] at hst
          obtain ⟨P,hPe⟩:∃P,sPick g s D' x none I=P:=⟨_,rfl⟩
          rw [hPe] at hst hRd
          refine vcCall.f (hRd (m+10) _ ?_ .np rfl _) ?_
          . simp (disch := omega) only [ite_ne, hmn, go_sem, ↓reduceIte, Nat.reduceEqDiff, Nat.reduceBEq, Nat.reduceAdd, Nat.reduceLeDiff, Nat.reduceLT, reduceCtorEq, Nat.reduceMul, Nat.reduceSub, Int.reduceEq, Int.reduceLT, Int.reduceLE, Int.reduceToNat]
          simp (disch:=omega) only [ite_ne,hl1,hl2,k1,k2,k3,hmn,go_sem,↓reduceIte,Za,Zb,Zc,Zd,Ze,reduceCtorEq,Zf,Zg,Zh,Zi,Zj,Zk]
          refine ⟨(j + 1, F ++ [(x.key, P)], D', _), ⟨by dsimp only; omega, by dsimp only; omega, hst.symm⟩, k4, weak_ok ?_ (Sub.cons ?_ (Sub.cons ?_ (Sub.cons ?_ (Sub.cons ?_ (Sub.cons ?_ (Sub.cons ?_ (Sub.cons ?_ (Sub.base hf ?_)))))))) (Nat.le_refl _)⟩
          all_goals
            simp (disch := omega) only [ite_ne, wr64s j (by omega), hmn, List.length_append, List.length_cons, List.length_nil, List.map_append, List.map_cons, List.map_nil, go_sem, ↓reduceIte, Nat.reduceEqDiff, Nat.reduceBEq, Nat.reduceAdd, Nat.reduceLeDiff, Nat.reduceLT, reduceCtorEq, Nat.reduceMul, Nat.reduceSub, Int.reduceEq, Int.reduceLT, Int.reduceLE, Int.reduceToNat]
        | false =>
          have c4 : ¬ 0 ≤ I := by simpa using hX
          have hTe : sRootT s root D x = argsL x.args := by rw [sRootT, hI2, hI, if_neg c4]
          have hAp:=dApply_ok D hI3.f x.name (ofL (sRootT s root D x))
          rw [hTe] at hAp hDr
          obtain ⟨T,hT⟩:∃T,ofL (argsL x.args)=T:=⟨_,rfl⟩
          rw [hT] at hAp hDr hTx
          rw [hDr] at hst hD'0
          obtain ⟨D',hD'e⟩:∃D',appV D x.name T=D':=⟨_,rfl⟩
          rw [hD'e] at hst hD'0 hAp
          have hD':=hD'0
          have hDI : itemI D' root = I := by rw [← hD'e, ← hDr, sRootD_item, hI2, hI]
          have hP:sRootP g s root D' x=if defB g root x.name=true then (if 0≤I then sPick g s D' x none I else if x.name=⟨#[95,95,116,121,112,101,110,97,109,101]⟩ then txV root else zVal) else failV sField:=by
            unfold sRootP
            rw [hDI]
            rfl
          rw [hD0] at hP
          rw [if_pos rfl,if_neg c4,if_neg c7] at hP
          simp (disch:=omega) only [ite_ne,hmn,go_sem,↓reduceIte,Za,Zb,Zc,Zd,Ze,reduceCtorEq,Zf,Zg,Zh,Zi,Zj,Zk]
          refine vcCall.f (hTx _ _) ?_
          simp (disch:=omega) only [ite_ne,hmn,go_sem,↓reduceIte,Za,Zb,Zc,Zd,Ze,reduceCtorEq,Zf,Zg,Zh,Zi,Zj,Zk]
          refine dCallR.f (fun _ _ _ => hAp _ _) ?_
          have c8 : decide (x.name = ⟨#[95, 95, 116, 121, 112, 101, 110, 97, 109, 101]⟩) = false := by simp [c7]
          simp (disch:=omega) only [ite_ne,hmn,c8,hl1,hl2,k1,k2,k3,go_sem,↓reduceIte,Za,Zb,Zc,Zd,Ze,reduceCtorEq,Zf,Zg,Zh,Zi,Zj,Zk]
          rw [hP] at hst
          have hz:mapC valC (F.map (·.2))++[[AV.i .i64 0,.i .i64 0,.s ⟨#[]⟩,.ds [],.ds []]]=mapC valC (F.map (·.2)++[zVal]):=mapC_snoc valC _ zVal
          refine ⟨(j + 1, F ++ [(x.key, zVal)], D', _), ⟨by dsimp only; omega, by dsimp only; omega, hst.symm⟩, k4, weak_ok ?_ (Sub.cons ?_ (Sub.cons ?_ (Sub.cons ?_ (Sub.cons ?_ (Sub.cons ?_ (Sub.cons ?_ (Sub.cons ?_ (Sub.base hf ?_)))))))) (Nat.le_refl _)⟩
          all_goals
            simp (disch := omega) only [ite_ne, wr64s j (by omega), hmn, hz, List.length_append, List.length_cons, List.length_nil, List.map_append, List.map_cons, List.map_nil, go_sem, ↓reduceIte, Nat.reduceEqDiff, Nat.reduceBEq, Nat.reduceAdd, Nat.reduceLeDiff, Nat.reduceLT, reduceCtorEq, Nat.reduceMul, Nat.reduceSub, Int.reduceEq, Int.reduceLT, Int.reduceLE, Int.reduceToNat]
      . have c3' : ¬ (mu && (D0 && !decide (x.name = ⟨#[95, 95, 116, 121, 112, 101, 110, 97, 109, 101]⟩))) = true := by
          rw [←Bool.and_assoc,c3];simp
        rw [if_neg c3'] at hDr
        rw [hDr] at hst hD'0
        obtain ⟨D',hD'e⟩:∃D',D=D':=⟨_,rfl⟩
        rw [hD'e] at hst hD'0
        have hD':=hD'0
        rw [hD'e]
        have hDI : itemI D' root = I := by rw [← hD'e, ← hDr, sRootD_item, hI2, hI]
        have hP:sRootP g s root D' x=if defB g root x.name=true then (if 0≤I then sPick g s D' x none I else if x.name=⟨#[95,95,116,121,112,101,110,97,109,101]⟩ then txV root else zVal) else failV sField:=by
          unfold sRootP
          rw [hDI]
          rfl
        rw [hD0] at hP
        cases D0 with
        | false =>
          simp (disch:=omega) only [ite_ne,hmn,go_sem,↓reduceIte,Za,Zb,Zc,Zd,Ze,reduceCtorEq,Zf,Zg,Zh,Zi,Zj,Zk]
          rw [if_neg (by simp)] at hP
          rw [hP] at hst
          obtain ⟨P,hPe⟩:∃P,failV sField=P:=⟨_,rfl⟩
          have hFl2:=vfail_ok sField
          unfold sField at hFl2
          have hFl2 : ∀ hp m, MeetsF Tryz.prog 58 hp m [.s ⟨#[102, 105, 101, 108, 100]⟩] (vx P) := by rw [← hPe]; exact hFl2
          rw [hPe] at hst
          refine vcCall.f (hFl2 _ _) ?_
          simp (disch:=omega) only [ite_ne,hl1,hl2,k1,k2,k3,hmn,go_sem,↓reduceIte,Za,Zb,Zc,Zd,Ze,reduceCtorEq,Zf,Zg,Zh,Zi,Zj,Zk]
          refine ⟨(j + 1, F ++ [(x.key, P)], D', _), ⟨by dsimp only; omega, by dsimp only; omega, hst.symm⟩, k4, weak_ok ?_ (Sub.cons ?_ (Sub.cons ?_ (Sub.cons ?_ (Sub.cons ?_ (Sub.cons ?_ (Sub.cons ?_ (Sub.cons ?_ (Sub.base hf ?_)))))))) (Nat.le_refl _)⟩
          all_goals
            simp (disch := omega) only [ite_ne, wr64s j (by omega), hmn, List.length_append, List.length_cons, List.length_nil, List.map_append, List.map_cons, List.map_nil, go_sem, ↓reduceIte, Nat.reduceEqDiff, Nat.reduceBEq, Nat.reduceAdd, Nat.reduceLeDiff, Nat.reduceLT, reduceCtorEq, Nat.reduceMul, Nat.reduceSub, Int.reduceEq, Int.reduceLT, Int.reduceLE, Int.reduceToNat]
        | true =>
          cases X with
          | true =>
            have c4 : 0 ≤ I := by simpa using hX
            rw [if_pos c4] at hI0
            subst hI0
            simp (disch:=omega) only [ite_ne,hmn,go_sem,↓reduceIte,Za,Zb,Zc,Zd,Ze,reduceCtorEq,Zf,Zg,Zh,Zi,Zj,Zk]
            rw [if_pos rfl,if_pos c4] at hP
            have hRd := vread_ok gn g hg hgf s hs D' hD' x hxo none ROk.none I (by rw [← hDI]; exact (itemI_ex (by rw [hDI]; exact c4)).1)
            rw [hP] at hst
            obtain ⟨P,hPe⟩:∃P,sPick g s D' x none I=P:=⟨_,rfl⟩
            rw [hPe] at hst hRd
            refine vcCall.f (hRd (m+10) _ ?_ .np rfl _) ?_
            . simp (disch := omega) only [ite_ne, hmn, go_sem, ↓reduceIte, Nat.reduceEqDiff, Nat.reduceBEq, Nat.reduceAdd, Nat.reduceLeDiff, Nat.reduceLT, reduceCtorEq, Nat.reduceMul, Nat.reduceSub, Int.reduceEq, Int.reduceLT, Int.reduceLE, Int.reduceToNat]
            simp (disch:=omega) only [ite_ne,hl1,hl2,k1,k2,k3,hmn,go_sem,↓reduceIte,Za,Zb,Zc,Zd,Ze,reduceCtorEq,Zf,Zg,Zh,Zi,Zj,Zk]
            refine ⟨(j + 1, F ++ [(x.key, P)], D', _), ⟨by dsimp only; omega, by dsimp only; omega, hst.symm⟩, k4, weak_ok ?_ (Sub.cons ?_ (Sub.cons ?_ (Sub.cons ?_ (Sub.cons ?_ (Sub.cons ?_ (Sub.cons ?_ (Sub.cons ?_ (Sub.base hf ?_)))))))) (Nat.le_refl _)⟩
            all_goals
              simp (disch := omega) only [ite_ne, wr64s j (by omega), hmn, List.length_append, List.length_cons, List.length_nil, List.map_append, List.map_cons, List.map_nil, go_sem, ↓reduceIte, Nat.reduceEqDiff, Nat.reduceBEq, Nat.reduceAdd, Nat.reduceLeDiff, Nat.reduceLT, reduceCtorEq, Nat.reduceMul, Nat.reduceSub, Int.reduceEq, Int.reduceLT, Int.reduceLE, Int.reduceToNat]
          | false =>
            have c4 : ¬ 0 ≤ I := by simpa using hX
            rw [if_pos rfl,if_neg c4] at hP
            simp (disch:=omega) only [ite_ne,hmn,go_sem,↓reduceIte,Za,Zb,Zc,Zd,Ze,reduceCtorEq,Zf,Zg,Zh,Zi,Zj,Zk]
            refine cdK_of (fun c5=>?_) (fun c5=>?_)
            . rw [if_pos (by simpa using c5)] at hP
              rw [hP] at hst
              obtain ⟨P,hPe⟩:∃P,txV root=P:=⟨_,rfl⟩
              have hTt:=vText_ok root
              simp (disch:=omega) only [ite_ne,hmn,go_sem,↓reduceIte,Za,Zb,Zc,Zd,Ze,reduceCtorEq,Zf,Zg,Zh,Zi,Zj,Zk]
              refine vcCall.f (hTt _ _) ?_
              rw [hPe] at hst ⊢
              simp (disch:=omega) only [ite_ne,hl1,hl2,k1,k2,k3,hmn,go_sem,↓reduceIte,Za,Zb,Zc,Zd,Ze,reduceCtorEq,Zf,Zg,Zh,Zi,Zj,Zk]
              refine ⟨(j + 1, F ++ [(x.key, P)], D', _), ⟨by dsimp only; omega, by dsimp only; omega, hst.symm⟩, k4, weak_ok ?_ (Sub.cons ?_ (Sub.cons ?_ (Sub.cons ?_ (Sub.cons ?_ (Sub.cons ?_ (Sub.cons ?_ (Sub.cons ?_ (Sub.base hf ?_)))))))) (Nat.le_refl _)⟩
              all_goals
                simp (disch := omega) only [ite_ne, wr64s j (by omega), hmn, List.length_append, List.length_cons, List.length_nil, List.map_append, List.map_cons, List.map_nil, go_sem, ↓reduceIte, Nat.reduceEqDiff, Nat.reduceBEq, Nat.reduceAdd, Nat.reduceLeDiff, Nat.reduceLT, reduceCtorEq, Nat.reduceMul, Nat.reduceSub, Int.reduceEq, Int.reduceLT, Int.reduceLE, Int.reduceToNat]
            . rw [if_neg (by simpa using c5)] at hP
              simp (disch:=omega) only [ite_ne,hl1,hl2,k1,k2,k3,hmn,go_sem,↓reduceIte,Za,Zb,Zc,Zd,Ze,reduceCtorEq,Zf,Zg,Zh,Zi,Zj,Zk]
              rw [hP] at hst
              have hz:mapC valC (F.map (·.2))++[[AV.i .i64 0,.i .i64 0,.s ⟨#[]⟩,.ds [],.ds []]]=mapC valC (F.map (·.2)++[zVal]):=mapC_snoc valC _ zVal
              refine ⟨(j + 1, F ++ [(x.key, zVal)], D', _), ⟨by dsimp only; omega, by dsimp only; omega, hst.symm⟩, k4, weak_ok ?_ (Sub.cons ?_ (Sub.cons ?_ (Sub.cons ?_ (Sub.cons ?_ (Sub.cons ?_ (Sub.cons ?_ (Sub.cons ?_ (Sub.base hf ?_)))))))) (Nat.le_refl _)⟩
              all_goals
                simp (disch := omega) only [ite_ne, wr64s j (by omega), hmn, hz, List.length_append, List.length_cons, List.length_nil, List.map_append, List.map_cons, List.map_nil, go_sem, ↓reduceIte, Nat.reduceEqDiff, Nat.reduceBEq, Nat.reduceAdd, Nat.reduceLeDiff, Nat.reduceLT, reduceCtorEq, Nat.reduceMul, Nat.reduceSub, Int.reduceEq, Int.reduceLT, Int.reduceLE, Int.reduceToNat]
  . have q : j = l.length := by simp at q; omega
    subst q
    rw [List.take_length,hRF] at hj3
    subst hj3
    have hl3 : (F.map (·.2)).take F.length = F.map (·.2) := List.take_of_length_le (by omega)
    have hl4 : (F.map (·.1)).take F.length = F.map (·.1) := List.take_of_length_le (by omega)
    simp (disch:=omega) only [ite_ne,hl1,hl2,hl3,hl4,zna,hmn,go_sem,↓reduceIte,Za,Zb,Zc,Zd,Ze,reduceCtorEq,Zf,Zg,Zh,Zi,Zj,Zk]
    try rfl
set_option maxHeartbeats 1000000
def leftF (f:List Pk→Int→Int):List Pk→Int→Int
 | [],n=>n
 | p::r,n=>if 0≤n then (if 0<p.picks.length then leftF f r (f p.picks n) else leftF f r n) else n
def leftN:Nat→List Pk→Int→Int
 | 0,_,_=>-1
 | k+1,l,n=>leftF (leftN k) l (n - l.length)
theorem leftF_neg {f:List Pk→Int→Int} {n:Int} (h:n<0):∀l,leftF f l n=n
 | []=>rfl
 | p::r=>by rw [leftF,if_neg (by omega)]
theorem leftF_le {f:List Pk→Int→Int} (h:∀l m,0≤m→f l m≤m):∀l n,leftF f l n≤n
 | [],n=>Int.le_refl _
 | p::r,n=>by
  rw [leftF]
  split
  .split
   .exact Int.le_trans (leftF_le h r _) (h _ _ (by assumption))
   .exact leftF_le h r n
  .exact Int.le_refl _
theorem leftN_le:∀k l n,0≤n→leftN k l n≤n
 | 0,l,n,h=>by rw [leftN];omega
 | k+1,l,n,h=>by
  rw [leftN]
  have:=leftF_le (leftN_le k) l (n - l.length)
  omega
theorem left_ok:∀(k:Nat),k≤10→∀(l:List Pk),l.length≤1048576→(∀x∈l,x.Ok)→∀n:Int,0≤n→n≤60→∀hp m,MeetsF Tryz.prog 90 hp m [.ds (mapC pkC l),.i .i64 n,.i .i64 k] (.i .i64 (leftN k l n))
 | 0,hk,l,hl,hpo,n,h0,h1,hp,m=>by
  rw [leftN]
  refine meetsF Tryz.func90 (by kernel_rfl) cc90 cr90 rfl fun hf=>?_;unfold ck90
  simp (disch:=omega) only [ite_ne,go_sem,↓reduceIte,Za,Zb,Zc,Zd,Ze,reduceCtorEq,Zf,Zg,Zh,Zi,Zj,Zk]
 | k+1,hk,l,hl,hpo,n,h0,h1,hp,m=>by
  have ih:=left_ok k (by omega)
  obtain ⟨R,hR⟩:∃R,leftN (k+1) l n=R:=⟨_,rfl⟩
  have e:=hR
  rw [leftN] at e
  rw [hR]
  have hle:=leftN_le k
  have w1:IntKind.i64.wrap (n - (l.length:Int))=n - l.length:=wr64 (by omega)
  have w2:decide (((k+1:Nat):Int)≤0)=false:=decide_eq_false (by omega)
  have w3:IntKind.i64.wrap (((k+1:Nat):Int) - 1)=k:=by rw [wr64 (by omega)];omega
  refine meetsF Tryz.func90 (by kernel_rfl) cc90 cr90 rfl fun hf=>?_;unfold ck90
  simp (disch:=omega) only [ite_ne,w1,w2,go_sem,↓reduceIte,Za,Zb,Zc,Zd,Ze,reduceCtorEq,Zf,Zg,Zh,Zi,Zj,Zk]
  refine loop (fun q:Nat × Int × Nat=>⟨[(0,.ds (mapC pkC l)),(1,.i .i64 q.2.1),(2,.i .i64 (k+1:Nat)),(7,.i .i64 q.1)],hp,q.2.2⟩)
   (fun q=>q.1≤l.length∧m≤q.2.2∧q.2.1≤60∧leftF (leftN k) (l.drop q.1) q.2.1=R) (fun q=>l.length - q.1) (0,n - l.length,m) ?_ ?_ (fun ⟨j,v,n2⟩ hj=>?_)
  .exact ⟨Nat.zero_le _,zna _,by dsimp only;omega,e⟩
  .refine weak_ok ?_ (Sub.base hf ?_) (zna _)
   all_goals (simp (disch:=omega) only [ite_ne,go_sem,↓reduceIte,Za,Zb,Zc,Zd,Ze,reduceCtorEq,Zf,Zg,Zh,Zi,Zj,Zk])
  dsimp only at hj
  obtain ⟨hj1,hj2,hj3,hj4⟩:=hj
  simp (disch:=omega) only [ite_ne,go_sem,↓reduceIte,Za,Zb,Zc,Zd,Ze,reduceCtorEq,Zf,Zg,Zh,Zi,Zj,Zk]
  refine cdK_of (fun q=>?_) (fun q=>?_)
  .have q:j<l.length∧0≤v:=by simpa using q
   obtain ⟨x,ex⟩:∃x,l[j]?=some x:=⟨l[j]'(by omega),by simp [q.1]⟩
   have hxo:=hpo x (zla ex)
   rw [drop_at ex,leftF,if_pos q.2] at hj4
   have hI:=ih x.picks hxo.l (fun y hy=>hxo.x hy) v q.2 hj3
   have hI2:=hle x.picks v q.2
   obtain ⟨V,hV⟩:∃V,leftN k x.picks v=V:=⟨_,rfl⟩
   rw [hV] at hI hI2 hj4
   simp (disch:=omega) only [ite_ne,q.1,getK_s (mapC_get pkC ex),go_sem,↓reduceIte,Za,Zb,Zc,Zd,Ze,reduceCtorEq,Zf,Zg,Zh,Zi,Zj,Zk]
   refine cdK_of (fun c=>?_) (fun c=>?_)
   .have c:0<x.picks.length:=by simpa using c
    rw [if_pos c] at hj4
    simp (disch:=omega) only [ite_ne,q.1,getK_s (mapC_get pkC ex),w3,go_sem,↓reduceIte,Za,Zb,Zc,Zd,Ze,reduceCtorEq,Zf,Zg,Zh,Zi,Zj,Zk]
    refine vcCall.f (hI _ _) ?_
    simp (disch:=omega) only [ite_ne,go_sem,↓reduceIte,Za,Zb,Zc,Zd,Ze,reduceCtorEq,Zf,Zg,Zh,Zi,Zj,Zk]
    refine ⟨(j+1,V,_),⟨by dsimp only;omega,by dsimp only;omega,by dsimp only;omega,hj4⟩,by dsimp only;omega,weak_ok ?_ (Sub.base hf ?_) (zna _)⟩
    all_goals
     simp (disch:=omega) only [ite_ne,wr64s j (by omega),hj2,go_sem,↓reduceIte,Za,Zb,Zc,Zd,Ze,reduceCtorEq,Zf,Zg,Zh,Zi,Zj,Zk]
   .have c:¬0<x.picks.length:=by simpa using c
    rw [if_neg c] at hj4
    simp (disch:=omega) only [ite_ne,go_sem,↓reduceIte,Za,Zb,Zc,Zd,Ze,reduceCtorEq,Zf,Zg,Zh,Zi,Zj,Zk]
    refine ⟨(j+1,v,_),⟨by dsimp only;omega,by dsimp only;omega,by dsimp only;omega,hj4⟩,by dsimp only;omega,weak_ok ?_ (Sub.base hf ?_) (zna _)⟩
    all_goals
     simp (disch:=omega) only [ite_ne,wr64s j (by omega),hj2,go_sem,↓reduceIte,Za,Zb,Zc,Zd,Ze,reduceCtorEq,Zf,Zg,Zh,Zi,Zj,Zk]
  .have hR2:v=R:=by
    by_cases c:j=l.length
    .rw [c,List.drop_length] at hj4
     exact hj4
    .rw [leftF_neg] at hj4
     .exact hj4
     .have:¬(j<l.length∧0≤v):=by simpa using q
      omega
   subst hR2
   simp (disch:=omega) only [ite_ne,hj2,go_sem,↓reduceIte,Za,Zb,Zc,Zd,Ze,reduceCtorEq,Zf,Zg,Zh,Zi,Zj,Zk]
theorem large34_ok (l:List Pk) (hl:l.length≤1048576) (hpo:∀x∈l,x.Ok) (hp:CH) (m:Nat):MeetsF Tryz.prog 46 hp m [.ds (mapC pkC l),.i .i64 6] (.b (decide (leftN 6 l 60<0))):=by
 have h1:=left_ok 6 (by omega) l hl hpo 60 (by omega) (by omega)
 have h1:∀hp m,MeetsF Tryz.prog 90 hp m [.ds (mapC pkC l),.i .i64 60,.i .i64 6] (.i .i64 (leftN 6 l 60)):=h1
 obtain ⟨R,hR⟩:∃R,leftN 6 l 60=R:=⟨_,rfl⟩
 rw [hR] at h1 ⊢
 refine meetsF Tryz.func46 (by kernel_rfl) cc46 cr46 rfl fun hf=>?_;unfold ck46
 simp only [go_sem,↓reduceIte,Za,Zb,Zc,Zd,Ze,reduceCtorEq,Zf,Zg,Zh,Zi,Zj,Zk]
 refine vcCall.f (h1 _ _) ?_
 simp only [go_sem,↓reduceIte,Za,Zb,Zc,Zd,Ze,reduceCtorEq,Zf,Zg,Zh,Zi,Zj,Zk]
noncomputable def bulkB (g:List Dfn) (s:Sup) (d:Dat) (l:List Pk):Bool:=(((lgDoc g||lgDoc s.doc)||lgD d)||decide (400<(s.joins.length:Int)))||decide (leftN 6 l 60<0)
theorem bulky_ok (gn:ByteArray) (g:List Dfn) (s:Sup) (d:Dat) (c:GOk g s d) (l:List Pk) (hl:l.length≤1048576) (hpo:∀x∈l,x.Ok) (hp:CH) (m:Nat):MeetsF Tryz.prog 21 hp m [casegx gn g s d,.ds (mapC pkC l)] (.b (bulkB g s d l)):=by
 have h1:=rLargeS_ok g (znc c.g (by omega)) c.gf
 have h2:=rLargeS_ok s.doc (znc c.s.d (by omega)) c.f
 have h3:=large_ok d c.d.f.f
 have h4:=large34_ok l hl hpo
 rw [bulkB]
 obtain ⟨a1,e1⟩:∃x,lgDoc g=x:=⟨_,rfl⟩
 obtain ⟨a2,e2⟩:∃x,lgDoc s.doc=x:=⟨_,rfl⟩
 obtain ⟨a3,e3⟩:∃x,lgD d=x:=⟨_,rfl⟩
 obtain ⟨a4,e4⟩:∃x,decide (leftN 6 l 60<0)=x:=⟨_,rfl⟩
 rw [e1] at h1 ⊢
 rw [e2] at h2 ⊢
 rw [e3] at h3 ⊢
 rw [e4] at h4 ⊢
 refine meetsF Tryz.func21 (by kernel_rfl) cc21 cr21 rfl fun hf=>?_;unfold ck21
 simp only [go_sem,↓reduceIte,Za,Zb,Zc,Zd,Ze,reduceCtorEq,Zf,Zg,Zh,Zi,Zj,Zk]
 refine vcCall.f (h1 _ _) ?_
 simp only [go_sem,↓reduceIte,Za,Zb,Zc,Zd,Ze,reduceCtorEq,Zf,Zg,Zh,Zi,Zj,Zk]
 refine gCall.f (fun _=>h2 _ _) ?_
 simp only [go_sem,↓reduceIte,Za,Zb,Zc,Zd,Ze,reduceCtorEq,Zf,Zg,Zh,Zi,Zj,Zk]
 refine gCall.f (fun _=>h3 _ _) ?_
 simp only [go_sem,↓reduceIte,Za,Zb,Zc,Zd,Ze,reduceCtorEq,Zf,Zg,Zh,Zi,Zj,Zk]
 refine gCall.f (fun _=>h4 _ _) ?_
 simp only [go_sem,↓reduceIte,Za,Zb,Zc,Zd,Ze,reduceCtorEq,Zf,Zg,Zh,Zi,Zj,Zk]
noncomputable def knB (g:List Dfn) (typ:ByteArray) (l:List Pk):Bool:=l.all fun p=>!decide (p.on=typ)||defB g typ p.name
theorem vKnows_ok (gn:ByteArray) (g:List Dfn) (hg:g.length≤1048576) (hgf:∀t∈g,t.fields.length≤1000000000000) (typ:ByteArray) (l:List Pk) (hl:l.length≤1048576) (hc:∀p∈l,p.picks=[]) (hp:CH) (m:Nat) :
  MeetsF Tryz.prog 48 hp m [grx gn g,.s typ,.ds (mapC pkC l)] (.b (knB g typ l)):=by
 obtain ⟨R,hR⟩:∃R,knB g typ l=R:=⟨_,rfl⟩
 have e:=hR
 rw [knB] at e
 rw [hR]
 refine meetsF Tryz.func48 (by kernel_rfl) cc48 cr48 rfl fun hf=>?_;unfold ck48
 simp only [go_sem,↓reduceIte,Za,Zb,Zc,Zd,Ze,reduceCtorEq,Zf,Zg,Zh,Zi,Zj,Zk]
 refine loop (fun q:Nat × Nat=>⟨[(1,.s typ),(3,.bx m 0),(11,.ds (mapC pkC l)),(12,.i .i64 l.length),(13,.i .i64 q.1)],(m,.bx [.s gn,.ds (mapC dfC g)])::hp,q.2⟩)
  (fun q=>q.1≤l.length∧m+1≤q.2∧R=(l.drop q.1).all fun p=>!decide (p.on=typ)||defB g typ p.name) (fun q=>l.length - q.1) (0,m+1) ?_ ?_ (fun ⟨j,n⟩ hj=>?_)
 .exact ⟨by simp,by simp,e.symm⟩
 .refine weak_ok ?_ (Sub.cons ?_ (Sub.base hf ?_)) (zna _)
  all_goals (simp (disch:=omega) only [ite_ne,go_sem,↓reduceIte,Za,Zb,Zc,Zd,Ze,reduceCtorEq,Zf,Zg,Zh,Zi,Zj,Zk])
 dsimp only at hj
 obtain ⟨hj1,hj2,hj3⟩:=hj
 have hmn:m≤n:=by omega
 simp (disch:=omega) only [ite_ne,go_sem,↓reduceIte,Za,Zb,Zc,Zd,Ze,reduceCtorEq,Zf,Zg,Zh,Zi,Zj,Zk]
 refine cdK_of (fun q=>?_) (fun q=>?_)
 .have q:j<l.length:=by simpa using q
  obtain ⟨x,ex⟩:∃x,l[j]?=some x:=⟨l[j],by simp [q]⟩
  have hpk:=hc x (zla ex)
  rw [drop_at ex,List.all_cons] at hj3
  have hD:=vdefines_ok gn g hg hgf typ x.name
  obtain ⟨b,hb⟩:∃b,defB g typ x.name=b:=⟨_,rfl⟩
  rw [hb] at hD hj3
  simp (disch:=omega) only [ite_ne,q,getK_s (mapC_get pkC ex),go_sem,↓reduceIte,Za,Zb,Zc,Zd,Ze,reduceCtorEq,Zf,Zg,Zh,Zi,Zj,Zk]
  refine cdK_of (fun c=>?_) (fun c=>?_)
  .have c:¬x.on=typ:=by simpa using c
   rw [decide_eq_false c,Bool.not_false,Bool.true_or,Bool.true_and] at hj3
   simp (disch:=omega) only [ite_ne,go_sem,↓reduceIte,Za,Zb,Zc,Zd,Ze,reduceCtorEq,Zf,Zg,Zh,Zi,Zj,Zk]
   refine ⟨(j+1,_),⟨by dsimp only;omega,by dsimp only;omega,hj3⟩,by dsimp only;omega,weak_ok ?_ (Sub.cons ?_ (Sub.base hf ?_)) (zna _)⟩
   all_goals
    simp (disch:=omega) only [ite_ne,wr64s j (by omega),hmn,go_sem,↓reduceIte,Za,Zb,Zc,Zd,Ze,reduceCtorEq,Zf,Zg,Zh,Zi,Zj,Zk]
  .have c:x.on=typ:=by simpa using c
   rw [decide_eq_true c,Bool.not_true,Bool.false_or] at hj3
   simp (disch:=omega) only [ite_ne,go_sem,↓reduceIte,Za,Zb,Zc,Zd,Ze,reduceCtorEq,Zf,Zg,Zh,Zi,Zj,Zk]
   refine vcCall.f (hD _ _) ?_
   cases b with
   | false =>
    rw [Bool.false_and] at hj3
    subst hj3
    simp (disch:=omega) only [ite_ne,hmn,go_sem,↓reduceIte,Za,Zb,Zc,Zd,Ze,reduceCtorEq,Zf,Zg,Zh,Zi,Zj,Zk]
   | true =>
    rw [Bool.true_and] at hj3
    simp (disch:=omega) only [ite_ne,hpk,mapC_nil,zle,go_sem,↓reduceIte,Za,Zb,Zc,Zd,Ze,reduceCtorEq,Zf,Zg,Zh,Zi,Zj,Zk]
    refine loop (fun q:Nat=>⟨[(1,.s typ),(3,.bx m 0),(11,.ds (mapC pkC l)),(12,.i .i64 l.length),(13,.i .i64 j),(28,.ds []),(29,.i .i64 0),(30,.i .i64 0)],(m,.bx [.s gn,.ds (mapC dfC g)])::hp,q⟩)
     (fun q=>m+1≤q) (fun q=>0) (n+1) ?_ ?_ (fun n2 hj4=>?_)
    .omega
    .refine weak_ok ?_ (Sub.cons ?_ (Sub.base hf ?_)) (zna _)
     all_goals (simp (disch:=omega) only [ite_ne,hmn,go_sem,↓reduceIte,Za,Zb,Zc,Zd,Ze,reduceCtorEq,Zf,Zg,Zh,Zi,Zj,Zk])
    have hmn2:m≤n2:=by omega
    simp (disch:=omega) only [ite_ne,go_sem,↓reduceIte,Za,Zb,Zc,Zd,Ze,reduceCtorEq,Zf,Zg,Zh,Zi,Zj,Zk]
    refine ⟨(j+1,_),⟨by dsimp only;omega,by dsimp only;omega,hj3⟩,by dsimp only;omega,weak_ok ?_ (Sub.cons ?_ (Sub.base hf ?_)) (zna _)⟩
    all_goals
     simp (disch:=omega) only [ite_ne,wr64s j (by omega),hmn2,go_sem,↓reduceIte,Za,Zb,Zc,Zd,Ze,reduceCtorEq,Zf,Zg,Zh,Zi,Zj,Zk]
 .have q:j=l.length:=by simp at q;omega
  subst q
  rw [List.drop_length] at hj3
  have hj3:R=true:=hj3
  subst hj3
  simp (disch:=omega) only [ite_ne,hmn,go_sem,↓reduceIte,Za,Zb,Zc,Zd,Ze,reduceCtorEq,Zf,Zg,Zh,Zi,Zj,Zk]
end Go.Proofs.YtinbodeocoeneaaGreatDoor
