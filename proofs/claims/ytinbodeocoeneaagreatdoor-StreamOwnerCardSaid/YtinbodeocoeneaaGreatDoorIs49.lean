/- Proof. Conditions: none. -/
import Derived.Test.YtinbodeocoeneaaGreatDoorProg
import Derived.KernelRfl
import Derived.Test.YtinbodeocoeneaaGreatDoorIs48
open Nat renaming reduceEqDiff→Za,reduceBEq→Zb,reduceAdd→Zc,reduceLeDiff→Zd,reduceLT→Ze,reduceMul→Zf,reduceSub→Zg
open Int renaming reduceEq→Zh,reduceLT→Zi,reduceLE→Zj,reduceToNat→Zk
open List renaming getElem?_eq_some_iff→zlb,getElem?_eq_getElem→zlg
namespace Go.Proofs.YtinbodeocoeneaaGreatDoor
open Go.Eng
set_option linter.all false
set_option maxRecDepth 20000
set_option maxHeartbeats 1000000
theorem tRun_qry (s:Sup) (hs:SOk s) (d:Dat) {B:Nat} (hd:DOk d B) (p:Pln) (hk:¬p.k=2) (hl:p.l.length≤1048576) (hpo:∀x∈p.l,x.Ok) (hp:CH) (m:Nat) :
  MeetsF Tryz.prog 32 hp m [supx s,dx d,plx p] (.tp [vx (runV s d p).1,dx (runV s d p).2]):=by
 have hRt:=tRoot_ok p.k
 rw [runV,decide_eq_false hk,runL_query]
 obtain ⟨root,hroot⟩:∃root,rootS p.k=root:=⟨_,rfl⟩
 rw [hroot] at hRt ⊢
 dsimp only
 have h1:=tread_ok s hs d hd root p.l hl hpo
 rw [readV] at h1
 obtain ⟨R,hR⟩:∃R,objV root (if 0≤itemI d root then fieldsV s d p.l (itemI d root) else noneF root p.l)=R:=⟨_,rfl⟩
 rw [hR] at h1 ⊢
 have h2:decide (p.k=2)=false:=by simp [hk]
 refine meetsF Tryz.func32 (by kernel_rfl) cc32 cr32 rfl fun hf=>?_;unfold ck32
 simp only [go_sem,↓reduceIte,Za,Zb,Zc,Zd,Ze,reduceCtorEq,Zf,Zg,Zh,Zi,Zj,Zk]
 refine vcCall.f (hRt _ _) ?_
 simp only [h2,hk,go_sem,↓reduceIte,Za,Zb,Zc,Zd,Ze,reduceCtorEq,Zf,Zg,Zh,Zi,Zj,Zk]
 refine dCallR.f (fun _ hp' e=>h1 _ _) ?_
 simp only [h2,hk,go_sem,↓reduceIte,Za,Zb,Zc,Zd,Ze,reduceCtorEq,Zf,Zg,Zh,Zi,Zj,Zk]
 refine dCallR.f (fun _ hp' e=>icopied_ok d hd.f _ _) ?_
 simp only [h2,hk,go_sem,↓reduceIte,Za,Zb,Zc,Zd,Ze,reduceCtorEq,Zf,Zg,Zh,Zi,Zj,Zk]
theorem tRun_ok (s:Sup) (hs:SOk s) (d:Dat) {B:Nat} (hd:DOk d B) (p:Pln) (hl:p.l.length≤1048576) (hpo:∀x∈p.l,x.Ok) (hB:p.k=2→B+p.l.length*d.w.length≤100000000000) (hp:CH) (m:Nat) :
  MeetsF Tryz.prog 32 hp m [supx s,dx d,plx p] (.tp [vx (runV s d p).1,dx (runV s d p).2]):=by
 by_cases hk:p.k=2
 .exact tRun_mut s hs d hd p hk hl hpo (hB hk) hp m
 .exact tRun_qry s hs d hd p hk hl hpo hp m
set_option maxRecDepth 100000
def ck915:CC:=(q_ [o_ 4 (.bo (.t 0)) [0,5,6,7],o_ 5 (.bo (.t 1)) [1],o_ 6 (.bo (.t 2)) [2],o_ 7 (.bo (.t 3)) [3],o_ 8 (.al [.i .i64 0,.i .i64 0,.s ⟨#[]⟩,.e0,.e0]) [],o_ 9 (.mv (.c (.i .i64 0))) [9]] (q_ [a_ 20 6 2 [],o_ 21 (.cl 13 [.t 20]) [20],m_ 19 21 [21],o_ 22 (.ex (.t 19) 0) [],o_ 23 (.ex (.t 19) 1) [19],o_ 10 (.al [.s ⟨#[]⟩,.s ⟨#[]⟩,.s ⟨#[]⟩,.e0,.s ⟨#[]⟩,.e0,.s ⟨#[]⟩,.i .i64 0,.e0]) [],n_ (.st (.t 10) (.t 22) 9) [22],m_ 11 23 [23]] (.sq (q_ [m_ 24 11 [],o_ 25 (.bin .neq 0 (.t 24) (.c (.i .i64 0))) [24]] (.cd (.t 25) (q_ [o_ 26 (.bd [.i .i64 0,.i .i64 0,.s ⟨#[]⟩,.e0,.e0] []) [4,5,6,7,10,25],m_ 27 11 [11],n_ (.st (.t 8) (.t 26) 5) [26],m_ 9 27 [27]] .rt) .skip)) (q_ [a_ 28 5 2 [5,11,25],o_ 29 (.cl 35 [.t 28]) [28],o_ 12 (.al [.e0,.e0]) [],n_ (.st (.t 12) (.t 29) 2) [29]] (q_ [a_ 31 12 2 [],o_ 32 (.cl 36 [.t 31,.c (.s ⟨#[83,117,98,115,99,114,105,112,116,105,111,110]⟩)]) [31],m_ 30 32 [32],o_ 33 (.ex (.t 30) 0) [],o_ 34 (.ex (.t 30) 1) [30],m_ 13 33 [33],m_ 14 34 [34]] (.sqw (q_ [m_ 35 14 [14]] (.cd (.t 35) (.sqw (.dr [d_ 36 (.fa (.t 10) 2),⟨l_ 37 36 1 [],[],true,[]⟩,⟨a_ 38 4 4 [],[],true,[]⟩,⟨a_ 39 12 2 [],[],true,[]⟩,d_ 40 (.mv (.t 13)),⟨a_ 41 10 9 [],[],true,[]⟩,⟨o_ 42 (.cl 37 [.t 38,.t 39,.t 40,.t 41]) [],[1],true,[]⟩,⟨a_ 43 7 5 [],[6],true,[]⟩,⟨o_ 44 (.cl 38 [.t 43]) [],[1],true,[6]⟩,d_ 45 (.bd [.s ⟨#[]⟩,.s ⟨#[]⟩,.i .i64 0,.i .i64 0,.s ⟨#[]⟩,.e0,.e0] [(0,(1,(.t 37))),(1,(1,(.t 42))),(2,(5,(.t 44)))]),⟨o_ 15 (.al [.s ⟨#[]⟩,.s ⟨#[]⟩,.i .i64 0,.i .i64 0,.s ⟨#[]⟩,.e0,.e0]) [],[1,2,3,5,6,7,8],false,[]⟩,⟨n_ (.st (.t 15) (.t 45) 7) [],[],false,[]⟩] [7,10,35,36,37,38,39,40,41,42,43,44,45]) (.dr [d_ 46 (.fa (.t 12) 0),⟨l_ 47 46 1 [],[],true,[]⟩,d_ 48 (.mv (.t 13)),d_ 49 (.ld (.t 15) 7 true),⟨o_ 50 (.bs false 7 [.t 49]) [],[1],true,[]⟩,d_ 51 (.fa (.t 12) 0),⟨l_ 52 51 1 [],[4],false,[]⟩,d_ 53 (.mv (.t 13)),⟨o_ 54 (.ia (.t 52) (.t 53) 2) [],[4],false,[]⟩,d_ 55 (.fa (.t 54) 1),⟨l_ 56 55 1 [],[4],false,[]⟩,⟨o_ 57 (.ap (.t 50) (.t 56) 7 112) [],[1],false,[]⟩,d_ 58 (.ia (.t 47) (.t 48) 2),d_ 59 (.fa (.t 58) 1),⟨n_ (.st (.t 59) (.t 57) 1) [],[],false,[]⟩] [13,15,46,47,48,49,50,51,52,53,54,55,56,57,58,59])) (.sq (.dr [d_ 60 (.fa (.t 10) 2),⟨l_ 61 60 1 [],[],true,[]⟩,d_ 62 (.fa (.t 10) 3),⟨l_ 63 62 1 [],[],true,[]⟩,⟨o_ 64 (.cl 39 [.t 63]) [],[1],true,[]⟩,⟨a_ 65 7 5 [],[4],true,[]⟩,⟨o_ 66 (.cl 38 [.t 65]) [],[1],true,[4]⟩,d_ 67 (.bd [.s ⟨#[]⟩,.s ⟨#[]⟩,.i .i64 0,.i .i64 0,.s ⟨#[]⟩,.e0,.e0] [(0,(1,(.t 61))),(1,(1,(.t 64))),(2,(5,(.t 66)))]),⟨o_ 16 (.al [.s ⟨#[]⟩,.s ⟨#[]⟩,.i .i64 0,.i .i64 0,.s ⟨#[]⟩,.e0,.e0]) [],[1,3,4,5,6],false,[]⟩,⟨n_ (.st (.t 16) (.t 67) 7) [],[],false,[]⟩] [7,10,13,35,60,61,62,63,64,65,66,67]) (.rg [f_ 68 12 0 [],l_ 69 68 1 [68],a_ 70 16 7 [16],o_ 71 (.bs true 7 [.t 70]) [70],o_ 72 (.bd [.s ⟨#[]⟩,.e0] [(0,(1,(.c (.s ⟨#[83,117,98,115,99,114,105,112,116,105,111,110]⟩)))),(1,(1,(.t 71)))]) [71],o_ 73 (.bs true 2 [.t 72]) [72],o_ 74 (.ap (.t 69) (.t 73) 2 40) [69,73],f_ 75 12 0 [],n_ (.st (.t 75) (.t 74) 1) [74,75]])))) (q_ [a_ 77 4 4 [4],a_ 78 12 2 [12],a_ 79 6 2 [6],o_ 80 (.cl 40 [.t 77,.t 78,.t 79]) [77,78,79],m_ 76 80 [80],o_ 81 (.ex (.t 76) 0) [],o_ 82 (.ex (.t 76) 1) [76],o_ 17 (.al [.i .i64 0,.i .i64 0,.s ⟨#[]⟩,.e0,.e0]) [],o_ 18 (.al [.e0,.e0]) [],n_ (.st (.t 17) (.t 81) 5) [81],n_ (.st (.t 18) (.t 82) 2) [18,82]] (q_ [a_ 83 17 5 [17],n_ (.st (.t 8) (.t 83) 5) [83],o_ 9 (.mv (.c (.i .i64 0))) []] .rt))))))))
theorem cc915:(Tryz.f15.body.bind (ccode Tryz.prog 84))=some ck915.erase:=by kernel_rfl
theorem cr915:rsv Tryz.prog 84 Tryz.f15.results.toList=some [(.c 8 5 true),(.t 9)]:=by kernel_rfl
def ck933:CC:=(q_ [o_ 4 (.bo (.t 0)) [0,5,6,7],o_ 5 (.bo (.t 1)) [1],o_ 6 (.bo (.t 2)) [2],o_ 7 (.bo (.t 3)) [3],o_ 8 (.al [.e0,.e0]) []] (.sq (.dr [d_ 14 (.fa (.t 5) 0),⟨l_ 15 14 1 [],[],true,[]⟩,⟨o_ 16 (.ap (.c .e0) (.t 15) 2 40) [],[],true,[]⟩,d_ 17 (.fa (.t 5) 1),⟨l_ 18 17 1 [],[2],true,[]⟩,d_ 19 (.bd [.e0,.e0] [(0,(1,(.t 16))),(1,(1,(.t 18)))]),⟨o_ 9 (.al [.e0,.e0]) [],[1,2,4],false,[]⟩,⟨n_ (.st (.t 9) (.t 19) 2) [],[],false,[]⟩] [14,15,16,17,18,19]) (q_ [a_ 21 5 2 [],o_ 22 (.cl 51 [.t 21,.c (.s ⟨#[83,117,98,115,99,114,105,112,116,105,111,110]⟩)]) [21],m_ 20 22 [22],o_ 23 (.ex (.t 20) 0) [],o_ 24 (.ex (.t 20) 1) [20],m_ 10 23 [23],m_ 11 24 [24]] (.sq (q_ [m_ 25 11 [11],o_ 26 (.un .not (.t 25)) [25]] (.cd (.t 26) (.sq (.dr [d_ 27 (.fa (.t 6) 2),⟨l_ 28 27 1 [],[],true,[]⟩,d_ 29 (.fa (.t 6) 3),⟨l_ 30 29 1 [],[],true,[]⟩,⟨o_ 31 (.cl 54 [.t 30]) [],[1],true,[]⟩,⟨a_ 32 7 5 [],[4],true,[]⟩,d_ 33 (.bd [.s ⟨#[]⟩,.s ⟨#[]⟩,.i .i64 0,.i .i64 0,.s ⟨#[]⟩,.e0,.e0] [(0,(1,(.t 28))),(1,(1,(.t 31))),(2,(5,(.t 32)))]),⟨o_ 12 (.al [.s ⟨#[]⟩,.s ⟨#[]⟩,.i .i64 0,.i .i64 0,.s ⟨#[]⟩,.e0,.e0]) [],[1,3,4,5],false,[]⟩,⟨n_ (.st (.t 12) (.t 33) 7) [],[],false,[]⟩] [4,5,6,7,10,26,27,28,29,30,31,32,33]) (q_ [f_ 34 9 0 [],l_ 35 34 1 [34],a_ 36 12 7 [12],o_ 37 (.bs true 7 [.t 36]) [36],o_ 38 (.bd [.s ⟨#[]⟩,.e0] [(0,(1,(.c (.s ⟨#[83,117,98,115,99,114,105,112,116,105,111,110]⟩)))),(1,(1,(.t 37)))]) [37],o_ 39 (.bs true 2 [.t 38]) [38],o_ 40 (.ap (.t 35) (.t 39) 2 40) [35,39],f_ 41 9 0 [],n_ (.st (.t 41) (.t 40) 1) [40,41]] (q_ [a_ 42 9 2 [9],n_ (.st (.t 8) (.t 42) 2) [42]] .rt))) .skip)) (.sqw (.dr [d_ 43 (.fa (.t 6) 2),⟨l_ 44 43 1 [],[],true,[]⟩,⟨a_ 45 4 4 [],[],true,[]⟩,⟨a_ 46 5 2 [],[],true,[]⟩,d_ 47 (.mv (.t 10)),⟨a_ 48 6 9 [],[],true,[]⟩,⟨o_ 49 (.cl 76 [.t 45,.t 46,.t 47,.t 48]) [],[1],true,[]⟩,⟨a_ 50 7 5 [],[6],true,[]⟩,d_ 51 (.bd [.s ⟨#[]⟩,.s ⟨#[]⟩,.i .i64 0,.i .i64 0,.s ⟨#[]⟩,.e0,.e0] [(0,(1,(.t 44))),(1,(1,(.t 49))),(2,(5,(.t 50)))]),⟨o_ 13 (.al [.s ⟨#[]⟩,.s ⟨#[]⟩,.i .i64 0,.i .i64 0,.s ⟨#[]⟩,.e0,.e0]) [],[1,2,3,5,6,7],false,[]⟩,⟨n_ (.st (.t 13) (.t 51) 7) [],[],false,[]⟩] [4,5,6,7,26,43,44,45,46,47,48,49,50,51]) (.sqw (.dr [d_ 52 (.fa (.t 9) 0),⟨l_ 53 52 1 [],[],true,[]⟩,d_ 54 (.mv (.t 10)),d_ 55 (.ld (.t 13) 7 true),⟨o_ 56 (.bs false 7 [.t 55]) [],[1],true,[]⟩,d_ 57 (.fa (.t 9) 0),⟨l_ 58 57 1 [],[4],false,[]⟩,d_ 59 (.mv (.t 10)),⟨o_ 60 (.ia (.t 58) (.t 59) 2) [],[4],false,[]⟩,d_ 61 (.fa (.t 60) 1),⟨l_ 62 61 1 [],[4],false,[]⟩,⟨o_ 63 (.ap (.t 56) (.t 62) 7 112) [],[1],false,[]⟩,d_ 64 (.ia (.t 53) (.t 54) 2),d_ 65 (.fa (.t 64) 1),⟨n_ (.st (.t 65) (.t 63) 1) [],[],false,[]⟩] [10,13,52,53,54,55,56,57,58,59,60,61,62,63,64,65]) (q_ [a_ 66 9 2 [9],n_ (.st (.t 8) (.t 66) 2) [66]] .rt)))))))
theorem cc933:(Tryz.f33.body.bind (ccode Tryz.prog 67))=some ck933.erase:=by kernel_rfl
theorem cr933:rsv Tryz.prog 67 Tryz.f33.results.toList=some [(.c 8 2 true)]:=by kernel_rfl
set_option maxRecDepth 20000
set_option maxHeartbeats 2000000
theorem weak_close {env:EN} {hp:CH} {n k g mm:Nat} {l l':List (List AV)} (hk:gc hp k=.rn g mm l) (hl:l'.length=l.length) (hc:∀(j:Nat) e,l[j]?=some e→∃e',l'[j]?=some e'∧cvT hp e=some e'):Weak ⟨env,hp,n⟩ ⟨env,(k,.rw g mm l')::hp,n⟩:=by
 rintro C a w ⟨h,ρ,s⟩
 have m':=s.mem.close hk hl hc
 exact ⟨h,ρ,s.hle,s.rle,s.keep,fun b hb=>s.own b (live_recast (hp:=hp) (fun j e=>by rw [show gc hp k=.rn g mm l from hk];exact e) b hb),m',s.env,s.size,s.defers⟩
theorem weak_shut {env:EN} {hp:CH} {n k g m:Nat} {l:List (List AV)} (hk:gc hp k=.rw g m l):Weak ⟨env,hp,n⟩ ⟨env,(k,.sh g m l)::hp,n⟩:=by
 rintro C a w ⟨h,ρ,s⟩
 obtain ⟨h',a1,s'⟩:=s.shutC (.rw k g 0)
 have hs:Eng.shutC hp (.rw k g 0)=(k,.sh g m l)::hp:=by simp [Eng.shutC,hk]
 exact ⟨h',ρ,by rw [←hs];exact s'⟩
theorem cvA_ds (hp:CH) (l:List (List AV)):cvA hp (.ds l)=some (.ds l):=by simp [cvA,pureC,AV.pur,AV.one]
theorem cvT_it {hp:CH} (x:Itm):cvT hp (itC x)=some (itC x):=by
 show cvT hp [.s x.t,.ds (mapC celC x.l)]=_
 rw [cvT,cvT,cvT,cvA_s,cvA_ds]
 rfl
theorem close_it {hp:CH} {d:List Itm} {j:Nat} {it:Itm} {L:List Cel} {k g:Nat} (ej:d[j]?=some it) (hk:gc hp k=.sh g 7 (mapC celC L)) :
  ((mapC itC (d.set j (.mk it.t L))).length=((mapC itC d).set j [.s it.t,.rw k g L.length]).length) ∧
  ∀(i:Nat) e,((mapC itC d).set j [.s it.t,.rw k g L.length])[i]?=some e→∃e',(mapC itC (d.set j (.mk it.t L)))[i]?=some e'∧cvT hp e=some e':=by
 refine ⟨by simp [mapC],fun i e he=>?_⟩
 have hj:j<d.length:=(zlb.1 ej).1
 rw [List.getElem?_set] at he
 by_cases c:j=i
 .subst c
  rw [if_pos rfl,if_pos (by simpa [mapC] using hj)] at he
  cases he
  refine ⟨itC (.mk it.t L),mapC_get itC (by rw [List.getElem?_set,if_pos rfl,if_pos hj]),?_⟩
  rw [cvT,cvT,cvT,cvA_s,cvA_sh hk (by rw [mapC_len])]
  rfl
 .rw [if_neg c] at he
  have hi:i<d.length:=by have:=(zlb.1 he).1;simpa [mapC] using this
  rw [mapC_get itC (zlg hi)] at he
  cases he
  exact ⟨_,mapC_get itC (by rw [List.getElem?_set,if_neg c,zlg hi]),cvT_it _⟩
theorem snoc_it (l:List Itm) (t:ByteArray) (cs:List Cel):mapC itC l++[[AV.s t,.ds (mapC celC cs)]]=mapC itC (l++[.mk t cs]):=mapC_snoc itC l (.mk t cs)
theorem itemI_none {d:Dat} {root:ByteArray} (h:¬0≤itemI d root):itemI d root=-1:=by
 rcases fidx_lt (fun x:Itm=>decide (x.t=root)) d.i 0 with h1 | h1
 .exact h1
 .exact absurd (by have:=h1.1;unfold itemI;omega) h
theorem swith_ok (s:Sup) (hs:SOk s) (d:Dat) {B:Nat} (hd:DOk d B) (hi:d.i.length≤1048576) (hB:B≤1000000000) (x:Pk) (hx:AOk x.args) (v:Val) (hp:CH) (m:Nat) :
  MeetsF Tryz.prog 33 hp m [supx s,dx d,pkx x,vx v] (dx (withD s d x v)):=by
 have hRt:=dRoot_ok d hd.f.f sSub
 change ∀hp m,MeetsF Tryz.prog 51 hp m [dx d,.s sSub] (resI (itemI d sSub)) at hRt
 unfold sSub at hRt
 have hTx:=tText_ok x.args (fun a h=>(hx.v a h).ok) (Nat.le_trans hx.b (by omega)) (Nat.le_trans hx.n (by omega))
 have li:(mapC itC d.i).length=d.i.length:=mapC_len _ _
 have k1:(0+d.i.length)*40≤140737488355328:=by omega
 have k2:0+d.i.length≤9223372036854775807:=by omega
 have k3:d.i.length*40≤140737488355328:=by omega
 have k4:d.i.length≤9223372036854775807:=by omega
 have k5:(d.i.length+1)*40≤140737488355328:=by omega
 have k6:d.i.length+1≤9223372036854775807:=by omega
 by_cases c:0≤itemI d sSub
 .obtain ⟨j,it,h1,h2,h3⟩:=itemI_get c
  have hjl:j<d.i.length:=(zlb.1 h2).1
  have hAr:=tArgs_ok s hs d hd j x hx
  have hcl:=hd.c it (List.mem_of_getElem? h2)
  have q1:(1+it.l.length)*112≤140737488355328:=by omega
  have q2:1+it.l.length≤9223372036854775807:=by omega
  have q3:(it.l.length+1)*112≤140737488355328:=by omega
  have lc:(mapC celC it.l).length=it.l.length:=mapC_len _ _
  rw [withD_found h1 h2]
  have hrw:(itemI d ⟨#[83,117,98,115,99,114,105,112,116,105,111,110]⟩)=(j:Int):=h1
  rw [hrw] at hRt
  obtain ⟨A,hA⟩:∃A,ofL (argT s d j x)=A:=⟨_,rfl⟩
  rw [hA] at hAr ⊢
  refine meetsF Tryz.func33 (by kernel_rfl) cc933 cr933 rfl fun hf=>?_;unfold ck933
  simp (disch:=omega) only [ite_ne,li,k1,k2,k3,k4,go_sem,↓reduceIte,Za,Zb,Zc,Zd,Ze,reduceCtorEq,Zf,Zg,Zh,Zi,Zj,Zk]
  refine vcCall.f (hRt _ _) ?_
  simp (disch:=omega) only [ite_ne,li,hjl,go_sem,↓reduceIte,Za,Zb,Zc,Zd,Ze,reduceCtorEq,Zf,Zg,Zh,Zi,Zj,Zk]
  refine dCallR.f (fun _ _ _=>hAr _ _) ?_
  simp (disch:=omega) only [ite_ne,li,hjl,go_sem,↓reduceIte,Za,Zb,Zc,Zd,Ze,reduceCtorEq,Zf,Zg,Zh,Zi,Zj,Zk]
  refine wk_of (weak_rn (k:=m+7) (g:=0) (mm:=2) (l:=mapC itC d.i) ?_) ?_
  .simp (disch:=omega) only [ite_ne,li,go_sem,↓reduceIte,Za,Zb,Zc,Zd,Ze,reduceCtorEq,Zf,Zg,Zh,Zi,Zj,Zk]
  simp (disch:=omega) only [ite_ne,li,hjl,getK_s (mapC_get itC h2),lc,q1,q2,q3,go_sem,↓reduceIte,Za,Zb,Zc,Zd,Ze,reduceCtorEq,Zf,Zg,Zh,Zi,Zj,Zk]
  rw [mapC_get itC h2]
  simp (disch:=omega) only [ite_ne,li,hjl,go_sem,↓reduceIte,Za,Zb,Zc,Zd,Ze,reduceCtorEq,Zf,Zg,Zh,Zi,Zj,Zk]
  rw [Nat.add_comm 1 it.l.length]
  refine wk_of ((weak_shut (k:=m+28) (g:=1) (m:=7) (l:=mapC celC (.mk x.name A v::it.l)) ?_).trans (weak_close (k:=m+7) (g:=0) (mm:=2) (l:=(mapC itC d.i).set j [.s it.t,.rw (m+28) 1 (it.l.length+1)]) (l':=mapC itC (d.i.set j (.mk it.t (.mk x.name A v::it.l)))) ?_ ?_ ?_)) ?_
  .simp (disch:=omega) only [ite_ne,go_sem,↓reduceIte,Za,Zb,Zc,Zd,Ze,reduceCtorEq,Zf,Zg,Zh,Zi,Zj,Zk]
  .simp (disch:=omega) only [ite_ne,hjl,go_sem,↓reduceIte,Za,Zb,Zc,Zd,Ze,reduceCtorEq,Zf,Zg,Zh,Zi,Zj,Zk]
  .simp [mapC]
  .exact (close_it (L:=.mk x.name A v::it.l) h2 (by (simp (disch:=omega) only [ite_ne,hjl,go_sem,↓reduceIte,Za,Zb,Zc,Zd,Ze,reduceCtorEq,Zf,Zg,Zh,Zi,Zj,Zk]))).2
  .have ls:(mapC itC (d.i.set j (.mk it.t (.mk x.name A v::it.l)))).length=d.i.length:=by rw [mapC_len,List.length_set]
   simp (disch:=omega) only [ite_ne,ls,hjl,go_sem,↓reduceIte,Za,Zb,Zc,Zd,Ze,reduceCtorEq,Zf,Zg,Zh,Zi,Zj,Zk]
   rfl
 .have hrw:(itemI d ⟨#[83,117,98,115,99,114,105,112,116,105,111,110]⟩)=(-1:Int):=itemI_none c
  rw [hrw] at hRt
  rw [withD_none c]
  obtain ⟨A,hA⟩:∃A,ofL (argsL x.args)=A:=⟨_,rfl⟩
  rw [hA] at hTx ⊢
  refine meetsF Tryz.func33 (by kernel_rfl) cc933 cr933 rfl fun hf=>?_;unfold ck933
  simp (disch:=omega) only [ite_ne,li,k1,k2,k3,k4,go_sem,↓reduceIte,Za,Zb,Zc,Zd,Ze,reduceCtorEq,Zf,Zg,Zh,Zi,Zj,Zk]
  refine vcCall.f (hRt _ _) ?_
  simp (disch:=omega) only [ite_ne,li,go_sem,↓reduceIte,Za,Zb,Zc,Zd,Ze,reduceCtorEq,Zf,Zg,Zh,Zi,Zj,Zk]
  refine dCallR.f (fun _ _ _=>hTx _ _) ?_
  simp (disch:=omega) only [ite_ne,li,k5,k6,go_sem,↓reduceIte,Za,Zb,Zc,Zd,Ze,reduceCtorEq,Zf,Zg,Zh,Zi,Zj,Zk]
  have e:mapC itC d.i++[[AV.s ⟨#[83,117,98,115,99,114,105,112,116,105,111,110]⟩,AV.ds [[AV.s x.name,AV.s A,AV.i IntKind.i64 v.k,AV.i IntKind.i64 v.n,AV.s v.s,AV.ds (mapC valC v.items),AV.ds (stC v.keys)]]]]=mapC itC (d.i++[.mk sSub [.mk x.name A v]]):=snoc_it d.i sSub [.mk x.name A v]
  have l1:(mapC itC (d.i++[.mk sSub [.mk x.name A v]])).length=d.i.length+1:=by rw [mapC_len];simp
  have l2:List.take (d.i.length+1) (mapC itC (d.i++[.mk sSub [.mk x.name A v]]))=mapC itC (d.i++[.mk sSub [.mk x.name A v]]):=List.take_of_length_le (by omega)
  rw [e]
  simp (disch:=omega) only [ite_ne,l1,l2,go_sem,↓reduceIte,Za,Zb,Zc,Zd,Ze,reduceCtorEq,Zf,Zg,Zh,Zi,Zj,Zk]
  rfl
theorem nest_out {f:FuncId} {d:Dat} {hp:CH} {m:Nat} {args:List AV} (hfr:∀k,m≤k→gc hp k=.no) (h:Meets Tryz.prog f hp m args (NestR d m hp)) :
  MeetsX Tryz.prog f hp m args ((m,.rw 0 2 (mapC itC d.i))::hp) (m+1) (.ag [.rw m 0 d.i.length,.ds (mapC wrC d.w)]):=by
 refine Meets.out (outs:=[(2,mapC itC d.i)]) (hp1:=hp) (fun k hk=>.inl rfl) hfr ?_
 refine Meets.post h fun hp' n' r h ρ w v ⟨ko,go,A,kw,gw,hr,h1,h2,h3,⟨h4,h4'⟩,⟨h5,h5'⟩,hN,hF⟩ hs hrel=>?_
 subst hr
 have hget:=hN.get
 have hlen:=hN.len
 obtain ⟨ks,hks⟩:∃ks:List AV,ks=A.map fun e=>e.getD 1 .un:=⟨_,rfl⟩
 have hin:∀(i:Nat) t k g z,A[i]?=some [.s t,.rw k g z]→AV.rw k g z∈ks:=fun i t k g z e=>by
  rw [hks]
  exact List.mem_map.2 ⟨_,List.mem_of_getElem? e,rfl⟩
 have hge:∀α∈ks,∀k g len,α=.rw k g len→m≤k:=fun α hα k g len e=>by
  rw [hks] at hα
  obtain ⟨x,hx,rfl⟩:=List.mem_map.1 hα
  obtain ⟨i,hi,rfl⟩:=List.mem_iff_getElem.1 hx
  obtain ⟨k',g',q1,q2,q3,q4⟩:=hget i (d.i[i]'(by omega)) (by simp)
  rw [zlg hi] at q3
  simp only [Option.some.injEq] at q3
  rw [q3] at e
  simp only [List.getD_cons_succ,List.getD_cons_zero,AV.rw.injEq] at e
  omega
 have hko:gc (shutL hp' ks) ko=.rn go 2 A:=by
  rcases gc_shutL (k:=ko) (l:=ks) (hp:=hp') with e | e<;>rw [e,h1]<;>rfl
 have hkw:gc (shutL hp' ks) kw=.rw gw 10 (mapC wrC d.w)∨gc (shutL hp' ks) kw=.sh gw 10 (mapC wrC d.w):=by
  rcases gc_shutL (k:=kw) (l:=ks) (hp:=hp') with e | e
  .exact .inl (by rw [e,h2])
  .exact .inr (by rw [e,h2];rfl)
 have hup:Up m hp (shutL hp' ks):=fun k hk=>by
  rw [gc_shutL_not fun α hα g len e=>by have:=hge α hα k g len e;omega]
  exact h3 k hk
 have hne:ko≠kw:=fun e=>by subst e;rw [h1] at h2;cases h2
 obtain ⟨h9,a1,a2,a3⟩:=hs.shutL (h:=h) ks
 have e2:(mapC itC d.i).length=A.length:=by rw [mapC_len,hlen]
 have e3:∀(j:Nat) e,A[j]?=some e→∃e',(mapC itC d.i)[j]?=some e'∧cvT (shutL hp' ks) e=some e':=fun j e he=>by
  have hj:j<d.i.length:=by rw [←hlen];exact (zlb.1 he).1
  obtain ⟨k,g,q1,q2,q3,q4⟩:=hget j d.i[j] (by simp [hj])
  rw [he] at q3
  simp only [Option.some.injEq] at q3
  subst q3
  refine ⟨itC d.i[j],mapC_get itC (by simp [hj]),?_⟩
  have hs:gc (shutL hp' ks) k=.sh g 7 (mapC celC d.i[j].l):=gc_shutL_in ⟨_,hin j _ k g _ he⟩ (.inl q4)
  rw [cvT,cvT,cvT,cvA_s,cvA_sh hs (by rw [mapC_len])]
  rfl
 refine ⟨h9,ρ,(ko,.rw go 2 (mapC itC d.i))::shutL hp' ks,n',_,?_,a1,RLe.refl _,a2.close hko e2 e3,hrel.mono a1 (RLe.refl _),fun b hb=>a3 b (live_recast (hp:=shutL hp' ks) (fun j e=>by rw [hko];exact e) b hb)⟩
 obtain ⟨S,hS⟩:∃S,shutL hp' ks=S:=⟨_,rfl⟩
 rw [hS] at hko hkw hup ⊢
 have up1:Up m hp ((ko,.rw go 2 (mapC itC d.i))::S):=up_in hup h4
 have s1:shX ((ko,.rw go 2 (mapC itC d.i))::S) (rcells (.ag [.rw m 0 d.i.length,.ds (mapC wrC d.w)])) (rcells (.ag [.rw ko go d.i.length,.rw kw gw d.w.length]))=shutC ((ko,.rw go 2 (mapC itC d.i))::S) (.rw kw gw d.w.length):=rfl
 unfold outF
 rw [s1]
 have lt2:List.take d.w.length (mapC wrC d.w)=mapC wrC d.w:=List.take_of_length_le (by rw [mapC_len];exact Nat.le_refl _)
 have lw:d.w.length≤(mapC wrC d.w).length:=by rw [mapC_len];exact Nat.le_refl _
 rcases hkw with e | e
 .have e3:shutC ((ko,.rw go 2 (mapC itC d.i))::S) (.rw kw gw d.w.length)=(kw,.sh gw 10 (mapC wrC d.w))::(ko,.rw go 2 (mapC itC d.i))::S:=by
   simp [shutC,gc_ne _ _ hne,e]
  rw [e3]
  refine ⟨up_in up1 h5,?_⟩
  simp only [fR_ag,fA_ag,fL_cons,fL_nil,fC_rw,fC_ds,noMore_eq,nsel_nil,gc_ne _ _ hne,gc_same,List.length_nil,Nat.add_zero]
  refine ⟨trivial,trivial,trivial,h4,trivial,by simp [gc_ne _ _ hne,gc_ne _ _ (Ne.symm hne),gc_same],?_,trivial⟩
  have ep:pureC ((kw,.sh gw 10 (mapC wrC d.w))::(ko,.rw go 2 (mapC itC d.i))::S) (.rw kw gw d.w.length)=some (.ds (mapC wrC d.w)):=by
   simp [pureC,gc_same,mapC_len,lt2]
  rw [ep]
  rfl
 .have e3:shutC ((ko,.rw go 2 (mapC itC d.i))::S) (.rw kw gw d.w.length)=(ko,.rw go 2 (mapC itC d.i))::S:=by
   simp [shutC,gc_ne _ _ hne,e]
  rw [e3]
  refine ⟨up1,?_⟩
  simp only [fR_ag,fA_ag,fL_cons,fL_nil,fC_rw,fC_ds,noMore_eq,nsel_nil,gc_ne _ _ hne,gc_same,List.length_nil,Nat.add_zero]
  refine ⟨trivial,trivial,trivial,h4,trivial,trivial,?_,trivial⟩
  have ep:pureC ((ko,.rw go 2 (mapC itC d.i))::S) (.rw kw gw d.w.length)=some (.ds (mapC wrC d.w)):=by
   simp [pureC,gc_ne _ _ hne,gc_ne _ _ (Ne.symm hne),e,mapC_len,lt2]
  rw [ep]
  rfl
theorem rclone_x (d:Dat) (hd:d.Fit) (hw:d.w.length≤100000000000) {hp:CH} {m:Nat} (hfr:∀k,m≤k→gc hp k=.no):MeetsX Tryz.prog 35 hp m [dx d] ((m,.rw 0 2 (mapC itC d.i))::hp) (m+1) (.ag [.rw m 0 d.i.length,.ds (mapC wrC d.w)]):=nest_out hfr (rclone_ok d hd hw hp m)
end Go.Proofs.YtinbodeocoeneaaGreatDoor
