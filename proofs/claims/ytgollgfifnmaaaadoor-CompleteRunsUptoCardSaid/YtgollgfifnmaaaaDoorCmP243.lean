/- Proof. Conditions: none. -/
import Derived.Test.YtgollgfifnmaaaaDoorProg
import Derived.KernelRfl
import Derived.Test.YtgollgfifnmaaaaDoorCmP242
namespace Go.Proofs.YtgollgfifnmaaaaDoor
open Go.Eng
set_option linter.all false
set_option maxRecDepth 20000
def RgtW:List Int→Prop
 | []=>True
 | [_]=>True
 | a::b::r=>¬(a=1∧b=1)∧RgtW (b::r)
inductive Good:List Pk→Prop
 | mk (l:List Pk):(∀(i j:Nat) p q,i<j→l[i]?=some p→l[j]?=some q→¬(p.on=q.on∧p.key=q.key))→(∀p∈l,RgtW p.tw)→(∀p∈l,Good p.picks)→Good l
theorem Good.d {l:List Pk}:Good l→∀(i j:Nat) p q,i<j→l[i]?=some p→l[j]?=some q→¬(p.on=q.on∧p.key=q.key) | .mk _ h _ _=>h
theorem Good.r {l:List Pk}:Good l→∀p∈l,RgtW p.tw | .mk _ _ h _=>h
theorem Good.x {l:List Pk}:Good l→∀p∈l,Good p.picks | .mk _ _ _ h=>h
theorem mem_lsR:∀(fs:List CFn) (j:Nat) (tn:ByteArray) (tw:List Int) (picks:List Pk) (path:List Val) (r:CRes),r∈lsR fs j tn tw picks path→∃(i:Nat) (f:CFn),fs[i]?=some f∧r=f tn tw picks (path++[inV (j+i:Nat)])∧(lsR fs j tn tw picks path)[i]?=some r
 | [],j,tn,tw,picks,path,r,h=>by rw [lsR] at h;cases h
 | f::fs,j,tn,tw,picks,path,r,h=>by
  rw [lsR] at h
  rcases List.mem_cons.1 h with rfl | h
  .exact ⟨0,f,rfl,rfl,by rw [lsR];exact List.getElem?_cons_zero⟩
  .obtain ⟨i,g,h1,h2,h3⟩:=mem_lsR fs (j+1) tn tw picks path r h
   refine ⟨i+1,g,by simpa using h1,?_,by rw [lsR];simpa using h3⟩
   rw [h2]
   have:(j+1+i:Nat)=j+(i+1):=by omega
   rw [this]
theorem cplV_cases {doc:List Dfn} {v:Val} {tn:ByteArray} {tw:List Int} {picks:List Pk} {path:List Val} {Q:CRes→Prop} (h1:∀s,(v.k≠0)→Q (failR path s)) (h2:v.k=0→Q (nulR tw path))
  (h3:v.k=5→lstW (nulW tw)=true→Q (listR (v.items.map (cplV doc)) tn (innW (nulW tw)) picks path)) (h4:v.k≠0→lstW (nulW tw)=false→leafB doc tn=true→∀x,leafC doc tn v=some x→Q (x,[]))
  (h5:v.k=6→lstW (nulW tw)=false→leafB doc tn=false→∀on,typO v=some on→compB doc tn=true→on∈posL doc tn→Q (objR v.keys (v.items.map (cplV doc)) on picks path)):Q (cplV doc v tn tw picks path):=by
 rw [cplV_eq,cplB]
 split
 .rename_i c;exact h1 _ (by omega)
 split
 .rename_i c;exact h2 c
 rename_i c9 c0
 split
 .rename_i c
  split
  .rename_i c5;exact h3 c5 c
  .exact h1 _ c0
 rename_i c
 have c:lstW (nulW tw)=false:=by simpa using c
 split
 .rename_i cl
  split
  .rename_i x hx;exact h4 c0 c cl x hx
  .exact h1 _ c0
 rename_i cl
 have cl:leafB doc tn=false:=by simpa using cl
 split
 .exact h1 _ c0
 .rename_i on hon
  split
  .rename_i hc;exact h5 (typO_k hon) c cl on hon hc.1 hc.2
  .exact h1 _ c0
theorem leafC_k {doc:List Dfn} {tn:ByteArray} {v x:Val} (h:leafC doc tn v=some x):1≤x.k∧x.k≤4∧x.items=[]∧x.keys=[]:=by
 unfold leafC scaC at h
 repeat' split at h
 all_goals first
  | (cases h;done)
  | (cases h;exact ⟨by first | (show (1:Int)≤2;decide) | (show (1:Int)≤3;decide) | (show (1:Int)≤4;decide) | (show (1:Int)≤1;decide),by first | (show (2:Int)≤4;decide) | (show (3:Int)≤4;decide) | (show (4:Int)≤4;decide) | (show (1:Int)≤4;decide),rfl,rfl⟩)
theorem obS_mem {doc:List Dfn} {v:Val} (h6:v.k=6) {on:ByteArray} {path:List Val} {picks:List Pk} {r:Pk × CRes} (h:r∈obS v.keys (v.items.map (cplV doc)) on path picks) :
  r.1∈picks∧r.1.on=on∧r.2=cplV doc ((getV v r.1.key).getD zVal) r.1.tn r.1.tw r.1.picks (path++[txV r.1.key]):=by
 unfold obS at h
 obtain ⟨p,hp,rfl⟩:=List.mem_map.1 h
 obtain ⟨h1,h2⟩:=List.mem_filter.1 hp
 exact ⟨h1,by simpa using h2,by rw [itF_get doc v h6]⟩
theorem RgtW.tail {w:List Int} (h:RgtW w):RgtW w.tail:=by
 cases w with
 | nil=>trivial
 | cons a w =>
  cases w with
  | nil=>trivial
  | cons b w=>exact h.2
set_option maxRecDepth 100000
def ck910:CC:=(q_ [o_ 0 (.mv (.c (.b false))) [0,1,2,3,4,5,6,7]] (q_ [o_ 11 (.bs false 1 [.c (.i .i64 1)]) [],o_ 12 (.bd [.s ⟨#[]⟩,.e0] [(0,(1,(.c (.s ⟨#[83,116,114,105,110,103]⟩)))),(1,(1,(.t 11)))]) [11],o_ 13 (.bd [.s ⟨#[]⟩,.e0,.s ⟨#[]⟩,.e0,.e0] [(0,(1,(.c (.s ⟨#[110,97,109,101]⟩)))),(2,(2,(.t 12)))]) [12],o_ 1 (.al [.s ⟨#[]⟩,.e0,.s ⟨#[]⟩,.e0,.e0]) [],n_ (.st (.t 1) (.t 13) 5) [13]] (q_ [o_ 14 (.bd [.s ⟨#[]⟩,.e0] [(0,(1,(.c (.s ⟨#[85,115,101,114]⟩))))]) [],o_ 15 (.bd [.s ⟨#[]⟩,.e0,.s ⟨#[]⟩,.e0,.e0] [(0,(1,(.c (.s ⟨#[109,101]⟩)))),(2,(2,(.t 14)))]) [14],o_ 2 (.al [.s ⟨#[]⟩,.e0,.s ⟨#[]⟩,.e0,.e0]) [],n_ (.st (.t 2) (.t 15) 5) [15]] (q_ [a_ 16 2 5 [],o_ 17 (.bs false 5 [.t 16]) [16],o_ 18 (.bd [.i .i64 0,.s ⟨#[]⟩,.e0,.e0,.e0,.e0,.e0] [(0,(1,(.c (.i .i64 1)))),(1,(1,(.c (.s ⟨#[81,117,101,114,121]⟩)))),(4,(1,(.t 17)))]) [17],a_ 19 1 5 [],o_ 20 (.bs false 5 [.t 19]) [19],o_ 21 (.bd [.i .i64 0,.s ⟨#[]⟩,.e0,.e0,.e0,.e0,.e0] [(0,(1,(.c (.i .i64 1)))),(1,(1,(.c (.s ⟨#[85,115,101,114]⟩)))),(4,(1,(.t 20)))]) [20],o_ 22 (.bs false 7 [.t 18,.t 21]) [18,21],o_ 23 (.bd [.e0] [(0,(1,(.t 22)))]) [22],o_ 3 (.al [.e0]) [],n_ (.st (.t 3) (.t 23) 1) [23]] (q_ [f_ 24 1 2 [1],a_ 25 24 2 [24],o_ 26 (.bd [.s ⟨#[]⟩,.s ⟨#[]⟩,.s ⟨#[]⟩,.e0,.s ⟨#[]⟩,.e0,.s ⟨#[]⟩,.i .i64 0,.e0] [(0,(1,(.c (.s ⟨#[110,97,109,101]⟩)))),(1,(1,(.c (.s ⟨#[85,115,101,114]⟩)))),(2,(1,(.c (.s ⟨#[110,97,109,101]⟩)))),(4,(2,(.t 25))),(7,(1,(.c (.i .i64 (-1)))))]) [25],o_ 4 (.al [.s ⟨#[]⟩,.s ⟨#[]⟩,.s ⟨#[]⟩,.e0,.s ⟨#[]⟩,.e0,.s ⟨#[]⟩,.i .i64 0,.e0]) [],n_ (.st (.t 4) (.t 26) 9) [26]] (.sqw (.rg [f_ 27 2 2 [2],a_ 28 27 2 [27],a_ 29 4 9 [4],o_ 30 (.bs false 9 [.t 29]) [29],o_ 31 (.bd [.s ⟨#[]⟩,.s ⟨#[]⟩,.s ⟨#[]⟩,.e0,.s ⟨#[]⟩,.e0,.s ⟨#[]⟩,.i .i64 0,.e0] [(0,(1,(.c (.s ⟨#[109,101]⟩)))),(1,(1,(.c (.s ⟨#[81,117,101,114,121]⟩)))),(2,(1,(.c (.s ⟨#[109,101]⟩)))),(4,(2,(.t 28))),(7,(1,(.c (.i .i64 (-1))))),(8,(1,(.t 30)))]) [28,30],o_ 32 (.bs false 9 [.t 31]) [31],m_ 5 32 [32]]) (.sq (.dr [⟨a_ 34 3 1 [],[],true,[]⟩,d_ 35 (.mv (.t 5)),d_ 36 (.bd [.i .i64 0,.i .i64 0,.s ⟨#[]⟩,.e0,.e0] []),⟨o_ 37 (.cl 29 [.c (.s ⟨#[85,115,101,114]⟩),.c (.s ⟨#[110,97,109,101]⟩),.t 36]) [],[0],true,[]⟩,⟨o_ 38 (.cl 29 [.c (.s ⟨#[81,117,101,114,121]⟩),.c (.s ⟨#[109,101]⟩),.t 37]) [],[0],true,[3]⟩,⟨o_ 39 (.cl 11 [.t 34,.c (.s ⟨#[81,117,101,114,121]⟩),.t 35,.t 38]) [],[],true,[4,3]⟩,d_ 33 (.mv (.t 39)),d_ 40 (.ex (.t 33) 0),d_ 41 (.ex (.t 33) 1),⟨o_ 6 (.al [.i .i64 0,.i .i64 0,.s ⟨#[]⟩,.e0,.e0]) [],[0,3,4,5],false,[]⟩,⟨n_ (.st (.t 6) (.t 40) 5) [],[],false,[]⟩,d_ 7 (.mv (.t 41))] [5,33,34,35,36,37,38,39,40,41]) (q_ [a_ 43 3 1 [3],o_ 44 (.bd [.i .i64 0,.i .i64 0,.s ⟨#[]⟩,.e0,.e0] [(0,(1,(.c (.i .i64 2)))),(1,(1,(.c (.i .i64 7))))]) [],o_ 45 (.cl 17 [.t 43,.c (.s ⟨#[73,68]⟩),.t 44]) [43,44],m_ 42 45 [45],o_ 46 (.ex (.t 42) 0) [],o_ 47 (.ex (.t 42) 1) [42],o_ 8 (.al [.i .i64 0,.i .i64 0,.s ⟨#[]⟩,.e0,.e0]) [],n_ (.st (.t 8) (.t 46) 5) [46],m_ 9 47 [47]] (q_ [o_ 48 (.bd [.i .i64 0,.i .i64 0,.s ⟨#[]⟩,.e0,.e0] []) [],o_ 49 (.cl 19 [.t 48,.c .e0]) [48],o_ 10 (.al [.i .i64 0,.i .i64 0,.s ⟨#[]⟩,.e0,.e0]) [],n_ (.st (.t 10) (.t 49) 5) [49]] (.sq (q_ [m_ 50 7 [],o_ 51 (.ln false (.t 50)) [50],o_ 52 (.bin .neq 0 (.t 51) (.c (.i .i64 1))) [51],m_ 53 52 [52],g_ 54 (.mv (.t 7)) 53 false [],g_ 55 (.ia (.t 54) (.c (.i .i64 0)) 2) 53 false [54],g_ 56 (.fa (.t 55) 0) 53 false [55],g_ 57 (.ld (.t 56) 1 false) 53 false [56],g_ 58 (.ln false (.t 57)) 53 false [57],g_ 59 (.bin .neq 0 (.t 58) (.c (.i .i64 2))) 53 false [58],o_ 60 (.pk (.t 53) (.c (.b true)) (.t 59)) [53,59],m_ 61 60 [60],g_ 62 (.fa (.t 6) 4) 61 false [],g_ 63 (.ld (.t 62) 1 false) 61 false [62],g_ 64 (.ln false (.t 63)) 61 false [63],g_ 65 (.bin .neq 0 (.t 64) (.c (.i .i64 1))) 61 false [64],o_ 66 (.pk (.t 61) (.c (.b true)) (.t 65)) [61,65],m_ 67 66 [66],g_ 68 (.fa (.t 6) 3) 67 false [],g_ 69 (.ld (.t 68) 1 false) 67 false [68],g_ 70 (.ln false (.t 69)) 67 false [69],g_ 71 (.bin .neq 0 (.t 70) (.c (.i .i64 1))) 67 false [70],o_ 72 (.pk (.t 67) (.c (.b true)) (.t 71)) [67,71],m_ 73 72 [72],g_ 74 (.fa (.t 10) 4) 73 false [],g_ 75 (.ld (.t 74) 1 false) 73 false [74],g_ 76 (.ln false (.t 75)) 73 false [75],g_ 77 (.bin .neq 0 (.t 76) (.c (.i .i64 1))) 73 false [76],o_ 78 (.pk (.t 73) (.c (.b true)) (.t 77)) [73,77]] (.cd (.t 78) (q_ [o_ 0 (.mv (.c (.b false))) [6,7,8,9,10,78]] .rt) .skip)) (q_ [f_ 79 6 4 [78],l_ 80 79 1 [79],o_ 81 (.ia (.t 80) (.c (.i .i64 0)) 1) [80],l_ 82 81 1 [81],o_ 83 (.bin .eql 0 (.t 82) (.c (.s ⟨#[109,101]⟩))) [82],m_ 84 83 [83],g_ 85 (.fa (.t 6) 3) 84 true [6],g_ 86 (.ld (.t 85) 1 false) 84 true [85],g_ 87 (.ia (.t 86) (.c (.i .i64 0)) 5) 84 true [86],g_ 88 (.fa (.t 87) 0) 84 true [87],g_ 89 (.ld (.t 88) 1 false) 84 true [88],g_ 90 (.bin .eql 0 (.t 89) (.c (.i .i64 0))) 84 true [89],o_ 91 (.pk (.t 84) (.t 90) (.c (.b false))) [84,90],m_ 92 91 [91],g_ 93 (.mv (.t 7)) 92 true [],g_ 94 (.ia (.t 93) (.c (.i .i64 0)) 2) 92 true [93],g_ 95 (.fa (.t 94) 1) 92 true [94],g_ 96 (.ld (.t 95) 1 false) 92 true [95],g_ 97 (.bin .eql 0 (.t 96) (.c (.s ⟨#[110,117,108,108]⟩))) 92 true [96],o_ 98 (.pk (.t 92) (.t 97) (.c (.b false))) [92,97],m_ 99 98 [98],g_ 100 (.mv (.t 7)) 99 true [7],g_ 101 (.ia (.t 100) (.c (.i .i64 0)) 2) 99 true [100],g_ 102 (.fa (.t 101) 0) 99 true [101],g_ 103 (.ld (.t 102) 1 false) 99 true [102],g_ 104 (.ia (.t 103) (.c (.i .i64 1)) 5) 99 true [103],g_ 105 (.fa (.t 104) 2) 99 true [104],g_ 106 (.ld (.t 105) 1 false) 99 true [105],g_ 107 (.bin .eql 0 (.t 106) (.c (.s ⟨#[110,97,109,101]⟩))) 99 true [106],o_ 108 (.pk (.t 99) (.t 107) (.c (.b false))) [99,107],m_ 109 108 [108],g_ 110 (.mv (.t 9)) 109 true [9],o_ 111 (.pk (.t 109) (.t 110) (.c (.b false))) [109,110],m_ 112 111 [111],g_ 113 (.fa (.t 8) 2) 112 true [8],g_ 114 (.ld (.t 113) 1 false) 112 true [113],g_ 115 (.bin .eql 0 (.t 114) (.c (.s ⟨#[55]⟩))) 112 true [114],o_ 116 (.pk (.t 112) (.t 115) (.c (.b false))) [112,115],m_ 117 116 [116],g_ 118 (.fa (.t 10) 4) 117 true [10],g_ 119 (.ld (.t 118) 1 false) 117 true [118],g_ 120 (.ia (.t 119) (.c (.i .i64 0)) 1) 117 true [119],g_ 121 (.ld (.t 120) 1 false) 117 true [120],g_ 122 (.bin .eql 0 (.t 121) (.c (.s ⟨#[100,97,116,97]⟩))) 117 true [121],o_ 123 (.pk (.t 117) (.t 122) (.c (.b false))) [117,122],m_ 0 123 [123]] .rt)))))))))))
theorem cc910:(Tryd.f10.body.bind (ccode Tryd.prog 124))=some ck910.erase:=by kernel_rfl
theorem cr910:rsv Tryd.prog 124 Tryd.f10.results.toList=some [(.t 0)]:=by kernel_rfl
def ck911:CC:=(q_ [o_ 4 (.bo (.t 0)) [0,5,6,7],o_ 7 (.bo (.t 3)) [3],o_ 8 (.al [.i .i64 0,.i .i64 0,.s ⟨#[]⟩,.e0,.e0]) [],o_ 9 (.mv (.c .e0)) [9]] (.sqw (.rg [a_ 13 4 1 [4],o_ 14 (.mk) [],o_ 15 (.bd [.e0,.mn,.e0] [(0,(1,(.t 13))),(1,(1,(.t 14)))]) [13,14],o_ 16 (.bo (.t 15)) [15],m_ 10 16 [16]]) (.sq (.dr [d_ 18 (.mv (.t 10)),d_ 19 (.mv (.t 1)),⟨o_ 20 (.cl 31 [.t 19]) [],[],true,[]⟩,d_ 21 (.mv (.t 2)),⟨a_ 22 7 5 [],[2],true,[]⟩,⟨o_ 23 (.cl 30 [.t 18,.t 20,.t 21,.c .e0,.t 22]) [],[],true,[2]⟩,d_ 17 (.mv (.t 23)),d_ 24 (.ex (.t 17) 0),d_ 25 (.ex (.t 17) 1),⟨o_ 11 (.al [.i .i64 0,.i .i64 0,.s ⟨#[]⟩,.e0,.e0]) [],[2,4,5],false,[]⟩,⟨n_ (.st (.t 11) (.t 24) 5) [],[],false,[]⟩,d_ 12 (.mv (.t 25))] [1,2,7,12,17,18,19,20,21,22,23,24,25]) (.sq (.dr [d_ 26 (.ld (.t 11) 5 true),d_ 27 (.mv (.t 10)),d_ 28 (.nc (.t 27)),d_ 29 (.fa (.t 28) 2),⟨l_ 30 29 1 [],[],true,[]⟩,⟨n_ (.st (.t 8) (.t 26) 5) [],[4],false,[]⟩,d_ 9 (.mv (.t 30))] [10,11,26,27,28,29,30]) .rt))))
theorem cc911:(Tryd.f11.body.bind (ccode Tryd.prog 31))=some ck911.erase:=by kernel_rfl
theorem cr911:rsv Tryd.prog 31 Tryd.f11.results.toList=some [(.c 8 5 true),(.t 9)]:=by kernel_rfl
def ck912:CC:=(q_ [o_ 4 (.bo (.t 0)) [0,5,6,7],o_ 7 (.bo (.t 3)) [3],o_ 8 (.al [.i .i64 0,.i .i64 0,.s ⟨#[]⟩,.e0,.e0]) [],o_ 9 (.mv (.c .e0)) [9]] (.sqw (.rg [a_ 13 4 1 [4],o_ 14 (.bd [.e0,.e0] [(0,(1,(.t 13)))]) [13],o_ 15 (.bo (.t 14)) [14],m_ 10 15 [15]]) (.sq (.dr [d_ 17 (.mv (.t 10)),d_ 18 (.mv (.t 1)),⟨o_ 19 (.cl 33 [.t 18]) [],[],true,[]⟩,⟨a_ 20 7 5 [],[2],true,[]⟩,d_ 21 (.mv (.t 2)),⟨o_ 22 (.cl 32 [.t 17,.t 19,.t 20,.t 21,.c .e0]) [],[],true,[2]⟩,d_ 16 (.mv (.t 22)),d_ 23 (.ex (.t 16) 0),d_ 24 (.ex (.t 16) 1),⟨o_ 11 (.al [.i .i64 0,.i .i64 0,.s ⟨#[]⟩,.e0,.e0]) [],[2,3,5],false,[]⟩,⟨n_ (.st (.t 11) (.t 23) 5) [],[],false,[]⟩,d_ 12 (.mv (.t 24))] [1,2,7,12,16,17,18,19,20,21,22,23,24]) (.sq (.dr [d_ 25 (.ld (.t 11) 5 true),d_ 26 (.mv (.t 10)),d_ 27 (.nc (.t 26)),d_ 28 (.fa (.t 27) 1),⟨l_ 29 28 1 [],[],true,[]⟩,⟨n_ (.st (.t 8) (.t 25) 5) [],[4],false,[]⟩,d_ 9 (.mv (.t 29))] [10,11,25,26,27,28,29]) .rt))))
theorem cc912:(Tryd.f12.body.bind (ccode Tryd.prog 30))=some ck912.erase:=by kernel_rfl
theorem cr912:rsv Tryd.prog 30 Tryd.f12.results.toList=some [(.c 8 5 true),(.t 9)]:=by kernel_rfl
def ck919:CC:=(q_ [o_ 2 (.bo (.t 0)) [0,3,4,5,6,7],o_ 4 (.al [.i .i64 0,.i .i64 0,.s ⟨#[]⟩,.e0,.e0]) []] (.sq (q_ [m_ 8 1 [],o_ 9 (.ln false (.t 8)) [8],o_ 10 (.bin .eql 0 (.t 9) (.c (.i .i64 0))) [9]] (.cd (.t 10) (q_ [o_ 11 (.bs false 1 [.c (.s ⟨#[100,97,116,97]⟩)]) [1,10],a_ 12 2 5 [2],o_ 13 (.cl 45 [.t 12]) [12],o_ 14 (.bs false 5 [.t 13]) [13],o_ 15 (.bd [.i .i64 0,.i .i64 0,.s ⟨#[]⟩,.e0,.e0] [(0,(1,(.c (.i .i64 6)))),(4,(1,(.t 11))),(3,(1,(.t 14)))]) [11,14],n_ (.st (.t 4) (.t 15) 5) [15]] .rt) .skip)) (q_ [o_ 16 (.bd [.i .i64 0,.i .i64 0,.s ⟨#[]⟩,.e0,.e0] [(0,(1,(.c (.i .i64 5))))]) [10],o_ 5 (.al [.i .i64 0,.i .i64 0,.s ⟨#[]⟩,.e0,.e0]) [],n_ (.st (.t 5) (.t 16) 5) [16]] (.sqw (q_ [m_ 17 1 [1],o_ 18 (.ln false (.t 17)) [],o_ 19 (.mv (.c (.i .i64 0))) []] (.bl 0 (.lp (q_ [o_ 20 (.bin .lss 0 (.t 19) (.t 18)) []] (.sq (.cd (.t 20) .skip (.ex 0)) (.sq (.bl 1 (q_ [o_ 21 (.ia (.t 17) (.t 19) 2) [20],a_ 22 21 2 [21],o_ 7 (.al [.e0,.s ⟨#[]⟩]) [],n_ (.st (.t 7) (.t 22) 2) [22]] (.dr [d_ 23 (.fa (.t 5) 3),⟨l_ 24 23 1 [],[],true,[]⟩,d_ 25 (.fa (.t 7) 1),d_ 26 (.ld (.t 25) 1 false),⟨o_ 27 (.cl 47 [.t 26]) [],[1],true,[]⟩,d_ 28 (.fa (.t 7) 0),⟨l_ 29 28 1 [],[4],false,[]⟩,⟨o_ 30 (.cl 48 [.t 29]) [],[1],false,[4]⟩,⟨o_ 31 (.cl 46 [.c (.s ⟨#[109,101,115,115,97,103,101]⟩),.t 27,.c (.s ⟨#[112,97,116,104]⟩),.t 30]) [],[1],false,[4,7]⟩,⟨o_ 32 (.bs true 5 [.t 31]) [],[1],false,[]⟩,d_ 33 (.ap (.t 24) (.t 32) 5 80),d_ 34 (.fa (.t 5) 3),⟨n_ (.st (.t 34) (.t 33) 1) [],[],false,[]⟩] [7,23,24,25,26,27,28,29,30,31,32,33,34]))) (.rg [o_ 35 (.bin .add 0 (.t 19) (.c (.i .i64 1))) [19],m_ 19 35 [35]]))))))) (.sq (.dr [d_ 36 (.ld (.t 2) 5 true),⟨o_ 37 (.cl 45 [.t 36]) [],[],true,[]⟩,⟨a_ 38 5 5 [],[1],false,[]⟩,⟨o_ 39 (.cl 46 [.c (.s ⟨#[100,97,116,97]⟩),.t 37,.c (.s ⟨#[101,114,114,111,114,115]⟩),.t 38]) [],[],false,[1]⟩,⟨n_ (.st (.t 4) (.t 39) 5) [],[],false,[]⟩] [2,5,17,18,19,20,36,37,38,39]) .rt)))))
theorem cc919:(Tryd.f19.body.bind (ccode Tryd.prog 40))=some ck919.erase:=by kernel_rfl
theorem cr919:rsv Tryd.prog 40 Tryd.f19.results.toList=some [(.c 4 5 true)]:=by kernel_rfl
end Go.Proofs.YtgollgfifnmaaaaDoor
