/- Proof. Conditions: none. -/
import Derived.Test.YtgfidgoefioigaaGreatDoorProg
import Derived.Shelf.LaysM
import Derived.Shelf.Strconv.Itoa3
import Derived.KernelRfl
import Derived.Test.YtgfidgoefioigaaGreatDoorIi26
open Go.Proofs.Tryz
namespace Go.Proofs
open Go.Shelf
set_option maxRecDepth 100000
def Lt:Go.Shelf.Ren:=⟨fun | 171=>178 | 243=>187 | 246=>190 | 283=>191 | 284=>192 | 285=>193 | 286=>194 | 129=>196 | 317=>195 | 318=>197 | 319=>198 | 320=>199 | 337=>200 | 338=>201 | n=>n,fun | 3=>3 | 9=>9 | 2=>2 | 4=>4 | 171=>206 | 0=>0 | 53=>207 | 37=>203 | 5=>5 | 173=>210 | 212=>214 | 51=>215 | 20=>20 | 213=>216 | 46=>218 | 232=>221 | 233=>222 | n=>n,fun | 17=>0 | 18=>1 | 19=>2 | n=>n⟩
theorem N7:Go.Proofs.LaysM.n171 prog Lt:={
 mixed:=by kernel_rfl
 f129:=func196.trans (congrArg some (by kernel_rfl))
 f171:=func178.trans (congrArg some (by kernel_rfl))
 f243:=func187.trans (congrArg some (by kernel_rfl))
 f246:=func190.trans (congrArg some (by kernel_rfl))
 f283:=func191.trans (congrArg some (by kernel_rfl))
 f284:=func192.trans (congrArg some (by kernel_rfl))
 f285:=func193.trans (congrArg some (by kernel_rfl))
 f286:=func194.trans (congrArg some (by kernel_rfl))
 f317:=func195.trans (congrArg some (by kernel_rfl))
 f318:=func197.trans (congrArg some (by kernel_rfl))
 f319:=func198.trans (congrArg some (by kernel_rfl))
 f320:=func199.trans (congrArg some (by kernel_rfl))
 f337:=func200.trans (congrArg some (by kernel_rfl))
 f338:=func201.trans (congrArg some (by kernel_rfl))
 t0:=underlying0
 a0:=isAgg0
 z0:=sizeOf0
 v0:=zeroValue0
 t2:=underlying2
 a2:=isAgg2
 z2:=sizeOf2
 v2:=zeroValue2
 t3:=underlying3
 a3:=isAgg3
 z3:=sizeOf3
 v3:=zeroValue3
 t4:=underlying4
 a4:=isAgg4
 z4:=sizeOf4
 v4:=zeroValue4
 t5:=underlying5
 a5:=isAgg5
 z5:=sizeOf5
 v5:=zeroValue5
 t9:=underlying9
 a9:=isAgg9
 z9:=sizeOf9
 v9:=zeroValue9
 t20:=underlying20
 a20:=isAgg20
 z20:=sizeOf20
 v20:=zeroValue20
 t37:=underlying203
 a37:=isAgg203
 z37:=sizeOf203
 v37:=zeroValue203
 t46:=underlying218
 a46:=isAgg218
 z46:=sizeOf218
 v46:=zeroValue218
 t51:=underlying215
 a51:=isAgg215
 z51:=sizeOf215
 v51:=zeroValue215
 t53:=underlying207
 a53:=isAgg207
 z53:=sizeOf207
 v53:=zeroValue207
 t171:=underlying206
 a171:=isAgg206
 z171:=sizeOf206
 v171:=zeroValue206
 t173:=underlying210
 a173:=isAgg210
 z173:=sizeOf210
 v173:=zeroValue210
 t212:=underlying214
 a212:=isAgg214
 z212:=sizeOf214
 v212:=zeroValue214
 t213:=underlying216
 a213:=isAgg216
 z213:=sizeOf216
 t232:=underlying221
 a232:=isAgg221
 z232:=sizeOf221
 v232:=zeroValue221
 t233:=underlying222
 a233:=isAgg222
 z233:=sizeOf222
 v233:=zeroValue222
 g17:=by kernel_rfl
 g18:=by kernel_rfl
 g19:=by kernel_rfl
 i0:=by kernel_rfl
 i2:=by kernel_rfl
 i3:=by kernel_rfl
 i4:=by kernel_rfl
 i5:=by kernel_rfl
 i9:=by kernel_rfl
 i20:=by kernel_rfl
 i37:=by kernel_rfl
 i46:=by kernel_rfl
 i51:=by kernel_rfl
 i53:=by kernel_rfl
 i171:=by kernel_rfl
 i173:=by kernel_rfl
 i212:=by kernel_rfl
 i232:=by kernel_rfl
 i233:=by kernel_rfl
 m17:=by kernel_rfl
 m18:=by kernel_rfl
 m19:=by kernel_rfl }
end Go.Proofs
