/- Sorting, laid by the kit's tool. -/
import Derived.Shelf.SlSortCmp.NoneTotal
import Derived.Shelf.SlicesQ.IndexFunc
import Derived.Test.YtmhpfoicloojcaaGreatDoorProg
set_option linter.all false
namespace Go.Proofs.YtmhpfoicloojcaaGreatDoor
open Go.Proofs.Tryz
open Go.Shelf
def Tryz.idxPair_ren:Go.Shelf.Ren:=⟨fun|6=>270|n=>n,fun|22=>356|23=>358|25=>393|3=>3|0=>0|4=>4|n=>n,fun|n=>n⟩
theorem Tryz.idxPair:Go.Proofs.SlLaysH0.n6 prog Tryz.idxPair_ren:={
 mixed:=by kernel_rfl
 f6:=⟨Tryz.f270.name,by decide,func270.trans (congrArg some (by kernel_rfl))⟩
 t0:=underlying0
 a0:=isAgg0
 z0:=sizeOf0
 v0:=zeroValue0
 t3:=underlying3
 a3:=isAgg3
 z3:=sizeOf3
 v3:=zeroValue3
 t4:=underlying4
 a4:=isAgg4
 z4:=sizeOf4
 v4:=zeroValue4
 t22:=underlying356
 a22:=isAgg356
 z22:=sizeOf356
 v22:=zeroValue356
 t25:=underlying393
 a25:=isAgg393
 z25:=sizeOf393
 v25:=zeroValue393}
end Go.Proofs.YtmhpfoicloojcaaGreatDoor