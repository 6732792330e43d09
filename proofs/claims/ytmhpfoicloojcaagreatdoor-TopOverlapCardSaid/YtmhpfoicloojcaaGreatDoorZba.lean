/- strings.Builder. -/
import Derived.Test.YtmhpfoicloojcaaGreatDoorZShelf
import Derived.Test.YtmhpfoicloojcaaGreatDoorZab
set_option linter.all false
namespace Go.Proofs.YtmhpfoicloojcaaGreatDoor
set_option maxRecDepth 100000
set_option maxHeartbeats 16000000
section
open Go.Proofs.Tryz
open Go Go.Shelf Go.RowKit
theorem bDn:Go.Proofs.Lays.n166 prog Tryz.lays156_ren:={Tryz.lays156 with}
def aZ4:Go.Shelf.Ren:=⟨fun|167=>117|n=>Tryz.lays156_ren.f n,fun|5=>5|n=>Tryz.lays156_ren.t n,fun n=>n⟩
theorem bDm:Go.Proofs.Lays.n167 prog aZ4:={Tryz.lays156 with
 f167:=func117.trans (congrArg some (by kernel_rfl))
 f240:=func176.trans (congrArg some (by kernel_rfl))
 f276:=func225.trans (congrArg some (by kernel_rfl))
 t5:=underlying5
 a5:=isAgg5
 z5:=sizeOf5
 v5:=zeroValue5}
theorem bF2:Builder.Extra prog aZ4:={
 sizeBuilder:=by kernel_rfl
 liesBuilder:=by kernel_rfl
 t5:=underlying5
 a5:=isAgg5
 z5:=sizeOf5
 v5:=zeroValue5
 infoByte:=by kernel_rfl
 cellsByte:=by kernel_rfl
 sizeByte:=by kernel_rfl
 neB5:=by decide}
theorem aS9 (B b:Nat) (bs:List Value) (s:ByteArray) (w:World) (h:Lib.IsBuilderF 226 5 B b bs w) (hlen:bs.length+s.size<=140737488355328) (hBw:B<=w.heap.size) :
 Calls prog 115 #[.pointer (some (b,0)),.string s] w fun e w'=>e= .returned (.tuple #[s.size,.nilIface])/\(Lib.BuilderAtF 226 5 B b (.pointer (some (b,0))) (bs++Lib.strCells s) w'/\Below B w w'/\Lib.OthersKept 5 (some b) w w'):=
  Any.Builder_WriteString_k bDn Tryz.Builder_Extra_156 B b bs s w h hlen hBw
theorem aWf (B b:Nat) (bs:List Value) (c:Int) (w:World) (h:Lib.IsBuilderF 226 5 B b bs w) (hlen:bs.length+1<=140737488355328) (hBw:B<=w.heap.size) :
 Calls prog 117 #[.pointer (some (b,0)),.int .u8 c] w fun e w'=>e= .returned .nilIface/\(Lib.BuilderAtF 226 5 B b (.pointer (some (b,0))) (bs++[.int .u8 c]) w'/\Below B w w'/\Lib.OthersKept 5 (some b) w w'):=
  Any.Builder_WriteByte_k bDm bF2 B b bs c w h hlen hBw
end
end Go.Proofs.YtmhpfoicloojcaaGreatDoor
