/- Bits. -/
import Derived.Laws.BitsAllLaws
import Derived.WalkKit
import Derived.Laws.DeepNot64
import Derived.Test.YtmhpfoicloojcaaGreatDoorZaa
set_option linter.all false
namespace Go.Proofs.YtmhpfoicloojcaaGreatDoor
set_option maxRecDepth 100000
set_option maxHeartbeats 16000000
section
open Go Go.RowKit
theorem aL2 (y:Nat) (h:y<18446744073709551616):bits BinOp.and IntKind.u64 (y:Int) 127=((y % 128:Nat):Int):=by
 have:=u64_and_nat y 127 h (by omega);rw[nat_mask7]at this;exact this
theorem aXg (y:Nat) (h:y<128):bits BinOp.or IntKind.u8 (y:Int) 128=((y+128:Nat):Int):=by
 have:=u8_or_nat y 128 (by omega) (by omega);rw[Nat.or_comm,nat_join 7 128 y (by decide) (by omega)]at this;rw[Nat.add_comm];exact this
end
end Go.Proofs.YtmhpfoicloojcaaGreatDoor
