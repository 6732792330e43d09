/- Small facts on strings that are cut, and on worlds. -/
import Derived.Test.YtejehdmllicfcaaDoorStrP
import Derived.Test.YtejehdmllicfcaaDoorOwn
import Derived.Test.YtejehdmllicfcaaDoorBits
import Derived.Test.YtejehdmllicfcaaDoorIntW
import Derived.Below
import Derived.Deep.Draws
namespace Go.Proofs.YtejehdmllicfcaaDoor
open Go Go.RowKit

/-- s[:min(len(s), b)] -/
theorem cut_min (s : ByteArray) (b : Int) (hb : 0 ≤ b) : ∃ m : Nat, (if b < (s.size : Int) then b else (s.size : Int)) = (m : Int) ∧ m ≤ s.size ∧ (m : Int) ≤ b ∧ m = min s.size b.toNat :=
  ⟨min s.size b.toNat, by split <;> omega, by omega, by omega, rfl⟩

theorem size_cut (s : ByteArray) (m : Nat) (h : m ≤ s.size) : (s.extract 0 m).size = m := by
  rw [ByteArray.size_extract]; omega

theorem mk_data (t : ByteArray) : (⟨t.data.toList.toArray⟩ : ByteArray) = t := by simp

theorem size_mk (l : List UInt8) : (⟨l.toArray⟩ : ByteArray).size = l.length := by simp [ByteArray.size]

theorem data3 (a b c : ByteArray) : (a ++ b ++ c).data.toList = a.data.toList ++ (b.data.toList ++ c.data.toList) := by
  simp [ByteArray.data_append]

theorem int_in (p q : ByteArray) (n : Int) (hn : IntOk n) : getInt (p ++ ⟨(putL n).toArray⟩ ++ q).data.toList (p.size : Nat) = (n, (p.size : Int) + ((putL n).length : Nat), 0) := by
  refine getInt_put _ _ _ hn q.data.toList ?_
  rw [data3]
  have : p.data.toList.length = p.size := by simp
  rw [← this, List.drop_left]

theorem str_in (p q : ByteArray) (t : List UInt8) (ht : t.length ≤ 65536) : getStr (p ++ ⟨(putS t).toArray⟩ ++ q).data.toList (p.size : Nat) = (t, (p.size : Int) + ((putS t).length : Nat), 0) := by
  refine getStr_put _ _ _ ht q.data.toList ?_
  rw [data3]
  have : p.data.toList.length = p.size := by simp
  rw [← this, List.drop_left]

theorem i64_xor_nat (a b : Nat) (ha : a < 9223372036854775808) (hb : b < 9223372036854775808) : bits BinOp.xor IntKind.i64 (a : Int) (b : Int) = ((a ^^^ b : Nat) : Int) := by
  have hx : a ^^^ b < 2 ^ 63 := Nat.xor_lt_two_pow (by omega) (by omega)
  show IntKind.i64.wrap ((BitVec.ofInt 64 (a : Int) ^^^ BitVec.ofInt 64 (b : Int)).toNat : Int) = _
  rw [BitVec.toNat_xor, ofInt_u64 a (by omega), ofInt_u64 b (by omega), IntKind.wrap_i64]
  omega

theorem below_drewN' {B : Nat} {a w : World} (h : Below B a w) (n : Nat) : Below B a (w.drewN n) := ⟨h.os, h.tape, h.output, h.size, h.block⟩

theorem quiet_left {P : Program} {f : FuncId} {args : Array Value} {w : World} {n : Nat} {v : Value}
    (h : Calls P f args (w.drewN n) fun e w' => e = .returned v ∧ w.drewN n = w') : Calls P f args (w.drewN n) fun e w'' => e = .returned v ∧ ∃ m, w'' = w.drewN m :=
  h.mono fun _ _ ⟨he, hm⟩ => ⟨he, n, hm.symm⟩

end Go.Proofs.YtejehdmllicfcaaDoor
