/- Small facts on strings that are cut, and on worlds (of no program). -/
import Derived.Test.YtgbemgndbemllaaGreatDoorGa
import Derived.Test.YtgbemgndbemllaaGreatDoorGb
import Derived.Test.YtgbemgndbemllaaGreatDoorQApp
import Derived.Below
import Derived.Deep.Draws
import Derived.Lib.Hide
import Derived.Handy
import Derived.IntWalk
namespace Go.Proofs.YtgbemgndbemllaaGreatDoor
open Go Go.RowKit

/-- s[:min(len(s), b)] -/
theorem cut_min (s : ByteArray) (b : Int) (hb : 0 ≤ b) : ∃ m : Nat, (if b < (s.size : Int) then b else (s.size : Int)) = (m : Int) ∧ m ≤ s.size ∧ (m : Int) ≤ b ∧ m = min s.size b.toNat :=
  ⟨min s.size b.toNat, by split <;> omega, by omega, by omega, rfl⟩

theorem size_cut (s : ByteArray) (m : Nat) (h : m ≤ s.size) : (s.extract 0 m).size = m := by
  rw [ByteArray.size_extract]; omega

theorem mk_data (t : ByteArray) : (⟨t.data.toList.toArray⟩ : ByteArray) = t := by simp

theorem size_mk (l : List UInt8) : (⟨l.toArray⟩ : ByteArray).size = l.length := by simp [ByteArray.size]

theorem len_data (t : ByteArray) : t.data.toList.length = t.size := by simp

theorem below_drewN' {B : Nat} {a w : World} (h : Below B a w) (n : Nat) : Below B a (w.drewN n) := ⟨h.os, h.tape, h.output, h.size, h.block⟩

theorem quiet_left {P : Program} {f : FuncId} {args : Array Value} {w : World} {n : Nat} {v : Value}
    (h : Calls P f args (w.drewN n) fun e w' => e = .returned v ∧ w.drewN n = w') : Calls P f args (w.drewN n) fun e w'' => e = .returned v ∧ ∃ m, w'' = w.drewN m :=
  h.mono fun _ _ ⟨he, hm⟩ => ⟨he, n, hm.symm⟩

theorem Below.next {a c d : World} (h : Below a.heap.size a c) (k : Below c.heap.size c d) : Below a.heap.size a d := h.trans (k.mono h.size)
theorem Below.upd {a c d : World} {g : Nat} (h : Below a.heap.size a c) (k : Upd g c d) (hg : a.heap.size ≤ g) : Below a.heap.size a d := h.trans (k.below hg h.size)

theorem cell_new (W : World) (t : TypeId) (cs : Array Value) (g i : Nat) (v : Value) (hg : g = W.heap.size) (hv : cs.toList[i]? = some v) : (W.alloc (.cells cs t)).cell? ⟨g, i, none⟩ = some v := by
  rw [hg]; exact ((BlkIs.new W t cs).cell i).trans hv

theorem cell_new2 (W : World) (t : TypeId) (cs : Array Value) (o : Obj) (g i : Nat) (v : Value) (hg : g = W.heap.size) (hv : cs.toList[i]? = some v) : ((W.alloc (.cells cs t)).alloc o).cell? ⟨g, i, none⟩ = some v := by
  rw [hg]; exact (((BlkIs.new W t cs).alloc o).cell i).trans hv

theorem size_drewN (W : World) (n : Nat) : (W.drewN n).heap.size = W.heap.size := rfl

theorem ret_u32 {a b : Int} (h : a = b) : Ending.returned (.int .u32 a) = Ending.returned (.int .u32 b) := by rw [h]
theorem ret_i64 {a b : Int} (h : a = b) : Ending.returned (.int .i64 a) = Ending.returned (.int .i64 b) := by rw [h]
theorem ret_str {a b : ByteArray} (h : a = b) : Ending.returned (.string a) = Ending.returned (.string b) := by rw [h]

end Go.Proofs.YtgbemgndbemllaaGreatDoor
