/- The walk of WireSumAffine. -/
import Derived.Test.YtflnbhhgdlehbaaDoorL2W
import Derived.Test.YtflnbhhgdlehbaaDoorCrcQ
import Derived.Test.YtflnbhhgdlehbaaDoorBlk
import Derived.RegionTactic
import Derived.ChangeAlike
import Derived.BigRegion
import Derived.Deep.QuietTactic
import Derived.BigQuiet
namespace Go.Proofs.YtflnbhhgdlehbaaDoor
open Go Go.RowKit

theorem i64_xor_nat (a b : Nat) (ha : a < 9223372036854775808) (hb : b < 9223372036854775808) : bits BinOp.xor IntKind.i64 (a : Int) (b : Int) = ((a ^^^ b : Nat) : Int) := by
  have hx : a ^^^ b < 2 ^ 63 := Nat.xor_lt_two_pow (by omega) (by omega)
  show IntKind.i64.wrap ((BitVec.ofInt 64 (a : Int) ^^^ BitVec.ofInt 64 (b : Int)).toNat : Int) = _
  rw [BitVec.toNat_xor, ofInt_u64 a (by omega), ofInt_u64 b (by omega), IntKind.wrap_i64]
  omega

theorem below_drewN' {B : Nat} {a w : World} (h : Below B a w) (n : Nat) : Below B a (w.drewN n) := ⟨h.os, h.tape, h.output, h.size, h.block⟩

theorem quiet_left {P : Program} {f : FuncId} {args : Array Value} {w : World} {n : Nat} {v : Value}
    (h : Calls P f args (w.drewN n) fun e w' => e = .returned v ∧ w.drewN n = w') : Calls P f args (w.drewN n) fun e w'' => e = .returned v ∧ ∃ m, w'' = w.drewN m :=
  h.mono fun _ _ ⟨he, hm⟩ => ⟨he, n, hm.symm⟩

set_option maxRecDepth 100000 in
set_option maxHeartbeats 1000000 in
theorem law7_any (a b c : ByteArray) (w : World) (hT : TabOk w) (ha : a.size ≤ 140737488355328) (hb : b.size ≤ 140737488355328) (hc : c.size ≤ 140737488355328) :
    Calls Tryd.prog 9 #[.string a, .string b, .string c] w fun e w' => e = .returned (.bool true) ∧ Below w.heap.size w w' := by
  have HT := Lib.hid hT
  clear hT
  obtain ⟨n, hn⟩ : ∃ n : Nat, n = min (min (min a.size b.size) c.size) 200 := ⟨_, rfl⟩
  have na : n ≤ a.size := by omega
  have nb : n ≤ b.size := by omega
  have nc : n ≤ c.size := by omega
  have n200 : n ≤ 200 := by omega
  have hmin : ∀ W, (Builtin.min_ #[ 3, 3, 3, 3 ] 3 #[.int .i64 (a.size : Int), .int .i64 (b.size : Int), .int .i64 (c.size : Int), .int .i64 200]).run Tryd.prog W = .ok (.int .i64 (n : Int)) W := by
    intro W
    have e : (n : Int) = (if 200 < (if (c.size : Int) < (if (b.size : Int) < (a.size : Int) then (b.size : Int) else (a.size : Int)) then (c.size : Int) else (if (b.size : Int) < (a.size : Int) then (b.size : Int) else (a.size : Int))) then 200 else (if (c.size : Int) < (if (b.size : Int) < (a.size : Int) then (b.size : Int) else (a.size : Int)) then (c.size : Int) else (if (b.size : Int) < (a.size : Int) then (b.size : Int) else (a.size : Int)))) := by
      repeat (first | omega | split)
    rw [e]
    simp [Builtin.min_, Builtin.min2]
  clear hn
  have hmk := fun W => run_make_row' (P := Tryd.prog) 38 5 (.int .u8 0) 1 Tryd.underlying38 Tryd.infoU8 rfl .i64 .i64 n (by omega) (by omega) W
  go_enter Tryd.func9, Tryd.ntmps9
  go_wp2_with fail
  refine (sane_any _ HT.out).mono ?_
  rintro e w1 ⟨rfl, b1⟩
  go_wp2_with fail
  obtain ⟨wo, hwo⟩ : ∃ wo, wo = w1.alloc (.cells (madeCells #[.int .u8 0] n) 5) := ⟨_, rfl⟩
  rw [← hwo]
  have bo : Below w.heap.size w wo := by rw [hwo]; exact b1.alloc b1.size _
  have k0 : BlkIs wo w1.heap.size 5 (bv [] ++ List.replicate n (.int .u8 0)) := by
    rw [hwo, madeCells_one]; exact BlkIs.new w1 _ _
  have hg : w.heap.size ≤ w1.heap.size := b1.size
  obtain ⟨xs, hxs⟩ : ∃ xs, xs = xor3 (a.data.toList.take n) (b.data.toList.take n) (c.data.toList.take n) := ⟨_, rfl⟩
  have la : (a.data.toList.take n).length = n := by simp; omega
  have lb : (b.data.toList.take n).length = n := by simp; omega
  have lc : (c.data.toList.take n).length = n := by simp; omega
  have lx : xs.length = n := by rw [hxs, xor3_length _ _ _ (by omega) (by omega)]; exact la
  have hget : ∀ k (hk : k < n), xs[k]? = some (a[k]'(Nat.lt_of_lt_of_le hk na) ^^^ b[k]'(Nat.lt_of_lt_of_le hk nb) ^^^ c[k]'(Nat.lt_of_lt_of_le hk nc)) := by
    intro k hk
    rw [hxs, xor3_get _ _ _ k (by omega) (by omega) (by omega)]
    simp only [List.getElem_take]
    rfl
  have hsum : sumL xs = sumL (a.data.toList.take n) ^^^ sumL (b.data.toList.take n) ^^^ sumL (c.data.toList.take n) := by
    rw [hxs]; exact sumL_xor3 _ _ _ (by omega) (by omega)
  have HG := Lib.hid hget
  have HX := Lib.hid hsum
  clear hwo b1 hmk hmin hxs la lb lc hget hsum
  go_loopw [10] (fun i wr => ∃ k : Nat, k ≤ n ∧ i = .int .i64 k ∧ BlkIs wr w1.heap.size 5 (bv (xs.take k) ++ List.replicate (n - k) (.int .u8 0)) ∧ Below w.heap.size w wr) (fun i _ => n - (intOf i).toNat)
  case atStart => exact ⟨0, by omega, rfl, k0, bo⟩
  case round =>
    obtain ⟨k, hk, rfl, hblk, hb⟩ := hrel
    by_cases hkn : k < n
    · have hd : decide ((k : Int) < (n : Int)) = true := by simp; omega
      have ka : k < a.size := Nat.lt_of_lt_of_le hkn na
      have kb : k < b.size := Nat.lt_of_lt_of_le hkn nb
      have kc : k < c.size := Nat.lt_of_lt_of_le hkn nc
      have x1 : bits BinOp.xor IntKind.u8 ((a[k].toNat : Nat) : Int) ((b[k].toNat : Nat) : Int) = (((a[k] ^^^ b[k]).toNat : Nat) : Int) := by
        rw [u8_xor_nat _ _ (UInt8.toNat_lt _) (UInt8.toNat_lt _), UInt8.toNat_xor]
      have x2 : bits BinOp.xor IntKind.u8 ((a[k].toNat ^^^ b[k].toNat : Nat) : Int) ((c[k].toNat : Nat) : Int) = (((a[k] ^^^ b[k] ^^^ c[k]).toNat : Nat) : Int) := by
        rw [← UInt8.toNat_xor, u8_xor_nat _ _ (UInt8.toNat_lt _) (UInt8.toNat_lt _), UInt8.toNat_xor (a[k] ^^^ b[k])]
      have hc0 : wr.cell? ⟨w1.heap.size, k, none⟩ = some (.int .u8 0) := by
        rw [hblk.cell]; exact fill_here lx hkn _
      have hf0 : wr.frozen? ⟨w1.heap.size, k, none⟩ = false := hblk.frozen k
      have hkI : (0 : Int) ≤ (k : Int) ∧ (k : Int) < (a.size : Int) ∧ (k : Int) < (b.size : Int) ∧ (k : Int) < (c.size : Int) ∧ (k : Int) < (n : Int) := by omega
      obtain ⟨q1, q2, q3, q4, q5⟩ := hkI
      go_wp2_with fail
      go_region
      have hnext := (hblk.set k (.int .u8 (((a[k] ^^^ b[k] ^^^ c[k]).toNat : Nat) : Int))).drew
      rw [fill_next lx hkn (HG.out k hkn)] at hnext
      have hbn : Below w.heap.size w (wr.setCell ⟨w1.heap.size, k, none⟩ (.int .u8 (((a[k] ^^^ b[k] ^^^ c[k]).toNat : Nat) : Int))).drew := (hb.setCell (p := ⟨w1.heap.size, k, none⟩) hg _).drew
      simp only [UInt8.toNat_xor] at hnext hbn
      clear hblk hb hc0 hf0 x1 x2
      go_wp2_with fail
      exact ⟨⟨k + 1, by omega, by go_num, hnext, hbn⟩, by simp [intOf]; omega⟩
    · have hd : decide ((k : Int) < (n : Int)) = false := by simp; omega
      obtain rfl : k = n := by omega
      have hcv : ∀ m, Sem.run Tryd.prog (convert 38 9 (.slice (some ⟨w1.heap.size, 0, none⟩) k k)) (wr.drewN m) = .ok (.string ⟨xs.toArray⟩) (wr.drewN m) := by
        intro m
        have := run_convert_blk (P := Tryd.prog) (w := wr.drewN m) (cap := xs.length) 38 9 5 Tryd.underlying38 Tryd.underlying5 Tryd.underlying9 (l := xs) (more := []) (by simpa [lx, List.take_of_length_le (Nat.le_of_eq lx)] using hblk.drewN m)
        rwa [lx] at this
      have hTr : ∀ m, TabOk (wr.drewN m) := fun m i hi => (HT.out.below hb HT.out.lt) i hi
      have HTr := Lib.hid hTr
      have hlx : xs.length ≤ 200 := by omega
      have HL := Lib.hid lx
      clear hblk k0 lx hTr
      go_wp2_with fail
      go_quiet ((go_at_call 21; exact quiet_left (sum_any _ _ (by first | (rw [size_mk]; omega) | (rw [ByteArray.size_extract]; omega)) (HTr.out _))))
      have hv : (((sumL xs : Nat) : Int) == bits BinOp.xor IntKind.i64 (bits BinOp.xor IntKind.i64 ((sumL (a.data.toList.take k) : Nat) : Int) ((sumL (b.data.toList.take k) : Nat) : Int)) ((sumL (c.data.toList.take k) : Nat) : Int)) = true := by
        have l1 := sumL_lt (a.data.toList.take k)
        have l2 := sumL_lt (b.data.toList.take k)
        have l3 := sumL_lt (c.data.toList.take k)
        rw [i64_xor_nat _ _ (by omega) (by omega), i64_xor_nat _ _ (Nat.lt_trans (xor_lt32 l1 l2) (by omega)) (by omega), ← HX.out, beq_self_eq_true]
      go_wp2_with fail
      go_ret
      exact ⟨congrArg (fun x => Ending.returned (Value.bool x)) hv, below_drewN' hb nq⟩
end Go.Proofs.YtflnbhhgdlehbaaDoor
