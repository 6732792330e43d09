/- The walks of Sum, of the program and of the reference. -/
import Derived.Test.YtejehdmllicfcaaDoorCrcP
import Derived.Test.YtejehdmllicfcaaDoorOwn
import Derived.Test.YtejehdmllicfcaaDoorChecked
import Derived.WalkSpells
import Derived.WalkLawsBesides
import Derived.Lib.Hide
import Derived.Test.YtejehdmllicfcaaDoorBits
namespace Go.Proofs.YtejehdmllicfcaaDoor
open Go Go.RowKit

/-- The table of Sum holds what the program's text lays. -/
def TabOk (w : World) : Prop := ∀ i, i < 16 → w.cell? ⟨0, i, none⟩ = some (.int .u32 ((nibT.getD i 0 : Nat) : Int))

theorem TabOk.lt {w : World} (h : TabOk w) : 0 < w.heap.size := by
  obtain ⟨o, ho, _⟩ := cells_of_cell (h 0 (by omega))
  exact (Array.getElem?_eq_some_iff.1 ho).1

theorem TabOk.below {w w' : World} (h : TabOk w) {B : Nat} (hb : Below B w w') (hB : 0 < B) : TabOk w' :=
  fun i hi => (hb.cell (p := ⟨0, i, none⟩) hB).trans (h i hi)

theorem TabOk.later {w w' : World} (h : TabOk w) (hb : Below w.heap.size w w') : TabOk w' := h.below hb h.lt

theorem crc_take (s : ByteArray) (k : Nat) (h : k < s.size) (r : Nat) : crcReg r (s.data.toList.take (k + 1)) = crcByte (crcReg r (s.data.toList.take k)) s[k].toNat := by
  rw [List.take_succ_eq_append_getElem (by simpa using h), crcReg_append]
  rfl

theorem ret_i64 {a b : Int} (h : a = b) : Ending.returned (.int .i64 a) = Ending.returned (.int .i64 b) := by rw [h]

theorem sum_end (s : ByteArray) (k : Nat) (hk : s.size ≤ k) (r : Nat) (hr : r < 4294967296) (h : r = crcReg 4294967295 (s.data.toList.take k)) :
    Ending.returned (.int .i64 (wrap64 (bits BinOp.xor IntKind.u32 IntKind.u32.max (r : Int)))) = Ending.returned (.int .i64 (sumL s.data.toList : Nat)) := by
  refine ret_i64 ?_
  have e : bits BinOp.xor IntKind.u32 IntKind.u32.max (r : Int) = ((4294967295 - r : Nat) : Int) := by
    rw [← ones_sub r hr, ← u32_xor_nat _ _ (by omega) hr]; rfl
  rw [e]
  unfold sumL
  rw [List.take_of_length_le (by have : s.data.toList.length = s.size := by simp
                                 omega)] at h
  rw [← h]
  unfold wrap64; omega

set_option maxRecDepth 100000 in
set_option maxHeartbeats 1000000 in
theorem sum_any (s : ByteArray) (w : World) (hs : s.size ≤ 140737488355328) (hT : TabOk w) :
    Calls Tryd.prog 23 #[.string s] w fun e w' => e = .returned (.int .i64 (sumL s.data.toList : Nat)) ∧ w = w' := by
  have HT := Lib.hid hT
  clear hT
  go_enter Tryd.func23, Tryd.ntmps23
  go_wp2
  go_loop [3, 7] (fun v i => ∃ (k r : Nat), k ≤ s.size ∧ i = .int .i64 k ∧ v = .int .u32 r ∧ r < 4294967296 ∧ Hid (r = crcReg 4294967295 (s.data.toList.take k)))
    (fun _ i => s.size - (intOf i).toNat)
  case atStart => exact ⟨0, 4294967295, by omega, rfl, rfl, by omega, rfl⟩
  case round =>
    obtain ⟨k, r, hk, rfl, rfl, hr, HR⟩ := hrel
    by_cases hlt : k < s.size
    · have hd : decide ((k : Int) < (s.size : Int)) = true := by simp; omega
      obtain ⟨c, hc⟩ : ∃ c : Nat, c = s[k].toNat := ⟨_, rfl⟩
      have hc256 : c < 256 := by rw [hc]; exact UInt8.toNat_lt _
      have hcI : ((s[k].toNat : Nat) : Int) = (c : Int) := by rw [hc]
      obtain ⟨r1, e1⟩ : ∃ r1, r1 = r ^^^ c := ⟨_, rfl⟩
      have h1 : bits BinOp.xor IntKind.u32 (r : Int) (c : Int) = (r1 : Int) := by rw [e1]; exact u32_xor_nat _ _ hr (by omega)
      have l1 : r1 < 4294967296 := by rw [e1]; exact xor_lt32 hr (by omega)
      obtain ⟨i1, f1⟩ : ∃ i1, i1 = r1 % 16 := ⟨_, rfl⟩
      have g1 : bits BinOp.and IntKind.u32 (r1 : Int) 15 = (i1 : Int) := by rw [f1]; exact and15_u32 _ l1
      have b1 : i1 < 16 := by rw [f1]; exact Nat.mod_lt _ (by omega)
      obtain ⟨t1, u1⟩ : ∃ t1, t1 = nibT.getD i1 0 := ⟨_, rfl⟩
      have c1 : w.cell? ⟨0, i1, none⟩ = some (.int .u32 (t1 : Int)) := by rw [u1]; exact HT.out i1 b1
      have m1 : t1 < 4294967296 := by rw [u1]; exact nibT_lt i1
      obtain ⟨r2, e2⟩ : ∃ r2, r2 = crcNib r1 := ⟨_, rfl⟩
      have h2 : bits BinOp.xor IntKind.u32 ((r1 : Int) / 16) (t1 : Int) = (r2 : Int) := by
        rw [e2, crcNib, ← f1, ← u1, show (r1 : Int) / 16 = ((r1 / 16 : Nat) : Int) by omega]
        exact u32_xor_nat _ _ (by omega) m1
      have l2 : r2 < 4294967296 := by rw [e2, crcNib, ← f1, ← u1]; exact xor_lt32 (by omega) m1
      obtain ⟨i2, f2⟩ : ∃ i2, i2 = r2 % 16 := ⟨_, rfl⟩
      have g2 : bits BinOp.and IntKind.u32 (r2 : Int) 15 = (i2 : Int) := by rw [f2]; exact and15_u32 _ l2
      have b2 : i2 < 16 := by rw [f2]; exact Nat.mod_lt _ (by omega)
      obtain ⟨t2, u2⟩ : ∃ t2, t2 = nibT.getD i2 0 := ⟨_, rfl⟩
      have c2 : w.cell? ⟨0, i2, none⟩ = some (.int .u32 (t2 : Int)) := by rw [u2]; exact HT.out i2 b2
      have m2 : t2 < 4294967296 := by rw [u2]; exact nibT_lt i2
      obtain ⟨r3, e3⟩ : ∃ r3, r3 = crcNib r2 := ⟨_, rfl⟩
      have h3 : bits BinOp.xor IntKind.u32 ((r2 : Int) / 16) (t2 : Int) = (r3 : Int) := by
        rw [e3, crcNib, ← f2, ← u2, show (r2 : Int) / 16 = ((r2 / 16 : Nat) : Int) by omega]
        exact u32_xor_nat _ _ (by omega) m2
      have l3 : r3 < 4294967296 := by rw [e3, crcNib, ← f2, ← u2]; exact xor_lt32 (by omega) m2
      have hfin : r3 = crcReg 4294967295 (s.data.toList.take (k + 1)) := by
        rw [crc_take s k hlt, crcByte_nib, ← HR.out, ← hc, ← e1, ← e2, ← e3]
      have HF := Lib.hid hfin
      clear hfin e1 f1 u1 e2 f2 u2 e3 hc m1 m2
      go_wp2
      exact ⟨⟨k + 1, r3, by omega, by go_num, rfl, l3, HF.out⟩, by simp [intOf]; omega⟩
    · have hd : decide ((k : Int) < (s.size : Int)) = false := by simp; omega
      go_wp2
      go_ret
      exact ⟨sum_end s k (by omega) r hr HR.out, rfl⟩

set_option maxRecDepth 100000 in
set_option maxHeartbeats 1000000 in
theorem rSum_any (s : ByteArray) (w : World) (hs : s.size ≤ 140737488355328) :
    Calls Tryd.prog 34 #[.string s] w fun e w' => e = .returned (.int .i64 (sumL s.data.toList : Nat)) ∧ w = w' := by
  go_enter Tryd.func34, Tryd.ntmps34
  go_wp2
  go_loop [3, 4] (fun v i => ∃ (k r : Nat), k ≤ s.size ∧ i = .int .i64 k ∧ v = .int .u32 r ∧ r < 4294967296 ∧ Hid (r = crcReg 4294967295 (s.data.toList.take k)))
    (fun _ i => s.size - (intOf i).toNat)
  case atStart => exact ⟨0, 4294967295, by omega, rfl, rfl, by omega, rfl⟩
  case round =>
    obtain ⟨k, r, hk, rfl, rfl, hr, HR⟩ := hrel
    by_cases hlt : k < s.size
    · have hd : decide ((k : Int) < (s.size : Int)) = true := by simp; omega
      obtain ⟨c, hc⟩ : ∃ c : Nat, c = s[k].toNat := ⟨_, rfl⟩
      have hc256 : c < 256 := by rw [hc]; exact UInt8.toNat_lt _
      have hcI : ((s[k].toNat : Nat) : Int) = (c : Int) := by rw [hc]
      obtain ⟨r1, e1⟩ : ∃ r1, r1 = r ^^^ c := ⟨_, rfl⟩
      have h1 : bits BinOp.xor IntKind.u32 (r : Int) (c : Int) = (r1 : Int) := by rw [e1]; exact u32_xor_nat _ _ hr (by omega)
      have l1 : r1 < 4294967296 := by rw [e1]; exact xor_lt32 hr (by omega)
      have hfin : crcBits 8 r1 = crcReg 4294967295 (s.data.toList.take (k + 1)) := by
        rw [crc_take s k hlt, crcByte, ← HR.out, ← hc, ← e1]
      have HF := Lib.hid hfin
      clear hfin e1 hc
      go_wp2
      clear h1 hcI hd
      go_loop [3, 5, 6] (fun v j _ => ∃ (m x : Nat), m ≤ 8 ∧ j = .int .i64 m ∧ v = .int .u32 x ∧ x < 4294967296 ∧ Hid (crcBits 8 r1 = crcBits (8 - m) x))
        (fun _ j _ => 8 - (intOf j).toNat)
      case atStart => exact ⟨0, r1, by omega, rfl, rfl, l1, rfl⟩
      case round =>
        obtain ⟨m, x, hm, rfl, rfl, hx, HX⟩ := hrel
        by_cases hm8 : m < 8
        · have hd : decide ((m : Int) < 8) = true := by simp; omega
          have hb := crcBit_lt hx
          have hstep : crcBits (8 - m) x = crcBits (8 - (m + 1)) (crcBit x) := by rw [show 8 - m = (8 - (m + 1)) + 1 by omega]; rfl
          have HS := Lib.hid hstep
          clear hstep
          by_cases hp : x % 2 = 1
          · have hd2 : ((x : Int) % 2 == 1) = true := by simp; omega
            have h2 : bits BinOp.xor IntKind.u32 ((x : Int) / 2) 2197175160 = (crcBit x : Int) := by
              rw [crcBit, if_pos hp, show (x : Int) / 2 = ((x / 2 : Nat) : Int) by omega]
              exact u32_xor_nat _ _ (by omega) (by decide)
            go_wp2
            exact ⟨⟨m + 1, crcBit x, by omega, by go_num, rfl, hb, by unfold Hid; rw [HX.out, HS.out]⟩, by simp [intOf]; omega⟩
          · have hd2 : ((x : Int) % 2 == 1) = false := by simp; omega
            have e : crcBit x = x / 2 := by rw [crcBit, if_neg hp]
            have HE := Lib.hid e
            clear e
            go_wp2
            exact ⟨⟨m + 1, crcBit x, by omega, by go_num, by rw [HE.out]; go_num, hb, by unfold Hid; rw [HX.out, HS.out]⟩, by simp [intOf]; omega⟩
        · have hd : decide ((m : Int) < 8) = false := by simp; omega
          go_wp2
          exact ⟨⟨k + 1, x, by omega, by go_num, rfl, hx, by unfold Hid; rw [← HF.out, HX.out, show 8 - m = 0 by omega]; rfl⟩, by simp [intOf]; omega⟩
    · have hd : decide ((k : Int) < (s.size : Int)) = false := by simp; omega
      go_wp2
      go_ret
      exact ⟨sum_end s k (by omega) r hr HR.out, rfl⟩

end Go.Proofs.YtejehdmllicfcaaDoor
