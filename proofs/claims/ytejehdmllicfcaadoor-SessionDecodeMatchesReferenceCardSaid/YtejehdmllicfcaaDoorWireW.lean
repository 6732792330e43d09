/- Walks of the small functions of package wire, of its reference and of the laws. -/
import Derived.Test.YtejehdmllicfcaaDoorPutB
namespace Go.Proofs.YtejehdmllicfcaaDoor
open Go Go.RowKit

set_option maxHeartbeats 1000000 in
theorem putInt_bad (n : Int) (h : n < -4611686018427387903 ∨ 4611686018427387903 < n) (w : World) :
    Calls Tryd.prog 22 #[.int .i64 n] w fun e w' => e = .returned (.tuple #[.string ⟨#[]⟩, .int .i64 10]) ∧ w = w' := by
  by_cases h1 : n < -4611686018427387903
  · go_enter Tryd.func22, Tryd.ntmps22
    go_wp2
    go_ret2
    exact ⟨rfl, rfl⟩
  · have h2 : 4611686018427387903 < n := by omega
    go_enter Tryd.func22, Tryd.ntmps22
    go_wp2
    go_ret2
    exact ⟨rfl, rfl⟩

set_option maxHeartbeats 1000000 in
theorem rPutInt_bad (n : Int) (h : n < -4611686018427387903 ∨ 4611686018427387903 < n) (w : World) :
    Calls Tryd.prog 33 #[.int .i64 n] w fun e w' => e = .returned (.tuple #[.string ⟨#[]⟩, .int .i64 10]) ∧ w = w' := by
  by_cases h1 : n < -4611686018427387903
  · go_enter Tryd.func33, Tryd.ntmps33
    go_wp2
    go_ret2
    exact ⟨rfl, rfl⟩
  · have h2 : 4611686018427387903 < n := by omega
    go_enter Tryd.func33, Tryd.ntmps33
    go_wp2
    go_ret2
    exact ⟨rfl, rfl⟩

set_option maxHeartbeats 1000000 in
theorem zigzag_ok (n : Int) (h1 : -4611686018427387903 ≤ n) (h2 : n ≤ 4611686018427387903) (w : World) :
    Calls Tryd.prog 38 #[.int .i64 n] w fun e w' => e = .returned (.int .u64 (zz n)) ∧ w = w' := by
  by_cases h : n < 0
  · go_enter Tryd.func38, Tryd.ntmps38
    go_wp2
    go_ret
    refine ⟨congrArg (fun x => Ending.returned (Value.int .u64 x)) (?_ : _ = (zz n : Int)), rfl⟩
    unfold zz
    split <;> omega
  · go_enter Tryd.func38, Tryd.ntmps38
    go_wp2
    go_ret
    refine ⟨congrArg (fun x => Ending.returned (Value.int .u64 x)) (?_ : _ = (zz n : Int)), rfl⟩
    unfold zz
    split <;> omega

set_option maxHeartbeats 1000000 in
theorem rPutInt_ok (n : Int) (h1 : -4611686018427387903 ≤ n) (h2 : n ≤ 4611686018427387903) (w : World) :
    Calls Tryd.prog 33 #[.int .i64 n] w fun e w' => e = .returned (.tuple #[.string ⟨(putL n).toArray⟩, .int .i64 0]) ∧ Below w.heap.size w w' := by
  have hz := zz_lt n h1 h2
  have hd1 : decide (n < -4611686018427387903) = false := by simp; omega
  have hd2 : decide (4611686018427387903 < n) = false := by simp; omega
  go_enter Tryd.func33, Tryd.ntmps33
  go_wp2_with (go_at_call 38; refine (zigzag_ok n h1 h2 _).mono ?_; rintro e w' ⟨rfl, rfl⟩)
  obtain ⟨z, hzz⟩ : ∃ z, z = zz n := ⟨_, rfl⟩
  have hput : putL n = (grp 9 z).map encB := by rw [hzz]; rfl
  rw [← hzz] at hz ⊢
  have HP := Lib.hid hput
  clear hput hzz
  obtain ⟨i0, hi, hz0, hz1, hz2⟩ := info_parts Tryd.infoU8
  go_loopw [4, 5] (fun s v wr => ∃ (pre : List (Nat × Bool)) (f y : Nat), grp 9 z = pre ++ grp f y ∧ pre.length + f = 9 ∧ y < 2 ^ (7 * f) ∧ y < 2 ^ 63 ∧ 1 ≤ f ∧ s = .int .u64 y ∧ wr.ownsRow w.heap.size 5 1 v pre.length (bv (pre.map encB)) ∧ Below w.heap.size w wr)
    (fun s _ _ => (intOf s).toNat)
  case atStart => exact ⟨[], 9, z, rfl, rfl, by omega, hz, by omega, rfl, World.ownsRow_nil _ _ _ _, Below.refl _ _⟩
  case round =>
    obtain ⟨pre, f, y, hg, hpf, hyf, hy63, hf1, rfl, hown, hb⟩ := hrel
    have hle := hb.size
    have hlen : pre.length < 9 := by omega
    have HG := Lib.hid hg
    have HF := Lib.hid hpf
    have HY := Lib.hid hyf
    clear hg hpf hyf
    by_cases hy : y < 128
    · have hd : decide (128 ≤ (y : Int)) = false := by simp; omega
      have he : (y : Int) = ((encB (y, true)).toNat : Int) := by rw [encB_toNat _ hy]; rfl
      have HE := Lib.hid he
      have hm : (y : Int) % 256 = y := by omega
      clear he
      go_wp2_with (first
        | (at_builtin; refine wpList_append_own _ rfl _ _ 65 rfl w.heap.size 5 i0 (.int .u8 0) 1 1 Tryd.underlying65 hi hz0 hz1 hz2 rfl (by decide) _ _ _ rfl (hown.alloc _) ⟨wr.heap.size, 0, none⟩ 1 1 [.int .u8 (y : Int)] rfl rfl (cell_one_new _ _ _) (by simp [Value.oneCell']) (by unfold maxLen; omega) (by omega) (by simp; omega) ?_; intro v' w1 hown' hgrow _; have hb1 : Below w.heap.size w w1 := (hb.alloc hle _).grown hgrow (by simp; omega) (fun k ek => World.ownsRow_base hown ek); have hcv := run_convert_own (P := Tryd.prog) (l := (pre ++ [(y, true)]).map encB) 65 9 5 Tryd.underlying65 Tryd.underlying5 Tryd.underlying9 (by rw [HE.out] at hown'; simpa [bv] using hown'); clear hown' hown hgrow))
      go_ret2
      refine ⟨?_, hb1⟩
      have e : (pre.map encB ++ [encB (y, true)]) = putL n := by
        rw [HP.out, HG.out, show f = (f - 1) + 1 by omega, grp, if_pos hy]; simp
      rw [e]
      rfl
    · have hd : decide (128 ≤ (y : Int)) = true := by simp; omega
      have hm : (y : Int) % 128 + 128 = ((encB (y % 128, false)).toNat : Int) := by rw [encB_toNat _ (Nat.mod_lt _ (by omega))]; simp
      go_wp2_with (first
        | (at_builtin; refine wpList_append_own _ rfl _ _ 65 rfl w.heap.size 5 i0 (.int .u8 0) 1 1 Tryd.underlying65 hi hz0 hz1 hz2 rfl (by decide) _ _ _ rfl (hown.alloc _) ⟨wr.heap.size, 0, none⟩ 1 1 [.int .u8 ((encB (y % 128, false)).toNat : Int)] rfl rfl (cell_one_new _ _ _) (by simp [Value.oneCell']) (by unfold maxLen; omega) (by omega) (by simp; omega) ?_; intro v' w1 hown' hgrow _; have hb1 : Below w.heap.size w w1 := (hb.alloc hle _).grown hgrow (by simp; omega) (fun k ek => World.ownsRow_base hown ek); clear hgrow hown))
      obtain ⟨f', rfl⟩ : ∃ f', f = f' + 1 := ⟨f - 1, by omega⟩
      have hpf := HF.out
      have hyf' : y < 2 ^ (7 * f' + 7) := by have := HY.out; rwa [Nat.mul_succ] at this
      rw [Nat.pow_add] at hyf'
      have hf2 : 1 ≤ f' := by
        rcases Nat.eq_zero_or_pos f' with h | h
        · subst h; simp at hyf'; omega
        · exact h
      refine ⟨⟨pre ++ [(y % 128, false)], f', y / 128, ?_, by simp; omega, Nat.div_lt_of_lt_mul (by omega), by omega, hf2, by go_num, by simpa [bv] using hown', hb1⟩, by simp [intOf]; omega⟩
      rw [HG.out, grp, if_neg hy, List.append_assoc]; rfl
end Go.Proofs.YtejehdmllicfcaaDoor
