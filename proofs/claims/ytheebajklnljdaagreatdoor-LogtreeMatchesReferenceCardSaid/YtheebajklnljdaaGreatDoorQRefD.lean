/- The reference's SHA-256: the padded string.  -/
import Derived.Test.YtheebajklnljdaaGreatDoorQShaE
import Derived.OwnWalk
namespace Go.Proofs.YtheebajklnljdaaGreatDoor
open Go Go.RowKit

theorem own_formR {w : World} {base : Nat} {e : TypeId} {v : Value} {k : Nat} {xs : List Value} (h : w.ownsRow base e 1 v k xs) : ∃ A c, v = .slice A k c := by
  rcases h.2 with ⟨rfl, rfl⟩ | ⟨g, cap, cur, rfl, _⟩
  · exact ⟨none, 0, rfl⟩
  · exact ⟨_, cap, rfl⟩

set_option maxRecDepth 100000 in
set_option maxHeartbeats 4000000 in
theorem extended_ok (s : ByteArray) (w : World) (hs : s.size ≤ 1000000) :
    Calls Tryz.prog 100 #[.string s] w fun e w' => ∃ v, e = .returned v ∧ w'.ownsRow w.heap.size 5 1 v (padL s.data.toList).length (bv (padL s.data.toList)) ∧ Below w.heap.size w w' := by
  obtain ⟨i0, hi, hz0, hz1, hz2⟩ := info_u8
  obtain ⟨l, hl⟩ : ∃ l, l = s.data.toList := ⟨_, rfl⟩
  have ll : l.length = s.size := by rw [hl]; simp
  have hget : ∀ k (h : k < s.size), bv (l.take (k + 1)) = bv (l.take k) ++ [.int .u8 (s[k].toNat : Int)] := by
    intro k h
    rw [hl, List.take_succ_eq_append_getElem (by simpa using h), bv_append]
    rfl
  rw [← hl]
  have HG := Lib.hid hget
  have LL := Lib.hid ll
  clear hl ll hget
  go_enter Tryz.func100, Tryz.ntmps100
  go_wp2_with fail
  go_loopw [3, 4] (fun v iv wr => ∃ k : Nat, k ≤ s.size ∧ iv = .int .i64 k ∧ wr.ownsRow w.heap.size 5 1 v k (bv (l.take k)) ∧ Below w.heap.size w wr) (fun _ iv _ => s.size - (intOf iv).toNat)
  case atStart => exact ⟨0, by omega, rfl, World.ownsRow_nil _ _ _ 1, Below.refl _ _⟩
  case round =>
    obtain ⟨k, hk, rfl, own, hb⟩ := hrel
    have hle := hb.size
    by_cases h : k < s.size
    · have t1 : decide (k < s.size) = true := by simpa using h
      have hg := HG.out k h
      have HGK := Lib.hid hg
      clear hg
      go_wp2_with (at_builtin; refine wpList_append_own _ rfl _ _ 77 rfl w.heap.size 5 i0 (.int .u8 0) 1 1 Tryz.underlying77 hi hz0 hz1 hz2 rfl (by decide) u3 k _ rfl (own.alloc _) ⟨wr.heap.size, 0, none⟩ 1 1 [.int .u8 (s[k].toNat : Int)] rfl rfl (cell_one_new _ _ _) (by simp [Value.oneCell']) (by unfold maxLen; omega) (by omega) (by simp; omega) ?_; intro v5 w5 own5 g5 _)
      have hb5 := Below.appended hb hle own g5
      rw [← HGK.out] at own5
      clear own hb g5
      go_wp2_with fail
      exact ⟨⟨k + 1, by omega, by go_num, own5, hb5⟩, by simp [intOf]; omega⟩
    · have t1 : decide (k < s.size) = false := by simpa using h
      have hk' : k = s.size := by omega
      have hal : l.take k = l := List.take_of_length_le (by rw [LL.out]; omega)
      rw [hal, hk'] at own
      obtain ⟨wz, rfl⟩ : ∃ wz : World, wz = wr := ⟨_, rfl⟩
      clear hal hk' hk h
      go_wp2_with (at_builtin; refine wpList_append_own _ rfl _ _ 77 rfl w.heap.size 5 i0 (.int .u8 0) 1 1 Tryz.underlying77 hi hz0 hz1 hz2 rfl (by decide) u3 s.size _ rfl (own.alloc _) ⟨wz.heap.size, 0, none⟩ 1 1 [.int .u8 128] rfl rfl (cell_one_new _ _ _) (by simp [Value.oneCell']) (by unfold maxLen; omega) (by omega) (by simp; omega) ?_; intro v5 w5 own5 g5 _)
      have hb5 := Below.appended hb hle own g5
      obtain ⟨zc, hzc⟩ : ∃ zc, zc = (119 - s.size % 64) % 64 := ⟨_, rfl⟩
      have own4 : w5.ownsRow w.heap.size 5 1 v5 (s.size + 1 + 0) (bv (l ++ (128 :: List.replicate 0 0))) := by
        rw [bv_append]; exact own5
      have hzlt : zc < 64 := by omega
      clear own5 own g5 hb
      go_wp2_with fail
      go_loopw [3] (fun v wr => ∃ k : Nat, k ≤ zc ∧ wr.ownsRow w.heap.size 5 1 v (s.size + 1 + k) (bv (l ++ (128 :: List.replicate k 0))) ∧ Below w.heap.size w wr) (fun v _ => zc + s.size + 1 - lenOf v)
      case atStart => exact ⟨0, by omega, own4, hb5⟩
      case round =>
        clear own4 hb5
        obtain ⟨k, hk, own, hb⟩ := hrel
        obtain ⟨m, hm⟩ : ∃ m, m = s.size + 1 + k := ⟨_, rfl⟩
        rw [← hm] at own
        obtain ⟨A, c, rfl⟩ := own_formR own
        have hle := hb.size
        by_cases hkz : k < zc
        · have t0 : ((m : Int) % 64 != 56) = true := by rw [bne_iff_ne]; omega
          have hmb : m ≤ 1000100 := by omega
          have HM := Lib.hid hm
          have HZ := Lib.hid hzc
          clear hm hzc
          go_wp2_with (at_builtin; refine wpList_append_own _ rfl _ _ 77 rfl w.heap.size 5 i0 (.int .u8 0) 1 1 Tryz.underlying77 hi hz0 hz1 hz2 rfl (by decide) (.slice A m c) m _ rfl (own.alloc _) ⟨wr.heap.size, 0, none⟩ 1 1 [.int .u8 0] rfl rfl (cell_one_new _ _ _) (by simp [Value.oneCell']) (by unfold maxLen; omega) (by omega) (by simp; omega) ?_; intro v6 w6 own6 g6 _)
          have hb6 := Below.appended hb hle own g6
          have e6 : bv (l ++ (128 :: List.replicate k 0)) ++ [.int .u8 0] = bv (l ++ (128 :: List.replicate (k + 1) 0)) := by
            rw [← zeros_snoc, bv_append (l ++ _)]; rfl
          rw [e6] at own6
          obtain ⟨A6, c6, rfl⟩ := own_formR own6
          have hmm := HM.out
          rw [show m + 1 = s.size + 1 + (k + 1) by omega] at own6
          clear own g6 e6 hb hmm
          go_wp2_with fail
          exact ⟨⟨k + 1, by omega, by rw [show m + 1 = s.size + 1 + (k + 1) by have := HM.out; omega]; exact own6, hb6⟩, by have := HM.out; simp only [lenOf]; omega⟩
        · have hk' : k = zc := by omega
          have t0 : ((m : Int) % 64 != 56) = false := by rw [bne_eq_false_iff_eq]; omega
          obtain ⟨wz, rfl⟩ : ∃ wz : World, wz = wr := ⟨_, rfl⟩
          obtain ⟨P, hP⟩ : ∃ P, P = l ++ (128 :: List.replicate zc 0) := ⟨_, rfl⟩
          have hpl : P.length = m := by rw [hP, List.length_append, List.length_cons, List.length_replicate, LL.out]; omega
          have hpad : P ++ be8 (8 * s.size) = padL l := by
            unfold padL
            rw [hP, LL.out, hzc]
          have ownP : wz.ownsRow w.heap.size 5 1 (.slice A m c) (m + 0) (bv (P ++ (be8 (8 * s.size)).take 0)) := by
            rw [List.take_zero, List.append_nil, hP, ← hk']; exact own
          have hmb : m ≤ 1000064 := by omega
          have HPAD := Lib.hid hpad
          have HPL := Lib.hid hpl
          clear own hk' hk hkz hzlt hm hzc hP hpad hpl
          go_wp2_with fail
          go_loopw [3, 5] (fun v iv wr => ∃ (j : Nat) (i : Int), j ≤ 8 ∧ (j : Int) + i ≤ 7 ∧ 7 ≤ (j : Int) + i ∧ iv = .int .i64 i ∧ wr.ownsRow w.heap.size 5 1 v (m + j) (bv (P ++ (be8 (8 * s.size)).take j)) ∧ Below w.heap.size w wr) (fun _ iv _ => (intOf iv + 1).toNat)
          case atStart => exact ⟨0, 7, by omega, by omega, by omega, rfl, ownP, hb⟩
          case round =>
            clear ownP hb t0
            obtain ⟨j, i, hj, hj1, hj2, rfl, own, hb⟩ := hrel
            have hle2 := hb.size
            by_cases hj8 : j < 8
            · obtain ⟨S, hS⟩ : ∃ S : Nat, S = 8 * (7 - j) := ⟨_, rfl⟩
              obtain ⟨M, hM⟩ : ∃ M : Nat, M = 8 * s.size := ⟨_, rfl⟩
              have e8 : (8 : Int) * i = (S : Int) := by omega
              have eM : (8 : Int) * (s.size : Int) = (M : Int) := by omega
              have nS : (0 : Int) ≤ (S : Int) := by omega
              have nS2 : (S : Int) < 64 := by omega
              have nM : (M : Int) ≤ 8000000 := by omega
              have hby : (M : Int) / 2 ^ S % 256 = ((UInt8.ofNat (M / 2 ^ S)).toNat : Int) := by
                rw [UInt8.toNat_ofNat', Int.natCast_emod, Int.natCast_ediv, Int.natCast_pow]
                rfl
              have hsn := be8_snoc P (8 * s.size) j hj8
              rw [← hM, ← hS] at hsn
              rw [← hM] at own
              have HSN := Lib.hid hsn
              have HM := Lib.hid hM
              have t1 : decide (0 ≤ i) = true := by simp; omega
              generalize UInt8.ofNat (M / 2 ^ S) = cb at *
              clear hsn hM hS
              go_wp2_with (at_builtin; refine wpList_append_own _ rfl _ _ 77 rfl w.heap.size 5 i0 (.int .u8 0) 1 1 Tryz.underlying77 hi hz0 hz1 hz2 rfl (by decide) u3 (m + j) _ rfl (own.alloc _) ⟨wr.heap.size, 0, none⟩ 1 1 [.int .u8 (cb.toNat : Int)] rfl rfl (cell_one_new _ _ _) (by simp [Value.oneCell']) (by unfold maxLen; omega) (by omega) (by simp; omega) ?_; intro v6 w6 own6 g6 _)
              have hb6 := Below.appended hb hle2 own g6
              have e6 : bv (P ++ (be8 M).take j) ++ [.int .u8 (cb.toNat : Int)] = bv (P ++ (be8 M).take (j + 1)) := by
                rw [← HSN.out, bv_append (P ++ _)]; rfl
              rw [e6, HM.out] at own6
              clear own g6 e6 hb
              go_wp2_with fail
              exact ⟨⟨j + 1, i - 1, by omega, by omega, by omega, rfl, own6, hb6⟩, by simp [intOf]; omega⟩
            · have hj' : j = 8 := by omega
              have t1 : decide (0 ≤ i) = false := by simp; omega
              have hf : m + j = (padL l).length := by rw [← HPAD.out, List.length_append, HPL.out, be8_len, hj']
              have hg : P ++ (be8 (8 * s.size)).take j = padL l := by rw [hj', List.take_of_length_le (by rw [be8_len]; omega), HPAD.out]
              rw [hf, hg] at own
              clear hf hg hj'
              go_wp2_with fail
              go_ret
              exact ⟨_, rfl, own, hb⟩
end Go.Proofs.YtheebajklnljdaaGreatDoor
