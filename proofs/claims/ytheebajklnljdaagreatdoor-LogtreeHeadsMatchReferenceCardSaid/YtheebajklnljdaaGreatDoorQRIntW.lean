/- The walk of the reference's Int. -/
import Derived.Test.YtheebajklnljdaaGreatDoorQIntW
import Derived.Test.YtheebajklnljdaaGreatDoorGf
import Derived.Lib.Strings
namespace Go.Proofs.YtheebajklnljdaaGreatDoor
open Go Go.RowKit

set_option maxRecDepth 100000 in
set_option maxHeartbeats 1000000 in
theorem rInt_any (s : ByteArray) (p : Int) (w : World) (hs : s.size ≤ 140737488355328) (h1 : -9223372036854775808 ≤ p) (h2 : p ≤ 9223372036854775807) (n x e' : Int) (hg : getInt s.data.toList p = (n, x, e')) :
    Calls Tryz.prog 64 #[.string s, .int .i64 p] w fun e w' => e = .returned (.tuple #[.int .i64 n, .int .i64 x, .int .i64 e']) ∧ Below w.heap.size w w' := by
  have HG := Lib.hid hg
  clear hg
  by_cases hp : p < 0
  · have hd : decide (p < 0) = true := decide_eq_true hp
    go_enter Tryz.func64, Tryz.ntmps64
    go_wp2
    go_ret3
    have h := HG.out
    unfold getInt at h
    rw [if_pos (.inl hp)] at h
    cases h
    exact ⟨rfl, Below.refl _ _⟩
  obtain ⟨q, rfl⟩ := Int.eq_ofNat_of_zero_le (Int.not_lt.1 hp)
  by_cases hq : s.size < q
  · have hd : decide ((q : Int) < 0) = false := by simp
    have hd2 : decide ((s.size : Int) < (q : Int)) = true := by simp; omega
    go_enter Tryz.func64, Tryz.ntmps64
    go_wp2
    go_ret3
    have h := HG.out
    unfold getInt at h
    rw [if_pos (.inr (by simp; omega))] at h
    cases h
    exact ⟨rfl, Below.refl _ _⟩
  have hd : decide ((q : Int) < 0) = false := by simp
  have hd2 : decide ((s.size : Int) < (q : Int)) = false := by simp; omega
  go_enter Tryz.func64, Tryz.ntmps64
  go_wp2
  clear hd hd2
  have hdec : (match dec 9 0 0 (s.data.toList.drop q) with | none => ((0, 0, 10) : Int × Int × Int) | some (n, k) => (n, (q : Int) + k, 0)) = (n, x, e') := by
    have h := HG.out
    unfold getInt at h
    rw [if_neg (by simp; omega), Int.toNat_natCast] at h
    exact h
  clear HG
  have HD := Lib.hid hdec
  clear hdec
  go_loop [7, 8] (fun z i => ∃ (k y : Nat), k ≤ 9 ∧ i = .int .i64 k ∧ z = .int .u64 y ∧ y < 2 ^ (7 * k) ∧ Hid (dec 9 0 0 (s.data.toList.drop q) = dec (9 - k) k y (s.data.toList.drop (q + k))))
    (fun _ i => 9 - (intOf i).toNat)
  case atStart => exact ⟨0, 0, by omega, rfl, rfl, by simp, rfl⟩
  case round =>
    obtain ⟨k, y, hk, rfl, rfl, hy, HH⟩ := hrel
    by_cases hk9 : k < 9
    · have hdk : decide ((k : Int) < 9) = true := by simp; omega
      by_cases hlen : q + k < s.size
      · have hdl : decide ((q : Int) + (k : Int) < (s.size : Int)) = true := by simp; omega
        obtain ⟨c, hc⟩ : ∃ c : Nat, c = s[q + k].toNat := ⟨_, rfl⟩
        have hc256 : c < 256 := by rw [hc]; exact UInt8.toNat_lt _
        have hcI : ((s[q + k].toNat : Nat) : Int) = (c : Int) := by rw [hc]
        obtain ⟨y', hy'⟩ : ∃ y' : Nat, y' = y + c % 128 * 2 ^ (7 * k) := ⟨_, rfl⟩
        have hor := step_add y c k hy hk9
        rw [← hy'] at hor
        have hy2 : y' < 2 ^ (7 * (k + 1)) := by
          have h1 : c % 128 * 2 ^ (7 * k) ≤ 127 * 2 ^ (7 * k) := Nat.mul_le_mul_right _ (by omega)
          rw [hy', pow7]; omega
        have hy63 : y' < 9223372036854775808 := by
          have : 2 ^ (7 * (k + 1)) ≤ 2 ^ 63 := Nat.pow_le_pow_right (by omega) (by omega)
          omega
        have hdrop : s.data.toList.drop (q + k) = s[q + k] :: s.data.toList.drop (q + (k + 1)) := by
          rw [List.drop_eq_getElem_cons (by simpa using hlen)]; rfl
        have hstep : dec (9 - k) k y (s.data.toList.drop (q + k)) =
            if 128 ≤ c then dec (9 - (k + 1)) (k + 1) y' (s.data.toList.drop (q + (k + 1)))
            else if (c = 0 ∧ 0 < k) ∨ unzz y' < -4611686018427387903 then none else some (unzz y', k + 1) := by
          rw [hdrop, show 9 - k = (9 - (k + 1)) + 1 by omega, dec, ← hc, ← hy']
        obtain ⟨m, hm⟩ : ∃ m, m = unzz y' := ⟨_, rfl⟩
        rw [← hm] at hstep
        have HS := Lib.hid hstep
        have HY := Lib.hid hy2
        have HM := Lib.hid hm
        clear hstep hy2 hy hc hy' hdrop hm
        by_cases h128 : 128 ≤ c
        · have hd1 : decide (128 ≤ (c : Int)) = true := by simp; omega
          go_wp2
          refine ⟨⟨k + 1, y', by omega, by go_num, rfl, HY.out, ?_⟩, by simp [intOf]; omega⟩
          unfold Hid
          rw [HH.out, HS.out, if_pos h128]
        · have hd1 : decide (128 ≤ (c : Int)) = false := by simp; omega
          by_cases hpar : y' % 2 = 1
          · have hd2 : ((y' : Int) % 2 == 1) = true := by simp; omega
            have hval : -((y' : Int) / 2) - 1 = m := by rw [HM.out]; unfold unzz; rw [if_neg (by omega)]; omega
            have hm2 : m ≤ 4611686018427387903 := by omega
            have HV := Lib.hid hval
            clear hval
            go_wp2_with fail
            rw [HV.out]
            by_cases hbad : m < -4611686018427387903
            · refine (rPutInt_bad m (.inl hbad) w).mono ?_
              rintro e w' ⟨rfl, rfl⟩
              have hf := HD.out
              rw [HH.out, HS.out, if_neg h128, if_pos (.inr hbad)] at hf
              cases hf
              clear HD HH HS
              go_wp2
              go_ret3
              exact ⟨rfl, Below.refl _ _⟩
            · refine (rPutInt_ok m (Int.not_lt.1 hbad) hm2 w).mono ?_
              rintro e w' ⟨rfl, hb'⟩
              by_cases hck : c = 0 ∧ 0 < k
              · have hf := HD.out
                have hn : dec 9 0 0 (s.data.toList.drop q) = none := by rw [HH.out, HS.out, if_neg h128, if_pos (.inl hck)]
                have hcmp : (putL m == (s.extract q (q + k + 1)).toList) = false := by
                  rw [Lib.toList_data, Lib.extract_data, beq_eq_false_iff_ne]
                  exact dec_none_ne hn ⟨Int.not_lt.1 hbad, hm2⟩ _
                rw [hn] at hf
                cases hf
                clear HD HH HS hn hck
                go_wp2
                go_ret3
                exact ⟨rfl, hb'⟩
              · have hf := HD.out
                have hn : dec 9 0 0 (s.data.toList.drop q) = some (m, k + 1) := by rw [HH.out, HS.out, if_neg h128, if_neg (by omega)]
                have hcmp : (putL m == (s.extract q (q + k + 1)).toList) = true := by
                  rw [Lib.toList_data, Lib.extract_data, beq_iff_eq, (dec_some_take hn).1, show q + k + 1 - q = k + 1 by omega]
                rw [hn] at hf
                cases hf
                clear HD HH HS hn hck
                go_wp2
                go_ret3
                exact ⟨ret3_mid (by omega), hb'⟩
          · have hd2 : ((y' : Int) % 2 == 1) = false := by simp; omega
            have hval : (y' : Int) / 2 = m := by rw [HM.out]; unfold unzz; rw [if_pos (by omega)]; omega
            have hm2 : m ≤ 4611686018427387903 := by omega
            have HV := Lib.hid hval
            clear hval
            go_wp2_with fail
            rw [HV.out]
            by_cases hbad : m < -4611686018427387903
            · refine (rPutInt_bad m (.inl hbad) w).mono ?_
              rintro e w' ⟨rfl, rfl⟩
              have hf := HD.out
              rw [HH.out, HS.out, if_neg h128, if_pos (.inr hbad)] at hf
              cases hf
              clear HD HH HS
              go_wp2
              go_ret3
              exact ⟨rfl, Below.refl _ _⟩
            · refine (rPutInt_ok m (Int.not_lt.1 hbad) hm2 w).mono ?_
              rintro e w' ⟨rfl, hb'⟩
              by_cases hck : c = 0 ∧ 0 < k
              · have hf := HD.out
                have hn : dec 9 0 0 (s.data.toList.drop q) = none := by rw [HH.out, HS.out, if_neg h128, if_pos (.inl hck)]
                have hcmp : (putL m == (s.extract q (q + k + 1)).toList) = false := by
                  rw [Lib.toList_data, Lib.extract_data, beq_eq_false_iff_ne]
                  exact dec_none_ne hn ⟨Int.not_lt.1 hbad, hm2⟩ _
                rw [hn] at hf
                cases hf
                clear HD HH HS hn hck
                go_wp2
                go_ret3
                exact ⟨rfl, hb'⟩
              · have hf := HD.out
                have hn : dec 9 0 0 (s.data.toList.drop q) = some (m, k + 1) := by rw [HH.out, HS.out, if_neg h128, if_neg (by omega)]
                have hcmp : (putL m == (s.extract q (q + k + 1)).toList) = true := by
                  rw [Lib.toList_data, Lib.extract_data, beq_iff_eq, (dec_some_take hn).1, show q + k + 1 - q = k + 1 by omega]
                rw [hn] at hf
                cases hf
                clear HD HH HS hn hck
                go_wp2
                go_ret3
                exact ⟨ret3_mid (by omega), hb'⟩
      · have hdl : decide ((q : Int) + (k : Int) < (s.size : Int)) = false := by simp; omega
        have hf := HD.out
        rw [HH.out, List.drop_eq_nil_of_le (by simp; omega), show 9 - k = (9 - (k + 1)) + 1 by omega, dec] at hf
        cases hf
        clear HH HD hy
        go_wp2
        go_ret3
        exact ⟨rfl, Below.refl _ _⟩
    · have hdk : decide ((k : Int) < 9) = false := by simp; omega
      have hf := HD.out
      rw [HH.out, show 9 - k = 0 by omega, dec] at hf
      cases hf
      clear HH HD hy
      go_wp2
      go_ret3
      exact ⟨rfl, Below.refl _ _⟩
end Go.Proofs.YtheebajklnljdaaGreatDoor
