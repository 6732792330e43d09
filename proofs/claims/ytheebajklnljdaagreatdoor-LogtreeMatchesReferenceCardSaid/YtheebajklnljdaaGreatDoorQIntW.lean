/- The walk of wire.Int. -/
import Derived.Test.YtheebajklnljdaaGreatDoorGc
import Derived.Test.YtheebajklnljdaaGreatDoorQBits
import Derived.Test.YtheebajklnljdaaGreatDoorChecked
import Derived.WalkSpells
import Derived.WalkLawsBesides
import Derived.Lib.Hide
import Derived.Laws.DeepNot64
namespace Go.Proofs.YtheebajklnljdaaGreatDoor
open Go Go.RowKit

theorem ret3_mid {k : IntKind} {u v : Value} {a b : Int} (h : a = b) : Ending.returned (.tuple #[u, .int k a, v]) = Ending.returned (.tuple #[u, .int k b, v]) := by rw [h]

set_option maxRecDepth 100000 in
set_option maxHeartbeats 1000000 in
theorem int_any (s : ByteArray) (p : Int) (w : World) (hs : s.size ≤ 140737488355328) (h1 : -9223372036854775808 ≤ p) (h2 : p ≤ 9223372036854775807) (n x e' : Int) (hg : getInt s.data.toList p = (n, x, e')) :
    Calls Tryz.prog 63 #[.string s, .int .i64 p] w fun e w' => e = .returned (.tuple #[.int .i64 n, .int .i64 x, .int .i64 e']) ∧ w = w' := by
  have HG := Lib.hid hg
  clear hg
  by_cases hp : p < 0
  · have hd : decide (p < 0) = true := decide_eq_true hp
    go_enter Tryz.func63, Tryz.ntmps63
    go_wp2
    go_ret3
    have h := HG.out
    unfold getInt at h
    rw [if_pos (.inl hp)] at h
    cases h
    exact ⟨rfl, rfl⟩
  obtain ⟨q, rfl⟩ := Int.eq_ofNat_of_zero_le (Int.not_lt.1 hp)
  by_cases hq : s.size < q
  · have hd : decide ((q : Int) < 0) = false := by simp
    have hd2 : decide ((s.size : Int) < (q : Int)) = true := by simp; omega
    go_enter Tryz.func63, Tryz.ntmps63
    go_wp2
    go_ret3
    have h := HG.out
    unfold getInt at h
    rw [if_pos (.inr (by simp; omega))] at h
    cases h
    exact ⟨rfl, rfl⟩
  have hd : decide ((q : Int) < 0) = false := by simp
  have hd2 : decide ((s.size : Int) < (q : Int)) = false := by simp; omega
  go_enter Tryz.func63, Tryz.ntmps63
  go_wp2
  clear hd hd2
  have hdec : (match dec 9 0 0 (s.data.toList.drop q) with | none => ((0, 0, 10) : Int × Int × Int) | some (n, k) => (n, (q : Int) + k, 0)) = (n, x, e') := by
    have h := HG.out
    unfold getInt at h
    rw [if_neg (by simp; omega), Int.toNat_natCast] at h
    exact h
  clear HG
  have HD := Lib.hid hdec
  clear hdec
  go_loop [7, 19] (fun z i => ∃ (k y : Nat), k ≤ 9 ∧ i = .int .i64 k ∧ z = .int .u64 y ∧ y < 2 ^ (7 * k) ∧ Hid (dec 9 0 0 (s.data.toList.drop q) = dec (9 - k) k y (s.data.toList.drop (q + k))))
    (fun _ i => 9 - (intOf i).toNat)
  case atStart => exact ⟨0, 0, by omega, rfl, rfl, by simp, rfl⟩
  case round =>
    obtain ⟨k, y, hk, rfl, rfl, hy, HH⟩ := hrel
    by_cases hk9 : k < 9
    · have hdk : decide ((k : Int) < 9) = true := by simp; omega
      by_cases hlen : q + k < s.size
      · have hdl : decide ((s.size : Int) ≤ (q : Int) + (k : Int)) = false := by simp; omega
        obtain ⟨c, hc⟩ : ∃ c : Nat, c = s[q + k].toNat := ⟨_, rfl⟩
        have hc256 : c < 256 := by rw [hc]; exact UInt8.toNat_lt _
        have hcI : ((s[q + k].toNat : Nat) : Int) = (c : Int) := by rw [hc]
        obtain ⟨y', hy'⟩ : ∃ y' : Nat, y' = y + c % 128 * 2 ^ (7 * k) := ⟨_, rfl⟩
        have hor := step_or y c k hc256 hy hk9
        rw [← hy'] at hor
        have hy2 : y' < 2 ^ (7 * (k + 1)) := by
          have h1 : c % 128 * 2 ^ (7 * k) ≤ 127 * 2 ^ (7 * k) := Nat.mul_le_mul_right _ (by omega)
          rw [hy', pow7]; omega
        have hy63 : y' < 9223372036854775808 := by
          have : 2 ^ (7 * (k + 1)) ≤ 2 ^ 63 := Nat.pow_le_pow_right (by omega) (by omega)
          omega
        have hdrop : s.data.toList.drop (q + k) = s[q + k] :: s.data.toList.drop (q + (k + 1)) := by
          rw [List.drop_eq_getElem_cons (by simpa using hlen)]; rfl
        have hstep : dec (9 - k) k y (s.data.toList.drop (q + k)) =
            if 128 ≤ c then dec (9 - (k + 1)) (k + 1) y' (s.data.toList.drop (q + (k + 1)))
            else if (c = 0 ∧ 0 < k) ∨ unzz y' < -4611686018427387903 then none else some (unzz y', k + 1) := by
          rw [hdrop, show 9 - k = (9 - (k + 1)) + 1 by omega, dec, ← hc, ← hy']
        have hxor := unzz_xor y' hy63
        obtain ⟨m, hm⟩ : ∃ m, m = unzz y' := ⟨_, rfl⟩
        rw [← hm] at hxor hstep
        have HS := Lib.hid hstep
        have HY := Lib.hid hy2
        have hor' := Lib.hid hor
        have HM := Lib.hid hm
        clear hstep hy2 hy hc hy' hdrop hm hy63
        by_cases h128 : 128 ≤ c
        · have hd1 : decide (128 ≤ (c : Int)) = true := by simp; omega
          go_wp2
          refine ⟨⟨k + 1, y', by omega, by go_num, rfl, HY.out, ?_⟩, by simp [intOf]; omega⟩
          unfold Hid
          rw [HH.out, HS.out, if_pos h128]
        · have hd1 : decide (128 ≤ (c : Int)) = false := by simp; omega
          have hfin : ∀ r, (if c = 0 ∧ 0 < k ∨ m < -4611686018427387903 then none else some (m, k + 1)) = r → (match r with | none => ((0, 0, 10) : Int × Int × Int) | some (n, k) => (n, (q : Int) + k, 0)) = (n, x, e') := by
            intro r hr
            have := HD.out
            rw [HH.out, HS.out, if_neg h128, hr] at this
            exact this
          clear HH HS HD HY hor' HM
          by_cases hc0 : c = 0
          · have hd2 : ((c : Int) == 0) = true := by simp; omega
            by_cases hk0 : 0 < k
            · have hd3 : decide (0 < (k : Int)) = true := by simp; omega
              have hf := hfin none (if_pos (.inl ⟨hc0, hk0⟩))
              cases hf
              clear hfin hc0
              go_wp2
              go_ret3
              exact ⟨rfl, rfl⟩
            · have hd3 : decide (0 < (k : Int)) = false := by simp; omega
              by_cases hm : m < -4611686018427387903
              · have hd4 : decide (m < -4611686018427387903) = true := decide_eq_true hm
                have hf := hfin none (if_pos (.inr hm))
                cases hf
                clear hfin hc0
                go_wp2
                go_ret3
                exact ⟨rfl, rfl⟩
              · have hd4 : decide (m < -4611686018427387903) = false := decide_eq_false hm
                have hf := hfin (some (m, k + 1)) (if_neg (by omega))
                cases hf
                clear hfin hc0
                go_wp2
                go_ret3
                exact ⟨ret3_mid (by omega), rfl⟩
          · have hd2 : ((c : Int) == 0) = false := by simp; omega
            by_cases hm : m < -4611686018427387903
            · have hd4 : decide (m < -4611686018427387903) = true := decide_eq_true hm
              have hf := hfin none (if_pos (.inr hm))
              cases hf
              clear hfin hc0
              go_wp2
              go_ret3
              exact ⟨rfl, rfl⟩
            · have hd4 : decide (m < -4611686018427387903) = false := decide_eq_false hm
              have hf := hfin (some (m, k + 1)) (if_neg (by omega))
              cases hf
              clear hfin hc0
              go_wp2
              go_ret3
              exact ⟨ret3_mid (by omega), rfl⟩
      · have hdl : decide ((s.size : Int) ≤ (q : Int) + (k : Int)) = true := by simp; omega
        have hf := HD.out
        rw [HH.out, List.drop_eq_nil_of_le (by simp; omega), show 9 - k = (9 - (k + 1)) + 1 by omega, dec] at hf
        cases hf
        clear HH HD hy
        go_wp2
        go_ret3
        exact ⟨rfl, rfl⟩
    · have hdk : decide ((k : Int) < 9) = false := by simp; omega
      have hf := HD.out
      rw [HH.out, show 9 - k = 0 by omega, dec] at hf
      cases hf
      clear HH HD hy
      go_wp2
      go_ret3
      exact ⟨rfl, rfl⟩
end Go.Proofs.YtheebajklnljdaaGreatDoor
