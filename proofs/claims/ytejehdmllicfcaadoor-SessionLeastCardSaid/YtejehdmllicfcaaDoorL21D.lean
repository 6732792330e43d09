/- The walk of SessionLeast. -/
import Derived.Test.YtejehdmllicfcaaDoorSesS
import Derived.Test.YtejehdmllicfcaaDoorSesQ
import Derived.IntWalk
namespace Go.Proofs.YtejehdmllicfcaaDoor
open Go Go.RowKit

theorem least_no {t s u : Int} (h : u < t) : allowsS t s u = false := by
  unfold allowsS; rw [decide_eq_false_iff_not]; omega
theorem least_yes {t s u p : Int} (h0 : 0 ≤ s) (h1 : s ≤ p) (h2 : p ≤ u) (h3 : u ≤ 10000) (h4 : t ≤ p) (h5 : p = s ∨ p ≤ t) : allowsS t s u = true ∧ raiseS t s = p := by
  refine ⟨by unfold allowsS; rw [decide_eq_true_eq]; omega, ?_⟩
  unfold raiseS; split <;> omega

set_option maxRecDepth 100000 in
set_option maxHeartbeats 4000000 in
theorem least_any (A : Option Addr) (c : Nat) (xs : List Step) (since len : Int) (w : World) (hT : TabOk w) (h0 : StepsAt w (.slice A xs.length c) xs)
    (i1 : -9223372036854775808 ≤ since) (i2 : since ≤ 9223372036854775807) (j1 : -9223372036854775808 ≤ len) (j2 : len ≤ 9223372036854775807) :
    Calls Tryd.prog 7 #[.slice A xs.length c, .int .i64 since, .int .i64 len] w fun e w' => e = .returned (.bool true) ∧ Below w.heap.size w w' := by
  have HT := Lib.hid hT
  clear hT
  go_enter Tryd.func7, Tryd.ntmps7
  go_wp2_with fail
  refine (sane_any _ HT.out).mono ?_
  rintro e w1 ⟨rfl, b1⟩
  go_wp2_with fail
  refine (newS _).mono ?_
  rintro e w2 ⟨rfl, hw⟩
  obtain ⟨g, hg⟩ : ∃ g, g = w1.heap.size := ⟨_, rfl⟩
  have s2 : SesIs w2 g 0 := by rw [hw, hg]; exact BlkIs.new _ _ _
  have b2 : Below w.heap.size w w2 := by rw [hw]; exact Below.next b1 ((Below.refl _ w1).alloc (Nat.le_refl _) _)
  have gg : w.heap.size ≤ g := by rw [hg]; exact b1.size
  rw [← hg]
  clear hw hg b1
  go_wp2_with fail
  go_loopw [9] (fun iv wr => ∃ (k : Nat) (t : Int), k ≤ xs.length ∧ iv = .int .i64 k ∧ TokS t ∧ SesIs wr g t ∧ Below w.heap.size w wr) (fun iv _ => xs.length - (intOf iv).toNat)
  case atStart => exact ⟨0, 0, by omega, rfl, ⟨by omega, by omega⟩, s2, b2⟩
  case round =>
    clear s2 b2
    obtain ⟨k, t, hk, rfl, ht, hs, hb⟩ := hrel
    by_cases hgo : k < xs.length ∧ k < 20
    · obtain ⟨hkn, hk20⟩ := hgo
      have hd : decide ((k : Int) < (xs.length : Int)) = true := by simp; omega
      have hd2 : decide ((k : Int) < 20) = true := by simp; omega
      obtain ⟨x, hx⟩ : ∃ x, xs[k]? = some x := ⟨_, List.getElem?_eq_getElem hkn⟩
      obtain ⟨ad, rfl, hlt, c0, c1, c2⟩ := (h0.below hb).at_ hx
      have q1 : (0 : Int) ≤ (k : Int) := by omega
      have q2 : (k : Int) < (xs.length : Int) := by omega
      have HX := Lib.hid hx
      clear hx
      obtain ⟨xw, xa, xb⟩ := x
      cases xw with
      | true =>
        go_wp2_with fail
        refine (wrote_ok _ g t xa hs).mono ?_
        rintro e w' ⟨rfl, hs1, hu⟩
        have hb1 := Below.upd hb hu gg
        have h8 := wroteS_tok (n := xa) ht
        go_wp2_with fail
        go_roundw
        case rel => exact ⟨k + 1, wroteS t xa, by omega, by go_num, h8, hs1, hb1⟩
        case measure => simp [intOf]; omega
      | false =>
        go_wp2_with fail
        go_region_with (first
          | (go_at_call 13; refine (answer_any xa xb _).mono ?_; rintro e W1 ⟨rfl, k1⟩)
          | (go_at_call 17; refine (accept_ok _ g t xa xb ?_ _ _ _ _ _ _ _ _ _ _ _ _ _).mono ?_; exact SesIs.later (BlkIs.drew hs) k1; rintro e W2 ⟨rfl, hs2, hu⟩))
        all_goals
          have hb1 := Below.upd (Below.next hb ((Below.drew (Below.refl _ wr)).trans k1)) hu gg
          have h8 := acceptT_tok (a := xa) (b := xb) ht
          go_wp2_with fail
          go_roundw
          case rel => exact ⟨k + 1, acceptT t xa xb, by omega, by go_num, h8, hs2, hb1⟩
          case measure => simp [intOf]; omega
    · obtain ⟨wz, rfl⟩ : ∃ wz : World, wz = wr := ⟨_, rfl⟩
      have hr := pickZ_range since 10001 (by omega)
      have ht1 := ht.1
      have ht2 := ht.2
      have hdd : (k < xs.length ∧ ¬ k < 20) ∨ ¬ k < xs.length := by omega
      clear hgo hk
      rcases hdd with ⟨hd, hd2⟩ | hd
      all_goals
        go_wp2_with fail
        refine (pick_any since 10001 _ i1 i2 (by omega) (by omega)).mono ?_
        rintro e w' ⟨rfl, rfl⟩
        generalize pickZ since 10001 = s at *
        obtain ⟨r1, r2⟩ := hr
        have hw : IntKind.i64.wrap (10001 - s) = 10001 - s := IntWalk.i64_in _ (by omega)
        go_wp2_with fail
        refine (pick_any len (10001 - s) _ j1 j2 (by omega) (by omega)).mono ?_
        rintro e w' ⟨rfl, rfl⟩
        have hr2 := pickZ_range len (10001 - s) (by omega)
        generalize pickZ len (10001 - s) = d at *
        obtain ⟨r3, r4⟩ := hr2
        clear hw
        obtain ⟨u, hu⟩ : ∃ u, u = s + d := ⟨_, rfl⟩
        have r5 : s ≤ u := by omega
        have r6 : u ≤ 10000 := by omega
        have hw : IntKind.i64.wrap (s + d) = s + d := IntWalk.i64_in _ (by omega)
        go_wp2_with fail
        refine (tokenS _ g t hs).mono ?_
        rintro e w' ⟨rfl, rfl⟩
        rw [← hu]
        clear hw hu r3 r4
        go_wp2_with fail
        go_loop [12, 13] (fun wv pv => ∃ p : Int, s ≤ p ∧ p ≤ u + 1 ∧ (p = s ∨ p ≤ t) ∧ wv = .int .i64 (-1) ∧ pv = .int .i64 p) (fun _ pv => (10001 - intOf pv).toNat)
        case atStart => exact ⟨s, by omega, by omega, .inl rfl, rfl, rfl⟩
        case round =>
          obtain ⟨p, p1, p2, p3, rfl, rfl⟩ := hrel
          have P3 := Lib.hid p3
          clear p3
          by_cases hpu : p ≤ u
          · by_cases htp : t ≤ p
            · obtain ⟨e1, e2⟩ := least_yes r1 p1 hpu r6 htp P3.out
              have E1 := Lib.hid e1
              have E2 := Lib.hid e2
              clear e1 e2
              have q0 : (p == p) = true := by simp
              have q1 : decide (p < 0) = false := by simp; omega
              go_wp2_with fail
              refine (answer_any s u _).mono ?_
              rintro e W1 ⟨rfl, k1⟩
              go_wp2_with fail
              refine (allows_ok _ g t s u (SesIs.later hs k1) _ _ _ _ _ _ _ _ _ _ _ _ _).mono ?_
              rintro e W2 ⟨rfl, k2⟩
              rw [E1.out]
              have hs2 := (hs.later k1).later k2
              have hb2 := Below.next (Below.next hb k1) k2
              clear k1 k2
              go_wp2_with fail
              refine (answer_any s u _).mono ?_
              rintro e W3 ⟨rfl, k1⟩
              go_wp2_with fail
              refine (accept_ok _ g t s u (SesIs.later hs2 k1) _ _ _ _ _ _ _ _ _ _ _ _ _).mono ?_
              rintro e W4 ⟨rfl, hs4, hu⟩
              obtain ⟨f1, f2, -⟩ := accept_yes E1.out
              rw [f1, E1.out, E2.out]
              rw [f2, E2.out] at hs4
              have hb4 := Below.upd (Below.next hb2 k1) hu gg
              clear f1 f2 hu k1 hs2 hb2
              go_wp2_with fail
              refine (tokenS _ g p hs4).mono ?_
              rintro e w' ⟨rfl, rfl⟩
              go_wp2_with fail
              go_ret
              exact ⟨rfl, hb4⟩
            · go_wp2_with fail
              go_round
              case rel => exact ⟨p + 1, by omega, by omega, .inr (by omega), rfl, by go_num⟩
              case measure => simp [intOf]; omega
          · have hno := least_no (t := t) (s := s) (u := u) (by have := P3.out; omega)
            have q1 : decide ((-1 : Int) < 0) = true := by simp
            have q0 : (t == t) = true := by simp
            have E1 := Lib.hid hno
            clear hno
            go_wp2_with fail
            refine (answer_any s u _).mono ?_
            rintro e W1 ⟨rfl, k1⟩
            go_wp2_with fail
            refine (allows_ok _ g t s u (SesIs.later hs k1) _ _ _ _ _ _ _ _ _ _ _ _ _).mono ?_
            rintro e W2 ⟨rfl, k2⟩
            rw [E1.out]
            have hs2 := (hs.later k1).later k2
            have hb2 := Below.next (Below.next hb k1) k2
            clear k1 k2
            go_wp2_with fail
            refine (answer_any s u _).mono ?_
            rintro e W3 ⟨rfl, k1⟩
            go_wp2_with fail
            refine (accept_ok _ g t s u (SesIs.later hs2 k1) _ _ _ _ _ _ _ _ _ _ _ _ _).mono ?_
            rintro e W4 ⟨rfl, hs4, hu⟩
            obtain ⟨f1, f2⟩ := accept_no E1.out
            rw [f1, E1.out]
            rw [f2] at hs4
            have hb4 := Below.upd (Below.next hb2 k1) hu gg
            clear f1 f2 hu k1 hs2 hb2
            go_wp2_with fail
            refine (tokenS _ g t hs4).mono ?_
            rintro e w' ⟨rfl, rfl⟩
            go_wp2_with fail
            go_ret
            exact ⟨rfl, hb4⟩
end Go.Proofs.YtejehdmllicfcaaDoor
