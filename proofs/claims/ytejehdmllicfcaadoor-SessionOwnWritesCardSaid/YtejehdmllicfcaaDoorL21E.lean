/- The walk of SessionOwnWrites. -/
import Derived.Test.YtejehdmllicfcaaDoorSesS
import Derived.Test.YtejehdmllicfcaaDoorSesQ
import Derived.Deep.DeepCutAuto
import Derived.Deep.CutBlock
namespace Go.Proofs.YtejehdmllicfcaaDoor
open Go Go.RowKit

set_option maxRecDepth 100000 in
set_option maxHeartbeats 4000000 in
theorem own_any (A B : Option Addr) (c d : Nat) (xs ys : List Step) (p which : Int) (w : World) (hT : TabOk w) (h0 : StepsAt w (.slice A xs.length c) xs) (h1 : StepsAt w (.slice B ys.length d) ys)
    (i1 : -9223372036854775808 ≤ p) (i2 : p ≤ 9223372036854775807) (j1 : -9223372036854775808 ≤ which) (j2 : which ≤ 9223372036854775807) :
    Calls Tryd.prog 6 #[.slice A xs.length c, .int .i64 p, .slice B ys.length d, .int .i64 which] w fun e w' => e = .returned (.bool true) ∧ Below w.heap.size w w' := by
  have HT := Lib.hid hT
  clear hT
  go_enter Tryd.func6, Tryd.ntmps6
  go_wp2_with fail
  refine (sane_any _ HT.out).mono ?_
  rintro e w1 ⟨rfl, b1⟩
  go_wp2_with fail
  refine (newS _).mono ?_
  rintro e w2 ⟨rfl, hw⟩
  obtain ⟨g, hg⟩ : ∃ g, g = w1.heap.size := ⟨_, rfl⟩
  have s2 : SesIs w2 g 0 := by rw [hw, hg]; exact BlkIs.new _ _ _
  have b2 : Below w.heap.size w w2 := by rw [hw]; exact Below.next b1 ((Below.refl _ w1).alloc (Nat.le_refl _) _)
  have gg : w.heap.size ≤ g := by rw [hg]; exact b1.size
  rw [← hg]
  clear hw hg b1
  go_upto_block 0 with fail
  go_cut [] (fun wx => ∃ t : Int, TokS t ∧ SesIs wx g t ∧ Below w.heap.size w wx)
  case first =>
    go_wp2_with fail
    go_loopw [11] (fun iv wr => ∃ (k : Nat) (t : Int), k ≤ xs.length ∧ iv = .int .i64 k ∧ TokS t ∧ SesIs wr g t ∧ Below w.heap.size w wr) (fun iv _ => xs.length - (intOf iv).toNat)
    case atStart => exact ⟨0, 0, by omega, rfl, ⟨by omega, by omega⟩, s2, b2⟩
    case round =>
      clear s2 b2
      obtain ⟨k, t, hk, rfl, ht, hs, hb⟩ := hrel
      by_cases hgo : k < xs.length ∧ k < 20
      · obtain ⟨hkn, hk20⟩ := hgo
        have hd : decide ((k : Int) < (xs.length : Int)) = true := by simp; omega
        have hd2 : decide ((k : Int) < 20) = true := by simp; omega
        obtain ⟨x, hx⟩ : ∃ x, xs[k]? = some x := ⟨_, List.getElem?_eq_getElem hkn⟩
        obtain ⟨ad, rfl, hlt, c0, c1, c2⟩ := (h0.below hb).at_ hx
        have q1 : (0 : Int) ≤ (k : Int) := by omega
        have q2 : (k : Int) < (xs.length : Int) := by omega
        have HX := Lib.hid hx
        clear hx
        obtain ⟨xw, xa, xb⟩ := x
        cases xw with
        | true =>
          go_wp2_with fail
          refine (wrote_ok _ g t xa hs).mono ?_
          rintro e w' ⟨rfl, hs1, hu⟩
          have hb1 := Below.upd hb hu gg
          have h8 := wroteS_tok (n := xa) ht
          go_wp2_with fail
          go_roundw
          case rel => exact ⟨k + 1, wroteS t xa, by omega, by go_num, h8, hs1, hb1⟩
          case measure => simp [intOf]; omega
        | false =>
          go_wp2_with fail
          go_region_with (first
            | (go_at_call 13; refine (answer_any xa xb _).mono ?_; rintro e W1 ⟨rfl, k1⟩)
            | (go_at_call 17; refine (accept_ok _ g t xa xb ?_ _ _ _ _ _ _ _ _ _ _ _ _ _).mono ?_; exact SesIs.later (BlkIs.drew hs) k1; rintro e W2 ⟨rfl, hs2, hu⟩))
          all_goals
            have hb1 := Below.upd (Below.next hb ((Below.drew (Below.refl _ wr)).trans k1)) hu gg
            have h8 := acceptT_tok (a := xa) (b := xb) ht
            go_wp2_with fail
            go_roundw
            case rel => exact ⟨k + 1, acceptT t xa xb, by omega, by go_num, h8, hs2, hb1⟩
            case measure => simp [intOf]; omega
      · have hdd : (k < xs.length ∧ ¬ k < 20) ∨ ¬ k < xs.length := by omega
        clear hgo hk
        rcases hdd with ⟨hd, hd2⟩ | hd
        all_goals
          go_wp2_with fail
          go_meet
          exact ⟨t, ht, hs, hb⟩
  case rest =>
    clear s2 b2
    obtain ⟨t, ht, hs, hb⟩ := hcut
    have hr := pickZ_range p 10001 (by omega)
    have hr3 := pickZ_range which 3 (by omega)
    go_wp2_with fail
    refine (pick_any p 10001 _ i1 i2 (by omega) (by omega)).mono ?_
    rintro e w' ⟨rfl, rfl⟩
    generalize pickZ p 10001 = q at *
    go_wp2_with fail
    refine (wrote_ok _ g t q hs).mono ?_
    rintro e w4 ⟨rfl, hs4, hu⟩
    have hb4 := Below.upd hb hu gg
    have ht4 := wroteS_tok (n := q) ht
    have hq4 : q ≤ wroteS t q := by rw [wroteS, if_pos (by omega)]; exact (raiseS_ge t q).2
    generalize wroteS t q = t4 at *
    clear hs hb hu ht
    go_wp2_with fail
    refine (pick_any which 3 _ j1 j2 (by omega) (by omega)).mono ?_
    rintro e w' ⟨rfl, rfl⟩
    generalize pickZ which 3 = z at *
    go_upto_block 2 with fail
    go_cut [10] (fun s10 wx => ∃ (h : Nat) (t5 : Int), s10 = .pointer (some ⟨h, 0, none⟩) ∧ w.heap.size ≤ h ∧ TokS t5 ∧ q ≤ t5 ∧ SesIs wx h t5 ∧ Below w.heap.size w wx)
    case first =>
      have hz : z = 0 ∨ z = 1 ∨ z = 2 := by omega
      rcases hz with rfl | rfl | rfl
      · go_wp2_with fail
        go_meet
        exact ⟨g, t4, rfl, gg, ht4, hq4, hs4, hb4⟩
      · go_wp2_with fail
        refine (encode_ok _ g t4 hs4 ht4 (HT.out.later hb4)).mono ?_
        rintro e w5 ⟨rfl, k5⟩
        have hb5 := Below.next hb4 k5
        have hl := encS_len t4
        have hE := decS_encS ht4
        obtain ⟨E, he⟩ : ∃ E, E = encS t4 := ⟨_, rfl⟩
        rw [← he] at hl hE
        rw [← he]
        have HE := Lib.hid hE
        clear he hE k5
        go_wp2_with fail
        refine (decode_ok _ _ (by rw [size_mk]; omega) (HT.out.later hb5)).mono ?_
        rintro e w6 ⟨⟨v, rfl, hv⟩, k6⟩
        rw [mk_toList] at hv ⊢
        unfold DecIs at hv
        rw [HE.out] at hv ⊢
        rcases hv with ⟨_, h, rfl, hh, s6⟩ | ⟨hv, _⟩
        rotate_left
        · exact absurd rfl hv
        have hb6 := Below.next hb5 k6
        have gh : w.heap.size ≤ h := by have := hb5.size; omega
        clear k6 HE hl hs4
        go_wp2_with fail
        go_meet
        exact ⟨h, t4, rfl, gh, ht4, hq4, s6, hb6⟩
      · go_wp2_with fail
        refine (newS _).mono ?_
        rintro e w5 ⟨rfl, hw⟩
        obtain ⟨h, hh⟩ : ∃ h, h = w4.heap.size := ⟨_, rfl⟩
        have s5 : SesIs w5 h 0 := by rw [hw, hh]; exact BlkIs.new _ _ _
        have k5 : Below w4.heap.size w4 w5 := by rw [hw]; exact (Below.refl _ w4).alloc (Nat.le_refl _) _
        have hb5 := Below.next hb4 k5
        have hs5 := hs4.later k5
        have gh : w.heap.size ≤ h := by rw [hh]; exact hb4.size
        have hgh : g ≠ h := by have := BlkIs.lt hs4; omega
        rw [← hh]
        clear hw hh k5 hs4 hb4
        go_wp2_with fail
        refine (answer_any 3 9 _).mono ?_
        rintro e w6 ⟨rfl, k6⟩
        have hb6 := Below.next hb5 k6
        have hs6 := hs5.later k6
        have s6 := s5.later k6
        clear k6 hs5 s5 hb5
        go_wp2_with fail
        refine (accept_ok _ h 0 3 9 s6 _ _ _ _ _ _ _ _ _ _ _ _ _).mono ?_
        rintro e w7 ⟨rfl, s7, hu⟩
        have hs7 : SesIs w7 g t4 := BlkIs.upd hs6 hu hgh
        have hb7 := Below.upd hb6 hu gh
        rw [show acceptT 0 3 9 = 3 by decide] at s7
        clear hu hs6 s6 hb6
        go_wp2_with fail
        refine (merge_ok _ h g 3 t4 s7 hs7).mono ?_
        rintro e w8 ⟨rfl, s8, hu⟩
        have hb8 := Below.upd hb7 hu gh
        have ht8 := raiseS_tok (t := 3) (n := t4) (by unfold TokS; omega) ht4
        have hq8 := (raiseS_ge 3 t4).2
        generalize raiseS 3 t4 = t8 at *
        have hq9 : q ≤ t8 := by omega
        clear hu s7 hs7 hb7
        go_wp2_with fail
        go_meet
        exact ⟨h, t8, rfl, gh, ht8, hq9, s8, hb8⟩
    case rest =>
      clear hq4 ht4 hs4 hb4
      obtain ⟨h, t5, rfl, gh, ht5, hq5, hs5, hb5⟩ := hcut
      go_wp2_with fail
      go_loopw [15] (fun iv wr => ∃ (k : Nat) (t : Int), k ≤ ys.length ∧ iv = .int .i64 k ∧ q ≤ t ∧ SesIs wr h t ∧ Below w.heap.size w wr) (fun iv _ => ys.length - (intOf iv).toNat)
      case atStart => exact ⟨0, t5, by omega, rfl, hq5, hs5, hb5⟩
      case round =>
        clear hs5 hb5 hq5 ht5
        obtain ⟨k, t, hk, rfl, hq, hs, hb⟩ := hrel
        by_cases hgo : k < ys.length ∧ k < 20
        · obtain ⟨hkn, hk20⟩ := hgo
          have hd : decide ((k : Int) < (ys.length : Int)) = true := by simp; omega
          have hd2 : decide ((k : Int) < 20) = true := by simp; omega
          obtain ⟨x, hx⟩ : ∃ x, ys[k]? = some x := ⟨_, List.getElem?_eq_getElem hkn⟩
          obtain ⟨ad, rfl, hlt, -, c1, c2⟩ := (h1.below hb).at_ hx
          have q1 : (0 : Int) ≤ (k : Int) := by omega
          have q2 : (k : Int) < (ys.length : Int) := by omega
          have HX := Lib.hid hx
          clear hx
          obtain ⟨xw, xa, xb⟩ := x
          have hcase : (acceptV t xa xb = 0 ∧ allowsS t xa xb = false) ∨ (allowsS t xa xb = true ∧ decide (acceptV t xa xb < q) = false) := by
            cases hal : allowsS t xa xb with
            | false => exact .inl ⟨(accept_no hal).1, rfl⟩
            | true =>
              obtain ⟨e1, -, e3, -⟩ := accept_yes hal
              exact .inr ⟨rfl, by rw [e1]; simp; omega⟩
          have HC := Lib.hid hcase
          clear hcase
          have hge := acceptT_ge t xa xb
          go_wp2_with fail
          go_region_with (first
            | (go_at_call 13; refine (answer_any xa xb _).mono ?_; rintro e W1 ⟨rfl, k1⟩)
            | (go_at_call 17; refine (accept_ok _ h t xa xb ?_ _ _ _ _ _ _ _ _ _ _ _ _ _).mono ?_; exact SesIs.later (BlkIs.drew hs) k1; rintro e W2 ⟨rfl, hs2, hu⟩))
          all_goals
            have hb1 := Below.upd (Below.next hb ((Below.drew (Below.refl _ wr)).trans k1)) hu gh
            generalize acceptT t xa xb = t2 at *
            generalize acceptV t xa xb = v2 at *
            generalize allowsS t xa xb = a2 at *
            rcases HC.out with ⟨rfl, rfl⟩ | ⟨rfl, hv⟩
            all_goals
              go_wp2_with fail
              go_roundw
              case rel => exact ⟨k + 1, t2, by omega, by go_num, by omega, hs2, hb1⟩
              case measure => simp [intOf]; omega
        · have hdd : (k < ys.length ∧ ¬ k < 20) ∨ ¬ k < ys.length := by omega
          have hq6 : decide (q ≤ t) = true := by simpa using hq
          clear hgo hk
          rcases hdd with ⟨hd, hd2⟩ | hd
          all_goals
            go_wp2_with fail
            refine (tokenS _ h t hs).mono ?_
            rintro e w' ⟨rfl, rfl⟩
            go_wp2_with fail
            go_ret
            exact ⟨rfl, hb⟩
end Go.Proofs.YtejehdmllicfcaaDoor
