/- The walk of SessionMonotonic. -/
import Derived.Test.YtejehdmllicfcaaDoorSesS
import Derived.Test.YtejehdmllicfcaaDoorSesQ
namespace Go.Proofs.YtejehdmllicfcaaDoor
open Go Go.RowKit

set_option maxRecDepth 100000 in
set_option maxHeartbeats 4000000 in
theorem mono_any (A : Option Addr) (c : Nat) (xs : List Step) (w : World) (hT : TabOk w) (h0 : StepsAt w (.slice A xs.length c) xs) :
    Calls Tryd.prog 5 #[.slice A xs.length c] w fun e w' => e = .returned (.bool true) ∧ Below w.heap.size w w' := by
  have HT := Lib.hid hT
  clear hT
  go_enter Tryd.func5, Tryd.ntmps5
  go_wp2_with fail
  refine (sane_any _ HT.out).mono ?_
  rintro e w1 ⟨rfl, b1⟩
  go_wp2_with fail
  refine (newS _).mono ?_
  rintro e w2 ⟨rfl, hw⟩
  obtain ⟨g, hg⟩ : ∃ g, g = w1.heap.size := ⟨_, rfl⟩
  have s2 : SesIs w2 g 0 := by rw [hw, hg]; exact BlkIs.new _ _ _
  have b2 : Below w.heap.size w w2 := by rw [hw]; exact Below.next b1 ((Below.refl _ w1).alloc (Nat.le_refl _) _)
  have gg : w.heap.size ≤ g := by rw [hg]; exact b1.size
  rw [← hg]
  clear hw hg b1
  go_wp2_with fail
  go_loopw [5, 6] (fun lv iv wr => ∃ (k : Nat) (t last : Int), k ≤ xs.length ∧ iv = .int .i64 k ∧ lv = .int .i64 last ∧ last ≤ t ∧ TokS t ∧ SesIs wr g t ∧ Below w.heap.size w wr) (fun _ iv _ => xs.length - (intOf iv).toNat)
  case atStart => exact ⟨0, 0, 0, by omega, rfl, rfl, by omega, ⟨by omega, by omega⟩, s2, b2⟩
  case round =>
    clear s2 b2
    obtain ⟨k, t, last, hk, rfl, rfl, hlt, ht, hs, hb⟩ := hrel
    by_cases hkn : k < xs.length
    · by_cases hk40 : k < 40
      · have hd : decide ((k : Int) < (xs.length : Int)) = true := by simp; omega
        have hd2 : decide ((k : Int) < 40) = true := by simp; omega
        obtain ⟨x, hx⟩ : ∃ x, xs[k]? = some x := ⟨_, List.getElem?_eq_getElem hkn⟩
        obtain ⟨ad, rfl, -, c0, c1, c2⟩ := (h0.below hb).at_ hx
        have q1 : (0 : Int) ≤ (k : Int) := by omega
        have q2 : (k : Int) < (xs.length : Int) := by omega
        have HX := Lib.hid hx
        clear hx
        have hq := BlkIs.new wr 30 #[.bool x.w, .int .i64 x.a, .int .i64 x.b]
        have hs0 : SesIs (wr.alloc (.cells #[.bool x.w, .int .i64 x.a, .int .i64 x.b] 30)) g t := BlkIs.alloc hs _
        have hb0 : Below w.heap.size w (wr.alloc (.cells #[.bool x.w, .int .i64 x.a, .int .i64 x.b] 30)) := Below.next hb ((Below.refl _ wr).alloc (Nat.le_refl _) _)
        have hqg : wr.heap.size ≠ g := by have := BlkIs.lt hs; omega
        go_wp2_with fail
        generalize wr.alloc (.cells #[.bool x.w, .int .i64 x.a, .int .i64 x.b] 30) = W0 at *
        generalize wr.heap.size = q at *
        obtain ⟨xw, xa, xb⟩ := x
        clear c0 c1 c2 hs hb h0
        refine (tokenS _ g t hs0).mono ?_
        rintro e w' ⟨rfl, rfl⟩
        have cw : W0.cell? ⟨q, 0, none⟩ = some (.bool xw) := hq.cell 0
        have ca : W0.cell? ⟨q, 1, none⟩ = some (.int .i64 xa) := hq.cell 1
        have cb : W0.cell? ⟨q, 2, none⟩ = some (.int .i64 xb) := hq.cell 2
        cases xw with
        | true =>
          go_wp2_with fail
          refine (wrote_ok _ g t xa hs0).mono ?_
          rintro e w' ⟨rfl, hs1, hu⟩
          have hb1 := Below.upd hb0 hu gg
          have h9 := wroteS_ge t xa
          have h8 := wroteS_tok (n := xa) ht
          go_wp2_with fail
          refine (tokenS _ g _ hs1).mono ?_
          rintro e w' ⟨rfl, rfl⟩
          have h7 : decide (wroteS t xa < t) = false := by simpa using h9
          go_wp2_with fail
          go_roundw
          case rel => exact ⟨k + 1, wroteS t xa, last, by omega, by go_num, rfl, by omega, h8, hs1, hb1⟩
          case measure => simp [intOf]; omega
        | false =>
          go_wp2_with fail
          refine (answer_any xa xb _).mono ?_
          rintro e W1 ⟨rfl, k1⟩
          have hq1 := hq.later k1
          have hs1 := hs0.later k1
          have hb1 := Below.next hb0 k1
          clear hq hs0 hb0 k1 ca cb cw
          go_wp2_with fail
          refine (accept_ok _ g t xa xb hs1 _ _ _ _ _ _ _ _ _ _ _ _ _).mono ?_
          rintro e W2 ⟨rfl, hs2, hu⟩
          have hq2 := hq1.upd hu hqg
          have hb2 := Below.upd hb1 hu gg
          have ca : W2.cell? ⟨q, 1, none⟩ = some (.int .i64 xa) := hq2.cell 1
          have cb : W2.cell? ⟨q, 2, none⟩ = some (.int .i64 xb) := hq2.cell 2
          clear hq1 hs1 hb1 hu
          cases hal : allowsS t xa xb with
          | true =>
            obtain ⟨e1, e2, g1, g2, g3⟩ := accept_yes hal
            rw [e1]
            rw [e2] at hs2
            have ht2 := acceptT_tok (a := xa) (b := xb) ht
            rw [e2] at ht2
            clear e1 e2 hal
            generalize raiseS t xa = t2 at *
            have d1 : decide (t2 < last) = false := by simp; omega
            have d2 : decide (t2 < xa) = false := by simpa using g2
            have d3 : decide (xb < t2) = false := by simpa using g3
            have d4 : (t2 != t2) = false := by simp
            have d5 : decide (t2 < t) = false := by simpa using g1
            go_wp2_with fail
            refine (tokenS _ g _ hs2).mono ?_
            rintro e w' ⟨rfl, rfl⟩
            go_wp2_with fail
            refine (tokenS _ g _ hs2).mono ?_
            rintro e w' ⟨rfl, rfl⟩
            go_wp2_with fail
            go_roundw
            case rel => exact ⟨k + 1, t2, t2, by omega, by go_num, rfl, by omega, ht2, hs2, hb2⟩
            case measure => simp [intOf]; omega
          | false =>
            obtain ⟨e1, e2⟩ := accept_no hal
            rw [e1]
            rw [e2] at hs2
            clear e1 e2 hal
            have d4 : (t != t) = false := by simp
            have d5 : decide (t < t) = false := by simp
            go_wp2_with fail
            refine (tokenS _ g _ hs2).mono ?_
            rintro e w' ⟨rfl, rfl⟩
            go_wp2_with fail
            refine (tokenS _ g _ hs2).mono ?_
            rintro e w' ⟨rfl, rfl⟩
            go_wp2_with fail
            go_roundw
            case rel => exact ⟨k + 1, t, last, by omega, by go_num, rfl, by omega, ht, hs2, hb2⟩
            case measure => simp [intOf]; omega
      · have hd : decide ((k : Int) < (xs.length : Int)) = true := by simp; omega
        have hd2 : decide ((k : Int) < 40) = false := by simp; omega
        go_wp2_with fail
        go_ret
        exact ⟨rfl, hb⟩
    · have hd : decide ((k : Int) < (xs.length : Int)) = false := by simp; omega
      go_wp2_with fail
      go_ret
      exact ⟨rfl, hb⟩
end Go.Proofs.YtejehdmllicfcaaDoor
