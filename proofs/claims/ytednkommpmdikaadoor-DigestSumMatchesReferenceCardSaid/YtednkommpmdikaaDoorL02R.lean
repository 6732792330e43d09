/- The walk of DigestSumMatchesReference. -/
import Derived.Test.YtednkommpmdikaaDoorDgD
import Derived.Test.YtednkommpmdikaaDoorRefI
namespace Go.Proofs.YtednkommpmdikaaDoor
open Go Go.RowKit
attribute [local go_sem] Oper.semAt_some

theorem cut500 (s : ByteArray) : ∃ m : Nat, min (s.size : Int) 500 = (m : Int) ∧ m ≤ s.size ∧ (m : Int) ≤ 500 ∧ s.extract 0 m = str (s.data.toList.take 500) := by
  obtain ⟨m, e, h1, h2, h3⟩ := cut_min s 500 (by omega)
  rw [show (500 : Int).toNat = 500 from rfl] at h3
  refine ⟨m, by omega, h1, h2, ?_⟩
  rw [extract_eq, List.drop_zero, Nat.sub_zero]
  have : s.data.toList.take m = s.data.toList.take 500 := by
    rw [h3]
    by_cases h5 : 500 ≤ s.size
    · rw [Nat.min_eq_right h5]
    · rw [Nat.min_eq_left (by omega), List.take_of_length_le (by simp), List.take_of_length_le (by simp; omega)]
  rw [this]

set_option maxRecDepth 100000 in
set_option maxHeartbeats 8000000 in
theorem sumRef_any (s t : ByteArray) (w : World) (hR : RoundOk w) :
    Calls Tryd.prog 8 #[.string s, .string t] w fun e w' => e = .returned (.bool true) ∧ Below w.heap.size w w' := by
  obtain ⟨ms, es, ms1, ms2, cs⟩ := cut500 s
  obtain ⟨mt, et, mt1, mt2, ct⟩ := cut500 t
  obtain ⟨S, hS⟩ : ∃ S, S = str (s.data.toList.take 500) := ⟨_, rfl⟩
  obtain ⟨T, hT⟩ : ∃ T, T = str (t.data.toList.take 500) := ⟨_, rfl⟩
  have hSl : S.size ≤ 500 := by rw [hS, size_mk, List.length_take]; omega
  have hTl : T.size ≤ 500 := by rw [hT, size_mk, List.length_take]; omega
  rw [← hS] at cs
  rw [← hT] at ct
  have CS := Lib.hid cs
  have CT := Lib.hid ct
  have h1 : ∀ W, RoundOk W → Calls Tryd.prog 26 #[.string S] W fun e w' => e = .returned (.string (str (shaL S.data.toList))) ∧ Below W.heap.size W w' := fun W hW => sum_ok S W (by omega) hW
  have h2 := fun W => sumR_ok S W (by omega)
  have h3 := fun W hW => leaf_ok T W (by omega) hW
  have h4 := fun W => leafR_ok T W (by omega)
  have h5 := fun W hW => node_ok S T W (by omega) hW
  have h6 := fun W => nodeR_ok S T W (by omega)
  have h7 := fun W hW => chain_ok T S W (by omega) hW
  have h8 := fun W => chainR_ok T S W (by omega)
  obtain ⟨X1, hX1⟩ : ∃ X, X = str (shaL S.data.toList) := ⟨_, rfl⟩
  obtain ⟨X2, hX2⟩ : ∃ X, X = str (leafL T.data.toList) := ⟨_, rfl⟩
  obtain ⟨X3, hX3⟩ : ∃ X, X = str (nodeL S.data.toList T.data.toList) := ⟨_, rfl⟩
  obtain ⟨X4, hX4⟩ : ∃ X, X = str (chainL T.data.toList S.data.toList) := ⟨_, rfl⟩
  rw [← hX1] at h1 h2
  rw [← hX2] at h3 h4
  rw [← hX3] at h5 h6
  rw [← hX4] at h7 h8
  have H1 := Lib.hid h1
  have H2 := Lib.hid h2
  have H3 := Lib.hid h3
  have H4 := Lib.hid h4
  have H5 := Lib.hid h5
  have H6 := Lib.hid h6
  have H7 := Lib.hid h7
  have H8 := Lib.hid h8
  clear h1 h2 h3 h4 h5 h6 h7 h8 hX1 hX2 hX3 hX4 hS hT hSl hTl cs ct
  go_enter Tryd.func8, Tryd.ntmps8
  go_wp2_with fail
  refine (sane_ok w hR).mono ?_
  rintro e w1 ⟨rfl, b1⟩
  go_wp2_with fail
  rw [CS.out]
  refine (H1.out w1 (hR.later b1)).mono ?_
  rintro e w2 ⟨rfl, b2⟩
  have hb2 := Below.next b1 b2
  go_wp2_with fail
  refine (H2.out w2).mono ?_
  rintro e w3 ⟨rfl, b3⟩
  have hb3 := Below.next hb2 b3
  go_wp2_with fail
  rw [CT.out]
  refine (H3.out w3 (hR.later hb3)).mono ?_
  rintro e w4 ⟨rfl, b4⟩
  have hb4 := Below.next hb3 b4
  go_wp2_with fail
  refine (H4.out w4).mono ?_
  rintro e w5 ⟨rfl, b5⟩
  have hb5 := Below.next hb4 b5
  go_wp2_with fail
  refine (H5.out w5 (hR.later hb5)).mono ?_
  rintro e w6 ⟨rfl, b6⟩
  have hb6 := Below.next hb5 b6
  go_wp2_with fail
  refine (H6.out w6).mono ?_
  rintro e w7 ⟨rfl, b7⟩
  have hb7 := Below.next hb6 b7
  go_wp2_with fail
  refine (H7.out w7 (hR.later hb7)).mono ?_
  rintro e w8 ⟨rfl, b8⟩
  have hb8 := Below.next hb7 b8
  go_wp2_with fail
  refine (H8.out w8).mono ?_
  rintro e w9 ⟨rfl, b9⟩
  have hb9 := Below.next hb8 b9
  go_wp2_with fail
  go_ret
  exact ⟨rfl, hb9⟩
end Go.Proofs.YtednkommpmdikaaDoor
