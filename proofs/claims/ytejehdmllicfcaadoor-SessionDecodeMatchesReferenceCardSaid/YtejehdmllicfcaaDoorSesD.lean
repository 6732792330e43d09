/- pick and sane of the laws of package session. -/
import Derived.Test.YtejehdmllicfcaaDoorSesC
namespace Go.Proofs.YtejehdmllicfcaaDoor
open Go Go.RowKit

set_option maxHeartbeats 400000 in
theorem pick_any (c n : Int) (w : World) (h1 : -9223372036854775808 ≤ c) (h2 : c ≤ 9223372036854775807) (h3 : 0 < n) (h4 : n ≤ 4611686018427387904) :
    Calls Tryd.prog 26 #[.int .i64 c, .int .i64 n] w fun e w' => e = .returned (.int .i64 (pickZ c n)) ∧ w = w' := by
  by_cases hc : c < 0
  · go_enter Tryd.func26, Tryd.ntmps26
    go_wp2
    go_ret
    refine ⟨ret_int' (a := -((c + 1).tmod n)) ?_, rfl⟩
    rw [pickZ, if_pos hc, ← Int.neg_tmod, Int.tmod_eq_emod_of_nonneg (by omega)]
  · go_enter Tryd.func26, Tryd.ntmps26
    go_wp2
    go_ret
    exact ⟨ret_int' (by rw [pickZ, if_neg (by omega)]), rfl⟩


theorem Below.next {a c d : World} (h : Below a.heap.size a c) (k : Below c.heap.size c d) : Below a.heap.size a d := h.trans (k.mono h.size)
theorem Below.upd {a c d : World} {g : Nat} (h : Below a.heap.size a c) (k : Upd g c d) (hg : a.heap.size ≤ g) : Below a.heap.size a d := h.trans (k.below hg h.size)

theorem c_enc8 : decS (encS 8) = (8, 0) := by decide +kernel
theorem c_dec0 : decS [] = (0, 10) := by decide +kernel
theorem c_dec1 : decS [0, 0] = (0, 210) := by decide +kernel

set_option maxRecDepth 100000 in
set_option maxHeartbeats 4000000 in
theorem sane_any (w : World) (hT : TabOk w) :
    Calls Tryd.prog 10 #[] w fun e w' => e = .returned (.bool true) ∧ Below w.heap.size w w' := by
  have HT := Lib.hid hT
  clear hT
  go_enter Tryd.func10, Tryd.ntmps10
  go_wp2_with fail
  refine (newS _).mono ?_
  rintro e w1 ⟨rfl, hw⟩
  obtain ⟨g, hg⟩ : ∃ g, g = w.heap.size := ⟨_, rfl⟩
  have s1 : SesIs w1 g 0 := by rw [hw, hg]; exact BlkIs.new _ _ _
  have b1 : Below w.heap.size w w1 := by rw [hw]; exact (Below.refl _ w).alloc (Nat.le_refl _) _
  have gg : w.heap.size ≤ g := by omega
  rw [← hg]
  clear hw hg
  go_wp2_with fail
  refine (tokenS _ g 0 s1).mono ?_
  rintro e w' ⟨rfl, rfl⟩
  go_wp2_with fail
  refine (answer_any 3 7 _).mono ?_
  rintro e w2 ⟨rfl, k2⟩
  have b2 := Below.next b1 k2
  have s2 := s1.later k2
  clear k2 s1 b1
  go_wp2_with fail
  refine (accept_ok _ g 0 3 7 s2 _ _ _ _ _ _ _ _ _ _ _ _ _).mono ?_
  rintro e w3 ⟨rfl, s3, u3⟩
  have b3 := Below.upd b2 u3 gg
  rw [show acceptT 0 3 7 = 3 by decide] at s3
  rw [show acceptV 0 3 7 = 3 by decide, show allowsS 0 3 7 = true by decide]
  clear u3 s2 b2
  go_wp2_with fail
  refine (answer_any 5 9 _).mono ?_
  rintro e w2 ⟨rfl, k2⟩
  have b2 := Below.next b3 k2
  have s2 := s3.later k2
  clear k2 s3 b3
  go_wp2_with fail
  refine (accept_ok _ g 3 5 9 s2 _ _ _ _ _ _ _ _ _ _ _ _ _).mono ?_
  rintro e w3 ⟨rfl, s3, u3⟩
  have b3 := Below.upd b2 u3 gg
  rw [show acceptT 3 5 9 = 5 by decide] at s3
  rw [show acceptV 3 5 9 = 5 by decide, show allowsS 3 5 9 = true by decide]
  clear u3 s2 b2
  go_wp2_with fail
  refine (answer_any 2 4 _).mono ?_
  rintro e w2 ⟨rfl, k2⟩
  have b2 := Below.next b3 k2
  have s2 := s3.later k2
  clear k2 s3 b3
  go_wp2_with fail
  refine (accept_ok _ g 5 2 4 s2 _ _ _ _ _ _ _ _ _ _ _ _ _).mono ?_
  rintro e w3 ⟨rfl, s3, u3⟩
  have b3 := Below.upd b2 u3 gg
  rw [show acceptT 5 2 4 = 5 by decide] at s3
  rw [show acceptV 5 2 4 = 0 by decide, show allowsS 5 2 4 = false by decide]
  clear u3 s2 b2
  go_wp2_with fail
  refine (wrote_ok _ g 5 8 s3).mono ?_
  rintro e w2 ⟨rfl, s2, u2⟩
  have b2 := Below.upd b3 u2 gg
  rw [show wroteS 5 8 = 8 by decide] at s2
  clear u2 s3 b3
  go_wp2_with fail
  refine (answer_any 1 7 _).mono ?_
  rintro e w3 ⟨rfl, k2⟩
  have b3 := Below.next b2 k2
  have s3 := s2.later k2
  clear k2 s2 b2
  go_wp2_with fail
  refine (accept_ok _ g 8 1 7 s3 _ _ _ _ _ _ _ _ _ _ _ _ _).mono ?_
  rintro e w2 ⟨rfl, s2, u2⟩
  have b2 := Below.upd b3 u2 gg
  rw [show acceptT 8 1 7 = 8 by decide] at s2
  rw [show acceptV 8 1 7 = 0 by decide, show allowsS 8 1 7 = false by decide]
  clear u2 s3 b3
  go_wp2_with fail
  refine (answer_any 1 12 _).mono ?_
  rintro e w3 ⟨rfl, k2⟩
  have b3 := Below.next b2 k2
  have s3 := s2.later k2
  clear k2 s2 b2
  go_wp2_with fail
  refine (accept_ok _ g 8 1 12 s3 _ _ _ _ _ _ _ _ _ _ _ _ _).mono ?_
  rintro e w2 ⟨rfl, s2, u2⟩
  have b2 := Below.upd b3 u2 gg
  rw [show acceptT 8 1 12 = 8 by decide] at s2
  rw [show acceptV 8 1 12 = 8 by decide, show allowsS 8 1 12 = true by decide]
  clear u2 s3 b3
  go_wp2_with fail
  refine (encode_ok _ g 8 s2 (by unfold TokS; omega) (HT.out.later b2)).mono ?_
  rintro e w3 ⟨rfl, k3⟩
  have b3 := Below.next b2 k3
  have s3 := s2.later k3
  have hl := encS_len 8
  have hE := c_enc8
  obtain ⟨E, he⟩ : ∃ E, E = encS 8 := ⟨_, rfl⟩
  rw [← he] at hl hE
  rw [← he]
  have HE := Lib.hid hE
  clear k3 s2 b2 he hE
  go_wp2_with fail
  refine (decode_ok _ _ (by rw [size_mk]; omega) (HT.out.later b3)).mono ?_
  rintro e w4 ⟨⟨v, rfl, hv⟩, k4⟩
  rw [mk_toList] at hv ⊢
  unfold DecIs at hv
  rw [HE.out] at hv ⊢
  rcases hv with ⟨_, h, rfl, hh, s4⟩ | ⟨hv, _⟩
  rotate_left
  · exact absurd rfl hv
  have b4 := Below.next b3 k4
  have s4' := s3.later k4
  have hgh : g ≠ h := by have := BlkIs.lt s3; omega
  have gh : w.heap.size ≤ h := by have := BlkIs.lt s3; omega
  clear k4 s3 b3 HE hl
  go_wp2_with fail
  refine (decode_ok _ _ (by decide) (HT.out.later b4)).mono ?_
  rintro e w5 ⟨⟨v, rfl, hv⟩, k5⟩
  unfold DecIs at hv
  rw [show decS (⟨#[]⟩ : ByteArray).data.toList = (0, 10) from c_dec0] at hv ⊢
  rcases hv with ⟨hv, _⟩ | ⟨_, rfl⟩
  · exact absurd hv (by decide)
  have b5 := Below.next b4 k5
  have s5 := s4.later k5
  have s5' := s4'.later k5
  clear k5 s4 s4' b4
  go_wp2_with fail
  refine (decode_ok _ _ (by decide) (HT.out.later b5)).mono ?_
  rintro e w6 ⟨⟨v, rfl, hv⟩, k6⟩
  unfold DecIs at hv
  rw [show decS (⟨#[0, 0]⟩ : ByteArray).data.toList = (0, 210) from c_dec1] at hv ⊢
  rcases hv with ⟨hv, _⟩ | ⟨_, rfl⟩
  · exact absurd hv (by decide)
  have b6 := Below.next b5 k6
  have s6 := s5.later k6
  have s6' := s5'.later k6
  clear k6 s5 s5' b5
  go_wp2_with fail
  refine (newS _).mono ?_
  rintro e w7 ⟨rfl, hw⟩
  obtain ⟨i, hi⟩ : ∃ i, i = w6.heap.size := ⟨_, rfl⟩
  have s7i : SesIs w7 i 0 := by rw [hw, hi]; exact BlkIs.new _ _ _
  have k7 : Below w6.heap.size w6 w7 := by rw [hw]; exact (Below.refl _ w6).alloc (Nat.le_refl _) _
  have b7 := Below.next b6 k7
  have s7 := s6.later k7
  have s7' := s6'.later k7
  have gi : w.heap.size ≤ i := by rw [hi]; exact b6.size
  have hig : g ≠ i := by have := BlkIs.lt s6'; omega
  have hih : h ≠ i := by have := BlkIs.lt s6; omega
  rw [← hi]
  clear hw hi k7 s6 s6' b6
  go_wp2_with fail
  refine (merge_ok _ i g 0 8 s7i s7').mono ?_
  rintro e w8 ⟨rfl, s8i, k8⟩
  have b8 := Below.upd b7 k8 gi
  have s8 : SesIs w8 h 8 := BlkIs.upd s7 k8 hih
  have s8' : SesIs w8 g 8 := BlkIs.upd s7' k8 hig
  rw [show raiseS 0 8 = 8 by decide] at s8i
  clear k8 s7 s7' s7i b7
  go_wp2_with fail
  refine (tokenS _ h 8 s8).mono ?_
  rintro e w' ⟨rfl, rfl⟩
  go_wp2_with fail
  refine (tokenS _ i 8 s8i).mono ?_
  rintro e w' ⟨rfl, rfl⟩
  go_wp2_with fail
  refine (answer_any 0 8 _).mono ?_
  rintro e w9 ⟨rfl, k9⟩
  have b9 := Below.next b8 k9
  have s9 := s8'.later k9
  clear k9 s8 s8' s8i b8
  go_wp2_with fail
  refine (allows_ok _ g 8 0 8 s9 _ _ _ _ _ _ _ _ _ _ _ _ _).mono ?_
  rintro e w10 ⟨rfl, k10⟩
  have b10 := Below.next b9 k10
  have s10 := s9.later k10
  rw [show allowsS 8 0 8 = true by decide]
  clear k10 s9 b9
  go_wp2_with fail
  refine (answer_any 9 8 _).mono ?_
  rintro e w11 ⟨rfl, k11⟩
  have b11 := Below.next b10 k11
  have s11 := s10.later k11
  clear k11 s10 b10
  go_wp2_with fail
  refine (allows_ok _ g 8 9 8 s11 _ _ _ _ _ _ _ _ _ _ _ _ _).mono ?_
  rintro e w12 ⟨rfl, k12⟩
  have b12 := Below.next b11 k12
  rw [show allowsS 8 9 8 = false by decide]
  clear k12 s11 b11
  go_wp2_with fail
  go_ret
  exact ⟨rfl, b12⟩
end Go.Proofs.YtejehdmllicfcaaDoor
