/- The walk of DigestExtensionBinding. -/
import Derived.Test.YtednkommpmdikaaDoorL02B
import Derived.Test.YtednkommpmdikaaDoorDgH
namespace Go.Proofs.YtednkommpmdikaaDoor
open Go Go.RowKit
attribute [local go_sem] Oper.semAt_some

theorem sidesR_short (old : List UInt8) (ho : old.length = 32) : ∀ (r : List (List UInt8)) (m n : Nat) (b : Bool) (u : List UInt8 × List UInt8), (∀ x ∈ r, x.length = 32) → bothR old r m n b = some u → ∀ z ∈ (sidesR old r m n b).1, z.length ≤ 900000
  | [], _, _, _, _, _, _, z, hz => by simp [sidesR] at hz
  | x :: r, m, n, b, u, hr, hu, z, hz => by
    have hx := hr x (by simp)
    have hr' : ∀ y ∈ r, y.length = 32 := fun y hy => hr y (by simp [hy])
    by_cases hmn : m < n
    · unfold bothR at hu
      rw [if_pos hmn, Option.map_eq_some_iff] at hu
      obtain ⟨u', h, _⟩ := hu
      unfold sidesR at hz
      rw [if_neg (by omega)] at hz
      by_cases hk : leftN n < m
      · rw [if_pos hk, if_pos hk, decide_eq_true hk, Bool.not_true, Bool.and_false] at h
        rw [if_neg (by omega)] at hz
        rcases List.mem_cons.1 hz with rfl | hz
        · rw [List.length_cons, List.length_append, sidesR_val old r _ _ _ u' h, (bothR_len old ho r _ _ _ u' hr' h).2, hx]; decide
        · exact sidesR_short old ho r _ _ _ u' hr' h z hz
      · rw [if_neg hk, if_neg hk, decide_eq_false hk, Bool.not_false, Bool.and_true] at h
        rw [if_pos (by omega)] at hz
        rcases List.mem_cons.1 hz with rfl | hz
        · rw [List.length_cons, List.length_append, sidesR_val old r _ _ _ u' h, (bothR_len old ho r _ _ _ u' hr' h).2, hx]; decide
        · exact sidesR_short old ho r _ _ _ u' hr' h z hz
    · unfold sidesR at hz
      rw [if_pos (by omega)] at hz
      split at hz <;> cases hz

theorem extB_parts {a b root : List UInt8} {m n : Int} {p q : List (List UInt8)} (h1 : extB a m root n p = true) (h2 : extB b m root n q = true) (hab : a ≠ b) :
    ∃ M N : Nat, m = (M : Int) ∧ n = (N : Int) ∧ 1 ≤ M ∧ M ≤ N ∧ a.length = 32 ∧ b.length = 32 ∧ (∀ x ∈ p, x.length = 32) ∧ (∀ x ∈ q, x.length = 32) ∧ bothR a p.reverse M N true = some (a, root) ∧ bothR b q.reverse M N true = some (b, root) := by
  unfold extB at h1 h2
  by_cases h0 : m = 0
  · rw [if_pos h0] at h1 h2
    simp only [Bool.and_eq_true, decide_eq_true_eq] at h1 h2
    exact absurd (h1.2.2.trans h2.2.2.symm) hab
  · by_cases hn : m = n
    · rw [if_neg h0, if_pos hn] at h1 h2
      simp only [Bool.and_eq_true, decide_eq_true_eq] at h1 h2
      exact absurd (h1.2.2.trans h2.2.2.symm) hab
    · rw [if_neg h0, if_neg hn] at h1 h2
      simp only [Bool.and_eq_true, decide_eq_true_eq, List.all_eq_true, beq_iff_eq] at h1 h2
      obtain ⟨⟨⟨⟨⟨k1, k2⟩, k3⟩, k4⟩, k5⟩, k6⟩ := h1
      obtain ⟨⟨⟨⟨_, j3⟩, j4⟩, j5⟩, j6⟩ := h2
      exact ⟨m.toNat, n.toNat, by omega, by omega, by omega, by omega, k4, j4, k3, j3, k6, j6⟩

set_option maxRecDepth 100000 in
set_option maxHeartbeats 8000000 in
theorem extBinding_any (a root b : ByteArray) (m n : Int) (vp vq : Value) (w : World) (hR : RoundOk w) (h0 : ∃ ss : List ByteArray, SliceAt w vp (ss.map Value.string) ∧ ∀ s ∈ ss, s.size ≤ 9223372036854775807) (h1 : ∃ ss : List ByteArray, SliceAt w vq (ss.map Value.string) ∧ ∀ s ∈ ss, s.size ≤ 9223372036854775807)
    (hn2 : n ≤ 9223372036854775807) :
    Calls Tryd.prog 6 #[.string a, vp, .string b, vq, .int .i64 m, .string root, .int .i64 n] w fun e w' => e = .returned (.bool true) ∧ Below w.heap.size w w' := by
  obtain ⟨ps, hvp, hps⟩ := h0
  obtain ⟨qs, hvq, hqs⟩ := h1
  obtain ⟨p, hp⟩ : ∃ l, l = fewL ps 70 := ⟨_, rfl⟩
  obtain ⟨q, hq⟩ : ∃ l, l = fewL qs 70 := ⟨_, rfl⟩
  have hpn : p.length ≤ 70 := by rw [hp]; exact fewL_length _ _
  have hqn : q.length ≤ 70 := by rw [hq]; exact fewL_length _ _
  have hfp := fun W hW => few_ok vp ps 70 70 rfl W hW hps (by decide)
  have hfq := fun W hW => few_ok vq qs 70 70 rfl W hW hqs (by decide)
  rw [← hp] at hfp
  rw [← hq] at hfq
  have HFP := Lib.hid hfp
  have HFQ := Lib.hid hfq
  have HVP := Lib.hid hvp
  have HVQ := Lib.hid hvq
  clear hp hq hfp hfq hvp hvq hps hqs
  go_enter Tryd.func6, Tryd.ntmps6
  go_wp2_with fail
  refine (sane_ok w hR).mono ?_
  rintro e w1 ⟨rfl, b1⟩
  go_wp2_with fail
  refine (HFP.out w1 (HVP.out.below b1)).mono ?_
  rintro e w2 ⟨v2, rfl, own2, b2⟩
  have hb2 := Below.next b1 b2
  have hL2 := listAt_own own2
  clear own2
  go_wp2_with fail
  refine (HFQ.out w2 (HVQ.out.below hb2)).mono ?_
  rintro e w3 ⟨v3, rfl, own3, b3⟩
  have hb3 := Below.next hb2 b3
  have hL3 := listAt_own own3
  have hL23 := hL2.below b3
  clear own3 hL2
  go_wp2_with fail
  refine (vx_any a root m n v2 p w3 hL23 hn2 (by omega) (hR.later hb3)).mono ?_
  rintro e w4 ⟨rfl, b4⟩
  have hb4 := Below.next hb3 b4
  have hL24 := hL23.below b4
  have hL34 := hL3.below b4
  clear hL3 hL23
  go_wp2_with fail
  refine (vx_any b root m n v3 q w4 hL34 hn2 (by omega) (hR.later hb4)).mono ?_
  rintro e w5 ⟨rfl, b5⟩
  have hb5 := Below.next hb4 b5
  have hL25 := hL24.below b5
  have hL35 := hL34.below b5
  clear hL34 hL24
  cases hv1 : extB a.data.toList m root.data.toList n p with
  | false =>
    clear hv1
    go_wp2_with fail
    go_ret
    exact ⟨rfl, hb5⟩
  | true =>
    cases hv2 : extB b.data.toList m root.data.toList n q with
    | false =>
      clear hv1 hv2
      go_wp2_with fail
      go_ret
      exact ⟨rfl, hb5⟩
    | true =>
      by_cases hST : a.data.toList = b.data.toList
      · have t1 : (a.toList == b.toList) = true := by rw [Lib.toList_data, Lib.toList_data]; simpa using hST
        clear hST hv1 hv2
        go_wp2_with fail
        go_ret
        exact ⟨rfl, hb5⟩
      · have t1 : (a.toList == b.toList) = false := by rw [Lib.toList_data, Lib.toList_data]; simpa using hST
        obtain ⟨M, N, rfl, rfl, hM1, hMN, ha32, hb32, hp32, hq32, hvl1, hvl2⟩ := extB_parts hv1 hv2 hST
        have hp32r : ∀ x ∈ p.reverse, x.length = 32 := fun x hx => hp32 x (List.mem_reverse.1 hx)
        have hq32r : ∀ x ∈ q.reverse, x.length = 32 := fun x hx => hq32 x (List.mem_reverse.1 hx)
        have hcoll : collB (sidesR a.data.toList p.reverse M N true).1 (sidesR b.data.toList q.reverse M N true).1 = true := by
          rcases side_binding a.data.toList b.data.toList ha32 hb32 p.reverse q.reverse M N true _ _ hp32r hq32r hvl1 hvl2 rfl with h | h
          · exact collB_of h
          · exact absurd h hST
        have hw1 := sides_ok a.data.toList ha32 p.reverse M N true _ v2 w5 (by rw [List.reverse_reverse]; exact hL25) (by omega) hM1 hMN hp32r (by rw [List.length_reverse]; omega) hvl1 (hR.later hb5)
        have hw2 := fun W hW hRW => sides_ok b.data.toList hb32 q.reverse M N true _ v3 W hW (by omega) hM1 hMN hq32r (by rw [List.length_reverse]; omega) hvl2 hRW
        rw [str_data] at hw1
        rw [str_data] at hw2
        have HC := Lib.hid hcoll
        have HW2 := Lib.hid hw2
        obtain ⟨X, hX⟩ : ∃ X, X = sidesR a.data.toList p.reverse M N true := ⟨_, rfl⟩
        obtain ⟨Y, hY⟩ : ∃ Y, Y = sidesR b.data.toList q.reverse M N true := ⟨_, rfl⟩
        have hxs := sidesR_short a.data.toList ha32 p.reverse M N true _ hp32r hvl1
        have hys := sidesR_short b.data.toList hb32 q.reverse M N true _ hq32r hvl2
        rw [← hX] at hxs
        rw [← hY] at hys
        have HXS := Lib.hid hxs
        have HYS := Lib.hid hys
        have hxl := sidesR_len a.data.toList p.reverse M N true
        rw [List.length_reverse, ← hX] at hxl
        rw [← hX] at hw1 HC
        rw [← hY] at HW2 HC
        clear hST hv1 hv2 hcoll hw2 hvl1 hvl2 hX hY hxs hys hp32 hq32 hp32r hq32r ha32 hb32
        go_wp2_with fail
        refine hw1.mono ?_
        rintro e w6 ⟨v6, rfl, own6, b6⟩
        have hb6 := Below.next hb5 b6
        have hL36 := hL35.below b6
        clear hw1
        go_wp2_with fail
        refine (HW2.out w6 (by rw [List.reverse_reverse]; exact hL36) (hR.later hb6)).mono ?_
        rintro e w7 ⟨v7, rfl, own7, b7⟩
        have hb7 := Below.next hb6 b7
        have own67 := ownsRow_below b7 own6
        have lx := listAt_own own67
        have ly := listAt_own own7
        obtain ⟨A6, c6, rfl⟩ := lx.len
        obtain ⟨A7, c7, rfl⟩ := ly.len
        clear own6 own7 own67
        have hcol := collide_ok A6 A7 c6 c7 X.1 Y.1 w7 lx ly (by omega) HXS.out HYS.out (hR.later hb7)
        rw [HC.out] at hcol
        go_wp2_with fail
        refine hcol.mono ?_
        rintro e w8 ⟨rfl, b8⟩
        have hb8 := Below.next hb7 b8
        go_wp2_with fail
        go_ret
        exact ⟨rfl, hb8⟩
end Go.Proofs.YtednkommpmdikaaDoor
