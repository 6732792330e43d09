/- The walk of DigestBinding. -/
import Derived.Test.YtednkommpmdikaaDoorDgG
namespace Go.Proofs.YtednkommpmdikaaDoor
open Go Go.RowKit
attribute [local go_sem] Oper.semAt_some

theorem cut60 (s : ByteArray) : ∃ m : Nat, min (s.size : Int) 60 = (m : Int) ∧ m ≤ s.size ∧ (m : Int) ≤ 60 ∧ s.extract 0 m = str (s.data.toList.take 60) := by
  obtain ⟨m, e, h1, h2, h3⟩ := cut_min s 60 (by omega)
  rw [show (60 : Int).toNat = 60 from rfl] at h3
  refine ⟨m, by omega, h1, h2, ?_⟩
  rw [extract_eq, List.drop_zero, Nat.sub_zero]
  have : s.data.toList.take m = s.data.toList.take 60 := by
    rw [h3]
    by_cases h60 : 60 ≤ s.size
    · rw [Nat.min_eq_right h60]
    · rw [Nat.min_eq_left (by omega), List.take_of_length_le (by simp), List.take_of_length_le (by simp; omega)]
  rw [this]

theorem wayR_snd (s : List UInt8) : ∀ (r : List (List UInt8)) (n i : Nat), (wayR s r n i).2.length = 32
  | [], _, _ => rfl
  | x :: r, n, i => by
    unfold wayR
    split
    · rfl
    · split
      · rfl
      · rfl
theorem wayR_short (s : List UInt8) (hs : s.length ≤ 60) : ∀ (r : List (List UInt8)) (n i : Nat), (∀ x ∈ r, x.length = 32) → ∀ z ∈ (wayR s r n i).1, z.length ≤ 900000
  | [], _, _, _, z, hz => by
    simp [wayR] at hz
    subst hz
    simp; omega
  | x :: r, n, i, hr, z, hz => by
    have hx := hr x (by simp)
    have hr' : ∀ y ∈ r, y.length = 32 := fun y hy => hr y (by simp [hy])
    unfold wayR at hz
    split at hz
    · simp at hz
      subst hz
      simp; omega
    · split at hz
      · rcases List.mem_cons.1 hz with rfl | hz
        · rw [List.length_cons, List.length_append, wayR_snd, hx]; decide
        · exact wayR_short s hs r _ _ hr' z hz
      · rcases List.mem_cons.1 hz with rfl | hz
        · rw [List.length_cons, List.length_append, wayR_snd, hx]; decide
        · exact wayR_short s hs r _ _ hr' z hz

theorem verB_parts {root s : List UInt8} {n i : Int} {p : List (List UInt8)} (h : verB root n i s p = true) : ∃ N I : Nat, n = (N : Int) ∧ i = (I : Int) ∧ I < N ∧ (∀ x ∈ p, x.length = 32) ∧ valR s p.reverse N I = some root := by
  unfold verB at h
  simp only [Bool.and_eq_true, decide_eq_true_eq, List.all_eq_true, beq_iff_eq] at h
  obtain ⟨⟨⟨h1, h2⟩, h3⟩, h4⟩ := h
  exact ⟨n.toNat, i.toNat, by omega, by omega, by omega, h3, h4⟩

set_option maxRecDepth 100000 in
set_option maxHeartbeats 8000000 in
theorem binding_any (root s t : ByteArray) (n i : Int) (vp vq : Value) (w : World) (hR : RoundOk w) (h0 : ∃ ss : List ByteArray, SliceAt w vp (ss.map Value.string) ∧ ∀ s ∈ ss, s.size ≤ 9223372036854775807) (h1 : ∃ ss : List ByteArray, SliceAt w vq (ss.map Value.string) ∧ ∀ s ∈ ss, s.size ≤ 9223372036854775807)
    (hn2 : n ≤ 9223372036854775807) :
    Calls Tryd.prog 5 #[.string root, .int .i64 n, .int .i64 i, .string s, vp, .string t, vq] w fun e w' => e = .returned (.bool true) ∧ Below w.heap.size w w' := by
  obtain ⟨ps, hvp, hps⟩ := h0
  obtain ⟨qs, hvq, hqs⟩ := h1
  obtain ⟨p, hp⟩ : ∃ l, l = fewL ps 70 := ⟨_, rfl⟩
  obtain ⟨q, hq⟩ : ∃ l, l = fewL qs 70 := ⟨_, rfl⟩
  have hpn : p.length ≤ 70 := by rw [hp]; exact fewL_length _ _
  have hqn : q.length ≤ 70 := by rw [hq]; exact fewL_length _ _
  have hfp := fun W hW => few_ok vp ps 70 70 rfl W hW hps (by decide)
  have hfq := fun W hW => few_ok vq qs 70 70 rfl W hW hqs (by decide)
  rw [← hp] at hfp
  rw [← hq] at hfq
  obtain ⟨ms, es, ms1, ms2, cs⟩ := cut60 s
  obtain ⟨mt, et, mt1, mt2, ct⟩ := cut60 t
  obtain ⟨S, hS⟩ : ∃ S, S = s.data.toList.take 60 := ⟨_, rfl⟩
  obtain ⟨T, hT⟩ : ∃ T, T = t.data.toList.take 60 := ⟨_, rfl⟩
  have hSl : S.length ≤ 60 := by rw [hS, List.length_take]; omega
  have hTl : T.length ≤ 60 := by rw [hT, List.length_take]; omega
  rw [← hS] at cs
  rw [← hT] at ct
  have CS := Lib.hid cs
  have CT := Lib.hid ct
  have HFP := Lib.hid hfp
  have HFQ := Lib.hid hfq
  have HVP := Lib.hid hvp
  have HVQ := Lib.hid hvq
  clear hp hq hfp hfq hvp hvq hps hqs cs ct hS hT
  go_enter Tryd.func5, Tryd.ntmps5
  go_wp2_with fail
  refine (sane_ok w hR).mono ?_
  rintro e w1 ⟨rfl, b1⟩
  go_wp2_with fail
  refine (HFP.out w1 (HVP.out.below b1)).mono ?_
  rintro e w2 ⟨v2, rfl, own2, b2⟩
  have hb2 := Below.next b1 b2
  have hL2 := listAt_own own2
  clear own2
  go_wp2_with fail
  refine (HFQ.out w2 (HVQ.out.below hb2)).mono ?_
  rintro e w3 ⟨v3, rfl, own3, b3⟩
  have hb3 := Below.next hb2 b3
  have hL3 := listAt_own own3
  have hL23 := hL2.below b3
  clear own3 hL2
  go_wp2_with fail
  rw [CS.out]
  refine (ver_any root (str S) n i v2 p w3 hL23 hn2 (by omega) (by rw [size_mk]; omega) (hR.later hb3)).mono ?_
  rintro e w4 ⟨rfl, b4⟩
  have hb4 := Below.next hb3 b4
  have hL24 := hL23.below b4
  have hL34 := hL3.below b4
  rw [mk_toList]
  clear hL3 hL23
  go_wp2_with fail
  rw [CT.out]
  refine (ver_any root (str T) n i v3 q w4 hL34 hn2 (by omega) (by rw [size_mk]; omega) (hR.later hb4)).mono ?_
  rintro e w5 ⟨rfl, b5⟩
  have hb5 := Below.next hb4 b5
  have hL25 := hL24.below b5
  have hL35 := hL34.below b5
  rw [mk_toList]
  clear hL34 hL24
  cases hv1 : verB root.data.toList n i S p with
  | false =>
    clear hv1
    go_wp2_with fail
    go_ret
    exact ⟨rfl, hb5⟩
  | true =>
    cases hv2 : verB root.data.toList n i T q with
    | false =>
      clear hv1 hv2
      go_wp2_with fail
      go_ret
      exact ⟨rfl, hb5⟩
    | true =>
      by_cases hST : S = T
      · have t1 : (S == T) = true := by simpa using hST
        clear hST hv1 hv2
        go_wp2_with fail
        go_ret
        exact ⟨rfl, hb5⟩
      · have t1 : (S == T) = false := by simpa using hST
        obtain ⟨N, I, rfl, rfl, hIN, hp32, hvl1⟩ := verB_parts hv1
        obtain ⟨N', I', eN, eI, _, hq32, hvl2⟩ := verB_parts hv2
        obtain rfl : N = N' := by omega
        obtain rfl : I = I' := by omega
        have hp32r : ∀ x ∈ p.reverse, x.length = 32 := fun x hx => hp32 x (List.mem_reverse.1 hx)
        have hq32r : ∀ x ∈ q.reverse, x.length = 32 := fun x hx => hq32 x (List.mem_reverse.1 hx)
        have hcoll := collB_of (way_binding S T hST p.reverse q.reverse N I root.data.toList hp32r hq32r hvl1 hvl2)
        have hw1 := way_ok S hSl p.reverse N I _ v2 w5 (by rw [List.reverse_reverse]; exact hL25) (by omega) hIN hp32r (by rw [List.length_reverse]; omega) hvl1 (hR.later hb5)
        have hw2 := fun W hW hRW => way_ok T hTl q.reverse N I _ v3 W hW (by omega) hIN hq32r (by rw [List.length_reverse]; omega) hvl2 hRW
        have HC := Lib.hid hcoll
        have HW2 := Lib.hid hw2
        obtain ⟨X, hX⟩ : ∃ X, X = wayR S p.reverse N I := ⟨_, rfl⟩
        obtain ⟨Y, hY⟩ : ∃ Y, Y = wayR T q.reverse N I := ⟨_, rfl⟩
        have hxs := wayR_short S hSl p.reverse N I hp32r
        have hys := wayR_short T hTl q.reverse N I hq32r
        rw [← hX] at hxs
        rw [← hY] at hys
        have HXS := Lib.hid hxs
        have HYS := Lib.hid hys
        have hxl := wayR_len S p.reverse N I
        have hyl := wayR_len T q.reverse N I
        rw [List.length_reverse, ← hX] at hxl
        rw [List.length_reverse, ← hY] at hyl
        rw [← hX] at hw1 HC
        rw [← hY] at HW2 HC
        clear hST hv1 hv2 hcoll hw2 hvl1 hvl2 hX hY eN eI hxs hys hp32 hq32 hp32r hq32r
        go_wp2_with fail
        refine hw1.mono ?_
        rintro e w6 ⟨v6, rfl, own6, b6⟩
        have hb6 := Below.next hb5 b6
        have hL36 := hL35.below b6
        clear hw1
        go_wp2_with fail
        refine (HW2.out w6 (by rw [List.reverse_reverse]; exact hL36) (hR.later hb6)).mono ?_
        rintro e w7 ⟨v7, rfl, own7, b7⟩
        have hb7 := Below.next hb6 b7
        have own67 := ownsRow_below b7 own6
        have lx := listAt_own own67
        have ly := listAt_own own7
        obtain ⟨A6, c6, rfl⟩ := lx.len
        obtain ⟨A7, c7, rfl⟩ := ly.len
        clear own6 own7 own67
        have hcol := collide_ok A6 A7 c6 c7 X.1 Y.1 w7 lx ly (by omega) HXS.out HYS.out (hR.later hb7)
        rw [HC.out] at hcol
        go_wp2_with fail
        refine hcol.mono ?_
        rintro e w8 ⟨rfl, b8⟩
        have hb8 := Below.next hb7 b8
        go_wp2_with fail
        go_ret
        exact ⟨rfl, hb8⟩
end Go.Proofs.YtednkommpmdikaaDoor
