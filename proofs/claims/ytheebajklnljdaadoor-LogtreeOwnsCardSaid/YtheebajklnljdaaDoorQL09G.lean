/- The walk of LogtreeGrows. -/
import Derived.Test.YtheebajklnljdaaDoorQRcB
import Derived.Test.YtheebajklnljdaaDoorQRcC
import Derived.Test.YtheebajklnljdaaDoorGn
namespace Go.Proofs.YtheebajklnljdaaDoor
open Go Go.RowKit
attribute [local go_sem] Oper.semAt_some

theorem RecOwn.ok {W : World} {base : Nat} {v : Value} {ps : List (Rec × Value)} (h : RecOwn W base v ps) : RecsOk (ps.map (·.1)) := fun i r hr => by
  rw [List.getElem?_map, Option.map_eq_some_iff] at hr
  obtain ⟨p, hp, rfl⟩ := hr
  exact h.good i p hp
theorem RecsAt.take {w : World} {A : Option Addr} {n c : Nat} {l : List Rec} (h : RecsAt w (.slice A n c) l) (m : Nat) (hm : m ≤ l.length) : RecsAt w (.slice A m c) (l.take m) := by
  obtain ⟨A', c', e, hc, hx⟩ := h
  injection e with e1 e2 e3
  subst e1 e2 e3
  refine ⟨A, c, by rw [List.length_take, Nat.min_eq_left hm], by rw [List.length_take]; omega, fun h0 => ?_⟩
  rw [List.length_take] at h0
  obtain ⟨g, o, hA, hg, hj⟩ := hx (by omega)
  refine ⟨g, o, hA, hg, fun j r hr => ?_⟩
  rw [List.getElem?_take] at hr
  split at hr
  · exact hj j r hr
  · cases hr
theorem binN_self (n : Nat) : binN n ≤ n := by
  unfold binN
  split
  · omega
  · rename_i h
    have := (Nat.log2_lt h).2 (Nat.lt_two_pow_self (n := n))
    omega

set_option maxRecDepth 100000 in
set_option maxHeartbeats 1500000 in
theorem grows_any (v : Value) (m : Int) (w : World) (hR : RoundOk w) (hv : IntRows w v) (hm1 : -9223372036854775808 ≤ m) (hm2 : m ≤ 9223372036854775807) :
    Calls Tryd.prog 5 #[v, .int .i64 m] w fun e w' => e = .returned (.bool true) ∧ Below w.heap.size w w' := by
  have hgd := guardHd
  have HV := Lib.hid hv
  have HR := Lib.hid hR
  clear hv
  go_enter Tryd.func5, Tryd.ntmps5
  go_wp2_with fail
  refine (sane_ok w hR).mono ?_
  rintro e w1 ⟨rfl, b1⟩
  go_wp2_with fail
  refine (records_ok v w1 (HV.out.below b1)).mono ?_
  rintro e w2 ⟨v', ps, rfl, hro, hn12, b2⟩
  have hb2 := Below.next b1 b2
  obtain ⟨A, c, rfl, hc⟩ := hro.form
  have hok := hro.ok
  have hrs := hro.recs
  obtain ⟨n, hn⟩ : ∃ n, n = ps.length := ⟨_, rfl⟩
  obtain ⟨rs, hrse⟩ : ∃ rs, rs = ps.map (·.1) := ⟨_, rfl⟩
  have hrl : rs.length = n := by rw [hrse, List.length_map, hn]
  rw [← hrse] at hok hrs
  rw [← hn] at hrs hc hn12 ⊢
  clear hrse hro hn
  obtain ⟨M, hM⟩ : ∃ M : Nat, pickZ m ((n : Int) + 1) = (M : Int) := ⟨(pickZ m ((n : Int) + 1)).toNat, by have := pickZ_range m ((n : Int) + 1) (by omega); omega⟩
  have hMn : M ≤ n := by have := pickZ_range m ((n : Int) + 1) (by omega); omega
  have hpk := fun W => pick_any m ((n : Int) + 1) W hm1 hm2 (by omega) (by omega)
  rw [hM] at hpk
  have HPK := Lib.hid hpk
  have hl1 : ∀ W, Below w2.heap.size w2 W → Calls Tryd.prog 10 #[.slice A n c] W fun e w' => ∃ b, e = .returned (.pointer (some ⟨b, 0, none⟩)) ∧ LJ W b (logN rs n) w' := by
    intro W hW
    have := logged_ok A c rs W (by rw [hrl]; exact hrs.below hW) hok (by omega) (hR.later (Below.next hb2 hW))
    rw [hrl] at this
    exact this
  have hl2 : ∀ W, Below w2.heap.size w2 W → Calls Tryd.prog 10 #[.slice A M c] W fun e w' => ∃ b, e = .returned (.pointer (some ⟨b, 0, none⟩)) ∧ LJ W b (logN rs M) w' := by
    intro W hW
    have htl : (rs.take M).length = M := by rw [List.length_take, hrl]; omega
    have := logged_ok A c (rs.take M) W (by rw [htl]; exact (hrs.below hW).take M (by omega)) (hok.take M) (by omega) (hR.later (Below.next hb2 hW))
    rw [htl, logN_take M M (Nat.le_refl _)] at this
    exact this
  obtain ⟨gx, rx, -⟩ := logN_spec hok n (by omega)
  obtain ⟨gy, ry, -⟩ := logN_spec hok M (by omega)
  obtain ⟨tl, htl⟩ := logN_heads hok M n hMn (by omega)
  have hxl : (logN rs n).heads.length = n + 1 := by rw [gx.len, rx, List.length_take, hrl]; omega
  have hyl : (logN rs M).heads.length = M + 1 := by rw [gy.len, ry, List.length_take, hrl]; omega
  have hyt : (logN rs M).heads = (logN rs n).heads.take (M + 1) := by rw [htl, List.take_append_of_le_length (by omega), List.take_of_length_le (by omega)]
  obtain ⟨x, hx⟩ : ∃ x, x = logN rs n := ⟨_, rfl⟩
  obtain ⟨y, hy⟩ : ∃ y, y = logN rs M := ⟨_, rfl⟩
  rw [← hx] at gx hxl hyt hl1
  rw [← hy] at gy hyl hyt hl2
  have HL1 := Lib.hid hl1
  have HL2 := Lib.hid hl2
  have HXL := Lib.hid hxl
  have HYT := Lib.hid hyt
  have HB2 := Lib.hid hb2
  have hacc : extB (rootA y) ((M : Int) + 1) (rootA x) ((n : Int) + 1) (extL (leavesL x) (M + 1)) = true := by
    have hly : leavesL y = (leavesL x).take (M + 1) := by unfold leavesL; rw [hyt, List.map_take]
    have hll := leavesL_len x
    have := extB_accept (leavesL x) (M + 1) (by omega)
    unfold rootA
    rw [hly]
    rw [hll, hxl] at this
    exact this
  have hes := extL_short (leavesL x) (M + 1) (by rw [leavesL_len]; omega)
  have hbn := binN_self (leavesL x).length
  rw [leavesL_len, hxl] at hes hbn
  have hel : (extL (leavesL x) (M + 1)).length ≤ 100 := by omega
  have HACC := Lib.hid hacc
  have HEL := Lib.hid hel
  have GX := Lib.hid gx
  have GY := Lib.hid gy
  clear hx hy hl1 hl2 hxl hyl hyt htl hacc hes hbn hel gx gy rx ry hok hrs hrl hpk hM hb2 b1 b2
  have q0 : (0 : Int) ≤ (M : Int) := by omega
  have q1 : (M : Int) ≤ (n : Int) := by omega
  have q2 : (M : Int) ≤ (c : Int) := by omega
  go_wp2_with fail
  refine (HPK.out _).mono ?_
  rintro e w3 ⟨rfl, rfl⟩
  go_wp2_with fail
  refine (HL1.out _ (Below.refl _ _)).mono ?_
  rintro e w4 ⟨b, rfl, J4⟩
  go_wp2_with fail
  refine (HL2.out _ J4.2).mono ?_
  rintro e w5 ⟨b', rfl, J5⟩
  have L4 := J4.1.below J5.2
  have L5 := J5.1
  have hb5 := Below.next (Below.next HB2.out J4.2) J5.2
  clear J4 J5
  go_wp2_with fail
  refine (lext_ok L4 GX.out M (by rw [HXL.out]; omega) (HR.out.later hb5)).mono ?_
  rintro e w6 ⟨A6, c6, rfl, P6, b6⟩
  replace L4 := L4.below b6
  replace L5 := L5.below b6
  have hb6 := Below.next hb5 b6
  obtain ⟨X, hX⟩ : ∃ X, X = extL (leavesL x) (M + 1) := ⟨_, rfl⟩
  have hel := HEL.out
  have hacc := HACC.out
  rw [← hX] at P6 hel hacc ⊢
  have HACC2 := Lib.hid hacc
  clear hX hacc HACC HEL hb5
  go_wp2_with fail
  refine (lroot_ok L5 GY.out (HR.out.later hb6)).mono ?_
  rintro e w7 ⟨rfl, b7⟩
  replace L4 := L4.below b7
  replace L5 := L5.below b7
  replace P6 := P6.below b7
  have hb7 := Below.next hb6 b7
  clear hb6 b6
  go_wp2_with fail
  refine (lroot_ok L4 GX.out (HR.out.later hb7)).mono ?_
  rintro e w8 ⟨rfl, b8⟩
  replace L4 := L4.below b8
  replace L5 := L5.below b8
  replace P6 := P6.below b8
  have hb8 := Below.next hb7 b8
  clear hb7 b7
  have hvx := vx_any (str (rootA y)) (str (rootA x)) ((M : Int) + 1) ((n : Int) + 1) _ X w8 P6 (by omega) hel (HR.out.later hb8)
  rw [mk_toList, mk_toList, HACC2.out] at hvx
  have HVX := Lib.hid hvx
  clear hvx
  go_wp2_with fail
  refine (HVX.out).mono ?_
  rintro e w9 ⟨rfl, b9⟩
  replace L4 := L4.below b9
  replace L5 := L5.below b9
  have hb9 := Below.next hb8 b9
  clear hb8 b9 b8 P6
  go_wp2_with fail
  go_loopw [11] (fun pv wr => ∃ (k : Nat) (S T : Nat → Prop), k ≤ M + 1 ∧ pv = .int .i64 k ∧ LogAt wr S b x ∧ LogAt wr T b' y ∧ Below w.heap.size w wr) (fun pv _ => M + 1 - (intOf pv).toNat)
  case atStart => exact ⟨0, _, _, by omega, rfl, L4, L5, hb9⟩
  case round =>
    clear L4 L5 hb9
    obtain ⟨k, S, T, hk, rfl, L4, L5, hb⟩ := hrel
    by_cases h1 : k ≤ M
    · have t1 : decide (k ≤ M) = true := by simpa using h1
      obtain ⟨h, hh⟩ : ∃ h, x.heads[k]? = some h := ⟨_, List.getElem?_eq_getElem (by rw [HXL.out]; omega)⟩
      have hh2 : y.heads[k]? = some h := by rw [HYT.out, List.getElem?_take, if_pos (by omega)]; exact hh
      have c1 := head_ok L4 (k : Int)
      rw [headA_in hh] at c1
      have c2 := fun (W : World) (U : Nat → Prop) (L : LogAt W U b' y) => head_ok L (k : Int)
      simp only [headA_in hh2] at c2
      have hq : ∀ W : World, (Op.equalIn 10000 23 (.agg #[.int .i64 h.pos, .string (str h.chain), .string (str h.state)]) (.agg #[.int .i64 h.pos, .string (str h.chain), .string (str h.state)])).run Tryd.prog W = .ok true W := by
        intro W
        have := run_eqHd W h h
        rw [decide_eq_true rfl] at this
        exact this
      unfold hdV at c1 c2
      have C1 := Lib.hid c1
      have C2 := Lib.hid c2
      clear c1 c2 hh hh2
      go_wp2_with fail
      refine (C1.out).mono ?_
      rintro e wa ⟨rfl, ba⟩
      have K := BlkIs.new wa 23 #[.int .i64 h.pos, .string (str h.chain), .string (str h.state)]
      have aa := Below.alloc1 wa (.cells #[.int .i64 h.pos, .string (str h.chain), .string (str h.state)] 23)
      have baa := Below.next ba aa
      have M4 := L4.below baa
      have M5 := L5.below baa
      have hba := Below.next hb baa
      have KH := Lib.hid K
      have M4H := Lib.hid M4
      have HBA := Lib.hid hba
      clear K aa baa hba L4 L5 hb ba M4
      go_wp2_with fail
      refine (C2.out _ _ M5).mono ?_
      rintro e wb ⟨rfl, bb⟩
      have ab := Below.alloc1 wb (.cells #[.int .i64 h.pos, .string (str h.chain), .string (str h.state)] 23)
      have bbb := Below.next bb ab
      have K1 := KH.out.later bbb
      have K2 := BlkIs.new wb 23 #[.int .i64 h.pos, .string (str h.chain), .string (str h.state)]
      have N4 := M4H.out.below bbb
      have N5 := M5.below bbb
      have hbb := Below.next HBA.out bbb
      have c0 : (wb.alloc (.cells #[.int .i64 h.pos, .string (str h.chain), .string (str h.state)] 23)).cell? ⟨wa.heap.size, 0, none⟩ = some (.int .i64 h.pos) := K1.cell 0
      have c1 : (wb.alloc (.cells #[.int .i64 h.pos, .string (str h.chain), .string (str h.state)] 23)).cell? ⟨wa.heap.size, 1, none⟩ = some (.string (str h.chain)) := K1.cell 1
      have c2 : (wb.alloc (.cells #[.int .i64 h.pos, .string (str h.chain), .string (str h.state)] 23)).cell? ⟨wa.heap.size, 2, none⟩ = some (.string (str h.state)) := K1.cell 2
      have d0 : (wb.alloc (.cells #[.int .i64 h.pos, .string (str h.chain), .string (str h.state)] 23)).cell? ⟨wb.heap.size, 0, none⟩ = some (.int .i64 h.pos) := K2.cell 0
      have d1 : (wb.alloc (.cells #[.int .i64 h.pos, .string (str h.chain), .string (str h.state)] 23)).cell? ⟨wb.heap.size, 1, none⟩ = some (.string (str h.chain)) := K2.cell 1
      have d2 : (wb.alloc (.cells #[.int .i64 h.pos, .string (str h.chain), .string (str h.state)] 23)).cell? ⟨wb.heap.size, 2, none⟩ = some (.string (str h.state)) := K2.cell 2
      have HN4 := Lib.hid N4
      have HN5 := Lib.hid N5
      have HBB := Lib.hid hbb
      clear K1 K2 N4 N5 hbb M5 ab bbb bb
      go_wp2_with fail
      exact ⟨⟨k + 1, S, T, by omega, by go_num, HN4.out, HN5.out, HBB.out⟩, by simp [intOf]; omega⟩
    · have t1 : decide (k ≤ M) = false := by simpa using h1
      go_wp2_with fail
      go_ret
      exact ⟨rfl, hb⟩
end Go.Proofs.YtheebajklnljdaaDoor
