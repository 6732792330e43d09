/- The walk of DigestExtensionAccepted. -/
import Derived.Test.YtednkommpmdikaaDoorDgE
namespace Go.Proofs.YtednkommpmdikaaDoor
open Go Go.RowKit
attribute [local go_sem] Oper.semAt_some

theorem own_form {w : World} {base : Nat} {e : TypeId} {v : Value} {k : Nat} {xs : List Value} (h : w.ownsRow base e 1 v k xs) : ∃ A c, v = .slice A k c ∧ k ≤ c ∧ ((A = none ∧ k = 0 ∧ c = 0) ∨ ∃ g, A = some ⟨g, 0, none⟩) := by
  rcases h.2 with ⟨rfl, rfl⟩ | ⟨g, cap, cur, rfl, _, _, hn, _⟩
  · exact ⟨none, 0, rfl, Nat.le_refl _, .inl ⟨rfl, rfl, rfl⟩⟩
  · exact ⟨_, cap, rfl, hn, .inr ⟨g, rfl⟩⟩

set_option maxRecDepth 100000 in
set_option maxHeartbeats 8000000 in
theorem extAcc_any (v : Value) (m : Int) (w : World) (hR : RoundOk w) (h0 : ∃ ss : List ByteArray, SliceAt w v (ss.map Value.string) ∧ ∀ s ∈ ss, s.size ≤ 9223372036854775807) (hm1 : -9223372036854775808 ≤ m) (hm2 : m ≤ 9223372036854775807) :
    Calls Tryd.prog 4 #[v, .int .i64 m] w fun e w' => e = .returned (.bool true) ∧ Below w.heap.size w w' := by
  obtain ⟨ss, hv, hs⟩ := h0
  obtain ⟨l, hl⟩ : ∃ l, l = fewL ss 25 := ⟨_, rfl⟩
  have hln : l.length ≤ 25 := by rw [hl]; exact fewL_length _ _
  have hls : ∀ x ∈ l, x.length ≤ 900000 := fun x hx => by rw [hl] at hx; have := fewL_short _ _ x hx; omega
  have hfew := fun W hW => few_ok v ss 25 25 rfl W hW hs (by decide)
  rw [← hl] at hfew
  have HLS := Lib.hid hls
  have HFW := Lib.hid hfew
  have HV := Lib.hid hv
  clear hl hls hs hfew hv
  go_enter Tryd.func4, Tryd.ntmps4
  go_wp2_with fail
  refine (sane_ok w hR).mono ?_
  rintro e w1 ⟨rfl, b1⟩
  go_wp2_with fail
  refine (HFW.out w1 (HV.out.below b1)).mono ?_
  rintro e w2 ⟨v2, rfl, own2, b2⟩
  have hb2 := Below.next b1 b2
  have hL2 := listAt_own own2
  obtain ⟨A, c, rfl, hc, hA⟩ := own_form own2
  clear own2
  go_wp2_with fail
  refine (root_list _ l w2 hL2 (by omega) HLS.out (hR.later hb2)).mono ?_
  rintro e w3 ⟨rfl, b3⟩
  have hL3 := hL2.below b3
  have hb3 := Below.next hb2 b3
  go_wp2_with fail
  go_loopw [7] (fun kv wr => ∃ k : Nat, k ≤ l.length + 1 ∧ kv = .int .i64 k ∧ ListAt wr (.slice A l.length c) l ∧ Below w.heap.size w wr) (fun kv _ => l.length + 1 - (intOf kv).toNat)
  case atStart => exact ⟨0, by omega, rfl, hL3, hb3⟩
  case round =>
    obtain ⟨k, hk, rfl, hL, hb⟩ := hrel
    by_cases hkl : k ≤ l.length
    · have t1 : decide (k ≤ l.length) = true := by simpa using hkl
      have hacc := extB_accept l k hkl
      have hsh := extL_short l k hkl
      obtain ⟨b2', hb2'⟩ : ∃ b, b = 2 * binN l.length := ⟨_, rfl⟩
      have hbl := binN_le l.length
      have e1 : (2 : Int) * (binN l.length : Int) = (b2' : Int) := by omega
      have t2 : decide (b2' < (extL l k).length) = false := by simp; omega
      have hx100 : (extL l k).length ≤ 100 := by omega
      have HACC := Lib.hid hacc
      clear hacc hsh
      rcases hA with ⟨rfl, h0, rfl⟩ | ⟨g, rfl⟩
      · obtain rfl := List.length_eq_zero_iff.1 h0
        obtain rfl : k = 0 := by simpa using hkl
        clear h0 t1
        go_wp2_with fail
        refine (ext_list _ [] 0 wr hL (by decide) (by decide) HLS.out (hR.later hb)).mono ?_
        rintro e w4 ⟨A4, c4, rfl, hx4, b4⟩
        have hL4 := hL.below b4
        have hb4 := Below.next hb b4
        go_wp2_with fail
        refine (binary_ok 0 w4 (by decide)).mono ?_
        rintro e w5 ⟨rfl, rfl⟩
        have e9 : (binN 0 : Int) = 0 := by decide
        have e10 : extL [] 0 = [] := rfl
        have HE10 := Lib.hid e10
        rw [e10] at hx4
        clear hb2' e10
        go_wp2_with fail
        refine (root_list _ [] w5 hL4 (by decide) (by simp) (hR.later hb4)).mono ?_
        rintro e w6 ⟨rfl, b6⟩
        have hb6 := Below.next hb4 b6
        have hx6 := hx4.below b6
        have hL6 := hL4.below b6
        have hvx := vx_any (str (rootL [])) (str (rootL [])) 0 0 _ [] w6 hx6 (by omega) (by decide) (hR.later hb6)
        have hac : extB (str (rootL [])).data.toList 0 (str (rootL [])).data.toList 0 [] = true := HACC.out
        rw [hac] at hvx
        clear hac
        go_wp2_with fail
        refine hvx.mono ?_
        rintro e w7 ⟨rfl, b7⟩
        have hb7 := Below.next hb6 b7
        have hL7 := hL6.below b7
        clear hvx hL4 hL6 hx4 hx6 e1
        go_wp2_with fail
        refine ⟨?_, by simp [intOf]⟩
        repeat apply Exists.intro
        exact ⟨⟨1, by simp, rfl, hL7, hb7⟩, rfl⟩
      · have hLtk : ∀ W, ListAt W (.slice (some ⟨g, 0, none⟩) l.length c) l → ListAt W (.slice (some ⟨g, 0, none⟩) k c) (l.take k) := by
          intro W h
          by_cases h0 : l = []
          · subst h0
            obtain rfl : k = 0 := by simpa using hkl
            exact .inl ⟨rfl, _, _, rfl⟩
          · obtain ⟨g', o', c', e, hr⟩ := h.rows h0
            injection e with e1 e2 e3
            injection e1 with e1
            injection e1 with e1 e4
            subst e1 e3 e4
            exact (hr.take k hkl).list
        have HTK := Lib.hid hLtk
        clear hLtk
        go_wp2_with fail
        refine (ext_list _ l k wr hL (by omega) hkl HLS.out (hR.later hb)).mono ?_
        rintro e w4 ⟨A4, c4, rfl, hx4, b4⟩
        have hL4 := hL.below b4
        have hb4 := Below.next hb b4
        go_wp2_with fail
        refine (binary_ok l.length w4 (by omega)).mono ?_
        rintro e w5 ⟨rfl, rfl⟩
        clear hb2'
        have hLt := HTK.out w5 hL4
        have k0 : (0 : Int) ≤ (k : Int) := by omega
        have k1 : (k : Int) ≤ (l.length : Int) := by omega
        have k2 : (k : Int) ≤ (c : Int) := by omega
        go_wp2_with fail
        refine (root_list _ (l.take k) w5 hLt (by rw [List.length_take]; omega) (fun x hx => HLS.out x (List.mem_of_mem_take hx)) (hR.later hb4)).mono ?_
        rintro e w6 ⟨rfl, b6⟩
        have hb6 := Below.next hb4 b6
        have hx6 := hx4.below b6
        have hL6 := hL4.below b6
        have hvx := vx_any (str (rootL (l.take k))) (str (rootL l)) k l.length _ (extL l k) w6 hx6 (by omega) hx100 (hR.later hb6)
        rw [mk_toList, mk_toList, HACC.out] at hvx
        go_wp2_with fail
        refine hvx.mono ?_
        rintro e w7 ⟨rfl, b7⟩
        have hb7 := Below.next hb6 b7
        have hL7 := hL6.below b7
        clear hvx hL4 hL6 hx4 hx6 hLt e1
        go_wp2_with fail
        exact ⟨⟨k + 1, by omega, by go_num, hL7, hb7⟩, by simp [intOf]; omega⟩
    · have t1 : decide (k ≤ l.length) = false := by simpa using hkl
      clear hA
      by_cases hin : 0 ≤ m ∧ m ≤ (l.length : Int)
      · obtain ⟨M, rfl⟩ : ∃ M : Nat, m = (M : Int) := ⟨m.toNat, by omega⟩
        have t2 : decide ((0 : Int) ≤ (M : Int)) = true := by simp
        have t3 : decide (M ≤ l.length) = true := by simp; omega
        go_wp2_with fail
        refine (ext_list _ l M wr hL (by omega) (by omega) HLS.out (hR.later hb)).mono ?_
        rintro e w4 ⟨A4, c4, rfl, hx4, b4⟩
        have hb4 := Below.next hb b4
        go_wp2_with fail
        go_ret
        exact ⟨rfl, hb4⟩
      · have t4 : (decide ((0 : Int) ≤ m) && decide (m ≤ (l.length : Int))) = false := by
          rw [Bool.and_eq_false_iff]
          by_cases h0 : 0 ≤ m
          · right; simp; omega
          · left; simp; omega
        have hno := ext_no A l.length c m wr (by omega)
        have hvn := vx_no (str (rootL l)) (str (rootL l)) m l.length (.slice none 0 0) [] wr (by omega)
        have hvf : extB (str (rootL l)).data.toList m (str (rootL l)).data.toList l.length [] = false := by
          unfold extB
          rw [decide_eq_false hin]
          rfl
        rw [hvf] at hvn
        clear hvf hin
        by_cases h0 : 0 ≤ m
        · have t5 : decide ((0 : Int) ≤ m) = true := by simpa using h0
          have t6 : decide (m ≤ (l.length : Int)) = false := by rw [t5, Bool.true_and] at t4; exact t4
          clear t4
          go_wp2_with fail
          refine hno.mono ?_
          rintro e w4 ⟨rfl, rfl⟩
          go_wp2_with fail
          refine hvn.mono ?_
          rintro e w4 ⟨rfl, rfl⟩
          go_wp2_with fail
          go_ret
          exact ⟨rfl, hb⟩
        · have t5 : decide ((0 : Int) ≤ m) = false := by simpa using h0
          clear t4
          go_wp2_with fail
          refine hno.mono ?_
          rintro e w4 ⟨rfl, rfl⟩
          go_wp2_with fail
          refine hvn.mono ?_
          rintro e w4 ⟨rfl, rfl⟩
          go_wp2_with fail
          go_ret
          exact ⟨rfl, hb⟩
end Go.Proofs.YtednkommpmdikaaDoor
