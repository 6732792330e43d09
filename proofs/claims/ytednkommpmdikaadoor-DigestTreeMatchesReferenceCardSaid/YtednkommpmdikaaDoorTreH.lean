/- Proof and Extension where they refuse or have nothing to prove; Extension. -/
import Derived.Test.YtednkommpmdikaaDoorTreG
import Derived.Test.YtednkommpmdikaaDoorTreeV
namespace Go.Proofs.YtednkommpmdikaaDoor
open Go Go.RowKit

theorem proof_no (a : Option Addr) (n c : Nat) (i : Int) (w : World) (hi : i < 0 ∨ (n : Int) ≤ i) :
    Calls Tryd.prog 12 #[.slice a n c, .int .i64 i] w fun e w' => e = .returned (.tuple #[.slice none 0 0, .int .i64 2]) ∧ w = w' := by
  by_cases h : i < 0
  · have t0 : decide (i < 0) = true := by simp; omega
    go_enter Tryd.func12, Tryd.ntmps12
    go_wp2_with fail
    go_step3
    go_wp2_with fail
    rw [Exit.noGoto_ret]
    go_ret2
    exact ⟨rfl, rfl⟩
  · have t0 : decide (i < 0) = false := by simp; omega
    have t1 : decide ((n : Int) ≤ i) = true := by simp; omega
    go_enter Tryd.func12, Tryd.ntmps12
    go_wp2_with fail
    go_step3
    go_wp2_with fail
    rw [Exit.noGoto_ret]
    go_ret2
    exact ⟨rfl, rfl⟩

theorem ext_no (a : Option Addr) (n c : Nat) (i : Int) (w : World) (hi : i < 0 ∨ (n : Int) < i) :
    Calls Tryd.prog 14 #[.slice a n c, .int .i64 i] w fun e w' => e = .returned (.tuple #[.slice none 0 0, .int .i64 2]) ∧ w = w' := by
  by_cases h : i < 0
  · have t0 : decide (i < 0) = true := by simp; omega
    go_enter Tryd.func14, Tryd.ntmps14
    go_wp2_with fail
    go_ret2
    exact ⟨rfl, rfl⟩
  · have t0 : decide (i < 0) = false := by simp; omega
    have t1 : decide ((n : Int) < i) = true := by simp; omega
    go_enter Tryd.func14, Tryd.ntmps14
    go_wp2_with fail
    go_ret2
    exact ⟨rfl, rfl⟩

theorem ext_zero (a : Option Addr) (n c : Nat) (w : World) :
    Calls Tryd.prog 14 #[.slice a n c, .int .i64 0] w fun e w' => e = .returned (.tuple #[.slice none 0 0, .int .i64 0]) ∧ w = w' := by
  go_enter Tryd.func14, Tryd.ntmps14
  go_wp2_with fail
  go_ret2
  exact ⟨rfl, rfl⟩

set_option maxRecDepth 100000 in
set_option maxHeartbeats 4000000 in
theorem ext_ok (g o n c : Nat) (l : List (List UInt8)) (m : Nat) (w : World) (hv : RowsAt w g o n c l) (hn : n ≤ 1000000) (hm1 : 1 ≤ m) (hmn : m ≤ n) (hs : ∀ x ∈ l, x.length ≤ 900000) (hR : RoundOk w) :
    Calls Tryd.prog 14 #[.slice (some ⟨g, o, none⟩) n c, .int .i64 m] w fun e w' => ∃ v, e = .returned (.tuple #[v, .int .i64 0]) ∧ w'.ownsRow w.heap.size 9 1 v (extL l m).length (svs (extL l m)) ∧ Below w.heap.size w w' := by
  obtain ⟨i0, hi0, hz0, hz1, hz2⟩ := info_str
  have t0 : decide ((m : Int) < 0) = false := by simp
  have t1 : decide (n < m) = false := by simp; omega
  have t2 : ((m : Int) == 0) = false := by simp; omega
  have hel : extL l m = partL l m true := by unfold extL; rw [if_neg (by omega)]
  have HEL := Lib.hid hel
  have HS := Lib.hid hs
  clear hs hel
  go_enter Tryd.func14, Tryd.ntmps14
  go_wp2_with fail
  go_loopw [0, 1, 6, 7] (fun lv iv ov bv wr => ∃ (o' n' c' m' : Nat) (b : Bool) (l' out : List (List UInt8)), lv = .slice (some ⟨g, o', none⟩) n' c' ∧ iv = .int .i64 m' ∧ bv = .bool b ∧ RowsAt w g o' n' c' l' ∧ n' ≤ n ∧ 1 ≤ m' ∧ m' ≤ n' ∧ Hid (partL l m true = partL l' m' b ++ out.reverse) ∧ (∀ x ∈ l', x ∈ l) ∧ out.length + n' ≤ n ∧ wr.ownsRow w.heap.size 9 1 ov out.length (svs out) ∧ Below w.heap.size w wr) (fun lv _ _ _ _ => lenOf lv)
  case atStart => exact ⟨o, n, c, m, true, l, [], rfl, rfl, rfl, hv, Nat.le_refl _, hm1, hmn, Lib.hid (by simp), fun x hx => hx, by simp, World.ownsRow_nil w _ _ 1, Below.refl _ _⟩
  case round =>
    obtain ⟨o', n', c', m', b, l', out, rfl, rfl, rfl, hrow, hn', hm', hmn', HPF, hsub, hol, hown, hb⟩ := hrel
    clear t1
    by_cases h1 : m' = n'
    · have t2 : decide (m' < n') = false := by simp; omega
      have hall := partL_all l' m' b (by have := hrow.1; omega)
      have HALL := Lib.hid hall
      clear h1 hall
      cases b with
      | true =>
        go_wp2_with fail
        refine (rev_ok w.heap.size _ out _ w hown (by omega) hb hb.size).mono ?_
        rintro e w2 ⟨rfl, own2, b2⟩
        go_wp2_with fail
        go_ret2
        refine ⟨_, rfl, ?_, b2⟩
        rw [HEL.out, HPF.out, HALL.out]
        simpa using own2
      | false =>
        have hroot := root_ok _ _ wr ((hrow.below hb).slice) (by rw [← hrow.1]; omega) (fun x hx => HS.out x (hsub x hx)) (hR.later hb)
        go_wp2_with fail
        refine hroot.mono ?_
        rintro e w4 ⟨rfl, b4⟩
        have hb4 := Below.next hb b4
        have hown4 := ownsRow_below b4 hown
        have hle4 := hb4.size
        clear hroot
        go_wp2_with (at_builtin; refine wpList_append_own _ rfl _ _ 22 rfl w.heap.size 9 i0 (.string ⟨#[]⟩) 1 16 Tryd.underlying22 hi0 hz0 hz1 hz2 rfl (by decide) u6 _ _ rfl (hown4.alloc _) ⟨w4.heap.size, 0, none⟩ 1 1 [.string (str (rootL l'))] rfl rfl (cell_one_new _ _ _) (by simp [Value.oneCell']) (by unfold maxLen; omega) (by omega) (by simp; omega) ?_; intro v5 w5 own5 g5 _)
        have hb5 := Below.appended hb4 hle4 hown4 g5
        have e5 : svs out ++ [.string (str (rootL l'))] = svs (out ++ [rootL l']) := (svs_snoc _ _).symm
        have l5 : out.length + 1 = (out ++ [rootL l']).length := by simp
        rw [e5, l5] at own5
        clear e5 l5
        go_wp2_with fail
        refine (rev_ok w.heap.size _ _ _ w own5 (by rw [List.length_append, List.length_singleton]; have := hrow.1; omega) hb5 hb5.size).mono ?_
        rintro e w6 ⟨rfl, own6, b6⟩
        go_wp2_with fail
        go_ret2
        refine ⟨_, rfl, ?_, b6⟩
        rw [HEL.out, HPF.out, HALL.out]
        simpa using own6
    · have t2 : decide (m' < n') = true := by simp; omega
      have hmn2 : m' < n' := by omega
      have h2 : 2 ≤ n' := by omega
      obtain ⟨k, hk⟩ : ∃ k, k = leftN n' := ⟨_, rfl⟩
      have hkl := leftN_lt n' h2
      have hkp := leftN_pos n'
      have hleft := left_ok n' h2 (by omega)
      rw [← hk] at hkl hkp hleft
      have hnc := hrow.2.1
      have hcm := hrow.2.2.1
      have k0 : (0 : Int) ≤ (k : Int) := by omega
      have k1 : (k : Int) ≤ (n' : Int) := by omega
      have k2 : (k : Int) ≤ (c' : Int) := by omega
      have k3 : ¬ c' = k := by omega
      have k4 : (n' : Int) ≤ (c' : Int) := by omega
      have HK := Lib.hid hk
      clear hk h1
      go_wp2_with fail
      refine (hleft _).mono ?_
      rintro e w2 ⟨rfl, rfl⟩
      go_wp2_with fail
      go_quiet (fail)
      have hb3 : Below w.heap.size w (w2.drewN nq) := below_drewN' hb nq
      have hown3 : (w2.drewN nq).ownsRow w.heap.size 9 1 u6 out.length (svs out) := hown
      generalize w2.drewN nq = w3 at *
      have hrow3 := hrow.below hb3
      have hl' := hrow.1
      clear hb hown hleft
      have hle3 := hb3.size
      by_cases hki : k < m'
      · have t3 : decide (k < m') = true := by simp; omega
        obtain ⟨j, hj⟩ : ∃ j, j = m' - k := ⟨_, rfl⟩
        have ej : (m' : Int) - (k : Int) = (j : Int) := by omega
        have hj1 : 1 ≤ j := by omega
        have hjl : j ≤ n' - k := by omega
        have hpr := partL_right l' m' b (by omega) (by rw [← hl', ← HK.out]; exact hki)
        rw [← hl', ← HK.out, ← hj] at hpr
        have HPR := Lib.hid hpr
        have hroot := root_ok _ _ w3 (hrow3.take k (by omega)).slice (by rw [List.length_take]; omega) (fun x hx => HS.out x (hsub x (List.mem_of_mem_take hx))) (hR.later hb3)
        have HL := Lib.hid hl'
        clear hpr hj hl'
        go_wp2_with fail
        refine hroot.mono ?_
        rintro e w4 ⟨rfl, b4⟩
        have hb4 := Below.next hb3 b4
        have hown4 := ownsRow_below b4 hown3
        have hle4 := hb4.size
        clear hroot
        go_wp2_with (at_builtin; refine wpList_append_own _ rfl _ _ 22 rfl w.heap.size 9 i0 (.string ⟨#[]⟩) 1 16 Tryd.underlying22 hi0 hz0 hz1 hz2 rfl (by decide) u6 _ _ rfl (hown4.alloc _) ⟨w4.heap.size, 0, none⟩ 1 1 [.string (str (rootL (l'.take k)))] rfl rfl (cell_one_new _ _ _) (by simp [Value.oneCell']) (by unfold maxLen; omega) (by omega) (by simp; omega) ?_; intro v5 w5 own5 g5 _)
        have hb5 := Below.appended hb4 hle4 hown4 g5
        go_wp2_with fail
        exact ⟨⟨_, _, _, j, false, l'.drop k, out ++ [rootL (l'.take k)], rfl, rfl, rfl, hrow.drop k (by omega), by omega, hj1, hjl, Lib.hid (by rw [HPF.out, HPR.out]; simp), fun x hx => hsub x (List.mem_of_mem_drop hx), by rw [List.length_append, List.length_singleton]; omega, by rw [List.length_append, List.length_singleton, svs_snoc]; exact own5, hb5⟩, by simp [lenOf]; omega⟩
      · have t3 : decide (k < m') = false := by simp; omega
        have hpr := partL_left l' m' b (by omega) hm' (by rw [← hl', ← HK.out]; exact hki)
        rw [← hl', ← HK.out] at hpr
        have HPR := Lib.hid hpr
        have hroot := root_ok _ _ w3 (hrow3.drop k (by omega)).slice (by rw [List.length_drop]; omega) (fun x hx => HS.out x (hsub x (List.mem_of_mem_drop hx))) (hR.later hb3)
        have HL := Lib.hid hl'
        clear hpr hl'
        go_wp2_with fail
        refine hroot.mono ?_
        rintro e w4 ⟨rfl, b4⟩
        have hb4 := Below.next hb3 b4
        have hown4 := ownsRow_below b4 hown3
        have hle4 := hb4.size
        clear hroot
        go_wp2_with (at_builtin; refine wpList_append_own _ rfl _ _ 22 rfl w.heap.size 9 i0 (.string ⟨#[]⟩) 1 16 Tryd.underlying22 hi0 hz0 hz1 hz2 rfl (by decide) u6 _ _ rfl (hown4.alloc _) ⟨w4.heap.size, 0, none⟩ 1 1 [.string (str (rootL (l'.drop k)))] rfl rfl (cell_one_new _ _ _) (by simp [Value.oneCell']) (by unfold maxLen; omega) (by omega) (by simp; omega) ?_; intro v5 w5 own5 g5 _)
        have hb5 := Below.appended hb4 hle4 hown4 g5
        go_wp2_with fail
        exact ⟨⟨_, _, _, m', b, l'.take k, out ++ [rootL (l'.drop k)], rfl, rfl, rfl, hrow.take k (by omega), by omega, by omega, by omega, Lib.hid (by rw [HPF.out, HPR.out]; simp), fun x hx => hsub x (List.mem_of_mem_take hx), by rw [List.length_append, List.length_singleton]; omega, by rw [List.length_append, List.length_singleton, svs_snoc]; exact own5, hb5⟩, by simp [lenOf]; omega⟩
end Go.Proofs.YtednkommpmdikaaDoor
