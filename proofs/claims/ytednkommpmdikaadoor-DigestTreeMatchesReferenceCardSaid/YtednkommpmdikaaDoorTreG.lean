/- Proof. -/
import Derived.Test.YtednkommpmdikaaDoorRevo
import Derived.Deep.AppendLies
namespace Go.Proofs.YtednkommpmdikaaDoor
open Go Go.RowKit

set_option maxRecDepth 100000 in
set_option maxHeartbeats 4000000 in
theorem proof_ok (g o n c : Nat) (l : List (List UInt8)) (i : Nat) (w : World) (hv : RowsAt w g o n c l) (hn : n ≤ 1000000) (hi : i < n) (hs : ∀ x ∈ l, x.length ≤ 900000) (hR : RoundOk w) :
    Calls Tryd.prog 12 #[.slice (some ⟨g, o, none⟩) n c, .int .i64 i] w fun e w' => ∃ v, e = .returned (.tuple #[v, .int .i64 0]) ∧ w'.ownsRow w.heap.size 9 1 v (proofL l i).length (svs (proofL l i)) ∧ Below w.heap.size w w' := by
  obtain ⟨i0, hi0, hz0, hz1, hz2⟩ := info_str
  have t0 : decide ((i : Int) < 0) = false := by simp
  have t1 : decide (n ≤ i) = false := by simp; omega
  have HS := Lib.hid hs
  clear hs
  go_enter Tryd.func12, Tryd.ntmps12
  go_wp2_with fail
  go_step3
  go_wp2_with fail
  go_step3
  go_wp2_with fail
  go_loopw [0, 1, 6] (fun lv iv ov wr => ∃ (o' n' c' i' : Nat) (l' out : List (List UInt8)), lv = .slice (some ⟨g, o', none⟩) n' c' ∧ iv = .int .i64 i' ∧ RowsAt w g o' n' c' l' ∧ n' ≤ n ∧ i' < n' ∧ proofL l i = proofL l' i' ++ out.reverse ∧ (∀ x ∈ l', x ∈ l) ∧ out.length + n' ≤ n ∧ wr.ownsRow w.heap.size 9 1 ov out.length (svs out) ∧ Below w.heap.size w wr) (fun lv _ _ _ => lenOf lv)
  case atStart => exact ⟨o, n, c, i, l, [], rfl, rfl, hv, Nat.le_refl _, hi, by simp, fun x hx => hx, by simp, World.ownsRow_nil w _ _ 1, Below.refl _ _⟩
  case round =>
    obtain ⟨o', n', c', i', l', out, rfl, rfl, hrow, hn', hi', hpf, hsub, hol, hown, hb⟩ := hrel
    by_cases h1 : n' = 1
    · have t2 : ((n' : Int) == 1) = true := by simp; omega
      have hpl : proofL l i = out.reverse := by
        rw [hpf, proofL_one l' i' (by have := hrow.1; omega)]; rfl
      have HPL := Lib.hid hpl
      clear hpf hpl h1
      go_wp2_with fail
      refine (rev_ok w.heap.size _ out _ w hown (by omega) hb hb.size).mono ?_
      rintro e w2 ⟨rfl, own2, b2⟩
      go_wp2_with fail
      rw [Exit.noGoto_ret]
      go_ret2
      refine ⟨_, rfl, ?_, b2⟩
      rw [HPL.out, List.length_reverse]
      exact own2
    · have t2 : ((n' : Int) == 1) = false := by simp; omega
      have h2 : 2 ≤ n' := by omega
      obtain ⟨k, hk⟩ : ∃ k, k = leftN n' := ⟨_, rfl⟩
      have hkl := leftN_lt n' h2
      have hkp := leftN_pos n'
      have hleft := left_ok n' h2 (by omega)
      rw [← hk] at hkl hkp hleft
      have hnc := hrow.2.1
      have hcm := hrow.2.2.1
      have k0 : (0 : Int) ≤ (k : Int) := by omega
      have k1 : (k : Int) ≤ (n' : Int) := by omega
      have k2 : (k : Int) ≤ (c' : Int) := by omega
      have k3 : ¬ c' = k := by omega
      have k4 : (n' : Int) ≤ (c' : Int) := by omega
      have HK := Lib.hid hk
      have HPF := Lib.hid hpf
      clear hpf hk h1
      go_wp2_with fail
      refine (hleft _).mono ?_
      rintro e w2 ⟨rfl, rfl⟩
      go_wp2_with fail
      go_quiet (fail)
      have hb3 : Below w.heap.size w (w2.drewN nq) := below_drewN' hb nq
      have hown3 : (w2.drewN nq).ownsRow w.heap.size 9 1 u6 out.length (svs out) := hown
      generalize w2.drewN nq = w3 at *
      have hrow3 := hrow.below hb3
      have hl' := hrow.1
      clear hb hown hleft
      have hle3 := hb3.size
      by_cases hki : k ≤ i'
      · have t3 : decide (k ≤ i') = true := by simp; omega
        obtain ⟨j, hj⟩ : ∃ j, j = i' - k := ⟨_, rfl⟩
        have ej : (i' : Int) - (k : Int) = (j : Int) := by omega
        have hjl : j < n' - k := by omega
        have hpr := proofL_right l' i' (by omega) (by rw [← hl', ← HK.out]; exact hki)
        rw [← hl', ← HK.out, ← hj] at hpr
        have HPR := Lib.hid hpr
        have hroot := root_ok _ _ w3 (hrow3.take k (by omega)).slice (by rw [List.length_take]; omega) (fun x hx => HS.out x (hsub x (List.mem_of_mem_take hx))) (hR.later hb3)
        have HL := Lib.hid hl'
        clear hpr hj hl'
        go_wp2_with fail
        refine hroot.mono ?_
        rintro e w4 ⟨rfl, b4⟩
        have hb4 := Below.next hb3 b4
        have hown4 := ownsRow_below b4 hown3
        have hle4 := hb4.size
        clear hroot
        go_wp2_with (at_builtin; refine wpList_append_own _ rfl _ _ 22 rfl w.heap.size 9 i0 (.string ⟨#[]⟩) 1 16 Tryd.underlying22 hi0 hz0 hz1 hz2 rfl (by decide) u6 _ _ rfl (hown4.alloc _) ⟨w4.heap.size, 0, none⟩ 1 1 [.string (str (rootL (l'.take k)))] rfl rfl (cell_one_new _ _ _) (by simp [Value.oneCell']) (by unfold maxLen; omega) (by omega) (by simp; omega) ?_; intro v5 w5 own5 g5 _)
        have hb5 := Below.appended hb4 hle4 hown4 g5
        go_wp2_with fail
        exact ⟨⟨_, _, _, j, l'.drop k, out ++ [rootL (l'.take k)], rfl, rfl, hrow.drop k (by omega), by omega, hjl, by rw [HPF.out, HPR.out]; simp, fun x hx => hsub x (List.mem_of_mem_drop hx), by rw [List.length_append, List.length_singleton]; omega, by rw [List.length_append, List.length_singleton, svs_snoc]; exact own5, hb5⟩, by simp [lenOf]; omega⟩
      · have t3 : decide (k ≤ i') = false := by simp; omega
        have hpr := proofL_left l' i' (by omega) (by rw [← hl', ← HK.out]; omega)
        rw [← hl', ← HK.out] at hpr
        have HPR := Lib.hid hpr
        have hroot := root_ok _ _ w3 (hrow3.drop k (by omega)).slice (by rw [List.length_drop]; omega) (fun x hx => HS.out x (hsub x (List.mem_of_mem_drop hx))) (hR.later hb3)
        have HL := Lib.hid hl'
        clear hpr hl'
        go_wp2_with fail
        refine hroot.mono ?_
        rintro e w4 ⟨rfl, b4⟩
        have hb4 := Below.next hb3 b4
        have hown4 := ownsRow_below b4 hown3
        have hle4 := hb4.size
        clear hroot
        go_wp2_with (at_builtin; refine wpList_append_own _ rfl _ _ 22 rfl w.heap.size 9 i0 (.string ⟨#[]⟩) 1 16 Tryd.underlying22 hi0 hz0 hz1 hz2 rfl (by decide) u6 _ _ rfl (hown4.alloc _) ⟨w4.heap.size, 0, none⟩ 1 1 [.string (str (rootL (l'.drop k)))] rfl rfl (cell_one_new _ _ _) (by simp [Value.oneCell']) (by unfold maxLen; omega) (by omega) (by simp; omega) ?_; intro v5 w5 own5 g5 _)
        have hb5 := Below.appended hb4 hle4 hown4 g5
        go_wp2_with fail
        exact ⟨⟨_, _, _, i', l'.take k, out ++ [rootL (l'.drop k)], rfl, rfl, hrow.take k (by omega), by omega, by omega, by rw [HPF.out, HPR.out]; simp, fun x hx => hsub x (List.mem_of_mem_take hx), by rw [List.length_append, List.length_singleton]; omega, by rw [List.length_append, List.length_singleton, svs_snoc]; exact own5, hb5⟩, by simp [lenOf]; omega⟩
end Go.Proofs.YtednkommpmdikaaDoor
