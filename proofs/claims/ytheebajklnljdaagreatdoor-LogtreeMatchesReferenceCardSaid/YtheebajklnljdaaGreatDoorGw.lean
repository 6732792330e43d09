/- Joined: R3D R9C. -/
import Derived.Test.YtheebajklnljdaaGreatDoorGj
import Derived.Test.YtheebajklnljdaaGreatDoorGm
import Derived.Test.YtheebajklnljdaaGreatDoorGg
import Derived.Test.YtheebajklnljdaaGreatDoorGc
import Derived.Test.YtheebajklnljdaaGreatDoorGr
import Derived.Deep.RegionHeld3

section
/- The reference's EncodeRecord (written by wip/mk_r3d.py). -/
namespace Go.Proofs.YtheebajklnljdaaGreatDoor
open Go Go.RowKit
attribute [local go_sem] Oper.semAt_some

/-- put of numbers that lie in a block of their own -/
theorem rput_new (l : List Int) (w : World) (B c : Nat) (hB : B = w.heap.size) (hl : l.length ≤ 1000) (hok : ∀ n ∈ l, IntOk n) (W : World) (hW : W = w.alloc (.cells (l.map iv64).toArray 3)) :
    Calls Tryz.prog 69 #[.slice (some ⟨B, 0, none⟩) l.length c] W fun e w' => e = .returned (.string (str (putsL l))) ∧ Below w.heap.size w w' := by
  subst hW hB
  refine (rput_ok w.heap.size 0 c l _ (by rw [World.size_alloc]; omega) hl hok fun j x hj => ?_).mono fun e w' ⟨he, hb⟩ => ⟨he, (Below.alloc (Below.refl _ _) (Nat.le_refl _) _).trans (hb.mono (by rw [World.size_alloc]; omega))⟩
  rw [Nat.zero_add, (BlkIs.new w 3 (l.map iv64).toArray).cell, List.getElem?_map, hj]
  rfl

theorem putsL_append (a b : List Int) : putsL (a ++ b) = putsL a ++ putsL b := by unfold putsL; rw [List.flatMap_append]

set_option maxRecDepth 100000 in
set_option maxHeartbeats 1500000 in
theorem renc_ok (p : Int) (A : Option Addr) (c : Nat) (l : List Chg) (w : World) (hv : ChgsAt w (.slice A l.length c) l) :
    Calls Tryz.prog 43 #[recV p (.slice A l.length c)] w fun e w' => e = .returned (.tuple #[.string (str (encRecE ⟨p, l⟩).1), .int .i64 (encRecE ⟨p, l⟩).2]) ∧ Below w.heap.size w w' := by
  have al0 := Below.alloc (Below.refl w.heap.size w) (Nat.le_refl _) (.cells #[.int .i64 p, .slice A l.length c] 35)
  have K0 := BlkIs.new w 35 #[.int .i64 p, .slice A l.length c]
  have k0 : (w.alloc (.cells #[.int .i64 p, .slice A l.length c] 35)).cell? ⟨w.heap.size, 0, none⟩ = some (.int .i64 p) := K0.cell 0
  have k1 : (w.alloc (.cells #[.int .i64 p, .slice A l.length c] 35)).cell? ⟨w.heap.size, 1, none⟩ = some (.slice A l.length c) := K0.cell 1
  have hval := rrec_ok p A c l (w.alloc (.cells #[.int .i64 p, .slice A l.length c] 35)) (hv.below al0)
  obtain ⟨R, hR⟩ : ∃ R, recB ⟨p, l⟩ = R := ⟨_, rfl⟩
  rw [hR] at hval
  unfold recV at hval ⊢
  have HVAL := Lib.hid hval
  have HV := Lib.hid hv
  have HAL := Lib.hid al0
  have HK0 := Lib.hid K0
  cases R
  · have he : encRecE ⟨p, l⟩ = ([], 30) := by unfold encRecE; rw [hR]; rfl
    rw [he]
    clear hval hv al0 K0 hR he
    go_enter Tryz.func43, Tryz.ntmps43
    go_wp2_with fail
    refine (HVAL.out).mono ?_
    rintro e w1 ⟨rfl, b1⟩
    have hb2 := Below.next HAL.out b1
    go_wp2_with fail
    go_ret2
    exact ⟨rfl, hb2⟩
  have he : encRecE ⟨p, l⟩ = (encRec ⟨p, l⟩, 0) := by unfold encRecE; rw [hR]; rfl
  obtain ⟨p1, p2, l1, l8⟩ := recB_pos hR
  dsimp only at p1 p2 l1 l8
  have hmem := recB_mem hR
  dsimp only at hmem
  have HMEM := Lib.hid hmem
  rw [he]
  clear hval hv al0 K0 hR he hmem
  go_enter Tryz.func43, Tryz.ntmps43
  go_wp2_with fail
  refine (HVAL.out).mono ?_
  rintro e w1 ⟨rfl, b1⟩
  have K1 := HK0.out.later b1
  have hb1 := Below.next HAL.out b1
  have c0 : w1.cell? ⟨w.heap.size, 0, none⟩ = some (.int .i64 p) := K1.cell 0
  have c1 : w1.cell? ⟨w.heap.size, 1, none⟩ = some (.slice A l.length c) := K1.cell 1
  clear b1 k0 k1
  go_wp2_with fail
  refine (rput_new [p, ((l.length : Nat) : Int)] w1 _ 2 rfl (by simp) ?_ _ rfl).mono ?_
  · intro n hn
    simp only [List.mem_cons, List.not_mem_nil, or_false] at hn
    rcases hn with rfl | rfl
    · exact ⟨by omega, by omega⟩
    · exact ⟨by omega, by omega⟩
  rintro e w2 ⟨rfl, b2⟩
  have K2 := K1.later b2
  have hb2 := Below.next hb1 b2
  clear b2 K1 c0 c1 hb1
  rw [← encP_zero]
  go_wp2_with fail
  go_loopw [4, 5] (fun sv iv wr => ∃ k : Nat, k ≤ l.length ∧ iv = .int .i64 k ∧ sv = .string (str (encP p l k)) ∧ BlkIs wr w.heap.size 35 [.int .i64 p, .slice A l.length c] ∧ Below w.heap.size w wr) (fun _ iv _ => l.length - (intOf iv).toNat)
  case atStart => exact ⟨0, by omega, rfl, rfl, K2, hb2⟩
  case round =>
    clear K2 hb2
    obtain ⟨k, hk, rfl, rfl, K, hb⟩ := hrel
    have c1 : wr.cell? ⟨w.heap.size, 1, none⟩ = some (.slice A l.length c) := K.cell 1
    by_cases h1 : k < l.length
    · have t1 : decide (k < l.length) = true := by simpa using h1
      obtain ⟨x, hx⟩ : ∃ x, l[k]? = some x := ⟨_, List.getElem?_eq_getElem h1⟩
      obtain ⟨A', c', e0, hc, hj⟩ := HV.out
      injection e0 with e1 e2 e3
      subst e1 e3
      obtain ⟨g, o, rfl, hg, hj⟩ := hj (by omega)
      have hcell : ∀ (i : Nat) u, (chgCells x)[i]? = some u → wr.cell? ⟨g, o + k * 10 + i, none⟩ = some u := fun i u hu => (hb.cell (p := ⟨g, o + k * 10 + i, none⟩) hg).trans (hj k x hx i u hu)
      have hchg := HMEM.out x (List.mem_of_getElem? hx)
      obtain ⟨hh, v1, v2, v3, v4, v5⟩ := chgB_parts hchg
      have hP := encP_len p l k l8
      have hN := encP_succ p l k x hx
      have hxl := encChg_len x
      obtain ⟨P, hPe⟩ : ∃ P, P = encP p l k := ⟨_, rfl⟩
      rw [← hPe] at hP hN ⊢
      clear hPe hchg hj hx
      obtain ⟨t, ky, had, ⟨o0, o1, o2⟩, has, ⟨n0, n1, n2⟩⟩ := x
      dsimp only at hh v1 v2 v3 v4
      have c0x : wr.cell? ⟨g, o + k * 10, none⟩ = some (.int .i64 t) := hcell 0 _ rfl
      have c1x : wr.cell? ⟨g, o + k * 10 + 1, none⟩ = some (.int .i64 ky) := hcell 1 _ rfl
      have c2x : wr.cell? ⟨g, o + k * 10 + 2, none⟩ = some (.bool had) := hcell 2 _ rfl
      have c3x : wr.cell? ⟨g, o + k * 10 + 3, none⟩ = some (.int .i64 o0) := hcell 3 _ rfl
      have c4x : wr.cell? ⟨g, o + k * 10 + 4, none⟩ = some (.int .i64 o1) := hcell 4 _ rfl
      have c5x : wr.cell? ⟨g, o + k * 10 + 5, none⟩ = some (.int .i64 o2) := hcell 5 _ rfl
      have c6x : wr.cell? ⟨g, o + k * 10 + 6, none⟩ = some (.bool has) := hcell 6 _ rfl
      have c7x : wr.cell? ⟨g, o + k * 10 + 7, none⟩ = some (.int .i64 n0) := hcell 7 _ rfl
      have c8x : wr.cell? ⟨g, o + k * 10 + 8, none⟩ = some (.int .i64 n1) := hcell 8 _ rfl
      have c9x : wr.cell? ⟨g, o + k * 10 + 9, none⟩ = some (.int .i64 n2) := hcell 9 _ rfl
      have q0 : (0 : Int) ≤ (k : Int) := by omega
      have q1 : (k : Int) < (l.length : Int) := by omega
      have al := Below.alloc (Below.refl wr.heap.size wr) (Nat.le_refl _) (.cells #[.int .i64 t, .int .i64 ky, .bool had, .int .i64 o0, .int .i64 o1, .int .i64 o2, .bool has, .int .i64 n0, .int .i64 n1, .int .i64 n2] 72)
      have KX := BlkIs.new wr 72 #[.int .i64 t, .int .i64 ky, .bool had, .int .i64 o0, .int .i64 o1, .int .i64 o2, .bool has, .int .i64 n0, .int .i64 n1, .int .i64 n2]
      have HKX := Lib.hid KX
      have HKR := Lib.hid (K.later al)
      have HBX := Lib.hid (Below.next hb al)
      have HN := Lib.hid hN
      have HV5 := Lib.hid v5
      clear hcell hN v5 K hb al KX
      cases had <;> cases has
      · simp at hh
      · have d0 : (wr.alloc (.cells #[.int .i64 t, .int .i64 ky, .bool false, .int .i64 o0, .int .i64 o1, .int .i64 o2, .bool true, .int .i64 n0, .int .i64 n1, .int .i64 n2] 72)).cell? ⟨wr.heap.size, 0, none⟩ = some (.int .i64 t) := HKX.out.cell 0
        have d1 : (wr.alloc (.cells #[.int .i64 t, .int .i64 ky, .bool false, .int .i64 o0, .int .i64 o1, .int .i64 o2, .bool true, .int .i64 n0, .int .i64 n1, .int .i64 n2] 72)).cell? ⟨wr.heap.size, 1, none⟩ = some (.int .i64 ky) := HKX.out.cell 1
        have d2 : (wr.alloc (.cells #[.int .i64 t, .int .i64 ky, .bool false, .int .i64 o0, .int .i64 o1, .int .i64 o2, .bool true, .int .i64 n0, .int .i64 n1, .int .i64 n2] 72)).cell? ⟨wr.heap.size, 2, none⟩ = some (.bool false) := HKX.out.cell 2
        have d3 : (wr.alloc (.cells #[.int .i64 t, .int .i64 ky, .bool false, .int .i64 o0, .int .i64 o1, .int .i64 o2, .bool true, .int .i64 n0, .int .i64 n1, .int .i64 n2] 72)).cell? ⟨wr.heap.size, 3, none⟩ = some (.int .i64 o0) := HKX.out.cell 3
        have d4 : (wr.alloc (.cells #[.int .i64 t, .int .i64 ky, .bool false, .int .i64 o0, .int .i64 o1, .int .i64 o2, .bool true, .int .i64 n0, .int .i64 n1, .int .i64 n2] 72)).cell? ⟨wr.heap.size, 4, none⟩ = some (.int .i64 o1) := HKX.out.cell 4
        have d5 : (wr.alloc (.cells #[.int .i64 t, .int .i64 ky, .bool false, .int .i64 o0, .int .i64 o1, .int .i64 o2, .bool true, .int .i64 n0, .int .i64 n1, .int .i64 n2] 72)).cell? ⟨wr.heap.size, 5, none⟩ = some (.int .i64 o2) := HKX.out.cell 5
        have d6 : (wr.alloc (.cells #[.int .i64 t, .int .i64 ky, .bool false, .int .i64 o0, .int .i64 o1, .int .i64 o2, .bool true, .int .i64 n0, .int .i64 n1, .int .i64 n2] 72)).cell? ⟨wr.heap.size, 6, none⟩ = some (.bool true) := HKX.out.cell 6
        have d7 : (wr.alloc (.cells #[.int .i64 t, .int .i64 ky, .bool false, .int .i64 o0, .int .i64 o1, .int .i64 o2, .bool true, .int .i64 n0, .int .i64 n1, .int .i64 n2] 72)).cell? ⟨wr.heap.size, 7, none⟩ = some (.int .i64 n0) := HKX.out.cell 7
        have d8 : (wr.alloc (.cells #[.int .i64 t, .int .i64 ky, .bool false, .int .i64 o0, .int .i64 o1, .int .i64 o2, .bool true, .int .i64 n0, .int .i64 n1, .int .i64 n2] 72)).cell? ⟨wr.heap.size, 8, none⟩ = some (.int .i64 n1) := HKX.out.cell 8
        have d9 : (wr.alloc (.cells #[.int .i64 t, .int .i64 ky, .bool false, .int .i64 o0, .int .i64 o1, .int .i64 o2, .bool true, .int .i64 n0, .int .i64 n1, .int .i64 n2] 72)).cell? ⟨wr.heap.size, 9, none⟩ = some (.int .i64 n2) := HKX.out.cell 9
        go_wp2_with fail
        have hs3 : wr.heap.size + 1 = (wr.alloc (.cells #[.int .i64 t, .int .i64 ky, .bool false, .int .i64 o0, .int .i64 o1, .int .i64 o2, .bool true, .int .i64 n0, .int .i64 n1, .int .i64 n2] 72)).heap.size := (World.size_alloc _ _).symm
        generalize (wr.alloc (.cells #[.int .i64 t, .int .i64 ky, .bool false, .int .i64 o0, .int .i64 o1, .int .i64 o2, .bool true, .int .i64 n0, .int .i64 n1, .int .i64 n2] 72)) = w3 at *
        refine (rput_new [t, ky, 2] w3 _ 3 hs3 (by simp) ?_ _ rfl).mono ?_
        · intro n hn
          simp only [List.mem_cons, List.not_mem_nil, or_false] at hn
          rcases hn with rfl | rfl | rfl <;> exact ⟨by omega, by omega⟩
        rintro e w4 ⟨rfl, b4⟩
        have KX4 := HKX.out.later b4
        have KR4 := HKR.out.later b4
        have hb4 := Below.next HBX.out b4
        clear b4
        clear d0 d1 d2 d3 d4 d5 d6 d7 d8 d9
        have d0 : w4.cell? ⟨wr.heap.size, 0, none⟩ = some (.int .i64 t) := KX4.cell 0
        have d1 : w4.cell? ⟨wr.heap.size, 1, none⟩ = some (.int .i64 ky) := KX4.cell 1
        have d2 : w4.cell? ⟨wr.heap.size, 2, none⟩ = some (.bool false) := KX4.cell 2
        have d3 : w4.cell? ⟨wr.heap.size, 3, none⟩ = some (.int .i64 o0) := KX4.cell 3
        have d4 : w4.cell? ⟨wr.heap.size, 4, none⟩ = some (.int .i64 o1) := KX4.cell 4
        have d5 : w4.cell? ⟨wr.heap.size, 5, none⟩ = some (.int .i64 o2) := KX4.cell 5
        have d6 : w4.cell? ⟨wr.heap.size, 6, none⟩ = some (.bool true) := KX4.cell 6
        have d7 : w4.cell? ⟨wr.heap.size, 7, none⟩ = some (.int .i64 n0) := KX4.cell 7
        have d8 : w4.cell? ⟨wr.heap.size, 8, none⟩ = some (.int .i64 n1) := KX4.cell 8
        have d9 : w4.cell? ⟨wr.heap.size, 9, none⟩ = some (.int .i64 n2) := KX4.cell 9
        obtain ⟨B, hB⟩ : ∃ B, B = P ++ putsL [t, ky, 2] := ⟨_, rfl⟩
        have hBl : B.length ≤ 1100 := by
          rw [hB, List.length_append]
          have := putsL_len [t, ky, 2]
          simp only [List.length_cons, List.length_nil] at this
          omega
        have hcat : str P ++ str (putsL [t, ky, 2]) = str B := by rw [cat_str, hB]
        have hl3 : (putsL [t, ky, 2]).length ≤ 27 := by
          have := putsL_len [t, ky, 2]
          simpa using this
        have s1 : ¬ 9223372036854775807 < P.length + (putsL [t, ky, 2]).length := by omega
        have HCAT := Lib.hid hcat
        have HB := Lib.hid hB
        have HKX4 := Lib.hid KX4
        have HKR4 := Lib.hid KR4
        have HB4 := Lib.hid hb4
        clear hcat hB KX4 KR4 hb4
        go_wp2_with fail
        rw [HCAT.out]
        refine (rput_new [n0, n1, n2] w4 _ 3 rfl (by simp) ?_ _ rfl).mono ?_
        · intro n hn
          have := HV5.out n (by simp [valsC, tri]; simp only [List.mem_cons, List.not_mem_nil, or_false] at hn; rcases hn with rfl | rfl | rfl <;> simp)
          exact ⟨by omega, by omega⟩
        rintro e w5 ⟨rfl, b5⟩
        have KX5 := HKX4.out.later b5
        have KR5 := HKR4.out.later b5
        have hb5 := Below.next HB4.out b5
        clear b5
        clear d0 d1 d2 d3 d4 d5 d6 d7 d8 d9
        have d0 : w5.cell? ⟨wr.heap.size, 0, none⟩ = some (.int .i64 t) := KX5.cell 0
        have d1 : w5.cell? ⟨wr.heap.size, 1, none⟩ = some (.int .i64 ky) := KX5.cell 1
        have d2 : w5.cell? ⟨wr.heap.size, 2, none⟩ = some (.bool false) := KX5.cell 2
        have d3 : w5.cell? ⟨wr.heap.size, 3, none⟩ = some (.int .i64 o0) := KX5.cell 3
        have d4 : w5.cell? ⟨wr.heap.size, 4, none⟩ = some (.int .i64 o1) := KX5.cell 4
        have d5 : w5.cell? ⟨wr.heap.size, 5, none⟩ = some (.int .i64 o2) := KX5.cell 5
        have d6 : w5.cell? ⟨wr.heap.size, 6, none⟩ = some (.bool true) := KX5.cell 6
        have d7 : w5.cell? ⟨wr.heap.size, 7, none⟩ = some (.int .i64 n0) := KX5.cell 7
        have d8 : w5.cell? ⟨wr.heap.size, 8, none⟩ = some (.int .i64 n1) := KX5.cell 8
        have d9 : w5.cell? ⟨wr.heap.size, 9, none⟩ = some (.int .i64 n2) := KX5.cell 9
        obtain ⟨B5, hB5⟩ : ∃ Y, Y = B ++ putsL [n0, n1, n2] := ⟨_, rfl⟩
        have hl5 : (putsL [n0, n1, n2]).length ≤ 27 := by
          have := putsL_len [n0, n1, n2]
          simpa using this
        have hBl5 : B5.length ≤ 1130 := by
          rw [hB5, List.length_append]
          omega
        have hcat5 : str B ++ str (putsL [n0, n1, n2]) = str B5 := by rw [cat_str, hB5]
        have s5 : ¬ 9223372036854775807 < B.length + (putsL [n0, n1, n2]).length := by omega
        have HCAT5 := Lib.hid hcat5
        have HB5 := Lib.hid hB5
        have HKX5 := Lib.hid KX5
        have HKR5 := Lib.hid KR5
        have HB5' := Lib.hid hb5
        clear hcat5 hB5 KX5 KR5 hb5
        go_wp2_with fail
        have hfin : encP p l (k + 1) = B5 := by
          rw [HN.out, HB5.out, HB.out]
          simp [encChg, flagsC, valsC, tri, putsL]
        exact ⟨⟨k + 1, by omega, by go_num, by rw [hfin, ← HCAT5.out], HKR5.out, HB5'.out⟩, by simp [intOf]; omega⟩
      · have d0 : (wr.alloc (.cells #[.int .i64 t, .int .i64 ky, .bool true, .int .i64 o0, .int .i64 o1, .int .i64 o2, .bool false, .int .i64 n0, .int .i64 n1, .int .i64 n2] 72)).cell? ⟨wr.heap.size, 0, none⟩ = some (.int .i64 t) := HKX.out.cell 0
        have d1 : (wr.alloc (.cells #[.int .i64 t, .int .i64 ky, .bool true, .int .i64 o0, .int .i64 o1, .int .i64 o2, .bool false, .int .i64 n0, .int .i64 n1, .int .i64 n2] 72)).cell? ⟨wr.heap.size, 1, none⟩ = some (.int .i64 ky) := HKX.out.cell 1
        have d2 : (wr.alloc (.cells #[.int .i64 t, .int .i64 ky, .bool true, .int .i64 o0, .int .i64 o1, .int .i64 o2, .bool false, .int .i64 n0, .int .i64 n1, .int .i64 n2] 72)).cell? ⟨wr.heap.size, 2, none⟩ = some (.bool true) := HKX.out.cell 2
        have d3 : (wr.alloc (.cells #[.int .i64 t, .int .i64 ky, .bool true, .int .i64 o0, .int .i64 o1, .int .i64 o2, .bool false, .int .i64 n0, .int .i64 n1, .int .i64 n2] 72)).cell? ⟨wr.heap.size, 3, none⟩ = some (.int .i64 o0) := HKX.out.cell 3
        have d4 : (wr.alloc (.cells #[.int .i64 t, .int .i64 ky, .bool true, .int .i64 o0, .int .i64 o1, .int .i64 o2, .bool false, .int .i64 n0, .int .i64 n1, .int .i64 n2] 72)).cell? ⟨wr.heap.size, 4, none⟩ = some (.int .i64 o1) := HKX.out.cell 4
        have d5 : (wr.alloc (.cells #[.int .i64 t, .int .i64 ky, .bool true, .int .i64 o0, .int .i64 o1, .int .i64 o2, .bool false, .int .i64 n0, .int .i64 n1, .int .i64 n2] 72)).cell? ⟨wr.heap.size, 5, none⟩ = some (.int .i64 o2) := HKX.out.cell 5
        have d6 : (wr.alloc (.cells #[.int .i64 t, .int .i64 ky, .bool true, .int .i64 o0, .int .i64 o1, .int .i64 o2, .bool false, .int .i64 n0, .int .i64 n1, .int .i64 n2] 72)).cell? ⟨wr.heap.size, 6, none⟩ = some (.bool false) := HKX.out.cell 6
        have d7 : (wr.alloc (.cells #[.int .i64 t, .int .i64 ky, .bool true, .int .i64 o0, .int .i64 o1, .int .i64 o2, .bool false, .int .i64 n0, .int .i64 n1, .int .i64 n2] 72)).cell? ⟨wr.heap.size, 7, none⟩ = some (.int .i64 n0) := HKX.out.cell 7
        have d8 : (wr.alloc (.cells #[.int .i64 t, .int .i64 ky, .bool true, .int .i64 o0, .int .i64 o1, .int .i64 o2, .bool false, .int .i64 n0, .int .i64 n1, .int .i64 n2] 72)).cell? ⟨wr.heap.size, 8, none⟩ = some (.int .i64 n1) := HKX.out.cell 8
        have d9 : (wr.alloc (.cells #[.int .i64 t, .int .i64 ky, .bool true, .int .i64 o0, .int .i64 o1, .int .i64 o2, .bool false, .int .i64 n0, .int .i64 n1, .int .i64 n2] 72)).cell? ⟨wr.heap.size, 9, none⟩ = some (.int .i64 n2) := HKX.out.cell 9
        go_wp2_with fail
        have hs3 : wr.heap.size + 1 = (wr.alloc (.cells #[.int .i64 t, .int .i64 ky, .bool true, .int .i64 o0, .int .i64 o1, .int .i64 o2, .bool false, .int .i64 n0, .int .i64 n1, .int .i64 n2] 72)).heap.size := (World.size_alloc _ _).symm
        generalize (wr.alloc (.cells #[.int .i64 t, .int .i64 ky, .bool true, .int .i64 o0, .int .i64 o1, .int .i64 o2, .bool false, .int .i64 n0, .int .i64 n1, .int .i64 n2] 72)) = w3 at *
        refine (rput_new [t, ky, 1] w3 _ 3 hs3 (by simp) ?_ _ rfl).mono ?_
        · intro n hn
          simp only [List.mem_cons, List.not_mem_nil, or_false] at hn
          rcases hn with rfl | rfl | rfl <;> exact ⟨by omega, by omega⟩
        rintro e w4 ⟨rfl, b4⟩
        have KX4 := HKX.out.later b4
        have KR4 := HKR.out.later b4
        have hb4 := Below.next HBX.out b4
        clear b4
        clear d0 d1 d2 d3 d4 d5 d6 d7 d8 d9
        have d0 : w4.cell? ⟨wr.heap.size, 0, none⟩ = some (.int .i64 t) := KX4.cell 0
        have d1 : w4.cell? ⟨wr.heap.size, 1, none⟩ = some (.int .i64 ky) := KX4.cell 1
        have d2 : w4.cell? ⟨wr.heap.size, 2, none⟩ = some (.bool true) := KX4.cell 2
        have d3 : w4.cell? ⟨wr.heap.size, 3, none⟩ = some (.int .i64 o0) := KX4.cell 3
        have d4 : w4.cell? ⟨wr.heap.size, 4, none⟩ = some (.int .i64 o1) := KX4.cell 4
        have d5 : w4.cell? ⟨wr.heap.size, 5, none⟩ = some (.int .i64 o2) := KX4.cell 5
        have d6 : w4.cell? ⟨wr.heap.size, 6, none⟩ = some (.bool false) := KX4.cell 6
        have d7 : w4.cell? ⟨wr.heap.size, 7, none⟩ = some (.int .i64 n0) := KX4.cell 7
        have d8 : w4.cell? ⟨wr.heap.size, 8, none⟩ = some (.int .i64 n1) := KX4.cell 8
        have d9 : w4.cell? ⟨wr.heap.size, 9, none⟩ = some (.int .i64 n2) := KX4.cell 9
        obtain ⟨B, hB⟩ : ∃ B, B = P ++ putsL [t, ky, 1] := ⟨_, rfl⟩
        have hBl : B.length ≤ 1100 := by
          rw [hB, List.length_append]
          have := putsL_len [t, ky, 1]
          simp only [List.length_cons, List.length_nil] at this
          omega
        have hcat : str P ++ str (putsL [t, ky, 1]) = str B := by rw [cat_str, hB]
        have hl3 : (putsL [t, ky, 1]).length ≤ 27 := by
          have := putsL_len [t, ky, 1]
          simpa using this
        have s1 : ¬ 9223372036854775807 < P.length + (putsL [t, ky, 1]).length := by omega
        have HCAT := Lib.hid hcat
        have HB := Lib.hid hB
        have HKX4 := Lib.hid KX4
        have HKR4 := Lib.hid KR4
        have HB4 := Lib.hid hb4
        clear hcat hB KX4 KR4 hb4
        go_wp2_with fail
        rw [HCAT.out]
        refine (rput_new [o0, o1, o2] w4 _ 3 rfl (by simp) ?_ _ rfl).mono ?_
        · intro n hn
          have := HV5.out n (by simp [valsC, tri]; simp only [List.mem_cons, List.not_mem_nil, or_false] at hn; rcases hn with rfl | rfl | rfl <;> simp)
          exact ⟨by omega, by omega⟩
        rintro e w5 ⟨rfl, b5⟩
        have KX5 := HKX4.out.later b5
        have KR5 := HKR4.out.later b5
        have hb5 := Below.next HB4.out b5
        clear b5
        clear d0 d1 d2 d3 d4 d5 d6 d7 d8 d9
        have d0 : w5.cell? ⟨wr.heap.size, 0, none⟩ = some (.int .i64 t) := KX5.cell 0
        have d1 : w5.cell? ⟨wr.heap.size, 1, none⟩ = some (.int .i64 ky) := KX5.cell 1
        have d2 : w5.cell? ⟨wr.heap.size, 2, none⟩ = some (.bool true) := KX5.cell 2
        have d3 : w5.cell? ⟨wr.heap.size, 3, none⟩ = some (.int .i64 o0) := KX5.cell 3
        have d4 : w5.cell? ⟨wr.heap.size, 4, none⟩ = some (.int .i64 o1) := KX5.cell 4
        have d5 : w5.cell? ⟨wr.heap.size, 5, none⟩ = some (.int .i64 o2) := KX5.cell 5
        have d6 : w5.cell? ⟨wr.heap.size, 6, none⟩ = some (.bool false) := KX5.cell 6
        have d7 : w5.cell? ⟨wr.heap.size, 7, none⟩ = some (.int .i64 n0) := KX5.cell 7
        have d8 : w5.cell? ⟨wr.heap.size, 8, none⟩ = some (.int .i64 n1) := KX5.cell 8
        have d9 : w5.cell? ⟨wr.heap.size, 9, none⟩ = some (.int .i64 n2) := KX5.cell 9
        obtain ⟨B5, hB5⟩ : ∃ Y, Y = B ++ putsL [o0, o1, o2] := ⟨_, rfl⟩
        have hl5 : (putsL [o0, o1, o2]).length ≤ 27 := by
          have := putsL_len [o0, o1, o2]
          simpa using this
        have hBl5 : B5.length ≤ 1130 := by
          rw [hB5, List.length_append]
          omega
        have hcat5 : str B ++ str (putsL [o0, o1, o2]) = str B5 := by rw [cat_str, hB5]
        have s5 : ¬ 9223372036854775807 < B.length + (putsL [o0, o1, o2]).length := by omega
        have HCAT5 := Lib.hid hcat5
        have HB5 := Lib.hid hB5
        have HKX5 := Lib.hid KX5
        have HKR5 := Lib.hid KR5
        have HB5' := Lib.hid hb5
        clear hcat5 hB5 KX5 KR5 hb5
        go_wp2_with fail
        have hfin : encP p l (k + 1) = B5 := by
          rw [HN.out, HB5.out, HB.out]
          simp [encChg, flagsC, valsC, tri, putsL]
        exact ⟨⟨k + 1, by omega, by go_num, by rw [hfin, ← HCAT5.out], HKR5.out, HB5'.out⟩, by simp [intOf]; omega⟩
      · have d0 : (wr.alloc (.cells #[.int .i64 t, .int .i64 ky, .bool true, .int .i64 o0, .int .i64 o1, .int .i64 o2, .bool true, .int .i64 n0, .int .i64 n1, .int .i64 n2] 72)).cell? ⟨wr.heap.size, 0, none⟩ = some (.int .i64 t) := HKX.out.cell 0
        have d1 : (wr.alloc (.cells #[.int .i64 t, .int .i64 ky, .bool true, .int .i64 o0, .int .i64 o1, .int .i64 o2, .bool true, .int .i64 n0, .int .i64 n1, .int .i64 n2] 72)).cell? ⟨wr.heap.size, 1, none⟩ = some (.int .i64 ky) := HKX.out.cell 1
        have d2 : (wr.alloc (.cells #[.int .i64 t, .int .i64 ky, .bool true, .int .i64 o0, .int .i64 o1, .int .i64 o2, .bool true, .int .i64 n0, .int .i64 n1, .int .i64 n2] 72)).cell? ⟨wr.heap.size, 2, none⟩ = some (.bool true) := HKX.out.cell 2
        have d3 : (wr.alloc (.cells #[.int .i64 t, .int .i64 ky, .bool true, .int .i64 o0, .int .i64 o1, .int .i64 o2, .bool true, .int .i64 n0, .int .i64 n1, .int .i64 n2] 72)).cell? ⟨wr.heap.size, 3, none⟩ = some (.int .i64 o0) := HKX.out.cell 3
        have d4 : (wr.alloc (.cells #[.int .i64 t, .int .i64 ky, .bool true, .int .i64 o0, .int .i64 o1, .int .i64 o2, .bool true, .int .i64 n0, .int .i64 n1, .int .i64 n2] 72)).cell? ⟨wr.heap.size, 4, none⟩ = some (.int .i64 o1) := HKX.out.cell 4
        have d5 : (wr.alloc (.cells #[.int .i64 t, .int .i64 ky, .bool true, .int .i64 o0, .int .i64 o1, .int .i64 o2, .bool true, .int .i64 n0, .int .i64 n1, .int .i64 n2] 72)).cell? ⟨wr.heap.size, 5, none⟩ = some (.int .i64 o2) := HKX.out.cell 5
        have d6 : (wr.alloc (.cells #[.int .i64 t, .int .i64 ky, .bool true, .int .i64 o0, .int .i64 o1, .int .i64 o2, .bool true, .int .i64 n0, .int .i64 n1, .int .i64 n2] 72)).cell? ⟨wr.heap.size, 6, none⟩ = some (.bool true) := HKX.out.cell 6
        have d7 : (wr.alloc (.cells #[.int .i64 t, .int .i64 ky, .bool true, .int .i64 o0, .int .i64 o1, .int .i64 o2, .bool true, .int .i64 n0, .int .i64 n1, .int .i64 n2] 72)).cell? ⟨wr.heap.size, 7, none⟩ = some (.int .i64 n0) := HKX.out.cell 7
        have d8 : (wr.alloc (.cells #[.int .i64 t, .int .i64 ky, .bool true, .int .i64 o0, .int .i64 o1, .int .i64 o2, .bool true, .int .i64 n0, .int .i64 n1, .int .i64 n2] 72)).cell? ⟨wr.heap.size, 8, none⟩ = some (.int .i64 n1) := HKX.out.cell 8
        have d9 : (wr.alloc (.cells #[.int .i64 t, .int .i64 ky, .bool true, .int .i64 o0, .int .i64 o1, .int .i64 o2, .bool true, .int .i64 n0, .int .i64 n1, .int .i64 n2] 72)).cell? ⟨wr.heap.size, 9, none⟩ = some (.int .i64 n2) := HKX.out.cell 9
        go_wp2_with fail
        have hs3 : wr.heap.size + 1 = (wr.alloc (.cells #[.int .i64 t, .int .i64 ky, .bool true, .int .i64 o0, .int .i64 o1, .int .i64 o2, .bool true, .int .i64 n0, .int .i64 n1, .int .i64 n2] 72)).heap.size := (World.size_alloc _ _).symm
        generalize (wr.alloc (.cells #[.int .i64 t, .int .i64 ky, .bool true, .int .i64 o0, .int .i64 o1, .int .i64 o2, .bool true, .int .i64 n0, .int .i64 n1, .int .i64 n2] 72)) = w3 at *
        refine (rput_new [t, ky, 3] w3 _ 3 hs3 (by simp) ?_ _ rfl).mono ?_
        · intro n hn
          simp only [List.mem_cons, List.not_mem_nil, or_false] at hn
          rcases hn with rfl | rfl | rfl <;> exact ⟨by omega, by omega⟩
        rintro e w4 ⟨rfl, b4⟩
        have KX4 := HKX.out.later b4
        have KR4 := HKR.out.later b4
        have hb4 := Below.next HBX.out b4
        clear b4
        clear d0 d1 d2 d3 d4 d5 d6 d7 d8 d9
        have d0 : w4.cell? ⟨wr.heap.size, 0, none⟩ = some (.int .i64 t) := KX4.cell 0
        have d1 : w4.cell? ⟨wr.heap.size, 1, none⟩ = some (.int .i64 ky) := KX4.cell 1
        have d2 : w4.cell? ⟨wr.heap.size, 2, none⟩ = some (.bool true) := KX4.cell 2
        have d3 : w4.cell? ⟨wr.heap.size, 3, none⟩ = some (.int .i64 o0) := KX4.cell 3
        have d4 : w4.cell? ⟨wr.heap.size, 4, none⟩ = some (.int .i64 o1) := KX4.cell 4
        have d5 : w4.cell? ⟨wr.heap.size, 5, none⟩ = some (.int .i64 o2) := KX4.cell 5
        have d6 : w4.cell? ⟨wr.heap.size, 6, none⟩ = some (.bool true) := KX4.cell 6
        have d7 : w4.cell? ⟨wr.heap.size, 7, none⟩ = some (.int .i64 n0) := KX4.cell 7
        have d8 : w4.cell? ⟨wr.heap.size, 8, none⟩ = some (.int .i64 n1) := KX4.cell 8
        have d9 : w4.cell? ⟨wr.heap.size, 9, none⟩ = some (.int .i64 n2) := KX4.cell 9
        obtain ⟨B, hB⟩ : ∃ B, B = P ++ putsL [t, ky, 3] := ⟨_, rfl⟩
        have hBl : B.length ≤ 1100 := by
          rw [hB, List.length_append]
          have := putsL_len [t, ky, 3]
          simp only [List.length_cons, List.length_nil] at this
          omega
        have hcat : str P ++ str (putsL [t, ky, 3]) = str B := by rw [cat_str, hB]
        have hl3 : (putsL [t, ky, 3]).length ≤ 27 := by
          have := putsL_len [t, ky, 3]
          simpa using this
        have s1 : ¬ 9223372036854775807 < P.length + (putsL [t, ky, 3]).length := by omega
        have HCAT := Lib.hid hcat
        have HB := Lib.hid hB
        have HKX4 := Lib.hid KX4
        have HKR4 := Lib.hid KR4
        have HB4 := Lib.hid hb4
        clear hcat hB KX4 KR4 hb4
        go_wp2_with fail
        rw [HCAT.out]
        refine (rput_new [o0, o1, o2] w4 _ 3 rfl (by simp) ?_ _ rfl).mono ?_
        · intro n hn
          have := HV5.out n (by simp [valsC, tri]; simp only [List.mem_cons, List.not_mem_nil, or_false] at hn; rcases hn with rfl | rfl | rfl <;> simp)
          exact ⟨by omega, by omega⟩
        rintro e w5 ⟨rfl, b5⟩
        have KX5 := HKX4.out.later b5
        have KR5 := HKR4.out.later b5
        have hb5 := Below.next HB4.out b5
        clear b5
        clear d0 d1 d2 d3 d4 d5 d6 d7 d8 d9
        have d0 : w5.cell? ⟨wr.heap.size, 0, none⟩ = some (.int .i64 t) := KX5.cell 0
        have d1 : w5.cell? ⟨wr.heap.size, 1, none⟩ = some (.int .i64 ky) := KX5.cell 1
        have d2 : w5.cell? ⟨wr.heap.size, 2, none⟩ = some (.bool true) := KX5.cell 2
        have d3 : w5.cell? ⟨wr.heap.size, 3, none⟩ = some (.int .i64 o0) := KX5.cell 3
        have d4 : w5.cell? ⟨wr.heap.size, 4, none⟩ = some (.int .i64 o1) := KX5.cell 4
        have d5 : w5.cell? ⟨wr.heap.size, 5, none⟩ = some (.int .i64 o2) := KX5.cell 5
        have d6 : w5.cell? ⟨wr.heap.size, 6, none⟩ = some (.bool true) := KX5.cell 6
        have d7 : w5.cell? ⟨wr.heap.size, 7, none⟩ = some (.int .i64 n0) := KX5.cell 7
        have d8 : w5.cell? ⟨wr.heap.size, 8, none⟩ = some (.int .i64 n1) := KX5.cell 8
        have d9 : w5.cell? ⟨wr.heap.size, 9, none⟩ = some (.int .i64 n2) := KX5.cell 9
        obtain ⟨B5, hB5⟩ : ∃ Y, Y = B ++ putsL [o0, o1, o2] := ⟨_, rfl⟩
        have hl5 : (putsL [o0, o1, o2]).length ≤ 27 := by
          have := putsL_len [o0, o1, o2]
          simpa using this
        have hBl5 : B5.length ≤ 1130 := by
          rw [hB5, List.length_append]
          omega
        have hcat5 : str B ++ str (putsL [o0, o1, o2]) = str B5 := by rw [cat_str, hB5]
        have s5 : ¬ 9223372036854775807 < B.length + (putsL [o0, o1, o2]).length := by omega
        have HCAT5 := Lib.hid hcat5
        have HB5 := Lib.hid hB5
        have HKX5 := Lib.hid KX5
        have HKR5 := Lib.hid KR5
        have HB5' := Lib.hid hb5
        clear hcat5 hB5 KX5 KR5 hb5
        go_wp2_with fail
        rw [HCAT5.out]
        refine (rput_new [n0, n1, n2] w5 _ 3 rfl (by simp) ?_ _ rfl).mono ?_
        · intro n hn
          have := HV5.out n (by simp [valsC, tri]; simp only [List.mem_cons, List.not_mem_nil, or_false] at hn; rcases hn with rfl | rfl | rfl <;> simp)
          exact ⟨by omega, by omega⟩
        rintro e w6 ⟨rfl, b6⟩
        have KX6 := HKX5.out.later b6
        have KR6 := HKR5.out.later b6
        have hb6 := Below.next HB5'.out b6
        clear b6
        clear d0 d1 d2 d3 d4 d5 d6 d7 d8 d9
        have d0 : w6.cell? ⟨wr.heap.size, 0, none⟩ = some (.int .i64 t) := KX6.cell 0
        have d1 : w6.cell? ⟨wr.heap.size, 1, none⟩ = some (.int .i64 ky) := KX6.cell 1
        have d2 : w6.cell? ⟨wr.heap.size, 2, none⟩ = some (.bool true) := KX6.cell 2
        have d3 : w6.cell? ⟨wr.heap.size, 3, none⟩ = some (.int .i64 o0) := KX6.cell 3
        have d4 : w6.cell? ⟨wr.heap.size, 4, none⟩ = some (.int .i64 o1) := KX6.cell 4
        have d5 : w6.cell? ⟨wr.heap.size, 5, none⟩ = some (.int .i64 o2) := KX6.cell 5
        have d6 : w6.cell? ⟨wr.heap.size, 6, none⟩ = some (.bool true) := KX6.cell 6
        have d7 : w6.cell? ⟨wr.heap.size, 7, none⟩ = some (.int .i64 n0) := KX6.cell 7
        have d8 : w6.cell? ⟨wr.heap.size, 8, none⟩ = some (.int .i64 n1) := KX6.cell 8
        have d9 : w6.cell? ⟨wr.heap.size, 9, none⟩ = some (.int .i64 n2) := KX6.cell 9
        obtain ⟨B6, hB6⟩ : ∃ Y, Y = B5 ++ putsL [n0, n1, n2] := ⟨_, rfl⟩
        have hl6 : (putsL [n0, n1, n2]).length ≤ 27 := by
          have := putsL_len [n0, n1, n2]
          simpa using this
        have hBl6 : B6.length ≤ 1160 := by
          rw [hB6, List.length_append]
          omega
        have hcat6 : str B5 ++ str (putsL [n0, n1, n2]) = str B6 := by rw [cat_str, hB6]
        have s6 : ¬ 9223372036854775807 < B5.length + (putsL [n0, n1, n2]).length := by omega
        have HCAT6 := Lib.hid hcat6
        have HB6 := Lib.hid hB6
        have HKX6 := Lib.hid KX6
        have HKR6 := Lib.hid KR6
        have HB6' := Lib.hid hb6
        clear hcat6 hB6 KX6 KR6 hb6
        go_wp2_with fail
        have hfin : encP p l (k + 1) = B6 := by
          rw [HN.out, HB6.out, HB5.out, HB.out]
          simp [encChg, flagsC, valsC, tri, putsL]
        exact ⟨⟨k + 1, by omega, by go_num, by rw [hfin, ← HCAT6.out], HKR6.out, HB6'.out⟩, by simp [intOf]; omega⟩
    · have t1 : decide (k < l.length) = false := by simpa using h1
      have ht : encP p l k = encRec ⟨p, l⟩ := encP_all p l k (by omega)
      rw [ht]
      clear ht K
      go_wp2_with fail
      go_ret2
      exact ⟨rfl, hb⟩
end Go.Proofs.YtheebajklnljdaaGreatDoor
end

section
/- The reference's Next (written by wip/mk_r9c.py). -/
namespace Go.Proofs.YtheebajklnljdaaGreatDoor
open Go Go.RowKit
attribute [local go_sem] Oper.semAt_some

theorem chainR_str (s t : List UInt8) (w : World) (hs : s.length + t.length ≤ 900000) :
    Calls Tryz.prog 60 #[.string (str s), .string (str t)] w fun e w' => e = .returned (.string (str (chainL s t))) ∧ Below w.heap.size w w' := by
  have h := chainR_ok (str s) (str t) w (by rw [size_mk, size_mk]; exact hs)
  rw [mk_toList, mk_toList] at h
  exact h

set_option maxRecDepth 100000 in
set_option maxHeartbeats 8000000 in
theorem r9next_ok (h : Hd) (p : Int) (A : Option Addr) (c : Nat) (l : List Chg) (st : List UInt8) (w : World) (hv : ChgsAt w (.slice A l.length c) l) :
    Calls Tryz.prog 29 #[hdV h, recV p (.slice A l.length c), .string (str st)] w fun e w' => e = .returned (.tuple #[hdV (nextA h ⟨p, l⟩ st).1, .int .i64 (nextA h ⟨p, l⟩ st).2]) ∧ Below w.heap.size w w' := by
  obtain ⟨hp, hc, hs⟩ := h
  obtain ⟨W0, hW0⟩ : ∃ W, W = (((w.alloc (.cells #[.int .i64 hp, .string (str hc), .string (str hs)] 46)).alloc (.cells #[.int .i64 p, .slice A l.length c] 35)).alloc (.cells #[.int .i64 0, .string ⟨#[]⟩, .string ⟨#[]⟩] 46)) := ⟨_, rfl⟩
  have hb0 : Below w.heap.size w W0 := by
    rw [hW0]
    exact Below.alloc (Below.alloc (Below.alloc (Below.refl w.heap.size w) (Nat.le_refl _) _) (by rw [World.size_alloc]; omega) _) (by rw [World.size_alloc, World.size_alloc]; omega) _
  have k0 : BlkIs W0 w.heap.size 46 [.int .i64 hp, .string (str hc), .string (str hs)] := by
    rw [hW0]; exact ((BlkIs.new w _ _).alloc _).alloc _
  have k1 : BlkIs W0 (w.heap.size + 1) 35 [.int .i64 p, .slice A l.length c] := by
    rw [hW0]; exact BlkIs.alloc (alloc_new_at _ _ _ (by rw [World.size_alloc])) _
  have k2 : BlkIs W0 (w.heap.size + 2) 46 [.int .i64 0, .string ⟨#[]⟩, .string ⟨#[]⟩] := by
    rw [hW0]; exact alloc_new_at _ _ _ (by rw [World.size_alloc, World.size_alloc])
  have hrec := fun W (hW : Below W0.heap.size W0 W) => rrec_ok p A c l W (hv.below (Below.next hb0 hW))
  have henc := fun W (hW : Below W0.heap.size W0 W) => renc_ok p A c l W (hv.below (Below.next hb0 hW))
  have KEEP : ∀ W : World, Below W0.heap.size W0 W → BlkIs W w.heap.size 46 [.int .i64 hp, .string (str hc), .string (str hs)] ∧ BlkIs W (w.heap.size + 1) 35 [.int .i64 p, .slice A l.length c] ∧ BlkIs W (w.heap.size + 2) 46 [.int .i64 0, .string ⟨#[]⟩, .string ⟨#[]⟩] ∧ Below w.heap.size w W := fun W hW =>
    ⟨k0.later hW, k1.later hW, k2.later hW, Below.next hb0 hW⟩
  have hval := fun W => r9valid_ok ⟨hp, hc, hs⟩ W
  have HVAL := Lib.hid hval
  have HREC := Lib.hid hrec
  have HENC := Lib.hid henc
  have HK := Lib.hid KEEP
  have HW0 := Lib.hid hW0
  clear hval hrec henc KEEP k0 k1 k2 hb0 hv
  unfold hdV at HVAL ⊢
  unfold recV at HREC HENC ⊢
  dsimp only at HVAL ⊢
  by_cases B2 : hdB ⟨hp, hc, hs⟩ = true
  case neg =>
    rw [Bool.not_eq_true] at B2
    have hn : nextA ⟨hp, hc, hs⟩ ⟨p, l⟩ st = (hd0, 90) := by
      unfold nextA; rw [B2, Bool.and_false]; rfl
    rw [B2] at HVAL
    rw [hn]
    clear B2 hn
    go_enter Tryz.func29, Tryz.ntmps29
    have a00 : W0.cell? ⟨w.heap.size, 0, none⟩ = some (.int .i64 hp) := (HK.out W0 (Below.refl _ _)).1.cell 0
    have a01 : W0.cell? ⟨w.heap.size, 1, none⟩ = some (.string (str hc)) := (HK.out W0 (Below.refl _ _)).1.cell 1
    have a02 : W0.cell? ⟨w.heap.size, 2, none⟩ = some (.string (str hs)) := (HK.out W0 (Below.refl _ _)).1.cell 2
    rw [HW0.out] at a00 a01 a02
    go_wp2_with fail
    clear a00 a01 a02
    rw [← HW0.out]
    refine (HVAL.out _).mono ?_
    rintro e w1 ⟨rfl, b1⟩
    obtain ⟨q0, q1, q2, hb1⟩ := HK.out w1 b1
    have a0 : w1.cell? ⟨w.heap.size, 0, none⟩ = some (.int .i64 hp) := q0.cell 0
    have a1 : w1.cell? ⟨w.heap.size, 1, none⟩ = some (.string (str hc)) := q0.cell 1
    have a2 : w1.cell? ⟨w.heap.size, 2, none⟩ = some (.string (str hs)) := q0.cell 2
    have r0 : w1.cell? ⟨w.heap.size + 1, 0, none⟩ = some (.int .i64 p) := q1.cell 0
    have r1 : w1.cell? ⟨w.heap.size + 1, 1, none⟩ = some (.slice A l.length c) := q1.cell 1
    have z0 : w1.cell? ⟨w.heap.size + 2, 0, none⟩ = some (.int .i64 0) := q2.cell 0
    have z1 : w1.cell? ⟨w.heap.size + 2, 1, none⟩ = some (.string ⟨#[]⟩) := q2.cell 1
    have z2 : w1.cell? ⟨w.heap.size + 2, 2, none⟩ = some (.string ⟨#[]⟩) := q2.cell 2
    have f0 := q2.frozen 0
    have f1 := q2.frozen 1
    have f2 := q2.frozen 2
    have hz3 := ((q2.set 0 (.int .i64 0)).set 1 (.string ⟨#[]⟩)).set 2 (.string ⟨#[]⟩)
    have hbF := ((hb1.setCell (p := ⟨w.heap.size + 2, 0, none⟩) (by simp) (.int .i64 0)).setCell (p := ⟨w.heap.size + 2, 1, none⟩) (by simp) (.string ⟨#[]⟩)).setCell (p := ⟨w.heap.size + 2, 2, none⟩) (by simp) (.string ⟨#[]⟩)
    go_wp2_with fail
    generalize ((w1.setCell ⟨w.heap.size + 2, 0, none⟩ (.int .i64 0)).setCell ⟨w.heap.size + 2, 1, none⟩ (.string ⟨#[]⟩)).setCell ⟨w.heap.size + 2, 2, none⟩ (.string ⟨#[]⟩) = wF at *
    have y0 : wF.cell? ⟨w.heap.size + 2, 0, none⟩ = some (.int .i64 0) := hz3.cell 0
    have y1 : wF.cell? ⟨w.heap.size + 2, 1, none⟩ = some (.string ⟨#[]⟩) := hz3.cell 1
    have y2 : wF.cell? ⟨w.heap.size + 2, 2, none⟩ = some (.string ⟨#[]⟩) := hz3.cell 2
    refine bodyPost_ret (by simp [results, Tryz.results29, go_sem, y0, y1, y2]; try rfl) rfl ?_
    exact ⟨rfl, hbF⟩
  obtain ⟨h1, h2, h3, -⟩ := hdB_parts B2
  dsimp only at h1 h2 h3
  rw [B2] at HVAL
  by_cases B1 : recB ⟨p, l⟩ = true
  case neg =>
    have hn : nextA ⟨hp, hc, hs⟩ ⟨p, l⟩ st = (hd0, 90) := by
      unfold nextA; rw [Bool.not_eq_true] at B1; rw [B1]; rfl
    rw [Bool.not_eq_true] at B1
    rw [B1] at HREC
    rw [hn]
    clear B1 B2 hn h3
    go_enter Tryz.func29, Tryz.ntmps29
    have a00 : W0.cell? ⟨w.heap.size, 0, none⟩ = some (.int .i64 hp) := (HK.out W0 (Below.refl _ _)).1.cell 0
    have a01 : W0.cell? ⟨w.heap.size, 1, none⟩ = some (.string (str hc)) := (HK.out W0 (Below.refl _ _)).1.cell 1
    have a02 : W0.cell? ⟨w.heap.size, 2, none⟩ = some (.string (str hs)) := (HK.out W0 (Below.refl _ _)).1.cell 2
    rw [HW0.out] at a00 a01 a02
    go_wp2_with fail
    clear a00 a01 a02
    rw [← HW0.out]
    refine (HVAL.out _).mono ?_
    rintro e w1 ⟨rfl, b1⟩
    obtain ⟨q0, q1, q2, hb1⟩ := HK.out w1 b1
    have a0 : w1.cell? ⟨w.heap.size, 0, none⟩ = some (.int .i64 hp) := q0.cell 0
    have a1 : w1.cell? ⟨w.heap.size, 1, none⟩ = some (.string (str hc)) := q0.cell 1
    have a2 : w1.cell? ⟨w.heap.size, 2, none⟩ = some (.string (str hs)) := q0.cell 2
    have r0 : w1.cell? ⟨w.heap.size + 1, 0, none⟩ = some (.int .i64 p) := q1.cell 0
    have r1 : w1.cell? ⟨w.heap.size + 1, 1, none⟩ = some (.slice A l.length c) := q1.cell 1
    have z0 : w1.cell? ⟨w.heap.size + 2, 0, none⟩ = some (.int .i64 0) := q2.cell 0
    have z1 : w1.cell? ⟨w.heap.size + 2, 1, none⟩ = some (.string ⟨#[]⟩) := q2.cell 1
    have z2 : w1.cell? ⟨w.heap.size + 2, 2, none⟩ = some (.string ⟨#[]⟩) := q2.cell 2
    have f0 := q2.frozen 0
    have f1 := q2.frozen 1
    have f2 := q2.frozen 2
    go_wp2_with fail
    refine (HREC.out _ b1).mono ?_
    rintro e w2 ⟨rfl, b2⟩
    have b12 := Below.next b1 b2
    clear hb1 b1 b2
    clear a0 a1 a2 r0 r1 z0 z1 z2 f0 f1 f2 q0 q1 q2
    obtain ⟨q0, q1, q2, hb2⟩ := HK.out w2 b12
    have a0 : w2.cell? ⟨w.heap.size, 0, none⟩ = some (.int .i64 hp) := q0.cell 0
    have a1 : w2.cell? ⟨w.heap.size, 1, none⟩ = some (.string (str hc)) := q0.cell 1
    have a2 : w2.cell? ⟨w.heap.size, 2, none⟩ = some (.string (str hs)) := q0.cell 2
    have r0 : w2.cell? ⟨w.heap.size + 1, 0, none⟩ = some (.int .i64 p) := q1.cell 0
    have r1 : w2.cell? ⟨w.heap.size + 1, 1, none⟩ = some (.slice A l.length c) := q1.cell 1
    have z0 : w2.cell? ⟨w.heap.size + 2, 0, none⟩ = some (.int .i64 0) := q2.cell 0
    have z1 : w2.cell? ⟨w.heap.size + 2, 1, none⟩ = some (.string ⟨#[]⟩) := q2.cell 1
    have z2 : w2.cell? ⟨w.heap.size + 2, 2, none⟩ = some (.string ⟨#[]⟩) := q2.cell 2
    have f0 := q2.frozen 0
    have f1 := q2.frozen 1
    have f2 := q2.frozen 2
    have hz3 := ((q2.set 0 (.int .i64 0)).set 1 (.string ⟨#[]⟩)).set 2 (.string ⟨#[]⟩)
    have hbF := ((hb2.setCell (p := ⟨w.heap.size + 2, 0, none⟩) (by simp) (.int .i64 0)).setCell (p := ⟨w.heap.size + 2, 1, none⟩) (by simp) (.string ⟨#[]⟩)).setCell (p := ⟨w.heap.size + 2, 2, none⟩) (by simp) (.string ⟨#[]⟩)
    go_wp2_with fail
    generalize ((w2.setCell ⟨w.heap.size + 2, 0, none⟩ (.int .i64 0)).setCell ⟨w.heap.size + 2, 1, none⟩ (.string ⟨#[]⟩)).setCell ⟨w.heap.size + 2, 2, none⟩ (.string ⟨#[]⟩) = wF at *
    have y0 : wF.cell? ⟨w.heap.size + 2, 0, none⟩ = some (.int .i64 0) := hz3.cell 0
    have y1 : wF.cell? ⟨w.heap.size + 2, 1, none⟩ = some (.string ⟨#[]⟩) := hz3.cell 1
    have y2 : wF.cell? ⟨w.heap.size + 2, 2, none⟩ = some (.string ⟨#[]⟩) := hz3.cell 2
    refine bodyPost_ret (by simp [results, Tryz.results29, go_sem, y0, y1, y2]; try rfl) rfl ?_
    exact ⟨rfl, hbF⟩
  have he : encRecE ⟨p, l⟩ = (encRec ⟨p, l⟩, 0) := if_pos B1
  have hel := encRec_len B1
  obtain ⟨p1, p2, -, -⟩ := recB_pos B1
  dsimp only at p1 p2
  rw [B1] at HREC
  rw [he] at HENC
  clear he
  by_cases B4 : p = hp + 1
  case neg =>
    have hn : nextA ⟨hp, hc, hs⟩ ⟨p, l⟩ st = (hd0, 90) := by
      unfold nextA; rw [decide_eq_false B4, Bool.and_false]; rfl
    have t4 : (p != hp + 1) = true := by simpa using B4
    rw [hn]
    clear B1 B2 B4 hn hel h3
    go_enter Tryz.func29, Tryz.ntmps29
    have a00 : W0.cell? ⟨w.heap.size, 0, none⟩ = some (.int .i64 hp) := (HK.out W0 (Below.refl _ _)).1.cell 0
    have a01 : W0.cell? ⟨w.heap.size, 1, none⟩ = some (.string (str hc)) := (HK.out W0 (Below.refl _ _)).1.cell 1
    have a02 : W0.cell? ⟨w.heap.size, 2, none⟩ = some (.string (str hs)) := (HK.out W0 (Below.refl _ _)).1.cell 2
    rw [HW0.out] at a00 a01 a02
    go_wp2_with fail
    clear a00 a01 a02
    rw [← HW0.out]
    refine (HVAL.out _).mono ?_
    rintro e w1 ⟨rfl, b1⟩
    obtain ⟨q0, q1, q2, hb1⟩ := HK.out w1 b1
    have a0 : w1.cell? ⟨w.heap.size, 0, none⟩ = some (.int .i64 hp) := q0.cell 0
    have a1 : w1.cell? ⟨w.heap.size, 1, none⟩ = some (.string (str hc)) := q0.cell 1
    have a2 : w1.cell? ⟨w.heap.size, 2, none⟩ = some (.string (str hs)) := q0.cell 2
    have r0 : w1.cell? ⟨w.heap.size + 1, 0, none⟩ = some (.int .i64 p) := q1.cell 0
    have r1 : w1.cell? ⟨w.heap.size + 1, 1, none⟩ = some (.slice A l.length c) := q1.cell 1
    have z0 : w1.cell? ⟨w.heap.size + 2, 0, none⟩ = some (.int .i64 0) := q2.cell 0
    have z1 : w1.cell? ⟨w.heap.size + 2, 1, none⟩ = some (.string ⟨#[]⟩) := q2.cell 1
    have z2 : w1.cell? ⟨w.heap.size + 2, 2, none⟩ = some (.string ⟨#[]⟩) := q2.cell 2
    have f0 := q2.frozen 0
    have f1 := q2.frozen 1
    have f2 := q2.frozen 2
    go_wp2_with fail
    refine (HREC.out _ b1).mono ?_
    rintro e w2 ⟨rfl, b2⟩
    have b12 := Below.next b1 b2
    clear hb1 b1 b2
    clear a0 a1 a2 r0 r1 z0 z1 z2 f0 f1 f2 q0 q1 q2
    obtain ⟨q0, q1, q2, hb2⟩ := HK.out w2 b12
    have a0 : w2.cell? ⟨w.heap.size, 0, none⟩ = some (.int .i64 hp) := q0.cell 0
    have a1 : w2.cell? ⟨w.heap.size, 1, none⟩ = some (.string (str hc)) := q0.cell 1
    have a2 : w2.cell? ⟨w.heap.size, 2, none⟩ = some (.string (str hs)) := q0.cell 2
    have r0 : w2.cell? ⟨w.heap.size + 1, 0, none⟩ = some (.int .i64 p) := q1.cell 0
    have r1 : w2.cell? ⟨w.heap.size + 1, 1, none⟩ = some (.slice A l.length c) := q1.cell 1
    have z0 : w2.cell? ⟨w.heap.size + 2, 0, none⟩ = some (.int .i64 0) := q2.cell 0
    have z1 : w2.cell? ⟨w.heap.size + 2, 1, none⟩ = some (.string ⟨#[]⟩) := q2.cell 1
    have z2 : w2.cell? ⟨w.heap.size + 2, 2, none⟩ = some (.string ⟨#[]⟩) := q2.cell 2
    have f0 := q2.frozen 0
    have f1 := q2.frozen 1
    have f2 := q2.frozen 2
    have hz3 := ((q2.set 0 (.int .i64 0)).set 1 (.string ⟨#[]⟩)).set 2 (.string ⟨#[]⟩)
    have hbF := ((hb2.setCell (p := ⟨w.heap.size + 2, 0, none⟩) (by simp) (.int .i64 0)).setCell (p := ⟨w.heap.size + 2, 1, none⟩) (by simp) (.string ⟨#[]⟩)).setCell (p := ⟨w.heap.size + 2, 2, none⟩) (by simp) (.string ⟨#[]⟩)
    go_wp2_with fail
    generalize ((w2.setCell ⟨w.heap.size + 2, 0, none⟩ (.int .i64 0)).setCell ⟨w.heap.size + 2, 1, none⟩ (.string ⟨#[]⟩)).setCell ⟨w.heap.size + 2, 2, none⟩ (.string ⟨#[]⟩) = wF at *
    have y0 : wF.cell? ⟨w.heap.size + 2, 0, none⟩ = some (.int .i64 0) := hz3.cell 0
    have y1 : wF.cell? ⟨w.heap.size + 2, 1, none⟩ = some (.string ⟨#[]⟩) := hz3.cell 1
    have y2 : wF.cell? ⟨w.heap.size + 2, 2, none⟩ = some (.string ⟨#[]⟩) := hz3.cell 2
    refine bodyPost_ret (by simp [results, Tryz.results29, go_sem, y0, y1, y2]; try rfl) rfl ?_
    exact ⟨rfl, hbF⟩
  have t4 : (p != hp + 1) = false := by simpa using B4
  by_cases B3 : st.length = 32
  case neg =>
    have t5 : ((st.length : Int) != 32) = true := by simp only [bne_iff_ne, ne_eq]; omega
    have hn : nextA ⟨hp, hc, hs⟩ ⟨p, l⟩ st = (hd0, 90) := by
      unfold nextA; rw [B1, B2, decide_eq_false B3]; rfl
    rw [hn]
    clear B1 B2 B3 B4 hn hel h3
    go_enter Tryz.func29, Tryz.ntmps29
    have a00 : W0.cell? ⟨w.heap.size, 0, none⟩ = some (.int .i64 hp) := (HK.out W0 (Below.refl _ _)).1.cell 0
    have a01 : W0.cell? ⟨w.heap.size, 1, none⟩ = some (.string (str hc)) := (HK.out W0 (Below.refl _ _)).1.cell 1
    have a02 : W0.cell? ⟨w.heap.size, 2, none⟩ = some (.string (str hs)) := (HK.out W0 (Below.refl _ _)).1.cell 2
    rw [HW0.out] at a00 a01 a02
    go_wp2_with fail
    clear a00 a01 a02
    rw [← HW0.out]
    refine (HVAL.out _).mono ?_
    rintro e w1 ⟨rfl, b1⟩
    obtain ⟨q0, q1, q2, hb1⟩ := HK.out w1 b1
    have a0 : w1.cell? ⟨w.heap.size, 0, none⟩ = some (.int .i64 hp) := q0.cell 0
    have a1 : w1.cell? ⟨w.heap.size, 1, none⟩ = some (.string (str hc)) := q0.cell 1
    have a2 : w1.cell? ⟨w.heap.size, 2, none⟩ = some (.string (str hs)) := q0.cell 2
    have r0 : w1.cell? ⟨w.heap.size + 1, 0, none⟩ = some (.int .i64 p) := q1.cell 0
    have r1 : w1.cell? ⟨w.heap.size + 1, 1, none⟩ = some (.slice A l.length c) := q1.cell 1
    have z0 : w1.cell? ⟨w.heap.size + 2, 0, none⟩ = some (.int .i64 0) := q2.cell 0
    have z1 : w1.cell? ⟨w.heap.size + 2, 1, none⟩ = some (.string ⟨#[]⟩) := q2.cell 1
    have z2 : w1.cell? ⟨w.heap.size + 2, 2, none⟩ = some (.string ⟨#[]⟩) := q2.cell 2
    have f0 := q2.frozen 0
    have f1 := q2.frozen 1
    have f2 := q2.frozen 2
    go_wp2_with fail
    refine (HREC.out _ b1).mono ?_
    rintro e w2 ⟨rfl, b2⟩
    have b12 := Below.next b1 b2
    clear hb1 b1 b2
    clear a0 a1 a2 r0 r1 z0 z1 z2 f0 f1 f2 q0 q1 q2
    obtain ⟨q0, q1, q2, hb2⟩ := HK.out w2 b12
    have a0 : w2.cell? ⟨w.heap.size, 0, none⟩ = some (.int .i64 hp) := q0.cell 0
    have a1 : w2.cell? ⟨w.heap.size, 1, none⟩ = some (.string (str hc)) := q0.cell 1
    have a2 : w2.cell? ⟨w.heap.size, 2, none⟩ = some (.string (str hs)) := q0.cell 2
    have r0 : w2.cell? ⟨w.heap.size + 1, 0, none⟩ = some (.int .i64 p) := q1.cell 0
    have r1 : w2.cell? ⟨w.heap.size + 1, 1, none⟩ = some (.slice A l.length c) := q1.cell 1
    have z0 : w2.cell? ⟨w.heap.size + 2, 0, none⟩ = some (.int .i64 0) := q2.cell 0
    have z1 : w2.cell? ⟨w.heap.size + 2, 1, none⟩ = some (.string ⟨#[]⟩) := q2.cell 1
    have z2 : w2.cell? ⟨w.heap.size + 2, 2, none⟩ = some (.string ⟨#[]⟩) := q2.cell 2
    have f0 := q2.frozen 0
    have f1 := q2.frozen 1
    have f2 := q2.frozen 2
    have hz3 := ((q2.set 0 (.int .i64 0)).set 1 (.string ⟨#[]⟩)).set 2 (.string ⟨#[]⟩)
    have hbF := ((hb2.setCell (p := ⟨w.heap.size + 2, 0, none⟩) (by simp) (.int .i64 0)).setCell (p := ⟨w.heap.size + 2, 1, none⟩) (by simp) (.string ⟨#[]⟩)).setCell (p := ⟨w.heap.size + 2, 2, none⟩) (by simp) (.string ⟨#[]⟩)
    go_wp2_with fail
    generalize ((w2.setCell ⟨w.heap.size + 2, 0, none⟩ (.int .i64 0)).setCell ⟨w.heap.size + 2, 1, none⟩ (.string ⟨#[]⟩)).setCell ⟨w.heap.size + 2, 2, none⟩ (.string ⟨#[]⟩) = wF at *
    have y0 : wF.cell? ⟨w.heap.size + 2, 0, none⟩ = some (.int .i64 0) := hz3.cell 0
    have y1 : wF.cell? ⟨w.heap.size + 2, 1, none⟩ = some (.string ⟨#[]⟩) := hz3.cell 1
    have y2 : wF.cell? ⟨w.heap.size + 2, 2, none⟩ = some (.string ⟨#[]⟩) := hz3.cell 2
    refine bodyPost_ret (by simp [results, Tryz.results29, go_sem, y0, y1, y2]; try rfl) rfl ?_
    exact ⟨rfl, hbF⟩
  · have hn : nextA ⟨hp, hc, hs⟩ ⟨p, l⟩ st = (⟨p, chainL hc (encRec ⟨p, l⟩), st⟩, 0) := by
      unfold nextA; rw [B1, B2, decide_eq_true B3, decide_eq_true B4]; rfl
    have t5 : ((st.length : Int) != 32) = false := by simp only [bne_eq_false_iff_eq]; omega
    rw [hn]
    obtain ⟨E, hE⟩ : ∃ E, E = encRec ⟨p, l⟩ := ⟨_, rfl⟩
    rw [← hE] at hel HENC ⊢
    have hch : ∀ W : World, W.cell? ⟨w.heap.size + 1, 0, none⟩ = some (.int .i64 p) → W.cell? ⟨w.heap.size, 1, none⟩ = some (.string (str hc)) → Below W0.heap.size W0 W → Calls Tryz.prog 60 #[.string (str hc), .string (str E)] W fun e w' => e = .returned (.string (str (chainL hc E))) ∧ w'.cell? ⟨w.heap.size + 1, 0, none⟩ = some (.int .i64 p) ∧ w'.cell? ⟨w.heap.size, 1, none⟩ = some (.string (str hc)) ∧ Below W0.heap.size W0 w' := by
      intro W g1 g2 g3
      refine (chainR_str hc E W (by omega)).mono fun e w' ⟨he, hb⟩ => ⟨he, (hb.cell (block_of_cell g1)).trans g1, (hb.cell (block_of_cell g2)).trans g2, Below.next g3 hb⟩
    have HCH := Lib.hid hch
    clear B1 B2 B3 B4 hn hE hch hel h3
    go_enter Tryz.func29, Tryz.ntmps29
    have a00 : W0.cell? ⟨w.heap.size, 0, none⟩ = some (.int .i64 hp) := (HK.out W0 (Below.refl _ _)).1.cell 0
    have a01 : W0.cell? ⟨w.heap.size, 1, none⟩ = some (.string (str hc)) := (HK.out W0 (Below.refl _ _)).1.cell 1
    have a02 : W0.cell? ⟨w.heap.size, 2, none⟩ = some (.string (str hs)) := (HK.out W0 (Below.refl _ _)).1.cell 2
    rw [HW0.out] at a00 a01 a02
    go_wp2_with fail
    clear a00 a01 a02
    rw [← HW0.out]
    refine (HVAL.out _).mono ?_
    rintro e w1 ⟨rfl, b1⟩
    obtain ⟨q0, q1, q2, hb1⟩ := HK.out w1 b1
    have a0 : w1.cell? ⟨w.heap.size, 0, none⟩ = some (.int .i64 hp) := q0.cell 0
    have a1 : w1.cell? ⟨w.heap.size, 1, none⟩ = some (.string (str hc)) := q0.cell 1
    have a2 : w1.cell? ⟨w.heap.size, 2, none⟩ = some (.string (str hs)) := q0.cell 2
    have r0 : w1.cell? ⟨w.heap.size + 1, 0, none⟩ = some (.int .i64 p) := q1.cell 0
    have r1 : w1.cell? ⟨w.heap.size + 1, 1, none⟩ = some (.slice A l.length c) := q1.cell 1
    have z0 : w1.cell? ⟨w.heap.size + 2, 0, none⟩ = some (.int .i64 0) := q2.cell 0
    have z1 : w1.cell? ⟨w.heap.size + 2, 1, none⟩ = some (.string ⟨#[]⟩) := q2.cell 1
    have z2 : w1.cell? ⟨w.heap.size + 2, 2, none⟩ = some (.string ⟨#[]⟩) := q2.cell 2
    have f0 := q2.frozen 0
    have f1 := q2.frozen 1
    have f2 := q2.frozen 2
    go_wp2_with fail
    refine (HREC.out _ b1).mono ?_
    rintro e w2 ⟨rfl, b2⟩
    have b12 := Below.next b1 b2
    clear hb1 b1 b2
    clear a0 a1 a2 r0 r1 z0 z1 z2 f0 f1 f2 q0 q1 q2
    obtain ⟨q0, q1, q2, hb2⟩ := HK.out w2 b12
    have a0 : w2.cell? ⟨w.heap.size, 0, none⟩ = some (.int .i64 hp) := q0.cell 0
    have a1 : w2.cell? ⟨w.heap.size, 1, none⟩ = some (.string (str hc)) := q0.cell 1
    have a2 : w2.cell? ⟨w.heap.size, 2, none⟩ = some (.string (str hs)) := q0.cell 2
    have r0 : w2.cell? ⟨w.heap.size + 1, 0, none⟩ = some (.int .i64 p) := q1.cell 0
    have r1 : w2.cell? ⟨w.heap.size + 1, 1, none⟩ = some (.slice A l.length c) := q1.cell 1
    have z0 : w2.cell? ⟨w.heap.size + 2, 0, none⟩ = some (.int .i64 0) := q2.cell 0
    have z1 : w2.cell? ⟨w.heap.size + 2, 1, none⟩ = some (.string ⟨#[]⟩) := q2.cell 1
    have z2 : w2.cell? ⟨w.heap.size + 2, 2, none⟩ = some (.string ⟨#[]⟩) := q2.cell 2
    have f0 := q2.frozen 0
    have f1 := q2.frozen 1
    have f2 := q2.frozen 2
    go_wp2_with fail
    refine (HENC.out _ b12).mono ?_
    rintro e w3 ⟨rfl, b3⟩
    have b13 := Below.next b12 b3
    clear hb2 b12 b3
    clear a0 a1 a2 r0 r1 z0 z1 z2 f0 f1 f2 q0 q1 q2
    obtain ⟨q0, q1, q2, hb3⟩ := HK.out w3 b13
    have a0 : w3.cell? ⟨w.heap.size, 0, none⟩ = some (.int .i64 hp) := q0.cell 0
    have a1 : w3.cell? ⟨w.heap.size, 1, none⟩ = some (.string (str hc)) := q0.cell 1
    have a2 : w3.cell? ⟨w.heap.size, 2, none⟩ = some (.string (str hs)) := q0.cell 2
    have r0 : w3.cell? ⟨w.heap.size + 1, 0, none⟩ = some (.int .i64 p) := q1.cell 0
    have r1 : w3.cell? ⟨w.heap.size + 1, 1, none⟩ = some (.slice A l.length c) := q1.cell 1
    have z0 : w3.cell? ⟨w.heap.size + 2, 0, none⟩ = some (.int .i64 0) := q2.cell 0
    have z1 : w3.cell? ⟨w.heap.size + 2, 1, none⟩ = some (.string ⟨#[]⟩) := q2.cell 1
    have z2 : w3.cell? ⟨w.heap.size + 2, 2, none⟩ = some (.string ⟨#[]⟩) := q2.cell 2
    have f0 := q2.frozen 0
    have f1 := q2.frozen 1
    have f2 := q2.frozen 2
    clear r1
    go_wp2_with fail
    clear z0 z1 z2 f0 f1 f2 q0 q1 q2 hb3
    go_region_law (go_simp; go_at_call 60; refine (HCH.out _ ?_ ?_ ?_).mono ?_; (first | assumption | (simp [*]; done)); (first | assumption | (simp [*]; done)); (first | assumption | exact Below.drew (by assumption)); rintro e w4 ⟨rfl, g1, g2, g3⟩; obtain ⟨q0, q1, q2, hb4⟩ := HK.out w4 g3; have z0 : w4.cell? ⟨w.heap.size + 2, 0, none⟩ = some (.int .i64 0) := q2.cell 0; have z1 : w4.cell? ⟨w.heap.size + 2, 1, none⟩ = some (.string ⟨#[]⟩) := q2.cell 1; have z2 : w4.cell? ⟨w.heap.size + 2, 2, none⟩ = some (.string ⟨#[]⟩) := q2.cell 2; have f0 := q2.frozen 0; have f1 := q2.frozen 1; have f2 := q2.frozen 2)
    all_goals
      have hz3 := ((q2.set 0 (.int .i64 p)).set 1 (.string (str (chainL hc E)))).set 2 (.string (str st))
      have hbF := ((hb4.setCell (p := ⟨w.heap.size + 2, 0, none⟩) (by simp) (.int .i64 p)).setCell (p := ⟨w.heap.size + 2, 1, none⟩) (by simp) (.string (str (chainL hc E)))).setCell (p := ⟨w.heap.size + 2, 2, none⟩) (by simp) (.string (str st))
      go_wp2_with fail
      generalize ((w4.setCell ⟨w.heap.size + 2, 0, none⟩ (.int .i64 p)).setCell ⟨w.heap.size + 2, 1, none⟩ (.string (str (chainL hc E)))).setCell ⟨w.heap.size + 2, 2, none⟩ (.string (str st)) = wF at *
      have y0 : wF.cell? ⟨w.heap.size + 2, 0, none⟩ = some (.int .i64 p) := hz3.cell 0
      have y1 : wF.cell? ⟨w.heap.size + 2, 1, none⟩ = some (.string (str (chainL hc E))) := hz3.cell 1
      have y2 : wF.cell? ⟨w.heap.size + 2, 2, none⟩ = some (.string (str st)) := hz3.cell 2
      refine bodyPost_ret (by simp [results, Tryz.results29, go_sem, y0, y1, y2]; try rfl) rfl ?_
      exact ⟨rfl, hbF⟩
end Go.Proofs.YtheebajklnljdaaGreatDoor
end

