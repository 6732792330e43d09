/- The law's records (written by wip/mk_rcb.py). -/
import Derived.Test.YtheebajklnljdaaDoorQRcA
import Derived.BigQuiet
import Derived.Deep.QuietTactic
namespace Go.Proofs.YtheebajklnljdaaDoor
open Go Go.RowKit
attribute [local go_sem] Oper.semAt_some

set_option maxRecDepth 100000 in
set_option maxHeartbeats 1500000 in
theorem records_ok (v : Value) (w : World) (hv : IntRows w v) :
    Calls Tryd.prog 9 #[v] w fun e w' => ∃ v' ps, e = .returned v' ∧ RecOwn w' w.heap.size v' ps ∧ ps.length ≤ 12 ∧ Below w.heap.size w w' := by
  obtain ⟨us, hs, hus⟩ := hv
  obtain ⟨i0, hi0, hz0, hz1, hz2⟩ := info_chg
  obtain ⟨i1, hi1, hy0, hy1, hy2⟩ := info_rec
  obtain ⟨A, c, rfl, hc⟩ := id hs
  have HUS := Lib.hid hus
  clear hus hc
  go_enter Tryd.func9, Tryd.ntmps9
  go_wp2_with fail
  go_loopw [3, 4] (fun ov iv wr => ∃ (k : Nat) (ps : List (Rec × Value)), k ≤ us.length ∧ k ≤ 12 ∧ iv = .int .i64 k ∧ RecOwn wr w.heap.size ov ps ∧ ps.length ≤ k ∧ Below w.heap.size w wr) (fun _ iv _ => 12 - (intOf iv).toNat)
  case atStart => exact ⟨0, [], by omega, by omega, rfl, RecOwn.nil w _, by simp, Below.refl _ _⟩
  case round =>
    obtain ⟨k, ps, hk, hk12, rfl, hro, hpl, hb⟩ := hrel
    obtain ⟨A1, c1, rfl, hc1⟩ := hro.form
    by_cases h1 : k < us.length
    case neg =>
      have t1 : decide (k < us.length) = false := by simpa using h1
      go_wp2_with fail
      go_ret
      exact ⟨_, ps, rfl, hro, by omega, hb⟩
    by_cases h2 : k < 12
    case neg =>
      have t1 : decide (k < us.length) = true := by simpa using h1
      have t2 : decide ((k : Int) < 12) = false := by simp; omega
      go_wp2_with fail
      go_ret
      exact ⟨_, ps, rfl, hro, by omega, hb⟩
    have t1 : decide (k < us.length) = true := by simpa using h1
    have t2 : decide ((k : Int) < 12) = true := by simp; omega
    obtain ⟨u, hu⟩ : ∃ u, us[k]? = some u := ⟨_, List.getElem?_eq_getElem h1⟩
    obtain ⟨zs, hz, hzb⟩ := HUS.out u (List.mem_of_getElem? hu)
    obtain ⟨ad, rfl, -, -, hcl⟩ := hs.at_ (k := k) h1
    have cs0 : w.cell? (ad.add k) = some u := hcl k u hu
    have hadl := block_of_cell cs0
    obtain ⟨A2, c2, rfl, hc2⟩ := id hz
    rw [List.length_map] at hz cs0 hc2
    obtain ⟨N, hN⟩ : ∃ N : Int, N = (ps.length : Int) + 1 := ⟨_, rfl⟩
    have hN0 : 0 ≤ N := by omega
    have hN12 : N ≤ 13 := by omega
    have HN := Lib.hid hN
    have q1 : (0 : Int) ≤ (k : Int) := by omega
    have q2 : (k : Int) < (us.length : Int) := by omega
    have HRO := Lib.hid hro
    have HZB := Lib.hid hzb
    clear hcl hu hzb hro hN
    obtain ⟨wb, hwb⟩ : ∃ W, W = wr := ⟨_, rfl⟩
    rw [← hwb] at hb HRO ⊢
    clear hwb wr
    have hle0 := hb.size
    go_wp2_with fail
    rw [← HN.out]
    have hR0 := BlkIs.new wb 34 #[.int .i64 N, .slice none 0 0]
    have hbi0 := Below.alloc1 wb (.cells #[.int .i64 N, .slice none 0 0] 34)
    go_loopw [6] (fun jv wi => ∃ (j : Nat) (chs : List Chg) (cv : Value), j ≤ zs.length ∧ j ≤ 6 ∧ jv = .int .i64 j ∧ BlkIs wi wb.heap.size 34 [.int .i64 N, cv] ∧ wi.ownsRow wb.heap.size 45 10 cv chs.length (chs.flatMap chgCells) ∧ chs.length ≤ j ∧ Below wb.heap.size wb wi) (fun jv _ => 6 - (intOf jv).toNat)
    case atStart => exact ⟨0, [], .slice none 0 0, by omega, by omega, rfl, hR0, World.ownsRow_nil _ _ _ _, by simp, hbi0⟩
    case round =>
      clear hR0 hbi0
      obtain ⟨j, chs, cv, hj, hj6, rfl, hRb, hown, hcl, hbi⟩ := hrel
      obtain ⟨A3, c3, rfl, hc3, -, hrow⟩ := ownsRow_form hown
      have hbw := hb.trans (hbi.mono hle0)
      have cs1 : wr.cell? (ad.add k) = some (.slice A2 zs.length c2) := (hbw.cell hadl).trans cs0
      have p0 : wr.cell? ⟨wb.heap.size, 0, none⟩ = some (.int .i64 N) := hRb.cell 0
      have p1 : wr.cell? ⟨wb.heap.size, 1, none⟩ = some (.slice A3 chs.length c3) := hRb.cell 1
      have hlei := hbi.size
      by_cases g1 : j < zs.length ∧ j < 6
      case neg =>
        have hend : decide (j < zs.length) = false ∨ (decide (j < zs.length) = true ∧ decide ((j : Int) < 6) = false) := by
          by_cases e : j < zs.length
          · right; refine ⟨by simpa using e, ?_⟩; simp; omega
          · left; simpa using e
        have hrc := rrec_ok N A3 c3 chs wr (ChgsOwn.chgs (S := fun _ => True) ⟨ownsRow_base0 hown, fun _ _ => trivial⟩)
        unfold recV at hrc
        obtain ⟨R, hR⟩ : ∃ y, recB ⟨N, chs⟩ = y := ⟨_, rfl⟩
        rw [hR] at hrc
        have HRC := Lib.hid hrc
        have HR := Lib.hid hR
        have HRB := Lib.hid hRb
        have HOWN := Lib.hid hown
        have HBI := Lib.hid hbi
        clear hrc hR hRb hown hbi g1 hrow
        rcases hend with t5 | ⟨t5, t6⟩
        · go_wp2_with fail
          with_reducible refine (HRC.out).mono ?_
          rintro e w6 ⟨rfl, b6⟩
          have hR6 := HRB.out.later b6
          have hown6 := ownsRow_later b6 HOWN.out
          have hbi6 := Below.next HBI.out b6
          have p0 : w6.cell? ⟨wb.heap.size, 0, none⟩ = some (.int .i64 N) := hR6.cell 0
          have p1 : w6.cell? ⟨wb.heap.size, 1, none⟩ = some (.slice A3 chs.length c3) := hR6.cell 1
          have hro6 := HRO.out.later hbi6
          have hb6 := hb.trans (hbi6.mono hle0)
          cases R
          · go_wp2_with fail
            exact ⟨⟨k + 1, ps, by omega, by omega, by go_num, hro6, by omega, hb6⟩, by simp [intOf]; omega⟩
          have hrow6 := hro6.row
          have HRO6 := Lib.hid hro6
          have HB6 := Lib.hid hb6
          have HOWN6 := Lib.hid hown6
          clear hro6 hb6 hown6
          go_wp2_with (at_builtin; refine wpList_append_own _ rfl _ _ 35 rfl w.heap.size 34 i1 (.agg #[.int .i64 0, .slice none 0 0]) 2 32 Tryd.underlying35 hi1 hy0 hy1 hy2 rfl (by decide) (.slice A1 ps.length c1) ps.length (ps.flatMap recCells) rfl (hrow6.alloc _) ⟨w6.heap.size, 0, none⟩ 1 1 (recCells (⟨N, chs⟩, .slice A3 chs.length c3)) rfl rfl (blk_news (BlkIs.new w6 34 (recCells (⟨N, chs⟩, .slice A3 chs.length c3)).toArray) 0 (recCells (⟨N, chs⟩, .slice A3 chs.length c3)) rfl) (recCells_one _ rfl) (by unfold maxLen; omega) (by omega) (by rw [World.size_alloc]; have := HB6.out.size; omega) ?_; intro v7 w7 own7 g7 _)
          have al6 := Below.alloc1 w6 (.cells (recCells (⟨N, chs⟩, .slice A3 chs.length c3)).toArray 34)
          have hadd := RecOwn.add (r := ⟨N, chs⟩) (B := wb.heap.size) (HRO6.out.later al6) g7 own7 (ownsRow_later al6 HOWN6.out) (fun p hp k hk => ((HRO.out.chs p hp).lt k hk).2) hle0 HR.out HN.out
          have hb7 := below_fresh (Below.next HB6.out al6) (by rw [World.size_alloc]; have := HB6.out.size; omega) g7 (fun k hk => (hrow6.lt k hk).1)
          exact ⟨⟨k + 1, _, by omega, by omega, by go_num, hadd, by rw [List.length_append, List.length_singleton]; omega, hb7⟩, by simp [intOf]; omega⟩
        · go_wp2_with fail
          with_reducible refine (HRC.out).mono ?_
          rintro e w6 ⟨rfl, b6⟩
          have hR6 := HRB.out.later b6
          have hown6 := ownsRow_later b6 HOWN.out
          have hbi6 := Below.next HBI.out b6
          have p0 : w6.cell? ⟨wb.heap.size, 0, none⟩ = some (.int .i64 N) := hR6.cell 0
          have p1 : w6.cell? ⟨wb.heap.size, 1, none⟩ = some (.slice A3 chs.length c3) := hR6.cell 1
          have hro6 := HRO.out.later hbi6
          have hb6 := hb.trans (hbi6.mono hle0)
          cases R
          · go_wp2_with fail
            exact ⟨⟨k + 1, ps, by omega, by omega, by go_num, hro6, by omega, hb6⟩, by simp [intOf]; omega⟩
          have hrow6 := hro6.row
          have HRO6 := Lib.hid hro6
          have HB6 := Lib.hid hb6
          have HOWN6 := Lib.hid hown6
          clear hro6 hb6 hown6
          go_wp2_with (at_builtin; refine wpList_append_own _ rfl _ _ 35 rfl w.heap.size 34 i1 (.agg #[.int .i64 0, .slice none 0 0]) 2 32 Tryd.underlying35 hi1 hy0 hy1 hy2 rfl (by decide) (.slice A1 ps.length c1) ps.length (ps.flatMap recCells) rfl (hrow6.alloc _) ⟨w6.heap.size, 0, none⟩ 1 1 (recCells (⟨N, chs⟩, .slice A3 chs.length c3)) rfl rfl (blk_news (BlkIs.new w6 34 (recCells (⟨N, chs⟩, .slice A3 chs.length c3)).toArray) 0 (recCells (⟨N, chs⟩, .slice A3 chs.length c3)) rfl) (recCells_one _ rfl) (by unfold maxLen; omega) (by omega) (by rw [World.size_alloc]; have := HB6.out.size; omega) ?_; intro v7 w7 own7 g7 _)
          have al6 := Below.alloc1 w6 (.cells (recCells (⟨N, chs⟩, .slice A3 chs.length c3)).toArray 34)
          have hadd := RecOwn.add (r := ⟨N, chs⟩) (B := wb.heap.size) (HRO6.out.later al6) g7 own7 (ownsRow_later al6 HOWN6.out) (fun p hp k hk => ((HRO.out.chs p hp).lt k hk).2) hle0 HR.out HN.out
          have hb7 := below_fresh (Below.next HB6.out al6) (by rw [World.size_alloc]; have := HB6.out.size; omega) g7 (fun k hk => (hrow6.lt k hk).1)
          exact ⟨⟨k + 1, _, by omega, by omega, by go_num, hadd, by rw [List.length_append, List.length_singleton]; omega, hb7⟩, by simp [intOf]; omega⟩
      obtain ⟨g1, g2⟩ := g1
      have t5 : decide (j < zs.length) = true := by simpa using g1
      have t6 : decide ((j : Int) < 6) = true := by simp; omega
      obtain ⟨z, hzj⟩ : ∃ z, zs[j]? = some z := ⟨_, List.getElem?_eq_getElem g1⟩
      have hzr := HZB.out z (List.mem_of_getElem? hzj)
      obtain ⟨ad2, rfl, -, -, hcl2⟩ := hz.at_ (k := j) (by rw [List.length_map]; exact g1)
      have cz0 : w.cell? (ad2.add j) = some (.int .i64 z) := hcl2 j _ (by rw [List.getElem?_map, hzj]; rfl)
      have hadl2 := block_of_cell cz0
      have cz : wr.cell? (ad2.add j) = some (.int .i64 z) := (hbw.cell hadl2).trans cz0
      have q3 : (0 : Int) ≤ (j : Int) := by omega
      have q4 : (j : Int) < (zs.length : Int) := by omega
      obtain ⟨x, hx⟩ : ∃ x, x = changeL z := ⟨_, rfl⟩
      have hch := change_ok z wr hzr.1 hzr.2
      rw [← hx] at hch
      unfold chgV at hch
      have HCH := Lib.hid hch
      have HRW := Lib.hid hrow
      clear hcl2 hzj hx hch cz0 hrow
      go_wp2_with fail
      with_reducible refine (HCH.out).mono ?_
      rintro e w2 ⟨rfl, b2⟩
      have aX := Below.alloc1 w2 (.cells #[.int .i64 x.table, .int .i64 x.key, .bool x.had, .int .i64 x.old.1, .int .i64 x.old.2.1, .int .i64 x.old.2.2, .bool x.has, .int .i64 x.new.1, .int .i64 x.new.2.1, .int .i64 x.new.2.2] 45)
      have b4 := Below.next b2 aX
      have b4cell := fun {p : Addr} (hp : p.block < wr.heap.size) => b4.cell (p := p) hp
      have hX4 := BlkIs.new w2 45 #[.int .i64 x.table, .int .i64 x.key, .bool x.had, .int .i64 x.old.1, .int .i64 x.old.2.1, .int .i64 x.old.2.2, .bool x.has, .int .i64 x.new.1, .int .i64 x.new.2.1, .int .i64 x.new.2.2]
      have hR4 := hRb.later b4
      have hown4 := ownsRow_later b4 hown
      have hbi4 := Below.next hbi b4
      have hlei4 := hbi4.size
      have d0 : (w2.alloc (.cells #[.int .i64 x.table, .int .i64 x.key, .bool x.had, .int .i64 x.old.1, .int .i64 x.old.2.1, .int .i64 x.old.2.2, .bool x.has, .int .i64 x.new.1, .int .i64 x.new.2.1, .int .i64 x.new.2.2] 45)).cell? ⟨w2.heap.size, 0, none⟩ = some (.int .i64 x.table) := hX4.cell 0
      have d1 : (w2.alloc (.cells #[.int .i64 x.table, .int .i64 x.key, .bool x.had, .int .i64 x.old.1, .int .i64 x.old.2.1, .int .i64 x.old.2.2, .bool x.has, .int .i64 x.new.1, .int .i64 x.new.2.1, .int .i64 x.new.2.2] 45)).cell? ⟨w2.heap.size, 1, none⟩ = some (.int .i64 x.key) := hX4.cell 1
      have d2 : (w2.alloc (.cells #[.int .i64 x.table, .int .i64 x.key, .bool x.had, .int .i64 x.old.1, .int .i64 x.old.2.1, .int .i64 x.old.2.2, .bool x.has, .int .i64 x.new.1, .int .i64 x.new.2.1, .int .i64 x.new.2.2] 45)).cell? ⟨w2.heap.size, 2, none⟩ = some (.bool x.had) := hX4.cell 2
      have d3 : (w2.alloc (.cells #[.int .i64 x.table, .int .i64 x.key, .bool x.had, .int .i64 x.old.1, .int .i64 x.old.2.1, .int .i64 x.old.2.2, .bool x.has, .int .i64 x.new.1, .int .i64 x.new.2.1, .int .i64 x.new.2.2] 45)).cell? ⟨w2.heap.size, 3, none⟩ = some (.int .i64 x.old.1) := hX4.cell 3
      have d4 : (w2.alloc (.cells #[.int .i64 x.table, .int .i64 x.key, .bool x.had, .int .i64 x.old.1, .int .i64 x.old.2.1, .int .i64 x.old.2.2, .bool x.has, .int .i64 x.new.1, .int .i64 x.new.2.1, .int .i64 x.new.2.2] 45)).cell? ⟨w2.heap.size, 4, none⟩ = some (.int .i64 x.old.2.1) := hX4.cell 4
      have d5 : (w2.alloc (.cells #[.int .i64 x.table, .int .i64 x.key, .bool x.had, .int .i64 x.old.1, .int .i64 x.old.2.1, .int .i64 x.old.2.2, .bool x.has, .int .i64 x.new.1, .int .i64 x.new.2.1, .int .i64 x.new.2.2] 45)).cell? ⟨w2.heap.size, 5, none⟩ = some (.int .i64 x.old.2.2) := hX4.cell 5
      have d6 : (w2.alloc (.cells #[.int .i64 x.table, .int .i64 x.key, .bool x.had, .int .i64 x.old.1, .int .i64 x.old.2.1, .int .i64 x.old.2.2, .bool x.has, .int .i64 x.new.1, .int .i64 x.new.2.1, .int .i64 x.new.2.2] 45)).cell? ⟨w2.heap.size, 6, none⟩ = some (.bool x.has) := hX4.cell 6
      have d7 : (w2.alloc (.cells #[.int .i64 x.table, .int .i64 x.key, .bool x.had, .int .i64 x.old.1, .int .i64 x.old.2.1, .int .i64 x.old.2.2, .bool x.has, .int .i64 x.new.1, .int .i64 x.new.2.1, .int .i64 x.new.2.2] 45)).cell? ⟨w2.heap.size, 7, none⟩ = some (.int .i64 x.new.1) := hX4.cell 7
      have d8 : (w2.alloc (.cells #[.int .i64 x.table, .int .i64 x.key, .bool x.had, .int .i64 x.old.1, .int .i64 x.old.2.1, .int .i64 x.old.2.2, .bool x.has, .int .i64 x.new.1, .int .i64 x.new.2.1, .int .i64 x.new.2.2] 45)).cell? ⟨w2.heap.size, 8, none⟩ = some (.int .i64 x.new.2.1) := hX4.cell 8
      have d9 : (w2.alloc (.cells #[.int .i64 x.table, .int .i64 x.key, .bool x.had, .int .i64 x.old.1, .int .i64 x.old.2.1, .int .i64 x.old.2.2, .bool x.has, .int .i64 x.new.1, .int .i64 x.new.2.1, .int .i64 x.new.2.2] 45)).cell? ⟨w2.heap.size, 9, none⟩ = some (.int .i64 x.new.2.2) := hX4.cell 9
      have p0 : (w2.alloc (.cells #[.int .i64 x.table, .int .i64 x.key, .bool x.had, .int .i64 x.old.1, .int .i64 x.old.2.1, .int .i64 x.old.2.2, .bool x.has, .int .i64 x.new.1, .int .i64 x.new.2.1, .int .i64 x.new.2.2] 45)).cell? ⟨wb.heap.size, 0, none⟩ = some (.int .i64 N) := hR4.cell 0
      have p1 : (w2.alloc (.cells #[.int .i64 x.table, .int .i64 x.key, .bool x.had, .int .i64 x.old.1, .int .i64 x.old.2.1, .int .i64 x.old.2.2, .bool x.has, .int .i64 x.new.1, .int .i64 x.new.2.1, .int .i64 x.new.2.2] 45)).cell? ⟨wb.heap.size, 1, none⟩ = some (.slice A3 chs.length c3) := hR4.cell 1
      clear b2 aX hRb hown hbi cs1 cz
      have HX4 := Lib.hid hX4
      have HR4 := Lib.hid hR4
      have HOWN4 := Lib.hid hown4
      have HBI4 := Lib.hid hbi4
      clear hX4 hR4 hown4 hbi4
      rcases Nat.eq_zero_or_pos chs.length with h0 | h0
      · have s0 : ((chs.length : Int) == 0) = true := by simp only [beq_iff_eq]; omega
        clear h0
        go_wp2_with fail
        generalize (w2.alloc (.cells #[.int .i64 x.table, .int .i64 x.key, .bool x.had, .int .i64 x.old.1, .int .i64 x.old.2.1, .int .i64 x.old.2.2, .bool x.has, .int .i64 x.new.1, .int .i64 x.new.2.1, .int .i64 x.new.2.2] 45)) = w4 at *
        go_quiet (fail)
        have hR3 := HR4.out.drewN nq
        have hbi3 := below_drewN' HBI4.out nq
        have hown : (w4.drewN nq).ownsRow wb.heap.size 45 10 (.slice A3 chs.length c3) chs.length (chs.flatMap chgCells) := ⟨HOWN4.out.1, HOWN4.out.2⟩
        have x3 := HX4.out.drewN nq
        generalize w4.drewN nq = w3 at *
        have z0 : w3.cell? ⟨w2.heap.size, 0, none⟩ = some (.int .i64 x.table) := x3.cell 0
        have z1 : w3.cell? ⟨w2.heap.size, 1, none⟩ = some (.int .i64 x.key) := x3.cell 1
        have z2 : w3.cell? ⟨w2.heap.size, 2, none⟩ = some (.bool x.had) := x3.cell 2
        have z3 : w3.cell? ⟨w2.heap.size, 3, none⟩ = some (.int .i64 x.old.1) := x3.cell 3
        have z4 : w3.cell? ⟨w2.heap.size, 4, none⟩ = some (.int .i64 x.old.2.1) := x3.cell 4
        have z5 : w3.cell? ⟨w2.heap.size, 5, none⟩ = some (.int .i64 x.old.2.2) := x3.cell 5
        have z6 : w3.cell? ⟨w2.heap.size, 6, none⟩ = some (.bool x.has) := x3.cell 6
        have z7 : w3.cell? ⟨w2.heap.size, 7, none⟩ = some (.int .i64 x.new.1) := x3.cell 7
        have z8 : w3.cell? ⟨w2.heap.size, 8, none⟩ = some (.int .i64 x.new.2.1) := x3.cell 8
        have z9 : w3.cell? ⟨w2.heap.size, 9, none⟩ = some (.int .i64 x.new.2.2) := x3.cell 9
        have p01 : w3.cell? ⟨wb.heap.size, 1, none⟩ = some (.slice A3 chs.length c3) := hR3.cell 1
        have hle3 := hbi3.size

        go_wp2_with (at_builtin; refine wpList_append_own _ rfl _ _ 32 rfl wb.heap.size 45 i0 (.agg #[.int .i64 0, .int .i64 0, .bool false, .int .i64 0, .int .i64 0, .int .i64 0, .bool false, .int .i64 0, .int .i64 0, .int .i64 0]) 10 80 Tryd.underlying32 hi0 hz0 hz1 hz2 rfl (by decide) (.slice A3 chs.length c3) chs.length (chs.flatMap chgCells) rfl (hown.alloc _) ⟨w3.heap.size, 0, none⟩ 1 1 (chgCells x) rfl rfl (blk_news (BlkIs.new w3 45 (chgCells x).toArray) 0 (chgCells x) rfl) (chgCells_one x) (by unfold maxLen; omega) (by omega) (by rw [World.size_alloc]; omega) ?_; intro v5 w5 own5 g5 _; obtain ⟨A5, c5, rfl, -, -, -⟩ := ownsRow_form own5; have hr5 := (hR3.alloc (.cells (chgCells x).toArray 45)).kept g5 (BlkIs.not_row (hR3.alloc (.cells (chgCells x).toArray 45)) (by decide) (hown.alloc _)); have hb5 := below_fresh (Below.next hbi3 (Below.alloc1 w3 (.cells (chgCells x).toArray 45))) (by rw [World.size_alloc]; omega) g5 (fun k hk => (hown.lt k hk).1); have r50 : w5.cell? ⟨wb.heap.size, 0, none⟩ = some (.int .i64 N) := hr5.cell 0; have r51 : w5.cell? ⟨wb.heap.size, 1, none⟩ = some (.slice A3 chs.length c3) := hr5.cell 1; have f51 := hr5.frozen 1; clear hown hR3 hbi3 g5)
        have hr6 : BlkIs (w5.setCell ⟨wb.heap.size, 1, none⟩ (.slice A5 (chs.length + 1) c5)) wb.heap.size 34 [.int .i64 N, (.slice A5 (chs.length + 1) c5)] := hr5.set 1 (.slice A5 (chs.length + 1) c5)
        have own6 : (w5.setCell ⟨wb.heap.size, 1, none⟩ (.slice A5 (chs.length + 1) c5)).ownsRow wb.heap.size 45 10 (.slice A5 (chs.length + 1) c5) (chs ++ [x]).length ((chs ++ [x]).flatMap chgCells) := by
          rw [List.length_append, List.length_singleton, List.flatMap_append]
          have hO := Only.setCell (S := fun k => k = wb.heap.size) w5 ⟨wb.heap.size, 1, none⟩ (.slice A5 (chs.length + 1) c5) rfl
          have hgg : w5.grownBy (w5.setCell ⟨wb.heap.size, 1, none⟩ (.slice A5 (chs.length + 1) c5)) (some wb.heap.size) := ⟨hO.os, hO.tape, hO.output, hO.size, fun k hk hn => hO.block k hk fun e => hn (e ▸ rfl)⟩
          have := own5.kept hgg (.inr (hr5.not_row (by decide) own5).symm)
          simpa using this
        have hb6 := hb5.setCell (p := ⟨wb.heap.size, 1, none⟩) (Nat.le_refl _) (.slice A5 (chs.length + 1) c5)
        clear hr5 own5 hb5 r50 r51 f51
        exact ⟨⟨j + 1, chs ++ [x], (.slice A5 (chs.length + 1) c5), by omega, by omega, by go_num, hr6, own6, by rw [List.length_append, List.length_singleton]; omega, hb6⟩, by simp [intOf]; omega⟩
      · obtain ⟨g, rfl, hg, -, hgc⟩ := HRW.out h0
        obtain ⟨m, hm⟩ : ∃ m : Nat, chs.length = m + 1 := ⟨chs.length - 1, by omega⟩
        obtain ⟨p, hp⟩ : ∃ p, chs[m]? = some p := ⟨_, List.getElem?_eq_getElem (by omega)⟩
        have y0 : (w2.alloc (.cells #[.int .i64 x.table, .int .i64 x.key, .bool x.had, .int .i64 x.old.1, .int .i64 x.old.2.1, .int .i64 x.old.2.2, .bool x.has, .int .i64 x.new.1, .int .i64 x.new.2.1, .int .i64 x.new.2.2] 45)).cell? ⟨g, m * 10, none⟩ = some (.int .i64 p.table) := (b4cell (p := ⟨g, m * 10, none⟩) hg).trans (hgc _ _ (flat_get chgCells 10 chgCells_len chs m 0 p _ hp rfl))
        have y1 : (w2.alloc (.cells #[.int .i64 x.table, .int .i64 x.key, .bool x.had, .int .i64 x.old.1, .int .i64 x.old.2.1, .int .i64 x.old.2.2, .bool x.has, .int .i64 x.new.1, .int .i64 x.new.2.1, .int .i64 x.new.2.2] 45)).cell? ⟨g, m * 10 + 1, none⟩ = some (.int .i64 p.key) := (b4cell (p := ⟨g, m * 10 + 1, none⟩) hg).trans (hgc _ _ (flat_get chgCells 10 chgCells_len chs m 1 p _ hp rfl))
        have s0 : ((chs.length : Int) == 0) = false := by simp only [beq_eq_false_iff_ne, ne_eq]; omega
        have s1 : IntKind.i64.wrap ((chs.length : Int) - 1) = (m : Int) := by rw [IntKind.wrap_i64]; omega
        have s2 : IntKind.i64.wrap (m : Int) = (m : Int) := by rw [IntKind.wrap_i64]; omega
        have s3 : (0 : Int) ≤ (m : Int) := by omega
        have s4 : (m : Int) < (chs.length : Int) := by omega
        clear hgc hp hm h0 b4cell
        by_cases e1 : p.table < x.table
        · have s5 : decide (p.table < x.table) = true := by simpa using e1
          clear e1
          go_wp2_with fail
          generalize (w2.alloc (.cells #[.int .i64 x.table, .int .i64 x.key, .bool x.had, .int .i64 x.old.1, .int .i64 x.old.2.1, .int .i64 x.old.2.2, .bool x.has, .int .i64 x.new.1, .int .i64 x.new.2.1, .int .i64 x.new.2.2] 45)) = w4 at *
          go_quiet (fail)
          have hR3 := HR4.out.drewN nq
          have hbi3 := below_drewN' HBI4.out nq
          have hown : (w4.drewN nq).ownsRow wb.heap.size 45 10 (.slice (some ⟨g, 0, none⟩) chs.length c3) chs.length (chs.flatMap chgCells) := ⟨HOWN4.out.1, HOWN4.out.2⟩
          have x3 := HX4.out.drewN nq
          generalize w4.drewN nq = w3 at *
          have z0 : w3.cell? ⟨w2.heap.size, 0, none⟩ = some (.int .i64 x.table) := x3.cell 0
          have z1 : w3.cell? ⟨w2.heap.size, 1, none⟩ = some (.int .i64 x.key) := x3.cell 1
          have z2 : w3.cell? ⟨w2.heap.size, 2, none⟩ = some (.bool x.had) := x3.cell 2
          have z3 : w3.cell? ⟨w2.heap.size, 3, none⟩ = some (.int .i64 x.old.1) := x3.cell 3
          have z4 : w3.cell? ⟨w2.heap.size, 4, none⟩ = some (.int .i64 x.old.2.1) := x3.cell 4
          have z5 : w3.cell? ⟨w2.heap.size, 5, none⟩ = some (.int .i64 x.old.2.2) := x3.cell 5
          have z6 : w3.cell? ⟨w2.heap.size, 6, none⟩ = some (.bool x.has) := x3.cell 6
          have z7 : w3.cell? ⟨w2.heap.size, 7, none⟩ = some (.int .i64 x.new.1) := x3.cell 7
          have z8 : w3.cell? ⟨w2.heap.size, 8, none⟩ = some (.int .i64 x.new.2.1) := x3.cell 8
          have z9 : w3.cell? ⟨w2.heap.size, 9, none⟩ = some (.int .i64 x.new.2.2) := x3.cell 9
          have p01 : w3.cell? ⟨wb.heap.size, 1, none⟩ = some (.slice (some ⟨g, 0, none⟩) chs.length c3) := hR3.cell 1
          have hle3 := hbi3.size

          go_wp2_with (at_builtin; refine wpList_append_own _ rfl _ _ 32 rfl wb.heap.size 45 i0 (.agg #[.int .i64 0, .int .i64 0, .bool false, .int .i64 0, .int .i64 0, .int .i64 0, .bool false, .int .i64 0, .int .i64 0, .int .i64 0]) 10 80 Tryd.underlying32 hi0 hz0 hz1 hz2 rfl (by decide) (.slice (some ⟨g, 0, none⟩) chs.length c3) chs.length (chs.flatMap chgCells) rfl (hown.alloc _) ⟨w3.heap.size, 0, none⟩ 1 1 (chgCells x) rfl rfl (blk_news (BlkIs.new w3 45 (chgCells x).toArray) 0 (chgCells x) rfl) (chgCells_one x) (by unfold maxLen; omega) (by omega) (by rw [World.size_alloc]; omega) ?_; intro v5 w5 own5 g5 _; obtain ⟨A5, c5, rfl, -, -, -⟩ := ownsRow_form own5; have hr5 := (hR3.alloc (.cells (chgCells x).toArray 45)).kept g5 (BlkIs.not_row (hR3.alloc (.cells (chgCells x).toArray 45)) (by decide) (hown.alloc _)); have hb5 := below_fresh (Below.next hbi3 (Below.alloc1 w3 (.cells (chgCells x).toArray 45))) (by rw [World.size_alloc]; omega) g5 (fun k hk => (hown.lt k hk).1); have r50 : w5.cell? ⟨wb.heap.size, 0, none⟩ = some (.int .i64 N) := hr5.cell 0; have r51 : w5.cell? ⟨wb.heap.size, 1, none⟩ = some (.slice (some ⟨g, 0, none⟩) chs.length c3) := hr5.cell 1; have f51 := hr5.frozen 1; clear hown hR3 hbi3 g5)
          have hr6 : BlkIs (w5.setCell ⟨wb.heap.size, 1, none⟩ (.slice A5 (chs.length + 1) c5)) wb.heap.size 34 [.int .i64 N, (.slice A5 (chs.length + 1) c5)] := hr5.set 1 (.slice A5 (chs.length + 1) c5)
          have own6 : (w5.setCell ⟨wb.heap.size, 1, none⟩ (.slice A5 (chs.length + 1) c5)).ownsRow wb.heap.size 45 10 (.slice A5 (chs.length + 1) c5) (chs ++ [x]).length ((chs ++ [x]).flatMap chgCells) := by
            rw [List.length_append, List.length_singleton, List.flatMap_append]
            have hO := Only.setCell (S := fun k => k = wb.heap.size) w5 ⟨wb.heap.size, 1, none⟩ (.slice A5 (chs.length + 1) c5) rfl
            have hgg : w5.grownBy (w5.setCell ⟨wb.heap.size, 1, none⟩ (.slice A5 (chs.length + 1) c5)) (some wb.heap.size) := ⟨hO.os, hO.tape, hO.output, hO.size, fun k hk hn => hO.block k hk fun e => hn (e ▸ rfl)⟩
            have := own5.kept hgg (.inr (hr5.not_row (by decide) own5).symm)
            simpa using this
          have hb6 := hb5.setCell (p := ⟨wb.heap.size, 1, none⟩) (Nat.le_refl _) (.slice A5 (chs.length + 1) c5)
          clear hr5 own5 hb5 r50 r51 f51
          exact ⟨⟨j + 1, chs ++ [x], (.slice A5 (chs.length + 1) c5), by omega, by omega, by go_num, hr6, own6, by rw [List.length_append, List.length_singleton]; omega, hb6⟩, by simp [intOf]; omega⟩
        have s5 : decide (p.table < x.table) = false := by simpa using e1
        clear e1
        by_cases e2 : p.table = x.table
        case neg =>
          have s6 : (p.table == x.table) = false := by simpa using e2
          clear e2
          go_wp2_with fail
          generalize (w2.alloc (.cells #[.int .i64 x.table, .int .i64 x.key, .bool x.had, .int .i64 x.old.1, .int .i64 x.old.2.1, .int .i64 x.old.2.2, .bool x.has, .int .i64 x.new.1, .int .i64 x.new.2.1, .int .i64 x.new.2.2] 45)) = w4 at *
          go_quiet (fail)
          have hR3 := HR4.out.drewN nq
          have hbi3 := below_drewN' HBI4.out nq
          have hown : (w4.drewN nq).ownsRow wb.heap.size 45 10 (.slice (some ⟨g, 0, none⟩) chs.length c3) chs.length (chs.flatMap chgCells) := ⟨HOWN4.out.1, HOWN4.out.2⟩
          have x3 := HX4.out.drewN nq
          generalize w4.drewN nq = w3 at *

          go_wp2_with fail
          exact ⟨⟨j + 1, chs, .slice (some ⟨g, 0, none⟩) chs.length c3, by omega, by omega, by go_num, hR3, hown, by omega, hbi3⟩, by simp [intOf]; omega⟩
        have s6 : (p.table == x.table) = true := by simpa using e2
        clear e2
        by_cases e3 : p.key < x.key
        · have s7 : decide (p.key < x.key) = true := by simpa using e3
          clear e3
          go_wp2_with fail
          generalize (w2.alloc (.cells #[.int .i64 x.table, .int .i64 x.key, .bool x.had, .int .i64 x.old.1, .int .i64 x.old.2.1, .int .i64 x.old.2.2, .bool x.has, .int .i64 x.new.1, .int .i64 x.new.2.1, .int .i64 x.new.2.2] 45)) = w4 at *
          go_quiet (fail)
          have hR3 := HR4.out.drewN nq
          have hbi3 := below_drewN' HBI4.out nq
          have hown : (w4.drewN nq).ownsRow wb.heap.size 45 10 (.slice (some ⟨g, 0, none⟩) chs.length c3) chs.length (chs.flatMap chgCells) := ⟨HOWN4.out.1, HOWN4.out.2⟩
          have x3 := HX4.out.drewN nq
          generalize w4.drewN nq = w3 at *
          have z0 : w3.cell? ⟨w2.heap.size, 0, none⟩ = some (.int .i64 x.table) := x3.cell 0
          have z1 : w3.cell? ⟨w2.heap.size, 1, none⟩ = some (.int .i64 x.key) := x3.cell 1
          have z2 : w3.cell? ⟨w2.heap.size, 2, none⟩ = some (.bool x.had) := x3.cell 2
          have z3 : w3.cell? ⟨w2.heap.size, 3, none⟩ = some (.int .i64 x.old.1) := x3.cell 3
          have z4 : w3.cell? ⟨w2.heap.size, 4, none⟩ = some (.int .i64 x.old.2.1) := x3.cell 4
          have z5 : w3.cell? ⟨w2.heap.size, 5, none⟩ = some (.int .i64 x.old.2.2) := x3.cell 5
          have z6 : w3.cell? ⟨w2.heap.size, 6, none⟩ = some (.bool x.has) := x3.cell 6
          have z7 : w3.cell? ⟨w2.heap.size, 7, none⟩ = some (.int .i64 x.new.1) := x3.cell 7
          have z8 : w3.cell? ⟨w2.heap.size, 8, none⟩ = some (.int .i64 x.new.2.1) := x3.cell 8
          have z9 : w3.cell? ⟨w2.heap.size, 9, none⟩ = some (.int .i64 x.new.2.2) := x3.cell 9
          have p01 : w3.cell? ⟨wb.heap.size, 1, none⟩ = some (.slice (some ⟨g, 0, none⟩) chs.length c3) := hR3.cell 1
          have hle3 := hbi3.size

          go_wp2_with (at_builtin; refine wpList_append_own _ rfl _ _ 32 rfl wb.heap.size 45 i0 (.agg #[.int .i64 0, .int .i64 0, .bool false, .int .i64 0, .int .i64 0, .int .i64 0, .bool false, .int .i64 0, .int .i64 0, .int .i64 0]) 10 80 Tryd.underlying32 hi0 hz0 hz1 hz2 rfl (by decide) (.slice (some ⟨g, 0, none⟩) chs.length c3) chs.length (chs.flatMap chgCells) rfl (hown.alloc _) ⟨w3.heap.size, 0, none⟩ 1 1 (chgCells x) rfl rfl (blk_news (BlkIs.new w3 45 (chgCells x).toArray) 0 (chgCells x) rfl) (chgCells_one x) (by unfold maxLen; omega) (by omega) (by rw [World.size_alloc]; omega) ?_; intro v5 w5 own5 g5 _; obtain ⟨A5, c5, rfl, -, -, -⟩ := ownsRow_form own5; have hr5 := (hR3.alloc (.cells (chgCells x).toArray 45)).kept g5 (BlkIs.not_row (hR3.alloc (.cells (chgCells x).toArray 45)) (by decide) (hown.alloc _)); have hb5 := below_fresh (Below.next hbi3 (Below.alloc1 w3 (.cells (chgCells x).toArray 45))) (by rw [World.size_alloc]; omega) g5 (fun k hk => (hown.lt k hk).1); have r50 : w5.cell? ⟨wb.heap.size, 0, none⟩ = some (.int .i64 N) := hr5.cell 0; have r51 : w5.cell? ⟨wb.heap.size, 1, none⟩ = some (.slice (some ⟨g, 0, none⟩) chs.length c3) := hr5.cell 1; have f51 := hr5.frozen 1; clear hown hR3 hbi3 g5)
          have hr6 : BlkIs (w5.setCell ⟨wb.heap.size, 1, none⟩ (.slice A5 (chs.length + 1) c5)) wb.heap.size 34 [.int .i64 N, (.slice A5 (chs.length + 1) c5)] := hr5.set 1 (.slice A5 (chs.length + 1) c5)
          have own6 : (w5.setCell ⟨wb.heap.size, 1, none⟩ (.slice A5 (chs.length + 1) c5)).ownsRow wb.heap.size 45 10 (.slice A5 (chs.length + 1) c5) (chs ++ [x]).length ((chs ++ [x]).flatMap chgCells) := by
            rw [List.length_append, List.length_singleton, List.flatMap_append]
            have hO := Only.setCell (S := fun k => k = wb.heap.size) w5 ⟨wb.heap.size, 1, none⟩ (.slice A5 (chs.length + 1) c5) rfl
            have hgg : w5.grownBy (w5.setCell ⟨wb.heap.size, 1, none⟩ (.slice A5 (chs.length + 1) c5)) (some wb.heap.size) := ⟨hO.os, hO.tape, hO.output, hO.size, fun k hk hn => hO.block k hk fun e => hn (e ▸ rfl)⟩
            have := own5.kept hgg (.inr (hr5.not_row (by decide) own5).symm)
            simpa using this
          have hb6 := hb5.setCell (p := ⟨wb.heap.size, 1, none⟩) (Nat.le_refl _) (.slice A5 (chs.length + 1) c5)
          clear hr5 own5 hb5 r50 r51 f51
          exact ⟨⟨j + 1, chs ++ [x], (.slice A5 (chs.length + 1) c5), by omega, by omega, by go_num, hr6, own6, by rw [List.length_append, List.length_singleton]; omega, hb6⟩, by simp [intOf]; omega⟩
        · have s7 : decide (p.key < x.key) = false := by simpa using e3
          clear e3
          go_wp2_with fail
          generalize (w2.alloc (.cells #[.int .i64 x.table, .int .i64 x.key, .bool x.had, .int .i64 x.old.1, .int .i64 x.old.2.1, .int .i64 x.old.2.2, .bool x.has, .int .i64 x.new.1, .int .i64 x.new.2.1, .int .i64 x.new.2.2] 45)) = w4 at *
          go_quiet (fail)
          have hR3 := HR4.out.drewN nq
          have hbi3 := below_drewN' HBI4.out nq
          have hown : (w4.drewN nq).ownsRow wb.heap.size 45 10 (.slice (some ⟨g, 0, none⟩) chs.length c3) chs.length (chs.flatMap chgCells) := ⟨HOWN4.out.1, HOWN4.out.2⟩
          have x3 := HX4.out.drewN nq
          generalize w4.drewN nq = w3 at *

          go_wp2_with fail
          exact ⟨⟨j + 1, chs, .slice (some ⟨g, 0, none⟩) chs.length c3, by omega, by omega, by go_num, hR3, hown, by omega, hbi3⟩, by simp [intOf]; omega⟩
end Go.Proofs.YtheebajklnljdaaDoor
