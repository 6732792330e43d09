/- Joined: RcB LwE. -/
import Derived.Test.YtheebajklnljdaaGreatDoorGo
import Derived.BigQuiet
import Derived.Deep.QuietTactic

section
/- The law's records (written by wip/mk_rcb.py). -/
namespace Go.Proofs.YtheebajklnljdaaGreatDoor
open Go Go.RowKit
attribute [local go_sem] Oper.semAt_some

set_option maxRecDepth 100000 in
set_option maxHeartbeats 1500000 in
theorem records_ok (v : Value) (w : World) (hv : IntRows w v) :
    Calls Tryz.prog 38 #[v] w fun e w' => ∃ v' ps, e = .returned v' ∧ RecOwn w' w.heap.size v' ps ∧ ps.length ≤ 12 ∧ Below w.heap.size w w' := by
  obtain ⟨us, hs, hus⟩ := hv
  obtain ⟨i0, hi0, hz0, hz1, hz2⟩ := info_chg
  obtain ⟨i1, hi1, hy0, hy1, hy2⟩ := info_rec
  obtain ⟨A, c, rfl, hc⟩ := id hs
  have HUS := Lib.hid hus
  clear hus hc
  go_enter Tryz.func38, Tryz.ntmps38
  go_wp2_with fail
  go_loopw [3, 4] (fun ov iv wr => ∃ (k : Nat) (ps : List (Rec × Value)), k ≤ us.length ∧ k ≤ 12 ∧ iv = .int .i64 k ∧ RecOwn wr w.heap.size ov ps ∧ ps.length ≤ k ∧ Below w.heap.size w wr) (fun _ iv _ => 12 - (intOf iv).toNat)
  case atStart => exact ⟨0, [], by omega, by omega, rfl, RecOwn.nil w _, by simp, Below.refl _ _⟩
  case round =>
    obtain ⟨k, ps, hk, hk12, rfl, hro, hpl, hb⟩ := hrel
    obtain ⟨A1, c1, rfl, hc1⟩ := hro.form
    by_cases h1 : k < us.length
    case neg =>
      have t1 : decide (k < us.length) = false := by simpa using h1
      go_wp2_with fail
      go_ret
      exact ⟨_, ps, rfl, hro, by omega, hb⟩
    by_cases h2 : k < 12
    case neg =>
      have t1 : decide (k < us.length) = true := by simpa using h1
      have t2 : decide ((k : Int) < 12) = false := by simp; omega
      go_wp2_with fail
      go_ret
      exact ⟨_, ps, rfl, hro, by omega, hb⟩
    have t1 : decide (k < us.length) = true := by simpa using h1
    have t2 : decide ((k : Int) < 12) = true := by simp; omega
    obtain ⟨u, hu⟩ : ∃ u, us[k]? = some u := ⟨_, List.getElem?_eq_getElem h1⟩
    obtain ⟨zs, hz, hzb⟩ := HUS.out u (List.mem_of_getElem? hu)
    obtain ⟨ad, rfl, -, -, hcl⟩ := hs.at_ (k := k) h1
    have cs0 : w.cell? (ad.add k) = some u := hcl k u hu
    have hadl := block_of_cell cs0
    obtain ⟨A2, c2, rfl, hc2⟩ := id hz
    rw [List.length_map] at hz cs0 hc2
    obtain ⟨N, hN⟩ : ∃ N : Int, N = (ps.length : Int) + 1 := ⟨_, rfl⟩
    have hN0 : 0 ≤ N := by omega
    have hN12 : N ≤ 13 := by omega
    have HN := Lib.hid hN
    have q1 : (0 : Int) ≤ (k : Int) := by omega
    have q2 : (k : Int) < (us.length : Int) := by omega
    have HRO := Lib.hid hro
    have HZB := Lib.hid hzb
    clear hcl hu hzb hro hN
    obtain ⟨wb, hwb⟩ : ∃ W, W = wr := ⟨_, rfl⟩
    rw [← hwb] at hb HRO ⊢
    clear hwb wr
    have hle0 := hb.size
    go_wp2_with fail
    rw [← HN.out]
    have hR0 := BlkIs.new wb 35 #[.int .i64 N, .slice none 0 0]
    have hbi0 := Below.alloc1 wb (.cells #[.int .i64 N, .slice none 0 0] 35)
    go_loopw [6] (fun jv wi => ∃ (j : Nat) (chs : List Chg) (cv : Value), j ≤ zs.length ∧ j ≤ 6 ∧ jv = .int .i64 j ∧ BlkIs wi wb.heap.size 35 [.int .i64 N, cv] ∧ wi.ownsRow wb.heap.size 72 10 cv chs.length (chs.flatMap chgCells) ∧ chs.length ≤ j ∧ Below wb.heap.size wb wi) (fun jv _ => 6 - (intOf jv).toNat)
    case atStart => exact ⟨0, [], .slice none 0 0, by omega, by omega, rfl, hR0, World.ownsRow_nil _ _ _ _, by simp, hbi0⟩
    case round =>
      clear hR0 hbi0
      obtain ⟨j, chs, cv, hj, hj6, rfl, hRb, hown, hcl, hbi⟩ := hrel
      obtain ⟨A3, c3, rfl, hc3, -, hrow⟩ := ownsRow_form hown
      have hbw := hb.trans (hbi.mono hle0)
      have cs1 : wr.cell? (ad.add k) = some (.slice A2 zs.length c2) := (hbw.cell hadl).trans cs0
      have p0 : wr.cell? ⟨wb.heap.size, 0, none⟩ = some (.int .i64 N) := hRb.cell 0
      have p1 : wr.cell? ⟨wb.heap.size, 1, none⟩ = some (.slice A3 chs.length c3) := hRb.cell 1
      have hlei := hbi.size
      by_cases g1 : j < zs.length ∧ j < 6
      case neg =>
        have hend : decide (j < zs.length) = false ∨ (decide (j < zs.length) = true ∧ decide ((j : Int) < 6) = false) := by
          by_cases e : j < zs.length
          · right; refine ⟨by simpa using e, ?_⟩; simp; omega
          · left; simpa using e
        have hrc := rrec_ok N A3 c3 chs wr (ChgsOwn.chgs (S := fun _ => True) ⟨ownsRow_base0 hown, fun _ _ => trivial⟩)
        unfold recV at hrc
        obtain ⟨R, hR⟩ : ∃ y, recB ⟨N, chs⟩ = y := ⟨_, rfl⟩
        rw [hR] at hrc
        have HRC := Lib.hid hrc
        have HR := Lib.hid hR
        have HRB := Lib.hid hRb
        have HOWN := Lib.hid hown
        have HBI := Lib.hid hbi
        clear hrc hR hRb hown hbi g1 hrow
        rcases hend with t5 | ⟨t5, t6⟩
        · go_wp2_with fail
          with_reducible refine (HRC.out).mono ?_
          rintro e w6 ⟨rfl, b6⟩
          have hR6 := HRB.out.later b6
          have hown6 := ownsRow_later b6 HOWN.out
          have hbi6 := Below.next HBI.out b6
          have p0 : w6.cell? ⟨wb.heap.size, 0, none⟩ = some (.int .i64 N) := hR6.cell 0
          have p1 : w6.cell? ⟨wb.heap.size, 1, none⟩ = some (.slice A3 chs.length c3) := hR6.cell 1
          have hro6 := HRO.out.later hbi6
          have hb6 := hb.trans (hbi6.mono hle0)
          cases R
          · go_wp2_with fail
            exact ⟨⟨k + 1, ps, by omega, by omega, by go_num, hro6, by omega, hb6⟩, by simp [intOf]; omega⟩
          have hrow6 := hro6.row
          have HRO6 := Lib.hid hro6
          have HB6 := Lib.hid hb6
          have HOWN6 := Lib.hid hown6
          clear hro6 hb6 hown6
          go_wp2_with (at_builtin; refine wpList_append_own _ rfl _ _ 22 rfl w.heap.size 35 i1 (.agg #[.int .i64 0, .slice none 0 0]) 2 32 Tryz.underlying22 hi1 hy0 hy1 hy2 rfl (by decide) (.slice A1 ps.length c1) ps.length (ps.flatMap recCells) rfl (hrow6.alloc _) ⟨w6.heap.size, 0, none⟩ 1 1 (recCells (⟨N, chs⟩, .slice A3 chs.length c3)) rfl rfl (blk_news (BlkIs.new w6 35 (recCells (⟨N, chs⟩, .slice A3 chs.length c3)).toArray) 0 (recCells (⟨N, chs⟩, .slice A3 chs.length c3)) rfl) (recCells_one _ rfl) (by unfold maxLen; omega) (by omega) (by rw [World.size_alloc]; have := HB6.out.size; omega) ?_; intro v7 w7 own7 g7 _)
          have al6 := Below.alloc1 w6 (.cells (recCells (⟨N, chs⟩, .slice A3 chs.length c3)).toArray 35)
          have hadd := RecOwn.add (r := ⟨N, chs⟩) (B := wb.heap.size) (HRO6.out.later al6) g7 own7 (ownsRow_later al6 HOWN6.out) (fun p hp k hk => ((HRO.out.chs p hp).lt k hk).2) hle0 HR.out HN.out
          have hb7 := below_fresh (Below.next HB6.out al6) (by rw [World.size_alloc]; have := HB6.out.size; omega) g7 (fun k hk => (hrow6.lt k hk).1)
          exact ⟨⟨k + 1, _, by omega, by omega, by go_num, hadd, by rw [List.length_append, List.length_singleton]; omega, hb7⟩, by simp [intOf]; omega⟩
        · go_wp2_with fail
          with_reducible refine (HRC.out).mono ?_
          rintro e w6 ⟨rfl, b6⟩
          have hR6 := HRB.out.later b6
          have hown6 := ownsRow_later b6 HOWN.out
          have hbi6 := Below.next HBI.out b6
          have p0 : w6.cell? ⟨wb.heap.size, 0, none⟩ = some (.int .i64 N) := hR6.cell 0
          have p1 : w6.cell? ⟨wb.heap.size, 1, none⟩ = some (.slice A3 chs.length c3) := hR6.cell 1
          have hro6 := HRO.out.later hbi6
          have hb6 := hb.trans (hbi6.mono hle0)
          cases R
          · go_wp2_with fail
            exact ⟨⟨k + 1, ps, by omega, by omega, by go_num, hro6, by omega, hb6⟩, by simp [intOf]; omega⟩
          have hrow6 := hro6.row
          have HRO6 := Lib.hid hro6
          have HB6 := Lib.hid hb6
          have HOWN6 := Lib.hid hown6
          clear hro6 hb6 hown6
          go_wp2_with (at_builtin; refine wpList_append_own _ rfl _ _ 22 rfl w.heap.size 35 i1 (.agg #[.int .i64 0, .slice none 0 0]) 2 32 Tryz.underlying22 hi1 hy0 hy1 hy2 rfl (by decide) (.slice A1 ps.length c1) ps.length (ps.flatMap recCells) rfl (hrow6.alloc _) ⟨w6.heap.size, 0, none⟩ 1 1 (recCells (⟨N, chs⟩, .slice A3 chs.length c3)) rfl rfl (blk_news (BlkIs.new w6 35 (recCells (⟨N, chs⟩, .slice A3 chs.length c3)).toArray) 0 (recCells (⟨N, chs⟩, .slice A3 chs.length c3)) rfl) (recCells_one _ rfl) (by unfold maxLen; omega) (by omega) (by rw [World.size_alloc]; have := HB6.out.size; omega) ?_; intro v7 w7 own7 g7 _)
          have al6 := Below.alloc1 w6 (.cells (recCells (⟨N, chs⟩, .slice A3 chs.length c3)).toArray 35)
          have hadd := RecOwn.add (r := ⟨N, chs⟩) (B := wb.heap.size) (HRO6.out.later al6) g7 own7 (ownsRow_later al6 HOWN6.out) (fun p hp k hk => ((HRO.out.chs p hp).lt k hk).2) hle0 HR.out HN.out
          have hb7 := below_fresh (Below.next HB6.out al6) (by rw [World.size_alloc]; have := HB6.out.size; omega) g7 (fun k hk => (hrow6.lt k hk).1)
          exact ⟨⟨k + 1, _, by omega, by omega, by go_num, hadd, by rw [List.length_append, List.length_singleton]; omega, hb7⟩, by simp [intOf]; omega⟩
      obtain ⟨g1, g2⟩ := g1
      have t5 : decide (j < zs.length) = true := by simpa using g1
      have t6 : decide ((j : Int) < 6) = true := by simp; omega
      obtain ⟨z, hzj⟩ : ∃ z, zs[j]? = some z := ⟨_, List.getElem?_eq_getElem g1⟩
      have hzr := HZB.out z (List.mem_of_getElem? hzj)
      obtain ⟨ad2, rfl, -, -, hcl2⟩ := hz.at_ (k := j) (by rw [List.length_map]; exact g1)
      have cz0 : w.cell? (ad2.add j) = some (.int .i64 z) := hcl2 j _ (by rw [List.getElem?_map, hzj]; rfl)
      have hadl2 := block_of_cell cz0
      have cz : wr.cell? (ad2.add j) = some (.int .i64 z) := (hbw.cell hadl2).trans cz0
      have q3 : (0 : Int) ≤ (j : Int) := by omega
      have q4 : (j : Int) < (zs.length : Int) := by omega
      obtain ⟨x, hx⟩ : ∃ x, x = changeL z := ⟨_, rfl⟩
      have hch := change_ok z wr hzr.1 hzr.2
      rw [← hx] at hch
      unfold chgV at hch
      have HCH := Lib.hid hch
      have HRW := Lib.hid hrow
      clear hcl2 hzj hx hch cz0 hrow
      go_wp2_with fail
      with_reducible refine (HCH.out).mono ?_
      rintro e w2 ⟨rfl, b2⟩
      have aX := Below.alloc1 w2 (.cells #[.int .i64 x.table, .int .i64 x.key, .bool x.had, .int .i64 x.old.1, .int .i64 x.old.2.1, .int .i64 x.old.2.2, .bool x.has, .int .i64 x.new.1, .int .i64 x.new.2.1, .int .i64 x.new.2.2] 72)
      have b4 := Below.next b2 aX
      have b4cell := fun {p : Addr} (hp : p.block < wr.heap.size) => b4.cell (p := p) hp
      have hX4 := BlkIs.new w2 72 #[.int .i64 x.table, .int .i64 x.key, .bool x.had, .int .i64 x.old.1, .int .i64 x.old.2.1, .int .i64 x.old.2.2, .bool x.has, .int .i64 x.new.1, .int .i64 x.new.2.1, .int .i64 x.new.2.2]
      have hR4 := hRb.later b4
      have hown4 := ownsRow_later b4 hown
      have hbi4 := Below.next hbi b4
      have hlei4 := hbi4.size
      have d0 : (w2.alloc (.cells #[.int .i64 x.table, .int .i64 x.key, .bool x.had, .int .i64 x.old.1, .int .i64 x.old.2.1, .int .i64 x.old.2.2, .bool x.has, .int .i64 x.new.1, .int .i64 x.new.2.1, .int .i64 x.new.2.2] 72)).cell? ⟨w2.heap.size, 0, none⟩ = some (.int .i64 x.table) := hX4.cell 0
      have d1 : (w2.alloc (.cells #[.int .i64 x.table, .int .i64 x.key, .bool x.had, .int .i64 x.old.1, .int .i64 x.old.2.1, .int .i64 x.old.2.2, .bool x.has, .int .i64 x.new.1, .int .i64 x.new.2.1, .int .i64 x.new.2.2] 72)).cell? ⟨w2.heap.size, 1, none⟩ = some (.int .i64 x.key) := hX4.cell 1
      have d2 : (w2.alloc (.cells #[.int .i64 x.table, .int .i64 x.key, .bool x.had, .int .i64 x.old.1, .int .i64 x.old.2.1, .int .i64 x.old.2.2, .bool x.has, .int .i64 x.new.1, .int .i64 x.new.2.1, .int .i64 x.new.2.2] 72)).cell? ⟨w2.heap.size, 2, none⟩ = some (.bool x.had) := hX4.cell 2
      have d3 : (w2.alloc (.cells #[.int .i64 x.table, .int .i64 x.key, .bool x.had, .int .i64 x.old.1, .int .i64 x.old.2.1, .int .i64 x.old.2.2, .bool x.has, .int .i64 x.new.1, .int .i64 x.new.2.1, .int .i64 x.new.2.2] 72)).cell? ⟨w2.heap.size, 3, none⟩ = some (.int .i64 x.old.1) := hX4.cell 3
      have d4 : (w2.alloc (.cells #[.int .i64 x.table, .int .i64 x.key, .bool x.had, .int .i64 x.old.1, .int .i64 x.old.2.1, .int .i64 x.old.2.2, .bool x.has, .int .i64 x.new.1, .int .i64 x.new.2.1, .int .i64 x.new.2.2] 72)).cell? ⟨w2.heap.size, 4, none⟩ = some (.int .i64 x.old.2.1) := hX4.cell 4
      have d5 : (w2.alloc (.cells #[.int .i64 x.table, .int .i64 x.key, .bool x.had, .int .i64 x.old.1, .int .i64 x.old.2.1, .int .i64 x.old.2.2, .bool x.has, .int .i64 x.new.1, .int .i64 x.new.2.1, .int .i64 x.new.2.2] 72)).cell? ⟨w2.heap.size, 5, none⟩ = some (.int .i64 x.old.2.2) := hX4.cell 5
      have d6 : (w2.alloc (.cells #[.int .i64 x.table, .int .i64 x.key, .bool x.had, .int .i64 x.old.1, .int .i64 x.old.2.1, .int .i64 x.old.2.2, .bool x.has, .int .i64 x.new.1, .int .i64 x.new.2.1, .int .i64 x.new.2.2] 72)).cell? ⟨w2.heap.size, 6, none⟩ = some (.bool x.has) := hX4.cell 6
      have d7 : (w2.alloc (.cells #[.int .i64 x.table, .int .i64 x.key, .bool x.had, .int .i64 x.old.1, .int .i64 x.old.2.1, .int .i64 x.old.2.2, .bool x.has, .int .i64 x.new.1, .int .i64 x.new.2.1, .int .i64 x.new.2.2] 72)).cell? ⟨w2.heap.size, 7, none⟩ = some (.int .i64 x.new.1) := hX4.cell 7
      have d8 : (w2.alloc (.cells #[.int .i64 x.table, .int .i64 x.key, .bool x.had, .int .i64 x.old.1, .int .i64 x.old.2.1, .int .i64 x.old.2.2, .bool x.has, .int .i64 x.new.1, .int .i64 x.new.2.1, .int .i64 x.new.2.2] 72)).cell? ⟨w2.heap.size, 8, none⟩ = some (.int .i64 x.new.2.1) := hX4.cell 8
      have d9 : (w2.alloc (.cells #[.int .i64 x.table, .int .i64 x.key, .bool x.had, .int .i64 x.old.1, .int .i64 x.old.2.1, .int .i64 x.old.2.2, .bool x.has, .int .i64 x.new.1, .int .i64 x.new.2.1, .int .i64 x.new.2.2] 72)).cell? ⟨w2.heap.size, 9, none⟩ = some (.int .i64 x.new.2.2) := hX4.cell 9
      have p0 : (w2.alloc (.cells #[.int .i64 x.table, .int .i64 x.key, .bool x.had, .int .i64 x.old.1, .int .i64 x.old.2.1, .int .i64 x.old.2.2, .bool x.has, .int .i64 x.new.1, .int .i64 x.new.2.1, .int .i64 x.new.2.2] 72)).cell? ⟨wb.heap.size, 0, none⟩ = some (.int .i64 N) := hR4.cell 0
      have p1 : (w2.alloc (.cells #[.int .i64 x.table, .int .i64 x.key, .bool x.had, .int .i64 x.old.1, .int .i64 x.old.2.1, .int .i64 x.old.2.2, .bool x.has, .int .i64 x.new.1, .int .i64 x.new.2.1, .int .i64 x.new.2.2] 72)).cell? ⟨wb.heap.size, 1, none⟩ = some (.slice A3 chs.length c3) := hR4.cell 1
      clear b2 aX hRb hown hbi cs1 cz
      have HX4 := Lib.hid hX4
      have HR4 := Lib.hid hR4
      have HOWN4 := Lib.hid hown4
      have HBI4 := Lib.hid hbi4
      clear hX4 hR4 hown4 hbi4
      rcases Nat.eq_zero_or_pos chs.length with h0 | h0
      · have s0 : ((chs.length : Int) == 0) = true := by simp only [beq_iff_eq]; omega
        clear h0
        go_wp2_with fail
        generalize (w2.alloc (.cells #[.int .i64 x.table, .int .i64 x.key, .bool x.had, .int .i64 x.old.1, .int .i64 x.old.2.1, .int .i64 x.old.2.2, .bool x.has, .int .i64 x.new.1, .int .i64 x.new.2.1, .int .i64 x.new.2.2] 72)) = w4 at *
        go_quiet (fail)
        have hR3 := HR4.out.drewN nq
        have hbi3 := below_drewN' HBI4.out nq
        have hown : (w4.drewN nq).ownsRow wb.heap.size 72 10 (.slice A3 chs.length c3) chs.length (chs.flatMap chgCells) := ⟨HOWN4.out.1, HOWN4.out.2⟩
        have x3 := HX4.out.drewN nq
        generalize w4.drewN nq = w3 at *
        have z0 : w3.cell? ⟨w2.heap.size, 0, none⟩ = some (.int .i64 x.table) := x3.cell 0
        have z1 : w3.cell? ⟨w2.heap.size, 1, none⟩ = some (.int .i64 x.key) := x3.cell 1
        have z2 : w3.cell? ⟨w2.heap.size, 2, none⟩ = some (.bool x.had) := x3.cell 2
        have z3 : w3.cell? ⟨w2.heap.size, 3, none⟩ = some (.int .i64 x.old.1) := x3.cell 3
        have z4 : w3.cell? ⟨w2.heap.size, 4, none⟩ = some (.int .i64 x.old.2.1) := x3.cell 4
        have z5 : w3.cell? ⟨w2.heap.size, 5, none⟩ = some (.int .i64 x.old.2.2) := x3.cell 5
        have z6 : w3.cell? ⟨w2.heap.size, 6, none⟩ = some (.bool x.has) := x3.cell 6
        have z7 : w3.cell? ⟨w2.heap.size, 7, none⟩ = some (.int .i64 x.new.1) := x3.cell 7
        have z8 : w3.cell? ⟨w2.heap.size, 8, none⟩ = some (.int .i64 x.new.2.1) := x3.cell 8
        have z9 : w3.cell? ⟨w2.heap.size, 9, none⟩ = some (.int .i64 x.new.2.2) := x3.cell 9
        have p01 : w3.cell? ⟨wb.heap.size, 1, none⟩ = some (.slice A3 chs.length c3) := hR3.cell 1
        have hle3 := hbi3.size

        go_wp2_with (at_builtin; refine wpList_append_own _ rfl _ _ 33 rfl wb.heap.size 72 i0 (.agg #[.int .i64 0, .int .i64 0, .bool false, .int .i64 0, .int .i64 0, .int .i64 0, .bool false, .int .i64 0, .int .i64 0, .int .i64 0]) 10 80 Tryz.underlying33 hi0 hz0 hz1 hz2 rfl (by decide) (.slice A3 chs.length c3) chs.length (chs.flatMap chgCells) rfl (hown.alloc _) ⟨w3.heap.size, 0, none⟩ 1 1 (chgCells x) rfl rfl (blk_news (BlkIs.new w3 72 (chgCells x).toArray) 0 (chgCells x) rfl) (chgCells_one x) (by unfold maxLen; omega) (by omega) (by rw [World.size_alloc]; omega) ?_; intro v5 w5 own5 g5 _; obtain ⟨A5, c5, rfl, -, -, -⟩ := ownsRow_form own5; have hr5 := (hR3.alloc (.cells (chgCells x).toArray 72)).kept g5 (BlkIs.not_row (hR3.alloc (.cells (chgCells x).toArray 72)) (by decide) (hown.alloc _)); have hb5 := below_fresh (Below.next hbi3 (Below.alloc1 w3 (.cells (chgCells x).toArray 72))) (by rw [World.size_alloc]; omega) g5 (fun k hk => (hown.lt k hk).1); have r50 : w5.cell? ⟨wb.heap.size, 0, none⟩ = some (.int .i64 N) := hr5.cell 0; have r51 : w5.cell? ⟨wb.heap.size, 1, none⟩ = some (.slice A3 chs.length c3) := hr5.cell 1; have f51 := hr5.frozen 1; clear hown hR3 hbi3 g5)
        have hr6 : BlkIs (w5.setCell ⟨wb.heap.size, 1, none⟩ (.slice A5 (chs.length + 1) c5)) wb.heap.size 35 [.int .i64 N, (.slice A5 (chs.length + 1) c5)] := hr5.set 1 (.slice A5 (chs.length + 1) c5)
        have own6 : (w5.setCell ⟨wb.heap.size, 1, none⟩ (.slice A5 (chs.length + 1) c5)).ownsRow wb.heap.size 72 10 (.slice A5 (chs.length + 1) c5) (chs ++ [x]).length ((chs ++ [x]).flatMap chgCells) := by
          rw [List.length_append, List.length_singleton, List.flatMap_append]
          have hO := Only.setCell (S := fun k => k = wb.heap.size) w5 ⟨wb.heap.size, 1, none⟩ (.slice A5 (chs.length + 1) c5) rfl
          have hgg : w5.grownBy (w5.setCell ⟨wb.heap.size, 1, none⟩ (.slice A5 (chs.length + 1) c5)) (some wb.heap.size) := ⟨hO.os, hO.tape, hO.output, hO.size, fun k hk hn => hO.block k hk fun e => hn (e ▸ rfl)⟩
          have := own5.kept hgg (.inr (hr5.not_row (by decide) own5).symm)
          simpa using this
        have hb6 := hb5.setCell (p := ⟨wb.heap.size, 1, none⟩) (Nat.le_refl _) (.slice A5 (chs.length + 1) c5)
        clear hr5 own5 hb5 r50 r51 f51
        exact ⟨⟨j + 1, chs ++ [x], (.slice A5 (chs.length + 1) c5), by omega, by omega, by go_num, hr6, own6, by rw [List.length_append, List.length_singleton]; omega, hb6⟩, by simp [intOf]; omega⟩
      · obtain ⟨g, rfl, hg, -, hgc⟩ := HRW.out h0
        obtain ⟨m, hm⟩ : ∃ m : Nat, chs.length = m + 1 := ⟨chs.length - 1, by omega⟩
        obtain ⟨p, hp⟩ : ∃ p, chs[m]? = some p := ⟨_, List.getElem?_eq_getElem (by omega)⟩
        have y0 : (w2.alloc (.cells #[.int .i64 x.table, .int .i64 x.key, .bool x.had, .int .i64 x.old.1, .int .i64 x.old.2.1, .int .i64 x.old.2.2, .bool x.has, .int .i64 x.new.1, .int .i64 x.new.2.1, .int .i64 x.new.2.2] 72)).cell? ⟨g, m * 10, none⟩ = some (.int .i64 p.table) := (b4cell (p := ⟨g, m * 10, none⟩) hg).trans (hgc _ _ (flat_get chgCells 10 chgCells_len chs m 0 p _ hp rfl))
        have y1 : (w2.alloc (.cells #[.int .i64 x.table, .int .i64 x.key, .bool x.had, .int .i64 x.old.1, .int .i64 x.old.2.1, .int .i64 x.old.2.2, .bool x.has, .int .i64 x.new.1, .int .i64 x.new.2.1, .int .i64 x.new.2.2] 72)).cell? ⟨g, m * 10 + 1, none⟩ = some (.int .i64 p.key) := (b4cell (p := ⟨g, m * 10 + 1, none⟩) hg).trans (hgc _ _ (flat_get chgCells 10 chgCells_len chs m 1 p _ hp rfl))
        have s0 : ((chs.length : Int) == 0) = false := by simp only [beq_eq_false_iff_ne, ne_eq]; omega
        have s1 : IntKind.i64.wrap ((chs.length : Int) - 1) = (m : Int) := by rw [IntKind.wrap_i64]; omega
        have s2 : IntKind.i64.wrap (m : Int) = (m : Int) := by rw [IntKind.wrap_i64]; omega
        have s3 : (0 : Int) ≤ (m : Int) := by omega
        have s4 : (m : Int) < (chs.length : Int) := by omega
        clear hgc hp hm h0 b4cell
        by_cases e1 : p.table < x.table
        · have s5 : decide (p.table < x.table) = true := by simpa using e1
          clear e1
          go_wp2_with fail
          generalize (w2.alloc (.cells #[.int .i64 x.table, .int .i64 x.key, .bool x.had, .int .i64 x.old.1, .int .i64 x.old.2.1, .int .i64 x.old.2.2, .bool x.has, .int .i64 x.new.1, .int .i64 x.new.2.1, .int .i64 x.new.2.2] 72)) = w4 at *
          go_quiet (fail)
          have hR3 := HR4.out.drewN nq
          have hbi3 := below_drewN' HBI4.out nq
          have hown : (w4.drewN nq).ownsRow wb.heap.size 72 10 (.slice (some ⟨g, 0, none⟩) chs.length c3) chs.length (chs.flatMap chgCells) := ⟨HOWN4.out.1, HOWN4.out.2⟩
          have x3 := HX4.out.drewN nq
          generalize w4.drewN nq = w3 at *
          have z0 : w3.cell? ⟨w2.heap.size, 0, none⟩ = some (.int .i64 x.table) := x3.cell 0
          have z1 : w3.cell? ⟨w2.heap.size, 1, none⟩ = some (.int .i64 x.key) := x3.cell 1
          have z2 : w3.cell? ⟨w2.heap.size, 2, none⟩ = some (.bool x.had) := x3.cell 2
          have z3 : w3.cell? ⟨w2.heap.size, 3, none⟩ = some (.int .i64 x.old.1) := x3.cell 3
          have z4 : w3.cell? ⟨w2.heap.size, 4, none⟩ = some (.int .i64 x.old.2.1) := x3.cell 4
          have z5 : w3.cell? ⟨w2.heap.size, 5, none⟩ = some (.int .i64 x.old.2.2) := x3.cell 5
          have z6 : w3.cell? ⟨w2.heap.size, 6, none⟩ = some (.bool x.has) := x3.cell 6
          have z7 : w3.cell? ⟨w2.heap.size, 7, none⟩ = some (.int .i64 x.new.1) := x3.cell 7
          have z8 : w3.cell? ⟨w2.heap.size, 8, none⟩ = some (.int .i64 x.new.2.1) := x3.cell 8
          have z9 : w3.cell? ⟨w2.heap.size, 9, none⟩ = some (.int .i64 x.new.2.2) := x3.cell 9
          have p01 : w3.cell? ⟨wb.heap.size, 1, none⟩ = some (.slice (some ⟨g, 0, none⟩) chs.length c3) := hR3.cell 1
          have hle3 := hbi3.size

          go_wp2_with (at_builtin; refine wpList_append_own _ rfl _ _ 33 rfl wb.heap.size 72 i0 (.agg #[.int .i64 0, .int .i64 0, .bool false, .int .i64 0, .int .i64 0, .int .i64 0, .bool false, .int .i64 0, .int .i64 0, .int .i64 0]) 10 80 Tryz.underlying33 hi0 hz0 hz1 hz2 rfl (by decide) (.slice (some ⟨g, 0, none⟩) chs.length c3) chs.length (chs.flatMap chgCells) rfl (hown.alloc _) ⟨w3.heap.size, 0, none⟩ 1 1 (chgCells x) rfl rfl (blk_news (BlkIs.new w3 72 (chgCells x).toArray) 0 (chgCells x) rfl) (chgCells_one x) (by unfold maxLen; omega) (by omega) (by rw [World.size_alloc]; omega) ?_; intro v5 w5 own5 g5 _; obtain ⟨A5, c5, rfl, -, -, -⟩ := ownsRow_form own5; have hr5 := (hR3.alloc (.cells (chgCells x).toArray 72)).kept g5 (BlkIs.not_row (hR3.alloc (.cells (chgCells x).toArray 72)) (by decide) (hown.alloc _)); have hb5 := below_fresh (Below.next hbi3 (Below.alloc1 w3 (.cells (chgCells x).toArray 72))) (by rw [World.size_alloc]; omega) g5 (fun k hk => (hown.lt k hk).1); have r50 : w5.cell? ⟨wb.heap.size, 0, none⟩ = some (.int .i64 N) := hr5.cell 0; have r51 : w5.cell? ⟨wb.heap.size, 1, none⟩ = some (.slice (some ⟨g, 0, none⟩) chs.length c3) := hr5.cell 1; have f51 := hr5.frozen 1; clear hown hR3 hbi3 g5)
          have hr6 : BlkIs (w5.setCell ⟨wb.heap.size, 1, none⟩ (.slice A5 (chs.length + 1) c5)) wb.heap.size 35 [.int .i64 N, (.slice A5 (chs.length + 1) c5)] := hr5.set 1 (.slice A5 (chs.length + 1) c5)
          have own6 : (w5.setCell ⟨wb.heap.size, 1, none⟩ (.slice A5 (chs.length + 1) c5)).ownsRow wb.heap.size 72 10 (.slice A5 (chs.length + 1) c5) (chs ++ [x]).length ((chs ++ [x]).flatMap chgCells) := by
            rw [List.length_append, List.length_singleton, List.flatMap_append]
            have hO := Only.setCell (S := fun k => k = wb.heap.size) w5 ⟨wb.heap.size, 1, none⟩ (.slice A5 (chs.length + 1) c5) rfl
            have hgg : w5.grownBy (w5.setCell ⟨wb.heap.size, 1, none⟩ (.slice A5 (chs.length + 1) c5)) (some wb.heap.size) := ⟨hO.os, hO.tape, hO.output, hO.size, fun k hk hn => hO.block k hk fun e => hn (e ▸ rfl)⟩
            have := own5.kept hgg (.inr (hr5.not_row (by decide) own5).symm)
            simpa using this
          have hb6 := hb5.setCell (p := ⟨wb.heap.size, 1, none⟩) (Nat.le_refl _) (.slice A5 (chs.length + 1) c5)
          clear hr5 own5 hb5 r50 r51 f51
          exact ⟨⟨j + 1, chs ++ [x], (.slice A5 (chs.length + 1) c5), by omega, by omega, by go_num, hr6, own6, by rw [List.length_append, List.length_singleton]; omega, hb6⟩, by simp [intOf]; omega⟩
        have s5 : decide (p.table < x.table) = false := by simpa using e1
        clear e1
        by_cases e2 : p.table = x.table
        case neg =>
          have s6 : (p.table == x.table) = false := by simpa using e2
          clear e2
          go_wp2_with fail
          generalize (w2.alloc (.cells #[.int .i64 x.table, .int .i64 x.key, .bool x.had, .int .i64 x.old.1, .int .i64 x.old.2.1, .int .i64 x.old.2.2, .bool x.has, .int .i64 x.new.1, .int .i64 x.new.2.1, .int .i64 x.new.2.2] 72)) = w4 at *
          go_quiet (fail)
          have hR3 := HR4.out.drewN nq
          have hbi3 := below_drewN' HBI4.out nq
          have hown : (w4.drewN nq).ownsRow wb.heap.size 72 10 (.slice (some ⟨g, 0, none⟩) chs.length c3) chs.length (chs.flatMap chgCells) := ⟨HOWN4.out.1, HOWN4.out.2⟩
          have x3 := HX4.out.drewN nq
          generalize w4.drewN nq = w3 at *

          go_wp2_with fail
          exact ⟨⟨j + 1, chs, .slice (some ⟨g, 0, none⟩) chs.length c3, by omega, by omega, by go_num, hR3, hown, by omega, hbi3⟩, by simp [intOf]; omega⟩
        have s6 : (p.table == x.table) = true := by simpa using e2
        clear e2
        by_cases e3 : p.key < x.key
        · have s7 : decide (p.key < x.key) = true := by simpa using e3
          clear e3
          go_wp2_with fail
          generalize (w2.alloc (.cells #[.int .i64 x.table, .int .i64 x.key, .bool x.had, .int .i64 x.old.1, .int .i64 x.old.2.1, .int .i64 x.old.2.2, .bool x.has, .int .i64 x.new.1, .int .i64 x.new.2.1, .int .i64 x.new.2.2] 72)) = w4 at *
          go_quiet (fail)
          have hR3 := HR4.out.drewN nq
          have hbi3 := below_drewN' HBI4.out nq
          have hown : (w4.drewN nq).ownsRow wb.heap.size 72 10 (.slice (some ⟨g, 0, none⟩) chs.length c3) chs.length (chs.flatMap chgCells) := ⟨HOWN4.out.1, HOWN4.out.2⟩
          have x3 := HX4.out.drewN nq
          generalize w4.drewN nq = w3 at *
          have z0 : w3.cell? ⟨w2.heap.size, 0, none⟩ = some (.int .i64 x.table) := x3.cell 0
          have z1 : w3.cell? ⟨w2.heap.size, 1, none⟩ = some (.int .i64 x.key) := x3.cell 1
          have z2 : w3.cell? ⟨w2.heap.size, 2, none⟩ = some (.bool x.had) := x3.cell 2
          have z3 : w3.cell? ⟨w2.heap.size, 3, none⟩ = some (.int .i64 x.old.1) := x3.cell 3
          have z4 : w3.cell? ⟨w2.heap.size, 4, none⟩ = some (.int .i64 x.old.2.1) := x3.cell 4
          have z5 : w3.cell? ⟨w2.heap.size, 5, none⟩ = some (.int .i64 x.old.2.2) := x3.cell 5
          have z6 : w3.cell? ⟨w2.heap.size, 6, none⟩ = some (.bool x.has) := x3.cell 6
          have z7 : w3.cell? ⟨w2.heap.size, 7, none⟩ = some (.int .i64 x.new.1) := x3.cell 7
          have z8 : w3.cell? ⟨w2.heap.size, 8, none⟩ = some (.int .i64 x.new.2.1) := x3.cell 8
          have z9 : w3.cell? ⟨w2.heap.size, 9, none⟩ = some (.int .i64 x.new.2.2) := x3.cell 9
          have p01 : w3.cell? ⟨wb.heap.size, 1, none⟩ = some (.slice (some ⟨g, 0, none⟩) chs.length c3) := hR3.cell 1
          have hle3 := hbi3.size

          go_wp2_with (at_builtin; refine wpList_append_own _ rfl _ _ 33 rfl wb.heap.size 72 i0 (.agg #[.int .i64 0, .int .i64 0, .bool false, .int .i64 0, .int .i64 0, .int .i64 0, .bool false, .int .i64 0, .int .i64 0, .int .i64 0]) 10 80 Tryz.underlying33 hi0 hz0 hz1 hz2 rfl (by decide) (.slice (some ⟨g, 0, none⟩) chs.length c3) chs.length (chs.flatMap chgCells) rfl (hown.alloc _) ⟨w3.heap.size, 0, none⟩ 1 1 (chgCells x) rfl rfl (blk_news (BlkIs.new w3 72 (chgCells x).toArray) 0 (chgCells x) rfl) (chgCells_one x) (by unfold maxLen; omega) (by omega) (by rw [World.size_alloc]; omega) ?_; intro v5 w5 own5 g5 _; obtain ⟨A5, c5, rfl, -, -, -⟩ := ownsRow_form own5; have hr5 := (hR3.alloc (.cells (chgCells x).toArray 72)).kept g5 (BlkIs.not_row (hR3.alloc (.cells (chgCells x).toArray 72)) (by decide) (hown.alloc _)); have hb5 := below_fresh (Below.next hbi3 (Below.alloc1 w3 (.cells (chgCells x).toArray 72))) (by rw [World.size_alloc]; omega) g5 (fun k hk => (hown.lt k hk).1); have r50 : w5.cell? ⟨wb.heap.size, 0, none⟩ = some (.int .i64 N) := hr5.cell 0; have r51 : w5.cell? ⟨wb.heap.size, 1, none⟩ = some (.slice (some ⟨g, 0, none⟩) chs.length c3) := hr5.cell 1; have f51 := hr5.frozen 1; clear hown hR3 hbi3 g5)
          have hr6 : BlkIs (w5.setCell ⟨wb.heap.size, 1, none⟩ (.slice A5 (chs.length + 1) c5)) wb.heap.size 35 [.int .i64 N, (.slice A5 (chs.length + 1) c5)] := hr5.set 1 (.slice A5 (chs.length + 1) c5)
          have own6 : (w5.setCell ⟨wb.heap.size, 1, none⟩ (.slice A5 (chs.length + 1) c5)).ownsRow wb.heap.size 72 10 (.slice A5 (chs.length + 1) c5) (chs ++ [x]).length ((chs ++ [x]).flatMap chgCells) := by
            rw [List.length_append, List.length_singleton, List.flatMap_append]
            have hO := Only.setCell (S := fun k => k = wb.heap.size) w5 ⟨wb.heap.size, 1, none⟩ (.slice A5 (chs.length + 1) c5) rfl
            have hgg : w5.grownBy (w5.setCell ⟨wb.heap.size, 1, none⟩ (.slice A5 (chs.length + 1) c5)) (some wb.heap.size) := ⟨hO.os, hO.tape, hO.output, hO.size, fun k hk hn => hO.block k hk fun e => hn (e ▸ rfl)⟩
            have := own5.kept hgg (.inr (hr5.not_row (by decide) own5).symm)
            simpa using this
          have hb6 := hb5.setCell (p := ⟨wb.heap.size, 1, none⟩) (Nat.le_refl _) (.slice A5 (chs.length + 1) c5)
          clear hr5 own5 hb5 r50 r51 f51
          exact ⟨⟨j + 1, chs ++ [x], (.slice A5 (chs.length + 1) c5), by omega, by omega, by go_num, hr6, own6, by rw [List.length_append, List.length_singleton]; omega, hb6⟩, by simp [intOf]; omega⟩
        · have s7 : decide (p.key < x.key) = false := by simpa using e3
          clear e3
          go_wp2_with fail
          generalize (w2.alloc (.cells #[.int .i64 x.table, .int .i64 x.key, .bool x.had, .int .i64 x.old.1, .int .i64 x.old.2.1, .int .i64 x.old.2.2, .bool x.has, .int .i64 x.new.1, .int .i64 x.new.2.1, .int .i64 x.new.2.2] 72)) = w4 at *
          go_quiet (fail)
          have hR3 := HR4.out.drewN nq
          have hbi3 := below_drewN' HBI4.out nq
          have hown : (w4.drewN nq).ownsRow wb.heap.size 72 10 (.slice (some ⟨g, 0, none⟩) chs.length c3) chs.length (chs.flatMap chgCells) := ⟨HOWN4.out.1, HOWN4.out.2⟩
          have x3 := HX4.out.drewN nq
          generalize w4.drewN nq = w3 at *

          go_wp2_with fail
          exact ⟨⟨j + 1, chs, .slice (some ⟨g, 0, none⟩) chs.length c3, by omega, by omega, by go_num, hR3, hown, by omega, hbi3⟩, by simp [intOf]; omega⟩
end Go.Proofs.YtheebajklnljdaaGreatDoor
end

section
/- The calls of sane, each in the form that its walk meets. -/
namespace Go.Proofs.YtheebajklnljdaaGreatDoor
open Go Go.RowKit

theorem sn_head0 {w : World} {b R G : Nat} {W : World} (h : Sn w b R G x1L W) : Calls Tryz.prog 18 #[.pointer (some ⟨b, 0, none⟩), .int .i64 0] W fun e w' => e = .returned (.tuple #[hdV h0L, .bool true]) ∧ Below W.heap.size W w' := by
  obtain ⟨S, hL⟩ := h.log
  have := head_ok hL ((0 : Nat) : Int)
  rw [headA_in (k := 0) (h := h0L) rfl] at this
  exact this
theorem sn_head1 {w : World} {b R G : Nat} {W : World} (h : Sn w b R G x1L W) : Calls Tryz.prog 18 #[.pointer (some ⟨b, 0, none⟩), .int .i64 1] W fun e w' => e = .returned (.tuple #[hdV h1L, .bool true]) ∧ Below W.heap.size W w' := by
  obtain ⟨S, hL⟩ := h.log
  have := head_ok hL ((1 : Nat) : Int)
  rw [headA_in (k := 1) (h := h1L) rfl] at this
  exact this
theorem sn_enc (W : World) : Calls Tryz.prog 30 #[hdV h1L] W fun e w' => e = .returned (.tuple #[.string (str (encHd h1L)), .int .i64 0]) ∧ Below W.heap.size W w' := by
  have := hencode_ok h1L W
  rw [show encA h1L = (encHd h1L, 0) from if_pos h1_good] at this
  exact this
theorem sn_dec (W : World) : Calls Tryz.prog 32 #[.string (str (encHd h1L))] W fun e w' => e = .returned (.tuple #[hdV h1L, .int .i64 0]) ∧ Below W.heap.size W w' := by
  have := hdecode_ok (str (encHd h1L)) W (by rw [size_mk, h1_len]; decide)
  rw [mk_toList, decA_enc h1_good] at this
  exact this
theorem x1_heads : x1L.heads.length = 2 := rfl
theorem sn_prove1 {w : World} {b R G : Nat} {W : World} (h : Sn w b R G x1L W) (hR : RoundOk w) : Calls Tryz.prog 23 #[.pointer (some ⟨b, 0, none⟩), .int .i64 1] W fun e w' => ∃ A c, e = .returned (.tuple #[.slice A (proofL (leavesL x1L) 1).length c, .int .i64 0]) ∧ ListAt w' (.slice A (proofL (leavesL x1L) 1).length c) (proofL (leavesL x1L) 1) ∧ Below W.heap.size W w' := by
  obtain ⟨S, hL⟩ := h.log
  exact lprove_ok hL x1_good 1 (by rw [x1_heads]; decide) (hR.later h.below)
theorem sn_prove2 {w : World} {b R G : Nat} {W : World} (h : Sn w b R G x1L W) : Calls Tryz.prog 23 #[.pointer (some ⟨b, 0, none⟩), .int .i64 2] W fun e w' => e = .returned (.tuple #[.slice none 0 0, .int .i64 2]) ∧ Below W.heap.size W w' := by
  obtain ⟨S, hL⟩ := h.log
  exact lprove_out hL 2 (.inr (by rw [x1_heads]; decide))
theorem sn_ext2 {w : World} {b R G : Nat} {W : World} (h : Sn w b R G x1L W) : Calls Tryz.prog 25 #[.pointer (some ⟨b, 0, none⟩), .int .i64 2] W fun e w' => e = .returned (.tuple #[.slice none 0 0, .int .i64 2]) ∧ Below W.heap.size W w' := by
  obtain ⟨S, hL⟩ := h.log
  exact lext_out hL 2 (.inr (by rw [x1_heads]; decide))
theorem sn_record {w : World} {b R G : Nat} {W : World} (h : Sn w b R G x1L W) : Calls Tryz.prog 20 #[.pointer (some ⟨b, 0, none⟩), .int .i64 1] W fun e w' => ∃ g c, e = .returned (.tuple #[recV 1 (.slice (some ⟨g, 0, none⟩) 1 c), .bool true]) ∧ ChgsAt w' (.slice (some ⟨g, 0, none⟩) 1 c) [changeL 7] ∧ Below W.heap.size W w' := by
  obtain ⟨S, hL⟩ := h.log
  have := record_ok hL x1_good 0 r7 rfl
  rw [show ((0 : Nat) : Int) + 1 = 1 from rfl] at this
  refine this.mono ?_
  rintro e w' ⟨g, c, he, own, hb⟩
  exact ⟨g, c, he, ChgsOwn.chgs (S := fun _ => True) (l := [changeL 7]) ⟨ownsRow_base0 own, fun _ _ => trivial⟩, hb⟩
theorem sn_root {w : World} {b R G : Nat} {W : World} (h : Sn w b R G x1L W) (hR : RoundOk w) : Calls Tryz.prog 15 #[.pointer (some ⟨b, 0, none⟩)] W fun e w' => e = .returned (.string (str (rootA x1L))) ∧ Below W.heap.size W w' := by
  obtain ⟨S, hL⟩ := h.log
  exact lroot_ok hL x1_good (hR.later h.below)
theorem sn_ver1 (W : World) (v : Value) (hv : ListAt W v (proofL (leavesL x1L) 1)) (hR : RoundOk W) : Calls Tryz.prog 36 #[.string (str (rootA x1L)), .int .i64 1, hdV h1L, v] W fun e w' => e = .returned (.bool true) ∧ Below W.heap.size W w' := by
  have := lverify_ok (str (rootA x1L)) 1 h1L v (proofL (leavesL x1L) 1) W hv (by rw [proof_one_len]; decide) hR
  rw [mk_toList, ver_yes1] at this
  exact this
theorem sn_ver0 (W : World) (v : Value) (hv : ListAt W v (proofL (leavesL x1L) 1)) (hR : RoundOk W) : Calls Tryz.prog 36 #[.string (str (rootA x1L)), .int .i64 1, hdV h0L, v] W fun e w' => e = .returned (.bool false) ∧ Below W.heap.size W w' := by
  have := lverify_ok (str (rootA x1L)) 1 h0L v (proofL (leavesL x1L) 1) W hv (by rw [proof_one_len]; decide) hR
  rw [mk_toList, ver_no1] at this
  exact this
theorem sn_fol1 {w : World} {b R G : Nat} {W : World} (h : Sn w b R G x1L W) (hR : RoundOk w) : Calls Tryz.prog 34 #[hdV h0L, .slice (some ⟨W.heap.size, 0, none⟩) 1 1, hdV h1L] (W.alloc (.cells #[.int .i64 1, .slice (some ⟨G, 0, none⟩) 1 1] 35)) fun e w' => e = .returned (.bool true) ∧ Below W.heap.size W w' := by
  have hb := Below.alloc1 W (.cells #[.int .i64 1, .slice (some ⟨G, 0, none⟩) 1 1] 35)
  have h2 := h.later hb
  have hnew := BlkIs.new W 35 #[.int .i64 1, .slice (some ⟨G, 0, none⟩) 1 1]
  have hr : RecsAt (W.alloc (.cells #[.int .i64 1, .slice (some ⟨G, 0, none⟩) 1 1] 35)) (.slice (some ⟨W.heap.size, 0, none⟩) 1 1) [r7] := by
    refine ⟨_, 1, rfl, Nat.le_refl _, fun _ => ⟨W.heap.size, 0, rfl, hnew.lt, fun j r hj => ?_⟩⟩
    match j, hj with
    | 0, hj =>
      cases hj
      exact ⟨hnew.cell 0, _, hnew.cell 1, h2.chgs⟩
    | j + 1, hj => simp at hj
  have := follows_ok h0L h1L _ 1 [r7] _ hr (by decide) (hR.later h2.below)
  rw [fol_yes] at this
  exact this.mono fun e w' ⟨he, hbb⟩ => ⟨he, Below.next hb hbb⟩
theorem sn_fol0 {w : World} {b R G : Nat} {W : World} (h : Sn w b R G x1L W) (hR : RoundOk w) : Calls Tryz.prog 34 #[hdV h0L, .slice none 0 0, hdV h1L] W fun e w' => e = .returned (.bool false) ∧ Below W.heap.size W w' := by
  have := follows_ok h0L h1L none 0 [] W ⟨none, 0, rfl, Nat.le_refl _, fun h => absurd h (by decide)⟩ (by decide) (hR.later h.below)
  rw [fol_no] at this
  exact this
theorem sn_same {w : World} {b R G : Nat} {W : World} (h : Sn w b R G x1L W) (g c : Nat) (hc : ChgsAt W (.slice (some ⟨g, 0, none⟩) 1 c) [changeL 7]) : Calls Tryz.prog 22 #[recV 1 (.slice (some ⟨G, 0, none⟩) 1 1), recV 1 (.slice (some ⟨g, 0, none⟩) 1 c)] W fun e w' => e = .returned (.bool true) ∧ Below W.heap.size W w' := by
  have := same_ok 1 1 (some ⟨G, 0, none⟩) (some ⟨g, 0, none⟩) 1 c [changeL 7] [changeL 7] W h.chgs hc (by decide)
  rw [decide_eq_true (show (1 : Int) = 1 ∧ [changeL 7] = [changeL 7] from ⟨rfl, rfl⟩)] at this
  exact this
theorem sn_len {w : World} {b R G : Nat} {W : World} (h : Sn w b R G x1L W) : Calls Tryz.prog 14 #[.pointer (some ⟨b, 0, none⟩)] W fun e w' => e = .returned (.int .i64 1) ∧ w' = W := by
  obtain ⟨S, hL⟩ := h.log
  exact len_ok hL

/-- the cells that sane's last statement reads -/
abbrev SnC (B9 B11 B15 B23 R : Nat) (v0 v1 v2 u1 : List UInt8) (y r : Value) (W : World) : Prop :=
  W.cell? ⟨B9, 0, none⟩ = some (.int .i64 0) ∧ W.cell? ⟨B9, 1, none⟩ = some (.string (str v0)) ∧ W.cell? ⟨B9, 2, none⟩ = some (.string (str v1)) ∧
  W.cell? ⟨B11, 0, none⟩ = some (.int .i64 1) ∧ W.cell? ⟨B11, 1, none⟩ = some (.string (str u1)) ∧ W.cell? ⟨B11, 2, none⟩ = some (.string (str v2)) ∧
  W.cell? ⟨B15, 0, none⟩ = some (.int .i64 1) ∧ W.cell? ⟨B15, 1, none⟩ = some (.string (str u1)) ∧ W.cell? ⟨B15, 2, none⟩ = some (.string (str v2)) ∧
  W.cell? ⟨B23, 0, none⟩ = some (.int .i64 1) ∧ W.cell? ⟨B23, 1, none⟩ = some y ∧ W.cell? ⟨R, 0, none⟩ = some (.int .i64 1) ∧ W.cell? ⟨R, 1, none⟩ = some r
theorem SnC.later {B9 B11 B15 B23 R : Nat} {v0 v1 v2 u1 : List UInt8} {y r : Value} {W W' : World} (h : SnC B9 B11 B15 B23 R v0 v1 v2 u1 y r W) (hb : Below W.heap.size W W') : SnC B9 B11 B15 B23 R v0 v1 v2 u1 y r W' := by
  have f : ∀ {a : Addr} {v : Value}, W.cell? a = some v → W'.cell? a = some v := fun h => (hb.cell (block_of_cell h)).trans h
  obtain ⟨h1, h2, h3, h4, h5, h6, h7, h8, h9, h10, h11, h12, h13⟩ := h
  exact ⟨f h1, f h2, f h3, f h4, f h5, f h6, f h7, f h8, f h9, f h10, f h11, f h12, f h13⟩
/-- what sane's last statement keeps -/
structure SnJ (w : World) (b R G B9 B11 B15 B23 : Nat) (v0 v1 v2 u1 : List UInt8) (gy cy : Nat) (v : Value) (P : List (List UInt8)) (W : World) : Prop where
  sn : Sn w b R G x1L W
  c : SnC B9 B11 B15 B23 R v0 v1 v2 u1 (.slice (some ⟨gy, 0, none⟩) 1 cy) (.slice (some ⟨G, 0, none⟩) 1 1) W
  lp : ListAt W v P
  cy : ChgsAt W (.slice (some ⟨gy, 0, none⟩) 1 cy) [changeL 7]
theorem SnJ.later {w : World} {b R G B9 B11 B15 B23 : Nat} {v0 v1 v2 u1 : List UInt8} {gy cy : Nat} {v : Value} {P : List (List UInt8)} {W W' : World} (h : SnJ w b R G B9 B11 B15 B23 v0 v1 v2 u1 gy cy v P W) (hb : Below W.heap.size W W') :
    SnJ w b R G B9 B11 B15 B23 v0 v1 v2 u1 gy cy v P W' := ⟨h.sn.later hb, h.c.later hb, h.lp.below hb, h.cy.below hb⟩
theorem SnJ.drew {w : World} {b R G B9 B11 B15 B23 : Nat} {v0 v1 v2 u1 : List UInt8} {gy cy : Nat} {v : Value} {P : List (List UInt8)} {W : World} (h : SnJ w b R G B9 B11 B15 B23 v0 v1 v2 u1 gy cy v P W) :
    SnJ w b R G B9 B11 B15 B23 v0 v1 v2 u1 gy cy v P W.drew := h.later (Below.drew (Below.refl _ _))
theorem SnJ.allocd {w : World} {b R G B9 B11 B15 B23 : Nat} {v0 v1 v2 u1 : List UInt8} {gy cy : Nat} {v : Value} {P : List (List UInt8)} {W : World} (h : SnJ w b R G B9 B11 B15 B23 v0 v1 v2 u1 gy cy v P W) {o : Obj} :
    SnC B9 B11 B15 B23 R v0 v1 v2 u1 (.slice (some ⟨gy, 0, none⟩) 1 cy) (.slice (some ⟨G, 0, none⟩) 1 1) (W.alloc o) := (h.later (Below.alloc1 W o)).c

theorem app_cons {α : Type} {a : α} {xs bs r : List α} (h : List.append xs bs = r) : List.append (a :: xs) bs = a :: r := congrArg (a :: ·) h
theorem app_nil {α : Type} {bs r : List α} (h : bs = r) : List.append [] bs = r := h
/-- a region whose list is written out -/
theorem region_lit {P : Program} {Q : Exit → Act → World → Prop} {id : Nat} {a : Act} {w : World} {d : Bool} {l l' : List Oper} (h : l = l') (k : (Code.region id l'.toArray d).wp P Q a w) : (Code.region id l.toArray d).wp P Q a w := h ▸ k
end Go.Proofs.YtheebajklnljdaaGreatDoor
end

