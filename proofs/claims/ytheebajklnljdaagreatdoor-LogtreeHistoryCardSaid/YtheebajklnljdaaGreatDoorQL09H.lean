/- The walk of LogtreeHistory (written by wip/mk_l09h.py). -/
import Derived.Test.YtheebajklnljdaaGreatDoorGp
import Derived.Test.YtheebajklnljdaaGreatDoorGr
import Derived.Test.YtheebajklnljdaaGreatDoorQLbC
import Derived.Test.YtheebajklnljdaaGreatDoorGt
import Derived.Test.YtheebajklnljdaaGreatDoorGu
import Derived.Test.YtheebajklnljdaaGreatDoorGq
import Derived.Deep.AppendLies
import Derived.Deep.DeepCutAuto
namespace Go.Proofs.YtheebajklnljdaaGreatDoor
open Go Go.RowKit
attribute [local go_sem] Oper.semAt_some

theorem RecOwn.ok {W : World} {base : Nat} {v : Value} {ps : List (Rec × Value)} (h : RecOwn W base v ps) : RecsOk (ps.map (·.1)) := fun i r hr => by
  rw [List.getElem?_map, Option.map_eq_some_iff] at hr
  obtain ⟨p, hp, rfl⟩ := hr
  exact h.good i p hp

set_option maxRecDepth 100000 in
set_option maxHeartbeats 1000000 in
theorem historyL_any (v : Value) (p0 q0 a0 o0 : Int) (w : World) (hR : RoundOk w) (hv : IntRows w v) (hp1 : -9223372036854775808 ≤ p0) (hp2 : p0 ≤ 9223372036854775807) (hq1 : -9223372036854775808 ≤ q0) (hq2 : q0 ≤ 9223372036854775807) (ha1 : -9223372036854775808 ≤ a0) (ha2 : a0 ≤ 9223372036854775807) (ho1 : -9223372036854775808 ≤ o0) (ho2 : o0 ≤ 9223372036854775807) :
    Calls Tryz.prog 6 #[v, .int .i64 p0, .int .i64 q0, .int .i64 a0, .int .i64 o0] w fun e w' => e = .returned (.bool true) ∧ Below w.heap.size w w' := by
  have HV := Lib.hid hv
  have HR := Lib.hid hR
  have hgd := guardHd
  clear hv hR
  go_enter Tryz.func6, Tryz.ntmps6
  go_wp2_with fail
  refine (sane_ok w HR.out).mono ?_
  rintro e w1 ⟨rfl, b1⟩
  go_wp2_with fail
  refine (records_ok v w1 (HV.out.below b1)).mono ?_
  rintro e w2 ⟨v', ps, rfl, hro, hn12, b2⟩
  have hb2 := Below.next b1 b2
  obtain ⟨A1, c1, rfl, hc1⟩ := hro.form
  have hok := hro.ok
  have hrs := hro.recs
  have hrow := hro.row
  have hch := fun (q : Rec × Value) (hq : q ∈ ps) => ChgsOwn.chgs (S := fun _ => True) ⟨ownsRow_base0 (hro.chs q hq), fun _ _ => trivial⟩
  obtain ⟨n, hn⟩ : ∃ n, n = ps.length := ⟨_, rfl⟩
  obtain ⟨rs, hrse⟩ : ∃ rs, rs = ps.map (·.1) := ⟨_, rfl⟩
  have hrl : rs.length = n := by rw [hrse, List.length_map, hn]
  rw [← hrse] at hok hrs
  rw [← hn] at hrs hc1 hn12 hrow ⊢
  clear hro
  obtain ⟨p, hp⟩ : ∃ p : Nat, pickZ p0 ((n : Int) + 1) = (p : Int) := ⟨(pickZ p0 ((n : Int) + 1)).toNat, by have := pickZ_range p0 ((n : Int) + 1) (by omega); omega⟩
  have hpn : p ≤ n := by have := pickZ_range p0 ((n : Int) + 1) (by omega); omega
  have hpk := fun W => pick_any p0 ((n : Int) + 1) W hp1 hp2 (by omega) (by omega)
  rw [hp] at hpk
  obtain ⟨m, hm⟩ : ∃ m : Nat, pickZ q0 ((n : Int) + 1 - p) = (m : Int) := ⟨(pickZ q0 ((n : Int) + 1 - p)).toNat, by have := pickZ_range q0 ((n : Int) + 1 - p) (by omega); omega⟩
  have hmn : p + m ≤ n := by have := pickZ_range q0 ((n : Int) + 1 - p) (by omega); omega
  have hpk2 := fun W => pick_any q0 ((n : Int) + 1 - p) W hq1 hq2 (by omega) (by omega)
  rw [hm] at hpk2
  have HPK := Lib.hid hpk
  have HPK2 := Lib.hid hpk2
  have hlg := logged_ok A1 c1 rs w2 (by rw [hrl]; exact hrs) hok (by omega) (HR.out.later hb2)
  rw [hrl] at hlg
  obtain ⟨gx, rx, -⟩ := logN_spec hok n (by omega)
  have hxl : (logN rs n).heads.length = n + 1 := by rw [gx.len, rx, List.length_take, hrl]; omega
  obtain ⟨a, ha⟩ : ∃ h, (logN rs n).heads[p]? = some h := ⟨_, List.getElem?_eq_getElem (by omega)⟩
  obtain ⟨b, hb⟩ : ∃ h, (logN rs n).heads[p + m]? = some h := ⟨_, List.getElem?_eq_getElem (by omega)⟩
  obtain ⟨⟨law1, law2, law3, law4, law5⟩, law6, law7, law8, law9⟩ := hist_law hok hrl.symm hmn ha hb
  obtain ⟨L, hL⟩ : ∃ L, L = (rs.drop p).take m := ⟨_, rfl⟩
  rw [← hL] at law6 law7 law8 law9
  obtain ⟨qs, hqs⟩ : ∃ qs, qs = (ps.drop p).take m := ⟨_, rfl⟩
  have hqL : qs.map (·.1) = L := by rw [hqs, hL, hrse, List.map_take, List.map_drop]
  have hql : qs.length = m := by rw [hqs, List.length_take, List.length_drop]; omega
  have hLl : L.length = m := by rw [← hqL, List.length_map, hql]
  obtain ⟨x, hx⟩ : ∃ x, x = logN rs n := ⟨_, rfl⟩
  rw [← hx] at gx hlg hxl ha hb
  have hcut := fun W (hW : Below w2.heap.size w2 W) => part_row (ownsRow_later hW hrow) hn.symm (fun q hq => (hch q hq).below hW) hmn hc1
  rw [← hqs] at hcut
  have HCUT := Lib.hid hcut
  have HLG := Lib.hid hlg
  have GX := Lib.hid gx
  have HA := Lib.hid ha
  have HB := Lib.hid hb
  have HQL := Lib.hid hqL
  have HLL := Lib.hid hLl
  have HQQ := Lib.hid hql
  have HXL := Lib.hid hxl
  have HFIT := Lib.hid law6
  have HFOL := Lib.hid law7
  have HDROP := Lib.hid law8
  have HCOL := Lib.hid law9
  have HAB := Lib.hid law1
  have HBB := Lib.hid law2
  have HBS := Lib.hid law3
  have HAP := Lib.hid law4
  have HBP := Lib.hid law5
  clear hx gx hlg hpk hpk2 hp hm rx hrl hrs hok hxl ha hb law1 law2 law3 law4 law5 law6 law7 law8 law9 hL hqs hqL hql hLl hrow hch hcut hrse hn
  go_wp2_with fail
  refine (HLG.out).mono ?_
  rintro e w3 ⟨bl, rfl, J3⟩
  have L3 := J3.1
  have hb23 := J3.2
  clear J3 HLG
  go_wp2_with fail
  refine (HPK.out _).mono ?_
  rintro e w4 ⟨rfl, rfl⟩
  go_wp2_with fail
  refine (HPK2.out _).mono ?_
  rintro e w5 ⟨rfl, rfl⟩
  have c1' := head_ok L3 (p : Int)
  rw [headA_in HA.out] at c1'
  unfold hdV at c1'
  have C1 := Lib.hid c1'
  clear c1'
  go_wp2_with fail
  refine (C1.out).mono ?_
  rintro e w6 ⟨rfl, b6⟩
  have al6 := Below.alloc1 w6 (.cells #[.int .i64 a.pos, .string (str a.chain), .string (str a.state)] 46)
  have KA := BlkIs.new w6 46 #[.int .i64 a.pos, .string (str a.chain), .string (str a.state)]
  have L6 := (L3.below b6).below al6
  have hb26 := Below.next (Below.next hb23 b6) al6
  have c2' := head_ok L6 ((p + m : Nat) : Int)
  rw [headA_in HB.out] at c2'
  unfold hdV at c2'
  rw [show ((p + m : Nat) : Int) = (p : Int) + (m : Int) by omega] at c2'
  have C2 := Lib.hid c2'
  clear c2' C1 b6 al6 hb23 L3
  go_wp2_with fail
  generalize w6.alloc (.cells #[.int .i64 a.pos, .string (str a.chain), .string (str a.state)] 46) = w6a at *
  refine (C2.out).mono ?_
  rintro e w7 ⟨rfl, b7⟩
  have al7 := Below.alloc1 w7 (.cells #[.int .i64 b.pos, .string (str b.chain), .string (str b.state)] 46)
  have KB := BlkIs.new w7 46 #[.int .i64 b.pos, .string (str b.chain), .string (str b.state)]
  have KA8 := (KA.later b7).later al7
  have hb28 := Below.next (Below.next hb26 b7) al7
  clear C2 b7 al7 hb26 KA L6
  have cut8 := HCUT.out _ hb28
  go_upto_region 10 with fail
  generalize w7.alloc (.cells #[.int .i64 b.pos, .string (str b.chain), .string (str b.state)] 46) = w8 at *
  go_cut [18] (fun s18 wx => ∃ (A2 : Option Addr) (c2 : Nat), s18 = .slice A2 m c2 ∧ m ≤ c2 ∧ QsAt w8 (.slice A2 m c2) qs ∧ wx = w8)
  case first =>
    have q0 : (0 : Int) ≤ (p : Int) := by omega
    have q1 : (p : Int) ≤ (p : Int) + (m : Int) := by omega
    have q2 : (p : Int) + (m : Int) ≤ (c1 : Int) := by omega
    by_cases hcp : c1 = p
    · rw [if_pos hcp] at cut8
      go_wp2_with fail
      go_meet
      exact ⟨A1, 0, by congr 1; omega, by omega, by rw [hcp, Nat.sub_self] at cut8; exact cut8, rfl⟩
    · rw [if_neg hcp] at cut8
      go_wp2_with fail
      go_meet
      exact ⟨_, _, by congr 1; omega, by omega, cut8, rfl⟩
  case rest =>
    obtain ⟨A2, c2, rfl, hmc, QP, hwc⟩ := hcut
    rw [hwc]
    clear hwc wc cut8
    have hfl := follows_ok a b A2 c2 L w8 (by have := QP.recs; rw [HQL.out] at this; rw [HLL.out]; exact this) (by rw [HLL.out]; omega) (HR.out.later (Below.next hb2 hb28))
    rw [HFOL.out, HLL.out] at hfl
    unfold hdV at hfl
    have HFL := Lib.hid hfl
    have HKA := Lib.hid KA8
    have HKB := Lib.hid KB
    have HQP := Lib.hid QP
    have k0 : w8.cell? ⟨w6.heap.size, 0, none⟩ = some (.int .i64 a.pos) := KA8.cell 0
    have k1 : w8.cell? ⟨w6.heap.size, 1, none⟩ = some (.string (str a.chain)) := KA8.cell 1
    have k2 : w8.cell? ⟨w6.heap.size, 2, none⟩ = some (.string (str a.state)) := KA8.cell 2
    have k3 : w8.cell? ⟨w7.heap.size, 0, none⟩ = some (.int .i64 b.pos) := KB.cell 0
    have k4 : w8.cell? ⟨w7.heap.size, 1, none⟩ = some (.string (str b.chain)) := KB.cell 1
    have k5 : w8.cell? ⟨w7.heap.size, 2, none⟩ = some (.string (str b.state)) := KB.cell 2
    have HB8 := Lib.hid (Below.next hb2 hb28)
    clear hfl KA8 KB QP hb28 hb2 b1 b2
    go_wp2_with fail
    refine (HFL.out).mono ?_
    rintro e w9 ⟨rfl, b9⟩
    have HB9 := Lib.hid (Below.next HB8.out b9)
    have HKA9 := Lib.hid (HKA.out.later b9)
    have HKB9 := Lib.hid (HKB.out.later b9)
    have QP9 := HQP.out.below b9
    clear k0 k1 k2 k3 k4 k5 HKA HKB HQP HB8 HFL b9
    by_cases hm0 : m = 0
    · subst hm0
      clear QP9
      go_wp2_with fail
      go_ret
      exact ⟨rfl, HB9.out⟩
    have t0 : ((m : Int) == 0) = false := by simp only [beq_eq_false_iff_ne, ne_eq]; omega
    obtain ⟨g2, o2, c2', e2, hg2, hc2, hcells, hones, hchs⟩ := QP9.get (by rw [HQQ.out]; omega)
    rw [HQQ.out] at e2 hc2
    injection e2 with e21 _ e23
    subst e21 e23
    obtain ⟨iR, hiR, hR0, hR1, hR2⟩ := info_rec
    have hm0' := World.ownsRow_made (e := 35) (size := 2) (base := w9.heap.size) w9 #[] 0 (Nat.le_refl _) (Nat.zero_le _) rfl
    have al0 := Below.alloc1 w9 (.cells #[] 35)
    have hcells2 : ∀ (j : Nat) u, (qs.flatMap recCells)[j]? = some u → (w9.alloc (.cells #[] 35)).cell? ((⟨g2, o2, none⟩ : Addr).add j) = some u := fun j u hu => (al0.cell (p := (⟨g2, o2, none⟩ : Addr).add j) (by rw [block_add]; exact hg2)).trans (hcells j u hu)
    have HC2 := Lib.hid hcells2
    have HCS := Lib.hid hcells
    have HONE := Lib.hid hones
    have HCHS := Lib.hid hchs
    have hlen : (qs.flatMap recCells).length = m * 2 := by rw [flat_len recCells 2 recCells_len, HQQ.out]
    have HLEN := Lib.hid hlen
    have HQP9 := Lib.hid QP9
    clear hcells hones hchs hcells2 hlen QP9
    go_upto_region 15 with fail
    go_cut [19] (fun s19 wx => wx.ownsRow w9.heap.size 35 2 s19 m (qs.flatMap recCells) ∧ Below w9.heap.size w9 wx)
    case first =>
      go_wp2_with (at_builtin; refine wpList_append_own _ rfl _ _ 22 rfl w9.heap.size 35 iR (.agg #[.int .i64 0, .slice none 0 0]) 2 32 Tryz.underlying22 hiR hR0 hR1 hR2 rfl (by decide) _ _ _ rfl hm0' ⟨g2, o2, none⟩ m c2 (qs.flatMap recCells) rfl HLEN.out HC2.out HONE.out (by unfold maxLen; omega) (by omega) (by rw [World.size_alloc]; omega) ?_; intro v4 w10 own4 g4 _)
      rw [Nat.zero_add, List.nil_append] at own4
      have hb4 := below_fresh al0 (by rw [World.size_alloc]; omega) g4 (fun k hk => (hm0'.lt k hk).1)
      go_meet
      exact ⟨own4, hb4⟩
    case rest =>
      obtain ⟨own4, hb10⟩ := hcut
      obtain ⟨w10, hw10⟩ : ∃ W, W = wc := ⟨_, rfl⟩
      rw [← hw10] at own4 hb10 ⊢
      clear hw10 wc hm0' al0
      obtain ⟨g3, c3, cs3, rfl, hg3, B3, hc3, -, hcs3⟩ := ownsRow_whole own4 (by omega)
      obtain ⟨k, hk⟩ : ∃ k : Nat, pickZ a0 (m : Int) = (k : Int) := ⟨(pickZ a0 (m : Int)).toNat, by have := pickZ_range a0 (m : Int) (by omega); omega⟩
      have hkm : k < m := by have := pickZ_range a0 (m : Int) (by omega); omega
      have hpk3 := fun W => pick_any a0 (m : Int) W ha1 ha2 (by omega) (by omega)
      rw [hk] at hpk3
      have HPK3 := Lib.hid hpk3
      obtain ⟨⟨r0, v0⟩, hq0⟩ : ∃ q, qs[k]? = some q := ⟨_, List.getElem?_eq_getElem (by rw [HQQ.out]; exact hkm)⟩
      have QP10 := HQP9.out.below hb10
      obtain ⟨g2', o2', eA, hg2', hp0, hp1', hch0⟩ := QP10.at_ hq0
      injection eA with eA
      injection eA with e1 e2
      subst e1 e2
      dsimp only at hp0 hp1' hch0
      obtain ⟨A0, c0, rfl, hc0, -⟩ := id hch0
      have HOWN4 := Lib.hid own4
      have HB3 := Lib.hid B3
      have HCS3 := Lib.hid hcs3
      have HQP := Lib.hid QP10
      have HB10 := Lib.hid hb10
      have HQ0 := Lib.hid hq0
      have HCH0 := Lib.hid hch0
      have HP1 := Lib.hid hp1'
      have j0 : (0 : Int) ≤ (k : Int) := by omega
      have j1 : (k : Int) < (m : Int) := by omega
      have hchg := fun W => change_ok o0 W ho1 ho2
      obtain ⟨CH, hCH⟩ : ∃ C, C = changeL o0 := ⟨_, rfl⟩
      rw [← hCH] at hchg
      unfold chgV at hchg
      have HCHG := Lib.hid hchg
      have HCH := Lib.hid hCH
      have h910 := hb10.size
      clear own4 B3 hcs3 hpk3 hk QP10 hq0 hch0 hp1' hchg hCH hb10 hg2'
      go_wp2_with fail
      refine (HPK3.out _).mono ?_
      rintro e w11 ⟨rfl, rfl⟩
      go_wp2_with fail
      have hg2n : g2 < w9.heap.size := hg2
      refine wp_region_noPanic ?_
      refine wp_region_ord (fun W => W.cell? ⟨g2, o2 + k * 2, none⟩ = some (.int .i64 r0.pos)) [(0, false), (1, false), (2, false), (3, false), (4, false), (5, false), (6, false), (7, true), (8, true), (9, true), (10, true), (11, true), (12, true)] (by kernel_rfl) (by as_aux_lemma => kernel_rfl) (by rfl) (by as_aux_lemma => kernel_rfl) (fun _ _ _ _ _ h => h) (hp0) (fun hHeld => ?_)
      repeat (
        apply SeqO.take0
        case ho => exact rfl
        case hg => exact rfl
        case hy => (intro w hSw; (try dsimp only at hSw); go_simp; try with_reducible rfl)
        try simp only [Act.put, List.setIfInBounds_toArray, List.set_cons_zero, List.set_cons_succ])
      apply SeqO.step0
      case ho => exact rfl
      case hg => exact rfl
      intro K hK
      go_simp
      go_at_call 42
      with_reducible refine (HCHG.out _).mono ?_
      rintro e w12 ⟨rfl, b12⟩
      replace b12 : Below w10.heap.size w10 w12 := Below.next (Below.drew (Below.refl _ _)) b12
      have s12 : w12.cell? ⟨g2, o2 + k * 2, none⟩ = some (.int .i64 r0.pos) := (b12.cell (block_of_cell hp0)).trans hp0
      go_wp2_with fail
      refine hK.out _ _ s12 (fun _ => ?_)
      clear hK K
      try simp only [Act.put, List.setIfInBounds_toArray, List.set_cons_zero, List.set_cons_succ]
      apply SeqO.step0
      case ho => exact rfl
      case hg => exact rfl
      intro K hK
      go_simp
      have al13 := Below.next b12 (Below.alloc1 w12 (.cells #[.int .i64 CH.table, .int .i64 CH.key, .bool CH.had, .int .i64 CH.old.1, .int .i64 CH.old.2.1, .int .i64 CH.old.2.2, .bool CH.has, .int .i64 CH.new.1, .int .i64 CH.new.2.1, .int .i64 CH.new.2.2] 72))
      have KN := BlkIs.new w12 72 #[.int .i64 CH.table, .int .i64 CH.key, .bool CH.had, .int .i64 CH.old.1, .int .i64 CH.old.2.1, .int .i64 CH.old.2.2, .bool CH.has, .int .i64 CH.new.1, .int .i64 CH.new.2.1, .int .i64 CH.new.2.2]
      generalize w12.alloc (.cells #[.int .i64 CH.table, .int .i64 CH.key, .bool CH.had, .int .i64 CH.old.1, .int .i64 CH.old.2.1, .int .i64 CH.old.2.2, .bool CH.has, .int .i64 CH.new.1, .int .i64 CH.new.2.1, .int .i64 CH.new.2.2] 72) = w13 at *
      have hsz12 := b12.size
      have hlt3 := HB3.out.lt
      have B13 := HB3.out.later al13
      have s13 : w13.cell? ⟨g2, o2 + k * 2, none⟩ = some (.int .i64 r0.pos) := (al13.cell (block_of_cell hp0)).trans hp0
      have hgn3 : g3 < w12.heap.size := by omega
      refine hK.out _ _ s13 (fun _ => ?_)
      clear hK K
      try simp only [Act.put, List.setIfInBounds_toArray, List.set_cons_zero, List.set_cons_succ]
      apply SeqO.take0
      case ho => exact rfl
      case hg => exact rfl
      case hy => (intro w hSw; (try dsimp only at hSw); go_simp; try with_reducible rfl)
      try simp only [Act.put, List.setIfInBounds_toArray, List.set_cons_zero, List.set_cons_succ]
      apply SeqO.take0
      case ho => exact rfl
      case hg => exact rfl
      case hy => (intro w hSw; (try dsimp only at hSw); go_simp; try with_reducible rfl)
      try simp only [Act.put, List.setIfInBounds_toArray, List.set_cons_zero, List.set_cons_succ]
      apply SeqO.step0
      case ho => exact rfl
      case hg => exact rfl
      intro K hK
      have y0 : w13.cell? ⟨g3, k * 2, none⟩ = some (.int .i64 r0.pos) := (B13.cell _).trans (HCS3.out _ _ (flat_get recCells 2 recCells_len qs k 0 _ _ HQ0.out rfl))
      have y1 : w13.cell? ⟨g3, k * 2 + 1, none⟩ = some (.slice A0 r0.chs.length c0) := (B13.cell _).trans (HCS3.out _ _ (flat_get recCells 2 recCells_len qs k 1 _ _ HQ0.out rfl))
      have f0 := B13.frozen (k * 2)
      have f1 := B13.frozen (k * 2 + 1)
      have b913 : Below w9.heap.size w9 w13 := Below.next HB10.out al13
      have b914 := (b913.setCell (p := ⟨g3, k * 2, none⟩) hg3 (.int .i64 r0.pos)).setCell (p := ⟨g3, k * 2 + 1, none⟩) hg3 (.slice (some ⟨w12.heap.size, 0, none⟩) 1 1)
      have KN14 := (KN.other (p := ⟨g3, k * 2, none⟩) (by simp; omega) (.int .i64 r0.pos)).other (p := ⟨g3, k * 2 + 1, none⟩) (by simp; omega) (.slice (some ⟨w12.heap.size, 0, none⟩) 1 1)
      have s14 : ((w13.setCell ⟨g3, k * 2, none⟩ (.int .i64 r0.pos)).setCell ⟨g3, k * 2 + 1, none⟩ (.slice (some ⟨w12.heap.size, 0, none⟩) 1 1)).cell? ⟨g2, o2 + k * 2, none⟩ = some (.int .i64 r0.pos) := by
        have := (HQP9.out.below b914).at_ HQ0.out
        obtain ⟨g2', o2', eA, -, hp0, -, -⟩ := this
        injection eA with eA
        injection eA with e1 e2
        subst e1 e2
        exact hp0
      go_simp
      refine hK.out _ _ s14 (fun _ => ?_)
      clear hK K
      try simp only [Act.put, List.setIfInBounds_toArray, List.set_cons_zero, List.set_cons_succ]
      refine SeqO.done ?_
      refine NoPanic.normal ?_
      have QC := row_turn (r := ⟨r0.pos, [CH]⟩) (cv := .slice (some ⟨w12.heap.size, 0, none⟩) 1 1) B13 HCS3.out HQQ.out hc3 hkm rfl (chg_one KN14) (fun q hq => (HCHS.out q hq).below b914)
      dsimp only at QC
      generalize (w13.setCell ⟨g3, k * 2, none⟩ (.int .i64 r0.pos)).setCell ⟨g3, k * 2 + 1, none⟩ (.slice (some ⟨w12.heap.size, 0, none⟩) 1 1) = w14 at *
      have hLk : L[k]? = some r0 := by rw [← HQL.out, List.getElem?_map, HQ0.out]; rfl
      obtain ⟨M, hM⟩ : ∃ M, M = L.set k ⟨r0.pos, [CH]⟩ := ⟨_, rfl⟩
      obtain ⟨ts, hts⟩ : ∃ ts, ts = qs.set k (⟨r0.pos, [CH]⟩, .slice (some ⟨w12.heap.size, 0, none⟩) 1 1) := ⟨_, rfl⟩
      have htM : ts.map (·.1) = M := by rw [hts, List.map_set, HQL.out, hM]
      have htk : ts[k]? = some (⟨r0.pos, [CH]⟩, .slice (some ⟨w12.heap.size, 0, none⟩) 1 1) := by rw [hts]; exact List.getElem?_set_self (by rw [HQQ.out]; exact hkm)
      have htl : ts.length = m := by rw [hts, List.length_set, HQQ.out]
      rw [← hts] at QC
      have HTM := Lib.hid htM
      have HTL := Lib.hid htl
      have QCr : RecsAt w14 (.slice (some ⟨g3, 0, none⟩) m c3) M := by
        have := QC.recs
        rw [htM] at this
        exact this
      have hMl : M.length = m := by rw [hM, List.length_set, HLL.out]
      have hMfit : FitL a M := by rw [hM, HCH.out]; exact fit_set HFIT.out hLk o0
      have hMne : [CH] ≠ r0.chs → M ≠ L := fun h => by rw [hM]; exact set_ne hLk fun e => h (by rw [← e])
      have law := fun h1 h2 => HCOL.out M hMfit hMl (hMne h1) h2
      have QPr := (HQP9.out.below b914).recs
      rw [HQL.out] at QPr
      have hR14 := HR.out.later (Below.next HB9.out b914)
      obtain ⟨F, hF⟩ : ∃ F, F = followsA a M b := ⟨_, rfl⟩
      have cfol : ∀ W, Below w14.heap.size w14 W → Calls Tryz.prog 34 #[.agg #[.int .i64 a.pos, .string (str a.chain), .string (str a.state)], .slice (some ⟨g3, 0, none⟩) m c3, .agg #[.int .i64 b.pos, .string (str b.chain), .string (str b.state)]] W fun e w' => e = .returned (.bool F) ∧ Below w14.heap.size w14 w' := by
        intro W hW
        have := follows_ok a b (some ⟨g3, 0, none⟩) c3 M W (by rw [hMl]; exact QCr.below hW) (by rw [hMl]; omega) (hR14.later hW)
        rw [hMl, ← hF] at this
        exact this.mono fun e w' ⟨he, hb⟩ => ⟨he, Below.next hW hb⟩
      have csame : ∀ W, Below w14.heap.size w14 W → Calls Tryz.prog 22 #[.agg #[.int .i64 r0.pos, .slice (some ⟨w12.heap.size, 0, none⟩) 1 1], .agg #[.int .i64 r0.pos, .slice A0 r0.chs.length c0]] W fun e w' => e = .returned (.bool (decide ([CH] = r0.chs))) ∧ Below w14.heap.size w14 w' := by
        intro W hW
        have := same_ok r0.pos r0.pos (some ⟨w12.heap.size, 0, none⟩) A0 1 c0 [CH] r0.chs W ((chg_one KN14).below hW) (((HCHS.out _ (List.mem_of_getElem? HQ0.out)).below b914).below hW) (by simp)
        rw [show decide (r0.pos = r0.pos ∧ [CH] = r0.chs) = decide ([CH] = r0.chs) by simp] at this
        exact this.mono fun e w' ⟨he, hb⟩ => ⟨he, Below.next hW hb⟩
      have cells : ∀ W, Below w14.heap.size w14 W → (W.cell? ⟨w6.heap.size, 0, none⟩ = some (.int .i64 a.pos) ∧ W.cell? ⟨w6.heap.size, 1, none⟩ = some (.string (str a.chain)) ∧ W.cell? ⟨w6.heap.size, 2, none⟩ = some (.string (str a.state)) ∧ W.cell? ⟨w7.heap.size, 0, none⟩ = some (.int .i64 b.pos) ∧ W.cell? ⟨w7.heap.size, 1, none⟩ = some (.string (str b.chain)) ∧ W.cell? ⟨w7.heap.size, 2, none⟩ = some (.string (str b.state))) ∧ (W.cell? ⟨g3, k * 2, none⟩ = some (.int .i64 r0.pos) ∧ W.cell? ⟨g3, k * 2 + 1, none⟩ = some (.slice (some ⟨w12.heap.size, 0, none⟩) 1 1) ∧ W.cell? ⟨g2, o2 + k * 2, none⟩ = some (.int .i64 r0.pos) ∧ W.cell? ⟨g2, o2 + k * 2 + 1, none⟩ = some (.slice A0 r0.chs.length c0)) := by
        intro W hW
        have ka := (HKA9.out.later b914).later hW
        have kb := (HKB9.out.later b914).later hW
        obtain ⟨ga, oa, eA, -, x0, x1, -⟩ := (QC.below hW).at_ htk
        injection eA with eA
        injection eA with e1 e2
        subst e1 e2
        obtain ⟨gb, ob, eA, -, y0, y1, -⟩ := ((HQP9.out.below b914).below hW).at_ HQ0.out
        injection eA with eA
        injection eA with e1 e2
        subst e1 e2
        dsimp only at x0 x1 y0 y1
        rw [Nat.zero_add] at x0 x1
        exact ⟨⟨ka.cell 0, ka.cell 1, ka.cell 2, kb.cell 0, kb.cell 1, kb.cell 2⟩, x0, x1, y0, y1⟩
      have CFOL := Lib.hid cfol
      have CSAME := Lib.hid csame
      have CELLS := Lib.hid cells
      have LAW := Lib.hid law
      have HQC := Lib.hid QC
      have HMF := Lib.hid hMfit
      have HML := Lib.hid hMl
      have HFF := Lib.hid hF
      have HB914 := Lib.hid b914
      have HR14 := Lib.hid hR14
      have HMC := Lib.hid (QCr)
      have HPC := Lib.hid (QPr)
      have HBW := Lib.hid (Below.next HB9.out b914)
      clear htM htk htl hts
      clear cfol csame cells law QC hMfit hMl hF b914 hR14 QCr QPr hM hMne KN14 b913 y0 y1 f0 f1 s14 B13 s13 KN al13 b12 s12 hp0 hLk hHeld
      go_upto_region 18 with fail
      go_cut [117] (fun s117 wx => ∃ B, s117 = .bool B ∧ (B = false → F = true ∧ [CH] ≠ r0.chs) ∧ Below w14.heap.size w14 wx)
      case first =>
        have BJ : Below w14.heap.size w14 w14.drew := Below.drew (Below.refl _ _)
        obtain ⟨SM, hSM⟩ : ∃ S, S = decide ([CH] = r0.chs) := ⟨_, rfl⟩
        have cs := CSAME.out
        rw [← hSM] at cs
        have CS := Lib.hid cs
        have HSM := Lib.hid hSM
        obtain ⟨⟨k0, k1, k2, k3, k4, k5⟩, x0, x1, y0, y1⟩ := CELLS.out _ BJ
        clear cs hSM
        cases SM
        case' false => cases F
        all_goals
          refine wp_region_noPanic ?_
          refine wp_region_ord (fun W => (W.cell? ⟨w6.heap.size, 0, none⟩ = some (.int .i64 a.pos) ∧ W.cell? ⟨w6.heap.size, 1, none⟩ = some (.string (str a.chain)) ∧ W.cell? ⟨w6.heap.size, 2, none⟩ = some (.string (str a.state)) ∧ W.cell? ⟨w7.heap.size, 0, none⟩ = some (.int .i64 b.pos) ∧ W.cell? ⟨w7.heap.size, 1, none⟩ = some (.string (str b.chain)) ∧ W.cell? ⟨w7.heap.size, 2, none⟩ = some (.string (str b.state))) ∧ (W.cell? ⟨g3, k * 2, none⟩ = some (.int .i64 r0.pos) ∧ W.cell? ⟨g3, k * 2 + 1, none⟩ = some (.slice (some ⟨w12.heap.size, 0, none⟩) 1 1) ∧ W.cell? ⟨g2, o2 + k * 2, none⟩ = some (.int .i64 r0.pos) ∧ W.cell? ⟨g2, o2 + k * 2 + 1, none⟩ = some (.slice A0 r0.chs.length c0))) [(0, false), (1, false), (2, false), (3, false), (4, false), (5, false), (6, false), (7, false), (8, true), (9, true), (10, false), (11, false), (12, false), (13, true), (14, true), (15, true)] (by kernel_rfl) (by as_aux_lemma => kernel_rfl) (by rfl) (by as_aux_lemma => kernel_rfl) (fun _ _ _ _ _ h => h) (CELLS.out _ BJ) (fun hHeld => ?_)
          repeat (first
            | (apply SeqO.take0
               case ho => exact rfl
               case hg => exact rfl
               case hy => (intro w hSw; (try dsimp only at hSw); go_simp; try with_reducible rfl)
               try simp only [Act.put, List.setIfInBounds_toArray, List.set_cons_zero, List.set_cons_succ])
            | (apply SeqO.takeG
               case ho => exact rfl
               case hg => exact rfl
               case hj => exact rfl
               case hd => exact rfl
               case ht => exact rfl
               case hy => (intro w hSw; (try dsimp only at hSw); go_simp; try with_reducible rfl)
               try simp only [Act.put, List.setIfInBounds_toArray, List.set_cons_zero, List.set_cons_succ])
            | (apply SeqO.skipG
               case ho => exact rfl
               case hg => exact rfl
               case hj => exact rfl
               case hd => exact rfl
               case ht => exact rfl
               case hne => exact rfl
               try simp only [Act.put, List.setIfInBounds_toArray, List.set_cons_zero, List.set_cons_succ])
            | (first
               | (apply SeqO.step0
                  case ho => exact rfl
                  case hg => exact rfl)
               | (apply SeqO.stepG
                  case ho => exact rfl
                  case hg => exact rfl
                  case hj => exact rfl
                  case hd => exact rfl
                  case ht => exact rfl)
               intro K hK
               go_simp
               first
               | (go_at_call 34; (with_reducible refine (CFOL.out _ BJ).mono ?_); rintro e wx ⟨rfl, BJ⟩; go_wp2_with fail)
               | (go_at_call 22; (with_reducible refine (CS.out _ BJ).mono ?_); rintro e wx ⟨rfl, BJ⟩; go_wp2_with fail)
               | fail
               refine hK.out _ _ ?_ (fun _ => ?_)
               · exact CELLS.out _ BJ
               clear hK K
               try simp only [Act.put, List.setIfInBounds_toArray, List.set_cons_zero, List.set_cons_succ]))
          refine SeqO.done ?_
          refine NoPanic.normal ?_
        · go_wp2_with fail
          go_meet
          exact ⟨true, rfl, fun h => (by cases h), BJ⟩
        · go_wp2_with fail
          go_meet
          exact ⟨false, rfl, fun _ => ⟨by first | rfl | trivial, of_decide_eq_false HSM.out.symm⟩, BJ⟩
        · go_wp2_with fail
          go_meet
          exact ⟨true, rfl, fun h => (by cases h), BJ⟩
      case rest =>
        obtain ⟨B, rfl, hB, BJ⟩ := hcut
        obtain ⟨w15, hw15⟩ : ∃ W, W = wc := ⟨_, rfl⟩
        rw [← hw15] at BJ ⊢
        clear hw15 wc
        cases B
        case true =>
          clear hB
          have hdr := HDROP.out (by omega)
          have hAd : ∃ A3 : Option Addr, A3 = (if c2 = 1 then some ⟨g2, o2, none⟩ else some ⟨g2, o2 + 2, none⟩) := ⟨_, rfl⟩
          obtain ⟨A3, hA3⟩ := hAd
          obtain ⟨c5, hc5⟩ : ∃ c, c = c2 - 1 := ⟨_, rfl⟩
          have hrd : ∀ W, Below w14.heap.size w14 W → RecsAt W (.slice A3 (m - 1) c5) (L.drop 1) := by
            intro W hW
            by_cases hcc : c2 = 1
            · have h0 : L.drop 1 = [] := List.drop_eq_nil_of_le (by rw [HLL.out]; omega)
              rw [h0]
              exact ⟨A3, c5, by congr 1; simp; omega, by simp, fun h => by simp at h⟩
            · have := (((HQP9.out.below HB914.out).below hW).drop1 rfl (by omega)).recs
              rw [List.map_drop, HQL.out] at this
              rw [hA3, if_neg hcc, hc5]
              exact this
          have cdr : ∀ W, Below w14.heap.size w14 W → Calls Tryz.prog 34 #[.agg #[.int .i64 a.pos, .string (str a.chain), .string (str a.state)], .slice A3 (m - 1) c5, .agg #[.int .i64 b.pos, .string (str b.chain), .string (str b.state)]] W fun e w' => e = .returned (.bool false) ∧ Below w14.heap.size w14 w' := by
            intro W hW
            have hl : (L.drop 1).length = m - 1 := by rw [List.length_drop, HLL.out]
            have := follows_ok a b A3 c5 (L.drop 1) W (by rw [hl]; exact hrd W hW) (by rw [hl]; omega) (HR14.out.later hW)
            rw [hl, hdr] at this
            exact this.mono fun e w' ⟨he, hb⟩ => ⟨he, Below.next hW hb⟩
          have j2 : (1 : Int) ≤ (m : Int) := by omega
          have j3 : (m : Int) ≤ (c2 : Int) := by omega
          have j4 : (1 : Int) ≤ (c2 : Int) := by omega
          have CDR := Lib.hid cdr
          clear cdr hrd hdr
          go_wp2_with fail
          by_cases hcc : c2 = 1
          · rw [if_pos hcc] at hA3
            subst hA3
            have h50 : c5 = 0 := by omega
            clear hc5
            subst h50
            replace BJ := Below.drew BJ
            refine wp_region_noPanic ?_
            refine wp_region_ord (fun W => (W.cell? ⟨w6.heap.size, 0, none⟩ = some (.int .i64 a.pos) ∧ W.cell? ⟨w6.heap.size, 1, none⟩ = some (.string (str a.chain)) ∧ W.cell? ⟨w6.heap.size, 2, none⟩ = some (.string (str a.state)) ∧ W.cell? ⟨w7.heap.size, 0, none⟩ = some (.int .i64 b.pos) ∧ W.cell? ⟨w7.heap.size, 1, none⟩ = some (.string (str b.chain)) ∧ W.cell? ⟨w7.heap.size, 2, none⟩ = some (.string (str b.state))) ∧ (W.cell? ⟨g3, k * 2, none⟩ = some (.int .i64 r0.pos) ∧ W.cell? ⟨g3, k * 2 + 1, none⟩ = some (.slice (some ⟨w12.heap.size, 0, none⟩) 1 1) ∧ W.cell? ⟨g2, o2 + k * 2, none⟩ = some (.int .i64 r0.pos) ∧ W.cell? ⟨g2, o2 + k * 2 + 1, none⟩ = some (.slice A0 r0.chs.length c0))) [(0, true), (1, true), (2, false), (3, false), (4, false), (5, false), (6, true), (7, true), (8, true), (9, true)] (by kernel_rfl) (by as_aux_lemma => kernel_rfl) (by rfl) (by as_aux_lemma => kernel_rfl) (fun _ _ _ _ _ h => h) (CELLS.out _ BJ) (fun hHeld => ?_)
            repeat (first
              | (apply SeqO.take0
                 case ho => exact rfl
                 case hg => exact rfl
                 case hy => (intro w hSw; (try dsimp only at hSw); go_simp; try with_reducible rfl)
                 try simp only [Act.put, List.setIfInBounds_toArray, List.set_cons_zero, List.set_cons_succ])
              | (apply SeqO.takeG
                 case ho => exact rfl
                 case hg => exact rfl
                 case hj => exact rfl
                 case hd => exact rfl
                 case ht => exact rfl
                 case hy => (intro w hSw; (try dsimp only at hSw); go_simp; try with_reducible rfl)
                 try simp only [Act.put, List.setIfInBounds_toArray, List.set_cons_zero, List.set_cons_succ])
              | (apply SeqO.skipG
                 case ho => exact rfl
                 case hg => exact rfl
                 case hj => exact rfl
                 case hd => exact rfl
                 case ht => exact rfl
                 case hne => exact rfl
                 try simp only [Act.put, List.setIfInBounds_toArray, List.set_cons_zero, List.set_cons_succ])
              | (first
                 | (apply SeqO.step0
                    case ho => exact rfl
                    case hg => exact rfl)
                 | (apply SeqO.stepG
                    case ho => exact rfl
                    case hg => exact rfl
                    case hj => exact rfl
                    case hd => exact rfl
                    case ht => exact rfl)
                 intro K hK
                 go_simp
                 first
                 | (go_at_call 34; (with_reducible refine (CDR.out _ BJ).mono ?_); rintro e wx ⟨rfl, BJ⟩; go_wp2_with fail)
                 | fail
                 refine hK.out _ _ ?_ (fun _ => ?_)
                 · exact CELLS.out _ BJ
                 clear hK K
                 try simp only [Act.put, List.setIfInBounds_toArray, List.set_cons_zero, List.set_cons_succ]))
            refine SeqO.done ?_
            refine NoPanic.normal ?_
            go_wp2_with fail
            go_ret
            exact ⟨rfl, Below.next HBW.out BJ⟩
          · rw [if_neg hcc] at hA3
            subst hA3 hc5
            replace BJ := Below.drew BJ
            refine wp_region_noPanic ?_
            refine wp_region_ord (fun W => (W.cell? ⟨w6.heap.size, 0, none⟩ = some (.int .i64 a.pos) ∧ W.cell? ⟨w6.heap.size, 1, none⟩ = some (.string (str a.chain)) ∧ W.cell? ⟨w6.heap.size, 2, none⟩ = some (.string (str a.state)) ∧ W.cell? ⟨w7.heap.size, 0, none⟩ = some (.int .i64 b.pos) ∧ W.cell? ⟨w7.heap.size, 1, none⟩ = some (.string (str b.chain)) ∧ W.cell? ⟨w7.heap.size, 2, none⟩ = some (.string (str b.state))) ∧ (W.cell? ⟨g3, k * 2, none⟩ = some (.int .i64 r0.pos) ∧ W.cell? ⟨g3, k * 2 + 1, none⟩ = some (.slice (some ⟨w12.heap.size, 0, none⟩) 1 1) ∧ W.cell? ⟨g2, o2 + k * 2, none⟩ = some (.int .i64 r0.pos) ∧ W.cell? ⟨g2, o2 + k * 2 + 1, none⟩ = some (.slice A0 r0.chs.length c0))) [(0, true), (1, true), (2, false), (3, false), (4, false), (5, false), (6, true), (7, true), (8, true), (9, true)] (by kernel_rfl) (by as_aux_lemma => kernel_rfl) (by rfl) (by as_aux_lemma => kernel_rfl) (fun _ _ _ _ _ h => h) (CELLS.out _ BJ) (fun hHeld => ?_)
            repeat (first
              | (apply SeqO.take0
                 case ho => exact rfl
                 case hg => exact rfl
                 case hy => (intro w hSw; (try dsimp only at hSw); go_simp; try with_reducible rfl)
                 try simp only [Act.put, List.setIfInBounds_toArray, List.set_cons_zero, List.set_cons_succ])
              | (apply SeqO.takeG
                 case ho => exact rfl
                 case hg => exact rfl
                 case hj => exact rfl
                 case hd => exact rfl
                 case ht => exact rfl
                 case hy => (intro w hSw; (try dsimp only at hSw); go_simp; try with_reducible rfl)
                 try simp only [Act.put, List.setIfInBounds_toArray, List.set_cons_zero, List.set_cons_succ])
              | (apply SeqO.skipG
                 case ho => exact rfl
                 case hg => exact rfl
                 case hj => exact rfl
                 case hd => exact rfl
                 case ht => exact rfl
                 case hne => exact rfl
                 try simp only [Act.put, List.setIfInBounds_toArray, List.set_cons_zero, List.set_cons_succ])
              | (first
                 | (apply SeqO.step0
                    case ho => exact rfl
                    case hg => exact rfl)
                 | (apply SeqO.stepG
                    case ho => exact rfl
                    case hg => exact rfl
                    case hj => exact rfl
                    case hd => exact rfl
                    case ht => exact rfl)
                 intro K hK
                 go_simp
                 first
                 | (go_at_call 34; (with_reducible refine (CDR.out _ BJ).mono ?_); rintro e wx ⟨rfl, BJ⟩; go_wp2_with fail)
                 | fail
                 refine hK.out _ _ ?_ (fun _ => ?_)
                 · exact CELLS.out _ BJ
                 clear hK K
                 try simp only [Act.put, List.setIfInBounds_toArray, List.set_cons_zero, List.set_cons_succ]))
            refine SeqO.done ?_
            refine NoPanic.normal ?_
            go_wp2_with fail
            go_ret
            exact ⟨rfl, Below.next HBW.out BJ⟩
        case false =>
          obtain ⟨hFt, hne⟩ := hB (by first | rfl | trivial)
          have hcol := LAW.out hne (by rw [← HFF.out]; exact hFt)
          have hcol2 : collA (strsL a.chain L m) (strsL a.chain M m) = true := by
            unfold strsL
            rw [List.take_of_length_le (by rw [HLL.out]; omega), List.take_of_length_le (by rw [HML.out]; omega)]
            exact hcol
          have HCO := Lib.hid hcol2
          clear hB hcol hcol2 hne hFt
          obtain ⟨⟨k0, k1, k2, -, -, -⟩, -⟩ := CELLS.out _ BJ
          have al15 := Below.alloc1 w15 (.cells #[.int .i64 a.pos, .string (str a.chain), .string (str a.state)] 46)
          have kh15 := BlkIs.new w15 46 #[.int .i64 a.pos, .string (str a.chain), .string (str a.state)]
          obtain ⟨w16, hw16⟩ : ∃ W, W = w15.alloc (.cells #[.int .i64 a.pos, .string (str a.chain), .string (str a.state)] 46) := ⟨_, rfl⟩
          have sz16 : w16.heap.size = w15.heap.size + 1 := by rw [hw16, World.size_alloc]
          rw [← hw16] at al15 kh15
          have al16 := Below.alloc1 w16 (.cells #[.int .i64 a.pos, .string (str a.chain), .string (str a.state)] 46)
          have kg16 := BlkIs.new w16 46 #[.int .i64 a.pos, .string (str a.chain), .string (str a.state)]
          rw [sz16] at kg16
          have kh16 := kh15.later al16
          have b1416 := Below.next (Below.next BJ al15) al16
          have x0 : w16.cell? ⟨w6.heap.size, 0, none⟩ = some (.int .i64 a.pos) := (al15.cell (block_of_cell k0)).trans k0
          have x1 : w16.cell? ⟨w6.heap.size, 1, none⟩ = some (.string (str a.chain)) := (al15.cell (block_of_cell k1)).trans k1
          have x2 : w16.cell? ⟨w6.heap.size, 2, none⟩ = some (.string (str a.state)) := (al15.cell (block_of_cell k2)).trans k2
          rw [hw16] at x0 x1 x2
          have J0 : HisJ w15 w15.heap.size (w15.heap.size + 1) (w15.heap.size + 2) (hdAt a b.state L 0) (hdAt a b.state M 0) (.slice none 0 0) (.slice none 0 0) (strsL a.chain L 0) (strsL a.chain M 0) (w16.alloc (.cells #[.int .i64 a.pos, .string (str a.chain), .string (str a.state)] 46)) :=
            ⟨World.ownsRow_nil _ _ _ _, World.ownsRow_nil _ _ _ _, by simp [Value.ownBlock], kh16, kg16, by omega, by omega, by omega, Nat.le_refl _, by omega, (Below.next al15 al16)⟩
          have HJ0 := Lib.hid J0
          have HW16 := Lib.hid hw16
          clear J0 hw16 al15 al16 kh15 kh16 kg16
          have HQP14 := Lib.hid (HQP9.out.below HB914.out)
          have BJ15 := Lib.hid BJ
          clear BJ b1416
          go_wp2_with fail
          clear x0 x1 x2 k0 k1 k2
          go_loopw [20, 21, 24] (fun sv tv iv wr => ∃ i : Nat, i ≤ m ∧ iv = .int .i64 i ∧ HisJ w15 w15.heap.size (w15.heap.size + 1) (w15.heap.size + 2) (hdAt a b.state L i) (hdAt a b.state M i) sv tv (strsL a.chain L i) (strsL a.chain M i) wr) (fun _ _ iv _ => m - (intOf iv).toNat)
          case atStart => exact ⟨0, by omega, rfl, by rw [← HW16.out]; exact HJ0.out⟩
          case round =>
            obtain ⟨i, hi, rfl, J⟩ := hrel
            have hlL := strsL_len a.chain L i (by rw [HLL.out]; exact hi)
            have hlM := strsL_len a.chain M i (by rw [HML.out]; exact hi)
            obtain ⟨sA, sc, rfl, -, -, -⟩ := ownsRow_form J.s
            obtain ⟨tA, tc, rfl, -, -, -⟩ := ownsRow_form J.t
            rw [hlL, hlM] at J ⊢
            by_cases h1 : i < m
            case neg =>
              have t1 : decide (i < m) = false := by simpa using h1
              obtain rfl : i = m := by omega
              have hcl := collide9_ok sA tA sc tc (strsL a.chain L i) (strsL a.chain M i) wr (by rw [hlL]; exact listAt_own J.s) (by rw [hlM]; exact listAt_own J.t) (by omega) (by omega) (strsL_short HAB.out HBS.out HFIT.out i (by rw [HLL.out]; omega)) (strsL_short HAB.out HBS.out HMF.out i (by rw [HML.out]; omega))
              rw [HCO.out, hlL, hlM] at hcl
              have HCL := Lib.hid hcl
              have hbr := Below.next HBW.out (Below.next BJ15.out J.bel)
              have HBR := Lib.hid hbr
              clear hcl hbr J
              go_wp2_with fail
              refine (HCL.out).mono ?_
              rintro e wz ⟨rfl, bz⟩
              have hfin := Below.next HBR.out bz
              go_wp2_with fail
              go_ret
              exact ⟨rfl, hfin⟩
            have t1 : decide (i < m) = true := by simpa using h1
            obtain ⟨⟨r, rv⟩, hq⟩ : ∃ q, qs[i]? = some q := ⟨_, List.getElem?_eq_getElem (by rw [HQQ.out]; exact h1)⟩
            obtain ⟨⟨q, qv⟩, hq2⟩ : ∃ q, ts[i]? = some q := ⟨_, List.getElem?_eq_getElem (by rw [HTL.out]; exact h1)⟩
            have hLr : L[i]? = some r := by rw [← HQL.out, List.getElem?_map, hq]; rfl
            have hMr : M[i]? = some q := by rw [← HTM.out, List.getElem?_map, hq2]; rfl
            obtain ⟨gr, er, eA, hgr, rc0, rc1, hrch⟩ := HQP14.out.at_ hq
            injection eA with eA
            injection eA with e1 e2
            subst e1 e2
            obtain ⟨gq, eq, eA, hgq, qc0, qc1, hqch⟩ := HQC.out.at_ hq2
            injection eA with eA
            injection eA with e1 e2
            subst e1 e2
            dsimp only at rc0 rc1 hrch qc0 qc1 hqch
            obtain ⟨rA, rc, rfl, -, -⟩ := id hrch
            obtain ⟨qA, qc, rfl, -, -⟩ := id hqch
            rw [Nat.zero_add] at qc0 qc1
            have elem : ∀ W, Below w15.heap.size w15 W → (W.cell? ⟨g2, o2 + i * 2, none⟩ = some (.int .i64 r.pos) ∧ W.cell? ⟨g2, o2 + i * 2 + 1, none⟩ = some (.slice rA r.chs.length rc)) ∧ (W.cell? ⟨g3, i * 2, none⟩ = some (.int .i64 q.pos) ∧ W.cell? ⟨g3, i * 2 + 1, none⟩ = some (.slice qA q.chs.length qc)) ∧ W.cell? ⟨w7.heap.size, 2, none⟩ = some (.string (str b.state)) := by
              intro W hW
              have hb := Below.next BJ15.out hW
              exact ⟨⟨(hb.cell (block_of_cell rc0)).trans rc0, (hb.cell (block_of_cell rc1)).trans rc1⟩, ⟨(hb.cell (block_of_cell qc0)).trans qc0, (hb.cell (block_of_cell qc1)).trans qc1⟩, ((HKB9.out.later HB914.out).later hb).cell 2⟩
            have fr := (HFIT.out i r hLr).1
            have fq := (HMF.out i q hMr).1
            obtain ⟨E1, hE1⟩ : ∃ E, E = encRec r := ⟨_, rfl⟩
            obtain ⟨E2, hE2⟩ : ∃ E, E = encRec q := ⟨_, rfl⟩
            have lE1 : E1.length ≤ 1000 := by rw [hE1]; exact encRec_len fr
            have lE2 : E2.length ≤ 1000 := by rw [hE2]; exact encRec_len fq
            have ce1 : ∀ W, Below w15.heap.size w15 W → Calls Tryz.prog 43 #[.agg #[.int .i64 r.pos, .slice rA r.chs.length rc]] W fun e w' => e = .returned (.tuple #[.string (str E1), .int .i64 0]) ∧ Below W.heap.size W w' := by
              intro W hW
              have := renc_ok r.pos rA rc r.chs W (hrch.below (Below.next BJ15.out hW))
              rw [show encRecE ⟨r.pos, r.chs⟩ = (encRec r, 0) from if_pos fr, ← hE1] at this
              exact this
            have ce2 : ∀ W, Below w15.heap.size w15 W → Calls Tryz.prog 43 #[.agg #[.int .i64 q.pos, .slice qA q.chs.length qc]] W fun e w' => e = .returned (.tuple #[.string (str E2), .int .i64 0]) ∧ Below W.heap.size W w' := by
              intro W hW
              have := renc_ok q.pos qA qc q.chs W (hqch.below (Below.next BJ15.out hW))
              rw [show encRecE ⟨q.pos, q.chs⟩ = (encRec q, 0) from if_pos fq, ← hE2] at this
              exact this
            have hn1 := hdAt_next HAB.out HBS.out HFIT.out i r hLr
            have hn2 := hdAt_next HAB.out HBS.out HMF.out i q hMr
            have hb1 := hdAt_ok (st := b.state) HAB.out HBS.out HFIT.out i (by rw [HLL.out]; omega)
            have hb2 := hdAt_ok (st := b.state) HAB.out HBS.out HMF.out i (by rw [HML.out]; omega)
            have hs1 := strsL_succ a b.state L i r hLr
            have hs2 := strsL_succ a b.state M i q hMr
            rw [← hE1] at hs1
            rw [← hE2] at hs2
            obtain ⟨N1, hN1⟩ : ∃ N, N = hdAt a b.state L (i + 1) := ⟨_, rfl⟩
            obtain ⟨N2, hN2⟩ : ∃ N, N = hdAt a b.state M (i + 1) := ⟨_, rfl⟩
            obtain ⟨H1, hH1⟩ : ∃ N, N = hdAt a b.state L i := ⟨_, rfl⟩
            obtain ⟨H2, hH2⟩ : ∃ N, N = hdAt a b.state M i := ⟨_, rfl⟩
            rw [← hN1, ← hH1] at hn1
            rw [← hN2, ← hH2] at hn2
            rw [← hH1] at hb1 hs1 J
            rw [← hH2] at hb2 hs2 J
            have cn1 : ∀ W, Below w15.heap.size w15 W → Calls Tryz.prog 29 #[.agg #[.int .i64 H1.pos, .string (str H1.chain), .string (str H1.state)], .agg #[.int .i64 r.pos, .slice rA r.chs.length rc], .string (str b.state)] W fun e w' => e = .returned (.tuple #[.agg #[.int .i64 N1.pos, .string (str N1.chain), .string (str N1.state)], .int .i64 0]) ∧ Below W.heap.size W w' := by
              intro W hW
              have := r9next_ok H1 r.pos rA rc r.chs b.state W (hrch.below (Below.next BJ15.out hW))
              rw [show (⟨r.pos, r.chs⟩ : Rec) = r from rfl, hn1] at this
              exact this
            have cn2 : ∀ W, Below w15.heap.size w15 W → Calls Tryz.prog 29 #[.agg #[.int .i64 H2.pos, .string (str H2.chain), .string (str H2.state)], .agg #[.int .i64 q.pos, .slice qA q.chs.length qc], .string (str b.state)] W fun e w' => e = .returned (.tuple #[.agg #[.int .i64 N2.pos, .string (str N2.chain), .string (str N2.state)], .int .i64 0]) ∧ Below W.heap.size W w' := by
              intro W hW
              have := r9next_ok H2 q.pos qA qc q.chs b.state W (hqch.below (Below.next BJ15.out hW))
              rw [show (⟨q.pos, q.chs⟩ : Rec) = q from rfl, hn2] at this
              exact this
            have c321 := (hdB_parts hb1).2.2.1
            have c322 := (hdB_parts hb2).2.2.1
            have ELEM := Lib.hid elem
            have HE1 := Lib.hid ce1
            have HE2 := Lib.hid ce2
            have HN1 := Lib.hid cn1
            have HN2 := Lib.hid cn2
            have HS1 := Lib.hid hs1
            have HS2 := Lib.hid hs2
            have HNN1 := Lib.hid hN1
            have HNN2 := Lib.hid hN2
            have lc1 : H1.chain.length ≤ 32 := by omega
            have lc2 : H2.chain.length ≤ 32 := by omega
            obtain ⟨S1, hS1⟩ : ∃ S, S = strsL a.chain L i := ⟨_, rfl⟩
            obtain ⟨S2, hS2⟩ : ∃ S, S = strsL a.chain M i := ⟨_, rfl⟩
            rw [← hS1] at J hlL
            rw [← hS2] at J hlM
            rw [← hS1] at hs1
            rw [← hS2] at hs2
            have HSE1 := Lib.hid hs1
            have HSE2 := Lib.hid hs2
            have HLL1 := Lib.hid hlL
            have HLM1 := Lib.hid hlM
            clear elem ce1 ce2 cn1 cn2 hs1 hs2 hN1 hN2 hn1 hn2 hb1 hb2 hE1 hE2 hH1 hH2 fr fq hrch hqch rc0 rc1 qc0 qc1 hLr hMr hq hq2 hgr hgq c321 c322 hS1 hS2 hlL hlM HS1 HS2
            have j2 : (0 : Int) ≤ (i : Int) := by omega
            have j3 : (i : Int) < (m : Int) := by omega
            obtain ⟨⟨u0, u1⟩, ⟨u2, u3⟩, u4⟩ := ELEM.out _ J.bel
            go_wp2_with fail
            refine (HE1.out _ J.bel).mono ?_
            rintro e wa ⟨rfl, bn⟩
            replace J := J.later bn
            clear u0 u1 u2 u3 u4 bn
            obtain ⟨⟨u0, u1⟩, ⟨u2, u3⟩, u4⟩ := ELEM.out _ J.bel
            go_wp2_with fail
            refine (HE2.out _ J.bel).mono ?_
            rintro e wb ⟨rfl, bn⟩
            replace J := J.later bn
            clear u0 u1 u2 u3 u4 bn
            have v1 : wb.cell? ⟨w15.heap.size, 1, none⟩ = some (.string (str H1.chain)) := J.h.cell 1
            have z1 : ¬ 9223372036854775807 < 1 + H1.chain.length := by omega
            have z2 : ¬ 9223372036854775807 < 1 + H1.chain.length + E1.length := by omega
            have z3 : ¬ 9223372036854775807 < 1 + H2.chain.length := by omega
            have z4 : ¬ 9223372036854775807 < 1 + H2.chain.length + E2.length := by omega
            obtain ⟨i0, hi0, hz0, hz1, hz2⟩ := info_str
            have hbase := J.bel.size
            have hJs := J.lt2
            have hle : w15.heap.size + 2 ≤ wb.heap.size := J.g.lt
            go_upto_region 30 with (at_builtin; refine wpList_append_lies _ rfl _ _ 52 rfl (w15.heap.size + 2) 9 i0 (.string ⟨#[]⟩) 1 16 Tryz.underlying52 hi0 hz0 hz1 hz2 rfl (by decide) (.slice sA i sc) i (svs S1) rfl ((J.later (Below.alloc1 wb (.cells #[.string ((⟨#[2]⟩ : ByteArray) ++ str H1.chain ++ str E1)] 9))).sn HLL1.out) ⟨wb.heap.size, 0, none⟩ 1 1 [.string ((⟨#[2]⟩ : ByteArray) ++ str H1.chain ++ str E1)] rfl rfl (cell_one_new _ _ _) (by simp [Value.oneCell']) (by decide) (by unfold maxLen; omega) (by omega) (by rw [World.size_alloc]; omega) _ rfl ?_; intro ga ca wd own4 g4 hat4 _)
            have Ja := (J.later (Below.alloc1 wb (.cells #[.string ((⟨#[2]⟩ : ByteArray) ++ str H1.chain ++ str E1)] 9)))
            rw [cat3] at own4 g4 Ja
            have hat5 : (Value.slice sA i sc).ownBlock = some ga ∨ ga = (wb.alloc (.cells #[.string (str (2 :: (H1.chain ++ E1)))] 9)).heap.size := by rw [cat3] at hat4; exact hat4
            replace J := Ja.saddn HLL1.out g4 own4 hat5
            rw [← HSE1.out] at J
            clear Ja own4 g4 hat4 hat5 v1 hle hJs hbase
            have v1 : wd.cell? ⟨w15.heap.size + 1, 1, none⟩ = some (.string (str H2.chain)) := J.g.cell 1
            have hbase := J.bel.size
            have hle : w15.heap.size + 2 ≤ wd.heap.size := J.g.lt
            go_upto_region 31 with (at_builtin; refine wpList_append_lies _ rfl _ _ 52 rfl (w15.heap.size + 2) 9 i0 (.string ⟨#[]⟩) 1 16 Tryz.underlying52 hi0 hz0 hz1 hz2 rfl (by decide) (.slice tA i tc) i (svs S2) rfl ((J.later (Below.alloc1 wd (.cells #[.string ((⟨#[2]⟩ : ByteArray) ++ str H2.chain ++ str E2)] 9))).tn HLM1.out) ⟨wd.heap.size, 0, none⟩ 1 1 [.string ((⟨#[2]⟩ : ByteArray) ++ str H2.chain ++ str E2)] rfl rfl (cell_one_new _ _ _) (by simp [Value.oneCell']) (by decide) (by unfold maxLen; omega) (by omega) (by rw [World.size_alloc]; omega) _ rfl ?_; intro gb cb we own4 g4 hat4 _)
            have Ja := (J.later (Below.alloc1 wd (.cells #[.string ((⟨#[2]⟩ : ByteArray) ++ str H2.chain ++ str E2)] 9)))
            rw [cat3] at own4 g4 Ja
            have hat5 : (Value.slice tA i tc).ownBlock = some gb ∨ gb = (wd.alloc (.cells #[.string (str (2 :: (H2.chain ++ E2)))] 9)).heap.size := by rw [cat3] at hat4; exact hat4
            replace J := (Ja.swap.saddn HLM1.out g4 own4 hat5).swap
            rw [← HSE2.out] at J
            clear Ja own4 g4 hat4 hat5 v1 hle hbase
            replace J := J.later (Below.drew (Below.refl _ _))
            have x0 : we.drew.cell? ⟨w15.heap.size, 0, none⟩ = some (.int .i64 H1.pos) := J.h.cell 0
            have x1 : we.drew.cell? ⟨w15.heap.size, 1, none⟩ = some (.string (str H1.chain)) := J.h.cell 1
            have x2 : we.drew.cell? ⟨w15.heap.size, 2, none⟩ = some (.string (str H1.state)) := J.h.cell 2
            refine wp_region_noPanic ?_
            refine wp_region_ord (fun W => W.cell? ⟨g2, o2 + i * 2, none⟩ = some (.int .i64 r.pos) ∧ W.cell? ⟨g2, o2 + i * 2 + 1, none⟩ = some (.slice rA r.chs.length rc) ∧ W.cell? ⟨w7.heap.size, 2, none⟩ = some (.string (str b.state))) [(1, false), (2, false), (3, false), (4, false), (5, false), (6, false), (0, true), (7, true), (8, true), (9, false), (10, false), (11, true)] (by kernel_rfl) (by as_aux_lemma => kernel_rfl) (by rfl) (by as_aux_lemma => kernel_rfl) (fun _ _ _ _ _ h => h) (⟨(ELEM.out _ J.bel).1.1, (ELEM.out _ J.bel).1.2, (ELEM.out _ J.bel).2.2⟩) (fun hHeld => ?_)
            repeat (
              apply SeqO.take0
              case ho => exact rfl
              case hg => exact rfl
              case hy => (intro w hSw; (try dsimp only at hSw); go_simp; try with_reducible rfl)
              try simp only [Act.put, List.setIfInBounds_toArray, List.set_cons_zero, List.set_cons_succ])
            apply SeqO.step0
            case ho => exact rfl
            case hg => exact rfl
            intro K hK
            go_simp
            refine hK.out _ _ ⟨(ELEM.out _ J.bel).1.1, (ELEM.out _ J.bel).1.2, (ELEM.out _ J.bel).2.2⟩ (fun _ => ?_)
            clear hK K
            try simp only [Act.put, List.setIfInBounds_toArray, List.set_cons_zero, List.set_cons_succ]
            apply SeqO.step0
            case ho => exact rfl
            case hg => exact rfl
            intro K hK
            go_simp
            go_at_call 29
            with_reducible refine (HN1.out _ J.bel).mono ?_
            rintro e wf ⟨rfl, bn⟩
            replace J := J.later bn
            go_wp2_with fail
            refine hK.out _ _ ⟨(ELEM.out _ J.bel).1.1, (ELEM.out _ J.bel).1.2, (ELEM.out _ J.bel).2.2⟩ (fun _ => ?_)
            clear hK K bn x0 x1 x2
            try simp only [Act.put, List.setIfInBounds_toArray, List.set_cons_zero, List.set_cons_succ]
            repeat (
              apply SeqO.take0
              case ho => exact rfl
              case hg => exact rfl
              case hy => (intro w hSw; (try dsimp only at hSw); go_simp; try with_reducible rfl)
              try simp only [Act.put, List.setIfInBounds_toArray, List.set_cons_zero, List.set_cons_succ])
            apply SeqO.step0
            case ho => exact rfl
            case hg => exact rfl
            intro K hK
            have x0 : wf.cell? ⟨w15.heap.size, 0, none⟩ = some (.int .i64 H1.pos) := J.h.cell 0
            have x1 : wf.cell? ⟨w15.heap.size, 1, none⟩ = some (.string (str H1.chain)) := J.h.cell 1
            have x2 : wf.cell? ⟨w15.heap.size, 2, none⟩ = some (.string (str H1.state)) := J.h.cell 2
            have f0 := J.h.frozen 0
            have f1 := J.h.frozen 1
            have f2 := J.h.frozen 2
            replace J := J.hset N1
            go_simp
            refine hK.out _ _ ⟨(ELEM.out _ J.bel).1.1, (ELEM.out _ J.bel).1.2, (ELEM.out _ J.bel).2.2⟩ (fun _ => ?_)
            clear hK K x0 x1 x2 f0 f1 f2
            try simp only [Act.put, List.setIfInBounds_toArray, List.set_cons_zero, List.set_cons_succ]
            refine SeqO.done ?_
            refine NoPanic.normal ?_
            obtain ⟨wg, hwg⟩ : ∃ W, W = ((wf.setCell ⟨w15.heap.size, 0, none⟩ (.int .i64 N1.pos)).setCell ⟨w15.heap.size, 1, none⟩ (.string (str N1.chain))).setCell ⟨w15.heap.size, 2, none⟩ (.string (str N1.state)) := ⟨_, rfl⟩
            rw [← hwg] at J ⊢
            clear hwg
            go_wp2_with fail
            replace J := J.later (Below.drew (Below.refl _ _))
            have x0 : wg.drew.cell? ⟨w15.heap.size + 1, 0, none⟩ = some (.int .i64 H2.pos) := J.g.cell 0
            have x1 : wg.drew.cell? ⟨w15.heap.size + 1, 1, none⟩ = some (.string (str H2.chain)) := J.g.cell 1
            have x2 : wg.drew.cell? ⟨w15.heap.size + 1, 2, none⟩ = some (.string (str H2.state)) := J.g.cell 2
            refine wp_region_noPanic ?_
            refine wp_region_ord (fun W => W.cell? ⟨g3, i * 2, none⟩ = some (.int .i64 q.pos) ∧ W.cell? ⟨g3, i * 2 + 1, none⟩ = some (.slice qA q.chs.length qc) ∧ W.cell? ⟨w7.heap.size, 2, none⟩ = some (.string (str b.state))) [(1, false), (2, false), (3, false), (4, false), (5, false), (6, false), (0, true), (7, true), (8, true), (9, false), (10, false), (11, true)] (by kernel_rfl) (by as_aux_lemma => kernel_rfl) (by rfl) (by as_aux_lemma => kernel_rfl) (fun _ _ _ _ _ h => h) (⟨(ELEM.out _ J.bel).2.1.1, (ELEM.out _ J.bel).2.1.2, (ELEM.out _ J.bel).2.2⟩) (fun hHeld => ?_)
            repeat (
              apply SeqO.take0
              case ho => exact rfl
              case hg => exact rfl
              case hy => (intro w hSw; (try dsimp only at hSw); go_simp; try with_reducible rfl)
              try simp only [Act.put, List.setIfInBounds_toArray, List.set_cons_zero, List.set_cons_succ])
            apply SeqO.step0
            case ho => exact rfl
            case hg => exact rfl
            intro K hK
            go_simp
            refine hK.out _ _ ⟨(ELEM.out _ J.bel).2.1.1, (ELEM.out _ J.bel).2.1.2, (ELEM.out _ J.bel).2.2⟩ (fun _ => ?_)
            clear hK K
            try simp only [Act.put, List.setIfInBounds_toArray, List.set_cons_zero, List.set_cons_succ]
            apply SeqO.step0
            case ho => exact rfl
            case hg => exact rfl
            intro K hK
            go_simp
            go_at_call 29
            with_reducible refine (HN2.out _ J.bel).mono ?_
            rintro e wh ⟨rfl, bn⟩
            replace J := J.later bn
            go_wp2_with fail
            refine hK.out _ _ ⟨(ELEM.out _ J.bel).2.1.1, (ELEM.out _ J.bel).2.1.2, (ELEM.out _ J.bel).2.2⟩ (fun _ => ?_)
            clear hK K bn x0 x1 x2
            try simp only [Act.put, List.setIfInBounds_toArray, List.set_cons_zero, List.set_cons_succ]
            repeat (
              apply SeqO.take0
              case ho => exact rfl
              case hg => exact rfl
              case hy => (intro w hSw; (try dsimp only at hSw); go_simp; try with_reducible rfl)
              try simp only [Act.put, List.setIfInBounds_toArray, List.set_cons_zero, List.set_cons_succ])
            apply SeqO.step0
            case ho => exact rfl
            case hg => exact rfl
            intro K hK
            have x0 : wh.cell? ⟨w15.heap.size + 1, 0, none⟩ = some (.int .i64 H2.pos) := J.g.cell 0
            have x1 : wh.cell? ⟨w15.heap.size + 1, 1, none⟩ = some (.string (str H2.chain)) := J.g.cell 1
            have x2 : wh.cell? ⟨w15.heap.size + 1, 2, none⟩ = some (.string (str H2.state)) := J.g.cell 2
            have f0 := J.g.frozen 0
            have f1 := J.g.frozen 1
            have f2 := J.g.frozen 2
            replace J := (J.swap.hset N2).swap
            go_simp
            refine hK.out _ _ ⟨(ELEM.out _ J.bel).2.1.1, (ELEM.out _ J.bel).2.1.2, (ELEM.out _ J.bel).2.2⟩ (fun _ => ?_)
            clear hK K x0 x1 x2 f0 f1 f2
            try simp only [Act.put, List.setIfInBounds_toArray, List.set_cons_zero, List.set_cons_succ]
            refine SeqO.done ?_
            refine NoPanic.normal ?_
            have HJ := Lib.hid J
            clear J
            go_wp2_with fail
            exact ⟨⟨i + 1, by omega, by go_num, by rw [← HNN1.out, ← HNN2.out]; exact HJ.out⟩, by simp [intOf]; omega⟩
end Go.Proofs.YtheebajklnljdaaGreatDoor
