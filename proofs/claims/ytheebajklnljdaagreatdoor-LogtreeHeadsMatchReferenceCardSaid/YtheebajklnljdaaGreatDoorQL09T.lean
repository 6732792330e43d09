/- The walk of LogtreeHeadsMatchReference (written by wip/mk_l09t.py). -/
import Derived.Test.YtheebajklnljdaaGreatDoorGu
import Derived.Test.YtheebajklnljdaaGreatDoorQR9B
import Derived.Test.YtheebajklnljdaaGreatDoorQR9D
import Derived.Test.YtheebajklnljdaaGreatDoorGw
import Derived.Test.YtheebajklnljdaaGreatDoorGr
import Derived.Test.YtheebajklnljdaaGreatDoorGq
import Derived.Deep.AppendLies
import Derived.Deep.DeepCutAuto
namespace Go.Proofs.YtheebajklnljdaaGreatDoor
open Go Go.RowKit
attribute [local go_sem] Oper.semAt_some

set_option maxRecDepth 100000 in
set_option maxHeartbeats 2000000 in
theorem headsMatch_any (a b : Hd) (lv pv0 : Value) (text root : ByteArray) (n : Int) (l : List Rec) (ss : List (List UInt8)) (w : World) (hR : RoundOk w) (hl : RecsIn w lv l) (hss : StrsIn w pv0 ss) :
    Calls Tryz.prog 4 #[hdV a, hdV b, lv, .string text, .string root, .int .i64 n, pv0] w fun e w' => e = .returned (.bool true) ∧ Below w.heap.size w w' := by
  obtain ⟨lA, lc, rfl⟩ := hl.form
  obtain ⟨pA, pc, rfl, hpc, hpn, hpm, hpx⟩ := hss
  obtain ⟨w0, hw0⟩ : ∃ W, W = (w.alloc (.cells #[.int .i64 a.pos, .string (str a.chain), .string (str a.state)] 46)).alloc (.cells #[.int .i64 b.pos, .string (str b.chain), .string (str b.state)] 46) := ⟨_, rfl⟩
  have hb0 : Below w.heap.size w w0 := by
    rw [hw0]; exact Below.alloc (Below.alloc (Below.refl w.heap.size w) (Nat.le_refl _) _) (by rw [World.size_alloc]; omega) _
  have sz0 : w0.heap.size = w.heap.size + 2 := by rw [hw0, World.size_alloc, World.size_alloc]
  have ka : BlkIs w0 w.heap.size 46 (hdCells a) := by rw [hw0]; exact (BlkIs.new w _ _).alloc _
  have kb : BlkIs w0 (w.heap.size + 1) 46 (hdCells b) := by rw [hw0]; exact alloc_new_at _ _ _ (by rw [World.size_alloc])
  have hs0 := sane_ok w0 (hR.later hb0)
  have HS := Lib.hid hs0
  have HR := Lib.hid hR
  have HL := Lib.hid hl
  have HPX := Lib.hid hpx
  have HW0 := Lib.hid hw0
  have HB0 := Lib.hid hb0
  have HKA := Lib.hid ka
  have HKB := Lib.hid kb
  have hgd := guardHd
  clear hs0 hR hl hpx hw0 hb0 ka kb
  unfold hdV
  obtain ⟨mt, hmt⟩ : ∃ m, m = min text.size 100 := ⟨_, rfl⟩
  have hmt1 : mt ≤ text.size := by omega
  have hmt2 : mt ≤ 100 := by omega
  have hmin1 : ∀ W, (Builtin.min_ #[ 3, 3 ] 3 #[.int .i64 (text.size : Int), .int .i64 100]).run Tryz.prog W = .ok (.int .i64 (mt : Int)) W := by
    intro W
    have : min (text.size : Int) 100 = (mt : Int) := by omega
    rw [← this]
    simp [Builtin.min_, Builtin.min2]
    omega
  obtain ⟨mp, hmp⟩ : ∃ m, m = min ss.length 20 := ⟨_, rfl⟩
  have hmp1 : mp ≤ ss.length := by omega
  have hmp2 : mp ≤ 20 := by omega
  have hmin2 : ∀ W, (Builtin.min_ #[ 3, 3 ] 3 #[.int .i64 (ss.length : Int), .int .i64 20]).run Tryz.prog W = .ok (.int .i64 (mp : Int)) W := by
    intro W
    have : min (ss.length : Int) 20 = (mp : Int) := by omega
    rw [← this]
    simp [Builtin.min_, Builtin.min2]
    omega
  obtain ⟨TX, hTX⟩ : ∃ T, T = text.extract 0 mt := ⟨_, rfl⟩
  have htl : TX.size ≤ 100 := by rw [hTX]; simp; omega
  obtain ⟨P, hP⟩ : ∃ P, P = ss.take mp := ⟨_, rfl⟩
  have hPl : P.length = mp := by rw [hP, List.length_take]; omega
  have HTX := Lib.hid hTX
  have HP := Lib.hid hP
  clear hmt hmp hTX hP
  have q0 : (0 : Int) ≤ (mt : Int) := by omega
  have q1 : (mt : Int) ≤ (text.size : Int) := by omega
  have q2 : (0 : Int) ≤ (mp : Int) := by omega
  have q3 : (mp : Int) ≤ (pc : Int) := by omega
  go_enter Tryz.func4, Tryz.ntmps4
  go_wp2_with fail
  rw [← HW0.out]
  refine (HS.out).mono ?_
  rintro e w1 ⟨rfl, b1⟩
  have hsz1 := b1.size
  have HB1 := Lib.hid (Below.next HB0.out b1)
  have HKA1 := Lib.hid (HKA.out.later b1)
  have HKB1 := Lib.hid (HKB.out.later b1)
  clear HS HKA HKB HB0 b1
  obtain ⟨i0, hi0, hz0, hz1, hz2⟩ := info_str
  have hm0 := World.ownsRow_made (e := 9) (size := 1) (base := w1.heap.size) w1 #[] 0 (Nat.le_refl _) (Nat.zero_le _) rfl
  have al0 := Below.alloc1 w1 (.cells #[] 9)
  go_upto_region 3 with fail
  rw [← HTX.out]
  go_cut [6] (fun s6 wx => wx.ownsRow w1.heap.size 9 1 s6 mp (svs P) ∧ Below w1.heap.size w1 wx)
  case first =>
    rcases pA with _ | ad
    · obtain rfl := hpn rfl
      obtain rfl : mp = 0 := by omega
      have hP0 : P = [] := List.eq_nil_of_length_eq_zero hPl
      subst hP0
      go_wp2_with (at_builtin; refine wpList_append_own_none rfl _ _ 52 rfl w1.heap.size 9 i0 1 Tryz.underlying52 hi0 _ 0 [] rfl hm0 rfl ?_)
      go_meet
      exact ⟨hm0, al0⟩
    · have hcells : ∀ (j : Nat) u, (svs P)[j]? = some u → (w1.alloc (.cells #[] 9)).cell? (ad.add j) = some u := by
        intro j u hu
        unfold svs at hu
        rw [List.getElem?_map, Option.map_eq_some_iff] at hu
        obtain ⟨x, hx, rfl⟩ := hu
        rw [HP.out, List.getElem?_take] at hx
        split at hx
        · have hlt := (List.getElem?_eq_some_iff.1 hx).1
          obtain ⟨g, o, eA, hg, hj⟩ := HPX.out (by omega)
          obtain rfl := Option.some.inj eA
          rw [add_off]
          exact ((Below.next HB1.out al0).cell (p := ⟨g, o + j, none⟩) hg).trans (hj j x hx)
        · cases hx
      have HCE := Lib.hid hcells
      clear hcells
      by_cases hpc0 : pc = 0
      · obtain rfl : mp = 0 := by omega
        subst hpc0
        go_wp2_with (at_builtin; refine wpList_append_own _ rfl _ _ 52 rfl w1.heap.size 9 i0 (.string ⟨#[]⟩) 1 16 Tryz.underlying52 hi0 hz0 hz1 hz2 rfl (by decide) _ 0 [] rfl hm0 ad 0 0 (svs P) rfl (by rw [svs_length]; omega) HCE.out (svs_one P) (by unfold maxLen; omega) (by omega) (by rw [World.size_alloc]; omega) ?_; intro v4 w4 own4 g4 _)
        rw [Nat.zero_add, List.nil_append] at own4
        have hb4 := below_fresh al0 (by rw [World.size_alloc]; omega) g4 (fun k hk => (hm0.lt k hk).1)
        go_meet
        exact ⟨own4, hb4⟩
      · go_wp2_with (at_builtin; refine wpList_append_own _ rfl _ _ 52 rfl w1.heap.size 9 i0 (.string ⟨#[]⟩) 1 16 Tryz.underlying52 hi0 hz0 hz1 hz2 rfl (by decide) _ 0 [] rfl hm0 ad mp pc (svs P) rfl (by rw [svs_length]; omega) HCE.out (svs_one P) (by unfold maxLen; omega) (by omega) (by rw [World.size_alloc]; omega) ?_; intro v4 w4 own4 g4 _)
        rw [Nat.zero_add, List.nil_append] at own4
        have hb4 := below_fresh al0 (by rw [World.size_alloc]; omega) g4 (fun k hk => (hm0.lt k hk).1)
        go_meet
        exact ⟨own4, hb4⟩
  case rest =>
  obtain ⟨ownP, hbc⟩ := hcut
  obtain ⟨w2, hw2⟩ : ∃ W, W = wc := ⟨_, rfl⟩
  rw [← hw2] at ownP hbc ⊢
  clear hw2 wc hm0 al0 hmin1 hmin2 HPX hi0 hz0 hz1 hz2 i0
  obtain ⟨qA, qc, rfl, -, -, -⟩ := ownsRow_form ownP
  have hlp := listAt_own (v := .slice qA mp qc) (l := P) (by rw [hPl]; exact ownP)
  have HLP := Lib.hid hlp
  have HKA2 := Lib.hid (HKA1.out.later hbc)
  have HKB2 := Lib.hid (HKB1.out.later hbc)
  have HB2 := Lib.hid (Below.next HB1.out hbc)
  have hsz2 := hbc.size
  clear ownP hlp hbc HKA1 HKB1 HB1
  obtain ⟨iR, hiR, hR0, hR1, hR2⟩ := info_rec
  go_wp2_with fail
  go_loopw [16, 17] (fun fv iv wr => ∃ (k : Nat) (ps : List (Rec × Value)), k ≤ 5 ∧ k ≤ l.length ∧ ps.length = k ∧ iv = .int .i64 k ∧ FewJ w2.heap.size wr fv ps ∧ Below w2.heap.size w2 wr) (fun _ iv _ => 5 - (intOf iv).toNat)
  case atStart => exact ⟨0, [], by omega, by omega, rfl, rfl, FewJ.nil _ _, Below.refl _ _⟩
  case round =>
    obtain ⟨k, ps, hk5, hkl, hpsl, rfl, J, hb⟩ := hrel
    have hrow := J.row
    rw [hpsl] at hrow
    obtain ⟨fA, fc, rfl, -, -, -⟩ := ownsRow_form hrow
    have hle0 : w2.heap.size ≤ wr.heap.size := hb.size
    by_cases h1 : k < l.length ∧ k < 5
    · obtain ⟨g1, g2⟩ := h1
      have t1 : decide (k < l.length) = true := by simpa using g1
      have t2 : decide ((k : Int) < 5) = true := by simp; omega
      obtain ⟨r, hr⟩ : ∃ r, l[k]? = some r := ⟨_, List.getElem?_eq_getElem g1⟩
      obtain ⟨g, o, Ac, cc, rfl, hg, x0, x1, hch, hAn, hcm⟩ := HL.out.at_ hr
      have hbw := Below.next HB2.out hb
      have y0 := (hbw.cell (p := ⟨g, o + k * 2, none⟩) hg).trans x0
      have y1 := (hbw.cell (p := ⟨g, o + k * 2 + 1, none⟩) hg).trans x1
      have hcut := cut_ok r.pos Ac cc r.chs wr (hch.below hbw) hAn hcm
      unfold recV at hcut
      obtain ⟨ch, hchx⟩ : ∃ c, c = r.chs.take 10 := ⟨_, rfl⟩
      rw [← hchx] at hcut
      have HCUT := Lib.hid hcut
      have HJ := Lib.hid J
      have HBB := Lib.hid hb
      have q4 : (0 : Int) ≤ (k : Int) := by omega
      have q5 : (k : Int) < (l.length : Int) := by omega
      clear hcut hch x0 x1 hr hchx J hb hbw hrow
      go_wp2_with fail
      refine (HCUT.out).mono ?_
      rintro e w6 ⟨A', c', rfl, own6, b6⟩
      have J6 := HJ.out.later b6
      have own6' := ownsRow_lower own6 hle0
      have al6 := Below.alloc1 w6 (.cells (recCells (⟨r.pos, ch⟩, .slice A' ch.length c')).toArray 35)
      have J7 := J6.later al6
      have hrow7 := J7.row
      rw [hpsl] at hrow7
      have hle6 := b6.size
      have HJ7 := Lib.hid J7
      have HOWN6 := Lib.hid (ownsRow_later al6 own6')
      have HB7 := Lib.hid (Below.next (Below.next HBB.out b6) al6)
      clear J6 J7 own6 own6' al6 b6
      go_wp2_with (at_builtin; refine wpList_append_own _ rfl _ _ 22 rfl w2.heap.size 35 iR (.agg #[.int .i64 0, .slice none 0 0]) 2 32 Tryz.underlying22 hiR hR0 hR1 hR2 rfl (by decide) (.slice fA k fc) k (ps.flatMap recCells) rfl hrow7 ⟨w6.heap.size, 0, none⟩ 1 1 (recCells (⟨r.pos, ch⟩, .slice A' ch.length c')) rfl rfl (blk_news (BlkIs.new w6 35 (recCells (⟨r.pos, ch⟩, .slice A' ch.length c')).toArray) 0 (recCells (⟨r.pos, ch⟩, .slice A' ch.length c')) rfl) (recCells_one _ rfl) (by unfold maxLen; omega) (by omega) (by rw [World.size_alloc]; omega) ?_; intro v7 w7 own7 g7 _)
      have hadd := HJ7.out.add (r := ⟨r.pos, ch⟩) g7 (by rw [hpsl]; exact own7) HOWN6.out
      have hb8 := HJ7.out.bel (Nat.le_refl _) HB7.out (by rw [World.size_alloc]; omega) g7
      exact ⟨⟨k + 1, _, by omega, by omega, by rw [List.length_append, List.length_singleton, hpsl], by go_num, hadd, hb8⟩, by simp [intOf]; omega⟩
    have QP := J.qs hpsl
    have hfew := QP.recs
    obtain ⟨few, hfe⟩ : ∃ f, f = ps.map (·.1) := ⟨_, rfl⟩
    rw [← hfe] at hfew
    have hfl : few.length = k := by rw [hfe, List.length_map, hpsl]
    have Z : HmZ w a b (.slice fA k fc) few (.slice qA mp qc) P wr := ⟨HKA2.out.later hb, HKB2.out.later hb, hfew, HLP.out.below hb, Below.next HB2.out hb⟩
    have HZ := Lib.hid Z
    clear Z QP hfew hfe hpsl J hb hrow HKA2 HKB2 HLP HB2 HL
    have hguard : decide (k < l.length) = false ∨ decide (k < l.length) = true ∧ decide ((k : Int) < 5) = false := by
      by_cases h : k < l.length
      · exact .inr ⟨by simpa using h, by simp; omega⟩
      · exact .inl (by simpa using h)
    clear h1
    rcases hguard with t1 | ⟨t1, t2⟩
    · go_wp2_with fail
      obtain ⟨wa, hwa⟩ : ∃ W, W = wr := ⟨_, rfl⟩
      rw [← hwa] at HZ hle0 ⊢
      clear hwa wr
      go_loopw [18] (fun iv wr => ∃ i : Nat, i ≤ k ∧ iv = .int .i64 i ∧ HmZ w a b (.slice fA k fc) few (.slice qA mp qc) P wr) (fun iv _ => k - (intOf iv).toNat)
      case atStart => exact ⟨0, by omega, rfl, HZ.out⟩
      case round =>
        clear HZ
        obtain ⟨i, hi, rfl, Z⟩ := hrel
        by_cases h1 : i < k
        case pos =>
          have t3 : decide (i < k) = true := by simpa using h1
          obtain ⟨r, hr⟩ : ∃ r, few[i]? = some r := ⟨_, List.getElem?_eq_getElem (by omega)⟩
          have zf := Z.few
          rw [← hfl] at zf
          obtain ⟨g, o, Av, cc, rfl, hg, hc, r0, r1, hch⟩ := zf.at_ hr
          have ce : ∀ W, Below wr.heap.size wr W → (W.cell? ⟨w.heap.size, 0, none⟩ = some (.int .i64 a.pos) ∧ W.cell? ⟨w.heap.size, 1, none⟩ = some (.string (str a.chain)) ∧ W.cell? ⟨w.heap.size, 2, none⟩ = some (.string (str a.state))) ∧ W.cell? ⟨g, o + i * 2, none⟩ = some (.int .i64 r.pos) ∧ W.cell? ⟨g, o + i * 2 + 1, none⟩ = some (.slice Av r.chs.length cc) := fun W hW =>
            ⟨⟨(Z.a.later hW).cell 0, (Z.a.later hW).cell 1, (Z.a.later hW).cell 2⟩, (hW.cell hg).trans r0, (hW.cell hg).trans r1⟩
          obtain ⟨Y, hY⟩ : ∃ Y, Y = (nextA a r TX.data.toList).1 := ⟨_, rfl⟩
          obtain ⟨E, hE⟩ : ∃ E, E = (nextA a r TX.data.toList).2 := ⟨_, rfl⟩
          have cn1 : ∀ W, Below wr.heap.size wr W → Calls Tryz.prog 28 #[.agg #[.int .i64 a.pos, .string (str a.chain), .string (str a.state)], .agg #[.int .i64 r.pos, .slice Av r.chs.length cc], .string TX] W fun e w' => e = .returned (.tuple #[.agg #[.int .i64 Y.pos, .string (str Y.chain), .string (str Y.state)], .int .i64 E]) ∧ Below W.heap.size W w' := by
            intro W hW
            have := next_ok a r.pos Av cc r.chs TX.data.toList W (hch.below hW) (HR.out.later (Z.later hW).bel)
            rw [show (⟨r.pos, r.chs⟩ : Rec) = r from rfl, ← hY, ← hE, show str TX.data.toList = TX from mk_data TX] at this
            exact this
          have cn2 : ∀ W, Below wr.heap.size wr W → Calls Tryz.prog 29 #[.agg #[.int .i64 a.pos, .string (str a.chain), .string (str a.state)], .agg #[.int .i64 r.pos, .slice Av r.chs.length cc], .string TX] W fun e w' => e = .returned (.tuple #[.agg #[.int .i64 Y.pos, .string (str Y.chain), .string (str Y.state)], .int .i64 E]) ∧ Below W.heap.size W w' := by
            intro W hW
            have := r9next_ok a r.pos Av cc r.chs TX.data.toList W (hch.below hW)
            rw [show (⟨r.pos, r.chs⟩ : Rec) = r from rfl, ← hY, ← hE, show str TX.data.toList = TX from mk_data TX] at this
            exact this
          have CE := Lib.hid ce
          have HN1 := Lib.hid cn1
          have HN2 := Lib.hid cn2
          have HZZ := Lib.hid Z
          have j0 : (0 : Int) ≤ (i : Int) := by omega
          have j1 : (i : Int) < (k : Int) := by omega
          have bw : Below wr.heap.size wr wr := Below.refl _ _
          have hq := fun W => run_eqHd W Y Y
          rw [decide_eq_true (show Y = Y from rfl)] at hq
          clear ce cn1 cn2 hY hE hch r0 r1 zf Z hr
          go_wp2_with fail
          replace bw := Below.drew bw
          refine wp_region_noPanic ?_
          refine wp_region_ordG (fun W => (W.cell? ⟨w.heap.size, 0, none⟩ = some (.int .i64 a.pos) ∧ W.cell? ⟨w.heap.size, 1, none⟩ = some (.string (str a.chain)) ∧ W.cell? ⟨w.heap.size, 2, none⟩ = some (.string (str a.state))) ∧ W.cell? ⟨g, o + i * 2, none⟩ = some (.int .i64 r.pos) ∧ W.cell? ⟨g, o + i * 2 + 1, none⟩ = some (.slice Av r.chs.length cc)) [(0, false), (1, false), (2, false), (3, false), (4, false), (5, false)] 63 7 (by kernel_rfl) (by as_aux_lemma => kernel_rfl) (by rfl) (by as_aux_lemma => kernel_rfl) (fun _ _ _ _ _ h => h) (CE.out _ bw) (fun hHeld => ?_)
          repeat (
            apply SeqF.take0
            case ho => exact rfl
            case hg => exact rfl
            case hy => (intro w hSw; (try dsimp only at hSw); go_simp; try with_reducible rfl)
            try simp only [Act.put, List.setIfInBounds_toArray, List.set_cons_zero, List.set_cons_succ])
          refine SeqF.done ?_
          refine two_ready (i := 6) (j := 10) (oi := ?oi1) (oj := ?oj1) ?hr1 ?hi1 ?hgi1 ?hj1 ?hgj1 (fun K hK => ?one1) (fun K hK => ?two1)
          case hi1 => exact rfl
          case hj1 => exact rfl
          case hr1 => kernel_rfl
          case hgi1 => exact rfl
          case hgj1 => exact rfl
          case one1 =>
            go_simp
            go_at_call 28
            with_reducible refine (HN1.out _ bw).mono ?_
            rintro e wc ⟨rfl, b4⟩
            replace bw := Below.next bw b4
            go_wp2_with fail
            refine hK.out _ _ (CE.out _ bw) (fun _ => ?_)
            clear hK K b4
            try simp only [Act.put, List.setIfInBounds_toArray, List.set_cons_zero, List.set_cons_succ]
            refine seqG_end [(7, false), (8, false), (9, false), (10, true), (11, true), (12, true)] _ 8191 _ (by rfl) (by as_aux_lemma => kernel_rfl) (by as_aux_lemma => kernel_rfl) (by as_aux_lemma => kernel_rfl) (fun _ _ _ _ _ h => h) (CE.out _ bw) ?_
            repeat (
              apply SeqF.take0
              case ho => exact rfl
              case hg => exact rfl
              case hy => (intro w hSw; (try dsimp only at hSw); go_simp; try with_reducible rfl)
              try simp only [Act.put, List.setIfInBounds_toArray, List.set_cons_zero, List.set_cons_succ])
            apply SeqF.step0
            case ho => exact rfl
            case hg => exact rfl
            intro K hK
            go_simp
            have bn := Below.alloc1 wc (.cells #[.int .i64 0, .string ⟨#[]⟩, .string ⟨#[]⟩] 46)
            have KN := BlkIs.new wc 46 #[.int .i64 0, .string ⟨#[]⟩, .string ⟨#[]⟩]
            have hNl := bw.size
            (try simp at hNl)
            generalize wc.alloc (.cells #[.int .i64 0, .string ⟨#[]⟩, .string ⟨#[]⟩] 46) = wd at *
            replace bw := Below.next bw bn
            refine hK.out _ _ (CE.out _ bw) (fun _ => ?_)
            clear hK K bn
            try simp only [Act.put, List.setIfInBounds_toArray, List.set_cons_zero, List.set_cons_succ]
            apply SeqF.step0
            case ho => exact rfl
            case hg => exact rfl
            intro K hK
            have z0 : wd.cell? ⟨wc.heap.size, 0, none⟩ = some (.int .i64 0) := KN.cell 0
            have z1 : wd.cell? ⟨wc.heap.size, 1, none⟩ = some (.string ⟨#[]⟩) := KN.cell 1
            have z2 : wd.cell? ⟨wc.heap.size, 2, none⟩ = some (.string ⟨#[]⟩) := KN.cell 2
            have f0 := KN.frozen 0
            have f1 := KN.frozen 1
            have f2 := KN.frozen 2
            replace bw := ((bw.setCell (p := ⟨wc.heap.size, 0, none⟩) (by simp <;> omega) (.int .i64 Y.pos)).setCell (p := ⟨wc.heap.size, 1, none⟩) (by simp <;> omega) (.string (str Y.chain))).setCell (p := ⟨wc.heap.size, 2, none⟩) (by simp <;> omega) (.string (str Y.state))
            have K190 := ((KN.set 0 (.int .i64 Y.pos)).set 1 (.string (str Y.chain))).set 2 (.string (str Y.state))
            go_simp
            refine hK.out _ _ (CE.out _ bw) (fun _ => ?_)
            clear hK K z0 z1 z2 f0 f1 f2 KN
            try simp only [Act.put, List.setIfInBounds_toArray, List.set_cons_zero, List.set_cons_succ]
            repeat (
              apply SeqF.take0
              case ho => exact rfl
              case hg => exact rfl
              case hy => (intro w hSw; (try dsimp only at hSw); go_simp; try with_reducible rfl)
              try simp only [Act.put, List.setIfInBounds_toArray, List.set_cons_zero, List.set_cons_succ])
            refine SeqF.done ?_
            refine NoPanic.normal ?_
            generalize ((wd.setCell ⟨wc.heap.size, 0, none⟩ (.int .i64 Y.pos)).setCell ⟨wc.heap.size, 1, none⟩ (.string (str Y.chain))).setCell ⟨wc.heap.size, 2, none⟩ (.string (str Y.state)) = we at *
            have K19 : BlkIs we wc.heap.size 46 [.int .i64 Y.pos, .string (str Y.chain), .string (str Y.state)] := K190
            clear K190
            go_wp2_with fail
            replace bw := Below.drew bw
            replace K19 := K19.later (Below.drew (Below.refl _ _))
            refine wp_region_noPanic ?_
            refine wp_region_ordG (fun W => (W.cell? ⟨w.heap.size, 0, none⟩ = some (.int .i64 a.pos) ∧ W.cell? ⟨w.heap.size, 1, none⟩ = some (.string (str a.chain)) ∧ W.cell? ⟨w.heap.size, 2, none⟩ = some (.string (str a.state))) ∧ W.cell? ⟨g, o + i * 2, none⟩ = some (.int .i64 r.pos) ∧ W.cell? ⟨g, o + i * 2 + 1, none⟩ = some (.slice Av r.chs.length cc)) [(0, false), (1, false), (2, false), (3, false), (4, false), (5, false)] 63 7 (by kernel_rfl) (by as_aux_lemma => kernel_rfl) (by rfl) (by as_aux_lemma => kernel_rfl) (fun _ _ _ _ _ h => h) (CE.out _ bw) (fun hHeld => ?_)
            repeat (
              apply SeqF.take0
              case ho => exact rfl
              case hg => exact rfl
              case hy => (intro w hSw; (try dsimp only at hSw); go_simp; try with_reducible rfl)
              try simp only [Act.put, List.setIfInBounds_toArray, List.set_cons_zero, List.set_cons_succ])
            refine SeqF.done ?_
            refine two_ready (i := 6) (j := 10) (oi := ?oi2) (oj := ?oj2) ?hr2 ?hi2 ?hgi2 ?hj2 ?hgj2 (fun K hK => ?one2) (fun K hK => ?two2)
            case hi2 => exact rfl
            case hj2 => exact rfl
            case hr2 => kernel_rfl
            case hgi2 => exact rfl
            case hgj2 => exact rfl
            case one2 =>
              go_simp
              go_at_call 29
              with_reducible refine (HN2.out _ bw).mono ?_
              rintro e wi ⟨rfl, b4⟩
              replace bw := Below.next bw b4
              replace K19 := K19.later b4
              go_wp2_with fail
              refine hK.out _ _ (CE.out _ bw) (fun _ => ?_)
              clear hK K b4
              try simp only [Act.put, List.setIfInBounds_toArray, List.set_cons_zero, List.set_cons_succ]
              refine seqG_end [(7, false), (8, false), (9, false), (10, true), (11, true), (12, true)] _ 8191 _ (by rfl) (by as_aux_lemma => kernel_rfl) (by as_aux_lemma => kernel_rfl) (by as_aux_lemma => kernel_rfl) (fun _ _ _ _ _ h => h) (CE.out _ bw) ?_
              repeat (
                apply SeqF.take0
                case ho => exact rfl
                case hg => exact rfl
                case hy => (intro w hSw; (try dsimp only at hSw); go_simp; try with_reducible rfl)
                try simp only [Act.put, List.setIfInBounds_toArray, List.set_cons_zero, List.set_cons_succ])
              apply SeqF.step0
              case ho => exact rfl
              case hg => exact rfl
              intro K hK
              go_simp
              have bn := Below.alloc1 wi (.cells #[.int .i64 0, .string ⟨#[]⟩, .string ⟨#[]⟩] 46)
              have KN := BlkIs.new wi 46 #[.int .i64 0, .string ⟨#[]⟩, .string ⟨#[]⟩]
              have hNl := bw.size
              (try simp at hNl)
              have lK19 := K19.lt
              (try simp at lK19)
              generalize wi.alloc (.cells #[.int .i64 0, .string ⟨#[]⟩, .string ⟨#[]⟩] 46) = wj at *
              replace bw := Below.next bw bn
              replace K19 := K19.later bn
              refine hK.out _ _ (CE.out _ bw) (fun _ => ?_)
              clear hK K bn
              try simp only [Act.put, List.setIfInBounds_toArray, List.set_cons_zero, List.set_cons_succ]
              apply SeqF.step0
              case ho => exact rfl
              case hg => exact rfl
              intro K hK
              have z0 : wj.cell? ⟨wi.heap.size, 0, none⟩ = some (.int .i64 0) := KN.cell 0
              have z1 : wj.cell? ⟨wi.heap.size, 1, none⟩ = some (.string ⟨#[]⟩) := KN.cell 1
              have z2 : wj.cell? ⟨wi.heap.size, 2, none⟩ = some (.string ⟨#[]⟩) := KN.cell 2
              have f0 := KN.frozen 0
              have f1 := KN.frozen 1
              have f2 := KN.frozen 2
              replace bw := ((bw.setCell (p := ⟨wi.heap.size, 0, none⟩) (by simp <;> omega) (.int .i64 Y.pos)).setCell (p := ⟨wi.heap.size, 1, none⟩) (by simp <;> omega) (.string (str Y.chain))).setCell (p := ⟨wi.heap.size, 2, none⟩) (by simp <;> omega) (.string (str Y.state))
              replace K19 := ((K19.other (p := ⟨wi.heap.size, 0, none⟩) (by simp <;> omega) (.int .i64 Y.pos)).other (p := ⟨wi.heap.size, 1, none⟩) (by simp <;> omega) (.string (str Y.chain))).other (p := ⟨wi.heap.size, 2, none⟩) (by simp <;> omega) (.string (str Y.state))
              have K210 := ((KN.set 0 (.int .i64 Y.pos)).set 1 (.string (str Y.chain))).set 2 (.string (str Y.state))
              go_simp
              refine hK.out _ _ (CE.out _ bw) (fun _ => ?_)
              clear hK K z0 z1 z2 f0 f1 f2 KN
              try simp only [Act.put, List.setIfInBounds_toArray, List.set_cons_zero, List.set_cons_succ]
              repeat (
                apply SeqF.take0
                case ho => exact rfl
                case hg => exact rfl
                case hy => (intro w hSw; (try dsimp only at hSw); go_simp; try with_reducible rfl)
                try simp only [Act.put, List.setIfInBounds_toArray, List.set_cons_zero, List.set_cons_succ])
              refine SeqF.done ?_
              refine NoPanic.normal ?_
              generalize ((wj.setCell ⟨wi.heap.size, 0, none⟩ (.int .i64 Y.pos)).setCell ⟨wi.heap.size, 1, none⟩ (.string (str Y.chain))).setCell ⟨wi.heap.size, 2, none⟩ (.string (str Y.state)) = wk at *
              have K21 : BlkIs wk wi.heap.size 46 [.int .i64 Y.pos, .string (str Y.chain), .string (str Y.state)] := K210
              clear K210
              have y0 : wk.cell? ⟨wc.heap.size, 0, none⟩ = some (.int .i64 Y.pos) := K19.cell 0
              have y1 : wk.cell? ⟨wc.heap.size, 1, none⟩ = some (.string (str Y.chain)) := K19.cell 1
              have y2 : wk.cell? ⟨wc.heap.size, 2, none⟩ = some (.string (str Y.state)) := K19.cell 2
              have y3 : wk.cell? ⟨wi.heap.size, 0, none⟩ = some (.int .i64 Y.pos) := K21.cell 0
              have y4 : wk.cell? ⟨wi.heap.size, 1, none⟩ = some (.string (str Y.chain)) := K21.cell 1
              have y5 : wk.cell? ⟨wi.heap.size, 2, none⟩ = some (.string (str Y.state)) := K21.cell 2
              have HZF := Lib.hid (HZZ.out.later bw)
              clear K19 K21 bw
              go_wp2_with fail
              exact ⟨⟨i + 1, by omega, by go_num, HZF.out⟩, by simp [intOf]; omega⟩
            case two2 =>
              go_simp
              have bn : Below we.drew.heap.size we.drew (we.alloc (.cells #[.int .i64 0, .string ⟨#[]⟩, .string ⟨#[]⟩] 46)).drew := Below.alloc1 we.drew (.cells #[.int .i64 0, .string ⟨#[]⟩, .string ⟨#[]⟩] 46)
              have KN : BlkIs (we.alloc (.cells #[.int .i64 0, .string ⟨#[]⟩, .string ⟨#[]⟩] 46)).drew we.heap.size 46 [.int .i64 0, .string ⟨#[]⟩, .string ⟨#[]⟩] := BlkIs.new we.drew 46 #[.int .i64 0, .string ⟨#[]⟩, .string ⟨#[]⟩]
              have hNl := bw.size
              (try simp at hNl)
              have lK19 := K19.lt
              (try simp at lK19)
              generalize (we.alloc (.cells #[.int .i64 0, .string ⟨#[]⟩, .string ⟨#[]⟩] 46)).drew = wj at *
              replace bw := Below.next bw bn
              replace K19 := K19.later bn
              refine hK.out _ _ (CE.out _ bw) (fun _ => ?_)
              clear hK K bn
              try simp only [Act.put, List.setIfInBounds_toArray, List.set_cons_zero, List.set_cons_succ]
              refine seqG_end [(6, true), (7, true), (8, false), (9, false), (11, true), (12, true)] _ 8191 _ (by rfl) (by as_aux_lemma => kernel_rfl) (by as_aux_lemma => kernel_rfl) (by as_aux_lemma => kernel_rfl) (fun _ _ _ _ _ h => h) (CE.out _ bw) ?_
              apply SeqF.step0
              case ho => exact rfl
              case hg => exact rfl
              intro K hK
              go_simp
              go_at_call 29
              with_reducible refine (HN2.out _ bw).mono ?_
              rintro e wi ⟨rfl, b4⟩
              replace bw := Below.next bw b4
              replace K19 := K19.later b4
              replace KN := KN.later b4
              go_wp2_with fail
              refine hK.out _ _ (CE.out _ bw) (fun _ => ?_)
              clear hK K b4
              try simp only [Act.put, List.setIfInBounds_toArray, List.set_cons_zero, List.set_cons_succ]
              repeat (
                apply SeqF.take0
                case ho => exact rfl
                case hg => exact rfl
                case hy => (intro w hSw; (try dsimp only at hSw); go_simp; try with_reducible rfl)
                try simp only [Act.put, List.setIfInBounds_toArray, List.set_cons_zero, List.set_cons_succ])
              apply SeqF.step0
              case ho => exact rfl
              case hg => exact rfl
              intro K hK
              have z0 : wi.cell? ⟨we.heap.size, 0, none⟩ = some (.int .i64 0) := KN.cell 0
              have z1 : wi.cell? ⟨we.heap.size, 1, none⟩ = some (.string ⟨#[]⟩) := KN.cell 1
              have z2 : wi.cell? ⟨we.heap.size, 2, none⟩ = some (.string ⟨#[]⟩) := KN.cell 2
              have f0 := KN.frozen 0
              have f1 := KN.frozen 1
              have f2 := KN.frozen 2
              replace bw := ((bw.setCell (p := ⟨we.heap.size, 0, none⟩) (by simp <;> omega) (.int .i64 Y.pos)).setCell (p := ⟨we.heap.size, 1, none⟩) (by simp <;> omega) (.string (str Y.chain))).setCell (p := ⟨we.heap.size, 2, none⟩) (by simp <;> omega) (.string (str Y.state))
              replace K19 := ((K19.other (p := ⟨we.heap.size, 0, none⟩) (by simp <;> omega) (.int .i64 Y.pos)).other (p := ⟨we.heap.size, 1, none⟩) (by simp <;> omega) (.string (str Y.chain))).other (p := ⟨we.heap.size, 2, none⟩) (by simp <;> omega) (.string (str Y.state))
              have K210 := ((KN.set 0 (.int .i64 Y.pos)).set 1 (.string (str Y.chain))).set 2 (.string (str Y.state))
              go_simp
              refine hK.out _ _ (CE.out _ bw) (fun _ => ?_)
              clear hK K z0 z1 z2 f0 f1 f2 KN
              try simp only [Act.put, List.setIfInBounds_toArray, List.set_cons_zero, List.set_cons_succ]
              repeat (
                apply SeqF.take0
                case ho => exact rfl
                case hg => exact rfl
                case hy => (intro w hSw; (try dsimp only at hSw); go_simp; try with_reducible rfl)
                try simp only [Act.put, List.setIfInBounds_toArray, List.set_cons_zero, List.set_cons_succ])
              refine SeqF.done ?_
              refine NoPanic.normal ?_
              generalize ((wi.setCell ⟨we.heap.size, 0, none⟩ (.int .i64 Y.pos)).setCell ⟨we.heap.size, 1, none⟩ (.string (str Y.chain))).setCell ⟨we.heap.size, 2, none⟩ (.string (str Y.state)) = wk at *
              have K21 : BlkIs wk we.heap.size 46 [.int .i64 Y.pos, .string (str Y.chain), .string (str Y.state)] := K210
              clear K210
              have y0 : wk.cell? ⟨wc.heap.size, 0, none⟩ = some (.int .i64 Y.pos) := K19.cell 0
              have y1 : wk.cell? ⟨wc.heap.size, 1, none⟩ = some (.string (str Y.chain)) := K19.cell 1
              have y2 : wk.cell? ⟨wc.heap.size, 2, none⟩ = some (.string (str Y.state)) := K19.cell 2
              have y3 : wk.cell? ⟨we.heap.size, 0, none⟩ = some (.int .i64 Y.pos) := K21.cell 0
              have y4 : wk.cell? ⟨we.heap.size, 1, none⟩ = some (.string (str Y.chain)) := K21.cell 1
              have y5 : wk.cell? ⟨we.heap.size, 2, none⟩ = some (.string (str Y.state)) := K21.cell 2
              have HZF := Lib.hid (HZZ.out.later bw)
              clear K19 K21 bw
              go_wp2_with fail
              exact ⟨⟨i + 1, by omega, by go_num, HZF.out⟩, by simp [intOf]; omega⟩
          case two1 =>
            go_simp
            have bn : Below wr.drew.heap.size wr.drew (wr.alloc (.cells #[.int .i64 0, .string ⟨#[]⟩, .string ⟨#[]⟩] 46)).drew := Below.alloc1 wr.drew (.cells #[.int .i64 0, .string ⟨#[]⟩, .string ⟨#[]⟩] 46)
            have KN : BlkIs (wr.alloc (.cells #[.int .i64 0, .string ⟨#[]⟩, .string ⟨#[]⟩] 46)).drew wr.heap.size 46 [.int .i64 0, .string ⟨#[]⟩, .string ⟨#[]⟩] := BlkIs.new wr.drew 46 #[.int .i64 0, .string ⟨#[]⟩, .string ⟨#[]⟩]
            have hNl := bw.size
            (try simp at hNl)
            generalize (wr.alloc (.cells #[.int .i64 0, .string ⟨#[]⟩, .string ⟨#[]⟩] 46)).drew = wd at *
            replace bw := Below.next bw bn
            refine hK.out _ _ (CE.out _ bw) (fun _ => ?_)
            clear hK K bn
            try simp only [Act.put, List.setIfInBounds_toArray, List.set_cons_zero, List.set_cons_succ]
            refine seqG_end [(6, true), (7, true), (8, false), (9, false), (11, true), (12, true)] _ 8191 _ (by rfl) (by as_aux_lemma => kernel_rfl) (by as_aux_lemma => kernel_rfl) (by as_aux_lemma => kernel_rfl) (fun _ _ _ _ _ h => h) (CE.out _ bw) ?_
            apply SeqF.step0
            case ho => exact rfl
            case hg => exact rfl
            intro K hK
            go_simp
            go_at_call 28
            with_reducible refine (HN1.out _ bw).mono ?_
            rintro e wc ⟨rfl, b4⟩
            replace bw := Below.next bw b4
            replace KN := KN.later b4
            go_wp2_with fail
            refine hK.out _ _ (CE.out _ bw) (fun _ => ?_)
            clear hK K b4
            try simp only [Act.put, List.setIfInBounds_toArray, List.set_cons_zero, List.set_cons_succ]
            repeat (
              apply SeqF.take0
              case ho => exact rfl
              case hg => exact rfl
              case hy => (intro w hSw; (try dsimp only at hSw); go_simp; try with_reducible rfl)
              try simp only [Act.put, List.setIfInBounds_toArray, List.set_cons_zero, List.set_cons_succ])
            apply SeqF.step0
            case ho => exact rfl
            case hg => exact rfl
            intro K hK
            have z0 : wc.cell? ⟨wr.heap.size, 0, none⟩ = some (.int .i64 0) := KN.cell 0
            have z1 : wc.cell? ⟨wr.heap.size, 1, none⟩ = some (.string ⟨#[]⟩) := KN.cell 1
            have z2 : wc.cell? ⟨wr.heap.size, 2, none⟩ = some (.string ⟨#[]⟩) := KN.cell 2
            have f0 := KN.frozen 0
            have f1 := KN.frozen 1
            have f2 := KN.frozen 2
            replace bw := ((bw.setCell (p := ⟨wr.heap.size, 0, none⟩) (by simp <;> omega) (.int .i64 Y.pos)).setCell (p := ⟨wr.heap.size, 1, none⟩) (by simp <;> omega) (.string (str Y.chain))).setCell (p := ⟨wr.heap.size, 2, none⟩) (by simp <;> omega) (.string (str Y.state))
            have K190 := ((KN.set 0 (.int .i64 Y.pos)).set 1 (.string (str Y.chain))).set 2 (.string (str Y.state))
            go_simp
            refine hK.out _ _ (CE.out _ bw) (fun _ => ?_)
            clear hK K z0 z1 z2 f0 f1 f2 KN
            try simp only [Act.put, List.setIfInBounds_toArray, List.set_cons_zero, List.set_cons_succ]
            repeat (
              apply SeqF.take0
              case ho => exact rfl
              case hg => exact rfl
              case hy => (intro w hSw; (try dsimp only at hSw); go_simp; try with_reducible rfl)
              try simp only [Act.put, List.setIfInBounds_toArray, List.set_cons_zero, List.set_cons_succ])
            refine SeqF.done ?_
            refine NoPanic.normal ?_
            generalize ((wc.setCell ⟨wr.heap.size, 0, none⟩ (.int .i64 Y.pos)).setCell ⟨wr.heap.size, 1, none⟩ (.string (str Y.chain))).setCell ⟨wr.heap.size, 2, none⟩ (.string (str Y.state)) = we at *
            have K19 : BlkIs we wr.heap.size 46 [.int .i64 Y.pos, .string (str Y.chain), .string (str Y.state)] := K190
            clear K190
            go_wp2_with fail
            replace bw := Below.drew bw
            replace K19 := K19.later (Below.drew (Below.refl _ _))
            refine wp_region_noPanic ?_
            refine wp_region_ordG (fun W => (W.cell? ⟨w.heap.size, 0, none⟩ = some (.int .i64 a.pos) ∧ W.cell? ⟨w.heap.size, 1, none⟩ = some (.string (str a.chain)) ∧ W.cell? ⟨w.heap.size, 2, none⟩ = some (.string (str a.state))) ∧ W.cell? ⟨g, o + i * 2, none⟩ = some (.int .i64 r.pos) ∧ W.cell? ⟨g, o + i * 2 + 1, none⟩ = some (.slice Av r.chs.length cc)) [(0, false), (1, false), (2, false), (3, false), (4, false), (5, false)] 63 7 (by kernel_rfl) (by as_aux_lemma => kernel_rfl) (by rfl) (by as_aux_lemma => kernel_rfl) (fun _ _ _ _ _ h => h) (CE.out _ bw) (fun hHeld => ?_)
            repeat (
              apply SeqF.take0
              case ho => exact rfl
              case hg => exact rfl
              case hy => (intro w hSw; (try dsimp only at hSw); go_simp; try with_reducible rfl)
              try simp only [Act.put, List.setIfInBounds_toArray, List.set_cons_zero, List.set_cons_succ])
            refine SeqF.done ?_
            refine two_ready (i := 6) (j := 10) (oi := ?oi3) (oj := ?oj3) ?hr3 ?hi3 ?hgi3 ?hj3 ?hgj3 (fun K hK => ?one3) (fun K hK => ?two3)
            case hi3 => exact rfl
            case hj3 => exact rfl
            case hr3 => kernel_rfl
            case hgi3 => exact rfl
            case hgj3 => exact rfl
            case one3 =>
              go_simp
              go_at_call 29
              with_reducible refine (HN2.out _ bw).mono ?_
              rintro e wi ⟨rfl, b4⟩
              replace bw := Below.next bw b4
              replace K19 := K19.later b4
              go_wp2_with fail
              refine hK.out _ _ (CE.out _ bw) (fun _ => ?_)
              clear hK K b4
              try simp only [Act.put, List.setIfInBounds_toArray, List.set_cons_zero, List.set_cons_succ]
              refine seqG_end [(7, false), (8, false), (9, false), (10, true), (11, true), (12, true)] _ 8191 _ (by rfl) (by as_aux_lemma => kernel_rfl) (by as_aux_lemma => kernel_rfl) (by as_aux_lemma => kernel_rfl) (fun _ _ _ _ _ h => h) (CE.out _ bw) ?_
              repeat (
                apply SeqF.take0
                case ho => exact rfl
                case hg => exact rfl
                case hy => (intro w hSw; (try dsimp only at hSw); go_simp; try with_reducible rfl)
                try simp only [Act.put, List.setIfInBounds_toArray, List.set_cons_zero, List.set_cons_succ])
              apply SeqF.step0
              case ho => exact rfl
              case hg => exact rfl
              intro K hK
              go_simp
              have bn := Below.alloc1 wi (.cells #[.int .i64 0, .string ⟨#[]⟩, .string ⟨#[]⟩] 46)
              have KN := BlkIs.new wi 46 #[.int .i64 0, .string ⟨#[]⟩, .string ⟨#[]⟩]
              have hNl := bw.size
              (try simp at hNl)
              have lK19 := K19.lt
              (try simp at lK19)
              generalize wi.alloc (.cells #[.int .i64 0, .string ⟨#[]⟩, .string ⟨#[]⟩] 46) = wj at *
              replace bw := Below.next bw bn
              replace K19 := K19.later bn
              refine hK.out _ _ (CE.out _ bw) (fun _ => ?_)
              clear hK K bn
              try simp only [Act.put, List.setIfInBounds_toArray, List.set_cons_zero, List.set_cons_succ]
              apply SeqF.step0
              case ho => exact rfl
              case hg => exact rfl
              intro K hK
              have z0 : wj.cell? ⟨wi.heap.size, 0, none⟩ = some (.int .i64 0) := KN.cell 0
              have z1 : wj.cell? ⟨wi.heap.size, 1, none⟩ = some (.string ⟨#[]⟩) := KN.cell 1
              have z2 : wj.cell? ⟨wi.heap.size, 2, none⟩ = some (.string ⟨#[]⟩) := KN.cell 2
              have f0 := KN.frozen 0
              have f1 := KN.frozen 1
              have f2 := KN.frozen 2
              replace bw := ((bw.setCell (p := ⟨wi.heap.size, 0, none⟩) (by simp <;> omega) (.int .i64 Y.pos)).setCell (p := ⟨wi.heap.size, 1, none⟩) (by simp <;> omega) (.string (str Y.chain))).setCell (p := ⟨wi.heap.size, 2, none⟩) (by simp <;> omega) (.string (str Y.state))
              replace K19 := ((K19.other (p := ⟨wi.heap.size, 0, none⟩) (by simp <;> omega) (.int .i64 Y.pos)).other (p := ⟨wi.heap.size, 1, none⟩) (by simp <;> omega) (.string (str Y.chain))).other (p := ⟨wi.heap.size, 2, none⟩) (by simp <;> omega) (.string (str Y.state))
              have K210 := ((KN.set 0 (.int .i64 Y.pos)).set 1 (.string (str Y.chain))).set 2 (.string (str Y.state))
              go_simp
              refine hK.out _ _ (CE.out _ bw) (fun _ => ?_)
              clear hK K z0 z1 z2 f0 f1 f2 KN
              try simp only [Act.put, List.setIfInBounds_toArray, List.set_cons_zero, List.set_cons_succ]
              repeat (
                apply SeqF.take0
                case ho => exact rfl
                case hg => exact rfl
                case hy => (intro w hSw; (try dsimp only at hSw); go_simp; try with_reducible rfl)
                try simp only [Act.put, List.setIfInBounds_toArray, List.set_cons_zero, List.set_cons_succ])
              refine SeqF.done ?_
              refine NoPanic.normal ?_
              generalize ((wj.setCell ⟨wi.heap.size, 0, none⟩ (.int .i64 Y.pos)).setCell ⟨wi.heap.size, 1, none⟩ (.string (str Y.chain))).setCell ⟨wi.heap.size, 2, none⟩ (.string (str Y.state)) = wk at *
              have K21 : BlkIs wk wi.heap.size 46 [.int .i64 Y.pos, .string (str Y.chain), .string (str Y.state)] := K210
              clear K210
              have y0 : wk.cell? ⟨wr.heap.size, 0, none⟩ = some (.int .i64 Y.pos) := K19.cell 0
              have y1 : wk.cell? ⟨wr.heap.size, 1, none⟩ = some (.string (str Y.chain)) := K19.cell 1
              have y2 : wk.cell? ⟨wr.heap.size, 2, none⟩ = some (.string (str Y.state)) := K19.cell 2
              have y3 : wk.cell? ⟨wi.heap.size, 0, none⟩ = some (.int .i64 Y.pos) := K21.cell 0
              have y4 : wk.cell? ⟨wi.heap.size, 1, none⟩ = some (.string (str Y.chain)) := K21.cell 1
              have y5 : wk.cell? ⟨wi.heap.size, 2, none⟩ = some (.string (str Y.state)) := K21.cell 2
              have HZF := Lib.hid (HZZ.out.later bw)
              clear K19 K21 bw
              go_wp2_with fail
              exact ⟨⟨i + 1, by omega, by go_num, HZF.out⟩, by simp [intOf]; omega⟩
            case two3 =>
              go_simp
              have bn : Below we.drew.heap.size we.drew (we.alloc (.cells #[.int .i64 0, .string ⟨#[]⟩, .string ⟨#[]⟩] 46)).drew := Below.alloc1 we.drew (.cells #[.int .i64 0, .string ⟨#[]⟩, .string ⟨#[]⟩] 46)
              have KN : BlkIs (we.alloc (.cells #[.int .i64 0, .string ⟨#[]⟩, .string ⟨#[]⟩] 46)).drew we.heap.size 46 [.int .i64 0, .string ⟨#[]⟩, .string ⟨#[]⟩] := BlkIs.new we.drew 46 #[.int .i64 0, .string ⟨#[]⟩, .string ⟨#[]⟩]
              have hNl := bw.size
              (try simp at hNl)
              have lK19 := K19.lt
              (try simp at lK19)
              generalize (we.alloc (.cells #[.int .i64 0, .string ⟨#[]⟩, .string ⟨#[]⟩] 46)).drew = wj at *
              replace bw := Below.next bw bn
              replace K19 := K19.later bn
              refine hK.out _ _ (CE.out _ bw) (fun _ => ?_)
              clear hK K bn
              try simp only [Act.put, List.setIfInBounds_toArray, List.set_cons_zero, List.set_cons_succ]
              refine seqG_end [(6, true), (7, true), (8, false), (9, false), (11, true), (12, true)] _ 8191 _ (by rfl) (by as_aux_lemma => kernel_rfl) (by as_aux_lemma => kernel_rfl) (by as_aux_lemma => kernel_rfl) (fun _ _ _ _ _ h => h) (CE.out _ bw) ?_
              apply SeqF.step0
              case ho => exact rfl
              case hg => exact rfl
              intro K hK
              go_simp
              go_at_call 29
              with_reducible refine (HN2.out _ bw).mono ?_
              rintro e wi ⟨rfl, b4⟩
              replace bw := Below.next bw b4
              replace K19 := K19.later b4
              replace KN := KN.later b4
              go_wp2_with fail
              refine hK.out _ _ (CE.out _ bw) (fun _ => ?_)
              clear hK K b4
              try simp only [Act.put, List.setIfInBounds_toArray, List.set_cons_zero, List.set_cons_succ]
              repeat (
                apply SeqF.take0
                case ho => exact rfl
                case hg => exact rfl
                case hy => (intro w hSw; (try dsimp only at hSw); go_simp; try with_reducible rfl)
                try simp only [Act.put, List.setIfInBounds_toArray, List.set_cons_zero, List.set_cons_succ])
              apply SeqF.step0
              case ho => exact rfl
              case hg => exact rfl
              intro K hK
              have z0 : wi.cell? ⟨we.heap.size, 0, none⟩ = some (.int .i64 0) := KN.cell 0
              have z1 : wi.cell? ⟨we.heap.size, 1, none⟩ = some (.string ⟨#[]⟩) := KN.cell 1
              have z2 : wi.cell? ⟨we.heap.size, 2, none⟩ = some (.string ⟨#[]⟩) := KN.cell 2
              have f0 := KN.frozen 0
              have f1 := KN.frozen 1
              have f2 := KN.frozen 2
              replace bw := ((bw.setCell (p := ⟨we.heap.size, 0, none⟩) (by simp <;> omega) (.int .i64 Y.pos)).setCell (p := ⟨we.heap.size, 1, none⟩) (by simp <;> omega) (.string (str Y.chain))).setCell (p := ⟨we.heap.size, 2, none⟩) (by simp <;> omega) (.string (str Y.state))
              replace K19 := ((K19.other (p := ⟨we.heap.size, 0, none⟩) (by simp <;> omega) (.int .i64 Y.pos)).other (p := ⟨we.heap.size, 1, none⟩) (by simp <;> omega) (.string (str Y.chain))).other (p := ⟨we.heap.size, 2, none⟩) (by simp <;> omega) (.string (str Y.state))
              have K210 := ((KN.set 0 (.int .i64 Y.pos)).set 1 (.string (str Y.chain))).set 2 (.string (str Y.state))
              go_simp
              refine hK.out _ _ (CE.out _ bw) (fun _ => ?_)
              clear hK K z0 z1 z2 f0 f1 f2 KN
              try simp only [Act.put, List.setIfInBounds_toArray, List.set_cons_zero, List.set_cons_succ]
              repeat (
                apply SeqF.take0
                case ho => exact rfl
                case hg => exact rfl
                case hy => (intro w hSw; (try dsimp only at hSw); go_simp; try with_reducible rfl)
                try simp only [Act.put, List.setIfInBounds_toArray, List.set_cons_zero, List.set_cons_succ])
              refine SeqF.done ?_
              refine NoPanic.normal ?_
              generalize ((wi.setCell ⟨we.heap.size, 0, none⟩ (.int .i64 Y.pos)).setCell ⟨we.heap.size, 1, none⟩ (.string (str Y.chain))).setCell ⟨we.heap.size, 2, none⟩ (.string (str Y.state)) = wk at *
              have K21 : BlkIs wk we.heap.size 46 [.int .i64 Y.pos, .string (str Y.chain), .string (str Y.state)] := K210
              clear K210
              have y0 : wk.cell? ⟨wr.heap.size, 0, none⟩ = some (.int .i64 Y.pos) := K19.cell 0
              have y1 : wk.cell? ⟨wr.heap.size, 1, none⟩ = some (.string (str Y.chain)) := K19.cell 1
              have y2 : wk.cell? ⟨wr.heap.size, 2, none⟩ = some (.string (str Y.state)) := K19.cell 2
              have y3 : wk.cell? ⟨we.heap.size, 0, none⟩ = some (.int .i64 Y.pos) := K21.cell 0
              have y4 : wk.cell? ⟨we.heap.size, 1, none⟩ = some (.string (str Y.chain)) := K21.cell 1
              have y5 : wk.cell? ⟨we.heap.size, 2, none⟩ = some (.string (str Y.state)) := K21.cell 2
              have HZF := Lib.hid (HZZ.out.later bw)
              clear K19 K21 bw
              go_wp2_with fail
              exact ⟨⟨i + 1, by omega, by go_num, HZF.out⟩, by simp [intOf]; omega⟩
        have t3 : decide (i < k) = false := by simpa using h1
        obtain ⟨X, hX⟩ : ∃ X, X = (encA a).1 := ⟨_, rfl⟩
        obtain ⟨E, hE⟩ : ∃ X, X = (encA a).2 := ⟨_, rfl⟩
        obtain ⟨D, hD⟩ : ∃ X, X = (decA TX.data.toList).1 := ⟨_, rfl⟩
        obtain ⟨Y, hY⟩ : ∃ X, X = (decA TX.data.toList).2 := ⟨_, rfl⟩
        obtain ⟨F1, hF1⟩ : ∃ F, F = followsA a few b := ⟨_, rfl⟩
        obtain ⟨F2, hF2⟩ : ∃ F, F = followsA a [] b := ⟨_, rfl⟩
        obtain ⟨V, hV⟩ : ∃ F, F = verA root.data.toList n a P := ⟨_, rfl⟩
        have ce1 := fun W => hencode_ok a W
        have ce2 := fun W => r9encode_ok a W
        have cd1 := fun W => hdecode_ok TX W (by omega)
        have cd2 := fun W => r9decode_ok TX W (by omega)
        rw [← hX, ← hE] at ce1 ce2
        rw [← hD, ← hY] at cd1 cd2
        unfold hdV at ce1 ce2 cd1 cd2
        have cz : ∀ W, HmZ w a b (.slice fA k fc) few (.slice qA mp qc) P W → RoundOk W := fun W h => HR.out.later h.bel
        have cf1 : ∀ W, HmZ w a b (.slice fA k fc) few (.slice qA mp qc) P W → Calls Tryz.prog 34 #[.agg #[.int .i64 a.pos, .string (str a.chain), .string (str a.state)], .slice fA k fc, .agg #[.int .i64 b.pos, .string (str b.chain), .string (str b.state)]] W fun e w' => e = .returned (.bool F1) ∧ Below W.heap.size W w' := by
          intro W h
          have := follows_ok a b fA fc few W (by rw [hfl]; exact h.few) (by omega) (cz W h)
          rw [hfl, ← hF1] at this
          exact this
        have cf2 : ∀ W, HmZ w a b (.slice fA k fc) few (.slice qA mp qc) P W → Calls Tryz.prog 35 #[.agg #[.int .i64 a.pos, .string (str a.chain), .string (str a.state)], .slice fA k fc, .agg #[.int .i64 b.pos, .string (str b.chain), .string (str b.state)]] W fun e w' => e = .returned (.bool F1) ∧ Below W.heap.size W w' := by
          intro W h
          have := r9follows_ok a b fA fc few W (by rw [hfl]; exact h.few) (by omega)
          rw [hfl, ← hF1] at this
          exact this
        have cf3 : ∀ W, HmZ w a b (.slice fA k fc) few (.slice qA mp qc) P W → Calls Tryz.prog 34 #[.agg #[.int .i64 a.pos, .string (str a.chain), .string (str a.state)], .slice none 0 0, .agg #[.int .i64 b.pos, .string (str b.chain), .string (str b.state)]] W fun e w' => e = .returned (.bool F2) ∧ Below W.heap.size W w' := by
          intro W h
          have := follows_ok a b none 0 [] W ⟨none, 0, rfl, Nat.le_refl _, fun h => absurd h (by simp)⟩ (by simp) (cz W h)
          rw [← hF2] at this
          exact this
        have cf4 : ∀ W, HmZ w a b (.slice fA k fc) few (.slice qA mp qc) P W → Calls Tryz.prog 35 #[.agg #[.int .i64 a.pos, .string (str a.chain), .string (str a.state)], .slice none 0 0, .agg #[.int .i64 b.pos, .string (str b.chain), .string (str b.state)]] W fun e w' => e = .returned (.bool F2) ∧ Below W.heap.size W w' := by
          intro W h
          have := r9follows_ok a b none 0 [] W ⟨none, 0, rfl, Nat.le_refl _, fun h => absurd h (by simp)⟩ (by simp)
          rw [← hF2] at this
          exact this
        have cv1 : ∀ W, HmZ w a b (.slice fA k fc) few (.slice qA mp qc) P W → Calls Tryz.prog 36 #[.string root, .int .i64 n, .agg #[.int .i64 a.pos, .string (str a.chain), .string (str a.state)], .slice qA mp qc] W fun e w' => e = .returned (.bool V) ∧ Below W.heap.size W w' := by
          intro W h
          have := lverify_ok root n a (.slice qA mp qc) P W h.path (by omega) (cz W h)
          rw [← hV] at this
          exact this
        have cv2 : ∀ W, HmZ w a b (.slice fA k fc) few (.slice qA mp qc) P W → Calls Tryz.prog 37 #[.string root, .int .i64 n, .agg #[.int .i64 a.pos, .string (str a.chain), .string (str a.state)], .slice qA mp qc] W fun e w' => e = .returned (.bool V) ∧ Below W.heap.size W w' := by
          intro W h
          have := r9verify_ok root n a (.slice qA mp qc) P W h.path (by omega)
          rw [← hV] at this
          exact this
        have CE1 := Lib.hid ce1
        have CE2 := Lib.hid ce2
        have CD1 := Lib.hid cd1
        have CD2 := Lib.hid cd2
        have CF1 := Lib.hid cf1
        have CF2 := Lib.hid cf2
        have CF3 := Lib.hid cf3
        have CF4 := Lib.hid cf4
        have CV1 := Lib.hid cv1
        have CV2 := Lib.hid cv2
        have hq := fun W => run_eqHd W D D
        rw [decide_eq_true (show D = D from rfl)] at hq
        clear ce1 ce2 cd1 cd2 cf1 cf2 cf3 cf4 cv1 cv2 cz hX hE hD hY hF1 hF2 hV
        have x0 : wr.cell? ⟨w.heap.size, 0, none⟩ = some (.int .i64 a.pos) := Z.a.cell 0
        have x1 : wr.cell? ⟨w.heap.size, 1, none⟩ = some (.string (str a.chain)) := Z.a.cell 1
        have x2 : wr.cell? ⟨w.heap.size, 2, none⟩ = some (.string (str a.state)) := Z.a.cell 2
        go_wp2_with fail
        refine (CE1.out _).mono ?_
        rintro e wc ⟨rfl, bn⟩
        replace Z := Z.later bn
        clear x0 x1 x2 bn
        have x0 : wc.cell? ⟨w.heap.size, 0, none⟩ = some (.int .i64 a.pos) := Z.a.cell 0
        have x1 : wc.cell? ⟨w.heap.size, 1, none⟩ = some (.string (str a.chain)) := Z.a.cell 1
        have x2 : wc.cell? ⟨w.heap.size, 2, none⟩ = some (.string (str a.state)) := Z.a.cell 2
        go_wp2_with fail
        refine (CE2.out _).mono ?_
        rintro e wd ⟨rfl, bn⟩
        replace Z := Z.later bn
        clear x0 x1 x2 bn
        go_wp2_with fail
        refine (CD1.out _).mono ?_
        rintro e we ⟨rfl, bn⟩
        replace Z := (Z.later bn).later (Below.alloc1 we (.cells #[.int .i64 D.pos, .string (str D.chain), .string (str D.state)] 46))
        have K27 := BlkIs.new we 46 #[.int .i64 D.pos, .string (str D.chain), .string (str D.state)]
        clear bn
        go_wp2_with fail
        generalize we.alloc (.cells #[.int .i64 D.pos, .string (str D.chain), .string (str D.state)] 46) = wf at *
        refine (CD2.out _).mono ?_
        rintro e wg ⟨rfl, bn⟩
        replace Z := (Z.later bn).later (Below.alloc1 wg (.cells #[.int .i64 D.pos, .string (str D.chain), .string (str D.state)] 46))
        replace K27 := (K27.later bn).later (Below.alloc1 wg (.cells #[.int .i64 D.pos, .string (str D.chain), .string (str D.state)] 46))
        have K29 := BlkIs.new wg 46 #[.int .i64 D.pos, .string (str D.chain), .string (str D.state)]
        clear bn
        go_wp2_with fail
        generalize wg.alloc (.cells #[.int .i64 D.pos, .string (str D.chain), .string (str D.state)] 46) = wh at *
        replace Z := Z.later (Below.drew (Below.refl _ _))
        replace K27 := K27.later (Below.drew (Below.refl _ _))
        replace K29 := K29.later (Below.drew (Below.refl _ _))
        have ce : ∀ W, HmZ w a b (.slice fA k fc) few (.slice qA mp qc) P W → Below wh.drew.heap.size wh.drew W → (W.cell? ⟨w.heap.size, 0, none⟩ = some (.int .i64 a.pos) ∧ W.cell? ⟨w.heap.size, 1, none⟩ = some (.string (str a.chain)) ∧ W.cell? ⟨w.heap.size, 2, none⟩ = some (.string (str a.state))) ∧ (W.cell? ⟨w.heap.size + 1, 0, none⟩ = some (.int .i64 b.pos) ∧ W.cell? ⟨w.heap.size + 1, 1, none⟩ = some (.string (str b.chain)) ∧ W.cell? ⟨w.heap.size + 1, 2, none⟩ = some (.string (str b.state))) ∧ (W.cell? ⟨we.heap.size, 0, none⟩ = some (.int .i64 D.pos) ∧ W.cell? ⟨we.heap.size, 1, none⟩ = some (.string (str D.chain)) ∧ W.cell? ⟨we.heap.size, 2, none⟩ = some (.string (str D.state))) ∧ (W.cell? ⟨wg.heap.size, 0, none⟩ = some (.int .i64 D.pos) ∧ W.cell? ⟨wg.heap.size, 1, none⟩ = some (.string (str D.chain)) ∧ W.cell? ⟨wg.heap.size, 2, none⟩ = some (.string (str D.state))) := by
          intro W h hb
          have k27 := K27.later hb
          have k29 := K29.later hb
          exact ⟨⟨h.a.cell 0, h.a.cell 1, h.a.cell 2⟩, ⟨h.b.cell 0, h.b.cell 1, h.b.cell 2⟩, ⟨k27.cell 0, k27.cell 1, k27.cell 2⟩, k29.cell 0, k29.cell 1, k29.cell 2⟩
        have CE := Lib.hid ce
        have bw := Below.refl wh.drew.heap.size wh.drew
        clear ce K27 K29
        refine wp_region_noPanic ?_
        refine wp_region_ord (fun W => (W.cell? ⟨w.heap.size, 0, none⟩ = some (.int .i64 a.pos) ∧ W.cell? ⟨w.heap.size, 1, none⟩ = some (.string (str a.chain)) ∧ W.cell? ⟨w.heap.size, 2, none⟩ = some (.string (str a.state))) ∧ (W.cell? ⟨w.heap.size + 1, 0, none⟩ = some (.int .i64 b.pos) ∧ W.cell? ⟨w.heap.size + 1, 1, none⟩ = some (.string (str b.chain)) ∧ W.cell? ⟨w.heap.size + 1, 2, none⟩ = some (.string (str b.state))) ∧ (W.cell? ⟨we.heap.size, 0, none⟩ = some (.int .i64 D.pos) ∧ W.cell? ⟨we.heap.size, 1, none⟩ = some (.string (str D.chain)) ∧ W.cell? ⟨we.heap.size, 2, none⟩ = some (.string (str D.state))) ∧ (W.cell? ⟨wg.heap.size, 0, none⟩ = some (.int .i64 D.pos) ∧ W.cell? ⟨wg.heap.size, 1, none⟩ = some (.string (str D.chain)) ∧ W.cell? ⟨wg.heap.size, 2, none⟩ = some (.string (str D.state)))) [(0, true), (1, true), (2, false), (3, true), (4, true), (5, true), (6, true), (7, false), (8, true), (9, true), (10, true), (11, true), (12, false), (13, true), (14, true), (15, true), (16, true), (17, false), (18, true), (19, true), (20, true), (21, true), (22, false), (23, false), (24, false), (26, false), (27, false), (28, false), (25, true), (29, true), (30, true), (31, true), (32, true), (33, false), (34, false), (36, false), (37, false), (35, true), (38, true), (39, true), (40, true), (41, true), (42, false), (43, false), (44, false), (45, false), (47, false), (48, false), (49, false), (50, false), (46, true), (51, true), (52, true), (53, true), (54, true)] (by kernel_rfl) (by as_aux_lemma => kernel_rfl) (by rfl) (by as_aux_lemma => kernel_rfl) (fun _ _ _ _ _ h => h) (CE.out _ Z bw) (fun hHeld => ?_)
        repeat (first
          | (apply SeqO.take0
             case ho => exact rfl
             case hg => exact rfl
             case hy => (intro w hSw; (try dsimp only at hSw); go_simp; try with_reducible rfl)
             try simp only [Act.put, List.setIfInBounds_toArray, List.set_cons_zero, List.set_cons_succ])
          | (apply SeqO.takeG
             case ho => exact rfl
             case hg => exact rfl
             case hj => exact rfl
             case hd => exact rfl
             case ht => exact rfl
             case hy => (intro w hSw; (try dsimp only at hSw); go_simp; try with_reducible rfl)
             try simp only [Act.put, List.setIfInBounds_toArray, List.set_cons_zero, List.set_cons_succ])
          | (first
             | (apply SeqO.step0
                case ho => exact rfl
                case hg => exact rfl)
             | (apply SeqO.stepG
                case ho => exact rfl
                case hg => exact rfl
                case hj => exact rfl
                case hd => exact rfl
                case ht => exact rfl)
             intro K hK
             go_simp
             first
             | (go_at_call 34; (with_reducible refine (CF1.out _ Z).mono ?_); rintro e wx ⟨rfl, bn⟩; replace Z := Z.later bn; replace bw := Below.next bw bn; clear bn; go_wp2_with fail)
             | (go_at_call 34; (with_reducible refine (CF3.out _ Z).mono ?_); rintro e wx ⟨rfl, bn⟩; replace Z := Z.later bn; replace bw := Below.next bw bn; clear bn; go_wp2_with fail)
             | (go_at_call 35; (with_reducible refine (CF2.out _ Z).mono ?_); rintro e wx ⟨rfl, bn⟩; replace Z := Z.later bn; replace bw := Below.next bw bn; clear bn; go_wp2_with fail)
             | (go_at_call 35; (with_reducible refine (CF4.out _ Z).mono ?_); rintro e wx ⟨rfl, bn⟩; replace Z := Z.later bn; replace bw := Below.next bw bn; clear bn; go_wp2_with fail)
             | (go_at_call 36; (with_reducible refine (CV1.out _ Z).mono ?_); rintro e wx ⟨rfl, bn⟩; replace Z := Z.later bn; replace bw := Below.next bw bn; clear bn; go_wp2_with fail)
             | (go_at_call 37; (with_reducible refine (CV2.out _ Z).mono ?_); rintro e wx ⟨rfl, bn⟩; replace Z := Z.later bn; replace bw := Below.next bw bn; clear bn; go_wp2_with fail)
             | fail
             refine hK.out _ _ ?_ (fun _ => ?_)
             · exact CE.out _ Z bw
             clear hK K
             try simp only [Act.put, List.setIfInBounds_toArray, List.set_cons_zero, List.set_cons_succ]))
        refine SeqO.done ?_
        refine NoPanic.normal ?_
        go_wp2_with fail
        go_ret
        exact ⟨rfl, Z.bel⟩
    · go_wp2_with fail
      obtain ⟨wa, hwa⟩ : ∃ W, W = wr := ⟨_, rfl⟩
      rw [← hwa] at HZ hle0 ⊢
      clear hwa wr
      go_loopw [18] (fun iv wr => ∃ i : Nat, i ≤ k ∧ iv = .int .i64 i ∧ HmZ w a b (.slice fA k fc) few (.slice qA mp qc) P wr) (fun iv _ => k - (intOf iv).toNat)
      case atStart => exact ⟨0, by omega, rfl, HZ.out⟩
      case round =>
        clear HZ
        obtain ⟨i, hi, rfl, Z⟩ := hrel
        by_cases h1 : i < k
        case pos =>
          have t3 : decide (i < k) = true := by simpa using h1
          obtain ⟨r, hr⟩ : ∃ r, few[i]? = some r := ⟨_, List.getElem?_eq_getElem (by omega)⟩
          have zf := Z.few
          rw [← hfl] at zf
          obtain ⟨g, o, Av, cc, rfl, hg, hc, r0, r1, hch⟩ := zf.at_ hr
          have ce : ∀ W, Below wr.heap.size wr W → (W.cell? ⟨w.heap.size, 0, none⟩ = some (.int .i64 a.pos) ∧ W.cell? ⟨w.heap.size, 1, none⟩ = some (.string (str a.chain)) ∧ W.cell? ⟨w.heap.size, 2, none⟩ = some (.string (str a.state))) ∧ W.cell? ⟨g, o + i * 2, none⟩ = some (.int .i64 r.pos) ∧ W.cell? ⟨g, o + i * 2 + 1, none⟩ = some (.slice Av r.chs.length cc) := fun W hW =>
            ⟨⟨(Z.a.later hW).cell 0, (Z.a.later hW).cell 1, (Z.a.later hW).cell 2⟩, (hW.cell hg).trans r0, (hW.cell hg).trans r1⟩
          obtain ⟨Y, hY⟩ : ∃ Y, Y = (nextA a r TX.data.toList).1 := ⟨_, rfl⟩
          obtain ⟨E, hE⟩ : ∃ E, E = (nextA a r TX.data.toList).2 := ⟨_, rfl⟩
          have cn1 : ∀ W, Below wr.heap.size wr W → Calls Tryz.prog 28 #[.agg #[.int .i64 a.pos, .string (str a.chain), .string (str a.state)], .agg #[.int .i64 r.pos, .slice Av r.chs.length cc], .string TX] W fun e w' => e = .returned (.tuple #[.agg #[.int .i64 Y.pos, .string (str Y.chain), .string (str Y.state)], .int .i64 E]) ∧ Below W.heap.size W w' := by
            intro W hW
            have := next_ok a r.pos Av cc r.chs TX.data.toList W (hch.below hW) (HR.out.later (Z.later hW).bel)
            rw [show (⟨r.pos, r.chs⟩ : Rec) = r from rfl, ← hY, ← hE, show str TX.data.toList = TX from mk_data TX] at this
            exact this
          have cn2 : ∀ W, Below wr.heap.size wr W → Calls Tryz.prog 29 #[.agg #[.int .i64 a.pos, .string (str a.chain), .string (str a.state)], .agg #[.int .i64 r.pos, .slice Av r.chs.length cc], .string TX] W fun e w' => e = .returned (.tuple #[.agg #[.int .i64 Y.pos, .string (str Y.chain), .string (str Y.state)], .int .i64 E]) ∧ Below W.heap.size W w' := by
            intro W hW
            have := r9next_ok a r.pos Av cc r.chs TX.data.toList W (hch.below hW)
            rw [show (⟨r.pos, r.chs⟩ : Rec) = r from rfl, ← hY, ← hE, show str TX.data.toList = TX from mk_data TX] at this
            exact this
          have CE := Lib.hid ce
          have HN1 := Lib.hid cn1
          have HN2 := Lib.hid cn2
          have HZZ := Lib.hid Z
          have j0 : (0 : Int) ≤ (i : Int) := by omega
          have j1 : (i : Int) < (k : Int) := by omega
          have bw : Below wr.heap.size wr wr := Below.refl _ _
          have hq := fun W => run_eqHd W Y Y
          rw [decide_eq_true (show Y = Y from rfl)] at hq
          clear ce cn1 cn2 hY hE hch r0 r1 zf Z hr
          go_wp2_with fail
          replace bw := Below.drew bw
          refine wp_region_noPanic ?_
          refine wp_region_ordG (fun W => (W.cell? ⟨w.heap.size, 0, none⟩ = some (.int .i64 a.pos) ∧ W.cell? ⟨w.heap.size, 1, none⟩ = some (.string (str a.chain)) ∧ W.cell? ⟨w.heap.size, 2, none⟩ = some (.string (str a.state))) ∧ W.cell? ⟨g, o + i * 2, none⟩ = some (.int .i64 r.pos) ∧ W.cell? ⟨g, o + i * 2 + 1, none⟩ = some (.slice Av r.chs.length cc)) [(0, false), (1, false), (2, false), (3, false), (4, false), (5, false)] 63 7 (by kernel_rfl) (by as_aux_lemma => kernel_rfl) (by rfl) (by as_aux_lemma => kernel_rfl) (fun _ _ _ _ _ h => h) (CE.out _ bw) (fun hHeld => ?_)
          repeat (
            apply SeqF.take0
            case ho => exact rfl
            case hg => exact rfl
            case hy => (intro w hSw; (try dsimp only at hSw); go_simp; try with_reducible rfl)
            try simp only [Act.put, List.setIfInBounds_toArray, List.set_cons_zero, List.set_cons_succ])
          refine SeqF.done ?_
          refine two_ready (i := 6) (j := 10) (oi := ?oi4) (oj := ?oj4) ?hr4 ?hi4 ?hgi4 ?hj4 ?hgj4 (fun K hK => ?one4) (fun K hK => ?two4)
          case hi4 => exact rfl
          case hj4 => exact rfl
          case hr4 => kernel_rfl
          case hgi4 => exact rfl
          case hgj4 => exact rfl
          case one4 =>
            go_simp
            go_at_call 28
            with_reducible refine (HN1.out _ bw).mono ?_
            rintro e wc ⟨rfl, b4⟩
            replace bw := Below.next bw b4
            go_wp2_with fail
            refine hK.out _ _ (CE.out _ bw) (fun _ => ?_)
            clear hK K b4
            try simp only [Act.put, List.setIfInBounds_toArray, List.set_cons_zero, List.set_cons_succ]
            refine seqG_end [(7, false), (8, false), (9, false), (10, true), (11, true), (12, true)] _ 8191 _ (by rfl) (by as_aux_lemma => kernel_rfl) (by as_aux_lemma => kernel_rfl) (by as_aux_lemma => kernel_rfl) (fun _ _ _ _ _ h => h) (CE.out _ bw) ?_
            repeat (
              apply SeqF.take0
              case ho => exact rfl
              case hg => exact rfl
              case hy => (intro w hSw; (try dsimp only at hSw); go_simp; try with_reducible rfl)
              try simp only [Act.put, List.setIfInBounds_toArray, List.set_cons_zero, List.set_cons_succ])
            apply SeqF.step0
            case ho => exact rfl
            case hg => exact rfl
            intro K hK
            go_simp
            have bn := Below.alloc1 wc (.cells #[.int .i64 0, .string ⟨#[]⟩, .string ⟨#[]⟩] 46)
            have KN := BlkIs.new wc 46 #[.int .i64 0, .string ⟨#[]⟩, .string ⟨#[]⟩]
            have hNl := bw.size
            (try simp at hNl)
            generalize wc.alloc (.cells #[.int .i64 0, .string ⟨#[]⟩, .string ⟨#[]⟩] 46) = wd at *
            replace bw := Below.next bw bn
            refine hK.out _ _ (CE.out _ bw) (fun _ => ?_)
            clear hK K bn
            try simp only [Act.put, List.setIfInBounds_toArray, List.set_cons_zero, List.set_cons_succ]
            apply SeqF.step0
            case ho => exact rfl
            case hg => exact rfl
            intro K hK
            have z0 : wd.cell? ⟨wc.heap.size, 0, none⟩ = some (.int .i64 0) := KN.cell 0
            have z1 : wd.cell? ⟨wc.heap.size, 1, none⟩ = some (.string ⟨#[]⟩) := KN.cell 1
            have z2 : wd.cell? ⟨wc.heap.size, 2, none⟩ = some (.string ⟨#[]⟩) := KN.cell 2
            have f0 := KN.frozen 0
            have f1 := KN.frozen 1
            have f2 := KN.frozen 2
            replace bw := ((bw.setCell (p := ⟨wc.heap.size, 0, none⟩) (by simp <;> omega) (.int .i64 Y.pos)).setCell (p := ⟨wc.heap.size, 1, none⟩) (by simp <;> omega) (.string (str Y.chain))).setCell (p := ⟨wc.heap.size, 2, none⟩) (by simp <;> omega) (.string (str Y.state))
            have K190 := ((KN.set 0 (.int .i64 Y.pos)).set 1 (.string (str Y.chain))).set 2 (.string (str Y.state))
            go_simp
            refine hK.out _ _ (CE.out _ bw) (fun _ => ?_)
            clear hK K z0 z1 z2 f0 f1 f2 KN
            try simp only [Act.put, List.setIfInBounds_toArray, List.set_cons_zero, List.set_cons_succ]
            repeat (
              apply SeqF.take0
              case ho => exact rfl
              case hg => exact rfl
              case hy => (intro w hSw; (try dsimp only at hSw); go_simp; try with_reducible rfl)
              try simp only [Act.put, List.setIfInBounds_toArray, List.set_cons_zero, List.set_cons_succ])
            refine SeqF.done ?_
            refine NoPanic.normal ?_
            generalize ((wd.setCell ⟨wc.heap.size, 0, none⟩ (.int .i64 Y.pos)).setCell ⟨wc.heap.size, 1, none⟩ (.string (str Y.chain))).setCell ⟨wc.heap.size, 2, none⟩ (.string (str Y.state)) = we at *
            have K19 : BlkIs we wc.heap.size 46 [.int .i64 Y.pos, .string (str Y.chain), .string (str Y.state)] := K190
            clear K190
            go_wp2_with fail
            replace bw := Below.drew bw
            replace K19 := K19.later (Below.drew (Below.refl _ _))
            refine wp_region_noPanic ?_
            refine wp_region_ordG (fun W => (W.cell? ⟨w.heap.size, 0, none⟩ = some (.int .i64 a.pos) ∧ W.cell? ⟨w.heap.size, 1, none⟩ = some (.string (str a.chain)) ∧ W.cell? ⟨w.heap.size, 2, none⟩ = some (.string (str a.state))) ∧ W.cell? ⟨g, o + i * 2, none⟩ = some (.int .i64 r.pos) ∧ W.cell? ⟨g, o + i * 2 + 1, none⟩ = some (.slice Av r.chs.length cc)) [(0, false), (1, false), (2, false), (3, false), (4, false), (5, false)] 63 7 (by kernel_rfl) (by as_aux_lemma => kernel_rfl) (by rfl) (by as_aux_lemma => kernel_rfl) (fun _ _ _ _ _ h => h) (CE.out _ bw) (fun hHeld => ?_)
            repeat (
              apply SeqF.take0
              case ho => exact rfl
              case hg => exact rfl
              case hy => (intro w hSw; (try dsimp only at hSw); go_simp; try with_reducible rfl)
              try simp only [Act.put, List.setIfInBounds_toArray, List.set_cons_zero, List.set_cons_succ])
            refine SeqF.done ?_
            refine two_ready (i := 6) (j := 10) (oi := ?oi5) (oj := ?oj5) ?hr5 ?hi5 ?hgi5 ?hj5 ?hgj5 (fun K hK => ?one5) (fun K hK => ?two5)
            case hi5 => exact rfl
            case hj5 => exact rfl
            case hr5 => kernel_rfl
            case hgi5 => exact rfl
            case hgj5 => exact rfl
            case one5 =>
              go_simp
              go_at_call 29
              with_reducible refine (HN2.out _ bw).mono ?_
              rintro e wi ⟨rfl, b4⟩
              replace bw := Below.next bw b4
              replace K19 := K19.later b4
              go_wp2_with fail
              refine hK.out _ _ (CE.out _ bw) (fun _ => ?_)
              clear hK K b4
              try simp only [Act.put, List.setIfInBounds_toArray, List.set_cons_zero, List.set_cons_succ]
              refine seqG_end [(7, false), (8, false), (9, false), (10, true), (11, true), (12, true)] _ 8191 _ (by rfl) (by as_aux_lemma => kernel_rfl) (by as_aux_lemma => kernel_rfl) (by as_aux_lemma => kernel_rfl) (fun _ _ _ _ _ h => h) (CE.out _ bw) ?_
              repeat (
                apply SeqF.take0
                case ho => exact rfl
                case hg => exact rfl
                case hy => (intro w hSw; (try dsimp only at hSw); go_simp; try with_reducible rfl)
                try simp only [Act.put, List.setIfInBounds_toArray, List.set_cons_zero, List.set_cons_succ])
              apply SeqF.step0
              case ho => exact rfl
              case hg => exact rfl
              intro K hK
              go_simp
              have bn := Below.alloc1 wi (.cells #[.int .i64 0, .string ⟨#[]⟩, .string ⟨#[]⟩] 46)
              have KN := BlkIs.new wi 46 #[.int .i64 0, .string ⟨#[]⟩, .string ⟨#[]⟩]
              have hNl := bw.size
              (try simp at hNl)
              have lK19 := K19.lt
              (try simp at lK19)
              generalize wi.alloc (.cells #[.int .i64 0, .string ⟨#[]⟩, .string ⟨#[]⟩] 46) = wj at *
              replace bw := Below.next bw bn
              replace K19 := K19.later bn
              refine hK.out _ _ (CE.out _ bw) (fun _ => ?_)
              clear hK K bn
              try simp only [Act.put, List.setIfInBounds_toArray, List.set_cons_zero, List.set_cons_succ]
              apply SeqF.step0
              case ho => exact rfl
              case hg => exact rfl
              intro K hK
              have z0 : wj.cell? ⟨wi.heap.size, 0, none⟩ = some (.int .i64 0) := KN.cell 0
              have z1 : wj.cell? ⟨wi.heap.size, 1, none⟩ = some (.string ⟨#[]⟩) := KN.cell 1
              have z2 : wj.cell? ⟨wi.heap.size, 2, none⟩ = some (.string ⟨#[]⟩) := KN.cell 2
              have f0 := KN.frozen 0
              have f1 := KN.frozen 1
              have f2 := KN.frozen 2
              replace bw := ((bw.setCell (p := ⟨wi.heap.size, 0, none⟩) (by simp <;> omega) (.int .i64 Y.pos)).setCell (p := ⟨wi.heap.size, 1, none⟩) (by simp <;> omega) (.string (str Y.chain))).setCell (p := ⟨wi.heap.size, 2, none⟩) (by simp <;> omega) (.string (str Y.state))
              replace K19 := ((K19.other (p := ⟨wi.heap.size, 0, none⟩) (by simp <;> omega) (.int .i64 Y.pos)).other (p := ⟨wi.heap.size, 1, none⟩) (by simp <;> omega) (.string (str Y.chain))).other (p := ⟨wi.heap.size, 2, none⟩) (by simp <;> omega) (.string (str Y.state))
              have K210 := ((KN.set 0 (.int .i64 Y.pos)).set 1 (.string (str Y.chain))).set 2 (.string (str Y.state))
              go_simp
              refine hK.out _ _ (CE.out _ bw) (fun _ => ?_)
              clear hK K z0 z1 z2 f0 f1 f2 KN
              try simp only [Act.put, List.setIfInBounds_toArray, List.set_cons_zero, List.set_cons_succ]
              repeat (
                apply SeqF.take0
                case ho => exact rfl
                case hg => exact rfl
                case hy => (intro w hSw; (try dsimp only at hSw); go_simp; try with_reducible rfl)
                try simp only [Act.put, List.setIfInBounds_toArray, List.set_cons_zero, List.set_cons_succ])
              refine SeqF.done ?_
              refine NoPanic.normal ?_
              generalize ((wj.setCell ⟨wi.heap.size, 0, none⟩ (.int .i64 Y.pos)).setCell ⟨wi.heap.size, 1, none⟩ (.string (str Y.chain))).setCell ⟨wi.heap.size, 2, none⟩ (.string (str Y.state)) = wk at *
              have K21 : BlkIs wk wi.heap.size 46 [.int .i64 Y.pos, .string (str Y.chain), .string (str Y.state)] := K210
              clear K210
              have y0 : wk.cell? ⟨wc.heap.size, 0, none⟩ = some (.int .i64 Y.pos) := K19.cell 0
              have y1 : wk.cell? ⟨wc.heap.size, 1, none⟩ = some (.string (str Y.chain)) := K19.cell 1
              have y2 : wk.cell? ⟨wc.heap.size, 2, none⟩ = some (.string (str Y.state)) := K19.cell 2
              have y3 : wk.cell? ⟨wi.heap.size, 0, none⟩ = some (.int .i64 Y.pos) := K21.cell 0
              have y4 : wk.cell? ⟨wi.heap.size, 1, none⟩ = some (.string (str Y.chain)) := K21.cell 1
              have y5 : wk.cell? ⟨wi.heap.size, 2, none⟩ = some (.string (str Y.state)) := K21.cell 2
              have HZF := Lib.hid (HZZ.out.later bw)
              clear K19 K21 bw
              go_wp2_with fail
              exact ⟨⟨i + 1, by omega, by go_num, HZF.out⟩, by simp [intOf]; omega⟩
            case two5 =>
              go_simp
              have bn : Below we.drew.heap.size we.drew (we.alloc (.cells #[.int .i64 0, .string ⟨#[]⟩, .string ⟨#[]⟩] 46)).drew := Below.alloc1 we.drew (.cells #[.int .i64 0, .string ⟨#[]⟩, .string ⟨#[]⟩] 46)
              have KN : BlkIs (we.alloc (.cells #[.int .i64 0, .string ⟨#[]⟩, .string ⟨#[]⟩] 46)).drew we.heap.size 46 [.int .i64 0, .string ⟨#[]⟩, .string ⟨#[]⟩] := BlkIs.new we.drew 46 #[.int .i64 0, .string ⟨#[]⟩, .string ⟨#[]⟩]
              have hNl := bw.size
              (try simp at hNl)
              have lK19 := K19.lt
              (try simp at lK19)
              generalize (we.alloc (.cells #[.int .i64 0, .string ⟨#[]⟩, .string ⟨#[]⟩] 46)).drew = wj at *
              replace bw := Below.next bw bn
              replace K19 := K19.later bn
              refine hK.out _ _ (CE.out _ bw) (fun _ => ?_)
              clear hK K bn
              try simp only [Act.put, List.setIfInBounds_toArray, List.set_cons_zero, List.set_cons_succ]
              refine seqG_end [(6, true), (7, true), (8, false), (9, false), (11, true), (12, true)] _ 8191 _ (by rfl) (by as_aux_lemma => kernel_rfl) (by as_aux_lemma => kernel_rfl) (by as_aux_lemma => kernel_rfl) (fun _ _ _ _ _ h => h) (CE.out _ bw) ?_
              apply SeqF.step0
              case ho => exact rfl
              case hg => exact rfl
              intro K hK
              go_simp
              go_at_call 29
              with_reducible refine (HN2.out _ bw).mono ?_
              rintro e wi ⟨rfl, b4⟩
              replace bw := Below.next bw b4
              replace K19 := K19.later b4
              replace KN := KN.later b4
              go_wp2_with fail
              refine hK.out _ _ (CE.out _ bw) (fun _ => ?_)
              clear hK K b4
              try simp only [Act.put, List.setIfInBounds_toArray, List.set_cons_zero, List.set_cons_succ]
              repeat (
                apply SeqF.take0
                case ho => exact rfl
                case hg => exact rfl
                case hy => (intro w hSw; (try dsimp only at hSw); go_simp; try with_reducible rfl)
                try simp only [Act.put, List.setIfInBounds_toArray, List.set_cons_zero, List.set_cons_succ])
              apply SeqF.step0
              case ho => exact rfl
              case hg => exact rfl
              intro K hK
              have z0 : wi.cell? ⟨we.heap.size, 0, none⟩ = some (.int .i64 0) := KN.cell 0
              have z1 : wi.cell? ⟨we.heap.size, 1, none⟩ = some (.string ⟨#[]⟩) := KN.cell 1
              have z2 : wi.cell? ⟨we.heap.size, 2, none⟩ = some (.string ⟨#[]⟩) := KN.cell 2
              have f0 := KN.frozen 0
              have f1 := KN.frozen 1
              have f2 := KN.frozen 2
              replace bw := ((bw.setCell (p := ⟨we.heap.size, 0, none⟩) (by simp <;> omega) (.int .i64 Y.pos)).setCell (p := ⟨we.heap.size, 1, none⟩) (by simp <;> omega) (.string (str Y.chain))).setCell (p := ⟨we.heap.size, 2, none⟩) (by simp <;> omega) (.string (str Y.state))
              replace K19 := ((K19.other (p := ⟨we.heap.size, 0, none⟩) (by simp <;> omega) (.int .i64 Y.pos)).other (p := ⟨we.heap.size, 1, none⟩) (by simp <;> omega) (.string (str Y.chain))).other (p := ⟨we.heap.size, 2, none⟩) (by simp <;> omega) (.string (str Y.state))
              have K210 := ((KN.set 0 (.int .i64 Y.pos)).set 1 (.string (str Y.chain))).set 2 (.string (str Y.state))
              go_simp
              refine hK.out _ _ (CE.out _ bw) (fun _ => ?_)
              clear hK K z0 z1 z2 f0 f1 f2 KN
              try simp only [Act.put, List.setIfInBounds_toArray, List.set_cons_zero, List.set_cons_succ]
              repeat (
                apply SeqF.take0
                case ho => exact rfl
                case hg => exact rfl
                case hy => (intro w hSw; (try dsimp only at hSw); go_simp; try with_reducible rfl)
                try simp only [Act.put, List.setIfInBounds_toArray, List.set_cons_zero, List.set_cons_succ])
              refine SeqF.done ?_
              refine NoPanic.normal ?_
              generalize ((wi.setCell ⟨we.heap.size, 0, none⟩ (.int .i64 Y.pos)).setCell ⟨we.heap.size, 1, none⟩ (.string (str Y.chain))).setCell ⟨we.heap.size, 2, none⟩ (.string (str Y.state)) = wk at *
              have K21 : BlkIs wk we.heap.size 46 [.int .i64 Y.pos, .string (str Y.chain), .string (str Y.state)] := K210
              clear K210
              have y0 : wk.cell? ⟨wc.heap.size, 0, none⟩ = some (.int .i64 Y.pos) := K19.cell 0
              have y1 : wk.cell? ⟨wc.heap.size, 1, none⟩ = some (.string (str Y.chain)) := K19.cell 1
              have y2 : wk.cell? ⟨wc.heap.size, 2, none⟩ = some (.string (str Y.state)) := K19.cell 2
              have y3 : wk.cell? ⟨we.heap.size, 0, none⟩ = some (.int .i64 Y.pos) := K21.cell 0
              have y4 : wk.cell? ⟨we.heap.size, 1, none⟩ = some (.string (str Y.chain)) := K21.cell 1
              have y5 : wk.cell? ⟨we.heap.size, 2, none⟩ = some (.string (str Y.state)) := K21.cell 2
              have HZF := Lib.hid (HZZ.out.later bw)
              clear K19 K21 bw
              go_wp2_with fail
              exact ⟨⟨i + 1, by omega, by go_num, HZF.out⟩, by simp [intOf]; omega⟩
          case two4 =>
            go_simp
            have bn : Below wr.drew.heap.size wr.drew (wr.alloc (.cells #[.int .i64 0, .string ⟨#[]⟩, .string ⟨#[]⟩] 46)).drew := Below.alloc1 wr.drew (.cells #[.int .i64 0, .string ⟨#[]⟩, .string ⟨#[]⟩] 46)
            have KN : BlkIs (wr.alloc (.cells #[.int .i64 0, .string ⟨#[]⟩, .string ⟨#[]⟩] 46)).drew wr.heap.size 46 [.int .i64 0, .string ⟨#[]⟩, .string ⟨#[]⟩] := BlkIs.new wr.drew 46 #[.int .i64 0, .string ⟨#[]⟩, .string ⟨#[]⟩]
            have hNl := bw.size
            (try simp at hNl)
            generalize (wr.alloc (.cells #[.int .i64 0, .string ⟨#[]⟩, .string ⟨#[]⟩] 46)).drew = wd at *
            replace bw := Below.next bw bn
            refine hK.out _ _ (CE.out _ bw) (fun _ => ?_)
            clear hK K bn
            try simp only [Act.put, List.setIfInBounds_toArray, List.set_cons_zero, List.set_cons_succ]
            refine seqG_end [(6, true), (7, true), (8, false), (9, false), (11, true), (12, true)] _ 8191 _ (by rfl) (by as_aux_lemma => kernel_rfl) (by as_aux_lemma => kernel_rfl) (by as_aux_lemma => kernel_rfl) (fun _ _ _ _ _ h => h) (CE.out _ bw) ?_
            apply SeqF.step0
            case ho => exact rfl
            case hg => exact rfl
            intro K hK
            go_simp
            go_at_call 28
            with_reducible refine (HN1.out _ bw).mono ?_
            rintro e wc ⟨rfl, b4⟩
            replace bw := Below.next bw b4
            replace KN := KN.later b4
            go_wp2_with fail
            refine hK.out _ _ (CE.out _ bw) (fun _ => ?_)
            clear hK K b4
            try simp only [Act.put, List.setIfInBounds_toArray, List.set_cons_zero, List.set_cons_succ]
            repeat (
              apply SeqF.take0
              case ho => exact rfl
              case hg => exact rfl
              case hy => (intro w hSw; (try dsimp only at hSw); go_simp; try with_reducible rfl)
              try simp only [Act.put, List.setIfInBounds_toArray, List.set_cons_zero, List.set_cons_succ])
            apply SeqF.step0
            case ho => exact rfl
            case hg => exact rfl
            intro K hK
            have z0 : wc.cell? ⟨wr.heap.size, 0, none⟩ = some (.int .i64 0) := KN.cell 0
            have z1 : wc.cell? ⟨wr.heap.size, 1, none⟩ = some (.string ⟨#[]⟩) := KN.cell 1
            have z2 : wc.cell? ⟨wr.heap.size, 2, none⟩ = some (.string ⟨#[]⟩) := KN.cell 2
            have f0 := KN.frozen 0
            have f1 := KN.frozen 1
            have f2 := KN.frozen 2
            replace bw := ((bw.setCell (p := ⟨wr.heap.size, 0, none⟩) (by simp <;> omega) (.int .i64 Y.pos)).setCell (p := ⟨wr.heap.size, 1, none⟩) (by simp <;> omega) (.string (str Y.chain))).setCell (p := ⟨wr.heap.size, 2, none⟩) (by simp <;> omega) (.string (str Y.state))
            have K190 := ((KN.set 0 (.int .i64 Y.pos)).set 1 (.string (str Y.chain))).set 2 (.string (str Y.state))
            go_simp
            refine hK.out _ _ (CE.out _ bw) (fun _ => ?_)
            clear hK K z0 z1 z2 f0 f1 f2 KN
            try simp only [Act.put, List.setIfInBounds_toArray, List.set_cons_zero, List.set_cons_succ]
            repeat (
              apply SeqF.take0
              case ho => exact rfl
              case hg => exact rfl
              case hy => (intro w hSw; (try dsimp only at hSw); go_simp; try with_reducible rfl)
              try simp only [Act.put, List.setIfInBounds_toArray, List.set_cons_zero, List.set_cons_succ])
            refine SeqF.done ?_
            refine NoPanic.normal ?_
            generalize ((wc.setCell ⟨wr.heap.size, 0, none⟩ (.int .i64 Y.pos)).setCell ⟨wr.heap.size, 1, none⟩ (.string (str Y.chain))).setCell ⟨wr.heap.size, 2, none⟩ (.string (str Y.state)) = we at *
            have K19 : BlkIs we wr.heap.size 46 [.int .i64 Y.pos, .string (str Y.chain), .string (str Y.state)] := K190
            clear K190
            go_wp2_with fail
            replace bw := Below.drew bw
            replace K19 := K19.later (Below.drew (Below.refl _ _))
            refine wp_region_noPanic ?_
            refine wp_region_ordG (fun W => (W.cell? ⟨w.heap.size, 0, none⟩ = some (.int .i64 a.pos) ∧ W.cell? ⟨w.heap.size, 1, none⟩ = some (.string (str a.chain)) ∧ W.cell? ⟨w.heap.size, 2, none⟩ = some (.string (str a.state))) ∧ W.cell? ⟨g, o + i * 2, none⟩ = some (.int .i64 r.pos) ∧ W.cell? ⟨g, o + i * 2 + 1, none⟩ = some (.slice Av r.chs.length cc)) [(0, false), (1, false), (2, false), (3, false), (4, false), (5, false)] 63 7 (by kernel_rfl) (by as_aux_lemma => kernel_rfl) (by rfl) (by as_aux_lemma => kernel_rfl) (fun _ _ _ _ _ h => h) (CE.out _ bw) (fun hHeld => ?_)
            repeat (
              apply SeqF.take0
              case ho => exact rfl
              case hg => exact rfl
              case hy => (intro w hSw; (try dsimp only at hSw); go_simp; try with_reducible rfl)
              try simp only [Act.put, List.setIfInBounds_toArray, List.set_cons_zero, List.set_cons_succ])
            refine SeqF.done ?_
            refine two_ready (i := 6) (j := 10) (oi := ?oi6) (oj := ?oj6) ?hr6 ?hi6 ?hgi6 ?hj6 ?hgj6 (fun K hK => ?one6) (fun K hK => ?two6)
            case hi6 => exact rfl
            case hj6 => exact rfl
            case hr6 => kernel_rfl
            case hgi6 => exact rfl
            case hgj6 => exact rfl
            case one6 =>
              go_simp
              go_at_call 29
              with_reducible refine (HN2.out _ bw).mono ?_
              rintro e wi ⟨rfl, b4⟩
              replace bw := Below.next bw b4
              replace K19 := K19.later b4
              go_wp2_with fail
              refine hK.out _ _ (CE.out _ bw) (fun _ => ?_)
              clear hK K b4
              try simp only [Act.put, List.setIfInBounds_toArray, List.set_cons_zero, List.set_cons_succ]
              refine seqG_end [(7, false), (8, false), (9, false), (10, true), (11, true), (12, true)] _ 8191 _ (by rfl) (by as_aux_lemma => kernel_rfl) (by as_aux_lemma => kernel_rfl) (by as_aux_lemma => kernel_rfl) (fun _ _ _ _ _ h => h) (CE.out _ bw) ?_
              repeat (
                apply SeqF.take0
                case ho => exact rfl
                case hg => exact rfl
                case hy => (intro w hSw; (try dsimp only at hSw); go_simp; try with_reducible rfl)
                try simp only [Act.put, List.setIfInBounds_toArray, List.set_cons_zero, List.set_cons_succ])
              apply SeqF.step0
              case ho => exact rfl
              case hg => exact rfl
              intro K hK
              go_simp
              have bn := Below.alloc1 wi (.cells #[.int .i64 0, .string ⟨#[]⟩, .string ⟨#[]⟩] 46)
              have KN := BlkIs.new wi 46 #[.int .i64 0, .string ⟨#[]⟩, .string ⟨#[]⟩]
              have hNl := bw.size
              (try simp at hNl)
              have lK19 := K19.lt
              (try simp at lK19)
              generalize wi.alloc (.cells #[.int .i64 0, .string ⟨#[]⟩, .string ⟨#[]⟩] 46) = wj at *
              replace bw := Below.next bw bn
              replace K19 := K19.later bn
              refine hK.out _ _ (CE.out _ bw) (fun _ => ?_)
              clear hK K bn
              try simp only [Act.put, List.setIfInBounds_toArray, List.set_cons_zero, List.set_cons_succ]
              apply SeqF.step0
              case ho => exact rfl
              case hg => exact rfl
              intro K hK
              have z0 : wj.cell? ⟨wi.heap.size, 0, none⟩ = some (.int .i64 0) := KN.cell 0
              have z1 : wj.cell? ⟨wi.heap.size, 1, none⟩ = some (.string ⟨#[]⟩) := KN.cell 1
              have z2 : wj.cell? ⟨wi.heap.size, 2, none⟩ = some (.string ⟨#[]⟩) := KN.cell 2
              have f0 := KN.frozen 0
              have f1 := KN.frozen 1
              have f2 := KN.frozen 2
              replace bw := ((bw.setCell (p := ⟨wi.heap.size, 0, none⟩) (by simp <;> omega) (.int .i64 Y.pos)).setCell (p := ⟨wi.heap.size, 1, none⟩) (by simp <;> omega) (.string (str Y.chain))).setCell (p := ⟨wi.heap.size, 2, none⟩) (by simp <;> omega) (.string (str Y.state))
              replace K19 := ((K19.other (p := ⟨wi.heap.size, 0, none⟩) (by simp <;> omega) (.int .i64 Y.pos)).other (p := ⟨wi.heap.size, 1, none⟩) (by simp <;> omega) (.string (str Y.chain))).other (p := ⟨wi.heap.size, 2, none⟩) (by simp <;> omega) (.string (str Y.state))
              have K210 := ((KN.set 0 (.int .i64 Y.pos)).set 1 (.string (str Y.chain))).set 2 (.string (str Y.state))
              go_simp
              refine hK.out _ _ (CE.out _ bw) (fun _ => ?_)
              clear hK K z0 z1 z2 f0 f1 f2 KN
              try simp only [Act.put, List.setIfInBounds_toArray, List.set_cons_zero, List.set_cons_succ]
              repeat (
                apply SeqF.take0
                case ho => exact rfl
                case hg => exact rfl
                case hy => (intro w hSw; (try dsimp only at hSw); go_simp; try with_reducible rfl)
                try simp only [Act.put, List.setIfInBounds_toArray, List.set_cons_zero, List.set_cons_succ])
              refine SeqF.done ?_
              refine NoPanic.normal ?_
              generalize ((wj.setCell ⟨wi.heap.size, 0, none⟩ (.int .i64 Y.pos)).setCell ⟨wi.heap.size, 1, none⟩ (.string (str Y.chain))).setCell ⟨wi.heap.size, 2, none⟩ (.string (str Y.state)) = wk at *
              have K21 : BlkIs wk wi.heap.size 46 [.int .i64 Y.pos, .string (str Y.chain), .string (str Y.state)] := K210
              clear K210
              have y0 : wk.cell? ⟨wr.heap.size, 0, none⟩ = some (.int .i64 Y.pos) := K19.cell 0
              have y1 : wk.cell? ⟨wr.heap.size, 1, none⟩ = some (.string (str Y.chain)) := K19.cell 1
              have y2 : wk.cell? ⟨wr.heap.size, 2, none⟩ = some (.string (str Y.state)) := K19.cell 2
              have y3 : wk.cell? ⟨wi.heap.size, 0, none⟩ = some (.int .i64 Y.pos) := K21.cell 0
              have y4 : wk.cell? ⟨wi.heap.size, 1, none⟩ = some (.string (str Y.chain)) := K21.cell 1
              have y5 : wk.cell? ⟨wi.heap.size, 2, none⟩ = some (.string (str Y.state)) := K21.cell 2
              have HZF := Lib.hid (HZZ.out.later bw)
              clear K19 K21 bw
              go_wp2_with fail
              exact ⟨⟨i + 1, by omega, by go_num, HZF.out⟩, by simp [intOf]; omega⟩
            case two6 =>
              go_simp
              have bn : Below we.drew.heap.size we.drew (we.alloc (.cells #[.int .i64 0, .string ⟨#[]⟩, .string ⟨#[]⟩] 46)).drew := Below.alloc1 we.drew (.cells #[.int .i64 0, .string ⟨#[]⟩, .string ⟨#[]⟩] 46)
              have KN : BlkIs (we.alloc (.cells #[.int .i64 0, .string ⟨#[]⟩, .string ⟨#[]⟩] 46)).drew we.heap.size 46 [.int .i64 0, .string ⟨#[]⟩, .string ⟨#[]⟩] := BlkIs.new we.drew 46 #[.int .i64 0, .string ⟨#[]⟩, .string ⟨#[]⟩]
              have hNl := bw.size
              (try simp at hNl)
              have lK19 := K19.lt
              (try simp at lK19)
              generalize (we.alloc (.cells #[.int .i64 0, .string ⟨#[]⟩, .string ⟨#[]⟩] 46)).drew = wj at *
              replace bw := Below.next bw bn
              replace K19 := K19.later bn
              refine hK.out _ _ (CE.out _ bw) (fun _ => ?_)
              clear hK K bn
              try simp only [Act.put, List.setIfInBounds_toArray, List.set_cons_zero, List.set_cons_succ]
              refine seqG_end [(6, true), (7, true), (8, false), (9, false), (11, true), (12, true)] _ 8191 _ (by rfl) (by as_aux_lemma => kernel_rfl) (by as_aux_lemma => kernel_rfl) (by as_aux_lemma => kernel_rfl) (fun _ _ _ _ _ h => h) (CE.out _ bw) ?_
              apply SeqF.step0
              case ho => exact rfl
              case hg => exact rfl
              intro K hK
              go_simp
              go_at_call 29
              with_reducible refine (HN2.out _ bw).mono ?_
              rintro e wi ⟨rfl, b4⟩
              replace bw := Below.next bw b4
              replace K19 := K19.later b4
              replace KN := KN.later b4
              go_wp2_with fail
              refine hK.out _ _ (CE.out _ bw) (fun _ => ?_)
              clear hK K b4
              try simp only [Act.put, List.setIfInBounds_toArray, List.set_cons_zero, List.set_cons_succ]
              repeat (
                apply SeqF.take0
                case ho => exact rfl
                case hg => exact rfl
                case hy => (intro w hSw; (try dsimp only at hSw); go_simp; try with_reducible rfl)
                try simp only [Act.put, List.setIfInBounds_toArray, List.set_cons_zero, List.set_cons_succ])
              apply SeqF.step0
              case ho => exact rfl
              case hg => exact rfl
              intro K hK
              have z0 : wi.cell? ⟨we.heap.size, 0, none⟩ = some (.int .i64 0) := KN.cell 0
              have z1 : wi.cell? ⟨we.heap.size, 1, none⟩ = some (.string ⟨#[]⟩) := KN.cell 1
              have z2 : wi.cell? ⟨we.heap.size, 2, none⟩ = some (.string ⟨#[]⟩) := KN.cell 2
              have f0 := KN.frozen 0
              have f1 := KN.frozen 1
              have f2 := KN.frozen 2
              replace bw := ((bw.setCell (p := ⟨we.heap.size, 0, none⟩) (by simp <;> omega) (.int .i64 Y.pos)).setCell (p := ⟨we.heap.size, 1, none⟩) (by simp <;> omega) (.string (str Y.chain))).setCell (p := ⟨we.heap.size, 2, none⟩) (by simp <;> omega) (.string (str Y.state))
              replace K19 := ((K19.other (p := ⟨we.heap.size, 0, none⟩) (by simp <;> omega) (.int .i64 Y.pos)).other (p := ⟨we.heap.size, 1, none⟩) (by simp <;> omega) (.string (str Y.chain))).other (p := ⟨we.heap.size, 2, none⟩) (by simp <;> omega) (.string (str Y.state))
              have K210 := ((KN.set 0 (.int .i64 Y.pos)).set 1 (.string (str Y.chain))).set 2 (.string (str Y.state))
              go_simp
              refine hK.out _ _ (CE.out _ bw) (fun _ => ?_)
              clear hK K z0 z1 z2 f0 f1 f2 KN
              try simp only [Act.put, List.setIfInBounds_toArray, List.set_cons_zero, List.set_cons_succ]
              repeat (
                apply SeqF.take0
                case ho => exact rfl
                case hg => exact rfl
                case hy => (intro w hSw; (try dsimp only at hSw); go_simp; try with_reducible rfl)
                try simp only [Act.put, List.setIfInBounds_toArray, List.set_cons_zero, List.set_cons_succ])
              refine SeqF.done ?_
              refine NoPanic.normal ?_
              generalize ((wi.setCell ⟨we.heap.size, 0, none⟩ (.int .i64 Y.pos)).setCell ⟨we.heap.size, 1, none⟩ (.string (str Y.chain))).setCell ⟨we.heap.size, 2, none⟩ (.string (str Y.state)) = wk at *
              have K21 : BlkIs wk we.heap.size 46 [.int .i64 Y.pos, .string (str Y.chain), .string (str Y.state)] := K210
              clear K210
              have y0 : wk.cell? ⟨wr.heap.size, 0, none⟩ = some (.int .i64 Y.pos) := K19.cell 0
              have y1 : wk.cell? ⟨wr.heap.size, 1, none⟩ = some (.string (str Y.chain)) := K19.cell 1
              have y2 : wk.cell? ⟨wr.heap.size, 2, none⟩ = some (.string (str Y.state)) := K19.cell 2
              have y3 : wk.cell? ⟨we.heap.size, 0, none⟩ = some (.int .i64 Y.pos) := K21.cell 0
              have y4 : wk.cell? ⟨we.heap.size, 1, none⟩ = some (.string (str Y.chain)) := K21.cell 1
              have y5 : wk.cell? ⟨we.heap.size, 2, none⟩ = some (.string (str Y.state)) := K21.cell 2
              have HZF := Lib.hid (HZZ.out.later bw)
              clear K19 K21 bw
              go_wp2_with fail
              exact ⟨⟨i + 1, by omega, by go_num, HZF.out⟩, by simp [intOf]; omega⟩
        have t3 : decide (i < k) = false := by simpa using h1
        obtain ⟨X, hX⟩ : ∃ X, X = (encA a).1 := ⟨_, rfl⟩
        obtain ⟨E, hE⟩ : ∃ X, X = (encA a).2 := ⟨_, rfl⟩
        obtain ⟨D, hD⟩ : ∃ X, X = (decA TX.data.toList).1 := ⟨_, rfl⟩
        obtain ⟨Y, hY⟩ : ∃ X, X = (decA TX.data.toList).2 := ⟨_, rfl⟩
        obtain ⟨F1, hF1⟩ : ∃ F, F = followsA a few b := ⟨_, rfl⟩
        obtain ⟨F2, hF2⟩ : ∃ F, F = followsA a [] b := ⟨_, rfl⟩
        obtain ⟨V, hV⟩ : ∃ F, F = verA root.data.toList n a P := ⟨_, rfl⟩
        have ce1 := fun W => hencode_ok a W
        have ce2 := fun W => r9encode_ok a W
        have cd1 := fun W => hdecode_ok TX W (by omega)
        have cd2 := fun W => r9decode_ok TX W (by omega)
        rw [← hX, ← hE] at ce1 ce2
        rw [← hD, ← hY] at cd1 cd2
        unfold hdV at ce1 ce2 cd1 cd2
        have cz : ∀ W, HmZ w a b (.slice fA k fc) few (.slice qA mp qc) P W → RoundOk W := fun W h => HR.out.later h.bel
        have cf1 : ∀ W, HmZ w a b (.slice fA k fc) few (.slice qA mp qc) P W → Calls Tryz.prog 34 #[.agg #[.int .i64 a.pos, .string (str a.chain), .string (str a.state)], .slice fA k fc, .agg #[.int .i64 b.pos, .string (str b.chain), .string (str b.state)]] W fun e w' => e = .returned (.bool F1) ∧ Below W.heap.size W w' := by
          intro W h
          have := follows_ok a b fA fc few W (by rw [hfl]; exact h.few) (by omega) (cz W h)
          rw [hfl, ← hF1] at this
          exact this
        have cf2 : ∀ W, HmZ w a b (.slice fA k fc) few (.slice qA mp qc) P W → Calls Tryz.prog 35 #[.agg #[.int .i64 a.pos, .string (str a.chain), .string (str a.state)], .slice fA k fc, .agg #[.int .i64 b.pos, .string (str b.chain), .string (str b.state)]] W fun e w' => e = .returned (.bool F1) ∧ Below W.heap.size W w' := by
          intro W h
          have := r9follows_ok a b fA fc few W (by rw [hfl]; exact h.few) (by omega)
          rw [hfl, ← hF1] at this
          exact this
        have cf3 : ∀ W, HmZ w a b (.slice fA k fc) few (.slice qA mp qc) P W → Calls Tryz.prog 34 #[.agg #[.int .i64 a.pos, .string (str a.chain), .string (str a.state)], .slice none 0 0, .agg #[.int .i64 b.pos, .string (str b.chain), .string (str b.state)]] W fun e w' => e = .returned (.bool F2) ∧ Below W.heap.size W w' := by
          intro W h
          have := follows_ok a b none 0 [] W ⟨none, 0, rfl, Nat.le_refl _, fun h => absurd h (by simp)⟩ (by simp) (cz W h)
          rw [← hF2] at this
          exact this
        have cf4 : ∀ W, HmZ w a b (.slice fA k fc) few (.slice qA mp qc) P W → Calls Tryz.prog 35 #[.agg #[.int .i64 a.pos, .string (str a.chain), .string (str a.state)], .slice none 0 0, .agg #[.int .i64 b.pos, .string (str b.chain), .string (str b.state)]] W fun e w' => e = .returned (.bool F2) ∧ Below W.heap.size W w' := by
          intro W h
          have := r9follows_ok a b none 0 [] W ⟨none, 0, rfl, Nat.le_refl _, fun h => absurd h (by simp)⟩ (by simp)
          rw [← hF2] at this
          exact this
        have cv1 : ∀ W, HmZ w a b (.slice fA k fc) few (.slice qA mp qc) P W → Calls Tryz.prog 36 #[.string root, .int .i64 n, .agg #[.int .i64 a.pos, .string (str a.chain), .string (str a.state)], .slice qA mp qc] W fun e w' => e = .returned (.bool V) ∧ Below W.heap.size W w' := by
          intro W h
          have := lverify_ok root n a (.slice qA mp qc) P W h.path (by omega) (cz W h)
          rw [← hV] at this
          exact this
        have cv2 : ∀ W, HmZ w a b (.slice fA k fc) few (.slice qA mp qc) P W → Calls Tryz.prog 37 #[.string root, .int .i64 n, .agg #[.int .i64 a.pos, .string (str a.chain), .string (str a.state)], .slice qA mp qc] W fun e w' => e = .returned (.bool V) ∧ Below W.heap.size W w' := by
          intro W h
          have := r9verify_ok root n a (.slice qA mp qc) P W h.path (by omega)
          rw [← hV] at this
          exact this
        have CE1 := Lib.hid ce1
        have CE2 := Lib.hid ce2
        have CD1 := Lib.hid cd1
        have CD2 := Lib.hid cd2
        have CF1 := Lib.hid cf1
        have CF2 := Lib.hid cf2
        have CF3 := Lib.hid cf3
        have CF4 := Lib.hid cf4
        have CV1 := Lib.hid cv1
        have CV2 := Lib.hid cv2
        have hq := fun W => run_eqHd W D D
        rw [decide_eq_true (show D = D from rfl)] at hq
        clear ce1 ce2 cd1 cd2 cf1 cf2 cf3 cf4 cv1 cv2 cz hX hE hD hY hF1 hF2 hV
        have x0 : wr.cell? ⟨w.heap.size, 0, none⟩ = some (.int .i64 a.pos) := Z.a.cell 0
        have x1 : wr.cell? ⟨w.heap.size, 1, none⟩ = some (.string (str a.chain)) := Z.a.cell 1
        have x2 : wr.cell? ⟨w.heap.size, 2, none⟩ = some (.string (str a.state)) := Z.a.cell 2
        go_wp2_with fail
        refine (CE1.out _).mono ?_
        rintro e wc ⟨rfl, bn⟩
        replace Z := Z.later bn
        clear x0 x1 x2 bn
        have x0 : wc.cell? ⟨w.heap.size, 0, none⟩ = some (.int .i64 a.pos) := Z.a.cell 0
        have x1 : wc.cell? ⟨w.heap.size, 1, none⟩ = some (.string (str a.chain)) := Z.a.cell 1
        have x2 : wc.cell? ⟨w.heap.size, 2, none⟩ = some (.string (str a.state)) := Z.a.cell 2
        go_wp2_with fail
        refine (CE2.out _).mono ?_
        rintro e wd ⟨rfl, bn⟩
        replace Z := Z.later bn
        clear x0 x1 x2 bn
        go_wp2_with fail
        refine (CD1.out _).mono ?_
        rintro e we ⟨rfl, bn⟩
        replace Z := (Z.later bn).later (Below.alloc1 we (.cells #[.int .i64 D.pos, .string (str D.chain), .string (str D.state)] 46))
        have K27 := BlkIs.new we 46 #[.int .i64 D.pos, .string (str D.chain), .string (str D.state)]
        clear bn
        go_wp2_with fail
        generalize we.alloc (.cells #[.int .i64 D.pos, .string (str D.chain), .string (str D.state)] 46) = wf at *
        refine (CD2.out _).mono ?_
        rintro e wg ⟨rfl, bn⟩
        replace Z := (Z.later bn).later (Below.alloc1 wg (.cells #[.int .i64 D.pos, .string (str D.chain), .string (str D.state)] 46))
        replace K27 := (K27.later bn).later (Below.alloc1 wg (.cells #[.int .i64 D.pos, .string (str D.chain), .string (str D.state)] 46))
        have K29 := BlkIs.new wg 46 #[.int .i64 D.pos, .string (str D.chain), .string (str D.state)]
        clear bn
        go_wp2_with fail
        generalize wg.alloc (.cells #[.int .i64 D.pos, .string (str D.chain), .string (str D.state)] 46) = wh at *
        replace Z := Z.later (Below.drew (Below.refl _ _))
        replace K27 := K27.later (Below.drew (Below.refl _ _))
        replace K29 := K29.later (Below.drew (Below.refl _ _))
        have ce : ∀ W, HmZ w a b (.slice fA k fc) few (.slice qA mp qc) P W → Below wh.drew.heap.size wh.drew W → (W.cell? ⟨w.heap.size, 0, none⟩ = some (.int .i64 a.pos) ∧ W.cell? ⟨w.heap.size, 1, none⟩ = some (.string (str a.chain)) ∧ W.cell? ⟨w.heap.size, 2, none⟩ = some (.string (str a.state))) ∧ (W.cell? ⟨w.heap.size + 1, 0, none⟩ = some (.int .i64 b.pos) ∧ W.cell? ⟨w.heap.size + 1, 1, none⟩ = some (.string (str b.chain)) ∧ W.cell? ⟨w.heap.size + 1, 2, none⟩ = some (.string (str b.state))) ∧ (W.cell? ⟨we.heap.size, 0, none⟩ = some (.int .i64 D.pos) ∧ W.cell? ⟨we.heap.size, 1, none⟩ = some (.string (str D.chain)) ∧ W.cell? ⟨we.heap.size, 2, none⟩ = some (.string (str D.state))) ∧ (W.cell? ⟨wg.heap.size, 0, none⟩ = some (.int .i64 D.pos) ∧ W.cell? ⟨wg.heap.size, 1, none⟩ = some (.string (str D.chain)) ∧ W.cell? ⟨wg.heap.size, 2, none⟩ = some (.string (str D.state))) := by
          intro W h hb
          have k27 := K27.later hb
          have k29 := K29.later hb
          exact ⟨⟨h.a.cell 0, h.a.cell 1, h.a.cell 2⟩, ⟨h.b.cell 0, h.b.cell 1, h.b.cell 2⟩, ⟨k27.cell 0, k27.cell 1, k27.cell 2⟩, k29.cell 0, k29.cell 1, k29.cell 2⟩
        have CE := Lib.hid ce
        have bw := Below.refl wh.drew.heap.size wh.drew
        clear ce K27 K29
        refine wp_region_noPanic ?_
        refine wp_region_ord (fun W => (W.cell? ⟨w.heap.size, 0, none⟩ = some (.int .i64 a.pos) ∧ W.cell? ⟨w.heap.size, 1, none⟩ = some (.string (str a.chain)) ∧ W.cell? ⟨w.heap.size, 2, none⟩ = some (.string (str a.state))) ∧ (W.cell? ⟨w.heap.size + 1, 0, none⟩ = some (.int .i64 b.pos) ∧ W.cell? ⟨w.heap.size + 1, 1, none⟩ = some (.string (str b.chain)) ∧ W.cell? ⟨w.heap.size + 1, 2, none⟩ = some (.string (str b.state))) ∧ (W.cell? ⟨we.heap.size, 0, none⟩ = some (.int .i64 D.pos) ∧ W.cell? ⟨we.heap.size, 1, none⟩ = some (.string (str D.chain)) ∧ W.cell? ⟨we.heap.size, 2, none⟩ = some (.string (str D.state))) ∧ (W.cell? ⟨wg.heap.size, 0, none⟩ = some (.int .i64 D.pos) ∧ W.cell? ⟨wg.heap.size, 1, none⟩ = some (.string (str D.chain)) ∧ W.cell? ⟨wg.heap.size, 2, none⟩ = some (.string (str D.state)))) [(0, true), (1, true), (2, false), (3, true), (4, true), (5, true), (6, true), (7, false), (8, true), (9, true), (10, true), (11, true), (12, false), (13, true), (14, true), (15, true), (16, true), (17, false), (18, true), (19, true), (20, true), (21, true), (22, false), (23, false), (24, false), (26, false), (27, false), (28, false), (25, true), (29, true), (30, true), (31, true), (32, true), (33, false), (34, false), (36, false), (37, false), (35, true), (38, true), (39, true), (40, true), (41, true), (42, false), (43, false), (44, false), (45, false), (47, false), (48, false), (49, false), (50, false), (46, true), (51, true), (52, true), (53, true), (54, true)] (by kernel_rfl) (by as_aux_lemma => kernel_rfl) (by rfl) (by as_aux_lemma => kernel_rfl) (fun _ _ _ _ _ h => h) (CE.out _ Z bw) (fun hHeld => ?_)
        repeat (first
          | (apply SeqO.take0
             case ho => exact rfl
             case hg => exact rfl
             case hy => (intro w hSw; (try dsimp only at hSw); go_simp; try with_reducible rfl)
             try simp only [Act.put, List.setIfInBounds_toArray, List.set_cons_zero, List.set_cons_succ])
          | (apply SeqO.takeG
             case ho => exact rfl
             case hg => exact rfl
             case hj => exact rfl
             case hd => exact rfl
             case ht => exact rfl
             case hy => (intro w hSw; (try dsimp only at hSw); go_simp; try with_reducible rfl)
             try simp only [Act.put, List.setIfInBounds_toArray, List.set_cons_zero, List.set_cons_succ])
          | (first
             | (apply SeqO.step0
                case ho => exact rfl
                case hg => exact rfl)
             | (apply SeqO.stepG
                case ho => exact rfl
                case hg => exact rfl
                case hj => exact rfl
                case hd => exact rfl
                case ht => exact rfl)
             intro K hK
             go_simp
             first
             | (go_at_call 34; (with_reducible refine (CF1.out _ Z).mono ?_); rintro e wx ⟨rfl, bn⟩; replace Z := Z.later bn; replace bw := Below.next bw bn; clear bn; go_wp2_with fail)
             | (go_at_call 34; (with_reducible refine (CF3.out _ Z).mono ?_); rintro e wx ⟨rfl, bn⟩; replace Z := Z.later bn; replace bw := Below.next bw bn; clear bn; go_wp2_with fail)
             | (go_at_call 35; (with_reducible refine (CF2.out _ Z).mono ?_); rintro e wx ⟨rfl, bn⟩; replace Z := Z.later bn; replace bw := Below.next bw bn; clear bn; go_wp2_with fail)
             | (go_at_call 35; (with_reducible refine (CF4.out _ Z).mono ?_); rintro e wx ⟨rfl, bn⟩; replace Z := Z.later bn; replace bw := Below.next bw bn; clear bn; go_wp2_with fail)
             | (go_at_call 36; (with_reducible refine (CV1.out _ Z).mono ?_); rintro e wx ⟨rfl, bn⟩; replace Z := Z.later bn; replace bw := Below.next bw bn; clear bn; go_wp2_with fail)
             | (go_at_call 37; (with_reducible refine (CV2.out _ Z).mono ?_); rintro e wx ⟨rfl, bn⟩; replace Z := Z.later bn; replace bw := Below.next bw bn; clear bn; go_wp2_with fail)
             | fail
             refine hK.out _ _ ?_ (fun _ => ?_)
             · exact CE.out _ Z bw
             clear hK K
             try simp only [Act.put, List.setIfInBounds_toArray, List.set_cons_zero, List.set_cons_succ]))
        refine SeqO.done ?_
        refine NoPanic.normal ?_
        go_wp2_with fail
        go_ret
        exact ⟨rfl, Z.bel⟩
end Go.Proofs.YtheebajklnljdaaGreatDoor
