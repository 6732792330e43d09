/- The reference's Log. -/
import Derived.Test.YtgbemgndbemllaaGreatDoorGs
import Derived.Test.YtgbemgndbemllaaGreatDoorQRdC
import Derived.Deep.DeepCutAuto
import Derived.Deep.CutBlock
namespace Go.Proofs.YtgbemgndbemllaaGreatDoor
open Go Go.RowKit Go.Shelf
attribute [local go_sem] Oper.semAt_some

set_option maxRecDepth 100000 in
set_option maxHeartbeats 16000000 in
theorem rlog_ok (v : Value) (xs : List (List Int)) (w : World) (hv : SixAt w v xs) (hl : xs.length ≤ 16) :
    Calls Tryz.prog 4 #[v] w fun e w' => ∃ v' ps s, e = .returned v' ∧ LogZ w' w.heap.size v' ps s ∧ ps.length ≤ 16 ∧ Below w.heap.size w w' := by
  obtain ⟨A, c, rfl, hc⟩ := id hv
  have HV := Lib.hid hv
  have HNEW := Lib.hid (rNew_ok w)
  clear hv hc
  go_enter Tryz.func4, Tryz.ntmps4
  go_wp2_with fail
  refine (HNEW.out).mono ?_
  rintro e w1 ⟨rfl, hR, b1, hs1⟩
  have HR := Lib.hid hR
  have HB1 := Lib.hid b1
  clear hR b1 HNEW
  obtain ⟨b, hb⟩ : ∃ b, b = w.heap.size := ⟨_, rfl⟩
  rw [← hb] at HR HB1 hs1 ⊢
  have HBW := Lib.hid hb
  clear hb
  go_wp2_with fail
  go_loopw [3, 5] (fun ov iv wr => ∃ (i : Nat) (ps : List (Rec × Value)) (s : StT), i ≤ xs.length ∧ iv = .int .i64 i ∧ Hid (LogZ wr b ov ps s) ∧ ps.length ≤ i ∧ Hid (Below b w wr)) (fun _ iv _ => xs.length - (intOf iv).toNat)
  case atStart => exact ⟨0, [], st0, by omega, rfl, Lib.hid (LogZ.zero HR.out), by simp, HB1⟩
  case round =>
    obtain ⟨i, ps, s, hi, rfl, HZ, hps, HB⟩ := hrel
    by_cases h1 : i < xs.length
    case neg => as_aux_lemma =>
      have t1 : decide (i < xs.length) = false := by simpa using h1
      have he := And.intro HZ.out HB.out
      rw [HBW.out] at he
      have HE := Lib.hid he
      clear he
      have hps16 : ps.length ≤ 16 := by omega
      clear h1
      go_wp2_with fail
      go_ret
      exact ⟨_, ps, s, rfl, HE.out.1, hps16, HE.out.2⟩
    case pos =>
      have t1 : decide (i < xs.length) = true := by simpa using h1
      have HI := Lib.hid h1
      clear h1
      go_wp2_with fail
      clear t1
      obtain ⟨wi, hwi⟩ : ∃ W : World, W = wr := ⟨_, rfl⟩
      rw [← hwi] at HZ HB
      have HWI := Lib.hid hwi
      clear hwi
      go_loopw [6, 7] (fun lv kv wr => ∃ (k : Nat) (l : List Chg), k ≤ 3 ∧ kv = .int .i64 k ∧ l.length ≤ k ∧ Hid (wr.ownsRow wi.heap.size 65 10 lv l.length (l.flatMap chgCells)) ∧ Hid (Below wi.heap.size wi wr)) (fun _ kv _ => 3 - (intOf kv).toNat)
      case atStart => exact ⟨0, [], by omega, rfl, by simp, Lib.hid (World.ownsRow_nil _ _ _ _), Lib.hid (by rw [HWI.out]; exact Below.refl _ _)⟩
      case round =>
        clear HWI
        obtain ⟨k, l, hk, rfl, hlk, HL, HW⟩ := hrel
        obtain ⟨wk, hwk⟩ : ∃ W : World, W = wr := ⟨_, rfl⟩
        rw [← hwk] at HL HW ⊢
        clear hwk wr
        by_cases h2 : k < 3
        case neg => as_aux_lemma =>
          have t1 : decide ((k : Int) < 3) = false := by simp; omega
          obtain ⟨lA, lc, hlv, hlc, -, -⟩ := ownsRow_form HL.out
          subst hlv
          have hgd := HZ.out.good
          have hps16 : ps.length ≤ 16 := by have := HI.out; omega
          obtain ⟨p, hp⟩ : ∃ p, p = s.pos + 1 := ⟨_, rfl⟩
          have hsp : IntKind.i64.wrap (s.pos + 1) = p := by rw [IntKind.wrap_i64, hp]; have := hgd.2; omega
          have hp1 : 0 ≤ s.pos ∧ s.pos ≤ 100000 := by have := hgd.2; omega
          have hbl : b < wi.heap.size := HZ.out.st.lt
          obtain ⟨i1, hi1, hy0, hy1, hy2⟩ := info_rec
          have lz := HZ.out.later HW.out
          obtain ⟨vS, KS, -⟩ := lz.st.own
          have s1 : wk.cell? ⟨b, 1, none⟩ = some (.int .i64 s.pos) := KS.cell 1
          have a4 := Below.alloc1 wk (.cells #[.int .i64 p, .slice lA l.length lc] 37)
          have K4 := BlkIs.new wk 37 #[.int .i64 p, .slice lA l.length lc]
          have own4 := ownsRow_later a4 HL.out
          have lz4 := lz.later a4
          have bw4 : Below b w (wk.alloc (.cells #[.int .i64 p, .slice lA l.length lc] 37)) := HB.out.trans ((Below.next HW.out a4).mono (by omega))
          have hcall := rApply_ok b s p lA lc l (wk.alloc (.cells #[.int .i64 p, .slice lA l.length lc] 37)) lz4.st hgd.1 hp1.1 hp1.2 (ChgsOwn.chgs (S := fun _ => True) ⟨ownsRow_base0 own4, fun _ _ => trivial⟩) (fun a e => by subst e; have := own_ge HL.out rfl; omega)
          have HCALL := Lib.hid hcall
          have HLZ4 := Lib.hid lz4
          have HOWN4 := Lib.hid own4
          have HBW4 := Lib.hid bw4
          have HK4 := Lib.hid K4
          have e0 : (wk.alloc (.cells #[.int .i64 p, .slice lA l.length lc] 37)).cell? ⟨wk.heap.size, 0, none⟩ = some (.int .i64 p) := K4.cell 0
          have e1 : (wk.alloc (.cells #[.int .i64 p, .slice lA l.length lc] 37)).cell? ⟨wk.heap.size, 1, none⟩ = some (.slice lA l.length lc) := K4.cell 1
          have hbk : b ≠ wk.heap.size := by have := HW.out.size; omega
          have HP := Lib.hid hp
          clear hp hgd hp1 lz KS a4 K4 own4 lz4 bw4 hcall h2
          go_wp2_with fail
          refine (HCALL.out).mono ?_
          rintro e w5 ho
          obtain ⟨w4, hw4⟩ : ∃ W, W = wk.alloc (.cells #[.int .i64 p, .slice lA l.length lc] 37) := ⟨_, rfl⟩
          rw [← hw4] at ho HLZ4 HOWN4 HBW4 HK4
          clear HCALL e0 e1 hw4 s1
          rcases ho with ⟨hf, rfl, b5⟩ | ⟨hf, rfl, hrs, hon⟩
          · have HZ5 := Lib.hid (HLZ4.out.later b5)
            have HB5 := Lib.hid (HBW4.out.trans (b5.mono (Nat.le_of_lt HLZ4.out.st.lt)))
            clear b5 hf
            go_wp2_with fail
            exact ⟨⟨i + 1, ps, s, HI.out, by go_num, HZ5, by omega, HB5⟩, by have := HI.out; simp [intOf]; omega⟩
          · have K5 := HK4.out.only hon (fun e => hbk e.symm)
            have e0 : w5.cell? ⟨wk.heap.size, 0, none⟩ = some (.int .i64 p) := K5.cell 0
            have e1 : w5.cell? ⟨wk.heap.size, 1, none⟩ = some (.slice lA l.length lc) := K5.cell 1
            have HROW := Lib.hid (ownsRow_later (Below.alloc1 w5 (.cells #[.int .i64 p, .slice lA l.length lc] 37)) (only_row hon HLZ4.out.row))
            have hb5 : Below b w w5 := HBW4.out.trans (hon.below (fun k e => by omega) (Nat.le_of_lt HLZ4.out.st.lt))
            have hb5s := hb5.size
            have HB5 := Lib.hid hb5
            have HRS := Lib.hid hrs
            have HON := Lib.hid hon
            have HF := Lib.hid hf
            obtain ⟨oA, oc, rfl, hoc⟩ := HLZ4.out.form
            clear K5 hrs hon hf hb5
            go_wp2_with (at_builtin; refine wpList_append_any rfl (.tmp 212) (.tmp 214) 23 rfl (b + 1) 37 i1 _ 2 32 Tryz.underlying23 hi1 hy0 hy1 hy2 rfl (by decide) (.slice oA ps.length oc) ps.length (ps.flatMap recCells) rfl HROW.out (some ⟨w5.heap.size, 0, none⟩) 1 1 (recCells (⟨p, l⟩, .slice lA l.length lc)) rfl (fun e => by cases e) rfl (fun ad e => by injection e with e; subst e; exact blk_news (BlkIs.new w5 37 #[.int .i64 p, .slice lA l.length lc]) 0 _ rfl) (recCells_one _ rfl) (by unfold maxLen; omega) (by omega) (by have := HRS.out.lt; rw [World.size_alloc]; omega) ?_; intro v6 w6 own6 gr6)
            have hadd := HLZ4.out.add HF.out HRS.out HON.out (Below.alloc1 w5 _) gr6 (ownsRow_mono HOWN4.out (show b + 1 ≤ wi.heap.size from hbl)) own6
            have hb6 : Below b w w6 := (HB5.out.trans ((Below.alloc1 w5 (.cells #[.int .i64 p, .slice lA l.length lc] 37)).mono (Nat.le_of_lt HRS.out.lt))).grown gr6 (by have := HRS.out.lt; rw [World.size_alloc]; omega) (fun q e => by have := own_ge HROW.out e; omega)
            exact ⟨⟨i + 1, _, _, HI.out, by go_num, Lib.hid hadd, by rw [List.length_append, List.length_singleton]; omega, Lib.hid hb6⟩, by have := HI.out; simp [intOf]; omega⟩
        case pos =>
          have t1 : decide ((k : Int) < 3) = true := by simp; omega
          have HK := Lib.hid h2
          have hv2 := (HV.out.below (HBW.out ▸ HB.out : Below w.heap.size w wi)).below HW.out
          obtain ⟨A', c', e1, hc, hj⟩ := hv2
          injection e1 with e2 e3 e4
          subst e2 e4
          obtain ⟨ad, rfl, had, hj⟩ := hj (by have := HI.out; omega)
          obtain ⟨x, hx⟩ : ∃ x, xs[i]? = some x := ⟨_, List.getElem?_eq_getElem HI.out⟩
          obtain ⟨h6, hz⟩ := hj i x hx
          obtain ⟨zn, hzn⟩ : ∃ z, x[2 * k]? = some z := ⟨_, List.getElem?_eq_getElem (by omega)⟩
          obtain ⟨zm, hzm⟩ : ∃ z, x[2 * k + 1]? = some z := ⟨_, List.getElem?_eq_getElem (by omega)⟩
          obtain ⟨c0, n1, n2⟩ := hz _ _ hzn
          obtain ⟨c1, m1, m2⟩ := hz _ _ hzm
          rw [← add_add'] at c0 c1
          rw [add_field] at c1
          have q0 : (0 : Int) ≤ (i : Int) := by omega
          have q1 : (i : Int) < (xs.length : Int) := by have := HI.out; omega
          have q2 : (0 : Int) ≤ 2 * (k : Int) := by omega
          have q3 : 2 * (k : Int) < 6 := by omega
          have q4 : (0 : Int) ≤ 2 * (k : Int) + 1 := by omega
          have q5 : 2 * (k : Int) + 1 < 6 := by omega
          clear hj hz h6 hx hzn hzm hc h2
          go_upto_if 37 with fail
          go_cut [8] (fun s8 wx => ∃ n : Int, 0 ≤ n ∧ n ≤ 9223372036854775807 ∧ s8 = .int .i64 n ∧ wx = wk)
          case first => as_aux_lemma =>
            by_cases hn : zn < 0
            · have t2 : decide (zn < 0) = true := by simpa using hn
              go_wp2_with fail
              go_meet
              exact ⟨-(zn + 1), by omega, by omega, rfl, rfl⟩
            · have t2 : decide (zn < 0) = false := by simpa using hn
              go_wp2_with fail
              go_meet
              exact ⟨zn, by omega, by omega, rfl, rfl⟩
          case rest =>
            obtain ⟨n, hn1, hn2, rfl, hwc⟩ := hcut
            rw [hwc]
            clear hwc wc n1 n2
            go_upto_if 50 with fail
            go_cut [9] (fun s9 wx => ∃ n : Int, 0 ≤ n ∧ n ≤ 9223372036854775807 ∧ s9 = .int .i64 n ∧ wx = wk)
            case first => as_aux_lemma =>
              by_cases hn : zm < 0
              · have t2 : decide (zm < 0) = true := by simpa using hn
                go_wp2_with fail
                go_meet
                exact ⟨-(zm + 1), by omega, by omega, rfl, rfl⟩
              · have t2 : decide (zm < 0) = false := by simpa using hn
                go_wp2_with fail
                go_meet
                exact ⟨zm, by omega, by omega, rfl, rfl⟩
            case rest =>
              obtain ⟨m, hm1, hm2, rfl, hwc⟩ := hcut
              rw [hwc]
              clear hwc wc m1 m2 c0 c1 q2 q3 q4 q5 q0 q1
              go_wp2_with fail
              obtain ⟨tt, htt⟩ : ∃ t, t = n % 3 := ⟨_, rfl⟩
              obtain ⟨kk, hkk⟩ : ∃ t, t = 1 + n / 3 % 9 := ⟨_, rfl⟩
              rw [← htt, ← hkk]
              clear htt hkk
              have a4 := Below.alloc1 wk (.cells #[.int .i64 tt, .int .i64 kk, .bool false, .int .i64 0, .int .i64 0, .int .i64 0, .bool false, .int .i64 0, .int .i64 0, .int .i64 0] 65)
              have K4 := BlkIs.new wk 65 #[.int .i64 tt, .int .i64 kk, .bool false, .int .i64 0, .int .i64 0, .int .i64 0, .bool false, .int .i64 0, .int .i64 0, .int .i64 0]
              refine (rGet_ok b s tt kk _ ((HZ.out.later HW.out).later a4).st HZ.out.good.1.sort HZ.out.good.1.small).mono ?_
              rintro e w5 ⟨rfl, b5⟩
              rw [getV_eq]
              obtain ⟨y, hy⟩ : ∃ y, y = (getS s.rows tt kk).getD rw0 := ⟨_, rfl⟩
              obtain ⟨had2, hh2⟩ : ∃ y, y = (getS s.rows tt kk).isSome := ⟨_, rfl⟩
              rw [← hy, ← hh2]
              clear hy hh2
              obtain ⟨yt, yk, y0, y1, y2⟩ := y
              unfold rwV
              dsimp only
              have b6 := Below.next a4 b5
              have K5 := K4.later b5
              have a6 := Below.alloc1 w5 (.cells #[.int .i64 yt, .int .i64 yk, .int .i64 y0, .int .i64 y1, .int .i64 y2] 67)
              have K6 := BlkIs.new w5 67 #[.int .i64 yt, .int .i64 yk, .int .i64 y0, .int .i64 y1, .int .i64 y2]
              have K7 := K5.later a6
              have b7 := Below.next b6 a6
              have d0 : (w5.alloc (.cells #[.int .i64 yt, .int .i64 yk, .int .i64 y0, .int .i64 y1, .int .i64 y2] 67)).cell? ⟨wk.heap.size, 0, none⟩ = some (.int .i64 tt) := K7.cell 0
              have d1 : (w5.alloc (.cells #[.int .i64 yt, .int .i64 yk, .int .i64 y0, .int .i64 y1, .int .i64 y2] 67)).cell? ⟨wk.heap.size, 1, none⟩ = some (.int .i64 kk) := K7.cell 1
              have d2 : (w5.alloc (.cells #[.int .i64 yt, .int .i64 yk, .int .i64 y0, .int .i64 y1, .int .i64 y2] 67)).cell? ⟨wk.heap.size, 2, none⟩ = some (.bool false) := K7.cell 2
              have d3 : (w5.alloc (.cells #[.int .i64 yt, .int .i64 yk, .int .i64 y0, .int .i64 y1, .int .i64 y2] 67)).cell? ⟨wk.heap.size, 3, none⟩ = some (.int .i64 0) := K7.cell 3
              have d4 : (w5.alloc (.cells #[.int .i64 yt, .int .i64 yk, .int .i64 y0, .int .i64 y1, .int .i64 y2] 67)).cell? ⟨wk.heap.size, 4, none⟩ = some (.int .i64 0) := K7.cell 4
              have d5 : (w5.alloc (.cells #[.int .i64 yt, .int .i64 yk, .int .i64 y0, .int .i64 y1, .int .i64 y2] 67)).cell? ⟨wk.heap.size, 5, none⟩ = some (.int .i64 0) := K7.cell 5
              have d6 : (w5.alloc (.cells #[.int .i64 yt, .int .i64 yk, .int .i64 y0, .int .i64 y1, .int .i64 y2] 67)).cell? ⟨wk.heap.size, 6, none⟩ = some (.bool false) := K7.cell 6
              have d7 : (w5.alloc (.cells #[.int .i64 yt, .int .i64 yk, .int .i64 y0, .int .i64 y1, .int .i64 y2] 67)).cell? ⟨wk.heap.size, 7, none⟩ = some (.int .i64 0) := K7.cell 7
              have d8 : (w5.alloc (.cells #[.int .i64 yt, .int .i64 yk, .int .i64 y0, .int .i64 y1, .int .i64 y2] 67)).cell? ⟨wk.heap.size, 8, none⟩ = some (.int .i64 0) := K7.cell 8
              have d9 : (w5.alloc (.cells #[.int .i64 yt, .int .i64 yk, .int .i64 y0, .int .i64 y1, .int .i64 y2] 67)).cell? ⟨wk.heap.size, 9, none⟩ = some (.int .i64 0) := K7.cell 9
              have f0 := K7.frozen 0
              have f1 := K7.frozen 1
              have f2 := K7.frozen 2
              have f3 := K7.frozen 3
              have f4 := K7.frozen 4
              have f5 := K7.frozen 5
              have f6 := K7.frozen 6
              have f7 := K7.frozen 7
              have f8 := K7.frozen 8
              have f9 := K7.frozen 9
              have e2 : (w5.alloc (.cells #[.int .i64 yt, .int .i64 yk, .int .i64 y0, .int .i64 y1, .int .i64 y2] 67)).cell? ⟨w5.heap.size, 2, none⟩ = some (.int .i64 y0) := K6.cell 2
              have e3 : (w5.alloc (.cells #[.int .i64 yt, .int .i64 yk, .int .i64 y0, .int .i64 y1, .int .i64 y2] 67)).cell? ⟨w5.heap.size, 3, none⟩ = some (.int .i64 y1) := K6.cell 3
              have e4 : (w5.alloc (.cells #[.int .i64 yt, .int .i64 yk, .int .i64 y0, .int .i64 y1, .int .i64 y2] 67)).cell? ⟨w5.heap.size, 4, none⟩ = some (.int .i64 y2) := K6.cell 4
              have hne : wk.heap.size ≠ w5.heap.size := by have := K5.lt; omega
              have HK7 := Lib.hid K7
              have HB7 := Lib.hid b7
              have HK6 := Lib.hid K6
              have HB7S : wk.heap.size ≤ w5.heap.size := b6.size
              clear a4 K4 b5 b6 K5 a6 K6 K7 b7
              go_upto_region 20 with fail
              have K8 := (((HK7.out.set 2 (.bool had2)).set 3 (.int .i64 y0)).set 4 (.int .i64 y1)).set 5 (.int .i64 y2)
              have b8 := (((HB7.out.setCell (p := ⟨wk.heap.size, 2, none⟩) (Nat.le_refl _) (.bool had2)).setCell (p := ⟨wk.heap.size, 3, none⟩) (Nat.le_refl _) (.int .i64 y0)).setCell (p := ⟨wk.heap.size, 4, none⟩) (Nat.le_refl _) (.int .i64 y1)).setCell (p := ⟨wk.heap.size, 5, none⟩) (Nat.le_refl _) (.int .i64 y2)
              obtain ⟨w8, hw8⟩ : ∃ W, W = ((((w5.alloc (.cells #[.int .i64 yt, .int .i64 yk, .int .i64 y0, .int .i64 y1, .int .i64 y2] 67)).setCell ⟨wk.heap.size, 2, none⟩ (.bool had2)).setCell ⟨wk.heap.size, 3, none⟩ (.int .i64 y0)).setCell ⟨wk.heap.size, 4, none⟩ (.int .i64 y1)).setCell ⟨wk.heap.size, 5, none⟩ (.int .i64 y2) := ⟨_, rfl⟩
              rw [← hw8] at K8 b8 ⊢
              replace K8 : BlkIs w8 wk.heap.size 65 [.int .i64 tt, .int .i64 kk, .bool had2, .int .i64 y0, .int .i64 y1, .int .i64 y2, .bool false, .int .i64 0, .int .i64 0, .int .i64 0] := K8
              clear hw8 d0 d1 d2 d3 d4 d5 d6 d7 d8 d9 f0 f1 f2 f3 f4 f5 f6 f7 f8 f9 e2 e3 e4 HK7 HB7 hne HK6 HB7S
              have d6 : w8.cell? ⟨wk.heap.size, 6, none⟩ = some (.bool false) := K8.cell 6
              have f6 := K8.frozen 6
              go_cut [] (fun wx => ∃ has : Bool, BlkIs wx wk.heap.size 65 [.int .i64 tt, .int .i64 kk, .bool had2, .int .i64 y0, .int .i64 y1, .int .i64 y2, .bool has, .int .i64 0, .int .i64 0, .int .i64 0] ∧ Below wk.heap.size wk wx)
              case first => as_aux_lemma =>
                cases had2
                case false =>
                  go_wp2_with fail
                  go_meet
                  exact ⟨true, K8.set 6 _, b8.setCell (p := ⟨wk.heap.size, 6, none⟩) (Nat.le_refl _) _⟩
                case true =>
                  go_wp2_with fail
                  go_meet
                  exact ⟨_, K8.set 6 _, b8.setCell (p := ⟨wk.heap.size, 6, none⟩) (Nat.le_refl _) _⟩
              case rest =>
                obtain ⟨has, K9, b9⟩ := hcut
                clear K8 b8 d6 f6
                obtain ⟨w9, hw9⟩ : ∃ W, W = wc := ⟨_, rfl⟩
                rw [← hw9] at K9 b9 ⊢
                clear hw9 wc w8
                have d6 : w9.cell? ⟨wk.heap.size, 6, none⟩ = some (.bool has) := K9.cell 6
                have d7 : w9.cell? ⟨wk.heap.size, 7, none⟩ = some (.int .i64 0) := K9.cell 7
                have d8 : w9.cell? ⟨wk.heap.size, 8, none⟩ = some (.int .i64 0) := K9.cell 8
                have d9 : w9.cell? ⟨wk.heap.size, 9, none⟩ = some (.int .i64 0) := K9.cell 9
                have f7 := K9.frozen 7
                have f8 := K9.frozen 8
                have f9 := K9.frozen 9
                go_upto_if 84 with fail
                go_cut [] (fun wx => ∃ n0 n1 n2 : Int, BlkIs wx wk.heap.size 65 [.int .i64 tt, .int .i64 kk, .bool had2, .int .i64 y0, .int .i64 y1, .int .i64 y2, .bool has, .int .i64 n0, .int .i64 n1, .int .i64 n2] ∧ Below wk.heap.size wk wx)
                case first => as_aux_lemma =>
                  cases has
                  case false =>
                    go_wp2_with fail
                    go_meet
                    exact ⟨0, 0, 0, K9, b9⟩
                  case true =>
                    go_wp2_with fail
                    go_meet
                    exact ⟨_, _, _, ((K9.set 7 _).set 8 _).set 9 _, ((b9.setCell (p := ⟨wk.heap.size, 7, none⟩) (Nat.le_refl _) _).setCell (p := ⟨wk.heap.size, 8, none⟩) (Nat.le_refl _) _).setCell (p := ⟨wk.heap.size, 9, none⟩) (Nat.le_refl _) _⟩
                case rest =>
                  obtain ⟨n0, n1, n2, K10, b10⟩ := hcut
                  clear K9 b9 d6 d7 d8 d9 f7 f8 f9
                  obtain ⟨wd, hwd⟩ : ∃ W, W = wc := ⟨_, rfl⟩
                  rw [← hwd] at K10 b10 ⊢
                  clear hwd wc w9
                  have own := ownsRow_later b10 (ownsRow_later (Below.refl _ _) HL.out)
                  obtain ⟨lA, lc, rfl, hlc, hlm, hcel⟩ := ownsRow_form own
                  obtain ⟨N, hN⟩ : ∃ N, N = l.length := ⟨_, rfl⟩
                  rw [← hN] at hlc hcel hlk ⊢
                  have HN := Lib.hid hN
                  have HCEL := Lib.hid hcel
                  have HOWN := Lib.hid own
                  have HKD := Lib.hid K10
                  have HBD := Lib.hid b10
                  have hgw : wk.heap.size ≤ wd.heap.size := b10.size
                  clear own K10 b10 hN hcel
                  go_wp2_with fail
                  go_loopw [13, 14] (fun kv jv wx => ∃ (kn : Bool) (j : Nat), kv = .bool kn ∧ jv = .int .i64 j ∧ j ≤ N ∧ Hid (Below wd.heap.size wd wx)) (fun _ jv _ => N - (intOf jv).toNat)
                  case atStart => exact ⟨false, 0, rfl, rfl, by omega, Lib.hid (Below.refl _ _)⟩
                  case round =>
                    obtain ⟨kn, j, rfl, rfl, hj, HX⟩ := hrel
                    by_cases h3 : j < N
                    case pos => as_aux_lemma =>
                      obtain ⟨g, rfl, hg, -, hcel⟩ := HCEL.out (by omega)
                      obtain ⟨z, hz⟩ : ∃ z, l[j]? = some z := ⟨_, List.getElem?_eq_getElem (by rw [← HN.out]; omega)⟩
                      obtain ⟨zt, hzt⟩ : ∃ t, t = z.table := ⟨_, rfl⟩
                      obtain ⟨zk, hzk⟩ : ∃ t, t = z.key := ⟨_, rfl⟩
                      have c0 : wr.cell? ⟨g, j * 10, none⟩ = some (.int .i64 zt) := by rw [hzt]; exact (HX.out.cell (p := ⟨g, j * 10, none⟩) hg).trans (hcel _ _ (flat_get chgCells 10 chgCells_len l j 0 z _ hz rfl))
                      have c1 : wr.cell? ⟨g, j * 10 + 1, none⟩ = some (.int .i64 zk) := by rw [hzk]; exact (HX.out.cell (p := ⟨g, j * 10 + 1, none⟩) hg).trans (hcel _ _ (flat_get chgCells 10 chgCells_len l j 1 z _ hz rfl))
                      have K := HKD.out.later HX.out
                      have d0 : wr.cell? ⟨wk.heap.size, 0, none⟩ = some (.int .i64 tt) := K.cell 0
                      have d1 : wr.cell? ⟨wk.heap.size, 1, none⟩ = some (.int .i64 kk) := K.cell 1
                      have q0 : (0 : Int) ≤ (j : Int) := by omega
                      have q1 : (j : Int) < (N : Int) := by omega
                      have t1 : decide (j < N) = true := by simpa using h3
                      have H3 := Lib.hid h3
                      clear hz hzt hzk hcel K h3
                      cases kn
                      case true =>
                        go_wp2_with fail
                        go_quiet (fail)
                        go_wp2_with fail
                        exact ⟨⟨_, j + 1, rfl, by go_num, H3.out, Lib.hid (below_drewN' HX.out _)⟩, by have := H3.out; simp [intOf]; omega⟩
                      case false =>
                        by_cases e1 : zt = tt
                        · have s1 : (zt == tt) = true := by simpa using e1
                          clear e1
                          go_wp2_with fail
                          go_quiet (fail)
                          go_wp2_with fail
                          exact ⟨⟨_, j + 1, rfl, by go_num, H3.out, Lib.hid (below_drewN' HX.out _)⟩, by have := H3.out; simp [intOf]; omega⟩
                        · have s1 : (zt == tt) = false := by simpa using e1
                          clear e1
                          go_wp2_with fail
                          go_quiet (fail)
                          go_wp2_with fail
                          exact ⟨⟨_, j + 1, rfl, by go_num, H3.out, Lib.hid (below_drewN' HX.out _)⟩, by have := H3.out; simp [intOf]; omega⟩
                    case neg =>
                      have t1 : decide (j < N) = false := by simpa using h3
                      obtain ⟨we, hwe⟩ : ∃ W : World, W = wr := ⟨_, rfl⟩
                      rw [← hwe] at HX ⊢
                      clear hwe wr h3
                      have K := HKD.out.later HX.out
                      have d2 : we.cell? ⟨wk.heap.size, 2, none⟩ = some (.bool had2) := K.cell 2
                      have d3 : we.cell? ⟨wk.heap.size, 3, none⟩ = some (.int .i64 y0) := K.cell 3
                      have d4 : we.cell? ⟨wk.heap.size, 4, none⟩ = some (.int .i64 y1) := K.cell 4
                      have d5 : we.cell? ⟨wk.heap.size, 5, none⟩ = some (.int .i64 y2) := K.cell 5
                      have d6 : we.cell? ⟨wk.heap.size, 6, none⟩ = some (.bool has) := K.cell 6
                      have d7 : we.cell? ⟨wk.heap.size, 7, none⟩ = some (.int .i64 n0) := K.cell 7
                      have d8 : we.cell? ⟨wk.heap.size, 8, none⟩ = some (.int .i64 n1) := K.cell 8
                      have d9 : we.cell? ⟨wk.heap.size, 9, none⟩ = some (.int .i64 n2) := K.cell 9
                      clear K
                      go_upto_region 28 with fail
                      go_cut [149] (fun s wx => ∃ q : Bool, s = .bool q ∧ wx = we)
                      case first => as_aux_lemma =>
                        obtain ⟨z, hz⟩ : ∃ z, decide ((y0, y1, y2) = (n0, n1, n2)) = z := ⟨_, rfl⟩
                        have hq := fun W => run_eqT W (y0, y1, y2) (n0, n1, n2)
                        rw [hz] at hq
                        dsimp only at hq
                        have hgd := guard3
                        clear hz
                        cases kn
                        case true =>
                          go_wp2_with fail
                          go_meet
                          exact ⟨_, rfl, rfl⟩
                        case false =>
                          by_cases hk0 : 0 < k
                          · have t5 : decide ((0 : Int) < (k : Int)) = true := by simp; omega
                            clear hk0
                            cases had2 <;> cases has <;> cases z
                            all_goals
                              go_wp2_with fail
                              all_goals
                                go_meet
                                exact ⟨_, rfl, rfl⟩
                          · have t5 : decide ((0 : Int) < (k : Int)) = false := by simp; omega
                            clear hk0
                            cases had2 <;> cases has <;> cases z
                            all_goals
                              go_wp2_with fail
                              all_goals
                                go_meet
                                exact ⟨_, rfl, rfl⟩
                      case rest =>
                        obtain ⟨q, rfl, hwc⟩ := hcut
                        rw [hwc]
                        clear hwc wc d2 d3 d4 d5 d6 d7 d8 d9 t1
                        cases q
                        case true => as_aux_lemma =>
                          go_wp2_with fail
                          exact ⟨⟨k + 1, l, by have := HK.out; omega, by go_num, by rw [← HN.out]; omega, Lib.hid (ownsRow_later HX.out (HN.out ▸ HOWN.out)), Lib.hid (Below.next HW.out (Below.next HBD.out HX.out))⟩, by have := HK.out; simp [intOf]; omega⟩
                        case false =>
                          go_wp2_with fail
                          go_loopw [15] (fun jv wx => ∃ j : Nat, jv = .int .i64 j ∧ j ≤ N ∧ Hid (Below wd.heap.size wd wx)) (fun jv _ => (intOf jv).toNat)
                          case atStart => exact ⟨N, rfl, by omega, HX⟩
                          case round =>
                            clear HX we
                            obtain ⟨j, rfl, hj, HX⟩ := hrel
                            go_upto_region 30 with fail
                            go_cut [186] (fun s wx => ∃ q : Bool, s = .bool q ∧ (q = true → 0 < j) ∧ Hid (Below wd.heap.size wd wx))
                            case first => as_aux_lemma =>
                              rcases Nat.eq_zero_or_pos j with h0 | h0
                              · subst h0
                                go_quiet (fail)
                                first | go_meet | (go_step; go_meet) | (go_wp2_with fail; go_meet) | fail
                                exact ⟨false, rfl, by simp, Lib.hid (below_drewN' HX.out _)⟩
                              · obtain ⟨r, hr⟩ : ∃ r : Nat, j = r + 1 := ⟨j - 1, by omega⟩
                                obtain ⟨g, rfl, hg, -, hcel⟩ := HCEL.out (by omega)
                                obtain ⟨z, hz⟩ : ∃ z, l[r]? = some z := ⟨_, List.getElem?_eq_getElem (by rw [← HN.out]; omega)⟩
                                obtain ⟨zt, hzt⟩ : ∃ t, t = z.table := ⟨_, rfl⟩
                                obtain ⟨zk, hzk⟩ : ∃ t, t = z.key := ⟨_, rfl⟩
                                have c0 : wr.cell? ⟨g, r * 10, none⟩ = some (.int .i64 zt) := by rw [hzt]; exact (HX.out.cell (p := ⟨g, r * 10, none⟩) hg).trans (hcel _ _ (flat_get chgCells 10 chgCells_len l r 0 z _ hz rfl))
                                have c1 : wr.cell? ⟨g, r * 10 + 1, none⟩ = some (.int .i64 zk) := by rw [hzk]; exact (HX.out.cell (p := ⟨g, r * 10 + 1, none⟩) hg).trans (hcel _ _ (flat_get chgCells 10 chgCells_len l r 1 z _ hz rfl))
                                have K := HKD.out.later HX.out
                                have d0 : wr.cell? ⟨wk.heap.size, 0, none⟩ = some (.int .i64 tt) := K.cell 0
                                have d1 : wr.cell? ⟨wk.heap.size, 1, none⟩ = some (.int .i64 kk) := K.cell 1
                                have s0 : decide ((0 : Int) < (j : Int)) = true := by simp; omega
                                have s1 : IntKind.i64.wrap ((j : Int) - 1) = (r : Int) := by rw [IntKind.wrap_i64]; omega
                                have s2 : IntKind.i64.wrap (r : Int) = (r : Int) := by rw [IntKind.wrap_i64]; omega
                                have s3 : (0 : Int) ≤ (r : Int) := by omega
                                have s4 : (r : Int) < (N : Int) := by omega
                                clear hz hzt hzk hcel K hr
                                by_cases e1 : tt < zt
                                · have u1 : decide (tt < zt) = true := by simpa using e1
                                  clear e1
                                  go_quiet (fail)
                                  first | go_meet | (go_step; go_meet) | (go_wp2_with fail; go_meet) | fail
                                  exact ⟨_, rfl, fun _ => h0, Lib.hid (below_drewN' HX.out _)⟩
                                · have u1 : decide (tt < zt) = false := by simpa using e1
                                  clear e1
                                  by_cases e2 : zt = tt
                                  · have u2 : (zt == tt) = true := by simpa using e2
                                    clear e2
                                    go_quiet (fail)
                                    first | go_meet | (go_step; go_meet) | (go_wp2_with fail; go_meet) | fail
                                    exact ⟨_, rfl, fun _ => h0, Lib.hid (below_drewN' HX.out _)⟩
                                  · have u2 : (zt == tt) = false := by simpa using e2
                                    clear e2
                                    go_quiet (fail)
                                    first | go_meet | (go_step; go_meet) | (go_wp2_with fail; go_meet) | fail
                                    exact ⟨_, rfl, fun _ => h0, Lib.hid (below_drewN' HX.out _)⟩
                            case rest =>
                              clear HX wr
                              obtain ⟨q, rfl, hq0, HX⟩ := hcut
                              obtain ⟨wf, hwf⟩ : ∃ W : World, W = wc := ⟨_, rfl⟩
                              rw [← hwf] at HX ⊢
                              clear hwf wc
                              cases q
                              case true => as_aux_lemma =>
                                have h0 := hq0 rfl
                                obtain ⟨r, hr⟩ : ∃ r : Nat, j = r + 1 := ⟨j - 1, by omega⟩
                                have s1 : IntKind.i64.wrap ((j : Int) - 1) = (r : Int) := by rw [IntKind.wrap_i64]; omega
                                have s2 : (j : Int) - 1 = (r : Int) := by omega
                                have HR0 := Lib.hid hr
                                clear hr h0 hq0
                                go_wp2_with fail
                                exact ⟨⟨r, rfl, by have := HR0.out; omega, HX⟩, by have := HR0.out; simp [intOf]; omega⟩
                              case false =>
                                clear hq0
                                go_wp2_with fail
                                obtain ⟨i0, hi0, hz0, hz1, hz2⟩ := info_chg
                                have K := HKD.out.later HX.out
                                have HBOX := Lib.hid (fun (W : World) (hW : Below wf.heap.size wf W) => (show (fun W => W.cell? ⟨wk.heap.size, 0, none⟩ = some (.int .i64 tt) ∧ W.cell? ⟨wk.heap.size, 1, none⟩ = some (.int .i64 kk) ∧ W.cell? ⟨wk.heap.size, 2, none⟩ = some (.bool had2) ∧ W.cell? ⟨wk.heap.size, 3, none⟩ = some (.int .i64 y0) ∧ W.cell? ⟨wk.heap.size, 4, none⟩ = some (.int .i64 y1) ∧ W.cell? ⟨wk.heap.size, 5, none⟩ = some (.int .i64 y2) ∧ W.cell? ⟨wk.heap.size, 6, none⟩ = some (.bool has) ∧ W.cell? ⟨wk.heap.size, 7, none⟩ = some (.int .i64 n0) ∧ W.cell? ⟨wk.heap.size, 8, none⟩ = some (.int .i64 n1) ∧ W.cell? ⟨wk.heap.size, 9, none⟩ = some (.int .i64 n2)) W from ⟨(K.later hW).cell 0, (K.later hW).cell 1, (K.later hW).cell 2, (K.later hW).cell 3, (K.later hW).cell 4, (K.later hW).cell 5, (K.later hW).cell 6, (K.later hW).cell 7, (K.later hW).cell 8, (K.later hW).cell 9⟩))
                                have ZA : Below wf.heap.size wf (wf.drew.alloc (.cells #[.int .i64 tt, .int .i64 kk, .bool had2, .int .i64 y0, .int .i64 y1, .int .i64 y2, .bool has, .int .i64 n0, .int .i64 n1, .int .i64 n2] 65)) := (Below.drew (Below.refl wf.heap.size wf)).alloc (Nat.le_refl _) _
                                have hwf : wk.heap.size ≤ wf.heap.size := Nat.le_trans hgw HX.out.size
                                clear K
                                have hc1 : (lA = none ∧ lc = 0 ∧ N = 0 ∧ j = 0) ∨ ∃ g, lA = some ⟨g, 0, none⟩ ∧ (j : Int) ≤ (lc : Int) ∧ (0 : Int) ≤ (j : Int) := by
                                  rcases HOWN.out.2 with ⟨hnil, hn0⟩ | ⟨g, cap, cur, hv3, hgl, hgh, -⟩
                                  · injection hnil with ea eb ec
                                    have h0 : N = 0 := by rw [HN.out]; exact hn0
                                    exact .inl ⟨ea, ec, h0, by omega⟩
                                  · injection hv3 with ea eb ec
                                    exact .inr ⟨g, ea, by omega, by omega⟩
                                obtain ⟨R, hc2⟩ : ∃ R : Option Addr, (lA = none ∧ lc = 0 ∧ N = 0 ∧ j = 0 ∧ R = none) ∨ (∃ g, lA = some ⟨g, 0, none⟩ ∧ N = lc ∧ j = lc ∧ R = some ⟨g, 0, none⟩) ∨ ∃ g, lA = some ⟨g, 0, none⟩ ∧ R = some ⟨g, j * 10, none⟩ ∧ ¬ lc = j ∧ (j : Int) ≤ (N : Int) ∧ (0 : Int) ≤ (j : Int) := by
                                  rcases hc1 with ⟨h1, h2, h3, h4⟩ | ⟨g, h1, h2, h3⟩
                                  · exact ⟨none, .inl ⟨h1, h2, h3, h4, rfl⟩⟩
                                  · by_cases hcj : lc = j
                                    · exact ⟨_, .inr (.inl ⟨g, h1, by omega, hcj.symm, rfl⟩)⟩
                                    · exact ⟨_, .inr (.inr ⟨g, h1, rfl, hcj, by omega, h3⟩)⟩
                                have hcw : ∀ g, lA = some ⟨g, 0, none⟩ → ∀ (W : World), Below wf.heap.size wf W → ∀ (i : Nat) u, (l.flatMap chgCells)[i]? = some u → W.cell? ⟨g, i, none⟩ = some u := by
                                  intro g hg W hW i u hu
                                  have h0 : 0 < N := by
                                    rw [HN.out]
                                    refine Nat.pos_of_ne_zero fun e => ?_
                                    rw [List.eq_nil_of_length_eq_zero e] at hu
                                    simp at hu
                                  obtain ⟨g', e1, hgd2, -, hx⟩ := HCEL.out h0
                                  rw [hg] at e1
                                  injection e1 with e1
                                  injection e1 with e1
                                  subst e1
                                  have hgf : g < wf.heap.size := Nat.lt_of_lt_of_le hgd2 HX.out.size
                                  exact (hW.cell (p := ⟨g, i, none⟩) hgf).trans ((HX.out.cell (p := ⟨g, i, none⟩) hgd2).trans (hx i u hu))
                                have hr0 : R = none → N - j = 0 ∧ lc - j = 0 := fun e => by
                                  rcases hc2 with ⟨-, h2, h3, h4, -⟩ | ⟨g, -, -, -, h⟩ | ⟨g, -, h, -⟩
                                  · omega
                                  · rw [h] at e; cases e
                                  · rw [h] at e; cases e
                                have hrc : ∀ (W : World), Below wf.heap.size wf W → ∀ ad, R = some ad → ∀ (i : Nat) u, ((l.drop j).flatMap chgCells)[i]? = some u → W.cell? (ad.add i) = some u := by
                                  intro W hW ad e i u hu
                                  rcases hc2 with ⟨-, -, -, -, h⟩ | ⟨g, -, h2, h3, h⟩ | ⟨g, h1, h, -, -, -⟩
                                  · rw [h] at e; cases e
                                  · rw [List.drop_of_length_le (by rw [← HN.out]; omega)] at hu
                                    simp at hu
                                  · rw [h] at e
                                    injection e with e
                                    subst e
                                    rw [flat_drop10, List.getElem?_drop] at hu
                                    rw [show (⟨g, j * 10, none⟩ : Addr).add i = ⟨g, j * 10 + i, none⟩ by unfold Addr.add; split <;> simp_all]
                                    exact hcw g h1 W hW _ u hu
                                have htc : ∀ (W : World), Below wf.heap.size wf W → ∀ ad, lA = some ad → ∀ (i : Nat) u, ((l.take j).flatMap chgCells)[i]? = some u → W.cell? (ad.add i) = some u := by
                                  intro W hW ad e i u hu
                                  rcases hc1 with ⟨h, -⟩ | ⟨g, h1, -⟩
                                  · rw [h] at e; cases e
                                  · rw [h1] at e
                                    injection e with e
                                    subst e
                                    rw [flat_take10, List.getElem?_take] at hu
                                    rw [add_zero_off]
                                    split at hu
                                    · exact hcw g h1 W hW _ u hu
                                    · cases hu
                                have ht0 : lA = none → j = 0 := fun e => by
                                  rcases hc1 with ⟨-, -, -, h⟩ | ⟨g, h, -⟩
                                  · exact h
                                  · rw [h] at e; cases e
                                have HC := Lib.hid hc1
                                have HC2 := Lib.hid hc2
                                have HR0 := Lib.hid hr0
                                have HRC := Lib.hid hrc
                                have HTC := Lib.hid htc
                                have HT0 := Lib.hid ht0
                                clear hc1 hc2 hr0 hrc htc ht0 hcw
                                refine wp_region_noPanic ?_
                                refine wp_region_ord (fun W => W.cell? ⟨wk.heap.size, 0, none⟩ = some (.int .i64 tt) ∧ W.cell? ⟨wk.heap.size, 1, none⟩ = some (.int .i64 kk) ∧ W.cell? ⟨wk.heap.size, 2, none⟩ = some (.bool had2) ∧ W.cell? ⟨wk.heap.size, 3, none⟩ = some (.int .i64 y0) ∧ W.cell? ⟨wk.heap.size, 4, none⟩ = some (.int .i64 y1) ∧ W.cell? ⟨wk.heap.size, 5, none⟩ = some (.int .i64 y2) ∧ W.cell? ⟨wk.heap.size, 6, none⟩ = some (.bool has) ∧ W.cell? ⟨wk.heap.size, 7, none⟩ = some (.int .i64 n0) ∧ W.cell? ⟨wk.heap.size, 8, none⟩ = some (.int .i64 n1) ∧ W.cell? ⟨wk.heap.size, 9, none⟩ = some (.int .i64 n2)) [(0, false), (1, false), (2, false), (3, false), (4, false), (6, false), (7, false), (8, false), (5, true), (9, true), (10, true), (11, true)] (by kernel_rfl) (by as_aux_lemma => kernel_rfl) (by rfl) (by as_aux_lemma => kernel_rfl) (fun _ _ _ _ _ h => h) (HBOX.out _ (Below.drew (Below.refl _ _))) (fun _ => ?_)
                                apply SeqO.take0
                                case ho => exact rfl
                                case hg => exact rfl
                                case hy => (intro w hSw; (try dsimp only at hSw); go_simp; try with_reducible rfl)
                                try simp only [Act.put, List.setIfInBounds_toArray, List.set_cons_zero, List.set_cons_succ]
                                apply SeqO.take0
                                case ho => exact rfl
                                case hg => exact rfl
                                case hy => (intro w hSw; (try dsimp only at hSw); go_simp; try with_reducible rfl)
                                try simp only [Act.put, List.setIfInBounds_toArray, List.set_cons_zero, List.set_cons_succ]
                                apply SeqO.take0
                                case ho => exact rfl
                                case hg => exact rfl
                                case hy => (intro w hSw; (try dsimp only at hSw); go_simp; try with_reducible rfl)
                                try simp only [Act.put, List.setIfInBounds_toArray, List.set_cons_zero, List.set_cons_succ]
                                apply SeqO.take0 (v := .slice lA j j)
                                case ho => exact rfl
                                case hg => exact rfl
                                case hy =>
                                  intro w hSw
                                  clear hSw
                                  rcases HC.out with ⟨rfl, rfl, rfl, rfl⟩ | ⟨g, rfl, h1, h2⟩
                                  · go_simp
                                  · clear HC
                                    go_simp
                                    try with_reducible rfl
                                try simp only [Act.put, List.setIfInBounds_toArray, List.set_cons_zero, List.set_cons_succ]
                                apply SeqO.take0
                                case ho => exact rfl
                                case hg => exact rfl
                                case hy => (intro w hSw; (try dsimp only at hSw); go_simp; try with_reducible rfl)
                                try simp only [Act.put, List.setIfInBounds_toArray, List.set_cons_zero, List.set_cons_succ]
                                apply SeqO.take0
                                case ho => exact rfl
                                case hg => exact rfl
                                case hy => (intro w hSw; (try dsimp only at hSw); go_simp; try with_reducible rfl)
                                try simp only [Act.put, List.setIfInBounds_toArray, List.set_cons_zero, List.set_cons_succ]
                                apply SeqO.take0
                                case ho => exact rfl
                                case hg => exact rfl
                                case hy => (intro w hSw; (try dsimp only at hSw); go_simp; try with_reducible rfl)
                                try simp only [Act.put, List.setIfInBounds_toArray, List.set_cons_zero, List.set_cons_succ]
                                apply SeqO.take0 (v := .slice R (N - j) (lc - j))
                                case ho => exact rfl
                                case hg => exact rfl
                                case hy =>
                                  intro w hSw
                                  clear hSw
                                  rcases HC2.out with ⟨rfl, rfl, rfl, rfl, rfl⟩ | ⟨g, rfl, rfl, rfl, rfl⟩ | ⟨g, rfl, rfl, h1, h2, h3⟩
                                  · go_simp
                                  · go_simp
                                    try with_reducible rfl
                                  · clear HC HC2
                                    go_simp
                                    try with_reducible rfl
                                try simp only [Act.put, List.setIfInBounds_toArray, List.set_cons_zero, List.set_cons_succ]
                                apply SeqO.step0
                                case ho => exact rfl
                                case hg => exact rfl
                                intro K hK
                                go_simp
                                refine hK.out _ _ (HBOX.out _ ZA) (fun _ => ?_)
                                clear hK K
                                try simp only [Act.put, List.setIfInBounds_toArray, List.set_cons_zero, List.set_cons_succ]
                                apply SeqO.step0
                                case ho => exact rfl
                                case hg => exact rfl
                                intro K hK
                                refine wp_append_any (.tmp 194) (.tmp 197) 35 rfl wf.heap.size 65 i0 _ 10 80 Tryz.underlying35 hi0 hz0 hz1 hz2 rfl (by decide) (.slice (some ⟨wf.heap.size, 0, none⟩) 1 1) 1 [.int .i64 tt, .int .i64 kk, .bool had2, .int .i64 y0, .int .i64 y1, .int .i64 y2, .bool has, .int .i64 n0, .int .i64 n1, .int .i64 n2] rfl (own_built wf.drew wf.heap.size 65 10 #[.int .i64 tt, .int .i64 kk, .bool had2, .int .i64 y0, .int .i64 y1, .int .i64 y2, .bool has, .int .i64 n0, .int .i64 n1, .int .i64 n2] rfl (Nat.le_refl _)) R (N - j) (lc - j) ((l.drop j).flatMap chgCells) rfl HR0.out (by rw [flat_chg_len, List.length_drop, ← HN.out]) (HRC.out _ ZA) (flat_chg_one _) (by unfold maxLen; omega) (by omega) ZA.size ?_
                                intro v8 w8 own8 gr8
                                have Z8 : Below wf.heap.size wf w8 := ZA.grown gr8 ZA.size (fun k e => by injection e with e; subst e; exact Nat.le_refl _)
                                obtain ⟨A8, c8, rfl, -, -, h8⟩ := ownsRow_form own8
                                obtain ⟨g8, rfl, hg8, -, hc8⟩ := h8 (by omega)
                                have hn8 : ∀ (i : Nat) u, ([.int .i64 tt, .int .i64 kk, .bool had2, .int .i64 y0, .int .i64 y1, .int .i64 y2, .bool has, .int .i64 n0, .int .i64 n1, .int .i64 n2] ++ (l.drop j).flatMap chgCells)[i]? = some u → w8.cell? ((⟨g8, 0, none⟩ : Addr).add i) = some u := fun i u hu => by rw [add_zero_off]; exact hc8 i u hu
                                refine hK.out _ _ (HBOX.out _ Z8) (fun _ => ?_)
                                clear hK K
                                try simp only [Act.put, List.setIfInBounds_toArray, List.set_cons_zero, List.set_cons_succ]
                                apply SeqO.step0
                                case ho => exact rfl
                                case hg => exact rfl
                                intro K hK
                                refine wp_append_full (.tmp 192) (.tmp 198) 35 rfl wi.heap.size 65 i0 _ 10 80 Tryz.underlying35 hi0 hz0 hz1 hz2 rfl lA j ((l.take j).flatMap chgCells) rfl (by rw [flat_chg_len, List.length_take, ← HN.out, Nat.min_eq_left hj]) HT0.out (HTC.out _ Z8) ⟨g8, 0, none⟩ (1 + (N - j)) c8 ([.int .i64 tt, .int .i64 kk, .bool had2, .int .i64 y0, .int .i64 y1, .int .i64 y2, .bool has, .int .i64 n0, .int .i64 n1, .int .i64 n2] ++ (l.drop j).flatMap chgCells) rfl (by rw [own8.1]) hn8 (by omega) (by unfold maxLen; omega) (by omega) (Nat.le_trans (Nat.le_trans HW.out.size hwf) Z8.size) ?_
                                intro v9 w9 own9 gr9
                                have Z9 : Below wf.heap.size wf w9 := Z8.grown gr9 Z8.size (fun k e => by cases e)
                                refine hK.out _ _ (HBOX.out _ Z9) (fun _ => ?_)
                                clear hK K
                                try simp only [Act.put, List.setIfInBounds_toArray, List.set_cons_zero, List.set_cons_succ]
                                repeat (
                                  apply SeqO.take0
                                  case ho => exact rfl
                                  case hg => exact rfl
                                  case hy => (intro w hSw; (try dsimp only at hSw); go_simp; try with_reducible rfl)
                                  try simp only [Act.put, List.setIfInBounds_toArray, List.set_cons_zero, List.set_cons_succ])
                                refine SeqO.done ?_
                                refine NoPanic.normal ?_
                                have own10 : w9.ownsRow wi.heap.size 65 10 v9 (l.take j ++ (⟨tt, kk, had2, (y0, y1, y2), has, (n0, n1, n2)⟩ : Chg) :: l.drop j).length ((l.take j ++ (⟨tt, kk, had2, (y0, y1, y2), has, (n0, n1, n2)⟩ : Chg) :: l.drop j).flatMap chgCells) := by
                                  have e1 : (l.take j ++ (⟨tt, kk, had2, (y0, y1, y2), has, (n0, n1, n2)⟩ : Chg) :: l.drop j).length = j + (1 + (N - j)) := by
                                    rw [List.length_append, List.length_cons, List.length_take, List.length_drop, ← HN.out]; omega
                                  have e2 : (l.take j ++ (⟨tt, kk, had2, (y0, y1, y2), has, (n0, n1, n2)⟩ : Chg) :: l.drop j).flatMap chgCells = (l.take j).flatMap chgCells ++ ([.int .i64 tt, .int .i64 kk, .bool had2, .int .i64 y0, .int .i64 y1, .int .i64 y2, .bool has, .int .i64 n0, .int .i64 n1, .int .i64 n2] ++ (l.drop j).flatMap chgCells) := by
                                    rw [List.flatMap_append, List.flatMap_cons]; rfl
                                  rw [e1, e2]
                                  exact own9
                                have hl10 : (l.take j ++ (⟨tt, kk, had2, (y0, y1, y2), has, (n0, n1, n2)⟩ : Chg) :: l.drop j).length ≤ k + 1 := by
                                  rw [List.length_append, List.length_cons, List.length_take, List.length_drop, ← HN.out]; omega
                                have H10 := Lib.hid own10
                                have HB10 := Lib.hid (Below.next HW.out (Below.next HBD.out (Below.next HX.out Z9)))
                                have HL10 := Lib.hid hl10
                                clear own9 own10 gr9 Z8 Z9 ZA hl10 HBOX hn8 own8 gr8 hc8 hg8 HC HC2 HR0 HRC HTC HT0
                                go_wp2_with fail
                                exact ⟨⟨k + 1, _, by have := HK.out; omega, by go_num, HL10.out, H10, HB10⟩, by have := HK.out; simp [intOf]; omega⟩
end Go.Proofs.YtgbemgndbemllaaGreatDoor
