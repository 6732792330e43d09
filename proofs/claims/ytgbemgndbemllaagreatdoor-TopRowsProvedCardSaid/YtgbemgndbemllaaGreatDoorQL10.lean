/- The walk of TopRowsProved. -/
import Derived.Test.YtgbemgndbemllaaGreatDoorGs
import Derived.Test.YtgbemgndbemllaaGreatDoorQRdL
import Derived.Test.YtgbemgndbemllaaGreatDoorGh
import Derived.Deep.DeepCutAuto
import Derived.Deep.CutBlock
namespace Go.Proofs.YtgbemgndbemllaaGreatDoor
open Go Go.RowKit Go.Shelf
attribute [local go_sem] Oper.semAt_some

set_option maxRecDepth 100000 in
set_option maxHeartbeats 16000000 in
theorem topRows_any (A : Option Addr) (c : Nat) (xs : List (List Int)) (p0 t0 c0 lo0 hi0 : Int) (w : World) (hR : RoundOk w) (hx : SixAt w (.slice A xs.length c) xs)
    (hp0 : -9223372036854775808 ≤ p0 ∧ p0 ≤ 9223372036854775807) (ht0 : -9223372036854775808 ≤ t0 ∧ t0 ≤ 9223372036854775807) (hc0 : -9223372036854775808 ≤ c0 ∧ c0 ≤ 9223372036854775807)
    (hlo0 : -9223372036854775808 ≤ lo0 ∧ lo0 ≤ 9223372036854775807) (hhi0 : -9223372036854775808 ≤ hi0 ∧ hi0 ≤ 9223372036854775807) :
    Calls Tryz.prog 3 #[.slice A xs.length c, .int .i64 p0, .int .i64 t0, .int .i64 c0, .int .i64 lo0, .int .i64 hi0] w fun e w' => e = .returned (.bool true) ∧ Below w.heap.size w w' := by
  obtain ⟨m, hm⟩ : ∃ m : Nat, m = min xs.length 16 := ⟨_, rfl⟩
  have hmin : min (xs.length : Int) 16 = (m : Int) := by omega
  have hs6 := hx.take (m := m) (by omega)
  have hml : (xs.take m).length = m := by rw [List.length_take]; omega
  have hlog := rlog_ok _ _ w hs6 (by omega)
  rw [hml] at hlog
  have hcap : xs.length ≤ c := by obtain ⟨A', c', e, h, -⟩ := hx; injection e with _ _ e3; omega
  have hm1 : m ≤ xs.length := by omega
  have z0 : (0 : Int) ≤ (m : Int) := by omega
  have z1 : (m : Int) ≤ (c : Int) := by omega
  have HLOG := Lib.hid hlog
  have HRW := Lib.hid hR
  have HPK := Lib.hid (And.intro hp0 (And.intro ht0 (And.intro hc0 (And.intro hlo0 hhi0))))
  clear hm hs6 hml hlog hR hp0 ht0 hc0 hlo0 hhi0
  go_enter Tryz.func3, Tryz.ntmps3
  go_wp2_with fail
  with_reducible refine (HLOG.out).mono ?_
  rintro e w1 ⟨v', ps, s, rfl, hZ, hps, hb1⟩
  obtain ⟨lA, lc, rfl, hlc⟩ := hZ.form
  obtain ⟨L, hL⟩ : ∃ L, L = ps.map (·.1) := ⟨_, rfl⟩
  have hrecs := hZ.recs
  have hrun := hZ.run
  have hLn : ps.length = L.length := by rw [hL, List.length_map]
  rw [← hL] at hrecs hrun
  rw [hLn] at hrecs hlc hps ⊢
  obtain ⟨n, hn⟩ : ∃ n, n = L.length := ⟨_, rfl⟩
  rw [← hn] at hrecs hlc hps ⊢
  have hst : ∀ i : Nat, ∃ s', runS st0 (L.take i) = some s' := fun i => runS_take hrun i
  have HST := Lib.hid hst
  have HRC := Lib.hid hrecs
  have HN := Lib.hid hn
  have HB1 := Lib.hid hb1
  have HR := Lib.hid (fun (W : World) (h : Below w1.heap.size w1 W) => (HRW.out.later hb1).later h)
  have HR1 := Lib.hid (HRW.out.later hb1)
  clear hLn hL hrun hrecs hst hZ hb1 hn HLOG HRW hmin hcap z0 z1 hm1 hx ps s
  go_wp2_with fail
  refine (sNew_ok w1).mono ?_
  rintro e w2 ⟨b, mm, rfl, hS, -, -, b2⟩
  go_wp2_with fail
  refine (sroot_ok hS st0_good (HR.out _ b2)).mono ?_
  rintro e w3 ⟨rfl, b3⟩
  go_wp2_with fail
  refine (new_ok (rootS st0.rows) w3 (rootS_len _)).mono ?_
  rintro e w4 ⟨bl, rfl, hlog, b4⟩
  have b13 := Below.next b2 b3
  have J0 : LJ w1 bl (newLg (rootS st0.rows)) w4 := ⟨hlog.tight.mono fun k hk => ⟨Nat.le_trans b13.size hk.1, hk.2⟩, Below.next b13 b4⟩
  have HJ0 := Lib.hid (And.intro (topLog0 L) J0)
  clear hS b2 b3 hlog b4 b13 J0 w2 w3
  go_wp2_with fail
  go_loopw [16] (fun iv wr => ∃ (i : Nat) (x : Lg), iv = .int .i64 i ∧ i ≤ n ∧ Hid (TopLog L i x ∧ LJ w1 bl x wr)) (fun iv _ => n - (intOf iv).toNat)
  case atStart => exact ⟨0, _, rfl, by omega, HJ0⟩
  case round =>
    clear HJ0 w4
    obtain ⟨i, x, rfl, hi, HJ⟩ := hrel
    by_cases h1 : i < n
    case pos =>
      have t1 : decide (i < n) = true := by simpa using h1
      obtain ⟨r, hr⟩ : ∃ r, L[i]? = some r := ⟨_, List.getElem?_eq_getElem (by rw [← HN.out]; exact h1)⟩
      obtain ⟨s', hs'⟩ := HST.out (i + 1)
      obtain ⟨gA, gO, cA, cc, rfl, hg, r0, r1, hch⟩ := HRC.out.at_ hr
      have hat := sAt_ok (.slice (some ⟨gA, gO, none⟩) n lc) L (i + 1) (by rw [← HN.out]; omega) (by rw [← HN.out]; omega) hs' wr (HRC.out.below HJ.out.2.2)
      rw [show ((i + 1 : Nat) : Int) = (i : Int) + 1 by omega] at hat
      have hstep := topLog_step HJ.out.1 hr hs'
      have hgd := (runS_good st0_good hs').1
      have q0 : (0 : Int) ≤ (i : Int) := by omega
      have q1 : (i : Int) < (n : Int) := by omega
      have HBOX := Lib.hid (fun (W : World) (hW : Below w1.heap.size w1 W) => (show (fun W => W.cell? ⟨gA, gO + i * 2, none⟩ = some (.int .i64 r.pos) ∧ W.cell? ⟨gA, gO + i * 2 + 1, none⟩ = some (.slice cA r.chs.length cc)) W from ⟨(hW.cell (p := ⟨gA, gO + i * 2, none⟩) hg).trans r0, (hW.cell (p := ⟨gA, gO + i * 2 + 1, none⟩) hg).trans r1⟩))
      have happ := fun W (hW : LJ w1 bl x W) => hW.app HJ.out.1.good HR1.out r.pos cA cc r.chs hch (rootS s'.rows)
      obtain ⟨rp, rc⟩ := r
      dsimp only at happ hstep
      rw [hstep.1] at happ
      have HAT := Lib.hid hat
      have HSTEP := Lib.hid hstep.2
      have HGD := Lib.hid hgd
      have HAPP := Lib.hid happ
      have HI := Lib.hid h1
      clear hr hs' r0 r1 hch hat hstep hgd happ h1
      dsimp only at HBOX HAPP
      go_wp2_with fail
      refine (HAT.out).mono ?_
      rintro e w5 ⟨bs, ms, rfl, hSt, -, -, b5⟩
      have Z := HJ.out.2.later b5
      clear b5 HAT t1
      go_wp2_with fail
      have HSD := Lib.hid (hSt.below (Below.drew (Below.refl _ _)))
      clear hSt
      replace Z := Z.later (Below.drew (Below.refl _ _))
      refine wp_region_noPanic ?_
      refine wp_region_ord (fun W => W.cell? ⟨gA, gO + i * 2, none⟩ = some (.int .i64 rp) ∧ W.cell? ⟨gA, gO + i * 2 + 1, none⟩ = some (.slice cA rc.length cc)) [(0, true), (1, true), (2, true), (3, false), (4, false), (5, false), (6, false), (7, false), (8, true), (9, true), (10, true), (11, true), (12, true)] (by kernel_rfl) (by as_aux_lemma => kernel_rfl) (by rfl) (by as_aux_lemma => kernel_rfl) (fun _ _ _ _ _ h => h) (HBOX.out _ Z.bel) (fun _ => ?_)
      repeat (first
        | (apply SeqO.take0
           case ho => exact rfl
           case hg => exact rfl
           case hy => (intro w hSw; (try dsimp only at hSw); go_simp; try with_reducible rfl)
           try simp only [Act.put, List.setIfInBounds_toArray, List.set_cons_zero, List.set_cons_succ])
        | (apply SeqO.takeG
           case ho => exact rfl
           case hg => exact rfl
           case hj => exact rfl
           case hd => exact rfl
           case ht => exact rfl
           case hy => (intro w hSw; (try dsimp only at hSw); go_simp; try with_reducible rfl)
           try simp only [Act.put, List.setIfInBounds_toArray, List.set_cons_zero, List.set_cons_succ])
        | (apply SeqO.skipG
           case ho => exact rfl
           case hg => exact rfl
           case hj => exact rfl
           case hd => exact rfl
           case ht => exact rfl
           case hne => exact rfl
           try simp only [Act.put, List.setIfInBounds_toArray, List.set_cons_zero, List.set_cons_succ])
        | (first
           | (apply SeqO.step0
              case ho => exact rfl
              case hg => exact rfl)
           | (apply SeqO.stepG
              case ho => exact rfl
              case hg => exact rfl
              case hj => exact rfl
              case hd => exact rfl
              case ht => exact rfl)
           intro K hK
           go_simp
           first
           | (go_at_call 6; (with_reducible refine (sroot_ok HSD.out HGD.out (HR.out _ Z.bel)).mono ?_); rintro e wx ⟨rfl, bx⟩; replace Z := Z.later bx; clear bx; go_wp2_with fail)
           | (go_at_call 9; (with_reducible refine (HAPP.out _ Z).mono ?_); rintro e wx ⟨rfl, Z2⟩; clear Z; have Z := Z2; clear Z2; go_wp2_with fail)
           | skip
           | fail
           refine hK.out _ _ ?_ (fun _ => ?_)
           · exact HBOX.out _ Z.bel
           clear hK K
           try simp only [Act.put, List.setIfInBounds_toArray, List.set_cons_zero, List.set_cons_succ]))
      refine SeqO.done ?_
      refine NoPanic.normal ?_
      go_wp2_with fail
      exact ⟨⟨i + 1, _, by go_num, HI.out, Lib.hid ⟨HSTEP.out, Z⟩⟩, by have := HI.out; simp [intOf]; omega⟩
    case neg =>
      have t1 : decide (i < n) = false := by simpa using h1
      obtain rfl : i = n := by omega
      obtain ⟨wl, hwl⟩ : ∃ W : World, W = wr := ⟨_, rfl⟩
      rw [← hwl] at HJ ⊢
      clear hwl wr h1 hi
      obtain ⟨P, hP⟩ : ∃ P : Nat, pickI p0 ((i : Int) + 1) = (P : Int) := ⟨(pickI p0 ((i : Int) + 1)).toNat, by have := pick_bounds p0 ((i : Int) + 1) (by omega); omega⟩
      have hPn : P ≤ i := by have := pick_bounds p0 ((i : Int) + 1) (by omega); omega
      obtain ⟨T, hT⟩ : ∃ T, T = pickI t0 4 := ⟨_, rfl⟩
      have hT1 := pick_bounds t0 4 (by omega)
      obtain ⟨C, hC⟩ : ∃ T, T = pickI c0 4 := ⟨_, rfl⟩
      have hC1 := pick_bounds c0 4 (by omega)
      obtain ⟨a, ha⟩ : ∃ T, T = pickI lo0 20 := ⟨_, rfl⟩
      have ha1 := pick_bounds lo0 20 (by omega)
      obtain ⟨d, hd⟩ : ∃ T, T = pickI hi0 20 := ⟨_, rfl⟩
      have hd1 := pick_bounds hi0 20 (by omega)
      rw [← hT] at hT1
      rw [← hC] at hC1
      rw [← ha] at ha1
      rw [← hd] at hd1
      have PK1 := fun W => pick_ok p0 ((i : Int) + 1) (by omega) (by omega) HPK.out.1 W
      have PK2 := fun W => pick_ok t0 4 (by omega) (by omega) HPK.out.2.1 W
      have PK3 := fun W => pick_ok c0 4 (by omega) (by omega) HPK.out.2.2.1 W
      have PK4 := fun W => pick_ok lo0 20 (by omega) (by omega) HPK.out.2.2.2.1 W
      have PK5 := fun W => pick_ok hi0 20 (by omega) (by omega) HPK.out.2.2.2.2 W
      rw [hP] at PK1
      rw [← hT] at PK2
      rw [← hC] at PK3
      rw [← ha] at PK4
      rw [← hd] at PK5
      have P1 := Lib.hid PK1
      have P2 := Lib.hid PK2
      have P3 := Lib.hid PK3
      have P4 := Lib.hid PK4
      have P5 := Lib.hid PK5
      obtain ⟨lo, hlo⟩ : ∃ lo, lo = a - 5 := ⟨_, rfl⟩
      obtain ⟨hi, hhi⟩ : ∃ hi, hi = lo + d := ⟨_, rfl⟩
      have e1 : IntKind.i64.wrap (a - 5) = lo := by rw [IntKind.wrap_i64]; omega
      have e2 : IntKind.i64.wrap (lo + d) = hi := by rw [IntKind.wrap_i64]; omega
      have HLH := Lib.hid (show lo ≤ hi by omega)
      have HTC := Lib.hid (And.intro hT1 hC1)
      have HAD := Lib.hid (And.intro ha1 (And.intro hd1 (And.intro hlo hhi)))
      -- the log's own answers
      have hts := HJ.out.1
      rw [HN.out] at hts
      obtain ⟨hh, s2, k1, k2, k3, k4, k5, k6, k7⟩ := hts.head (P := P) (by rw [← HN.out]; exact hPn)
      rw [← HN.out] at k6
      have hgood := HJ.out.1.good
      have hhead := fun W (hW : LJ w1 bl x W) => head_ok hW.1 (P : Int)
      simp only [k2] at hhead
      have hprove := fun W (hW : LJ w1 bl x W) => lprove_ok hW.1 hgood P k5 (HR.out W hW.2)
      have hroot := fun W (hW : LJ w1 bl x W) => lroot_ok hW.1 hgood (HR.out W hW.2)
      have hverify := fun W v (hW : LJ w1 bl x W) (hv : ListAt W v (proofL (leavesL x) P)) => lverify_ok (str (rootA x)) (i : Int) hh v (proofL (leavesL x) P) W hv k7 (HR.out W hW.2)
      simp only [k6] at hverify
      have hat := fun W (hW : LJ w1 bl x W) => sAt_ok (.slice lA i lc) L P (by rw [← HN.out]; exact hPn) (by rw [← HN.out]; omega) k3 W (HRC.out.below hW.2)
      have gd := (runS_good st0_good k3).1
      obtain ⟨M, hM⟩ : ∃ M, M = (proofL (leavesL x) P).length := ⟨_, rfl⟩
      rw [← hM] at hprove
      unfold hdV at hhead hverify
      have hst2 : hh.state = rootS s2.rows := k4
      obtain ⟨hpos, hch, hstt⟩ := hh
      dsimp only at hhead hverify hst2
      subst hst2
      have HH := Lib.hid hhead
      have HPR := Lib.hid hprove
      have HRT := Lib.hid hroot
      have HVF := Lib.hid hverify
      have HAT := Lib.hid hat
      have HGD := Lib.hid gd
      have ZL := HJ.out.2
      clear hhead hprove hroot hverify hat gd hM hts k1 k2 k3 k4 k5 k6 k7 hgood PK1 PK2 PK3 PK4 PK5 hP hT hC ha hd HPK hlo hhi hT1 hC1 ha1 hd1 HJ HST
      go_wp2_with fail
      refine (P1.out wl).mono ?_
      rintro e wa ⟨rfl, hwa⟩
      rw [hwa]
      clear hwa wa
      go_wp2_with fail
      refine (P2.out wl).mono ?_
      rintro e wa ⟨rfl, hwa⟩
      rw [hwa]
      clear hwa wa
      go_wp2_with fail
      refine (P3.out wl).mono ?_
      rintro e wa ⟨rfl, hwa⟩
      rw [hwa]
      clear hwa wa
      go_wp2_with fail
      refine (P4.out wl).mono ?_
      rintro e wa ⟨rfl, hwa⟩
      rw [hwa]
      clear hwa wa
      go_wp2_with fail
      refine (P5.out wl).mono ?_
      rintro e wa ⟨rfl, hwa⟩
      rw [hwa]
      clear hwa wa
      clear P1 P2 P3 P4 P5
      go_wp2_with fail
      refine (HH.out _ ZL).mono ?_
      rintro e w6 ⟨rfl, b6⟩
      have Z6 := ZL.later b6
      have a7 := Below.alloc1 w6 (.cells #[.int .i64 hpos, .string (str hch), .string (str (rootS s2.rows))] 40)
      have K7 := BlkIs.new w6 40 #[.int .i64 hpos, .string (str hch), .string (str (rootS s2.rows))]
      obtain ⟨w7, hw7⟩ : ∃ W, W = w6.alloc (.cells #[.int .i64 hpos, .string (str hch), .string (str (rootS s2.rows))] 40) := ⟨_, rfl⟩
      rw [← hw7] at a7 K7
      obtain ⟨HB, hHB⟩ : ∃ B, B = w6.heap.size := ⟨_, rfl⟩
      have Z7 := Z6.later a7
      clear b6 Z6 a7 ZL HH
      go_wp2_with fail
      rw [← hw7]
      refine (HPR.out _ Z7).mono ?_
      rintro e w8 ⟨pA, pc, rfl, hpl, b8⟩
      have Z8 := Z7.later b8
      have K8 := K7.later b8
      clear hw7 HPR b8 Z7 K7
      go_wp2_with fail
      refine (HAT.out _ Z8).mono ?_
      rintro e w9 ⟨bs, ms, rfl, hSt, -, -, b9⟩
      have Z9 := Z8.later b9
      have K9 := K8.later b9
      have hpl9 := hpl.below b9
      clear b9 hpl Z8 K8 HAT
      go_wp2_with fail
      have HBOX := Lib.hid (fun (W : World) (hW : Below w9.heap.size w9 W) => (show (fun W => W.cell? ⟨w6.heap.size, 0, none⟩ = some (.int .i64 hpos) ∧ W.cell? ⟨w6.heap.size, 1, none⟩ = some (.string (str hch)) ∧ W.cell? ⟨w6.heap.size, 2, none⟩ = some (.string (str (rootS s2.rows)))) W from ⟨(K9.later hW).cell 0, (K9.later hW).cell 1, (K9.later hW).cell 2⟩))
      have HK9 := Lib.hid K9
      have HS9 := Lib.hid hSt
      have ZB : Below w9.heap.size w9 w9.drew := Below.drew (Below.refl _ _)
      have Z := Z9.later ZB
      replace hpl9 := hpl9.below ZB
      clear K9 hSt Z9
      refine wp_region_noPanic ?_
      refine wp_region_ord (fun W => W.cell? ⟨w6.heap.size, 0, none⟩ = some (.int .i64 hpos) ∧ W.cell? ⟨w6.heap.size, 1, none⟩ = some (.string (str hch)) ∧ W.cell? ⟨w6.heap.size, 2, none⟩ = some (.string (str (rootS s2.rows)))) [(0, true), (1, true), (2, true), (3, true), (4, true), (5, true), (6, true), (7, true), (8, true), (9, true), (10, true), (11, false), (13, false), (14, false), (15, false), (16, false), (12, true), (17, true), (18, true), (19, true)] (by kernel_rfl) (by as_aux_lemma => kernel_rfl) (by rfl) (by as_aux_lemma => kernel_rfl) (fun _ _ _ _ _ h => h) (HBOX.out _ ZB) (fun _ => ?_)
      repeat (first
        | (apply SeqO.take0
           case ho => exact rfl
           case hg => exact rfl
           case hy => (intro w hSw; (try dsimp only at hSw); go_simp; try with_reducible rfl)
           try simp only [Act.put, List.setIfInBounds_toArray, List.set_cons_zero, List.set_cons_succ])
        | (apply SeqO.takeG
           case ho => exact rfl
           case hg => exact rfl
           case hj => exact rfl
           case hd => exact rfl
           case ht => exact rfl
           case hy => (intro w hSw; (try dsimp only at hSw); go_simp; try with_reducible rfl)
           try simp only [Act.put, List.setIfInBounds_toArray, List.set_cons_zero, List.set_cons_succ])
        | (apply SeqO.skipG
           case ho => exact rfl
           case hg => exact rfl
           case hj => exact rfl
           case hd => exact rfl
           case ht => exact rfl
           case hne => exact rfl
           try simp only [Act.put, List.setIfInBounds_toArray, List.set_cons_zero, List.set_cons_succ])
        | (first
           | (apply SeqO.step0
              case ho => exact rfl
              case hg => exact rfl)
           | (apply SeqO.stepG
              case ho => exact rfl
              case hg => exact rfl
              case hj => exact rfl
              case hd => exact rfl
              case ht => exact rfl)
           intro K hK
           go_simp
           first
           | (go_at_call 14; (with_reducible refine (HRT.out _ Z).mono ?_); rintro e wx ⟨rfl, bx⟩; replace Z := Z.later bx; replace hpl9 := hpl9.below bx; replace ZB := Below.next ZB bx; clear bx; go_wp2_with fail)
           | (go_at_call 13; (with_reducible refine (HVF.out _ _ Z hpl9).mono ?_); rintro e wx ⟨rfl, bx⟩; replace Z := Z.later bx; replace hpl9 := hpl9.below bx; replace ZB := Below.next ZB bx; clear bx; go_wp2_with fail)
           | skip
           | fail
           refine hK.out _ _ ?_ (fun _ => ?_)
           · exact HBOX.out _ ZB
           clear hK K
           try simp only [Act.put, List.setIfInBounds_toArray, List.set_cons_zero, List.set_cons_succ]))
      refine SeqO.done ?_
      refine NoPanic.normal ?_
      clear hpl9 HRT HVF
      obtain ⟨wb, hwb⟩ : ∃ W : World, W = wx := ⟨_, rfl⟩
      rw [← hwb] at Z ZB ⊢
      clear hwb
      have K := HK9.out.later ZB
      have S := HS9.out.below ZB
      clear HBOX HK9 HS9 ZB
      go_wp2_with fail
      have hcall := prove_ok bs ms s2 T C lo hi HTC.out.1.1 (by have := HTC.out; omega) HTC.out.2.1 (by have := HTC.out; omega) HLH.out wb S HGD.out (HR.out _ Z.bel)
      obtain ⟨N1, hN1⟩ : ∃ N, N = (tabS s2.rows T C).length := ⟨_, rfl⟩
      obtain ⟨F1, hF1⟩ : ∃ N, N = fromO (tabS s2.rows T C) C lo := ⟨_, rfl⟩
      have hcc := cut_complete HGD.out T C lo hi HLH.out
      have hcv := fun k x p => cut_ver HGD.out T C lo hi k x p
      have hcr := cut_rows HGD.out.sort T C lo hi HLH.out
      rw [← hN1, ← hF1] at hcall hcc
      rw [← hN1, ← hF1] at hcv
      obtain ⟨X, hX⟩ : ∃ X, X = cutO (tabS s2.rows T C) C lo hi := ⟨_, rfl⟩
      obtain ⟨PS, hPS⟩ : ∃ X, X = cutP s2.rows T C lo hi := ⟨_, rfl⟩
      have hps : PS.length = X.length := by rw [hPS, hX]; unfold cutP; simp
      rw [← hX, ← hPS] at hcall
      rw [← hX] at hcc hcr
      rw [← hX, ← hPS] at hcv
      have hx2 : (rangeS s2.rows T C lo hi).length ≤ 2000 := by
        rw [← hcr]
        exact Nat.le_trans (List.length_filter_le _ _) (by rw [hX]; unfold cutO; rw [List.length_drop, List.length_take]; have := tab_len s2 HGD.out T C; omega)
      have hdig : (sumsS s2.rows)[(4 * T + C).toNat]? = some (putL (N1 : Int) ++ rootL (entsS s2.rows T C)) := by
        rw [hN1]
        exact sumsS_get s2.rows HTC.out.1.1 (by have := HTC.out; omega) HTC.out.2.1 (by have := HTC.out; omega)
      have hzero : N1 = 0 → rootL [] = rootL (entsS s2.rows T C) := fun e => by
        rw [show entsS s2.rows T C = [] from List.eq_nil_of_length_eq_zero (by rw [entsS_len, ← hN1]; exact e)]
      have hsl : ∀ y ∈ sumsS s2.rows, y.length ≤ 900000 := by
        intro y hy
        unfold sumsS at hy
        obtain ⟨q, -, rfl⟩ := List.mem_map.1 hy
        rw [sumS_len]
        have := putL_len (((tabS s2.rows q.1 q.2).length : Nat) : Int)
        omega
      unfold pfV at hcall
      have HX := Lib.hid (And.intro hcc (And.intro hcv (And.intro hcr (And.intro hps (And.intro hx2 (And.intro hdig (And.intro hzero hsl)))))))
      have HS := Lib.hid S
      have HK := Lib.hid K
      clear hcc hcv hcr hps hx2 hdig hzero hsl hN1 hF1 hX hPS S K
      refine (hcall).mono ?_
      rintro e wd ⟨v1, v2, v3, rfl, hpf, hsm, bd⟩
      clear hcall
      have Zd := Z.later bd
      obtain ⟨A2, c2, rfl, -⟩ := hpf.pathsAt
      obtain ⟨A1, c1, rfl, -⟩ := hpf.rws.form
      obtain ⟨A3, c3, rfl, -, -, -⟩ := ownsRow_form hsm
      have af := Below.alloc1 wd (.cells #[.int .i64 T, .int .i64 C, .int .i64 lo, .int .i64 hi, .int .i64 (N1 : Int), .int .i64 (F1 : Int), .slice A1 X.length c1, .slice A2 PS.length c2, .slice A3 16 c3] 51)
      have Kf := BlkIs.new wd 51 #[.int .i64 T, .int .i64 C, .int .i64 lo, .int .i64 hi, .int .i64 (N1 : Int), .int .i64 (F1 : Int), .slice A1 X.length c1, .slice A2 PS.length c2, .slice A3 16 c3]
      obtain ⟨wf, hwf⟩ : ∃ W, W = wd.alloc (.cells #[.int .i64 T, .int .i64 C, .int .i64 lo, .int .i64 hi, .int .i64 (N1 : Int), .int .i64 (F1 : Int), .slice A1 X.length c1, .slice A2 PS.length c2, .slice A3 16 c3] 51) := ⟨_, rfl⟩
      rw [← hwf] at af Kf
      have HKf := Lib.hid (HK.out.later (Below.next bd af))
      have HSf := Lib.hid (HS.out.below (Below.next bd af))
      have HPf := Lib.hid (hpf.later af)
      have HMf := Lib.hid (ownsRow_later af hsm)
      have Zf := Zd.later af
      have f0 : wf.cell? ⟨wd.heap.size, 0, none⟩ = some (.int .i64 T) := Kf.cell 0
      have f1 : wf.cell? ⟨wd.heap.size, 1, none⟩ = some (.int .i64 C) := Kf.cell 1
      have f2 : wf.cell? ⟨wd.heap.size, 2, none⟩ = some (.int .i64 lo) := Kf.cell 2
      have f3 : wf.cell? ⟨wd.heap.size, 3, none⟩ = some (.int .i64 hi) := Kf.cell 3
      have f4 : wf.cell? ⟨wd.heap.size, 4, none⟩ = some (.int .i64 (N1 : Int)) := Kf.cell 4
      have f5 : wf.cell? ⟨wd.heap.size, 5, none⟩ = some (.int .i64 (F1 : Int)) := Kf.cell 5
      have f6 : wf.cell? ⟨wd.heap.size, 6, none⟩ = some (.slice A1 X.length c1) := Kf.cell 6
      have f7 : wf.cell? ⟨wd.heap.size, 7, none⟩ = some (.slice A2 PS.length c2) := Kf.cell 7
      have f8 : wf.cell? ⟨wd.heap.size, 8, none⟩ = some (.slice A3 16 c3) := Kf.cell 8
      clear hpf hsm bd Zd af HK HS Z
      rw [hwf] at f0 f1 f2 f3 f4 f5 f6 f7 f8
      go_wp2_with fail
      rw [← hwf]
      obtain ⟨hcc, hcv, hcr, hps, hx2, hdig, hzero, hsl⟩ := HX.out
      have hrows := rows_ok T C lo hi N1 F1 (.slice A1 X.length c1) (.slice A2 PS.length c2) (.slice A3 16 c3) X HTC.out.1.1 (by have := HTC.out; omega) HTC.out.2.1 (by have := HTC.out; omega) HLH.out wf HPf.out.rws ⟨_, _, _, rfl⟩ ⟨_, _, _, rfl⟩ hcc
      unfold pfV at hrows
      have hvf := fun W (hW : Below wf.heap.size wf W) => pverify_ok (rootS s2.rows) (rootL (entsS s2.rows T C)) T C lo hi N1 F1 (.slice A1 X.length c1) (.slice A2 PS.length c2) (.slice A3 16 c3) X PS (sumsS s2.rows) HTC.out.1.1 (by have := HTC.out; omega) HTC.out.2.1 (by have := HTC.out; omega) HLH.out W (HPf.out.later hW).rws (HPf.out.later hW).pathsAt (listAt_own' (ownsRow_later hW HMf.out) (sumsS_len s2.rows).symm) hcc hps (sumsS_len _) hsl (HR.out W (Zf.later hW).bel) rfl hdig (rootL_len _) hzero hcv
      unfold pfV at hvf
      have hrange := fun W (hW : Below wf.heap.size wf W) => range_ok bs ms s2 T C lo hi HTC.out.2.1 (by have := HTC.out; omega) W (HSf.out.below hW) HGD.out
      have hfil : X.filter (inQ C lo hi) = rangeS s2.rows T C lo hi := hcr
      rw [hfil] at hrows
      obtain ⟨RS, hRS⟩ : ∃ X, X = rangeS s2.rows T C lo hi := ⟨_, rfl⟩
      rw [← hRS] at hrows hx2
      simp only [← hRS] at hrange
      have HVF := Lib.hid hvf
      have HRG := Lib.hid hrange
      have HX2 := Lib.hid hx2
      clear hcc hcv hcr hps hx2 hdig hzero hsl hvf hrange hfil hRS HX f0 f1 f2 f3 f4 f5 f6 f7 f8 hwf
      refine (hrows).mono ?_
      rintro e wg ⟨vr, rfl, hown, bg⟩
      clear hrows
      have Kh := HKf.out.later bg
      have Kp := Kf.later bg
      have hrw := ownsRow_rws hown
      clear hown HPf HMf HKf HSf Kf
      have g2 : wg.cell? ⟨w6.heap.size, 2, none⟩ = some (.string (str (rootS s2.rows))) := Kh.cell 2
      have p0 : wg.cell? ⟨wd.heap.size, 0, none⟩ = some (.int .i64 T) := Kp.cell 0
      have p1 : wg.cell? ⟨wd.heap.size, 1, none⟩ = some (.int .i64 C) := Kp.cell 1
      have p2 : wg.cell? ⟨wd.heap.size, 2, none⟩ = some (.int .i64 lo) := Kp.cell 2
      have p3 : wg.cell? ⟨wd.heap.size, 3, none⟩ = some (.int .i64 hi) := Kp.cell 3
      have p4 : wg.cell? ⟨wd.heap.size, 4, none⟩ = some (.int .i64 (N1 : Int)) := Kp.cell 4
      have p5 : wg.cell? ⟨wd.heap.size, 5, none⟩ = some (.int .i64 (F1 : Int)) := Kp.cell 5
      have p6 : wg.cell? ⟨wd.heap.size, 6, none⟩ = some (.slice A1 X.length c1) := Kp.cell 6
      have p7 : wg.cell? ⟨wd.heap.size, 7, none⟩ = some (.slice A2 PS.length c2) := Kp.cell 7
      have p8 : wg.cell? ⟨wd.heap.size, 8, none⟩ = some (.slice A3 16 c3) := Kp.cell 8
      clear Kh Kp
      go_wp2_with fail
      refine (HVF.out _ bg).mono ?_
      rintro e wh ⟨rfl, bh⟩
      have bgh := Below.next bg bh
      clear g2 p0 p1 p2 p3 p4 p5 p6 p7 p8
      go_wp2_with fail
      refine (HRG.out _ bgh).mono ?_
      rintro e wi ⟨vq, rfl, hown2, bi⟩
      go_wp2_with fail
      refine (same_rows_ok vr vq RS wi HX2.out (hrw.below (Below.next bh bi)) (ownsRow_rws hown2)).mono ?_
      rintro e wj ⟨rfl, bj⟩
      have HE := Lib.hid (Below.next HB1.out (Zf.later (Below.next bgh (Below.next bi bj))).bel)
      clear hown2 hrw bi bj bh bgh bg Zf
      go_wp2_with fail
      go_ret
      exact ⟨rfl, HE.out⟩
end Go.Proofs.YtgbemgndbemllaaGreatDoor
