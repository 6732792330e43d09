/- The walk of LogtreeOwns (written by wip/mk_l09o.py). -/
import Derived.Test.YtheebajklnljdaaDoorQRcB
import Derived.Test.YtheebajklnljdaaDoorQOwB
import Derived.Test.YtheebajklnljdaaDoorQSeqP
import Derived.Test.YtheebajklnljdaaDoorQL09G
namespace Go.Proofs.YtheebajklnljdaaDoor
open Go Go.RowKit
attribute [local go_sem] Oper.semAt_some

set_option maxRecDepth 100000 in
set_option maxHeartbeats 2000000 in
theorem owns_any (v : Value) (p : Int) (A : Option Addr) (c : Nat) (l : List Chg) (w : World) (hR : RoundOk w) (hv : IntRows w v) (hl : ChgsAt w (.slice A l.length c) l) (hA : A = none → c = 0) (hcm : c ≤ maxLen) :
    Calls Tryd.prog 4 #[v, recV p (.slice A l.length c)] w fun e w' => e = .returned (.bool true) ∧ Below w.heap.size w w' := by
  unfold recV
  have al0 := Below.alloc1 w (.cells #[.int .i64 p, .slice A l.length c] 34)
  have K0 := BlkIs.new w 34 #[.int .i64 p, .slice A l.length c]
  have hs0 : w.heap.size < (w.alloc (.cells #[.int .i64 p, .slice A l.length c] 34)).heap.size := by rw [World.size_alloc]; omega
  have HAL := Lib.hid al0
  have HK := Lib.hid K0
  have HV := Lib.hid (hv.below al0)
  have HLB := Lib.hid hl
  have HR := Lib.hid hR
  clear al0 K0 hv hl hR
  go_enter Tryd.func4, Tryd.ntmps4
  go_wp2_with fail
  generalize w.alloc (.cells #[.int .i64 p, .slice A l.length c] 34) = w0 at *
  refine (sane_ok w0 (HR.out.later HAL.out)).mono ?_
  rintro e w1 ⟨rfl, b1⟩
  go_wp2_with fail
  refine (records_ok v w1 (HV.out.below b1)).mono ?_
  rintro e w2 ⟨v', ps, rfl, hro, hn12, b2⟩
  have hb1 := Below.next HAL.out b1
  have hb2 := Below.next hb1 b2
  have k2 := (HK.out.later b1).later b2
  obtain ⟨A1, c1, rfl, hc1⟩ := hro.form
  have hok := hro.ok
  have hrs := hro.recs
  have hrow := hro.row
  have hch := hro.chs
  have hap := hro.apart
  obtain ⟨rs, hrse⟩ : ∃ rs, rs = ps.map (·.1) := ⟨_, rfl⟩
  have hrl : rs.length = ps.length := by rw [hrse, List.length_map]
  have hrk : ∀ (k : Nat) (q : Rec × Value), ps[k]? = some q → rs[k]? = some q.1 := fun k q h => by rw [hrse, List.getElem?_map, h]; rfl
  rw [← hrse] at hok hrs
  have hlg := logged_ok A1 c1 rs w2 (by rw [hrl]; exact hrs) hok (by omega) (HR.out.later hb2)
  rw [hrl] at hlg
  obtain ⟨gx, rx, -⟩ := logN_spec hok ps.length (by omega)
  have hsz := b1.size
  have hsz2 := b2.size
  have HLG := Lib.hid hlg
  have HGO := Lib.hid hro.good
  clear hlg hrs hrse hro
  go_wp2_with fail
  refine (HLG.out).mono ?_
  rintro e w3 ⟨b, rfl, J3⟩
  obtain ⟨x, hx⟩ : ∃ x, x = logN rs ps.length := ⟨_, rfl⟩
  rw [← hx] at J3 gx rx
  rw [List.take_of_length_le (by omega)] at rx
  have J : OwnJ w w1 w2 w3 b x (.slice A1 ps.length c1) ps [.int .i64 p, .slice A l.length c] 0 w3 :=
    ⟨k2.later J3.2, J3.1, ownsRow_later J3.2 hrow, fun g hg => (hrow.lt g hg).2, fun j q _ hq => ownsRow_later J3.2 (hch q (List.mem_of_getElem? hq)), fun q hq g hg => ((hch q hq).lt g hg).2, hap, Below.next hb2 J3.2, by omega, hsz2, J3.2.size, Nat.le_refl _⟩
  have hrecs : ∀ (k : Nat) (q : Rec × Value), ps[k]? = some q → x.recs[k]? = some q.1 := fun k q h => by rw [rx]; exact hrk k q h
  have HREC := Lib.hid hrecs
  have hxl : x.recs.length = ps.length := by rw [rx, hrl]
  have HXL := Lib.hid hxl
  have GX := Lib.hid gx
  clear J3 hx rx hrecs hrk hrl hok hch hap hrow hb1 hb2 k2 hsz hsz2 b1 b2 HLG gx hs0 hxl
  go_wp2_with fail
  refine (lroot_ok J.log GX.out (HR.out.later J.bel)).mono ?_
  rintro e w4 ⟨rfl, b4⟩
  replace J := J.later b4
  clear b4
  go_wp2_with fail
  go_loopw [9] (fun iv wr => ∃ k : Nat, k ≤ ps.length ∧ iv = .int .i64 k ∧ OwnJ w w1 w2 w3 b x (.slice A1 ps.length c1) ps [.int .i64 p, .slice A l.length c] k wr) (fun iv _ => ps.length - (intOf iv).toNat)
  case atStart => exact ⟨0, by omega, rfl, J⟩
  case round =>
    clear J
    obtain ⟨k, hk, rfl, J⟩ := hrel
    by_cases h1 : k < ps.length
    · have t1 : decide (k < ps.length) = true := by simpa using h1
      obtain ⟨q, hq⟩ : ∃ q, ps[k]? = some q := ⟨_, List.getElem?_eq_getElem h1⟩
      obtain ⟨gd, gp⟩ := HGO.out k q hq
      have hre := HREC.out k q hq
      have hrok := record_ok J.log GX.out k q.1 hre
      obtain ⟨p1, p2, l1, l8⟩ := recB_pos gd
      obtain ⟨⟨rp, ch⟩, cv⟩ := q
      dsimp only at hrok gd gp p1 p2 l1 l8
      unfold recV at hrok
      have hqr : IntKind.i64.wrap ((k : Int) + 1) = (k : Int) + 1 := by rw [IntKind.wrap_i64]; omega
      have q0 : (0 : Int) ≤ (k : Int) := by omega
      have q1 : (k : Int) < (ps.length : Int) := by omega
      have HRO := Lib.hid hrok
      have HQ := Lib.hid hq
      clear hrok hre hq gp
      go_wp2_with fail
      refine (HRO.out).mono ?_
      rintro e w5 ⟨gy, cy, rfl, own5, b5⟩
      have al5 := Below.alloc1 w5 (.cells #[.int .i64 rp, .slice (some ⟨gy, 0, none⟩) ch.length cy] 34)
      have K5 := BlkIs.new w5 34 #[.int .i64 rp, .slice (some ⟨gy, 0, none⟩) ch.length cy]
      have b6 := Below.next b5 al5
      have hle4 := J.le4
      replace J := J.later b6
      have hgy := (own5.lt gy rfl).1
      have own6 := ownsRow_later al5 own5
      have hle3 : w3.heap.size ≤ gy := Nat.le_trans hle4 hgy
      obtain ⟨cc, hcc⟩ : ∃ cc, ch[0]? = some cc := ⟨_, List.getElem?_eq_getElem l1⟩
      obtain ⟨G, cG, csG, eG, -, BG, -, -, hG⟩ := ownsRow_whole J.row (by omega)
      injection eG with e1 _ e3
      subst e1 e3
      obtain ⟨gk, ck, csk, ek, -, Bk, -, -, hkc⟩ := ownsRow_whole (J.chs k _ (Nat.le_refl _) HQ.out) l1
      dsimp only at ek
      subst ek
      have y0 : (w5.alloc (.cells #[.int .i64 rp, .slice (some ⟨gy, 0, none⟩) ch.length cy] 34)).cell? ⟨w5.heap.size, 0, none⟩ = some (.int .i64 rp) := K5.cell 0
      have y1 : (w5.alloc (.cells #[.int .i64 rp, .slice (some ⟨gy, 0, none⟩) ch.length cy] 34)).cell? ⟨w5.heap.size, 1, none⟩ = some (.slice (some ⟨gy, 0, none⟩) ch.length cy) := K5.cell 1
      have y2 : (w5.alloc (.cells #[.int .i64 rp, .slice (some ⟨gy, 0, none⟩) ch.length cy] 34)).cell? ⟨G, k * 2, none⟩ = some (.int .i64 rp) := (BG.cell _).trans (hG _ _ (flat_get recCells 2 recCells_len ps k 0 _ _ HQ.out rfl))
      have y3 : (w5.alloc (.cells #[.int .i64 rp, .slice (some ⟨gy, 0, none⟩) ch.length cy] 34)).cell? ⟨G, k * 2 + 1, none⟩ = some (.slice (some ⟨gk, 0, none⟩) ch.length ck) := (BG.cell _).trans (hG _ _ (flat_get recCells 2 recCells_len ps k 1 _ _ HQ.out rfl))
      have ny : ChgsAt (w5.alloc (.cells #[.int .i64 rp, .slice (some ⟨gy, 0, none⟩) ch.length cy] 34)) (.slice (some ⟨gy, 0, none⟩) ch.length cy) ch := ChgsOwn.chgs (S := fun _ => True) ⟨ownsRow_base0 own6, fun _ _ => trivial⟩
      have nk : ChgsAt (w5.alloc (.cells #[.int .i64 rp, .slice (some ⟨gy, 0, none⟩) ch.length cy] 34)) (.slice (some ⟨gk, 0, none⟩) ch.length ck) ch := ChgsOwn.chgs (S := fun _ => True) ⟨ownsRow_base0 (J.chs k _ (Nat.le_refl _) HQ.out), fun _ _ => trivial⟩
      have hle6 := J.le4
      clear BG hG Bk hkc K5 al5 b6 own5 b5 csG csk
      go_wp2_with fail
      generalize (w5.alloc (.cells #[.int .i64 rp, .slice (some ⟨gy, 0, none⟩) ch.length cy] 34)) = w6 at *
      have bd : Below w6.heap.size w6 w6.drew := Below.drew (Below.refl _ _)
      have hsame := same_ok rp rp (some ⟨gy, 0, none⟩) (some ⟨gk, 0, none⟩) cy ck ch ch w6.drew (ny.below bd) (nk.below bd) (by omega)
      rw [decide_eq_true (show rp = rp ∧ ch = ch from ⟨rfl, rfl⟩)] at hsame
      unfold recV at hsame
      have SAME := Lib.hid hsame
      clear hsame ny nk
      go_region_held3 (fun W => W.cell? ⟨w5.heap.size, 0, none⟩ = some (.int .i64 rp) ∧ W.cell? ⟨w5.heap.size, 1, none⟩ = some (.slice (some ⟨gy, 0, none⟩) ch.length cy) ∧ W.cell? ⟨G, k * 2, none⟩ = some (.int .i64 rp) ∧ W.cell? ⟨G, k * 2 + 1, none⟩ = some (.slice (some ⟨gk, 0, none⟩) ch.length ck)) (refine ⟨?_, ?_, ?_, ?_⟩ <;> assumption)
        (first
          | (go_at_call 13; (with_reducible refine (SAME.out).mono ?_); rintro e w7 ⟨rfl, b7⟩; have z0 := (b7.cell (block_of_cell y0)).trans y0; have z1 := (b7.cell (block_of_cell y1)).trans y1; have z2 := (b7.cell (block_of_cell y2)).trans y2; have z3 := (b7.cell (block_of_cell y3)).trans y3)
          | fail)
      have b7' := Below.next bd b7
      replace J := J.later b7'
      have own7 := ownsRow_later b7' own6
      obtain ⟨gy', cy', csy, ey, -, By, -, -, hyc⟩ := ownsRow_whole own7 l1
      injection ey with e1 _ e3
      injection e1 with e1
      injection e1 with e1
      subst e1 e3
      have k0 : w7.cell? ⟨gy, 1, none⟩ = some (.int .i64 cc.key) := (By.cell 1).trans (hyc _ _ (flat_get chgCells 10 chgCells_len ch 0 1 cc _ hcc rfl))
      have f0 := By.frozen 1
      replace J := J.wrote (q := ⟨gy, 1, none⟩) hle3 (.int .i64 (IntKind.i64.wrap (cc.key + 1)))
      have hkey : cc.key ≤ 1000000 ∧ 1 ≤ cc.key := by
        unfold recB at gd
        simp only [Bool.and_eq_true] at gd
        have ha := gd.2
        cases ch with
        | nil => simp at hcc
        | cons d l2 =>
          simp only [List.getElem?_cons_zero, Option.some.injEq] at hcc
          subst hcc
          rw [ascB_step] at ha
          simp only [Bool.and_eq_true] at ha
          exact ⟨chgB_key ha.1.1, (chgB_pos ha.1.1).2⟩
      have hwk : IntKind.i64.wrap (cc.key + 1) = cc.key + 1 := by rw [IntKind.wrap_i64]; omega
      rw [hwk] at J
      obtain ⟨G', cG', csG, eG, -, BG, -, -, hG⟩ := ownsRow_whole J.row (by omega)
      injection eG with e1 _ e3
      injection e1 with e1
      injection e1 with e1
      subst e1 e3
      obtain ⟨gk', ck', csk, ek, hgk, Bk, -, eb, hkc⟩ := ownsRow_whole (J.chs k _ (Nat.le_refl _) HQ.out) l1
      injection ek with e1 _ e3
      injection e1 with e1
      injection e1 with e1
      subst e1 e3
      have x3 : (w7.setCell ⟨gy, 1, none⟩ (.int .i64 (cc.key + 1))).cell? ⟨G, k * 2 + 1, none⟩ = some (.slice (some ⟨gk, 0, none⟩) ch.length ck) := (BG.cell _).trans (hG _ _ (flat_get recCells 2 recCells_len ps k 1 _ _ HQ.out rfl))
      have x4 : (w7.setCell ⟨gy, 1, none⟩ (.int .i64 (cc.key + 1))).cell? ⟨gk, 0, none⟩ = some (.int .i64 cc.table) := (Bk.cell 0).trans (hkc _ _ (flat_get chgCells 10 chgCells_len ch 0 0 cc _ hcc rfl))
      have f4 := Bk.frozen 0
      have J9 := J.next HQ.out (q := ⟨gk, 0, none⟩) eb hgk (.int .i64 9)
      have JH := Lib.hid J9
      have q5 : (0 : Int) < (ch.length : Int) := by omega
      clear J J9 BG hG Bk hkc By hyc own6 own7 b7 b7' bd y0 y1 y2 y3 z0 z2 z3 gd hcc eb SAME
      go_wp2_with fail
      exact ⟨⟨k + 1, by omega, by go_num, JH.out⟩, by simp [intOf]; omega⟩
    · have t1 : decide (k < ps.length) = false := by simpa using h1
      have L := J.log
      have K3 := J.box
      have hb := J.bel
      have j1 := J.le1
      have j2 := J.le2
      have j3 := J.le3
      have j4 := J.le4
      clear J h1 hk
      go_wp2_with fail
      obtain ⟨wa, hwa⟩ : ∃ W, W = wr := ⟨_, rfl⟩
      rw [← hwa] at L K3 hb j4 ⊢
      clear hwa wr
      go_loopw [12] (fun iv wr => ∃ k : Nat, k ≤ ps.length ∧ iv = .int .i64 k ∧ BlkIs wr w.heap.size 34 [.int .i64 p, .slice A l.length c] ∧ LogAt wr (fun j => w2.heap.size ≤ j ∧ j < w3.heap.size) b x ∧ Below w.heap.size w wr ∧ w3.heap.size ≤ wr.heap.size) (fun iv _ => ps.length - (intOf iv).toNat)
      case atStart => exact ⟨0, by omega, rfl, K3, L, hb, j4⟩
      case round =>
        clear K3 L hb j4
        obtain ⟨k, hk, rfl, K3, L, hb, j4⟩ := hrel
        by_cases h1 : k < ps.length
        · have t1 : decide (k < ps.length) = true := by simpa using h1
          obtain ⟨q, hq⟩ : ∃ q, ps[k]? = some q := ⟨_, List.getElem?_eq_getElem h1⟩
          obtain ⟨gd, gp⟩ := HGO.out k q hq
          have hre := HREC.out k q hq
          have hrok := record_ok L GX.out k q.1 hre
          obtain ⟨p1, p2, l1, l8⟩ := recB_pos gd
          obtain ⟨⟨rp, ch⟩, cv⟩ := q
          dsimp only at hrok gd gp p1 p2 l1 l8
          unfold recV at hrok
          have hqr : IntKind.i64.wrap ((k : Int) + 1) = (k : Int) + 1 := by rw [IntKind.wrap_i64]; omega
          have q0 : (0 : Int) ≤ (k : Int) := by omega
          have q1 : (k : Int) < (ps.length : Int) := by omega
          have HRO := Lib.hid hrok
          clear hrok hre hq gp
          go_wp2_with fail
          refine (HRO.out).mono ?_
          rintro e w5 ⟨gy, cy, rfl, own5, b5⟩
          have al5 := Below.alloc1 w5 (.cells #[.int .i64 rp, .slice (some ⟨gy, 0, none⟩) ch.length cy] 34)
          have K5 := BlkIs.new w5 34 #[.int .i64 rp, .slice (some ⟨gy, 0, none⟩) ch.length cy]
          have b6 := Below.next b5 al5
          have own6 := ownsRow_later al5 own5
          obtain ⟨cc, hcc⟩ : ∃ cc, ch[0]? = some cc := ⟨_, List.getElem?_eq_getElem l1⟩
          obtain ⟨gy', cy', csy, ey, -, By, -, -, hyc⟩ := ownsRow_whole own6 l1
          injection ey with e1 _ e3
          injection e1 with e1
          injection e1 with e1
          subst e1 e3
          have y0 : (w5.alloc (.cells #[.int .i64 rp, .slice (some ⟨gy, 0, none⟩) ch.length cy] 34)).cell? ⟨w5.heap.size, 0, none⟩ = some (.int .i64 rp) := K5.cell 0
          have y1 : (w5.alloc (.cells #[.int .i64 rp, .slice (some ⟨gy, 0, none⟩) ch.length cy] 34)).cell? ⟨w5.heap.size, 1, none⟩ = some (.slice (some ⟨gy, 0, none⟩) ch.length cy) := K5.cell 1
          have y2 : (w5.alloc (.cells #[.int .i64 rp, .slice (some ⟨gy, 0, none⟩) ch.length cy] 34)).cell? ⟨gy, 0, none⟩ = some (.int .i64 cc.table) := (By.cell 0).trans (hyc _ _ (flat_get chgCells 10 chgCells_len ch 0 0 cc _ hcc rfl))
          have ny : ChgsAt (w5.alloc (.cells #[.int .i64 rp, .slice (some ⟨gy, 0, none⟩) ch.length cy] 34)) (.slice (some ⟨gy, 0, none⟩) ch.length cy) ch := ChgsOwn.chgs (S := fun _ => True) ⟨ownsRow_base0 own6, fun _ _ => trivial⟩
          have hrr := rrec_ok rp (some ⟨gy, 0, none⟩) cy ch _ ny
          rw [gd] at hrr
          unfold recV at hrr
          have htab : cc.table ≤ 3 := by
            unfold recB at gd
            simp only [Bool.and_eq_true] at gd
            have ha := gd.2
            cases ch with
            | nil => simp at hcc
            | cons d l2 =>
              simp only [List.getElem?_cons_zero, Option.some.injEq] at hcc
              subst hcc
              rw [ascB_step] at ha
              simp only [Bool.and_eq_true] at ha
              exact chgB_table ha.1.1
          have t5 : decide (3 < cc.table) = false := by simp; omega
          have q5 : (0 : Int) < (ch.length : Int) := by omega
          have HRR := Lib.hid hrr
          have K6 := Lib.hid (K3.later b6)
          have L6 := Lib.hid (L.below b6)
          have B6 := Lib.hid (Below.next hb b6)
          have hb6s := b6.size
          clear hrr ny own6 own5 By hyc K5 al5 b6 b5 hcc gd htab K3 L hb
          go_wp2_with fail
          generalize (w5.alloc (.cells #[.int .i64 rp, .slice (some ⟨gy, 0, none⟩) ch.length cy] 34)) = w6 at *
          refine (HRR.out).mono ?_
          rintro e w7 ⟨rfl, b7⟩
          have K7 := K6.out.later b7
          have L7 := L6.out.below b7
          have B7 := Below.next B6.out b7
          have b7s := b7.size
          clear b7 y0 y1 y2
          go_wp2_with fail
          exact ⟨⟨k + 1, by omega, by go_num, K7, L7, B7, by omega⟩, by simp [intOf]; omega⟩
        have t1 : decide (k < ps.length) = false := by simpa using h1
        have c0 : wr.cell? ⟨w.heap.size, 0, none⟩ = some (.int .i64 p) := K3.cell 0
        have c1' : wr.cell? ⟨w.heap.size, 1, none⟩ = some (.slice A l.length c) := K3.cell 1
        have hcut := cut_ok p A c l wr (HLB.out.below hb) hA hcm
        unfold recV at hcut
        obtain ⟨l', hl'⟩ : ∃ l', l' = l.take 10 := ⟨_, rfl⟩
        have hl10 : l'.length ≤ 10 := by rw [hl', List.length_take]; omega
        rw [← hl'] at hcut
        have HCUT := Lib.hid hcut
        clear hcut hl' h1 hk
        go_wp2_with fail
        refine (HCUT.out).mono ?_
        rintro e w8 ⟨A', c', rfl, own8, b8⟩
        have K8 := K3.later b8
        have L8 := L.below b8
        have hb8 := Below.next hb b8
        have d0 : w8.cell? ⟨w.heap.size, 0, none⟩ = some (.int .i64 p) := K8.cell 0
        have d1 : w8.cell? ⟨w.heap.size, 1, none⟩ = some (.slice A l.length c) := K8.cell 1
        have f0 := K8.frozen 0
        have f1 := K8.frozen 1
        have hO : Only (fun j => j = w.heap.size) w8 ((w8.setCell ⟨w.heap.size, 0, none⟩ (.int .i64 p)).setCell ⟨w.heap.size, 1, none⟩ (.slice A' l'.length c')) := by
          refine Only.trans (Only.setCell (S := fun j => j = w.heap.size) w8 ⟨w.heap.size, 0, none⟩ _ ?_) (Only.setCell (S := fun j => j = w.heap.size) _ ⟨w.heap.size, 1, none⟩ _ ?_) <;> rfl
        have K9 := (K8.set 0 (.int .i64 p)).set 1 (.slice A' l'.length c')
        have L9 := L8.same (.of_only hO fun j hj e => by omega)
        have own9 := own8.kept (grown_of_only hO) (.inr fun e => by have := (own8.lt _ e).1; have := hb.size; have := K3.lt; omega)
        have hb9 := hb8.trans (hO.below (fun j hj => by omega) hb8.size)
        have ny : ChgsAt ((w8.setCell ⟨w.heap.size, 0, none⟩ (.int .i64 p)).setCell ⟨w.heap.size, 1, none⟩ (.slice A' l'.length c')) (.slice A' l'.length c') l' := ChgsOwn.chgs (S := fun _ => True) ⟨ownsRow_base0 own9, fun _ _ => trivial⟩
        have hA9 := ownsRow_ad own9
        have hsz9 := hO.size
        have hbs := hb.size
        have k3l := K3.lt
        have hsz8 := b8.size
        have NY := Lib.hid ny
        have HK9 := Lib.hid K9
        have HL9 := Lib.hid L9
        have HB9 := Lib.hid hb9
        clear own8 own9 K8 L8 hb8 hO K9 L9 hb9 ny K3 L hb c0 c1' b8 HCUT
        go_wp2_with fail
        generalize (w8.setCell ⟨w.heap.size, 0, none⟩ (.int .i64 p)).setCell ⟨w.heap.size, 1, none⟩ (.slice A' l'.length c') = w9 at *
        clear d0 d1 f0 f1
        have Z : OwnZ w b x [.int .i64 p, .slice A' l'.length c'] A' c' l' w9 :=
          ⟨HK9.out, NY.out, fun ad e => (hA9 ad e).2, ⟨_, fun k hk => ⟨by omega, by omega, fun ad e => by have := (hA9 ad e).1; omega⟩, HL9.out⟩, HB9.out⟩
        clear hA9 HK9 NY HL9 HB9 hsz8 hsz9 hbs k3l j4
        obtain ⟨R, hRe⟩ : ∃ y, recB ⟨p, l'⟩ = y := ⟨_, rfl⟩
        have hrr := rrec_ok p A' c' l' w9 Z.chs
        rw [hRe] at hrr
        unfold recV at hrr
        have HRR := Lib.hid hrr
        clear hrr
        refine (HRR.out).mono ?_
        rintro e wb ⟨rfl, bb⟩
        replace Z := Z.later bb
        clear bb HRR
        have c0 : wb.cell? ⟨w.heap.size, 0, none⟩ = some (.int .i64 p) := Z.box.cell 0
        have hcase : (R = true ∧ p = (ps.length : Int) + 1 ∧ (appA x ⟨p, l'⟩ (stL 5)).2 = 0) ∨ ((R = false ∨ R = true ∧ (p == (ps.length : Int) + 1) = false) ∧ appA x ⟨p, l'⟩ (stL 5) = (x, 90)) := by
          rcases appA_cases GX.out ⟨p, l'⟩ (stL 5) with ⟨g1, _, g3, _, g5⟩ | ⟨g1, _, g5⟩
          · exact .inl ⟨by rw [← hRe]; exact g1, by rw [← HXL.out]; exact g3, by rw [g5]⟩
          · refine .inr ⟨?_, g5⟩
            rw [HXL.out, hRe] at g1
            cases R
            · exact .inl rfl
            · refine .inr ⟨rfl, ?_⟩
              simp only [beq_eq_false_iff_ne, ne_eq]
              exact fun e => g1 ⟨rfl, stL_len _, e⟩
        have HCASE := Lib.hid hcase
        clear hcase hRe
        have hbox : ∀ (y : Lg) (W : World), OwnZ w b y [.int .i64 p, .slice A' l'.length c'] A' c' l' W → W.cell? ⟨w.heap.size, 0, none⟩ = some (.int .i64 p) ∧ W.cell? ⟨w.heap.size, 1, none⟩ = some (.slice A' l'.length c') := fun y W h => ⟨h.box.cell 0, h.box.cell 1⟩
        have croot : ∀ (y : Lg), Good y → ∀ W, OwnZ w b y [.int .i64 p, .slice A' l'.length c'] A' c' l' W → Calls Tryd.prog 11 #[.pointer (some ⟨b, 0, none⟩)] W fun e w' => e = .returned (.string (str (rootA y))) ∧ OwnZ w b y [.int .i64 p, .slice A' l'.length c'] A' c' l' w' := fun y gy W h => h.root gy HR.out
        have capp : ∀ (y : Lg), Good y → ∀ (st : List UInt8) W, OwnZ w b y [.int .i64 p, .slice A' l'.length c'] A' c' l' W → Calls Tryd.prog 16 #[.pointer (some ⟨b, 0, none⟩), .agg #[.int .i64 p, .slice A' l'.length c'], .string (str st)] W fun e w' => e = .returned (.int .i64 (appA y ⟨p, l'⟩ st).2) ∧ OwnZ w b (appA y ⟨p, l'⟩ st).1 [.int .i64 p, .slice A' l'.length c'] A' c' l' w' := fun y gy st W h => h.app gy HR.out p st
        have cst : ∀ (y : Lg) (n : Int) W, OwnZ w b y [.int .i64 p, .slice A' l'.length c'] A' c' l' W → Calls Tryd.prog 17 #[.int .i64 n] W fun e w' => e = .returned (.string (str (stL n))) ∧ OwnZ w b y [.int .i64 p, .slice A' l'.length c'] A' c' l' w' := fun y n W h => (state_ok n W).mono fun e w' ⟨he, hb⟩ => ⟨he, h.later hb⟩
        have HBOX := Lib.hid hbox
        have CROOT := Lib.hid croot
        have CAPP := Lib.hid capp
        have CST := Lib.hid cst
        clear hbox croot capp cst
        rcases HCASE.out with ⟨rfl, hp, he0⟩ | ⟨hbad, hx0⟩
        · have hpp : (p == (ps.length : Int) + 1) = true := by rw [hp]; simp
          have HP := Lib.hid hp
          have HE0 := Lib.hid he0
          clear hp he0
          go_wp2_with fail
          obtain ⟨y, hy⟩ : ∃ y, y = (appA x ⟨p, l'⟩ (stL 5)).1 := ⟨_, rfl⟩
          have gy : Good y := by rw [hy]; exact appA_good GX.out _ _
          have ca := fun W h => CAPP.out x GX.out (stL 5) W h
          rw [HE0.out, ← hy] at ca
          have CA := Lib.hid ca
          have CR := Lib.hid (fun W h => CROOT.out x GX.out W h)
          have CS5 := Lib.hid (fun W h => CST.out x 5 W h)
          have GY := Lib.hid gy
          clear ca hy gy
          replace Z := Z.later (Below.drew (Below.refl _ _))
          refine wp_region_noPanic ?_
          refine wp_region_ord (fun W => W.cell? ⟨w.heap.size, 0, none⟩ = some (.int .i64 p) ∧ W.cell? ⟨w.heap.size, 1, none⟩ = some (.slice A' l'.length c')) [(0, false), (2, false), (1, true), (3, true), (4, true), (5, false), (6, false), (10, false), (7, true), (8, true), (9, true), (11, true), (12, true), (13, true), (14, true), (15, true), (16, true), (17, false), (19, false), (18, true), (20, true), (21, true), (22, true)] (by kernel_rfl) (by as_aux_lemma => kernel_rfl) (by rfl) (by as_aux_lemma => kernel_rfl) (fun _ _ _ _ _ h => h) (HBOX.out _ _ Z) (fun _ => ?_)
          repeat (first
            | (apply SeqO.take0
               case ho => exact rfl
               case hg => exact rfl
               case hy => (intro w hSw; (try dsimp only at hSw); go_simp; try with_reducible rfl)
               try simp only [Act.put, List.setIfInBounds_toArray, List.set_cons_zero, List.set_cons_succ])
            | (apply SeqO.takeG
               case ho => exact rfl
               case hg => exact rfl
               case hj => exact rfl
               case hd => exact rfl
               case ht => exact rfl
               case hy => (intro w hSw; (try dsimp only at hSw); go_simp; try with_reducible rfl)
               try simp only [Act.put, List.setIfInBounds_toArray, List.set_cons_zero, List.set_cons_succ])
            | (apply SeqO.skipG
               case ho => exact rfl
               case hg => exact rfl
               case hj => exact rfl
               case hd => exact rfl
               case ht => exact rfl
               case hne => exact rfl
               try simp only [Act.put, List.setIfInBounds_toArray, List.set_cons_zero, List.set_cons_succ])
            | (first
               | (apply SeqO.step0
                  case ho => exact rfl
                  case hg => exact rfl)
               | (apply SeqO.stepG
                  case ho => exact rfl
                  case hg => exact rfl
                  case hj => exact rfl
                  case hd => exact rfl
                  case ht => exact rfl)
               intro K hK
               go_simp
               first
               | (go_at_call 11; (with_reducible refine (CR.out _ Z).mono ?_); rintro e wx ⟨rfl, Z⟩; go_wp2_with fail)
               | (go_at_call 17; (with_reducible refine (CS5.out _ Z).mono ?_); rintro e wx ⟨rfl, Z⟩; go_wp2_with fail)
               | (go_at_call 16; (with_reducible refine (CA.out _ Z).mono ?_); rintro e wx ⟨rfl, Z⟩; go_wp2_with fail)
               | fail
               refine hK.out _ _ ?_ (fun _ => ?_)
               · exact HBOX.out _ _ Z
               clear hK K
               try simp only [Act.put, List.setIfInBounds_toArray, List.set_cons_zero, List.set_cons_succ]))
          refine SeqO.done ?_
          refine NoPanic.normal ?_
          go_wp2_with fail
          refine (lprove_nil 0 _).mono ?_
          rintro e wp1 ⟨rfl, rfl⟩
          go_wp2_with fail
          refine (lext_nil 0 _).mono ?_
          rintro e wp2 ⟨rfl, rfl⟩
          have hhn := fun W => head_nil 0 W
          unfold hdV hd0 at hhn
          have HHN := Lib.hid hhn
          clear hhn
          go_wp2_with fail
          refine (HHN.out _).mono ?_
          rintro e wp3 ⟨rfl, b3⟩
          replace Z := (Z.later b3).later (Below.alloc1 wp3 (.cells #[.int .i64 0, .string (str []), .string (str [])] 23))
          have hrn := fun W => record_nil W
          unfold recV at hrn
          have HRN := Lib.hid hrn
          clear hrn b3
          go_wp2_with fail
          refine (HRN.out _).mono ?_
          rintro e wp4 ⟨rfl, b4⟩
          replace Z := (Z.later b4).later (Below.alloc1 wp4 (.cells #[.int .i64 0, .slice none 0 0] 34))
          clear b4
          have hx2 : appA y ⟨p, l'⟩ [120] = (y, 90) := by
            rcases appA_cases GY.out ⟨p, l'⟩ [120] with ⟨_, g2, _⟩ | ⟨_, _, g5⟩
            · simp at g2
            · exact g5
          have ca2 : ∀ W, OwnZ w b y [.int .i64 p, .slice A' l'.length c'] A' c' l' W → Calls Tryd.prog 16 #[.pointer (some ⟨b, 0, none⟩), .agg #[.int .i64 p, .slice A' l'.length c'], .string ⟨#[120]⟩] W fun e w' => e = .returned (.int .i64 90) ∧ OwnZ w b y [.int .i64 p, .slice A' l'.length c'] A' c' l' w' := by
            intro W h
            have := CAPP.out y GY.out [120] W h
            rw [hx2] at this
            exact this
          have can : ∀ W, OwnZ w b y [.int .i64 p, .slice A' l'.length c'] A' c' l' W → Calls Tryd.prog 16 #[.pointer none, .agg #[.int .i64 p, .slice A' l'.length c'], .string (str (stL 0))] W fun e w' => e = .returned (.int .i64 1) ∧ OwnZ w b y [.int .i64 p, .slice A' l'.length c'] A' c' l' w' := fun W h => (append_nil p (.slice A' l'.length c') (str (stL 0)) W ⟨_, _, _, rfl⟩).mono fun e w' ⟨he, hb⟩ => ⟨he, h.later hb⟩
          have CA2 := Lib.hid ca2
          have CAN := Lib.hid can
          have CS0 := Lib.hid (fun W h => CST.out y 0 W h)
          clear ca2 can hx2
          go_wp2_with fail
          replace Z := Z.later (Below.drew (Below.refl _ _))
          refine wp_region_noPanic ?_
          refine wp_region_ord (fun W => W.cell? ⟨w.heap.size, 0, none⟩ = some (.int .i64 p) ∧ W.cell? ⟨w.heap.size, 1, none⟩ = some (.slice A' l'.length c')) [(0, true), (1, true), (2, false), (3, true), (4, true), (5, true), (6, true), (7, true), (8, false), (9, false), (10, true), (11, true), (12, true), (13, true), (14, true), (15, true), (16, true), (17, true), (18, true), (19, true), (20, true), (21, true), (22, true), (23, true), (24, true), (25, true), (26, true), (27, true), (28, true), (29, true), (30, true), (31, true), (32, true), (33, true), (34, true), (35, true), (36, true), (37, true), (38, true), (39, true), (40, true)] (by kernel_rfl) (by as_aux_lemma => kernel_rfl) (by rfl) (by as_aux_lemma => kernel_rfl) (fun _ _ _ _ _ h => h) (HBOX.out _ _ Z) (fun _ => ?_)
          repeat (first
            | (apply SeqO.take0
               case ho => exact rfl
               case hg => exact rfl
               case hy => (intro w hSw; (try dsimp only at hSw); go_simp; try with_reducible rfl)
               try simp only [Act.put, List.setIfInBounds_toArray, List.set_cons_zero, List.set_cons_succ])
            | (apply SeqO.takeG
               case ho => exact rfl
               case hg => exact rfl
               case hj => exact rfl
               case hd => exact rfl
               case ht => exact rfl
               case hy => (intro w hSw; (try dsimp only at hSw); go_simp; try with_reducible rfl)
               try simp only [Act.put, List.setIfInBounds_toArray, List.set_cons_zero, List.set_cons_succ])
            | (apply SeqO.skipG
               case ho => exact rfl
               case hg => exact rfl
               case hj => exact rfl
               case hd => exact rfl
               case ht => exact rfl
               case hne => exact rfl
               try simp only [Act.put, List.setIfInBounds_toArray, List.set_cons_zero, List.set_cons_succ])
            | (first
               | (apply SeqO.step0
                  case ho => exact rfl
                  case hg => exact rfl)
               | (apply SeqO.stepG
                  case ho => exact rfl
                  case hg => exact rfl
                  case hj => exact rfl
                  case hd => exact rfl
                  case ht => exact rfl)
               intro K hK
               go_simp
               first
               | (go_at_call 16; (with_reducible refine (CA2.out _ Z).mono ?_); rintro e wx ⟨rfl, Z⟩; go_wp2_with fail)
               | (go_at_call 16; (with_reducible refine (CAN.out _ Z).mono ?_); rintro e wx ⟨rfl, Z⟩; go_wp2_with fail)
               | (go_at_call 17; (with_reducible refine (CS0.out _ Z).mono ?_); rintro e wx ⟨rfl, Z⟩; go_wp2_with fail)
               | (go_at_call 21; (with_reducible refine (len_nil _).mono ?_); rintro e wx ⟨rfl, rfl⟩; go_wp2_with fail)
               | (go_at_call 11; (with_reducible refine (lroot_nil _).mono ?_); rintro e wx ⟨rfl, rfl⟩; go_wp2_with fail)
               | fail
               refine hK.out _ _ ?_ (fun _ => ?_)
               · exact HBOX.out _ _ Z
               clear hK K
               try simp only [Act.put, List.setIfInBounds_toArray, List.set_cons_zero, List.set_cons_succ]))
          refine SeqO.done ?_
          refine NoPanic.normal ?_
          go_wp2_with fail
          go_ret
          exact ⟨rfl, Z.bel⟩
        · rcases hbad with rfl | ⟨rfl, hpp⟩
          · have ca := fun W h => CAPP.out x GX.out (stL 5) W h
            rw [hx0] at ca
            have CA := Lib.hid ca
            have CR := Lib.hid (fun W h => CROOT.out x GX.out W h)
            have CS5 := Lib.hid (fun W h => CST.out x 5 W h)
            clear ca hx0
            go_wp2_with fail
            replace Z := Z.later (Below.drew (Below.refl _ _))
            refine wp_region_noPanic ?_
            refine wp_region_ord (fun W => W.cell? ⟨w.heap.size, 0, none⟩ = some (.int .i64 p) ∧ W.cell? ⟨w.heap.size, 1, none⟩ = some (.slice A' l'.length c')) [(0, false), (2, false), (1, true), (3, true), (4, true), (5, false), (6, false), (10, false), (7, true), (8, true), (9, true), (11, true), (12, true), (13, true), (14, true), (15, true), (16, true), (17, false), (19, false), (18, true), (20, true), (21, true), (22, true)] (by kernel_rfl) (by as_aux_lemma => kernel_rfl) (by rfl) (by as_aux_lemma => kernel_rfl) (fun _ _ _ _ _ h => h) (HBOX.out _ _ Z) (fun _ => ?_)
            repeat (first
              | (apply SeqO.take0
                 case ho => exact rfl
                 case hg => exact rfl
                 case hy => (intro w hSw; (try dsimp only at hSw); go_simp; try with_reducible rfl)
                 try simp only [Act.put, List.setIfInBounds_toArray, List.set_cons_zero, List.set_cons_succ])
              | (apply SeqO.takeG
                 case ho => exact rfl
                 case hg => exact rfl
                 case hj => exact rfl
                 case hd => exact rfl
                 case ht => exact rfl
                 case hy => (intro w hSw; (try dsimp only at hSw); go_simp; try with_reducible rfl)
                 try simp only [Act.put, List.setIfInBounds_toArray, List.set_cons_zero, List.set_cons_succ])
              | (apply SeqO.skipG
                 case ho => exact rfl
                 case hg => exact rfl
                 case hj => exact rfl
                 case hd => exact rfl
                 case ht => exact rfl
                 case hne => exact rfl
                 try simp only [Act.put, List.setIfInBounds_toArray, List.set_cons_zero, List.set_cons_succ])
              | (first
                 | (apply SeqO.step0
                    case ho => exact rfl
                    case hg => exact rfl)
                 | (apply SeqO.stepG
                    case ho => exact rfl
                    case hg => exact rfl
                    case hj => exact rfl
                    case hd => exact rfl
                    case ht => exact rfl)
                 intro K hK
                 go_simp
                 first
                 | (go_at_call 11; (with_reducible refine (CR.out _ Z).mono ?_); rintro e wx ⟨rfl, Z⟩; go_wp2_with fail)
                 | (go_at_call 17; (with_reducible refine (CS5.out _ Z).mono ?_); rintro e wx ⟨rfl, Z⟩; go_wp2_with fail)
                 | (go_at_call 16; (with_reducible refine (CA.out _ Z).mono ?_); rintro e wx ⟨rfl, Z⟩; go_wp2_with fail)
                 | fail
                 refine hK.out _ _ ?_ (fun _ => ?_)
                 · exact HBOX.out _ _ Z
                 clear hK K
                 try simp only [Act.put, List.setIfInBounds_toArray, List.set_cons_zero, List.set_cons_succ]))
            refine SeqO.done ?_
            refine NoPanic.normal ?_

            go_wp2_with fail
            refine (lprove_nil 0 _).mono ?_
            rintro e wp1 ⟨rfl, rfl⟩
            go_wp2_with fail
            refine (lext_nil 0 _).mono ?_
            rintro e wp2 ⟨rfl, rfl⟩
            have hhn := fun W => head_nil 0 W
            unfold hdV hd0 at hhn
            have HHN := Lib.hid hhn
            clear hhn
            go_wp2_with fail
            refine (HHN.out _).mono ?_
            rintro e wp3 ⟨rfl, b3⟩
            replace Z := (Z.later b3).later (Below.alloc1 wp3 (.cells #[.int .i64 0, .string (str []), .string (str [])] 23))
            have hrn := fun W => record_nil W
            unfold recV at hrn
            have HRN := Lib.hid hrn
            clear hrn b3
            go_wp2_with fail
            refine (HRN.out _).mono ?_
            rintro e wp4 ⟨rfl, b4⟩
            replace Z := (Z.later b4).later (Below.alloc1 wp4 (.cells #[.int .i64 0, .slice none 0 0] 34))
            clear b4
            have hx2 : appA x ⟨p, l'⟩ [120] = (x, 90) := by
              rcases appA_cases GX.out ⟨p, l'⟩ [120] with ⟨_, g2, _⟩ | ⟨_, _, g5⟩
              · simp at g2
              · exact g5
            have ca2 : ∀ W, OwnZ w b x [.int .i64 p, .slice A' l'.length c'] A' c' l' W → Calls Tryd.prog 16 #[.pointer (some ⟨b, 0, none⟩), .agg #[.int .i64 p, .slice A' l'.length c'], .string ⟨#[120]⟩] W fun e w' => e = .returned (.int .i64 90) ∧ OwnZ w b x [.int .i64 p, .slice A' l'.length c'] A' c' l' w' := by
              intro W h
              have := CAPP.out x GX.out [120] W h
              rw [hx2] at this
              exact this
            have can : ∀ W, OwnZ w b x [.int .i64 p, .slice A' l'.length c'] A' c' l' W → Calls Tryd.prog 16 #[.pointer none, .agg #[.int .i64 p, .slice A' l'.length c'], .string (str (stL 0))] W fun e w' => e = .returned (.int .i64 1) ∧ OwnZ w b x [.int .i64 p, .slice A' l'.length c'] A' c' l' w' := fun W h => (append_nil p (.slice A' l'.length c') (str (stL 0)) W ⟨_, _, _, rfl⟩).mono fun e w' ⟨he, hb⟩ => ⟨he, h.later hb⟩
            have CA2 := Lib.hid ca2
            have CAN := Lib.hid can
            have CS0 := Lib.hid (fun W h => CST.out x 0 W h)
            clear ca2 can hx2
            go_wp2_with fail
            replace Z := Z.later (Below.drew (Below.refl _ _))
            refine wp_region_noPanic ?_
            refine wp_region_ord (fun W => W.cell? ⟨w.heap.size, 0, none⟩ = some (.int .i64 p) ∧ W.cell? ⟨w.heap.size, 1, none⟩ = some (.slice A' l'.length c')) [(0, true), (1, true), (2, false), (3, true), (4, true), (5, true), (6, true), (7, true), (8, false), (9, false), (10, true), (11, true), (12, true), (13, true), (14, true), (15, true), (16, true), (17, true), (18, true), (19, true), (20, true), (21, true), (22, true), (23, true), (24, true), (25, true), (26, true), (27, true), (28, true), (29, true), (30, true), (31, true), (32, true), (33, true), (34, true), (35, true), (36, true), (37, true), (38, true), (39, true), (40, true)] (by kernel_rfl) (by as_aux_lemma => kernel_rfl) (by rfl) (by as_aux_lemma => kernel_rfl) (fun _ _ _ _ _ h => h) (HBOX.out _ _ Z) (fun _ => ?_)
            repeat (first
              | (apply SeqO.take0
                 case ho => exact rfl
                 case hg => exact rfl
                 case hy => (intro w hSw; (try dsimp only at hSw); go_simp; try with_reducible rfl)
                 try simp only [Act.put, List.setIfInBounds_toArray, List.set_cons_zero, List.set_cons_succ])
              | (apply SeqO.takeG
                 case ho => exact rfl
                 case hg => exact rfl
                 case hj => exact rfl
                 case hd => exact rfl
                 case ht => exact rfl
                 case hy => (intro w hSw; (try dsimp only at hSw); go_simp; try with_reducible rfl)
                 try simp only [Act.put, List.setIfInBounds_toArray, List.set_cons_zero, List.set_cons_succ])
              | (apply SeqO.skipG
                 case ho => exact rfl
                 case hg => exact rfl
                 case hj => exact rfl
                 case hd => exact rfl
                 case ht => exact rfl
                 case hne => exact rfl
                 try simp only [Act.put, List.setIfInBounds_toArray, List.set_cons_zero, List.set_cons_succ])
              | (first
                 | (apply SeqO.step0
                    case ho => exact rfl
                    case hg => exact rfl)
                 | (apply SeqO.stepG
                    case ho => exact rfl
                    case hg => exact rfl
                    case hj => exact rfl
                    case hd => exact rfl
                    case ht => exact rfl)
                 intro K hK
                 go_simp
                 first
                 | (go_at_call 16; (with_reducible refine (CA2.out _ Z).mono ?_); rintro e wx ⟨rfl, Z⟩; go_wp2_with fail)
                 | (go_at_call 16; (with_reducible refine (CAN.out _ Z).mono ?_); rintro e wx ⟨rfl, Z⟩; go_wp2_with fail)
                 | (go_at_call 17; (with_reducible refine (CS0.out _ Z).mono ?_); rintro e wx ⟨rfl, Z⟩; go_wp2_with fail)
                 | (go_at_call 21; (with_reducible refine (len_nil _).mono ?_); rintro e wx ⟨rfl, rfl⟩; go_wp2_with fail)
                 | (go_at_call 11; (with_reducible refine (lroot_nil _).mono ?_); rintro e wx ⟨rfl, rfl⟩; go_wp2_with fail)
                 | fail
                 refine hK.out _ _ ?_ (fun _ => ?_)
                 · exact HBOX.out _ _ Z
                 clear hK K
                 try simp only [Act.put, List.setIfInBounds_toArray, List.set_cons_zero, List.set_cons_succ]))
            refine SeqO.done ?_
            refine NoPanic.normal ?_
            go_wp2_with fail
            go_ret
            exact ⟨rfl, Z.bel⟩
          · have ca := fun W h => CAPP.out x GX.out (stL 5) W h
            rw [hx0] at ca
            have CA := Lib.hid ca
            have CR := Lib.hid (fun W h => CROOT.out x GX.out W h)
            have CS5 := Lib.hid (fun W h => CST.out x 5 W h)
            clear ca hx0
            go_wp2_with fail
            replace Z := Z.later (Below.drew (Below.refl _ _))
            refine wp_region_noPanic ?_
            refine wp_region_ord (fun W => W.cell? ⟨w.heap.size, 0, none⟩ = some (.int .i64 p) ∧ W.cell? ⟨w.heap.size, 1, none⟩ = some (.slice A' l'.length c')) [(0, false), (2, false), (1, true), (3, true), (4, true), (5, false), (6, false), (10, false), (7, true), (8, true), (9, true), (11, true), (12, true), (13, true), (14, true), (15, true), (16, true), (17, false), (19, false), (18, true), (20, true), (21, true), (22, true)] (by kernel_rfl) (by as_aux_lemma => kernel_rfl) (by rfl) (by as_aux_lemma => kernel_rfl) (fun _ _ _ _ _ h => h) (HBOX.out _ _ Z) (fun _ => ?_)
            repeat (first
              | (apply SeqO.take0
                 case ho => exact rfl
                 case hg => exact rfl
                 case hy => (intro w hSw; (try dsimp only at hSw); go_simp; try with_reducible rfl)
                 try simp only [Act.put, List.setIfInBounds_toArray, List.set_cons_zero, List.set_cons_succ])
              | (apply SeqO.takeG
                 case ho => exact rfl
                 case hg => exact rfl
                 case hj => exact rfl
                 case hd => exact rfl
                 case ht => exact rfl
                 case hy => (intro w hSw; (try dsimp only at hSw); go_simp; try with_reducible rfl)
                 try simp only [Act.put, List.setIfInBounds_toArray, List.set_cons_zero, List.set_cons_succ])
              | (apply SeqO.skipG
                 case ho => exact rfl
                 case hg => exact rfl
                 case hj => exact rfl
                 case hd => exact rfl
                 case ht => exact rfl
                 case hne => exact rfl
                 try simp only [Act.put, List.setIfInBounds_toArray, List.set_cons_zero, List.set_cons_succ])
              | (first
                 | (apply SeqO.step0
                    case ho => exact rfl
                    case hg => exact rfl)
                 | (apply SeqO.stepG
                    case ho => exact rfl
                    case hg => exact rfl
                    case hj => exact rfl
                    case hd => exact rfl
                    case ht => exact rfl)
                 intro K hK
                 go_simp
                 first
                 | (go_at_call 11; (with_reducible refine (CR.out _ Z).mono ?_); rintro e wx ⟨rfl, Z⟩; go_wp2_with fail)
                 | (go_at_call 17; (with_reducible refine (CS5.out _ Z).mono ?_); rintro e wx ⟨rfl, Z⟩; go_wp2_with fail)
                 | (go_at_call 16; (with_reducible refine (CA.out _ Z).mono ?_); rintro e wx ⟨rfl, Z⟩; go_wp2_with fail)
                 | fail
                 refine hK.out _ _ ?_ (fun _ => ?_)
                 · exact HBOX.out _ _ Z
                 clear hK K
                 try simp only [Act.put, List.setIfInBounds_toArray, List.set_cons_zero, List.set_cons_succ]))
            refine SeqO.done ?_
            refine NoPanic.normal ?_

            go_wp2_with fail
            refine (lprove_nil 0 _).mono ?_
            rintro e wp1 ⟨rfl, rfl⟩
            go_wp2_with fail
            refine (lext_nil 0 _).mono ?_
            rintro e wp2 ⟨rfl, rfl⟩
            have hhn := fun W => head_nil 0 W
            unfold hdV hd0 at hhn
            have HHN := Lib.hid hhn
            clear hhn
            go_wp2_with fail
            refine (HHN.out _).mono ?_
            rintro e wp3 ⟨rfl, b3⟩
            replace Z := (Z.later b3).later (Below.alloc1 wp3 (.cells #[.int .i64 0, .string (str []), .string (str [])] 23))
            have hrn := fun W => record_nil W
            unfold recV at hrn
            have HRN := Lib.hid hrn
            clear hrn b3
            go_wp2_with fail
            refine (HRN.out _).mono ?_
            rintro e wp4 ⟨rfl, b4⟩
            replace Z := (Z.later b4).later (Below.alloc1 wp4 (.cells #[.int .i64 0, .slice none 0 0] 34))
            clear b4
            have hx2 : appA x ⟨p, l'⟩ [120] = (x, 90) := by
              rcases appA_cases GX.out ⟨p, l'⟩ [120] with ⟨_, g2, _⟩ | ⟨_, _, g5⟩
              · simp at g2
              · exact g5
            have ca2 : ∀ W, OwnZ w b x [.int .i64 p, .slice A' l'.length c'] A' c' l' W → Calls Tryd.prog 16 #[.pointer (some ⟨b, 0, none⟩), .agg #[.int .i64 p, .slice A' l'.length c'], .string ⟨#[120]⟩] W fun e w' => e = .returned (.int .i64 90) ∧ OwnZ w b x [.int .i64 p, .slice A' l'.length c'] A' c' l' w' := by
              intro W h
              have := CAPP.out x GX.out [120] W h
              rw [hx2] at this
              exact this
            have can : ∀ W, OwnZ w b x [.int .i64 p, .slice A' l'.length c'] A' c' l' W → Calls Tryd.prog 16 #[.pointer none, .agg #[.int .i64 p, .slice A' l'.length c'], .string (str (stL 0))] W fun e w' => e = .returned (.int .i64 1) ∧ OwnZ w b x [.int .i64 p, .slice A' l'.length c'] A' c' l' w' := fun W h => (append_nil p (.slice A' l'.length c') (str (stL 0)) W ⟨_, _, _, rfl⟩).mono fun e w' ⟨he, hb⟩ => ⟨he, h.later hb⟩
            have CA2 := Lib.hid ca2
            have CAN := Lib.hid can
            have CS0 := Lib.hid (fun W h => CST.out x 0 W h)
            clear ca2 can hx2
            go_wp2_with fail
            replace Z := Z.later (Below.drew (Below.refl _ _))
            refine wp_region_noPanic ?_
            refine wp_region_ord (fun W => W.cell? ⟨w.heap.size, 0, none⟩ = some (.int .i64 p) ∧ W.cell? ⟨w.heap.size, 1, none⟩ = some (.slice A' l'.length c')) [(0, true), (1, true), (2, false), (3, true), (4, true), (5, true), (6, true), (7, true), (8, false), (9, false), (10, true), (11, true), (12, true), (13, true), (14, true), (15, true), (16, true), (17, true), (18, true), (19, true), (20, true), (21, true), (22, true), (23, true), (24, true), (25, true), (26, true), (27, true), (28, true), (29, true), (30, true), (31, true), (32, true), (33, true), (34, true), (35, true), (36, true), (37, true), (38, true), (39, true), (40, true)] (by kernel_rfl) (by as_aux_lemma => kernel_rfl) (by rfl) (by as_aux_lemma => kernel_rfl) (fun _ _ _ _ _ h => h) (HBOX.out _ _ Z) (fun _ => ?_)
            repeat (first
              | (apply SeqO.take0
                 case ho => exact rfl
                 case hg => exact rfl
                 case hy => (intro w hSw; (try dsimp only at hSw); go_simp; try with_reducible rfl)
                 try simp only [Act.put, List.setIfInBounds_toArray, List.set_cons_zero, List.set_cons_succ])
              | (apply SeqO.takeG
                 case ho => exact rfl
                 case hg => exact rfl
                 case hj => exact rfl
                 case hd => exact rfl
                 case ht => exact rfl
                 case hy => (intro w hSw; (try dsimp only at hSw); go_simp; try with_reducible rfl)
                 try simp only [Act.put, List.setIfInBounds_toArray, List.set_cons_zero, List.set_cons_succ])
              | (apply SeqO.skipG
                 case ho => exact rfl
                 case hg => exact rfl
                 case hj => exact rfl
                 case hd => exact rfl
                 case ht => exact rfl
                 case hne => exact rfl
                 try simp only [Act.put, List.setIfInBounds_toArray, List.set_cons_zero, List.set_cons_succ])
              | (first
                 | (apply SeqO.step0
                    case ho => exact rfl
                    case hg => exact rfl)
                 | (apply SeqO.stepG
                    case ho => exact rfl
                    case hg => exact rfl
                    case hj => exact rfl
                    case hd => exact rfl
                    case ht => exact rfl)
                 intro K hK
                 go_simp
                 first
                 | (go_at_call 16; (with_reducible refine (CA2.out _ Z).mono ?_); rintro e wx ⟨rfl, Z⟩; go_wp2_with fail)
                 | (go_at_call 16; (with_reducible refine (CAN.out _ Z).mono ?_); rintro e wx ⟨rfl, Z⟩; go_wp2_with fail)
                 | (go_at_call 17; (with_reducible refine (CS0.out _ Z).mono ?_); rintro e wx ⟨rfl, Z⟩; go_wp2_with fail)
                 | (go_at_call 21; (with_reducible refine (len_nil _).mono ?_); rintro e wx ⟨rfl, rfl⟩; go_wp2_with fail)
                 | (go_at_call 11; (with_reducible refine (lroot_nil _).mono ?_); rintro e wx ⟨rfl, rfl⟩; go_wp2_with fail)
                 | fail
                 refine hK.out _ _ ?_ (fun _ => ?_)
                 · exact HBOX.out _ _ Z
                 clear hK K
                 try simp only [Act.put, List.setIfInBounds_toArray, List.set_cons_zero, List.set_cons_succ]))
            refine SeqO.done ?_
            refine NoPanic.normal ?_
            go_wp2_with fail
            go_ret
            exact ⟨rfl, Z.bel⟩
end Go.Proofs.YtheebajklnljdaaDoor
