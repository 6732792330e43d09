/- complete. -/
import Derived.Test.YtgbemgndbemllaaGreatDoorGq
import Derived.Test.YtgbemgndbemllaaGreatDoorGl
import Derived.Deep.DeepCutAuto
import Derived.Deep.CutBlock
namespace Go.Proofs.YtgbemgndbemllaaGreatDoor
open Go Go.RowKit Go.Shelf
attribute [local go_sem] Oper.semAt_some

theorem SeqO.skipU {P : Program} {Q : Exit → Act → World → Prop} {S : World → Prop} {l : List Oper} {i : Nat} {b : Bool} {rest : List (Nat × Bool)} {ts : List Value} {ds : List Deferred} {w : World} {o oj : Oper} {j d : Nat} {bb : Bool} (ho : l[i]? = some o) (hg : o.guard = some (j, bb)) (hj : l[j]? = some oj) (hd : oj.dst = some d) (ht : ts[d]? = some undef)
    (h : SeqO P l.toArray Q S rest ((Act.mk ts.toArray ds).put o.dst undef) w) : SeqO P l.toArray Q S ((i, b) :: rest) ⟨ts.toArray, ds⟩ w := SeqO.unwanted (by simpa using ho) (by
  unfold Region.wanted yielded
  rw [hg]
  simp [hj, hd, ht, undef]) h

/-- a proof in the block pb, whose rows are xs -/
structure PfW (w : World) (pb : Nat) (t c lo hi : Int) (n f : Nat) (v1 v2 v3 : Value) (xs : List Rw) : Prop where
  box : BlkIs w pb 51 (pfC t c lo hi n f v1 v2 v3)
  rows : RwsAt w v1 xs
theorem PfW.later {w w' : World} {pb : Nat} {t c lo hi : Int} {n f : Nat} {v1 v2 v3 : Value} {xs : List Rw} (h : PfW w pb t c lo hi n f v1 v2 v3 xs) (hb : Below w.heap.size w w') : PfW w' pb t c lo hi n f v1 v2 v3 xs := ⟨h.box.later hb, h.rows.below hb⟩

set_option maxRecDepth 100000 in
set_option maxHeartbeats 4000000 in
theorem val1_ok (pb : Nat) (t c lo hi : Int) (n f : Nat) (v1 v2 v3 : Value) (xs : List Rw) (i : Nat) (x : Rw) (hx : xs[i]? = some x) (w : World) (h : PfW w pb t c lo hi n f v1 v2 v3 xs) :
    Calls Tryz.prog 74 #[.int .i64 i, .pointer (some ⟨pb, 0, none⟩)] w fun e w' => e = .returned (.int .i64 (x.val c)) ∧ Below w.heap.size w w' := by
  have hv := fun W => value_below x c W
  generalize x.val c = v at *
  obtain ⟨xt, xk, x0, x1, x2⟩ := x
  obtain ⟨gr, ro, rc, rfl, hlt, hgr, r0, r1, r2, r3, r4⟩ := h.rows.at_ hx
  unfold rwV at hv
  dsimp only at hv
  have c6 : w.cell? ⟨pb, 6, none⟩ = some (.slice (some ⟨gr, ro, none⟩) xs.length rc) := h.box.cell 6
  have c1 : w.cell? ⟨pb, 1, none⟩ = some (.int .i64 c) := h.box.cell 1
  have q0 : (0 : Int) ≤ (i : Int) := by omega
  have q1 : (i : Int) < (xs.length : Int) := by have := (List.getElem?_eq_some_iff.1 hx).1; omega
  obtain ⟨N, hN⟩ : ∃ N, N = xs.length := ⟨_, rfl⟩
  rw [← hN] at c6 q1
  have HV := Lib.hid hv
  have Z : Below w.heap.size w w := Below.refl _ _
  have l0 := h.box.lt
  have HBOX := Lib.hid (fun (W : World) (hW : Below w.heap.size w W) => (show (fun W => W.cell? ⟨pb, 6, none⟩ = some (.slice (some ⟨gr, ro, none⟩) N rc) ∧ W.cell? ⟨pb, 1, none⟩ = some (.int .i64 c) ∧ W.cell? ⟨gr, ro + i * 5, none⟩ = some (.int .i64 xt) ∧ W.cell? ⟨gr, ro + i * 5 + 1, none⟩ = some (.int .i64 xk) ∧ W.cell? ⟨gr, ro + i * 5 + 2, none⟩ = some (.int .i64 x0) ∧ W.cell? ⟨gr, ro + i * 5 + 3, none⟩ = some (.int .i64 x1) ∧ W.cell? ⟨gr, ro + i * 5 + 4, none⟩ = some (.int .i64 x2)) W from ⟨(hW.cell (p := ⟨pb, 6, none⟩) l0).trans c6, (hW.cell (p := ⟨pb, 1, none⟩) l0).trans c1, (hW.cell (p := ⟨gr, ro + i * 5, none⟩) hgr).trans r0, (hW.cell (p := ⟨gr, ro + i * 5 + 1, none⟩) hgr).trans r1, (hW.cell (p := ⟨gr, ro + i * 5 + 2, none⟩) hgr).trans r2, (hW.cell (p := ⟨gr, ro + i * 5 + 3, none⟩) hgr).trans r3, (hW.cell (p := ⟨gr, ro + i * 5 + 4, none⟩) hgr).trans r4⟩))
  clear hv h hx c6 c1 r0 r1 r2 r3 r4 hN l0 hlt
  go_enter Tryz.func74, Tryz.ntmps74
  go_wp2_with fail
  replace Z := Below.drew Z
  refine wp_region_noPanic ?_
  refine wp_region_ord (fun W => W.cell? ⟨pb, 6, none⟩ = some (.slice (some ⟨gr, ro, none⟩) N rc) ∧ W.cell? ⟨pb, 1, none⟩ = some (.int .i64 c) ∧ W.cell? ⟨gr, ro + i * 5, none⟩ = some (.int .i64 xt) ∧ W.cell? ⟨gr, ro + i * 5 + 1, none⟩ = some (.int .i64 xk) ∧ W.cell? ⟨gr, ro + i * 5 + 2, none⟩ = some (.int .i64 x0) ∧ W.cell? ⟨gr, ro + i * 5 + 3, none⟩ = some (.int .i64 x1) ∧ W.cell? ⟨gr, ro + i * 5 + 4, none⟩ = some (.int .i64 x2)) [(0, false), (1, false), (2, false), (5, false), (6, false), (3, true), (4, true), (7, true), (8, true)] (by kernel_rfl) (by as_aux_lemma => kernel_rfl) (by rfl) (by as_aux_lemma => kernel_rfl) (fun _ _ _ _ _ h => h) (HBOX.out _ Z) (fun _ => ?_)
  repeat (first
    | (apply SeqO.take0
       case ho => exact rfl
       case hg => exact rfl
       case hy => (intro w hSw; (try dsimp only at hSw); go_simp; try with_reducible rfl)
       try simp only [Act.put, List.setIfInBounds_toArray, List.set_cons_zero, List.set_cons_succ])
    | (apply SeqO.takeG
       case ho => exact rfl
       case hg => exact rfl
       case hj => exact rfl
       case hd => exact rfl
       case ht => exact rfl
       case hy => (intro w hSw; (try dsimp only at hSw); go_simp; try with_reducible rfl)
       try simp only [Act.put, List.setIfInBounds_toArray, List.set_cons_zero, List.set_cons_succ])
    | (apply SeqO.skipG
       case ho => exact rfl
       case hg => exact rfl
       case hj => exact rfl
       case hd => exact rfl
       case ht => exact rfl
       case hne => exact rfl
       try simp only [Act.put, List.setIfInBounds_toArray, List.set_cons_zero, List.set_cons_succ])
    | (first
       | (apply SeqO.step0
          case ho => exact rfl
          case hg => exact rfl)
       | (apply SeqO.stepG
          case ho => exact rfl
          case hg => exact rfl
          case hj => exact rfl
          case hd => exact rfl
          case ht => exact rfl)
       intro K hK
       go_simp
       first
       | (go_at_call 39; (with_reducible refine (HV.out _).mono ?_); rintro e wx ⟨rfl, bx⟩; replace Z := Below.next Z bx; clear bx; go_wp2_with fail)
       | skip
       | fail
       refine hK.out _ _ ?_ (fun _ => ?_)
       · exact HBOX.out _ Z
       clear hK K
       try simp only [Act.put, List.setIfInBounds_toArray, List.set_cons_zero, List.set_cons_succ]))
  refine SeqO.done ?_
  refine NoPanic.normal ?_
  go_wp2_with fail
  go_ret
  exact ⟨rfl, Z⟩

set_option maxRecDepth 100000 in
set_option maxHeartbeats 16000000 in
theorem complete_ok (t c lo hi : Int) (n f : Nat) (v1 v2 v3 : Value) (xs : List Rw) (ht1 : 0 ≤ t) (ht2 : t ≤ 3) (hc1 : 0 ≤ c) (hc2 : c ≤ 3) (hlh : lo ≤ hi) (w : World) (hv : RwsAt w v1 xs) (h2 : ∃ A l cc, v2 = .slice A l cc) (h3 : ∃ A l cc, v3 = .slice A l cc) (hC : CompleteO n f xs t c lo hi) :
    Calls Tryz.prog 42 #[pfV t c lo hi n f v1 v2 v3] w fun e w' => e = .returned (.bool true) ∧ Below w.heap.size w w' := by
  obtain ⟨A2, l2, c2, rfl⟩ := h2
  obtain ⟨A3, l3, c3, rfl⟩ := h3
  obtain ⟨A1, c1, rfl, -⟩ := hv.form
  obtain ⟨N, hN⟩ : ∃ N, N = xs.length := ⟨_, rfl⟩
  rw [← hN] at hv ⊢
  obtain ⟨w1, hw1⟩ : ∃ w1, w1 = w.alloc (.cells #[.int .i64 t, .int .i64 c, .int .i64 lo, .int .i64 hi, .int .i64 (n : Int), .int .i64 (f : Int), (Value.slice A1 N c1), (Value.slice A2 l2 c2), (Value.slice A3 l3 c3)] 51) := ⟨_, rfl⟩
  have a1 : Below w.heap.size w w1 := by rw [hw1]; exact Below.alloc1 w _
  have hP : PfW w1 w.heap.size t c lo hi n f (Value.slice A1 N c1) (Value.slice A2 l2 c2) (Value.slice A3 l3 c3) xs := ⟨by rw [hw1]; exact BlkIs.new w _ #[.int .i64 t, .int .i64 c, .int .i64 lo, .int .i64 hi, .int .i64 (n : Int), .int .i64 (f : Int), (Value.slice A1 N c1), (Value.slice A2 l2 c2), (Value.slice A3 l3 c3)], hv.below a1⟩
  have hex := fun W => exists_yes t c ht1 ht2 hc1 hc2 W
  have k0 : w1.cell? ⟨w.heap.size, 0, none⟩ = some (.int .i64 t) := hP.box.cell 0
  have k1 : w1.cell? ⟨w.heap.size, 1, none⟩ = some (.int .i64 c) := hP.box.cell 1
  have k2 : w1.cell? ⟨w.heap.size, 2, none⟩ = some (.int .i64 lo) := hP.box.cell 2
  have k3 : w1.cell? ⟨w.heap.size, 3, none⟩ = some (.int .i64 hi) := hP.box.cell 3
  have k4 : w1.cell? ⟨w.heap.size, 4, none⟩ = some (.int .i64 (n : Int)) := hP.box.cell 4
  have k5 : w1.cell? ⟨w.heap.size, 5, none⟩ = some (.int .i64 (f : Int)) := hP.box.cell 5
  have k6 : w1.cell? ⟨w.heap.size, 6, none⟩ = some (Value.slice A1 N c1) := hP.box.cell 6
  have HP := Lib.hid hP
  have HA1 := Lib.hid a1
  have HC := Lib.hid hC
  have HN := Lib.hid hN
  have HEX := Lib.hid hex
  have HW := Lib.hid hw1
  have e1 : decide (hi < lo) = false := by simpa using hlh
  have e2 : decide ((n : Int) < 0) = false := by simp
  have hn2 : n ≤ 2000 := hC.small
  have e3 : decide ((2000 : Int) < (n : Int)) = false := by simp; omega
  have e4 : decide ((f : Int) < 0) = false := by simp
  have hfN : f + N ≤ n := by rw [hN]; exact hC.fits
  have e5 : decide ((n : Int) < (f : Int)) = false := by simp; omega
  have e5' : decide (n < f) = false := by simp; omega
  obtain ⟨D, hD⟩ : ∃ D, D = n - f := ⟨_, rfl⟩
  have hwr : IntKind.i64.wrap ((n : Int) - (f : Int)) = (D : Int) := by rw [hD]; simp [IntKind.wrap, IntKind.bits, IntKind.signed]; omega
  have e6 : decide (D < N) = false := by simp; omega
  have hN0 : N = 0 → n = 0 := fun h => hC.none_ (by rw [← hN]; exact h)
  have hHT := Lib.hid (And.intro hc1 hc2)
  clear hD hP hv hC hN hex a1 hw1 ht1 ht2 hc1 hc2
  unfold pfV
  by_cases hNz : N = 0
  · have h3 : ((N : Int) == 0) = true := by simp [hNz]
    have h4 : ((n : Int) == 0) = true := by simp [hN0 hNz]
    clear hN0 hNz
    go_enter Tryz.func42, Tryz.ntmps42
    go_wp2_with fail
    rw [← HW.out]
    refine (HEX.out w1).mono ?_
    rintro e w1 ⟨rfl, rfl⟩
    go_wp2_with fail
    go_ret
    exact ⟨rfl, HA1.out⟩
  · have h3 : ((N : Int) == 0) = false := by simpa using hNz
    clear hN0
    go_enter Tryz.func42, Tryz.ntmps42
    go_wp2_with fail
    rw [← HW.out]
    refine (HEX.out w1).mono ?_
    rintro e w1 ⟨rfl, rfl⟩
    go_wp2_with fail
    go_loopw [64] (fun iv wr => ∃ k : Nat, k ≤ N ∧ iv = .int .i64 k ∧ Hid (Below w1.heap.size w1 wr)) (fun iv _ => N - (intOf iv).toNat)
    case atStart => exact ⟨0, by omega, rfl, Lib.hid (Below.refl _ _)⟩
    case round =>
      obtain ⟨k, hk, rfl, HR⟩ := hrel
      have zr := HP.out.later HR.out
      clear k0 k1 k2 k3 k4 k5 k6
      have HV := Lib.hid (fun (W : World) (i : Nat) (x : Rw) (hx : xs[i]? = some x) (hW : Below w1.heap.size w1 W) => val1_ok w.heap.size t c lo hi n f _ _ _ xs i x hx W (HP.out.later hW))
      by_cases h1 : k < N
      · obtain ⟨x, hx⟩ : ∃ x, xs[k]? = some x := ⟨_, List.getElem?_eq_getElem (by rw [← HN.out]; exact h1)⟩
        obtain ⟨gr, ro, rc, hrv, -, hgr, r0, r1, r2, r3, r4⟩ := zr.rows.at_ hx
        injection hrv with er1 er2 er3
        subst er1 er3
        clear er2
        obtain ⟨hrow, hrt, hlo, hhi⟩ := HC.out.rows k x hx
        have hval := fun W hW => HV.out W k x hx hW
        have hvd := fun W => rowValid_ok x.table x.key x.v W
        rw [hrow] at hvd
        obtain ⟨v, hv⟩ : ∃ v, v = x.val c := ⟨_, rfl⟩
        rw [← hv] at hlo hhi hval
        have hasc : ∀ J y, k = J + 1 → xs[J]? = some y → y.val c < v ∨ y.val c = v ∧ y.key < x.key := fun J y hJ hy => by
          have := ltO_iff.1 (HC.out.asc J y x hy (hJ ▸ hx))
          rw [← hv] at this
          exact this
        clear hv
        obtain ⟨xt, xk, x0, x1, x2⟩ := x
        dsimp only at hrt hvd hasc r0 r1 r2 r3 r4
        subst hrt
        unfold rowV at hvd
        dsimp only at hvd
        have q0 : (0 : Int) ≤ (k : Int) := by omega
        have q1 : (k : Int) < (N : Int) := by omega
        have t1 : decide (k < N) = true := by simpa using h1
        have HVAL := Lib.hid hval
        have HVD := Lib.hid hvd
        have HASC := Lib.hid hasc
        have HX := Lib.hid hx
        have HLO := Lib.hid hlo
        have hhi' : k + 1 < N → v ≤ hi := fun h => hhi (by rw [← HN.out]; exact h)
        have HHI := Lib.hid hhi'
        have b1 : Below wr.heap.size wr (wr.alloc (.cells #[.int .i64 xt, .int .i64 xk, .int .i64 x0, .int .i64 x1, .int .i64 x2] 67)) := Below.alloc1 wr _
        have Kb := BlkIs.new wr 67 #[.int .i64 xt, .int .i64 xk, .int .i64 x0, .int .i64 x1, .int .i64 x2]
        have Z := Below.next HR.out b1
        have HZ := Lib.hid (And.intro Z Kb)
        obtain ⟨w2, hw2⟩ : ∃ W, W = wr.alloc (.cells #[.int .i64 xt, .int .i64 xk, .int .i64 x0, .int .i64 x1, .int .i64 x2] 67) := ⟨_, rfl⟩
        rw [← hw2] at HZ
        have HW2 := Lib.hid hw2
        clear hval hvd hasc hlo hhi hhi' hrow zr b1 Kb Z hw2 hx
        go_wp2_with fail
        rw [← HW2.out]
        refine (HVAL.out w2 HZ.out.1).mono ?_
        rintro e w3 ⟨rfl, b3⟩
        obtain ⟨Z2, K2⟩ := HZ.out
        have Z3 := Below.next Z2 b3
        have K3 := K2.later b3
        have c0 : w3.cell? ⟨wr.heap.size, 0, none⟩ = some (.int .i64 xt) := K3.cell 0
        have c1' : w3.cell? ⟨wr.heap.size, 1, none⟩ = some (.int .i64 xk) := K3.cell 1
        have c2' : w3.cell? ⟨wr.heap.size, 2, none⟩ = some (.int .i64 x0) := K3.cell 2
        have c3' : w3.cell? ⟨wr.heap.size, 3, none⟩ = some (.int .i64 x1) := K3.cell 3
        have c4' : w3.cell? ⟨wr.heap.size, 4, none⟩ = some (.int .i64 x2) := K3.cell 4
        have HK3 := Lib.hid K3
        have HZ3 := Lib.hid Z3
        clear b3 Z2 K2 Z3 K3
        go_upto_region 11 with fail
        go_cut [103] (fun s103 wx => s103 = .bool false ∧ Hid (Below w1.heap.size w1 wx ∧ BlkIs wx wr.heap.size 67 [.int .i64 xt, .int .i64 xk, .int .i64 x0, .int .i64 x1, .int .i64 x2]))
        case first =>
          go_wp2_with fail
          refine (HVD.out w3).mono ?_
          rintro e w4 ⟨rfl, b4⟩
          have Z4 := Below.next HZ3.out b4
          have K4 := HK3.out.later b4
          have P4 := HP.out.later Z4
          have k0 : w4.cell? ⟨w.heap.size, 0, none⟩ = some (.int .i64 xt) := P4.box.cell 0
          have k2 : w4.cell? ⟨w.heap.size, 2, none⟩ = some (.int .i64 lo) := P4.box.cell 2
          have k3 : w4.cell? ⟨w.heap.size, 3, none⟩ = some (.int .i64 hi) := P4.box.cell 3
          have c0 : w4.cell? ⟨wr.heap.size, 0, none⟩ = some (.int .i64 xt) := K4.cell 0
          obtain ⟨M, hM⟩ : ∃ M, M = N - 1 := ⟨_, rfl⟩
          have hwM : IntKind.i64.wrap ((N : Int) - 1) = (M : Int) := by rw [hM]; simp [IntKind.wrap, IntKind.bits, IntKind.signed]; omega
          have HF := Lib.hid (And.intro Z4 K4)
          have hg1 : v < lo → decide (0 < k) = false := fun h => by
            have := HLO.out
            simp only [decide_eq_false_iff_not]
            omega
          have hg2 : hi < v → decide (k < M) = false := fun h => by
            have := HHI.out
            simp only [decide_eq_false_iff_not]
            omega
          clear b4 Z4 K4 P4 hM
          by_cases d1 : v < lo
          · have t1 : decide (v < lo) = true := by simpa using d1
            have t2 := hg1 d1
            clear d1 hg1
            by_cases d2 : hi < v
            · have t3 : decide (hi < v) = true := by simpa using d2
              have t4 := hg2 d2
              clear d2 hg2
              go_wp2_with fail
              go_meet
              exact ⟨rfl, HF⟩
            · have t3 : decide (hi < v) = false := by simpa using d2
              clear d2 hg2
              go_wp2_with fail
              go_meet
              exact ⟨rfl, HF⟩
          · have t1 : decide (v < lo) = false := by simpa using d1
            clear d1 hg1
            by_cases d2 : hi < v
            · have t3 : decide (hi < v) = true := by simpa using d2
              have t4 := hg2 d2
              clear d2 hg2
              go_wp2_with fail
              go_meet
              exact ⟨rfl, HF⟩
            · have t3 : decide (hi < v) = false := by simpa using d2
              clear d2 hg2
              go_wp2_with fail
              go_meet
              exact ⟨rfl, HF⟩
        case rest =>
          obtain ⟨rfl, HF⟩ := hcut
          clear c0 c1' c2' c3' c4' HZ3 HK3 HZ HW2 r0 r1 r2 r3 r4
          go_wp2_with fail
          have ZB := HF.out
          replace ZB := And.intro (Below.next ZB.1 (Below.drew (Below.refl _ _))) (ZB.2.drew)
          clear HF
          by_cases hk0 : k = 0
          · have t5 : decide (0 < k) = false := by simp [hk0]
            clear hk0
            refine wp_region_noPanic ?_
            refine wp_region_ord (fun W => W.cell? ⟨wr.heap.size, 1, none⟩ = some (.int .i64 xk)) [(0, true), (1, true), (2, true), (3, false), (4, false), (5, true), (6, true), (7, true), (8, true), (9, true), (10, false), (11, false), (12, true), (13, true), (14, true), (15, true), (16, true), (17, false), (18, false), (19, false), (20, false), (21, true), (22, true), (23, true), (24, true), (25, true), (26, true), (27, true), (28, true), (29, true)] (by kernel_rfl) (by as_aux_lemma => kernel_rfl) (by rfl) (by as_aux_lemma => kernel_rfl) (fun _ _ _ _ _ h => h) (ZB.2.cell 1) (fun _ => ?_)
            repeat (first
              | (apply SeqO.take0
                 case ho => exact rfl
                 case hg => exact rfl
                 case hy => (intro w hSw; (try dsimp only at hSw); go_simp; try with_reducible rfl)
                 try simp only [Act.put, List.setIfInBounds_toArray, List.set_cons_zero, List.set_cons_succ])
              | (apply SeqO.takeG
                 case ho => exact rfl
                 case hg => exact rfl
                 case hj => exact rfl
                 case hd => exact rfl
                 case ht => exact rfl
                 case hy => (intro w hSw; (try dsimp only at hSw); go_simp; try with_reducible rfl)
                 try simp only [Act.put, List.setIfInBounds_toArray, List.set_cons_zero, List.set_cons_succ])
              | (apply SeqO.skipG
                 case ho => exact rfl
                 case hg => exact rfl
                 case hj => exact rfl
                 case hd => exact rfl
                 case ht => exact rfl
                 case hne => exact rfl
                 try simp only [Act.put, List.setIfInBounds_toArray, List.set_cons_zero, List.set_cons_succ])
              | (apply SeqO.skipU
                 case ho => exact rfl
                 case hg => exact rfl
                 case hj => exact rfl
                 case hd => exact rfl
                 case ht => exact rfl
                 try simp only [Act.put, List.setIfInBounds_toArray, List.set_cons_zero, List.set_cons_succ])
              | (first
                 | (apply SeqO.step0
                    case ho => exact rfl
                    case hg => exact rfl)
                 | (apply SeqO.stepG
                    case ho => exact rfl
                    case hg => exact rfl
                    case hj => exact rfl
                    case hd => exact rfl
                    case ht => exact rfl)
                 intro K hK
                 go_simp
                 first
                 | skip
                 | fail
                 refine hK.out _ _ ?_ (fun _ => ?_)
                 · exact ZB.2.cell 1
                 clear hK K
                 try simp only [Act.put, List.setIfInBounds_toArray, List.set_cons_zero, List.set_cons_succ]))
            refine SeqO.done ?_
            refine NoPanic.normal ?_
            go_wp2_with fail
            exact ⟨⟨k + 1, by omega, by go_num, Lib.hid ZB.1⟩, by simp [intOf]; omega⟩
          · have t5 : decide (0 < k) = true := by simp; omega
            obtain ⟨J, hJ⟩ : ∃ J, k = J + 1 := ⟨k - 1, by omega⟩
            obtain ⟨y, hy⟩ : ∃ y, xs[J]? = some y := ⟨_, List.getElem?_eq_getElem (by rw [← HN.out]; omega)⟩
            have hvy := fun W hW => HV.out W J y hy hW
            have has := HASC.out J y hJ hy
            have hbox : ∀ W, (Below w1.heap.size w1 W ∧ BlkIs W wr.heap.size 67 [.int .i64 xt, .int .i64 xk, .int .i64 x0, .int .i64 x1, .int .i64 x2]) → (fun W => W.cell? ⟨w.heap.size, 6, none⟩ = some (.slice (some ⟨gr, ro, none⟩) N c1) ∧ W.cell? ⟨wr.heap.size, 1, none⟩ = some (.int .i64 xk) ∧ W.cell? ⟨gr, ro + J * 5 + 1, none⟩ = some (.int .i64 y.key)) W := by
              intro W hW
              have P := HP.out.later hW.1
              obtain ⟨g', o', c', e, -, -, -, r1, -⟩ := P.rows.at_ hy
              injection e with e1 e2 e3
              injection e1 with e1
              injection e1 with e4 e5 e6
              subst e4 e5
              exact ⟨P.box.cell 6, hW.2.cell 1, r1⟩
            have q2 : (0 : Int) ≤ (J : Int) := by omega
            have q3 : (J : Int) < (N : Int) := by omega
            have hwJ : IntKind.i64.wrap ((k : Int) - 1) = (J : Int) := by rw [hJ]; simp [IntKind.wrap, IntKind.bits, IntKind.signed]; omega
            generalize y.val c = u at *
            generalize y.key = yk at *
            have HVY := Lib.hid hvy
            have HBOX := Lib.hid hbox
            clear hvy hbox hJ hy hk0
            have t6 : decide (v < u) = false := by simp; omega
            by_cases hs : v = u
            · have t7 : (v == u) = true := by simpa using hs
              have t8 : decide (xk ≤ yk) = false := by simp; omega
              clear hs has
              refine wp_region_noPanic ?_
              refine wp_region_ord (fun W => W.cell? ⟨w.heap.size, 6, none⟩ = some (.slice (some ⟨gr, ro, none⟩) N c1) ∧ W.cell? ⟨wr.heap.size, 1, none⟩ = some (.int .i64 xk) ∧ W.cell? ⟨gr, ro + J * 5 + 1, none⟩ = some (.int .i64 yk)) [(0, true), (1, true), (2, true), (3, false), (4, false), (5, true), (6, true), (7, true), (8, true), (9, true), (10, false), (11, false), (12, true), (13, true), (14, true), (15, true), (16, true), (17, false), (18, false), (19, false), (20, false), (21, true), (22, true), (23, true), (24, true), (25, true), (26, true), (27, true), (28, true), (29, true)] (by kernel_rfl) (by as_aux_lemma => kernel_rfl) (by rfl) (by as_aux_lemma => kernel_rfl) (fun _ _ _ _ _ h => h) (HBOX.out _ ZB) (fun _ => ?_)
              repeat (first
                | (apply SeqO.take0
                   case ho => exact rfl
                   case hg => exact rfl
                   case hy => (intro w hSw; (try dsimp only at hSw); go_simp; try with_reducible rfl)
                   try simp only [Act.put, List.setIfInBounds_toArray, List.set_cons_zero, List.set_cons_succ])
                | (apply SeqO.takeG
                   case ho => exact rfl
                   case hg => exact rfl
                   case hj => exact rfl
                   case hd => exact rfl
                   case ht => exact rfl
                   case hy => (intro w hSw; (try dsimp only at hSw); go_simp; try with_reducible rfl)
                   try simp only [Act.put, List.setIfInBounds_toArray, List.set_cons_zero, List.set_cons_succ])
                | (apply SeqO.skipG
                   case ho => exact rfl
                   case hg => exact rfl
                   case hj => exact rfl
                   case hd => exact rfl
                   case ht => exact rfl
                   case hne => exact rfl
                   try simp only [Act.put, List.setIfInBounds_toArray, List.set_cons_zero, List.set_cons_succ])
                | (apply SeqO.skipU
                   case ho => exact rfl
                   case hg => exact rfl
                   case hj => exact rfl
                   case hd => exact rfl
                   case ht => exact rfl
                   try simp only [Act.put, List.setIfInBounds_toArray, List.set_cons_zero, List.set_cons_succ])
                | (first
                   | (apply SeqO.step0
                      case ho => exact rfl
                      case hg => exact rfl)
                   | (apply SeqO.stepG
                      case ho => exact rfl
                      case hg => exact rfl
                      case hj => exact rfl
                      case hd => exact rfl
                      case ht => exact rfl)
                   intro K hK
                   go_simp
                   first
                   | (go_at_call 74; (with_reducible refine (HVY.out _ ZB.1).mono ?_); rintro e wx ⟨rfl, bx⟩; replace ZB := And.intro (Below.next ZB.1 bx) (ZB.2.later bx); clear bx; go_wp2_with fail)
                   | skip
                   | fail
                   refine hK.out _ _ ?_ (fun _ => ?_)
                   · exact HBOX.out _ ZB
                   clear hK K
                   try simp only [Act.put, List.setIfInBounds_toArray, List.set_cons_zero, List.set_cons_succ]))
              refine SeqO.done ?_
              refine NoPanic.normal ?_
              go_wp2_with fail
              exact ⟨⟨k + 1, by omega, by go_num, Lib.hid ZB.1⟩, by simp [intOf]; omega⟩
            · have t7 : (v == u) = false := by simpa using hs
              clear hs has
              refine wp_region_noPanic ?_
              refine wp_region_ord (fun W => W.cell? ⟨w.heap.size, 6, none⟩ = some (.slice (some ⟨gr, ro, none⟩) N c1) ∧ W.cell? ⟨wr.heap.size, 1, none⟩ = some (.int .i64 xk) ∧ W.cell? ⟨gr, ro + J * 5 + 1, none⟩ = some (.int .i64 yk)) [(0, true), (1, true), (2, true), (3, false), (4, false), (5, true), (6, true), (7, true), (8, true), (9, true), (10, false), (11, false), (12, true), (13, true), (14, true), (15, true), (16, true), (17, false), (18, false), (19, false), (20, false), (21, true), (22, true), (23, true), (24, true), (25, true), (26, true), (27, true), (28, true), (29, true)] (by kernel_rfl) (by as_aux_lemma => kernel_rfl) (by rfl) (by as_aux_lemma => kernel_rfl) (fun _ _ _ _ _ h => h) (HBOX.out _ ZB) (fun _ => ?_)
              repeat (first
                | (apply SeqO.take0
                   case ho => exact rfl
                   case hg => exact rfl
                   case hy => (intro w hSw; (try dsimp only at hSw); go_simp; try with_reducible rfl)
                   try simp only [Act.put, List.setIfInBounds_toArray, List.set_cons_zero, List.set_cons_succ])
                | (apply SeqO.takeG
                   case ho => exact rfl
                   case hg => exact rfl
                   case hj => exact rfl
                   case hd => exact rfl
                   case ht => exact rfl
                   case hy => (intro w hSw; (try dsimp only at hSw); go_simp; try with_reducible rfl)
                   try simp only [Act.put, List.setIfInBounds_toArray, List.set_cons_zero, List.set_cons_succ])
                | (apply SeqO.skipG
                   case ho => exact rfl
                   case hg => exact rfl
                   case hj => exact rfl
                   case hd => exact rfl
                   case ht => exact rfl
                   case hne => exact rfl
                   try simp only [Act.put, List.setIfInBounds_toArray, List.set_cons_zero, List.set_cons_succ])
                | (apply SeqO.skipU
                   case ho => exact rfl
                   case hg => exact rfl
                   case hj => exact rfl
                   case hd => exact rfl
                   case ht => exact rfl
                   try simp only [Act.put, List.setIfInBounds_toArray, List.set_cons_zero, List.set_cons_succ])
                | (first
                   | (apply SeqO.step0
                      case ho => exact rfl
                      case hg => exact rfl)
                   | (apply SeqO.stepG
                      case ho => exact rfl
                      case hg => exact rfl
                      case hj => exact rfl
                      case hd => exact rfl
                      case ht => exact rfl)
                   intro K hK
                   go_simp
                   first
                   | (go_at_call 74; (with_reducible refine (HVY.out _ ZB.1).mono ?_); rintro e wx ⟨rfl, bx⟩; replace ZB := And.intro (Below.next ZB.1 bx) (ZB.2.later bx); clear bx; go_wp2_with fail)
                   | skip
                   | fail
                   refine hK.out _ _ ?_ (fun _ => ?_)
                   · exact HBOX.out _ ZB
                   clear hK K
                   try simp only [Act.put, List.setIfInBounds_toArray, List.set_cons_zero, List.set_cons_succ]))
              refine SeqO.done ?_
              refine NoPanic.normal ?_
              go_wp2_with fail
              exact ⟨⟨k + 1, by omega, by go_num, Lib.hid ZB.1⟩, by simp [intOf]; omega⟩
      · have t1 : decide (k < N) = false := by simpa using h1
        obtain ⟨x, hx⟩ : ∃ x, xs[0]? = some x := ⟨_, List.getElem?_eq_getElem (by rw [← HN.out]; omega)⟩
        obtain ⟨M, hM⟩ : ∃ M, M = N - 1 := ⟨_, rfl⟩
        obtain ⟨y, hy⟩ : ∃ y, xs[M]? = some y := ⟨_, List.getElem?_eq_getElem (by rw [← HN.out]; omega)⟩
        have hvx : ∀ (W : World), Below w1.heap.size w1 W → Calls Tryz.prog 74 #[.int .i64 0, .pointer (some ⟨w.heap.size, 0, none⟩)] W fun e w' => e = .returned (.int .i64 (x.val c)) ∧ Below W.heap.size W w' := fun W hW => HV.out W 0 x hx hW
        have hvy := fun W hW => HV.out W M y hy hW
        have hl := HC.out.left x hx
        have hr := HC.out.right y (by rw [← HN.out, ← hM]; exact hy)
        rw [← HN.out] at hr
        obtain ⟨F, hF⟩ : ∃ F, F = f + N := ⟨_, rfl⟩
        rw [← hF] at hr
        have hwM : IntKind.i64.wrap ((N : Int) - 1) = (M : Int) := by rw [hM]; simp [IntKind.wrap, IntKind.bits, IntKind.signed]; omega
        have hwF : IntKind.i64.wrap ((f : Int) + (N : Int)) = (F : Int) := by rw [hF]; simp [IntKind.wrap, IntKind.bits, IntKind.signed]; omega
        generalize x.val c = ux at *
        generalize y.val c = uy at *
        have hbox : ∀ W, Below w1.heap.size w1 W → (fun W => W.cell? ⟨w.heap.size, 5, none⟩ = some (.int .i64 (f : Int)) ∧ W.cell? ⟨w.heap.size, 2, none⟩ = some (.int .i64 lo) ∧ W.cell? ⟨w.heap.size, 4, none⟩ = some (.int .i64 (n : Int)) ∧ W.cell? ⟨w.heap.size, 3, none⟩ = some (.int .i64 hi)) W := by
          intro W hW
          have P := HP.out.later hW
          exact ⟨P.box.cell 5, P.box.cell 2, P.box.cell 4, P.box.cell 3⟩
        have HVX := Lib.hid hvx
        have HVY := Lib.hid hvy
        have HBOX := Lib.hid hbox
        have HL := Lib.hid hl
        have HRR := Lib.hid hr
        have Z := Below.next HR.out (Below.drew (Below.refl _ _))
        clear hvx hvy hbox hl hr hF hM hx hy zr HR
        go_wp2_with fail
        have hl := HL.out
        have hr := HRR.out
        clear HL HRR
        by_cases f0 : f = 0
        · have t2 : ((f : Int) == 0) = true := by simpa using f0
          clear f0 hl
          by_cases fn : F = n
          · have t3 : ((F : Int) == (n : Int)) = true := by rw [beq_iff_eq]; omega
            have t3' : (F == n) = true := by simpa using fn
            clear fn hr
            refine wp_region_noPanic ?_
            refine wp_region_ord (fun W => W.cell? ⟨w.heap.size, 5, none⟩ = some (.int .i64 (f : Int)) ∧ W.cell? ⟨w.heap.size, 2, none⟩ = some (.int .i64 lo) ∧ W.cell? ⟨w.heap.size, 4, none⟩ = some (.int .i64 (n : Int)) ∧ W.cell? ⟨w.heap.size, 3, none⟩ = some (.int .i64 hi)) [(0, true), (1, true), (2, true), (3, true), (4, false), (6, false), (7, false), (5, true), (8, true), (9, true), (10, true), (11, false), (12, false), (13, false), (14, false), (15, true), (16, true), (17, true), (18, true), (19, false), (20, false), (21, false), (23, false), (24, false), (22, true), (25, true), (26, true), (27, true), (28, true)] (by kernel_rfl) (by as_aux_lemma => kernel_rfl) (by rfl) (by as_aux_lemma => kernel_rfl) (fun _ _ _ _ _ h => h) (HBOX.out _ Z) (fun _ => ?_)
            repeat (first
              | (apply SeqO.take0
                 case ho => exact rfl
                 case hg => exact rfl
                 case hy => (intro w hSw; (try dsimp only at hSw); go_simp; try with_reducible rfl)
                 try simp only [Act.put, List.setIfInBounds_toArray, List.set_cons_zero, List.set_cons_succ])
              | (apply SeqO.takeG
                 case ho => exact rfl
                 case hg => exact rfl
                 case hj => exact rfl
                 case hd => exact rfl
                 case ht => exact rfl
                 case hy => (intro w hSw; (try dsimp only at hSw); go_simp; try with_reducible rfl)
                 try simp only [Act.put, List.setIfInBounds_toArray, List.set_cons_zero, List.set_cons_succ])
              | (apply SeqO.skipG
                 case ho => exact rfl
                 case hg => exact rfl
                 case hj => exact rfl
                 case hd => exact rfl
                 case ht => exact rfl
                 case hne => exact rfl
                 try simp only [Act.put, List.setIfInBounds_toArray, List.set_cons_zero, List.set_cons_succ])
              | (apply SeqO.skipU
                 case ho => exact rfl
                 case hg => exact rfl
                 case hj => exact rfl
                 case hd => exact rfl
                 case ht => exact rfl
                 try simp only [Act.put, List.setIfInBounds_toArray, List.set_cons_zero, List.set_cons_succ])
              | (first
                 | (apply SeqO.step0
                    case ho => exact rfl
                    case hg => exact rfl)
                 | (apply SeqO.stepG
                    case ho => exact rfl
                    case hg => exact rfl
                    case hj => exact rfl
                    case hd => exact rfl
                    case ht => exact rfl)
                 intro K hK
                 go_simp
                 first
                 | (go_at_call 74; (with_reducible refine (HVX.out _ Z).mono ?_); rintro e wx ⟨rfl, bx⟩; replace Z := Below.next Z bx; clear bx; go_wp2_with fail)
                 | (go_at_call 74; (with_reducible refine (HVY.out _ Z).mono ?_); rintro e wx ⟨rfl, bx⟩; replace Z := Below.next Z bx; clear bx; go_wp2_with fail)
                 | skip
                 | fail
                 refine hK.out _ _ ?_ (fun _ => ?_)
                 · exact HBOX.out _ Z
                 clear hK K
                 try simp only [Act.put, List.setIfInBounds_toArray, List.set_cons_zero, List.set_cons_succ]))
            refine SeqO.done ?_
            refine NoPanic.normal ?_
            go_wp2_with fail
            go_ret
            exact ⟨rfl, Below.next HA1.out Z⟩
          · have t3 : ((F : Int) == (n : Int)) = false := by rw [beq_eq_false_iff_ne]; omega
            have t3' : (F == n) = false := by simpa using fn
            have t4 : decide (hi < uy) = true := by simpa using hr.resolve_left fn
            clear fn hr
            refine wp_region_noPanic ?_
            refine wp_region_ord (fun W => W.cell? ⟨w.heap.size, 5, none⟩ = some (.int .i64 (f : Int)) ∧ W.cell? ⟨w.heap.size, 2, none⟩ = some (.int .i64 lo) ∧ W.cell? ⟨w.heap.size, 4, none⟩ = some (.int .i64 (n : Int)) ∧ W.cell? ⟨w.heap.size, 3, none⟩ = some (.int .i64 hi)) [(0, true), (1, true), (2, true), (3, true), (4, false), (6, false), (7, false), (5, true), (8, true), (9, true), (10, true), (11, false), (12, false), (13, false), (14, false), (15, true), (16, true), (17, true), (18, true), (19, false), (20, false), (21, false), (23, false), (24, false), (22, true), (25, true), (26, true), (27, true), (28, true)] (by kernel_rfl) (by as_aux_lemma => kernel_rfl) (by rfl) (by as_aux_lemma => kernel_rfl) (fun _ _ _ _ _ h => h) (HBOX.out _ Z) (fun _ => ?_)
            repeat (first
              | (apply SeqO.take0
                 case ho => exact rfl
                 case hg => exact rfl
                 case hy => (intro w hSw; (try dsimp only at hSw); go_simp; try with_reducible rfl)
                 try simp only [Act.put, List.setIfInBounds_toArray, List.set_cons_zero, List.set_cons_succ])
              | (apply SeqO.takeG
                 case ho => exact rfl
                 case hg => exact rfl
                 case hj => exact rfl
                 case hd => exact rfl
                 case ht => exact rfl
                 case hy => (intro w hSw; (try dsimp only at hSw); go_simp; try with_reducible rfl)
                 try simp only [Act.put, List.setIfInBounds_toArray, List.set_cons_zero, List.set_cons_succ])
              | (apply SeqO.skipG
                 case ho => exact rfl
                 case hg => exact rfl
                 case hj => exact rfl
                 case hd => exact rfl
                 case ht => exact rfl
                 case hne => exact rfl
                 try simp only [Act.put, List.setIfInBounds_toArray, List.set_cons_zero, List.set_cons_succ])
              | (apply SeqO.skipU
                 case ho => exact rfl
                 case hg => exact rfl
                 case hj => exact rfl
                 case hd => exact rfl
                 case ht => exact rfl
                 try simp only [Act.put, List.setIfInBounds_toArray, List.set_cons_zero, List.set_cons_succ])
              | (first
                 | (apply SeqO.step0
                    case ho => exact rfl
                    case hg => exact rfl)
                 | (apply SeqO.stepG
                    case ho => exact rfl
                    case hg => exact rfl
                    case hj => exact rfl
                    case hd => exact rfl
                    case ht => exact rfl)
                 intro K hK
                 go_simp
                 first
                 | (go_at_call 74; (with_reducible refine (HVX.out _ Z).mono ?_); rintro e wx ⟨rfl, bx⟩; replace Z := Below.next Z bx; clear bx; go_wp2_with fail)
                 | (go_at_call 74; (with_reducible refine (HVY.out _ Z).mono ?_); rintro e wx ⟨rfl, bx⟩; replace Z := Below.next Z bx; clear bx; go_wp2_with fail)
                 | skip
                 | fail
                 refine hK.out _ _ ?_ (fun _ => ?_)
                 · exact HBOX.out _ Z
                 clear hK K
                 try simp only [Act.put, List.setIfInBounds_toArray, List.set_cons_zero, List.set_cons_succ]))
            refine SeqO.done ?_
            refine NoPanic.normal ?_
            go_wp2_with fail
            go_ret
            exact ⟨rfl, Below.next HA1.out Z⟩
        · have t2 : ((f : Int) == 0) = false := by simpa using f0
          have t5 : decide (ux < lo) = true := by simpa using hl.resolve_left f0
          clear f0 hl
          by_cases fn : F = n
          · have t3 : ((F : Int) == (n : Int)) = true := by rw [beq_iff_eq]; omega
            have t3' : (F == n) = true := by simpa using fn
            clear fn hr
            refine wp_region_noPanic ?_
            refine wp_region_ord (fun W => W.cell? ⟨w.heap.size, 5, none⟩ = some (.int .i64 (f : Int)) ∧ W.cell? ⟨w.heap.size, 2, none⟩ = some (.int .i64 lo) ∧ W.cell? ⟨w.heap.size, 4, none⟩ = some (.int .i64 (n : Int)) ∧ W.cell? ⟨w.heap.size, 3, none⟩ = some (.int .i64 hi)) [(0, true), (1, true), (2, true), (3, true), (4, false), (6, false), (7, false), (5, true), (8, true), (9, true), (10, true), (11, false), (12, false), (13, false), (14, false), (15, true), (16, true), (17, true), (18, true), (19, false), (20, false), (21, false), (23, false), (24, false), (22, true), (25, true), (26, true), (27, true), (28, true)] (by kernel_rfl) (by as_aux_lemma => kernel_rfl) (by rfl) (by as_aux_lemma => kernel_rfl) (fun _ _ _ _ _ h => h) (HBOX.out _ Z) (fun _ => ?_)
            repeat (first
              | (apply SeqO.take0
                 case ho => exact rfl
                 case hg => exact rfl
                 case hy => (intro w hSw; (try dsimp only at hSw); go_simp; try with_reducible rfl)
                 try simp only [Act.put, List.setIfInBounds_toArray, List.set_cons_zero, List.set_cons_succ])
              | (apply SeqO.takeG
                 case ho => exact rfl
                 case hg => exact rfl
                 case hj => exact rfl
                 case hd => exact rfl
                 case ht => exact rfl
                 case hy => (intro w hSw; (try dsimp only at hSw); go_simp; try with_reducible rfl)
                 try simp only [Act.put, List.setIfInBounds_toArray, List.set_cons_zero, List.set_cons_succ])
              | (apply SeqO.skipG
                 case ho => exact rfl
                 case hg => exact rfl
                 case hj => exact rfl
                 case hd => exact rfl
                 case ht => exact rfl
                 case hne => exact rfl
                 try simp only [Act.put, List.setIfInBounds_toArray, List.set_cons_zero, List.set_cons_succ])
              | (apply SeqO.skipU
                 case ho => exact rfl
                 case hg => exact rfl
                 case hj => exact rfl
                 case hd => exact rfl
                 case ht => exact rfl
                 try simp only [Act.put, List.setIfInBounds_toArray, List.set_cons_zero, List.set_cons_succ])
              | (first
                 | (apply SeqO.step0
                    case ho => exact rfl
                    case hg => exact rfl)
                 | (apply SeqO.stepG
                    case ho => exact rfl
                    case hg => exact rfl
                    case hj => exact rfl
                    case hd => exact rfl
                    case ht => exact rfl)
                 intro K hK
                 go_simp
                 first
                 | (go_at_call 74; (with_reducible refine (HVX.out _ Z).mono ?_); rintro e wx ⟨rfl, bx⟩; replace Z := Below.next Z bx; clear bx; go_wp2_with fail)
                 | (go_at_call 74; (with_reducible refine (HVY.out _ Z).mono ?_); rintro e wx ⟨rfl, bx⟩; replace Z := Below.next Z bx; clear bx; go_wp2_with fail)
                 | skip
                 | fail
                 refine hK.out _ _ ?_ (fun _ => ?_)
                 · exact HBOX.out _ Z
                 clear hK K
                 try simp only [Act.put, List.setIfInBounds_toArray, List.set_cons_zero, List.set_cons_succ]))
            refine SeqO.done ?_
            refine NoPanic.normal ?_
            go_wp2_with fail
            go_ret
            exact ⟨rfl, Below.next HA1.out Z⟩
          · have t3 : ((F : Int) == (n : Int)) = false := by rw [beq_eq_false_iff_ne]; omega
            have t3' : (F == n) = false := by simpa using fn
            have t4 : decide (hi < uy) = true := by simpa using hr.resolve_left fn
            clear fn hr
            refine wp_region_noPanic ?_
            refine wp_region_ord (fun W => W.cell? ⟨w.heap.size, 5, none⟩ = some (.int .i64 (f : Int)) ∧ W.cell? ⟨w.heap.size, 2, none⟩ = some (.int .i64 lo) ∧ W.cell? ⟨w.heap.size, 4, none⟩ = some (.int .i64 (n : Int)) ∧ W.cell? ⟨w.heap.size, 3, none⟩ = some (.int .i64 hi)) [(0, true), (1, true), (2, true), (3, true), (4, false), (6, false), (7, false), (5, true), (8, true), (9, true), (10, true), (11, false), (12, false), (13, false), (14, false), (15, true), (16, true), (17, true), (18, true), (19, false), (20, false), (21, false), (23, false), (24, false), (22, true), (25, true), (26, true), (27, true), (28, true)] (by kernel_rfl) (by as_aux_lemma => kernel_rfl) (by rfl) (by as_aux_lemma => kernel_rfl) (fun _ _ _ _ _ h => h) (HBOX.out _ Z) (fun _ => ?_)
            repeat (first
              | (apply SeqO.take0
                 case ho => exact rfl
                 case hg => exact rfl
                 case hy => (intro w hSw; (try dsimp only at hSw); go_simp; try with_reducible rfl)
                 try simp only [Act.put, List.setIfInBounds_toArray, List.set_cons_zero, List.set_cons_succ])
              | (apply SeqO.takeG
                 case ho => exact rfl
                 case hg => exact rfl
                 case hj => exact rfl
                 case hd => exact rfl
                 case ht => exact rfl
                 case hy => (intro w hSw; (try dsimp only at hSw); go_simp; try with_reducible rfl)
                 try simp only [Act.put, List.setIfInBounds_toArray, List.set_cons_zero, List.set_cons_succ])
              | (apply SeqO.skipG
                 case ho => exact rfl
                 case hg => exact rfl
                 case hj => exact rfl
                 case hd => exact rfl
                 case ht => exact rfl
                 case hne => exact rfl
                 try simp only [Act.put, List.setIfInBounds_toArray, List.set_cons_zero, List.set_cons_succ])
              | (apply SeqO.skipU
                 case ho => exact rfl
                 case hg => exact rfl
                 case hj => exact rfl
                 case hd => exact rfl
                 case ht => exact rfl
                 try simp only [Act.put, List.setIfInBounds_toArray, List.set_cons_zero, List.set_cons_succ])
              | (first
                 | (apply SeqO.step0
                    case ho => exact rfl
                    case hg => exact rfl)
                 | (apply SeqO.stepG
                    case ho => exact rfl
                    case hg => exact rfl
                    case hj => exact rfl
                    case hd => exact rfl
                    case ht => exact rfl)
                 intro K hK
                 go_simp
                 first
                 | (go_at_call 74; (with_reducible refine (HVX.out _ Z).mono ?_); rintro e wx ⟨rfl, bx⟩; replace Z := Below.next Z bx; clear bx; go_wp2_with fail)
                 | (go_at_call 74; (with_reducible refine (HVY.out _ Z).mono ?_); rintro e wx ⟨rfl, bx⟩; replace Z := Below.next Z bx; clear bx; go_wp2_with fail)
                 | skip
                 | fail
                 refine hK.out _ _ ?_ (fun _ => ?_)
                 · exact HBOX.out _ Z
                 clear hK K
                 try simp only [Act.put, List.setIfInBounds_toArray, List.set_cons_zero, List.set_cons_succ]))
            refine SeqO.done ?_
            refine NoPanic.normal ?_
            go_wp2_with fail
            go_ret
            exact ⟨rfl, Below.next HA1.out Z⟩

end Go.Proofs.YtgbemgndbemllaaGreatDoor
