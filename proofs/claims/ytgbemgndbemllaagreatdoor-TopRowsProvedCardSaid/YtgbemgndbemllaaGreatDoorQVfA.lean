/- Verify. -/
import Derived.Test.YtgbemgndbemllaaGreatDoorQCmA
import Derived.Test.YtgbemgndbemllaaGreatDoorGk
import Derived.Test.YtgbemgndbemllaaGreatDoorGf
import Derived.Test.YtgbemgndbemllaaGreatDoorQPutB
namespace Go.Proofs.YtgbemgndbemllaaGreatDoor
open Go Go.RowKit Go.Shelf
attribute [local go_sem] Oper.semAt_some

/-- a slice of lists of strings -/
def PathsAt (w : World) (v : Value) (ps : List (List (List UInt8))) : Prop :=
  ∃ A c, v = .slice A ps.length c ∧ ∀ (j : Nat) p, ps[j]? = some p → ∃ g o pv, A = some ⟨g, o, none⟩ ∧ g < w.heap.size ∧ w.cell? ⟨g, o + j, none⟩ = some pv ∧ ListAt w pv p
theorem PathsAt.below {w w' : World} {v : Value} {ps : List (List (List UInt8))} (h : PathsAt w v ps) (hb : Below w.heap.size w w') : PathsAt w' v ps := by
  obtain ⟨A, c, e, h⟩ := h
  refine ⟨A, c, e, fun j p hp => ?_⟩
  obtain ⟨g, o, pv, e, hg, hc, hl⟩ := h j p hp
  exact ⟨g, o, pv, e, Nat.lt_of_lt_of_le hg hb.size, (hb.cell (p := ⟨g, o + j, none⟩) hg).trans hc, hl.below hb⟩
/-- what Verify reads -/
structure VfW (w : World) (pb : Nat) (t c lo hi : Int) (n f : Nat) (v1 v2 v3 : Value) (xs : List Rw) (ps : List (List (List UInt8))) (sums : List (List UInt8)) : Prop where
  at_ : PfW w pb t c lo hi n f v1 v2 v3 xs
  paths : PathsAt w v2 ps
  sums : ListAt w v3 sums
theorem VfW.later {w w' : World} {pb : Nat} {t c lo hi : Int} {n f : Nat} {v1 v2 v3 : Value} {xs : List Rw} {ps : List (List (List UInt8))} {sums : List (List UInt8)} (h : VfW w pb t c lo hi n f v1 v2 v3 xs ps sums) (hb : Below w.heap.size w w') : VfW w' pb t c lo hi n f v1 v2 v3 xs ps sums := ⟨h.at_.later hb, h.paths.below hb, h.sums.below hb⟩

set_option maxRecDepth 100000 in
set_option maxHeartbeats 16000000 in
theorem pverify_ok (R d : List UInt8) (t c lo hi : Int) (n f : Nat) (v1 v2 v3 : Value) (xs : List Rw) (ps : List (List (List UInt8))) (sums : List (List UInt8)) (ht1 : 0 ≤ t) (ht2 : t ≤ 3) (hc1 : 0 ≤ c) (hc2 : c ≤ 3) (hlh : lo ≤ hi) (w : World) (hv : RwsAt w v1 xs) (h2 : PathsAt w v2 ps) (h3 : ListAt w v3 sums) (hC : CompleteO n f xs t c lo hi)
    (hps : ps.length = xs.length) (hs16 : sums.length = 16) (hsl : ∀ x ∈ sums, x.length ≤ 900000) (hR : RoundOk w) (hroot : rootL sums = R) (hd : sums[(4 * t + c).toNat]? = some (putL (n : Int) ++ d)) (hdl : d.length = 32) (h0 : n = 0 → rootL [] = d)
    (hver : ∀ k x p, xs[k]? = some x → ps[k]? = some p → verB d (n : Int) ((f + k : Nat) : Int) (encRow x) p = true ∧ p.length ≤ 100) :
    Calls Tryz.prog 17 #[.string (str R), pfV t c lo hi n f v1 v2 v3] w fun e w' => e = .returned (.bool true) ∧ Below w.heap.size w w' := by
  have hl2 : ∃ A l cc, v2 = .slice A l cc := by obtain ⟨A, cc, e, -⟩ := h2; exact ⟨A, _, cc, e⟩
  have hl3 : ∃ A l cc, v3 = .slice A l cc := by obtain ⟨A, cc, e⟩ := h3.len; exact ⟨A, _, cc, e⟩
  have hcm := fun W (hW : Below w.heap.size w W) => complete_ok t c lo hi n f v1 v2 v3 xs ht1 ht2 hc1 hc2 hlh W (hv.below hW) hl2 hl3 hC
  clear hl2 hl3
  obtain ⟨A1, c1, rfl, -⟩ := hv.form
  obtain ⟨A2, c2, rfl, h2'⟩ := id h2
  obtain ⟨A3, c3, rfl⟩ := h3.len
  clear h2'
  obtain ⟨N, hN⟩ : ∃ N, N = xs.length := ⟨_, rfl⟩
  rw [hps, ← hN] at h2 hcm ⊢
  rw [← hN] at hv
  rw [hs16] at h3 hcm ⊢
  obtain ⟨w1, hw1⟩ : ∃ w1, w1 = w.alloc (.cells #[.int .i64 t, .int .i64 c, .int .i64 lo, .int .i64 hi, .int .i64 (n : Int), .int .i64 (f : Int), .slice A1 N c1, .slice A2 N c2, .slice A3 16 c3] 51) := ⟨_, rfl⟩
  have a1 : Below w.heap.size w w1 := by rw [hw1]; exact Below.alloc1 w _
  have hP : VfW w1 w.heap.size t c lo hi n f (.slice A1 N c1) (.slice A2 N c2) (.slice A3 16 c3) xs ps sums := ⟨⟨by rw [hw1]; exact BlkIs.new w _ #[.int .i64 t, .int .i64 c, .int .i64 lo, .int .i64 hi, .int .i64 (n : Int), .int .i64 (f : Int), .slice A1 N c1, .slice A2 N c2, .slice A3 16 c3], hv.below a1⟩, h2.below a1, h3.below a1⟩
  have k0 : w1.cell? ⟨w.heap.size, 0, none⟩ = some (.int .i64 t) := hP.at_.box.cell 0
  have k1 : w1.cell? ⟨w.heap.size, 1, none⟩ = some (.int .i64 c) := hP.at_.box.cell 1
  have k2 : w1.cell? ⟨w.heap.size, 2, none⟩ = some (.int .i64 lo) := hP.at_.box.cell 2
  have k3 : w1.cell? ⟨w.heap.size, 3, none⟩ = some (.int .i64 hi) := hP.at_.box.cell 3
  have k4 : w1.cell? ⟨w.heap.size, 4, none⟩ = some (.int .i64 (n : Int)) := hP.at_.box.cell 4
  have k5 : w1.cell? ⟨w.heap.size, 5, none⟩ = some (.int .i64 (f : Int)) := hP.at_.box.cell 5
  have k6 : w1.cell? ⟨w.heap.size, 6, none⟩ = some (Value.slice A1 N c1) := hP.at_.box.cell 6
  have k7 : w1.cell? ⟨w.heap.size, 7, none⟩ = some (Value.slice A2 N c2) := hP.at_.box.cell 7
  have k8 : w1.cell? ⟨w.heap.size, 8, none⟩ = some (Value.slice A3 16 c3) := hP.at_.box.cell 8
  have hc := hcm w1 a1
  have hn2 : n ≤ 2000 := hC.small
  have hfN : f + N ≤ n := by have := hC.fits; omega
  have hN0 : N = 0 → n = 0 := fun h => hC.none_ (by rw [← hN]; exact h)
  have hroots : ∀ W, Below w1.heap.size w1 W → Calls Tryz.prog 25 #[Value.slice A3 16 c3] W fun e w' => e = .returned (.string (str R)) ∧ Below W.heap.size W w' := fun W hW => by
    rw [← hroot]
    exact root_list _ sums W (hP.later hW).sums (by omega) hsl ((hR.later a1).later hW)
  have hput := fun W => putInt_ok (n : Int) (by omega) (by omega) W
  change ∀ W, Calls Tryz.prog 43 #[.int .i64 (n : Int)] W fun e w' => e = .returned (.tuple #[.string (str (putL (n : Int))), .int .i64 0]) ∧ Below W.heap.size W w' at hput
  have hpl : (putL (n : Int)).length ≤ 900000 := by
    have := hsl _ (List.mem_of_getElem? hd)
    rw [List.length_append] at this
    omega
  obtain ⟨PN, hPN⟩ : ∃ P, P = putL (n : Int) := ⟨_, rfl⟩
  rw [← hPN] at hput hd hpl
  obtain ⟨I, hI⟩ : ∃ I, I = (4 * t + c).toNat := ⟨_, rfl⟩
  rw [← hI] at hd
  have hI16 : I < 16 := by omega
  have hw4 : IntKind.i64.wrap (4 * t) = 4 * t := by simp [IntKind.wrap, IntKind.bits, IntKind.signed]; omega
  have hwI : IntKind.i64.wrap (4 * t + c) = (I : Int) := by rw [hI]; simp [IntKind.wrap, IntKind.bits, IntKind.signed]; omega
  have hsum : ∀ W, Below w1.heap.size w1 W → ∃ g o, A3 = some ⟨g, o, none⟩ ∧ W.cell? ⟨g, o + I, none⟩ = some (.string (str (PN ++ d))) := fun W hW => by
    obtain ⟨g, o, cc, e, hr⟩ := (hP.later hW).sums.rows (by rintro rfl; simp at hs16)
    injection e with e1 e2 e3
    exact ⟨g, o, e1, hr.2.2.2.2 I _ hd⟩
  have q0 : (0 : Int) ≤ (I : Int) := by omega
  have q1 : (I : Int) < 16 := by omega
  have HP := Lib.hid hP
  have HA1 := Lib.hid a1
  have HC := Lib.hid hC
  have HN := Lib.hid hN
  have HW := Lib.hid hw1
  have HCM := Lib.hid hc
  have HROOT := Lib.hid hroots
  have HPUT := Lib.hid hput
  have HSUM := Lib.hid hsum
  have HVER := Lib.hid hver
  have HR := Lib.hid (hR.later a1)
  have HPS := Lib.hid hps
  have HDL := Lib.hid hdl
  have HH0 := Lib.hid h0
  have HN0 := Lib.hid hN0
  clear hcm hc hP hv h2 h3 hC hN a1 hw1 ht1 ht2 hc1 hc2 hlh hroots hput hsum hver hR hps hs16 hsl hroot hd hdl h0 hN0 hPN hI
  unfold pfV at HCM ⊢
  obtain ⟨g3, o3, rfl, s3⟩ := HSUM.out w1 (Below.refl _ _)
  clear s3
  go_enter Tryz.func17, Tryz.ntmps17
  go_wp2_with fail
  rw [← HW.out]
  refine (HCM.out).mono ?_
  rintro e w2 ⟨rfl, b2⟩
  have P2 := HP.out.later b2
  have k6 : w2.cell? ⟨w.heap.size, 6, none⟩ = some (Value.slice A1 N c1) := P2.at_.box.cell 6
  have k7 : w2.cell? ⟨w.heap.size, 7, none⟩ = some (Value.slice A2 N c2) := P2.at_.box.cell 7
  have k8 : w2.cell? ⟨w.heap.size, 8, none⟩ = some (Value.slice (some ⟨g3, o3, none⟩) 16 c3) := P2.at_.box.cell 8
  have hrt := HROOT.out w2 b2
  have HB2 := Lib.hid b2
  have HRT := Lib.hid hrt
  clear b2 P2 k0 k1 k2 k3 k4 k5 hrt
  go_wp2_with fail
  refine (HRT.out).mono ?_
  rintro e w3 ⟨rfl, b3⟩
  have hb3 := Below.next HB2.out b3
  have P3 := HP.out.later hb3
  have HB3 := Lib.hid hb3
  have k4 : w3.cell? ⟨w.heap.size, 4, none⟩ = some (.int .i64 (n : Int)) := P3.at_.box.cell 4
  clear k6 k7 k8 HRT b3 hb3 P3
  go_wp2_with fail
  refine (HPUT.out w3).mono ?_
  rintro e w4 ⟨rfl, b4⟩
  have hb4 := Below.next HB3.out b4
  have P4 := HP.out.later hb4
  have HB4 := Lib.hid hb4
  have k0 : w4.cell? ⟨w.heap.size, 0, none⟩ = some (.int .i64 t) := P4.at_.box.cell 0
  have k1 : w4.cell? ⟨w.heap.size, 1, none⟩ = some (.int .i64 c) := P4.at_.box.cell 1
  have k4 : w4.cell? ⟨w.heap.size, 4, none⟩ = some (.int .i64 (n : Int)) := P4.at_.box.cell 4
  have k6 : w4.cell? ⟨w.heap.size, 6, none⟩ = some (Value.slice A1 N c1) := P4.at_.box.cell 6
  have k8 : w4.cell? ⟨w.heap.size, 8, none⟩ = some (Value.slice (some ⟨g3, o3, none⟩) 16 c3) := P4.at_.box.cell 8
  obtain ⟨g3', o3', e3, s3⟩ := HSUM.out w4 hb4
  injection e3 with e3
  injection e3 with e4 e5
  subst e4 e5
  clear b4 hb4 P4
  have hdl := HDL.out
  obtain ⟨S, hS⟩ : ∃ S, S = PN ++ d := ⟨_, rfl⟩
  have hSl : S.length = PN.length + 32 := by rw [hS, List.length_append, hdl]
  have hx1 : (str S).extract 0 PN.length = str PN := by
    rw [hS]
    apply ByteArray.ext
    simp [str]
  have hx2 : (str S).extract PN.length (PN.length + 32) = str d := by
    rw [hS, ← hdl]
    apply ByteArray.ext
    simp [str]
  have hwL : IntKind.i64.wrap ((PN.length : Int) + 32) = (PN.length : Int) + 32 := by simp [IntKind.wrap, IntKind.bits, IntKind.signed]; omega
  rw [← hS] at s3
  clear hS hdl
  by_cases hn0 : n = 0
  · have tn : ((n : Int) == 0) = true := by simp [hn0]
    go_wp2_with fail
    have he : Calls Tryz.prog 25 #[.slice none 0 0] w4 fun e w' => e = .returned (.string (str d)) ∧ Below w4.heap.size w4 w' := by
      rw [← HH0.out hn0]
      exact root_list _ [] w4 (.inl ⟨rfl, none, 0, rfl⟩) (by decide) (by simp) (HR.out.later HB4.out)
    refine he.mono ?_
    rintro e w5 ⟨rfl, b5⟩
    clear he
    go_wp2_with fail
    go_ret
    exact ⟨rfl, Below.next HA1.out (Below.next HB4.out b5)⟩
  · have tn : ((n : Int) == 0) = false := by simpa using hn0
    go_wp2_with fail
    clear tn hn0 k0 k1 k4 k6 k8 s3 hx1 hx2 hwL hSl
    go_loopw [81] (fun iv wr => ∃ k : Nat, k ≤ N ∧ iv = .int .i64 k ∧ Hid (Below w1.heap.size w1 wr)) (fun iv _ => N - (intOf iv).toNat)
    case atStart => exact ⟨0, by omega, rfl, HB4⟩
    case round =>
      obtain ⟨k, hk, rfl, HRR⟩ := hrel
      have zr := HP.out.later HRR.out
      by_cases h1 : k < N
      · obtain ⟨x, hx⟩ : ∃ x, xs[k]? = some x := ⟨_, List.getElem?_eq_getElem (by rw [← HN.out]; exact h1)⟩
        obtain ⟨p, hp⟩ : ∃ p, ps[k]? = some p := ⟨_, List.getElem?_eq_getElem (by rw [HPS.out, ← HN.out]; exact h1)⟩
        obtain ⟨gr, ro, rc, hrv, -, hgr, r0, r1, r2, r3, r4⟩ := zr.at_.rows.at_ hx
        injection hrv with er1 er2 er3
        subst er1 er3
        clear er2
        obtain ⟨A', c', e', hpp⟩ := zr.paths
        injection e' with ea1 ea2 ea3
        subst ea1 ea3
        clear ea2
        obtain ⟨g2, o2, pv, rfl, hg2, hpc, hpl2⟩ := hpp k p hp
        clear hpp
        obtain ⟨hvb, hpn⟩ := HVER.out k x p hx hp
        have hrow := (HC.out.rows k x hx).1
        have henc := fun W => encRow_ok x hrow W
        have elen : (encRow x).length ≤ 50 := encRow_len x
        obtain ⟨E, hE⟩ : ∃ E, E = encRow x := ⟨_, rfl⟩
        rw [← hE] at henc hvb elen
        obtain ⟨J, hJ⟩ : ∃ J, J = f + k := ⟨_, rfl⟩
        have hwJ : IntKind.i64.wrap ((f : Int) + (k : Int)) = (J : Int) := by rw [hJ]; simp [IntKind.wrap, IntKind.bits, IntKind.signed]; omega
        rw [← hJ] at hvb
        have hvf : ∀ W, Below w1.heap.size w1 W → Below wr.heap.size wr W → Calls Tryz.prog 33 #[.string (str d), .int .i64 (n : Int), .int .i64 (J : Int), .string (str E), pv] W fun e w' => e = .returned (.bool true) ∧ Below W.heap.size W w' := fun W hW hW2 => by
          have := ver_any (str d) (str E) (n : Int) (J : Int) pv p W (hpl2.below hW2) (by omega) hpn (by simp [ByteArray.size]; omega) (HR.out.later hW)
          rw [show (str d).data.toList = d from rfl, show (str E).data.toList = E from rfl, hvb] at this
          exact this
        have a2 := Below.alloc1 wr (.cells (rwC x).toArray 67)
        have Kx := BlkIs.new wr 67 (rwC x).toArray
        obtain ⟨xt, xk, x0, x1, x2⟩ := x
        unfold rwV at henc
        unfold rwC at a2 Kx
        dsimp only at henc a2 Kx r0 r1 r2 r3 r4
        obtain ⟨w5, hw5⟩ : ∃ W, W = wr.alloc (.cells #[.int .i64 xt, .int .i64 xk, .int .i64 x0, .int .i64 x1, .int .i64 x2] 67) := ⟨_, rfl⟩
        rw [← hw5] at a2 Kx
        have q2 : (0 : Int) ≤ (k : Int) := by omega
        have q3 : (k : Int) < (N : Int) := by omega
        have t1 : decide (k < N) = true := by simpa using h1
        have hlb : w.heap.size < w1.heap.size := HP.out.at_.box.lt
        have hbox : ∀ W, Below wr.heap.size wr W → (fun W => W.cell? ⟨w.heap.size, 4, none⟩ = some (.int .i64 (n : Int)) ∧ W.cell? ⟨w.heap.size, 5, none⟩ = some (.int .i64 (f : Int)) ∧ W.cell? ⟨w.heap.size, 7, none⟩ = some (.slice (some ⟨g2, o2, none⟩) N c2) ∧ W.cell? ⟨g2, o2 + k, none⟩ = some pv) W := fun W hW =>
          ⟨(zr.later hW).at_.box.cell 4, (zr.later hW).at_.box.cell 5, (zr.later hW).at_.box.cell 7, (hW.cell (p := ⟨g2, o2 + k, none⟩) hg2).trans hpc⟩
        have HBOX := Lib.hid hbox
        have HENC := Lib.hid henc
        have HVF := Lib.hid (fun (W : World) (h : Below wr.heap.size wr W) => hvf W (Below.next HRR.out h) h)
        have HA := Lib.hid a2
        have HW5 := Lib.hid hw5
        clear henc hvf hbox a2 hw5 zr hx hp hpc hpl2 hvb hpn hrow hE hJ elen Kx
        go_wp2_with fail
        rw [← HW5.out]
        refine (HENC.out w5).mono ?_
        rintro e w6 ⟨rfl, b6⟩
        have Z := Below.next HA.out b6
        clear b6 HA HW5 r0 r1 r2 r3 r4
        go_wp2_with fail
        replace Z := Below.drew Z
        refine wp_region_noPanic ?_
        refine wp_region_ord (fun W => W.cell? ⟨w.heap.size, 4, none⟩ = some (.int .i64 (n : Int)) ∧ W.cell? ⟨w.heap.size, 5, none⟩ = some (.int .i64 (f : Int)) ∧ W.cell? ⟨w.heap.size, 7, none⟩ = some (.slice (some ⟨g2, o2, none⟩) N c2) ∧ W.cell? ⟨g2, o2 + k, none⟩ = some pv) [(0, false), (1, false), (2, false), (3, false), (4, false), (5, false), (6, false), (7, false), (8, false), (9, false), (10, false), (11, false), (12, false), (13, true), (14, true)] (by kernel_rfl) (by as_aux_lemma => kernel_rfl) (by rfl) (by as_aux_lemma => kernel_rfl) (fun _ _ _ _ _ h => h) (HBOX.out _ Z) (fun _ => ?_)
        repeat (first
          | (apply SeqO.take0
             case ho => exact rfl
             case hg => exact rfl
             case hy => (intro w hSw; (try dsimp only at hSw); go_simp; try with_reducible rfl)
             try simp only [Act.put, List.setIfInBounds_toArray, List.set_cons_zero, List.set_cons_succ])
          | (apply SeqO.takeG
             case ho => exact rfl
             case hg => exact rfl
             case hj => exact rfl
             case hd => exact rfl
             case ht => exact rfl
             case hy => (intro w hSw; (try dsimp only at hSw); go_simp; try with_reducible rfl)
             try simp only [Act.put, List.setIfInBounds_toArray, List.set_cons_zero, List.set_cons_succ])
          | (apply SeqO.skipG
             case ho => exact rfl
             case hg => exact rfl
             case hj => exact rfl
             case hd => exact rfl
             case ht => exact rfl
             case hne => exact rfl
             try simp only [Act.put, List.setIfInBounds_toArray, List.set_cons_zero, List.set_cons_succ])
          | (first
             | (apply SeqO.step0
                case ho => exact rfl
                case hg => exact rfl)
             | (apply SeqO.stepG
                case ho => exact rfl
                case hg => exact rfl
                case hj => exact rfl
                case hd => exact rfl
                case ht => exact rfl)
             intro K hK
             go_simp
             first
             | (go_at_call 33; (with_reducible refine (HVF.out _ Z).mono ?_); rintro e wx ⟨rfl, bx⟩; replace Z := Below.next Z bx; clear bx; go_wp2_with fail)
             | skip
             | fail
             refine hK.out _ _ ?_ (fun _ => ?_)
             · exact HBOX.out _ Z
             clear hK K
             try simp only [Act.put, List.setIfInBounds_toArray, List.set_cons_zero, List.set_cons_succ]))
        refine SeqO.done ?_
        refine NoPanic.normal ?_
        go_wp2_with fail
        exact ⟨⟨k + 1, by omega, by go_num, Lib.hid (Below.next HRR.out Z)⟩, by simp [intOf]; omega⟩
      · have t1 : decide (k < N) = false := by simpa using h1
        clear zr
        go_wp2_with fail
        go_ret
        exact ⟨rfl, Below.next HA1.out HRR.out⟩
end Go.Proofs.YtgbemgndbemllaaGreatDoor
