/- Joined: RdA RdB. -/
import Derived.Test.YtgbemgndbemllaaGreatDoorGj
import Derived.Test.YtgbemgndbemllaaGreatDoorQValA
import Derived.Test.YtgbemgndbemllaaGreatDoorGc
import Derived.Test.YtgbemgndbemllaaGreatDoorQAppR
import Derived.Test.YtgbemgndbemllaaGreatDoorQLogL

section
/- The reference's store: a state in memory; place, Get, After; SameRows; pick. -/
namespace Go.Proofs.YtgbemgndbemllaaGreatDoor
open Go Go.RowKit Go.Shelf
attribute [local go_sem] Oper.semAt_some

/-- pick -/
def pickI (c n : Int) : Int := (if c < 0 then -(c + 1) else c) % n
theorem pick_bounds (c n : Int) (h : 0 < n) : 0 ≤ pickI c n ∧ pickI c n < n := ⟨Int.emod_nonneg _ (by omega), Int.emod_lt_of_pos _ h⟩
theorem pick_ok (c n : Int) (h1 : 0 < n) (h2 : n ≤ 1000000) (hc : -9223372036854775808 ≤ c ∧ c ≤ 9223372036854775807) (w : World) :
    Calls Tryz.prog 10 #[.int .i64 c, .int .i64 n] w fun e w' => e = .returned (.int .i64 (pickI c n)) ∧ w' = w := by
  have t0 : (n == 0) = false := by simp; omega
  by_cases h : c < 0
  · have t1 : decide (c < 0) = true := by simpa using h
    have hw : IntKind.i64.wrap (c + 1) = c + 1 := by simp [IntKind.wrap, IntKind.bits, IntKind.signed]; omega
    have hw2 : IntKind.i64.wrap (-(c + 1)) = -(c + 1) := by simp [IntKind.wrap, IntKind.bits, IntKind.signed]; omega
    have hm : (-(c + 1)).tmod n = pickI c n := by
      unfold pickI
      rw [if_pos h, Int.tmod_eq_emod_of_nonneg (by omega)]
    have hb := pick_bounds c n h1
    have hw3 : IntKind.i64.wrap (pickI c n) = pickI c n := by simp [IntKind.wrap, IntKind.bits, IntKind.signed]; omega
    obtain ⟨P, hP⟩ : ∃ P, P = pickI c n := ⟨_, rfl⟩
    rw [← hP] at hm hw3 ⊢
    clear hP hb
    go_enter Tryz.func10, Tryz.ntmps10
    go_wp2_with fail
    go_ret
    exact ⟨rfl, rfl⟩
  · have t1 : decide (c < 0) = false := by simpa using h
    have hm : c.tmod n = pickI c n := by
      unfold pickI
      rw [if_neg h, Int.tmod_eq_emod_of_nonneg (by omega)]
    have hb := pick_bounds c n h1
    have hw3 : IntKind.i64.wrap (pickI c n) = pickI c n := by simp [IntKind.wrap, IntKind.bits, IntKind.signed]; omega
    obtain ⟨P, hP⟩ : ∃ P, P = pickI c n := ⟨_, rfl⟩
    rw [← hP] at hm hw3 ⊢
    clear hP hb
    go_enter Tryz.func10, Tryz.ntmps10
    go_wp2_with fail
    go_ret
    exact ⟨rfl, rfl⟩

noncomputable def fldRw (i : Nat) : Field := ((Tryz.prog.fieldsOf 67)[i]?).getD default
theorem run_eqRw (W : World) (a b c x y : Int) : (Op.equalIn 10000 67 (.agg #[.int .i64 a, .int .i64 b, .int .i64 c, .int .i64 x, .int .i64 y]) (.agg #[.int .i64 a, .int .i64 b, .int .i64 c, .int .i64 x, .int .i64 y])).run Tryz.prog W = .ok true W := by
  obtain ⟨i0, hi⟩ : ∃ i, Tryz.prog.info? 3 = some i := Option.isSome_iff_exists.1 (by kernel_rfl)
  obtain ⟨k0, hk⟩ : ∃ i, Tryz.prog.info? 63 = some i := Option.isSome_iff_exists.1 (by kernel_rfl)
  have hc3 : Tryz.prog.cellsOf 63 = 3 := by kernel_rfl
  have hf : (Tryz.prog.fieldsOf 67).toList = [fldRw 0, fldRw 1, fldRw 2] := by kernel_rfl
  have n0 : ((fldRw 0).name == "_") = false := by kernel_rfl
  have n1 : ((fldRw 1).name == "_") = false := by kernel_rfl
  have n2 : ((fldRw 2).name == "_") = false := by kernel_rfl
  have t0 : (fldRw 0).type = 3 := by kernel_rfl
  have t1 : (fldRw 1).type = 3 := by kernel_rfl
  have t2 : (fldRw 2).type = 63 := by kernel_rfl
  have o0 : (fldRw 0).offset = 0 := by kernel_rfl
  have o1 : (fldRw 1).offset = 1 := by kernel_rfl
  have o2 : (fldRw 2).offset = 2 := by kernel_rfl
  have m0 : (fldRw 0).name ≠ "_" := by simpa using n0
  have m1 : (fldRw 1).name ≠ "_" := by simpa using n1
  have m2 : (fldRw 2).name ≠ "_" := by simpa using n2
  have q := fun W => run_eq3d W 9997
  simp only [Nat.reduceAdd] at q
  rw [run_equalIn_struct (w := W) 9999 _ _ _ (by kernel_rfl) (by kernel_rfl), hf]
  simp only [Op.eqFields, t0, t1, t2, o0, o1, o2, if_pos m0, if_pos m1, if_pos m2]
  simp [part, run_sizeOf, hi, hk, hc3, run_equalIn_int, Tryz.underlying3, go_sem, q]
theorem guardRw : Tryz.prog.eqGuardType Tryz.prog.depth 67 = false := by kernel_rfl

set_option maxRecDepth 100000 in
set_option maxHeartbeats 4000000 in
theorem same_rows_ok (v1 v2 : Value) (xs : List Rw) (w : World) (hl : xs.length ≤ 2000) (h1 : RwsAt w v1 xs) (h2 : RwsAt w v2 xs) :
    Calls Tryz.prog 18 #[v1, v2] w fun e w' => e = .returned (.bool true) ∧ Below w.heap.size w w' := by
  obtain ⟨A1, c1, rfl, -⟩ := h1.form
  obtain ⟨A2, c2, rfl, -⟩ := h2.form
  obtain ⟨N, hN⟩ : ∃ N, N = xs.length := ⟨_, rfl⟩
  rw [← hN] at h1 h2 hl ⊢
  have HN := Lib.hid hN
  have H := Lib.hid (And.intro h1 h2)
  clear h1 h2 hN
  go_enter Tryz.func18, Tryz.ntmps18
  go_wp2_with fail
  go_loopw [5] (fun iv wr => ∃ k : Nat, k ≤ N ∧ iv = .int .i64 k ∧ Hid (Below w.heap.size w wr)) (fun iv _ => N - (intOf iv).toNat)
  case atStart => exact ⟨0, by omega, rfl, Lib.hid (Below.refl _ _)⟩
  case round =>
    obtain ⟨k, hk, rfl, HR⟩ := hrel
    by_cases hlt : k < N
    · obtain ⟨x, hx⟩ : ∃ x, xs[k]? = some x := ⟨_, List.getElem?_eq_getElem (by rw [← HN.out]; exact hlt)⟩
      obtain ⟨g1, o1, cc1, e1, -, -, r0, r1, r2, r3, r4⟩ := (H.out.1.below HR.out).at_ hx
      obtain ⟨g2, o2, cc2, e2, -, -, s0, s1, s2, s3, s4⟩ := (H.out.2.below HR.out).at_ hx
      injection e1 with ea eb ec
      subst ea ec
      clear eb
      injection e2 with ea eb ec
      subst ea ec
      clear eb
      obtain ⟨xt, xk, x0, x1, x2⟩ := x
      dsimp only at r0 r1 r2 r3 r4 s0 s1 s2 s3 s4
      have t1 : decide (k < N) = true := by simpa using hlt
      have q0 : (0 : Int) ≤ (k : Int) := by omega
      have q1 : (k : Int) < (N : Int) := by omega
      have Z := Below.next HR.out (Below.drew (Below.refl _ _))
      have HZ := Lib.hid Z
      clear Z hx
      have hq := fun W => run_eqRw W xt xk x0 x1 x2
      have hgr := guardRw
      go_wp2_with fail
      go_region
      go_wp2_with fail
      exact ⟨⟨k + 1, by omega, by go_num, HZ⟩, by simp [intOf]; omega⟩
    · have t1 : decide (k < N) = false := by simpa using hlt
      go_wp2_with fail
      go_ret
      exact ⟨rfl, HR.out⟩
end Go.Proofs.YtgbemgndbemllaaGreatDoor
end

section
/- The reference's store: a state in memory; New, place, Get. -/
namespace Go.Proofs.YtgbemgndbemllaaGreatDoor
open Go Go.RowKit Go.Shelf
attribute [local go_sem] Oper.semAt_some

/-- the reference's state s, in the block b -/
structure RSt (w : World) (b : Nat) (s : StT) : Prop where
  own : ∃ v, BlkIs w b 71 [v, .int .i64 s.pos] ∧ w.ownsRow (b + 1) 67 5 v s.rows.length (s.rows.flatMap rwC)
theorem RSt.box {w : World} {b : Nat} {s : StT} (h : RSt w b s) : ∃ v, BlkIs w b 71 [v, .int .i64 s.pos] ∧ RwsAt w v s.rows ∧ True := by
  obtain ⟨v, h1, h2⟩ := h.own
  exact ⟨v, h1, ownsRow_rws h2, trivial⟩
theorem RSt.lt {w : World} {b : Nat} {s : StT} (h : RSt w b s) : b < w.heap.size := by
  obtain ⟨v, h1, -⟩ := h.own
  exact h1.lt
theorem RSt.later {w w' : World} {b : Nat} {s : StT} (h : RSt w b s) (hb : Below w.heap.size w w') : RSt w' b s := by
  obtain ⟨v, h1, h2⟩ := h.own
  exact ⟨v, h1.later hb, ownsRow_later hb h2⟩

theorem rNew_ok (w : World) : Calls Tryz.prog 20 #[] w fun e w' => e = .returned (.pointer (some ⟨w.heap.size, 0, none⟩)) ∧ RSt w' w.heap.size st0 ∧ Below w.heap.size w w' ∧ w'.heap.size = w.heap.size + 1 := by
  have K := BlkIs.new w 71 #[.slice none 0 0, .int .i64 0]
  have b1 := Below.alloc1 w (.cells #[.slice none 0 0, .int .i64 0] 71)
  have hr : RSt (w.alloc (.cells #[.slice none 0 0, .int .i64 0] 71)) w.heap.size st0 := ⟨_, K, World.ownsRow_nil _ _ _ _⟩
  have H := Lib.hid (And.intro hr b1)
  clear K b1 hr
  go_enter Tryz.func20, Tryz.ntmps20
  go_wp2_with fail
  go_ret
  exact ⟨rfl, H.out.1, H.out.2, World.size_alloc _ _⟩

set_option maxRecDepth 100000 in
set_option maxHeartbeats 4000000 in
theorem place_ok (b : Nat) (s : StT) (t k : Int) (w : World) (h : RSt w b s) (hs : SortS s.rows) (hl : s.rows.length ≤ 3000) :
    Calls Tryz.prog 47 #[.pointer (some ⟨b, 0, none⟩), .int .i64 t, .int .i64 k] w fun e w' => e = .returned (.int .i64 ((lowN s.rows t k : Nat) : Int)) ∧ w' = w := by
  obtain ⟨v, K, hr, -⟩ := h.box
  have hiff := fun i x (hx : s.rows[i]? = some x) => hs.low_iff t k hx
  have hle := lowN_le s.rows t k
  obtain ⟨J, hJ⟩ : ∃ J, J = lowN s.rows t k := ⟨_, rfl⟩
  obtain ⟨A, c, rfl, -⟩ := hr.form
  obtain ⟨N, hN⟩ : ∃ N, N = s.rows.length := ⟨_, rfl⟩
  have c0 : w.cell? ⟨b, 0, none⟩ = some (.slice A N c) := by rw [hN]; exact K.cell 0
  rw [← hJ] at hiff hle ⊢
  rw [← hN] at hle hl hr
  have HI := Lib.hid hiff
  have HN := Lib.hid hN
  have HR := Lib.hid hr
  clear h K hs hiff hr hJ hN
  go_enter Tryz.func47, Tryz.ntmps47
  go_wp2_with fail
  go_loopw [7, 8] (fun lv hv wr => ∃ a d : Nat, lv = .int .i64 a ∧ hv = .int .i64 d ∧ a ≤ J ∧ J ≤ d ∧ d ≤ N ∧ wr = w) (fun lv hv _ => (intOf hv - intOf lv).toNat)
  case atStart => exact ⟨0, N, rfl, rfl, by omega, hle, by omega, rfl⟩
  case round =>
    obtain ⟨a, d, rfl, rfl, ha, hd, hdN, rfl⟩ := hrel
    by_cases hlt : a < d
    · have t1 : decide (a < d) = true := by simpa using hlt
      obtain ⟨m, hm⟩ : ∃ m : Nat, m = (a + d) / 2 := ⟨_, rfl⟩
      have hw2 : ((a : Int) + (d : Int)) / 2 = (m : Int) := by omega
      obtain ⟨x, hx⟩ : ∃ x, s.rows[m]? = some x := ⟨_, List.getElem?_eq_getElem (by rw [← HN.out]; omega)⟩
      obtain ⟨g, o, cc, e1, -, -, r0, r1, -⟩ := HR.out.at_ hx
      injection e1 with ea eb ec
      subst ea ec
      clear eb
      have hx2 := HI.out m x hx
      obtain ⟨xt, xk, x0, x1, x2⟩ := x
      dsimp only at r0 r1
      have q0 : (0 : Int) ≤ (m : Int) := by omega
      have q1 : (m : Int) < (N : Int) := by omega
      have hm1 : a ≤ m ∧ m < d := by omega
      clear hm hx
      by_cases d1 : xt < t
      · have hJ2 : m < J := hx2.1 (by simp [ltK, d1])
        have t2 : decide (xt < t) = true := by simpa using d1
        clear d1 hx2
        go_wp2_with fail
        exact ⟨⟨m + 1, d, by go_num, rfl, by omega, hd, hdN, by trivial⟩, by simp [intOf]; omega⟩
      · have t2 : decide (xt < t) = false := by simpa using d1
        by_cases d2 : xt = t
        · have t3 : (xt == t) = true := by simpa using d2
          by_cases d3 : xk < k
          · have hJ2 : m < J := hx2.1 (by simp [ltK, d2, d3])
            have t4 : decide (xk < k) = true := by simpa using d3
            clear d1 d2 d3 hx2
            go_wp2_with fail
            exact ⟨⟨m + 1, d, by go_num, rfl, by omega, hd, hdN, by trivial⟩, by simp [intOf]; omega⟩
          · have hJ2 : J ≤ m := Nat.le_of_not_lt fun h => by have := hx2.2 h; simp [ltK, d2, d3] at this
            have t4 : decide (xk < k) = false := by simpa using d3
            clear d1 d2 d3 hx2
            go_wp2_with fail
            exact ⟨⟨a, m, by trivial, by rw [hw2], ha, by omega, by omega, by trivial⟩, by simp [intOf]; omega⟩
        · have hJ2 : J ≤ m := Nat.le_of_not_lt fun h => by have := hx2.2 h; simp [ltK, d2] at this; omega
          have t3 : (xt == t) = false := by simpa using d2
          clear d1 d2 hx2
          go_wp2_with fail
          exact ⟨⟨a, m, by trivial, by rw [hw2], ha, by omega, by omega, by trivial⟩, by simp [intOf]; omega⟩
    · have t1 : decide (a < d) = false := by simpa using hlt
      obtain rfl : a = J := by omega
      go_wp2_with fail
      go_ret
      exact ⟨rfl, rfl⟩
/-- what Get yields -/
def getV (o : Option Rw) : Value := match o with
  | some x => rwV x
  | none => rwV rw0
set_option maxRecDepth 100000 in
set_option maxHeartbeats 4000000 in
theorem rGet_ok (b : Nat) (s : StT) (t k : Int) (w : World) (h : RSt w b s) (hs : SortS s.rows) (hl : s.rows.length ≤ 2000) :
    Calls Tryz.prog 21 #[.pointer (some ⟨b, 0, none⟩), .int .i64 t, .int .i64 k] w fun e w' => e = .returned (.tuple #[getV (getS s.rows t k), .bool (getS s.rows t k).isSome]) ∧ Below w.heap.size w w' := by
  obtain ⟨w1, hw1⟩ : ∃ W, W = w.alloc (.cells #[.int .i64 0, .int .i64 0, .int .i64 0, .int .i64 0, .int .i64 0] 67) := ⟨_, rfl⟩
  have a1 : Below w.heap.size w w1 := by rw [hw1]; exact Below.alloc1 w _
  have K1 : BlkIs w1 w.heap.size 67 [.int .i64 0, .int .i64 0, .int .i64 0, .int .i64 0, .int .i64 0] := by rw [hw1]; exact BlkIs.new w _ _
  have hpl := place_ok b s t k w1 (h.later a1) hs (by omega)
  have hlow := hs.low_get t k
  obtain ⟨v, K, hr, -⟩ := (h.later a1).box
  obtain ⟨J, hJ⟩ : ∃ J, J = lowN s.rows t k := ⟨_, rfl⟩
  have hle := lowN_le s.rows t k
  obtain ⟨A, c, rfl, -⟩ := hr.form
  obtain ⟨N, hN⟩ : ∃ N, N = s.rows.length := ⟨_, rfl⟩
  have c0 : w1.cell? ⟨b, 0, none⟩ = some (.slice A N c) := by rw [hN]; exact K.cell 0
  rw [← hJ] at hpl hlow hle
  rw [← hN] at hlow hle hl hr
  have z0 : w1.cell? ⟨w.heap.size, 0, none⟩ = some (.int .i64 0) := K1.cell 0
  have z1 : w1.cell? ⟨w.heap.size, 1, none⟩ = some (.int .i64 0) := K1.cell 1
  have z2 : w1.cell? ⟨w.heap.size, 2, none⟩ = some (.int .i64 0) := K1.cell 2
  have z3 : w1.cell? ⟨w.heap.size, 3, none⟩ = some (.int .i64 0) := K1.cell 3
  have z4 : w1.cell? ⟨w.heap.size, 4, none⟩ = some (.int .i64 0) := K1.cell 4
  have fz0 := K1.frozen 0
  have fz1 := K1.frozen 1
  have fz2 := K1.frozen 2
  have fz3 := K1.frozen 3
  have fz4 := K1.frozen 4
  have HK1 := Lib.hid K1
  have HA1 := Lib.hid a1
  have HPL := Lib.hid hpl
  have HR := Lib.hid hr
  have HN := Lib.hid hN
  have HW := Lib.hid hw1
  have q0 : (0 : Int) ≤ (J : Int) := by omega
  clear h hs hpl hr K K1 a1 hJ hN hw1
  obtain ⟨G, hG⟩ : ∃ G, G = getS s.rows t k := ⟨_, rfl⟩
  rw [← hG] at hlow ⊢
  clear hG
  go_enter Tryz.func21, Tryz.ntmps21
  go_wp2_with fail
  rw [← HW.out]
  refine (HPL.out).mono ?_
  rintro e w1 ⟨rfl, rfl⟩
  rcases hlow with ⟨x, hx, rfl, rfl, rfl⟩ | ⟨rfl, hno⟩
  · obtain ⟨g, o, cc, e1, -, -, r0, r1, r2, r3, r4⟩ := HR.out.at_ hx
    injection e1 with ea eb ec
    subst ea ec
    clear eb
    have hlt : J < N := by have := (List.getElem?_eq_some_iff.1 hx).1; rw [HN.out]; exact this
    obtain ⟨xt, xk, x0, x1, x2⟩ := x
    dsimp only at r0 r1 r2 r3 r4
    have t1 : decide (J < N) = true := by simpa using hlt
    have q1 : (J : Int) < (N : Int) := by omega
    have hKF := ((((HK1.out.set 0 (.int .i64 xt)).set 1 (.int .i64 xk)).set 2 (.int .i64 x0)).set 3 (.int .i64 x1)).set 4 (.int .i64 x2)
    have hbF := ((((HA1.out.setCell (p := ⟨w.heap.size, 0, none⟩) (Nat.le_refl _) (.int .i64 xt)).setCell (p := ⟨w.heap.size, 1, none⟩) (Nat.le_refl _) (.int .i64 xk)).setCell (p := ⟨w.heap.size, 2, none⟩) (Nat.le_refl _) (.int .i64 x0)).setCell (p := ⟨w.heap.size, 3, none⟩) (Nat.le_refl _) (.int .i64 x1)).setCell (p := ⟨w.heap.size, 4, none⟩) (Nat.le_refl _) (.int .i64 x2)
    have HF := Lib.hid (And.intro hKF hbF)
    clear hx hKF hbF
    go_wp2_with fail
    obtain ⟨hKF, hbF⟩ := HF.out
    generalize ((((w1.setCell ⟨w.heap.size, 0, none⟩ (.int .i64 xt)).setCell ⟨w.heap.size, 1, none⟩ (.int .i64 xk)).setCell ⟨w.heap.size, 2, none⟩ (.int .i64 x0)).setCell ⟨w.heap.size, 3, none⟩ (.int .i64 x1)).setCell ⟨w.heap.size, 4, none⟩ (.int .i64 x2) = w3 at *
    have y0 : w3.cell? ⟨w.heap.size, 0, none⟩ = some (.int .i64 xt) := hKF.cell 0
    have y1 : w3.cell? ⟨w.heap.size, 1, none⟩ = some (.int .i64 xk) := hKF.cell 1
    have y2 : w3.cell? ⟨w.heap.size, 2, none⟩ = some (.int .i64 x0) := hKF.cell 2
    have y3 : w3.cell? ⟨w.heap.size, 3, none⟩ = some (.int .i64 x1) := hKF.cell 3
    have y4 : w3.cell? ⟨w.heap.size, 4, none⟩ = some (.int .i64 x2) := hKF.cell 4
    refine bodyPost_ret (by simp [results, Tryz.results21, go_sem, y0, y1, y2, y3, y4]; try rfl) rfl ?_
    exact ⟨rfl, hbF⟩
  · have hKF := ((((HK1.out.set 0 (.int .i64 0)).set 1 (.int .i64 0)).set 2 (.int .i64 0)).set 3 (.int .i64 0)).set 4 (.int .i64 0)
    have hbF := ((((HA1.out.setCell (p := ⟨w.heap.size, 0, none⟩) (Nat.le_refl _) (.int .i64 0)).setCell (p := ⟨w.heap.size, 1, none⟩) (Nat.le_refl _) (.int .i64 0)).setCell (p := ⟨w.heap.size, 2, none⟩) (Nat.le_refl _) (.int .i64 0)).setCell (p := ⟨w.heap.size, 3, none⟩) (Nat.le_refl _) (.int .i64 0)).setCell (p := ⟨w.heap.size, 4, none⟩) (Nat.le_refl _) (.int .i64 0)
    have HF := Lib.hid (And.intro hKF hbF)
    clear hKF hbF
    rcases hno with hno | ⟨x, hx, hne⟩
    · have t1 : decide (J < N) = false := by simpa using hno
      clear hno
      go_wp2_with fail
      obtain ⟨hKF, hbF⟩ := HF.out
      generalize ((((w1.setCell ⟨w.heap.size, 0, none⟩ (.int .i64 0)).setCell ⟨w.heap.size, 1, none⟩ (.int .i64 0)).setCell ⟨w.heap.size, 2, none⟩ (.int .i64 0)).setCell ⟨w.heap.size, 3, none⟩ (.int .i64 0)).setCell ⟨w.heap.size, 4, none⟩ (.int .i64 0) = w3 at *
      have y0 : w3.cell? ⟨w.heap.size, 0, none⟩ = some (.int .i64 0) := hKF.cell 0
      have y1 : w3.cell? ⟨w.heap.size, 1, none⟩ = some (.int .i64 0) := hKF.cell 1
      have y2 : w3.cell? ⟨w.heap.size, 2, none⟩ = some (.int .i64 0) := hKF.cell 2
      have y3 : w3.cell? ⟨w.heap.size, 3, none⟩ = some (.int .i64 0) := hKF.cell 3
      have y4 : w3.cell? ⟨w.heap.size, 4, none⟩ = some (.int .i64 0) := hKF.cell 4
      refine bodyPost_ret (by simp [results, Tryz.results21, go_sem, y0, y1, y2, y3, y4]; try rfl) rfl ?_
      exact ⟨rfl, hbF⟩
    · obtain ⟨g, o, cc, e1, -, -, r0, r1, r2, r3, r4⟩ := HR.out.at_ hx
      injection e1 with ea eb ec
      subst ea ec
      clear eb
      have hlt : J < N := by have := (List.getElem?_eq_some_iff.1 hx).1; rw [HN.out]; exact this
      obtain ⟨xt, xk, x0, x1, x2⟩ := x
      dsimp only at r0 r1 r2 r3 r4 hne
      have t1 : decide (J < N) = true := by simpa using hlt
      have q1 : (J : Int) < (N : Int) := by omega
      clear hx
      by_cases d1 : xt = t
      · have t2 : (xt == t) = true := by simpa using d1
        have t3 : (xk == k) = false := by simpa using fun h => hne ⟨d1, h⟩
        clear d1 hne
        go_wp2_with fail
        obtain ⟨hKF, hbF⟩ := HF.out
        generalize ((((w1.setCell ⟨w.heap.size, 0, none⟩ (.int .i64 0)).setCell ⟨w.heap.size, 1, none⟩ (.int .i64 0)).setCell ⟨w.heap.size, 2, none⟩ (.int .i64 0)).setCell ⟨w.heap.size, 3, none⟩ (.int .i64 0)).setCell ⟨w.heap.size, 4, none⟩ (.int .i64 0) = w3 at *
        have y0 : w3.cell? ⟨w.heap.size, 0, none⟩ = some (.int .i64 0) := hKF.cell 0
        have y1 : w3.cell? ⟨w.heap.size, 1, none⟩ = some (.int .i64 0) := hKF.cell 1
        have y2 : w3.cell? ⟨w.heap.size, 2, none⟩ = some (.int .i64 0) := hKF.cell 2
        have y3 : w3.cell? ⟨w.heap.size, 3, none⟩ = some (.int .i64 0) := hKF.cell 3
        have y4 : w3.cell? ⟨w.heap.size, 4, none⟩ = some (.int .i64 0) := hKF.cell 4
        refine bodyPost_ret (by simp [results, Tryz.results21, go_sem, y0, y1, y2, y3, y4]; try rfl) rfl ?_
        exact ⟨rfl, hbF⟩
      · have t2 : (xt == t) = false := by simpa using d1
        clear d1 hne
        go_wp2_with fail
        obtain ⟨hKF, hbF⟩ := HF.out
        generalize ((((w1.setCell ⟨w.heap.size, 0, none⟩ (.int .i64 0)).setCell ⟨w.heap.size, 1, none⟩ (.int .i64 0)).setCell ⟨w.heap.size, 2, none⟩ (.int .i64 0)).setCell ⟨w.heap.size, 3, none⟩ (.int .i64 0)).setCell ⟨w.heap.size, 4, none⟩ (.int .i64 0) = w3 at *
        have y0 : w3.cell? ⟨w.heap.size, 0, none⟩ = some (.int .i64 0) := hKF.cell 0
        have y1 : w3.cell? ⟨w.heap.size, 1, none⟩ = some (.int .i64 0) := hKF.cell 1
        have y2 : w3.cell? ⟨w.heap.size, 2, none⟩ = some (.int .i64 0) := hKF.cell 2
        have y3 : w3.cell? ⟨w.heap.size, 3, none⟩ = some (.int .i64 0) := hKF.cell 3
        have y4 : w3.cell? ⟨w.heap.size, 4, none⟩ = some (.int .i64 0) := hKF.cell 4
        refine bodyPost_ret (by simp [results, Tryz.results21, go_sem, y0, y1, y2, y3, y4]; try rfl) rfl ?_
        exact ⟨rfl, hbF⟩
end Go.Proofs.YtgbemgndbemllaaGreatDoor
end

