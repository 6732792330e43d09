/- The reference's session. -/
import Derived.Test.YtejehdmllicfcaaDoorSesD
import Derived.Deep.QuietTactic
import Derived.BigQuiet
namespace Go.Proofs.YtejehdmllicfcaaDoor
open Go Go.RowKit

/-- block b is a session of the reference whose token is t -/
def RefIs (w : World) (b : Nat) (t : Int) : Prop := BlkIs w b 28 [.int .i64 t]
theorem RefIs.cell {w : World} {b : Nat} {t : Int} (h : RefIs w b t) : w.cell? ⟨b, 0, none⟩ = some (.int .i64 t) := BlkIs.cell h 0
theorem RefIs.frozen {w : World} {b : Nat} {t : Int} (h : RefIs w b t) : w.frozen? ⟨b, 0, none⟩ = false := BlkIs.frozen h 0
theorem setR {w : World} {b : Nat} {t : Int} (h : RefIs w b t) (u : Int) : RefIs (w.setCell ⟨b, 0, none⟩ (.int .i64 u)) b u := BlkIs.set h 0 (.int .i64 u)
theorem RefIs.later {w w' : World} {b : Nat} {t : Int} (h : RefIs w b t) (hb : Below w.heap.size w w') : RefIs w' b t := BlkIs.later h hb

theorem rPos_any (n : Int) (w : World) :
    Calls Tryd.prog 31 #[.int .i64 n] w fun e w' => e = .returned (.bool (decide (0 ≤ n ∧ n ≤ 10000))) ∧ w = w' := by
  by_cases h1 : 0 ≤ n
  · by_cases h2 : n ≤ 10000
    · have e : decide (0 ≤ n ∧ n ≤ 10000) = true := by simpa using ⟨h1, h2⟩
      rw [e]
      clear e
      go_enter Tryd.func31, Tryd.ntmps31
      go_wp2_with fail
      go_ret
      exact ⟨rfl, rfl⟩
    · have e : decide (0 ≤ n ∧ n ≤ 10000) = false := by simpa using fun _ => by omega
      rw [e]
      clear e
      have h3 : decide (n ≤ 10000) = false := by simpa using h2
      go_enter Tryd.func31, Tryd.ntmps31
      go_wp2_with fail
      go_ret
      exact ⟨rfl, rfl⟩
  · have e : decide (0 ≤ n ∧ n ≤ 10000) = false := by rw [decide_eq_false_iff_not]; omega
    rw [e]
    clear e
    have h3 : decide (0 ≤ n) = false := by simpa using h1
    go_enter Tryd.func31, Tryd.ntmps31
    go_wp2_with fail
    go_ret
    exact ⟨rfl, rfl⟩

set_option maxHeartbeats 1000000 in
theorem rWrote_ok (w : World) (b : Nat) (t n : Int) (h : RefIs w b t) :
    Calls Tryd.prog 16 #[.pointer (some ⟨b, 0, none⟩), .int .i64 n] w fun e w' => e = .returned (.tuple #[]) ∧ RefIs w' b (wroteS t n) ∧ Upd b w w' := by
  have hc := h.cell
  have hf := h.frozen
  have hm : (if t < n then n else t) = raiseS t n := rfl
  by_cases hp : 0 ≤ n ∧ n ≤ 10000
  · have hd : decide (0 ≤ n ∧ n ≤ 10000) = true := by simpa using hp
    have hv : wroteS t n = raiseS t n := by rw [wroteS, if_pos hp]
    rw [hv]
    clear hv hp
    have HD := Lib.hid hd
    clear hd
    go_enter Tryd.func16, Tryd.ntmps16
    go_wp2_with fail
    refine (rPos_any n _).mono ?_
    rintro e w' ⟨rfl, rfl⟩
    rw [HD.out]
    go_wp2_with fail
    go_returns
    exact ⟨rfl, setR h _, Upd.setCell b 0 _ _⟩
  · have hd : decide (0 ≤ n ∧ n ≤ 10000) = false := by simpa using hp
    have hv : wroteS t n = t := by rw [wroteS, if_neg hp]
    rw [hv]
    clear hv hp
    have HD := Lib.hid hd
    clear hd
    go_enter Tryd.func16, Tryd.ntmps16
    go_wp2_with fail
    refine (rPos_any n _).mono ?_
    rintro e w' ⟨rfl, rfl⟩
    rw [HD.out]
    go_wp2_with fail
    go_returns
    exact ⟨rfl, h, Upd.refl _ _⟩

set_option maxRecDepth 100000 in
set_option maxHeartbeats 4000000 in
theorem rAllows_ok (w : World) (b : Nat) (t m n : Int) (h : RefIs w b t) (a0 a1 a2 a3 a4 a5 a6 a7 a8 a9 b0 b1 b2 : Value) :
    Calls Tryd.prog 14 #[.pointer (some ⟨b, 0, none⟩), .agg #[a0, a1, a2, a3, a4, a5, a6, a7, a8, a9, .int .i64 m, .int .i64 n, b0, b1, b2]] w fun e w' => e = .returned (.bool (allowsS t m n)) ∧ Below w.heap.size w w' := by
  have hlt := BlkIs.lt h
  have hc : ∀ o, (w.alloc o).cell? ⟨b, 0, none⟩ = some (.int .i64 t) := fun o => RefIs.cell (BlkIs.alloc h o)
  obtain ⟨p, hp⟩ : ∃ p, decide (0 ≤ m) = p := ⟨_, rfl⟩
  obtain ⟨q, hq⟩ : ∃ q, decide (m ≤ n) = q := ⟨_, rfl⟩
  obtain ⟨r, hr⟩ : ∃ r, decide (n ≤ 10000) = r := ⟨_, rfl⟩
  obtain ⟨s, hs⟩ : ∃ s, decide (t ≤ n) = s := ⟨_, rfl⟩
  have hv : allowsS t m n = (p && (q && (r && s))) := by
    rw [← hp, ← hq, ← hr, ← hs]
    unfold allowsS
    rw [Bool.eq_iff_iff]
    simp
  rw [hv]
  clear hv
  cases p with
  | false =>
    go_enter Tryd.func14, Tryd.ntmps14
    go_wp2_with fail
    go_quiet (fail)
    go_wp2_with fail
    go_returns
    exact ⟨rfl, below_drewN' ((Below.refl _ w).alloc (Nat.le_refl _) _) _⟩
  | true =>
    cases q with
    | false =>
      go_enter Tryd.func14, Tryd.ntmps14
      go_wp2_with fail
      go_quiet (fail)
      go_wp2_with fail
      go_returns
      exact ⟨rfl, below_drewN' ((Below.refl _ w).alloc (Nat.le_refl _) _) _⟩
    | true =>
      cases r with
      | false =>
        go_enter Tryd.func14, Tryd.ntmps14
        go_wp2_with fail
        go_quiet (fail)
        go_wp2_with fail
        go_returns
        exact ⟨rfl, below_drewN' ((Below.refl _ w).alloc (Nat.le_refl _) _) _⟩
      | true =>
        cases s with
        | false =>
          go_enter Tryd.func14, Tryd.ntmps14
          go_wp2_with fail
          go_quiet (fail)
          go_wp2_with fail
          go_returns
          exact ⟨rfl, below_drewN' ((Below.refl _ w).alloc (Nat.le_refl _) _) _⟩
        | true =>
          go_enter Tryd.func14, Tryd.ntmps14
          go_wp2_with fail
          go_quiet (fail)
          go_wp2_with fail
          go_returns
          exact ⟨rfl, below_drewN' ((Below.refl _ w).alloc (Nat.le_refl _) _) _⟩

set_option maxRecDepth 100000 in
set_option maxHeartbeats 2000000 in
theorem rAccept_ok (w : World) (b : Nat) (t m n : Int) (h : RefIs w b t) (a0 a1 a2 a3 a4 a5 a6 a7 a8 a9 b0 b1 b2 : Value) :
    Calls Tryd.prog 18 #[.pointer (some ⟨b, 0, none⟩), .agg #[a0, a1, a2, a3, a4, a5, a6, a7, a8, a9, .int .i64 m, .int .i64 n, b0, b1, b2]] w fun e w' => e = .returned (.tuple #[.int .i64 (acceptV t m n), .bool (allowsS t m n)]) ∧ RefIs w' b (acceptT t m n) ∧ Upd b w w' := by
  have hlt := BlkIs.lt h
  have hs : RefIs (w.alloc (.cells #[a0, a1, a2, a3, a4, a5, a6, a7, a8, a9, .int .i64 m, .int .i64 n, b0, b1, b2] 40)) b t := BlkIs.alloc h _
  have hB : Below w.heap.size w (w.alloc (.cells #[a0, a1, a2, a3, a4, a5, a6, a7, a8, a9, .int .i64 m, .int .i64 n, b0, b1, b2] 40)) := (Below.refl _ w).alloc (Nat.le_refl _) _
  have hc : (w.alloc (.cells #[a0, a1, a2, a3, a4, a5, a6, a7, a8, a9, .int .i64 m, .int .i64 n, b0, b1, b2] 40)).cell? ⟨w.heap.size, 10, none⟩ = some (.int .i64 m) := by simp
  have hm : (if t < m then m else t) = raiseS t m := rfl
  obtain ⟨r, hr⟩ : ∃ r, allowsS t m n = r := ⟨_, rfl⟩
  have hV : acceptV t m n = if r then raiseS t m else 0 := by rw [acceptV, hr]
  have hT : acceptT t m n = if r then raiseS t m else t := by rw [acceptT, hr]
  rw [hV, hT, hr]
  clear hV hT
  have HR := Lib.hid hr
  clear hr
  rcases r with _ | _
  · go_enter Tryd.func18, Tryd.ntmps18
    go_wp2_with fail
    refine (rAllows_ok _ b t m n hs _ _ _ _ _ _ _ _ _ _ _ _ _).mono ?_
    rintro e w1 ⟨rfl, b1⟩
    rw [HR.out]
    go_wp2_with fail
    go_returns
    exact ⟨rfl, hs.later b1, .of_below (hB.trans (b1.mono hB.size))⟩
  · go_enter Tryd.func18, Tryd.ntmps18
    go_wp2_with fail
    refine (rAllows_ok _ b t m n hs _ _ _ _ _ _ _ _ _ _ _ _ _).mono ?_
    rintro e w1 ⟨rfl, b1⟩
    rw [HR.out]
    have hc1 := keep_cell b1 hc
    have hs1 := hs.later b1
    have hr0 := hs1.cell
    have hf0 := hs1.frozen
    go_wp2_with fail
    go_region
    go_wp2_with fail
    go_returns
    exact ⟨rfl, BlkIs.drew (setR hs1 _), ((Upd.of_below (hB.trans (b1.mono hB.size))).trans (Upd.setCell b 0 _ _)).trans (.of_below ((Below.refl _ _).drew))⟩

set_option maxRecDepth 100000 in
set_option maxHeartbeats 2000000 in
theorem rEncode_ok (w : World) (b : Nat) (t : Int) (h : RefIs w b t) (ht : TokS t) :
    Calls Tryd.prog 21 #[.pointer (some ⟨b, 0, none⟩)] w fun e w' => e = .returned (.string ⟨(encS t).toArray⟩) ∧ Below w.heap.size w w' := by
  have hc := h.cell
  have ht1 := ht.1
  have ht2 := ht.2
  go_enter Tryd.func21, Tryd.ntmps21
  go_wp2_with fail
  refine (rPutInt_ok t (by omega) (by omega) _).mono ?_
  rintro e w1 ⟨rfl, b1⟩
  have l1 := putL_len t
  have l2 := sumL_lt (putL t)
  have hE : encS t = putL t ++ putL (sumL (putL t)) := rfl
  have l3 := putL_len (sumL (putL t))
  have HE := Lib.hid hE
  obtain ⟨A, hA⟩ : ∃ A, A = putL t := ⟨_, rfl⟩
  rw [← hA] at l1 l2 l3 HE
  rw [← hA]
  clear hA hE
  go_wp2_with fail
  refine (rSum_any _ _ (by rw [size_mk]; omega)).mono ?_
  rintro e w2 ⟨rfl, rfl⟩
  rw [mk_toList]
  obtain ⟨s, hs⟩ : ∃ s, s = sumL A := ⟨_, rfl⟩
  rw [← hs] at l2 l3 HE
  rw [← hs]
  clear hs
  go_wp2_with fail
  refine (rPutInt_ok s (by omega) (by omega) _).mono ?_
  rintro e w3 ⟨rfl, b3⟩
  obtain ⟨B, hB⟩ : ∃ B, B = putL s := ⟨_, rfl⟩
  rw [← hB] at l3 HE
  rw [← hB]
  clear hB
  go_wp2_with fail
  go_returns
  refine ⟨?_, ?_⟩
  · rw [HE.out]
    exact congrArg (fun x => Ending.returned (Value.string x)) (by rw [append_eq, mk_toList, mk_toList])
  · exact b1.trans (b3.mono b1.size)

/-- what the reference's Decode hands back -/
def RDecIs (g : Nat) (l : List UInt8) (v : Value) (w' : World) : Prop :=
  ((decS l).2 = 0 ∧ ∃ b, v = .pointer (some ⟨b, 0, none⟩) ∧ g ≤ b ∧ RefIs w' b (decS l).1) ∨ ((decS l).2 ≠ 0 ∧ v = .pointer none)

set_option maxRecDepth 100000 in
set_option maxHeartbeats 2000000 in
theorem rDecode_ok (w : World) (s : ByteArray) (hs : s.size ≤ 140737488355328) :
    Calls Tryd.prog 25 #[.string s] w fun e w' => (∃ v, e = .returned (.tuple #[v, .int .i64 (decS s.data.toList).2]) ∧ RDecIs w.heap.size s.data.toList v w') ∧ Below w.heap.size w w' := by
  obtain ⟨n, x, e1, h1⟩ : ∃ n x e1, getInt s.data.toList (0 : Int) = (n, x, e1) := ⟨_, _, _, rfl⟩
  obtain ⟨m, y, e2, h2⟩ : ∃ m y e2, getInt s.data.toList x = (m, y, e2) := ⟨_, _, _, rfl⟩
  have hl : s.data.toList.length = s.size := by simp
  obtain ⟨D, hD⟩ : ∃ D, D = decS s.data.toList := ⟨_, rfl⟩
  have hD2 := hD
  unfold decS at hD2
  rw [h1] at hD2
  simp only [] at hD2
  rw [h2] at hD2
  simp only [] at hD2
  unfold RDecIs
  rw [← hD]
  have H1 := Lib.hid h1
  have H2 := Lib.hid h2
  have c1 := getInt_cases _ _ _ _ _ h1 (by omega) (by omega)
  rw [hl] at c1
  by_cases k1 : e1 = 0
  · subst k1
    have c2 : 0 ≤ x ∧ x ≤ s.size ∧ IntOk n := by
      rcases c1 with ⟨_, a, b, c, _⟩ | ⟨a, _⟩
      · exact ⟨b, c, a⟩
      · omega
    obtain ⟨x0, x1, nok⟩ := c2
    obtain ⟨nk1, nk2⟩ := nok
    rw [if_neg (by omega)] at hD2
    have c3 := getInt_cases _ _ _ _ _ h2 (by omega) (by omega)
    rw [hl] at c3
    obtain ⟨k, rfl⟩ := Int.eq_ofNat_of_zero_le x0
    rw [Int.toNat_natCast] at hD2
    have hk : k ≤ s.size := by omega
    have hsum : sumL (s.extract 0 k).data.toList = sumL (s.data.toList.take k) := by simp
    by_cases k2 : e2 = 0
    · subst k2
      by_cases k3 : y < s.size
      · have hd : decide (y < (s.size : Int)) = true := by simpa using k3
        rw [if_pos (.inr (by rw [hl]; exact k3))] at hD2
        have HD := Lib.hid hD2
        clear h1 h2 hD hD2 c1 hl hsum c3
        go_enter Tryd.func25, Tryd.ntmps25
        go_wp2_with fail
        refine (rInt_any _ 0 _ hs (by omega) (by omega) _ _ _ H1.out).mono ?_
        rintro e w1 ⟨rfl, b1⟩
        go_wp2_with fail
        refine (rInt_any _ k _ hs (by omega) (by omega) _ _ _ H2.out).mono ?_
        rintro e w2 ⟨rfl, b2⟩
        have b12 := Below.next b1 b2
        go_wp2_with fail
        go_returns
        rw [HD.out]
        exact ⟨⟨_, rfl, .inr ⟨by decide, rfl⟩⟩, b12⟩
      · have hd : decide (y < (s.size : Int)) = false := by simpa using k3
        rw [if_neg (by rw [hl]; rintro (h | h); exact h rfl; exact k3 h)] at hD2
        obtain ⟨q, hq⟩ : ∃ q, q = sumL (s.data.toList.take k) := ⟨_, rfl⟩
        rw [← hq] at hD2 hsum
        by_cases k4 : m = (q : Int)
        · have hb : (m == (q : Int)) = true := by simpa using k4
          by_cases k5 : 0 ≤ n ∧ n ≤ 10000
          · have hp : decide (0 ≤ n ∧ n ≤ 10000) = true := by simpa using k5
            rw [if_neg (by rintro (h | h); exact h k4; exact h k5)] at hD2
            have HD := Lib.hid hD2
            have HS := Lib.hid hsum
            have HM := Lib.hid k4
            clear h1 h2 hD hD2 c1 hl hsum c3 hq k4
            go_enter Tryd.func25, Tryd.ntmps25
            go_wp2_with fail
            refine (rInt_any _ 0 _ hs (by omega) (by omega) _ _ _ H1.out).mono ?_
            rintro e w1 ⟨rfl, b1⟩
            go_wp2_with fail
            refine (rInt_any _ k _ hs (by omega) (by omega) _ _ _ H2.out).mono ?_
            rintro e w2 ⟨rfl, b2⟩
            have b12 := Below.next b1 b2
            go_wp2_with fail
            refine (rSum_any _ _ (by rw [size_cut _ _ hk]; omega)).mono ?_
            rintro e w' ⟨rfl, rfl⟩
            rw [HS.out]
            go_wp2_with fail
            refine (rPos_any n _).mono ?_
            rintro e w' ⟨rfl, rfl⟩
            rw [hp]
            go_wp2_with fail
            go_returns
            rw [HD.out]
            exact ⟨⟨_, rfl, .inl ⟨rfl, w2.heap.size, rfl, b12.size, BlkIs.new _ _ _⟩⟩, b12.alloc b12.size _⟩
          · have hp : decide (0 ≤ n ∧ n ≤ 10000) = false := by simpa using k5
            rw [if_pos (.inr k5)] at hD2
            have HD := Lib.hid hD2
            have HS := Lib.hid hsum
            have HM := Lib.hid k4
            clear h1 h2 hD hD2 c1 hl hsum c3 hq k4
            go_enter Tryd.func25, Tryd.ntmps25
            go_wp2_with fail
            refine (rInt_any _ 0 _ hs (by omega) (by omega) _ _ _ H1.out).mono ?_
            rintro e w1 ⟨rfl, b1⟩
            go_wp2_with fail
            refine (rInt_any _ k _ hs (by omega) (by omega) _ _ _ H2.out).mono ?_
            rintro e w2 ⟨rfl, b2⟩
            have b12 := Below.next b1 b2
            go_wp2_with fail
            refine (rSum_any _ _ (by rw [size_cut _ _ hk]; omega)).mono ?_
            rintro e w' ⟨rfl, rfl⟩
            rw [HS.out]
            go_wp2_with fail
            refine (rPos_any n _).mono ?_
            rintro e w' ⟨rfl, rfl⟩
            rw [hp]
            go_wp2_with fail
            go_returns
            rw [HD.out]
            exact ⟨⟨_, rfl, .inr ⟨by decide, rfl⟩⟩, b12⟩
        · have hb : (m == (q : Int)) = false := by simpa using k4
          rw [if_pos (.inl k4)] at hD2
          have HD := Lib.hid hD2
          have HS := Lib.hid hsum
          clear h1 h2 hD hD2 c1 hl hsum c3 hq
          go_enter Tryd.func25, Tryd.ntmps25
          go_wp2_with fail
          refine (rInt_any _ 0 _ hs (by omega) (by omega) _ _ _ H1.out).mono ?_
          rintro e w1 ⟨rfl, b1⟩
          go_wp2_with fail
          refine (rInt_any _ k _ hs (by omega) (by omega) _ _ _ H2.out).mono ?_
          rintro e w2 ⟨rfl, b2⟩
          have b12 := Below.next b1 b2
          go_wp2_with fail
          refine (rSum_any _ _ (by rw [size_cut _ _ hk]; omega)).mono ?_
          rintro e w' ⟨rfl, rfl⟩
          rw [HS.out]
          go_wp2_with fail
          go_returns
          rw [HD.out]
          exact ⟨⟨_, rfl, .inr ⟨by decide, rfl⟩⟩, b12⟩
    · have k2' : e2 = 10 := by
        rcases c3 with ⟨a, _⟩ | ⟨a, _⟩ <;> omega
      subst k2'
      rw [if_pos (.inl k2)] at hD2
      have HD := Lib.hid hD2
      clear h1 h2 hD hD2 c1 hl hsum c3
      go_enter Tryd.func25, Tryd.ntmps25
      go_wp2_with fail
      refine (rInt_any _ 0 _ hs (by omega) (by omega) _ _ _ H1.out).mono ?_
      rintro e w1 ⟨rfl, b1⟩
      go_wp2_with fail
      refine (rInt_any _ k _ hs (by omega) (by omega) _ _ _ H2.out).mono ?_
      rintro e w2 ⟨rfl, b2⟩
      have b12 := Below.next b1 b2
      go_wp2_with fail
      go_returns
      rw [HD.out]
      exact ⟨⟨_, rfl, .inr ⟨by decide, rfl⟩⟩, b12⟩
  · rw [if_pos k1] at hD2
    have k1' : e1 = 10 := by
      rcases c1 with ⟨a, _⟩ | ⟨a, _⟩ <;> omega
    subst k1'
    have HD := Lib.hid hD2
    clear h1 h2 hD hD2 c1 hl
    go_enter Tryd.func25, Tryd.ntmps25
    go_wp2_with fail
    refine (rInt_any _ 0 _ hs (by omega) (by omega) _ _ _ H1.out).mono ?_
    rintro e w1 ⟨rfl, b1⟩
    go_wp2_with fail
    go_returns
    rw [HD.out]
    exact ⟨⟨_, rfl, .inr ⟨by decide, rfl⟩⟩, b1⟩
end Go.Proofs.YtejehdmllicfcaaDoor
