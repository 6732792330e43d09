/- Joined: LogA R9A. -/
import Derived.Test.YtheebajklnljdaaGreatDoorGc
import Derived.Test.YtheebajklnljdaaGreatDoorGf
import Derived.Test.YtheebajklnljdaaGreatDoorQIntW
import Derived.Test.YtheebajklnljdaaGreatDoorQTreA

section
/- A head: valid, Encode. -/
namespace Go.Proofs.YtheebajklnljdaaGreatDoor
open Go Go.RowKit
attribute [local go_sem] Oper.semAt_some

def hdV (h : Hd) : Value := .agg #[.int .i64 h.pos, .string (str h.chain), .string (str h.state)]

theorem hdig_ok (l : List UInt8) (w : World) :
    Calls Tryz.prog 45 #[.string (str l)] w fun e w' => e = .returned (.bool (decide (l.length = 32))) ∧ w' = w := by
  by_cases h : l.length = 32
  · have t1 : ((l.length : Int) == 32) = true := by simp; omega
    rw [decide_eq_true h]
    clear h
    go_enter Tryz.func45, Tryz.ntmps45
    go_wp2_with fail
    go_ret
    exact ⟨rfl, rfl⟩
  · have t1 : ((l.length : Int) == 32) = false := by simp; omega
    rw [decide_eq_false h]
    clear h
    go_enter Tryz.func45, Tryz.ntmps45
    go_wp2_with fail
    go_ret
    exact ⟨rfl, rfl⟩

set_option maxRecDepth 100000 in
set_option maxHeartbeats 4000000 in
theorem hvalid_ok (h : Hd) (w : World) :
    Calls Tryz.prog 56 #[hdV h] w fun e w' => e = .returned (.bool (hdB h)) ∧ Below w.heap.size w w' := by
  obtain ⟨p, c, s⟩ := h
  have hd1 := fun W => hdig_ok c W
  have hd2 := fun W => hdig_ok s W
  obtain ⟨y1, t1⟩ : ∃ y, decide (0 ≤ p) = y := ⟨_, rfl⟩
  obtain ⟨y2, t2⟩ : ∃ y, decide (p ≤ 10000) = y := ⟨_, rfl⟩
  obtain ⟨x1, t3⟩ : ∃ y, decide (c.length = 32) = y := ⟨_, rfl⟩
  obtain ⟨x2, t4⟩ : ∃ y, decide (s.length = 32) = y := ⟨_, rfl⟩
  have hR : hdB ⟨p, c, s⟩ = (y1 && y2 && x1 && x2) := by unfold hdB; dsimp only; rw [t1, t2, t3, t4]
  rw [hR]
  rw [t3] at hd1
  rw [t4] at hd2
  have HD1 := Lib.hid hd1
  have HD2 := Lib.hid hd2
  have hb1 := fun o => Below.alloc (Below.refl w.heap.size w) (Nat.le_refl _) o
  have HB := Lib.hid hb1
  clear hd1 hd2 hR t3 t4 hb1
  unfold hdV
  dsimp only
  cases y1
  · go_enter Tryz.func56, Tryz.ntmps56
    go_wp2_with fail
    go_ret
    exact ⟨rfl, HB.out _⟩
  cases y2
  · go_enter Tryz.func56, Tryz.ntmps56
    go_wp2_with fail
    go_ret
    exact ⟨rfl, HB.out _⟩
  cases x1
  · go_enter Tryz.func56, Tryz.ntmps56
    go_wp2_with fail
    refine (HD1.out _).mono ?_
    rintro e w1 ⟨rfl, rfl⟩
    go_wp2_with fail
    go_ret
    exact ⟨rfl, HB.out _⟩
  · go_enter Tryz.func56, Tryz.ntmps56
    go_wp2_with fail
    refine (HD1.out _).mono ?_
    rintro e w1 ⟨rfl, rfl⟩
    go_wp2_with fail
    refine (HD2.out _).mono ?_
    rintro e w2 ⟨rfl, rfl⟩
    go_wp2_with fail
    go_ret
    exact ⟨rfl, HB.out _⟩

set_option maxRecDepth 100000 in
set_option maxHeartbeats 4000000 in
theorem hencode_ok (h : Hd) (w : World) :
    Calls Tryz.prog 30 #[hdV h] w fun e w' => e = .returned (.tuple #[.string (str (encA h).1), .int .i64 (encA h).2]) ∧ Below w.heap.size w w' := by
  have hv := fun W => hvalid_ok h W
  have hb1 := fun o => Below.alloc (Below.refl w.heap.size w) (Nat.le_refl _) o
  by_cases hB : hdB h = true
  · obtain ⟨k1, k2, k3, k4⟩ := hdB_parts hB
    have hput := fun W => putInt_ok h.pos (by omega) (by omega) W
    have hE : encA h = (encHd h, 0) := if_pos hB
    rw [hE]
    dsimp only
    rw [hB] at hv
    obtain ⟨p, c, s⟩ := h
    dsimp only at k1 k2 k3 k4 hput
    have hl := putL_len p
    have hcat : str (putL p) ++ str c ++ str s = str (encHd ⟨p, c, s⟩) := by rw [cat_str, cat_str]; rfl
    have s1 : ¬ 9223372036854775807 < (putL p).length + c.length := by omega
    have s2 : ¬ 9223372036854775807 < (putL p).length + c.length + s.length := by omega
    have HCAT := Lib.hid hcat
    have HV := Lib.hid hv
    have HP := Lib.hid hput
    have HB := Lib.hid hb1
    clear hv hput hb1 hE hB hcat hl
    unfold hdV
    unfold hdV at HV
    dsimp only at HV
    dsimp only
    go_enter Tryz.func30, Tryz.ntmps30
    go_wp2_with fail
    refine (HV.out _).mono ?_
    rintro e w1 ⟨rfl, b1⟩
    have c0 : w1.cell? ⟨w.heap.size, 0, none⟩ = some (.int .i64 p) := by rw [b1.cell (by simp), cell_of_row _ _ 0 _ _ _ (World.alloc_heap_new w _)]; rfl
    have c1 : w1.cell? ⟨w.heap.size, 1, none⟩ = some (.string (str c)) := by rw [b1.cell (by simp), cell_of_row _ _ 1 _ _ _ (World.alloc_heap_new w _)]; rfl
    have c2 : w1.cell? ⟨w.heap.size, 2, none⟩ = some (.string (str s)) := by rw [b1.cell (by simp), cell_of_row _ _ 2 _ _ _ (World.alloc_heap_new w _)]; rfl
    have hb2 := Below.next (HB.out _) b1
    have hlt : w.heap.size < w1.heap.size := block_of_cell c0
    clear b1
    go_wp2_with fail
    refine (HP.out _).mono ?_
    rintro e w2 ⟨rfl, b2⟩
    have d1 := (b2.cell (p := ⟨w.heap.size, 1, none⟩) hlt).trans c1
    have d2 := (b2.cell (p := ⟨w.heap.size, 2, none⟩) hlt).trans c2
    have hb3 := Below.next hb2 b2
    clear c0 c1 c2 hb2
    go_wp2_with fail
    go_ret2
    exact ⟨by rw [HCAT.out]; rfl, hb3⟩
  · have hE : encA h = ([], 90) := if_neg hB
    rw [hE]
    dsimp only
    rw [Bool.not_eq_true] at hB
    rw [hB] at hv
    have HV := Lib.hid hv
    have HB := Lib.hid hb1
    clear hv hb1 hE hB
    unfold hdV
    unfold hdV at HV
    go_enter Tryz.func30, Tryz.ntmps30
    go_wp2_with fail
    refine (HV.out _).mono ?_
    rintro e w1 ⟨rfl, b1⟩
    have hb2 := Below.next (HB.out _) b1
    go_wp2_with fail
    go_ret2
    exact ⟨rfl, hb2⟩

set_option maxRecDepth 100000 in
set_option maxHeartbeats 4000000 in
theorem hdecode_ok (s : ByteArray) (w : World) (hs : s.size ≤ 1000000) :
    Calls Tryz.prog 32 #[.string s] w fun e w' => e = .returned (.tuple #[hdV (decA s.data.toList).1, .int .i64 (decA s.data.toList).2]) ∧ Below w.heap.size w w' := by
  obtain ⟨n, x, e1, h1⟩ : ∃ n x e1, getInt s.data.toList (0 : Int) = (n, x, e1) := ⟨_, _, _, rfl⟩
  have hl : s.data.toList.length = s.size := by simp
  have hint := fun W => int_any s 0 W (by omega) (by omega) (by omega) n x e1 h1
  have HI := Lib.hid hint
  obtain ⟨D, hD⟩ : ∃ D, D = decA s.data.toList := ⟨_, rfl⟩
  have hD2 := hD
  unfold decA at hD2
  rw [h1, hl] at hD2
  dsimp only at hD2
  rw [← hD]
  have hc := getInt_cases _ _ _ _ _ h1 (by omega) (by omega)
  rw [hl] at hc
  have hb1 := fun o => Below.alloc (Below.refl w.heap.size w) (Nat.le_refl _) o
  have HB := Lib.hid hb1
  clear hint h1 hD hb1
  by_cases k1 : e1 = 0
  · by_cases k2 : (s.size : Int) - x = 64
    · have t1 : (e1 != 0) = false := by simpa using k1
      have t2 : ((s.size : Int) - x != 64) = false := by simpa using k2
      rw [if_neg (by rintro (h | h); exact h k1; exact h k2)] at hD2
      subst k1
      have hx : 0 ≤ x ∧ x ≤ s.size ∧ IntOk n := by
        rcases hc with ⟨_, a, b, c, _⟩ | ⟨a, _⟩
        · exact ⟨b, c, a⟩
        · omega
      obtain ⟨x0, x1, -⟩ := hx
      obtain ⟨k, rfl⟩ := Int.eq_ofNat_of_zero_le x0
      rw [Int.toNat_natCast] at hD2
      obtain ⟨k2', hk2⟩ : ∃ q, q = k + 32 := ⟨_, rfl⟩
      have e32 : (k : Int) + 32 = (k2' : Int) := by omega
      obtain ⟨C, hC⟩ : ∃ C, C = (s.data.toList.drop k).take 32 := ⟨_, rfl⟩
      obtain ⟨T, hT⟩ : ∃ T, T = s.data.toList.drop (k + 32) := ⟨_, rfl⟩
      have hcs : s.extract k k2' = str C := by rw [extract_eq, hC, hk2, show k + 32 - k = 32 by omega]
      have hts : s.extract k2' s.size = str T := by
        rw [extract_eq, hT, hk2]
        have : (s.data.toList.drop (k + 32)).take (s.size - (k + 32)) = s.data.toList.drop (k + 32) := List.take_of_length_le (by rw [List.length_drop]; omega)
        rw [this]
      rw [← hC, ← hT] at hD2
      have hv := fun W => hvalid_ok ⟨n, C, T⟩ W
      have HC := Lib.hid hcs
      have HT := Lib.hid hts
      have q0 : (0 : Int) ≤ (k : Int) := by omega
      have q1 : (k : Int) ≤ (k2' : Int) := by omega
      have q2 : (k2' : Int) ≤ (s.size : Int) := by omega
      clear hC hT hcs hts hc k2 hk2
      by_cases hB : hdB ⟨n, C, T⟩ = true
      · rw [if_pos hB] at hD2
        rw [hB] at hv
        have HV := Lib.hid hv
        subst hD2
        clear hv hB
        unfold hdV
        unfold hdV at HV
        dsimp only at HV
        dsimp only
        go_enter Tryz.func32, Tryz.ntmps32
        go_wp2_with fail
        refine (HI.out _).mono ?_
        rintro e w1 ⟨rfl, rfl⟩
        go_wp2_with fail
        go_region
        rw [HC.out, HT.out]
        have hbz : Below w.heap.size w ((w.alloc (.cells #[.int .i64 0, .string ⟨#[]⟩, .string ⟨#[]⟩] 46)).alloc (.cells #[.int .i64 n, .string (str C), .string (str T)] 46)).drew := Below.drew (Below.alloc (HB.out _) (by simp) _)
        go_wp2_with fail
        refine (HV.out _).mono ?_
        rintro e w2 ⟨rfl, b2⟩
        have hz : BlkIs w2 w.heap.size 46 [.int .i64 0, .string ⟨#[]⟩, .string ⟨#[]⟩] := (b2.block w.heap.size (by simp [World.size_alloc]; omega)).trans ((Below.heap_alloc _ _ w.heap.size (by rw [World.size_alloc]; omega)).trans (World.alloc_heap_new w _))
        have hn : BlkIs w2 (w.heap.size + 1) 46 [.int .i64 n, .string (str C), .string (str T)] := (b2.block (w.heap.size + 1) (by simp [World.size_alloc])).trans (alloc_new_at _ _ _ (by rw [World.size_alloc]))
        have z0 : w2.cell? ⟨w.heap.size, 0, none⟩ = some (.int .i64 0) := hz.cell 0
        have z1 : w2.cell? ⟨w.heap.size, 1, none⟩ = some (.string ⟨#[]⟩) := hz.cell 1
        have z2 : w2.cell? ⟨w.heap.size, 2, none⟩ = some (.string ⟨#[]⟩) := hz.cell 2
        have f0 := hz.frozen 0
        have f1 := hz.frozen 1
        have f2 := hz.frozen 2
        have c0 : w2.cell? ⟨w.heap.size + 1, 0, none⟩ = some (.int .i64 n) := hn.cell 0
        have c1 : w2.cell? ⟨w.heap.size + 1, 1, none⟩ = some (.string (str C)) := hn.cell 1
        have c2 : w2.cell? ⟨w.heap.size + 1, 2, none⟩ = some (.string (str T)) := hn.cell 2
        have hb2 := Below.next hbz b2
        clear b2 hbz
        go_wp2_with fail
        have hz3 := ((hz.set 0 (.int .i64 n)).set 1 (.string (str C))).set 2 (.string (str T))
        have hb3 := ((hb2.setCell (p := ⟨w.heap.size, 0, none⟩) (Nat.le_refl _) (.int .i64 n)).setCell (p := ⟨w.heap.size, 1, none⟩) (Nat.le_refl _) (.string (str C))).setCell (p := ⟨w.heap.size, 2, none⟩) (Nat.le_refl _) (.string (str T))
        generalize ((w2.setCell ⟨w.heap.size, 0, none⟩ (.int .i64 n)).setCell ⟨w.heap.size, 1, none⟩ (.string (str C))).setCell ⟨w.heap.size, 2, none⟩ (.string (str T)) = w3 at *
        have y0 : w3.cell? ⟨w.heap.size, 0, none⟩ = some (.int .i64 n) := hz3.cell 0
        have y1 : w3.cell? ⟨w.heap.size, 1, none⟩ = some (.string (str C)) := hz3.cell 1
        have y2 : w3.cell? ⟨w.heap.size, 2, none⟩ = some (.string (str T)) := hz3.cell 2
        refine bodyPost_ret (by simp [results, Tryz.results32, go_sem, y0, y1, y2]; try rfl) rfl ?_
        exact ⟨rfl, hb3⟩
      · rw [if_neg hB] at hD2
        rw [Bool.not_eq_true] at hB
        rw [hB] at hv
        have HV := Lib.hid hv
        subst hD2
        clear hv hB
        unfold hdV
        unfold hdV at HV
        dsimp only at HV
        dsimp only
        go_enter Tryz.func32, Tryz.ntmps32
        go_wp2_with fail
        refine (HI.out _).mono ?_
        rintro e w1 ⟨rfl, rfl⟩
        go_wp2_with fail
        go_region
        rw [HC.out, HT.out]
        have hbz : Below w.heap.size w ((w.alloc (.cells #[.int .i64 0, .string ⟨#[]⟩, .string ⟨#[]⟩] 46)).alloc (.cells #[.int .i64 n, .string (str C), .string (str T)] 46)).drew := Below.drew (Below.alloc (HB.out _) (by simp) _)
        go_wp2_with fail
        refine (HV.out _).mono ?_
        rintro e w2 ⟨rfl, b2⟩
        have hz : BlkIs w2 w.heap.size 46 [.int .i64 0, .string ⟨#[]⟩, .string ⟨#[]⟩] := (b2.block w.heap.size (by simp [World.size_alloc]; omega)).trans ((Below.heap_alloc _ _ w.heap.size (by rw [World.size_alloc]; omega)).trans (World.alloc_heap_new w _))
        have hn : BlkIs w2 (w.heap.size + 1) 46 [.int .i64 n, .string (str C), .string (str T)] := (b2.block (w.heap.size + 1) (by simp [World.size_alloc])).trans (alloc_new_at _ _ _ (by rw [World.size_alloc]))
        have z0 : w2.cell? ⟨w.heap.size, 0, none⟩ = some (.int .i64 0) := hz.cell 0
        have z1 : w2.cell? ⟨w.heap.size, 1, none⟩ = some (.string ⟨#[]⟩) := hz.cell 1
        have z2 : w2.cell? ⟨w.heap.size, 2, none⟩ = some (.string ⟨#[]⟩) := hz.cell 2
        have f0 := hz.frozen 0
        have f1 := hz.frozen 1
        have f2 := hz.frozen 2
        have c0 : w2.cell? ⟨w.heap.size + 1, 0, none⟩ = some (.int .i64 n) := hn.cell 0
        have c1 : w2.cell? ⟨w.heap.size + 1, 1, none⟩ = some (.string (str C)) := hn.cell 1
        have c2 : w2.cell? ⟨w.heap.size + 1, 2, none⟩ = some (.string (str T)) := hn.cell 2
        have hb2 := Below.next hbz b2
        clear b2 hbz
        go_wp2_with fail
        have hz3 := ((hz.set 0 (.int .i64 0)).set 1 (.string ⟨#[]⟩)).set 2 (.string ⟨#[]⟩)
        have hb3 := ((hb2.setCell (p := ⟨w.heap.size, 0, none⟩) (Nat.le_refl _) (.int .i64 0)).setCell (p := ⟨w.heap.size, 1, none⟩) (Nat.le_refl _) (.string ⟨#[]⟩)).setCell (p := ⟨w.heap.size, 2, none⟩) (Nat.le_refl _) (.string ⟨#[]⟩)
        generalize ((w2.setCell ⟨w.heap.size, 0, none⟩ (.int .i64 0)).setCell ⟨w.heap.size, 1, none⟩ (.string ⟨#[]⟩)).setCell ⟨w.heap.size, 2, none⟩ (.string ⟨#[]⟩) = w3 at *
        have y0 : w3.cell? ⟨w.heap.size, 0, none⟩ = some (.int .i64 0) := hz3.cell 0
        have y1 : w3.cell? ⟨w.heap.size, 1, none⟩ = some (.string ⟨#[]⟩) := hz3.cell 1
        have y2 : w3.cell? ⟨w.heap.size, 2, none⟩ = some (.string ⟨#[]⟩) := hz3.cell 2
        refine bodyPost_ret (by simp [results, Tryz.results32, go_sem, y0, y1, y2]; try rfl) rfl ?_
        exact ⟨rfl, hb3⟩
    · have t1 : (e1 != 0) = false := by simpa using k1
      have t2 : ((s.size : Int) - x != 64) = true := by simpa using k2
      rw [if_pos (.inr k2)] at hD2
      subst hD2
      clear k2
      go_enter Tryz.func32, Tryz.ntmps32
      go_wp2_with fail
      refine (HI.out _).mono ?_
      rintro e w1 ⟨rfl, rfl⟩
      go_wp2_with fail
      go_returns
      exact ⟨rfl, HB.out _⟩
  · have t1 : (e1 != 0) = true := by simpa using k1
    rw [if_pos (.inl k1)] at hD2
    subst hD2
    go_enter Tryz.func32, Tryz.ntmps32
    go_wp2_with fail
    refine (HI.out _).mono ?_
    rintro e w1 ⟨rfl, rfl⟩
    go_wp2_with fail
    go_returns
    exact ⟨rfl, HB.out _⟩
end Go.Proofs.YtheebajklnljdaaGreatDoor
end

section
/- The reference's Valid, Encode of a head. -/
namespace Go.Proofs.YtheebajklnljdaaGreatDoor
open Go Go.RowKit
attribute [local go_sem] Oper.semAt_some

set_option maxRecDepth 100000 in
set_option maxHeartbeats 1000000 in
theorem r9valid_ok (h : Hd) (w : World) :
    Calls Tryz.prog 58 #[hdV h] w fun e w' => e = .returned (.bool (hdB h)) ∧ Below w.heap.size w w' := by
  obtain ⟨p, c, s⟩ := h
  obtain ⟨y1, t1⟩ : ∃ y, decide (0 ≤ p) = y := ⟨_, rfl⟩
  obtain ⟨y2, t2⟩ : ∃ y, decide (p ≤ 10000) = y := ⟨_, rfl⟩
  obtain ⟨x1, t3⟩ : ∃ y, decide (c.length = 32) = y := ⟨_, rfl⟩
  obtain ⟨x2, t4⟩ : ∃ y, decide (s.length = 32) = y := ⟨_, rfl⟩
  have hR : hdB ⟨p, c, s⟩ = (y1 && y2 && x1 && x2) := by unfold hdB; dsimp only; rw [t1, t2, t3, t4]
  have e3 : ((c.length : Int) == 32) = x1 := by rw [← t3]; by_cases h : c.length = 32 <;> simp [h]; omega
  have e4 : ((s.length : Int) == 32) = x2 := by rw [← t4]; by_cases h : s.length = 32 <;> simp [h]; omega
  rw [hR]
  have hb1 := fun o => Below.alloc (Below.refl w.heap.size w) (Nat.le_refl _) o
  have HB := Lib.hid hb1
  clear hR t3 t4 hb1
  unfold hdV
  dsimp only
  cases y1
  · go_enter Tryz.func58, Tryz.ntmps58
    go_wp2_with fail
    go_ret
    exact ⟨rfl, HB.out _⟩
  cases y2
  · go_enter Tryz.func58, Tryz.ntmps58
    go_wp2_with fail
    go_ret
    exact ⟨rfl, HB.out _⟩
  cases x1
  · go_enter Tryz.func58, Tryz.ntmps58
    go_wp2_with fail
    go_ret
    exact ⟨rfl, HB.out _⟩
  cases x2
  · go_enter Tryz.func58, Tryz.ntmps58
    go_wp2_with fail
    go_ret
    exact ⟨rfl, HB.out _⟩
  · go_enter Tryz.func58, Tryz.ntmps58
    go_wp2_with fail
    go_ret
    exact ⟨rfl, HB.out _⟩

set_option maxRecDepth 100000 in
set_option maxHeartbeats 4000000 in
theorem r9encode_ok (h : Hd) (w : World) :
    Calls Tryz.prog 31 #[hdV h] w fun e w' => e = .returned (.tuple #[.string (str (encA h).1), .int .i64 (encA h).2]) ∧ Below w.heap.size w w' := by
  have hv := fun W => r9valid_ok h W
  have hb1 := fun o => Below.alloc (Below.refl w.heap.size w) (Nat.le_refl _) o
  by_cases hB : hdB h = true
  · obtain ⟨k1, k2, k3, k4⟩ := hdB_parts hB
    have hput := fun W => rPutInt_ok h.pos (by omega) (by omega) W
    have hE : encA h = (encHd h, 0) := if_pos hB
    rw [hE]
    dsimp only
    rw [hB] at hv
    obtain ⟨p, c, s⟩ := h
    dsimp only at k1 k2 k3 k4 hput
    have hl := putL_len p
    have hcat : str (putL p) ++ str c ++ str s = str (encHd ⟨p, c, s⟩) := by rw [cat_str, cat_str]; rfl
    have s1 : ¬ 9223372036854775807 < (putL p).length + c.length := by omega
    have s2 : ¬ 9223372036854775807 < (putL p).length + c.length + s.length := by omega
    have HCAT := Lib.hid hcat
    have HV := Lib.hid hv
    have HP := Lib.hid hput
    have HB := Lib.hid hb1
    clear hv hput hb1 hE hB hcat hl
    unfold hdV
    unfold hdV at HV
    dsimp only at HV
    dsimp only
    go_enter Tryz.func31, Tryz.ntmps31
    go_wp2_with fail
    refine (HV.out _).mono ?_
    rintro e w1 ⟨rfl, b1⟩
    have c0 : w1.cell? ⟨w.heap.size, 0, none⟩ = some (.int .i64 p) := by rw [b1.cell (by simp), cell_of_row _ _ 0 _ _ _ (World.alloc_heap_new w _)]; rfl
    have c1 : w1.cell? ⟨w.heap.size, 1, none⟩ = some (.string (str c)) := by rw [b1.cell (by simp), cell_of_row _ _ 1 _ _ _ (World.alloc_heap_new w _)]; rfl
    have c2 : w1.cell? ⟨w.heap.size, 2, none⟩ = some (.string (str s)) := by rw [b1.cell (by simp), cell_of_row _ _ 2 _ _ _ (World.alloc_heap_new w _)]; rfl
    have hb2 := Below.next (HB.out _) b1
    have hlt : w.heap.size < w1.heap.size := block_of_cell c0
    clear b1
    go_wp2_with fail
    refine (HP.out _).mono ?_
    rintro e w2 ⟨rfl, b2⟩
    have d1 := (b2.cell (p := ⟨w.heap.size, 1, none⟩) hlt).trans c1
    have d2 := (b2.cell (p := ⟨w.heap.size, 2, none⟩) hlt).trans c2
    have hb3 := Below.next hb2 b2
    clear c0 c1 c2 hb2
    go_wp2_with fail
    go_ret2
    exact ⟨by rw [HCAT.out]; rfl, hb3⟩
  · have hE : encA h = ([], 90) := if_neg hB
    rw [hE]
    dsimp only
    rw [Bool.not_eq_true] at hB
    rw [hB] at hv
    have HV := Lib.hid hv
    have HB := Lib.hid hb1
    clear hv hb1 hE hB
    unfold hdV
    unfold hdV at HV
    go_enter Tryz.func31, Tryz.ntmps31
    go_wp2_with fail
    refine (HV.out _).mono ?_
    rintro e w1 ⟨rfl, b1⟩
    have hb2 := Below.next (HB.out _) b1
    go_wp2_with fail
    go_ret2
    exact ⟨rfl, hb2⟩

end Go.Proofs.YtheebajklnljdaaGreatDoor
end

