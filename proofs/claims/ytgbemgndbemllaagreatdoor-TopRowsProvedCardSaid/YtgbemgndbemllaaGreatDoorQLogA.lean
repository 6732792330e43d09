/- A head: valid, Encode. -/
import Derived.Test.YtgbemgndbemllaaGreatDoorGc
import Derived.Test.YtgbemgndbemllaaGreatDoorQPutB
import Derived.Test.YtgbemgndbemllaaGreatDoorQTreA
namespace Go.Proofs.YtgbemgndbemllaaGreatDoor
open Go Go.RowKit
attribute [local go_sem] Oper.semAt_some

def hdV (h : Hd) : Value := .agg #[.int .i64 h.pos, .string (str h.chain), .string (str h.state)]

theorem hdig_ok (l : List UInt8) (w : World) :
    Calls Tryz.prog 23 #[.string (str l)] w fun e w' => e = .returned (.bool (decide (l.length = 32))) ∧ w' = w := by
  by_cases h : l.length = 32
  · have t1 : ((l.length : Int) == 32) = true := by simp; omega
    rw [decide_eq_true h]
    clear h
    go_enter Tryz.func23, Tryz.ntmps23
    go_wp2_with fail
    go_ret
    exact ⟨rfl, rfl⟩
  · have t1 : ((l.length : Int) == 32) = false := by simp; omega
    rw [decide_eq_false h]
    clear h
    go_enter Tryz.func23, Tryz.ntmps23
    go_wp2_with fail
    go_ret
    exact ⟨rfl, rfl⟩

set_option maxRecDepth 100000 in
set_option maxHeartbeats 4000000 in
theorem hvalid_ok (h : Hd) (w : World) :
    Calls Tryz.prog 64 #[hdV h] w fun e w' => e = .returned (.bool (hdB h)) ∧ Below w.heap.size w w' := by
  obtain ⟨p, c, s⟩ := h
  have hd1 := fun W => hdig_ok c W
  have hd2 := fun W => hdig_ok s W
  obtain ⟨y1, t1⟩ : ∃ y, decide (0 ≤ p) = y := ⟨_, rfl⟩
  obtain ⟨y2, t2⟩ : ∃ y, decide (p ≤ 10000) = y := ⟨_, rfl⟩
  obtain ⟨x1, t3⟩ : ∃ y, decide (c.length = 32) = y := ⟨_, rfl⟩
  obtain ⟨x2, t4⟩ : ∃ y, decide (s.length = 32) = y := ⟨_, rfl⟩
  have hR : hdB ⟨p, c, s⟩ = (y1 && y2 && x1 && x2) := by unfold hdB; dsimp only; rw [t1, t2, t3, t4]
  rw [hR]
  rw [t3] at hd1
  rw [t4] at hd2
  have HD1 := Lib.hid hd1
  have HD2 := Lib.hid hd2
  have hb1 := fun o => Below.alloc (Below.refl w.heap.size w) (Nat.le_refl _) o
  have HB := Lib.hid hb1
  clear hd1 hd2 hR t3 t4 hb1
  unfold hdV
  dsimp only
  cases y1
  · go_enter Tryz.func64, Tryz.ntmps64
    go_wp2_with fail
    go_ret
    exact ⟨rfl, HB.out _⟩
  cases y2
  · go_enter Tryz.func64, Tryz.ntmps64
    go_wp2_with fail
    go_ret
    exact ⟨rfl, HB.out _⟩
  cases x1
  · go_enter Tryz.func64, Tryz.ntmps64
    go_wp2_with fail
    refine (HD1.out _).mono ?_
    rintro e w1 ⟨rfl, rfl⟩
    go_wp2_with fail
    go_ret
    exact ⟨rfl, HB.out _⟩
  · go_enter Tryz.func64, Tryz.ntmps64
    go_wp2_with fail
    refine (HD1.out _).mono ?_
    rintro e w1 ⟨rfl, rfl⟩
    go_wp2_with fail
    refine (HD2.out _).mono ?_
    rintro e w2 ⟨rfl, rfl⟩
    go_wp2_with fail
    go_ret
    exact ⟨rfl, HB.out _⟩

set_option maxRecDepth 100000 in
set_option maxHeartbeats 4000000 in
theorem hencode_ok (h : Hd) (w : World) :
    Calls Tryz.prog 32 #[hdV h] w fun e w' => e = .returned (.tuple #[.string (str (encA h).1), .int .i64 (encA h).2]) ∧ Below w.heap.size w w' := by
  have hv := fun W => hvalid_ok h W
  have hb1 := fun o => Below.alloc (Below.refl w.heap.size w) (Nat.le_refl _) o
  by_cases hB : hdB h = true
  · obtain ⟨k1, k2, k3, k4⟩ := hdB_parts hB
    have hput := fun W => putInt_ok h.pos (by omega) (by omega) W
    have hE : encA h = (encHd h, 0) := if_pos hB
    rw [hE]
    dsimp only
    rw [hB] at hv
    obtain ⟨p, c, s⟩ := h
    dsimp only at k1 k2 k3 k4 hput
    have hl := putL_len p
    have hcat : str (putL p) ++ str c ++ str s = str (encHd ⟨p, c, s⟩) := by rw [cat_str, cat_str]; rfl
    have s1 : ¬ 9223372036854775807 < (putL p).length + c.length := by omega
    have s2 : ¬ 9223372036854775807 < (putL p).length + c.length + s.length := by omega
    have HCAT := Lib.hid hcat
    have HV := Lib.hid hv
    have HP := Lib.hid hput
    have HB := Lib.hid hb1
    clear hv hput hb1 hE hB hcat hl
    unfold hdV
    unfold hdV at HV
    dsimp only at HV
    dsimp only
    go_enter Tryz.func32, Tryz.ntmps32
    go_wp2_with fail
    refine (HV.out _).mono ?_
    rintro e w1 ⟨rfl, b1⟩
    have c0 : w1.cell? ⟨w.heap.size, 0, none⟩ = some (.int .i64 p) := by rw [b1.cell (by simp), cell_of_row _ _ 0 _ _ _ (World.alloc_heap_new w _)]; rfl
    have c1 : w1.cell? ⟨w.heap.size, 1, none⟩ = some (.string (str c)) := by rw [b1.cell (by simp), cell_of_row _ _ 1 _ _ _ (World.alloc_heap_new w _)]; rfl
    have c2 : w1.cell? ⟨w.heap.size, 2, none⟩ = some (.string (str s)) := by rw [b1.cell (by simp), cell_of_row _ _ 2 _ _ _ (World.alloc_heap_new w _)]; rfl
    have hb2 := Below.next (HB.out _) b1
    have hlt : w.heap.size < w1.heap.size := block_of_cell c0
    clear b1
    go_wp2_with fail
    refine (HP.out _).mono ?_
    rintro e w2 ⟨rfl, b2⟩
    have d1 := (b2.cell (p := ⟨w.heap.size, 1, none⟩) hlt).trans c1
    have d2 := (b2.cell (p := ⟨w.heap.size, 2, none⟩) hlt).trans c2
    have hb3 := Below.next hb2 b2
    clear c0 c1 c2 hb2
    go_wp2_with fail
    go_ret2
    exact ⟨by rw [HCAT.out]; rfl, hb3⟩
  · have hE : encA h = ([], 90) := if_neg hB
    rw [hE]
    dsimp only
    rw [Bool.not_eq_true] at hB
    rw [hB] at hv
    have HV := Lib.hid hv
    have HB := Lib.hid hb1
    clear hv hb1 hE hB
    unfold hdV
    unfold hdV at HV
    go_enter Tryz.func32, Tryz.ntmps32
    go_wp2_with fail
    refine (HV.out _).mono ?_
    rintro e w1 ⟨rfl, b1⟩
    have hb2 := Below.next (HB.out _) b1
    go_wp2_with fail
    go_ret2
    exact ⟨rfl, hb2⟩

end Go.Proofs.YtgbemgndbemllaaGreatDoor
