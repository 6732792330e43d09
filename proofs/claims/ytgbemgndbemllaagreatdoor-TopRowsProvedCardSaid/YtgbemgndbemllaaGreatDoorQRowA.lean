/- Rows and changes: within, Valid. -/
import Derived.Test.YtgbemgndbemllaaGreatDoorQLogA
import Derived.Test.YtgbemgndbemllaaGreatDoorShelf
import Derived.Test.YtgbemgndbemllaaGreatDoorGf
namespace Go.Proofs.YtgbemgndbemllaaGreatDoor
open Go Go.RowKit
attribute [local go_sem] Oper.semAt_some

/-- numbers as values -/
def iv64 (n : Int) : Value := .int .i64 n
/-- all numbers are from a to b -/
def withinB (a b : Int) (l : List Int) : Bool := l.all fun n => decide (a ≤ n) && decide (n ≤ b)

theorem within1_ok (a b n : Int) (g1 g2 : Nat) (w : World) (h1 : w.cell? ⟨g1, 0, none⟩ = some (.int .i64 a)) (h2 : w.cell? ⟨g2, 0, none⟩ = some (.int .i64 b)) :
    Calls Tryz.prog 121 #[.int .i64 n, .pointer (some ⟨g1, 0, none⟩), .pointer (some ⟨g2, 0, none⟩)] w fun e w' => e = .returned (.bool (decide (n < a) || decide (b < n))) ∧ w' = w := by
  by_cases t1 : n < a
  · have d1 : decide (n < a) = true := decide_eq_true t1
    rw [d1]
    go_enter Tryz.func121, Tryz.ntmps121
    go_wp2_with fail
    go_ret
    exact ⟨rfl, rfl⟩
  · have d1 : decide (n < a) = false := decide_eq_false t1
    rw [d1]
    go_enter Tryz.func121, Tryz.ntmps121
    go_wp2_with fail
    go_ret
    exact ⟨rfl, rfl⟩

set_option maxRecDepth 100000 in
set_option maxHeartbeats 4000000 in
theorem within_ok (a b : Int) (g o c : Nat) (l : List Int) (w : World) (hg : g < w.heap.size) (hl : l.length ≤ 1000) (hc : ∀ (j : Nat) x, l[j]? = some x → w.cell? ⟨g, o + j, none⟩ = some (.int .i64 x)) :
    Calls Tryz.prog 103 #[.int .i64 a, .int .i64 b, .slice (some ⟨g, o, none⟩) l.length c] w fun e w' => e = .returned (.bool (withinB a b l)) ∧ Below w.heap.size w w' := by
  obtain ⟨X, hX⟩ : ∃ X, X = ((l.take l.length).any fun n => decide (n < a) || decide (b < n)) := ⟨_, rfl⟩
  have hany : withinB a b l = !X := by
    rw [hX]
    symm
    unfold withinB
    rw [List.take_length, List.all_eq_not_any_not]
    congr 2
    funext n
    by_cases h1 : n < a <;> by_cases h2 : b < n <;> simp [h1, h2] <;> omega
  rw [hany]
  have HX := Lib.hid hX
  have hb2 : Below w.heap.size w ((w.alloc (.cells #[.int .i64 a] 3)).alloc (.cells #[.int .i64 b] 3)) := ((Below.refl w.heap.size w).alloc (Nat.le_refl _) _).alloc (by rw [World.size_alloc]; omega) _
  have hcc : ∀ j, j < l.length → ((w.alloc (.cells #[.int .i64 a] 3)).alloc (.cells #[.int .i64 b] 3)).cell? ⟨g, o + j, none⟩ = some (iv64 l[j]!) := by
    intro j hj
    rw [hb2.cell hg]
    exact hc j _ (by rw [List.getElem!_eq_getElem?_getD, List.getElem?_eq_getElem hj]; rfl)
  have hp : Go.Proofs.PredAt Tryz.prog 121 #[.pointer (some ⟨w.heap.size, 0, none⟩), .pointer (some ⟨w.heap.size + 1, 0, none⟩)] iv64 (fun n => decide (n < a) || decide (b < n)) ((w.alloc (.cells #[.int .i64 a] 3)).alloc (.cells #[.int .i64 b] 3)) := by
    intro W n hW
    refine (within1_ok a b n w.heap.size (w.heap.size + 1) W ?_ ?_).mono fun e w' ⟨he, hw⟩ => ⟨he, 0, hw⟩
    · rw [hW.cell (by rw [World.size_alloc, World.size_alloc]; simp; omega)]
      exact (World.cell?_alloc_some _ _ _ (by rw [cell_of_row _ _ 0 _ _ _ (World.alloc_heap_new w _)]; rfl)).trans (by rw [cell_of_row _ _ 0 _ _ _ (World.alloc_heap_new w _)]; rfl)
    · rw [hW.cell (by rw [World.size_alloc, World.size_alloc]; simp), cell_of_row _ _ 0 _ _ _ (alloc_new_at _ _ _ (by rw [World.size_alloc]))]
      rfl
  have HC := Lib.hid hcc
  have HP := Lib.hid hp
  clear hany hX hc hcc hp
  go_enter Tryz.func103, Tryz.ntmps103
  go_wp2_with fail
  refine (Tryz.slices_ContainsFunc_f120 iv64 _ 121 _ (enters_of Tryz.func121 (by kernel_rfl) rfl) g o l.length c l _ HP.out (Nat.le_refl _) (by omega) HC.out).mono ?_
  rintro e w1 ⟨rfl, q, rfl⟩
  have hb3 := below_drewN' hb2 q
  rw [← HX.out]
  go_wp2_with fail
  go_ret
  exact ⟨rfl, hb3⟩

/-- a row as a value: an array within a struct lies flat -/
def rowV (t k : Int) (v : Int × Int × Int) : Value := .agg #[.int .i64 t, .int .i64 k, .int .i64 v.1, .int .i64 v.2.1, .int .i64 v.2.2]

theorem row_split (t k : Int) (v : Int × Int × Int) : rowB t k v = (withinB 0 3 [t] && withinB 1 1000000 [k] && withinB (-1000000000) 1000000000 [v.1, v.2.1, v.2.2]) := by
  simp [rowB, withinB, valB, Bool.and_assoc]

set_option maxRecDepth 100000 in
set_option maxHeartbeats 4000000 in
theorem rowValid_ok (t k : Int) (v : Int × Int × Int) (w : World) :
    Calls Tryz.prog 75 #[rowV t k v] w fun e w' => e = .returned (.bool (rowB t k v)) ∧ Below w.heap.size w w' := by
  obtain ⟨a, b, c⟩ := v
  obtain ⟨y1, t1⟩ : ∃ y, withinB 0 3 [t] = y := ⟨_, rfl⟩
  obtain ⟨y2, t2⟩ : ∃ y, withinB 1 1000000 [k] = y := ⟨_, rfl⟩
  obtain ⟨y3, t3⟩ : ∃ y, withinB (-1000000000) 1000000000 [a, b, c] = y := ⟨_, rfl⟩
  have hb1 := fun o => Below.alloc (Below.refl w.heap.size w) (Nat.le_refl _) o
  rw [row_split]
  dsimp only
  rw [t1, t2, t3]
  unfold rowV
  dsimp only
  have T1 := Lib.hid t1
  have T2 := Lib.hid t2
  have T3 := Lib.hid t3
  have HB := Lib.hid hb1
  clear t1 t2 t3 hb1
  go_enter Tryz.func75, Tryz.ntmps75
  go_wp2_with fail
  refine (within_ok 0 3 (w.heap.size + 1) 0 1 [t] _ (by simp [World.size_alloc]) (by simp) ?_).mono ?_
  · intro j x hj
    match j, hj with
    | 0, hj => cases hj; rw [cell_of_row _ _ 0 _ _ _ (alloc_new_at _ _ _ (by rw [World.size_alloc]))]; rfl
  rintro e w1 ⟨rfl, b1⟩
  have h0 : BlkIs w1 w.heap.size 67 [.int .i64 t, .int .i64 k, .int .i64 a, .int .i64 b, .int .i64 c] := (b1.block w.heap.size (by simp [World.size_alloc]; omega)).trans ((Below.heap_alloc _ _ w.heap.size (by rw [World.size_alloc]; omega)).trans (World.alloc_heap_new w _))
  have hbw := Below.next (Below.alloc (HB.out _) (by rw [World.size_alloc]; omega) _) b1
  have c1 : w1.cell? ⟨w.heap.size, 1, none⟩ = some (.int .i64 k) := h0.cell 1
  clear b1
  rw [T1.out]
  cases y1
  · go_wp2_with fail
    go_ret
    exact ⟨rfl, hbw⟩
  go_wp2_with fail
  refine (within_ok 1 1000000 w1.heap.size 0 1 [k] _ (by simp [World.size_alloc]) (by simp) ?_).mono ?_
  · intro j x hj
    match j, hj with
    | 0, hj => cases hj; rw [cell_of_row _ _ 0 _ _ _ (World.alloc_heap_new w1 _)]; rfl
  rintro e w3 ⟨rfl, b3⟩
  have hlt := BlkIs.lt h0
  have h3 : BlkIs w3 w.heap.size 67 [.int .i64 t, .int .i64 k, .int .i64 a, .int .i64 b, .int .i64 c] := (b3.block w.heap.size (by rw [World.size_alloc]; omega)).trans ((Below.heap_alloc _ _ w.heap.size hlt).trans h0)
  have hbw3 := Below.next (Below.alloc hbw hbw.size _) b3
  have hlt3 := BlkIs.lt h3
  clear b3 h0 c1 hbw
  rw [T2.out]
  cases y2
  · go_wp2_with fail
    go_ret
    exact ⟨rfl, hbw3⟩
  have z2 : w3.cell? ⟨w.heap.size, 2, none⟩ = some (.int .i64 a) := h3.cell 2
  go_wp2_with fail
  refine (within_ok (-1000000000) 1000000000 w.heap.size 2 3 [a, b, c] _ hlt3 (by simp) ?_).mono ?_
  · intro j x hj
    match j, hj with
    | 0, hj => cases hj; exact h3.cell 2
    | 1, hj => cases hj; exact h3.cell 3
    | 2, hj => cases hj; exact h3.cell 4
  rintro e w4 ⟨rfl, b4⟩
  have hb4 := Below.next hbw3 b4
  rw [T3.out]
  go_wp2_with fail
  go_ret
  exact ⟨rfl, hb4⟩
end Go.Proofs.YtgbemgndbemllaaGreatDoor
