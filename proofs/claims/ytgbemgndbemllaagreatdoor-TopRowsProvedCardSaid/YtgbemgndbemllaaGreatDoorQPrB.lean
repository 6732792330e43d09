/- Prove's index: where an order's rows begin to meet a condition. -/
import Derived.Test.YtgbemgndbemllaaGreatDoorGq
namespace Go.Proofs.YtgbemgndbemllaaGreatDoor
open Go Go.RowKit Go.Shelf
attribute [local go_sem] Oper.semAt_some

theorem idx_from (p : Rw → Bool) (d : Rw) : ∀ (l : List Rw) (i : Nat), Lib.idxByFrom (fun _ y => p y) d l i = if l.findIdx p < l.length then ((i + l.findIdx p : Nat) : Int) else -1
  | [], i => by simp [Lib.idxByFrom]
  | x :: l, i => by
    rw [Lib.idxByFrom, List.findIdx_cons]
    cases h : p x with
    | true => simp
    | false =>
      rw [idx_from p d l (i + 1)]
      simp only [Bool.false_eq_true, if_false, cond_false, List.length_cons]
      by_cases h2 : l.findIdx p < l.length
      · rw [if_pos h2, if_pos (by omega)]
        congr 1
        omega
      · rw [if_neg h2, if_neg (by omega)]
theorem idx_by (p : Rw → Bool) (d : Rw) (l : List Rw) : Lib.idxBy (fun _ y => p y) l d = if l.findIdx p < l.length then ((l.findIdx p : Nat) : Int) else -1 := by
  unfold Lib.idxBy
  rw [idx_from]
  simp

set_option maxRecDepth 100000 in
set_option maxHeartbeats 1000000 in
theorem idxRow_none (A : Option Addr) (c : Nat) (fv : Value) (w : World) :
    Calls Tryz.prog 37 #[.slice A 0 c, fv] w fun e w' => e = .returned (.int .i64 (-1)) ∧ w' = w := by
  go_enter Tryz.func37, Tryz.ntmps37
  go_wp2_with fail
  go_loopw [8] (fun iv wr => iv = .int .i64 0 ∧ wr = w) (fun iv _ => 2 - (intOf iv).toNat)
  case atStart => exact ⟨rfl, rfl⟩
  case round =>
    obtain ⟨rfl, rfl⟩ := hrel
    go_wp2_with fail
    go_ret
    exact ⟨rfl, rfl⟩
theorem idxRow_ok (p : Rw → Bool) (g : Nat) (lb : Array Value) (eg : ∀ args w, (callFunc g args).run Tryz.prog w = .ok (.enter g args) w) (v : Value) (L : List Rw) (w : World) (hv : RwsAt w v L)
    (hp : ∀ (W : World) (x : Rw), Below w.heap.size w W → Calls Tryz.prog g (#[rwV x] ++ lb) W fun e w' => e = .returned (.bool (p x)) ∧ Below W.heap.size W w') (hl : L.length ≤ 1000000) :
    Calls Tryz.prog 37 #[v, .func (.func g) #[] lb] w fun e w' => e = .returned (.int .i64 (if L.findIdx p < L.length then ((L.findIdx p : Nat) : Int) else -1)) ∧ Below w.heap.size w w' := by
  obtain ⟨A, c, rfl, hc, hx⟩ := hv
  rcases Nat.eq_zero_or_pos L.length with h0 | h0
  · have : L = [] := List.eq_nil_of_length_eq_zero h0
    subst this
    refine (idxRow_none A c _ w).mono ?_
    rintro e w' ⟨rfl, rfl⟩
    exact ⟨rfl, Below.refl _ _⟩
  · obtain ⟨gb, o, rfl, hg, hj⟩ := hx h0
    have hcon := AnyQ.slices_IndexFunc Tryz.idxRow 5 isAggRow sizeOfRow rwC rwC_len p g lb eg gb o L.length c L w (fun W x hW => (hp W x hW).mono (by
      rintro e w' ⟨rfl, b⟩
      exact ⟨rfl, Below.next hW b⟩)) (Nat.le_refl _) (by omega) hg (fun j hj' i u hu => by
        refine hj j L[j] (List.getElem?_eq_getElem hj') i u ?_
        rw [getElem!_pos L j hj'] at hu
        exact hu)
    rw [List.take_length, idx_by] at hcon
    exact hcon

set_option maxRecDepth 100000 in
set_option maxHeartbeats 4000000 in
theorem index_ok (no bc : Nat) (c : Int) (L : List Rw) (rv : Value) (g : Nat) (lb : Array Value) (q : Int → Bool) (w : World) (h1 : w.cell? ⟨no, 0, none⟩ = some rv) (hrv : RwsAt w rv L) (h2 : w.cell? ⟨bc, 0, none⟩ = some (.int .i64 c)) (hp : PredI g lb q w)
    (eg : ∀ args w, (callFunc g args).run Tryz.prog w = .ok (.enter g args) w) (hl : L.length ≤ 1000000) :
    Calls Tryz.prog 36 #[.func (.func g) #[] lb, .pointer (some ⟨no, 0, none⟩), .pointer (some ⟨bc, 0, none⟩)] w fun e w' => e = .returned (.int .i64 ((L.findIdx (fun r => q (r.val c)) : Nat) : Int)) ∧ Below w.heap.size w w' := by
  have a1 := Below.alloc1 w (.cells #[.func (.func g) #[] lb] 101)
  obtain ⟨T, hT⟩ : ∃ T : TypeId, T = 97 := ⟨_, rfl⟩
  have a2 := Below.alloc1 w (.cells #[.func (.func g) #[] lb] T)
  have K2 := BlkIs.new w T #[.func (.func g) #[] lb]
  obtain ⟨w1, hw1⟩ : ∃ w1, w1 = w.alloc (.cells #[.func (.func g) #[] lb] T) := ⟨_, rfl⟩
  rw [← hw1] at a2 K2
  have l1 := block_of_cell h1
  have l2 := block_of_cell h2
  dsimp only at l1 l2
  have e38 : ∀ args w, (callFunc 38 args).run Tryz.prog w = .ok (.enter 38 args) w := enters_of Tryz.func38 (by kernel_rfl) rfl
  have hidx := idxRow_ok (fun r => q (r.val c)) 38 #[.pointer (some ⟨w.heap.size, 0, none⟩), .pointer (some ⟨bc, 0, none⟩)] e38 rv L w1 (hrv.below a2) (fun W x hW =>
    is1_ok x c g _ bc lb q W ((K2.later hW).cell 0) ((hW.cell (p := ⟨bc, 0, none⟩) (Nat.lt_of_lt_of_le l2 a2.size)).trans ((a2.cell (p := ⟨bc, 0, none⟩) l2).trans h2)) ((hp.later a2).later hW) eg) hl
  have c1 : w1.cell? ⟨no, 0, none⟩ = some rv := (a2.cell (p := ⟨no, 0, none⟩) l1).trans h1
  obtain ⟨A, cc, rfl, -, -⟩ := hrv
  obtain ⟨I, hI⟩ : ∃ I, I = L.findIdx (fun r => q (r.val c)) := ⟨_, rfl⟩
  rw [← hI] at hidx ⊢
  have hle : I ≤ L.length := by rw [hI]; exact List.findIdx_le_length
  have HIX := Lib.hid hidx
  have HW := Lib.hid hw1
  have HA := Lib.hid a2
  have HC1 := Lib.hid c1
  have hlt1 : no < w1.heap.size := Nat.lt_of_lt_of_le l1 a2.size
  have c1' := c1
  rw [hw1] at c1'
  rw [hT] at c1' HW
  clear hidx hI a1 a2 K2 hw1 hp h2 l1 l2 c1 e38 hT
  go_enter Tryz.func36, Tryz.ntmps36
  go_wp2_with fail
  rw [← HW.out]
  refine (HIX.out).mono ?_
  rintro e w2 ⟨rfl, b2⟩
  have c2 : w2.cell? ⟨no, 0, none⟩ = some (.slice A L.length cc) := (b2.cell (p := ⟨no, 0, none⟩) hlt1).trans HC1.out
  have HB := Lib.hid b2
  clear b2 c1' h1
  by_cases hI : I < L.length
  · rw [if_pos hI]
    have t1 : decide ((I : Int) < 0) = false := by simp
    go_wp2_with fail
    go_ret
    exact ⟨rfl, Below.next HA.out HB.out⟩
  · rw [if_neg hI]
    obtain rfl : I = L.length := by omega
    go_wp2_with fail
    go_ret
    exact ⟨rfl, Below.next HA.out HB.out⟩
end Go.Proofs.YtgbemgndbemllaaGreatDoor
