/- The walk of WireMatchesReference. -/
import Derived.Test.YtflnbhhgdlehbaaDoorSaneW
namespace Go.Proofs.YtflnbhhgdlehbaaDoor
open Go Go.RowKit

set_option maxRecDepth 100000 in
set_option maxHeartbeats 1000000 in
theorem law1_any (n : Int) (s : ByteArray) (p : Int) (w : World) (hT : TabOk w) (n1 : -9223372036854775808 ≤ n) (n2 : n ≤ 9223372036854775807) (hs : s.size ≤ 140737488355328)
    (p1 : -9223372036854775808 ≤ p) (p2 : p ≤ 9223372036854775807) :
    Calls Tryd.prog 3 #[.int .i64 n, .string s, .int .i64 p] w fun e w' => e = .returned (.bool true) ∧ Below w.heap.size w w' := by
  have HT := Lib.hid hT
  clear hT
  obtain ⟨m, hm⟩ : ∃ m : Nat, m = min s.size 300 := ⟨_, rfl⟩
  have hmin : (if (300 : Int) < (s.size : Int) then (300 : Int) else (s.size : Int)) = (m : Int) := by split <;> omega
  have hm1 : m ≤ s.size := by omega
  have hm2 : m ≤ 300 := by omega
  clear hm
  go_enter Tryd.func3, Tryd.ntmps3
  go_wp2_with fail
  refine (sane_any w HT.out).mono ?_
  rintro e w1 ⟨rfl, b1⟩
  go_wp2_with fail
  refine (numberFrom_any n _ n1 n2).mono ?_
  rintro e w2 ⟨rfl, b2⟩
  go_wp2_with fail
  have bb : Below w.heap.size w w2 := b1.trans (b2.mono b1.size)
  have hsz2 : w.heap.size ≤ w2.heap.size := bb.size
  obtain ⟨wo, hwo⟩ : ∃ wo, wo = w2.alloc (.cells #[.int .i64 n, .int .i64 (numZ n)] 3) := ⟨_, rfl⟩
  rw [← hwo]
  obtain ⟨few, hfew⟩ : ∃ few, few = s.extract 0 m := ⟨_, rfl⟩
  rw [← hfew]
  have hfs : few.size ≤ 300 := by rw [hfew, ByteArray.size_extract]; omega
  clear hfew hmin hm1 hm2
  have c0 : wo.cell? ⟨w2.heap.size, 0, none⟩ = some (.int .i64 n) := by rw [hwo]; simp
  have c1 : wo.cell? ⟨w2.heap.size, 1, none⟩ = some (.int .i64 (numZ n)) := by rw [hwo]; simp
  have bo : Below w.heap.size w wo := by rw [hwo]; exact bb.alloc hsz2 _
  have hlt : w2.heap.size < wo.heap.size := by rw [hwo]; simp
  clear hwo b1 b2 bb
  have nr := numZ_range n
  go_loopw [44] (fun i wr => ∃ k : Nat, k ≤ 2 ∧ i = .int .i64 k ∧ Below wo.heap.size wo wr) (fun i _ => 2 - (intOf i).toNat)
  case atStart => exact ⟨0, by omega, rfl, Below.refl _ _⟩
  case round =>
    obtain ⟨k, hk, rfl, hb⟩ := hrel
    have d0 : wr.cell? ⟨w2.heap.size, 0, none⟩ = some (.int .i64 n) := (hb.cell (p := ⟨w2.heap.size, 0, none⟩) hlt).trans c0
    have d1 : wr.cell? ⟨w2.heap.size, 1, none⟩ = some (.int .i64 (numZ n)) := (hb.cell (p := ⟨w2.heap.size, 1, none⟩) hlt).trans c1
    by_cases hk2 : k = 2
    · subst hk2
      have pr := pickZ_range p ((few.size : Int) + 2) (by omega)
      clear d0 d1 c0 c1
      obtain ⟨wz, rfl⟩ : ∃ wz : World, wz = wr := ⟨_, rfl⟩
      go_wp2_with fail
      refine (pick_any _ _ _ p1 p2 (by omega) (by omega)).mono ?_
      rintro e w' ⟨rfl, rfl⟩
      go_wp2_with fail
      have bb : Below w.heap.size w wz := bo.trans (hb.mono bo.size)
      have hsr : w.heap.size ≤ wz.heap.size := bb.size
      obtain ⟨wq, hwq⟩ : ∃ wq, wq = wz.alloc (.cells #[.int .i64 p, .int .i64 (pickZ p ((few.size : Int) + 2))] 3) := ⟨_, rfl⟩
      rw [← hwq]
      have c0 : wq.cell? ⟨wz.heap.size, 0, none⟩ = some (.int .i64 p) := by rw [hwq]; simp
      have c1 : wq.cell? ⟨wz.heap.size, 1, none⟩ = some (.int .i64 (pickZ p ((few.size : Int) + 2))) := by rw [hwq]; simp
      have bq : Below w.heap.size w wq := by rw [hwq]; exact bb.alloc hsr _
      have hltq : wz.heap.size < wq.heap.size := by rw [hwq]; simp
      clear hwq hb bo bb hlt hsz2
      go_loopw [75] (fun i wx => ∃ k : Nat, k ≤ 2 ∧ i = .int .i64 k ∧ Below wq.heap.size wq wx) (fun i _ => 2 - (intOf i).toNat)
      case atStart => exact ⟨0, by omega, rfl, Below.refl _ _⟩
      case round =>
        obtain ⟨k, hk, rfl, hb⟩ := hrel
        have d0 : wr.cell? ⟨wz.heap.size, 0, none⟩ = some (.int .i64 p) := (hb.cell (p := ⟨wz.heap.size, 0, none⟩) hltq).trans c0
        have d1 : wr.cell? ⟨wz.heap.size, 1, none⟩ = some (.int .i64 (pickZ p ((few.size : Int) + 2))) := (hb.cell (p := ⟨wz.heap.size, 1, none⟩) hltq).trans c1
        by_cases hk2 : k = 2
        · subst hk2
          have bb : Below w.heap.size w wr := bq.trans (hb.mono bq.size)
          have HT2 := Lib.hid (HT.out.later bb)
          clear d0 d1 c0 c1 hb bq
          go_wp2_with fail
          refine (putString_ok few _ (by omega)).mono ?_
          rintro e w3 ⟨rfl, b3⟩
          go_wp2_with fail
          refine (rPutString_ok few _ (by omega)).mono ?_
          rintro e w4 ⟨rfl, b4⟩
          have bb4 : Below wr.heap.size wr w4 := b3.trans (b4.mono b3.size)
          go_wp2_with fail
          refine (sum_any few _ (by omega) (HT2.out.later bb4)).mono ?_
          rintro e w' ⟨rfl, rfl⟩
          go_wp2_with fail
          refine (rSum_any few _ (by omega)).mono ?_
          rintro e w' ⟨rfl, rfl⟩
          go_wp2_with fail
          go_ret
          exact ⟨rfl, bb.trans (bb4.mono bb.size)⟩
        · obtain rfl | rfl : k = 0 ∨ k = 1 := by omega
          all_goals
            obtain ⟨a0, x0, e0, hI0⟩ : ∃ a x e, getInt few.data.toList p = (a, x, e) := ⟨_, _, _, rfl⟩
            obtain ⟨a1, x1, e1, hI1⟩ : ∃ a x e, getInt few.data.toList (pickZ p ((few.size : Int) + 2)) = (a, x, e) := ⟨_, _, _, rfl⟩
            obtain ⟨s0, y0, f0, hS0⟩ : ∃ a x e, getStr few.data.toList p = (a, x, e) := ⟨_, _, _, rfl⟩
            obtain ⟨s1, y1, f1, hS1⟩ : ∃ a x e, getStr few.data.toList (pickZ p ((few.size : Int) + 2)) = (a, x, e) := ⟨_, _, _, rfl⟩
            have HI0 := Lib.hid hI0
            have HI1 := Lib.hid hI1
            have HS0 := Lib.hid hS0
            have HS1 := Lib.hid hS1
            clear hI0 hI1 hS0 hS1
            go_wp2_with fail
            refine (int_any few _ _ (by omega) (by omega) (by omega) _ _ _ (by first | exact HI0.out | exact HI1.out)).mono ?_
            rintro e w' ⟨rfl, rfl⟩
            go_wp2_with fail
            refine (rInt_any few _ _ (by omega) (by omega) (by omega) _ _ _ (by first | exact HI0.out | exact HI1.out)).mono ?_
            rintro e w3 ⟨rfl, b3⟩
            go_wp2_with fail
            refine (string_any few _ _ (by omega) (by omega) (by omega) _ _ _ (by first | exact HS0.out | exact HS1.out)).mono ?_
            rintro e w' ⟨rfl, rfl⟩
            go_wp2_with fail
            refine (rString_any few _ _ (by omega) (by omega) (by omega) _ _ _ (by first | exact HS0.out | exact HS1.out)).mono ?_
            rintro e w4 ⟨rfl, b4⟩
            go_wp2_with fail
            first
              | exact ⟨⟨1, by omega, rfl, hb.trans ((b3.trans (b4.mono b3.size)).mono hb.size)⟩, by simp [intOf]⟩
              | exact ⟨⟨2, by omega, rfl, hb.trans ((b3.trans (b4.mono b3.size)).mono hb.size)⟩, by simp [intOf]⟩
    · obtain rfl | rfl : k = 0 ∨ k = 1 := by omega
      all_goals
        go_wp2_with fail
        refine (putInt_all _ _).mono ?_
        rintro e w3 ⟨rfl, b3⟩
        go_wp2_with fail
        refine (rPutInt_all _ _).mono ?_
        rintro e w4 ⟨rfl, b4⟩
        go_wp2_with fail
        first
          | exact ⟨⟨1, by omega, rfl, hb.trans ((b3.trans (b4.mono b3.size)).mono hb.size)⟩, by simp [intOf]⟩
          | exact ⟨⟨2, by omega, rfl, hb.trans ((b3.trans (b4.mono b3.size)).mono hb.size)⟩, by simp [intOf]⟩
end Go.Proofs.YtflnbhhgdlehbaaDoor
