/- The reference's Decode of a head. -/
import Derived.Test.YtheebajklnljdaaGreatDoorGg
import Derived.Test.YtheebajklnljdaaGreatDoorQRIntW
namespace Go.Proofs.YtheebajklnljdaaGreatDoor
open Go Go.RowKit
attribute [local go_sem] Oper.semAt_some

set_option maxRecDepth 100000 in
set_option maxHeartbeats 4000000 in
theorem r9decode_ok (s : ByteArray) (w : World) (hs : s.size ≤ 1000000) :
    Calls Tryz.prog 33 #[.string s] w fun e w' => e = .returned (.tuple #[hdV (decA s.data.toList).1, .int .i64 (decA s.data.toList).2]) ∧ Below w.heap.size w w' := by
  obtain ⟨n, x, e1, h1⟩ : ∃ n x e1, getInt s.data.toList (0 : Int) = (n, x, e1) := ⟨_, _, _, rfl⟩
  have hl : s.data.toList.length = s.size := by simp
  have hint := fun W => rInt_any s 0 W (by omega) (by omega) (by omega) n x e1 h1
  have HI := Lib.hid hint
  obtain ⟨D, hD⟩ : ∃ D, D = decA s.data.toList := ⟨_, rfl⟩
  have hD2 := hD
  unfold decA at hD2
  rw [h1, hl] at hD2
  dsimp only at hD2
  rw [← hD]
  have hc := getInt_cases _ _ _ _ _ h1 (by omega) (by omega)
  rw [hl] at hc
  have hb1 := fun o => Below.alloc (Below.refl w.heap.size w) (Nat.le_refl _) o
  have HB := Lib.hid hb1
  clear hint h1 hD hb1
  by_cases k1 : e1 = 0
  · by_cases k2 : (s.size : Int) - x = 64
    · have t1 : (e1 != 0) = false := by simpa using k1
      have t2 : ((s.size : Int) - x != 64) = false := by simpa using k2
      rw [if_neg (by rintro (h | h); exact h k1; exact h k2)] at hD2
      subst k1
      have hx : 0 ≤ x ∧ x ≤ s.size ∧ IntOk n := by
        rcases hc with ⟨_, a, b, c, _⟩ | ⟨a, _⟩
        · exact ⟨b, c, a⟩
        · omega
      obtain ⟨x0, x1, -⟩ := hx
      obtain ⟨k, rfl⟩ := Int.eq_ofNat_of_zero_le x0
      rw [Int.toNat_natCast] at hD2
      obtain ⟨k2', hk2⟩ : ∃ q, q = k + 32 := ⟨_, rfl⟩
      have e32 : (k : Int) + 32 = (k2' : Int) := by omega
      obtain ⟨C, hC⟩ : ∃ C, C = (s.data.toList.drop k).take 32 := ⟨_, rfl⟩
      obtain ⟨T, hT⟩ : ∃ T, T = s.data.toList.drop (k + 32) := ⟨_, rfl⟩
      have hcs : s.extract k k2' = str C := by rw [extract_eq, hC, hk2, show k + 32 - k = 32 by omega]
      have hts : s.extract k2' s.size = str T := by
        rw [extract_eq, hT, hk2]
        have : (s.data.toList.drop (k + 32)).take (s.size - (k + 32)) = s.data.toList.drop (k + 32) := List.take_of_length_le (by rw [List.length_drop]; omega)
        rw [this]
      rw [← hC, ← hT] at hD2
      have hv := fun W => r9valid_ok ⟨n, C, T⟩ W
      have HC := Lib.hid hcs
      have HT := Lib.hid hts
      have q0 : (0 : Int) ≤ (k : Int) := by omega
      have q1 : (k : Int) ≤ (k2' : Int) := by omega
      have q2 : (k2' : Int) ≤ (s.size : Int) := by omega
      clear hC hT hcs hts hc k2 hk2
      by_cases hB : hdB ⟨n, C, T⟩ = true
      · rw [if_pos hB] at hD2
        rw [hB] at hv
        have HV := Lib.hid hv
        subst hD2
        clear hv hB
        unfold hdV
        unfold hdV at HV
        dsimp only at HV
        dsimp only
        go_enter Tryz.func33, Tryz.ntmps33
        go_wp2_with fail
        refine (HI.out _).mono ?_
        rintro e w1 ⟨rfl, b1⟩
        have hz1 := (BlkIs.new w 46 #[.int .i64 0, .string ⟨#[]⟩, .string ⟨#[]⟩]).later b1
        have hbw := Below.next (HB.out _) b1
        have hlt1 := hz1.lt
        clear b1
        go_wp2_with fail
        go_region
        rw [HC.out, HT.out]
        have hbz : Below w.heap.size w (w1.alloc (.cells #[.int .i64 n, .string (str C), .string (str T)] 46)).drew := Below.drew (Below.alloc hbw hbw.size _)
        go_wp2_with fail
        refine (HV.out _).mono ?_
        rintro e w2 ⟨rfl, b2⟩
        have hz : BlkIs w2 w.heap.size 46 [.int .i64 0, .string ⟨#[]⟩, .string ⟨#[]⟩] := (b2.block w.heap.size (by simp [World.size_alloc]; omega)).trans ((Below.heap_alloc _ _ w.heap.size hlt1).trans hz1)
        have hn : BlkIs w2 w1.heap.size 46 [.int .i64 n, .string (str C), .string (str T)] := (b2.block w1.heap.size (by simp [World.size_alloc])).trans (World.alloc_heap_new w1 _)
        have z0 : w2.cell? ⟨w.heap.size, 0, none⟩ = some (.int .i64 0) := hz.cell 0
        have z1 : w2.cell? ⟨w.heap.size, 1, none⟩ = some (.string ⟨#[]⟩) := hz.cell 1
        have z2 : w2.cell? ⟨w.heap.size, 2, none⟩ = some (.string ⟨#[]⟩) := hz.cell 2
        have f0 := hz.frozen 0
        have f1 := hz.frozen 1
        have f2 := hz.frozen 2
        have c0 : w2.cell? ⟨w1.heap.size, 0, none⟩ = some (.int .i64 n) := hn.cell 0
        have c1 : w2.cell? ⟨w1.heap.size, 1, none⟩ = some (.string (str C)) := hn.cell 1
        have c2 : w2.cell? ⟨w1.heap.size, 2, none⟩ = some (.string (str T)) := hn.cell 2
        have hb2 := Below.next hbz b2
        clear b2 hbz
        go_wp2_with fail
        have hz3 := ((hz.set 0 (.int .i64 n)).set 1 (.string (str C))).set 2 (.string (str T))
        have hb3 := ((hb2.setCell (p := ⟨w.heap.size, 0, none⟩) (Nat.le_refl _) (.int .i64 n)).setCell (p := ⟨w.heap.size, 1, none⟩) (Nat.le_refl _) (.string (str C))).setCell (p := ⟨w.heap.size, 2, none⟩) (Nat.le_refl _) (.string (str T))
        generalize ((w2.setCell ⟨w.heap.size, 0, none⟩ (.int .i64 n)).setCell ⟨w.heap.size, 1, none⟩ (.string (str C))).setCell ⟨w.heap.size, 2, none⟩ (.string (str T)) = w3 at *
        have y0 : w3.cell? ⟨w.heap.size, 0, none⟩ = some (.int .i64 n) := hz3.cell 0
        have y1 : w3.cell? ⟨w.heap.size, 1, none⟩ = some (.string (str C)) := hz3.cell 1
        have y2 : w3.cell? ⟨w.heap.size, 2, none⟩ = some (.string (str T)) := hz3.cell 2
        refine bodyPost_ret (by simp [results, Tryz.results33, go_sem, y0, y1, y2]; try rfl) rfl ?_
        exact ⟨rfl, hb3⟩
      · rw [if_neg hB] at hD2
        rw [Bool.not_eq_true] at hB
        rw [hB] at hv
        have HV := Lib.hid hv
        subst hD2
        clear hv hB
        unfold hdV
        unfold hdV at HV
        dsimp only at HV
        dsimp only
        go_enter Tryz.func33, Tryz.ntmps33
        go_wp2_with fail
        refine (HI.out _).mono ?_
        rintro e w1 ⟨rfl, b1⟩
        have hz1 := (BlkIs.new w 46 #[.int .i64 0, .string ⟨#[]⟩, .string ⟨#[]⟩]).later b1
        have hbw := Below.next (HB.out _) b1
        have hlt1 := hz1.lt
        clear b1
        go_wp2_with fail
        go_region
        rw [HC.out, HT.out]
        have hbz : Below w.heap.size w (w1.alloc (.cells #[.int .i64 n, .string (str C), .string (str T)] 46)).drew := Below.drew (Below.alloc hbw hbw.size _)
        go_wp2_with fail
        refine (HV.out _).mono ?_
        rintro e w2 ⟨rfl, b2⟩
        have hz : BlkIs w2 w.heap.size 46 [.int .i64 0, .string ⟨#[]⟩, .string ⟨#[]⟩] := (b2.block w.heap.size (by simp [World.size_alloc]; omega)).trans ((Below.heap_alloc _ _ w.heap.size hlt1).trans hz1)
        have hn : BlkIs w2 w1.heap.size 46 [.int .i64 n, .string (str C), .string (str T)] := (b2.block w1.heap.size (by simp [World.size_alloc])).trans (World.alloc_heap_new w1 _)
        have z0 : w2.cell? ⟨w.heap.size, 0, none⟩ = some (.int .i64 0) := hz.cell 0
        have z1 : w2.cell? ⟨w.heap.size, 1, none⟩ = some (.string ⟨#[]⟩) := hz.cell 1
        have z2 : w2.cell? ⟨w.heap.size, 2, none⟩ = some (.string ⟨#[]⟩) := hz.cell 2
        have f0 := hz.frozen 0
        have f1 := hz.frozen 1
        have f2 := hz.frozen 2
        have c0 : w2.cell? ⟨w1.heap.size, 0, none⟩ = some (.int .i64 n) := hn.cell 0
        have c1 : w2.cell? ⟨w1.heap.size, 1, none⟩ = some (.string (str C)) := hn.cell 1
        have c2 : w2.cell? ⟨w1.heap.size, 2, none⟩ = some (.string (str T)) := hn.cell 2
        have hb2 := Below.next hbz b2
        clear b2 hbz
        go_wp2_with fail
        have hz3 := ((hz.set 0 (.int .i64 0)).set 1 (.string ⟨#[]⟩)).set 2 (.string ⟨#[]⟩)
        have hb3 := ((hb2.setCell (p := ⟨w.heap.size, 0, none⟩) (Nat.le_refl _) (.int .i64 0)).setCell (p := ⟨w.heap.size, 1, none⟩) (Nat.le_refl _) (.string ⟨#[]⟩)).setCell (p := ⟨w.heap.size, 2, none⟩) (Nat.le_refl _) (.string ⟨#[]⟩)
        generalize ((w2.setCell ⟨w.heap.size, 0, none⟩ (.int .i64 0)).setCell ⟨w.heap.size, 1, none⟩ (.string ⟨#[]⟩)).setCell ⟨w.heap.size, 2, none⟩ (.string ⟨#[]⟩) = w3 at *
        have y0 : w3.cell? ⟨w.heap.size, 0, none⟩ = some (.int .i64 0) := hz3.cell 0
        have y1 : w3.cell? ⟨w.heap.size, 1, none⟩ = some (.string ⟨#[]⟩) := hz3.cell 1
        have y2 : w3.cell? ⟨w.heap.size, 2, none⟩ = some (.string ⟨#[]⟩) := hz3.cell 2
        refine bodyPost_ret (by simp [results, Tryz.results33, go_sem, y0, y1, y2]; try rfl) rfl ?_
        exact ⟨rfl, hb3⟩
    · have t1 : (e1 != 0) = false := by simpa using k1
      have t2 : ((s.size : Int) - x != 64) = true := by simpa using k2
      rw [if_pos (.inr k2)] at hD2
      subst hD2
      clear k2
      go_enter Tryz.func33, Tryz.ntmps33
      go_wp2_with fail
      refine (HI.out _).mono ?_
      rintro e w2 ⟨rfl, b2⟩
      have hz := (BlkIs.new w 46 #[.int .i64 0, .string ⟨#[]⟩, .string ⟨#[]⟩]).later b2
      have hb2 := Below.next (HB.out _) b2
      have z0 : w2.cell? ⟨w.heap.size, 0, none⟩ = some (.int .i64 0) := hz.cell 0
      have z1 : w2.cell? ⟨w.heap.size, 1, none⟩ = some (.string ⟨#[]⟩) := hz.cell 1
      have z2 : w2.cell? ⟨w.heap.size, 2, none⟩ = some (.string ⟨#[]⟩) := hz.cell 2
      have f0 := hz.frozen 0
      have f1 := hz.frozen 1
      have f2 := hz.frozen 2
      clear b2
      go_wp2_with fail
      have hz3 := ((hz.set 0 (.int .i64 0)).set 1 (.string ⟨#[]⟩)).set 2 (.string ⟨#[]⟩)
      have hb3 := ((hb2.setCell (p := ⟨w.heap.size, 0, none⟩) (Nat.le_refl _) (.int .i64 0)).setCell (p := ⟨w.heap.size, 1, none⟩) (Nat.le_refl _) (.string ⟨#[]⟩)).setCell (p := ⟨w.heap.size, 2, none⟩) (Nat.le_refl _) (.string ⟨#[]⟩)
      generalize ((w2.setCell ⟨w.heap.size, 0, none⟩ (.int .i64 0)).setCell ⟨w.heap.size, 1, none⟩ (.string ⟨#[]⟩)).setCell ⟨w.heap.size, 2, none⟩ (.string ⟨#[]⟩) = w3 at *
      have y0 : w3.cell? ⟨w.heap.size, 0, none⟩ = some (.int .i64 0) := hz3.cell 0
      have y1 : w3.cell? ⟨w.heap.size, 1, none⟩ = some (.string ⟨#[]⟩) := hz3.cell 1
      have y2 : w3.cell? ⟨w.heap.size, 2, none⟩ = some (.string ⟨#[]⟩) := hz3.cell 2
      refine bodyPost_ret (by simp [results, Tryz.results33, go_sem, y0, y1, y2]; try rfl) rfl ?_
      exact ⟨rfl, hb3⟩
  · have t1 : (e1 != 0) = true := by simpa using k1
    rw [if_pos (.inl k1)] at hD2
    subst hD2
    go_enter Tryz.func33, Tryz.ntmps33
    go_wp2_with fail
    refine (HI.out _).mono ?_
    rintro e w2 ⟨rfl, b2⟩
    have hz := (BlkIs.new w 46 #[.int .i64 0, .string ⟨#[]⟩, .string ⟨#[]⟩]).later b2
    have hb2 := Below.next (HB.out _) b2
    have z0 : w2.cell? ⟨w.heap.size, 0, none⟩ = some (.int .i64 0) := hz.cell 0
    have z1 : w2.cell? ⟨w.heap.size, 1, none⟩ = some (.string ⟨#[]⟩) := hz.cell 1
    have z2 : w2.cell? ⟨w.heap.size, 2, none⟩ = some (.string ⟨#[]⟩) := hz.cell 2
    have f0 := hz.frozen 0
    have f1 := hz.frozen 1
    have f2 := hz.frozen 2
    clear b2
    go_wp2_with fail
    have hz3 := ((hz.set 0 (.int .i64 0)).set 1 (.string ⟨#[]⟩)).set 2 (.string ⟨#[]⟩)
    have hb3 := ((hb2.setCell (p := ⟨w.heap.size, 0, none⟩) (Nat.le_refl _) (.int .i64 0)).setCell (p := ⟨w.heap.size, 1, none⟩) (Nat.le_refl _) (.string ⟨#[]⟩)).setCell (p := ⟨w.heap.size, 2, none⟩) (Nat.le_refl _) (.string ⟨#[]⟩)
    generalize ((w2.setCell ⟨w.heap.size, 0, none⟩ (.int .i64 0)).setCell ⟨w.heap.size, 1, none⟩ (.string ⟨#[]⟩)).setCell ⟨w.heap.size, 2, none⟩ (.string ⟨#[]⟩) = w3 at *
    have y0 : w3.cell? ⟨w.heap.size, 0, none⟩ = some (.int .i64 0) := hz3.cell 0
    have y1 : w3.cell? ⟨w.heap.size, 1, none⟩ = some (.string ⟨#[]⟩) := hz3.cell 1
    have y2 : w3.cell? ⟨w.heap.size, 2, none⟩ = some (.string ⟨#[]⟩) := hz3.cell 2
    refine bodyPost_ret (by simp [results, Tryz.results33, go_sem, y0, y1, y2]; try rfl) rfl ?_
    exact ⟨rfl, hb3⟩
end Go.Proofs.YtheebajklnljdaaGreatDoor
