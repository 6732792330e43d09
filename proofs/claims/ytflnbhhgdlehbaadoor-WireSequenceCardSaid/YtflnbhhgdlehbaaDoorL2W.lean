/- The walk of WireRoundTrip. -/
import Derived.Test.YtflnbhhgdlehbaaDoorSaneW
namespace Go.Proofs.YtflnbhhgdlehbaaDoor
open Go Go.RowKit

/-- s[:min(len(s), b)] -/
theorem cut_min (s : ByteArray) (b : Int) (hb : 0 ≤ b) : ∃ m : Nat, (if b < (s.size : Int) then b else (s.size : Int)) = (m : Int) ∧ m ≤ s.size ∧ (m : Int) ≤ b ∧ m = min s.size b.toNat :=
  ⟨min s.size b.toNat, by split <;> omega, by omega, by omega, rfl⟩

theorem size_cut (s : ByteArray) (m : Nat) (h : m ≤ s.size) : (s.extract 0 m).size = m := by
  rw [ByteArray.size_extract]; omega

theorem mk_data (t : ByteArray) : (⟨t.data.toList.toArray⟩ : ByteArray) = t := by simp

theorem size_mk (l : List UInt8) : (⟨l.toArray⟩ : ByteArray).size = l.length := by simp [ByteArray.size]

theorem data3 (a b c : ByteArray) : (a ++ b ++ c).data.toList = a.data.toList ++ (b.data.toList ++ c.data.toList) := by
  simp [ByteArray.data_append]

theorem int_in (p q : ByteArray) (n : Int) (hn : IntOk n) : getInt (p ++ ⟨(putL n).toArray⟩ ++ q).data.toList (p.size : Nat) = (n, (p.size : Int) + ((putL n).length : Nat), 0) := by
  refine getInt_put _ _ _ hn q.data.toList ?_
  rw [data3]
  have : p.data.toList.length = p.size := by simp
  rw [← this, List.drop_left]

theorem str_in (p q : ByteArray) (t : List UInt8) (ht : t.length ≤ 65536) : getStr (p ++ ⟨(putS t).toArray⟩ ++ q).data.toList (p.size : Nat) = (t, (p.size : Int) + ((putS t).length : Nat), 0) := by
  refine getStr_put _ _ _ ht q.data.toList ?_
  rw [data3]
  have : p.data.toList.length = p.size := by simp
  rw [← this, List.drop_left]

set_option maxRecDepth 100000 in
set_option maxHeartbeats 1000000 in
theorem law2_any (c : Int) (x y z : ByteArray) (w : World) (hT : TabOk w) (n1 : -9223372036854775808 ≤ c) (n2 : c ≤ 9223372036854775807) :
    Calls Tryd.prog 4 #[.int .i64 c, .string x, .agg #[.string y, .string z]] w fun e w' => e = .returned (.bool true) ∧ Below w.heap.size w w' := by
  have HT := Lib.hid hT
  clear hT
  obtain ⟨mx, ex, mx1, mx2, -⟩ := cut_min x 200 (by omega)
  obtain ⟨my, ey, my1, my2, -⟩ := cut_min y 200 (by omega)
  obtain ⟨mz, ez, mz1, mz2, -⟩ := cut_min z 200 (by omega)
  go_enter Tryd.func4, Tryd.ntmps4
  go_wp2_with fail
  refine (sane_any _ (HT.out.later ((Below.refl _ w).alloc (Nat.le_refl _) _))).mono ?_
  rintro e w1 ⟨rfl, b1⟩
  have hs1 := b1.size
  simp only [World.size_alloc] at hs1
  have bb1 : Below w.heap.size w w1 := ((Below.refl _ w).alloc (Nat.le_refl _) _).trans (b1.mono (by simp))
  have c0 : w1.cell? ⟨w.heap.size, 0, none⟩ = some (.string y) := (b1.cell (p := ⟨w.heap.size, 0, none⟩) (by simp)).trans (by simp)
  have c1 : w1.cell? ⟨w.heap.size, 1, none⟩ = some (.string z) := (b1.cell (p := ⟨w.heap.size, 1, none⟩) (by simp)).trans (by simp)
  clear b1
  go_wp2_with fail
  refine (numberFrom_any c _ n1 n2).mono ?_
  rintro e w2 ⟨rfl, b2⟩
  have nr := numZ_range c
  have d0 : w2.cell? ⟨w.heap.size, 0, none⟩ = some (.string y) := (b2.cell (p := ⟨w.heap.size, 0, none⟩) (by show w.heap.size < w1.heap.size; omega)).trans c0
  have d1 : w2.cell? ⟨w.heap.size, 1, none⟩ = some (.string z) := (b2.cell (p := ⟨w.heap.size, 1, none⟩) (by show w.heap.size < w1.heap.size; omega)).trans c1
  clear c0 c1
  go_wp2_with fail
  refine (putInt_ok (numZ c) (by omega) (by omega) _).mono ?_
  rintro e w3 ⟨rfl, b3⟩
  obtain ⟨p, hp⟩ : ∃ p, p = y.extract 0 my := ⟨_, rfl⟩
  obtain ⟨q, hq⟩ : ∃ q, q = z.extract 0 mz := ⟨_, rfl⟩
  obtain ⟨t, ht⟩ : ∃ t, t = x.extract 0 mx := ⟨_, rfl⟩
  rw [← hp, ← hq, ← ht]
  have sp : p.size ≤ 200 := by rw [hp, size_cut _ _ my1]; omega
  have sq : q.size ≤ 200 := by rw [hq, size_cut _ _ mz1]; omega
  have st : t.size ≤ 200 := by rw [ht, size_cut _ _ mx1]; omega
  have bb3 : Below w.heap.size w w3 := bb1.trans ((b2.trans (b3.mono b2.size)).mono bb1.size)
  clear hp hq ht mx1 mx2 my1 my2 mz1 mz2 ex ey ez d0 d1 b2 b3 hs1
  have hnok := numZ_ok c
  have lput := putL_len (numZ c)
  go_wp2_with fail
  refine (putString_ok t _ (by omega)).mono ?_
  rintro e w4 ⟨rfl, b4⟩
  obtain ⟨A, hA⟩ : ∃ A, A = putL (numZ c) := ⟨_, rfl⟩
  obtain ⟨B, hB⟩ : ∃ B, B = putS t.data.toList := ⟨_, rfl⟩
  have lB : B.length ≤ 209 := by
    rw [hB, putS, List.length_append]
    have := putL_len t.data.toList.length
    have e : t.data.toList.length = t.size := by simp
    omega
  have hI : getInt (p ++ ⟨A.toArray⟩ ++ q).data.toList (p.size : Nat) = (numZ c, (p.size : Int) + (A.length : Nat), 0) := by rw [hA]; exact int_in p q _ hnok
  have hS : getStr (p ++ ⟨B.toArray⟩ ++ q).data.toList (p.size : Nat) = (t.data.toList, (p.size : Int) + (B.length : Nat), 0) := by
    rw [hB]; exact str_in p q _ (by have e : t.data.toList.length = t.size := by simp
                                    omega)
  rw [← hA, ← hB]
  have lA : A.length ≤ 9 := by rw [hA]; exact lput
  have HI := Lib.hid hI
  have HS := Lib.hid hS
  clear hI hS hA hB hnok lput
  go_wp2_with fail
  refine (int_any _ _ _ (by simp only [ByteArray.size_append, size_mk]; omega) (by omega) (by omega) _ _ _ HI.out).mono ?_
  rintro e w' ⟨rfl, rfl⟩
  go_wp2_with fail
  refine (string_any _ _ _ (by simp only [ByteArray.size_append, size_mk]; omega) (by omega) (by omega) _ _ _ HS.out).mono ?_
  rintro e w' ⟨rfl, rfl⟩
  rw [mk_data]
  clear HI HS
  go_wp2_with fail
  go_ret
  exact ⟨rfl, bb3.trans (b4.mono bb3.size)⟩

end Go.Proofs.YtflnbhhgdlehbaaDoor
