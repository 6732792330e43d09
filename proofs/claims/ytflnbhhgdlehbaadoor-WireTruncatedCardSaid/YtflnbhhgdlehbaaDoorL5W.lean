/- The walk of WireTruncated. -/
import Derived.Test.YtflnbhhgdlehbaaDoorL2W
import Derived.Test.YtflnbhhgdlehbaaDoorStrQ
import Derived.RegionTactic
import Derived.ChangeAlike
namespace Go.Proofs.YtflnbhhgdlehbaaDoor
open Go Go.RowKit

set_option maxRecDepth 100000 in
set_option maxHeartbeats 1000000 in
theorem law5_any (c d : Int) (s : ByteArray) (p : Int) (w : World) (hT : TabOk w) (c1 : -9223372036854775808 ≤ c) (c2 : c ≤ 9223372036854775807)
    (d1 : -9223372036854775808 ≤ d) (d2 : d ≤ 9223372036854775807) (n1 : -9223372036854775808 ≤ p) (n2 : p ≤ 9223372036854775807) :
    Calls Tryd.prog 7 #[.int .i64 c, .int .i64 d, .string s, .int .i64 p] w fun e w' => e = .returned (.bool true) ∧ Below w.heap.size w w' := by
  have HT := Lib.hid hT
  clear hT
  obtain ⟨m, em, m1, m2, -⟩ := cut_min s 200 (by omega)
  have nc := numZ_ok c
  have nd := numZ_ok d
  have lc := putL_len (numZ c)
  have ld := putL_len (numZ d)
  have pc := List.length_pos_iff.2 (putL_pos (numZ c))
  have pd := List.length_pos_iff.2 (putL_pos (numZ d))
  go_enter Tryd.func7, Tryd.ntmps7
  go_wp2_with fail
  refine (sane_any _ HT.out).mono ?_
  rintro e w1 ⟨rfl, b1⟩
  go_wp2_with fail
  refine (numberFrom_any c _ c1 c2).mono ?_
  rintro e w2 ⟨rfl, b2⟩
  go_wp2_with fail
  refine (putInt_ok (numZ c) nc.1 nc.2 _).mono ?_
  rintro e w3 ⟨rfl, b3⟩
  go_wp2_with fail
  refine (numberFrom_any d _ d1 d2).mono ?_
  rintro e w4 ⟨rfl, b4⟩
  go_wp2_with fail
  refine (putInt_ok (numZ d) nd.1 nd.2 _).mono ?_
  rintro e w5 ⟨rfl, b5⟩
  have bb5 : Below w.heap.size w w5 := b1.trans ((b2.trans ((b3.trans ((b4.trans (b5.mono b4.size)).mono b3.size)).mono b2.size)).mono b1.size)
  clear b1 b2 b3 b4 b5
  obtain ⟨t, ht⟩ : ∃ t, t = s.extract 0 m := ⟨_, rfl⟩
  have st : t.size ≤ 200 := by rw [ht, size_cut _ _ m1]; omega
  go_wp2_with fail
  rw [← ht]
  refine (putString_ok t _ (by omega)).mono ?_
  rintro e w6 ⟨rfl, b6⟩
  obtain ⟨a, ha⟩ : ∃ a : ByteArray, a = ⟨(putL (numZ c)).toArray⟩ := ⟨_, rfl⟩
  obtain ⟨b, hb⟩ : ∃ b : ByteArray, b = ⟨(putL (numZ d)).toArray⟩ := ⟨_, rfl⟩
  obtain ⟨T, hT⟩ : ∃ T : ByteArray, T = ⟨(putS t.data.toList).toArray⟩ := ⟨_, rfl⟩
  rw [← ha, ← hb, ← hT]
  have la : a.data.toList = putL (numZ c) := by rw [ha, mk_toList]
  have lb : b.data.toList = putL (numZ d) := by rw [hb, mk_toList]
  have lT : T.data.toList = putS t.data.toList := by rw [hT, mk_toList]
  have sa : 0 < a.size ∧ a.size ≤ 9 := by rw [ha, size_mk]; omega
  have sb : 0 < b.size ∧ b.size ≤ 9 := by rw [hb, size_mk]; omega
  have sT : 0 < T.size ∧ T.size ≤ 209 := by
    have := putS_len t.data.toList
    have e : t.data.toList.length = t.size := by simp
    rw [hT, size_mk]; omega
  clear ha hb hT ht em m1 m2 lc ld pc pd
  have qa : ((a.size : Int) == 0) = false := by rw [beq_eq_false_iff_ne]; omega
  have qT : ((T.size : Int) == 0) = false := by rw [beq_eq_false_iff_ne]; omega
  have pa := pickZ_range p (a.size : Int) (by omega)
  have pT := pickZ_range p (T.size : Int) (by omega)
  have cI : getInt (a.extract 0 (pickZ p a.size).toNat).data.toList 0 = (0, 0, 10) := by
    rw [Lib.extract_data, List.drop_zero, Nat.sub_zero, la]
    exact getInt_cut _ nc _ (by rw [← la]; have : a.data.toList.length = a.size := by simp
                                omega)
  have cS : getStr (T.extract 0 (pickZ p T.size).toNat).data.toList 0 = ([], 0, 10) := by
    rw [Lib.extract_data, List.drop_zero, Nat.sub_zero, lT]
    exact getStr_cut _ (by have : t.data.toList.length = t.size := by simp
                           omega) _ (by rw [← lT]; have : T.data.toList.length = T.size := by simp
                                        omega)
  have HI := Lib.hid cI
  have HS := Lib.hid cS
  clear cI cS lT
  go_wp2_with fail
  refine (pick_any _ _ _ n1 n2 (by omega) (by omega)).mono ?_
  rintro e w' ⟨rfl, rfl⟩
  go_wp2_with fail
  refine (int_any _ 0 _ (by rw [ByteArray.size_extract]; omega) (by omega) (by omega) _ _ _ HI.out).mono ?_
  rintro e w' ⟨rfl, rfl⟩
  go_wp2_with fail
  refine (pick_any _ _ _ n1 n2 (by omega) (by omega)).mono ?_
  rintro e w' ⟨rfl, rfl⟩
  go_wp2_with fail
  refine (string_any _ 0 _ (by rw [ByteArray.size_extract]; omega) (by omega) (by omega) _ _ _ HS.out).mono ?_
  rintro e w' ⟨rfl, rfl⟩
  have hpre : ((b.extract 0 a.size).toList == a.toList) = (numZ c == numZ d) := by
    rw [Lib.toList_data, Lib.toList_data, Lib.extract_data, List.drop_zero, Nat.sub_zero, la, lb, Bool.eq_iff_iff, beq_iff_eq, beq_iff_eq]
    have : a.size = (putL (numZ c)).length := by rw [← la]; simp
    rw [this]
    exact putL_take _ _ nc nd
  have hle : numZ c = numZ d → a.size ≤ b.size := by
    intro e
    have h1 : a.size = (putL (numZ c)).length := by rw [← la]; simp
    have h2 : b.size = (putL (numZ d)).length := by rw [← lb]; simp
    rw [h1, h2, e]; omega
  have fin : ∀ w7, Below w6.heap.size w6 w7 → Below w.heap.size w w7 := fun w7 h => bb5.trans ((b6.trans (h.mono b6.size)).mono bb5.size)
  have HP := Lib.hid hpre
  have HL := Lib.hid hle
  clear hpre hle la lb
  by_cases hab : a.size ≤ b.size
  · have qab : decide ((a.size : Int) ≤ (b.size : Int)) = true := by simp; omega
    by_cases hcd : numZ c = numZ d
    · have q1 : ((b.extract 0 a.size).toList == a.toList) = true := by rw [HP.out]; simp [hcd]
      have q2 : (numZ c == numZ d) = true := by simp [hcd]
      clear hcd
      go_wp2_with fail
      refine (numberFrom_any c _ c1 c2).mono ?_
      rintro e w7 ⟨rfl, b7⟩
      go_wp2_with fail
      refine (numberFrom_any d _ d1 d2).mono ?_
      rintro e w8 ⟨rfl, b8⟩
      go_wp2_with fail
      go_ret
      exact ⟨rfl, fin _ (b7.trans (b8.mono b7.size))⟩
    · have q1 : ((b.extract 0 a.size).toList == a.toList) = false := by rw [HP.out]; simp [hcd]
      have q2 : (numZ c == numZ d) = false := by simp [hcd]
      clear hcd
      go_wp2_with fail
      refine (numberFrom_any c _ c1 c2).mono ?_
      rintro e w7 ⟨rfl, b7⟩
      go_wp2_with fail
      refine (numberFrom_any d _ d1 d2).mono ?_
      rintro e w8 ⟨rfl, b8⟩
      go_wp2_with fail
      go_ret
      exact ⟨rfl, fin _ (b7.trans (b8.mono b7.size))⟩
  · have qab : decide ((a.size : Int) ≤ (b.size : Int)) = false := by simp; omega
    have q2 : (numZ c == numZ d) = false := by rw [beq_eq_false_iff_ne]; exact fun e => hab (HL.out e)
    go_wp2_with fail
    refine (numberFrom_any c _ c1 c2).mono ?_
    rintro e w7 ⟨rfl, b7⟩
    go_wp2_with fail
    refine (numberFrom_any d _ d1 d2).mono ?_
    rintro e w8 ⟨rfl, b8⟩
    go_wp2_with fail
    go_ret
    exact ⟨rfl, fin _ (b7.trans (b8.mono b7.size))⟩

end Go.Proofs.YtflnbhhgdlehbaaDoor
