/- The walk of WireUnique. -/
import Derived.Test.YtflnbhhgdlehbaaDoorL2W
import Derived.RegionTactic
import Derived.ChangeAlike
namespace Go.Proofs.YtflnbhhgdlehbaaDoor
open Go Go.RowKit

set_option maxRecDepth 100000 in
set_option maxHeartbeats 1000000 in
theorem law3_any (s : ByteArray) (p b : Int) (w : World) (hT : TabOk w) (n1 : -9223372036854775808 ≤ p) (n2 : p ≤ 9223372036854775807) (b1 : 0 ≤ b) (b2 : b ≤ 255) :
    Calls Tryd.prog 5 #[.string s, .int .i64 p, .int .u8 b] w fun e w' => e = .returned (.bool true) ∧ Below w.heap.size w w' := by
  have HT := Lib.hid hT
  clear hT
  obtain ⟨c, rfl⟩ : ∃ c : UInt8, b = (c.toNat : Int) := ⟨UInt8.ofNat b.toNat, by rw [UInt8.toNat_ofNat']; omega⟩
  obtain ⟨m, em, m1, m2, -⟩ := cut_min s 300 (by omega)
  have sm := size_cut s m m1
  go_enter Tryd.func5, Tryd.ntmps5
  go_wp2_with fail
  refine (sane_any _ HT.out).mono ?_
  rintro e w1 ⟨rfl, bb1⟩
  go_wp2_with fail
  have hcv : Sem.run Tryd.prog (convert 38 9 (.slice (some ⟨w1.heap.size, 0, none⟩) 1 1)) (w1.alloc (.cells #[.int .u8 (c.toNat : Int)] 5)).drew = .ok (.string ⟨#[c]⟩) (w1.alloc (.cells #[.int .u8 (c.toNat : Int)] 5)).drew :=
    run_convert_bytes_back (l := [c]) _ 38 9 5 ⟨w1.heap.size, 0, none⟩ 1 Tryd.underlying38 Tryd.underlying5 Tryd.underlying9 (fun j hj => by
      obtain rfl : j = 0 := by simpa using hj
      simp [Addr.add])
  go_region
  obtain ⟨w2, hw2⟩ : ∃ w2, w2 = (w1.alloc (.cells #[.int .u8 (c.toNat : Int)] 5)).drew := ⟨_, rfl⟩
  obtain ⟨t, ht⟩ : ∃ t, t = (⟨#[c]⟩ : ByteArray) ++ s.extract 0 m := ⟨_, rfl⟩
  rw [← hw2, ← ht]
  have st : t.size ≤ 301 := by rw [ht, ByteArray.size_append, sm]; simp only [ByteArray.size]; simp; omega
  have bb2 : Below w.heap.size w w2 := by rw [hw2]; exact (bb1.alloc bb1.size _).drew
  clear hcv hw2 ht sm em m1 m2 bb1
  have pr := pickZ_range p ((t.size : Int) + 1) (by omega)
  go_wp2_with fail
  refine (pick_any _ _ _ n1 n2 (by omega) (by omega)).mono ?_
  rintro e w' ⟨rfl, rfl⟩
  go_wp2_with fail
  obtain ⟨wo, hwo⟩ : ∃ wo, wo = w2.alloc (.cells #[.int .i64 0, .int .i64 (pickZ p ((t.size : Int) + 1))] 3) := ⟨_, rfl⟩
  rw [← hwo]
  have hcells : ∀ k : Nat, k < 2 → ∃ z : Int, 0 ≤ z ∧ z ≤ t.size ∧ wo.cell? ⟨w2.heap.size, k, none⟩ = some (.int .i64 z) := by
    intro k hk
    obtain rfl | rfl : k = 0 ∨ k = 1 := by omega
    · exact ⟨0, by omega, by omega, by rw [hwo]; simp⟩
    · exact ⟨_, pr.1, by omega, by rw [hwo]; simp⟩
  have bo : Below w.heap.size w wo := by rw [hwo]; exact bb2.alloc bb2.size _
  have hlt : w2.heap.size < wo.heap.size := by rw [hwo]; simp
  have HC := Lib.hid hcells
  clear hwo bb2 pr hcells
  go_loopw [38] (fun i wr => ∃ k : Nat, k ≤ 2 ∧ i = .int .i64 k ∧ Below wo.heap.size wo wr) (fun i _ => 2 - (intOf i).toNat)
  case atStart => exact ⟨0, by omega, rfl, Below.refl _ _⟩
  case round =>
    obtain ⟨k, hk, rfl, hb⟩ := hrel
    by_cases hk2 : k < 2
    · have hdk : decide ((k : Int) < 2) = true := by simp; omega
      obtain ⟨z, z1, z2, hz⟩ := HC.out k hk2
      have dz : wr.cell? ⟨w2.heap.size, k, none⟩ = some (.int .i64 z) := (hb.cell (p := ⟨w2.heap.size, k, none⟩) hlt).trans hz
      clear hz
      obtain ⟨n, x, e, hI⟩ : ∃ n x e, getInt t.data.toList z = (n, x, e) := ⟨_, _, _, rfl⟩
      have hlen : t.data.toList.length = t.size := by simp
      rcases getInt_cases _ _ _ _ _ hI z1 (by omega) with ⟨rfl, hn, x1, x2, htk⟩ | ⟨rfl, rfl, rfl⟩
      · have hcmp : ((t.extract z.toNat x.toNat).toList == putL n) = true := by
          rw [Lib.toList_data, Lib.extract_data, htk, beq_iff_eq]
        have x0 : 0 ≤ x := by omega
        have hd1 : decide (x < z) = false := by simp; omega
        have hd2 : decide ((t.size : Int) < x) = false := by simp; omega
        have HI := Lib.hid hI
        clear hI htk hlen
        go_wp2_with fail
        refine (int_any t z _ (by omega) (by omega) (by omega) _ _ _ HI.out).mono ?_
        rintro e w' ⟨rfl, rfl⟩
        go_wp2_with fail
        refine (putInt_ok n hn.1 hn.2 _).mono ?_
        rintro e w3 ⟨rfl, b3⟩
        go_wp2_with fail
        clear hcmp hd1 hd2 HI
        obtain ⟨v, y, f, hS⟩ : ∃ v y f, getStr t.data.toList z = (v, y, f) := ⟨_, _, _, rfl⟩
        have hlen : t.data.toList.length = t.size := by simp
        rcases getStr_cases _ _ _ _ _ hS z1 (by omega) with ⟨rfl, hv, y1, y2, htk⟩ | ⟨rfl, rfl, rfl⟩
        · have hcmp : ((t.extract z.toNat y.toNat).toList == putS v) = true := by
            rw [Lib.toList_data, Lib.extract_data, htk, beq_iff_eq]
          have y0 : 0 ≤ y := by omega
          have hd1 : decide (y < z) = false := by simp; omega
          have hd2 : decide ((t.size : Int) < y) = false := by simp; omega
          have HS := Lib.hid hS
          have lv : (⟨v.toArray⟩ : ByteArray).size ≤ 65536 := by rw [size_mk]; omega
          clear hS htk hlen
          refine (string_any t z _ (by omega) (by omega) (by omega) _ _ _ HS.out).mono ?_
          rintro e w' ⟨rfl, rfl⟩
          go_wp2_with fail
          refine (putString_ok _ _ lv).mono ?_
          rintro e w4 ⟨rfl, b4⟩
          rw [mk_toList]
          go_wp2_with fail
          exact ⟨⟨k + 1, by omega, by go_num, hb.trans ((b3.trans (b4.mono b3.size)).mono hb.size)⟩, by simp [intOf]; omega⟩
        · have HS := Lib.hid hS
          clear hS hlen
          refine (string_any t z _ (by omega) (by omega) (by omega) _ _ _ HS.out).mono ?_
          rintro e w' ⟨rfl, rfl⟩
          go_wp2_with fail
          refine (putString_ok _ _ (by decide)).mono ?_
          rintro e w4 ⟨rfl, b4⟩
          go_wp2_with fail
          exact ⟨⟨k + 1, by omega, by go_num, hb.trans ((b3.trans (b4.mono b3.size)).mono hb.size)⟩, by simp [intOf]; omega⟩
      · have HI := Lib.hid hI
        clear hI hlen
        go_wp2_with fail
        refine (int_any t z _ (by omega) (by omega) (by omega) _ _ _ HI.out).mono ?_
        rintro e w' ⟨rfl, rfl⟩
        go_wp2_with fail
        refine (putInt_ok 0 (by omega) (by omega) _).mono ?_
        rintro e w3 ⟨rfl, b3⟩
        go_wp2_with fail
        clear HI
        obtain ⟨v, y, f, hS⟩ : ∃ v y f, getStr t.data.toList z = (v, y, f) := ⟨_, _, _, rfl⟩
        have hlen : t.data.toList.length = t.size := by simp
        rcases getStr_cases _ _ _ _ _ hS z1 (by omega) with ⟨rfl, hv, y1, y2, htk⟩ | ⟨rfl, rfl, rfl⟩
        · have hcmp : ((t.extract z.toNat y.toNat).toList == putS v) = true := by
            rw [Lib.toList_data, Lib.extract_data, htk, beq_iff_eq]
          have y0 : 0 ≤ y := by omega
          have hd1 : decide (y < z) = false := by simp; omega
          have hd2 : decide ((t.size : Int) < y) = false := by simp; omega
          have HS := Lib.hid hS
          have lv : (⟨v.toArray⟩ : ByteArray).size ≤ 65536 := by rw [size_mk]; omega
          clear hS htk hlen
          refine (string_any t z _ (by omega) (by omega) (by omega) _ _ _ HS.out).mono ?_
          rintro e w' ⟨rfl, rfl⟩
          go_wp2_with fail
          refine (putString_ok _ _ lv).mono ?_
          rintro e w4 ⟨rfl, b4⟩
          rw [mk_toList]
          go_wp2_with fail
          exact ⟨⟨k + 1, by omega, by go_num, hb.trans ((b3.trans (b4.mono b3.size)).mono hb.size)⟩, by simp [intOf]; omega⟩
        · have HS := Lib.hid hS
          clear hS hlen
          refine (string_any t z _ (by omega) (by omega) (by omega) _ _ _ HS.out).mono ?_
          rintro e w' ⟨rfl, rfl⟩
          go_wp2_with fail
          refine (putString_ok _ _ (by decide)).mono ?_
          rintro e w4 ⟨rfl, b4⟩
          go_wp2_with fail
          exact ⟨⟨k + 1, by omega, by go_num, hb.trans ((b3.trans (b4.mono b3.size)).mono hb.size)⟩, by simp [intOf]; omega⟩
    · obtain rfl : k = 2 := by omega
      go_wp2_with fail
      go_ret
      exact ⟨rfl, bo.trans (hb.mono bo.size)⟩
end Go.Proofs.YtflnbhhgdlehbaaDoor
