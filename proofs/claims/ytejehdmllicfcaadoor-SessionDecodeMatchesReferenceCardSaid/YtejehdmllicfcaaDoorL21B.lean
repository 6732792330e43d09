/- The walk of SessionDecodeMatchesReference. -/
import Derived.Test.YtejehdmllicfcaaDoorSesQ
import Derived.Test.YtejehdmllicfcaaDoorRefS
import Derived.RegionTactic
import Derived.ChangeAlike
import Derived.BigRegion
namespace Go.Proofs.YtejehdmllicfcaaDoor
open Go Go.RowKit

theorem putA_len (n : Int) : (putA n).length ≤ 9 := by
  unfold putA; split
  · simp
  · exact putL_len n

set_option maxRecDepth 100000 in
set_option maxHeartbeats 4000000 in
theorem dmatch_any (s : ByteArray) (n : Int) (w : World) (hT : TabOk w) :
    Calls Tryd.prog 4 #[.string s, .int .i64 n] w fun e w' => e = .returned (.bool true) ∧ Below w.heap.size w w' := by
  have HT := Lib.hid hT
  clear hT
  obtain ⟨m, em, m1, m2, -⟩ := cut_min s 40 (by omega)
  obtain ⟨m', em', m1', m2', -⟩ := cut_min s 1 (by omega)
  go_enter Tryd.func4, Tryd.ntmps4
  go_wp2_with fail
  refine (sane_any _ HT.out).mono ?_
  rintro e w1 ⟨rfl, b1⟩
  go_wp2_with fail
  refine (putInt_all n _).mono ?_
  rintro e w2 ⟨rfl, k2⟩
  have b2 := Below.next b1 k2
  obtain ⟨a, ha⟩ : ∃ a : ByteArray, a = ⟨(putA n).toArray⟩ := ⟨_, rfl⟩
  have sa : a.size ≤ 9 := by rw [ha, size_mk]; exact putA_len n
  rw [← ha]
  generalize putE n = en
  clear ha b1 k2
  go_wp2_with fail
  refine (sum_any a _ (by omega) (HT.out.later b2)).mono ?_
  rintro e w' ⟨rfl, rfl⟩
  have ls := sumL_lt a.data.toList
  generalize sumL a.data.toList = S at *
  go_wp2_with fail
  refine (putInt_ok S (by omega) (by omega) _).mono ?_
  rintro e w3 ⟨rfl, k3⟩
  have b3 := Below.next b2 k3
  obtain ⟨b, hb⟩ : ∃ b : ByteArray, b = ⟨(putL S).toArray⟩ := ⟨_, rfl⟩
  have sb : b.size ≤ 9 := by rw [hb, size_mk]; exact putL_len _
  rw [← hb]
  clear hb b2 k3
  go_wp2_with fail
  go_region
  obtain ⟨w4, hw4⟩ : ∃ w4, w4 = (w3.alloc (.cells #[.string (s.extract 0 m), .string (a ++ b), .string (a ++ b ++ s.extract 0 m')] 9)).drew := ⟨_, rfl⟩
  have hq : BlkIs w4 w3.heap.size 9 ([s.extract 0 m, a ++ b, a ++ b ++ s.extract 0 m'].map Value.string) := by rw [hw4]; exact (BlkIs.new w3 _ _).drew
  have b4 : Below w.heap.size w w4 := by rw [hw4]; exact (b3.alloc b3.size _).drew
  rw [← hw4]
  have hsz : ∀ T ∈ [s.extract 0 m, a ++ b, a ++ b ++ s.extract 0 m'], T.size ≤ 140737488355328 := by
    intro T hT
    have e1 := size_cut s m m1
    have e2 := size_cut s m' m1'
    simp only [List.mem_cons, List.not_mem_nil, or_false] at hT
    rcases hT with rfl | rfl | rfl
    · omega
    · rw [ByteArray.size_append]; omega
    · rw [ByteArray.size_append, ByteArray.size_append]; omega
  have hl3 : [s.extract 0 m, a ++ b, a ++ b ++ s.extract 0 m'].length = 3 := rfl
  generalize [s.extract 0 m, a ++ b, a ++ b ++ s.extract 0 m'] = Ts at *
  generalize w3.heap.size = q at *
  have HSZ := Lib.hid hsz
  have HL := Lib.hid hl3
  clear hw4 hsz hl3 b3 em em' m1 m2 m1' m2' sa sb ls
  go_wp2_with fail
  go_loopw [47] (fun iv wr => ∃ k : Nat, k ≤ 3 ∧ iv = .int .i64 k ∧ BlkIs wr q 9 (Ts.map Value.string) ∧ Below w.heap.size w wr) (fun iv _ => 3 - (intOf iv).toNat)
  case atStart => exact ⟨0, by omega, rfl, hq, b4⟩
  case round =>
    clear hq b4
    obtain ⟨k, hk, rfl, hq, hb⟩ := hrel
    by_cases hk3 : k < 3
    · obtain ⟨T, hT⟩ : ∃ T, Ts[k]? = some T := ⟨_, List.getElem?_eq_getElem (by have := HL.out; omega)⟩
      have hcell : wr.cell? ⟨q, k, none⟩ = some (.string T) := by
        rw [hq.cell, List.getElem?_map, hT]; rfl
      have sT := HSZ.out T (List.mem_of_getElem? hT)
      have hd : decide ((k : Int) < 3) = true := by simp; omega
      have n1 : (0 : Int) ≤ (k : Int) := by omega
      have n2 : (k : Int) < 3 := by omega
      clear hT
      obtain ⟨u, f, hD⟩ : ∃ u f, decS T.data.toList = (u, f) := ⟨_, _, rfl⟩
      have HD := Lib.hid hD
      clear hD
      go_wp2_with fail
      refine (decode_ok _ T sT (HT.out.later hb)).mono ?_
      rintro e w5 ⟨⟨v, rfl, hv⟩, k5⟩
      unfold DecIs at hv
      rw [HD.out] at hv ⊢
      have hq5 := hq.later k5
      have b5 := Below.next hb k5
      clear hq hb k5 hcell
      go_wp2_with fail
      refine (rDecode_ok _ T sT).mono ?_
      rintro e w6 ⟨⟨v', rfl, hv'⟩, k6⟩
      unfold RDecIs at hv'
      rw [HD.out] at hv' ⊢
      have hq6 := hq5.later k6
      have b6 := Below.next b5 k6
      clear hq5 b5
      have hfin : ∃ r r', (f = 0 ∧ v = .pointer (some ⟨r, 0, none⟩) ∧ v' = .pointer (some ⟨r', 0, none⟩) ∧ SesIs w6 r u ∧ RefIs w6 r' u) ∨ (f ≠ 0 ∧ v = .pointer none ∧ v' = .pointer none) := by
        rcases hv with ⟨h1, r, h2, h3, h4⟩ | ⟨h1, h2⟩
        · rcases hv' with ⟨_, r', h6, h7, h8⟩ | ⟨h6, _⟩
          · exact ⟨r, r', .inl ⟨h1, h2, h6, h4.later k6, h8⟩⟩
          · exact absurd h1 h6
        · rcases hv' with ⟨h6, _⟩ | ⟨_, h6⟩
          · exact absurd h6 h1
          · exact ⟨0, 0, .inr ⟨h1, h2, h6⟩⟩
      clear hv hv' k6 HD
      obtain ⟨r, r', hfin⟩ := hfin
      have hff : (f != f) = false := by simp
      have huu : (u != u) = false := by simp
      rcases hfin with ⟨rfl, rfl, rfl, s6, r6⟩ | ⟨hf, rfl, rfl⟩
      · have hc := r6.cell
        go_wp2_with fail
        go_quiet ((go_at_call 19; exact quiet_left (tokenS _ r u (BlkIs.drewN s6 _))))
        go_wp2_with fail
        go_roundw
        case rel => exact ⟨k + 1, by omega, by go_num, hq6.drewN _, below_drewN' b6 _⟩
        case measure => simp [intOf]; omega
      · go_wp2_with fail
        go_quiet (fail)
        go_wp2_with fail
        go_roundw
        case rel => exact ⟨k + 1, by omega, by go_num, hq6.drewN _, below_drewN' b6 _⟩
        case measure => simp [intOf]; omega
    · obtain rfl : k = 3 := by omega
      go_wp2_with fail
      go_ret
      exact ⟨rfl, hb⟩
end Go.Proofs.YtejehdmllicfcaaDoor
