/- The walk of SessionRoundTrip. -/
import Derived.Test.YtejehdmllicfcaaDoorSesD
import Derived.Test.YtejehdmllicfcaaDoorSesQ
import Derived.Test.YtejehdmllicfcaaDoorFlp
import Derived.RegionTactic
import Derived.ChangeAlike
import Derived.BigRegion
import Derived.Test.YtejehdmllicfcaaDoorDbg
import Derived.Outline
namespace Go.Proofs.YtejehdmllicfcaaDoor
open Go Go.RowKit

set_option maxRecDepth 100000 in
set_option maxHeartbeats 4000000 in
theorem round_any (n : Int) (s : ByteArray) (bit : Int) (w : World) (hT : TabOk w) (i1 : -9223372036854775808 ≤ n) (i2 : n ≤ 9223372036854775807) (j1 : -9223372036854775808 ≤ bit) (j2 : bit ≤ 9223372036854775807) :
    Calls Tryd.prog 9 #[.int .i64 n, .string s, .int .i64 bit] w fun e w' => e = .returned (.bool true) ∧ Below w.heap.size w w' := by
  have HT := Lib.hid hT
  clear hT
  obtain ⟨m, em, m1, m2, -⟩ := cut_min s 40 (by omega)
  go_enter Tryd.func9, Tryd.ntmps9
  go_wp2_with fail
  refine (sane_any _ HT.out).mono ?_
  rintro e w1 ⟨rfl, b1⟩
  go_wp2_with fail
  refine (newS _).mono ?_
  rintro e w2 ⟨rfl, hw⟩
  obtain ⟨g, hg⟩ : ∃ g, g = w1.heap.size := ⟨_, rfl⟩
  have s2 : SesIs w2 g 0 := by rw [hw, hg]; exact BlkIs.new _ _ _
  have b2 : Below w.heap.size w w2 := by rw [hw]; exact Below.next b1 ((Below.refl _ w1).alloc (Nat.le_refl _) _)
  have gg : w.heap.size ≤ g := by rw [hg]; exact b1.size
  rw [← hg]
  clear hw hg b1
  have hr := pickZ_range n 10001 (by omega)
  obtain ⟨T, hT⟩ : ∃ T, T = s.extract 0 m := ⟨_, rfl⟩
  have sT : T.size ≤ 40 := by rw [hT, size_cut _ _ m1]; omega
  go_wp2_with fail
  rw [← hT]
  clear hT em m1 m2
  refine (pick_any n 10001 _ i1 i2 (by omega) (by omega)).mono ?_
  rintro e w' ⟨rfl, rfl⟩
  generalize pickZ n 10001 = q at *
  go_wp2_with fail
  refine (wrote_ok _ g 0 q s2).mono ?_
  rintro e w3 ⟨rfl, s3, hu⟩
  have b3 := Below.upd b2 hu gg
  have ht : TokS (wroteS 0 q) := wroteS_tok (by unfold TokS; omega)
  generalize wroteS 0 q = t at *
  clear hu b2 s2
  go_wp2_with fail
  refine (encode_ok _ g t s3 ht (HT.out.later b3)).mono ?_
  rintro e w4 ⟨rfl, k4⟩
  have b4 := Below.next b3 k4
  have s4 := s3.later k4
  clear k4 s3 b3
  have hl := encS_len t
  have hp : (encS t).length ≠ 0 := by
    have := List.length_pos_iff.2 (putL_pos t)
    rw [encS, List.length_append]; omega
  have hE := decS_encS ht
  have hF : ∀ k c v, (encS t)[k / 8]? = some c → v.toNat = c.toNat ^^^ 2 ^ (k % 8) → (decS ((encS t).set (k / 8) v)).2 ≠ 0 := flip_bad ht
  obtain ⟨E, he⟩ : ∃ E, E = encS t := ⟨_, rfl⟩
  rw [← he] at hl hE hp hF
  rw [← he]
  have HE := Lib.hid hE
  have HF := Lib.hid hF
  clear he hE hF
  have HP := Lib.hid hp
  clear hp
  obtain ⟨few, hfew⟩ : ∃ few : ByteArray, few = ⟨E.toArray⟩ := ⟨_, rfl⟩
  have fe : few.data.toList = E := by rw [hfew, mk_toList]
  have sf : few.size = E.length := by rw [hfew, size_mk]
  rw [← hfew]
  have sf1 : 0 < few.size := by have := HP.out; omega
  have sf2 : few.size ≤ 18 := by omega
  have FE := Lib.hid fe
  have SF := Lib.hid sf
  clear fe sf hfew
  have hcv := fun W => run_bytes_of_string (P := Tryd.prog) W 9 65 5 few Tryd.underlying9 Tryd.underlying65 Tryd.underlying5
  go_wp2_with fail
  refine (decode_ok _ few (by omega) (HT.out.later b4)).mono ?_
  rintro e w5 ⟨⟨v, rfl, hv⟩, k5⟩
  rw [FE.out] at hv ⊢
  unfold DecIs at hv
  rw [HE.out] at hv ⊢
  rcases hv with ⟨_, h, rfl, hh, s5'⟩ | ⟨hv, _⟩
  rotate_left
  · exact absurd rfl hv
  have b5 := Below.next b4 k5
  have s5 := s4.later k5
  clear k5 s4 b4 HE
  have d1 : (t != t) = false := by simp
  have d2 : few.toList.isEmpty = false := by
    rw [Lib.toList_data, FE.out]
    have h := HP.out
    generalize E = E' at h
    cases E' with
    | nil => exact absurd rfl h
    | cons a l => rfl
  go_wp2_with fail
  refine (tokenS _ h t s5').mono ?_
  rintro e w' ⟨rfl, rfl⟩
  go_wp2_with fail
  refine (tokenS _ g t s5).mono ?_
  rintro e w' ⟨rfl, rfl⟩
  go_wp2_with fail
  refine (decode_ok _ T (by omega) (HT.out.later b5)).mono ?_
  rintro e w6 ⟨⟨v, rfl, hv⟩, k6⟩
  have b6 := Below.next b5 k6
  have s6 := s5.later k6
  obtain ⟨u, f, hD⟩ : ∃ u f, decS T.data.toList = (u, f) := ⟨_, _, rfl⟩
  unfold DecIs at hv
  rw [hD] at hv ⊢
  have HD := Lib.hid hD
  clear k6 s5 s5' b5 hD
  have hfin : ∃ r, (f = 0 ∧ v = .pointer (some ⟨r, 0, none⟩) ∧ w5.heap.size ≤ r ∧ SesIs w6 r u) ∨ (f ≠ 0 ∧ v = .pointer none) := by
    rcases hv with ⟨a, r, b, c, d⟩ | h
    · exact ⟨r, .inl ⟨a, b, c, d⟩⟩
    · exact ⟨0, .inr h⟩
  clear hv
  obtain ⟨r, hfin⟩ := hfin
  rcases hfin with ⟨rfl, rfl, hr6, s6'⟩ | ⟨hf, rfl⟩
  · obtain ⟨hu, hue⟩ := decS_ok HD.out
    go_wp2_with fail
    refine (encode_ok _ r u s6' hu (HT.out.later b6)).mono ?_
    rintro e w7 ⟨rfl, k7⟩
    rw [hue, mk_data]
    have b7 := Below.next b6 k7
    clear hue k7 hr6 s6' hu HD
    clear d2 b6
    go_wp2_with fail
    refine (pick_any _ _ _ j1 j2 (by omega) (by omega)).mono ?_
    rintro e w' ⟨rfl, rfl⟩
    have pr := pickZ_range bit (8 * (few.size : Int)) (by omega)
    obtain ⟨w2, hw2⟩ : ∃ w2, w2 = (w7.alloc (.cells (bytesRow few (grownCap w7 few.size 0 5)) 5 ((bytesRow few (grownCap w7 few.size 0 5)).size, (bytesRow few (grownCap w7 few.size 0 5)).size + 1))).drew := ⟨_, rfl⟩
    rw [← hw2]
    obtain ⟨cap, hcap⟩ : ∃ cap, cap = grownCap w7 few.size 0 5 := ⟨_, rfl⟩
    rw [← hcap] at hw2 ⊢
    obtain ⟨more, hmore⟩ : ∃ more, more = List.replicate (cap - few.size) (Value.int .u8 0) := ⟨_, rfl⟩
    obtain ⟨N, hN⟩ : ∃ N, N = (bytesRow few cap).size := ⟨_, rfl⟩
    have hblk : BlkF w2 w7.heap.size 5 (bv E ++ more) (N, N + 1) := by
      rw [hw2, hmore, ← FE.out, ← bytesRow_eq, hN]
      exact World.alloc_heap_new w7 _
    have hNlen : few.size ≤ N := by
      rw [hN, ← Array.length_toList, bytesRow_eq, List.length_append, bv_length]
      have : few.data.toList.length = few.size := by simp
      omega
    have b2 : Below w.heap.size w w2 := by rw [hw2]; exact (b7.alloc b7.size _).drew
    have hg : w.heap.size ≤ w7.heap.size := b7.size
    obtain ⟨F, hF⟩ : ∃ F : Nat, pickZ bit (8 * (few.size : Int)) = (F : Int) := ⟨(pickZ bit (8 * (few.size : Int))).toNat, by omega⟩
    rw [hF] at pr ⊢
    have hFlt : F < 8 * few.size := by omega
    clear hw2 hcap hmore hN b7 hF pr hcv
    generalize w7.heap.size = B at *
    obtain ⟨K, hK⟩ : ∃ K : Nat, K = F / 8 := ⟨_, rfl⟩
    obtain ⟨J, hJ⟩ : ∃ J : Nat, J = F % 8 := ⟨_, rfl⟩
    have eK : (F : Int) / 8 = (K : Int) := by omega
    have eJ : (F : Int) % 8 = (J : Int) := by omega
    have hKf : K < few.size := by omega
    have hJ8 : J < 8 := by omega
    have hKl : K < E.length := by have := SF.out; omega
    obtain ⟨c, hc⟩ : ∃ c : UInt8, E[K]? = some c := ⟨E[K], List.getElem?_eq_getElem hKl⟩
    have hcell : w2.cell? ⟨B, K, none⟩ = some (.int .u8 (c.toNat : Int)) := by
      rw [hblk.cell, List.getElem?_append_left (by simpa using hKl)]
      simp [bv, hc]
    have hfr : w2.frozen? ⟨B, K, none⟩ = false := hblk.frozen K (by show K < N; omega)
    have hbad : (decS (E.set K (UInt8.ofNat (c.toNat ^^^ 2 ^ J)))).2 ≠ 0 := by
      have := HF.out F c (UInt8.ofNat (c.toNat ^^^ 2 ^ J)) (by rw [← hK]; exact hc) (by rw [← hJ]; exact xor_bit_nat c J hJ8)
      rwa [← hK] at this
    obtain ⟨v, hv⟩ : ∃ v : UInt8, v = UInt8.ofNat (c.toNat ^^^ 2 ^ J) := ⟨_, rfl⟩
    rw [← hv] at hbad
    have hx : bits BinOp.xor IntKind.u8 (c.toNat : Int) ((2 : Int) ^ J % 256) = (v.toNat : Int) := by rw [hv]; exact xor_bit c J hJ8
    have hn := (hblk.set K (.int .u8 (v.toNat : Int))).drew
    rw [bv_set _ _ _ hKl] at hn
    have hbn : Below w.heap.size w (w2.setCell ⟨B, K, none⟩ (.int .u8 (v.toNat : Int))).drew := (b2.setCell (p := ⟨B, K, none⟩) hg _).drew
    have HB := Lib.hid hbad
    clear hK hJ hc hv hbad hblk b2 HF
    go_wp2_with fail
    go_region
    generalize (w2.setCell ⟨B, K, none⟩ (.int .u8 (v.toNat : Int))).drew = w8 at *
    clear hcell hfr hx eK eJ
    have hl8 : (E.set K v).length = few.size := by rw [List.length_set]; exact SF.out.symm
    have hcv : Sem.run Tryd.prog (convert 65 9 (.slice (some ⟨B, 0, none⟩) few.size cap)) w8 = .ok (.string ⟨(E.set K v).toArray⟩) w8 := by
      have := run_convert_blkF (P := Tryd.prog) (cap := cap) 65 9 5 Tryd.underlying65 Tryd.underlying5 Tryd.underlying9 hn
      rwa [hl8] at this
    generalize E.set K v = E2 at *
    have HL8 := Lib.hid hl8
    clear hl8 hn
    go_wp2_with fail
    refine (decode_ok _ _ (by rw [size_mk]; have := HL8.out; omega) (HT.out.later hbn)).mono ?_
    rintro e w9 ⟨⟨v9, rfl, hv⟩, k9⟩
    rw [mk_toList] at hv ⊢
    have b9 := Below.next hbn k9
    unfold DecIs at hv
    rcases hv with ⟨hv, _⟩ | ⟨_, rfl⟩
    · exact absurd hv HB.out
    have g1 : ((decS E2).2 != 0) = true := by simpa using HB.out
    clear hcv k9
    generalize (decS E2).2 = f9 at *
    go_wp2_with fail
    go_ret
    exact ⟨rfl, b9⟩
  · have f1 : (f == 0) = false := by simpa using hf
    have f2 : (f != 0) = true := by simpa using hf
    have b7 := b6
    obtain ⟨w7, rfl⟩ : ∃ w7, w7 = w6 := ⟨_, rfl⟩
    clear HD hf
    clear d2 b6
    go_wp2_with fail
    refine (pick_any _ _ _ j1 j2 (by omega) (by omega)).mono ?_
    rintro e w' ⟨rfl, rfl⟩
    have pr := pickZ_range bit (8 * (few.size : Int)) (by omega)
    obtain ⟨w2, hw2⟩ : ∃ w2, w2 = (w7.alloc (.cells (bytesRow few (grownCap w7 few.size 0 5)) 5 ((bytesRow few (grownCap w7 few.size 0 5)).size, (bytesRow few (grownCap w7 few.size 0 5)).size + 1))).drew := ⟨_, rfl⟩
    rw [← hw2]
    obtain ⟨cap, hcap⟩ : ∃ cap, cap = grownCap w7 few.size 0 5 := ⟨_, rfl⟩
    rw [← hcap] at hw2 ⊢
    obtain ⟨more, hmore⟩ : ∃ more, more = List.replicate (cap - few.size) (Value.int .u8 0) := ⟨_, rfl⟩
    obtain ⟨N, hN⟩ : ∃ N, N = (bytesRow few cap).size := ⟨_, rfl⟩
    have hblk : BlkF w2 w7.heap.size 5 (bv E ++ more) (N, N + 1) := by
      rw [hw2, hmore, ← FE.out, ← bytesRow_eq, hN]
      exact World.alloc_heap_new w7 _
    have hNlen : few.size ≤ N := by
      rw [hN, ← Array.length_toList, bytesRow_eq, List.length_append, bv_length]
      have : few.data.toList.length = few.size := by simp
      omega
    have b2 : Below w.heap.size w w2 := by rw [hw2]; exact (b7.alloc b7.size _).drew
    have hg : w.heap.size ≤ w7.heap.size := b7.size
    obtain ⟨F, hF⟩ : ∃ F : Nat, pickZ bit (8 * (few.size : Int)) = (F : Int) := ⟨(pickZ bit (8 * (few.size : Int))).toNat, by omega⟩
    rw [hF] at pr ⊢
    have hFlt : F < 8 * few.size := by omega
    clear hw2 hcap hmore hN b7 hF pr hcv
    generalize w7.heap.size = B at *
    obtain ⟨K, hK⟩ : ∃ K : Nat, K = F / 8 := ⟨_, rfl⟩
    obtain ⟨J, hJ⟩ : ∃ J : Nat, J = F % 8 := ⟨_, rfl⟩
    have eK : (F : Int) / 8 = (K : Int) := by omega
    have eJ : (F : Int) % 8 = (J : Int) := by omega
    have hKf : K < few.size := by omega
    have hJ8 : J < 8 := by omega
    have hKl : K < E.length := by have := SF.out; omega
    obtain ⟨c, hc⟩ : ∃ c : UInt8, E[K]? = some c := ⟨E[K], List.getElem?_eq_getElem hKl⟩
    have hcell : w2.cell? ⟨B, K, none⟩ = some (.int .u8 (c.toNat : Int)) := by
      rw [hblk.cell, List.getElem?_append_left (by simpa using hKl)]
      simp [bv, hc]
    have hfr : w2.frozen? ⟨B, K, none⟩ = false := hblk.frozen K (by show K < N; omega)
    have hbad : (decS (E.set K (UInt8.ofNat (c.toNat ^^^ 2 ^ J)))).2 ≠ 0 := by
      have := HF.out F c (UInt8.ofNat (c.toNat ^^^ 2 ^ J)) (by rw [← hK]; exact hc) (by rw [← hJ]; exact xor_bit_nat c J hJ8)
      rwa [← hK] at this
    obtain ⟨v, hv⟩ : ∃ v : UInt8, v = UInt8.ofNat (c.toNat ^^^ 2 ^ J) := ⟨_, rfl⟩
    rw [← hv] at hbad
    have hx : bits BinOp.xor IntKind.u8 (c.toNat : Int) ((2 : Int) ^ J % 256) = (v.toNat : Int) := by rw [hv]; exact xor_bit c J hJ8
    have hn := (hblk.set K (.int .u8 (v.toNat : Int))).drew
    rw [bv_set _ _ _ hKl] at hn
    have hbn : Below w.heap.size w (w2.setCell ⟨B, K, none⟩ (.int .u8 (v.toNat : Int))).drew := (b2.setCell (p := ⟨B, K, none⟩) hg _).drew
    have HB := Lib.hid hbad
    clear hK hJ hc hv hbad hblk b2 HF
    go_wp2_with fail
    go_region
    generalize (w2.setCell ⟨B, K, none⟩ (.int .u8 (v.toNat : Int))).drew = w8 at *
    clear hcell hfr hx eK eJ
    have hl8 : (E.set K v).length = few.size := by rw [List.length_set]; exact SF.out.symm
    have hcv : Sem.run Tryd.prog (convert 65 9 (.slice (some ⟨B, 0, none⟩) few.size cap)) w8 = .ok (.string ⟨(E.set K v).toArray⟩) w8 := by
      have := run_convert_blkF (P := Tryd.prog) (cap := cap) 65 9 5 Tryd.underlying65 Tryd.underlying5 Tryd.underlying9 hn
      rwa [hl8] at this
    generalize E.set K v = E2 at *
    have HL8 := Lib.hid hl8
    clear hl8 hn
    go_wp2_with fail
    refine (decode_ok _ _ (by rw [size_mk]; have := HL8.out; omega) (HT.out.later hbn)).mono ?_
    rintro e w9 ⟨⟨v9, rfl, hv⟩, k9⟩
    rw [mk_toList] at hv ⊢
    have b9 := Below.next hbn k9
    unfold DecIs at hv
    rcases hv with ⟨hv, _⟩ | ⟨_, rfl⟩
    · exact absurd hv HB.out
    have g1 : ((decS E2).2 != 0) = true := by simpa using HB.out
    clear hcv k9
    generalize (decS E2).2 = f9 at *
    go_wp2_with fail
    go_ret
    exact ⟨rfl, b9⟩
end Go.Proofs.YtejehdmllicfcaaDoor
