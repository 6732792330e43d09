/- The digest of the words. -/
import Derived.Test.YtednkommpmdikaaDoorShaC
namespace Go.Proofs.YtednkommpmdikaaDoor
open Go Go.RowKit

/-- byte j of a word -/
def byteOf (x j : Nat) : UInt8 := UInt8.ofNat (x / 2 ^ (24 - 8 * j))

theorem be4L_get (x j : Nat) (hj : j < 4) : (be4L x)[j]? = some (byteOf x j) := by
  have h : j = 0 ∨ j = 1 ∨ j = 2 ∨ j = 3 := by omega
  rcases h with rfl | rfl | rfl | rfl <;> simp [be4L, byteOf]

theorem outL_len (v : V8) : (outL v).length = 32 := by rfl

theorem outL_get (v : V8) (i j x : Nat) (hx : v.toL[i]? = some x) (hj : j < 4) : (outL v)[4 * i + j]? = some (byteOf x j) := by
  have hi : i < 8 := (List.getElem?_eq_some_iff.1 hx).1
  rw [← be4L_get x j hj]
  have h : i = 0 ∨ i = 1 ∨ i = 2 ∨ i = 3 ∨ i = 4 ∨ i = 5 ∨ i = 6 ∨ i = 7 := by omega
  have h4 : j = 0 ∨ j = 1 ∨ j = 2 ∨ j = 3 := by omega
  rcases h with rfl | rfl | rfl | rfl | rfl | rfl | rfl | rfl <;> (simp [V8.toL] at hx; subst hx; rcases h4 with rfl | rfl | rfl | rfl <;> rfl)

theorem idx8 (l : List Nat) (hl : l.length = 8) (i x : Nat) (hi : l[i]? = some x) (w : World) : (Instr.index 66 (.agg (uv l).toArray) (.int .i64 (i : Int))).run Tryd.prog w = .ok (.int .u32 (x : Int)) w := by
  have hlt : i < 8 := by rw [← hl]; exact (List.getElem?_eq_some_iff.1 hi).1
  have hu : (uv l)[i]? = some (.int .u32 (x : Int)) := uv_get l i hi
  simp [Instr.index, run_underlying Tryd.underlying66, asIntOf, go_sem, hlt]
  rw [hu]
  rfl

set_option maxRecDepth 100000 in
set_option maxHeartbeats 4000000 in
theorem digest_ok (v : V8) (hv : V8Ok v) (w : World) :
    Calls Tryd.prog 49 #[.agg (uv v.toL).toArray] w fun e w' => e = .returned (.string ⟨(outL v).toArray⟩) ∧ Below w.heap.size w w' := by
  have q0 : BlkIs (w.alloc (.cells (uv v.toL).toArray 66)) w.heap.size 66 (uv v.toL) := BlkIs.new w _ _
  go_enter Tryd.func49, Tryd.ntmps49
  go_upto_region 2 with fail
  generalize hw2 : (World.alloc w _).alloc _ = W2
  have z2 : BlkIs W2 (w.heap.size + 1) 86 (bv ((outL v).take 0) ++ List.replicate (32 - 0) (.int .u8 0)) := by rw [← hw2]; exact alloc_new_at _ _ _ (by simp)
  have q2 : BlkIs W2 w.heap.size 66 (uv v.toL) := by rw [← hw2]; exact q0.alloc _
  have b2 : Below w.heap.size w W2 := by rw [← hw2]; exact ((Below.refl _ w).alloc (Nat.le_refl _) _).alloc (by simp) _
  clear hw2 q0
  go_wp2_with (first
    | (refine wpList_load_row rfl 66 (.tmp 1) rfl w.heap.size rfl 66 (uv v.toL).toArray (0, 0) _ q2 Tryd.underlying66 rfl (info8 rfl) ?_))
  clear q2
  go_loopw [8] (fun iv wr => ∃ i : Nat, i ≤ 8 ∧ iv = .int .i64 i ∧ BlkIs wr (w.heap.size + 1) 86 (bv ((outL v).take (4 * i)) ++ List.replicate (32 - 4 * i) (.int .u8 0)) ∧ Below w.heap.size w wr) (fun iv _ => 8 - (intOf iv).toNat)
  case atStart => exact ⟨0, by omega, rfl, z2, b2⟩
  case round =>
    clear z2 b2
    obtain ⟨i, hi, rfl, hz, hb⟩ := hrel
    by_cases hi8 : i < 8
    · obtain ⟨x, hx⟩ : ∃ x, v.toL[i]? = some x := ⟨_, List.getElem?_eq_getElem (show i < 8 from hi8)⟩
      have hidx := idx8 v.toL rfl i x hx
      have lx := hv x (List.mem_of_getElem? hx)
      have t0 : decide ((i : Int) < 8) = true := by simp; omega
      have HX := Lib.hid hx
      clear hx
      obtain ⟨wo, rfl⟩ : ∃ wo : World, wo = wr := ⟨_, rfl⟩
      have hz0 : BlkIs wo (w.heap.size + 1) 86 (bv ((outL v).take (4 * i + 0)) ++ List.replicate (32 - (4 * i + 0)) (.int .u8 0)) := hz
      go_wp2_with fail
      go_loopw [12] (fun jv wr => ∃ j : Nat, j ≤ 4 ∧ jv = .int .i64 j ∧ BlkIs wr (w.heap.size + 1) 86 (bv ((outL v).take (4 * i + j)) ++ List.replicate (32 - (4 * i + j)) (.int .u8 0)) ∧ Below w.heap.size w wr) (fun jv _ => 4 - (intOf jv).toNat)
      case atStart => exact ⟨0, by omega, rfl, hz0, hb⟩
      case round =>
        clear hz hz0 hb
        obtain ⟨j, hj, rfl, hz, hb⟩ := hrel
        by_cases hj4 : j < 4
        · have hg := outL_get v i j x HX.out hj4
          obtain ⟨K, hK⟩ : ∃ K, K = 4 * i + j := ⟨_, rfl⟩
          rw [← hK] at hg hz
          have hcell : wr.cell? ⟨w.heap.size + 1, K, none⟩ = some (.int .u8 0) := by
            rw [hz.cell]; exact fill_here (outL_len v) (by omega) _
          have hfr := hz.frozen K
          have hn := hz.set K (.int .u8 ((byteOf x j).toNat : Int))
          rw [fill_next (outL_len v) (by omega) hg] at hn
          have hbn := hb.setCell (p := ⟨w.heap.size + 1, K, none⟩) (by show w.heap.size ≤ w.heap.size + 1; omega) (.int .u8 ((byteOf x j).toNat : Int))
          have e0 : (4 : Int) * (i : Int) + (j : Int) = (K : Int) := by omega
          have n0 : (0 : Int) ≤ (K : Int) := by omega
          have n1 : (K : Int) < 32 := by omega
          have t1 : decide ((j : Int) < 4) = true := by simp; omega
          obtain ⟨S, hS⟩ : ∃ S : Nat, S = 24 - 8 * j := ⟨_, rfl⟩
          have e8 : (24 : Int) - 8 * (j : Int) = (S : Int) := by omega
          have nS : (0 : Int) ≤ (S : Int) := by omega
          have nS2 : (S : Int) < 32 := by omega
          have hby : (x : Int) / 2 ^ S % 256 = ((byteOf x j).toNat : Int) := by
            unfold byteOf
            rw [← hS, UInt8.toNat_ofNat']
            rw [Int.natCast_emod, Int.natCast_ediv, Int.natCast_pow]
            rfl
          have HN := Lib.hid hn
          have HK := Lib.hid hK
          clear hn hg hK hz hS
          go_wp2_with fail
          exact ⟨⟨j + 1, by omega, by go_num, (by have hk := HK.out; rw [show 4 * i + (j + 1) = K + 1 by omega]; exact HN.out), hbn⟩, by simp [intOf]; omega⟩
        · have hj' : j = 4 := by omega
          have t1 : decide ((j : Int) < 4) = false := by simp; omega
          have hz2 : BlkIs wr (w.heap.size + 1) 86 (bv ((outL v).take (4 * (i + 1))) ++ List.replicate (32 - 4 * (i + 1)) (.int .u8 0)) := by
            have h := hz
            rw [hj'] at h
            exact h
          clear hj' hz
          go_wp2_with fail
          exact ⟨⟨i + 1, by omega, by go_num, hz2, hb⟩, by simp [intOf]; omega⟩
    · have hi' : i = 8 := by omega
      have t0 : decide ((i : Int) < 8) = false := by simp; omega
      have hz2 : BlkIs wr (w.heap.size + 1) 86 (bv (outL v) ++ []) := by
        have h := hz
        rw [hi'] at h
        exact h
      have hcv : Sem.run Tryd.prog (convert 45 9 (.slice (some ⟨w.heap.size + 1, 0, none⟩) 32 32)) wr = .ok (.string ⟨(outL v).toArray⟩) wr :=
        run_convert_blk (P := Tryd.prog) (cap := 32) 45 9 5 Tryd.underlying45 Tryd.underlying5 Tryd.underlying9 hz2
      clear hi' hz hz2
      go_wp2_with fail
      go_ret
      exact ⟨rfl, hb⟩
end Go.Proofs.YtednkommpmdikaaDoor
