/- The words of a block. -/
import Derived.Test.YtgbemgndbemllaaGreatDoorQShaA
import Derived.RegionTactic
import Derived.ChangeAlike
import Derived.BigRegion
import Derived.Deep.QuietTactic
import Derived.BigQuiet
import Derived.Deep.RegionWith
import Derived.Deep.RegionHeld3
import Derived.Sort.AtCall
import Derived.Laws.Rows
import Derived.Laws.CopyRow
import Derived.Laws.CopyOwn
namespace Go.Proofs.YtgbemgndbemllaaGreatDoor
open Go Go.RowKit

def uv (l : List Nat) : List Value := l.map fun x : Nat => Value.int .u32 (x : Int)

theorem uv_set (l : List Nat) (i x : Nat) : (uv l).set i (.int .u32 (x : Int)) = uv (l.set i x) := by simp [uv, List.map_set]
theorem uv_get (l : List Nat) (i : Nat) {x : Nat} (h : l[i]? = some x) : (uv l)[i]? = some (.int .u32 (x : Int)) := by simp [uv, h]

theorem fillN (l : List Nat) (i n : Nat) {x : Nat} (hl : l.length = i) (hi : i < n) : (l ++ List.replicate (n - i) 0).set i x = (l ++ [x]) ++ List.replicate (n - (i + 1)) 0 := by
  rw [List.set_append_right _ _ (by omega), hl, Nat.sub_self, show n - i = (n - (i + 1)) + 1 by omega, List.replicate_succ, List.set_cons_zero]
  simp

theorem nat_shift_or (a b k m : Nat) (hm : m = 2 ^ k) (hb : b < m) : a * m ||| b = a * m + b := by
  subst hm
  rw [Nat.mul_comm, Nat.two_pow_add_eq_or_of_lt hb]

theorem pow24 : (16777216 : Nat) = 2 ^ 24 := by decide +kernel
theorem pow16 : (65536 : Nat) = 2 ^ 16 := by decide +kernel

theorem be4_or (a b c d : Nat) (ha : a < 256) (hb : b < 256) (hc : c < 256) (hd : d < 256) :
    bits BinOp.or IntKind.u32 (bits BinOp.or IntKind.u32 (bits BinOp.or IntKind.u32 ((a : Int) % 4294967296 * 16777216 % 4294967296) ((b : Int) % 4294967296 * 65536 % 4294967296)) ((c : Int) % 4294967296 * 256 % 4294967296)) ((d : Int) % 4294967296)
      = ((a * 16777216 + b * 65536 + c * 256 + d : Nat) : Int) := by
  have e1 : (a : Int) % 4294967296 * 16777216 % 4294967296 = ((a * 16777216 : Nat) : Int) := by omega
  have e2 : (b : Int) % 4294967296 * 65536 % 4294967296 = ((b * 65536 : Nat) : Int) := by omega
  have e3 : (c : Int) % 4294967296 * 256 % 4294967296 = ((c * 256 : Nat) : Int) := by omega
  have e4 : (d : Int) % 4294967296 = ((d : Nat) : Int) := by omega
  rw [e1, e2, e3, e4, u32_or_nat _ _ (by omega) (by omega)]
  have f1 : a * 16777216 ||| b * 65536 = (a * 256 + b) * 65536 := by
    rw [nat_shift_or a (b * 65536) 24 16777216 pow24 (by omega)]; omega
  rw [f1, u32_or_nat _ _ (by omega) (by omega)]
  have f2 : (a * 256 + b) * 65536 ||| c * 256 = ((a * 256 + b) * 256 + c) * 256 := by
    have e : ((a * 256 + b) * 65536 ||| c * 256) = (a * 256 + b) * 65536 + c * 256 := nat_shift_or (a * 256 + b) (c * 256) 16 65536 pow16 (by omega)
    rw [e]; omega
  rw [f2, u32_or_nat _ _ (by omega) (by omega)]
  have f3 := nat_shift_or ((a * 256 + b) * 256 + c) d 8 256 (by decide) hd
  rw [f3]
  omega

theorem words16_len (blk : List UInt8) : (words16 blk).length = 16 := by simp [words16]
theorem words16_get (blk : List UInt8) {i : Nat} (hi : i < 16) : (words16 blk)[i]? = some (be4 blk i) := by
  simp [words16, hi]

theorem sched_val (xa xb xc xd : Nat) (hb : xb < 4294967296) (hd : xd < 4294967296) :
    IntKind.u32.wrap (IntKind.u32.wrap (IntKind.u32.wrap ((xa : Int) + bits BinOp.xor IntKind.u32 ((rotN xb 7 ^^^ rotN xb 18 : Nat) : Int) ((xb : Int) / 8)) + (xc : Int)) + bits BinOp.xor IntKind.u32 ((rotN xd 17 ^^^ rotN xd 19 : Nat) : Int) ((xd : Int) / 1024))
      = (((xa + s0N xb + xc + s1N xd) % 4294967296 : Nat) : Int) := by
  have e1 : (xb : Int) / 8 = ((xb / 2 ^ 3 : Nat) : Int) := by omega
  have e2 : (xd : Int) / 1024 = ((xd / 2 ^ 10 : Nat) : Int) := by omega
  rw [e1, e2, u32_xor_nat _ _ (xor32_lt (rotN_lt _ _ hb) (rotN_lt _ _ hb)) (by omega), u32_xor_nat _ _ (xor32_lt (rotN_lt _ _ hd) (rotN_lt _ _ hd)) (by omega)]
  show IntKind.u32.wrap (IntKind.u32.wrap (IntKind.u32.wrap ((xa : Int) + ((s0N xb : Nat) : Int)) + (xc : Int)) + ((s1N xd : Nat) : Int)) = _
  rw [IntKind.wrap_u32', IntKind.wrap_u32', IntKind.wrap_u32']
  omega

theorem schedN_snoc : ∀ (n : Nat) (l : List Nat), schedN (n + 1) l = schedN n l ++ [nextW (schedN n l)]
  | 0, _ => rfl
  | n + 1, l => schedN_snoc n (l ++ [nextW l])
theorem schedN_len : ∀ (n : Nat) (l : List Nat), (schedN n l).length = l.length + n
  | 0, _ => rfl
  | n + 1, l => by
    show (schedN n (l ++ [nextW l])).length = _
    rw [schedN_len n]; simp; omega
theorem schedN_lt : ∀ (n : Nat) (l : List Nat), (∀ x ∈ l, x < 4294967296) → ∀ x ∈ schedN n l, x < 4294967296
  | 0, _, h => h
  | n + 1, l, h => schedN_lt n (l ++ [nextW l]) fun x hx => by
    rw [List.mem_append, List.mem_singleton] at hx
    rcases hx with hx | rfl
    · exact h x hx
    · exact Nat.mod_lt _ (by omega)
theorem be4_lt (l : List UInt8) (i : Nat) : be4 l i < 4294967296 := by
  unfold be4 byteN
  have h1 := UInt8.toNat_lt (l.getD (4 * i) 0)
  have h2 := UInt8.toNat_lt (l.getD (4 * i + 1) 0)
  have h3 := UInt8.toNat_lt (l.getD (4 * i + 2) 0)
  have h4 := UInt8.toNat_lt (l.getD (4 * i + 3) 0)
  omega
theorem words16_lt (blk : List UInt8) : ∀ x ∈ words16 blk, x < 4294967296 := by
  intro x hx
  unfold words16 at hx
  rw [List.mem_map] at hx
  obtain ⟨i, _, rfl⟩ := hx
  exact be4_lt blk i
/-- the words after i of them are there -/
def swN (blk : List UInt8) (i : Nat) : List Nat := schedN (i - 16) (words16 blk)
theorem swN_len (blk : List UInt8) {i : Nat} (h : 16 ≤ i) : (swN blk i).length = i := by
  unfold swN; rw [schedN_len, words16_len]; omega
theorem swN_succ (blk : List UInt8) {i : Nat} (h : 16 ≤ i) : swN blk (i + 1) = swN blk i ++ [nextW (swN blk i)] := by
  unfold swN; rw [show i + 1 - 16 = (i - 16) + 1 by omega, schedN_snoc]
theorem swN_lt (blk : List UInt8) (i : Nat) : ∀ x ∈ swN blk i, x < 4294967296 := schedN_lt _ _ (words16_lt blk)
theorem nextW_eq (l : List Nat) (i a b c d : Nat) (hl : l.length = i) (ha : l[i - 16]? = some a) (hb : l[i - 15]? = some b) (hc : l[i - 7]? = some c) (hd : l[i - 2]? = some d) : nextW l = (a + s0N b + c + s1N d) % 4294967296 := by
  unfold nextW
  rw [hl, List.getD_eq_getElem?_getD, List.getD_eq_getElem?_getD, List.getD_eq_getElem?_getD, List.getD_eq_getElem?_getD, ha, hb, hc, hd]
  rfl

theorem Tryz.infoW64 : (Tryz.prog.info? 189).map (·.size) = some 64 := by kernel_rfl

set_option maxRecDepth 100000 in
set_option maxHeartbeats 4000000 in
theorem schedule_ok (gb off cap : Nat) (blk : List UInt8) (w : World) (hl : blk.length = 64) (hb : ∀ j (c : UInt8), blk[j]? = some c → w.cell? ⟨gb, off + j, none⟩ = some (.int .u8 (c.toNat : Int))) :
    Calls Tryz.prog 114 #[.slice (some ⟨gb, off, none⟩) 64 cap] w fun e w' => e = .returned (.agg (uv (schedN 48 (words16 blk))).toArray) ∧ Below w.heap.size w w' := by
  have HL := Lib.hid hl
  have HB := Lib.hid hb
  clear hl hb
  go_enter Tryz.func114, Tryz.ntmps114
  go_wp2_with fail
  have hgb : ∀ j (c : UInt8), blk[j]? = some c → gb < w.heap.size := fun j c hc => by
    have := block_of_cell (HB.out j c hc); exact this
  go_loopw [7] (fun iv wr => ∃ i : Nat, i ≤ 16 ∧ iv = .int .i64 i ∧ BlkIs wr w.heap.size 189 (uv ((words16 blk).take i ++ List.replicate (64 - i) 0)) ∧ Below w.heap.size w wr) (fun iv _ => 16 - (intOf iv).toNat)
  case atStart => exact ⟨0, by omega, rfl, BlkIs.new _ _ _, (Below.refl _ w).alloc (Nat.le_refl _) _⟩
  case round =>
    obtain ⟨i, hi, rfl, hq, hb⟩ := hrel
    by_cases hi16 : i < 16
    · obtain ⟨K0, hK0⟩ : ∃ K : Nat, K = 4 * i := ⟨_, rfl⟩
      have hl := HL.out
      obtain ⟨c0, d0⟩ : ∃ c : UInt8, blk[K0]? = some c := ⟨_, List.getElem?_eq_getElem (by omega)⟩
      obtain ⟨c1, d1⟩ : ∃ c : UInt8, blk[K0 + 1]? = some c := ⟨_, List.getElem?_eq_getElem (by omega)⟩
      obtain ⟨c2, d2⟩ : ∃ c : UInt8, blk[K0 + 2]? = some c := ⟨_, List.getElem?_eq_getElem (by omega)⟩
      obtain ⟨c3, d3⟩ : ∃ c : UInt8, blk[K0 + 3]? = some c := ⟨_, List.getElem?_eq_getElem (by omega)⟩
      have k0 : wr.cell? ⟨gb, off + K0, none⟩ = some (.int .u8 (c0.toNat : Int)) := (hb.cell (block_of_cell (HB.out _ _ d0))).trans (HB.out _ _ d0)
      have k1 : wr.cell? ⟨gb, off + (K0 + 1), none⟩ = some (.int .u8 (c1.toNat : Int)) := (hb.cell (block_of_cell (HB.out _ _ d1))).trans (HB.out _ _ d1)
      have k2 : wr.cell? ⟨gb, off + (K0 + 2), none⟩ = some (.int .u8 (c2.toNat : Int)) := (hb.cell (block_of_cell (HB.out _ _ d2))).trans (HB.out _ _ d2)
      have k3 : wr.cell? ⟨gb, off + (K0 + 3), none⟩ = some (.int .u8 (c3.toNat : Int)) := (hb.cell (block_of_cell (HB.out _ _ d3))).trans (HB.out _ _ d3)
      have hcell : wr.cell? ⟨w.heap.size, i, none⟩ = some (.int .u32 0) := by
        rw [hq.cell]; exact uv_get _ _ (by rw [List.getElem?_append_right (by rw [List.length_take, words16_len]; omega), List.getElem?_replicate, if_pos (by rw [List.length_take, words16_len]; omega)])
      have hfr : wr.frozen? ⟨w.heap.size, i, none⟩ = false := hq.frozen i
      have e0 : (4 : Int) * (i : Int) = (K0 : Int) := by omega
      have n0 : (0 : Int) ≤ (i : Int) := by omega
      have n1 : (i : Int) < 64 := by omega
      have n2 : (0 : Int) ≤ (K0 : Int) := by omega
      have n3 : (K0 : Int) + 3 < 64 := by omega
      have hbe : be4 blk i = c0.toNat * 16777216 + c1.toNat * 65536 + c2.toNat * 256 + c3.toNat := by
        unfold be4 byteN
        rw [← hK0, List.getD_eq_getElem?_getD, List.getD_eq_getElem?_getD, List.getD_eq_getElem?_getD, List.getD_eq_getElem?_getD, d0, d1, d2, d3]
        rfl
      have hv := be4_or c0.toNat c1.toNat c2.toNat c3.toNat (UInt8.toNat_lt _) (UInt8.toNat_lt _) (UInt8.toNat_lt _) (UInt8.toNat_lt _)
      rw [← hbe] at hv
      have hn := (hq.set i (.int .u32 (be4 blk i : Nat))).drew
      rw [uv_set, fillN _ i 64 (by rw [List.length_take, words16_len]; omega) (by omega)] at hn
      have htk : (words16 blk).take i ++ [be4 blk i] = (words16 blk).take (i + 1) := by rw [List.take_add_one, words16_get blk hi16]; rfl
      rw [htk] at hn
      have hbn : Below w.heap.size w (wr.setCell ⟨w.heap.size, i, none⟩ (.int .u32 (be4 blk i : Nat))).drew := (hb.setCell (p := ⟨w.heap.size, i, none⟩) (Nat.le_refl _) _).drew
      have HV := Lib.hid hv
      have HN := Lib.hid hn
      have t0 : decide ((i : Int) < 16) = true := by simp; omega
      clear hK0 hl d0 d1 d2 d3 hbe hv htk hn hq
      go_wp2_with fail
      go_region
      rw [HV.out]
      generalize (wr.setCell ⟨w.heap.size, i, none⟩ (.int .u32 (be4 blk i : Nat))).drew = w2 at *
      go_wp2_with fail
      go_roundw
      case rel => exact ⟨i + 1, by omega, by go_num, HN.out, hbn⟩
      case measure => simp [intOf]; omega
    · have hi' : i = 16 := by omega
      obtain ⟨wz, rfl⟩ : ∃ wz : World, wz = wr := ⟨_, rfl⟩
      have hq16 : BlkIs wz w.heap.size 189 (uv (swN blk 16 ++ List.replicate (64 - 16) 0)) := by
        rw [hi'] at hq
        have : (words16 blk).take 16 = swN blk 16 := by rw [List.take_of_length_le (by rw [words16_len]; omega)]; rfl
        rw [← this]; exact hq
      have t0 : decide ((i : Int) < 16) = false := by simp; omega
      clear hi'
      clear hq hi hi16
      go_wp2_with fail
      go_loopw [4] (fun iv wr => ∃ i : Nat, 16 ≤ i ∧ i ≤ 64 ∧ iv = .int .i64 i ∧ BlkIs wr w.heap.size 189 (uv (swN blk i ++ List.replicate (64 - i) 0)) ∧ Below w.heap.size w wr) (fun iv _ => 64 - (intOf iv).toNat)
      case atStart => exact ⟨16, by omega, by omega, rfl, hq16, hb⟩
      case round =>
        clear hq16 hb
        obtain ⟨i, i1, i2, rfl, hq, hb⟩ := hrel
        by_cases hi64 : i < 64
        · have hlen := swN_len blk i1
          have hlt := swN_lt blk i
          obtain ⟨I16, h16⟩ : ∃ k, k = i - 16 := ⟨_, rfl⟩
          obtain ⟨I15, h15⟩ : ∃ k, k = i - 15 := ⟨_, rfl⟩
          obtain ⟨I7, h7⟩ : ∃ k, k = i - 7 := ⟨_, rfl⟩
          obtain ⟨I2, h2⟩ : ∃ k, k = i - 2 := ⟨_, rfl⟩
          obtain ⟨xa, ga⟩ : ∃ x, (swN blk i)[I16]? = some x := ⟨_, List.getElem?_eq_getElem (by omega)⟩
          obtain ⟨xb, gb'⟩ : ∃ x, (swN blk i)[I15]? = some x := ⟨_, List.getElem?_eq_getElem (by omega)⟩
          obtain ⟨xc, gc⟩ : ∃ x, (swN blk i)[I7]? = some x := ⟨_, List.getElem?_eq_getElem (by omega)⟩
          obtain ⟨xd, gd⟩ : ∃ x, (swN blk i)[I2]? = some x := ⟨_, List.getElem?_eq_getElem (by omega)⟩
          have la := hlt xa (List.mem_of_getElem? ga)
          have lb := hlt xb (List.mem_of_getElem? gb')
          have lc := hlt xc (List.mem_of_getElem? gc)
          have ld := hlt xd (List.mem_of_getElem? gd)
          have cd : wr.cell? ⟨w.heap.size, I2, none⟩ = some (.int .u32 (xd : Int)) := by
            rw [hq.cell]; exact uv_get _ _ (by rw [List.getElem?_append_left (by omega)]; exact gd)
          have cb : wr.cell? ⟨w.heap.size, I15, none⟩ = some (.int .u32 (xb : Int)) := by
            rw [hq.cell]; exact uv_get _ _ (by rw [List.getElem?_append_left (by omega)]; exact gb')
          have hcs : ∀ W : World, BlkIs W w.heap.size 189 (uv (swN blk i ++ List.replicate (64 - i) 0)) → W.cell? ⟨w.heap.size, I16, none⟩ = some (.int .u32 (xa : Int)) ∧ W.cell? ⟨w.heap.size, I7, none⟩ = some (.int .u32 (xc : Int)) ∧ W.cell? ⟨w.heap.size, i, none⟩ = some (.int .u32 0) ∧ W.frozen? ⟨w.heap.size, i, none⟩ = false := by
            intro W hW
            refine ⟨?_, ?_, ?_, hW.frozen i⟩
            · rw [hW.cell]; exact uv_get _ _ (by rw [List.getElem?_append_left (by omega)]; exact ga)
            · rw [hW.cell]; exact uv_get _ _ (by rw [List.getElem?_append_left (by omega)]; exact gc)
            · rw [hW.cell]; exact uv_get _ _ (by rw [List.getElem?_append_right (by omega), List.getElem?_replicate, if_pos (by omega)])
          have HCS := Lib.hid hcs
          have e16 : (i : Int) - 16 = (I16 : Int) := by omega
          have e15 : (i : Int) - 15 = (I15 : Int) := by omega
          have e7 : (i : Int) - 7 = (I7 : Int) := by omega
          have e2 : (i : Int) - 2 = (I2 : Int) := by omega
          have n0 : (16 : Int) ≤ (i : Int) := by omega
          have n1 : (i : Int) < 64 := by omega
          have n2 : (I16 : Int) < 64 ∧ (I15 : Int) < 64 ∧ (I7 : Int) < 64 ∧ (I2 : Int) < 64 := by omega
          obtain ⟨n3, n4, n5, n6⟩ := n2
          have w16 : IntKind.i64.wrap (I16 : Int) = (I16 : Int) := IntWalk.i64_in _ (by omega)
          have w7 : IntKind.i64.wrap (I7 : Int) = (I7 : Int) := IntWalk.i64_in _ (by omega)
          have z16 : (0 : Int) ≤ (I16 : Int) := by omega
          have z7 : (0 : Int) ≤ (I7 : Int) := by omega
          have z0 : (0 : Int) ≤ (i : Int) := by omega
          have t0 : decide ((i : Int) < 64) = true := by simp; omega
          have hne := nextW_eq (swN blk i) i xa xb xc xd hlen (by rw [← h16]; exact ga) (by rw [← h15]; exact gb') (by rw [← h7]; exact gc) (by rw [← h2]; exact gd)
          have HNE := Lib.hid hne
          have HLEN := Lib.hid hlen
          have hset : ∀ W : World, BlkIs W w.heap.size 189 (uv (swN blk i ++ List.replicate (64 - i) 0)) → ∀ v o1 o2, (((W.setCell ⟨w.heap.size, i, none⟩ v).alloc o1).alloc o2).cell? ⟨w.heap.size, I16, none⟩ = some (.int .u32 (xa : Int)) ∧ (((W.setCell ⟨w.heap.size, i, none⟩ v).alloc o1).alloc o2).cell? ⟨w.heap.size, I7, none⟩ = some (.int .u32 (xc : Int)) := by
            intro W hW v o1 o2
            have hs := ((hW.set i v).alloc o1).alloc o2
            refine ⟨?_, ?_⟩
            · rw [hs.cell, List.getElem?_set_ne (by omega)]; exact uv_get _ _ (by rw [List.getElem?_append_left (by omega)]; exact ga)
            · rw [hs.cell, List.getElem?_set_ne (by omega)]; exact uv_get _ _ (by rw [List.getElem?_append_left (by omega)]; exact gc)
          have HSET := Lib.hid hset
          clear hne hlen hlt ga gb' gc gd h16 h15 h7 h2 hcs hset
          go_wp2_with fail
          go_quiet (fail)
          go_wp2_with fail
          have hqq := hq.drewN nq
          have hbb := below_drewN' hb nq
          clear cb cd hq hb
          generalize wr.drewN nq = W0 at *
          obtain ⟨ca, cc, ci, fi⟩ := HCS.out _ hqq
          have fi2 : ∀ o1 o2, ((W0.alloc o1).alloc o2).frozen? ⟨w.heap.size, i, none⟩ = false := fun o1 o2 => ((hqq.alloc o1).alloc o2).frozen i
          have ci2 : ∀ o1 o2, ((W0.alloc o1).alloc o2).cell? ⟨w.heap.size, i, none⟩ = some (.int .u32 0) := fun o1 o2 => (HCS.out _ ((hqq.alloc o1).alloc o2)).2.2.1
          have sa := fun v o1 o2 => (HSET.out _ hqq v o1 o2).1
          have sc := fun v o1 o2 => (HSET.out _ hqq v o1 o2).2
          have hlw : w.heap.size < W0.heap.size := BlkIs.lt hqq
          have ea := World.new_ne W0 _ ca
          have ec := World.new_ne W0 _ cc
          have ei := World.new_ne W0 _ ci
          go_region_held3 (fun w' => w'.cell? ⟨w.heap.size, I16, none⟩ = some (.int .u32 (xa : Int)) ∧ w'.cell? ⟨w.heap.size, I7, none⟩ = some (.int .u32 (xc : Int)))
            (go_keep)
            (first
              | (go_at_call_has 115 (Value.int .u32 (xb : Int)); refine (mixed_s0 xb _ _ lb ?_ ?_).mono ?_; (first | exact cell_new _ _ _ _ _ _ (by simp) rfl | exact cell_new2 _ _ _ _ _ _ _ (by simp) rfl | (simp; done)); (first | exact cell_new _ _ _ _ _ _ (by simp) rfl | exact cell_new2 _ _ _ _ _ _ _ (by simp) rfl | (simp; done)); rintro e w4 ⟨rfl, rfl⟩)
              | (go_at_call_has 115 (Value.int .u32 (xd : Int)); refine (mixed_s1 xd _ _ ld ?_ ?_).mono ?_; (first | exact cell_new _ _ _ _ _ _ (by simp) rfl | exact cell_new2 _ _ _ _ _ _ _ (by simp) rfl | (simp; done)); (first | exact cell_new _ _ _ _ _ _ (by simp) rfl | exact cell_new2 _ _ _ _ _ _ _ (by simp) rfl | (simp; done)); rintro e w4 ⟨rfl, rfl⟩))
          all_goals
            rw [sched_val xa xb xc xd lb ld, ← HNE.out]
            have hn := hqq.set i (.int .u32 (nextW (swN blk i) : Nat))
            rw [uv_set, fillN _ i 64 HLEN.out (by omega), ← swN_succ blk i1] at hn
            have hbn : Below w.heap.size w (W0.setCell ⟨w.heap.size, i, none⟩ (.int .u32 (nextW (swN blk i) : Nat))) := hbb.setCell (p := ⟨w.heap.size, i, none⟩) (Nat.le_refl _) _
            have HN := Lib.hid hn
            clear sa sc ci2 fi2 ca cc ci fi hn
            generalize W0.setCell ⟨w.heap.size, i, none⟩ (.int .u32 (nextW (swN blk i) : Nat)) = W1 at *
            go_wp2_with fail
            go_roundw
            case rel => exact ⟨i + 1, by omega, by omega, by go_num, ((HN.out.alloc _).alloc _).drew, ((hbn.alloc hbn.size _).alloc (by have := hbn.size; simp; omega) _).drew⟩
            case measure => simp [intOf]; omega
        · have hi' : i = 64 := by omega
          have t0 : decide ((i : Int) < 64) = false := by simp; omega
          have hq64 : wr.heap[w.heap.size]? = some (.cells (uv (swN blk 64)).toArray 189 (0, 0)) := by
            have := hq
            rw [hi', Nat.sub_self, List.replicate_zero, List.append_nil] at this
            exact this
          have hsz : ((Tryz.prog.info? 189).map (·.size)) = some ((uv (swN blk 64)).toArray.size) := by
            have : ((uv (swN blk 64)).toArray.size) = 64 := by simp [uv, swN_len blk (show 16 ≤ 64 by omega)]
            rw [this]; exact Tryz.infoW64
          have hone : (uv (swN blk 64)).toArray.all (·.oneCell') = true := by simp [uv, Value.oneCell']
          have HSZ := Lib.hid hsz
          have HONE := Lib.hid hone
          have HQ := Lib.hid hq64
          clear hsz hone hq hq64 hi'
          have hself := setRow_self wr w.heap.size _ _ _ HQ.out
          have HSELF := Lib.hid hself
          clear hself
          go_wp2_with (first
            | (with_reducible refine wpList_load_row rfl 189 (.tmp 2) rfl w.heap.size rfl 189 (uv (swN blk 64)).toArray (0, 0) _ HQ.out Tryz.underlying189 rfl HSZ.out ?_)
            | (with_reducible refine wpList_store_row rfl 189 (.tmp 2) (.tmp 83) rfl w.heap.size (uv (swN blk 64)).toArray rfl rfl 189 (uv (swN blk 64)).toArray HQ.out HSZ.out rfl HONE.out ?_))
          rw [HSELF.out]
          exact bodyPost_ret (results_cell_row rfl _ wr w.heap.size 189 (uv (swN blk 64)).toArray (0, 0) _ rfl HQ.out Tryz.underlying189 rfl HSZ.out) rfl ⟨rfl, hb⟩
end Go.Proofs.YtgbemgndbemllaaGreatDoor
