/- Joined: RefG RefH RefI. -/
import Derived.Test.YtheebajklnljdaaGreatDoorQRefE
import Derived.Test.YtheebajklnljdaaGreatDoorGd
import Derived.Test.YtheebajklnljdaaGreatDoorGh
import Derived.Deep.RegionHeld3
import Derived.Deep.AppendLies
import Derived.OwnWalk
import Derived.Test.YtheebajklnljdaaGreatDoorQRefD
import Derived.Test.YtheebajklnljdaaGreatDoorQLeaf

section
/- The reference's block. -/
namespace Go.Proofs.YtheebajklnljdaaGreatDoor
open Go Go.RowKit
attribute [local go_sem] Oper.semAt_some

theorem Tryz.infoU32 : (Tryz.prog.info? 136).map (fun i => (i.zero, i.size, i.bytes)) = some (some (.int .u32 0), 1, 4) := by kernel_rfl

theorem quiet_rd {P : Program} {f : FuncId} {args : Array Value} {w : World} {n : Nat} {v : Value}
    (h : Calls P f args (w.drewN n) fun e w' => e = .returned v ∧ ∃ q, w' = (w.drewN n).drewN q) : Calls P f args (w.drewN n) fun e w'' => e = .returned v ∧ ∃ m, w'' = w.drewN m :=
  h.mono fun _ _ ⟨he, q, hq⟩ => ⟨he, n + q, by rw [hq, World.drewN_drewN]⟩

theorem s0_eq (x : Nat) (h : x < 4294967296) : bits BinOp.xor IntKind.u32 (bits BinOp.xor IntKind.u32 ((rotN x 7 : Nat) : Int) ((rotN x 18 : Nat) : Int)) ((x : Int) / 8) = ((s0N x : Nat) : Int) := by
  have e1 : (x : Int) / 8 = ((x / 2 ^ 3 : Nat) : Int) := by omega
  rw [e1, u32_xor_nat _ _ (rotN_lt _ _ h) (rotN_lt _ _ h), u32_xor_nat _ _ (xor32_lt (rotN_lt _ _ h) (rotN_lt _ _ h)) (by omega)]
  rfl
theorem s1_eq (x : Nat) (h : x < 4294967296) : bits BinOp.xor IntKind.u32 (bits BinOp.xor IntKind.u32 ((rotN x 17 : Nat) : Int) ((rotN x 19 : Nat) : Int)) ((x : Int) / 1024) = ((s1N x : Nat) : Int) := by
  have e1 : (x : Int) / 1024 = ((x / 2 ^ 10 : Nat) : Int) := by omega
  rw [e1, u32_xor_nat _ _ (rotN_lt _ _ h) (rotN_lt _ _ h), u32_xor_nat _ _ (xor32_lt (rotN_lt _ _ h) (rotN_lt _ _ h)) (by omega)]
  rfl
theorem rot3_eq (x a b c : Nat) (h : x < 4294967296) : bits BinOp.xor IntKind.u32 (bits BinOp.xor IntKind.u32 ((rotN x a : Nat) : Int) ((rotN x b : Nat) : Int)) ((rotN x c : Nat) : Int) = ((rotN x a ^^^ rotN x b ^^^ rotN x c : Nat) : Int) := by
  rw [u32_xor_nat _ _ (rotN_lt _ _ h) (rotN_lt _ _ h), u32_xor_nat _ _ (xor32_lt (rotN_lt _ _ h) (rotN_lt _ _ h)) (rotN_lt _ _ h)]
theorem sum4 (a b c d : Nat) : IntKind.u32.wrap (IntKind.u32.wrap (IntKind.u32.wrap ((a : Int) + (b : Int)) + (c : Int)) + (d : Int)) = (((a + b + c + d) % 4294967296 : Nat) : Int) := by
  rw [IntKind.wrap_u32', IntKind.wrap_u32', IntKind.wrap_u32']; omega
theorem uv_oneL (l : List Nat) : ∀ u ∈ uv l, u.oneCell' = true := by
  intro u hu
  obtain ⟨x, _, rfl⟩ := List.mem_map.1 hu
  rfl

theorem arg_cells {v : V8} {gh : Nat} {w wz : World} (hv : ∀ j (x : Nat), v.toL[j]? = some x → w.cell? ⟨gh, j, none⟩ = some (.int .u32 (x : Int))) (hb : Below w.heap.size w wz) (hl : gh < w.heap.size) (o : Obj) (j : Nat) (u : Value) (hu : (uv v.toL)[j]? = some u) : (wz.alloc o).cell? ⟨gh, j, none⟩ = some u := by
  obtain ⟨x, hx, rfl⟩ : ∃ x : Nat, v.toL[j]? = some x ∧ u = .int .u32 (x : Int) := by
    unfold uv at hu
    rw [List.getElem?_map] at hu
    cases h : v.toL[j]? with
    | none => rw [h] at hu; cases hu
    | some x => rw [h] at hu; exact ⟨x, rfl, (Option.some.inj hu).symm⟩
  have h1 : wz.cell? ⟨gh, j, none⟩ = some (.int .u32 (x : Int)) := (hb.cell hl).trans (hv j x hx)
  exact (World.cell?_alloc_some wz _ o (by rw [h1]; rfl)).trans h1

theorem rnd_tq (s : V8) (k x : Nat) (he : s.e < 4294967296) (hf : s.f < 4294967296) (hg : s.g < 4294967296) :
    (((s.h : Int) + ((rotN s.e 6 ^^^ rotN s.e 11 ^^^ rotN s.e 25 : Nat) : Int) +
      bits BinOp.xor IntKind.u32 (bits BinOp.and IntKind.u32 (s.e : Int) (s.f : Int)) (bits BinOp.and IntKind.u32 (bits BinOp.xor IntKind.u32 (if IntKind.u32.signed = true then -1 else IntKind.u32.max) (s.e : Int)) (s.g : Int)) + (k : Int)) % 4294967296 + (x : Int)) % 4294967296 = ((rndT s k x : Nat) : Int) := by
  have h := rnd_t s k x he hf hg
  rw [IntKind.wrap_u32', IntKind.wrap_u32', IntKind.wrap_u32', IntKind.wrap_u32'] at h
  rw [if_neg (by decide), ← h]
  omega
theorem rnd_uq (s : V8) (ha : s.a < 4294967296) (hb : s.b < 4294967296) (hc : s.c < 4294967296) :
    (((rotN s.a 2 ^^^ rotN s.a 13 ^^^ rotN s.a 22 : Nat) : Int) + bits BinOp.xor IntKind.u32 (bits BinOp.xor IntKind.u32 (bits BinOp.and IntKind.u32 (s.a : Int) (s.b : Int)) (bits BinOp.and IntKind.u32 (s.a : Int) (s.c : Int))) (bits BinOp.and IntKind.u32 (s.b : Int) (s.c : Int))) % 4294967296 = ((rndU s : Nat) : Int) := by
  have h := rnd_u s ha hb hc
  rw [IntKind.wrap_u32'] at h
  exact h
theorem w_addq (a b : Nat) : ((a : Int) + (b : Int)) % 4294967296 = (((a + b) % 4294967296 : Nat) : Int) := by omega

theorem own_mono {w : World} {base base' : Nat} {e : TypeId} {size : Nat} {v : Value} {n : Nat} {xs : List Value} (h : w.ownsRow base e size v n xs) (hb : base' ≤ base) : w.ownsRow base' e size v n xs :=
  ⟨h.1, h.2.imp id fun ⟨g, cap, cur, h1, h2, h3⟩ => ⟨g, cap, cur, h1, Nat.le_trans hb h2, h3⟩⟩


set_option maxRecDepth 100000 in
set_option maxHeartbeats 8000000 in
theorem block_ok (gh ch : Nat) (v : V8) (hvo : V8Ok v) (gb off cap : Nat) (blk : List UInt8) (w : World) (hl : blk.length = 64) (hb : ∀ j (c : UInt8), blk[j]? = some c → w.cell? ⟨gb, off + j, none⟩ = some (.int .u8 (c.toNat : Int)))
    (hv : ∀ j (x : Nat), v.toL[j]? = some x → w.cell? ⟨gh, j, none⟩ = some (.int .u32 (x : Int))) :
    Calls Tryz.prog 101 #[.slice (some ⟨gh, 0, none⟩) 8 ch, .slice (some ⟨gb, off, none⟩) 64 cap] w fun e w' => ∃ r, e = .returned r ∧ w'.ownsRow w.heap.size 136 1 r 8 (uv (compress v blk).toL) ∧ Below w.heap.size w w' := by
  obtain ⟨i0, hi0, hz0, hz1, hz2⟩ := info_parts Tryz.infoU32
  have HL := Lib.hid hl
  have HB := Lib.hid hb
  have HVV := Lib.hid hv
  have HVO := Lib.hid hvo
  clear hl hb hv hvo
  go_enter Tryz.func101, Tryz.ntmps101
  go_wp2_with fail
  go_loopw [5, 6] (fun ov iv wr => ∃ i : Nat, i ≤ 16 ∧ iv = .int .i64 i ∧ wr.ownsRow w.heap.size 136 1 ov i (uv ((words16 blk).take i)) ∧ Below w.heap.size w wr) (fun _ iv _ => 16 - (intOf iv).toNat)
  case atStart => exact ⟨0, by omega, rfl, World.ownsRow_nil _ _ _ 1, Below.refl _ _⟩
  case round =>
    obtain ⟨i, hi, rfl, hown, hb⟩ := hrel
    by_cases hi16 : i < 16
    · obtain ⟨K0, hK0⟩ : ∃ K : Nat, K = 4 * i := ⟨_, rfl⟩
      have hl := HL.out
      obtain ⟨c0, d0⟩ : ∃ c : UInt8, blk[K0]? = some c := ⟨_, List.getElem?_eq_getElem (by omega)⟩
      obtain ⟨c1, d1⟩ : ∃ c : UInt8, blk[K0 + 1]? = some c := ⟨_, List.getElem?_eq_getElem (by omega)⟩
      obtain ⟨c2, d2⟩ : ∃ c : UInt8, blk[K0 + 2]? = some c := ⟨_, List.getElem?_eq_getElem (by omega)⟩
      obtain ⟨c3, d3⟩ : ∃ c : UInt8, blk[K0 + 3]? = some c := ⟨_, List.getElem?_eq_getElem (by omega)⟩
      have hgl := block_of_cell (HB.out _ _ d0)
      have k0 : wr.cell? ⟨gb, off + K0, none⟩ = some (.int .u8 (c0.toNat : Int)) := (hb.cell (block_of_cell (HB.out _ _ d0))).trans (HB.out _ _ d0)
      have k1 : wr.cell? ⟨gb, off + (K0 + 1), none⟩ = some (.int .u8 (c1.toNat : Int)) := (hb.cell (block_of_cell (HB.out _ _ d1))).trans (HB.out _ _ d1)
      have k2 : wr.cell? ⟨gb, off + (K0 + 2), none⟩ = some (.int .u8 (c2.toNat : Int)) := (hb.cell (block_of_cell (HB.out _ _ d2))).trans (HB.out _ _ d2)
      have k3 : wr.cell? ⟨gb, off + (K0 + 3), none⟩ = some (.int .u8 (c3.toNat : Int)) := (hb.cell (block_of_cell (HB.out _ _ d3))).trans (HB.out _ _ d3)
      have e0 : (4 : Int) * (i : Int) = (K0 : Int) := by omega
      have n0 : (0 : Int) ≤ (i : Int) := by omega
      have n1 : (i : Int) < 64 := by omega
      have n2 : (0 : Int) ≤ (K0 : Int) := by omega
      obtain ⟨K1, hK1⟩ : ∃ K : Nat, K = K0 + 1 := ⟨_, rfl⟩
      obtain ⟨K2, hK2⟩ : ∃ K : Nat, K = K0 + 2 := ⟨_, rfl⟩
      obtain ⟨K3, hK3⟩ : ∃ K : Nat, K = K0 + 3 := ⟨_, rfl⟩
      rw [← hK1] at k1
      rw [← hK2] at k2
      rw [← hK3] at k3
      have f1 : (K0 : Int) + 1 = (K1 : Int) := by omega
      have f2 : (K0 : Int) + 2 = (K2 : Int) := by omega
      have f3 : (K0 : Int) + 3 = (K3 : Int) := by omega
      have a0 : (K0 : Int) < 64 := by omega
      have a1 : (K1 : Int) < 64 := by omega
      have a2 : (K2 : Int) < 64 := by omega
      have a3 : (K3 : Int) < 64 := by omega
      have b1 : (0 : Int) ≤ (K1 : Int) := by omega
      have b2 : (0 : Int) ≤ (K2 : Int) := by omega
      have b3 : (0 : Int) ≤ (K3 : Int) := by omega
      have hbe : be4 blk i = c0.toNat * 16777216 + c1.toNat * 65536 + c2.toNat * 256 + c3.toNat := by
        unfold be4 byteN
        rw [← hK0, List.getD_eq_getElem?_getD, List.getD_eq_getElem?_getD, List.getD_eq_getElem?_getD, List.getD_eq_getElem?_getD, d0, d1, d2, d3]
        rfl
      have hv := be4_or c0.toNat c1.toNat c2.toNat c3.toNat (UInt8.toNat_lt _) (UInt8.toNat_lt _) (UInt8.toNat_lt _) (UInt8.toNat_lt _)
      rw [← hbe] at hv
      have htk : uv ((words16 blk).take i) ++ [.int .u32 (be4 blk i : Nat)] = uv ((words16 blk).take (i + 1)) := by rw [List.take_add_one, words16_get blk hi16]; simp [uv]
      have hne : u5.ownBlock ≠ some gb := by
        intro e
        have := World.ownsRow_base hown e
        simp at hgl; omega
      have HTK := Lib.hid htk
      have t0 : decide ((i : Int) < 16) = true := by simp; omega
      have hle := hb.size
      have hgw : gb < wr.heap.size := Nat.lt_of_lt_of_le hgl hb.size
      have u0 : IntKind.i64.wrap (K0 : Int) = (K0 : Int) := IntWalk.i64_in _ (by omega)
      have u1 : IntKind.i64.wrap (K1 : Int) = (K1 : Int) := IntWalk.i64_in _ (by omega)
      have u4b : IntKind.i64.wrap (K2 : Int) = (K2 : Int) := IntWalk.i64_in _ (by omega)
      have u4 : IntKind.i64.wrap (K3 : Int) = (K3 : Int) := IntWalk.i64_in _ (by omega)
      clear hK0 hK1 hK2 hK3 hl d0 d1 d2 d3 hbe htk
      go_wp2_with fail
      go_region_held3 (fun w' => w'.cell? ⟨gb, off + K0, none⟩ = some (.int .u8 (c0.toNat : Int)) ∧ w'.cell? ⟨gb, off + K1, none⟩ = some (.int .u8 (c1.toNat : Int)) ∧ w'.cell? ⟨gb, off + K2, none⟩ = some (.int .u8 (c2.toNat : Int)) ∧ w'.cell? ⟨gb, off + K3, none⟩ = some (.int .u8 (c3.toNat : Int)))
        (first | go_keep | (go_split_ands; refine ⟨?_, ?_, ?_, ?_⟩ <;> (rw [g1.cell_far _ (by simp; omega) (Ne.symm hne)]; assumption)))
        ((refine step_append_lies _ (by rfl) _ _ 137 (by rfl) w.heap.size 136 i0 (.int .u32 0) 1 4 Tryz.underlying137 hi0 hz0 hz1 hz2 rfl (by decide) u5 i _ (by rfl) ((hown.alloc _).drew) ⟨wr.heap.size, 0, none⟩ 1 1 [.int .u32 (be4 blk i : Nat)] (by rfl) (by rfl) (by simp only [IntKind.wrap_u32]; rw [hv]; exact cell_one_new _ _ _) (by simp [Value.oneCell']) (by decide) (by unfold maxLen; omega) (by omega) (by simp; omega) (wr.heap.size + 1) (by simp) ?_; intro gg cp w1 own1 g1 hat hlt))
      have g2 := (⟨g1.os, g1.tape, g1.output, g1.size, g1.block⟩ : (wr.alloc _).grownBy w1 u5.ownBlock)
      have hb1 := Below.appended hb hle hown g2
      rw [HTK.out] at own1
      clear g1 g2 hown hb k0 k1 k2 k3 hv
      go_wp2_with fail
      exact ⟨⟨i + 1, by omega, by go_num, own1, hb1⟩, by simp [intOf]; omega⟩
    · have hi' : i = 16 := by omega
      obtain ⟨wz, rfl⟩ : ∃ wz : World, wz = wr := ⟨_, rfl⟩
      have hq16 : wz.ownsRow w.heap.size 136 1 u5 16 (uv (swN blk 16)) := by
        rw [hi'] at hown
        have : (words16 blk).take 16 = swN blk 16 := by rw [List.take_of_length_le (by rw [words16_len]; omega)]; rfl
        rw [← this]; exact hown
      have t0 : decide ((i : Int) < 16) = false := by simp; omega
      clear hi' hown hi hi16
      go_wp2_with fail
      go_loopw [5, 7] (fun ov iv wr => ∃ i : Nat, 16 ≤ i ∧ i ≤ 64 ∧ iv = .int .i64 i ∧ wr.ownsRow w.heap.size 136 1 ov i (uv (swN blk i)) ∧ Below w.heap.size w wr) (fun _ iv _ => 64 - (intOf iv).toNat)
      case atStart => exact ⟨16, by omega, by omega, rfl, hq16, hb⟩
      case round =>
        clear hq16 hb
        obtain ⟨i, i1, i2, rfl, hown, hb⟩ := hrel
        by_cases hi64 : i < 64
        · obtain ⟨g, cp, rfl, hg0, hg1⟩ := World.ownsRow.form hown (by omega)
          have hlen := swN_len blk i1
          have hlt := swN_lt blk i
          obtain ⟨I16, h16⟩ : ∃ k, k = i - 16 := ⟨_, rfl⟩
          obtain ⟨I15, h15⟩ : ∃ k, k = i - 15 := ⟨_, rfl⟩
          obtain ⟨I7, h7⟩ : ∃ k, k = i - 7 := ⟨_, rfl⟩
          obtain ⟨I2, h2⟩ : ∃ k, k = i - 2 := ⟨_, rfl⟩
          obtain ⟨xa, ga⟩ : ∃ x, (swN blk i)[I16]? = some x := ⟨_, List.getElem?_eq_getElem (by omega)⟩
          obtain ⟨xb, gb'⟩ : ∃ x, (swN blk i)[I15]? = some x := ⟨_, List.getElem?_eq_getElem (by omega)⟩
          obtain ⟨xc, gc⟩ : ∃ x, (swN blk i)[I7]? = some x := ⟨_, List.getElem?_eq_getElem (by omega)⟩
          obtain ⟨xd, gd⟩ : ∃ x, (swN blk i)[I2]? = some x := ⟨_, List.getElem?_eq_getElem (by omega)⟩
          have la := hlt xa (List.mem_of_getElem? ga)
          have lb := hlt xb (List.mem_of_getElem? gb')
          have lc := hlt xc (List.mem_of_getElem? gc)
          have ld := hlt xd (List.mem_of_getElem? gd)
          have cd : wr.cell? ⟨g, I2, none⟩ = some (.int .u32 (xd : Int)) := (hown.cellAt I2 (by omega)).trans (uv_get _ _ gd)
          have cb : wr.cell? ⟨g, I15, none⟩ = some (.int .u32 (xb : Int)) := (hown.cellAt I15 (by omega)).trans (uv_get _ _ gb')
          have ca : wr.cell? ⟨g, I16, none⟩ = some (.int .u32 (xa : Int)) := (hown.cellAt I16 (by omega)).trans (uv_get _ _ ga)
          have cc : wr.cell? ⟨g, I7, none⟩ = some (.int .u32 (xc : Int)) := (hown.cellAt I7 (by omega)).trans (uv_get _ _ gc)
          have e16 : (i : Int) - 16 = (I16 : Int) := by omega
          have e15 : (i : Int) - 15 = (I15 : Int) := by omega
          have e7 : (i : Int) - 7 = (I7 : Int) := by omega
          have e2 : (i : Int) - 2 = (I2 : Int) := by omega
          have n0 : (16 : Int) ≤ (i : Int) := by omega
          have n1 : (i : Int) < 64 := by omega
          have n2 : (I16 : Int) < (i : Int) ∧ (I15 : Int) < (i : Int) ∧ (I7 : Int) < (i : Int) ∧ (I2 : Int) < (i : Int) := by omega
          obtain ⟨n3, n4, n5, n6⟩ := n2
          have w16 : IntKind.i64.wrap (I16 : Int) = (I16 : Int) := IntWalk.i64_in _ (by omega)
          have w15 : IntKind.i64.wrap (I15 : Int) = (I15 : Int) := IntWalk.i64_in _ (by omega)
          have w7 : IntKind.i64.wrap (I7 : Int) = (I7 : Int) := IntWalk.i64_in _ (by omega)
          have w2 : IntKind.i64.wrap (I2 : Int) = (I2 : Int) := IntWalk.i64_in _ (by omega)
          have z16 : (0 : Int) ≤ (I16 : Int) := by omega
          have z15 : (0 : Int) ≤ (I15 : Int) := by omega
          have z7 : (0 : Int) ≤ (I7 : Int) := by omega
          have z2 : (0 : Int) ≤ (I2 : Int) := by omega
          have z0 : (0 : Int) ≤ (i : Int) := by omega
          have t0 : decide ((i : Int) < 64) = true := by simp; omega
          have hne := nextW_eq (swN blk i) i xa xb xc xd hlen (by rw [← h16]; exact ga) (by rw [← h15]; exact gb') (by rw [← h7]; exact gc) (by rw [← h2]; exact gd)
          have hsn : uv (swN blk i) ++ [.int .u32 (nextW (swN blk i) : Nat)] = uv (swN blk (i + 1)) := by rw [swN_succ blk i1]; simp [uv]
          have HNE := Lib.hid hne
          have HSN := Lib.hid hsn
          have hle := hb.size
          clear hne hsn hlen hlt ga gb' gc gd h16 h15 h7 h2
          go_wp2_with fail
          go_quiet (first | (go_at_call_has 125 (Value.int .i64 7); exact quiet_rd (rd_7 xb _ lb)) | (go_at_call_has 125 (Value.int .i64 18); exact quiet_rd (rd_18 xb _ lb)))
          rw [s0_eq xb lb]
          have hown0 : (wr.drewN nq).ownsRow w.heap.size 136 1 (.slice (some ⟨g, 0, none⟩) i cp) i (uv (swN blk i)) := hown
          have hb0 := below_drewN' hb nq
          have cd0 : (wr.drewN nq).cell? ⟨g, I2, none⟩ = some (.int .u32 (xd : Int)) := cd
          have ca0 : (wr.drewN nq).cell? ⟨g, I16, none⟩ = some (.int .u32 (xa : Int)) := ca
          have cc0 : (wr.drewN nq).cell? ⟨g, I7, none⟩ = some (.int .u32 (xc : Int)) := cc
          clear hown hb cd cb ca cc hle
          generalize wr.drewN nq = W0 at *
          obtain ⟨S0, hS0⟩ : ∃ s, s = s0N xb := ⟨_, rfl⟩
          rw [← hS0]
          have HS0 := Lib.hid hS0
          clear hS0
          go_wp2_with fail
          go_quiet (first | (go_at_call_has 125 (Value.int .i64 17); exact quiet_rd (rd_17 xd _ ld)) | (go_at_call_has 125 (Value.int .i64 19); exact quiet_rd (rd_19 xd _ ld)))
          rw [s1_eq xd ld]
          have hown1 : (W0.drewN nq).ownsRow w.heap.size 136 1 (.slice (some ⟨g, 0, none⟩) i cp) i (uv (swN blk i)) := hown0
          have hb1 := below_drewN' hb0 nq
          have ca1 : (W0.drewN nq).cell? ⟨g, I16, none⟩ = some (.int .u32 (xa : Int)) := ca0
          have cc1 : (W0.drewN nq).cell? ⟨g, I7, none⟩ = some (.int .u32 (xc : Int)) := cc0
          clear hown0 hb0 cd0 ca0 cc0
          generalize W0.drewN nq = W1 at *
          obtain ⟨S1, hS1⟩ : ∃ s, s = s1N xd := ⟨_, rfl⟩
          rw [← hS1]
          have hle := hb1.size
          have hnn : nextW (swN blk i) = (xa + S0 + xc + S1) % 4294967296 := by rw [HS0.out, hS1]; exact HNE.out
          have HNN := Lib.hid hnn
          clear hS1 hnn HNE HS0
          go_wp2_with fail
          go_region_law (refine step_append_lies _ (by rfl) _ _ 137 (by rfl) w.heap.size 136 i0 (.int .u32 0) 1 4 Tryz.underlying137 hi0 hz0 hz1 hz2 rfl (by decide) (.slice (some ⟨g, 0, none⟩) i cp) i _ (by rfl) ((hown1.alloc _).drew) ⟨W1.heap.size, 0, none⟩ 1 1 [.int .u32 (nextW (swN blk i) : Nat)] (by rfl) (by rfl) (by rw [HNN.out, ← sum4]; exact cell_one_new _ _ _) (by simp [Value.oneCell']) (by decide) (by unfold maxLen; omega) (by omega) (by simp; omega) (W1.heap.size + 1) (by simp) ?_; intro gg cp2 w5 own5 g5 hat hlt)
          all_goals
            have g2 := (⟨g5.os, g5.tape, g5.output, g5.size, g5.block⟩ : (W1.alloc _).grownBy w5 (Value.slice (some ⟨g, 0, none⟩) i cp).ownBlock)
            have hb2 := Below.appended hb1 hle hown1 g2
            rw [HSN.out] at own5
            clear g2 g5 hown1 hb1 ca1 cc1
            go_wp2_with fail
            exact ⟨⟨i + 1, by omega, by omega, by go_num, own5, hb2⟩, by simp [intOf]; omega⟩
        · have hi' : i = 64 := by omega
          obtain ⟨wz, rfl⟩ : ∃ wz : World, wz = wr := ⟨_, rfl⟩
          have t0 : decide ((i : Int) < 64) = false := by simp; omega
          rw [hi'] at hown
          obtain ⟨g, cp, rfl, hg0, hg1⟩ := World.ownsRow.form hown (by omega)
          obtain ⟨WW, hWW⟩ : ∃ l, l = swN blk 64 := ⟨_, rfl⟩
          have lW : WW.length = 64 := by rw [hWW]; exact swN_len blk (by omega)
          rw [← hWW] at hown
          have HWW := Lib.hid hWW
          have LW := Lib.hid lW
          have hcW : ∀ (j x : Nat), WW[j]? = some x → wz.cell? ⟨g, j, none⟩ = some (.int .u32 (x : Int)) := fun j x hj => (hown.cellAt j (by have := LW.out; have := (List.getElem?_eq_some_iff.1 hj).1; omega)).trans (uv_get _ _ hj)
          have HCW := Lib.hid hcW
          have hle := hb.size
          have hvl : gh < w.heap.size := block_of_cell (HVV.out 0 v.a rfl)
          clear hcW lW hWW hown hi' hi64 i1 i2
          go_wp2_with fail
          refine (constants_ok wz).mono ?_
          rintro e w2 ⟨rfl, rfl⟩
          go_wp2_with (at_builtin; refine wpList_append_own _ rfl _ _ 137 rfl w.heap.size 136 i0 (.int .u32 0) 1 4 Tryz.underlying137 hi0 hz0 hz1 hz2 rfl (by decide) (.slice none 0 0) 0 [] rfl (World.ownsRow_nil _ _ _ 1) ⟨gh, 0, none⟩ 8 ch (uv v.toL) rfl rfl (fun j u hu => by rw [add_zero_off]; exact arg_cells HVV.out hb hvl _ j u hu) (uv_oneL v.toL) (by unfold maxLen; omega) (by omega) (by rw [World.size_alloc]; omega) ?_; intro v3 w3 own3 g3 _)
          have own4 : w3.ownsRow w.heap.size 136 1 v3 8 (uv v.toL) := own3
          have hb3 : Below w.heap.size w w3 := (hb.alloc hle _).grown g3 (by rw [World.size_alloc]; omega) (fun j e => by simp [Value.ownBlock] at e)
          have hs3 := g3.size
          rw [World.size_alloc] at hs3
          have hk3 : ∀ (j x : Nat), k256[j]? = some x → w3.cell? ⟨wz.heap.size, j, none⟩ = some (.int .u32 (x : Int)) := fun j x hj => by
            rw [g3.cell_far ⟨wz.heap.size, j, none⟩ (by rw [World.size_alloc]; simp) (by simp [Value.ownBlock]), cell_of_row _ _ j _ _ _ (World.alloc_heap_new wz _)]
            simpa using uv_get k256 j hj
          have hw3 : ∀ (j x : Nat), WW[j]? = some x → w3.cell? ⟨g, j, none⟩ = some (.int .u32 (x : Int)) := fun j x hj => by
            rw [g3.cell_far ⟨g, j, none⟩ (by rw [World.size_alloc]; simp; omega) (by simp [Value.ownBlock])]
            exact (World.cell?_alloc_some wz _ _ (by rw [HCW.out j x hj]; rfl)).trans (HCW.out j x hj)
          have hgk : wz.heap.size < w3.heap.size := by omega
          have hgw3 : g < w3.heap.size := by omega
          have hws3 : w.heap.size ≤ w3.heap.size := by omega
          have HK3 := Lib.hid hk3
          have HW3 := Lib.hid hw3
          obtain ⟨kz, hkz⟩ : ∃ z : Nat, z = wz.heap.size := ⟨_, rfl⟩
          rw [← hkz] at hk3 HK3 hgk ⊢
          clear own3 g3 hk3 hw3 HCW hs3 hb hg0 hg1 hle hkz
          go_loopw [11, 12] (fun vv iv wr => ∃ i : Nat, i ≤ 64 ∧ iv = .int .i64 i ∧ wr.ownsRow w.heap.size 136 1 vv 8 (uv (stN v WW i).toL) ∧ Below w3.heap.size w3 wr) (fun _ iv _ => 64 - (intOf iv).toNat)
          case atStart => exact ⟨0, by omega, rfl, own4, Below.refl _ _⟩
          case round =>
            clear own4
            obtain ⟨i, i1, rfl, hown, hbr⟩ := hrel
            obtain ⟨gv, cv, rfl, hv0, hv1⟩ := World.ownsRow.form hown (by omega)
            by_cases hi64 : i < 64
            · obtain ⟨s, hs⟩ : ∃ s, s = stN v WW i := ⟨_, rfl⟩
              have hso : V8Ok s := by rw [hs]; exact stN_ok HVO.out WW i
              rw [← hs] at hown
              obtain ⟨k, hk⟩ : ∃ k, k256[i]? = some k := ⟨_, List.getElem?_eq_getElem (Nat.lt_of_lt_of_eq hi64 (by decide))⟩
              obtain ⟨x, hx⟩ : ∃ x, WW[i]? = some x := ⟨_, List.getElem?_eq_getElem (by have := LW.out; omega)⟩
              have ck : wr.cell? ⟨kz, i, none⟩ = some (.int .u32 (k : Int)) := (hbr.cell hgk).trans (HK3.out i k hk)
              have cx : wr.cell? ⟨g, i, none⟩ = some (.int .u32 (x : Int)) := (hbr.cell hgw3).trans (HW3.out i x hx)
              have c0 : wr.cell? ⟨gv, 0, none⟩ = some (.int .u32 (s.a : Int)) := hown.cellAt 0 (by omega)
              have c1 : wr.cell? ⟨gv, 1, none⟩ = some (.int .u32 (s.b : Int)) := hown.cellAt 1 (by omega)
              have c2 : wr.cell? ⟨gv, 2, none⟩ = some (.int .u32 (s.c : Int)) := hown.cellAt 2 (by omega)
              have c3 : wr.cell? ⟨gv, 3, none⟩ = some (.int .u32 (s.d : Int)) := hown.cellAt 3 (by omega)
              have c4 : wr.cell? ⟨gv, 4, none⟩ = some (.int .u32 (s.e : Int)) := hown.cellAt 4 (by omega)
              have c5 : wr.cell? ⟨gv, 5, none⟩ = some (.int .u32 (s.f : Int)) := hown.cellAt 5 (by omega)
              have c6 : wr.cell? ⟨gv, 6, none⟩ = some (.int .u32 (s.g : Int)) := hown.cellAt 6 (by omega)
              have c7 : wr.cell? ⟨gv, 7, none⟩ = some (.int .u32 (s.h : Int)) := hown.cellAt 7 (by omega)
              have la : s.a < 4294967296 := hso _ (by simp [V8.toL])
              have lb : s.b < 4294967296 := hso _ (by simp [V8.toL])
              have lc : s.c < 4294967296 := hso _ (by simp [V8.toL])
              have le : s.e < 4294967296 := hso _ (by simp [V8.toL])
              have lf : s.f < 4294967296 := hso _ (by simp [V8.toL])
              have lg : s.g < 4294967296 := hso _ (by simp [V8.toL])
              have hst : stN v WW (i + 1) = rnd s k x := by rw [hs]; exact stN_succ v WW i k x hk hx
              have HST := Lib.hid hst
              have n0 : (0 : Int) ≤ (i : Int) := by omega
              have n1 : (i : Int) < 64 := by omega
              have t0 : decide ((i : Int) < 64) = true := by simp; omega
              clear hst hs hso hk hx
              go_wp2_with fail
              go_quiet (first | (go_at_call_has 125 (Value.int .i64 6); exact quiet_rd (rd_6 s.e _ le)) | (go_at_call_has 125 (Value.int .i64 11); exact quiet_rd (rd_11 s.e _ le)) | (go_at_call_has 125 (Value.int .i64 25); exact quiet_rd (rd_25 s.e _ le)))
              rw [rot3_eq s.e 6 11 25 le, rnd_tq s k x le lf lg]
              have own1 : (wr.drewN nq).ownsRow w.heap.size 136 1 (.slice (some ⟨gv, 0, none⟩) 8 cv) 8 (uv s.toL) := hown
              have hbr1 := below_drewN' hbr nq
              have d1 : (wr.drewN nq).cell? ⟨gv, 1, none⟩ = some (.int .u32 (s.b : Int)) := c1
              have d2 : (wr.drewN nq).cell? ⟨gv, 2, none⟩ = some (.int .u32 (s.c : Int)) := c2
              have d3 : (wr.drewN nq).cell? ⟨gv, 3, none⟩ = some (.int .u32 (s.d : Int)) := c3
              have d5 : (wr.drewN nq).cell? ⟨gv, 5, none⟩ = some (.int .u32 (s.f : Int)) := c5
              have d6 : (wr.drewN nq).cell? ⟨gv, 6, none⟩ = some (.int .u32 (s.g : Int)) := c6
              clear hown hbr c0 c1 c2 c3 c4 c5 c6 c7 ck cx hv1
              generalize wr.drewN nq = W0 at *
              go_wp2_with fail
              go_quiet (first | (go_at_call_has 125 (Value.int .i64 2); exact quiet_rd (rd_2 s.a _ la)) | (go_at_call_has 125 (Value.int .i64 13); exact quiet_rd (rd_13 s.a _ la)) | (go_at_call_has 125 (Value.int .i64 22); exact quiet_rd (rd_22 s.a _ la)))
              rw [rot3_eq s.a 2 13 22 la, rnd_uq s la lb lc]
              have hbr2 := below_drewN' hbr1 nq
              have c1 : (W0.drewN nq).cell? ⟨gv, 1, none⟩ = some (.int .u32 (s.b : Int)) := d1
              have c2 : (W0.drewN nq).cell? ⟨gv, 2, none⟩ = some (.int .u32 (s.c : Int)) := d2
              have c3 : (W0.drewN nq).cell? ⟨gv, 3, none⟩ = some (.int .u32 (s.d : Int)) := d3
              have c5 : (W0.drewN nq).cell? ⟨gv, 5, none⟩ = some (.int .u32 (s.f : Int)) := d5
              have c6 : (W0.drewN nq).cell? ⟨gv, 6, none⟩ = some (.int .u32 (s.g : Int)) := d6
              clear hbr1 own1 d1 d2 d3 d5 d6
              generalize W0.drewN nq = W1 at *
              have hvs : gv < W1.heap.size := block_of_cell c1
              have e1 := World.new_ne W1 _ c1
              have e2 := World.new_ne W1 _ c2
              have e3 := World.new_ne W1 _ c3
              have e5 := World.new_ne W1 _ c5
              have e6 := World.new_ne W1 _ c6
              have hw1 := hbr2.size
              go_wp2_with fail
              go_region_held3 (fun W => W.cell? ⟨gv, 1, none⟩ = some (.int .u32 (s.b : Int)) ∧ W.cell? ⟨gv, 2, none⟩ = some (.int .u32 (s.c : Int)) ∧ W.cell? ⟨gv, 3, none⟩ = some (.int .u32 (s.d : Int)) ∧ W.cell? ⟨gv, 5, none⟩ = some (.int .u32 (s.f : Int)) ∧ W.cell? ⟨gv, 6, none⟩ = some (.int .u32 (s.g : Int))) (go_keep) (fail)
              first | rw [w_add, w_add] | rw [w_addq, w_addq]
              obtain ⟨T, hT⟩ : ∃ T, T = (rndT s k x + rndU s) % 4294967296 := ⟨_, rfl⟩
              obtain ⟨D, hD⟩ : ∃ D, D = (s.d + rndT s k x) % 4294967296 := ⟨_, rfl⟩
              have hrn : (rnd s k x).toL = [T, s.a, s.b, s.c, D, s.e, s.f, s.g] := by rw [hT, hD]; rfl
              rw [← hT, ← hD]
              have hr := World.ownsRow_lit (e := 136) (size := 1) (base := w.heap.size) W1 (uv [T, s.a, s.b, s.c, D, s.e, s.f, s.g]).toArray 8 (by omega) (by unfold maxLen; omega) (by simp [uv])
              have HRN := Lib.hid hrn
              clear hT hD hrn c1 c2 c3 c5 c6 e1 e2 e3 e5 e6
              go_wp2_with fail
              exact ⟨⟨i + 1, by omega, by go_num, by rw [HST.out, HRN.out]; exact hr, Below.drew (hbr2.alloc hw1 _)⟩, by simp [intOf]; omega⟩
            · have hi' : i = 64 := by omega
              obtain ⟨wy, rfl⟩ : ∃ wy : World, wy = wr := ⟨_, rfl⟩
              have t0 : decide ((i : Int) < 64) = false := by simp; omega
              rw [hi'] at hown
              obtain ⟨s, hs⟩ : ∃ s, s = stN v WW 64 := ⟨_, rfl⟩
              rw [← hs] at hown
              have hadd : add8 v s = compress v blk := by
                rw [hs]
                unfold stN
                rw [List.take_of_length_le (by rw [List.length_zip, LW.out]; decide), HWW.out]
                rfl
              have HADD := Lib.hid hadd
              have hcs : ∀ (j z : Nat), s.toL[j]? = some z → wy.cell? ⟨gv, j, none⟩ = some (.int .u32 (z : Int)) := fun j z hz => (hown.cellAt j (by have := (List.getElem?_eq_some_iff.1 hz).1; simp [V8.toL] at this; omega)).trans (uv_get _ _ hz)
              have hby := Below.next hb3 hbr
              have hch : ∀ (j y : Nat), v.toL[j]? = some y → wy.cell? ⟨gh, j, none⟩ = some (.int .u32 (y : Int)) := fun j y hy => (hby.cell hvl).trans (HVV.out j y hy)
              have HCS := Lib.hid hcs
              have HCH := Lib.hid hch
              have hwy := hby.size
              have hghy : gh < wy.heap.size := by omega
              clear hs hcs hch hown hi' hadd i1 hi64
              go_wp2_with fail
              go_loopw [17, 18] (fun ov iv wr => ∃ i : Nat, i ≤ 8 ∧ iv = .int .i64 i ∧ wr.ownsRow wy.heap.size 136 1 ov i (uv ((add8 v s).toL.take i)) ∧ Below wy.heap.size wy wr) (fun _ iv _ => 8 - (intOf iv).toNat)
              case atStart => exact ⟨0, by omega, rfl, World.ownsRow_nil _ _ _ 1, Below.refl _ _⟩
              case round =>
                clear hbr
                obtain ⟨i, i1, rfl, hown, hbr⟩ := hrel
                by_cases hi8 : i < 8
                · obtain ⟨y, hy⟩ : ∃ y, v.toL[i]? = some y := ⟨_, List.getElem?_eq_getElem (by simpa [V8.toL] using hi8)⟩
                  obtain ⟨z, hz⟩ : ∃ z, s.toL[i]? = some z := ⟨_, List.getElem?_eq_getElem (by simpa [V8.toL] using hi8)⟩
                  have cy : wr.cell? ⟨gh, i, none⟩ = some (.int .u32 (y : Int)) := (hbr.cell hghy).trans (HCH.out i y hy)
                  have cz : wr.cell? ⟨gv, i, none⟩ = some (.int .u32 (z : Int)) := (hbr.cell hv1).trans (HCS.out i z hz)
                  have hne1 : u17.ownBlock ≠ some gh := by
                    intro e
                    have := World.ownsRow_base hown e
                    omega
                  have hne2 : u17.ownBlock ≠ some gv := by
                    intro e
                    have := World.ownsRow_base hown e
                    omega
                  have hx := add8_get v s i y z hy hz
                  have htk : uv ((add8 v s).toL.take i) ++ [.int .u32 (((y + z) % 4294967296 : Nat) : Int)] = uv ((add8 v s).toL.take (i + 1)) := by rw [List.take_add_one, hx]; simp [uv]
                  have HTK := Lib.hid htk
                  have n0 : (0 : Int) ≤ (i : Int) := by omega
                  have n1 : (i : Int) < 8 := by omega
                  have t0 : decide ((i : Int) < 8) = true := by simp; omega
                  have hle := hbr.size
                  have hgw : gh < wr.heap.size := by omega
                  have hgw2 : gv < wr.heap.size := by omega
                  obtain ⟨Z, hZ⟩ : ∃ Z, Z = (y + z) % 4294967296 := ⟨_, rfl⟩
                  have hzz : IntKind.u32.wrap ((y : Int) + (z : Int)) = (Z : Int) := by rw [hZ]; exact w_add y z
                  have hzq : ((y : Int) + (z : Int)) % 4294967296 = (Z : Int) := by rw [hZ]; exact w_addq y z
                  rw [← hZ] at HTK
                  clear hx htk hy hz hZ
                  go_wp2_with fail
                  go_region_held3 (fun w' => w'.cell? ⟨gh, i, none⟩ = some (.int .u32 (y : Int)) ∧ w'.cell? ⟨gv, i, none⟩ = some (.int .u32 (z : Int)))
                    (first | go_keep | (go_split_ands; refine ⟨?_, ?_⟩ <;> first | (rw [g1.cell_far _ (by simp; omega) (Ne.symm hne1)]; assumption) | (rw [g1.cell_far _ (by simp; omega) (Ne.symm hne2)]; assumption)))
                    ((refine step_append_lies _ (by rfl) _ _ 137 (by rfl) wy.heap.size 136 i0 (.int .u32 0) 1 4 Tryz.underlying137 hi0 hz0 hz1 hz2 rfl (by decide) u17 i _ (by rfl) ((hown.alloc _).drew) ⟨wr.heap.size, 0, none⟩ 1 1 [.int .u32 (Z : Int)] (by rfl) (by rfl) (by first | (rw [← hzz]; exact cell_one_new _ _ _) | (rw [← hzq]; exact cell_one_new _ _ _) | exact cell_one_new _ _ _) (by simp [Value.oneCell']) (by decide) (by unfold maxLen; omega) (by omega) (by simp; omega) (wr.heap.size + 1) (by simp) ?_; intro gg cp w1 own1 g1 hat hlt))
                  have g2 := (⟨g1.os, g1.tape, g1.output, g1.size, g1.block⟩ : (wr.alloc _).grownBy w1 u17.ownBlock)
                  have hb1 := Below.appended hbr hle hown g2
                  rw [HTK.out] at own1
                  clear g1 g2 hown hbr cy cz hzz hzq
                  go_wp2_with fail
                  exact ⟨⟨i + 1, by omega, by go_num, own1, hb1⟩, by simp [intOf]; omega⟩
                · have t0 : decide ((i : Int) < 8) = false := by simp; omega
                  have hall : (add8 v s).toL.take i = (compress v blk).toL := by
                    rw [← HADD.out]
                    exact List.take_of_length_le (by simp [V8.toL]; omega)
                  have hi8 : i = 8 := by omega
                  rw [hall, hi8] at hown
                  have hfin := own_mono hown hwy
                  clear hown hall hi8 i1
                  go_wp2_with fail
                  go_ret
                  exact ⟨_, rfl, hfin, Below.next hby hbr⟩
end Go.Proofs.YtheebajklnljdaaGreatDoor
end

section
/- The reference's Sum. -/
namespace Go.Proofs.YtheebajklnljdaaGreatDoor
open Go Go.RowKit
attribute [local go_sem] Oper.semAt_some

theorem padL_blocks (l : List UInt8) : ∃ N, (padL l).length = 64 * N ∧ 1 ≤ N ∧ 64 * N ≤ l.length + 72 := by
  have h : (padL l).length = l.length + (1 + (119 - l.length % 64) % 64) + 8 := by
    unfold padL
    rw [List.length_append, List.length_append, List.length_cons, List.length_replicate, be8_len]
    omega
  exact ⟨(padL l).length / 64, by omega, by omega, by omega⟩

theorem outL_succ (V : V8) (i x : Nat) (h : V.toL[i]? = some x) : (outL V).take (4 * (i + 1)) = (outL V).take (4 * i) ++ be4L x := by
  have hi : i < 8 := (List.getElem?_eq_some_iff.1 h).1
  have h8 : i = 0 ∨ i = 1 ∨ i = 2 ∨ i = 3 ∨ i = 4 ∨ i = 5 ∨ i = 6 ∨ i = 7 := by omega
  rcases h8 with rfl | rfl | rfl | rfl | rfl | rfl | rfl | rfl <;> (simp [V8.toL] at h; subst h; rfl)
theorem outL_all (V : V8) : (outL V).take (4 * 8) = outL V := rfl

theorem byte_of (m : Nat) : (m : Int) % 256 = (((UInt8.ofNat m).toNat : Nat) : Int) := by
  rw [UInt8.toNat_ofNat', Int.natCast_emod]; rfl

set_option maxRecDepth 100000 in
set_option maxHeartbeats 8000000 in
theorem sumR_ok (s : ByteArray) (w : World) (hs : s.size ≤ 1000000) :
    Calls Tryz.prog 67 #[.string s] w fun e w' => e = .returned (.string (str (shaL s.data.toList))) ∧ Below w.heap.size w w' := by
  obtain ⟨i0, hi0, hz0, hz1, hz2⟩ := info_parts Tryz.infoU8
  obtain ⟨l, hl⟩ : ∃ l, l = s.data.toList := ⟨_, rfl⟩
  have ll : l.length = s.size := by rw [hl]; simp
  have hex := fun W => extended_ok s W hs
  rw [← hl] at hex ⊢
  obtain ⟨N, hN, hNp, hN2⟩ := padL_blocks l
  have hbs : bst (padL l) N = blocksN ((padL l).length / 64) iv (padL l) := by rw [bst_eq, hN]; congr 1; omega
  have hsh : shaL l = outL (bst (padL l) N) := by rw [hbs]; rfl
  rw [hsh]
  obtain ⟨p, hp⟩ : ∃ p, p = padL l := ⟨_, rfl⟩
  obtain ⟨n, hn⟩ : ∃ n, n = 64 * N := ⟨_, rfl⟩
  rw [← hp] at hex hN ⊢
  have hpn : p.length = n := by omega
  rw [hpn] at hex
  have hnb : n ≤ 1000100 := by omega
  obtain ⟨V, hV⟩ : ∃ V, V = bst p N := ⟨_, rfl⟩
  rw [← hV]
  have HV := Lib.hid hV
  have hVo : V8Ok V := by rw [hV]; exact bst_ok p N
  have HVO := Lib.hid hVo
  clear hVo hV
  have HPN := Lib.hid hpn
  have HEX := Lib.hid hex
  have HN := Lib.hid hn
  clear hex hN hN2 hbs hsh hp hn hpn hl ll hs
  go_enter Tryz.func67, Tryz.ntmps67
  go_wp2_with fail
  have hr := World.ownsRow_lit (e := 136) (size := 1) (base := w.heap.size) w (uv iv.toL).toArray 8 (Nat.le_refl _) (by unfold maxLen; omega) (by simp [uv, V8.toL])
  refine (HEX.out _).mono ?_
  rintro e w2 ⟨v2, rfl, own2, b2⟩
  have hr2 := ownsRow_below b2 hr
  have hb2 : Below w.heap.size w w2 := ((Below.refl w.heap.size w).alloc (Nat.le_refl _) _).trans (b2.mono (by rw [World.size_alloc]; omega))
  rw [World.size_alloc] at own2
  obtain ⟨o1, o2⟩ := id own2
  rcases o2 with ⟨-, h0⟩ | ⟨gp, cp, cur, rfl, hgb, hcur, hnc, hcm, -, -⟩
  · have hn0 := HN.out
    omega
  have hgp : gp < w2.heap.size := (Array.getElem?_eq_some_iff.1 hcur).1
  have hcm2 : cp ≤ 9223372036854775807 := by unfold maxLen at hcm; omega
  have OWN2 := Lib.hid own2
  clear own2 o1 hcur hcm b2 hr
  go_wp2_with fail
  go_loopw [3, 5] (fun hv iv wr => ∃ k : Nat, k ≤ N ∧ iv = .int .i64 ((64 * k : Nat) : Int) ∧ wr.ownsRow w.heap.size 136 1 hv 8 (uv (bst p k).toL) ∧ Below w2.heap.size w2 wr) (fun _ iv _ => n - (intOf iv).toNat)
  case atStart => exact ⟨0, by omega, rfl, hr2, Below.refl _ _⟩
  case round =>
    clear hr2
    obtain ⟨k, hk, rfl, hown, hb⟩ := hrel
    obtain ⟨K, hK⟩ : ∃ K, K = 64 * k := ⟨_, rfl⟩
    rw [← hK]
    obtain ⟨gh, ch, rfl, hg0, hg1⟩ := World.ownsRow.form hown (by omega)
    have hn := HN.out
    by_cases hkN : k < N
    · have t0 : decide (K < n) = true := by simp; omega
      obtain ⟨K2, hK2⟩ : ∃ K2, K2 = K + 64 := ⟨_, rfl⟩
      have e1 : (K : Int) + 64 = (K2 : Int) := by omega
      have q1 : (0 : Int) ≤ (K : Int) := by omega
      have q2 : (K : Int) ≤ (K2 : Int) := by omega
      have q3 : (K2 : Int) ≤ (cp : Int) := by omega
      have q4 : K2 - K = 64 := by omega
      have u1 : IntKind.i64.wrap (K2 : Int) = (K2 : Int) := IntWalk.i64_in _ (by omega)
      have hbl : ((p.drop K).take 64).length = 64 := by rw [List.length_take, List.length_drop, HPN.out]; omega
      have hbc : ∀ (j : Nat) (c : UInt8), ((p.drop K).take 64)[j]? = some c → wr.cell? ⟨gp, K + j, none⟩ = some (.int .u8 (c.toNat : Int)) := by
        intro j c hj
        have hj64 : j < 64 := by rw [← hbl]; exact (List.getElem?_eq_some_iff.1 hj).1
        rw [hb.cell hgp]
        rw [List.getElem?_take_of_lt hj64, List.getElem?_drop] at hj
        exact ownsRow_cell OWN2.out (K + j) _ (by unfold bv; rw [List.getElem?_map, hj]; rfl)
      have hst : bst p (k + 1) = compress (bst p k) ((p.drop K).take 64) := by rw [hK]; rfl
      have hblk := fun cc => block_ok gh ch (bst p k) (bst_ok p k) gp K cc ((p.drop K).take 64) wr hbl hbc (fun j x hj => (hown.cellAt j (by have := (List.getElem?_eq_some_iff.1 hj).1; simp [V8.toL] at this; omega)).trans (uv_get _ _ hj))
      rw [← hst] at hblk
      have HBLK := Lib.hid hblk
      have hK3 : K2 = 64 * (k + 1) := by omega
      have hK4 : n - K2 < n - K := by omega
      have hle := hb.size
      have hlw := hb2.size
      have HK3 := Lib.hid hK3
      clear hK hK2 hst hbl hbc hblk hn hK3 hown hg1
      go_wp2_with fail
      refine (HBLK.out _).mono ?_
      rintro e w4 ⟨v4, rfl, own4, b4⟩
      have own5 := own_mono own4 (Nat.le_trans hlw hle)
      have hb4 := Below.next hb b4
      go_wp2_with fail
      exact ⟨⟨k + 1, by omega, by rw [HK3.out], own5, hb4⟩, by simp [intOf]; omega⟩
    · have hkN' : k = N := by omega
      have t0 : decide (K < n) = false := by simp; omega
      obtain ⟨wz, rfl⟩ : ∃ wz : World, wz = wr := ⟨_, rfl⟩
      rw [hkN'] at hown
      rw [← HV.out] at hown
      have hcs : ∀ (j z : Nat), V.toL[j]? = some z → wz.cell? ⟨gh, j, none⟩ = some (.int .u32 (z : Int)) := fun j z hz => (hown.cellAt j (by have := (List.getElem?_eq_some_iff.1 hz).1; simp [V8.toL] at this; omega)).trans (uv_get _ _ hz)
      have HCS := Lib.hid hcs
      have hbz := Below.next hb2 hb
      clear hcs hown hK hkN hkN' hk hn
      go_wp2_with fail
      go_loopw [6, 7] (fun ov iv wr => ∃ i : Nat, i ≤ 8 ∧ iv = .int .i64 i ∧ wr.ownsRow wz.heap.size 5 1 ov (4 * i) (bv ((outL V).take (4 * i))) ∧ Below wz.heap.size wz wr) (fun _ iv _ => 8 - (intOf iv).toNat)
      case atStart => exact ⟨0, by omega, rfl, World.ownsRow_nil _ _ _ 1, Below.refl _ _⟩
      case round =>
        clear hb
        obtain ⟨i, i1, rfl, hown, hb⟩ := hrel
        by_cases hi8 : i < 8
        · obtain ⟨x, hx⟩ : ∃ x, V.toL[i]? = some x := ⟨_, List.getElem?_eq_getElem (by simpa [V8.toL] using hi8)⟩
          have cx : wr.cell? ⟨gh, i, none⟩ = some (.int .u32 (x : Int)) := (hb.cell hg1).trans (HCS.out i x hx)
          have hxl := HVO.out x (List.mem_of_getElem? hx)
          have hne1 : u6.ownBlock ≠ some gh := by
            intro e
            have := World.ownsRow_base hown e
            omega
          have hos := outL_succ V i x hx
          have hbs : bv ((outL V).take (4 * i)) ++ [.int .u8 ((x / 16777216 : Nat) % 256 : Int), .int .u8 ((x / 65536 : Nat) % 256 : Int), .int .u8 ((x / 256 : Nat) % 256 : Int), .int .u8 ((x : Nat) % 256 : Int)] = bv ((outL V).take (4 * (i + 1))) := by
            rw [hos, bv_append]
            congr 1
          have HBS := Lib.hid hbs
          have n0 : (0 : Int) ≤ (i : Int) := by omega
          have n1 : (i : Int) < 8 := by omega
          have t1 : decide ((i : Int) < 8) = true := by simp; omega
          have hle := hb.size
          have hgw : gh < wr.heap.size := by omega
          obtain ⟨I4, hI4⟩ : ∃ m, m = 4 * i := ⟨_, rfl⟩
          have e4 : 4 * (i + 1) = I4 + 4 := by omega
          rw [e4] at HBS
          rw [← hI4] at hown HBS
          have hI4b : I4 ≤ 28 := by omega
          have E4 := Lib.hid e4
          obtain ⟨X1, hX1⟩ : ∃ m, m = x / 16777216 := ⟨_, rfl⟩
          obtain ⟨X2, hX2⟩ : ∃ m, m = x / 65536 := ⟨_, rfl⟩
          obtain ⟨X3, hX3⟩ : ∃ m, m = x / 256 := ⟨_, rfl⟩
          have f1 : (x : Int) / 16777216 = (X1 : Int) := by omega
          have f2 : (x : Int) / 65536 = (X2 : Int) := by omega
          have f3 : (x : Int) / 256 = (X3 : Int) := by omega
          rw [← hX1, ← hX2, ← hX3] at HBS
          clear hx hos hbs hX1 hX2 hX3 hI4 e4
          go_wp2_with fail
          go_region_held3 (fun w' => w'.cell? ⟨gh, i, none⟩ = some (.int .u32 (x : Int)))
            (first | go_keep | (rw [g1.cell_far _ (by simp; omega) (Ne.symm hne1)]; assumption))
            ((refine step_append_lies _ (by rfl) _ _ 77 (by rfl) wz.heap.size 5 i0 (.int .u8 0) 1 1 Tryz.underlying77 hi0 hz0 hz1 hz2 rfl (by decide) u6 I4 _ (by rfl) ((hown.alloc _).drew) ⟨wr.heap.size, 0, none⟩ 4 4 [.int .u8 ((X1 : Int) % 256), .int .u8 ((X2 : Int) % 256), .int .u8 ((X3 : Int) % 256), .int .u8 ((x : Int) % 256)] (by rfl) (by rfl) (by simp only [IntKind.wrap_u8]; exact World.news_of_block (World.alloc_heap_new wr _)) (by simp [Value.oneCell']) (by decide) (by unfold maxLen; omega) (by omega) (by simp; omega) (wr.heap.size + 1) (by simp) ?_; intro gg cp9 w9 own9 g1 hat hlt))
          have g2 := (⟨g1.os, g1.tape, g1.output, g1.size, g1.block⟩ : (wr.alloc _).grownBy w9 u6.ownBlock)
          have hb1 := Below.appended hb hle hown g2
          rw [HBS.out] at own9
          clear g1 g2 hown hb cx f1 f2 f3
          go_wp2_with fail
          exact ⟨⟨i + 1, by omega, by go_num, by rw [E4.out]; exact own9, hb1⟩, by simp [intOf]; omega⟩
        · have t1 : decide ((i : Int) < 8) = false := by simp; omega
          have hi8' : i = 8 := by omega
          rw [hi8', outL_all] at hown
          have hcv := run_convert_own (P := Tryz.prog) 77 9 5 Tryz.underlying77 Tryz.underlying5 Tryz.underlying9 hown
          have hbf := Below.next hbz hb
          clear hown hi8' hi8 i1
          go_wp2_with fail
          go_ret
          exact ⟨rfl, hbf⟩
end Go.Proofs.YtheebajklnljdaaGreatDoor
end

section
/- The reference's Leaf, Node and Chain. -/
namespace Go.Proofs.YtheebajklnljdaaGreatDoor
open Go Go.RowKit
attribute [local go_sem] Oper.semAt_some

theorem cat_toList (a b : ByteArray) : (a ++ b).data.toList = a.data.toList ++ b.data.toList := by rw [append_eq]

theorem sumR_str (s : ByteArray) (l : List UInt8) (hl : s.data.toList = l) (w : World) (hs : l.length ≤ 1000000) :
    Calls Tryz.prog 67 #[.string s] w fun e w' => e = .returned (.string (str (shaL l))) ∧ Below w.heap.size w w' := by
  have h := sumR_ok s w (by have : s.data.toList.length = s.size := by simp
                            rw [hl] at this; omega)
  rw [hl] at h
  exact h

set_option maxRecDepth 100000 in
set_option maxHeartbeats 1000000 in
theorem leafR_ok (s : ByteArray) (w : World) (hs : s.size ≤ 900000) :
    Calls Tryz.prog 82 #[.string s] w fun e w' => e = .returned (.string (str (leafL s.data.toList))) ∧ Below w.heap.size w w' := by
  have hd : ∀ W, _ := fun W => sumR_str ((⟨#[0]⟩ : ByteArray) ++ s) (0 :: s.data.toList) (by rw [cat_toList]; rfl) W (by simp; omega)
  have HD := Lib.hid hd
  clear hd
  go_enter Tryz.func82, Tryz.ntmps82
  go_wp2_with fail
  refine (HD.out _).mono ?_
  rintro e w1 ⟨rfl, b1⟩
  go_wp2_with fail
  go_ret
  exact ⟨rfl, b1⟩

set_option maxRecDepth 100000 in
set_option maxHeartbeats 1000000 in
theorem nodeR_ok (s t : ByteArray) (w : World) (hs : s.size + t.size ≤ 900000) :
    Calls Tryz.prog 83 #[.string s, .string t] w fun e w' => e = .returned (.string (str (nodeL s.data.toList t.data.toList))) ∧ Below w.heap.size w w' := by
  have hd : ∀ W, _ := fun W => sumR_str ((⟨#[1]⟩ : ByteArray) ++ s ++ t) (1 :: (s.data.toList ++ t.data.toList)) (by rw [cat_toList, cat_toList]; rfl) W (by simp; omega)
  have HD := Lib.hid hd
  clear hd
  have c1 : ¬ 9223372036854775807 < 1 + s.size := by omega
  have c2 : ¬ 9223372036854775807 < 1 + s.size + t.size := by omega
  go_enter Tryz.func83, Tryz.ntmps83
  go_wp2_with fail
  refine (HD.out _).mono ?_
  rintro e w1 ⟨rfl, b1⟩
  go_wp2_with fail
  go_ret
  exact ⟨rfl, b1⟩

set_option maxRecDepth 100000 in
set_option maxHeartbeats 1000000 in
theorem chainR_ok (s t : ByteArray) (w : World) (hs : s.size + t.size ≤ 900000) :
    Calls Tryz.prog 60 #[.string s, .string t] w fun e w' => e = .returned (.string (str (chainL s.data.toList t.data.toList))) ∧ Below w.heap.size w w' := by
  have hd : ∀ W, _ := fun W => sumR_str ((⟨#[2]⟩ : ByteArray) ++ s ++ t) (2 :: (s.data.toList ++ t.data.toList)) (by rw [cat_toList, cat_toList]; rfl) W (by simp; omega)
  have HD := Lib.hid hd
  clear hd
  have c1 : ¬ 9223372036854775807 < 1 + s.size := by omega
  have c2 : ¬ 9223372036854775807 < 1 + s.size + t.size := by omega
  go_enter Tryz.func60, Tryz.ntmps60
  go_wp2_with fail
  refine (HD.out _).mono ?_
  rintro e w1 ⟨rfl, b1⟩
  go_wp2_with fail
  go_ret
  exact ⟨rfl, b1⟩
end Go.Proofs.YtheebajklnljdaaGreatDoor
end

