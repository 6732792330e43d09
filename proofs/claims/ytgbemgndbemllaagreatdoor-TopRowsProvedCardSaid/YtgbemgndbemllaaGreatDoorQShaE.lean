/- Sum: the string is padded, cut into blocks, and the words are digested. -/
import Derived.Test.YtgbemgndbemllaaGreatDoorGd
import Derived.Test.YtgbemgndbemllaaGreatDoorQAppF
import Derived.Test.YtgbemgndbemllaaGreatDoorGe
import Derived.Outline
namespace Go.Proofs.YtgbemgndbemllaaGreatDoor
open Go Go.RowKit
attribute [local go_sem] Oper.semAt_some

theorem Tryz.infoU8 : (Tryz.prog.info? 5).map (fun i => (i.zero, i.size, i.bytes)) = some (some (.int .u8 0), 1, 1) := by kernel_rfl

theorem info_u8 : ∃ i, Tryz.prog.info? 5 = some i ∧ i.zero = some (.int .u8 0) ∧ i.size = 1 ∧ i.bytes = 1 := by
  obtain ⟨i0, hi, hz0, hz1, hz2⟩ := info_parts Tryz.infoU8
  exact ⟨i0, hi, hz0, hz1, hz2⟩

/-- the length of a slice -/
def lenOf : Value → Nat
  | .slice _ n _ => n
  | _ => 0

theorem zeros_snoc (l : List UInt8) (k : Nat) : l ++ (128 :: List.replicate k 0) ++ [0] = l ++ (128 :: List.replicate (k + 1) 0) := by
  rw [List.replicate_succ', List.append_assoc, List.cons_append]

theorem be8_len (n : Nat) : (be8 n).length = 8 := rfl
theorem be8_get (n j : Nat) (hj : j < 8) : (be8 n)[j]? = some (UInt8.ofNat (n / 2 ^ (8 * (7 - j)))) := by
  have h : j = 0 ∨ j = 1 ∨ j = 2 ∨ j = 3 ∨ j = 4 ∨ j = 5 ∨ j = 6 ∨ j = 7 := by omega
  rcases h with rfl | rfl | rfl | rfl | rfl | rfl | rfl | rfl <;> rfl
theorem be8_snoc (P : List UInt8) (n j : Nat) (hj : j < 8) : P ++ (be8 n).take j ++ [UInt8.ofNat (n / 2 ^ (8 * (7 - j)))] = P ++ (be8 n).take (j + 1) := by
  rw [List.take_add_one, be8_get n j hj, List.append_assoc]; rfl

/-- the words after k blocks -/
def bst (p : List UInt8) : Nat → V8
  | 0 => iv
  | k + 1 => compress (bst p k) ((p.drop (64 * k)).take 64)

theorem blocksN_snoc : ∀ (n : Nat) (h : V8) (p : List UInt8), blocksN (n + 1) h p = compress (blocksN n h p) ((p.drop (64 * n)).take 64)
  | 0, h, p => by simp [blocksN]
  | n + 1, h, p => by
    show blocksN (n + 1) (compress h (p.take 64)) (p.drop 64) = _
    rw [blocksN_snoc n, List.drop_drop]
    show compress (blocksN n (compress h (p.take 64)) (p.drop 64)) _ = compress (blocksN n (compress h (p.take 64)) (p.drop 64)) _
    rw [show 64 + 64 * n = 64 * (n + 1) by omega]
theorem bst_eq (p : List UInt8) : ∀ n, bst p n = blocksN n iv p
  | 0 => rfl
  | n + 1 => by rw [blocksN_snoc, ← bst_eq p n]; rfl
theorem iv_ok : V8Ok iv := by unfold V8Ok; decide
theorem add8_ok (h v : V8) : V8Ok (add8 h v) := by
  intro y hy
  simp only [V8.toL, add8, List.mem_cons, List.not_mem_nil, or_false] at hy
  rcases hy with rfl | rfl | rfl | rfl | rfl | rfl | rfl | rfl <;> exact Nat.mod_lt _ (by omega)
theorem bst_ok (p : List UInt8) : ∀ n, V8Ok (bst p n)
  | 0 => iv_ok
  | _ + 1 => add8_ok _ _

/-- between two rounds of Sum's loop over the blocks -/
structure SumJ (W1 : World) (rec : Loop) (hb L : Nat) (p : List UInt8) (k : Nat) (W : World) : Prop where
  rl : W.heap[L]? = some (.loop rec)
  blk : BlkIs W hb 169 (uv (bst p k).toL)
  os : W.os = W1.os
  tape : W.tape = W1.tape
  output : W.output = W1.output
  size : W1.heap.size ≤ W.heap.size
  block : ∀ b, b < W1.heap.size → b ≠ hb → b ≠ L → W.heap[b]? = W1.heap[b]?

theorem SumJ.other {W1 : World} {rec : Loop} {hb L : Nat} {p : List UInt8} {k : Nat} {W : World} (h : SumJ W1 rec hb L p k W) {b : Nat} {t : TypeId} {cs : List Value} (hk : BlkIs W1 b t cs) (h1 : b ≠ hb) (h2 : b ≠ L) : BlkIs W b t cs := (h.block b hk.lt h1 h2).trans hk
theorem SumJ.round {W1 : World} {rec : Loop} {hb L : Nat} {p : List UInt8} {k : Nat} {W : World} (h : SumJ W1 rec hb L p k W) (hr : RoundOk W1) (h1 : 0 ≠ hb) (h2 : 0 ≠ L) : RoundOk W := by
  have hl := hr.lt
  obtain ⟨t, fr, hr⟩ := hr
  exact ⟨t, fr, (h.block _ hl h1 h2).trans hr⟩
theorem SumJ.cell {W1 : World} {rec : Loop} {hb L : Nat} {p : List UInt8} {k : Nat} {W : World} (h : SumJ W1 rec hb L p k W) {a : Addr} {v : Value} (hc : W1.cell? a = some v) (h1 : a.block ≠ hb) (h2 : a.block ≠ L) : W.cell? a = some v :=
  (World.cell?_of_block (h.block a.block (block_of_cell hc) h1 h2)).trans hc
theorem SumJ.below {W1 w : World} {rec : Loop} {hb L : Nat} {p : List UInt8} {k : Nat} {W : World} (h : SumJ W1 rec hb L p k W) (hw : Below w.heap.size w W1) (h1 : w.heap.size ≤ hb) (h2 : w.heap.size ≤ L) : Below w.heap.size w W :=
  ⟨h.os.trans hw.os, h.tape.trans hw.tape, h.output.trans hw.output, Nat.le_trans hw.size h.size, fun b hb' => (h.block b (Nat.lt_of_lt_of_le hb' hw.size) (by omega) (by omega)).trans (hw.block b hb')⟩
theorem SumJ.busy {W1 : World} {r0 r1 : Loop} {hb L : Nat} {p : List UInt8} {k : Nat} {W : World} (h : SumJ W1 r0 hb L p k W) (hl : hb ≠ L) : SumJ W1 r1 hb L p k (W.putObj L (.loop r1)) :=
  ⟨World.putObj_heap_same (cellsBlock_size h.rl), (World.putObj_heap_other hl).trans h.blk, h.os, h.tape, h.output, Nat.le_trans h.size (grownBy_putObj' W L _).size, fun b hb1 hb2 hb3 => (World.putObj_heap_other hb3).trans (h.block b hb1 hb2 hb3)⟩
theorem SumJ.step {W1 : World} {r0 : Loop} {hb L : Nat} {p : List UInt8} {k : Nat} {W W' : World} (h : SumJ W1 r0 hb L p k W) (hl : hb ≠ L) (hu : Upd hb W W') (hn : BlkIs W' hb 169 (uv (bst p (k + 1)).toL)) : SumJ W1 r0 hb L p (k + 1) W' :=
  ⟨(hu.block L (cellsBlock_size h.rl) (Ne.symm hl)).trans h.rl, hn, hu.os.trans h.os, hu.tape.trans h.tape, hu.output.trans h.output, Nat.le_trans h.size hu.size, fun b hb1 hb2 hb3 => (hu.block b (Nat.lt_of_lt_of_le hb1 h.size) hb2).trans (h.block b hb1 hb2 hb3)⟩

set_option maxRecDepth 100000 in
set_option maxHeartbeats 4000000 in
theorem sum_ok (s : ByteArray) (w : World) (hs : s.size ≤ 1000000) (hR : RoundOk w) :
    Calls Tryz.prog 58 #[.string s] w fun e w' => e = .returned (.string ⟨(shaL s.data.toList).toArray⟩) ∧ Below w.heap.size w w' := by
  obtain ⟨i0, hi, hz0, hz1, hz2⟩ := info_u8
  have hcv := fun W => run_bytes_of_string (P := Tryz.prog) W 9 113 5 s Tryz.underlying9 Tryz.underlying113 Tryz.underlying5
  obtain ⟨l, hl⟩ : ∃ l, l = s.data.toList := ⟨_, rfl⟩
  have ll : l.length = s.size := by rw [hl]; simp
  rw [← hl]
  have HL := Lib.hid hl
  have LL := Lib.hid ll
  clear hl ll
  refine (callsIn_wide (n := 3)).1 ?_
  refine callsIn_of_wp_marks Tryz.func58 rfl trivial ?_ rfl
  simp only [Tryz.ntmps58, List.size_toArray, List.length_cons, List.length_nil, Nat.reduceAdd, Nat.reduceSub, Array.replicate_succ, Array.replicate_zero, List.push_toArray, List.append_toArray, List.nil_append, List.cons_append]
  refine wpIn_wide.2 ?_
  go_upto_region 2 with fail
  generalize hw1 : World.alloc w _ = w1
  have h1 : BlkIs w1 w.heap.size 169 (uv iv.toL) := by rw [← hw1]; exact BlkIs.new _ _ _
  have b1 : Below w.heap.size w w1 := by rw [← hw1]; exact (Below.refl _ w).alloc (Nat.le_refl _) _
  have R1 : RoundOk w1 := by rw [← hw1]; exact hR.alloc _
  have hle1 : w.heap.size < w1.heap.size := BlkIs.lt h1
  clear hw1 hR
  obtain ⟨cap, hcap⟩ : ∃ cap, cap = grownCap w1 s.size 0 5 := ⟨_, rfl⟩
  obtain ⟨w2, hw2⟩ : ∃ w2, w2 = w1.drew.alloc (.cells (bytesRow s cap) 5 ((bytesRow s cap).size, (bytesRow s cap).size + 1)) := ⟨_, rfl⟩
  have hcv1 := hcv w1
  rw [← hcap, ← hw2] at hcv1
  have hge : s.size ≤ cap := by rw [hcap]; exact grownCap_ge _ _ _ _
  have hcm : cap ≤ maxLen := by rw [hcap]; exact grownCap_le_maxLen _ _ _ _ (by unfold maxLen; omega)
  have hsz : (bytesRow s cap).size = cap := by
    rw [← Array.length_toList, bytesRow_eq, List.length_append, bv_length, List.length_replicate]
    have := len_data s
    omega
  have own2 : OwnF w2 w1.heap.size 5 (.slice (some ⟨w1.heap.size, 0, none⟩) s.size cap) l := by
    refine ⟨w1.heap.size, cap, List.replicate (cap - s.size) (.int .u8 0), (cap, cap + 1), by rw [LL.out], Nat.le_refl _, ?_, by rw [LL.out]; exact hge, by rw [LL.out, List.length_replicate]; omega, hcm, .inr (Nat.le_refl _)⟩
    rw [HL.out, ← bytesRow_eq, hw2, hsz]
    exact World.alloc_heap_new w1.drew _
  have b2 : Below w1.heap.size w1 w2 := by rw [hw2]; exact ((Below.refl _ w1).drew).alloc (Nat.le_refl _) _
  clear hcv hcap hw2 hge hcm hsz
  go_wp2_with (first
    | (at_builtin; refine wpList_append_byte rfl _ _ 113 rfl w1.heap.size 5 i0 Tryz.underlying113 hi hz0 hz1 hz2 (.slice (some ⟨w1.heap.size, 0, none⟩) s.size cap) l rfl (own2.alloc _) ⟨w2.heap.size, 0, none⟩ 128 rfl (by simp) rfl (by have := LL.out; omega) (by have := b2.size; simp; omega) ?_; intro v3 w3 own3 g3))
  have b3 : Below w1.heap.size w1 w3 := OwnF.below b2 own2 (Nat.le_refl _) b2.size g3
  clear g3 own2 b2 hcv1
  obtain ⟨zc, hzc⟩ : ∃ zc, zc = (119 - s.size % 64) % 64 := ⟨_, rfl⟩
  have own4 : OwnF w3 w1.heap.size 5 v3 (l ++ (128 :: List.replicate 0 0)) := own3
  have hzlt : zc < 64 := by omega
  clear own3
  go_loopw [4] (fun v wr => ∃ k : Nat, k ≤ zc ∧ OwnF wr w1.heap.size 5 v (l ++ (128 :: List.replicate k 0)) ∧ Below w1.heap.size w1 wr) (fun v _ => zc + s.size + 1 - lenOf v)
  case atStart => exact ⟨0, by omega, own4, b3⟩
  case round =>
    clear own4 b3
    obtain ⟨k, hk, own, hb⟩ := hrel
    obtain ⟨m, hm⟩ : ∃ m, m = s.size + 1 + k := ⟨_, rfl⟩
    have hlen : (l ++ (128 :: List.replicate k 0) : List UInt8).length = m := by
      rw [List.length_append, List.length_cons, List.length_replicate, LL.out]; omega
    obtain ⟨g, cp, hv, hg1, hg2, hg3, hg4⟩ := own.slice
    rw [hlen] at hv hg3
    subst hv
    unfold maxLen at hg4
    have hle := hb.size
    by_cases hkz : k < zc
    · have t0 : ((m : Int) % 64 != 56) = true := by rw [bne_iff_ne]; omega
      have HM := Lib.hid hm
      have HLEN := Lib.hid hlen
      have HZ := Lib.hid hzc
      clear hm hlen hzc
      go_wp2_with (first
        | (at_builtin; refine wpList_append_byte rfl _ _ 113 rfl w1.heap.size 5 i0 Tryz.underlying113 hi hz0 hz1 hz2 (.slice (some ⟨g, 0, none⟩) m cp) (l ++ (128 :: List.replicate k 0)) rfl (own.alloc _) ⟨wr.heap.size, 0, none⟩ 0 rfl (by simp) rfl (by have := HLEN.out; have := HM.out; omega) (by simp; omega) ?_; intro v5 w5 own5 g5))
      have b5 : Below w1.heap.size w1 w5 := OwnF.below hb own (Nat.le_refl _) hle g5
      have hl5 : (l ++ (128 :: List.replicate k 0) ++ [0] : List UInt8).length = m + 1 := by rw [List.length_append, HLEN.out]; rfl
      obtain ⟨g', cp', hv', -⟩ := own5.slice
      rw [hl5] at hv'
      rw [zeros_snoc] at own5
      have hmm := HM.out
      exact ⟨⟨k + 1, by omega, own5, b5⟩, by rw [hv']; simp only [lenOf]; omega⟩
    · have hk' : k = zc := by omega
      have t0 : ((m : Int) % 64 != 56) = false := by rw [bne_eq_false_iff_eq]; omega
      obtain ⟨wz, rfl⟩ : ∃ wz : World, wz = wr := ⟨_, rfl⟩
      obtain ⟨P, hP⟩ : ∃ P, P = l ++ (128 :: List.replicate zc 0) := ⟨_, rfl⟩
      have ownP : OwnF wz w1.heap.size 5 (.slice (some ⟨g, 0, none⟩) m cp) (P ++ (be8 (8 * s.size)).take 0) := by
        rw [List.take_zero, List.append_nil, hP, ← hk']; exact own
      have lP : P.length = m := by rw [hP, ← hk']; exact hlen
      have hmb : m ≤ 1000064 := by omega
      have hpad : P ++ be8 (8 * s.size) = padL l := by
        unfold padL
        rw [hP, LL.out, hzc]
      have HPAD := Lib.hid hpad
      have LP := Lib.hid lP
      clear hP lP hk' hm hlen hzc own hpad hkz hk hzlt
      have hm64 : m % 64 = 56 := by
        have := t0
        rw [bne_eq_false_iff_eq] at this
        omega
      go_wp2_with fail
      go_loopw [4, 5] (fun v iv wr => ∃ (j : Nat) (i : Int), j ≤ 8 ∧ (j : Int) + i ≤ 7 ∧ 7 ≤ (j : Int) + i ∧ iv = .int .i64 i ∧ OwnF wr w1.heap.size 5 v (P ++ (be8 (8 * s.size)).take j) ∧ Below w1.heap.size w1 wr) (fun _ iv _ => (intOf iv + 1).toNat)
      case atStart => exact ⟨0, 7, by omega, by omega, by omega, rfl, ownP, hb⟩
      case round =>
        clear ownP hb
        obtain ⟨j, i, hj, hj1, hj2, rfl, own, hb⟩ := hrel
        have hle2 := hb.size
        have hlen : (P ++ (be8 (8 * s.size)).take j).length = m + j := by
          rw [List.length_append, List.length_take, be8_len, LP.out]; omega
        obtain ⟨g', cp', hv, hg1', hg2', hg3', hg4'⟩ := own.slice
        unfold maxLen at hg4'
        obtain ⟨mj, hmj⟩ : ∃ mj, mj = m + j := ⟨_, rfl⟩
        rw [hlen, ← hmj] at hv hg3'
        subst hv
        have HLEN := Lib.hid hlen
        have HMJ := Lib.hid hmj
        clear hlen hmj
        by_cases hj8 : j < 8
        · obtain ⟨S, hS⟩ : ∃ S : Nat, S = 8 * (7 - j) := ⟨_, rfl⟩
          obtain ⟨M, hM⟩ : ∃ M : Nat, M = 8 * s.size := ⟨_, rfl⟩
          have e8 : (8 : Int) * i = (S : Int) := by omega
          have eM : (8 : Int) * (s.size : Int) = (M : Int) := by omega
          have nS : (0 : Int) ≤ (S : Int) := by omega
          have nS2 : (S : Int) < 64 := by omega
          have nM : (M : Int) ≤ 8000000 := by omega
          have hby : (M : Int) / 2 ^ S % 256 = ((UInt8.ofNat (M / 2 ^ S)).toNat : Int) := by
            rw [UInt8.toNat_ofNat', Int.natCast_emod, Int.natCast_ediv, Int.natCast_pow]
            rfl
          have hsn := be8_snoc P (8 * s.size) j hj8
          rw [← hM, ← hS] at hsn
          rw [← hM] at own
          have HSN := Lib.hid hsn
          have HM := Lib.hid hM
          have t1 : decide (0 ≤ i) = true := by simp; omega
          generalize UInt8.ofNat (M / 2 ^ S) = c at *
          clear hsn hM hS
          go_wp2_with (first
            | (at_builtin; refine wpList_append_byte rfl _ _ 113 rfl w1.heap.size 5 i0 Tryz.underlying113 hi hz0 hz1 hz2 (.slice (some ⟨g', 0, none⟩) mj cp') (P ++ (be8 M).take j) rfl (own.alloc _) ⟨wr.heap.size, 0, none⟩ c rfl (by simp) rfl (by have := HLEN.out; rw [← HM.out] at this; omega) (by simp; omega) ?_; intro v5 w5 own5 g5))
          have b5 : Below w1.heap.size w1 w5 := OwnF.below hb own (Nat.le_refl _) hle2 g5
          rw [HSN.out, HM.out] at own5
          exact ⟨⟨j + 1, i - 1, by omega, by omega, by omega, rfl, own5, b5⟩, by simp [intOf]; omega⟩
        · have hj' : j = 8 := by omega
          have t1 : decide (0 ≤ i) = false := by simp; omega
          have ownL : OwnF wr w1.heap.size 5 (.slice (some ⟨g', 0, none⟩) mj cp') (padL l) := by
            have h := own
            rw [hj', List.take_of_length_le (Nat.le_of_eq (be8_len _)), HPAD.out] at h
            exact h
          have hmj8 : mj % 64 = 0 := by have := HMJ.out; omega
          have hlp : (padL l).length = mj := by
            have := HLEN.out
            rw [hj', List.take_of_length_le (Nat.le_of_eq (be8_len _)), HPAD.out] at this
            rw [this, HMJ.out, hj']
          clear own hj' hj hj1 hj2
          have HLP := Lib.hid hlp
          clear hlp
          go_wp2_with fail
          refine (chunk_ok _ mj cp' _).mono ?_
          rintro e w6 ⟨rfl, rfl⟩
          have hdata : ∀ (j : Nat) (c : UInt8), (padL l)[j]? = some c → wr.cell? ⟨g', j, none⟩ = some (.int .u8 (c.toNat : Int)) := by
            intro j c hc
            obtain ⟨g2, cap2, cs, fr, hv, _, hblk, _⟩ := ownL
            injection hv with e1 _ _
            injection e1 with e1
            injection e1 with e1 _ _
            subst e1
            rw [hblk.cell, List.getElem?_append_left (by rw [bv_length]; exact (List.getElem?_eq_some_iff.1 hc).1)]
            simp [bv, hc]
          have hwd : BlkIs wr w.heap.size 169 (uv (bst (padL l) 0).toL) := h1.below hb hle1
          have hRw : RoundOk wr := R1.later hb
          have hbw : Below w.heap.size w wr := b1.trans (hb.mono (by omega))
          have hlw : w1.heap.size ≤ wr.heap.size := hb.size
          have HD := Lib.hid hdata
          clear hdata ownL h1 b1 R1 hb
          go_wp2_with fail
          refine (wpIn_wide (n := 3)).1 ?_
          refine rangeFunc_raw rfl (by omega) (gf := 113) (lb := #[.pointer (some ⟨wr.heap.size, 0, none⟩), .pointer (some ⟨wr.heap.size + 1, 0, none⟩)]) rfl trivial (enters_of Tryz.func113 (by kernel_rfl) rfl) ?_
          intro fn hfn rec D L W1 hrec hD hL hW1
          obtain ⟨K, hK⟩ : ∃ K, mj = 64 * K := ⟨mj / 64, by omega⟩
          have hs1 : W1.heap.size = wr.heap.size + 4 := by rw [hW1]; simp
          have hD2 : D = wr.heap.size + 2 := by rw [hD]; simp
          have hL2 : L = wr.heap.size + 3 := by omega
          have bw1 : Below wr.heap.size wr W1 := by
            rw [hW1]
            exact ((((Below.refl _ wr).alloc (Nat.le_refl _) _).alloc (by simp) _).alloc (by simp; omega) _).alloc (by simp; omega) _
          have x1 : BlkIs W1 wr.heap.size 113 [.slice (some ⟨g', 0, none⟩) mj cp'] := by rw [hW1]; exact (((BlkIs.new wr _ _).alloc _).alloc _).alloc _
          have x2 : BlkIs W1 (wr.heap.size + 1) 3 [.int .i64 64] := by
            have h := BlkIs.new (wr.alloc (.cells #[.slice (some ⟨g', 0, none⟩) mj cp'] 113)) 3 #[.int .i64 64]
            rw [World.size_alloc] at h
            rw [hW1]; exact (h.alloc _).alloc _
          have lL : W1.heap[L]? = some (.loop (rec .ready none)) := by rw [hW1]; exact alloc_new_at _ _ _ (by rw [hL2]; simp)
          have dD : W1.heap[D]? = some (.deferred (some [])) := by
            rw [hW1]
            exact (Below.heap_alloc _ _ _ (by rw [hD2]; simp)).trans (alloc_new_at _ _ _ (by rw [hD2]; simp))
          have wd1 := hwd.later bw1
          have RW1 := hRw.later bw1
          have bel1 : Below w.heap.size w W1 := Below.next hbw bw1
          have dat1 : ∀ (j : Nat) (c : UInt8), (padL l)[j]? = some c → W1.cell? ⟨g', j, none⟩ = some (.int .u8 (c.toNat : Int)) := fun j c hc => (bw1.cell (block_of_cell (HD.out j c hc))).trans (HD.out j c hc)
          have hRlt := hRw.lt
          have hrd : 0 ≠ w.heap.size := by
            intro e
            obtain ⟨t, fr, h⟩ := hRw
            have h2 := hwd
            rw [← e] at h2
            have := (show wr.heap[ 0 ]? = _ from h2).symm.trans h
            simp [uv, V8.toL, k256] at this
          have j0 : SumJ W1 (rec .ready none) w.heap.size L (padL l) 0 W1 := ⟨lL, wd1, rfl, rfl, rfl, Nat.le_refl _, fun _ _ _ _ => rfl⟩
          have HREC := Lib.hid hrec
          clear hrec hW1 hD hL hwd hRw
          refine (chunk1_in (3 - 1) (by omega) L wr.heap.size (wr.heap.size + 1) g' mj cp' K hK hg3' (by omega) (SumJ W1 (rec .ready none) w.heap.size L (padL l)) ?hbox ?hdr ?hY W1 j0).mono ?hend
          case hbox =>
            intro k W hJ
            exact ⟨(hJ.other x1 (by omega) (by omega)).cell 0, (hJ.other x2 (by omega) (by omega)).cell 0⟩
          case hdr =>
            intro k W hJ
            exact ⟨hJ.rl, hJ.blk, hJ.os, hJ.tape, hJ.output, hJ.size, hJ.block⟩
          case hY =>
            intro k W hk hJ
            refine yield_raw hfn HREC.out hJ.rl rfl ?_
            have hlenp : (padL l).length = 64 * K := HLP.out.trans hK
            have hgL : g' ≠ L := by omega
            have hgh : g' ≠ w.heap.size := by omega
            have hLh : w.heap.size ≠ L := by omega
            have hrL : 0 ≠ L := by omega
            have hbl : (((padL l).drop (64 * k)).take 64).length = 64 := by
              rw [List.length_take, List.length_drop, hlenp]; omega
            have HBL := Lib.hid hbl
            have HLN := Lib.hid hlenp
            clear hbl hlenp hs1 hD2 hL2 hK
            simp only [List.zip_toArray, List.zip_cons_cons, List.zip_nil_right, List.foldl_toArray', List.foldl_cons, List.foldl_nil, List.setIfInBounds_toArray, List.set]
            gi_wp2
            refine ⟨hJ.rl, ?_⟩
            have hJ2 := hJ.busy (r1 := rec .busy none) hLh
            generalize W.putObj L (.loop (rec .busy none)) = W2 at *
            gi_wp2
            refine ⟨trivial, ?_⟩
            refine (CallsIn.inRound L (callsIn_wide.2 (add_ok W2 w.heap.size (bst (padL l) k) hJ2.blk (bst_ok _ _) g' (64 * k) 64 (((padL l).drop (64 * k)).take 64) HBL.out ?_ (hJ2.round RW1 hrd hrL)))).mono ?_
            · intro j c hc
              have hj : j < 64 := by have h1 := (List.getElem?_eq_some_iff.1 hc).1; rw [HBL.out] at h1; exact h1
              rw [List.getElem?_take, if_pos hj, List.getElem?_drop] at hc
              exact hJ2.cell (a := ⟨g', 64 * k + j, none⟩) (dat1 _ _ hc) hgh hgL
            · rintro e W3 ⟨rfl, hn, hu⟩
              have hJ3 := hJ2.step hLh hu hn
              gi_wp2
              exact roundPost_normal HREC.out hJ3.rl ⟨rfl, hJ3.busy hLh⟩
          case hend =>
            rintro e W2 ⟨⟨v, rfl⟩, hJ⟩
            refine ⟨⟨v, rfl⟩, .ready, none, (fun h => by cases h), hJ.rl, ?_⟩
            have hLh : w.heap.size ≠ L := by omega
            have hJ4 := hJ.busy (r1 := rec .exhausted none) hLh
            have hbel4 := hJ4.below bel1 (Nat.le_refl _) (by omega)
            have hdd : (W2.putObj L (.loop (rec .exhausted none))).heap[D]? = some (.deferred (some [])) := (hJ4.block D (by omega) (by omega) (by omega)).trans dD
            have hblk := hJ4.blk
            have hsha : outL (bst (padL l) K) = shaL l := by
              rw [bst_eq]
              unfold shaL
              rw [HLP.out, hK, Nat.mul_div_cancel_left _ (by omega)]
            have hDw : w.heap.size ≤ D := by omega
            clear hJ hJ4 hs1 hD2 hL2 hK
            generalize W2.putObj L (.loop (rec .exhausted none)) = W4 at *
            have HSHA := Lib.hid hsha
            clear hsha
            simp only [rfAct]
            have i8 := info8 (l := (bst (padL l) K).toL) rfl
            go_wp2_with (first
              | (refine wpList_load_row rfl 169 (.tmp 3) rfl w.heap.size rfl 169 (uv (bst (padL l) K).toL).toArray (0, 0) _ hblk Tryz.underlying169 rfl i8 ?_))
            refine (digest_ok (bst (padL l) K) (bst_ok _ _) W4).mono ?_
            rintro e W5 ⟨rfl, b5⟩
            rw [HSHA.out]
            have hdd5 := (b5.block D (cellsBlock_size hdd)).trans hdd
            have b45 := Below.next hbel4 b5
            go_wp2_with fail
            refine ⟨by simp, .inl ⟨_, _, rfl, run_takeDeferred hdd5, ?_⟩⟩
            refine ⟨_, results_tmp (t := 2) rfl _ _ _, ?_⟩
            exact ⟨rfl, below_putObj b45 _ hDw b45.size⟩
end Go.Proofs.YtgbemgndbemllaaGreatDoor
