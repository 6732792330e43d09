/- The walk of WireSumBurst. -/
import Derived.Test.YtflnbhhgdlehbaaDoorL7W
import Derived.Test.YtflnbhhgdlehbaaDoorCrcR
namespace Go.Proofs.YtflnbhhgdlehbaaDoor
open Go Go.RowKit

/-- Block g is just the cells cs of type t, frozen where fr says. -/
def BlkF (w : World) (g : Nat) (t : TypeId) (cs : List Value) (fr : Nat × Nat) : Prop := w.heap[g]? = some (.cells cs.toArray t fr)
theorem BlkF.cell {w : World} {g : Nat} {t : TypeId} {cs : List Value} {fr : Nat × Nat} (h : BlkF w g t cs fr) (i : Nat) : w.cell? ⟨g, i, none⟩ = cs[i]? := by
  simp [World.cell?, show w.heap[g]? = _ from h]
theorem BlkF.frozen {w : World} {g : Nat} {t : TypeId} {cs : List Value} {fr : Nat × Nat} (h : BlkF w g t cs fr) (i : Nat) (hi : i < fr.1) : w.frozen? ⟨g, i, none⟩ = false := by
  obtain ⟨lo, hi'⟩ := fr
  simp only at hi
  have : decide (lo ≤ i) = false := by simp; omega
  simp [World.frozen?, show w.heap[g]? = _ from h, this]
theorem BlkF.set {w : World} {g : Nat} {t : TypeId} {cs : List Value} {fr : Nat × Nat} (h : BlkF w g t cs fr) (i : Nat) (u : Value) : BlkF (w.setCell ⟨g, i, none⟩ u) g t (cs.set i u) fr := by
  obtain ⟨hlt, hk⟩ := Array.getElem?_eq_some_iff.1 h
  show (w.heap.modify g _)[g]? = _
  rw [Array.getElem?_eq_getElem (by rw [Array.size_modify]; exact hlt), Array.getElem_modify_self, hk]
  simp
theorem BlkF.drew {w : World} {g : Nat} {t : TypeId} {cs : List Value} {fr : Nat × Nat} (h : BlkF w g t cs fr) : BlkF w.drew g t cs fr := h
theorem BlkF.drewN {w : World} {g : Nat} {t : TypeId} {cs : List Value} {fr : Nat × Nat} (h : BlkF w g t cs fr) (n : Nat) : BlkF (w.drewN n) g t cs fr := h

theorem run_convert_blkF {P : Program} {w : World} {g cap : Nat} {t : TypeId} {l : List UInt8} {more : List Value} {fr : Nat × Nat} (src dst e : TypeId) (hs : P.underlying src = some (.slice e)) (he : P.underlying e = some (.int .u8)) (hd : P.underlying dst = some .string)
    (h : BlkF w g t (bv l ++ more) fr) : (convert src dst (.slice (some ⟨g, 0, none⟩) l.length cap)).run P w = .ok (.string ⟨l.toArray⟩) w := by
  refine run_convert_bytes_back w src dst e ⟨g, 0, none⟩ cap l hs he hd fun j hj => ?_
  have : (⟨g, 0, none⟩ : Addr).add j = ⟨g, j, none⟩ := by unfold Addr.add; split <;> simp_all
  rw [this, h.cell, List.getElem?_append_left (by simpa using hj)]
  simp [bv, hj]

theorem shr_odd (B i : Nat) (h : B / 2 ^ i % 2 = 1) : ((B : Int) / 2 ^ i).tmod 2 = 1 := by
  have e : (B : Int) / 2 ^ i = ((B / 2 ^ i : Nat) : Int) := by rw [Int.natCast_ediv, Int.natCast_pow]; rfl
  rw [e, Int.tmod_eq_emod_of_nonneg (Int.natCast_nonneg _)]
  generalize B / 2 ^ i = x at *
  omega
theorem shr_even (B i : Nat) (h : ¬ B / 2 ^ i % 2 = 1) : ((B : Int) / 2 ^ i).tmod 2 ≠ 1 := by
  have e : (B : Int) / 2 ^ i = ((B / 2 ^ i : Nat) : Int) := by rw [Int.natCast_ediv, Int.natCast_pow]; rfl
  rw [e, Int.tmod_eq_emod_of_nonneg (Int.natCast_nonneg _)]
  generalize B / 2 ^ i = x at *
  omega

theorem xor_bit (c : UInt8) (J : Nat) (hJ : J < 8) : bits BinOp.xor IntKind.u8 (c.toNat : Int) ((2 : Int) ^ J % 256) = ((UInt8.ofNat (c.toNat ^^^ 2 ^ J)).toNat : Int) := by
  have h2 : 2 ^ J ≤ 2 ^ 7 := Nat.pow_le_pow_right (by omega) (by omega)
  have e : (2 : Int) ^ J % 256 = ((2 ^ J : Nat) : Int) := by
    have : (2 : Int) ^ J = ((2 ^ J : Nat) : Int) := by rw [Int.natCast_pow]; rfl
    rw [this]
    generalize 2 ^ J = x at *
    omega
  have hlt : c.toNat ^^^ 2 ^ J < 2 ^ 8 := Nat.xor_lt_two_pow c.toNat_lt (by omega)
  rw [e, u8_xor_nat _ _ c.toNat_lt (by omega), UInt8.toNat_ofNat', Nat.mod_eq_of_lt hlt]

theorem xor_bit_nat (c : UInt8) (J : Nat) (hJ : J < 8) : (UInt8.ofNat (c.toNat ^^^ 2 ^ J)).toNat = c.toNat ^^^ 2 ^ J := by
  have h2 : 2 ^ J ≤ 2 ^ 7 := Nat.pow_le_pow_right (by omega) (by omega)
  have hlt : c.toNat ^^^ 2 ^ J < 2 ^ 8 := Nat.xor_lt_two_pow c.toNat_lt (by omega)
  rw [UInt8.toNat_ofNat', Nat.mod_eq_of_lt hlt]

theorem mod_ne (B i : Nat) (h : B / 2 ^ i % 2 = 1) : B % 2 ^ (i + 1) ≠ 0 := by
  rw [Nat.mod_pow_succ, h]
  have := Nat.two_pow_pos i
  omega

theorem bytesRow_eq (s : ByteArray) (cap : Nat) : (bytesRow s cap).toList = bv s.data.toList ++ List.replicate (cap - s.size) (.int .u8 0) := by
  simp [bytesRow, bv]

theorem bv_set (l : List UInt8) (more : List Value) (k : Nat) (hk : k < l.length) (v : UInt8) : (bv l ++ more).set k (.int .u8 (v.toNat : Int)) = bv (l.set k v) ++ more := by
  rw [List.set_append_left _ _ (by simpa using hk)]
  simp [bv, List.map_set]

set_option maxRecDepth 100000 in
set_option maxHeartbeats 1000000 in
theorem law6_any (s : ByteArray) (p q : Int) (w : World) (hT : TabOk w) (n1 : -9223372036854775808 ≤ p) (n2 : p ≤ 9223372036854775807) (q1 : 0 ≤ q) (q2 : q ≤ 4294967295) :
    Calls Tryd.prog 8 #[.string s, .int .i64 p, .int .u32 q] w fun e w' => e = .returned (.bool true) ∧ Below w.heap.size w w' := by
  have HT := Lib.hid hT
  clear hT
  obtain ⟨B, rfl⟩ := Int.eq_ofNat_of_zero_le q1
  obtain ⟨m, em, m1, m2, -⟩ := cut_min s 300 (by omega)
  obtain ⟨few, hfew⟩ : ∃ few, few = s.extract 0 m := ⟨_, rfl⟩
  have sf : few.size = m := by rw [hfew]; exact size_cut s m m1
  have hcv := fun W => run_bytes_of_string (P := Tryd.prog) W 9 38 5 few Tryd.underlying9 Tryd.underlying38 Tryd.underlying5
  have hext : s.extract 0 m = few := hfew.symm
  have hfs : s.extract 0 few.size = few := by rw [sf]; exact hext
  clear hfew
  go_enter Tryd.func8, Tryd.ntmps8
  go_wp2_with fail
  refine (sane_any _ HT.out).mono ?_
  rintro e w1 ⟨rfl, b1⟩
  by_cases hz : few.size = 0
  · have hd : ((few.size : Int) == 0) = true := by rw [beq_iff_eq]; omega
    have SF := Lib.hid sf
    clear hz sf hfs
    go_wp2_with fail
    go_ret
    exact ⟨rfl, (b1.alloc b1.size _).drew⟩
  have hd : ((few.size : Int) == 0) = false := by rw [beq_eq_false_iff_ne]; omega
  by_cases hB : B = 0
  · have hdB : ((B : Int) == 0) = true := by rw [beq_iff_eq]; omega
    have SF := Lib.hid sf
    have HB := Lib.hid hB
    clear hz sf hfs hB
    go_wp2_with fail
    go_ret
    exact ⟨rfl, (b1.alloc b1.size _).drew⟩
  have hdB : ((B : Int) == 0) = false := by rw [beq_eq_false_iff_ne]; omega
  have hsz : 0 < few.size := by omega
  have hs300 : few.size ≤ 300 := by omega
  have pr := pickZ_range p (8 * (few.size : Int)) (by omega)
  have SF := Lib.hid sf
  have HFS := Lib.hid hfs
  have HBn := Lib.hid hB
  clear hz sf hfs hB
  go_wp2_with fail
  refine (pick_any _ _ _ n1 n2 (by omega) (by omega)).mono ?_
  rintro e w' ⟨rfl, rfl⟩
  obtain ⟨w2, hw2⟩ : ∃ w2, w2 = (w1.alloc (.cells (bytesRow few (grownCap w1 few.size 0 5)) 5 ((bytesRow few (grownCap w1 few.size 0 5)).size, (bytesRow few (grownCap w1 few.size 0 5)).size + 1))).drew := ⟨_, rfl⟩
  rw [← hw2]
  obtain ⟨cap, hcap⟩ : ∃ cap, cap = grownCap w1 few.size 0 5 := ⟨_, rfl⟩
  rw [← hcap] at hw2 ⊢
  obtain ⟨more, hmore⟩ : ∃ more, more = List.replicate (cap - few.size) (Value.int .u8 0) := ⟨_, rfl⟩
  obtain ⟨N, hN⟩ : ∃ N, N = (bytesRow few cap).size := ⟨_, rfl⟩
  have hblk0 : BlkF w2 w1.heap.size 5 (bv few.data.toList ++ more) (N, N + 1) := by
    rw [hw2, hmore, ← bytesRow_eq, hN]
    exact World.alloc_heap_new w1 _
  have hNlen : few.size ≤ N := by
    rw [hN, ← Array.length_toList, bytesRow_eq, List.length_append, bv_length]
    have : few.data.toList.length = few.size := by simp
    omega
  have b2 : Below w.heap.size w w2 := by rw [hw2]; exact (b1.alloc b1.size _).drew
  have hg : w.heap.size ≤ w1.heap.size := b1.size
  obtain ⟨F, hF⟩ : ∃ F : Nat, pickZ p (8 * (few.size : Int)) = (F : Int) := ⟨(pickZ p (8 * (few.size : Int))).toNat, by omega⟩
  rw [hF] at pr ⊢
  have hFlt : F < 8 * few.size := by omega
  have hsf : few.size ≤ s.size := by have := SF.out; omega
  clear hw2 hcap hmore hN b1 hF pr hcv hext em m1 m2
  obtain ⟨l0, hl0⟩ : ∃ l0, l0 = few.data.toList := ⟨_, rfl⟩
  have ll0 : l0.length = few.size := by rw [hl0]; simp
  rw [← hl0] at hblk0
  have HL0 := Lib.hid hl0
  have LL0 := Lib.hid ll0
  clear hl0 ll0
  go_wp2_with fail
  go_loopw [10, 11] (fun cv iv wr => ∃ (i : Nat) (cb : Bool) (l : List UInt8), i ≤ 32 ∧ F + i ≤ 8 * few.size ∧ iv = .int .i64 i ∧ cv = .bool cb ∧ Hid (cb = decide (B % 2 ^ i ≠ 0)) ∧ Hid (l.length = few.size) ∧
      BlkF wr w1.heap.size 5 (bv l ++ more) (N, N + 1) ∧ Hid (crcReg 4294967295 l = crcReg 4294967295 l0 ^^^ crcBits (8 * few.size - F) (B % 2 ^ i)) ∧ Below w.heap.size w wr)
    (fun _ iv _ => 32 - (intOf iv).toNat)
  case atStart =>
    refine ⟨0, false, l0, by omega, by omega, rfl, rfl, ?_, LL0, hblk0, ?_, b2⟩
    · unfold Hid; rw [Nat.pow_zero, Nat.mod_one]; rfl
    · unfold Hid; rw [Nat.pow_zero, Nat.mod_one, crcBits_zero, Nat.xor_zero]
  case round =>
    obtain ⟨i, cb, l, hi, hFi, rfl, rfl, HC, HL, hblk, HR, hb⟩ := hrel
    by_cases hi32 : i < 32 ∧ F + i < 8 * few.size
    · obtain ⟨hi1, hi2⟩ := hi32
      have hd1 : decide ((i : Int) < 32) = true := by simp; omega
      have hd2 : decide ((F : Int) + (i : Int) < 8 * (few.size : Int)) = true := by simp; omega
      by_cases hbit : B / 2 ^ i % 2 = 1
      · obtain ⟨K, hK⟩ : ∃ K : Nat, K = (F + i) / 8 := ⟨_, rfl⟩
        obtain ⟨J, hJ⟩ : ∃ J : Nat, J = (F + i) % 8 := ⟨_, rfl⟩
        have hbt : (((B : Int) / 2 ^ i).tmod 2 == 1) = true := by rw [beq_iff_eq]; exact shr_odd B i hbit
        have eK : ((F : Int) + (i : Int)) / 8 = (K : Int) := by omega
        have eJ : ((F : Int) + (i : Int)) % 8 = (J : Int) := by omega
        have hKl : K < l.length := by rw [HL.out]; omega
        have hKf : K < few.size := by omega
        have hJ8 : J < 8 := by omega
        obtain ⟨c, hc⟩ : ∃ c : UInt8, l[K]? = some c := ⟨l[K], List.getElem?_eq_getElem hKl⟩
        have hcell : wr.cell? ⟨w1.heap.size, K, none⟩ = some (.int .u8 (c.toNat : Int)) := by
          rw [hblk.cell, List.getElem?_append_left (by simpa using hKl)]
          simp [bv, hc]
        have hfr : wr.frozen? ⟨w1.heap.size, K, none⟩ = false := hblk.frozen K (by show K < N; omega)
        have HK := Lib.hid hK
        have HJ := Lib.hid hJ
        have HCC := Lib.hid hc
        have HBIT := Lib.hid hbit
        clear hK hJ hc hbit
        obtain ⟨v, hv⟩ : ∃ v : UInt8, v = UInt8.ofNat (c.toNat ^^^ 2 ^ J) := ⟨_, rfl⟩
        have hx : bits BinOp.xor IntKind.u8 (c.toNat : Int) ((2 : Int) ^ J % 256) = (v.toNat : Int) := by rw [hv]; exact xor_bit c J hJ8
        have hvn : v.toNat = c.toNat ^^^ 2 ^ J := by rw [hv]; exact xor_bit_nat c J hJ8
        have HV := Lib.hid hvn
        clear hv hvn
        go_wp2_with fail
        go_region
        have hn := (hblk.set K (.int .u8 (v.toNat : Int))).drew
        rw [bv_set _ _ _ hKl] at hn
        have hbn : Below w.heap.size w (wr.setCell ⟨w1.heap.size, K, none⟩ (.int .u8 (v.toNat : Int))).drew := (hb.setCell (p := ⟨w1.heap.size, K, none⟩) hg _).drew
        clear hcell hfr hx hblk hb
        go_wp2_with fail
        refine ⟨⟨i + 1, true, l.set K v, by omega, by omega, by go_num, rfl, ?_, ?_, hn, ?_, hbn⟩, by simp [intOf]; omega⟩
        · unfold Hid; rw [decide_eq_true (mod_ne B i HBIT.out)]
        · unfold Hid; rw [List.length_set]; exact HL.out
        · unfold Hid
          have h := burst_step 4294967295 l0 l B F i (by rw [HL.out, LL0.out]) (by rw [LL0.out]; omega) (by rw [LL0.out]; exact HR.out) HBIT.out v c (by rw [← HK.out]; exact HCC.out) (by rw [← HJ.out]; exact HV.out)
          rw [LL0.out] at h
          rw [HK.out]; exact h
      · have hbt : (((B : Int) / 2 ^ i).tmod 2 == 1) = false := by rw [beq_eq_false_iff_ne]; exact shr_even B i hbit
        have HBIT := Lib.hid hbit
        clear hbit
        go_wp2_with fail
        refine ⟨⟨i + 1, cb, l, by omega, by omega, by go_num, rfl, ?_, HL, hblk, ?_, hb⟩, by simp [intOf]; omega⟩
        · unfold Hid; rw [burst_skip B i HBIT.out]; exact HC.out
        · unfold Hid; rw [burst_skip B i HBIT.out]; exact HR.out
    · have hcv : ∀ n, Sem.run Tryd.prog (convert 38 9 (.slice (some ⟨w1.heap.size, 0, none⟩) few.size cap)) (wr.drewN n) = .ok (.string ⟨l.toArray⟩) (wr.drewN n) := by
        intro n
        have := run_convert_blkF (P := Tryd.prog) (cap := cap) 38 9 5 Tryd.underlying38 Tryd.underlying5 Tryd.underlying9 (hblk.drewN n)
        rwa [HL.out] at this
      have hTr : ∀ n, TabOk (wr.drewN n) := fun n i hi => (HT.out.below hb HT.out.lt) i hi
      have HTr := Lib.hid hTr
      have hfs := HFS.out
      have hll : l.length ≤ 300 := by rw [HL.out]; omega
      have hv : (cb == !(((sumL l : Nat) : Int) == ((sumL few.data.toList : Nat) : Int))) = true := by
        have h := sumL_burst l0 l B (8 * few.size - F) i (by omega) HR.out
        rw [HL0.out] at h
        rw [HC.out]
        by_cases h0 : B % 2 ^ i = 0
        · have e := h.2 h0
          rw [e]; simp [h0]
        · have e : ¬ sumL l = sumL few.data.toList := fun e => h0 (h.1 e)
          have e2 : (((sumL l : Nat) : Int) == ((sumL few.data.toList : Nat) : Int)) = false := by rw [beq_eq_false_iff_ne]; omega
          rw [e2]; simp [h0]
      have HV := Lib.hid hv
      clear hTr hblk hblk0 hv
      by_cases hi1 : i < 32
      · have hd1 : decide ((i : Int) < 32) = true := by simp; omega
        have hd2 : decide ((F : Int) + (i : Int) < 8 * (few.size : Int)) = false := by simp; omega
        go_wp2_with fail
        go_quiet ((go_at_call 21; exact quiet_left (sum_any _ _ (by first | (rw [size_mk]; omega) | omega) (HTr.out _))))
        go_wp2_with fail
        go_ret
        exact ⟨congrArg (fun x => Ending.returned (Value.bool x)) HV.out, below_drewN' hb nq⟩
      · have hd1 : decide ((i : Int) < 32) = false := by simp; omega
        go_wp2_with fail
        go_quiet ((go_at_call 21; exact quiet_left (sum_any _ _ (by first | (rw [size_mk]; omega) | omega) (HTr.out _))))
        go_wp2_with fail
        go_ret
        exact ⟨congrArg (fun x => Ending.returned (Value.bool x)) HV.out, below_drewN' hb nq⟩
end Go.Proofs.YtflnbhhgdlehbaaDoor
