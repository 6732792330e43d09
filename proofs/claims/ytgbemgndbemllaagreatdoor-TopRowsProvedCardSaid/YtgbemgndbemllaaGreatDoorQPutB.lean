/- The walk of wire.PutInt. -/
import Derived.Test.YtgbemgndbemllaaGreatDoorQPutA
import Derived.Test.YtgbemgndbemllaaGreatDoorGa
import Derived.Maps.AppendAt
import Derived.Deep.DeepMust
namespace Go.Proofs.YtgbemgndbemllaaGreatDoor
open Go Go.RowKit Go.Shelf
attribute [local go_sem] Oper.semAt_some

theorem xor_ones (a : Nat) (h : a < 18446744073709551616) : a ^^^ 18446744073709551615 = 18446744073709551615 - a := by
  apply Nat.eq_of_testBit_eq
  intro i
  rw [Nat.testBit_xor, show (18446744073709551615 - a) = 2 ^ 64 - (a + 1) by omega, Nat.testBit_two_pow_sub_succ (by omega), show (18446744073709551615 : Nat) = 2 ^ 64 - 1 by decide, Nat.testBit_two_pow_sub_one]
  by_cases hi : i < 64
  · simp [hi]
  · have : a.testBit i = false := Nat.testBit_lt_two_pow (Nat.lt_of_lt_of_le h (by rw [show (18446744073709551616 : Nat) = 2 ^ 64 by decide]; exact Nat.pow_le_pow_right (by decide) (by omega)))
    simp [hi, this]

theorem zz_xor (n : Int) (h1 : -4611686018427387903 ≤ n) (h2 : n ≤ 4611686018427387903) :
    bits BinOp.xor IntKind.u64 (IntKind.u64.wrap (IntKind.u64.wrap n * 2)) (IntKind.u64.wrap (n / 9223372036854775808)) = (zz n : Int) := by
  simp only [IntKind.wrap_u64]
  unfold zz
  by_cases h : n < 0
  · rw [if_pos h]
    have e1 : n % 18446744073709551616 * 2 % 18446744073709551616 = ((2 * n + 18446744073709551616).toNat : Int) := by omega
    have e2 : n / 9223372036854775808 % 18446744073709551616 = ((18446744073709551615 : Nat) : Int) := by omega
    rw [e1, e2, u64_xor_nat _ _ (by omega) (by omega), xor_ones _ (by omega)]
    omega
  · rw [if_neg h]
    have e1 : n % 18446744073709551616 * 2 % 18446744073709551616 = ((2 * n).toNat : Int) := by omega
    have e2 : n / 9223372036854775808 % 18446744073709551616 = ((0 : Nat) : Int) := by omega
    rw [e1, e2, u64_xor_nat _ _ (by omega) (by omega), Nat.xor_zero]

theorem groups_in (F : Fence) (n : Nat) (hf : F.fn 76) (hro : F.round = none) (z : Nat) (w : World) :
    CallsIn F n Tryz.prog 76 #[.int .u64 z] w fun e w' => e = .returned (.func (.func 104) #[] #[.pointer (some ⟨w.heap.size, 0, none⟩)]) ∧ w' = w.alloc (.cells #[.int .u64 z] 153) := by
  refine callsIn_of_wp Tryz.func76 rfl hf ?_ hro
  simp only [Tryz.ntmps76, List.size_toArray, List.length_cons, List.length_nil, Nat.reduceAdd, Nat.reduceSub, Array.replicate_succ, Array.replicate_zero, List.push_toArray, List.append_toArray, List.nil_append, List.cons_append]
  gi_wp2
  go_ret
  exact ⟨rfl, rfl⟩

theorem Tryz.infoU8 : (Tryz.prog.info? 5).map (fun i => (i.zero, i.size, i.bytes)) = some (some (.int .u8 0), 1, 1) := by kernel_rfl

/-- Between two rounds of PutInt's loop. -/
structure PutJ (w : World) (rec : Loop) (ob D L : Nat) (pre : List (Nat × Bool)) (W : World) : Prop where
  rl : W.heap[L]? = some (.loop rec)
  rk : W.heap[D]? = some (.deferred (some []))
  box : ∃ v, Boxed W ob 113 v ∧ W.ownsRow w.heap.size 5 1 v pre.length (bv (pre.map encB))
  below : Below w.heap.size w W

theorem PutJ.set {w : World} {rec : Loop} {ob D L zb : Nat} {pre : List (Nat × Bool)} {W : World} {v v' : Value} (h : PutJ w rec ob D L pre W) (hb : Boxed W zb 153 v) (hz : w.heap.size ≤ zb) (hzo : ob ≠ zb) :
    PutJ w rec ob D L pre (W.setCell ⟨zb, 0, none⟩ v') := by
  have hk := KeepsOthers.setCell W ⟨zb, 0, none⟩ v'
  obtain ⟨u, hu, hr⟩ := h.box
  exact ⟨hk.same _ _ h.rl rfl, hk.same _ _ h.rk rfl, ⟨u, hu.other hzo v', hr.kept (grownBy_setCell' W zb v') (.inr (hb.not_row (by decide) hr).symm)⟩, h.below.setCell hz v'⟩

theorem PutJ.close {w : World} {r0 r1 : Loop} {ob D L : Nat} {pre : List (Nat × Bool)} {x : Nat × Bool} {W2 W3 : World} {v' : Value}
    (hl2 : W2.heap[L]? = some (.loop r0)) (hk2 : W2.heap[D]? = some (.deferred (some []))) (hk3 : KeepsOthers W2 W3) (hv2 : Boxed W3 ob 113 v')
    (hr3 : W3.ownsRow w.heap.size 5 1 v' (pre.length + 1) (bv (pre.map encB) ++ [.int .u8 ((encB x).toNat : Int)]))
    (hb : Below w.heap.size w W3) (h1 : D ≠ L) (h2 : ob ≠ L) (h3 : w.heap.size ≤ L) : PutJ w r1 ob D L (pre ++ [x]) (W3.putObj L (.loop r1)) := by
  have hl3 := hk3.same _ _ hl2 rfl
  refine ⟨World.putObj_heap_same (cellsBlock_size hl3), (World.putObj_heap_other h1).trans (hk3.same _ _ hk2 rfl), ⟨v', hv2.kept (grownBy_putObj' _ _ _) (fun e => h2 (by cases e; rfl)), ?_⟩, below_putObj hb _ h3 hb.size⟩
  have := ownsRow_putObj hr3 (.loop r1) hl3 rfl
  simpa [bv] using this

set_option maxHeartbeats 1000000 in
theorem putInt_ok (n : Int) (h1 : -4611686018427387903 ≤ n) (h2 : n ≤ 4611686018427387903) (w : World) :
    Calls Tryz.prog 43 #[.int .i64 n] w fun e w' => e = .returned (.tuple #[.string ⟨(putL n).toArray⟩, .int .i64 0]) ∧ Below w.heap.size w w' := by
  have hx := zz_xor n h1 h2
  have hz := zz_lt n h1 h2
  obtain ⟨z, hzz⟩ : ∃ z, z = zz n := ⟨_, rfl⟩
  rw [← hzz] at hx hz
  have hput : putL n = (grp 9 z).map encB := by rw [hzz]; rfl
  clear hzz
  have HX := Lib.hid hx
  have HP := Lib.hid hput
  clear hx hput
  refine (callsIn_wide (n := 3)).1 ?_
  refine callsIn_of_wp_marks Tryz.func43 rfl trivial ?_ rfl
  simp only [Tryz.ntmps43, List.size_toArray, List.length_cons, List.length_nil, Nat.reduceAdd, Nat.reduceSub, Array.replicate_succ, Array.replicate_zero, List.push_toArray, List.append_toArray, List.nil_append, List.cons_append]
  gi_wp2
  rw [HX.out]
  refine ⟨trivial, ?_⟩
  refine (groups_in _ _ trivial rfl z _).mono ?_
  rintro e w3 ⟨rfl, hw3⟩
  have hd1 : decide (n < -4611686018427387903) = false := by simp; omega
  have hd2 : decide (4611686018427387903 < n) = false := by simp; omega
  gi_wp2
  refine rangeFunc_raw rfl (by omega) (gf := 104) (lb := #[.pointer (some ⟨w.heap.size + 1, 0, none⟩)]) rfl trivial (enters_of Tryz.func104 (by kernel_rfl) rfl) ?_
  intro fn hfn rec D L W1 hrec hD hL hW1
  have hs1 : W1.heap.size = w.heap.size + 4 := by rw [hW1]; simp
  simp only [World.size_alloc] at hD
  have hD2 : D = w.heap.size + 2 := by omega
  refine (groups1_in Fence.wide _ trivial rfl (by omega) L (w.heap.size + 1) (PutJ w (rec .ready none) w.heap.size D L) ?hset ?hY z hz W1 ?h0 ?hb).mono ?hend
  case hset => intro pre W v v' hJ hbz; exact hJ.set hbz (by omega) (by omega)
  case h0 =>
    clear hrec
    have hR0 : (w.alloc (.cells #[.slice none 0 0] 113)).heap.size = w.heap.size + 1 := by simp
    refine ⟨?_, ?_, ⟨.slice none 0 0, ?_, World.ownsRow_nil _ _ _ _⟩, ?_⟩
    · rw [hW1, hL, hD]
      have := World.alloc_heap_new (((w.alloc (.cells #[.slice none 0 0] 113)).alloc (.cells #[.int .u64 z] 153)).alloc (.deferred (some []))) (.loop (rec .ready none))
      simpa only [World.size_alloc] using this
    · rw [hW1, hD]
      have := World.alloc_heap_new ((w.alloc (.cells #[.slice none 0 0] 113)).alloc (.cells #[.int .u64 z] 153)) (.deferred (some []))
      simp only [World.size_alloc] at this
      exact (Below.heap_alloc _ _ _ (by simp)).trans this
    · rw [hW1]; exact (((Boxed.new w _ _).alloc _).alloc _).alloc _
    · rw [hW1]; exact ((((Below.refl _ w).alloc (Nat.le_refl _) _).alloc (by simp) _).alloc (by simp; omega) _).alloc (by simp; omega) _
  case hb =>
    clear hrec
    have := Boxed.new (w.alloc (.cells #[.slice none 0 0] 113)) 153 (.int .u64 z)
    rw [World.size_alloc] at this
    rw [hW1]; exact (this.alloc _).alloc _
  case hY =>
    intro pre x W v hJ hbz hlen hx
    obtain ⟨i0, hi, hz0, hz1, hz2⟩ := info_parts Tryz.infoU8
    have HD := Lib.hid hD
    have HL := Lib.hid hL
    have HD2 := Lib.hid hD2
    clear hD hL hD2 hd1 hd2 hw3 hW1 hs1
    have HR := Lib.hid hrec
    refine yield_raw hfn hrec hJ.rl rfl ?_
    clear hrec
    simp only [grpEnc, List.zip_toArray, List.zip_cons_cons, List.zip_nil_right, List.foldl_toArray', List.foldl_cons, List.foldl_nil, List.setIfInBounds_toArray, List.set]
    gi_wp2
    refine ⟨hJ.rl, ?_⟩
    obtain ⟨u, hu, hr⟩ := hJ.box
    obtain ⟨W2, hW2⟩ : ∃ W2, W2 = W.putObj L (.loop (rec .busy none)) := ⟨_, rfl⟩
    rw [← hW2]
    have hl2 : W2.heap[L]? = some (.loop (rec .busy none)) := by rw [hW2]; exact World.putObj_heap_same (cellsBlock_size hJ.rl)
    have hk2 : W2.heap[D]? = some (.deferred (some [])) := by rw [hW2]; exact (World.putObj_heap_other (by have := HL.out; omega)).trans hJ.rk
    have hg2 : W.grownBy W2 (some L) := by rw [hW2]; exact grownBy_putObj' _ _ _
    have hu2 : Boxed W2 w.heap.size 113 u := hu.kept hg2 (by have := HL.out; have := HD.out; intro e; cases e; omega)
    have hb2 : Below w.heap.size w W2 := by rw [hW2]; exact below_putObj hJ.below _ (by have := HL.out; have := HD.out; omega) hJ.below.size
    have hr2 : W2.ownsRow w.heap.size 5 1 u pre.length (bv (pre.map encB)) := by rw [hW2]; exact ownsRow_putObj hr _ hJ.rl rfl
    have hz2' : Boxed W2 (w.heap.size + 1) 153 v := hbz.kept hg2 (by have := HL.out; have := HD.out; intro e; cases e; omega)
    clear hW2 hg2 hu hr hJ hbz
    have hv := hu2.cell
    have hf := hu2.frozen
    have hle : w.heap.size ≤ W2.heap.size := hb2.size
    have hlt := hu2.lt
    obtain ⟨y, b⟩ := x
    cases b
    · have ho : bits BinOp.or IntKind.u8 (y : Int) 128 = (y : Int) + 128 := by have := or128_u8 y hx; omega
      have he : ((y : Int) + 128) = ((encB (y, false)).toNat : Int) := by rw [encB_toNat _ hx]; rfl
      gi_wp2_with (first
        | (gi_at_builtin; refine wpListIn_append_own _ rfl _ _ 113 rfl w.heap.size 5 i0 (.int .u8 0) 1 1 Tryz.underlying113 hi hz0 hz1 hz2 rfl (by decide) u _ _ rfl (hr2.alloc _) ⟨W2.heap.size, 0, none⟩ 1 1 [.int .u8 ((encB (y, false)).toNat : Int)] rfl rfl (cell_one_new _ _ _) (by simp [Value.oneCell']) (by unfold maxLen; omega) (by omega) (by simp; omega) ?_; intro v' w1 hown' hgrow _; obtain ⟨g', cap', rfl⟩ := ownsRow_succ hown'; obtain ⟨hv1, hv2, hr3, hk3, hb3⟩ := hu2.appended (by decide) hr2 hle (Nat.le_refl _) hown' hgrow; have hc1 := hv1.cell; have hf1 := hv1.frozen; have hzb := ((hz2'.alloc (.cells #[.int .u8 ((encB (y, false)).toNat : Int)] 5)).kept hgrow (hz2'.not_row (by decide) hr2)); clear hu2 hr2 hgrow hown' hv))
      exact roundPost_normal HR.out (hk3.same _ _ hl2 rfl) ⟨rfl, PutJ.close hl2 hk2 hk3 hv2 hr3 (hb2.trans hb3) (by have := HL.out; omega) (by have := HL.out; have := HD.out; omega) (by have := HL.out; have := HD.out; omega), (hzb.other (by omega) _).kept (grownBy_putObj' _ _ _) (by have := HL.out; have := HD.out; intro e; cases e; omega)⟩
    · have he : (y : Int) = ((encB (y, true)).toNat : Int) := by rw [encB_toNat _ hx]; rfl
      gi_wp2_with (first
        | (gi_at_builtin; refine wpListIn_append_own _ rfl _ _ 113 rfl w.heap.size 5 i0 (.int .u8 0) 1 1 Tryz.underlying113 hi hz0 hz1 hz2 rfl (by decide) u _ _ rfl (hr2.alloc _) ⟨W2.heap.size, 0, none⟩ 1 1 [.int .u8 ((encB (y, true)).toNat : Int)] rfl rfl (cell_one_new _ _ _) (by simp [Value.oneCell']) (by unfold maxLen; omega) (by omega) (by simp; omega) ?_; intro v' w1 hown' hgrow _; obtain ⟨g', cap', rfl⟩ := ownsRow_succ hown'; obtain ⟨hv1, hv2, hr3, hk3, hb3⟩ := hu2.appended (by decide) hr2 hle (Nat.le_refl _) hown' hgrow; have hc1 := hv1.cell; have hf1 := hv1.frozen; have hzb := ((hz2'.alloc (.cells #[.int .u8 ((encB (y, true)).toNat : Int)] 5)).kept hgrow (hz2'.not_row (by decide) hr2)); clear hu2 hr2 hgrow hown' hv))
      exact roundPost_normal HR.out (hk3.same _ _ hl2 rfl) ⟨rfl, PutJ.close hl2 hk2 hk3 hv2 hr3 (hb2.trans hb3) (by have := HL.out; omega) (by have := HL.out; have := HD.out; omega) (by have := HL.out; have := HD.out; omega), (hzb.other (by omega) _).kept (grownBy_putObj' _ _ _) (by have := HL.out; have := HD.out; intro e; cases e; omega)⟩
  case hend =>
    rintro e W2 ⟨⟨v, rfl⟩, hJ⟩
    refine ⟨⟨v, rfl⟩, .ready, none, (fun h => by cases h), hJ.rl, ?_⟩
    clear hrec
    obtain ⟨u, hu, hr⟩ := hJ.box
    have hLs := cellsBlock_size hJ.rl
    have hu' : Boxed (W2.putObj L (.loop (rec .exhausted none))) w.heap.size 113 u := hu.kept (grownBy_putObj' _ _ _) (by intro e; cases e; omega)
    have hr' := ownsRow_putObj hr (.loop (rec .exhausted none)) hJ.rl rfl
    have hk' : (W2.putObj L (.loop (rec .exhausted none))).heap[D]? = some (.deferred (some [])) := (World.putObj_heap_other (by omega)).trans hJ.rk
    have hb' : Below w.heap.size w (W2.putObj L (.loop (rec .exhausted none))) := below_putObj hJ.below _ (by omega) hJ.below.size
    obtain ⟨W4, hW4⟩ : ∃ W4, W4 = W2.putObj L (.loop (rec .exhausted none)) := ⟨_, rfl⟩
    rw [← hW4] at hu' hr' hk' hb' ⊢
    have hD3 := hD2
    clear hW4 hW1 hD hL hw3 hJ hu hr hs1 hD2
    have HD := Lib.hid hD3
    clear hD3
    have hcv := run_convert_own (P := Tryz.prog) 113 9 5 Tryz.underlying113 Tryz.underlying5 Tryz.underlying9 hr'
    have hc := hu'.cell
    clear hr' hu'
    simp only [rfAct]
    gi_wp2
    refine ⟨by simp, .inl ⟨_, _, rfl, run_takeDeferred hk', ?_⟩⟩
    refine ⟨_, results_tmp2 rfl _ _ _, ?_⟩
    refine ⟨by rw [HP.out]; rfl, below_putObj hb' _ (by have := HD.out; omega) hb'.size⟩
end Go.Proofs.YtgbemgndbemllaaGreatDoor
