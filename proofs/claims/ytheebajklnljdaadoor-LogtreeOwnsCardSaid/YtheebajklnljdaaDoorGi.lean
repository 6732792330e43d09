/- Joined: VerC DgL. -/
import Derived.Test.YtheebajklnljdaaDoorGh
import Derived.Deep.RegionHeld3
import Derived.Deep.AppendLies

section
/- VerifyExtension, where sides are taken. -/
namespace Go.Proofs.YtheebajklnljdaaDoor
open Go Go.RowKit
attribute [local go_sem] Oper.semAt_some

/-- as LoopJ, of two blocks -/
structure LoopK (W1 : World) (rec : Loop) (g1 g2 L : Nat) (t : TypeId) (cs1 cs2 : List Value) (W : World) : Prop where
  rl : W.heap[L]? = some (.loop rec)
  blk1 : BlkIs W g1 t cs1
  blk2 : BlkIs W g2 t cs2
  os : W.os = W1.os
  tape : W.tape = W1.tape
  output : W.output = W1.output
  size : W1.heap.size ≤ W.heap.size
  block : ∀ b, b < W1.heap.size → b ≠ g1 → b ≠ g2 → b ≠ L → W.heap[b]? = W1.heap[b]?
theorem LoopK.cell {W1 : World} {rec : Loop} {g1 g2 L : Nat} {t : TypeId} {c1 c2 : List Value} {W : World} (h : LoopK W1 rec g1 g2 L t c1 c2 W) {a : Addr} {v : Value} (hc : W1.cell? a = some v) (h1 : a.block ≠ g1) (h2 : a.block ≠ g2) (h3 : a.block ≠ L) : W.cell? a = some v :=
  (World.cell?_of_block (h.block a.block (block_of_cell hc) h1 h2 h3)).trans hc
theorem LoopK.below {W1 w : World} {rec : Loop} {g1 g2 L : Nat} {t : TypeId} {c1 c2 : List Value} {W : World} (h : LoopK W1 rec g1 g2 L t c1 c2 W) (hw : Below w.heap.size w W1) (h1 : w.heap.size ≤ g1) (h2 : w.heap.size ≤ g2) (h3 : w.heap.size ≤ L) : Below w.heap.size w W :=
  ⟨h.os.trans hw.os, h.tape.trans hw.tape, h.output.trans hw.output, Nat.le_trans hw.size h.size, fun b hb' => (h.block b (Nat.lt_of_lt_of_le hb' hw.size) (by omega) (by omega) (by omega)).trans (hw.block b hb')⟩
theorem LoopK.busy {W1 : World} {r0 r1 : Loop} {g1 g2 L : Nat} {t : TypeId} {c1 c2 : List Value} {W : World} (h : LoopK W1 r0 g1 g2 L t c1 c2 W) (hl1 : g1 ≠ L) (hl2 : g2 ≠ L) : LoopK W1 r1 g1 g2 L t c1 c2 (W.putObj L (.loop r1)) :=
  ⟨World.putObj_heap_same (cellsBlock_size h.rl), h.blk1.put _ hl1, h.blk2.put _ hl2, h.os, h.tape, h.output, Nat.le_trans h.size (grownBy_putObj' W L _).size, fun b hb1 hb2 hb3 hb4 => (World.putObj_heap_other hb4).trans (h.block b hb1 hb2 hb3 hb4)⟩
theorem LoopK.under {W1 : World} {r0 : Loop} {g1 g2 L : Nat} {t : TypeId} {c1 c2 : List Value} {W W' : World} (h : LoopK W1 r0 g1 g2 L t c1 c2 W) (hu : Below W.heap.size W W') : LoopK W1 r0 g1 g2 L t c1 c2 W' :=
  ⟨(hu.block L (cellsBlock_size h.rl)).trans h.rl, h.blk1.later hu, h.blk2.later hu, hu.os.trans h.os, hu.tape.trans h.tape, hu.output.trans h.output, Nat.le_trans h.size hu.size, fun b hb1 hb2 hb3 hb4 => (hu.block b (Nat.lt_of_lt_of_le hb1 h.size)).trans (h.block b hb1 hb2 hb3 hb4)⟩
theorem LoopK.set1 {W1 : World} {r0 : Loop} {g1 g2 L : Nat} {t : TypeId} {c1 c2 : List Value} {W : World} (h : LoopK W1 r0 g1 g2 L t c1 c2 W) (hl1 : g1 ≠ L) (hg : g2 ≠ g1) (i : Nat) (u : Value) : LoopK W1 r0 g1 g2 L t (c1.set i u) c2 (W.setCell ⟨g1, i, none⟩ u) :=
  ⟨(Below.heap_setCell W ⟨g1, i, none⟩ u L (Ne.symm hl1)).trans h.rl, h.blk1.set i u, h.blk2.other hg u, h.os, h.tape, h.output, Nat.le_trans h.size (Upd.setCell g1 i W u).size, fun b hb1 hb2 hb3 hb4 => (Below.heap_setCell W ⟨g1, i, none⟩ u b hb2).trans (h.block b hb1 hb2 hb3 hb4)⟩
theorem LoopK.set2 {W1 : World} {r0 : Loop} {g1 g2 L : Nat} {t : TypeId} {c1 c2 : List Value} {W : World} (h : LoopK W1 r0 g1 g2 L t c1 c2 W) (hl2 : g2 ≠ L) (hg : g1 ≠ g2) (i : Nat) (u : Value) : LoopK W1 r0 g1 g2 L t c1 (c2.set i u) (W.setCell ⟨g2, i, none⟩ u) :=
  ⟨(Below.heap_setCell W ⟨g2, i, none⟩ u L (Ne.symm hl2)).trans h.rl, h.blk1.other hg u, h.blk2.set i u, h.os, h.tape, h.output, Nat.le_trans h.size (Upd.setCell g2 i W u).size, fun b hb1 hb2 hb3 hb4 => (Below.heap_setCell W ⟨g2, i, none⟩ u b hb3).trans (h.block b hb1 hb2 hb3 hb4)⟩

def fold2 (way : List (List UInt8 × Bool)) (ab : List UInt8 × List UInt8) : List UInt8 × List UInt8 := (fold1 way ab.1, foldW way ab.2)
def pair2 (x : List UInt8 × Bool) (ab : List UInt8 × List UInt8) : List UInt8 × List UInt8 := (step1 x ab.1, stepL x ab.2)
theorem way2_step {a b c : Option (List UInt8 × List UInt8)} {way : List (List UInt8 × Bool)} {y : List UInt8 × Bool} (h1 : a = b.map (fold2 way)) (h2 : b = c.map (pair2 y)) : a = c.map (fold2 (way ++ [y])) := by
  rw [h1, h2, Option.map_map]
  congr 1
  funext v
  show (fold1 way _, foldW way _) = (fold1 _ _, foldW _ _)
  rw [fold1_snoc, foldW_snoc]
  rfl
theorem bothR_step (old x : List UInt8) (r : List (List UInt8)) (m n : Nat) (b : Bool) (h : m < n) :
    bothR old (r ++ [x]).reverse m n b = (bothR old r.reverse (if leftN n < m then m - leftN n else m) (if leftN n < m then n - leftN n else leftN n) (b && !decide (leftN n < m))).map (pair2 (x, decide (leftN n < m))) := by
  rw [List.reverse_append, List.reverse_singleton, List.singleton_append]
  simp only [bothR]
  rw [if_pos h]
  congr 1
  funext ab
  unfold pair2 step1
  by_cases hk : leftN n < m
  · simp [hk]
  · simp [hk]
theorem bothR_none (old : List UInt8) (m n : Nat) (b : Bool) (h : m < n) : bothR old [] m n b = none := by
  unfold bothR; rw [if_pos h]
/-- at the end, where the whole list is the beginning -/
theorem bothR_whole (old root : List UInt8) (q : List (List UInt8)) (m n : Nat) (way : List (List UInt8 × Bool)) (h : ¬ m < n) :
    ((bothR old q.reverse m n true).map (fold2 way) == some (old, root)) = (decide (q.length = 0) && ((fold1 way old == old) && (foldW way old == root))) := by
  rcases List.eq_nil_or_concat q with rfl | ⟨r, x, rfl⟩
  · simp only [List.reverse_nil, bothR, if_neg h, if_true, List.length_nil, decide_true, Bool.true_and]
    rw [Bool.eq_iff_iff]
    simp [fold2]
  · rw [List.concat_eq_append, List.reverse_append, List.reverse_singleton, List.singleton_append]
    simp only [bothR]
    rw [if_neg h, if_pos trivial, decide_eq_false (by simp)]
    rfl
theorem bothR_part (old root x : List UInt8) (m n : Nat) (way : List (List UInt8 × Bool)) (h : ¬ m < n) :
    ((bothR old [x].reverse m n false).map (fold2 way) == some (old, root)) = ((fold1 way x == old) && (foldW way x == root)) := by
  simp only [List.reverse_singleton, bothR, if_neg h, if_true, Bool.false_eq_true, if_false]
  rw [Bool.eq_iff_iff]
  simp [fold2]
theorem bothR_odd (old root : List UInt8) (q : List (List UInt8)) (m n : Nat) (way : List (List UInt8 × Bool)) (h : ¬ m < n) (hq : q.length ≠ 1) :
    ((bothR old q.reverse m n false).map (fold2 way) == some (old, root)) = false := by
  rcases List.eq_nil_or_concat q with rfl | ⟨r, x, rfl⟩
  · simp [bothR, h]
  · rw [List.concat_eq_append, List.reverse_append, List.reverse_singleton, List.singleton_append]
    simp only [bothR]
    have hr : r.reverse ≠ [] := by
      intro e
      have : r = [] := List.reverse_eq_nil_iff.1 e
      subst this
      simp at hq
    rw [if_neg h, if_neg (by simp), if_neg hr]
    rfl

set_option maxRecDepth 100000 in
set_option maxHeartbeats 8000000 in
theorem vx_ok (old root : ByteArray) (m n : Nat) (v : Value) (p : List (List UInt8)) (w : World) (hv : ListAt w v p) (hm : 1 ≤ m) (hi : m < n) (hn : n ≤ 9223372036854775807) (hpl : p.length ≤ 100) (hp : (p.all fun x => decide (x.length = 32)) = true)
    (ho : old.size = 32) (hr0 : root.size = 32) (hR : RoundOk w) :
    Calls Tryd.prog 23 #[.string old, .int .i64 m, .string root, .int .i64 n, v] w fun e w' => e = .returned (.bool (extB old.data.toList m root.data.toList n p)) ∧ Below w.heap.size w w' := by
  obtain ⟨i0, hi0, hz0, hz1, hz2⟩ := info_side
  obtain ⟨B, hB⟩ : ∃ B, B = extB old.data.toList m root.data.toList n p := ⟨_, rfl⟩
  rw [← hB]
  have hr : ∀ b, (bothR old.data.toList p.reverse m n true == some (old.data.toList, root.data.toList)) = b → B = b := by
    rintro b rfl
    rw [hB]
    unfold extB
    rw [hp, len_data, len_data, decide_eq_true ho, decide_eq_true hr0, decide_eq_true (by omega), if_neg (by omega), if_neg (by omega)]
    rfl
  have HR := Lib.hid hr
  have hall := all_list v p w hv
  rw [hp] at hall
  have hp32 : ∀ x ∈ p, x.length = 32 := by
    intro x hx
    rw [List.all_eq_true] at hp
    have := hp x hx
    simpa using this
  have HP := Lib.hid hp32
  have t0 : decide ((m : Int) < 0) = false := by simp
  have t1 : decide (n < m) = false := by simp; omega
  have t4 : ((m : Int) == 0) = false := by simp; omega
  have t5 : ((m : Int) == (n : Int)) = false := by simp; omega
  have hd : ∀ W, Calls Tryd.prog 40 #[.string old] W fun e w' => e = .returned (.bool true) ∧ w' = W := by
    intro W
    have := isDigest_ok old W
    rw [decide_eq_true ho] at this
    exact this
  have hd2 : ∀ W, Calls Tryd.prog 40 #[.string root] W fun e w' => e = .returned (.bool true) ∧ w' = W := by
    intro W
    have := isDigest_ok root W
    rw [decide_eq_true hr0] at this
    exact this
  have ho32 : old.data.toList.length = 32 := by rw [len_data]; exact ho
  have HO := Lib.hid ho32
  clear hr hp hp32 hB ho hr0 ho32
  refine (callsIn_wide (n := 3)).1 ?_
  refine callsIn_of_wp_marks Tryd.func23 rfl trivial ?_ rfl
  simp only [Tryd.ntmps23, List.size_toArray, List.length_cons, List.length_nil, Nat.reduceAdd, Nat.reduceSub, Array.replicate_succ, Array.replicate_zero, List.push_toArray, List.append_toArray, List.nil_append, List.cons_append]
  refine wpIn_wide.2 ?_
  go_upto_region 1 with fail
  go_wp2_with fail
  refine hall.mono ?_
  rintro e w1 ⟨rfl, q, rfl⟩
  clear hall t1
  have hb1 : Below w.heap.size w (w.drewN q) := below_drewN' (Below.refl _ _) q
  generalize w.drewN q = w0 at *
  go_wp2_with fail
  refine (hd _).mono ?_
  rintro e w1 ⟨rfl, rfl⟩
  go_wp2_with fail
  refine (hd2 _).mono ?_
  rintro e w2 ⟨rfl, rfl⟩
  clear hd hd2
  go_wp2_with fail
  go_loopw [1, 3, 4, 11, 12] (fun mv nv pv wv bv wr => ∃ (M N : Nat) (q : List (List UInt8)) (way : List (List UInt8 × Bool)) (b : Bool), mv = .int .i64 M ∧ nv = .int .i64 N ∧ bv = .bool b ∧ 1 ≤ M ∧ M ≤ N ∧ N ≤ n ∧ ListAt w pv q ∧ (∀ x ∈ q, x.length = 32) ∧ (∀ x ∈ way, x.1.length = 32) ∧ q.length + way.length = p.length ∧
      Hid (bothR old.data.toList p.reverse m n true = (bothR old.data.toList q.reverse M N b).map (fold2 way)) ∧ SidesAt wr w.heap.size wv way ∧ Below w.heap.size w wr) (fun _ _ pv _ _ _ => lenOf pv)
  case atStart => exact ⟨m, n, p, [], true, rfl, rfl, rfl, hm, by omega, Nat.le_refl _, hv, HP.out, by simp, by simp, Lib.hid (by have : fold2 [] = id := rfl; rw [this]; simp), World.ownsRow_nil _ _ _ 2, hb1⟩
  case round =>
    obtain ⟨M, N, q, way, b, rfl, rfl, rfl, hM1, hMN, hN, hq, hq32, hw32, hql, HV, hsd, hb⟩ := hrel
    clear t4 t5
    by_cases h1 : M < N
    · have t2 : decide (M < N) = true := by simp; omega
      rcases List.eq_nil_or_concat q with rfl | ⟨r, x, rfl⟩
      · obtain ⟨A, c, rfl⟩ := hq.nil
        have hval : B = false := by
          apply HR.out
          rw [HV.out, List.reverse_nil, bothR_none _ _ _ _ h1]
          rfl
        have HVAL := Lib.hid hval
        clear hval
        go_wp2_with fail
        refine (take_none _ _ _).mono ?_
        rintro e w2 ⟨rfl, rfl⟩
        go_wp2_with fail
        exact ⟨_, results_tmp (t := 10) rfl _ _ _, (congrArg (fun b => Ending.returned (Value.bool b)) HVAL.out).symm, hb⟩
      · rw [List.concat_eq_append] at *
        obtain ⟨g, o, c, rfl, hc, hg, hx, hq'⟩ := hq.last
        have HVAL := Lib.hid (bothR_step old.data.toList x r M N b h1)
        have hx2 := (hb.cell (p := ⟨g, o + r.length, none⟩) hg).trans hx
        have hlq : (r ++ [x]).length = r.length + 1 := by simp
        have hrl : r.length ≤ 99 := by omega
        have hwl : way.length ≤ 100 := by omega
        have htake := take_ok g o r.length c (str x) wr hc (by omega) hx2
        obtain ⟨k, hk⟩ : ∃ k, k = leftN N := ⟨_, rfl⟩
        have hkl := leftN_lt N (by omega)
        have hkp := leftN_pos N
        have hleft := left_ok N (by omega) (by omega)
        rw [← hk] at hkl hkp hleft
        have HK := Lib.hid hk
        have HLQ := Lib.hid hlq
        have HQL := Lib.hid hql
        clear hx hlq hk hx2 hql
        go_wp2_with fail
        refine htake.mono ?_
        rintro e w2 ⟨rfl, q2, rfl⟩
        have hb2 : Below w.heap.size w (wr.drewN q2) := below_drewN' hb q2
        have hsd2 : SidesAt (wr.drewN q2) w.heap.size u11 way := hsd
        clear htake hsd hb
        generalize wr.drewN q2 = w2 at *
        go_wp2_with fail
        refine (hleft _).mono ?_
        rintro e w3 ⟨rfl, rfl⟩
        have hle3 := hb2.size
        clear hleft
        by_cases hki : k < M
        · have t3 : decide (k < M) = true := by simp; omega
          go_wp2_with (at_builtin; refine wpList_append_own _ rfl _ _ 83 rfl w.heap.size 88 i0 (.agg #[.string ⟨#[]⟩, .bool false]) 2 24 Tryd.underlying83 hi0 hz0 hz1 hz2 rfl (by decide) u11 _ _ rfl (hsd2.alloc _) ⟨w3.heap.size, 0, none⟩ 1 1 [.string (str x), .bool true] rfl rfl (cells_new _ _ _) (by simp [Value.oneCell']) (by unfold maxLen; omega) (by omega) (by simp; omega) ?_; intro v5 w5 own5 g5 _)
          have hb5 := Below.appended hb2 hle3 hsd2 g5
          obtain ⟨N', hN'⟩ : ∃ N', N' = N - k := ⟨_, rfl⟩
          obtain ⟨M', hM'⟩ : ∃ M', M' = M - k := ⟨_, rfl⟩
          have e1 : (N : Int) - (k : Int) = (N' : Int) := by omega
          have e2 : (M : Int) - (k : Int) = (M' : Int) := by omega
          have hv1 := HVAL.out
          rw [← HK.out, if_pos hki, if_pos hki, decide_eq_true hki, Bool.not_true, Bool.and_false, ← hN', ← hM'] at hv1
          have HW := Lib.hid (way2_step HV.out hv1)
          have n0 : 1 ≤ M' := by omega
          have n1 : M' ≤ N' := by omega
          have n2 : N' ≤ n := by omega
          clear hv1 hN' hM'
          go_wp2_with fail
          exact ⟨⟨M', N', r, way ++ [(x, true)], false, (by first | rfl | exact congrArg _ e2), (by first | rfl | exact congrArg _ e1), rfl, n0, n1, n2, hq', fun z hz => hq32 z (by simp [hz]), by
            intro z hz
            rcases List.mem_append.1 hz with hz | hz
            · exact hw32 z hz
            · rw [List.mem_singleton.1 hz]; exact hq32 x (by simp), by have h1 := HQL.out; rw [HLQ.out] at h1; rw [List.length_append, List.length_singleton]; omega, HW, by unfold SidesAt; rw [List.length_append, List.length_singleton, sideVals_snoc]; exact own5, hb5⟩, by simp [lenOf]⟩
        · have t3 : decide (k < M) = false := by simp; omega
          go_wp2_with (at_builtin; refine wpList_append_own _ rfl _ _ 83 rfl w.heap.size 88 i0 (.agg #[.string ⟨#[]⟩, .bool false]) 2 24 Tryd.underlying83 hi0 hz0 hz1 hz2 rfl (by decide) u11 _ _ rfl (hsd2.alloc _) ⟨w3.heap.size, 0, none⟩ 1 1 [.string (str x), .bool false] rfl rfl (cells_new _ _ _) (by simp [Value.oneCell']) (by unfold maxLen; omega) (by omega) (by simp; omega) ?_; intro v5 w5 own5 g5 _)
          have hb5 := Below.appended hb2 hle3 hsd2 g5
          have hv1 := HVAL.out
          rw [← HK.out, if_neg hki, if_neg hki, decide_eq_false hki, Bool.not_false, Bool.and_true] at hv1
          have HW := Lib.hid (way2_step HV.out hv1)
          have n1 : M ≤ k := by omega
          have n2 : k ≤ n := by omega
          clear hv1
          go_wp2_with fail
          exact ⟨⟨M, k, r, way ++ [(x, false)], b, rfl, rfl, rfl, hM1, n1, n2, hq', fun z hz => hq32 z (by simp [hz]), by
            intro z hz
            rcases List.mem_append.1 hz with hz | hz
            · exact hw32 z hz
            · rw [List.mem_singleton.1 hz]; exact hq32 x (by simp), by have h1 := HQL.out; rw [HLQ.out] at h1; rw [List.length_append, List.length_singleton]; omega, HW, by unfold SidesAt; rw [List.length_append, List.length_singleton, sideVals_snoc]; exact own5, hb5⟩, by simp [lenOf]⟩
    · have t2 : decide (M < N) = false := by simp; omega
      obtain ⟨qa, qc, rfl⟩ := hq.len
      obtain ⟨ad, gs, cp, rfl, hadg, hcp, hcm, hcs⟩ := hsd.parts
      unfold maxLen at hcm
      have HCS := Lib.hid hcs
      have HQL := Lib.hid hql
      clear hcs hql
      have hle := hb.size
      have fin : ∃ (fv : List UInt8), fv.length = 32 ∧ (b = true → fv = old.data.toList ∧ (q.length = 0 → B = ((fold1 way fv == old.data.toList) && (foldW way fv == root.data.toList))) ∧ (q.length ≠ 0 → B = false)) ∧
          (b = false → (q.length ≠ 1 → B = false) ∧ (q.length = 1 → B = ((fold1 way fv == old.data.toList) && (foldW way fv == root.data.toList)) ∧ ∃ g o, qa = some ⟨g, o, none⟩ ∧ g < w.heap.size ∧ 1 ≤ qc ∧ w.cell? ⟨g, o, none⟩ = some (.string (str fv)))) := by
        cases b with
        | true =>
          refine ⟨old.data.toList, HO.out, fun _ => ⟨rfl, ?_, ?_⟩, fun h => by cases h⟩
          · intro h0
            refine (HR.out _ rfl).trans ((congrArg (· == some (old.data.toList, root.data.toList)) HV.out).trans ?_)
            rw [bothR_whole old.data.toList root.data.toList q M N way h1, decide_eq_true h0, Bool.true_and]
          · intro h0
            refine (HR.out _ rfl).trans ((congrArg (· == some (old.data.toList, root.data.toList)) HV.out).trans ?_)
            rw [bothR_whole old.data.toList root.data.toList q M N way h1, decide_eq_false h0, Bool.false_and]
        | false =>
          by_cases hq1 : q.length = 1
          · obtain ⟨x, rfl⟩ := List.length_eq_one_iff.1 hq1
            obtain ⟨g, o, c, e, hc, hg, hx, _⟩ := (show ListAt w (.slice qa [x].length qc) ([] ++ [x]) from hq).last
            injection e with e1 e2 e3
            subst e1 e3
            rw [List.length_nil, Nat.add_zero] at hx
            refine ⟨x, hq32 x (by simp), (fun h => by cases h), fun _ => ⟨fun h => absurd hq1 h, fun _ => ⟨?_, g, o, rfl, hg, hc, hx⟩⟩⟩
            exact (HR.out _ rfl).trans ((congrArg (· == some (old.data.toList, root.data.toList)) HV.out).trans (bothR_part old.data.toList root.data.toList x M N way h1))
          · refine ⟨old.data.toList, HO.out, (fun h => by cases h), fun _ => ⟨fun _ => ?_, fun h => absurd h hq1⟩⟩
            exact (HR.out _ rfl).trans ((congrArg (· == some (old.data.toList, root.data.toList)) HV.out).trans (bothR_odd old.data.toList root.data.toList q M N way h1 hq1))
      obtain ⟨fv, hf32, hwhole, hpart⟩ := fin
      have hb2 : Below w.heap.size w ((wr.alloc (.cells #[.string old] 9)).alloc (.cells #[.string old] 9)) := (hb.alloc hb.size _).alloc (by rw [World.size_alloc]; omega) _
      have HW := Lib.hid hwhole
      have HPA := Lib.hid hpart
      clear hwhole hpart
      cases b with
      | false =>
        by_cases hq1 : q.length = 1
        · obtain ⟨hB1, g, o, rfl, hg, hc1, hx⟩ := (HPA.out rfl).2 hq1
          have hx2 := (hb.cell (p := ⟨g, o, none⟩) hg).trans hx
          have HB1 := Lib.hid hB1
          have hgw : g < wr.heap.size := Nat.lt_of_lt_of_le hg hb.size
          have hqe : Value.slice (some ⟨g, o, none⟩) q.length qc = .slice (some ⟨g, o, none⟩) 1 qc := by rw [hq1]
          rw [hqe]
          clear hB1 hx hq1 hqe
          go_wp2_with fail
          go_region
          go_wp2_with fail
          have hX : Below wr.heap.size wr ((wr.alloc (.cells #[.string (str fv)] 9)).alloc (.cells #[.string (str fv)] 9)).drew := (((Below.refl _ wr).alloc (Nat.le_refl _) _).alloc (by rw [World.size_alloc]; omega) _).drew
          have hXs : ((wr.alloc (.cells #[.string (str fv)] 9)).alloc (.cells #[.string (str fv)] 9)).drew.heap.size = wr.heap.size + 2 := by simp
          have k1 : BlkIs ((wr.alloc (.cells #[.string (str fv)] 9)).alloc (.cells #[.string (str fv)] 9)).drew wr.heap.size 9 [.string (str fv)] := (BlkIs.new wr _ _).alloc _
          have k2 : BlkIs ((wr.alloc (.cells #[.string (str fv)] 9)).alloc (.cells #[.string (str fv)] 9)).drew (wr.heap.size + 1) 9 [.string (str fv)] := by
            have h := BlkIs.new (wr.alloc (.cells #[.string (str fv)] 9)) 9 #[.string (str fv)]
            rw [World.size_alloc] at h
            exact h
          clear hb2
          generalize ((wr.alloc (.cells #[.string (str fv)] 9)).alloc (.cells #[.string (str fv)] 9)).drew = Wx at *

          have HXS := Lib.hid hXs
          clear hXs
          have hRx : RoundOk Wx := hR.later (Below.next hb hX)
          have hbx := Below.next hb hX
          refine (backS_ok ad way.length cp _).mono ?_
          rintro e w6 ⟨rfl, rfl⟩
          go_wp2_with fail
          refine (wpIn_wide (n := 3)).1 ?_
          refine rangeFunc_raw rfl (by omega) (gf := 67) (lb := #[.pointer (some ⟨Wx.heap.size, 0, none⟩)]) rfl trivial (enters_of Tryd.func67 (by kernel_rfl) rfl) ?_
          intro fn hfn rec D L W1 hrec hD hL hW1
          have hXs := HXS.out
          have hs1 : W1.heap.size = wr.heap.size + 5 := by rw [hW1]; simp; omega
          have hD2 : D = wr.heap.size + 3 := by rw [hD]; simp; omega
          have hL2 : L = wr.heap.size + 4 := by omega
          have bw1 : Below Wx.heap.size Wx W1 := by
            rw [hW1]
            exact (((Below.refl _ Wx).alloc (Nat.le_refl _) _).alloc (by rw [World.size_alloc]; omega) _).alloc (by rw [World.size_alloc, World.size_alloc]; omega) _
          have x1 : BlkIs W1 wr.heap.size 9 [.string (str fv)] := k1.later bw1
          have x2 : BlkIs W1 (wr.heap.size + 1) 9 [.string (str fv)] := k2.later bw1
          have x3 : BlkIs W1 Wx.heap.size 83 [.slice ad way.length cp] := by
            have h := BlkIs.new Wx 83 #[.slice ad way.length cp]
            rw [hW1]; exact (h.alloc _).alloc _
          have lL : W1.heap[L]? = some (.loop (rec .ready none)) := by rw [hW1]; exact alloc_new_at _ _ _ (by rw [hL2]; simp; omega)
          have dD : W1.heap[D]? = some (.deferred (some [])) := by
            rw [hW1]
            exact (Below.heap_alloc _ _ _ (by rw [hD2]; simp; omega)).trans (alloc_new_at _ _ _ (by rw [hD2]; simp; omega))
          have bel1 : Below w.heap.size w W1 := Below.next hbx bw1
          have j0 : LoopK W1 (rec .ready none) wr.heap.size (wr.heap.size + 1) L 9 [.string (str (acc1 way fv 0))] [.string (str (accS way fv 0))] W1 := ⟨lL, x1, x2, rfl, rfl, rfl, Nat.le_refl _, fun _ _ _ _ _ => rfl⟩
          have HREC := Lib.hid hrec
          have hb12 : Below wr.heap.size wr W1 := hX.trans (bw1.mono hX.size)
          clear hrec hW1 hD hL
          clear hXs
          have hXl : Wx.heap.size ≤ wr.heap.size + 2 := by have := HXS.out; omega
          have hXg : wr.heap.size + 2 ≤ Wx.heap.size := by have := HXS.out; omega
          refine (backS1_in (3 - 1) (by omega) L Wx.heap.size gs way.length cp ad (fun h => (hadg h).1) (way.map fun x => (str x.1, x.2)) (by simp) hcp (by omega) (fun k W => LoopK W1 (rec .ready none) wr.heap.size (wr.heap.size + 1) L 9 [.string (str (acc1 way fv k))] [.string (str (accS way fv k))] W) (?hbox) (?hY) W1 j0).mono ?hend
          case hbox =>
            intro k W hJ
            refine ⟨hJ.cell (x3.cell 0) (by simp; omega) (by simp; omega) (by simp; omega), fun j x hx => ?_⟩
            rw [List.getElem?_map] at hx
            cases hy : way[j]? with
            | none => rw [hy] at hx; cases hx
            | some y =>
              rw [hy] at hx
              cases hx
              obtain ⟨h1, h2⟩ := HCS.out j y hy
              have hgl := (hadg (by have := (List.getElem?_eq_some_iff.1 hy).1; omega)).2
              exact ⟨hJ.cell (a := ⟨gs, j * 2, none⟩) ((hb12.cell (p := ⟨gs, j * 2, none⟩) hgl).trans h1) (by simp; omega) (by simp; omega) (by simp; omega), hJ.cell (a := ⟨gs, j * 2 + 1, none⟩) ((hb12.cell (p := ⟨gs, j * 2 + 1, none⟩) hgl).trans h2) (by simp; omega) (by simp; omega) (by simp; omega)⟩
          case hY =>
            intro k i W y hik hy hJ
            rw [List.getElem?_map] at hy
            obtain ⟨x, hx, rfl⟩ : ∃ x, way[i]? = some x ∧ y = (str x.1, x.2) := by
              cases hw : way[i]? with
              | none => rw [hw] at hy; cases hy
              | some x => rw [hw] at hy; cases hy; exact ⟨x, rfl, rfl⟩
            refine yield_raw hfn HREC.out hJ.rl rfl ?_
            obtain ⟨g1, hg1⟩ : ∃ g1, g1 = wr.heap.size := ⟨_, rfl⟩
            obtain ⟨g2, hg2⟩ : ∃ g2, g2 = wr.heap.size + 1 := ⟨_, rfl⟩
            have hl1 : g1 ≠ L := by omega
            have hl2 : g2 ≠ L := by omega
            have hg12 : g1 ≠ g2 := by omega
            have hacc := accS_succ way fv k i x hik hx
            have hacc1 := acc1_succ way fv k i x hik hx
            have hxz : x.1.length = 32 := hw32 x (List.mem_of_getElem? hx)
            have haz := accS_length way fv k hf32
            have haz1 := acc1_length way fv k hf32
            have HAC := Lib.hid hacc
            have HAC1 := Lib.hid hacc1
            have hLw : w.heap.size ≤ L := by omega
            have hw1 : w.heap.size ≤ g1 := by omega
            have hw2 : w.heap.size ≤ g2 := by omega
            have hs2 : wr.heap.size + 1 = g2 := hg2.symm
            rw [← hg2, ← hg1] at hJ
            simp only [List.zip_toArray, List.zip_cons_cons, List.zip_nil_right, List.foldl_toArray', List.foldl_cons, List.foldl_nil, List.setIfInBounds_toArray, List.set]
            rw [hs2, ← hg1]
            clear hs1 hD2 hL2 hacc hacc1 hx hy hik hg1 hg2 hs2
            gi_wp2
            have hwlt : W.heap.size ≠ L := by have := cellsBlock_size hJ.rl; omega
            have hJa : LoopK W1 (rec .ready none) g1 g2 L 9 [.string (str (acc1 way fv k))] [.string (str (accS way fv k))] (W.alloc (.cells #[.string (str x.1), .bool x.2] 88)) := hJ.under ((Below.refl _ _).alloc (Nat.le_refl _) _)
            have hxb := BlkIs.new W 88 #[.string (str x.1), .bool x.2]
            refine ⟨hJa.rl, ?_⟩
            have hJ2 := hJa.busy (r1 := rec .busy none) hl1 hl2
            have hxb2 := hxb.put (.loop (rec .busy none)) hwlt
            have hR2 := hR.later (hJ2.below bel1 hw1 hw2 hLw)
            have cb := hJ2.blk1.cell 0
            have cc := hJ2.blk2.cell 0
            have cx0 := hxb2.cell 0
            have cx1 := hxb2.cell 1
            have hxl := hxb2.lt
            dsimp only [List.getElem?_cons_zero, List.getElem?_cons_succ] at cb cc cx0 cx1
            have hXn : W.heap.size ≠ g1 := by have := hJ.blk1.lt; omega
            have hXn2 : W.heap.size ≠ g2 := by have := hJ.blk2.lt; omega
            clear hxb hxb2 hJa
            generalize (W.alloc (.cells #[.string (str x.1), .bool x.2] 88)).putObj L (.loop (rec .busy none)) = W2 at *
            obtain ⟨xa, xf⟩ := x
            have hsz1 : (str xa).size + (str (acc1 way fv k)).size ≤ 900000 := by rw [size_mk, size_mk, haz1, show xa.length = 32 from hxz]; decide
            have hsz2 : (str xa).size + (str (accS way fv k)).size ≤ 900000 := by rw [size_mk, size_mk, haz, show xa.length = 32 from hxz]; decide
            clear hxz haz haz1
            cases xf with
            | true =>
              gi_wp2
              refine ⟨trivial, ?_⟩
              refine (CallsIn.inRound L (callsIn_wide.2 (join_ok (str xa) (str (acc1 way fv k)) true W2 hsz1 hR2))).mono ?_
              rintro e W3 ⟨rfl, b3⟩
              have hJ3 := hJ2.under b3
              have ej : joinL ((str xa).data.toList, true) (str (acc1 way fv k)).data.toList = acc1 way fv (k + 1) := by
                rw [mk_toList, mk_toList]; exact HAC1.out.symm
              rw [ej]
              clear ej cb cc
              have c3 := hJ3.blk1.cell 0
              have c4 := hJ3.blk2.cell 0
              have y0 := (b3.cell (p := ⟨W.heap.size, 0, none⟩) hxl).trans cx0
              have y1 := (b3.cell (p := ⟨W.heap.size, 1, none⟩) hxl).trans cx1
              dsimp only [List.getElem?_cons_zero] at c3 c4
              have f3 := hJ3.blk1.frozen 0
              clear cx0 cx1
              have hJ4 := hJ3.set1 hl1 (Ne.symm hg12) 0 (.string (str (acc1 way fv (k + 1))))
              have hR4 := hR.later (hJ4.below bel1 hw1 hw2 hLw)
              gi_wp2
              refine ⟨trivial, ?_⟩
              refine (CallsIn.inRound L (callsIn_wide.2 (join_ok (str xa) (str (accS way fv k)) true _ hsz2 hR4))).mono ?_
              rintro e W5 ⟨rfl, b5⟩
              have hJ5 := hJ4.under b5
              have ej : joinL ((str xa).data.toList, true) (str (accS way fv k)).data.toList = accS way fv (k + 1) := by
                rw [mk_toList, mk_toList]; exact HAC.out.symm
              rw [ej]
              clear ej c3 c4 y0 y1
              have c5 := hJ5.blk2.cell 0
              dsimp only [List.getElem?_cons_zero] at c5
              have f5 := hJ5.blk2.frozen 0
              gi_wp2
              have hJ6 := hJ5.set2 hl2 hg12 0 (.string (str (accS way fv (k + 1))))
              exact roundPost_normal HREC.out hJ6.rl ⟨rfl, hJ6.busy hl1 hl2⟩
            | false =>
              gi_wp2
              refine ⟨trivial, ?_⟩
              refine (CallsIn.inRound L (callsIn_wide.2 (join_ok (str xa) (str (accS way fv k)) false W2 hsz2 hR2))).mono ?_
              rintro e W5 ⟨rfl, b5⟩
              have hJ5 := hJ2.under b5
              have ej : joinL ((str xa).data.toList, false) (str (accS way fv k)).data.toList = accS way fv (k + 1) := by
                rw [mk_toList, mk_toList]; exact HAC.out.symm
              rw [ej]
              have ea : acc1 way fv k = acc1 way fv (k + 1) := HAC1.out.symm
              rw [ea] at hJ5
              clear ej cb cc cx0 cx1 ea
              have c5 := hJ5.blk2.cell 0
              dsimp only [List.getElem?_cons_zero] at c5
              have f5 := hJ5.blk2.frozen 0
              gi_wp2
              have hJ6 := hJ5.set2 hl2 hg12 0 (.string (str (accS way fv (k + 1))))
              exact roundPost_normal HREC.out hJ6.rl ⟨rfl, hJ6.busy hl1 hl2⟩
          case hend =>
            rintro e W2 ⟨⟨v, rfl⟩, hJ⟩
            refine ⟨⟨v, rfl⟩, .ready, none, (fun h => by cases h), hJ.rl, ?_⟩
            have hJ4 := hJ.busy (r1 := rec .exhausted none) (by omega) (by omega)
            have hbel4 := hJ4.below bel1 (by omega) (by omega) (by omega)
            have hdd : (W2.putObj L (.loop (rec .exhausted none))).heap[D]? = some (.deferred (some [])) := (hJ4.block D (by omega) (by omega) (by omega) (by omega)).trans dD
            have cb := hJ4.blk1.cell 0
            have cc := hJ4.blk2.cell 0
            dsimp only [List.getElem?_cons_zero] at cb cc
            rw [acc1_all] at cb
            rw [accS_all] at cc
            have hDw : w.heap.size ≤ D := by omega
            clear hJ hs1 hD2 hL2 hXl hXg
            generalize W2.putObj L (.loop (rec .exhausted none)) = W4 at *
            simp only [rfAct]
            have HV0 := HB1
            by_cases hc2 : (fold1 way fv == old.toList) = true
            · have HF : Hid ((foldW way fv == root.toList) = B) := Lib.hid (by rw [Lib.toList_data] at hc2 ⊢; rw [HV0.out, hc2, Bool.true_and])
              go_wp2_with fail
              refine ⟨by simp, .inl ⟨_, _, rfl, run_takeDeferred hdd, ?_⟩⟩
              refine ⟨_, results_tmp (t := 10) rfl _ _ _, ?_⟩
              exact ⟨congrArg (fun b => Ending.returned (Value.bool b)) HF.out, below_putObj hbel4 _ hDw hbel4.size⟩
            · have hc3 : (fold1 way fv == old.toList) = false := by simpa using hc2
              have HF : Hid (B = false) := Lib.hid (by rw [Lib.toList_data] at hc3; rw [HV0.out, hc3, Bool.false_and])
              clear hc2
              go_wp2_with fail
              refine ⟨by simp, .inl ⟨_, _, rfl, run_takeDeferred hdd, ?_⟩⟩
              refine ⟨_, results_tmp (t := 10) rfl _ _ _, ?_⟩
              exact ⟨(congrArg (fun b => Ending.returned (Value.bool b)) HF.out).symm, below_putObj hbel4 _ hDw hbel4.size⟩
        · have t4 : ((q.length : Int) != 1) = true := by simp; omega
          have HF := Lib.hid ((HPA.out rfl).1 hq1)
          clear hq1
          go_wp2_with fail
          exact ⟨_, results_tmp (t := 10) rfl _ _ _, (congrArg (fun b => Ending.returned (Value.bool b)) HF.out).symm, hb2⟩
      | true =>
        obtain ⟨hfo, hB0, hBn⟩ := HW.out rfl
        have hso : old = str fv := by rw [hfo, str_data]
        have HSO := Lib.hid hso
        have HV0 := Lib.hid hB0
        have HV1 := Lib.hid hBn
        clear hfo hso hB0 hBn
        go_wp2_with fail
        have hX : Below wr.heap.size wr ((wr.alloc (.cells #[.string old] 9)).alloc (.cells #[.string old] 9)) := ((Below.refl _ wr).alloc (Nat.le_refl _) _).alloc (by rw [World.size_alloc]; omega) _
        have hXs : ((wr.alloc (.cells #[.string old] 9)).alloc (.cells #[.string old] 9)).heap.size = wr.heap.size + 2 := by simp
        have k1 : BlkIs ((wr.alloc (.cells #[.string old] 9)).alloc (.cells #[.string old] 9)) wr.heap.size 9 [.string (str fv)] := by
          rw [← HSO.out]; exact (BlkIs.new wr _ _).alloc _
        have k2 : BlkIs ((wr.alloc (.cells #[.string old] 9)).alloc (.cells #[.string old] 9)) (wr.heap.size + 1) 9 [.string (str fv)] := by
          rw [← HSO.out]
          have h := BlkIs.new (wr.alloc (.cells #[.string old] 9)) 9 #[.string old]
          rw [World.size_alloc] at h
          exact h
        clear hb2
        generalize ((wr.alloc (.cells #[.string old] 9)).alloc (.cells #[.string old] 9)) = Wx at *

        have HXS := Lib.hid hXs
        clear hXs
        have hRx : RoundOk Wx := hR.later (Below.next hb hX)
        have hbx := Below.next hb hX
        refine (backS_ok ad way.length cp _).mono ?_
        rintro e w6 ⟨rfl, rfl⟩
        go_wp2_with fail
        refine (wpIn_wide (n := 3)).1 ?_
        refine rangeFunc_raw rfl (by omega) (gf := 67) (lb := #[.pointer (some ⟨Wx.heap.size, 0, none⟩)]) rfl trivial (enters_of Tryd.func67 (by kernel_rfl) rfl) ?_
        intro fn hfn rec D L W1 hrec hD hL hW1
        have hXs := HXS.out
        have hs1 : W1.heap.size = wr.heap.size + 5 := by rw [hW1]; simp; omega
        have hD2 : D = wr.heap.size + 3 := by rw [hD]; simp; omega
        have hL2 : L = wr.heap.size + 4 := by omega
        have bw1 : Below Wx.heap.size Wx W1 := by
          rw [hW1]
          exact (((Below.refl _ Wx).alloc (Nat.le_refl _) _).alloc (by rw [World.size_alloc]; omega) _).alloc (by rw [World.size_alloc, World.size_alloc]; omega) _
        have x1 : BlkIs W1 wr.heap.size 9 [.string (str fv)] := k1.later bw1
        have x2 : BlkIs W1 (wr.heap.size + 1) 9 [.string (str fv)] := k2.later bw1
        have x3 : BlkIs W1 Wx.heap.size 83 [.slice ad way.length cp] := by
          have h := BlkIs.new Wx 83 #[.slice ad way.length cp]
          rw [hW1]; exact (h.alloc _).alloc _
        have lL : W1.heap[L]? = some (.loop (rec .ready none)) := by rw [hW1]; exact alloc_new_at _ _ _ (by rw [hL2]; simp; omega)
        have dD : W1.heap[D]? = some (.deferred (some [])) := by
          rw [hW1]
          exact (Below.heap_alloc _ _ _ (by rw [hD2]; simp; omega)).trans (alloc_new_at _ _ _ (by rw [hD2]; simp; omega))
        have bel1 : Below w.heap.size w W1 := Below.next hbx bw1
        have j0 : LoopK W1 (rec .ready none) wr.heap.size (wr.heap.size + 1) L 9 [.string (str (acc1 way fv 0))] [.string (str (accS way fv 0))] W1 := ⟨lL, x1, x2, rfl, rfl, rfl, Nat.le_refl _, fun _ _ _ _ _ => rfl⟩
        have HREC := Lib.hid hrec
        have hb12 : Below wr.heap.size wr W1 := hX.trans (bw1.mono hX.size)
        clear hrec hW1 hD hL
        clear hXs
        have hXl : Wx.heap.size ≤ wr.heap.size + 2 := by have := HXS.out; omega
        have hXg : wr.heap.size + 2 ≤ Wx.heap.size := by have := HXS.out; omega
        refine (backS1_in (3 - 1) (by omega) L Wx.heap.size gs way.length cp ad (fun h => (hadg h).1) (way.map fun x => (str x.1, x.2)) (by simp) hcp (by omega) (fun k W => LoopK W1 (rec .ready none) wr.heap.size (wr.heap.size + 1) L 9 [.string (str (acc1 way fv k))] [.string (str (accS way fv k))] W) (?hbox) (?hY) W1 j0).mono ?hend
        case hbox =>
          intro k W hJ
          refine ⟨hJ.cell (x3.cell 0) (by simp; omega) (by simp; omega) (by simp; omega), fun j x hx => ?_⟩
          rw [List.getElem?_map] at hx
          cases hy : way[j]? with
          | none => rw [hy] at hx; cases hx
          | some y =>
            rw [hy] at hx
            cases hx
            obtain ⟨h1, h2⟩ := HCS.out j y hy
            have hgl := (hadg (by have := (List.getElem?_eq_some_iff.1 hy).1; omega)).2
            exact ⟨hJ.cell (a := ⟨gs, j * 2, none⟩) ((hb12.cell (p := ⟨gs, j * 2, none⟩) hgl).trans h1) (by simp; omega) (by simp; omega) (by simp; omega), hJ.cell (a := ⟨gs, j * 2 + 1, none⟩) ((hb12.cell (p := ⟨gs, j * 2 + 1, none⟩) hgl).trans h2) (by simp; omega) (by simp; omega) (by simp; omega)⟩
        case hY =>
          intro k i W y hik hy hJ
          rw [List.getElem?_map] at hy
          obtain ⟨x, hx, rfl⟩ : ∃ x, way[i]? = some x ∧ y = (str x.1, x.2) := by
            cases hw : way[i]? with
            | none => rw [hw] at hy; cases hy
            | some x => rw [hw] at hy; cases hy; exact ⟨x, rfl, rfl⟩
          refine yield_raw hfn HREC.out hJ.rl rfl ?_
          obtain ⟨g1, hg1⟩ : ∃ g1, g1 = wr.heap.size := ⟨_, rfl⟩
          obtain ⟨g2, hg2⟩ : ∃ g2, g2 = wr.heap.size + 1 := ⟨_, rfl⟩
          have hl1 : g1 ≠ L := by omega
          have hl2 : g2 ≠ L := by omega
          have hg12 : g1 ≠ g2 := by omega
          have hacc := accS_succ way fv k i x hik hx
          have hacc1 := acc1_succ way fv k i x hik hx
          have hxz : x.1.length = 32 := hw32 x (List.mem_of_getElem? hx)
          have haz := accS_length way fv k hf32
          have haz1 := acc1_length way fv k hf32
          have HAC := Lib.hid hacc
          have HAC1 := Lib.hid hacc1
          have hLw : w.heap.size ≤ L := by omega
          have hw1 : w.heap.size ≤ g1 := by omega
          have hw2 : w.heap.size ≤ g2 := by omega
          have hs2 : wr.heap.size + 1 = g2 := hg2.symm
          rw [← hg2, ← hg1] at hJ
          simp only [List.zip_toArray, List.zip_cons_cons, List.zip_nil_right, List.foldl_toArray', List.foldl_cons, List.foldl_nil, List.setIfInBounds_toArray, List.set]
          rw [hs2, ← hg1]
          clear hs1 hD2 hL2 hacc hacc1 hx hy hik hg1 hg2 hs2
          gi_wp2
          have hwlt : W.heap.size ≠ L := by have := cellsBlock_size hJ.rl; omega
          have hJa : LoopK W1 (rec .ready none) g1 g2 L 9 [.string (str (acc1 way fv k))] [.string (str (accS way fv k))] (W.alloc (.cells #[.string (str x.1), .bool x.2] 88)) := hJ.under ((Below.refl _ _).alloc (Nat.le_refl _) _)
          have hxb := BlkIs.new W 88 #[.string (str x.1), .bool x.2]
          refine ⟨hJa.rl, ?_⟩
          have hJ2 := hJa.busy (r1 := rec .busy none) hl1 hl2
          have hxb2 := hxb.put (.loop (rec .busy none)) hwlt
          have hR2 := hR.later (hJ2.below bel1 hw1 hw2 hLw)
          have cb := hJ2.blk1.cell 0
          have cc := hJ2.blk2.cell 0
          have cx0 := hxb2.cell 0
          have cx1 := hxb2.cell 1
          have hxl := hxb2.lt
          dsimp only [List.getElem?_cons_zero, List.getElem?_cons_succ] at cb cc cx0 cx1
          have hXn : W.heap.size ≠ g1 := by have := hJ.blk1.lt; omega
          have hXn2 : W.heap.size ≠ g2 := by have := hJ.blk2.lt; omega
          clear hxb hxb2 hJa
          generalize (W.alloc (.cells #[.string (str x.1), .bool x.2] 88)).putObj L (.loop (rec .busy none)) = W2 at *
          obtain ⟨xa, xf⟩ := x
          have hsz1 : (str xa).size + (str (acc1 way fv k)).size ≤ 900000 := by rw [size_mk, size_mk, haz1, show xa.length = 32 from hxz]; decide
          have hsz2 : (str xa).size + (str (accS way fv k)).size ≤ 900000 := by rw [size_mk, size_mk, haz, show xa.length = 32 from hxz]; decide
          clear hxz haz haz1
          cases xf with
          | true =>
            gi_wp2
            refine ⟨trivial, ?_⟩
            refine (CallsIn.inRound L (callsIn_wide.2 (join_ok (str xa) (str (acc1 way fv k)) true W2 hsz1 hR2))).mono ?_
            rintro e W3 ⟨rfl, b3⟩
            have hJ3 := hJ2.under b3
            have ej : joinL ((str xa).data.toList, true) (str (acc1 way fv k)).data.toList = acc1 way fv (k + 1) := by
              rw [mk_toList, mk_toList]; exact HAC1.out.symm
            rw [ej]
            clear ej cb cc
            have c3 := hJ3.blk1.cell 0
            have c4 := hJ3.blk2.cell 0
            have y0 := (b3.cell (p := ⟨W.heap.size, 0, none⟩) hxl).trans cx0
            have y1 := (b3.cell (p := ⟨W.heap.size, 1, none⟩) hxl).trans cx1
            dsimp only [List.getElem?_cons_zero] at c3 c4
            have f3 := hJ3.blk1.frozen 0
            clear cx0 cx1
            have hJ4 := hJ3.set1 hl1 (Ne.symm hg12) 0 (.string (str (acc1 way fv (k + 1))))
            have hR4 := hR.later (hJ4.below bel1 hw1 hw2 hLw)
            gi_wp2
            refine ⟨trivial, ?_⟩
            refine (CallsIn.inRound L (callsIn_wide.2 (join_ok (str xa) (str (accS way fv k)) true _ hsz2 hR4))).mono ?_
            rintro e W5 ⟨rfl, b5⟩
            have hJ5 := hJ4.under b5
            have ej : joinL ((str xa).data.toList, true) (str (accS way fv k)).data.toList = accS way fv (k + 1) := by
              rw [mk_toList, mk_toList]; exact HAC.out.symm
            rw [ej]
            clear ej c3 c4 y0 y1
            have c5 := hJ5.blk2.cell 0
            dsimp only [List.getElem?_cons_zero] at c5
            have f5 := hJ5.blk2.frozen 0
            gi_wp2
            have hJ6 := hJ5.set2 hl2 hg12 0 (.string (str (accS way fv (k + 1))))
            exact roundPost_normal HREC.out hJ6.rl ⟨rfl, hJ6.busy hl1 hl2⟩
          | false =>
            gi_wp2
            refine ⟨trivial, ?_⟩
            refine (CallsIn.inRound L (callsIn_wide.2 (join_ok (str xa) (str (accS way fv k)) false W2 hsz2 hR2))).mono ?_
            rintro e W5 ⟨rfl, b5⟩
            have hJ5 := hJ2.under b5
            have ej : joinL ((str xa).data.toList, false) (str (accS way fv k)).data.toList = accS way fv (k + 1) := by
              rw [mk_toList, mk_toList]; exact HAC.out.symm
            rw [ej]
            have ea : acc1 way fv k = acc1 way fv (k + 1) := HAC1.out.symm
            rw [ea] at hJ5
            clear ej cb cc cx0 cx1 ea
            have c5 := hJ5.blk2.cell 0
            dsimp only [List.getElem?_cons_zero] at c5
            have f5 := hJ5.blk2.frozen 0
            gi_wp2
            have hJ6 := hJ5.set2 hl2 hg12 0 (.string (str (accS way fv (k + 1))))
            exact roundPost_normal HREC.out hJ6.rl ⟨rfl, hJ6.busy hl1 hl2⟩
        case hend =>
          rintro e W2 ⟨⟨v, rfl⟩, hJ⟩
          refine ⟨⟨v, rfl⟩, .ready, none, (fun h => by cases h), hJ.rl, ?_⟩
          have hJ4 := hJ.busy (r1 := rec .exhausted none) (by omega) (by omega)
          have hbel4 := hJ4.below bel1 (by omega) (by omega) (by omega)
          have hdd : (W2.putObj L (.loop (rec .exhausted none))).heap[D]? = some (.deferred (some [])) := (hJ4.block D (by omega) (by omega) (by omega) (by omega)).trans dD
          have cb := hJ4.blk1.cell 0
          have cc := hJ4.blk2.cell 0
          dsimp only [List.getElem?_cons_zero] at cb cc
          rw [acc1_all] at cb
          rw [accS_all] at cc
          have hDw : w.heap.size ≤ D := by omega
          clear hJ hs1 hD2 hL2 hXl hXg
          generalize W2.putObj L (.loop (rec .exhausted none)) = W4 at *
          simp only [rfAct]
          by_cases hq0 : q.length = 0
          · have t6 : ((q.length : Int) == 0) = true := by rw [hq0]; rfl
            have HB1 := Lib.hid (HV0.out hq0)
            clear hq0
            clear HV0
            have HV0 := HB1
            by_cases hc2 : (fold1 way fv == old.toList) = true
            · have HF : Hid ((foldW way fv == root.toList) = B) := Lib.hid (by rw [Lib.toList_data] at hc2 ⊢; rw [HV0.out, hc2, Bool.true_and])
              go_wp2_with fail
              refine ⟨by simp, .inl ⟨_, _, rfl, run_takeDeferred hdd, ?_⟩⟩
              refine ⟨_, results_tmp (t := 10) rfl _ _ _, ?_⟩
              exact ⟨congrArg (fun b => Ending.returned (Value.bool b)) HF.out, below_putObj hbel4 _ hDw hbel4.size⟩
            · have hc3 : (fold1 way fv == old.toList) = false := by simpa using hc2
              have HF : Hid (B = false) := Lib.hid (by rw [Lib.toList_data] at hc3; rw [HV0.out, hc3, Bool.false_and])
              clear hc2
              go_wp2_with fail
              refine ⟨by simp, .inl ⟨_, _, rfl, run_takeDeferred hdd, ?_⟩⟩
              refine ⟨_, results_tmp (t := 10) rfl _ _ _, ?_⟩
              exact ⟨(congrArg (fun b => Ending.returned (Value.bool b)) HF.out).symm, below_putObj hbel4 _ hDw hbel4.size⟩
          · have t6 : ((q.length : Int) == 0) = false := by simpa using hq0
            have HF := Lib.hid (HV1.out hq0)
            clear hq0
            go_wp2_with fail
            refine ⟨by simp, .inl ⟨_, _, rfl, run_takeDeferred hdd, ?_⟩⟩
            refine ⟨_, results_tmp (t := 10) rfl _ _ _, ?_⟩
            exact ⟨(congrArg (fun b => Ending.returned (Value.bool b)) HF.out).symm, below_putObj hbel4 _ hDw hbel4.size⟩
end Go.Proofs.YtheebajklnljdaaDoor
end

section
/- The program's digest functions on any list and any numbers (DgE without the laws' own functions). -/
namespace Go.Proofs.YtheebajklnljdaaDoor
open Go Go.RowKit

theorem extB_accept (l : List (List UInt8)) (m : Nat) (hm : m ≤ l.length) : extB (rootL (l.take m)) m (rootL l) (l.length : Nat) (extL l m) = true := by
  unfold extB
  have h32 : (extL l m).all (fun x => decide (x.length = 32)) = true := by
    rw [List.all_eq_true]; intro x hx; simpa using extL_len32 l m x hx
  rw [h32, decide_eq_true (rootL_len _), decide_eq_true (rootL_len _), decide_eq_true (by omega)]
  simp only [Bool.true_and]
  by_cases h0 : m = 0
  · subst h0
    rw [if_pos (by simp)]
    unfold extL
    rw [if_pos rfl, List.take_zero]
    simp [rootL_nil]
  · rw [if_neg (by omega)]
    unfold extL
    rw [if_neg h0]
    by_cases he : m = l.length
    · rw [if_pos (by omega), partL_all l m true (by omega), he, List.take_length]
      simp
    · rw [if_neg (by omega), Int.toNat_natCast, Int.toNat_natCast, partL_ok l.length l m true _ (Nat.le_refl _) (by omega) hm (fun _ => rfl)]
      simp

theorem RowsAt.nil_list {w : World} {A : Option Addr} {c : Nat} : ListAt w (.slice A 0 c) [] := .inl ⟨rfl, A, c, rfl⟩

/-- Root of any list -/
theorem root_list (v : Value) (l : List (List UInt8)) (w : World) (hv : ListAt w v l) (hl : l.length ≤ 1000000) (hs : ∀ x ∈ l, x.length ≤ 900000) (hR : RoundOk w) :
    Calls Tryd.prog 25 #[v] w fun e w' => e = .returned (.string (str (rootL l))) ∧ Below w.heap.size w w' := by
  by_cases h0 : l = []
  · subst h0
    obtain ⟨A, c, rfl⟩ := hv.nil
    exact root_ok _ [] w ⟨A, c, rfl, Nat.zero_le _, fun h => absurd h (by simp [svs])⟩ (by decide) (by simp) hR
  · obtain ⟨g, o, c, rfl, hrow⟩ := hv.rows h0
    exact root_ok _ l w hrow.slice hl hs hR

/-- Extension of any list by a number that is in it -/
theorem ext_list (v : Value) (l : List (List UInt8)) (m : Nat) (w : World) (hv : ListAt w v l) (hl : l.length ≤ 1000000) (hm : m ≤ l.length) (hs : ∀ x ∈ l, x.length ≤ 900000) (hR : RoundOk w) :
    Calls Tryd.prog 38 #[v, .int .i64 m] w fun e w' => ∃ A c, e = .returned (.tuple #[.slice A (extL l m).length c, .int .i64 0]) ∧ ListAt w' (.slice A (extL l m).length c) (extL l m) ∧ Below w.heap.size w w' := by
  by_cases h0 : m = 0
  · subst h0
    obtain ⟨A, c, rfl⟩ := hv.len
    refine (ext_zero A l.length c w).mono ?_
    rintro e w' ⟨rfl, rfl⟩
    exact ⟨none, 0, rfl, .inl ⟨rfl, _, _, rfl⟩, Below.refl _ _⟩
  · obtain ⟨g, o, c, rfl, hrow⟩ := hv.rows (by rintro rfl; simp at hm; omega)
    refine (ext_ok g o l.length c l m w hrow hl (by omega) hm hs hR).mono ?_
    rintro e w' ⟨v', rfl, own, hb⟩
    have hL := listAt_own own
    obtain ⟨A, c', rfl⟩ := hL.len
    exact ⟨A, c', rfl, hL, hb⟩

theorem proof_list (v : Value) (l : List (List UInt8)) (i : Nat) (w : World) (hv : ListAt w v l) (hl : l.length ≤ 1000000) (hi : i < l.length) (hs : ∀ x ∈ l, x.length ≤ 900000) (hR : RoundOk w) :
    Calls Tryd.prog 37 #[v, .int .i64 i] w fun e w' => ∃ A c, e = .returned (.tuple #[.slice A (proofL l i).length c, .int .i64 0]) ∧ ListAt w' (.slice A (proofL l i).length c) (proofL l i) ∧ Below w.heap.size w w' := by
  obtain ⟨g, o, c, rfl, hrow⟩ := hv.rows (by rintro rfl; simp at hi)
  refine (proof_ok g o l.length c l i w hrow hl hi hs hR).mono ?_
  rintro e w' ⟨v', rfl, own, hb⟩
  have hL := listAt_own own
  obtain ⟨A, c', rfl⟩ := hL.len
  exact ⟨A, c', rfl, hL, hb⟩

/-- Verify of any numbers -/
theorem ver_any (root s : ByteArray) (n i : Int) (v : Value) (p : List (List UInt8)) (w : World) (hv : ListAt w v p) (hn : n ≤ 9223372036854775807) (hpl : p.length ≤ 100) (hs : s.size ≤ 900000) (hR : RoundOk w) :
    Calls Tryd.prog 51 #[.string root, .int .i64 n, .int .i64 i, .string s, v] w fun e w' => e = .returned (.bool (verB root.data.toList n i s.data.toList p)) ∧ Below w.heap.size w w' := by
  by_cases hi : i < 0 ∨ n ≤ i
  · exact (ver_no root s n i v p w hi).mono fun e w' ⟨he, hw⟩ => ⟨he, hw ▸ Below.refl _ _⟩
  · obtain ⟨I, rfl⟩ : ∃ I : Nat, i = (I : Int) := ⟨i.toNat, by omega⟩
    obtain ⟨N, rfl⟩ : ∃ N : Nat, n = (N : Int) := ⟨n.toNat, by omega⟩
    cases hp : p.all (fun x => decide (x.length = 32)) with
    | false => exact ver_odd root s N I v p w hv (by omega) hp
    | true => exact ver_ok root s N I v p w hv (by omega) (by omega) hpl hp hs hR

/-- VerifyExtension of any numbers -/
theorem vx_any (old root : ByteArray) (m n : Int) (v : Value) (p : List (List UInt8)) (w : World) (hv : ListAt w v p) (hn : n ≤ 9223372036854775807) (hpl : p.length ≤ 100) (hR : RoundOk w) :
    Calls Tryd.prog 23 #[.string old, .int .i64 m, .string root, .int .i64 n, v] w fun e w' => e = .returned (.bool (extB old.data.toList m root.data.toList n p)) ∧ Below w.heap.size w w' := by
  by_cases hi : m < 0 ∨ n < m
  · exact (vx_no old root m n v p w hi).mono fun e w' ⟨he, hw⟩ => ⟨he, hw ▸ Below.refl _ _⟩
  · obtain ⟨M, rfl⟩ : ∃ M : Nat, m = (M : Int) := ⟨m.toNat, by omega⟩
    obtain ⟨N, rfl⟩ : ∃ N : Nat, n = (N : Int) := ⟨n.toNat, by omega⟩
    cases hp : p.all (fun x => decide (x.length = 32)) with
    | false => exact vx_odd old root M N v p w hv (by omega) hp
    | true =>
      by_cases ho : old.size = 32
      · by_cases hr : root.size = 32
        · by_cases he : M = 0 ∨ M = N
          · exact vx_edge old root M N v p w hv (by omega) hp ho hr he hR
          · exact vx_ok old root M N v p w hv (by omega) (by omega) (by omega) hpl hp ho hr hR
        · exact vx_root old root M N v p w hv (by omega) hp ho hr
      · exact vx_old old root M N v p w hv (by omega) hp ho
end Go.Proofs.YtheebajklnljdaaDoor
end

