/- Joined: TreB TreC TreD TreE Revo TreG TreH Sides VerA DgM. -/
import Derived.Test.YtgbemgndbemllaaGreatDoorQTreA
import Derived.Test.YtgbemgndbemllaaGreatDoorGe
import Derived.Deep.AppendLies
import Derived.StillTailTactics
import Derived.BigQuiet
import Derived.Test.YtgbemgndbemllaaGreatDoorShelf
import Derived.Test.YtgbemgndbemllaaGreatDoorGc
import Derived.Deep.RegionHeld3

section
/- Root: the entries are laid on a stack of complete parts. -/
namespace Go.Proofs.YtgbemgndbemllaaGreatDoor
open Go Go.RowKit
attribute [local go_sem] Oper.semAt_some

theorem outL_length (v : V8) : (outL v).length = 32 := rfl
theorem shaL_length (l : List UInt8) : (shaL l).length = 32 := rfl
theorem rootL_length : ∀ l : List (List UInt8), (rootL l).length = 32
  | [] => rfl
  | [_] => rfl
  | _ :: _ :: _ => rfl

def svs (ls : List (List UInt8)) : List Value := ls.map fun x => Value.string (str x)
def ivs (ns : List Nat) : List Value := ns.map fun (n : Nat) => Value.int .i64 (n : Int)

theorem Tryz.infoStr : (Tryz.prog.info? 9).map (fun i => (i.zero, i.size, i.bytes)) = some (some (.string ⟨#[]⟩), 1, 16) := by kernel_rfl
theorem Tryz.infoInt : (Tryz.prog.info? 3).map (fun i => (i.zero, i.size, i.bytes)) = some (some (.int .i64 0), 1, 8) := by kernel_rfl
theorem info_str : ∃ i, Tryz.prog.info? 9 = some i ∧ i.zero = some (.string ⟨#[]⟩) ∧ i.size = 1 ∧ i.bytes = 16 := by
  obtain ⟨i0, hi, hz0, hz1, hz2⟩ := info_parts Tryz.infoStr
  exact ⟨i0, hi, hz0, hz1, hz2⟩
theorem info_int : ∃ i, Tryz.prog.info? 3 = some i ∧ i.zero = some (.int .i64 0) ∧ i.size = 1 ∧ i.bytes = 8 := by
  obtain ⟨i0, hi, hz0, hz1, hz2⟩ := info_parts Tryz.infoInt
  exact ⟨i0, hi, hz0, hz1, hz2⟩

theorem ownsRow_drew {w : World} {base : Nat} {e : TypeId} {v : Value} {k : Nat} {xs : List Value} (h : w.ownsRow base e 1 v k xs) : w.drew.ownsRow base e 1 v k xs := h
structure StackAt (w : World) (base : Nat) (vw vs : Value) (ps : List (List (List UInt8))) : Prop where
  whole : w.ownsRow base 9 1 vw ps.length (svs (ps.map rootL))
  sizes : w.ownsRow base 3 1 vs ps.length (ivs (ps.map List.length))

theorem StackAt.nil (w : World) (base : Nat) : StackAt w base (.slice none 0 0) (.slice none 0 0) [] := ⟨World.ownsRow_nil w base _ 1, World.ownsRow_nil w base _ 1⟩
theorem StackAt.drew' {w : World} {base : Nat} {vw vs : Value} {ps : List (List (List UInt8))} (h : StackAt w base vw vs ps) : StackAt w.drew base vw vs ps := ⟨h.1, h.2⟩
theorem StackAt.alloc' {w : World} {base : Nat} {vw vs : Value} {ps : List (List (List UInt8))} (h : StackAt w base vw vs ps) (o : Obj) : StackAt (w.alloc o) base vw vs ps := ⟨h.1.alloc o, h.2.alloc o⟩
theorem StackAt.below {w w' : World} {base : Nat} {vw vs : Value} {ps : List (List (List UInt8))} (h : StackAt w base vw vs ps) (hb : Below w.heap.size w w') : StackAt w' base vw vs ps := ⟨ownsRow_below hb h.whole, ownsRow_below hb h.sizes⟩

theorem grownBy_drewR {w w' : World} {row : Option Nat} (h : w.grownBy w' row) : w.grownBy w'.drew row := ⟨h.os, h.tape, h.output, h.size, h.block⟩

/-- rows of two types lie in two blocks -/
theorem rows_apart {w : World} {base base' : Nat} {e e' : TypeId} {v v' : Value} {k k' : Nat} {xs xs' : List Value} (h : w.ownsRow base e 1 v k xs) (h' : w.ownsRow base' e' 1 v' k' xs') (he : e ≠ e') : v'.ownBlock = none ∨ v'.ownBlock ≠ v.ownBlock := by
  rcases h'.2 with ⟨rfl, _⟩ | ⟨g', cap', cur', rfl, _, hg', _⟩
  · exact .inl rfl
  · right
    rcases h.2 with ⟨rfl, _⟩ | ⟨g, cap, cur, rfl, _, hg, _⟩
    · simp [Value.ownBlock]
    · intro e1
      have e2 : g' = g := by simpa [Value.ownBlock] using e1
      subst e2
      have := hg.symm.trans hg'
      simp at this
      exact he this.2

theorem svs_snoc (l : List (List UInt8)) (x : List UInt8) : svs (l ++ [x]) = svs l ++ [.string (str x)] := by simp [svs]
theorem ivs_snoc (l : List Nat) (x : Nat) : ivs (l ++ [x]) = ivs l ++ [.int .i64 (x : Int)] := by simp [ivs]
theorem svs_length (l : List (List UInt8)) : (svs l).length = l.length := by simp [svs]
theorem svs_get (l : List (List UInt8)) (k : Nat) (x : List UInt8) (h : l[k]? = some x) : (svs l)[k]? = some (.string (str x)) := by simp [svs, h]

theorem PartsE.init {ps : List (List (List UInt8))} {b : List (List UInt8)} (h : PartsE (ps ++ [b])) : Parts ps := by
  obtain ⟨qs2, b2, e, _, h, _⟩ := h
  have := (List.append_inj' e rfl).1
  rw [this]; exact h
theorem Parts.len : ∀ {ps : List (List (List UInt8))}, Parts ps → ps.length ≤ ps.flatten.length
  | [], _ => by simp
  | p :: t, h => by
    have := Parts.len h.tail
    obtain ⟨k, hk⟩ := h.pow p (by simp)
    have := Nat.one_le_two_pow (n := k)
    rw [List.flatten_cons, List.length_append, List.length_cons]
    omega
theorem PartsE.len {ps : List (List (List UInt8))} (h : PartsE ps) : ps.length ≤ ps.flatten.length := by
  obtain ⟨qs, b, rfl, ⟨k, hk⟩, hq, _⟩ := h
  have := hq.len
  have := Nat.one_le_two_pow (n := k)
  rw [List.flatten_append, List.length_append, List.length_append]
  simp only [List.length_cons, List.length_nil, List.flatten_cons, List.flatten_nil, List.append_nil]
  omega

/-- the facts behind the two appends -/
theorem StackAt.push {w2 w3 w4 : World} {base : Nat} {vw vs v1 v2 : Value} {ps : List (List (List UInt8))} {p : List (List UInt8)} {o1 o2 : Obj} (h : StackAt w2 base vw vs ps)
    (own1 : w3.ownsRow base 9 1 v1 (ps.length + 1) (svs (ps.map rootL) ++ [.string (str (rootL p))])) (g1 : (w2.alloc o1).grownBy w3 vw.ownBlock)
    (own2 : w4.ownsRow base 3 1 v2 (ps.length + 1) (ivs (ps.map List.length) ++ [.int .i64 (p.length : Int)])) (g2 : (w3.alloc o2).grownBy w4 vs.ownBlock) : StackAt w4 base v1 v2 (ps ++ [p]) := by
  have hs3 : w3.ownsRow base 3 1 vs ps.length (ivs (ps.map List.length)) := (h.sizes.alloc o1).kept g1 (rows_apart (h.whole.alloc o1) (h.sizes.alloc o1) (by decide))
  have hw4 := (own1.alloc o2).kept g2 (rows_apart (hs3.alloc o2) (own1.alloc o2) (by decide))
  refine ⟨?_, ?_⟩
  · rw [List.length_append, List.map_append, List.map_cons, List.map_nil, svs_snoc]; exact hw4
  · rw [List.length_append, List.map_append, List.map_cons, List.map_nil, ivs_snoc]; exact own2
theorem StackAt.sizes_kept {w2 w3 : World} {base : Nat} {vw vs : Value} {ps : List (List (List UInt8))} {o1 : Obj} (h : StackAt w2 base vw vs ps) (g1 : (w2.alloc o1).grownBy w3 vw.ownBlock) :
    w3.ownsRow base 3 1 vs ps.length (ivs (ps.map List.length)) := (h.sizes.alloc o1).kept g1 (rows_apart (h.whole.alloc o1) (h.sizes.alloc o1) (by decide))

theorem ownsRow_pop {w : World} {base : Nat} {e : TypeId} {g n m cap : Nat} {xs : List Value} (h : w.ownsRow base e 1 (.slice (some ⟨g, 0, none⟩) (n + m) cap) (n + m) xs) :
    w.ownsRow base e 1 (.slice (some ⟨g, 0, none⟩) n cap) n (xs.take n) := by
  obtain ⟨hl, h⟩ := h
  refine ⟨by rw [List.length_take]; omega, .inr ?_⟩
  rcases h with ⟨h, _⟩ | ⟨g', cap', cur, hv, hb, hg, hn, hm, hc, ht⟩
  · cases h
  · injection hv with e1 e2 e3
    injection e1 with e1
    injection e1 with e1
    subst e1 e3
    exact ⟨g, cap, cur, rfl, hb, hg, by omega, hm, hc, by rw [← ht, List.take_take]; congr 1; omega⟩

theorem add_zero_off (g k : Nat) : (⟨g, 0, none⟩ : Addr).add k = ⟨g, k, none⟩ := by unfold Addr.add; split <;> simp_all

theorem ownsRow_cell {w : World} {base : Nat} {e : TypeId} {g n cap : Nat} {xs : List Value} (h : w.ownsRow base e 1 (.slice (some ⟨g, 0, none⟩) n cap) n xs) (k : Nat) (u : Value) (hk : xs[k]? = some u) :
    w.cell? ⟨g, k, none⟩ = some u := by
  have hl := h.1
  rw [Nat.mul_one] at hl
  have hkl := (List.getElem?_eq_some_iff.1 hk).1
  obtain ⟨g', cap', cs, hv, _, hb, _, _, ht⟩ := ownsRow_blk h (by omega)
  injection hv with e1 e2 e3
  injection e1 with e1
  injection e1 with e1
  subst e1
  rw [hb.cell]
  rw [← ht, List.getElem?_take] at hk
  split at hk
  · exact hk
  · cases hk

/-- the two last parts of a stack -/
theorem StackAt.top {w : World} {base : Nat} {vw vs : Value} {rs : List (List (List UInt8))} {a b : List (List UInt8)} (h : StackAt w base vw vs (rs ++ [a] ++ [b])) :
    ∃ gw cw gs cs, vw = .slice (some ⟨gw, 0, none⟩) (rs.length + 2) cw ∧ vs = .slice (some ⟨gs, 0, none⟩) (rs.length + 2) cs ∧ rs.length + 2 ≤ cw ∧ rs.length + 2 ≤ cs ∧ cw ≤ maxLen ∧ cs ≤ maxLen ∧
      w.cell? ⟨gw, rs.length, none⟩ = some (.string (str (rootL a))) ∧ w.cell? ⟨gw, rs.length + 1, none⟩ = some (.string (str (rootL b))) ∧
      w.cell? ⟨gs, rs.length, none⟩ = some (.int .i64 (a.length : Int)) ∧ w.cell? ⟨gs, rs.length + 1, none⟩ = some (.int .i64 (b.length : Int)) ∧
      StackAt w base (.slice (some ⟨gw, 0, none⟩) rs.length cw) (.slice (some ⟨gs, 0, none⟩) rs.length cs) rs := by
  have hl : (rs ++ [a] ++ [b]).length = rs.length + 2 := by simp
  obtain ⟨h1, h2⟩ := h
  rw [hl] at h1 h2
  obtain ⟨gw, cw, csw, rfl, _, _, hw1, hw2, _⟩ := ownsRow_blk h1 (by omega)
  obtain ⟨gs, cs, css, rfl, _, _, hs1, hs2, _⟩ := ownsRow_blk h2 (by omega)
  have e1 : svs ((rs ++ [a] ++ [b]).map rootL) = svs (rs.map rootL) ++ [.string (str (rootL a)), .string (str (rootL b))] := by simp [svs]
  have e2 : ivs ((rs ++ [a] ++ [b]).map List.length) = ivs (rs.map List.length) ++ [.int .i64 (a.length : Int), .int .i64 (b.length : Int)] := by simp [ivs]
  rw [e1] at h1
  rw [e2] at h2
  have l1 : (svs (rs.map rootL)).length = rs.length := by simp [svs]
  have l2 : (ivs (rs.map List.length)).length = rs.length := by simp [ivs]
  refine ⟨gw, cw, gs, cs, rfl, rfl, hw1, hs1, hw2, hs2, ownsRow_cell h1 _ _ ?_, ownsRow_cell h1 _ _ ?_, ownsRow_cell h2 _ _ ?_, ownsRow_cell h2 _ _ ?_, ⟨?_, ?_⟩⟩
  · rw [List.getElem?_append_right (by omega), l1, Nat.sub_self]; rfl
  · rw [List.getElem?_append_right (by omega), l1, Nat.add_sub_cancel_left]; rfl
  · rw [List.getElem?_append_right (by omega), l2, Nat.sub_self]; rfl
  · rw [List.getElem?_append_right (by omega), l2, Nat.add_sub_cancel_left]; rfl
  · have := ownsRow_pop h1
    rwa [List.take_left' l1] at this
  · have := ownsRow_pop h2
    rwa [List.take_left' l2] at this

/-- between two rounds of a range over a function, of which the body keeps block hb -/
structure LoopJ (W1 : World) (rec : Loop) (hb L : Nat) (t : TypeId) (cs : List Value) (W : World) : Prop where
  rl : W.heap[L]? = some (.loop rec)
  blk : BlkIs W hb t cs
  os : W.os = W1.os
  tape : W.tape = W1.tape
  output : W.output = W1.output
  size : W1.heap.size ≤ W.heap.size
  block : ∀ b, b < W1.heap.size → b ≠ hb → b ≠ L → W.heap[b]? = W1.heap[b]?
theorem LoopJ.cell {W1 : World} {rec : Loop} {hb L : Nat} {t : TypeId} {cs : List Value} {W : World} (h : LoopJ W1 rec hb L t cs W) {a : Addr} {v : Value} (hc : W1.cell? a = some v) (h1 : a.block ≠ hb) (h2 : a.block ≠ L) : W.cell? a = some v :=
  (World.cell?_of_block (h.block a.block (block_of_cell hc) h1 h2)).trans hc
theorem LoopJ.below {W1 w : World} {rec : Loop} {hb L : Nat} {t : TypeId} {cs : List Value} {W : World} (h : LoopJ W1 rec hb L t cs W) (hw : Below w.heap.size w W1) (h1 : w.heap.size ≤ hb) (h2 : w.heap.size ≤ L) : Below w.heap.size w W :=
  ⟨h.os.trans hw.os, h.tape.trans hw.tape, h.output.trans hw.output, Nat.le_trans hw.size h.size, fun b hb' => (h.block b (Nat.lt_of_lt_of_le hb' hw.size) (by omega) (by omega)).trans (hw.block b hb')⟩
theorem LoopJ.busy {W1 : World} {r0 r1 : Loop} {hb L : Nat} {t : TypeId} {cs : List Value} {W : World} (h : LoopJ W1 r0 hb L t cs W) (hl : hb ≠ L) : LoopJ W1 r1 hb L t cs (W.putObj L (.loop r1)) :=
  ⟨World.putObj_heap_same (cellsBlock_size h.rl), (World.putObj_heap_other hl).trans h.blk, h.os, h.tape, h.output, Nat.le_trans h.size (grownBy_putObj' W L _).size, fun b hb1 hb2 hb3 => (World.putObj_heap_other hb3).trans (h.block b hb1 hb2 hb3)⟩
theorem LoopJ.step {W1 : World} {r0 : Loop} {hb L : Nat} {t : TypeId} {cs cs' : List Value} {W W' : World} (h : LoopJ W1 r0 hb L t cs W) (hl : hb ≠ L) (hu : Upd hb W W') (hn : BlkIs W' hb t cs') : LoopJ W1 r0 hb L t cs' W' :=
  ⟨(hu.block L (cellsBlock_size h.rl) (Ne.symm hl)).trans h.rl, hn, hu.os.trans h.os, hu.tape.trans h.tape, hu.output.trans h.output, Nat.le_trans h.size hu.size, fun b hb1 hb2 hb3 => (hu.block b (Nat.lt_of_lt_of_le hb1 h.size) hb2).trans (h.block b hb1 hb2 hb3)⟩
theorem LoopJ.under {W1 : World} {r0 : Loop} {hb L : Nat} {t : TypeId} {cs : List Value} {W W' : World} (h : LoopJ W1 r0 hb L t cs W) (hl : hb ≠ L) (hu : Below W.heap.size W W') : LoopJ W1 r0 hb L t cs W' :=
  h.step hl ⟨hu.os, hu.tape, hu.output, hu.size, fun k hk _ => hu.block k hk⟩ (h.blk.later hu)

/-- what Root's last loop has after k rounds -/
def accL (xs : List ByteArray) (x : List UInt8) (k : Nat) : List UInt8 := (xs.reverse.take k).foldl (fun (o : List UInt8) r => nodeL r.data.toList o) x
theorem foldN_length (l : List ByteArray) : ∀ x : List UInt8, x.length = 32 → (l.foldl (fun (o : List UInt8) r => nodeL r.data.toList o) x).length = 32 := by
  induction l with
  | nil => intro x h; exact h
  | cons a t ih => intro x _; exact ih _ (shaL_length _)
theorem accL_length (xs : List ByteArray) (x : List UInt8) (k : Nat) (h : x.length = 32) : (accL xs x k).length = 32 := foldN_length _ x h
theorem accL_succ (xs : List ByteArray) (x : List UInt8) (k i : Nat) (r : ByteArray) (hi : i + k + 1 = xs.length) (hr : xs[i]? = some r) : accL xs x (k + 1) = nodeL r.data.toList (accL xs x k) := by
  have h : xs.reverse[k]? = some r := by
    rw [List.getElem?_reverse (by omega), show xs.length - 1 - k = i by omega]; exact hr
  unfold accL
  rw [List.take_add_one, h, List.foldl_append]
  rfl

set_option maxRecDepth 100000 in
set_option maxHeartbeats 4000000 in
theorem root_ok (v : Value) (ls : List (List UInt8)) (w : World) (hv : SliceAt w v (svs ls)) (hlen : ls.length ≤ 1000000) (hs : ∀ x ∈ ls, x.length ≤ 900000) (hR : RoundOk w) :
    Calls Tryz.prog 25 #[v] w fun e w' => e = .returned (.string (str (rootL ls))) ∧ Below w.heap.size w w' := by
  obtain ⟨i0, hi, hz0, hz1, hz2⟩ := info_str
  obtain ⟨j0, hj, hy0, hy1, hy2⟩ := info_int
  have hsl := hv
  obtain ⟨A, c, rfl, hc, hcells⟩ := hv
  have ln : (svs ls).length = ls.length := by simp [svs]
  rw [ln] at hc hcells ⊢
  obtain ⟨n, hn⟩ : ∃ n, n = ls.length := ⟨_, rfl⟩
  rw [← hn] at hc hcells hlen ⊢
  clear hsl ln
  have HC := Lib.hid hcells
  have HN := Lib.hid hn
  have HS := Lib.hid hs
  clear hcells hn hs
  refine (callsIn_wide (n := 3)).1 ?_
  refine callsIn_of_wp_marks Tryz.func25 rfl trivial ?_ rfl
  simp only [Tryz.ntmps25, List.size_toArray, List.length_cons, List.length_nil, Nat.reduceAdd, Nat.reduceSub, Array.replicate_succ, Array.replicate_zero, List.push_toArray, List.append_toArray, List.nil_append, List.cons_append]
  refine wpIn_wide.2 ?_
  go_upto_region 3 with fail
  go_wp2_with fail
  go_loopw [3, 4, 13] (fun vw vs iv wr => ∃ (k : Nat) (ps : List (List (List UInt8))), k ≤ n ∧ iv = .int .i64 k ∧ ls.take k = ps.flatten ∧ Parts ps ∧ StackAt wr w.heap.size vw vs ps ∧ Below w.heap.size w wr) (fun _ _ iv _ => n - (intOf iv).toNat)
  case atStart => exact ⟨0, [], by omega, rfl, rfl, trivial, StackAt.nil _ _, Below.refl _ _⟩
  case round =>
    obtain ⟨k, ps, hk, rfl, hps, hP, hst, hb⟩ := hrel
    have hle := hb.size
    have hpl : ps.length ≤ k := by
      have h1 := hP.len
      rw [← hps, List.length_take] at h1
      omega
    by_cases hkn : k < n
    · have t1 : decide ((k : Int) < (n : Int)) = true := by simp; omega
      have k0 : (0 : Int) ≤ (k : Int) := by omega
      have k1 : (k : Int) < (n : Int) := by omega
      obtain ⟨x, hx⟩ : ∃ x, ls[k]? = some x := ⟨_, List.getElem?_eq_getElem (by rw [← HN.out]; exact hkn)⟩
      obtain ⟨ad, hA, had, hcl⟩ := HC.out (by omega)
      subst hA
      have hx2 : wr.cell? (ad.add k) = some (.string (str x)) := (hb.cell (p := ad.add k) (by rw [block_add]; exact had)).trans (hcl k _ (svs_get ls k x hx))
      have hxs : (str x).size ≤ 900000 := by rw [size_mk]; exact HS.out x (List.mem_of_getElem? hx)
      have hfl : ls.take (k + 1) = (ps ++ [[x]]).flatten := by rw [List.take_add_one, hx, hps]; simp
      have hPE := hP.push x
      have HX := Lib.hid hx
      have HP := Lib.hid hps
      clear hx hps hcl
      go_wp2_with fail
      refine (leaf_ok (str x) wr hxs (hR.later hb)).mono ?_
      rintro e w2 ⟨rfl, b2⟩
      have st2 := hst.below b2
      have hb2 := Below.next hb b2
      have hle2 := hb2.size
      have ex : leafL (str x).data.toList = rootL [x] := by simp [rootL]; rfl
      rw [ex]
      clear ex
      go_wp2_with (first
        | (at_builtin; refine wpList_append_own _ rfl _ _ 43 rfl w.heap.size 9 i0 (.string ⟨#[]⟩) 1 16 Tryz.underlying43 hi hz0 hz1 hz2 rfl (by decide) u3 _ _ rfl (st2.whole.alloc _) ⟨w2.heap.size, 0, none⟩ 1 1 [.string (str (rootL [x]))] rfl rfl (cell_one_new _ _ _) (by simp [Value.oneCell']) (by unfold maxLen; omega) (by omega) (by simp; omega) ?_; intro v1 w3 own1 g1 _; have b3 := Below.appended hb2 hle2 st2.whole g1; have hle3 := b3.size; have sz3 := st2.sizes_kept g1)
        | (at_builtin; refine wpList_append_own _ rfl _ _ 122 rfl w.heap.size 3 j0 (.int .i64 0) 1 8 Tryz.underlying122 hj hy0 hy1 hy2 rfl (by decide) u4 _ _ rfl (sz3.alloc _) ⟨w3.heap.size, 0, none⟩ 1 1 [.int .i64 1] rfl rfl (cell_one_new _ _ _) (by simp [Value.oneCell']) (by unfold maxLen; omega) (by omega) (by simp; omega) ?_; intro v2 w4 own2 g2 _; obtain ⟨gs, cps, hv2, _, _⟩ := own2.form (Nat.succ_pos _); subst hv2))
      have st4 : StackAt w4 w.heap.size v1 (.slice (some ⟨gs, 0, none⟩) (ps.length + 1) cps) (ps ++ [[x]]) := st2.push own1 g1 own2 g2
      have b4 := Below.appended b3 hle3 sz3 g2
      clear own1 own2 g1 g2 sz3 b3 hle3 st2 hb2 hle2 b2 hx2 hxs hst hb hle hP
      obtain ⟨wz, rfl⟩ : ∃ wz : World, wz = wr := ⟨_, rfl⟩
      go_loopw [3, 4, 7] (fun vw vs nv wr => ∃ (qs : List (List (List UInt8))) (b : List (List UInt8)), nv = .int .i64 (qs.length + 1 : Nat) ∧ ls.take (k + 1) = (qs ++ [b]).flatten ∧ PartsE (qs ++ [b]) ∧ StackAt wr w.heap.size vw vs (qs ++ [b]) ∧ Below w.heap.size w wr) (fun _ _ nv _ => (intOf nv).toNat)
      case atStart => exact ⟨ps, [x], rfl, hfl, hPE, st4, b4⟩
      case round =>
        clear st4 b4 hfl hPE
        obtain ⟨qs, b, rfl, hfl, hPE, hst, hb⟩ := hrel
        rcases List.eq_nil_or_concat qs with rfl | ⟨rs, a, rfl⟩
        · have hP1 : Parts ([] ++ [b]) := by
            obtain ⟨qs2, b2, e, h, _⟩ := hPE
            have := List.append_inj' e rfl
            cases this.2
            exact h
          go_wp2_with fail
          go_region
          go_wp2_with fail
          exact ⟨⟨k + 1, [] ++ [b], by omega, by go_num, hfl, hP1, ⟨hst.1, hst.2⟩, hb.drew⟩, by simp [intOf]; omega⟩
        · obtain ⟨r, hr⟩ : ∃ r, r = rs.length := ⟨_, rfl⟩
          obtain ⟨m, hm⟩ : ∃ m, m = r + 2 := ⟨_, rfl⟩
          obtain ⟨r1, hr1⟩ : ∃ r1, r1 = r + 1 := ⟨_, rfl⟩
          have hlm : (rs.concat a).length + 1 = m := by simp; omega
          rw [hlm]
          rw [List.concat_eq_append] at hfl hPE hst
          obtain ⟨gw, cw, gs, cs, rfl, rfl, hw1, hs1, hw2, hs2, c1, c2, c3, c4, hpop⟩ := hst.top
          have hln := hPE.len
          rw [← hfl, List.length_take, List.length_append, List.length_append] at hln
          simp only [List.length_cons, List.length_nil] at hln
          rw [← hr] at hw1 hs1 c1 c2 c3 c4 hpop hln
          rw [← hm] at hw1 hs1
          rw [← hr1] at c2 c4
          unfold maxLen at hw2 hs2
          have i1 : (m : Int) - 2 = (r : Int) := by omega
          have i2 : (m : Int) - 1 = (r1 : Int) := by omega
          have i3 : (0 : Int) ≤ (r : Int) := by omega
          have i4 : (r : Int) < (m : Int) := by omega
          have i5 : (0 : Int) ≤ (r1 : Int) := by omega
          have i6 : (r1 : Int) < (m : Int) := by omega
          have i7 : (r : Int) ≤ (cw : Int) := by omega
          have i8 : (r : Int) ≤ (cs : Int) := by omega
          have i9 : (m : Int) ≤ 1000002 := by omega
          have w1 : IntKind.i64.wrap (r : Int) = (r : Int) := by rw [IntKind.wrap_i64]; omega
          have w2 : IntKind.i64.wrap (r1 : Int) = (r1 : Int) := by rw [IntKind.wrap_i64]; omega
          have w3 : IntKind.i64.wrap ((m : Int) - 2) = (r : Int) := by rw [i1]; exact w1
          have w4 : IntKind.i64.wrap ((m : Int) - 1) = (r1 : Int) := by rw [i2]; exact w2
          have t2 : decide (1 < (m : Int)) = true := by simp; omega
          have hm2 : rs.length + 2 = m := by omega
          rw [hm2] at hst ⊢
          have hmr := hm
          have hr1r := hr1
          have hle := hb.size
          by_cases hab : b.length = a.length
          · have t3 : ((a.length : Int) == (b.length : Int)) = true := by simp; omega
            have HFL := Lib.hid hfl
            have HRR := Lib.hid hr
            have HR := Lib.hid hm
            have HR1 := Lib.hid hr1
            have HAB := Lib.hid hab
            clear hfl hlm hmr hr1r hab hm2 hr hm hr1
            go_wp2_with fail
            go_quiet (fail)
            have hst0 : StackAt (wr.drewN nq) w.heap.size (.slice (some ⟨gw, 0, none⟩) m cw) (.slice (some ⟨gs, 0, none⟩) m cs) (rs ++ [a] ++ [b]) := ⟨hst.1, hst.2⟩
            have hpop0 : StackAt (wr.drewN nq) w.heap.size (.slice (some ⟨gw, 0, none⟩) r cw) (.slice (some ⟨gs, 0, none⟩) r cs) rs := ⟨hpop.1, hpop.2⟩
            have hb0 : Below w.heap.size w (wr.drewN nq) := below_drewN' hb nq
            have d1 : (wr.drewN nq).cell? ⟨gw, r, none⟩ = some (.string (str (rootL a))) := c1
            have d2 : (wr.drewN nq).cell? ⟨gw, r1, none⟩ = some (.string (str (rootL b))) := c2
            have d4 : (wr.drewN nq).cell? ⟨gs, r1, none⟩ = some (.int .i64 (b.length : Int)) := c4
            clear hst hpop hb c1 c2 c3 c4 t2 hle
            generalize wr.drewN nq = W0 at *
            have hPa := hPE.init
            have hnode : nodeL (str (rootL a)).data.toList (str (rootL b)).data.toList = rootL (a ++ b) := by
              rw [mk_toList, mk_toList]; exact merge_root hPa HAB.out
            have HPa := Lib.hid hPa
            have HPE := Lib.hid hPE
            have cN : ∀ W : World, W.cell? ⟨gw, r, none⟩ = some (.string (str (rootL a))) → W.cell? ⟨gw, r1, none⟩ = some (.string (str (rootL b))) → StackAt W w.heap.size (.slice (some ⟨gw, 0, none⟩) m cw) (.slice (some ⟨gs, 0, none⟩) m cs) (rs ++ [a] ++ [b]) → StackAt W w.heap.size (.slice (some ⟨gw, 0, none⟩) r cw) (.slice (some ⟨gs, 0, none⟩) r cs) rs → Below w.heap.size w W → Calls Tryz.prog 57 #[.string (str (rootL a)), .string (str (rootL b))] W fun e w' => e = .returned (.string (str (rootL (a ++ b)))) ∧ w'.cell? ⟨gw, r, none⟩ = some (.string (str (rootL a))) ∧ w'.cell? ⟨gw, r1, none⟩ = some (.string (str (rootL b))) ∧ StackAt w' w.heap.size (.slice (some ⟨gw, 0, none⟩) m cw) (.slice (some ⟨gs, 0, none⟩) m cs) (rs ++ [a] ++ [b]) ∧ StackAt w' w.heap.size (.slice (some ⟨gw, 0, none⟩) r cw) (.slice (some ⟨gs, 0, none⟩) r cs) rs ∧ Below w.heap.size w w' := by
              intro W k1 k2 k3 k4 k5
              have h := node_ok (str (rootL a)) (str (rootL b)) W (by rw [size_mk, size_mk, rootL_length, rootL_length]; decide) (hR.later k5)
              rw [hnode] at h
              exact h.mono fun e w' ⟨he, hb⟩ => ⟨he, (hb.cell (block_of_cell k1)).trans k1, (hb.cell (block_of_cell k2)).trans k2, k3.below hb, k4.below hb, Below.next k5 hb⟩
            clear hPa hPE hnode
            go_wp2_with fail
            refine wp_region_noPanic ?_
            go_region_law (first
                | (go_simp; go_at_call 57; refine (cN _ ?_ ?_ ?_ ?_ ?_).mono ?_; (first | assumption | exact d1 | (simp [*]; done)); (first | assumption | exact d2 | (simp [*]; done)); (first | assumption | exact hst0.drew'); (first | assumption | exact hpop0.drew'); (first | assumption | exact hb0.drew); rintro e w6 ⟨rfl, q1, q2, q3, q4, q5⟩; have qw := q4.whole; rw [← HRR.out] at qw; have qle := q5.size; dsimp only)
                | (refine step_append_lies _ (by rfl) _ _ 43 (by rfl) w.heap.size 9 i0 (.string ⟨#[]⟩) 1 16 Tryz.underlying43 hi hz0 hz1 hz2 rfl (by decide) (.slice (some ⟨gw, 0, none⟩) r cw) r _ rfl (qw.alloc _) ⟨w6.heap.size, 0, none⟩ 1 1 [.string (str (rootL (a ++ b)))] rfl rfl (cell_one_new _ _ _) (by simp [Value.oneCell']) (by decide) (by unfold maxLen; omega) (by omega) (by simp; omega) _ rfl ?_; intro g7 cp7 w7 own1 g1 _ _))
            all_goals (
              refine NoPanic.normal ?_
              have sz7 := q3.sizes_kept g1
              have psz7 := q4.sizes_kept g1
              rw [← HRR.out] at psz7
              have hb7 := Below.appended q5 qle qw g1
              have hle7 := hb7.size
              have hl2 : (rs ++ [a] ++ [b]).length = m := by have h1 := HRR.out; have h2 := HR.out; simp; omega
              rw [hl2] at sz7
              have c7 : w7.cell? ⟨gs, r1, none⟩ = some (.int .i64 (b.length : Int)) := by
                refine ownsRow_cell sz7 r1 _ ?_
                have h1 := HRR.out
                have h2 := HR1.out
                rw [List.map_append, List.map_cons, List.map_nil, ivs_snoc, List.getElem?_append_right (by simp [ivs]; omega)]
                simp [ivs, h2, h1]
              have hLab : (a ++ b).length = 2 * b.length := by rw [List.length_append, HAB.out]; omega
              have hLle : (a ++ b).length ≤ k + 1 := by
                have h1 := congrArg List.length HFL.out
                rw [List.length_take, List.flatten_append, List.flatten_append, List.length_append, List.length_append] at h1
                simp only [List.flatten_cons, List.flatten_nil, List.append_nil] at h1
                rw [List.length_append]
                omega
              obtain ⟨L, hL⟩ : ∃ L, L = (a ++ b).length := ⟨_, rfl⟩
              rw [← hL] at hLab hLle
              have x1 : (2 : Int) * (b.length : Int) = (L : Int) := by omega
              have x2 : IntKind.i64.wrap (L : Int) = (L : Int) := by rw [IntKind.wrap_i64]; omega
              have x3 : IntKind.i64.wrap (2 * (b.length : Int)) = (L : Int) := by rw [x1]; exact x2
              have HLL := Lib.hid hL
              clear sz7 q1 q2 q3 q5 qle hl2 hL hLab
              have own1d : w7.drew.ownsRow w.heap.size 9 1 (.slice (some ⟨g7, 0, none⟩) (r + 1) cp7) (r + 1) (svs (rs.map rootL) ++ [.string (str (rootL (a ++ b)))]) := own1
              have g1d := grownBy_drewR g1
              have psz7d : w7.drew.ownsRow w.heap.size 3 1 (.slice (some ⟨gs, 0, none⟩) r cs) r (ivs (rs.map List.length)) := psz7
              have hb7d : Below w.heap.size w w7.drew := hb7.drew
              have hle7d : w.heap.size ≤ w7.drew.heap.size := hle7
              clear own1 g1 psz7 hb7
              go_wp2_with fail
              refine wp_region_noPanic ?_
              go_region_law (refine step_append_lies _ (by rfl) _ _ 122 (by rfl) w.heap.size 3 j0 (.int .i64 0) 1 8 Tryz.underlying122 hj hy0 hy1 hy2 rfl (by decide) (.slice (some ⟨gs, 0, none⟩) r cs) r _ rfl (psz7d.alloc _) ⟨w7.heap.size, 0, none⟩ 1 1 [.int .i64 (L : Int)] rfl rfl (cell_one_new _ _ _) (by simp [Value.oneCell']) (by decide) (by unfold maxLen; omega) (by omega) (by simp; omega) _ rfl ?_; intro g9 cp9 w9 own2 g2 _ _)
              refine NoPanic.normal ?_
              have hb9 := Below.appended hb7d hle7d psz7d g2
              have hst9 : StackAt w9 w.heap.size (.slice (some ⟨g7, 0, none⟩) (r + 1) cp7) (.slice (some ⟨g9, 0, none⟩) (r + 1) cp9) (rs ++ [a ++ b]) := by
                rw [HLL.out] at own2
                have h1 := HRR.out
                rw [h1] at own1d own2 g1d g2 q4 ⊢
                exact q4.push own1d g1d own2 g2
              go_wp2_with fail
              exact ⟨⟨rs, a ++ b, by have h1 := HRR.out; have h2 := HR1.out; go_num, by rw [HFL.out]; simp, HPa.out.merge HAB.out, hst9, hb9⟩, by simp [intOf]; omega⟩)
          · have t3 : ((a.length : Int) == (b.length : Int)) = false := by simp; omega
            have hP2 : Parts (rs ++ [a] ++ [b]) := by
              obtain ⟨qs2, b2, e, hb2, h, hl⟩ := hPE
              have e3 := List.append_inj' e rfl
              obtain ⟨e1, e2⟩ := e3
              cases e2
              rw [← e1] at h hl
              refine h.snoc hb2 fun c hc => ?_
              have := hl c hc
              rw [List.getLast?_concat] at hc
              cases hc
              omega
            have HFL := Lib.hid hfl
            clear hfl hlm hmr hr1r hab hm2 hr hm hr1
            go_wp2_with fail
            go_quiet (fail)
            go_wp2_with fail
            exact ⟨⟨k + 1, rs ++ [a] ++ [b], by omega, by go_num, HFL.out, hP2, ⟨hst.1, hst.2⟩, below_drewN' hb nq⟩, by simp [intOf]; omega⟩
    · have hkn' : k = n := by omega
      have t1 : decide ((k : Int) < (n : Int)) = false := by simp; omega
      have hls : ls = ps.flatten := by
        have h := hps
        rw [hkn', HN.out, List.take_length] at h
        exact h
      clear hps hk
      rcases List.eq_nil_or_concat ps with rfl | ⟨qs, b, rfl⟩
      · obtain ⟨A', c', rfl⟩ : ∃ A' c', u3 = .slice A' 0 c' := by
          rcases hst.whole.2 with ⟨h, _⟩ | ⟨g, cap, cur, h, _⟩
          · exact ⟨_, _, h⟩
          · exact ⟨_, _, h⟩
        have hroot : shaL (⟨#[]⟩ : ByteArray).data.toList = rootL ls := by rw [hls]; rfl
        have HLS := Lib.hid hroot
        clear hls hroot
        go_wp2_with fail
        refine (sum_ok ⟨#[]⟩ wr (by decide) (hR.later hb)).mono ?_
        rintro e w2 ⟨rfl, b2⟩
        have hb2 := Below.next hb b2
        rw [HLS.out]
        go_wp2_with fail
        exact ⟨_, results_tmp (t := 2) rfl _ _ _, rfl, hb2⟩
      · rw [List.concat_eq_append] at hls hst hP hpl
        obtain ⟨q, hq⟩ : ∃ q, q = qs.length := ⟨_, rfl⟩
        have hl1 : (qs ++ [b]).length = q + 1 := by simp [hq]
        rw [hl1] at hpl
        have hwh := hst.whole
        rw [hl1] at hwh
        obtain ⟨gw, cw, csw, rfl, hgb, hgw, hw1, hw2, _⟩ := ownsRow_blk hwh (by omega)
        have e1 : svs ((qs ++ [b]).map rootL) = svs (qs.map rootL) ++ [.string (str (rootL b))] := by simp [svs]
        rw [e1] at hwh
        have l1 : (svs (qs.map rootL)).length = q := by simp [svs, hq]
        have c1 : wr.cell? ⟨gw, q, none⟩ = some (.string (str (rootL b))) := ownsRow_cell hwh _ _ (by rw [List.getElem?_append_right (by omega), l1, Nat.sub_self]; rfl)
        obtain ⟨xs, hxs⟩ : ∃ xs : List ByteArray, xs = qs.map (fun p => str (rootL p)) := ⟨_, rfl⟩
        have lxs : q = xs.length := by rw [hxs, List.length_map, hq]
        have cx : ∀ (j : Nat) x, xs[j]? = some x → wr.cell? ⟨gw, j, none⟩ = some (.string x) := by
          intro j x hx
          have hj := (List.getElem?_eq_some_iff.1 hx).1
          refine ownsRow_cell hwh _ _ ?_
          rw [List.getElem?_append_left (by omega)]
          rw [hxs, List.getElem?_map] at hx
          simp only [svs, List.map_map, List.getElem?_map]
          cases h3 : qs[j]? with
          | none => rw [h3] at hx; cases hx
          | some y => rw [h3] at hx; cases hx; rfl
        have hroot : ∀ acc, acc = (xs.reverse.foldl (fun (o : List UInt8) r => nodeL r.data.toList o) (rootL b)) → acc = rootL ls := by
          rintro acc rfl
          rw [hls, ← hP.root, List.map_append, List.map_cons, List.map_nil, joinR_fold, hxs, ← List.map_reverse, ← List.map_reverse, List.foldl_map, List.foldl_map]
        obtain ⟨M, hM⟩ : ∃ M, M = q + 1 := ⟨_, rfl⟩
        rw [← hM] at hw1 ⊢
        unfold maxLen at hw2
        have i1 : (M : Int) - 1 = (q : Int) := by omega
        have i2 : (0 : Int) ≤ (q : Int) := by omega
        have i3 : (q : Int) < (M : Int) := by omega
        have i4 : (q : Int) ≤ (cw : Int) := by omega
        have t2 : ((M : Int) == 0) = false := by simp; omega
        have hxz : ∀ x ∈ xs, x.size = 32 := by
          intro x hx
          rw [hxs, List.mem_map] at hx
          obtain ⟨p, _, rfl⟩ := hx
          rw [size_mk, rootL_length]
        have HXZ := Lib.hid hxz
        clear hxz
        have HRT := Lib.hid hroot
        have HLX := Lib.hid lxs
        have HCX := Lib.hid cx
        have hqc : q ≤ cw := by omega
        have hgl : gw < wr.heap.size := hgw.lt
        clear hls hP hst hl1 hwh e1 l1 hxs lxs cx hroot hM hq
        go_wp2_with fail
        refine (back_ok (some ⟨gw, 0, none⟩) q cw _).mono ?_
        rintro e w6 ⟨rfl, rfl⟩
        go_wp2_with fail
        refine (wpIn_wide (n := 3)).1 ?_
        refine rangeFunc_raw rfl (by omega) (gf := 93) (lb := #[.pointer (some ⟨wr.heap.size + 1, 0, none⟩)]) rfl trivial (enters_of Tryz.func93 (by kernel_rfl) rfl) ?_
        intro fn hfn rec D L W1 hrec hD hL hW1
        have hs1 : W1.heap.size = wr.heap.size + 4 := by rw [hW1]; simp
        have hD2 : D = wr.heap.size + 2 := by rw [hD]; simp
        have hL2 : L = wr.heap.size + 3 := by omega
        have bw1 : Below wr.heap.size wr W1 := by
          rw [hW1]
          exact ((((Below.refl _ wr).alloc (Nat.le_refl _) _).alloc (by simp) _).alloc (by simp; omega) _).alloc (by simp; omega) _
        have x1 : BlkIs W1 wr.heap.size 9 [.string (str (rootL b))] := by rw [hW1]; exact (((BlkIs.new wr _ _).alloc _).alloc _).alloc _
        have x2 : BlkIs W1 (wr.heap.size + 1) 43 [.slice (some ⟨gw, 0, none⟩) q cw] := by
          have h := BlkIs.new (wr.alloc (.cells #[.string (str (rootL b))] 9)) 43 #[.slice (some ⟨gw, 0, none⟩) q cw]
          rw [World.size_alloc] at h
          rw [hW1]; exact (h.alloc _).alloc _
        have lL : W1.heap[L]? = some (.loop (rec .ready none)) := by rw [hW1]; exact alloc_new_at _ _ _ (by rw [hL2]; simp)
        have dD : W1.heap[D]? = some (.deferred (some [])) := by
          rw [hW1]
          exact (Below.heap_alloc _ _ _ (by rw [hD2]; simp)).trans (alloc_new_at _ _ _ (by rw [hD2]; simp))
        have bel1 : Below w.heap.size w W1 := Below.next hb bw1
        have j0 : LoopJ W1 (rec .ready none) wr.heap.size L 9 [.string (str (accL xs (rootL b) 0))] W1 := ⟨lL, x1, rfl, rfl, rfl, Nat.le_refl _, fun _ _ _ _ => rfl⟩
        have HREC := Lib.hid hrec
        clear hrec hW1 hD hL
        refine (back1_in (3 - 1) (by omega) L (wr.heap.size + 1) gw q cw xs HLX.out hqc (by omega) (fun k W => LoopJ W1 (rec .ready none) wr.heap.size L 9 [.string (str (accL xs (rootL b) k))] W) ?hbox ?hY W1 j0).mono ?hend
        case hbox =>
          intro k W hJ
          refine ⟨hJ.cell (x2.cell 0) (by simp) (by simp; omega), fun j x hx => ?_⟩
          have h := HCX.out j x hx
          exact hJ.cell (a := ⟨gw, j, none⟩) ((bw1.cell (p := ⟨gw, j, none⟩) hgl).trans h) (by simp; omega) (by simp; omega)
        case hY =>
          intro k i W x hik hx hJ
          refine yield_raw hfn HREC.out hJ.rl rfl ?_
          have hLh : wr.heap.size ≠ L := by omega
          have hacc := accL_succ xs (rootL b) k i x (hik.trans HLX.out) hx
          have hxz := HXZ.out x (List.mem_of_getElem? hx)
          have hsz2 : (str (accL xs (rootL b) k)).size = 32 := by rw [size_mk, accL_length _ _ _ (rootL_length b)]
          have HAC := Lib.hid hacc
          have hLw : w.heap.size ≤ L := by have := hb.size; omega
          clear hs1 hD2 hL2 hacc hx
          simp only [List.zip_toArray, List.zip_cons_cons, List.zip_nil_right, List.foldl_toArray', List.foldl_cons, List.foldl_nil, List.setIfInBounds_toArray, List.set]
          gi_wp2
          refine ⟨hJ.rl, ?_⟩
          have hJ2 := hJ.busy (r1 := rec .busy none) hLh
          have hR2 := hR.later (hJ2.below bel1 hb.size hLw)
          have cb := hJ2.blk.cell 0
          dsimp only [List.getElem?_cons_zero] at cb
          generalize W.putObj L (.loop (rec .busy none)) = W2 at *
          gi_wp2
          refine ⟨trivial, ?_⟩
          refine (CallsIn.inRound L (callsIn_wide.2 (node_ok x (str (accL xs (rootL b) k)) W2 (by rw [hxz, hsz2]; decide) hR2))).mono ?_
          rintro e W3 ⟨rfl, b3⟩
          have hJ3 := hJ2.under hLh b3
          rw [mk_toList, ← HAC.out]
          have c3 := hJ3.blk.cell 0
          dsimp only [List.getElem?_cons_zero] at c3
          have f3 := hJ3.blk.frozen 0
          gi_wp2
          have hn := hJ3.blk.set 0 (.string (str (accL xs (rootL b) (k + 1))))
          have hJ4 := hJ3.step hLh (Upd.setCell _ 0 W3 _) hn
          exact roundPost_normal HREC.out hJ4.rl ⟨rfl, hJ4.busy hLh⟩
        case hend =>
          rintro e W2 ⟨⟨v, rfl⟩, hJ⟩
          refine ⟨⟨v, rfl⟩, .ready, none, (fun h => by cases h), hJ.rl, ?_⟩
          have hLh : wr.heap.size ≠ L := by omega
          have hJ4 := hJ.busy (r1 := rec .exhausted none) hLh
          have hbel4 := hJ4.below bel1 hb.size (by omega)
          have hdd : (W2.putObj L (.loop (rec .exhausted none))).heap[D]? = some (.deferred (some [])) := (hJ4.block D (by omega) (by omega) (by omega)).trans dD
          have cb := hJ4.blk.cell 0
          dsimp only [List.getElem?_cons_zero] at cb
          have hfin : accL xs (rootL b) q = rootL ls := HRT.out _ (by unfold accL; rw [List.take_of_length_le (by rw [List.length_reverse, ← HLX.out]; exact Nat.le_refl _)])
          rw [hfin] at cb
          have hDw : w.heap.size ≤ D := by have := hb.size; omega
          clear hJ hJ4 hs1 hD2 hL2 hfin
          generalize W2.putObj L (.loop (rec .exhausted none)) = W4 at *
          simp only [rfAct]
          go_wp2_with fail
          refine ⟨by simp, .inl ⟨_, _, rfl, run_takeDeferred hdd, ?_⟩⟩
          refine ⟨_, results_tmp (t := 2) rfl _ _ _, ?_⟩
          exact ⟨rfl, below_putObj hbel4 _ hDw hbel4.size⟩
end Go.Proofs.YtgbemgndbemllaaGreatDoor
end

section
/- Rows of strings that came in; all; join. -/
namespace Go.Proofs.YtgbemgndbemllaaGreatDoor
open Go Go.RowKit

/-- v is a slice of just these strings -/
def StrsAt (w : World) (v : Value) (xs : List ByteArray) : Prop :=
  (xs = [] ∧ ∃ A c, v = .slice A 0 c) ∨
  ∃ g o c, v = .slice (some ⟨g, o, none⟩) xs.length c ∧ xs.length ≤ c ∧ c ≤ 9223372036854775807 ∧ g < w.heap.size ∧ ∀ (j : Nat) x, xs[j]? = some x → w.cell? ⟨g, o + j, none⟩ = some (.string x)

theorem StrsAt.below {w w' : World} {v : Value} {xs : List ByteArray} (h : StrsAt w v xs) (hb : Below w.heap.size w w') : StrsAt w' v xs := by
  rcases h with h | ⟨g, o, c, h1, h2, h3, h4, h5⟩
  · exact .inl h
  · exact .inr ⟨g, o, c, h1, h2, h3, Nat.lt_of_lt_of_le h4 hb.size, fun j x hx => (hb.cell (p := ⟨g, o + j, none⟩) h4).trans (h5 j x hx)⟩

theorem all1_ok (s : ByteArray) (w : World) : Calls Tryz.prog 99 #[.string s] w fun e w' => e = .returned (.bool (!decide (s.size = 32))) ∧ w' = w := by
  go_enter Tryz.func99, Tryz.ntmps99
  go_wp2_with fail
  refine (isDigest_ok s w).mono ?_
  rintro e w1 ⟨rfl, rfl⟩
  go_wp2_with fail
  go_ret
  exact ⟨rfl, rfl⟩

theorem all_ok (v : Value) (xs : List ByteArray) (w : World) (hv : StrsAt w v xs) :
    Calls Tryz.prog 70 #[v] w fun e w' => e = .returned (.bool (xs.all fun s => decide (s.size = 32))) ∧ ∃ q, w' = w.drewN q := by
  have hp : Go.Proofs.PredAt Tryz.prog 99 #[] Value.string (fun s => !decide (s.size = 32)) w := by
    intro W x _
    exact (all1_ok x W).mono fun e w' ⟨he, hw⟩ => ⟨he, 0, hw⟩
  have hall : (!xs.any fun s => !decide (s.size = 32)) = xs.all fun s => decide (s.size = 32) := by
    rw [List.all_eq_not_any_not]
  rcases hv with ⟨rfl, A, c, rfl⟩ | ⟨g, o, c, rfl, h2, h3, h4, h5⟩
  · go_enter Tryz.func70, Tryz.ntmps70
    go_wp2_with fail
    refine (Tryz.slices_ContainsFunc_empty_f101 (α := ByteArray) _ _ _ _).mono ?_
    rintro e w1 ⟨rfl, rfl⟩
    go_wp2_with fail
    go_ret
    exact ⟨rfl, 0, rfl⟩
  · have hc : ∀ j, j < xs.length → w.cell? ⟨g, o + j, none⟩ = some (Value.string xs[j]!) := by
      intro j hj
      exact h5 j _ (by rw [List.getElem!_eq_getElem?_getD, List.getElem?_eq_getElem hj]; rfl)
    have HALL := Lib.hid hall
    have HC := Lib.hid hc
    clear hall hc h5
    go_enter Tryz.func70, Tryz.ntmps70
    go_wp2_with fail
    refine (Tryz.slices_ContainsFunc_f101 Value.string _ 99 #[] (enters_of Tryz.func99 (by kernel_rfl) rfl) g o xs.length c xs w hp (Nat.le_refl _) (by omega) HC.out).mono ?_
    rintro e w1 ⟨rfl, q, rfl⟩
    go_wp2_with fail
    refine bodyPost_ret (results_tmp rfl _ _ _) rfl ⟨?_, q, rfl⟩
    rw [← HALL.out]
    rfl
end Go.Proofs.YtgbemgndbemllaaGreatDoor
end

section
/- join: a step from a part of a tree to the whole. -/
namespace Go.Proofs.YtgbemgndbemllaaGreatDoor
open Go Go.RowKit

/-- the whole's value, of a step (the other part's root, is it first) and the part's value -/
def joinL (x : List UInt8 × Bool) (part : List UInt8) : List UInt8 := if x.2 then nodeL x.1 part else nodeL part x.1

theorem join_ok (r p : ByteArray) (f : Bool) (w : World) (hs : r.size + p.size ≤ 900000) (hR : RoundOk w) :
    Calls Tryz.prog 73 #[.agg #[.string r, .bool f], .string p] w fun e w' => e = .returned (.string (str (joinL (r.data.toList, f) p.data.toList))) ∧ Below w.heap.size w w' := by
  go_enter Tryz.func73, Tryz.ntmps73
  have h0 := Below.refl w.heap.size w
  have a1 := Below.alloc h0 (Nat.le_refl _) (.cells #[.string r, .bool f] 146)
  cases f with
  | true =>
    go_wp2_with fail
    refine (node_ok r p _ hs (hR.alloc _)).mono ?_
    rintro e w2 ⟨rfl, b2⟩
    have b := Below.next a1 b2
    go_wp2_with fail
    go_ret
    exact ⟨rfl, b⟩
  | false =>
    go_wp2_with fail
    refine (node_ok p r _ (by omega) (hR.alloc _)).mono ?_
    rintro e w2 ⟨rfl, b2⟩
    have b := Below.next a1 b2
    go_wp2_with fail
    go_ret
    exact ⟨rfl, b⟩
end Go.Proofs.YtgbemgndbemllaaGreatDoor
end

section
/- Slices of entries, cut. -/
namespace Go.Proofs.YtgbemgndbemllaaGreatDoor
open Go Go.RowKit

/-- a slice at a known place that holds just these entries -/
def RowsAt (w : World) (g o n c : Nat) (l : List (List UInt8)) : Prop :=
  n = l.length ∧ n ≤ c ∧ c ≤ 9223372036854775807 ∧ g < w.heap.size ∧ ∀ (j : Nat) x, l[j]? = some x → w.cell? ⟨g, o + j, none⟩ = some (.string (str x))

theorem RowsAt.below {w w' : World} {g o n c : Nat} {l : List (List UInt8)} (h : RowsAt w g o n c l) (hb : Below w.heap.size w w') : RowsAt w' g o n c l := by
  obtain ⟨h1, h2, h3, h4, h5⟩ := h
  exact ⟨h1, h2, h3, Nat.lt_of_lt_of_le h4 hb.size, fun j x hx => (hb.cell (p := ⟨g, o + j, none⟩) h4).trans (h5 j x hx)⟩
theorem RowsAt.take {w : World} {g o n c : Nat} {l : List (List UInt8)} (h : RowsAt w g o n c l) (k : Nat) (hk : k ≤ n) : RowsAt w g o k c (l.take k) := by
  obtain ⟨h1, h2, h3, h4, h5⟩ := h
  refine ⟨by rw [List.length_take]; omega, by omega, h3, h4, fun j x hx => h5 j x ?_⟩
  rw [List.getElem?_take] at hx
  split at hx
  · exact hx
  · cases hx
theorem RowsAt.drop {w : World} {g o n c : Nat} {l : List (List UInt8)} (h : RowsAt w g o n c l) (k : Nat) (hk : k ≤ n) : RowsAt w g (o + k) (n - k) (c - k) (l.drop k) := by
  obtain ⟨h1, h2, h3, h4, h5⟩ := h
  refine ⟨by rw [List.length_drop]; omega, by omega, by omega, h4, fun j x hx => ?_⟩
  rw [List.getElem?_drop] at hx
  have := h5 (k + j) x hx
  rwa [← Nat.add_assoc] at this
theorem add_off (g o k : Nat) : (⟨g, o, none⟩ : Addr).add k = ⟨g, o + k, none⟩ := by unfold Addr.add; split <;> simp_all
theorem RowsAt.slice {w : World} {g o n c : Nat} {l : List (List UInt8)} (h : RowsAt w g o n c l) : SliceAt w (.slice (some ⟨g, o, none⟩) n c) (svs l) := by
  obtain ⟨h1, h2, h3, h4, h5⟩ := h
  have hl : (svs l).length = l.length := svs_length l
  refine ⟨_, c, by rw [hl, h1], by omega, fun _ => ⟨_, rfl, h4, fun j u hu => ?_⟩⟩
  have hu2 : ∃ x, l[j]? = some x ∧ u = .string (str x) := by
    unfold svs at hu
    rw [List.getElem?_map] at hu
    cases h3 : l[j]? with
    | none => rw [h3] at hu; cases hu
    | some y => rw [h3] at hu; cases hu; exact ⟨y, rfl, rfl⟩
  obtain ⟨x, hx, rfl⟩ := hu2
  rw [add_off]
  exact h5 j x hx
end Go.Proofs.YtgbemgndbemllaaGreatDoor
end

section
/- slices.Reverse of a row of strings that the call owns. -/
namespace Go.Proofs.YtgbemgndbemllaaGreatDoor
open Go Go.RowKit

theorem BlkIs.setCells {g : Nat} {t : TypeId} : ∀ (vs : List Value) (o : Nat) {w : World} {cs : List Value}, BlkIs w g t cs → o + vs.length ≤ cs.length →
    BlkIs (w.setCells g o vs) g t (cs.take o ++ vs ++ cs.drop (o + vs.length))
  | [], o, w, cs, h, _ => by
    simp only [List.length_nil, Nat.add_zero, List.append_nil, List.take_append_drop]
    exact h
  | v :: r, o, w, cs, h, hl => by
    have h1 := BlkIs.setCells r (o + 1) (h.set o v) (by rw [List.length_set]; simp at hl; omega)
    have e : (cs.set o v).take (o + 1) ++ r ++ (cs.set o v).drop (o + 1 + r.length) = cs.take o ++ v :: r ++ cs.drop (o + (v :: r).length) := by
      simp only [List.length_cons] at hl ⊢
      rw [List.take_add_one, List.take_set_of_le (Nat.le_refl _), List.getElem?_set_self (by omega), List.drop_set_of_lt (by omega), show o + (r.length + 1) = o + 1 + r.length by omega]
      simp
    rw [e] at h1
    exact h1
theorem upd_setCells (g : Nat) : ∀ (vs : List Value) (o : Nat) (w : World), Upd g w (w.setCells g o vs)
  | [], _, w => Upd.refl g w
  | v :: r, o, w => (Upd.setCell g o w v).trans (upd_setCells g r (o + 1) _)

theorem ownsRow_rewrite {w : World} {base : Nat} {e : TypeId} {g n cap : Nat} {xs ys : List Value} (h : w.ownsRow base e 1 (.slice (some ⟨g, 0, none⟩) n cap) n xs) (hl : ys.length = xs.length) :
    (w.setCells g 0 ys).ownsRow base e 1 (.slice (some ⟨g, 0, none⟩) n cap) n ys := by
  obtain ⟨h0, h⟩ := h
  refine ⟨by rw [hl]; exact h0, .inr ?_⟩
  rcases h with ⟨h, _⟩ | ⟨g', cap', cur, hv, hb, hg, hn, hm, hc, ht⟩
  · cases h
  · injection hv with e1 e2 e3
    injection e1 with e1
    injection e1 with e1
    subst e1 e3
    have hb1 : BlkIs w g e cur.toList := by simpa [BlkIs] using hg
    have hlc : ys.length ≤ cur.toList.length := by simp; omega
    have hs := hb1.setCells ys 0 (by omega)
    refine ⟨g, cap, (cur.toList.take 0 ++ ys ++ cur.toList.drop (0 + ys.length)).toArray, rfl, hb, hs, hn, hm, ?_, ?_⟩
    · simp at hlc ⊢; omega
    · simp only [List.take_zero, List.nil_append]
      rw [List.take_append_of_le_length (by omega), List.take_of_length_le (by omega)]

theorem strs_of_reverse (l : List (List UInt8)) (f : Nat → ByteArray) (hf : ∀ j x, l[j]? = some x → f j = str x) : ((Lib.strsOf f l.length).reverse.map encStr) = svs l.reverse := by
  have e : Lib.strsOf f l.length = l := by
    unfold Lib.strsOf
    apply List.ext_getElem
    · simp
    · intro i h1 h2
      simp only [List.getElem_map, List.getElem_range]
      rw [hf i l[i] (List.getElem?_eq_getElem h2)]
  rw [e]
  rfl

theorem rev_ok (base : Nat) (v : Value) (l : List (List UInt8)) (w w0 : World) (h : w.ownsRow base 9 1 v l.length (svs l)) (hl : l.length ≤ 1000000) (hb : Below base w0 w) (hbs : base ≤ w.heap.size) :
    Calls Tryz.prog 68 #[v] w fun e w' => e = .returned (.tuple #[]) ∧ w'.ownsRow base 9 1 v l.length (svs l.reverse) ∧ Below base w0 w' := by
  rcases Nat.eq_zero_or_pos l.length with h0 | h0
  · obtain rfl := List.length_eq_zero_iff.1 h0
    obtain ⟨A, c, rfl⟩ : ∃ A c, v = .slice A 0 c := by
      rcases h.2 with ⟨h, _⟩ | ⟨g, cap, cur, h, _⟩
      · exact ⟨_, _, h⟩
      · exact ⟨_, _, h⟩
    refine (Tryz.slices_Reverse_string_empty _ _ w).mono ?_
    rintro e w1 ⟨rfl, rfl⟩
    exact ⟨rfl, h, hb⟩
  · obtain ⟨g, cap, cs, rfl, hg, hblk, hn, hm, _⟩ := ownsRow_blk h h0
    have hc : ∀ i, i < l.length → w.cell? ⟨g, 0 + i, none⟩ = some (.string (str l[i]!)) := by
      intro i hi
      rw [Nat.zero_add]
      refine ownsRow_cell h i _ (svs_get l i _ ?_)
      rw [List.getElem!_eq_getElem?_getD, List.getElem?_eq_getElem hi]; rfl
    refine (Tryz.slices_Reverse_string_cells g 0 l.length cap (fun i => str l[i]!) w (by omega) hc (fun j _ => by rw [Nat.zero_add]; exact hblk.frozen j)).mono ?_
    rintro e w1 ⟨rfl, q, rfl⟩
    rw [strs_of_reverse l (fun i => str l[i]!) (fun j x hx => by rw [List.getElem!_eq_getElem?_getD, hx]; rfl)]
    have hd : (w.drewN q).ownsRow base 9 1 (.slice (some ⟨g, 0, none⟩) l.length cap) l.length (svs l) := h
    refine ⟨rfl, ownsRow_rewrite hd (by rw [svs_length, svs_length, List.length_reverse]), ?_⟩
    have hu := upd_setCells g (svs l.reverse) 0 (w.drewN q)
    have hbd : Below base w0 (w.drewN q) := below_drewN' hb q
    exact hbd.trans (hu.below hg hbs)
end Go.Proofs.YtgbemgndbemllaaGreatDoor
end

section
/- Proof. -/
namespace Go.Proofs.YtgbemgndbemllaaGreatDoor
open Go Go.RowKit

set_option maxRecDepth 100000 in
set_option maxHeartbeats 4000000 in
theorem proof_ok (g o n c : Nat) (l : List (List UInt8)) (i : Nat) (w : World) (hv : RowsAt w g o n c l) (hn : n ≤ 1000000) (hi : i < n) (hs : ∀ x ∈ l, x.length ≤ 900000) (hR : RoundOk w) :
    Calls Tryz.prog 30 #[.slice (some ⟨g, o, none⟩) n c, .int .i64 i] w fun e w' => ∃ v, e = .returned (.tuple #[v, .int .i64 0]) ∧ w'.ownsRow w.heap.size 9 1 v (proofL l i).length (svs (proofL l i)) ∧ Below w.heap.size w w' := by
  obtain ⟨i0, hi0, hz0, hz1, hz2⟩ := info_str
  have t0 : decide ((i : Int) < 0) = false := by simp
  have t1 : decide (n ≤ i) = false := by simp; omega
  have HS := Lib.hid hs
  clear hs
  go_enter Tryz.func30, Tryz.ntmps30
  go_wp2_with fail
  go_step3
  go_wp2_with fail
  go_step3
  go_wp2_with fail
  go_loopw [0, 1, 6] (fun lv iv ov wr => ∃ (o' n' c' i' : Nat) (l' out : List (List UInt8)), lv = .slice (some ⟨g, o', none⟩) n' c' ∧ iv = .int .i64 i' ∧ RowsAt w g o' n' c' l' ∧ n' ≤ n ∧ i' < n' ∧ proofL l i = proofL l' i' ++ out.reverse ∧ (∀ x ∈ l', x ∈ l) ∧ out.length + n' ≤ n ∧ wr.ownsRow w.heap.size 9 1 ov out.length (svs out) ∧ Below w.heap.size w wr) (fun lv _ _ _ => lenOf lv)
  case atStart => exact ⟨o, n, c, i, l, [], rfl, rfl, hv, Nat.le_refl _, hi, by simp, fun x hx => hx, by simp, World.ownsRow_nil w _ _ 1, Below.refl _ _⟩
  case round =>
    obtain ⟨o', n', c', i', l', out, rfl, rfl, hrow, hn', hi', hpf, hsub, hol, hown, hb⟩ := hrel
    by_cases h1 : n' = 1
    · have t2 : ((n' : Int) == 1) = true := by simp; omega
      have hpl : proofL l i = out.reverse := by
        rw [hpf, proofL_one l' i' (by have := hrow.1; omega)]; rfl
      have HPL := Lib.hid hpl
      clear hpf hpl h1
      go_wp2_with fail
      refine (rev_ok w.heap.size _ out _ w hown (by omega) hb hb.size).mono ?_
      rintro e w2 ⟨rfl, own2, b2⟩
      go_wp2_with fail
      rw [Exit.noGoto_ret]
      go_ret2
      refine ⟨_, rfl, ?_, b2⟩
      rw [HPL.out, List.length_reverse]
      exact own2
    · have t2 : ((n' : Int) == 1) = false := by simp; omega
      have h2 : 2 ≤ n' := by omega
      obtain ⟨k, hk⟩ : ∃ k, k = leftN n' := ⟨_, rfl⟩
      have hkl := leftN_lt n' h2
      have hkp := leftN_pos n'
      have hleft := left_ok n' h2 (by omega)
      rw [← hk] at hkl hkp hleft
      have hnc := hrow.2.1
      have hcm := hrow.2.2.1
      have k0 : (0 : Int) ≤ (k : Int) := by omega
      have k1 : (k : Int) ≤ (n' : Int) := by omega
      have k2 : (k : Int) ≤ (c' : Int) := by omega
      have k3 : ¬ c' = k := by omega
      have k4 : (n' : Int) ≤ (c' : Int) := by omega
      have HK := Lib.hid hk
      have HPF := Lib.hid hpf
      clear hpf hk h1
      go_wp2_with fail
      refine (hleft _).mono ?_
      rintro e w2 ⟨rfl, rfl⟩
      go_wp2_with fail
      go_quiet (fail)
      have hb3 : Below w.heap.size w (w2.drewN nq) := below_drewN' hb nq
      have hown3 : (w2.drewN nq).ownsRow w.heap.size 9 1 u6 out.length (svs out) := hown
      generalize w2.drewN nq = w3 at *
      have hrow3 := hrow.below hb3
      have hl' := hrow.1
      clear hb hown hleft
      have hle3 := hb3.size
      by_cases hki : k ≤ i'
      · have t3 : decide (k ≤ i') = true := by simp; omega
        obtain ⟨j, hj⟩ : ∃ j, j = i' - k := ⟨_, rfl⟩
        have ej : (i' : Int) - (k : Int) = (j : Int) := by omega
        have hjl : j < n' - k := by omega
        have hpr := proofL_right l' i' (by omega) (by rw [← hl', ← HK.out]; exact hki)
        rw [← hl', ← HK.out, ← hj] at hpr
        have HPR := Lib.hid hpr
        have hroot := root_ok _ _ w3 (hrow3.take k (by omega)).slice (by rw [List.length_take]; omega) (fun x hx => HS.out x (hsub x (List.mem_of_mem_take hx))) (hR.later hb3)
        have HL := Lib.hid hl'
        clear hpr hj hl'
        go_wp2_with fail
        refine hroot.mono ?_
        rintro e w4 ⟨rfl, b4⟩
        have hb4 := Below.next hb3 b4
        have hown4 := ownsRow_below b4 hown3
        have hle4 := hb4.size
        clear hroot
        go_wp2_with (at_builtin; refine wpList_append_own _ rfl _ _ 43 rfl w.heap.size 9 i0 (.string ⟨#[]⟩) 1 16 Tryz.underlying43 hi0 hz0 hz1 hz2 rfl (by decide) u6 _ _ rfl (hown4.alloc _) ⟨w4.heap.size, 0, none⟩ 1 1 [.string (str (rootL (l'.take k)))] rfl rfl (cell_one_new _ _ _) (by simp [Value.oneCell']) (by unfold maxLen; omega) (by omega) (by simp; omega) ?_; intro v5 w5 own5 g5 _)
        have hb5 := Below.appended hb4 hle4 hown4 g5
        go_wp2_with fail
        exact ⟨⟨_, _, _, j, l'.drop k, out ++ [rootL (l'.take k)], rfl, rfl, hrow.drop k (by omega), by omega, hjl, by rw [HPF.out, HPR.out]; simp, fun x hx => hsub x (List.mem_of_mem_drop hx), by rw [List.length_append, List.length_singleton]; omega, by rw [List.length_append, List.length_singleton, svs_snoc]; exact own5, hb5⟩, by simp [lenOf]; omega⟩
      · have t3 : decide (k ≤ i') = false := by simp; omega
        have hpr := proofL_left l' i' (by omega) (by rw [← hl', ← HK.out]; omega)
        rw [← hl', ← HK.out] at hpr
        have HPR := Lib.hid hpr
        have hroot := root_ok _ _ w3 (hrow3.drop k (by omega)).slice (by rw [List.length_drop]; omega) (fun x hx => HS.out x (hsub x (List.mem_of_mem_drop hx))) (hR.later hb3)
        have HL := Lib.hid hl'
        clear hpr hl'
        go_wp2_with fail
        refine hroot.mono ?_
        rintro e w4 ⟨rfl, b4⟩
        have hb4 := Below.next hb3 b4
        have hown4 := ownsRow_below b4 hown3
        have hle4 := hb4.size
        clear hroot
        go_wp2_with (at_builtin; refine wpList_append_own _ rfl _ _ 43 rfl w.heap.size 9 i0 (.string ⟨#[]⟩) 1 16 Tryz.underlying43 hi0 hz0 hz1 hz2 rfl (by decide) u6 _ _ rfl (hown4.alloc _) ⟨w4.heap.size, 0, none⟩ 1 1 [.string (str (rootL (l'.drop k)))] rfl rfl (cell_one_new _ _ _) (by simp [Value.oneCell']) (by unfold maxLen; omega) (by omega) (by simp; omega) ?_; intro v5 w5 own5 g5 _)
        have hb5 := Below.appended hb4 hle4 hown4 g5
        go_wp2_with fail
        exact ⟨⟨_, _, _, i', l'.take k, out ++ [rootL (l'.drop k)], rfl, rfl, hrow.take k (by omega), by omega, by omega, by rw [HPF.out, HPR.out]; simp, fun x hx => hsub x (List.mem_of_mem_take hx), by rw [List.length_append, List.length_singleton]; omega, by rw [List.length_append, List.length_singleton, svs_snoc]; exact own5, hb5⟩, by simp [lenOf]; omega⟩
end Go.Proofs.YtgbemgndbemllaaGreatDoor
end

section
/- Proof and Extension where they refuse or have nothing to prove; Extension. -/
namespace Go.Proofs.YtgbemgndbemllaaGreatDoor
open Go Go.RowKit

theorem proof_no (a : Option Addr) (n c : Nat) (i : Int) (w : World) (hi : i < 0 ∨ (n : Int) ≤ i) :
    Calls Tryz.prog 30 #[.slice a n c, .int .i64 i] w fun e w' => e = .returned (.tuple #[.slice none 0 0, .int .i64 2]) ∧ w = w' := by
  by_cases h : i < 0
  · have t0 : decide (i < 0) = true := by simp; omega
    go_enter Tryz.func30, Tryz.ntmps30
    go_wp2_with fail
    go_step3
    go_wp2_with fail
    rw [Exit.noGoto_ret]
    go_ret2
    exact ⟨rfl, rfl⟩
  · have t0 : decide (i < 0) = false := by simp; omega
    have t1 : decide ((n : Int) ≤ i) = true := by simp; omega
    go_enter Tryz.func30, Tryz.ntmps30
    go_wp2_with fail
    go_step3
    go_wp2_with fail
    rw [Exit.noGoto_ret]
    go_ret2
    exact ⟨rfl, rfl⟩

end Go.Proofs.YtgbemgndbemllaaGreatDoor
end

section
/- Rows of sides (two cells each) that the call owns; slices of strings. -/
namespace Go.Proofs.YtgbemgndbemllaaGreatDoor
open Go Go.RowKit

def sideVals (l : List (List UInt8 × Bool)) : List Value := l.flatMap fun x => [.string (str x.1), .bool x.2]
theorem sideVals_snoc (l : List (List UInt8 × Bool)) (x : List UInt8 × Bool) : sideVals (l ++ [x]) = sideVals l ++ [.string (str x.1), .bool x.2] := by simp [sideVals]
theorem sideVals_length (l : List (List UInt8 × Bool)) : (sideVals l).length = l.length * 2 := by
  induction l with
  | nil => rfl
  | cons a t ih =>
    have : sideVals (a :: t) = [.string (str a.1), .bool a.2] ++ sideVals t := rfl
    rw [this, List.length_append, ih]; simp; omega
theorem sideVals_get : ∀ (l : List (List UInt8 × Bool)) (j : Nat) x, l[j]? = some x → (sideVals l)[j * 2]? = some (.string (str x.1)) ∧ (sideVals l)[j * 2 + 1]? = some (.bool x.2)
  | [], j, x, h => by simp at h
  | a :: t, 0, x, h => by
    simp at h; subst h
    exact ⟨rfl, rfl⟩
  | a :: t, j + 1, x, h => by
    have h1 := sideVals_get t j x (by simpa using h)
    have : sideVals (a :: t) = [.string (str a.1), .bool a.2] ++ sideVals t := rfl
    rw [this, List.getElem?_append_right (by simp; omega), List.getElem?_append_right (by simp; omega)]
    simp only [List.length_cons, List.length_nil, Nat.zero_add, Nat.reduceAdd]
    rw [show (j + 1) * 2 - 2 = j * 2 by omega, show (j + 1) * 2 + 1 - 2 = j * 2 + 1 by omega]
    exact h1

theorem Tryz.infoSide : (Tryz.prog.info? 146).map (fun i => (i.zero, i.size, i.bytes)) = some (some (.agg #[.string ⟨#[]⟩, .bool false]), 2, 24) := by kernel_rfl
theorem info_side : ∃ i, Tryz.prog.info? 146 = some i ∧ i.zero = some (.agg #[.string ⟨#[]⟩, .bool false]) ∧ i.size = 2 ∧ i.bytes = 24 := by
  obtain ⟨i0, hi, hz0, hz1, hz2⟩ := info_parts Tryz.infoSide
  exact ⟨i0, hi, hz0, hz1, hz2⟩

/-- the cells of a block that was just made -/
theorem cells_new (w : World) (t : TypeId) (xs : List Value) : ∀ j u, xs[j]? = some u → (w.alloc (.cells xs.toArray t)).cell? ((⟨w.heap.size, 0, none⟩ : Addr).add j) = some u := by
  intro j u hu
  rw [add_zero_off]
  exact ((BlkIs.new w t xs.toArray).cell j).trans hu

/-- v is a row of the call's own with just these sides -/
def SidesAt (w : World) (base : Nat) (v : Value) (l : List (List UInt8 × Bool)) : Prop := w.ownsRow base 146 2 v l.length (sideVals l)
theorem SidesAt.below {w w' : World} {base : Nat} {v : Value} {l : List (List UInt8 × Bool)} (h : SidesAt w base v l) (hb : Below w.heap.size w w') : SidesAt w' base v l := ownsRow_below hb h
theorem SidesAt.alloc {w : World} {base : Nat} {v : Value} {l : List (List UInt8 × Bool)} (h : SidesAt w base v l) (o : Obj) : SidesAt (w.alloc o) base v l := World.ownsRow.alloc h o
/-- its cells -/
theorem SidesAt.parts {w : World} {base : Nat} {v : Value} {l : List (List UInt8 × Bool)} (h : SidesAt w base v l) :
    ∃ ad g cap, v = .slice ad l.length cap ∧ (0 < l.length → ad = some ⟨g, 0, none⟩ ∧ g < w.heap.size) ∧ l.length ≤ cap ∧ cap ≤ maxLen ∧
      ∀ (j : Nat) x, l[j]? = some x → w.cell? ⟨g, j * 2, none⟩ = some (.string (str x.1)) ∧ w.cell? ⟨g, j * 2 + 1, none⟩ = some (.bool x.2) := by
  rcases h.2 with ⟨rfl, h0⟩ | ⟨g, cap, cur, rfl, _, hg, hn, hm, hc, ht⟩
  · refine ⟨none, 0, 0, by rw [h0], fun h => by omega, by omega, by unfold maxLen; omega, fun j x hx => ?_⟩
    have := (List.getElem?_eq_some_iff.1 hx).1
    omega
  · have hb : BlkIs w g 146 cur.toList := by simpa [BlkIs] using hg
    refine ⟨_, g, cap, rfl, fun _ => ⟨rfl, hb.lt⟩, hn, hm, fun j x hx => ?_⟩
    obtain ⟨h1, h2⟩ := sideVals_get l j x hx
    rw [← ht, List.getElem?_take] at h1 h2
    constructor
    · rw [hb.cell]
      split at h1
      · exact h1
      · cases h1
    · rw [hb.cell]
      split at h2
      · exact h2
      · cases h2

/-- v is a slice of just these strings -/
def ListAt (w : World) (v : Value) (ls : List (List UInt8)) : Prop := StrsAt w v (ls.map str)
theorem ListAt.below {w w' : World} {v : Value} {ls : List (List UInt8)} (h : ListAt w v ls) (hb : Below w.heap.size w w') : ListAt w' v ls := StrsAt.below h hb
theorem ListAt.nil {w : World} {v : Value} (h : ListAt w v []) : ∃ A c, v = .slice A 0 c := by
  rcases h with ⟨_, h⟩ | ⟨g, o, c, h, _⟩
  · exact h
  · exact ⟨_, _, h⟩
theorem ListAt.len {w : World} {v : Value} {ls : List (List UInt8)} (h : ListAt w v ls) : ∃ A c, v = .slice A ls.length c := by
  rcases h with ⟨h0, A, c, h⟩ | ⟨g, o, c, h, _⟩
  · have : ls = [] := by simpa using h0
    subst this
    exact ⟨A, c, h⟩
  · exact ⟨_, c, by rw [h, List.length_map]⟩
/-- the last string, and the rest -/
theorem ListAt.last {w : World} {v : Value} {ls : List (List UInt8)} {x : List UInt8} (h : ListAt w v (ls ++ [x])) :
    ∃ g o c, v = .slice (some ⟨g, o, none⟩) (ls.length + 1) c ∧ ls.length + 1 ≤ c ∧ g < w.heap.size ∧ w.cell? ⟨g, o + ls.length, none⟩ = some (.string (str x)) ∧ ListAt w (.slice (some ⟨g, o, none⟩) ls.length c) ls := by
  rcases h with ⟨h0, _⟩ | ⟨g, o, c, h1, h2, h3, h4, h5⟩
  · simp at h0
  · have hl : ((ls ++ [x]).map str).length = ls.length + 1 := by simp
    rw [hl] at h1 h2
    refine ⟨g, o, c, h1, h2, h4, h5 _ _ (by simp), .inr ⟨g, o, c, by simp, by simp; omega, h3, h4, fun j y hy => h5 j y ?_⟩⟩
    rw [List.map_append, List.getElem?_append_left (List.getElem?_eq_some_iff.1 hy).1]
    exact hy
theorem ListAt.rows {w : World} {v : Value} {ls : List (List UInt8)} (h : ListAt w v ls) (h0 : ls ≠ []) : ∃ g o c, v = .slice (some ⟨g, o, none⟩) ls.length c ∧ RowsAt w g o ls.length c ls := by
  rcases h with ⟨h1, _⟩ | ⟨g, o, c, h1, h2, h3, h4, h5⟩
  · simp at h1; exact absurd h1 h0
  · rw [List.length_map] at h1 h2
    refine ⟨g, o, c, h1, rfl, h2, h3, h4, fun j x hx => h5 j _ ?_⟩
    rw [List.getElem?_map, hx]; rfl
theorem RowsAt.list {w : World} {g o n c : Nat} {l : List (List UInt8)} (h : RowsAt w g o n c l) : ListAt w (.slice (some ⟨g, o, none⟩) n c) l := by
  obtain ⟨h1, h2, h3, h4, h5⟩ := h
  refine .inr ⟨g, o, c, by rw [List.length_map, h1], by rw [List.length_map, ← h1]; exact h2, h3, h4, fun j x hx => ?_⟩
  rw [List.getElem?_map] at hx
  cases hl : l[j]? with
  | none => rw [hl] at hx; cases hx
  | some y => rw [hl] at hx; cases hx; exact h5 j y hl
theorem listAt_own {w : World} {base : Nat} {v : Value} {l : List (List UInt8)} (h : w.ownsRow base 9 1 v l.length (svs l)) : ListAt w v l := by
  rcases Nat.eq_zero_or_pos l.length with h0 | h0
  · obtain rfl := List.length_eq_zero_iff.1 h0
    refine .inl ⟨rfl, ?_⟩
    rcases h.2 with ⟨h, _⟩ | ⟨g, cap, cur, h, _⟩
    · exact ⟨_, _, h⟩
    · exact ⟨_, _, h⟩
  · obtain ⟨g, cap, cs, rfl, _, hblk, hn, hm, _⟩ := ownsRow_blk h h0
    unfold maxLen at hm
    exact RowsAt.list (g := g) (o := 0) ⟨rfl, hn, by omega, hblk.lt, fun j x hx => by rw [Nat.zero_add]; exact ownsRow_cell h j _ (svs_get l j x hx)⟩
theorem all_list (v : Value) (ls : List (List UInt8)) (w : World) (hv : ListAt w v ls) :
    Calls Tryz.prog 70 #[v] w fun e w' => e = .returned (.bool (ls.all fun s => decide (s.length = 32))) ∧ ∃ q, w' = w.drewN q := by
  have h := all_ok v (ls.map str) w hv
  rw [List.all_map] at h
  have e : (fun s => decide (s.size = 32)) ∘ str = fun s : List UInt8 => decide (s.length = 32) := by
    funext s; simp only [Function.comp]; rw [size_mk]
  rw [e] at h
  exact h

/-- the fold that Verify's last loop makes -/
def foldW (way : List (List UInt8 × Bool)) (v : List UInt8) : List UInt8 := way.reverse.foldl (fun o x => stepL x o) v
theorem foldW_snoc (way : List (List UInt8 × Bool)) (x : List UInt8 × Bool) (v : List UInt8) : foldW (way ++ [x]) v = foldW way (stepL x v) := by
  unfold foldW; rw [List.reverse_append]; rfl
/-- after k rounds -/
def accS (way : List (List UInt8 × Bool)) (v : List UInt8) (k : Nat) : List UInt8 := (way.reverse.take k).foldl (fun o x => stepL x o) v
theorem accS_zero (way : List (List UInt8 × Bool)) (v : List UInt8) : accS way v 0 = v := rfl
theorem accS_all (way : List (List UInt8 × Bool)) (v : List UInt8) : accS way v way.length = foldW way v := by
  unfold accS foldW; rw [List.take_of_length_le (by rw [List.length_reverse]; exact Nat.le_refl _)]
theorem accS_length (way : List (List UInt8 × Bool)) (v : List UInt8) (k : Nat) (h : v.length = 32) : (accS way v k).length = 32 := by
  unfold accS
  generalize way.reverse.take k = l
  induction l generalizing v with
  | nil => exact h
  | cons a t ih => exact ih _ (stepL_len _ _)
theorem accS_succ (way : List (List UInt8 × Bool)) (v : List UInt8) (k i : Nat) (x : List UInt8 × Bool) (hi : i + k + 1 = way.length) (hx : way[i]? = some x) : accS way v (k + 1) = stepL x (accS way v k) := by
  have h : way.reverse[k]? = some x := by
    rw [List.getElem?_reverse (by omega), show way.length - 1 - k = i by omega]; exact hx
  unfold accS
  rw [List.take_add_one, h, List.foldl_append]
  rfl
/-- the first value's fold, for extensions -/
def step1 (x : List UInt8 × Bool) (o : List UInt8) : List UInt8 := if x.2 then stepL x o else o
def fold1 (way : List (List UInt8 × Bool)) (v : List UInt8) : List UInt8 := way.reverse.foldl (fun o x => step1 x o) v
theorem fold1_snoc (way : List (List UInt8 × Bool)) (x : List UInt8 × Bool) (v : List UInt8) : fold1 (way ++ [x]) v = fold1 way (step1 x v) := by
  unfold fold1; rw [List.reverse_append]; rfl
def acc1 (way : List (List UInt8 × Bool)) (v : List UInt8) (k : Nat) : List UInt8 := (way.reverse.take k).foldl (fun o x => step1 x o) v
theorem acc1_all (way : List (List UInt8 × Bool)) (v : List UInt8) : acc1 way v way.length = fold1 way v := by
  unfold acc1 fold1; rw [List.take_of_length_le (by rw [List.length_reverse]; exact Nat.le_refl _)]
theorem step1_length (x : List UInt8 × Bool) (o : List UInt8) (h : o.length = 32) : (step1 x o).length = 32 := by
  unfold step1; split
  · exact stepL_len _ _
  · exact h
theorem acc1_length (way : List (List UInt8 × Bool)) (v : List UInt8) (k : Nat) (h : v.length = 32) : (acc1 way v k).length = 32 := by
  unfold acc1
  generalize way.reverse.take k = l
  induction l generalizing v with
  | nil => exact h
  | cons a t ih => exact ih _ (step1_length _ _ h)
theorem acc1_succ (way : List (List UInt8 × Bool)) (v : List UInt8) (k i : Nat) (x : List UInt8 × Bool) (hi : i + k + 1 = way.length) (hx : way[i]? = some x) : acc1 way v (k + 1) = step1 x (acc1 way v k) := by
  have h : way.reverse[k]? = some x := by
    rw [List.getElem?_reverse (by omega), show way.length - 1 - k = i by omega]; exact hx
  unfold acc1
  rw [List.take_add_one, h, List.foldl_append]
  rfl
end Go.Proofs.YtgbemgndbemllaaGreatDoor
end

section
/- Verify. -/
namespace Go.Proofs.YtgbemgndbemllaaGreatDoor
open Go Go.RowKit
attribute [local go_sem] Oper.semAt_some

/-- what Verify answers -/
def verB (root : List UInt8) (n i : Int) (s : List UInt8) (p : List (List UInt8)) : Bool :=
  decide (0 ≤ i ∧ i < n) && (p.all fun x => decide (x.length = 32)) && (valR s p.reverse n.toNat i.toNat == some root)

theorem ver_no (root s : ByteArray) (n i : Int) (v : Value) (p : List (List UInt8)) (w : World) (hi : i < 0 ∨ n ≤ i) :
    Calls Tryz.prog 33 #[.string root, .int .i64 n, .int .i64 i, .string s, v] w fun e w' => e = .returned (.bool (verB root.data.toList n i s.data.toList p)) ∧ w = w' := by
  have hr : verB root.data.toList n i s.data.toList p = false := by
    unfold verB
    rw [decide_eq_false (by omega)]
    rfl
  rw [hr]
  clear hr
  by_cases h : i < 0
  · have t0 : decide (i < 0) = true := by simp; omega
    go_enter Tryz.func33, Tryz.ntmps33
    go_wp2_with fail
    go_ret
    exact ⟨rfl, rfl⟩
  · have t0 : decide (i < 0) = false := by simp; omega
    have t1 : decide (n ≤ i) = true := by simp; omega
    go_enter Tryz.func33, Tryz.ntmps33
    go_wp2_with fail
    go_ret
    exact ⟨rfl, rfl⟩

theorem ver_odd (root s : ByteArray) (n i : Nat) (v : Value) (p : List (List UInt8)) (w : World) (hv : ListAt w v p) (hi : i < n) (hp : (p.all fun x => decide (x.length = 32)) = false) :
    Calls Tryz.prog 33 #[.string root, .int .i64 n, .int .i64 i, .string s, v] w fun e w' => e = .returned (.bool (verB root.data.toList n i s.data.toList p)) ∧ Below w.heap.size w w' := by
  have hr : verB root.data.toList n i s.data.toList p = false := by
    unfold verB
    rw [hp, Bool.and_false, Bool.false_and]
  rw [hr]
  have hall := all_list v p w hv
  rw [hp] at hall
  have t0 : decide ((i : Int) < 0) = false := by simp
  have t1 : decide (n ≤ i) = false := by simp; omega
  clear hr hp
  go_enter Tryz.func33, Tryz.ntmps33
  go_wp2_with fail
  refine hall.mono ?_
  rintro e w1 ⟨rfl, q, rfl⟩
  go_wp2_with fail
  go_ret
  exact ⟨rfl, below_drewN' (Below.refl _ _) q⟩

theorem valR_end (s root : List UInt8) (q : List (List UInt8)) (N I : Nat) (way : List (List UInt8 × Bool)) (h1 : N ≤ 1) :
    ((valR s q.reverse N I).map (foldW way) == some root) = (decide (q = []) && decide (foldW way (leafL s) = root)) := by
  rcases List.eq_nil_or_concat q with rfl | ⟨r, x, rfl⟩
  · simp only [List.reverse_nil, valR, if_pos h1, decide_true, Bool.true_and]
    rw [Bool.eq_iff_iff]
    simp
  · rw [List.concat_eq_append, List.reverse_append, List.reverse_singleton, List.singleton_append]
    simp only [valR]
    rw [if_pos h1, decide_eq_false (by simp)]
    rfl
theorem way_step {a b c : Option (List UInt8)} {way : List (List UInt8 × Bool)} {y : List UInt8 × Bool} (h1 : a = b.map (foldW way)) (h2 : b = c.map (stepL y)) : a = c.map (foldW (way ++ [y])) := by
  rw [h1, h2, Option.map_map]
  congr 1
  funext v
  exact (foldW_snoc way y v).symm
theorem BlkIs.put {w : World} {g L : Nat} {t : TypeId} {cs : List Value} (h : BlkIs w g t cs) (o : Obj) (hn : g ≠ L) : BlkIs (w.putObj L o) g t cs := (World.putObj_heap_other hn).trans h

set_option maxRecDepth 100000 in
set_option maxHeartbeats 4000000 in
theorem ver_ok (root s : ByteArray) (n i : Nat) (v : Value) (p : List (List UInt8)) (w : World) (hv : ListAt w v p) (hi : i < n) (hn : n ≤ 9223372036854775807) (hpl : p.length ≤ 100) (hp : (p.all fun x => decide (x.length = 32)) = true)
    (hs : s.size ≤ 900000) (hR : RoundOk w) :
    Calls Tryz.prog 33 #[.string root, .int .i64 n, .int .i64 i, .string s, v] w fun e w' => e = .returned (.bool (verB root.data.toList n i s.data.toList p)) ∧ Below w.heap.size w w' := by
  obtain ⟨i0, hi0, hz0, hz1, hz2⟩ := info_side
  obtain ⟨B, hB⟩ : ∃ B, B = verB root.data.toList n i s.data.toList p := ⟨_, rfl⟩
  rw [← hB]
  have hr : ∀ b, (valR s.data.toList p.reverse n i == some root.data.toList) = b → B = b := by
    rintro b rfl
    rw [hB]
    unfold verB
    rw [hp, decide_eq_true (by omega)]
    rfl
  have HR := Lib.hid hr
  have hall := all_list v p w hv
  rw [hp] at hall
  have hp32 : ∀ x ∈ p, x.length = 32 := by
    intro x hx
    rw [List.all_eq_true] at hp
    have := hp x hx
    simpa using this
  have HP := Lib.hid hp32
  have t0 : decide ((i : Int) < 0) = false := by simp
  have t1 : decide (n ≤ i) = false := by simp; omega
  clear hr hp hp32 hB
  refine (callsIn_wide (n := 3)).1 ?_
  refine callsIn_of_wp_marks Tryz.func33 rfl trivial ?_ rfl
  simp only [Tryz.ntmps33, List.size_toArray, List.length_cons, List.length_nil, Nat.reduceAdd, Nat.reduceSub, Array.replicate_succ, Array.replicate_zero, List.push_toArray, List.append_toArray, List.nil_append, List.cons_append]
  refine wpIn_wide.2 ?_
  go_upto_region 1 with fail
  go_wp2_with fail
  refine hall.mono ?_
  rintro e w1 ⟨rfl, q, rfl⟩
  clear hall t1
  have hb1 : Below w.heap.size w (w.drewN q) := below_drewN' (Below.refl _ _) q
  generalize w.drewN q = w0 at *
  go_wp2_with fail
  go_loopw [1, 2, 4, 11] (fun nv iv pv wv wr => ∃ (N I : Nat) (q : List (List UInt8)) (way : List (List UInt8 × Bool)), nv = .int .i64 N ∧ iv = .int .i64 I ∧ I < N ∧ N ≤ n ∧ ListAt w pv q ∧ (∀ x ∈ q, x.length = 32) ∧ (∀ x ∈ way, x.1.length = 32) ∧ q.length + way.length = p.length ∧
      Hid (valR s.data.toList p.reverse n i = (valR s.data.toList q.reverse N I).map (foldW way)) ∧ SidesAt wr w.heap.size wv way ∧ Below w.heap.size w wr) (fun _ _ pv _ _ => lenOf pv)
  case atStart => exact ⟨n, i, p, [], rfl, rfl, hi, Nat.le_refl _, hv, HP.out, by simp, by simp, Lib.hid (by have : foldW [] = id := rfl; rw [this]; simp), World.ownsRow_nil _ _ _ 2, hb1⟩
  case round =>
    obtain ⟨N, I, q, way, rfl, rfl, hI, hN, hq, hq32, hw32, hql, HV, hsd, hb⟩ := hrel
    by_cases h1 : N ≤ 1
    · have t2 : decide ((1 : Int) < (N : Int)) = false := by simp; omega
      have hval : B = (decide (q = []) && decide (foldW way (leafL s.data.toList) = root.data.toList)) := by
        apply HR.out
        rw [HV.out]
        exact valR_end _ _ _ _ _ _ h1
      have HVAL := Lib.hid hval
      obtain ⟨qa, qc, rfl⟩ := hq.len
      obtain ⟨ad, gs, cp, rfl, hadg, hcp, hcm, hcs⟩ := hsd.parts
      unfold maxLen at hcm
      have HCS := Lib.hid hcs
      clear hval hcs
      go_wp2_with fail
      refine (leaf_ok s wr hs (hR.later hb)).mono ?_
      rintro e w2 ⟨rfl, b2⟩
      have hb2 := Below.next hb b2
      go_wp2_with fail
      refine (backS_ok ad way.length cp _).mono ?_
      rintro e w6 ⟨rfl, rfl⟩
      go_wp2_with fail
      refine (wpIn_wide (n := 3)).1 ?_
      obtain ⟨lf, hlf⟩ : ∃ lf, lf = leafL s.data.toList := ⟨_, rfl⟩
      rw [← hlf]
      have hlf32 : lf.length = 32 := by rw [hlf]; rfl
      have HLF := Lib.hid hlf
      clear hlf
      refine rangeFunc_raw rfl (by omega) (gf := 102) (lb := #[.pointer (some ⟨w2.heap.size + 1, 0, none⟩)]) rfl trivial (enters_of Tryz.func102 (by kernel_rfl) rfl) ?_
      intro fn hfn rec D L W1 hrec hD hL hW1
      have hs1 : W1.heap.size = w2.heap.size + 4 := by rw [hW1]; simp
      have hD2 : D = w2.heap.size + 2 := by rw [hD]; simp
      have hL2 : L = w2.heap.size + 3 := by omega
      have bw1 : Below w2.heap.size w2 W1 := by
        rw [hW1]
        exact ((((Below.refl _ w2).alloc (Nat.le_refl _) _).alloc (by simp) _).alloc (by simp; omega) _).alloc (by simp; omega) _
      have x1 : BlkIs W1 w2.heap.size 9 [.string (str lf)] := by rw [hW1]; exact (((BlkIs.new w2 _ _).alloc _).alloc _).alloc _
      have x2 : BlkIs W1 (w2.heap.size + 1) 142 [.slice ad way.length cp] := by
        have h := BlkIs.new (w2.alloc (.cells #[.string (str lf)] 9)) 142 #[.slice ad way.length cp]
        rw [World.size_alloc] at h
        rw [hW1]; exact (h.alloc _).alloc _
      have lL : W1.heap[L]? = some (.loop (rec .ready none)) := by rw [hW1]; exact alloc_new_at _ _ _ (by rw [hL2]; simp)
      have dD : W1.heap[D]? = some (.deferred (some [])) := by
        rw [hW1]
        exact (Below.heap_alloc _ _ _ (by rw [hD2]; simp)).trans (alloc_new_at _ _ _ (by rw [hD2]; simp))
      have bel1 : Below w.heap.size w W1 := Below.next hb2 bw1
      have j0 : LoopJ W1 (rec .ready none) w2.heap.size L 9 [.string (str (accS way lf 0))] W1 := ⟨lL, x1, rfl, rfl, rfl, Nat.le_refl _, fun _ _ _ _ => rfl⟩
      have HREC := Lib.hid hrec
      clear hrec hW1 hD hL
      have b2s := b2.size
      refine (backS1_in (3 - 1) (by omega) L (w2.heap.size + 1) gs way.length cp ad (fun h => (hadg h).1) (way.map fun x => (str x.1, x.2)) (by simp) hcp (by omega) (fun k W => LoopJ W1 (rec .ready none) w2.heap.size L 9 [.string (str (accS way lf k))] W) ?hbox ?hY W1 j0).mono ?hend
      case hbox =>
        intro k W hJ
        refine ⟨hJ.cell (x2.cell 0) (by simp) (by simp; omega), fun j x hx => ?_⟩
        rw [List.getElem?_map] at hx
        cases hy : way[j]? with
        | none => rw [hy] at hx; cases hx
        | some y =>
          rw [hy] at hx
          cases hx
          obtain ⟨h1, h2⟩ := HCS.out j y hy
          have hgl := (hadg (by have := (List.getElem?_eq_some_iff.1 hy).1; omega)).2
          have hb12 := b2.trans (bw1.mono b2s)
          exact ⟨hJ.cell (a := ⟨gs, j * 2, none⟩) ((hb12.cell (p := ⟨gs, j * 2, none⟩) hgl).trans h1) (by simp; omega) (by simp; omega), hJ.cell (a := ⟨gs, j * 2 + 1, none⟩) ((hb12.cell (p := ⟨gs, j * 2 + 1, none⟩) hgl).trans h2) (by simp; omega) (by simp; omega)⟩
      case hY =>
        intro k i W y hik hy hJ
        rw [List.getElem?_map] at hy
        obtain ⟨x, hx, rfl⟩ : ∃ x, way[i]? = some x ∧ y = (str x.1, x.2) := by
          cases hw : way[i]? with
          | none => rw [hw] at hy; cases hy
          | some x => rw [hw] at hy; cases hy; exact ⟨x, rfl, rfl⟩
        refine yield_raw hfn HREC.out hJ.rl rfl ?_
        have hLh : w2.heap.size ≠ L := by omega
        have hacc := accS_succ way lf k i x hik hx
        have hxz : x.1.length = 32 := hw32 x (List.mem_of_getElem? hx)
        have haz := accS_length way lf k hlf32
        have HAC := Lib.hid hacc
        have hLw : w.heap.size ≤ L := by have := hb2.size; omega
        clear hs1 hD2 hL2 hacc hx hy hik
        simp only [List.zip_toArray, List.zip_cons_cons, List.zip_nil_right, List.foldl_toArray', List.foldl_cons, List.foldl_nil, List.setIfInBounds_toArray, List.set]
        gi_wp2
        have hwlt : W.heap.size ≠ L := by have := cellsBlock_size hJ.rl; omega
        have hJa : LoopJ W1 (rec .ready none) w2.heap.size L 9 [.string (str (accS way lf k))] (W.alloc (.cells #[.string (str x.1), .bool x.2] 146)) := hJ.under hLh ((Below.refl _ _).alloc (Nat.le_refl _) _)
        have hxb := BlkIs.new W 146 #[.string (str x.1), .bool x.2]
        refine ⟨hJa.rl, ?_⟩
        have hJ2 := hJa.busy (r1 := rec .busy none) hLh
        have hxb2 := hxb.put (.loop (rec .busy none)) hwlt
        have hR2 := hR.later (hJ2.below bel1 hb2.size hLw)
        have cb := hJ2.blk.cell 0
        have cx0 := hxb2.cell 0
        have cx1 := hxb2.cell 1
        dsimp only [List.getElem?_cons_zero, List.getElem?_cons_succ] at cb cx0 cx1
        clear hxb hxb2 hJa
        generalize (W.alloc (.cells #[.string (str x.1), .bool x.2] 146)).putObj L (.loop (rec .busy none)) = W2 at *
        gi_wp2
        refine ⟨trivial, ?_⟩
        refine (CallsIn.inRound L (callsIn_wide.2 (join_ok (str x.1) (str (accS way lf k)) x.2 W2 (by rw [size_mk, size_mk, hxz, haz]; decide) hR2))).mono ?_
        rintro e W3 ⟨rfl, b3⟩
        have hJ3 := hJ2.under hLh b3
        have ej : joinL ((str x.1).data.toList, x.2) (str (accS way lf k)).data.toList = accS way lf (k + 1) := by
          rw [mk_toList, mk_toList]; exact HAC.out.symm
        rw [ej]
        clear ej
        have c3 := hJ3.blk.cell 0
        dsimp only [List.getElem?_cons_zero] at c3
        have f3 := hJ3.blk.frozen 0
        gi_wp2
        have hn := hJ3.blk.set 0 (.string (str (accS way lf (k + 1))))
        have hJ4 := hJ3.step hLh (Upd.setCell _ 0 W3 _) hn
        exact roundPost_normal HREC.out hJ4.rl ⟨rfl, hJ4.busy hLh⟩
      case hend =>
        rintro e W2 ⟨⟨v, rfl⟩, hJ⟩
        refine ⟨⟨v, rfl⟩, .ready, none, (fun h => by cases h), hJ.rl, ?_⟩
        have hLh : w2.heap.size ≠ L := by omega
        have hJ4 := hJ.busy (r1 := rec .exhausted none) hLh
        have hbel4 := hJ4.below bel1 hb2.size (by have := hb2.size; omega)
        have hdd : (W2.putObj L (.loop (rec .exhausted none))).heap[D]? = some (.deferred (some [])) := (hJ4.block D (by omega) (by omega) (by omega)).trans dD
        have cb := hJ4.blk.cell 0
        dsimp only [List.getElem?_cons_zero] at cb
        rw [accS_all] at cb
        have hDw : w.heap.size ≤ D := by have := hb2.size; omega
        clear hJ hs1 hD2 hL2
        generalize W2.putObj L (.loop (rec .exhausted none)) = W4 at *
        have hfr := hJ4.blk.frozen 0
        simp only [rfAct]
        rcases List.eq_nil_or_concat q with hq0 | ⟨r, z, hq0⟩
        · have t3 : ((q.length : Int) == 0) = true := by rw [hq0]; rfl
          have hv2 := HVAL.out
          rw [decide_eq_true hq0, Bool.true_and, ← HLF.out] at hv2
          have HV2 := Lib.hid hv2
          clear hv2 hq0
          have ef : (foldW way lf == root.toList) = B := by
            rw [HV2.out, Lib.toList_data, Bool.eq_iff_iff]; simp
          have HEF := Lib.hid ef
          clear ef
          go_wp2_with fail
          refine ⟨by simp, .inl ⟨_, _, rfl, run_takeDeferred hdd, ?_⟩⟩
          refine ⟨_, results_tmp (t := 10) rfl _ _ _, ?_⟩
          exact ⟨congrArg (fun b => Ending.returned (Value.bool b)) HEF.out, below_putObj hbel4 _ hDw hbel4.size⟩
        · have t3 : ((q.length : Int) == 0) = false := by rw [hq0]; simp; omega
          have hv2 := HVAL.out
          rw [decide_eq_false (by rw [hq0]; simp), Bool.false_and] at hv2
          have HV2 := Lib.hid hv2
          clear hv2 hq0
          go_wp2_with fail
          refine ⟨by simp, .inl ⟨_, _, rfl, run_takeDeferred hdd, ?_⟩⟩
          refine ⟨_, results_tmp (t := 10) rfl _ _ _, ?_⟩
          exact ⟨(congrArg (fun b => Ending.returned (Value.bool b)) HV2.out).symm, below_putObj hbel4 _ hDw hbel4.size⟩
    · have t2 : decide ((1 : Int) < (N : Int)) = true := by simp; omega
      have hnn : 2 ≤ N := by omega
      clear h1
      rcases List.eq_nil_or_concat q with rfl | ⟨r, x, rfl⟩
      · obtain ⟨A, c, rfl⟩ := hq.nil
        have hval : B = false := by
          apply HR.out
          rw [HV.out]
          simp only [List.reverse_nil, valR]
          rw [if_neg (by omega)]
          rfl
        have HVAL := Lib.hid hval
        clear hval
        go_wp2_with fail
        refine (take_none _ _ _).mono ?_
        rintro e w2 ⟨rfl, rfl⟩
        go_wp2_with fail
        exact ⟨_, results_tmp (t := 10) rfl _ _ _, (congrArg (fun b => Ending.returned (Value.bool b)) HVAL.out).symm, hb⟩
      · rw [List.concat_eq_append] at *
        obtain ⟨g, o, c, rfl, hc, hg, hx, hq'⟩ := hq.last
        have hval : valR s.data.toList (r ++ [x]).reverse N I = (valR s.data.toList r.reverse (if leftN N ≤ I then N - leftN N else leftN N) (if leftN N ≤ I then I - leftN N else I)).map (stepL (x, decide (leftN N ≤ I))) := by
          rw [List.reverse_append, List.reverse_singleton, List.singleton_append]
          simp only [valR]
          rw [if_neg (by omega)]
        have HVAL := Lib.hid hval
        have hx2 := (hb.cell (p := ⟨g, o + r.length, none⟩) hg).trans hx
        have hlq : (r ++ [x]).length = r.length + 1 := by simp
        have hrl : r.length ≤ 99 := by omega
        have hwl : way.length ≤ 100 := by omega
        have htake := take_ok g o r.length c (str x) wr hc (by omega) hx2
        obtain ⟨k, hk⟩ : ∃ k, k = leftN N := ⟨_, rfl⟩
        have hkl := leftN_lt N hnn
        have hkp := leftN_pos N
        have hleft := left_ok N hnn (by omega)
        rw [← hk] at hkl hkp hleft
        have HK := Lib.hid hk
        have HLQ := Lib.hid hlq
        have HQL := Lib.hid hql
        clear hval hx hlq hk hx2 hql
        go_wp2_with fail
        refine htake.mono ?_
        rintro e w2 ⟨rfl, q2, rfl⟩
        have hb2 : Below w.heap.size w (wr.drewN q2) := below_drewN' hb q2
        have hsd2 : SidesAt (wr.drewN q2) w.heap.size u11 way := hsd
        clear htake hsd hb
        generalize wr.drewN q2 = w2 at *
        go_wp2_with fail
        refine (hleft _).mono ?_
        rintro e w3 ⟨rfl, rfl⟩
        have hle3 := hb2.size
        clear hleft
        by_cases hki : k ≤ I
        · have t3 : decide (k ≤ I) = true := by simp; omega
          go_wp2_with (at_builtin; refine wpList_append_own _ rfl _ _ 142 rfl w.heap.size 146 i0 (.agg #[.string ⟨#[]⟩, .bool false]) 2 24 Tryz.underlying142 hi0 hz0 hz1 hz2 rfl (by decide) u11 _ _ rfl (hsd2.alloc _) ⟨w3.heap.size, 0, none⟩ 1 1 [.string (str x), .bool true] rfl rfl (cells_new _ _ _) (by simp [Value.oneCell']) (by unfold maxLen; omega) (by omega) (by simp; omega) ?_; intro v5 w5 own5 g5 _)
          have hb5 := Below.appended hb2 hle3 hsd2 g5
          obtain ⟨N', hN'⟩ : ∃ N', N' = N - k := ⟨_, rfl⟩
          obtain ⟨I', hI'⟩ : ∃ I', I' = I - k := ⟨_, rfl⟩
          have e1 : (N : Int) - (k : Int) = (N' : Int) := by omega
          have e2 : (I : Int) - (k : Int) = (I' : Int) := by omega
          have hv1 := HVAL.out
          rw [← HK.out, if_pos hki, if_pos hki, decide_eq_true hki, ← hN', ← hI'] at hv1
          have HW := Lib.hid (way_step HV.out hv1)
          have n1 : I' < N' := by omega
          have n2 : N' ≤ n := by omega
          clear hv1 hN' hI'
          go_wp2_with fail
          exact ⟨⟨N', I', r, way ++ [(x, true)], (by first | rfl | exact congrArg _ e1), (by first | rfl | exact congrArg _ e2), n1, n2, hq', fun z hz => hq32 z (by simp [hz]), by
            intro z hz
            rcases List.mem_append.1 hz with hz | hz
            · exact hw32 z hz
            · rw [List.mem_singleton.1 hz]; exact hq32 x (by simp), by have h1 := HQL.out; rw [HLQ.out] at h1; rw [List.length_append, List.length_singleton]; omega, HW, by unfold SidesAt; rw [List.length_append, List.length_singleton, sideVals_snoc]; exact own5, hb5⟩, by simp [lenOf]⟩
        · have t3 : decide (k ≤ I) = false := by simp; omega
          go_wp2_with (at_builtin; refine wpList_append_own _ rfl _ _ 142 rfl w.heap.size 146 i0 (.agg #[.string ⟨#[]⟩, .bool false]) 2 24 Tryz.underlying142 hi0 hz0 hz1 hz2 rfl (by decide) u11 _ _ rfl (hsd2.alloc _) ⟨w3.heap.size, 0, none⟩ 1 1 [.string (str x), .bool false] rfl rfl (cells_new _ _ _) (by simp [Value.oneCell']) (by unfold maxLen; omega) (by omega) (by simp; omega) ?_; intro v5 w5 own5 g5 _)
          have hb5 := Below.appended hb2 hle3 hsd2 g5
          have hv1 := HVAL.out
          rw [← HK.out, if_neg hki, if_neg hki, decide_eq_false hki] at hv1
          have HW := Lib.hid (way_step HV.out hv1)
          have n1 : I < k := by omega
          have n2 : k ≤ n := by omega
          clear hv1
          go_wp2_with fail
          exact ⟨⟨k, I, r, way ++ [(x, false)], rfl, rfl, n1, n2, hq', fun z hz => hq32 z (by simp [hz]), by
            intro z hz
            rcases List.mem_append.1 hz with hz | hz
            · exact hw32 z hz
            · rw [List.mem_singleton.1 hz]; exact hq32 x (by simp), by have h1 := HQL.out; rw [HLQ.out] at h1; rw [List.length_append, List.length_singleton]; omega, HW, by unfold SidesAt; rw [List.length_append, List.length_singleton, sideVals_snoc]; exact own5, hb5⟩, by simp [lenOf]⟩
end Go.Proofs.YtgbemgndbemllaaGreatDoor
end

section
/- The program's digest functions on any list and any numbers (DgE without the laws' own functions and without VerifyExtension). -/
namespace Go.Proofs.YtgbemgndbemllaaGreatDoor
open Go Go.RowKit

theorem RowsAt.nil_list {w : World} {A : Option Addr} {c : Nat} : ListAt w (.slice A 0 c) [] := .inl ⟨rfl, A, c, rfl⟩

/-- Root of any list -/
theorem root_list (v : Value) (l : List (List UInt8)) (w : World) (hv : ListAt w v l) (hl : l.length ≤ 1000000) (hs : ∀ x ∈ l, x.length ≤ 900000) (hR : RoundOk w) :
    Calls Tryz.prog 25 #[v] w fun e w' => e = .returned (.string (str (rootL l))) ∧ Below w.heap.size w w' := by
  by_cases h0 : l = []
  · subst h0
    obtain ⟨A, c, rfl⟩ := hv.nil
    exact root_ok _ [] w ⟨A, c, rfl, Nat.zero_le _, fun h => absurd h (by simp [svs])⟩ (by decide) (by simp) hR
  · obtain ⟨g, o, c, rfl, hrow⟩ := hv.rows h0
    exact root_ok _ l w hrow.slice hl hs hR

theorem proof_list (v : Value) (l : List (List UInt8)) (i : Nat) (w : World) (hv : ListAt w v l) (hl : l.length ≤ 1000000) (hi : i < l.length) (hs : ∀ x ∈ l, x.length ≤ 900000) (hR : RoundOk w) :
    Calls Tryz.prog 30 #[v, .int .i64 i] w fun e w' => ∃ A c, e = .returned (.tuple #[.slice A (proofL l i).length c, .int .i64 0]) ∧ ListAt w' (.slice A (proofL l i).length c) (proofL l i) ∧ Below w.heap.size w w' := by
  obtain ⟨g, o, c, rfl, hrow⟩ := hv.rows (by rintro rfl; simp at hi)
  refine (proof_ok g o l.length c l i w hrow hl hi hs hR).mono ?_
  rintro e w' ⟨v', rfl, own, hb⟩
  have hL := listAt_own own
  obtain ⟨A, c', rfl⟩ := hL.len
  exact ⟨A, c', rfl, hL, hb⟩

/-- Verify of any numbers -/
theorem ver_any (root s : ByteArray) (n i : Int) (v : Value) (p : List (List UInt8)) (w : World) (hv : ListAt w v p) (hn : n ≤ 9223372036854775807) (hpl : p.length ≤ 100) (hs : s.size ≤ 900000) (hR : RoundOk w) :
    Calls Tryz.prog 33 #[.string root, .int .i64 n, .int .i64 i, .string s, v] w fun e w' => e = .returned (.bool (verB root.data.toList n i s.data.toList p)) ∧ Below w.heap.size w w' := by
  by_cases hi : i < 0 ∨ n ≤ i
  · exact (ver_no root s n i v p w hi).mono fun e w' ⟨he, hw⟩ => ⟨he, hw ▸ Below.refl _ _⟩
  · obtain ⟨I, rfl⟩ : ∃ I : Nat, i = (I : Int) := ⟨i.toNat, by omega⟩
    obtain ⟨N, rfl⟩ : ∃ N : Nat, n = (N : Int) := ⟨n.toNat, by omega⟩
    cases hp : p.all (fun x => decide (x.length = 32)) with
    | false => exact ver_odd root s N I v p w hv (by omega) hp
    | true => exact ver_ok root s N I v p w hv (by omega) (by omega) hpl hp hs hR
end Go.Proofs.YtgbemgndbemllaaGreatDoor
end

