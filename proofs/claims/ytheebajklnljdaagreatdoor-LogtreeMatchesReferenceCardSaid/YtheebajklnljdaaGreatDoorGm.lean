/- Joined: LogF LogG R3C. -/
import Derived.Test.YtheebajklnljdaaGreatDoorGl
import Derived.Maps.AppendAt
import Derived.Deep.DeepMust
import Derived.Test.YtheebajklnljdaaGreatDoorGi
import Derived.Test.YtheebajklnljdaaGreatDoorGf

section
/- The encodings of a log's heads: all, leaves. -/
namespace Go.Proofs.YtheebajklnljdaaGreatDoor
open Go Go.RowKit Go.Shelf
attribute [local go_sem] Oper.semAt_some

theorem all_in (b : Nat) (w : World) : Calls Tryz.prog 81 #[.pointer (some ⟨b, 0, none⟩)] w fun e w' => e = .returned (.func (.func 111) #[] #[.pointer (some ⟨w.heap.size, 0, none⟩)]) ∧ w' = w.alloc (.cells #[.pointer (some ⟨b, 0, none⟩)] 25) := by
  go_enter Tryz.func81, Tryz.ntmps81
  go_wp2_with fail
  go_ret
  exact ⟨rfl, rfl⟩

set_option maxRecDepth 100000 in
set_option maxHeartbeats 4000000 in
theorem all1_in (n : Nat) (hn : 1 ≤ n) (l B1 b g cp : Nat) (hs : List Hd) (hlen : hs.length ≤ 1000000) (hB : ∀ h ∈ hs, hdB h = true) (J : Nat → World → Prop)
    (hbox : ∀ k W, J k W → W.cell? ⟨B1, 0, none⟩ = some (.pointer (some ⟨b, 0, none⟩)) ∧ W.cell? ⟨b, 1, none⟩ = some (.slice (some ⟨g, 0, none⟩) hs.length cp) ∧
      ∀ (j : Nat) x, hs[j]? = some x → W.cell? ⟨g, j * 3, none⟩ = some (.int .i64 x.pos) ∧ W.cell? ⟨g, j * 3 + 1, none⟩ = some (.string (str x.chain)) ∧ W.cell? ⟨g, j * 3 + 2, none⟩ = some (.string (str x.state)))
    (hbel : ∀ k W W', J k W → Below W.heap.size W W' → J k W')
    (hY : ∀ k W x, hs[k]? = some x → J k W → YieldAt Fence.wide (n - 1) Tryz.prog l #[.string (str (encHd x))] W fun e W' => e = .returned (.bool true) ∧ J (k + 1) W')
    (W : World) (h0 : J 0 W) :
    CallsIn Fence.wide n Tryz.prog 111 #[.func (.yield l) #[] #[], .pointer (some ⟨B1, 0, none⟩)] W fun e W' => (∃ v, e = .returned v) ∧ J hs.length W' := by
  refine callsIn_of_wp Tryz.func111 rfl trivial ?_ rfl
  simp only [Tryz.ntmps111, List.size_toArray, List.length_cons, List.length_nil, Nat.reduceAdd, Nat.reduceSub, Array.replicate_succ, Array.replicate_zero, List.push_toArray, List.append_toArray, List.nil_append, List.cons_append]
  obtain ⟨c1, c2, _⟩ := hbox 0 W h0
  gi_wp2
  gi_loopw [12] (fun iv wr => ∃ k : Nat, k ≤ hs.length ∧ iv = .int .i64 k ∧ J k wr) (fun iv _ => hs.length - (intOf iv).toNat)
  case atStart => exact ⟨0, by omega, rfl, h0⟩
  case round =>
    clear c1 c2
    obtain ⟨k, hk, rfl, hJ⟩ := hrel
    obtain ⟨c1, c2, c3⟩ := hbox k wr hJ
    by_cases hkm : k < hs.length
    · have t1 : decide (k < hs.length) = true := by simpa using hkm
      obtain ⟨x, hx⟩ : ∃ x, hs[k]? = some x := ⟨_, List.getElem?_eq_getElem hkm⟩
      obtain ⟨d0, d1, d2⟩ := c3 k x hx
      have i0 : (0 : Int) ≤ (k : Int) := by omega
      have i1 : (k : Int) < (hs.length : Int) := by omega
      have henc := fun W => hencode_ok x W
      have hE : encA x = (encHd x, 0) := if_pos (hB x (List.mem_of_getElem? hx))
      rw [hE] at henc
      have HE := Lib.hid henc
      have HY := Lib.hid (fun W hW => hY k W x hx hW)
      have hb1 : Below wr.heap.size wr (wr.alloc (.cells #[.int .i64 x.pos, .string (str x.chain), .string (str x.state)] 46)) := Below.alloc (Below.refl _ _) (Nat.le_refl _) _
      have HB1 := Lib.hid hb1
      unfold hdV at HE
      clear c3 hx hE henc hb1 hB
      gi_wp2
      refine ⟨trivial, ?_⟩
      refine (callsIn_wide.2 (HE.out _)).mono ?_
      rintro e w2 ⟨rfl, b2⟩
      have hJ2 := hbel k wr w2 hJ (Below.next HB1.out b2)
      obtain ⟨fn, tmps, assign, body, hy2, hR⟩ := HY.out w2 hJ2
      gi_wp2
      refine hR.mono ?_
      rintro e W' ⟨rfl, hJ'⟩
      clear c1 c2 d0 d1 d2
      gi_wp2
      exact ⟨⟨k + 1, by omega, by go_num, hJ'⟩, by simp [intOf]; omega⟩
    · have t1 : decide (k < hs.length) = false := by simpa using hkm
      have hk' : k = hs.length := by omega
      have hJK : J hs.length wr := hk' ▸ hJ
      clear hk' c3
      gi_wp2
      go_end0
      exact ⟨⟨_, rfl⟩, hJK⟩

/-- Between two rounds of leaves. -/
structure LvJ (w : World) (rec : Loop) (B1 b D L : Nat) (pre : List (List UInt8)) (W : World) : Prop where
  rl : W.heap[L]? = some (.loop rec)
  rk : W.heap[D]? = some (.deferred (some []))
  box : ∃ v, Boxed W w.heap.size 52 v ∧ W.ownsRow w.heap.size 9 1 v pre.length (svs pre)
  ptr : Boxed W B1 25 (.pointer (some ⟨b, 0, none⟩))
  below : Below w.heap.size w W
theorem LvJ.later {w : World} {rec : Loop} {B1 b D L : Nat} {pre : List (List UInt8)} {W W' : World} (h : LvJ w rec B1 b D L pre W) (hb : Below W.heap.size W W') : LvJ w rec B1 b D L pre W' := by
  obtain ⟨v, h1, h2⟩ := h.box
  exact ⟨(hb.block L (cellsBlock_size h.rl)).trans h.rl, (hb.block D (cellsBlock_size h.rk)).trans h.rk, ⟨v, (hb.block _ h1.lt).trans h1, ownsRow_below hb h2⟩, (hb.block _ h.ptr.lt).trans h.ptr, Below.next h.below hb⟩

set_option maxRecDepth 100000 in
set_option maxHeartbeats 4000000 in
theorem leaves_ok {S : Nat → Prop} {b : Nat} {x : Lg} {w : World} (h : LogAt w S b x) (good : Good x) :
    Calls Tryz.prog 48 #[.pointer (some ⟨b, 0, none⟩)] w fun e w' => ∃ v, e = .returned v ∧ w'.ownsRow w.heap.size 9 1 v (leavesL x).length (svs (leavesL x)) ∧ Below w.heap.size w w' := by
  obtain ⟨i0, hi, hz0, hz1, hz2⟩ := info_str
  obtain ⟨A1, c1, A2, cp, k1, k2, l1, l2, hbl, -, hh⟩ := h.parts
  obtain ⟨A', c', hv, hc', -, hj⟩ := ownsRow_form hh.1
  injection hv with e1 e2 e3
  subst e1 e3
  have hlen := good.len
  have hsm := good.small
  obtain ⟨g, rfl, hg, hgb, hcell⟩ := hj (by omega)
  have hcells : ∀ W, Below w.heap.size w W → W.cell? ⟨b, 1, none⟩ = some (.slice (some ⟨g, 0, none⟩) x.heads.length cp) ∧
      ∀ (j : Nat) y, x.heads[j]? = some y → W.cell? ⟨g, j * 3, none⟩ = some (.int .i64 y.pos) ∧ W.cell? ⟨g, j * 3 + 1, none⟩ = some (.string (str y.chain)) ∧ W.cell? ⟨g, j * 3 + 2, none⟩ = some (.string (str y.state)) := by
    intro W hW
    refine ⟨(hW.cell (p := ⟨b, 1, none⟩) hbl).trans k2, fun j y hy => ?_⟩
    have f := fun i u (hu : (hdCells y)[i]? = some u) => (hW.cell (p := ⟨g, j * 3 + i, none⟩) hg).trans (hcell (j * 3 + i) u (flat_get hdCells 3 hdCells_len x.heads j i y u hy hu))
    exact ⟨f 0 _ rfl, f 1 _ rfl, f 2 _ rfl⟩
  have hB : ∀ y ∈ x.heads, hdB y = true := fun y hy => by
    obtain ⟨i, hi⟩ := List.getElem?_of_mem hy
    exact (good.head i y hi).1
  have HCE := Lib.hid hcells
  clear hcells hj hcell hh h k1 k2 hgb
  refine (callsIn_wide (n := 3)).1 ?_
  refine callsIn_of_wp_marks Tryz.func48 rfl trivial ?_ rfl
  simp only [Tryz.ntmps48, List.size_toArray, List.length_cons, List.length_nil, Nat.reduceAdd, Nat.reduceSub, Array.replicate_succ, Array.replicate_zero, List.push_toArray, List.append_toArray, List.nil_append, List.cons_append]
  gi_wp2
  refine ⟨trivial, ?_⟩
  refine (callsIn_wide.2 (all_in b _)).mono ?_
  rintro e w3 ⟨rfl, hw3⟩
  gi_wp2

  refine rangeFunc_raw rfl (by omega) (gf := 111) (lb := #[.pointer (some ⟨w.heap.size + 1, 0, none⟩)]) rfl trivial (enters_of Tryz.func111 (by kernel_rfl) rfl) ?_
  intro fn hfn rec D L W1 hrec hD hL hW1
  have hs1 : W1.heap.size = w.heap.size + 4 := by rw [hW1]; simp
  simp only [World.size_alloc] at hD
  have hD2 : D = w.heap.size + 2 := by omega
  refine (all1_in (3 - 1) (by omega) L (w.heap.size + 1) b g cp x.heads (by omega) hB (fun k W => LvJ w (rec .ready none) (w.heap.size + 1) b D L ((leavesL x).take k) W) ?hbox ?hbel ?hY W1 ?h0).mono ?hend
  case hbox =>
    intro k W hJ
    obtain ⟨q1, q2⟩ := HCE.out W hJ.below
    exact ⟨hJ.ptr.cell, q1, q2⟩
  case hbel => intro k W W' hJ hb; exact hJ.later hb
  case h0 =>
    clear hrec
    refine ⟨?_, ?_, ⟨.slice none 0 0, ?_, World.ownsRow_nil _ _ _ _⟩, ?_, ?_⟩
    · rw [hW1, hL, hD]
      have := World.alloc_heap_new (((w.alloc (.cells #[.slice none 0 0] 52)).alloc (.cells #[.pointer (some ⟨b, 0, none⟩)] 25)).alloc (.deferred (some []))) (.loop (rec .ready none))
      simpa only [World.size_alloc] using this
    · rw [hW1, hD]
      have := World.alloc_heap_new ((w.alloc (.cells #[.slice none 0 0] 52)).alloc (.cells #[.pointer (some ⟨b, 0, none⟩)] 25)) (.deferred (some []))
      simp only [World.size_alloc] at this
      exact (Below.heap_alloc _ _ _ (by simp)).trans this
    · rw [hW1]; exact (((Boxed.new w _ _).alloc _).alloc _).alloc _
    · have := Boxed.new (w.alloc (.cells #[.slice none 0 0] 52)) 25 (.pointer (some ⟨b, 0, none⟩))
      rw [World.size_alloc] at this
      rw [hW1]; exact (this.alloc _).alloc _
    · rw [hW1]; exact ((((Below.refl _ w).alloc (Nat.le_refl _) _).alloc (by simp) _).alloc (by simp; omega) _).alloc (by simp; omega) _
  case hY =>
    intro k W y hy hJ
    have hnx : (leavesL x).take (k + 1) = (leavesL x).take k ++ [encHd y] := by
      unfold leavesL
      rw [List.take_add_one, List.getElem?_map, hy]
      rfl
    have hkl : ((leavesL x).take k).length ≤ 20000 := by rw [List.length_take, leavesL_len]; omega
    obtain ⟨pre, hpre⟩ : ∃ pre, pre = (leavesL x).take k := ⟨_, rfl⟩
    obtain ⟨E, hE⟩ : ∃ E, E = encHd y := ⟨_, rfl⟩
    rw [← hpre] at hJ hnx hkl
    rw [← hE] at hnx ⊢
    rw [hnx]
    have HD := Lib.hid hD
    have HL := Lib.hid hL
    have HD2 := Lib.hid hD2
    clear hD hL hD2 hW1 hs1 hy hnx hpre hE hB l1 l2 hlen hsm
    have HR := Lib.hid hrec
    refine yield_raw hfn hrec hJ.rl rfl ?_
    clear hrec
    simp only [List.zip_toArray, List.zip_cons_cons, List.zip_nil_right, List.foldl_toArray', List.foldl_cons, List.foldl_nil, List.setIfInBounds_toArray, List.set]
    gi_wp2
    refine ⟨hJ.rl, ?_⟩
    obtain ⟨u, hu, hr⟩ := hJ.box
    obtain ⟨W2, hW2⟩ : ∃ W2, W2 = W.putObj L (.loop (rec .busy none)) := ⟨_, rfl⟩
    rw [← hW2]
    have hl2 : W2.heap[L]? = some (.loop (rec .busy none)) := by rw [hW2]; exact World.putObj_heap_same (cellsBlock_size hJ.rl)
    have hk2 : W2.heap[D]? = some (.deferred (some [])) := by rw [hW2]; exact (World.putObj_heap_other (by have := HL.out; omega)).trans hJ.rk
    have hg2 : W.grownBy W2 (some L) := by rw [hW2]; exact grownBy_putObj' _ _ _
    have hu2 : Boxed W2 w.heap.size 52 u := hu.kept hg2 (by have := HL.out; have := HD.out; intro e; cases e; omega)
    have hp2 : Boxed W2 (w.heap.size + 1) 25 (.pointer (some ⟨b, 0, none⟩)) := hJ.ptr.kept hg2 (by have := HL.out; have := HD2.out; intro e; cases e; omega)
    have hb2 : Below w.heap.size w W2 := by rw [hW2]; exact below_putObj hJ.below _ (by have := HL.out; have := HD.out; omega) hJ.below.size
    have hr2 : W2.ownsRow w.heap.size 9 1 u pre.length (svs pre) := by rw [hW2]; exact ownsRow_putObj hr _ hJ.rl rfl
    clear hW2 hg2 hu hr hJ
    have hv := hu2.cell
    have hf := hu2.frozen
    have hle : w.heap.size ≤ W2.heap.size := hb2.size
    have hlt := hu2.lt
    gi_wp2_with (first
        | (gi_at_builtin; refine wpListIn_append_own _ rfl _ _ 52 rfl w.heap.size 9 i0 (.string ⟨#[]⟩) 1 16 Tryz.underlying52 hi hz0 hz1 hz2 rfl (by decide) u _ _ rfl (hr2.alloc _) ⟨W2.heap.size, 0, none⟩ 1 1 [.string (str E)] rfl rfl (cell_one_new _ _ _) (by simp [Value.oneCell']) (by unfold maxLen; omega) (by omega) (by simp; omega) ?_; intro v' w1 hown' hgrow _; obtain ⟨g', cap', rfl⟩ := ownsRow_succ hown'; obtain ⟨hv1, hv2, hr3, hk3, hb3⟩ := hu2.appended (by decide) hr2 hle (Nat.le_refl _) hown' hgrow; have hc1 := hv1.cell; have hf1 := hv1.frozen; have hzb := ((hp2.alloc (.cells #[.string (str E)] 9)).kept hgrow (hp2.not_row (by decide) hr2)); clear hu2 hr2 hgrow hown' hv))
    refine roundPost_normal HR.out (hk3.same _ _ hl2 rfl) ⟨rfl, ?_⟩
    have hl3 := hk3.same _ _ hl2 rfl
    refine ⟨World.putObj_heap_same (cellsBlock_size hl3), (World.putObj_heap_other (by have := HL.out; omega)).trans (hk3.same _ _ hk2 rfl), ⟨_, hv2.kept (grownBy_putObj' _ _ _) (fun e => by have := HL.out; have := HD.out; cases e; omega), ?_⟩, (hzb.other (by omega) _).kept (grownBy_putObj' _ _ _) (by have := HL.out; have := HD2.out; intro e; cases e; omega), below_putObj (hb2.trans hb3) _ (by have := HL.out; have := HD.out; omega) (hb2.trans hb3).size⟩
    have hr4 := ownsRow_putObj hr3 (.loop (rec .ready none)) hl3 rfl
    rw [List.length_append, List.length_singleton, svs_snoc]
    exact hr4
  case hend =>
    rintro e W2 ⟨⟨v, rfl⟩, hJ⟩
    refine ⟨⟨v, rfl⟩, .ready, none, (fun h => by cases h), hJ.rl, ?_⟩
    clear hrec
    have htk : (leavesL x).take x.heads.length = leavesL x := List.take_of_length_le (by rw [leavesL_len]; exact Nat.le_refl _)
    rw [htk] at hJ
    obtain ⟨u, hu, hr⟩ := hJ.box
    have hLs := cellsBlock_size hJ.rl
    have hu' : Boxed (W2.putObj L (.loop (rec .exhausted none))) w.heap.size 52 u := hu.kept (grownBy_putObj' _ _ _) (by intro e; cases e; omega)
    have hr' := ownsRow_putObj hr (.loop (rec .exhausted none)) hJ.rl rfl
    have hk' : (W2.putObj L (.loop (rec .exhausted none))).heap[D]? = some (.deferred (some [])) := (World.putObj_heap_other (by omega)).trans hJ.rk
    have hb' : Below w.heap.size w (W2.putObj L (.loop (rec .exhausted none))) := below_putObj hJ.below _ (by omega) hJ.below.size
    obtain ⟨W4, hW4⟩ : ∃ W4, W4 = W2.putObj L (.loop (rec .exhausted none)) := ⟨_, rfl⟩
    rw [← hW4] at hu' hr' hk' hb' ⊢
    have hD3 := hD2
    have hll : 1 ≤ (leavesL x).length := by rw [leavesL_len]; omega
    obtain ⟨gu, cu, rfl, -, -⟩ := World.ownsRow.form hr' hll
    clear hW4 hW1 hD hL hw3 hJ hu hr hs1 hD2 htk hB
    have HD := Lib.hid hD3
    clear hD3
    have hc := hu'.cell
    have hf := hu'.frozen
    simp only [rfAct]
    gi_wp2
    have hu5 := Boxed.set (.slice (some ⟨gu, 0, none⟩) (leavesL x).length cu) hu'
    have hr5 := hr'.kept (grownBy_setCell' W4 w.heap.size (.slice (some ⟨gu, 0, none⟩) (leavesL x).length cu)) (.inr (hu'.not_row (by decide) hr').symm)
    have hk5 := (KeepsOthers.setCell W4 ⟨w.heap.size, 0, none⟩ (.slice (some ⟨gu, 0, none⟩) (leavesL x).length cu)).same _ _ hk' rfl
    have hb5 := hb'.setCell (p := ⟨w.heap.size, 0, none⟩) (Nat.le_refl _) (.slice (some ⟨gu, 0, none⟩) (leavesL x).length cu)
    generalize W4.setCell ⟨w.heap.size, 0, none⟩ (.slice (some ⟨gu, 0, none⟩) (leavesL x).length cu) = W5 at *
    refine ⟨by simp, .inl ⟨_, _, rfl, run_takeDeferred hk5, ?_⟩⟩
    have hDl : w.heap.size ≤ D := by have := HD.out; omega
    have hu6 : Boxed (W5.putObj D (.deferred none)) w.heap.size 52 (.slice (some ⟨gu, 0, none⟩) (leavesL x).length cu) := hu5.kept (grownBy_putObj' _ _ _) (by have := HD.out; intro e; cases e; omega)
    have hr6 := ownsRow_putObj hr5 (.deferred none) hk5 rfl
    have hb6 := below_putObj hb5 (.deferred none) hDl hb5.size
    have y0 := hu6.cell
    clear hu5 hr5 hk5 hb5 hu' hr' hk' hb' hc hf
    generalize W5.putObj D (.deferred none) = W6 at *
    refine ⟨_, by simp [results, Tryz.results48, go_sem, y0]; try rfl, ?_⟩
    exact ⟨_, rfl, hr6, hb6⟩
end Go.Proofs.YtheebajklnljdaaGreatDoor
end

section
/- Root, Prove and Extension of a log. -/
namespace Go.Proofs.YtheebajklnljdaaGreatDoor
open Go Go.RowKit
attribute [local go_sem] Oper.semAt_some

theorem lroot_ok {S : Nat → Prop} {b : Nat} {x : Lg} {w : World} (h : LogAt w S b x) (good : Good x) (hR : RoundOk w) :
    Calls Tryz.prog 15 #[.pointer (some ⟨b, 0, none⟩)] w fun e w' => e = .returned (.string (str (rootA x))) ∧ Below w.heap.size w w' := by
  have hl := leaves_ok h good
  have hlen := good.len
  have hsm := good.small
  have hsh := leavesL_short good
  have hll := leavesL_len x
  have hroot : ∀ W v, Below w.heap.size w W → ListAt W v (leavesL x) → Calls Tryz.prog 44 #[v] W fun e w' => e = .returned (.string (str (rootA x))) ∧ Below W.heap.size W w' := fun W v hW hv =>
    root_list v (leavesL x) W hv (by omega) (fun y hy => by have := hsh y hy; omega) (hR.later hW)
  obtain ⟨Q, hQ⟩ : ∃ Q, Q = rootA x := ⟨_, rfl⟩
  obtain ⟨Lv, hLv⟩ : ∃ Lv, Lv = leavesL x := ⟨_, rfl⟩
  rw [← hQ] at hroot ⊢
  rw [← hLv] at hl hroot
  have HL := Lib.hid hl
  have HR := Lib.hid hroot
  clear hl hroot hsh hR h hQ hLv hll
  go_enter Tryz.func15, Tryz.ntmps15
  go_wp2_with fail
  refine (HL.out).mono ?_
  rintro e w1 ⟨v, rfl, own1, b1⟩
  have hv := listAt_own own1
  obtain ⟨A, c, rfl⟩ := hv.len
  go_wp2_with fail
  refine (HR.out _ _ b1 hv).mono ?_
  rintro e w2 ⟨rfl, b2⟩
  have hb2 := Below.next b1 b2
  go_wp2_with fail
  go_ret
  exact ⟨rfl, hb2⟩
theorem lroot_nil (w : World) : Calls Tryz.prog 15 #[.pointer none] w fun e w' => e = .returned (.string ⟨#[]⟩) ∧ w' = w := by
  go_enter Tryz.func15, Tryz.ntmps15
  go_wp2_with fail
  go_ret
  exact ⟨rfl, rfl⟩

set_option maxRecDepth 100000 in
set_option maxHeartbeats 1000000 in
theorem lprove_ok {S : Nat → Prop} {b : Nat} {x : Lg} {w : World} (h : LogAt w S b x) (good : Good x) (k : Nat) (hk : k < x.heads.length) (hR : RoundOk w) :
    Calls Tryz.prog 23 #[.pointer (some ⟨b, 0, none⟩), .int .i64 k] w fun e w' => ∃ A c, e = .returned (.tuple #[.slice A (proofL (leavesL x) k).length c, .int .i64 0]) ∧ ListAt w' (.slice A (proofL (leavesL x) k).length c) (proofL (leavesL x) k) ∧ Below w.heap.size w w' := by
  have hlen := good.len
  have hsm := good.small
  have hsh := leavesL_short good
  have hll := leavesL_len x
  obtain ⟨y, hy⟩ : ∃ y, x.heads[k]? = some y := ⟨_, List.getElem?_eq_getElem hk⟩
  have hhd := head_ok h (k : Int)
  rw [headA_in hy] at hhd
  obtain ⟨yp, yc, ys⟩ := y
  have hlv : ∀ W, Below w.heap.size w W → Calls Tryz.prog 48 #[.pointer (some ⟨b, 0, none⟩)] W fun e w' => ∃ v, e = .returned v ∧ w'.ownsRow W.heap.size 9 1 v (leavesL x).length (svs (leavesL x)) ∧ Below W.heap.size W w' := fun W hW => leaves_ok (h.below hW) good
  have hpr : ∀ W v, Below w.heap.size w W → ListAt W v (leavesL x) → Calls Tryz.prog 51 #[v, .int .i64 k] W fun e w' => ∃ A c, e = .returned (.tuple #[.slice A (proofL (leavesL x) k).length c, .int .i64 0]) ∧ ListAt w' (.slice A (proofL (leavesL x) k).length c) (proofL (leavesL x) k) ∧ Below W.heap.size W w' := fun W v hW hv =>
    proof_list v (leavesL x) k W hv (by omega) (by omega) (fun y hy => by have := hsh y hy; omega) (hR.later hW)
  obtain ⟨Q, hQ⟩ : ∃ Q, Q = proofL (leavesL x) k := ⟨_, rfl⟩
  obtain ⟨Lv, hLv⟩ : ∃ Lv, Lv = leavesL x := ⟨_, rfl⟩
  rw [← hQ] at hpr ⊢
  rw [← hLv] at hlv hpr
  have HH := Lib.hid hhd
  have HL := Lib.hid hlv
  have HP := Lib.hid hpr
  have hk2 : k ≤ 10000 := by omega
  clear hhd hlv hpr hsh hR h hy hQ hLv hll hlen hsm
  unfold hdV at HH
  go_enter Tryz.func23, Tryz.ntmps23
  go_wp2_with fail
  refine (HH.out).mono ?_
  rintro e w1 ⟨rfl, b1⟩
  have hb1 := Below.alloc b1 b1.size (.cells #[.int .i64 yp, .string (str yc), .string (str ys)] 46)
  have HB1 := Lib.hid hb1
  clear hb1
  go_wp2_with fail
  refine (HL.out _ HB1.out).mono ?_
  rintro e w2 ⟨v, rfl, own2, b2⟩
  have hb2 := Below.next HB1.out b2
  have hv := listAt_own own2
  obtain ⟨A, c, rfl⟩ := hv.len
  go_wp2_with fail
  with_reducible refine (HP.out _ _ hb2 hv).mono ?_
  rintro e w3 ⟨A3, c3, rfl, L3, b3⟩
  have hb3 := Below.next hb2 b3
  clear own2 hv
  go_wp2_with fail
  go_ret2
  exact ⟨A3, c3, rfl, L3, hb3⟩
set_option maxRecDepth 100000 in
set_option maxHeartbeats 1000000 in
theorem lprove_out {S : Nat → Prop} {b : Nat} {x : Lg} {w : World} (h : LogAt w S b x) (p : Int) (hp : p < 0 ∨ (x.heads.length : Nat) ≤ p) :
    Calls Tryz.prog 23 #[.pointer (some ⟨b, 0, none⟩), .int .i64 p] w fun e w' => e = .returned (.tuple #[.slice none 0 0, .int .i64 2]) ∧ Below w.heap.size w w' := by
  have hhd := head_ok h p
  rw [headA_out hp] at hhd
  have HH := Lib.hid hhd
  clear hhd h hp
  unfold hdV hd0 at HH
  go_enter Tryz.func23, Tryz.ntmps23
  go_wp2_with fail
  refine (HH.out).mono ?_
  rintro e w1 ⟨rfl, b1⟩
  have hb1 := Below.alloc b1 b1.size (.cells #[.int .i64 0, .string (str []), .string (str [])] 46)
  have HB1 := Lib.hid hb1
  clear hb1
  go_wp2_with fail
  go_ret2
  exact ⟨rfl, HB1.out⟩
theorem lprove_nil (p : Int) (w : World) : Calls Tryz.prog 23 #[.pointer none, .int .i64 p] w fun e w' => e = .returned (.tuple #[.slice none 0 0, .int .i64 1]) ∧ w' = w := by
  go_enter Tryz.func23, Tryz.ntmps23
  go_wp2_with fail
  go_ret2
  exact ⟨rfl, rfl⟩

set_option maxRecDepth 100000 in
set_option maxHeartbeats 1000000 in
theorem lext_ok {S : Nat → Prop} {b : Nat} {x : Lg} {w : World} (h : LogAt w S b x) (good : Good x) (k : Nat) (hk : k < x.heads.length) (hR : RoundOk w) :
    Calls Tryz.prog 25 #[.pointer (some ⟨b, 0, none⟩), .int .i64 k] w fun e w' => ∃ A c, e = .returned (.tuple #[.slice A (extL (leavesL x) (k + 1)).length c, .int .i64 0]) ∧ ListAt w' (.slice A (extL (leavesL x) (k + 1)).length c) (extL (leavesL x) (k + 1)) ∧ Below w.heap.size w w' := by
  have hlen := good.len
  have hsm := good.small
  have hsh := leavesL_short good
  have hll := leavesL_len x
  obtain ⟨y, hy⟩ : ∃ y, x.heads[k]? = some y := ⟨_, List.getElem?_eq_getElem hk⟩
  have hhd := head_ok h (k : Int)
  rw [headA_in hy] at hhd
  obtain ⟨yp, yc, ys⟩ := y
  have hlv : ∀ W, Below w.heap.size w W → Calls Tryz.prog 48 #[.pointer (some ⟨b, 0, none⟩)] W fun e w' => ∃ v, e = .returned v ∧ w'.ownsRow W.heap.size 9 1 v (leavesL x).length (svs (leavesL x)) ∧ Below W.heap.size W w' := fun W hW => leaves_ok (h.below hW) good
  have hpr : ∀ W v, Below w.heap.size w W → ListAt W v (leavesL x) → Calls Tryz.prog 53 #[v, .int .i64 ((k : Int) + 1)] W fun e w' => ∃ A c, e = .returned (.tuple #[.slice A (extL (leavesL x) (k + 1)).length c, .int .i64 0]) ∧ ListAt w' (.slice A (extL (leavesL x) (k + 1)).length c) (extL (leavesL x) (k + 1)) ∧ Below W.heap.size W w' := by
    intro W v hW hv
    have hx := ext_list v (leavesL x) (k + 1) W hv (by omega) (by omega) (fun y hy => by have := hsh y hy; omega) (hR.later hW)
    rw [show (((k + 1 : Nat)) : Int) = (k : Int) + 1 by omega] at hx
    exact hx
  obtain ⟨Q, hQ⟩ : ∃ Q, Q = extL (leavesL x) (k + 1) := ⟨_, rfl⟩
  obtain ⟨Lv, hLv⟩ : ∃ Lv, Lv = leavesL x := ⟨_, rfl⟩
  rw [← hQ] at hpr ⊢
  rw [← hLv] at hlv hpr
  have HH := Lib.hid hhd
  have HL := Lib.hid hlv
  have HP := Lib.hid hpr
  have hk2 : k ≤ 10000 := by omega
  clear hhd hlv hpr hsh hR h hy hQ hLv hll hlen hsm
  unfold hdV at HH
  go_enter Tryz.func25, Tryz.ntmps25
  go_wp2_with fail
  refine (HH.out).mono ?_
  rintro e w1 ⟨rfl, b1⟩
  have hb1 := Below.alloc b1 b1.size (.cells #[.int .i64 yp, .string (str yc), .string (str ys)] 46)
  have HB1 := Lib.hid hb1
  clear hb1
  go_wp2_with fail
  refine (HL.out _ HB1.out).mono ?_
  rintro e w2 ⟨v, rfl, own2, b2⟩
  have hb2 := Below.next HB1.out b2
  have hv := listAt_own own2
  obtain ⟨A, c, rfl⟩ := hv.len
  go_wp2_with fail
  with_reducible refine (HP.out _ _ hb2 hv).mono ?_
  rintro e w3 ⟨A3, c3, rfl, L3, b3⟩
  have hb3 := Below.next hb2 b3
  clear own2 hv
  go_wp2_with fail
  go_ret2
  exact ⟨A3, c3, rfl, L3, hb3⟩
set_option maxRecDepth 100000 in
set_option maxHeartbeats 1000000 in
theorem lext_out {S : Nat → Prop} {b : Nat} {x : Lg} {w : World} (h : LogAt w S b x) (p : Int) (hp : p < 0 ∨ (x.heads.length : Nat) ≤ p) :
    Calls Tryz.prog 25 #[.pointer (some ⟨b, 0, none⟩), .int .i64 p] w fun e w' => e = .returned (.tuple #[.slice none 0 0, .int .i64 2]) ∧ Below w.heap.size w w' := by
  have hhd := head_ok h p
  rw [headA_out hp] at hhd
  have HH := Lib.hid hhd
  clear hhd h hp
  unfold hdV hd0 at HH
  go_enter Tryz.func25, Tryz.ntmps25
  go_wp2_with fail
  refine (HH.out).mono ?_
  rintro e w1 ⟨rfl, b1⟩
  have hb1 := Below.alloc b1 b1.size (.cells #[.int .i64 0, .string (str []), .string (str [])] 46)
  have HB1 := Lib.hid hb1
  clear hb1
  go_wp2_with fail
  go_ret2
  exact ⟨rfl, HB1.out⟩
theorem lext_nil (p : Int) (w : World) : Calls Tryz.prog 25 #[.pointer none, .int .i64 p] w fun e w' => e = .returned (.tuple #[.slice none 0 0, .int .i64 1]) ∧ w' = w := by
  go_enter Tryz.func25, Tryz.ntmps25
  go_wp2_with fail
  go_ret2
  exact ⟨rfl, rfl⟩
end Go.Proofs.YtheebajklnljdaaGreatDoor
end

section
/- The reference's put. -/
namespace Go.Proofs.YtheebajklnljdaaGreatDoor
open Go Go.RowKit
attribute [local go_sem] Oper.semAt_some

set_option maxRecDepth 100000 in
set_option maxHeartbeats 4000000 in
theorem rput_ok (g o c : Nat) (l : List Int) (w : World) (hg : g < w.heap.size) (hl : l.length ≤ 1000) (hok : ∀ n ∈ l, IntOk n) (hc : ∀ (j : Nat) x, l[j]? = some x → w.cell? ⟨g, o + j, none⟩ = some (.int .i64 x)) :
    Calls Tryz.prog 69 #[.slice (some ⟨g, o, none⟩) l.length c] w fun e w' => e = .returned (.string (str (putsL l))) ∧ Below w.heap.size w w' := by
  have HC := Lib.hid hc
  have HOK := Lib.hid hok
  clear hc hok
  go_enter Tryz.func69, Tryz.ntmps69
  go_wp2_with fail
  go_loopw [3, 4] (fun sv iv wr => ∃ k : Nat, k ≤ l.length ∧ iv = .int .i64 k ∧ sv = .string (str (putsL (l.take k))) ∧ Below w.heap.size w wr) (fun _ iv _ => l.length - (intOf iv).toNat)
  case atStart => exact ⟨0, by omega, rfl, rfl, Below.refl _ _⟩
  case round =>
    obtain ⟨k, hk, rfl, rfl, hb⟩ := hrel
    by_cases h1 : k < l.length
    · have t1 : decide (k < l.length) = true := by simpa using h1
      obtain ⟨x, hx⟩ : ∃ x, l[k]? = some x := ⟨_, List.getElem?_eq_getElem h1⟩
      have cx : wr.cell? ⟨g, o + k, none⟩ = some (.int .i64 x) := (hb.cell (p := ⟨g, o + k, none⟩) hg).trans (HC.out k x hx)
      obtain ⟨x1, x2⟩ := HOK.out x (List.mem_of_getElem? hx)
      obtain ⟨P, hP⟩ : ∃ P, P = putsL (l.take k) := ⟨_, rfl⟩
      have hPl : P.length ≤ 9 * k := by
        rw [hP]
        refine Nat.le_trans (putsL_len _) ?_
        rw [List.length_take]; omega
      have hn : putsL (l.take (k + 1)) = P ++ putL x := by
        rw [List.take_add_one, hx, hP]
        exact putsL_snoc _ _
      have hxl := putL_len x
      have s1 : ¬ 9223372036854775807 < P.length + (putL x).length := by omega
      have hcat : str P ++ (⟨(putL x).toArray⟩ : ByteArray) = str (P ++ putL x) := cat_str P (putL x)
      have q0 : (0 : Int) ≤ (k : Int) := by omega
      have q1 : (k : Int) < (l.length : Int) := by omega
      rw [← hP]
      have HN := Lib.hid hn
      have HCAT := Lib.hid hcat
      clear hx hP hn hPl hxl hcat
      go_wp2_with fail
      refine (rPutInt_ok x x1 x2 wr).mono ?_
      rintro e w2 ⟨rfl, b2⟩
      have hb2 := Below.next hb b2
      go_wp2_with fail
      exact ⟨⟨k + 1, by omega, by go_num, by rw [HN.out, ← HCAT.out], hb2⟩, by simp [intOf]; omega⟩
    · have t1 : decide (k < l.length) = false := by simpa using h1
      have ht : l.take k = l := List.take_of_length_le (by omega)
      rw [ht]
      clear ht
      go_wp2_with fail
      go_ret
      exact ⟨rfl, hb⟩
end Go.Proofs.YtheebajklnljdaaGreatDoor
end

