/- Joined: SrA SrB. -/
import Derived.Test.YtgbemgndbemllaaGreatDoorGj
import Derived.Test.YtgbemgndbemllaaGreatDoorGc
import Derived.Test.YtgbemgndbemllaaGreatDoorShelfS
import Derived.Test.YtgbemgndbemllaaGreatDoorShelf
import Derived.Test.YtgbemgndbemllaaGreatDoorGi
import Derived.Test.YtgbemgndbemllaaGreatDoorGh
import Derived.Test.YtgbemgndbemllaaGreatDoorGk

section
/- The comparison of two rows by a column and their keys. -/
namespace Go.Proofs.YtgbemgndbemllaaGreatDoor
open Go Go.RowKit Go.Shelf
open Go.Sort (grow grow_grow alloc_eq_grow)
attribute [local go_sem] Oper.semAt_some

def orI (a b : Int) : Int := if a = 0 then b else a
set_option maxRecDepth 100000 in
set_option maxHeartbeats 1000000 in
theorem or_ok (g o c : Nat) (x y : Int) (w : World) (h0 : w.cell? ⟨g, o, none⟩ = some (.int .i64 x)) (h1 : w.cell? ⟨g, o + 1, none⟩ = some (.int .i64 y)) :
    Calls Tryz.prog 80 #[.slice (some ⟨g, o, none⟩) 2 c] w fun e w' => e = .returned (.int .i64 (orI x y)) ∧ w' = w := by
  by_cases hx : x = 0
  · subst hx
    by_cases hy : y = 0
    · subst hy
      go_enter Tryz.func80, Tryz.ntmps80
      go_wp2_with fail
      go_loopw [8] (fun iv wr => (iv = .int .i64 0 ∨ iv = .int .i64 1 ∨ iv = .int .i64 2) ∧ wr = w) (fun iv _ => 2 - (intOf iv).toNat)
      case atStart => exact ⟨.inl rfl, rfl⟩
      case round =>
        obtain ⟨rfl | rfl | rfl, rfl⟩ := hrel
        · go_wp2_with fail
          exact ⟨⟨by simp, by trivial⟩, by simp [intOf]⟩
        · go_wp2_with fail
          exact ⟨⟨by simp, by trivial⟩, by simp [intOf]⟩
        · go_wp2_with fail
          go_ret
          exact ⟨rfl, rfl⟩
    · have t1 : (y != 0) = true := by simpa using hy
      have e : orI 0 y = y := rfl
      rw [e]
      clear hy e
      go_enter Tryz.func80, Tryz.ntmps80
      go_wp2_with fail
      go_loopw [8] (fun iv wr => (iv = .int .i64 0 ∨ iv = .int .i64 1) ∧ wr = w) (fun iv _ => 2 - (intOf iv).toNat)
      case atStart => exact ⟨.inl rfl, rfl⟩
      case round =>
        obtain ⟨rfl | rfl, rfl⟩ := hrel
        · go_wp2_with fail
          exact ⟨⟨by simp, by trivial⟩, by simp [intOf]⟩
        · go_wp2_with fail
          go_ret
          exact ⟨rfl, rfl⟩
  · have t1 : (x != 0) = true := by simpa using hx
    have e : orI x y = x := if_neg hx
    rw [e]
    clear hx e
    go_enter Tryz.func80, Tryz.ntmps80
    go_wp2_with fail
    go_loopw [8] (fun iv wr => iv = .int .i64 0 ∧ wr = w) (fun iv _ => 2 - (intOf iv).toNat)
    case atStart => exact ⟨rfl, rfl⟩
    case round =>
      obtain ⟨rfl, rfl⟩ := hrel
      go_wp2_with fail
      go_ret
      exact ⟨rfl, rfl⟩

/-- w' is w with blocks laid behind it -/
def Gr (w w' : World) : Prop := ∃ q os, w' = grow (w.drewN q) os
theorem Gr.refl (w : World) : Gr w w := ⟨0, #[], by simp [grow, World.drewN]⟩
theorem Gr.drew {a w : World} (h : Gr a w) : Gr a w.drew := by
  obtain ⟨q, os, rfl⟩ := h
  exact ⟨q + 1, os, rfl⟩
theorem Gr.alloc {a w : World} (h : Gr a w) (o : Obj) : Gr a (w.alloc o) := by
  obtain ⟨q, os, rfl⟩ := h
  exact ⟨q, os ++ #[o], by rw [alloc_eq_grow, grow_grow]⟩
theorem Gr.below {a w : World} (h : Gr a w) : Below a.heap.size a w := by
  obtain ⟨q, os, rfl⟩ := h
  refine ⟨rfl, rfl, rfl, by simp [grow, World.drewN], fun k hk => ?_⟩
  show (a.heap ++ os)[k]? = a.heap[k]?
  rw [Array.getElem?_append_left hk]

theorem Gr.trans {a b w : World} (h : Gr a b) (k : Gr b w) : Gr a w := by
  obtain ⟨q, os, rfl⟩ := h
  obtain ⟨q', os', rfl⟩ := k
  exact ⟨q + q', os ++ os', by simp [grow, World.drewN, Nat.add_assoc, Array.append_assoc]⟩
theorem value_gr (r : Rw) (c : Int) (w : World) :
    Calls Tryz.prog 39 #[rwV r, .int .i64 c] w fun e w' => e = .returned (.int .i64 (r.val c)) ∧ Gr w w' := by
  refine (value_ok r c w).mono ?_
  rintro e w' ⟨rfl, rfl⟩
  exact ⟨rfl, (Gr.refl w).alloc _⟩

def cfO (c : Int) (x y : Rw) : Int := orI (Lib.compareInt (x.val c) (y.val c)) (Lib.compareInt x.key y.key)

set_option maxRecDepth 100000 in
set_option maxHeartbeats 4000000 in
theorem cmp_ok (x y : Rw) (c : Int) (bx : Nat) (w : World) (hc : w.cell? ⟨bx, 0, none⟩ = some (.int .i64 c)) :
    Calls Tryz.prog 79 #[rwV x, rwV y, .pointer (some ⟨bx, 0, none⟩)] w fun e w' => e = .returned (.int .i64 (cfO c x y)) ∧ Gr w w' := by
  have hv1 := fun W => value_gr x c W
  have hv2 := fun W => value_gr y c W
  have hc1 := fun W => Tryz.cmp_Compare_int (x.val c) (y.val c) W
  have hc2 := fun W => Tryz.cmp_Compare_int x.key y.key W
  unfold cfO
  obtain ⟨X, hX⟩ : ∃ X, X = Lib.compareInt (x.val c) (y.val c) := ⟨_, rfl⟩
  obtain ⟨Y, hY⟩ : ∃ Y, Y = Lib.compareInt x.key y.key := ⟨_, rfl⟩
  rw [← hX] at hc1 ⊢
  rw [← hY] at hc2 ⊢
  generalize x.val c = vx at *
  generalize y.val c = vy at *
  clear hX hY
  obtain ⟨xt, xk, x0, x1, x2⟩ := x
  obtain ⟨yt, yk, y0, y1, y2⟩ := y
  have hbx : bx < w.heap.size := block_of_cell hc
  have g0 : Gr w ((w.alloc (.cells (rwC ⟨xt, xk, x0, x1, x2⟩).toArray 67)).alloc (.cells (rwC ⟨yt, yk, y0, y1, y2⟩).toArray 67)) := ((Gr.refl w).alloc _).alloc _
  have K1 : BlkIs ((w.alloc (.cells (rwC ⟨xt, xk, x0, x1, x2⟩).toArray 67)).alloc (.cells (rwC ⟨yt, yk, y0, y1, y2⟩).toArray 67)) w.heap.size 67 (rwC ⟨xt, xk, x0, x1, x2⟩) := BlkIs.alloc (BlkIs.new w 67 _) _
  have K2 : BlkIs ((w.alloc (.cells (rwC ⟨xt, xk, x0, x1, x2⟩).toArray 67)).alloc (.cells (rwC ⟨yt, yk, y0, y1, y2⟩).toArray 67)) (w.heap.size + 1) 67 (rwC ⟨yt, yk, y0, y1, y2⟩) := alloc_new_at _ _ _ (by rw [World.size_alloc])
  unfold rwV
  unfold rwC at g0 K1 K2
  unfold rwV at hv1 hv2
  dsimp only at hv1 hv2 hc2 g0 K1 K2 ⊢
  have HV1 := Lib.hid hv1
  have HV2 := Lib.hid hv2
  have HC1 := Lib.hid hc1
  have HC2 := Lib.hid hc2
  clear hv1 hv2 hc1 hc2
  go_enter Tryz.func79, Tryz.ntmps79
  go_wp2_with fail
  generalize (w.alloc (.cells _ 67)).alloc (.cells _ 67) = w2 at *
  have Z : Gr w2 w2 := Gr.refl w2
  have HBOX := Lib.hid (fun (W : World) (hW : Gr w2 W) => (show (fun W => W.cell? ⟨bx, 0, none⟩ = some (.int .i64 c) ∧ (W.cell? ⟨w.heap.size, 0, none⟩ = some (.int .i64 xt) ∧ W.cell? ⟨w.heap.size, 1, none⟩ = some (.int .i64 xk) ∧ W.cell? ⟨w.heap.size, 2, none⟩ = some (.int .i64 x0) ∧ W.cell? ⟨w.heap.size, 3, none⟩ = some (.int .i64 x1) ∧ W.cell? ⟨w.heap.size, 4, none⟩ = some (.int .i64 x2)) ∧ W.cell? ⟨w.heap.size + 1, 0, none⟩ = some (.int .i64 yt) ∧ W.cell? ⟨w.heap.size + 1, 1, none⟩ = some (.int .i64 yk) ∧ W.cell? ⟨w.heap.size + 1, 2, none⟩ = some (.int .i64 y0) ∧ W.cell? ⟨w.heap.size + 1, 3, none⟩ = some (.int .i64 y1) ∧ W.cell? ⟨w.heap.size + 1, 4, none⟩ = some (.int .i64 y2)) W from ⟨((g0.below.cell (p := ⟨bx, 0, none⟩) hbx).symm ▸ hc : w2.cell? ⟨bx, 0, none⟩ = _) ▸ (hW.below.cell (p := ⟨bx, 0, none⟩) (Nat.lt_of_lt_of_le hbx g0.below.size)), ⟨(K1.later hW.below).cell 0, (K1.later hW.below).cell 1, (K1.later hW.below).cell 2, (K1.later hW.below).cell 3, (K1.later hW.below).cell 4⟩, (K2.later hW.below).cell 0, (K2.later hW.below).cell 1, (K2.later hW.below).cell 2, (K2.later hW.below).cell 3, (K2.later hW.below).cell 4⟩))
  replace Z := Z.drew
  refine wp_region_noPanic ?_
  refine wp_region_ord (fun W => W.cell? ⟨bx, 0, none⟩ = some (.int .i64 c) ∧ (W.cell? ⟨w.heap.size, 0, none⟩ = some (.int .i64 xt) ∧ W.cell? ⟨w.heap.size, 1, none⟩ = some (.int .i64 xk) ∧ W.cell? ⟨w.heap.size, 2, none⟩ = some (.int .i64 x0) ∧ W.cell? ⟨w.heap.size, 3, none⟩ = some (.int .i64 x1) ∧ W.cell? ⟨w.heap.size, 4, none⟩ = some (.int .i64 x2)) ∧ W.cell? ⟨w.heap.size + 1, 0, none⟩ = some (.int .i64 yt) ∧ W.cell? ⟨w.heap.size + 1, 1, none⟩ = some (.int .i64 yk) ∧ W.cell? ⟨w.heap.size + 1, 2, none⟩ = some (.int .i64 y0) ∧ W.cell? ⟨w.heap.size + 1, 3, none⟩ = some (.int .i64 y1) ∧ W.cell? ⟨w.heap.size + 1, 4, none⟩ = some (.int .i64 y2)) [(0, false), (1, false), (3, false), (4, false), (7, false), (8, false), (9, false), (10, false), (2, true), (5, true), (6, true), (11, true), (12, true), (13, true), (14, true)] (by kernel_rfl) (by as_aux_lemma => kernel_rfl) (by rfl) (by as_aux_lemma => kernel_rfl) (fun _ _ _ _ _ h => h) (HBOX.out _ Z) (fun _ => ?_)
  repeat (first
    | (apply SeqO.take0
       case ho => exact rfl
       case hg => exact rfl
       case hy => (intro w hSw; (try dsimp only at hSw); go_simp; try with_reducible rfl)
       try simp only [Act.put, List.setIfInBounds_toArray, List.set_cons_zero, List.set_cons_succ])
    | (apply SeqO.takeG
       case ho => exact rfl
       case hg => exact rfl
       case hj => exact rfl
       case hd => exact rfl
       case ht => exact rfl
       case hy => (intro w hSw; (try dsimp only at hSw); go_simp; try with_reducible rfl)
       try simp only [Act.put, List.setIfInBounds_toArray, List.set_cons_zero, List.set_cons_succ])
    | (apply SeqO.skipG
       case ho => exact rfl
       case hg => exact rfl
       case hj => exact rfl
       case hd => exact rfl
       case ht => exact rfl
       case hne => exact rfl
       try simp only [Act.put, List.setIfInBounds_toArray, List.set_cons_zero, List.set_cons_succ])
    | (first
       | (apply SeqO.step0
          case ho => exact rfl
          case hg => exact rfl)
       | (apply SeqO.stepG
          case ho => exact rfl
          case hg => exact rfl
          case hj => exact rfl
          case hd => exact rfl
          case ht => exact rfl)
       intro K hK
       go_simp
       first
       | (go_at_call 39; (first | (with_reducible refine (HV1.out _).mono ?_) | (with_reducible refine (HV2.out _).mono ?_) | fail); rintro e wx ⟨rfl, gx⟩; replace Z := Z.trans gx; clear gx; go_wp2_with fail)
       | (go_at_call 81; (first | (with_reducible refine (HC1.out _).mono ?_) | (with_reducible refine (HC2.out _).mono ?_) | fail); rintro e wx ⟨rfl, rfl⟩; go_wp2_with fail)
       | (go_at_call 80; (refine (or_ok _ 0 2 X Y _ (by rw [(BlkIs.new wx 3 _).cell]; rfl) (by rw [(BlkIs.new wx 3 _).cell]; rfl)).mono ?_); rintro e wx ⟨rfl, rfl⟩; replace Z := Z.alloc (.cells #[.int .i64 X, .int .i64 Y] 3); go_wp2_with fail)
       | skip
       | fail
       refine hK.out _ _ ?_ (fun _ => ?_)
       · first | exact HBOX.out _ Z | exact HBOX.out _ (Z.alloc _)
       clear hK K
       try simp only [Act.put, List.setIfInBounds_toArray, List.set_cons_zero, List.set_cons_succ]))
  refine SeqO.done ?_
  refine NoPanic.normal ?_
  go_wp2_with fail
  go_ret
  exact ⟨rfl, g0.trans Z⟩
end Go.Proofs.YtgbemgndbemllaaGreatDoor
end

section
/- Sorting an owned row of rows. -/
namespace Go.Proofs.YtgbemgndbemllaaGreatDoor
open Go Go.RowKit Go.Shelf
open Go.Sort (grow grow_grow alloc_eq_grow PermIn SortedIn SWO putCells heap_grow_old putRow mapBlock onCells flatK size_flatK get_flatK HoldsK putRowK)

instance : Inhabited Rw := ⟨rw0⟩

theorem flatK_get (L : List Rw) (j : Nat) : (flatK rwC 5 L.toArray)[j]? = (L.flatMap rwC)[j]? := by
  have hs : (flatK rwC 5 L.toArray).size = L.length * 5 := by rw [size_flatK]; simp
  have hl := flat_len rwC 5 rwC_len L
  by_cases hj : j < L.length * 5
  · have h1 : j / 5 < L.length := by omega
    have h2 : j % 5 < 5 := Nat.mod_lt _ (by decide)
    obtain ⟨x, hx⟩ : ∃ x, L[j / 5]? = some x := ⟨_, List.getElem?_eq_getElem h1⟩
    obtain ⟨u, hu⟩ : ∃ u, (rwC x)[j % 5]? = some u := ⟨_, List.getElem?_eq_getElem (by rw [rwC_len]; exact h2)⟩
    have e := flat_get rwC 5 rwC_len L _ _ _ _ hx hu
    rw [Nat.div_add_mod' j 5] at e
    rw [e]
    have e2 := get_flatK rwC 5 L.toArray j (by simpa using hj)
    have e3 : L.toArray[j / 5]! = x := by
      rw [getElem!_def]
      simp [hx]
    rw [e3] at e2
    have e4 : (rwC x)[j % 5]! = u := by rw [getElem!_def, hu]
    rw [e4] at e2
    rw [Array.getElem?_eq_getElem (by omega)]
    rw [getElem!_pos _ _ (by omega)] at e2
    rw [e2]
  · rw [Array.getElem?_eq_none (by omega), List.getElem?_eq_none (by omega)]
theorem flatK_rws (L : List Rw) : (flatK rwC 5 L.toArray).toList = L.flatMap rwC := by
  apply List.ext_getElem?
  intro j
  rw [Array.getElem?_toList, flatK_get]

theorem holds_rws {w : World} {g : Nat} {cur : Array Value} {e : TypeId} {L : List Rw} (hb : w.heap[g]? = some (.cells cur e (0, 0))) (ht : cur.toList.take (L.length * 5) = L.flatMap rwC) : HoldsK rwC 5 w g 0 L.toArray := by
  intro j hj
  have hj' : j < L.length * 5 := by simpa using hj
  refine ⟨?_, by simp [World.frozen?, hb]⟩
  have h1 : (cur.toList.take (L.length * 5))[j]? = (L.flatMap rwC)[j]? := by rw [ht]
  rw [List.getElem?_take_of_lt hj', ← flatK_get, Array.getElem?_eq_getElem hj] at h1
  simp only [World.cell?, hb, Nat.zero_add]
  simp only [Option.isSome_none, Bool.false_eq_true, if_false]
  rw [← Array.getElem?_toList, h1, getElem!_pos (flatK rwC 5 L.toArray) j hj]
  rfl

theorem heap_sorted {w : World} {g n : Nat} {os : Array Obj} {cur : Array Value} {e : TypeId} {fr : Nat × Nat} (d : Array Rw) (hb : w.heap[g]? = some (.cells cur e fr)) :
    (sortWorldK rwC 5 w g 0 n d os).heap[g]? = some (.cells (putCells id 0 (flatK rwC 5 d) cur) e fr) := by
  have hg : g < w.heap.size := (Array.getElem?_eq_some_iff.1 hb).1
  unfold sortWorldK putRowK
  rw [heap_grow_old _ _ (by simpa using hg)]
  simp [putRow, mapBlock, Sort.ahead, Array.getElem?_modify, hb, onCells]
theorem grownBy_sorted {w : World} {g n : Nat} {os : Array Obj} (d : Array Rw) : w.grownBy (sortWorldK rwC 5 w g 0 n d os) (some g) := by
  refine ⟨rfl, rfl, rfl, by simp [sortWorldK, putRowK], fun k hk hne => ?_⟩
  unfold sortWorldK putRowK
  rw [heap_grow_old _ _ (by simpa using hk)]
  have : g ≠ k := fun e => hne (by rw [e])
  simp [putRow, mapBlock, Sort.ahead, Array.getElem?_modify, this]
theorem take_putCells (cur : Array Value) (L : List Rw) (h : L.length * 5 ≤ cur.size) : (putCells id 0 (flatK rwC 5 L.toArray) cur).toList.take (L.length * 5) = L.flatMap rwC := by
  apply List.ext_getElem?
  intro j
  by_cases hj : j < L.length * 5
  · rw [List.getElem?_take_of_lt hj, Array.getElem?_toList, ← flatK_get]
    have hs : j < (flatK rwC 5 L.toArray).size := by rw [size_flatK]; simpa using hj
    rw [Array.getElem?_eq_getElem hs]
    simp [putCells, hj, show j < cur.size by omega]
  · rw [List.getElem?_take_eq_none (by omega), List.getElem?_eq_none (by rw [flat_len rwC 5 rwC_len]; omega)]

theorem cfO_lt (c : Int) (x y : Rw) : ltOf (cfO c) x y = ltO c x y := by
  unfold ltOf cfO ltO orI Lib.compareInt
  by_cases h1 : x.val c < y.val c
  · simp [h1]
  · by_cases h2 : y.val c < x.val c
    · have : ¬ x.val c = y.val c := by omega
      simp [h1, h2, this]
    · have e : x.val c = y.val c := by omega
      by_cases h3 : x.key < y.key
      · simp [e, h3]
      · by_cases h4 : y.key < x.key <;> simp [e, h3, h4]
theorem swoO (c : Int) : SWO (ltOf (cfO c)) where
  irrefl x := by rw [cfO_lt, ltO_no]; omega
  trans x y z h1 h2 := by rw [cfO_lt, ltO_iff] at *; omega
  ntrans x y z h1 h2 := by rw [cfO_lt, ltO_no] at *; omega

theorem isAggRow (w : World) : (isAgg 67).run Tryz.prog w = .ok true w := Tryz.isAgg67 w
theorem sizeOfRow (w : World) : (Go.sizeOf 67).run Tryz.prog w = .ok 5 w := Tryz.sizeOf67 w

theorem cell_sorted {w : World} {g n : Nat} {os : Array Obj} (d : Array Rw) {bx : Nat} {u : Value} (h : w.cell? ⟨bx, 0, none⟩ = some u) (hne : bx ≠ g) : (sortWorldK rwC 5 w g 0 n d os).cell? ⟨bx, 0, none⟩ = some u := by
  have hb := block_of_cell h
  rw [← h]
  have k := (@grownBy_sorted w g n os d).block bx hb (fun e => hne (Option.some.inj e))
  unfold World.cell?
  rw [k]

theorem sort_rws {base : Nat} {v : Value} {L : List Rw} {c : Int} {bx : Nat} {w : World} (hown : w.ownsRow base 67 5 v L.length (L.flatMap rwC)) (hc : w.cell? ⟨bx, 0, none⟩ = some (.int .i64 c)) (hne : v.ownBlock ≠ some bx) (hl : L.length < 4611686018427387904) :
    Calls Tryz.prog 78 #[v, .func (.func 79) #[] #[.pointer (some ⟨bx, 0, none⟩)]] w fun e w' => e = .returned (.tuple #[]) ∧
      ∃ L' : List Rw, L'.Perm L ∧ (L'.Pairwise fun a b => leO c a b = true) ∧ w'.ownsRow base 67 5 v L'.length (L'.flatMap rwC) ∧ w.grownBy w' v.ownBlock := by
  rcases hown.2 with ⟨rfl, h0⟩ | ⟨g, cap, cur, rfl, hbase, hb, h1, h2, h3, h4⟩
  · have : L = [] := List.eq_nil_of_length_eq_zero h0
    subst this
    refine (AnyF.slices_SortFunc_none Tryz.sortRow none 0 _ w).mono ?_
    rintro e w' ⟨rfl, rfl⟩
    exact ⟨rfl, [], List.Perm.refl _, List.Pairwise.nil, hown, World.grownBy.refl _ _⟩
  · have hne' : bx ≠ g := fun e => hne (by rw [e]; rfl)
    have hg : g < w.heap.size := (Array.getElem?_eq_some_iff.1 hb).1
    have eg : ∀ args w, (callFunc 79 args).run Tryz.prog w = .ok (.enter 79 args) w := enters_of Tryz.func79 (by kernel_rfl) rfl
    have hcmp : CmpLays Tryz.prog 79 #[.pointer (some ⟨bx, 0, none⟩)] rwC 5 (cfO c) g 0 L.toArray.size w := fun m os dk _ x y =>
      cmp_ok x y c bx _ (cell_sorted dk hc hne')
    have hcon := AnyQ.slices_SortFunc Tryz.sortRow 5 isAggRow sizeOfRow rwC rwC_len (fun x u hu => by
      simp only [rwC, List.mem_cons, List.not_mem_nil, or_false] at hu
      rcases hu with rfl | rfl | rfl | rfl | rfl <;> rfl) (cfO c) (swoO c) 79 #[.pointer (some ⟨bx, 0, none⟩)] g 0 cap L.toArray w eg hcmp (holds_rws hb h4) hg (by simpa using hl)
    rw [List.size_toArray] at hcon
    refine Calls.mono hcon ?_
    rintro e w' ⟨rfl, d', n, os, hp, hs, rfl⟩
    obtain ⟨p1, p2, p3⟩ := hp
    obtain ⟨L'⟩ := d'
    have hlen : L'.length = L.length := by simpa using p1
    have hperm : L'.Perm L := by
      have e1 : ((L'.toArray).extract 0 L.toArray.size).toList = L' := by
        simp
        rw [← hlen, List.take_length]
      have e2 : ((L.toArray).extract 0 L.toArray.size).toList = L := by simp
      have := p3
      simp only [List.size_toArray] at this e1 e2
      rw [e1, e2] at this
      exact this
    refine ⟨rfl, L', hperm, ?_, ⟨by rw [flat_len rwC 5 rwC_len], .inr ⟨g, cap, _, by rw [hlen], hbase, heap_sorted _ hb, by omega, h2, by simpa [putCells] using h3, ?_⟩⟩, grownBy_sorted _⟩
    · rw [List.pairwise_iff_getElem]
      intro i j hi hj hij
      have := hs i j (Nat.zero_le _) hij (by omega)
      rw [cfO_lt] at this
      unfold leO
      rw [getElem!_pos _ _ (by simpa using hj), getElem!_pos _ _ (by simpa using hi)] at this
      simpa using this
    · exact take_putCells cur L' (by omega)
end Go.Proofs.YtgbemgndbemllaaGreatDoor
end

