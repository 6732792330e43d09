/- Joined: StA StB StC StD StE. -/
import Derived.Test.YtgbemgndbemllaaGreatDoorQKeyA
import Derived.Test.YtgbemgndbemllaaGreatDoorGg
import Derived.Test.YtgbemgndbemllaaGreatDoorGh
import Derived.Test.YtgbemgndbemllaaGreatDoorGi
import Derived.Test.YtgbemgndbemllaaGreatDoorQR3B

section
/- The store's state in memory; New. -/
namespace Go.Proofs.YtgbemgndbemllaaGreatDoor
open Go Go.RowKit
attribute [local go_sem] Oper.semAt_some

/-- block b is a state; m is its map -/
structure StAt (w : World) (b m : Nat) (s : StT) : Prop where
  blk : BlkIs w b 84 [.map (some m), .int .i64 s.pos]
  map : MapAt Tryz.prog 132 w m s.rows
  ne : b ≠ m
theorem StAt.block {w w' : World} {b m : Nat} {s : StT} (h : StAt w b m s) (h1 : w'.heap[b]? = w.heap[b]?) (h2 : w'.heap[m]? = w.heap[m]?) : StAt w' b m s := ⟨h1.trans h.blk, h.map.block h2, h.ne⟩
theorem StAt.below {w w' : World} {b m : Nat} {s : StT} (h : StAt w b m s) (hb : Below w.heap.size w w') : StAt w' b m s := h.block (hb.block b h.blk.lt) (hb.block m h.map.lt)

theorem mapRow : Tryz.prog.underlying 80 = some (.map 132 67) := Tryz.underlying80
theorem zeroRow (w : World) : (zeroValue 67).run Tryz.prog w = .ok (rwV rw0) w := Tryz.zeroValue67 w

set_option maxRecDepth 100000 in
theorem sNew_ok (w : World) :
    Calls Tryz.prog 7 #[] w fun e w' => ∃ b m, e = .returned (.pointer (some ⟨b, 0, none⟩)) ∧ StAt w' b m st0 ∧ w.heap.size ≤ b ∧ w.heap.size ≤ m ∧ Below w.heap.size w w' := by
  have hmm : ∀ W : World, (Instr.makeMap 80 none).run Tryz.prog W = .ok (.map (some W.heap.size)) (W.alloc (.map #[] 0)) := fun _ => rfl
  go_enter Tryz.func7, Tryz.ntmps7
  go_wp2_with fail
  go_ret
  refine ⟨_, w.heap.size, rfl, ⟨alloc_new_at _ _ _ (by rw [World.size_alloc]), (mapAt_made w).block ?_, by omega⟩, by omega, Nat.le_refl _, ?_⟩
  · exact Below.heap_alloc _ _ w.heap.size (by rw [World.size_alloc]; omega)
  · exact Below.alloc (Below.alloc (Below.refl _ _) (Nat.le_refl _) _) (by rw [World.size_alloc]; omega) _
end Go.Proofs.YtgbemgndbemllaaGreatDoor
end

section
/- The store's fits. -/
namespace Go.Proofs.YtgbemgndbemllaaGreatDoor
open Go Go.RowKit
attribute [local go_sem] Oper.semAt_some

theorem chgB_64 {c : Chg} (h : chgB c = true) : In64 c.table ∧ In64 c.key := by
  unfold chgB soundB rowB at h
  unfold In64
  obtain ⟨t, k, had, old, has, new⟩ := c
  dsimp only at h ⊢
  cases had <;> cases has <;> simp at h <;> omega
theorem dif_bounds (c : Chg) : -1 ≤ dif c ∧ dif c ≤ 1 := by
  unfold dif
  cases c.has <;> cases c.had <;> simp
theorem difs_bounds : ∀ l : List Chg, -(l.length : Int) ≤ difs l ∧ difs l ≤ (l.length : Int)
  | [] => by simp [difs]
  | c :: l => by
    have h1 := difs_bounds l
    have h2 := dif_bounds c
    unfold difs at *
    simp only [List.map_cons, List.sum_cons, List.length_cons]
    omega
theorem difs_take {l : List Chg} {k : Nat} {x : Chg} (hx : l[k]? = some x) : difs (l.take (k + 1)) = difs (l.take k) + dif x := by
  rw [List.take_add_one, hx]
  simp [difs]
theorem all_take {l : List Chg} {f : Chg → Bool} {k : Nat} {x : Chg} (hx : l[k]? = some x) (h : (l.take k).all f = true) (hf : f x = true) : (l.take (k + 1)).all f = true := by
  rw [List.take_add_one, hx, List.all_append, h]
  simpa using hf
theorem all_not {l : List Chg} {f : Chg → Bool} {k : Nat} {x : Chg} (hx : l[k]? = some x) (hf : f x = false) : l.all f = false := by
  rw [List.all_eq_false]
  exact ⟨x, List.mem_of_getElem? hx, by simp [hf]⟩

set_option maxRecDepth 100000 in
set_option maxHeartbeats 4000000 in
theorem fits_ok (b m : Nat) (s : StT) (p : Int) (A : Option Addr) (c : Nat) (l : List Chg) (w : World) (hS : StAt w b m s) (g : GoodS s) (hp1 : 0 ≤ s.pos) (hp2 : s.pos ≤ 100000) (hv : ChgsAt w (.slice A l.length c) l) :
    Calls Tryz.prog 61 #[.pointer (some ⟨b, 0, none⟩), recV p (.slice A l.length c)] w fun e w' => e = .returned (.bool (fitsB s ⟨p, l⟩)) ∧ Below w.heap.size w w' := by
  have al0 := Below.alloc (Below.refl w.heap.size w) (Nat.le_refl _) (.cells #[.int .i64 p, .slice A l.length c] 37)
  have K0 := BlkIs.new w 37 #[.int .i64 p, .slice A l.length c]
  have hS0 := hS.below al0
  have hv0 := hv.below al0
  unfold recV
  obtain ⟨w0, hw0⟩ : ∃ w0, w0 = w.alloc (.cells #[.int .i64 p, .slice A l.length c] 37) := ⟨_, rfl⟩
  rw [← hw0] at al0 K0 hS0 hv0
  have hrec := fun W (hW : Below w0.heap.size w0 W) => recValid_ok p A c l W (hv0.below hW)
  obtain ⟨B, hB⟩ : ∃ B, B = recB ⟨p, l⟩ := ⟨_, rfl⟩
  obtain ⟨E, hE⟩ : ∃ E, E = decide (p = s.pos + 1) := ⟨_, rfl⟩
  have hfit : fitsB s ⟨p, l⟩ = (B && E && (l.all (hitB s.rows) && decide ((s.rows.length : Int) + difs l ≤ 2000))) := by
    unfold fitsB; rw [hB, hE]
  have hasc : B = true → 1 ≤ l.length ∧ l.length ≤ 8 ∧ ∀ x ∈ l, chgB x = true := by
    intro e
    rw [e] at hB
    have hB := hB.symm
    have h2 := hB
    unfold recB at h2
    simp only [Bool.and_eq_true, decide_eq_true_eq] at h2
    exact ⟨h2.1.2.1, h2.1.2.2, ascB_chg (recB_asc hB)⟩
  unfold recV at hrec
  rw [← hB] at hrec
  rw [hfit]
  have HREC := Lib.hid hrec
  have HASC := Lib.hid hasc
  have HW0 := Lib.hid hw0
  have HS0 := Lib.hid hS0
  have HV0 := Lib.hid hv0
  have HK := Lib.hid K0
  have HG := Lib.hid g
  have HA := Lib.hid al0
  obtain ⟨q, hq⟩ : ∃ q, q = s.pos + 1 := ⟨_, rfl⟩
  have t0 : IntKind.i64.wrap (s.pos + 1) = q := by rw [hq]; simp [IntKind.wrap, IntKind.bits, IntKind.signed]; omega
  have t1 : (p != q) = !E := by rw [hE, hq]; rfl
  have hsm := g.small
  have hlt0 : w.heap.size < w0.heap.size := K0.lt
  have HBOX := Lib.hid (fun (W : World) (hW : Below w0.heap.size w0 W) => (show (fun W => W.cell? ⟨w.heap.size, 0, none⟩ = some (.int .i64 p) ∧ W.cell? ⟨w.heap.size, 1, none⟩ = some (.slice A l.length c) ∧ W.cell? ⟨b, 1, none⟩ = some (.int .i64 s.pos) ∧ Below w0.heap.size w0 W) W from ⟨(K0.later hW).cell 0, (K0.later hW).cell 1, (hS0.below hW).blk.cell 1, hW⟩))
  have c0 := (HBOX.out w0 (Below.refl _ _)).1
  have c1 := (HBOX.out w0 (Below.refl _ _)).2.1
  have c2 := (HBOX.out w0 (Below.refl _ _)).2.2.1
  have c3 : w0.cell? ⟨b, 0, none⟩ = some (.map (some m)) := hS0.blk.cell 0
  clear hrec hasc hS0 hv0 K0 g al0 hB hE hfit hS hv hq
  go_enter Tryz.func61, Tryz.ntmps61
  go_wp2_with fail
  rw [← HW0.out]
  clear HW0 hw0
  cases B
  case false =>
    have Z := Below.refl w0.heap.size w0
    replace Z := Below.drew Z
    refine wp_region_noPanic ?_
    refine wp_region_ord (fun W => W.cell? ⟨w.heap.size, 0, none⟩ = some (.int .i64 p) ∧ W.cell? ⟨w.heap.size, 1, none⟩ = some (.slice A l.length c) ∧ W.cell? ⟨b, 1, none⟩ = some (.int .i64 s.pos) ∧ Below w0.heap.size w0 W) [(0, true), (1, true), (2, true), (3, true), (4, false), (5, false), (6, true), (7, true), (8, true), (9, true), (10, true), (11, true), (12, true), (13, true)] (by kernel_rfl) (by as_aux_lemma => kernel_rfl) (by rfl) (by as_aux_lemma => kernel_rfl) (fun _ _ _ _ _ h => h) (HBOX.out _ Z) (fun _ => ?_)
    repeat (first
      | (apply SeqO.take0
         case ho => exact rfl
         case hg => exact rfl
         case hy => (intro w hSw; (try dsimp only at hSw); go_simp; try with_reducible rfl)
         try simp only [Act.put, List.setIfInBounds_toArray, List.set_cons_zero, List.set_cons_succ])
      | (apply SeqO.takeG
         case ho => exact rfl
         case hg => exact rfl
         case hj => exact rfl
         case hd => exact rfl
         case ht => exact rfl
         case hy => (intro w hSw; (try dsimp only at hSw); go_simp; try with_reducible rfl)
         try simp only [Act.put, List.setIfInBounds_toArray, List.set_cons_zero, List.set_cons_succ])
      | (apply SeqO.skipG
         case ho => exact rfl
         case hg => exact rfl
         case hj => exact rfl
         case hd => exact rfl
         case ht => exact rfl
         case hne => exact rfl
         try simp only [Act.put, List.setIfInBounds_toArray, List.set_cons_zero, List.set_cons_succ])
      | (first
         | (apply SeqO.step0
            case ho => exact rfl
            case hg => exact rfl)
         | (apply SeqO.stepG
            case ho => exact rfl
            case hg => exact rfl
            case hj => exact rfl
            case hd => exact rfl
            case ht => exact rfl)
         intro K hK
         go_simp
         first
         | (go_at_call 95; (with_reducible refine (HREC.out _ Z).mono ?_); rintro e wx ⟨rfl, bx⟩; replace Z := Below.next Z bx; clear bx; go_wp2_with fail)
         | fail
         refine hK.out _ _ ?_ (fun _ => ?_)
         · exact HBOX.out _ Z
         clear hK K
         try simp only [Act.put, List.setIfInBounds_toArray, List.set_cons_zero, List.set_cons_succ]))
    refine SeqO.done ?_
    refine NoPanic.normal ?_
    go_wp2_with fail
    go_ret
    exact ⟨rfl, Below.next HA.out Z⟩
  case true =>
    obtain ⟨l1, l8, hall⟩ := HASC.out rfl
    have HALL := Lib.hid hall
    clear hall HASC
    cases E
    case false =>
      have Z := Below.refl w0.heap.size w0
      replace Z := Below.drew Z
      refine wp_region_noPanic ?_
      refine wp_region_ord (fun W => W.cell? ⟨w.heap.size, 0, none⟩ = some (.int .i64 p) ∧ W.cell? ⟨w.heap.size, 1, none⟩ = some (.slice A l.length c) ∧ W.cell? ⟨b, 1, none⟩ = some (.int .i64 s.pos) ∧ Below w0.heap.size w0 W) [(0, true), (1, true), (2, true), (3, true), (4, false), (5, false), (6, true), (7, true), (8, true), (9, true), (10, true), (11, true), (12, true), (13, true)] (by kernel_rfl) (by as_aux_lemma => kernel_rfl) (by rfl) (by as_aux_lemma => kernel_rfl) (fun _ _ _ _ _ h => h) (HBOX.out _ Z) (fun _ => ?_)
      repeat (first
        | (apply SeqO.take0
           case ho => exact rfl
           case hg => exact rfl
           case hy => (intro w hSw; (try dsimp only at hSw); go_simp; try with_reducible rfl)
           try simp only [Act.put, List.setIfInBounds_toArray, List.set_cons_zero, List.set_cons_succ])
        | (apply SeqO.takeG
           case ho => exact rfl
           case hg => exact rfl
           case hj => exact rfl
           case hd => exact rfl
           case ht => exact rfl
           case hy => (intro w hSw; (try dsimp only at hSw); go_simp; try with_reducible rfl)
           try simp only [Act.put, List.setIfInBounds_toArray, List.set_cons_zero, List.set_cons_succ])
        | (apply SeqO.skipG
           case ho => exact rfl
           case hg => exact rfl
           case hj => exact rfl
           case hd => exact rfl
           case ht => exact rfl
           case hne => exact rfl
           try simp only [Act.put, List.setIfInBounds_toArray, List.set_cons_zero, List.set_cons_succ])
        | (first
           | (apply SeqO.step0
              case ho => exact rfl
              case hg => exact rfl)
           | (apply SeqO.stepG
              case ho => exact rfl
              case hg => exact rfl
              case hj => exact rfl
              case hd => exact rfl
              case ht => exact rfl)
           intro K hK
           go_simp
           first
           | (go_at_call 95; (with_reducible refine (HREC.out _ Z).mono ?_); rintro e wx ⟨rfl, bx⟩; replace Z := Below.next Z bx; clear bx; go_wp2_with fail)
           | fail
           refine hK.out _ _ ?_ (fun _ => ?_)
           · exact HBOX.out _ Z
           clear hK K
           try simp only [Act.put, List.setIfInBounds_toArray, List.set_cons_zero, List.set_cons_succ]))
      refine SeqO.done ?_
      refine NoPanic.normal ?_
      go_wp2_with fail
      go_ret
      exact ⟨rfl, Below.next HA.out Z⟩
    case true =>
      have Z := Below.refl w0.heap.size w0
      replace Z := Below.drew Z
      refine wp_region_noPanic ?_
      refine wp_region_ord (fun W => W.cell? ⟨w.heap.size, 0, none⟩ = some (.int .i64 p) ∧ W.cell? ⟨w.heap.size, 1, none⟩ = some (.slice A l.length c) ∧ W.cell? ⟨b, 1, none⟩ = some (.int .i64 s.pos) ∧ Below w0.heap.size w0 W) [(0, true), (1, true), (2, true), (3, true), (4, false), (5, false), (6, true), (7, true), (8, true), (9, true), (10, true), (11, true), (12, true), (13, true)] (by kernel_rfl) (by as_aux_lemma => kernel_rfl) (by rfl) (by as_aux_lemma => kernel_rfl) (fun _ _ _ _ _ h => h) (HBOX.out _ Z) (fun _ => ?_)
      repeat (first
        | (apply SeqO.take0
           case ho => exact rfl
           case hg => exact rfl
           case hy => (intro w hSw; (try dsimp only at hSw); go_simp; try with_reducible rfl)
           try simp only [Act.put, List.setIfInBounds_toArray, List.set_cons_zero, List.set_cons_succ])
        | (apply SeqO.takeG
           case ho => exact rfl
           case hg => exact rfl
           case hj => exact rfl
           case hd => exact rfl
           case ht => exact rfl
           case hy => (intro w hSw; (try dsimp only at hSw); go_simp; try with_reducible rfl)
           try simp only [Act.put, List.setIfInBounds_toArray, List.set_cons_zero, List.set_cons_succ])
        | (apply SeqO.skipG
           case ho => exact rfl
           case hg => exact rfl
           case hj => exact rfl
           case hd => exact rfl
           case ht => exact rfl
           case hne => exact rfl
           try simp only [Act.put, List.setIfInBounds_toArray, List.set_cons_zero, List.set_cons_succ])
        | (first
           | (apply SeqO.step0
              case ho => exact rfl
              case hg => exact rfl)
           | (apply SeqO.stepG
              case ho => exact rfl
              case hg => exact rfl
              case hj => exact rfl
              case hd => exact rfl
              case ht => exact rfl)
           intro K hK
           go_simp
           first
           | (go_at_call 95; (with_reducible refine (HREC.out _ Z).mono ?_); rintro e wx ⟨rfl, bx⟩; replace Z := Below.next Z bx; clear bx; go_wp2_with fail)
           | fail
           refine hK.out _ _ ?_ (fun _ => ?_)
           · exact HBOX.out _ Z
           clear hK K
           try simp only [Act.put, List.setIfInBounds_toArray, List.set_cons_zero, List.set_cons_succ]))
      refine SeqO.done ?_
      refine NoPanic.normal ?_
      clear HBOX c0 c1 c2 c3 t0 t1
      have hSx := HS0.out.below Z
      have hcx := HK.out.later Z
      have c3 : wx.cell? ⟨b, 0, none⟩ = some (.map (some m)) := hSx.blk.cell 0
      have c1 : wx.cell? ⟨w.heap.size, 1, none⟩ = some (.slice A l.length c) := hcx.cell 1
      have hlen := fun ty => hSx.map.len mapRow ty
      have HZ := Lib.hid Z
      clear hSx hcx Z HREC
      go_wp2_with fail
      clear hlen c3 c1
      go_loopw [5, 33] (fun sv iv wr => ∃ k : Nat, k ≤ l.length ∧ iv = .int .i64 k ∧ sv = .int .i64 ((s.rows.length : Int) + difs (l.take k)) ∧ Hid ((l.take k).all (hitB s.rows) = true) ∧ Hid (Below w0.heap.size w0 wr)) (fun _ iv _ => l.length - (intOf iv).toNat)
      case atStart => exact ⟨0, by omega, rfl, by simp [difs], Lib.hid rfl, Lib.hid HZ.out⟩
      case round =>
        clear HZ
        obtain ⟨k, hk, rfl, rfl, HH, HB⟩ := hrel
        by_cases h1 : k < l.length
        case pos =>
          obtain ⟨⟨xt, xk, had, ⟨o0, o1, o2⟩, has, ⟨n0, n1, n2⟩⟩, hx⟩ : ∃ x, l[k]? = some x := ⟨_, List.getElem?_eq_getElem h1⟩
          have hd1 := difs_bounds (l.take k)
          rw [List.length_take, Nat.min_eq_left hk] at hd1
          have hd2 := difs_take hx
          have hd3 := dif_bounds ⟨xt, xk, had, (o0, o1, o2), has, (n0, n1, n2)⟩
          obtain ⟨D, hD⟩ : ∃ D, D = (s.rows.length : Int) + difs (l.take k) := ⟨_, rfl⟩
          rw [← hD]
          obtain ⟨hx1, hx2⟩ := chgB_64 (HALL.out _ (List.mem_of_getElem? hx))
          have hSr := HS0.out.below HB.out
          obtain ⟨A', c', hv, hc, hj⟩ := HV0.out
          injection hv with e1 e2 e3
          subst e1 e3
          obtain ⟨g, o, rfl, hg, hj⟩ := hj (by omega)
          have hcell : ∀ (i : Nat) u, (chgCells ⟨xt, xk, had, (o0, o1, o2), has, (n0, n1, n2)⟩)[i]? = some u → wr.cell? ⟨g, o + k * 10 + i, none⟩ = some u := fun i u hu => (HB.out.cell (p := ⟨g, o + k * 10 + i, none⟩) hg).trans (hj k _ hx i u hu)
          have c0 : wr.cell? ⟨g, o + k * 10, none⟩ = some (.int .i64 xt) := hcell 0 _ rfl
          have c1 : wr.cell? ⟨g, o + k * 10 + 1, none⟩ = some (.int .i64 xk) := hcell 1 _ rfl
          have c2 : wr.cell? ⟨g, o + k * 10 + 2, none⟩ = some (.bool had) := hcell 2 _ rfl
          have c3 : wr.cell? ⟨g, o + k * 10 + 3, none⟩ = some (.int .i64 o0) := hcell 3 _ rfl
          have c4 : wr.cell? ⟨g, o + k * 10 + 4, none⟩ = some (.int .i64 o1) := hcell 4 _ rfl
          have c5 : wr.cell? ⟨g, o + k * 10 + 5, none⟩ = some (.int .i64 o2) := hcell 5 _ rfl
          have c6 : wr.cell? ⟨g, o + k * 10 + 6, none⟩ = some (.bool has) := hcell 6 _ rfl
          have c7 : wr.cell? ⟨g, o + k * 10 + 7, none⟩ = some (.int .i64 n0) := hcell 7 _ rfl
          have c8 : wr.cell? ⟨g, o + k * 10 + 8, none⟩ = some (.int .i64 n1) := hcell 8 _ rfl
          have c9 : wr.cell? ⟨g, o + k * 10 + 9, none⟩ = some (.int .i64 n2) := hcell 9 _ rfl
          have q0 : (0 : Int) ≤ (k : Int) := by omega
          have q1 : (k : Int) < (l.length : Int) := by omega
          have hblk : wr.cell? ⟨b, 0, none⟩ = some (.map (some m)) := hSr.blk.cell 0
          have t1 : decide (k < l.length) = true := by simpa using h1
          have HSR := Lib.hid hSr
          have HD := Lib.hid (And.intro hD (And.intro hd1 (And.intro hd2 hd3)))
          have HX := Lib.hid (And.intro hx (And.intro hx1 hx2))
          have hDb : -8 ≤ D ∧ D ≤ 2008 := by omega
          obtain ⟨hDb1, hDb2⟩ := hDb
          clear hcell hj hSr hD hd1 hd2 hd3 hx hx1 hx2 h1 HV0
          go_wp2_with fail
          have a4 := Below.alloc1 wr (.cells (chgCells ⟨xt, xk, had, (o0, o1, o2), has, (n0, n1, n2)⟩).toArray 65)
          have K4 := BlkIs.new wr 65 (chgCells ⟨xt, xk, had, (o0, o1, o2), has, (n0, n1, n2)⟩).toArray
          have HSR4 := Lib.hid (HSR.out.below a4)
          have HB4 := Lib.hid (Below.next HB.out a4)
          unfold chgCells at a4 K4 HSR4 HB4
          generalize wr.alloc (.cells _ 65) = w4 at *
          have hblk4 : w4.cell? ⟨b, 0, none⟩ = some (.map (some m)) := HSR4.out.blk.cell 0
          have d0 : w4.cell? ⟨wr.heap.size, 0, none⟩ = some (.int .i64 xt) := K4.cell 0
          have d1 : w4.cell? ⟨wr.heap.size, 1, none⟩ = some (.int .i64 xk) := K4.cell 1
          have hlk : ∀ o, (Instr.lookup 80 (.map (some m)) (idV xt xk) true).run Tryz.prog (w4.alloc o).drew = .ok (.tuple #[rwV ((getS s.rows xt xk).getD rw0), .bool (getS s.rows xt xk).isSome]) (w4.alloc o).drew := fun o =>
            MapAt.look idKey (HSR4.out.map.block (w' := (w4.alloc o).drew) (Below.heap_alloc _ _ m HSR4.out.map.lt)) mapRow (zeroRow _) HX.out.2.1 HX.out.2.2
          have hlk0 : (Instr.lookup 80 (.map (some m)) (idV xt xk) true).run Tryz.prog w4.drew = .ok (.tuple #[rwV ((getS s.rows xt xk).getD rw0), .bool (getS s.rows xt xk).isSome]) w4.drew :=
            MapAt.look idKey (HSR4.out.map.block (w' := w4.drew) rfl) mapRow (zeroRow _) HX.out.2.1 HX.out.2.2
          obtain ⟨y, hy⟩ : ∃ y, y = (getS s.rows xt xk).getD rw0 := ⟨_, rfl⟩
          obtain ⟨yb, hyb⟩ : ∃ y, y = (getS s.rows xt xk).isSome := ⟨_, rfl⟩
          rw [← hy, ← hyb] at hlk0
          simp only [← hy, ← hyb] at hlk
          unfold idV rwV at hlk hlk0
          have HY := Lib.hid (And.intro hy hyb)
          have hlt4 := K4.lt
          have hltb := HSR4.out.blk.lt
          have HK4 := Lib.hid K4
          have HA4 := Lib.hid a4
          clear hy hyb c0 c1 c2 c3 c4 c5 c6 c7 c8 c9 hblk K4 a4
          go_region
          have b5 : Below w4.heap.size w4 (w4.alloc (.cells (rwC y).toArray 67)).drew := Below.drew (Below.alloc1 _ _)
          have K5 : BlkIs (w4.alloc (.cells (rwC y).toArray 67)).drew w4.heap.size 67 (rwC y) := BlkIs.new w4 _ _
          have K6 := HK4.out.later b5
          have HB5 := Lib.hid (Below.next HB4.out b5)
          have hhit : hitB s.rows ⟨xt, xk, had, (o0, o1, o2), has, (n0, n1, n2)⟩ = (if yb then had && decide (y.v = (o0, o1, o2)) else !had) := by
            unfold hitB
            dsimp only
            rw [HY.out.1, HY.out.2]
            cases getS s.rows xt xk <;> rfl
          obtain ⟨yt, yk, y0, y1, y2⟩ := y
          unfold rwC at b5 K5 HB5
          dsimp only at b5 K5 HB5 hhit
          unfold rwC at K6
          dsimp only at K6 ⊢
          clear b5 hblk4 d0 d1 hlk hlk0 hlt4 hltb HK4 HSR4 HB4 HA4
          generalize (w4.alloc (.cells _ 67)).drew = w5 at *
          have d0 : w5.cell? ⟨wr.heap.size, 0, none⟩ = some (.int .i64 xt) := K6.cell 0
          have d1 : w5.cell? ⟨wr.heap.size, 1, none⟩ = some (.int .i64 xk) := K6.cell 1
          have d2 : w5.cell? ⟨wr.heap.size, 2, none⟩ = some (.bool had) := K6.cell 2
          have d3 : w5.cell? ⟨wr.heap.size, 3, none⟩ = some (.int .i64 o0) := K6.cell 3
          have d4 : w5.cell? ⟨wr.heap.size, 4, none⟩ = some (.int .i64 o1) := K6.cell 4
          have d5 : w5.cell? ⟨wr.heap.size, 5, none⟩ = some (.int .i64 o2) := K6.cell 5
          have d6 : w5.cell? ⟨wr.heap.size, 6, none⟩ = some (.bool has) := K6.cell 6
          have e2 : w5.cell? ⟨w4.heap.size, 2, none⟩ = some (.int .i64 y0) := K5.cell 2
          have e3 : w5.cell? ⟨w4.heap.size, 3, none⟩ = some (.int .i64 y1) := K5.cell 3
          have e4 : w5.cell? ⟨w4.heap.size, 4, none⟩ = some (.int .i64 y2) := K5.cell 4
          obtain ⟨z, hz⟩ : ∃ z, decide ((y0, y1, y2) = (o0, o1, o2)) = z := ⟨_, rfl⟩
          have hq := fun W => run_eqT W (y0, y1, y2) (o0, o1, o2)
          rw [hz] at hq hhit
          dsimp only at hq
          have hgd := guard3
          have HHIT := Lib.hid hhit
          clear hhit hz K5 K6
          have hno : hitB s.rows ⟨xt, xk, had, (o0, o1, o2), has, (n0, n1, n2)⟩ = false → (true && true && (l.all (hitB s.rows) && decide ((s.rows.length : Int) + difs l ≤ 2000))) = false := fun e => by
            rw [all_not HX.out.1 e]; rfl
          have HNO := Lib.hid hno
          clear hno
          cases yb
          case false =>
            cases had
            case true =>
              go_wp2_with fail
              go_ret
              exact ⟨congrArg (fun x => Ending.returned (.bool x)) (HNO.out (by rw [HHIT.out]; rfl)).symm, Below.next HA.out HB5.out⟩
            case false =>
              cases has
              case false =>
                go_wp2_with fail
                refine ⟨⟨k + 1, by have := HX.out.1; have := (List.getElem?_eq_some_iff.1 this).1; omega, by go_num, ?_, Lib.hid (all_take HX.out.1 HH.out (by rw [HHIT.out]; rfl)), HB5⟩, by have := HX.out.1; have := (List.getElem?_eq_some_iff.1 this).1; simp [intOf]; omega⟩
                obtain ⟨g1, g2, g3, g4⟩ := HD.out
                rw [g3, g1]
                (simp [dif]) <;> omega
              case true =>
                go_wp2_with fail
                refine ⟨⟨k + 1, by have := HX.out.1; have := (List.getElem?_eq_some_iff.1 this).1; omega, by go_num, ?_, Lib.hid (all_take HX.out.1 HH.out (by rw [HHIT.out]; rfl)), HB5⟩, by have := HX.out.1; have := (List.getElem?_eq_some_iff.1 this).1; simp [intOf]; omega⟩
                obtain ⟨g1, g2, g3, g4⟩ := HD.out
                rw [g3, g1]
                (simp [dif]) <;> omega
          case true =>
            cases had
            case false =>
              go_wp2_with fail
              go_ret
              exact ⟨congrArg (fun x => Ending.returned (.bool x)) (HNO.out (by rw [HHIT.out]; rfl)).symm, Below.next HA.out HB5.out⟩
            case true =>
              cases z
              case false =>
                go_wp2_with fail
                go_ret
                exact ⟨congrArg (fun x => Ending.returned (.bool x)) (HNO.out (by rw [HHIT.out]; rfl)).symm, Below.next HA.out HB5.out⟩
              case true =>
                cases has
                case false =>
                  go_wp2_with fail
                  refine ⟨⟨k + 1, by have := HX.out.1; have := (List.getElem?_eq_some_iff.1 this).1; omega, by go_num, ?_, Lib.hid (all_take HX.out.1 HH.out (by rw [HHIT.out]; rfl)), HB5⟩, by have := HX.out.1; have := (List.getElem?_eq_some_iff.1 this).1; simp [intOf]; omega⟩
                  obtain ⟨g1, g2, g3, g4⟩ := HD.out
                  rw [g3, g1]
                  (simp [dif]) <;> omega
                case true =>
                  go_wp2_with fail
                  refine ⟨⟨k + 1, by have := HX.out.1; have := (List.getElem?_eq_some_iff.1 this).1; omega, by go_num, ?_, Lib.hid (all_take HX.out.1 HH.out (by rw [HHIT.out]; rfl)), HB5⟩, by have := HX.out.1; have := (List.getElem?_eq_some_iff.1 this).1; simp [intOf]; omega⟩
                  obtain ⟨g1, g2, g3, g4⟩ := HD.out
                  rw [g3, g1]
                  (simp [dif]) <;> omega
        case neg =>
          have t1 : decide (k < l.length) = false := by simpa using h1
          have hkl : l.take k = l := List.take_of_length_le (by omega)
          rw [hkl] at HH ⊢
          have hd := difs_bounds l
          obtain ⟨D, hD⟩ : ∃ D, D = (s.rows.length : Int) + difs l := ⟨_, rfl⟩
          rw [← hD]
          have HD := Lib.hid hD
          clear h1 hkl hD hd
          go_wp2_with fail
          go_ret
          exact ⟨by rw [HH.out, ← HD.out]; simp, Below.next HA.out HB.out⟩
end Go.Proofs.YtgbemgndbemllaaGreatDoor
end

section
/- The store's Apply. -/
namespace Go.Proofs.YtgbemgndbemllaaGreatDoor
open Go Go.RowKit
attribute [local go_sem] Oper.semAt_some

theorem cell_block {w w' : World} {p : Addr} (h : w'.heap[p.block]? = w.heap[p.block]?) : w'.cell? p = w.cell? p := by
  unfold World.cell?
  rw [h]
theorem frozen_block {w w' : World} {p : Addr} (h : w'.heap[p.block]? = w.heap[p.block]?) : w'.frozen? p = w.frozen? p := by
  unfold World.frozen?
  rw [h]
theorem Only.at_ {S : Nat → Prop} {w w' : World} (h : Only S w w') {g i : Nat} (hg : g < w.heap.size) (hn : ¬ S g) : w'.cell? ⟨g, i, none⟩ = w.cell? ⟨g, i, none⟩ := cell_block (h.block g hg hn)
theorem BlkIs.only {S : Nat → Prop} {w w' : World} {g : Nat} {t : TypeId} {cs : List Value} (h : BlkIs w g t cs) (hs : Only S w w') (hn : ¬ S g) : BlkIs w' g t cs := (hs.block g h.lt hn).trans h

set_option maxRecDepth 100000 in
set_option maxHeartbeats 4000000 in
theorem after_ok (c : Chg) (w : World) :
    Calls Tryz.prog 62 #[chgV c] w fun e w' => e = .returned (.tuple #[halfV c c.has c.new, .bool c.has]) ∧ Below w.heap.size w w' := by
  have hh := fun W => half_ok c c.has c.new W
  obtain ⟨t, k, had, ⟨o0, o1, o2⟩, has, ⟨n0, n1, n2⟩⟩ := c
  have hb2 := fun o1 o2 => Below.alloc (Below.alloc (Below.refl w.heap.size w) (Nat.le_refl _) o1) (by rw [World.size_alloc]; omega) o2
  have HB := Lib.hid hb2
  obtain ⟨ht, hk, h0, h1, h2, hhf⟩ : ∃ ht hk h0 h1 h2, halfV ⟨t, k, had, (o0, o1, o2), has, (n0, n1, n2)⟩ has (n0, n1, n2) = .agg #[.int .i64 ht, .int .i64 hk, .int .i64 h0, .int .i64 h1, .int .i64 h2] := by
    unfold halfV rowV
    split <;> exact ⟨_, _, _, _, _, rfl⟩
  dsimp only at hh hhf ⊢
  rw [hhf] at hh ⊢
  have HH := Lib.hid hh
  clear hh hb2 hhf
  unfold chgV arrV at HH
  unfold chgV
  dsimp only at HH ⊢
  go_enter Tryz.func62, Tryz.ntmps62
  go_wp2_with fail
  refine (HH.out _).mono ?_
  rintro e w1 ⟨rfl, b1⟩
  have K := (alloc_new_at (w.alloc (.cells #[.int .i64 t, .int .i64 k, .bool had, .int .i64 o0, .int .i64 o1, .int .i64 o2, .bool has, .int .i64 n0, .int .i64 n1, .int .i64 n2] 65)) (.cells #[.int .i64 0, .int .i64 0, .int .i64 0, .int .i64 0, .int .i64 0] 67) (w.heap.size + 1) (by rw [World.size_alloc]))
  have K1 : BlkIs w1 (w.heap.size + 1) 67 [.int .i64 0, .int .i64 0, .int .i64 0, .int .i64 0, .int .i64 0] := (b1.block _ (by rw [World.size_alloc, World.size_alloc]; omega)).trans K
  have hb3 := Below.next (HB.out _ _) b1
  have c0 : w1.cell? ⟨w.heap.size + 1, 0, none⟩ = some (.int .i64 0) := K1.cell 0
  have c1 : w1.cell? ⟨w.heap.size + 1, 1, none⟩ = some (.int .i64 0) := K1.cell 1
  have c2 : w1.cell? ⟨w.heap.size + 1, 2, none⟩ = some (.int .i64 0) := K1.cell 2
  have c3 : w1.cell? ⟨w.heap.size + 1, 3, none⟩ = some (.int .i64 0) := K1.cell 3
  have c4 : w1.cell? ⟨w.heap.size + 1, 4, none⟩ = some (.int .i64 0) := K1.cell 4
  have f0 := K1.frozen 0
  have f1 := K1.frozen 1
  have f2 := K1.frozen 2
  have f3 := K1.frozen 3
  have f4 := K1.frozen 4
  clear b1 K
  go_wp2_with fail
  have K2 := ((((K1.set 0 (.int .i64 ht)).set 1 (.int .i64 hk)).set 2 (.int .i64 h0)).set 3 (.int .i64 h1)).set 4 (.int .i64 h2)
  have hb4 := ((((hb3.setCell (p := ⟨w.heap.size + 1, 0, none⟩) (by simp) (.int .i64 ht)).setCell (p := ⟨w.heap.size + 1, 1, none⟩) (by simp) (.int .i64 hk)).setCell (p := ⟨w.heap.size + 1, 2, none⟩) (by simp) (.int .i64 h0)).setCell (p := ⟨w.heap.size + 1, 3, none⟩) (by simp) (.int .i64 h1)).setCell (p := ⟨w.heap.size + 1, 4, none⟩) (by simp) (.int .i64 h2)
  generalize ((((w1.setCell ⟨w.heap.size + 1, 0, none⟩ (.int .i64 ht)).setCell ⟨w.heap.size + 1, 1, none⟩ (.int .i64 hk)).setCell ⟨w.heap.size + 1, 2, none⟩ (.int .i64 h0)).setCell ⟨w.heap.size + 1, 3, none⟩ (.int .i64 h1)).setCell ⟨w.heap.size + 1, 4, none⟩ (.int .i64 h2) = wF at *
  have y0 : wF.cell? ⟨w.heap.size + 1, 0, none⟩ = some (.int .i64 ht) := K2.cell 0
  have y1 : wF.cell? ⟨w.heap.size + 1, 1, none⟩ = some (.int .i64 hk) := K2.cell 1
  have y2 : wF.cell? ⟨w.heap.size + 1, 2, none⟩ = some (.int .i64 h0) := K2.cell 2
  have y3 : wF.cell? ⟨w.heap.size + 1, 3, none⟩ = some (.int .i64 h1) := K2.cell 3
  have y4 : wF.cell? ⟨w.heap.size + 1, 4, none⟩ = some (.int .i64 h2) := K2.cell 4
  refine bodyPost_ret (by simp [results, Tryz.results62, go_sem, y0, y1, y2, y3, y4]; try rfl) rfl ?_
  exact ⟨rfl, hb4⟩
end Go.Proofs.YtgbemgndbemllaaGreatDoor
end

section
/- The store's Apply. -/
namespace Go.Proofs.YtgbemgndbemllaaGreatDoor
open Go Go.RowKit
attribute [local go_sem] Oper.semAt_some

theorem fit_prefix {s : StT} (g : GoodS s) {r : Rec} (hf : fitsB s r = true) (k : Nat) :
    SortS ((r.chs.take k).foldl appC s.rows) ∧ Rows64 ((r.chs.take k).foldl appC s.rows) ∧ ((r.chs.take k).foldl appC s.rows).length ≤ 2008 := by
  obtain ⟨h1, h2, h3, h4⟩ := fitsB_parts hf
  have ha : ascB (-1) 0 (r.chs.take k) = true := ascB_prefix _ _ _ (r.chs.drop k) (by rw [List.take_append_drop]; exact recB_asc h1)
  have hh : (r.chs.take k).all (hitB s.rows) = true := by
    rw [List.all_eq_true] at h3 ⊢
    exact fun x hx => h3 x (List.mem_of_mem_take hx)
  refine ⟨SortS.apps _ g.sort, fun x hx => ?_, ?_⟩
  · have h := apps_rows ha g.rows x hx
    unfold rowB at h
    simp only [Bool.and_eq_true, decide_eq_true_eq] at h
    unfold In64
    omega
  · have e := apps_len g.sort ha hh
    have b := (difs_bounds (r.chs.take k)).2
    have hl : r.chs.length ≤ 8 := by
      unfold recB at h1
      simp only [Bool.and_eq_true, decide_eq_true_eq] at h1
      exact h1.1.2.2
    have hs := g.small
    rw [List.length_take] at b
    omega

theorem foldl_take {l : List Chg} {k : Nat} {x : Chg} (hx : l[k]? = some x) (L : List Rw) : (l.take (k + 1)).foldl appC L = appC ((l.take k).foldl appC L) x := by
  rw [List.take_add_one, hx, List.foldl_append]
  rfl
theorem Only.of_turned {w w' : World} {m : Nat} (h : w.mapTurned w' m) : Only (fun j => j = m) w w' := Only.grown h.grown (fun _ e => (Option.some.inj e).symm)

def bm (b m k : Nat) : Prop := k = b ∨ k = m

set_option maxRecDepth 100000 in
set_option maxHeartbeats 4000000 in
theorem sApply_no (b m : Nat) (s : StT) (p : Int) (A : Option Addr) (c : Nat) (l : List Chg) (w : World) (hS : StAt w b m s) (g : GoodS s) (hp1 : 0 ≤ s.pos) (hp2 : s.pos ≤ 100000) (hv : ChgsAt w (.slice A l.length c) l) (hf : fitsB s ⟨p, l⟩ = false) :
    Calls Tryz.prog 27 #[.pointer (some ⟨b, 0, none⟩), recV p (.slice A l.length c)] w fun e w' => e = .returned (.int .i64 40) ∧ Below w.heap.size w w' := by
  have al0 := Below.alloc1 w (.cells #[.int .i64 p, .slice A l.length c] 37)
  have hfit := fits_ok b m s p A c l _ (hS.below al0) g hp1 hp2 (hv.below al0)
  rw [hf] at hfit
  unfold recV at hfit ⊢
  have HF := Lib.hid hfit
  have HA := Lib.hid al0
  clear hfit al0 hS g hv hf
  go_enter Tryz.func27, Tryz.ntmps27
  go_wp2_with fail
  refine (HF.out).mono ?_
  rintro e w1 ⟨rfl, b1⟩
  go_wp2_with fail
  go_ret
  exact ⟨rfl, Below.next HA.out b1⟩

set_option maxRecDepth 100000 in
set_option maxHeartbeats 8000000 in
theorem sApply_yes (b m : Nat) (s : StT) (p : Int) (A : Option Addr) (c : Nat) (l : List Chg) (w : World) (hS : StAt w b m s) (g : GoodS s) (hp1 : 0 ≤ s.pos) (hp2 : s.pos ≤ 100000) (hv : ChgsAt w (.slice A l.length c) l) (hA : ∀ a, A = some a → a.block ≠ m) (hf : fitsB s ⟨p, l⟩ = true) :
    Calls Tryz.prog 27 #[.pointer (some ⟨b, 0, none⟩), recV p (.slice A l.length c)] w fun e w' => e = .returned (.int .i64 0) ∧ StAt w' b m ⟨l.foldl appC s.rows, p⟩ ∧ Only (bm b m) w w' := by
  have al0 := Below.alloc1 w (.cells #[.int .i64 p, .slice A l.length c] 37)
  have K0 := BlkIs.new w 37 #[.int .i64 p, .slice A l.length c]
  have hfit := fits_ok b m s p A c l _ (hS.below al0) g hp1 hp2 (hv.below al0)
  rw [hf] at hfit
  have hpre := fun k => fit_prefix g hf k
  dsimp only at hpre
  have hch := ascB_chg (recB_asc (fitsB_parts hf).1)
  dsimp only at hch
  have hl8 : l.length ≤ 8 := by
    have h1 := (fitsB_parts hf).1
    unfold recB at h1
    simp only [Bool.and_eq_true, decide_eq_true_eq] at h1
    exact h1.1.2.2
  unfold recV at hfit ⊢
  have HF := Lib.hid hfit
  have HPRE := Lib.hid hpre
  have HCH := Lib.hid hch
  have HS := Lib.hid (hS.below al0)
  have HV := Lib.hid (hv.below al0)
  have HK := Lib.hid K0
  have HAL := Lib.hid al0
  have HAA := Lib.hid hA
  have HBL := Lib.hid (And.intro hS.blk.lt (And.intro hS.map.lt hS.ne))
  clear hfit al0 hS g hv hf hpre hch K0 hA
  obtain ⟨N, hN⟩ : ∃ N, N = w.heap.size := ⟨_, rfl⟩
  have HN := Lib.hid hN
  clear hN
  go_enter Tryz.func27, Tryz.ntmps27
  go_wp2_with fail
  generalize hw0 : w.alloc (.cells #[.int .i64 p, .slice A l.length c] 37) = w0 at *
  clear hw0
  refine (HF.out).mono ?_
  rintro e w1 ⟨rfl, b1⟩
  have hS1 := HS.out.below b1
  have hK1 := HK.out.later b1
  have HV1 := Lib.hid (HV.out.below b1)
  have HO := Lib.hid (Below.next HAL.out b1)
  have c1 : w1.cell? ⟨w.heap.size, 1, none⟩ = some (.slice A l.length c) := hK1.cell 1
  have HS1 := Lib.hid hS1
  have HK1 := Lib.hid hK1
  clear hS1 hK1 b1 HF HS HK HV
  go_wp2_with fail
  clear c1
  go_loopw [21] (fun iv wr => ∃ k : Nat, k ≤ l.length ∧ iv = .int .i64 k ∧ Hid (MapAt Tryz.prog 132 wr m ((l.take k).foldl appC s.rows)) ∧ Hid (Only (fun j => j = m) w1 wr)) (fun iv _ => l.length - (intOf iv).toNat)
  case atStart => exact ⟨0, by omega, rfl, Lib.hid HS1.out.map, Lib.hid (Only.refl _ _)⟩
  case round =>
    obtain ⟨k, hk, rfl, HM, HB⟩ := hrel
    by_cases h1 : k < l.length
    case pos =>
      obtain ⟨⟨xt, xk, had, ⟨o0, o1, o2⟩, has, ⟨n0, n1, n2⟩⟩, hx⟩ : ∃ x, l[k]? = some x := ⟨_, List.getElem?_eq_getElem h1⟩
      obtain ⟨hx1, hx2⟩ := chgB_64 (HCH.out _ (List.mem_of_getElem? hx))
      dsimp only at hx1 hx2
      obtain ⟨A', c', hv, hc, hj⟩ := HV1.out
      injection hv with e1 e2 e3
      subst e1 e3
      obtain ⟨g, o, rfl, hg, hj⟩ := hj (by omega)
      have hgm : g ≠ m := HAA.out _ rfl
      have hcell : ∀ (i : Nat) u, (chgCells ⟨xt, xk, had, (o0, o1, o2), has, (n0, n1, n2)⟩)[i]? = some u → wr.cell? ⟨g, o + k * 10 + i, none⟩ = some u := fun i u hu => (HB.out.at_ hg hgm).trans (hj k _ hx i u hu)
      have c0 : wr.cell? ⟨g, o + k * 10, none⟩ = some (.int .i64 xt) := hcell 0 _ rfl
      have c1 : wr.cell? ⟨g, o + k * 10 + 1, none⟩ = some (.int .i64 xk) := hcell 1 _ rfl
      have c2 : wr.cell? ⟨g, o + k * 10 + 2, none⟩ = some (.bool had) := hcell 2 _ rfl
      have c3 : wr.cell? ⟨g, o + k * 10 + 3, none⟩ = some (.int .i64 o0) := hcell 3 _ rfl
      have c4 : wr.cell? ⟨g, o + k * 10 + 4, none⟩ = some (.int .i64 o1) := hcell 4 _ rfl
      have c5 : wr.cell? ⟨g, o + k * 10 + 5, none⟩ = some (.int .i64 o2) := hcell 5 _ rfl
      have c6 : wr.cell? ⟨g, o + k * 10 + 6, none⟩ = some (.bool has) := hcell 6 _ rfl
      have c7 : wr.cell? ⟨g, o + k * 10 + 7, none⟩ = some (.int .i64 n0) := hcell 7 _ rfl
      have c8 : wr.cell? ⟨g, o + k * 10 + 8, none⟩ = some (.int .i64 n1) := hcell 8 _ rfl
      have c9 : wr.cell? ⟨g, o + k * 10 + 9, none⟩ = some (.int .i64 n2) := hcell 9 _ rfl
      have q0 : (0 : Int) ≤ (k : Int) := by omega
      have q1 : (k : Int) < (l.length : Int) := by omega
      have t1 : decide (k < l.length) = true := by simpa using h1
      have HX := Lib.hid (And.intro hx (And.intro hx1 hx2))
      have haft := fun W => after_ok ⟨xt, xk, had, (o0, o1, o2), has, (n0, n1, n2)⟩ W
      unfold chgV at haft
      dsimp only at haft
      have HAFT := Lib.hid haft
      clear hcell hj hx hx1 hx2 h1 haft
      go_wp2_with fail
      have a5 : Below wr.heap.size wr ((wr.alloc (.cells (chgCells ⟨xt, xk, had, (o0, o1, o2), has, (n0, n1, n2)⟩).toArray 65)).alloc (.cells #[.int .i64 xt, .int .i64 xk] 132)) := Below.alloc (Below.alloc1 _ _) (by rw [World.size_alloc]; omega) _
      have K5 : BlkIs ((wr.alloc (.cells (chgCells ⟨xt, xk, had, (o0, o1, o2), has, (n0, n1, n2)⟩).toArray 65)).alloc (.cells #[.int .i64 xt, .int .i64 xk] 132)) (wr.heap.size + 1) 132 [.int .i64 xt, .int .i64 xk] := alloc_new_at _ _ _ (by rw [World.size_alloc])
      unfold chgCells at a5 K5
      dsimp only at a5 K5
      generalize (wr.alloc (.cells _ 65)).alloc (.cells _ 132) = w5 at *
      refine (HAFT.out w5).mono ?_
      rintro e w6 ⟨rfl, b6⟩
      have a6 := Below.next a5 b6
      have K6 := K5.later b6
      clear K5 b6 a5 c0 c1 c2 c3 c4 c5 c6 c7 c8 c9 HAFT
      cases has
      case true =>
        have hhf : halfV ⟨xt, xk, had, (o0, o1, o2), true, (n0, n1, n2)⟩ true (n0, n1, n2) = rwV ⟨xt, xk, n0, n1, n2⟩ := rfl
        rw [hhf]
        unfold rwV
        dsimp only
        clear hhf
        go_wp2_with fail
        have a7 := Below.alloc a6 a6.size (.cells #[.int .i64 xt, .int .i64 xk, .int .i64 n0, .int .i64 n1, .int .i64 n2] 67)
        have K7 := K6.alloc (.cells #[.int .i64 xt, .int .i64 xk, .int .i64 n0, .int .i64 n1, .int .i64 n2] 67)
        have K8 := BlkIs.new w6 67 #[.int .i64 xt, .int .i64 xk, .int .i64 n0, .int .i64 n1, .int .i64 n2]
        generalize hw7 : w6.alloc (.cells _ 67) = w7 at *
        clear hw7
        have O7 : Only (fun j => j = m) w1 w7 := HB.out.trans (Only.of_below a7)
        have M7 : MapAt Tryz.prog 132 w7 m ((l.take k).foldl appC s.rows) := HM.out.block (a7.block m HM.out.lt)
        have B7 := HS1.out.blk.only O7 HS1.out.ne
        obtain ⟨p1, p2, p3⟩ := HPRE.out k
        obtain ⟨wu, hu, mu, tu⟩ := MapAt.put (w := w7.drew) idKey (M7.block rfl) mapRow p1 p2 (Nat.lt_of_le_of_lt p3 (by unfold maxLen; omega)) ⟨xt, xk, n0, n1, n2⟩ HX.out.2.1 HX.out.2.2
        have hfold := foldl_take HX.out.1 s.rows
        have happ : appC ((l.take k).foldl appC s.rows) ⟨xt, xk, had, (o0, o1, o2), true, (n0, n1, n2)⟩ = insS ((l.take k).foldl appC s.rows) ⟨xt, xk, n0, n1, n2⟩ := rfl
        rw [happ] at hfold
        rw [← hfold] at mu
        have MU := Lib.hid mu
        have OU := Lib.hid (O7.trans (Only.trans (Only.of_below (Below.drew (Below.refl _ _))) (Only.of_turned tu)))
        have u0 : w7.cell? ⟨b, 0, none⟩ = some (.map (some m)) := B7.cell 0
        have u1 : w7.cell? ⟨wr.heap.size + 1, 0, none⟩ = some (.int .i64 xt) := K7.cell 0
        have u2 : w7.cell? ⟨wr.heap.size + 1, 1, none⟩ = some (.int .i64 xk) := K7.cell 1
        have u3 : w7.cell? ⟨w6.heap.size, 0, none⟩ = some (.int .i64 xt) := K8.cell 0
        have u4 : w7.cell? ⟨w6.heap.size, 1, none⟩ = some (.int .i64 xk) := K8.cell 1
        have u5 : w7.cell? ⟨w6.heap.size, 2, none⟩ = some (.int .i64 n0) := K8.cell 2
        have u6 : w7.cell? ⟨w6.heap.size, 3, none⟩ = some (.int .i64 n1) := K8.cell 3
        have u7 : w7.cell? ⟨w6.heap.size, 4, none⟩ = some (.int .i64 n2) := K8.cell 4
        unfold idV rwV at hu
        dsimp only at hu
        clear a6 a7 K6 K7 K8 O7 M7 B7 p1 p2 p3 mu tu hfold happ
        go_region
        clear u0 u1 u2 u3 u4 u5 u6 u7
        go_wp2_with fail
        exact ⟨⟨k + 1, by omega, by go_num, MU, OU⟩, by simp [intOf]; omega⟩
      case false =>
        have hhf : halfV ⟨xt, xk, had, (o0, o1, o2), false, (n0, n1, n2)⟩ false (n0, n1, n2) = .agg #[.int .i64 0, .int .i64 0, .int .i64 0, .int .i64 0, .int .i64 0] := rfl
        rw [hhf]
        clear hhf
        go_wp2_with fail
        have a7 := Below.alloc a6 a6.size (.cells #[.int .i64 0, .int .i64 0, .int .i64 0, .int .i64 0, .int .i64 0] 67)
        have K7 := K6.alloc (.cells #[.int .i64 0, .int .i64 0, .int .i64 0, .int .i64 0, .int .i64 0] 67)
        generalize hw7 : w6.alloc (.cells _ 67) = w7 at *
        clear hw7
        have O7 : Only (fun j => j = m) w1 w7 := HB.out.trans (Only.of_below a7)
        have M7 : MapAt Tryz.prog 132 w7 m ((l.take k).foldl appC s.rows) := HM.out.block (a7.block m HM.out.lt)
        have B7 := HS1.out.blk.only O7 HS1.out.ne
        obtain ⟨p1, p2, p3⟩ := HPRE.out k
        obtain ⟨wu, hu, mu, tu⟩ := MapAt.del (w := w7.drew) idKey (M7.block rfl) mapRow p1 p2 xt xk HX.out.2.1 HX.out.2.2 0
        have hfold := foldl_take HX.out.1 s.rows
        have happ : appC ((l.take k).foldl appC s.rows) ⟨xt, xk, had, (o0, o1, o2), false, (n0, n1, n2)⟩ = delS ((l.take k).foldl appC s.rows) xt xk := rfl
        rw [happ] at hfold
        rw [← hfold] at mu
        have MU := Lib.hid mu
        have OU := Lib.hid (O7.trans (Only.trans (Only.of_below (Below.drew (Below.refl _ _))) (Only.of_turned tu)))
        have u0 : w7.cell? ⟨b, 0, none⟩ = some (.map (some m)) := B7.cell 0
        have u1 : w7.cell? ⟨wr.heap.size + 1, 0, none⟩ = some (.int .i64 xt) := K7.cell 0
        have u2 : w7.cell? ⟨wr.heap.size + 1, 1, none⟩ = some (.int .i64 xk) := K7.cell 1
        unfold idV at hu
        clear a6 a7 K6 K7 O7 M7 B7 p1 p2 p3 mu tu hfold happ
        go_region
        clear u0 u1 u2
        go_wp2_with fail
        exact ⟨⟨k + 1, by omega, by go_num, MU, OU⟩, by simp [intOf]; omega⟩
    case neg =>
      have t1 : decide (k < l.length) = false := by simpa using h1
      have hkl : l.take k = l := List.take_of_length_le (by omega)
      rw [hkl] at HM
      have hbN : b ≠ m := HBL.out.2.2
      have Bx := HS1.out.blk.only HB.out hbN
      have Kx := HK1.out.only HB.out (fun e => by have := HBL.out.2.1; omega)
      have x0 : wr.cell? ⟨w.heap.size, 0, none⟩ = some (.int .i64 p) := Kx.cell 0
      have x1 : wr.cell? ⟨b, 1, none⟩ = some (.int .i64 s.pos) := Bx.cell 1
      have f1 := Bx.frozen 1
      clear h1 hkl
      go_wp2_with fail
      go_ret
      refine ⟨rfl, ⟨Bx.set 1 (.int .i64 p), HM.out.block (Below.heap_setCell _ _ _ _ (fun e => hbN e.symm)), hbN⟩, ?_⟩
      refine Only.trans (Only.of_below HO.out) (Only.trans (HB.out.mono fun k e => Or.inr e) (Only.setCell _ _ _ (Or.inl rfl)))
end Go.Proofs.YtgbemgndbemllaaGreatDoor
end

section
/- The store's At. -/
namespace Go.Proofs.YtgbemgndbemllaaGreatDoor
open Go Go.RowKit
attribute [local go_sem] Oper.semAt_some

theorem runS_next {l : List Rec} {k : Nat} {r : Rec} {s s' : StT} (hr : l[k]? = some r) (h1 : runS st0 (l.take k) = some s) (h2 : runS st0 (l.take (k + 1)) = some s') : fitsB s r = true ∧ s' = ⟨r.chs.foldl appC s.rows, r.pos⟩ := by
  rw [List.take_add_one, hr, runS_append, h1] at h2
  simp only [Option.bind_some, Option.toList_some, runS] at h2
  cases e : stepS s r with
  | none => rw [e] at h2; cases h2
  | some z =>
    rw [e] at h2
    obtain rfl : z = s' := by simpa [runS] using h2
    unfold stepS at e
    split at e
    · rename_i hf
      exact ⟨hf, (Option.some.inj e).symm⟩
    · cases e
theorem take_take_le {α : Type} (l : List α) {k p : Nat} (h : k ≤ p) : (l.take p).take k = l.take k := by rw [List.take_take, Nat.min_eq_left h]

theorem Below.of_only2 {B b m : Nat} {w w2 w3 : World} (h : Below w.heap.size w w2) (k : Only (bm b m) w2 w3) (hb : B ≤ b) (hm : B ≤ m) (hB : B ≤ w.heap.size) : Below B w w3 :=
  (h.mono hB).trans (k.below (fun j hj => by rcases hj with rfl | rfl <;> assumption) (Nat.le_trans hB h.size))

set_option maxRecDepth 100000 in
set_option maxHeartbeats 4000000 in
theorem sAt_ok (v : Value) (l : List Rec) (p : Nat) (hp : p ≤ l.length) (hl : l.length ≤ 10000) {s : StT} (hs : runS st0 (l.take p) = some s) (w : World) (hv : RecsAt w v l) :
    Calls Tryz.prog 8 #[v, .int .i64 p] w fun e w' => ∃ b m, e = .returned (.tuple #[.pointer (some ⟨b, 0, none⟩), .int .i64 0]) ∧ StAt w' b m s ∧ w.heap.size ≤ b ∧ w.heap.size ≤ m ∧ Below w.heap.size w w' := by
  obtain ⟨A, c, rfl, hc, hx⟩ := hv
  have hrun : ∀ k, k ≤ p → ∃ sk, runS st0 (l.take k) = some sk := fun k hk => by
    obtain ⟨x, hx⟩ := runS_take hs k
    rw [take_take_le l hk] at hx
    exact ⟨x, hx⟩
  have HX := Lib.hid hx
  have HRUN := Lib.hid hrun
  have HS := Lib.hid hs
  have t1 : decide ((p : Int) < 0) = false := by simp
  have t2 : decide ((l.length : Int) < (p : Int)) = false := by simp; omega
  have q0 : (0 : Int) ≤ (p : Int) := by omega
  have q1 : (p : Int) ≤ (c : Int) := by omega
  have hnew := sNew_ok w
  have HNEW := Lib.hid hnew
  clear hx hrun hs hnew
  go_enter Tryz.func8, Tryz.ntmps8
  go_wp2_with fail
  refine (HNEW.out).mono ?_
  rintro e w1 ⟨b, m, rfl, hS1, hb1, hm1, b1⟩
  have HS1 := Lib.hid hS1
  have HB1 := Lib.hid b1
  clear hS1 b1 HNEW
  go_wp2_with fail
  go_loopw [22] (fun iv wr => ∃ k : Nat, k ≤ p ∧ iv = .int .i64 k ∧ ∃ sk, Hid (runS st0 (l.take k) = some sk) ∧ Hid (StAt wr b m sk) ∧ Hid (Below w.heap.size w wr)) (fun iv _ => p - (intOf iv).toNat)
  case atStart => exact ⟨0, by omega, rfl, st0, Lib.hid rfl, HS1, HB1⟩
  case round =>
    clear HS1 HB1
    obtain ⟨k, hk, rfl, sk, HR, HM, HB⟩ := hrel
    by_cases h1 : k < p
    case pos =>
      obtain ⟨⟨rp, rc⟩, hr⟩ : ∃ x, l[k]? = some x := ⟨_, List.getElem?_eq_getElem (by omega)⟩
      obtain ⟨s2, hs2⟩ := HRUN.out (k + 1) (by omega)
      obtain ⟨hfit, rfl⟩ := runS_next hr HR.out hs2
      obtain ⟨gk, pk⟩ := runS_good st0_good HR.out
      rw [List.length_take, Nat.min_eq_left (by omega)] at pk
      have pk1 : sk.pos = (k : Int) := by rw [pk]; simp [st0]
      obtain ⟨g, o, rfl, hg, hj⟩ := HX.out (by omega)
      obtain ⟨j1, cv, j2, j3⟩ := hj k _ hr
      have j4 := j3.below HB.out
      obtain ⟨A', c', rfl, hc', hcx⟩ := j3
      have hlen : 0 < rc.length := by
        have h1 := (fitsB_parts hfit).1
        unfold recB at h1
        simp only [Bool.and_eq_true, decide_eq_true_eq] at h1
        exact h1.1.2.1
      obtain ⟨g', o', rfl, hg', -⟩ := hcx hlen
      have u0 : wr.cell? ⟨g, o + k * 2, none⟩ = some (.int .i64 rp) := (HB.out.cell (p := ⟨g, o + k * 2, none⟩) hg).trans j1
      have u1 : wr.cell? ⟨g, o + k * 2 + 1, none⟩ = some (.slice (some ⟨g', o', none⟩) rc.length c') := (HB.out.cell (p := ⟨g, o + k * 2 + 1, none⟩) hg).trans j2
      have a2 := Below.alloc1 wr (.cells #[.int .i64 rp, .slice (some ⟨g', o', none⟩) rc.length c'] 37)
      have happ := sApply_yes b m sk rp (some ⟨g', o', none⟩) c' rc _ (HM.out.below a2) gk (by omega) (by omega) (j4.below a2) (by rintro a ⟨rfl⟩; show g' ≠ m; omega) hfit
      unfold recV at happ
      have q2 : (0 : Int) ≤ (k : Int) := by omega
      have q3 : (k : Int) < (p : Int) := by omega
      have t3 : decide (k < p) = true := by simpa using h1
      have HAP := Lib.hid happ
      have HA2 := Lib.hid a2
      have HS2 := Lib.hid hs2
      clear happ a2 hr hs2 hfit gk pk pk1 j1 j2 j4 hcx hj h1 hc'
      go_wp2_with fail
      refine (HAP.out).mono ?_
      rintro e w3 ⟨rfl, m3, o3⟩
      have M3 := Lib.hid m3
      have B3 := Lib.hid (Below.trans HB.out (Below.of_only2 HA2.out o3 hb1 hm1 HB.out.size))
      clear m3 o3 u0 u1
      go_wp2_with fail
      exact ⟨⟨k + 1, by omega, by go_num, _, HS2, M3, B3⟩, by simp [intOf]; omega⟩
    case neg =>
      have t3 : decide (k < p) = false := by simpa using h1
      obtain rfl : k = p := by omega
      obtain rfl : sk = s := by
        have := HR.out
        rw [HS.out] at this
        exact (Option.some.inj this).symm
      clear h1
      go_wp2_with fail
      go_ret2
      exact ⟨b, m, rfl, HM.out, hb1, hm1, HB.out⟩
end Go.Proofs.YtgbemgndbemllaaGreatDoor
end

