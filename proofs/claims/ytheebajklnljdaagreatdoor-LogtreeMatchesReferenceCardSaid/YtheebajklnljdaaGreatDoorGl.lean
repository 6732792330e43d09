/- Joined: LogB LogC LogD LogE LogI. -/
import Derived.Test.YtheebajklnljdaaGreatDoorGj
import Derived.Test.YtheebajklnljdaaGreatDoorGg
import Derived.Test.YtheebajklnljdaaGreatDoorQLeaf
import Derived.Deep.RegionHeld3
import Derived.Test.YtheebajklnljdaaGreatDoorGk

section
/- Next. -/
namespace Go.Proofs.YtheebajklnljdaaGreatDoor
open Go Go.RowKit
attribute [local go_sem] Oper.semAt_some

theorem chain_str (s t : List UInt8) (w : World) (hs : s.length + t.length ≤ 900000) (hR : RoundOk w) :
    Calls Tryz.prog 57 #[.string (str s), .string (str t)] w fun e w' => e = .returned (.string (str (chainL s t))) ∧ Below w.heap.size w w' := by
  have h := chain_ok (str s) (str t) w (by rw [size_mk, size_mk]; exact hs) hR
  rw [mk_toList, mk_toList] at h
  exact h

def hd3 (x y z : Value) : Array Value := #[x, y, z]

set_option maxRecDepth 100000 in
set_option maxHeartbeats 8000000 in
theorem next_ok (h : Hd) (p : Int) (A : Option Addr) (c : Nat) (l : List Chg) (st : List UInt8) (w : World) (hv : ChgsAt w (.slice A l.length c) l) (hR : RoundOk w) :
    Calls Tryz.prog 28 #[hdV h, recV p (.slice A l.length c), .string (str st)] w fun e w' => e = .returned (.tuple #[hdV (nextA h ⟨p, l⟩ st).1, .int .i64 (nextA h ⟨p, l⟩ st).2]) ∧ Below w.heap.size w w' := by
  obtain ⟨hp, hc, hs⟩ := h
  obtain ⟨W0, hW0⟩ : ∃ W, W = (((w.alloc (.cells #[.int .i64 hp, .string (str hc), .string (str hs)] 46)).alloc (.cells #[.int .i64 p, .slice A l.length c] 35)).alloc (.cells #[.int .i64 0, .string ⟨#[]⟩, .string ⟨#[]⟩] 46)) := ⟨_, rfl⟩
  have hb0 : Below w.heap.size w W0 := by
    rw [hW0]
    exact Below.alloc (Below.alloc (Below.alloc (Below.refl w.heap.size w) (Nat.le_refl _) _) (by rw [World.size_alloc]; omega) _) (by rw [World.size_alloc, World.size_alloc]; omega) _
  have sz0 : W0.heap.size = w.heap.size + 3 := by rw [hW0]; simp [World.size_alloc]
  have k0 : BlkIs W0 w.heap.size 46 [.int .i64 hp, .string (str hc), .string (str hs)] := by
    rw [hW0]; exact ((BlkIs.new w _ _).alloc _).alloc _
  have k1 : BlkIs W0 (w.heap.size + 1) 35 [.int .i64 p, .slice A l.length c] := by
    rw [hW0]; exact BlkIs.alloc (alloc_new_at _ _ _ (by rw [World.size_alloc])) _
  have k2 : BlkIs W0 (w.heap.size + 2) 46 [.int .i64 0, .string ⟨#[]⟩, .string ⟨#[]⟩] := by
    rw [hW0]; exact alloc_new_at _ _ _ (by rw [World.size_alloc, World.size_alloc])
  have henc := enc_ok p A c l W0 (hv.below hb0)
  have KEEP : ∀ W : World, Below W0.heap.size W0 W → BlkIs W w.heap.size 46 [.int .i64 hp, .string (str hc), .string (str hs)] ∧ BlkIs W (w.heap.size + 1) 35 [.int .i64 p, .slice A l.length c] ∧ BlkIs W (w.heap.size + 2) 46 [.int .i64 0, .string ⟨#[]⟩, .string ⟨#[]⟩] ∧ Below w.heap.size w W := fun W hW =>
    ⟨k0.later hW, k1.later hW, k2.later hW, Below.next hb0 hW⟩
  have hval := fun W => hvalid_ok ⟨hp, hc, hs⟩ W
  have hdig := fun W => hdig_ok st W
  have ROUND := Lib.hid (fun (W : World) (hW : Below w.heap.size w W) => hR.later hW)
  have HVAL := Lib.hid hval
  have HDIG := Lib.hid hdig
  have HENC := Lib.hid henc
  have HK := Lib.hid KEEP
  have HW0 := Lib.hid hW0
  clear hval hdig henc KEEP k0 k1 k2 hb0 hv hR
  unfold hdV at HVAL ⊢
  unfold recV at HENC ⊢
  dsimp only at HVAL ⊢
  by_cases B1 : recB ⟨p, l⟩ = true
  case neg =>
    have he : encRecE ⟨p, l⟩ = ([], 30) := if_neg B1
    have hn : nextA ⟨hp, hc, hs⟩ ⟨p, l⟩ st = (hd0, 90) := by
      unfold nextA; rw [Bool.not_eq_true] at B1; rw [B1]; rfl
    rw [he] at HENC
    rw [hn]
    clear B1 he hn
    go_enter Tryz.func28, Tryz.ntmps28
    go_wp2_with fail
    rw [← HW0.out]
    refine (HENC.out).mono ?_
    rintro e w1 ⟨rfl, b1⟩
    obtain ⟨q0, q1, q2, hb1⟩ := HK.out w1 b1
    have a0 : w1.cell? ⟨w.heap.size, 0, none⟩ = some (.int .i64 hp) := q0.cell 0
    have a1 : w1.cell? ⟨w.heap.size, 1, none⟩ = some (.string (str hc)) := q0.cell 1
    have a2 : w1.cell? ⟨w.heap.size, 2, none⟩ = some (.string (str hs)) := q0.cell 2
    have r0 : w1.cell? ⟨w.heap.size + 1, 0, none⟩ = some (.int .i64 p) := q1.cell 0
    have z0 : w1.cell? ⟨w.heap.size + 2, 0, none⟩ = some (.int .i64 0) := q2.cell 0
    have z1 : w1.cell? ⟨w.heap.size + 2, 1, none⟩ = some (.string ⟨#[]⟩) := q2.cell 1
    have z2 : w1.cell? ⟨w.heap.size + 2, 2, none⟩ = some (.string ⟨#[]⟩) := q2.cell 2
    have f0 := q2.frozen 0
    have f1 := q2.frozen 1
    have f2 := q2.frozen 2
    have hz3 := ((q2.set 0 (.int .i64 0)).set 1 (.string ⟨#[]⟩)).set 2 (.string ⟨#[]⟩)
    have hbF := ((hb1.setCell (p := ⟨w.heap.size + 2, 0, none⟩) (by simp) (.int .i64 0)).setCell (p := ⟨w.heap.size + 2, 1, none⟩) (by simp) (.string ⟨#[]⟩)).setCell (p := ⟨w.heap.size + 2, 2, none⟩) (by simp) (.string ⟨#[]⟩)
    go_wp2_with fail
    generalize ((w1.setCell ⟨w.heap.size + 2, 0, none⟩ (.int .i64 0)).setCell ⟨w.heap.size + 2, 1, none⟩ (.string ⟨#[]⟩)).setCell ⟨w.heap.size + 2, 2, none⟩ (.string ⟨#[]⟩) = wF at *
    have y0 : wF.cell? ⟨w.heap.size + 2, 0, none⟩ = some (.int .i64 0) := hz3.cell 0
    have y1 : wF.cell? ⟨w.heap.size + 2, 1, none⟩ = some (.string ⟨#[]⟩) := hz3.cell 1
    have y2 : wF.cell? ⟨w.heap.size + 2, 2, none⟩ = some (.string ⟨#[]⟩) := hz3.cell 2
    refine bodyPost_ret (by simp [results, Tryz.results28, go_sem, y0, y1, y2]; try rfl) rfl ?_
    exact ⟨rfl, hbF⟩
  have he : encRecE ⟨p, l⟩ = (encRec ⟨p, l⟩, 0) := if_pos B1
  have hel := encRec_len B1
  obtain ⟨p1, p2, -, -⟩ := recB_pos B1
  dsimp only at p1 p2
  rw [he] at HENC
  clear he
  by_cases B2 : hdB ⟨hp, hc, hs⟩ = true
  case neg =>
    rw [Bool.not_eq_true] at B2
    have hn : nextA ⟨hp, hc, hs⟩ ⟨p, l⟩ st = (hd0, 90) := by
      unfold nextA; rw [B1, B2]; rfl
    rw [B2] at HVAL
    rw [hn]
    clear B1 B2 hn hel
    go_enter Tryz.func28, Tryz.ntmps28
    go_wp2_with fail
    rw [← HW0.out]
    refine (HENC.out).mono ?_
    rintro e w1 ⟨rfl, b1⟩
    obtain ⟨q0, q1, q2, hb1⟩ := HK.out w1 b1
    have a0 : w1.cell? ⟨w.heap.size, 0, none⟩ = some (.int .i64 hp) := q0.cell 0
    have a1 : w1.cell? ⟨w.heap.size, 1, none⟩ = some (.string (str hc)) := q0.cell 1
    have a2 : w1.cell? ⟨w.heap.size, 2, none⟩ = some (.string (str hs)) := q0.cell 2
    have r0 : w1.cell? ⟨w.heap.size + 1, 0, none⟩ = some (.int .i64 p) := q1.cell 0
    have z0 : w1.cell? ⟨w.heap.size + 2, 0, none⟩ = some (.int .i64 0) := q2.cell 0
    have z1 : w1.cell? ⟨w.heap.size + 2, 1, none⟩ = some (.string ⟨#[]⟩) := q2.cell 1
    have z2 : w1.cell? ⟨w.heap.size + 2, 2, none⟩ = some (.string ⟨#[]⟩) := q2.cell 2
    have f0 := q2.frozen 0
    have f1 := q2.frozen 1
    have f2 := q2.frozen 2
    go_wp2_with fail
    refine (HVAL.out _).mono ?_
    rintro e w2 ⟨rfl, b2⟩
    have b12 := Below.next b1 b2
    clear hb1 b1 b2
    clear a0 a1 a2 r0 z0 z1 z2 f0 f1 f2 q0 q1 q2
    obtain ⟨q0, q1, q2, hb2⟩ := HK.out w2 b12
    have a0 : w2.cell? ⟨w.heap.size, 0, none⟩ = some (.int .i64 hp) := q0.cell 0
    have a1 : w2.cell? ⟨w.heap.size, 1, none⟩ = some (.string (str hc)) := q0.cell 1
    have a2 : w2.cell? ⟨w.heap.size, 2, none⟩ = some (.string (str hs)) := q0.cell 2
    have r0 : w2.cell? ⟨w.heap.size + 1, 0, none⟩ = some (.int .i64 p) := q1.cell 0
    have z0 : w2.cell? ⟨w.heap.size + 2, 0, none⟩ = some (.int .i64 0) := q2.cell 0
    have z1 : w2.cell? ⟨w.heap.size + 2, 1, none⟩ = some (.string ⟨#[]⟩) := q2.cell 1
    have z2 : w2.cell? ⟨w.heap.size + 2, 2, none⟩ = some (.string ⟨#[]⟩) := q2.cell 2
    have f0 := q2.frozen 0
    have f1 := q2.frozen 1
    have f2 := q2.frozen 2
    have hz3 := ((q2.set 0 (.int .i64 0)).set 1 (.string ⟨#[]⟩)).set 2 (.string ⟨#[]⟩)
    have hbF := ((hb2.setCell (p := ⟨w.heap.size + 2, 0, none⟩) (by simp) (.int .i64 0)).setCell (p := ⟨w.heap.size + 2, 1, none⟩) (by simp) (.string ⟨#[]⟩)).setCell (p := ⟨w.heap.size + 2, 2, none⟩) (by simp) (.string ⟨#[]⟩)
    go_wp2_with fail
    generalize ((w2.setCell ⟨w.heap.size + 2, 0, none⟩ (.int .i64 0)).setCell ⟨w.heap.size + 2, 1, none⟩ (.string ⟨#[]⟩)).setCell ⟨w.heap.size + 2, 2, none⟩ (.string ⟨#[]⟩) = wF at *
    have y0 : wF.cell? ⟨w.heap.size + 2, 0, none⟩ = some (.int .i64 0) := hz3.cell 0
    have y1 : wF.cell? ⟨w.heap.size + 2, 1, none⟩ = some (.string ⟨#[]⟩) := hz3.cell 1
    have y2 : wF.cell? ⟨w.heap.size + 2, 2, none⟩ = some (.string ⟨#[]⟩) := hz3.cell 2
    refine bodyPost_ret (by simp [results, Tryz.results28, go_sem, y0, y1, y2]; try rfl) rfl ?_
    exact ⟨rfl, hbF⟩
  obtain ⟨h1, h2, h3, -⟩ := hdB_parts B2
  dsimp only at h1 h2 h3
  rw [B2] at HVAL
  by_cases B3 : st.length = 32
  case neg =>
    have hn : nextA ⟨hp, hc, hs⟩ ⟨p, l⟩ st = (hd0, 90) := by
      unfold nextA; rw [B1, B2, decide_eq_false B3]; rfl
    rw [decide_eq_false B3] at HDIG
    rw [hn]
    clear B1 B2 B3 hn hel h3
    go_enter Tryz.func28, Tryz.ntmps28
    go_wp2_with fail
    rw [← HW0.out]
    refine (HENC.out).mono ?_
    rintro e w1 ⟨rfl, b1⟩
    obtain ⟨q0, q1, q2, hb1⟩ := HK.out w1 b1
    have a0 : w1.cell? ⟨w.heap.size, 0, none⟩ = some (.int .i64 hp) := q0.cell 0
    have a1 : w1.cell? ⟨w.heap.size, 1, none⟩ = some (.string (str hc)) := q0.cell 1
    have a2 : w1.cell? ⟨w.heap.size, 2, none⟩ = some (.string (str hs)) := q0.cell 2
    have r0 : w1.cell? ⟨w.heap.size + 1, 0, none⟩ = some (.int .i64 p) := q1.cell 0
    have z0 : w1.cell? ⟨w.heap.size + 2, 0, none⟩ = some (.int .i64 0) := q2.cell 0
    have z1 : w1.cell? ⟨w.heap.size + 2, 1, none⟩ = some (.string ⟨#[]⟩) := q2.cell 1
    have z2 : w1.cell? ⟨w.heap.size + 2, 2, none⟩ = some (.string ⟨#[]⟩) := q2.cell 2
    have f0 := q2.frozen 0
    have f1 := q2.frozen 1
    have f2 := q2.frozen 2
    go_wp2_with fail
    refine (HVAL.out _).mono ?_
    rintro e w2 ⟨rfl, b2⟩
    have b12 := Below.next b1 b2
    clear hb1 b1 b2
    clear a0 a1 a2 r0 z0 z1 z2 f0 f1 f2 q0 q1 q2
    go_wp2_with fail
    refine (HDIG.out _).mono ?_
    rintro e w3 ⟨rfl, rfl⟩
    obtain ⟨q0, q1, q2, hb3⟩ := HK.out w3 b12
    have a0 : w3.cell? ⟨w.heap.size, 0, none⟩ = some (.int .i64 hp) := q0.cell 0
    have a1 : w3.cell? ⟨w.heap.size, 1, none⟩ = some (.string (str hc)) := q0.cell 1
    have a2 : w3.cell? ⟨w.heap.size, 2, none⟩ = some (.string (str hs)) := q0.cell 2
    have r0 : w3.cell? ⟨w.heap.size + 1, 0, none⟩ = some (.int .i64 p) := q1.cell 0
    have z0 : w3.cell? ⟨w.heap.size + 2, 0, none⟩ = some (.int .i64 0) := q2.cell 0
    have z1 : w3.cell? ⟨w.heap.size + 2, 1, none⟩ = some (.string ⟨#[]⟩) := q2.cell 1
    have z2 : w3.cell? ⟨w.heap.size + 2, 2, none⟩ = some (.string ⟨#[]⟩) := q2.cell 2
    have f0 := q2.frozen 0
    have f1 := q2.frozen 1
    have f2 := q2.frozen 2
    have hz3 := ((q2.set 0 (.int .i64 0)).set 1 (.string ⟨#[]⟩)).set 2 (.string ⟨#[]⟩)
    have hbF := ((hb3.setCell (p := ⟨w.heap.size + 2, 0, none⟩) (by simp) (.int .i64 0)).setCell (p := ⟨w.heap.size + 2, 1, none⟩) (by simp) (.string ⟨#[]⟩)).setCell (p := ⟨w.heap.size + 2, 2, none⟩) (by simp) (.string ⟨#[]⟩)
    go_wp2_with fail
    generalize ((w3.setCell ⟨w.heap.size + 2, 0, none⟩ (.int .i64 0)).setCell ⟨w.heap.size + 2, 1, none⟩ (.string ⟨#[]⟩)).setCell ⟨w.heap.size + 2, 2, none⟩ (.string ⟨#[]⟩) = wF at *
    have y0 : wF.cell? ⟨w.heap.size + 2, 0, none⟩ = some (.int .i64 0) := hz3.cell 0
    have y1 : wF.cell? ⟨w.heap.size + 2, 1, none⟩ = some (.string ⟨#[]⟩) := hz3.cell 1
    have y2 : wF.cell? ⟨w.heap.size + 2, 2, none⟩ = some (.string ⟨#[]⟩) := hz3.cell 2
    refine bodyPost_ret (by simp [results, Tryz.results28, go_sem, y0, y1, y2]; try rfl) rfl ?_
    exact ⟨rfl, hbF⟩
  rw [decide_eq_true B3] at HDIG
  by_cases B4 : p = hp + 1
  case neg =>
    have hn : nextA ⟨hp, hc, hs⟩ ⟨p, l⟩ st = (hd0, 90) := by
      unfold nextA; rw [B1, B2, decide_eq_true B3, decide_eq_false B4]; rfl
    have t4 : (p != hp + 1) = true := by simpa using B4
    rw [hn]
    clear B1 B2 B3 B4 hn hel h3
    go_enter Tryz.func28, Tryz.ntmps28
    go_wp2_with fail
    rw [← HW0.out]
    refine (HENC.out).mono ?_
    rintro e w1 ⟨rfl, b1⟩
    obtain ⟨q0, q1, q2, hb1⟩ := HK.out w1 b1
    have a0 : w1.cell? ⟨w.heap.size, 0, none⟩ = some (.int .i64 hp) := q0.cell 0
    have a1 : w1.cell? ⟨w.heap.size, 1, none⟩ = some (.string (str hc)) := q0.cell 1
    have a2 : w1.cell? ⟨w.heap.size, 2, none⟩ = some (.string (str hs)) := q0.cell 2
    have r0 : w1.cell? ⟨w.heap.size + 1, 0, none⟩ = some (.int .i64 p) := q1.cell 0
    have z0 : w1.cell? ⟨w.heap.size + 2, 0, none⟩ = some (.int .i64 0) := q2.cell 0
    have z1 : w1.cell? ⟨w.heap.size + 2, 1, none⟩ = some (.string ⟨#[]⟩) := q2.cell 1
    have z2 : w1.cell? ⟨w.heap.size + 2, 2, none⟩ = some (.string ⟨#[]⟩) := q2.cell 2
    have f0 := q2.frozen 0
    have f1 := q2.frozen 1
    have f2 := q2.frozen 2
    go_wp2_with fail
    refine (HVAL.out _).mono ?_
    rintro e w2 ⟨rfl, b2⟩
    have b12 := Below.next b1 b2
    clear hb1 b1 b2
    clear a0 a1 a2 r0 z0 z1 z2 f0 f1 f2 q0 q1 q2
    go_wp2_with fail
    refine (HDIG.out _).mono ?_
    rintro e w3 ⟨rfl, rfl⟩
    obtain ⟨q0, q1, q2, hb3⟩ := HK.out w3 b12
    have a0 : w3.cell? ⟨w.heap.size, 0, none⟩ = some (.int .i64 hp) := q0.cell 0
    have a1 : w3.cell? ⟨w.heap.size, 1, none⟩ = some (.string (str hc)) := q0.cell 1
    have a2 : w3.cell? ⟨w.heap.size, 2, none⟩ = some (.string (str hs)) := q0.cell 2
    have r0 : w3.cell? ⟨w.heap.size + 1, 0, none⟩ = some (.int .i64 p) := q1.cell 0
    have z0 : w3.cell? ⟨w.heap.size + 2, 0, none⟩ = some (.int .i64 0) := q2.cell 0
    have z1 : w3.cell? ⟨w.heap.size + 2, 1, none⟩ = some (.string ⟨#[]⟩) := q2.cell 1
    have z2 : w3.cell? ⟨w.heap.size + 2, 2, none⟩ = some (.string ⟨#[]⟩) := q2.cell 2
    have f0 := q2.frozen 0
    have f1 := q2.frozen 1
    have f2 := q2.frozen 2
    have hz3 := ((q2.set 0 (.int .i64 0)).set 1 (.string ⟨#[]⟩)).set 2 (.string ⟨#[]⟩)
    have hbF := ((hb3.setCell (p := ⟨w.heap.size + 2, 0, none⟩) (by simp) (.int .i64 0)).setCell (p := ⟨w.heap.size + 2, 1, none⟩) (by simp) (.string ⟨#[]⟩)).setCell (p := ⟨w.heap.size + 2, 2, none⟩) (by simp) (.string ⟨#[]⟩)
    go_wp2_with fail
    generalize ((w3.setCell ⟨w.heap.size + 2, 0, none⟩ (.int .i64 0)).setCell ⟨w.heap.size + 2, 1, none⟩ (.string ⟨#[]⟩)).setCell ⟨w.heap.size + 2, 2, none⟩ (.string ⟨#[]⟩) = wF at *
    have y0 : wF.cell? ⟨w.heap.size + 2, 0, none⟩ = some (.int .i64 0) := hz3.cell 0
    have y1 : wF.cell? ⟨w.heap.size + 2, 1, none⟩ = some (.string ⟨#[]⟩) := hz3.cell 1
    have y2 : wF.cell? ⟨w.heap.size + 2, 2, none⟩ = some (.string ⟨#[]⟩) := hz3.cell 2
    refine bodyPost_ret (by simp [results, Tryz.results28, go_sem, y0, y1, y2]; try rfl) rfl ?_
    exact ⟨rfl, hbF⟩
  · have hn : nextA ⟨hp, hc, hs⟩ ⟨p, l⟩ st = (⟨p, chainL hc (encRec ⟨p, l⟩), st⟩, 0) := by
      unfold nextA; rw [B1, B2, decide_eq_true B3, decide_eq_true B4]; rfl
    have t4 : (p != hp + 1) = false := by simpa using B4
    rw [hn]
    obtain ⟨E, hE⟩ : ∃ E, E = encRec ⟨p, l⟩ := ⟨_, rfl⟩
    rw [← hE] at hel HENC ⊢
    have hch : ∀ W : World, W.cell? ⟨w.heap.size + 1, 0, none⟩ = some (.int .i64 p) → W.cell? ⟨w.heap.size, 1, none⟩ = some (.string (str hc)) → Below W0.heap.size W0 W → Calls Tryz.prog 57 #[.string (str hc), .string (str E)] W fun e w' => e = .returned (.string (str (chainL hc E))) ∧ w'.cell? ⟨w.heap.size + 1, 0, none⟩ = some (.int .i64 p) ∧ w'.cell? ⟨w.heap.size, 1, none⟩ = some (.string (str hc)) ∧ Below W0.heap.size W0 w' := by
      intro W g1 g2 g3
      refine (chain_str hc E W (by omega) (ROUND.out W (HK.out W g3).2.2.2)).mono fun e w' ⟨he, hb⟩ => ⟨he, (hb.cell (block_of_cell g1)).trans g1, (hb.cell (block_of_cell g2)).trans g2, Below.next g3 hb⟩
    have HCH := Lib.hid hch
    clear B1 B2 B3 B4 hn hE hch hel h3
    go_enter Tryz.func28, Tryz.ntmps28
    go_wp2_with fail
    rw [← HW0.out]
    refine (HENC.out).mono ?_
    rintro e w1 ⟨rfl, b1⟩
    obtain ⟨q0, q1, q2, hb1⟩ := HK.out w1 b1
    have a0 : w1.cell? ⟨w.heap.size, 0, none⟩ = some (.int .i64 hp) := q0.cell 0
    have a1 : w1.cell? ⟨w.heap.size, 1, none⟩ = some (.string (str hc)) := q0.cell 1
    have a2 : w1.cell? ⟨w.heap.size, 2, none⟩ = some (.string (str hs)) := q0.cell 2
    have r0 : w1.cell? ⟨w.heap.size + 1, 0, none⟩ = some (.int .i64 p) := q1.cell 0
    have z0 : w1.cell? ⟨w.heap.size + 2, 0, none⟩ = some (.int .i64 0) := q2.cell 0
    have z1 : w1.cell? ⟨w.heap.size + 2, 1, none⟩ = some (.string ⟨#[]⟩) := q2.cell 1
    have z2 : w1.cell? ⟨w.heap.size + 2, 2, none⟩ = some (.string ⟨#[]⟩) := q2.cell 2
    have f0 := q2.frozen 0
    have f1 := q2.frozen 1
    have f2 := q2.frozen 2
    go_wp2_with fail
    refine (HVAL.out _).mono ?_
    rintro e w2 ⟨rfl, b2⟩
    have b12 := Below.next b1 b2
    clear hb1 b1 b2
    clear a0 a1 a2 r0 z0 z1 z2 f0 f1 f2 q0 q1 q2
    go_wp2_with fail
    refine (HDIG.out _).mono ?_
    rintro e w3 ⟨rfl, rfl⟩
    obtain ⟨q0, q1, q2, hb3⟩ := HK.out w3 b12
    have a0 : w3.cell? ⟨w.heap.size, 0, none⟩ = some (.int .i64 hp) := q0.cell 0
    have a1 : w3.cell? ⟨w.heap.size, 1, none⟩ = some (.string (str hc)) := q0.cell 1
    have a2 : w3.cell? ⟨w.heap.size, 2, none⟩ = some (.string (str hs)) := q0.cell 2
    have r0 : w3.cell? ⟨w.heap.size + 1, 0, none⟩ = some (.int .i64 p) := q1.cell 0
    have z0 : w3.cell? ⟨w.heap.size + 2, 0, none⟩ = some (.int .i64 0) := q2.cell 0
    have z1 : w3.cell? ⟨w.heap.size + 2, 1, none⟩ = some (.string ⟨#[]⟩) := q2.cell 1
    have z2 : w3.cell? ⟨w.heap.size + 2, 2, none⟩ = some (.string ⟨#[]⟩) := q2.cell 2
    have f0 := q2.frozen 0
    have f1 := q2.frozen 1
    have f2 := q2.frozen 2
    go_wp2_with fail
    clear z0 z1 z2 f0 f1 f2 q0 q1 q2 hb3
    go_region_law (go_simp; go_at_call 57; refine (HCH.out _ ?_ ?_ ?_).mono ?_; (first | assumption | (simp [*]; done)); (first | assumption | (simp [*]; done)); (first | assumption | exact Below.drew (by assumption)); rintro e w4 ⟨rfl, g1, g2, g3⟩; obtain ⟨q0, q1, q2, hb4⟩ := HK.out w4 g3; have z0 : w4.cell? ⟨w.heap.size + 2, 0, none⟩ = some (.int .i64 0) := q2.cell 0; have z1 : w4.cell? ⟨w.heap.size + 2, 1, none⟩ = some (.string ⟨#[]⟩) := q2.cell 1; have z2 : w4.cell? ⟨w.heap.size + 2, 2, none⟩ = some (.string ⟨#[]⟩) := q2.cell 2; have f0 := q2.frozen 0; have f1 := q2.frozen 1; have f2 := q2.frozen 2)
    all_goals
      have hz3 := ((q2.set 0 (.int .i64 p)).set 1 (.string (str (chainL hc E)))).set 2 (.string (str st))
      have hbF := ((hb4.setCell (p := ⟨w.heap.size + 2, 0, none⟩) (by simp) (.int .i64 p)).setCell (p := ⟨w.heap.size + 2, 1, none⟩) (by simp) (.string (str (chainL hc E)))).setCell (p := ⟨w.heap.size + 2, 2, none⟩) (by simp) (.string (str st))
      go_wp2_with fail
      generalize ((w4.setCell ⟨w.heap.size + 2, 0, none⟩ (.int .i64 p)).setCell ⟨w.heap.size + 2, 1, none⟩ (.string (str (chainL hc E)))).setCell ⟨w.heap.size + 2, 2, none⟩ (.string (str st)) = wF at *
      have y0 : wF.cell? ⟨w.heap.size + 2, 0, none⟩ = some (.int .i64 p) := hz3.cell 0
      have y1 : wF.cell? ⟨w.heap.size + 2, 1, none⟩ = some (.string (str (chainL hc E))) := hz3.cell 1
      have y2 : wF.cell? ⟨w.heap.size + 2, 2, none⟩ = some (.string (str st)) := hz3.cell 2
      refine bodyPost_ret (by simp [results, Tryz.results28, go_sem, y0, y1, y2]; try rfl) rfl ?_
      exact ⟨rfl, hbF⟩
end Go.Proofs.YtheebajklnljdaaGreatDoor
end

section
/- Verify and New of the log; slices.Clone of changes; own. -/
namespace Go.Proofs.YtheebajklnljdaaGreatDoor
open Go Go.RowKit
attribute [local go_sem] Oper.semAt_some

/-- Verify -/
def verA (root : List UInt8) (n : Int) (h : Hd) (p : List (List UInt8)) : Bool := hdB h && (decide (h.pos ≤ n) && decide (n ≤ 10000)) && verB root (n + 1) h.pos (encHd h) p

set_option maxRecDepth 100000 in
set_option maxHeartbeats 4000000 in
theorem lverify_ok (root : ByteArray) (n : Int) (h : Hd) (v : Value) (p : List (List UInt8)) (w : World) (hv : ListAt w v p) (hpl : p.length ≤ 100) (hR : RoundOk w) :
    Calls Tryz.prog 36 #[.string root, .int .i64 n, hdV h, v] w fun e w' => e = .returned (.bool (verA root.data.toList n h p)) ∧ Below w.heap.size w w' := by
  have henc := fun W => hencode_ok h W
  have hb1 := fun o => Below.alloc (Below.refl w.heap.size w) (Nat.le_refl _) o
  by_cases B1 : hdB h = true
  case neg =>
    have hE : encA h = ([], 90) := if_neg B1
    have hr : verA root.data.toList n h p = false := by unfold verA; rw [Bool.not_eq_true] at B1; rw [B1]; rfl
    rw [hr]
    rw [hE] at henc
    have HE := Lib.hid henc
    have HB := Lib.hid hb1
    clear henc hb1 hE hr B1 hv hR
    unfold hdV
    unfold hdV at HE
    go_enter Tryz.func36, Tryz.ntmps36
    go_wp2_with fail
    refine (HE.out _).mono ?_
    rintro e w1 ⟨rfl, b1⟩
    have hb2 := Below.next (HB.out _) b1
    go_wp2_with fail
    go_ret
    exact ⟨rfl, hb2⟩
  obtain ⟨h1, h2, -, -⟩ := hdB_parts B1
  have hl := encHd_len B1
  have hE : encA h = (encHd h, 0) := if_pos B1
  rw [hE] at henc
  have hr : verA root.data.toList n h p = ((decide (h.pos ≤ n) && decide (n ≤ 10000)) && verB root.data.toList (n + 1) h.pos (encHd h) p) := by unfold verA; rw [B1, Bool.true_and]
  rw [hr]
  obtain ⟨E, hEE⟩ : ∃ E, E = encHd h := ⟨_, rfl⟩
  rw [← hEE] at hl henc ⊢
  obtain ⟨hp, hc, hs⟩ := h
  dsimp only at h1 h2 ⊢
  clear hE hr hEE B1
  by_cases k1 : hp ≤ n
  case neg =>
    have t1 : decide (hp ≤ n) = false := by simpa using k1
    rw [t1, Bool.false_and, Bool.false_and]
    have HE := Lib.hid henc
    have HB := Lib.hid hb1
    clear henc hb1 hv hR k1
    unfold hdV
    unfold hdV at HE
    dsimp only at HE ⊢
    go_enter Tryz.func36, Tryz.ntmps36
    go_wp2_with fail
    refine (HE.out _).mono ?_
    rintro e w1 ⟨rfl, b1⟩
    have c0 : w1.cell? ⟨w.heap.size, 0, none⟩ = some (.int .i64 hp) := by rw [b1.cell (by simp), cell_of_row _ _ 0 _ _ _ (World.alloc_heap_new w _)]; rfl
    have hb2 := Below.next (HB.out _) b1
    go_wp2_with fail
    go_ret
    exact ⟨rfl, hb2⟩
  by_cases k2 : n ≤ 10000
  case neg =>
    have t1 : decide (hp ≤ n) = true := by simpa using k1
    have t2 : decide (n ≤ 10000) = false := by simpa using k2
    rw [t1, t2, Bool.and_false, Bool.false_and]
    have HE := Lib.hid henc
    have HB := Lib.hid hb1
    clear henc hb1 hv hR k1 k2
    unfold hdV
    unfold hdV at HE
    dsimp only at HE ⊢
    go_enter Tryz.func36, Tryz.ntmps36
    go_wp2_with fail
    refine (HE.out _).mono ?_
    rintro e w1 ⟨rfl, b1⟩
    have c0 : w1.cell? ⟨w.heap.size, 0, none⟩ = some (.int .i64 hp) := by rw [b1.cell (by simp), cell_of_row _ _ 0 _ _ _ (World.alloc_heap_new w _)]; rfl
    have hb2 := Below.next (HB.out _) b1
    go_wp2_with fail
    go_ret
    exact ⟨rfl, hb2⟩
  have t1 : decide (hp ≤ n) = true := by simpa using k1
  have t2 : decide (n ≤ 10000) = true := by simpa using k2
  rw [t1, t2, Bool.and_self, Bool.true_and]
  have hver : ∀ W, Below w.heap.size w W → Calls Tryz.prog 65 #[.string root, .int .i64 (n + 1), .int .i64 hp, .string (str E), v] W fun e w' => e = .returned (.bool (verB root.data.toList (n + 1) hp E p)) ∧ Below W.heap.size W w' := by
    intro W hW
    have := ver_any root (str E) (n + 1) hp v p W (hv.below hW) (by omega) hpl (by rw [size_mk]; omega) (hR.later hW)
    rwa [mk_toList] at this
  have HE := Lib.hid henc
  have HB := Lib.hid hb1
  have HV := Lib.hid hver
  clear henc hb1 hv hR hver hl
  unfold hdV
  unfold hdV at HE
  dsimp only at HE ⊢
  go_enter Tryz.func36, Tryz.ntmps36
  go_wp2_with fail
  refine (HE.out _).mono ?_
  rintro e w1 ⟨rfl, b1⟩
  have c0 : w1.cell? ⟨w.heap.size, 0, none⟩ = some (.int .i64 hp) := by rw [b1.cell (by simp), cell_of_row _ _ 0 _ _ _ (World.alloc_heap_new w _)]; rfl
  have hb2 := Below.next (HB.out _) b1
  go_wp2_with fail
  refine (HV.out _ hb2).mono ?_
  rintro e w2 ⟨rfl, b2⟩
  have hb3 := Below.next hb2 b2
  go_wp2_with fail
  go_ret
  exact ⟨rfl, hb3⟩

theorem Tryz.infoChg : (Tryz.prog.info? 72).map (fun i => (i.zero, i.size, i.bytes)) = some (some (.agg #[.int .i64 0, .int .i64 0, .bool false, .int .i64 0, .int .i64 0, .int .i64 0, .bool false, .int .i64 0, .int .i64 0, .int .i64 0]), 10, 80) := by kernel_rfl
theorem info_chg : ∃ i, Tryz.prog.info? 72 = some i ∧ i.zero = some (.agg #[.int .i64 0, .int .i64 0, .bool false, .int .i64 0, .int .i64 0, .int .i64 0, .bool false, .int .i64 0, .int .i64 0, .int .i64 0]) ∧ i.size = 10 ∧ i.bytes = 80 := by
  obtain ⟨i0, hi, hz0, hz1, hz2⟩ := info_parts Tryz.infoChg
  exact ⟨i0, hi, hz0, hz1, hz2⟩
theorem Tryz.infoRec : (Tryz.prog.info? 35).map (fun i => (i.zero, i.size, i.bytes)) = some (some (.agg #[.int .i64 0, .slice none 0 0]), 2, 32) := by kernel_rfl
theorem info_rec : ∃ i, Tryz.prog.info? 35 = some i ∧ i.zero = some (.agg #[.int .i64 0, .slice none 0 0]) ∧ i.size = 2 ∧ i.bytes = 32 := by
  obtain ⟨i0, hi, hz0, hz1, hz2⟩ := info_parts Tryz.infoRec
  exact ⟨i0, hi, hz0, hz1, hz2⟩
theorem Tryz.infoHd : (Tryz.prog.info? 46).map (fun i => (i.zero, i.size, i.bytes)) = some (some (.agg #[.int .i64 0, .string ⟨#[]⟩, .string ⟨#[]⟩]), 3, 40) := by kernel_rfl
theorem info_hd : ∃ i, Tryz.prog.info? 46 = some i ∧ i.zero = some (.agg #[.int .i64 0, .string ⟨#[]⟩, .string ⟨#[]⟩]) ∧ i.size = 3 ∧ i.bytes = 40 := by
  obtain ⟨i0, hi, hz0, hz1, hz2⟩ := info_parts Tryz.infoHd
  exact ⟨i0, hi, hz0, hz1, hz2⟩

theorem chgs_one (l : List Chg) : ∀ u ∈ l.flatMap chgCells, u.oneCell' = true := by
  intro u hu
  obtain ⟨c, _, h⟩ := List.mem_flatMap.1 hu
  unfold chgCells at h
  simp only [List.mem_cons, List.not_mem_nil, or_false] at h
  rcases h with rfl | rfl | rfl | rfl | rfl | rfl | rfl | rfl | rfl | rfl <;> rfl

/-- the cells of a list of changes -/
theorem chgs_cells {w : World} {g o : Nat} {l : List Chg} (h : ∀ (j : Nat) x, l[j]? = some x → ∀ (i : Nat) u, (chgCells x)[i]? = some u → w.cell? ⟨g, o + j * 10 + i, none⟩ = some u) :
    ∀ (j : Nat) u, (l.flatMap chgCells)[j]? = some u → w.cell? ((⟨g, o, none⟩ : Addr).add j) = some u := by
  intro j u hu
  rw [add_off]
  have hlt := (List.getElem?_eq_some_iff.1 hu).1
  rw [flat_len chgCells 10 chgCells_len] at hlt
  have h10 : j / 10 < l.length := by omega
  obtain ⟨x, hx⟩ : ∃ x, l[j / 10]? = some x := ⟨_, List.getElem?_eq_getElem h10⟩
  have hi : j % 10 < (chgCells x).length := by rw [chgCells_len]; omega
  have hu2 := flat_get chgCells 10 chgCells_len l (j / 10) (j % 10) x _ hx (List.getElem?_eq_getElem hi)
  rw [show j / 10 * 10 + j % 10 = j by omega] at hu2
  rw [hu2] at hu
  cases hu
  have := h (j / 10) x hx (j % 10) _ (List.getElem?_eq_getElem hi)
  rw [show o + j / 10 * 10 + j % 10 = o + j by omega] at this
  exact this

set_option maxRecDepth 100000 in
set_option maxHeartbeats 4000000 in
theorem clone_ok (A : Option Addr) (c : Nat) (l : List Chg) (w : World) (hv : ChgsAt w (.slice A l.length c) l) (h1 : 1 ≤ l.length) (h8 : l.length ≤ 1000) :
    Calls Tryz.prog 80 #[.slice A l.length c] w fun e w' => ∃ v', e = .returned v' ∧ w'.ownsRow w.heap.size 72 10 v' l.length (l.flatMap chgCells) ∧ Below w.heap.size w w' := by
  obtain ⟨i0, hi, hz0, hz1, hz2⟩ := info_chg
  obtain ⟨A', c', e0, hc, hj⟩ := hv
  injection e0 with e1 e2 e3
  subst e1 e3
  obtain ⟨g, o, rfl, hg, hj⟩ := hj (by omega)
  have q := fun (w : World) (a : Option Addr) (n c n' c' : Nat) => Lib.run_eql_slice_nil w 33 72 a n c n' c' Tryz.underlying33
  have hcells : ∀ o, ∀ (j : Nat) u, (l.flatMap chgCells)[j]? = some u → (w.alloc o).cell? ((⟨g, _, none⟩ : Addr).add j) = some u := fun ob j u hu => (World.cell?_of_block (by rw [block_add]; exact Below.heap_alloc w ob g hg)).trans (chgs_cells hj j u hu)
  have HC := Lib.hid hcells
  clear hj hcells
  go_enter Tryz.func80, Tryz.ntmps80
  go_wp2_with (at_builtin; refine wpList_append_own _ rfl _ _ 33 rfl w.heap.size 72 i0 (.agg #[.int .i64 0, .int .i64 0, .bool false, .int .i64 0, .int .i64 0, .int .i64 0, .bool false, .int .i64 0, .int .i64 0, .int .i64 0]) 10 80 Tryz.underlying33 hi hz0 hz1 hz2 rfl (by decide) _ _ _ rfl (World.ownsRow_made w #[] 0 (Nat.le_refl _) (Nat.zero_le _) rfl) ⟨g, o, none⟩ l.length c (l.flatMap chgCells) rfl (flat_len chgCells 10 chgCells_len l) (HC.out _) (chgs_one l) (by unfold maxLen; omega) (by omega) (by simp) ?_; intro v' w1 hown hgrow hnil)
  go_ret
  refine ⟨v', rfl, by simpa using hown, ?_⟩
  have hg2 : (w.alloc (.cells #[] 72)).grownBy w1 (some w.heap.size) := hgrow
  exact ((Below.refl _ w).alloc (Nat.le_refl _) _).grown hg2 (by simp) (by intro k hk; cases hk; exact Nat.le_refl _)
end Go.Proofs.YtheebajklnljdaaGreatDoor
end

section
/- own; New; Len, Head, Record of a log. -/
namespace Go.Proofs.YtheebajklnljdaaGreatDoor
open Go Go.RowKit
attribute [local go_sem] Oper.semAt_some

theorem ownsRow_lower {w : World} {base base' : Nat} {e : TypeId} {size : Nat} {v : Value} {n : Nat} {xs : List Value} (h : w.ownsRow base e size v n xs) (hb : base' ≤ base) : w.ownsRow base' e size v n xs := by
  refine ⟨h.1, ?_⟩
  rcases h.2 with h0 | ⟨g, cap, cur, hv, h1, rest⟩
  · exact .inl h0
  · exact .inr ⟨g, cap, cur, hv, Nat.le_trans hb h1, rest⟩

set_option maxRecDepth 100000 in
set_option maxHeartbeats 4000000 in
theorem own_ok (p : Int) (A : Option Addr) (c : Nat) (l : List Chg) (w : World) (hv : ChgsAt w (.slice A l.length c) l) (h1 : 1 ≤ l.length) (h8 : l.length ≤ 1000) :
    Calls Tryz.prog 47 #[recV p (.slice A l.length c)] w fun e w' => ∃ g' c', e = .returned (recV p (.slice (some ⟨g', 0, none⟩) l.length c')) ∧ w'.ownsRow w.heap.size 72 10 (.slice (some ⟨g', 0, none⟩) l.length c') l.length (l.flatMap chgCells) ∧ Below w.heap.size w w' := by
  have hb2 : Below w.heap.size w ((w.alloc (.cells #[.int .i64 p, .slice A l.length c] 35)).alloc (.cells #[.int .i64 0, .slice none 0 0] 35)) := Below.alloc (Below.alloc (Below.refl w.heap.size w) (Nat.le_refl _) _) (by rw [World.size_alloc]; omega) _
  have hcl := clone_ok A c l _ (hv.below hb2) h1 h8
  have HCL := Lib.hid hcl
  have HB := Lib.hid hb2
  clear hv hcl hb2
  unfold recV
  go_enter Tryz.func47, Tryz.ntmps47
  go_wp2_with fail
  refine (HCL.out).mono ?_
  rintro e w1 ⟨v', rfl, own1, b1⟩
  obtain ⟨g', c', rfl, -, -⟩ := World.ownsRow.form own1 (by omega)
  have h0 : BlkIs w1 w.heap.size 35 [.int .i64 p, .slice A l.length c] := (b1.block w.heap.size (by simp [World.size_alloc]; omega)).trans ((Below.heap_alloc _ _ w.heap.size (by rw [World.size_alloc]; omega)).trans (World.alloc_heap_new w _))
  have hz : BlkIs w1 (w.heap.size + 1) 35 [.int .i64 0, .slice none 0 0] := (b1.block (w.heap.size + 1) (by simp [World.size_alloc])).trans (alloc_new_at _ _ _ (by rw [World.size_alloc]))
  have c0 : w1.cell? ⟨w.heap.size, 0, none⟩ = some (.int .i64 p) := h0.cell 0
  have c1 : w1.cell? ⟨w.heap.size, 1, none⟩ = some (.slice A l.length c) := h0.cell 1
  have f1 := h0.frozen 1
  have z0 : w1.cell? ⟨w.heap.size + 1, 0, none⟩ = some (.int .i64 0) := hz.cell 0
  have z1 : w1.cell? ⟨w.heap.size + 1, 1, none⟩ = some (.slice none 0 0) := hz.cell 1
  have g0 := hz.frozen 0
  have g1 := hz.frozen 1
  have hb3 := Below.next HB.out b1
  have own0 : w1.ownsRow (w.heap.size + 2) 72 10 (.slice (some ⟨g', 0, none⟩) l.length c') l.length (l.flatMap chgCells) := by
    have : (((w.alloc (.cells #[.int .i64 p, .slice A l.length c] 35)).alloc (.cells #[.int .i64 0, .slice none 0 0] 35)).heap.size) = w.heap.size + 2 := by simp [World.size_alloc]
    rw [← this]; exact own1
  clear b1 own1
  go_wp2_with fail
  have hz3 := ((hz.other (p := ⟨w.heap.size, 1, none⟩) (by simp) (.slice (some ⟨g', 0, none⟩) l.length c')).set 0 (.int .i64 p)).set 1 (.slice (some ⟨g', 0, none⟩) l.length c')
  have hb4 := ((hb3.setCell (p := ⟨w.heap.size, 1, none⟩) (Nat.le_refl _) (.slice (some ⟨g', 0, none⟩) l.length c')).setCell (p := ⟨w.heap.size + 1, 0, none⟩) (by simp) (.int .i64 p)).setCell (p := ⟨w.heap.size + 1, 1, none⟩) (by simp) (.slice (some ⟨g', 0, none⟩) l.length c')
  have hO : Only (fun k => k = w.heap.size ∨ k = w.heap.size + 1) w1 (((w1.setCell ⟨w.heap.size, 1, none⟩ (.slice (some ⟨g', 0, none⟩) l.length c')).setCell ⟨w.heap.size + 1, 0, none⟩ (.int .i64 p)).setCell ⟨w.heap.size + 1, 1, none⟩ (.slice (some ⟨g', 0, none⟩) l.length c')) :=
    ((Only.setCell _ _ _ (.inl rfl)).trans (Only.setCell _ _ _ (.inr rfl))).trans (Only.setCell _ _ _ (.inr rfl))
  have own3 := ownsRow_same (S := fun k => w.heap.size + 2 ≤ k) own0 (.of_only hO (fun k hk => by omega)) (fun b hb => (own0.lt b hb).1)
  generalize (((w1.setCell ⟨w.heap.size, 1, none⟩ (.slice (some ⟨g', 0, none⟩) l.length c')).setCell ⟨w.heap.size + 1, 0, none⟩ (.int .i64 p)).setCell ⟨w.heap.size + 1, 1, none⟩ (.slice (some ⟨g', 0, none⟩) l.length c')) = w3 at *
  have y0 : w3.cell? ⟨w.heap.size + 1, 0, none⟩ = some (.int .i64 p) := hz3.cell 0
  have y1 : w3.cell? ⟨w.heap.size + 1, 1, none⟩ = some (.slice (some ⟨g', 0, none⟩) l.length c') := hz3.cell 1
  refine bodyPost_ret (by simp [results, Tryz.results47, go_sem, y0, y1]; try rfl) rfl ?_
  refine ⟨g', c', rfl, ownsRow_lower own3 (by omega), hb4⟩

/-- New -/
theorem new_ok (st : List UInt8) (w : World) (hst : st.length = 32) :
    Calls Tryz.prog 8 #[.string (str st)] w fun e w' => ∃ b, e = .returned (.tuple #[.pointer (some ⟨b, 0, none⟩), .int .i64 0]) ∧ LogAt w' (fun k => w.heap.size ≤ k) b (newLg st) ∧ Below w.heap.size w w' := by
  have hd := fun W => hdig_ok st W
  rw [decide_eq_true hst] at hd
  have hrep := fun W => Tryz.strings_Repeat_main ⟨#[0]⟩ 32 W (by decide) (by decide) (by decide) (by decide)
  have e32 : (⟨(Lib.repeatL (⟨#[0]⟩ : ByteArray).data.toList 32).toArray⟩ : ByteArray) = str zero32 := by decide
  rw [e32] at hrep
  have HD := Lib.hid hd
  have HREP := Lib.hid hrep
  clear hd hrep e32
  go_enter Tryz.func8, Tryz.ntmps8
  go_wp2_with fail
  refine (HD.out _).mono ?_
  rintro e w1 ⟨rfl, rfl⟩
  go_wp2_with fail
  refine (HREP.out _).mono ?_
  rintro e w2 ⟨rfl, b2⟩
  have hle := b2.size
  go_wp2_with fail
  go_ret2
  have hrow : ((w2.alloc (.cells #[.int .i64 0, .string (str zero32), .string (str st)] 46)).alloc (.cells #[.slice none 0 0, .slice (some ⟨w2.heap.size, 0, none⟩) 1 1] 81)).heap[w2.heap.size]? = some (.cells #[.int .i64 0, .string (str zero32), .string (str st)] 46 (0, 0)) :=
    (Below.heap_alloc _ _ w2.heap.size (by rw [World.size_alloc]; omega)).trans (World.alloc_heap_new w2 _)
  refine ⟨w2.heap.size + 1, rfl, ⟨.slice none 0 0, .slice (some ⟨w2.heap.size, 0, none⟩) 1 1, alloc_new_at _ _ _ (by rw [World.size_alloc]), by omega, RecRow.nil _ _, ⟨⟨rfl, .inr ⟨w2.heap.size, 1, _, rfl, Nat.zero_le _, hrow, Nat.le_refl _, by unfold maxLen; omega, rfl, rfl⟩⟩, ?_⟩⟩, ?_⟩
  · intro b hb
    cases hb
    exact hle
  · exact Below.alloc (Below.alloc b2 hle _) (by rw [World.size_alloc]; omega) _

theorem new_no (st : List UInt8) (w : World) (hst : st.length ≠ 32) :
    Calls Tryz.prog 8 #[.string (str st)] w fun e w' => e = .returned (.tuple #[.pointer none, .int .i64 90]) ∧ w' = w := by
  have hd := fun W => hdig_ok st W
  rw [decide_eq_false hst] at hd
  have HD := Lib.hid hd
  clear hd
  go_enter Tryz.func8, Tryz.ntmps8
  go_wp2_with fail
  refine (HD.out _).mono ?_
  rintro e w1 ⟨rfl, rfl⟩
  go_wp2_with fail
  go_ret2
  exact ⟨rfl, rfl⟩
end Go.Proofs.YtheebajklnljdaaGreatDoor
end

section
/- Len, Head and Record of a log. -/
namespace Go.Proofs.YtheebajklnljdaaGreatDoor
open Go Go.RowKit
attribute [local go_sem] Oper.semAt_some

theorem LogAt.parts {S : Nat → Prop} {w : World} {b : Nat} {x : Lg} (h : LogAt w S b x) :
    ∃ A1 c1 A2 c2, w.cell? ⟨b, 0, none⟩ = some (.slice A1 x.recs.length c1) ∧ w.cell? ⟨b, 1, none⟩ = some (.slice A2 x.heads.length c2) ∧ x.recs.length ≤ c1 ∧ x.heads.length ≤ c2 ∧ b < w.heap.size ∧
      RecRow w S (.slice A1 x.recs.length c1) x.recs ∧ HdRow w S (.slice A2 x.heads.length c2) x.heads := by
  obtain ⟨rv, hv, h1, h2, h3, h4⟩ := h
  obtain ⟨A1, c1, rfl, k1⟩ := h3.len
  obtain ⟨A2, c2, rfl, k2⟩ := h4.len
  exact ⟨A1, c1, A2, c2, h1.cell 0, h1.cell 1, k1, k2, h1.lt, h3, h4⟩

theorem len_ok {S : Nat → Prop} {b : Nat} {x : Lg} {w : World} (h : LogAt w S b x) :
    Calls Tryz.prog 14 #[.pointer (some ⟨b, 0, none⟩)] w fun e w' => e = .returned (.int .i64 (x.recs.length : Nat)) ∧ w' = w := by
  obtain ⟨A1, c1, A2, c2, h1, -, -, -, -, -, -⟩ := h.parts
  go_enter Tryz.func14, Tryz.ntmps14
  go_wp2_with fail
  go_ret
  exact ⟨rfl, rfl⟩
theorem len_nil (w : World) : Calls Tryz.prog 14 #[.pointer none] w fun e w' => e = .returned (.int .i64 0) ∧ w' = w := by
  go_enter Tryz.func14, Tryz.ntmps14
  go_wp2_with fail
  go_ret
  exact ⟨rfl, rfl⟩

/-- Head -/
def headA (x : Lg) (p : Int) : Hd × Bool := if 0 ≤ p ∧ p < (x.heads.length : Nat) then ((x.heads[p.toNat]?).getD hd0, true) else (hd0, false)
theorem headA_in {x : Lg} {k : Nat} {h : Hd} (e : x.heads[k]? = some h) : headA x k = (h, true) := by
  have := (List.getElem?_eq_some_iff.1 e).1
  unfold headA
  rw [if_pos (by omega), Int.toNat_natCast, e]
  rfl
theorem headA_out {x : Lg} {p : Int} (e : p < 0 ∨ (x.heads.length : Nat) ≤ p) : headA x p = (hd0, false) := if_neg (by omega)

set_option maxRecDepth 100000 in
set_option maxHeartbeats 4000000 in
theorem head_ok {S : Nat → Prop} {b : Nat} {x : Lg} {w : World} (h : LogAt w S b x) (p : Int) :
    Calls Tryz.prog 18 #[.pointer (some ⟨b, 0, none⟩), .int .i64 p] w fun e w' => e = .returned (.tuple #[hdV (headA x p).1, .bool (headA x p).2]) ∧ Below w.heap.size w w' := by
  obtain ⟨A1, c1, A2, c2, h1, h2, l1, l2, hb, hr, hh⟩ := h.parts
  have hb1 := fun o => Below.alloc (Below.refl w.heap.size w) (Nat.le_refl _) o
  have HB := Lib.hid hb1
  have n2 := World.new_ne w _ h2
  clear h1 l1 hr hb1
  by_cases hp : p < 0
  · rw [headA_out (.inl hp)]
    clear hh h2 n2
    go_enter Tryz.func18, Tryz.ntmps18
    go_wp2_with fail
    go_returns
    exact ⟨rfl, HB.out _⟩
  by_cases hq : ((x.heads.length : Nat) : Int) ≤ p
  · rw [headA_out (.inr hq)]
    have t1 : decide (((x.heads.length : Nat) : Int) ≤ p) = true := by simpa using hq
    clear hh
    go_enter Tryz.func18, Tryz.ntmps18
    go_wp2_with fail
    go_returns
    exact ⟨rfl, HB.out _⟩
  obtain ⟨k, rfl⟩ := Int.eq_ofNat_of_zero_le (show 0 ≤ p by omega)
  obtain ⟨y, hy⟩ : ∃ y, x.heads[k]? = some y := ⟨_, List.getElem?_eq_getElem (by omega)⟩
  rw [headA_in hy]
  obtain ⟨g, c, e0, hc, hg, -, k0, k1, k2⟩ := hh.at_ hy
  injection e0 with e1 e2 e3
  subst e1 e3
  have m0 := World.new_ne w _ k0
  have m1 := World.new_ne w _ k1
  have m2 := World.new_ne w _ k2
  have t1 : decide (x.heads.length ≤ k) = false := by simp; omega
  have q0 : (0 : Int) ≤ (k : Int) := by omega
  have q1 : (k : Int) < (x.heads.length : Int) := by omega
  obtain ⟨yp, yc, ys⟩ := y
  dsimp only at k0 k1 k2
  unfold hdV
  clear hh hy hq hp hc
  go_enter Tryz.func18, Tryz.ntmps18
  go_wp2_with fail
  go_returns
  exact ⟨rfl, HB.out _⟩
theorem head_nil (p : Int) (w : World) : Calls Tryz.prog 18 #[.pointer none, .int .i64 p] w fun e w' => e = .returned (.tuple #[hdV hd0, .bool false]) ∧ Below w.heap.size w w' := by
  have hb1 := fun o => Below.alloc (Below.refl w.heap.size w) (Nat.le_refl _) o
  have HB := Lib.hid hb1
  clear hb1
  go_enter Tryz.func18, Tryz.ntmps18
  go_wp2_with fail
  go_returns
  exact ⟨rfl, HB.out _⟩

set_option maxRecDepth 100000 in
set_option maxHeartbeats 4000000 in
theorem record_ok {S : Nat → Prop} {b : Nat} {x : Lg} {w : World} (h : LogAt w S b x) (good : Good x) (k : Nat) (r : Rec) (hk : x.recs[k]? = some r) :
    Calls Tryz.prog 20 #[.pointer (some ⟨b, 0, none⟩), .int .i64 ((k : Int) + 1)] w fun e w' => ∃ g c, e = .returned (.tuple #[recV r.pos (.slice (some ⟨g, 0, none⟩) r.chs.length c), .bool true]) ∧
      w'.ownsRow w.heap.size 72 10 (.slice (some ⟨g, 0, none⟩) r.chs.length c) r.chs.length (r.chs.flatMap chgCells) ∧ Below w.heap.size w w' := by
  obtain ⟨w0, hw0⟩ : ∃ W, W = w.alloc (.cells #[.int .i64 0, .slice none 0 0] 35) := ⟨_, rfl⟩
  have hb0 : Below w.heap.size w w0 := hw0 ▸ Below.alloc (Below.refl w.heap.size w) (Nat.le_refl _) _
  have hz : BlkIs w0 w.heap.size 35 [.int .i64 0, .slice none 0 0] := hw0 ▸ BlkIs.new w _ _
  have h0 := h.below hb0
  have hlen := len_ok h0
  obtain ⟨A1, c1, A2, c2, h1, -, l1, -, -, hr, -⟩ := h0.parts
  have hlt := (List.getElem?_eq_some_iff.1 hk).1
  have hsm := good.small
  obtain ⟨gr, cr, cv, e0, hcr, hgr, -, k0, k1, hcv⟩ := hr.at_ hk
  injection e0 with e1 e2 e3
  subst e1 e3
  obtain ⟨Av, cc, rfl, -⟩ := hcv.chgs
  obtain ⟨hrb, hrp⟩ := good.rec_ k r hk
  obtain ⟨-, -, r1, r8⟩ := recB_pos hrb
  have hown := own_ok r.pos Av cc r.chs w0 hcv.chgs r1 (by omega)
  have HZ := Lib.hid hz
  have HB := Lib.hid hb0
  have HO := Lib.hid hown
  have HLEN := Lib.hid hlen
  have HW := Lib.hid hw0
  have t1 : decide ((x.recs.length : Int) < (k : Int) + 1) = false := by simp; omega
  have t2 : decide (((k : Int) + 1) < 1) = false := by simp; omega
  have q0 : (0 : Int) ≤ (k : Int) := by omega
  have q1 : (k : Int) < (x.recs.length : Int) := by omega
  have q2 : (k : Int) + 1 - 1 = (k : Int) := by omega
  clear hz hb0 h h0 hr hk hcv hown hrb hrp hlen r1 r8 hw0
  unfold recV at HO ⊢
  go_enter Tryz.func20, Tryz.ntmps20
  go_wp2_with fail
  rw [← HW.out]
  refine (HLEN.out).mono ?_
  rintro e w1 ⟨rfl, rfl⟩
  go_wp2_with fail
  refine (HO.out).mono ?_
  rintro e w2 ⟨g, c, rfl, own2, b2⟩
  have hz2 := HZ.out.later b2
  have z0 : w2.cell? ⟨w.heap.size, 0, none⟩ = some (.int .i64 0) := hz2.cell 0
  have z1 : w2.cell? ⟨w.heap.size, 1, none⟩ = some (.slice none 0 0) := hz2.cell 1
  have f0 := hz2.frozen 0
  have f1 := hz2.frozen 1
  have hb2 := Below.next HB.out b2
  have hsz : w.heap.size < w1.heap.size := by rw [HW.out, World.size_alloc]; omega
  have hO : Only (fun k => k = w.heap.size) w2 ((w2.setCell ⟨w.heap.size, 0, none⟩ (.int .i64 r.pos)).setCell ⟨w.heap.size, 1, none⟩ (.slice (some ⟨g, 0, none⟩) r.chs.length c)) := by
    refine Only.trans (Only.setCell (S := fun k => k = w.heap.size) w2 ⟨w.heap.size, 0, none⟩ (.int .i64 r.pos) ?_) (Only.setCell (S := fun k => k = w.heap.size) _ ⟨w.heap.size, 1, none⟩ _ ?_) <;> rfl
  have own3 := ownsRow_same (S := fun k => w.heap.size + 1 ≤ k) own2 (.of_only hO (fun k hk => by omega)) (fun b hb => by have := (own2.lt b hb).1; omega)
  clear b2 own2
  go_wp2_with fail
  have hz3 := (hz2.set 0 (.int .i64 r.pos)).set 1 (.slice (some ⟨g, 0, none⟩) r.chs.length c)
  have hb3 := (hb2.setCell (p := ⟨w.heap.size, 0, none⟩) (Nat.le_refl _) (.int .i64 r.pos)).setCell (p := ⟨w.heap.size, 1, none⟩) (Nat.le_refl _) (.slice (some ⟨g, 0, none⟩) r.chs.length c)
  generalize (w2.setCell ⟨w.heap.size, 0, none⟩ (.int .i64 r.pos)).setCell ⟨w.heap.size, 1, none⟩ (.slice (some ⟨g, 0, none⟩) r.chs.length c) = w3 at *
  have y0 : w3.cell? ⟨w.heap.size, 0, none⟩ = some (.int .i64 r.pos) := hz3.cell 0
  have y1 : w3.cell? ⟨w.heap.size, 1, none⟩ = some (.slice (some ⟨g, 0, none⟩) r.chs.length c) := hz3.cell 1
  refine bodyPost_ret (by simp [results, Tryz.results20, go_sem, y0, y1]; try rfl) rfl ?_
  exact ⟨g, c, rfl, ownsRow_lower own3 (by omega), hb3⟩

theorem record_nil (w : World) : Calls Tryz.prog 20 #[.pointer none, .int .i64 1] w fun e w' => e = .returned (.tuple #[recV 0 (.slice none 0 0), .bool false]) ∧ Below w.heap.size w w' := by
  have hl := fun W => len_nil W
  have HL := Lib.hid hl
  have hb1 := fun o => Below.alloc (Below.refl w.heap.size w) (Nat.le_refl _) o
  have HB := Lib.hid hb1
  clear hb1 hl
  unfold recV
  go_enter Tryz.func20, Tryz.ntmps20
  go_wp2_with fail
  refine (HL.out _).mono ?_
  rintro e w1 ⟨rfl, rfl⟩
  go_wp2_with fail
  go_returns
  exact ⟨rfl, HB.out _⟩
end Go.Proofs.YtheebajklnljdaaGreatDoor
end

section
/- Append of a log: what its two appends keep (no program's walk). -/
namespace Go.Proofs.YtheebajklnljdaaGreatDoor
open Go Go.RowKit

theorem rows_apart2 {w : World} {base base' : Nat} {e e' : TypeId} {n n' : Nat} {v v' : Value} {k k' : Nat} {xs xs' : List Value} (h : w.ownsRow base e n v k xs) (h' : w.ownsRow base' e' n' v' k' xs') (he : e ≠ e') : v'.ownBlock = none ∨ v'.ownBlock ≠ v.ownBlock := by
  rcases h'.2 with ⟨rfl, _⟩ | ⟨g', cap', cur', rfl, _, hg', _⟩
  · exact .inl rfl
  · right
    rcases h.2 with ⟨rfl, _⟩ | ⟨g, cap, cur, rfl, _, hg, _⟩
    · simp [Value.ownBlock]
    · intro e1
      have e2 : g' = g := by simpa [Value.ownBlock] using e1
      subst e2
      have := hg.symm.trans hg'
      simp at this
      exact he this.2

theorem ownsRow_later {w w' : World} (hb : Below w.heap.size w w') {base : Nat} {e : TypeId} {n k : Nat} {v : Value} {xs : List Value} (hr : w.ownsRow base e n v k xs) : w'.ownsRow base e n v k xs :=
  ownsRow_same (S := fun _ => True) hr (.of_below hb) (fun _ _ => trivial)
theorem ChgsOwn.later {S : Nat → Prop} {w w' : World} {v : Value} {l : List Chg} (h : ChgsOwn w S v l) (hb : Below w.heap.size w w') : ChgsOwn w' S v l := ⟨ownsRow_later hb h.1, h.2⟩
theorem ChgsOwn.kept {S : Nat → Prop} {w w' : World} {row : Option Nat} {v : Value} {l : List Chg} (h : ChgsOwn w S v l) (hg : w.grownBy w' row) (hne : v.ownBlock = none ∨ v.ownBlock ≠ row) : ChgsOwn w' S v l := ⟨h.1.kept hg hne, h.2⟩

/-- between the steps of Append's last statement -/
structure AppJ (w : World) (S : Nat → Prop) (b : Nat) (rv hv : Value) (ps : List (Rec × Value)) (hs : List Hd) (R T : Nat → Prop) (v5 v6 : Value) (W : World) : Prop where
  only : Only S w W
  blk : BlkIs W b 81 [rv, hv]
  rrow : W.ownsRow 0 35 2 v5 ps.length (ps.flatMap recCells)
  rin : ∀ k, v5.ownBlock = some k → R k
  chs : ∀ p ∈ ps, ChgsOwn W R p.2 p.1.chs
  hrow : W.ownsRow 0 46 3 v6 hs.length (hs.flatMap hdCells)
  hin : ∀ k, v6.ownBlock = some k → T k

theorem AppJ.later {w : World} {S : Nat → Prop} {b : Nat} {rv hv : Value} {ps : List (Rec × Value)} {hs : List Hd} {R T : Nat → Prop} {v5 v6 : Value} {W W' : World} (h : AppJ w S b rv hv ps hs R T v5 v6 W) (hb : Below W.heap.size W W') :
    AppJ w S b rv hv ps hs R T v5 v6 W' :=
  ⟨h.only.trans (.of_below hb), h.blk.later hb, ownsRow_later hb h.rrow, h.rin, fun p hp => (h.chs p hp).later hb, ownsRow_later hb h.hrow, h.hin⟩
theorem Below.alloc1 (W : World) (o : Obj) : Below W.heap.size W (W.alloc o) := Below.alloc (Below.refl _ _) (Nat.le_refl _) o
theorem AppJ.drew {w : World} {S : Nat → Prop} {b : Nat} {rv hv : Value} {ps : List (Rec × Value)} {hs : List Hd} {R T : Nat → Prop} {v5 v6 : Value} {W : World} (h : AppJ w S b rv hv ps hs R T v5 v6 W) : AppJ w S b rv hv ps hs R T v5 v6 W.drew :=
  h.later (Below.drew (Below.refl _ _))

theorem AppJ.recd {w : World} {S : Nat → Prop} {b : Nat} {rv hv : Value} {ps : List (Rec × Value)} {hs : List Hd} {T : Nat → Prop} {v6 : Value} {W W' : World} (h : AppJ w S b rv hv ps hs S T rv v6 W) {r : Rec} {cv v' : Value}
    (hg : W.grownBy W' rv.ownBlock) (own : W'.ownsRow 0 35 2 v' (ps.length + 1) (ps.flatMap recCells ++ recCells (r, cv))) (hat : v'.ownBlock = rv.ownBlock ∨ v'.ownBlock = some W.heap.size) (hW : w.heap.size ≤ W.heap.size)
    (hc : ChgsOwn W (fun k => S k ∨ w.heap.size ≤ k) cv r.chs) : AppJ w S b rv hv (ps ++ [(r, cv)]) hs (fun k => S k ∨ w.heap.size ≤ k) T v' v6 W' := by
  have hkc : ∀ {v : Value} {l : List Chg} {Z : Nat → Prop}, ChgsOwn W Z v l → v.ownBlock = none ∨ v.ownBlock ≠ rv.ownBlock := fun hz => rows_apart2 h.rrow hz.1 (by decide)
  refine ⟨h.only.trans (Only.grown hg h.rin), (hg.block b h.blk.lt (h.blk.not_row (by decide) h.rrow)).trans h.blk, ?_, ?_, ?_, h.hrow.kept hg (rows_apart2 h.rrow h.hrow (by decide)), h.hin⟩
  · rw [List.length_append, List.length_singleton, List.flatMap_append]
    simpa using own
  · intro k hk
    rcases hat with e | e
    · exact .inl (h.rin k (e ▸ hk))
    · right
      rw [e] at hk
      cases hk
      exact hW
  · intro p hp
    rcases List.mem_append.1 hp with hp | hp
    · exact ((h.chs p hp).kept hg (hkc (h.chs p hp))).mono fun k hk => .inl hk
    · rw [List.mem_singleton] at hp
      subst hp
      exact hc.kept hg (hkc hc)

theorem AppJ.head {w : World} {S : Nat → Prop} {b : Nat} {rv hv : Value} {ps : List (Rec × Value)} {hs : List Hd} {R : Nat → Prop} {v5 : Value} {W W' : World} (h : AppJ w S b rv hv ps hs R S v5 hv W) {y : Hd} {v' : Value}
    (hg : W.grownBy W' hv.ownBlock) (own : W'.ownsRow 0 46 3 v' (hs.length + 1) (hs.flatMap hdCells ++ hdCells y)) (hat : v'.ownBlock = hv.ownBlock ∨ v'.ownBlock = some W.heap.size) (hW : w.heap.size ≤ W.heap.size) :
    AppJ w S b rv hv ps (hs ++ [y]) R (fun k => S k ∨ w.heap.size ≤ k) v5 v' W' := by
  refine ⟨h.only.trans (Only.grown hg h.hin), (hg.block b h.blk.lt (h.blk.not_row (by decide) h.hrow)).trans h.blk, h.rrow.kept hg (rows_apart2 h.hrow h.rrow (by decide)), h.rin, fun p hp => (h.chs p hp).kept hg (rows_apart2 h.hrow (h.chs p hp).1 (by decide)), ?_, ?_⟩
  · rw [List.length_append, List.length_singleton, List.flatMap_append]
    simpa using own
  · intro k hk
    rcases hat with e | e
    · exact .inl (h.hin k (e ▸ hk))
    · right
      rw [e] at hk
      cases hk
      exact hW

/-- the two stores -/
theorem AppJ.close {w : World} {S : Nat → Prop} {b : Nat} {rv hv : Value} {ps : List (Rec × Value)} {hs : List Hd} {v5 v6 : Value} {W : World} (hb : S b)
    (h : AppJ w S b rv hv ps hs (fun k => S k ∨ w.heap.size ≤ k) (fun k => S k ∨ w.heap.size ≤ k) v5 v6 W) :
    LogAt ((W.setCell ⟨b, 0, none⟩ v5).setCell ⟨b, 1, none⟩ v6) (fun k => S k ∨ w.heap.size ≤ k) b ⟨ps.map (·.1), hs⟩ ∧ Only S w ((W.setCell ⟨b, 0, none⟩ v5).setCell ⟨b, 1, none⟩ v6) := by
  have hO : Only (fun k => k = b) W ((W.setCell ⟨b, 0, none⟩ v5).setCell ⟨b, 1, none⟩ v6) := by
    refine Only.trans (Only.setCell (S := fun k => k = b) W ⟨b, 0, none⟩ v5 ?_) (Only.setCell (S := fun k => k = b) _ ⟨b, 1, none⟩ _ ?_) <;> rfl
  have hg : W.grownBy ((W.setCell ⟨b, 0, none⟩ v5).setCell ⟨b, 1, none⟩ v6) (some b) := ⟨hO.os, hO.tape, hO.output, hO.size, fun k hk hn => hO.block k hk fun e => hn (e ▸ rfl)⟩
  have hne : ∀ {base : Nat} {e : TypeId} {n k : Nat} {v : Value} {xs : List Value}, W.ownsRow base e n v k xs → 81 ≠ e → v.ownBlock = none ∨ v.ownBlock ≠ some b := fun hr he => .inr (h.blk.not_row he hr).symm
  refine ⟨⟨v5, v6, (h.blk.set 0 v5).set 1 v6, .inl hb, ⟨ps, rfl, h.rrow.kept hg (hne h.rrow (by decide)), h.rin, fun p hp => (h.chs p hp).kept hg (hne (h.chs p hp).1 (by decide))⟩, ⟨h.hrow.kept hg (hne h.hrow (by decide)), h.hin⟩⟩, ?_⟩
  exact h.only.trans (hO.mono fun k e => e ▸ hb)
end Go.Proofs.YtheebajklnljdaaGreatDoor
end

