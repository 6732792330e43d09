/- Joined: RowI LogB LogC LogD. -/
import Derived.Test.YtheebajklnljdaaDoorGg
import Derived.Test.YtheebajklnljdaaDoorQLogA
import Derived.Test.YtheebajklnljdaaDoorQLeaf
import Derived.Deep.RegionHeld3
import Derived.Test.YtheebajklnljdaaDoorGi

section
/- EncodeRecord. -/
namespace Go.Proofs.YtheebajklnljdaaDoor
open Go Go.RowKit
attribute [local go_sem] Oper.semAt_some

set_option maxRecDepth 100000 in
set_option maxHeartbeats 8000000 in
theorem enc_ok (p : Int) (A : Option Addr) (c : Nat) (l : List Chg) (w : World) (hv : ChgsAt w (.slice A l.length c) l) :
    Calls Tryd.prog 58 #[recV p (.slice A l.length c)] w fun e w' => e = .returned (.tuple #[.string (str (encRecE ⟨p, l⟩).1), .int .i64 (encRecE ⟨p, l⟩).2]) ∧ Below w.heap.size w w' := by
  obtain ⟨i0, hi0, hz0, hz1, hz2⟩ := info_int
  have hb1 := Below.alloc (Below.refl w.heap.size w) (Nat.le_refl _) (.cells #[.int .i64 p, .slice A l.length c] 34)
  have hval := recValid_ok p A c l _ (hv.below hb1)
  obtain ⟨R, hR⟩ : ∃ R, recB ⟨p, l⟩ = R := ⟨_, rfl⟩
  rw [hR] at hval
  have HVAL := Lib.hid hval
  have HV := Lib.hid hv
  have HB := Lib.hid hb1
  cases R
  · have he : encRecE ⟨p, l⟩ = ([], 30) := by unfold encRecE; rw [hR]; rfl
    rw [he]
    unfold recV
    unfold recV at HVAL
    clear hval hv hb1 hR he
    go_enter Tryd.func58, Tryd.ntmps58
    go_wp2_with fail
    refine (HVAL.out).mono ?_
    rintro e w1 ⟨rfl, b1⟩
    have hb2 := Below.next HB.out b1
    go_wp2_with fail
    go_ret2
    exact ⟨rfl, hb2⟩
  have he : encRecE ⟨p, l⟩ = (encRec ⟨p, l⟩, 0) := by unfold encRecE; rw [hR]; rfl
  obtain ⟨p1, p2, l1, l8⟩ := recB_pos hR
  dsimp only at p1 p2 l1 l8
  have hmem := recB_mem hR
  dsimp only at hmem
  have HMEM := Lib.hid hmem
  rw [he]
  unfold recV
  unfold recV at HVAL
  clear hval hv hb1 hR he hmem
  go_enter Tryd.func58, Tryd.ntmps58
  go_wp2_with fail
  refine (HVAL.out).mono ?_
  rintro e w1 ⟨rfl, b1⟩
  have h1 : BlkIs w1 w.heap.size 34 [.int .i64 p, .slice A l.length c] := (b1.block w.heap.size (by simp [World.size_alloc])).trans (World.alloc_heap_new w _)
  have c0 : w1.cell? ⟨w.heap.size, 0, none⟩ = some (.int .i64 p) := h1.cell 0
  have c1 : w1.cell? ⟨w.heap.size, 1, none⟩ = some (.slice A l.length c) := h1.cell 1
  have hb1 := Below.next HB.out b1
  have hle1 := hb1.size
  clear b1
  go_wp2_with fail
  refine (put_ok w1.heap.size 0 2 [p, ((l.length : Nat) : Int)] _ (by simp [World.size_alloc]) (by simp) ?_ ?_).mono ?_
  · intro n hn
    simp only [List.mem_cons, List.not_mem_nil, or_false] at hn
    rcases hn with rfl | rfl
    · exact ⟨by omega, by omega⟩
    · exact ⟨by omega, by omega⟩
  · intro j x hj
    match j, hj with
    | 0, hj => cases hj; rw [cell_of_row _ _ 0 _ _ _ (World.alloc_heap_new w1 _)]; rfl
    | 1, hj => cases hj; rw [cell_of_row _ _ 1 _ _ _ (World.alloc_heap_new w1 _)]; rfl
  rintro e w2 ⟨rfl, b2⟩
  have hlt1 := h1.lt
  have h2 : BlkIs w2 w.heap.size 34 [.int .i64 p, .slice A l.length c] := (b2.block w.heap.size (by rw [World.size_alloc]; omega)).trans ((Below.heap_alloc _ _ w.heap.size hlt1).trans h1)
  have d1 : w2.cell? ⟨w.heap.size, 1, none⟩ = some (.slice A l.length c) := h2.cell 1
  have hb2 := Below.next (Below.alloc hb1 hle1 _) b2
  clear b2 h1 c0 c1 hb1 h2
  rw [← encP_zero]
  go_wp2_with fail
  clear d1
  go_loopw [4, 22] (fun ov iv wr => ∃ k : Nat, k ≤ l.length ∧ iv = .int .i64 k ∧ ov = .string (str (encP p l k)) ∧ Below w.heap.size w wr) (fun _ iv _ => l.length - (intOf iv).toNat)
  case atStart => exact ⟨0, by omega, rfl, rfl, hb2⟩
  case round =>
    clear hb2
    obtain ⟨k, hk, rfl, rfl, hb⟩ := hrel
    by_cases h1 : k < l.length
    · have t1 : decide (k < l.length) = true := by simpa using h1
      obtain ⟨x, hx⟩ : ∃ x, l[k]? = some x := ⟨_, List.getElem?_eq_getElem h1⟩
      obtain ⟨A', c', hv, hc, hj⟩ := HV.out
      injection hv with e1 e2 e3
      subst e1 e3
      obtain ⟨g, o, rfl, hg, hj⟩ := hj (by omega)
      have hcell : ∀ (i : Nat) u, (chgCells x)[i]? = some u → wr.cell? ⟨g, o + k * 10 + i, none⟩ = some u := fun i u hu => (hb.cell (p := ⟨g, o + k * 10 + i, none⟩) hg).trans (hj k x hx i u hu)
      have hchg := HMEM.out x (List.mem_of_getElem? hx)
      obtain ⟨hh, v1, v2, v3, v4, v5⟩ := chgB_parts hchg
      have hP := encP_len p l k l8
      have hN := encP_succ p l k x hx
      have hxl := encChg_len x
      obtain ⟨P, hPe⟩ : ∃ P, P = encP p l k := ⟨_, rfl⟩
      rw [← hPe] at hP hN ⊢
      clear hPe hchg hj hx
      obtain ⟨t, ky, had, ⟨o0, o1, o2⟩, has, ⟨n0, n1, n2⟩⟩ := x
      dsimp only at hh v1 v2 v3 v4
      have hxe : encChg ⟨t, ky, had, (o0, o1, o2), has, (n0, n1, n2)⟩ = putsL [t, ky, flagsC ⟨t, ky, had, (o0, o1, o2), has, (n0, n1, n2)⟩] ++ putsL (valsC ⟨t, ky, had, (o0, o1, o2), has, (n0, n1, n2)⟩) := rfl
      have c0 : wr.cell? ⟨g, o + k * 10, none⟩ = some (.int .i64 t) := hcell 0 _ rfl
      have c1 : wr.cell? ⟨g, o + k * 10 + 1, none⟩ = some (.int .i64 ky) := hcell 1 _ rfl
      have c2 : wr.cell? ⟨g, o + k * 10 + 2, none⟩ = some (.bool had) := hcell 2 _ rfl
      have c3 : wr.cell? ⟨g, o + k * 10 + 3, none⟩ = some (.int .i64 o0) := hcell 3 _ rfl
      have c4 : wr.cell? ⟨g, o + k * 10 + 4, none⟩ = some (.int .i64 o1) := hcell 4 _ rfl
      have c5 : wr.cell? ⟨g, o + k * 10 + 5, none⟩ = some (.int .i64 o2) := hcell 5 _ rfl
      have c6 : wr.cell? ⟨g, o + k * 10 + 6, none⟩ = some (.bool has) := hcell 6 _ rfl
      have c7 : wr.cell? ⟨g, o + k * 10 + 7, none⟩ = some (.int .i64 n0) := hcell 7 _ rfl
      have c8 : wr.cell? ⟨g, o + k * 10 + 8, none⟩ = some (.int .i64 n1) := hcell 8 _ rfl
      have c9 : wr.cell? ⟨g, o + k * 10 + 9, none⟩ = some (.int .i64 n2) := hcell 9 _ rfl
      have q0 : (0 : Int) ≤ (k : Int) := by omega
      have q1 : (k : Int) < (l.length : Int) := by omega
      have hle := hb.size
      have hx0 := BlkIs.new wr 45 #[.int .i64 t, .int .i64 ky, .bool had, .int .i64 o0, .int .i64 o1, .int .i64 o2, .bool has, .int .i64 n0, .int .i64 n1, .int .i64 n2]
      dsimp only at hx0
      have hb0 := Below.alloc hb hle (.cells #[.int .i64 t, .int .i64 ky, .bool had, .int .i64 o0, .int .i64 o1, .int .i64 o2, .bool has, .int .i64 n0, .int .i64 n1, .int .i64 n2] 45)
      have hle0 := hb0.size
      have HN := Lib.hid hN
      have HXE := Lib.hid hxe
      have HV5 := Lib.hid v5
      clear hcell hN hxe v5
      cases had <;> cases has
      · simp at hh
      · go_wp2_with (at_builtin; refine wpList_append_own _ rfl _ _ 71 rfl w.heap.size 3 i0 (.int .i64 0) 1 8 Tryd.underlying71 hi0 hz0 hz1 hz2 rfl (by decide) (.slice none 0 0) 0 [] rfl (World.ownsRow_nil _ _ _ 1) ⟨wr.heap.size, 7, none⟩ 3 3 [.int .i64 n0, .int .i64 n1, .int .i64 n2] rfl rfl (blk_news hx0 7 [.int .i64 n0, .int .i64 n1, .int .i64 n2] rfl) (by simp [Value.oneCell']) (by unfold maxLen; omega) (by omega) (by first | omega | (simp; omega)) ?_; intro v5 w5 own5 g5 _; have hx5 := BlkIs.kept hx0 g5 (by simp [Value.ownBlock]); have hb5 := below_fresh hb0 hle0 g5 (fun k hk => by simp [Value.ownBlock] at hk); clear hx0 hb0 g5; have d0 : w5.cell? ⟨wr.heap.size, 0, none⟩ = some (.int .i64 t) := hx5.cell 0; have d1 : w5.cell? ⟨wr.heap.size, 1, none⟩ = some (.int .i64 ky) := hx5.cell 1; obtain ⟨gv, capv, csv, hve, hgb, hbv, hcn, hcm, _⟩ := ownsRow_blk own5 (by decide); subst hve; have HCV := Lib.hid (row_ints ([n0, n1, n2] : List Int) own5); have hltv := hbv.lt; clear own5 hbv hx5)
        have hok : ∀ y ∈ ([n0, n1, n2] : List Int), IntOk y := fun y hy => by
          have := HV5.out y hy
          exact ⟨by omega, by omega⟩
        have HOK := Lib.hid hok
        clear hok
        refine (put_ok w5.heap.size 0 3 [t, ky, 2] _ (by simp [World.size_alloc]) (by simp) ?_ ?_).mono ?_
        · intro y hy
          simp only [List.mem_cons, List.not_mem_nil, or_false] at hy
          rcases hy with rfl | rfl | rfl <;> exact ⟨by omega, by omega⟩
        · intro j y hj
          match j, hj with
          | 0, hj => cases hj; rw [cell_of_row _ _ 0 _ _ _ (World.alloc_heap_new w5 _)]; rfl
          | 1, hj => cases hj; rw [cell_of_row _ _ 1 _ _ _ (World.alloc_heap_new w5 _)]; rfl
          | 2, hj => cases hj; rw [cell_of_row _ _ 2 _ _ _ (World.alloc_heap_new w5 _)]; rfl
        rintro e w7 ⟨rfl, b7⟩
        have hle7 := hb5.size
        have hb7 := Below.next (Below.alloc hb5 hle7 _) b7
        have hlt7 : gv < w7.heap.size := by have := b7.size; rw [World.size_alloc] at this; omega
        have hcv7 : ∀ (j : Nat) y, ([n0, n1, n2] : List Int)[j]? = some y → w7.cell? ⟨gv, 0 + j, none⟩ = some (.int .i64 y) := fun j y hy =>
          (b7.cell (p := ⟨gv, 0 + j, none⟩) (Nat.lt_of_lt_of_le hltv (by rw [World.size_alloc]; omega))).trans ((World.cell?_of_block (Below.heap_alloc w5 _ gv hltv)).trans (HCV.out j y hy))
        have HCV7 := Lib.hid hcv7
        clear hcv7 d0 d1
        go_wp2_with fail
        refine (put_ok gv 0 capv [n0, n1, n2] _ hlt7 (by simp) HOK.out HCV7.out).mono ?_
        rintro e w8 ⟨rfl, b8⟩
        have hb8 := Below.next hb7 b8
        have hl3 := putsL_len [t, ky, 2]
        have hl4 := putsL_len [n0, n1, n2]
        simp only [List.length_cons, List.length_nil] at hl3 hl4
        have hcat1 : str (putsL [t, ky, 2]) ++ str (putsL [n0, n1, n2]) = str (encChg ⟨t, ky, false, (o0, o1, o2), true, (n0, n1, n2)⟩) := by rw [cat_str, HXE.out]; rfl
        have hcat2 : str P ++ (str (putsL [t, ky, 2]) ++ str (putsL [n0, n1, n2])) = str (encP p l (k + 1)) := by rw [hcat1, cat_str, HN.out]
        have s1 : ¬ 9223372036854775807 < (putsL [t, ky, 2]).length + (putsL [n0, n1, n2]).length := by omega
        have s2 : ¬ 9223372036854775807 < P.length + ((putsL [t, ky, 2]).length + (putsL [n0, n1, n2]).length) := by omega
        have HC2 := Lib.hid hcat2
        clear hcat1 hcat2
        go_wp2_with fail
        exact ⟨⟨k + 1, by omega, by go_num, by rw [← HC2.out], hb8⟩, by simp [intOf]; omega⟩
      · go_wp2_with (at_builtin; refine wpList_append_own _ rfl _ _ 71 rfl w.heap.size 3 i0 (.int .i64 0) 1 8 Tryd.underlying71 hi0 hz0 hz1 hz2 rfl (by decide) (.slice none 0 0) 0 [] rfl (World.ownsRow_nil _ _ _ 1) ⟨wr.heap.size, 3, none⟩ 3 3 [.int .i64 o0, .int .i64 o1, .int .i64 o2] rfl rfl (blk_news hx0 3 [.int .i64 o0, .int .i64 o1, .int .i64 o2] rfl) (by simp [Value.oneCell']) (by unfold maxLen; omega) (by omega) (by first | omega | (simp; omega)) ?_; intro v5 w5 own5 g5 _; have hx5 := BlkIs.kept hx0 g5 (by simp [Value.ownBlock]); have hb5 := below_fresh hb0 hle0 g5 (fun k hk => by simp [Value.ownBlock] at hk); have e6 : w5.cell? ⟨wr.heap.size, 6, none⟩ = some (.bool false) := hx5.cell 6; clear hx0 hb0 g5; have d0 : w5.cell? ⟨wr.heap.size, 0, none⟩ = some (.int .i64 t) := hx5.cell 0; have d1 : w5.cell? ⟨wr.heap.size, 1, none⟩ = some (.int .i64 ky) := hx5.cell 1; obtain ⟨gv, capv, csv, hve, hgb, hbv, hcn, hcm, _⟩ := ownsRow_blk own5 (by decide); subst hve; have HCV := Lib.hid (row_ints ([o0, o1, o2] : List Int) own5); have hltv := hbv.lt; clear own5 hbv hx5)
        have hok : ∀ y ∈ ([o0, o1, o2] : List Int), IntOk y := fun y hy => by
          have := HV5.out y hy
          exact ⟨by omega, by omega⟩
        have HOK := Lib.hid hok
        clear hok
        refine (put_ok w5.heap.size 0 3 [t, ky, 1] _ (by simp [World.size_alloc]) (by simp) ?_ ?_).mono ?_
        · intro y hy
          simp only [List.mem_cons, List.not_mem_nil, or_false] at hy
          rcases hy with rfl | rfl | rfl <;> exact ⟨by omega, by omega⟩
        · intro j y hj
          match j, hj with
          | 0, hj => cases hj; rw [cell_of_row _ _ 0 _ _ _ (World.alloc_heap_new w5 _)]; rfl
          | 1, hj => cases hj; rw [cell_of_row _ _ 1 _ _ _ (World.alloc_heap_new w5 _)]; rfl
          | 2, hj => cases hj; rw [cell_of_row _ _ 2 _ _ _ (World.alloc_heap_new w5 _)]; rfl
        rintro e w7 ⟨rfl, b7⟩
        have hle7 := hb5.size
        have hb7 := Below.next (Below.alloc hb5 hle7 _) b7
        have hlt7 : gv < w7.heap.size := by have := b7.size; rw [World.size_alloc] at this; omega
        have hcv7 : ∀ (j : Nat) y, ([o0, o1, o2] : List Int)[j]? = some y → w7.cell? ⟨gv, 0 + j, none⟩ = some (.int .i64 y) := fun j y hy =>
          (b7.cell (p := ⟨gv, 0 + j, none⟩) (Nat.lt_of_lt_of_le hltv (by rw [World.size_alloc]; omega))).trans ((World.cell?_of_block (Below.heap_alloc w5 _ gv hltv)).trans (HCV.out j y hy))
        have HCV7 := Lib.hid hcv7
        clear hcv7 d0 d1
        go_wp2_with fail
        refine (put_ok gv 0 capv [o0, o1, o2] _ hlt7 (by simp) HOK.out HCV7.out).mono ?_
        rintro e w8 ⟨rfl, b8⟩
        have hb8 := Below.next hb7 b8
        have hl3 := putsL_len [t, ky, 1]
        have hl4 := putsL_len [o0, o1, o2]
        simp only [List.length_cons, List.length_nil] at hl3 hl4
        have hcat1 : str (putsL [t, ky, 1]) ++ str (putsL [o0, o1, o2]) = str (encChg ⟨t, ky, true, (o0, o1, o2), false, (n0, n1, n2)⟩) := by rw [cat_str, HXE.out]; rfl
        have hcat2 : str P ++ (str (putsL [t, ky, 1]) ++ str (putsL [o0, o1, o2])) = str (encP p l (k + 1)) := by rw [hcat1, cat_str, HN.out]
        have s1 : ¬ 9223372036854775807 < (putsL [t, ky, 1]).length + (putsL [o0, o1, o2]).length := by omega
        have s2 : ¬ 9223372036854775807 < P.length + ((putsL [t, ky, 1]).length + (putsL [o0, o1, o2]).length) := by omega
        have HC2 := Lib.hid hcat2
        clear hcat1 hcat2
        go_wp2_with fail
        exact ⟨⟨k + 1, by omega, by go_num, by rw [← HC2.out], hb8⟩, by simp [intOf]; omega⟩
      · go_wp2_with (first | (at_builtin; refine wpList_append_own _ rfl _ _ 71 rfl w.heap.size 3 i0 (.int .i64 0) 1 8 Tryd.underlying71 hi0 hz0 hz1 hz2 rfl (by decide) (.slice none 0 0) 0 [] rfl (World.ownsRow_nil _ _ _ 1) ⟨wr.heap.size, 3, none⟩ 3 3 [.int .i64 o0, .int .i64 o1, .int .i64 o2] rfl rfl (blk_news hx0 3 [.int .i64 o0, .int .i64 o1, .int .i64 o2] rfl) (by simp [Value.oneCell']) (by unfold maxLen; omega) (by omega) (by first | omega | (simp; omega)) ?_; intro v5 w5 own5 g5 _; have hx5 := BlkIs.kept hx0 g5 (by simp [Value.ownBlock]); have hb5 := below_fresh hb0 hle0 g5 (fun k hk => by simp [Value.ownBlock] at hk); have hle5 := hb5.size; have e6 : w5.cell? ⟨wr.heap.size, 6, none⟩ = some (.bool true) := hx5.cell 6; clear hx0 hb0 g5) | (at_builtin; refine wpList_append_own _ rfl _ _ 71 rfl w.heap.size 3 i0 (.int .i64 0) 1 8 Tryd.underlying71 hi0 hz0 hz1 hz2 rfl (by decide) v5 3 [.int .i64 o0, .int .i64 o1, .int .i64 o2] rfl own5 ⟨wr.heap.size, 7, none⟩ 3 3 [.int .i64 n0, .int .i64 n1, .int .i64 n2] rfl rfl (blk_news hx5 7 [.int .i64 n0, .int .i64 n1, .int .i64 n2] rfl) (by simp [Value.oneCell']) (by unfold maxLen; omega) (by omega) (by first | omega | (simp; omega)) ?_; intro v6 w6 own6 g6 _; have hx6 := BlkIs.kept hx5 g6 (hx5.not_row (by decide) own5); have hb6 := below_fresh hb5 hle5 g6 (fun k hk => (own5.lt k hk).1); clear hx5 hb5 g6 own5 e6; have d0 : w6.cell? ⟨wr.heap.size, 0, none⟩ = some (.int .i64 t) := hx6.cell 0; have d1 : w6.cell? ⟨wr.heap.size, 1, none⟩ = some (.int .i64 ky) := hx6.cell 1; obtain ⟨gv, capv, csv, hve, hgb, hbv, hcn, hcm, _⟩ := ownsRow_blk own6 (by decide); subst hve; have HCV := Lib.hid (row_ints ([o0, o1, o2, n0, n1, n2] : List Int) own6); have hltv := hbv.lt; clear own6 hbv hx6))
        have hok : ∀ y ∈ ([o0, o1, o2, n0, n1, n2] : List Int), IntOk y := fun y hy => by
          have := HV5.out y hy
          exact ⟨by omega, by omega⟩
        have HOK := Lib.hid hok
        clear hok
        refine (put_ok w6.heap.size 0 3 [t, ky, 3] _ (by simp [World.size_alloc]) (by simp) ?_ ?_).mono ?_
        · intro y hy
          simp only [List.mem_cons, List.not_mem_nil, or_false] at hy
          rcases hy with rfl | rfl | rfl <;> exact ⟨by omega, by omega⟩
        · intro j y hj
          match j, hj with
          | 0, hj => cases hj; rw [cell_of_row _ _ 0 _ _ _ (World.alloc_heap_new w6 _)]; rfl
          | 1, hj => cases hj; rw [cell_of_row _ _ 1 _ _ _ (World.alloc_heap_new w6 _)]; rfl
          | 2, hj => cases hj; rw [cell_of_row _ _ 2 _ _ _ (World.alloc_heap_new w6 _)]; rfl
        rintro e w7 ⟨rfl, b7⟩
        have hle7 := hb6.size
        have hb7 := Below.next (Below.alloc hb6 hle7 _) b7
        have hlt7 : gv < w7.heap.size := by have := b7.size; rw [World.size_alloc] at this; omega
        have hcv7 : ∀ (j : Nat) y, ([o0, o1, o2, n0, n1, n2] : List Int)[j]? = some y → w7.cell? ⟨gv, 0 + j, none⟩ = some (.int .i64 y) := fun j y hy =>
          (b7.cell (p := ⟨gv, 0 + j, none⟩) (Nat.lt_of_lt_of_le hltv (by rw [World.size_alloc]; omega))).trans ((World.cell?_of_block (Below.heap_alloc w6 _ gv hltv)).trans (HCV.out j y hy))
        have HCV7 := Lib.hid hcv7
        clear hcv7 d0 d1
        go_wp2_with fail
        refine (put_ok gv 0 capv [o0, o1, o2, n0, n1, n2] _ hlt7 (by simp) HOK.out HCV7.out).mono ?_
        rintro e w8 ⟨rfl, b8⟩
        have hb8 := Below.next hb7 b8
        have hl3 := putsL_len [t, ky, 3]
        have hl4 := putsL_len [o0, o1, o2, n0, n1, n2]
        simp only [List.length_cons, List.length_nil] at hl3 hl4
        have hcat1 : str (putsL [t, ky, 3]) ++ str (putsL [o0, o1, o2, n0, n1, n2]) = str (encChg ⟨t, ky, true, (o0, o1, o2), true, (n0, n1, n2)⟩) := by rw [cat_str, HXE.out]; rfl
        have hcat2 : str P ++ (str (putsL [t, ky, 3]) ++ str (putsL [o0, o1, o2, n0, n1, n2])) = str (encP p l (k + 1)) := by rw [hcat1, cat_str, HN.out]
        have s1 : ¬ 9223372036854775807 < (putsL [t, ky, 3]).length + (putsL [o0, o1, o2, n0, n1, n2]).length := by omega
        have s2 : ¬ 9223372036854775807 < P.length + ((putsL [t, ky, 3]).length + (putsL [o0, o1, o2, n0, n1, n2]).length) := by omega
        have HC2 := Lib.hid hcat2
        clear hcat1 hcat2
        go_wp2_with fail
        exact ⟨⟨k + 1, by omega, by go_num, by rw [← HC2.out], hb8⟩, by simp [intOf]; omega⟩
    · have t1 : decide (k < l.length) = false := by simpa using h1
      have hr := encP_all p l k (by omega)
      have HR := Lib.hid hr
      clear hr
      go_wp2_with fail
      go_ret2
      exact ⟨by rw [← HR.out]; rfl, hb⟩
end Go.Proofs.YtheebajklnljdaaDoor
end

section
/- Next. -/
namespace Go.Proofs.YtheebajklnljdaaDoor
open Go Go.RowKit
attribute [local go_sem] Oper.semAt_some

theorem chain_str (s t : List UInt8) (w : World) (hs : s.length + t.length ≤ 900000) (hR : RoundOk w) :
    Calls Tryd.prog 59 #[.string (str s), .string (str t)] w fun e w' => e = .returned (.string (str (chainL s t))) ∧ Below w.heap.size w w' := by
  have h := chain_ok (str s) (str t) w (by rw [size_mk, size_mk]; exact hs) hR
  rw [mk_toList, mk_toList] at h
  exact h

def hd3 (x y z : Value) : Array Value := #[x, y, z]

set_option maxRecDepth 100000 in
set_option maxHeartbeats 8000000 in
theorem next_ok (h : Hd) (p : Int) (A : Option Addr) (c : Nat) (l : List Chg) (st : List UInt8) (w : World) (hv : ChgsAt w (.slice A l.length c) l) (hR : RoundOk w) :
    Calls Tryd.prog 36 #[hdV h, recV p (.slice A l.length c), .string (str st)] w fun e w' => e = .returned (.tuple #[hdV (nextA h ⟨p, l⟩ st).1, .int .i64 (nextA h ⟨p, l⟩ st).2]) ∧ Below w.heap.size w w' := by
  obtain ⟨hp, hc, hs⟩ := h
  obtain ⟨W0, hW0⟩ : ∃ W, W = (((w.alloc (.cells #[.int .i64 hp, .string (str hc), .string (str hs)] 23)).alloc (.cells #[.int .i64 p, .slice A l.length c] 34)).alloc (.cells #[.int .i64 0, .string ⟨#[]⟩, .string ⟨#[]⟩] 23)) := ⟨_, rfl⟩
  have hb0 : Below w.heap.size w W0 := by
    rw [hW0]
    exact Below.alloc (Below.alloc (Below.alloc (Below.refl w.heap.size w) (Nat.le_refl _) _) (by rw [World.size_alloc]; omega) _) (by rw [World.size_alloc, World.size_alloc]; omega) _
  have sz0 : W0.heap.size = w.heap.size + 3 := by rw [hW0]; simp [World.size_alloc]
  have k0 : BlkIs W0 w.heap.size 23 [.int .i64 hp, .string (str hc), .string (str hs)] := by
    rw [hW0]; exact ((BlkIs.new w _ _).alloc _).alloc _
  have k1 : BlkIs W0 (w.heap.size + 1) 34 [.int .i64 p, .slice A l.length c] := by
    rw [hW0]; exact BlkIs.alloc (alloc_new_at _ _ _ (by rw [World.size_alloc])) _
  have k2 : BlkIs W0 (w.heap.size + 2) 23 [.int .i64 0, .string ⟨#[]⟩, .string ⟨#[]⟩] := by
    rw [hW0]; exact alloc_new_at _ _ _ (by rw [World.size_alloc, World.size_alloc])
  have henc := enc_ok p A c l W0 (hv.below hb0)
  have KEEP : ∀ W : World, Below W0.heap.size W0 W → BlkIs W w.heap.size 23 [.int .i64 hp, .string (str hc), .string (str hs)] ∧ BlkIs W (w.heap.size + 1) 34 [.int .i64 p, .slice A l.length c] ∧ BlkIs W (w.heap.size + 2) 23 [.int .i64 0, .string ⟨#[]⟩, .string ⟨#[]⟩] ∧ Below w.heap.size w W := fun W hW =>
    ⟨k0.later hW, k1.later hW, k2.later hW, Below.next hb0 hW⟩
  have hval := fun W => hvalid_ok ⟨hp, hc, hs⟩ W
  have hdig := fun W => hdig_ok st W
  have ROUND := Lib.hid (fun (W : World) (hW : Below w.heap.size w W) => hR.later hW)
  have HVAL := Lib.hid hval
  have HDIG := Lib.hid hdig
  have HENC := Lib.hid henc
  have HK := Lib.hid KEEP
  have HW0 := Lib.hid hW0
  clear hval hdig henc KEEP k0 k1 k2 hb0 hv hR
  unfold hdV at HVAL ⊢
  unfold recV at HENC ⊢
  dsimp only at HVAL ⊢
  by_cases B1 : recB ⟨p, l⟩ = true
  case neg =>
    have he : encRecE ⟨p, l⟩ = ([], 30) := if_neg B1
    have hn : nextA ⟨hp, hc, hs⟩ ⟨p, l⟩ st = (hd0, 90) := by
      unfold nextA; rw [Bool.not_eq_true] at B1; rw [B1]; rfl
    rw [he] at HENC
    rw [hn]
    clear B1 he hn
    go_enter Tryd.func36, Tryd.ntmps36
    go_wp2_with fail
    rw [← HW0.out]
    refine (HENC.out).mono ?_
    rintro e w1 ⟨rfl, b1⟩
    obtain ⟨q0, q1, q2, hb1⟩ := HK.out w1 b1
    have a0 : w1.cell? ⟨w.heap.size, 0, none⟩ = some (.int .i64 hp) := q0.cell 0
    have a1 : w1.cell? ⟨w.heap.size, 1, none⟩ = some (.string (str hc)) := q0.cell 1
    have a2 : w1.cell? ⟨w.heap.size, 2, none⟩ = some (.string (str hs)) := q0.cell 2
    have r0 : w1.cell? ⟨w.heap.size + 1, 0, none⟩ = some (.int .i64 p) := q1.cell 0
    have z0 : w1.cell? ⟨w.heap.size + 2, 0, none⟩ = some (.int .i64 0) := q2.cell 0
    have z1 : w1.cell? ⟨w.heap.size + 2, 1, none⟩ = some (.string ⟨#[]⟩) := q2.cell 1
    have z2 : w1.cell? ⟨w.heap.size + 2, 2, none⟩ = some (.string ⟨#[]⟩) := q2.cell 2
    have f0 := q2.frozen 0
    have f1 := q2.frozen 1
    have f2 := q2.frozen 2
    have hz3 := ((q2.set 0 (.int .i64 0)).set 1 (.string ⟨#[]⟩)).set 2 (.string ⟨#[]⟩)
    have hbF := ((hb1.setCell (p := ⟨w.heap.size + 2, 0, none⟩) (by simp) (.int .i64 0)).setCell (p := ⟨w.heap.size + 2, 1, none⟩) (by simp) (.string ⟨#[]⟩)).setCell (p := ⟨w.heap.size + 2, 2, none⟩) (by simp) (.string ⟨#[]⟩)
    go_wp2_with fail
    generalize ((w1.setCell ⟨w.heap.size + 2, 0, none⟩ (.int .i64 0)).setCell ⟨w.heap.size + 2, 1, none⟩ (.string ⟨#[]⟩)).setCell ⟨w.heap.size + 2, 2, none⟩ (.string ⟨#[]⟩) = wF at *
    have y0 : wF.cell? ⟨w.heap.size + 2, 0, none⟩ = some (.int .i64 0) := hz3.cell 0
    have y1 : wF.cell? ⟨w.heap.size + 2, 1, none⟩ = some (.string ⟨#[]⟩) := hz3.cell 1
    have y2 : wF.cell? ⟨w.heap.size + 2, 2, none⟩ = some (.string ⟨#[]⟩) := hz3.cell 2
    refine bodyPost_ret (by simp [results, Tryd.results36, go_sem, y0, y1, y2]; try rfl) rfl ?_
    exact ⟨rfl, hbF⟩
  have he : encRecE ⟨p, l⟩ = (encRec ⟨p, l⟩, 0) := if_pos B1
  have hel := encRec_len B1
  obtain ⟨p1, p2, -, -⟩ := recB_pos B1
  dsimp only at p1 p2
  rw [he] at HENC
  clear he
  by_cases B2 : hdB ⟨hp, hc, hs⟩ = true
  case neg =>
    rw [Bool.not_eq_true] at B2
    have hn : nextA ⟨hp, hc, hs⟩ ⟨p, l⟩ st = (hd0, 90) := by
      unfold nextA; rw [B1, B2]; rfl
    rw [B2] at HVAL
    rw [hn]
    clear B1 B2 hn hel
    go_enter Tryd.func36, Tryd.ntmps36
    go_wp2_with fail
    rw [← HW0.out]
    refine (HENC.out).mono ?_
    rintro e w1 ⟨rfl, b1⟩
    obtain ⟨q0, q1, q2, hb1⟩ := HK.out w1 b1
    have a0 : w1.cell? ⟨w.heap.size, 0, none⟩ = some (.int .i64 hp) := q0.cell 0
    have a1 : w1.cell? ⟨w.heap.size, 1, none⟩ = some (.string (str hc)) := q0.cell 1
    have a2 : w1.cell? ⟨w.heap.size, 2, none⟩ = some (.string (str hs)) := q0.cell 2
    have r0 : w1.cell? ⟨w.heap.size + 1, 0, none⟩ = some (.int .i64 p) := q1.cell 0
    have z0 : w1.cell? ⟨w.heap.size + 2, 0, none⟩ = some (.int .i64 0) := q2.cell 0
    have z1 : w1.cell? ⟨w.heap.size + 2, 1, none⟩ = some (.string ⟨#[]⟩) := q2.cell 1
    have z2 : w1.cell? ⟨w.heap.size + 2, 2, none⟩ = some (.string ⟨#[]⟩) := q2.cell 2
    have f0 := q2.frozen 0
    have f1 := q2.frozen 1
    have f2 := q2.frozen 2
    go_wp2_with fail
    refine (HVAL.out _).mono ?_
    rintro e w2 ⟨rfl, b2⟩
    have b12 := Below.next b1 b2
    clear hb1 b1 b2
    clear a0 a1 a2 r0 z0 z1 z2 f0 f1 f2 q0 q1 q2
    obtain ⟨q0, q1, q2, hb2⟩ := HK.out w2 b12
    have a0 : w2.cell? ⟨w.heap.size, 0, none⟩ = some (.int .i64 hp) := q0.cell 0
    have a1 : w2.cell? ⟨w.heap.size, 1, none⟩ = some (.string (str hc)) := q0.cell 1
    have a2 : w2.cell? ⟨w.heap.size, 2, none⟩ = some (.string (str hs)) := q0.cell 2
    have r0 : w2.cell? ⟨w.heap.size + 1, 0, none⟩ = some (.int .i64 p) := q1.cell 0
    have z0 : w2.cell? ⟨w.heap.size + 2, 0, none⟩ = some (.int .i64 0) := q2.cell 0
    have z1 : w2.cell? ⟨w.heap.size + 2, 1, none⟩ = some (.string ⟨#[]⟩) := q2.cell 1
    have z2 : w2.cell? ⟨w.heap.size + 2, 2, none⟩ = some (.string ⟨#[]⟩) := q2.cell 2
    have f0 := q2.frozen 0
    have f1 := q2.frozen 1
    have f2 := q2.frozen 2
    have hz3 := ((q2.set 0 (.int .i64 0)).set 1 (.string ⟨#[]⟩)).set 2 (.string ⟨#[]⟩)
    have hbF := ((hb2.setCell (p := ⟨w.heap.size + 2, 0, none⟩) (by simp) (.int .i64 0)).setCell (p := ⟨w.heap.size + 2, 1, none⟩) (by simp) (.string ⟨#[]⟩)).setCell (p := ⟨w.heap.size + 2, 2, none⟩) (by simp) (.string ⟨#[]⟩)
    go_wp2_with fail
    generalize ((w2.setCell ⟨w.heap.size + 2, 0, none⟩ (.int .i64 0)).setCell ⟨w.heap.size + 2, 1, none⟩ (.string ⟨#[]⟩)).setCell ⟨w.heap.size + 2, 2, none⟩ (.string ⟨#[]⟩) = wF at *
    have y0 : wF.cell? ⟨w.heap.size + 2, 0, none⟩ = some (.int .i64 0) := hz3.cell 0
    have y1 : wF.cell? ⟨w.heap.size + 2, 1, none⟩ = some (.string ⟨#[]⟩) := hz3.cell 1
    have y2 : wF.cell? ⟨w.heap.size + 2, 2, none⟩ = some (.string ⟨#[]⟩) := hz3.cell 2
    refine bodyPost_ret (by simp [results, Tryd.results36, go_sem, y0, y1, y2]; try rfl) rfl ?_
    exact ⟨rfl, hbF⟩
  obtain ⟨h1, h2, h3, -⟩ := hdB_parts B2
  dsimp only at h1 h2 h3
  rw [B2] at HVAL
  by_cases B3 : st.length = 32
  case neg =>
    have hn : nextA ⟨hp, hc, hs⟩ ⟨p, l⟩ st = (hd0, 90) := by
      unfold nextA; rw [B1, B2, decide_eq_false B3]; rfl
    rw [decide_eq_false B3] at HDIG
    rw [hn]
    clear B1 B2 B3 hn hel h3
    go_enter Tryd.func36, Tryd.ntmps36
    go_wp2_with fail
    rw [← HW0.out]
    refine (HENC.out).mono ?_
    rintro e w1 ⟨rfl, b1⟩
    obtain ⟨q0, q1, q2, hb1⟩ := HK.out w1 b1
    have a0 : w1.cell? ⟨w.heap.size, 0, none⟩ = some (.int .i64 hp) := q0.cell 0
    have a1 : w1.cell? ⟨w.heap.size, 1, none⟩ = some (.string (str hc)) := q0.cell 1
    have a2 : w1.cell? ⟨w.heap.size, 2, none⟩ = some (.string (str hs)) := q0.cell 2
    have r0 : w1.cell? ⟨w.heap.size + 1, 0, none⟩ = some (.int .i64 p) := q1.cell 0
    have z0 : w1.cell? ⟨w.heap.size + 2, 0, none⟩ = some (.int .i64 0) := q2.cell 0
    have z1 : w1.cell? ⟨w.heap.size + 2, 1, none⟩ = some (.string ⟨#[]⟩) := q2.cell 1
    have z2 : w1.cell? ⟨w.heap.size + 2, 2, none⟩ = some (.string ⟨#[]⟩) := q2.cell 2
    have f0 := q2.frozen 0
    have f1 := q2.frozen 1
    have f2 := q2.frozen 2
    go_wp2_with fail
    refine (HVAL.out _).mono ?_
    rintro e w2 ⟨rfl, b2⟩
    have b12 := Below.next b1 b2
    clear hb1 b1 b2
    clear a0 a1 a2 r0 z0 z1 z2 f0 f1 f2 q0 q1 q2
    go_wp2_with fail
    refine (HDIG.out _).mono ?_
    rintro e w3 ⟨rfl, rfl⟩
    obtain ⟨q0, q1, q2, hb3⟩ := HK.out w3 b12
    have a0 : w3.cell? ⟨w.heap.size, 0, none⟩ = some (.int .i64 hp) := q0.cell 0
    have a1 : w3.cell? ⟨w.heap.size, 1, none⟩ = some (.string (str hc)) := q0.cell 1
    have a2 : w3.cell? ⟨w.heap.size, 2, none⟩ = some (.string (str hs)) := q0.cell 2
    have r0 : w3.cell? ⟨w.heap.size + 1, 0, none⟩ = some (.int .i64 p) := q1.cell 0
    have z0 : w3.cell? ⟨w.heap.size + 2, 0, none⟩ = some (.int .i64 0) := q2.cell 0
    have z1 : w3.cell? ⟨w.heap.size + 2, 1, none⟩ = some (.string ⟨#[]⟩) := q2.cell 1
    have z2 : w3.cell? ⟨w.heap.size + 2, 2, none⟩ = some (.string ⟨#[]⟩) := q2.cell 2
    have f0 := q2.frozen 0
    have f1 := q2.frozen 1
    have f2 := q2.frozen 2
    have hz3 := ((q2.set 0 (.int .i64 0)).set 1 (.string ⟨#[]⟩)).set 2 (.string ⟨#[]⟩)
    have hbF := ((hb3.setCell (p := ⟨w.heap.size + 2, 0, none⟩) (by simp) (.int .i64 0)).setCell (p := ⟨w.heap.size + 2, 1, none⟩) (by simp) (.string ⟨#[]⟩)).setCell (p := ⟨w.heap.size + 2, 2, none⟩) (by simp) (.string ⟨#[]⟩)
    go_wp2_with fail
    generalize ((w3.setCell ⟨w.heap.size + 2, 0, none⟩ (.int .i64 0)).setCell ⟨w.heap.size + 2, 1, none⟩ (.string ⟨#[]⟩)).setCell ⟨w.heap.size + 2, 2, none⟩ (.string ⟨#[]⟩) = wF at *
    have y0 : wF.cell? ⟨w.heap.size + 2, 0, none⟩ = some (.int .i64 0) := hz3.cell 0
    have y1 : wF.cell? ⟨w.heap.size + 2, 1, none⟩ = some (.string ⟨#[]⟩) := hz3.cell 1
    have y2 : wF.cell? ⟨w.heap.size + 2, 2, none⟩ = some (.string ⟨#[]⟩) := hz3.cell 2
    refine bodyPost_ret (by simp [results, Tryd.results36, go_sem, y0, y1, y2]; try rfl) rfl ?_
    exact ⟨rfl, hbF⟩
  rw [decide_eq_true B3] at HDIG
  by_cases B4 : p = hp + 1
  case neg =>
    have hn : nextA ⟨hp, hc, hs⟩ ⟨p, l⟩ st = (hd0, 90) := by
      unfold nextA; rw [B1, B2, decide_eq_true B3, decide_eq_false B4]; rfl
    have t4 : (p != hp + 1) = true := by simpa using B4
    rw [hn]
    clear B1 B2 B3 B4 hn hel h3
    go_enter Tryd.func36, Tryd.ntmps36
    go_wp2_with fail
    rw [← HW0.out]
    refine (HENC.out).mono ?_
    rintro e w1 ⟨rfl, b1⟩
    obtain ⟨q0, q1, q2, hb1⟩ := HK.out w1 b1
    have a0 : w1.cell? ⟨w.heap.size, 0, none⟩ = some (.int .i64 hp) := q0.cell 0
    have a1 : w1.cell? ⟨w.heap.size, 1, none⟩ = some (.string (str hc)) := q0.cell 1
    have a2 : w1.cell? ⟨w.heap.size, 2, none⟩ = some (.string (str hs)) := q0.cell 2
    have r0 : w1.cell? ⟨w.heap.size + 1, 0, none⟩ = some (.int .i64 p) := q1.cell 0
    have z0 : w1.cell? ⟨w.heap.size + 2, 0, none⟩ = some (.int .i64 0) := q2.cell 0
    have z1 : w1.cell? ⟨w.heap.size + 2, 1, none⟩ = some (.string ⟨#[]⟩) := q2.cell 1
    have z2 : w1.cell? ⟨w.heap.size + 2, 2, none⟩ = some (.string ⟨#[]⟩) := q2.cell 2
    have f0 := q2.frozen 0
    have f1 := q2.frozen 1
    have f2 := q2.frozen 2
    go_wp2_with fail
    refine (HVAL.out _).mono ?_
    rintro e w2 ⟨rfl, b2⟩
    have b12 := Below.next b1 b2
    clear hb1 b1 b2
    clear a0 a1 a2 r0 z0 z1 z2 f0 f1 f2 q0 q1 q2
    go_wp2_with fail
    refine (HDIG.out _).mono ?_
    rintro e w3 ⟨rfl, rfl⟩
    obtain ⟨q0, q1, q2, hb3⟩ := HK.out w3 b12
    have a0 : w3.cell? ⟨w.heap.size, 0, none⟩ = some (.int .i64 hp) := q0.cell 0
    have a1 : w3.cell? ⟨w.heap.size, 1, none⟩ = some (.string (str hc)) := q0.cell 1
    have a2 : w3.cell? ⟨w.heap.size, 2, none⟩ = some (.string (str hs)) := q0.cell 2
    have r0 : w3.cell? ⟨w.heap.size + 1, 0, none⟩ = some (.int .i64 p) := q1.cell 0
    have z0 : w3.cell? ⟨w.heap.size + 2, 0, none⟩ = some (.int .i64 0) := q2.cell 0
    have z1 : w3.cell? ⟨w.heap.size + 2, 1, none⟩ = some (.string ⟨#[]⟩) := q2.cell 1
    have z2 : w3.cell? ⟨w.heap.size + 2, 2, none⟩ = some (.string ⟨#[]⟩) := q2.cell 2
    have f0 := q2.frozen 0
    have f1 := q2.frozen 1
    have f2 := q2.frozen 2
    have hz3 := ((q2.set 0 (.int .i64 0)).set 1 (.string ⟨#[]⟩)).set 2 (.string ⟨#[]⟩)
    have hbF := ((hb3.setCell (p := ⟨w.heap.size + 2, 0, none⟩) (by simp) (.int .i64 0)).setCell (p := ⟨w.heap.size + 2, 1, none⟩) (by simp) (.string ⟨#[]⟩)).setCell (p := ⟨w.heap.size + 2, 2, none⟩) (by simp) (.string ⟨#[]⟩)
    go_wp2_with fail
    generalize ((w3.setCell ⟨w.heap.size + 2, 0, none⟩ (.int .i64 0)).setCell ⟨w.heap.size + 2, 1, none⟩ (.string ⟨#[]⟩)).setCell ⟨w.heap.size + 2, 2, none⟩ (.string ⟨#[]⟩) = wF at *
    have y0 : wF.cell? ⟨w.heap.size + 2, 0, none⟩ = some (.int .i64 0) := hz3.cell 0
    have y1 : wF.cell? ⟨w.heap.size + 2, 1, none⟩ = some (.string ⟨#[]⟩) := hz3.cell 1
    have y2 : wF.cell? ⟨w.heap.size + 2, 2, none⟩ = some (.string ⟨#[]⟩) := hz3.cell 2
    refine bodyPost_ret (by simp [results, Tryd.results36, go_sem, y0, y1, y2]; try rfl) rfl ?_
    exact ⟨rfl, hbF⟩
  · have hn : nextA ⟨hp, hc, hs⟩ ⟨p, l⟩ st = (⟨p, chainL hc (encRec ⟨p, l⟩), st⟩, 0) := by
      unfold nextA; rw [B1, B2, decide_eq_true B3, decide_eq_true B4]; rfl
    have t4 : (p != hp + 1) = false := by simpa using B4
    rw [hn]
    obtain ⟨E, hE⟩ : ∃ E, E = encRec ⟨p, l⟩ := ⟨_, rfl⟩
    rw [← hE] at hel HENC ⊢
    have hch : ∀ W : World, W.cell? ⟨w.heap.size + 1, 0, none⟩ = some (.int .i64 p) → W.cell? ⟨w.heap.size, 1, none⟩ = some (.string (str hc)) → Below W0.heap.size W0 W → Calls Tryd.prog 59 #[.string (str hc), .string (str E)] W fun e w' => e = .returned (.string (str (chainL hc E))) ∧ w'.cell? ⟨w.heap.size + 1, 0, none⟩ = some (.int .i64 p) ∧ w'.cell? ⟨w.heap.size, 1, none⟩ = some (.string (str hc)) ∧ Below W0.heap.size W0 w' := by
      intro W g1 g2 g3
      refine (chain_str hc E W (by omega) (ROUND.out W (HK.out W g3).2.2.2)).mono fun e w' ⟨he, hb⟩ => ⟨he, (hb.cell (block_of_cell g1)).trans g1, (hb.cell (block_of_cell g2)).trans g2, Below.next g3 hb⟩
    have HCH := Lib.hid hch
    clear B1 B2 B3 B4 hn hE hch hel h3
    go_enter Tryd.func36, Tryd.ntmps36
    go_wp2_with fail
    rw [← HW0.out]
    refine (HENC.out).mono ?_
    rintro e w1 ⟨rfl, b1⟩
    obtain ⟨q0, q1, q2, hb1⟩ := HK.out w1 b1
    have a0 : w1.cell? ⟨w.heap.size, 0, none⟩ = some (.int .i64 hp) := q0.cell 0
    have a1 : w1.cell? ⟨w.heap.size, 1, none⟩ = some (.string (str hc)) := q0.cell 1
    have a2 : w1.cell? ⟨w.heap.size, 2, none⟩ = some (.string (str hs)) := q0.cell 2
    have r0 : w1.cell? ⟨w.heap.size + 1, 0, none⟩ = some (.int .i64 p) := q1.cell 0
    have z0 : w1.cell? ⟨w.heap.size + 2, 0, none⟩ = some (.int .i64 0) := q2.cell 0
    have z1 : w1.cell? ⟨w.heap.size + 2, 1, none⟩ = some (.string ⟨#[]⟩) := q2.cell 1
    have z2 : w1.cell? ⟨w.heap.size + 2, 2, none⟩ = some (.string ⟨#[]⟩) := q2.cell 2
    have f0 := q2.frozen 0
    have f1 := q2.frozen 1
    have f2 := q2.frozen 2
    go_wp2_with fail
    refine (HVAL.out _).mono ?_
    rintro e w2 ⟨rfl, b2⟩
    have b12 := Below.next b1 b2
    clear hb1 b1 b2
    clear a0 a1 a2 r0 z0 z1 z2 f0 f1 f2 q0 q1 q2
    go_wp2_with fail
    refine (HDIG.out _).mono ?_
    rintro e w3 ⟨rfl, rfl⟩
    obtain ⟨q0, q1, q2, hb3⟩ := HK.out w3 b12
    have a0 : w3.cell? ⟨w.heap.size, 0, none⟩ = some (.int .i64 hp) := q0.cell 0
    have a1 : w3.cell? ⟨w.heap.size, 1, none⟩ = some (.string (str hc)) := q0.cell 1
    have a2 : w3.cell? ⟨w.heap.size, 2, none⟩ = some (.string (str hs)) := q0.cell 2
    have r0 : w3.cell? ⟨w.heap.size + 1, 0, none⟩ = some (.int .i64 p) := q1.cell 0
    have z0 : w3.cell? ⟨w.heap.size + 2, 0, none⟩ = some (.int .i64 0) := q2.cell 0
    have z1 : w3.cell? ⟨w.heap.size + 2, 1, none⟩ = some (.string ⟨#[]⟩) := q2.cell 1
    have z2 : w3.cell? ⟨w.heap.size + 2, 2, none⟩ = some (.string ⟨#[]⟩) := q2.cell 2
    have f0 := q2.frozen 0
    have f1 := q2.frozen 1
    have f2 := q2.frozen 2
    go_wp2_with fail
    clear z0 z1 z2 f0 f1 f2 q0 q1 q2 hb3
    go_region_law (go_simp; go_at_call 59; refine (HCH.out _ ?_ ?_ ?_).mono ?_; (first | assumption | (simp [*]; done)); (first | assumption | (simp [*]; done)); (first | assumption | exact Below.drew (by assumption)); rintro e w4 ⟨rfl, g1, g2, g3⟩; obtain ⟨q0, q1, q2, hb4⟩ := HK.out w4 g3; have z0 : w4.cell? ⟨w.heap.size + 2, 0, none⟩ = some (.int .i64 0) := q2.cell 0; have z1 : w4.cell? ⟨w.heap.size + 2, 1, none⟩ = some (.string ⟨#[]⟩) := q2.cell 1; have z2 : w4.cell? ⟨w.heap.size + 2, 2, none⟩ = some (.string ⟨#[]⟩) := q2.cell 2; have f0 := q2.frozen 0; have f1 := q2.frozen 1; have f2 := q2.frozen 2)
    all_goals
      have hz3 := ((q2.set 0 (.int .i64 p)).set 1 (.string (str (chainL hc E)))).set 2 (.string (str st))
      have hbF := ((hb4.setCell (p := ⟨w.heap.size + 2, 0, none⟩) (by simp) (.int .i64 p)).setCell (p := ⟨w.heap.size + 2, 1, none⟩) (by simp) (.string (str (chainL hc E)))).setCell (p := ⟨w.heap.size + 2, 2, none⟩) (by simp) (.string (str st))
      go_wp2_with fail
      generalize ((w4.setCell ⟨w.heap.size + 2, 0, none⟩ (.int .i64 p)).setCell ⟨w.heap.size + 2, 1, none⟩ (.string (str (chainL hc E)))).setCell ⟨w.heap.size + 2, 2, none⟩ (.string (str st)) = wF at *
      have y0 : wF.cell? ⟨w.heap.size + 2, 0, none⟩ = some (.int .i64 p) := hz3.cell 0
      have y1 : wF.cell? ⟨w.heap.size + 2, 1, none⟩ = some (.string (str (chainL hc E))) := hz3.cell 1
      have y2 : wF.cell? ⟨w.heap.size + 2, 2, none⟩ = some (.string (str st)) := hz3.cell 2
      refine bodyPost_ret (by simp [results, Tryd.results36, go_sem, y0, y1, y2]; try rfl) rfl ?_
      exact ⟨rfl, hbF⟩
end Go.Proofs.YtheebajklnljdaaDoor
end

section
/- Verify and New of the log; slices.Clone of changes; own. -/
namespace Go.Proofs.YtheebajklnljdaaDoor
open Go Go.RowKit
attribute [local go_sem] Oper.semAt_some

/-- Verify -/
def verA (root : List UInt8) (n : Int) (h : Hd) (p : List (List UInt8)) : Bool := hdB h && (decide (h.pos ≤ n) && decide (n ≤ 10000)) && verB root (n + 1) h.pos (encHd h) p

set_option maxRecDepth 100000 in
set_option maxHeartbeats 4000000 in
theorem lverify_ok (root : ByteArray) (n : Int) (h : Hd) (v : Value) (p : List (List UInt8)) (w : World) (hv : ListAt w v p) (hpl : p.length ≤ 100) (hR : RoundOk w) :
    Calls Tryd.prog 27 #[.string root, .int .i64 n, hdV h, v] w fun e w' => e = .returned (.bool (verA root.data.toList n h p)) ∧ Below w.heap.size w w' := by
  have henc := fun W => hencode_ok h W
  have hb1 := fun o => Below.alloc (Below.refl w.heap.size w) (Nat.le_refl _) o
  by_cases B1 : hdB h = true
  case neg =>
    have hE : encA h = ([], 90) := if_neg B1
    have hr : verA root.data.toList n h p = false := by unfold verA; rw [Bool.not_eq_true] at B1; rw [B1]; rfl
    rw [hr]
    rw [hE] at henc
    have HE := Lib.hid henc
    have HB := Lib.hid hb1
    clear henc hb1 hE hr B1 hv hR
    unfold hdV
    unfold hdV at HE
    go_enter Tryd.func27, Tryd.ntmps27
    go_wp2_with fail
    refine (HE.out _).mono ?_
    rintro e w1 ⟨rfl, b1⟩
    have hb2 := Below.next (HB.out _) b1
    go_wp2_with fail
    go_ret
    exact ⟨rfl, hb2⟩
  obtain ⟨h1, h2, -, -⟩ := hdB_parts B1
  have hl := encHd_len B1
  have hE : encA h = (encHd h, 0) := if_pos B1
  rw [hE] at henc
  have hr : verA root.data.toList n h p = ((decide (h.pos ≤ n) && decide (n ≤ 10000)) && verB root.data.toList (n + 1) h.pos (encHd h) p) := by unfold verA; rw [B1, Bool.true_and]
  rw [hr]
  obtain ⟨E, hEE⟩ : ∃ E, E = encHd h := ⟨_, rfl⟩
  rw [← hEE] at hl henc ⊢
  obtain ⟨hp, hc, hs⟩ := h
  dsimp only at h1 h2 ⊢
  clear hE hr hEE B1
  by_cases k1 : hp ≤ n
  case neg =>
    have t1 : decide (hp ≤ n) = false := by simpa using k1
    rw [t1, Bool.false_and, Bool.false_and]
    have HE := Lib.hid henc
    have HB := Lib.hid hb1
    clear henc hb1 hv hR k1
    unfold hdV
    unfold hdV at HE
    dsimp only at HE ⊢
    go_enter Tryd.func27, Tryd.ntmps27
    go_wp2_with fail
    refine (HE.out _).mono ?_
    rintro e w1 ⟨rfl, b1⟩
    have c0 : w1.cell? ⟨w.heap.size, 0, none⟩ = some (.int .i64 hp) := by rw [b1.cell (by simp), cell_of_row _ _ 0 _ _ _ (World.alloc_heap_new w _)]; rfl
    have hb2 := Below.next (HB.out _) b1
    go_wp2_with fail
    go_ret
    exact ⟨rfl, hb2⟩
  by_cases k2 : n ≤ 10000
  case neg =>
    have t1 : decide (hp ≤ n) = true := by simpa using k1
    have t2 : decide (n ≤ 10000) = false := by simpa using k2
    rw [t1, t2, Bool.and_false, Bool.false_and]
    have HE := Lib.hid henc
    have HB := Lib.hid hb1
    clear henc hb1 hv hR k1 k2
    unfold hdV
    unfold hdV at HE
    dsimp only at HE ⊢
    go_enter Tryd.func27, Tryd.ntmps27
    go_wp2_with fail
    refine (HE.out _).mono ?_
    rintro e w1 ⟨rfl, b1⟩
    have c0 : w1.cell? ⟨w.heap.size, 0, none⟩ = some (.int .i64 hp) := by rw [b1.cell (by simp), cell_of_row _ _ 0 _ _ _ (World.alloc_heap_new w _)]; rfl
    have hb2 := Below.next (HB.out _) b1
    go_wp2_with fail
    go_ret
    exact ⟨rfl, hb2⟩
  have t1 : decide (hp ≤ n) = true := by simpa using k1
  have t2 : decide (n ≤ 10000) = true := by simpa using k2
  rw [t1, t2, Bool.and_self, Bool.true_and]
  have hver : ∀ W, Below w.heap.size w W → Calls Tryd.prog 51 #[.string root, .int .i64 (n + 1), .int .i64 hp, .string (str E), v] W fun e w' => e = .returned (.bool (verB root.data.toList (n + 1) hp E p)) ∧ Below W.heap.size W w' := by
    intro W hW
    have := ver_any root (str E) (n + 1) hp v p W (hv.below hW) (by omega) hpl (by rw [size_mk]; omega) (hR.later hW)
    rwa [mk_toList] at this
  have HE := Lib.hid henc
  have HB := Lib.hid hb1
  have HV := Lib.hid hver
  clear henc hb1 hv hR hver hl
  unfold hdV
  unfold hdV at HE
  dsimp only at HE ⊢
  go_enter Tryd.func27, Tryd.ntmps27
  go_wp2_with fail
  refine (HE.out _).mono ?_
  rintro e w1 ⟨rfl, b1⟩
  have c0 : w1.cell? ⟨w.heap.size, 0, none⟩ = some (.int .i64 hp) := by rw [b1.cell (by simp), cell_of_row _ _ 0 _ _ _ (World.alloc_heap_new w _)]; rfl
  have hb2 := Below.next (HB.out _) b1
  go_wp2_with fail
  refine (HV.out _ hb2).mono ?_
  rintro e w2 ⟨rfl, b2⟩
  have hb3 := Below.next hb2 b2
  go_wp2_with fail
  go_ret
  exact ⟨rfl, hb3⟩

theorem Tryd.infoChg : (Tryd.prog.info? 45).map (fun i => (i.zero, i.size, i.bytes)) = some (some (.agg #[.int .i64 0, .int .i64 0, .bool false, .int .i64 0, .int .i64 0, .int .i64 0, .bool false, .int .i64 0, .int .i64 0, .int .i64 0]), 10, 80) := by kernel_rfl
theorem info_chg : ∃ i, Tryd.prog.info? 45 = some i ∧ i.zero = some (.agg #[.int .i64 0, .int .i64 0, .bool false, .int .i64 0, .int .i64 0, .int .i64 0, .bool false, .int .i64 0, .int .i64 0, .int .i64 0]) ∧ i.size = 10 ∧ i.bytes = 80 := by
  obtain ⟨i0, hi, hz0, hz1, hz2⟩ := info_parts Tryd.infoChg
  exact ⟨i0, hi, hz0, hz1, hz2⟩
theorem Tryd.infoRec : (Tryd.prog.info? 34).map (fun i => (i.zero, i.size, i.bytes)) = some (some (.agg #[.int .i64 0, .slice none 0 0]), 2, 32) := by kernel_rfl
theorem info_rec : ∃ i, Tryd.prog.info? 34 = some i ∧ i.zero = some (.agg #[.int .i64 0, .slice none 0 0]) ∧ i.size = 2 ∧ i.bytes = 32 := by
  obtain ⟨i0, hi, hz0, hz1, hz2⟩ := info_parts Tryd.infoRec
  exact ⟨i0, hi, hz0, hz1, hz2⟩
theorem Tryd.infoHd : (Tryd.prog.info? 23).map (fun i => (i.zero, i.size, i.bytes)) = some (some (.agg #[.int .i64 0, .string ⟨#[]⟩, .string ⟨#[]⟩]), 3, 40) := by kernel_rfl
theorem info_hd : ∃ i, Tryd.prog.info? 23 = some i ∧ i.zero = some (.agg #[.int .i64 0, .string ⟨#[]⟩, .string ⟨#[]⟩]) ∧ i.size = 3 ∧ i.bytes = 40 := by
  obtain ⟨i0, hi, hz0, hz1, hz2⟩ := info_parts Tryd.infoHd
  exact ⟨i0, hi, hz0, hz1, hz2⟩

theorem chgs_one (l : List Chg) : ∀ u ∈ l.flatMap chgCells, u.oneCell' = true := by
  intro u hu
  obtain ⟨c, _, h⟩ := List.mem_flatMap.1 hu
  unfold chgCells at h
  simp only [List.mem_cons, List.not_mem_nil, or_false] at h
  rcases h with rfl | rfl | rfl | rfl | rfl | rfl | rfl | rfl | rfl | rfl <;> rfl

/-- the cells of a list of changes -/
theorem chgs_cells {w : World} {g o : Nat} {l : List Chg} (h : ∀ (j : Nat) x, l[j]? = some x → ∀ (i : Nat) u, (chgCells x)[i]? = some u → w.cell? ⟨g, o + j * 10 + i, none⟩ = some u) :
    ∀ (j : Nat) u, (l.flatMap chgCells)[j]? = some u → w.cell? ((⟨g, o, none⟩ : Addr).add j) = some u := by
  intro j u hu
  rw [add_off]
  have hlt := (List.getElem?_eq_some_iff.1 hu).1
  rw [flat_len chgCells 10 chgCells_len] at hlt
  have h10 : j / 10 < l.length := by omega
  obtain ⟨x, hx⟩ : ∃ x, l[j / 10]? = some x := ⟨_, List.getElem?_eq_getElem h10⟩
  have hi : j % 10 < (chgCells x).length := by rw [chgCells_len]; omega
  have hu2 := flat_get chgCells 10 chgCells_len l (j / 10) (j % 10) x _ hx (List.getElem?_eq_getElem hi)
  rw [show j / 10 * 10 + j % 10 = j by omega] at hu2
  rw [hu2] at hu
  cases hu
  have := h (j / 10) x hx (j % 10) _ (List.getElem?_eq_getElem hi)
  rw [show o + j / 10 * 10 + j % 10 = o + j by omega] at this
  exact this

set_option maxRecDepth 100000 in
set_option maxHeartbeats 4000000 in
theorem clone_ok (A : Option Addr) (c : Nat) (l : List Chg) (w : World) (hv : ChgsAt w (.slice A l.length c) l) (h1 : 1 ≤ l.length) (h8 : l.length ≤ 1000) :
    Calls Tryd.prog 54 #[.slice A l.length c] w fun e w' => ∃ v', e = .returned v' ∧ w'.ownsRow w.heap.size 45 10 v' l.length (l.flatMap chgCells) ∧ Below w.heap.size w w' := by
  obtain ⟨i0, hi, hz0, hz1, hz2⟩ := info_chg
  obtain ⟨A', c', e0, hc, hj⟩ := hv
  injection e0 with e1 e2 e3
  subst e1 e3
  obtain ⟨g, o, rfl, hg, hj⟩ := hj (by omega)
  have q := fun (w : World) (a : Option Addr) (n c n' c' : Nat) => Lib.run_eql_slice_nil w 32 45 a n c n' c' Tryd.underlying32
  have hcells : ∀ o, ∀ (j : Nat) u, (l.flatMap chgCells)[j]? = some u → (w.alloc o).cell? ((⟨g, _, none⟩ : Addr).add j) = some u := fun ob j u hu => (World.cell?_of_block (by rw [block_add]; exact Below.heap_alloc w ob g hg)).trans (chgs_cells hj j u hu)
  have HC := Lib.hid hcells
  clear hj hcells
  go_enter Tryd.func54, Tryd.ntmps54
  go_wp2_with (at_builtin; refine wpList_append_own _ rfl _ _ 32 rfl w.heap.size 45 i0 (.agg #[.int .i64 0, .int .i64 0, .bool false, .int .i64 0, .int .i64 0, .int .i64 0, .bool false, .int .i64 0, .int .i64 0, .int .i64 0]) 10 80 Tryd.underlying32 hi hz0 hz1 hz2 rfl (by decide) _ _ _ rfl (World.ownsRow_made w #[] 0 (Nat.le_refl _) (Nat.zero_le _) rfl) ⟨g, o, none⟩ l.length c (l.flatMap chgCells) rfl (flat_len chgCells 10 chgCells_len l) (HC.out _) (chgs_one l) (by unfold maxLen; omega) (by omega) (by simp) ?_; intro v' w1 hown hgrow hnil)
  go_ret
  refine ⟨v', rfl, by simpa using hown, ?_⟩
  have hg2 : (w.alloc (.cells #[] 45)).grownBy w1 (some w.heap.size) := hgrow
  exact ((Below.refl _ w).alloc (Nat.le_refl _) _).grown hg2 (by simp) (by intro k hk; cases hk; exact Nat.le_refl _)
end Go.Proofs.YtheebajklnljdaaDoor
end

section
/- own; New; Len, Head, Record of a log. -/
namespace Go.Proofs.YtheebajklnljdaaDoor
open Go Go.RowKit
attribute [local go_sem] Oper.semAt_some

theorem ownsRow_lower {w : World} {base base' : Nat} {e : TypeId} {size : Nat} {v : Value} {n : Nat} {xs : List Value} (h : w.ownsRow base e size v n xs) (hb : base' ≤ base) : w.ownsRow base' e size v n xs := by
  refine ⟨h.1, ?_⟩
  rcases h.2 with h0 | ⟨g, cap, cur, hv, h1, rest⟩
  · exact .inl h0
  · exact .inr ⟨g, cap, cur, hv, Nat.le_trans hb h1, rest⟩

set_option maxRecDepth 100000 in
set_option maxHeartbeats 4000000 in
theorem own_ok (p : Int) (A : Option Addr) (c : Nat) (l : List Chg) (w : World) (hv : ChgsAt w (.slice A l.length c) l) (h1 : 1 ≤ l.length) (h8 : l.length ≤ 1000) :
    Calls Tryd.prog 33 #[recV p (.slice A l.length c)] w fun e w' => ∃ g' c', e = .returned (recV p (.slice (some ⟨g', 0, none⟩) l.length c')) ∧ w'.ownsRow w.heap.size 45 10 (.slice (some ⟨g', 0, none⟩) l.length c') l.length (l.flatMap chgCells) ∧ Below w.heap.size w w' := by
  have hb2 : Below w.heap.size w ((w.alloc (.cells #[.int .i64 p, .slice A l.length c] 34)).alloc (.cells #[.int .i64 0, .slice none 0 0] 34)) := Below.alloc (Below.alloc (Below.refl w.heap.size w) (Nat.le_refl _) _) (by rw [World.size_alloc]; omega) _
  have hcl := clone_ok A c l _ (hv.below hb2) h1 h8
  have HCL := Lib.hid hcl
  have HB := Lib.hid hb2
  clear hv hcl hb2
  unfold recV
  go_enter Tryd.func33, Tryd.ntmps33
  go_wp2_with fail
  refine (HCL.out).mono ?_
  rintro e w1 ⟨v', rfl, own1, b1⟩
  obtain ⟨g', c', rfl, -, -⟩ := World.ownsRow.form own1 (by omega)
  have h0 : BlkIs w1 w.heap.size 34 [.int .i64 p, .slice A l.length c] := (b1.block w.heap.size (by simp [World.size_alloc]; omega)).trans ((Below.heap_alloc _ _ w.heap.size (by rw [World.size_alloc]; omega)).trans (World.alloc_heap_new w _))
  have hz : BlkIs w1 (w.heap.size + 1) 34 [.int .i64 0, .slice none 0 0] := (b1.block (w.heap.size + 1) (by simp [World.size_alloc])).trans (alloc_new_at _ _ _ (by rw [World.size_alloc]))
  have c0 : w1.cell? ⟨w.heap.size, 0, none⟩ = some (.int .i64 p) := h0.cell 0
  have c1 : w1.cell? ⟨w.heap.size, 1, none⟩ = some (.slice A l.length c) := h0.cell 1
  have f1 := h0.frozen 1
  have z0 : w1.cell? ⟨w.heap.size + 1, 0, none⟩ = some (.int .i64 0) := hz.cell 0
  have z1 : w1.cell? ⟨w.heap.size + 1, 1, none⟩ = some (.slice none 0 0) := hz.cell 1
  have g0 := hz.frozen 0
  have g1 := hz.frozen 1
  have hb3 := Below.next HB.out b1
  have own0 : w1.ownsRow (w.heap.size + 2) 45 10 (.slice (some ⟨g', 0, none⟩) l.length c') l.length (l.flatMap chgCells) := by
    have : (((w.alloc (.cells #[.int .i64 p, .slice A l.length c] 34)).alloc (.cells #[.int .i64 0, .slice none 0 0] 34)).heap.size) = w.heap.size + 2 := by simp [World.size_alloc]
    rw [← this]; exact own1
  clear b1 own1
  go_wp2_with fail
  have hz3 := ((hz.other (p := ⟨w.heap.size, 1, none⟩) (by simp) (.slice (some ⟨g', 0, none⟩) l.length c')).set 0 (.int .i64 p)).set 1 (.slice (some ⟨g', 0, none⟩) l.length c')
  have hb4 := ((hb3.setCell (p := ⟨w.heap.size, 1, none⟩) (Nat.le_refl _) (.slice (some ⟨g', 0, none⟩) l.length c')).setCell (p := ⟨w.heap.size + 1, 0, none⟩) (by simp) (.int .i64 p)).setCell (p := ⟨w.heap.size + 1, 1, none⟩) (by simp) (.slice (some ⟨g', 0, none⟩) l.length c')
  have hO : Only (fun k => k = w.heap.size ∨ k = w.heap.size + 1) w1 (((w1.setCell ⟨w.heap.size, 1, none⟩ (.slice (some ⟨g', 0, none⟩) l.length c')).setCell ⟨w.heap.size + 1, 0, none⟩ (.int .i64 p)).setCell ⟨w.heap.size + 1, 1, none⟩ (.slice (some ⟨g', 0, none⟩) l.length c')) :=
    ((Only.setCell _ _ _ (.inl rfl)).trans (Only.setCell _ _ _ (.inr rfl))).trans (Only.setCell _ _ _ (.inr rfl))
  have own3 := ownsRow_same (S := fun k => w.heap.size + 2 ≤ k) own0 (.of_only hO (fun k hk => by omega)) (fun b hb => (own0.lt b hb).1)
  generalize (((w1.setCell ⟨w.heap.size, 1, none⟩ (.slice (some ⟨g', 0, none⟩) l.length c')).setCell ⟨w.heap.size + 1, 0, none⟩ (.int .i64 p)).setCell ⟨w.heap.size + 1, 1, none⟩ (.slice (some ⟨g', 0, none⟩) l.length c')) = w3 at *
  have y0 : w3.cell? ⟨w.heap.size + 1, 0, none⟩ = some (.int .i64 p) := hz3.cell 0
  have y1 : w3.cell? ⟨w.heap.size + 1, 1, none⟩ = some (.slice (some ⟨g', 0, none⟩) l.length c') := hz3.cell 1
  refine bodyPost_ret (by simp [results, Tryd.results33, go_sem, y0, y1]; try rfl) rfl ?_
  refine ⟨g', c', rfl, ownsRow_lower own3 (by omega), hb4⟩

/-- New -/
theorem new_ok (st : List UInt8) (w : World) (hst : st.length = 32) :
    Calls Tryd.prog 24 #[.string (str st)] w fun e w' => ∃ b, e = .returned (.tuple #[.pointer (some ⟨b, 0, none⟩), .int .i64 0]) ∧ LogAt w' (fun k => w.heap.size ≤ k) b (newLg st) ∧ Below w.heap.size w w' := by
  have hd := fun W => hdig_ok st W
  rw [decide_eq_true hst] at hd
  have hrep := fun W => Tryd.strings_Repeat_main ⟨#[0]⟩ 32 W (by decide) (by decide) (by decide) (by decide)
  have e32 : (⟨(Lib.repeatL (⟨#[0]⟩ : ByteArray).data.toList 32).toArray⟩ : ByteArray) = str zero32 := by decide
  rw [e32] at hrep
  have HD := Lib.hid hd
  have HREP := Lib.hid hrep
  clear hd hrep e32
  go_enter Tryd.func24, Tryd.ntmps24
  go_wp2_with fail
  refine (HD.out _).mono ?_
  rintro e w1 ⟨rfl, rfl⟩
  go_wp2_with fail
  refine (HREP.out _).mono ?_
  rintro e w2 ⟨rfl, b2⟩
  have hle := b2.size
  go_wp2_with fail
  go_ret2
  have hrow : ((w2.alloc (.cells #[.int .i64 0, .string (str zero32), .string (str st)] 23)).alloc (.cells #[.slice none 0 0, .slice (some ⟨w2.heap.size, 0, none⟩) 1 1] 75)).heap[w2.heap.size]? = some (.cells #[.int .i64 0, .string (str zero32), .string (str st)] 23 (0, 0)) :=
    (Below.heap_alloc _ _ w2.heap.size (by rw [World.size_alloc]; omega)).trans (World.alloc_heap_new w2 _)
  refine ⟨w2.heap.size + 1, rfl, ⟨.slice none 0 0, .slice (some ⟨w2.heap.size, 0, none⟩) 1 1, alloc_new_at _ _ _ (by rw [World.size_alloc]), by omega, RecRow.nil _ _, ⟨⟨rfl, .inr ⟨w2.heap.size, 1, _, rfl, Nat.zero_le _, hrow, Nat.le_refl _, by unfold maxLen; omega, rfl, rfl⟩⟩, ?_⟩⟩, ?_⟩
  · intro b hb
    cases hb
    exact hle
  · exact Below.alloc (Below.alloc b2 hle _) (by rw [World.size_alloc]; omega) _

theorem new_no (st : List UInt8) (w : World) (hst : st.length ≠ 32) :
    Calls Tryd.prog 24 #[.string (str st)] w fun e w' => e = .returned (.tuple #[.pointer none, .int .i64 90]) ∧ w' = w := by
  have hd := fun W => hdig_ok st W
  rw [decide_eq_false hst] at hd
  have HD := Lib.hid hd
  clear hd
  go_enter Tryd.func24, Tryd.ntmps24
  go_wp2_with fail
  refine (HD.out _).mono ?_
  rintro e w1 ⟨rfl, rfl⟩
  go_wp2_with fail
  go_ret2
  exact ⟨rfl, rfl⟩
end Go.Proofs.YtheebajklnljdaaDoor
end

