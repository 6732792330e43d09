/- Joined: TreH Sides VerA DgM. -/
import Derived.Test.YtheebajklnljdaaGreatDoorGh
import Derived.Test.YtheebajklnljdaaGreatDoorGc
import Derived.Test.YtheebajklnljdaaGreatDoorGe
import Derived.StillTailTactics
import Derived.Deep.RegionHeld3
import Derived.Deep.AppendLies

section
/- Proof and Extension where they refuse or have nothing to prove; Extension. -/
namespace Go.Proofs.YtheebajklnljdaaGreatDoor
open Go Go.RowKit

theorem proof_no (a : Option Addr) (n c : Nat) (i : Int) (w : World) (hi : i < 0 ∨ (n : Int) ≤ i) :
    Calls Tryz.prog 51 #[.slice a n c, .int .i64 i] w fun e w' => e = .returned (.tuple #[.slice none 0 0, .int .i64 2]) ∧ w = w' := by
  by_cases h : i < 0
  · have t0 : decide (i < 0) = true := by simp; omega
    go_enter Tryz.func51, Tryz.ntmps51
    go_wp2_with fail
    go_step3
    go_wp2_with fail
    rw [Exit.noGoto_ret]
    go_ret2
    exact ⟨rfl, rfl⟩
  · have t0 : decide (i < 0) = false := by simp; omega
    have t1 : decide ((n : Int) ≤ i) = true := by simp; omega
    go_enter Tryz.func51, Tryz.ntmps51
    go_wp2_with fail
    go_step3
    go_wp2_with fail
    rw [Exit.noGoto_ret]
    go_ret2
    exact ⟨rfl, rfl⟩

theorem ext_no (a : Option Addr) (n c : Nat) (i : Int) (w : World) (hi : i < 0 ∨ (n : Int) < i) :
    Calls Tryz.prog 53 #[.slice a n c, .int .i64 i] w fun e w' => e = .returned (.tuple #[.slice none 0 0, .int .i64 2]) ∧ w = w' := by
  by_cases h : i < 0
  · have t0 : decide (i < 0) = true := by simp; omega
    go_enter Tryz.func53, Tryz.ntmps53
    go_wp2_with fail
    go_ret2
    exact ⟨rfl, rfl⟩
  · have t0 : decide (i < 0) = false := by simp; omega
    have t1 : decide ((n : Int) < i) = true := by simp; omega
    go_enter Tryz.func53, Tryz.ntmps53
    go_wp2_with fail
    go_ret2
    exact ⟨rfl, rfl⟩

theorem ext_zero (a : Option Addr) (n c : Nat) (w : World) :
    Calls Tryz.prog 53 #[.slice a n c, .int .i64 0] w fun e w' => e = .returned (.tuple #[.slice none 0 0, .int .i64 0]) ∧ w = w' := by
  go_enter Tryz.func53, Tryz.ntmps53
  go_wp2_with fail
  go_ret2
  exact ⟨rfl, rfl⟩

set_option maxRecDepth 100000 in
set_option maxHeartbeats 4000000 in
theorem ext_ok (g o n c : Nat) (l : List (List UInt8)) (m : Nat) (w : World) (hv : RowsAt w g o n c l) (hn : n ≤ 1000000) (hm1 : 1 ≤ m) (hmn : m ≤ n) (hs : ∀ x ∈ l, x.length ≤ 900000) (hR : RoundOk w) :
    Calls Tryz.prog 53 #[.slice (some ⟨g, o, none⟩) n c, .int .i64 m] w fun e w' => ∃ v, e = .returned (.tuple #[v, .int .i64 0]) ∧ w'.ownsRow w.heap.size 9 1 v (extL l m).length (svs (extL l m)) ∧ Below w.heap.size w w' := by
  obtain ⟨i0, hi0, hz0, hz1, hz2⟩ := info_str
  have t0 : decide ((m : Int) < 0) = false := by simp
  have t1 : decide (n < m) = false := by simp; omega
  have t2 : ((m : Int) == 0) = false := by simp; omega
  have hel : extL l m = partL l m true := by unfold extL; rw [if_neg (by omega)]
  have HEL := Lib.hid hel
  have HS := Lib.hid hs
  clear hs hel
  go_enter Tryz.func53, Tryz.ntmps53
  go_wp2_with fail
  go_loopw [0, 1, 6, 7] (fun lv iv ov bv wr => ∃ (o' n' c' m' : Nat) (b : Bool) (l' out : List (List UInt8)), lv = .slice (some ⟨g, o', none⟩) n' c' ∧ iv = .int .i64 m' ∧ bv = .bool b ∧ RowsAt w g o' n' c' l' ∧ n' ≤ n ∧ 1 ≤ m' ∧ m' ≤ n' ∧ Hid (partL l m true = partL l' m' b ++ out.reverse) ∧ (∀ x ∈ l', x ∈ l) ∧ out.length + n' ≤ n ∧ wr.ownsRow w.heap.size 9 1 ov out.length (svs out) ∧ Below w.heap.size w wr) (fun lv _ _ _ _ => lenOf lv)
  case atStart => exact ⟨o, n, c, m, true, l, [], rfl, rfl, rfl, hv, Nat.le_refl _, hm1, hmn, Lib.hid (by simp), fun x hx => hx, by simp, World.ownsRow_nil w _ _ 1, Below.refl _ _⟩
  case round =>
    obtain ⟨o', n', c', m', b, l', out, rfl, rfl, rfl, hrow, hn', hm', hmn', HPF, hsub, hol, hown, hb⟩ := hrel
    clear t1
    by_cases h1 : m' = n'
    · have t2 : decide (m' < n') = false := by simp; omega
      have hall := partL_all l' m' b (by have := hrow.1; omega)
      have HALL := Lib.hid hall
      clear h1 hall
      cases b with
      | true =>
        go_wp2_with fail
        refine (rev_ok w.heap.size _ out _ w hown (by omega) hb hb.size).mono ?_
        rintro e w2 ⟨rfl, own2, b2⟩
        go_wp2_with fail
        go_ret2
        refine ⟨_, rfl, ?_, b2⟩
        rw [HEL.out, HPF.out, HALL.out]
        simpa using own2
      | false =>
        have hroot := root_ok _ _ wr ((hrow.below hb).slice) (by rw [← hrow.1]; omega) (fun x hx => HS.out x (hsub x hx)) (hR.later hb)
        go_wp2_with fail
        refine hroot.mono ?_
        rintro e w4 ⟨rfl, b4⟩
        have hb4 := Below.next hb b4
        have hown4 := ownsRow_below b4 hown
        have hle4 := hb4.size
        clear hroot
        go_wp2_with (at_builtin; refine wpList_append_own _ rfl _ _ 52 rfl w.heap.size 9 i0 (.string ⟨#[]⟩) 1 16 Tryz.underlying52 hi0 hz0 hz1 hz2 rfl (by decide) u6 _ _ rfl (hown4.alloc _) ⟨w4.heap.size, 0, none⟩ 1 1 [.string (str (rootL l'))] rfl rfl (cell_one_new _ _ _) (by simp [Value.oneCell']) (by unfold maxLen; omega) (by omega) (by simp; omega) ?_; intro v5 w5 own5 g5 _)
        have hb5 := Below.appended hb4 hle4 hown4 g5
        have e5 : svs out ++ [.string (str (rootL l'))] = svs (out ++ [rootL l']) := (svs_snoc _ _).symm
        have l5 : out.length + 1 = (out ++ [rootL l']).length := by simp
        rw [e5, l5] at own5
        clear e5 l5
        go_wp2_with fail
        refine (rev_ok w.heap.size _ _ _ w own5 (by rw [List.length_append, List.length_singleton]; have := hrow.1; omega) hb5 hb5.size).mono ?_
        rintro e w6 ⟨rfl, own6, b6⟩
        go_wp2_with fail
        go_ret2
        refine ⟨_, rfl, ?_, b6⟩
        rw [HEL.out, HPF.out, HALL.out]
        simpa using own6
    · have t2 : decide (m' < n') = true := by simp; omega
      have hmn2 : m' < n' := by omega
      have h2 : 2 ≤ n' := by omega
      obtain ⟨k, hk⟩ : ∃ k, k = leftN n' := ⟨_, rfl⟩
      have hkl := leftN_lt n' h2
      have hkp := leftN_pos n'
      have hleft := left_ok n' h2 (by omega)
      rw [← hk] at hkl hkp hleft
      have hnc := hrow.2.1
      have hcm := hrow.2.2.1
      have k0 : (0 : Int) ≤ (k : Int) := by omega
      have k1 : (k : Int) ≤ (n' : Int) := by omega
      have k2 : (k : Int) ≤ (c' : Int) := by omega
      have k3 : ¬ c' = k := by omega
      have k4 : (n' : Int) ≤ (c' : Int) := by omega
      have HK := Lib.hid hk
      clear hk h1
      go_wp2_with fail
      refine (hleft _).mono ?_
      rintro e w2 ⟨rfl, rfl⟩
      go_wp2_with fail
      go_quiet (fail)
      have hb3 : Below w.heap.size w (w2.drewN nq) := below_drewN' hb nq
      have hown3 : (w2.drewN nq).ownsRow w.heap.size 9 1 u6 out.length (svs out) := hown
      generalize w2.drewN nq = w3 at *
      have hrow3 := hrow.below hb3
      have hl' := hrow.1
      clear hb hown hleft
      have hle3 := hb3.size
      by_cases hki : k < m'
      · have t3 : decide (k < m') = true := by simp; omega
        obtain ⟨j, hj⟩ : ∃ j, j = m' - k := ⟨_, rfl⟩
        have ej : (m' : Int) - (k : Int) = (j : Int) := by omega
        have hj1 : 1 ≤ j := by omega
        have hjl : j ≤ n' - k := by omega
        have hpr := partL_right l' m' b (by omega) (by rw [← hl', ← HK.out]; exact hki)
        rw [← hl', ← HK.out, ← hj] at hpr
        have HPR := Lib.hid hpr
        have hroot := root_ok _ _ w3 (hrow3.take k (by omega)).slice (by rw [List.length_take]; omega) (fun x hx => HS.out x (hsub x (List.mem_of_mem_take hx))) (hR.later hb3)
        have HL := Lib.hid hl'
        clear hpr hj hl'
        go_wp2_with fail
        refine hroot.mono ?_
        rintro e w4 ⟨rfl, b4⟩
        have hb4 := Below.next hb3 b4
        have hown4 := ownsRow_below b4 hown3
        have hle4 := hb4.size
        clear hroot
        go_wp2_with (at_builtin; refine wpList_append_own _ rfl _ _ 52 rfl w.heap.size 9 i0 (.string ⟨#[]⟩) 1 16 Tryz.underlying52 hi0 hz0 hz1 hz2 rfl (by decide) u6 _ _ rfl (hown4.alloc _) ⟨w4.heap.size, 0, none⟩ 1 1 [.string (str (rootL (l'.take k)))] rfl rfl (cell_one_new _ _ _) (by simp [Value.oneCell']) (by unfold maxLen; omega) (by omega) (by simp; omega) ?_; intro v5 w5 own5 g5 _)
        have hb5 := Below.appended hb4 hle4 hown4 g5
        go_wp2_with fail
        exact ⟨⟨_, _, _, j, false, l'.drop k, out ++ [rootL (l'.take k)], rfl, rfl, rfl, hrow.drop k (by omega), by omega, hj1, hjl, Lib.hid (by rw [HPF.out, HPR.out]; simp), fun x hx => hsub x (List.mem_of_mem_drop hx), by rw [List.length_append, List.length_singleton]; omega, by rw [List.length_append, List.length_singleton, svs_snoc]; exact own5, hb5⟩, by simp [lenOf]; omega⟩
      · have t3 : decide (k < m') = false := by simp; omega
        have hpr := partL_left l' m' b (by omega) hm' (by rw [← hl', ← HK.out]; exact hki)
        rw [← hl', ← HK.out] at hpr
        have HPR := Lib.hid hpr
        have hroot := root_ok _ _ w3 (hrow3.drop k (by omega)).slice (by rw [List.length_drop]; omega) (fun x hx => HS.out x (hsub x (List.mem_of_mem_drop hx))) (hR.later hb3)
        have HL := Lib.hid hl'
        clear hpr hl'
        go_wp2_with fail
        refine hroot.mono ?_
        rintro e w4 ⟨rfl, b4⟩
        have hb4 := Below.next hb3 b4
        have hown4 := ownsRow_below b4 hown3
        have hle4 := hb4.size
        clear hroot
        go_wp2_with (at_builtin; refine wpList_append_own _ rfl _ _ 52 rfl w.heap.size 9 i0 (.string ⟨#[]⟩) 1 16 Tryz.underlying52 hi0 hz0 hz1 hz2 rfl (by decide) u6 _ _ rfl (hown4.alloc _) ⟨w4.heap.size, 0, none⟩ 1 1 [.string (str (rootL (l'.drop k)))] rfl rfl (cell_one_new _ _ _) (by simp [Value.oneCell']) (by unfold maxLen; omega) (by omega) (by simp; omega) ?_; intro v5 w5 own5 g5 _)
        have hb5 := Below.appended hb4 hle4 hown4 g5
        go_wp2_with fail
        exact ⟨⟨_, _, _, m', b, l'.take k, out ++ [rootL (l'.drop k)], rfl, rfl, rfl, hrow.take k (by omega), by omega, by omega, by omega, Lib.hid (by rw [HPF.out, HPR.out]; simp), fun x hx => hsub x (List.mem_of_mem_take hx), by rw [List.length_append, List.length_singleton]; omega, by rw [List.length_append, List.length_singleton, svs_snoc]; exact own5, hb5⟩, by simp [lenOf]; omega⟩
end Go.Proofs.YtheebajklnljdaaGreatDoor
end

section
/- Rows of sides (two cells each) that the call owns; slices of strings. -/
namespace Go.Proofs.YtheebajklnljdaaGreatDoor
open Go Go.RowKit

def sideVals (l : List (List UInt8 × Bool)) : List Value := l.flatMap fun x => [.string (str x.1), .bool x.2]
theorem sideVals_snoc (l : List (List UInt8 × Bool)) (x : List UInt8 × Bool) : sideVals (l ++ [x]) = sideVals l ++ [.string (str x.1), .bool x.2] := by simp [sideVals]
theorem sideVals_length (l : List (List UInt8 × Bool)) : (sideVals l).length = l.length * 2 := by
  induction l with
  | nil => rfl
  | cons a t ih =>
    have : sideVals (a :: t) = [.string (str a.1), .bool a.2] ++ sideVals t := rfl
    rw [this, List.length_append, ih]; simp; omega
theorem sideVals_get : ∀ (l : List (List UInt8 × Bool)) (j : Nat) x, l[j]? = some x → (sideVals l)[j * 2]? = some (.string (str x.1)) ∧ (sideVals l)[j * 2 + 1]? = some (.bool x.2)
  | [], j, x, h => by simp at h
  | a :: t, 0, x, h => by
    simp at h; subst h
    exact ⟨rfl, rfl⟩
  | a :: t, j + 1, x, h => by
    have h1 := sideVals_get t j x (by simpa using h)
    have : sideVals (a :: t) = [.string (str a.1), .bool a.2] ++ sideVals t := rfl
    rw [this, List.getElem?_append_right (by simp; omega), List.getElem?_append_right (by simp; omega)]
    simp only [List.length_cons, List.length_nil, Nat.zero_add, Nat.reduceAdd]
    rw [show (j + 1) * 2 - 2 = j * 2 by omega, show (j + 1) * 2 + 1 - 2 = j * 2 + 1 by omega]
    exact h1

theorem Tryz.infoSide : (Tryz.prog.info? 130).map (fun i => (i.zero, i.size, i.bytes)) = some (some (.agg #[.string ⟨#[]⟩, .bool false]), 2, 24) := by kernel_rfl
theorem info_side : ∃ i, Tryz.prog.info? 130 = some i ∧ i.zero = some (.agg #[.string ⟨#[]⟩, .bool false]) ∧ i.size = 2 ∧ i.bytes = 24 := by
  obtain ⟨i0, hi, hz0, hz1, hz2⟩ := info_parts Tryz.infoSide
  exact ⟨i0, hi, hz0, hz1, hz2⟩

/-- the cells of a block that was just made -/
theorem cells_new (w : World) (t : TypeId) (xs : List Value) : ∀ j u, xs[j]? = some u → (w.alloc (.cells xs.toArray t)).cell? ((⟨w.heap.size, 0, none⟩ : Addr).add j) = some u := by
  intro j u hu
  rw [add_zero_off]
  exact ((BlkIs.new w t xs.toArray).cell j).trans hu

/-- v is a row of the call's own with just these sides -/
def SidesAt (w : World) (base : Nat) (v : Value) (l : List (List UInt8 × Bool)) : Prop := w.ownsRow base 130 2 v l.length (sideVals l)
theorem SidesAt.below {w w' : World} {base : Nat} {v : Value} {l : List (List UInt8 × Bool)} (h : SidesAt w base v l) (hb : Below w.heap.size w w') : SidesAt w' base v l := ownsRow_below hb h
theorem SidesAt.alloc {w : World} {base : Nat} {v : Value} {l : List (List UInt8 × Bool)} (h : SidesAt w base v l) (o : Obj) : SidesAt (w.alloc o) base v l := World.ownsRow.alloc h o
/-- its cells -/
theorem SidesAt.parts {w : World} {base : Nat} {v : Value} {l : List (List UInt8 × Bool)} (h : SidesAt w base v l) :
    ∃ ad g cap, v = .slice ad l.length cap ∧ (0 < l.length → ad = some ⟨g, 0, none⟩ ∧ g < w.heap.size) ∧ l.length ≤ cap ∧ cap ≤ maxLen ∧
      ∀ (j : Nat) x, l[j]? = some x → w.cell? ⟨g, j * 2, none⟩ = some (.string (str x.1)) ∧ w.cell? ⟨g, j * 2 + 1, none⟩ = some (.bool x.2) := by
  rcases h.2 with ⟨rfl, h0⟩ | ⟨g, cap, cur, rfl, _, hg, hn, hm, hc, ht⟩
  · refine ⟨none, 0, 0, by rw [h0], fun h => by omega, by omega, by unfold maxLen; omega, fun j x hx => ?_⟩
    have := (List.getElem?_eq_some_iff.1 hx).1
    omega
  · have hb : BlkIs w g 130 cur.toList := by simpa [BlkIs] using hg
    refine ⟨_, g, cap, rfl, fun _ => ⟨rfl, hb.lt⟩, hn, hm, fun j x hx => ?_⟩
    obtain ⟨h1, h2⟩ := sideVals_get l j x hx
    rw [← ht, List.getElem?_take] at h1 h2
    constructor
    · rw [hb.cell]
      split at h1
      · exact h1
      · cases h1
    · rw [hb.cell]
      split at h2
      · exact h2
      · cases h2

/-- v is a slice of just these strings -/
def ListAt (w : World) (v : Value) (ls : List (List UInt8)) : Prop := StrsAt w v (ls.map str)
theorem ListAt.below {w w' : World} {v : Value} {ls : List (List UInt8)} (h : ListAt w v ls) (hb : Below w.heap.size w w') : ListAt w' v ls := StrsAt.below h hb
theorem ListAt.nil {w : World} {v : Value} (h : ListAt w v []) : ∃ A c, v = .slice A 0 c := by
  rcases h with ⟨_, h⟩ | ⟨g, o, c, h, _⟩
  · exact h
  · exact ⟨_, _, h⟩
theorem ListAt.len {w : World} {v : Value} {ls : List (List UInt8)} (h : ListAt w v ls) : ∃ A c, v = .slice A ls.length c := by
  rcases h with ⟨h0, A, c, h⟩ | ⟨g, o, c, h, _⟩
  · have : ls = [] := by simpa using h0
    subst this
    exact ⟨A, c, h⟩
  · exact ⟨_, c, by rw [h, List.length_map]⟩
/-- the last string, and the rest -/
theorem ListAt.last {w : World} {v : Value} {ls : List (List UInt8)} {x : List UInt8} (h : ListAt w v (ls ++ [x])) :
    ∃ g o c, v = .slice (some ⟨g, o, none⟩) (ls.length + 1) c ∧ ls.length + 1 ≤ c ∧ g < w.heap.size ∧ w.cell? ⟨g, o + ls.length, none⟩ = some (.string (str x)) ∧ ListAt w (.slice (some ⟨g, o, none⟩) ls.length c) ls := by
  rcases h with ⟨h0, _⟩ | ⟨g, o, c, h1, h2, h3, h4, h5⟩
  · simp at h0
  · have hl : ((ls ++ [x]).map str).length = ls.length + 1 := by simp
    rw [hl] at h1 h2
    refine ⟨g, o, c, h1, h2, h4, h5 _ _ (by simp), .inr ⟨g, o, c, by simp, by simp; omega, h3, h4, fun j y hy => h5 j y ?_⟩⟩
    rw [List.map_append, List.getElem?_append_left (List.getElem?_eq_some_iff.1 hy).1]
    exact hy
theorem ListAt.rows {w : World} {v : Value} {ls : List (List UInt8)} (h : ListAt w v ls) (h0 : ls ≠ []) : ∃ g o c, v = .slice (some ⟨g, o, none⟩) ls.length c ∧ RowsAt w g o ls.length c ls := by
  rcases h with ⟨h1, _⟩ | ⟨g, o, c, h1, h2, h3, h4, h5⟩
  · simp at h1; exact absurd h1 h0
  · rw [List.length_map] at h1 h2
    refine ⟨g, o, c, h1, rfl, h2, h3, h4, fun j x hx => h5 j _ ?_⟩
    rw [List.getElem?_map, hx]; rfl
theorem RowsAt.list {w : World} {g o n c : Nat} {l : List (List UInt8)} (h : RowsAt w g o n c l) : ListAt w (.slice (some ⟨g, o, none⟩) n c) l := by
  obtain ⟨h1, h2, h3, h4, h5⟩ := h
  refine .inr ⟨g, o, c, by rw [List.length_map, h1], by rw [List.length_map, ← h1]; exact h2, h3, h4, fun j x hx => ?_⟩
  rw [List.getElem?_map] at hx
  cases hl : l[j]? with
  | none => rw [hl] at hx; cases hx
  | some y => rw [hl] at hx; cases hx; exact h5 j y hl
theorem listAt_own {w : World} {base : Nat} {v : Value} {l : List (List UInt8)} (h : w.ownsRow base 9 1 v l.length (svs l)) : ListAt w v l := by
  rcases Nat.eq_zero_or_pos l.length with h0 | h0
  · obtain rfl := List.length_eq_zero_iff.1 h0
    refine .inl ⟨rfl, ?_⟩
    rcases h.2 with ⟨h, _⟩ | ⟨g, cap, cur, h, _⟩
    · exact ⟨_, _, h⟩
    · exact ⟨_, _, h⟩
  · obtain ⟨g, cap, cs, rfl, _, hblk, hn, hm, _⟩ := ownsRow_blk h h0
    unfold maxLen at hm
    exact RowsAt.list (g := g) (o := 0) ⟨rfl, hn, by omega, hblk.lt, fun j x hx => by rw [Nat.zero_add]; exact ownsRow_cell h j _ (svs_get l j x hx)⟩
theorem all_list (v : Value) (ls : List (List UInt8)) (w : World) (hv : ListAt w v ls) :
    Calls Tryz.prog 94 #[v] w fun e w' => e = .returned (.bool (ls.all fun s => decide (s.length = 32))) ∧ ∃ q, w' = w.drewN q := by
  have h := all_ok v (ls.map str) w hv
  rw [List.all_map] at h
  have e : (fun s => decide (s.size = 32)) ∘ str = fun s : List UInt8 => decide (s.length = 32) := by
    funext s; simp only [Function.comp]; rw [size_mk]
  rw [e] at h
  exact h

/-- the fold that Verify's last loop makes -/
def foldW (way : List (List UInt8 × Bool)) (v : List UInt8) : List UInt8 := way.reverse.foldl (fun o x => stepL x o) v
theorem foldW_snoc (way : List (List UInt8 × Bool)) (x : List UInt8 × Bool) (v : List UInt8) : foldW (way ++ [x]) v = foldW way (stepL x v) := by
  unfold foldW; rw [List.reverse_append]; rfl
/-- after k rounds -/
def accS (way : List (List UInt8 × Bool)) (v : List UInt8) (k : Nat) : List UInt8 := (way.reverse.take k).foldl (fun o x => stepL x o) v
theorem accS_zero (way : List (List UInt8 × Bool)) (v : List UInt8) : accS way v 0 = v := rfl
theorem accS_all (way : List (List UInt8 × Bool)) (v : List UInt8) : accS way v way.length = foldW way v := by
  unfold accS foldW; rw [List.take_of_length_le (by rw [List.length_reverse]; exact Nat.le_refl _)]
theorem accS_length (way : List (List UInt8 × Bool)) (v : List UInt8) (k : Nat) (h : v.length = 32) : (accS way v k).length = 32 := by
  unfold accS
  generalize way.reverse.take k = l
  induction l generalizing v with
  | nil => exact h
  | cons a t ih => exact ih _ (stepL_len _ _)
theorem accS_succ (way : List (List UInt8 × Bool)) (v : List UInt8) (k i : Nat) (x : List UInt8 × Bool) (hi : i + k + 1 = way.length) (hx : way[i]? = some x) : accS way v (k + 1) = stepL x (accS way v k) := by
  have h : way.reverse[k]? = some x := by
    rw [List.getElem?_reverse (by omega), show way.length - 1 - k = i by omega]; exact hx
  unfold accS
  rw [List.take_add_one, h, List.foldl_append]
  rfl
/-- the first value's fold, for extensions -/
def step1 (x : List UInt8 × Bool) (o : List UInt8) : List UInt8 := if x.2 then stepL x o else o
def fold1 (way : List (List UInt8 × Bool)) (v : List UInt8) : List UInt8 := way.reverse.foldl (fun o x => step1 x o) v
theorem fold1_snoc (way : List (List UInt8 × Bool)) (x : List UInt8 × Bool) (v : List UInt8) : fold1 (way ++ [x]) v = fold1 way (step1 x v) := by
  unfold fold1; rw [List.reverse_append]; rfl
def acc1 (way : List (List UInt8 × Bool)) (v : List UInt8) (k : Nat) : List UInt8 := (way.reverse.take k).foldl (fun o x => step1 x o) v
theorem acc1_all (way : List (List UInt8 × Bool)) (v : List UInt8) : acc1 way v way.length = fold1 way v := by
  unfold acc1 fold1; rw [List.take_of_length_le (by rw [List.length_reverse]; exact Nat.le_refl _)]
theorem step1_length (x : List UInt8 × Bool) (o : List UInt8) (h : o.length = 32) : (step1 x o).length = 32 := by
  unfold step1; split
  · exact stepL_len _ _
  · exact h
theorem acc1_length (way : List (List UInt8 × Bool)) (v : List UInt8) (k : Nat) (h : v.length = 32) : (acc1 way v k).length = 32 := by
  unfold acc1
  generalize way.reverse.take k = l
  induction l generalizing v with
  | nil => exact h
  | cons a t ih => exact ih _ (step1_length _ _ h)
theorem acc1_succ (way : List (List UInt8 × Bool)) (v : List UInt8) (k i : Nat) (x : List UInt8 × Bool) (hi : i + k + 1 = way.length) (hx : way[i]? = some x) : acc1 way v (k + 1) = step1 x (acc1 way v k) := by
  have h : way.reverse[k]? = some x := by
    rw [List.getElem?_reverse (by omega), show way.length - 1 - k = i by omega]; exact hx
  unfold acc1
  rw [List.take_add_one, h, List.foldl_append]
  rfl
end Go.Proofs.YtheebajklnljdaaGreatDoor
end

section
/- Verify. -/
namespace Go.Proofs.YtheebajklnljdaaGreatDoor
open Go Go.RowKit
attribute [local go_sem] Oper.semAt_some

/-- what Verify answers -/
def verB (root : List UInt8) (n i : Int) (s : List UInt8) (p : List (List UInt8)) : Bool :=
  decide (0 ≤ i ∧ i < n) && (p.all fun x => decide (x.length = 32)) && (valR s p.reverse n.toNat i.toNat == some root)

theorem ver_no (root s : ByteArray) (n i : Int) (v : Value) (p : List (List UInt8)) (w : World) (hi : i < 0 ∨ n ≤ i) :
    Calls Tryz.prog 65 #[.string root, .int .i64 n, .int .i64 i, .string s, v] w fun e w' => e = .returned (.bool (verB root.data.toList n i s.data.toList p)) ∧ w = w' := by
  have hr : verB root.data.toList n i s.data.toList p = false := by
    unfold verB
    rw [decide_eq_false (by omega)]
    rfl
  rw [hr]
  clear hr
  by_cases h : i < 0
  · have t0 : decide (i < 0) = true := by simp; omega
    go_enter Tryz.func65, Tryz.ntmps65
    go_wp2_with fail
    go_ret
    exact ⟨rfl, rfl⟩
  · have t0 : decide (i < 0) = false := by simp; omega
    have t1 : decide (n ≤ i) = true := by simp; omega
    go_enter Tryz.func65, Tryz.ntmps65
    go_wp2_with fail
    go_ret
    exact ⟨rfl, rfl⟩

theorem ver_odd (root s : ByteArray) (n i : Nat) (v : Value) (p : List (List UInt8)) (w : World) (hv : ListAt w v p) (hi : i < n) (hp : (p.all fun x => decide (x.length = 32)) = false) :
    Calls Tryz.prog 65 #[.string root, .int .i64 n, .int .i64 i, .string s, v] w fun e w' => e = .returned (.bool (verB root.data.toList n i s.data.toList p)) ∧ Below w.heap.size w w' := by
  have hr : verB root.data.toList n i s.data.toList p = false := by
    unfold verB
    rw [hp, Bool.and_false, Bool.false_and]
  rw [hr]
  have hall := all_list v p w hv
  rw [hp] at hall
  have t0 : decide ((i : Int) < 0) = false := by simp
  have t1 : decide (n ≤ i) = false := by simp; omega
  clear hr hp
  go_enter Tryz.func65, Tryz.ntmps65
  go_wp2_with fail
  refine hall.mono ?_
  rintro e w1 ⟨rfl, q, rfl⟩
  go_wp2_with fail
  go_ret
  exact ⟨rfl, below_drewN' (Below.refl _ _) q⟩

theorem valR_end (s root : List UInt8) (q : List (List UInt8)) (N I : Nat) (way : List (List UInt8 × Bool)) (h1 : N ≤ 1) :
    ((valR s q.reverse N I).map (foldW way) == some root) = (decide (q = []) && decide (foldW way (leafL s) = root)) := by
  rcases List.eq_nil_or_concat q with rfl | ⟨r, x, rfl⟩
  · simp only [List.reverse_nil, valR, if_pos h1, decide_true, Bool.true_and]
    rw [Bool.eq_iff_iff]
    simp
  · rw [List.concat_eq_append, List.reverse_append, List.reverse_singleton, List.singleton_append]
    simp only [valR]
    rw [if_pos h1, decide_eq_false (by simp)]
    rfl
theorem way_step {a b c : Option (List UInt8)} {way : List (List UInt8 × Bool)} {y : List UInt8 × Bool} (h1 : a = b.map (foldW way)) (h2 : b = c.map (stepL y)) : a = c.map (foldW (way ++ [y])) := by
  rw [h1, h2, Option.map_map]
  congr 1
  funext v
  exact (foldW_snoc way y v).symm
theorem BlkIs.put {w : World} {g L : Nat} {t : TypeId} {cs : List Value} (h : BlkIs w g t cs) (o : Obj) (hn : g ≠ L) : BlkIs (w.putObj L o) g t cs := (World.putObj_heap_other hn).trans h

set_option maxRecDepth 100000 in
set_option maxHeartbeats 4000000 in
theorem ver_ok (root s : ByteArray) (n i : Nat) (v : Value) (p : List (List UInt8)) (w : World) (hv : ListAt w v p) (hi : i < n) (hn : n ≤ 9223372036854775807) (hpl : p.length ≤ 100) (hp : (p.all fun x => decide (x.length = 32)) = true)
    (hs : s.size ≤ 900000) (hR : RoundOk w) :
    Calls Tryz.prog 65 #[.string root, .int .i64 n, .int .i64 i, .string s, v] w fun e w' => e = .returned (.bool (verB root.data.toList n i s.data.toList p)) ∧ Below w.heap.size w w' := by
  obtain ⟨i0, hi0, hz0, hz1, hz2⟩ := info_side
  obtain ⟨B, hB⟩ : ∃ B, B = verB root.data.toList n i s.data.toList p := ⟨_, rfl⟩
  rw [← hB]
  have hr : ∀ b, (valR s.data.toList p.reverse n i == some root.data.toList) = b → B = b := by
    rintro b rfl
    rw [hB]
    unfold verB
    rw [hp, decide_eq_true (by omega)]
    rfl
  have HR := Lib.hid hr
  have hall := all_list v p w hv
  rw [hp] at hall
  have hp32 : ∀ x ∈ p, x.length = 32 := by
    intro x hx
    rw [List.all_eq_true] at hp
    have := hp x hx
    simpa using this
  have HP := Lib.hid hp32
  have t0 : decide ((i : Int) < 0) = false := by simp
  have t1 : decide (n ≤ i) = false := by simp; omega
  clear hr hp hp32 hB
  refine (callsIn_wide (n := 3)).1 ?_
  refine callsIn_of_wp_marks Tryz.func65 rfl trivial ?_ rfl
  simp only [Tryz.ntmps65, List.size_toArray, List.length_cons, List.length_nil, Nat.reduceAdd, Nat.reduceSub, Array.replicate_succ, Array.replicate_zero, List.push_toArray, List.append_toArray, List.nil_append, List.cons_append]
  refine wpIn_wide.2 ?_
  go_upto_region 1 with fail
  go_wp2_with fail
  refine hall.mono ?_
  rintro e w1 ⟨rfl, q, rfl⟩
  clear hall t1
  have hb1 : Below w.heap.size w (w.drewN q) := below_drewN' (Below.refl _ _) q
  generalize w.drewN q = w0 at *
  go_wp2_with fail
  go_loopw [1, 2, 4, 11] (fun nv iv pv wv wr => ∃ (N I : Nat) (q : List (List UInt8)) (way : List (List UInt8 × Bool)), nv = .int .i64 N ∧ iv = .int .i64 I ∧ I < N ∧ N ≤ n ∧ ListAt w pv q ∧ (∀ x ∈ q, x.length = 32) ∧ (∀ x ∈ way, x.1.length = 32) ∧ q.length + way.length = p.length ∧
      Hid (valR s.data.toList p.reverse n i = (valR s.data.toList q.reverse N I).map (foldW way)) ∧ SidesAt wr w.heap.size wv way ∧ Below w.heap.size w wr) (fun _ _ pv _ _ => lenOf pv)
  case atStart => exact ⟨n, i, p, [], rfl, rfl, hi, Nat.le_refl _, hv, HP.out, by simp, by simp, Lib.hid (by have : foldW [] = id := rfl; rw [this]; simp), World.ownsRow_nil _ _ _ 2, hb1⟩
  case round =>
    obtain ⟨N, I, q, way, rfl, rfl, hI, hN, hq, hq32, hw32, hql, HV, hsd, hb⟩ := hrel
    by_cases h1 : N ≤ 1
    · have t2 : decide ((1 : Int) < (N : Int)) = false := by simp; omega
      have hval : B = (decide (q = []) && decide (foldW way (leafL s.data.toList) = root.data.toList)) := by
        apply HR.out
        rw [HV.out]
        exact valR_end _ _ _ _ _ _ h1
      have HVAL := Lib.hid hval
      obtain ⟨qa, qc, rfl⟩ := hq.len
      obtain ⟨ad, gs, cp, rfl, hadg, hcp, hcm, hcs⟩ := hsd.parts
      unfold maxLen at hcm
      have HCS := Lib.hid hcs
      clear hval hcs
      go_wp2_with fail
      refine (leaf_ok s wr hs (hR.later hb)).mono ?_
      rintro e w2 ⟨rfl, b2⟩
      have hb2 := Below.next hb b2
      go_wp2_with fail
      refine (backS_ok ad way.length cp _).mono ?_
      rintro e w6 ⟨rfl, rfl⟩
      go_wp2_with fail
      refine (wpIn_wide (n := 3)).1 ?_
      obtain ⟨lf, hlf⟩ : ∃ lf, lf = leafL s.data.toList := ⟨_, rfl⟩
      rw [← hlf]
      have hlf32 : lf.length = 32 := by rw [hlf]; rfl
      have HLF := Lib.hid hlf
      clear hlf
      refine rangeFunc_raw rfl (by omega) (gf := 124) (lb := #[.pointer (some ⟨w2.heap.size + 1, 0, none⟩)]) rfl trivial (enters_of Tryz.func124 (by kernel_rfl) rfl) ?_
      intro fn hfn rec D L W1 hrec hD hL hW1
      have hs1 : W1.heap.size = w2.heap.size + 4 := by rw [hW1]; simp
      have hD2 : D = w2.heap.size + 2 := by rw [hD]; simp
      have hL2 : L = w2.heap.size + 3 := by omega
      have bw1 : Below w2.heap.size w2 W1 := by
        rw [hW1]
        exact ((((Below.refl _ w2).alloc (Nat.le_refl _) _).alloc (by simp) _).alloc (by simp; omega) _).alloc (by simp; omega) _
      have x1 : BlkIs W1 w2.heap.size 9 [.string (str lf)] := by rw [hW1]; exact (((BlkIs.new w2 _ _).alloc _).alloc _).alloc _
      have x2 : BlkIs W1 (w2.heap.size + 1) 126 [.slice ad way.length cp] := by
        have h := BlkIs.new (w2.alloc (.cells #[.string (str lf)] 9)) 126 #[.slice ad way.length cp]
        rw [World.size_alloc] at h
        rw [hW1]; exact (h.alloc _).alloc _
      have lL : W1.heap[L]? = some (.loop (rec .ready none)) := by rw [hW1]; exact alloc_new_at _ _ _ (by rw [hL2]; simp)
      have dD : W1.heap[D]? = some (.deferred (some [])) := by
        rw [hW1]
        exact (Below.heap_alloc _ _ _ (by rw [hD2]; simp)).trans (alloc_new_at _ _ _ (by rw [hD2]; simp))
      have bel1 : Below w.heap.size w W1 := Below.next hb2 bw1
      have j0 : LoopJ W1 (rec .ready none) w2.heap.size L 9 [.string (str (accS way lf 0))] W1 := ⟨lL, x1, rfl, rfl, rfl, Nat.le_refl _, fun _ _ _ _ => rfl⟩
      have HREC := Lib.hid hrec
      clear hrec hW1 hD hL
      have b2s := b2.size
      refine (backS1_in (3 - 1) (by omega) L (w2.heap.size + 1) gs way.length cp ad (fun h => (hadg h).1) (way.map fun x => (str x.1, x.2)) (by simp) hcp (by omega) (fun k W => LoopJ W1 (rec .ready none) w2.heap.size L 9 [.string (str (accS way lf k))] W) ?hbox ?hY W1 j0).mono ?hend
      case hbox =>
        intro k W hJ
        refine ⟨hJ.cell (x2.cell 0) (by simp) (by simp; omega), fun j x hx => ?_⟩
        rw [List.getElem?_map] at hx
        cases hy : way[j]? with
        | none => rw [hy] at hx; cases hx
        | some y =>
          rw [hy] at hx
          cases hx
          obtain ⟨h1, h2⟩ := HCS.out j y hy
          have hgl := (hadg (by have := (List.getElem?_eq_some_iff.1 hy).1; omega)).2
          have hb12 := b2.trans (bw1.mono b2s)
          exact ⟨hJ.cell (a := ⟨gs, j * 2, none⟩) ((hb12.cell (p := ⟨gs, j * 2, none⟩) hgl).trans h1) (by simp; omega) (by simp; omega), hJ.cell (a := ⟨gs, j * 2 + 1, none⟩) ((hb12.cell (p := ⟨gs, j * 2 + 1, none⟩) hgl).trans h2) (by simp; omega) (by simp; omega)⟩
      case hY =>
        intro k i W y hik hy hJ
        rw [List.getElem?_map] at hy
        obtain ⟨x, hx, rfl⟩ : ∃ x, way[i]? = some x ∧ y = (str x.1, x.2) := by
          cases hw : way[i]? with
          | none => rw [hw] at hy; cases hy
          | some x => rw [hw] at hy; cases hy; exact ⟨x, rfl, rfl⟩
        refine yield_raw hfn HREC.out hJ.rl rfl ?_
        have hLh : w2.heap.size ≠ L := by omega
        have hacc := accS_succ way lf k i x hik hx
        have hxz : x.1.length = 32 := hw32 x (List.mem_of_getElem? hx)
        have haz := accS_length way lf k hlf32
        have HAC := Lib.hid hacc
        have hLw : w.heap.size ≤ L := by have := hb2.size; omega
        clear hs1 hD2 hL2 hacc hx hy hik
        simp only [List.zip_toArray, List.zip_cons_cons, List.zip_nil_right, List.foldl_toArray', List.foldl_cons, List.foldl_nil, List.setIfInBounds_toArray, List.set]
        gi_wp2
        have hwlt : W.heap.size ≠ L := by have := cellsBlock_size hJ.rl; omega
        have hJa : LoopJ W1 (rec .ready none) w2.heap.size L 9 [.string (str (accS way lf k))] (W.alloc (.cells #[.string (str x.1), .bool x.2] 130)) := hJ.under hLh ((Below.refl _ _).alloc (Nat.le_refl _) _)
        have hxb := BlkIs.new W 130 #[.string (str x.1), .bool x.2]
        refine ⟨hJa.rl, ?_⟩
        have hJ2 := hJa.busy (r1 := rec .busy none) hLh
        have hxb2 := hxb.put (.loop (rec .busy none)) hwlt
        have hR2 := hR.later (hJ2.below bel1 hb2.size hLw)
        have cb := hJ2.blk.cell 0
        have cx0 := hxb2.cell 0
        have cx1 := hxb2.cell 1
        dsimp only [List.getElem?_cons_zero, List.getElem?_cons_succ] at cb cx0 cx1
        clear hxb hxb2 hJa
        generalize (W.alloc (.cells #[.string (str x.1), .bool x.2] 130)).putObj L (.loop (rec .busy none)) = W2 at *
        gi_wp2
        refine ⟨trivial, ?_⟩
        refine (CallsIn.inRound L (callsIn_wide.2 (join_ok (str x.1) (str (accS way lf k)) x.2 W2 (by rw [size_mk, size_mk, hxz, haz]; decide) hR2))).mono ?_
        rintro e W3 ⟨rfl, b3⟩
        have hJ3 := hJ2.under hLh b3
        have ej : joinL ((str x.1).data.toList, x.2) (str (accS way lf k)).data.toList = accS way lf (k + 1) := by
          rw [mk_toList, mk_toList]; exact HAC.out.symm
        rw [ej]
        clear ej
        have c3 := hJ3.blk.cell 0
        dsimp only [List.getElem?_cons_zero] at c3
        have f3 := hJ3.blk.frozen 0
        gi_wp2
        have hn := hJ3.blk.set 0 (.string (str (accS way lf (k + 1))))
        have hJ4 := hJ3.step hLh (Upd.setCell _ 0 W3 _) hn
        exact roundPost_normal HREC.out hJ4.rl ⟨rfl, hJ4.busy hLh⟩
      case hend =>
        rintro e W2 ⟨⟨v, rfl⟩, hJ⟩
        refine ⟨⟨v, rfl⟩, .ready, none, (fun h => by cases h), hJ.rl, ?_⟩
        have hLh : w2.heap.size ≠ L := by omega
        have hJ4 := hJ.busy (r1 := rec .exhausted none) hLh
        have hbel4 := hJ4.below bel1 hb2.size (by have := hb2.size; omega)
        have hdd : (W2.putObj L (.loop (rec .exhausted none))).heap[D]? = some (.deferred (some [])) := (hJ4.block D (by omega) (by omega) (by omega)).trans dD
        have cb := hJ4.blk.cell 0
        dsimp only [List.getElem?_cons_zero] at cb
        rw [accS_all] at cb
        have hDw : w.heap.size ≤ D := by have := hb2.size; omega
        clear hJ hs1 hD2 hL2
        generalize W2.putObj L (.loop (rec .exhausted none)) = W4 at *
        have hfr := hJ4.blk.frozen 0
        simp only [rfAct]
        rcases List.eq_nil_or_concat q with hq0 | ⟨r, z, hq0⟩
        · have t3 : ((q.length : Int) == 0) = true := by rw [hq0]; rfl
          have hv2 := HVAL.out
          rw [decide_eq_true hq0, Bool.true_and, ← HLF.out] at hv2
          have HV2 := Lib.hid hv2
          clear hv2 hq0
          have ef : (foldW way lf == root.toList) = B := by
            rw [HV2.out, Lib.toList_data, Bool.eq_iff_iff]; simp
          have HEF := Lib.hid ef
          clear ef
          go_wp2_with fail
          refine ⟨by simp, .inl ⟨_, _, rfl, run_takeDeferred hdd, ?_⟩⟩
          refine ⟨_, results_tmp (t := 10) rfl _ _ _, ?_⟩
          exact ⟨congrArg (fun b => Ending.returned (Value.bool b)) HEF.out, below_putObj hbel4 _ hDw hbel4.size⟩
        · have t3 : ((q.length : Int) == 0) = false := by rw [hq0]; simp; omega
          have hv2 := HVAL.out
          rw [decide_eq_false (by rw [hq0]; simp), Bool.false_and] at hv2
          have HV2 := Lib.hid hv2
          clear hv2 hq0
          go_wp2_with fail
          refine ⟨by simp, .inl ⟨_, _, rfl, run_takeDeferred hdd, ?_⟩⟩
          refine ⟨_, results_tmp (t := 10) rfl _ _ _, ?_⟩
          exact ⟨(congrArg (fun b => Ending.returned (Value.bool b)) HV2.out).symm, below_putObj hbel4 _ hDw hbel4.size⟩
    · have t2 : decide ((1 : Int) < (N : Int)) = true := by simp; omega
      have hnn : 2 ≤ N := by omega
      clear h1
      rcases List.eq_nil_or_concat q with rfl | ⟨r, x, rfl⟩
      · obtain ⟨A, c, rfl⟩ := hq.nil
        have hval : B = false := by
          apply HR.out
          rw [HV.out]
          simp only [List.reverse_nil, valR]
          rw [if_neg (by omega)]
          rfl
        have HVAL := Lib.hid hval
        clear hval
        go_wp2_with fail
        refine (take_none _ _ _).mono ?_
        rintro e w2 ⟨rfl, rfl⟩
        go_wp2_with fail
        exact ⟨_, results_tmp (t := 10) rfl _ _ _, (congrArg (fun b => Ending.returned (Value.bool b)) HVAL.out).symm, hb⟩
      · rw [List.concat_eq_append] at *
        obtain ⟨g, o, c, rfl, hc, hg, hx, hq'⟩ := hq.last
        have hval : valR s.data.toList (r ++ [x]).reverse N I = (valR s.data.toList r.reverse (if leftN N ≤ I then N - leftN N else leftN N) (if leftN N ≤ I then I - leftN N else I)).map (stepL (x, decide (leftN N ≤ I))) := by
          rw [List.reverse_append, List.reverse_singleton, List.singleton_append]
          simp only [valR]
          rw [if_neg (by omega)]
        have HVAL := Lib.hid hval
        have hx2 := (hb.cell (p := ⟨g, o + r.length, none⟩) hg).trans hx
        have hlq : (r ++ [x]).length = r.length + 1 := by simp
        have hrl : r.length ≤ 99 := by omega
        have hwl : way.length ≤ 100 := by omega
        have htake := take_ok g o r.length c (str x) wr hc (by omega) hx2
        obtain ⟨k, hk⟩ : ∃ k, k = leftN N := ⟨_, rfl⟩
        have hkl := leftN_lt N hnn
        have hkp := leftN_pos N
        have hleft := left_ok N hnn (by omega)
        rw [← hk] at hkl hkp hleft
        have HK := Lib.hid hk
        have HLQ := Lib.hid hlq
        have HQL := Lib.hid hql
        clear hval hx hlq hk hx2 hql
        go_wp2_with fail
        refine htake.mono ?_
        rintro e w2 ⟨rfl, q2, rfl⟩
        have hb2 : Below w.heap.size w (wr.drewN q2) := below_drewN' hb q2
        have hsd2 : SidesAt (wr.drewN q2) w.heap.size u11 way := hsd
        clear htake hsd hb
        generalize wr.drewN q2 = w2 at *
        go_wp2_with fail
        refine (hleft _).mono ?_
        rintro e w3 ⟨rfl, rfl⟩
        have hle3 := hb2.size
        clear hleft
        by_cases hki : k ≤ I
        · have t3 : decide (k ≤ I) = true := by simp; omega
          go_wp2_with (at_builtin; refine wpList_append_own _ rfl _ _ 126 rfl w.heap.size 130 i0 (.agg #[.string ⟨#[]⟩, .bool false]) 2 24 Tryz.underlying126 hi0 hz0 hz1 hz2 rfl (by decide) u11 _ _ rfl (hsd2.alloc _) ⟨w3.heap.size, 0, none⟩ 1 1 [.string (str x), .bool true] rfl rfl (cells_new _ _ _) (by simp [Value.oneCell']) (by unfold maxLen; omega) (by omega) (by simp; omega) ?_; intro v5 w5 own5 g5 _)
          have hb5 := Below.appended hb2 hle3 hsd2 g5
          obtain ⟨N', hN'⟩ : ∃ N', N' = N - k := ⟨_, rfl⟩
          obtain ⟨I', hI'⟩ : ∃ I', I' = I - k := ⟨_, rfl⟩
          have e1 : (N : Int) - (k : Int) = (N' : Int) := by omega
          have e2 : (I : Int) - (k : Int) = (I' : Int) := by omega
          have hv1 := HVAL.out
          rw [← HK.out, if_pos hki, if_pos hki, decide_eq_true hki, ← hN', ← hI'] at hv1
          have HW := Lib.hid (way_step HV.out hv1)
          have n1 : I' < N' := by omega
          have n2 : N' ≤ n := by omega
          clear hv1 hN' hI'
          go_wp2_with fail
          exact ⟨⟨N', I', r, way ++ [(x, true)], (by first | rfl | exact congrArg _ e1), (by first | rfl | exact congrArg _ e2), n1, n2, hq', fun z hz => hq32 z (by simp [hz]), by
            intro z hz
            rcases List.mem_append.1 hz with hz | hz
            · exact hw32 z hz
            · rw [List.mem_singleton.1 hz]; exact hq32 x (by simp), by have h1 := HQL.out; rw [HLQ.out] at h1; rw [List.length_append, List.length_singleton]; omega, HW, by unfold SidesAt; rw [List.length_append, List.length_singleton, sideVals_snoc]; exact own5, hb5⟩, by simp [lenOf]⟩
        · have t3 : decide (k ≤ I) = false := by simp; omega
          go_wp2_with (at_builtin; refine wpList_append_own _ rfl _ _ 126 rfl w.heap.size 130 i0 (.agg #[.string ⟨#[]⟩, .bool false]) 2 24 Tryz.underlying126 hi0 hz0 hz1 hz2 rfl (by decide) u11 _ _ rfl (hsd2.alloc _) ⟨w3.heap.size, 0, none⟩ 1 1 [.string (str x), .bool false] rfl rfl (cells_new _ _ _) (by simp [Value.oneCell']) (by unfold maxLen; omega) (by omega) (by simp; omega) ?_; intro v5 w5 own5 g5 _)
          have hb5 := Below.appended hb2 hle3 hsd2 g5
          have hv1 := HVAL.out
          rw [← HK.out, if_neg hki, if_neg hki, decide_eq_false hki] at hv1
          have HW := Lib.hid (way_step HV.out hv1)
          have n1 : I < k := by omega
          have n2 : k ≤ n := by omega
          clear hv1
          go_wp2_with fail
          exact ⟨⟨k, I, r, way ++ [(x, false)], rfl, rfl, n1, n2, hq', fun z hz => hq32 z (by simp [hz]), by
            intro z hz
            rcases List.mem_append.1 hz with hz | hz
            · exact hw32 z hz
            · rw [List.mem_singleton.1 hz]; exact hq32 x (by simp), by have h1 := HQL.out; rw [HLQ.out] at h1; rw [List.length_append, List.length_singleton]; omega, HW, by unfold SidesAt; rw [List.length_append, List.length_singleton, sideVals_snoc]; exact own5, hb5⟩, by simp [lenOf]⟩
end Go.Proofs.YtheebajklnljdaaGreatDoor
end

section
/- The program's digest functions on any list and any numbers (DgE without the laws' own functions and without VerifyExtension). -/
namespace Go.Proofs.YtheebajklnljdaaGreatDoor
open Go Go.RowKit

theorem RowsAt.nil_list {w : World} {A : Option Addr} {c : Nat} : ListAt w (.slice A 0 c) [] := .inl ⟨rfl, A, c, rfl⟩

/-- Root of any list -/
theorem root_list (v : Value) (l : List (List UInt8)) (w : World) (hv : ListAt w v l) (hl : l.length ≤ 1000000) (hs : ∀ x ∈ l, x.length ≤ 900000) (hR : RoundOk w) :
    Calls Tryz.prog 44 #[v] w fun e w' => e = .returned (.string (str (rootL l))) ∧ Below w.heap.size w w' := by
  by_cases h0 : l = []
  · subst h0
    obtain ⟨A, c, rfl⟩ := hv.nil
    exact root_ok _ [] w ⟨A, c, rfl, Nat.zero_le _, fun h => absurd h (by simp [svs])⟩ (by decide) (by simp) hR
  · obtain ⟨g, o, c, rfl, hrow⟩ := hv.rows h0
    exact root_ok _ l w hrow.slice hl hs hR

/-- Extension of any list by a number that is in it -/
theorem ext_list (v : Value) (l : List (List UInt8)) (m : Nat) (w : World) (hv : ListAt w v l) (hl : l.length ≤ 1000000) (hm : m ≤ l.length) (hs : ∀ x ∈ l, x.length ≤ 900000) (hR : RoundOk w) :
    Calls Tryz.prog 53 #[v, .int .i64 m] w fun e w' => ∃ A c, e = .returned (.tuple #[.slice A (extL l m).length c, .int .i64 0]) ∧ ListAt w' (.slice A (extL l m).length c) (extL l m) ∧ Below w.heap.size w w' := by
  by_cases h0 : m = 0
  · subst h0
    obtain ⟨A, c, rfl⟩ := hv.len
    refine (ext_zero A l.length c w).mono ?_
    rintro e w' ⟨rfl, rfl⟩
    exact ⟨none, 0, rfl, .inl ⟨rfl, _, _, rfl⟩, Below.refl _ _⟩
  · obtain ⟨g, o, c, rfl, hrow⟩ := hv.rows (by rintro rfl; simp at hm; omega)
    refine (ext_ok g o l.length c l m w hrow hl (by omega) hm hs hR).mono ?_
    rintro e w' ⟨v', rfl, own, hb⟩
    have hL := listAt_own own
    obtain ⟨A, c', rfl⟩ := hL.len
    exact ⟨A, c', rfl, hL, hb⟩

theorem proof_list (v : Value) (l : List (List UInt8)) (i : Nat) (w : World) (hv : ListAt w v l) (hl : l.length ≤ 1000000) (hi : i < l.length) (hs : ∀ x ∈ l, x.length ≤ 900000) (hR : RoundOk w) :
    Calls Tryz.prog 51 #[v, .int .i64 i] w fun e w' => ∃ A c, e = .returned (.tuple #[.slice A (proofL l i).length c, .int .i64 0]) ∧ ListAt w' (.slice A (proofL l i).length c) (proofL l i) ∧ Below w.heap.size w w' := by
  obtain ⟨g, o, c, rfl, hrow⟩ := hv.rows (by rintro rfl; simp at hi)
  refine (proof_ok g o l.length c l i w hrow hl hi hs hR).mono ?_
  rintro e w' ⟨v', rfl, own, hb⟩
  have hL := listAt_own own
  obtain ⟨A, c', rfl⟩ := hL.len
  exact ⟨A, c', rfl, hL, hb⟩

/-- Verify of any numbers -/
theorem ver_any (root s : ByteArray) (n i : Int) (v : Value) (p : List (List UInt8)) (w : World) (hv : ListAt w v p) (hn : n ≤ 9223372036854775807) (hpl : p.length ≤ 100) (hs : s.size ≤ 900000) (hR : RoundOk w) :
    Calls Tryz.prog 65 #[.string root, .int .i64 n, .int .i64 i, .string s, v] w fun e w' => e = .returned (.bool (verB root.data.toList n i s.data.toList p)) ∧ Below w.heap.size w w' := by
  by_cases hi : i < 0 ∨ n ≤ i
  · exact (ver_no root s n i v p w hi).mono fun e w' ⟨he, hw⟩ => ⟨he, hw ▸ Below.refl _ _⟩
  · obtain ⟨I, rfl⟩ : ∃ I : Nat, i = (I : Int) := ⟨i.toNat, by omega⟩
    obtain ⟨N, rfl⟩ : ∃ N : Nat, n = (N : Int) := ⟨n.toNat, by omega⟩
    cases hp : p.all (fun x => decide (x.length = 32)) with
    | false => exact ver_odd root s N I v p w hv (by omega) hp
    | true => exact ver_ok root s N I v p w hv (by omega) (by omega) hpl hp hs hR
end Go.Proofs.YtheebajklnljdaaGreatDoor
end

