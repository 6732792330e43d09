/- Joined: RwsA EncR. -/
import Derived.Test.YtgbemgndbemllaaGreatDoorQMapG
import Derived.Test.YtgbemgndbemllaaGreatDoorGg
import Derived.Test.YtgbemgndbemllaaGreatDoorQValA
import Derived.Test.YtgbemgndbemllaaGreatDoorGc
import Derived.Test.YtgbemgndbemllaaGreatDoorGi
import Derived.Test.YtgbemgndbemllaaGreatDoorGh

section
/- Slices of rows (five cells an element). -/
namespace Go.Proofs.YtgbemgndbemllaaGreatDoor
open Go Go.RowKit
attribute [local go_sem] Oper.semAt_some

theorem rwC_len (r : Rw) : (rwC r).length = 5 := rfl
theorem rwC_get {r : Rw} : (rwC r)[0]? = some (.int .i64 r.table) ∧ (rwC r)[1]? = some (.int .i64 r.key) ∧ (rwC r)[2]? = some (.int .i64 r.v.1) ∧ (rwC r)[3]? = some (.int .i64 r.v.2.1) ∧ (rwC r)[4]? = some (.int .i64 r.v.2.2) := ⟨rfl, rfl, rfl, rfl, rfl⟩

/-- v is a slice of these rows, all below the heap's end -/
def RwsAt (w : World) (v : Value) (xs : List Rw) : Prop :=
  ∃ A c, v = .slice A xs.length c ∧ xs.length ≤ c ∧ (0 < xs.length → ∃ g o, A = some ⟨g, o, none⟩ ∧ g < w.heap.size ∧ ∀ (j : Nat) x, xs[j]? = some x → ∀ (i : Nat) u, (rwC x)[i]? = some u → w.cell? ⟨g, o + j * 5 + i, none⟩ = some u)

theorem RwsAt.below {w w' : World} {v : Value} {xs : List Rw} (h : RwsAt w v xs) (hb : Below w.heap.size w w') : RwsAt w' v xs := by
  obtain ⟨A, c, hv, hc, hx⟩ := h
  refine ⟨A, c, hv, hc, fun h0 => ?_⟩
  obtain ⟨g, o, hA, hlt, hj⟩ := hx h0
  exact ⟨g, o, hA, Nat.lt_of_lt_of_le hlt hb.size, fun j x hx i u hu => (hb.cell (p := ⟨g, o + j * 5 + i, none⟩) hlt).trans (hj j x hx i u hu)⟩
theorem RwsAt.form {w : World} {v : Value} {xs : List Rw} (h : RwsAt w v xs) : ∃ A c, v = .slice A xs.length c ∧ xs.length ≤ c := by
  obtain ⟨A, c, hv, hc, _⟩ := h
  exact ⟨A, c, hv, hc⟩
/-- one row of a slice -/
theorem RwsAt.at_ {w : World} {v : Value} {xs : List Rw} (h : RwsAt w v xs) {j : Nat} {x : Rw} (hx : xs[j]? = some x) :
    ∃ g o c, v = .slice (some ⟨g, o, none⟩) xs.length c ∧ xs.length ≤ c ∧ g < w.heap.size ∧ w.cell? ⟨g, o + j * 5, none⟩ = some (.int .i64 x.table) ∧ w.cell? ⟨g, o + j * 5 + 1, none⟩ = some (.int .i64 x.key) ∧
      w.cell? ⟨g, o + j * 5 + 2, none⟩ = some (.int .i64 x.v.1) ∧ w.cell? ⟨g, o + j * 5 + 3, none⟩ = some (.int .i64 x.v.2.1) ∧ w.cell? ⟨g, o + j * 5 + 4, none⟩ = some (.int .i64 x.v.2.2) := by
  obtain ⟨A, c, hv, hc, hh⟩ := h
  have hl := (List.getElem?_eq_some_iff.1 hx).1
  obtain ⟨g, o, rfl, hg, hj⟩ := hh (by omega)
  obtain ⟨e0, e1, e2, e3, e4⟩ := @rwC_get x
  exact ⟨g, o, c, hv, hc, hg, hj j x hx 0 _ e0, hj j x hx 1 _ e1, hj j x hx 2 _ e2, hj j x hx 3 _ e3, hj j x hx 4 _ e4⟩
/-- v is a row of its own with just these rows; its block is of S -/
def RwsOwn (w : World) (S : Nat → Prop) (v : Value) (l : List Rw) : Prop := w.ownsRow 0 67 5 v l.length (l.flatMap rwC) ∧ ∀ b, v.ownBlock = some b → S b
theorem RwsOwn.same {S : Nat → Prop} {w w' : World} {v : Value} {l : List Rw} (h : RwsOwn w S v l) (hs : SameOn S w w') : RwsOwn w' S v l := ⟨ownsRow_same h.1 hs h.2, h.2⟩
theorem RwsOwn.nil (w : World) (S : Nat → Prop) : RwsOwn w S (.slice none 0 0) [] := ⟨World.ownsRow_nil w _ _ _, by simp [Value.ownBlock]⟩
theorem ownsRow_rws {w : World} {base : Nat} {v : Value} {l : List Rw} (h : w.ownsRow base 67 5 v l.length (l.flatMap rwC)) : RwsAt w v l := by
  obtain ⟨A, c, rfl, hc, _, hx⟩ := ownsRow_form h
  refine ⟨A, c, rfl, hc, fun h0 => ?_⟩
  obtain ⟨g, rfl, hg, _, hj⟩ := hx h0
  refine ⟨g, 0, rfl, hg, fun j x hx i u hu => ?_⟩
  rw [Nat.zero_add]
  exact hj _ _ (flat_get rwC 5 rwC_len l j i x u hx hu)
theorem RwsOwn.rws {S : Nat → Prop} {w : World} {v : Value} {l : List Rw} (h : RwsOwn w S v l) : RwsAt w v l := ownsRow_rws h.1
end Go.Proofs.YtgbemgndbemllaaGreatDoor
end

section
/- Encode of a row. -/
namespace Go.Proofs.YtgbemgndbemllaaGreatDoor
open Go Go.RowKit
attribute [local go_sem] Oper.semAt_some

theorem rowB_ok {x : Rw} (h : rowB x.table x.key x.v = true) : (∀ n ∈ [x.table, x.key], IntOk n) ∧ ∀ n ∈ tri x.v, IntOk n := by
  have h := rowB_bnd h
  obtain ⟨t, k, a, b, c⟩ := x
  simp only [tri, List.mem_cons, List.not_mem_nil, or_false, IntOk] at h ⊢
  refine ⟨?_, ?_⟩
  · rintro n (rfl | rfl) <;> omega
  · rintro n (rfl | rfl | rfl) <;> omega
theorem encRow_len (x : Rw) : (encRow x).length ≤ 50 := by
  have h1 := putsL_len [x.table, x.key]
  have h2 := putsL_len (tri x.v)
  unfold encRow
  rw [List.length_append]
  simp [tri] at h1 h2
  simp [tri]
  omega

set_option maxRecDepth 100000 in
set_option maxHeartbeats 4000000 in
theorem encRow_ok (x : Rw) (hx : rowB x.table x.key x.v = true) (w : World) :
    Calls Tryz.prog 44 #[rwV x] w fun e w' => e = .returned (.tuple #[.string (str (encRow x)), .int .i64 0]) ∧ Below w.heap.size w w' := by
  have hv := fun W => rowValid_ok x.table x.key x.v W
  rw [hx] at hv
  obtain ⟨ok1, ok2⟩ := rowB_ok hx
  have hE : encRow x = putsL [x.table, x.key] ++ putsL (tri x.v) := rfl
  have hl1 := putsL_len [x.table, x.key]
  have hl2 := putsL_len (tri x.v)
  rw [hE]
  obtain ⟨xt, xk, x0, x1, x2⟩ := x
  unfold tri at ok2 hl2 ⊢
  dsimp only at hv ok1 ok2 hl1 hl2 hx ⊢
  obtain ⟨P1, hP1⟩ : ∃ P, P = putsL [xt, xk] := ⟨_, rfl⟩
  obtain ⟨P2, hP2⟩ : ∃ P, P = putsL [x0, x1, x2] := ⟨_, rfl⟩
  have p1 := fun W g o c hg hc => put_ok g o c [xt, xk] W hg (by simp) ok1 hc
  have p2 := fun W g o c hg hc => put_ok g o c [x0, x1, x2] W hg (by simp) ok2 hc
  simp only [← hP1] at p1
  simp only [← hP2] at p2
  rw [← hP1] at hl1 ⊢
  rw [← hP2] at hl2 ⊢
  simp only [List.length_cons, List.length_nil] at p1 p2 hl1 hl2
  have s1 : ¬ 9223372036854775807 < P1.length + P2.length := by omega
  have hcat : str P1 ++ str P2 = str (P1 ++ P2) := cat_str _ _
  have a1 := Below.alloc1 w (.cells (rwC ⟨xt, xk, x0, x1, x2⟩).toArray 67)
  have K1 := BlkIs.new w 67 (rwC ⟨xt, xk, x0, x1, x2⟩).toArray
  unfold rowV at hv
  unfold rwV
  unfold rwC at a1 K1
  dsimp only at hv a1 K1 ⊢
  have HV := Lib.hid hv
  have HP1 := Lib.hid p1
  have HP2 := Lib.hid p2
  have HCAT := Lib.hid hcat
  clear hv p1 p2 hcat ok1 ok2 hl1 hl2 hE hx hP1 hP2
  go_enter Tryz.func44, Tryz.ntmps44
  go_wp2_with fail
  generalize hw1 : w.alloc (.cells _ 67) = w1 at *
  clear hw1
  refine (HV.out w1).mono ?_
  rintro e w2 ⟨rfl, b2⟩
  have a2 := Below.next a1 b2
  have K2 := K1.later b2
  clear K1 a1 b2
  have hlt : w.heap.size < w2.heap.size := K2.lt
  have HBOX := Lib.hid (fun (W : World) (hW : Below w2.heap.size w2 W) => (show (fun W => W.cell? ⟨w.heap.size, 0, none⟩ = some (.int .i64 xt) ∧ W.cell? ⟨w.heap.size, 1, none⟩ = some (.int .i64 xk) ∧ W.cell? ⟨w.heap.size, 2, none⟩ = some (.int .i64 x0) ∧ W.cell? ⟨w.heap.size, 3, none⟩ = some (.int .i64 x1) ∧ W.cell? ⟨w.heap.size, 4, none⟩ = some (.int .i64 x2)) W from ⟨(K2.later hW).cell 0, (K2.later hW).cell 1, (K2.later hW).cell 2, (K2.later hW).cell 3, (K2.later hW).cell 4⟩))
  have Z : Below w2.heap.size w2 w2 := Below.refl _ _
  have HA := Lib.hid a2
  have hput1 := HP1.out (w2.alloc (.cells #[.int .i64 xt, .int .i64 xk] 3)).drew w2.heap.size 0 2 (show w2.heap.size < (w2.alloc (.cells #[.int .i64 xt, .int .i64 xk] 3)).heap.size by rw [World.size_alloc]; exact Nat.lt_succ_self _) (fun j u hu => by
    rw [Nat.zero_add]
    refine ((BlkIs.new w2 3 #[.int .i64 xt, .int .i64 xk]).drew.cell j).trans ?_
    match j, hu with
    | 0, hu => cases hu; rfl
    | 1, hu => cases hu; rfl)
  have hput2 := fun (W : World) (hW : Below w2.heap.size w2 W) => HP2.out W w.heap.size 2 3 (Nat.lt_of_lt_of_le hlt hW.size) (fun j u hu => by
    match j, hu with
    | 0, hu => cases hu; exact (HBOX.out W hW).2.2.1
    | 1, hu => cases hu; exact (HBOX.out W hW).2.2.2.1
    | 2, hu => cases hu; exact (HBOX.out W hW).2.2.2.2)
  have HPUT1 := Lib.hid hput1
  have HPUT2 := Lib.hid hput2
  clear a2 K2 hput1 hput2 HP1 HP2
  go_wp2_with fail
  replace Z := Below.drew Z
  refine wp_region_noPanic ?_
  refine wp_region_ord (fun W => W.cell? ⟨w.heap.size, 0, none⟩ = some (.int .i64 xt) ∧ W.cell? ⟨w.heap.size, 1, none⟩ = some (.int .i64 xk) ∧ W.cell? ⟨w.heap.size, 2, none⟩ = some (.int .i64 x0) ∧ W.cell? ⟨w.heap.size, 3, none⟩ = some (.int .i64 x1) ∧ W.cell? ⟨w.heap.size, 4, none⟩ = some (.int .i64 x2)) [(0, false), (1, false), (2, false), (3, false), (6, false), (7, false), (4, true), (5, true), (8, true), (9, true), (10, true), (11, true)] (by kernel_rfl) (by as_aux_lemma => kernel_rfl) (by rfl) (by as_aux_lemma => kernel_rfl) (fun _ _ _ _ _ h => h) (HBOX.out _ Z) (fun _ => ?_)
  repeat (first
    | (apply SeqO.take0
       case ho => exact rfl
       case hg => exact rfl
       case hy => (intro w hSw; (try dsimp only at hSw); go_simp; try with_reducible rfl)
       try simp only [Act.put, List.setIfInBounds_toArray, List.set_cons_zero, List.set_cons_succ])
    | (apply SeqO.takeG
       case ho => exact rfl
       case hg => exact rfl
       case hj => exact rfl
       case hd => exact rfl
       case ht => exact rfl
       case hy => (intro w hSw; (try dsimp only at hSw); go_simp; try with_reducible rfl)
       try simp only [Act.put, List.setIfInBounds_toArray, List.set_cons_zero, List.set_cons_succ])
    | (apply SeqO.skipG
       case ho => exact rfl
       case hg => exact rfl
       case hj => exact rfl
       case hd => exact rfl
       case ht => exact rfl
       case hne => exact rfl
       try simp only [Act.put, List.setIfInBounds_toArray, List.set_cons_zero, List.set_cons_succ])
    | (first
       | (apply SeqO.step0
          case ho => exact rfl
          case hg => exact rfl)
       | (apply SeqO.stepG
          case ho => exact rfl
          case hg => exact rfl
          case hj => exact rfl
          case hd => exact rfl
          case ht => exact rfl)
       intro K hK
       go_simp
       first
       | (go_at_call 77; (first | (with_reducible refine (HPUT1.out).mono ?_; rintro e wx ⟨rfl, bx⟩; replace Z := Below.next (Below.drew (Below.alloc1 w2 _)) bx) | (with_reducible refine (HPUT2.out _ Z).mono ?_; rintro e wx ⟨rfl, bx⟩; replace Z := Below.next Z bx) | fail); clear bx; go_wp2_with fail)
       | skip
       | fail
       refine hK.out _ _ ?_ (fun _ => ?_)
       · first | exact HBOX.out _ Z | exact HBOX.out _ (Below.alloc Z Z.size _)
       clear hK K
       try simp only [Act.put, List.setIfInBounds_toArray, List.set_cons_zero, List.set_cons_succ]))
  refine SeqO.done ?_
  refine NoPanic.normal ?_
  go_wp2_with fail
  go_ret2
  exact ⟨by rw [HCAT.out]; rfl, Below.next HA.out Z⟩
end Go.Proofs.YtgbemgndbemllaaGreatDoor
end

