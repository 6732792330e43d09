/- The walk of SessionMatchesReference. -/
import Derived.Test.YtejehdmllicfcaaDoorSesS
import Derived.Test.YtejehdmllicfcaaDoorSesQ
import Derived.Test.YtejehdmllicfcaaDoorRefS
namespace Go.Proofs.YtejehdmllicfcaaDoor
open Go Go.RowKit

/-- both sessions hold the token t, the call's block holds the step, nothing else has turned -/
def RSt (w : World) (g r q : Nat) (x : Step) (t : Int) (W : World) : Prop :=
  SesIs W g t ∧ RefIs W r t ∧ BlkIs W q 30 [.bool x.w, .int .i64 x.a, .int .i64 x.b] ∧ Below w.heap.size w W

section
variable {w : World} {g r q : Nat} {x : Step} {t : Int} {W W' : World}
theorem RSt.drew (h : RSt w g r q x t W) : RSt w g r q x t W.drew := ⟨BlkIs.drew h.1, BlkIs.drew h.2.1, h.2.2.1.drew, h.2.2.2.drew⟩
theorem RSt.drewN (h : RSt w g r q x t W) (n : Nat) : RSt w g r q x t (W.drewN n) := ⟨BlkIs.drewN h.1 n, BlkIs.drewN h.2.1 n, h.2.2.1.drewN n, below_drewN' h.2.2.2 n⟩
theorem RSt.later (h : RSt w g r q x t W) (hb : Below W.heap.size W W') : RSt w g r q x t W' := ⟨h.1.later hb, h.2.1.later hb, h.2.2.1.later hb, Below.next h.2.2.2 hb⟩
theorem RSt.cells (h : RSt w g r q x t W) : W.cell? ⟨q, 0, none⟩ = some (.bool x.w) ∧ W.cell? ⟨q, 1, none⟩ = some (.int .i64 x.a) ∧ W.cell? ⟨q, 2, none⟩ = some (.int .i64 x.b) ∧ W.cell? ⟨r, 0, none⟩ = some (.int .i64 t) :=
  ⟨h.2.2.1.cell 0, h.2.2.1.cell 1, h.2.2.1.cell 2, h.2.1.cell⟩
end

theorem ne_blk {W : World} {g r : Nat} {t u : TypeId} {cs ds : List Value} (h : BlkIs W g t cs) (k : BlkIs W r u ds) (htu : t ≠ u) : g ≠ r := by
  rintro rfl
  have := (show W.heap[g]? = _ from h).symm.trans (show W.heap[g]? = _ from k)
  simp at this
  exact htu this.2

theorem RSt.step {w : World} {g r q : Nat} {x : Step} {t u : Int} {W W1 W2 : World} (h : RSt w g r q x t W) (gg : w.heap.size ≤ g) (gr : w.heap.size ≤ r) (h1 : SesIs W1 g u) (u1 : Upd g W W1) (h2 : RefIs W2 r u) (u2 : Upd r W1 W2) : RSt w g r q x u W2 := by
  obtain ⟨a, b, c, d⟩ := h
  have n1 : q ≠ g := ne_blk c a (by decide)
  have n2 : q ≠ r := ne_blk c b (by decide)
  have n3 : g ≠ r := ne_blk a b (by decide)
  exact ⟨BlkIs.upd h1 u2 n3, h2, (c.upd u1 n1).upd u2 n2, Below.upd (Below.upd d u1 gg) u2 gr⟩

set_option maxRecDepth 100000 in
set_option maxHeartbeats 4000000 in
theorem match_any (A : Option Addr) (c : Nat) (xs : List Step) (w : World) (hT : TabOk w) (h0 : StepsAt w (.slice A xs.length c) xs) :
    Calls Tryd.prog 3 #[.slice A xs.length c] w fun e w' => e = .returned (.bool true) ∧ Below w.heap.size w w' := by
  have HT := Lib.hid hT
  clear hT
  go_enter Tryd.func3, Tryd.ntmps3
  go_wp2_with fail
  refine (sane_any _ HT.out).mono ?_
  rintro e w1 ⟨rfl, b1⟩
  go_wp2_with fail
  refine (newS _).mono ?_
  rintro e w2 ⟨rfl, hw⟩
  obtain ⟨g, hg⟩ : ∃ g, g = w1.heap.size := ⟨_, rfl⟩
  have s2 : SesIs w2 g 0 := by rw [hw, hg]; exact BlkIs.new _ _ _
  have b2 : Below w.heap.size w w2 := by rw [hw]; exact Below.next b1 ((Below.refl _ w1).alloc (Nat.le_refl _) _)
  have gg : w.heap.size ≤ g := by rw [hg]; exact b1.size
  rw [← hg]
  clear hw hg b1
  have r3 : RefIs (w2.alloc (.cells #[.int .i64 0] 28)) w2.heap.size 0 := BlkIs.new _ _ _
  have s3 : SesIs (w2.alloc (.cells #[.int .i64 0] 28)) g 0 := BlkIs.alloc s2 _
  have b3 : Below w.heap.size w (w2.alloc (.cells #[.int .i64 0] 28)) := b2.alloc b2.size _
  have gr : w.heap.size ≤ w2.heap.size := b2.size
  go_wp2_with fail
  generalize w2.alloc (.cells #[.int .i64 0] 28) = w3 at *
  generalize w2.heap.size = r at *
  clear s2 b2
  go_loopw [6] (fun iv wr => ∃ (k : Nat) (t : Int), k ≤ xs.length ∧ iv = .int .i64 k ∧ TokS t ∧ SesIs wr g t ∧ RefIs wr r t ∧ Below w.heap.size w wr) (fun iv _ => xs.length - (intOf iv).toNat)
  case atStart => exact ⟨0, 0, by omega, rfl, ⟨by omega, by omega⟩, s3, r3, b3⟩
  case round =>
    clear s3 r3 b3
    obtain ⟨k, t, hk, rfl, ht, hs, hr, hb⟩ := hrel
    by_cases hgo : k < xs.length ∧ k < 40
    · obtain ⟨hkn, hk40⟩ := hgo
      have hd : decide ((k : Int) < (xs.length : Int)) = true := by simp; omega
      have hd2 : decide ((k : Int) < 40) = true := by simp; omega
      obtain ⟨x, hx⟩ : ∃ x, xs[k]? = some x := ⟨_, List.getElem?_eq_getElem hkn⟩
      obtain ⟨ad, rfl, -, c0, c1, c2⟩ := (h0.below hb).at_ hx
      have q1 : (0 : Int) ≤ (k : Int) := by omega
      have q2 : (k : Int) < (xs.length : Int) := by omega
      have HX := Lib.hid hx
      clear hx
      have z0 : RSt w g r wr.heap.size x t (wr.alloc (.cells #[.bool x.w, .int .i64 x.a, .int .i64 x.b] 30)) :=
        ⟨BlkIs.alloc hs _, BlkIs.alloc hr _, BlkIs.new _ _ _, hb.alloc hb.size _⟩
      go_wp2_with fail
      generalize wr.alloc (.cells #[.bool x.w, .int .i64 x.a, .int .i64 x.b] 30) = W0 at *
      generalize wr.heap.size = q at *
      clear c0 c1 c2 hs hr hb h0
      obtain ⟨o0, o1, o2, o3⟩ := z0.cells
      have hne : (allowsS t x.a x.b != allowsS t x.a x.b) = false := by simp
      go_region_held3 (fun w' => w'.cell? ⟨q, 1, none⟩ = some (.int .i64 x.a) ∧ w'.cell? ⟨q, 2, none⟩ = some (.int .i64 x.b)) (refine ⟨?_, ?_⟩ <;> first | assumption | (simp [*]; done))
        (first
          | (go_at_call 13; refine (answer_any x.a x.b _).mono ?_; rintro e W1 ⟨rfl, k1⟩; have z1 := RSt.later (w := w) (g := g) (r := r) (q := q) (x := x) (t := t) (by first | assumption | exact RSt.drew (by assumption) | exact RSt.drewN (by assumption) _) k1; obtain ⟨o0, o1, o2, o3⟩ := z1.cells)
          | (go_at_call 12; refine (allows_ok _ g t x.a x.b (by first | exact z1.1 | exact (RSt.drew z1).1 | exact (RSt.drewN z1 _).1) _ _ _ _ _ _ _ _ _ _ _ _ _).mono ?_; rintro e W1 ⟨rfl, k1⟩; have z1 := RSt.later (w := w) (g := g) (r := r) (q := q) (x := x) (t := t) (by first | assumption | exact RSt.drew (by assumption) | exact RSt.drewN (by assumption) _) k1; obtain ⟨o0, o1, o2, o3⟩ := z1.cells)
          | (go_at_call 14; refine (rAllows_ok _ r t x.a x.b (by first | exact z1.2.1 | exact (RSt.drew z1).2.1 | exact (RSt.drewN z1 _).2.1) _ _ _ _ _ _ _ _ _ _ _ _ _).mono ?_; rintro e W1 ⟨rfl, k1⟩; have z1 := RSt.later (w := w) (g := g) (r := r) (q := q) (x := x) (t := t) (by first | assumption | exact RSt.drew (by assumption) | exact RSt.drewN (by assumption) _) k1; obtain ⟨o0, o1, o2, o3⟩ := z1.cells))
      have n1 : q ≠ g := ne_blk z1.2.2.1 z1.1 (by decide)
      have n2 : q ≠ r := ne_blk z1.2.2.1 z1.2.1 (by decide)
      have n3 : r ≠ g := ne_blk z1.2.1 z1.1 (by decide)
      go_wp2_with fail
      · refine (wrote_ok _ g t x.a z1.1).mono ?_
        rintro e W2 ⟨rfl, hs2, hu2⟩
        have c1 : W2.cell? ⟨q, 1, none⟩ = some (.int .i64 x.a) := (z1.2.2.1.upd hu2 n1).cell 1
        have r2 : RefIs W2 r t := BlkIs.upd z1.2.1 hu2 n3
        go_wp2_with fail
        refine (rWrote_ok _ r t x.a r2).mono ?_
        rintro e W3 ⟨rfl, hr3, hu3⟩
        have z9 := RSt.step z1 gg gr hs2 hu2 hr3 hu3
        have HU := wroteS_tok (n := x.a) ht
        generalize wroteS t x.a = u at *
        clear r2 c1 hs2 hu2 hr3 hu3
        have hu' := z9
        have ht9 : TokS u := by first | exact HU
        have huu : (u != u) = false := by simp
        have hee : (encS u != encS u) = false := by simp
        have o3 := z9.cells.2.2.2
        have hT9 := HT.out.later z9.2.2.2
        have HT9 := Lib.hid hT9
        clear hT9
        go_wp2_with fail
        go_region_held3 (fun w' => w'.cell? ⟨r, 0, none⟩ = some (.int .i64 u)) (first | assumption | (simp [*]; done))
          (first
            | (go_at_call 19; refine (tokenS _ g u (by first | exact z9.1 | exact (RSt.drew z9).1 | exact (RSt.drewN z9 _).1)).mono ?_; rintro e w' ⟨rfl, rfl⟩)
            | (go_at_call 20; refine (encode_ok _ g u (by first | exact z9.1 | exact (RSt.drew z9).1 | exact (RSt.drewN z9 _).1) ht9 (by first | exact HT9.out | exact HT9.out.later ((Below.refl _ _).drew))).mono ?_; rintro e W7 ⟨rfl, k7⟩; have z7 : RSt w g r q x u W7 := by first | exact RSt.later z9 k7 | exact RSt.later (RSt.drew z9) k7 | exact RSt.later (RSt.drewN z9 _) k7
               have o3 := z7.cells.2.2.2)
            | (go_at_call 21; refine (rEncode_ok _ r u (by first | exact z7.2.1 | exact (RSt.drew z7).2.1 | exact (RSt.drewN z7 _).2.1) ht9).mono ?_; rintro e W8 ⟨rfl, k8⟩; have z8 : RSt w g r q x u W8 := by first | exact RSt.later z7 k8 | exact RSt.later (RSt.drew z7) k8 | exact RSt.later (RSt.drewN z7 _) k8
               have o3 := z8.cells.2.2.2))
        go_wp2_with fail
        go_roundw
        case rel => exact ⟨k + 1, u, by omega, by go_num, ht9, z8.1, z8.2.1, z8.2.2.2⟩
        case measure => simp [intOf]; omega
      · refine (answer_any x.a x.b _).mono ?_
        rintro e W2 ⟨rfl, k2⟩
        have z2 := RSt.later z1 k2
        obtain ⟨p0, p1, p2, p3⟩ := z2.cells
        go_wp2_with fail
        refine (accept_ok _ g t x.a x.b z2.1 _ _ _ _ _ _ _ _ _ _ _ _ _).mono ?_
        rintro e W3 ⟨rfl, hs3, hu3⟩
        have c1 : W3.cell? ⟨q, 1, none⟩ = some (.int .i64 x.a) := (z2.2.2.1.upd hu3 n1).cell 1
        have c2 : W3.cell? ⟨q, 2, none⟩ = some (.int .i64 x.b) := (z2.2.2.1.upd hu3 n1).cell 2
        have r3 : RefIs W3 r t := BlkIs.upd z2.2.1 hu3 n3
        go_wp2_with fail
        refine (answer_any x.a x.b _).mono ?_
        rintro e W4 ⟨rfl, k4⟩
        have hs4 := hs3.later k4
        have r4 := r3.later k4
        have hu4 := hu3.trans (Upd.of_below k4)
        clear c1 c2 r3 hs3 hu3
        go_wp2_with fail
        refine (rAccept_ok _ r t x.a x.b r4 _ _ _ _ _ _ _ _ _ _ _ _ _).mono ?_
        rintro e W5 ⟨rfl, hr5, hu5⟩
        have z9 := RSt.step z2 gg gr hs4 hu4 hr5 hu5
        have HU := acceptT_tok (a := x.a) (b := x.b) ht
        have hvv : (acceptV t x.a x.b != acceptV t x.a x.b) = false := by simp
        generalize acceptT t x.a x.b = u at *
        clear r4 hs4 hu4 hr5 hu5
        go_wp2_with fail
        have hu' := z9
        have ht9 : TokS u := by first | exact HU
        have huu : (u != u) = false := by simp
        have hee : (encS u != encS u) = false := by simp
        have o3 := z9.cells.2.2.2
        have hT9 := HT.out.later z9.2.2.2
        have HT9 := Lib.hid hT9
        clear hT9
        go_wp2_with fail
        go_region_held3 (fun w' => w'.cell? ⟨r, 0, none⟩ = some (.int .i64 u)) (first | assumption | (simp [*]; done))
          (first
            | (go_at_call 19; refine (tokenS _ g u (by first | exact z9.1 | exact (RSt.drew z9).1 | exact (RSt.drewN z9 _).1)).mono ?_; rintro e w' ⟨rfl, rfl⟩)
            | (go_at_call 20; refine (encode_ok _ g u (by first | exact z9.1 | exact (RSt.drew z9).1 | exact (RSt.drewN z9 _).1) ht9 (by first | exact HT9.out | exact HT9.out.later ((Below.refl _ _).drew))).mono ?_; rintro e W7 ⟨rfl, k7⟩; have z7 : RSt w g r q x u W7 := by first | exact RSt.later z9 k7 | exact RSt.later (RSt.drew z9) k7 | exact RSt.later (RSt.drewN z9 _) k7
               have o3 := z7.cells.2.2.2)
            | (go_at_call 21; refine (rEncode_ok _ r u (by first | exact z7.2.1 | exact (RSt.drew z7).2.1 | exact (RSt.drewN z7 _).2.1) ht9).mono ?_; rintro e W8 ⟨rfl, k8⟩; have z8 : RSt w g r q x u W8 := by first | exact RSt.later z7 k8 | exact RSt.later (RSt.drew z7) k8 | exact RSt.later (RSt.drewN z7 _) k8
               have o3 := z8.cells.2.2.2))
        go_wp2_with fail
        go_roundw
        case rel => exact ⟨k + 1, u, by omega, by go_num, ht9, z8.1, z8.2.1, z8.2.2.2⟩
        case measure => simp [intOf]; omega
    · have hdd : (k < xs.length ∧ ¬ k < 40) ∨ ¬ k < xs.length := by omega
      clear hgo hk
      rcases hdd with ⟨hd, hd2⟩ | hd
      all_goals
        go_wp2_with fail
        go_ret
        exact ⟨rfl, hb⟩
end Go.Proofs.YtejehdmllicfcaaDoor
