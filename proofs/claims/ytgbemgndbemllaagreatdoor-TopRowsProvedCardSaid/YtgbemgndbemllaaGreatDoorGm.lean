/- Joined: LogJ LogK. -/
import Derived.Test.YtgbemgndbemllaaGreatDoorGi
import Derived.Test.YtgbemgndbemllaaGreatDoorGl
import Derived.Deep.DeepCutAuto
import Derived.Deep.CutBlock

section
/- Append of a log. -/
namespace Go.Proofs.YtgbemgndbemllaaGreatDoor
open Go Go.RowKit
attribute [local go_sem] Oper.semAt_some

theorem cell_allocd {W : World} {a : Addr} {v : Value} {o : Obj} (h : W.cell? a = some v) : (W.alloc o).cell? a = some v := (World.cell?_alloc_some W a o (by rw [h]; rfl)).trans h
theorem cell_drewd {W : World} {a : Addr} {v : Value} (h : W.cell? a = some v) : W.drew.cell? a = some v := h
theorem below_allocd {B : Nat} {a W : World} (h : Below B a W) (hB : B ≤ a.heap.size) {o : Obj} : Below B a (W.alloc o) := h.alloc (Nat.le_trans hB h.size) o

theorem below_set3 {B : Nat} {a W : World} (h : Below B a W) {g : Nat} (hg : B ≤ g) {x y z : Value} : Below B a (((W.setCell ⟨g, 0, none⟩ x).setCell ⟨g, 1, none⟩ y).setCell ⟨g, 2, none⟩ z) :=
  ((h.setCell (p := ⟨g, 0, none⟩) hg x).setCell (p := ⟨g, 1, none⟩) hg y).setCell (p := ⟨g, 2, none⟩) hg z
theorem cell_set3 {W : World} {ad : Addr} {v : Value} (h : W.cell? ad = some v) {g : Nat} (hg : g ≠ ad.block) {x y z : Value} : (((W.setCell ⟨g, 0, none⟩ x).setCell ⟨g, 1, none⟩ y).setCell ⟨g, 2, none⟩ z).cell? ad = some v := by
  rw [World.cell?_setCell_far _ _ _ _ hg, World.cell?_setCell_far _ _ _ _ hg, World.cell?_setCell_far _ _ _ _ hg]
  exact h
/-- a zero head in a new block -/
theorem zero_in (w0 : World) : BlkIs (w0.alloc (.cells #[.int .i64 0, .string ⟨#[]⟩, .string ⟨#[]⟩] 40)).drew w0.heap.size 40 [.int .i64 0, .string ⟨#[]⟩, .string ⟨#[]⟩] := BlkIs.drew (BlkIs.new w0 _ _)

set_option maxRecDepth 100000 in
set_option maxHeartbeats 8000000 in
theorem append_no {S : Nat → Prop} {b : Nat} {x : Lg} {w : World} (h : LogAt w S b x) (good : Good x) (p : Int) (A : Option Addr) (c : Nat) (l : List Chg) (st : List UInt8) (hv : ChgsAt w (.slice A l.length c) l) (hR : RoundOk w)
    (hno : (nextA (lastH x) ⟨p, l⟩ st).2 = 90) :
    Calls Tryz.prog 9 #[.pointer (some ⟨b, 0, none⟩), recV p (.slice A l.length c), .string (str st)] w fun e w' => e = .returned (.int .i64 90) ∧ Below w.heap.size w w' := by
  obtain ⟨w0, hw0⟩ : ∃ W, W = w.alloc (.cells #[.int .i64 p, .slice A l.length c] 37) := ⟨_, rfl⟩
  have hb0 : Below w.heap.size w w0 := hw0 ▸ Below.alloc (Below.refl w.heap.size w) (Nat.le_refl _) _
  have hrb : BlkIs w0 w.heap.size 37 [.int .i64 p, .slice A l.length c] := hw0 ▸ BlkIs.new w _ _
  obtain ⟨A1, c1, A2, c2, -, h1, -, l2, hb, -, hh⟩ := (h.below hb0).parts
  have hlast := good.last
  have hlen := good.len
  have hsm := good.small
  obtain ⟨g, cg, e0, hcg, hg, -, k0, k1, k2⟩ := hh.at_ hlast
  injection e0 with e1 e2 e3
  subst e1 e3
  have hz0 : (nextA (lastH x) ⟨p, l⟩ st).1 = hd0 := by
    rcases nextA_cases (lastH x) ⟨p, l⟩ st with ⟨_, _, _, _, e⟩ | ⟨_, e⟩
    · rw [e] at hno; simp at hno
    · rw [e]
  obtain ⟨y, hy⟩ : ∃ y, y = lastH x := ⟨_, rfl⟩
  rw [← hy] at k0 k1 k2
  obtain ⟨N, hN⟩ : ∃ N, N = x.heads.length := ⟨_, rfl⟩
  obtain ⟨m, hm⟩ : ∃ m, m = x.recs.length := ⟨_, rfl⟩
  rw [← hN] at h1 hlen l2
  rw [← hm] at hlen hsm k0 k1 k2
  have hnx : ∀ W : World, W.cell? ⟨b, 1, none⟩ = some (.slice (some ⟨g, 0, none⟩) N c2) → W.cell? ⟨g, m * 3, none⟩ = some (.int .i64 y.pos) → W.cell? ⟨g, m * 3 + 1, none⟩ = some (.string (str y.chain)) → W.cell? ⟨g, m * 3 + 2, none⟩ = some (.string (str y.state)) →
      W.cell? ⟨w.heap.size, 0, none⟩ = some (.int .i64 p) → W.cell? ⟨w.heap.size, 1, none⟩ = some (.slice A l.length c) → Below w0.heap.size w0 W →
      Calls Tryz.prog 28 #[hdV y, recV p (.slice A l.length c), .string (str st)] W fun e w' => e = .returned (.tuple #[hdV hd0, .int .i64 90]) ∧ (∀ H, BlkIs W H 40 [.int .i64 0, .string ⟨#[]⟩, .string ⟨#[]⟩] → BlkIs w' H 40 [.int .i64 0, .string ⟨#[]⟩, .string ⟨#[]⟩]) ∧
      w'.cell? ⟨b, 1, none⟩ = some (.slice (some ⟨g, 0, none⟩) N c2) ∧ w'.cell? ⟨g, m * 3, none⟩ = some (.int .i64 y.pos) ∧ w'.cell? ⟨g, m * 3 + 1, none⟩ = some (.string (str y.chain)) ∧ w'.cell? ⟨g, m * 3 + 2, none⟩ = some (.string (str y.state)) ∧
      w'.cell? ⟨w.heap.size, 0, none⟩ = some (.int .i64 p) ∧ w'.cell? ⟨w.heap.size, 1, none⟩ = some (.slice A l.length c) ∧ Below w0.heap.size w0 w' := by
    intro W g1 g2 g3 g4 g5 g6 g7
    have hb7 := Below.next hb0 g7
    have hn := next_ok y p A c l st W (hv.below hb7) (hR.later hb7)
    rw [hy, hno, hz0, ← hy] at hn
    exact hn.mono fun e w' ⟨he, hb⟩ => ⟨he, fun H hH => hH.later hb, (hb.cell (block_of_cell g1)).trans g1, (hb.cell (block_of_cell g2)).trans g2, (hb.cell (block_of_cell g3)).trans g3, (hb.cell (block_of_cell g4)).trans g4, (hb.cell (block_of_cell g5)).trans g5, (hb.cell (block_of_cell g6)).trans g6, Below.next g7 hb⟩
  have r0 : w0.cell? ⟨w.heap.size, 0, none⟩ = some (.int .i64 p) := hrb.cell 0
  have r1 : w0.cell? ⟨w.heap.size, 1, none⟩ = some (.slice A l.length c) := hrb.cell 1
  have hbel0 : Below w0.heap.size w0 w0 := Below.refl _ _
  have hbz : Below w0.heap.size w0 (w0.alloc (.cells #[.int .i64 0, .string ⟨#[]⟩, .string ⟨#[]⟩] 40)).drew := Below.drew (Below.alloc hbel0 (Nat.le_refl _) _)
  have i1 : (N : Int) - 1 = (m : Int) := by omega
  have i2 : (0 : Int) ≤ (m : Int) := by omega
  have i5 : IntKind.i64.wrap (m : Int) = (m : Int) := IntWalk.i64_in _ (by omega)
  have i4 : IntKind.i64.wrap ((N : Int) - 1) = (m : Int) := by rw [i1]; exact i5
  have i3 : (m : Int) < (N : Int) := by omega
  have ne1 : w0.heap.size ≠ b := by omega
  have ne2 : w0.heap.size ≠ g := by omega
  have ne3 : w0.heap.size ≠ w.heap.size := by have := hrb.lt; omega
  have HBZ := Lib.hid hbz
  clear hbz
  have HW0 := Lib.hid hw0
  have HNX := Lib.hid hnx
  have HB0 := Lib.hid hb0
  unfold hdV recV hd0 at HNX
  unfold recV
  clear h hv hR hno hw0 hb0 hrb hh hlast hz0 hnx hy hN hm hcg hlen
  go_enter Tryz.func9, Tryz.ntmps9
  go_wp2_with fail
  rw [← HW0.out]
  go_region_held3 (fun W => W.cell? ⟨b, 1, none⟩ = some (.slice (some ⟨g, 0, none⟩) N c2) ∧ W.cell? ⟨g, m * 3, none⟩ = some (.int .i64 y.pos) ∧ W.cell? ⟨g, m * 3 + 1, none⟩ = some (.string (str y.chain)) ∧ W.cell? ⟨g, m * 3 + 2, none⟩ = some (.string (str y.state)) ∧ W.cell? ⟨w.heap.size, 0, none⟩ = some (.int .i64 p) ∧ W.cell? ⟨w.heap.size, 1, none⟩ = some (.slice A l.length c) ∧ Below w0.heap.size w0 W)
    (refine ⟨?_, ?_, ?_, ?_, ?_, ?_, ?_⟩ <;> first | assumption | exact HBZ.out | (with_reducible exact cell_allocd (by assumption)) | (with_reducible exact cell_drewd (cell_allocd (by assumption))) | exact HBZ.out | (with_reducible exact Below.drew (by assumption)) | (with_reducible exact below_allocd (by assumption) (Nat.le_refl _)) | (with_reducible exact cell_set3 (by assumption) (by assumption)) | (with_reducible exact below_set3 (by assumption) (Nat.le_refl _)) | (simp [*]; done))
    (first
      | (go_at_call 28; refine (HNX.out _ ?_ ?_ ?_ ?_ ?_ ?_ ?_).mono ?_; (first | assumption | (with_reducible exact cell_allocd (by assumption)) | (with_reducible exact cell_drewd (cell_allocd (by assumption))) | (simp [*]; done)); (first | assumption | (with_reducible exact cell_allocd (by assumption)) | (with_reducible exact cell_drewd (cell_allocd (by assumption))) | (simp [*]; done)); (first | assumption | (with_reducible exact cell_allocd (by assumption)) | (with_reducible exact cell_drewd (cell_allocd (by assumption))) | (simp [*]; done)); (first | assumption | (with_reducible exact cell_allocd (by assumption)) | (with_reducible exact cell_drewd (cell_allocd (by assumption))) | (simp [*]; done)); (first | assumption | (with_reducible exact cell_allocd (by assumption)) | (with_reducible exact cell_drewd (cell_allocd (by assumption))) | (simp [*]; done)); (first | assumption | (with_reducible exact cell_allocd (by assumption)) | (with_reducible exact cell_drewd (cell_allocd (by assumption))) | (simp [*]; done)); (first | assumption | exact HBZ.out | (with_reducible exact Below.drew (by assumption)) | (with_reducible exact below_allocd (by assumption) (Nat.le_refl _)) | (with_reducible exact below_allocd (Below.drew (by assumption)) (Nat.le_refl _))); rintro e w4 ⟨rfl, bW, g1, g2, g3, g4, g5, g6, g7⟩; (try (have hH := bW w0.heap.size (by with_reducible exact zero_in w0); have z0 : w4.cell? ⟨w0.heap.size, 0, none⟩ = some (.int .i64 0) := hH.cell 0; have z1 : w4.cell? ⟨w0.heap.size, 1, none⟩ = some (.string ⟨#[]⟩) := hH.cell 1; have z2 : w4.cell? ⟨w0.heap.size, 2, none⟩ = some (.string ⟨#[]⟩) := hH.cell 2; have f0 := hH.frozen 0; have f1 := hH.frozen 1; have f2 := hH.frozen 2)))
      | fail)
  all_goals
    go_wp2_with fail
    go_ret
    first
      | exact ⟨rfl, Below.next HB0.out (below_allocd g7 (Nat.le_refl _))⟩
      | exact ⟨rfl, Below.next HB0.out (below_set3 g7 (Nat.le_refl _))⟩
end Go.Proofs.YtgbemgndbemllaaGreatDoor
end

section
/- Append of a log: the record fits. -/
namespace Go.Proofs.YtgbemgndbemllaaGreatDoor
open Go Go.RowKit
attribute [local go_sem] Oper.semAt_some

/-- what the loads of Append's last statement read -/
def Mid7 (b RB H : Nat) (rv hv : Value) (p : Int) (cv : Value) (z : Hd) (W : World) : Prop :=
  W.cell? ⟨b, 0, none⟩ = some rv ∧ W.cell? ⟨b, 1, none⟩ = some hv ∧ W.cell? ⟨RB, 0, none⟩ = some (.int .i64 p) ∧ W.cell? ⟨RB, 1, none⟩ = some cv ∧
  W.cell? ⟨H, 0, none⟩ = some (.int .i64 z.pos) ∧ W.cell? ⟨H, 1, none⟩ = some (.string (str z.chain)) ∧ W.cell? ⟨H, 2, none⟩ = some (.string (str z.state))
theorem Mid7.later {b RB H : Nat} {rv hv : Value} {p : Int} {cv : Value} {z : Hd} {W W' : World} (h : Mid7 b RB H rv hv p cv z W) (hb : Below W.heap.size W W') : Mid7 b RB H rv hv p cv z W' := by
  have f : ∀ {a : Addr} {v : Value}, W.cell? a = some v → W'.cell? a = some v := fun h => (hb.cell (block_of_cell h)).trans h
  obtain ⟨h1, h2, h3, h4, h5, h6, h7⟩ := h
  exact ⟨f h1, f h2, f h3, f h4, f h5, f h6, f h7⟩
theorem Mid7.grown {b RB H : Nat} {rv hv : Value} {p : Int} {cv : Value} {z : Hd} {W W' : World} {row : Option Nat} (h : Mid7 b RB H rv hv p cv z W) (hg : W.grownBy W' row) (n1 : some b ≠ row) (n2 : some RB ≠ row) (n3 : some H ≠ row) : Mid7 b RB H rv hv p cv z W' := by
  obtain ⟨h1, h2, h3, h4, h5, h6, h7⟩ := h
  exact ⟨hg.cell h1 n1, hg.cell h2 n1, hg.cell h3 n2, hg.cell h4 n2, hg.cell h5 n3, hg.cell h6 n3, hg.cell h7 n3⟩

set_option maxRecDepth 100000 in
set_option maxHeartbeats 8000000 in
theorem append_yes {S : Nat → Prop} {b : Nat} {x : Lg} {w : World} (h : LogAt w S b x) (good : Good x) (p : Int) (A : Option Addr) (c : Nat) (l : List Chg) (st : List UInt8) (hv : ChgsAt w (.slice A l.length c) l) (hR : RoundOk w)
    (hyes : (nextA (lastH x) ⟨p, l⟩ st).2 = 0) (hS : ∀ k, S k → k < w.heap.size) :
    Calls Tryz.prog 9 #[.pointer (some ⟨b, 0, none⟩), recV p (.slice A l.length c), .string (str st)] w fun e w' => e = .returned (.int .i64 0) ∧ LogAt w' (fun k => S k ∨ w.heap.size ≤ k) b ⟨x.recs ++ [⟨p, l⟩], x.heads ++ [(nextA (lastH x) ⟨p, l⟩ st).1]⟩ ∧ Only S w w' := by
  obtain ⟨w0, hw0⟩ : ∃ W, W = w.alloc (.cells #[.int .i64 p, .slice A l.length c] 37) := ⟨_, rfl⟩
  have hb0 : Below w.heap.size w w0 := hw0 ▸ Below.alloc (Below.refl w.heap.size w) (Nat.le_refl _) _
  have hrb : BlkIs w0 w.heap.size 37 [.int .i64 p, .slice A l.length c] := hw0 ▸ BlkIs.new w _ _
  obtain ⟨A1, c1, A2, c2, h10, h1, -, l2, hb, -, hh⟩ := (h.below hb0).parts
  have hlast := good.last
  have hlen := good.len
  have hsm := good.small
  obtain ⟨g, cg, e0, hcg, hg, -, k0, k1, k2⟩ := hh.at_ hlast
  injection e0 with e1 e2 e3
  subst e1 e3
  have hfit : recB ⟨p, l⟩ = true := by
    rcases nextA_cases (lastH x) ⟨p, l⟩ st with ⟨e, _⟩ | ⟨_, e⟩
    · exact e
    · rw [e] at hyes; simp at hyes
  obtain ⟨-, -, f1, f8⟩ := recB_pos hfit
  dsimp only at f1 f8
  obtain ⟨z, hz⟩ : ∃ z, z = (nextA (lastH x) ⟨p, l⟩ st).1 := ⟨_, rfl⟩
  rw [← hz]
  obtain ⟨rv0, hv0, hlb, hSb, ⟨ps, hps, rrow, rin, hch⟩, hrow, hin⟩ := id h
  obtain ⟨y, hy⟩ : ∃ y, y = lastH x := ⟨_, rfl⟩
  rw [← hy] at k0 k1 k2
  obtain ⟨N, hN⟩ : ∃ N, N = x.heads.length := ⟨_, rfl⟩
  obtain ⟨m, hm⟩ : ∃ m, m = x.recs.length := ⟨_, rfl⟩
  rw [← hN] at h1 hlen l2
  rw [← hm] at hlen hsm k0 k1 k2
  have hnx : ∀ W : World, W.cell? ⟨b, 1, none⟩ = some (.slice (some ⟨g, 0, none⟩) N c2) → W.cell? ⟨g, m * 3, none⟩ = some (.int .i64 y.pos) → W.cell? ⟨g, m * 3 + 1, none⟩ = some (.string (str y.chain)) → W.cell? ⟨g, m * 3 + 2, none⟩ = some (.string (str y.state)) →
      W.cell? ⟨w.heap.size, 0, none⟩ = some (.int .i64 p) → W.cell? ⟨w.heap.size, 1, none⟩ = some (.slice A l.length c) → Below w0.heap.size w0 W →
      Calls Tryz.prog 28 #[hdV y, recV p (.slice A l.length c), .string (str st)] W fun e w' => e = .returned (.tuple #[hdV z, .int .i64 0]) ∧ (∀ H, BlkIs W H 40 [.int .i64 0, .string ⟨#[]⟩, .string ⟨#[]⟩] → BlkIs w' H 40 [.int .i64 0, .string ⟨#[]⟩, .string ⟨#[]⟩]) ∧
      w'.cell? ⟨b, 1, none⟩ = some (.slice (some ⟨g, 0, none⟩) N c2) ∧ w'.cell? ⟨g, m * 3, none⟩ = some (.int .i64 y.pos) ∧ w'.cell? ⟨g, m * 3 + 1, none⟩ = some (.string (str y.chain)) ∧ w'.cell? ⟨g, m * 3 + 2, none⟩ = some (.string (str y.state)) ∧
      w'.cell? ⟨w.heap.size, 0, none⟩ = some (.int .i64 p) ∧ w'.cell? ⟨w.heap.size, 1, none⟩ = some (.slice A l.length c) ∧ Below w0.heap.size w0 w' := by
    intro W g1 g2 g3 g4 g5 g6 g7
    have hb7 := Below.next hb0 g7
    have hn := next_ok y p A c l st W (hv.below hb7) (hR.later hb7)
    rw [hy, hyes, ← hz, ← hy] at hn
    exact hn.mono fun e w' ⟨he, hb⟩ => ⟨he, fun H hH => hH.later hb, (hb.cell (block_of_cell g1)).trans g1, (hb.cell (block_of_cell g2)).trans g2, (hb.cell (block_of_cell g3)).trans g3, (hb.cell (block_of_cell g4)).trans g4, (hb.cell (block_of_cell g5)).trans g5, (hb.cell (block_of_cell g6)).trans g6, Below.next g7 hb⟩
  have r0 : w0.cell? ⟨w.heap.size, 0, none⟩ = some (.int .i64 p) := hrb.cell 0
  have r1 : w0.cell? ⟨w.heap.size, 1, none⟩ = some (.slice A l.length c) := hrb.cell 1
  have hbel0 : Below w0.heap.size w0 w0 := Below.refl _ _
  have hbz : Below w0.heap.size w0 (w0.alloc (.cells #[.int .i64 0, .string ⟨#[]⟩, .string ⟨#[]⟩] 40)).drew := Below.drew (Below.alloc hbel0 (Nat.le_refl _) _)
  have i1 : (N : Int) - 1 = (m : Int) := by omega
  have i2 : (0 : Int) ≤ (m : Int) := by omega
  have i5 : IntKind.i64.wrap (m : Int) = (m : Int) := IntWalk.i64_in _ (by omega)
  have i4 : IntKind.i64.wrap ((N : Int) - 1) = (m : Int) := by rw [i1]; exact i5
  have i3 : (m : Int) < (N : Int) := by omega
  have ne1 : w0.heap.size ≠ b := by omega
  have ne2 : w0.heap.size ≠ g := by omega
  have ne3 : w0.heap.size ≠ w.heap.size := by have := hrb.lt; omega
  have HBZ := Lib.hid hbz
  clear hbz
  have HW0 := Lib.hid hw0
  have HNX := Lib.hid hnx
  have HB0 := Lib.hid hb0
  obtain ⟨zp, zc, zs⟩ := z
  have n63 := good.len
  obtain ⟨iR, hiR, hR0, hR1, hR2⟩ := info_rec
  obtain ⟨iH, hiH, hH0, hH1, hH2⟩ := info_hd
  have hown := fun W (hW : Below w0.heap.size w0 W) => own_ok p A c l W (hv.below (Below.next hb0 hW)) f1 (by omega)
  have hsz0 : w.heap.size < w0.heap.size := by rw [hw0, World.size_alloc]; omega
  have hN10 : x.heads.length ≤ 10001 := by omega
  have hps1 : ps.length ≤ 10000 := by rw [← List.length_map (f := fun x : Rec × Value => x.1), hps]; omega
  have hps0 : ps.length = m := by rw [hm, ← hps, List.length_map]
  have hb7 : BlkIs w b 77 [rv0, hv0] := hlb
  have hrv : rv0 = .slice A1 m c1 := by
    have := (hb0.cell (p := ⟨b, 0, none⟩) hlb.lt).trans (hlb.cell 0)
    rw [h10] at this
    simpa [hm] using this.symm
  have hhv : hv0 = .slice (some ⟨g, 0, none⟩) N c2 := by
    have := (hb0.cell (p := ⟨b, 1, none⟩) hlb.lt).trans (hlb.cell 1)
    rw [h1] at this
    simpa using this.symm
  subst hrv hhv
  have aj0 : AppJ w S b (.slice A1 m c1) (.slice (some ⟨g, 0, none⟩) N c2) ps x.heads S S (.slice A1 m c1) (.slice (some ⟨g, 0, none⟩) N c2) w0 := AppJ.later ⟨Only.refl _ _, hlb, rrow, rin, hch, hrow, hin⟩ hb0
  have AJ := Lib.hid aj0
  have HOWN := Lib.hid hown
  clear hown
  have HPS := Lib.hid hps
  unfold hdV recV at HNX
  unfold recV at HOWN
  dsimp only at HNX
  unfold recV
  clear h hv hR hyes hw0 hb0 hrb hh hlast hnx hy hz hcg aj0 hps hlb rrow rin hch hrow hin hb7 h10 hfit
  clear hN hm hlen n63 hps0
  go_enter Tryz.func9, Tryz.ntmps9
  go_upto_region 3 with fail
  rw [← HW0.out]
  go_cut [7, 8] (fun s7 s8 wx => ∃ H : Nat, s7 = .pointer (some ⟨H, 0, none⟩) ∧ s8 = .int .i64 0 ∧ w0.heap.size ≤ H ∧ BlkIs wx H 40 [.int .i64 zp, .string (str zc), .string (str zs)] ∧ Below w0.heap.size w0 wx)
  case first =>
    go_region_held3 (fun W => W.cell? ⟨b, 1, none⟩ = some (.slice (some ⟨g, 0, none⟩) N c2) ∧ W.cell? ⟨g, m * 3, none⟩ = some (.int .i64 y.pos) ∧ W.cell? ⟨g, m * 3 + 1, none⟩ = some (.string (str y.chain)) ∧ W.cell? ⟨g, m * 3 + 2, none⟩ = some (.string (str y.state)) ∧ W.cell? ⟨w.heap.size, 0, none⟩ = some (.int .i64 p) ∧ W.cell? ⟨w.heap.size, 1, none⟩ = some (.slice A l.length c) ∧ Below w0.heap.size w0 W)
      (refine ⟨?_, ?_, ?_, ?_, ?_, ?_, ?_⟩ <;> first | assumption | exact HBZ.out | (with_reducible exact cell_allocd (by assumption)) | (with_reducible exact cell_drewd (cell_allocd (by assumption))) | exact HBZ.out | (with_reducible exact Below.drew (by assumption)) | (with_reducible exact below_allocd (by assumption) (Nat.le_refl _)) | (with_reducible exact cell_set3 (by assumption) (by assumption)) | (with_reducible exact below_set3 (by assumption) (Nat.le_refl _)) | (simp [*]; done))
      (first
        | (go_at_call 28; refine (HNX.out _ ?_ ?_ ?_ ?_ ?_ ?_ ?_).mono ?_; (first | assumption | (with_reducible exact cell_allocd (by assumption)) | (with_reducible exact cell_drewd (cell_allocd (by assumption))) | (simp [*]; done)); (first | assumption | (with_reducible exact cell_allocd (by assumption)) | (with_reducible exact cell_drewd (cell_allocd (by assumption))) | (simp [*]; done)); (first | assumption | (with_reducible exact cell_allocd (by assumption)) | (with_reducible exact cell_drewd (cell_allocd (by assumption))) | (simp [*]; done)); (first | assumption | (with_reducible exact cell_allocd (by assumption)) | (with_reducible exact cell_drewd (cell_allocd (by assumption))) | (simp [*]; done)); (first | assumption | (with_reducible exact cell_allocd (by assumption)) | (with_reducible exact cell_drewd (cell_allocd (by assumption))) | (simp [*]; done)); (first | assumption | (with_reducible exact cell_allocd (by assumption)) | (with_reducible exact cell_drewd (cell_allocd (by assumption))) | (simp [*]; done)); (first | assumption | exact HBZ.out | (with_reducible exact Below.drew (by assumption)) | (with_reducible exact below_allocd (by assumption) (Nat.le_refl _)) | (with_reducible exact below_allocd (Below.drew (by assumption)) (Nat.le_refl _))); rintro e w4 ⟨rfl, bW, g1, g2, g3, g4, g5, g6, g7⟩; (try (have hH := bW w0.heap.size (by with_reducible exact zero_in w0); have z0 : w4.cell? ⟨w0.heap.size, 0, none⟩ = some (.int .i64 0) := hH.cell 0; have z1 : w4.cell? ⟨w0.heap.size, 1, none⟩ = some (.string ⟨#[]⟩) := hH.cell 1; have z2 : w4.cell? ⟨w0.heap.size, 2, none⟩ = some (.string ⟨#[]⟩) := hH.cell 2; have f0 := hH.frozen 0; have f1 := hH.frozen 1; have f2 := hH.frozen 2)))
        | fail)
    all_goals
      go_wp2_with fail
      go_meet
      first
        | exact ⟨_, rfl, rfl, g7.size, BlkIs.new w4 _ _, below_allocd g7 (Nat.le_refl _)⟩
        | exact ⟨_, rfl, rfl, Nat.le_refl _, ((hH.set 0 _).set 1 _).set 2 _, below_set3 g7 (Nat.le_refl _)⟩
  case rest =>
    obtain ⟨H, rfl, rfl, hH, hB, hb1⟩ := hcut
    have b0 : wc.cell? ⟨b, 0, none⟩ = some (.slice A1 m c1) := (hb1.cell hb).trans (AJ.out.blk.cell 0)
    have b1 : wc.cell? ⟨b, 1, none⟩ = some (.slice (some ⟨g, 0, none⟩) N c2) := (hb1.cell hb).trans h1
    have x0 : wc.cell? ⟨w.heap.size, 0, none⟩ = some (.int .i64 p) := (hb1.cell (by simp; omega)).trans r0
    have x1 : wc.cell? ⟨w.heap.size, 1, none⟩ = some (.slice A l.length c) := (hb1.cell (by simp; omega)).trans r1
    have hM : Mid7 b w.heap.size H (.slice A1 m c1) (.slice (some ⟨g, 0, none⟩) N c2) p (.slice A l.length c) ⟨zp, zc, zs⟩ wc := ⟨b0, b1, x0, x1, hB.cell 0, hB.cell 1, hB.cell 2⟩
    have hA := AJ.out.later hb1
    have hHw : w.heap.size ≤ H := by omega
    have hsz : w.heap.size ≤ wc.heap.size := by have := hb1.size; omega
    clear b0 b1 x0 x1 hB r0 r1 h1 k0 k1 k2 ne1 ne2 ne3 i1 i2 i3 i4 i5 hbel0
    go_wp2_with fail
    refine wp_region_front (Mid7 b w.heap.size H (.slice A1 m c1) (.slice (some ⟨g, 0, none⟩) N c2) p (.slice A l.length c) ⟨zp, zc, zs⟩) 16 6 1 (oi := ?oiS) (v := ?vS) (by kernel_rfl) rfl ?hiS (by decide) ?hsS ?hkS ?hcS (by decide) ?hfS ?hrS ?hQS (Or.inl ⟨?hwS, ?hyS⟩) (hM.later (Below.drew (Below.refl _ _))) (fun hc inv hHeld => ?_)
    case hiS => simp only [List.getElem?_toArray, List.getElem?_cons_succ, List.getElem?_cons_zero]; rfl
    case hsS => kernel_rfl
    case hkS => kernel_rfl
    case hcS => kernel_rfl
    case hfS => kernel_rfl
    case hrS => kernel_rfl
    case hQS => exact fun _ _ _ h => h
    case hwS => rfl
    case hyS => intro w; go_simp; try with_reducible rfl
    have Aw1 := hA.drew
    have Bw1 := Below.drew hb1
    have sw1 : w.heap.size ≤ wc.drew.heap.size := hsz
    clear hM hA hb1 hsz
    generalize wc.drew = w1 at *
    simp only [List.size_toArray, List.length_cons, List.length_nil, Nat.reduceAdd, Array.replicate_succ, Array.replicate_zero, List.push_toArray, List.nil_append, List.cons_append, Act.put, List.setIfInBounds_toArray, List.set_cons_zero, List.set_cons_succ] at inv ⊢
    refine FrontH.take hc front_done inv 0 (oi := ?oi1) (v := ?v1) ?hi1 (by decide) (by decide) ?hf1 ?hr1 ?hQ1 (Or.inl ⟨?hw1, ?hy1⟩) hHeld (fun inv => ?_)
    case hi1 => simp only [List.getElem?_toArray, List.getElem?_cons_zero]; rfl
    case hf1 => kernel_rfl
    case hr1 => kernel_rfl
    case hQ1 => exact fun _ _ _ h => h
    case hw1 => rfl
    case hy1 => intro w hSw; obtain ⟨m1, m2, m3, m4, m5, m6, m7⟩ := hSw; go_simp; try with_reducible rfl
    try simp only [Act.put, List.setIfInBounds_toArray, List.set_cons_zero, List.set_cons_succ]
    refine FrontH.take hc front_done inv 2 (oi := ?oi2) (v := ?v2) ?hi2 (by decide) (by decide) ?hf2 ?hr2 ?hQ2 (Or.inl ⟨?hw2, ?hy2⟩) hHeld (fun inv => ?_)
    case hi2 => simp only [List.getElem?_toArray, List.getElem?_cons_succ, List.getElem?_cons_zero]; rfl
    case hf2 => kernel_rfl
    case hr2 => kernel_rfl
    case hQ2 => exact fun _ _ _ h => h
    case hw2 => rfl
    case hy2 => intro w hSw; obtain ⟨m1, m2, m3, m4, m5, m6, m7⟩ := hSw; go_simp; try with_reducible rfl
    try simp only [Act.put, List.setIfInBounds_toArray, List.set_cons_zero, List.set_cons_succ]
    refine FrontH.take hc front_done inv 3 (oi := ?oi3) (v := ?v3) ?hi3 (by decide) (by decide) ?hf3 ?hr3 ?hQ3 (Or.inl ⟨?hw3, ?hy3⟩) hHeld (fun inv => ?_)
    case hi3 => simp only [List.getElem?_toArray, List.getElem?_cons_succ, List.getElem?_cons_zero]; rfl
    case hf3 => kernel_rfl
    case hr3 => kernel_rfl
    case hQ3 => exact fun _ _ _ h => h
    case hw3 => rfl
    case hy3 => intro w hSw; obtain ⟨m1, m2, m3, m4, m5, m6, m7⟩ := hSw; go_simp; try with_reducible rfl
    try simp only [Act.put, List.setIfInBounds_toArray, List.set_cons_zero, List.set_cons_succ]
    refine FrontH.take hc front_done inv 4 (oi := ?oi4) (v := ?v4) ?hi4 (by decide) (by decide) ?hf4 ?hr4 ?hQ4 (Or.inl ⟨?hw4, ?hy4⟩) hHeld (fun inv => ?_)
    case hi4 => simp only [List.getElem?_toArray, List.getElem?_cons_succ, List.getElem?_cons_zero]; rfl
    case hf4 => kernel_rfl
    case hr4 => kernel_rfl
    case hQ4 => exact fun _ _ _ h => h
    case hw4 => rfl
    case hy4 => intro w hSw; obtain ⟨m1, m2, m3, m4, m5, m6, m7⟩ := hSw; go_simp; try with_reducible rfl
    try simp only [Act.put, List.setIfInBounds_toArray, List.set_cons_zero, List.set_cons_succ]
    refine FrontH.take hc front_done inv 5 (oi := ?oi5) (v := ?v5) ?hi5 (by decide) (by decide) ?hf5 ?hr5 ?hQ5 (Or.inl ⟨?hw5, ?hy5⟩) hHeld (fun inv => ?_)
    case hi5 => simp only [List.getElem?_toArray, List.getElem?_cons_succ, List.getElem?_cons_zero]; rfl
    case hf5 => kernel_rfl
    case hr5 => kernel_rfl
    case hQ5 => exact fun _ _ _ h => h
    case hw5 => rfl
    case hy5 => intro w hSw; obtain ⟨m1, m2, m3, m4, m5, m6, m7⟩ := hSw; go_simp; try with_reducible rfl
    try simp only [Act.put, List.setIfInBounds_toArray, List.set_cons_zero, List.set_cons_succ]
    refine FrontH.take hc front_done inv 6 (oi := ?oi6) (v := ?v6) ?hi6 (by decide) (by decide) ?hf6 ?hr6 ?hQ6 (Or.inl ⟨?hw6, ?hy6⟩) hHeld (fun inv => ?_)
    case hi6 => simp only [List.getElem?_toArray, List.getElem?_cons_succ, List.getElem?_cons_zero]; rfl
    case hf6 => kernel_rfl
    case hr6 => kernel_rfl
    case hQ6 => exact fun _ _ _ h => h
    case hw6 => rfl
    case hy6 => intro w hSw; obtain ⟨m1, m2, m3, m4, m5, m6, m7⟩ := hSw; go_simp; try with_reducible rfl
    try simp only [Act.put, List.setIfInBounds_toArray, List.set_cons_zero, List.set_cons_succ]
    refine FrontH.take hc front_done inv 10 (oi := ?oi7) (v := ?v7) ?hi7 (by decide) (by decide) ?hf7 ?hr7 ?hQ7 (Or.inl ⟨?hw7, ?hy7⟩) hHeld (fun inv => ?_)
    case hi7 => simp only [List.getElem?_toArray, List.getElem?_cons_succ, List.getElem?_cons_zero]; rfl
    case hf7 => kernel_rfl
    case hr7 => kernel_rfl
    case hQ7 => exact fun _ _ _ h => h
    case hw7 => rfl
    case hy7 => intro w hSw; obtain ⟨m1, m2, m3, m4, m5, m6, m7⟩ := hSw; go_simp; try with_reducible rfl
    try simp only [Act.put, List.setIfInBounds_toArray, List.set_cons_zero, List.set_cons_succ]
    refine FrontH.take hc front_done inv 11 (oi := ?oi8) (v := ?v8) ?hi8 (by decide) (by decide) ?hf8 ?hr8 ?hQ8 (Or.inl ⟨?hw8, ?hy8⟩) hHeld (fun inv => ?_)
    case hi8 => simp only [List.getElem?_toArray, List.getElem?_cons_succ, List.getElem?_cons_zero]; rfl
    case hf8 => kernel_rfl
    case hr8 => kernel_rfl
    case hQ8 => exact fun _ _ _ h => h
    case hw8 => rfl
    case hy8 => intro w hSw; obtain ⟨m1, m2, m3, m4, m5, m6, m7⟩ := hSw; go_simp; try with_reducible rfl
    try simp only [Act.put, List.setIfInBounds_toArray, List.set_cons_zero, List.set_cons_succ]
    refine FrontH.take hc front_done inv 12 (oi := ?oi9) (v := ?v9) ?hi9 (by decide) (by decide) ?hf9 ?hr9 ?hQ9 (Or.inl ⟨?hw9, ?hy9⟩) hHeld (fun inv => ?_)
    case hi9 => simp only [List.getElem?_toArray, List.getElem?_cons_succ, List.getElem?_cons_zero]; rfl
    case hf9 => kernel_rfl
    case hr9 => kernel_rfl
    case hQ9 => exact fun _ _ _ h => h
    case hw9 => rfl
    case hy9 => intro w hSw; obtain ⟨m1, m2, m3, m4, m5, m6, m7⟩ := hSw; go_simp; try with_reducible rfl
    try simp only [Act.put, List.setIfInBounds_toArray, List.set_cons_zero, List.set_cons_succ]
    refine FrontH.take hc front_done inv 13 (oi := ?oi10) (v := ?v10) ?hi10 (by decide) (by decide) ?hf10 ?hr10 ?hQ10 (Or.inl ⟨?hw10, ?hy10⟩) hHeld (fun inv => ?_)
    case hi10 => simp only [List.getElem?_toArray, List.getElem?_cons_succ, List.getElem?_cons_zero]; rfl
    case hf10 => kernel_rfl
    case hr10 => kernel_rfl
    case hQ10 => exact fun _ _ _ h => h
    case hw10 => rfl
    case hy10 => intro w hSw; obtain ⟨m1, m2, m3, m4, m5, m6, m7⟩ := hSw; go_simp; try with_reducible rfl
    try simp only [Act.put, List.setIfInBounds_toArray, List.set_cons_zero, List.set_cons_succ]
    refine FrontH.take hc front_done inv 14 (oi := ?oi11) (v := ?v11) ?hi11 (by decide) (by decide) ?hf11 ?hr11 ?hQ11 (Or.inl ⟨?hw11, ?hy11⟩) hHeld (fun inv => ?_)
    case hi11 => simp only [List.getElem?_toArray, List.getElem?_cons_succ, List.getElem?_cons_zero]; rfl
    case hf11 => kernel_rfl
    case hr11 => kernel_rfl
    case hQ11 => exact fun _ _ _ h => h
    case hw11 => rfl
    case hy11 => intro w hSw; obtain ⟨m1, m2, m3, m4, m5, m6, m7⟩ := hSw; go_simp; try with_reducible rfl
    try simp only [Act.put, List.setIfInBounds_toArray, List.set_cons_zero, List.set_cons_succ]
    refine FrontH.each (rs := [7, 15]) (by kernel_rfl) (by simp) ?_
    refine EachH.cons inv 7 (o := ?oo12) ?ho12 (by decide) (by kernel_rfl) (fun inv K hK => ?_) ?rest12
    case ho12 => simp only [List.getElem?_toArray, List.getElem?_cons_succ, List.getElem?_cons_zero]; rfl
    · go_simp
      refine (HOWN.out w1 Bw1).mono ?_
      rintro e w2 ⟨gc, cc, rfl, ownc, bn⟩
      try go_simp
      have Aw2 := Aw1.later bn
      have Mw2 := hHeld.later bn
      have Bw2 := Below.next Bw1 bn
      have sw2 : w.heap.size ≤ w2.heap.size := Nat.le_trans sw1 bn.size
      have Cw2 : ChgsOwn w2 (fun k => S k ∨ w.heap.size ≤ k) (.slice (some ⟨gc, 0, none⟩) l.length cc) l := ⟨ownsRow_base0 ownc, fun k hk => .inr (Nat.le_trans sw1 (ownc.lt k hk).1)⟩
      refine hK.out _ _ Mw2 ?_
      try simp only [List.setIfInBounds_toArray, List.set_cons_zero, List.set_cons_succ]
      clear hHeld hK K Aw1 Bw1 bn ownc
      have hHeld := Mw2
      refine FrontH.each (rs := [8, 15]) (by kernel_rfl) (by simp) ?_
      refine EachH.cons inv 8 (o := ?oo13) ?ho13 (by decide) (by kernel_rfl) (fun inv K hK => ?_) ?rest13
      case ho13 => simp only [List.getElem?_toArray, List.getElem?_cons_succ, List.getElem?_cons_zero]; rfl
      · go_simp
        have bn := Below.alloc1 w2 (.cells #[.int .i64 p, .slice (some ⟨gc, 0, none⟩) l.length cc] 37)
        have Rw30 := BlkIs.new w2 37 #[.int .i64 p, .slice (some ⟨gc, 0, none⟩) l.length cc]
        have Aw3 := Aw2.later bn
        have Mw3 := hHeld.later bn
        have Bw3 := Below.next Bw2 bn
        have sw3 := Nat.le_trans sw2 bn.size
        have Cw3 := Cw2.later bn
        refine hK.out _ _ Mw3 ?_
        try simp only [List.setIfInBounds_toArray, List.set_cons_zero, List.set_cons_succ]
        obtain ⟨w3, hw3⟩ : ∃ X, X = w2.alloc (.cells #[.int .i64 p, .slice (some ⟨gc, 0, none⟩) l.length cc] 37) := ⟨_, rfl⟩
        simp only [← hw3] at Aw3 Mw3 sw3 Rw30 Bw3 Cw3 ⊢
        obtain ⟨G40, hG40⟩ : ∃ X, X = w2.heap.size := ⟨_, rfl⟩
        rw [← hG40] at Rw30 ⊢
        have fG40 : w.heap.size ≤ G40 := by rw [hG40]; exact sw2
        have Rw3 : BlkIs w3 G40 37 [.int .i64 p, .slice (some ⟨gc, 0, none⟩) l.length cc] := Rw30
        clear hHeld hK K bn hw3 hG40 Rw30 Aw2 Bw2 Cw2
        have hHeld := Mw3
        refine FrontH.each (rs := [9, 15]) (by kernel_rfl) (by simp) ?_
        refine EachH.cons inv 9 (o := ?oo14) ?ho14 (by decide) (by kernel_rfl) (fun inv K hK => ?_) ?rest14
        case ho14 => simp only [List.getElem?_toArray, List.getElem?_cons_succ, List.getElem?_cons_zero]; rfl
        · refine step_append_lies _ (by rfl) (.tmp 37) (.tmp 40) 23 (by rfl) 0 37 iR (.agg #[.int .i64 0, .slice none 0 0]) 2 32 Tryz.underlying23 hiR hR0 hR1 hR2 rfl (by decide) (.slice A1 m c1) ps.length (ps.flatMap recCells) (by rfl) Aw3.rrow ⟨G40, 0, none⟩ 1 1 [.int .i64 p, .slice (some ⟨gc, 0, none⟩) l.length cc] (by rfl) rfl (blk_news Rw3 0 [.int .i64 p, .slice (some ⟨gc, 0, none⟩) l.length cc] rfl) (by simp [Value.oneCell']) (by decide) (by unfold maxLen; omega) (by omega) (Nat.zero_le _) w3.heap.size rfl ?_
          intro g5 cap5 w4 own5 grow5 hat5 hlt5
          have fr : ∀ k, w.heap.size ≤ k → some k ≠ (Value.slice A1 m c1).ownBlock := fun k hk e => by have := hS k (Aw3.rin k e.symm); omega
          have Aw4 := Aw3.recd (r := ⟨p, l⟩) (cv := .slice (some ⟨gc, 0, none⟩) l.length cc) grow5 own5 (hat5.imp (fun e => e.symm) (fun e => by rw [e]; rfl)) sw3 Cw3
          have Mw4 := hHeld.grown grow5 (Aw3.blk.not_row (by decide) Aw3.rrow) (fr _ (Nat.le_refl _)) (fr _ hHw)
          have sw4 : w.heap.size ≤ w4.heap.size := Nat.le_trans sw3 grow5.size
          refine hK.out _ _ Mw4 ?_
          try simp only [Act.put, List.setIfInBounds_toArray, List.set_cons_zero, List.set_cons_succ]
          clear hHeld hK K Aw3 Bw3 Cw3 Rw3 own5 grow5 hat5 hlt5 fr
          have hHeld := Mw4
          refine FrontH.each (rs := [15]) (by kernel_rfl) (by simp) ?_
          refine EachH.cons inv 15 (o := ?oo15) ?ho15 (by decide) (by kernel_rfl) (fun inv K hK => ?_) ?rest15
          case ho15 => simp only [List.getElem?_toArray, List.getElem?_cons_succ, List.getElem?_cons_zero]; rfl
          · go_simp
            have bn := Below.alloc1 w4 (.cells #[.int .i64 zp, .string (str zc), .string (str zs)] 40)
            have Hw50 := BlkIs.new w4 40 #[.int .i64 zp, .string (str zc), .string (str zs)]
            have Aw5 := Aw4.later bn
            have Mw5 := hHeld.later bn
            have sw5 := Nat.le_trans sw4 bn.size
            refine hK.out _ _ Mw5 ?_
            try simp only [List.setIfInBounds_toArray, List.set_cons_zero, List.set_cons_succ]
            obtain ⟨w5, hw5⟩ : ∃ X, X = w4.alloc (.cells #[.int .i64 zp, .string (str zc), .string (str zs)] 40) := ⟨_, rfl⟩
            simp only [← hw5] at Aw5 Mw5 sw5 Hw50 ⊢
            obtain ⟨G47, hG47⟩ : ∃ X, X = w4.heap.size := ⟨_, rfl⟩
            rw [← hG47] at Hw50 ⊢
            have fG47 : w.heap.size ≤ G47 := by rw [hG47]; exact sw4
            have Hw5 : BlkIs w5 G47 40 [.int .i64 zp, .string (str zc), .string (str zs)] := Hw50
            clear hHeld hK K bn hw5 hG47 Hw50 Aw4
            have hHeld := Mw5
            refine FrontH.each (rs := [16]) (by kernel_rfl) (by simp) ?_
            refine EachH.cons inv 16 (o := ?oo16) ?ho16 (by decide) (by kernel_rfl) (fun inv K hK => ?_) ?rest16
            case ho16 => simp only [List.getElem?_toArray, List.getElem?_cons_succ, List.getElem?_cons_zero]; rfl
            · refine step_append_lies _ (by rfl) (.tmp 45) (.tmp 47) 75 (by rfl) 0 40 iH (.agg #[.int .i64 0, .string ⟨#[]⟩, .string ⟨#[]⟩]) 3 40 Tryz.underlying75 hiH hH0 hH1 hH2 rfl (by decide) (.slice (some ⟨g, 0, none⟩) N c2) x.heads.length (x.heads.flatMap hdCells) (by rfl) Aw5.hrow ⟨G47, 0, none⟩ 1 1 [.int .i64 zp, .string (str zc), .string (str zs)] (by rfl) rfl (blk_news Hw5 0 [.int .i64 zp, .string (str zc), .string (str zs)] rfl) (by simp [Value.oneCell']) (by decide) (by unfold maxLen; omega) (by omega) (Nat.zero_le _) w5.heap.size rfl ?_
              intro g6 cap6 w6 own6 grow6 hat6 hlt6
              have fr : ∀ k, w.heap.size ≤ k → some k ≠ (Value.slice (some ⟨g, 0, none⟩) N c2).ownBlock := fun k hk e => by have := hS k (Aw5.hin k e.symm); omega
              have Aw6 := Aw5.head (y := ⟨zp, zc, zs⟩) grow6 own6 (hat6.imp (fun e => e.symm) (fun e => by rw [e]; rfl)) sw5
              have Mw6 := hHeld.grown grow6 (Aw5.blk.not_row (by decide) Aw5.hrow) (fr _ (Nat.le_refl _)) (fr _ hHw)
              refine hK.out _ _ Mw6 ?_
              try simp only [Act.put, List.setIfInBounds_toArray, List.set_cons_zero, List.set_cons_succ]
              obtain ⟨n1, n2, -⟩ := Mw6
              have n3 := Aw6.blk.frozen 0
              have n4 := Aw6.blk.frozen 1
              obtain ⟨hL, hO⟩ := Aw6.close hSb
              have HL := Lib.hid hL
              have HO := Lib.hid hO
              clear hHeld hK K Aw5 Hw5 own6 grow6 hat6 hlt6 fr Aw6 hL hO
              refine ⟨by kernel_rfl, ?_⟩
              simp only [List.drop_succ_cons, List.drop_zero]
              go_wp2_with fail
              go_ret
              refine ⟨rfl, ?_, HO.out⟩
              have hL := HL.out
              rw [List.map_append, HPS.out] at hL
              exact hL
            exact EachH.nil
          exact EachH.nil
        refine EachH.cons inv 15 (o := ?oo17) ?ho17 (by decide) (by kernel_rfl) (fun inv K hK => ?_) ?rest17
        case ho17 => simp only [List.getElem?_toArray, List.getElem?_cons_succ, List.getElem?_cons_zero]; rfl
        · go_simp
          have bn := Below.alloc1 w3 (.cells #[.int .i64 zp, .string (str zc), .string (str zs)] 40)
          have Hw40 := BlkIs.new w3 40 #[.int .i64 zp, .string (str zc), .string (str zs)]
          have Aw4 := Aw3.later bn
          have Mw4 := hHeld.later bn
          have Bw4 := Below.next Bw3 bn
          have sw4 := Nat.le_trans sw3 bn.size
          have Cw4 := Cw3.later bn
          have Rw4 := Rw3.later bn
          refine hK.out _ _ Mw4 ?_
          try simp only [List.setIfInBounds_toArray, List.set_cons_zero, List.set_cons_succ]
          obtain ⟨w4, hw4⟩ : ∃ X, X = w3.alloc (.cells #[.int .i64 zp, .string (str zc), .string (str zs)] 40) := ⟨_, rfl⟩
          simp only [← hw4] at Aw4 Mw4 sw4 Hw40 Bw4 Cw4 Rw4 ⊢
          obtain ⟨G47, hG47⟩ : ∃ X, X = w3.heap.size := ⟨_, rfl⟩
          rw [← hG47] at Hw40 ⊢
          have fG47 : w.heap.size ≤ G47 := by rw [hG47]; exact sw3
          have Hw4 : BlkIs w4 G47 40 [.int .i64 zp, .string (str zc), .string (str zs)] := Hw40
          clear hHeld hK K bn hw4 hG47 Hw40 Aw3 Bw3 Cw3 Rw3
          have hHeld := Mw4
          refine FrontH.each (rs := [9]) (by kernel_rfl) (by simp) ?_
          refine EachH.cons inv 9 (o := ?oo18) ?ho18 (by decide) (by kernel_rfl) (fun inv K hK => ?_) ?rest18
          case ho18 => simp only [List.getElem?_toArray, List.getElem?_cons_succ, List.getElem?_cons_zero]; rfl
          · refine step_append_lies _ (by rfl) (.tmp 37) (.tmp 40) 23 (by rfl) 0 37 iR (.agg #[.int .i64 0, .slice none 0 0]) 2 32 Tryz.underlying23 hiR hR0 hR1 hR2 rfl (by decide) (.slice A1 m c1) ps.length (ps.flatMap recCells) (by rfl) Aw4.rrow ⟨G40, 0, none⟩ 1 1 [.int .i64 p, .slice (some ⟨gc, 0, none⟩) l.length cc] (by rfl) rfl (blk_news Rw4 0 [.int .i64 p, .slice (some ⟨gc, 0, none⟩) l.length cc] rfl) (by simp [Value.oneCell']) (by decide) (by unfold maxLen; omega) (by omega) (Nat.zero_le _) w4.heap.size rfl ?_
            intro g5 cap5 w5 own5 grow5 hat5 hlt5
            have fr : ∀ k, w.heap.size ≤ k → some k ≠ (Value.slice A1 m c1).ownBlock := fun k hk e => by have := hS k (Aw4.rin k e.symm); omega
            have Aw5 := Aw4.recd (r := ⟨p, l⟩) (cv := .slice (some ⟨gc, 0, none⟩) l.length cc) grow5 own5 (hat5.imp (fun e => e.symm) (fun e => by rw [e]; rfl)) sw4 Cw4
            have Mw5 := hHeld.grown grow5 (Aw4.blk.not_row (by decide) Aw4.rrow) (fr _ (Nat.le_refl _)) (fr _ hHw)
            have sw5 : w.heap.size ≤ w5.heap.size := Nat.le_trans sw4 grow5.size
            have Hw5 := Hw4.kept grow5 (fr _ fG47)
            refine hK.out _ _ Mw5 ?_
            try simp only [Act.put, List.setIfInBounds_toArray, List.set_cons_zero, List.set_cons_succ]
            clear hHeld hK K Aw4 Bw4 Cw4 Rw4 own5 grow5 hat5 hlt5 fr Hw4
            have hHeld := Mw5
            refine FrontH.each (rs := [16]) (by kernel_rfl) (by simp) ?_
            refine EachH.cons inv 16 (o := ?oo19) ?ho19 (by decide) (by kernel_rfl) (fun inv K hK => ?_) ?rest19
            case ho19 => simp only [List.getElem?_toArray, List.getElem?_cons_succ, List.getElem?_cons_zero]; rfl
            · refine step_append_lies _ (by rfl) (.tmp 45) (.tmp 47) 75 (by rfl) 0 40 iH (.agg #[.int .i64 0, .string ⟨#[]⟩, .string ⟨#[]⟩]) 3 40 Tryz.underlying75 hiH hH0 hH1 hH2 rfl (by decide) (.slice (some ⟨g, 0, none⟩) N c2) x.heads.length (x.heads.flatMap hdCells) (by rfl) Aw5.hrow ⟨G47, 0, none⟩ 1 1 [.int .i64 zp, .string (str zc), .string (str zs)] (by rfl) rfl (blk_news Hw5 0 [.int .i64 zp, .string (str zc), .string (str zs)] rfl) (by simp [Value.oneCell']) (by decide) (by unfold maxLen; omega) (by omega) (Nat.zero_le _) w5.heap.size rfl ?_
              intro g6 cap6 w6 own6 grow6 hat6 hlt6
              have fr : ∀ k, w.heap.size ≤ k → some k ≠ (Value.slice (some ⟨g, 0, none⟩) N c2).ownBlock := fun k hk e => by have := hS k (Aw5.hin k e.symm); omega
              have Aw6 := Aw5.head (y := ⟨zp, zc, zs⟩) grow6 own6 (hat6.imp (fun e => e.symm) (fun e => by rw [e]; rfl)) sw5
              have Mw6 := hHeld.grown grow6 (Aw5.blk.not_row (by decide) Aw5.hrow) (fr _ (Nat.le_refl _)) (fr _ hHw)
              refine hK.out _ _ Mw6 ?_
              try simp only [Act.put, List.setIfInBounds_toArray, List.set_cons_zero, List.set_cons_succ]
              obtain ⟨n1, n2, -⟩ := Mw6
              have n3 := Aw6.blk.frozen 0
              have n4 := Aw6.blk.frozen 1
              obtain ⟨hL, hO⟩ := Aw6.close hSb
              have HL := Lib.hid hL
              have HO := Lib.hid hO
              clear hHeld hK K Aw5 Hw5 own6 grow6 hat6 hlt6 fr Aw6 hL hO
              refine ⟨by kernel_rfl, ?_⟩
              simp only [List.drop_succ_cons, List.drop_zero]
              go_wp2_with fail
              go_ret
              refine ⟨rfl, ?_, HO.out⟩
              have hL := HL.out
              rw [List.map_append, HPS.out] at hL
              exact hL
            exact EachH.nil
          exact EachH.nil
        exact EachH.nil
      refine EachH.cons inv 15 (o := ?oo20) ?ho20 (by decide) (by kernel_rfl) (fun inv K hK => ?_) ?rest20
      case ho20 => simp only [List.getElem?_toArray, List.getElem?_cons_succ, List.getElem?_cons_zero]; rfl
      · go_simp
        have bn := Below.alloc1 w2 (.cells #[.int .i64 zp, .string (str zc), .string (str zs)] 40)
        have Hw30 := BlkIs.new w2 40 #[.int .i64 zp, .string (str zc), .string (str zs)]
        have Aw3 := Aw2.later bn
        have Mw3 := hHeld.later bn
        have Bw3 := Below.next Bw2 bn
        have sw3 := Nat.le_trans sw2 bn.size
        have Cw3 := Cw2.later bn
        refine hK.out _ _ Mw3 ?_
        try simp only [List.setIfInBounds_toArray, List.set_cons_zero, List.set_cons_succ]
        obtain ⟨w3, hw3⟩ : ∃ X, X = w2.alloc (.cells #[.int .i64 zp, .string (str zc), .string (str zs)] 40) := ⟨_, rfl⟩
        simp only [← hw3] at Aw3 Mw3 sw3 Hw30 Bw3 Cw3 ⊢
        obtain ⟨G47, hG47⟩ : ∃ X, X = w2.heap.size := ⟨_, rfl⟩
        rw [← hG47] at Hw30 ⊢
        have fG47 : w.heap.size ≤ G47 := by rw [hG47]; exact sw2
        have Hw3 : BlkIs w3 G47 40 [.int .i64 zp, .string (str zc), .string (str zs)] := Hw30
        clear hHeld hK K bn hw3 hG47 Hw30 Aw2 Bw2 Cw2
        have hHeld := Mw3
        refine FrontH.each (rs := [8]) (by kernel_rfl) (by simp) ?_
        refine EachH.cons inv 8 (o := ?oo21) ?ho21 (by decide) (by kernel_rfl) (fun inv K hK => ?_) ?rest21
        case ho21 => simp only [List.getElem?_toArray, List.getElem?_cons_succ, List.getElem?_cons_zero]; rfl
        · go_simp
          have bn := Below.alloc1 w3 (.cells #[.int .i64 p, .slice (some ⟨gc, 0, none⟩) l.length cc] 37)
          have Rw40 := BlkIs.new w3 37 #[.int .i64 p, .slice (some ⟨gc, 0, none⟩) l.length cc]
          have Aw4 := Aw3.later bn
          have Mw4 := hHeld.later bn
          have Bw4 := Below.next Bw3 bn
          have sw4 := Nat.le_trans sw3 bn.size
          have Cw4 := Cw3.later bn
          have Hw4 := Hw3.later bn
          refine hK.out _ _ Mw4 ?_
          try simp only [List.setIfInBounds_toArray, List.set_cons_zero, List.set_cons_succ]
          obtain ⟨w4, hw4⟩ : ∃ X, X = w3.alloc (.cells #[.int .i64 p, .slice (some ⟨gc, 0, none⟩) l.length cc] 37) := ⟨_, rfl⟩
          simp only [← hw4] at Aw4 Mw4 sw4 Rw40 Bw4 Cw4 Hw4 ⊢
          obtain ⟨G40, hG40⟩ : ∃ X, X = w3.heap.size := ⟨_, rfl⟩
          rw [← hG40] at Rw40 ⊢
          have fG40 : w.heap.size ≤ G40 := by rw [hG40]; exact sw3
          have Rw4 : BlkIs w4 G40 37 [.int .i64 p, .slice (some ⟨gc, 0, none⟩) l.length cc] := Rw40
          clear hHeld hK K bn hw4 hG40 Rw40 Aw3 Bw3 Cw3 Hw3
          have hHeld := Mw4
          refine FrontH.each (rs := [9]) (by kernel_rfl) (by simp) ?_
          refine EachH.cons inv 9 (o := ?oo22) ?ho22 (by decide) (by kernel_rfl) (fun inv K hK => ?_) ?rest22
          case ho22 => simp only [List.getElem?_toArray, List.getElem?_cons_succ, List.getElem?_cons_zero]; rfl
          · refine step_append_lies _ (by rfl) (.tmp 37) (.tmp 40) 23 (by rfl) 0 37 iR (.agg #[.int .i64 0, .slice none 0 0]) 2 32 Tryz.underlying23 hiR hR0 hR1 hR2 rfl (by decide) (.slice A1 m c1) ps.length (ps.flatMap recCells) (by rfl) Aw4.rrow ⟨G40, 0, none⟩ 1 1 [.int .i64 p, .slice (some ⟨gc, 0, none⟩) l.length cc] (by rfl) rfl (blk_news Rw4 0 [.int .i64 p, .slice (some ⟨gc, 0, none⟩) l.length cc] rfl) (by simp [Value.oneCell']) (by decide) (by unfold maxLen; omega) (by omega) (Nat.zero_le _) w4.heap.size rfl ?_
            intro g5 cap5 w5 own5 grow5 hat5 hlt5
            have fr : ∀ k, w.heap.size ≤ k → some k ≠ (Value.slice A1 m c1).ownBlock := fun k hk e => by have := hS k (Aw4.rin k e.symm); omega
            have Aw5 := Aw4.recd (r := ⟨p, l⟩) (cv := .slice (some ⟨gc, 0, none⟩) l.length cc) grow5 own5 (hat5.imp (fun e => e.symm) (fun e => by rw [e]; rfl)) sw4 Cw4
            have Mw5 := hHeld.grown grow5 (Aw4.blk.not_row (by decide) Aw4.rrow) (fr _ (Nat.le_refl _)) (fr _ hHw)
            have sw5 : w.heap.size ≤ w5.heap.size := Nat.le_trans sw4 grow5.size
            have Hw5 := Hw4.kept grow5 (fr _ fG47)
            refine hK.out _ _ Mw5 ?_
            try simp only [Act.put, List.setIfInBounds_toArray, List.set_cons_zero, List.set_cons_succ]
            clear hHeld hK K Aw4 Bw4 Cw4 Rw4 own5 grow5 hat5 hlt5 fr Hw4
            have hHeld := Mw5
            refine FrontH.each (rs := [16]) (by kernel_rfl) (by simp) ?_
            refine EachH.cons inv 16 (o := ?oo23) ?ho23 (by decide) (by kernel_rfl) (fun inv K hK => ?_) ?rest23
            case ho23 => simp only [List.getElem?_toArray, List.getElem?_cons_succ, List.getElem?_cons_zero]; rfl
            · refine step_append_lies _ (by rfl) (.tmp 45) (.tmp 47) 75 (by rfl) 0 40 iH (.agg #[.int .i64 0, .string ⟨#[]⟩, .string ⟨#[]⟩]) 3 40 Tryz.underlying75 hiH hH0 hH1 hH2 rfl (by decide) (.slice (some ⟨g, 0, none⟩) N c2) x.heads.length (x.heads.flatMap hdCells) (by rfl) Aw5.hrow ⟨G47, 0, none⟩ 1 1 [.int .i64 zp, .string (str zc), .string (str zs)] (by rfl) rfl (blk_news Hw5 0 [.int .i64 zp, .string (str zc), .string (str zs)] rfl) (by simp [Value.oneCell']) (by decide) (by unfold maxLen; omega) (by omega) (Nat.zero_le _) w5.heap.size rfl ?_
              intro g6 cap6 w6 own6 grow6 hat6 hlt6
              have fr : ∀ k, w.heap.size ≤ k → some k ≠ (Value.slice (some ⟨g, 0, none⟩) N c2).ownBlock := fun k hk e => by have := hS k (Aw5.hin k e.symm); omega
              have Aw6 := Aw5.head (y := ⟨zp, zc, zs⟩) grow6 own6 (hat6.imp (fun e => e.symm) (fun e => by rw [e]; rfl)) sw5
              have Mw6 := hHeld.grown grow6 (Aw5.blk.not_row (by decide) Aw5.hrow) (fr _ (Nat.le_refl _)) (fr _ hHw)
              refine hK.out _ _ Mw6 ?_
              try simp only [Act.put, List.setIfInBounds_toArray, List.set_cons_zero, List.set_cons_succ]
              obtain ⟨n1, n2, -⟩ := Mw6
              have n3 := Aw6.blk.frozen 0
              have n4 := Aw6.blk.frozen 1
              obtain ⟨hL, hO⟩ := Aw6.close hSb
              have HL := Lib.hid hL
              have HO := Lib.hid hO
              clear hHeld hK K Aw5 Hw5 own6 grow6 hat6 hlt6 fr Aw6 hL hO
              refine ⟨by kernel_rfl, ?_⟩
              simp only [List.drop_succ_cons, List.drop_zero]
              go_wp2_with fail
              go_ret
              refine ⟨rfl, ?_, HO.out⟩
              have hL := HL.out
              rw [List.map_append, HPS.out] at hL
              exact hL
            exact EachH.nil
          exact EachH.nil
        exact EachH.nil
      exact EachH.nil
    refine EachH.cons inv 15 (o := ?oo24) ?ho24 (by decide) (by kernel_rfl) (fun inv K hK => ?_) ?rest24
    case ho24 => simp only [List.getElem?_toArray, List.getElem?_cons_succ, List.getElem?_cons_zero]; rfl
    · go_simp
      have bn := Below.alloc1 w1 (.cells #[.int .i64 zp, .string (str zc), .string (str zs)] 40)
      have Hw20 := BlkIs.new w1 40 #[.int .i64 zp, .string (str zc), .string (str zs)]
      have Aw2 := Aw1.later bn
      have Mw2 := hHeld.later bn
      have Bw2 := Below.next Bw1 bn
      have sw2 := Nat.le_trans sw1 bn.size
      refine hK.out _ _ Mw2 ?_
      try simp only [List.setIfInBounds_toArray, List.set_cons_zero, List.set_cons_succ]
      obtain ⟨w2, hw2⟩ : ∃ X, X = w1.alloc (.cells #[.int .i64 zp, .string (str zc), .string (str zs)] 40) := ⟨_, rfl⟩
      simp only [← hw2] at Aw2 Mw2 sw2 Hw20 Bw2 ⊢
      obtain ⟨G47, hG47⟩ : ∃ X, X = w1.heap.size := ⟨_, rfl⟩
      rw [← hG47] at Hw20 ⊢
      have fG47 : w.heap.size ≤ G47 := by rw [hG47]; exact sw1
      have Hw2 : BlkIs w2 G47 40 [.int .i64 zp, .string (str zc), .string (str zs)] := Hw20
      clear hHeld hK K bn hw2 hG47 Hw20 Aw1 Bw1
      have hHeld := Mw2
      refine FrontH.each (rs := [7]) (by kernel_rfl) (by simp) ?_
      refine EachH.cons inv 7 (o := ?oo25) ?ho25 (by decide) (by kernel_rfl) (fun inv K hK => ?_) ?rest25
      case ho25 => simp only [List.getElem?_toArray, List.getElem?_cons_succ, List.getElem?_cons_zero]; rfl
      · go_simp
        refine (HOWN.out w2 Bw2).mono ?_
        rintro e w3 ⟨gc, cc, rfl, ownc, bn⟩
        try go_simp
        have Aw3 := Aw2.later bn
        have Mw3 := hHeld.later bn
        have Bw3 := Below.next Bw2 bn
        have sw3 : w.heap.size ≤ w3.heap.size := Nat.le_trans sw2 bn.size
        have Cw3 : ChgsOwn w3 (fun k => S k ∨ w.heap.size ≤ k) (.slice (some ⟨gc, 0, none⟩) l.length cc) l := ⟨ownsRow_base0 ownc, fun k hk => .inr (Nat.le_trans sw2 (ownc.lt k hk).1)⟩
        have Hw3 := Hw2.later bn
        refine hK.out _ _ Mw3 ?_
        try simp only [List.setIfInBounds_toArray, List.set_cons_zero, List.set_cons_succ]
        clear hHeld hK K Aw2 Bw2 bn ownc Hw2
        have hHeld := Mw3
        refine FrontH.each (rs := [8]) (by kernel_rfl) (by simp) ?_
        refine EachH.cons inv 8 (o := ?oo26) ?ho26 (by decide) (by kernel_rfl) (fun inv K hK => ?_) ?rest26
        case ho26 => simp only [List.getElem?_toArray, List.getElem?_cons_succ, List.getElem?_cons_zero]; rfl
        · go_simp
          have bn := Below.alloc1 w3 (.cells #[.int .i64 p, .slice (some ⟨gc, 0, none⟩) l.length cc] 37)
          have Rw40 := BlkIs.new w3 37 #[.int .i64 p, .slice (some ⟨gc, 0, none⟩) l.length cc]
          have Aw4 := Aw3.later bn
          have Mw4 := hHeld.later bn
          have Bw4 := Below.next Bw3 bn
          have sw4 := Nat.le_trans sw3 bn.size
          have Cw4 := Cw3.later bn
          have Hw4 := Hw3.later bn
          refine hK.out _ _ Mw4 ?_
          try simp only [List.setIfInBounds_toArray, List.set_cons_zero, List.set_cons_succ]
          obtain ⟨w4, hw4⟩ : ∃ X, X = w3.alloc (.cells #[.int .i64 p, .slice (some ⟨gc, 0, none⟩) l.length cc] 37) := ⟨_, rfl⟩
          simp only [← hw4] at Aw4 Mw4 sw4 Rw40 Bw4 Cw4 Hw4 ⊢
          obtain ⟨G40, hG40⟩ : ∃ X, X = w3.heap.size := ⟨_, rfl⟩
          rw [← hG40] at Rw40 ⊢
          have fG40 : w.heap.size ≤ G40 := by rw [hG40]; exact sw3
          have Rw4 : BlkIs w4 G40 37 [.int .i64 p, .slice (some ⟨gc, 0, none⟩) l.length cc] := Rw40
          clear hHeld hK K bn hw4 hG40 Rw40 Aw3 Bw3 Cw3 Hw3
          have hHeld := Mw4
          refine FrontH.each (rs := [9]) (by kernel_rfl) (by simp) ?_
          refine EachH.cons inv 9 (o := ?oo27) ?ho27 (by decide) (by kernel_rfl) (fun inv K hK => ?_) ?rest27
          case ho27 => simp only [List.getElem?_toArray, List.getElem?_cons_succ, List.getElem?_cons_zero]; rfl
          · refine step_append_lies _ (by rfl) (.tmp 37) (.tmp 40) 23 (by rfl) 0 37 iR (.agg #[.int .i64 0, .slice none 0 0]) 2 32 Tryz.underlying23 hiR hR0 hR1 hR2 rfl (by decide) (.slice A1 m c1) ps.length (ps.flatMap recCells) (by rfl) Aw4.rrow ⟨G40, 0, none⟩ 1 1 [.int .i64 p, .slice (some ⟨gc, 0, none⟩) l.length cc] (by rfl) rfl (blk_news Rw4 0 [.int .i64 p, .slice (some ⟨gc, 0, none⟩) l.length cc] rfl) (by simp [Value.oneCell']) (by decide) (by unfold maxLen; omega) (by omega) (Nat.zero_le _) w4.heap.size rfl ?_
            intro g5 cap5 w5 own5 grow5 hat5 hlt5
            have fr : ∀ k, w.heap.size ≤ k → some k ≠ (Value.slice A1 m c1).ownBlock := fun k hk e => by have := hS k (Aw4.rin k e.symm); omega
            have Aw5 := Aw4.recd (r := ⟨p, l⟩) (cv := .slice (some ⟨gc, 0, none⟩) l.length cc) grow5 own5 (hat5.imp (fun e => e.symm) (fun e => by rw [e]; rfl)) sw4 Cw4
            have Mw5 := hHeld.grown grow5 (Aw4.blk.not_row (by decide) Aw4.rrow) (fr _ (Nat.le_refl _)) (fr _ hHw)
            have sw5 : w.heap.size ≤ w5.heap.size := Nat.le_trans sw4 grow5.size
            have Hw5 := Hw4.kept grow5 (fr _ fG47)
            refine hK.out _ _ Mw5 ?_
            try simp only [Act.put, List.setIfInBounds_toArray, List.set_cons_zero, List.set_cons_succ]
            clear hHeld hK K Aw4 Bw4 Cw4 Rw4 own5 grow5 hat5 hlt5 fr Hw4
            have hHeld := Mw5
            refine FrontH.each (rs := [16]) (by kernel_rfl) (by simp) ?_
            refine EachH.cons inv 16 (o := ?oo28) ?ho28 (by decide) (by kernel_rfl) (fun inv K hK => ?_) ?rest28
            case ho28 => simp only [List.getElem?_toArray, List.getElem?_cons_succ, List.getElem?_cons_zero]; rfl
            · refine step_append_lies _ (by rfl) (.tmp 45) (.tmp 47) 75 (by rfl) 0 40 iH (.agg #[.int .i64 0, .string ⟨#[]⟩, .string ⟨#[]⟩]) 3 40 Tryz.underlying75 hiH hH0 hH1 hH2 rfl (by decide) (.slice (some ⟨g, 0, none⟩) N c2) x.heads.length (x.heads.flatMap hdCells) (by rfl) Aw5.hrow ⟨G47, 0, none⟩ 1 1 [.int .i64 zp, .string (str zc), .string (str zs)] (by rfl) rfl (blk_news Hw5 0 [.int .i64 zp, .string (str zc), .string (str zs)] rfl) (by simp [Value.oneCell']) (by decide) (by unfold maxLen; omega) (by omega) (Nat.zero_le _) w5.heap.size rfl ?_
              intro g6 cap6 w6 own6 grow6 hat6 hlt6
              have fr : ∀ k, w.heap.size ≤ k → some k ≠ (Value.slice (some ⟨g, 0, none⟩) N c2).ownBlock := fun k hk e => by have := hS k (Aw5.hin k e.symm); omega
              have Aw6 := Aw5.head (y := ⟨zp, zc, zs⟩) grow6 own6 (hat6.imp (fun e => e.symm) (fun e => by rw [e]; rfl)) sw5
              have Mw6 := hHeld.grown grow6 (Aw5.blk.not_row (by decide) Aw5.hrow) (fr _ (Nat.le_refl _)) (fr _ hHw)
              refine hK.out _ _ Mw6 ?_
              try simp only [Act.put, List.setIfInBounds_toArray, List.set_cons_zero, List.set_cons_succ]
              obtain ⟨n1, n2, -⟩ := Mw6
              have n3 := Aw6.blk.frozen 0
              have n4 := Aw6.blk.frozen 1
              obtain ⟨hL, hO⟩ := Aw6.close hSb
              have HL := Lib.hid hL
              have HO := Lib.hid hO
              clear hHeld hK K Aw5 Hw5 own6 grow6 hat6 hlt6 fr Aw6 hL hO
              refine ⟨by kernel_rfl, ?_⟩
              simp only [List.drop_succ_cons, List.drop_zero]
              go_wp2_with fail
              go_ret
              refine ⟨rfl, ?_, HO.out⟩
              have hL := HL.out
              rw [List.map_append, HPS.out] at hL
              exact hL
            exact EachH.nil
          exact EachH.nil
        exact EachH.nil
      exact EachH.nil
    exact EachH.nil
end Go.Proofs.YtgbemgndbemllaaGreatDoor
end

