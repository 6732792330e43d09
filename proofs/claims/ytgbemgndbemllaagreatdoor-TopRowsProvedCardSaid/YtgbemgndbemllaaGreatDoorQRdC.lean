/- The reference's Apply. -/
import Derived.Test.YtgbemgndbemllaaGreatDoorGn
import Derived.Test.YtgbemgndbemllaaGreatDoorGj
import Derived.Test.YtgbemgndbemllaaGreatDoorGp
import Derived.Test.YtgbemgndbemllaaGreatDoorQR3B
import Derived.Deep.DeepCutAuto
import Derived.Deep.CutBlock
namespace Go.Proofs.YtgbemgndbemllaaGreatDoor
open Go Go.RowKit Go.Shelf
attribute [local go_sem] Oper.semAt_some

theorem getV_eq (o : Option Rw) : getV o = rwV (o.getD rw0) := by cases o <;> rfl
theorem flat_drop5 : ∀ (l : List Rw) (m : Nat), (l.drop m).flatMap rwC = (l.flatMap rwC).drop (m * 5)
  | l, 0 => by simp
  | [], m + 1 => by simp
  | x :: l, m + 1 => by
    rw [List.drop_succ_cons, flat_drop5 l m, List.flatMap_cons, show (m + 1) * 5 = (rwC x).length + m * 5 by rw [rwC_len]; omega, List.drop_append]
    simp
theorem flat_take5 : ∀ (l : List Rw) (m : Nat), (l.take m).flatMap rwC = (l.flatMap rwC).take (m * 5)
  | l, 0 => by simp
  | [], m + 1 => by simp
  | x :: l, m + 1 => by
    rw [List.take_succ_cons, List.flatMap_cons, flat_take5 l m, List.flatMap_cons, show (m + 1) * 5 = (rwC x).length + m * 5 by rw [rwC_len]; omega, List.take_append, List.take_of_length_le (Nat.le_add_right _ _)]
    simp
/-- a row's cells behind an append elsewhere -/
theorem cells_grown {w w' : World} {row : Option Nat} {gl : Nat} {us : List Value} (hg : w.grownBy w' row) (hne : some gl ≠ row) (h : ∀ (j : Nat) u, us[j]? = some u → w.cell? ⟨gl, j, none⟩ = some u) : ∀ (j : Nat) u, us[j]? = some u → w'.cell? ⟨gl, j, none⟩ = some u :=
  fun j u hu => hg.cell (h j u hu) hne
theorem cells_take {w : World} {gl : Nat} {L : List Rw} (h : ∀ (j : Nat) u, (L.flatMap rwC)[j]? = some u → w.cell? ⟨gl, j, none⟩ = some u) (m : Nat) :
    ∀ (j : Nat) u, ((L.take m).flatMap rwC)[j]? = some u → w.cell? ((⟨gl, 0, none⟩ : Addr).add j) = some u := fun j u hu => by
  rw [flat_take5, List.getElem?_take] at hu
  split at hu
  · rw [add_zero_off]
    exact h j u hu
  · cases hu
theorem cells_drop {w : World} {gl : Nat} {L : List Rw} (h : ∀ (j : Nat) u, (L.flatMap rwC)[j]? = some u → w.cell? ⟨gl, j, none⟩ = some u) (m : Nat) :
    ∀ (j : Nat) u, ((L.drop m).flatMap rwC)[j]? = some u → w.cell? ((⟨gl, m * 5, none⟩ : Addr).add j) = some u := fun j u hu => by
  rw [flat_drop5, List.getElem?_drop] at hu
  rw [show (⟨gl, m * 5, none⟩ : Addr).add j = ⟨gl, m * 5 + j, none⟩ by unfold Addr.add; split <;> simp_all]
  exact h _ u hu
/-- what Apply yields -/
def ApOut (w : World) (b : Nat) (s : StT) (p : Int) (l : List Chg) (e : Ending) (w' : World) : Prop :=
  (fitsB s ⟨p, l⟩ = false ∧ e = .returned (.int .i64 40) ∧ Below w.heap.size w w') ∨ (fitsB s ⟨p, l⟩ = true ∧ e = .returned (.int .i64 0) ∧ RSt w' b ⟨l.foldl appC s.rows, p⟩ ∧ Only (fun j => j = b) w w')
set_option maxRecDepth 100000 in
set_option maxHeartbeats 16000000 in
theorem rApply_ok (b : Nat) (s : StT) (p : Int) (A : Option Addr) (c : Nat) (l : List Chg) (w : World) (hS : RSt w b s) (g : GoodS s) (hp1 : 0 ≤ s.pos) (hp2 : s.pos ≤ 100000) (hv : ChgsAt w (.slice A l.length c) l) (hA : ∀ a, A = some a → a.block ≠ b) :
    Calls Tryz.prog 22 #[.pointer (some ⟨b, 0, none⟩), recV p (.slice A l.length c)] w fun e w' => ApOut w b s p l e w' := by
  have al0 := Below.alloc1 w (.cells #[.int .i64 p, .slice A l.length c] 37)
  have K0 := BlkIs.new w 37 #[.int .i64 p, .slice A l.length c]
  have hS0 := hS.later al0
  have hv0 := hv.below al0
  unfold recV
  obtain ⟨w0, hw0⟩ : ∃ w0, w0 = w.alloc (.cells #[.int .i64 p, .slice A l.length c] 37) := ⟨_, rfl⟩
  rw [← hw0] at al0 K0 hS0 hv0
  have hrec := fun W (hW : Below w0.heap.size w0 W) => rrec_ok p A c l W (hv0.below hW)
  obtain ⟨B, hB⟩ : ∃ B, B = recB ⟨p, l⟩ := ⟨_, rfl⟩
  obtain ⟨E, hE⟩ : ∃ E, E = decide (p = s.pos + 1) := ⟨_, rfl⟩
  have hfit : fitsB s ⟨p, l⟩ = (B && E && (l.all (hitB s.rows) && decide ((s.rows.length : Int) + difs l ≤ 2000))) := by
    unfold fitsB; rw [hB, hE]
  have hpf : fitsB s ⟨p, l⟩ = true → ∀ (k : Nat) x, l[k]? = some x → SortS ((l.take k).foldl appC s.rows) ∧ ((l.take k).foldl appC s.rows).length ≤ 2008 ∧ hitB ((l.take k).foldl appC s.rows) x = true := fun hf k x hx => by
    obtain ⟨h1, h2, h3, h4⟩ := fitsB_parts hf
    have := fit_prefix g hf k
    exact ⟨this.1, this.2.2, hits_on g.sort (recB_asc h1) h3 k x hx⟩
  have HPF := Lib.hid hpf
  have hasc : B = true → 1 ≤ l.length ∧ l.length ≤ 8 := by
    intro e
    rw [e] at hB
    have h2 := hB.symm
    unfold recB at h2
    simp only [Bool.and_eq_true, decide_eq_true_eq] at h2
    exact ⟨h2.1.2.1, h2.1.2.2⟩
  unfold recV at hrec
  rw [← hB] at hrec
  have HFIT := Lib.hid hfit
  have HREC := Lib.hid hrec
  have HASC := Lib.hid hasc
  have HW0 := Lib.hid hw0
  have HS0 := Lib.hid hS0
  have HV0 := Lib.hid hv0
  have HK := Lib.hid K0
  have HG := Lib.hid g
  have HA := Lib.hid al0
  have HAA := Lib.hid hA
  have HBL := Lib.hid hS.lt
  obtain ⟨q, hq⟩ : ∃ q, q = s.pos + 1 := ⟨_, rfl⟩
  have t0 : IntKind.i64.wrap (s.pos + 1) = q := by rw [hq]; simp [IntKind.wrap, IntKind.bits, IntKind.signed]; omega
  have t1 : (p != q) = !E := by rw [hE, hq]; rfl
  have hsm := g.small
  have hlt0 : w.heap.size < w0.heap.size := K0.lt
  obtain ⟨v0, Kb0, own0⟩ := hS0.own
  have HBOX := Lib.hid (fun (W : World) (hW : Below w0.heap.size w0 W) => (show (fun W => W.cell? ⟨w.heap.size, 0, none⟩ = some (.int .i64 p) ∧ W.cell? ⟨b, 1, none⟩ = some (.int .i64 s.pos)) W from ⟨(K0.later hW).cell 0, (Kb0.later hW).cell 1⟩))
  have HKB := Lib.hid Kb0
  have HOWN := Lib.hid own0
  have c0 : w0.cell? ⟨w.heap.size, 0, none⟩ = some (.int .i64 p) := K0.cell 0
  have c1 : w0.cell? ⟨w.heap.size, 1, none⟩ = some (.slice A l.length c) := K0.cell 1
  clear hrec hasc hS0 hv0 K0 g al0 hB hE hfit hS hv hq hpf hA Kb0 own0
  go_enter Tryz.func22, Tryz.ntmps22
  go_wp2_with fail
  rw [← HW0.out]
  clear HW0 hw0
  refine (HREC.out w0 (Below.refl _ _)).mono ?_
  rintro e w1 ⟨rfl, b1⟩
  have Z := b1
  clear b1 HREC c0 c1
  go_wp2_with fail
  cases B
  case false =>
    replace Z := Below.drew Z
    refine wp_region_noPanic ?_
    refine wp_region_ord (fun W => W.cell? ⟨w.heap.size, 0, none⟩ = some (.int .i64 p) ∧ W.cell? ⟨b, 1, none⟩ = some (.int .i64 s.pos)) [(0, true), (1, true), (2, true), (3, false), (4, false), (5, false), (6, false), (7, false), (8, false), (9, true), (10, true), (11, true)] (by kernel_rfl) (by as_aux_lemma => kernel_rfl) (by rfl) (by as_aux_lemma => kernel_rfl) (fun _ _ _ _ _ h => h) (HBOX.out _ Z) (fun _ => ?_)
    repeat (first
      | (apply SeqO.take0
         case ho => exact rfl
         case hg => exact rfl
         case hy => (intro w hSw; (try dsimp only at hSw); go_simp; try with_reducible rfl)
         try simp only [Act.put, List.setIfInBounds_toArray, List.set_cons_zero, List.set_cons_succ])
      | (apply SeqO.takeG
         case ho => exact rfl
         case hg => exact rfl
         case hj => exact rfl
         case hd => exact rfl
         case ht => exact rfl
         case hy => (intro w hSw; (try dsimp only at hSw); go_simp; try with_reducible rfl)
         try simp only [Act.put, List.setIfInBounds_toArray, List.set_cons_zero, List.set_cons_succ])
      | (apply SeqO.skipG
         case ho => exact rfl
         case hg => exact rfl
         case hj => exact rfl
         case hd => exact rfl
         case ht => exact rfl
         case hne => exact rfl
         try simp only [Act.put, List.setIfInBounds_toArray, List.set_cons_zero, List.set_cons_succ])
      | (first
         | (apply SeqO.step0
            case ho => exact rfl
            case hg => exact rfl)
         | (apply SeqO.stepG
            case ho => exact rfl
            case hg => exact rfl
            case hj => exact rfl
            case hd => exact rfl
            case ht => exact rfl)
         intro K hK
         go_simp
         first
         | skip
         | fail
         refine hK.out _ _ ?_ (fun _ => ?_)
         · exact HBOX.out _ Z
         clear hK K
         try simp only [Act.put, List.setIfInBounds_toArray, List.set_cons_zero, List.set_cons_succ]))
    refine SeqO.done ?_
    refine NoPanic.normal ?_
    go_wp2_with fail
    go_ret
    exact .inl ⟨by rw [HFIT.out]; rfl, rfl, Below.next HA.out Z⟩
  case true =>
    obtain ⟨l1, l8⟩ := HASC.out rfl
    cases E
    case false =>
      replace Z := Below.drew Z
      refine wp_region_noPanic ?_
      refine wp_region_ord (fun W => W.cell? ⟨w.heap.size, 0, none⟩ = some (.int .i64 p) ∧ W.cell? ⟨b, 1, none⟩ = some (.int .i64 s.pos)) [(0, true), (1, true), (2, true), (3, false), (4, false), (5, false), (6, false), (7, false), (8, false), (9, true), (10, true), (11, true)] (by kernel_rfl) (by as_aux_lemma => kernel_rfl) (by rfl) (by as_aux_lemma => kernel_rfl) (fun _ _ _ _ _ h => h) (HBOX.out _ Z) (fun _ => ?_)
      repeat (first
        | (apply SeqO.take0
           case ho => exact rfl
           case hg => exact rfl
           case hy => (intro w hSw; (try dsimp only at hSw); go_simp; try with_reducible rfl)
           try simp only [Act.put, List.setIfInBounds_toArray, List.set_cons_zero, List.set_cons_succ])
        | (apply SeqO.takeG
           case ho => exact rfl
           case hg => exact rfl
           case hj => exact rfl
           case hd => exact rfl
           case ht => exact rfl
           case hy => (intro w hSw; (try dsimp only at hSw); go_simp; try with_reducible rfl)
           try simp only [Act.put, List.setIfInBounds_toArray, List.set_cons_zero, List.set_cons_succ])
        | (apply SeqO.skipG
           case ho => exact rfl
           case hg => exact rfl
           case hj => exact rfl
           case hd => exact rfl
           case ht => exact rfl
           case hne => exact rfl
           try simp only [Act.put, List.setIfInBounds_toArray, List.set_cons_zero, List.set_cons_succ])
        | (first
           | (apply SeqO.step0
              case ho => exact rfl
              case hg => exact rfl)
           | (apply SeqO.stepG
              case ho => exact rfl
              case hg => exact rfl
              case hj => exact rfl
              case hd => exact rfl
              case ht => exact rfl)
           intro K hK
           go_simp
           first
           | skip
           | fail
           refine hK.out _ _ ?_ (fun _ => ?_)
           · exact HBOX.out _ Z
           clear hK K
           try simp only [Act.put, List.setIfInBounds_toArray, List.set_cons_zero, List.set_cons_succ]))
      refine SeqO.done ?_
      refine NoPanic.normal ?_
      go_wp2_with fail
      go_ret
      exact .inl ⟨by rw [HFIT.out]; rfl, rfl, Below.next HA.out Z⟩
    case true =>
      replace Z := Below.drew Z
      refine wp_region_noPanic ?_
      refine wp_region_ord (fun W => W.cell? ⟨w.heap.size, 0, none⟩ = some (.int .i64 p) ∧ W.cell? ⟨b, 1, none⟩ = some (.int .i64 s.pos)) [(0, true), (1, true), (2, true), (3, false), (4, false), (5, false), (6, false), (7, false), (8, false), (9, true), (10, true), (11, true)] (by kernel_rfl) (by as_aux_lemma => kernel_rfl) (by rfl) (by as_aux_lemma => kernel_rfl) (fun _ _ _ _ _ h => h) (HBOX.out _ Z) (fun _ => ?_)
      repeat (first
        | (apply SeqO.take0
           case ho => exact rfl
           case hg => exact rfl
           case hy => (intro w hSw; (try dsimp only at hSw); go_simp; try with_reducible rfl)
           try simp only [Act.put, List.setIfInBounds_toArray, List.set_cons_zero, List.set_cons_succ])
        | (apply SeqO.takeG
           case ho => exact rfl
           case hg => exact rfl
           case hj => exact rfl
           case hd => exact rfl
           case ht => exact rfl
           case hy => (intro w hSw; (try dsimp only at hSw); go_simp; try with_reducible rfl)
           try simp only [Act.put, List.setIfInBounds_toArray, List.set_cons_zero, List.set_cons_succ])
        | (apply SeqO.skipG
           case ho => exact rfl
           case hg => exact rfl
           case hj => exact rfl
           case hd => exact rfl
           case ht => exact rfl
           case hne => exact rfl
           try simp only [Act.put, List.setIfInBounds_toArray, List.set_cons_zero, List.set_cons_succ])
        | (first
           | (apply SeqO.step0
              case ho => exact rfl
              case hg => exact rfl)
           | (apply SeqO.stepG
              case ho => exact rfl
              case hg => exact rfl
              case hj => exact rfl
              case hd => exact rfl
              case ht => exact rfl)
           intro K hK
           go_simp
           first
           | skip
           | fail
           refine hK.out _ _ ?_ (fun _ => ?_)
           · exact HBOX.out _ Z
           clear hK K
           try simp only [Act.put, List.setIfInBounds_toArray, List.set_cons_zero, List.set_cons_succ]))
      refine SeqO.done ?_
      refine NoPanic.normal ?_
      clear HBOX t0 t1 HASC
      obtain ⟨vA, vc, rfl, -⟩ := ownsRow_form HOWN.out
      have k0 : w1.drew.cell? ⟨b, 0, none⟩ = some (.slice vA s.rows.length vc) := (HKB.out.later Z).cell 0
      have k1 : w1.drew.cell? ⟨w.heap.size, 1, none⟩ = some (.slice A l.length c) := (HK.out.later Z).cell 1
      have HZ := Lib.hid Z
      clear Z
      go_wp2_with fail
      clear k0 k1
      have hlZ := HZ.out.size
      go_loopw [6, 7] (fun sv iv wr => ∃ k : Nat, k ≤ l.length ∧ iv = .int .i64 k ∧ sv = .int .i64 ((s.rows.length : Int) + difs (l.take k)) ∧ Hid ((l.take k).all (hitB s.rows) = true) ∧ Hid (Below w0.heap.size w0 wr)) (fun _ iv _ => l.length - (intOf iv).toNat)
      case atStart => exact ⟨0, by omega, rfl, by simp [difs], Lib.hid rfl, Lib.hid HZ.out⟩
      case round =>
        clear HZ hlZ
        obtain ⟨k, hk, rfl, rfl, HH, HB⟩ := hrel
        by_cases h1 : k < l.length
        case pos =>
          obtain ⟨⟨xt, xk, had, ⟨o0, o1, o2⟩, has, ⟨n0, n1, n2⟩⟩, hx⟩ : ∃ x, l[k]? = some x := ⟨_, List.getElem?_eq_getElem h1⟩
          have hd1 := difs_bounds (l.take k)
          rw [List.length_take, Nat.min_eq_left hk] at hd1
          have hd2 := difs_take hx
          have hd3 := dif_bounds ⟨xt, xk, had, (o0, o1, o2), has, (n0, n1, n2)⟩
          obtain ⟨D, hD⟩ : ∃ D, D = (s.rows.length : Int) + difs (l.take k) := ⟨_, rfl⟩
          rw [← hD]
          have hSr := HS0.out.later HB.out
          obtain ⟨A', c', hv, hc, hj⟩ := HV0.out
          injection hv with e1 e2 e3
          subst e1 e3
          obtain ⟨g, o, rfl, hg, hj⟩ := hj (by omega)
          have hcell : ∀ (i : Nat) u, (chgCells ⟨xt, xk, had, (o0, o1, o2), has, (n0, n1, n2)⟩)[i]? = some u → wr.cell? ⟨g, o + k * 10 + i, none⟩ = some u := fun i u hu => (HB.out.cell (p := ⟨g, o + k * 10 + i, none⟩) hg).trans (hj k _ hx i u hu)
          have c0 : wr.cell? ⟨g, o + k * 10, none⟩ = some (.int .i64 xt) := hcell 0 _ rfl
          have c1 : wr.cell? ⟨g, o + k * 10 + 1, none⟩ = some (.int .i64 xk) := hcell 1 _ rfl
          have c2 : wr.cell? ⟨g, o + k * 10 + 2, none⟩ = some (.bool had) := hcell 2 _ rfl
          have c3 : wr.cell? ⟨g, o + k * 10 + 3, none⟩ = some (.int .i64 o0) := hcell 3 _ rfl
          have c4 : wr.cell? ⟨g, o + k * 10 + 4, none⟩ = some (.int .i64 o1) := hcell 4 _ rfl
          have c5 : wr.cell? ⟨g, o + k * 10 + 5, none⟩ = some (.int .i64 o2) := hcell 5 _ rfl
          have c6 : wr.cell? ⟨g, o + k * 10 + 6, none⟩ = some (.bool has) := hcell 6 _ rfl
          have c7 : wr.cell? ⟨g, o + k * 10 + 7, none⟩ = some (.int .i64 n0) := hcell 7 _ rfl
          have c8 : wr.cell? ⟨g, o + k * 10 + 8, none⟩ = some (.int .i64 n1) := hcell 8 _ rfl
          have c9 : wr.cell? ⟨g, o + k * 10 + 9, none⟩ = some (.int .i64 n2) := hcell 9 _ rfl
          have q0 : (0 : Int) ≤ (k : Int) := by omega
          have q1 : (k : Int) < (l.length : Int) := by omega
          have m1 : wr.cell? ⟨w.heap.size, 1, none⟩ = some (.slice (some ⟨g, o, none⟩) l.length c) := (HK.out.later HB.out).cell 1
          have t1 : decide (k < l.length) = true := by simpa using h1
          have HSR := Lib.hid hSr
          have HD := Lib.hid (And.intro hD (And.intro hd1 (And.intro hd2 hd3)))
          have HX := Lib.hid hx
          have hDb : -8 ≤ D ∧ D ≤ 2008 := by omega
          obtain ⟨hDb1, hDb2⟩ := hDb
          have a4 := Below.alloc1 wr (.cells (chgCells ⟨xt, xk, had, (o0, o1, o2), has, (n0, n1, n2)⟩).toArray 65)
          have K4 := BlkIs.new wr 65 (chgCells ⟨xt, xk, had, (o0, o1, o2), has, (n0, n1, n2)⟩).toArray
          have HB4 := Lib.hid (Below.next HB.out a4)
          have HSR4 := Lib.hid (HSR.out.later a4)
          unfold chgCells at a4 K4 HB4 HSR4
          obtain ⟨w4, hw4⟩ : ∃ W, W = wr.alloc (.cells #[.int .i64 xt, .int .i64 xk, .bool had, .int .i64 o0, .int .i64 o1, .int .i64 o2, .bool has, .int .i64 n0, .int .i64 n1, .int .i64 n2] 65) := ⟨_, rfl⟩
          rw [← hw4] at a4 K4 HB4 HSR4
          have hget := rGet_ok b s xt xk w4 HSR4.out HG.out.sort hsm
          rw [getV_eq] at hget
          have hhit : hitB s.rows ⟨xt, xk, had, (o0, o1, o2), has, (n0, n1, n2)⟩ = (if (getS s.rows xt xk).isSome then had && decide (((getS s.rows xt xk).getD rw0).v = (o0, o1, o2)) else !had) := by
            unfold hitB
            dsimp only
            cases getS s.rows xt xk <;> rfl
          obtain ⟨y, hy⟩ : ∃ y, y = (getS s.rows xt xk).getD rw0 := ⟨_, rfl⟩
          obtain ⟨yb, hyb⟩ : ∃ y, y = (getS s.rows xt xk).isSome := ⟨_, rfl⟩
          rw [← hy, ← hyb] at hget hhit
          obtain ⟨yt, yk, y0, y1, y2⟩ := y
          unfold rwV at hget
          dsimp only at hget hhit
          have HGET := Lib.hid hget
          have HK4 := Lib.hid K4
          have HW4 := Lib.hid hw4
          have d0 : w4.cell? ⟨wr.heap.size, 0, none⟩ = some (.int .i64 xt) := K4.cell 0
          have d1 : w4.cell? ⟨wr.heap.size, 1, none⟩ = some (.int .i64 xk) := K4.cell 1
          have d2 : w4.cell? ⟨wr.heap.size, 2, none⟩ = some (.bool had) := K4.cell 2
          have d3 : w4.cell? ⟨wr.heap.size, 3, none⟩ = some (.int .i64 o0) := K4.cell 3
          have d4 : w4.cell? ⟨wr.heap.size, 4, none⟩ = some (.int .i64 o1) := K4.cell 4
          have d5 : w4.cell? ⟨wr.heap.size, 5, none⟩ = some (.int .i64 o2) := K4.cell 5
          have d6 : w4.cell? ⟨wr.heap.size, 6, none⟩ = some (.bool has) := K4.cell 6
          have d7 : w4.cell? ⟨wr.heap.size, 7, none⟩ = some (.int .i64 n0) := K4.cell 7
          have d8 : w4.cell? ⟨wr.heap.size, 8, none⟩ = some (.int .i64 n1) := K4.cell 8
          have d9 : w4.cell? ⟨wr.heap.size, 9, none⟩ = some (.int .i64 n2) := K4.cell 9
          have hno : hitB s.rows ⟨xt, xk, had, (o0, o1, o2), has, (n0, n1, n2)⟩ = false → fitsB s ⟨p, l⟩ = false := fun e => by
            rw [HFIT.out, all_not HX.out e]; rfl
          have HNO := Lib.hid hno
          rw [hw4] at d0 d1 d2 d3 d4 d5 d6 d7 d8 d9
          clear hcell hj hSr hD hd1 hd2 hd3 hx h1 a4 K4 hget hw4 hy hyb hno HSR
          go_wp2_with fail
          rw [← HW4.out]
          refine (HGET.out).mono ?_
          rintro e w5 ⟨rfl, b5⟩
          have HB5 := Lib.hid (Below.next HB4.out b5)
          have K5 := HK4.out.later b5
          have a6 := Below.alloc1 w5 (.cells #[.int .i64 yt, .int .i64 yk, .int .i64 y0, .int .i64 y1, .int .i64 y2] 67)
          have K6 := BlkIs.new w5 67 #[.int .i64 yt, .int .i64 yk, .int .i64 y0, .int .i64 y1, .int .i64 y2]
          have K5' := K5.later a6
          obtain ⟨w6, hw6⟩ : ∃ W, W = w5.alloc (.cells #[.int .i64 yt, .int .i64 yk, .int .i64 y0, .int .i64 y1, .int .i64 y2] 67) := ⟨_, rfl⟩
          have HB6 := Lib.hid (Below.next HB5.out a6)
          rw [← hw6] at K6 K5' HB6
          clear c0 c1 c2 c3 c4 c5 c6 c7 c8 c9 d0 d1 d2 d3 d4 d5 d6 d7 d8 d9 m1 HB4 HSR4 HGET HK4 HW4 K5 a6 b5
          have K5c := K5'
          have d0 : w6.cell? ⟨wr.heap.size, 0, none⟩ = some (.int .i64 xt) := K5'.cell 0
          have d1 : w6.cell? ⟨wr.heap.size, 1, none⟩ = some (.int .i64 xk) := K5'.cell 1
          have d2 : w6.cell? ⟨wr.heap.size, 2, none⟩ = some (.bool had) := K5'.cell 2
          have d3 : w6.cell? ⟨wr.heap.size, 3, none⟩ = some (.int .i64 o0) := K5'.cell 3
          have d4 : w6.cell? ⟨wr.heap.size, 4, none⟩ = some (.int .i64 o1) := K5'.cell 4
          have d5 : w6.cell? ⟨wr.heap.size, 5, none⟩ = some (.int .i64 o2) := K5'.cell 5
          have d6 : w6.cell? ⟨wr.heap.size, 6, none⟩ = some (.bool has) := K5'.cell 6
          have d7 : w6.cell? ⟨wr.heap.size, 7, none⟩ = some (.int .i64 n0) := K5'.cell 7
          have d8 : w6.cell? ⟨wr.heap.size, 8, none⟩ = some (.int .i64 n1) := K5'.cell 8
          have d9 : w6.cell? ⟨wr.heap.size, 9, none⟩ = some (.int .i64 n2) := K5'.cell 9
          have e2 : w6.cell? ⟨w5.heap.size, 2, none⟩ = some (.int .i64 y0) := K6.cell 2
          have e3 : w6.cell? ⟨w5.heap.size, 3, none⟩ = some (.int .i64 y1) := K6.cell 3
          have e4 : w6.cell? ⟨w5.heap.size, 4, none⟩ = some (.int .i64 y2) := K6.cell 4
          rw [hw6] at d0 d1 d2 d3 d4 d5 d6 d7 d8 d9 e2 e3 e4
          obtain ⟨z, hz⟩ : ∃ z, decide ((y0, y1, y2) = (o0, o1, o2)) = z := ⟨_, rfl⟩
          have hq := fun W => run_eqT W (y0, y1, y2) (o0, o1, o2)
          rw [hz] at hq hhit
          dsimp only at hq
          have hgd := guard3
          have HHIT := Lib.hid hhit
          have HB6' := Lib.hid (hw6 ▸ HB6.out : Below w0.heap.size w0 (w5.alloc (.cells #[.int .i64 yt, .int .i64 yk, .int .i64 y0, .int .i64 y1, .int .i64 y2] 67)))
          clear hhit hz K5' K6 K5c hw6 HB6 HB5
          replace HB6 := HB6'
          clear HB6'
          cases yb
          case false =>
            cases had
            case true =>
              go_wp2_with fail
              go_ret
              exact .inl ⟨HNO.out (by rw [HHIT.out]; rfl), rfl, Below.next HA.out HB6.out⟩
            case false =>
              cases has
              case true =>
                go_wp2_with fail
                refine ⟨⟨k + 1, by have := (List.getElem?_eq_some_iff.1 HX.out).1; omega, by go_num, ?_, Lib.hid (all_take HX.out HH.out (by rw [HHIT.out]; rfl)), HB6⟩, by have := (List.getElem?_eq_some_iff.1 HX.out).1; simp [intOf]; omega⟩
                obtain ⟨g1, g2, g3, g4⟩ := HD.out
                rw [g3, g1]
                (simp [dif]) <;> omega
              case false =>
                go_wp2_with fail
                refine ⟨⟨k + 1, by have := (List.getElem?_eq_some_iff.1 HX.out).1; omega, by go_num, ?_, Lib.hid (all_take HX.out HH.out (by rw [HHIT.out]; rfl)), HB6⟩, by have := (List.getElem?_eq_some_iff.1 HX.out).1; simp [intOf]; omega⟩
                obtain ⟨g1, g2, g3, g4⟩ := HD.out
                rw [g3, g1]
                (simp [dif]) <;> omega
          case true =>
            cases had
            case false =>
              go_wp2_with fail
              go_ret
              exact .inl ⟨HNO.out (by rw [HHIT.out]; rfl), rfl, Below.next HA.out HB6.out⟩
            case true =>
              cases z
              case false =>
                go_wp2_with fail
                go_ret
                exact .inl ⟨HNO.out (by rw [HHIT.out]; rfl), rfl, Below.next HA.out HB6.out⟩
              case true =>
                cases has
                case true =>
                  go_wp2_with fail
                  refine ⟨⟨k + 1, by have := (List.getElem?_eq_some_iff.1 HX.out).1; omega, by go_num, ?_, Lib.hid (all_take HX.out HH.out (by rw [HHIT.out]; rfl)), HB6⟩, by have := (List.getElem?_eq_some_iff.1 HX.out).1; simp [intOf]; omega⟩
                  obtain ⟨g1, g2, g3, g4⟩ := HD.out
                  rw [g3, g1]
                  (simp [dif]) <;> omega
                case false =>
                  go_wp2_with fail
                  refine ⟨⟨k + 1, by have := (List.getElem?_eq_some_iff.1 HX.out).1; omega, by go_num, ?_, Lib.hid (all_take HX.out HH.out (by rw [HHIT.out]; rfl)), HB6⟩, by have := (List.getElem?_eq_some_iff.1 HX.out).1; simp [intOf]; omega⟩
                  obtain ⟨g1, g2, g3, g4⟩ := HD.out
                  rw [g3, g1]
                  (simp [dif]) <;> omega
        case neg =>
          have t1 : decide (k < l.length) = false := by simpa using h1
          have hkl : l.take k = l := List.take_of_length_le (by omega)
          rw [hkl] at HH ⊢
          have hd := difs_bounds l
          obtain ⟨D, hD⟩ : ∃ D, D = (s.rows.length : Int) + difs l := ⟨_, rfl⟩
          rw [← hD]
          have HD := Lib.hid hD
          have m1 : wr.cell? ⟨w.heap.size, 1, none⟩ = some (.slice A l.length c) := (HK.out.later HB.out).cell 1
          clear h1 hkl hD hd
          by_cases hD2 : D ≤ 2000
          case neg =>
            have t2 : decide (2000 < D) = true := by simp; omega
            have HD2 := Lib.hid hD2
            clear hD2
            go_wp2_with fail
            go_ret
            exact .inl ⟨by rw [HFIT.out, HH.out, ← HD.out]; simpa using HD2.out, rfl, Below.next HA.out HB.out⟩
          case pos =>
            have t2 : decide (2000 < D) = false := by simp; omega
            have hf : fitsB s ⟨p, l⟩ = true := by rw [HFIT.out, HH.out, ← HD.out]; simpa using hD2
            have hpf := HPF.out hf
            have HPX := Lib.hid hpf
            have HFT := Lib.hid hf
            have HSZ := Lib.hid (HS0.out.later HB.out)
            have HKZ := Lib.hid (HK.out.later HB.out)
            have HVZ := Lib.hid (HV0.out.below HB.out)
            have HBZ := Lib.hid HB.out
            obtain ⟨wz, hwz⟩ : ∃ wz : World, wz = wr := ⟨_, rfl⟩
            rw [← hwz] at m1 HSZ HKZ HVZ HBZ ⊢
            clear hf hpf HPF HFIT HS0 HV0 HK HKB HOWN HB hwz hD2 HD HH
            clear wr
            go_wp2_with fail
            clear m1
            go_loopw [11] (fun iv wr => ∃ k2 : Nat, k2 ≤ l.length ∧ iv = .int .i64 k2 ∧ Hid (RSt wr b ⟨(l.take k2).foldl appC s.rows, s.pos⟩ ∧ Only (fun j => j = b) wz wr)) (fun iv _ => l.length - (intOf iv).toNat)
            case atStart => exact ⟨0, by omega, rfl, Lib.hid ⟨HSZ.out, Only.refl _ _⟩⟩
            case round =>
              obtain ⟨k2, hk2, rfl, HR⟩ := hrel
              by_cases h2 : k2 < l.length
              case pos =>
                obtain ⟨⟨xt, xk, had, ⟨o0, o1, o2⟩, has, ⟨n0, n1, n2⟩⟩, hx⟩ : ∃ x, l[k2]? = some x := ⟨_, List.getElem?_eq_getElem h2⟩
                obtain ⟨hst, hl8, hit⟩ := HPX.out k2 _ hx
                have hap := hst.app_place hit
                have hfo := foldl_take hx s.rows
                obtain ⟨L, hL⟩ : ∃ L, L = (l.take k2).foldl appC s.rows := ⟨_, rfl⟩
                rw [← hL] at hst hl8 hap hfo HR
                dsimp only at hap
                have hcs : (hitB L ⟨xt, xk, had, (o0, o1, o2), has, (n0, n1, n2)⟩ = true) := hL ▸ hit
                obtain ⟨A', c', hv, hc, hj⟩ := HVZ.out
                injection hv with e1 e2 e3
                subst e1 e3
                obtain ⟨g, o, rfl, hg, hj⟩ := hj (by omega)
                have hgb : g ≠ b := HAA.out _ rfl
                have hnb : w.heap.size ≠ b := fun e => by have := HBL.out; omega
                have hcell : ∀ (i : Nat) u, (chgCells ⟨xt, xk, had, (o0, o1, o2), has, (n0, n1, n2)⟩)[i]? = some u → wr.cell? ⟨g, o + k2 * 10 + i, none⟩ = some u := fun i u hu => (HR.out.2.at_ hg hgb).trans (hj k2 _ hx i u hu)
                have c0 : wr.cell? ⟨g, o + k2 * 10, none⟩ = some (.int .i64 xt) := hcell 0 _ rfl
                have c1 : wr.cell? ⟨g, o + k2 * 10 + 1, none⟩ = some (.int .i64 xk) := hcell 1 _ rfl
                have c2 : wr.cell? ⟨g, o + k2 * 10 + 2, none⟩ = some (.bool had) := hcell 2 _ rfl
                have c3 : wr.cell? ⟨g, o + k2 * 10 + 3, none⟩ = some (.int .i64 o0) := hcell 3 _ rfl
                have c4 : wr.cell? ⟨g, o + k2 * 10 + 4, none⟩ = some (.int .i64 o1) := hcell 4 _ rfl
                have c5 : wr.cell? ⟨g, o + k2 * 10 + 5, none⟩ = some (.int .i64 o2) := hcell 5 _ rfl
                have c6 : wr.cell? ⟨g, o + k2 * 10 + 6, none⟩ = some (.bool has) := hcell 6 _ rfl
                have c7 : wr.cell? ⟨g, o + k2 * 10 + 7, none⟩ = some (.int .i64 n0) := hcell 7 _ rfl
                have c8 : wr.cell? ⟨g, o + k2 * 10 + 8, none⟩ = some (.int .i64 n1) := hcell 8 _ rfl
                have c9 : wr.cell? ⟨g, o + k2 * 10 + 9, none⟩ = some (.int .i64 n2) := hcell 9 _ rfl
                have q0 : (0 : Int) ≤ (k2 : Int) := by omega
                have q1 : (k2 : Int) < (l.length : Int) := by omega
                have m1 : wr.cell? ⟨w.heap.size, 1, none⟩ = some (.slice (some ⟨g, o, none⟩) l.length c) := (HKZ.out.only HR.out.2 hnb).cell 1
                have t1 : decide (k2 < l.length) = true := by simpa using h2
                have a4 := Below.alloc1 wr (.cells (chgCells ⟨xt, xk, had, (o0, o1, o2), has, (n0, n1, n2)⟩).toArray 65)
                have K4 := BlkIs.new wr 65 (chgCells ⟨xt, xk, had, (o0, o1, o2), has, (n0, n1, n2)⟩).toArray
                unfold chgCells at a4 K4
                obtain ⟨w4, hw4⟩ : ∃ W, W = wr.alloc (.cells #[.int .i64 xt, .int .i64 xk, .bool had, .int .i64 o0, .int .i64 o1, .int .i64 o2, .bool has, .int .i64 n0, .int .i64 n1, .int .i64 n2] 65) := ⟨_, rfl⟩
                rw [← hw4] at a4 K4
                have hR4 := HR.out.1.later a4
                have hpl := place_ok b ⟨L, s.pos⟩ xt xk w4 hR4 hst (show L.length ≤ 3000 by omega)
                dsimp only at hpl
                obtain ⟨J, hJ⟩ : ∃ J, J = lowN L xt xk := ⟨_, rfl⟩
                rw [← hJ] at hpl hap
                obtain ⟨vL, Kb4, ownL⟩ := hR4.own
                dsimp only at ownL
                obtain ⟨LA, Lc, rfl, hLc, -, -⟩ := ownsRow_form ownL
                obtain ⟨N, hN⟩ : ∃ N, N = L.length := ⟨_, rfl⟩
                have hJN : J ≤ N := by rw [hN, hJ]; exact lowN_le _ _ _
                have d0 : w4.cell? ⟨wr.heap.size, 0, none⟩ = some (.int .i64 xt) := K4.cell 0
                have d1 : w4.cell? ⟨wr.heap.size, 1, none⟩ = some (.int .i64 xk) := K4.cell 1
                have d2 : w4.cell? ⟨wr.heap.size, 2, none⟩ = some (.bool had) := K4.cell 2
                have d3 : w4.cell? ⟨wr.heap.size, 3, none⟩ = some (.int .i64 o0) := K4.cell 3
                have d4 : w4.cell? ⟨wr.heap.size, 4, none⟩ = some (.int .i64 o1) := K4.cell 4
                have d5 : w4.cell? ⟨wr.heap.size, 5, none⟩ = some (.int .i64 o2) := K4.cell 5
                have d6 : w4.cell? ⟨wr.heap.size, 6, none⟩ = some (.bool has) := K4.cell 6
                have d7 : w4.cell? ⟨wr.heap.size, 7, none⟩ = some (.int .i64 n0) := K4.cell 7
                have d8 : w4.cell? ⟨wr.heap.size, 8, none⟩ = some (.int .i64 n1) := K4.cell 8
                have d9 : w4.cell? ⟨wr.heap.size, 9, none⟩ = some (.int .i64 n2) := K4.cell 9
                have s0 : w4.cell? ⟨b, 0, none⟩ = some (.slice LA N Lc) := by rw [hN]; exact Kb4.cell 0
                rw [hw4] at d0 d1 d2 d3 d4 d5 d6 d7 d8 d9
                have hl0 := HR.out.1.lt
                have HAP := Lib.hid hap
                have HFO := Lib.hid hfo
                have HPL := Lib.hid hpl
                have HK4 := Lib.hid K4
                have HKB := Lib.hid Kb4
                have HOL := Lib.hid ownL
                have HA4 := Lib.hid a4
                have HW4 := Lib.hid hw4
                have HX := Lib.hid hx
                have HN := Lib.hid hN
                rw [← hN] at hLc hl8
                clear hap hfo hpl K4 Kb4 ownL a4 hw4 hx hR4 hst hit hcs hcell hj hJ hL hN h2
                go_wp2_with fail
                rw [← HW4.out]
                refine (HPL.out).mono ?_
                rintro e w4 ⟨rfl, rfl⟩
                clear c0 c1 c2 c3 c4 c5 c6 c7 c8 c9 m1
                have z0 : (0 : Int) ≤ (J : Int) := by omega
                rw [HW4.out] at s0
                rw [← HW4.out] at d0 d1 d2 d3 d4 d5 d6 d7 d8 d9
                rw [← HW4.out] at s0
                obtain ⟨i0, hi0, hz0, hz1, hz2⟩ := info_row
                have haf := fun W => rafter_ok ⟨xt, xk, had, (o0, o1, o2), has, (n0, n1, n2)⟩ W
                unfold chgV halfV rowV at haf
                dsimp only at haf
                have HAF := Lib.hid haf
                clear haf
                have HSK := Lib.hid HAP.out.2
                rcases HOL.out.2 with ⟨hnil, hn0⟩ | ⟨gl, cap, cur, hv3, hgl, -, -⟩
                · injection hnil with ea eb ec
                  subst ea ec
                  obtain rfl : N = 0 := by rw [HN.out]; exact hn0
                  obtain rfl : J = 0 := by omega
                  cases had
                  case true => exact absurd HSK.out (by rw [hn0]; simp [skipC])
                  case false =>
                    go_wp2_with fail
                    refine (HAF.out w4).mono ?_
                    rintro e w5 ⟨rfl, b5⟩
                    cases has
                    case true =>
                      have a6 := Below.alloc1 w5 (.cells #[.int .i64 xt, .int .i64 xk, .int .i64 n0, .int .i64 n1, .int .i64 n2] 67)
                      have K6 := BlkIs.new w5 67 #[.int .i64 xt, .int .i64 xk, .int .i64 n0, .int .i64 n1, .int .i64 n2]
                      have b6 := b5.trans (a6.mono b5.size)
                      have a7 := Below.alloc1 (w5.alloc (.cells #[.int .i64 xt, .int .i64 xk, .int .i64 n0, .int .i64 n1, .int .i64 n2] 67)) (.cells #[.int .i64 xt, .int .i64 xk, .int .i64 n0, .int .i64 n1, .int .i64 n2] 67)
                      have K7 : BlkIs ((w5.alloc (.cells #[.int .i64 xt, .int .i64 xk, .int .i64 n0, .int .i64 n1, .int .i64 n2] 67)).alloc (.cells #[.int .i64 xt, .int .i64 xk, .int .i64 n0, .int .i64 n1, .int .i64 n2] 67)) (w5.heap.size + 1) 67 [.int .i64 xt, .int .i64 xk, .int .i64 n0, .int .i64 n1, .int .i64 n2] := alloc_new_at _ _ _ (by rw [World.size_alloc])
                      have b7 := b6.trans (a7.mono b6.size)
                      have e0 : (w5.alloc (.cells #[.int .i64 xt, .int .i64 xk, .int .i64 n0, .int .i64 n1, .int .i64 n2] 67)).cell? ⟨w5.heap.size, 0, none⟩ = some (.int .i64 xt) := K6.cell 0
                      have e1 : (w5.alloc (.cells #[.int .i64 xt, .int .i64 xk, .int .i64 n0, .int .i64 n1, .int .i64 n2] 67)).cell? ⟨w5.heap.size, 1, none⟩ = some (.int .i64 xk) := K6.cell 1
                      have e2 : (w5.alloc (.cells #[.int .i64 xt, .int .i64 xk, .int .i64 n0, .int .i64 n1, .int .i64 n2] 67)).cell? ⟨w5.heap.size, 2, none⟩ = some (.int .i64 n0) := K6.cell 2
                      have e3 : (w5.alloc (.cells #[.int .i64 xt, .int .i64 xk, .int .i64 n0, .int .i64 n1, .int .i64 n2] 67)).cell? ⟨w5.heap.size, 3, none⟩ = some (.int .i64 n1) := K6.cell 3
                      have e4 : (w5.alloc (.cells #[.int .i64 xt, .int .i64 xk, .int .i64 n0, .int .i64 n1, .int .i64 n2] 67)).cell? ⟨w5.heap.size, 4, none⟩ = some (.int .i64 n2) := K6.cell 4
                      have s0 : ((w5.alloc (.cells #[.int .i64 xt, .int .i64 xk, .int .i64 n0, .int .i64 n1, .int .i64 n2] 67)).alloc (.cells #[.int .i64 xt, .int .i64 xk, .int .i64 n0, .int .i64 n1, .int .i64 n2] 67)).cell? ⟨b, 0, none⟩ = some (.slice none 0 0) := by have h := (HKB.out.later b7).cell 0; rw [← HN.out] at h; exact h
                      have hcl : L = [] := List.eq_nil_of_length_eq_zero (by rw [← HN.out])
                      have HCL := Lib.hid hcl
                      have HB7 := Lib.hid b7
                      have HK7 := Lib.hid K7
                      have hb7s := b7.size
                      have hJL : 0 ≤ L.length := by rw [← HN.out]; omega
                      have HJL := Lib.hid hJL
                      clear hcl b7 b6 a6 K6 b5 a7 K7 hJL
                      go_wp2_with (at_builtin; first
                        | (refine wpList_append_any rfl (.tmp 119) (.tmp 125) 48 rfl w4.heap.size 67 i0 _ 5 40 Tryz.underlying48 hi0 hz0 hz1 hz2 rfl (by decide) (.slice none 0 0) 0 [] rfl (World.ownsRow_nil _ _ _ _) none 0 0 ((L.take 0).flatMap rwC) rfl (fun _ => ⟨rfl, rfl⟩) (by rw [flat_rws_len, List.length_take, Nat.min_eq_left HJL.out]) (fun ad e => by cases e) (rwC_one _) (by unfold maxLen; omega) (by omega) hb7s ?_; intro v8 w8 own8 gr8)
                        | (refine wpList_append_any rfl (.tmp 126) (.tmp 127) 48 rfl w4.heap.size 67 i0 _ 5 40 Tryz.underlying48 hi0 hz0 hz1 hz2 rfl (by decide) v8 _ _ rfl own8 (some ⟨w5.heap.size + 1, 0, none⟩) 1 1 [.int .i64 xt, .int .i64 xk, .int .i64 n0, .int .i64 n1, .int .i64 n2] rfl (fun e => by cases e) rfl (fun ad e j u hu => by injection e with e; subst e; rw [add_zero_off]; exact gr8.cell ((HK7.out.cell j).trans hu) (by simp [Value.ownBlock])) (by have := rwC_one [⟨xt, xk, n0, n1, n2⟩]; simpa [rwC] using this) (by unfold maxLen; omega) (by omega) (by have := gr8.size; omega) ?_; intro v9 w9 own9 gr9)
                        | (refine wpList_append_any rfl (.tmp 128) (.tmp 129) 48 rfl w4.heap.size 67 i0 _ 5 40 Tryz.underlying48 hi0 hz0 hz1 hz2 rfl (by decide) v9 _ _ rfl own9 none 0 0 (((L.drop 0).drop 0).flatMap rwC) rfl (fun _ => ⟨rfl, rfl⟩) (by rw [flat_rws_len, List.length_drop, List.length_drop, ← HN.out]) (fun ad e => by cases e) (rwC_one _) (by unfold maxLen; omega) (by omega) (by have := gr9.size; have := gr8.size; omega) ?_; intro v10 w10 own10 gr10; obtain ⟨N10, hN10⟩ : ∃ n : Nat, n = 0 + 0 + 1 + 0 := ⟨_, rfl⟩; rw [← hN10] at own10; have HN10 := Lib.hid hN10; clear hN10; obtain ⟨A10, c10, rfl, -⟩ := ownsRow_form own10; have Kb10 : BlkIs w10 b 71 [.slice none L.length 0, .int .i64 s.pos] := (gr10.block b (by have := gr9.size; have := gr8.size; have := HKB.out.lt; omega) (fun e => by have := own_ge own9 e.symm; have := HKB.out.lt; omega)).trans ((gr9.block b (by have := gr8.size; have := HKB.out.lt; omega) (fun e => by have := own_ge own8 e.symm; have := HKB.out.lt; omega)).trans ((gr8.block b (by have := HKB.out.lt; omega) (by simp [Value.ownBlock])).trans (HKB.out.later HB7.out))); have f0 : w10.cell? ⟨b, 0, none⟩ = some (.slice none L.length 0) := Kb10.cell 0; have ff0 := Kb10.frozen 0; have HKB10 := Lib.hid Kb10; clear Kb10)
                        | fail)
                      have hlist : (appC L ⟨xt, xk, false, (o0, o1, o2), true, (n0, n1, n2)⟩).flatMap rwC = [] ++ (L.take 0).flatMap rwC ++ [.int .i64 xt, .int .i64 xk, .int .i64 n0, .int .i64 n1, .int .i64 n2] ++ ((L.drop 0).drop 0).flatMap rwC := by
                        rw [HAP.out.1, List.flatMap_append, List.flatMap_append]
                        simp [midC, rowNew, rwC, skipC]
                      have hlen : (appC L ⟨xt, xk, false, (o0, o1, o2), true, (n0, n1, n2)⟩).length = N10 := by
                        rw [HN10.out, HAP.out.1, List.length_append, List.length_append, List.length_take, List.length_drop, List.length_drop, ← HN.out]
                        simp [midC, skipC]
                        all_goals omega
                      have hbel : Below w4.heap.size w4 w10 := ((HB7.out.grown gr8 HB7.out.size (by simp [Value.ownBlock])).grown gr9 (by have := gr8.size; omega) (fun k e => own_ge own8 e)).grown gr10 (by have := gr9.size; have := gr8.size; omega) (fun k e => own_ge own9 e)
                      have hbw : Below wr.heap.size wr w10 := HA4.out.trans (hbel.mono HA4.out.size)
                      have hon := (HR.out.2.trans (Only.of_below (S := fun j => j = b) hbw)).trans (Only.setCell (S := fun j => j = b) w10 ⟨b, 0, none⟩ (.slice A10 N10 c10) rfl)
                      have hx' := (List.getElem?_eq_some_iff.1 HX.out).1
                      refine ⟨⟨k2 + 1, by omega, by go_num, Lib.hid ⟨⟨_, HKB10.out.set 0 _, ?_⟩, hon⟩⟩, by simp [intOf]; omega⟩
                      dsimp only
                      rw [HFO.out, hlen, hlist]
                      exact ownsRow_set (ownsRow_mono own10 (by have := HKB.out.lt; omega)) _ _ (fun j e => by have := own_ge own10 e; have := HKB.out.lt; show j ≠ b; omega)
                    case false =>
                      have a6 := Below.alloc1 w5 (.cells #[.int .i64 0, .int .i64 0, .int .i64 0, .int .i64 0, .int .i64 0] 67)
                      have K6 := BlkIs.new w5 67 #[.int .i64 0, .int .i64 0, .int .i64 0, .int .i64 0, .int .i64 0]
                      have b6 := b5.trans (a6.mono b5.size)
                      have b7 := b6
                      have s0 : (w5.alloc (.cells #[.int .i64 0, .int .i64 0, .int .i64 0, .int .i64 0, .int .i64 0] 67)).cell? ⟨b, 0, none⟩ = some (.slice none 0 0) := by have h := (HKB.out.later b7).cell 0; rw [← HN.out] at h; exact h
                      have hcl : L = [] := List.eq_nil_of_length_eq_zero (by rw [← HN.out])
                      have HCL := Lib.hid hcl
                      have HB7 := Lib.hid b7
                      have hb7s := b7.size
                      have hJL : 0 ≤ L.length := by rw [← HN.out]; omega
                      have HJL := Lib.hid hJL
                      clear hcl b7 b6 a6 K6 b5 hJL
                      go_wp2_with (at_builtin; first
                        | (refine wpList_append_any rfl (.tmp 119) (.tmp 125) 48 rfl w4.heap.size 67 i0 _ 5 40 Tryz.underlying48 hi0 hz0 hz1 hz2 rfl (by decide) (.slice none 0 0) 0 [] rfl (World.ownsRow_nil _ _ _ _) none 0 0 ((L.take 0).flatMap rwC) rfl (fun _ => ⟨rfl, rfl⟩) (by rw [flat_rws_len, List.length_take, Nat.min_eq_left HJL.out]) (fun ad e => by cases e) (rwC_one _) (by unfold maxLen; omega) (by omega) hb7s ?_; intro v8 w8 own8 gr8)
                        | (refine wpList_append_any rfl (.tmp 126) (.tmp 127) 48 rfl w4.heap.size 67 i0 _ 5 40 Tryz.underlying48 hi0 hz0 hz1 hz2 rfl (by decide) v8 _ _ rfl own8 none 0 0 [] rfl (fun _ => ⟨rfl, rfl⟩) rfl (fun ad e => by cases e) (by simp) (by unfold maxLen; omega) (by omega) (by have := gr8.size; omega) ?_; intro v9 w9 own9 gr9)
                        | (refine wpList_append_any rfl (.tmp 128) (.tmp 129) 48 rfl w4.heap.size 67 i0 _ 5 40 Tryz.underlying48 hi0 hz0 hz1 hz2 rfl (by decide) v9 _ _ rfl own9 none 0 0 (((L.drop 0).drop 0).flatMap rwC) rfl (fun _ => ⟨rfl, rfl⟩) (by rw [flat_rws_len, List.length_drop, List.length_drop, ← HN.out]) (fun ad e => by cases e) (rwC_one _) (by unfold maxLen; omega) (by omega) (by have := gr9.size; have := gr8.size; omega) ?_; intro v10 w10 own10 gr10; obtain ⟨N10, hN10⟩ : ∃ n : Nat, n = 0 + 0 + 0 + 0 := ⟨_, rfl⟩; rw [← hN10] at own10; have HN10 := Lib.hid hN10; clear hN10; obtain ⟨A10, c10, rfl, -⟩ := ownsRow_form own10; have Kb10 : BlkIs w10 b 71 [.slice none L.length 0, .int .i64 s.pos] := (gr10.block b (by have := gr9.size; have := gr8.size; have := HKB.out.lt; omega) (fun e => by have := own_ge own9 e.symm; have := HKB.out.lt; omega)).trans ((gr9.block b (by have := gr8.size; have := HKB.out.lt; omega) (fun e => by have := own_ge own8 e.symm; have := HKB.out.lt; omega)).trans ((gr8.block b (by have := HKB.out.lt; omega) (by simp [Value.ownBlock])).trans (HKB.out.later HB7.out))); have f0 : w10.cell? ⟨b, 0, none⟩ = some (.slice none L.length 0) := Kb10.cell 0; have ff0 := Kb10.frozen 0; have HKB10 := Lib.hid Kb10; clear Kb10)
                        | fail)
                      have hlist : (appC L ⟨xt, xk, false, (o0, o1, o2), false, (n0, n1, n2)⟩).flatMap rwC = [] ++ (L.take 0).flatMap rwC ++ [] ++ ((L.drop 0).drop 0).flatMap rwC := by
                        rw [HAP.out.1, List.flatMap_append, List.flatMap_append]
                        simp [midC, skipC]
                      have hlen : (appC L ⟨xt, xk, false, (o0, o1, o2), false, (n0, n1, n2)⟩).length = N10 := by
                        rw [HN10.out, HAP.out.1, List.length_append, List.length_append, List.length_take, List.length_drop, List.length_drop, ← HN.out]
                        simp [midC, skipC]
                        all_goals omega
                      have hbel : Below w4.heap.size w4 w10 := ((HB7.out.grown gr8 HB7.out.size (by simp [Value.ownBlock])).grown gr9 (by have := gr8.size; omega) (fun k e => own_ge own8 e)).grown gr10 (by have := gr9.size; have := gr8.size; omega) (fun k e => own_ge own9 e)
                      have hbw : Below wr.heap.size wr w10 := HA4.out.trans (hbel.mono HA4.out.size)
                      have hon := (HR.out.2.trans (Only.of_below (S := fun j => j = b) hbw)).trans (Only.setCell (S := fun j => j = b) w10 ⟨b, 0, none⟩ (.slice A10 N10 c10) rfl)
                      have hx' := (List.getElem?_eq_some_iff.1 HX.out).1
                      refine ⟨⟨k2 + 1, by omega, by go_num, Lib.hid ⟨⟨_, HKB10.out.set 0 _, ?_⟩, hon⟩⟩, by simp [intOf]; omega⟩
                      dsimp only
                      rw [HFO.out, hlen, hlist]
                      exact ownsRow_set (ownsRow_mono own10 (by have := HKB.out.lt; omega)) _ _ (fun j e => by have := own_ge own10 e; have := HKB.out.lt; show j ≠ b; omega)
                · injection hv3 with ea eb ec
                  subst ea ec
                  clear eb
                  by_cases hcJ : Lc = J
                  · obtain rfl : N = J := by omega
                    subst hcJ
                    cases had
                    case true => exact absurd HSK.out (by rw [← HN.out]; simp [skipC])
                    case false =>
                      go_wp2_with fail
                      refine (HAF.out w4).mono ?_
                      rintro e w5 ⟨rfl, b5⟩
                      cases has
                      case true =>
                        have a6 := Below.alloc1 w5 (.cells #[.int .i64 xt, .int .i64 xk, .int .i64 n0, .int .i64 n1, .int .i64 n2] 67)
                        have K6 := BlkIs.new w5 67 #[.int .i64 xt, .int .i64 xk, .int .i64 n0, .int .i64 n1, .int .i64 n2]
                        have b6 := b5.trans (a6.mono b5.size)
                        have a7 := Below.alloc1 (w5.alloc (.cells #[.int .i64 xt, .int .i64 xk, .int .i64 n0, .int .i64 n1, .int .i64 n2] 67)) (.cells #[.int .i64 xt, .int .i64 xk, .int .i64 n0, .int .i64 n1, .int .i64 n2] 67)
                        have K7 : BlkIs ((w5.alloc (.cells #[.int .i64 xt, .int .i64 xk, .int .i64 n0, .int .i64 n1, .int .i64 n2] 67)).alloc (.cells #[.int .i64 xt, .int .i64 xk, .int .i64 n0, .int .i64 n1, .int .i64 n2] 67)) (w5.heap.size + 1) 67 [.int .i64 xt, .int .i64 xk, .int .i64 n0, .int .i64 n1, .int .i64 n2] := alloc_new_at _ _ _ (by rw [World.size_alloc])
                        have b7 := b6.trans (a7.mono b6.size)
                        have e0 : (w5.alloc (.cells #[.int .i64 xt, .int .i64 xk, .int .i64 n0, .int .i64 n1, .int .i64 n2] 67)).cell? ⟨w5.heap.size, 0, none⟩ = some (.int .i64 xt) := K6.cell 0
                        have e1 : (w5.alloc (.cells #[.int .i64 xt, .int .i64 xk, .int .i64 n0, .int .i64 n1, .int .i64 n2] 67)).cell? ⟨w5.heap.size, 1, none⟩ = some (.int .i64 xk) := K6.cell 1
                        have e2 : (w5.alloc (.cells #[.int .i64 xt, .int .i64 xk, .int .i64 n0, .int .i64 n1, .int .i64 n2] 67)).cell? ⟨w5.heap.size, 2, none⟩ = some (.int .i64 n0) := K6.cell 2
                        have e3 : (w5.alloc (.cells #[.int .i64 xt, .int .i64 xk, .int .i64 n0, .int .i64 n1, .int .i64 n2] 67)).cell? ⟨w5.heap.size, 3, none⟩ = some (.int .i64 n1) := K6.cell 3
                        have e4 : (w5.alloc (.cells #[.int .i64 xt, .int .i64 xk, .int .i64 n0, .int .i64 n1, .int .i64 n2] 67)).cell? ⟨w5.heap.size, 4, none⟩ = some (.int .i64 n2) := K6.cell 4
                        have s0 : ((w5.alloc (.cells #[.int .i64 xt, .int .i64 xk, .int .i64 n0, .int .i64 n1, .int .i64 n2] 67)).alloc (.cells #[.int .i64 xt, .int .i64 xk, .int .i64 n0, .int .i64 n1, .int .i64 n2] 67)).cell? ⟨b, 0, none⟩ = some (.slice (some ⟨gl, 0, none⟩) Lc Lc) := by have h := (HKB.out.later b7).cell 0; rw [← HN.out] at h; exact h
                        have own7 := ownsRow_later b7 HOL.out
                        have hgl4 : gl < w4.heap.size := (HOL.out.lt gl rfl).2
                        have hcl : ∀ (j : Nat) u, (L.flatMap rwC)[j]? = some u → ((w5.alloc (.cells #[.int .i64 xt, .int .i64 xk, .int .i64 n0, .int .i64 n1, .int .i64 n2] 67)).alloc (.cells #[.int .i64 xt, .int .i64 xk, .int .i64 n0, .int .i64 n1, .int .i64 n2] 67)).cell? ⟨gl, j, none⟩ = some u := by
                          obtain ⟨A9, c9, e9, -, -, hx9⟩ := ownsRow_form own7
                          intro j u hu
                          obtain ⟨g9, eg, -, -, hc9⟩ := hx9 (Nat.pos_of_ne_zero fun h0 => by rw [List.eq_nil_of_length_eq_zero h0] at hu; simp at hu)
                          injection e9 with e91 _ _
                          rw [eg] at e91
                          injection e91 with e91
                          injection e91 with e92 _ _
                          subst e92
                          exact hc9 j u hu
                        have HCL := Lib.hid hcl
                        have HB7 := Lib.hid b7
                        have HK7 := Lib.hid K7
                        have hb7s := b7.size
                        have hJL : Lc ≤ L.length := by rw [← HN.out]; omega
                        have HJL := Lib.hid hJL
                        clear hcl b7 b6 a6 K6 b5 a7 K7 own7 hJL
                        go_wp2_with (at_builtin; first
                          | (refine wpList_append_any rfl (.tmp 119) (.tmp 125) 48 rfl w4.heap.size 67 i0 _ 5 40 Tryz.underlying48 hi0 hz0 hz1 hz2 rfl (by decide) (.slice none 0 0) 0 [] rfl (World.ownsRow_nil _ _ _ _) (some ⟨gl, 0, none⟩) Lc Lc ((L.take Lc).flatMap rwC) rfl (fun e => by cases e) (by rw [flat_rws_len, List.length_take, Nat.min_eq_left HJL.out]) (fun ad e => by injection e with e; subst e; exact cells_take HCL.out Lc) (rwC_one _) (by unfold maxLen; omega) (by omega) hb7s ?_; intro v8 w8 own8 gr8)
                          | (refine wpList_append_any rfl (.tmp 126) (.tmp 127) 48 rfl w4.heap.size 67 i0 _ 5 40 Tryz.underlying48 hi0 hz0 hz1 hz2 rfl (by decide) v8 _ _ rfl own8 (some ⟨w5.heap.size + 1, 0, none⟩) 1 1 [.int .i64 xt, .int .i64 xk, .int .i64 n0, .int .i64 n1, .int .i64 n2] rfl (fun e => by cases e) rfl (fun ad e j u hu => by injection e with e; subst e; rw [add_zero_off]; exact gr8.cell ((HK7.out.cell j).trans hu) (by simp [Value.ownBlock])) (by have := rwC_one [⟨xt, xk, n0, n1, n2⟩]; simpa [rwC] using this) (by unfold maxLen; omega) (by omega) (by have := gr8.size; omega) ?_; intro v9 w9 own9 gr9)
                          | (refine wpList_append_any rfl (.tmp 128) (.tmp 129) 48 rfl w4.heap.size 67 i0 _ 5 40 Tryz.underlying48 hi0 hz0 hz1 hz2 rfl (by decide) v9 _ _ rfl own9 (some ⟨gl, 0, none⟩) 0 0 (((L.drop Lc).drop 0).flatMap rwC) rfl (fun e => by cases e) (by rw [flat_rws_len, List.length_drop, List.length_drop, ← HN.out]; omega) (fun ad e j u hu => by have h0 : (L.drop Lc).drop 0 = [] := List.eq_nil_of_length_eq_zero (by rw [List.length_drop, List.length_drop, ← HN.out]; omega); rw [h0] at hu; simp at hu) (rwC_one _) (by unfold maxLen; omega) (by omega) (by have := gr9.size; have := gr8.size; omega) ?_; intro v10 w10 own10 gr10; obtain ⟨N10, hN10⟩ : ∃ n : Nat, n = 0 + Lc + 1 + 0 := ⟨_, rfl⟩; rw [← hN10] at own10; have HN10 := Lib.hid hN10; clear hN10; obtain ⟨A10, c10, rfl, -⟩ := ownsRow_form own10; have Kb10 : BlkIs w10 b 71 [.slice (some ⟨gl, 0, none⟩) L.length Lc, .int .i64 s.pos] := (gr10.block b (by have := gr9.size; have := gr8.size; have := HKB.out.lt; omega) (fun e => by have := own_ge own9 e.symm; have := HKB.out.lt; omega)).trans ((gr9.block b (by have := gr8.size; have := HKB.out.lt; omega) (fun e => by have := own_ge own8 e.symm; have := HKB.out.lt; omega)).trans ((gr8.block b (by have := HKB.out.lt; omega) (by simp [Value.ownBlock])).trans (HKB.out.later HB7.out))); have f0 : w10.cell? ⟨b, 0, none⟩ = some (.slice (some ⟨gl, 0, none⟩) L.length Lc) := Kb10.cell 0; have ff0 := Kb10.frozen 0; have HKB10 := Lib.hid Kb10; clear Kb10)
                          | fail)
                        have hlist : (appC L ⟨xt, xk, false, (o0, o1, o2), true, (n0, n1, n2)⟩).flatMap rwC = [] ++ (L.take Lc).flatMap rwC ++ [.int .i64 xt, .int .i64 xk, .int .i64 n0, .int .i64 n1, .int .i64 n2] ++ ((L.drop Lc).drop 0).flatMap rwC := by
                          rw [HAP.out.1, List.flatMap_append, List.flatMap_append]
                          simp [midC, rowNew, rwC, skipC]
                        have hlen : (appC L ⟨xt, xk, false, (o0, o1, o2), true, (n0, n1, n2)⟩).length = N10 := by
                          rw [HN10.out, HAP.out.1, List.length_append, List.length_append, List.length_take, List.length_drop, List.length_drop, ← HN.out]
                          simp [midC, skipC]
                          all_goals omega
                        have hbel : Below w4.heap.size w4 w10 := ((HB7.out.grown gr8 HB7.out.size (by simp [Value.ownBlock])).grown gr9 (by have := gr8.size; omega) (fun k e => own_ge own8 e)).grown gr10 (by have := gr9.size; have := gr8.size; omega) (fun k e => own_ge own9 e)
                        have hbw : Below wr.heap.size wr w10 := HA4.out.trans (hbel.mono HA4.out.size)
                        have hon := (HR.out.2.trans (Only.of_below (S := fun j => j = b) hbw)).trans (Only.setCell (S := fun j => j = b) w10 ⟨b, 0, none⟩ (.slice A10 N10 c10) rfl)
                        have hx' := (List.getElem?_eq_some_iff.1 HX.out).1
                        refine ⟨⟨k2 + 1, by omega, by go_num, Lib.hid ⟨⟨_, HKB10.out.set 0 _, ?_⟩, hon⟩⟩, by simp [intOf]; omega⟩
                        dsimp only
                        rw [HFO.out, hlen, hlist]
                        exact ownsRow_set (ownsRow_mono own10 (by have := HKB.out.lt; omega)) _ _ (fun j e => by have := own_ge own10 e; have := HKB.out.lt; show j ≠ b; omega)
                      case false =>
                        have a6 := Below.alloc1 w5 (.cells #[.int .i64 0, .int .i64 0, .int .i64 0, .int .i64 0, .int .i64 0] 67)
                        have K6 := BlkIs.new w5 67 #[.int .i64 0, .int .i64 0, .int .i64 0, .int .i64 0, .int .i64 0]
                        have b6 := b5.trans (a6.mono b5.size)
                        have b7 := b6
                        have s0 : (w5.alloc (.cells #[.int .i64 0, .int .i64 0, .int .i64 0, .int .i64 0, .int .i64 0] 67)).cell? ⟨b, 0, none⟩ = some (.slice (some ⟨gl, 0, none⟩) Lc Lc) := by have h := (HKB.out.later b7).cell 0; rw [← HN.out] at h; exact h
                        have own7 := ownsRow_later b7 HOL.out
                        have hgl4 : gl < w4.heap.size := (HOL.out.lt gl rfl).2
                        have hcl : ∀ (j : Nat) u, (L.flatMap rwC)[j]? = some u → (w5.alloc (.cells #[.int .i64 0, .int .i64 0, .int .i64 0, .int .i64 0, .int .i64 0] 67)).cell? ⟨gl, j, none⟩ = some u := by
                          obtain ⟨A9, c9, e9, -, -, hx9⟩ := ownsRow_form own7
                          intro j u hu
                          obtain ⟨g9, eg, -, -, hc9⟩ := hx9 (Nat.pos_of_ne_zero fun h0 => by rw [List.eq_nil_of_length_eq_zero h0] at hu; simp at hu)
                          injection e9 with e91 _ _
                          rw [eg] at e91
                          injection e91 with e91
                          injection e91 with e92 _ _
                          subst e92
                          exact hc9 j u hu
                        have HCL := Lib.hid hcl
                        have HB7 := Lib.hid b7
                        have hb7s := b7.size
                        have hJL : Lc ≤ L.length := by rw [← HN.out]; omega
                        have HJL := Lib.hid hJL
                        clear hcl b7 b6 a6 K6 b5 own7 hJL
                        go_wp2_with (at_builtin; first
                          | (refine wpList_append_any rfl (.tmp 119) (.tmp 125) 48 rfl w4.heap.size 67 i0 _ 5 40 Tryz.underlying48 hi0 hz0 hz1 hz2 rfl (by decide) (.slice none 0 0) 0 [] rfl (World.ownsRow_nil _ _ _ _) (some ⟨gl, 0, none⟩) Lc Lc ((L.take Lc).flatMap rwC) rfl (fun e => by cases e) (by rw [flat_rws_len, List.length_take, Nat.min_eq_left HJL.out]) (fun ad e => by injection e with e; subst e; exact cells_take HCL.out Lc) (rwC_one _) (by unfold maxLen; omega) (by omega) hb7s ?_; intro v8 w8 own8 gr8)
                          | (refine wpList_append_any rfl (.tmp 126) (.tmp 127) 48 rfl w4.heap.size 67 i0 _ 5 40 Tryz.underlying48 hi0 hz0 hz1 hz2 rfl (by decide) v8 _ _ rfl own8 none 0 0 [] rfl (fun _ => ⟨rfl, rfl⟩) rfl (fun ad e => by cases e) (by simp) (by unfold maxLen; omega) (by omega) (by have := gr8.size; omega) ?_; intro v9 w9 own9 gr9)
                          | (refine wpList_append_any rfl (.tmp 128) (.tmp 129) 48 rfl w4.heap.size 67 i0 _ 5 40 Tryz.underlying48 hi0 hz0 hz1 hz2 rfl (by decide) v9 _ _ rfl own9 (some ⟨gl, 0, none⟩) 0 0 (((L.drop Lc).drop 0).flatMap rwC) rfl (fun e => by cases e) (by rw [flat_rws_len, List.length_drop, List.length_drop, ← HN.out]; omega) (fun ad e j u hu => by have h0 : (L.drop Lc).drop 0 = [] := List.eq_nil_of_length_eq_zero (by rw [List.length_drop, List.length_drop, ← HN.out]; omega); rw [h0] at hu; simp at hu) (rwC_one _) (by unfold maxLen; omega) (by omega) (by have := gr9.size; have := gr8.size; omega) ?_; intro v10 w10 own10 gr10; obtain ⟨N10, hN10⟩ : ∃ n : Nat, n = 0 + Lc + 0 + 0 := ⟨_, rfl⟩; rw [← hN10] at own10; have HN10 := Lib.hid hN10; clear hN10; obtain ⟨A10, c10, rfl, -⟩ := ownsRow_form own10; have Kb10 : BlkIs w10 b 71 [.slice (some ⟨gl, 0, none⟩) L.length Lc, .int .i64 s.pos] := (gr10.block b (by have := gr9.size; have := gr8.size; have := HKB.out.lt; omega) (fun e => by have := own_ge own9 e.symm; have := HKB.out.lt; omega)).trans ((gr9.block b (by have := gr8.size; have := HKB.out.lt; omega) (fun e => by have := own_ge own8 e.symm; have := HKB.out.lt; omega)).trans ((gr8.block b (by have := HKB.out.lt; omega) (by simp [Value.ownBlock])).trans (HKB.out.later HB7.out))); have f0 : w10.cell? ⟨b, 0, none⟩ = some (.slice (some ⟨gl, 0, none⟩) L.length Lc) := Kb10.cell 0; have ff0 := Kb10.frozen 0; have HKB10 := Lib.hid Kb10; clear Kb10)
                          | fail)
                        have hlist : (appC L ⟨xt, xk, false, (o0, o1, o2), false, (n0, n1, n2)⟩).flatMap rwC = [] ++ (L.take Lc).flatMap rwC ++ [] ++ ((L.drop Lc).drop 0).flatMap rwC := by
                          rw [HAP.out.1, List.flatMap_append, List.flatMap_append]
                          simp [midC, skipC]
                        have hlen : (appC L ⟨xt, xk, false, (o0, o1, o2), false, (n0, n1, n2)⟩).length = N10 := by
                          rw [HN10.out, HAP.out.1, List.length_append, List.length_append, List.length_take, List.length_drop, List.length_drop, ← HN.out]
                          simp [midC, skipC]
                          all_goals omega
                        have hbel : Below w4.heap.size w4 w10 := ((HB7.out.grown gr8 HB7.out.size (by simp [Value.ownBlock])).grown gr9 (by have := gr8.size; omega) (fun k e => own_ge own8 e)).grown gr10 (by have := gr9.size; have := gr8.size; omega) (fun k e => own_ge own9 e)
                        have hbw : Below wr.heap.size wr w10 := HA4.out.trans (hbel.mono HA4.out.size)
                        have hon := (HR.out.2.trans (Only.of_below (S := fun j => j = b) hbw)).trans (Only.setCell (S := fun j => j = b) w10 ⟨b, 0, none⟩ (.slice A10 N10 c10) rfl)
                        have hx' := (List.getElem?_eq_some_iff.1 HX.out).1
                        refine ⟨⟨k2 + 1, by omega, by go_num, Lib.hid ⟨⟨_, HKB10.out.set 0 _, ?_⟩, hon⟩⟩, by simp [intOf]; omega⟩
                        dsimp only
                        rw [HFO.out, hlen, hlist]
                        exact ownsRow_set (ownsRow_mono own10 (by have := HKB.out.lt; omega)) _ _ (fun j e => by have := own_ge own10 e; have := HKB.out.lt; show j ≠ b; omega)
                  · cases had
                    case false =>
                      go_wp2_with fail
                      refine (HAF.out w4).mono ?_
                      rintro e w5 ⟨rfl, b5⟩
                      cases has
                      case true =>
                        have a6 := Below.alloc1 w5 (.cells #[.int .i64 xt, .int .i64 xk, .int .i64 n0, .int .i64 n1, .int .i64 n2] 67)
                        have K6 := BlkIs.new w5 67 #[.int .i64 xt, .int .i64 xk, .int .i64 n0, .int .i64 n1, .int .i64 n2]
                        have b6 := b5.trans (a6.mono b5.size)
                        have a7 := Below.alloc1 (w5.alloc (.cells #[.int .i64 xt, .int .i64 xk, .int .i64 n0, .int .i64 n1, .int .i64 n2] 67)) (.cells #[.int .i64 xt, .int .i64 xk, .int .i64 n0, .int .i64 n1, .int .i64 n2] 67)
                        have K7 : BlkIs ((w5.alloc (.cells #[.int .i64 xt, .int .i64 xk, .int .i64 n0, .int .i64 n1, .int .i64 n2] 67)).alloc (.cells #[.int .i64 xt, .int .i64 xk, .int .i64 n0, .int .i64 n1, .int .i64 n2] 67)) (w5.heap.size + 1) 67 [.int .i64 xt, .int .i64 xk, .int .i64 n0, .int .i64 n1, .int .i64 n2] := alloc_new_at _ _ _ (by rw [World.size_alloc])
                        have b7 := b6.trans (a7.mono b6.size)
                        have e0 : (w5.alloc (.cells #[.int .i64 xt, .int .i64 xk, .int .i64 n0, .int .i64 n1, .int .i64 n2] 67)).cell? ⟨w5.heap.size, 0, none⟩ = some (.int .i64 xt) := K6.cell 0
                        have e1 : (w5.alloc (.cells #[.int .i64 xt, .int .i64 xk, .int .i64 n0, .int .i64 n1, .int .i64 n2] 67)).cell? ⟨w5.heap.size, 1, none⟩ = some (.int .i64 xk) := K6.cell 1
                        have e2 : (w5.alloc (.cells #[.int .i64 xt, .int .i64 xk, .int .i64 n0, .int .i64 n1, .int .i64 n2] 67)).cell? ⟨w5.heap.size, 2, none⟩ = some (.int .i64 n0) := K6.cell 2
                        have e3 : (w5.alloc (.cells #[.int .i64 xt, .int .i64 xk, .int .i64 n0, .int .i64 n1, .int .i64 n2] 67)).cell? ⟨w5.heap.size, 3, none⟩ = some (.int .i64 n1) := K6.cell 3
                        have e4 : (w5.alloc (.cells #[.int .i64 xt, .int .i64 xk, .int .i64 n0, .int .i64 n1, .int .i64 n2] 67)).cell? ⟨w5.heap.size, 4, none⟩ = some (.int .i64 n2) := K6.cell 4
                        have s0 : ((w5.alloc (.cells #[.int .i64 xt, .int .i64 xk, .int .i64 n0, .int .i64 n1, .int .i64 n2] 67)).alloc (.cells #[.int .i64 xt, .int .i64 xk, .int .i64 n0, .int .i64 n1, .int .i64 n2] 67)).cell? ⟨b, 0, none⟩ = some (.slice (some ⟨gl, 0, none⟩) N Lc) := by rw [HN.out]; exact (HKB.out.later b7).cell 0
                        have own7 := ownsRow_later b7 HOL.out
                        have hgl4 : gl < w4.heap.size := (HOL.out.lt gl rfl).2
                        have hcl : ∀ (j : Nat) u, (L.flatMap rwC)[j]? = some u → ((w5.alloc (.cells #[.int .i64 xt, .int .i64 xk, .int .i64 n0, .int .i64 n1, .int .i64 n2] 67)).alloc (.cells #[.int .i64 xt, .int .i64 xk, .int .i64 n0, .int .i64 n1, .int .i64 n2] 67)).cell? ⟨gl, j, none⟩ = some u := by
                          obtain ⟨A9, c9, e9, -, -, hx9⟩ := ownsRow_form own7
                          intro j u hu
                          obtain ⟨g9, eg, -, -, hc9⟩ := hx9 (Nat.pos_of_ne_zero fun h0 => by rw [List.eq_nil_of_length_eq_zero h0] at hu; simp at hu)
                          injection e9 with e91 _ _
                          rw [eg] at e91
                          injection e91 with e91
                          injection e91 with e92 _ _
                          subst e92
                          exact hc9 j u hu
                        have HCL := Lib.hid hcl
                        have HB7 := Lib.hid b7
                        have HK7 := Lib.hid K7
                        have hb7s := b7.size
                        have hJL : J ≤ L.length := by rw [← HN.out]; omega
                        have HJL := Lib.hid hJL
                        clear hcl b7 b6 a6 K6 b5 a7 K7 own7 hJL
                        go_wp2_with (at_builtin; first
                          | (refine wpList_append_any rfl (.tmp 119) (.tmp 125) 48 rfl w4.heap.size 67 i0 _ 5 40 Tryz.underlying48 hi0 hz0 hz1 hz2 rfl (by decide) (.slice none 0 0) 0 [] rfl (World.ownsRow_nil _ _ _ _) (some ⟨gl, 0, none⟩) J Lc ((L.take J).flatMap rwC) rfl (fun e => by cases e) (by rw [flat_rws_len, List.length_take, Nat.min_eq_left HJL.out]) (fun ad e => by injection e with e; subst e; exact cells_take HCL.out J) (rwC_one _) (by unfold maxLen; omega) (by omega) hb7s ?_; intro v8 w8 own8 gr8)
                          | (refine wpList_append_any rfl (.tmp 126) (.tmp 127) 48 rfl w4.heap.size 67 i0 _ 5 40 Tryz.underlying48 hi0 hz0 hz1 hz2 rfl (by decide) v8 _ _ rfl own8 (some ⟨w5.heap.size + 1, 0, none⟩) 1 1 [.int .i64 xt, .int .i64 xk, .int .i64 n0, .int .i64 n1, .int .i64 n2] rfl (fun e => by cases e) rfl (fun ad e j u hu => by injection e with e; subst e; rw [add_zero_off]; exact gr8.cell ((HK7.out.cell j).trans hu) (by simp [Value.ownBlock])) (by have := rwC_one [⟨xt, xk, n0, n1, n2⟩]; simpa [rwC] using this) (by unfold maxLen; omega) (by omega) (by have := gr8.size; omega) ?_; intro v9 w9 own9 gr9)
                          | (refine wpList_append_any rfl (.tmp 128) (.tmp 129) 48 rfl w4.heap.size 67 i0 _ 5 40 Tryz.underlying48 hi0 hz0 hz1 hz2 rfl (by decide) v9 _ _ rfl own9 (some ⟨gl, J * 5, none⟩) (N - J) (Lc - J) (((L.drop J).drop 0).flatMap rwC) rfl (fun e => by cases e) (by rw [flat_rws_len, List.length_drop, List.length_drop, ← HN.out]; omega) (fun ad e => by injection e with e; subst e; rw [List.drop_drop]; exact cells_drop (cells_grown gr9 (fun e => by have := own_ge own8 e.symm; omega) (cells_grown gr8 (by simp [Value.ownBlock]) HCL.out)) J) (rwC_one _) (by unfold maxLen; omega) (by omega) (by have := gr9.size; have := gr8.size; omega) ?_; intro v10 w10 own10 gr10; obtain ⟨N10, hN10⟩ : ∃ n : Nat, n = 0 + J + 1 + (N - J) := ⟨_, rfl⟩; rw [← hN10] at own10; have HN10 := Lib.hid hN10; clear hN10; obtain ⟨A10, c10, rfl, -⟩ := ownsRow_form own10; have Kb10 : BlkIs w10 b 71 [.slice (some ⟨gl, 0, none⟩) L.length Lc, .int .i64 s.pos] := (gr10.block b (by have := gr9.size; have := gr8.size; have := HKB.out.lt; omega) (fun e => by have := own_ge own9 e.symm; have := HKB.out.lt; omega)).trans ((gr9.block b (by have := gr8.size; have := HKB.out.lt; omega) (fun e => by have := own_ge own8 e.symm; have := HKB.out.lt; omega)).trans ((gr8.block b (by have := HKB.out.lt; omega) (by simp [Value.ownBlock])).trans (HKB.out.later HB7.out))); have f0 : w10.cell? ⟨b, 0, none⟩ = some (.slice (some ⟨gl, 0, none⟩) L.length Lc) := Kb10.cell 0; have ff0 := Kb10.frozen 0; have HKB10 := Lib.hid Kb10; clear Kb10)
                          | fail)
                        have hlist : (appC L ⟨xt, xk, false, (o0, o1, o2), true, (n0, n1, n2)⟩).flatMap rwC = [] ++ (L.take J).flatMap rwC ++ [.int .i64 xt, .int .i64 xk, .int .i64 n0, .int .i64 n1, .int .i64 n2] ++ ((L.drop J).drop 0).flatMap rwC := by
                          rw [HAP.out.1, List.flatMap_append, List.flatMap_append]
                          simp [midC, rowNew, rwC, skipC]
                        have hlen : (appC L ⟨xt, xk, false, (o0, o1, o2), true, (n0, n1, n2)⟩).length = N10 := by
                          rw [HN10.out, HAP.out.1, List.length_append, List.length_append, List.length_take, List.length_drop, List.length_drop, ← HN.out]
                          simp [midC, skipC]
                          all_goals omega
                        have hbel : Below w4.heap.size w4 w10 := ((HB7.out.grown gr8 HB7.out.size (by simp [Value.ownBlock])).grown gr9 (by have := gr8.size; omega) (fun k e => own_ge own8 e)).grown gr10 (by have := gr9.size; have := gr8.size; omega) (fun k e => own_ge own9 e)
                        have hbw : Below wr.heap.size wr w10 := HA4.out.trans (hbel.mono HA4.out.size)
                        have hon := (HR.out.2.trans (Only.of_below (S := fun j => j = b) hbw)).trans (Only.setCell (S := fun j => j = b) w10 ⟨b, 0, none⟩ (.slice A10 N10 c10) rfl)
                        have hx' := (List.getElem?_eq_some_iff.1 HX.out).1
                        refine ⟨⟨k2 + 1, by omega, by go_num, Lib.hid ⟨⟨_, HKB10.out.set 0 _, ?_⟩, hon⟩⟩, by simp [intOf]; omega⟩
                        dsimp only
                        rw [HFO.out, hlen, hlist]
                        exact ownsRow_set (ownsRow_mono own10 (by have := HKB.out.lt; omega)) _ _ (fun j e => by have := own_ge own10 e; have := HKB.out.lt; show j ≠ b; omega)
                      case false =>
                        have a6 := Below.alloc1 w5 (.cells #[.int .i64 0, .int .i64 0, .int .i64 0, .int .i64 0, .int .i64 0] 67)
                        have K6 := BlkIs.new w5 67 #[.int .i64 0, .int .i64 0, .int .i64 0, .int .i64 0, .int .i64 0]
                        have b6 := b5.trans (a6.mono b5.size)
                        have b7 := b6
                        have s0 : (w5.alloc (.cells #[.int .i64 0, .int .i64 0, .int .i64 0, .int .i64 0, .int .i64 0] 67)).cell? ⟨b, 0, none⟩ = some (.slice (some ⟨gl, 0, none⟩) N Lc) := by rw [HN.out]; exact (HKB.out.later b7).cell 0
                        have own7 := ownsRow_later b7 HOL.out
                        have hgl4 : gl < w4.heap.size := (HOL.out.lt gl rfl).2
                        have hcl : ∀ (j : Nat) u, (L.flatMap rwC)[j]? = some u → (w5.alloc (.cells #[.int .i64 0, .int .i64 0, .int .i64 0, .int .i64 0, .int .i64 0] 67)).cell? ⟨gl, j, none⟩ = some u := by
                          obtain ⟨A9, c9, e9, -, -, hx9⟩ := ownsRow_form own7
                          intro j u hu
                          obtain ⟨g9, eg, -, -, hc9⟩ := hx9 (Nat.pos_of_ne_zero fun h0 => by rw [List.eq_nil_of_length_eq_zero h0] at hu; simp at hu)
                          injection e9 with e91 _ _
                          rw [eg] at e91
                          injection e91 with e91
                          injection e91 with e92 _ _
                          subst e92
                          exact hc9 j u hu
                        have HCL := Lib.hid hcl
                        have HB7 := Lib.hid b7
                        have hb7s := b7.size
                        have hJL : J ≤ L.length := by rw [← HN.out]; omega
                        have HJL := Lib.hid hJL
                        clear hcl b7 b6 a6 K6 b5 own7 hJL
                        go_wp2_with (at_builtin; first
                          | (refine wpList_append_any rfl (.tmp 119) (.tmp 125) 48 rfl w4.heap.size 67 i0 _ 5 40 Tryz.underlying48 hi0 hz0 hz1 hz2 rfl (by decide) (.slice none 0 0) 0 [] rfl (World.ownsRow_nil _ _ _ _) (some ⟨gl, 0, none⟩) J Lc ((L.take J).flatMap rwC) rfl (fun e => by cases e) (by rw [flat_rws_len, List.length_take, Nat.min_eq_left HJL.out]) (fun ad e => by injection e with e; subst e; exact cells_take HCL.out J) (rwC_one _) (by unfold maxLen; omega) (by omega) hb7s ?_; intro v8 w8 own8 gr8)
                          | (refine wpList_append_any rfl (.tmp 126) (.tmp 127) 48 rfl w4.heap.size 67 i0 _ 5 40 Tryz.underlying48 hi0 hz0 hz1 hz2 rfl (by decide) v8 _ _ rfl own8 none 0 0 [] rfl (fun _ => ⟨rfl, rfl⟩) rfl (fun ad e => by cases e) (by simp) (by unfold maxLen; omega) (by omega) (by have := gr8.size; omega) ?_; intro v9 w9 own9 gr9)
                          | (refine wpList_append_any rfl (.tmp 128) (.tmp 129) 48 rfl w4.heap.size 67 i0 _ 5 40 Tryz.underlying48 hi0 hz0 hz1 hz2 rfl (by decide) v9 _ _ rfl own9 (some ⟨gl, J * 5, none⟩) (N - J) (Lc - J) (((L.drop J).drop 0).flatMap rwC) rfl (fun e => by cases e) (by rw [flat_rws_len, List.length_drop, List.length_drop, ← HN.out]; omega) (fun ad e => by injection e with e; subst e; rw [List.drop_drop]; exact cells_drop (cells_grown gr9 (fun e => by have := own_ge own8 e.symm; omega) (cells_grown gr8 (by simp [Value.ownBlock]) HCL.out)) J) (rwC_one _) (by unfold maxLen; omega) (by omega) (by have := gr9.size; have := gr8.size; omega) ?_; intro v10 w10 own10 gr10; obtain ⟨N10, hN10⟩ : ∃ n : Nat, n = 0 + J + 0 + (N - J) := ⟨_, rfl⟩; rw [← hN10] at own10; have HN10 := Lib.hid hN10; clear hN10; obtain ⟨A10, c10, rfl, -⟩ := ownsRow_form own10; have Kb10 : BlkIs w10 b 71 [.slice (some ⟨gl, 0, none⟩) L.length Lc, .int .i64 s.pos] := (gr10.block b (by have := gr9.size; have := gr8.size; have := HKB.out.lt; omega) (fun e => by have := own_ge own9 e.symm; have := HKB.out.lt; omega)).trans ((gr9.block b (by have := gr8.size; have := HKB.out.lt; omega) (fun e => by have := own_ge own8 e.symm; have := HKB.out.lt; omega)).trans ((gr8.block b (by have := HKB.out.lt; omega) (by simp [Value.ownBlock])).trans (HKB.out.later HB7.out))); have f0 : w10.cell? ⟨b, 0, none⟩ = some (.slice (some ⟨gl, 0, none⟩) L.length Lc) := Kb10.cell 0; have ff0 := Kb10.frozen 0; have HKB10 := Lib.hid Kb10; clear Kb10)
                          | fail)
                        have hlist : (appC L ⟨xt, xk, false, (o0, o1, o2), false, (n0, n1, n2)⟩).flatMap rwC = [] ++ (L.take J).flatMap rwC ++ [] ++ ((L.drop J).drop 0).flatMap rwC := by
                          rw [HAP.out.1, List.flatMap_append, List.flatMap_append]
                          simp [midC, skipC]
                        have hlen : (appC L ⟨xt, xk, false, (o0, o1, o2), false, (n0, n1, n2)⟩).length = N10 := by
                          rw [HN10.out, HAP.out.1, List.length_append, List.length_append, List.length_take, List.length_drop, List.length_drop, ← HN.out]
                          simp [midC, skipC]
                          all_goals omega
                        have hbel : Below w4.heap.size w4 w10 := ((HB7.out.grown gr8 HB7.out.size (by simp [Value.ownBlock])).grown gr9 (by have := gr8.size; omega) (fun k e => own_ge own8 e)).grown gr10 (by have := gr9.size; have := gr8.size; omega) (fun k e => own_ge own9 e)
                        have hbw : Below wr.heap.size wr w10 := HA4.out.trans (hbel.mono HA4.out.size)
                        have hon := (HR.out.2.trans (Only.of_below (S := fun j => j = b) hbw)).trans (Only.setCell (S := fun j => j = b) w10 ⟨b, 0, none⟩ (.slice A10 N10 c10) rfl)
                        have hx' := (List.getElem?_eq_some_iff.1 HX.out).1
                        refine ⟨⟨k2 + 1, by omega, by go_num, Lib.hid ⟨⟨_, HKB10.out.set 0 _, ?_⟩, hon⟩⟩, by simp [intOf]; omega⟩
                        dsimp only
                        rw [HFO.out, hlen, hlist]
                        exact ownsRow_set (ownsRow_mono own10 (by have := HKB.out.lt; omega)) _ _ (fun j e => by have := own_ge own10 e; have := HKB.out.lt; show j ≠ b; omega)
                    case true =>
                      have hJ1 : J + 1 ≤ N := by have := HSK.out; rw [← HN.out] at this; simpa [skipC] using this
                      by_cases hc1 : Lc - J = 1
                      · go_wp2_with fail
                        refine (HAF.out w4).mono ?_
                        rintro e w5 ⟨rfl, b5⟩
                        cases has
                        case true =>
                          have a6 := Below.alloc1 w5 (.cells #[.int .i64 xt, .int .i64 xk, .int .i64 n0, .int .i64 n1, .int .i64 n2] 67)
                          have K6 := BlkIs.new w5 67 #[.int .i64 xt, .int .i64 xk, .int .i64 n0, .int .i64 n1, .int .i64 n2]
                          have b6 := b5.trans (a6.mono b5.size)
                          have a7 := Below.alloc1 (w5.alloc (.cells #[.int .i64 xt, .int .i64 xk, .int .i64 n0, .int .i64 n1, .int .i64 n2] 67)) (.cells #[.int .i64 xt, .int .i64 xk, .int .i64 n0, .int .i64 n1, .int .i64 n2] 67)
                          have K7 : BlkIs ((w5.alloc (.cells #[.int .i64 xt, .int .i64 xk, .int .i64 n0, .int .i64 n1, .int .i64 n2] 67)).alloc (.cells #[.int .i64 xt, .int .i64 xk, .int .i64 n0, .int .i64 n1, .int .i64 n2] 67)) (w5.heap.size + 1) 67 [.int .i64 xt, .int .i64 xk, .int .i64 n0, .int .i64 n1, .int .i64 n2] := alloc_new_at _ _ _ (by rw [World.size_alloc])
                          have b7 := b6.trans (a7.mono b6.size)
                          have e0 : (w5.alloc (.cells #[.int .i64 xt, .int .i64 xk, .int .i64 n0, .int .i64 n1, .int .i64 n2] 67)).cell? ⟨w5.heap.size, 0, none⟩ = some (.int .i64 xt) := K6.cell 0
                          have e1 : (w5.alloc (.cells #[.int .i64 xt, .int .i64 xk, .int .i64 n0, .int .i64 n1, .int .i64 n2] 67)).cell? ⟨w5.heap.size, 1, none⟩ = some (.int .i64 xk) := K6.cell 1
                          have e2 : (w5.alloc (.cells #[.int .i64 xt, .int .i64 xk, .int .i64 n0, .int .i64 n1, .int .i64 n2] 67)).cell? ⟨w5.heap.size, 2, none⟩ = some (.int .i64 n0) := K6.cell 2
                          have e3 : (w5.alloc (.cells #[.int .i64 xt, .int .i64 xk, .int .i64 n0, .int .i64 n1, .int .i64 n2] 67)).cell? ⟨w5.heap.size, 3, none⟩ = some (.int .i64 n1) := K6.cell 3
                          have e4 : (w5.alloc (.cells #[.int .i64 xt, .int .i64 xk, .int .i64 n0, .int .i64 n1, .int .i64 n2] 67)).cell? ⟨w5.heap.size, 4, none⟩ = some (.int .i64 n2) := K6.cell 4
                          have s0 : ((w5.alloc (.cells #[.int .i64 xt, .int .i64 xk, .int .i64 n0, .int .i64 n1, .int .i64 n2] 67)).alloc (.cells #[.int .i64 xt, .int .i64 xk, .int .i64 n0, .int .i64 n1, .int .i64 n2] 67)).cell? ⟨b, 0, none⟩ = some (.slice (some ⟨gl, 0, none⟩) N Lc) := by rw [HN.out]; exact (HKB.out.later b7).cell 0
                          have own7 := ownsRow_later b7 HOL.out
                          have hgl4 : gl < w4.heap.size := (HOL.out.lt gl rfl).2
                          have hcl : ∀ (j : Nat) u, (L.flatMap rwC)[j]? = some u → ((w5.alloc (.cells #[.int .i64 xt, .int .i64 xk, .int .i64 n0, .int .i64 n1, .int .i64 n2] 67)).alloc (.cells #[.int .i64 xt, .int .i64 xk, .int .i64 n0, .int .i64 n1, .int .i64 n2] 67)).cell? ⟨gl, j, none⟩ = some u := by
                            obtain ⟨A9, c9, e9, -, -, hx9⟩ := ownsRow_form own7
                            intro j u hu
                            obtain ⟨g9, eg, -, -, hc9⟩ := hx9 (Nat.pos_of_ne_zero fun h0 => by rw [List.eq_nil_of_length_eq_zero h0] at hu; simp at hu)
                            injection e9 with e91 _ _
                            rw [eg] at e91
                            injection e91 with e91
                            injection e91 with e92 _ _
                            subst e92
                            exact hc9 j u hu
                          have HCL := Lib.hid hcl
                          have HB7 := Lib.hid b7
                          have HK7 := Lib.hid K7
                          have hb7s := b7.size
                          have hJL : J ≤ L.length := by rw [← HN.out]; omega
                          have HJL := Lib.hid hJL
                          clear hcl b7 b6 a6 K6 b5 a7 K7 own7 hJL
                          go_wp2_with (at_builtin; first
                            | (refine wpList_append_any rfl (.tmp 119) (.tmp 125) 48 rfl w4.heap.size 67 i0 _ 5 40 Tryz.underlying48 hi0 hz0 hz1 hz2 rfl (by decide) (.slice none 0 0) 0 [] rfl (World.ownsRow_nil _ _ _ _) (some ⟨gl, 0, none⟩) J Lc ((L.take J).flatMap rwC) rfl (fun e => by cases e) (by rw [flat_rws_len, List.length_take, Nat.min_eq_left HJL.out]) (fun ad e => by injection e with e; subst e; exact cells_take HCL.out J) (rwC_one _) (by unfold maxLen; omega) (by omega) hb7s ?_; intro v8 w8 own8 gr8)
                            | (refine wpList_append_any rfl (.tmp 126) (.tmp 127) 48 rfl w4.heap.size 67 i0 _ 5 40 Tryz.underlying48 hi0 hz0 hz1 hz2 rfl (by decide) v8 _ _ rfl own8 (some ⟨w5.heap.size + 1, 0, none⟩) 1 1 [.int .i64 xt, .int .i64 xk, .int .i64 n0, .int .i64 n1, .int .i64 n2] rfl (fun e => by cases e) rfl (fun ad e j u hu => by injection e with e; subst e; rw [add_zero_off]; exact gr8.cell ((HK7.out.cell j).trans hu) (by simp [Value.ownBlock])) (by have := rwC_one [⟨xt, xk, n0, n1, n2⟩]; simpa [rwC] using this) (by unfold maxLen; omega) (by omega) (by have := gr8.size; omega) ?_; intro v9 w9 own9 gr9)
                            | (refine wpList_append_any rfl (.tmp 128) (.tmp 129) 48 rfl w4.heap.size 67 i0 _ 5 40 Tryz.underlying48 hi0 hz0 hz1 hz2 rfl (by decide) v9 _ _ rfl own9 (some ⟨gl, J * 5, none⟩) (N - J - 1) 0 (((L.drop J).drop 1).flatMap rwC) rfl (fun e => by cases e) (by rw [flat_rws_len, List.length_drop, List.length_drop, ← HN.out]) (fun ad e j u hu => by have h0 : (L.drop J).drop 1 = [] := List.eq_nil_of_length_eq_zero (by rw [List.length_drop, List.length_drop, ← HN.out]; omega); rw [h0] at hu; simp at hu) (rwC_one _) (by unfold maxLen; omega) (by omega) (by have := gr9.size; have := gr8.size; omega) ?_; intro v10 w10 own10 gr10; obtain ⟨N10, hN10⟩ : ∃ n : Nat, n = 0 + J + 1 + (N - J - 1) := ⟨_, rfl⟩; rw [← hN10] at own10; have HN10 := Lib.hid hN10; clear hN10; obtain ⟨A10, c10, rfl, -⟩ := ownsRow_form own10; have Kb10 : BlkIs w10 b 71 [.slice (some ⟨gl, 0, none⟩) L.length Lc, .int .i64 s.pos] := (gr10.block b (by have := gr9.size; have := gr8.size; have := HKB.out.lt; omega) (fun e => by have := own_ge own9 e.symm; have := HKB.out.lt; omega)).trans ((gr9.block b (by have := gr8.size; have := HKB.out.lt; omega) (fun e => by have := own_ge own8 e.symm; have := HKB.out.lt; omega)).trans ((gr8.block b (by have := HKB.out.lt; omega) (by simp [Value.ownBlock])).trans (HKB.out.later HB7.out))); have f0 : w10.cell? ⟨b, 0, none⟩ = some (.slice (some ⟨gl, 0, none⟩) L.length Lc) := Kb10.cell 0; have ff0 := Kb10.frozen 0; have HKB10 := Lib.hid Kb10; clear Kb10)
                            | fail)
                          have hlist : (appC L ⟨xt, xk, true, (o0, o1, o2), true, (n0, n1, n2)⟩).flatMap rwC = [] ++ (L.take J).flatMap rwC ++ [.int .i64 xt, .int .i64 xk, .int .i64 n0, .int .i64 n1, .int .i64 n2] ++ ((L.drop J).drop 1).flatMap rwC := by
                            rw [HAP.out.1, List.flatMap_append, List.flatMap_append]
                            simp [midC, rowNew, rwC, skipC]
                          have hlen : (appC L ⟨xt, xk, true, (o0, o1, o2), true, (n0, n1, n2)⟩).length = N10 := by
                            rw [HN10.out, HAP.out.1, List.length_append, List.length_append, List.length_take, List.length_drop, List.length_drop, ← HN.out]
                            simp [midC, skipC]
                            all_goals omega
                          have hbel : Below w4.heap.size w4 w10 := ((HB7.out.grown gr8 HB7.out.size (by simp [Value.ownBlock])).grown gr9 (by have := gr8.size; omega) (fun k e => own_ge own8 e)).grown gr10 (by have := gr9.size; have := gr8.size; omega) (fun k e => own_ge own9 e)
                          have hbw : Below wr.heap.size wr w10 := HA4.out.trans (hbel.mono HA4.out.size)
                          have hon := (HR.out.2.trans (Only.of_below (S := fun j => j = b) hbw)).trans (Only.setCell (S := fun j => j = b) w10 ⟨b, 0, none⟩ (.slice A10 N10 c10) rfl)
                          have hx' := (List.getElem?_eq_some_iff.1 HX.out).1
                          refine ⟨⟨k2 + 1, by omega, by go_num, Lib.hid ⟨⟨_, HKB10.out.set 0 _, ?_⟩, hon⟩⟩, by simp [intOf]; omega⟩
                          dsimp only
                          rw [HFO.out, hlen, hlist]
                          exact ownsRow_set (ownsRow_mono own10 (by have := HKB.out.lt; omega)) _ _ (fun j e => by have := own_ge own10 e; have := HKB.out.lt; show j ≠ b; omega)
                        case false =>
                          have a6 := Below.alloc1 w5 (.cells #[.int .i64 0, .int .i64 0, .int .i64 0, .int .i64 0, .int .i64 0] 67)
                          have K6 := BlkIs.new w5 67 #[.int .i64 0, .int .i64 0, .int .i64 0, .int .i64 0, .int .i64 0]
                          have b6 := b5.trans (a6.mono b5.size)
                          have b7 := b6
                          have s0 : (w5.alloc (.cells #[.int .i64 0, .int .i64 0, .int .i64 0, .int .i64 0, .int .i64 0] 67)).cell? ⟨b, 0, none⟩ = some (.slice (some ⟨gl, 0, none⟩) N Lc) := by rw [HN.out]; exact (HKB.out.later b7).cell 0
                          have own7 := ownsRow_later b7 HOL.out
                          have hgl4 : gl < w4.heap.size := (HOL.out.lt gl rfl).2
                          have hcl : ∀ (j : Nat) u, (L.flatMap rwC)[j]? = some u → (w5.alloc (.cells #[.int .i64 0, .int .i64 0, .int .i64 0, .int .i64 0, .int .i64 0] 67)).cell? ⟨gl, j, none⟩ = some u := by
                            obtain ⟨A9, c9, e9, -, -, hx9⟩ := ownsRow_form own7
                            intro j u hu
                            obtain ⟨g9, eg, -, -, hc9⟩ := hx9 (Nat.pos_of_ne_zero fun h0 => by rw [List.eq_nil_of_length_eq_zero h0] at hu; simp at hu)
                            injection e9 with e91 _ _
                            rw [eg] at e91
                            injection e91 with e91
                            injection e91 with e92 _ _
                            subst e92
                            exact hc9 j u hu
                          have HCL := Lib.hid hcl
                          have HB7 := Lib.hid b7
                          have hb7s := b7.size
                          have hJL : J ≤ L.length := by rw [← HN.out]; omega
                          have HJL := Lib.hid hJL
                          clear hcl b7 b6 a6 K6 b5 own7 hJL
                          go_wp2_with (at_builtin; first
                            | (refine wpList_append_any rfl (.tmp 119) (.tmp 125) 48 rfl w4.heap.size 67 i0 _ 5 40 Tryz.underlying48 hi0 hz0 hz1 hz2 rfl (by decide) (.slice none 0 0) 0 [] rfl (World.ownsRow_nil _ _ _ _) (some ⟨gl, 0, none⟩) J Lc ((L.take J).flatMap rwC) rfl (fun e => by cases e) (by rw [flat_rws_len, List.length_take, Nat.min_eq_left HJL.out]) (fun ad e => by injection e with e; subst e; exact cells_take HCL.out J) (rwC_one _) (by unfold maxLen; omega) (by omega) hb7s ?_; intro v8 w8 own8 gr8)
                            | (refine wpList_append_any rfl (.tmp 126) (.tmp 127) 48 rfl w4.heap.size 67 i0 _ 5 40 Tryz.underlying48 hi0 hz0 hz1 hz2 rfl (by decide) v8 _ _ rfl own8 none 0 0 [] rfl (fun _ => ⟨rfl, rfl⟩) rfl (fun ad e => by cases e) (by simp) (by unfold maxLen; omega) (by omega) (by have := gr8.size; omega) ?_; intro v9 w9 own9 gr9)
                            | (refine wpList_append_any rfl (.tmp 128) (.tmp 129) 48 rfl w4.heap.size 67 i0 _ 5 40 Tryz.underlying48 hi0 hz0 hz1 hz2 rfl (by decide) v9 _ _ rfl own9 (some ⟨gl, J * 5, none⟩) (N - J - 1) 0 (((L.drop J).drop 1).flatMap rwC) rfl (fun e => by cases e) (by rw [flat_rws_len, List.length_drop, List.length_drop, ← HN.out]) (fun ad e j u hu => by have h0 : (L.drop J).drop 1 = [] := List.eq_nil_of_length_eq_zero (by rw [List.length_drop, List.length_drop, ← HN.out]; omega); rw [h0] at hu; simp at hu) (rwC_one _) (by unfold maxLen; omega) (by omega) (by have := gr9.size; have := gr8.size; omega) ?_; intro v10 w10 own10 gr10; obtain ⟨N10, hN10⟩ : ∃ n : Nat, n = 0 + J + 0 + (N - J - 1) := ⟨_, rfl⟩; rw [← hN10] at own10; have HN10 := Lib.hid hN10; clear hN10; obtain ⟨A10, c10, rfl, -⟩ := ownsRow_form own10; have Kb10 : BlkIs w10 b 71 [.slice (some ⟨gl, 0, none⟩) L.length Lc, .int .i64 s.pos] := (gr10.block b (by have := gr9.size; have := gr8.size; have := HKB.out.lt; omega) (fun e => by have := own_ge own9 e.symm; have := HKB.out.lt; omega)).trans ((gr9.block b (by have := gr8.size; have := HKB.out.lt; omega) (fun e => by have := own_ge own8 e.symm; have := HKB.out.lt; omega)).trans ((gr8.block b (by have := HKB.out.lt; omega) (by simp [Value.ownBlock])).trans (HKB.out.later HB7.out))); have f0 : w10.cell? ⟨b, 0, none⟩ = some (.slice (some ⟨gl, 0, none⟩) L.length Lc) := Kb10.cell 0; have ff0 := Kb10.frozen 0; have HKB10 := Lib.hid Kb10; clear Kb10)
                            | fail)
                          have hlist : (appC L ⟨xt, xk, true, (o0, o1, o2), false, (n0, n1, n2)⟩).flatMap rwC = [] ++ (L.take J).flatMap rwC ++ [] ++ ((L.drop J).drop 1).flatMap rwC := by
                            rw [HAP.out.1, List.flatMap_append, List.flatMap_append]
                            simp [midC, skipC]
                          have hlen : (appC L ⟨xt, xk, true, (o0, o1, o2), false, (n0, n1, n2)⟩).length = N10 := by
                            rw [HN10.out, HAP.out.1, List.length_append, List.length_append, List.length_take, List.length_drop, List.length_drop, ← HN.out]
                            simp [midC, skipC]
                            all_goals omega
                          have hbel : Below w4.heap.size w4 w10 := ((HB7.out.grown gr8 HB7.out.size (by simp [Value.ownBlock])).grown gr9 (by have := gr8.size; omega) (fun k e => own_ge own8 e)).grown gr10 (by have := gr9.size; have := gr8.size; omega) (fun k e => own_ge own9 e)
                          have hbw : Below wr.heap.size wr w10 := HA4.out.trans (hbel.mono HA4.out.size)
                          have hon := (HR.out.2.trans (Only.of_below (S := fun j => j = b) hbw)).trans (Only.setCell (S := fun j => j = b) w10 ⟨b, 0, none⟩ (.slice A10 N10 c10) rfl)
                          have hx' := (List.getElem?_eq_some_iff.1 HX.out).1
                          refine ⟨⟨k2 + 1, by omega, by go_num, Lib.hid ⟨⟨_, HKB10.out.set 0 _, ?_⟩, hon⟩⟩, by simp [intOf]; omega⟩
                          dsimp only
                          rw [HFO.out, hlen, hlist]
                          exact ownsRow_set (ownsRow_mono own10 (by have := HKB.out.lt; omega)) _ _ (fun j e => by have := own_ge own10 e; have := HKB.out.lt; show j ≠ b; omega)
                      · go_wp2_with fail
                        refine (HAF.out w4).mono ?_
                        rintro e w5 ⟨rfl, b5⟩
                        cases has
                        case true =>
                          have a6 := Below.alloc1 w5 (.cells #[.int .i64 xt, .int .i64 xk, .int .i64 n0, .int .i64 n1, .int .i64 n2] 67)
                          have K6 := BlkIs.new w5 67 #[.int .i64 xt, .int .i64 xk, .int .i64 n0, .int .i64 n1, .int .i64 n2]
                          have b6 := b5.trans (a6.mono b5.size)
                          have a7 := Below.alloc1 (w5.alloc (.cells #[.int .i64 xt, .int .i64 xk, .int .i64 n0, .int .i64 n1, .int .i64 n2] 67)) (.cells #[.int .i64 xt, .int .i64 xk, .int .i64 n0, .int .i64 n1, .int .i64 n2] 67)
                          have K7 : BlkIs ((w5.alloc (.cells #[.int .i64 xt, .int .i64 xk, .int .i64 n0, .int .i64 n1, .int .i64 n2] 67)).alloc (.cells #[.int .i64 xt, .int .i64 xk, .int .i64 n0, .int .i64 n1, .int .i64 n2] 67)) (w5.heap.size + 1) 67 [.int .i64 xt, .int .i64 xk, .int .i64 n0, .int .i64 n1, .int .i64 n2] := alloc_new_at _ _ _ (by rw [World.size_alloc])
                          have b7 := b6.trans (a7.mono b6.size)
                          have e0 : (w5.alloc (.cells #[.int .i64 xt, .int .i64 xk, .int .i64 n0, .int .i64 n1, .int .i64 n2] 67)).cell? ⟨w5.heap.size, 0, none⟩ = some (.int .i64 xt) := K6.cell 0
                          have e1 : (w5.alloc (.cells #[.int .i64 xt, .int .i64 xk, .int .i64 n0, .int .i64 n1, .int .i64 n2] 67)).cell? ⟨w5.heap.size, 1, none⟩ = some (.int .i64 xk) := K6.cell 1
                          have e2 : (w5.alloc (.cells #[.int .i64 xt, .int .i64 xk, .int .i64 n0, .int .i64 n1, .int .i64 n2] 67)).cell? ⟨w5.heap.size, 2, none⟩ = some (.int .i64 n0) := K6.cell 2
                          have e3 : (w5.alloc (.cells #[.int .i64 xt, .int .i64 xk, .int .i64 n0, .int .i64 n1, .int .i64 n2] 67)).cell? ⟨w5.heap.size, 3, none⟩ = some (.int .i64 n1) := K6.cell 3
                          have e4 : (w5.alloc (.cells #[.int .i64 xt, .int .i64 xk, .int .i64 n0, .int .i64 n1, .int .i64 n2] 67)).cell? ⟨w5.heap.size, 4, none⟩ = some (.int .i64 n2) := K6.cell 4
                          have s0 : ((w5.alloc (.cells #[.int .i64 xt, .int .i64 xk, .int .i64 n0, .int .i64 n1, .int .i64 n2] 67)).alloc (.cells #[.int .i64 xt, .int .i64 xk, .int .i64 n0, .int .i64 n1, .int .i64 n2] 67)).cell? ⟨b, 0, none⟩ = some (.slice (some ⟨gl, 0, none⟩) N Lc) := by rw [HN.out]; exact (HKB.out.later b7).cell 0
                          have own7 := ownsRow_later b7 HOL.out
                          have hgl4 : gl < w4.heap.size := (HOL.out.lt gl rfl).2
                          have hcl : ∀ (j : Nat) u, (L.flatMap rwC)[j]? = some u → ((w5.alloc (.cells #[.int .i64 xt, .int .i64 xk, .int .i64 n0, .int .i64 n1, .int .i64 n2] 67)).alloc (.cells #[.int .i64 xt, .int .i64 xk, .int .i64 n0, .int .i64 n1, .int .i64 n2] 67)).cell? ⟨gl, j, none⟩ = some u := by
                            obtain ⟨A9, c9, e9, -, -, hx9⟩ := ownsRow_form own7
                            intro j u hu
                            obtain ⟨g9, eg, -, -, hc9⟩ := hx9 (Nat.pos_of_ne_zero fun h0 => by rw [List.eq_nil_of_length_eq_zero h0] at hu; simp at hu)
                            injection e9 with e91 _ _
                            rw [eg] at e91
                            injection e91 with e91
                            injection e91 with e92 _ _
                            subst e92
                            exact hc9 j u hu
                          have HCL := Lib.hid hcl
                          have HB7 := Lib.hid b7
                          have HK7 := Lib.hid K7
                          have hb7s := b7.size
                          have hJL : J ≤ L.length := by rw [← HN.out]; omega
                          have HJL := Lib.hid hJL
                          clear hcl b7 b6 a6 K6 b5 a7 K7 own7 hJL
                          go_wp2_with (at_builtin; first
                            | (refine wpList_append_any rfl (.tmp 119) (.tmp 125) 48 rfl w4.heap.size 67 i0 _ 5 40 Tryz.underlying48 hi0 hz0 hz1 hz2 rfl (by decide) (.slice none 0 0) 0 [] rfl (World.ownsRow_nil _ _ _ _) (some ⟨gl, 0, none⟩) J Lc ((L.take J).flatMap rwC) rfl (fun e => by cases e) (by rw [flat_rws_len, List.length_take, Nat.min_eq_left HJL.out]) (fun ad e => by injection e with e; subst e; exact cells_take HCL.out J) (rwC_one _) (by unfold maxLen; omega) (by omega) hb7s ?_; intro v8 w8 own8 gr8)
                            | (refine wpList_append_any rfl (.tmp 126) (.tmp 127) 48 rfl w4.heap.size 67 i0 _ 5 40 Tryz.underlying48 hi0 hz0 hz1 hz2 rfl (by decide) v8 _ _ rfl own8 (some ⟨w5.heap.size + 1, 0, none⟩) 1 1 [.int .i64 xt, .int .i64 xk, .int .i64 n0, .int .i64 n1, .int .i64 n2] rfl (fun e => by cases e) rfl (fun ad e j u hu => by injection e with e; subst e; rw [add_zero_off]; exact gr8.cell ((HK7.out.cell j).trans hu) (by simp [Value.ownBlock])) (by have := rwC_one [⟨xt, xk, n0, n1, n2⟩]; simpa [rwC] using this) (by unfold maxLen; omega) (by omega) (by have := gr8.size; omega) ?_; intro v9 w9 own9 gr9)
                            | (refine wpList_append_any rfl (.tmp 128) (.tmp 129) 48 rfl w4.heap.size 67 i0 _ 5 40 Tryz.underlying48 hi0 hz0 hz1 hz2 rfl (by decide) v9 _ _ rfl own9 (some ⟨gl, J * 5 + 5, none⟩) (N - J - 1) (Lc - J - 1) (((L.drop J).drop 1).flatMap rwC) rfl (fun e => by cases e) (by rw [flat_rws_len, List.length_drop, List.length_drop, ← HN.out]) (fun ad e => by injection e with e; subst e; rw [List.drop_drop, show J * 5 + 5 = (J + 1) * 5 by omega]; exact cells_drop (cells_grown gr9 (fun e => by have := own_ge own8 e.symm; omega) (cells_grown gr8 (by simp [Value.ownBlock]) HCL.out)) (J + 1)) (rwC_one _) (by unfold maxLen; omega) (by omega) (by have := gr9.size; have := gr8.size; omega) ?_; intro v10 w10 own10 gr10; obtain ⟨N10, hN10⟩ : ∃ n : Nat, n = 0 + J + 1 + (N - J - 1) := ⟨_, rfl⟩; rw [← hN10] at own10; have HN10 := Lib.hid hN10; clear hN10; obtain ⟨A10, c10, rfl, -⟩ := ownsRow_form own10; have Kb10 : BlkIs w10 b 71 [.slice (some ⟨gl, 0, none⟩) L.length Lc, .int .i64 s.pos] := (gr10.block b (by have := gr9.size; have := gr8.size; have := HKB.out.lt; omega) (fun e => by have := own_ge own9 e.symm; have := HKB.out.lt; omega)).trans ((gr9.block b (by have := gr8.size; have := HKB.out.lt; omega) (fun e => by have := own_ge own8 e.symm; have := HKB.out.lt; omega)).trans ((gr8.block b (by have := HKB.out.lt; omega) (by simp [Value.ownBlock])).trans (HKB.out.later HB7.out))); have f0 : w10.cell? ⟨b, 0, none⟩ = some (.slice (some ⟨gl, 0, none⟩) L.length Lc) := Kb10.cell 0; have ff0 := Kb10.frozen 0; have HKB10 := Lib.hid Kb10; clear Kb10)
                            | fail)
                          have hlist : (appC L ⟨xt, xk, true, (o0, o1, o2), true, (n0, n1, n2)⟩).flatMap rwC = [] ++ (L.take J).flatMap rwC ++ [.int .i64 xt, .int .i64 xk, .int .i64 n0, .int .i64 n1, .int .i64 n2] ++ ((L.drop J).drop 1).flatMap rwC := by
                            rw [HAP.out.1, List.flatMap_append, List.flatMap_append]
                            simp [midC, rowNew, rwC, skipC]
                          have hlen : (appC L ⟨xt, xk, true, (o0, o1, o2), true, (n0, n1, n2)⟩).length = N10 := by
                            rw [HN10.out, HAP.out.1, List.length_append, List.length_append, List.length_take, List.length_drop, List.length_drop, ← HN.out]
                            simp [midC, skipC]
                            all_goals omega
                          have hbel : Below w4.heap.size w4 w10 := ((HB7.out.grown gr8 HB7.out.size (by simp [Value.ownBlock])).grown gr9 (by have := gr8.size; omega) (fun k e => own_ge own8 e)).grown gr10 (by have := gr9.size; have := gr8.size; omega) (fun k e => own_ge own9 e)
                          have hbw : Below wr.heap.size wr w10 := HA4.out.trans (hbel.mono HA4.out.size)
                          have hon := (HR.out.2.trans (Only.of_below (S := fun j => j = b) hbw)).trans (Only.setCell (S := fun j => j = b) w10 ⟨b, 0, none⟩ (.slice A10 N10 c10) rfl)
                          have hx' := (List.getElem?_eq_some_iff.1 HX.out).1
                          refine ⟨⟨k2 + 1, by omega, by go_num, Lib.hid ⟨⟨_, HKB10.out.set 0 _, ?_⟩, hon⟩⟩, by simp [intOf]; omega⟩
                          dsimp only
                          rw [HFO.out, hlen, hlist]
                          exact ownsRow_set (ownsRow_mono own10 (by have := HKB.out.lt; omega)) _ _ (fun j e => by have := own_ge own10 e; have := HKB.out.lt; show j ≠ b; omega)
                        case false =>
                          have a6 := Below.alloc1 w5 (.cells #[.int .i64 0, .int .i64 0, .int .i64 0, .int .i64 0, .int .i64 0] 67)
                          have K6 := BlkIs.new w5 67 #[.int .i64 0, .int .i64 0, .int .i64 0, .int .i64 0, .int .i64 0]
                          have b6 := b5.trans (a6.mono b5.size)
                          have b7 := b6
                          have s0 : (w5.alloc (.cells #[.int .i64 0, .int .i64 0, .int .i64 0, .int .i64 0, .int .i64 0] 67)).cell? ⟨b, 0, none⟩ = some (.slice (some ⟨gl, 0, none⟩) N Lc) := by rw [HN.out]; exact (HKB.out.later b7).cell 0
                          have own7 := ownsRow_later b7 HOL.out
                          have hgl4 : gl < w4.heap.size := (HOL.out.lt gl rfl).2
                          have hcl : ∀ (j : Nat) u, (L.flatMap rwC)[j]? = some u → (w5.alloc (.cells #[.int .i64 0, .int .i64 0, .int .i64 0, .int .i64 0, .int .i64 0] 67)).cell? ⟨gl, j, none⟩ = some u := by
                            obtain ⟨A9, c9, e9, -, -, hx9⟩ := ownsRow_form own7
                            intro j u hu
                            obtain ⟨g9, eg, -, -, hc9⟩ := hx9 (Nat.pos_of_ne_zero fun h0 => by rw [List.eq_nil_of_length_eq_zero h0] at hu; simp at hu)
                            injection e9 with e91 _ _
                            rw [eg] at e91
                            injection e91 with e91
                            injection e91 with e92 _ _
                            subst e92
                            exact hc9 j u hu
                          have HCL := Lib.hid hcl
                          have HB7 := Lib.hid b7
                          have hb7s := b7.size
                          have hJL : J ≤ L.length := by rw [← HN.out]; omega
                          have HJL := Lib.hid hJL
                          clear hcl b7 b6 a6 K6 b5 own7 hJL
                          go_wp2_with (at_builtin; first
                            | (refine wpList_append_any rfl (.tmp 119) (.tmp 125) 48 rfl w4.heap.size 67 i0 _ 5 40 Tryz.underlying48 hi0 hz0 hz1 hz2 rfl (by decide) (.slice none 0 0) 0 [] rfl (World.ownsRow_nil _ _ _ _) (some ⟨gl, 0, none⟩) J Lc ((L.take J).flatMap rwC) rfl (fun e => by cases e) (by rw [flat_rws_len, List.length_take, Nat.min_eq_left HJL.out]) (fun ad e => by injection e with e; subst e; exact cells_take HCL.out J) (rwC_one _) (by unfold maxLen; omega) (by omega) hb7s ?_; intro v8 w8 own8 gr8)
                            | (refine wpList_append_any rfl (.tmp 126) (.tmp 127) 48 rfl w4.heap.size 67 i0 _ 5 40 Tryz.underlying48 hi0 hz0 hz1 hz2 rfl (by decide) v8 _ _ rfl own8 none 0 0 [] rfl (fun _ => ⟨rfl, rfl⟩) rfl (fun ad e => by cases e) (by simp) (by unfold maxLen; omega) (by omega) (by have := gr8.size; omega) ?_; intro v9 w9 own9 gr9)
                            | (refine wpList_append_any rfl (.tmp 128) (.tmp 129) 48 rfl w4.heap.size 67 i0 _ 5 40 Tryz.underlying48 hi0 hz0 hz1 hz2 rfl (by decide) v9 _ _ rfl own9 (some ⟨gl, J * 5 + 5, none⟩) (N - J - 1) (Lc - J - 1) (((L.drop J).drop 1).flatMap rwC) rfl (fun e => by cases e) (by rw [flat_rws_len, List.length_drop, List.length_drop, ← HN.out]) (fun ad e => by injection e with e; subst e; rw [List.drop_drop, show J * 5 + 5 = (J + 1) * 5 by omega]; exact cells_drop (cells_grown gr9 (fun e => by have := own_ge own8 e.symm; omega) (cells_grown gr8 (by simp [Value.ownBlock]) HCL.out)) (J + 1)) (rwC_one _) (by unfold maxLen; omega) (by omega) (by have := gr9.size; have := gr8.size; omega) ?_; intro v10 w10 own10 gr10; obtain ⟨N10, hN10⟩ : ∃ n : Nat, n = 0 + J + 0 + (N - J - 1) := ⟨_, rfl⟩; rw [← hN10] at own10; have HN10 := Lib.hid hN10; clear hN10; obtain ⟨A10, c10, rfl, -⟩ := ownsRow_form own10; have Kb10 : BlkIs w10 b 71 [.slice (some ⟨gl, 0, none⟩) L.length Lc, .int .i64 s.pos] := (gr10.block b (by have := gr9.size; have := gr8.size; have := HKB.out.lt; omega) (fun e => by have := own_ge own9 e.symm; have := HKB.out.lt; omega)).trans ((gr9.block b (by have := gr8.size; have := HKB.out.lt; omega) (fun e => by have := own_ge own8 e.symm; have := HKB.out.lt; omega)).trans ((gr8.block b (by have := HKB.out.lt; omega) (by simp [Value.ownBlock])).trans (HKB.out.later HB7.out))); have f0 : w10.cell? ⟨b, 0, none⟩ = some (.slice (some ⟨gl, 0, none⟩) L.length Lc) := Kb10.cell 0; have ff0 := Kb10.frozen 0; have HKB10 := Lib.hid Kb10; clear Kb10)
                            | fail)
                          have hlist : (appC L ⟨xt, xk, true, (o0, o1, o2), false, (n0, n1, n2)⟩).flatMap rwC = [] ++ (L.take J).flatMap rwC ++ [] ++ ((L.drop J).drop 1).flatMap rwC := by
                            rw [HAP.out.1, List.flatMap_append, List.flatMap_append]
                            simp [midC, skipC]
                          have hlen : (appC L ⟨xt, xk, true, (o0, o1, o2), false, (n0, n1, n2)⟩).length = N10 := by
                            rw [HN10.out, HAP.out.1, List.length_append, List.length_append, List.length_take, List.length_drop, List.length_drop, ← HN.out]
                            simp [midC, skipC]
                            all_goals omega
                          have hbel : Below w4.heap.size w4 w10 := ((HB7.out.grown gr8 HB7.out.size (by simp [Value.ownBlock])).grown gr9 (by have := gr8.size; omega) (fun k e => own_ge own8 e)).grown gr10 (by have := gr9.size; have := gr8.size; omega) (fun k e => own_ge own9 e)
                          have hbw : Below wr.heap.size wr w10 := HA4.out.trans (hbel.mono HA4.out.size)
                          have hon := (HR.out.2.trans (Only.of_below (S := fun j => j = b) hbw)).trans (Only.setCell (S := fun j => j = b) w10 ⟨b, 0, none⟩ (.slice A10 N10 c10) rfl)
                          have hx' := (List.getElem?_eq_some_iff.1 HX.out).1
                          refine ⟨⟨k2 + 1, by omega, by go_num, Lib.hid ⟨⟨_, HKB10.out.set 0 _, ?_⟩, hon⟩⟩, by simp [intOf]; omega⟩
                          dsimp only
                          rw [HFO.out, hlen, hlist]
                          exact ownsRow_set (ownsRow_mono own10 (by have := HKB.out.lt; omega)) _ _ (fun j e => by have := own_ge own10 e; have := HKB.out.lt; show j ≠ b; omega)
              case neg =>
                have t1 : decide (k2 < l.length) = false := by simpa using h2
                have hkl : l.take k2 = l := List.take_of_length_le (by omega)
                rw [hkl] at HR
                obtain ⟨v, Kb, own⟩ := HR.out.1.own
                have hnb : w.heap.size ≠ b := fun e => by have := HBL.out; omega
                have KZ := HKZ.out.only HR.out.2 hnb
                have m0 : wr.cell? ⟨w.heap.size, 0, none⟩ = some (.int .i64 p) := KZ.cell 0
                have m1 : wr.cell? ⟨w.heap.size, 1, none⟩ = some (.slice A l.length c) := KZ.cell 1
                have y1 : wr.cell? ⟨b, 1, none⟩ = some (.int .i64 s.pos) := Kb.cell 1
                have fy := Kb.frozen 1
                have hon := (((Only.of_below (S := fun j => j = b) (Below.next HA.out HBZ.out)).trans HR.out.2)).trans (Only.setCell (S := fun j => j = b) wr ⟨b, 1, none⟩ (.int .i64 p) rfl)
                have hrs : RSt (wr.setCell ⟨b, 1, none⟩ (.int .i64 p)) b ⟨l.foldl appC s.rows, p⟩ := ⟨v, Kb.set 1 (.int .i64 p), ownsRow_set own _ _ (fun j e => by have := own_ge own e; show j ≠ b; omega)⟩
                have HF := Lib.hid (And.intro hon hrs)
                clear hkl Kb own hnb KZ hon hrs h2
                go_wp2_with fail
                go_ret
                exact .inr ⟨HFT.out, rfl, HF.out.2, HF.out.1⟩
end Go.Proofs.YtgbemgndbemllaaGreatDoor
