/- The reference's Follows (written by wip/mk_r9d.py). -/
import Derived.Test.YtheebajklnljdaaGreatDoorGt
import Derived.Test.YtheebajklnljdaaGreatDoorGv
import Derived.Test.YtheebajklnljdaaGreatDoorGo
namespace Go.Proofs.YtheebajklnljdaaGreatDoor
open Go Go.RowKit
attribute [local go_sem] Oper.semAt_some

set_option maxRecDepth 100000 in
set_option maxHeartbeats 2000000 in
theorem r9follows_ok (a b : Hd) (A : Option Addr) (c : Nat) (l : List Rec) (w : World) (hv : RecsAt w (.slice A l.length c) l) (hl : l.length ≤ 1000000) :
    Calls Tryz.prog 35 #[hdV a, .slice A l.length c, hdV b] w fun e w' => e = .returned (.bool (followsA a l b)) ∧ Below w.heap.size w w' := by
  obtain ⟨w0, hw0⟩ : ∃ W, W = (w.alloc (.cells #[.int .i64 a.pos, .string (str a.chain), .string (str a.state)] 46)).alloc (.cells #[.int .i64 b.pos, .string (str b.chain), .string (str b.state)] 46) := ⟨_, rfl⟩
  have hb0 : Below w.heap.size w w0 := by
    rw [hw0]; exact Below.alloc (Below.alloc (Below.refl w.heap.size w) (Nat.le_refl _) _) (by rw [World.size_alloc]; omega) _
  have ka : BlkIs w0 w.heap.size 46 (hdCells a) := by rw [hw0]; exact (BlkIs.new w _ _).alloc _
  have kb : BlkIs w0 (w.heap.size + 1) 46 (hdCells b) := by rw [hw0]; exact alloc_new_at _ _ _ (by rw [World.size_alloc])
  have hva := fun W => r9valid_ok a W
  have hvb := fun W => r9valid_ok b W
  obtain ⟨F, hF⟩ : ∃ F, F = followsA a l b := ⟨_, rfl⟩
  obtain ⟨V1, hV1⟩ : ∃ V, hdB a = V := ⟨_, rfl⟩
  obtain ⟨V2, hV2⟩ : ∃ V, hdB b = V := ⟨_, rfl⟩
  rw [← hF]
  unfold followsA at hF
  rw [hV1, hV2] at hF
  rw [hV1] at hva
  rw [hV2] at hvb
  have x0 : w0.cell? ⟨w.heap.size, 0, none⟩ = some (.int .i64 a.pos) := ka.cell 0
  have x1 : w0.cell? ⟨w.heap.size, 1, none⟩ = some (.string (str a.chain)) := ka.cell 1
  have x2 : w0.cell? ⟨w.heap.size, 2, none⟩ = some (.string (str a.state)) := ka.cell 2
  rw [hw0] at x0 x1 x2
  have HVA := Lib.hid hva
  have HVB := Lib.hid hvb
  have HF := Lib.hid hF
  have HV := Lib.hid hv
  have HW0 := Lib.hid hw0
  have HB0 := Lib.hid hb0
  have HKA := Lib.hid ka
  have HKB := Lib.hid kb
  have hgd := guardHd
  clear hva hvb hF hv hw0 hb0 ka kb hV1 hV2
  unfold hdV at HVA HVB ⊢
  cases V1
  case false =>
    have hFf : F = false := by have := HF.out; simpa using this
    subst hFf
    clear HF
    go_enter Tryz.func35, Tryz.ntmps35
    go_wp2_with fail
    rw [← HW0.out]
    refine (HVA.out _).mono ?_
    rintro e w1 ⟨rfl, b1⟩
    have hb := Below.next HB0.out b1
    clear x0 x1 x2
    go_wp2_with fail
    go_ret
    exact ⟨rfl, hb⟩
  go_enter Tryz.func35, Tryz.ntmps35
  go_wp2_with fail
  rw [← HW0.out]
  refine (HVA.out _).mono ?_
  rintro e w1 ⟨rfl, b1⟩
  have kb1 := HKB.out.later b1
  have c0 : w1.cell? ⟨w.heap.size + 1, 0, none⟩ = some (.int .i64 b.pos) := kb1.cell 0
  have c1 : w1.cell? ⟨w.heap.size + 1, 1, none⟩ = some (.string (str b.chain)) := kb1.cell 1
  have c2 : w1.cell? ⟨w.heap.size + 1, 2, none⟩ = some (.string (str b.state)) := kb1.cell 2
  clear x0 x1 x2
  go_wp2_with fail
  refine (HVB.out _).mono ?_
  rintro e wl ⟨rfl, b2⟩
  have hbc := Below.next b1 b2
  clear b1 b2 kb1 c0 c1 c2 HVA HVB
  cases V2
  case false =>
    have hFf : F = false := by have := HF.out; simpa using this
    subst hFf
    clear HF
    have hb := Below.next HB0.out hbc
    go_wp2_with fail
    go_ret
    exact ⟨rfl, hb⟩
  have hF2 : F = decide (walkA a l b.state = some b) := by have := HF.out; simpa using this
  clear HF
  have HF := Lib.hid hF2
  clear hF2
  have ka1 := HKA.out.later hbc
  have kb1 := HKB.out.later hbc
  have hbw := Below.next HB0.out hbc
  by_cases hl0 : l.length = 0
  case pos =>
    have hnil : l = [] := List.eq_nil_of_length_eq_zero hl0
    obtain ⟨X, hX⟩ : ∃ X, X = decide (a = b) := ⟨_, rfl⟩
    have hFf : F = X := by
      rw [HF.out, hnil, hX]
      by_cases e : a = b <;> simp [walkA, e]
    have hq := fun W => run_eqHd W a b
    rw [← hX] at hq
    have t0 : ((l.length : Int) == 0) = true := by rw [hl0]; rfl
    have c0 : wl.cell? ⟨w.heap.size + 1, 0, none⟩ = some (.int .i64 b.pos) := kb1.cell 0
    have c1 : wl.cell? ⟨w.heap.size + 1, 1, none⟩ = some (.string (str b.chain)) := kb1.cell 1
    have c2 : wl.cell? ⟨w.heap.size + 1, 2, none⟩ = some (.string (str b.state)) := kb1.cell 2
    have a0 : wl.cell? ⟨w.heap.size, 0, none⟩ = some (.int .i64 a.pos) := ka1.cell 0
    have a1 : wl.cell? ⟨w.heap.size, 1, none⟩ = some (.string (str a.chain)) := ka1.cell 1
    have a2 : wl.cell? ⟨w.heap.size, 2, none⟩ = some (.string (str a.state)) := ka1.cell 2
    subst hFf
    clear hX HF HV hnil hl0 ka1 kb1
    go_wp2_with fail
    go_ret
    exact ⟨rfl, hbw⟩
  have t0 : ((l.length : Int) == 0) = false := by simp only [beq_eq_false_iff_ne, ne_eq]; omega
  clear hl0
  go_wp2_with fail
  go_loopw [7] (fun iv wr => ∃ (k : Nat) (cur : Hd), k ≤ l.length ∧ iv = .int .i64 k ∧ BlkIs wr w.heap.size 46 (hdCells cur) ∧ BlkIs wr (w.heap.size + 1) 46 (hdCells b) ∧ Hid (walkA a l b.state = walkA cur (l.drop k) b.state) ∧ Below w.heap.size w wr) (fun iv _ => l.length - (intOf iv).toNat)
  case atStart => exact ⟨0, a, by omega, rfl, ka1, kb1, Lib.hid (by rw [List.drop_zero]), hbw⟩
  case round =>
    clear hbc ka1 kb1 hbw t0
    obtain ⟨k, cur, hk, rfl, hA, hB, HWK, hb⟩ := hrel
    by_cases h1 : k < l.length
    case neg =>
      have t1 : decide (k < l.length) = false := by simpa using h1
      have hwe := HWK.out.trans (walkA_end cur l k b.state (by omega))
      obtain ⟨X, hX⟩ : ∃ X, X = decide (cur = b) := ⟨_, rfl⟩
      have hFf : F = X := by
        rw [HF.out, hwe, hX]
        by_cases e : cur = b <;> simp [e]
      have hq := fun W => run_eqHd W cur b
      rw [← hX] at hq
      have a0 : wr.cell? ⟨w.heap.size, 0, none⟩ = some (.int .i64 cur.pos) := hA.cell 0
      have a1 : wr.cell? ⟨w.heap.size, 1, none⟩ = some (.string (str cur.chain)) := hA.cell 1
      have a2 : wr.cell? ⟨w.heap.size, 2, none⟩ = some (.string (str cur.state)) := hA.cell 2
      have b0 : wr.cell? ⟨w.heap.size + 1, 0, none⟩ = some (.int .i64 b.pos) := hB.cell 0
      have b1 : wr.cell? ⟨w.heap.size + 1, 1, none⟩ = some (.string (str b.chain)) := hB.cell 1
      have b2 : wr.cell? ⟨w.heap.size + 1, 2, none⟩ = some (.string (str b.state)) := hB.cell 2
      subst hFf
      clear hwe hX HF HWK hA hB
      go_wp2_with fail
      go_ret
      exact ⟨rfl, hb⟩
    have t1 : decide (k < l.length) = true := by simpa using h1
    obtain ⟨r, hr⟩ : ∃ r, l[k]? = some r := ⟨_, List.getElem?_eq_getElem h1⟩
    obtain ⟨g, o, Av, cc, rfl, hg, hc, r0, r1, hch⟩ := HV.out.at_ hr
    have s0 : ∀ W, Below w.heap.size w W → W.cell? ⟨g, o + k * 2, none⟩ = some (.int .i64 r.pos) := fun W hW => (hW.cell (p := ⟨g, o + k * 2, none⟩) hg).trans r0
    have s1 : ∀ W, Below w.heap.size w W → W.cell? ⟨g, o + k * 2 + 1, none⟩ = some (.slice Av r.chs.length cc) := fun W hW => (hW.cell (p := ⟨g, o + k * 2 + 1, none⟩) hg).trans r1
    have hnx := fun W (hW : Below w.heap.size w W) => r9next_ok cur r.pos Av cc r.chs b.state W (hch.below hW)
    have q0 : (0 : Int) ≤ (k : Int) := by omega
    have q1 : (k : Int) < (l.length : Int) := by omega
    obtain ⟨y, hy⟩ : ∃ y, y = (nextA cur r b.state).1 := ⟨_, rfl⟩
    obtain ⟨E, hE⟩ : ∃ y, y = (nextA cur r b.state).2 := ⟨_, rfl⟩
    have hgo : E = 0 → walkA a l b.state = walkA y (l.drop (k + 1)) b.state := fun h => HWK.out.trans (by rw [hy]; exact walkA_go hr (by rw [← hE]; exact h))
    have hno : E ≠ 0 → F = false := fun h => by
      rw [HF.out, HWK.out.trans (walkA_no hr (by rw [← hE]; exact h))]
      simp
    rw [show (⟨r.pos, r.chs⟩ : Rec) = r from rfl, ← hy, ← hE] at hnx
    have HNX := Lib.hid hnx
    have HGO := Lib.hid hgo
    have HNO := Lib.hid hno
    have S0 := Lib.hid s0
    have S1 := Lib.hid s1
    unfold hdV recV at HNX
    have bd := Below.drew hb
    have hA1 := hA.later (Below.drew (Below.refl _ wr))
    have hB1 := hB.later (Below.drew (Below.refl _ wr))
    clear hnx hgo hno hy hE hr r0 r1 hch s0 s1 HWK hA hB
    have RD : ∀ W, BlkIs W w.heap.size 46 (hdCells cur) → BlkIs W (w.heap.size + 1) 46 (hdCells b) → Below w.heap.size w W → W.cell? ⟨w.heap.size, 0, none⟩ = some (.int .i64 cur.pos) ∧ W.cell? ⟨w.heap.size, 1, none⟩ = some (.string (str cur.chain)) ∧ W.cell? ⟨w.heap.size, 2, none⟩ = some (.string (str cur.state)) ∧ W.cell? ⟨g, o + k * 2, none⟩ = some (.int .i64 r.pos) ∧ W.cell? ⟨g, o + k * 2 + 1, none⟩ = some (.slice Av r.chs.length cc) ∧ W.cell? ⟨w.heap.size + 1, 2, none⟩ = some (.string (str b.state)) := by
      intro W h1 h2 h3
      exact ⟨h1.cell 0, h1.cell 1, h1.cell 2, S0.out W h3, S1.out W h3, h2.cell 2⟩
    have HRD := Lib.hid RD
    clear RD
    go_wp2_with fail
    have hle9 : w.heap.size + 2 ≤ wr.heap.size := hB1.lt
    refine wp_region_noPanic ?_
    refine wp_region_ordG (fun W => W.cell? ⟨w.heap.size, 0, none⟩ = some (.int .i64 cur.pos) ∧ W.cell? ⟨w.heap.size, 1, none⟩ = some (.string (str cur.chain)) ∧ W.cell? ⟨w.heap.size, 2, none⟩ = some (.string (str cur.state)) ∧ W.cell? ⟨g, o + k * 2, none⟩ = some (.int .i64 r.pos) ∧ W.cell? ⟨g, o + k * 2 + 1, none⟩ = some (.slice Av r.chs.length cc) ∧ W.cell? ⟨w.heap.size + 1, 2, none⟩ = some (.string (str b.state))) [(0, false), (1, false), (2, false), (3, false), (4, false), (5, false), (6, false)] 127 7 (by kernel_rfl) (by as_aux_lemma => kernel_rfl) (by rfl) (by as_aux_lemma => kernel_rfl) (fun _ _ _ _ _ h => h) (HRD.out _ hA1 hB1 bd) (fun hHeld => ?_)
    repeat (
      apply SeqF.take0
      case ho => exact rfl
      case hg => exact rfl
      case hy => (intro w hSw; (try dsimp only at hSw); go_simp; try with_reducible rfl)
      try simp only [Act.put, List.setIfInBounds_toArray, List.set_cons_zero, List.set_cons_succ])
    refine SeqF.done ?_
    refine two_ready (i := 7) (j := 11) (oi := ?oi1) (oj := ?oj1) ?hr1 ?hi1 ?hgi1 ?hj1 ?hgj1 (fun K hK => ?one1) (fun K hK => ?two1)
    case hi1 => exact rfl
    case hj1 => exact rfl
    case hr1 => kernel_rfl
    case hgi1 => exact rfl
    case hgj1 => exact rfl
    case one1 =>
      go_simp
      go_at_call 29
      with_reducible refine (HNX.out _ bd).mono ?_
      rintro e w4 ⟨rfl, b4⟩
      replace hA1 := hA1.later b4
      replace hB1 := hB1.later b4
      replace bd := Below.next bd b4
      go_wp2_with fail
      refine hK.out _ _ (HRD.out _ hA1 hB1 bd) (fun _ => ?_)
      clear hK K b4
      try simp only [Act.put, List.setIfInBounds_toArray, List.set_cons_zero, List.set_cons_succ]
      refine seqG_end [(8, false), (9, false), (10, false), (11, true), (12, true), (13, true)] _ 16383 _ (by rfl) (by as_aux_lemma => kernel_rfl) (by as_aux_lemma => kernel_rfl) (by as_aux_lemma => kernel_rfl) (fun _ _ _ _ _ h => h) (HRD.out _ hA1 hB1 bd) ?_
      repeat (
        apply SeqF.take0
        case ho => exact rfl
        case hg => exact rfl
        case hy => (intro w hSw; (try dsimp only at hSw); go_simp; try with_reducible rfl)
        try simp only [Act.put, List.setIfInBounds_toArray, List.set_cons_zero, List.set_cons_succ])
      apply SeqF.step0
      case ho => exact rfl
      case hg => exact rfl
      intro K hK
      go_simp
      have bn := Below.alloc1 w4 (.cells #[.int .i64 0, .string ⟨#[]⟩, .string ⟨#[]⟩] 46)
      have KN := BlkIs.new w4 46 #[.int .i64 0, .string ⟨#[]⟩, .string ⟨#[]⟩]
      have hN : w.heap.size + 2 ≤ w4.heap.size := by have := hB1.lt; (try simp at this); omega
      generalize w4.alloc (.cells #[.int .i64 0, .string ⟨#[]⟩, .string ⟨#[]⟩] 46) = w5 at *
      replace hA1 := hA1.later bn
      replace hB1 := hB1.later bn
      replace bd := Below.next bd bn
      refine hK.out _ _ (HRD.out _ hA1 hB1 bd) (fun _ => ?_)
      clear hK K bn
      try simp only [Act.put, List.setIfInBounds_toArray, List.set_cons_zero, List.set_cons_succ]
      apply SeqF.step0
      case ho => exact rfl
      case hg => exact rfl
      intro K hK
      have z0 : w5.cell? ⟨w4.heap.size, 0, none⟩ = some (.int .i64 0) := KN.cell 0
      have z1 : w5.cell? ⟨w4.heap.size, 1, none⟩ = some (.string ⟨#[]⟩) := KN.cell 1
      have z2 : w5.cell? ⟨w4.heap.size, 2, none⟩ = some (.string ⟨#[]⟩) := KN.cell 2
      have f0 := KN.frozen 0
      have f1 := KN.frozen 1
      have f2 := KN.frozen 2
      replace hA1 := ((hA1.other (p := ⟨w4.heap.size, 0, none⟩) (by simp; omega) (.int .i64 y.pos)).other (p := ⟨w4.heap.size, 1, none⟩) (by simp; omega) (.string (str y.chain))).other (p := ⟨w4.heap.size, 2, none⟩) (by simp; omega) (.string (str y.state))
      replace hB1 := ((hB1.other (p := ⟨w4.heap.size, 0, none⟩) (by simp; omega) (.int .i64 y.pos)).other (p := ⟨w4.heap.size, 1, none⟩) (by simp; omega) (.string (str y.chain))).other (p := ⟨w4.heap.size, 2, none⟩) (by simp; omega) (.string (str y.state))
      replace bd := ((bd.setCell (p := ⟨w4.heap.size, 0, none⟩) (by simp; omega) (.int .i64 y.pos)).setCell (p := ⟨w4.heap.size, 1, none⟩) (by simp; omega) (.string (str y.chain))).setCell (p := ⟨w4.heap.size, 2, none⟩) (by simp; omega) (.string (str y.state))
      have KS0 := ((KN.set 0 (.int .i64 y.pos)).set 1 (.string (str y.chain))).set 2 (.string (str y.state))
      go_simp
      refine hK.out _ _ (HRD.out _ hA1 hB1 bd) (fun _ => ?_)
      clear hK K z0 z1 z2 f0 f1 f2 KN
      try simp only [Act.put, List.setIfInBounds_toArray, List.set_cons_zero, List.set_cons_succ]
      repeat (
        apply SeqF.take0
        case ho => exact rfl
        case hg => exact rfl
        case hy => (intro w hSw; (try dsimp only at hSw); go_simp; try with_reducible rfl)
        try simp only [Act.put, List.setIfInBounds_toArray, List.set_cons_zero, List.set_cons_succ])
      refine SeqF.done ?_
      refine NoPanic.normal ?_
      generalize ((w5.setCell ⟨w4.heap.size, 0, none⟩ (.int .i64 y.pos)).setCell ⟨w4.heap.size, 1, none⟩ (.string (str y.chain))).setCell ⟨w4.heap.size, 2, none⟩ (.string (str y.state)) = w6 at *
      have KS : BlkIs w6 w4.heap.size 46 [.int .i64 y.pos, .string (str y.chain), .string (str y.state)] := KS0
      clear KS0
      by_cases h0 : E = 0
      case neg =>
        have hFf := HNO.out h0
        have t2 : (E != 0) = true := by simpa using h0
        subst hFf
        clear h0 hA1 hB1 KS
        go_wp2_with fail
        go_ret
        exact ⟨rfl, bd⟩
      have t2 : (E != 0) = false := by simpa using h0
      have HW2 := Lib.hid (HGO.out h0)
      have d0 : w6.cell? ⟨w4.heap.size, 0, none⟩ = some (.int .i64 y.pos) := KS.cell 0
      have d1 : w6.cell? ⟨w4.heap.size, 1, none⟩ = some (.string (str y.chain)) := KS.cell 1
      have d2 : w6.cell? ⟨w4.heap.size, 2, none⟩ = some (.string (str y.state)) := KS.cell 2
      have x0 : w6.cell? ⟨w.heap.size, 0, none⟩ = some (.int .i64 cur.pos) := hA1.cell 0
      have x1 : w6.cell? ⟨w.heap.size, 1, none⟩ = some (.string (str cur.chain)) := hA1.cell 1
      have x2 : w6.cell? ⟨w.heap.size, 2, none⟩ = some (.string (str cur.state)) := hA1.cell 2
      have f0 := hA1.frozen 0
      have f1 := hA1.frozen 1
      have f2 := hA1.frozen 2
      have hA6 := Lib.hid (((hA1.set 0 (.int .i64 y.pos)).set 1 (.string (str y.chain))).set 2 (.string (str y.state)))
      have hB6 := Lib.hid (((hB1.other (p := ⟨w.heap.size, 0, none⟩) (by simp) (.int .i64 y.pos)).other (p := ⟨w.heap.size, 1, none⟩) (by simp) (.string (str y.chain))).other (p := ⟨w.heap.size, 2, none⟩) (by simp) (.string (str y.state)))
      have hb6 := Lib.hid (below_set3 bd (Nat.le_refl w.heap.size) (x := .int .i64 y.pos) (y := .string (str y.chain)) (z := .string (str y.state)))
      clear h0 hA1 hB1 KS bd
      go_wp2_with fail
      exact ⟨⟨k + 1, y, by omega, by go_num, hA6.out, hB6.out, HW2, hb6.out⟩, by simp [intOf]; omega⟩
    case two1 =>
      go_simp
      have bn : Below wr.drew.heap.size wr.drew (wr.alloc (.cells #[.int .i64 0, .string ⟨#[]⟩, .string ⟨#[]⟩] 46)).drew := Below.alloc1 wr.drew (.cells #[.int .i64 0, .string ⟨#[]⟩, .string ⟨#[]⟩] 46)
      have KN : BlkIs (wr.alloc (.cells #[.int .i64 0, .string ⟨#[]⟩, .string ⟨#[]⟩] 46)).drew wr.heap.size 46 [.int .i64 0, .string ⟨#[]⟩, .string ⟨#[]⟩] := BlkIs.new wr.drew 46 #[.int .i64 0, .string ⟨#[]⟩, .string ⟨#[]⟩]
      have hN : w.heap.size + 2 ≤ wr.heap.size := by have := hB1.lt; (try simp at this); omega
      generalize (wr.alloc (.cells #[.int .i64 0, .string ⟨#[]⟩, .string ⟨#[]⟩] 46)).drew = w5 at *
      replace hA1 := hA1.later bn
      replace hB1 := hB1.later bn
      replace bd := Below.next bd bn
      refine hK.out _ _ (HRD.out _ hA1 hB1 bd) (fun _ => ?_)
      clear hK K bn
      try simp only [Act.put, List.setIfInBounds_toArray, List.set_cons_zero, List.set_cons_succ]
      refine seqG_end [(7, true), (8, true), (9, false), (10, false), (12, true), (13, true)] _ 16383 _ (by rfl) (by as_aux_lemma => kernel_rfl) (by as_aux_lemma => kernel_rfl) (by as_aux_lemma => kernel_rfl) (fun _ _ _ _ _ h => h) (HRD.out _ hA1 hB1 bd) ?_
      apply SeqF.step0
      case ho => exact rfl
      case hg => exact rfl
      intro K hK
      go_simp
      go_at_call 29
      with_reducible refine (HNX.out _ bd).mono ?_
      rintro e w4 ⟨rfl, b4⟩
      replace hA1 := hA1.later b4
      replace hB1 := hB1.later b4
      replace bd := Below.next bd b4
      replace KN := KN.later b4
      go_wp2_with fail
      refine hK.out _ _ (HRD.out _ hA1 hB1 bd) (fun _ => ?_)
      clear hK K b4
      try simp only [Act.put, List.setIfInBounds_toArray, List.set_cons_zero, List.set_cons_succ]
      repeat (
        apply SeqF.take0
        case ho => exact rfl
        case hg => exact rfl
        case hy => (intro w hSw; (try dsimp only at hSw); go_simp; try with_reducible rfl)
        try simp only [Act.put, List.setIfInBounds_toArray, List.set_cons_zero, List.set_cons_succ])
      apply SeqF.step0
      case ho => exact rfl
      case hg => exact rfl
      intro K hK
      have z0 : w4.cell? ⟨wr.heap.size, 0, none⟩ = some (.int .i64 0) := KN.cell 0
      have z1 : w4.cell? ⟨wr.heap.size, 1, none⟩ = some (.string ⟨#[]⟩) := KN.cell 1
      have z2 : w4.cell? ⟨wr.heap.size, 2, none⟩ = some (.string ⟨#[]⟩) := KN.cell 2
      have f0 := KN.frozen 0
      have f1 := KN.frozen 1
      have f2 := KN.frozen 2
      replace hA1 := ((hA1.other (p := ⟨wr.heap.size, 0, none⟩) (by simp; omega) (.int .i64 y.pos)).other (p := ⟨wr.heap.size, 1, none⟩) (by simp; omega) (.string (str y.chain))).other (p := ⟨wr.heap.size, 2, none⟩) (by simp; omega) (.string (str y.state))
      replace hB1 := ((hB1.other (p := ⟨wr.heap.size, 0, none⟩) (by simp; omega) (.int .i64 y.pos)).other (p := ⟨wr.heap.size, 1, none⟩) (by simp; omega) (.string (str y.chain))).other (p := ⟨wr.heap.size, 2, none⟩) (by simp; omega) (.string (str y.state))
      replace bd := ((bd.setCell (p := ⟨wr.heap.size, 0, none⟩) (by simp; omega) (.int .i64 y.pos)).setCell (p := ⟨wr.heap.size, 1, none⟩) (by simp; omega) (.string (str y.chain))).setCell (p := ⟨wr.heap.size, 2, none⟩) (by simp; omega) (.string (str y.state))
      have KS0 := ((KN.set 0 (.int .i64 y.pos)).set 1 (.string (str y.chain))).set 2 (.string (str y.state))
      go_simp
      refine hK.out _ _ (HRD.out _ hA1 hB1 bd) (fun _ => ?_)
      clear hK K z0 z1 z2 f0 f1 f2 KN
      try simp only [Act.put, List.setIfInBounds_toArray, List.set_cons_zero, List.set_cons_succ]
      repeat (
        apply SeqF.take0
        case ho => exact rfl
        case hg => exact rfl
        case hy => (intro w hSw; (try dsimp only at hSw); go_simp; try with_reducible rfl)
        try simp only [Act.put, List.setIfInBounds_toArray, List.set_cons_zero, List.set_cons_succ])
      refine SeqF.done ?_
      refine NoPanic.normal ?_
      generalize ((w4.setCell ⟨wr.heap.size, 0, none⟩ (.int .i64 y.pos)).setCell ⟨wr.heap.size, 1, none⟩ (.string (str y.chain))).setCell ⟨wr.heap.size, 2, none⟩ (.string (str y.state)) = w6 at *
      have KS : BlkIs w6 wr.heap.size 46 [.int .i64 y.pos, .string (str y.chain), .string (str y.state)] := KS0
      clear KS0
      by_cases h0 : E = 0
      case neg =>
        have hFf := HNO.out h0
        have t2 : (E != 0) = true := by simpa using h0
        subst hFf
        clear h0 hA1 hB1 KS
        go_wp2_with fail
        go_ret
        exact ⟨rfl, bd⟩
      have t2 : (E != 0) = false := by simpa using h0
      have HW2 := Lib.hid (HGO.out h0)
      have d0 : w6.cell? ⟨wr.heap.size, 0, none⟩ = some (.int .i64 y.pos) := KS.cell 0
      have d1 : w6.cell? ⟨wr.heap.size, 1, none⟩ = some (.string (str y.chain)) := KS.cell 1
      have d2 : w6.cell? ⟨wr.heap.size, 2, none⟩ = some (.string (str y.state)) := KS.cell 2
      have x0 : w6.cell? ⟨w.heap.size, 0, none⟩ = some (.int .i64 cur.pos) := hA1.cell 0
      have x1 : w6.cell? ⟨w.heap.size, 1, none⟩ = some (.string (str cur.chain)) := hA1.cell 1
      have x2 : w6.cell? ⟨w.heap.size, 2, none⟩ = some (.string (str cur.state)) := hA1.cell 2
      have f0 := hA1.frozen 0
      have f1 := hA1.frozen 1
      have f2 := hA1.frozen 2
      have hA6 := Lib.hid (((hA1.set 0 (.int .i64 y.pos)).set 1 (.string (str y.chain))).set 2 (.string (str y.state)))
      have hB6 := Lib.hid (((hB1.other (p := ⟨w.heap.size, 0, none⟩) (by simp) (.int .i64 y.pos)).other (p := ⟨w.heap.size, 1, none⟩) (by simp) (.string (str y.chain))).other (p := ⟨w.heap.size, 2, none⟩) (by simp) (.string (str y.state)))
      have hb6 := Lib.hid (below_set3 bd (Nat.le_refl w.heap.size) (x := .int .i64 y.pos) (y := .string (str y.chain)) (z := .string (str y.state)))
      clear h0 hA1 hB1 KS bd
      go_wp2_with fail
      exact ⟨⟨k + 1, y, by omega, by go_num, hA6.out, hB6.out, HW2, hb6.out⟩, by simp [intOf]; omega⟩
end Go.Proofs.YtheebajklnljdaaGreatDoor
