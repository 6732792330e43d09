/- The walk of DigestChainBinding. -/
import Derived.Test.YtednkommpmdikaaDoorDgI
import Derived.Deep.DrawnRows

namespace Go.Proofs.YtednkommpmdikaaDoor
open Go Go.RowKit
attribute [local go_sem] Oper.semAt_some
attribute [local go_sem ↓] Go.wp_at_zero Go.wp_at_succ

theorem Below.allocd {w W : World} (h : Below w.heap.size w W) {o : Obj} : Below w.heap.size w (W.alloc o) := h.alloc h.size o

theorem cell_allocd {W : World} {a : Addr} {v : Value} {o : Obj} (h : W.cell? a = some v) : (W.alloc o).cell? a = some v := (World.cell?_alloc_some W a o (by rw [h]; rfl)).trans h
theorem cell_drew {W : World} {a : Addr} {v : Value} (h : W.cell? a = some v) : W.drew.cell? a = some v := h

theorem conv_later {w0 W w' : World} (k : Below W.heap.size W w') (hW : W.heap = (w0.alloc (.cells zeroCells 5)).heap) : (convert 45 9 (.slice (some ⟨w0.heap.size, 0, none⟩) 32 32)).run Tryd.prog w' = .ok (.string (str zero32)) w' := by
  refine run_conv32 (BlkIs.later (w := W) ?_ k)
  unfold BlkIs
  rw [hW]
  exact BlkIs.new w0 5 zeroCells

/-- the two ways in which the law holds -/
theorem chain_law {a b : List (List UInt8)} (hab : a ≠ b) (hh : (headsL zero32 a.reverse).2 = (headsL zero32 b.reverse).2) :
    (a.length = b.length → collB (headsL zero32 a.reverse).1 (headsL zero32 b.reverse).1 = true) ∧
    (b.length < a.length → ∃ z, (headsL zero32 a.reverse).1[b.length]? = some z ∧ (collB (headsL zero32 a.reverse).1 (headsL zero32 b.reverse).1 || (shaL z == zero32)) = true) ∧
    (a.length < b.length → ∃ z, (headsL zero32 b.reverse).1[a.length]? = some z ∧ (collB (headsL zero32 a.reverse).1 (headsL zero32 b.reverse).1 || (shaL z == zero32)) = true) := by
  have hn : a.reverse ≠ b.reverse := fun e => hab (List.reverse_inj.1 e)
  have la := headsL_count zero32 a.reverse
  have lb := headsL_count zero32 b.reverse
  rw [List.length_reverse] at la lb
  have h := head_binding zero32 rfl a.reverse b.reverse hh
  rw [List.length_reverse, List.length_reverse] at h
  refine ⟨fun hl => ?_, fun hl => ?_, fun hl => ?_⟩
  · rcases h with h | h | ⟨h1, _⟩ | ⟨h1, _⟩
    · exact absurd h hn
    · exact collB_of h
    · omega
    · omega
  · rcases h with h | h | ⟨h1, z, h2, h3⟩ | ⟨h1, _⟩
    · exact absurd h hn
    · exact ⟨_, List.getElem?_eq_getElem (by omega), by rw [collB_of h]; rfl⟩
    · exact ⟨z, h2, by rw [h3]; simp⟩
    · omega
  · rcases h with h | h | ⟨h1, _⟩ | ⟨h1, z, h2, h3⟩
    · exact absurd h hn
    · exact ⟨_, List.getElem?_eq_getElem (by omega), by rw [collB_of h]; rfl⟩
    · omega
    · exact ⟨z, h2, by rw [h3]; simp⟩

set_option maxRecDepth 100000 in
set_option maxHeartbeats 40000000 in
theorem chain_any (va vb : Value) (w : World) (hR : RoundOk w) (h0 : ∃ ss : List ByteArray, SliceAt w va (ss.map Value.string) ∧ ∀ s ∈ ss, s.size ≤ 9223372036854775807) (h1 : ∃ ss : List ByteArray, SliceAt w vb (ss.map Value.string) ∧ ∀ s ∈ ss, s.size ≤ 9223372036854775807) :
    Calls Tryd.prog 9 #[va, vb] w fun e w' => e = .returned (.bool true) ∧ Below w.heap.size w w' := by
  obtain ⟨ps, hvp, hps⟩ := h0
  obtain ⟨qs, hvq, hqs⟩ := h1
  obtain ⟨a, ha⟩ : ∃ l, l = fewL ps 20 := ⟨_, rfl⟩
  obtain ⟨b, hb⟩ : ∃ l, l = fewL qs 20 := ⟨_, rfl⟩
  have han : a.length ≤ 20 := by rw [ha]; exact fewL_length _ _
  have hbn : b.length ≤ 20 := by rw [hb]; exact fewL_length _ _
  have has : ∀ x ∈ a, x.length ≤ 60 := by rw [ha]; exact fewL_short _ _
  have hbs : ∀ x ∈ b, x.length ≤ 60 := by rw [hb]; exact fewL_short _ _
  have hfp := fun W hW => few_ok va ps 20 20 rfl W hW hps (by decide)
  have hfq := fun W hW => few_ok vb qs 20 20 rfl W hW hqs (by decide)
  rw [← ha] at hfp
  rw [← hb] at hfq
  have HFP := Lib.hid hfp
  have HFQ := Lib.hid hfq
  have HVP := Lib.hid hvp
  have HVQ := Lib.hid hvq
  have HAS := Lib.hid has
  have HBS := Lib.hid hbs
  clear ha hb hfp hfq hvp hvq hps hqs has hbs
  go_enter Tryd.func9, Tryd.ntmps9
  go_wp2_with fail
  refine (sane_ok w hR).mono ?_
  rintro e w1 ⟨rfl, b1⟩
  go_wp2_with fail
  refine (HFP.out w1 (HVP.out.below b1)).mono ?_
  rintro e w2 ⟨v2, rfl, own2, b2⟩
  have hb2 := Below.next b1 b2
  have hL2 := listAt_own own2
  obtain ⟨A2, c2, rfl⟩ := hL2.len
  clear own2
  go_wp2_with fail
  refine (HFQ.out w2 (HVQ.out.below hb2)).mono ?_
  rintro e w3 ⟨v3, rfl, own3, b3⟩
  have hb3 := Below.next hb2 b3
  have hL3 := listAt_own own3
  obtain ⟨A3, c3, rfl⟩ := hL3.len
  have hL23 := hL2.below b3
  clear own3 hL2
  have hla := headsL_count zero32 a.reverse
  have hlb := headsL_count zero32 b.reverse
  rw [List.length_reverse] at hla hlb
  have hzA := headsL_len zero32 rfl a.reverse
  have hzB := headsL_len zero32 rfl b.reverse
  have hsA := headsL_short a.reverse (fun x hx => HAS.out x (List.mem_reverse.1 hx))
  have hsB := headsL_short b.reverse (fun x hx => HBS.out x (List.mem_reverse.1 hx))
  have hLAW := fun h1 h2 => @chain_law a b h1 h2
  have hheA := fun W hW hRW => heads_ok A2 c2 a W hW (by omega) HAS.out hRW
  have hheB := fun W hW hRW => heads_ok A3 c3 b W hW (by omega) HBS.out hRW
  obtain ⟨X, hX⟩ : ∃ X, X = headsL zero32 a.reverse := ⟨_, rfl⟩
  obtain ⟨Y, hY⟩ : ∃ Y, Y = headsL zero32 b.reverse := ⟨_, rfl⟩
  have hse : a = b → X.2 = Y.2 := fun e => by rw [hX, hY, e]
  rw [← hX] at hla hzA hsA hheA hLAW
  rw [← hY] at hlb hzB hsB hheB hLAW
  have HLA := Lib.hid hla
  have HLB := Lib.hid hlb
  have HZA := Lib.hid hzA
  have HSA := Lib.hid hsA
  have HSB := Lib.hid hsB
  have HHA := Lib.hid hheA
  have HHB := Lib.hid hheB
  have HLAW := Lib.hid hLAW
  have HSE := Lib.hid hse
  clear hX hY hse hla hlb hzA hzB hsA hsB hheA hheB hLAW
  go_wp2_with fail
  refine (HHA.out w3 hL23 (hR.later hb3)).mono ?_
  rintro e w4 ⟨v4, rfl, own4, b4⟩
  have hb4 := Below.next hb3 b4
  have hL24 := hL23.below b4
  have hL34 := hL3.below b4
  clear hL23 hL3
  go_wp2_with fail
  refine (HHB.out w4 hL34 (hR.later hb4)).mono ?_
  rintro e w5 ⟨v5, rfl, own5, b5⟩
  have hb5 := Below.next hb4 b5
  have hL25 := hL24.below b5
  have hL35 := hL34.below b5
  have lx := listAt_own (ownsRow_below b5 own4)
  have ly := listAt_own own5
  obtain ⟨A6, c6, rfl⟩ := lx.len
  obtain ⟨A7, c7, rfl⟩ := ly.len
  clear own4 own5 hL24 hL34
  go_wp2_with fail
  refine (same_ok A2 A3 c2 c3 a b w5 hL25 hL35 (by omega)).mono ?_
  rintro e w6 ⟨rfl, b6⟩
  have hb6 := Below.next hb5 b6
  have lx6 := lx.below b6
  have ly6 := ly.below b6
  clear lx ly hL25 hL35
  have z1 : ((X.2.length : Int) != 32) = false := by have := HZA.out; simp; omega
  have z2 : (X.2.length != 32) = false := by have := HZA.out; simp; omega
  have z3 : X.2.length = 32 := HZA.out
  have HZ3 := Lib.hid z3
  clear z3
  by_cases hab : a = b
  · have t1 : decide (a = b) = true := decide_eq_true hab
    have t2 : (X.2 == Y.2) = true := by rw [HSE.out hab]; simp
    rw [t1]
    clear hab t1
    go_wp2_with fail
    go_ret
    exact ⟨rfl, hb6⟩
  · have t1 : decide (a = b) = false := decide_eq_false hab
    rw [t1]
    clear t1
    by_cases hh : X.2 = Y.2
    · have t2 : (X.2 == Y.2) = true := by simpa using hh
      obtain ⟨k1, k2, k3⟩ := HLAW.out hab hh
      clear hab hh
      have hcol := collide_ok A6 A7 c6 c7 X.1 Y.1
      obtain ⟨n1, hn1⟩ : ∃ n, n = X.1.length := ⟨_, rfl⟩
      obtain ⟨n2, hn2⟩ : ∃ n, n = Y.1.length := ⟨_, rfl⟩
      have e1 : n1 = a.length := by rw [hn1]; exact HLA.out
      have e2 : n2 = b.length := by rw [hn2]; exact HLB.out
      rw [← e1, ← e2] at k1 k2 k3
      have n120 : n1 ≤ 20 := by omega
      have n220 : n2 ≤ 20 := by omega
      rw [← hn1, ← hn2] at hcol
      rw [← hn1] at lx6
      rw [← hn2] at ly6
      rw [← hn1, ← hn2]
      have HN1 := Lib.hid hn1
      have HN2 := Lib.hid hn2
      clear hn1 hn2 e1 e2
      rcases Nat.lt_trichotomy n1 n2 with hlt | heq | hgt
      · obtain ⟨z, hz, hor⟩ := k3 hlt
        clear k1 k2 k3
        have g1 : decide (n1 < n2) = true := by simp; omega
        have g2 : ((n1 : Int) != (n2 : Int)) = true := by simp; omega
        have g3 : (n1 != n2) = true := by simp; omega
        obtain ⟨g, o, z', rfl, hz', hg, cz⟩ := ly6.at_ (k := n1) (by rw [← HN2.out]; omega)
        obtain rfl : z' = z := Option.some.inj (hz'.symm.trans hz)
        have hzs := HSB.out z' (List.mem_of_getElem? hz)
        have hmin : ∀ W, (Builtin.min_ #[ 3, 3 ] 3 #[.int .i64 (n1 : Int), .int .i64 (n2 : Int)]).run Tryd.prog W = .ok (.int .i64 (n1 : Int)) W := by
          intro W
          simp [Builtin.min_, Builtin.min2]
          omega
        have hmk := run_make32
        have hcv := fun w : World => run_conv32 (BlkIs.new w 5 zeroCells)
        have hcvd := fun w : World => run_conv32 (BlkIs.drew (BlkIs.new w 5 zeroCells))
        have hcvg := fun (W : World) (g : Nat) => @run_conv32 W g
        have q0 : (0 : Int) ≤ (n1 : Int) := by omega
        have q1 : (n1 : Int) < (n2 : Int) := by omega
        have hcN : ∀ (W : World), W.cell? ⟨g, o + n1, none⟩ = some (.string (str z')) → Below w.heap.size w W → Below w6.heap.size w6 W →
            Calls Tryd.prog 26 #[.string (str z')] W fun e w' => e = .returned (.string (str (shaL z'))) ∧ w'.cell? ⟨g, o + n1, none⟩ = some (.string (str z')) ∧ Below w.heap.size w w' ∧ Below w6.heap.size w6 w' ∧ Below W.heap.size W w' := by
          intro W k1 k3 k4
          have h := sum_ok (str z') W (by rw [size_mk]; omega) (hR.later k3)
          rw [mk_toList] at h
          exact h.mono fun e w' ⟨he, hb⟩ => ⟨he, (hb.cell (block_of_cell k1)).trans k1, Below.next k3 hb, Below.next k4 hb, hb⟩
        have hbb := Below.refl w6.heap.size w6
        have HOR := Lib.hid hor
        have HCOL := Lib.hid hcol
        clear hz hz' hor hcol
        go_wp2_with fail
        have HC2 := Lib.hid (fun (W : World) (k1 : Below w.heap.size w W) (k2 : Below w6.heap.size w6 W) => HCOL.out W (lx6.below k2) (ly6.below k2) (by omega) HSA.out HSB.out (hR.later k1))
        clear HCOL
        refine wp_region_noPanic ?_
        refine wp_region_held_drew (S := fun W => W.cell? ⟨g, o + n1, none⟩ = some (.string (str z')) ∧ Below w.heap.size w W ∧ Below w6.heap.size w6 W) (by kernel_rfl) ?_ (fun hHeld => ?_)
        · refine ⟨?_, ?_, ?_⟩ <;> first | assumption | exact Below.drew (by assumption) | exact Below.allocd (by assumption) | exact Below.drew (Below.allocd (by assumption)) | exact cell_allocd (by assumption) | exact cell_drew (cell_allocd (by assumption)) | exact cell_drew (by assumption)
        refine wpAnyH_take (i := 0) (oi := ?oib1) (v := ?vb1) ?hib1 ?hsb1 ?hfb1 ?hrb1 ?hQb1 (Or.inl ⟨?hwb1, ?hyb1⟩) (by assumption) ?_
        case hib1 => simp only [List.getElem?_toArray, List.getElem?_cons_zero]; rfl
        case hsb1 => kernel_rfl
        case hfb1 => kernel_rfl
        case hrb1 => kernel_rfl
        case hQb1 => exact fun _ _ _ h => h
        case hwb1 => rfl
        case hyb1 => intro w hSw; (try dsimp only at hSw); go_simp; try with_reducible rfl
        try simp only [Act.put, List.setIfInBounds_toArray, List.set_cons_zero, List.set_cons_succ]
        refine wpAnyH_take (i := 1) (oi := ?oib2) (v := ?vb2) ?hib2 ?hsb2 ?hfb2 ?hrb2 ?hQb2 (Or.inl ⟨?hwb2, ?hyb2⟩) (by assumption) ?_
        case hib2 => simp only [List.getElem?_toArray, List.getElem?_cons_succ, List.getElem?_cons_zero]; rfl
        case hsb2 => kernel_rfl
        case hfb2 => kernel_rfl
        case hrb2 => kernel_rfl
        case hQb2 => exact fun _ _ _ h => h
        case hwb2 => rfl
        case hyb2 => intro w hSw; (try dsimp only at hSw); go_simp; try with_reducible rfl
        try simp only [Act.put, List.setIfInBounds_toArray, List.set_cons_zero, List.set_cons_succ]
        refine wpAnyH_take (i := 2) (oi := ?oib3) (v := ?vb3) ?hib3 ?hsb3 ?hfb3 ?hrb3 ?hQb3 (Or.inl ⟨?hwb3, ?hyb3⟩) (by assumption) ?_
        case hib3 => simp only [List.getElem?_toArray, List.getElem?_cons_succ, List.getElem?_cons_zero]; rfl
        case hsb3 => kernel_rfl
        case hfb3 => kernel_rfl
        case hrb3 => kernel_rfl
        case hQb3 => exact fun _ _ _ h => h
        case hwb3 => rfl
        case hyb3 => intro w hSw; (try dsimp only at hSw); go_simp; try with_reducible rfl
        try simp only [Act.put, List.setIfInBounds_toArray, List.set_cons_zero, List.set_cons_succ]
        refine wpAnyH_take (i := 3) (oi := ?oib4) (v := ?vb4) ?hib4 ?hsb4 ?hfb4 ?hrb4 ?hQb4 (Or.inl ⟨?hwb4, ?hyb4⟩) (by assumption) ?_
        case hib4 => simp only [List.getElem?_toArray, List.getElem?_cons_succ, List.getElem?_cons_zero]; rfl
        case hsb4 => kernel_rfl
        case hfb4 => kernel_rfl
        case hrb4 => kernel_rfl
        case hQb4 => exact fun _ _ _ h => h
        case hwb4 => rfl
        case hyb4 => intro w hSw; (try dsimp only at hSw); go_simp; try with_reducible rfl
        try simp only [Act.put, List.setIfInBounds_toArray, List.set_cons_zero, List.set_cons_succ]
        refine wpAnyH_take (i := 4) (oi := ?oib5) (v := ?vb5) ?hib5 ?hsb5 ?hfb5 ?hrb5 ?hQb5 (Or.inl ⟨?hwb5, ?hyb5⟩) (by assumption) ?_
        case hib5 => simp only [List.getElem?_toArray, List.getElem?_cons_succ, List.getElem?_cons_zero]; rfl
        case hsb5 => kernel_rfl
        case hfb5 => kernel_rfl
        case hrb5 => kernel_rfl
        case hQb5 => exact fun _ _ _ h => h
        case hwb5 => rfl
        case hyb5 => intro w hSw; (try dsimp only at hSw); go_simp; try with_reducible rfl
        try simp only [Act.put, List.setIfInBounds_toArray, List.set_cons_zero, List.set_cons_succ]
        refine wpAnyH_take (i := 5) (oi := ?oib6) (v := ?vb6) ?hib6 ?hsb6 ?hfb6 ?hrb6 ?hQb6 (Or.inl ⟨?hwb6, ?hyb6⟩) (by assumption) ?_
        case hib6 => simp only [List.getElem?_toArray, List.getElem?_cons_succ, List.getElem?_cons_zero]; rfl
        case hsb6 => kernel_rfl
        case hfb6 => kernel_rfl
        case hrb6 => kernel_rfl
        case hQb6 => exact fun _ _ _ h => h
        case hwb6 => rfl
        case hyb6 => intro w hSw; (try dsimp only at hSw); go_simp; try with_reducible rfl
        try simp only [Act.put, List.setIfInBounds_toArray, List.set_cons_zero, List.set_cons_succ]
        refine wpAnyH_take (i := 6) (oi := ?oib7) (v := ?vb7) ?hib7 ?hsb7 ?hfb7 ?hrb7 ?hQb7 (Or.inl ⟨?hwb7, ?hyb7⟩) (by assumption) ?_
        case hib7 => simp only [List.getElem?_toArray, List.getElem?_cons_succ, List.getElem?_cons_zero]; rfl
        case hsb7 => kernel_rfl
        case hfb7 => kernel_rfl
        case hrb7 => kernel_rfl
        case hQb7 => exact fun _ _ _ h => h
        case hwb7 => rfl
        case hyb7 => intro w hSw; (try dsimp only at hSw); go_simp; try with_reducible rfl
        try simp only [Act.put, List.setIfInBounds_toArray, List.set_cons_zero, List.set_cons_succ]
        refine wpAnyH_take (i := 7) (oi := ?oib8) (v := ?vb8) ?hib8 ?hsb8 ?hfb8 ?hrb8 ?hQb8 (Or.inl ⟨?hwb8, ?hyb8⟩) (by assumption) ?_
        case hib8 => simp only [List.getElem?_toArray, List.getElem?_cons_succ, List.getElem?_cons_zero]; rfl
        case hsb8 => kernel_rfl
        case hfb8 => kernel_rfl
        case hrb8 => kernel_rfl
        case hQb8 => exact fun _ _ _ h => h
        case hwb8 => rfl
        case hyb8 => intro w hSw; (try dsimp only at hSw); go_simp; try with_reducible rfl
        try simp only [Act.put, List.setIfInBounds_toArray, List.set_cons_zero, List.set_cons_succ]
        refine wpAnyH_take (i := 8) (oi := ?oib9) (v := ?vb9) ?hib9 ?hsb9 ?hfb9 ?hrb9 ?hQb9 (Or.inl ⟨?hwb9, ?hyb9⟩) (by assumption) ?_
        case hib9 => simp only [List.getElem?_toArray, List.getElem?_cons_succ, List.getElem?_cons_zero]; rfl
        case hsb9 => kernel_rfl
        case hfb9 => kernel_rfl
        case hrb9 => kernel_rfl
        case hQb9 => exact fun _ _ _ h => h
        case hwb9 => rfl
        case hyb9 => intro w hSw; (try dsimp only at hSw); go_simp; try with_reducible rfl
        try simp only [Act.put, List.setIfInBounds_toArray, List.set_cons_zero, List.set_cons_succ]
        refine wpAnyH_take (i := 9) (oi := ?oib10) (v := ?vb10) ?hib10 ?hsb10 ?hfb10 ?hrb10 ?hQb10 (Or.inl ⟨?hwb10, ?hyb10⟩) (by assumption) ?_
        case hib10 => simp only [List.getElem?_toArray, List.getElem?_cons_succ, List.getElem?_cons_zero]; rfl
        case hsb10 => kernel_rfl
        case hfb10 => kernel_rfl
        case hrb10 => kernel_rfl
        case hQb10 => exact fun _ _ _ h => h
        case hwb10 => rfl
        case hyb10 => intro w hSw; (try dsimp only at hSw); go_simp; try with_reducible rfl
        try simp only [Act.put, List.setIfInBounds_toArray, List.set_cons_zero, List.set_cons_succ]
        refine wpAnyH_take (i := 10) (oi := ?oib11) (v := ?vb11) ?hib11 ?hsb11 ?hfb11 ?hrb11 ?hQb11 (Or.inl ⟨?hwb11, ?hyb11⟩) (by assumption) ?_
        case hib11 => simp only [List.getElem?_toArray, List.getElem?_cons_succ, List.getElem?_cons_zero]; rfl
        case hsb11 => kernel_rfl
        case hfb11 => kernel_rfl
        case hrb11 => kernel_rfl
        case hQb11 => exact fun _ _ _ h => h
        case hwb11 => rfl
        case hyb11 => intro w hSw; (try dsimp only at hSw); go_simp; try with_reducible rfl
        try simp only [Act.put, List.setIfInBounds_toArray, List.set_cons_zero, List.set_cons_succ]
        refine wpAnyH_take (i := 11) (oi := ?oib12) (v := ?vb12) ?hib12 ?hsb12 ?hfb12 ?hrb12 ?hQb12 (Or.inl ⟨?hwb12, ?hyb12⟩) (by assumption) ?_
        case hib12 => simp only [List.getElem?_toArray, List.getElem?_cons_succ, List.getElem?_cons_zero]; rfl
        case hsb12 => kernel_rfl
        case hfb12 => kernel_rfl
        case hrb12 => kernel_rfl
        case hQb12 => exact fun _ _ _ h => h
        case hwb12 => rfl
        case hyb12 => intro w hSw; (try dsimp only at hSw); go_simp; try with_reducible rfl
        try simp only [Act.put, List.setIfInBounds_toArray, List.set_cons_zero, List.set_cons_succ]
        refine wpAnyH_take (i := 12) (oi := ?oib13) (v := ?vb13) ?hib13 ?hsb13 ?hfb13 ?hrb13 ?hQb13 (Or.inl ⟨?hwb13, ?hyb13⟩) (by assumption) ?_
        case hib13 => simp only [List.getElem?_toArray, List.getElem?_cons_succ, List.getElem?_cons_zero]; rfl
        case hsb13 => kernel_rfl
        case hfb13 => kernel_rfl
        case hrb13 => kernel_rfl
        case hQb13 => exact fun _ _ _ h => h
        case hwb13 => rfl
        case hyb13 => intro w hSw; (try dsimp only at hSw); go_simp; try with_reducible rfl
        try simp only [Act.put, List.setIfInBounds_toArray, List.set_cons_zero, List.set_cons_succ]
        refine wpAnyH_take (i := 13) (oi := ?oib14) (v := ?vb14) ?hib14 ?hsb14 ?hfb14 ?hrb14 ?hQb14 (Or.inl ⟨?hwb14, ?hyb14⟩) (by assumption) ?_
        case hib14 => simp only [List.getElem?_toArray, List.getElem?_cons_succ, List.getElem?_cons_zero]; rfl
        case hsb14 => kernel_rfl
        case hfb14 => kernel_rfl
        case hrb14 => kernel_rfl
        case hQb14 => exact fun _ _ _ h => h
        case hwb14 => rfl
        case hyb14 => intro w hSw; (try dsimp only at hSw); go_simp; try with_reducible rfl
        try simp only [Act.put, List.setIfInBounds_toArray, List.set_cons_zero, List.set_cons_succ]
        refine wpAnyH_ready (rs := [14, 15]) (by kernel_rfl) (by simp) ?_
        refine AllReadyH.cons (o := ?ob16) ?hob16 (fun K hK => ?_) ?_
        case hob16 => simp only [List.getElem?_toArray, List.getElem?_cons_succ, List.getElem?_cons_zero]; rfl
        · skip
          go_simp
          refine (hcN _ ?_ ?_ ?_).mono ?_
          (first | assumption | exact Below.drew (by assumption) | exact Below.allocd (by assumption) | exact Below.drew (Below.allocd (by assumption)) | exact cell_allocd (by assumption) | exact cell_drew (cell_allocd (by assumption)) | exact cell_drew (by assumption))
          (first | assumption | exact Below.drew (by assumption) | exact Below.allocd (by assumption) | exact Below.drew (Below.allocd (by assumption)) | exact cell_allocd (by assumption) | exact cell_drew (cell_allocd (by assumption)) | exact cell_drew (by assumption))
          (first | assumption | exact Below.drew (by assumption) | exact Below.allocd (by assumption) | exact Below.drew (Below.allocd (by assumption)) | exact cell_allocd (by assumption) | exact cell_drew (cell_allocd (by assumption)) | exact cell_drew (by assumption))
          rintro e w7 ⟨rfl, k1, k2, k3, k4⟩
          first | (have hcv7 := conv_later (w0 := w6) k4 rfl) | skip
          try dsimp only
          clear hHeld
          refine hK.out _ _ ?_ (fun hHeld => ?_)
          · refine ⟨?_, ?_, ?_⟩ <;> first | assumption | exact Below.drew (by assumption) | exact Below.allocd (by assumption) | exact Below.drew (Below.allocd (by assumption)) | exact cell_allocd (by assumption) | exact cell_drew (cell_allocd (by assumption)) | exact cell_drew (by assumption)
          clear hK K
          try simp only [Act.put, List.setIfInBounds_toArray, List.set_cons_zero, List.set_cons_succ]
          refine wpAnyH_ready (rs := [15]) (by kernel_rfl) (by simp) ?_
          refine AllReadyH.cons (o := ?ob22) ?hob22 (fun K hK => ?_) ?_
          case hob22 => simp only [List.getElem?_toArray, List.getElem?_cons_succ, List.getElem?_cons_zero]; rfl
          · skip
            go_simp
            clear hHeld
            refine hK.out _ _ ?_ (fun hHeld => ?_)
            · refine ⟨?_, ?_, ?_⟩ <;> first | assumption | exact Below.drew (by assumption) | exact Below.allocd (by assumption) | exact Below.drew (Below.allocd (by assumption)) | exact cell_allocd (by assumption) | exact cell_drew (cell_allocd (by assumption)) | exact cell_drew (by assumption)
            clear hK K
            try simp only [Act.put, List.setIfInBounds_toArray, List.set_cons_zero, List.set_cons_succ]
            refine wpAnyH_ready (rs := [16]) (by kernel_rfl) (by simp) ?_
            refine AllReadyH.cons (o := ?ob27) ?hob27 (fun K hK => ?_) ?_
            case hob27 => simp only [List.getElem?_toArray, List.getElem?_cons_succ, List.getElem?_cons_zero]; rfl
            · skip
              go_simp
              clear hHeld
              refine hK.out _ _ ?_ (fun hHeld => ?_)
              · refine ⟨?_, ?_, ?_⟩ <;> first | assumption | exact Below.drew (by assumption) | exact Below.allocd (by assumption) | exact Below.drew (Below.allocd (by assumption)) | exact cell_allocd (by assumption) | exact cell_drew (cell_allocd (by assumption)) | exact cell_drew (by assumption)
              clear hK K
              try simp only [Act.put, List.setIfInBounds_toArray, List.set_cons_zero, List.set_cons_succ]
              refine wpAnyH_take (i := 17) (oi := ?oib31) (v := ?vb31) ?hib31 ?hsb31 ?hfb31 ?hrb31 ?hQb31 (Or.inl ⟨?hwb31, ?hyb31⟩) (by assumption) ?_
              case hib31 => simp only [List.getElem?_toArray, List.getElem?_cons_succ, List.getElem?_cons_zero]; rfl
              case hsb31 => kernel_rfl
              case hfb31 => kernel_rfl
              case hrb31 => kernel_rfl
              case hQb31 => exact fun _ _ _ h => h
              case hwb31 => rfl
              case hyb31 => intro w hSw; (try dsimp only at hSw); go_simp; try with_reducible rfl
              try simp only [Act.put, List.setIfInBounds_toArray, List.set_cons_zero, List.set_cons_succ]
              refine wpAnyH_take (i := 18) (oi := ?oib32) (v := ?vb32) ?hib32 ?hsb32 ?hfb32 ?hrb32 ?hQb32 (Or.inl ⟨?hwb32, ?hyb32⟩) (by assumption) ?_
              case hib32 => simp only [List.getElem?_toArray, List.getElem?_cons_succ, List.getElem?_cons_zero]; rfl
              case hsb32 => kernel_rfl
              case hfb32 => kernel_rfl
              case hrb32 => kernel_rfl
              case hQb32 => exact fun _ _ _ h => h
              case hwb32 => rfl
              case hyb32 => intro w hSw; (try dsimp only at hSw); go_simp; try with_reducible rfl
              try simp only [Act.put, List.setIfInBounds_toArray, List.set_cons_zero, List.set_cons_succ]
              refine wpAnyH_take (i := 19) (oi := ?oib33) (v := ?vb33) ?hib33 ?hsb33 ?hfb33 ?hrb33 ?hQb33 (Or.inl ⟨?hwb33, ?hyb33⟩) (by assumption) ?_
              case hib33 => simp only [List.getElem?_toArray, List.getElem?_cons_succ, List.getElem?_cons_zero]; rfl
              case hsb33 => kernel_rfl
              case hfb33 => kernel_rfl
              case hrb33 => kernel_rfl
              case hQb33 => exact fun _ _ _ h => h
              case hwb33 => rfl
              case hyb33 => intro w hSw; (try dsimp only at hSw); go_simp; try with_reducible rfl
              try simp only [Act.put, List.setIfInBounds_toArray, List.set_cons_zero, List.set_cons_succ]
              refine wpAnyH_done (by kernel_rfl) ?_ _
              refine NoPanic.normal ?_
              obtain ⟨j1, j2, j3⟩ := hHeld
              have hor := HOR.out
              generalize (shaL z' == zero32) = q at hor ⊢
              go_wp2_with fail
              refine (HC2.out _ j2 j3).mono ?_
              rintro e w8 ⟨rfl, b8⟩
              have hb8 := Below.next j2 b8
              generalize collB X.1 Y.1 = cb at hor ⊢
              cases cb
              · obtain rfl : q = true := by simpa using hor
                go_wp2_with fail
                go_ret
                exact ⟨rfl, hb8⟩
              · go_wp2_with fail
                go_ret
                exact ⟨rfl, hb8⟩
            exact AllReadyH.nil
          exact AllReadyH.nil
        refine AllReadyH.cons (o := ?ob37) ?hob37 (fun K hK => ?_) ?_
        case hob37 => simp only [List.getElem?_toArray, List.getElem?_cons_succ, List.getElem?_cons_zero]; rfl
        · skip
          go_simp
          clear hHeld
          refine hK.out _ _ ?_ (fun hHeld => ?_)
          · refine ⟨?_, ?_, ?_⟩ <;> first | assumption | exact Below.drew (by assumption) | exact Below.allocd (by assumption) | exact Below.drew (Below.allocd (by assumption)) | exact cell_allocd (by assumption) | exact cell_drew (cell_allocd (by assumption)) | exact cell_drew (by assumption)
          clear hK K
          try simp only [Act.put, List.setIfInBounds_toArray, List.set_cons_zero, List.set_cons_succ]
          refine wpAnyH_ready (rs := [14, 16]) (by kernel_rfl) (by simp) ?_
          refine AllReadyH.cons (o := ?ob42) ?hob42 (fun K hK => ?_) ?_
          case hob42 => simp only [List.getElem?_toArray, List.getElem?_cons_succ, List.getElem?_cons_zero]; rfl
          · skip
            go_simp
            refine (hcN _ ?_ ?_ ?_).mono ?_
            (first | assumption | exact Below.drew (by assumption) | exact Below.allocd (by assumption) | exact Below.drew (Below.allocd (by assumption)) | exact cell_allocd (by assumption) | exact cell_drew (cell_allocd (by assumption)) | exact cell_drew (by assumption))
            (first | assumption | exact Below.drew (by assumption) | exact Below.allocd (by assumption) | exact Below.drew (Below.allocd (by assumption)) | exact cell_allocd (by assumption) | exact cell_drew (cell_allocd (by assumption)) | exact cell_drew (by assumption))
            (first | assumption | exact Below.drew (by assumption) | exact Below.allocd (by assumption) | exact Below.drew (Below.allocd (by assumption)) | exact cell_allocd (by assumption) | exact cell_drew (cell_allocd (by assumption)) | exact cell_drew (by assumption))
            rintro e w7 ⟨rfl, k1, k2, k3, k4⟩
            first | (have hcv7 := conv_later (w0 := w6) k4 rfl) | skip
            try dsimp only
            clear hHeld
            refine hK.out _ _ ?_ (fun hHeld => ?_)
            · refine ⟨?_, ?_, ?_⟩ <;> first | assumption | exact Below.drew (by assumption) | exact Below.allocd (by assumption) | exact Below.drew (Below.allocd (by assumption)) | exact cell_allocd (by assumption) | exact cell_drew (cell_allocd (by assumption)) | exact cell_drew (by assumption)
            clear hK K
            try simp only [Act.put, List.setIfInBounds_toArray, List.set_cons_zero, List.set_cons_succ]
            refine wpAnyH_ready (rs := [16]) (by kernel_rfl) (by simp) ?_
            refine AllReadyH.cons (o := ?ob48) ?hob48 (fun K hK => ?_) ?_
            case hob48 => simp only [List.getElem?_toArray, List.getElem?_cons_succ, List.getElem?_cons_zero]; rfl
            · skip
              go_simp
              clear hHeld
              refine hK.out _ _ ?_ (fun hHeld => ?_)
              · refine ⟨?_, ?_, ?_⟩ <;> first | assumption | exact Below.drew (by assumption) | exact Below.allocd (by assumption) | exact Below.drew (Below.allocd (by assumption)) | exact cell_allocd (by assumption) | exact cell_drew (cell_allocd (by assumption)) | exact cell_drew (by assumption)
              clear hK K
              try simp only [Act.put, List.setIfInBounds_toArray, List.set_cons_zero, List.set_cons_succ]
              refine wpAnyH_take (i := 17) (oi := ?oib52) (v := ?vb52) ?hib52 ?hsb52 ?hfb52 ?hrb52 ?hQb52 (Or.inl ⟨?hwb52, ?hyb52⟩) (by assumption) ?_
              case hib52 => simp only [List.getElem?_toArray, List.getElem?_cons_succ, List.getElem?_cons_zero]; rfl
              case hsb52 => kernel_rfl
              case hfb52 => kernel_rfl
              case hrb52 => kernel_rfl
              case hQb52 => exact fun _ _ _ h => h
              case hwb52 => rfl
              case hyb52 => intro w hSw; (try dsimp only at hSw); go_simp; try with_reducible rfl
              try simp only [Act.put, List.setIfInBounds_toArray, List.set_cons_zero, List.set_cons_succ]
              refine wpAnyH_take (i := 18) (oi := ?oib53) (v := ?vb53) ?hib53 ?hsb53 ?hfb53 ?hrb53 ?hQb53 (Or.inl ⟨?hwb53, ?hyb53⟩) (by assumption) ?_
              case hib53 => simp only [List.getElem?_toArray, List.getElem?_cons_succ, List.getElem?_cons_zero]; rfl
              case hsb53 => kernel_rfl
              case hfb53 => kernel_rfl
              case hrb53 => kernel_rfl
              case hQb53 => exact fun _ _ _ h => h
              case hwb53 => rfl
              case hyb53 => intro w hSw; (try dsimp only at hSw); go_simp; try with_reducible rfl
              try simp only [Act.put, List.setIfInBounds_toArray, List.set_cons_zero, List.set_cons_succ]
              refine wpAnyH_take (i := 19) (oi := ?oib54) (v := ?vb54) ?hib54 ?hsb54 ?hfb54 ?hrb54 ?hQb54 (Or.inl ⟨?hwb54, ?hyb54⟩) (by assumption) ?_
              case hib54 => simp only [List.getElem?_toArray, List.getElem?_cons_succ, List.getElem?_cons_zero]; rfl
              case hsb54 => kernel_rfl
              case hfb54 => kernel_rfl
              case hrb54 => kernel_rfl
              case hQb54 => exact fun _ _ _ h => h
              case hwb54 => rfl
              case hyb54 => intro w hSw; (try dsimp only at hSw); go_simp; try with_reducible rfl
              try simp only [Act.put, List.setIfInBounds_toArray, List.set_cons_zero, List.set_cons_succ]
              refine wpAnyH_done (by kernel_rfl) ?_ _
              refine NoPanic.normal ?_
              obtain ⟨j1, j2, j3⟩ := hHeld
              have hor := HOR.out
              generalize (shaL z' == zero32) = q at hor ⊢
              go_wp2_with fail
              refine (HC2.out _ j2 j3).mono ?_
              rintro e w8 ⟨rfl, b8⟩
              have hb8 := Below.next j2 b8
              generalize collB X.1 Y.1 = cb at hor ⊢
              cases cb
              · obtain rfl : q = true := by simpa using hor
                go_wp2_with fail
                go_ret
                exact ⟨rfl, hb8⟩
              · go_wp2_with fail
                go_ret
                exact ⟨rfl, hb8⟩
            exact AllReadyH.nil
          refine AllReadyH.cons (o := ?ob57) ?hob57 (fun K hK => ?_) ?_
          case hob57 => simp only [List.getElem?_toArray, List.getElem?_cons_succ, List.getElem?_cons_zero]; rfl
          · skip
            go_simp
            clear hHeld
            refine hK.out _ _ ?_ (fun hHeld => ?_)
            · refine ⟨?_, ?_, ?_⟩ <;> first | assumption | exact Below.drew (by assumption) | exact Below.allocd (by assumption) | exact Below.drew (Below.allocd (by assumption)) | exact cell_allocd (by assumption) | exact cell_drew (cell_allocd (by assumption)) | exact cell_drew (by assumption)
            clear hK K
            try simp only [Act.put, List.setIfInBounds_toArray, List.set_cons_zero, List.set_cons_succ]
            refine wpAnyH_ready (rs := [14]) (by kernel_rfl) (by simp) ?_
            refine AllReadyH.cons (o := ?ob62) ?hob62 (fun K hK => ?_) ?_
            case hob62 => simp only [List.getElem?_toArray, List.getElem?_cons_succ, List.getElem?_cons_zero]; rfl
            · skip
              go_simp
              refine (hcN _ ?_ ?_ ?_).mono ?_
              (first | assumption | exact Below.drew (by assumption) | exact Below.allocd (by assumption) | exact Below.drew (Below.allocd (by assumption)) | exact cell_allocd (by assumption) | exact cell_drew (cell_allocd (by assumption)) | exact cell_drew (by assumption))
              (first | assumption | exact Below.drew (by assumption) | exact Below.allocd (by assumption) | exact Below.drew (Below.allocd (by assumption)) | exact cell_allocd (by assumption) | exact cell_drew (cell_allocd (by assumption)) | exact cell_drew (by assumption))
              (first | assumption | exact Below.drew (by assumption) | exact Below.allocd (by assumption) | exact Below.drew (Below.allocd (by assumption)) | exact cell_allocd (by assumption) | exact cell_drew (cell_allocd (by assumption)) | exact cell_drew (by assumption))
              rintro e w7 ⟨rfl, k1, k2, k3, k4⟩
              first | (have hcv7 := conv_later (w0 := w6) k4 rfl) | skip
              try dsimp only
              clear hHeld
              refine hK.out _ _ ?_ (fun hHeld => ?_)
              · refine ⟨?_, ?_, ?_⟩ <;> first | assumption | exact Below.drew (by assumption) | exact Below.allocd (by assumption) | exact Below.drew (Below.allocd (by assumption)) | exact cell_allocd (by assumption) | exact cell_drew (cell_allocd (by assumption)) | exact cell_drew (by assumption)
              clear hK K
              try simp only [Act.put, List.setIfInBounds_toArray, List.set_cons_zero, List.set_cons_succ]
              refine wpAnyH_take (i := 17) (oi := ?oib67) (v := ?vb67) ?hib67 ?hsb67 ?hfb67 ?hrb67 ?hQb67 (Or.inl ⟨?hwb67, ?hyb67⟩) (by assumption) ?_
              case hib67 => simp only [List.getElem?_toArray, List.getElem?_cons_succ, List.getElem?_cons_zero]; rfl
              case hsb67 => kernel_rfl
              case hfb67 => kernel_rfl
              case hrb67 => kernel_rfl
              case hQb67 => exact fun _ _ _ h => h
              case hwb67 => rfl
              case hyb67 => intro w hSw; (try dsimp only at hSw); go_simp; try with_reducible rfl
              try simp only [Act.put, List.setIfInBounds_toArray, List.set_cons_zero, List.set_cons_succ]
              refine wpAnyH_take (i := 18) (oi := ?oib68) (v := ?vb68) ?hib68 ?hsb68 ?hfb68 ?hrb68 ?hQb68 (Or.inl ⟨?hwb68, ?hyb68⟩) (by assumption) ?_
              case hib68 => simp only [List.getElem?_toArray, List.getElem?_cons_succ, List.getElem?_cons_zero]; rfl
              case hsb68 => kernel_rfl
              case hfb68 => kernel_rfl
              case hrb68 => kernel_rfl
              case hQb68 => exact fun _ _ _ h => h
              case hwb68 => rfl
              case hyb68 => intro w hSw; (try dsimp only at hSw); go_simp; try with_reducible rfl
              try simp only [Act.put, List.setIfInBounds_toArray, List.set_cons_zero, List.set_cons_succ]
              refine wpAnyH_take (i := 19) (oi := ?oib69) (v := ?vb69) ?hib69 ?hsb69 ?hfb69 ?hrb69 ?hQb69 (Or.inl ⟨?hwb69, ?hyb69⟩) (by assumption) ?_
              case hib69 => simp only [List.getElem?_toArray, List.getElem?_cons_succ, List.getElem?_cons_zero]; rfl
              case hsb69 => kernel_rfl
              case hfb69 => kernel_rfl
              case hrb69 => kernel_rfl
              case hQb69 => exact fun _ _ _ h => h
              case hwb69 => rfl
              case hyb69 => intro w hSw; (try dsimp only at hSw); go_simp; try with_reducible rfl
              try simp only [Act.put, List.setIfInBounds_toArray, List.set_cons_zero, List.set_cons_succ]
              refine wpAnyH_done (by kernel_rfl) ?_ _
              refine NoPanic.normal ?_
              obtain ⟨j1, j2, j3⟩ := hHeld
              have hor := HOR.out
              generalize (shaL z' == zero32) = q at hor ⊢
              go_wp2_with fail
              refine (HC2.out _ j2 j3).mono ?_
              rintro e w8 ⟨rfl, b8⟩
              have hb8 := Below.next j2 b8
              generalize collB X.1 Y.1 = cb at hor ⊢
              cases cb
              · obtain rfl : q = true := by simpa using hor
                go_wp2_with fail
                go_ret
                exact ⟨rfl, hb8⟩
              · go_wp2_with fail
                go_ret
                exact ⟨rfl, hb8⟩
            exact AllReadyH.nil
          exact AllReadyH.nil
        exact AllReadyH.nil
      · have hcc := k1 heq
        subst heq
        have HCC := Lib.hid hcc
        have HCOL := Lib.hid hcol
        clear k1 k2 k3 hcc hcol
        have g1 : decide (n1 < n1) = false := by simp
        go_wp2_with fail
        go_quiet (fail)
        have hb7 : Below w.heap.size w (w6.drewN nq) := below_drewN' hb6 nq
        have hcol := HCOL.out (w6.drewN nq) lx6 ly6 (by omega) HSA.out HSB.out (hR.later hb7)
        rw [HCC.out] at hcol
        go_wp2_with fail
        refine hcol.mono ?_
        rintro e w8 ⟨rfl, b8⟩
        have hb8 := Below.next hb7 b8
        go_wp2_with fail
        go_ret
        exact ⟨rfl, hb8⟩
      · obtain ⟨z, hz, hor⟩ := k2 hgt
        clear k1 k2 k3
        have g1 : decide (n1 < n2) = false := by simp; omega
        have g2 : ((n1 : Int) != (n2 : Int)) = true := by simp; omega
        have g3 : (n1 != n2) = true := by simp; omega
        obtain ⟨g, o, z', rfl, hz', hg, cz⟩ := lx6.at_ (k := n2) (by rw [← HN1.out]; omega)
        obtain rfl : z' = z := Option.some.inj (hz'.symm.trans hz)
        have hzs := HSA.out z' (List.mem_of_getElem? hz)
        have hmin : ∀ W, (Builtin.min_ #[ 3, 3 ] 3 #[.int .i64 (n1 : Int), .int .i64 (n2 : Int)]).run Tryd.prog W = .ok (.int .i64 (n2 : Int)) W := by
          intro W
          simp [Builtin.min_, Builtin.min2]
          omega
        have hmk := run_make32
        have hcv := fun w : World => run_conv32 (BlkIs.new w 5 zeroCells)
        have hcvd := fun w : World => run_conv32 (BlkIs.drew (BlkIs.new w 5 zeroCells))
        have hcvg := fun (W : World) (g : Nat) => @run_conv32 W g
        have q0 : (0 : Int) ≤ (n2 : Int) := by omega
        have q1 : (n2 : Int) < (n1 : Int) := by omega
        have hcN : ∀ (W : World), W.cell? ⟨g, o + n2, none⟩ = some (.string (str z')) → Below w.heap.size w W → Below w6.heap.size w6 W →
            Calls Tryd.prog 26 #[.string (str z')] W fun e w' => e = .returned (.string (str (shaL z'))) ∧ w'.cell? ⟨g, o + n2, none⟩ = some (.string (str z')) ∧ Below w.heap.size w w' ∧ Below w6.heap.size w6 w' ∧ Below W.heap.size W w' := by
          intro W k1 k3 k4
          have h := sum_ok (str z') W (by rw [size_mk]; omega) (hR.later k3)
          rw [mk_toList] at h
          exact h.mono fun e w' ⟨he, hb⟩ => ⟨he, (hb.cell (block_of_cell k1)).trans k1, Below.next k3 hb, Below.next k4 hb, hb⟩
        have hbb := Below.refl w6.heap.size w6
        have HOR := Lib.hid hor
        have HCOL := Lib.hid hcol
        clear hz hz' hor hcol
        go_wp2_with fail
        have HC2 := Lib.hid (fun (W : World) (k1 : Below w.heap.size w W) (k2 : Below w6.heap.size w6 W) => HCOL.out W (lx6.below k2) (ly6.below k2) (by omega) HSA.out HSB.out (hR.later k1))
        clear HCOL
        refine wp_region_noPanic ?_
        refine wp_region_held_drew (S := fun W => W.cell? ⟨g, o + n2, none⟩ = some (.string (str z')) ∧ Below w.heap.size w W ∧ Below w6.heap.size w6 W) (by kernel_rfl) ?_ (fun hHeld => ?_)
        · refine ⟨?_, ?_, ?_⟩ <;> first | assumption | exact Below.drew (by assumption) | exact Below.allocd (by assumption) | exact Below.drew (Below.allocd (by assumption)) | exact cell_allocd (by assumption) | exact cell_drew (cell_allocd (by assumption)) | exact cell_drew (by assumption)
        refine wpAnyH_take (i := 0) (oi := ?oi1) (v := ?v1) ?hi1 ?hs1 ?hf1 ?hr1 ?hQ1 (Or.inl ⟨?hw1, ?hy1⟩) (by assumption) ?_
        case hi1 => simp only [List.getElem?_toArray, List.getElem?_cons_zero]; rfl
        case hs1 => kernel_rfl
        case hf1 => kernel_rfl
        case hr1 => kernel_rfl
        case hQ1 => exact fun _ _ _ h => h
        case hw1 => rfl
        case hy1 => intro w hSw; (try dsimp only at hSw); go_simp; try with_reducible rfl
        try simp only [Act.put, List.setIfInBounds_toArray, List.set_cons_zero, List.set_cons_succ]
        refine wpAnyH_take (i := 1) (oi := ?oi2) (v := ?v2) ?hi2 ?hs2 ?hf2 ?hr2 ?hQ2 (Or.inl ⟨?hw2, ?hy2⟩) (by assumption) ?_
        case hi2 => simp only [List.getElem?_toArray, List.getElem?_cons_succ, List.getElem?_cons_zero]; rfl
        case hs2 => kernel_rfl
        case hf2 => kernel_rfl
        case hr2 => kernel_rfl
        case hQ2 => exact fun _ _ _ h => h
        case hw2 => rfl
        case hy2 => intro w hSw; (try dsimp only at hSw); go_simp; try with_reducible rfl
        try simp only [Act.put, List.setIfInBounds_toArray, List.set_cons_zero, List.set_cons_succ]
        refine wpAnyH_take (i := 2) (oi := ?oi3) (v := ?v3) ?hi3 ?hs3 ?hf3 ?hr3 ?hQ3 (Or.inl ⟨?hw3, ?hy3⟩) (by assumption) ?_
        case hi3 => simp only [List.getElem?_toArray, List.getElem?_cons_succ, List.getElem?_cons_zero]; rfl
        case hs3 => kernel_rfl
        case hf3 => kernel_rfl
        case hr3 => kernel_rfl
        case hQ3 => exact fun _ _ _ h => h
        case hw3 => rfl
        case hy3 => intro w hSw; (try dsimp only at hSw); go_simp; try with_reducible rfl
        try simp only [Act.put, List.setIfInBounds_toArray, List.set_cons_zero, List.set_cons_succ]
        refine wpAnyH_take (i := 3) (oi := ?oi4) (v := ?v4) ?hi4 ?hs4 ?hf4 ?hr4 ?hQ4 (Or.inl ⟨?hw4, ?hy4⟩) (by assumption) ?_
        case hi4 => simp only [List.getElem?_toArray, List.getElem?_cons_succ, List.getElem?_cons_zero]; rfl
        case hs4 => kernel_rfl
        case hf4 => kernel_rfl
        case hr4 => kernel_rfl
        case hQ4 => exact fun _ _ _ h => h
        case hw4 => rfl
        case hy4 => intro w hSw; (try dsimp only at hSw); go_simp; try with_reducible rfl
        try simp only [Act.put, List.setIfInBounds_toArray, List.set_cons_zero, List.set_cons_succ]
        refine wpAnyH_take (i := 4) (oi := ?oi5) (v := ?v5) ?hi5 ?hs5 ?hf5 ?hr5 ?hQ5 (Or.inl ⟨?hw5, ?hy5⟩) (by assumption) ?_
        case hi5 => simp only [List.getElem?_toArray, List.getElem?_cons_succ, List.getElem?_cons_zero]; rfl
        case hs5 => kernel_rfl
        case hf5 => kernel_rfl
        case hr5 => kernel_rfl
        case hQ5 => exact fun _ _ _ h => h
        case hw5 => rfl
        case hy5 => intro w hSw; (try dsimp only at hSw); go_simp; try with_reducible rfl
        try simp only [Act.put, List.setIfInBounds_toArray, List.set_cons_zero, List.set_cons_succ]
        refine wpAnyH_take (i := 5) (oi := ?oi6) (v := ?v6) ?hi6 ?hs6 ?hf6 ?hr6 ?hQ6 (Or.inl ⟨?hw6, ?hy6⟩) (by assumption) ?_
        case hi6 => simp only [List.getElem?_toArray, List.getElem?_cons_succ, List.getElem?_cons_zero]; rfl
        case hs6 => kernel_rfl
        case hf6 => kernel_rfl
        case hr6 => kernel_rfl
        case hQ6 => exact fun _ _ _ h => h
        case hw6 => rfl
        case hy6 => intro w hSw; (try dsimp only at hSw); go_simp; try with_reducible rfl
        try simp only [Act.put, List.setIfInBounds_toArray, List.set_cons_zero, List.set_cons_succ]
        refine wpAnyH_take (i := 6) (oi := ?oi7) (v := ?v7) ?hi7 ?hs7 ?hf7 ?hr7 ?hQ7 (Or.inl ⟨?hw7, ?hy7⟩) (by assumption) ?_
        case hi7 => simp only [List.getElem?_toArray, List.getElem?_cons_succ, List.getElem?_cons_zero]; rfl
        case hs7 => kernel_rfl
        case hf7 => kernel_rfl
        case hr7 => kernel_rfl
        case hQ7 => exact fun _ _ _ h => h
        case hw7 => rfl
        case hy7 => intro w hSw; (try dsimp only at hSw); go_simp; try with_reducible rfl
        try simp only [Act.put, List.setIfInBounds_toArray, List.set_cons_zero, List.set_cons_succ]
        refine wpAnyH_take (i := 7) (oi := ?oi8) (v := ?v8) ?hi8 ?hs8 ?hf8 ?hr8 ?hQ8 (Or.inl ⟨?hw8, ?hy8⟩) (by assumption) ?_
        case hi8 => simp only [List.getElem?_toArray, List.getElem?_cons_succ, List.getElem?_cons_zero]; rfl
        case hs8 => kernel_rfl
        case hf8 => kernel_rfl
        case hr8 => kernel_rfl
        case hQ8 => exact fun _ _ _ h => h
        case hw8 => rfl
        case hy8 => intro w hSw; (try dsimp only at hSw); go_simp; try with_reducible rfl
        try simp only [Act.put, List.setIfInBounds_toArray, List.set_cons_zero, List.set_cons_succ]
        refine wpAnyH_take (i := 8) (oi := ?oi9) (v := ?v9) ?hi9 ?hs9 ?hf9 ?hr9 ?hQ9 (Or.inl ⟨?hw9, ?hy9⟩) (by assumption) ?_
        case hi9 => simp only [List.getElem?_toArray, List.getElem?_cons_succ, List.getElem?_cons_zero]; rfl
        case hs9 => kernel_rfl
        case hf9 => kernel_rfl
        case hr9 => kernel_rfl
        case hQ9 => exact fun _ _ _ h => h
        case hw9 => rfl
        case hy9 => intro w hSw; (try dsimp only at hSw); go_simp; try with_reducible rfl
        try simp only [Act.put, List.setIfInBounds_toArray, List.set_cons_zero, List.set_cons_succ]
        refine wpAnyH_take (i := 9) (oi := ?oi10) (v := ?v10) ?hi10 ?hs10 ?hf10 ?hr10 ?hQ10 (Or.inl ⟨?hw10, ?hy10⟩) (by assumption) ?_
        case hi10 => simp only [List.getElem?_toArray, List.getElem?_cons_succ, List.getElem?_cons_zero]; rfl
        case hs10 => kernel_rfl
        case hf10 => kernel_rfl
        case hr10 => kernel_rfl
        case hQ10 => exact fun _ _ _ h => h
        case hw10 => rfl
        case hy10 => intro w hSw; (try dsimp only at hSw); go_simp; try with_reducible rfl
        try simp only [Act.put, List.setIfInBounds_toArray, List.set_cons_zero, List.set_cons_succ]
        refine wpAnyH_take (i := 10) (oi := ?oi11) (v := ?v11) ?hi11 ?hs11 ?hf11 ?hr11 ?hQ11 (Or.inl ⟨?hw11, ?hy11⟩) (by assumption) ?_
        case hi11 => simp only [List.getElem?_toArray, List.getElem?_cons_succ, List.getElem?_cons_zero]; rfl
        case hs11 => kernel_rfl
        case hf11 => kernel_rfl
        case hr11 => kernel_rfl
        case hQ11 => exact fun _ _ _ h => h
        case hw11 => rfl
        case hy11 => intro w hSw; (try dsimp only at hSw); go_simp; try with_reducible rfl
        try simp only [Act.put, List.setIfInBounds_toArray, List.set_cons_zero, List.set_cons_succ]
        refine wpAnyH_take (i := 11) (oi := ?oi12) (v := ?v12) ?hi12 ?hs12 ?hf12 ?hr12 ?hQ12 (Or.inl ⟨?hw12, ?hy12⟩) (by assumption) ?_
        case hi12 => simp only [List.getElem?_toArray, List.getElem?_cons_succ, List.getElem?_cons_zero]; rfl
        case hs12 => kernel_rfl
        case hf12 => kernel_rfl
        case hr12 => kernel_rfl
        case hQ12 => exact fun _ _ _ h => h
        case hw12 => rfl
        case hy12 => intro w hSw; (try dsimp only at hSw); go_simp; try with_reducible rfl
        try simp only [Act.put, List.setIfInBounds_toArray, List.set_cons_zero, List.set_cons_succ]
        refine wpAnyH_take (i := 12) (oi := ?oi13) (v := ?v13) ?hi13 ?hs13 ?hf13 ?hr13 ?hQ13 (Or.inl ⟨?hw13, ?hy13⟩) (by assumption) ?_
        case hi13 => simp only [List.getElem?_toArray, List.getElem?_cons_succ, List.getElem?_cons_zero]; rfl
        case hs13 => kernel_rfl
        case hf13 => kernel_rfl
        case hr13 => kernel_rfl
        case hQ13 => exact fun _ _ _ h => h
        case hw13 => rfl
        case hy13 => intro w hSw; (try dsimp only at hSw); go_simp; try with_reducible rfl
        try simp only [Act.put, List.setIfInBounds_toArray, List.set_cons_zero, List.set_cons_succ]
        refine wpAnyH_take (i := 13) (oi := ?oi14) (v := ?v14) ?hi14 ?hs14 ?hf14 ?hr14 ?hQ14 (Or.inl ⟨?hw14, ?hy14⟩) (by assumption) ?_
        case hi14 => simp only [List.getElem?_toArray, List.getElem?_cons_succ, List.getElem?_cons_zero]; rfl
        case hs14 => kernel_rfl
        case hf14 => kernel_rfl
        case hr14 => kernel_rfl
        case hQ14 => exact fun _ _ _ h => h
        case hw14 => rfl
        case hy14 => intro w hSw; (try dsimp only at hSw); go_simp; try with_reducible rfl
        try simp only [Act.put, List.setIfInBounds_toArray, List.set_cons_zero, List.set_cons_succ]
        refine wpAnyH_ready (rs := [14, 15]) (by kernel_rfl) (by simp) ?_
        refine AllReadyH.cons (o := ?o16) ?ho16 (fun K hK => ?_) ?_
        case ho16 => simp only [List.getElem?_toArray, List.getElem?_cons_succ, List.getElem?_cons_zero]; rfl
        · skip
          go_simp
          refine (hcN _ ?_ ?_ ?_).mono ?_
          (first | assumption | exact Below.drew (by assumption) | exact Below.allocd (by assumption) | exact Below.drew (Below.allocd (by assumption)) | exact cell_allocd (by assumption) | exact cell_drew (cell_allocd (by assumption)) | exact cell_drew (by assumption))
          (first | assumption | exact Below.drew (by assumption) | exact Below.allocd (by assumption) | exact Below.drew (Below.allocd (by assumption)) | exact cell_allocd (by assumption) | exact cell_drew (cell_allocd (by assumption)) | exact cell_drew (by assumption))
          (first | assumption | exact Below.drew (by assumption) | exact Below.allocd (by assumption) | exact Below.drew (Below.allocd (by assumption)) | exact cell_allocd (by assumption) | exact cell_drew (cell_allocd (by assumption)) | exact cell_drew (by assumption))
          rintro e w7 ⟨rfl, k1, k2, k3, k4⟩
          first | (have hcv7 := conv_later (w0 := w6) k4 rfl) | skip
          try dsimp only
          clear hHeld
          refine hK.out _ _ ?_ (fun hHeld => ?_)
          · refine ⟨?_, ?_, ?_⟩ <;> first | assumption | exact Below.drew (by assumption) | exact Below.allocd (by assumption) | exact Below.drew (Below.allocd (by assumption)) | exact cell_allocd (by assumption) | exact cell_drew (cell_allocd (by assumption)) | exact cell_drew (by assumption)
          clear hK K
          try simp only [Act.put, List.setIfInBounds_toArray, List.set_cons_zero, List.set_cons_succ]
          refine wpAnyH_ready (rs := [15]) (by kernel_rfl) (by simp) ?_
          refine AllReadyH.cons (o := ?o22) ?ho22 (fun K hK => ?_) ?_
          case ho22 => simp only [List.getElem?_toArray, List.getElem?_cons_succ, List.getElem?_cons_zero]; rfl
          · skip
            go_simp
            clear hHeld
            refine hK.out _ _ ?_ (fun hHeld => ?_)
            · refine ⟨?_, ?_, ?_⟩ <;> first | assumption | exact Below.drew (by assumption) | exact Below.allocd (by assumption) | exact Below.drew (Below.allocd (by assumption)) | exact cell_allocd (by assumption) | exact cell_drew (cell_allocd (by assumption)) | exact cell_drew (by assumption)
            clear hK K
            try simp only [Act.put, List.setIfInBounds_toArray, List.set_cons_zero, List.set_cons_succ]
            refine wpAnyH_ready (rs := [16]) (by kernel_rfl) (by simp) ?_
            refine AllReadyH.cons (o := ?o27) ?ho27 (fun K hK => ?_) ?_
            case ho27 => simp only [List.getElem?_toArray, List.getElem?_cons_succ, List.getElem?_cons_zero]; rfl
            · skip
              go_simp
              clear hHeld
              refine hK.out _ _ ?_ (fun hHeld => ?_)
              · refine ⟨?_, ?_, ?_⟩ <;> first | assumption | exact Below.drew (by assumption) | exact Below.allocd (by assumption) | exact Below.drew (Below.allocd (by assumption)) | exact cell_allocd (by assumption) | exact cell_drew (cell_allocd (by assumption)) | exact cell_drew (by assumption)
              clear hK K
              try simp only [Act.put, List.setIfInBounds_toArray, List.set_cons_zero, List.set_cons_succ]
              refine wpAnyH_take (i := 17) (oi := ?oi31) (v := ?v31) ?hi31 ?hs31 ?hf31 ?hr31 ?hQ31 (Or.inl ⟨?hw31, ?hy31⟩) (by assumption) ?_
              case hi31 => simp only [List.getElem?_toArray, List.getElem?_cons_succ, List.getElem?_cons_zero]; rfl
              case hs31 => kernel_rfl
              case hf31 => kernel_rfl
              case hr31 => kernel_rfl
              case hQ31 => exact fun _ _ _ h => h
              case hw31 => rfl
              case hy31 => intro w hSw; (try dsimp only at hSw); go_simp; try with_reducible rfl
              try simp only [Act.put, List.setIfInBounds_toArray, List.set_cons_zero, List.set_cons_succ]
              refine wpAnyH_take (i := 18) (oi := ?oi32) (v := ?v32) ?hi32 ?hs32 ?hf32 ?hr32 ?hQ32 (Or.inl ⟨?hw32, ?hy32⟩) (by assumption) ?_
              case hi32 => simp only [List.getElem?_toArray, List.getElem?_cons_succ, List.getElem?_cons_zero]; rfl
              case hs32 => kernel_rfl
              case hf32 => kernel_rfl
              case hr32 => kernel_rfl
              case hQ32 => exact fun _ _ _ h => h
              case hw32 => rfl
              case hy32 => intro w hSw; (try dsimp only at hSw); go_simp; try with_reducible rfl
              try simp only [Act.put, List.setIfInBounds_toArray, List.set_cons_zero, List.set_cons_succ]
              refine wpAnyH_take (i := 19) (oi := ?oi33) (v := ?v33) ?hi33 ?hs33 ?hf33 ?hr33 ?hQ33 (Or.inl ⟨?hw33, ?hy33⟩) (by assumption) ?_
              case hi33 => simp only [List.getElem?_toArray, List.getElem?_cons_succ, List.getElem?_cons_zero]; rfl
              case hs33 => kernel_rfl
              case hf33 => kernel_rfl
              case hr33 => kernel_rfl
              case hQ33 => exact fun _ _ _ h => h
              case hw33 => rfl
              case hy33 => intro w hSw; (try dsimp only at hSw); go_simp; try with_reducible rfl
              try simp only [Act.put, List.setIfInBounds_toArray, List.set_cons_zero, List.set_cons_succ]
              refine wpAnyH_done (by kernel_rfl) ?_ _
              refine NoPanic.normal ?_
              obtain ⟨j1, j2, j3⟩ := hHeld
              have hor := HOR.out
              generalize (shaL z' == zero32) = q at hor ⊢
              go_wp2_with fail
              refine (HC2.out _ j2 j3).mono ?_
              rintro e w8 ⟨rfl, b8⟩
              have hb8 := Below.next j2 b8
              generalize collB X.1 Y.1 = cb at hor ⊢
              cases cb
              · obtain rfl : q = true := by simpa using hor
                go_wp2_with fail
                go_ret
                exact ⟨rfl, hb8⟩
              · go_wp2_with fail
                go_ret
                exact ⟨rfl, hb8⟩
            exact AllReadyH.nil
          exact AllReadyH.nil
        refine AllReadyH.cons (o := ?o37) ?ho37 (fun K hK => ?_) ?_
        case ho37 => simp only [List.getElem?_toArray, List.getElem?_cons_succ, List.getElem?_cons_zero]; rfl
        · skip
          go_simp
          clear hHeld
          refine hK.out _ _ ?_ (fun hHeld => ?_)
          · refine ⟨?_, ?_, ?_⟩ <;> first | assumption | exact Below.drew (by assumption) | exact Below.allocd (by assumption) | exact Below.drew (Below.allocd (by assumption)) | exact cell_allocd (by assumption) | exact cell_drew (cell_allocd (by assumption)) | exact cell_drew (by assumption)
          clear hK K
          try simp only [Act.put, List.setIfInBounds_toArray, List.set_cons_zero, List.set_cons_succ]
          refine wpAnyH_ready (rs := [14, 16]) (by kernel_rfl) (by simp) ?_
          refine AllReadyH.cons (o := ?o42) ?ho42 (fun K hK => ?_) ?_
          case ho42 => simp only [List.getElem?_toArray, List.getElem?_cons_succ, List.getElem?_cons_zero]; rfl
          · skip
            go_simp
            refine (hcN _ ?_ ?_ ?_).mono ?_
            (first | assumption | exact Below.drew (by assumption) | exact Below.allocd (by assumption) | exact Below.drew (Below.allocd (by assumption)) | exact cell_allocd (by assumption) | exact cell_drew (cell_allocd (by assumption)) | exact cell_drew (by assumption))
            (first | assumption | exact Below.drew (by assumption) | exact Below.allocd (by assumption) | exact Below.drew (Below.allocd (by assumption)) | exact cell_allocd (by assumption) | exact cell_drew (cell_allocd (by assumption)) | exact cell_drew (by assumption))
            (first | assumption | exact Below.drew (by assumption) | exact Below.allocd (by assumption) | exact Below.drew (Below.allocd (by assumption)) | exact cell_allocd (by assumption) | exact cell_drew (cell_allocd (by assumption)) | exact cell_drew (by assumption))
            rintro e w7 ⟨rfl, k1, k2, k3, k4⟩
            first | (have hcv7 := conv_later (w0 := w6) k4 rfl) | skip
            try dsimp only
            clear hHeld
            refine hK.out _ _ ?_ (fun hHeld => ?_)
            · refine ⟨?_, ?_, ?_⟩ <;> first | assumption | exact Below.drew (by assumption) | exact Below.allocd (by assumption) | exact Below.drew (Below.allocd (by assumption)) | exact cell_allocd (by assumption) | exact cell_drew (cell_allocd (by assumption)) | exact cell_drew (by assumption)
            clear hK K
            try simp only [Act.put, List.setIfInBounds_toArray, List.set_cons_zero, List.set_cons_succ]
            refine wpAnyH_ready (rs := [16]) (by kernel_rfl) (by simp) ?_
            refine AllReadyH.cons (o := ?o48) ?ho48 (fun K hK => ?_) ?_
            case ho48 => simp only [List.getElem?_toArray, List.getElem?_cons_succ, List.getElem?_cons_zero]; rfl
            · skip
              go_simp
              clear hHeld
              refine hK.out _ _ ?_ (fun hHeld => ?_)
              · refine ⟨?_, ?_, ?_⟩ <;> first | assumption | exact Below.drew (by assumption) | exact Below.allocd (by assumption) | exact Below.drew (Below.allocd (by assumption)) | exact cell_allocd (by assumption) | exact cell_drew (cell_allocd (by assumption)) | exact cell_drew (by assumption)
              clear hK K
              try simp only [Act.put, List.setIfInBounds_toArray, List.set_cons_zero, List.set_cons_succ]
              refine wpAnyH_take (i := 17) (oi := ?oi52) (v := ?v52) ?hi52 ?hs52 ?hf52 ?hr52 ?hQ52 (Or.inl ⟨?hw52, ?hy52⟩) (by assumption) ?_
              case hi52 => simp only [List.getElem?_toArray, List.getElem?_cons_succ, List.getElem?_cons_zero]; rfl
              case hs52 => kernel_rfl
              case hf52 => kernel_rfl
              case hr52 => kernel_rfl
              case hQ52 => exact fun _ _ _ h => h
              case hw52 => rfl
              case hy52 => intro w hSw; (try dsimp only at hSw); go_simp; try with_reducible rfl
              try simp only [Act.put, List.setIfInBounds_toArray, List.set_cons_zero, List.set_cons_succ]
              refine wpAnyH_take (i := 18) (oi := ?oi53) (v := ?v53) ?hi53 ?hs53 ?hf53 ?hr53 ?hQ53 (Or.inl ⟨?hw53, ?hy53⟩) (by assumption) ?_
              case hi53 => simp only [List.getElem?_toArray, List.getElem?_cons_succ, List.getElem?_cons_zero]; rfl
              case hs53 => kernel_rfl
              case hf53 => kernel_rfl
              case hr53 => kernel_rfl
              case hQ53 => exact fun _ _ _ h => h
              case hw53 => rfl
              case hy53 => intro w hSw; (try dsimp only at hSw); go_simp; try with_reducible rfl
              try simp only [Act.put, List.setIfInBounds_toArray, List.set_cons_zero, List.set_cons_succ]
              refine wpAnyH_take (i := 19) (oi := ?oi54) (v := ?v54) ?hi54 ?hs54 ?hf54 ?hr54 ?hQ54 (Or.inl ⟨?hw54, ?hy54⟩) (by assumption) ?_
              case hi54 => simp only [List.getElem?_toArray, List.getElem?_cons_succ, List.getElem?_cons_zero]; rfl
              case hs54 => kernel_rfl
              case hf54 => kernel_rfl
              case hr54 => kernel_rfl
              case hQ54 => exact fun _ _ _ h => h
              case hw54 => rfl
              case hy54 => intro w hSw; (try dsimp only at hSw); go_simp; try with_reducible rfl
              try simp only [Act.put, List.setIfInBounds_toArray, List.set_cons_zero, List.set_cons_succ]
              refine wpAnyH_done (by kernel_rfl) ?_ _
              refine NoPanic.normal ?_
              obtain ⟨j1, j2, j3⟩ := hHeld
              have hor := HOR.out
              generalize (shaL z' == zero32) = q at hor ⊢
              go_wp2_with fail
              refine (HC2.out _ j2 j3).mono ?_
              rintro e w8 ⟨rfl, b8⟩
              have hb8 := Below.next j2 b8
              generalize collB X.1 Y.1 = cb at hor ⊢
              cases cb
              · obtain rfl : q = true := by simpa using hor
                go_wp2_with fail
                go_ret
                exact ⟨rfl, hb8⟩
              · go_wp2_with fail
                go_ret
                exact ⟨rfl, hb8⟩
            exact AllReadyH.nil
          refine AllReadyH.cons (o := ?o57) ?ho57 (fun K hK => ?_) ?_
          case ho57 => simp only [List.getElem?_toArray, List.getElem?_cons_succ, List.getElem?_cons_zero]; rfl
          · skip
            go_simp
            clear hHeld
            refine hK.out _ _ ?_ (fun hHeld => ?_)
            · refine ⟨?_, ?_, ?_⟩ <;> first | assumption | exact Below.drew (by assumption) | exact Below.allocd (by assumption) | exact Below.drew (Below.allocd (by assumption)) | exact cell_allocd (by assumption) | exact cell_drew (cell_allocd (by assumption)) | exact cell_drew (by assumption)
            clear hK K
            try simp only [Act.put, List.setIfInBounds_toArray, List.set_cons_zero, List.set_cons_succ]
            refine wpAnyH_ready (rs := [14]) (by kernel_rfl) (by simp) ?_
            refine AllReadyH.cons (o := ?o62) ?ho62 (fun K hK => ?_) ?_
            case ho62 => simp only [List.getElem?_toArray, List.getElem?_cons_succ, List.getElem?_cons_zero]; rfl
            · skip
              go_simp
              refine (hcN _ ?_ ?_ ?_).mono ?_
              (first | assumption | exact Below.drew (by assumption) | exact Below.allocd (by assumption) | exact Below.drew (Below.allocd (by assumption)) | exact cell_allocd (by assumption) | exact cell_drew (cell_allocd (by assumption)) | exact cell_drew (by assumption))
              (first | assumption | exact Below.drew (by assumption) | exact Below.allocd (by assumption) | exact Below.drew (Below.allocd (by assumption)) | exact cell_allocd (by assumption) | exact cell_drew (cell_allocd (by assumption)) | exact cell_drew (by assumption))
              (first | assumption | exact Below.drew (by assumption) | exact Below.allocd (by assumption) | exact Below.drew (Below.allocd (by assumption)) | exact cell_allocd (by assumption) | exact cell_drew (cell_allocd (by assumption)) | exact cell_drew (by assumption))
              rintro e w7 ⟨rfl, k1, k2, k3, k4⟩
              first | (have hcv7 := conv_later (w0 := w6) k4 rfl) | skip
              try dsimp only
              clear hHeld
              refine hK.out _ _ ?_ (fun hHeld => ?_)
              · refine ⟨?_, ?_, ?_⟩ <;> first | assumption | exact Below.drew (by assumption) | exact Below.allocd (by assumption) | exact Below.drew (Below.allocd (by assumption)) | exact cell_allocd (by assumption) | exact cell_drew (cell_allocd (by assumption)) | exact cell_drew (by assumption)
              clear hK K
              try simp only [Act.put, List.setIfInBounds_toArray, List.set_cons_zero, List.set_cons_succ]
              refine wpAnyH_take (i := 17) (oi := ?oi67) (v := ?v67) ?hi67 ?hs67 ?hf67 ?hr67 ?hQ67 (Or.inl ⟨?hw67, ?hy67⟩) (by assumption) ?_
              case hi67 => simp only [List.getElem?_toArray, List.getElem?_cons_succ, List.getElem?_cons_zero]; rfl
              case hs67 => kernel_rfl
              case hf67 => kernel_rfl
              case hr67 => kernel_rfl
              case hQ67 => exact fun _ _ _ h => h
              case hw67 => rfl
              case hy67 => intro w hSw; (try dsimp only at hSw); go_simp; try with_reducible rfl
              try simp only [Act.put, List.setIfInBounds_toArray, List.set_cons_zero, List.set_cons_succ]
              refine wpAnyH_take (i := 18) (oi := ?oi68) (v := ?v68) ?hi68 ?hs68 ?hf68 ?hr68 ?hQ68 (Or.inl ⟨?hw68, ?hy68⟩) (by assumption) ?_
              case hi68 => simp only [List.getElem?_toArray, List.getElem?_cons_succ, List.getElem?_cons_zero]; rfl
              case hs68 => kernel_rfl
              case hf68 => kernel_rfl
              case hr68 => kernel_rfl
              case hQ68 => exact fun _ _ _ h => h
              case hw68 => rfl
              case hy68 => intro w hSw; (try dsimp only at hSw); go_simp; try with_reducible rfl
              try simp only [Act.put, List.setIfInBounds_toArray, List.set_cons_zero, List.set_cons_succ]
              refine wpAnyH_take (i := 19) (oi := ?oi69) (v := ?v69) ?hi69 ?hs69 ?hf69 ?hr69 ?hQ69 (Or.inl ⟨?hw69, ?hy69⟩) (by assumption) ?_
              case hi69 => simp only [List.getElem?_toArray, List.getElem?_cons_succ, List.getElem?_cons_zero]; rfl
              case hs69 => kernel_rfl
              case hf69 => kernel_rfl
              case hr69 => kernel_rfl
              case hQ69 => exact fun _ _ _ h => h
              case hw69 => rfl
              case hy69 => intro w hSw; (try dsimp only at hSw); go_simp; try with_reducible rfl
              try simp only [Act.put, List.setIfInBounds_toArray, List.set_cons_zero, List.set_cons_succ]
              refine wpAnyH_done (by kernel_rfl) ?_ _
              refine NoPanic.normal ?_
              obtain ⟨j1, j2, j3⟩ := hHeld
              have hor := HOR.out
              generalize (shaL z' == zero32) = q at hor ⊢
              go_wp2_with fail
              refine (HC2.out _ j2 j3).mono ?_
              rintro e w8 ⟨rfl, b8⟩
              have hb8 := Below.next j2 b8
              generalize collB X.1 Y.1 = cb at hor ⊢
              cases cb
              · obtain rfl : q = true := by simpa using hor
                go_wp2_with fail
                go_ret
                exact ⟨rfl, hb8⟩
              · go_wp2_with fail
                go_ret
                exact ⟨rfl, hb8⟩
            exact AllReadyH.nil
          exact AllReadyH.nil
        exact AllReadyH.nil
    · have t2 : (X.2 == Y.2) = false := by simpa using hh
      clear hab hh
      go_wp2_with fail
      go_ret
      exact ⟨rfl, hb6⟩
end Go.Proofs.YtednkommpmdikaaDoor
