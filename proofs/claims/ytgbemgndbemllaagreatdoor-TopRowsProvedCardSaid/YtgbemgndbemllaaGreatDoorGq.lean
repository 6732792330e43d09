/- Joined: OrB OrC PrA PrP. -/
import Derived.Test.YtgbemgndbemllaaGreatDoorGp
import Derived.Test.YtgbemgndbemllaaGreatDoorQSeqR
import Derived.Maps.AppendAt
import Derived.Deep.DeepMust
import Derived.Test.YtgbemgndbemllaaGreatDoorGf
import Derived.Deep.AppendLies

section
/- The orders of all tables and columns. -/
namespace Go.Proofs.YtgbemgndbemllaaGreatDoor
open Go Go.RowKit Go.Shelf
attribute [local go_sem] Oper.semAt_some

theorem sums_at (L : List Rw) {i j : Nat} (hi : i < 4) (hj : j < 4) : (sumsS L)[4 * i + j]? = some (sumS L (i : Nat) (j : Nat)) := by
  have h1 : i = 0 ∨ i = 1 ∨ i = 2 ∨ i = 3 := by omega
  have h2 : j = 0 ∨ j = 1 ∨ j = 2 ∨ j = 3 := by omega
  rcases h1 with rfl | rfl | rfl | rfl <;> rcases h2 with rfl | rfl | rfl | rfl <;> rfl

theorem orders_in (b : Nat) (w : World) : Calls Tryz.prog 60 #[.pointer (some ⟨b, 0, none⟩)] w fun e w' => e = .returned (.func (.func 94) #[] #[.pointer (some ⟨w.heap.size, 0, none⟩)]) ∧ w' = w.alloc (.cells #[.pointer (some ⟨b, 0, none⟩)] 30) := by
  go_enter Tryz.func60, Tryz.ntmps60
  go_wp2_with fail
  go_ret
  exact ⟨rfl, rfl⟩

set_option maxRecDepth 100000 in
set_option maxHeartbeats 4000000 in
theorem orders1_in (n : Nat) (hn : 1 ≤ n) (l B1 b m : Nat) (s : StT) (gd : GoodS s) (J : Nat → World → Prop)
    (hbox : ∀ k W, J k W → W.cell? ⟨B1, 0, none⟩ = some (.pointer (some ⟨b, 0, none⟩)) ∧ StAt W b m s)
    (hbel : ∀ k W W', J k W → Below W.heap.size W W' → J k W')
    (hY : ∀ (i j : Nat) W rv ev, i < 4 → j < 4 → J (4 * i + j) W → OrdOwn W 0 s.rows i j rv ev → YieldAt Fence.wide (n - 1) Tryz.prog l #[.agg #[rv, ev]] W fun e W' => e = .returned (.bool true) ∧ J (4 * i + j + 1) W')
    (W : World) (h0 : J 0 W) :
    CallsIn Fence.wide n Tryz.prog 94 #[.func (.yield l) #[] #[], .pointer (some ⟨B1, 0, none⟩)] W fun e W' => (∃ v, e = .returned v) ∧ J 16 W' := by
  refine callsIn_of_wp Tryz.func94 rfl trivial ?_ rfl
  simp only [Tryz.ntmps94, List.size_toArray, List.length_cons, List.length_nil, Nat.reduceAdd, Nat.reduceSub, Array.replicate_succ, Array.replicate_zero, List.push_toArray, List.append_toArray, List.nil_append, List.cons_append]
  have HY := Lib.hid hY
  have HBX := Lib.hid hbox
  have HBL := Lib.hid hbel
  have H0 := Lib.hid h0
  clear hY hbox hbel h0
  gi_wp2
  gi_loopw [5] (fun iv wr => ∃ i : Nat, i ≤ 4 ∧ iv = .int .i64 i ∧ Hid (J (4 * i) wr)) (fun iv _ => 4 - (intOf iv).toNat)
  case atStart => exact ⟨0, by omega, rfl, H0⟩
  case round =>
    clear H0
    obtain ⟨i, hi, rfl, hJ⟩ := hrel
    by_cases him : i < 4
    · have t1 : decide ((i : Int) < 4) = true := by simp; omega
      obtain ⟨wz, rfl⟩ : ∃ wz : World, wz = wr := ⟨_, rfl⟩
      gi_wp2
      gi_loopw [8] (fun iv wr => ∃ j : Nat, j ≤ 4 ∧ iv = .int .i64 j ∧ Hid (J (4 * i + j) wr)) (fun iv _ => 4 - (intOf iv).toNat)
      case atStart => exact ⟨0, by omega, rfl, hJ⟩
      case round =>
        clear hJ
        obtain ⟨j, hj, rfl, hJ⟩ := hrel
        by_cases hjm : j < 4
        · have t2 : decide ((j : Int) < 4) = true := by simp; omega
          obtain ⟨c1, hS⟩ := HBX.out _ wr hJ.out
          have hord := orderOf_ok b m s (i : Nat) (j : Nat) (by omega) (by omega) wr hS gd
          have HO := Lib.hid hord
          clear hord hS
          gi_wp2
          refine ⟨trivial, ?_⟩
          refine (callsIn_wide.2 (HO.out)).mono ?_
          rintro e w2 ⟨rv, ev, rfl, own2, b2⟩
          have hJ2 := HBL.out _ wr w2 hJ.out b2
          obtain ⟨fn, tmps, assign, body, hy2, hR⟩ := HY.out i j w2 rv ev him hjm hJ2 (own2.mono (Nat.zero_le _))
          clear own2 b2 HO c1
          have HR := Lib.hid hR
          clear hR
          gi_wp2
          refine HR.out.mono ?_
          rintro e W' ⟨rfl, hJ'⟩
          have HJ' := Lib.hid hJ'
          clear hJ' hJ2 hy2 HR
          gi_wp2
          exact ⟨⟨j + 1, by omega, by go_num, HJ'⟩, by simp [intOf]; omega⟩
        · have t2 : decide ((j : Int) < 4) = false := by simp; omega
          obtain rfl : j = 4 := by omega
          gi_wp2
          exact ⟨⟨i + 1, by omega, by go_num, by rw [show 4 * (i + 1) = 4 * i + 4 by omega]; exact hJ⟩, by simp [intOf]; omega⟩
    · have t1 : decide ((i : Int) < 4) = false := by simp; omega
      obtain rfl : i = 4 := by omega
      gi_wp2
      go_end0
      exact ⟨⟨_, rfl⟩, hJ.out⟩
end Go.Proofs.YtgbemgndbemllaaGreatDoor
end

section
/- The summaries of a state, and its root. -/
namespace Go.Proofs.YtgbemgndbemllaaGreatDoor
open Go Go.RowKit Go.Shelf
attribute [local go_sem] Oper.semAt_some

theorem ownsRow_not_loop {w : World} {base : Nat} {e : TypeId} {size : Nat} {v : Value} {n : Nat} {xs : List Value} (h : w.ownsRow base e size v n xs) {k : Nat} (hk : v.ownBlock = some k) {r : Loop} (hl : w.heap[k]? = some (.loop r)) : False := by
  rcases h.2 with ⟨rfl, _⟩ | ⟨g, cap, cur, rfl, _, hg, _⟩
  · simp [Value.ownBlock] at hk
  · obtain rfl : g = k := by simpa [Value.ownBlock] using hk
    rw [hl] at hg; cases hg
theorem ownsRow_not_def {w : World} {base : Nat} {e : TypeId} {size : Nat} {v : Value} {n : Nat} {xs : List Value} (h : w.ownsRow base e size v n xs) {k : Nat} (hk : v.ownBlock = some k) {r : Option (List Deferred)} (hl : w.heap[k]? = some (.deferred r)) : False := by
  rcases h.2 with ⟨rfl, _⟩ | ⟨g, cap, cur, rfl, _, hg, _⟩
  · simp [Value.ownBlock] at hk
  · obtain rfl : g = k := by simpa [Value.ownBlock] using hk
    rw [hl] at hg; cases hg

/-- Between two rounds of summaries. -/
structure SmJ (w : World) (rec : Loop) (B1 b m D L : Nat) (s : StT) (pre : List (List UInt8)) (W : World) : Prop where
  rl : W.heap[L]? = some (.loop rec)
  rk : W.heap[D]? = some (.deferred (some []))
  box : ∃ v, Boxed W w.heap.size 43 v ∧ W.ownsRow w.heap.size 9 1 v pre.length (svs pre)
  ptr : Boxed W B1 30 (.pointer (some ⟨b, 0, none⟩))
  below : Below w.heap.size w W
theorem SmJ.later {w : World} {rec : Loop} {B1 b m D L : Nat} {s : StT} {pre : List (List UInt8)} {W W' : World} (h : SmJ w rec B1 b m D L s pre W) (hb : Below W.heap.size W W') : SmJ w rec B1 b m D L s pre W' := by
  obtain ⟨v, h1, h2⟩ := h.box
  exact ⟨(hb.block L (cellsBlock_size h.rl)).trans h.rl, (hb.block D (cellsBlock_size h.rk)).trans h.rk, ⟨v, (hb.block _ h1.lt).trans h1, ownsRow_below hb h2⟩, (hb.block _ h.ptr.lt).trans h.ptr, Below.next h.below hb⟩

set_option maxRecDepth 100000 in
set_option maxHeartbeats 8000000 in
theorem summaries_ok {b m : Nat} {s : StT} {w : World} (hS : StAt w b m s) (gd : GoodS s) (hR : RoundOk w) :
    Calls Tryz.prog 26 #[.pointer (some ⟨b, 0, none⟩)] w fun e w' => ∃ v, e = .returned v ∧ w'.ownsRow w.heap.size 9 1 v 16 (svs (sumsS s.rows)) ∧ Below w.heap.size w w' := by
  obtain ⟨i0, hi, hz0, hz1, hz2⟩ := info_str
  have HST := Lib.hid hS
  have HRO := Lib.hid hR
  have HGD := Lib.hid gd
  clear hS hR
  refine (callsIn_wide (n := 3)).1 ?_
  refine callsIn_of_wp_marks Tryz.func26 rfl trivial ?_ rfl
  simp only [Tryz.ntmps26, List.size_toArray, List.length_cons, List.length_nil, Nat.reduceAdd, Nat.reduceSub, Array.replicate_succ, Array.replicate_zero, List.push_toArray, List.append_toArray, List.nil_append, List.cons_append]
  gi_wp2
  refine ⟨trivial, ?_⟩
  refine (callsIn_wide.2 (orders_in b _)).mono ?_
  rintro e w3 ⟨rfl, hw3⟩
  gi_wp2
  refine rangeFunc_raw rfl (by omega) (gf := 94) (lb := #[.pointer (some ⟨w.heap.size + 1, 0, none⟩)]) rfl trivial (enters_of Tryz.func94 (by kernel_rfl) rfl) ?_
  intro fn hfn rec D L W1 hrec hD hL hW1
  have hs1 : W1.heap.size = w.heap.size + 4 := by rw [hW1]; simp
  simp only [World.size_alloc] at hD
  have hD2 : D = w.heap.size + 2 := by omega
  refine (orders1_in (3 - 1) (by omega) L (w.heap.size + 1) b m s HGD.out (fun k W => SmJ w (rec .ready none) (w.heap.size + 1) b m D L s ((sumsS s.rows).take k) W) ?hbox ?hbel ?hY W1 ?h0).mono ?hend
  case hbox =>
    intro k W hJ
    exact ⟨hJ.ptr.cell, HST.out.below hJ.below⟩
  case hbel => intro k W W' hJ hb; exact hJ.later hb
  case h0 =>
    clear hrec
    refine ⟨?_, ?_, ⟨.slice none 0 0, ?_, World.ownsRow_nil _ _ _ _⟩, ?_, ?_⟩
    · rw [hW1, hL, hD]
      have := World.alloc_heap_new (((w.alloc (.cells #[.slice none 0 0] 43)).alloc (.cells #[.pointer (some ⟨b, 0, none⟩)] 30)).alloc (.deferred (some []))) (.loop (rec .ready none))
      simpa only [World.size_alloc] using this
    · rw [hW1, hD]
      have := World.alloc_heap_new ((w.alloc (.cells #[.slice none 0 0] 43)).alloc (.cells #[.pointer (some ⟨b, 0, none⟩)] 30)) (.deferred (some []))
      simp only [World.size_alloc] at this
      exact (Below.heap_alloc _ _ _ (by simp)).trans this
    · rw [hW1]; exact (((Boxed.new w _ _).alloc _).alloc _).alloc _
    · have := Boxed.new (w.alloc (.cells #[.slice none 0 0] 43)) 30 (.pointer (some ⟨b, 0, none⟩))
      rw [World.size_alloc] at this
      rw [hW1]; exact (this.alloc _).alloc _
    · rw [hW1]; exact ((((Below.refl _ w).alloc (Nat.le_refl _) _).alloc (by simp) _).alloc (by simp; omega) _).alloc (by simp; omega) _
  case hY =>
    intro i j W rv ev hi4 hj4 hJ hown
    have hat := sums_at s.rows hi4 hj4
    have hnx : (sumsS s.rows).take (4 * i + j + 1) = (sumsS s.rows).take (4 * i + j) ++ [sumS s.rows (i : Nat) (j : Nat)] := by
      rw [List.take_add_one, hat]
      rfl
    have hkl : ((sumsS s.rows).take (4 * i + j)).length ≤ 16 := by rw [List.length_take, sumsS_len]; omega
    obtain ⟨pre, hpre⟩ : ∃ pre, pre = (sumsS s.rows).take (4 * i + j) := ⟨_, rfl⟩
    rw [← hpre] at hJ hnx hkl
    rw [hnx]
    obtain ⟨rA, rc, rfl, -, -, -⟩ := ownsRow_form hown.rows
    obtain ⟨eA, ec, rfl, -, -, -⟩ := ownsRow_form hown.ents
    have htl := tab_len s HGD.out (i : Nat) (j : Nat)
    have hput := fun W' => putInt_ok (((tabS s.rows (i : Nat) (j : Nat)).length : Nat) : Int) (by omega) (by omega) W'
    have hlN := putL_len (((tabS s.rows (i : Nat) (j : Nat)).length : Nat) : Int)
    have hents : ∀ x ∈ entsS s.rows (i : Nat) (j : Nat), x.length ≤ 50 := fun x hx => by
      unfold entsS at hx
      rw [List.mem_map] at hx
      obtain ⟨y, _, rfl⟩ := hx
      exact encRow_len y
    have hroot : ∀ W', ListAt W' (.slice eA (tabS s.rows (i : Nat) (j : Nat)).length ec) (entsS s.rows (i : Nat) (j : Nat)) → Below w.heap.size w W' → Calls Tryz.prog 25 #[.slice eA (tabS s.rows (i : Nat) (j : Nat)).length ec] W' fun e w' => e = .returned (.string (str (rootL (entsS s.rows (i : Nat) (j : Nat))))) ∧ Below W'.heap.size W' w' := fun W' hv hb =>
      root_list _ _ W' hv (by rw [entsS_len]; omega) (fun x hx => by have := hents x hx; omega) (HRO.out.later hb)
    have hEn := hown.ents
    rw [show (tabS s.rows (i : Nat) (j : Nat)).length = (entsS s.rows (i : Nat) (j : Nat)).length from (entsS_len _ _ _).symm] at hEn
    have hSum : sumS s.rows (i : Nat) (j : Nat) = putL (((tabS s.rows (i : Nat) (j : Nat)).length : Nat) : Int) ++ rootL (entsS s.rows (i : Nat) (j : Nat)) := rfl
    have hrl := rootL_len (entsS s.rows (i : Nat) (j : Nat))
    rw [hSum]
    have hEs := entsS_len s.rows (i : Nat) (j : Nat)
    generalize entsS s.rows (i : Nat) (j : Nat) = EN at *
    obtain ⟨N, hN⟩ : ∃ N, N = (tabS s.rows (i : Nat) (j : Nat)).length := ⟨_, rfl⟩
    rw [← hN] at htl hput hlN hroot hEs ⊢
    rw [hEs] at hEn
    obtain ⟨PN, hPN⟩ : ∃ P, P = putL ((N : Nat) : Int) := ⟨_, rfl⟩
    obtain ⟨RT, hRT⟩ : ∃ P, P = rootL EN := ⟨_, rfl⟩
    rw [← hPN] at hput hlN ⊢
    rw [← hRT] at hroot hrl ⊢
    have s1 : ¬ 9223372036854775807 < PN.length + RT.length := by omega
    have hcat : str PN ++ str RT = str (PN ++ RT) := cat_str _ _
    have HD := Lib.hid hD
    have HL := Lib.hid hL
    have HD2 := Lib.hid hD2
    have HPUT := Lib.hid hput
    have HROOT := Lib.hid hroot
    have HEN := Lib.hid hEn
    have HES := Lib.hid hEs
    have HCAT := Lib.hid hcat
    clear hD hL hD2 hW1 hs1 hnx hpre hat hown hput hlN hroot hents hEn hSum hrl hcat hPN hRT hN hEs
    have HR := Lib.hid hrec
    refine yield_raw hfn hrec hJ.rl rfl ?_
    clear hrec
    simp only [List.zip_toArray, List.zip_cons_cons, List.zip_nil_right, List.foldl_toArray', List.foldl_cons, List.foldl_nil, List.setIfInBounds_toArray, List.set]
    gi_wp2
    obtain ⟨WA, hWA⟩ : ∃ WA, WA = W.alloc (.cells #[.slice rA N rc, .slice eA N ec] 95) := ⟨_, rfl⟩
    have aA : Below W.heap.size W WA := by rw [hWA]; exact Below.alloc1 _ _
    have KA : BlkIs WA W.heap.size 95 [.slice rA N rc, .slice eA N ec] := by rw [hWA]; exact BlkIs.new W _ _
    have hJA := hJ.later aA
    have hEA := ownsRow_later aA HEN.out
    have hwW := hJ.below.size
    obtain ⟨no, hno⟩ : ∃ no, no = W.heap.size := ⟨_, rfl⟩
    rw [← hno] at KA ⊢
    rw [← hWA]
    refine ⟨hJA.rl, ?_⟩
    obtain ⟨u, hu, hr⟩ := hJA.box
    have hLD := HL.out
    have hDD := HD.out
    have hD2 := HD2.out
    have hwno : w.heap.size + 3 < no := by
      have := cellsBlock_size hJ.rl
      omega
    clear hWA aA hJ hno HEN hwW
    obtain ⟨W2, hW2⟩ : ∃ W2, W2 = WA.putObj L (.loop (rec .busy none)) := ⟨_, rfl⟩
    rw [← hW2]
    have hl2 : W2.heap[L]? = some (.loop (rec .busy none)) := by rw [hW2]; exact World.putObj_heap_same (cellsBlock_size hJA.rl)
    have hk2 : W2.heap[D]? = some (.deferred (some [])) := by rw [hW2]; exact (World.putObj_heap_other (by omega)).trans hJA.rk
    have hg2 : WA.grownBy W2 (some L) := by rw [hW2]; exact grownBy_putObj' _ _ _
    have hu2 : Boxed W2 w.heap.size 43 u := hu.kept hg2 (by intro e; cases e; omega)
    have hp2 : Boxed W2 (w.heap.size + 1) 30 (.pointer (some ⟨b, 0, none⟩)) := hJA.ptr.kept hg2 (by intro e; cases e; omega)
    have hb2 : Below w.heap.size w W2 := by rw [hW2]; exact below_putObj hJA.below _ (by omega) hJA.below.size
    have hr2 : W2.ownsRow w.heap.size 9 1 u pre.length (svs pre) := by rw [hW2]; exact ownsRow_putObj hr _ hJA.rl rfl
    have hE2 : W2.ownsRow 0 9 1 (.slice eA N ec) N (svs EN) := by rw [hW2]; exact ownsRow_putObj hEA _ hJA.rl rfl
    have K2 : BlkIs W2 no 95 [.slice rA N rc, .slice eA N ec] := KA.kept hg2 (by intro e; cases e; omega)
    clear hW2 hg2 hu hr hJA hEA KA
    have c1 : W2.cell? ⟨no, 1, none⟩ = some (.slice eA N ec) := K2.cell 1
    have hltn := K2.lt
    gi_wp2
    refine ⟨trivial, ?_⟩
    refine (CallsIn.inRound L (callsIn_wide.2 (HPUT.out W2))).mono ?_
    rintro e W3 ⟨rfl, b3⟩
    have hl3 := (b3.block L (cellsBlock_size hl2)).trans hl2
    have hk3 := (b3.block D (cellsBlock_size hk2)).trans hk2
    have hu3 : Boxed W3 w.heap.size 43 u := (b3.block _ hu2.lt).trans hu2
    have hp3 : Boxed W3 (w.heap.size + 1) 30 (.pointer (some ⟨b, 0, none⟩)) := (b3.block _ hp2.lt).trans hp2
    have hb3 := Below.next hb2 b3
    have hr3 := ownsRow_later b3 hr2
    have hE3 := ownsRow_later b3 hE2
    have K3 := K2.later b3
    clear hl2 hk2 hu2 hp2 hb2 hr2 hE2 K2 b3 c1 hltn
    gi_wp2
    have hl4 : W3.drew.heap[L]? = some (.loop (rec .busy none)) := hl3
    have hk4 : W3.drew.heap[D]? = some (.deferred (some [])) := hk3
    have hu4 : Boxed W3.drew w.heap.size 43 u := hu3
    have hp4 : Boxed W3.drew (w.heap.size + 1) 30 (.pointer (some ⟨b, 0, none⟩)) := hp3
    have hb4 : Below w.heap.size w W3.drew := hb3.drew
    have hr4 : W3.drew.ownsRow w.heap.size 9 1 u pre.length (svs pre) := hr3
    have hE4 : W3.drew.ownsRow 0 9 1 (.slice eA N ec) N (svs EN) := hE3
    have K4 : BlkIs W3.drew no 95 [.slice rA N rc, .slice eA N ec] := K3
    rw [← HES.out] at hE4
    have hroot4 := HROOT.out W3.drew (HES.out ▸ listAt_own hE4) hb4
    have HROOT4 := Lib.hid hroot4
    clear hl3 hk3 hu3 hp3 hb3 hr3 hE3 K3 hE4 hroot4
    refine wpIn_region_ordF (fun W => W.cell? ⟨w.heap.size, 0, none⟩ = some u ∧ W.cell? ⟨no, 1, none⟩ = some (.slice eA N ec)) 7 1 1 [(0, false), (2, false), (3, false), (4, true), (5, true), (6, true), (7, true)] (oi := ?oi1) (v := ?v1) (by kernel_rfl) rfl ?hi1 (by decide) rfl ?hsel1 ?hsink1 ?hchain1 (by decide) ?hf1 ?hr1 ?hok1 ?hd1 (Or.inl ⟨?hw1, ?hy1⟩) (⟨hu4.cell, K4.cell 1⟩) (fun hHeld => ?_)
    case hi1 => simp only [List.getElem?_toArray, List.getElem?_cons_succ, List.getElem?_cons_zero]; rfl
    case hsel1 => kernel_rfl
    case hsink1 => kernel_rfl
    case hchain1 => kernel_rfl
    case hf1 => kernel_rfl
    case hr1 => kernel_rfl
    case hok1 => kernel_rfl
    case hd1 => rfl
    case hw1 => rfl
    case hy1 => intro w; go_simp; try with_reducible rfl
    try simp only [Act.put, List.setIfInBounds_toArray, List.set_cons_zero, List.set_cons_succ]
    repeat (
      apply SeqF.take0
      case ho => exact rfl
      case hg => exact rfl
      case hy => (intro w hSw; (try dsimp only at hSw); go_simp; try with_reducible rfl)
      try simp only [Act.put, List.setIfInBounds_toArray, List.set_cons_zero, List.set_cons_succ])
    apply SeqF.step0
    case ho => exact rfl
    case hg => exact rfl
    intro K hK
    go_simp
    go_at_call 25
    with_reducible refine (HROOT4.out).mono ?_
    rintro e W5 ⟨rfl, b5⟩
    have hl5 := (b5.block L (cellsBlock_size hl4)).trans hl4
    have hk5 := (b5.block D (cellsBlock_size hk4)).trans hk4
    have hu5 : Boxed W5 w.heap.size 43 u := (b5.block _ hu4.lt).trans hu4
    have hp5 : Boxed W5 (w.heap.size + 1) 30 (.pointer (some ⟨b, 0, none⟩)) := (b5.block _ hp4.lt).trans hp4
    have hb5 := Below.next hb4 b5
    have hr5 := ownsRow_later b5 hr4
    have K5 := K4.later b5
    clear hl4 hk4 hu4 hp4 hb4 hr4 K4 b5
    refine hK.out _ _ ⟨hu5.cell, K5.cell 1⟩ (fun _ => ?_)
    clear hK K
    try simp only [Act.put, List.setIfInBounds_toArray, List.set_cons_zero, List.set_cons_succ]
    repeat (
      apply SeqF.take0
      case ho => exact rfl
      case hg => exact rfl
      case hy => (intro w hSw; (try dsimp only at hSw); go_simp; try with_reducible rfl)
      try simp only [Act.put, List.setIfInBounds_toArray, List.set_cons_zero, List.set_cons_succ])
    apply SeqF.step0
    case ho => exact rfl
    case hg => exact rfl
    intro K hK
    go_simp
    rw [HCAT.out]
    have b6 := Below.alloc1 W5 (.cells #[.string (str (PN ++ RT))] 9)
    have hl6 := (b6.block L (cellsBlock_size hl5)).trans hl5
    have hk6 := (b6.block D (cellsBlock_size hk5)).trans hk5
    have hu6 : Boxed (W5.alloc (.cells #[.string (str (PN ++ RT))] 9)) w.heap.size 43 u := (b6.block _ hu5.lt).trans hu5
    have hp6 : Boxed (W5.alloc (.cells #[.string (str (PN ++ RT))] 9)) (w.heap.size + 1) 30 (.pointer (some ⟨b, 0, none⟩)) := (b6.block _ hp5.lt).trans hp5
    have hb6 := Below.next hb5 b6
    have hr6 := ownsRow_later b6 hr5
    have K6 := K5.later b6
    have N6 := BlkIs.new W5 9 #[.string (str (PN ++ RT))]
    generalize W5.alloc (.cells #[.string (str (PN ++ RT))] 9) = W6 at *
    clear hl5 hk5 hu5 hp5 hb5 hr5 K5 b6
    refine hK.out _ _ ⟨hu6.cell, K6.cell 1⟩ (fun _ => ?_)
    clear hK K
    try simp only [Act.put, List.setIfInBounds_toArray, List.set_cons_zero, List.set_cons_succ]
    apply SeqF.step0
    case ho => exact rfl
    case hg => exact rfl
    intro K hK
    have hle6 := hb6.size
    refine wp_append_lies W6 (.tmp 17) (.tmp 23) 43 (by rfl) w.heap.size 9 i0 (.string ⟨#[]⟩) 1 16 Tryz.underlying43 hi hz0 hz1 hz2 rfl (by decide) u pre.length (svs pre) (by rfl) hr6 ⟨W5.heap.size, 0, none⟩ 1 1 [.string (str (PN ++ RT))] (by rfl) rfl (blk_news N6 0 _ rfl) (by simp [Value.oneCell']) (by decide) (by unfold maxLen; omega) (by omega) hle6 _ rfl ?_
    intro g7 c7 W7 own7 gr7 hat7 hlt7
    have hu7 : Boxed W7 w.heap.size 43 u := hu6.kept gr7 (hu6.not_row (by decide) hr6)
    have hp7 : Boxed W7 (w.heap.size + 1) 30 (.pointer (some ⟨b, 0, none⟩)) := hp6.kept gr7 (hp6.not_row (by decide) hr6)
    have K7 : BlkIs W7 no 95 [.slice rA N rc, .slice eA N ec] := K6.kept gr7 (K6.not_row (by decide) hr6)
    have hl7 : W7.heap[L]? = some (.loop (rec .busy none)) := (gr7.block L (cellsBlock_size hl6) (fun e => ownsRow_not_loop hr6 e.symm hl6)).trans hl6
    have hk7 : W7.heap[D]? = some (.deferred (some [])) := (gr7.block D (cellsBlock_size hk6) (fun e => ownsRow_not_def hr6 e.symm hk6)).trans hk6
    have hb7 := Below.grown hb6 gr7 hle6 (fun k e => own_ge hr6 e)
    refine hK.out _ _ ⟨hu7.cell, K7.cell 1⟩ (fun _ => ?_)
    clear hK K
    try simp only [Act.put, List.setIfInBounds_toArray, List.set_cons_zero, List.set_cons_succ]
    refine SeqF.done ?_
    simp only [List.drop_succ_cons, List.drop_zero]
    clear hu6 hp6 K6 hl6 hk6 hb6 hr6 N6 gr7 hat7 hlt7 hle6
    have z0 := hu7.cell
    have f0 := hu7.frozen
    go_wp2_with fail
    refine OnlyN.normal ?_
    gi_wp2
    have hl8 : (W7.setCell ⟨w.heap.size, 0, none⟩ (.slice (some ⟨g7, 0, none⟩) (pre.length + 1) c7)).heap[L]? = some (.loop (rec .busy none)) := (Below.heap_setCell W7 ⟨w.heap.size, 0, none⟩ _ L (by show L ≠ w.heap.size; omega)).trans hl7
    have hk8 : (W7.setCell ⟨w.heap.size, 0, none⟩ (.slice (some ⟨g7, 0, none⟩) (pre.length + 1) c7)).heap[D]? = some (.deferred (some [])) := (Below.heap_setCell W7 ⟨w.heap.size, 0, none⟩ _ D (by show D ≠ w.heap.size; omega)).trans hk7
    have hu8 := Boxed.set (.slice (some ⟨g7, 0, none⟩) (pre.length + 1) c7) hu7
    have hn7 := hu7.not_row (by decide) own7
    have own8 := ownsRow_set own7 ⟨w.heap.size, 0, none⟩ (.slice (some ⟨g7, 0, none⟩) (pre.length + 1) c7) (fun k e heq => hn7 (by rw [e]; exact congrArg some heq.symm))
    have hp8 : Boxed (W7.setCell ⟨w.heap.size, 0, none⟩ (.slice (some ⟨g7, 0, none⟩) (pre.length + 1) c7)) (w.heap.size + 1) 30 (.pointer (some ⟨b, 0, none⟩)) := (Below.heap_setCell W7 ⟨w.heap.size, 0, none⟩ _ (w.heap.size + 1) (by show w.heap.size + 1 ≠ w.heap.size; omega)).trans hp7
    have hb8 := hb7.setCell (p := ⟨w.heap.size, 0, none⟩) (Nat.le_refl _) (.slice (some ⟨g7, 0, none⟩) (pre.length + 1) c7)
    generalize W7.setCell ⟨w.heap.size, 0, none⟩ (.slice (some ⟨g7, 0, none⟩) (pre.length + 1) c7) = W8 at *
    refine roundPost_normal HR.out hl8 ⟨rfl, ?_⟩
    refine ⟨World.putObj_heap_same (cellsBlock_size hl8), (World.putObj_heap_other (by omega)).trans hk8, ⟨_, hu8.kept (grownBy_putObj' _ _ _) (by intro e; cases e; omega), ?_⟩, hp8.kept (grownBy_putObj' _ _ _) (by intro e; cases e; omega), below_putObj hb8 _ (by omega) hb8.size⟩
    have hr9 := ownsRow_putObj own8 (.loop (rec .ready none)) hl8 rfl
    rw [List.length_append, List.length_singleton, svs_snoc]
    exact hr9
  case hend =>
    rintro e W2 ⟨⟨v, rfl⟩, hJ⟩
    refine ⟨⟨v, rfl⟩, .ready, none, (fun h => by cases h), hJ.rl, ?_⟩
    clear hrec
    have htk : (sumsS s.rows).take 16 = sumsS s.rows := List.take_of_length_le (by rw [sumsS_len]; exact Nat.le_refl _)
    rw [htk] at hJ
    obtain ⟨u, hu, hr⟩ := hJ.box
    rw [sumsS_len] at hr
    have hu' : Boxed (W2.putObj L (.loop (rec .exhausted none))) w.heap.size 43 u := hu.kept (grownBy_putObj' _ _ _) (by intro e; cases e; omega)
    have hr' := ownsRow_putObj hr (.loop (rec .exhausted none)) hJ.rl rfl
    have hb' : Below w.heap.size w (W2.putObj L (.loop (rec .exhausted none))) := below_putObj hJ.below _ (by omega) hJ.below.size
    have hk' : (W2.putObj L (.loop (rec .exhausted none))).heap[D]? = some (.deferred (some [])) := (World.putObj_heap_other (by omega)).trans hJ.rk
    obtain ⟨gu, cu, rfl, -, -⟩ := World.ownsRow.form hr' (by omega)
    clear hW1 hD hL hw3 hJ hu hr hs1 htk
    have HD := Lib.hid hD2
    clear hD2
    generalize W2.putObj L (.loop (rec .exhausted none)) = W4 at *
    have c0 := hu'.cell
    simp only [rfAct]
    gi_wp2
    refine ⟨by simp, .inl ⟨_, _, rfl, run_takeDeferred hk', ?_⟩⟩
    have hDl : w.heap.size ≤ D := by have := HD.out; omega
    have hr6 := ownsRow_putObj hr' (.deferred none) hk' rfl
    have hb6 := below_putObj hb' (.deferred none) hDl hb'.size
    clear hu' hr' hk' hb' c0
    generalize W4.putObj D (.deferred none) = W6 at *
    refine ⟨_, by simp [results, Tryz.results26, go_sem]; try rfl, ?_⟩
    exact ⟨_, rfl, hr6, hb6⟩

theorem listAt_own' {w : World} {base n : Nat} {v : Value} {l : List (List UInt8)} (h : w.ownsRow base 9 1 v n (svs l)) (hn : n = l.length) : ListAt w v l := by
  subst hn
  exact listAt_own h

set_option maxRecDepth 100000 in
set_option maxHeartbeats 1000000 in
theorem sroot_ok {b m : Nat} {s : StT} {w : World} (hS : StAt w b m s) (gd : GoodS s) (hR : RoundOk w) :
    Calls Tryz.prog 6 #[.pointer (some ⟨b, 0, none⟩)] w fun e w' => e = .returned (.string (str (rootS s.rows))) ∧ Below w.heap.size w w' := by
  have hsum := summaries_ok hS gd hR
  have hroot : ∀ W v, Below w.heap.size w W → ListAt W v (sumsS s.rows) → Calls Tryz.prog 25 #[v] W fun e w' => e = .returned (.string (str (rootS s.rows))) ∧ Below W.heap.size W w' := fun W v hW hv =>
    root_list v (sumsS s.rows) W hv (by rw [sumsS_len]; omega) (fun y hy => by
      unfold sumsS at hy
      rw [List.mem_map] at hy
      obtain ⟨p, _, rfl⟩ := hy
      rw [sumS_len]
      have := putL_len (((tabS s.rows p.1 p.2).length : Nat) : Int)
      omega) (hR.later hW)
  obtain ⟨Q, hQ⟩ : ∃ Q, Q = rootS s.rows := ⟨_, rfl⟩
  rw [← hQ] at hroot ⊢
  have hlen := sumsS_len s.rows
  generalize sumsS s.rows = Lv at *
  have HL := Lib.hid hsum
  have HR := Lib.hid hroot
  have HLN := Lib.hid hlen
  clear hsum hroot hR hS hQ hlen
  go_enter Tryz.func6, Tryz.ntmps6
  go_wp2_with fail
  refine (HL.out).mono ?_
  rintro e w1 ⟨v, rfl, own1, b1⟩
  have hv := listAt_own' own1 HLN.out.symm
  obtain ⟨A, c, rfl⟩ := hv.len
  go_wp2_with fail
  refine (HR.out _ _ b1 hv).mono ?_
  rintro e w2 ⟨rfl, b2⟩
  have hb2 := Below.next b1 b2
  go_wp2_with fail
  go_ret
  exact ⟨rfl, hb2⟩
end Go.Proofs.YtgbemgndbemllaaGreatDoor
end

section
/- Prove's closures: where a range begins and ends in an order. -/
namespace Go.Proofs.YtgbemgndbemllaaGreatDoor
open Go Go.RowKit Go.Shelf
attribute [local go_sem] Oper.semAt_some

/-- exists -/
theorem exists_yes (t c : Int) (h1 : 0 ≤ t) (h2 : t ≤ 3) (h3 : 0 ≤ c) (h4 : c ≤ 3) (w : World) :
    Calls Tryz.prog 34 #[.int .i64 t, .int .i64 c] w fun e w' => e = .returned (.bool true) ∧ w' = w := by
  have t1 : decide (0 ≤ t) = true := by simpa using h1
  have t2 : decide (t < 4) = true := by simp; omega
  have t3 : decide (0 ≤ c) = true := by simpa using h3
  have t4 : decide (c < 4) = true := by simp; omega
  clear h1 h2 h3 h4
  go_enter Tryz.func34, Tryz.ntmps34
  go_wp2_with fail
  go_ret
  exact ⟨rfl, rfl⟩

/-- a predicate on numbers -/
def PredI (g : Nat) (lb : Array Value) (q : Int → Bool) (w : World) : Prop :=
  ∀ (W : World) (v : Int), Below w.heap.size w W → Calls Tryz.prog g (#[.int .i64 v] ++ lb) W fun e w' => e = .returned (.bool (q v)) ∧ Below W.heap.size W w'
theorem PredI.later {g : Nat} {lb : Array Value} {q : Int → Bool} {w w' : World} (h : PredI g lb q w) (hb : Below w.heap.size w w') : PredI g lb q w' := fun W v hW => h W v (Below.next hb hW)

theorem geq_ok (v lo : Int) (bl : Nat) (w : World) (h : w.cell? ⟨bl, 0, none⟩ = some (.int .i64 lo)) :
    Calls Tryz.prog 40 #[.int .i64 v, .pointer (some ⟨bl, 0, none⟩)] w fun e w' => e = .returned (.bool (decide (lo ≤ v))) ∧ w' = w := by
  go_enter Tryz.func40, Tryz.ntmps40
  go_wp2_with fail
  go_ret
  exact ⟨rfl, rfl⟩
theorem gtr_ok (v hi : Int) (bh : Nat) (w : World) (h : w.cell? ⟨bh, 0, none⟩ = some (.int .i64 hi)) :
    Calls Tryz.prog 41 #[.int .i64 v, .pointer (some ⟨bh, 0, none⟩)] w fun e w' => e = .returned (.bool (decide (hi < v))) ∧ w' = w := by
  go_enter Tryz.func41, Tryz.ntmps41
  go_wp2_with fail
  go_ret
  exact ⟨rfl, rfl⟩

set_option maxRecDepth 100000 in
set_option maxHeartbeats 4000000 in
theorem is1_ok (x : Rw) (c : Int) (g bi bc : Nat) (lb : Array Value) (q : Int → Bool) (w : World) (h1 : w.cell? ⟨bi, 0, none⟩ = some (.func (.func g) #[] lb)) (h2 : w.cell? ⟨bc, 0, none⟩ = some (.int .i64 c)) (hp : PredI g lb q w)
    (eg : ∀ args w, (callFunc g args).run Tryz.prog w = .ok (.enter g args) w) :
    Calls Tryz.prog 38 #[rwV x, .pointer (some ⟨bi, 0, none⟩), .pointer (some ⟨bc, 0, none⟩)] w fun e w' => e = .returned (.bool (q (x.val c))) ∧ Below w.heap.size w w' := by
  have hv := fun W => value_below x c W
  generalize x.val c = v at *
  obtain ⟨xt, xk, x0, x1, x2⟩ := x
  have l1 := block_of_cell h1
  have l2 := block_of_cell h2
  dsimp only at l1 l2
  have a1 := Below.alloc1 w (.cells (rwC ⟨xt, xk, x0, x1, x2⟩).toArray 67)
  have K1 := BlkIs.new w 67 (rwC ⟨xt, xk, x0, x1, x2⟩).toArray
  unfold rwV at hv ⊢
  unfold rwC at a1 K1
  dsimp only at hv a1 K1 ⊢
  have HV := Lib.hid hv
  have HA := Lib.hid a1
  obtain ⟨w1, hw1⟩ : ∃ w1, w1 = w.alloc (.cells #[.int .i64 xt, .int .i64 xk, .int .i64 x0, .int .i64 x1, .int .i64 x2] 67) := ⟨_, rfl⟩
  have a1' := a1
  have K1' := K1
  rw [← hw1] at a1' K1'
  have hpp : ∀ (W : World) (v : Int), Below w1.heap.size w1 W → Calls Tryz.prog g (#[.int .i64 v] ++ lb) W fun e w' => e = .returned (.bool (q v)) ∧ Below W.heap.size W w' := fun W v hW => hp W v (Below.next a1' hW)
  have HP := Lib.hid hpp
  have HBOX := Lib.hid (fun (W : World) (hW : Below w1.heap.size w1 W) => (show (fun W => W.cell? ⟨bi, 0, none⟩ = some (.func (.func g) #[] lb) ∧ W.cell? ⟨bc, 0, none⟩ = some (.int .i64 c) ∧ W.cell? ⟨w.heap.size, 0, none⟩ = some (.int .i64 xt) ∧ W.cell? ⟨w.heap.size, 1, none⟩ = some (.int .i64 xk) ∧ W.cell? ⟨w.heap.size, 2, none⟩ = some (.int .i64 x0) ∧ W.cell? ⟨w.heap.size, 3, none⟩ = some (.int .i64 x1) ∧ W.cell? ⟨w.heap.size, 4, none⟩ = some (.int .i64 x2)) W from ⟨(hW.cell (p := ⟨bi, 0, none⟩) (Nat.lt_of_lt_of_le l1 a1'.size)).trans ((a1'.cell (p := ⟨bi, 0, none⟩) l1).trans h1), (hW.cell (p := ⟨bc, 0, none⟩) (Nat.lt_of_lt_of_le l2 a1'.size)).trans ((a1'.cell (p := ⟨bc, 0, none⟩) l2).trans h2), (K1'.later hW).cell 0, (K1'.later hW).cell 1, (K1'.later hW).cell 2, (K1'.later hW).cell 3, (K1'.later hW).cell 4⟩))
  have HW := Lib.hid hw1
  have Z : Below w1.heap.size w1 w1 := Below.refl _ _
  have HA1 := Lib.hid a1'
  clear hv a1 K1 a1' K1' hw1 hp hpp h1 h2 l1 l2 HA
  go_enter Tryz.func38, Tryz.ntmps38
  go_wp2_with fail
  rw [← HW.out]
  replace Z := Below.drew Z
  refine wp_region_noPanic ?_
  refine wp_region_ord (fun W => W.cell? ⟨bi, 0, none⟩ = some (.func (.func g) #[] lb) ∧ W.cell? ⟨bc, 0, none⟩ = some (.int .i64 c) ∧ W.cell? ⟨w.heap.size, 0, none⟩ = some (.int .i64 xt) ∧ W.cell? ⟨w.heap.size, 1, none⟩ = some (.int .i64 xk) ∧ W.cell? ⟨w.heap.size, 2, none⟩ = some (.int .i64 x0) ∧ W.cell? ⟨w.heap.size, 3, none⟩ = some (.int .i64 x1) ∧ W.cell? ⟨w.heap.size, 4, none⟩ = some (.int .i64 x2)) [(0, false), (1, false), (2, false), (3, true), (4, true), (5, true)] (by kernel_rfl) (by as_aux_lemma => kernel_rfl) (by rfl) (by as_aux_lemma => kernel_rfl) (fun _ _ _ _ _ h => h) (HBOX.out _ Z) (fun _ => ?_)
  repeat (first
    | (apply SeqO.take0
       case ho => exact rfl
       case hg => exact rfl
       case hy => (intro w hSw; (try dsimp only at hSw); go_simp; try with_reducible rfl)
       try simp only [Act.put, List.setIfInBounds_toArray, List.set_cons_zero, List.set_cons_succ])
    | (apply SeqO.takeG
       case ho => exact rfl
       case hg => exact rfl
       case hj => exact rfl
       case hd => exact rfl
       case ht => exact rfl
       case hy => (intro w hSw; (try dsimp only at hSw); go_simp; try with_reducible rfl)
       try simp only [Act.put, List.setIfInBounds_toArray, List.set_cons_zero, List.set_cons_succ])
    | (apply SeqO.skipG
       case ho => exact rfl
       case hg => exact rfl
       case hj => exact rfl
       case hd => exact rfl
       case ht => exact rfl
       case hne => exact rfl
       try simp only [Act.put, List.setIfInBounds_toArray, List.set_cons_zero, List.set_cons_succ])
    | (first
       | (apply SeqO.step0
          case ho => exact rfl
          case hg => exact rfl)
       | (apply SeqO.stepG
          case ho => exact rfl
          case hg => exact rfl
          case hj => exact rfl
          case hd => exact rfl
          case ht => exact rfl)
       intro K hK
       go_simp
       first
       | (go_at_call 39; (with_reducible refine (HV.out _).mono ?_); rintro e wx ⟨rfl, bx⟩; replace Z := Below.next Z bx; clear bx; go_wp2_with fail)
       | (go_at_fn g; (with_reducible refine (HP.out _ _ Z).mono ?_); rintro e wx ⟨rfl, bx⟩; replace Z := Below.next Z bx; clear bx; go_wp2_with fail)
       | skip
       | fail
       refine hK.out _ _ ?_ (fun _ => ?_)
       · exact HBOX.out _ Z
       clear hK K
       try simp only [Act.put, List.setIfInBounds_toArray, List.set_cons_zero, List.set_cons_succ]))
  refine SeqO.done ?_
  refine NoPanic.normal ?_
  go_wp2_with fail
  go_ret
  exact ⟨rfl, Below.next HA1.out Z⟩
end Go.Proofs.YtgbemgndbemllaaGreatDoor
end

section
/- A proof of a range, in memory. -/
namespace Go.Proofs.YtgbemgndbemllaaGreatDoor
open Go Go.RowKit Go.Shelf

/-- the nine cells of a proof of a range -/
def pfC (t c lo hi : Int) (n f : Nat) (v1 v2 v3 : Value) : List Value := [.int .i64 t, .int .i64 c, .int .i64 lo, .int .i64 hi, .int .i64 (n : Int), .int .i64 (f : Int), v1, v2, v3]
def pfV (t c lo hi : Int) (n f : Nat) (v1 v2 v3 : Value) : Value := .agg #[.int .i64 t, .int .i64 c, .int .i64 lo, .int .i64 hi, .int .i64 (n : Int), .int .i64 (f : Int), v1, v2, v3]
/-- the paths of the rows that are proved -/
def cutP (L : List Rw) (t c lo hi : Int) : List (List (List UInt8)) := (List.range (cutO (tabS L t c) c lo hi).length).map fun k => proofL (entsS L t c) (fromO (tabS L t c) c lo + k)

/-- v1 is a row of these rows, v2 one of these paths, each in memory of their own from B on -/
structure PfOwn (w : World) (B : Nat) (xs : List Rw) (ps : List (List (List UInt8))) (v1 v2 : Value) : Prop where
  rows : w.ownsRow B 67 5 v1 xs.length (xs.flatMap rwC)
  paths : ∃ pvs : List Value, pvs.length = ps.length ∧ w.ownsRow B 43 1 v2 pvs.length pvs ∧ (∀ (j : Nat) v p, pvs[j]? = some v → ps[j]? = some p → w.ownsRow B 9 1 v p.length (svs p) ∧ ∀ b, v.ownBlock = some b → v1.ownBlock ≠ some b ∧ v2.ownBlock ≠ some b)
  apart : ∀ b, v1.ownBlock = some b → v2.ownBlock ≠ some b
theorem PfOwn.nil (w : World) (B : Nat) : PfOwn w B [] [] (.slice none 0 0) (.slice none 0 0) :=
  ⟨World.ownsRow_nil _ _ _ _, ⟨[], rfl, World.ownsRow_nil _ _ _ _, fun j v p h => by simp at h⟩, fun b h => by simp [Value.ownBlock] at h⟩
theorem PfOwn.later {w w' : World} {B : Nat} {xs : List Rw} {ps : List (List (List UInt8))} {v1 v2 : Value} (h : PfOwn w B xs ps v1 v2) (hb : Below w.heap.size w w') : PfOwn w' B xs ps v1 v2 := by
  obtain ⟨pvs, h1, h2, h3⟩ := h.paths
  exact ⟨ownsRow_later hb h.rows, ⟨pvs, h1, ownsRow_later hb h2, fun j v p hv hp => ⟨ownsRow_later hb (h3 j v p hv hp).1, (h3 j v p hv hp).2⟩⟩, h.apart⟩
theorem PfOwn.mono {w : World} {B B' : Nat} {xs : List Rw} {ps : List (List (List UInt8))} {v1 v2 : Value} (h : PfOwn w B xs ps v1 v2) (hb : B' ≤ B) : PfOwn w B' xs ps v1 v2 := by
  obtain ⟨pvs, h1, h2, h3⟩ := h.paths
  exact ⟨ownsRow_mono h.rows hb, ⟨pvs, h1, ownsRow_mono h2 hb, fun j v p hv hp => ⟨ownsRow_mono (h3 j v p hv hp).1 hb, (h3 j v p hv hp).2⟩⟩, h.apart⟩
theorem PfOwn.set {w : World} {B : Nat} {xs : List Rw} {ps : List (List (List UInt8))} {v1 v2 : Value} (h : PfOwn w B xs ps v1 v2) (p : Addr) (u : Value) (hp : p.block < B) : PfOwn (w.setCell p u) B xs ps v1 v2 := by
  obtain ⟨pvs, h1, h2, h3⟩ := h.paths
  exact ⟨ownsRow_set h.rows p u fun b e => by have := own_ge h.rows e; omega, ⟨pvs, h1, ownsRow_set h2 p u fun b e => by have := own_ge h2 e; omega, fun j v q hv hq => ⟨ownsRow_set (h3 j v q hv hq).1 p u fun b e => by have := own_ge (h3 j v q hv hq).1 e; omega, (h3 j v q hv hq).2⟩⟩, h.apart⟩
/-- one more row -/
theorem PfOwn.row {w w' : World} {B : Nat} {xs : List Rw} {ps : List (List (List UInt8))} {v1 v2 : Value} (h : PfOwn w B xs ps v1 v2) {x : Rw} {g c : Nat} (hown : w'.ownsRow B 67 5 (.slice (some ⟨g, 0, none⟩) (xs.length + 1) c) (xs.length + 1) (xs.flatMap rwC ++ rwC x))
    (gr : w.grownBy w' v1.ownBlock) (hat : v1.ownBlock = some g ∨ g = w.heap.size) : PfOwn w' B (xs ++ [x]) ps (.slice (some ⟨g, 0, none⟩) (xs.length + 1) c) v2 := by
  obtain ⟨pvs, h1, h2, h3⟩ := h.paths
  have key : ∀ b, (∀ b', v1.ownBlock = some b' → b' ≠ b) → b < w.heap.size → (Value.slice (some ⟨g, 0, none⟩) (xs.length + 1) c).ownBlock ≠ some b := by
    intro b hb hlt e
    have e : g = b := Option.some.inj e
    rcases hat with h | h
    · exact hb g h e
    · omega
  refine ⟨by rw [List.length_append, List.flatMap_append]; simpa using hown, ⟨pvs, h1, h2.kept gr ?_, fun j v p hv hp => ?_⟩, fun b e => ?_⟩
  · by_cases hn : v2.ownBlock = none
    · exact .inl hn
    · right
      intro e
      obtain ⟨b, hb⟩ := Option.ne_none_iff_exists'.1 hn
      exact h.apart b (e ▸ hb) hb
  · obtain ⟨k1, k2⟩ := h3 j v p hv hp
    refine ⟨k1.kept gr ?_, fun b hb => ⟨key b (fun b' h' e => (k2 b hb).1 (e ▸ h')) (k1.lt b hb).2, (k2 b hb).2⟩⟩
    by_cases hn : v.ownBlock = none
    · exact .inl hn
    · right
      intro e
      obtain ⟨b, hb⟩ := Option.ne_none_iff_exists'.1 hn
      exact (k2 b hb).1 (e ▸ hb)
  · intro e2
    exact key b (fun b' h' e' => h.apart b' h' (e' ▸ e2)) (h2.lt b e2).2 e
/-- one more path -/
theorem PfOwn.path {w w' : World} {B : Nat} {xs : List Rw} {ps : List (List (List UInt8))} {v1 v2 v : Value} (h : PfOwn w B xs ps v1 v2) {p : List (List UInt8)} {g c : Nat} (hown : w'.ownsRow B 43 1 (.slice (some ⟨g, 0, none⟩) (ps.length + 1) c) (ps.length + 1) (h.paths.choose ++ [v]))
    (gr : w.grownBy w' v2.ownBlock) (hat : v2.ownBlock = some g ∨ g = w.heap.size) (hv : w.ownsRow B 9 1 v p.length (svs p)) (hn : ∀ b, v.ownBlock = some b → v1.ownBlock ≠ some b ∧ v2.ownBlock ≠ some b) :
    PfOwn w' B xs (ps ++ [p]) v1 (.slice (some ⟨g, 0, none⟩) (ps.length + 1) c) := by
  obtain ⟨h1, h2, h3⟩ := h.paths.choose_spec
  generalize h.paths.choose = pvs at *
  have key : ∀ b, (∀ b', v2.ownBlock = some b' → b' ≠ b) → b < w.heap.size → (Value.slice (some ⟨g, 0, none⟩) (ps.length + 1) c).ownBlock ≠ some b := by
    intro b hb hlt e
    have e : g = b := Option.some.inj e
    rcases hat with h | h
    · exact hb g h e
    · omega
  refine ⟨h.rows.kept gr ?_, ⟨pvs ++ [v], by simp [h1], by rw [List.length_append, h1]; exact hown, fun j u q hu hq => ?_⟩, fun b e => key b (fun b' h' e' => h.apart b e (e' ▸ h')) (h.rows.lt b e).2⟩
  · by_cases hn : v1.ownBlock = none
    · exact .inl hn
    · right
      intro e
      obtain ⟨b, hb⟩ := Option.ne_none_iff_exists'.1 hn
      exact h.apart b hb (e ▸ hb)
  · by_cases hj : j < pvs.length
    · rw [List.getElem?_append_left hj] at hu
      rw [List.getElem?_append_left (by omega)] at hq
      obtain ⟨k1, k2⟩ := h3 j u q hu hq
      refine ⟨k1.kept gr ?_, fun b hb => ⟨(k2 b hb).1, key b (fun b' h' e => (k2 b hb).2 (e ▸ h')) (k1.lt b hb).2⟩⟩
      by_cases hn : u.ownBlock = none
      · exact .inl hn
      · right
        intro e
        obtain ⟨b, hb⟩ := Option.ne_none_iff_exists'.1 hn
        exact (k2 b hb).2 (e ▸ hb)
    · have hj2 : j = pvs.length := by
        have := (List.getElem?_eq_some_iff.1 hu).1
        simp at this
        omega
      subst hj2
      rw [List.getElem?_append_right (Nat.le_refl _), Nat.sub_self] at hu
      rw [List.getElem?_append_right (by omega), h1, Nat.sub_self] at hq
      obtain rfl : v = u := by simpa using hu
      obtain rfl : p = q := by simpa using hq
      refine ⟨hv.kept gr ?_, fun b hb => ⟨(hn b hb).1, key b (fun b' h' e => (hn b hb).2 (e ▸ h')) (hv.lt b hb).2⟩⟩
      by_cases hn' : v.ownBlock = none
      · exact .inl hn'
      · right
        intro e
        obtain ⟨b, hb⟩ := Option.ne_none_iff_exists'.1 hn'
        exact (hn b hb).2 (e ▸ hb)

set_option maxRecDepth 100000 in
/-- Proof, in memory of its own -/
theorem proof_own (v : Value) (l : List (List UInt8)) (i : Nat) (w : World) (hv : ListAt w v l) (hl : l.length ≤ 1000000) (hi : i < l.length) (hs : ∀ x ∈ l, x.length ≤ 900000) (hR : RoundOk w) :
    Calls Tryz.prog 30 #[v, .int .i64 i] w fun e w' => ∃ v', e = .returned (.tuple #[v', .int .i64 0]) ∧ w'.ownsRow w.heap.size 9 1 v' (proofL l i).length (svs (proofL l i)) ∧ Below w.heap.size w w' := by
  obtain ⟨g, o, c, rfl, hrow⟩ := hv.rows (by rintro rfl; simp at hi)
  refine (proof_ok g o l.length c l i w hrow hl hi hs hR).mono ?_
  rintro e w' ⟨v', rfl, own, hb⟩
  exact ⟨v', rfl, own, hb⟩
end Go.Proofs.YtgbemgndbemllaaGreatDoor
end

