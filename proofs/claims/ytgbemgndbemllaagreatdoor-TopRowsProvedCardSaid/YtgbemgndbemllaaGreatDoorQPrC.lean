/- Prove. -/
import Derived.Test.YtgbemgndbemllaaGreatDoorQPrB
import Derived.Test.YtgbemgndbemllaaGreatDoorGq
import Derived.Test.YtgbemgndbemllaaGreatDoorGl
import Derived.Deep.DeepCutAuto
import Derived.Deep.CutBlock
namespace Go.Proofs.YtgbemgndbemllaaGreatDoor
open Go Go.RowKit Go.Shelf
attribute [local go_sem] Oper.semAt_some

/-- what Prove keeps, first -/
structure PvA (w : World) (b m no : Nat) (s : StT) (t c lo hi : Int) (rv ev : Value) (W : World) : Prop where
  col : BlkIs W w.heap.size 3 [.int .i64 c]
  low : BlkIs W (w.heap.size + 1) 3 [.int .i64 lo]
  high : BlkIs W (w.heap.size + 1 + 1) 3 [.int .i64 hi]
  res : BlkIs W (w.heap.size + 1 + 1 + 1) 51 [.int .i64 0, .int .i64 0, .int .i64 0, .int .i64 0, .int .i64 0, .int .i64 0, .slice none 0 0, .slice none 0 0, .slice none 0 0]
  ord : BlkIs W no 95 [rv, ev]
  own : OrdOwn W (w.heap.size + 4) s.rows t c rv ev
  st : StAt W b m s
  below : Below w.heap.size w W
theorem PvA.later {w : World} {b m no : Nat} {s : StT} {t c lo hi : Int} {rv ev : Value} {W W' : World} (h : PvA w b m no s t c lo hi rv ev W) (hb : Below W.heap.size W W') : PvA w b m no s t c lo hi rv ev W' :=
  ⟨h.col.later hb, h.low.later hb, h.high.later hb, h.res.later hb, h.ord.later hb, h.own.later hb, h.st.below hb, Below.next h.below hb⟩
theorem PvA.index {w : World} {b m no : Nat} {s : StT} {t c lo hi : Int} {rv ev : Value} {W : World} (h : PvA w b m no s t c lo hi rv ev W) (gd : GoodS s) (g : Nat) (lb : Array Value) (q : Int → Bool) (hp : PredI g lb q W)
    (eg : ∀ args w, (callFunc g args).run Tryz.prog w = .ok (.enter g args) w) :
    Calls Tryz.prog 36 #[.func (.func g) #[] lb, .pointer (some ⟨no, 0, none⟩), .pointer (some ⟨w.heap.size, 0, none⟩)] W fun e w' => e = .returned (.int .i64 (((tabS s.rows t c).findIdx (fun r => q (r.val c)) : Nat) : Int)) ∧ Below W.heap.size W w' :=
  index_ok no w.heap.size c _ rv g lb q W (h.ord.cell 0) (ownsRow_rws h.own.rows) (h.col.cell 0) hp eg (by have := tab_len s gd t c; omega)

theorem sameOn_set (w : World) (p : Addr) (u : Value) : SameOn (fun k => k ≠ p.block) w (w.setCell p u) := SameOn.of_only (T := fun k => k = p.block) (Only.setCell w p u rfl) (fun _ h => h)

/-- .. and the proof that is being made -/
structure PvB (w : World) (b m no np : Nat) (s : StT) (t c lo hi : Int) (n f : Nat) (rv ev v3 : Value) (W0 W : World) : Prop where
  a : PvA w b m no s t c lo hi rv ev W0
  le : W0.heap.size ≤ np
  below : Below W0.heap.size W0 W
  box : BlkIs W np 51 (pfC t c lo hi n f (.slice none 0 0) (.slice none 0 0) v3)
  own : W.ownsRow (w.heap.size + 4) 9 1 v3 16 (svs (sumsS s.rows))
  ne : ∀ k, v3.ownBlock = some k → k ≠ np

/-- between two rounds -/
structure PvC (w W0 : World) (B np : Nat) (s : StT) (t c lo hi : Int) (n f : Nat) (v3 : Value) (k : Nat) (W : World) : Prop where
  below : Below W0.heap.size W0 W
  box : ∃ v1 v2, BlkIs W np 51 (pfC t c lo hi n f v1 v2 v3) ∧ PfOwn W B ((cutO (tabS s.rows t c) c lo hi).take k) ((cutP s.rows t c lo hi).take k) v1 v2
  own : W.ownsRow (w.heap.size + 4) 9 1 v3 16 (svs (sumsS s.rows))
  size : B ≤ W.heap.size

theorem cutP_len (L : List Rw) (t c lo hi : Int) : (cutP L t c lo hi).length = (cutO (tabS L t c) c lo hi).length := by simp [cutP]
theorem cut_take {L : List Rw} {t c lo hi : Int} {k : Nat} {x : Rw} (hx : (tabS L t c)[fromO (tabS L t c) c lo + k]? = some x) (hk : fromO (tabS L t c) c lo + k < toO (tabS L t c) c hi) :
    (cutO (tabS L t c) c lo hi).take (k + 1) = (cutO (tabS L t c) c lo hi).take k ++ [x] ∧ (cutP L t c lo hi).take (k + 1) = (cutP L t c lo hi).take k ++ [proofL (entsS L t c) (fromO (tabS L t c) c lo + k)] := by
  have hc : (cutO (tabS L t c) c lo hi)[k]? = some x := by
    unfold cutO
    rw [List.getElem?_drop, List.getElem?_take, if_pos hk]
    exact hx
  constructor
  · rw [List.take_add_one, hc]
    rfl
  · rw [List.take_add_one]
    have : (cutP L t c lo hi)[k]? = some (proofL (entsS L t c) (fromO (tabS L t c) c lo + k)) := by
      unfold cutP
      rw [List.getElem?_map, List.getElem?_range (List.getElem?_eq_some_iff.1 hc).1]
      rfl
    rw [this]
    rfl

theorem Tryz.infoStrs : (Tryz.prog.info? 43).map (fun i => (i.zero, i.size, i.bytes)) = some (some (.slice none 0 0), 1, 24) := by kernel_rfl
theorem info_strs : ∃ i, Tryz.prog.info? 43 = some i ∧ i.zero = some (.slice none 0 0) ∧ i.size = 1 ∧ i.bytes = 24 := by
  obtain ⟨i0, hi, hz0, hz1, hz2⟩ := info_parts Tryz.infoStrs
  exact ⟨i0, hi, hz0, hz1, hz2⟩
theorem own_other {v v' : Value} {B : Nat} (h1 : ∀ k, v.ownBlock = some k → k < B) (h2 : ∀ k, v'.ownBlock = some k → B ≤ k) : v.ownBlock = none ∨ v.ownBlock ≠ v'.ownBlock := by
  cases h : v.ownBlock with
  | none => exact .inl rfl
  | some b =>
    right
    intro e
    have := h1 b h
    have := h2 b e.symm
    omega
theorem own_apart {v v' : Value} {B : Nat} (h1 : ∀ k, v.ownBlock = some k → B ≤ k) (h2 : ∀ k, v'.ownBlock = some k → k < B) : v.ownBlock = none ∨ v.ownBlock ≠ v'.ownBlock := by
  cases h : v.ownBlock with
  | none => exact .inl rfl
  | some b =>
    right
    intro e
    have := h1 b h
    have := h2 b e.symm
    omega

set_option maxRecDepth 100000 in
set_option maxHeartbeats 16000000 in
theorem prove_ok (b m : Nat) (s : StT) (t c lo hi : Int) (ht1 : 0 ≤ t) (ht2 : t ≤ 3) (hc1 : 0 ≤ c) (hc2 : c ≤ 3) (hlh : lo ≤ hi) (w : World) (hS : StAt w b m s) (gd : GoodS s) (hR : RoundOk w) :
    Calls Tryz.prog 15 #[.pointer (some ⟨b, 0, none⟩), .int .i64 t, .int .i64 c, .int .i64 lo, .int .i64 hi] w fun e w' => ∃ v1 v2 v3, e = .returned (.tuple #[pfV t c lo hi (tabS s.rows t c).length (fromO (tabS s.rows t c) c lo) v1 v2 v3, .int .i64 0]) ∧
      PfOwn w' w.heap.size (cutO (tabS s.rows t c) c lo hi) (cutP s.rows t c lo hi) v1 v2 ∧ w'.ownsRow w.heap.size 9 1 v3 16 (svs (sumsS s.rows)) ∧ Below w.heap.size w w' := by
  obtain ⟨w0, hw0⟩ : ∃ w0, w0 = (((w.alloc (.cells #[.int .i64 c] 3)).alloc (.cells #[.int .i64 lo] 3)).alloc (.cells #[.int .i64 hi] 3)).alloc (.cells #[.int .i64 0, .int .i64 0, .int .i64 0, .int .i64 0, .int .i64 0, .int .i64 0, .slice none 0 0, .slice none 0 0, .slice none 0 0] 51) := ⟨_, rfl⟩
  have a0 : Below w.heap.size w w0 := by
    rw [hw0]
    exact Below.alloc (Below.alloc (Below.alloc (Below.alloc1 w _) (by rw [World.size_alloc]; omega) _) (by rw [World.size_alloc, World.size_alloc]; omega) _) (by rw [World.size_alloc, World.size_alloc, World.size_alloc]; omega) _
  have z0 : w0.heap.size = w.heap.size + 4 := by rw [hw0]; simp [World.size_alloc]
  have K1 : BlkIs w0 w.heap.size 3 [.int .i64 c] := by rw [hw0]; exact BlkIs.alloc (BlkIs.alloc (BlkIs.alloc (BlkIs.new w _ _) _) _) _
  have K2 : BlkIs w0 (w.heap.size + 1) 3 [.int .i64 lo] := by rw [hw0]; exact BlkIs.alloc (BlkIs.alloc (alloc_new_at _ _ _ (by simp [World.size_alloc])) _) _
  have K3 : BlkIs w0 (w.heap.size + 1 + 1) 3 [.int .i64 hi] := by rw [hw0]; exact BlkIs.alloc (alloc_new_at _ _ _ (by simp [World.size_alloc])) _
  have K4 : BlkIs w0 (w.heap.size + 1 + 1 + 1) 51 [.int .i64 0, .int .i64 0, .int .i64 0, .int .i64 0, .int .i64 0, .int .i64 0, .slice none 0 0, .slice none 0 0, .slice none 0 0] := by rw [hw0]; exact alloc_new_at _ _ _ (by simp [World.size_alloc])
  have e36 : ∀ args w, (callFunc 36 args).run Tryz.prog w = .ok (.enter 36 args) w := enters_of Tryz.func36 (by kernel_rfl) rfl
  have e40 : ∀ args w, (callFunc 40 args).run Tryz.prog w = .ok (.enter 40 args) w := enters_of Tryz.func40 (by kernel_rfl) rfl
  have e41 : ∀ args w, (callFunc 41 args).run Tryz.prog w = .ok (.enter 41 args) w := enters_of Tryz.func41 (by kernel_rfl) rfl
  have hex := fun W => exists_yes t c ht1 ht2 hc1 hc2 W
  have hord := orderOf_ok b m s t c hc1 hc2 w0 (hS.below a0) gd
  have t1 : decide (hi < lo) = false := by simpa using hlh
  have c1 : w0.cell? ⟨w.heap.size, 0, none⟩ = some (.int .i64 c) := K1.cell 0
  have c2 : w0.cell? ⟨w.heap.size + 1, 0, none⟩ = some (.int .i64 lo) := K2.cell 0
  have c3 : w0.cell? ⟨w.heap.size + 1 + 1, 0, none⟩ = some (.int .i64 hi) := K3.cell 0
  have HEX := Lib.hid hex
  have HORD := Lib.hid hord
  have HW0 := Lib.hid hw0
  have HK := Lib.hid (And.intro K1 (And.intro K2 (And.intro K3 K4)))
  have HA0 := Lib.hid a0
  have HZ0 := Lib.hid z0
  have HS := Lib.hid hS
  have HG := Lib.hid gd
  have HLH := Lib.hid hlh
  have HR := Lib.hid hR
  have HC := Lib.hid (And.intro hc1 hc2)
  have HE := Lib.hid (And.intro e40 e41)
  have hlt0 : w.heap.size + 3 < w0.heap.size := by omega
  clear hex hord a0 z0 K1 K2 K3 K4 hS gd hR ht1 ht2 hc1 hc2 hlh hw0 e40 e41
  go_enter Tryz.func15, Tryz.ntmps15
  go_wp2_with fail
  rw [← HW0.out]
  refine (HEX.out w0).mono ?_
  rintro e w0' ⟨rfl, rfl⟩
  go_wp2_with fail
  refine (HORD.out).mono ?_
  rintro e w1 ⟨rv, ev, rfl, own1, b1⟩
  obtain ⟨rA, rc, rfl, -, -, -⟩ := ownsRow_form own1.rows
  obtain ⟨eA, ec, rfl, -, -, -⟩ := ownsRow_form own1.ents
  have hA2 : PvA w b m w1.heap.size s t c lo hi (.slice rA (tabS s.rows t c).length rc) (.slice eA (tabS s.rows t c).length ec) (w1.alloc (.cells #[.slice rA (tabS s.rows t c).length rc, .slice eA (tabS s.rows t c).length ec] 95)) := by
    have b2 := Below.alloc1 w1 (.cells #[.slice rA (tabS s.rows t c).length rc, .slice eA (tabS s.rows t c).length ec] 95)
    have b02 := Below.next b1 b2
    obtain ⟨K1, K2, K3, K4⟩ := HK.out
    refine ⟨K1.later b02, K2.later b02, K3.later b02, K4.later b02, BlkIs.new w1 _ _, (own1.later b2).mono (by rw [HZ0.out]; exact Nat.le_refl _), (HS.out.below HA0.out).below b02, Below.next HA0.out b02⟩
  obtain ⟨no, hno⟩ : ∃ no, no = w1.heap.size := ⟨_, rfl⟩
  obtain ⟨w2, hw2⟩ : ∃ w2, w2 = w1.alloc (.cells #[.slice rA (tabS s.rows t c).length rc, .slice eA (tabS s.rows t c).length ec] 95) := ⟨_, rfl⟩
  have hz2 : no < w2.heap.size := by rw [hw2, hno, World.size_alloc]; omega
  have hno4 : w.heap.size + 4 ≤ no := by rw [hno, ← HZ0.out]; exact b1.size
  rw [← hw2, ← hno] at hA2
  have HA2 := Lib.hid hA2
  have HW2 := Lib.hid hw2
  have HNO := Lib.hid hno
  have hi2 := fun (W : World) (hW : PvA w b m no s t c lo hi (.slice rA (tabS s.rows t c).length rc) (.slice eA (tabS s.rows t c).length ec) W) => hW.index HG.out 40 #[.pointer (some ⟨w.heap.size + 1, 0, none⟩)] (fun v => decide (lo ≤ v)) (fun W' v hW' => (geq_ok v lo (w.heap.size + 1) W' ((hW.low.later hW').cell 0)).mono (by rintro e w' ⟨rfl, rfl⟩; exact ⟨rfl, Below.refl _ _⟩)) HE.out.1
  have hi3 := fun (W : World) (hW : PvA w b m no s t c lo hi (.slice rA (tabS s.rows t c).length rc) (.slice eA (tabS s.rows t c).length ec) W) => hW.index HG.out 41 #[.pointer (some ⟨w.heap.size + 1 + 1, 0, none⟩)] (fun v => decide (hi < v)) (fun W' v hW' => (gtr_ok v hi (w.heap.size + 1 + 1) W' ((hW.high.later hW').cell 0)).mono (by rintro e w' ⟨rfl, rfl⟩; exact ⟨rfl, Below.refl _ _⟩)) HE.out.2
  obtain ⟨I1, hI1⟩ : ∃ I, I = (tabS s.rows t c).findIdx (fun r => decide (lo ≤ r.val c)) := ⟨_, rfl⟩
  obtain ⟨I2, hI2⟩ : ∃ I, I = (tabS s.rows t c).findIdx (fun r => decide (hi < r.val c)) := ⟨_, rfl⟩
  rw [← hI1] at hi2
  rw [← hI2] at hi3
  obtain ⟨n, hn⟩ : ∃ n, n = (tabS s.rows t c).length := ⟨_, rfl⟩
  have hI1n : I1 ≤ n := by rw [hI1, hn]; exact List.findIdx_le_length
  have hI2n : I2 ≤ n := by rw [hI2, hn]; exact List.findIdx_le_length
  have hn2 : n ≤ 2000 := by rw [hn]; exact tab_len s HG.out t c
  obtain ⟨f0, hf0⟩ : ∃ f, f = fromO (tabS s.rows t c) c lo := ⟨_, rfl⟩
  obtain ⟨f1, hf1⟩ : ∃ f, f = toO (tabS s.rows t c) c hi := ⟨_, rfl⟩
  have hf0' : f0 = I1 - 1 := by rw [hf0, hI1]; rfl
  have hf1' : f1 = min (I2 + 1) n := by rw [hf1, hI2, hn]; rfl
  have hmax : ∀ W, (Builtin.max_ #[ 3, 3 ] 3 #[.int .i64 ((I1 : Int) - 1), .int .i64 0]).run Tryz.prog W = .ok (.int .i64 (f0 : Int)) W := by
    intro W
    have e : ((f0 : Nat) : Int) = if (I1 : Int) - 1 < 0 then 0 else (I1 : Int) - 1 := by split <;> omega
    rw [e]
    simp [Builtin.max_, Builtin.max2]
  obtain ⟨J2, hJ2⟩ : ∃ J, J = I2 + 1 := ⟨_, rfl⟩
  have hwr : IntKind.i64.wrap ((I2 : Int) + 1) = (J2 : Int) := by rw [hJ2]; simp [IntKind.wrap, IntKind.bits, IntKind.signed]; omega
  have hmn : min (J2 : Int) (n : Int) = (f1 : Int) := by omega
  rw [← hn] at hi2 hi3 HA2 HW2 ⊢
  have HI2 := Lib.hid hi2
  have HI3 := Lib.hid hi3
  have HF := Lib.hid (And.intro hf0 (And.intro hf1 hn))
  have HB1 := Lib.hid b1
  clear own1 hA2 hw2 hno hi2 hi3 hJ2 hI1 hI2 hf0 hf1 hn b1 hf0' hf1'
  go_wp2_with fail
  rw [← HW2.out, ← HNO.out]
  refine (HI2.out w2 HA2.out).mono ?_
  rintro e w3 ⟨rfl, b3⟩
  have hA3 := HA2.out.later b3
  have hle3 := b3.size
  have Z := hA3
  clear b3 hA3
  go_wp2_with fail
  replace Z := Z.later (Below.drew (Below.refl _ _))
  refine wp_region_noPanic ?_
  refine wp_region_ord (fun W => W.cell? ⟨no, 0, none⟩ = some (.slice rA n rc)) [(0, false), (1, false), (4, false), (5, false), (6, false), (2, true), (3, true), (7, true), (8, true)] (by kernel_rfl) (by as_aux_lemma => kernel_rfl) (by rfl) (by as_aux_lemma => kernel_rfl) (fun _ _ _ _ _ h => h) (Z.ord.cell 0) (fun _ => ?_)
  repeat (first
    | (apply SeqO.take0
       case ho => exact rfl
       case hg => exact rfl
       case hy => (intro w hSw; (try dsimp only at hSw); go_simp; try with_reducible rfl)
       try simp only [Act.put, List.setIfInBounds_toArray, List.set_cons_zero, List.set_cons_succ])
    | (apply SeqO.takeG
       case ho => exact rfl
       case hg => exact rfl
       case hj => exact rfl
       case hd => exact rfl
       case ht => exact rfl
       case hy => (intro w hSw; (try dsimp only at hSw); go_simp; try with_reducible rfl)
       try simp only [Act.put, List.setIfInBounds_toArray, List.set_cons_zero, List.set_cons_succ])
    | (apply SeqO.skipG
       case ho => exact rfl
       case hg => exact rfl
       case hj => exact rfl
       case hd => exact rfl
       case ht => exact rfl
       case hne => exact rfl
       try simp only [Act.put, List.setIfInBounds_toArray, List.set_cons_zero, List.set_cons_succ])
    | (first
       | (apply SeqO.step0
          case ho => exact rfl
          case hg => exact rfl)
       | (apply SeqO.stepG
          case ho => exact rfl
          case hg => exact rfl
          case hj => exact rfl
          case hd => exact rfl
          case ht => exact rfl)
       intro K hK
       go_simp
       first
       | (go_at_call 36; (with_reducible refine (HI3.out _ Z).mono ?_); rintro e wx ⟨rfl, bx⟩; replace Z := Z.later bx; clear bx; go_wp2_with fail)
       | skip
       | fail
       refine hK.out _ _ ?_ (fun _ => ?_)
       · exact Z.ord.cell 0
       clear hK K
       try simp only [Act.put, List.setIfInBounds_toArray, List.set_cons_zero, List.set_cons_succ]))
  refine SeqO.done ?_
  refine NoPanic.normal ?_
  go_upto_region 9 with fail
  have HSUM := Lib.hid (fun (W : World) (hW : PvA w b m no s t c lo hi (.slice rA n rc) (.slice eA n ec) W) => summaries_ok hW.st HG.out (HR.out.later hW.below))
  go_cut [16] (fun s16 wx => ∃ (np : Nat) (v3 : Value) (W0 : World), s16 = .pointer (some ⟨np, 0, none⟩) ∧ Hid (PvB w b m no np s t c lo hi n f0 (.slice rA n rc) (.slice eA n ec) v3 W0 wx))
  case first =>
    replace Z := Z.later (Below.drew (Below.refl _ _))
    refine wp_region_noPanic ?_
    refine wp_region_ordG (fun W => W.cell? ⟨w.heap.size, 0, none⟩ = some (.int .i64 c) ∧ W.cell? ⟨w.heap.size + 1, 0, none⟩ = some (.int .i64 lo) ∧ W.cell? ⟨w.heap.size + 1 + 1, 0, none⟩ = some (.int .i64 hi) ∧ W.cell? ⟨no, 0, none⟩ = some (.slice rA n rc)) [(0, false), (1, false), (2, false), (3, false), (4, false), (5, false), (6, false), (7, false), (8, false)] 511 4 (by kernel_rfl) (by as_aux_lemma => kernel_rfl) (by rfl) (by as_aux_lemma => kernel_rfl) (fun _ _ _ _ _ h => h) (⟨Z.col.cell 0, Z.low.cell 0, Z.high.cell 0, Z.ord.cell 0⟩) (fun hHeld => ?_)
    repeat (
      apply SeqF.take0
      case ho => exact rfl
      case hg => exact rfl
      case hy => (intro w hSw; (try dsimp only at hSw); go_simp; try with_reducible rfl)
      try simp only [Act.put, List.setIfInBounds_toArray, List.set_cons_zero, List.set_cons_succ])
    refine SeqF.done ?_
    refine two_ready (i := 9) (j := 11) (oi := ?oi9) (oj := ?oj9) ?hr9 ?hi9 ?hgi9 ?hj9 ?hgj9 (fun K hK => ?one9) (fun K hK => ?two9)
    case hi9 => exact rfl
    case hj9 => exact rfl
    case hr9 => kernel_rfl
    case hgi9 => exact rfl
    case hgj9 => exact rfl
    case one9 =>
      go_simp
      go_at_call 26
      with_reducible refine (HSUM.out _ Z).mono ?_
      rintro e w4 ⟨v3, rfl, own4, b4⟩
      have Z4 := Z.later b4
      obtain ⟨A3, c3', rfl, -, -, -⟩ := ownsRow_form own4
      go_wp2_with fail
      refine hK.out _ _ (⟨Z4.col.cell 0, Z4.low.cell 0, Z4.high.cell 0, Z4.ord.cell 0⟩) (fun _ => ?_)
      clear hK K
      try simp only [Act.put, List.setIfInBounds_toArray, List.set_cons_zero, List.set_cons_succ]
      refine seqG_end [(10, false), (11, true), (12, true)] _ 8191 _ (by rfl) (by as_aux_lemma => kernel_rfl) (by as_aux_lemma => kernel_rfl) (by as_aux_lemma => kernel_rfl) (fun _ _ _ _ _ h => h) (⟨Z4.col.cell 0, Z4.low.cell 0, Z4.high.cell 0, Z4.ord.cell 0⟩) ?_
      repeat (
        apply SeqF.take0
        case ho => exact rfl
        case hg => exact rfl
        case hy => (intro w hSw; (try dsimp only at hSw); go_simp; try with_reducible rfl)
        try simp only [Act.put, List.setIfInBounds_toArray, List.set_cons_zero, List.set_cons_succ])
      apply SeqF.step0
      case ho => exact rfl
      case hg => exact rfl
      intro K hK
      go_simp
      have bn := Below.alloc1 w4 (.cells #[.int .i64 0, .int .i64 0, .int .i64 0, .int .i64 0, .int .i64 0, .int .i64 0, .slice none 0 0, .slice none 0 0, .slice none 0 0] 51)
      have KN := BlkIs.new w4 51 #[.int .i64 0, .int .i64 0, .int .i64 0, .int .i64 0, .int .i64 0, .int .i64 0, .slice none 0 0, .slice none 0 0, .slice none 0 0]
      have own5 := ownsRow_later bn own4
      have hle5 := bn.size
      have Z5 := Z4.later bn
      obtain ⟨np, hnp⟩ : ∃ np, np = w4.heap.size := ⟨_, rfl⟩
      have hnp' : w4.heap.size ≤ np := by rw [hnp]; exact Nat.le_refl _
      rw [← hnp] at KN ⊢
      clear hnp
      generalize w4.alloc (.cells #[.int .i64 0, .int .i64 0, .int .i64 0, .int .i64 0, .int .i64 0, .int .i64 0, .slice none 0 0, .slice none 0 0, .slice none 0 0] 51) = w5 at *
      refine hK.out _ _ (⟨Z5.col.cell 0, Z5.low.cell 0, Z5.high.cell 0, Z5.ord.cell 0⟩) (fun _ => ?_)
      clear hK K
      try simp only [Act.put, List.setIfInBounds_toArray, List.set_cons_zero, List.set_cons_succ]
      apply SeqF.step0
      case ho => exact rfl
      case hg => exact rfl
      intro K hK
      have z0 : w5.cell? ⟨np, 0, none⟩ = some (.int .i64 0) := KN.cell 0
      have fz0 := KN.frozen 0
      have z1 : w5.cell? ⟨np, 1, none⟩ = some (.int .i64 0) := KN.cell 1
      have fz1 := KN.frozen 1
      have z2 : w5.cell? ⟨np, 2, none⟩ = some (.int .i64 0) := KN.cell 2
      have fz2 := KN.frozen 2
      have z3 : w5.cell? ⟨np, 3, none⟩ = some (.int .i64 0) := KN.cell 3
      have fz3 := KN.frozen 3
      have z4 : w5.cell? ⟨np, 4, none⟩ = some (.int .i64 0) := KN.cell 4
      have fz4 := KN.frozen 4
      have z5 : w5.cell? ⟨np, 5, none⟩ = some (.int .i64 0) := KN.cell 5
      have fz5 := KN.frozen 5
      have z6 : w5.cell? ⟨np, 6, none⟩ = some (.slice none 0 0) := KN.cell 6
      have fz6 := KN.frozen 6
      have z7 : w5.cell? ⟨np, 7, none⟩ = some (.slice none 0 0) := KN.cell 7
      have fz7 := KN.frozen 7
      have z8 : w5.cell? ⟨np, 8, none⟩ = some (.slice none 0 0) := KN.cell 8
      have fz8 := KN.frozen 8
      have KF := ((((((((((((((((((KN).set 0 (.int .i64 t))).set 1 (.int .i64 c))).set 2 (.int .i64 lo))).set 3 (.int .i64 hi))).set 4 (.int .i64 (n : Int)))).set 5 (.int .i64 (f0 : Int)))).set 6 (.slice none 0 0))).set 7 (.slice none 0 0))).set 8 ((.slice A3 16 c3')))
      have bf : Below w4.heap.size w4 (((((((((w5.setCell ⟨np, 0, none⟩ (.int .i64 t)).setCell ⟨np, 1, none⟩ (.int .i64 c)).setCell ⟨np, 2, none⟩ (.int .i64 lo)).setCell ⟨np, 3, none⟩ (.int .i64 hi)).setCell ⟨np, 4, none⟩ (.int .i64 (n : Int))).setCell ⟨np, 5, none⟩ (.int .i64 (f0 : Int))).setCell ⟨np, 6, none⟩ (.slice none 0 0)).setCell ⟨np, 7, none⟩ (.slice none 0 0)).setCell ⟨np, 8, none⟩ ((.slice A3 16 c3'))) := ((((((((((((((((((bn).setCell (p := ⟨np, 0, none⟩) hnp' (.int .i64 t))).setCell (p := ⟨np, 1, none⟩) hnp' (.int .i64 c))).setCell (p := ⟨np, 2, none⟩) hnp' (.int .i64 lo))).setCell (p := ⟨np, 3, none⟩) hnp' (.int .i64 hi))).setCell (p := ⟨np, 4, none⟩) hnp' (.int .i64 (n : Int)))).setCell (p := ⟨np, 5, none⟩) hnp' (.int .i64 (f0 : Int)))).setCell (p := ⟨np, 6, none⟩) hnp' (.slice none 0 0))).setCell (p := ⟨np, 7, none⟩) hnp' (.slice none 0 0))).setCell (p := ⟨np, 8, none⟩) hnp' ((.slice A3 16 c3')))
      have ZF := Z4.later bf
      have ownF := ownsRow_later bf own4
      go_simp
      refine hK.out _ _ (⟨ZF.col.cell 0, ZF.low.cell 0, ZF.high.cell 0, ZF.ord.cell 0⟩) (fun _ => ?_)
      clear hK K z0 fz0 z1 fz1 z2 fz2 z3 fz3 z4 fz4 z5 fz5 z6 fz6 z7 fz7 z8 fz8 KN Z5 own5 bn
      try simp only [Act.put, List.setIfInBounds_toArray, List.set_cons_zero, List.set_cons_succ]
      repeat (
        apply SeqF.take0
        case ho => exact rfl
        case hg => exact rfl
        case hy => (intro w hSw; (try dsimp only at hSw); go_simp; try with_reducible rfl)
        try simp only [Act.put, List.setIfInBounds_toArray, List.set_cons_zero, List.set_cons_succ])
      refine SeqF.done ?_
      refine NoPanic.normal ?_
      go_wp2_with fail
      go_meet
      exact ⟨np, _, w4, rfl, Lib.hid ⟨Z4, hnp', bf, KF, ownsRow_mono ownF (by have := Z.res.lt; omega), fun k e => by have := (own4.lt k e).2; omega⟩⟩
    case two9 =>
      go_simp
      have bn : Below wx.drew.heap.size wx.drew (wx.alloc (.cells #[.int .i64 0, .int .i64 0, .int .i64 0, .int .i64 0, .int .i64 0, .int .i64 0, .slice none 0 0, .slice none 0 0, .slice none 0 0] 51)).drew := Below.alloc1 wx.drew (.cells #[.int .i64 0, .int .i64 0, .int .i64 0, .int .i64 0, .int .i64 0, .int .i64 0, .slice none 0 0, .slice none 0 0, .slice none 0 0] 51)
      have KN : BlkIs (wx.alloc (.cells #[.int .i64 0, .int .i64 0, .int .i64 0, .int .i64 0, .int .i64 0, .int .i64 0, .slice none 0 0, .slice none 0 0, .slice none 0 0] 51)).drew wx.heap.size 51 [.int .i64 0, .int .i64 0, .int .i64 0, .int .i64 0, .int .i64 0, .int .i64 0, .slice none 0 0, .slice none 0 0, .slice none 0 0] := BlkIs.new wx.drew 51 #[.int .i64 0, .int .i64 0, .int .i64 0, .int .i64 0, .int .i64 0, .int .i64 0, .slice none 0 0, .slice none 0 0, .slice none 0 0]
      have Z1 := Z.later bn
      obtain ⟨np, hnp⟩ : ∃ np, np = wx.heap.size := ⟨_, rfl⟩
      have hnp' : wx.drew.heap.size ≤ np := by rw [hnp]; exact Nat.le_refl _
      rw [← hnp] at KN ⊢
      clear hnp
      generalize (wx.alloc (.cells #[.int .i64 0, .int .i64 0, .int .i64 0, .int .i64 0, .int .i64 0, .int .i64 0, .slice none 0 0, .slice none 0 0, .slice none 0 0] 51)).drew = w5 at *
      have hlt5 := KN.lt
      refine hK.out _ _ (⟨Z1.col.cell 0, Z1.low.cell 0, Z1.high.cell 0, Z1.ord.cell 0⟩) (fun _ => ?_)
      clear hK K
      try simp only [Act.put, List.setIfInBounds_toArray, List.set_cons_zero, List.set_cons_succ]
      refine seqG_end [(9, true), (10, false), (12, true)] _ 8191 _ (by rfl) (by as_aux_lemma => kernel_rfl) (by as_aux_lemma => kernel_rfl) (by as_aux_lemma => kernel_rfl) (fun _ _ _ _ _ h => h) (⟨Z1.col.cell 0, Z1.low.cell 0, Z1.high.cell 0, Z1.ord.cell 0⟩) ?_
      apply SeqF.step0
      case ho => exact rfl
      case hg => exact rfl
      intro K hK
      go_simp
      go_at_call 26
      with_reducible refine (HSUM.out _ Z1).mono ?_
      rintro e w4 ⟨v3, rfl, own4, b4⟩
      have Z4 := Z1.later b4
      have KN := KN.later b4
      obtain ⟨A3, c3', rfl, -, -, -⟩ := ownsRow_form own4
      go_wp2_with fail
      refine hK.out _ _ (⟨Z4.col.cell 0, Z4.low.cell 0, Z4.high.cell 0, Z4.ord.cell 0⟩) (fun _ => ?_)
      clear hK K
      try simp only [Act.put, List.setIfInBounds_toArray, List.set_cons_zero, List.set_cons_succ]
      repeat (
        apply SeqF.take0
        case ho => exact rfl
        case hg => exact rfl
        case hy => (intro w hSw; (try dsimp only at hSw); go_simp; try with_reducible rfl)
        try simp only [Act.put, List.setIfInBounds_toArray, List.set_cons_zero, List.set_cons_succ])
      apply SeqF.step0
      case ho => exact rfl
      case hg => exact rfl
      intro K hK
      have z0 : w4.cell? ⟨np, 0, none⟩ = some (.int .i64 0) := KN.cell 0
      have fz0 := KN.frozen 0
      have z1 : w4.cell? ⟨np, 1, none⟩ = some (.int .i64 0) := KN.cell 1
      have fz1 := KN.frozen 1
      have z2 : w4.cell? ⟨np, 2, none⟩ = some (.int .i64 0) := KN.cell 2
      have fz2 := KN.frozen 2
      have z3 : w4.cell? ⟨np, 3, none⟩ = some (.int .i64 0) := KN.cell 3
      have fz3 := KN.frozen 3
      have z4 : w4.cell? ⟨np, 4, none⟩ = some (.int .i64 0) := KN.cell 4
      have fz4 := KN.frozen 4
      have z5 : w4.cell? ⟨np, 5, none⟩ = some (.int .i64 0) := KN.cell 5
      have fz5 := KN.frozen 5
      have z6 : w4.cell? ⟨np, 6, none⟩ = some (.slice none 0 0) := KN.cell 6
      have fz6 := KN.frozen 6
      have z7 : w4.cell? ⟨np, 7, none⟩ = some (.slice none 0 0) := KN.cell 7
      have fz7 := KN.frozen 7
      have z8 : w4.cell? ⟨np, 8, none⟩ = some (.slice none 0 0) := KN.cell 8
      have fz8 := KN.frozen 8
      have KF := ((((((((((((((((((KN).set 0 (.int .i64 t))).set 1 (.int .i64 c))).set 2 (.int .i64 lo))).set 3 (.int .i64 hi))).set 4 (.int .i64 (n : Int)))).set 5 (.int .i64 (f0 : Int)))).set 6 (.slice none 0 0))).set 7 (.slice none 0 0))).set 8 ((.slice A3 16 c3')))
      have bf : Below wx.drew.heap.size wx.drew (((((((((w4.setCell ⟨np, 0, none⟩ (.int .i64 t)).setCell ⟨np, 1, none⟩ (.int .i64 c)).setCell ⟨np, 2, none⟩ (.int .i64 lo)).setCell ⟨np, 3, none⟩ (.int .i64 hi)).setCell ⟨np, 4, none⟩ (.int .i64 (n : Int))).setCell ⟨np, 5, none⟩ (.int .i64 (f0 : Int))).setCell ⟨np, 6, none⟩ (.slice none 0 0)).setCell ⟨np, 7, none⟩ (.slice none 0 0)).setCell ⟨np, 8, none⟩ ((.slice A3 16 c3'))) := (((((((((((((((((((bn.trans (b4.mono bn.size))).setCell (p := ⟨np, 0, none⟩) hnp' (.int .i64 t))).setCell (p := ⟨np, 1, none⟩) hnp' (.int .i64 c))).setCell (p := ⟨np, 2, none⟩) hnp' (.int .i64 lo))).setCell (p := ⟨np, 3, none⟩) hnp' (.int .i64 hi))).setCell (p := ⟨np, 4, none⟩) hnp' (.int .i64 (n : Int)))).setCell (p := ⟨np, 5, none⟩) hnp' (.int .i64 (f0 : Int)))).setCell (p := ⟨np, 6, none⟩) hnp' (.slice none 0 0))).setCell (p := ⟨np, 7, none⟩) hnp' (.slice none 0 0))).setCell (p := ⟨np, 8, none⟩) hnp' ((.slice A3 16 c3')))
      have ZF := Z.later bf
      have ownF := ownsRow_same own4 (((((((((((((((((((SameOn.of_below (S := fun k => k ≠ np) (Below.refl _ w4)).trans (sameOn_set _ ⟨np, 0, none⟩ (.int .i64 t)))).trans (sameOn_set _ ⟨np, 1, none⟩ (.int .i64 c)))).trans (sameOn_set _ ⟨np, 2, none⟩ (.int .i64 lo)))).trans (sameOn_set _ ⟨np, 3, none⟩ (.int .i64 hi)))).trans (sameOn_set _ ⟨np, 4, none⟩ (.int .i64 (n : Int))))).trans (sameOn_set _ ⟨np, 5, none⟩ (.int .i64 (f0 : Int))))).trans (sameOn_set _ ⟨np, 6, none⟩ (.slice none 0 0)))).trans (sameOn_set _ ⟨np, 7, none⟩ (.slice none 0 0)))).trans (sameOn_set _ ⟨np, 8, none⟩ ((.slice A3 16 c3'))))) (fun k e h => by have := own_ge own4 e; omega)
      go_simp
      refine hK.out _ _ (⟨ZF.col.cell 0, ZF.low.cell 0, ZF.high.cell 0, ZF.ord.cell 0⟩) (fun _ => ?_)
      clear hK K z0 fz0 z1 fz1 z2 fz2 z3 fz3 z4 fz4 z5 fz5 z6 fz6 z7 fz7 z8 fz8 KN bn
      try simp only [Act.put, List.setIfInBounds_toArray, List.set_cons_zero, List.set_cons_succ]
      repeat (
        apply SeqF.take0
        case ho => exact rfl
        case hg => exact rfl
        case hy => (intro w hSw; (try dsimp only at hSw); go_simp; try with_reducible rfl)
        try simp only [Act.put, List.setIfInBounds_toArray, List.set_cons_zero, List.set_cons_succ])
      refine SeqF.done ?_
      refine NoPanic.normal ?_
      go_wp2_with fail
      go_meet
      exact ⟨np, _, wx.drew, rfl, Lib.hid ⟨Z, hnp', bf, KF, ownsRow_mono ownF (by have := Z1.res.lt; omega), fun k e => by have := own_ge own4 e; omega⟩⟩
  case rest =>
    obtain ⟨np, v3, W0, rfl, HB⟩ := hcut
    go_wp2_with fail
    obtain ⟨B, hB⟩ : ∃ B, B = wc.heap.size := ⟨_, rfl⟩
    have hC0 : PvC w W0 B np s t c lo hi n f0 v3 0 wc := by
      refine ⟨HB.out.below, ⟨_, _, HB.out.box, ?_⟩, HB.out.own, by rw [hB]; exact Nat.le_refl _⟩
      rw [List.take_zero, List.take_zero]
      exact PfOwn.nil _ _
    have hnB : np < B := by rw [hB]; exact HB.out.box.lt
    have hv3 : ∀ k, v3.ownBlock = some k → k ≠ np ∧ k < B := fun k e => ⟨HB.out.ne k e, by rw [hB]; exact (HB.out.own.lt k e).2⟩
    have hf01 : f0 ≤ f1 ∧ f1 ≤ n := by
      obtain ⟨h0, h1, hn⟩ := HF.out
      have h2 := cut_order (O := tabS s.rows t c) (c := c) HLH.out
      have h3 := List.findIdx_le_length (xs := tabS s.rows t c) (p := fun r => decide (lo ≤ r.val c))
      rw [h0, h1, hn]
      unfold fromO toO
      omega
    have HC0 := Lib.hid hC0
    have HBA := Lib.hid HB.out.a
    have HBL := Lib.hid HB.out.le
    have HV3 := Lib.hid hv3
    obtain ⟨hf01, hf1n⟩ := hf01
    clear hB hC0 hv3 HB
    go_loopw [17] (fun iv wr => ∃ k : Nat, f0 + k ≤ f1 ∧ iv = .int .i64 ((f0 + k : Nat) : Int) ∧ Hid (PvC w W0 B np s t c lo hi n f0 v3 k wr)) (fun iv _ => f1 - (intOf iv).toNat)
    case atStart => exact ⟨0, by omega, rfl, HC0⟩
    case round =>
      clear HC0
      obtain ⟨k, hk, rfl, HR1⟩ := hrel
      obtain ⟨i, hi'⟩ : ∃ i, i = f0 + k := ⟨_, rfl⟩
      rw [← hi'] at hk ⊢
      by_cases h1 : i < f1
      case pos =>
        have hA1 := HBA.out.later HR1.out.below
        obtain ⟨v1, v2, Kp, hpf⟩ := HR1.out.box
        have hown3 := HR1.out.own
        have hsz := HR1.out.size
        have hbel := HR1.out.below
        obtain ⟨x, hx⟩ : ∃ x, (tabS s.rows t c)[i]? = some x := ⟨_, List.getElem?_eq_getElem (by have := HF.out.2.2; omega)⟩
        have hn := HF.out.2.2
        have hlist : ListAt wr (.slice eA n ec) (entsS s.rows t c) := listAt_own' hA1.own.ents (by rw [entsS_len])
        have hprf := proof_own (.slice eA n ec) (entsS s.rows t c) i wr hlist (by rw [entsS_len, ← hn]; omega) (by rw [entsS_len, ← hn]; omega) (fun y hy => by
          unfold entsS at hy
          rw [List.mem_map] at hy
          obtain ⟨z, _, rfl⟩ := hy
          have := encRow_len z
          omega) (HR.out.later hA1.below)
        have e1 : wr.cell? ⟨no, 1, none⟩ = some (.slice eA n ec) := hA1.ord.cell 1
        have t2 : decide (i < f1) = true := by simpa using h1
        have HPR := Lib.hid hprf
        have HST := Lib.hid (And.intro hA1 (And.intro Kp (And.intro hpf (And.intro hown3 (And.intro hsz hbel)))))
        have HX := Lib.hid hx
        have HI := Lib.hid hi'
        clear hA1 Kp hpf hown3 hsz hbel hlist hprf hx hi' HR1 hn
        go_wp2_with fail
        refine (HPR.out).mono ?_
        rintro e w4 ⟨pv, rfl, own4, b4⟩
        obtain ⟨pA, pc, rfl, -, -, -⟩ := ownsRow_form own4
        have HO4 := Lib.hid own4
        have HB4 := Lib.hid b4
        clear own4 b4 e1
        go_wp2_with fail
        obtain ⟨hA1, Kp, hpf, hown3, hsz, hbel⟩ := HST.out
        have b4 := HB4.out
        have own4 := HO4.out
        obtain ⟨xt, xk, x0, x1, x2⟩ := x
        have hA4 := hA1.later b4
        obtain ⟨gr, ro, rc2, hrv, -, hgr, r0, r1, r2, r3, r4⟩ := (ownsRow_rws HBA.out.own.rows).at_ HX.out
        injection hrv with er1 er2 er3
        subst er1 er3
        clear er2
        have hn := HF.out.2.2
        obtain ⟨iR, hiR, hR0, hR1, hR2⟩ := info_row
        obtain ⟨iS, hiS, hS0, hS1, hS2⟩ := info_strs
        have HSZ := Lib.hid hsz
        have HV1 := Lib.hid (fun k (e : v1.ownBlock = some k) => (hpf.rows.lt k e).2)
        have HV2 := Lib.hid (fun k (e : v2.ownBlock = some k) => ((hpf.paths.choose_spec.2.1).lt k e).2)
        have HPV := Lib.hid (fun b (e : (Value.slice pA (proofL (entsS s.rows t c) i).length pc).ownBlock = some b) => own_ge own4 e)
        have hno0 : no < W0.heap.size := HBA.out.ord.lt
        have hm0 := HBA.out.ord.cell 0
        simp only [List.getElem?_cons_zero] at hm0
        have HM := Lib.hid (fun (W : World) (hA : Below W0.heap.size W0 W) (hK : BlkIs W np 51 (pfC t c lo hi n f0 v1 v2 v3)) => (show (fun W => W.cell? ⟨np, 6, none⟩ = some v1 ∧ W.cell? ⟨np, 7, none⟩ = some v2 ∧ W.cell? ⟨no, 0, none⟩ = some (.slice (some ⟨gr, ro, none⟩) n rc) ∧ W.cell? ⟨gr, ro + i * 5, none⟩ = some (.int .i64 xt) ∧ W.cell? ⟨gr, ro + i * 5 + 1, none⟩ = some (.int .i64 xk) ∧ W.cell? ⟨gr, ro + i * 5 + 2, none⟩ = some (.int .i64 x0) ∧ W.cell? ⟨gr, ro + i * 5 + 3, none⟩ = some (.int .i64 x1) ∧ W.cell? ⟨gr, ro + i * 5 + 4, none⟩ = some (.int .i64 x2)) W from ⟨hK.cell 6, hK.cell 7, (hA.cell (p := ⟨no, 0, none⟩) hno0).trans hm0, (hA.cell (p := ⟨gr, ro + i * 5, none⟩) hgr).trans r0, (hA.cell (p := ⟨gr, ro + i * 5 + 1, none⟩) hgr).trans r1, (hA.cell (p := ⟨gr, ro + i * 5 + 2, none⟩) hgr).trans r2, (hA.cell (p := ⟨gr, ro + i * 5 + 3, none⟩) hgr).trans r3, (hA.cell (p := ⟨gr, ro + i * 5 + 4, none⟩) hgr).trans r4⟩))
        have htk := cut_take (L := s.rows) (t := t) (c := c) (lo := lo) (hi := hi) (k := k) (x := ⟨xt, xk, x0, x1, x2⟩) (by rw [← HF.out.1, ← HI.out]; exact HX.out) (by rw [← HF.out.1, ← HF.out.2.1, ← HI.out]; exact h1)
        rw [← HF.out.1, ← HI.out] at htk
        have HTK := Lib.hid htk
        have hone := rwC_one [⟨xt, xk, x0, x1, x2⟩]
        simp only [List.flatMap_cons, List.flatMap_nil, List.append_nil] at hone
        have HONE := Lib.hid hone
        have hln : ((cutO (tabS s.rows t c) c lo hi).take k).length ≤ 2000 ∧ ((cutP s.rows t c lo hi).take k).length ≤ 2000 := by
          have h2 := HI.out
          rw [List.length_take, List.length_take]
          omega
        have HLN := Lib.hid hln
        have HH1 := Lib.hid h1
        have q0 : (0 : Int) ≤ (i : Int) := by omega
        have q1 : (i : Int) < (n : Int) := by omega
        have hBz : W0.heap.size < B := Nat.lt_of_le_of_lt HBL.out hnB
        have Aw5 : Below W0.heap.size W0 w4.drew := Below.drew (Below.next hbel b4)
        have Kw5 : BlkIs w4.drew np 51 (pfC t c lo hi n f0 v1 v2 v3) := (Kp.later b4).drew
        have Pw5 : PfOwn w4.drew B ((cutO (tabS s.rows t c) c lo hi).take k) ((cutP s.rows t c lo hi).take k) v1 v2 := (hpf.later b4).later (Below.drew (Below.refl _ _))
        have Ow5 : w4.drew.ownsRow (w.heap.size + 4) 9 1 v3 16 (svs (sumsS s.rows)) := ownsRow_later b4 hown3
        have Vw5 : w4.drew.ownsRow B 9 1 (.slice pA (proofL (entsS s.rows t c) i).length pc) (proofL (entsS s.rows t c) i).length (svs (proofL (entsS s.rows t c) i)) := ownsRow_mono own4 hsz
        have Lw5 : wr.heap.size ≤ w4.drew.heap.size := b4.size
        have Mw5 := HM.out _ Aw5 Kw5
        clear hA1 Kp hpf hown3 hsz hbel b4 own4 hA4 hn htk hone hln r0 r1 r2 r3 r4 hm0 h1 t2
        refine wp_region_noPanic ?_
        refine wp_region_front (fun W => W.cell? ⟨np, 6, none⟩ = some v1 ∧ W.cell? ⟨np, 7, none⟩ = some v2 ∧ W.cell? ⟨no, 0, none⟩ = some (.slice (some ⟨gr, ro, none⟩) n rc) ∧ W.cell? ⟨gr, ro + i * 5, none⟩ = some (.int .i64 xt) ∧ W.cell? ⟨gr, ro + i * 5 + 1, none⟩ = some (.int .i64 xk) ∧ W.cell? ⟨gr, ro + i * 5 + 2, none⟩ = some (.int .i64 x0) ∧ W.cell? ⟨gr, ro + i * 5 + 3, none⟩ = some (.int .i64 x1) ∧ W.cell? ⟨gr, ro + i * 5 + 4, none⟩ = some (.int .i64 x2)) 14 3 0 (oi := ?oiS) (v := ?vS) (by kernel_rfl) rfl ?hiS (by decide) ?hsS ?hkS ?hcS (by decide) ?hfS ?hrS ?hQS (Or.inl ⟨?hwS, ?hyS⟩) Mw5 (fun hc inv hHeld => ?_)
        case hiS => simp only [List.getElem?_toArray, List.getElem?_cons_zero]; rfl
        case hsS => kernel_rfl
        case hkS => kernel_rfl
        case hcS => kernel_rfl
        case hfS => kernel_rfl
        case hrS => kernel_rfl
        case hQS => exact fun _ _ _ h => h
        case hwS => rfl
        case hyS => intro w; go_simp; try with_reducible rfl
        generalize w4.drew = w5 at *
        simp only [List.size_toArray, List.length_cons, List.length_nil, Nat.reduceAdd, Array.replicate_succ, Array.replicate_zero, List.push_toArray, List.nil_append, List.cons_append, Act.put, List.setIfInBounds_toArray, List.set_cons_zero, List.set_cons_succ] at inv ⊢
        refine FrontH.take hc front_done inv 1 (oi := ?oiq1) (v := ?vq1) ?hiq1 (by decide) (by decide) ?hfq1 ?hrq1 ?hQq1 (Or.inl ⟨?hwq1, ?hyq1⟩) hHeld (fun inv => ?_)
        case hiq1 => simp only [List.getElem?_toArray, List.getElem?_cons_succ, List.getElem?_cons_zero]; rfl
        case hfq1 => kernel_rfl
        case hrq1 => kernel_rfl
        case hQq1 => exact fun _ _ _ h => h
        case hwq1 => rfl
        case hyq1 => intro w hSw; obtain ⟨m1, m2, m3, m4, m5, m6, m7, m8⟩ := hSw; go_simp; try with_reducible rfl
        try simp only [Act.put, List.setIfInBounds_toArray, List.set_cons_zero, List.set_cons_succ]
        refine FrontH.take hc front_done inv 2 (oi := ?oiq2) (v := ?vq2) ?hiq2 (by decide) (by decide) ?hfq2 ?hrq2 ?hQq2 (Or.inl ⟨?hwq2, ?hyq2⟩) hHeld (fun inv => ?_)
        case hiq2 => simp only [List.getElem?_toArray, List.getElem?_cons_succ, List.getElem?_cons_zero]; rfl
        case hfq2 => kernel_rfl
        case hrq2 => kernel_rfl
        case hQq2 => exact fun _ _ _ h => h
        case hwq2 => rfl
        case hyq2 => intro w hSw; obtain ⟨m1, m2, m3, m4, m5, m6, m7, m8⟩ := hSw; go_simp; try with_reducible rfl
        try simp only [Act.put, List.setIfInBounds_toArray, List.set_cons_zero, List.set_cons_succ]
        refine FrontH.take hc front_done inv 3 (oi := ?oiq3) (v := ?vq3) ?hiq3 (by decide) (by decide) ?hfq3 ?hrq3 ?hQq3 (Or.inl ⟨?hwq3, ?hyq3⟩) hHeld (fun inv => ?_)
        case hiq3 => simp only [List.getElem?_toArray, List.getElem?_cons_succ, List.getElem?_cons_zero]; rfl
        case hfq3 => kernel_rfl
        case hrq3 => kernel_rfl
        case hQq3 => exact fun _ _ _ h => h
        case hwq3 => rfl
        case hyq3 => intro w hSw; obtain ⟨m1, m2, m3, m4, m5, m6, m7, m8⟩ := hSw; go_simp; try with_reducible rfl
        try simp only [Act.put, List.setIfInBounds_toArray, List.set_cons_zero, List.set_cons_succ]
        refine FrontH.take hc front_done inv 4 (oi := ?oiq4) (v := ?vq4) ?hiq4 (by decide) (by decide) ?hfq4 ?hrq4 ?hQq4 (Or.inl ⟨?hwq4, ?hyq4⟩) hHeld (fun inv => ?_)
        case hiq4 => simp only [List.getElem?_toArray, List.getElem?_cons_succ, List.getElem?_cons_zero]; rfl
        case hfq4 => kernel_rfl
        case hrq4 => kernel_rfl
        case hQq4 => exact fun _ _ _ h => h
        case hwq4 => rfl
        case hyq4 => intro w hSw; obtain ⟨m1, m2, m3, m4, m5, m6, m7, m8⟩ := hSw; go_simp; try with_reducible rfl
        try simp only [Act.put, List.setIfInBounds_toArray, List.set_cons_zero, List.set_cons_succ]
        refine FrontH.take hc front_done inv 5 (oi := ?oiq5) (v := ?vq5) ?hiq5 (by decide) (by decide) ?hfq5 ?hrq5 ?hQq5 (Or.inl ⟨?hwq5, ?hyq5⟩) hHeld (fun inv => ?_)
        case hiq5 => simp only [List.getElem?_toArray, List.getElem?_cons_succ, List.getElem?_cons_zero]; rfl
        case hfq5 => kernel_rfl
        case hrq5 => kernel_rfl
        case hQq5 => exact fun _ _ _ h => h
        case hwq5 => rfl
        case hyq5 => intro w hSw; obtain ⟨m1, m2, m3, m4, m5, m6, m7, m8⟩ := hSw; go_simp; try with_reducible rfl
        try simp only [Act.put, List.setIfInBounds_toArray, List.set_cons_zero, List.set_cons_succ]
        refine FrontH.take hc front_done inv 6 (oi := ?oiq6) (v := ?vq6) ?hiq6 (by decide) (by decide) ?hfq6 ?hrq6 ?hQq6 (Or.inl ⟨?hwq6, ?hyq6⟩) hHeld (fun inv => ?_)
        case hiq6 => simp only [List.getElem?_toArray, List.getElem?_cons_succ, List.getElem?_cons_zero]; rfl
        case hfq6 => kernel_rfl
        case hrq6 => kernel_rfl
        case hQq6 => exact fun _ _ _ h => h
        case hwq6 => rfl
        case hyq6 => intro w hSw; obtain ⟨m1, m2, m3, m4, m5, m6, m7, m8⟩ := hSw; go_simp; try with_reducible rfl
        try simp only [Act.put, List.setIfInBounds_toArray, List.set_cons_zero, List.set_cons_succ]
        refine FrontH.take hc front_done inv 9 (oi := ?oiq7) (v := ?vq7) ?hiq7 (by decide) (by decide) ?hfq7 ?hrq7 ?hQq7 (Or.inl ⟨?hwq7, ?hyq7⟩) hHeld (fun inv => ?_)
        case hiq7 => simp only [List.getElem?_toArray, List.getElem?_cons_succ, List.getElem?_cons_zero]; rfl
        case hfq7 => kernel_rfl
        case hrq7 => kernel_rfl
        case hQq7 => exact fun _ _ _ h => h
        case hwq7 => rfl
        case hyq7 => intro w hSw; obtain ⟨m1, m2, m3, m4, m5, m6, m7, m8⟩ := hSw; go_simp; try with_reducible rfl
        try simp only [Act.put, List.setIfInBounds_toArray, List.set_cons_zero, List.set_cons_succ]
        refine FrontH.take hc front_done inv 10 (oi := ?oiq8) (v := ?vq8) ?hiq8 (by decide) (by decide) ?hfq8 ?hrq8 ?hQq8 (Or.inl ⟨?hwq8, ?hyq8⟩) hHeld (fun inv => ?_)
        case hiq8 => simp only [List.getElem?_toArray, List.getElem?_cons_succ, List.getElem?_cons_zero]; rfl
        case hfq8 => kernel_rfl
        case hrq8 => kernel_rfl
        case hQq8 => exact fun _ _ _ h => h
        case hwq8 => rfl
        case hyq8 => intro w hSw; obtain ⟨m1, m2, m3, m4, m5, m6, m7, m8⟩ := hSw; go_simp; try with_reducible rfl
        try simp only [Act.put, List.setIfInBounds_toArray, List.set_cons_zero, List.set_cons_succ]
        refine FrontH.take hc front_done inv 11 (oi := ?oiq9) (v := ?vq9) ?hiq9 (by decide) (by decide) ?hfq9 ?hrq9 ?hQq9 (Or.inl ⟨?hwq9, ?hyq9⟩) hHeld (fun inv => ?_)
        case hiq9 => simp only [List.getElem?_toArray, List.getElem?_cons_succ, List.getElem?_cons_zero]; rfl
        case hfq9 => kernel_rfl
        case hrq9 => kernel_rfl
        case hQq9 => exact fun _ _ _ h => h
        case hwq9 => rfl
        case hyq9 => intro w hSw; obtain ⟨m1, m2, m3, m4, m5, m6, m7, m8⟩ := hSw; go_simp; try with_reducible rfl
        try simp only [Act.put, List.setIfInBounds_toArray, List.set_cons_zero, List.set_cons_succ]
        refine FrontH.each (rs := [7, 12]) (by kernel_rfl) (by simp) ?_
        refine EachH.cons inv 7 (o := ?ooq10) ?hoq10 (by decide) (by kernel_rfl) (fun inv K hK => ?_) ?restq10
        case hoq10 => simp only [List.getElem?_toArray, List.getElem?_cons_succ, List.getElem?_cons_zero]; rfl
        · go_simp
          have bn := Below.alloc1 w5 (.cells #[.int .i64 xt, .int .i64 xk, .int .i64 x0, .int .i64 x1, .int .i64 x2] 67)
          have Rw6 := BlkIs.new w5 67 #[.int .i64 xt, .int .i64 xk, .int .i64 x0, .int .i64 x1, .int .i64 x2]
          obtain ⟨G7, hG7⟩ : ∃ X, X = w5.heap.size := ⟨_, rfl⟩
          rw [← hG7] at Rw6 ⊢
          have fG7 : wr.heap.size ≤ G7 := by rw [hG7]; exact Lw5
          have Aw6 := Below.next Aw5 bn
          have Kw6 := Kw5.later bn
          have Pw6 := Pw5.later bn
          have Ow6 := ownsRow_later bn Ow5
          have Vw6 := ownsRow_later bn Vw5
          have Lw6 := Nat.le_trans Lw5 bn.size
          have Mw6 := HM.out _ Aw6 Kw6
          refine hK.out _ _ Mw6 ?_
          try simp only [List.setIfInBounds_toArray, List.set_cons_zero, List.set_cons_succ]
          generalize w5.alloc (.cells #[.int .i64 xt, .int .i64 xk, .int .i64 x0, .int .i64 x1, .int .i64 x2] 67) = w6 at *
          clear hHeld hK K bn hG7 Aw5 Kw5 Pw5 Ow5 Vw5 Lw5
          have hHeld := Mw6
          refine FrontH.each (rs := [8, 12]) (by kernel_rfl) (by simp) ?_
          refine EachH.cons inv 8 (o := ?ooq11) ?hoq11 (by decide) (by kernel_rfl) (fun inv K hK => ?_) ?restq11
          case hoq11 => simp only [List.getElem?_toArray, List.getElem?_cons_succ, List.getElem?_cons_zero]; rfl
          · refine step_append_lies _ (by rfl) (.tmp 78) (.tmp 84) 48 (by rfl) B 67 iR _ 5 40 Tryz.underlying48 hiR hR0 hR1 hR2 rfl (by decide) v1 ((cutO (tabS s.rows t c) c lo hi).take k).length _ (by rfl) Pw6.rows ⟨G7, 0, none⟩ 1 1 [.int .i64 xt, .int .i64 xk, .int .i64 x0, .int .i64 x1, .int .i64 x2] (by rfl) rfl (blk_news Rw6 0 [.int .i64 xt, .int .i64 xk, .int .i64 x0, .int .i64 x1, .int .i64 x2] rfl) HONE.out (by decide) (by have := HLN.out.1; unfold maxLen; omega) (by have := HLN.out.1; omega) (Nat.le_trans HSZ.out Lw6) w6.heap.size rfl ?_
            intro g5 c5 w7 own5 gr5 hat5 hlt5
            have o5 := fun k e => own_ge Pw6.rows (k := k) e
            have Aw7 := Below.grown Aw6 gr5 Aw6.size (fun k e => by have := o5 k e; omega)
            have Kw7 : BlkIs w7 np 51 (pfC t c lo hi n f0 v1 v2 v3) := (gr5.block np Kw6.lt (fun e => by have := o5 np e.symm; omega)).trans Kw6
            have hn5 : ∀ b, (Value.slice pA (proofL (entsS s.rows t c) i).length pc).ownBlock = some b → (Value.slice (some ⟨g5, 0, none⟩) (((cutO (tabS s.rows t c) c lo hi).take k).length + 1) c5).ownBlock ≠ some b := fun b hb e => by
              have e : g5 = b := Option.some.inj e
              have h1 := HPV.out b hb
              have h2 := (Vw6.lt b hb).2
              rcases hat5 with h | h
              · have := HV1.out g5 h; omega
              · omega
            have Pw7 := Pw6.row (x := ⟨xt, xk, x0, x1, x2⟩) own5 gr5 hat5
            have Ow7 := Ow6.kept gr5 (own_other (fun k e => (HV3.out k e).2) o5)
            have Vw7 := Vw6.kept gr5 (own_apart (fun k e => HPV.out k e) HV1.out)
            have Lw7 := Nat.le_trans Lw6 gr5.size
            have Mw7 := HM.out _ Aw7 Kw7
            refine hK.out _ _ Mw7 ?_
            try simp only [Act.put, List.setIfInBounds_toArray, List.set_cons_zero, List.set_cons_succ]
            clear hHeld hK K Aw6 Kw6 Pw6 Ow6 Vw6 Lw6 Rw6 own5 gr5 hat5 hlt5 o5
            have hHeld := Mw7
            refine FrontH.take hc front_done inv 14 (oi := ?oiq12) (v := ?vq12) ?hiq12 (by decide) (by decide) ?hfq12 ?hrq12 ?hQq12 (Or.inl ⟨?hwq12, ?hyq12⟩) hHeld (fun inv => ?_)
            case hiq12 => simp only [List.getElem?_toArray, List.getElem?_cons_succ, List.getElem?_cons_zero]; rfl
            case hfq12 => kernel_rfl
            case hrq12 => kernel_rfl
            case hQq12 => exact fun _ _ _ h => h
            case hwq12 => rfl
            case hyq12 => intro w hSw; obtain ⟨m1, m2, m3, m4, m5, m6, m7, m8⟩ := hSw; go_simp; try with_reducible rfl
            try simp only [Act.put, List.setIfInBounds_toArray, List.set_cons_zero, List.set_cons_succ]
            refine FrontH.each (rs := [12]) (by kernel_rfl) (by simp) ?_
            refine EachH.cons inv 12 (o := ?ooq13) ?hoq13 (by decide) (by kernel_rfl) (fun inv K hK => ?_) ?restq13
            case hoq13 => simp only [List.getElem?_toArray, List.getElem?_cons_succ, List.getElem?_cons_zero]; rfl
            · go_simp
              have bn := Below.alloc1 w7 (.cells #[.slice pA (proofL (entsS s.rows t c) i).length pc] 43)
              have Hw8 := BlkIs.new w7 43 #[.slice pA (proofL (entsS s.rows t c) i).length pc]
              obtain ⟨G12, hG12⟩ : ∃ X, X = w7.heap.size := ⟨_, rfl⟩
              rw [← hG12] at Hw8 ⊢
              have fG12 : wr.heap.size ≤ G12 := by rw [hG12]; exact Lw7
              have Aw8 := Below.next Aw7 bn
              have Kw8 := Kw7.later bn
              have Pw8 := Pw7.later bn
              have Ow8 := ownsRow_later bn Ow7
              have Vw8 := ownsRow_later bn Vw7
              have Lw8 := Nat.le_trans Lw7 bn.size
              have Mw8 := HM.out _ Aw8 Kw8
              refine hK.out _ _ Mw8 ?_
              try simp only [List.setIfInBounds_toArray, List.set_cons_zero, List.set_cons_succ]
              generalize w7.alloc (.cells #[.slice pA (proofL (entsS s.rows t c) i).length pc] 43) = w8 at *
              clear hHeld hK K bn hG12 Aw7 Kw7 Pw7 Ow7 Vw7 Lw7
              have hHeld := Mw8
              refine FrontH.each (rs := [13]) (by kernel_rfl) (by simp) ?_
              refine EachH.cons inv 13 (o := ?ooq14) ?hoq14 (by decide) (by kernel_rfl) (fun inv K hK => ?_) ?restq14
              case hoq14 => simp only [List.getElem?_toArray, List.getElem?_cons_succ, List.getElem?_cons_zero]; rfl
              · have hq1 := Pw8.paths.choose_spec.1
                have hq2 := Pw8.paths.choose_spec.2.1
                rw [hq1] at hq2
                refine step_append_lies _ (by rfl) (.tmp 87) (.tmp 89) 49 (by rfl) B 43 iS _ 1 24 Tryz.underlying49 hiS hS0 hS1 hS2 rfl (by decide) v2 ((cutP s.rows t c lo hi).take k).length Pw8.paths.choose (by rfl) hq2 ⟨G12, 0, none⟩ 1 1 [.slice pA (proofL (entsS s.rows t c) i).length pc] (by rfl) rfl (blk_news Hw8 0 [.slice pA (proofL (entsS s.rows t c) i).length pc] rfl) (by simp [Value.oneCell']) (by decide) (by have := HLN.out.2; unfold maxLen; omega) (by have := HLN.out.2; omega) (Nat.le_trans HSZ.out Lw8) w8.heap.size rfl ?_
                intro g6 c6 w9 own6 gr6 hat6 hlt6
                have o6 := fun k e => own_ge hq2 (k := k) e
                have Aw9 := Below.grown Aw8 gr6 Aw8.size (fun k e => by have := o6 k e; omega)
                have Kw9 : BlkIs w9 np 51 (pfC t c lo hi n f0 v1 v2 v3) := (gr6.block np Kw8.lt (fun e => by have := o6 np e.symm; omega)).trans Kw8
                have Pw9 := Pw8.path own6 gr6 hat6 Vw8 (fun b hb => ⟨hn5 b hb, fun e => by have h1 := HPV.out b hb; have h2 := HV2.out b e; omega⟩)
                have Ow9 := Ow8.kept gr6 (own_other (fun k e => (HV3.out k e).2) o6)
                have Mw9 := HM.out _ Aw9 Kw9
                refine hK.out _ _ Mw9 ?_
                try simp only [Act.put, List.setIfInBounds_toArray, List.set_cons_zero, List.set_cons_succ]
                have z6 : w9.cell? ⟨np, 6, none⟩ = some v1 := Kw9.cell 6
                have z7 : w9.cell? ⟨np, 7, none⟩ = some v2 := Kw9.cell 7
                have fz6 := Kw9.frozen 6
                have fz7 := Kw9.frozen 7
                have hfin : PvC w W0 B np s t c lo hi n f0 v3 (k + 1) ((w9.setCell ⟨np, 6, none⟩ (.slice (some ⟨g5, 0, none⟩) (((cutO (tabS s.rows t c) c lo hi).take k).length + 1) c5)).setCell ⟨np, 7, none⟩ (.slice (some ⟨g6, 0, none⟩) (((cutP s.rows t c lo hi).take k).length + 1) c6)) := by
                  refine ⟨(Aw9.setCell (p := ⟨np, 6, none⟩) HBL.out _).setCell (p := ⟨np, 7, none⟩) HBL.out _, ⟨_, _, (Kw9.set 6 _).set 7 _, ?_⟩, ownsRow_set (ownsRow_set Ow9 _ _ (fun b e => (HV3.out b e).1)) _ _ (fun b e => (HV3.out b e).1), ?_⟩
                  · rw [HTK.out.1, HTK.out.2]
                    exact (Pw9.set ⟨np, 6, none⟩ _ hnB).set ⟨np, 7, none⟩ _ hnB
                  · have h1 := Nat.le_trans (Nat.le_trans HSZ.out Lw8) gr6.size
                    simpa [World.setCell] using h1
                simp only [List.length_take] at hfin
                have HFIN := Lib.hid hfin
                clear hHeld hK K Aw8 Kw8 Pw8 Ow8 Vw8 Lw8 Hw8 own6 gr6 hat6 hlt6 o6 hn5 Aw9 Kw9 Pw9 Ow9 Mw9 hq1 hq2 hfin
                refine ⟨by kernel_rfl, ?_⟩
                simp only [List.drop_succ_cons, List.drop_zero]
                go_wp2_with fail
                refine NoPanic.normal ?_
                go_wp2_with fail
                exact ⟨⟨k + 1, by have := HI.out; have := HH1.out; omega, by have := HI.out; go_num, HFIN⟩, by have := HH1.out; simp [intOf]; omega⟩
              exact EachH.nil
            exact EachH.nil
          refine EachH.cons inv 12 (o := ?ooq15) ?hoq15 (by decide) (by kernel_rfl) (fun inv K hK => ?_) ?restq15
          case hoq15 => simp only [List.getElem?_toArray, List.getElem?_cons_succ, List.getElem?_cons_zero]; rfl
          · go_simp
            have bn := Below.alloc1 w6 (.cells #[.slice pA (proofL (entsS s.rows t c) i).length pc] 43)
            have Hw7 := BlkIs.new w6 43 #[.slice pA (proofL (entsS s.rows t c) i).length pc]
            obtain ⟨G12, hG12⟩ : ∃ X, X = w6.heap.size := ⟨_, rfl⟩
            rw [← hG12] at Hw7 ⊢
            have fG12 : wr.heap.size ≤ G12 := by rw [hG12]; exact Lw6
            have Aw7 := Below.next Aw6 bn
            have Kw7 := Kw6.later bn
            have Pw7 := Pw6.later bn
            have Ow7 := ownsRow_later bn Ow6
            have Vw7 := ownsRow_later bn Vw6
            have Lw7 := Nat.le_trans Lw6 bn.size
            have Rw7 := Rw6.later bn
            have Mw7 := HM.out _ Aw7 Kw7
            refine hK.out _ _ Mw7 ?_
            try simp only [List.setIfInBounds_toArray, List.set_cons_zero, List.set_cons_succ]
            generalize w6.alloc (.cells #[.slice pA (proofL (entsS s.rows t c) i).length pc] 43) = w7 at *
            clear hHeld hK K bn hG12 Aw6 Kw6 Pw6 Ow6 Vw6 Lw6 Rw6
            have hHeld := Mw7
            refine FrontH.each (rs := [8]) (by kernel_rfl) (by simp) ?_
            refine EachH.cons inv 8 (o := ?ooq16) ?hoq16 (by decide) (by kernel_rfl) (fun inv K hK => ?_) ?restq16
            case hoq16 => simp only [List.getElem?_toArray, List.getElem?_cons_succ, List.getElem?_cons_zero]; rfl
            · refine step_append_lies _ (by rfl) (.tmp 78) (.tmp 84) 48 (by rfl) B 67 iR _ 5 40 Tryz.underlying48 hiR hR0 hR1 hR2 rfl (by decide) v1 ((cutO (tabS s.rows t c) c lo hi).take k).length _ (by rfl) Pw7.rows ⟨G7, 0, none⟩ 1 1 [.int .i64 xt, .int .i64 xk, .int .i64 x0, .int .i64 x1, .int .i64 x2] (by rfl) rfl (blk_news Rw7 0 [.int .i64 xt, .int .i64 xk, .int .i64 x0, .int .i64 x1, .int .i64 x2] rfl) HONE.out (by decide) (by have := HLN.out.1; unfold maxLen; omega) (by have := HLN.out.1; omega) (Nat.le_trans HSZ.out Lw7) w7.heap.size rfl ?_
              intro g5 c5 w8 own5 gr5 hat5 hlt5
              have o5 := fun k e => own_ge Pw7.rows (k := k) e
              have Aw8 := Below.grown Aw7 gr5 Aw7.size (fun k e => by have := o5 k e; omega)
              have Kw8 : BlkIs w8 np 51 (pfC t c lo hi n f0 v1 v2 v3) := (gr5.block np Kw7.lt (fun e => by have := o5 np e.symm; omega)).trans Kw7
              have hn5 : ∀ b, (Value.slice pA (proofL (entsS s.rows t c) i).length pc).ownBlock = some b → (Value.slice (some ⟨g5, 0, none⟩) (((cutO (tabS s.rows t c) c lo hi).take k).length + 1) c5).ownBlock ≠ some b := fun b hb e => by
                have e : g5 = b := Option.some.inj e
                have h1 := HPV.out b hb
                have h2 := (Vw7.lt b hb).2
                rcases hat5 with h | h
                · have := HV1.out g5 h; omega
                · omega
              have Pw8 := Pw7.row (x := ⟨xt, xk, x0, x1, x2⟩) own5 gr5 hat5
              have Ow8 := Ow7.kept gr5 (own_other (fun k e => (HV3.out k e).2) o5)
              have Vw8 := Vw7.kept gr5 (own_apart (fun k e => HPV.out k e) HV1.out)
              have Lw8 := Nat.le_trans Lw7 gr5.size
              have Hw8 : BlkIs w8 G12 43 [.slice pA (proofL (entsS s.rows t c) i).length pc] := (gr5.block G12 Hw7.lt (fun e => by have := HV1.out G12 e.symm; omega)).trans Hw7
              have Mw8 := HM.out _ Aw8 Kw8
              refine hK.out _ _ Mw8 ?_
              try simp only [Act.put, List.setIfInBounds_toArray, List.set_cons_zero, List.set_cons_succ]
              clear hHeld hK K Aw7 Kw7 Pw7 Ow7 Vw7 Lw7 Rw7 own5 gr5 hat5 hlt5 o5 Hw7
              have hHeld := Mw8
              refine FrontH.take hc front_done inv 14 (oi := ?oiq17) (v := ?vq17) ?hiq17 (by decide) (by decide) ?hfq17 ?hrq17 ?hQq17 (Or.inl ⟨?hwq17, ?hyq17⟩) hHeld (fun inv => ?_)
              case hiq17 => simp only [List.getElem?_toArray, List.getElem?_cons_succ, List.getElem?_cons_zero]; rfl
              case hfq17 => kernel_rfl
              case hrq17 => kernel_rfl
              case hQq17 => exact fun _ _ _ h => h
              case hwq17 => rfl
              case hyq17 => intro w hSw; obtain ⟨m1, m2, m3, m4, m5, m6, m7, m8⟩ := hSw; go_simp; try with_reducible rfl
              try simp only [Act.put, List.setIfInBounds_toArray, List.set_cons_zero, List.set_cons_succ]
              refine FrontH.each (rs := [13]) (by kernel_rfl) (by simp) ?_
              refine EachH.cons inv 13 (o := ?ooq18) ?hoq18 (by decide) (by kernel_rfl) (fun inv K hK => ?_) ?restq18
              case hoq18 => simp only [List.getElem?_toArray, List.getElem?_cons_succ, List.getElem?_cons_zero]; rfl
              · have hq1 := Pw8.paths.choose_spec.1
                have hq2 := Pw8.paths.choose_spec.2.1
                rw [hq1] at hq2
                refine step_append_lies _ (by rfl) (.tmp 87) (.tmp 89) 49 (by rfl) B 43 iS _ 1 24 Tryz.underlying49 hiS hS0 hS1 hS2 rfl (by decide) v2 ((cutP s.rows t c lo hi).take k).length Pw8.paths.choose (by rfl) hq2 ⟨G12, 0, none⟩ 1 1 [.slice pA (proofL (entsS s.rows t c) i).length pc] (by rfl) rfl (blk_news Hw8 0 [.slice pA (proofL (entsS s.rows t c) i).length pc] rfl) (by simp [Value.oneCell']) (by decide) (by have := HLN.out.2; unfold maxLen; omega) (by have := HLN.out.2; omega) (Nat.le_trans HSZ.out Lw8) w8.heap.size rfl ?_
                intro g6 c6 w9 own6 gr6 hat6 hlt6
                have o6 := fun k e => own_ge hq2 (k := k) e
                have Aw9 := Below.grown Aw8 gr6 Aw8.size (fun k e => by have := o6 k e; omega)
                have Kw9 : BlkIs w9 np 51 (pfC t c lo hi n f0 v1 v2 v3) := (gr6.block np Kw8.lt (fun e => by have := o6 np e.symm; omega)).trans Kw8
                have Pw9 := Pw8.path own6 gr6 hat6 Vw8 (fun b hb => ⟨hn5 b hb, fun e => by have h1 := HPV.out b hb; have h2 := HV2.out b e; omega⟩)
                have Ow9 := Ow8.kept gr6 (own_other (fun k e => (HV3.out k e).2) o6)
                have Mw9 := HM.out _ Aw9 Kw9
                refine hK.out _ _ Mw9 ?_
                try simp only [Act.put, List.setIfInBounds_toArray, List.set_cons_zero, List.set_cons_succ]
                have z6 : w9.cell? ⟨np, 6, none⟩ = some v1 := Kw9.cell 6
                have z7 : w9.cell? ⟨np, 7, none⟩ = some v2 := Kw9.cell 7
                have fz6 := Kw9.frozen 6
                have fz7 := Kw9.frozen 7
                have hfin : PvC w W0 B np s t c lo hi n f0 v3 (k + 1) ((w9.setCell ⟨np, 6, none⟩ (.slice (some ⟨g5, 0, none⟩) (((cutO (tabS s.rows t c) c lo hi).take k).length + 1) c5)).setCell ⟨np, 7, none⟩ (.slice (some ⟨g6, 0, none⟩) (((cutP s.rows t c lo hi).take k).length + 1) c6)) := by
                  refine ⟨(Aw9.setCell (p := ⟨np, 6, none⟩) HBL.out _).setCell (p := ⟨np, 7, none⟩) HBL.out _, ⟨_, _, (Kw9.set 6 _).set 7 _, ?_⟩, ownsRow_set (ownsRow_set Ow9 _ _ (fun b e => (HV3.out b e).1)) _ _ (fun b e => (HV3.out b e).1), ?_⟩
                  · rw [HTK.out.1, HTK.out.2]
                    exact (Pw9.set ⟨np, 6, none⟩ _ hnB).set ⟨np, 7, none⟩ _ hnB
                  · have h1 := Nat.le_trans (Nat.le_trans HSZ.out Lw8) gr6.size
                    simpa [World.setCell] using h1
                simp only [List.length_take] at hfin
                have HFIN := Lib.hid hfin
                clear hHeld hK K Aw8 Kw8 Pw8 Ow8 Vw8 Lw8 Hw8 own6 gr6 hat6 hlt6 o6 hn5 Aw9 Kw9 Pw9 Ow9 Mw9 hq1 hq2 hfin
                refine ⟨by kernel_rfl, ?_⟩
                simp only [List.drop_succ_cons, List.drop_zero]
                go_wp2_with fail
                refine NoPanic.normal ?_
                go_wp2_with fail
                exact ⟨⟨k + 1, by have := HI.out; have := HH1.out; omega, by have := HI.out; go_num, HFIN⟩, by have := HH1.out; simp [intOf]; omega⟩
              exact EachH.nil
            exact EachH.nil
          exact EachH.nil
        refine EachH.cons inv 12 (o := ?ooq19) ?hoq19 (by decide) (by kernel_rfl) (fun inv K hK => ?_) ?restq19
        case hoq19 => simp only [List.getElem?_toArray, List.getElem?_cons_succ, List.getElem?_cons_zero]; rfl
        · go_simp
          have bn := Below.alloc1 w5 (.cells #[.slice pA (proofL (entsS s.rows t c) i).length pc] 43)
          have Hw6 := BlkIs.new w5 43 #[.slice pA (proofL (entsS s.rows t c) i).length pc]
          obtain ⟨G12, hG12⟩ : ∃ X, X = w5.heap.size := ⟨_, rfl⟩
          rw [← hG12] at Hw6 ⊢
          have fG12 : wr.heap.size ≤ G12 := by rw [hG12]; exact Lw5
          have Aw6 := Below.next Aw5 bn
          have Kw6 := Kw5.later bn
          have Pw6 := Pw5.later bn
          have Ow6 := ownsRow_later bn Ow5
          have Vw6 := ownsRow_later bn Vw5
          have Lw6 := Nat.le_trans Lw5 bn.size
          have Mw6 := HM.out _ Aw6 Kw6
          refine hK.out _ _ Mw6 ?_
          try simp only [List.setIfInBounds_toArray, List.set_cons_zero, List.set_cons_succ]
          generalize w5.alloc (.cells #[.slice pA (proofL (entsS s.rows t c) i).length pc] 43) = w6 at *
          clear hHeld hK K bn hG12 Aw5 Kw5 Pw5 Ow5 Vw5 Lw5
          have hHeld := Mw6
          refine FrontH.each (rs := [7]) (by kernel_rfl) (by simp) ?_
          refine EachH.cons inv 7 (o := ?ooq20) ?hoq20 (by decide) (by kernel_rfl) (fun inv K hK => ?_) ?restq20
          case hoq20 => simp only [List.getElem?_toArray, List.getElem?_cons_succ, List.getElem?_cons_zero]; rfl
          · go_simp
            have bn := Below.alloc1 w6 (.cells #[.int .i64 xt, .int .i64 xk, .int .i64 x0, .int .i64 x1, .int .i64 x2] 67)
            have Rw7 := BlkIs.new w6 67 #[.int .i64 xt, .int .i64 xk, .int .i64 x0, .int .i64 x1, .int .i64 x2]
            obtain ⟨G7, hG7⟩ : ∃ X, X = w6.heap.size := ⟨_, rfl⟩
            rw [← hG7] at Rw7 ⊢
            have fG7 : wr.heap.size ≤ G7 := by rw [hG7]; exact Lw6
            have Aw7 := Below.next Aw6 bn
            have Kw7 := Kw6.later bn
            have Pw7 := Pw6.later bn
            have Ow7 := ownsRow_later bn Ow6
            have Vw7 := ownsRow_later bn Vw6
            have Lw7 := Nat.le_trans Lw6 bn.size
            have Hw7 := Hw6.later bn
            have Mw7 := HM.out _ Aw7 Kw7
            refine hK.out _ _ Mw7 ?_
            try simp only [List.setIfInBounds_toArray, List.set_cons_zero, List.set_cons_succ]
            generalize w6.alloc (.cells #[.int .i64 xt, .int .i64 xk, .int .i64 x0, .int .i64 x1, .int .i64 x2] 67) = w7 at *
            clear hHeld hK K bn hG7 Aw6 Kw6 Pw6 Ow6 Vw6 Lw6 Hw6
            have hHeld := Mw7
            refine FrontH.each (rs := [8]) (by kernel_rfl) (by simp) ?_
            refine EachH.cons inv 8 (o := ?ooq21) ?hoq21 (by decide) (by kernel_rfl) (fun inv K hK => ?_) ?restq21
            case hoq21 => simp only [List.getElem?_toArray, List.getElem?_cons_succ, List.getElem?_cons_zero]; rfl
            · refine step_append_lies _ (by rfl) (.tmp 78) (.tmp 84) 48 (by rfl) B 67 iR _ 5 40 Tryz.underlying48 hiR hR0 hR1 hR2 rfl (by decide) v1 ((cutO (tabS s.rows t c) c lo hi).take k).length _ (by rfl) Pw7.rows ⟨G7, 0, none⟩ 1 1 [.int .i64 xt, .int .i64 xk, .int .i64 x0, .int .i64 x1, .int .i64 x2] (by rfl) rfl (blk_news Rw7 0 [.int .i64 xt, .int .i64 xk, .int .i64 x0, .int .i64 x1, .int .i64 x2] rfl) HONE.out (by decide) (by have := HLN.out.1; unfold maxLen; omega) (by have := HLN.out.1; omega) (Nat.le_trans HSZ.out Lw7) w7.heap.size rfl ?_
              intro g5 c5 w8 own5 gr5 hat5 hlt5
              have o5 := fun k e => own_ge Pw7.rows (k := k) e
              have Aw8 := Below.grown Aw7 gr5 Aw7.size (fun k e => by have := o5 k e; omega)
              have Kw8 : BlkIs w8 np 51 (pfC t c lo hi n f0 v1 v2 v3) := (gr5.block np Kw7.lt (fun e => by have := o5 np e.symm; omega)).trans Kw7
              have hn5 : ∀ b, (Value.slice pA (proofL (entsS s.rows t c) i).length pc).ownBlock = some b → (Value.slice (some ⟨g5, 0, none⟩) (((cutO (tabS s.rows t c) c lo hi).take k).length + 1) c5).ownBlock ≠ some b := fun b hb e => by
                have e : g5 = b := Option.some.inj e
                have h1 := HPV.out b hb
                have h2 := (Vw7.lt b hb).2
                rcases hat5 with h | h
                · have := HV1.out g5 h; omega
                · omega
              have Pw8 := Pw7.row (x := ⟨xt, xk, x0, x1, x2⟩) own5 gr5 hat5
              have Ow8 := Ow7.kept gr5 (own_other (fun k e => (HV3.out k e).2) o5)
              have Vw8 := Vw7.kept gr5 (own_apart (fun k e => HPV.out k e) HV1.out)
              have Lw8 := Nat.le_trans Lw7 gr5.size
              have Hw8 : BlkIs w8 G12 43 [.slice pA (proofL (entsS s.rows t c) i).length pc] := (gr5.block G12 Hw7.lt (fun e => by have := HV1.out G12 e.symm; omega)).trans Hw7
              have Mw8 := HM.out _ Aw8 Kw8
              refine hK.out _ _ Mw8 ?_
              try simp only [Act.put, List.setIfInBounds_toArray, List.set_cons_zero, List.set_cons_succ]
              clear hHeld hK K Aw7 Kw7 Pw7 Ow7 Vw7 Lw7 Rw7 own5 gr5 hat5 hlt5 o5 Hw7
              have hHeld := Mw8
              refine FrontH.take hc front_done inv 14 (oi := ?oiq22) (v := ?vq22) ?hiq22 (by decide) (by decide) ?hfq22 ?hrq22 ?hQq22 (Or.inl ⟨?hwq22, ?hyq22⟩) hHeld (fun inv => ?_)
              case hiq22 => simp only [List.getElem?_toArray, List.getElem?_cons_succ, List.getElem?_cons_zero]; rfl
              case hfq22 => kernel_rfl
              case hrq22 => kernel_rfl
              case hQq22 => exact fun _ _ _ h => h
              case hwq22 => rfl
              case hyq22 => intro w hSw; obtain ⟨m1, m2, m3, m4, m5, m6, m7, m8⟩ := hSw; go_simp; try with_reducible rfl
              try simp only [Act.put, List.setIfInBounds_toArray, List.set_cons_zero, List.set_cons_succ]
              refine FrontH.each (rs := [13]) (by kernel_rfl) (by simp) ?_
              refine EachH.cons inv 13 (o := ?ooq23) ?hoq23 (by decide) (by kernel_rfl) (fun inv K hK => ?_) ?restq23
              case hoq23 => simp only [List.getElem?_toArray, List.getElem?_cons_succ, List.getElem?_cons_zero]; rfl
              · have hq1 := Pw8.paths.choose_spec.1
                have hq2 := Pw8.paths.choose_spec.2.1
                rw [hq1] at hq2
                refine step_append_lies _ (by rfl) (.tmp 87) (.tmp 89) 49 (by rfl) B 43 iS _ 1 24 Tryz.underlying49 hiS hS0 hS1 hS2 rfl (by decide) v2 ((cutP s.rows t c lo hi).take k).length Pw8.paths.choose (by rfl) hq2 ⟨G12, 0, none⟩ 1 1 [.slice pA (proofL (entsS s.rows t c) i).length pc] (by rfl) rfl (blk_news Hw8 0 [.slice pA (proofL (entsS s.rows t c) i).length pc] rfl) (by simp [Value.oneCell']) (by decide) (by have := HLN.out.2; unfold maxLen; omega) (by have := HLN.out.2; omega) (Nat.le_trans HSZ.out Lw8) w8.heap.size rfl ?_
                intro g6 c6 w9 own6 gr6 hat6 hlt6
                have o6 := fun k e => own_ge hq2 (k := k) e
                have Aw9 := Below.grown Aw8 gr6 Aw8.size (fun k e => by have := o6 k e; omega)
                have Kw9 : BlkIs w9 np 51 (pfC t c lo hi n f0 v1 v2 v3) := (gr6.block np Kw8.lt (fun e => by have := o6 np e.symm; omega)).trans Kw8
                have Pw9 := Pw8.path own6 gr6 hat6 Vw8 (fun b hb => ⟨hn5 b hb, fun e => by have h1 := HPV.out b hb; have h2 := HV2.out b e; omega⟩)
                have Ow9 := Ow8.kept gr6 (own_other (fun k e => (HV3.out k e).2) o6)
                have Mw9 := HM.out _ Aw9 Kw9
                refine hK.out _ _ Mw9 ?_
                try simp only [Act.put, List.setIfInBounds_toArray, List.set_cons_zero, List.set_cons_succ]
                have z6 : w9.cell? ⟨np, 6, none⟩ = some v1 := Kw9.cell 6
                have z7 : w9.cell? ⟨np, 7, none⟩ = some v2 := Kw9.cell 7
                have fz6 := Kw9.frozen 6
                have fz7 := Kw9.frozen 7
                have hfin : PvC w W0 B np s t c lo hi n f0 v3 (k + 1) ((w9.setCell ⟨np, 6, none⟩ (.slice (some ⟨g5, 0, none⟩) (((cutO (tabS s.rows t c) c lo hi).take k).length + 1) c5)).setCell ⟨np, 7, none⟩ (.slice (some ⟨g6, 0, none⟩) (((cutP s.rows t c lo hi).take k).length + 1) c6)) := by
                  refine ⟨(Aw9.setCell (p := ⟨np, 6, none⟩) HBL.out _).setCell (p := ⟨np, 7, none⟩) HBL.out _, ⟨_, _, (Kw9.set 6 _).set 7 _, ?_⟩, ownsRow_set (ownsRow_set Ow9 _ _ (fun b e => (HV3.out b e).1)) _ _ (fun b e => (HV3.out b e).1), ?_⟩
                  · rw [HTK.out.1, HTK.out.2]
                    exact (Pw9.set ⟨np, 6, none⟩ _ hnB).set ⟨np, 7, none⟩ _ hnB
                  · have h1 := Nat.le_trans (Nat.le_trans HSZ.out Lw8) gr6.size
                    simpa [World.setCell] using h1
                simp only [List.length_take] at hfin
                have HFIN := Lib.hid hfin
                clear hHeld hK K Aw8 Kw8 Pw8 Ow8 Vw8 Lw8 Hw8 own6 gr6 hat6 hlt6 o6 hn5 Aw9 Kw9 Pw9 Ow9 Mw9 hq1 hq2 hfin
                refine ⟨by kernel_rfl, ?_⟩
                simp only [List.drop_succ_cons, List.drop_zero]
                go_wp2_with fail
                refine NoPanic.normal ?_
                go_wp2_with fail
                exact ⟨⟨k + 1, by have := HI.out; have := HH1.out; omega, by have := HI.out; go_num, HFIN⟩, by have := HH1.out; simp [intOf]; omega⟩
              exact EachH.nil
            exact EachH.nil
          exact EachH.nil
        exact EachH.nil
      case neg =>
        skip
        have hA1 := HBA.out.later HR1.out.below
        obtain ⟨v1, v2, Kp, hpf⟩ := HR1.out.box
        have hown3 := HR1.out.own
        have hsz := HR1.out.size
        have hbel := HR1.out.below
        have hfall : (cutO (tabS s.rows t c) c lo hi).take k = cutO (tabS s.rows t c) c lo hi ∧ (cutP s.rows t c lo hi).take k = cutP s.rows t c lo hi := by
          have hl : (cutO (tabS s.rows t c) c lo hi).length ≤ k := by
            obtain ⟨h0, h1', hn⟩ := HF.out
            unfold cutO
            rw [List.length_drop, List.length_take]
            omega
          exact ⟨List.take_of_length_le hl, List.take_of_length_le (by rw [cutP_len]; exact hl)⟩
        rw [hfall.1, hfall.2] at hpf
        obtain ⟨vA1, c1', rfl, -, -, -⟩ := ownsRow_form hpf.rows
        obtain ⟨cs9, hcs1, hcs2, -⟩ := hpf.paths
        rw [hcs1] at hcs2
        clear hcs1
        obtain ⟨vA2, c2', rfl, -, -, -⟩ := ownsRow_form hcs2
        clear hcs2
        obtain ⟨vA3, c3', rfl, -, -, -⟩ := ownsRow_form hown3
        have y0 : wr.cell? ⟨np, 0, none⟩ = some (.int .i64 t) := Kp.cell 0
        have y1 : wr.cell? ⟨np, 1, none⟩ = some (.int .i64 c) := Kp.cell 1
        have y2 : wr.cell? ⟨np, 2, none⟩ = some (.int .i64 lo) := Kp.cell 2
        have y3 : wr.cell? ⟨np, 3, none⟩ = some (.int .i64 hi) := Kp.cell 3
        have y4 : wr.cell? ⟨np, 4, none⟩ = some (.int .i64 (n : Int)) := Kp.cell 4
        have y5 : wr.cell? ⟨np, 5, none⟩ = some (.int .i64 (f0 : Int)) := Kp.cell 5
        have y6 : wr.cell? ⟨np, 6, none⟩ = some (.slice vA1 (cutO (tabS s.rows t c) c lo hi).length c1') := Kp.cell 6
        have y7 : wr.cell? ⟨np, 7, none⟩ = some (.slice vA2 (cutP s.rows t c lo hi).length c2') := Kp.cell 7
        have y8 : wr.cell? ⟨np, 8, none⟩ = some (.slice vA3 16 c3') := Kp.cell 8
        have z0 : wr.cell? ⟨w.heap.size + 1 + 1 + 1, 0, none⟩ = some (.int .i64 0) := hA1.res.cell 0
        have fz0 := hA1.res.frozen 0
        have z1 : wr.cell? ⟨w.heap.size + 1 + 1 + 1, 1, none⟩ = some (.int .i64 0) := hA1.res.cell 1
        have fz1 := hA1.res.frozen 1
        have z2 : wr.cell? ⟨w.heap.size + 1 + 1 + 1, 2, none⟩ = some (.int .i64 0) := hA1.res.cell 2
        have fz2 := hA1.res.frozen 2
        have z3 : wr.cell? ⟨w.heap.size + 1 + 1 + 1, 3, none⟩ = some (.int .i64 0) := hA1.res.cell 3
        have fz3 := hA1.res.frozen 3
        have z4 : wr.cell? ⟨w.heap.size + 1 + 1 + 1, 4, none⟩ = some (.int .i64 0) := hA1.res.cell 4
        have fz4 := hA1.res.frozen 4
        have z5 : wr.cell? ⟨w.heap.size + 1 + 1 + 1, 5, none⟩ = some (.int .i64 0) := hA1.res.cell 5
        have fz5 := hA1.res.frozen 5
        have z6 : wr.cell? ⟨w.heap.size + 1 + 1 + 1, 6, none⟩ = some (.slice none 0 0) := hA1.res.cell 6
        have fz6 := hA1.res.frozen 6
        have z7 : wr.cell? ⟨w.heap.size + 1 + 1 + 1, 7, none⟩ = some (.slice none 0 0) := hA1.res.cell 7
        have fz7 := hA1.res.frozen 7
        have z8 : wr.cell? ⟨w.heap.size + 1 + 1 + 1, 8, none⟩ = some (.slice none 0 0) := hA1.res.cell 8
        have fz8 := hA1.res.frozen 8
        have t2 : decide (i < f1) = false := by simpa using h1
        have HK9 := Lib.hid Kp
        have HP9 := Lib.hid hpf
        have HO9 := Lib.hid hown3
        have HA9 := Lib.hid hA1
        clear Kp hpf hown3 hA1 hfall hsz hbel
        go_wp2_with fail
        obtain ⟨WF, hWF⟩ : ∃ W, W = (((((((((wr).setCell ⟨w.heap.size + 1 + 1 + 1, 0, none⟩ (.int .i64 t)).setCell ⟨w.heap.size + 1 + 1 + 1, 1, none⟩ (.int .i64 c)).setCell ⟨w.heap.size + 1 + 1 + 1, 2, none⟩ (.int .i64 lo)).setCell ⟨w.heap.size + 1 + 1 + 1, 3, none⟩ (.int .i64 hi)).setCell ⟨w.heap.size + 1 + 1 + 1, 4, none⟩ (.int .i64 (n : Int))).setCell ⟨w.heap.size + 1 + 1 + 1, 5, none⟩ (.int .i64 (f0 : Int))).setCell ⟨w.heap.size + 1 + 1 + 1, 6, none⟩ (.slice vA1 (cutO (tabS s.rows t c) c lo hi).length c1')).setCell ⟨w.heap.size + 1 + 1 + 1, 7, none⟩ (.slice vA2 (cutP s.rows t c lo hi).length c2')).setCell ⟨w.heap.size + 1 + 1 + 1, 8, none⟩ (.slice vA3 16 c3') := ⟨_, rfl⟩
        have hK9 : BlkIs WF (w.heap.size + 1 + 1 + 1) 51 (pfC t c lo hi n f0 (.slice vA1 (cutO (tabS s.rows t c) c lo hi).length c1') (.slice vA2 (cutP s.rows t c lo hi).length c2') (.slice vA3 16 c3')) := by
          rw [hWF]
          exact (((((((((HA9.out.res).set 0 (.int .i64 t)).set 1 (.int .i64 c)).set 2 (.int .i64 lo)).set 3 (.int .i64 hi)).set 4 (.int .i64 (n : Int))).set 5 (.int .i64 (f0 : Int))).set 6 (.slice vA1 (cutO (tabS s.rows t c) c lo hi).length c1')).set 7 (.slice vA2 (cutP s.rows t c lo hi).length c2')).set 8 (.slice vA3 16 c3')
        have hb9 : Below w.heap.size w WF := by
          rw [hWF]
          exact (((((((((HA9.out.below).setCell (p := ⟨w.heap.size + 1 + 1 + 1, 0, none⟩) (by simp; omega) (.int .i64 t)).setCell (p := ⟨w.heap.size + 1 + 1 + 1, 1, none⟩) (by simp; omega) (.int .i64 c)).setCell (p := ⟨w.heap.size + 1 + 1 + 1, 2, none⟩) (by simp; omega) (.int .i64 lo)).setCell (p := ⟨w.heap.size + 1 + 1 + 1, 3, none⟩) (by simp; omega) (.int .i64 hi)).setCell (p := ⟨w.heap.size + 1 + 1 + 1, 4, none⟩) (by simp; omega) (.int .i64 (n : Int))).setCell (p := ⟨w.heap.size + 1 + 1 + 1, 5, none⟩) (by simp; omega) (.int .i64 (f0 : Int))).setCell (p := ⟨w.heap.size + 1 + 1 + 1, 6, none⟩) (by simp; omega) (.slice vA1 (cutO (tabS s.rows t c) c lo hi).length c1')).setCell (p := ⟨w.heap.size + 1 + 1 + 1, 7, none⟩) (by simp; omega) (.slice vA2 (cutP s.rows t c lo hi).length c2')).setCell (p := ⟨w.heap.size + 1 + 1 + 1, 8, none⟩) (by simp; omega) (.slice vA3 16 c3')
        have hBw : w.heap.size + 4 ≤ B := by have := HA9.out.res.lt; have := HBA.out.res.lt; have := HBL.out; omega
        have hP9 : PfOwn WF B (cutO (tabS s.rows t c) c lo hi) (cutP s.rows t c lo hi) (.slice vA1 (cutO (tabS s.rows t c) c lo hi).length c1') (.slice vA2 (cutP s.rows t c lo hi).length c2') := by
          rw [hWF]
          exact (((((((((HP9.out).set ⟨w.heap.size + 1 + 1 + 1, 0, none⟩ (.int .i64 t) (by simp; omega)).set ⟨w.heap.size + 1 + 1 + 1, 1, none⟩ (.int .i64 c) (by simp; omega)).set ⟨w.heap.size + 1 + 1 + 1, 2, none⟩ (.int .i64 lo) (by simp; omega)).set ⟨w.heap.size + 1 + 1 + 1, 3, none⟩ (.int .i64 hi) (by simp; omega)).set ⟨w.heap.size + 1 + 1 + 1, 4, none⟩ (.int .i64 (n : Int)) (by simp; omega)).set ⟨w.heap.size + 1 + 1 + 1, 5, none⟩ (.int .i64 (f0 : Int)) (by simp; omega)).set ⟨w.heap.size + 1 + 1 + 1, 6, none⟩ (.slice vA1 (cutO (tabS s.rows t c) c lo hi).length c1') (by simp; omega)).set ⟨w.heap.size + 1 + 1 + 1, 7, none⟩ (.slice vA2 (cutP s.rows t c lo hi).length c2') (by simp; omega)).set ⟨w.heap.size + 1 + 1 + 1, 8, none⟩ (.slice vA3 16 c3') (by simp; omega)
        have hO9 : WF.ownsRow (w.heap.size + 4) 9 1 (.slice vA3 16 c3') 16 (svs (sumsS s.rows)) := by
          rw [hWF]
          exact ownsRow_set (ownsRow_set (ownsRow_set (ownsRow_set (ownsRow_set (ownsRow_set (ownsRow_set (ownsRow_set (ownsRow_set (HO9.out) _ _ (fun b e => by have := own_ge HO9.out e; show b ≠ w.heap.size + 1 + 1 + 1; omega)) _ _ (fun b e => by have := own_ge HO9.out e; show b ≠ w.heap.size + 1 + 1 + 1; omega)) _ _ (fun b e => by have := own_ge HO9.out e; show b ≠ w.heap.size + 1 + 1 + 1; omega)) _ _ (fun b e => by have := own_ge HO9.out e; show b ≠ w.heap.size + 1 + 1 + 1; omega)) _ _ (fun b e => by have := own_ge HO9.out e; show b ≠ w.heap.size + 1 + 1 + 1; omega)) _ _ (fun b e => by have := own_ge HO9.out e; show b ≠ w.heap.size + 1 + 1 + 1; omega)) _ _ (fun b e => by have := own_ge HO9.out e; show b ≠ w.heap.size + 1 + 1 + 1; omega)) _ _ (fun b e => by have := own_ge HO9.out e; show b ≠ w.heap.size + 1 + 1 + 1; omega)) _ _ (fun b e => by have := own_ge HO9.out e; show b ≠ w.heap.size + 1 + 1 + 1; omega)
        rw [← hWF]
        clear hWF
        have x0 : 0 = 0 := rfl
        have y0 : WF.cell? ⟨w.heap.size + 1 + 1 + 1, 0, none⟩ = some (.int .i64 t) := hK9.cell 0
        have y1 : WF.cell? ⟨w.heap.size + 1 + 1 + 1, 1, none⟩ = some (.int .i64 c) := hK9.cell 1
        have y2 : WF.cell? ⟨w.heap.size + 1 + 1 + 1, 2, none⟩ = some (.int .i64 lo) := hK9.cell 2
        have y3 : WF.cell? ⟨w.heap.size + 1 + 1 + 1, 3, none⟩ = some (.int .i64 hi) := hK9.cell 3
        have y4 : WF.cell? ⟨w.heap.size + 1 + 1 + 1, 4, none⟩ = some (.int .i64 (n : Int)) := hK9.cell 4
        have y5 : WF.cell? ⟨w.heap.size + 1 + 1 + 1, 5, none⟩ = some (.int .i64 (f0 : Int)) := hK9.cell 5
        have y6 : WF.cell? ⟨w.heap.size + 1 + 1 + 1, 6, none⟩ = some (.slice vA1 (cutO (tabS s.rows t c) c lo hi).length c1') := hK9.cell 6
        have y7 : WF.cell? ⟨w.heap.size + 1 + 1 + 1, 7, none⟩ = some (.slice vA2 (cutP s.rows t c lo hi).length c2') := hK9.cell 7
        have y8 : WF.cell? ⟨w.heap.size + 1 + 1 + 1, 8, none⟩ = some (.slice vA3 16 c3') := hK9.cell 8
        refine bodyPost_ret (by simp [results, Tryz.results15, go_sem, y0, y1, y2, y3, y4, y5, y6, y7, y8]; try rfl) rfl ?_
        obtain ⟨h0, h1', hn⟩ := HF.out
        refine ⟨_, _, _, ?_, hP9.mono (by omega), ownsRow_mono hO9 (by omega), hb9⟩
        rw [← hn, ← h0]
        rfl
end Go.Proofs.YtgbemgndbemllaaGreatDoor
