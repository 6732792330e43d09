/- The walk of SessionMerges. -/
import Derived.Test.YtejehdmllicfcaaDoorSesD
import Derived.Test.YtejehdmllicfcaaDoorSesQ
import Derived.Test.YtejehdmllicfcaaDoorApp
import Derived.Sort.AtCall
import Derived.Test.YtejehdmllicfcaaDoorDbg
import Derived.Outline
namespace Go.Proofs.YtejehdmllicfcaaDoor
open Go Go.RowKit

/-- the sessions gs, all different, made by the call, hold these tokens -/
def SesAll (w : World) (base : Nat) (gs : List Nat) (ts : List Int) : Prop :=
  gs.length = ts.length ∧ gs.Nodup ∧ ∀ (i g : Nat) (t : Int), gs[i]? = some g → ts[i]? = some t → base ≤ g ∧ SesIs w g t

theorem SesAll.nil (w : World) (base : Nat) : SesAll w base [] [] := ⟨rfl, by simp, fun i g t h => by simp at h⟩
theorem SesAll.mono {w w' : World} {base : Nat} {gs : List Nat} {ts : List Int} (h : SesAll w base gs ts) (hk : ∀ g t, SesIs w g t → SesIs w' g t) : SesAll w' base gs ts :=
  ⟨h.1, h.2.1, fun i g t a b => ⟨(h.2.2 i g t a b).1, hk _ _ (h.2.2 i g t a b).2⟩⟩
theorem SesAll.lt {w : World} {base : Nat} {gs : List Nat} {ts : List Int} (h : SesAll w base gs ts) : ∀ g ∈ gs, g < w.heap.size := by
  intro g hg
  obtain ⟨i, hi⟩ := List.mem_iff_getElem?.1 hg
  have hl : i < ts.length := by rw [← h.1]; exact (List.getElem?_eq_some_iff.1 hi).1
  exact BlkIs.lt (h.2.2 i g _ hi (List.getElem?_eq_getElem hl)).2
theorem SesAll.upd {w w' : World} {base b : Nat} {gs : List Nat} {ts : List Int} (h : SesAll w base gs ts) (hu : Upd b w w') (hb : b ∉ gs) : SesAll w' base gs ts := by
  refine ⟨h.1, h.2.1, fun i g t hg ht => ⟨(h.2.2 i g t hg ht).1, BlkIs.upd (h.2.2 i g t hg ht).2 hu ?_⟩⟩
  rintro rfl
  exact hb (List.mem_of_getElem? hg)
theorem SesAll.snoc {w : World} {base : Nat} {gs : List Nat} {ts : List Int} {b : Nat} {t : Int} (h : SesAll w base gs ts) (hb : b ∉ gs) (hB : base ≤ b) (hs : SesIs w b t) : SesAll w base (gs ++ [b]) (ts ++ [t]) := by
  obtain ⟨h1, h2, h3⟩ := h
  refine ⟨by simp [h1], by rw [List.nodup_append]; exact ⟨h2, by simp, fun a ha c hc => by simp at hc; subst hc; exact fun e => hb (e ▸ ha)⟩, fun i g u hg hu => ?_⟩
  rcases Nat.lt_trichotomy i gs.length with hi | hi | hi
  · rw [List.getElem?_append_left hi] at hg
    rw [List.getElem?_append_left (by omega)] at hu
    exact h3 i g u hg hu
  · rw [List.getElem?_append_right (by omega), show i - gs.length = 0 by omega] at hg
    rw [List.getElem?_append_right (by omega), show i - ts.length = 0 by omega] at hu
    simp at hg hu
    subst hg hu
    exact ⟨hB, hs⟩
  · rw [List.getElem?_eq_none (by simp; omega)] at hg
    simp at hg

theorem Tryd.infoSes : (Tryd.prog.info? 24).map (fun i => (i.zero, i.size, i.bytes)) = some (some (.pointer none), 1, 8) := by kernel_rfl

theorem six {gs : List Nat} (h : gs.length = 6) : ∃ g0 g1 g2 g3 g4 g5, gs = [g0, g1, g2, g3, g4, g5] := by
  match gs, h with
  | [g0, g1, g2, g3, g4, g5], _ => exact ⟨_, _, _, _, _, _, rfl⟩

theorem take_get {cs : List Value} {k : Nat} {xs : List Value} (h : cs.take k = xs) {j : Nat} (hj : j < k) {v : Value} (hv : xs[j]? = some v) : cs[j]? = some v := by
  rw [← h, List.getElem?_take, if_pos hj] at hv
  exact hv

/-- the tokens of the first and the fourth session after i - 1 merges -/
def MrgAt (A B C : Int) (i : Int) (u0 u3 : Int) : Prop :=
  (i = 1 ∧ u0 = A ∧ u3 = C) ∨ (i = 2 ∧ u0 = raiseS A B ∧ u3 = raiseS C B) ∨ (i = 3 ∧ u0 = raiseS (raiseS A B) C ∧ u3 = raiseS (raiseS C B) A)

theorem mrg_end (A B C : Int) : raiseS (raiseS C B) A = raiseS (raiseS A B) C ∧ B ≤ raiseS (raiseS A B) C := by
  unfold raiseS
  constructor <;> (repeat' split) <;> omega

theorem raiseS_self (t : Int) : raiseS t t = t := by unfold raiseS; split <;> rfl

/-- the token of the session for n -/
def tokOf (n : Int) : Int := wroteS 0 (pickZ n 10001)

/-- the six sessions with these tokens, the row that points to them, and nothing else has turned -/
def MSt (w : World) (gr : Nat) (cs : List Value) (gs : List Nat) (us : List Int) (W : World) : Prop := SesAll W w.heap.size gs us ∧ BlkIs W gr 24 cs ∧ Below w.heap.size w W

theorem MSt.drew {w : World} {gr : Nat} {cs : List Value} {gs : List Nat} {us : List Int} {W : World} (h : MSt w gr cs gs us W) : MSt w gr cs gs us W.drew :=
  ⟨h.1.mono fun _ _ hs => BlkIs.drew hs, h.2.1.drew, h.2.2.drew⟩
theorem MSt.drewN {w : World} {gr : Nat} {cs : List Value} {gs : List Nat} {us : List Int} {W : World} (h : MSt w gr cs gs us W) (n : Nat) : MSt w gr cs gs us (W.drewN n) :=
  ⟨h.1.mono fun _ _ hs => BlkIs.drewN hs n, h.2.1.drewN n, below_drewN' h.2.2 n⟩

theorem MSt.merge {w : World} {gr : Nat} {cs : List Value} {gs : List Nat} {us : List Int} {W : World} (h : MSt w gr cs gs us W) (hr : gr ∉ gs) (i j : Nat) {a b : Nat} {x y : Int} (ha : gs[i]? = some a) (hb : gs[j]? = some b) (hx : us[i]? = some x) (hy : us[j]? = some y) :
    Calls Tryd.prog 27 #[.pointer (some ⟨a, 0, none⟩), .pointer (some ⟨b, 0, none⟩)] W fun e W' => e = .returned (.int .i64 0) ∧ MSt w gr cs gs (us.set i (raiseS x y)) W' := by
  obtain ⟨⟨h1, h2, h3⟩, hrow, hbel⟩ := h
  refine (merge_ok W a b x y (h3 i a x ha hx).2 (h3 j b y hb hy).2).mono ?_
  rintro e W' ⟨rfl, hs, hu⟩
  refine ⟨rfl, ⟨by rw [h1, List.length_set], h2, fun k g t hg ht => ?_⟩, BlkIs.upd hrow hu fun e => hr (e ▸ List.mem_of_getElem? ha), Below.upd hbel hu (h3 i a x ha hx).1⟩
  by_cases hk : k = i
  · subst hk
    rw [ha] at hg
    obtain rfl := Option.some.inj hg
    rw [List.getElem?_set_self (List.getElem?_eq_some_iff.1 hx).1] at ht
    obtain rfl := Option.some.inj ht
    exact ⟨(h3 k a x ha hx).1, hs⟩
  · rw [List.getElem?_set_ne (fun e => hk e.symm)] at ht
    refine ⟨(h3 k g t hg ht).1, BlkIs.upd (h3 k g t hg ht).2 hu fun e => hk ?_⟩
    subst e
    exact (List.getElem?_inj (List.getElem?_eq_some_iff.1 hg).1 h2).1 (hg.trans ha.symm)

theorem MSt.later {w : World} {gr : Nat} {cs : List Value} {gs : List Nat} {us : List Int} {W W' : World} (h : MSt w gr cs gs us W) (hb : Below W.heap.size W W') : MSt w gr cs gs us W' :=
  ⟨h.1.mono fun _ _ hs => BlkIs.later hs hb, h.2.1.later hb, Below.next h.2.2 hb⟩

theorem MSt.ses {w : World} {gr : Nat} {cs : List Value} {gs : List Nat} {us : List Int} {W : World} (h : MSt w gr cs gs us W) (i : Nat) {a : Nat} {x : Int} (ha : gs[i]? = some a) (hx : us[i]? = some x) : SesIs W a x := (h.1.2.2 i a x ha hx).2

set_option maxRecDepth 100000 in
set_option maxHeartbeats 4000000 in
theorem merges_any (a b c since until' : Int) (w : World) (hT : TabOk w) (a1 : -9223372036854775808 ≤ a) (a2 : a ≤ 9223372036854775807) (b1 : -9223372036854775808 ≤ b) (b2 : b ≤ 9223372036854775807) (c1 : -9223372036854775808 ≤ c) (c2 : c ≤ 9223372036854775807) :
    Calls Tryd.prog 8 #[.int .i64 a, .int .i64 b, .int .i64 c, .int .i64 since, .int .i64 until'] w fun e w' => e = .returned (.bool true) ∧ Below w.heap.size w w' := by
  have HT := Lib.hid hT
  clear hT
  obtain ⟨i0, hi, hz0, hz1, hz2⟩ := info_parts Tryd.infoSes
  go_enter Tryd.func8, Tryd.ntmps8
  go_wp2_with fail
  refine (sane_any _ HT.out).mono ?_
  rintro e w1 ⟨rfl, k1⟩
  go_wp2_with fail
  obtain ⟨w2, hw2⟩ : ∃ w2, w2 = w1.alloc (.cells #[.int .i64 a, .int .i64 b, .int .i64 c, .int .i64 c, .int .i64 b, .int .i64 a] 3) := ⟨_, rfl⟩
  have q2 : BlkIs w2 w1.heap.size 3 ([a, b, c, c, b, a].map (Value.int .i64)) := by rw [hw2]; exact BlkIs.new _ _ _
  have k2 : Below w.heap.size w w2 := by rw [hw2]; exact k1.alloc k1.size _
  have hq : w.heap.size ≤ w1.heap.size := k1.size
  rw [← hw2]
  obtain ⟨ns, hns⟩ : ∃ ns, ns = [a, b, c, c, b, a] := ⟨_, rfl⟩
  rw [← hns] at q2
  have hnl : ns.length = 6 := by rw [hns]; rfl
  have hnb : ∀ x ∈ ns, -9223372036854775808 ≤ x ∧ x ≤ 9223372036854775807 := by
    intro x hx
    rw [hns] at hx
    simp only [List.mem_cons, List.not_mem_nil, or_false] at hx
    omega
  generalize w1.heap.size = q at *
  have HNS := Lib.hid hns
  have HNL := Lib.hid hnl
  have HNB := Lib.hid hnb
  clear hw2 k1 hns hnl hnb
  go_loopw [12, 32] (fun lv cv wr => ∃ (k : Nat) (gs : List Nat) (v : Value), k ≤ 6 ∧ cv = .int .i64 k ∧ v = lv ∧ Hid (gs.length = k) ∧ wr.ownsRow w.heap.size 24 1 v k (gs.map fun g => .pointer (some ⟨g, 0, none⟩)) ∧ SesAll wr w.heap.size gs ((ns.take k).map tokOf) ∧
    BlkIs wr q 3 (ns.map (Value.int .i64)) ∧ Below w.heap.size w wr) (fun _ cv _ => 6 - (intOf cv).toNat)
  case atStart => exact ⟨0, [], _, by omega, rfl, rfl, rfl, World.ownsRow_nil _ _ _ _, SesAll.nil _ _, q2, k2⟩
  case round =>
    clear q2 k2
    obtain ⟨k, gs, v, hk, rfl, rfl, HG, hown, hall, hq2, hb⟩ := hrel
    by_cases hk6 : k < 6
    · obtain ⟨x, hx⟩ : ∃ x, ns[k]? = some x := ⟨_, List.getElem?_eq_getElem (by have := HNL.out; omega)⟩
      have hcell : wr.cell? ⟨q, k, none⟩ = some (.int .i64 x) := by
        rw [hq2.cell, List.getElem?_map, hx]; rfl
      obtain ⟨x1, x2⟩ := HNB.out x (List.mem_of_getElem? hx)
      have HX := Lib.hid hx
      clear hx
      have n1 : (0 : Int) ≤ (k : Int) := by omega
      have n2 : (k : Int) < 6 := by omega
      have n3 : decide ((k : Int) < 6) = true := by simp; omega
      go_wp2_with fail
      refine (newS _).mono ?_
      rintro e w3 ⟨rfl, hw⟩
      obtain ⟨h, hh⟩ : ∃ h, h = wr.heap.size := ⟨_, rfl⟩
      have s3 : SesIs w3 h 0 := by rw [hw, hh]; exact BlkIs.new _ _ _
      have b3 : Below w.heap.size w w3 := by rw [hw]; exact hb.alloc hb.size _
      have hall3 : SesAll w3 w.heap.size gs ((ns.take k).map tokOf) := hall.mono fun g t hs => by rw [hw]; exact BlkIs.alloc hs _
      have hown3 : w3.ownsRow w.heap.size 24 1 v k (gs.map fun g => .pointer (some ⟨g, 0, none⟩)) := by rw [hw]; exact hown.alloc _
      have hq3 : BlkIs w3 q 3 (ns.map (Value.int .i64)) := by rw [hw]; exact hq2.alloc _
      have hhg : h ∉ gs := fun hm => by have := hall.lt h hm; omega
      have hhb : w.heap.size ≤ h := by rw [hh]; exact hb.size
      have hqh : q ≠ h := by have := BlkIs.lt hq2; omega
      rw [← hh]
      clear hw hh hcell hall hown hq2 hb
      go_wp2_with fail
      refine (pick_any x 10001 _ x1 x2 (by omega) (by omega)).mono ?_
      rintro e w' ⟨rfl, rfl⟩
      go_wp2_with fail
      refine (wrote_ok _ h 0 (pickZ x 10001) s3).mono ?_
      rintro e w4 ⟨rfl, s4, hu⟩
      have b4 := Below.upd b3 hu hhb
      have hall4 := hall3.upd hu hhg
      have hq4 := BlkIs.upd hq3 hu hqh
      have hown4 := ownsRow_upd hu s3 (by decide) hown3
      have hP : ∃ P : Value, P = .pointer (some ⟨h, 0, none⟩) := ⟨_, rfl⟩
      have hhg4 := hall4.snoc hhg hhb s4
      have ets : (ns.take k).map tokOf ++ [wroteS 0 (pickZ x 10001)] = (ns.take (k + 1)).map tokOf := by
        rw [List.take_add_one, HX.out, List.map_append]; rfl
      rw [ets] at hhg4
      have hle4 := b4.size
      clear hu ets s3 b3 hall3 hown3 hq3 hhg hqh hP hall4
      go_wp2_with (first | (at_builtin; refine wpList_append_own _ rfl _ _ 62 rfl w.heap.size 24 i0 (.pointer none) 1 8 Tryd.underlying62 hi hz0 hz1 hz2 rfl (by decide) v _ _ rfl (hown4.alloc _) ⟨w4.heap.size, 0, none⟩ 1 1 [.pointer (some ⟨h, 0, none⟩)] rfl rfl (cell_one_new _ _ _) (by simp [Value.oneCell']) (by unfold maxLen; omega) (by omega) (by simp; omega) ?_; intro v' w5 hown' hgrow _))
      have hall5 := hhg4.mono fun g t hs => BlkIs.appended hs (by decide) hown4 hgrow
      have q5 := hq4.appended (by decide) hown4 hgrow
      have b5 := Below.appended b4 hle4 hown4 hgrow
      exact ⟨⟨k + 1, gs ++ [h], v', by omega, by go_num, rfl, Lib.hid (by rw [List.length_append, HG.out]; rfl), by rw [List.map_append]; exact hown', hall5, q5, b5⟩, by simp [intOf]; omega⟩
    · obtain rfl : k = 6 := by omega
      obtain ⟨wz, rfl⟩ : ∃ wz : World, wz = wr := ⟨_, rfl⟩
      obtain ⟨g0, g1, g2, g3, g4, g5, rfl⟩ := six HG.out
      obtain ⟨gr, cap, cs, rfl, hgrb, hrow, hcap, -, htk⟩ := ownsRow_blk hown (by omega)
      have ets : (ns.take 6).map tokOf = [tokOf a, tokOf b, tokOf c, tokOf c, tokOf b, tokOf a] := by rw [HNS.out]; rfl
      rw [ets] at hall
      generalize tokOf a = A at *
      generalize tokOf b = B at *
      generalize tokOf c = C at *
      have hcells : ∀ W, BlkIs W gr 24 cs → W.cell? ⟨gr, 0, none⟩ = some (.pointer (some ⟨g0, 0, none⟩)) ∧ W.cell? ⟨gr, 1, none⟩ = some (.pointer (some ⟨g1, 0, none⟩)) ∧ W.cell? ⟨gr, 2, none⟩ = some (.pointer (some ⟨g2, 0, none⟩)) ∧
          W.cell? ⟨gr, 3, none⟩ = some (.pointer (some ⟨g3, 0, none⟩)) ∧ W.cell? ⟨gr, 4, none⟩ = some (.pointer (some ⟨g4, 0, none⟩)) ∧ W.cell? ⟨gr, 5, none⟩ = some (.pointer (some ⟨g5, 0, none⟩)) := by
        intro W hW
        exact ⟨(hW.cell 0).trans (take_get htk (by omega) rfl), (hW.cell 1).trans (take_get htk (by omega) rfl), (hW.cell 2).trans (take_get htk (by omega) rfl), (hW.cell 3).trans (take_get htk (by omega) rfl), (hW.cell 4).trans (take_get htk (by omega) rfl), (hW.cell 5).trans (take_get htk (by omega) rfl)⟩
      have hr : gr ∉ [g0, g1, g2, g3, g4, g5] := by
        intro hm
        obtain ⟨i, hi⟩ := List.mem_iff_getElem?.1 hm
        have hl : i < 6 := (List.getElem?_eq_some_iff.1 hi).1
        exact BlkIs.not_row (hall.2.2 i gr _ hi (List.getElem?_eq_getElem hl)).2 (by decide) hown (by simp [Value.ownBlock])
      have hM0 : MSt w gr cs [g0, g1, g2, g3, g4, g5] [A, B, C, C, B, A] wz := ⟨hall, hrow, hb⟩
      have HC := Lib.hid hcells
      have HR := Lib.hid hr
      have HCap : (6 : Int) ≤ (cap : Int) := by omega
      clear hcells ets htk hown HNS HNL HNB HG hq2 hk hk6 hr hall hb
      obtain ⟨p0, p1, p2, p3, p4, p5⟩ := HC.out _ hrow
      clear hrow
      go_wp2_with fail
      refine (tokenS _ g1 B (hM0.ses 1 rfl rfl)).mono ?_
      rintro e w' ⟨rfl, rfl⟩
      go_wp2_with fail
      have hM : MrgAt A B C 1 A C := .inl ⟨rfl, rfl, rfl⟩
      go_loopw [17] (fun iv wr => ∃ (i u0 u3 : Int), iv = .int .i64 i ∧ MrgAt A B C i u0 u3 ∧ MSt w gr cs [g0, g1, g2, g3, g4, g5] [u0, B, C, u3, B, A] wr) (fun iv _ => 3 - (intOf iv).toNat)
      case atStart => exact ⟨1, A, C, rfl, hM, hM0⟩
      case round =>
        clear hM hM0 p0 p1 p2 p3 p4 p5
        obtain ⟨i, u0, u3, rfl, hM, hS⟩ := hrel
        obtain ⟨p0, p1, p2, p3, p4, p5⟩ := HC.out _ hS.2.1
        rcases hM with ⟨rfl, rfl, rfl⟩ | ⟨rfl, rfl, rfl⟩ | ⟨rfl, rfl, rfl⟩
        · have d1 : decide ((1 : Int) < 3) = true := by decide
          have d2 : IntKind.i64.wrap 4 = 4 := by decide
          go_wp2_with fail
          go_region_held3 (fun w' => w'.cell? ⟨gr, 0, none⟩ = some (.pointer (some ⟨g0, 0, none⟩)) ∧ w'.cell? ⟨gr, 1, none⟩ = some (.pointer (some ⟨g1, 0, none⟩)) ∧ w'.cell? ⟨gr, 3, none⟩ = some (.pointer (some ⟨g3, 0, none⟩)) ∧ w'.cell? ⟨gr, 4, none⟩ = some (.pointer (some ⟨g4, 0, none⟩)))
            (refine ⟨?_, ?_, ?_, ?_⟩ <;> first | assumption | (simp [*]; done))
            (first
              | (go_at_call_of 27 (Value.pointer (some ⟨g0, 0, none⟩)); refine (MSt.merge (by first | exact hS | exact hS.drew | exact hS.drewN _) HR.out 0 1 rfl rfl rfl rfl).mono ?_; rintro e W4 ⟨rfl, z4⟩; obtain ⟨o0, o1, o2, o3, o4, o5⟩ := HC.out _ z4.2.1)
              | (go_at_call_of 27 (Value.pointer (some ⟨g3, 0, none⟩)); refine (MSt.merge (by first | exact z4 | exact z4.drew | exact z4.drewN _) HR.out 3 4 rfl rfl rfl rfl).mono ?_; rintro e W5 ⟨rfl, z5⟩; obtain ⟨y0, y1, y2, y3, y4, y5⟩ := HC.out _ z5.2.1))
          go_wp2_with fail
          go_roundw
          case rel => exact ⟨2, _, _, by go_num, .inr (.inl ⟨rfl, rfl, rfl⟩), z5⟩
          case measure => simp [intOf]
        · have d1 : decide ((2 : Int) < 3) = true := by decide
          have d2 : IntKind.i64.wrap 5 = 5 := by decide
          go_wp2_with fail
          go_region_held3 (fun w' => w'.cell? ⟨gr, 0, none⟩ = some (.pointer (some ⟨g0, 0, none⟩)) ∧ w'.cell? ⟨gr, 2, none⟩ = some (.pointer (some ⟨g2, 0, none⟩)) ∧ w'.cell? ⟨gr, 3, none⟩ = some (.pointer (some ⟨g3, 0, none⟩)) ∧ w'.cell? ⟨gr, 5, none⟩ = some (.pointer (some ⟨g5, 0, none⟩)))
            (refine ⟨?_, ?_, ?_, ?_⟩ <;> first | assumption | (simp [*]; done))
            (first
              | (go_at_call_of 27 (Value.pointer (some ⟨g0, 0, none⟩)); refine (MSt.merge (by first | exact hS | exact hS.drew | exact hS.drewN _) HR.out 0 2 rfl rfl rfl rfl).mono ?_; rintro e W4 ⟨rfl, z4⟩; obtain ⟨o0, o1, o2, o3, o4, o5⟩ := HC.out _ z4.2.1)
              | (go_at_call_of 27 (Value.pointer (some ⟨g3, 0, none⟩)); refine (MSt.merge (by first | exact z4 | exact z4.drew | exact z4.drewN _) HR.out 3 5 rfl rfl rfl rfl).mono ?_; rintro e W5 ⟨rfl, z5⟩; obtain ⟨y0, y1, y2, y3, y4, y5⟩ := HC.out _ z5.2.1))
          go_wp2_with fail
          go_roundw
          case rel => exact ⟨3, _, _, by go_num, .inr (.inr ⟨rfl, rfl, rfl⟩), z5⟩
          case measure => simp [intOf]
        · have d1 : decide ((3 : Int) < 3) = false := by decide
          obtain ⟨e1, e2⟩ := mrg_end A B C
          rw [e1] at hS
          generalize raiseS (raiseS A B) C = M at *
          clear e1
          obtain ⟨wz, rfl⟩ : ∃ wz : World, wz = wr := ⟨_, rfl⟩
          have eN : ([M, B, C, M, B, A] : List Int).set 0 (raiseS M M) = [M, B, C, M, B, A] := by rw [raiseS_self]; rfl
          have EN := Lib.hid eN
          have d3 : decide (B ≤ M) = true := by simpa using e2
          have d4 : (M == M) = true := by simp
          have d5 : (B == B) = true := by simp
          clear eN
          go_wp2_with fail
          refine (tokenS _ g0 M (hS.ses 0 rfl rfl)).mono ?_
          rintro e w' ⟨rfl, rfl⟩
          go_wp2_with fail
          go_region_with (go_at_call 27; refine (MSt.merge (hS.drew) HR.out 0 0 rfl rfl rfl rfl).mono ?_; rintro e W4 ⟨rfl, z4⟩)
          all_goals
            rw [EN.out] at z4
            clear p0 p1 p2 p3 p4 p5 hS
            obtain ⟨p0, p1, p2, p3, p4, p5⟩ := HC.out _ z4.2.1
            go_wp2_with fail
            refine (wrote_nil _ a).mono ?_
            rintro e w' ⟨rfl, rfl⟩
            go_wp2_with fail
            refine (answer_any since until' _).mono ?_
            rintro e W5 ⟨rfl, k5⟩
            have z5 := z4.later k5
            clear z4 k5 p0 p1 p2 p3 p4 p5
            go_wp2_with fail
            refine (accept_nil _ since until' _ _ _ _ _ _ _ _ _ _ _ _ _).mono ?_
            rintro e W6 ⟨rfl, k6⟩
            have z6 := z5.later k6
            clear z5 k6
            obtain ⟨p0, p1, p2, p3, p4, p5⟩ := HC.out _ z6.2.1
            go_wp2_with fail
            refine (tokenS _ g3 M (z6.ses 3 rfl rfl)).mono ?_
            rintro e w' ⟨rfl, rfl⟩
            go_wp2_with fail
            refine (tokenS _ g0 M (z6.ses 0 rfl rfl)).mono ?_
            rintro e w' ⟨rfl, rfl⟩
            go_wp2_with fail
            refine (tokenS _ g1 B (z6.ses 1 rfl rfl)).mono ?_
            rintro e w' ⟨rfl, rfl⟩
            go_wp2_with fail
            refine (merge_nil _ _).mono ?_
            rintro e w' ⟨rfl, rfl⟩
            go_wp2_with fail
            refine (merge_of_nil _ g0).mono ?_
            rintro e w' ⟨rfl, rfl⟩
            go_wp2_with fail
            refine (tokenS_nil _).mono ?_
            rintro e w' ⟨rfl, rfl⟩
            go_wp2_with fail
            refine (encode_nil _).mono ?_
            rintro e w' ⟨rfl, rfl⟩
            go_wp2_with fail
            refine (answer_any since until' _).mono ?_
            rintro e W7 ⟨rfl, k7⟩
            have z7 := z6.later k7
            clear z6 k7 p0 p1 p2 p3 p4 p5
            go_wp2_with fail
            refine (allows_nil _ since until' _ _ _ _ _ _ _ _ _ _ _ _ _).mono ?_
            rintro e W8 ⟨rfl, k8⟩
            have z8 := z7.later k8
            go_wp2_with fail
            go_ret
            exact ⟨rfl, z8.2.2⟩
end Go.Proofs.YtejehdmllicfcaaDoor
