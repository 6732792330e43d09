/- Joined: R9F R9G. -/
import Derived.Test.YtheebajklnljdaaGreatDoorGg
import Derived.Test.YtheebajklnljdaaGreatDoorGl
import Derived.Test.YtheebajklnljdaaGreatDoorGq
import Derived.Test.YtheebajklnljdaaGreatDoorGu
import Derived.Test.YtheebajklnljdaaGreatDoorGs

section
/- The reference's log: New, Head, Record, Leaves. -/
namespace Go.Proofs.YtheebajklnljdaaGreatDoor
open Go Go.RowKit
attribute [local go_sem] Oper.semAt_some

/-- block b is a log of the reference's; all of its memory is of S -/
def RLogAt (w : World) (S : Nat → Prop) (b : Nat) (x : Lg) : Prop := ∃ rv hv, BlkIs w b 39 [rv, hv] ∧ S b ∧ RecRow w S rv x.recs ∧ HdRow w S hv x.heads
theorem RLogAt.same {S : Nat → Prop} {w w' : World} {b : Nat} {x : Lg} (h : RLogAt w S b x) (hs : SameOn S w w') : RLogAt w' S b x := by
  obtain ⟨rv, hv, h1, h2, h3, h4⟩ := h
  exact ⟨rv, hv, h1.same hs h2, h2, h3.same hs, h4.same hs⟩
theorem RLogAt.below {S : Nat → Prop} {w w' : World} {b : Nat} {x : Lg} (h : RLogAt w S b x) (hb : Below w.heap.size w w') : RLogAt w' S b x := h.same (.of_below hb)
theorem RLogAt.mono {S T : Nat → Prop} {w : World} {b : Nat} {x : Lg} (h : RLogAt w S b x) (hs : ∀ k, S k → T k) : RLogAt w T b x := by
  obtain ⟨rv, hv, h1, h2, h3, h4⟩ := h
  exact ⟨rv, hv, h1, hs b h2, h3.mono hs, h4.mono hs⟩
theorem RLogAt.parts {S : Nat → Prop} {w : World} {b : Nat} {x : Lg} (h : RLogAt w S b x) :
    ∃ A1 c1 A2 c2, w.cell? ⟨b, 0, none⟩ = some (.slice A1 x.recs.length c1) ∧ w.cell? ⟨b, 1, none⟩ = some (.slice A2 x.heads.length c2) ∧ x.recs.length ≤ c1 ∧ x.heads.length ≤ c2 ∧ b < w.heap.size ∧
      RecRow w S (.slice A1 x.recs.length c1) x.recs ∧ HdRow w S (.slice A2 x.heads.length c2) x.heads := by
  obtain ⟨rv, hv, h1, h2, h3, h4⟩ := h
  obtain ⟨A1, c1, rfl, k1⟩ := h3.len
  obtain ⟨A2, c2, rfl, k2⟩ := h4.len
  exact ⟨A1, c1, A2, c2, h1.cell 0, h1.cell 1, k1, k2, h1.lt, h3, h4⟩

set_option maxRecDepth 100000 in
set_option maxHeartbeats 1000000 in
theorem rnew_ok (st : List UInt8) (w : World) (hst : st.length = 32) :
    Calls Tryz.prog 10 #[.string (str st)] w fun e w' => ∃ b, e = .returned (.tuple #[.pointer (some ⟨b, 0, none⟩), .int .i64 0]) ∧ RLogAt w' (fun k => w.heap.size ≤ k) b (newLg st) ∧ Below w.heap.size w w' := by
  have t1 : ((st.length : Int) != 32) = false := by simp only [bne_eq_false_iff_eq]; omega
  have hmk := run_make32
  have hz0 : BlkIs (w.alloc (.cells zeroCells 5)) w.heap.size 5 (bv zero32 ++ []) := by
    have := BlkIs.new w 5 zeroCells
    rw [zeroCells_eq] at this
    rw [List.append_nil]
    exact this
  have hcv := run_convert_blk (P := Tryz.prog) (cap := 32) 77 9 5 Tryz.underlying77 Tryz.underlying5 Tryz.underlying9 hz0
  rw [show zero32.length = 32 from rfl] at hcv
  have al1 := Below.alloc1 w (.cells zeroCells 5)
  clear hz0
  go_enter Tryz.func10, Tryz.ntmps10
  go_wp2_with fail
  go_ret2
  have hrow : (((w.alloc (.cells zeroCells 5)).alloc (.cells #[.int .i64 0, .string (str zero32), .string (str st)] 46)).alloc (.cells #[.slice none 0 0, .slice (some ⟨w.heap.size + 1, 0, none⟩) 1 1] 39)).heap[w.heap.size + 1]? = some (.cells #[.int .i64 0, .string (str zero32), .string (str st)] 46 (0, 0)) :=
    (Below.heap_alloc _ _ (w.heap.size + 1) (by rw [World.size_alloc, World.size_alloc]; omega)).trans (alloc_new_at _ _ _ (by rw [World.size_alloc]))
  refine ⟨w.heap.size + 2, rfl, ⟨.slice none 0 0, .slice (some ⟨w.heap.size + 1, 0, none⟩) 1 1, alloc_new_at _ _ _ (by rw [World.size_alloc, World.size_alloc]), by omega, RecRow.nil _ _, ⟨⟨rfl, .inr ⟨w.heap.size + 1, 1, _, rfl, Nat.zero_le _, hrow, Nat.le_refl _, by unfold maxLen; omega, rfl, rfl⟩⟩, ?_⟩⟩, ?_⟩
  · intro b hb
    cases hb
    exact Nat.le_succ _
  · exact Below.alloc (Below.alloc al1 (by rw [World.size_alloc]; omega) _) (by rw [World.size_alloc, World.size_alloc]; omega) _

set_option maxRecDepth 100000 in
set_option maxHeartbeats 4000000 in
theorem rhead_ok {S : Nat → Prop} {b : Nat} {x : Lg} {w : World} (h : RLogAt w S b x) (p : Int) :
    Calls Tryz.prog 19 #[.pointer (some ⟨b, 0, none⟩), .int .i64 p] w fun e w' => e = .returned (.tuple #[hdV (headA x p).1, .bool (headA x p).2]) ∧ Below w.heap.size w w' := by
  obtain ⟨A1, c1, A2, c2, h1, h2, l1, l2, hb, hr, hh⟩ := h.parts
  have hb1 := fun o => Below.alloc (Below.refl w.heap.size w) (Nat.le_refl _) o
  have HB := Lib.hid hb1
  have n2 := World.new_ne w _ h2
  clear h1 l1 hr hb1
  by_cases hp : p < 0
  · rw [headA_out (.inl hp)]
    clear hh h2 n2
    go_enter Tryz.func19, Tryz.ntmps19
    go_wp2_with fail
    go_returns
    exact ⟨rfl, HB.out _⟩
  by_cases hq : ((x.heads.length : Nat) : Int) ≤ p
  · rw [headA_out (.inr hq)]
    have t1 : decide (((x.heads.length : Nat) : Int) ≤ p) = true := by simpa using hq
    clear hh
    go_enter Tryz.func19, Tryz.ntmps19
    go_wp2_with fail
    go_returns
    exact ⟨rfl, HB.out _⟩
  obtain ⟨k, rfl⟩ := Int.eq_ofNat_of_zero_le (show 0 ≤ p by omega)
  obtain ⟨y, hy⟩ : ∃ y, x.heads[k]? = some y := ⟨_, List.getElem?_eq_getElem (by omega)⟩
  rw [headA_in hy]
  obtain ⟨g, c, e0, hc, hg, -, k0, k1, k2⟩ := hh.at_ hy
  injection e0 with e1 e2 e3
  subst e1 e3
  have m0 := World.new_ne w _ k0
  have m1 := World.new_ne w _ k1
  have m2 := World.new_ne w _ k2
  have t1 : decide (x.heads.length ≤ k) = false := by simp; omega
  have q0 : (0 : Int) ≤ (k : Int) := by omega
  have q1 : (k : Int) < (x.heads.length : Int) := by omega
  obtain ⟨yp, yc, ys⟩ := y
  dsimp only at k0 k1 k2
  unfold hdV
  clear hh hy hq hp hc
  go_enter Tryz.func19, Tryz.ntmps19
  go_wp2_with fail
  go_returns
  exact ⟨rfl, HB.out _⟩

set_option maxRecDepth 100000 in
set_option maxHeartbeats 4000000 in
theorem rrecord_ok {S : Nat → Prop} {b : Nat} {x : Lg} {w : World} (h : RLogAt w S b x) (hsm : x.recs.length ≤ 10000) (k : Nat) (r : Rec) (hk : x.recs[k]? = some r) :
    Calls Tryz.prog 21 #[.pointer (some ⟨b, 0, none⟩), .int .i64 ((k : Int) + 1)] w fun e w' => ∃ A c, e = .returned (.tuple #[recV r.pos (.slice A r.chs.length c), .bool true]) ∧ ChgsAt w' (.slice A r.chs.length c) r.chs ∧ Below w.heap.size w w' := by
  obtain ⟨A1, c1, A2, c2, h1, -, l1, -, hb, hr, -⟩ := h.parts
  have hlt := (List.getElem?_eq_some_iff.1 hk).1
  obtain ⟨gr, cr, cv, e0, hcr, hgr, -, k0, k1, hcv⟩ := hr.at_ hk
  injection e0 with e1 e2 e3
  subst e1 e3
  obtain ⟨Av, cc, rfl, -⟩ := id hcv.chgs
  have hb1 := fun o => Below.alloc (Below.refl w.heap.size w) (Nat.le_refl _) o
  have hch := hcv.chgs
  have HB := Lib.hid hb1
  have HCH := Lib.hid hch
  have n1 := World.new_ne w _ h1
  have m0 := World.new_ne w _ k0
  have m1 := World.new_ne w _ k1
  have t1 : decide ((x.recs.length : Int) < (k : Int) + 1) = false := by simp; omega
  have t2 : decide (((k : Int) + 1) < 1) = false := by simp; omega
  have q0 : (0 : Int) ≤ (k : Int) := by omega
  have q1 : (k : Int) < (x.recs.length : Int) := by omega
  have q2 : (k : Int) + 1 - 1 = (k : Int) := by omega
  clear h hr hk hcv hb1 hch
  unfold recV
  go_enter Tryz.func21, Tryz.ntmps21
  go_wp2_with fail
  go_returns
  exact ⟨Av, cc, rfl, HCH.out.below (HB.out _), HB.out _⟩

set_option maxRecDepth 100000 in
set_option maxHeartbeats 4000000 in
theorem rrecord_out {S : Nat → Prop} {b : Nat} {x : Lg} {w : World} (h : RLogAt w S b x) (p : Int) (hp : p < 1 ∨ (x.recs.length : Nat) < p) :
    Calls Tryz.prog 21 #[.pointer (some ⟨b, 0, none⟩), .int .i64 p] w fun e w' => e = .returned (.tuple #[recV 0 (.slice none 0 0), .bool false]) ∧ Below w.heap.size w w' := by
  obtain ⟨A1, c1, A2, c2, h1, -, l1, -, hb, hr, -⟩ := h.parts
  have hb1 := fun o => Below.alloc (Below.refl w.heap.size w) (Nat.le_refl _) o
  have HB := Lib.hid hb1
  have n1 := World.new_ne w _ h1
  clear h hr hb1
  unfold recV
  by_cases h1 : p < 1
  · have t2 : decide (p < 1) = true := by simpa using h1
    clear hp
    go_enter Tryz.func21, Tryz.ntmps21
    go_wp2_with fail
    go_returns
    exact ⟨rfl, HB.out _⟩
  · have t2 : decide (p < 1) = false := by simpa using h1
    have t1 : decide ((x.recs.length : Int) < p) = true := by simp; omega
    clear hp
    go_enter Tryz.func21, Tryz.ntmps21
    go_wp2_with fail
    go_returns
    exact ⟨rfl, HB.out _⟩

set_option maxRecDepth 100000 in
set_option maxHeartbeats 4000000 in
theorem record_out {S : Nat → Prop} {b : Nat} {x : Lg} {w : World} (h : LogAt w S b x) (p : Int) (hp : p < 1 ∨ (x.recs.length : Nat) < p) :
    Calls Tryz.prog 20 #[.pointer (some ⟨b, 0, none⟩), .int .i64 p] w fun e w' => e = .returned (.tuple #[recV 0 (.slice none 0 0), .bool false]) ∧ Below w.heap.size w w' := by
  have al := Below.alloc1 w (.cells #[.int .i64 0, .slice none 0 0] 35)
  have hlen := len_ok (h.below al)
  have HL := Lib.hid hlen
  have AL := Lib.hid al
  clear h hlen al
  unfold recV
  by_cases h1 : p < 1
  · have t2 : decide (p < 1) = true := by simpa using h1
    clear hp
    go_enter Tryz.func20, Tryz.ntmps20
    go_wp2_with fail
    go_returns
    exact ⟨rfl, AL.out⟩
  · have t2 : decide (p < 1) = false := by simpa using h1
    have t1 : decide ((x.recs.length : Int) < p) = true := by simp; omega
    clear hp
    go_enter Tryz.func20, Tryz.ntmps20
    go_wp2_with fail
    refine (HL.out).mono ?_
    rintro e w1 ⟨rfl, rfl⟩
    go_wp2_with fail
    go_returns
    exact ⟨rfl, AL.out⟩

set_option maxRecDepth 100000 in
set_option maxHeartbeats 4000000 in
theorem rleaves_ok {S : Nat → Prop} {b : Nat} {x : Lg} {w : World} (h : RLogAt w S b x) (good : Good x) :
    Calls Tryz.prog 50 #[.pointer (some ⟨b, 0, none⟩)] w fun e w' => ∃ v, e = .returned v ∧ w'.ownsRow w.heap.size 9 1 v (leavesL x).length (svs (leavesL x)) ∧ Below w.heap.size w w' := by
  obtain ⟨A1, c1, A2, c2, -, h2, -, l2, hb, -, hh⟩ := h.parts
  have hsm := good.small
  have hlen := good.len
  have hll := leavesL_len x
  obtain ⟨N, hN⟩ : ∃ N, N = x.heads.length := ⟨_, rfl⟩
  have hN2 : N ≤ 10001 := by omega
  rw [← hN] at h2 l2 hll
  have hhd : ∀ (k : Nat) y, x.heads[k]? = some y → ∃ g, A2 = some ⟨g, 0, none⟩ ∧ g < w.heap.size ∧ w.cell? ⟨g, k * 3, none⟩ = some (.int .i64 y.pos) ∧ w.cell? ⟨g, k * 3 + 1, none⟩ = some (.string (str y.chain)) ∧ w.cell? ⟨g, k * 3 + 2, none⟩ = some (.string (str y.state)) := by
    intro k y hy
    obtain ⟨g, c, e0, hc, hg, -, k0, k1, k2⟩ := hh.at_ hy
    injection e0 with e1 _ _
    exact ⟨g, e1, hg, k0, k1, k2⟩
  have hB : ∀ (k : Nat) y, x.heads[k]? = some y → hdB y = true := fun k y hy => (good.head k y hy).1
  have hlv : ∀ (k : Nat) y, x.heads[k]? = some y → (leavesL x).take (k + 1) = (leavesL x).take k ++ [encHd y] := by
    intro k y hy
    rw [List.take_add_one]
    unfold leavesL
    rw [List.getElem?_map, hy]
    rfl
  have hex : ∀ k, k < N → ∃ y, x.heads[k]? = some y := fun k hk => ⟨_, List.getElem?_eq_getElem (by omega)⟩
  obtain ⟨i0, hi0, hz0, hz1, hz2⟩ := info_str
  obtain ⟨Lv, hLv⟩ : ∃ L, L = leavesL x := ⟨_, rfl⟩
  rw [← hLv] at hll ⊢
  have HHD := Lib.hid hhd
  have HBB := Lib.hid hB
  have HLV := Lib.hid hlv
  have HEX := Lib.hid hex
  have HLL := Lib.hid hll
  have HLE := Lib.hid hLv
  clear hh hhd hB hlv hex hLv hlen hsm hN hll good h
  go_enter Tryz.func50, Tryz.ntmps50
  go_wp2_with fail
  go_loopw [3, 4] (fun ov iv wr => ∃ k : Nat, k ≤ N ∧ iv = .int .i64 k ∧ wr.ownsRow w.heap.size 9 1 ov k (svs (Lv.take k)) ∧ Below w.heap.size w wr) (fun _ iv _ => N - (intOf iv).toNat)
  case atStart => exact ⟨0, by omega, rfl, World.ownsRow_nil _ _ _ _, Below.refl _ _⟩
  case round =>
    obtain ⟨k, hk, rfl, own, hbl⟩ := hrel
    have x2 := (hbl.cell (p := ⟨b, 1, none⟩) hb).trans h2
    obtain ⟨oA, oc, rfl, -, -, -⟩ := ownsRow_form own
    by_cases h1 : k < N
    · have t1 : decide (k < N) = true := by simpa using h1
      obtain ⟨y, hy⟩ := HEX.out k h1
      obtain ⟨g, rfl, hg, k0, k1, k2⟩ := HHD.out k y hy
      have y0 := (hbl.cell (p := ⟨g, k * 3, none⟩) hg).trans k0
      have y1 := (hbl.cell (p := ⟨g, k * 3 + 1, none⟩) hg).trans k1
      have y2 := (hbl.cell (p := ⟨g, k * 3 + 2, none⟩) hg).trans k2
      have hen := fun W => r9encode_ok y W
      rw [show encA y = (encHd y, 0) from if_pos (HBB.out k y hy)] at hen
      have htk := HLV.out k y hy
      rw [← HLE.out] at htk
      obtain ⟨E, hE⟩ : ∃ E, E = encHd y := ⟨_, rfl⟩
      rw [← hE] at hen htk
      have hsv : svs (Lv.take (k + 1)) = svs (Lv.take k) ++ [.string (str E)] := by rw [htk, svs_snoc]
      have q0 : (0 : Int) ≤ (k : Int) := by omega
      have q1 : (k : Int) < (N : Int) := by omega
      have HEN := Lib.hid hen
      have HSV := Lib.hid hsv
      have HOWN := Lib.hid own
      unfold hdV at HEN
      clear hen hsv htk hE hy k0 k1 k2 own
      go_wp2_with fail
      refine (HEN.out _).mono ?_
      rintro e w2 ⟨rfl, b2⟩
      have own2 := ownsRow_later b2 HOWN.out
      have hb2 := Below.next hbl b2
      have hle2 := hb2.size
      go_wp2_with (at_builtin; refine wpList_append_own _ rfl _ _ 52 rfl w.heap.size 9 i0 (.string ⟨#[]⟩) 1 16 Tryz.underlying52 hi0 hz0 hz1 hz2 rfl (by decide) (.slice oA k oc) k (svs (Lv.take k)) rfl (own2.alloc _) ⟨w2.heap.size, 0, none⟩ 1 1 [.string (str E)] rfl rfl (cell_one_new _ _ _) (by simp [Value.oneCell']) (by unfold maxLen; omega) (by omega) (by rw [World.size_alloc]; omega) ?_; intro v4 w4 own4 g4 _)
      have hb4 := Below.appended hb2 hle2 own2 g4
      rw [← HSV.out] at own4
      exact ⟨⟨k + 1, by omega, by go_num, own4, hb4⟩, by simp [intOf]; omega⟩
    · have t1 : decide (k < N) = false := by simpa using h1
      obtain rfl : k = N := by omega
      have hall : Lv.take k = Lv := List.take_of_length_le (by rw [HLL.out]; omega)
      rw [hall] at own
      have HOWN := Lib.hid own
      clear own hall
      go_wp2_with fail
      go_ret
      exact ⟨_, rfl, by rw [HLL.out]; exact HOWN.out, hbl⟩
end Go.Proofs.YtheebajklnljdaaGreatDoor
end

section
/- Root, Prove and Extension of the reference's log (written by wip/mk_r9g.py). -/
namespace Go.Proofs.YtheebajklnljdaaGreatDoor
open Go Go.RowKit
attribute [local go_sem] Oper.semAt_some

set_option maxRecDepth 100000 in
set_option maxHeartbeats 1000000 in
theorem rroot_ok {S : Nat → Prop} {b : Nat} {x : Lg} {w : World} (h : RLogAt w S b x) (good : Good x) :
    Calls Tryz.prog 16 #[.pointer (some ⟨b, 0, none⟩)] w fun e w' => e = .returned (.string (str (rootA x))) ∧ Below w.heap.size w w' := by
  have hlen := good.len
  have hsm := good.small
  have hsh0 := leavesL_short good
  have hll := leavesL_len x
  have hlv := rleaves_ok h good
  unfold rootA
  obtain ⟨Lv, hLv⟩ : ∃ Lv, Lv = leavesL x := ⟨_, rfl⟩
  rw [← hLv] at hlv hll hsh0 ⊢
  obtain ⟨N, hN⟩ : ∃ N, N = Lv.length := ⟨_, rfl⟩
  have hN1 : 1 ≤ N := by omega
  have hsh : ∀ y ∈ Lv, y.length ≤ 900000 := fun y hy => by have := hsh0 y hy; omega
  have hpr : ∀ (W : World) (g c : Nat), RowsAt W g 0 N c Lv → Calls Tryz.prog 49 #[.slice (some ⟨g, 0, none⟩) N c] W fun e w' => e = .returned (.string (str (rootL Lv))) ∧ Below W.heap.size W w' :=
    fun W g c hv => rootR_rows Lv.length g 0 N c Lv W hv (Nat.le_refl _) (by omega) hsh
  rw [← hN] at hlv
  have HL := Lib.hid hlv
  have HP := Lib.hid hpr
  have HN := Lib.hid hN
  have hN2 : N ≤ 10001 := by omega
  clear hlv hpr hsh0 hsh h hLv hll hlen hsm hN good
  go_enter Tryz.func16, Tryz.ntmps16
  go_wp2_with fail
  refine (HL.out).mono ?_
  rintro e w2 ⟨v, rfl, own2, b2⟩
  obtain ⟨g2, cap2, cs2, rfl, -, hblk, hcn, hcm, -⟩ := ownsRow_blk own2 (by omega)
  have hrow : RowsAt w2 g2 0 N cap2 Lv := ⟨HN.out, hcn, by unfold maxLen at hcm; omega, hblk.lt, fun j y hy => by rw [Nat.zero_add]; exact ownsRow_cell own2 j _ (svs_get Lv j y hy)⟩
  clear own2 hblk
  go_wp2_with fail
  with_reducible refine (HP.out _ _ _ hrow).mono ?_
  rintro e w3 ⟨rfl, b3⟩
  have hb3 := Below.next b2 b3
  clear hrow
  go_wp2_with fail
  go_ret
  exact ⟨rfl, hb3⟩

set_option maxRecDepth 100000 in
set_option maxHeartbeats 1000000 in
theorem rprove_ok {S : Nat → Prop} {b : Nat} {x : Lg} {w : World} (h : RLogAt w S b x) (good : Good x) (hlim : x.recs.length ≤ 900) (k : Nat) (hk : k < x.heads.length) :
    Calls Tryz.prog 24 #[.pointer (some ⟨b, 0, none⟩), .int .i64 k] w fun e w' => ∃ A c, e = .returned (.tuple #[.slice A (proofL (leavesL x) k).length c, .int .i64 0]) ∧ ListAt w' (.slice A (proofL (leavesL x) k).length c) (proofL (leavesL x) k) ∧ Below w.heap.size w w' := by
  have hlen := good.len
  have hsh0 := leavesL_short good
  have hll := leavesL_len x
  obtain ⟨A1, c1, A2, c2, -, h2, -, l2, hb, -, -⟩ := h.parts
  have hlv := rleaves_ok h good
  obtain ⟨Q, hQ⟩ : ∃ Q, Q = proofL (leavesL x) k := ⟨_, rfl⟩
  obtain ⟨Lv, hLv⟩ : ∃ Lv, Lv = leavesL x := ⟨_, rfl⟩
  obtain ⟨N, hN⟩ : ∃ N, N = x.heads.length := ⟨_, rfl⟩
  rw [← hQ]
  rw [← hLv] at hlv hll hsh0 hQ
  rw [← hN] at hll h2 l2 hk
  rw [hll] at hlv
  have hsh : ∀ y ∈ Lv, y.length ≤ 900000 := fun y hy => by have := hsh0 y hy; omega
  have hpr : ∀ (W : World) (g c : Nat), RowsAt W g 0 N c Lv → Calls Tryz.prog 52 #[.slice (some ⟨g, 0, none⟩) N c, .int .i64 k] W fun e w' => ∃ v, e = .returned (.tuple #[v, .int .i64 0]) ∧ w'.ownsRow W.heap.size 9 1 v Q.length (svs Q) ∧ Below W.heap.size W w' := by
    intro W g c hv
    have := proofR_rows Lv.length g 0 N c Lv k W hv (Nat.le_refl _) (by omega) (by omega) hsh
    rw [← hQ] at this
    exact this
  have HL := Lib.hid hlv
  have HP := Lib.hid hpr
  have HLL := Lib.hid hll
  have t1 : decide (N ≤ k) = false := by simp; omega
  have hN2 : N ≤ 901 := by omega
  clear hlv hpr hsh0 hsh h hQ hLv hll hlen hlim hN
  go_enter Tryz.func24, Tryz.ntmps24
  go_wp2_with fail
  refine (HL.out).mono ?_
  rintro e w2 ⟨v, rfl, own2, b2⟩
  obtain ⟨g2, cap2, cs2, rfl, -, hblk, hcn, hcm, -⟩ := ownsRow_blk own2 (by omega)
  have hrow : RowsAt w2 g2 0 N cap2 Lv := ⟨HLL.out.symm, hcn, by unfold maxLen at hcm; omega, hblk.lt, fun j y hy => by rw [Nat.zero_add]; exact ownsRow_cell own2 j _ (svs_get Lv j y hy)⟩
  clear own2 hblk
  go_wp2_with fail
  with_reducible refine (HP.out _ _ _ hrow).mono ?_
  rintro e w3 ⟨v3, rfl, own3, b3⟩
  have hb3 := Below.next b2 b3
  have hl3 := listAt_own own3
  obtain ⟨A3, c3, rfl⟩ := hl3.len
  clear own3 hrow
  go_wp2_with fail
  go_ret2
  exact ⟨A3, c3, rfl, hl3, hb3⟩

set_option maxRecDepth 100000 in
set_option maxHeartbeats 1000000 in
theorem rprove_out {S : Nat → Prop} {b : Nat} {x : Lg} {w : World} (h : RLogAt w S b x) (p : Int) (hp : p < 0 ∨ (x.heads.length : Nat) ≤ p) :
    Calls Tryz.prog 24 #[.pointer (some ⟨b, 0, none⟩), .int .i64 p] w fun e w' => e = .returned (.tuple #[.slice none 0 0, .int .i64 2]) ∧ w' = w := by
  obtain ⟨A1, c1, A2, c2, -, h2, -, l2, hb, -, -⟩ := h.parts
  clear h
  by_cases h1 : p < 0
  · have t1 : decide (p < 0) = true := by simpa using h1
    clear hp
    go_enter Tryz.func24, Tryz.ntmps24
    go_wp2_with fail
    go_ret2
    exact ⟨rfl, rfl⟩
  · have t1 : decide (p < 0) = false := by simpa using h1
    have t2 : decide ((x.heads.length : Int) ≤ p) = true := by simp; omega
    clear hp
    go_enter Tryz.func24, Tryz.ntmps24
    go_wp2_with fail
    go_ret2
    exact ⟨rfl, rfl⟩

set_option maxRecDepth 100000 in
set_option maxHeartbeats 1000000 in
theorem rext_ok {S : Nat → Prop} {b : Nat} {x : Lg} {w : World} (h : RLogAt w S b x) (good : Good x) (hlim : x.recs.length ≤ 900) (k : Nat) (hk : k < x.heads.length) :
    Calls Tryz.prog 26 #[.pointer (some ⟨b, 0, none⟩), .int .i64 k] w fun e w' => ∃ A c, e = .returned (.tuple #[.slice A (extL (leavesL x) (k + 1)).length c, .int .i64 0]) ∧ ListAt w' (.slice A (extL (leavesL x) (k + 1)).length c) (extL (leavesL x) (k + 1)) ∧ Below w.heap.size w w' := by
  have hlen := good.len
  have hsh0 := leavesL_short good
  have hll := leavesL_len x
  obtain ⟨A1, c1, A2, c2, -, h2, -, l2, hb, -, -⟩ := h.parts
  have hlv := rleaves_ok h good
  obtain ⟨Q, hQ⟩ : ∃ Q, Q = extL (leavesL x) (k + 1) := ⟨_, rfl⟩
  obtain ⟨Lv, hLv⟩ : ∃ Lv, Lv = leavesL x := ⟨_, rfl⟩
  obtain ⟨N, hN⟩ : ∃ N, N = x.heads.length := ⟨_, rfl⟩
  rw [← hQ]
  rw [← hLv] at hlv hll hsh0 hQ
  rw [← hN] at hll h2 l2 hk
  rw [hll] at hlv
  have hsh : ∀ y ∈ Lv, y.length ≤ 900000 := fun y hy => by have := hsh0 y hy; omega
  have hpr : ∀ (W : World) (g c : Nat), RowsAt W g 0 N c Lv → Calls Tryz.prog 54 #[.slice (some ⟨g, 0, none⟩) N c, .int .i64 ((k : Int) + 1)] W fun e w' => ∃ v, e = .returned (.tuple #[v, .int .i64 0]) ∧ w'.ownsRow W.heap.size 9 1 v Q.length (svs Q) ∧ Below W.heap.size W w' := by
    intro W g c hv
    have := extR_rows g 0 N c Lv (k + 1) W hv (by omega) (by omega) (by omega) hsh
    rw [← hQ] at this
    exact this
  have HL := Lib.hid hlv
  have HP := Lib.hid hpr
  have HLL := Lib.hid hll
  have t1 : decide (N ≤ k) = false := by simp; omega
  have hN2 : N ≤ 901 := by omega
  have hwr : IntKind.i64.wrap ((k : Int) + 1) = (k : Int) + 1 := by rw [IntKind.wrap_i64]; omega
  clear hlv hpr hsh0 hsh h hQ hLv hll hlen hlim hN
  go_enter Tryz.func26, Tryz.ntmps26
  go_wp2_with fail
  refine (HL.out).mono ?_
  rintro e w2 ⟨v, rfl, own2, b2⟩
  obtain ⟨g2, cap2, cs2, rfl, -, hblk, hcn, hcm, -⟩ := ownsRow_blk own2 (by omega)
  have hrow : RowsAt w2 g2 0 N cap2 Lv := ⟨HLL.out.symm, hcn, by unfold maxLen at hcm; omega, hblk.lt, fun j y hy => by rw [Nat.zero_add]; exact ownsRow_cell own2 j _ (svs_get Lv j y hy)⟩
  clear own2 hblk
  go_wp2_with fail
  with_reducible refine (HP.out _ _ _ hrow).mono ?_
  rintro e w3 ⟨v3, rfl, own3, b3⟩
  have hb3 := Below.next b2 b3
  have hl3 := listAt_own own3
  obtain ⟨A3, c3, rfl⟩ := hl3.len
  clear own3 hrow
  go_wp2_with fail
  go_ret2
  exact ⟨A3, c3, rfl, hl3, hb3⟩

set_option maxRecDepth 100000 in
set_option maxHeartbeats 1000000 in
theorem rext_out {S : Nat → Prop} {b : Nat} {x : Lg} {w : World} (h : RLogAt w S b x) (p : Int) (hp : p < 0 ∨ (x.heads.length : Nat) ≤ p) :
    Calls Tryz.prog 26 #[.pointer (some ⟨b, 0, none⟩), .int .i64 p] w fun e w' => e = .returned (.tuple #[.slice none 0 0, .int .i64 2]) ∧ w' = w := by
  obtain ⟨A1, c1, A2, c2, -, h2, -, l2, hb, -, -⟩ := h.parts
  clear h
  by_cases h1 : p < 0
  · have t1 : decide (p < 0) = true := by simpa using h1
    clear hp
    go_enter Tryz.func26, Tryz.ntmps26
    go_wp2_with fail
    go_ret2
    exact ⟨rfl, rfl⟩
  · have t1 : decide (p < 0) = false := by simpa using h1
    have t2 : decide ((x.heads.length : Int) ≤ p) = true := by simp; omega
    clear hp
    go_enter Tryz.func26, Tryz.ntmps26
    go_wp2_with fail
    go_ret2
    exact ⟨rfl, rfl⟩
end Go.Proofs.YtheebajklnljdaaGreatDoor
end

