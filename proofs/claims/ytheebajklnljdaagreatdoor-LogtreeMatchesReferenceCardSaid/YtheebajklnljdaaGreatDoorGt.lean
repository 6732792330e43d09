/- Joined: RcC LwC. -/
import Derived.Test.YtheebajklnljdaaGreatDoorGq
import Derived.Deep.DrawnRows
import Derived.Test.YtheebajklnljdaaGreatDoorGn

section
/- The law's logged: a log with these records. -/
namespace Go.Proofs.YtheebajklnljdaaGreatDoor
open Go Go.RowKit
attribute [local go_sem] Oper.semAt_some

/-- the log behind the first k records -/
def logN (rs : List Rec) : Nat → Lg
  | 0 => newLg (stL 0)
  | k + 1 => match rs[k]? with
    | some r => (appA (logN rs k) r (stL (100 + (k : Int)))).1
    | none => logN rs k
def RecsOk (rs : List Rec) : Prop := ∀ (i : Nat) r, rs[i]? = some r → recB r = true ∧ r.pos = (i : Int) + 1

theorem logN_step {rs : List Rec} {k : Nat} {r : Rec} (h : rs[k]? = some r) : logN rs (k + 1) = (appA (logN rs k) r (stL (100 + (k : Int)))).1 := by
  show (match rs[k]? with | some r => (appA (logN rs k) r (stL (100 + (k : Int)))).1 | none => logN rs k) = _
  rw [h]
theorem logN_spec {rs : List Rec} (ok : RecsOk rs) : ∀ k, k ≤ rs.length → Good (logN rs k) ∧ (logN rs k).recs = rs.take k ∧ ((∀ r, rs[k]? = some r → (appA (logN rs k) r (stL (100 + (k : Int)))).2 = 0 ∧ ∃ h, (logN rs (k + 1)).heads = (logN rs k).heads ++ [h]))
  | 0, _ => by
    have g0 : Good (logN rs 0) := newLg_good (stL_len 0)
    refine ⟨g0, rfl, fun r hr => ?_⟩
    obtain ⟨o1, o2⟩ := ok 0 r hr
    rw [logN_step hr]
    rcases appA_cases g0 r (stL (100 + ((0 : Nat) : Int))) with ⟨_, _, _, _, h5⟩ | ⟨h1, _⟩
    · rw [h5]; exact ⟨rfl, _, rfl⟩
    · exact absurd ⟨o1, stL_len _, by rw [o2]; rfl⟩ h1
  | k + 1, hk => by
    obtain ⟨g, hr, _⟩ := logN_spec ok k (by omega)
    obtain ⟨r, hrk⟩ : ∃ r, rs[k]? = some r := ⟨_, List.getElem?_eq_getElem (by omega)⟩
    obtain ⟨o1, o2⟩ := ok k r hrk
    have hl : (logN rs k).recs.length = k := by rw [hr, List.length_take]; omega
    have g1 : Good (logN rs (k + 1)) := by rw [logN_step hrk]; exact appA_good g _ _
    have hr1 : (logN rs (k + 1)).recs = rs.take (k + 1) := by
      rw [logN_step hrk]
      rcases appA_cases g r (stL (100 + (k : Int))) with ⟨_, _, _, _, h5⟩ | ⟨h1, _⟩
      · rw [h5, List.take_add_one, hrk, hr]; rfl
      · exact absurd ⟨o1, stL_len _, by rw [o2, hl]⟩ h1
    refine ⟨g1, hr1, fun q hq => ?_⟩
    obtain ⟨p1, p2⟩ := ok (k + 1) q hq
    have hl1 : (logN rs (k + 1)).recs.length = k + 1 := by rw [hr1, List.length_take]; omega
    rw [logN_step hq]
    rcases appA_cases g1 q (stL (100 + ((k + 1 : Nat) : Int))) with ⟨_, _, _, _, h5⟩ | ⟨h1, _⟩
    · rw [h5]; exact ⟨rfl, _, rfl⟩
    · exact absurd ⟨p1, stL_len _, by rw [p2, hl1]⟩ h1
/-- the heads of a log's beginning -/
theorem logN_heads {rs : List Rec} (ok : RecsOk rs) (m : Nat) : ∀ n, m ≤ n → n ≤ rs.length → ∃ l, (logN rs n).heads = (logN rs m).heads ++ l
  | 0, h, _ => by obtain rfl : m = 0 := by omega
                  exact ⟨[], by rw [List.append_nil]⟩
  | n + 1, h, hn => by
    rcases Nat.lt_or_ge m (n + 1) with h1 | h1
    · obtain ⟨l, hl⟩ := logN_heads ok m n (by omega) (by omega)
      obtain ⟨r, hr⟩ : ∃ r, rs[n]? = some r := ⟨_, List.getElem?_eq_getElem (by omega)⟩
      obtain ⟨y, hy⟩ := ((logN_spec ok n (by omega)).2.2 r hr).2
      exact ⟨l ++ [y], by rw [hy, hl, List.append_assoc]⟩
    · obtain rfl : m = n + 1 := by omega
      exact ⟨[], by rw [List.append_nil]⟩
theorem logN_take {rs : List Rec} (m : Nat) : ∀ k, k ≤ m → logN (rs.take m) k = logN rs k
  | 0, _ => rfl
  | k + 1, h => by
    have e : (rs.take m)[k]? = rs[k]? := by rw [List.getElem?_take, if_pos (by omega)]
    show (match (rs.take m)[k]? with | some r => (appA (logN (rs.take m) k) r (stL (100 + (k : Int)))).1 | none => logN (rs.take m) k) = _
    rw [e, logN_take m k (by omega)]
    rfl
theorem RecsOk.take {rs : List Rec} (ok : RecsOk rs) (m : Nat) : RecsOk (rs.take m) := fun i r h => by
  rw [List.getElem?_take] at h
  split at h
  · exact ok i r h
  · cases h

/-- the log b, all of it newer than w -/
def LJ (w : World) (b : Nat) (x : Lg) (W : World) : Prop := LogAt W (fun k => w.heap.size ≤ k ∧ k < W.heap.size) b x ∧ Below w.heap.size w W
theorem LJ.later {w : World} {b : Nat} {x : Lg} {W W' : World} (h : LJ w b x W) (hb : Below W.heap.size W W') : LJ w b x W' :=
  ⟨(h.1.below hb).mono fun _ hk => ⟨hk.1, Nat.lt_of_lt_of_le hk.2 hb.size⟩, Below.next h.2 hb⟩
theorem LJ.app {w : World} {b : Nat} {x : Lg} {W : World} (h : LJ w b x W) (good : Good x) (hR : RoundOk w) (p : Int) (A : Option Addr) (c : Nat) (l : List Chg) (hv : ChgsAt w (.slice A l.length c) l) (st : List UInt8) :
    Calls Tryz.prog 12 #[.pointer (some ⟨b, 0, none⟩), recV p (.slice A l.length c), .string (str st)] W fun e w' => e = .returned (.int .i64 (appA x ⟨p, l⟩ st).2) ∧ LJ w b (appA x ⟨p, l⟩ st).1 w' := by
  refine (append_ok h.1 good (fun k hk => hk.2) p A c l st (hv.below h.2) (hR.later h.2)).mono ?_
  rintro e w' ⟨he, hL, hO⟩
  refine ⟨he, hL.tight.mono fun k hk => ?_, h.2.trans (hO.below (fun k hk => hk.1) h.2.size)⟩
  rcases hk.1 with hk1 | hk1
  · exact ⟨hk1.1, hk.2⟩
  · exact ⟨Nat.le_trans h.2.size hk1, hk.2⟩

set_option maxRecDepth 100000 in
set_option maxHeartbeats 1500000 in
theorem logged_ok (A : Option Addr) (c : Nat) (rs : List Rec) (w : World) (hv : RecsAt w (.slice A rs.length c) rs) (ok : RecsOk rs) (hn : rs.length ≤ 10000) (hR : RoundOk w) :
    Calls Tryz.prog 39 #[.slice A rs.length c] w fun e w' => ∃ b, e = .returned (.pointer (some ⟨b, 0, none⟩)) ∧ LJ w b (logN rs rs.length) w' := by
  have hspec := fun k hk => logN_spec ok k hk
  have hstep := fun (k : Nat) (r : Rec) (h : rs[k]? = some r) => logN_step (rs := rs) h
  have HSPEC := Lib.hid hspec
  have HSTEP := Lib.hid hstep
  have HV := Lib.hid hv
  clear hspec hstep hv ok
  go_enter Tryz.func39, Tryz.ntmps39
  go_wp2_with fail
  refine (state_ok 0 w).mono ?_
  rintro e w1 ⟨rfl, b1⟩
  go_wp2_with fail
  refine (new_ok (stL 0) w1 (stL_len 0)).mono ?_
  rintro e w2 ⟨b, rfl, L2, b2⟩
  have hb2 := Below.next b1 b2
  have J0 : LJ w b (logN rs 0) w2 := ⟨L2.tight.mono fun k hk => ⟨Nat.le_trans b1.size hk.1, hk.2⟩, hb2⟩
  clear L2 b2 hb2 b1
  go_wp2_with fail
  go_loopw [5] (fun iv wr => ∃ k : Nat, k ≤ rs.length ∧ iv = .int .i64 k ∧ LJ w b (logN rs k) wr) (fun iv _ => rs.length - (intOf iv).toNat)
  case atStart => exact ⟨0, by omega, rfl, J0⟩
  case round =>
    clear J0
    obtain ⟨k, hk, rfl, hJ⟩ := hrel
    by_cases h1 : k < rs.length
    · have t1 : decide (k < rs.length) = true := by simpa using h1
      obtain ⟨r, hr⟩ : ∃ r, rs[k]? = some r := ⟨_, List.getElem?_eq_getElem h1⟩
      obtain ⟨A', c', e0, hc, hj⟩ := HV.out
      injection e0 with e1 e2 e3
      subst e1 e3
      obtain ⟨g, o, rfl, hg, hj⟩ := hj (by omega)
      obtain ⟨p0, cv, p1, hcv⟩ := hj k r hr
      obtain ⟨A2, c2, rfl, hc2, -⟩ := id hcv
      obtain ⟨p, l⟩ := r
      dsimp only at p0 p1 hcv hc2
      obtain ⟨gd, -, hst⟩ := HSPEC.out k hk
      obtain ⟨he, -⟩ := hst _ hr
      have hnx := HSTEP.out k _ hr
      obtain ⟨x, hx⟩ : ∃ x, x = logN rs k := ⟨_, rfl⟩
      obtain ⟨x', hx'⟩ : ∃ x, x = logN rs (k + 1) := ⟨_, rfl⟩
      obtain ⟨ST, hST⟩ : ∃ s, s = stL (100 + (k : Int)) := ⟨_, rfl⟩
      rw [← hx, ← hST] at he hnx
      rw [← hx'] at hnx
      rw [← hx] at hJ gd
      have cst : ∀ (W : World), LJ w b x W → W.cell? ⟨g, o + k * 2, none⟩ = some (.int .i64 p) → W.cell? ⟨g, o + k * 2 + 1, none⟩ = some (.slice A2 l.length c2) → Calls Tryz.prog 9 #[.int .i64 (100 + (k : Int))] W fun e w' => e = .returned (.string (str ST)) ∧ LJ w b x w' ∧ w'.cell? ⟨g, o + k * 2, none⟩ = some (.int .i64 p) ∧ w'.cell? ⟨g, o + k * 2 + 1, none⟩ = some (.slice A2 l.length c2) := by
        intro W h h0 h1
        rw [hST]
        exact (state_ok _ W).mono fun e w' ⟨he, hb⟩ => ⟨he, h.later hb, (hb.cell (block_of_cell h0)).trans h0, (hb.cell (block_of_cell h1)).trans h1⟩
      have cap : ∀ (W : World), LJ w b x W → Calls Tryz.prog 12 #[.pointer (some ⟨b, 0, none⟩), .agg #[.int .i64 p, .slice A2 l.length c2], .string (str ST)] W fun e w' => e = .returned (.int .i64 0) ∧ LJ w b x' w' ∧ w'.cell? ⟨g, o + k * 2, none⟩ = some (.int .i64 p) ∧ w'.cell? ⟨g, o + k * 2 + 1, none⟩ = some (.slice A2 l.length c2) := by
        intro W h
        have := h.app gd hR p A2 c2 l hcv ST
        rw [he, ← hnx] at this
        exact this.mono fun e w' ⟨he, hJ⟩ => ⟨he, hJ, (hJ.2.cell hg).trans p0, (hJ.2.cell hg).trans p1⟩
      have z0 : wr.cell? ⟨g, o + k * 2, none⟩ = some (.int .i64 p) := (hJ.2.cell hg).trans p0
      have z1 : wr.cell? ⟨g, o + k * 2 + 1, none⟩ = some (.slice A2 l.length c2) := (hJ.2.cell hg).trans p1
      have jd : LJ w b x wr.drew := hJ.later (Below.drew (Below.refl _ _))
      have z0d : wr.drew.cell? ⟨g, o + k * 2, none⟩ = some (.int .i64 p) := z0
      have z1d : wr.drew.cell? ⟨g, o + k * 2 + 1, none⟩ = some (.slice A2 l.length c2) := z1
      have hwr : IntKind.i64.wrap (100 + (k : Int)) = 100 + (k : Int) := by rw [IntKind.wrap_i64]; omega
      have q0 : (0 : Int) ≤ (k : Int) := by omega
      have q1 : (k : Int) < (rs.length : Int) := by omega
      have CST := Lib.hid cst
      have CAP := Lib.hid cap
      have HX' := Lib.hid hx'
      clear cst cap hx hx' hST he hnx hj hr hcv p0 p1 gd hJ hst
      go_wp2_with fail
      go_region_held3 (fun W => W.cell? ⟨g, o + k * 2, none⟩ = some (.int .i64 p) ∧ W.cell? ⟨g, o + k * 2 + 1, none⟩ = some (.slice A2 l.length c2)) (refine ⟨?_, ?_⟩ <;> assumption)
        (first
          | (go_at_call 9; (with_reducible refine (CST.out _ ?_ ?_ ?_).mono ?_); assumption; assumption; assumption; rintro e w7 ⟨rfl, sn7, g71, g72⟩)
          | (go_at_call 12; (with_reducible refine (CAP.out _ ?_).mono ?_); assumption; rintro e w8 ⟨rfl, sn8, g81, g82⟩)
          | fail)
      all_goals
        clear z0 z1 jd z0d z1d
        rw [HX'.out] at sn8
        go_wp2_with fail
        exact ⟨⟨k + 1, by omega, by go_num, sn8⟩, by simp [intOf]; omega⟩
    · have t1 : decide (k < rs.length) = false := by simpa using h1
      obtain rfl : k = rs.length := by omega
      go_wp2_with fail
      go_ret
      exact ⟨b, rfl, hJ⟩
end Go.Proofs.YtheebajklnljdaaGreatDoor
end

section
/- sane: the fixed examples hold. -/
namespace Go.Proofs.YtheebajklnljdaaGreatDoor
open Go Go.RowKit
attribute [local go_sem] Oper.semAt_some

/-- 32 zero bytes in block g -/
def ZerosAt (W : World) (g : Nat) : Prop := BlkIs W g 5 zeroCells.toList
theorem ZerosAt.conv {W : World} {g : Nat} (h : ZerosAt W g) : (convert 77 9 (.slice (some ⟨g, 0, none⟩) 32 32)).run Tryz.prog W = .ok (.string (str zero32)) W := by
  unfold ZerosAt at h
  rw [zeroCells_eq] at h
  exact run_convert_blk (l := zero32) (more := []) 77 9 5 Tryz.underlying77 Tryz.underlying5 Tryz.underlying9 (by rw [List.append_nil]; exact h)
theorem ZerosAt.newd (W : World) : ZerosAt (W.alloc (.cells zeroCells 5)).drew W.heap.size := BlkIs.new W _ _
theorem ZerosAt.new (W : World) : ZerosAt (W.alloc (.cells zeroCells 5)) W.heap.size := BlkIs.new W _ _

set_option maxRecDepth 100000 in
set_option maxHeartbeats 4000000 in
theorem sane_ok (w : World) (hR : RoundOk w) : Calls Tryz.prog 7 #[] w fun e w' => e = .returned (.bool true) ∧ Below w.heap.size w w' := by
  have hmk := run_make32
  have hx : ∀ W : World, Calls Tryz.prog 8 #[.string ⟨#[120]⟩] W fun e w' => e = .returned (.tuple #[.pointer none, .int .i64 90]) ∧ w' = W := fun W => new_no [120] W (by decide)
  have HX := Lib.hid hx
  clear hx
  go_enter Tryz.func7, Tryz.ntmps7
  go_wp2_with fail
  refine (state_ok 1 w).mono ?_
  rintro e w1 ⟨rfl, b1⟩
  go_wp2_with fail
  refine (new_ok (stL 1) w1 (stL_len 1)).mono ?_
  rintro e w2 ⟨b, rfl, L2, b2⟩
  have hb2 := Below.next b1 b2
  go_wp2_with fail
  refine (HX.out w2).mono ?_
  rintro e w3 ⟨rfl, rfl⟩
  go_upto_region 5 with fail
  obtain ⟨R0, hR0⟩ : ∃ R, R = rootA x0L := ⟨_, rfl⟩
  obtain ⟨E0, hE0⟩ : ∃ E, E = 0 :: (zero32 ++ stL 1) := ⟨_, rfl⟩
  have hroot : ∀ W, Below w3.heap.size w3 W → Calls Tryz.prog 15 #[.pointer (some ⟨b, 0, none⟩)] W fun e w' => e = .returned (.string (str R0)) ∧ Below w3.heap.size w3 w' ∧ ∀ g, ZerosAt W g → ZerosAt w' g := by
    intro W hW
    rw [hR0]
    exact (lroot_ok (L2.below hW) x0_good (hR.later (Below.next hb2 hW))).mono fun e w' ⟨he, hb⟩ => ⟨he, Below.next hW hb, fun g hg => BlkIs.later hg hb⟩
  have hst : ∀ W, Below w3.heap.size w3 W → Calls Tryz.prog 9 #[.int .i64 1] W fun e w' => e = .returned (.string (str (stL 1))) ∧ Below w3.heap.size w3 w' ∧ ∀ g, ZerosAt W g → ZerosAt w' g := by
    intro W hW
    exact (state_ok 1 W).mono fun e w' ⟨he, hb⟩ => ⟨he, Below.next hW hb, fun g hg => BlkIs.later hg hb⟩
  have hdr : ∀ (W : World) (g : Nat), W.heap.size = g → Below w3.heap.size w3 W → Calls Tryz.prog 44 #[.slice (some ⟨g, 0, none⟩) 1 1] (W.alloc (.cells #[.string (str E0)] 9)) fun e w' => e = .returned (.string (str R0)) ∧ Below w3.heap.size w3 w' := by
    rintro W g rfl hW
    have hW2 := below_allocd hW (Nat.le_refl _) (o := .cells #[.string (str E0)] 9)
    have hrow : RowsAt (W.alloc (.cells #[.string (str E0)] 9)) W.heap.size 0 1 1 [E0] := by
      refine ⟨rfl, by decide, by decide, by rw [World.size_alloc]; omega, fun j x hx => ?_⟩
      match j, hx with
      | 0, hx => cases hx; exact (BlkIs.new W _ #[.string (str E0)]).cell 0
      | j + 1, hx => simp at hx
    have h := root_list _ [E0] _ hrow.list (by simp) (fun x hx => by rw [List.mem_singleton.1 hx, hE0]; decide) (hR.later (Below.next hb2 hW2))
    rw [hR0, root_zero, ← hE0]
    exact h.mono fun e w' ⟨he, hb⟩ => ⟨he, Below.next hW2 hb⟩
  have hc1 : (⟨#[0]⟩ : ByteArray) ++ str zero32 = str (0 :: zero32) := by
    have e : (⟨#[0]⟩ : ByteArray) = str [0] := rfl
    rw [e, cat_str]; rfl
  have hc2 : str (0 :: zero32) ++ str (stL 1) = str E0 := by rw [cat_str, hE0]; rfl
  have hzl : zero32.length = 32 := rfl
  have hsl : (stL 1).length = 32 := rfl
  have s1 : ¬ 9223372036854775807 < 1 + zero32.length := by omega
  have s2 : ¬ 9223372036854775807 < 1 + zero32.length + (stL 1).length := by omega
  have HROOT := Lib.hid hroot
  have HST := Lib.hid hst
  have HDR := Lib.hid hdr
  have HC1 := Lib.hid hc1
  have HC2 := Lib.hid hc2
  have L2H := Lib.hid L2
  clear hroot hst hdr hR0 hE0 hc1 hc2 L2 hzl hsl
  have hbr : Below w3.heap.size w3 w3 := Below.refl _ _
  have hcn := fun W : World => (ZerosAt.new W).conv
  have hcd := fun W : World => (ZerosAt.newd W).conv
  go_cut [5] (fun s5 wx => s5 = .bool true ∧ Below w3.heap.size w3 wx)
  case first =>
    go_region_law (first
      | (go_simp; go_at_call 15; (with_reducible refine (HROOT.out _ ?_).mono ?_); (first | assumption | (with_reducible exact Below.drew (by assumption)) | (with_reducible exact below_allocd (by assumption) (Nat.le_refl _)) | (with_reducible exact Below.drew (below_allocd (by assumption) (Nat.le_refl _)))); rintro e w5 ⟨rfl, B5, Z5⟩; (try (have hz5 := Z5 _ (by with_reducible exact ZerosAt.newd _); have hcv5 := hz5.conv)))
      | (go_simp; go_at_call 9; (with_reducible refine (HST.out _ ?_).mono ?_); (first | assumption | (with_reducible exact Below.drew (by assumption)) | (with_reducible exact below_allocd (by assumption) (Nat.le_refl _)) | (with_reducible exact Below.drew (below_allocd (by assumption) (Nat.le_refl _)))); rintro e w6 ⟨rfl, B6, Z6⟩; (try (have hz6 := Z6 _ (by first | (with_reducible exact ZerosAt.new _) | assumption); have hcv6 := hz6.conv)))
      | (go_simp; go_at_call 44; rw [HC1.out, HC2.out]; (with_reducible refine (HDR.out _ _ ?_ ?_).mono ?_); (first | (with_reducible rfl) | exact World.size_alloc _ _ | (simp; done)); (first | assumption | (with_reducible exact Below.drew (by assumption)) | (with_reducible exact below_allocd (by assumption) (Nat.le_refl _)) | (with_reducible exact Below.drew (below_allocd (by assumption) (Nat.le_refl _)))); rintro e w7 ⟨rfl, B7⟩)
      | fail)
    all_goals
      go_wp2_with fail
      go_meet
      exact ⟨by simp, B7⟩
  case rest =>
    obtain ⟨rfl, hbc⟩ := hcut
    have hbw := Below.next hb2 hbc
    obtain ⟨X, hX⟩ : ∃ X, X = changeL 7 := ⟨_, rfl⟩
    have hch := change_ok 7 wc (by decide) (by decide)
    rw [← hX] at hch
    unfold chgV at hch
    have HCH := Lib.hid hch
    have HXX := Lib.hid hX
    clear hch hX
    go_wp2_with fail
    refine (HCH.out).mono ?_
    rintro e w4 ⟨rfl, b4⟩
    go_upto_region 7 with fail
    have sn0 : Sn w b (w4.heap.size + 1) w4.heap.size x0L ((w4.alloc (.cells #[.int .i64 X.table, .int .i64 X.key, .bool X.had, .int .i64 X.old.1, .int .i64 X.old.2.1, .int .i64 X.old.2.2, .bool X.has, .int .i64 X.new.1, .int .i64 X.new.2.1, .int .i64 X.new.2.2] 72)).alloc (.cells #[.int .i64 1, .slice (some ⟨w4.heap.size, 0, none⟩) 1 1] 35)) := by
      have hb4 := Below.next hbc b4
      have hsz := hb4.size
      have hsz1 := b1.size
      have hb6 := below_allocd (below_allocd hb4 (Nat.le_refl _) (o := .cells #[.int .i64 X.table, .int .i64 X.key, .bool X.had, .int .i64 X.old.1, .int .i64 X.old.2.1, .int .i64 X.old.2.2, .bool X.has, .int .i64 X.new.1, .int .i64 X.new.2.1, .int .i64 X.new.2.2] 72)) (Nat.le_refl _) (o := .cells #[.int .i64 1, .slice (some ⟨w4.heap.size, 0, none⟩) 1 1] 35)
      refine ⟨_, ?_, ?_, ?_, (L2H.out.tight).below hb6, alloc_new_at _ _ _ (by rw [World.size_alloc]), ?_, Below.next hb2 hb6⟩
      · rintro k ⟨h1, h2⟩
        simp only [World.size_alloc]
        exact ⟨by omega, by omega⟩
      · rintro ⟨_, h2⟩; omega
      · rintro ⟨_, h2⟩; omega
      · rw [← HXX.out]
        exact (BlkIs.new w4 _ _).alloc _
    generalize (w4.alloc (.cells #[.int .i64 X.table, .int .i64 X.key, .bool X.had, .int .i64 X.old.1, .int .i64 X.old.2.1, .int .i64 X.old.2.2, .bool X.has, .int .i64 X.new.1, .int .i64 X.new.2.1, .int .i64 X.new.2.2] 72)).alloc (.cells #[.int .i64 1, .slice (some ⟨w4.heap.size, 0, none⟩) 1 1] 35) = w6 at *
    obtain ⟨R, hRR⟩ : ∃ R, R = w4.heap.size + 1 := ⟨_, rfl⟩
    rw [← hRR] at sn0 ⊢
    generalize w4.heap.size = G at *
    clear hRR b4 hbc hbw
    obtain ⟨ST2, hST2⟩ : ∃ S, S = stL 2 := ⟨_, rfl⟩
    obtain ⟨x1, hx1⟩ : ∃ x, x = x1L := ⟨_, rfl⟩
    obtain ⟨x0, hx0⟩ : ∃ x, x = x0L := ⟨_, rfl⟩
    have cst : ∀ (x : Lg) (W : World), Sn w b R G x W → Calls Tryz.prog 9 #[.int .i64 2] W fun e w' => e = .returned (.string (str ST2)) ∧ Sn w b R G x w' ∧ w'.cell? ⟨R, 0, none⟩ = some (.int .i64 1) ∧ w'.cell? ⟨R, 1, none⟩ = some (.slice (some ⟨G, 0, none⟩) 1 1) := by
      intro x W h
      rw [hST2]
      exact (state_ok 2 W).mono fun e w' ⟨he, hb⟩ => ⟨he, h.later hb, (h.later hb).box.cell 0, (h.later hb).box.cell 1⟩
    have ca1 : ∀ W : World, Sn w b R G x0 W → Calls Tryz.prog 12 #[.pointer (some ⟨b, 0, none⟩), .agg #[.int .i64 1, .slice (some ⟨G, 0, none⟩) 1 1], .string (str ST2)] W fun e w' => e = .returned (.int .i64 0) ∧ Sn w b R G x1 w' ∧ w'.cell? ⟨R, 0, none⟩ = some (.int .i64 1) ∧ w'.cell? ⟨R, 1, none⟩ = some (.slice (some ⟨G, 0, none⟩) 1 1) := by
      intro W h
      rw [hST2, hx1]
      rw [hx0] at h
      have hh := h.app x0_good hR (stL 2)
      rw [app_one] at hh
      exact hh.mono fun e w' ⟨he, hs⟩ => ⟨he, hs, hs.box.cell 0, hs.box.cell 1⟩
    have ca2 : ∀ W : World, Sn w b R G x1 W → Calls Tryz.prog 12 #[.pointer (some ⟨b, 0, none⟩), .agg #[.int .i64 1, .slice (some ⟨G, 0, none⟩) 1 1], .string (str ST2)] W fun e w' => e = .returned (.int .i64 90) ∧ Sn w b R G x1 w' ∧ w'.cell? ⟨R, 0, none⟩ = some (.int .i64 1) ∧ w'.cell? ⟨R, 1, none⟩ = some (.slice (some ⟨G, 0, none⟩) 1 1) := by
      intro W h
      rw [hST2, hx1]
      rw [hx1] at h
      have hh := h.app x1_good hR (stL 2)
      rw [app_two] at hh
      exact hh.mono fun e w' ⟨he, hs⟩ => ⟨he, hs, hs.box.cell 0, hs.box.cell 1⟩
    have g1 : w6.cell? ⟨R, 0, none⟩ = some (.int .i64 1) := sn0.box.cell 0
    have g2 : w6.cell? ⟨R, 1, none⟩ = some (.slice (some ⟨G, 0, none⟩) 1 1) := sn0.box.cell 1
    rw [← hx0] at sn0
    have sn1 : Sn w b R G x0 w6.drew := sn0.later (Below.drew (Below.refl _ _))
    have CST := Lib.hid cst
    have CA1 := Lib.hid ca1
    have CA2 := Lib.hid ca2
    have HST2 := Lib.hid hST2
    have HX1 := Lib.hid hx1
    clear cst ca1 ca2 hST2 hx1 hx0 sn0
    go_region_held3 (fun W => W.cell? ⟨R, 0, none⟩ = some (.int .i64 1) ∧ W.cell? ⟨R, 1, none⟩ = some (.slice (some ⟨G, 0, none⟩) 1 1)) (refine ⟨?_, ?_⟩ <;> assumption)
      (first
        | (go_at_call 9; (with_reducible refine (CST.out x0 _ ?_).mono ?_); assumption; rintro e w7 ⟨rfl, sn7, g71, g72⟩)
        | (go_at_call 12; (with_reducible refine (CA1.out _ ?_).mono ?_); assumption; rintro e w8 ⟨rfl, sn8, g81, g82⟩)
        | fail)
    go_wp2_with fail
    have sn9 : Sn w b R G x1 w8.drew := sn8.later (Below.drew (Below.refl _ _))
    clear sn1 sn7 sn8 g1 g2 g71 g72
    go_region_held3 (fun W => W.cell? ⟨R, 0, none⟩ = some (.int .i64 1) ∧ W.cell? ⟨R, 1, none⟩ = some (.slice (some ⟨G, 0, none⟩) 1 1)) (refine ⟨?_, ?_⟩ <;> assumption)
      (first
        | (go_at_call 9; (with_reducible refine (CST.out x1 _ ?_).mono ?_); assumption; rintro e w9 ⟨rfl, sn10, g91, g92⟩)
        | (go_at_call 12; (with_reducible refine (CA2.out _ ?_).mono ?_); assumption; rintro e wa ⟨rfl, sna, ga1, ga2⟩)
        | fail)
    clear sn9 sn10 g81 g82 g91 g92
    go_wp2_with fail
    rw [HX1.out] at sna
    obtain ⟨Z, hZ⟩ : ∃ Z, Z = zero32 := ⟨_, rfl⟩
    obtain ⟨ST1, hST1⟩ : ∃ S, S = stL 1 := ⟨_, rfl⟩
    obtain ⟨C1, hC1⟩ : ∃ C, C = chainL zero32 (encRec r7) := ⟨_, rfl⟩
    obtain ⟨E1, hE1⟩ : ∃ E, E = encHd h1L := ⟨_, rfl⟩
    obtain ⟨P1, hP1⟩ : ∃ P, P = proofL (leavesL x1L) 1 := ⟨_, rfl⟩
    obtain ⟨RT, hRT⟩ : ∃ P, P = rootA x1L := ⟨_, rfl⟩
    have e0 : hdV h0L = .agg #[.int .i64 0, .string (str Z), .string (str ST1)] := by rw [hZ, hST1]; rfl
    have e1 : hdV h1L = .agg #[.int .i64 1, .string (str C1), .string (str ST2)] := by rw [hC1, HST2.out]; rfl
    have el : ((E1.length : Int) == 65) = true := by rw [hE1, h1_len]; rfl
    have ch0 := fun W h => @sn_head0 w b R G W h
    have ch1 := fun W h => @sn_head1 w b R G W h
    have cen := sn_enc
    have cde := sn_dec
    have cp1 := fun W h => @sn_prove1 w b R G W h hR
    have cp2 := fun W h => @sn_prove2 w b R G W h
    have cx2 := fun W h => @sn_ext2 w b R G W h
    have cre := fun W h => @sn_record w b R G W h
    have cro := fun W h => @sn_root w b R G W h hR
    have cv1 := sn_ver1
    have cv0 := sn_ver0
    have cf1 := fun W h => @sn_fol1 w b R G W h hR
    have cf0 := fun W h => @sn_fol0 w b R G W h hR
    have csa := fun W h => @sn_same w b R G W h
    have cle := fun W h => @sn_len w b R G W h
    have cs2 := fun W => state_ok 2 W
    rw [← HST2.out] at cs2
    simp only [e0] at ch0
    simp only [e1] at ch1
    simp only [e1, ← hE1] at cen cde
    simp only [← hP1] at cp1
    simp only [← hRT] at cro
    simp only [e1, ← hRT, ← hP1] at cv1
    simp only [e0, ← hRT, ← hP1] at cv0
    simp only [e0, e1] at cf1 cf0
    unfold recV at cre csa
    have hq : ∀ W : World, (Op.equalIn 10000 46 (.agg #[.int .i64 1, .string (str C1), .string (str ST2)]) (.agg #[.int .i64 1, .string (str C1), .string (str ST2)])).run Tryz.prog W = .ok true W := by
      intro W
      have := run_eqHd W ⟨1, C1, ST2⟩ ⟨1, C1, ST2⟩
      rw [decide_eq_true rfl] at this
      exact this
    have hgd := guardHd
    have hP1l : P1.length = 1 := by rw [hP1]; exact proof_one_len
    have Hch0 := Lib.hid ch0
    have Hch1 := Lib.hid ch1
    have Hcen := Lib.hid cen
    have Hcde := Lib.hid cde
    have Hcp1 := Lib.hid cp1
    have Hcp2 := Lib.hid cp2
    have Hcx2 := Lib.hid cx2
    have Hcre := Lib.hid cre
    have Hcro := Lib.hid cro
    have Hcv1 := Lib.hid cv1
    have Hcv0 := Lib.hid cv0
    have Hcf1 := Lib.hid cf1
    have Hcf0 := Lib.hid cf0
    have Hcsa := Lib.hid csa
    have Hcle := Lib.hid cle
    have Hcs2 := Lib.hid cs2
    have HhP1l := Lib.hid hP1l
    have ROUND := Lib.hid (fun (W : World) (hW : Below w.heap.size w W) => hR.later hW)
    clear ch0 ch1 cen cde cp1 cp2 cx2 cre cro cv1 cv0 cf1 cf0 csa cle cs2 hP1l hZ hST1 hC1 hE1 hP1 hRT e0 e1 HCH
    clear hmk hcn hcd s1 s2 hbr
    have sn := sna
    clear sna
    refine (Hch0.out _ sn).mono ?_
    rintro e wb ⟨rfl, bn⟩
    replace sn := sn.later bn
    clear bn
    have bn := Below.alloc1 wb (.cells #[.int .i64 0, .string (str Z), .string (str ST1)] 46)
    have K9n := BlkIs.new wb 46 #[.int .i64 0, .string (str Z), .string (str ST1)]
    replace sn := sn.later bn
    have K9 := K9n
    clear bn K9n
    go_wp2_with fail
    refine (Hch1.out _ sn).mono ?_
    rintro e wc1 ⟨rfl, bn⟩
    replace sn := sn.later bn
    replace K9 := K9.later bn
    clear bn
    have bn := Below.alloc1 wc1 (.cells #[.int .i64 1, .string (str C1), .string (str ST2)] 46)
    have K11n := BlkIs.new wc1 46 #[.int .i64 1, .string (str C1), .string (str ST2)]
    replace sn := sn.later bn
    replace K9 := K9.later bn
    have K11 := K11n
    clear bn K11n
    go_wp2_with fail
    refine (Hcen.out _).mono ?_
    rintro e wd ⟨rfl, bn⟩
    replace sn := sn.later bn
    replace K9 := K9.later bn
    replace K11 := K11.later bn
    clear bn
    go_wp2_with fail
    refine (Hcde.out _).mono ?_
    rintro e we ⟨rfl, bn⟩
    replace sn := sn.later bn
    replace K9 := K9.later bn
    replace K11 := K11.later bn
    clear bn
    have bn := Below.alloc1 we (.cells #[.int .i64 1, .string (str C1), .string (str ST2)] 46)
    have K15n := BlkIs.new we 46 #[.int .i64 1, .string (str C1), .string (str ST2)]
    replace sn := sn.later bn
    replace K9 := K9.later bn
    replace K11 := K11.later bn
    have K15 := K15n
    clear bn K15n
    go_wp2_with fail
    refine (Hcp1.out _ sn).mono ?_
    rintro e wf ⟨Ap, cp, rfl, LP, bn⟩
    replace sn := sn.later bn
    replace K9 := K9.later bn
    replace K11 := K11.later bn
    replace K15 := K15.later bn
    clear bn
    go_wp2_with fail
    refine (Hcp2.out _ sn).mono ?_
    rintro e wg ⟨rfl, bn⟩
    replace sn := sn.later bn
    replace K9 := K9.later bn
    replace K11 := K11.later bn
    replace K15 := K15.later bn
    replace LP := LP.below bn
    clear bn
    go_wp2_with fail
    refine (Hcx2.out _ sn).mono ?_
    rintro e wh ⟨rfl, bn⟩
    replace sn := sn.later bn
    replace K9 := K9.later bn
    replace K11 := K11.later bn
    replace K15 := K15.later bn
    replace LP := LP.below bn
    clear bn
    go_wp2_with fail
    refine (Hcre.out _ sn).mono ?_
    rintro e wi ⟨gy, cy, rfl, CY, bn⟩
    replace sn := sn.later bn
    replace K9 := K9.later bn
    replace K11 := K11.later bn
    replace K15 := K15.later bn
    replace LP := LP.below bn
    clear bn
    have bn := Below.alloc1 wi (.cells #[.int .i64 1, .slice (some ⟨gy, 0, none⟩) 1 cy] 35)
    have K23n := BlkIs.new wi 35 #[.int .i64 1, .slice (some ⟨gy, 0, none⟩) 1 cy]
    replace sn := sn.later bn
    replace K9 := K9.later bn
    replace K11 := K11.later bn
    replace K15 := K15.later bn
    replace LP := LP.below bn
    replace CY := CY.below bn
    have K23 := K23n
    clear bn K23n
    obtain ⟨B9, hB9⟩ : ∃ B, B = wb.heap.size := ⟨_, rfl⟩
    obtain ⟨B11, hB11⟩ : ∃ B, B = wc1.heap.size := ⟨_, rfl⟩
    obtain ⟨B15, hB15⟩ : ∃ B, B = we.heap.size := ⟨_, rfl⟩
    rw [← hB9] at K9 ⊢
    rw [← hB11] at K11 ⊢
    rw [← hB15] at K15 ⊢
    clear hB9 hB11 hB15
    go_wp2_with fail
    generalize hB23 : wi.heap.size = B23 at *
    clear hB23
    generalize wi.alloc (.cells #[.int .i64 1, .slice (some ⟨gy, 0, none⟩) 1 cy] 35) = wj at *
    have J : SnJ w b R G B9 B11 B15 B23 Z ST1 ST2 C1 gy cy (.slice Ap P1.length cp) P1 wj.drew :=
      SnJ.drew ⟨sn, ⟨K9.cell 0, K9.cell 1, K9.cell 2, K11.cell 0, K11.cell 1, K11.cell 2, K15.cell 0, K15.cell 1, K15.cell 2, K23.cell 0, K23.cell 1, sn.box.cell 0, sn.box.cell 1⟩, LP, CY⟩
    clear sn LP CY K9 K11 K15 K23
    apply region_lit
    case h =>
      repeat (with_reducible apply app_cons)
      with_reducible apply app_nil
      exact rfl
    refine wp_region_noPanic ?_
    refine wp_region_ord (fun W => SnC B9 B11 B15 B23 R Z ST1 ST2 C1 (.slice (some ⟨gy, 0, none⟩) 1 cy) (.slice (some ⟨G, 0, none⟩) 1 1) W) [(0, true), (1, true), (2, true), (3, true), (4, true), (5, true), (6, true), (7, true), (8, true), (9, true), (10, true), (11, true), (12, true), (13, false), (14, false), (15, true), (16, true), (17, true), (18, true), (19, true), (20, true), (21, true), (22, true), (23, true), (24, true), (25, true), (26, true), (27, true), (28, true), (29, true), (30, true), (31, true), (32, false), (33, true), (34, true), (35, true), (36, true), (37, true), (38, true), (39, true), (40, true), (41, true), (42, true), (43, true), (44, true), (45, true), (46, false), (48, false), (49, false), (47, true), (50, true), (51, true), (52, true), (53, false), (55, false), (56, false), (54, true), (57, true), (58, true), (59, true), (60, true), (61, true), (62, true), (63, true), (64, true), (65, true), (66, true), (67, true), (68, true), (69, false), (70, false), (72, false), (71, true), (73, true), (74, true), (75, true), (76, false), (77, true), (78, true), (79, true), (80, true), (81, true), (82, true), (83, true), (84, true), (85, false), (86, true), (87, true), (88, true), (89, true), (90, true), (91, true), (92, true), (93, true), (94, true)] (by kernel_rfl) (by as_aux_lemma => kernel_rfl) (by rfl) (by as_aux_lemma => kernel_rfl) (fun _ _ _ _ _ h => h) J.c (fun hHeld => ?_)
    repeat (first
      | (apply SeqO.take0
         case ho => exact rfl
         case hg => exact rfl
         case hy => (intro w hSw; (try dsimp only at hSw); go_simp; try with_reducible rfl)
         try simp only [Act.put, List.setIfInBounds_toArray, List.set_cons_zero, List.set_cons_succ])
      | (apply SeqO.take1
         case ho => exact rfl
         case hg => exact rfl
         case hj => exact rfl
         case hd => exact rfl
         case ht => exact rfl
         case hy => (intro w hSw; (try dsimp only at hSw); go_simp; try with_reducible rfl)
         try simp only [Act.put, List.setIfInBounds_toArray, List.set_cons_zero, List.set_cons_succ])
      | (first
         | (apply SeqO.step0
            case ho => exact rfl
            case hg => exact rfl)
         | (apply SeqO.step1
            case ho => exact rfl
            case hg => exact rfl
            case hj => exact rfl
            case hd => exact rfl
            case ht => exact rfl)
         intro K hK
         go_simp
         try (first
            | (go_at_call 9; (with_reducible refine (Hcs2.out _).mono ?_); rintro e wx ⟨rfl, bn⟩; have J := J.later bn; go_wp2_with fail)
            | (go_at_call 15; (with_reducible refine (Hcro.out _ J.sn).mono ?_); rintro e wx ⟨rfl, bn⟩; have J := J.later bn; go_wp2_with fail)
            | (go_at_call 36; (with_reducible refine (Hcv1.out _ _ J.lp (ROUND.out _ J.sn.below)).mono ?_); rintro e wx ⟨rfl, bn⟩; have J := J.later bn; go_wp2_with fail)
            | (go_at_call 36; (with_reducible refine (Hcv0.out _ _ J.lp (ROUND.out _ J.sn.below)).mono ?_); rintro e wx ⟨rfl, bn⟩; have J := J.later bn; go_wp2_with fail)
            | (go_at_call 34; (with_reducible refine (Hcf1.out _ J.sn).mono ?_); rintro e wx ⟨rfl, bn⟩; have J := J.later bn; go_wp2_with fail)
            | (go_at_call 34; (with_reducible refine (Hcf0.out _ J.sn).mono ?_); rintro e wx ⟨rfl, bn⟩; have J := J.later bn; go_wp2_with fail)
            | (go_at_call 22; (with_reducible refine (Hcsa.out _ J.sn gy cy J.cy).mono ?_); rintro e wx ⟨rfl, bn⟩; have J := J.later bn; go_wp2_with fail)
            | (go_at_call 14; (with_reducible refine (Hcle.out _ J.sn).mono ?_); rintro e wx ⟨rfl, rfl⟩; go_wp2_with fail)
            | fail)
         refine hK.out _ _ ?_ (fun hHeld => ?_)
         · first | (with_reducible exact J.c) | (with_reducible exact J.allocd)
         clear hK K
         try simp only [Act.put, List.setIfInBounds_toArray, List.set_cons_zero, List.set_cons_succ]))
    refine SeqO.done ?_
    refine NoPanic.normal ?_
    go_wp2_with fail
    go_ret
    exact ⟨rfl, J.sn.below⟩
end Go.Proofs.YtheebajklnljdaaGreatDoor
end

