/- The law's logged: a log with these records. -/
import Derived.Test.YtheebajklnljdaaDoorQRcA
import Derived.Deep.DrawnRows
namespace Go.Proofs.YtheebajklnljdaaDoor
open Go Go.RowKit
attribute [local go_sem] Oper.semAt_some

/-- the log behind the first k records -/
def logN (rs : List Rec) : Nat → Lg
  | 0 => newLg (stL 0)
  | k + 1 => match rs[k]? with
    | some r => (appA (logN rs k) r (stL (100 + (k : Int)))).1
    | none => logN rs k
def RecsOk (rs : List Rec) : Prop := ∀ (i : Nat) r, rs[i]? = some r → recB r = true ∧ r.pos = (i : Int) + 1

theorem logN_step {rs : List Rec} {k : Nat} {r : Rec} (h : rs[k]? = some r) : logN rs (k + 1) = (appA (logN rs k) r (stL (100 + (k : Int)))).1 := by
  show (match rs[k]? with | some r => (appA (logN rs k) r (stL (100 + (k : Int)))).1 | none => logN rs k) = _
  rw [h]
theorem logN_spec {rs : List Rec} (ok : RecsOk rs) : ∀ k, k ≤ rs.length → Good (logN rs k) ∧ (logN rs k).recs = rs.take k ∧ ((∀ r, rs[k]? = some r → (appA (logN rs k) r (stL (100 + (k : Int)))).2 = 0 ∧ ∃ h, (logN rs (k + 1)).heads = (logN rs k).heads ++ [h]))
  | 0, _ => by
    have g0 : Good (logN rs 0) := newLg_good (stL_len 0)
    refine ⟨g0, rfl, fun r hr => ?_⟩
    obtain ⟨o1, o2⟩ := ok 0 r hr
    rw [logN_step hr]
    rcases appA_cases g0 r (stL (100 + ((0 : Nat) : Int))) with ⟨_, _, _, _, h5⟩ | ⟨h1, _⟩
    · rw [h5]; exact ⟨rfl, _, rfl⟩
    · exact absurd ⟨o1, stL_len _, by rw [o2]; rfl⟩ h1
  | k + 1, hk => by
    obtain ⟨g, hr, _⟩ := logN_spec ok k (by omega)
    obtain ⟨r, hrk⟩ : ∃ r, rs[k]? = some r := ⟨_, List.getElem?_eq_getElem (by omega)⟩
    obtain ⟨o1, o2⟩ := ok k r hrk
    have hl : (logN rs k).recs.length = k := by rw [hr, List.length_take]; omega
    have g1 : Good (logN rs (k + 1)) := by rw [logN_step hrk]; exact appA_good g _ _
    have hr1 : (logN rs (k + 1)).recs = rs.take (k + 1) := by
      rw [logN_step hrk]
      rcases appA_cases g r (stL (100 + (k : Int))) with ⟨_, _, _, _, h5⟩ | ⟨h1, _⟩
      · rw [h5, List.take_add_one, hrk, hr]; rfl
      · exact absurd ⟨o1, stL_len _, by rw [o2, hl]⟩ h1
    refine ⟨g1, hr1, fun q hq => ?_⟩
    obtain ⟨p1, p2⟩ := ok (k + 1) q hq
    have hl1 : (logN rs (k + 1)).recs.length = k + 1 := by rw [hr1, List.length_take]; omega
    rw [logN_step hq]
    rcases appA_cases g1 q (stL (100 + ((k + 1 : Nat) : Int))) with ⟨_, _, _, _, h5⟩ | ⟨h1, _⟩
    · rw [h5]; exact ⟨rfl, _, rfl⟩
    · exact absurd ⟨p1, stL_len _, by rw [p2, hl1]⟩ h1
/-- the heads of a log's beginning -/
theorem logN_heads {rs : List Rec} (ok : RecsOk rs) (m : Nat) : ∀ n, m ≤ n → n ≤ rs.length → ∃ l, (logN rs n).heads = (logN rs m).heads ++ l
  | 0, h, _ => by obtain rfl : m = 0 := by omega
                  exact ⟨[], by rw [List.append_nil]⟩
  | n + 1, h, hn => by
    rcases Nat.lt_or_ge m (n + 1) with h1 | h1
    · obtain ⟨l, hl⟩ := logN_heads ok m n (by omega) (by omega)
      obtain ⟨r, hr⟩ : ∃ r, rs[n]? = some r := ⟨_, List.getElem?_eq_getElem (by omega)⟩
      obtain ⟨y, hy⟩ := ((logN_spec ok n (by omega)).2.2 r hr).2
      exact ⟨l ++ [y], by rw [hy, hl, List.append_assoc]⟩
    · obtain rfl : m = n + 1 := by omega
      exact ⟨[], by rw [List.append_nil]⟩
theorem logN_take {rs : List Rec} (m : Nat) : ∀ k, k ≤ m → logN (rs.take m) k = logN rs k
  | 0, _ => rfl
  | k + 1, h => by
    have e : (rs.take m)[k]? = rs[k]? := by rw [List.getElem?_take, if_pos (by omega)]
    show (match (rs.take m)[k]? with | some r => (appA (logN (rs.take m) k) r (stL (100 + (k : Int)))).1 | none => logN (rs.take m) k) = _
    rw [e, logN_take m k (by omega)]
    rfl
theorem RecsOk.take {rs : List Rec} (ok : RecsOk rs) (m : Nat) : RecsOk (rs.take m) := fun i r h => by
  rw [List.getElem?_take] at h
  split at h
  · exact ok i r h
  · cases h

/-- the log b, all of it newer than w -/
def LJ (w : World) (b : Nat) (x : Lg) (W : World) : Prop := LogAt W (fun k => w.heap.size ≤ k ∧ k < W.heap.size) b x ∧ Below w.heap.size w W
theorem LJ.later {w : World} {b : Nat} {x : Lg} {W W' : World} (h : LJ w b x W) (hb : Below W.heap.size W W') : LJ w b x W' :=
  ⟨(h.1.below hb).mono fun _ hk => ⟨hk.1, Nat.lt_of_lt_of_le hk.2 hb.size⟩, Below.next h.2 hb⟩
theorem LJ.app {w : World} {b : Nat} {x : Lg} {W : World} (h : LJ w b x W) (good : Good x) (hR : RoundOk w) (p : Int) (A : Option Addr) (c : Nat) (l : List Chg) (hv : ChgsAt w (.slice A l.length c) l) (st : List UInt8) :
    Calls Tryd.prog 16 #[.pointer (some ⟨b, 0, none⟩), recV p (.slice A l.length c), .string (str st)] W fun e w' => e = .returned (.int .i64 (appA x ⟨p, l⟩ st).2) ∧ LJ w b (appA x ⟨p, l⟩ st).1 w' := by
  refine (append_ok h.1 good (fun k hk => hk.2) p A c l st (hv.below h.2) (hR.later h.2)).mono ?_
  rintro e w' ⟨he, hL, hO⟩
  refine ⟨he, hL.tight.mono fun k hk => ?_, h.2.trans (hO.below (fun k hk => hk.1) h.2.size)⟩
  rcases hk.1 with hk1 | hk1
  · exact ⟨hk1.1, hk.2⟩
  · exact ⟨Nat.le_trans h.2.size hk1, hk.2⟩

set_option maxRecDepth 100000 in
set_option maxHeartbeats 1500000 in
theorem logged_ok (A : Option Addr) (c : Nat) (rs : List Rec) (w : World) (hv : RecsAt w (.slice A rs.length c) rs) (ok : RecsOk rs) (hn : rs.length ≤ 10000) (hR : RoundOk w) :
    Calls Tryd.prog 10 #[.slice A rs.length c] w fun e w' => ∃ b, e = .returned (.pointer (some ⟨b, 0, none⟩)) ∧ LJ w b (logN rs rs.length) w' := by
  have hspec := fun k hk => logN_spec ok k hk
  have hstep := fun (k : Nat) (r : Rec) (h : rs[k]? = some r) => logN_step (rs := rs) h
  have HSPEC := Lib.hid hspec
  have HSTEP := Lib.hid hstep
  have HV := Lib.hid hv
  clear hspec hstep hv ok
  go_enter Tryd.func10, Tryd.ntmps10
  go_wp2_with fail
  refine (state_ok 0 w).mono ?_
  rintro e w1 ⟨rfl, b1⟩
  go_wp2_with fail
  refine (new_ok (stL 0) w1 (stL_len 0)).mono ?_
  rintro e w2 ⟨b, rfl, L2, b2⟩
  have hb2 := Below.next b1 b2
  have J0 : LJ w b (logN rs 0) w2 := ⟨L2.tight.mono fun k hk => ⟨Nat.le_trans b1.size hk.1, hk.2⟩, hb2⟩
  clear L2 b2 hb2 b1
  go_wp2_with fail
  go_loopw [5] (fun iv wr => ∃ k : Nat, k ≤ rs.length ∧ iv = .int .i64 k ∧ LJ w b (logN rs k) wr) (fun iv _ => rs.length - (intOf iv).toNat)
  case atStart => exact ⟨0, by omega, rfl, J0⟩
  case round =>
    clear J0
    obtain ⟨k, hk, rfl, hJ⟩ := hrel
    by_cases h1 : k < rs.length
    · have t1 : decide (k < rs.length) = true := by simpa using h1
      obtain ⟨r, hr⟩ : ∃ r, rs[k]? = some r := ⟨_, List.getElem?_eq_getElem h1⟩
      obtain ⟨A', c', e0, hc, hj⟩ := HV.out
      injection e0 with e1 e2 e3
      subst e1 e3
      obtain ⟨g, o, rfl, hg, hj⟩ := hj (by omega)
      obtain ⟨p0, cv, p1, hcv⟩ := hj k r hr
      obtain ⟨A2, c2, rfl, hc2, -⟩ := id hcv
      obtain ⟨p, l⟩ := r
      dsimp only at p0 p1 hcv hc2
      obtain ⟨gd, -, hst⟩ := HSPEC.out k hk
      obtain ⟨he, -⟩ := hst _ hr
      have hnx := HSTEP.out k _ hr
      obtain ⟨x, hx⟩ : ∃ x, x = logN rs k := ⟨_, rfl⟩
      obtain ⟨x', hx'⟩ : ∃ x, x = logN rs (k + 1) := ⟨_, rfl⟩
      obtain ⟨ST, hST⟩ : ∃ s, s = stL (100 + (k : Int)) := ⟨_, rfl⟩
      rw [← hx, ← hST] at he hnx
      rw [← hx'] at hnx
      rw [← hx] at hJ gd
      have cst : ∀ (W : World), LJ w b x W → W.cell? ⟨g, o + k * 2, none⟩ = some (.int .i64 p) → W.cell? ⟨g, o + k * 2 + 1, none⟩ = some (.slice A2 l.length c2) → Calls Tryd.prog 17 #[.int .i64 (100 + (k : Int))] W fun e w' => e = .returned (.string (str ST)) ∧ LJ w b x w' ∧ w'.cell? ⟨g, o + k * 2, none⟩ = some (.int .i64 p) ∧ w'.cell? ⟨g, o + k * 2 + 1, none⟩ = some (.slice A2 l.length c2) := by
        intro W h h0 h1
        rw [hST]
        exact (state_ok _ W).mono fun e w' ⟨he, hb⟩ => ⟨he, h.later hb, (hb.cell (block_of_cell h0)).trans h0, (hb.cell (block_of_cell h1)).trans h1⟩
      have cap : ∀ (W : World), LJ w b x W → Calls Tryd.prog 16 #[.pointer (some ⟨b, 0, none⟩), .agg #[.int .i64 p, .slice A2 l.length c2], .string (str ST)] W fun e w' => e = .returned (.int .i64 0) ∧ LJ w b x' w' ∧ w'.cell? ⟨g, o + k * 2, none⟩ = some (.int .i64 p) ∧ w'.cell? ⟨g, o + k * 2 + 1, none⟩ = some (.slice A2 l.length c2) := by
        intro W h
        have := h.app gd hR p A2 c2 l hcv ST
        rw [he, ← hnx] at this
        exact this.mono fun e w' ⟨he, hJ⟩ => ⟨he, hJ, (hJ.2.cell hg).trans p0, (hJ.2.cell hg).trans p1⟩
      have z0 : wr.cell? ⟨g, o + k * 2, none⟩ = some (.int .i64 p) := (hJ.2.cell hg).trans p0
      have z1 : wr.cell? ⟨g, o + k * 2 + 1, none⟩ = some (.slice A2 l.length c2) := (hJ.2.cell hg).trans p1
      have jd : LJ w b x wr.drew := hJ.later (Below.drew (Below.refl _ _))
      have z0d : wr.drew.cell? ⟨g, o + k * 2, none⟩ = some (.int .i64 p) := z0
      have z1d : wr.drew.cell? ⟨g, o + k * 2 + 1, none⟩ = some (.slice A2 l.length c2) := z1
      have hwr : IntKind.i64.wrap (100 + (k : Int)) = 100 + (k : Int) := by rw [IntKind.wrap_i64]; omega
      have q0 : (0 : Int) ≤ (k : Int) := by omega
      have q1 : (k : Int) < (rs.length : Int) := by omega
      have CST := Lib.hid cst
      have CAP := Lib.hid cap
      have HX' := Lib.hid hx'
      clear cst cap hx hx' hST he hnx hj hr hcv p0 p1 gd hJ hst
      go_wp2_with fail
      go_region_held3 (fun W => W.cell? ⟨g, o + k * 2, none⟩ = some (.int .i64 p) ∧ W.cell? ⟨g, o + k * 2 + 1, none⟩ = some (.slice A2 l.length c2)) (refine ⟨?_, ?_⟩ <;> assumption)
        (first
          | (go_at_call 17; (with_reducible refine (CST.out _ ?_ ?_ ?_).mono ?_); assumption; assumption; assumption; rintro e w7 ⟨rfl, sn7, g71, g72⟩)
          | (go_at_call 16; (with_reducible refine (CAP.out _ ?_).mono ?_); assumption; rintro e w8 ⟨rfl, sn8, g81, g82⟩)
          | fail)
      all_goals
        clear z0 z1 jd z0d z1d
        rw [HX'.out] at sn8
        go_wp2_with fail
        exact ⟨⟨k + 1, by omega, by go_num, sn8⟩, by simp [intOf]; omega⟩
    · have t1 : decide (k < rs.length) = false := by simpa using h1
      obtain rfl : k = rs.length := by omega
      go_wp2_with fail
      go_ret
      exact ⟨b, rfl, hJ⟩
end Go.Proofs.YtheebajklnljdaaDoor
