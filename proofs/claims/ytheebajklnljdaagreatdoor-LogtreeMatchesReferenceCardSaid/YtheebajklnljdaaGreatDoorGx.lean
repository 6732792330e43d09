/- Joined: MatA OwB L09M. -/
import Derived.Test.YtheebajklnljdaaGreatDoorGv
import Derived.Test.YtheebajklnljdaaGreatDoorQR9H
import Derived.Test.YtheebajklnljdaaGreatDoorGm
import Derived.Test.YtheebajklnljdaaGreatDoorGq
import Derived.Test.YtheebajklnljdaaGreatDoorQLbE
import Derived.Test.YtheebajklnljdaaGreatDoorGu
import Derived.Test.YtheebajklnljdaaGreatDoorGt
import Derived.Test.YtheebajklnljdaaGreatDoorGo
import Derived.Deep.DeepCutAuto

section
/- Both logs' functions at any position; what the walk of MatchesReference keeps. -/
namespace Go.Proofs.YtheebajklnljdaaGreatDoor
open Go Go.RowKit

/-- Record -/
def recA (x : Lg) (p : Int) : Rec × Bool := if 1 ≤ p ∧ p ≤ (x.recs.length : Nat) then ((x.recs[(p - 1).toNat]?).getD ⟨0, []⟩, true) else (⟨0, []⟩, false)
/-- Prove -/
def proveA (x : Lg) (p : Int) : List (List UInt8) × Int := if 0 ≤ p ∧ p < (x.heads.length : Nat) then (proofL (leavesL x) p.toNat, 0) else ([], 2)
/-- Extension -/
def extA (x : Lg) (p : Int) : List (List UInt8) × Int := if 0 ≤ p ∧ p < (x.heads.length : Nat) then (extL (leavesL x) (p.toNat + 1), 0) else ([], 2)

theorem ListAt.nil' (w : World) (A : Option Addr) (c : Nat) : ListAt w (.slice A 0 c) [] := .inl ⟨rfl, A, c, rfl⟩
theorem ChgsAt.nil' (w : World) : ChgsAt w (.slice none 0 0) [] := ⟨none, 0, rfl, Nat.le_refl _, fun h => absurd h (by simp)⟩

theorem recA_in {x : Lg} {p : Int} (h : 1 ≤ p ∧ p ≤ (x.recs.length : Nat)) : ∃ (k : Nat) (r : Rec), p = (k : Int) + 1 ∧ x.recs[k]? = some r ∧ recA x p = (r, true) := by
  obtain ⟨k, hk⟩ := Int.eq_ofNat_of_zero_le (show 0 ≤ p - 1 by omega)
  obtain ⟨r, hr⟩ : ∃ r, x.recs[k]? = some r := ⟨_, List.getElem?_eq_getElem (by omega)⟩
  refine ⟨k, r, by omega, hr, ?_⟩
  unfold recA
  rw [if_pos h, hk, Int.toNat_natCast, hr]
  rfl
theorem record_any {S : Nat → Prop} {b : Nat} {x : Lg} {w : World} (h : LogAt w S b x) (good : Good x) (p : Int) :
    Calls Tryz.prog 20 #[.pointer (some ⟨b, 0, none⟩), .int .i64 p] w fun e w' => ∃ A c, e = .returned (.tuple #[recV (recA x p).1.pos (.slice A (recA x p).1.chs.length c), .bool (recA x p).2]) ∧ ChgsAt w' (.slice A (recA x p).1.chs.length c) (recA x p).1.chs ∧ Below w.heap.size w w' := by
  by_cases hp : 1 ≤ p ∧ p ≤ (x.recs.length : Nat)
  · obtain ⟨k, r, rfl, hr, e⟩ := recA_in hp
    rw [e]
    refine (record_ok h good k r hr).mono ?_
    rintro e w' ⟨g, c, he, own, hb⟩
    exact ⟨_, c, he, ChgsOwn.chgs (S := fun _ => True) ⟨ownsRow_base0 own, fun _ _ => trivial⟩, hb⟩
  · rw [show recA x p = (⟨0, []⟩, false) from if_neg hp]
    exact (record_out h p (by omega)).mono fun e w' ⟨he, hb⟩ => ⟨none, 0, he, ChgsAt.nil' w', hb⟩
theorem rrecord_any {S : Nat → Prop} {b : Nat} {x : Lg} {w : World} (h : RLogAt w S b x) (good : Good x) (p : Int) :
    Calls Tryz.prog 21 #[.pointer (some ⟨b, 0, none⟩), .int .i64 p] w fun e w' => ∃ A c, e = .returned (.tuple #[recV (recA x p).1.pos (.slice A (recA x p).1.chs.length c), .bool (recA x p).2]) ∧ ChgsAt w' (.slice A (recA x p).1.chs.length c) (recA x p).1.chs ∧ Below w.heap.size w w' := by
  by_cases hp : 1 ≤ p ∧ p ≤ (x.recs.length : Nat)
  · obtain ⟨k, r, rfl, hr, e⟩ := recA_in hp
    rw [e]
    exact rrecord_ok h good.small k r hr
  · rw [show recA x p = (⟨0, []⟩, false) from if_neg hp]
    exact (rrecord_out h p (by omega)).mono fun e w' ⟨he, hb⟩ => ⟨none, 0, he, ChgsAt.nil' w', hb⟩

theorem prove_any {S : Nat → Prop} {b : Nat} {x : Lg} {w : World} (h : LogAt w S b x) (good : Good x) (hR : RoundOk w) (p : Int) :
    Calls Tryz.prog 23 #[.pointer (some ⟨b, 0, none⟩), .int .i64 p] w fun e w' => ∃ A c, e = .returned (.tuple #[.slice A (proveA x p).1.length c, .int .i64 (proveA x p).2]) ∧ ListAt w' (.slice A (proveA x p).1.length c) (proveA x p).1 ∧ Below w.heap.size w w' := by
  by_cases hp : 0 ≤ p ∧ p < (x.heads.length : Nat)
  · obtain ⟨k, rfl⟩ := Int.eq_ofNat_of_zero_le hp.1
    rw [show proveA x (k : Int) = (proofL (leavesL x) k, 0) from (if_pos hp).trans (by rw [Int.toNat_natCast])]
    exact lprove_ok h good k (by omega) hR
  · rw [show proveA x p = ([], 2) from if_neg hp]
    exact (lprove_out h p (by omega)).mono fun e w' ⟨he, hb⟩ => ⟨none, 0, he, ListAt.nil' _ _ _, hb⟩
theorem rprove_any {S : Nat → Prop} {b : Nat} {x : Lg} {w : World} (h : RLogAt w S b x) (good : Good x) (hlim : x.recs.length ≤ 900) (p : Int) :
    Calls Tryz.prog 24 #[.pointer (some ⟨b, 0, none⟩), .int .i64 p] w fun e w' => ∃ A c, e = .returned (.tuple #[.slice A (proveA x p).1.length c, .int .i64 (proveA x p).2]) ∧ ListAt w' (.slice A (proveA x p).1.length c) (proveA x p).1 ∧ Below w.heap.size w w' := by
  by_cases hp : 0 ≤ p ∧ p < (x.heads.length : Nat)
  · obtain ⟨k, rfl⟩ := Int.eq_ofNat_of_zero_le hp.1
    rw [show proveA x (k : Int) = (proofL (leavesL x) k, 0) from (if_pos hp).trans (by rw [Int.toNat_natCast])]
    exact rprove_ok h good hlim k (by omega)
  · rw [show proveA x p = ([], 2) from if_neg hp]
    exact (rprove_out h p (by omega)).mono fun e w' ⟨he, hb⟩ => ⟨none, 0, he, ListAt.nil' _ _ _, by rw [hb]; exact Below.refl _ _⟩
theorem ext_any {S : Nat → Prop} {b : Nat} {x : Lg} {w : World} (h : LogAt w S b x) (good : Good x) (hR : RoundOk w) (p : Int) :
    Calls Tryz.prog 25 #[.pointer (some ⟨b, 0, none⟩), .int .i64 p] w fun e w' => ∃ A c, e = .returned (.tuple #[.slice A (extA x p).1.length c, .int .i64 (extA x p).2]) ∧ ListAt w' (.slice A (extA x p).1.length c) (extA x p).1 ∧ Below w.heap.size w w' := by
  by_cases hp : 0 ≤ p ∧ p < (x.heads.length : Nat)
  · obtain ⟨k, rfl⟩ := Int.eq_ofNat_of_zero_le hp.1
    rw [show extA x (k : Int) = (extL (leavesL x) (k + 1), 0) from (if_pos hp).trans (by rw [Int.toNat_natCast])]
    exact lext_ok h good k (by omega) hR
  · rw [show extA x p = ([], 2) from if_neg hp]
    exact (lext_out h p (by omega)).mono fun e w' ⟨he, hb⟩ => ⟨none, 0, he, ListAt.nil' _ _ _, hb⟩
theorem rext_any {S : Nat → Prop} {b : Nat} {x : Lg} {w : World} (h : RLogAt w S b x) (good : Good x) (hlim : x.recs.length ≤ 900) (p : Int) :
    Calls Tryz.prog 26 #[.pointer (some ⟨b, 0, none⟩), .int .i64 p] w fun e w' => ∃ A c, e = .returned (.tuple #[.slice A (extA x p).1.length c, .int .i64 (extA x p).2]) ∧ ListAt w' (.slice A (extA x p).1.length c) (extA x p).1 ∧ Below w.heap.size w w' := by
  by_cases hp : 0 ≤ p ∧ p < (x.heads.length : Nat)
  · obtain ⟨k, rfl⟩ := Int.eq_ofNat_of_zero_le hp.1
    rw [show extA x (k : Int) = (extL (leavesL x) (k + 1), 0) from (if_pos hp).trans (by rw [Int.toNat_natCast])]
    exact rext_ok h good hlim k (by omega)
  · rw [show extA x p = ([], 2) from if_neg hp]
    exact (rext_out h p (by omega)).mono fun e w' ⟨he, hb⟩ => ⟨none, 0, he, ListAt.nil' _ _ _, by rw [hb]; exact Below.refl _ _⟩

/-- both logs; the blocks of F are as in W0 -/
structure MatZ (w : World) (bx bY : Nat) (x y : Lg) (F : Nat → Prop) (W0 W : World) : Prop where
  logs : ∃ S T : Nat → Prop, LogAt W S bx x ∧ RLogAt W T bY y ∧ (∀ k, S k → k < W.heap.size ∧ w.heap.size ≤ k ∧ ¬ T k ∧ ¬ F k) ∧ (∀ k, T k → k < W.heap.size ∧ w.heap.size ≤ k ∧ ¬ F k)
  same : SameOn F W0 W
  fin : ∀ k, F k → k < W0.heap.size
  bel : Below w.heap.size w W
variable {w : World} {bx bY : Nat} {x y : Lg} {F : Nat → Prop} {W0 W W' : World}
theorem MatZ.later (h : MatZ w bx bY x y F W0 W) (hb : Below W.heap.size W W') : MatZ w bx bY x y F W0 W' := by
  obtain ⟨S, T, h1, h2, h3, h4⟩ := h.logs
  have hs := hb.size
  exact ⟨⟨S, T, h1.below hb, h2.below hb, fun k hk => ⟨Nat.lt_of_lt_of_le (h3 k hk).1 hs, (h3 k hk).2⟩, fun k hk => ⟨Nat.lt_of_lt_of_le (h4 k hk).1 hs, (h4 k hk).2⟩⟩, h.same.trans (.of_below hb), h.fin, Below.next h.bel hb⟩
theorem MatZ.frame {F' : Nat → Prop} (h : MatZ w bx bY x y F W0 W) (hb : Below W.heap.size W W') (hF : ∀ k, F' k → W.heap.size ≤ k ∧ k < W'.heap.size) : MatZ w bx bY x y F' W' W' := by
  obtain ⟨S, T, h1, h2, h3, h4⟩ := h.logs
  have hs := hb.size
  exact ⟨⟨S, T, h1.below hb, h2.below hb, fun k hk => ⟨Nat.lt_of_lt_of_le (h3 k hk).1 hs, (h3 k hk).2.1, (h3 k hk).2.2.1, fun e => by have := hF k e; have := (h3 k hk).1; omega⟩, fun k hk => ⟨Nat.lt_of_lt_of_le (h4 k hk).1 hs, (h4 k hk).2.1, fun e => by have := hF k e; have := (h4 k hk).1; omega⟩⟩,
    ⟨Nat.le_refl _, fun _ _ _ => rfl⟩, fun k hk => (hF k hk).2, Below.next h.bel hb⟩
theorem MatZ.app (h : MatZ w bx bY x y F W0 W) (good : Good x) (hR : RoundOk w) (p : Int) (A : Option Addr) (c : Nat) (l : List Chg) (st : List UInt8) (hv : ChgsAt W (.slice A l.length c) l) :
    Calls Tryz.prog 12 #[.pointer (some ⟨bx, 0, none⟩), recV p (.slice A l.length c), .string (str st)] W fun e w' => e = .returned (.int .i64 (appA x ⟨p, l⟩ st).2) ∧ MatZ w bx bY (appA x ⟨p, l⟩ st).1 y F W0 w' := by
  obtain ⟨S, T, h1, h2, h3, h4⟩ := h.logs
  refine (append_ok h1 good (fun k hk => (h3 k hk).1) p A c l st hv (hR.later h.bel)).mono ?_
  rintro e w' ⟨he, hL, hO⟩
  have hs := hO.size
  have hb0 := h.same.1
  refine ⟨he, ⟨fun k => (S k ∨ W.heap.size ≤ k) ∧ k < w'.heap.size, T, hL.tight, h2.same (.of_only hO fun k hk e => (h3 k e).2.2.1 hk), ?_, fun k hk => ⟨Nat.lt_of_lt_of_le (h4 k hk).1 hs, (h4 k hk).2⟩⟩, h.same.trans (.of_only hO fun k hk e => (h3 k e).2.2.2 hk), h.fin, h.bel.trans (hO.below (fun k hk => (h3 k hk).2.1) h.bel.size)⟩
  rintro k ⟨hk | hk, hl⟩
  · exact ⟨hl, (h3 k hk).2⟩
  · exact ⟨hl, Nat.le_trans h.bel.size hk, fun e => by have := (h4 k e).1; omega, fun e => by have := h.fin k e; omega⟩
theorem MatZ.rapp (h : MatZ w bx bY x y F W0 W) (good : Good y) (p : Int) (A : Option Addr) (c : Nat) (l : List Chg) (st : List UInt8) (hv : ChgsAt W (.slice A l.length c) l) :
    Calls Tryz.prog 13 #[.pointer (some ⟨bY, 0, none⟩), recV p (.slice A l.length c), .string (str st)] W fun e w' => e = .returned (.int .i64 (appA y ⟨p, l⟩ st).2) ∧ MatZ w bx bY x (appA y ⟨p, l⟩ st).1 F W0 w' := by
  obtain ⟨S, T, h1, h2, h3, h4⟩ := h.logs
  refine (rappend_ok h2 good (fun k hk => (h4 k hk).1) p A c l st hv).mono ?_
  rintro e w' ⟨he, hL, hO⟩
  have hs := hO.size
  have hb0 := h.same.1
  have hLt : RLogAt w' (fun k => (T k ∨ W.heap.size ≤ k) ∧ k < w'.heap.size) bY (appA y ⟨p, l⟩ st).1 := by
    obtain ⟨rv, hv, ps, hp, e⟩ := hL.open_
    obtain ⟨k1, k2, k3, k4, k5, k6, k7⟩ := hp
    exact ⟨rv, hv, k1, ⟨k2, k1.lt⟩, ⟨ps, e, k3, fun k hk => ⟨k4 k hk, (k3.lt k hk).2⟩, fun q hq => ⟨(k5 q hq).1, fun k hk => ⟨(k5 q hq).2 k hk, ((k5 q hq).1.lt k hk).2⟩⟩⟩, k6, fun k hk => ⟨k7 k hk, (k6.lt k hk).2⟩⟩
  refine ⟨he, ⟨S, fun k => (T k ∨ W.heap.size ≤ k) ∧ k < w'.heap.size, h1.same (.of_only hO fun k hk e => (h3 k hk).2.2.1 e), hLt, fun k hk => ⟨Nat.lt_of_lt_of_le (h3 k hk).1 hs, (h3 k hk).2.1, ?_, (h3 k hk).2.2.2⟩, ?_⟩, h.same.trans (.of_only hO fun k hk e => (h4 k e).2.2 hk), h.fin, h.bel.trans (hO.below (fun k hk => (h4 k hk).2.1) h.bel.size)⟩
  · rintro ⟨e | e, _⟩
    · exact (h3 k hk).2.2.1 e
    · have := (h3 k hk).1; omega
  · rintro k ⟨hk | hk, hl⟩
    · exact ⟨hl, (h4 k hk).2⟩
    · exact ⟨hl, Nat.le_trans h.bel.size hk, fun e => by have := h.fin k e; omega⟩
/-- a block of F -/
theorem MatZ.blk (h : MatZ w bx bY x y F W0 W) {g : Nat} {t : TypeId} {cs : List Value} (hB : BlkIs W0 g t cs) (hF : F g) : BlkIs W g t cs := hB.same h.same hF
theorem MatZ.chgs (h : MatZ w bx bY x y F W0 W) {A : Option Addr} {n c : Nat} {l : List Chg} (hv : ChgsAt W0 (.slice A n c) l) (hF : ∀ ad, A = some ad → F ad.block) : ChgsAt W (.slice A n c) l := by
  obtain ⟨A', c', e, hc, hx⟩ := hv
  injection e with e1 e2 e3
  subst e1 e3
  refine ⟨A, c, by rw [e2], hc, fun h0 => ?_⟩
  obtain ⟨g, o, hA, hg, hj⟩ := hx h0
  refine ⟨g, o, hA, Nat.lt_of_lt_of_le hg h.same.1, fun j x hx i u hu => ?_⟩
  have hb : W.heap[g]? = W0.heap[g]? := h.same.2 g (by have := hF _ hA; exact this) hg
  exact (World.cell?_of_block (a := ⟨g, o + j * 10 + i, none⟩) hb).trans (hj j x hx i u hu)
theorem recA_len {x : Lg} (good : Good x) (p : Int) : (recA x p).1.chs.length ≤ 1000 := by
  by_cases hp : 1 ≤ p ∧ p ≤ (x.recs.length : Nat)
  · obtain ⟨k, r, -, hr, e⟩ := recA_in hp
    rw [e]
    have := recB_pos (good.rec_ k r hr).1
    show r.chs.length ≤ 1000
    omega
  · rw [show recA x p = (⟨0, []⟩, false) from if_neg hp]
    exact Nat.zero_le _
theorem proveA_len (x : Lg) (p : Int) (h : x.heads.length ≤ 999) : (proveA x p).1.length ≤ 1000 := by
  unfold proveA
  split
  · have := proofL_le' (leavesL x).length (leavesL x) p.toNat (Nat.le_refl _)
    rw [leavesL_len] at this
    show (proofL (leavesL x) p.toNat).length ≤ 1000
    omega
  · exact Nat.zero_le _
theorem extA_len (x : Lg) (p : Int) (h : x.heads.length ≤ 400) : (extA x p).1.length ≤ 1000 := by
  unfold extA
  split
  · rename_i hp
    have h1 := extL_short (leavesL x) (p.toNat + 1) (by rw [leavesL_len]; omega)
    have h2 : binN (leavesL x).length ≤ (leavesL x).length := by
      unfold binN
      split
      · omega
      · rename_i h
        have := (Nat.log2_lt h).2 (Nat.lt_two_pow_self (n := (leavesL x).length))
        omega
    rw [leavesL_len] at h1 h2
    show (extL (leavesL x) (p.toNat + 1)).length ≤ 1000
    omega
  · exact Nat.zero_le _
end Go.Proofs.YtheebajklnljdaaGreatDoor
end

section
/- What the end of Owns' walk keeps: the box of the record that was cut, its changes, the log. -/
namespace Go.Proofs.YtheebajklnljdaaGreatDoor
open Go Go.RowKit

structure OwnZ (w : World) (b : Nat) (x : Lg) (bx : List Value) (A : Option Addr) (c : Nat) (l : List Chg) (W : World) : Prop where
  box : BlkIs W w.heap.size 35 bx
  chs : ChgsAt W (.slice A l.length c) l
  alt : ∀ ad, A = some ad → ad.block < W.heap.size
  log : ∃ S : Nat → Prop, (∀ k, S k → k < W.heap.size ∧ w.heap.size < k ∧ ∀ ad, A = some ad → k ≠ ad.block) ∧ LogAt W S b x
  bel : Below w.heap.size w W

theorem OwnZ.later {w : World} {b : Nat} {x : Lg} {bx : List Value} {A : Option Addr} {c : Nat} {l : List Chg} {W W' : World} (h : OwnZ w b x bx A c l W) (hb : Below W.heap.size W W') : OwnZ w b x bx A c l W' := by
  obtain ⟨S, h1, h2⟩ := h.log
  exact ⟨h.box.later hb, h.chs.below hb, fun ad e => Nat.lt_of_lt_of_le (h.alt ad e) hb.size, ⟨S, fun k hk => ⟨Nat.lt_of_lt_of_le (h1 k hk).1 hb.size, (h1 k hk).2⟩, h2.below hb⟩, Below.next h.bel hb⟩
theorem OwnZ.root {w : World} {b : Nat} {x : Lg} {bx : List Value} {A : Option Addr} {c : Nat} {l : List Chg} {W : World} (h : OwnZ w b x bx A c l W) (good : Good x) (hR : RoundOk w) :
    Calls Tryz.prog 15 #[.pointer (some ⟨b, 0, none⟩)] W fun e w' => e = .returned (.string (str (rootA x))) ∧ OwnZ w b x bx A c l w' := by
  obtain ⟨S, h1, h2⟩ := h.log
  exact (lroot_ok h2 good (hR.later h.bel)).mono fun e w' ⟨he, hb⟩ => ⟨he, h.later hb⟩
theorem OwnZ.app {w : World} {b : Nat} {x : Lg} {bx : List Value} {A : Option Addr} {c : Nat} {l : List Chg} {W : World} (h : OwnZ w b x bx A c l W) (good : Good x) (hR : RoundOk w) (p : Int) (st : List UInt8) :
    Calls Tryz.prog 12 #[.pointer (some ⟨b, 0, none⟩), recV p (.slice A l.length c), .string (str st)] W fun e w' => e = .returned (.int .i64 (appA x ⟨p, l⟩ st).2) ∧ OwnZ w b (appA x ⟨p, l⟩ st).1 bx A c l w' := by
  obtain ⟨S, h1, h2⟩ := h.log
  refine (append_ok h2 good (fun k hk => (h1 k hk).1) p A c l st h.chs (hR.later h.bel)).mono ?_
  rintro e w' ⟨he, hL, hO⟩
  have hs := hO.size
  have hbx := h.box.lt
  refine ⟨he, (hO.block _ hbx fun e => by have := (h1 _ e).2.1; omega).trans h.box, ?_, fun ad e => Nat.lt_of_lt_of_le (h.alt ad e) hs, ⟨fun k => (S k ∨ W.heap.size ≤ k) ∧ k < w'.heap.size, ?_, hL.tight⟩, h.bel.trans (hO.below (fun k hk => Nat.le_of_lt (h1 k hk).2.1) h.bel.size)⟩
  · obtain ⟨A', c', e, hc, hx⟩ := h.chs
    injection e with e1 e2 e3
    subst e1 e3
    refine ⟨A, c, rfl, hc, fun h0 => ?_⟩
    obtain ⟨g, o, hA, hg, hj⟩ := hx h0
    refine ⟨g, o, hA, Nat.lt_of_lt_of_le hg hs, fun j x hx i u hu => ?_⟩
    have hb : w'.heap[g]? = W.heap[g]? := hO.block g hg fun e => (h1 _ e).2.2 _ hA rfl
    exact (World.cell?_of_block (a := ⟨g, o + j * 10 + i, none⟩) hb).trans (hj j x hx i u hu)
  · rintro k ⟨hk | hk, hl⟩
    · exact ⟨hl, (h1 k hk).2⟩
    · exact ⟨hl, by omega, fun ad e => by have := h.alt ad e; omega⟩
theorem ownsRow_ad {w : World} {base : Nat} {e : TypeId} {size n c : Nat} {A : Option Addr} {xs : List Value} (h : w.ownsRow base e size (.slice A n c) n xs) : ∀ ad, A = some ad → base ≤ ad.block ∧ ad.block < w.heap.size := by
  intro ad hA
  subst hA
  rcases h.2 with ⟨h0, _⟩ | ⟨g, cap, cur, hv, hb, hgb, _⟩
  · injection h0 with h1; cases h1
  · injection hv with h1 _ _
    injection h1 with h1
    subst h1
    exact ⟨hb, (Array.getElem?_eq_some_iff.1 hgb).1⟩
end Go.Proofs.YtheebajklnljdaaGreatDoor
end

section
/- The walk of LogtreeMatchesReference (written by wip/mk_l09m.py). -/
namespace Go.Proofs.YtheebajklnljdaaGreatDoor
open Go Go.RowKit
attribute [local go_sem] Oper.semAt_some

set_option maxRecDepth 100000 in
set_option maxHeartbeats 2000000 in
theorem matches_any (lv bv : Value) (n : Int) (l : List Rec) (bs : List Bool) (w : World) (hR : RoundOk w) (hl : RecsIn w lv l) (hbs : SliceAt w bv (bs.map Value.bool)) (hn1 : -9223372036854775808 ≤ n) (hn2 : n ≤ 9223372036854775807) :
    Calls Tryz.prog 3 #[lv, bv, .int .i64 n] w fun e w' => e = .returned (.bool true) ∧ Below w.heap.size w w' := by
  obtain ⟨lA, lc, rfl⟩ := hl.form
  obtain ⟨bA, bc, rfl, hbc, hbx⟩ := id hbs
  have hbl : (bs.map Value.bool).length = bs.length := List.length_map ..
  rw [hbl] at hbc ⊢
  have hs0 := sane_ok w hR
  have hst := fun (k : Int) (W : World) => state_ok k W
  have HS := Lib.hid hs0
  have HST := Lib.hid hst
  have HR := Lib.hid hR
  have HL := Lib.hid hl
  have HBX := Lib.hid hbx
  have HN := Lib.hid (And.intro hn1 hn2)
  clear hs0 hst hR hl hbx hbl hbs
  go_enter Tryz.func3, Tryz.ntmps3
  go_wp2_with fail
  refine (HS.out).mono ?_
  rintro e w1 ⟨rfl, b1⟩
  clear HS
  go_wp2_with fail
  refine (HST.out n w1).mono ?_
  rintro e w2 ⟨rfl, b2⟩
  go_wp2_with fail
  refine (new_ok (stL n) w2 (stL_len n)).mono ?_
  rintro e w3 ⟨bx, rfl, L3, b3⟩
  go_wp2_with fail
  refine (HST.out n w3).mono ?_
  rintro e w4 ⟨rfl, b4⟩
  go_wp2_with fail
  refine (rnew_ok (stL n) w4 (stL_len n)).mono ?_
  rintro e w5 ⟨bY, rfl, L5, b5⟩
  have hb2 := Below.next b1 b2
  have hb4 := Below.next (Below.next hb2 b3) b4
  have hz2 := hb2.size
  have hz3 := b3.size
  have hz4 := b4.size
  have hz5 := b5.size
  have Z5 : MatZ w bx bY (newLg (stL n)) (newLg (stL n)) (fun _ => False) w5 w5 := by
    refine ⟨⟨fun k => (w2.heap.size ≤ k) ∧ k < w3.heap.size, fun k => w4.heap.size ≤ k ∧ k < w5.heap.size, (L3.tight.below b4).below b5, ?_, fun k hk => ⟨by omega, by omega, fun h => by omega, fun h => h⟩, fun k hk => ⟨hk.2, by omega, fun h => h⟩⟩, ⟨Nat.le_refl _, fun _ h => h.elim⟩, fun _ h => h.elim, Below.next hb4 b5⟩
    obtain ⟨rv, hv, ps, hp, e⟩ := L5.open_
    obtain ⟨k1, k2, k3, k4, k5, k6, k7⟩ := hp
    exact ⟨rv, hv, k1, ⟨k2, k1.lt⟩, ⟨ps, e, k3, fun k hk => ⟨k4 k hk, (k3.lt k hk).2⟩, fun q hq => ⟨(k5 q hq).1, fun k hk => ⟨(k5 q hq).2 k hk, ((k5 q hq).1.lt k hk).2⟩⟩⟩, k6, fun k hk => ⟨k7 k hk, (k6.lt k hk).2⟩⟩
  have HZ5 := Lib.hid Z5
  clear L3 L5 b1 b2 b3 b4 b5 hb2 hb4 hz2 hz3 hz4 hz5 Z5
  go_wp2_with fail
  go_loopw [12] (fun iv wr => ∃ (i : Nat) (x : Lg), i ≤ 12 ∧ iv = .int .i64 i ∧ Good x ∧ x.recs.length ≤ i ∧ MatZ w bx bY x x (fun _ => False) wr wr) (fun iv _ => 12 - (intOf iv).toNat)
  case atStart => exact ⟨0, newLg (stL n), by omega, rfl, newLg_good (stL_len n), Nat.zero_le _, HZ5.out⟩
  case round =>
    clear HZ5
    obtain ⟨i, x, hi, rfl, GX, hxi, Z⟩ := hrel
    by_cases h1 : i < l.length ∧ i < 12
    case neg =>
      have hguard : decide (i < l.length) = false ∨ decide (i < l.length) = true ∧ decide ((i : Int) < 12) = false := by
        by_cases h : i < l.length
        · exact .inr ⟨by simpa using h, by simp; omega⟩
        · exact .inl (by simpa using h)
      have hb := Z.bel
      clear Z h1
      rcases hguard with t1 | ⟨t1, t2⟩
      · go_wp2_with fail
        go_ret
        exact ⟨rfl, hb⟩
      · go_wp2_with fail
        go_ret
        exact ⟨rfl, hb⟩
    obtain ⟨g1, g2⟩ := h1
    have t1 : decide (i < l.length) = true := by simpa using g1
    have t2 : decide ((i : Int) < 12) = true := by simp; omega
    obtain ⟨r, hr⟩ : ∃ r, l[i]? = some r := ⟨_, List.getElem?_eq_getElem g1⟩
    obtain ⟨g, o, Ac, cc, rfl, hg, x0, x1, hch, hAn, hcm⟩ := HL.out.at_ hr
    have y0 := (Z.bel.cell (p := ⟨g, o + i * 2, none⟩) hg).trans x0
    have y1 := (Z.bel.cell (p := ⟨g, o + i * 2 + 1, none⟩) hg).trans x1
    have hcut := cut_ok r.pos Ac cc r.chs wr (hch.below Z.bel) hAn hcm
    unfold recV at hcut
    obtain ⟨ch, hchx⟩ : ∃ c, c = r.chs.take 10 := ⟨_, rfl⟩
    rw [← hchx] at hcut
    have HCUT := Lib.hid hcut
    have HZ := Lib.hid Z
    have HGX := Lib.hid GX
    have q4 : (0 : Int) ≤ (i : Int) := by omega
    have q5 : (i : Int) < (l.length : Int) := by omega
    have hchl : ch.length ≤ 10 := by rw [hchx, List.length_take]; omega
    clear hcut hch x0 x1 hr hchx Z GX
    go_wp2_with fail
    refine (HCUT.out).mono ?_
    rintro e w6 ⟨A', c', rfl, own6, b6⟩
    have al6 := Below.alloc1 w6 (.cells #[.int .i64 r.pos, .slice A' ch.length c'] 35)
    have KR := BlkIs.new w6 35 #[.int .i64 r.pos, .slice A' ch.length c']
    have b67 := Below.next b6 al6
    have own7 := ownsRow_later al6 own6
    have hle6 := b6.size
    clear own6 y0 y1 HCUT
    go_upto_region 8 with fail
    generalize w6.alloc (.cells #[.int .i64 r.pos, .slice A' ch.length c'] 35) = w7 at *
    go_cut [69] (fun s69 wx => ∃ B : Bool, s69 = .bool B ∧ wx = w7)
    case first =>
      by_cases hb : i < bs.length
      · have t3 : decide (bs.length ≤ i) = false := by simp; omega
        obtain ⟨B, hB⟩ : ∃ B, bs[i]? = some B := ⟨_, List.getElem?_eq_getElem hb⟩
        obtain ⟨ad, rfl, had, hcell⟩ := HBX.out (by rw [List.length_map]; omega)
        have cz0 := hcell i (.bool B) (by rw [List.getElem?_map, hB]; rfl)
        have cz : w7.cell? (ad.add i) = some (.bool B) := ((Below.next HZ.out.bel b67).cell (by rw [block_add]; exact had)).trans cz0
        have q6 : (i : Int) < (bs.length : Int) := by omega
        clear hcell cz0 hB
        go_wp2_with fail
        go_meet
        exact ⟨_, rfl, rfl⟩
      · have t3 : decide (bs.length ≤ i) = true := by simp; omega
        go_wp2_with fail
        go_meet
        exact ⟨_, rfl, rfl⟩
    case rest =>
    obtain ⟨B, rfl, hwc⟩ := hcut
    rw [hwc]
    clear hwc wc
    have Z7 := HZ.out.later b67
    obtain ⟨S7, T7, -, RL7, -, -⟩ := Z7.logs
    obtain ⟨rA, rc, -, -, ry0, -, -, -, -, -, -⟩ := RL7.parts
    have hl10 := hxi
    have f0 := KR.frozen 0
    have kr0 : w7.cell? ⟨w6.heap.size, 0, none⟩ = some (.int .i64 r.pos) := KR.cell 0
    have HOWN := Lib.hid own7
    have HB67 := Lib.hid b67
    have HKR := Lib.hid KR
    clear own7 b67 KR Z7 RL7 al6 b6
    go_upto_if 69 with fail
    go_cut [] (fun wx => ∃ P : Int, BlkIs wx w6.heap.size 35 [.int .i64 P, .slice A' ch.length c'] ∧ wx.ownsRow wr.heap.size 72 10 (.slice A' ch.length c') ch.length (ch.flatMap chgCells) ∧ Below wr.heap.size wr wx)
    case first =>
      cases B
      · go_wp2_with fail
        go_meet
        exact ⟨r.pos, HKR.out, HOWN.out, HB67.out⟩
      · go_wp2_with fail
        go_meet
        have hO : Only (fun k => k = w6.heap.size) w7 (w7.setCell ⟨w6.heap.size, 0, none⟩ (.int .i64 ((x.recs.length : Int) + 1))) := Only.setCell _ _ _ rfl
        have K9 := HKR.out.set 0 (.int .i64 ((x.recs.length : Int) + 1))
        exact ⟨(x.recs.length : Int) + 1, K9, HOWN.out.kept (grown_of_only hO) (HKR.out.not_row (by decide) HOWN.out |>.symm |> .inr), HB67.out.setCell (p := ⟨w6.heap.size, 0, none⟩) hle6 _⟩
    case rest =>
    obtain ⟨P, KR, own8, b8⟩ := hcut
    obtain ⟨w8, hw8⟩ : ∃ W, W = wc := ⟨_, rfl⟩
    rw [← hw8] at KR own8 b8 ⊢
    clear hw8 wc
    go_wp2_with fail
    obtain ⟨FF, hFF⟩ : ∃ F : Nat → Prop, F = fun k => k = w6.heap.size ∨ ∃ ad, A' = some ad ∧ k = ad.block := ⟨_, rfl⟩
    have hFa : ∀ ad, A' = some ad → FF ad.block := fun ad h => by rw [hFF]; exact .inr ⟨ad, h, rfl⟩
    have hFb : FF w6.heap.size := by rw [hFF]; exact .inl rfl
    have Z := HZ.out.frame (F' := FF) b8 (fun k hk => by
      rw [hFF] at hk
      rcases hk with rfl | ⟨ad, h, rfl⟩
      · exact ⟨hle6, KR.lt⟩
      · exact ownsRow_ad own8 ad h)
    have hcv : ChgsAt w8 (.slice A' ch.length c') ch := ChgsOwn.chgs (S := fun _ => True) ⟨ownsRow_base0 own8, fun _ _ => trivial⟩
    obtain ⟨X, hX⟩ : ∃ X, X = (appA x ⟨P, ch⟩ (stL i)).1 := ⟨_, rfl⟩
    obtain ⟨E, hE⟩ : ∃ X, X = (appA x ⟨P, ch⟩ (stL i)).2 := ⟨_, rfl⟩
    have GX' : Good X := by rw [hX]; exact appA_good HGX.out _ _
    have hXl : X.recs.length ≤ i + 1 := by
      rw [hX]
      rcases appA_cases HGX.out ⟨P, ch⟩ (stL i) with ⟨_, _, _, _, h5⟩ | ⟨_, _, h5⟩
      · rw [h5]; simp; omega
      · rw [h5]; show x.recs.length ≤ i + 1; omega
    have hbox : ∀ (y1 y2 : Lg) (W : World), MatZ w bx bY y1 y2 FF w8 W → W.cell? ⟨w6.heap.size, 0, none⟩ = some (.int .i64 P) ∧ W.cell? ⟨w6.heap.size, 1, none⟩ = some (.slice A' ch.length c') := fun y1 y2 W h => ⟨(h.blk KR hFb).cell 0, (h.blk KR hFb).cell 1⟩
    have cst : ∀ (y1 y2 : Lg) (W : World), MatZ w bx bY y1 y2 FF w8 W → Calls Tryz.prog 9 #[.int .i64 i] W fun e w' => e = .returned (.string (str (stL i))) ∧ MatZ w bx bY y1 y2 FF w8 w' := fun y1 y2 W h => (HST.out i W).mono fun e w' ⟨he, hb⟩ => ⟨he, h.later hb⟩
    have cap : ∀ W, MatZ w bx bY x x FF w8 W → Calls Tryz.prog 12 #[.pointer (some ⟨bx, 0, none⟩), .agg #[.int .i64 P, .slice A' ch.length c'], .string (str (stL i))] W fun e w' => e = .returned (.int .i64 E) ∧ MatZ w bx bY X x FF w8 w' := by
      intro W h
      have := h.app HGX.out HR.out P A' c' ch (stL i) (h.chgs hcv hFa)
      rw [← hX, ← hE] at this
      exact this
    have crp : ∀ W, MatZ w bx bY X x FF w8 W → Calls Tryz.prog 13 #[.pointer (some ⟨bY, 0, none⟩), .agg #[.int .i64 P, .slice A' ch.length c'], .string (str (stL i))] W fun e w' => e = .returned (.int .i64 E) ∧ MatZ w bx bY X X FF w8 w' := by
      intro W h
      have := h.rapp HGX.out P A' c' ch (stL i) (h.chgs hcv hFa)
      rw [← hX, ← hE] at this
      exact this
    have cln : ∀ W, MatZ w bx bY X X FF w8 W → Calls Tryz.prog 14 #[.pointer (some ⟨bx, 0, none⟩)] W fun e w' => e = .returned (.int .i64 (X.recs.length : Nat)) ∧ W = w' := by
      intro W h
      obtain ⟨S, T, h1, _⟩ := h.logs
      exact (len_ok h1).mono fun e w' ⟨he, hw⟩ => ⟨he, hw.symm⟩
    have crt : ∀ W, MatZ w bx bY X X FF w8 W → Calls Tryz.prog 15 #[.pointer (some ⟨bx, 0, none⟩)] W fun e w' => e = .returned (.string (str (rootA X))) ∧ Below W.heap.size W w' := by
      intro W h
      obtain ⟨S, T, h1, _⟩ := h.logs
      exact lroot_ok h1 GX' (HR.out.later h.bel)
    have crr : ∀ W, MatZ w bx bY X X FF w8 W → Calls Tryz.prog 16 #[.pointer (some ⟨bY, 0, none⟩)] W fun e w' => e = .returned (.string (str (rootA X))) ∧ Below W.heap.size W w' := by
      intro W h
      obtain ⟨S, T, _, h2, _⟩ := h.logs
      exact rroot_ok h2 GX'
    obtain ⟨rt, hrt⟩ : ∃ r, r = rootA X := ⟨_, rfl⟩
    rw [← hrt] at crt crr
    obtain ⟨st, hst⟩ : ∃ r, r = stL i := ⟨_, rfl⟩
    rw [← hst] at cst cap crp
    have HBOX := Lib.hid hbox
    have CST := Lib.hid cst
    have CAP := Lib.hid cap
    have CRP := Lib.hid crp
    have CLN := Lib.hid cln
    have CRT := Lib.hid crt
    have CRR := Lib.hid crr
    have HGX' := Lib.hid GX'
    clear hbox cst cap crp cln crt crr hrt hst GX' hX hE hcv hFF hFa hFb KR own8 b8
    replace Z := Z.later (Below.drew (Below.refl _ _))
    refine wp_region_noPanic ?_
    refine wp_region_ordG (fun W => W.cell? ⟨w6.heap.size, 0, none⟩ = some (.int .i64 P) ∧ W.cell? ⟨w6.heap.size, 1, none⟩ = some (.slice A' ch.length c')) [(0, false), (1, false), (2, false), (5, false), (6, false), (7, false), (3, true), (4, true), (8, true), (9, true), (10, true), (11, true)] 4095 16 (by kernel_rfl) (by as_aux_lemma => kernel_rfl) (by rfl) (by as_aux_lemma => kernel_rfl) (fun _ _ _ _ _ h => h) (HBOX.out _ _ _ Z) (fun hHeld => ?_)
    repeat (first
      | (apply SeqF.take0
         case ho => exact rfl
         case hg => exact rfl
         case hy => (intro w hSw; (try dsimp only at hSw); go_simp; try with_reducible rfl)
         try simp only [Act.put, List.setIfInBounds_toArray, List.set_cons_zero, List.set_cons_succ])
      | (apply SeqF.takeG
         case ho => exact rfl
         case hg => exact rfl
         case hj => exact rfl
         case hd => exact rfl
         case ht => exact rfl
         case hy => (intro w hSw; (try dsimp only at hSw); go_simp; try with_reducible rfl)
         try simp only [Act.put, List.setIfInBounds_toArray, List.set_cons_zero, List.set_cons_succ])
      | (first
         | (apply SeqF.step0
            case ho => exact rfl
            case hg => exact rfl)
         | (apply SeqF.stepG
            case ho => exact rfl
            case hg => exact rfl
            case hj => exact rfl
            case hd => exact rfl
            case ht => exact rfl)
         intro K hK
         go_simp
         first
         | (go_at_call 9; (with_reducible refine (CST.out _ _ _ Z).mono ?_); rintro e wx ⟨rfl, Z⟩; go_wp2_with fail)
         | (go_at_call 12; (with_reducible refine (CAP.out _ Z).mono ?_); rintro e wx ⟨rfl, Z⟩; go_wp2_with fail)
         | (go_at_call 13; (with_reducible refine (CRP.out _ Z).mono ?_); rintro e wx ⟨rfl, Z⟩; go_wp2_with fail)
         | fail
         refine hK.out _ _ ?_ (fun hx => ?_)
         · exact HBOX.out _ _ _ Z
         clear hK K
         try simp only [Act.put, List.setIfInBounds_toArray, List.set_cons_zero, List.set_cons_succ]))
    refine SeqF.done ?_
    obtain ⟨S9, T9, -, RL9, -, -⟩ := Z.logs
    obtain ⟨yA, yc, y2A, y2c, ry0, ry1, -, -, -, -, -⟩ := RL9.parts
    obtain ⟨W9, hW9⟩ : ∃ W, W = wx := ⟨_, rfl⟩
    rw [← hW9] at Z ry0 ry1 ⊢
    have HW9 := Lib.hid hW9
    clear hW9 RL9
    have cw : ∀ W, Below W9.heap.size W9 W → W.cell? ⟨bY, 0, none⟩ = some (.slice yA X.recs.length yc) ∧ W.cell? ⟨w6.heap.size, 0, none⟩ = some (.int .i64 P) ∧ W.cell? ⟨w6.heap.size, 1, none⟩ = some (.slice A' ch.length c') := by
      intro W hW
      have k := HBOX.out _ _ _ Z
      exact ⟨(hW.cell (block_of_cell ry0)).trans ry0, (hW.cell (block_of_cell k.1)).trans k.1, (hW.cell (block_of_cell k.2)).trans k.2⟩
    have CW := Lib.hid cw
    have RY1 := Lib.hid ry1
    clear cw ry0 ry1
    have bw := Below.refl W9.heap.size W9
    refine wpAnyH_grow (S' := fun W => W.cell? ⟨bY, 0, none⟩ = some (.slice yA X.recs.length yc) ∧ W.cell? ⟨w6.heap.size, 0, none⟩ = some (.int .i64 P) ∧ W.cell? ⟨w6.heap.size, 1, none⟩ = some (.slice A' ch.length c')) (fun W h => h.2) _ _ _ _ ?_
    refine seqG_end [(12, false), (14, false), (15, false), (16, false), (17, false), (18, false), (13, true), (19, true), (20, true), (21, true), (22, false), (24, false), (23, true), (25, true), (26, true), (27, true)] _ 268435455 _ (by rfl) (by as_aux_lemma => kernel_rfl) (by as_aux_lemma => kernel_rfl) (by as_aux_lemma => kernel_rfl) (fun _ _ _ _ _ h => h) (CW.out _ bw) ?_
    repeat (first
      | (apply SeqF.take0
         case ho => exact rfl
         case hg => exact rfl
         case hy => (intro w hSw; (try dsimp only at hSw); go_simp; try with_reducible rfl)
         try simp only [Act.put, List.setIfInBounds_toArray, List.set_cons_zero, List.set_cons_succ])
      | (apply SeqF.takeG
         case ho => exact rfl
         case hg => exact rfl
         case hj => exact rfl
         case hd => exact rfl
         case ht => exact rfl
         case hy => (intro w hSw; (try dsimp only at hSw); go_simp; try with_reducible rfl)
         try simp only [Act.put, List.setIfInBounds_toArray, List.set_cons_zero, List.set_cons_succ])
      | (first
         | (apply SeqF.step0
            case ho => exact rfl
            case hg => exact rfl)
         | (apply SeqF.stepG
            case ho => exact rfl
            case hg => exact rfl
            case hj => exact rfl
            case hd => exact rfl
            case ht => exact rfl)
         intro K hK
         go_simp
         first
         | (go_at_call 14; (with_reducible refine (CLN.out _ Z).mono ?_); rintro e wx ⟨rfl, rfl⟩; go_wp2_with fail)
         | (go_at_call 15; (with_reducible refine (CRT.out _ Z).mono ?_); rintro e wx ⟨rfl, bn⟩; replace Z := Z.later bn; replace bw := Below.next bw bn; clear bn; go_wp2_with fail)
         | (go_at_call 16; (with_reducible refine (CRR.out _ Z).mono ?_); rintro e wx ⟨rfl, bn⟩; replace Z := Z.later bn; replace bw := Below.next bw bn; clear bn; go_wp2_with fail)
         | fail
         refine hK.out _ _ ?_ (fun hx => ?_)
         · exact CW.out _ bw
         clear hK K
         try simp only [Act.put, List.setIfInBounds_toArray, List.set_cons_zero, List.set_cons_succ]))
    refine SeqF.done ?_
    refine NoPanic.normal ?_
    go_wp2_with fail
    obtain ⟨W10, hW10⟩ : ∃ W, W = wx := ⟨_, rfl⟩
    rw [← hW10] at Z bw ⊢
    have HW10 := Lib.hid hW10
    clear hW10
    have bd : Below W9.heap.size W9 W10.drew := Below.drew bw
    have ZD := Z.later (Below.drew (Below.refl _ _))
    have z0 : W10.drew.cell? ⟨bY, 0, none⟩ = some (.slice yA X.recs.length yc) := (CW.out _ bd).1
    have z1 : W10.drew.cell? ⟨bY, 1, none⟩ = some (.slice y2A X.heads.length y2c) := (bd.cell (block_of_cell RY1.out)).trans RY1.out
    have hXh := HGX'.out.len
    obtain ⟨NH, hNH⟩ : ∃ N, N = X.heads.length := ⟨_, rfl⟩
    obtain ⟨NR, hNR⟩ : ∃ N, N = X.recs.length := ⟨_, rfl⟩
    rw [← hNH, ← hNR] at hXh
    rw [← hNH] at z1
    rw [← hNR] at z0 hXl ⊢
    have hNH13 : NH ≤ 14 := by omega
    have HNH := Lib.hid hNH
    have HNR := Lib.hid hNR
    have HXH := Lib.hid hXh
    obtain ⟨hn1, hn2⟩ := HN.out
    have hpk := fun W => pick_any n ((NH : Int) + 1) W hn1 hn2 (by omega) (by omega)
    have hpr := pickZ_range n ((NH : Int) + 1) (by omega)
    obtain ⟨pk, hpke⟩ : ∃ p, p = pickZ n ((NH : Int) + 1) := ⟨_, rfl⟩
    rw [← hpke] at hpk hpr
    have HPK := Lib.hid hpk
    have hwn : IntKind.i64.wrap ((NH : Int) + 1) = (NH : Int) + 1 := by rw [IntKind.wrap_i64]; omega
    clear hpk hpke hNH hNR hXh bw Z
    refine wp_region_noPanic ?_
    refine wp_region_ord (fun W => W.cell? ⟨bY, 0, none⟩ = some (.slice yA NR yc) ∧ W.cell? ⟨bY, 1, none⟩ = some (.slice y2A NH y2c)) [(0, false), (1, false), (2, false), (3, false), (4, false), (5, false), (6, false), (7, false), (9, false), (10, false), (11, false), (12, false), (13, false), (16, false), (8, true), (14, true), (15, true)] (by kernel_rfl) (by as_aux_lemma => kernel_rfl) (by rfl) (by as_aux_lemma => kernel_rfl) (fun _ _ _ _ _ h => h) ⟨z0, z1⟩ (fun hHeld => ?_)
    repeat (
      apply SeqO.take0
      case ho => exact rfl
      case hg => exact rfl
      case hy => (intro w hSw; (try dsimp only at hSw); go_simp; try with_reducible rfl)
      try simp only [Act.put, List.setIfInBounds_toArray, List.set_cons_zero, List.set_cons_succ])
    apply SeqO.step0
    case ho => exact rfl
    case hg => exact rfl
    intro K hK
    go_simp
    go_at_call 17
    with_reducible refine (HPK.out _).mono ?_
    rintro e w11 ⟨rfl, rfl⟩
    go_wp2_with fail
    refine hK.out _ _ ⟨z0, z1⟩ (fun hx => ?_)
    clear hK K
    try simp only [Act.put, List.setIfInBounds_toArray, List.set_cons_zero, List.set_cons_succ]
    apply SeqO.step0
    case ho => exact rfl
    case hg => exact rfl
    intro K hK
    go_simp
    have al := Below.alloc1 W10.drew (.cells #[.int .i64 n, .int .i64 pk, .int .i64 NR] 3)
    have KA : BlkIs (W10.alloc (.cells #[.int .i64 n, .int .i64 pk, .int .i64 NR] 3)).drew W10.heap.size 3 [.int .i64 n, .int .i64 pk, .int .i64 NR] := BlkIs.new W10.drew 3 #[.int .i64 n, .int .i64 pk, .int .i64 NR]
    have Z12 : MatZ w bx bY X X FF w8 (W10.alloc (.cells #[.int .i64 n, .int .i64 pk, .int .i64 NR] 3)).drew := ZD.later al
    have y0 : (W10.alloc (.cells #[.int .i64 n, .int .i64 pk, .int .i64 NR] 3)).drew.cell? ⟨bY, 0, none⟩ = some (.slice yA NR yc) := (al.cell (block_of_cell z0)).trans z0
    have y1 : (W10.alloc (.cells #[.int .i64 n, .int .i64 pk, .int .i64 NR] 3)).drew.cell? ⟨bY, 1, none⟩ = some (.slice y2A NH y2c) := (al.cell (block_of_cell z1)).trans z1
    generalize (W10.alloc (.cells #[.int .i64 n, .int .i64 pk, .int .i64 NR] 3)).drew = w12 at *
    refine hK.out _ _ ⟨y0, y1⟩ (fun hx => ?_)
    clear hK K al ZD z0 z1
    try simp only [Act.put, List.setIfInBounds_toArray, List.set_cons_zero, List.set_cons_succ]
    repeat (
      apply SeqO.take0
      case ho => exact rfl
      case hg => exact rfl
      case hy => (intro w hSw; (try dsimp only at hSw); go_simp; try with_reducible rfl)
      try simp only [Act.put, List.setIfInBounds_toArray, List.set_cons_zero, List.set_cons_succ])
    refine SeqO.done ?_
    refine NoPanic.normal ?_
    have ZJ := Z12.frame (F' := fun _ => False) (Below.refl _ _) (fun _ h => h.elim)
    have HZJ := Lib.hid ZJ
    have HKA := Lib.hid KA
    have hXl3 : X.recs.length ≤ 390 := by have := HNR.out; omega
    have hXl2 : X.recs.length ≤ 900 := by omega
    clear ZJ KA Z12 y0 y1 hHeld
    go_wp2_with fail
    go_loopw [121] (fun jv wz => ∃ j : Nat, j ≤ 3 ∧ jv = .int .i64 j ∧ MatZ w bx bY X X (fun _ => False) wz wz ∧ BlkIs wz W10.heap.size 3 [.int .i64 n, .int .i64 pk, .int .i64 NR]) (fun jv _ => 3 - (intOf jv).toNat)
    case atStart => exact ⟨0, by omega, rfl, HZJ.out, HKA.out⟩
    case round =>
      clear HZJ HKA
      obtain ⟨j, hj, rfl, ZZ, KA⟩ := hrel
      by_cases h3 : j < 3
      case neg =>
        have t3 : decide ((j : Int) < 3) = false := by simp; omega
        have HZF := Lib.hid ZZ
        clear ZZ KA
        go_wp2_with fail
        exact ⟨⟨i + 1, X, by omega, by go_num, HGX'.out, by have := HNR.out; omega, HZF.out⟩, by simp [intOf]; omega⟩
      have t3 : decide ((j : Int) < 3) = true := by simp; omega
      obtain ⟨p, hp1, hp2, hpc⟩ : ∃ p : Int, -9223372036854775808 ≤ p ∧ p ≤ 9223372036854775807 ∧ [Value.int .i64 n, .int .i64 pk, .int .i64 NR][j]? = some (.int .i64 p) := by
        match j, h3 with
        | 0, _ => exact ⟨n, hn1, hn2, rfl⟩
        | 1, _ => exact ⟨pk, by omega, by omega, rfl⟩
        | 2, _ => exact ⟨NR, by omega, by omega, rfl⟩
      have ck : wr.cell? ⟨W10.heap.size, j, none⟩ = some (.int .i64 p) := (KA.cell j).trans hpc
      have j0 : (0 : Int) ≤ (j : Int) := by omega
      obtain ⟨HA, hHA⟩ : ∃ q, q = headA X p := ⟨_, rfl⟩
      obtain ⟨RA, hRA⟩ : ∃ q, q = recA X p := ⟨_, rfl⟩
      obtain ⟨PA, hPA⟩ : ∃ q, q = proveA X p := ⟨_, rfl⟩
      obtain ⟨EA, hEA⟩ : ∃ q, q = extA X p := ⟨_, rfl⟩
      have c1 : ∀ W, MatZ w bx bY X X (fun _ => False) wr W → Calls Tryz.prog 18 #[.pointer (some ⟨bx, 0, none⟩), .int .i64 p] W fun e w' => e = .returned (.tuple #[.agg #[.int .i64 HA.1.pos, .string (str HA.1.chain), .string (str HA.1.state)], .bool HA.2]) ∧ Below W.heap.size W w' := by
        intro W h
        obtain ⟨S, T, h1, _⟩ := h.logs
        rw [hHA]
        exact head_ok h1 p
      have c2 : ∀ W, MatZ w bx bY X X (fun _ => False) wr W → Calls Tryz.prog 19 #[.pointer (some ⟨bY, 0, none⟩), .int .i64 p] W fun e w' => e = .returned (.tuple #[.agg #[.int .i64 HA.1.pos, .string (str HA.1.chain), .string (str HA.1.state)], .bool HA.2]) ∧ Below W.heap.size W w' := by
        intro W h
        obtain ⟨S, T, _, h2, _⟩ := h.logs
        rw [hHA]
        exact rhead_ok h2 p
      have c3 : ∀ W, MatZ w bx bY X X (fun _ => False) wr W → Calls Tryz.prog 20 #[.pointer (some ⟨bx, 0, none⟩), .int .i64 p] W fun e w' => ∃ A c, e = .returned (.tuple #[.agg #[.int .i64 RA.1.pos, .slice A RA.1.chs.length c], .bool RA.2]) ∧ ChgsAt w' (.slice A RA.1.chs.length c) RA.1.chs ∧ Below W.heap.size W w' := by
        intro W h
        obtain ⟨S, T, h1, _⟩ := h.logs
        rw [hRA]
        exact record_any h1 HGX'.out p
      have c4 : ∀ W, MatZ w bx bY X X (fun _ => False) wr W → Calls Tryz.prog 21 #[.pointer (some ⟨bY, 0, none⟩), .int .i64 p] W fun e w' => ∃ A c, e = .returned (.tuple #[.agg #[.int .i64 RA.1.pos, .slice A RA.1.chs.length c], .bool RA.2]) ∧ ChgsAt w' (.slice A RA.1.chs.length c) RA.1.chs ∧ Below W.heap.size W w' := by
        intro W h
        obtain ⟨S, T, _, h2, _⟩ := h.logs
        rw [hRA]
        exact rrecord_any h2 HGX'.out p
      have c5 : ∀ W, MatZ w bx bY X X (fun _ => False) wr W → Calls Tryz.prog 23 #[.pointer (some ⟨bx, 0, none⟩), .int .i64 p] W fun e w' => ∃ A c, e = .returned (.tuple #[.slice A PA.1.length c, .int .i64 PA.2]) ∧ ListAt w' (.slice A PA.1.length c) PA.1 ∧ Below W.heap.size W w' := by
        intro W h
        obtain ⟨S, T, h1, _⟩ := h.logs
        rw [hPA]
        exact prove_any h1 HGX'.out (HR.out.later h.bel) p
      have c6 : ∀ W, MatZ w bx bY X X (fun _ => False) wr W → Calls Tryz.prog 24 #[.pointer (some ⟨bY, 0, none⟩), .int .i64 p] W fun e w' => ∃ A c, e = .returned (.tuple #[.slice A PA.1.length c, .int .i64 PA.2]) ∧ ListAt w' (.slice A PA.1.length c) PA.1 ∧ Below W.heap.size W w' := by
        intro W h
        obtain ⟨S, T, _, h2, _⟩ := h.logs
        rw [hPA]
        exact rprove_any h2 HGX'.out hXl2 p
      have c7 : ∀ W, MatZ w bx bY X X (fun _ => False) wr W → Calls Tryz.prog 25 #[.pointer (some ⟨bx, 0, none⟩), .int .i64 p] W fun e w' => ∃ A c, e = .returned (.tuple #[.slice A EA.1.length c, .int .i64 EA.2]) ∧ ListAt w' (.slice A EA.1.length c) EA.1 ∧ Below W.heap.size W w' := by
        intro W h
        obtain ⟨S, T, h1, _⟩ := h.logs
        rw [hEA]
        exact ext_any h1 HGX'.out (HR.out.later h.bel) p
      have c8 : ∀ W, MatZ w bx bY X X (fun _ => False) wr W → Calls Tryz.prog 26 #[.pointer (some ⟨bY, 0, none⟩), .int .i64 p] W fun e w' => ∃ A c, e = .returned (.tuple #[.slice A EA.1.length c, .int .i64 EA.2]) ∧ ListAt w' (.slice A EA.1.length c) EA.1 ∧ Below W.heap.size W w' := by
        intro W h
        obtain ⟨S, T, _, h2, _⟩ := h.logs
        rw [hEA]
        exact rext_any h2 HGX'.out hXl2 p
      have hrl : RA.1.chs.length ≤ 1000 := by rw [hRA]; exact recA_len HGX'.out p
      have hpl : PA.1.length ≤ 1000 := by rw [hPA]; exact proveA_len X p (by have := HGX'.out.len; omega)
      have hel : EA.1.length ≤ 1000 := by rw [hEA]; exact extA_len X p (by have := HGX'.out.len; omega)
      have C1 := Lib.hid c1
      have C2 := Lib.hid c2
      have C3 := Lib.hid c3
      have C4 := Lib.hid c4
      have C5 := Lib.hid c5
      have C6 := Lib.hid c6
      have C7 := Lib.hid c7
      have C8 := Lib.hid c8
      clear c1 c2 c3 c4 c5 c6 c7 c8 hHA hRA hPA hEA hpc
      obtain ⟨HD, hb⟩ := HA
      obtain ⟨RC, rb⟩ := RA
      obtain ⟨PL, pe⟩ := PA
      obtain ⟨EL, ee⟩ := EA
      dsimp only at C1 C2 C3 C4 C5 C6 C7 C8 hrl hpl hel
      have hq := fun W => run_eqHd W HD HD
      rw [decide_eq_true (show HD = HD from rfl)] at hq
      have hgd := guardHd
      ((try dsimp only); repeat (first | go_skip | go_step))
      refine (C1.out _ ZZ).mono ?_
      rintro e wa ⟨rfl, bn⟩
      replace ZZ := (ZZ.later bn).later (Below.alloc1 wa (.cells #[.int .i64 HD.pos, .string (str HD.chain), .string (str HD.state)] 46))
      replace KA := (KA.later bn).later (Below.alloc1 wa (.cells #[.int .i64 HD.pos, .string (str HD.chain), .string (str HD.state)] 46))
      have K16 := BlkIs.new wa 46 #[.int .i64 HD.pos, .string (str HD.chain), .string (str HD.state)]
      clear bn ck
      ((try dsimp only); repeat (first | go_skip | go_step))
      generalize wa.alloc (.cells #[.int .i64 HD.pos, .string (str HD.chain), .string (str HD.state)] 46) = wb at *
      refine (C2.out _ ZZ).mono ?_
      rintro e wq ⟨rfl, bn⟩
      replace ZZ := (ZZ.later bn).later (Below.alloc1 wq (.cells #[.int .i64 HD.pos, .string (str HD.chain), .string (str HD.state)] 46))
      replace KA := (KA.later bn).later (Below.alloc1 wq (.cells #[.int .i64 HD.pos, .string (str HD.chain), .string (str HD.state)] 46))
      replace K16 := (K16.later bn).later (Below.alloc1 wq (.cells #[.int .i64 HD.pos, .string (str HD.chain), .string (str HD.state)] 46))
      have K18 := BlkIs.new wq 46 #[.int .i64 HD.pos, .string (str HD.chain), .string (str HD.state)]
      clear bn
      ((try dsimp only); repeat (first | go_skip | go_step))
      generalize wq.alloc (.cells #[.int .i64 HD.pos, .string (str HD.chain), .string (str HD.state)] 46) = wd at *
      refine (C3.out _ ZZ).mono ?_
      rintro e we ⟨rA1, rc1, rfl, hcx, bn⟩
      replace ZZ := (ZZ.later bn).later (Below.alloc1 we (.cells #[.int .i64 RC.pos, .slice rA1 RC.chs.length rc1] 35))
      replace KA := (KA.later bn).later (Below.alloc1 we (.cells #[.int .i64 RC.pos, .slice rA1 RC.chs.length rc1] 35))
      replace K16 := (K16.later bn).later (Below.alloc1 we (.cells #[.int .i64 RC.pos, .slice rA1 RC.chs.length rc1] 35))
      replace K18 := (K18.later bn).later (Below.alloc1 we (.cells #[.int .i64 RC.pos, .slice rA1 RC.chs.length rc1] 35))
      replace hcx := hcx.below (Below.alloc1 we (.cells #[.int .i64 RC.pos, .slice rA1 RC.chs.length rc1] 35))
      have K20 := BlkIs.new we 35 #[.int .i64 RC.pos, .slice rA1 RC.chs.length rc1]
      clear bn
      ((try dsimp only); repeat (first | go_skip | go_step))
      generalize we.alloc (.cells #[.int .i64 RC.pos, .slice rA1 RC.chs.length rc1] 35) = wf at *
      refine (C4.out _ ZZ).mono ?_
      rintro e wg ⟨rA2, rc2, rfl, hcy, bn⟩
      replace ZZ := (ZZ.later bn).later (Below.alloc1 wg (.cells #[.int .i64 RC.pos, .slice rA2 RC.chs.length rc2] 35))
      replace KA := (KA.later bn).later (Below.alloc1 wg (.cells #[.int .i64 RC.pos, .slice rA2 RC.chs.length rc2] 35))
      replace K16 := (K16.later bn).later (Below.alloc1 wg (.cells #[.int .i64 RC.pos, .slice rA2 RC.chs.length rc2] 35))
      replace K18 := (K18.later bn).later (Below.alloc1 wg (.cells #[.int .i64 RC.pos, .slice rA2 RC.chs.length rc2] 35))
      replace K20 := (K20.later bn).later (Below.alloc1 wg (.cells #[.int .i64 RC.pos, .slice rA2 RC.chs.length rc2] 35))
      replace hcx := (hcx.below bn).below (Below.alloc1 wg (.cells #[.int .i64 RC.pos, .slice rA2 RC.chs.length rc2] 35))
      replace hcy := hcy.below (Below.alloc1 wg (.cells #[.int .i64 RC.pos, .slice rA2 RC.chs.length rc2] 35))
      have K22 := BlkIs.new wg 35 #[.int .i64 RC.pos, .slice rA2 RC.chs.length rc2]
      clear bn
      go_upto_region 19 with fail
      generalize wg.alloc (.cells #[.int .i64 RC.pos, .slice rA2 RC.chs.length rc2] 35) = wh at *
      have k0 : wh.cell? ⟨wa.heap.size, 0, none⟩ = some (.int .i64 HD.pos) := K16.cell 0
      have k1 : wh.cell? ⟨wa.heap.size, 1, none⟩ = some (.string (str HD.chain)) := K16.cell 1
      have k2 : wh.cell? ⟨wa.heap.size, 2, none⟩ = some (.string (str HD.state)) := K16.cell 2
      have k3 : wh.cell? ⟨wq.heap.size, 0, none⟩ = some (.int .i64 HD.pos) := K18.cell 0
      have k4 : wh.cell? ⟨wq.heap.size, 1, none⟩ = some (.string (str HD.chain)) := K18.cell 1
      have k5 : wh.cell? ⟨wq.heap.size, 2, none⟩ = some (.string (str HD.state)) := K18.cell 2
      have k6 : wh.cell? ⟨we.heap.size, 0, none⟩ = some (.int .i64 RC.pos) := K20.cell 0
      have k7 : wh.cell? ⟨we.heap.size, 1, none⟩ = some (.slice rA1 RC.chs.length rc1) := K20.cell 1
      have k8 : wh.cell? ⟨wg.heap.size, 0, none⟩ = some (.int .i64 RC.pos) := K22.cell 0
      have k9 : wh.cell? ⟨wg.heap.size, 1, none⟩ = some (.slice rA2 RC.chs.length rc2) := K22.cell 1
      have hsm := same_ok RC.pos RC.pos rA1 rA2 rc1 rc2 RC.chs RC.chs wh hcx hcy hrl
      rw [decide_eq_true (show RC.pos = RC.pos ∧ RC.chs = RC.chs from ⟨rfl, rfl⟩)] at hsm
      unfold recV at hsm
      have HSM := Lib.hid hsm
      clear hsm hcx hcy K16 K18 K20 K22
      go_cut [170] (fun s170 wx => s170 = .bool false ∧ Below wh.heap.size wh wx)
      case first =>
        cases rb
        · ((try dsimp only); repeat (first | go_skip | go_step))
          go_meet
          exact ⟨rfl, Below.refl _ _⟩
        · ((try dsimp only); repeat (first | go_skip | go_step))
          refine (HSM.out).mono ?_
          rintro e wi ⟨rfl, bn⟩
          ((try dsimp only); repeat (first | go_skip | go_step))
          go_meet
          exact ⟨rfl, bn⟩
      case rest =>
      obtain ⟨rfl, bn⟩ := hcut
      replace ZZ := ZZ.later bn
      replace KA := KA.later bn
      clear bn HSM k0 k1 k2 k3 k4 k5 k6 k7 k8 k9
      ((try dsimp only); repeat (first | go_skip | go_step))
      refine (C5.out _ ZZ).mono ?_
      rintro e wj ⟨pA1, pc1, rfl, px, bn⟩
      replace ZZ := ZZ.later bn
      replace KA := KA.later bn
      clear bn
      ((try dsimp only); repeat (first | go_skip | go_step))
      refine (C6.out _ ZZ).mono ?_
      rintro e wk ⟨pA2, pc2, rfl, py, bn⟩
      replace ZZ := ZZ.later bn
      replace KA := KA.later bn
      replace px := px.below bn
      clear bn
      ((try dsimp only); repeat (first | go_skip | go_step))
      refine (C7.out _ ZZ).mono ?_
      rintro e wl ⟨eA1, ec1, rfl, ex, bn⟩
      replace ZZ := ZZ.later bn
      replace KA := KA.later bn
      replace px := px.below bn
      replace py := py.below bn
      clear bn
      ((try dsimp only); repeat (first | go_skip | go_step))
      refine (C8.out _ ZZ).mono ?_
      rintro e wm ⟨eA2, ec2, rfl, ey, bn⟩
      replace ZZ := ZZ.later bn
      replace KA := KA.later bn
      replace px := px.below bn
      replace py := py.below bn
      replace ex := ex.below bn
      clear bn
      have hs1 := sameS_ok pA1 pA2 pc1 pc2 PL PL wm px py hpl
      rw [decide_eq_true (show PL = PL from rfl)] at hs1
      have hs2 := fun W (h : Below wm.heap.size wm W) => sameS_ok eA1 eA2 ec1 ec2 EL EL W (ex.below h) (ey.below h) hel
      rw [decide_eq_true (show EL = EL from rfl)] at hs2
      have HS1 := Lib.hid hs1
      have HS2 := Lib.hid hs2
      clear hs1 hs2 px py ex ey
      ((try dsimp only); repeat (first | go_skip | go_step))
      refine (HS1.out).mono ?_
      rintro e wn ⟨rfl, bn⟩
      replace ZZ := ZZ.later bn
      replace KA := KA.later bn
      ((try dsimp only); repeat (first | go_skip | go_step))
      refine (HS2.out _ bn).mono ?_
      rintro e wo ⟨rfl, bo⟩
      replace ZZ := ZZ.later bo
      replace KA := KA.later bo
      clear bn bo
      have HZF := Lib.hid (ZZ.frame (F' := fun _ => False) (Below.refl _ _) (fun _ h => h.elim))
      have HKF := Lib.hid KA
      clear ZZ KA
      ((try dsimp only); repeat (first | go_skip | go_step))
      exact ⟨⟨j + 1, by omega, by go_num, HZF.out, HKF.out⟩, by simp [intOf]; omega⟩
end Go.Proofs.YtheebajklnljdaaGreatDoor
end

