/- What the end of Owns' walk keeps: the box of the record that was cut, its changes, the log. -/
import Derived.Test.YtheebajklnljdaaDoorQOwA
namespace Go.Proofs.YtheebajklnljdaaDoor
open Go Go.RowKit

structure OwnZ (w : World) (b : Nat) (x : Lg) (bx : List Value) (A : Option Addr) (c : Nat) (l : List Chg) (W : World) : Prop where
  box : BlkIs W w.heap.size 34 bx
  chs : ChgsAt W (.slice A l.length c) l
  alt : ∀ ad, A = some ad → ad.block < W.heap.size
  log : ∃ S : Nat → Prop, (∀ k, S k → k < W.heap.size ∧ w.heap.size < k ∧ ∀ ad, A = some ad → k ≠ ad.block) ∧ LogAt W S b x
  bel : Below w.heap.size w W

theorem OwnZ.later {w : World} {b : Nat} {x : Lg} {bx : List Value} {A : Option Addr} {c : Nat} {l : List Chg} {W W' : World} (h : OwnZ w b x bx A c l W) (hb : Below W.heap.size W W') : OwnZ w b x bx A c l W' := by
  obtain ⟨S, h1, h2⟩ := h.log
  exact ⟨h.box.later hb, h.chs.below hb, fun ad e => Nat.lt_of_lt_of_le (h.alt ad e) hb.size, ⟨S, fun k hk => ⟨Nat.lt_of_lt_of_le (h1 k hk).1 hb.size, (h1 k hk).2⟩, h2.below hb⟩, Below.next h.bel hb⟩
theorem OwnZ.root {w : World} {b : Nat} {x : Lg} {bx : List Value} {A : Option Addr} {c : Nat} {l : List Chg} {W : World} (h : OwnZ w b x bx A c l W) (good : Good x) (hR : RoundOk w) :
    Calls Tryd.prog 11 #[.pointer (some ⟨b, 0, none⟩)] W fun e w' => e = .returned (.string (str (rootA x))) ∧ OwnZ w b x bx A c l w' := by
  obtain ⟨S, h1, h2⟩ := h.log
  exact (lroot_ok h2 good (hR.later h.bel)).mono fun e w' ⟨he, hb⟩ => ⟨he, h.later hb⟩
theorem OwnZ.app {w : World} {b : Nat} {x : Lg} {bx : List Value} {A : Option Addr} {c : Nat} {l : List Chg} {W : World} (h : OwnZ w b x bx A c l W) (good : Good x) (hR : RoundOk w) (p : Int) (st : List UInt8) :
    Calls Tryd.prog 16 #[.pointer (some ⟨b, 0, none⟩), recV p (.slice A l.length c), .string (str st)] W fun e w' => e = .returned (.int .i64 (appA x ⟨p, l⟩ st).2) ∧ OwnZ w b (appA x ⟨p, l⟩ st).1 bx A c l w' := by
  obtain ⟨S, h1, h2⟩ := h.log
  refine (append_ok h2 good (fun k hk => (h1 k hk).1) p A c l st h.chs (hR.later h.bel)).mono ?_
  rintro e w' ⟨he, hL, hO⟩
  have hs := hO.size
  have hbx := h.box.lt
  refine ⟨he, (hO.block _ hbx fun e => by have := (h1 _ e).2.1; omega).trans h.box, ?_, fun ad e => Nat.lt_of_lt_of_le (h.alt ad e) hs, ⟨fun k => (S k ∨ W.heap.size ≤ k) ∧ k < w'.heap.size, ?_, hL.tight⟩, h.bel.trans (hO.below (fun k hk => Nat.le_of_lt (h1 k hk).2.1) h.bel.size)⟩
  · obtain ⟨A', c', e, hc, hx⟩ := h.chs
    injection e with e1 e2 e3
    subst e1 e3
    refine ⟨A, c, rfl, hc, fun h0 => ?_⟩
    obtain ⟨g, o, hA, hg, hj⟩ := hx h0
    refine ⟨g, o, hA, Nat.lt_of_lt_of_le hg hs, fun j x hx i u hu => ?_⟩
    have hb : w'.heap[g]? = W.heap[g]? := hO.block g hg fun e => (h1 _ e).2.2 _ hA rfl
    exact (World.cell?_of_block (a := ⟨g, o + j * 10 + i, none⟩) hb).trans (hj j x hx i u hu)
  · rintro k ⟨hk | hk, hl⟩
    · exact ⟨hl, (h1 k hk).2⟩
    · exact ⟨hl, by omega, fun ad e => by have := h.alt ad e; omega⟩
theorem ownsRow_ad {w : World} {base : Nat} {e : TypeId} {size n c : Nat} {A : Option Addr} {xs : List Value} (h : w.ownsRow base e size (.slice A n c) n xs) : ∀ ad, A = some ad → base ≤ ad.block ∧ ad.block < w.heap.size := by
  intro ad hA
  subst hA
  rcases h.2 with ⟨h0, _⟩ | ⟨g, cap, cur, hv, hb, hgb, _⟩
  · injection h0 with h1; cases h1
  · injection hv with h1 _ _
    injection h1 with h1
    subst h1
    exact ⟨hb, (Array.getElem?_eq_some_iff.1 hgb).1⟩
end Go.Proofs.YtheebajklnljdaaDoor
