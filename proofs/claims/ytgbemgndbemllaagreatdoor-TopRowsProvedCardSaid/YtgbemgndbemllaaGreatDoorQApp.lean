/- What an append to a row of the call's own leaves of the blocks beside it. -/
import Derived.Test.YtgbemgndbemllaaGreatDoorGb
import Derived.RangeFuncBox
import Derived.WalkSpells
namespace Go.Proofs.YtgbemgndbemllaaGreatDoor
open Go Go.RowKit

theorem BlkIs.kept {w w' : World} {row : Option Nat} {g : Nat} {t : TypeId} {cs : List Value} (h : BlkIs w g t cs) (hg : w.grownBy w' row) (hne : some g ≠ row) : BlkIs w' g t cs := (hg.block g h.lt hne).trans h

theorem BlkIs.not_row {w : World} {g : Nat} {t e : TypeId} {cs : List Value} (h : BlkIs w g t cs) (hte : t ≠ e) {base size k : Nat} {v : Value} {xs : List Value} (hr : w.ownsRow base e size v k xs) : some g ≠ v.ownBlock := by
  rcases hr.2 with ⟨rfl, _⟩ | ⟨g', cap, cur, rfl, _, hgb, _⟩
  · simp [Value.ownBlock]
  · intro e'
    obtain rfl : g = g' := by simpa [Value.ownBlock] using e'
    have := (show w.heap[g]? = _ from h).symm.trans hgb
    simp at this
    exact hte this.2

/-- a block of another type lies behind the append as it lay -/
theorem BlkIs.appended {w w1 : World} {g : Nat} {t e : TypeId} {cs : List Value} (h : BlkIs w g t cs) (hte : t ≠ e) {base size k : Nat} {v : Value} {xs : List Value} {tmp : Obj} (hr : w.ownsRow base e size v k xs)
    (hg : (w.alloc tmp).grownBy w1 v.ownBlock) : BlkIs w1 g t cs := (BlkIs.alloc h tmp).kept hg (h.not_row hte hr)

theorem Below.appended {B : Nat} {a w w1 : World} (h : Below B a w) (hB : B ≤ w.heap.size) {e : TypeId} {size k : Nat} {v : Value} {xs : List Value} {tmp : Obj} (hr : w.ownsRow B e size v k xs)
    (hg : (w.alloc tmp).grownBy w1 v.ownBlock) : Below B a w1 := by
  have h1 := h.alloc hB tmp
  have hs := hg.size
  refine h1.trans ⟨hg.os, hg.tape, hg.output, hs, fun k hk => hg.block k (by simp; omega) fun e' => ?_⟩
  have := hr.lt k e'.symm
  omega

theorem Upd.grown {w w' : World} {b : Nat} (h : Upd b w w') : w.grownBy w' (some b) := ⟨h.os, h.tape, h.output, h.size, fun k hk hn => h.block k hk fun e => hn (e ▸ rfl)⟩

theorem ownsRow_upd {w w' : World} {b : Nat} (hu : Upd b w w') {t e : TypeId} {cs : List Value} (hb : BlkIs w b t cs) (hte : t ≠ e) {base size k : Nat} {v : Value} {xs : List Value} (hr : w.ownsRow base e size v k xs) : w'.ownsRow base e size v k xs :=
  hr.kept hu.grown (.inr (hb.not_row hte hr).symm)

theorem ownsRow_below {B : Nat} {w w' : World} (hb : Below w.heap.size w w') {e : TypeId} {size k : Nat} {v : Value} {xs : List Value} (hr : w.ownsRow B e size v k xs) : w'.ownsRow B e size v k xs := by
  refine hr.kept (row := none) ⟨hb.os, hb.tape, hb.output, hb.size, fun k hk _ => hb.block k hk⟩ ?_
  cases v.ownBlock <;> simp

/-- the row's block, when something is in it -/
theorem ownsRow_blk {w : World} {base : Nat} {e : TypeId} {k : Nat} {v : Value} {xs : List Value} (h : w.ownsRow base e 1 v k xs) (hk : 0 < k) :
    ∃ g cap cs, v = .slice (some ⟨g, 0, none⟩) k cap ∧ base ≤ g ∧ BlkIs w g e cs ∧ k ≤ cap ∧ cap ≤ maxLen ∧ cs.take k = xs := by
  rcases h.2 with ⟨_, h0⟩ | ⟨g, cap, cur, rfl, hb, hgb, hkc, hm, _, ht⟩
  · omega
  · exact ⟨g, cap, cur.toList, rfl, hb, by simpa [BlkIs] using hgb, hkc, hm, by simpa using ht⟩

end Go.Proofs.YtgbemgndbemllaaGreatDoor
