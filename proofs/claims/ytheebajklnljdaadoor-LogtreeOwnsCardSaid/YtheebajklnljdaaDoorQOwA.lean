/- What the walk of Owns keeps; Append of a nil log. -/
import Derived.Test.YtheebajklnljdaaDoorQRcC
import Derived.Test.YtheebajklnljdaaDoorQCutA
namespace Go.Proofs.YtheebajklnljdaaDoor
open Go Go.RowKit
attribute [local go_sem] Oper.semAt_some

theorem append_nil (p : Int) (v : Value) (st : ByteArray) (w : World) (hv : ∃ A n c, v = .slice A n c) :
    Calls Tryd.prog 16 #[.pointer none, recV p v, .string st] w fun e w' => e = .returned (.int .i64 1) ∧ Below w.heap.size w w' := by
  obtain ⟨A, n, c, rfl⟩ := hv
  unfold recV
  have hb := Below.alloc1 w (.cells #[.int .i64 p, .slice A n c] 34)
  go_enter Tryd.func16, Tryd.ntmps16
  go_wp2_with fail
  go_ret
  exact ⟨rfl, by first | exact hb | exact Below.refl _ _⟩

theorem chgB_key {c : Chg} (h : chgB c = true) : c.key ≤ 1000000 := by
  unfold chgB soundB rowB at h
  obtain ⟨t, k, had, old, has, new⟩ := c
  dsimp only at h ⊢
  cases had <;> cases has <;> simp [Bool.and_eq_true, decide_eq_true_eq] at h <;> omega
theorem chgB_table {c : Chg} (h : chgB c = true) : c.table ≤ 3 := by
  unfold chgB soundB rowB at h
  obtain ⟨t, k, had, old, has, new⟩ := c
  dsimp only at h ⊢
  cases had <;> cases has <;> simp [Bool.and_eq_true, decide_eq_true_eq] at h <;> omega
theorem grown_of_only {w w' : World} {g : Nat} (h : Only (fun k => k = g) w w') : w.grownBy w' (some g) := ⟨h.os, h.tape, h.output, h.size, fun k hk hn => h.block k hk fun e => hn (e ▸ rfl)⟩

/-- the block of an owned row that is not empty -/
theorem ownsRow_whole {w : World} {base : Nat} {e : TypeId} {size : Nat} {v : Value} {n : Nat} {xs : List Value} (h : w.ownsRow base e size v n xs) (hn : 0 < n) :
    ∃ g c cs, v = .slice (some ⟨g, 0, none⟩) n c ∧ base ≤ g ∧ BlkIs w g e cs ∧ n ≤ c ∧ v.ownBlock = some g ∧ ∀ (j : Nat) u, xs[j]? = some u → cs[j]? = some u := by
  have hcells := @World.ownsRow.cells w base e size v n xs h
  rcases h.2 with ⟨rfl, h0⟩ | ⟨g, cap, cur, rfl, hb, hgb, hkc, hm, _, ht⟩
  · omega
  · refine ⟨g, cap, cur.toList, rfl, hb, by simpa [BlkIs] using hgb, hkc, rfl, fun j u hu => ?_⟩
    have h1 := hcells (g := g) rfl j u hu
    rw [add_zero_off] at h1
    have hK : BlkIs w g e cur.toList := by simpa [BlkIs] using hgb
    rw [hK.cell] at h1
    exact h1

/-- between the rounds of Owns' first loop: the box of the record; the log; the records from number k on -/
structure OwnJ (w w1 w2 w3 : World) (b : Nat) (x : Lg) (v : Value) (ps : List (Rec × Value)) (bx : List Value) (k : Nat) (W : World) : Prop where
  box : BlkIs W w.heap.size 34 bx
  log : LogAt W (fun j => w2.heap.size ≤ j ∧ j < w3.heap.size) b x
  row : W.ownsRow w1.heap.size 34 2 v ps.length (ps.flatMap recCells)
  rlt : ∀ g, v.ownBlock = some g → g < w2.heap.size
  chs : ∀ j q, k ≤ j → ps[j]? = some q → W.ownsRow w1.heap.size 45 10 q.2 q.1.chs.length (q.1.chs.flatMap chgCells)
  clt : ∀ q ∈ ps, ∀ g, q.2.ownBlock = some g → g < w2.heap.size
  ap : ps.Pairwise fun p q => p.2.ownBlock ≠ q.2.ownBlock
  bel : Below w.heap.size w W
  le1 : w.heap.size < w1.heap.size
  le2 : w1.heap.size ≤ w2.heap.size
  le3 : w2.heap.size ≤ w3.heap.size
  le4 : w3.heap.size ≤ W.heap.size

theorem OwnJ.later {w w1 w2 w3 : World} {b : Nat} {x : Lg} {v : Value} {ps : List (Rec × Value)} {bx : List Value} {k : Nat} {W W' : World} (h : OwnJ w w1 w2 w3 b x v ps bx k W) (hb : Below W.heap.size W W') : OwnJ w w1 w2 w3 b x v ps bx k W' :=
  ⟨h.box.later hb, h.log.below hb, ownsRow_later hb h.row, h.rlt, fun j q hj hq => ownsRow_later hb (h.chs j q hj hq), h.clt, h.ap, Below.next h.bel hb, h.le1, h.le2, h.le3, Nat.le_trans h.le4 hb.size⟩
/-- a store into what is newer -/
theorem OwnJ.wrote {w w1 w2 w3 : World} {b : Nat} {x : Lg} {v : Value} {ps : List (Rec × Value)} {bx : List Value} {k : Nat} {W : World} (h : OwnJ w w1 w2 w3 b x v ps bx k W) {q : Addr} (hq : w3.heap.size ≤ q.block) (u : Value) : OwnJ w w1 w2 w3 b x v ps bx k (W.setCell q u) := by
  have l1 := h.le1
  have l2 := h.le2
  have l3 := h.le3
  have hO := Only.setCell (S := fun j => j = q.block) W q u rfl
  have hG := grown_of_only hO
  have ne : ∀ {z : Value}, (∀ g, z.ownBlock = some g → g < w2.heap.size) → z.ownBlock = none ∨ z.ownBlock ≠ some q.block := fun hz => .inr fun e => by have := hz _ e; omega
  refine ⟨h.box.kept hG (by simp; omega), h.log.same (.of_only hO fun j hj e => by omega), h.row.kept hG (ne h.rlt), h.rlt, fun j p hj hp => (h.chs j p hj hp).kept hG (ne (h.clt p (List.mem_of_getElem? hp))), h.clt, h.ap, h.bel.trans (hO.below (fun j hj => by omega) h.bel.size), l1, l2, l3, Nat.le_trans h.le4 hO.size⟩
/-- a store into the changes of record number k -/
theorem OwnJ.next {w w1 w2 w3 : World} {b : Nat} {x : Lg} {v : Value} {ps : List (Rec × Value)} {bx : List Value} {k : Nat} {W : World} (h : OwnJ w w1 w2 w3 b x v ps bx k W) {p : Rec × Value} (hp : ps[k]? = some p) {q : Addr} (hq : p.2.ownBlock = some q.block) (hq1 : w1.heap.size ≤ q.block) (u : Value) : OwnJ w w1 w2 w3 b x v ps bx (k + 1) (W.setCell q u) := by
  have l1 := h.le1
  have l2 := h.le2
  have l3 := h.le3
  have hlt := h.clt p (List.mem_of_getElem? hp) _ hq
  have hO := Only.setCell (S := fun j => j = q.block) W q u rfl
  have hG := grown_of_only hO
  have hr := rows_apart2 (h.chs k p (Nat.le_refl _) hp) h.row (by decide)
  rw [hq] at hr
  refine ⟨h.box.kept hG (by simp; omega), h.log.same (.of_only hO fun j hj e => by omega), h.row.kept hG hr, h.rlt, fun j y hj hy => (h.chs j y (by omega) hy).kept hG (.inr ?_), h.clt, h.ap, h.bel.trans (hO.below (fun j hj => by omega) h.bel.size), l1, l2, l3, Nat.le_trans h.le4 hO.size⟩
  rw [← hq]
  obtain ⟨a1, a2⟩ := List.getElem?_eq_some_iff.1 hp
  obtain ⟨b1, b2⟩ := List.getElem?_eq_some_iff.1 hy
  have := List.pairwise_iff_getElem.1 h.ap k j a1 b1 (by omega)
  rw [a2, b2] at this
  exact this.symm
end Go.Proofs.YtheebajklnljdaaDoor
