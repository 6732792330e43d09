/- A row of bytes of the call's own, of which the cells past the end may bear a mark; an append of one byte. -/
import Derived.Test.YtgbemgndbemllaaGreatDoorQDBase
import Derived.ArgAppend
import Derived.WalkSpells
import Derived.WalkLawsBesides
namespace Go.Proofs.YtgbemgndbemllaaGreatDoor
open Go Go.RowKit

/-- Block g is just the cells cs of type t, frozen where fr says. -/
def BlkF (w : World) (g : Nat) (t : TypeId) (cs : List Value) (fr : Nat × Nat) : Prop := w.heap[g]? = some (.cells cs.toArray t fr)
theorem BlkF.cell {w : World} {g : Nat} {t : TypeId} {cs : List Value} {fr : Nat × Nat} (h : BlkF w g t cs fr) (i : Nat) : w.cell? ⟨g, i, none⟩ = cs[i]? := by
  simp [World.cell?, show w.heap[g]? = _ from h]
theorem BlkF.frozen {w : World} {g : Nat} {t : TypeId} {cs : List Value} {fr : Nat × Nat} (h : BlkF w g t cs fr) (i : Nat) (hi : i < fr.1) : w.frozen? ⟨g, i, none⟩ = false := by
  obtain ⟨lo, hi'⟩ := fr
  simp only at hi
  have : decide (lo ≤ i) = false := by simp; omega
  simp [World.frozen?, show w.heap[g]? = _ from h, this]
theorem BlkF.set {w : World} {g : Nat} {t : TypeId} {cs : List Value} {fr : Nat × Nat} (h : BlkF w g t cs fr) (i : Nat) (u : Value) : BlkF (w.setCell ⟨g, i, none⟩ u) g t (cs.set i u) fr := by
  obtain ⟨hlt, hk⟩ := Array.getElem?_eq_some_iff.1 h
  show (w.heap.modify g _)[g]? = _
  rw [Array.getElem?_eq_getElem (by rw [Array.size_modify]; exact hlt), Array.getElem_modify_self, hk]
  simp
theorem BlkF.drew {w : World} {g : Nat} {t : TypeId} {cs : List Value} {fr : Nat × Nat} (h : BlkF w g t cs fr) : BlkF w.drew g t cs fr := h
theorem BlkF.drewN {w : World} {g : Nat} {t : TypeId} {cs : List Value} {fr : Nat × Nat} (h : BlkF w g t cs fr) (n : Nat) : BlkF (w.drewN n) g t cs fr := h

theorem run_convert_blkF {P : Program} {w : World} {g cap : Nat} {t : TypeId} {l : List UInt8} {more : List Value} {fr : Nat × Nat} (src dst e : TypeId) (hs : P.underlying src = some (.slice e)) (he : P.underlying e = some (.int .u8)) (hd : P.underlying dst = some .string)
    (h : BlkF w g t (bv l ++ more) fr) : (convert src dst (.slice (some ⟨g, 0, none⟩) l.length cap)).run P w = .ok (.string ⟨l.toArray⟩) w := by
  refine run_convert_bytes_back w src dst e ⟨g, 0, none⟩ cap l hs he hd fun j hj => ?_
  have : (⟨g, 0, none⟩ : Addr).add j = ⟨g, j, none⟩ := by unfold Addr.add; split <;> simp_all
  rw [this, h.cell, List.getElem?_append_left (by simpa using hj)]
  simp [bv, hj]

theorem bytesRow_eq (s : ByteArray) (cap : Nat) : (bytesRow s cap).toList = bv s.data.toList ++ List.replicate (cap - s.size) (.int .u8 0) := by
  simp [bytesRow, bv]


theorem BlkF.lt {w : World} {g : Nat} {t : TypeId} {cs : List Value} {fr : Nat × Nat} (h : BlkF w g t cs fr) : g < w.heap.size := (Array.getElem?_eq_some_iff.1 h).1
theorem BlkF.alloc {w : World} {g : Nat} {t : TypeId} {cs : List Value} {fr : Nat × Nat} (h : BlkF w g t cs fr) (o : Obj) : BlkF (w.alloc o) g t cs fr := (Below.heap_alloc w o g h.lt).trans h
theorem BlkF.kept {w w' : World} {row : Option Nat} {g : Nat} {t : TypeId} {cs : List Value} {fr : Nat × Nat} (h : BlkF w g t cs fr) (hg : w.grownBy w' row) (hne : some g ≠ row) : BlkF w' g t cs fr := (hg.block g h.lt hne).trans h

/-- v is a slice of the call's own that holds the bytes l -/
def OwnF (w : World) (base : Nat) (e : TypeId) (v : Value) (l : List UInt8) : Prop :=
  ∃ g cap cs fr, v = .slice (some ⟨g, 0, none⟩) l.length cap ∧ base ≤ g ∧ BlkF w g e (bv l ++ cs) fr ∧ l.length ≤ cap ∧ cap ≤ l.length + cs.length ∧ cap ≤ maxLen ∧ (fr = (0, 0) ∨ cap ≤ fr.1)

theorem OwnF.alloc {w : World} {base : Nat} {e : TypeId} {v : Value} {l : List UInt8} (h : OwnF w base e v l) (o : Obj) : OwnF (w.alloc o) base e v l := by
  obtain ⟨g, cap, cs, fr, h1, h2, h3, h4⟩ := h
  exact ⟨g, cap, cs, fr, h1, h2, h3.alloc o, h4⟩
theorem OwnF.drew {w : World} {base : Nat} {e : TypeId} {v : Value} {l : List UInt8} (h : OwnF w base e v l) : OwnF w.drew base e v l := h

theorem BlkF.free {w : World} {g : Nat} {t : TypeId} {cs : List Value} {fr : Nat × Nat} (h : BlkF w g t cs fr) {cap i : Nat} (hf : fr = (0, 0) ∨ cap ≤ fr.1) (hi : i < cap) : w.frozen? ⟨g, i, none⟩ = false := by
  rcases hf with rfl | hf
  · simp [World.frozen?, show w.heap[g]? = _ from h]
  · exact h.frozen i (by omega)

theorem OwnF.slice {w : World} {base : Nat} {e : TypeId} {v : Value} {l : List UInt8} (h : OwnF w base e v l) : ∃ g cap, v = .slice (some ⟨g, 0, none⟩) l.length cap ∧ base ≤ g ∧ g < w.heap.size ∧ l.length ≤ cap ∧ cap ≤ maxLen := by
  obtain ⟨g, cap, cs, fr, h1, h2, h3, h4, _, h5, _⟩ := h
  exact ⟨g, cap, h1, h2, h3.lt, h4, h5⟩

theorem wpList_append_byte {P : Program} {w : World} {ops : Array Oper} {rest : List Oper} {o : Oper} {a : Act} {Q : Exit → Act → World → Prop} (hgd : o.guard = none) (s x : Operand) (t : TypeId)
    (ho : o.op = .call { callee := .builtin .append, args := #[s, x], argTypes := #[t, t] })
    (base : Nat) (e : TypeId) (i : TypeInfo) (ht : P.underlying t = some (.slice e)) (hi : P.info? e = some i) (hz : i.zero = some (.int .u8 0)) (hs1 : i.size = 1) (hb1 : i.bytes = 1)
    (v : Value) (l : List UInt8) (hs : a.eval s = v) (hown : OwnF w base e v l)
    (ad : Addr) (c : UInt8) (hx : a.eval x = .slice (some ad) 1 1) (hc : w.cell? ad = some (.int .u8 (c.toNat : Int))) (hsp : ad.spot = none) (hlen : l.length + 1 ≤ 140737488355328) (hbase : base ≤ w.heap.size)
    (h : ∀ v' w', OwnF w' base e v' (l ++ [c]) → w.grownBy w' v.ownBlock → wpList P ops Q rest (a.put o.dst v') w') : wpList P ops Q (o :: rest) a w := by
  obtain ⟨g, cap, cs, fr, rfl, hg, hblk, hl, hcap, hm, hfr⟩ := hown
  have hcell : ∀ j u, (bv l)[j]? = some u → w.cell? ⟨g, 0 + j, none⟩ = some u := by
    intro j u hu
    rw [Nat.zero_add, hblk.cell, List.getElem?_append_left (List.getElem?_eq_some_iff.1 hu).1]
    exact hu
  have hnews : ∀ j u, ([Value.int .u8 (c.toNat : Int)] : List Value)[j]? = some u → w.cell? (ad.add j) = some u := by
    intro j u hu
    cases j with
    | zero =>
      simp only [List.getElem?_cons_zero, Option.some.injEq] at hu
      subst hu
      have : ad.add 0 = ad := by
        obtain ⟨b, off, sp⟩ := ad
        simp only at hsp
        subst hsp
        unfold Addr.add; split <;> simp_all
      rw [this]; exact hc
    | succ j => simp at hu
  have hsize : l.length + 1 ≤ maxLen := by unfold maxLen; omega
  refine wpList_append_arg w hgd s x t ho e i (.int .u8 0) 1 1 ht hi hz hs1 hb1 rfl (by omega) g 0 l.length cap (bv l) hs (by simp) hcell ad 1 1 [.int .u8 (c.toNat : Int)] hx rfl hnews (by simp [Value.oneCell']) ?_ hsize (by omega) ?_ ?_
  · intro hr j hj
    simp only [List.length_cons, List.length_nil] at hj
    obtain rfl : j = 0 := by omega
    refine ⟨?_, ?_⟩
    · simp only [Nat.zero_add, Nat.mul_one, Nat.add_zero]
      rw [hblk.cell, List.getElem?_append_right (by simp)]
      rw [bv_length, Nat.sub_self, List.getElem?_eq_getElem (by omega)]
      rfl
    · simp only [Nat.zero_add, Nat.mul_one, Nat.add_zero]
      exact hblk.free hfr (by omega)
  · intro hr
    have hl1 : (l ++ [c]).length = l.length + 1 := by simp
    have e1 : w.setCells g (0 + l.length * 1) [.int .u8 (c.toNat : Int)] = w.setCell ⟨g, l.length, none⟩ (.int .u8 (c.toNat : Int)) := by
      rw [Nat.zero_add, Nat.mul_one]; rfl
    rw [e1]
    refine h _ _ ⟨g, cap, cs.tail, fr, by rw [hl1], hg, ?_, by omega, by rw [List.length_tail]; omega, hm, hfr⟩ ?_
    · have hn := hblk.set l.length (.int .u8 (c.toNat : Int))
      have e2 : (bv l ++ cs).set l.length (.int .u8 (c.toNat : Int)) = bv (l ++ [c]) ++ cs.tail := by
        rw [List.set_append_right _ _ (by simp), bv_length, Nat.sub_self]
        cases cs with
        | nil => simp at hcap; omega
        | cons u cs => rw [List.set_cons_zero, bv_append]; simp [bv]
      rwa [e2] at hn
    · have := grownBy_setCell' w g (.int .u8 (c.toNat : Int))
      exact ⟨rfl, rfl, rfl, by simp [World.setCell], fun k _ hk => Below.heap_setCell _ _ _ k (fun e => hk (by rw [e]; rfl))⟩
  · intro hr v' w' hrow hgrow
    have hl1 : (l ++ [c]).length = l.length + 1 := by simp
    rcases hrow.2 with ⟨_, h0⟩ | ⟨g', cap', cur, rfl, hb', hg', hn', hm', hc', ht'⟩
    · omega
    · have hdl : (cur.toList.drop (l.length + 1)).length = cur.size - (l.length + 1) := by simp
      refine h _ _ ⟨g', cap', cur.toList.drop (l.length + 1), (0, 0), by rw [hl1], Nat.le_trans hbase hb', ?_, by omega, by rw [hl1, hdl]; omega, hm', .inl rfl⟩ ⟨hgrow.os, hgrow.tape, hgrow.output, hgrow.size, fun k hk _ => hgrow.block k hk (by simp)⟩
      have e3 : bv (l ++ [c]) ++ cur.toList.drop (l.length + 1) = cur.toList := by
        have : bv (l ++ [c]) = cur.toList.take ((l.length + 1) * 1) := by rw [ht', bv_append]; rfl
        rw [this, Nat.mul_one, List.take_append_drop]
      show w'.heap[g']? = _
      rw [e3]
      simpa using hg'

theorem OwnF.below {B base : Nat} {a w w1 : World} {e : TypeId} {v : Value} {l : List UInt8} {tmp : Obj} (hb : Below B a w) (h : OwnF w base e v l) (hB : B ≤ base) (hw : B ≤ w.heap.size) (hg : (w.alloc tmp).grownBy w1 v.ownBlock) : Below B a w1 := by
  obtain ⟨g, cap, cs, fr, rfl, hgb, _⟩ := h
  have h1 := hb.alloc hw tmp
  refine h1.trans ⟨hg.os, hg.tape, hg.output, hg.size, fun k hk => hg.block k (by simp; omega) fun e' => ?_⟩
  simp [Value.ownBlock] at e'
  omega

end Go.Proofs.YtgbemgndbemllaaGreatDoor
