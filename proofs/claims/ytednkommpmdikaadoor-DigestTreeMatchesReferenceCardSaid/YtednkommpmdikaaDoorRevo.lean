/- slices.Reverse of a row of strings that the call owns. -/
import Derived.Test.YtednkommpmdikaaDoorTreE
namespace Go.Proofs.YtednkommpmdikaaDoor
open Go Go.RowKit

theorem BlkIs.setCells {g : Nat} {t : TypeId} : ∀ (vs : List Value) (o : Nat) {w : World} {cs : List Value}, BlkIs w g t cs → o + vs.length ≤ cs.length →
    BlkIs (w.setCells g o vs) g t (cs.take o ++ vs ++ cs.drop (o + vs.length))
  | [], o, w, cs, h, _ => by
    simp only [List.length_nil, Nat.add_zero, List.append_nil, List.take_append_drop]
    exact h
  | v :: r, o, w, cs, h, hl => by
    have h1 := BlkIs.setCells r (o + 1) (h.set o v) (by rw [List.length_set]; simp at hl; omega)
    have e : (cs.set o v).take (o + 1) ++ r ++ (cs.set o v).drop (o + 1 + r.length) = cs.take o ++ v :: r ++ cs.drop (o + (v :: r).length) := by
      simp only [List.length_cons] at hl ⊢
      rw [List.take_add_one, List.take_set_of_le (Nat.le_refl _), List.getElem?_set_self (by omega), List.drop_set_of_lt (by omega), show o + (r.length + 1) = o + 1 + r.length by omega]
      simp
    rw [e] at h1
    exact h1
theorem upd_setCells (g : Nat) : ∀ (vs : List Value) (o : Nat) (w : World), Upd g w (w.setCells g o vs)
  | [], _, w => Upd.refl g w
  | v :: r, o, w => (Upd.setCell g o w v).trans (upd_setCells g r (o + 1) _)

theorem ownsRow_rewrite {w : World} {base : Nat} {e : TypeId} {g n cap : Nat} {xs ys : List Value} (h : w.ownsRow base e 1 (.slice (some ⟨g, 0, none⟩) n cap) n xs) (hl : ys.length = xs.length) :
    (w.setCells g 0 ys).ownsRow base e 1 (.slice (some ⟨g, 0, none⟩) n cap) n ys := by
  obtain ⟨h0, h⟩ := h
  refine ⟨by rw [hl]; exact h0, .inr ?_⟩
  rcases h with ⟨h, _⟩ | ⟨g', cap', cur, hv, hb, hg, hn, hm, hc, ht⟩
  · cases h
  · injection hv with e1 e2 e3
    injection e1 with e1
    injection e1 with e1
    subst e1 e3
    have hb1 : BlkIs w g e cur.toList := by simpa [BlkIs] using hg
    have hlc : ys.length ≤ cur.toList.length := by simp; omega
    have hs := hb1.setCells ys 0 (by omega)
    refine ⟨g, cap, (cur.toList.take 0 ++ ys ++ cur.toList.drop (0 + ys.length)).toArray, rfl, hb, hs, hn, hm, ?_, ?_⟩
    · simp at hlc ⊢; omega
    · simp only [List.take_zero, List.nil_append]
      rw [List.take_append_of_le_length (by omega), List.take_of_length_le (by omega)]

theorem strs_of_reverse (l : List (List UInt8)) (f : Nat → ByteArray) (hf : ∀ j x, l[j]? = some x → f j = str x) : ((Lib.strsOf f l.length).reverse.map encStr) = svs l.reverse := by
  have e : Lib.strsOf f l.length = l := by
    unfold Lib.strsOf
    apply List.ext_getElem
    · simp
    · intro i h1 h2
      simp only [List.getElem_map, List.getElem_range]
      rw [hf i l[i] (List.getElem?_eq_getElem h2)]
  rw [e]
  rfl

theorem rev_ok (base : Nat) (v : Value) (l : List (List UInt8)) (w w0 : World) (h : w.ownsRow base 9 1 v l.length (svs l)) (hl : l.length ≤ 1000000) (hb : Below base w0 w) (hbs : base ≤ w.heap.size) :
    Calls Tryd.prog 37 #[v] w fun e w' => e = .returned (.tuple #[]) ∧ w'.ownsRow base 9 1 v l.length (svs l.reverse) ∧ Below base w0 w' := by
  rcases Nat.eq_zero_or_pos l.length with h0 | h0
  · obtain rfl := List.length_eq_zero_iff.1 h0
    obtain ⟨A, c, rfl⟩ : ∃ A c, v = .slice A 0 c := by
      rcases h.2 with ⟨h, _⟩ | ⟨g, cap, cur, h, _⟩
      · exact ⟨_, _, h⟩
      · exact ⟨_, _, h⟩
    refine (Tryd.slices_Reverse_string_empty _ _ w).mono ?_
    rintro e w1 ⟨rfl, rfl⟩
    exact ⟨rfl, h, hb⟩
  · obtain ⟨g, cap, cs, rfl, hg, hblk, hn, hm, _⟩ := ownsRow_blk h h0
    have hc : ∀ i, i < l.length → w.cell? ⟨g, 0 + i, none⟩ = some (.string (str l[i]!)) := by
      intro i hi
      rw [Nat.zero_add]
      refine ownsRow_cell h i _ (svs_get l i _ ?_)
      rw [List.getElem!_eq_getElem?_getD, List.getElem?_eq_getElem hi]; rfl
    refine (Tryd.slices_Reverse_string_cells g 0 l.length cap (fun i => str l[i]!) w (by omega) hc (fun j _ => by rw [Nat.zero_add]; exact hblk.frozen j)).mono ?_
    rintro e w1 ⟨rfl, q, rfl⟩
    rw [strs_of_reverse l (fun i => str l[i]!) (fun j x hx => by rw [List.getElem!_eq_getElem?_getD, hx]; rfl)]
    have hd : (w.drewN q).ownsRow base 9 1 (.slice (some ⟨g, 0, none⟩) l.length cap) l.length (svs l) := h
    refine ⟨rfl, ownsRow_rewrite hd (by rw [svs_length, svs_length, List.length_reverse]), ?_⟩
    have hu := upd_setCells g (svs l.reverse) 0 (w.drewN q)
    have hbd : Below base w0 (w.drewN q) := below_drewN' hb q
    exact hbd.trans (hu.below hg hbs)
end Go.Proofs.YtednkommpmdikaaDoor
