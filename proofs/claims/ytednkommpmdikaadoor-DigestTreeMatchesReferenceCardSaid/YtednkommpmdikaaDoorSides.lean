/- Rows of sides (two cells each) that the call owns; slices of strings. -/
import Derived.Test.YtednkommpmdikaaDoorTreH
import Derived.Test.YtednkommpmdikaaDoorBackS
namespace Go.Proofs.YtednkommpmdikaaDoor
open Go Go.RowKit

def sideVals (l : List (List UInt8 × Bool)) : List Value := l.flatMap fun x => [.string (str x.1), .bool x.2]
theorem sideVals_snoc (l : List (List UInt8 × Bool)) (x : List UInt8 × Bool) : sideVals (l ++ [x]) = sideVals l ++ [.string (str x.1), .bool x.2] := by simp [sideVals]
theorem sideVals_length (l : List (List UInt8 × Bool)) : (sideVals l).length = l.length * 2 := by
  induction l with
  | nil => rfl
  | cons a t ih =>
    have : sideVals (a :: t) = [.string (str a.1), .bool a.2] ++ sideVals t := rfl
    rw [this, List.length_append, ih]; simp; omega
theorem sideVals_get : ∀ (l : List (List UInt8 × Bool)) (j : Nat) x, l[j]? = some x → (sideVals l)[j * 2]? = some (.string (str x.1)) ∧ (sideVals l)[j * 2 + 1]? = some (.bool x.2)
  | [], j, x, h => by simp at h
  | a :: t, 0, x, h => by
    simp at h; subst h
    exact ⟨rfl, rfl⟩
  | a :: t, j + 1, x, h => by
    have h1 := sideVals_get t j x (by simpa using h)
    have : sideVals (a :: t) = [.string (str a.1), .bool a.2] ++ sideVals t := rfl
    rw [this, List.getElem?_append_right (by simp; omega), List.getElem?_append_right (by simp; omega)]
    simp only [List.length_cons, List.length_nil, Nat.zero_add, Nat.reduceAdd]
    rw [show (j + 1) * 2 - 2 = j * 2 by omega, show (j + 1) * 2 + 1 - 2 = j * 2 + 1 by omega]
    exact h1

theorem Tryd.infoSide : (Tryd.prog.info? 58).map (fun i => (i.zero, i.size, i.bytes)) = some (some (.agg #[.string ⟨#[]⟩, .bool false]), 2, 24) := by kernel_rfl
theorem info_side : ∃ i, Tryd.prog.info? 58 = some i ∧ i.zero = some (.agg #[.string ⟨#[]⟩, .bool false]) ∧ i.size = 2 ∧ i.bytes = 24 := by
  obtain ⟨i0, hi, hz0, hz1, hz2⟩ := info_parts Tryd.infoSide
  exact ⟨i0, hi, hz0, hz1, hz2⟩

/-- the cells of a block that was just made -/
theorem cells_new (w : World) (t : TypeId) (xs : List Value) : ∀ j u, xs[j]? = some u → (w.alloc (.cells xs.toArray t)).cell? ((⟨w.heap.size, 0, none⟩ : Addr).add j) = some u := by
  intro j u hu
  rw [add_zero_off]
  exact ((BlkIs.new w t xs.toArray).cell j).trans hu

/-- v is a row of the call's own with just these sides -/
def SidesAt (w : World) (base : Nat) (v : Value) (l : List (List UInt8 × Bool)) : Prop := w.ownsRow base 58 2 v l.length (sideVals l)
theorem SidesAt.below {w w' : World} {base : Nat} {v : Value} {l : List (List UInt8 × Bool)} (h : SidesAt w base v l) (hb : Below w.heap.size w w') : SidesAt w' base v l := ownsRow_below hb h
theorem SidesAt.alloc {w : World} {base : Nat} {v : Value} {l : List (List UInt8 × Bool)} (h : SidesAt w base v l) (o : Obj) : SidesAt (w.alloc o) base v l := World.ownsRow.alloc h o
/-- its cells -/
theorem SidesAt.parts {w : World} {base : Nat} {v : Value} {l : List (List UInt8 × Bool)} (h : SidesAt w base v l) :
    ∃ ad g cap, v = .slice ad l.length cap ∧ (0 < l.length → ad = some ⟨g, 0, none⟩ ∧ g < w.heap.size) ∧ l.length ≤ cap ∧ cap ≤ maxLen ∧
      ∀ (j : Nat) x, l[j]? = some x → w.cell? ⟨g, j * 2, none⟩ = some (.string (str x.1)) ∧ w.cell? ⟨g, j * 2 + 1, none⟩ = some (.bool x.2) := by
  rcases h.2 with ⟨rfl, h0⟩ | ⟨g, cap, cur, rfl, _, hg, hn, hm, hc, ht⟩
  · refine ⟨none, 0, 0, by rw [h0], fun h => by omega, by omega, by unfold maxLen; omega, fun j x hx => ?_⟩
    have := (List.getElem?_eq_some_iff.1 hx).1
    omega
  · have hb : BlkIs w g 58 cur.toList := by simpa [BlkIs] using hg
    refine ⟨_, g, cap, rfl, fun _ => ⟨rfl, hb.lt⟩, hn, hm, fun j x hx => ?_⟩
    obtain ⟨h1, h2⟩ := sideVals_get l j x hx
    rw [← ht, List.getElem?_take] at h1 h2
    constructor
    · rw [hb.cell]
      split at h1
      · exact h1
      · cases h1
    · rw [hb.cell]
      split at h2
      · exact h2
      · cases h2

/-- v is a slice of just these strings -/
def ListAt (w : World) (v : Value) (ls : List (List UInt8)) : Prop := StrsAt w v (ls.map str)
theorem ListAt.below {w w' : World} {v : Value} {ls : List (List UInt8)} (h : ListAt w v ls) (hb : Below w.heap.size w w') : ListAt w' v ls := StrsAt.below h hb
theorem ListAt.nil {w : World} {v : Value} (h : ListAt w v []) : ∃ A c, v = .slice A 0 c := by
  rcases h with ⟨_, h⟩ | ⟨g, o, c, h, _⟩
  · exact h
  · exact ⟨_, _, h⟩
theorem ListAt.len {w : World} {v : Value} {ls : List (List UInt8)} (h : ListAt w v ls) : ∃ A c, v = .slice A ls.length c := by
  rcases h with ⟨h0, A, c, h⟩ | ⟨g, o, c, h, _⟩
  · have : ls = [] := by simpa using h0
    subst this
    exact ⟨A, c, h⟩
  · exact ⟨_, c, by rw [h, List.length_map]⟩
/-- the last string, and the rest -/
theorem ListAt.last {w : World} {v : Value} {ls : List (List UInt8)} {x : List UInt8} (h : ListAt w v (ls ++ [x])) :
    ∃ g o c, v = .slice (some ⟨g, o, none⟩) (ls.length + 1) c ∧ ls.length + 1 ≤ c ∧ g < w.heap.size ∧ w.cell? ⟨g, o + ls.length, none⟩ = some (.string (str x)) ∧ ListAt w (.slice (some ⟨g, o, none⟩) ls.length c) ls := by
  rcases h with ⟨h0, _⟩ | ⟨g, o, c, h1, h2, h3, h4, h5⟩
  · simp at h0
  · have hl : ((ls ++ [x]).map str).length = ls.length + 1 := by simp
    rw [hl] at h1 h2
    refine ⟨g, o, c, h1, h2, h4, h5 _ _ (by simp), .inr ⟨g, o, c, by simp, by simp; omega, h3, h4, fun j y hy => h5 j y ?_⟩⟩
    rw [List.map_append, List.getElem?_append_left (List.getElem?_eq_some_iff.1 hy).1]
    exact hy
theorem ListAt.rows {w : World} {v : Value} {ls : List (List UInt8)} (h : ListAt w v ls) (h0 : ls ≠ []) : ∃ g o c, v = .slice (some ⟨g, o, none⟩) ls.length c ∧ RowsAt w g o ls.length c ls := by
  rcases h with ⟨h1, _⟩ | ⟨g, o, c, h1, h2, h3, h4, h5⟩
  · simp at h1; exact absurd h1 h0
  · rw [List.length_map] at h1 h2
    refine ⟨g, o, c, h1, rfl, h2, h3, h4, fun j x hx => h5 j _ ?_⟩
    rw [List.getElem?_map, hx]; rfl
theorem RowsAt.list {w : World} {g o n c : Nat} {l : List (List UInt8)} (h : RowsAt w g o n c l) : ListAt w (.slice (some ⟨g, o, none⟩) n c) l := by
  obtain ⟨h1, h2, h3, h4, h5⟩ := h
  refine .inr ⟨g, o, c, by rw [List.length_map, h1], by rw [List.length_map, ← h1]; exact h2, h3, h4, fun j x hx => ?_⟩
  rw [List.getElem?_map] at hx
  cases hl : l[j]? with
  | none => rw [hl] at hx; cases hx
  | some y => rw [hl] at hx; cases hx; exact h5 j y hl
theorem listAt_own {w : World} {base : Nat} {v : Value} {l : List (List UInt8)} (h : w.ownsRow base 9 1 v l.length (svs l)) : ListAt w v l := by
  rcases Nat.eq_zero_or_pos l.length with h0 | h0
  · obtain rfl := List.length_eq_zero_iff.1 h0
    refine .inl ⟨rfl, ?_⟩
    rcases h.2 with ⟨h, _⟩ | ⟨g, cap, cur, h, _⟩
    · exact ⟨_, _, h⟩
    · exact ⟨_, _, h⟩
  · obtain ⟨g, cap, cs, rfl, _, hblk, hn, hm, _⟩ := ownsRow_blk h h0
    unfold maxLen at hm
    exact RowsAt.list (g := g) (o := 0) ⟨rfl, hn, by omega, hblk.lt, fun j x hx => by rw [Nat.zero_add]; exact ownsRow_cell h j _ (svs_get l j x hx)⟩
theorem all_list (v : Value) (ls : List (List UInt8)) (w : World) (hv : ListAt w v ls) :
    Calls Tryd.prog 41 #[v] w fun e w' => e = .returned (.bool (ls.all fun s => decide (s.length = 32))) ∧ ∃ q, w' = w.drewN q := by
  have h := all_ok v (ls.map str) w hv
  rw [List.all_map] at h
  have e : (fun s => decide (s.size = 32)) ∘ str = fun s : List UInt8 => decide (s.length = 32) := by
    funext s; simp only [Function.comp]; rw [size_mk]
  rw [e] at h
  exact h

/-- the fold that Verify's last loop makes -/
def foldW (way : List (List UInt8 × Bool)) (v : List UInt8) : List UInt8 := way.reverse.foldl (fun o x => stepL x o) v
theorem foldW_snoc (way : List (List UInt8 × Bool)) (x : List UInt8 × Bool) (v : List UInt8) : foldW (way ++ [x]) v = foldW way (stepL x v) := by
  unfold foldW; rw [List.reverse_append]; rfl
/-- after k rounds -/
def accS (way : List (List UInt8 × Bool)) (v : List UInt8) (k : Nat) : List UInt8 := (way.reverse.take k).foldl (fun o x => stepL x o) v
theorem accS_zero (way : List (List UInt8 × Bool)) (v : List UInt8) : accS way v 0 = v := rfl
theorem accS_all (way : List (List UInt8 × Bool)) (v : List UInt8) : accS way v way.length = foldW way v := by
  unfold accS foldW; rw [List.take_of_length_le (by rw [List.length_reverse]; exact Nat.le_refl _)]
theorem accS_length (way : List (List UInt8 × Bool)) (v : List UInt8) (k : Nat) (h : v.length = 32) : (accS way v k).length = 32 := by
  unfold accS
  generalize way.reverse.take k = l
  induction l generalizing v with
  | nil => exact h
  | cons a t ih => exact ih _ (stepL_len _ _)
theorem accS_succ (way : List (List UInt8 × Bool)) (v : List UInt8) (k i : Nat) (x : List UInt8 × Bool) (hi : i + k + 1 = way.length) (hx : way[i]? = some x) : accS way v (k + 1) = stepL x (accS way v k) := by
  have h : way.reverse[k]? = some x := by
    rw [List.getElem?_reverse (by omega), show way.length - 1 - k = i by omega]; exact hx
  unfold accS
  rw [List.take_add_one, h, List.foldl_append]
  rfl
/-- the first value's fold, for extensions -/
def step1 (x : List UInt8 × Bool) (o : List UInt8) : List UInt8 := if x.2 then stepL x o else o
def fold1 (way : List (List UInt8 × Bool)) (v : List UInt8) : List UInt8 := way.reverse.foldl (fun o x => step1 x o) v
theorem fold1_snoc (way : List (List UInt8 × Bool)) (x : List UInt8 × Bool) (v : List UInt8) : fold1 (way ++ [x]) v = fold1 way (step1 x v) := by
  unfold fold1; rw [List.reverse_append]; rfl
def acc1 (way : List (List UInt8 × Bool)) (v : List UInt8) (k : Nat) : List UInt8 := (way.reverse.take k).foldl (fun o x => step1 x o) v
theorem acc1_all (way : List (List UInt8 × Bool)) (v : List UInt8) : acc1 way v way.length = fold1 way v := by
  unfold acc1 fold1; rw [List.take_of_length_le (by rw [List.length_reverse]; exact Nat.le_refl _)]
theorem step1_length (x : List UInt8 × Bool) (o : List UInt8) (h : o.length = 32) : (step1 x o).length = 32 := by
  unfold step1; split
  · exact stepL_len _ _
  · exact h
theorem acc1_length (way : List (List UInt8 × Bool)) (v : List UInt8) (k : Nat) (h : v.length = 32) : (acc1 way v k).length = 32 := by
  unfold acc1
  generalize way.reverse.take k = l
  induction l generalizing v with
  | nil => exact h
  | cons a t ih => exact ih _ (step1_length _ _ h)
theorem acc1_succ (way : List (List UInt8 × Bool)) (v : List UInt8) (k i : Nat) (x : List UInt8 × Bool) (hi : i + k + 1 = way.length) (hx : way[i]? = some x) : acc1 way v (k + 1) = step1 x (acc1 way v k) := by
  have h : way.reverse[k]? = some x := by
    rw [List.getElem?_reverse (by omega), show way.length - 1 - k = i by omega]; exact hx
  unfold acc1
  rw [List.take_add_one, h, List.foldl_append]
  rfl
end Go.Proofs.YtednkommpmdikaaDoor
