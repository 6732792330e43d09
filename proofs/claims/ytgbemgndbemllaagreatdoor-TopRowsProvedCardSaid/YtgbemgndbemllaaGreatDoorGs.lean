/- Joined: RdD ToK. -/
import Derived.Test.YtgbemgndbemllaaGreatDoorGn
import Derived.Test.YtgbemgndbemllaaGreatDoorGp
import Derived.Test.YtgbemgndbemllaaGreatDoorQAppN
import Derived.Test.YtgbemgndbemllaaGreatDoorGc
import Derived.Test.YtgbemgndbemllaaGreatDoorGk
import Derived.Test.YtgbemgndbemllaaGreatDoorGr
import Derived.Test.YtgbemgndbemllaaGreatDoorQLogL
import Derived.Test.YtgbemgndbemllaaGreatDoorGj

section
/- What the reference's Log keeps: its records, their changes and its state in memory. -/
namespace Go.Proofs.YtgbemgndbemllaaGreatDoor
open Go Go.RowKit

theorem recCells_one (p : Rec × Value) (h : p.2.oneCell' = true) : ∀ u ∈ recCells p, u.oneCell' = true := by
  intro u hu
  unfold recCells at hu
  simp only [List.mem_cons, List.not_mem_nil, or_false] at hu
  rcases hu with rfl | rfl
  · rfl
  · exact h
theorem chgCells_one (c : Chg) : ∀ u ∈ chgCells c, u.oneCell' = true := by
  intro u hu
  unfold chgCells at hu
  simp only [List.mem_cons, List.not_mem_nil, or_false] at hu
  rcases hu with rfl | rfl | rfl | rfl | rfl | rfl | rfl | rfl | rfl | rfl <;> rfl
theorem flat_chg_one (l : List Chg) : ∀ u ∈ l.flatMap chgCells, u.oneCell' = true := by
  intro u hu
  obtain ⟨c, _, hu⟩ := List.mem_flatMap.1 hu
  exact chgCells_one c u hu
theorem flat_chg_len (l : List Chg) : (l.flatMap chgCells).length = l.length * 10 := flat_len chgCells 10 chgCells_len l
theorem flat_take10 : ∀ (l : List Chg) (m : Nat), (l.take m).flatMap chgCells = (l.flatMap chgCells).take (m * 10)
  | l, 0 => by simp
  | [], m + 1 => by simp
  | x :: l, m + 1 => by
    rw [List.take_succ_cons, List.flatMap_cons, flat_take10 l m, List.flatMap_cons, show (m + 1) * 10 = (chgCells x).length + m * 10 by rw [chgCells_len]; omega, List.take_append, List.take_of_length_le (Nat.le_add_right _ _)]
    simp
theorem flat_drop10 : ∀ (l : List Chg) (m : Nat), (l.drop m).flatMap chgCells = (l.flatMap chgCells).drop (m * 10)
  | l, 0 => by simp
  | [], m + 1 => by simp
  | x :: l, m + 1 => by
    rw [List.drop_succ_cons, flat_drop10 l m, List.flatMap_cons, show (m + 1) * 10 = (chgCells x).length + m * 10 by rw [chgCells_len]; omega, List.drop_append]
    simp

theorem add_add' (ad : Addr) (m n : Nat) : (ad.add m).add n = ad.add (m + n) := by
  unfold Addr.add
  by_cases h1 : m = 0 <;> by_cases h2 : n = 0 <;> simp [h1, h2, Nat.add_assoc]
theorem add_field (ad : Addr) (m : Nat) : ad.add (m + 1) = ⟨ad.block, ad.off + (m + 1), none⟩ := by simp [Addr.add]
/-- a slice of rows of six numbers -/
def SixAt (w : World) (v : Value) (xs : List (List Int)) : Prop :=
  ∃ A c, v = .slice A xs.length c ∧ xs.length ≤ c ∧ (0 < xs.length → ∃ ad, A = some ad ∧ ad.block < w.heap.size ∧ ∀ (i : Nat) x, xs[i]? = some x → x.length = 6 ∧
    ∀ (j : Nat) z, x[j]? = some z → w.cell? (ad.add (i * 6 + j)) = some (.int .i64 z) ∧ -9223372036854775808 ≤ z ∧ z ≤ 9223372036854775807)
theorem SixAt.below {w w' : World} {v : Value} {xs : List (List Int)} (h : SixAt w v xs) (hb : Below w.heap.size w w') : SixAt w' v xs := by
  obtain ⟨A, c, hv, hc, hx⟩ := h
  refine ⟨A, c, hv, hc, fun h0 => ?_⟩
  obtain ⟨ad, hA, hlt, hj⟩ := hx h0
  have hf : ∀ m, w'.cell? (ad.add m) = w.cell? (ad.add m) := fun m => hb.cell (p := ad.add m) (by rw [block_add]; exact hlt)
  refine ⟨ad, hA, Nat.lt_of_lt_of_le hlt hb.size, fun i x hx => ?_⟩
  obtain ⟨h6, hz⟩ := hj i x hx
  exact ⟨h6, fun j z hz' => by rw [hf]; exact hz j z hz'⟩

/-- the records that Log has put out, and its state in the block b -/
structure LogZ (W : World) (b : Nat) (ov : Value) (ps : List (Rec × Value)) (s : StT) : Prop where
  row : W.ownsRow (b + 1) 37 2 ov ps.length (ps.flatMap recCells)
  chs : ∀ p ∈ ps, W.ownsRow (b + 1) 65 10 p.2 p.1.chs.length (p.1.chs.flatMap chgCells)
  st : RSt W b s
  run : runS st0 (ps.map (·.1)) = some s

theorem LogZ.zero {W : World} {b : Nat} (h : RSt W b st0) : LogZ W b (.slice none 0 0) [] st0 := ⟨World.ownsRow_nil _ _ _ _, by simp, h, rfl⟩
theorem LogZ.good {W : World} {b : Nat} {ov : Value} {ps : List (Rec × Value)} {s : StT} (h : LogZ W b ov ps s) : GoodS s ∧ s.pos = (ps.length : Nat) := by
  obtain ⟨g, hp⟩ := runS_good st0_good h.run
  rw [List.length_map] at hp
  exact ⟨g, by simpa [st0] using hp⟩
theorem LogZ.later {W W' : World} {b : Nat} {ov : Value} {ps : List (Rec × Value)} {s : StT} (h : LogZ W b ov ps s) (hb : Below W.heap.size W W') : LogZ W' b ov ps s :=
  ⟨ownsRow_later hb h.row, fun p hp => ownsRow_later hb (h.chs p hp), h.st.later hb, h.run⟩
theorem LogZ.form {W : World} {b : Nat} {ov : Value} {ps : List (Rec × Value)} {s : StT} (h : LogZ W b ov ps s) : ∃ A c, ov = .slice A ps.length c ∧ ps.length ≤ c := by
  obtain ⟨A, c, hv, hc, _⟩ := ownsRow_form h.row
  exact ⟨A, c, hv, hc⟩
theorem LogZ.recs {W : World} {b : Nat} {ov : Value} {ps : List (Rec × Value)} {s : StT} (h : LogZ W b ov ps s) : RecsAt W ov (ps.map (·.1)) :=
  RecRow.recs (S := fun _ => True) ⟨ps, rfl, ownsRow_base0 h.row, fun _ _ => trivial, fun p hp => ⟨ownsRow_base0 (h.chs p hp), fun _ _ => trivial⟩⟩
theorem only_row {W W' : World} {b : Nat} (ho : Only (fun j => j = b) W W') {e : TypeId} {size : Nat} {v : Value} {n : Nat} {xs : List Value} (h : W.ownsRow (b + 1) e size v n xs) : W'.ownsRow (b + 1) e size v n xs :=
  ownsRow_same (S := fun j => b < j) h (.of_only ho fun k hk e => by omega) fun j hj => own_ge h hj
theorem RSt.appended {W W' : World} {b : Nat} {s : StT} (h : RSt W b s) {base size k : Nat} {v : Value} {xs : List Value} (hr : W.ownsRow base 37 size v k xs) (hg : W.grownBy W' v.ownBlock) : RSt W' b s := by
  obtain ⟨u, h1, h2⟩ := h.own
  exact ⟨u, h1.kept hg (h1.not_row (by decide) hr), h2.kept hg (rows_apart2 hr h2 (by decide))⟩
/-- Apply has taken the record, and it is put out -/
theorem LogZ.add {W W1 W2 W3 : World} {b : Nat} {ov v' cv : Value} {ps : List (Rec × Value)} {s : StT} {p : Int} {l : List Chg} (h : LogZ W b ov ps s) (hf : fitsB s ⟨p, l⟩ = true) (hs : RSt W1 b ⟨l.foldl appC s.rows, p⟩)
    (ho : Only (fun j => j = b) W W1) (hb : Below W1.heap.size W1 W2) (hg : W2.grownBy W3 ov.ownBlock) (hc : W.ownsRow (b + 1) 65 10 cv l.length (l.flatMap chgCells))
    (own : W3.ownsRow (b + 1) 37 2 v' (ps.length + 1) (ps.flatMap recCells ++ recCells (⟨p, l⟩, cv))) : LogZ W3 b v' (ps ++ [(⟨p, l⟩, cv)]) ⟨l.foldl appC s.rows, p⟩ := by
  have r2 := ownsRow_later hb (only_row ho h.row)
  refine ⟨?_, ?_, (hs.later hb).appended r2 hg, ?_⟩
  · rw [List.length_append, List.length_singleton, List.flatMap_append]
    simpa using own
  · intro q hq
    have hq' : W2.ownsRow (b + 1) 65 10 q.2 q.1.chs.length (q.1.chs.flatMap chgCells) := by
      rcases List.mem_append.1 hq with hq | hq
      · exact ownsRow_later hb (only_row ho (h.chs q hq))
      · rw [List.mem_singleton] at hq
        subst hq
        exact ownsRow_later hb (only_row ho hc)
    exact hq'.kept hg (rows_apart2 r2 hq' (by decide))
  · rw [List.map_append, runS_append, h.run]
    simp only [List.map_cons, List.map_nil, Option.bind_some, runS]
    unfold stepS
    rw [hf]
    rfl
end Go.Proofs.YtgbemgndbemllaaGreatDoor
end

section
/- What the law's walk keeps: the log that is newer than a world; parts of what came in. -/
namespace Go.Proofs.YtgbemgndbemllaaGreatDoor
open Go Go.RowKit

theorem ChgsOwn.tight {S : Nat → Prop} {w : World} {v : Value} {l : List Chg} (h : ChgsOwn w S v l) : ChgsOwn w (fun k => S k ∧ k < w.heap.size) v l := ⟨h.1, fun k hk => ⟨h.2 k hk, (h.1.lt k hk).2⟩⟩
theorem LogAt.tight {S : Nat → Prop} {w : World} {b : Nat} {x : Lg} (h : LogAt w S b x) : LogAt w (fun k => S k ∧ k < w.heap.size) b x := by
  obtain ⟨rv, hv, h1, h2, ⟨ps, p1, p2, p3, p4⟩, h4, h5⟩ := h
  exact ⟨rv, hv, h1, ⟨h2, h1.lt⟩, ⟨ps, p1, p2, fun k hk => ⟨p3 k hk, (p2.lt k hk).2⟩, fun p hp => (p4 p hp).tight⟩, h4, fun k hk => ⟨h5 k hk, (h4.lt k hk).2⟩⟩
/-- the log b, all of it newer than w -/
def LJ (w : World) (b : Nat) (x : Lg) (W : World) : Prop := LogAt W (fun k => w.heap.size ≤ k ∧ k < W.heap.size) b x ∧ Below w.heap.size w W
theorem LJ.bel {w : World} {b : Nat} {x : Lg} {W : World} (h : LJ w b x W) : Below w.heap.size w W := h.2
theorem LJ.later {w : World} {b : Nat} {x : Lg} {W W' : World} (h : LJ w b x W) (hb : Below W.heap.size W W') : LJ w b x W' :=
  ⟨(h.1.below hb).mono fun _ hk => ⟨hk.1, Nat.lt_of_lt_of_le hk.2 hb.size⟩, Below.next h.2 hb⟩
theorem LJ.app {w : World} {b : Nat} {x : Lg} {W : World} (h : LJ w b x W) (good : Good x) (hR : RoundOk w) (p : Int) (A : Option Addr) (c : Nat) (l : List Chg) (hv : ChgsAt w (.slice A l.length c) l) (st : List UInt8) :
    Calls Tryz.prog 9 #[.pointer (some ⟨b, 0, none⟩), .agg #[.int .i64 p, .slice A l.length c], .string (str st)] W fun e w' => e = .returned (.int .i64 (appA x ⟨p, l⟩ st).2) ∧ LJ w b (appA x ⟨p, l⟩ st).1 w' := by
  refine (append_ok h.1 good (fun k hk => hk.2) p A c l st (hv.below h.2) (hR.later h.2)).mono ?_
  rintro e w' ⟨he, hL, hO⟩
  refine ⟨he, hL.tight.mono fun k hk => ?_, h.2.trans (hO.below (fun k hk => hk.1) h.2.size)⟩
  rcases hk.1 with hk1 | hk1
  · exact ⟨hk1.1, hk.2⟩
  · exact ⟨Nat.le_trans h.2.size hk1, hk.2⟩

/-- the beginning of a slice of rows of six numbers -/
theorem SixAt.take {w : World} {A : Option Addr} {c : Nat} {xs : List (List Int)} (h : SixAt w (.slice A xs.length c) xs) {m : Nat} (hm : m ≤ xs.length) : SixAt w (.slice A (xs.take m).length c) (xs.take m) := by
  obtain ⟨A', c', hv, hc, hj⟩ := h
  injection hv with e1 e2 e3
  subst e1 e3
  have hl : (xs.take m).length = m := by rw [List.length_take]; omega
  refine ⟨_, _, rfl, by omega, fun h0 => ?_⟩
  obtain ⟨ad, hA, hlt, hj⟩ := hj (by omega)
  refine ⟨ad, hA, hlt, fun i x hx => hj i x ?_⟩
  rw [List.getElem?_take] at hx
  split at hx
  · exact hx
  · cases hx
/-- one record of a slice -/
theorem RecsAt.at_ {w : World} {A : Option Addr} {n c : Nat} {l : List Rec} (h : RecsAt w (.slice A n c) l) {i : Nat} {r : Rec} (hr : l[i]? = some r) :
    ∃ g o cA cc, A = some ⟨g, o, none⟩ ∧ g < w.heap.size ∧ w.cell? ⟨g, o + i * 2, none⟩ = some (.int .i64 r.pos) ∧ w.cell? ⟨g, o + i * 2 + 1, none⟩ = some (.slice cA r.chs.length cc) ∧ ChgsAt w (.slice cA r.chs.length cc) r.chs := by
  obtain ⟨A', c', hv, hc, hj⟩ := h
  injection hv with e1 e2 e3
  subst e1
  have hlt := (List.getElem?_eq_some_iff.1 hr).1
  obtain ⟨g, o, e, hg, hj⟩ := hj (by omega)
  obtain ⟨h1, cv, h2, h3⟩ := hj i r hr
  obtain ⟨cA, cc, rfl, h4, h5⟩ := id h3
  exact ⟨g, o, cA, cc, e, hg, h1, h2, h3⟩
/-- the heads of a log of the law -/
theorem TopLog.head {L : List Rec} {x : Lg} (h : TopLog L L.length x) {P : Nat} (hP : P ≤ L.length) : ∃ hd s, x.heads[P]? = some hd ∧ headA x P = (hd, true) ∧ runS st0 (L.take P) = some s ∧ hd.state = rootS s.rows ∧ P < x.heads.length ∧
    verA (rootA x) (L.length : Nat) hd (proofL (leavesL x) P) = true ∧ (proofL (leavesL x) P).length ≤ 100 := by
  obtain ⟨hd, s, h1, h2, h3⟩ := h.states P hP
  have hrl : x.recs.length = L.length := by rw [h.recs, List.take_length]
  exact ⟨hd, s, h1, headA_in h1, h2, h3, (List.getElem?_eq_some_iff.1 h1).1, verA_proof h.good hrl hP h1, proof_short h.good P⟩
theorem rootS_str (l : List Rw) : (str (rootS l)).data.toList = rootS l := by simp
end Go.Proofs.YtgbemgndbemllaaGreatDoor
end

