/- The walk of DigestTreeMatchesReference. -/
import Derived.Test.YtednkommpmdikaaDoorRefT
namespace Go.Proofs.YtednkommpmdikaaDoor
open Go Go.RowKit
attribute [local go_sem] Oper.semAt_some

/-- what Proof returns for any number -/
def proofA (l : List (List UInt8)) (i : Int) : List (List UInt8) × Int := if 0 ≤ i ∧ i < l.length then (proofL l i.toNat, 0) else ([], 2)
/-- what Extension returns for any number -/
def extA (l : List (List UInt8)) (m : Int) : List (List UInt8) × Int := if 0 ≤ m ∧ m ≤ l.length then (extL l m.toNat, 0) else ([], 2)

theorem proof_any (A : Option Addr) (c : Nat) (l : List (List UInt8)) (i : Int) (w : World) (hv : ListAt w (.slice A l.length c) l) (hl : l.length ≤ 1000) (hs : ∀ x ∈ l, x.length ≤ 900000) (hR : RoundOk w) :
    Calls Tryd.prog 12 #[.slice A l.length c, .int .i64 i] w fun e w' => ∃ B d, e = .returned (.tuple #[.slice B (proofA l i).1.length d, .int .i64 (proofA l i).2]) ∧ ListAt w' (.slice B (proofA l i).1.length d) (proofA l i).1 ∧ Below w.heap.size w w' := by
  by_cases h : 0 ≤ i ∧ i < l.length
  · have he : proofA l i = (proofL l i.toNat, 0) := if_pos h
    obtain ⟨k, rfl⟩ := Int.eq_ofNat_of_zero_le h.1
    rw [he]
    exact proof_list _ l k w hv (by omega) (by omega) hs hR
  · have he : proofA l i = ([], 2) := if_neg h
    rw [he]
    refine (proof_no A l.length c i w (by omega)).mono ?_
    rintro e w' ⟨rfl, rfl⟩
    exact ⟨none, 0, rfl, .inl ⟨rfl, _, _, rfl⟩, Below.refl _ _⟩

theorem proofR_any (A : Option Addr) (c : Nat) (l : List (List UInt8)) (i : Int) (w : World) (hv : ListAt w (.slice A l.length c) l) (hl : l.length ≤ 1000) (hs : ∀ x ∈ l, x.length ≤ 900000) :
    Calls Tryd.prog 13 #[.slice A l.length c, .int .i64 i] w fun e w' => ∃ B d, e = .returned (.tuple #[.slice B (proofA l i).1.length d, .int .i64 (proofA l i).2]) ∧ ListAt w' (.slice B (proofA l i).1.length d) (proofA l i).1 ∧ Below w.heap.size w w' := by
  by_cases h : 0 ≤ i ∧ i < l.length
  · have he : proofA l i = (proofL l i.toNat, 0) := if_pos h
    obtain ⟨k, rfl⟩ := Int.eq_ofNat_of_zero_le h.1
    rw [he]
    obtain ⟨g, o, c', hc, hrow⟩ := hv.rows (by rintro rfl; simp at h; omega)
    obtain ⟨rfl, rfl⟩ : A = some ⟨g, o, none⟩ ∧ c = c' := by injection hc with h1 h2 h3; exact ⟨h1, h3⟩
    refine (proofR_rows l.length g o l.length c l k w hrow (Nat.le_refl _) hl (by omega) hs).mono ?_
    rintro e w' ⟨v', rfl, own, hb⟩
    have hL := listAt_own own
    obtain ⟨B, d, rfl⟩ := hL.len
    exact ⟨B, d, rfl, hL, hb⟩
  · have he : proofA l i = ([], 2) := if_neg h
    rw [he]
    refine (proofR_no A l.length c i w (by omega)).mono ?_
    rintro e w' ⟨rfl, rfl⟩
    exact ⟨none, 0, rfl, .inl ⟨rfl, _, _, rfl⟩, Below.refl _ _⟩

theorem ext_any (A : Option Addr) (c : Nat) (l : List (List UInt8)) (i : Int) (w : World) (hv : ListAt w (.slice A l.length c) l) (hl : l.length ≤ 1000) (hs : ∀ x ∈ l, x.length ≤ 900000) (hR : RoundOk w) :
    Calls Tryd.prog 14 #[.slice A l.length c, .int .i64 i] w fun e w' => ∃ B d, e = .returned (.tuple #[.slice B (extA l i).1.length d, .int .i64 (extA l i).2]) ∧ ListAt w' (.slice B (extA l i).1.length d) (extA l i).1 ∧ Below w.heap.size w w' := by
  by_cases h : 0 ≤ i ∧ i ≤ l.length
  · have he : extA l i = (extL l i.toNat, 0) := if_pos h
    obtain ⟨k, rfl⟩ := Int.eq_ofNat_of_zero_le h.1
    rw [he]
    exact ext_list _ l k w hv (by omega) (by omega) hs hR
  · have he : extA l i = ([], 2) := if_neg h
    rw [he]
    refine (ext_no A l.length c i w (by omega)).mono ?_
    rintro e w' ⟨rfl, rfl⟩
    exact ⟨none, 0, rfl, .inl ⟨rfl, _, _, rfl⟩, Below.refl _ _⟩

theorem extR_any (A : Option Addr) (c : Nat) (l : List (List UInt8)) (i : Int) (w : World) (hv : ListAt w (.slice A l.length c) l) (hl : l.length ≤ 1000) (hs : ∀ x ∈ l, x.length ≤ 900000) :
    Calls Tryd.prog 15 #[.slice A l.length c, .int .i64 i] w fun e w' => ∃ B d, e = .returned (.tuple #[.slice B (extA l i).1.length d, .int .i64 (extA l i).2]) ∧ ListAt w' (.slice B (extA l i).1.length d) (extA l i).1 ∧ Below w.heap.size w w' := by
  by_cases h : 0 ≤ i ∧ i ≤ l.length
  · have he : extA l i = (extL l i.toNat, 0) := if_pos h
    obtain ⟨k, rfl⟩ := Int.eq_ofNat_of_zero_le h.1
    rw [he]
    by_cases hk : k = 0
    · subst hk
      refine (extR_zero A l.length c w).mono ?_
      rintro e w' ⟨rfl, rfl⟩
      exact ⟨none, 0, rfl, .inl ⟨rfl, _, _, rfl⟩, Below.refl _ _⟩
    · obtain ⟨g, o, c', hc, hrow⟩ := hv.rows (by rintro rfl; simp at h; omega)
      obtain ⟨rfl, rfl⟩ : A = some ⟨g, o, none⟩ ∧ c = c' := by injection hc with h1 h2 h3; exact ⟨h1, h3⟩
      refine (extR_rows g o l.length c l k w hrow hl (by omega) (by omega) hs).mono ?_
      rintro e w' ⟨v', rfl, own, hb⟩
      have hL := listAt_own own
      obtain ⟨B, d, rfl⟩ := hL.len
      exact ⟨B, d, rfl, hL, hb⟩
  · have he : extA l i = ([], 2) := if_neg h
    rw [he]
    refine (extR_no A l.length c i w (by omega)).mono ?_
    rintro e w' ⟨rfl, rfl⟩
    exact ⟨none, 0, rfl, .inl ⟨rfl, _, _, rfl⟩, Below.refl _ _⟩

theorem rootR_nil (A : Option Addr) (c : Nat) (w : World) :
    Calls Tryd.prog 18 #[.slice A 0 c] w fun e w' => e = .returned (.string (str (rootL []))) ∧ Below w.heap.size w w' := by
  have h := sumR_str ⟨#[]⟩ [] rfl w (by simp)
  rw [rootL_nil]
  obtain ⟨R, hR⟩ : ∃ R, R = shaL [] := ⟨_, rfl⟩
  rw [← hR] at h ⊢
  clear hR
  have H := Lib.hid h
  clear h
  go_enter Tryd.func18, Tryd.ntmps18
  go_wp2_with fail
  refine H.out.mono ?_
  rintro e w1 ⟨rfl, b1⟩
  go_wp2_with fail
  go_ret
  exact ⟨rfl, b1⟩

theorem rootR_any (A : Option Addr) (c : Nat) (l : List (List UInt8)) (w : World) (hv : ListAt w (.slice A l.length c) l) (hs : ∀ x ∈ l, x.length ≤ 900000) :
    Calls Tryd.prog 18 #[.slice A l.length c] w fun e w' => e = .returned (.string (str (rootL l))) ∧ Below w.heap.size w w' := by
  by_cases h0 : l = []
  · subst h0
    exact rootR_nil A c w
  · obtain ⟨g, o, c', hc, hrow⟩ := hv.rows h0
    obtain ⟨rfl, rfl⟩ : A = some ⟨g, o, none⟩ ∧ c = c' := by injection hc with h1 h2 h3; exact ⟨h1, h3⟩
    exact rootR_rows l.length g o l.length c l w hrow (Nat.le_refl _) (by have := List.length_pos_iff.2 h0; omega) hs

set_option maxRecDepth 100000 in
set_option maxHeartbeats 8000000 in
theorem treeRef_any (v : Value) (i m : Int) (w : World) (hR : RoundOk w) (h0 : ∃ ss : List ByteArray, SliceAt w v (ss.map Value.string) ∧ ∀ s ∈ ss, s.size ≤ 9223372036854775807) :
    Calls Tryd.prog 3 #[v, .int .i64 i, .int .i64 m] w fun e w' => e = .returned (.bool true) ∧ Below w.heap.size w w' := by
  obtain ⟨ps, hvp, hps⟩ := h0
  obtain ⟨l, hl⟩ : ∃ l, l = fewL ps 40 := ⟨_, rfl⟩
  have hln : l.length ≤ 40 := by rw [hl]; exact fewL_length _ _
  have hls : ∀ x ∈ l, x.length ≤ 60 := by rw [hl]; exact fewL_short _ _
  have hls9 : ∀ x ∈ l, x.length ≤ 900000 := fun x hx => Nat.le_trans (hls x hx) (by omega)
  have hfp := fun W hW => few_ok v ps 40 40 rfl W hW hps (by decide)
  rw [← hl] at hfp
  have HFP := Lib.hid hfp
  have HVP := Lib.hid hvp
  have h1 := fun A c W hW hRW => proof_any A c l i W hW (by omega) hls9 hRW
  have h2 := fun A c W hW => proofR_any A c l i W hW (by omega) hls9
  have h3 := fun A c W hW hRW => ext_any A c l m W hW (by omega) hls9 hRW
  have h4 := fun A c W hW => extR_any A c l m W hW (by omega) hls9
  have h5 := fun vv W hW hRW => root_list vv l W hW (by omega) hls9 hRW
  have h6 := fun A c W hW => rootR_any A c l W hW hls9
  have hp40 : (proofA l i).1.length ≤ 1000 := by
    unfold proofA
    split
    · exact Nat.le_trans (proofL_le l.length l i.toNat (Nat.le_refl _)) (by omega)
    · simp
  have he40 : (extA l m).1.length ≤ 1000 := by
    unfold extA
    split
    · unfold extL
      split
      · simp
      · exact Nat.le_trans (partL_short l.length l m.toNat true 10 (Nat.le_refl _) (by omega) (by omega)) (by omega)
    · simp
  obtain ⟨P, hP⟩ : ∃ P, P = proofA l i := ⟨_, rfl⟩
  obtain ⟨E, hE⟩ : ∃ E, E = extA l m := ⟨_, rfl⟩
  obtain ⟨R, hRt⟩ : ∃ R, R = str (rootL l) := ⟨_, rfl⟩
  rw [← hP] at h1 h2 hp40
  rw [← hE] at h3 h4 he40
  rw [← hRt] at h5 h6
  have H1 := Lib.hid h1
  have H2 := Lib.hid h2
  have H3 := Lib.hid h3
  have H4 := Lib.hid h4
  have H5 := Lib.hid h5
  have H6 := Lib.hid h6
  clear h1 h2 h3 h4 h5 h6 hP hE hRt hl hls hls9 hfp hvp hps
  obtain ⟨P, pe⟩ := P
  obtain ⟨E, ee⟩ := E
  dsimp only at *
  go_enter Tryd.func3, Tryd.ntmps3
  go_wp2_with fail
  refine (sane_ok w hR).mono ?_
  rintro e w1 ⟨rfl, b1⟩
  go_wp2_with fail
  refine (HFP.out w1 (HVP.out.below b1)).mono ?_
  rintro e w2 ⟨v2, rfl, own2, b2⟩
  have hb2 := Below.next b1 b2
  have hL2 := listAt_own own2
  obtain ⟨A2, c2, rfl⟩ := hL2.len
  clear own2
  go_wp2_with fail
  refine (H1.out A2 c2 w2 hL2 (hR.later hb2)).mono ?_
  rintro e w3 ⟨A3, c3, rfl, hL3, b3⟩
  have hb3 := Below.next hb2 b3
  have hL23 := hL2.below b3
  clear hL2
  go_wp2_with fail
  refine (H2.out A2 c2 w3 hL23).mono ?_
  rintro e w4 ⟨A4, c4, rfl, hL4, b4⟩
  have hb4 := Below.next hb3 b4
  have hL24 := hL23.below b4
  have hL34 := hL3.below b4
  clear hL23 hL3
  go_wp2_with fail
  refine (H3.out A2 c2 w4 hL24 (hR.later hb4)).mono ?_
  rintro e w5 ⟨A5, c5, rfl, hL5, b5⟩
  have hb5 := Below.next hb4 b5
  have hL25 := hL24.below b5
  have hL35 := hL34.below b5
  have hL45 := hL4.below b5
  clear hL24 hL34 hL4
  go_wp2_with fail
  refine (H4.out A2 c2 w5 hL25).mono ?_
  rintro e w6 ⟨A6, c6, rfl, hL6, b6⟩
  have hb6 := Below.next hb5 b6
  have hL26 := hL25.below b6
  have hL36 := hL35.below b6
  have hL46 := hL45.below b6
  have hL56 := hL5.below b6
  clear hL25 hL35 hL45 hL5
  go_wp2_with fail
  have hs1 := same_ok A3 A4 c3 c4 P P w6 hL36 hL46 hp40
  rw [decide_eq_true (rfl : P = P)] at hs1
  refine hs1.mono ?_
  rintro e w7 ⟨rfl, b7⟩
  have hb7 := Below.next hb6 b7
  have hL27 := hL26.below b7
  have hs2 := same_ok A5 A6 c5 c6 E E w7 (hL56.below b7) (hL6.below b7) he40
  rw [decide_eq_true (rfl : E = E)] at hs2
  have HS2 := Lib.hid hs2
  clear hs1 hs2 hL26 hL36 hL46 hL56 hL6
  go_wp2_with fail
  refine HS2.out.mono ?_
  rintro e w8 ⟨rfl, b8⟩
  have hb8 := Below.next hb7 b8
  have hL28 := hL27.below b8
  go_wp2_with fail
  refine (H5.out _ w8 hL28 (hR.later hb8)).mono ?_
  rintro e w9 ⟨rfl, b9⟩
  have hb9 := Below.next hb8 b9
  have hL29 := hL28.below b9
  go_wp2_with fail
  refine (H6.out A2 c2 w9 hL29).mono ?_
  rintro e w10 ⟨rfl, b10⟩
  have hb10 := Below.next hb9 b10
  go_wp2_with fail
  go_ret
  exact ⟨rfl, hb10⟩
end Go.Proofs.YtednkommpmdikaaDoor
