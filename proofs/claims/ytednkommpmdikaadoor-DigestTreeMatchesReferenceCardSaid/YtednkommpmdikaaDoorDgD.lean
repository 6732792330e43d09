/- sane: the fixed examples hold. -/
import Derived.Test.YtednkommpmdikaaDoorDgC
namespace Go.Proofs.YtednkommpmdikaaDoor
open Go Go.RowKit
attribute [local go_sem] Oper.semAt_some

theorem abc_ver_at {W : World} {v : Value} (hv : ListAt W v (proofL abc 2)) (hR : RoundOk W) :
    Calls Tryd.prog 21 #[.string (str (rootL abc)), .int .i64 3, .int .i64 2, .string ⟨#[99]⟩, v] W fun e w' => e = .returned (.bool true) ∧ Below W.heap.size W w' := by
  have h := ver_ok (str (rootL abc)) ⟨#[99]⟩ 3 2 v (proofL abc 2) W hv (by decide) (by decide) (by rw [abc_proof_len]; decide) (by rw [List.all_eq_true]; intro x hx; simpa using proofL_len32 3 abc 2 (by decide) x hx) (by decide) hR
  have e : verB (str (rootL abc)).data.toList ((3 : Nat) : Int) ((2 : Nat) : Int) (⟨#[99]⟩ : ByteArray).data.toList (proofL abc 2) = true := abc_ver
  rw [e] at h
  exact h
theorem abc_ver_not_at {W : World} {v : Value} (hv : ListAt W v (proofL abc 2)) (hR : RoundOk W) :
    Calls Tryd.prog 21 #[.string (str (rootL abc)), .int .i64 3, .int .i64 2, .string ⟨#[100]⟩, v] W fun e w' => e = .returned (.bool false) ∧ Below W.heap.size W w' := by
  have h := ver_ok (str (rootL abc)) ⟨#[100]⟩ 3 2 v (proofL abc 2) W hv (by decide) (by decide) (by rw [abc_proof_len]; decide) (by rw [List.all_eq_true]; intro x hx; simpa using proofL_len32 3 abc 2 (by decide) x hx) (by decide) hR
  have e : verB (str (rootL abc)).data.toList ((3 : Nat) : Int) ((2 : Nat) : Int) (⟨#[100]⟩ : ByteArray).data.toList (proofL abc 2) = false := abc_ver_not
  rw [e] at h
  exact h
theorem abc_ext_at {W : World} {v : Value} (hv : ListAt W v (extL abc 1)) (hR : RoundOk W) :
    Calls Tryd.prog 20 #[.string (str (rootL [[97]])), .int .i64 1, .string (str (rootL abc)), .int .i64 3, v] W fun e w' => e = .returned (.bool true) ∧ Below W.heap.size W w' := by
  have h := vx_ok (str (rootL [[97]])) (str (rootL abc)) 1 3 v (extL abc 1) W hv (by decide) (by decide) (by decide) (by rw [abc_ext_len]; decide) (by rw [List.all_eq_true]; intro x hx; simpa using extL_len32 abc 1 x hx) (by rw [size_mk]; rfl) (by rw [size_mk]; rfl) hR
  have e : extB (str (rootL [[97]])).data.toList ((1 : Nat) : Int) (str (rootL abc)).data.toList ((3 : Nat) : Int) (extL abc 1) = true := abc_ext
  rw [e] at h
  exact h
theorem abc_ext_not_at {W : World} {v : Value} (hv : ListAt W v (extL abc 1)) (hR : RoundOk W) :
    Calls Tryd.prog 20 #[.string (str (rootL [[97], [98]])), .int .i64 1, .string (str (rootL abc)), .int .i64 3, v] W fun e w' => e = .returned (.bool false) ∧ Below W.heap.size W w' := by
  have h := vx_ok (str (rootL [[97], [98]])) (str (rootL abc)) 1 3 v (extL abc 1) W hv (by decide) (by decide) (by decide) (by rw [abc_ext_len]; decide) (by rw [List.all_eq_true]; intro x hx; simpa using extL_len32 abc 1 x hx) (by rw [size_mk]; rfl) (by rw [size_mk]; rfl) hR
  have e : extB (str (rootL [[97], [98]])).data.toList ((1 : Nat) : Int) (str (rootL abc)).data.toList ((3 : Nat) : Int) (extL abc 1) = false := abc_ext_not
  rw [e] at h
  exact h
theorem abc_hex0 (W : World) : Calls Tryd.prog 35 #[.string (str (shaL []))] W fun e w' => e = .returned (.string (str [101, 51, 98, 48, 99, 52, 52, 50, 57, 56, 102, 99, 49, 99, 49, 52, 57, 97, 102, 98, 102, 52, 99, 56, 57, 57, 54, 102, 98, 57, 50, 52, 50, 55, 97, 101, 52, 49, 101, 52, 54, 52, 57, 98, 57, 51, 52, 99, 97, 52, 57, 53, 57, 57, 49, 98, 55, 56, 53, 50, 98, 56, 53, 53])) ∧ Below W.heap.size W w' := by
  have h := hex_ok (str (shaL [])) W (by rw [size_mk]; decide)
  rw [mk_toList, hex_empty] at h
  exact h
theorem abc_hex1 (W : World) : Calls Tryd.prog 35 #[.string (str (shaL [97, 98, 99]))] W fun e w' => e = .returned (.string (str [98, 97, 55, 56, 49, 54, 98, 102, 56, 102, 48, 49, 99, 102, 101, 97, 52, 49, 52, 49, 52, 48, 100, 101, 53, 100, 97, 101, 50, 50, 50, 51, 98, 48, 48, 51, 54, 49, 97, 51, 57, 54, 49, 55, 55, 97, 57, 99, 98, 52, 49, 48, 102, 102, 54, 49, 102, 50, 48, 48, 49, 53, 97, 100])) ∧ Below W.heap.size W w' := by
  have h := hex_ok (str (shaL [97, 98, 99])) W (by rw [size_mk]; decide)
  rw [mk_toList, hex_abc] at h
  exact h
theorem abc_short : ∀ x ∈ abc, x.length ≤ 900000 := by decide
theorem abc_rows (w : World) : RowsAt (w.alloc (.cells #[.string ⟨#[97]⟩, .string ⟨#[98]⟩, .string ⟨#[99]⟩] 9)) w.heap.size 0 3 3 abc := by
  have hb := BlkIs.new w 9 #[.string ⟨#[97]⟩, .string ⟨#[98]⟩, .string ⟨#[99]⟩]
  refine ⟨rfl, by decide, by decide, by rw [World.size_alloc]; omega, fun j x hx => ?_⟩
  rw [Nat.zero_add, hb.cell]
  match j, hx with
  | 0, hx => cases hx; rfl
  | 1, hx => cases hx; rfl
  | 2, hx => cases hx; rfl
  | j + 3, hx => simp [abc] at hx

theorem listAt_one {w : World} {base : Nat} {v : Value} {l : List (List UInt8)} {n : Nat} (h : w.ownsRow base 9 1 v l.length (svs l)) (hn : l.length = n + 1) : ∃ g c, v = .slice (some ⟨g, 0, none⟩) (n + 1) c := by
  obtain ⟨g, cap, cs, rfl, _⟩ := ownsRow_blk h (by omega)
  exact ⟨g, cap, by rw [hn]⟩

set_option maxRecDepth 100000 in
set_option maxHeartbeats 4000000 in
theorem sane_ok (w : World) (hR : RoundOk w) : Calls Tryd.prog 10 #[] w fun e w' => e = .returned (.bool true) ∧ Below w.heap.size w w' := by
  have hrow := abc_rows w
  have hb1 : Below w.heap.size w (w.alloc (.cells #[.string ⟨#[97]⟩, .string ⟨#[98]⟩, .string ⟨#[99]⟩] 9)) := (Below.refl _ _).alloc (Nat.le_refl _) _
  obtain ⟨G, hG⟩ : ∃ G, G = w.heap.size := ⟨_, rfl⟩
  go_enter Tryd.func10, Tryd.ntmps10
  go_wp2_with fail
  rw [← hG] at hrow ⊢
  generalize (w.alloc (.cells #[.string ⟨#[97]⟩, .string ⟨#[98]⟩, .string ⟨#[99]⟩] 9)) = w1 at *
  have HG := Lib.hid hG
  clear hG
  have hbw : Below w.heap.size w w1 := HG.out ▸ hb1
  clear hb1
  refine (proof_ok G 0 3 3 abc 2 w1 hrow (by decide) (by decide) abc_short (hR.later hbw)).mono ?_
  rintro e w2 ⟨v2, rfl, own2, b2⟩
  obtain ⟨g2, c2, rfl⟩ := listAt_one own2 abc_proof_len
  have L2 := listAt_own own2
  have hb2 := Below.next hbw b2
  have hrow2 := hrow.below b2
  clear own2 hrow
  go_wp2_with fail
  refine (ext_ok G 0 3 3 abc 1 w2 hrow2 (by decide) (by decide) (by decide) abc_short (hR.later hb2)).mono ?_
  rintro e w3 ⟨v3, rfl, own3, b3⟩
  obtain ⟨g3, c3, rfl⟩ := listAt_one own3 abc_ext_len
  have L3 := listAt_own own3
  have hb3 := Below.next hb2 b3
  have L23 := L2.below b3
  have hrow3 := hrow2.below b3
  clear own3 hrow2 L2
  go_wp2_with fail
  refine (proof_no (some ⟨G, 0, none⟩) 3 3 3 w3 (.inr (by decide))).mono ?_
  rintro e w4 ⟨rfl, rfl⟩
  go_wp2_with fail
  refine (root_ok _ abc w3 hrow3.slice (by decide) abc_short (hR.later hb3)).mono ?_
  rintro e w5 ⟨rfl, b5⟩
  have hb5 := Below.next hb3 b5
  have L25 := L23.below b5
  have L35 := L3.below b5
  have hrow5 := hrow3.below b5
  clear hrow3 L23 L3
  go_wp2_with fail
  refine (sum_ok ⟨#[]⟩ w5 (by decide) (hR.later hb5)).mono ?_
  rintro e w6 ⟨rfl, b6⟩
  have hb6 := Below.next hb5 b6
  go_wp2_with fail
  refine (abc_hex0 w6).mono ?_
  rintro e w7 ⟨rfl, b7⟩
  have hb7 := Below.next hb6 b7
  go_wp2_with fail
  refine (sum_ok ⟨#[97, 98, 99]⟩ w7 (by decide) (hR.later hb7)).mono ?_
  rintro e w8 ⟨rfl, b8⟩
  have hb8 := Below.next hb7 b8
  go_wp2_with fail
  refine (abc_hex1 w8).mono ?_
  rintro e w9 ⟨rfl, b9⟩
  have hb9 := Below.next hb8 b9
  have b59 : Below w5.heap.size w5 w9 := Below.next (Below.next (Below.next b6 b7) b8) b9
  have L29 : ListAt w9 (.slice (some ⟨g2, 0, none⟩) 1 c2) (proofL abc 2) := L25.below b59
  have L39 : ListAt w9 (.slice (some ⟨g3, 0, none⟩) 2 c3) (extL abc 1) := L35.below b59
  have hrow9 := hrow5.below b59
  clear hrow5 L25 L35
  go_wp2_with fail
  refine (abc_ver_at L29 (hR.later hb9)).mono ?_
  rintro e w10 ⟨rfl, b10⟩
  have hb10 := Below.next hb9 b10
  have L210 := L29.below b10
  go_wp2_with fail
  refine (abc_ver_not_at L210 (hR.later hb10)).mono ?_
  rintro e w11 ⟨rfl, b11⟩
  have hb11 := Below.next hb10 b11
  have b911 := Below.next b10 b11
  have hrow11 := hrow9.below b911
  have L311 := L39.below b911
  clear L29 L210 L39 hrow9
  go_wp2_with fail
  refine (root_ok _ [[97]] w11 (hrow11.take 1 (by decide)).slice (by decide) (by decide) (hR.later hb11)).mono ?_
  rintro e w12 ⟨rfl, b12⟩
  have hb12 := Below.next hb11 b12
  have hrow12 := hrow11.below b12
  have L312 := L311.below b12
  go_wp2_with fail
  refine (abc_ext_at L312 (hR.later hb12)).mono ?_
  rintro e w13 ⟨rfl, b13⟩
  have hb13 := Below.next hb12 b13
  have hrow13 := hrow12.below b13
  have L313 := L312.below b13
  clear hrow11 hrow12 L311 L312
  go_wp2_with fail
  refine (root_ok _ [[97], [98]] w13 (hrow13.take 2 (by decide)).slice (by decide) (by decide) (hR.later hb13)).mono ?_
  rintro e w14 ⟨rfl, b14⟩
  have hb14 := Below.next hb13 b14
  have L314 := L313.below b14
  go_wp2_with fail
  refine (abc_ext_not_at L314 (hR.later hb14)).mono ?_
  rintro e w15 ⟨rfl, b15⟩
  have hb15 := Below.next hb14 b15
  go_wp2_with fail
  go_ret
  exact ⟨rfl, hb15⟩
end Go.Proofs.YtednkommpmdikaaDoor
