/- The law's heads; the reference's Same. -/
import Derived.Test.YtednkommpmdikaaDoorDgH
namespace Go.Proofs.YtednkommpmdikaaDoor
open Go Go.RowKit
attribute [local go_sem] Oper.semAt_some

/-- 32 zero bytes -/
def zero32 : List UInt8 := List.replicate 32 0

theorem headsL_short (l : List (List UInt8)) (hl : ∀ x ∈ l, x.length ≤ 60) : ∀ z ∈ (headsL zero32 l).1, z.length ≤ 900000 := by
  induction l with
  | nil => intro z hz; simp [headsL] at hz
  | cons x r ih =>
    intro z hz
    have h1 := hl x (by simp)
    have h2 := headsL_len zero32 rfl r
    rcases List.mem_cons.1 hz with rfl | hz
    · rw [List.length_cons, List.length_append, h2]; omega
    · exact ih (fun y hy => hl y (by simp [hy])) z hz

def zeroCells : Array Value := madeCells #[.int .u8 0] 32
theorem zeroCells_eq : zeroCells.toList = bv zero32 := by
  unfold zeroCells; rw [madeCells_one]; rfl
theorem run_make32 (w : World) : (Instr.makeSlice 45 (.int .i64 32) (.int .i64 32)).run Tryd.prog w = .ok (.slice (some ⟨w.heap.size, 0, none⟩) 32 32) (w.alloc (.cells zeroCells 5)) := by kernel_rfl
theorem run_conv32 {W : World} {g : Nat} (h : BlkIs W g 5 zeroCells.toList) : (convert 45 9 (.slice (some ⟨g, 0, none⟩) 32 32)).run Tryd.prog W = .ok (.string (str zero32)) W := by
  rw [zeroCells_eq] at h
  exact run_convert_blk (l := zero32) (more := []) 45 9 5 Tryd.underlying45 Tryd.underlying5 Tryd.underlying9 (by rw [List.append_nil]; exact h)

set_option maxRecDepth 100000 in
set_option maxHeartbeats 4000000 in
theorem heads_ok (A : Option Addr) (c : Nat) (l : List (List UInt8)) (w : World) (hv : ListAt w (.slice A l.length c) l) (hl : l.length ≤ 100) (hs : ∀ x ∈ l, x.length ≤ 60) (hR : RoundOk w) :
    Calls Tryd.prog 34 #[.slice A l.length c] w fun e w' => ∃ v', e = .returned (.tuple #[v', .string (str (headsL zero32 l.reverse).2)]) ∧ w'.ownsRow w.heap.size 9 1 v' (headsL zero32 l.reverse).1.length (svs (headsL zero32 l.reverse).1) ∧ Below w.heap.size w w' := by
  obtain ⟨i0, hi0, hz0, hz1, hz2⟩ := info_str
  have HS := Lib.hid hs
  have hmk := run_make32
  have hcv := fun w : World => run_conv32 (BlkIs.new w 5 zeroCells)
  clear hs
  go_enter Tryd.func34, Tryd.ntmps34
  go_wp2_with fail
  have hb0 : Below w.heap.size w (w.alloc (.cells zeroCells 5)) := (Below.refl _ _).alloc (Nat.le_refl _) _
  clear hmk hcv
  go_loopw [4, 5, 6] (fun hv' ov iv wr => ∃ k : Nat, k ≤ l.length ∧ iv = .int .i64 k ∧ hv' = .string (str (headsL zero32 (l.take k).reverse).2) ∧ wr.ownsRow w.heap.size 9 1 ov k (svs (headsL zero32 (l.take k).reverse).1) ∧ Below w.heap.size w wr) (fun _ _ iv _ => l.length - (intOf iv).toNat)
  case atStart => exact ⟨0, by omega, rfl, rfl, World.ownsRow_nil _ _ _ 1, hb0⟩
  case round =>
    obtain ⟨k, hk, rfl, rfl, hown, hb⟩ := hrel
    by_cases h1 : k < l.length
    · have t1 : decide (k < l.length) = true := by simpa using h1
      obtain ⟨g, o, x, rfl, hx, hg, cx0⟩ := hv.at_ h1
      have cx := (hb.cell (p := ⟨g, o + k, none⟩) hg).trans cx0
      have q0 : (0 : Int) ≤ (k : Int) := by omega
      have q1 : (k : Int) < (l.length : Int) := by omega
      have sx := HS.out x (List.mem_of_getElem? hx)
      obtain ⟨V, hV⟩ : ∃ V, V = (headsL zero32 (l.take k).reverse).2 := ⟨_, rfl⟩
      obtain ⟨O, hO⟩ : ∃ O, O = (headsL zero32 (l.take k).reverse).1 := ⟨_, rfl⟩
      have V32 : V.length ≤ 32 := by rw [hV, headsL_len zero32 rfl]; omega
      have hnx : headsL zero32 (l.take (k + 1)).reverse = ((2 :: (V ++ x)) :: O, chainL V x) := by
        rw [List.take_add_one, hx, Option.toList_some, List.reverse_append, List.reverse_singleton, List.singleton_append, hV, hO]
        rfl
      rw [← hO] at hown
      rw [← hV]
      have HN := Lib.hid hnx
      have hle := hb.size
      have CX0 := Lib.hid cx0
      clear hV hO hnx cx0 hx
      go_wp2_with (at_builtin; refine wpList_append_rows rfl _ _ 22 rfl w.heap.size 9 i0 (.string ⟨#[]⟩) 16 Tryd.underlying22 hi0 hz0 hz1 hz2 rfl (.slice (some ⟨wr.heap.size, 0, none⟩) 1 1) 1 _ rfl (own_new wr 9 (.string ((⟨#[2]⟩ : ByteArray) ++ str V ++ str x)) w.heap.size hle) w.heap.size u5 k (svs O) rfl (hown.alloc _) (svs_one O) (by unfold maxLen; omega) (by omega) (by simp; omega) ?_; intro v3 w3 own3 g3; have hb3 : Below w.heap.size w w3 := (hb.alloc hle _).grown g3 (by rw [World.size_alloc]; omega) (fun j e => by simp [Value.ownBlock] at e; omega); have cx3 : w3.cell? ⟨g, o + k, none⟩ = some (.string (str x)) := (hb3.cell (p := ⟨g, o + k, none⟩) hg).trans CX0.out)
      rw [cat3] at own3
      refine (chain_ok (str V) (str x) w3 (by rw [size_mk, size_mk]; omega) (hR.later hb3)).mono ?_
      rintro e w4 ⟨rfl, b4⟩
      have own4 := ownsRow_below b4 own3
      have hb4 := Below.next hb3 b4
      rw [mk_toList, mk_toList]
      clear own3 g3 hown hb cx cx3
      rw [Nat.add_comm 1 k] at own4
      go_wp2_with fail
      exact ⟨⟨k + 1, by omega, by go_num, by rw [HN.out], by rw [HN.out]; exact own4, hb4⟩, by simp [intOf]; omega⟩
    · have t1 : decide (k < l.length) = false := by simpa using h1
      have hkl : k = l.length := by omega
      have hal : l.take k = l := by rw [hkl, List.take_length]
      rw [hal] at hown ⊢
      have hln : k = (headsL zero32 l.reverse).1.length := by rw [headsL_count, List.length_reverse]; exact hkl
      rw [hln] at hown
      clear hkl hal hln
      go_wp2_with fail
      go_ret2
      exact ⟨_, rfl, hown, hb⟩

theorem same_ok (A B : Option Addr) (c d : Nat) (a b : List (List UInt8)) (w : World) (ha : ListAt w (.slice A a.length c) a) (hb : ListAt w (.slice B b.length d) b) (la : a.length ≤ 1000) :
    Calls Tryd.prog 16 #[.slice A a.length c, .slice B b.length d] w fun e w' => e = .returned (.bool (decide (a = b))) ∧ Below w.heap.size w w' := by
  obtain ⟨R, hRR⟩ : ∃ R, R = decide (a = b) := ⟨_, rfl⟩
  rw [← hRR]
  by_cases hlen : a.length = b.length
  · have t1 : ((a.length : Int) != (b.length : Int)) = false := by simp; omega
    have t2 : (a.length != b.length) = false := by simp; omega
    have HRR := Lib.hid hRR
    have HLEN := Lib.hid hlen
    clear hRR hlen
    go_enter Tryd.func16, Tryd.ntmps16
    go_wp2_with fail
    go_loopw [5] (fun kv wr => ∃ k : Nat, k ≤ a.length ∧ kv = .int .i64 k ∧ Hid (a.take k = b.take k) ∧ Below w.heap.size w wr) (fun kv _ => a.length - (intOf kv).toNat)
    case atStart => exact ⟨0, by omega, rfl, Lib.hid rfl, Below.refl _ _⟩
    case round =>
      obtain ⟨k, hk, rfl, HK, hbl⟩ := hrel
      clear t1 t2
      by_cases h1 : k < a.length
      · have t1 : decide (k < a.length) = true := by simpa using h1
        obtain ⟨ga, oa, x, rfl, hx, hga, cx0⟩ := ha.at_ h1
        obtain ⟨gb, ob, y, rfl, hy, hgb, cy0⟩ := hb.at_ (show k < b.length by rw [← HLEN.out]; exact h1)
        have cx := (hbl.cell (p := ⟨ga, oa + k, none⟩) hga).trans cx0
        have cy := (hbl.cell (p := ⟨gb, ob + k, none⟩) hgb).trans cy0
        have q0 : (0 : Int) ≤ (k : Int) := by omega
        have q1 : (k : Int) < (a.length : Int) := by omega
        have q2 : (k : Int) < (b.length : Int) := by have := HLEN.out; omega
        by_cases hxy : x = y
        · have HN : Hid (a.take (k + 1) = b.take (k + 1)) := Lib.hid (by rw [List.take_add_one, List.take_add_one, hx, hy, HK.out, hxy])
          subst hxy
          clear hx hy cx0 cy0
          go_wp2_with fail
          go_quiet (fail)
          have hb2 : Below w.heap.size w (wr.drewN nq) := below_drewN' hbl nq
          go_wp2_with fail
          exact ⟨⟨k + 1, by omega, by go_num, HN, hb2⟩, by simp [intOf]; omega⟩
        · have t3 : (x == y) = false := by simpa using hxy
          have HF : Hid (R = false) := Lib.hid (by
            rw [HRR.out]
            refine decide_eq_false fun e => hxy ?_
            rw [e, hy] at hx
            exact (Option.some.inj hx).symm)
          clear hx hy cx0 cy0 hxy
          go_wp2_with fail
          go_quiet (fail)
          have hb2 : Below w.heap.size w (wr.drewN nq) := below_drewN' hbl nq
          go_wp2_with fail
          go_ret
          exact ⟨(congrArg (fun b => Ending.returned (Value.bool b)) HF.out).symm, hb2⟩
      · have t1 : decide (k < a.length) = false := by simpa using h1
        have HF : Hid (R = true) := Lib.hid (by
          rw [HRR.out]
          refine decide_eq_true ?_
          have h := HK.out
          rw [List.take_of_length_le (by omega), List.take_of_length_le (by have := HLEN.out; omega)] at h
          exact h)
        go_wp2_with fail
        go_ret
        exact ⟨(congrArg (fun b => Ending.returned (Value.bool b)) HF.out).symm, hbl⟩
  · have t1 : ((a.length : Int) != (b.length : Int)) = true := by simp; omega
    have t2 : (a.length != b.length) = true := by simpa using hlen
    have HF : Hid (R = false) := Lib.hid (by rw [hRR]; exact decide_eq_false fun e => hlen (by rw [e]))
    clear hRR hlen
    go_enter Tryd.func16, Tryd.ntmps16
    go_wp2_with fail
    go_ret
    exact ⟨(congrArg (fun b => Ending.returned (Value.bool b)) HF.out).symm, Below.refl _ _⟩
end Go.Proofs.YtednkommpmdikaaDoor
