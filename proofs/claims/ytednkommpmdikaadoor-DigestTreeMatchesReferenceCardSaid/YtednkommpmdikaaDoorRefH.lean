/- The reference's Sum. -/
import Derived.Test.YtednkommpmdikaaDoorRefD
import Derived.Test.YtednkommpmdikaaDoorRefG
namespace Go.Proofs.YtednkommpmdikaaDoor
open Go Go.RowKit
attribute [local go_sem] Oper.semAt_some

theorem padL_blocks (l : List UInt8) : ∃ N, (padL l).length = 64 * N ∧ 1 ≤ N ∧ 64 * N ≤ l.length + 72 := by
  have h : (padL l).length = l.length + (1 + (119 - l.length % 64) % 64) + 8 := by
    unfold padL
    rw [List.length_append, List.length_append, List.length_cons, List.length_replicate, be8_len]
    omega
  exact ⟨(padL l).length / 64, by omega, by omega, by omega⟩

theorem outL_succ (V : V8) (i x : Nat) (h : V.toL[i]? = some x) : (outL V).take (4 * (i + 1)) = (outL V).take (4 * i) ++ be4L x := by
  have hi : i < 8 := (List.getElem?_eq_some_iff.1 h).1
  have h8 : i = 0 ∨ i = 1 ∨ i = 2 ∨ i = 3 ∨ i = 4 ∨ i = 5 ∨ i = 6 ∨ i = 7 := by omega
  rcases h8 with rfl | rfl | rfl | rfl | rfl | rfl | rfl | rfl <;> (simp [V8.toL] at h; subst h; rfl)
theorem outL_all (V : V8) : (outL V).take (4 * 8) = outL V := rfl

theorem byte_of (m : Nat) : (m : Int) % 256 = (((UInt8.ofNat m).toNat : Nat) : Int) := by
  rw [UInt8.toNat_ofNat', Int.natCast_emod]; rfl

set_option maxRecDepth 100000 in
set_option maxHeartbeats 8000000 in
theorem sumR_ok (s : ByteArray) (w : World) (hs : s.size ≤ 1000000) :
    Calls Tryd.prog 29 #[.string s] w fun e w' => e = .returned (.string (str (shaL s.data.toList))) ∧ Below w.heap.size w w' := by
  obtain ⟨i0, hi0, hz0, hz1, hz2⟩ := info_parts Tryd.infoU8
  obtain ⟨l, hl⟩ : ∃ l, l = s.data.toList := ⟨_, rfl⟩
  have ll : l.length = s.size := by rw [hl]; simp
  have hex := fun W => extended_ok s W hs
  rw [← hl] at hex ⊢
  obtain ⟨N, hN, hNp, hN2⟩ := padL_blocks l
  have hbs : bst (padL l) N = blocksN ((padL l).length / 64) iv (padL l) := by rw [bst_eq, hN]; congr 1; omega
  have hsh : shaL l = outL (bst (padL l) N) := by rw [hbs]; rfl
  rw [hsh]
  obtain ⟨p, hp⟩ : ∃ p, p = padL l := ⟨_, rfl⟩
  obtain ⟨n, hn⟩ : ∃ n, n = 64 * N := ⟨_, rfl⟩
  rw [← hp] at hex hN ⊢
  have hpn : p.length = n := by omega
  rw [hpn] at hex
  have hnb : n ≤ 1000100 := by omega
  obtain ⟨V, hV⟩ : ∃ V, V = bst p N := ⟨_, rfl⟩
  rw [← hV]
  have HV := Lib.hid hV
  have hVo : V8Ok V := by rw [hV]; exact bst_ok p N
  have HVO := Lib.hid hVo
  clear hVo hV
  have HPN := Lib.hid hpn
  have HEX := Lib.hid hex
  have HN := Lib.hid hn
  clear hex hN hN2 hbs hsh hp hn hpn hl ll hs
  go_enter Tryd.func29, Tryd.ntmps29
  go_wp2_with fail
  have hr := World.ownsRow_lit (e := 64) (size := 1) (base := w.heap.size) w (uv iv.toL).toArray 8 (Nat.le_refl _) (by unfold maxLen; omega) (by simp [uv, V8.toL])
  refine (HEX.out _).mono ?_
  rintro e w2 ⟨v2, rfl, own2, b2⟩
  have hr2 := ownsRow_below b2 hr
  have hb2 : Below w.heap.size w w2 := ((Below.refl w.heap.size w).alloc (Nat.le_refl _) _).trans (b2.mono (by rw [World.size_alloc]; omega))
  rw [World.size_alloc] at own2
  obtain ⟨o1, o2⟩ := id own2
  rcases o2 with ⟨-, h0⟩ | ⟨gp, cp, cur, rfl, hgb, hcur, hnc, hcm, -, -⟩
  · have hn0 := HN.out
    omega
  have hgp : gp < w2.heap.size := (Array.getElem?_eq_some_iff.1 hcur).1
  have hcm2 : cp ≤ 9223372036854775807 := by unfold maxLen at hcm; omega
  have OWN2 := Lib.hid own2
  clear own2 o1 hcur hcm b2 hr
  go_wp2_with fail
  go_loopw [3, 5] (fun hv iv wr => ∃ k : Nat, k ≤ N ∧ iv = .int .i64 ((64 * k : Nat) : Int) ∧ wr.ownsRow w.heap.size 64 1 hv 8 (uv (bst p k).toL) ∧ Below w2.heap.size w2 wr) (fun _ iv _ => n - (intOf iv).toNat)
  case atStart => exact ⟨0, by omega, rfl, hr2, Below.refl _ _⟩
  case round =>
    clear hr2
    obtain ⟨k, hk, rfl, hown, hb⟩ := hrel
    obtain ⟨K, hK⟩ : ∃ K, K = 64 * k := ⟨_, rfl⟩
    rw [← hK]
    obtain ⟨gh, ch, rfl, hg0, hg1⟩ := World.ownsRow.form hown (by omega)
    have hn := HN.out
    by_cases hkN : k < N
    · have t0 : decide (K < n) = true := by simp; omega
      obtain ⟨K2, hK2⟩ : ∃ K2, K2 = K + 64 := ⟨_, rfl⟩
      have e1 : (K : Int) + 64 = (K2 : Int) := by omega
      have q1 : (0 : Int) ≤ (K : Int) := by omega
      have q2 : (K : Int) ≤ (K2 : Int) := by omega
      have q3 : (K2 : Int) ≤ (cp : Int) := by omega
      have q4 : K2 - K = 64 := by omega
      have u1 : IntKind.i64.wrap (K2 : Int) = (K2 : Int) := IntWalk.i64_in _ (by omega)
      have hbl : ((p.drop K).take 64).length = 64 := by rw [List.length_take, List.length_drop, HPN.out]; omega
      have hbc : ∀ (j : Nat) (c : UInt8), ((p.drop K).take 64)[j]? = some c → wr.cell? ⟨gp, K + j, none⟩ = some (.int .u8 (c.toNat : Int)) := by
        intro j c hj
        have hj64 : j < 64 := by rw [← hbl]; exact (List.getElem?_eq_some_iff.1 hj).1
        rw [hb.cell hgp]
        rw [List.getElem?_take_of_lt hj64, List.getElem?_drop] at hj
        exact ownsRow_cell OWN2.out (K + j) _ (by unfold bv; rw [List.getElem?_map, hj]; rfl)
      have hst : bst p (k + 1) = compress (bst p k) ((p.drop K).take 64) := by rw [hK]; rfl
      have hblk := fun cc => block_ok gh ch (bst p k) (bst_ok p k) gp K cc ((p.drop K).take 64) wr hbl hbc (fun j x hj => (hown.cellAt j (by have := (List.getElem?_eq_some_iff.1 hj).1; simp [V8.toL] at this; omega)).trans (uv_get _ _ hj))
      rw [← hst] at hblk
      have HBLK := Lib.hid hblk
      have hK3 : K2 = 64 * (k + 1) := by omega
      have hK4 : n - K2 < n - K := by omega
      have hle := hb.size
      have hlw := hb2.size
      have HK3 := Lib.hid hK3
      clear hK hK2 hst hbl hbc hblk hn hK3 hown hg1
      go_wp2_with fail
      refine (HBLK.out _).mono ?_
      rintro e w4 ⟨v4, rfl, own4, b4⟩
      have own5 := own_mono own4 (Nat.le_trans hlw hle)
      have hb4 := Below.next hb b4
      go_wp2_with fail
      exact ⟨⟨k + 1, by omega, by rw [HK3.out], own5, hb4⟩, by simp [intOf]; omega⟩
    · have hkN' : k = N := by omega
      have t0 : decide (K < n) = false := by simp; omega
      obtain ⟨wz, rfl⟩ : ∃ wz : World, wz = wr := ⟨_, rfl⟩
      rw [hkN'] at hown
      rw [← HV.out] at hown
      have hcs : ∀ (j z : Nat), V.toL[j]? = some z → wz.cell? ⟨gh, j, none⟩ = some (.int .u32 (z : Int)) := fun j z hz => (hown.cellAt j (by have := (List.getElem?_eq_some_iff.1 hz).1; simp [V8.toL] at this; omega)).trans (uv_get _ _ hz)
      have HCS := Lib.hid hcs
      have hbz := Below.next hb2 hb
      clear hcs hown hK hkN hkN' hk hn
      go_wp2_with fail
      go_loopw [6, 7] (fun ov iv wr => ∃ i : Nat, i ≤ 8 ∧ iv = .int .i64 i ∧ wr.ownsRow wz.heap.size 5 1 ov (4 * i) (bv ((outL V).take (4 * i))) ∧ Below wz.heap.size wz wr) (fun _ iv _ => 8 - (intOf iv).toNat)
      case atStart => exact ⟨0, by omega, rfl, World.ownsRow_nil _ _ _ 1, Below.refl _ _⟩
      case round =>
        clear hb
        obtain ⟨i, i1, rfl, hown, hb⟩ := hrel
        by_cases hi8 : i < 8
        · obtain ⟨x, hx⟩ : ∃ x, V.toL[i]? = some x := ⟨_, List.getElem?_eq_getElem (by simpa [V8.toL] using hi8)⟩
          have cx : wr.cell? ⟨gh, i, none⟩ = some (.int .u32 (x : Int)) := (hb.cell hg1).trans (HCS.out i x hx)
          have hxl := HVO.out x (List.mem_of_getElem? hx)
          have hne1 : u6.ownBlock ≠ some gh := by
            intro e
            have := World.ownsRow_base hown e
            omega
          have hos := outL_succ V i x hx
          have hbs : bv ((outL V).take (4 * i)) ++ [.int .u8 ((x / 16777216 : Nat) % 256 : Int), .int .u8 ((x / 65536 : Nat) % 256 : Int), .int .u8 ((x / 256 : Nat) % 256 : Int), .int .u8 ((x : Nat) % 256 : Int)] = bv ((outL V).take (4 * (i + 1))) := by
            rw [hos, bv_append]
            congr 1
          have HBS := Lib.hid hbs
          have n0 : (0 : Int) ≤ (i : Int) := by omega
          have n1 : (i : Int) < 8 := by omega
          have t1 : decide ((i : Int) < 8) = true := by simp; omega
          have hle := hb.size
          have hgw : gh < wr.heap.size := by omega
          obtain ⟨I4, hI4⟩ : ∃ m, m = 4 * i := ⟨_, rfl⟩
          have e4 : 4 * (i + 1) = I4 + 4 := by omega
          rw [e4] at HBS
          rw [← hI4] at hown HBS
          have hI4b : I4 ≤ 28 := by omega
          have E4 := Lib.hid e4
          obtain ⟨X1, hX1⟩ : ∃ m, m = x / 16777216 := ⟨_, rfl⟩
          obtain ⟨X2, hX2⟩ : ∃ m, m = x / 65536 := ⟨_, rfl⟩
          obtain ⟨X3, hX3⟩ : ∃ m, m = x / 256 := ⟨_, rfl⟩
          have f1 : (x : Int) / 16777216 = (X1 : Int) := by omega
          have f2 : (x : Int) / 65536 = (X2 : Int) := by omega
          have f3 : (x : Int) / 256 = (X3 : Int) := by omega
          rw [← hX1, ← hX2, ← hX3] at HBS
          clear hx hos hbs hX1 hX2 hX3 hI4 e4
          go_wp2_with fail
          go_region_held3 (fun w' => w'.cell? ⟨gh, i, none⟩ = some (.int .u32 (x : Int)))
            (first | go_keep | (rw [g1.cell_far _ (by simp; omega) (Ne.symm hne1)]; assumption))
            ((refine step_append_lies _ (by rfl) _ _ 45 (by rfl) wz.heap.size 5 i0 (.int .u8 0) 1 1 Tryd.underlying45 hi0 hz0 hz1 hz2 rfl (by decide) u6 I4 _ (by rfl) ((hown.alloc _).drew) ⟨wr.heap.size, 0, none⟩ 4 4 [.int .u8 ((X1 : Int) % 256), .int .u8 ((X2 : Int) % 256), .int .u8 ((X3 : Int) % 256), .int .u8 ((x : Int) % 256)] (by rfl) (by rfl) (by simp only [IntKind.wrap_u8]; exact World.news_of_block (World.alloc_heap_new wr _)) (by simp [Value.oneCell']) (by decide) (by unfold maxLen; omega) (by omega) (by simp; omega) (wr.heap.size + 1) (by simp) ?_; intro gg cp9 w9 own9 g1 hat hlt))
          have g2 := (⟨g1.os, g1.tape, g1.output, g1.size, g1.block⟩ : (wr.alloc _).grownBy w9 u6.ownBlock)
          have hb1 := Below.appended hb hle hown g2
          rw [HBS.out] at own9
          clear g1 g2 hown hb cx f1 f2 f3
          go_wp2_with fail
          exact ⟨⟨i + 1, by omega, by go_num, by rw [E4.out]; exact own9, hb1⟩, by simp [intOf]; omega⟩
        · have t1 : decide ((i : Int) < 8) = false := by simp; omega
          have hi8' : i = 8 := by omega
          rw [hi8', outL_all] at hown
          have hcv := run_convert_own (P := Tryd.prog) 45 9 5 Tryd.underlying45 Tryd.underlying5 Tryd.underlying9 hown
          have hbf := Below.next hbz hb
          clear hown hi8' hi8 i1
          go_wp2_with fail
          go_ret
          exact ⟨rfl, hbf⟩
end Go.Proofs.YtednkommpmdikaaDoor
