/- Joined: ShaC ShaD. -/
import Derived.Test.YtgbemgndbemllaaGreatDoorQShaB
import Derived.Deep.RegionLaw
import Derived.Deep.DeepCutAuto
import Derived.Deep.CutBlock

section
/- One block is added to the words. -/
namespace Go.Proofs.YtgbemgndbemllaaGreatDoor
open Go Go.RowKit

/-- the table of the rounds is laid -/
def RoundOk (w : World) : Prop := ∃ t fr, w.heap[ 0 ]? = some (.cells (uv k256).toArray t fr)
theorem RoundOk.lt {w : World} (h : RoundOk w) : 0 < w.heap.size := by
  obtain ⟨t, fr, h⟩ := h; exact (Array.getElem?_eq_some_iff.1 h).1
theorem RoundOk.later {w w' : World} (h : RoundOk w) (hb : Below w.heap.size w w') : RoundOk w' := by
  have hl := h.lt
  obtain ⟨t, fr, h⟩ := h
  exact ⟨t, fr, (hb.block _ hl).trans h⟩

theorem Tryz.infoW8 : (Tryz.prog.info? 169).map (·.size) = some 8 := by kernel_rfl

theorem uv_len (l : List Nat) : (uv l).length = l.length := by simp [uv]
theorem uv_one (l : List Nat) : (uv l).toArray.all (·.oneCell') = true := by simp [uv, Value.oneCell']
theorem info64 {l : List Nat} (h : l.length = 64) : (Tryz.prog.info? 189).map (·.size) = some (uv l).toArray.size := by
  have : (uv l).toArray.size = 64 := by simp [uv, h]
  rw [this]; exact Tryz.infoW64
theorem info8 {l : List Nat} (h : l.length = 8) : (Tryz.prog.info? 169).map (·.size) = some (uv l).toArray.size := by
  have : (uv l).toArray.size = 8 := by simp [uv, h]
  rw [this]; exact Tryz.infoW8

theorem idx64 (l : List Nat) (hl : l.length = 64) (i x : Nat) (hi : l[i]? = some x) (w : World) : (Instr.index 189 (.agg (uv l).toArray) (.int .i64 (i : Int))).run Tryz.prog w = .ok (.int .u32 (x : Int)) w := by
  have hlt : i < 64 := by rw [← hl]; exact (List.getElem?_eq_some_iff.1 hi).1
  have hu : (uv l)[i]? = some (.int .u32 (x : Int)) := uv_get l i hi
  simp [Instr.index, run_underlying Tryz.underlying189, asIntOf, go_sem, hlt]
  rw [hu]
  rfl


theorem alloc_new_at (W : World) (o : Obj) (g : Nat) (hg : g = W.heap.size) : (W.alloc o).heap[g]? = some o := by
  rw [hg]; exact World.alloc_heap_new W o

theorem BlkIs.setRow {w : World} {g : Nat} {t : TypeId} {cs : List Value} (h : BlkIs w g t cs) (ds : List Value) : BlkIs (w.setRow g ds.toArray) g t ds := setRow_heap w g _ _ t _ h
theorem BlkIs.setRow_ne {w : World} {g k : Nat} {t : TypeId} {cs : List Value} (h : BlkIs w g t cs) (hk : g ≠ k) (ds : Array Value) : BlkIs (w.setRow k ds) g t cs := (setRow_other w k g ds hk).trans h
theorem RoundOk.setRow {w : World} (h : RoundOk w) {k : Nat} (hk : 0 ≠ k) (ds : Array Value) : RoundOk (w.setRow k ds) := by
  obtain ⟨t, fr, h⟩ := h
  exact ⟨t, fr, (setRow_other w k _ ds hk).trans h⟩
theorem RoundOk.alloc {w : World} (h : RoundOk w) (o : Obj) : RoundOk (w.alloc o) := h.later ((Below.refl _ w).alloc (Nat.le_refl _) o)

def V8Ok (v : V8) : Prop := ∀ x ∈ v.toL, x < 4294967296

theorem ones_sub (r : Nat) (h : r < 4294967296) : 4294967295 ^^^ r = 4294967295 - r := by
  rw [Nat.xor_comm]
  apply Nat.eq_of_testBit_eq
  intro i
  rw [Nat.testBit_xor, show (4294967295 - r) = 2 ^ 32 - (r + 1) by omega, Nat.testBit_two_pow_sub_succ (by omega), show (4294967295 : Nat) = 2 ^ 32 - 1 by decide, Nat.testBit_two_pow_sub_one]
  by_cases hi : i < 32
  · simp [hi]
  · have : r.testBit i = false := Nat.testBit_lt_two_pow (Nat.lt_of_lt_of_le h (by rw [show (4294967296 : Nat) = 2 ^ 32 by decide]; exact Nat.pow_le_pow_right (by decide) (by omega)))
    simp [hi, this]

theorem not32 (e : Nat) (h : e < 4294967296) : bits BinOp.xor IntKind.u32 IntKind.u32.max (e : Int) = ((4294967295 - e : Nat) : Int) := by
  have hm : IntKind.u32.max = ((4294967295 : Nat) : Int) := by decide +kernel
  rw [hm, u32_xor_nat _ _ (by omega) h, ones_sub e h]

theorem and32_lt {a b : Nat} (ha : a < 4294967296) : a &&& b < 4294967296 := Nat.lt_of_le_of_lt Nat.and_le_left ha

theorem rnd_t (s : V8) (k x : Nat) (he : s.e < 4294967296) (hf : s.f < 4294967296) (hg : s.g < 4294967296) :
    IntKind.u32.wrap (IntKind.u32.wrap (IntKind.u32.wrap (IntKind.u32.wrap ((s.h : Int) + ((rotN s.e 6 ^^^ rotN s.e 11 ^^^ rotN s.e 25 : Nat) : Int)) +
      bits BinOp.xor IntKind.u32 (bits BinOp.and IntKind.u32 (s.e : Int) (s.f : Int)) (bits BinOp.and IntKind.u32 (bits BinOp.xor IntKind.u32 IntKind.u32.max (s.e : Int)) (s.g : Int))) + (k : Int)) + (x : Int)) = ((rndT s k x : Nat) : Int) := by
  rw [not32 _ he, u32_and_nat _ _ he hf, u32_and_nat _ _ (by omega) hg, u32_xor_nat _ _ (and32_lt he) (and32_lt (by omega))]
  show IntKind.u32.wrap (IntKind.u32.wrap (IntKind.u32.wrap (IntKind.u32.wrap ((s.h : Int) + ((b1N s.e : Nat) : Int)) + ((chN s.e s.f s.g : Nat) : Int)) + (k : Int)) + (x : Int)) = _
  rw [IntKind.wrap_u32', IntKind.wrap_u32', IntKind.wrap_u32', IntKind.wrap_u32']
  unfold rndT
  omega

theorem rnd_u (s : V8) (ha : s.a < 4294967296) (hb : s.b < 4294967296) (hc : s.c < 4294967296) :
    IntKind.u32.wrap (((rotN s.a 2 ^^^ rotN s.a 13 ^^^ rotN s.a 22 : Nat) : Int) + bits BinOp.xor IntKind.u32 (bits BinOp.xor IntKind.u32 (bits BinOp.and IntKind.u32 (s.a : Int) (s.b : Int)) (bits BinOp.and IntKind.u32 (s.a : Int) (s.c : Int))) (bits BinOp.and IntKind.u32 (s.b : Int) (s.c : Int))) = ((rndU s : Nat) : Int) := by
  rw [u32_and_nat _ _ ha hb, u32_and_nat _ _ ha hc, u32_and_nat _ _ hb hc, u32_xor_nat _ _ (and32_lt ha) (and32_lt ha), u32_xor_nat _ _ (xor32_lt (and32_lt ha) (and32_lt ha)) (and32_lt hb)]
  show IntKind.u32.wrap (((b0N s.a : Nat) : Int) + ((majN s.a s.b s.c : Nat) : Int)) = _
  rw [IntKind.wrap_u32']
  unfold rndU
  omega

theorem w_add (a b : Nat) : IntKind.u32.wrap ((a : Int) + (b : Int)) = (((a + b) % 4294967296 : Nat) : Int) := by
  rw [IntKind.wrap_u32']; omega

/-- the words after i rounds -/
def stN (v : V8) (W : List Nat) (i : Nat) : V8 := rounds v ((k256.zip W).take i)
theorem stN_succ (v : V8) (W : List Nat) (i k x : Nat) (hk : k256[i]? = some k) (hx : W[i]? = some x) : stN v W (i + 1) = rnd (stN v W i) k x := by
  have hz : (k256.zip W)[i]? = some (k, x) := by simp [List.getElem?_zip_eq_some, hk, hx]
  unfold stN rounds
  rw [List.take_add_one, hz]
  simp
theorem rnd_ok {v : V8} (h : V8Ok v) (k x : Nat) : V8Ok (rnd v k x) := by
  intro y hy
  simp only [V8.toL, rnd, List.mem_cons, List.not_mem_nil, or_false] at hy
  have hm : ∀ z, z ∈ v.toL → z < 4294967296 := h
  simp only [V8.toL, List.mem_cons, List.not_mem_nil, or_false] at hm
  rcases hy with rfl | rfl | rfl | rfl | rfl | rfl | rfl | rfl
  · exact Nat.mod_lt _ (by omega)
  · exact hm _ (by simp)
  · exact hm _ (by simp)
  · exact hm _ (by simp)
  · exact Nat.mod_lt _ (by omega)
  · exact hm _ (by simp)
  · exact hm _ (by simp)
  · exact hm _ (by simp)
theorem stN_ok {v : V8} (h : V8Ok v) (W : List Nat) : ∀ i, V8Ok (stN v W i) := by
  intro i
  unfold stN rounds
  generalize (k256.zip W).take i = ps
  induction ps generalizing v with
  | nil => exact h
  | cons p ps ih => exact ih (rnd_ok h p.1 p.2)

theorem add8_get (v s : V8) (j y z : Nat) (hy : v.toL[j]? = some y) (hz : s.toL[j]? = some z) : (add8 v s).toL[j]? = some ((y + z) % 4294967296) := by
  have hj : j < 8 := (List.getElem?_eq_some_iff.1 hy).1
  have h8 : j = 0 ∨ j = 1 ∨ j = 2 ∨ j = 3 ∨ j = 4 ∨ j = 5 ∨ j = 6 ∨ j = 7 := by omega
  rcases h8 with rfl | rfl | rfl | rfl | rfl | rfl | rfl | rfl <;> (simp [V8.toL] at hy hz; subst hy hz; rfl)

theorem mix_set (A L : List Nat) (j a : Nat) (hA : A[j]? = some a) (hl : A.length = L.length) : (A.take j ++ L.drop j).set j a = A.take (j + 1) ++ L.drop (j + 1) := by
  have hj : j < A.length := (List.getElem?_eq_some_iff.1 hA).1
  have ht : (A.take j).length = j := by rw [List.length_take]; omega
  have hd : L.drop j = L[j]'(by omega) :: L.drop (j + 1) := List.drop_eq_getElem_cons (by omega)
  rw [List.set_append_right _ _ (by omega), ht, Nat.sub_self, hd, List.set_cons_zero, List.take_add_one, hA]
  simp

set_option maxRecDepth 100000 in
set_option maxHeartbeats 8000000 in
theorem add_ok (w : World) (hb : Nat) (v : V8) (h : BlkIs w hb 169 (uv v.toL)) (hv : V8Ok v) (gb off cap : Nat) (blk : List UInt8) (hl : blk.length = 64) (hbt : ∀ j (c : UInt8), blk[j]? = some c → w.cell? ⟨gb, off + j, none⟩ = some (.int .u8 (c.toNat : Int))) (hR : RoundOk w) :
    Calls Tryz.prog 91 #[.pointer (some ⟨hb, 0, none⟩), .slice (some ⟨gb, off, none⟩) 64 cap] w fun e w' => e = .returned (.tuple #[]) ∧ BlkIs w' hb 169 (uv (compress v blk).toL) ∧ Upd hb w w' := by
  have HLT := BlkIs.lt h
  go_enter Tryz.func91, Tryz.ntmps91
  go_wp2_with fail
  refine (schedule_ok gb off cap blk w hl hbt).mono ?_
  rintro e w1 ⟨rfl, b1⟩
  have h1 := h.later b1
  have R1 := hR.later b1
  obtain ⟨W, hW⟩ : ∃ W, W = schedN 48 (words16 blk) := ⟨_, rfl⟩
  have lW : W.length = 64 := by rw [hW, schedN_len, words16_len]
  have hWlt : ∀ x ∈ W, x < 4294967296 := by rw [hW]; exact schedN_lt _ _ (words16_lt blk)
  rw [← hW]
  have HW := Lib.hid hW
  have LW := Lib.hid lW
  clear hW lW h hR hl hbt
  have hlt := BlkIs.lt h1
  have hRlt := R1.lt
  have hne : hb ≠ w1.heap.size := by omega
  go_upto_region 1 with (first
    | (refine wpList_store_row rfl 189 (.tmp 4) (.tmp 14) rfl w1.heap.size (uv W).toArray rfl rfl 189 _ (World.alloc_heap_new w1 _) (info64 LW.out) (by simp [uv, LW.out]) (uv_one W) ?_))
  generalize hw2 : (World.alloc w1 _).setRow _ _ = W2
  have z2 : BlkIs W2 w1.heap.size 189 (uv W) := by rw [← hw2]; exact (BlkIs.new w1 _ _).setRow (uv W)
  have h2 : BlkIs W2 hb 169 (uv v.toL) := by rw [← hw2]; exact (BlkIs.alloc h1 _).setRow_ne hne _
  have R2 : RoundOk W2 := by rw [← hw2]; exact (R1.alloc _).setRow (by omega) _
  have b2 : Below w.heap.size w W2 := by rw [← hw2]; exact below_setRow (b1.alloc b1.size _) b1.size _
  have e2 : W2.heap.size = w1.heap.size + 1 := by rw [← hw2]; simp
  have hq4 : w.heap.size ≤ w1.heap.size := b1.size
  clear hw2 h1 R1 b1 hRlt
  generalize w1.heap.size = B4 at *
  have E2 := Lib.hid e2
  clear e2
  go_upto_region 2 with (first
    | (refine wpList_load_row rfl 169 (.tmp 16) rfl hb rfl 169 (uv v.toL).toArray (0, 0) _ h2 Tryz.underlying169 rfl (info8 rfl) ?_)
    | (refine wpList_store_row rfl 169 (.tmp 5) (.tmp 17) rfl W2.heap.size (uv v.toL).toArray rfl rfl 169 _ (World.alloc_heap_new W2 _) (info8 rfl) rfl (uv_one _) ?_))
  have h2lt := BlkIs.lt h2
  have z2lt := BlkIs.lt z2
  have R2lt := R2.lt
  generalize hw3 : (World.alloc W2 _).setRow _ _ = W3
  have v3 : BlkIs W3 W2.heap.size 169 (uv v.toL) := by rw [← hw3]; exact (BlkIs.new W2 _ _).setRow (uv v.toL)
  have h3 : BlkIs W3 hb 169 (uv v.toL) := by rw [← hw3]; exact (BlkIs.alloc h2 _).setRow_ne (by omega) _
  have z3 : BlkIs W3 B4 189 (uv W) := by rw [← hw3]; exact (BlkIs.alloc z2 _).setRow_ne (by omega) _
  have R3 : RoundOk W3 := by rw [← hw3]; exact (R2.alloc _).setRow (by omega) _
  have b3 : Below w.heap.size w W3 := by rw [← hw3]; exact below_setRow (b2.alloc b2.size _) b2.size _
  have hq5 : w.heap.size ≤ W2.heap.size := b2.size
  have n45 : W2.heap.size ≠ B4 := by omega
  have n5h : W2.heap.size ≠ hb := by omega
  have n5r : W2.heap.size ≠ 0 := by omega
  clear hw3 h2 z2 R2 b2 E2 R2lt
  generalize W2.heap.size = B5 at *
  obtain ⟨tt, fr, hround⟩ := R3
  go_wp2_with (first
    | (refine wpList_load_row rfl 189 (.global 0) rfl 0 rfl tt (uv k256).toArray fr _ hround Tryz.underlying189 rfl (info64 rfl) ?_))
  clear hround
  have h3lt := BlkIs.lt h3
  go_loopw [19] (fun iv wr => ∃ i : Nat, i ≤ 64 ∧ iv = .int .i64 i ∧ BlkIs wr hb 169 (uv v.toL) ∧ BlkIs wr B4 189 (uv W) ∧ BlkIs wr B5 169 (uv (stN v W i).toL) ∧ Below w.heap.size w wr) (fun iv _ => 64 - (intOf iv).toNat)
  case atStart => exact ⟨0, by omega, rfl, h3, z3, v3, b3⟩
  case round =>
    clear h3 z3 v3 b3
    obtain ⟨i, hi, rfl, hh, hz, hs, hbel⟩ := hrel
    by_cases hi64 : i < 64
    · obtain ⟨k, hk⟩ : ∃ k, k256[i]? = some k := ⟨_, List.getElem?_eq_getElem (show i < 64 from hi64)⟩
      obtain ⟨x, hx⟩ : ∃ x, W[i]? = some x := ⟨_, List.getElem?_eq_getElem (by have := LW.out; omega)⟩
      have hnext := stN_succ v W i k x hk hx
      have hok := stN_ok hv W i
      have hidx := idx64 k256 rfl i k hk
      generalize stN v W i = s at *
      have cells : ∀ Z : World, BlkIs Z B5 169 (uv s.toL) → Z.cell? ⟨B5, 0, none⟩ = some (.int .u32 (s.a : Int)) ∧ Z.cell? ⟨B5, 1, none⟩ = some (.int .u32 (s.b : Int)) ∧ Z.cell? ⟨B5, 2, none⟩ = some (.int .u32 (s.c : Int)) ∧ Z.cell? ⟨B5, 3, none⟩ = some (.int .u32 (s.d : Int)) ∧
          Z.cell? ⟨B5, 4, none⟩ = some (.int .u32 (s.e : Int)) ∧ Z.cell? ⟨B5, 5, none⟩ = some (.int .u32 (s.f : Int)) ∧ Z.cell? ⟨B5, 6, none⟩ = some (.int .u32 (s.g : Int)) ∧ Z.cell? ⟨B5, 7, none⟩ = some (.int .u32 (s.h : Int)) :=
        fun Z hZ => ⟨hZ.cell 0, hZ.cell 1, hZ.cell 2, hZ.cell 3, hZ.cell 4, hZ.cell 5, hZ.cell 6, hZ.cell 7⟩
      have hW : ∀ Z : World, BlkIs Z B4 189 (uv W) → Z.cell? ⟨B4, i, none⟩ = some (.int .u32 (x : Int)) := fun Z hZ => (hZ.cell i).trans (uv_get _ _ hx)
      have lx := hWlt x (List.mem_of_getElem? hx)
      have le : s.e < 4294967296 := hok s.e (by simp [V8.toL])
      have la : s.a < 4294967296 := hok s.a (by simp [V8.toL])
      obtain ⟨a0, a1, a2, a3, a4, a5, a6, a7⟩ := cells _ hs
      have n0 : (0 : Int) ≤ (i : Int) := by omega
      have n1 : (i : Int) < 64 := by omega
      have t0 : decide ((i : Int) < 64) = true := by simp; omega
      have HN := Lib.hid hnext
      have HC := Lib.hid cells
      have HWc := Lib.hid hW
      clear hnext cells hW hk hx
      go_wp2_with fail
      go_quiet (fail)
      go_wp2_with fail
      have hh0 := hh.drewN nq
      have hz0 := hz.drewN nq
      have hs0 := hs.drewN nq
      have hb0 := below_drewN' hbel nq
      clear hh hz hs hbel a0 a1 a2 a3 a4 a5 a6 a7
      generalize wr.drewN nq = W0 at *
      obtain ⟨a0, a1, a2, a3, a4, a5, a6, a7⟩ := HC.out _ hs0
      have c4 := HWc.out _ hz0
      have ne1 := World.new_ne W0 _ a5
      have ne2 := World.new_ne W0 _ c4
      go_region_held3 (fun w' => w'.cell? ⟨B5, 7, none⟩ = some (.int .u32 (s.h : Int)) ∧ w'.cell? ⟨B5, 5, none⟩ = some (.int .u32 (s.f : Int)) ∧ w'.cell? ⟨B5, 6, none⟩ = some (.int .u32 (s.g : Int)) ∧ w'.cell? ⟨B4, i, none⟩ = some (.int .u32 (x : Int)))
        (go_keep)
        (first
          | (go_at_call 115; refine (mixed_b1 s.e _ _ le ?_ ?_ ?_).mono ?_; (exact cell_new _ _ _ _ _ _ (by simp) rfl); (exact cell_new _ _ _ _ _ _ (by simp) rfl); (exact cell_new _ _ _ _ _ _ (by simp) rfl); rintro e w4 ⟨rfl, rfl⟩))
      have lf : s.f < 4294967296 := hok s.f (by simp [V8.toL])
      have lg : s.g < 4294967296 := hok s.g (by simp [V8.toL])
      rw [rnd_t s k x le lf lg]
      generalize hw1 : (World.alloc W0 _).drew = W1 at *
      have hh1 : BlkIs W1 hb 169 (uv v.toL) := by rw [← hw1]; exact (hh0.alloc _).drew
      have hz1 : BlkIs W1 B4 189 (uv W) := by rw [← hw1]; exact (hz0.alloc _).drew
      have hs1 : BlkIs W1 B5 169 (uv s.toL) := by rw [← hw1]; exact (hs0.alloc _).drew
      have hb1 : Below w.heap.size w W1 := by rw [← hw1]; exact (hb0.alloc hb0.size _).drew
      clear hw1 hh0 hz0 hs0 hb0 a0 a1 a2 a3 a4 a5 a6 a7 c4 ne1 ne2
      obtain ⟨a0, a1, a2, a3, a4, a5, a6, a7⟩ := HC.out _ hs1
      have ne1 := World.new_ne W1 _ a5
      go_wp2_with fail
      go_region_held3 (fun w' => w'.cell? ⟨B5, 1, none⟩ = some (.int .u32 (s.b : Int)) ∧ w'.cell? ⟨B5, 2, none⟩ = some (.int .u32 (s.c : Int)))
        (go_keep)
        (first
          | (go_at_call 115; refine (mixed_b0 s.a _ _ la ?_ ?_ ?_).mono ?_; (exact cell_new _ _ _ _ _ _ (by simp) rfl); (exact cell_new _ _ _ _ _ _ (by simp) rfl); (exact cell_new _ _ _ _ _ _ (by simp) rfl); rintro e w4 ⟨rfl, rfl⟩))
      have lb : s.b < 4294967296 := hok s.b (by simp [V8.toL])
      have lc : s.c < 4294967296 := hok s.c (by simp [V8.toL])
      rw [rnd_u s la lb lc]
      generalize hw2 : (World.alloc W1 _).drew = W2 at *
      have hh2 : BlkIs W2 hb 169 (uv v.toL) := by rw [← hw2]; exact (hh1.alloc _).drew
      have hz2 : BlkIs W2 B4 189 (uv W) := by rw [← hw2]; exact (hz1.alloc _).drew
      have hs2 : BlkIs W2 B5 169 (uv s.toL) := by rw [← hw2]; exact (hs1.alloc _).drew
      have hb2 : Below w.heap.size w W2 := by rw [← hw2]; exact (hb1.alloc hb1.size _).drew
      clear hw2 hh1 hz1 hs1 hb1 a0 a1 a2 a3 a4 a5 a6 a7 ne1
      have hsrc : ∀ j u, (uv [s.a, s.b, s.c, s.d, s.e, s.f, s.g])[j]? = some u → W2.cell? ((⟨B5, 0, none⟩ : Addr).add j) = some u := by
        intro j u hu
        have hadd : (⟨B5, 0, none⟩ : Addr).add j = ⟨B5, j, none⟩ := by unfold Addr.add; split <;> simp_all
        have hj : j < 7 := (List.getElem?_eq_some_iff.1 hu).1
        rw [hadd, hs2.cell]
        have e : uv s.toL = uv [s.a, s.b, s.c, s.d, s.e, s.f, s.g] ++ uv [s.h] := rfl
        rw [e, List.getElem?_append_left (by simpa [uv] using hj)]
        exact hu
      have HSRC := Lib.hid hsrc
      clear hsrc
      have hone7 : ∀ u ∈ uv [s.a, s.b, s.c, s.d, s.e, s.f, s.g], u.oneCell' = true := by
        intro u hu
        simp only [uv, List.mem_map] at hu
        obtain ⟨y, _, rfl⟩ := hu
        rfl
      have HO7 := Lib.hid hone7
      clear hone7
      go_wp2_with fail
      go_region_law (refine step_copy_splice rfl (.tmp 69) (.tmp 70) 192 192 rfl 160 Tryz.underlying192 (by kernel_rfl) (some ⟨B5, 1, none⟩) (some ⟨B5, 0, none⟩) 7 7 7 8 rfl rfl B5 1 (uv s.toL) 169 hs2 (uv [s.a, s.b, s.c, s.d, s.e, s.f, s.g]) rfl (fun _ => ⟨rfl, _, rfl, HSRC.out⟩) (by simp [uv, V8.toL]) HO7.out B5 W2 ((Below.refl _ _).drew) (Nat.le_refl _) ?_; intro w' hsp hbw)
      have s3 : BlkIs w' B5 169 (uv [s.a, s.a, s.b, s.c, s.d, s.e, s.f, s.g]) := hsp.out
      have hh3 : BlkIs w' hb 169 (uv v.toL) := hh2.below hbw (by omega)
      have hz3 : BlkIs w' B4 189 (uv W) := hz2.below hbw (by omega)
      have hb3 : Below w.heap.size w w' := hb2.trans (hbw.mono hq5)
      clear hsp hbw hh2 hz2 hs2 hb2
      have c0 : w'.cell? ⟨B5, 0, none⟩ = some (.int .u32 (s.a : Int)) := s3.cell 0
      have c4 : w'.cell? ⟨B5, 4, none⟩ = some (.int .u32 (s.d : Int)) := s3.cell 4
      have f0 := s3.frozen 0
      have f4 := s3.frozen 4
      have u1 := w_add (rndT s k x) (rndU s)
      have u2 := w_add s.d (rndT s k x)
      have hs4 := (s3.set 0 (.int .u32 (((rndT s k x + rndU s) % 4294967296 : Nat) : Int))).set 4 (.int .u32 (((s.d + rndT s k x) % 4294967296 : Nat) : Int))
      have hh4 := (BlkIs.other (p := ⟨B5, 4, none⟩) (BlkIs.other (p := ⟨B5, 0, none⟩) hh3 (Ne.symm n5h) (.int .u32 (((rndT s k x + rndU s) % 4294967296 : Nat) : Int))) (Ne.symm n5h) (.int .u32 (((s.d + rndT s k x) % 4294967296 : Nat) : Int)))
      have hz4 := (BlkIs.other (p := ⟨B5, 4, none⟩) (BlkIs.other (p := ⟨B5, 0, none⟩) hz3 (Ne.symm n45) (.int .u32 (((rndT s k x + rndU s) % 4294967296 : Nat) : Int))) (Ne.symm n45) (.int .u32 (((s.d + rndT s k x) % 4294967296 : Nat) : Int)))
      have hb4 := (hb3.setCell (p := ⟨B5, 0, none⟩) hq5 (.int .u32 (((rndT s k x + rndU s) % 4294967296 : Nat) : Int))).setCell (p := ⟨B5, 4, none⟩) hq5 (.int .u32 (((s.d + rndT s k x) % 4294967296 : Nat) : Int))
      have hL : ((uv [s.a, s.a, s.b, s.c, s.d, s.e, s.f, s.g]).set 0 (.int .u32 (((rndT s k x + rndU s) % 4294967296 : Nat) : Int))).set 4 (.int .u32 (((s.d + rndT s k x) % 4294967296 : Nat) : Int)) = uv (stN v W (i + 1)).toL := by
        rw [HN.out]; rfl
      have hs5 := hs4
      rw [hL] at hs5
      clear hL
      clear hs4 s3 hh3 hz3 hb3 HSRC HO7
      go_wp2_with fail
      go_roundw
      case rel => exact ⟨i + 1, by omega, by go_num, hh4, hz4, hs5, hb4⟩
      case measure => simp [intOf]; omega
    · have hi' : i = 64 := by omega
      have t0 : decide ((i : Int) < 64) = false := by simp; omega
      have hend : stN v W i = rounds v (k256.zip W) := by
        unfold stN
        rw [List.take_of_length_le (by rw [List.length_zip, LW.out]; omega)]
      have hadd : ∀ s, s = stN v W i → add8 v s = compress v blk := by
        rintro s rfl
        rw [hend, HW.out]; rfl
      have hok := stN_ok hv W i
      generalize stN v W i = s at *
      have HADD := Lib.hid (hadd s rfl)
      obtain ⟨wz, rfl⟩ : ∃ wz : World, wz = wr := ⟨_, rfl⟩
      clear hend hadd hi' hz
      have hu : Upd hb w wz := .of_below hbel
      have hlw : hb < w.heap.size := HLT
      clear hbel
      go_wp2_with fail
      go_loopw [82] (fun iv wr => ∃ j : Nat, j ≤ 8 ∧ iv = .int .i64 j ∧ BlkIs wr hb 169 (uv ((add8 v s).toL.take j ++ v.toL.drop j)) ∧ BlkIs wr B5 169 (uv s.toL) ∧ Upd hb w wr) (fun iv _ => 8 - (intOf iv).toNat)
      case atStart => exact ⟨0, by omega, rfl, hh, hs, hu⟩
      case round =>
        clear hh hs hu
        obtain ⟨j, hj, rfl, hh, hs, hu⟩ := hrel
        by_cases hj8 : j < 8
        · obtain ⟨y, hy⟩ : ∃ y, v.toL[j]? = some y := ⟨_, List.getElem?_eq_getElem (show j < 8 from hj8)⟩
          obtain ⟨z, hz⟩ : ∃ z, s.toL[j]? = some z := ⟨_, List.getElem?_eq_getElem (show j < 8 from hj8)⟩
          have hA := add8_get v s j y z hy hz
          have ch : wr.cell? ⟨hb, j, none⟩ = some (.int .u32 (y : Int)) := by
            rw [hh.cell]
            refine uv_get _ _ ?_
            rw [List.getElem?_append_right (by rw [List.length_take]; omega), List.length_take, List.getElem?_drop]
            have : j + (j - min j (add8 v s).toL.length) = j := by
              have : (add8 v s).toL.length = 8 := rfl
              omega
            rw [this]; exact hy
          have cs : wr.cell? ⟨B5, j, none⟩ = some (.int .u32 (z : Int)) := by rw [hs.cell]; exact uv_get _ _ hz
          have fh := hh.frozen j
          have u1 := w_add y z
          generalize (y + z) % 4294967296 = q at *
          have n0 : (0 : Int) ≤ (j : Int) := by omega
          have n1 : (j : Int) < 8 := by omega
          have t1 : decide ((j : Int) < 8) = true := by simp; omega
          have hn := (hh.set j (.int .u32 (q : Int))).drew
          rw [uv_set, mix_set (add8 v s).toL v.toL j _ hA rfl] at hn
          have hs' := (BlkIs.other (p := ⟨hb, j, none⟩) hs n5h (.int .u32 (q : Int))).drew
          have hu' : Upd hb w (wr.setCell ⟨hb, j, none⟩ (.int .u32 (q : Int))).drew := (hu.trans (Upd.setCell hb j wr _)).trans (.of_below ((Below.refl _ _).drew))
          have HN := Lib.hid hn
          clear hy hz hA hn hh hs hu
          go_wp2_with fail
          go_region
          generalize (wr.setCell ⟨hb, j, none⟩ (.int .u32 (q : Int))).drew = W9 at *
          go_wp2_with fail
          go_roundw
          case rel => exact ⟨j + 1, by omega, by go_num, HN.out, hs', hu'⟩
          case measure => simp [intOf]; omega
        · have hj' : j = 8 := by omega
          have t1 : decide ((j : Int) < 8) = false := by simp; omega
          have hfin : BlkIs wr hb 169 (uv (compress v blk).toL) := by
            have := hh
            rw [hj'] at this
            have e : (add8 v s).toL.take 8 ++ v.toL.drop 8 = (compress v blk).toL := by rw [← HADD.out]; rfl
            rwa [e] at this
          clear hj' hh hs
          go_wp2_with fail
          go_end0
          exact ⟨rfl, hfin, hu⟩
end Go.Proofs.YtgbemgndbemllaaGreatDoor
end

section
/- The digest of the words. -/
namespace Go.Proofs.YtgbemgndbemllaaGreatDoor
open Go Go.RowKit

/-- byte j of a word -/
def byteOf (x j : Nat) : UInt8 := UInt8.ofNat (x / 2 ^ (24 - 8 * j))

theorem be4L_get (x j : Nat) (hj : j < 4) : (be4L x)[j]? = some (byteOf x j) := by
  have h : j = 0 ∨ j = 1 ∨ j = 2 ∨ j = 3 := by omega
  rcases h with rfl | rfl | rfl | rfl <;> simp [be4L, byteOf]

theorem outL_len (v : V8) : (outL v).length = 32 := by rfl

theorem outL_get (v : V8) (i j x : Nat) (hx : v.toL[i]? = some x) (hj : j < 4) : (outL v)[4 * i + j]? = some (byteOf x j) := by
  have hi : i < 8 := (List.getElem?_eq_some_iff.1 hx).1
  rw [← be4L_get x j hj]
  have h : i = 0 ∨ i = 1 ∨ i = 2 ∨ i = 3 ∨ i = 4 ∨ i = 5 ∨ i = 6 ∨ i = 7 := by omega
  have h4 : j = 0 ∨ j = 1 ∨ j = 2 ∨ j = 3 := by omega
  rcases h with rfl | rfl | rfl | rfl | rfl | rfl | rfl | rfl <;> (simp [V8.toL] at hx; subst hx; rcases h4 with rfl | rfl | rfl | rfl <;> rfl)

theorem idx8 (l : List Nat) (hl : l.length = 8) (i x : Nat) (hi : l[i]? = some x) (w : World) : (Instr.index 169 (.agg (uv l).toArray) (.int .i64 (i : Int))).run Tryz.prog w = .ok (.int .u32 (x : Int)) w := by
  have hlt : i < 8 := by rw [← hl]; exact (List.getElem?_eq_some_iff.1 hi).1
  have hu : (uv l)[i]? = some (.int .u32 (x : Int)) := uv_get l i hi
  simp [Instr.index, run_underlying Tryz.underlying169, asIntOf, go_sem, hlt]
  rw [hu]
  rfl

set_option maxRecDepth 100000 in
set_option maxHeartbeats 4000000 in
theorem digest_ok (v : V8) (hv : V8Ok v) (w : World) :
    Calls Tryz.prog 92 #[.agg (uv v.toL).toArray] w fun e w' => e = .returned (.string ⟨(outL v).toArray⟩) ∧ Below w.heap.size w w' := by
  have q0 : BlkIs (w.alloc (.cells (uv v.toL).toArray 169)) w.heap.size 169 (uv v.toL) := BlkIs.new w _ _
  go_enter Tryz.func92, Tryz.ntmps92
  go_upto_region 2 with fail
  generalize hw2 : (World.alloc w _).alloc _ = W2
  have z2 : BlkIs W2 (w.heap.size + 1) 193 (bv ((outL v).take 0) ++ List.replicate (32 - 0) (.int .u8 0)) := by rw [← hw2]; exact alloc_new_at _ _ _ (by simp)
  have q2 : BlkIs W2 w.heap.size 169 (uv v.toL) := by rw [← hw2]; exact q0.alloc _
  have b2 : Below w.heap.size w W2 := by rw [← hw2]; exact ((Below.refl _ w).alloc (Nat.le_refl _) _).alloc (by simp) _
  clear hw2 q0
  go_wp2_with (first
    | (refine wpList_load_row rfl 169 (.tmp 1) rfl w.heap.size rfl 169 (uv v.toL).toArray (0, 0) _ q2 Tryz.underlying169 rfl (info8 rfl) ?_))
  clear q2
  go_loopw [8] (fun iv wr => ∃ i : Nat, i ≤ 8 ∧ iv = .int .i64 i ∧ BlkIs wr (w.heap.size + 1) 193 (bv ((outL v).take (4 * i)) ++ List.replicate (32 - 4 * i) (.int .u8 0)) ∧ Below w.heap.size w wr) (fun iv _ => 8 - (intOf iv).toNat)
  case atStart => exact ⟨0, by omega, rfl, z2, b2⟩
  case round =>
    clear z2 b2
    obtain ⟨i, hi, rfl, hz, hb⟩ := hrel
    by_cases hi8 : i < 8
    · obtain ⟨x, hx⟩ : ∃ x, v.toL[i]? = some x := ⟨_, List.getElem?_eq_getElem (show i < 8 from hi8)⟩
      have hidx := idx8 v.toL rfl i x hx
      have lx := hv x (List.mem_of_getElem? hx)
      have t0 : decide ((i : Int) < 8) = true := by simp; omega
      have HX := Lib.hid hx
      clear hx
      obtain ⟨wo, rfl⟩ : ∃ wo : World, wo = wr := ⟨_, rfl⟩
      have hz0 : BlkIs wo (w.heap.size + 1) 193 (bv ((outL v).take (4 * i + 0)) ++ List.replicate (32 - (4 * i + 0)) (.int .u8 0)) := hz
      go_wp2_with fail
      go_loopw [12] (fun jv wr => ∃ j : Nat, j ≤ 4 ∧ jv = .int .i64 j ∧ BlkIs wr (w.heap.size + 1) 193 (bv ((outL v).take (4 * i + j)) ++ List.replicate (32 - (4 * i + j)) (.int .u8 0)) ∧ Below w.heap.size w wr) (fun jv _ => 4 - (intOf jv).toNat)
      case atStart => exact ⟨0, by omega, rfl, hz0, hb⟩
      case round =>
        clear hz hz0 hb
        obtain ⟨j, hj, rfl, hz, hb⟩ := hrel
        by_cases hj4 : j < 4
        · have hg := outL_get v i j x HX.out hj4
          obtain ⟨K, hK⟩ : ∃ K, K = 4 * i + j := ⟨_, rfl⟩
          rw [← hK] at hg hz
          have hcell : wr.cell? ⟨w.heap.size + 1, K, none⟩ = some (.int .u8 0) := by
            rw [hz.cell]; exact fill_here (outL_len v) (by omega) _
          have hfr := hz.frozen K
          have hn := hz.set K (.int .u8 ((byteOf x j).toNat : Int))
          rw [fill_next (outL_len v) (by omega) hg] at hn
          have hbn := hb.setCell (p := ⟨w.heap.size + 1, K, none⟩) (by show w.heap.size ≤ w.heap.size + 1; omega) (.int .u8 ((byteOf x j).toNat : Int))
          have e0 : (4 : Int) * (i : Int) + (j : Int) = (K : Int) := by omega
          have n0 : (0 : Int) ≤ (K : Int) := by omega
          have n1 : (K : Int) < 32 := by omega
          have t1 : decide ((j : Int) < 4) = true := by simp; omega
          obtain ⟨S, hS⟩ : ∃ S : Nat, S = 24 - 8 * j := ⟨_, rfl⟩
          have e8 : (24 : Int) - 8 * (j : Int) = (S : Int) := by omega
          have nS : (0 : Int) ≤ (S : Int) := by omega
          have nS2 : (S : Int) < 32 := by omega
          have hby : (x : Int) / 2 ^ S % 256 = ((byteOf x j).toNat : Int) := by
            unfold byteOf
            rw [← hS, UInt8.toNat_ofNat']
            rw [Int.natCast_emod, Int.natCast_ediv, Int.natCast_pow]
            rfl
          have HN := Lib.hid hn
          have HK := Lib.hid hK
          clear hn hg hK hz hS
          go_wp2_with fail
          exact ⟨⟨j + 1, by omega, by go_num, (by have hk := HK.out; rw [show 4 * i + (j + 1) = K + 1 by omega]; exact HN.out), hbn⟩, by simp [intOf]; omega⟩
        · have hj' : j = 4 := by omega
          have t1 : decide ((j : Int) < 4) = false := by simp; omega
          have hz2 : BlkIs wr (w.heap.size + 1) 193 (bv ((outL v).take (4 * (i + 1))) ++ List.replicate (32 - 4 * (i + 1)) (.int .u8 0)) := by
            have h := hz
            rw [hj'] at h
            exact h
          clear hj' hz
          go_wp2_with fail
          exact ⟨⟨i + 1, by omega, by go_num, hz2, hb⟩, by simp [intOf]; omega⟩
    · have hi' : i = 8 := by omega
      have t0 : decide ((i : Int) < 8) = false := by simp; omega
      have hz2 : BlkIs wr (w.heap.size + 1) 193 (bv (outL v) ++ []) := by
        have h := hz
        rw [hi'] at h
        exact h
      have hcv : Sem.run Tryz.prog (convert 113 9 (.slice (some ⟨w.heap.size + 1, 0, none⟩) 32 32)) wr = .ok (.string ⟨(outL v).toArray⟩) wr :=
        run_convert_blk (P := Tryz.prog) (cap := 32) 113 9 5 Tryz.underlying113 Tryz.underlying5 Tryz.underlying9 hz2
      clear hi' hz hz2
      go_wp2_with fail
      go_ret
      exact ⟨rfl, hb⟩
end Go.Proofs.YtgbemgndbemllaaGreatDoor
end

