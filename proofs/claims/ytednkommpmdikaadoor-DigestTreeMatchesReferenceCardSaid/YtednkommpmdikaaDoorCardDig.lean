/- What all cards of this seat share: the table is laid, a law's end, a world for the witness. -/
import Derived.Test.YtednkommpmdikaaDoorCards
import Derived.Test.YtednkommpmdikaaDoorTie
import Derived.Test.YtednkommpmdikaaDoorShaE
import Derived.Test.YtednkommpmdikaaDoorSl
import Derived.ProofKit
import Derived.OpenShut
import Derived.SizedLaws
import Derived.Deep.DeepHandedRow
import Derived.Lib.LaidTab
namespace Go.Proofs.YtednkommpmdikaaDoor
open Go Go.ChangeShapes Go.WideShapes Go.ChangeAt Go.RowKit

theorem own : ownKnob Tryd.prog.godebug = none := by kernel_rfl
theorem laidOut : laidOutB Tryd.prog = true := by kernel_rfl
theorem gTab : Tryd.prog.globalNamed "cachetier/digest.round" = some 0 := by kernel_rfl
theorem gTabType : (Tryd.prog.globals[ 0 ]?).map (·.type) = some 83 := by kernel_rfl
theorem cellsT : Tryd.prog.cellsOf 83 = 64 := by kernel_rfl
theorem cellsE : Tryd.prog.cellsOf 64 = 1 := by kernel_rfl

def k256Z : List Int := k256.map fun (n : Nat) => (n : Int)
theorem laid_eq {H : Type} : (Rows.laid_cachetier_digest_round : DataW H) = Lib.tabData .u32 k256Z := by kernel_rfl

theorem roundOk_of_laid {W : World} (h : laidMetH Tryd.prog [("cachetier/digest.round", Rows.laid_cachetier_digest_round)] W) : RoundOk W := by
  have hT : Lib.TabIs Tryd.prog W "cachetier/digest.round" .u32 k256Z :=
    Lib.tabIs_of_head (rest := []) gTab gTabType Tryd.underlying83 Tryd.underlying64 cellsE cellsT h
  unfold Lib.TabIs World.var? at hT
  rw [gTab] at hT
  simp only [Option.bind_some] at hT
  split at hT
  · rename_i cs t fr hb
    refine ⟨t, fr, ?_⟩
    rw [hb]
    injection hT with hT
    rw [hT]
    congr 2
  · cases hT

/-- The arguments read behind the call as they did, if what lay before has not turned. -/
theorem trodAll_below {H : Type} {enc : TypeId × Value → H} {W W' : World} (hb : Below W.heap.size W W') :
    ∀ {ts : List TypeId} {vs : List Value} {ds : List (DataW H)} {ps : List MemPlace}, (∀ t ∈ ts, Tryd.prog.readableRec t = true ∧ t < Tryd.prog.types.size) →
      DataW.TrodAll enc Tryd.prog W 0 (fun _ => true) true ts vs ds ps → (∀ x ∈ ps, x.block < W.heap.size) →
      DataW.TrodAll enc Tryd.prog W' 0 (fun b => decide (b < W.heap.size)) true ts vs ds ps
  | [], _, _, _, _, h, _ => by
    obtain ⟨rfl, rfl, rfl⟩ := trodAll_nil h
    exact trodAll_mk0
  | t :: ts, _, _, _, ht, h, hp => by
    obtain ⟨v, vs', d, ds', p, q, rfl, rfl, rfl, h1, h2⟩ := trodAll_cons h
    have h0 := ht t (by simp)
    exact trodAll_cons_mk (Below.trod laidOut h0.1 h0.2 h1 hb (fun x hx => hp x (by simp [hx])))
      (trodAll_below hb (fun t' ht' => ht t' (by simp [ht'])) h2 (fun x hx => hp x (by simp [hx])))

theorem law_post {H : Type} {enc : TypeId × Value → H} {s : ChangeSpec} {f : Func} {W W' : World} {args : Array Value} {ds gs : List (DataW H)} {before : List MemPlace}
    (hW : DataW.Whole enc Tryd.prog f.params.toList s.vars false W args.toList ds gs before) (hvars : s.vars = [])
    (hfn : s.fn H (ds ++ gs) = { results := [.lit (.bool true)], args := ds }) (hres : f.resultTypes = #[ 4 ])
    (hpar : ∀ t ∈ f.params.toList, Tryd.prog.readableRec t = true ∧ t < Tryd.prog.types.size)
    (hb : Below W.heap.size W W') : s.post enc Tryd.prog f false true false false W args (.bool true) W' := by
  have hlt : ∀ p ∈ before, p.block < W.heap.size := fun p hp => hW.lt p hp
  obtain ⟨p, q, hA, hV, hpq, _⟩ := id hW
  rw [hvars] at hV
  obtain ⟨rfl, rfl⟩ := trodVars_none hV
  refine ⟨ds, [], before, [], before, [], hW, ?_, ?_, ?_, World.keptBut_mono (fun p hp => ⟨hp, .inr (.inl hp)⟩) (hb.frame (· ∈ before)), fun h => by cases h⟩
  · rw [hfn, hres]
    exact trodAll_mk1 (shut_bool Tryd.underlying4 true)
  · rw [hfn]
    refine trodAll_below hb hpar ?_ hlt
    rw [hpq, List.append_nil]; exact hA
  · rw [hvars, hfn]
    rfl

theorem string_reach {s : ByteArray} (h : s.data.toList.length ≤ reachBytes) : s.size ≤ 140737488355328 := by
  have e : s.data.toList.length = s.size := by simp
  unfold reachBytes at h
  omega

section
variable {H : Type} {enc : TypeId × Value → H} {P : Program} {w : World} {base : Nat} {sp : Nat → Bool} {held : Bool}

theorem open_str2 {r : Reach} {b0 : Nat} {t e : TypeId} {v : Value} {d : DataW H} {ps : List MemPlace} (ht : P.underlying t = some (.array 2 e)) (he : P.underlying e = some .string) (hC : P.cellsOf t = 2) (hc1 : P.cellsOf e = 1)
    (hv : Value.okWide P w r b0 t v) (h : DataW.Trod enc P w base sp held t v d ps) : ∃ x y : ByteArray, v = .agg #[.string x, .string y] := by
  simp only [Value.okWide, ht] at hv
  obtain ⟨cs, rfl, h2, _⟩ := hv
  rw [hC] at h2
  obtain ⟨l⟩ := cs
  match l, h2 with
  | [c0, c1], _ =>
    obtain ⟨fuel, hf⟩ := h
    obtain ⟨xs, m, _, _, _, hxs, hi⟩ := DataW.trod_array ht hf
    have h0 := hi 0 (by omega)
    have h1 := hi 1 (by omega)
    rw [hc1] at h0 h1
    match xs, hxs with
    | [x0, x1], _ =>
      obtain ⟨a, ha, _⟩ := DataW.trod_string he (x := x0) (by simpa [Value.cells] using h0)
      obtain ⟨b, hb, _⟩ := DataW.trod_string he (x := x1) (by simpa [Value.cells] using h1)
      simp only [List.cons.injEq, and_true] at ha hb
      exact ⟨a, b, by rw [ha, hb]⟩

theorem open_intsAt {r : Reach} {b0 : Nat} {t e : TypeId} {v : Value} {d : DataW H} {ps : List MemPlace} (ht : P.underlying t = some (.slice e)) (he : P.underlying e = some (.int .i64)) (hc1 : P.cellsOf e = 1)
    (hv : Value.okWide P w r b0 t v) (h : DataW.Trod enc P w base sp held t v d ps) :
    ∃ zs : List Int, SliceAt w v (zs.map (Value.int .i64)) ∧ ∀ z ∈ zs, -9223372036854775808 ≤ z ∧ z ≤ 9223372036854775807 := by
  obtain ⟨a0, l0, c0, rfl⟩ := okWide_slice ht hv
  obtain ⟨fuel, hf⟩ := h
  rcases open_ints ht he hc1 hf with ⟨hcs, _⟩ | ⟨a, len, cap, zs, hcs, _, hl, hm, hz, _, hcell, hwf⟩
  · simp [Value.cells] at hcs
    obtain ⟨rfl, rfl, rfl⟩ := hcs
    exact ⟨[], ⟨none, 0, rfl, Nat.le_refl _, fun h => absurd h (by simp)⟩, fun z hz => by simp at hz⟩
  · simp [Value.cells] at hcs
    obtain ⟨rfl, rfl, rfl⟩ := hcs
    have hlen : l0 ≤ zs.length := by rw [hz]; split <;> omega
    refine ⟨zs.take l0, ⟨some a, c0, by simp [Nat.min_eq_left hlen], by simp; omega, fun h0 => ⟨a, rfl, ?_, fun j u hu => ?_⟩⟩, fun z hz => bounds_i64 (hwf z (List.mem_of_mem_take hz))⟩
    · have := block_of_cell (hcell 0 (by simp at h0; omega))
      rwa [block_add] at this
    · simp only [List.getElem?_map, Option.map_eq_some_iff] at hu
      obtain ⟨z, hz', rfl⟩ := hu
      have hj : j < zs.length := by
        have := (List.getElem?_eq_some_iff.1 hz').1
        simp at this; omega
      rw [hcell j hj]
      rw [List.getElem?_take] at hz'
      split at hz'
      · simp [List.getD, hz']
      · cases hz'

theorem open_strsAt {r : Reach} {b0 : Nat} {t e : TypeId} {v : Value} {d : DataW H} {ps : List MemPlace} (ht : P.underlying t = some (.slice e)) (he : P.underlying e = some .string) (hc1 : P.cellsOf e = 1)
    (hv : Value.okWide P w r b0 t v) (h : DataW.Trod enc P w base sp held t v d ps) :
    ∃ ss : List ByteArray, SliceAt w v (ss.map Value.string) ∧ ∀ s ∈ ss, s.size ≤ 9223372036854775807 := by
  obtain ⟨a0, l0, c0, rfl⟩ := okWide_slice ht hv
  obtain ⟨fuel, hf⟩ := h
  rcases open_strings ht he hc1 hf with ⟨hcs, _⟩ | ⟨a, len, cap, zs, hcs, _, hl, hm, hz, _, hcell, hwf⟩
  · simp [Value.cells] at hcs
    obtain ⟨rfl, rfl, rfl⟩ := hcs
    exact ⟨[], ⟨none, 0, rfl, Nat.le_refl _, fun h => absurd h (by simp)⟩, fun z hz => by simp at hz⟩
  · simp [Value.cells] at hcs
    obtain ⟨rfl, rfl, rfl⟩ := hcs
    have hlen : l0 ≤ zs.length := by rw [hz]; split <;> omega
    refine ⟨zs.take l0, ⟨some a, c0, by simp [Nat.min_eq_left hlen], by simp; omega, fun h0 => ⟨a, rfl, ?_, fun j u hu => ?_⟩⟩, fun z hz => hwf z (List.mem_of_mem_take hz)⟩
    · have := block_of_cell (hcell 0 (by simp at h0; omega))
      rwa [block_add] at this
    · simp only [List.getElem?_map, Option.map_eq_some_iff] at hu
      obtain ⟨z, hz', rfl⟩ := hu
      have hj : j < zs.length := by
        have := (List.getElem?_eq_some_iff.1 hz').1
        simp at this; omega
      rw [hcell j hj]
      rw [List.getElem?_take] at hz'
      split at hz'
      · simp [List.getD, hz']
      · cases hz'
end

/-- the table, as its initialiser lays it -/
def tabCells : Array Value := #[.int .u32 1116352408, .int .u32 1899447441, .int .u32 3049323471, .int .u32 3921009573, .int .u32 961987163, .int .u32 1508970993, .int .u32 2453635748, .int .u32 2870763221, .int .u32 3624381080, .int .u32 310598401, .int .u32 607225278, .int .u32 1426881987, .int .u32 1925078388, .int .u32 2162078206, .int .u32 2614888103, .int .u32 3248222580, .int .u32 3835390401, .int .u32 4022224774, .int .u32 264347078, .int .u32 604807628, .int .u32 770255983, .int .u32 1249150122, .int .u32 1555081692, .int .u32 1996064986, .int .u32 2554220882, .int .u32 2821834349, .int .u32 2952996808, .int .u32 3210313671, .int .u32 3336571891, .int .u32 3584528711, .int .u32 113926993, .int .u32 338241895, .int .u32 666307205, .int .u32 773529912, .int .u32 1294757372, .int .u32 1396182291, .int .u32 1695183700, .int .u32 1986661051, .int .u32 2177026350, .int .u32 2456956037, .int .u32 2730485921, .int .u32 2820302411, .int .u32 3259730800, .int .u32 3345764771, .int .u32 3516065817, .int .u32 3600352804, .int .u32 4094571909, .int .u32 275423344, .int .u32 430227734, .int .u32 506948616, .int .u32 659060556, .int .u32 883997877, .int .u32 958139571, .int .u32 1322822218, .int .u32 1537002063, .int .u32 1747873779, .int .u32 1955562222, .int .u32 2024104815, .int .u32 2227730452, .int .u32 2361852424, .int .u32 2428436474, .int .u32 2756734187, .int .u32 3204031479, .int .u32 3329325298]
noncomputable def laidWorld (os : Os) : World :=
  { World.holding Tryd.prog os ⟨#[], #[], []⟩ with heap := (World.holding Tryd.prog os ⟨#[], #[], []⟩).heap.modify 0 fun
      | .cells _ t frozen => .cells tabCells t frozen
      | o => o }

end Go.Proofs.YtednkommpmdikaaDoor
