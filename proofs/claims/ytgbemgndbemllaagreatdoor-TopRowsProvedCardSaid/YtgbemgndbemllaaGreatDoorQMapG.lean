/- The store's map: its rows by tables and keys. Over any program that has such a map. -/
import Derived.Test.YtgbemgndbemllaaGreatDoorGc
import Derived.Maps.RangeWalk
import Derived.Maps.OwnSet
namespace Go.Proofs.YtgbemgndbemllaaGreatDoor
open Go
open Go.Maps (Keyed)

def In64 (n : Int) : Prop := -9223372036854775808 ≤ n ∧ n ≤ 9223372036854775807
def idV (t k : Int) : Value := .agg #[.int .i64 t, .int .i64 k]
def idL (t k : Int) : Lit := .string (keyBytes [.int .i64 t, .int .i64 k])
def rwC (r : Rw) : List Value := [.int .i64 r.table, .int .i64 r.key, .int .i64 r.v.1, .int .i64 r.v.2.1, .int .i64 r.v.2.2]
def rwV (r : Rw) : Value := .agg #[.int .i64 r.table, .int .i64 r.key, .int .i64 r.v.1, .int .i64 r.v.2.1, .int .i64 r.v.2.2]
def rw0 : Rw := ⟨0, 0, 0, 0, 0⟩
def rwD (r : Rw) : DataW Unit := .agg [.lit (.int .i64 r.table), .lit (.int .i64 r.key), .lit (.int .i64 r.v.1), .lit (.int .i64 r.v.2.1), .lit (.int .i64 r.v.2.2)]
/-- how a row reads -/
def rwR (v : Value) : Option (DataW Unit × List MemPlace) :=
  match v with
  | .agg cs => match cs.toList with
    | [.int .i64 a, .int .i64 b, .int .i64 c, .int .i64 d, .int .i64 e] => some (rwD ⟨a, b, c, d, e⟩, [])
    | _ => none
  | _ => none
theorem rwR_mk (r : Rw) : rwR (rwV r) = some (rwD r, []) := rfl
theorem rwR_inv {v : Value} {y : DataW Unit × List MemPlace} (h : rwR v = some y) : ∃ r, v = rwV r ∧ y = (rwD r, []) := by
  unfold rwR at h
  split at h
  · rename_i cs
    split at h
    · rename_i a b c d e hc
      obtain rfl := Option.some.inj h
      obtain ⟨l⟩ := cs
      have hc : l = [.int .i64 a, .int .i64 b, .int .i64 c, .int .i64 d, .int .i64 e] := hc
      exact ⟨⟨a, b, c, d, e⟩, by rw [hc]; rfl, rfl⟩
    · cases h
  · cases h
theorem rwD_inj {a b : Rw} (h : rwD a = rwD b) : a = b := by
  obtain ⟨a1, a2, a3, a4, a5⟩ := a
  obtain ⟨b1, b2, b3, b4, b5⟩ := b
  simp [rwD] at h
  obtain ⟨rfl, rfl, rfl, rfl, rfl⟩ := h
  rfl

structure IdKey (P : Program) (K : TypeId) : Prop where
  law : Keyed P K
  ofId : ∀ t k, In64 t → In64 k → keyOf P K (idV t k) = some (idL t k)
  inv : ∀ v l, keyOf P K v = some l → ∃ t k, In64 t ∧ In64 k ∧ v = idV t k

theorem IdKey.inj {P : Program} {K : TypeId} (h : IdKey P K) {t k t' k' : Int} (h1 : In64 t) (h2 : In64 k) (h3 : In64 t') (h4 : In64 k') (e : idL t k = idL t' k') : t = t' ∧ k = k' := by
  have := h.law.inj (h.ofId t k h1 h2) (e ▸ h.ofId t' k' h3 h4)
  simpa [idV] using this
theorem IdKey.key {P : Program} {K : TypeId} (h : IdKey P K) {t k : Int} (h1 : In64 t) (h2 : In64 k) : WideAt.IsKeyLit (idL t k) := h.law.key (h.ofId t k h1 h2)

/-- a map as read has just these rows -/
structure MapL (D : DataW Unit) (L : List Rw) : Prop where
  size : Maps.size D = L.length
  has : ∀ t k, In64 t → In64 k → Maps.has D (idL t k) = (getS L t k).isSome
  at_ : ∀ r ∈ L, ∀ zd, D.atKey (idL r.table r.key) zd = rwD r
/-- the keys of all rows are numbers -/
def Rows64 (L : List Rw) : Prop := ∀ r ∈ L, In64 r.table ∧ In64 r.key
theorem GoodS.rows64 {s : StT} (g : GoodS s) : Rows64 s.rows := fun r hr => by
  have h := g.rows r hr
  unfold rowB at h
  simp only [Bool.and_eq_true, decide_eq_true_eq] at h
  unfold In64
  omega

/-- block b is a map with just these rows -/
def MapAt (P : Program) (K : TypeId) (w : World) (b : Nat) (L : List Rw) : Prop := ∃ D, w.ownsMap P K rwR b L.length D ∧ MapL D L

section
variable {P : Program} {K : TypeId} {w : World} {b : Nat} {L : List Rw}

theorem ownsMap_tight {n : Nat} {D : DataW Unit} (h : w.ownsMap P K rwR b n D) : w.ownsMap P K rwR b (Maps.size D) D := by
  obtain ⟨es, clock, hb, F, hs, rfl⟩ := h
  exact ⟨es, clock, hb, F, by simp [Maps.size, length_sorted], rfl⟩
theorem MapAt.of {n : Nat} {D : DataW Unit} (h : w.ownsMap P K rwR b n D) (m : MapL D L) : MapAt P K w b L := ⟨D, m.size ▸ ownsMap_tight h, m⟩
theorem MapAt.lt (h : MapAt P K w b L) : b < w.heap.size := h.choose_spec.1.lt
theorem MapAt.block {w' : World} (h : MapAt P K w b L) (hb : w'.heap[b]? = w.heap[b]?) : MapAt P K w' b L := by
  obtain ⟨D, ⟨es, clock, h1, F, h2, h3⟩, m⟩ := h
  exact ⟨D, ⟨es, clock, hb.trans h1, F, h2, h3⟩, m⟩
theorem mapL_nil : MapL (.map []) [] := ⟨rfl, fun _ _ _ _ => rfl, fun r h => by simp at h⟩
theorem mapAt_made (w : World) : MapAt P K (w.alloc (.map #[] 0)) w.heap.size [] := ⟨_, World.ownsMap_made w P K rwR, mapL_nil⟩

theorem MapL.put (I : IdKey P K) {D : DataW Unit} (m : MapL D L) (hD : Maps.Tidy D) (hs : SortS L) (h6 : Rows64 L) (x : Rw) (hx1 : In64 x.table) (hx2 : In64 x.key) : MapL (D.put (idL x.table x.key) (rwD x)) (insS L x) := by
  have hk := I.key hx1 hx2
  have hd : appC L ⟨x.table, x.key, false, (0, 0, 0), true, x.v⟩ = insS L x := rfl
  refine ⟨?_, fun t k ht hk' => ?_, fun r hr zd => ?_⟩
  · rw [Maps.size_put hD, m.has _ _ hx1 hx2, m.size]
    have := filter_len hs x.table x.key
    unfold insS
    rw [List.length_append, List.length_cons]
    cases e : getS L x.table x.key <;> simp [e] at this ⊢ <;> omega
  · by_cases e : x.table = t ∧ x.key = k
    · obtain ⟨rfl, rfl⟩ := e
      rw [Maps.has_put_same hD.isMap hk, ← hd, hs.get_same ⟨x.table, x.key, false, (0, 0, 0), true, x.v⟩]
      rfl
    · rw [Maps.has_put_other (fun e' => e (by have := I.inj ht hk' hx1 hx2 e'; exact ⟨this.1.symm, this.2.symm⟩)), m.has t k ht hk', ← hd, hs.get_other ⟨x.table, x.key, false, (0, 0, 0), true, x.v⟩ e]
  · rcases mem_insS.1 hr with rfl | ⟨hr, hne⟩
    · exact Maps.atKey_put_same hD.isMap hk _ _
    · rw [Maps.atKey_put_other (fun e' => hne (I.inj (h6 r hr).1 (h6 r hr).2 hx1 hx2 e'))]
      exact m.at_ r hr zd
theorem MapL.del (I : IdKey P K) {D : DataW Unit} (m : MapL D L) (hD : Maps.Tidy D) (hs : SortS L) (h6 : Rows64 L) (t k : Int) (hx1 : In64 t) (hx2 : In64 k) : MapL (D.del (idL t k)) (delS L t k) := by
  have hd : appC L ⟨t, k, false, (0, 0, 0), false, (0, 0, 0)⟩ = delS L t k := rfl
  refine ⟨?_, fun t' k' ht hk' => ?_, fun r hr zd => ?_⟩
  · have h1 := Maps.size_del (k := idL t k) hD
    rw [m.has _ _ hx1 hx2, m.size] at h1
    have := filter_len hs t k
    unfold delS
    rw [List.length_append]
    cases e : getS L t k <;> simp [e] at this h1 ⊢ <;> omega
  · by_cases e : t = t' ∧ k = k'
    · obtain ⟨rfl, rfl⟩ := e
      rw [Maps.has_del_same, ← hd, hs.get_same ⟨t, k, false, (0, 0, 0), false, (0, 0, 0)⟩]
      rfl
    · rw [Maps.has_del_other (fun e' => e (by have := I.inj ht hk' hx1 hx2 e'; exact ⟨this.1.symm, this.2.symm⟩)), m.has t' k' ht hk', ← hd, hs.get_other ⟨t, k, false, (0, 0, 0), false, (0, 0, 0)⟩ e]
  · obtain ⟨hr, hne⟩ := mem_delS.1 hr
    rw [Maps.atKey_del_other (fun e' => hne (I.inj (h6 r hr).1 (h6 r hr).2 hx1 hx2 e'))]
    exact m.at_ r hr zd

/-- 'v, ok := m[k]' -/
theorem MapAt.look (I : IdKey P K) {t e : TypeId} (h : MapAt P K w b L) (ht : P.underlying t = some (.map K e)) (hz : (zeroValue e).run P w = .ok (rwV rw0) w) {a k : Int} (ha : In64 a) (hk : In64 k) :
    (Instr.lookup t (.map (some b)) (idV a k) true).run P w = .ok (.tuple #[rwV ((getS L a k).getD rw0), .bool (getS L a k).isSome]) w := by
  obtain ⟨D, hown, m⟩ := h
  obtain ⟨v, ps, hrun, hv⟩ := hown.look_ok I.law ht hz (rwR_mk rw0) (I.ofId a k ha hk)
  obtain ⟨r, rfl, hr⟩ := rwR_inv hv
  have hr := (Prod.mk.inj hr).1
  rw [hrun, m.has a k ha hk]
  cases e : getS L a k with
  | none =>
    rw [Maps.atKey_of_not_has (by rw [m.has a k ha hk, e]; rfl)] at hr
    rw [← rwD_inj hr]
    rfl
  | some x =>
    obtain ⟨hx, rfl, rfl⟩ := getS_some e
    rw [m.at_ x hx] at hr
    rw [← rwD_inj hr]
    rfl
/-- 'm[k] = v' -/
theorem MapAt.put (I : IdKey P K) {t e : TypeId} (h : MapAt P K w b L) (ht : P.underlying t = some (.map K e)) (hs : SortS L) (h6 : Rows64 L) (hn : L.length < maxLen) (x : Rw) (hx1 : In64 x.table) (hx2 : In64 x.key) :
    ∃ w', (Instr.mapUpdate t (.map (some b)) (idV x.table x.key) (rwV x)).run P w = .ok () w' ∧ MapAt P K w' b (insS L x) ∧ w.mapTurned w' b := by
  obtain ⟨D, hown, m⟩ := h
  obtain ⟨w', h1, h2, h3⟩ := hown.store I.law ht hn (I.ofId _ _ hx1 hx2) (rwR_mk x)
  exact ⟨w', h1, .of h2 (m.put I (hown.tidy I.law) hs h6 x hx1 hx2), h3⟩
/-- 'delete(m, k)' -/
theorem MapAt.del (I : IdKey P K) {t e : TypeId} (h : MapAt P K w b L) (ht : P.underlying t = some (.map K e)) (hs : SortS L) (h6 : Rows64 L) (a k : Int) (hx1 : In64 a) (hx2 : In64 k) (ty : TypeId) :
    ∃ w', (Builtin.delete_ #[t, K] ty #[.map (some b), idV a k]).run P w = .ok (.tuple #[]) w' ∧ MapAt P K w' b (delS L a k) ∧ w.mapTurned w' b := by
  obtain ⟨D, hown, m⟩ := h
  obtain ⟨w', h1, h2, h3⟩ := hown.drop I.law ht (I.ofId _ _ hx1 hx2) ty
  exact ⟨w', h1, .of h2 (m.del I (hown.tidy I.law) hs h6 a k hx1 hx2), h3⟩
/-- 'len(m)' -/
theorem MapAt.len {t e : TypeId} (h : MapAt P K w b L) (ht : P.underlying t = some (.map K e)) (ty : TypeId) : (Builtin.len_ #[t] ty #[.map (some b)]).run P w = .ok (.int .i64 (L.length : Nat)) w := by
  obtain ⟨D, hown, m⟩ := h
  rw [← m.size]
  exact hown.len ht ty

/-- a loop over the map: those rows are still to come that 'left' names; so many -/
def MapGo (P : Program) (K : TypeId) (w : World) (b r : Nat) (L : List Rw) (left : Rw → Bool) (cnt : Nat) : Prop :=
  ∃ D f, w.ranges P K rwR b r L.length D f cnt ∧ MapL D L ∧ (∀ x ∈ L, f (idL x.table x.key) = left x) ∧ ∀ kl, f kl = true → ∃ x ∈ L, kl = idL x.table x.key
theorem MapGo.lt {r cnt : Nat} {left : Rw → Bool} (h : MapGo P K w b r L left cnt) : r < w.heap.size ∧ b < w.heap.size ∧ r ≠ b := by
  obtain ⟨D, f, h1, _⟩ := h
  exact ⟨h1.lt, h1.owns.lt, h1.ne⟩
theorem MapGo.kept {r cnt : Nat} {left : Rw → Bool} {w' : World} {row : Option Nat} (h : MapGo P K w b r L left cnt) (hg : w.grownBy w' row) (hb : some b ≠ row) (hr : some r ≠ row) : MapGo P K w' b r L left cnt := by
  obtain ⟨D, f, h1, h2⟩ := h
  exact ⟨D, f, h1.kept hg hb hr, h2⟩
theorem MapGo.map {r cnt : Nat} {left : Rw → Bool} (h : MapGo P K w b r L left cnt) : MapAt P K w b L := by
  obtain ⟨D, f, h1, h2, _⟩ := h
  exact ⟨D, h1.owns, h2⟩
theorem MapGo.left_eq {r cnt : Nat} {left : Rw → Bool} (h : MapGo P K w b r L left cnt) : w.rangeLeft b r = cnt := by
  obtain ⟨D, f, h1, _⟩ := h
  exact h1.left_eq

/-- 'range m' -/
theorem MapAt.range (I : IdKey P K) {t e : TypeId} (h : MapAt P K w b L) (ht : P.underlying t = some (.map K e)) (hs : SortS L) (h6 : Rows64 L) :
    ∃ w', (Instr.range t (.map (some b))).run P w = .ok (.pointer (some ⟨w.heap.size, 0, none⟩)) w' ∧ MapGo P K w' b w.heap.size L (fun _ => true) L.length ∧ w.grownBy w' none ∧ w'.heap.size = w.heap.size + 1 := by
  obtain ⟨D, hown, m⟩ := h
  obtain ⟨w', h1, h2, h3, h4⟩ := hown.range I.law ht
  rw [m.size] at h2
  refine ⟨w', h1, ⟨D, Maps.has D, h2, m, fun x hx => ?_, fun kl hkl => ?_⟩, h3, h4⟩
  · rw [m.has _ _ (h6 x hx).1 (h6 x hx).2, hs.get hx]
    rfl
  · obtain ⟨es, clock, since, seen, c0, g1, F, _, hD, _, _, _, g2, g3, _⟩ := id h2
    obtain ⟨y, hy, e⟩ := g3 kl hkl
    obtain ⟨z, hz⟩ := F.reads y hy
    rw [WideElems.rg_of hz] at e
    obtain ⟨a, k, ha, hk, ev⟩ := I.inv _ _ (WideElems.rd_key hz)
    have e2 := WideElems.rd_key hz
    rw [ev, I.ofId a k ha hk] at e2
    have e3 : kl = idL a k := by rw [← e]; exact (Option.some.inj e2).symm
    subst e3
    rw [m.has a k ha hk] at hkl
    obtain ⟨x, hx⟩ := Option.isSome_iff_exists.1 hkl
    obtain ⟨hxl, rfl, rfl⟩ := getS_some hx
    exact ⟨x, hxl, rfl⟩

/-- the step -/
theorem MapGo.next (I : IdKey P K) {r cnt : Nat} {left : Rw → Bool} (h : MapGo P K w b r L left cnt) (h6 : Rows64 L) (ty : TypeId) :
    ((∀ x ∈ L, left x = false) ∧ (Instr.next (.pointer (some ⟨r, 0, none⟩)) false ty).run P w = .ok (.tuple #[.bool false]) w) ∨
    ∃ x w' cnt', x ∈ L ∧ left x = true ∧ (Instr.next (.pointer (some ⟨r, 0, none⟩)) false ty).run P w = .ok (.tuple #[.bool true, idV x.table x.key, rwV x]) w' ∧
      MapGo P K w' b r L (fun y => left y && !decide (y = x)) cnt' ∧ cnt' < cnt ∧ w.grownBy w' (some r) ∧ w'.heap.size = w.heap.size ∧ (Instr.entry (.pointer (some ⟨r, 0, none⟩))).run P w' = .ok (.tuple #[idV x.table x.key, rwV x]) w' := by
  obtain ⟨D, f, h1, m, hf, hk⟩ := h
  rcases h1.next I.law ty with ⟨_, h0, hrun⟩ | ⟨key, v, kl, y, w', cnt', k1, k2, k3, k4, k5, k6, k7, k8, k9, k10⟩
  · exact .inl ⟨fun x hx => by rw [← hf x hx]; exact h0 _, hrun⟩
  · right
    obtain ⟨x, hx, rfl⟩ := hk kl k2
    have hx6 := h6 x hx
    have ek : key = idV x.table x.key := I.law.inj k1 (I.ofId _ _ hx6.1 hx6.2)
    obtain ⟨q, rfl, rfl⟩ := rwR_inv k3
    have e1 := k4 (.lit (.bool true))
    rw [m.at_ x hx] at e1
    obtain rfl := rwD_inj e1
    subst ek
    refine ⟨x, w', cnt', hx, by rw [← hf x hx]; exact k2, k5, ⟨D, _, k6, m, fun z hz => ?_, fun kl hkl => ?_⟩, k7, k8, k9, k10⟩
    · dsimp only
      rw [hf z hz]
      congr 2
      have hz6 := h6 z hz
      by_cases e : z = x
      · subst e
        rw [WideAt.sameKey_self (I.key hx6.1 hx6.2)]
        simp
      · rw [Maps.sameKey_ne (fun e' => ?_)]
        · simp [e]
        · obtain ⟨e1, e2⟩ := I.inj hz6.1 hz6.2 hx6.1 hx6.2 e'
          have a1 := m.at_ z hz (.lit (.bool true))
          have a2 := m.at_ x hx (.lit (.bool true))
          rw [e1, e2, a2] at a1
          exact e (rwD_inj a1).symm
    · simp only [Bool.and_eq_true] at hkl
      exact hk kl hkl.1
end
end Go.Proofs.YtgbemgndbemllaaGreatDoor
