/- Joined: HisP CutA OwA HisB FewA. -/
import Derived.Test.YtheebajklnljdaaGreatDoorQLbE
import Derived.Test.YtheebajklnljdaaGreatDoorGt
import Derived.Test.YtheebajklnljdaaGreatDoorGq
import Derived.Test.YtheebajklnljdaaGreatDoorGn
import Derived.Deep.DrawnRows
import Derived.Laws.AppendOwnNone
import Derived.Test.YtheebajklnljdaaGreatDoorGs

section
/- What binds a log's history, plain. -/
namespace Go.Proofs.YtheebajklnljdaaGreatDoor

theorem putL_cut {a b : Int} (ha : IntOk a) (hb : IntOk b) {x y : List UInt8} (h : putL a ++ x = putL b ++ y) : a = b ∧ x = y := by
  have e := putL_prefix a b ha hb x y h
  subst e
  exact ⟨rfl, List.append_cancel_left h⟩
theorem putsL_cut : ∀ (l m : List Int), l.length = m.length → (∀ z ∈ l, IntOk z) → (∀ z ∈ m, IntOk z) → ∀ {x y : List UInt8}, putsL l ++ x = putsL m ++ y → l = m ∧ x = y
  | [], [], _, _, _, x, y, h => ⟨rfl, h⟩
  | a :: l, b :: m, hl, ha, hb, x, y, h => by
    have h' : putL a ++ (putsL l ++ x) = putL b ++ (putsL m ++ y) := by simpa [putsL] using h
    obtain ⟨e1, h2⟩ := putL_cut (ha a (by simp)) (hb b (by simp)) h'
    obtain ⟨e2, e3⟩ := putsL_cut l m (by simpa using hl) (fun z hz => ha z (by simp [hz])) (fun z hz => hb z (by simp [hz])) h2
    exact ⟨by rw [e1, e2], e3⟩
  | [], _ :: _, h, _, _, _, _, _ => by simp at h
  | _ :: _, [], h, _, _, _, _, _ => by simp at h

theorem tri_inj {v w : Int × Int × Int} (h : tri v = tri w) : v = w := by
  obtain ⟨a, b, c⟩ := v
  obtain ⟨d, e, f⟩ := w
  unfold tri at h
  simp only [List.cons.injEq, and_true] at h
  rw [h.1, h.2.1, h.2.2]
theorem flagsC_inj {c d : Chg} (h : flagsC c = flagsC d) : c.had = d.had ∧ c.has = d.has := by
  unfold flagsC at h
  cases h1 : c.had <;> cases h2 : c.has <;> cases h3 : d.had <;> cases h4 : d.has <;> rw [h1, h2, h3, h4] at h <;> simp at h <;> simp
theorem flagsC_range (c : Chg) : 0 ≤ flagsC c ∧ flagsC c ≤ 3 := by
  unfold flagsC
  cases c.had <;> cases c.has <;> simp
theorem soundB_none {c : Chg} {v : Int × Int × Int} (h : soundB c false v = true) : v = (0, 0, 0) := by
  unfold soundB at h
  simpa using h
theorem chgB_none {c : Chg} (h : chgB c = true) : (c.had = false → c.old = (0, 0, 0)) ∧ (c.has = false → c.new = (0, 0, 0)) := by
  unfold chgB at h
  simp only [Bool.and_eq_true] at h
  exact ⟨fun e => soundB_none (by rw [← e]; exact h.1.2), fun e => soundB_none (by rw [← e]; exact h.2)⟩
theorem encChg_cut {c d : Chg} (hc : chgB c = true) (hd : chgB d = true) {x y : List UInt8} (h : encChg c ++ x = encChg d ++ y) : c = d ∧ x = y := by
  obtain ⟨-, c1, c2, c3, c4, c5⟩ := chgB_parts hc
  obtain ⟨-, d1, d2, d3, d4, d5⟩ := chgB_parts hd
  obtain ⟨n1, n2⟩ := chgB_none hc
  obtain ⟨m1, m2⟩ := chgB_none hd
  obtain ⟨f1, f2⟩ := flagsC_range c
  obtain ⟨g1, g2⟩ := flagsC_range d
  unfold encChg at h
  rw [List.append_assoc, List.append_assoc] at h
  obtain ⟨e1, h2⟩ := putsL_cut [c.table, c.key, flagsC c] [d.table, d.key, flagsC d] rfl
    (fun z hz => by simp only [List.mem_cons, List.not_mem_nil, or_false] at hz; unfold IntOk; rcases hz with rfl | rfl | rfl <;> omega)
    (fun z hz => by simp only [List.mem_cons, List.not_mem_nil, or_false] at hz; unfold IntOk; rcases hz with rfl | rfl | rfl <;> omega) h
  simp only [List.cons.injEq, and_true] at e1
  obtain ⟨t1, t2, t3⟩ := e1
  obtain ⟨s1, s2⟩ := flagsC_inj t3
  have hv : (valsC c).length = (valsC d).length := by
    unfold valsC tri
    rw [s1, s2]
    cases d.had <;> cases d.has <;> rfl
  obtain ⟨e2, h3⟩ := putsL_cut (valsC c) (valsC d) hv (fun z hz => by have := c5 z hz; unfold IntOk; omega) (fun z hz => by have := d5 z hz; unfold IntOk; omega) h2
  refine ⟨?_, h3⟩
  obtain ⟨ct, ck, ch, co, cs, cn⟩ := c
  obtain ⟨dt, dk, dh, d_o, ds, dn⟩ := d
  dsimp only at t1 t2 s1 s2 n1 n2 m1 m2
  subst t1 t2 s1 s2
  unfold valsC at e2
  dsimp only at e2
  cases ch <;> cases cs
  · simp only [Bool.false_eq_true, if_false, List.append_nil] at e2
    rw [n1 rfl, n2 rfl, m1 rfl, m2 rfl]
  · simp only [Bool.false_eq_true, if_false, if_true, List.nil_append] at e2
    rw [n1 rfl, m1 rfl, tri_inj e2]
  · simp only [Bool.false_eq_true, if_false, if_true, List.append_nil] at e2
    rw [n2 rfl, m2 rfl, tri_inj e2]
  · simp only [if_true] at e2
    obtain ⟨k1, k2⟩ := List.append_inj e2 rfl
    rw [tri_inj k1, tri_inj k2]
theorem encs_cut : ∀ (l m : List Chg), l.length = m.length → (∀ c ∈ l, chgB c = true) → (∀ c ∈ m, chgB c = true) → ∀ {x y : List UInt8}, l.flatMap encChg ++ x = m.flatMap encChg ++ y → l = m ∧ x = y
  | [], [], _, _, _, _, _, h => ⟨rfl, h⟩
  | a :: l, b :: m, hl, ha, hb, x, y, h => by
    rw [List.flatMap_cons, List.flatMap_cons, List.append_assoc, List.append_assoc] at h
    obtain ⟨e1, h2⟩ := encChg_cut (ha a (by simp)) (hb b (by simp)) h
    obtain ⟨e2, e3⟩ := encs_cut l m (by simpa using hl) (fun z hz => ha z (by simp [hz])) (fun z hz => hb z (by simp [hz])) h2
    exact ⟨by rw [e1, e2], e3⟩
  | [], _ :: _, h, _, _, _, _, _ => by simp at h
  | _ :: _, [], h, _, _, _, _, _ => by simp at h
/-- two valid records with the same encoding are equal -/
theorem encRec_inj {q r : Rec} (hq : recB q = true) (hr : recB r = true) (h : encRec q = encRec r) : q = r := by
  obtain ⟨q1, q2, q3, q4⟩ := recB_pos hq
  obtain ⟨r1, r2, r3, r4⟩ := recB_pos hr
  unfold encRec at h
  obtain ⟨e1, h2⟩ := putsL_cut [q.pos, (q.chs.length : Nat)] [r.pos, (r.chs.length : Nat)] rfl
    (fun z hz => by simp only [List.mem_cons, List.not_mem_nil, or_false] at hz; unfold IntOk; rcases hz with rfl | rfl <;> omega)
    (fun z hz => by simp only [List.mem_cons, List.not_mem_nil, or_false] at hz; unfold IntOk; rcases hz with rfl | rfl <;> omega) h
  simp only [List.cons.injEq, and_true] at e1
  have hl : q.chs.length = r.chs.length := by have := e1.2; omega
  obtain ⟨e2, -⟩ := encs_cut q.chs r.chs hl (recB_mem hq) (recB_mem hr) (x := []) (y := []) (by rw [List.append_nil, List.append_nil]; exact h2)
  obtain ⟨qp, qc⟩ := q
  obtain ⟨rp, rc⟩ := r
  dsimp only at e1 e2
  rw [e1.1, e2]

/-- a change that an integer determines is valid, alone in a record -/
theorem changeL_rec (n p : Int) (h1 : 1 ≤ p) (h2 : p ≤ 10000) : recB ⟨p, [changeL n]⟩ = true := by
  have ra := pickZ_range n 4 (by omega)
  have rb := pickZ_range (n.tdiv 4) 1000000 (by omega)
  have rd := pickZ_range n 1000 (by omega)
  unfold recB changeL
  generalize pickZ n 4 = a at *
  generalize pickZ (n.tdiv 4) 1000000 = b at *
  generalize pickZ n 1000 = d at *
  simp only [ascB, chgB, soundB, rowB, valB, List.length_singleton, Bool.and_eq_true, decide_eq_true_eq, Bool.or_eq_true, Bool.not_eq_true', Bool.and_true]
  simp
  omega

/-- the head behind some records -/
def hdAt (a : Hd) (st : List UInt8) (l : List Rec) (i : Nat) : Hd := if i = 0 then a else ⟨a.pos + i, (headsL a.chain ((l.take i).map encRec).reverse).2, st⟩
theorem hdAt_chain (a : Hd) (st : List UInt8) (l : List Rec) (i : Nat) : (hdAt a st l i).chain = (headsL a.chain ((l.take i).map encRec).reverse).2 := by
  unfold hdAt
  split
  · rename_i h; rw [h, List.take_zero]; rfl
  · rfl
theorem hdAt_pos (a : Hd) (st : List UInt8) (l : List Rec) (i : Nat) : (hdAt a st l i).pos = a.pos + i := by
  unfold hdAt
  split
  · rename_i h; rw [h]; simp
  · rfl
theorem heads_step (c0 : List UInt8) (l : List Rec) (i : Nat) (r : Rec) (h : l[i]? = some r) :
    headsL c0 ((l.take (i + 1)).map encRec).reverse = ((2 :: ((headsL c0 ((l.take i).map encRec).reverse).2 ++ encRec r)) :: (headsL c0 ((l.take i).map encRec).reverse).1, chainL (headsL c0 ((l.take i).map encRec).reverse).2 (encRec r)) := by
  rw [List.take_add_one, h, Option.toList_some, List.map_append, List.map_singleton, List.reverse_append, List.reverse_singleton]
  rfl

/-- the records fit behind a head -/
def FitL (a : Hd) (l : List Rec) : Prop := ∀ (i : Nat) r, l[i]? = some r → recB r = true ∧ r.pos = a.pos + i + 1

theorem hdAt_ok {a : Hd} {st : List UInt8} {l : List Rec} (ha : hdB a = true) (hs : st.length = 32) (hl : FitL a l) : ∀ i, i ≤ l.length → hdB (hdAt a st l i) = true
  | 0, _ => by unfold hdAt; rw [if_pos rfl]; exact ha
  | i + 1, h => by
    obtain ⟨r, hr⟩ : ∃ r, l[i]? = some r := ⟨_, List.getElem?_eq_getElem (by omega)⟩
    obtain ⟨h1, h2⟩ := hl i r hr
    obtain ⟨p1, p2, -, -⟩ := recB_pos h1
    have hc : (hdAt a st l (i + 1)).chain.length = 32 := by
      rw [hdAt_chain, heads_step _ _ _ _ hr]; rfl
    have hp := hdAt_pos a st l (i + 1)
    have h3 : (hdAt a st l (i + 1)).state = st := by unfold hdAt; rw [if_neg (by omega)]
    unfold hdB
    simp only [Bool.and_eq_true, decide_eq_true_eq]
    rw [h3]
    refine ⟨⟨⟨?_, ?_⟩, hc⟩, hs⟩ <;> rw [hp] <;> omega
theorem hdAt_next {a : Hd} {st : List UInt8} {l : List Rec} (ha : hdB a = true) (hs : st.length = 32) (hl : FitL a l) (i : Nat) (r : Rec) (hr : l[i]? = some r) :
    nextA (hdAt a st l i) r st = (hdAt a st l (i + 1), 0) := by
  have hlt := (List.getElem?_eq_some_iff.1 hr).1
  have hb := hdAt_ok ha hs hl i (by omega)
  obtain ⟨h1, h2⟩ := hl i r hr
  have hp := hdAt_pos a st l i
  rcases nextA_cases (hdAt a st l i) r st with ⟨_, _, _, _, h5⟩ | ⟨h5, _⟩
  · rw [h5, hdAt_chain]
    congr 1
    unfold hdAt
    rw [if_neg (by omega), heads_step _ _ _ _ hr]
    congr 1
    rw [h2]; omega
  · exact absurd ⟨h1, hb, hs, by omega⟩ h5
theorem walk_fit {a : Hd} {st : List UInt8} {l : List Rec} (ha : hdB a = true) (hs : st.length = 32) (hl : FitL a l) : walkA a l st = some (hdAt a st l l.length) := by
  have : ∀ k, k ≤ l.length → walkA a l st = walkA (hdAt a st l k) (l.drop k) st := by
    intro k
    induction k with
    | zero => intro _; rw [List.drop_zero]; rfl
    | succ k ih =>
      intro h
      obtain ⟨r, hr⟩ : ∃ r, l[k]? = some r := ⟨_, List.getElem?_eq_getElem (by omega)⟩
      have hn := hdAt_next ha hs hl k r hr
      rw [ih (by omega), walkA_go hr (by rw [hn]), hn]
  rw [this l.length (Nat.le_refl _), walkA_end _ _ _ _ (Nat.le_refl _)]

/-- a log's heads, one by one -/
theorem logN_head {rs : List Rec} (ok : RecsOk rs) {n k : Nat} (hk : k < n) (hn : n ≤ rs.length) {a : Hd} (ha : (logN rs n).heads[k]? = some a) {r : Rec} (hr : rs[k]? = some r) :
    (logN rs n).heads[k + 1]? = some ⟨r.pos, chainL a.chain (encRec r), stL (100 + (k : Int))⟩ := by
  obtain ⟨g, hrec, -⟩ := logN_spec ok k (by omega)
  obtain ⟨o1, o2⟩ := ok k r hr
  have hl : (logN rs k).recs.length = k := by rw [hrec, List.length_take]; omega
  have hlen := g.len
  obtain ⟨l1, e1⟩ := logN_heads ok k n (by omega) hn
  obtain ⟨l2, e2⟩ := logN_heads ok (k + 1) n (by omega) hn
  have hla : lastH (logN rs k) = a := by
    have := g.last
    rw [hl] at this
    rw [e1, List.getElem?_append_left (by omega), this] at ha
    exact Option.some.inj ha
  have hst : (logN rs (k + 1)).heads = (logN rs k).heads ++ [⟨r.pos, chainL a.chain (encRec r), stL (100 + (k : Int))⟩] := by
    rw [logN_step hr]
    rcases appA_cases g r (stL (100 + (k : Int))) with ⟨_, _, _, h4, h5⟩ | ⟨h1, _⟩
    · rw [h5]
      dsimp only
      rw [hla] at h4 ⊢
      rcases nextA_cases a r (stL (100 + (k : Int))) with ⟨_, _, _, _, h6⟩ | ⟨_, h6⟩
      · rw [h6]
      · rw [h6] at h4; exact absurd h4 (by decide)
    · exact absurd ⟨o1, stL_len _, by rw [o2, hl]⟩ h1
  rw [e2, hst, List.append_assoc, List.getElem?_append_right (by omega), show k + 1 - (logN rs k).heads.length = 0 by omega]
  rfl

theorem part_get (rs : List Rec) (first m i : Nat) (h : i < m) : ((rs.drop first).take m)[i]? = rs[first + i]? := by
  rw [List.getElem?_take, if_pos h, List.getElem?_drop]
theorem part_fit {rs : List Rec} (ok : RecsOk rs) {first m : Nat} {a : Hd} (ha : a.pos = first) : FitL a ((rs.drop first).take m) := by
  intro i r hr
  have hlt := (List.getElem?_eq_some_iff.1 hr).1
  rw [List.length_take] at hlt
  rw [part_get rs first m i (by omega)] at hr
  obtain ⟨h1, h2⟩ := ok _ r hr
  exact ⟨h1, by rw [h2, ha]; omega⟩
/-- the chain behind some records of a log -/
theorem log_chain {rs : List Rec} (ok : RecsOk rs) {n first : Nat} (hn : n ≤ rs.length) {a : Hd} (ha : (logN rs n).heads[first]? = some a) : ∀ (i m : Nat), i ≤ m → first + m ≤ n → ∃ h, (logN rs n).heads[first + i]? = some h ∧ h.chain = (headsL a.chain ((((rs.drop first).take m).take i).map encRec).reverse).2
  | 0, m, _, _ => ⟨a, ha, by rw [List.take_zero]; rfl⟩
  | i + 1, m, h1, h2 => by
    obtain ⟨h, e1, e2⟩ := log_chain ok hn ha i m (by omega) h2
    obtain ⟨r, hr⟩ : ∃ r, rs[first + i]? = some r := ⟨_, List.getElem?_eq_getElem (by omega)⟩
    have hp : ((rs.drop first).take m)[i]? = some r := by rw [part_get rs first m i (by omega)]; exact hr
    have := logN_head ok (n := n) (k := first + i) (by omega) hn e1 hr
    refine ⟨_, this, ?_⟩
    dsimp only
    rw [heads_step _ _ _ _ hp, e2]

/-- what History says -/
theorem hist_law {rs : List Rec} (ok : RecsOk rs) {n first m : Nat} (hn : n = rs.length) (hm : first + m ≤ n) {a b : Hd} (ha : (logN rs n).heads[first]? = some a) (hb : (logN rs n).heads[first + m]? = some b) :
    (hdB a = true ∧ hdB b = true ∧ b.state.length = 32 ∧ a.pos = first ∧ b.pos = first + m) ∧ FitL a ((rs.drop first).take m) ∧
    followsA a ((rs.drop first).take m) b = true ∧
    (0 < m → followsA a (((rs.drop first).take m).drop 1) b = false) ∧
    (∀ l, FitL a l → l.length = m → l ≠ (rs.drop first).take m → followsA a l b = true → collA (headsL a.chain (((rs.drop first).take m).map encRec).reverse).1.reverse (headsL a.chain (l.map encRec).reverse).1.reverse = true) := by
  obtain ⟨g, -, -⟩ := logN_spec ok n (by omega)
  obtain ⟨a1, a2⟩ := g.head _ _ ha
  obtain ⟨b1, b2⟩ := g.head _ _ hb
  have hs := (hdB_parts b1).2.2.2
  have fit := part_fit (m := m) ok a2
  have plen : ((rs.drop first).take m).length = m := by rw [List.length_take, List.length_drop]; omega
  have hw := walk_fit a1 hs fit
  rw [plen] at hw
  obtain ⟨h, e1, e2⟩ := log_chain ok (by omega) ha m m (Nat.le_refl _) hm
  rw [e1] at hb
  obtain rfl := Option.some.inj hb
  have hat : hdAt a h.state ((rs.drop first).take m) m = h := by
    unfold hdAt
    split
    · rename_i h0
      subst h0
      rw [Nat.add_zero, ha] at e1
      exact Option.some.inj e1
    · rw [← e2, a2]
      obtain ⟨p, c, s⟩ := h
      dsimp only at b2 ⊢
      rw [b2]
      congr 1
  refine ⟨⟨a1, b1, hs, a2, by rw [b2]; omega⟩, fit, ?_, fun h0 => ?_, fun l hl hlm hne hf => ?_⟩
  · unfold followsA
    rw [a1, b1, hw, hat]
    simp
  · unfold followsA
    rw [a1, b1, Bool.true_and, Bool.true_and]
    refine decide_eq_false fun e => ?_
    by_cases h1 : m = 1
    · have e0 : ((rs.drop first).take m).drop 1 = [] := List.drop_eq_nil_of_le (by omega)
      rw [e0] at e
      have : a = h := Option.some.inj e
      rw [this, b2] at a2
      omega
    · obtain ⟨r, hr⟩ : ∃ r, ((rs.drop first).take m)[1]? = some r := ⟨_, List.getElem?_eq_getElem (by omega)⟩
      obtain ⟨-, f2⟩ := fit 1 r hr
      have hno : (nextA a r h.state).2 ≠ 0 := by
        rcases nextA_cases a r h.state with ⟨_, _, _, h4, _⟩ | ⟨_, h5⟩
        · omega
        · rw [h5]; decide
      rw [walkA_no hr hno] at e
      cases e
  · have hwl := walk_fit a1 hs hl
    unfold followsA at hf
    rw [a1, b1, Bool.true_and, Bool.true_and, decide_eq_true_eq, hwl, hlm] at hf
    have hf := Option.some.inj hf
    have hc := congrArg Hd.chain hf
    rw [hdAt_chain, ← hlm, List.take_length] at hc
    have he2 := e2
    rw [List.take_take, Nat.min_self] at he2
    rw [he2] at hc
    rcases head_binding a.chain (hdB_parts a1).2.2.1 (((rs.drop first).take m).map encRec).reverse (l.map encRec).reverse hc.symm with k | k | ⟨k, -⟩ | ⟨k, -⟩
    · exfalso
      apply hne
      have k := List.reverse_inj.1 k
      apply List.ext_getElem?
      intro i
      have ki := congrArg (fun z => z[i]?) k
      simp only [List.getElem?_map] at ki
      cases h1 : l[i]? with
      | none =>
        rw [h1] at ki
        cases h2 : ((rs.drop first).take m)[i]? with
        | none => rfl
        | some q => rw [h2] at ki; cases ki
      | some r =>
        rw [h1] at ki
        cases h2 : ((rs.drop first).take m)[i]? with
        | none => rw [h2] at ki; cases ki
        | some q =>
          rw [h2] at ki
          rw [encRec_inj (fit i q h2).1 (hl i r h1).1 (Option.some.inj ki)]
    · exact collA_of k
    · simp only [List.length_reverse, List.length_map] at k; omega
    · simp only [List.length_reverse, List.length_map] at k; omega
/-- one record exchanged for another one that an integer determines -/
theorem fit_set {a : Hd} {l : List Rec} (h : FitL a l) {k : Nat} {r : Rec} (hk : l[k]? = some r) (n : Int) : FitL a (l.set k ⟨r.pos, [changeL n]⟩) := by
  intro i q hq
  by_cases e : k = i
  · subst e
    rw [List.getElem?_set_self (List.getElem?_eq_some_iff.1 hk).1] at hq
    obtain rfl := Option.some.inj hq
    obtain ⟨h1, h2⟩ := h k r hk
    obtain ⟨p1, p2, -, -⟩ := recB_pos h1
    exact ⟨changeL_rec n r.pos p1 p2, h2⟩
  · rw [List.getElem?_set_ne e] at hq
    exact h i q hq
theorem set_ne {l : List Rec} {k : Nat} {r q : Rec} (hk : l[k]? = some r) (h : q ≠ r) : l.set k q ≠ l := by
  intro e
  have h1 : (l.set k q)[k]? = some q := List.getElem?_set_self (List.getElem?_eq_some_iff.1 hk).1
  rw [e, hk] at h1
  exact h (Option.some.inj h1).symm
end Go.Proofs.YtheebajklnljdaaGreatDoor
end

section
/- The law's cut: a record's first changes, in memory of their own. -/
namespace Go.Proofs.YtheebajklnljdaaGreatDoor
open Go Go.RowKit
attribute [local go_sem] Oper.semAt_some

theorem wp_append_none {P : Program} {w : World} {o : Oper} {a : Act} {K : Act → World → Prop} {Q : Exit → Act → World → Prop} (s x : Operand) (t : TypeId)
    (ho : o.op = .call { callee := .builtin .append, args := #[s, x], argTypes := #[t, t] })
    (base : Nat) (e : TypeId) (i : TypeInfo) (size : Nat) (ht : P.underlying t = some (.slice e)) (hi : P.info? e = some i)
    (v : Value) (n : Nat) (xs : List Value) (hs : a.eval s = v) (hown : w.ownsRow base e size v n xs) (hx : a.eval x = .slice none 0 0)
    (h : K (a.put o.dst v) w) : o.wp P a w K Q := by
  have hrun := run_append_owned_none (P := P) (w := w) base t o.type e i size ht hi v n xs hown
  unfold Oper.wp
  simp [execOp, ho, resolve, invoke, builtin, hs, hx, hrun, Result.andThen]
  exact h

theorem chgs_take {w : World} {g o : Nat} {l : List Chg} (h : ∀ (j : Nat) x, l[j]? = some x → ∀ (i : Nat) u, (chgCells x)[i]? = some u → w.cell? ⟨g, o + j * 10 + i, none⟩ = some u) (m : Nat) :
    ∀ (j : Nat) x, (l.take m)[j]? = some x → ∀ (i : Nat) u, (chgCells x)[i]? = some u → w.cell? ⟨g, o + j * 10 + i, none⟩ = some u := by
  intro j x hx
  rw [List.getElem?_take] at hx
  split at hx
  · exact h j x hx
  · cases hx

set_option maxRecDepth 100000 in
set_option maxHeartbeats 1000000 in
theorem cut_ok (p : Int) (A : Option Addr) (c : Nat) (l : List Chg) (w : World) (hv : ChgsAt w (.slice A l.length c) l) (hA : A = none → c = 0) (hcm : c ≤ maxLen) :
    Calls Tryz.prog 11 #[recV p (.slice A l.length c)] w fun e w' => ∃ A' c', e = .returned (recV p (.slice A' (l.take 10).length c')) ∧ w'.ownsRow w.heap.size 72 10 (.slice A' (l.take 10).length c') (l.take 10).length ((l.take 10).flatMap chgCells) ∧ Below w.heap.size w w' := by
  unfold recV
  obtain ⟨i0, hi0, hz0, hz1, hz2⟩ := info_chg
  obtain ⟨m, hm⟩ : ∃ m, m = (l.take 10).length := ⟨_, rfl⟩
  have hm10 : m ≤ 10 := by rw [hm, List.length_take]; omega
  have hml : m ≤ l.length := by rw [hm, List.length_take]; omega
  have hmin : ∀ W, (Builtin.min_ #[ 3, 3 ] 3 #[.int .i64 (l.length : Int), .int .i64 10]).run Tryz.prog W = .ok (.int .i64 (m : Int)) W := by
    intro W
    have : min (l.length : Int) 10 = (m : Int) := by rw [hm, List.length_take]; omega
    rw [← this]
    simp [Builtin.min_, Builtin.min2]
    omega
  rw [← hm]
  have hcl : l.length ≤ c := by
    obtain ⟨A', c', e, h, _⟩ := hv
    injection e with _ _ e3
    omega
  have q1 : (0 : Int) ≤ (m : Int) := by omega
  have q2 : (m : Int) ≤ (c : Int) := by omega
  have al := Below.alloc (Below.alloc (Below.refl w.heap.size w) (Nat.le_refl _) (.cells #[.int .i64 p, .slice A l.length c] 35)) (by rw [World.size_alloc]; omega) (.cells #[.int .i64 0, .slice none 0 0] 35)
  have K0 := (BlkIs.new w 35 #[.int .i64 p, .slice A l.length c]).alloc (.cells #[.int .i64 0, .slice none 0 0] 35)
  have K1 := BlkIs.new (w.alloc (.cells #[.int .i64 p, .slice A l.length c] 35)) 35 #[.int .i64 0, .slice none 0 0]
  rw [World.size_alloc] at K1
  have AL := Lib.hid al
  have HK0 := Lib.hid K0
  have HK1 := Lib.hid K1
  have HM := Lib.hid hm
  have HV := Lib.hid hv
  clear al K0 K1 hm hv
  go_enter Tryz.func11, Tryz.ntmps11
  go_wp2_with fail
  generalize (w.alloc (.cells #[.int .i64 p, .slice A l.length c] 35)).alloc (.cells #[.int .i64 0, .slice none 0 0] 35) = w2 at *
  have hle2 := AL.out.size
  refine wp_region_noPanic ?_
  refine wp_region_ord (fun W => W.cell? ⟨w.heap.size, 0, none⟩ = some (.int .i64 p) ∧ W.cell? ⟨w.heap.size, 1, none⟩ = some (.slice A l.length c)) [(0, false), (1, false), (3, false), (4, false), (5, false), (6, false), (7, false), (8, false), (9, false), (2, true), (10, true), (11, true), (12, true)] (by kernel_rfl) (by as_aux_lemma => kernel_rfl) (by rfl) (by as_aux_lemma => kernel_rfl) (fun _ _ _ _ _ h => h) ⟨HK0.out.cell 0, HK0.out.cell 1⟩ (fun hHeld => ?_)
  repeat (
    apply SeqO.take0
    case ho => exact rfl
    case hg => exact rfl
    case hy => (intro w hSw; (try dsimp only at hSw); go_simp; try with_reducible rfl)
    try simp only [Act.put, List.setIfInBounds_toArray, List.set_cons_zero, List.set_cons_succ])
  apply SeqO.step0
  case ho => exact rfl
  case hg => exact rfl
  intro K hK
  go_simp
  have h3a := (HK0.out.alloc (.cells #[] 72)).drew
  have h3b := (HK1.out.alloc (.cells #[] 72)).drew
  have b3 : Below w.heap.size w (w2.alloc (.cells #[] 72)).drew := Below.drew (Below.alloc AL.out hle2 _)
  refine hK.out _ _ ⟨h3a.cell 0, h3a.cell 1⟩ (fun hHeld => ?_)
  clear hK K
  have own3 : (w2.alloc (.cells #[] 72)).drew.ownsRow w.heap.size 72 10 (.slice (some ⟨w2.heap.size, 0, none⟩) 0 0) 0 [] := (World.ownsRow_made w2 #[] 0 hle2 (Nat.zero_le _) rfl).drew
  generalize (w2.alloc (.cells #[] 72)).drew = w3 at *
  have hnews : ∀ ad, A = some ad → ∀ (j : Nat) u, ((l.take 10).flatMap chgCells)[j]? = some u → w3.cell? (ad.add j) = some u := by
    intro ad hAd j u hu
    obtain ⟨A', c', e, _, hx⟩ := HV.out
    injection e with e1 e2 e3
    subst e1
    by_cases h0 : 0 < l.length
    · obtain ⟨g, o, hA', hg, hj⟩ := hx h0
      rw [hAd] at hA'
      obtain rfl := Option.some.inj hA'
      exact (b3.cell (p := (⟨g, o, none⟩ : Addr).add j) (by rw [block_add]; exact hg)).trans (chgs_cells (chgs_take hj 10) j u hu)
    · have : l = [] := List.eq_nil_of_length_eq_zero (by omega)
      subst this
      simp at hu
  have hle3 := b3.size
  have HNW := Lib.hid hnews
  clear hnews
  apply SeqO.step0
  case ho => exact rfl
  case hg => exact rfl
  intro K hK
  rcases A with _ | ad
  · obtain rfl := hA rfl
    obtain rfl : m = 0 := by omega
    refine wp_append_none (.tmp 5) (.tmp 12) 33 rfl w.heap.size 72 i0 10 Tryz.underlying33 hi0 _ 0 [] rfl own3 rfl ?_
    have own5 : w3.ownsRow w.heap.size 72 10 (.slice (some ⟨w2.heap.size, 0, none⟩) 0 0) 0 ((l.take 10).flatMap chgCells) := by
      have : l = [] := List.eq_nil_of_length_eq_zero (by omega)
      subst this
      exact own3
    have k0 := h3a
    have k1 := h3b
    have b5 := b3
    have hle5 := b5.size
    clear own3 h3a h3b b3 hHeld
    refine hK.out _ _ ⟨k0.cell 0, k0.cell 1⟩ (fun hHeld => ?_)
    clear hK K
    try simp only [Act.put, List.setIfInBounds_toArray, List.set_cons_zero, List.set_cons_succ]
    apply SeqO.take0
    case ho => exact rfl
    case hg => exact rfl
    case hy => (intro w hSw; (try dsimp only at hSw); go_simp; try with_reducible rfl)
    try simp only [Act.put, List.setIfInBounds_toArray, List.set_cons_zero, List.set_cons_succ]
    apply SeqO.step0
    case ho => exact rfl
    case hg => exact rfl
    intro K hK
    have z0 : w3.cell? ⟨w.heap.size + 1, 0, none⟩ = some (.int .i64 0) := k1.cell 0
    have z1 : w3.cell? ⟨w.heap.size + 1, 1, none⟩ = some (.slice none 0 0) := k1.cell 1
    have f0 := k1.frozen 0
    have f1 := k1.frozen 1
    have s0 := (k1.set 0 (.int .i64 p)).set 1 (.slice (some ⟨w2.heap.size, 0, none⟩) 0 0)
    have s1 := (k0.other (p := ⟨w.heap.size + 1, 0, none⟩) (by simp) (.int .i64 p)).other (p := ⟨w.heap.size + 1, 1, none⟩) (by simp) (.slice (some ⟨w2.heap.size, 0, none⟩) 0 0)
    have s2 := (b5.setCell (p := ⟨w.heap.size + 1, 0, none⟩) (Nat.le_succ _) (.int .i64 p)).setCell (p := ⟨w.heap.size + 1, 1, none⟩) (Nat.le_succ _) (.slice (some ⟨w2.heap.size, 0, none⟩) 0 0)
    have s3 : ((w3.setCell ⟨w.heap.size + 1, 0, none⟩ (.int .i64 p)).setCell ⟨w.heap.size + 1, 1, none⟩ (.slice (some ⟨w2.heap.size, 0, none⟩) 0 0)).ownsRow w.heap.size 72 10 (.slice (some ⟨w2.heap.size, 0, none⟩) 0 0) 0 ((l.take 10).flatMap chgCells) := by
      have hO : Only (fun k => k = w.heap.size + 1) w3 ((w3.setCell ⟨w.heap.size + 1, 0, none⟩ (.int .i64 p)).setCell ⟨w.heap.size + 1, 1, none⟩ (.slice (some ⟨w2.heap.size, 0, none⟩) 0 0)) := by
        refine Only.trans (Only.setCell (S := fun k => k = w.heap.size + 1) w3 ⟨w.heap.size + 1, 0, none⟩ _ ?_) (Only.setCell (S := fun k => k = w.heap.size + 1) _ ⟨w.heap.size + 1, 1, none⟩ _ ?_) <;> rfl
      have hgg : w3.grownBy _ (some (w.heap.size + 1)) := ⟨hO.os, hO.tape, hO.output, hO.size, fun k hk hn => hO.block k hk fun e => hn (e ▸ rfl)⟩
      exact own5.kept hgg (.inr (k1.not_row (by decide) own5).symm)
    have S0 := Lib.hid s0
    have S1 := Lib.hid s1
    have S2 := Lib.hid s2
    have S3 := Lib.hid s3
    clear s0 s1 s2 s3 k0 k1 b5 own5
    go_simp
    refine hK.out _ _ ⟨S1.out.cell 0, S1.out.cell 1⟩ (fun hHeld => ?_)
    clear hK K hHeld
    try simp only [Act.put, List.setIfInBounds_toArray, List.set_cons_zero, List.set_cons_succ]
    refine SeqO.done ?_
    refine NoPanic.normal ?_
    generalize (w3.setCell ⟨w.heap.size + 1, 0, none⟩ (.int .i64 p)).setCell ⟨w.heap.size + 1, 1, none⟩ (.slice (some ⟨w2.heap.size, 0, none⟩) 0 0) = w6 at *
    have r0 : w6.cell? ⟨w.heap.size + 1, 0, none⟩ = some (.int .i64 p) := S0.out.cell 0
    have r1 : w6.cell? ⟨w.heap.size + 1, 1, none⟩ = some (.slice (some ⟨w2.heap.size, 0, none⟩) 0 0) := S0.out.cell 1
    go_wp2_with fail
    refine bodyPost_ret (by simp [results, Tryz.results11, go_sem, r0, r1]; try rfl) rfl ?_
    exact ⟨_, _, rfl, S3.out, S2.out⟩
  · have hfl : ((l.take 10).flatMap chgCells).length = m * 10 := by rw [flat_len chgCells 10 chgCells_len, HM.out]
    refine wp_append_own w3 (.tmp 5) (.tmp 12) 33 rfl w.heap.size 72 i0 (.agg #[.int .i64 0, .int .i64 0, .bool false, .int .i64 0, .int .i64 0, .int .i64 0, .bool false, .int .i64 0, .int .i64 0, .int .i64 0]) 10 80 Tryz.underlying33 hi0 hz0 hz1 hz2 rfl (by decide) _ 0 [] rfl own3 ad m c ((l.take 10).flatMap chgCells) rfl hfl (HNW.out ad rfl) (chgs_one _) (by unfold maxLen; omega) (by omega) hle3 ?_
    intro v5 w5 own5 g5 _
    have k0 := h3a.kept g5 (h3a.not_row (by decide) own3)
    have k1 := h3b.kept g5 (h3b.not_row (by decide) own3)
    have b5 := below_fresh b3 hle3 g5 (fun k hk => (own3.lt k hk).1)
    rw [Nat.zero_add, List.nil_append] at own5
    obtain ⟨A5, c5, rfl, -, -, -⟩ := ownsRow_form own5
    have hle5 := b5.size
    clear own3 h3a h3b b3 hHeld g5 hfl
    refine hK.out _ _ ⟨k0.cell 0, k0.cell 1⟩ (fun hHeld => ?_)
    clear hK K
    try simp only [Act.put, List.setIfInBounds_toArray, List.set_cons_zero, List.set_cons_succ]
    apply SeqO.take0
    case ho => exact rfl
    case hg => exact rfl
    case hy => (intro w hSw; (try dsimp only at hSw); go_simp; try with_reducible rfl)
    try simp only [Act.put, List.setIfInBounds_toArray, List.set_cons_zero, List.set_cons_succ]
    apply SeqO.step0
    case ho => exact rfl
    case hg => exact rfl
    intro K hK
    have z0 : w5.cell? ⟨w.heap.size + 1, 0, none⟩ = some (.int .i64 0) := k1.cell 0
    have z1 : w5.cell? ⟨w.heap.size + 1, 1, none⟩ = some (.slice none 0 0) := k1.cell 1
    have f0 := k1.frozen 0
    have f1 := k1.frozen 1
    have s0 := (k1.set 0 (.int .i64 p)).set 1 (.slice A5 m c5)
    have s1 := (k0.other (p := ⟨w.heap.size + 1, 0, none⟩) (by simp) (.int .i64 p)).other (p := ⟨w.heap.size + 1, 1, none⟩) (by simp) (.slice A5 m c5)
    have s2 := (b5.setCell (p := ⟨w.heap.size + 1, 0, none⟩) (Nat.le_succ _) (.int .i64 p)).setCell (p := ⟨w.heap.size + 1, 1, none⟩) (Nat.le_succ _) (.slice A5 m c5)
    have s3 : ((w5.setCell ⟨w.heap.size + 1, 0, none⟩ (.int .i64 p)).setCell ⟨w.heap.size + 1, 1, none⟩ (.slice A5 m c5)).ownsRow w.heap.size 72 10 (.slice A5 m c5) m ((l.take 10).flatMap chgCells) := by
      have hO : Only (fun k => k = w.heap.size + 1) w5 ((w5.setCell ⟨w.heap.size + 1, 0, none⟩ (.int .i64 p)).setCell ⟨w.heap.size + 1, 1, none⟩ (.slice A5 m c5)) := by
        refine Only.trans (Only.setCell (S := fun k => k = w.heap.size + 1) w5 ⟨w.heap.size + 1, 0, none⟩ _ ?_) (Only.setCell (S := fun k => k = w.heap.size + 1) _ ⟨w.heap.size + 1, 1, none⟩ _ ?_) <;> rfl
      have hgg : w5.grownBy _ (some (w.heap.size + 1)) := ⟨hO.os, hO.tape, hO.output, hO.size, fun k hk hn => hO.block k hk fun e => hn (e ▸ rfl)⟩
      exact own5.kept hgg (.inr (k1.not_row (by decide) own5).symm)
    have S0 := Lib.hid s0
    have S1 := Lib.hid s1
    have S2 := Lib.hid s2
    have S3 := Lib.hid s3
    clear s0 s1 s2 s3 k0 k1 b5 own5
    go_simp
    refine hK.out _ _ ⟨S1.out.cell 0, S1.out.cell 1⟩ (fun hHeld => ?_)
    clear hK K hHeld
    try simp only [Act.put, List.setIfInBounds_toArray, List.set_cons_zero, List.set_cons_succ]
    refine SeqO.done ?_
    refine NoPanic.normal ?_
    generalize (w5.setCell ⟨w.heap.size + 1, 0, none⟩ (.int .i64 p)).setCell ⟨w.heap.size + 1, 1, none⟩ (.slice A5 m c5) = w6 at *
    have r0 : w6.cell? ⟨w.heap.size + 1, 0, none⟩ = some (.int .i64 p) := S0.out.cell 0
    have r1 : w6.cell? ⟨w.heap.size + 1, 1, none⟩ = some (.slice A5 m c5) := S0.out.cell 1
    go_wp2_with fail
    refine bodyPost_ret (by simp [results, Tryz.results11, go_sem, r0, r1]; try rfl) rfl ?_
    exact ⟨_, _, rfl, S3.out, S2.out⟩
end Go.Proofs.YtheebajklnljdaaGreatDoor
end

section
/- What the walk of Owns keeps; Append of a nil log. -/
namespace Go.Proofs.YtheebajklnljdaaGreatDoor
open Go Go.RowKit
attribute [local go_sem] Oper.semAt_some

theorem append_nil (p : Int) (v : Value) (st : ByteArray) (w : World) (hv : ∃ A n c, v = .slice A n c) :
    Calls Tryz.prog 12 #[.pointer none, recV p v, .string st] w fun e w' => e = .returned (.int .i64 1) ∧ Below w.heap.size w w' := by
  obtain ⟨A, n, c, rfl⟩ := hv
  unfold recV
  have hb := Below.alloc1 w (.cells #[.int .i64 p, .slice A n c] 35)
  go_enter Tryz.func12, Tryz.ntmps12
  go_wp2_with fail
  go_ret
  exact ⟨rfl, by first | exact hb | exact Below.refl _ _⟩

theorem chgB_key {c : Chg} (h : chgB c = true) : c.key ≤ 1000000 := by
  unfold chgB soundB rowB at h
  obtain ⟨t, k, had, old, has, new⟩ := c
  dsimp only at h ⊢
  cases had <;> cases has <;> simp [Bool.and_eq_true, decide_eq_true_eq] at h <;> omega
theorem chgB_table {c : Chg} (h : chgB c = true) : c.table ≤ 3 := by
  unfold chgB soundB rowB at h
  obtain ⟨t, k, had, old, has, new⟩ := c
  dsimp only at h ⊢
  cases had <;> cases has <;> simp [Bool.and_eq_true, decide_eq_true_eq] at h <;> omega
theorem grown_of_only {w w' : World} {g : Nat} (h : Only (fun k => k = g) w w') : w.grownBy w' (some g) := ⟨h.os, h.tape, h.output, h.size, fun k hk hn => h.block k hk fun e => hn (e ▸ rfl)⟩

/-- the block of an owned row that is not empty -/
theorem ownsRow_whole {w : World} {base : Nat} {e : TypeId} {size : Nat} {v : Value} {n : Nat} {xs : List Value} (h : w.ownsRow base e size v n xs) (hn : 0 < n) :
    ∃ g c cs, v = .slice (some ⟨g, 0, none⟩) n c ∧ base ≤ g ∧ BlkIs w g e cs ∧ n ≤ c ∧ v.ownBlock = some g ∧ ∀ (j : Nat) u, xs[j]? = some u → cs[j]? = some u := by
  have hcells := @World.ownsRow.cells w base e size v n xs h
  rcases h.2 with ⟨rfl, h0⟩ | ⟨g, cap, cur, rfl, hb, hgb, hkc, hm, _, ht⟩
  · omega
  · refine ⟨g, cap, cur.toList, rfl, hb, by simpa [BlkIs] using hgb, hkc, rfl, fun j u hu => ?_⟩
    have h1 := hcells (g := g) rfl j u hu
    rw [add_zero_off] at h1
    have hK : BlkIs w g e cur.toList := by simpa [BlkIs] using hgb
    rw [hK.cell] at h1
    exact h1

/-- between the rounds of Owns' first loop: the box of the record; the log; the records from number k on -/
structure OwnJ (w w1 w2 w3 : World) (b : Nat) (x : Lg) (v : Value) (ps : List (Rec × Value)) (bx : List Value) (k : Nat) (W : World) : Prop where
  box : BlkIs W w.heap.size 35 bx
  log : LogAt W (fun j => w2.heap.size ≤ j ∧ j < w3.heap.size) b x
  row : W.ownsRow w1.heap.size 35 2 v ps.length (ps.flatMap recCells)
  rlt : ∀ g, v.ownBlock = some g → g < w2.heap.size
  chs : ∀ j q, k ≤ j → ps[j]? = some q → W.ownsRow w1.heap.size 72 10 q.2 q.1.chs.length (q.1.chs.flatMap chgCells)
  clt : ∀ q ∈ ps, ∀ g, q.2.ownBlock = some g → g < w2.heap.size
  ap : ps.Pairwise fun p q => p.2.ownBlock ≠ q.2.ownBlock
  bel : Below w.heap.size w W
  le1 : w.heap.size < w1.heap.size
  le2 : w1.heap.size ≤ w2.heap.size
  le3 : w2.heap.size ≤ w3.heap.size
  le4 : w3.heap.size ≤ W.heap.size

theorem OwnJ.later {w w1 w2 w3 : World} {b : Nat} {x : Lg} {v : Value} {ps : List (Rec × Value)} {bx : List Value} {k : Nat} {W W' : World} (h : OwnJ w w1 w2 w3 b x v ps bx k W) (hb : Below W.heap.size W W') : OwnJ w w1 w2 w3 b x v ps bx k W' :=
  ⟨h.box.later hb, h.log.below hb, ownsRow_later hb h.row, h.rlt, fun j q hj hq => ownsRow_later hb (h.chs j q hj hq), h.clt, h.ap, Below.next h.bel hb, h.le1, h.le2, h.le3, Nat.le_trans h.le4 hb.size⟩
/-- a store into what is newer -/
theorem OwnJ.wrote {w w1 w2 w3 : World} {b : Nat} {x : Lg} {v : Value} {ps : List (Rec × Value)} {bx : List Value} {k : Nat} {W : World} (h : OwnJ w w1 w2 w3 b x v ps bx k W) {q : Addr} (hq : w3.heap.size ≤ q.block) (u : Value) : OwnJ w w1 w2 w3 b x v ps bx k (W.setCell q u) := by
  have l1 := h.le1
  have l2 := h.le2
  have l3 := h.le3
  have hO := Only.setCell (S := fun j => j = q.block) W q u rfl
  have hG := grown_of_only hO
  have ne : ∀ {z : Value}, (∀ g, z.ownBlock = some g → g < w2.heap.size) → z.ownBlock = none ∨ z.ownBlock ≠ some q.block := fun hz => .inr fun e => by have := hz _ e; omega
  refine ⟨h.box.kept hG (by simp; omega), h.log.same (.of_only hO fun j hj e => by omega), h.row.kept hG (ne h.rlt), h.rlt, fun j p hj hp => (h.chs j p hj hp).kept hG (ne (h.clt p (List.mem_of_getElem? hp))), h.clt, h.ap, h.bel.trans (hO.below (fun j hj => by omega) h.bel.size), l1, l2, l3, Nat.le_trans h.le4 hO.size⟩
/-- a store into the changes of record number k -/
theorem OwnJ.next {w w1 w2 w3 : World} {b : Nat} {x : Lg} {v : Value} {ps : List (Rec × Value)} {bx : List Value} {k : Nat} {W : World} (h : OwnJ w w1 w2 w3 b x v ps bx k W) {p : Rec × Value} (hp : ps[k]? = some p) {q : Addr} (hq : p.2.ownBlock = some q.block) (hq1 : w1.heap.size ≤ q.block) (u : Value) : OwnJ w w1 w2 w3 b x v ps bx (k + 1) (W.setCell q u) := by
  have l1 := h.le1
  have l2 := h.le2
  have l3 := h.le3
  have hlt := h.clt p (List.mem_of_getElem? hp) _ hq
  have hO := Only.setCell (S := fun j => j = q.block) W q u rfl
  have hG := grown_of_only hO
  have hr := rows_apart2 (h.chs k p (Nat.le_refl _) hp) h.row (by decide)
  rw [hq] at hr
  refine ⟨h.box.kept hG (by simp; omega), h.log.same (.of_only hO fun j hj e => by omega), h.row.kept hG hr, h.rlt, fun j y hj hy => (h.chs j y (by omega) hy).kept hG (.inr ?_), h.clt, h.ap, h.bel.trans (hO.below (fun j hj => by omega) h.bel.size), l1, l2, l3, Nat.le_trans h.le4 hO.size⟩
  rw [← hq]
  obtain ⟨a1, a2⟩ := List.getElem?_eq_some_iff.1 hp
  obtain ⟨b1, b2⟩ := List.getElem?_eq_some_iff.1 hy
  have := List.pairwise_iff_getElem.1 h.ap k j a1 b1 (by omega)
  rw [a2, b2] at this
  exact this.symm
end Go.Proofs.YtheebajklnljdaaGreatDoor
end

section
/- Memory's laws for History: a part of a row of records; one record of a row turned. -/
namespace Go.Proofs.YtheebajklnljdaaGreatDoor
open Go Go.RowKit

/-- v is a slice of records with these values of their changes -/
def QsAt (w : World) (v : Value) (qs : List (Rec × Value)) : Prop :=
  ∃ A c, v = .slice A qs.length c ∧ qs.length ≤ c ∧ (0 < qs.length → ∃ g o, A = some ⟨g, o, none⟩ ∧ g < w.heap.size ∧ ∀ (j : Nat) q, qs[j]? = some q → w.cell? ⟨g, o + j * 2, none⟩ = some (.int .i64 q.1.pos) ∧ w.cell? ⟨g, o + j * 2 + 1, none⟩ = some q.2 ∧ ChgsAt w q.2 q.1.chs)
theorem QsAt.below {w w' : World} {v : Value} {qs : List (Rec × Value)} (h : QsAt w v qs) (hb : Below w.heap.size w w') : QsAt w' v qs := by
  obtain ⟨A, c, hv, hc, hx⟩ := h
  refine ⟨A, c, hv, hc, fun h0 => ?_⟩
  obtain ⟨g, o, hA, hlt, hj⟩ := hx h0
  refine ⟨g, o, hA, Nat.lt_of_lt_of_le hlt hb.size, fun j r hr => ?_⟩
  obtain ⟨h1, h2, h3⟩ := hj j r hr
  exact ⟨(hb.cell (p := ⟨g, o + j * 2, none⟩) hlt).trans h1, (hb.cell (p := ⟨g, o + j * 2 + 1, none⟩) hlt).trans h2, h3.below hb⟩
theorem QsAt.recs {w : World} {v : Value} {qs : List (Rec × Value)} (h : QsAt w v qs) : RecsAt w v (qs.map (·.1)) := by
  obtain ⟨A, c, rfl, hc, hx⟩ := h
  refine ⟨A, c, by rw [List.length_map], by rw [List.length_map]; exact hc, fun h0 => ?_⟩
  rw [List.length_map] at h0
  obtain ⟨g, o, hA, hg, hj⟩ := hx h0
  refine ⟨g, o, hA, hg, fun j r hr => ?_⟩
  rw [List.getElem?_map, Option.map_eq_some_iff] at hr
  obtain ⟨q, hq, rfl⟩ := hr
  obtain ⟨h1, h2, h3⟩ := hj j q hq
  exact ⟨h1, q.2, h2, h3⟩
theorem QsAt.at_ {w : World} {A : Option Addr} {n c : Nat} {qs : List (Rec × Value)} (h : QsAt w (.slice A n c) qs) {k : Nat} {q : Rec × Value} (hq : qs[k]? = some q) :
    ∃ g o, A = some ⟨g, o, none⟩ ∧ g < w.heap.size ∧ w.cell? ⟨g, o + k * 2, none⟩ = some (.int .i64 q.1.pos) ∧ w.cell? ⟨g, o + k * 2 + 1, none⟩ = some q.2 ∧ ChgsAt w q.2 q.1.chs := by
  obtain ⟨A', c', e0, hc, hj⟩ := h
  injection e0 with e1 e2 e3
  subst e1 e3
  have hlt := (List.getElem?_eq_some_iff.1 hq).1
  obtain ⟨g, o, rfl, hg, hj⟩ := hj (by omega)
  obtain ⟨h1, h2, h3⟩ := hj k q hq
  exact ⟨g, o, rfl, hg, h1, h2, h3⟩
theorem QsAt.drop1 {w : World} {A : Option Addr} {g o n c : Nat} {qs : List (Rec × Value)} (h : QsAt w (.slice A n c) qs) (hA : A = some ⟨g, o, none⟩) (hn : 0 < n) : QsAt w (.slice (some ⟨g, o + 2, none⟩) (n - 1) (c - 1)) (qs.drop 1) := by
  obtain ⟨A', c', e0, hc, hj⟩ := h
  injection e0 with e1 e2 e3
  subst e1 e3 hA
  refine ⟨some ⟨g, o + 2, none⟩, c - 1, by rw [List.length_drop, e2], by rw [List.length_drop]; omega, fun _ => ?_⟩
  obtain ⟨g', o', e, hg, hj⟩ := hj (by omega)
  injection e with e
  injection e with e1 e2 e3
  subst e1 e2
  refine ⟨g, o + 2, rfl, hg, fun j q hq => ?_⟩
  rw [List.getElem?_drop] at hq
  have := hj _ q hq
  rw [show o + (1 + j) * 2 = o + 2 + j * 2 by omega] at this
  exact this

/-- a part of an owned row of records -/
theorem part_row {w : World} {base n c : Nat} {A : Option Addr} {ps : List (Rec × Value)} (h : w.ownsRow base 35 2 (.slice A n c) n (ps.flatMap recCells)) (hn : ps.length = n) (hch : ∀ q ∈ ps, ChgsAt w q.2 q.1.chs) {p m : Nat} (hm : p + m ≤ n) (hc : n ≤ c) :
    QsAt w (.slice (if c = p then A else A.map (·.add (p * 2))) m (c - p)) ((ps.drop p).take m) := by
  have hl : ((ps.drop p).take m).length = m := by rw [List.length_take, List.length_drop]; omega
  obtain ⟨A', c', e0, _, _, hx⟩ := ownsRow_form h
  injection e0 with e1 _ e3
  subst e1 e3
  refine ⟨_, _, by rw [hl], by rw [hl]; omega, fun h0 => ?_⟩
  rw [hl] at h0
  obtain ⟨g, rfl, hg, -, hj⟩ := hx (by omega)
  refine ⟨g, p * 2, ?_, hg, fun j q hq => ?_⟩
  · rw [if_neg (by omega), Option.map_some, add_off, Nat.zero_add]
  · have hlt := (List.getElem?_eq_some_iff.1 hq).1
    rw [hl] at hlt
    rw [List.getElem?_take, if_pos hlt, List.getElem?_drop] at hq
    rw [show p * 2 + j * 2 = (p + j) * 2 by omega]
    exact ⟨hj _ _ (flat_get recCells 2 recCells_len ps (p + j) 0 q _ hq rfl), hj _ _ (flat_get recCells 2 recCells_len ps (p + j) 1 q _ hq rfl), hch q (List.mem_of_getElem? hq)⟩
/-- an owned row of records, read -/
theorem row_qs {w : World} {base n c : Nat} {A : Option Addr} {qs : List (Rec × Value)} (h : w.ownsRow base 35 2 (.slice A n c) n (qs.flatMap recCells)) (hn : qs.length = n) (hch : ∀ q ∈ qs, ChgsAt w q.2 q.1.chs) : QsAt w (.slice A n c) qs := by
  obtain ⟨A', c', e0, hc, _, hx⟩ := ownsRow_form h
  injection e0 with e1 _ e3
  subst e1 e3 hn
  refine ⟨_, _, rfl, hc, fun h0 => ?_⟩
  obtain ⟨g, rfl, hg, -, hj⟩ := hx h0
  refine ⟨g, 0, rfl, hg, fun j q hq => ?_⟩
  rw [Nat.zero_add]
  exact ⟨hj _ _ (flat_get recCells 2 recCells_len qs j 0 q _ hq rfl), hj _ _ (flat_get recCells 2 recCells_len qs j 1 q _ hq rfl), hch q (List.mem_of_getElem? hq)⟩
/-- one record of a row turned -/
theorem row_turn {w : World} {n c g : Nat} {cs : List Value} {qs : List (Rec × Value)} (hB : BlkIs w g 35 cs) (hcs : ∀ (j : Nat) u, (qs.flatMap recCells)[j]? = some u → cs[j]? = some u) (hn : qs.length = n) (hc : n ≤ c) {k : Nat} (r : Rec) (cv : Value)
    (hk : k < n) {w' : World} (hw : w' = (w.setCell ⟨g, k * 2, none⟩ (.int .i64 r.pos)).setCell ⟨g, k * 2 + 1, none⟩ cv) (hcv : ChgsAt w' cv r.chs) (hkeep : ∀ q ∈ qs, ChgsAt w' q.2 q.1.chs) : QsAt w' (.slice (some ⟨g, 0, none⟩) n c) (qs.set k (r, cv)) := by
  subst hn
  have hB2 := (hB.set (k * 2) (.int .i64 r.pos)).set (k * 2 + 1) cv
  rw [← hw] at hB2
  refine ⟨_, _, by rw [List.length_set], by rw [List.length_set]; exact hc, fun _ => ⟨g, 0, rfl, hB2.lt, fun j q hq => ?_⟩⟩
  rw [Nat.zero_add, hB2.cell, hB2.cell]
  by_cases hj : k = j
  · subst hj
    rw [List.getElem?_set_self hk] at hq
    obtain rfl := Option.some.inj hq
    obtain ⟨q0, h0⟩ : ∃ q, qs[k]? = some q := ⟨_, List.getElem?_eq_getElem hk⟩
    have l0 := (List.getElem?_eq_some_iff.1 (hcs _ _ (flat_get recCells 2 recCells_len qs k 0 q0 _ h0 rfl))).1
    have l1 := (List.getElem?_eq_some_iff.1 (hcs _ _ (flat_get recCells 2 recCells_len qs k 1 q0 _ h0 rfl))).1
    rw [Nat.add_zero] at l0
    refine ⟨?_, ?_, hcv⟩
    · rw [List.getElem?_set_ne (by omega), List.getElem?_set_self l0]
    · rw [List.getElem?_set_self (by rw [List.length_set]; exact l1)]
  · rw [List.getElem?_set_ne hj] at hq
    refine ⟨?_, ?_, hkeep q (List.mem_of_getElem? hq)⟩
    · rw [List.getElem?_set_ne (by omega), List.getElem?_set_ne (by omega)]
      exact hcs _ _ (flat_get recCells 2 recCells_len qs j 0 q _ hq rfl)
    · rw [List.getElem?_set_ne (by omega), List.getElem?_set_ne (by omega)]
      exact hcs _ _ (flat_get recCells 2 recCells_len qs j 1 q _ hq rfl)
/-- the cells of a slice of records, one by one -/
theorem qs_cells {w : World} {g o : Nat} {qs : List (Rec × Value)} (h : ∀ (j : Nat) q, qs[j]? = some q → w.cell? ⟨g, o + j * 2, none⟩ = some (.int .i64 q.1.pos) ∧ w.cell? ⟨g, o + j * 2 + 1, none⟩ = some q.2 ∧ ChgsAt w q.2 q.1.chs) :
    ∀ (j : Nat) u, (qs.flatMap recCells)[j]? = some u → w.cell? ((⟨g, o, none⟩ : Addr).add j) = some u := by
  intro j u hu
  rw [add_off]
  have hlt := (List.getElem?_eq_some_iff.1 hu).1
  rw [flat_len recCells 2 recCells_len] at hlt
  obtain ⟨x, hx⟩ : ∃ x, qs[j / 2]? = some x := ⟨_, List.getElem?_eq_getElem (by omega)⟩
  obtain ⟨h1, h2, -⟩ := h _ x hx
  rcases Nat.mod_two_eq_zero_or_one j with e | e
  · have hu2 := flat_get recCells 2 recCells_len qs (j / 2) 0 x _ hx rfl
    rw [show j / 2 * 2 + 0 = j by omega, hu] at hu2
    rw [Option.some.inj hu2, show o + j = o + j / 2 * 2 by omega]
    exact h1
  · have hu2 := flat_get recCells 2 recCells_len qs (j / 2) 1 x _ hx rfl
    rw [show j / 2 * 2 + 1 = j by omega, hu] at hu2
    rw [Option.some.inj hu2, show o + j = o + j / 2 * 2 + 1 by omega]
    exact h2
theorem qs_one {qs : List (Rec × Value)} (h : ∀ q ∈ qs, ∃ A n c, q.2 = .slice A n c) : ∀ u ∈ qs.flatMap recCells, u.oneCell' = true := by
  intro u hu
  obtain ⟨q, hq, h2⟩ := List.mem_flatMap.1 hu
  obtain ⟨A, n, c, e⟩ := h q hq
  exact recCells_one q (by rw [e]; rfl) u h2
theorem QsAt.get {w : World} {v : Value} {qs : List (Rec × Value)} (h : QsAt w v qs) (h0 : 0 < qs.length) : ∃ g o c, v = .slice (some ⟨g, o, none⟩) qs.length c ∧ g < w.heap.size ∧ qs.length ≤ c ∧ (∀ (j : Nat) u, (qs.flatMap recCells)[j]? = some u → w.cell? ((⟨g, o, none⟩ : Addr).add j) = some u) ∧ (∀ u ∈ qs.flatMap recCells, u.oneCell' = true) ∧ ∀ q ∈ qs, ChgsAt w q.2 q.1.chs := by
  obtain ⟨A, c, rfl, hc, hj⟩ := h
  obtain ⟨g, o, rfl, hg, hj⟩ := hj h0
  have hall : ∀ q ∈ qs, ChgsAt w q.2 q.1.chs := fun q hq => by
    obtain ⟨i, hi⟩ := List.getElem?_of_mem hq
    exact (hj i q hi).2.2
  refine ⟨g, o, c, rfl, hg, hc, qs_cells hj, qs_one fun q hq => ?_, hall⟩
  obtain ⟨A, c, e, _⟩ := hall q hq
  exact ⟨A, _, c, e⟩
/-- a slice of one change in a block of its own -/
theorem chg_one {w : World} {g : Nat} {ty : TypeId} {c : Chg} (h : BlkIs w g ty (chgCells c)) : ChgsAt w (.slice (some ⟨g, 0, none⟩) 1 1) [c] := by
  refine ⟨_, _, rfl, Nat.le_refl _, fun _ => ⟨g, 0, rfl, h.lt, fun j x hx i u hu => ?_⟩⟩
  have hj := (List.getElem?_eq_some_iff.1 hx).1
  simp only [List.length_singleton] at hj
  obtain rfl : j = 0 := by omega
  simp only [List.getElem?_cons_zero, Option.some.injEq] at hx
  subst hx
  rw [Nat.zero_mul, Nat.zero_add, h.cell]
  exact hu
end Go.Proofs.YtheebajklnljdaaGreatDoor
end

section
/- The law's few: a row of records whose changes are the call's own. -/
namespace Go.Proofs.YtheebajklnljdaaGreatDoor
open Go Go.RowKit

/-- v is a slice of records that came in -/
def RecsIn (w : World) (v : Value) (l : List Rec) : Prop :=
  ∃ A c, v = .slice A l.length c ∧ (0 < l.length → ∃ g o, A = some ⟨g, o, none⟩ ∧ g < w.heap.size ∧ ∀ (j : Nat) r, l[j]? = some r → w.cell? ⟨g, o + j * 2, none⟩ = some (.int .i64 r.pos) ∧
    ∃ Ac cc, w.cell? ⟨g, o + j * 2 + 1, none⟩ = some (.slice Ac r.chs.length cc) ∧ ChgsAt w (.slice Ac r.chs.length cc) r.chs ∧ (Ac = none → cc = 0) ∧ cc ≤ maxLen)
theorem RecsIn.at_ {w : World} {A : Option Addr} {c : Nat} {l : List Rec} (h : RecsIn w (.slice A l.length c) l) {k : Nat} {r : Rec} (hr : l[k]? = some r) :
    ∃ g o Ac cc, A = some ⟨g, o, none⟩ ∧ g < w.heap.size ∧ w.cell? ⟨g, o + k * 2, none⟩ = some (.int .i64 r.pos) ∧ w.cell? ⟨g, o + k * 2 + 1, none⟩ = some (.slice Ac r.chs.length cc) ∧ ChgsAt w (.slice Ac r.chs.length cc) r.chs ∧ (Ac = none → cc = 0) ∧ cc ≤ maxLen := by
  obtain ⟨A', c', e0, hj⟩ := h
  injection e0 with e1 _ e3
  subst e1 e3
  have hlt := (List.getElem?_eq_some_iff.1 hr).1
  obtain ⟨g, o, rfl, hg, hj⟩ := hj (by omega)
  obtain ⟨h1, Ac, cc, h2, h3, h4, h5⟩ := hj k r hr
  exact ⟨g, o, Ac, cc, rfl, hg, h1, h2, h3, h4, h5⟩
theorem RecsIn.form {w : World} {v : Value} {l : List Rec} (h : RecsIn w v l) : ∃ A c, v = .slice A l.length c := by
  obtain ⟨A, c, h, _⟩ := h
  exact ⟨A, c, h⟩

/-- the row as it grows; all of it newer than base -/
structure FewJ (base : Nat) (W : World) (v : Value) (ps : List (Rec × Value)) : Prop where
  row : W.ownsRow base 35 2 v ps.length (ps.flatMap recCells)
  chs : ∀ p ∈ ps, W.ownsRow base 72 10 p.2 p.1.chs.length (p.1.chs.flatMap chgCells)

theorem FewJ.nil (W : World) (base : Nat) : FewJ base W (.slice none 0 0) [] := ⟨World.ownsRow_nil _ _ _ _, by simp⟩
theorem FewJ.later {base : Nat} {W W' : World} {v : Value} {ps : List (Rec × Value)} (h : FewJ base W v ps) (hb : Below W.heap.size W W') : FewJ base W' v ps :=
  ⟨ownsRow_later hb h.row, fun p hp => ownsRow_later hb (h.chs p hp)⟩
theorem FewJ.qs {base : Nat} {W : World} {A : Option Addr} {n c : Nat} {ps : List (Rec × Value)} (h : FewJ base W (.slice A n c) ps) (hn : ps.length = n) : QsAt W (.slice A n c) ps := by
  have hr := h.row
  rw [hn] at hr
  exact row_qs hr hn fun q hq => ChgsOwn.chgs (S := fun _ => True) ⟨ownsRow_base0 (h.chs q hq), fun _ _ => trivial⟩
theorem FewJ.add {base : Nat} {W W' : World} {v v' cv : Value} {ps : List (Rec × Value)} {r : Rec} (h : FewJ base W v ps) (hg : W.grownBy W' v.ownBlock) (own : W'.ownsRow base 35 2 v' (ps.length + 1) (ps.flatMap recCells ++ recCells (r, cv)))
    (hc : W.ownsRow base 72 10 cv r.chs.length (r.chs.flatMap chgCells)) : FewJ base W' v' (ps ++ [(r, cv)]) := by
  refine ⟨?_, ?_⟩
  · rw [List.length_append, List.length_singleton, List.flatMap_append]
    simpa using own
  · intro p hp
    rcases List.mem_append.1 hp with hp | hp
    · exact (h.chs p hp).kept hg (rows_apart2 h.row (h.chs p hp) (by decide))
    · rw [List.mem_singleton] at hp
      subst hp
      exact hc.kept hg (rows_apart2 h.row hc (by decide))
theorem FewJ.bel {base : Nat} {w W W' : World} {v : Value} {ps : List (Rec × Value)} (h : FewJ base W v ps) {B : Nat} (hB : B ≤ base) (hb : Below B w W) (hle : B ≤ W.heap.size) (hg : W.grownBy W' v.ownBlock) : Below B w W' :=
  below_fresh hb hle hg fun k hk => Nat.le_trans hB (h.row.lt k hk).1

/-- what the law's walk keeps behind its first loop -/
structure HmZ (w : World) (a b : Hd) (fv : Value) (few : List Rec) (pv : Value) (P : List (List UInt8)) (W : World) : Prop where
  a : BlkIs W w.heap.size 46 (hdCells a)
  b : BlkIs W (w.heap.size + 1) 46 (hdCells b)
  few : RecsAt W fv few
  path : ListAt W pv P
  bel : Below w.heap.size w W
theorem HmZ.later {w : World} {a b : Hd} {fv : Value} {few : List Rec} {pv : Value} {P : List (List UInt8)} {W W' : World} (h : HmZ w a b fv few pv P W) (hb : Below W.heap.size W W') : HmZ w a b fv few pv P W' :=
  ⟨h.a.later hb, h.b.later hb, h.few.below hb, h.path.below hb, Below.next h.bel hb⟩

/-- strings that came in, cut, appended to an empty row -/
def StrsIn (w : World) (v : Value) (ss : List (List UInt8)) : Prop :=
  ∃ A c, v = .slice A ss.length c ∧ ss.length ≤ c ∧ (A = none → c = 0) ∧ c ≤ maxLen ∧ (0 < ss.length → ∃ g o, A = some ⟨g, o, none⟩ ∧ g < w.heap.size ∧ ∀ (j : Nat) x, ss[j]? = some x → w.cell? ⟨g, o + j, none⟩ = some (.string (str x)))
end Go.Proofs.YtheebajklnljdaaGreatDoor
end

