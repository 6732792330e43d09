/- The walk of LogtreeBinding (written by wip/mk_l09b.py). -/
import Derived.Test.YtheebajklnljdaaGreatDoorGn
import Derived.Test.YtheebajklnljdaaGreatDoorGo
import Derived.Test.YtheebajklnljdaaGreatDoorGq
import Derived.Test.YtheebajklnljdaaGreatDoorQLbC
import Derived.Test.YtheebajklnljdaaGreatDoorQLbE
import Derived.Deep.DeepCutAuto
namespace Go.Proofs.YtheebajklnljdaaGreatDoor
open Go Go.RowKit
attribute [local go_sem] Oper.semAt_some

theorem RecOwn.ok {W : World} {base : Nat} {v : Value} {ps : List (Rec × Value)} (h : RecOwn W base v ps) : RecsOk (ps.map (·.1)) := fun i r hr => by
  rw [List.getElem?_map, Option.map_eq_some_iff] at hr
  obtain ⟨p, hp, rfl⟩ := hr
  exact h.good i p hp

set_option maxRecDepth 100000 in
set_option maxHeartbeats 1000000 in
theorem bindingL_any (v : Value) (p0 : Int) (sc sr ss : ByteArray) (w : World) (hR : RoundOk w) (hv : IntRows w v) (hp1 : -9223372036854775808 ≤ p0) (hp2 : p0 ≤ 9223372036854775807) :
    Calls Tryz.prog 5 #[v, .int .i64 p0, .string sc, .string sr, .string ss] w fun e w' => e = .returned (.bool true) ∧ Below w.heap.size w w' := by
  have HV := Lib.hid hv
  have HR := Lib.hid hR
  have hgd := guardHd
  clear hv hR
  go_enter Tryz.func5, Tryz.ntmps5
  go_wp2_with fail
  refine (sane_ok w HR.out).mono ?_
  rintro e w1 ⟨rfl, b1⟩
  go_wp2_with fail
  refine (records_ok v w1 (HV.out.below b1)).mono ?_
  rintro e w2 ⟨v', ps, rfl, hro, hn12, b2⟩
  have hb2 := Below.next b1 b2
  obtain ⟨A1, c1, rfl, hc1⟩ := hro.form
  have hok := hro.ok
  have hrs := hro.recs
  obtain ⟨n, hn⟩ : ∃ n, n = ps.length := ⟨_, rfl⟩
  obtain ⟨rs, hrse⟩ : ∃ rs, rs = ps.map (·.1) := ⟨_, rfl⟩
  have hrl : rs.length = n := by rw [hrse, List.length_map, hn]
  rw [← hrse] at hok hrs
  rw [← hn] at hrs hc1 hn12 ⊢
  clear hrse hro hn
  obtain ⟨p, hp⟩ : ∃ p : Nat, pickZ p0 ((n : Int) + 1) = (p : Int) := ⟨(pickZ p0 ((n : Int) + 1)).toNat, by have := pickZ_range p0 ((n : Int) + 1) (by omega); omega⟩
  have hpn : p ≤ n := by have := pickZ_range p0 ((n : Int) + 1) (by omega); omega
  have hpk := fun W => pick_any p0 ((n : Int) + 1) W hp1 hp2 (by omega) (by omega)
  rw [hp] at hpk
  have HPK := Lib.hid hpk
  have hlg := logged_ok A1 c1 rs w2 (by rw [hrl]; exact hrs) hok (by omega) (HR.out.later hb2)
  rw [hrl] at hlg
  obtain ⟨gx, rx, -⟩ := logN_spec hok n (by omega)
  have hxr : (logN rs n).recs.length = n := by rw [rx, List.length_take, hrl]; omega
  obtain ⟨x, hx⟩ : ∃ x, x = logN rs n := ⟨_, rfl⟩
  rw [← hx] at gx hxr hlg
  have HLG := Lib.hid hlg
  have hxl : x.heads.length = n + 1 := by rw [gx.len, hxr]
  obtain ⟨h, hh⟩ : ∃ h, x.heads[p]? = some h := ⟨_, List.getElem?_eq_getElem (by omega)⟩
  obtain ⟨hhb, hhp⟩ := gx.head p h hh
  have hlaw := fun g k1 k2 O => @bind_law x gx n p hxr h hh g k1 k2 O
  have GX := Lib.hid gx
  have HH := Lib.hid hh
  have HHB := Lib.hid hhb
  have HHP := Lib.hid hhp
  have HXR := Lib.hid hxr
  have HXL := Lib.hid hxl
  have HLAW := Lib.hid hlaw
  clear hx gx hlg hpk hp rx hrl hrs hok hhb hhp hxr hlaw hh
  go_wp2_with fail
  refine (HLG.out).mono ?_
  rintro e w3 ⟨b, rfl, J3⟩
  have L3 := J3.1
  have hb3 := Below.next hb2 J3.2
  clear J3 HLG
  go_wp2_with fail
  refine (HPK.out _).mono ?_
  rintro e w4 ⟨rfl, rfl⟩
  have c1 := head_ok L3 (p : Int)
  rw [headA_in HH.out] at c1
  unfold hdV at c1
  have C1 := Lib.hid c1
  clear c1
  go_wp2_with fail
  refine (C1.out).mono ?_
  rintro e w5 ⟨rfl, b5⟩
  have al5 := Below.alloc1 w5 (.cells #[.int .i64 h.pos, .string (str h.chain), .string (str h.state)] 46)
  have K14 := BlkIs.new w5 46 #[.int .i64 h.pos, .string (str h.chain), .string (str h.state)]
  have b6 := Below.next b5 al5
  have L6 := L3.below b6
  have hb6 := Below.next hb3 b6
  have hpv := lprove2_ok L6 GX.out p (by rw [HXL.out]; omega) (HR.out.later hb6)
  obtain ⟨P, hP⟩ : ∃ P, P = proofL (leavesL x) p := ⟨_, rfl⟩
  have hPl : P.length ≤ 13 := by
    rw [hP]
    have := proofL_le' (leavesL x).length (leavesL x) p (Nat.le_refl _)
    rw [leavesL_len, HXL.out] at this
    omega
  have hP32 : ∀ y ∈ P, y.length = 32 := by rw [hP]; exact proofL_len32 (leavesL x).length (leavesL x) p (Nat.le_refl _)
  rw [← hP] at hpv
  have HPV := Lib.hid hpv
  have HP := Lib.hid hP
  have HP32 := Lib.hid hP32
  clear hpv hP hP32 C1
  go_wp2_with fail
  refine (HPV.out).mono ?_
  rintro e w7 ⟨A, c, rfl, own7, b7⟩
  have K7 := K14.later b7
  have L7 := L6.below b7
  have hb7 := Below.next hb6 b7
  have c0 : w7.cell? ⟨w5.heap.size, 0, none⟩ = some (.int .i64 h.pos) := K7.cell 0
  have c1 : w7.cell? ⟨w5.heap.size, 1, none⟩ = some (.string (str h.chain)) := K7.cell 1
  have c2 : w7.cell? ⟨w5.heap.size, 2, none⟩ = some (.string (str h.state)) := K7.cell 2
  have OWN7 := Lib.hid own7
  have HK7 := Lib.hid K7
  have HL7 := Lib.hid L7
  have HB7 := Lib.hid hb7
  clear HPV own7 K7 L7 hb7 b7 L6 hb6 b6 al5 b5 K14 L3 hb3 hb2 b1 b2
  go_upto_if 56 with fail
  clear c0 c1 c2
  have K18 := BlkIs.new w7 46 #[.int .i64 h.pos, .string (str h.chain), .string (str h.state)]
  have al7 := Below.alloc1 w7 (.cells #[.int .i64 h.pos, .string (str h.chain), .string (str h.state)] 46)
  have d1 : (w7.alloc (.cells #[.int .i64 h.pos, .string (str h.chain), .string (str h.state)] 46)).cell? ⟨w7.heap.size, 1, none⟩ = some (.string (str h.chain)) := K18.cell 1
  have f1 := K18.frozen 1
  go_cut [] (fun wx => ∃ ch : List UInt8, ch.length = 32 ∧ BlkIs wx w7.heap.size 46 [.int .i64 h.pos, .string (str ch), .string (str h.state)] ∧ Below w7.heap.size w7 wx)
  case first =>
    by_cases h32 : sc.size = 32
    · have t1 : ((sc.size : Int) == 32) = true := by simp only [beq_iff_eq]; omega
      go_wp2_with fail
      go_meet
      refine ⟨sc.data.toList, by simpa using h32, ?_, Below.alloc1 w7 _⟩
      rw [show str sc.data.toList = sc from mk_data sc]
      exact BlkIs.new w7 46 #[.int .i64 h.pos, .string sc, .string (str h.state)]
    · have t1 : ((sc.size : Int) == 32) = false := by simp only [beq_eq_false_iff_ne, ne_eq]; omega
      go_wp2_with fail
      go_meet
      exact ⟨h.chain, (hdB_parts HHB.out).2.2.1, K18, al7⟩
  case rest =>
    clear d1 f1 K18 al7
    obtain ⟨ch, hch, K18, hbc⟩ := hcut
    go_upto_if 61 with fail
    have d2 : wc.cell? ⟨w7.heap.size, 2, none⟩ = some (.string (str h.state)) := K18.cell 2
    have f2 := K18.frozen 2
    obtain ⟨wa, hwa⟩ : ∃ W, W = wc := ⟨_, rfl⟩
    rw [← hwa] at K18 hbc d2 f2 ⊢
    clear hwa wc
    go_cut [] (fun wx => ∃ st : List UInt8, st.length = 32 ∧ BlkIs wx w7.heap.size 46 [.int .i64 h.pos, .string (str ch), .string (str st)] ∧ Below w7.heap.size w7 wx)
    case first =>
      by_cases h32 : sr.size = 32
      · have t1 : ((sr.size : Int) == 32) = true := by simp only [beq_iff_eq]; omega
        go_wp2_with fail
        go_meet
        refine ⟨sr.data.toList, by simpa using h32, ?_, hbc.setCell (p := ⟨w7.heap.size, 2, none⟩) (Nat.le_refl _) _⟩
        have := K18.set 2 (.string sr)
        rw [show str sr.data.toList = sr from mk_data sr]
        exact this
      · have t1 : ((sr.size : Int) == 32) = false := by simp only [beq_eq_false_iff_ne, ne_eq]; omega
        go_wp2_with fail
        go_meet
        exact ⟨h.state, (hdB_parts HHB.out).2.2.2, K18, hbc⟩
    case rest =>
      clear d2 f2 K18 hbc
      obtain ⟨st, hst, K18, hbc⟩ := hcut
      obtain ⟨wd, hwd⟩ : ∃ W, W = wc := ⟨_, rfl⟩
      rw [← hwd] at K18 hbc ⊢
      clear hwd wc
      obtain ⟨i0, hi0, hz0, hz1, hz2⟩ := info_str
      have own := ownsRow_later hbc OWN7.out
      have h7d := K18.lt
      go_upto_region 16 with fail
      go_cut [19] (fun s19 wx => ∃ (A' : Option Addr) (c' : Nat), s19 = .slice A' P.length c' ∧ wx.ownsRow wd.heap.size 9 1 (.slice A' P.length c') P.length (svs P) ∧ Below wd.heap.size wd wx)
      case first =>
        have hm0 := World.ownsRow_made (e := 9) (size := 1) (base := wd.heap.size) wd #[] 0 (Nat.le_refl _) (Nat.zero_le _) rfl
        have al0 := Below.alloc1 wd (.cells #[] 9)
        rcases own.2 with ⟨hnil, hn0⟩ | ⟨g, cap, cur, hvv, hgb, hgg, hkc, hcm, hsz, htk⟩
        · injection hnil with e1 e2 e3
          subst e1 e3
          have hP0 : P = [] := List.eq_nil_of_length_eq_zero hn0
          subst hP0
          clear own e2 hn0
          go_wp2_with (at_builtin; refine wpList_append_own_none rfl _ _ 52 rfl wd.heap.size 9 i0 1 Tryz.underlying52 hi0 _ 0 [] rfl hm0 rfl ?_)
          go_meet
          exact ⟨_, _, rfl, hm0, al0⟩
        · injection hvv with e1 e2 e3
          subst e1 e3
          have hcells : ∀ (j : Nat) u, (svs P)[j]? = some u → (wd.alloc (.cells #[] 9)).cell? ((⟨g, 0, none⟩ : Addr).add j) = some u := by
            intro j u hu
            have := @World.ownsRow.cells _ _ _ _ _ _ _ (own.alloc (.cells #[] 9)) g rfl j u hu
            exact this
          have HCE := Lib.hid hcells
          clear own hgb hgg hsz htk hcells
          go_wp2_with (at_builtin; refine wpList_append_own _ rfl _ _ 52 rfl wd.heap.size 9 i0 (.string ⟨#[]⟩) 1 16 Tryz.underlying52 hi0 hz0 hz1 hz2 rfl (by decide) _ 0 [] rfl hm0 ⟨g, 0, none⟩ P.length c (svs P) rfl (by rw [svs_length]; omega) HCE.out (svs_one P) (by unfold maxLen; omega) (by omega) (by rw [World.size_alloc]; omega) ?_; intro v4 w4 own4 g4 _)
          rw [Nat.zero_add, List.nil_append] at own4
          obtain ⟨A5, c5, rfl, -, -, -⟩ := ownsRow_form own4
          have hb4 := below_fresh al0 (by rw [World.size_alloc]; omega) g4 (fun k hk => (hm0.lt k hk).1)
          go_meet
          exact ⟨_, _, rfl, own4, hb4⟩
      case rest =>
        obtain ⟨A', c', rfl, ownO, hbd⟩ := hcut
        have K18d := K18.later hbd
        have hbe := Below.next hbc hbd
        clear own K18 hbc hbd
        obtain ⟨we, hwe⟩ : ∃ W, W = wc := ⟨_, rfl⟩
        rw [← hwe] at K18d hbe ownO ⊢
        clear hwe wc
        go_upto_region 17 with fail
        obtain ⟨B, hB⟩ : ∃ B, B = decide (ss.size = 32 ∧ 0 < P.length) := ⟨_, rfl⟩
        have HBB := Lib.hid hB
        clear hB
        go_cut [74] (fun s74 wx => s74 = .bool B ∧ wx = we)
        case first =>
          by_cases h32 : ss.size = 32
          · have t1 : ((ss.size : Int) == 32) = true := by simp only [beq_iff_eq]; omega
            have t2 : decide (ss.size = 32 ∧ 0 < P.length) = decide (0 < P.length) := by simp [h32]
            have T2 := Lib.hid t2
            clear h32 t2
            go_wp2_with fail
            go_meet
            exact ⟨by rw [HBB.out, T2.out], rfl⟩
          · have t1 : ((ss.size : Int) == 32) = false := by simp only [beq_eq_false_iff_ne, ne_eq]; omega
            have t2 : decide (ss.size = 32 ∧ 0 < P.length) = false := by simp [h32]
            have T2 := Lib.hid t2
            clear h32 t2
            go_wp2_with fail
            go_meet
            exact ⟨by rw [HBB.out, T2.out], rfl⟩
        case rest =>
        obtain ⟨rfl, hwc⟩ := hcut
        rw [hwc]
        clear hwc wc
        go_upto_if 74 with fail
        go_cut [] (fun wx => ∃ O : List (List UInt8), O.length = P.length ∧ (∀ y ∈ O, y.length ≤ 100) ∧ ListAt wx (.slice A' P.length c') O ∧ BlkIs wx w7.heap.size 46 [.int .i64 h.pos, .string (str ch), .string (str st)] ∧ Below w7.heap.size w7 wx)
        case first =>
          have hbc := HBB.out
          cases B
          case true =>
            obtain ⟨h32, hp0⟩ : ss.size = 32 ∧ 0 < P.length := of_decide_eq_true hbc.symm
            clear hbc
            obtain ⟨q, hq⟩ : ∃ q : Nat, pickZ (n : Int) (P.length : Int) = (q : Int) := ⟨(pickZ (n : Int) (P.length : Int)).toNat, by have := pickZ_range (n : Int) (P.length : Int) (by omega); omega⟩
            have hql : q < P.length := by have := pickZ_range (n : Int) (P.length : Int) (by omega); omega
            have hpk2 := fun W => pick_any (n : Int) (P.length : Int) W (by omega) (by omega) (by omega) (by omega)
            rw [hq] at hpk2
            have HPK2 := Lib.hid hpk2
            obtain ⟨g', cap', cs', eA, hgb', hB', hcn, hcm, htk⟩ := ownsRow_blk ownO hp0
            injection eA with e1 e2 e3
            subst e1 e3
            obtain ⟨y, hy⟩ : ∃ y, P[q]? = some y := ⟨_, List.getElem?_eq_getElem hql⟩
            have hcell : we.cell? ⟨g', q, none⟩ = some (.string (str y)) := ownsRow_cell ownO q _ (by unfold svs; rw [List.getElem?_map, hy]; rfl)
            have hfr := hB'.frozen q
            have q0 : (0 : Int) ≤ (q : Int) := by omega
            have q1 : (q : Int) < (P.length : Int) := by omega
            have hLO : ListAt (we.setCell ⟨g', q, none⟩ (.string ss)) (.slice (some ⟨g', 0, none⟩) P.length c') (P.set q ss.data.toList) := by
              refine RowsAt.list ⟨by simp, hcn, by unfold maxLen at hcm; omega, (hB'.set q (.string ss)).lt, fun j z hz => ?_⟩
              rw [Nat.zero_add, (hB'.set q (.string ss)).cell]
              by_cases hjq : q = j
              · subst hjq
                rw [List.getElem?_set_self hql] at hz
                obtain rfl := Option.some.inj hz
                have hlc : q < cs'.length := by
                  have := congrArg List.length htk
                  rw [List.length_take, svs_length] at this
                  omega
                rw [List.getElem?_set_self hlc, show str ss.data.toList = ss from mk_data ss]
              · rw [List.getElem?_set_ne hjq] at hz
                rw [List.getElem?_set_ne hjq]
                have hjl := (List.getElem?_eq_some_iff.1 hz).1
                have : (svs P)[j]? = some (.string (str z)) := by unfold svs; rw [List.getElem?_map, hz]; rfl
                rw [← htk, List.getElem?_take, if_pos hjl] at this
                exact this
            have hK := K18d.other (p := ⟨g', q, none⟩) (show w7.heap.size ≠ g' by omega) (.string ss)
            have hbs := hbe.setCell (p := ⟨g', q, none⟩) (show w7.heap.size ≤ g' by omega) (.string ss)
            have HLO := Lib.hid hLO
            have HKK := Lib.hid hK
            have HBS := Lib.hid hbs
            clear hLO hK hbs hq hpk2 hy htk hB' ownO K18d hbe
            go_wp2_with fail
            refine (HPK2.out _).mono ?_
            rintro e wx ⟨rfl, rfl⟩
            go_wp2_with fail
            go_meet
            refine ⟨P.set q ss.data.toList, by simp, fun y hy => ?_, HLO.out, HKK.out, HBS.out⟩
            rcases List.mem_or_eq_of_mem_set hy with hy | rfl
            · have := HP32.out y hy; omega
            · have : ss.data.toList.length = ss.size := by simp
              omega
          case false =>
            have hLO := listAt_own ownO
            clear hbc
            go_wp2_with fail
            go_meet
            exact ⟨P, rfl, fun y hy => by have := HP32.out y hy; omega, hLO, K18d, hbe⟩
        case rest =>
          obtain ⟨O, hOl, hO32, LO, K18, hbf⟩ := hcut
          have HO32 := Lib.hid hO32
          clear hO32
          obtain ⟨wf, hwf⟩ : ∃ W, W = wc := ⟨_, rfl⟩
          rw [← hwf] at LO K18 hbf ⊢
          clear hwf wc ownO K18d hbe
          have LF := HL7.out.below hbf
          have K14 := HK7.out.later hbf
          have LP := listAt_own (ownsRow_later hbf OWN7.out)
          have hb := Below.next HB7.out hbf
          obtain ⟨G, hG⟩ : ∃ G : Hd, G = ⟨h.pos, ch, st⟩ := ⟨_, rfl⟩
          have hGB : hdB G = true := by
            obtain ⟨q1, q2, q3, q4⟩ := hdB_parts HHB.out
            rw [hG]
            unfold hdB
            simp only [Bool.and_eq_true, decide_eq_true_eq]
            exact ⟨⟨⟨q1, q2⟩, hch⟩, hst⟩
          obtain ⟨lawF, lawT⟩ := HLAW.out G hGB (by rw [hG]) O
          rw [← HP.out] at lawF lawT
          obtain ⟨V, hV⟩ : ∃ V, V = verA (rootA x) n G O := ⟨_, rfl⟩
          rw [← hV] at lawF lawT
          have croot : ∀ W, Below wf.heap.size wf W → Calls Tryz.prog 15 #[.pointer (some ⟨b, 0, none⟩)] W fun e w' => e = .returned (.string (str (rootA x))) ∧ Below wf.heap.size wf w' := fun W hW =>
            (lroot_ok (LF.below hW) GX.out (HR.out.later (Below.next hb hW))).mono fun e w' ⟨he, hb'⟩ => ⟨he, Below.next hW hb'⟩
          have cver : ∀ W, Below wf.heap.size wf W → Calls Tryz.prog 36 #[.string (str (rootA x)), .int .i64 n, .agg #[.int .i64 h.pos, .string (str ch), .string (str st)], .slice A' P.length c'] W fun e w' => e = .returned (.bool V) ∧ Below wf.heap.size wf w' := by
            intro W hW
            have := lverify_ok (str (rootA x)) n G _ O W (LO.below hW) (by omega) (HR.out.later (Below.next hb hW))
            rw [mk_toList, ← hV, hG] at this
            exact this.mono fun e w' ⟨he, hb'⟩ => ⟨he, Below.next hW hb'⟩
          have cells : ∀ W, Below wf.heap.size wf W → W.cell? ⟨w7.heap.size, 0, none⟩ = some (.int .i64 h.pos) ∧ W.cell? ⟨w7.heap.size, 1, none⟩ = some (.string (str ch)) ∧ W.cell? ⟨w7.heap.size, 2, none⟩ = some (.string (str st)) := fun W hW => ⟨(K18.later hW).cell 0, (K18.later hW).cell 1, (K18.later hW).cell 2⟩
          have henG := fun W => hencode_ok G W
          rw [show encA G = (encHd G, 0) from if_pos hGB, hG] at henG
          have henH := fun W => hencode_ok h W
          rw [show encA h = (encHd h, 0) from if_pos HHB.out] at henH
          unfold hdV at henG henH
          dsimp only at henG henH
          have hq := fun W => run_eqHd W ⟨h.pos, ch, st⟩ h
          dsimp only at hq
          rw [← hG] at hq
          have hlG := encHd_len hGB
          have hlH := encHd_len HHB.out
          obtain ⟨EG, hEG⟩ : ∃ E, E = encHd G := ⟨_, rfl⟩
          obtain ⟨EH, hEH⟩ : ∃ E, E = encHd h := ⟨_, rfl⟩
          rw [← hG, ← hEG] at henG
          rw [← hEH] at henH
          rw [← hEG, ← hEH] at lawT
          rw [← hEG] at hlG
          rw [← hEH] at hlH
          have HEG := Lib.hid henG
          have HEH := Lib.hid henH
          have CROOT := Lib.hid croot
          have CVER := Lib.hid cver
          have CELLS := Lib.hid cells
          have LAWF := Lib.hid lawF
          have LAWT := Lib.hid lawT
          have HHG := Lib.hid hG
          have HQ := Lib.hid hq
          have HLO := Lib.hid LO
          have HLP := Lib.hid LP
          have HK14 := Lib.hid K14
          have HBW := Lib.hid hb
          have hO13 : O.length ≤ 13 := by omega
          have HOL := Lib.hid hOl
          obtain ⟨g0, g1, g2⟩ := cells wf (Below.refl _ _)
          clear croot cver cells henG henH hq lawF lawT hV hGB hEG hEH LF K14 LP hb hbf LO K18 hOl hch hst hG
          have BJ : Below wf.heap.size wf wf.drew := Below.drew (Below.refl _ _)
          go_wp2_with fail
          go_region_held3 (fun W => W.cell? ⟨w7.heap.size, 0, none⟩ = some (.int .i64 h.pos) ∧ W.cell? ⟨w7.heap.size, 1, none⟩ = some (.string (str ch)) ∧ W.cell? ⟨w7.heap.size, 2, none⟩ = some (.string (str st))) (with_reducible exact CELLS.out _ BJ)
            (first
              | (go_at_call 15; (with_reducible refine (CROOT.out _ BJ).mono ?_); rintro e wx ⟨rfl, BJ⟩)
              | (go_at_call 36; (with_reducible refine (CVER.out _ BJ).mono ?_); rintro e wx ⟨rfl, BJ⟩)
              | fail)
          have hq := HQ.out
          have y0 : wx.cell? ⟨w5.heap.size, 0, none⟩ = some (.int .i64 h.pos) := (HK14.out.later BJ).cell 0
          have y1 : wx.cell? ⟨w5.heap.size, 1, none⟩ = some (.string (str h.chain)) := (HK14.out.later BJ).cell 1
          have y2 : wx.cell? ⟨w5.heap.size, 2, none⟩ = some (.string (str h.state)) := (HK14.out.later BJ).cell 2
          obtain ⟨z0, z1, z2⟩ := CELLS.out _ BJ
          have HBJ := Lib.hid BJ
          clear BJ g0 g1 g2
          cases V
          · by_cases hgh : G = h
            · rw [decide_eq_true hgh] at hq
              have hne := LAWF.out (by first | rfl | trivial) hgh
              have hsm := sameS_ok A' A c' c O P wx (by rw [HOL.out]; exact HLO.out.below HBJ.out) (HLP.out.below HBJ.out) (by omega)
              rw [HOL.out, decide_eq_false hne] at hsm
              have HSM := Lib.hid hsm
              clear hsm hgh hne
              go_wp2_with fail
              refine (HSM.out).mono ?_
              rintro e wy ⟨rfl, by1⟩
              have hby := Below.next (Below.next HBW.out HBJ.out) by1
              go_wp2_with fail
              go_ret
              exact ⟨rfl, hby⟩
            · rw [decide_eq_false hgh] at hq
              clear hgh
              go_wp2_with fail
              go_ret
              exact ⟨rfl, Below.next HBW.out HBJ.out⟩
          · clear hq
            go_wp2_with fail
            refine (HEH.out _).mono ?_
            rintro e wy ⟨rfl, by1⟩
            have BY := Below.next HBJ.out by1
            clear z0 z1 z2 y0 y1 y2
            obtain ⟨z0, z1, z2⟩ := CELLS.out _ BY
            have HBY := Lib.hid BY
            clear BY by1
            go_wp2_with fail
            refine (HEG.out _).mono ?_
            rintro e wz ⟨rfl, by2⟩
            have BZ := Below.next HBY.out by2
            clear z0 z1 z2 by2
            obtain ⟨z0, z1, z2⟩ := CELLS.out _ BZ
            have y0 : wz.cell? ⟨w5.heap.size, 0, none⟩ = some (.int .i64 h.pos) := (HK14.out.later BZ).cell 0
            have y1 : wz.cell? ⟨w5.heap.size, 1, none⟩ = some (.string (str h.chain)) := (HK14.out.later BZ).cell 1
            have y2 : wz.cell? ⟨w5.heap.size, 2, none⟩ = some (.string (str h.state)) := (HK14.out.later BZ).cell 2
            have HBZ := Lib.hid BZ
            have hq := HQ.out
            clear BZ
            by_cases hgh : G = h
            · rw [decide_eq_true hgh] at hq
              clear hgh
              go_wp2_with fail
              go_ret
              exact ⟨rfl, Below.next HBW.out HBZ.out⟩
            · rw [decide_eq_false hgh] at hq
              have hcol := LAWT.out (by first | rfl | trivial) hgh
              have hP32 := HP32.out
              have hpre1 := preimages_ok EH (by omega) P.reverse (n + 1) p (.slice A P.length c) wz (by rw [List.reverse_reverse]; exact HLP.out.below HBZ.out) (by omega) (by omega) (fun y hy => by have := hP32 y (List.mem_reverse.1 hy); omega) (by rw [List.length_reverse]; omega)
              have hO32 : ∀ y ∈ O, y.length ≤ 100 := HO32.out
              have hpre2 := fun (W : World) (hW : Below wf.heap.size wf W) => preimages_ok EG (by omega) O.reverse (n + 1) p (.slice A' P.length c') W (by rw [List.reverse_reverse]; exact HLO.out.below hW) (by omega) (by omega) (fun y hy => hO32 y (List.mem_reverse.1 hy)) (by rw [List.length_reverse]; omega)
              have hc1 := preL_count EH P.reverse (n + 1) p
              have hc2 := preL_count EG O.reverse (n + 1) p
              have hs1 := preL_brief EH (by omega) P.reverse (n + 1) p (fun y hy => by have := hP32 y (List.mem_reverse.1 hy); omega)
              have hs2 := preL_brief EG (by omega) O.reverse (n + 1) p (fun y hy => hO32 y (List.mem_reverse.1 hy))
              rw [List.length_reverse] at hc1 hc2
              obtain ⟨X1, hX1⟩ : ∃ X, X = preL EH P.reverse (n + 1) p := ⟨_, rfl⟩
              obtain ⟨X2, hX2⟩ : ∃ X, X = preL EG O.reverse (n + 1) p := ⟨_, rfl⟩
              rw [← hX1] at hpre1 hc1 hs1 hcol
              rw [← hX2] at hpre2 hc2 hs2 hcol
              have ecast : ((n + 1 : Nat) : Int) = (n : Int) + 1 := by omega
              rw [ecast] at hpre1 hpre2
              have HPR1 := Lib.hid hpre1
              have HPR2 := Lib.hid hpre2
              have HS1 := Lib.hid hs1
              have HS2 := Lib.hid hs2
              have HCOL := Lib.hid hcol
              have hx1 : X1.length ≤ 1000 := by omega
              have hx2 : X2.length ≤ 1000 := by omega
              clear hgh hcol hP32 hpre1 hpre2 hO32 hX1 hX2 hs1 hs2 ecast hc1 hc2
              go_wp2_with fail
              refine (HPR1.out).mono ?_
              rintro e wp ⟨v5, rfl, own5, bp⟩
              obtain ⟨A5, c5, rfl, -, -, -⟩ := ownsRow_form own5
              have BP := Below.next HBZ.out bp
              go_wp2_with fail
              refine (HPR2.out _ BP).mono ?_
              rintro e wq ⟨v6, rfl, own6, bq⟩
              obtain ⟨A6, c6, rfl, -, -, -⟩ := ownsRow_form own6
              have hcl := collide9_ok A5 A6 c5 c6 X1 X2 wq ((listAt_own own5).below bq) (listAt_own own6) hx1 hx2 (fun y hy => by have := HS1.out y hy; omega) (fun y hy => by have := HS2.out y hy; omega)
              rw [HCOL.out] at hcl
              have HCL := Lib.hid hcl
              have HBQ := Lib.hid (Below.next BP bq)
              clear hcl own5 own6 bp bq BP
              go_wp2_with fail
              refine (HCL.out).mono ?_
              rintro e wr ⟨rfl, br⟩
              have hfin := Below.next (Below.next HBW.out HBQ.out) br
              go_wp2_with fail
              go_ret
              exact ⟨rfl, hfin⟩
end Go.Proofs.YtheebajklnljdaaGreatDoor
