/- LoansMake: the walk. -/
import Derived.Test.YtfbhmamdckkimaaLoM
import Derived.Deep.DeepCutAuto
namespace Go.Proofs.Ytfbhmamdckkimaa
open Go.RowKit
set_option linter.unusedVariables false
set_option linter.unusedSimpArgs false

set_option maxHeartbeats 12800000 in
set_option maxRecDepth 100000 in
theorem loansMake_walk (A0 : Option Addr) (c0 : Nat) (L0 : List Lo) (A1 : Option Addr) (c1 : Nat) (L1 : List Lo) (x2 : Lo) (a3 : Int) (a4 : ByteArray) (w : World) (rd0 : Rd w w.heap.size 4 loC A0 L0) (g0 : ∀ x ∈ L0, LoOk w x) (hc0 : L0.length ≤ c0) (hm0 : c0 ≤ maxLen) (rd1 : Rd w w.heap.size 4 loC A1 L1) (g1 : ∀ x ∈ L1, LoOk w x) (hc1 : L1.length ≤ c1) (hm1 : c1 ≤ maxLen) (g2 : LoOk w x2) (i3 : (Lit.int .i64 a3).wf = true) (i4 : a4.size ≤ maxLen) :
    Calls Try.prog 4 #[.slice A0 L0.length c0, .slice A1 L1.length c1, .agg #[.string x2.pl.name, .slice x2.pl.pa x2.pl.path.length x2.pl.pc, .bool x2.alone, .int .i64 x2.till], .int .i64 a3, .string a4] w fun r w' => r = .returned (.bool true) ∧ Below w.heap.size w w' := by
  clear i3
  obtain ⟨W0, hW0⟩ : ∃ W0, W0 = w.alloc (.cells #[.string x2.pl.name, .slice x2.pl.pa x2.pl.path.length x2.pl.pc, .bool x2.alone, .int .i64 x2.till] 36) := ⟨_, rfl⟩
  have hb0 : Below w.heap.size w W0 := by rw [hW0]; exact (Below.refl _ _).alloc (Nat.le_refl _) _
  have hk0 : Blk W0 w.heap.size 36 #[.string x2.pl.name, .slice x2.pl.pa x2.pl.path.length x2.pl.pc, .bool x2.alone, .int .i64 x2.till] := by rw [hW0]; exact Blk.new _ _ _
  obtain ⟨m0, hmb0⟩ : ∃ b, manyB L0 = b := ⟨_, rfl⟩
  obtain ⟨m1, hmb1⟩ : ∃ b, manyB L1 = b := ⟨_, rfl⟩
  obtain ⟨lb, hlb⟩ : ∃ b, longB x2.pl = b := ⟨_, rfl⟩
  have hx0 := g2.next hb0
  have HM0 := Lib.hid (many_any A0 _ c0 L0 W0 rfl ((rd0.below hb0).more hb0.size) (fun x hx => (g0 x hx).next hb0) hc0 hm0 m0 hmb0)
  have HM1 := Lib.hid (fun W (h : Below W0.heap.size W0 W) => many_any A1 _ c1 L1 W rfl ((((rd1.below hb0).more hb0.size).below h).more h.size) (fun x hx => ((g1 x hx).next hb0).next h) hc1 hm1 m1 hmb1)
  have HX0 := Lib.hid hx0
  have HL := Lib.hid (fun W (h : Below W0.heap.size W0 W) => long_bool x2.pl hlb W (hx0.next h).pl)
  have HK0 := Lib.hid hk0
  have KB := Lib.hid hb0
  have HW := Lib.hid hW0
  obtain ⟨nsz, hns⟩ : ∃ n, a4.size = n := ⟨_, rfl⟩
  have hnsm : nsz ≤ 9223372036854775807 := by unfold maxLen at i4; omega
  cases m0 with
  | true =>
    clear rd0 g0 rd1 g1 g2 hmb0 hmb1 hlb hb0 hk0 hx0
    go_enter Try.func4, Try.ntmps4
    go_upto_region 1 with fail
    rw [← HW.out]
    clear hW0 HW
    go_wp2_with fail
    refine HM0.out.mono ?_
    rintro r w1 ⟨rfl, h1⟩
    have B1 := Lib.hid h1
    clear h1
    go_wp2
    go_ret
    exact ⟨rfl, KB.out.trans (B1.out.mono KB.out.size)⟩
  | false =>
    cases m1 with
    | true =>
      clear rd0 g0 rd1 g1 g2 hmb0 hmb1 hlb hb0 hk0 hx0
      go_enter Try.func4, Try.ntmps4
      go_upto_region 1 with fail
      rw [← HW.out]
      clear hW0 HW
      go_wp2_with fail
      refine HM0.out.mono ?_
      rintro r w1 ⟨rfl, h1⟩
      have B1 := Lib.hid h1
      clear h1
      go_wp2_with fail
      refine (HM1.out _ B1.out).mono ?_
      rintro r w2 ⟨rfl, h2⟩
      have B2 := Lib.hid (B1.out.trans (h2.mono B1.out.size))
      clear h2
      go_wp2
      go_ret
      exact ⟨rfl, KB.out.trans (B2.out.mono KB.out.size)⟩
    | false =>
      cases lb with
      | true =>
        clear rd0 g0 rd1 g1 g2 hmb0 hmb1 hlb hb0 hk0 hx0
        go_enter Try.func4, Try.ntmps4
        go_upto_region 1 with fail
        rw [← HW.out]
        clear hW0 HW
        go_wp2_with fail
        refine HM0.out.mono ?_
        rintro r w1 ⟨rfl, h1⟩
        have B1 := Lib.hid h1
        clear h1
        go_wp2_with fail
        refine (HM1.out _ B1.out).mono ?_
        rintro r w2 ⟨rfl, h2⟩
        have B2 := Lib.hid (B1.out.trans (h2.mono B1.out.size))
        have k2 := HK0.out.below B2.out HK0.out.lt
        have d0 := bl0 k2
        have d1 := bl1 k2
        clear h2 k2
        go_wp2_with fail
        refine (HL.out _ B2.out).mono ?_
        rintro r w3 ⟨rfl, h3⟩
        have B3 := Lib.hid (B2.out.trans (h3.mono B2.out.size))
        clear h3 d0 d1
        go_wp2
        go_ret
        exact ⟨rfl, KB.out.trans (B3.out.mono KB.out.size)⟩
      | false =>
        by_cases hlong : 1000 < nsz
        · have dl : (1000 : Int) < (nsz : Int) := by omega
          clear rd0 g0 rd1 g1 g2 hmb0 hmb1 hlb hb0 hk0 hx0
          go_enter Try.func4, Try.ntmps4
          go_upto_region 1 with fail
          rw [← HW.out]
          clear hW0 HW
          go_wp2_with fail
          refine HM0.out.mono ?_
          rintro r w1 ⟨rfl, h1⟩
          have B1 := Lib.hid h1
          clear h1
          go_wp2_with fail
          refine (HM1.out _ B1.out).mono ?_
          rintro r w2 ⟨rfl, h2⟩
          have B2 := Lib.hid (B1.out.trans (h2.mono B1.out.size))
          have k2 := HK0.out.below B2.out HK0.out.lt
          have d0 := bl0 k2
          have d1 := bl1 k2
          clear h2 k2
          go_wp2_with fail
          refine (HL.out _ B2.out).mono ?_
          rintro r w3 ⟨rfl, h3⟩
          have B3 := Lib.hid (B2.out.trans (h3.mono B2.out.size))
          clear h3 d0 d1
          go_wp2
          go_ret
          exact ⟨rfl, KB.out.trans (B3.out.mono KB.out.size)⟩
        · have dl : ¬ (1000 : Int) < (nsz : Int) := by omega
          obtain ⟨h0, h40, hp0⟩ := short_row rd0 g0 hc0 hmb0
          obtain ⟨h1, h41, hp1⟩ := short_row rd1 g1 hc1 hmb1
          have H0 := Lib.hid (h0.below hb0)
          have H1 := Lib.hid (h1.below hb0)
          have HP0 := Lib.hid hp0
          have HP1 := Lib.hid hp1
          have HPX := Lib.hid (show x2.pl.path.length ≤ 1000000 from Nat.le_trans (longB_no hlb).1 (by omega))
          obtain ⟨n0, hn0⟩ : ∃ n, L0.length = n := ⟨_, rfl⟩
          obtain ⟨n1, hn1⟩ : ∃ n, L1.length = n := ⟨_, rfl⟩
          have HN0 := Lib.hid hn0
          have HN1 := Lib.hid hn1
          rw [hn0] at H0 HM0 h40 ⊢
          rw [hn1] at H1 HM1 h41 ⊢
          clear h0 h1 hp0 hp1 hn0 hn1 hc0 hm0 hc1 hm1 i4
          clear rd0 g0 rd1 g1 g2 hmb0 hmb1 hlb hb0 hk0 hx0
          go_enter Try.func4, Try.ntmps4
          go_upto_region 1 with fail
          rw [← HW.out]
          clear hW0 HW
          go_wp2_with fail
          refine HM0.out.mono ?_
          rintro r w1 ⟨rfl, h1⟩
          have B1 := Lib.hid h1
          clear h1
          go_wp2_with fail
          refine (HM1.out _ B1.out).mono ?_
          rintro r w2 ⟨rfl, h2⟩
          have B2 := Lib.hid (B1.out.trans (h2.mono B1.out.size))
          have k2 := HK0.out.below B2.out HK0.out.lt
          have d0 := bl0 k2
          have d1 := bl1 k2
          clear h2 k2
          go_wp2_with fail
          refine (HL.out _ B2.out).mono ?_
          rintro r w3 ⟨rfl, h3⟩
          have B3 := Lib.hid (B2.out.trans (h3.mono B2.out.size))
          clear h3 d0 d1
          have k3 := HK0.out.below B3.out HK0.out.lt
          have d0 := bl0 k3
          have d1 := bl1 k3
          have d2 := bl2 k3
          have d3 := bl3 k3
          obtain ⟨V4, hV4⟩ : ∃ V, V = w3.alloc (.cells #[.string x2.pl.name, .slice x2.pl.pa x2.pl.path.length x2.pl.pc, .bool x2.alone, .int .i64 x2.till] 37) := ⟨_, rfl⟩
          have h4 : Below w3.heap.size w3 V4 := by rw [hV4]; exact (Below.refl _ _).alloc (Nat.le_refl _) _
          have KO4 := Lib.hid (show Blk V4 w3.heap.size 37 #[.string x2.pl.name, .slice x2.pl.pa x2.pl.path.length x2.pl.pc, .bool x2.alone, .int .i64 x2.till] by rw [hV4]; exact Blk.new _ _ _)
          have B4 := Lib.hid (B3.out.trans (h4.mono B3.out.size))
          have HV4 := Lib.hid hV4
          clear h4 hV4 k3
          go_upto_region 4 with fail
          rw [← HV4.out]
          clear HV4 d0 d1 d2 d3
          have k4 := HK0.out.below B4.out HK0.out.lt
          have d0 := bl0 k4
          have d1 := bl1 k4
          have d2 := bl2 k4
          have d3 := bl3 k4
          clear k4
          go_wp2_with fail
          refine (add_any A0 n0 c0 L0 x2 V4 (H0.out.below B4.out) (HX0.out.next B4.out) (by omega) HP0.out HPX.out).mono ?_
          rintro r w5 ⟨v5, rfl, hm5, h5⟩
          obtain ⟨Aa, ca, Oa, rfl, hra, hka, hoa, hya⟩ := hm5.row (Nat.le_trans (addL_len _ _) (by rw [List.length_map, HN0.out]; omega))
          obtain ⟨la, hla⟩ : ∃ n, (addL (L0.map Lo.key) x2.key).length = n := ⟨_, rfl⟩
          have HLA := Lib.hid (show la ≤ 1000 by rw [← hla]; exact Nat.le_trans (addL_len _ _) (by rw [List.length_map, HN0.out]; omega))
          have LTa := Lib.hid (lt_of hoa hya)
          have Sa := Lib.hid (sp_of (B := V4.heap.size) (by rw [← List.length_map (f := Lo.key), hka] at hoa; exact hoa) hya)
          have RA := Lib.hid hra
          have KA := Lib.hid hka
          rw [hla] at RA Sa ⊢
          have HLEA := Lib.hid hla
          have B5 := Lib.hid (B4.out.trans (h5.mono B4.out.size))
          have C45 := Lib.hid h5
          clear hm5 h5 hra hka hoa hya hla
          go_wp2_with fail
          refine (end_any A0 n0 c0 L0 a3 w5 (H0.out.below B5.out) HP0.out).mono ?_
          rintro r w6 ⟨v6, rfl, hm6, h6⟩
          obtain ⟨Ae, ce, Oe, rfl, hre, hke, hoe, hye⟩ := hm6.row (Nat.le_trans (List.length_filter_le _ _) (by rw [List.length_map, HN0.out]; omega))
          obtain ⟨le, hle⟩ : ∃ n, (endL (L0.map Lo.key) a3).length = n := ⟨_, rfl⟩
          have HLE := Lib.hid (show le ≤ 1000 by rw [← hle]; exact Nat.le_trans (List.length_filter_le _ _) (by rw [List.length_map, HN0.out]; omega))
          have LTe := Lib.hid (lt_of hoe hye)
          have Se := Lib.hid (sp_of (B := w5.heap.size) (by rw [← List.length_map (f := Lo.key), hke] at hoe; exact hoe) hye)
          have RE := Lib.hid hre
          have KE := Lib.hid hke
          rw [hle] at RE Se ⊢
          have HLEE := Lib.hid hle
          have B6 := Lib.hid (B5.out.trans (h6.mono B5.out.size))
          have C56 := Lib.hid h6
          clear hm6 h6 hre hke hoe hye hle
          go_wp2_with fail
          refine (union_any A0 A1 n0 n1 c0 c1 L0 L1 w6 (H0.out.below B6.out) (H1.out.below B6.out) (by omega) (by omega) HP0.out HP1.out).mono ?_
          rintro r w7 ⟨v7, rfl, hm7, h7⟩
          obtain ⟨Au, cu, Ou, rfl, hru, hku, hou, hyu⟩ := hm7.row (Nat.le_trans (unionL_len _ _) (by rw [List.length_map, List.length_map, HN0.out, HN1.out]; omega))
          obtain ⟨lu, hlu⟩ : ∃ n, (unionL (L0.map Lo.key) (L1.map Lo.key)).length = n := ⟨_, rfl⟩
          have HLU := Lib.hid (show lu ≤ 1000 by rw [← hlu]; exact Nat.le_trans (unionL_len _ _) (by rw [List.length_map, List.length_map, HN0.out, HN1.out]; omega))
          have LTu := Lib.hid (lt_of hou hyu)
          have Su := Lib.hid (sp_of (B := w6.heap.size) (by rw [← List.length_map (f := Lo.key), hku] at hou; exact hou) hyu)
          have RU := Lib.hid hru
          have KU := Lib.hid hku
          rw [hlu] at RU Su ⊢
          have HLEU := Lib.hid hlu
          have B7 := Lib.hid (B6.out.trans (h7.mono B6.out.size))
          have C67 := Lib.hid h7
          clear hm7 h7 hru hku hou hyu hlu
          go_wp2_with fail
          refine (of_any A0 n0 c0 L0 a4 w7 (H0.out.below B7.out) HP0.out).mono ?_
          rintro r w8 ⟨v8, rfl, hm8, h8⟩
          obtain ⟨Af, cf, Of, rfl, hrf, hkf, hof, hyf⟩ := hm8.row (Nat.le_trans (List.length_filter_le _ _) (by rw [List.length_map, HN0.out]; omega))
          obtain ⟨lf, hlf⟩ : ∃ n, (ofL (L0.map Lo.key) a4).length = n := ⟨_, rfl⟩
          have HLF := Lib.hid (show lf ≤ 1000 by rw [← hlf]; exact Nat.le_trans (List.length_filter_le _ _) (by rw [List.length_map, HN0.out]; omega))
          have LTf := Lib.hid (lt_of hof hyf)
          have Sf := Lib.hid (sp_of (B := w7.heap.size) (by rw [← List.length_map (f := Lo.key), hkf] at hof; exact hof) hyf)
          have RF := Lib.hid hrf
          have KF := Lib.hid hkf
          rw [hlf] at RF Sf ⊢
          have HLEF := Lib.hid hlf
          have B8 := Lib.hid (B7.out.trans (h8.mono B7.out.size))
          have C78 := Lib.hid h8
          clear hm8 h8 hrf hkf hof hyf hlf d0 d1 d2 d3
          obtain ⟨i0, hi0, hz0, hz1, hz2⟩ := info_parts infoR
          go_wp2
          go_loopw [16, 17] (fun v i wr => ∃ (k : Nat) (R : List Lo), k ≤ n0 ∧ i = .int .i64 k ∧ wr.ownsRow w8.heap.size 37 4 v R.length (R.flatMap loC) ∧ (∀ y ∈ R, y ∈ L0) ∧ R.map Lo.key = ofL ((L0.map Lo.key).take k) a4 ∧ Below w8.heap.size w8 wr) (fun _ i _ => n0 - (intOf i).toNat)
          case atStart => exact ⟨0, [], by omega, rfl, World.ownsRow_nil _ _ _ _, by simp, by simp [ofL], Below.refl _ _⟩
          case round =>
            obtain ⟨k, R, hk, rfl, hown, hsub, hkey, hbl⟩ := hrel
            have HBL := Lib.hid hbl
            have HO := Lib.hid hown
            have HSUB := Lib.hid hsub
            have HKY := Lib.hid hkey
            have hOl : R.length ≤ k := by
              have h1 := congrArg List.length hkey
              rw [List.length_map] at h1
              rw [h1]
              exact Nat.le_trans (List.length_filter_le _ _) (List.length_take_le _ _)
            obtain ⟨nr, hnr⟩ : ∃ n, R.length = n := ⟨_, rfl⟩
            have HNR := Lib.hid hnr
            rw [hnr] at HO hOl
            have BW := Lib.hid (B8.out.trans (hbl.mono B8.out.size))
            have hro := HO.out
            obtain ⟨Ar, cr, rfl⟩ := own_slice hro
            clear hown hsub hkey hbl hnr hro
            by_cases hlt : k < n0
            · obtain ⟨x, hx⟩ : ∃ x, L0[k]? = some x := ⟨_, List.getElem?_eq_getElem (by rw [HN0.out]; exact hlt)⟩
              have hkx : (L0.map Lo.key)[k]? = some x.key := by rw [List.getElem?_map, hx]; rfl
              have HFS := Lib.hid (show ofL ((L0.map Lo.key).take (k + 1)) a4 = if decide (x.pl.name = a4) then ofL ((L0.map Lo.key).take k) a4 ++ [x.key] else ofL ((L0.map Lo.key).take k) a4 from filter_succ hkx)
              obtain ⟨b, off, hA, hb, e0, _, _, _⟩ := ((H0.out.below BW.out).rd).lo hx
              have HLR := Lib.hid (H0.out.below BW.out)
              subst hA
              have hki : (k : Int) < (n0 : Int) := by omega
              have HX := Lib.hid hx
              clear hx hkx
              by_cases hnm : x.pl.name = a4
              · have e : (x.pl.name.toList == a4.toList) = true := by rw [hnm]; simp
                have HFT := Lib.hid (show ofL ((L0.map Lo.key).take (k + 1)) a4 = ofL ((L0.map Lo.key).take k) a4 ++ [x.key] by rw [HFS.out, decide_eq_true hnm]; rfl)
                clear hnm
                go_wp2_with fail
                refine (twin_row _ n0 c0 L0 wr HLR.out).mono ?_
                rintro r wt ⟨At, ct, rfl, hrt, ht⟩
                obtain ⟨bt, offt, hAt, hbt, t0, t1, t2, t3⟩ := hrt.rd.lo HX.out
                subst hAt
                obtain ⟨lx, hlx⟩ : ∃ n, x.pl.path.length = n := ⟨_, rfl⟩
                have HLX := Lib.hid hlx
                rw [hlx] at t1
                have BT := Lib.hid (BW.out.trans (ht.mono BW.out.size))
                have HBT := Lib.hid (HBL.out.trans (ht.mono HBL.out.size))
                have HO2 := Lib.hid (own_below HO.out ht)
                have HO3 := Lib.hid (HO2.out.alloc (.cells #[.string x.pl.name, .slice x.pl.pa lx x.pl.pc, .bool x.alone, .int .i64 x.till] 37))
                have HR1 := Lib.hid (rd_one (cells := loC) (x := x) loC_len (Blk.new wt 37 #[.string x.pl.name, .slice x.pl.pa lx x.pl.pc, .bool x.alone, .int .i64 x.till]) (by rw [← HLX.out]; rfl))
                have hs8 : w8.heap.size ≤ (wt.alloc (.cells #[.string x.pl.name, .slice x.pl.pa lx x.pl.pc, .bool x.alone, .int .i64 x.till] 37)).heap.size := by have := HBT.out.size; simp; omega
                have HS8 := Lib.hid hs8
                clear hrt ht e0 hlx hs8
                go_wp2_with (at_builtin; refine wpList_append_rd _ rfl _ _ 31 rfl w8.heap.size 37 i0 (.agg #[.string ByteArray.empty, .slice none 0 0, .bool false, .int .i64 0]) 4 56 Try.underlying31 hi0 hz0 hz1 hz2 rfl (by decide) _ nr _ rfl HO3.out _ _ 1 1 loC loC_len loC_one [x] rfl rfl HR1.out (by unfold maxLen; omega) (by omega) HS8.out ?_; intro v3 w3' hown3 hg3 _)
                have hbx : Below wt.heap.size wt (wt.alloc (.cells #[.string x.pl.name, .slice x.pl.pa lx x.pl.pc, .bool x.alone, .int .i64 x.till] 37)) := (Below.refl _ _).alloc (Nat.le_refl _) _
                have HBZ := Lib.hid ((HBT.out.trans (hbx.mono HBT.out.size)).grown hg3 HS8.out (fun q hq => (HO2.out.lt q hq).1))
                have HLZ := Lib.hid (show w3'.ownsRow w8.heap.size 37 4 v3 (R ++ [x]).length ((R ++ [x]).flatMap loC) by rw [List.length_append, List.flatMap_append, HNR.out]; simpa using hown3)
                have HSZ := Lib.hid (show ∀ y ∈ R ++ [x], y ∈ L0 by
                  intro z hz
                  rcases List.mem_append.1 hz with hz | hz
                  · exact HSUB.out z hz
                  · rw [List.mem_singleton.1 hz]; exact List.mem_of_getElem? HX.out)
                clear hown3 hg3 hbx
                go_wp2
                go_roundw
                case rel => exact ⟨k + 1, R ++ [x], by omega, by go_num, HLZ.out, HSZ.out, by rw [List.map_append, HKY.out, HFT.out]; rfl, HBZ.out⟩
                case measure => simp [intOf] <;> omega
              · have e := tol_ne hnm
                have HFT := Lib.hid (show ofL ((L0.map Lo.key).take (k + 1)) a4 = ofL ((L0.map Lo.key).take k) a4 by rw [HFS.out, decide_eq_false hnm]; rfl)
                clear hnm
                go_wp2
                go_roundw
                case rel => exact ⟨k + 1, R, by omega, by go_num, by rw [HNR.out]; exact HO.out, HSUB.out, by rw [HKY.out, HFT.out], HBL.out⟩
                case measure => simp [intOf] <;> omega
            · obtain rfl : k = n0 := by omega
              obtain ⟨A3, c3, e, hwrow⟩ := row_own (w := w) HO.out HNR.out (fun y hy => (H0.out.below BW.out).ok y (HSUB.out y hy)) (by omega)
              injection e with e1 e2 e3
              subst e1 e3
              clear e2
              have hkf : R.map Lo.key = ofL (L0.map Lo.key) a4 := by rw [HKY.out, List.take_of_length_le (by rw [List.length_map, HN0.out]; exact Nat.le_refl _)]
              obtain rfl : nr = lf := by rw [← HNR.out, ← List.length_map (f := Lo.key), hkf, HLEF.out]
              have HWR := Lib.hid hwrow
              have HKW := Lib.hid hkf
              clear hwrow hkf HO HKY HSUB hOl
              obtain ⟨V9, hV9⟩ : ∃ V : World, V = wr := ⟨_, rfl⟩
              rw [← hV9] at BW HBL HWR ⊢
              clear hV9
              have D89 := HBL
              have D79 := Lib.hid (C78.out.trans (D89.out.mono C78.out.size))
              have D69 := Lib.hid (C67.out.trans (D79.out.mono C67.out.size))
              have D59 := Lib.hid (C56.out.trans (D69.out.mono C56.out.size))
              have D49 := Lib.hid (C45.out.trans (D59.out.mono C45.out.size))
              clear HBL
              have HGL := Lib.hid (show w3.heap.size < V9.heap.size from Nat.lt_of_lt_of_le KO4.out.lt D49.out.size)
              have hko := KO4.out.below D49.out KO4.out.lt
              have hS0 : Sl V9 w3.heap.size x2 V9.drew := ⟨bl0 hko, bl1 hko, bl2 hko, bl3 hko, (Below.refl _ _).drew⟩
              unfold Sl at hS0
              have HTA := Lib.hid (fun W (h : Below V9.heap.size V9 W) => twin_row A0 k c0 L0 W (H0.out.below (BW.out.trans (h.mono BW.out.size))))
              have HTB := Lib.hid (fun W (h : Below V9.heap.size V9 W) => twin_row A1 n1 c1 L1 W (H1.out.below (BW.out.trans (h.mono BW.out.size))))
              have HRA := Lib.hid (fun W (h : Below V9.heap.size V9 W) (A : Option Addr) (c : Nat) (hr : LoRow W A k c L0) => (radd_any A k c L0 x2 W hr (HX0.out.next (BW.out.trans (h.mono BW.out.size))) (by omega)).mono (fun r w' hh => RowIs.len HLEA.out hh))
              have HRE := Lib.hid (fun W (h : Below V9.heap.size V9 W) (A : Option Addr) (c : Nat) (hr : LoRow W A k c L0) => (rend_any A k c L0 a3 W hr).mono (fun r w' hh => RowIs.len HLEE.out hh))
              have HRU := Lib.hid (fun W (h : Below V9.heap.size V9 W) (A : Option Addr) (c : Nat) (hr : LoRow W A k c L0) (A' : Option Addr) (c' : Nat) (hr' : LoRow W A' n1 c' L1) => (runion_any A A' k n1 c c' L0 L1 W hr hr' (by omega) (by omega)).mono (fun r w' hh => RowIs.len HLEU.out hh))
              have HYA := Lib.hid (fun W (h : Below V9.heap.size V9 W) (A : Option Addr) (c : Nat) (O : List Lo) (hr : LoRow W A la c O) (hk : O.map Lo.key = addL (L0.map Lo.key) x2.key) => alike_any Aa A la ca c Oa O W (RA.out.below (D59.out.trans (h.mono D59.out.size))) hr (KA.out.trans hk.symm))
              have HYE := Lib.hid (fun W (h : Below V9.heap.size V9 W) (A : Option Addr) (c : Nat) (O : List Lo) (hr : LoRow W A le c O) (hk : O.map Lo.key = endL (L0.map Lo.key) a3) => alike_any Ae A le ce c Oe O W (RE.out.below (D69.out.trans (h.mono D69.out.size))) hr (KE.out.trans hk.symm))
              have HYU := Lib.hid (fun W (h : Below V9.heap.size V9 W) (A : Option Addr) (c : Nat) (O : List Lo) (hr : LoRow W A lu c O) (hk : O.map Lo.key = unionL (L0.map Lo.key) (L1.map Lo.key)) => alike_any Au A lu cu c Ou O W (RU.out.below (D79.out.trans (h.mono D79.out.size))) hr (KU.out.trans hk.symm))
              have HYF := Lib.hid (fun W (h : Below V9.heap.size V9 W) => alike_any Af Ar nr cf cr Of R W (RF.out.below (D89.out.trans (h.mono D89.out.size))) (HWR.out.below h) (KF.out.trans HKW.out.symm))
              clear hko
              go_upto_region 11 with fail
              go_cut [18] (fun a wx => a = .bool true ∧ Below V9.heap.size V9 wx)
              case first =>
                go_region_held3 (fun W => W.cell? ⟨w3.heap.size, 0, none⟩ = some (.string x2.pl.name) ∧ W.cell? ⟨w3.heap.size, 1, none⟩ = some (.slice x2.pl.pa x2.pl.path.length x2.pl.pc) ∧ W.cell? ⟨w3.heap.size, 2, none⟩ = some (.bool x2.alone) ∧ W.cell? ⟨w3.heap.size, 3, none⟩ = some (.int .i64 x2.till) ∧ OldL V9 W) (first | exact hSn | exact hS0)
                  (first
                    | (go_at_call 14; (with_reducible refine (HTA.out _ ?_).mono ?_); (first | exact Sl.old (g := w3.heap.size) (x := x2) hSn | exact Sl.old (g := w3.heap.size) (x := x2) hS0); rintro r wn ⟨At, ct, rfl, hrt, hbn⟩; have hSn := Sl.step (g := w3.heap.size) (x := x2) HGL.out (by first | exact hSn | exact hS0) hbn; unfold Sl at hSn)
                    | (go_at_call 14; (with_reducible refine (HTB.out _ ?_).mono ?_); (first | exact Sl.old (g := w3.heap.size) (x := x2) hSn | exact Sl.old (g := w3.heap.size) (x := x2) hS0); rintro r wn ⟨Bt, dt, rfl, hru, hbn⟩; have hSn := Sl.step (g := w3.heap.size) (x := x2) HGL.out (by first | exact hSn | exact hS0) hbn; unfold Sl at hSn; have hrt := hrt.below hbn)
                    | (go_at_call 21; (with_reducible refine (HRA.out _ ?_ _ _ hrt).mono ?_); (first | exact Sl.old (g := w3.heap.size) (x := x2) hSn | exact Sl.old (g := w3.heap.size) (x := x2) hS0); rintro r wn ⟨Ax, cx, Ox, rfl, hrx, hkx, hbn⟩; have hSn := Sl.step (g := w3.heap.size) (x := x2) HGL.out (by first | exact hSn | exact hS0) hbn; unfold Sl at hSn)
                    | (go_at_call 22; (with_reducible refine (HRE.out _ ?_ _ _ hrt).mono ?_); (first | exact Sl.old (g := w3.heap.size) (x := x2) hSn | exact Sl.old (g := w3.heap.size) (x := x2) hS0); rintro r wn ⟨Ax, cx, Ox, rfl, hrx, hkx, hbn⟩; have hSn := Sl.step (g := w3.heap.size) (x := x2) HGL.out (by first | exact hSn | exact hS0) hbn; unfold Sl at hSn)
                    | (go_at_call 23; (with_reducible refine (HRU.out _ ?_ _ _ hrt _ _ hru).mono ?_); (first | exact Sl.old (g := w3.heap.size) (x := x2) hSn | exact Sl.old (g := w3.heap.size) (x := x2) hS0); rintro r wn ⟨Ax, cx, Ox, rfl, hrx, hkx, hbn⟩; have hSn := Sl.step (g := w3.heap.size) (x := x2) HGL.out (by first | exact hSn | exact hS0) hbn; unfold Sl at hSn)
                    | (go_at_call 20; (with_reducible refine (HYA.out _ ?_ _ _ _ hrx hkx).mono ?_); (first | exact Sl.old (g := w3.heap.size) (x := x2) hSn | exact Sl.old (g := w3.heap.size) (x := x2) hS0); rintro r wn ⟨rfl, hbn⟩; have hSn := Sl.step (g := w3.heap.size) (x := x2) HGL.out (by first | exact hSn | exact hS0) hbn; unfold Sl at hSn)
                    | (go_at_call 20; (with_reducible refine (HYE.out _ ?_ _ _ _ hrx hkx).mono ?_); (first | exact Sl.old (g := w3.heap.size) (x := x2) hSn | exact Sl.old (g := w3.heap.size) (x := x2) hS0); rintro r wn ⟨rfl, hbn⟩; have hSn := Sl.step (g := w3.heap.size) (x := x2) HGL.out (by first | exact hSn | exact hS0) hbn; unfold Sl at hSn)
                    | (go_at_call 20; (with_reducible refine (HYU.out _ ?_ _ _ _ hrx hkx).mono ?_); (first | exact Sl.old (g := w3.heap.size) (x := x2) hSn | exact Sl.old (g := w3.heap.size) (x := x2) hS0); rintro r wn ⟨rfl, hbn⟩; have hSn := Sl.step (g := w3.heap.size) (x := x2) HGL.out (by first | exact hSn | exact hS0) hbn; unfold Sl at hSn)
                    | (go_at_call 20; (with_reducible refine (HYF.out _ ?_).mono ?_); (first | exact Sl.old (g := w3.heap.size) (x := x2) hSn | exact Sl.old (g := w3.heap.size) (x := x2) hS0); rintro r wn ⟨rfl, hbn⟩; have hSn := Sl.step (g := w3.heap.size) (x := x2) HGL.out (by first | exact hSn | exact hS0) hbn; unfold Sl at hSn))
                all_goals
                  have HS3 := Lib.hid (Sl.old (g := w3.heap.size) (x := x2) hSn)
                  clear hSn hS0
                  go_wp2
                  go_meet
                  case rel => exact ⟨rfl, HS3.out⟩
              case rest =>
              obtain ⟨rfl, hB10⟩ := hcut
              have HB10 := Lib.hid hB10
              have BC := Lib.hid (BW.out.trans (hB10.mono BW.out.size))
              clear hS0 hB10
              go_wp2_with fail
              refine (union_any A0 none k 0 c0 0 L0 [] wc (H0.out.below BC.out) ⟨rfl, .inl rfl, by simp, Nat.le_refl _, by omega⟩ (by omega) (by omega) HP0.out (by simp)).mono ?_
              rintro r w11 ⟨v11, rfl, hm11, h11⟩
              obtain ⟨Aq, cq, Oq, rfl, hrq, hkq, hoq, hyq⟩ := LoMade.row (Ks := L0.map Lo.key) hm11 (by rw [List.length_map, HN0.out]; omega)
              rw [show (L0.map Lo.key).length = k by rw [List.length_map, HN0.out]] at hrq ⊢
              have HRQ := Lib.hid hrq
              have HKQ := Lib.hid hkq
              have HYQ := Lib.hid hyq
              have C11 := Lib.hid h11
              clear hm11 hrq hkq hoq hyq h11
              go_wp2_with fail
              refine (twin_any Aq k cq Oq w11 HRQ.out).mono ?_
              rintro r w12 ⟨Az, nz, cz, rfl, hnz, hoz, h12⟩
              obtain rfl : k = nz := (hnz.trans HRQ.out.ln).symm
              have HOZ := Lib.hid hoz
              have C12 := Lib.hid h12
              have HYZ := Lib.hid (fun y hy => (HYQ.out y hy).below h12)
              have HLQ := Lib.hid HRQ.out.ln
              have BD := Lib.hid (HB10.out.trans ((C11.out.trans (h12.mono C11.out.size)).mono HB10.out.size))
              have BE := Lib.hid (BW.out.trans (BD.out.mono BW.out.size))
              have hk0 := keys_of HP0.out
              have hk1 := keys_of HP1.out
              have HPA := Lib.hid (keys_len2 KA.out (N := 1000000) (fun q hq => by
                rcases mem_addL.1 hq with h | h
                · exact hk0 q h
                · rw [h]; exact HPX.out))
              have HPE := Lib.hid (keys_len2 KE.out (N := 1000000) (fun q hq => hk0 q (List.mem_filter.1 hq).1))
              have HPU := Lib.hid (keys_len2 KU.out (N := 1000000) (fun q hq => by
                rcases mem_unionL.1 hq with h | h
                · exact hk0 q h
                · exact hk1 q h))
              have HPF := Lib.hid (keys_len2 KF.out (N := 1000000) (fun q hq => hk0 q (List.mem_filter.1 hq).1))
              have hs9 := HB10.out.size
              have hs8 := D89.out.size
              have hs7 := D79.out.size
              have hs6 := D69.out.size
              have hs5 := D59.out.size
              have hs4 := D49.out.size
              have hsc := C45.out.size
              have hsd := C56.out.size
              have hse := C67.out.size
              have LA := Lib.hid (LTa.out.more (show w5.heap.size ≤ wc.heap.size by omega))
              have LE := Lib.hid (LTe.out.more (show w6.heap.size ≤ wc.heap.size by omega))
              have LU := Lib.hid (LTu.out.more (show w7.heap.size ≤ wc.heap.size by omega))
              have LF := Lib.hid (LTf.out.more (show w8.heap.size ≤ wc.heap.size by omega))
              have SA := Lib.hid (Sa.out.below (D59.out.trans (BD.out.mono hs5)))
              have SE := Lib.hid (Se.out.below (D69.out.trans (BD.out.mono hs6)))
              have SU := Lib.hid (Su.out.below (D79.out.trans (BD.out.mono hs7)))
              have SF := Lib.hid (Sf.out.below (D89.out.trans (BD.out.mono hs8)))
              have q5 := Lib.hid (show V4.heap.size ≤ w5.heap.size by omega)
              have q6 := Lib.hid (show V4.heap.size ≤ w6.heap.size by omega)
              have q7 := Lib.hid (show V4.heap.size ≤ w7.heap.size by omega)
              clear hnz hoz h12 hk0 hk1 hs9 hs8 hs7 hs6 hs5 hs4 hsc hsd hse
              go_wp2_with fail
              refine (spoil_nx Aa la ca V4.heap.size Oa wc.heap.size w12 w12 RA.out.ln HLA.out SA.out LA.out HPA.out (Spoilt.refl _ _) V4.heap.size (Nat.le_refl _) (Below.refl _ _)).mono ?_
              rintro r w13 ⟨rfl, hb13, hsp13⟩
              have P3 := Lib.hid hsp13
              have Q3 := Lib.hid hb13
              clear hb13 hsp13
              go_wp2_with fail
              refine (spoil_nx Ae le ce w5.heap.size Oe wc.heap.size w13 w12 RE.out.ln HLE.out (P3.out.row _ _ _ _ _ SE.out) LE.out HPE.out P3.out V4.heap.size q5.out Q3.out).mono ?_
              rintro r w14 ⟨rfl, hb13, hsp13⟩
              have P4 := Lib.hid hsp13
              have Q4 := Lib.hid hb13
              clear hb13 hsp13
              go_wp2_with fail
              refine (spoil_nx Au lu cu w6.heap.size Ou wc.heap.size w14 w12 RU.out.ln HLU.out (P4.out.row _ _ _ _ _ SU.out) LU.out HPU.out P4.out V4.heap.size q6.out Q4.out).mono ?_
              rintro r w15 ⟨rfl, hb13, hsp13⟩
              have P5 := Lib.hid hsp13
              have Q5 := Lib.hid hb13
              clear hb13 hsp13
              go_wp2_with fail
              refine (spoil_nx Af nr cf w7.heap.size Of wc.heap.size w15 w12 RF.out.ln HLF.out (P5.out.row _ _ _ _ _ SF.out) LF.out HPF.out P5.out V4.heap.size q7.out Q5.out).mono ?_
              rintro r w16 ⟨rfl, hb13, hsp13⟩
              have P6 := Lib.hid hsp13
              have Q6 := Lib.hid hb13
              have HZ := Lib.hid (was_row hsp13 C11.out.size (Nat.le_refl _) HOZ.out HLQ.out (by omega) HYZ.out)
              have BF := Lib.hid (BE.out.trans (hb13.mono B4.out.size))
              clear hb13 hsp13
              go_wp2_with fail
              refine (alike_any A0 Az k c0 cz L0 Oq w16 (H0.out.below BF.out) HZ.out HKQ.out.symm).mono ?_
              rintro r w17 ⟨rfl, hb⟩
              have BG := Lib.hid (BF.out.trans (hb.mono BF.out.size))
              clear hb
              go_wp2_with fail
              refine (awake_yes w17).mono ?_
              rintro r w18 ⟨rfl, hb⟩
              have BH := Lib.hid (KB.out.trans ((BG.out.trans (hb.mono BG.out.size)).mono KB.out.size))
              clear hb
              go_wp2
              go_ret
              exact ⟨rfl, BH.out⟩
          
end Go.Proofs.Ytfbhmamdckkimaa

