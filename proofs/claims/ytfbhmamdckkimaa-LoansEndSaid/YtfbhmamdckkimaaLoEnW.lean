/- LoansEnd: the walk. -/
import Derived.Test.YtfbhmamdckkimaaLoH
import Derived.Test.YtfbhmamdckkimaaLoO
import Derived.Deep.DeepCutAuto
import Derived.IntWalk
namespace Go.Proofs.Ytfbhmamdckkimaa
open Go.RowKit
set_option linter.unusedVariables false
set_option linter.unusedSimpArgs false

theorem len_of_keys {O : List Lo} {Ks : List LKey} {N : Nat} (h : O.map Lo.key = Ks) (hK : ∀ k ∈ Ks, k.1.2.length ≤ N) : ∀ x ∈ O, x.pl.path.length ≤ N := by
  intro x hx
  exact hK x.key (by rw [← h]; exact List.mem_map.2 ⟨x, hx, rfl⟩)
set_option maxHeartbeats 12800000 in
set_option maxRecDepth 100000 in
theorem loansEnd_walk (A0 : Option Addr) (c0 : Nat) (L0 : List Lo) (a1 a2 : Int) (w : World) (rd0 : Rd w w.heap.size 4 loC A0 L0) (g0 : ∀ x ∈ L0, LoOk w x) (hc0 : L0.length ≤ c0) (hm0 : c0 ≤ maxLen) (i1 : (Lit.int .i64 a1).wf = true) (i2 : (Lit.int .i64 a2).wf = true) :
    Calls Try.prog 9 #[.slice A0 L0.length c0, .int .i64 a1, .int .i64 a2] w fun r w' => r = .returned (.bool true) ∧ Below w.heap.size w w' := by
  clear i1 i2
  obtain ⟨m0, hmb0⟩ : ∃ b, manyB L0 = b := ⟨_, rfl⟩
  have HM0 := Lib.hid (many_any A0 _ c0 L0 w rfl rd0 g0 hc0 hm0 m0 hmb0)
  have HB := Lib.hid (Below.refl w.heap.size w)
  have HB0 := Lib.hid (Below.refl w.heap.size w)
  cases m0 with
  | true =>
    clear rd0 g0 hmb0
    go_enter Try.func9, Try.ntmps9
    go_wp2_with fail
    refine (HM0.out).mono ?_
    rintro r w1 ⟨rfl, hbn⟩
    have HB := Lib.hid (HB.out.trans (hbn.mono HB.out.size))
    clear hbn
    go_wp2_with fail
    refine (awake_yes _).mono ?_
    rintro r wz ⟨rfl, hbn⟩
    have HB := Lib.hid (HB.out.trans (hbn.mono HB.out.size))
    clear hbn
    go_wp2
    go_ret
    exact ⟨rfl, HB0.out.trans (HB.out.mono HB0.out.size)⟩

  | false =>
    obtain ⟨h0, h40, hp0⟩ := short_row rd0 g0 hc0 hmb0
    have H0 := Lib.hid h0
    have HP0 := Lib.hid hp0
    have HKL := Lib.hid (show ∀ k ∈ L0.map Lo.key, k.1.2.length ≤ 1000000 by
      intro k hk
      obtain ⟨x, hx, rfl⟩ := List.mem_map.1 hk
      exact hp0 x hx)
    clear rd0 g0 hmb0 h0 hp0
    obtain ⟨n0, hn0⟩ : ∃ n, L0.length = n := ⟨_, rfl⟩
    have HN0 := Lib.hid hn0
    rw [hn0] at H0 HM0 h40 ⊢
    obtain ⟨lst, hlst⟩ : ∃ l, (if a2 < a1 then a2 else a1) = l := ⟨_, rfl⟩
    have HEE := Lib.hid (show endL (endL (L0.map Lo.key) a1) a2 = endL (L0.map Lo.key) lst by rw [end_end, hlst])
    obtain ⟨m, hm⟩ : ∃ m, (endL (L0.map Lo.key) lst).length = m := ⟨_, rfl⟩
    have HM := Lib.hid hm
    have hm40 : m ≤ 40 := by
      rw [← hm]
      refine Nat.le_trans (List.length_filter_le _ _) ?_
      rw [List.length_map, hn0]; exact h40
    have hc : (a2 < a1 ∧ a2 = lst) ∨ (¬ a2 < a1 ∧ a1 = lst) := by
      by_cases h : a2 < a1
      · exact .inl ⟨h, by rw [← hlst, if_pos h]⟩
      · exact .inr ⟨h, by rw [← hlst, if_neg h]⟩
    clear hn0 hm hlst
    rcases hc with ⟨hlt, rfl⟩ | ⟨hlt, rfl⟩
    · go_enter Try.func9, Try.ntmps9
      go_wp2_with fail
      refine (HM0.out).mono ?_
      rintro r w1 ⟨rfl, hbn⟩
      have HB := Lib.hid (HB.out.trans (hbn.mono HB.out.size))
      clear hbn
      go_wp2_with fail
      refine (end_any A0 n0 c0 L0 a1 _ (H0.out.below HB.out) HP0.out).mono ?_
      rintro r w2 ⟨v2, rfl, hm2, hbn⟩
      have HB := Lib.hid (HB.out.trans (hbn.mono HB.out.size))
      obtain ⟨Ax, cx, Ox, rfl, hrx, hkx, _, _⟩ := hm2.row (Nat.le_trans (List.length_filter_le _ _) (by rw [List.length_map, HN0.out]; omega))
      have HRX := Lib.hid hrx
      have HKX := Lib.hid hkx
      clear hm2 hbn hrx hkx
      go_wp2_with fail
      refine (end_any Ax _ cx Ox a2 _ HRX.out (len_of_keys HKX.out (fun k hk => HKL.out k (List.mem_filter.1 hk).1))).mono ?_
      rintro r w3 ⟨v3, rfl, hm3, hbn⟩
      have HB := Lib.hid (HB.out.trans (hbn.mono HB.out.size))
      rw [HKX.out, HEE.out] at hm3
      obtain ⟨Ay, cy, Oy, rfl, hry, hky, _, _⟩ := hm3.row (by rw [HM.out]; omega)
      rw [HM.out] at hry ⊢
      have HRX := Lib.hid hry
      have HKX := Lib.hid hky
      clear hm3 hbn hry hky
      go_wp2_with fail
      refine (end_any A0 n0 c0 L0 a2 _ (H0.out.below HB.out) HP0.out).mono ?_
      rintro r w4 ⟨v4, rfl, hm4, hbn⟩
      have HB := Lib.hid (HB.out.trans (hbn.mono HB.out.size))
      obtain ⟨Az, cz, Oz, rfl, hrz, hkz, _, _⟩ := hm4.row (by rw [HM.out]; omega)
      rw [HM.out] at hrz ⊢
      have HRZ := Lib.hid hrz
      have HKZ := Lib.hid hkz
      have HRX := Lib.hid (HRX.out.below hbn)
      clear hm4 hbn hrz hkz
      go_wp2
      go_loop [10] (fun i => ∃ k : Nat, k ≤ m ∧ i = .int .i64 k) (fun i => m - (intOf i).toNat)
      case atStart => exact ⟨0, by omega, rfl⟩
      case round =>
        obtain ⟨k, hk, rfl⟩ := hrel
        by_cases hkl : k < m
        · obtain ⟨y, hy⟩ : ∃ y, Oz[k]? = some y := ⟨_, List.getElem?_eq_getElem (by rw [HRZ.out.ln]; exact hkl)⟩
          obtain ⟨b, off, hA, hb, _, _, _, c3⟩ := HRZ.out.rd.lo hy
          subst hA
          have hki : (k : Int) < (m : Int) := by omega
          have htl : y.till < a2 := end_till (L := L0.map Lo.key) (x := y.key) (by rw [← HKZ.out]; exact List.mem_map.2 ⟨y, List.mem_of_getElem? hy, rfl⟩)
          have hnt : ¬ a2 ≤ y.till := by omega
          clear hy
          go_wp2
          go_round
          case rel => exact ⟨k + 1, by omega, by go_num⟩
          case measure => simp [intOf] <;> omega
        · obtain rfl : k = m := by omega
          go_wp2
          go_loop [11, 12] (fun n i => ∃ q : Nat, q ≤ n0 ∧ i = .int .i64 q ∧ n = .int .i64 (endL ((L0.map Lo.key).take q) a2).length) (fun _ i => n0 - (intOf i).toNat)
          case atStart => exact ⟨0, by omega, rfl, rfl⟩
          case round =>
            obtain ⟨q, hq, rfl, rfl⟩ := hrel
            by_cases hql : q < n0
            · obtain ⟨y, hy⟩ : ∃ y, L0[q]? = some y := ⟨_, List.getElem?_eq_getElem (by rw [HN0.out]; exact hql)⟩
              have HFS := Lib.hid (show endL ((L0.map Lo.key).take (q + 1)) a2 = if decide (y.till < a2) then endL ((L0.map Lo.key).take q) a2 ++ [y.key] else endL ((L0.map Lo.key).take q) a2 from filter_succ (show (L0.map Lo.key)[q]? = some y.key by rw [List.getElem?_map, hy]; rfl))
              obtain ⟨b, off, hA, hb, _, _, _, c3⟩ := (H0.out.below HB.out).rd.lo hy
              subst hA
              have hqi : (q : Int) < (n0 : Int) := by omega
              have hcl : (endL ((L0.map Lo.key).take q) a2).length ≤ q := Nat.le_trans (List.length_filter_le _ _) (List.length_take_le _ _)
              obtain ⟨cn, hcn⟩ : ∃ c, c = (endL ((L0.map Lo.key).take q) a2).length := ⟨_, rfl⟩
              have HCN := Lib.hid hcn
              rw [← hcn] at hcl ⊢
              obtain ⟨ty, hty⟩ : ∃ t, y.till = t := ⟨_, rfl⟩
              rw [hty] at HFS c3
              clear hy hcn hty
              by_cases ht : ty < a2
              · have HLN := Lib.hid (show (endL ((L0.map Lo.key).take (q + 1)) a2).length = cn + 1 by rw [HFS.out, decide_eq_true ht, if_pos rfl, List.length_append, HCN.out]; rfl)
                go_wp2
                go_round
                case rel => exact ⟨q + 1, by omega, by go_num, by rw [HLN.out]; simp⟩
                case measure => simp [intOf] <;> omega
              · have HLN := Lib.hid (show (endL ((L0.map Lo.key).take (q + 1)) a2).length = cn by rw [HFS.out, decide_eq_false ht]; simp [HCN.out])
                go_wp2
                go_round
                case rel => exact ⟨q + 1, by omega, by go_num, by rw [HLN.out]⟩
                case measure => simp [intOf] <;> omega
            · obtain rfl : q = n0 := by omega
              have hfin : (endL ((L0.map Lo.key).take q) a2).length = k := by
                rw [List.take_of_length_le (by rw [List.length_map, HN0.out]; exact Nat.le_refl _)]; exact HM.out
              rw [hfin]
              have HSM := Lib.hid (sameBook_any _ _ _ _ _ _ Oy Oz w4 HRX.out HRZ.out true (by rw [HKX.out, HKZ.out]; exact sameBk_self _))
              clear hfin
              go_wp2_with fail
              refine (HSM.out).mono ?_
              rintro r w5 ⟨rfl, hbn⟩
              have HB := Lib.hid (HB.out.trans (hbn.mono HB.out.size))
              clear hbn
              go_wp2_with fail
              refine (awake_yes _).mono ?_
              rintro r wz ⟨rfl, hbn⟩
              have HB := Lib.hid (HB.out.trans (hbn.mono HB.out.size))
              clear hbn
              go_wp2
              go_ret
              exact ⟨rfl, HB0.out.trans (HB.out.mono HB0.out.size)⟩

    · go_enter Try.func9, Try.ntmps9
      go_wp2_with fail
      refine (HM0.out).mono ?_
      rintro r w1 ⟨rfl, hbn⟩
      have HB := Lib.hid (HB.out.trans (hbn.mono HB.out.size))
      clear hbn
      go_wp2_with fail
      refine (end_any A0 n0 c0 L0 a1 _ (H0.out.below HB.out) HP0.out).mono ?_
      rintro r w2 ⟨v2, rfl, hm2, hbn⟩
      have HB := Lib.hid (HB.out.trans (hbn.mono HB.out.size))
      obtain ⟨Ax, cx, Ox, rfl, hrx, hkx, _, _⟩ := hm2.row (Nat.le_trans (List.length_filter_le _ _) (by rw [List.length_map, HN0.out]; omega))
      have HRX := Lib.hid hrx
      have HKX := Lib.hid hkx
      clear hm2 hbn hrx hkx
      go_wp2_with fail
      refine (end_any Ax _ cx Ox a2 _ HRX.out (len_of_keys HKX.out (fun k hk => HKL.out k (List.mem_filter.1 hk).1))).mono ?_
      rintro r w3 ⟨v3, rfl, hm3, hbn⟩
      have HB := Lib.hid (HB.out.trans (hbn.mono HB.out.size))
      rw [HKX.out, HEE.out] at hm3
      obtain ⟨Ay, cy, Oy, rfl, hry, hky, _, _⟩ := hm3.row (by rw [HM.out]; omega)
      rw [HM.out] at hry ⊢
      have HRX := Lib.hid hry
      have HKX := Lib.hid hky
      clear hm3 hbn hry hky
      go_wp2_with fail
      refine (end_any A0 n0 c0 L0 a1 _ (H0.out.below HB.out) HP0.out).mono ?_
      rintro r w4 ⟨v4, rfl, hm4, hbn⟩
      have HB := Lib.hid (HB.out.trans (hbn.mono HB.out.size))
      obtain ⟨Az, cz, Oz, rfl, hrz, hkz, _, _⟩ := hm4.row (by rw [HM.out]; omega)
      rw [HM.out] at hrz ⊢
      have HRZ := Lib.hid hrz
      have HKZ := Lib.hid hkz
      have HRX := Lib.hid (HRX.out.below hbn)
      clear hm4 hbn hrz hkz
      go_wp2
      go_loop [10] (fun i => ∃ k : Nat, k ≤ m ∧ i = .int .i64 k) (fun i => m - (intOf i).toNat)
      case atStart => exact ⟨0, by omega, rfl⟩
      case round =>
        obtain ⟨k, hk, rfl⟩ := hrel
        by_cases hkl : k < m
        · obtain ⟨y, hy⟩ : ∃ y, Oz[k]? = some y := ⟨_, List.getElem?_eq_getElem (by rw [HRZ.out.ln]; exact hkl)⟩
          obtain ⟨b, off, hA, hb, _, _, _, c3⟩ := HRZ.out.rd.lo hy
          subst hA
          have hki : (k : Int) < (m : Int) := by omega
          have htl : y.till < a1 := end_till (L := L0.map Lo.key) (x := y.key) (by rw [← HKZ.out]; exact List.mem_map.2 ⟨y, List.mem_of_getElem? hy, rfl⟩)
          have hnt : ¬ a1 ≤ y.till := by omega
          clear hy
          go_wp2
          go_round
          case rel => exact ⟨k + 1, by omega, by go_num⟩
          case measure => simp [intOf] <;> omega
        · obtain rfl : k = m := by omega
          go_wp2
          go_loop [11, 12] (fun n i => ∃ q : Nat, q ≤ n0 ∧ i = .int .i64 q ∧ n = .int .i64 (endL ((L0.map Lo.key).take q) a1).length) (fun _ i => n0 - (intOf i).toNat)
          case atStart => exact ⟨0, by omega, rfl, rfl⟩
          case round =>
            obtain ⟨q, hq, rfl, rfl⟩ := hrel
            by_cases hql : q < n0
            · obtain ⟨y, hy⟩ : ∃ y, L0[q]? = some y := ⟨_, List.getElem?_eq_getElem (by rw [HN0.out]; exact hql)⟩
              have HFS := Lib.hid (show endL ((L0.map Lo.key).take (q + 1)) a1 = if decide (y.till < a1) then endL ((L0.map Lo.key).take q) a1 ++ [y.key] else endL ((L0.map Lo.key).take q) a1 from filter_succ (show (L0.map Lo.key)[q]? = some y.key by rw [List.getElem?_map, hy]; rfl))
              obtain ⟨b, off, hA, hb, _, _, _, c3⟩ := (H0.out.below HB.out).rd.lo hy
              subst hA
              have hqi : (q : Int) < (n0 : Int) := by omega
              have hcl : (endL ((L0.map Lo.key).take q) a1).length ≤ q := Nat.le_trans (List.length_filter_le _ _) (List.length_take_le _ _)
              obtain ⟨cn, hcn⟩ : ∃ c, c = (endL ((L0.map Lo.key).take q) a1).length := ⟨_, rfl⟩
              have HCN := Lib.hid hcn
              rw [← hcn] at hcl ⊢
              obtain ⟨ty, hty⟩ : ∃ t, y.till = t := ⟨_, rfl⟩
              rw [hty] at HFS c3
              clear hy hcn hty
              by_cases ht : ty < a1
              · have HLN := Lib.hid (show (endL ((L0.map Lo.key).take (q + 1)) a1).length = cn + 1 by rw [HFS.out, decide_eq_true ht, if_pos rfl, List.length_append, HCN.out]; rfl)
                go_wp2
                go_round
                case rel => exact ⟨q + 1, by omega, by go_num, by rw [HLN.out]; simp⟩
                case measure => simp [intOf] <;> omega
              · have HLN := Lib.hid (show (endL ((L0.map Lo.key).take (q + 1)) a1).length = cn by rw [HFS.out, decide_eq_false ht]; simp [HCN.out])
                go_wp2
                go_round
                case rel => exact ⟨q + 1, by omega, by go_num, by rw [HLN.out]⟩
                case measure => simp [intOf] <;> omega
            · obtain rfl : q = n0 := by omega
              have hfin : (endL ((L0.map Lo.key).take q) a1).length = k := by
                rw [List.take_of_length_le (by rw [List.length_map, HN0.out]; exact Nat.le_refl _)]; exact HM.out
              rw [hfin]
              have HSM := Lib.hid (sameBook_any _ _ _ _ _ _ Oy Oz w4 HRX.out HRZ.out true (by rw [HKX.out, HKZ.out]; exact sameBk_self _))
              clear hfin
              go_wp2_with fail
              refine (HSM.out).mono ?_
              rintro r w5 ⟨rfl, hbn⟩
              have HB := Lib.hid (HB.out.trans (hbn.mono HB.out.size))
              clear hbn
              go_wp2_with fail
              refine (awake_yes _).mono ?_
              rintro r wz ⟨rfl, hbn⟩
              have HB := Lib.hid (HB.out.trans (hbn.mono HB.out.size))
              clear hbn
              go_wp2
              go_ret
              exact ⟨rfl, HB0.out.trans (HB.out.mono HB0.out.size)⟩

end Go.Proofs.Ytfbhmamdckkimaa
