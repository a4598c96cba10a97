/- LoansKept: the walk. -/
import Derived.Test.YtfbhmamdckkimaaLoH
import Derived.Test.YtfbhmamdckkimaaLoO
import Derived.Deep.DeepCutAuto
import Derived.IntWalk
namespace Go.Proofs.Ytfbhmamdckkimaa
open Go.RowKit
set_option linter.unusedVariables false
set_option linter.unusedSimpArgs false

theorem mem_keepL {L : List LKey} : ∀ {n : Nat}, n ≤ L.length → ∀ {x : LKey}, x ∈ keepL (L.take n) → x ∈ L
  | 0, _, x, h => by simp [keepL] at h
  | n + 1, hn, x, h => by
    rw [keepL_succ (List.getElem?_eq_getElem (show n < L.length by omega))] at h
    unfold keepStep at h
    split at h
    · rcases mem_addL.1 h with h | h
      · exact mem_keepL (by omega) h
      · rw [h]; exact List.getElem_mem _
    · exact mem_keepL (by omega) h
theorem keepL_len (L : List LKey) : ∀ n, n ≤ L.length → (keepL (L.take n)).length ≤ n
  | 0, _ => by simp [keepL]
  | n + 1, h => by
    rw [keepL_succ (List.getElem?_eq_getElem (show n < L.length by omega))]
    have h1 := keepStep_len (keepL (L.take n)) L[n]
    have h2 := keepL_len L n (by omega)
    omega
theorem keys_len {O : List Lo} {Ks : List LKey} {N : Nat} (h : O.map Lo.key = Ks) (hK : ∀ k ∈ Ks, k.1.2.length ≤ N) : ∀ x ∈ O, x.pl.path.length ≤ N := by
  intro x hx
  exact hK x.key (by rw [← h]; exact List.mem_map.2 ⟨x, hx, rfl⟩)
def BookAt (Ks : List LKey) (v : Value) (wr : World) : Prop := ∃ (A : Option Addr) (c : Nat) (O : List Lo), v = .slice A Ks.length c ∧ LoRow wr A Ks.length c O ∧ O.map Lo.key = Ks
set_option maxHeartbeats 12800000 in
set_option maxRecDepth 100000 in
theorem loansKept_walk (A0 : Option Addr) (c0 : Nat) (L0 : List Lo) (w : World) (rd0 : Rd w w.heap.size 4 loC A0 L0) (g0 : ∀ x ∈ L0, LoOk w x) (hc0 : L0.length ≤ c0) (hm0 : c0 ≤ maxLen) :
    Calls Try.prog 7 #[.slice A0 L0.length c0] w fun r w' => r = .returned (.bool true) ∧ Below w.heap.size w w' := by
  obtain ⟨m0, hmb0⟩ : ∃ b, manyB L0 = b := ⟨_, rfl⟩
  have HM0 := Lib.hid (many_any A0 _ c0 L0 w rfl rd0 g0 hc0 hm0 m0 hmb0)
  have HB := Lib.hid (Below.refl w.heap.size w)
  have HB0 := Lib.hid (Below.refl w.heap.size w)
  cases m0 with
  | true =>
    clear rd0 g0 hmb0
    go_enter Try.func7, Try.ntmps7
    go_wp2_with fail
    refine (HM0.out).mono ?_
    rintro r w1 ⟨rfl, hbn⟩
    have HB := Lib.hid (HB.out.trans (hbn.mono HB.out.size))
    clear hbn
    go_wp2_with fail
    refine (awake_yes _).mono ?_
    rintro r wz ⟨rfl, hbn⟩
    have HB := Lib.hid (HB.out.trans (hbn.mono HB.out.size))
    clear hbn
    go_wp2
    go_ret
    exact ⟨rfl, HB0.out.trans (HB.out.mono HB0.out.size)⟩

  | false =>
    obtain ⟨h0, h40, hp0⟩ := short_row rd0 g0 hc0 hmb0
    have H0 := Lib.hid h0
    have HP0 := Lib.hid hp0
    have HKL := Lib.hid (show ∀ k ∈ L0.map Lo.key, k.1.2.length ≤ 1000000 by
      intro k hk
      obtain ⟨x, hx, rfl⟩ := List.mem_map.1 hk
      exact hp0 x hx)
    clear rd0 g0 hmb0 h0 hp0
    obtain ⟨n0, hn0⟩ : ∃ n, L0.length = n := ⟨_, rfl⟩
    have HN0 := Lib.hid (show (L0.map Lo.key).length = n0 by rw [List.length_map, hn0])
    have HNL := Lib.hid hn0
    rw [hn0] at H0 HM0 h40 ⊢
    obtain ⟨K, hK⟩ : ∃ K, K = L0.map Lo.key := ⟨_, rfl⟩
    rw [← hK] at HKL HN0
    have HKK := Lib.hid hK
    clear hn0 hK
    go_enter Try.func7, Try.ntmps7
    go_wp2_with fail
    refine (HM0.out).mono ?_
    rintro r w1 ⟨rfl, hbn⟩
    have HB := Lib.hid (HB.out.trans (hbn.mono HB.out.size))
    clear hbn

    go_wp2
    go_loopw [3, 4] (fun v i wr => ∃ k : Nat, k ≤ n0 ∧ i = .int .i64 k ∧ BookAt (keepL (K.take k)) v wr ∧ Below w.heap.size w wr) (fun _ i _ => n0 - (intOf i).toNat)
    case atStart => exact ⟨0, by omega, rfl, ⟨none, 0, [], rfl, ⟨rfl, .inl rfl, by simp, Nat.le_refl _, by simp [keepL]⟩, rfl⟩, HB.out⟩
    case round =>
      obtain ⟨k, hk, rfl, ⟨Ab, cb, O, rfl, hrow, hkO⟩, hbl⟩ := hrel
      have HB := Lib.hid hbl
      have HR := Lib.hid hrow
      have HKO := Lib.hid hkO
      clear hbl hrow hkO
      have hkl := keepL_len K k (by rw [HN0.out]; exact hk)
      obtain ⟨nb, hnb⟩ : ∃ n, (keepL (K.take k)).length = n := ⟨_, rfl⟩
      have HNB := Lib.hid hnb
      rw [hnb] at HR hkl ⊢
      clear hnb
      by_cases hlt : k < n0
      · obtain ⟨x, hx⟩ : ∃ x, L0[k]? = some x := ⟨_, List.getElem?_eq_getElem (by rw [HNL.out]; exact hlt)⟩
        have hkx : K[k]? = some x.key := by rw [HKK.out, List.getElem?_map, hx]; rfl
        have HLS := Lib.hid (keepL_succ hkx)
        have hmem := List.mem_of_getElem? hx
        obtain ⟨b, off, hA, hb, c0', c1', c2', c3'⟩ := ((H0.out.below HB.out).rd).lo hx
        subst hA
        have hki : (k : Int) < (n0 : Int) := by omega
        have hxk : LoOk wr x := (H0.out.below HB.out).ok x hmem
        have HXK := Lib.hid (fun W (h : Below wr.heap.size wr W) => hxk.next h)
        have hpx := HP0.out x hmem
        have HPO := Lib.hid (keys_len HKO.out (fun k hk => HKL.out k (mem_keepL (by rw [HN0.out]; omega) hk)))
        obtain ⟨al, hal⟩ : ∃ a, x.alone = a := ⟨_, rfl⟩
        obtain ⟨e, he⟩ : ∃ e, mayL (keepL (K.take k)) x.key.1 (useOf x.key) = e := ⟨_, rfl⟩
        have HEE := Lib.hid (show e = 0 ∨ e = 141 by
          rcases mayL_eq (keepL (K.take k)) x.key.1 (useOf x.key) with h | h | h
          · exact .inl (he.symm.trans h)
          · rw [mayL_arg] at h; unfold useOf at h; split at h <;> omega
          · exact .inr (he.symm.trans h))
        have huse : useOf x.key = if al then 3 else 2 := by unfold useOf; rw [← hal]; rfl
        have HNX := Lib.hid (show keepL (K.take (k + 1)) = if e = 0 then addL (keepL (K.take k)) x.key else keepL (K.take k) by rw [HLS.out]; unfold keepStep; rw [he])
        rw [huse] at he
        have HMY := Lib.hid (fun (u : Int) (hu : (if al then (3 : Int) else 2) = u) (h0 : 0 ≤ u) (h1 : u ≤ 255) => may_any Ab nb cb O x.pl u wr HR.out hxk.pl h0 h1 e (by rw [HKO.out, ← hu]; exact he))
        rw [hal] at c2'
        obtain ⟨lx, hlx⟩ : ∃ n, x.pl.path.length = n := ⟨_, rfl⟩
        have HLX := Lib.hid hlx
        have HAL := Lib.hid hal
        rw [hlx] at c1' HMY hpx
        have HX0 := Lib.hid hx
        clear hx hkx he huse hal hlx hxk
        cases al
        · have hmy := HMY.out 2 (by simp) (by omega) (by omega)
          have HMZ := Lib.hid hmy
          clear hmy HMY
          go_wp2_with fail
          refine HMZ.out.mono ?_
          rintro r w2 ⟨rfl, hbn⟩
          have HB2 := Lib.hid (HB.out.trans (hbn.mono HB.out.size))
          rcases HEE.out with rfl | rfl
          · have HNY := Lib.hid (show keepL (K.take (k + 1)) = addL (keepL (K.take k)) x.key by rw [HNX.out, if_pos rfl])
            clear HNX
            have HR2 := Lib.hid (HR.out.below hbn)
            have HX2 := Lib.hid (HXK.out _ hbn)
            obtain ⟨_, _, e1, _, d0, d1, d2, d3⟩ := ((H0.out.below HB2.out).rd).lo (show L0[k]? = some x from HX0.out)
            cases e1
            rw [HLX.out] at d1
            rw [HAL.out] at d2
            have HAD := Lib.hid (add_any Ab nb cb O x w2 HR2.out HX2.out (by omega) HPO.out (by rw [HLX.out]; exact hpx))
            rw [HLX.out, HAL.out] at HAD
            clear hbn c0' c1' c2' c3'
            go_wp2_with fail
            refine HAD.out.mono ?_
            rintro r w3 ⟨v3, rfl, hm3, hbn⟩
            have HB3 := Lib.hid (HB2.out.trans (hbn.mono HB2.out.size))
            rw [HKO.out] at hm3
            obtain ⟨Az, cz, Oz, rfl, hrz, hkz, _, _⟩ := hm3.row (Nat.le_trans (addL_len _ _) (by rw [HNB.out]; omega))
            have HBK := Lib.hid (show BookAt (keepL (K.take (k + 1))) (.slice Az (addL (keepL (K.take k)) x.key).length cz) w3 from ⟨Az, cz, Oz, by rw [HNY.out], by rw [HNY.out]; exact hrz, by rw [HNY.out]; exact hkz⟩)
            clear hm3 hbn hrz hkz
            go_wp2
            go_roundw
            case rel => exact ⟨k + 1, by omega, by go_num, HBK.out, HB3.out⟩
            case measure => simp [intOf] <;> omega
          · have HBK := Lib.hid (show BookAt (keepL (K.take (k + 1))) (.slice Ab nb cb) w2 from by
              rw [HNX.out, if_neg (by omega)]
              exact ⟨Ab, cb, O, by rw [HNB.out], by rw [HNB.out]; exact HR.out.below hbn, HKO.out⟩)
            clear hbn c0' c1' c2' c3'
            go_wp2
            go_roundw
            case rel => exact ⟨k + 1, by omega, by go_num, HBK.out, HB2.out⟩
            case measure => simp [intOf] <;> omega
        · have hmy := HMY.out 3 (by simp) (by omega) (by omega)
          have HMZ := Lib.hid hmy
          clear hmy HMY
          go_wp2_with fail
          refine HMZ.out.mono ?_
          rintro r w2 ⟨rfl, hbn⟩
          have HB2 := Lib.hid (HB.out.trans (hbn.mono HB.out.size))
          rcases HEE.out with rfl | rfl
          · have HNY := Lib.hid (show keepL (K.take (k + 1)) = addL (keepL (K.take k)) x.key by rw [HNX.out, if_pos rfl])
            clear HNX
            have HR2 := Lib.hid (HR.out.below hbn)
            have HX2 := Lib.hid (HXK.out _ hbn)
            obtain ⟨_, _, e1, _, d0, d1, d2, d3⟩ := ((H0.out.below HB2.out).rd).lo (show L0[k]? = some x from HX0.out)
            cases e1
            rw [HLX.out] at d1
            rw [HAL.out] at d2
            have HAD := Lib.hid (add_any Ab nb cb O x w2 HR2.out HX2.out (by omega) HPO.out (by rw [HLX.out]; exact hpx))
            rw [HLX.out, HAL.out] at HAD
            clear hbn c0' c1' c2' c3'
            go_wp2_with fail
            refine HAD.out.mono ?_
            rintro r w3 ⟨v3, rfl, hm3, hbn⟩
            have HB3 := Lib.hid (HB2.out.trans (hbn.mono HB2.out.size))
            rw [HKO.out] at hm3
            obtain ⟨Az, cz, Oz, rfl, hrz, hkz, _, _⟩ := hm3.row (Nat.le_trans (addL_len _ _) (by rw [HNB.out]; omega))
            have HBK := Lib.hid (show BookAt (keepL (K.take (k + 1))) (.slice Az (addL (keepL (K.take k)) x.key).length cz) w3 from ⟨Az, cz, Oz, by rw [HNY.out], by rw [HNY.out]; exact hrz, by rw [HNY.out]; exact hkz⟩)
            clear hm3 hbn hrz hkz
            go_wp2
            go_roundw
            case rel => exact ⟨k + 1, by omega, by go_num, HBK.out, HB3.out⟩
            case measure => simp [intOf] <;> omega
          · have HBK := Lib.hid (show BookAt (keepL (K.take (k + 1))) (.slice Ab nb cb) w2 from by
              rw [HNX.out, if_neg (by omega)]
              exact ⟨Ab, cb, O, by rw [HNB.out], by rw [HNB.out]; exact HR.out.below hbn, HKO.out⟩)
            clear hbn c0' c1' c2' c3'
            go_wp2
            go_roundw
            case rel => exact ⟨k + 1, by omega, by go_num, HBK.out, HB2.out⟩
            case measure => simp [intOf] <;> omega
      · obtain rfl : k = n0 := by omega
        have HAP := Lib.hid (keep_apart K k (by rw [HN0.out]; exact Nat.le_refl _))
        obtain ⟨wo, hwo⟩ : ∃ wo : World, wo = wr := ⟨_, rfl⟩
        rw [← hwo] at HB HR ⊢
        have HBo := HB
        clear hwo
        go_wp2
        go_loopw [6] (fun i wr => ∃ q : Nat, q ≤ nb ∧ i = .int .i64 q ∧ Below wo.heap.size wo wr) (fun i _ => nb - (intOf i).toNat)
        case atStart => exact ⟨0, by omega, rfl, Below.refl _ _⟩
        case round =>
          obtain ⟨q, hq, rfl, hbq⟩ := hrel
          obtain ⟨wp, hwp⟩ : ∃ wp : World, wp = wr := ⟨_, rfl⟩
          rw [← hwp] at hbq ⊢
          have HBQ := Lib.hid hbq
          clear hwp hbq
          by_cases hqn : q < nb
          · obtain ⟨x, hx⟩ : ∃ x, O[q]? = some x := ⟨_, List.getElem?_eq_getElem (by rw [HR.out.ln]; exact hqn)⟩
            have HX := Lib.hid hx
            have hqi : (q : Int) < (nb : Int) := by omega
            have hq0 : (0 : Int) ≤ (q : Int) := by omega
            clear hx
            go_wp2
            go_loopw [7] (fun i wr => ∃ j : Nat, j ≤ q ∧ i = .int .i64 j ∧ Below wo.heap.size wo wr) (fun i _ => q - (intOf i).toNat)
            case atStart => exact ⟨0, by omega, rfl, HBQ.out⟩
            case round =>
              obtain ⟨j, hj, rfl, hbj⟩ := hrel
              have HB := Lib.hid hbj
              clear hbj
              by_cases hjq : j < q
              · obtain ⟨y, hy⟩ : ∃ y, O[j]? = some y := ⟨_, List.getElem?_eq_getElem (by rw [HR.out.ln]; omega)⟩
                have hji : (j : Int) < (q : Int) := by omega
                have hjn : (j : Int) < (nb : Int) := by omega
                have hj0 : (0 : Int) ≤ (j : Int) := by omega
                have hrow := HR.out.below HB.out
                obtain ⟨b, off, hA, hb, x0, x1, x2, x3⟩ := hrow.rd.lo HX.out
                obtain ⟨b', off', hA', hb', y0, y1, y2, y3⟩ := hrow.rd.lo hy
                subst hA
                cases hA'
                obtain ⟨mb, hmb⟩ : ∃ b, meetB x.pl.key y.pl.key = b := ⟨_, rfl⟩
                have hap := HAP.out q j x.key y.key hjq (by rw [← HKO.out, List.getElem?_map, HX.out]; rfl) (by rw [← HKO.out, List.getElem?_map, hy]; rfl)
                have hmx := List.mem_of_getElem? HX.out
                have hmy := List.mem_of_getElem? hy
                have HMT := Lib.hid (fun W (h : Below wo.heap.size wo W) => meets_bool x.pl y.pl hmb W ((HR.out.below h).ok x hmx).pl ((HR.out.below h).ok y hmy).pl)
                have HAL := Lib.hid (show mb = true → x.alone = false ∧ y.alone = false from fun h => hap (hmb.trans h))
                have x0 := cell_regrown x0
                have x1 := cell_regrown x1
                have y0 := cell_regrown y0
                have y1 := cell_regrown y1
                clear hap hmb hrow hy hmx hmy x3 y3
                cases mb
                · clear x2 y2
                  go_wp2_with fail
                  refine wp_region_quiet_below (by kernel_rfl) (by kernel_rfl) ?_
                  repeat (first | go_big_quiet_step ((first | ((with_reducible refine Calls.regrown_of (HMT.out _ ?_)); exact HB.out.trans ((below_regrown wr _ _).mono HB.out.size)))) | quiet_step ((first | ((with_reducible refine Calls.regrown_of (HMT.out _ ?_)); exact HB.out.trans ((below_regrown wr _ _).mono HB.out.size)))))
                  refine wpQuiet_nil ?_
                  intro W2 hW2e
                  obtain ⟨⟨dq, osq⟩, hW2⟩ := hW2e
                  have hbl2 : Below wo.heap.size wo W2 := by rw [hW2]; exact HB.out.trans ((below_regrown wr dq osq).mono HB.out.size)
                  have HBL2 := Lib.hid hbl2
                  clear hW2 hbl2
                  go_wp2
                  go_roundw
                  case rel => exact ⟨j + 1, by omega, by go_num, HBL2.out⟩
                  case measure => simp [intOf] <;> omega
                · obtain ⟨ha1, ha2⟩ := HAL.out rfl
                  rw [ha1] at x2
                  rw [ha2] at y2
                  have x2 := cell_regrown x2
                  have y2 := cell_regrown y2
                  clear ha1 ha2
                  go_wp2_with fail
                  refine wp_region_quiet_below (by kernel_rfl) (by kernel_rfl) ?_
                  repeat (first | go_big_quiet_step ((first | ((with_reducible refine Calls.regrown_of (HMT.out _ ?_)); exact HB.out.trans ((below_regrown wr _ _).mono HB.out.size)))) | quiet_step ((first | ((with_reducible refine Calls.regrown_of (HMT.out _ ?_)); exact HB.out.trans ((below_regrown wr _ _).mono HB.out.size)))))
                  refine wpQuiet_nil ?_
                  intro W2 hW2e
                  obtain ⟨⟨dq, osq⟩, hW2⟩ := hW2e
                  have hbl2 : Below wo.heap.size wo W2 := by rw [hW2]; exact HB.out.trans ((below_regrown wr dq osq).mono HB.out.size)
                  have HBL2 := Lib.hid hbl2
                  clear hW2 hbl2
                  go_wp2
                  go_roundw
                  case rel => exact ⟨j + 1, by omega, by go_num, HBL2.out⟩
                  case measure => simp [intOf] <;> omega
              · obtain rfl : j = q := by omega
                go_wp2
                go_roundw
                case rel => exact ⟨j + 1, by omega, by go_num, HB.out⟩
                case measure => simp [intOf] <;> omega
          · obtain rfl : q = nb := by omega
            have HB := Lib.hid (HBo.out.trans (HBQ.out.mono HBo.out.size))
            go_wp2_with fail
            refine (awake_yes _).mono ?_
            rintro r wz ⟨rfl, hbn⟩
            have HB := Lib.hid (HB.out.trans (hbn.mono HB.out.size))
            clear hbn
            go_wp2
            go_ret
            exact ⟨rfl, HB0.out.trans (HB.out.mono HB0.out.size)⟩

end Go.Proofs.Ytfbhmamdckkimaa
