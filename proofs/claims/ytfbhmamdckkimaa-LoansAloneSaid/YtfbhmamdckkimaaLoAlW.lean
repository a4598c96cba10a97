/- LoansAlone: the walk. -/
import Derived.Test.YtfbhmamdckkimaaLoH
import Derived.Test.YtfbhmamdckkimaaLoO
import Derived.Deep.DeepCutAuto
import Derived.IntWalk
namespace Go.Proofs.Ytfbhmamdckkimaa
open Go.RowKit
set_option linter.unusedVariables false
set_option linter.unusedSimpArgs false

set_option maxHeartbeats 12800000 in
set_option maxRecDepth 100000 in
theorem loansAlone_walk (A0 : Option Addr) (c0 : Nat) (L0 : List Lo) (x1 : Pl) (A2 : Option Addr) (c2 : Nat) (S2 : List ByteArray) (a3 : Int) (w : World) (rd0 : Rd w w.heap.size 4 loC A0 L0) (g0 : ∀ x ∈ L0, LoOk w x) (hc0 : L0.length ≤ c0) (hm0 : c0 ≤ maxLen) (g1 : PlOk w w.heap.size x1) (rd2 : Rd w w.heap.size 1 strC A2 S2) (g2 : ∀ s ∈ S2, s.size ≤ maxLen) (hc2 : S2.length ≤ c2) (hm2 : c2 ≤ maxLen) (i3 : (Lit.int .u8 a3).wf = true) :
    Calls Try.prog 6 #[.slice A0 L0.length c0, .agg #[.string x1.name, .slice x1.pa x1.path.length x1.pc], .slice A2 S2.length c2, .int .u8 a3] w fun r w' => r = .returned (.bool true) ∧ Below w.heap.size w w' := by
  have hu : 0 ≤ a3 ∧ a3 ≤ 255 := bounds_u8 i3
  obtain ⟨W0, hW0⟩ : ∃ W0, W0 = w.alloc (.cells #[.string x1.name, .slice x1.pa x1.path.length x1.pc] 25) := ⟨_, rfl⟩
  have hb0 : Below w.heap.size w W0 := by rw [hW0]; exact (Below.refl _ _).alloc (Nat.le_refl _) _
  have hk0 : Blk W0 w.heap.size 25 #[.string x1.name, .slice x1.pa x1.path.length x1.pc] := by rw [hW0]; exact Blk.new w _ _
  have HB0 := Lib.hid hb0
  have HW := Lib.hid hW0
  have HK0 := Lib.hid hk0
  have HB := Lib.hid (Below.refl W0.heap.size W0)

  obtain ⟨m0, hmb0⟩ : ∃ b, manyB L0 = b := ⟨_, rfl⟩
  obtain ⟨l1, hl1⟩ : ∃ b, longB x1 = b := ⟨_, rfl⟩
  have HM0 := Lib.hid (many_any A0 _ c0 L0 W0 rfl ((rd0.below hb0).more hb0.size) (fun x hx => (g0 x hx).next hb0) hc0 hm0 m0 hmb0)
  have HX := Lib.hid (fun W (h : Below W0.heap.size W0 W) => (g1.next hb0).next h)
  have HL1 := Lib.hid (fun W (h : Below W0.heap.size W0 W) => long_bool x1 hl1 W (HX.out W h))
  have HRS := Lib.hid (fun W (h : Below W0.heap.size W0 W) => ((rd2.below hb0).more hb0.size |>.below h).more h.size)
  have HGS := Lib.hid g2
  obtain ⟨s2, hs2⟩ : ∃ n, S2.length = n := ⟨_, rfl⟩
  have HS2 := Lib.hid hs2
  rw [hs2] at hc2 ⊢
  unfold maxLen at hm2
  have c0a := bx0 (HK0.out.below HB.out HK0.out.lt)
  have c0b := bx1 (HK0.out.below HB.out HK0.out.lt)
  have z0 := (HK0.out.below HB.out HK0.out.lt).lt

  clear rd2 g2 hs2
  cases m0 with
  | true =>
    clear rd0 g0 g1 hmb0 hl1 hb0 hk0
    go_enter Try.func6, Try.ntmps6
    go_wp2_with fail
    rw [← HW.out]
    clear hW0
    go_wp2_with fail
    refine (HM0.out).mono ?_
    rintro r w1 ⟨rfl, hbn⟩
    have HB := Lib.hid (HB.out.trans (hbn.mono HB.out.size))
    clear hbn
    have c0a := bx0 (HK0.out.below HB.out HK0.out.lt)
    have c0b := bx1 (HK0.out.below HB.out HK0.out.lt)
    have z0 := (HK0.out.below HB.out HK0.out.lt).lt
    go_wp2_with fail
    refine (awake_yes _).mono ?_
    rintro r wz ⟨rfl, hbn⟩
    have HB := Lib.hid (HB.out.trans (hbn.mono HB.out.size))
    clear hbn
    go_wp2
    go_ret
    exact ⟨rfl, HB0.out.trans (HB.out.mono HB0.out.size)⟩

  | false =>
    cases l1 with
    | true =>
      clear rd0 g0 g1 hmb0 hl1 hb0 hk0
      go_enter Try.func6, Try.ntmps6
      go_wp2_with fail
      rw [← HW.out]
      clear hW0
      go_wp2_with fail
      refine (HM0.out).mono ?_
      rintro r w1 ⟨rfl, hbn⟩
      have HB := Lib.hid (HB.out.trans (hbn.mono HB.out.size))
      clear hbn
      have c0a := bx0 (HK0.out.below HB.out HK0.out.lt)
      have c0b := bx1 (HK0.out.below HB.out HK0.out.lt)
      have z0 := (HK0.out.below HB.out HK0.out.lt).lt
      go_wp2_with fail
      refine (HL1.out _ HB.out).mono ?_
      rintro r w2 ⟨rfl, hbn⟩
      have HB := Lib.hid (HB.out.trans (hbn.mono HB.out.size))
      clear hbn
      have c0a := bx0 (HK0.out.below HB.out HK0.out.lt)
      have c0b := bx1 (HK0.out.below HB.out HK0.out.lt)
      have z0 := (HK0.out.below HB.out HK0.out.lt).lt
      go_wp2_with fail
      refine (awake_yes _).mono ?_
      rintro r wz ⟨rfl, hbn⟩
      have HB := Lib.hid (HB.out.trans (hbn.mono HB.out.size))
      clear hbn
      go_wp2
      go_ret
      exact ⟨rfl, HB0.out.trans (HB.out.mono HB0.out.size)⟩

    | false =>
      obtain ⟨h0, h40, _⟩ := short_row rd0 g0 hc0 hmb0
      have H0 := Lib.hid (h0.below hb0)
      have HPX := Lib.hid (show x1.path.length ≤ 100 from (longB_no hl1).1)
      clear rd0 g0 g1 hmb0 hl1 hb0 hk0 h0
      obtain ⟨n0, hn0⟩ : ∃ n, L0.length = n := ⟨_, rfl⟩
      rw [hn0] at H0 HM0 h40 ⊢
      by_cases h20 : 20 < s2
      · have d20 : (20 : Int) < (s2 : Int) := by omega
        clear hn0
        go_enter Try.func6, Try.ntmps6
        go_wp2_with fail
        rw [← HW.out]
        clear hW0
        go_wp2_with fail
        refine (HM0.out).mono ?_
        rintro r w1 ⟨rfl, hbn⟩
        have HB := Lib.hid (HB.out.trans (hbn.mono HB.out.size))
        clear hbn
        have c0a := bx0 (HK0.out.below HB.out HK0.out.lt)
        have c0b := bx1 (HK0.out.below HB.out HK0.out.lt)
        have z0 := (HK0.out.below HB.out HK0.out.lt).lt
        go_wp2_with fail
        refine (HL1.out _ HB.out).mono ?_
        rintro r w2 ⟨rfl, hbn⟩
        have HB := Lib.hid (HB.out.trans (hbn.mono HB.out.size))
        clear hbn
        have c0a := bx0 (HK0.out.below HB.out HK0.out.lt)
        have c0b := bx1 (HK0.out.below HB.out HK0.out.lt)
        have z0 := (HK0.out.below HB.out HK0.out.lt).lt
        go_wp2_with fail
        refine (awake_yes _).mono ?_
        rintro r wz ⟨rfl, hbn⟩
        have HB := Lib.hid (HB.out.trans (hbn.mono HB.out.size))
        clear hbn
        go_wp2
        go_ret
        exact ⟨rfl, HB0.out.trans (HB.out.mono HB0.out.size)⟩

      · have d20 : ¬ (20 : Int) < (s2 : Int) := by omega
        obtain ⟨e, he⟩ : ∃ e, mayL (L0.map Lo.key) x1.key 3 = e := ⟨_, rfl⟩
        obtain ⟨m, hm2'⟩ : ∃ m, mayL (L0.map Lo.key) x1.key 2 = m := ⟨_, rfl⟩
        have hm2 := hm2'
        have hm1 : mayL (L0.map Lo.key) x1.key 1 = m := (share_read _ _).symm.trans hm2
        have HU3 := Lib.hid (fun W (h : Below W0.heap.size W0 W) => may_any A0 n0 c0 L0 x1 3 W (H0.out.below h) (HX.out W h) (by omega) (by omega) e he)
        have HU2 := Lib.hid (fun W (h : Below W0.heap.size W0 W) => may_any A0 n0 c0 L0 x1 2 W (H0.out.below h) (HX.out W h) (by omega) (by omega) m hm2)
        have HU1 := Lib.hid (fun W (h : Below W0.heap.size W0 W) => may_any A0 n0 c0 L0 x1 1 W (H0.out.below h) (HX.out W h) (by omega) (by omega) m hm1)
        have HU4 := Lib.hid (fun W (h : Below W0.heap.size W0 W) => may_any A0 n0 c0 L0 x1 4 W (H0.out.below h) (HX.out W h) (by omega) (by omega) e ((big_alone _ _ 4 (by omega) (by omega)).trans he))
        have HU5 := Lib.hid (fun W (h : Below W0.heap.size W0 W) => may_any A0 n0 c0 L0 x1 5 W (H0.out.below h) (HX.out W h) (by omega) (by omega) e ((big_alone _ _ 5 (by omega) (by omega)).trans he))
        have HU6 := Lib.hid (fun W (h : Below W0.heap.size W0 W) => may_any A0 n0 c0 L0 x1 6 W (H0.out.below h) (HX.out W h) (by omega) (by omega) e ((big_alone _ _ 6 (by omega) (by omega)).trans he))

        have hua : 0 ≤ a3 % 6 ∧ a3 % 6 ≤ 5 := by omega
        have HAL := Lib.hid (fun (h : e = 0) => alone_all (L := L0.map Lo.key) (p := x1.key) (use := (1 + a3 % 6)) (by omega) (by omega) (he.trans h) S2)
        have HEE := Lib.hid (show e = 0 ∨ e = 141 by
          rcases mayL_eq (L0.map Lo.key) x1.key 3 with h | h | h
          · exact .inl (he.symm.trans h)
          · rw [mayL_arg] at h; omega
          · exact .inr (he.symm.trans h))
        have htm : (a3.tmod 6) = a3 % 6 := Int.tmod_eq_emod_of_nonneg (by omega)
        have hw3 : IntKind.u8.wrap (a3 % 6) = a3 % 6 := IntWalk.u8_in _ ⟨by omega, by omega⟩
        have hw2 : IntKind.u8.wrap (1 + a3 % 6) = 1 + a3 % 6 := IntWalk.u8_in _ ⟨by omega, by omega⟩
        have HUA := Lib.hid hua
        clear he hm2 hm2' hm1 hn0 i3 hua
        go_enter Try.func6, Try.ntmps6
        go_wp2_with fail
        rw [← HW.out]
        clear hW0
        go_wp2_with fail
        refine (HM0.out).mono ?_
        rintro r w1 ⟨rfl, hbn⟩
        have HB := Lib.hid (HB.out.trans (hbn.mono HB.out.size))
        clear hbn
        have c0a := bx0 (HK0.out.below HB.out HK0.out.lt)
        have c0b := bx1 (HK0.out.below HB.out HK0.out.lt)
        have z0 := (HK0.out.below HB.out HK0.out.lt).lt
        go_wp2_with fail
        refine (HL1.out _ HB.out).mono ?_
        rintro r w2 ⟨rfl, hbn⟩
        have HB := Lib.hid (HB.out.trans (hbn.mono HB.out.size))
        clear hbn
        have c0a := bx0 (HK0.out.below HB.out HK0.out.lt)
        have c0b := bx1 (HK0.out.below HB.out HK0.out.lt)
        have z0 := (HK0.out.below HB.out HK0.out.lt).lt
        go_wp2_with fail
        refine (HU3.out _ HB.out).mono ?_
        rintro r w3 ⟨rfl, hbn⟩
        have HB := Lib.hid (HB.out.trans (hbn.mono HB.out.size))
        clear hbn
        have c0a := bx0 (HK0.out.below HB.out HK0.out.lt)
        have c0b := bx1 (HK0.out.below HB.out HK0.out.lt)
        have z0 := (HK0.out.below HB.out HK0.out.lt).lt

        rcases HEE.out with rfl | rfl
        · have hal := HAL.out rfl
          have HV := Lib.hid (fun W (h : Below W0.heap.size W0 W) => may_any A0 n0 c0 L0 x1 (1 + a3 % 6) W (H0.out.below h) (HX.out W h) (by have := HUA.out; omega) (by have := HUA.out; omega) 0 hal.1)
          have HVW := Lib.hid hal.2
          clear hal
          go_wp2_with fail
          refine (HV.out _ HB.out).mono ?_
          rintro r w4 ⟨rfl, hbn⟩
          have HB := Lib.hid (HB.out.trans (hbn.mono HB.out.size))
          clear hbn
          have c0a := bx0 (HK0.out.below HB.out HK0.out.lt)
          have c0b := bx1 (HK0.out.below HB.out HK0.out.lt)
          have z0 := (HK0.out.below HB.out HK0.out.lt).lt

          go_wp2_with fail
          refine (with_new x1 S2 A2 s2 c2 w4 (HX.out _ HB.out) (by have := HPX.out; omega) HS2.out (by omega) (HRS.out _ HB.out) HGS.out).mono ?_
          rintro r w5 ⟨y, rfl, hyk, hyok, _, hbn⟩
          have HB := Lib.hid (HB.out.trans (hbn.mono HB.out.size))
          have c0a := bx0 (HK0.out.below HB.out HK0.out.lt)
          have c0b := bx1 (HK0.out.below HB.out HK0.out.lt)
          have z0 := (HK0.out.below HB.out HK0.out.lt).lt

          have HMY := Lib.hid (may_any A0 n0 c0 L0 y (1 + a3 % 6) w5 (H0.out.below HB.out) hyok (by have := HUA.out; omega) (by have := HUA.out; omega) 0 (by rw [hyk]; exact HVW.out))
          clear hbn hyk hyok
          go_wp2_with fail
          refine (HMY.out).mono ?_
          rintro r w6 ⟨rfl, hbn⟩
          have HB := Lib.hid (HB.out.trans (hbn.mono HB.out.size))
          clear hbn
          have c0a := bx0 (HK0.out.below HB.out HK0.out.lt)
          have c0b := bx1 (HK0.out.below HB.out HK0.out.lt)
          have z0 := (HK0.out.below HB.out HK0.out.lt).lt

          go_wp2_with fail
          have c0a := cell_regrown c0a
          have c0b := cell_regrown c0b
          refine wp_region_quiet_below (by kernel_rfl) (by kernel_rfl) ?_
          repeat (first | go_big_quiet_step ((first | ((with_reducible refine Calls.regrown_of (HU2.out _ ?_)); exact HB.out.trans ((below_regrown w6 _ _).mono HB.out.size)) | ((with_reducible refine Calls.regrown_of (HU1.out _ ?_)); exact HB.out.trans ((below_regrown w6 _ _).mono HB.out.size)) | ((with_reducible refine Calls.regrown_of (HU4.out _ ?_)); exact HB.out.trans ((below_regrown w6 _ _).mono HB.out.size)) | ((with_reducible refine Calls.regrown_of (HU5.out _ ?_)); exact HB.out.trans ((below_regrown w6 _ _).mono HB.out.size)) | ((with_reducible refine Calls.regrown_of (HU6.out _ ?_)); exact HB.out.trans ((below_regrown w6 _ _).mono HB.out.size)))) | quiet_step ((first | ((with_reducible refine Calls.regrown_of (HU2.out _ ?_)); exact HB.out.trans ((below_regrown w6 _ _).mono HB.out.size)) | ((with_reducible refine Calls.regrown_of (HU1.out _ ?_)); exact HB.out.trans ((below_regrown w6 _ _).mono HB.out.size)) | ((with_reducible refine Calls.regrown_of (HU4.out _ ?_)); exact HB.out.trans ((below_regrown w6 _ _).mono HB.out.size)) | ((with_reducible refine Calls.regrown_of (HU5.out _ ?_)); exact HB.out.trans ((below_regrown w6 _ _).mono HB.out.size)) | ((with_reducible refine Calls.regrown_of (HU6.out _ ?_)); exact HB.out.trans ((below_regrown w6 _ _).mono HB.out.size)))))
          refine wpQuiet_nil ?_
          intro wq hW2e
          obtain ⟨⟨dq, osq⟩, hW2⟩ := hW2e
          have hbl2 : Below W0.heap.size W0 wq := by rw [hW2]; exact HB.out.trans ((below_regrown w6 dq osq).mono HB.out.size)
          have HBL2 := Lib.hid hbl2
          clear hW2 hbl2
          have HB := HBL2
          go_wp2_with fail
          refine (awake_yes _).mono ?_
          rintro r wz ⟨rfl, hbn⟩
          have HB := Lib.hid (HB.out.trans (hbn.mono HB.out.size))
          clear hbn
          go_wp2
          go_ret
          exact ⟨rfl, HB0.out.trans (HB.out.mono HB0.out.size)⟩

        · go_wp2_with fail
          have c0a := cell_regrown c0a
          have c0b := cell_regrown c0b
          refine wp_region_quiet_below (by kernel_rfl) (by kernel_rfl) ?_
          repeat (first | go_big_quiet_step ((first | ((with_reducible refine Calls.regrown_of (HU2.out _ ?_)); exact HB.out.trans ((below_regrown w3 _ _).mono HB.out.size)) | ((with_reducible refine Calls.regrown_of (HU1.out _ ?_)); exact HB.out.trans ((below_regrown w3 _ _).mono HB.out.size)) | ((with_reducible refine Calls.regrown_of (HU4.out _ ?_)); exact HB.out.trans ((below_regrown w3 _ _).mono HB.out.size)) | ((with_reducible refine Calls.regrown_of (HU5.out _ ?_)); exact HB.out.trans ((below_regrown w3 _ _).mono HB.out.size)) | ((with_reducible refine Calls.regrown_of (HU6.out _ ?_)); exact HB.out.trans ((below_regrown w3 _ _).mono HB.out.size)))) | quiet_step ((first | ((with_reducible refine Calls.regrown_of (HU2.out _ ?_)); exact HB.out.trans ((below_regrown w3 _ _).mono HB.out.size)) | ((with_reducible refine Calls.regrown_of (HU1.out _ ?_)); exact HB.out.trans ((below_regrown w3 _ _).mono HB.out.size)) | ((with_reducible refine Calls.regrown_of (HU4.out _ ?_)); exact HB.out.trans ((below_regrown w3 _ _).mono HB.out.size)) | ((with_reducible refine Calls.regrown_of (HU5.out _ ?_)); exact HB.out.trans ((below_regrown w3 _ _).mono HB.out.size)) | ((with_reducible refine Calls.regrown_of (HU6.out _ ?_)); exact HB.out.trans ((below_regrown w3 _ _).mono HB.out.size)))))
          refine wpQuiet_nil ?_
          intro wq hW2e
          obtain ⟨⟨dq, osq⟩, hW2⟩ := hW2e
          have hbl2 : Below W0.heap.size W0 wq := by rw [hW2]; exact HB.out.trans ((below_regrown w3 dq osq).mono HB.out.size)
          have HBL2 := Lib.hid hbl2
          clear hW2 hbl2
          have HB := HBL2
          go_wp2_with fail
          refine (awake_yes _).mono ?_
          rintro r wz ⟨rfl, hbn⟩
          have HB := Lib.hid (HB.out.trans (hbn.mono HB.out.size))
          clear hbn
          go_wp2
          go_ret
          exact ⟨rfl, HB0.out.trans (HB.out.mono HB0.out.size)⟩

end Go.Proofs.Ytfbhmamdckkimaa
