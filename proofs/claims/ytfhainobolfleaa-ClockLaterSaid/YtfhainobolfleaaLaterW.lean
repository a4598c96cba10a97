/- ClockLater: the walk. -/
import Derived.Test.YtfhainobolfleaaK
import Derived.Test.YtfhainobolfleaaI
namespace Go.Proofs.Ytfhainobolfleaa
open Go.RowKit
set_option linter.unusedVariables false

set_option maxRecDepth 100000 in
set_option maxHeartbeats 3200000 in
theorem clockLaterWalk (A0 : Option Addr) (c0 : Nat) (L0 : List Int) (a1 : Int) (a2 : Int) (w : World) (rd0 : Rd w w.heap.size 1 intC A0 L0) (g0 : ∀ x ∈ L0, (Lit.int .i64 x).wf = true) (hc0 : L0.length ≤ c0) (hm0 : c0 ≤ maxLen) (i1 : (Lit.int .i64 a1).wf = true) (i2 : (Lit.int .i64 a2).wf = true) :
    Calls Try.prog 7 #[.slice A0 L0.length c0, .int .i64 a1, .int .i64 a2] w fun e w' => e = .returned (.bool true) ∧ Below w.heap.size w w' := by
  obtain ⟨l0, hl0⟩ : ∃ l, l = L0.length := ⟨_, rfl⟩
  rw [← hl0]
  have H0 := Lib.hid hl0
  have r0 := rd0
  clear hl0 rd0 hc0 hm0
  have hbd := (atZ_bd g0 a1).1
  have HBD := Lib.hid hbd
  have T1 := Lib.hid (le_tick L0 a1 hbd)
  have T2 := Lib.hid (tick_le L0 a1 hbd)
  have T3 := Lib.hid (tick_eq L0 a1 hbd)
  have T4 := Lib.hid (tick_at L0 a1 hbd)
  have T5 := Lib.hid (tick_other L0 a1 a2 hbd)
  have TO := Lib.hid (tickOn_iff L0 a1)
  clear hbd g0 i1 i2
  by_cases hbig : (decide (2000 < l0) || decide (2000 < 0) || decide (2000 < 0)) = true
  · go_enter Try.func7, Try.ntmps7
    go_wp2_with fail
    refine (awake_any w).mono ?_
    rintro r w1 ⟨rfl, hb⟩
    have B1 : Below w.heap.size w w1 := hb
    clear hb
    go_wp2_with fail
    refine (long_any A0 none none l0 c0 0 0 0 0 w1).mono ?_
    rintro r w1' ⟨rfl, rfl⟩
    rw [hbig]
    go_wp2
    go_ret
    exact ⟨rfl, B1⟩
  have hsm : (decide (2000 < l0) || decide (2000 < 0) || decide (2000 < 0)) = false := by simpa using hbig
  have hn0 : l0 ≤ 2000 := by simp at hsm; omega
  have HN0 := Lib.hid hn0
  clear hn0
  clear hbig
  go_enter Try.func7, Try.ntmps7
  go_wp2_with fail
  refine (awake_any w).mono ?_
  rintro r w1 ⟨rfl, hb⟩
  replace r0 := (r0.below hb).more hb.size
  have B1 : Below w.heap.size w w1 := hb
  clear hb
  go_wp2_with fail
  refine (long_any A0 none none l0 c0 0 0 0 0 w1).mono ?_
  rintro r w1' ⟨rfl, rfl⟩
  rw [hsm]
  go_wp2_with fail
  refine (tick_any A0 l0 c0 L0 a1 w1 H0.out.symm (by have := HN0.out; omega) r0).mono ?_
  rintro r w2 ⟨v, rfl, hown, hb⟩
  obtain ⟨At, ct, rfl, rt', hct, hmt⟩ := own_rd intC_len hown
  obtain ⟨lt, hlt0⟩ : ∃ l, l = (tickL L0 a1).length := ⟨_, rfl⟩
  obtain ⟨Lt, hLt0⟩ : ∃ L, L = tickL L0 a1 := ⟨_, rfl⟩
  rw [← hlt0]
  rw [← hLt0] at hlt0 rt'
  have hnt : lt ≤ 100000 := by rw [hlt0, hLt0]; first | exact Nat.le_trans (joinL_length _ _) (by rw [← H0.out]; have := HN0.out; omega) | exact Nat.le_trans (tickL_length _ _) (by rw [← H0.out]; have := HN0.out; omega)
  have Ht := Lib.hid hlt0
  have HEt := Lib.hid hLt0
  have HNt := Lib.hid hnt
  clear hnt hlt0 hLt0 hct hmt hown
  replace r0 := (r0.below hb).more hb.size
  have B2 : Below w.heap.size w w2 := B1.trans (hb.mono B1.size)
  clear B1
  clear hb
  have rt := rt'
  clear rt'
  by_cases h0 : a1 < 0
  · have hon := Lib.hid (show tickOn L0 a1 = false from by rw [Bool.eq_false_iff]; intro h; have := (TO.out).1 h; omega)
    go_wp2_with fail
    refine (leL_any A0 At l0 c0 lt ct L0 Lt w2 H0.out.symm Ht.out.symm (by have := HN0.out; have := HNt.out; omega) r0 rt).mono ?_
    rintro r w3 ⟨rfl, hb⟩
    rw [show leL L0 Lt = true from by rw [HEt.out]; exact T1.out]
    replace r0 := (r0.below hb).more hb.size
    replace rt := (rt.below hb).more hb.size
    have B3 : Below w.heap.size w w3 := B2.trans (hb.mono B2.size)
    clear B2
    clear hb
    go_wp2_with fail
    refine (leL_any At A0 lt ct l0 c0 Lt L0 w3 Ht.out.symm H0.out.symm (by have := HNt.out; have := HN0.out; omega) rt r0).mono ?_
    rintro r w4 ⟨rfl, hb⟩
    rw [show leL Lt L0 = true from by rw [HEt.out, T2.out, hon.out]; rfl]
    replace r0 := (r0.below hb).more hb.size
    replace rt := (rt.below hb).more hb.size
    have B4 : Below w.heap.size w w4 := B3.trans (hb.mono B3.size)
    clear B3
    clear hb
    go_wp2_with fail
    refine (eqL_any At A0 lt ct l0 c0 Lt L0 w4 Ht.out.symm H0.out.symm (by have := HNt.out; have := HN0.out; omega) rt r0).mono ?_
    rintro r w5 ⟨rfl, hb⟩
    rw [show eqL Lt L0 = true from by rw [HEt.out, T3.out, hon.out]; rfl]
    replace r0 := (r0.below hb).more hb.size
    replace rt := (rt.below hb).more hb.size
    have B5 : Below w.heap.size w w5 := B4.trans (hb.mono B4.size)
    clear B4
    clear hb
    by_cases ho : a2 = a1
    · subst ho
      go_wp2
      go_ret
      exact ⟨rfl, B5⟩
    · have bo : (a2 == a1) = false := by simpa using ho
      obtain ⟨y, hy⟩ : ∃ y, y = atZ L0 a2 := ⟨_, rfl⟩
      have HY := Lib.hid hy
      have HO := Lib.hid ho
      clear hy ho
      go_wp2_with fail
      refine (at_12 (n := a2) Ht.out.symm rt).mono ?_
      rintro r w5' ⟨rfl, rfl⟩
      rw [show atZ Lt a2 = y from by rw [HEt.out, T5.out HO.out, HY.out]]
      go_wp2_with fail
      refine (at_12 (n := a2) H0.out.symm r0).mono ?_
      rintro r w5' ⟨rfl, rfl⟩
      rw [← HY.out]
      go_wp2
      go_ret
      exact ⟨rfl, B5⟩
  by_cases h1 : 65536 ≤ a1
  · have hon := Lib.hid (show tickOn L0 a1 = false from by rw [Bool.eq_false_iff]; intro h; have := (TO.out).1 h; omega)
    have hd1 : decide (a1 < 65536) = false := by simpa using h1
    go_wp2_with fail
    refine (leL_any A0 At l0 c0 lt ct L0 Lt w2 H0.out.symm Ht.out.symm (by have := HN0.out; have := HNt.out; omega) r0 rt).mono ?_
    rintro r w3 ⟨rfl, hb⟩
    rw [show leL L0 Lt = true from by rw [HEt.out]; exact T1.out]
    replace r0 := (r0.below hb).more hb.size
    replace rt := (rt.below hb).more hb.size
    have B3 : Below w.heap.size w w3 := B2.trans (hb.mono B2.size)
    clear B2
    clear hb
    go_wp2_with fail
    refine (leL_any At A0 lt ct l0 c0 Lt L0 w3 Ht.out.symm H0.out.symm (by have := HNt.out; have := HN0.out; omega) rt r0).mono ?_
    rintro r w4 ⟨rfl, hb⟩
    rw [show leL Lt L0 = true from by rw [HEt.out, T2.out, hon.out]; rfl]
    replace r0 := (r0.below hb).more hb.size
    replace rt := (rt.below hb).more hb.size
    have B4 : Below w.heap.size w w4 := B3.trans (hb.mono B3.size)
    clear B3
    clear hb
    go_wp2_with fail
    refine (eqL_any At A0 lt ct l0 c0 Lt L0 w4 Ht.out.symm H0.out.symm (by have := HNt.out; have := HN0.out; omega) rt r0).mono ?_
    rintro r w5 ⟨rfl, hb⟩
    rw [show eqL Lt L0 = true from by rw [HEt.out, T3.out, hon.out]; rfl]
    replace r0 := (r0.below hb).more hb.size
    replace rt := (rt.below hb).more hb.size
    have B5 : Below w.heap.size w w5 := B4.trans (hb.mono B4.size)
    clear B4
    clear hb
    by_cases ho : a2 = a1
    · subst ho
      go_wp2
      go_ret
      exact ⟨rfl, B5⟩
    · have bo : (a2 == a1) = false := by simpa using ho
      obtain ⟨y, hy⟩ : ∃ y, y = atZ L0 a2 := ⟨_, rfl⟩
      have HY := Lib.hid hy
      have HO := Lib.hid ho
      clear hy ho
      go_wp2_with fail
      refine (at_12 (n := a2) Ht.out.symm rt).mono ?_
      rintro r w5' ⟨rfl, rfl⟩
      rw [show atZ Lt a2 = y from by rw [HEt.out, T5.out HO.out, HY.out]]
      go_wp2_with fail
      refine (at_12 (n := a2) H0.out.symm r0).mono ?_
      rintro r w5' ⟨rfl, rfl⟩
      rw [← HY.out]
      go_wp2
      go_ret
      exact ⟨rfl, B5⟩
  obtain ⟨x, hx⟩ : ∃ x, x = atZ L0 a1 := ⟨_, rfl⟩
  have HX := Lib.hid hx
  clear hx
  by_cases h2 : x < 9223372036854775807
  · have hon := Lib.hid (show tickOn L0 a1 = true from (TO.out).2 ⟨by omega, by omega, by rw [← HX.out]; exact h2⟩)
    have HLX := Lib.hid h2
    have HBX := Lib.hid (show -9223372036854775808 ≤ x from by rw [HX.out]; exact HBD.out)
    have hd1 : decide (a1 < 65536) = true := by simp; omega
    have hd2 : decide (x < 9223372036854775807) = true := by simpa using h2
    clear h2
    go_wp2_with fail
    refine (at_12 (n := a1) H0.out.symm r0).mono ?_
    rintro r w2' ⟨rfl, rfl⟩
    rw [← HX.out]
    go_wp2_with fail
    refine (leL_any A0 At l0 c0 lt ct L0 Lt w2 H0.out.symm Ht.out.symm (by have := HN0.out; have := HNt.out; omega) r0 rt).mono ?_
    rintro r w3 ⟨rfl, hb⟩
    rw [show leL L0 Lt = true from by rw [HEt.out]; exact T1.out]
    replace r0 := (r0.below hb).more hb.size
    replace rt := (rt.below hb).more hb.size
    have B3 : Below w.heap.size w w3 := B2.trans (hb.mono B2.size)
    clear B2
    clear hb
    go_wp2_with fail
    refine (leL_any At A0 lt ct l0 c0 Lt L0 w3 Ht.out.symm H0.out.symm (by have := HNt.out; have := HN0.out; omega) rt r0).mono ?_
    rintro r w4 ⟨rfl, hb⟩
    rw [show leL Lt L0 = false from by rw [HEt.out, T2.out, hon.out]; rfl]
    replace r0 := (r0.below hb).more hb.size
    replace rt := (rt.below hb).more hb.size
    have B4 : Below w.heap.size w w4 := B3.trans (hb.mono B3.size)
    clear B3
    clear hb
    go_wp2_with fail
    refine (eqL_any At A0 lt ct l0 c0 Lt L0 w4 Ht.out.symm H0.out.symm (by have := HNt.out; have := HN0.out; omega) rt r0).mono ?_
    rintro r w5 ⟨rfl, hb⟩
    rw [show eqL Lt L0 = false from by rw [HEt.out, T3.out, hon.out]; rfl]
    replace r0 := (r0.below hb).more hb.size
    replace rt := (rt.below hb).more hb.size
    have B5 : Below w.heap.size w w5 := B4.trans (hb.mono B4.size)
    clear B4
    clear hb
    go_wp2_with fail
    refine (at_12 (n := a1) Ht.out.symm rt).mono ?_
    rintro r w5' ⟨rfl, rfl⟩
    rw [show atZ Lt a1 = x + 1 from by rw [HEt.out, T4.out hon.out, HX.out]]
    go_wp2_with fail
    refine (at_12 (n := a1) H0.out.symm r0).mono ?_
    rintro r w5' ⟨rfl, rfl⟩
    rw [← HX.out]
    have hw1 : wrap64 (x + 1) = x + 1 := by have := HLX.out; have := HBX.out; unfold wrap64; omega
    by_cases ho : a2 = a1
    · subst ho
      go_wp2
      go_ret
      exact ⟨rfl, B5⟩
    · have bo : (a2 == a1) = false := by simpa using ho
      obtain ⟨y, hy⟩ : ∃ y, y = atZ L0 a2 := ⟨_, rfl⟩
      have HY := Lib.hid hy
      have HO := Lib.hid ho
      clear hy ho
      go_wp2_with fail
      refine (at_12 (n := a2) Ht.out.symm rt).mono ?_
      rintro r w5' ⟨rfl, rfl⟩
      rw [show atZ Lt a2 = y from by rw [HEt.out, T5.out HO.out, HY.out]]
      go_wp2_with fail
      refine (at_12 (n := a2) H0.out.symm r0).mono ?_
      rintro r w5' ⟨rfl, rfl⟩
      rw [← HY.out]
      go_wp2
      go_ret
      exact ⟨rfl, B5⟩
  · have hon := Lib.hid (show tickOn L0 a1 = false from by rw [Bool.eq_false_iff]; intro h; have := (TO.out).1 h; rw [← HX.out] at this; omega)
    have hd1 : decide (a1 < 65536) = true := by simp; omega
    have hd2 : decide (x < 9223372036854775807) = false := by simp; omega
    clear h2
    go_wp2_with fail
    refine (at_12 (n := a1) H0.out.symm r0).mono ?_
    rintro r w2' ⟨rfl, rfl⟩
    rw [← HX.out]
    go_wp2_with fail
    refine (leL_any A0 At l0 c0 lt ct L0 Lt w2 H0.out.symm Ht.out.symm (by have := HN0.out; have := HNt.out; omega) r0 rt).mono ?_
    rintro r w3 ⟨rfl, hb⟩
    rw [show leL L0 Lt = true from by rw [HEt.out]; exact T1.out]
    replace r0 := (r0.below hb).more hb.size
    replace rt := (rt.below hb).more hb.size
    have B3 : Below w.heap.size w w3 := B2.trans (hb.mono B2.size)
    clear B2
    clear hb
    go_wp2_with fail
    refine (leL_any At A0 lt ct l0 c0 Lt L0 w3 Ht.out.symm H0.out.symm (by have := HNt.out; have := HN0.out; omega) rt r0).mono ?_
    rintro r w4 ⟨rfl, hb⟩
    rw [show leL Lt L0 = true from by rw [HEt.out, T2.out, hon.out]; rfl]
    replace r0 := (r0.below hb).more hb.size
    replace rt := (rt.below hb).more hb.size
    have B4 : Below w.heap.size w w4 := B3.trans (hb.mono B3.size)
    clear B3
    clear hb
    go_wp2_with fail
    refine (eqL_any At A0 lt ct l0 c0 Lt L0 w4 Ht.out.symm H0.out.symm (by have := HNt.out; have := HN0.out; omega) rt r0).mono ?_
    rintro r w5 ⟨rfl, hb⟩
    rw [show eqL Lt L0 = true from by rw [HEt.out, T3.out, hon.out]; rfl]
    replace r0 := (r0.below hb).more hb.size
    replace rt := (rt.below hb).more hb.size
    have B5 : Below w.heap.size w w5 := B4.trans (hb.mono B4.size)
    clear B4
    clear hb
    by_cases ho : a2 = a1
    · subst ho
      go_wp2
      go_ret
      exact ⟨rfl, B5⟩
    · have bo : (a2 == a1) = false := by simpa using ho
      obtain ⟨y, hy⟩ : ∃ y, y = atZ L0 a2 := ⟨_, rfl⟩
      have HY := Lib.hid hy
      have HO := Lib.hid ho
      clear hy ho
      go_wp2_with fail
      refine (at_12 (n := a2) Ht.out.symm rt).mono ?_
      rintro r w5' ⟨rfl, rfl⟩
      rw [show atZ Lt a2 = y from by rw [HEt.out, T5.out HO.out, HY.out]]
      go_wp2_with fail
      refine (at_12 (n := a2) H0.out.symm r0).mono ?_
      rintro r w5' ⟨rfl, rfl⟩
      rw [← HY.out]
      go_wp2
      go_ret
      exact ⟨rfl, B5⟩
end Go.Proofs.Ytfhainobolfleaa

