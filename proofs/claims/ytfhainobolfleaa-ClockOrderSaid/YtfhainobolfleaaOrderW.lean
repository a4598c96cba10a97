/- ClockOrder: the walk. -/
import Derived.Test.YtfhainobolfleaaJ
import Derived.Test.YtfhainobolfleaaI
namespace Go.Proofs.Ytfhainobolfleaa
open Go.RowKit
set_option linter.unusedVariables false

set_option maxRecDepth 100000 in
set_option maxHeartbeats 3200000 in
theorem clockOrderWalk (A0 : Option Addr) (c0 : Nat) (L0 : List Int) (A1 : Option Addr) (c1 : Nat) (L1 : List Int) (A2 : Option Addr) (c2 : Nat) (L2 : List Int) (w : World) (rd0 : Rd w w.heap.size 1 intC A0 L0) (g0 : ∀ x ∈ L0, (Lit.int .i64 x).wf = true) (hc0 : L0.length ≤ c0) (hm0 : c0 ≤ maxLen) (rd1 : Rd w w.heap.size 1 intC A1 L1) (g1 : ∀ x ∈ L1, (Lit.int .i64 x).wf = true) (hc1 : L1.length ≤ c1) (hm1 : c1 ≤ maxLen) (rd2 : Rd w w.heap.size 1 intC A2 L2) (g2 : ∀ x ∈ L2, (Lit.int .i64 x).wf = true) (hc2 : L2.length ≤ c2) (hm2 : c2 ≤ maxLen) :
    Calls Try.prog 8 #[.slice A0 L0.length c0, .slice A1 L1.length c1, .slice A2 L2.length c2] w fun e w' => e = .returned (.bool true) ∧ Below w.heap.size w w' := by
  obtain ⟨l0, hl0⟩ : ∃ l, l = L0.length := ⟨_, rfl⟩
  rw [← hl0]
  have H0 := Lib.hid hl0
  have r0 := rd0
  clear hl0 rd0 hc0 hm0
  obtain ⟨l1, hl1⟩ : ∃ l, l = L1.length := ⟨_, rfl⟩
  rw [← hl1]
  have H1 := Lib.hid hl1
  have r1 := rd1
  clear hl1 rd1 hc1 hm1
  obtain ⟨l2, hl2⟩ : ∃ l, l = L2.length := ⟨_, rfl⟩
  rw [← hl2]
  have H2 := Lib.hid hl2
  have r2 := rd2
  clear hl2 rd2 hc2 hm2
  obtain ⟨b1, hb1⟩ : ∃ b, leL L0 L1 = b := ⟨_, rfl⟩
  obtain ⟨b2, hb2⟩ : ∃ b, leL L1 L2 = b := ⟨_, rfl⟩
  obtain ⟨b3, hb3⟩ : ∃ b, leL L1 L0 = b := ⟨_, rfl⟩
  have P3 := Lib.hid ((le_anti L0 L1).trans (by rw [hb1, hb3] : _ = (b1 && b3)))
  have P4 : b1 = true → b2 = true → leL L0 L2 = true := fun e1 e2 => le_trans_not L0 L1 L2 (hb1.trans e1) (hb2.trans e2)
  have HP4 := Lib.hid P4
  have P1 := Lib.hid hb1
  have P2 := Lib.hid hb2
  have P5 := Lib.hid hb3
  clear hb1 hb2 hb3 g0 g1 g2 P4
  by_cases hbig : (decide (2000 < l0) || decide (2000 < l1) || decide (2000 < l2)) = true
  · go_enter Try.func8, Try.ntmps8
    go_wp2_with fail
    refine (awake_any w).mono ?_
    rintro r w1 ⟨rfl, hb⟩
    have B1 : Below w.heap.size w w1 := hb
    clear hb
    go_wp2_with fail
    refine (long_any A0 A1 A2 l0 c0 l1 c1 l2 c2 w1).mono ?_
    rintro r w1' ⟨rfl, rfl⟩
    rw [hbig]
    go_wp2
    go_ret
    exact ⟨rfl, B1⟩
  have hsm : (decide (2000 < l0) || decide (2000 < l1) || decide (2000 < l2)) = false := by simpa using hbig
  have hn0 : l0 ≤ 2000 := by simp at hsm; omega
  have hn1 : l1 ≤ 2000 := by simp at hsm; omega
  have hn2 : l2 ≤ 2000 := by simp at hsm; omega
  clear hbig
  go_enter Try.func8, Try.ntmps8
  go_wp2_with fail
  refine (awake_any w).mono ?_
  rintro r w1 ⟨rfl, hb⟩
  replace r0 := (r0.below hb).more hb.size
  replace r1 := (r1.below hb).more hb.size
  replace r2 := (r2.below hb).more hb.size
  have B1 : Below w.heap.size w w1 := hb
  clear hb
  go_wp2_with fail
  refine (long_any A0 A1 A2 l0 c0 l1 c1 l2 c2 w1).mono ?_
  rintro r w1' ⟨rfl, rfl⟩
  rw [hsm]
  cases b1
  ·
    go_wp2_with fail
    refine (leL_any A0 A1 l0 c0 l1 c1 L0 L1 w1 H0.out.symm H1.out.symm (by omega) r0 r1).mono ?_
    rintro r w2 ⟨rfl, hb⟩
    rw [show leL L0 L1 = false from P1.out]
    replace r0 := (r0.below hb).more hb.size
    replace r1 := (r1.below hb).more hb.size
    replace r2 := (r2.below hb).more hb.size
    have B2 : Below w.heap.size w w2 := B1.trans (hb.mono B1.size)
    clear B1
    clear hb
    go_wp2_with fail
    refine (leL_any A0 A1 l0 c0 l1 c1 L0 L1 w2 H0.out.symm H1.out.symm (by omega) r0 r1).mono ?_
    rintro r w3 ⟨rfl, hb⟩
    rw [show leL L0 L1 = false from P1.out]
    replace r0 := (r0.below hb).more hb.size
    replace r1 := (r1.below hb).more hb.size
    replace r2 := (r2.below hb).more hb.size
    have B3 : Below w.heap.size w w3 := B2.trans (hb.mono B2.size)
    clear B2
    clear hb
    go_wp2_with fail
    refine (eqL_any A0 A1 l0 c0 l1 c1 L0 L1 w3 H0.out.symm H1.out.symm (by omega) r0 r1).mono ?_
    rintro r w4 ⟨rfl, hb⟩
    rw [show eqL L0 L1 = (false && b3) from P3.out]
    replace r0 := (r0.below hb).more hb.size
    replace r1 := (r1.below hb).more hb.size
    replace r2 := (r2.below hb).more hb.size
    have B4 : Below w.heap.size w w4 := B3.trans (hb.mono B3.size)
    clear B3
    clear hb
    have hz : ∀ b : Bool, (b == b) = true := by decide
    go_wp2_with fail
    refine (leL_any A0 A0 l0 c0 l0 c0 L0 L0 w4 H0.out.symm H0.out.symm (by omega) r0 r0).mono ?_
    rintro r w5 ⟨rfl, hb⟩
    rw [show leL L0 L0 = true from le_refl_ _]
    replace r0 := (r0.below hb).more hb.size
    replace r1 := (r1.below hb).more hb.size
    replace r2 := (r2.below hb).more hb.size
    have B5 : Below w.heap.size w w5 := B4.trans (hb.mono B4.size)
    clear B4
    clear hb
    go_wp2
    go_ret
    exact ⟨rfl, B5⟩
  ·
    go_wp2_with fail
    refine (leL_any A0 A1 l0 c0 l1 c1 L0 L1 w1 H0.out.symm H1.out.symm (by omega) r0 r1).mono ?_
    rintro r w2 ⟨rfl, hb⟩
    rw [show leL L0 L1 = true from P1.out]
    replace r0 := (r0.below hb).more hb.size
    replace r1 := (r1.below hb).more hb.size
    replace r2 := (r2.below hb).more hb.size
    have B2 : Below w.heap.size w w2 := B1.trans (hb.mono B1.size)
    clear B1
    clear hb
    go_wp2_with fail
    refine (leL_any A1 A2 l1 c1 l2 c2 L1 L2 w2 H1.out.symm H2.out.symm (by omega) r1 r2).mono ?_
    rintro r w3 ⟨rfl, hb⟩
    rw [show leL L1 L2 = b2 from P2.out]
    replace r0 := (r0.below hb).more hb.size
    replace r1 := (r1.below hb).more hb.size
    replace r2 := (r2.below hb).more hb.size
    have B3 : Below w.heap.size w w3 := B2.trans (hb.mono B2.size)
    clear B2
    clear hb
    cases b2
    ·
      go_wp2_with fail
      refine (leL_any A0 A1 l0 c0 l1 c1 L0 L1 w3 H0.out.symm H1.out.symm (by omega) r0 r1).mono ?_
      rintro r w4 ⟨rfl, hb⟩
      rw [show leL L0 L1 = true from P1.out]
      replace r0 := (r0.below hb).more hb.size
      replace r1 := (r1.below hb).more hb.size
      replace r2 := (r2.below hb).more hb.size
      have B4 : Below w.heap.size w w4 := B3.trans (hb.mono B3.size)
      clear B3
      clear hb
      go_wp2_with fail
      refine (leL_any A1 A0 l1 c1 l0 c0 L1 L0 w4 H1.out.symm H0.out.symm (by omega) r1 r0).mono ?_
      rintro r w5 ⟨rfl, hb⟩
      rw [show leL L1 L0 = b3 from P5.out]
      replace r0 := (r0.below hb).more hb.size
      replace r1 := (r1.below hb).more hb.size
      replace r2 := (r2.below hb).more hb.size
      have B5 : Below w.heap.size w w5 := B4.trans (hb.mono B4.size)
      clear B4
      clear hb
      go_wp2_with fail
      refine (eqL_any A0 A1 l0 c0 l1 c1 L0 L1 w5 H0.out.symm H1.out.symm (by omega) r0 r1).mono ?_
      rintro r w6 ⟨rfl, hb⟩
      rw [show eqL L0 L1 = (true && b3) from P3.out]
      replace r0 := (r0.below hb).more hb.size
      replace r1 := (r1.below hb).more hb.size
      replace r2 := (r2.below hb).more hb.size
      have B6 : Below w.heap.size w w6 := B5.trans (hb.mono B5.size)
      clear B5
      clear hb
      have hz : ∀ b : Bool, (b == b) = true := by decide
      cases b3
      ·
        go_wp2_with fail
        refine (leL_any A0 A0 l0 c0 l0 c0 L0 L0 w6 H0.out.symm H0.out.symm (by omega) r0 r0).mono ?_
        rintro r w7 ⟨rfl, hb⟩
        rw [show leL L0 L0 = true from le_refl_ _]
        replace r0 := (r0.below hb).more hb.size
        replace r1 := (r1.below hb).more hb.size
        replace r2 := (r2.below hb).more hb.size
        have B7 : Below w.heap.size w w7 := B6.trans (hb.mono B6.size)
        clear B6
        clear hb
        go_wp2
        go_ret
        exact ⟨rfl, B7⟩
      ·
        go_wp2_with fail
        refine (leL_any A0 A0 l0 c0 l0 c0 L0 L0 w6 H0.out.symm H0.out.symm (by omega) r0 r0).mono ?_
        rintro r w7 ⟨rfl, hb⟩
        rw [show leL L0 L0 = true from le_refl_ _]
        replace r0 := (r0.below hb).more hb.size
        replace r1 := (r1.below hb).more hb.size
        replace r2 := (r2.below hb).more hb.size
        have B7 : Below w.heap.size w w7 := B6.trans (hb.mono B6.size)
        clear B6
        clear hb
        go_wp2
        go_ret
        exact ⟨rfl, B7⟩
    ·
      go_wp2_with fail
      refine (leL_any A0 A2 l0 c0 l2 c2 L0 L2 w3 H0.out.symm H2.out.symm (by omega) r0 r2).mono ?_
      rintro r w4 ⟨rfl, hb⟩
      rw [show leL L0 L2 = true from by first | exact HP4.out rfl rfl | exact HP4.out trivial trivial | simpa using HP4.out]
      replace r0 := (r0.below hb).more hb.size
      replace r1 := (r1.below hb).more hb.size
      replace r2 := (r2.below hb).more hb.size
      have B4 : Below w.heap.size w w4 := B3.trans (hb.mono B3.size)
      clear B3
      clear hb
      go_wp2_with fail
      refine (leL_any A0 A1 l0 c0 l1 c1 L0 L1 w4 H0.out.symm H1.out.symm (by omega) r0 r1).mono ?_
      rintro r w5 ⟨rfl, hb⟩
      rw [show leL L0 L1 = true from P1.out]
      replace r0 := (r0.below hb).more hb.size
      replace r1 := (r1.below hb).more hb.size
      replace r2 := (r2.below hb).more hb.size
      have B5 : Below w.heap.size w w5 := B4.trans (hb.mono B4.size)
      clear B4
      clear hb
      go_wp2_with fail
      refine (leL_any A1 A0 l1 c1 l0 c0 L1 L0 w5 H1.out.symm H0.out.symm (by omega) r1 r0).mono ?_
      rintro r w6 ⟨rfl, hb⟩
      rw [show leL L1 L0 = b3 from P5.out]
      replace r0 := (r0.below hb).more hb.size
      replace r1 := (r1.below hb).more hb.size
      replace r2 := (r2.below hb).more hb.size
      have B6 : Below w.heap.size w w6 := B5.trans (hb.mono B5.size)
      clear B5
      clear hb
      go_wp2_with fail
      refine (eqL_any A0 A1 l0 c0 l1 c1 L0 L1 w6 H0.out.symm H1.out.symm (by omega) r0 r1).mono ?_
      rintro r w7 ⟨rfl, hb⟩
      rw [show eqL L0 L1 = (true && b3) from P3.out]
      replace r0 := (r0.below hb).more hb.size
      replace r1 := (r1.below hb).more hb.size
      replace r2 := (r2.below hb).more hb.size
      have B7 : Below w.heap.size w w7 := B6.trans (hb.mono B6.size)
      clear B6
      clear hb
      have hz : ∀ b : Bool, (b == b) = true := by decide
      cases b3
      ·
        go_wp2_with fail
        refine (leL_any A0 A0 l0 c0 l0 c0 L0 L0 w7 H0.out.symm H0.out.symm (by omega) r0 r0).mono ?_
        rintro r w8 ⟨rfl, hb⟩
        rw [show leL L0 L0 = true from le_refl_ _]
        replace r0 := (r0.below hb).more hb.size
        replace r1 := (r1.below hb).more hb.size
        replace r2 := (r2.below hb).more hb.size
        have B8 : Below w.heap.size w w8 := B7.trans (hb.mono B7.size)
        clear B7
        clear hb
        go_wp2
        go_ret
        exact ⟨rfl, B8⟩
      ·
        go_wp2_with fail
        refine (leL_any A0 A0 l0 c0 l0 c0 L0 L0 w7 H0.out.symm H0.out.symm (by omega) r0 r0).mono ?_
        rintro r w8 ⟨rfl, hb⟩
        rw [show leL L0 L0 = true from le_refl_ _]
        replace r0 := (r0.below hb).more hb.size
        replace r1 := (r1.below hb).more hb.size
        replace r2 := (r2.below hb).more hb.size
        have B8 : Below w.heap.size w w8 := B7.trans (hb.mono B7.size)
        clear B7
        clear hb
        go_wp2
        go_ret
        exact ⟨rfl, B8⟩
end Go.Proofs.Ytfhainobolfleaa

