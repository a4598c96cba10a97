/- ClockOrderless: the walk. -/
import Derived.Test.YtfhainobolfleaaJ
import Derived.Test.YtfhainobolfleaaI
namespace Go.Proofs.Ytfhainobolfleaa
open Go.RowKit
set_option linter.unusedVariables false

set_option maxRecDepth 100000 in
set_option maxHeartbeats 3200000 in
theorem clockOrderlessWalk (A0 : Option Addr) (c0 : Nat) (L0 : List Int) (A1 : Option Addr) (c1 : Nat) (L1 : List Int) (A2 : Option Addr) (c2 : Nat) (L2 : List Int) (w : World) (rd0 : Rd w w.heap.size 1 intC A0 L0) (g0 : ∀ x ∈ L0, (Lit.int .i64 x).wf = true) (hc0 : L0.length ≤ c0) (hm0 : c0 ≤ maxLen) (rd1 : Rd w w.heap.size 1 intC A1 L1) (g1 : ∀ x ∈ L1, (Lit.int .i64 x).wf = true) (hc1 : L1.length ≤ c1) (hm1 : c1 ≤ maxLen) (rd2 : Rd w w.heap.size 1 intC A2 L2) (g2 : ∀ x ∈ L2, (Lit.int .i64 x).wf = true) (hc2 : L2.length ≤ c2) (hm2 : c2 ≤ maxLen) :
    Calls Try.prog 6 #[.slice A0 L0.length c0, .slice A1 L1.length c1, .slice A2 L2.length c2] w fun e w' => e = .returned (.bool true) ∧ Below w.heap.size w w' := by
  obtain ⟨l0, hl0⟩ : ∃ l, l = L0.length := ⟨_, rfl⟩
  rw [← hl0]
  have H0 := Lib.hid hl0
  have r0 := rd0
  clear hl0 rd0 hc0 hm0
  obtain ⟨l1, hl1⟩ : ∃ l, l = L1.length := ⟨_, rfl⟩
  rw [← hl1]
  have H1 := Lib.hid hl1
  have r1 := rd1
  clear hl1 rd1 hc1 hm1
  obtain ⟨l2, hl2⟩ : ∃ l, l = L2.length := ⟨_, rfl⟩
  rw [← hl2]
  have H2 := Lib.hid hl2
  have r2 := rd2
  clear hl2 rd2 hc2 hm2
  clear g0 g1 g2
  by_cases hbig : (decide (2000 < l0) || decide (2000 < l1) || decide (2000 < l2)) = true
  · go_enter Try.func6, Try.ntmps6
    go_wp2_with fail
    refine (awake_any w).mono ?_
    rintro r w1 ⟨rfl, hb⟩
    have B1 : Below w.heap.size w w1 := hb
    clear hb
    go_wp2_with fail
    refine (long_any A0 A1 A2 l0 c0 l1 c1 l2 c2 w1).mono ?_
    rintro r w1' ⟨rfl, rfl⟩
    rw [hbig]
    go_wp2
    go_ret
    exact ⟨rfl, B1⟩
  have hsm : (decide (2000 < l0) || decide (2000 < l1) || decide (2000 < l2)) = false := by simpa using hbig
  have hn0 : l0 ≤ 2000 := by simp at hsm; omega
  have hn1 : l1 ≤ 2000 := by simp at hsm; omega
  have hn2 : l2 ≤ 2000 := by simp at hsm; omega
  clear hbig
  go_enter Try.func6, Try.ntmps6
  go_wp2_with fail
  refine (awake_any w).mono ?_
  rintro r w1 ⟨rfl, hb⟩
  replace r0 := (r0.below hb).more hb.size
  replace r1 := (r1.below hb).more hb.size
  replace r2 := (r2.below hb).more hb.size
  have B1 : Below w.heap.size w w1 := hb
  clear hb
  go_wp2_with fail
  refine (long_any A0 A1 A2 l0 c0 l1 c1 l2 c2 w1).mono ?_
  rintro r w1' ⟨rfl, rfl⟩
  rw [hsm]
  go_wp2_with fail
  refine (join_any A0 A1 l0 c0 l1 c1 L0 L1 w1 H0.out.symm H1.out.symm (by omega) (by omega) r0 r1).mono ?_
  rintro r w2 ⟨v, rfl, hown, hb⟩
  obtain ⟨Aj, cj, rfl, rj', hcj, hmj⟩ := own_rd intC_len hown
  obtain ⟨lj, hlj0⟩ : ∃ l, l = (joinL L0 L1).length := ⟨_, rfl⟩
  obtain ⟨Lj, hLj0⟩ : ∃ L, L = joinL L0 L1 := ⟨_, rfl⟩
  rw [← hlj0]
  rw [← hLj0] at hlj0 rj'
  have hnj : lj ≤ 10000 := by rw [hlj0, hLj0]; first | exact Nat.le_trans (joinL_length _ _) (by rw [← H0.out,← H1.out]; omega) | exact Nat.le_trans (tickL_length _ _) (by rw [← H0.out,← H1.out]; omega)
  have Hj := Lib.hid hlj0
  have HEj := Lib.hid hLj0
  clear hlj0 hLj0 hcj hmj hown
  replace r0 := (r0.below hb).more hb.size
  replace r1 := (r1.below hb).more hb.size
  replace r2 := (r2.below hb).more hb.size
  have B2 : Below w.heap.size w w2 := B1.trans (hb.mono B1.size)
  clear B1
  clear hb
  have rj := rj'
  clear rj'
  go_wp2_with fail
  refine (join_any A1 A0 l1 c1 l0 c0 L1 L0 w2 H1.out.symm H0.out.symm (by omega) (by omega) r1 r0).mono ?_
  rintro r w3 ⟨v, rfl, hown, hb⟩
  obtain ⟨Ai, ci, rfl, ri', hci, hmi⟩ := own_rd intC_len hown
  obtain ⟨li, hli0⟩ : ∃ l, l = (joinL L1 L0).length := ⟨_, rfl⟩
  obtain ⟨Li, hLi0⟩ : ∃ L, L = joinL L1 L0 := ⟨_, rfl⟩
  rw [← hli0]
  rw [← hLi0] at hli0 ri'
  have hni : li ≤ 10000 := by rw [hli0, hLi0]; first | exact Nat.le_trans (joinL_length _ _) (by rw [← H1.out,← H0.out]; omega) | exact Nat.le_trans (tickL_length _ _) (by rw [← H1.out,← H0.out]; omega)
  have Hi := Lib.hid hli0
  have HEi := Lib.hid hLi0
  clear hli0 hLi0 hci hmi hown
  replace r0 := (r0.below hb).more hb.size
  replace r1 := (r1.below hb).more hb.size
  replace r2 := (r2.below hb).more hb.size
  replace rj := (rj.below hb).more hb.size
  have B3 : Below w.heap.size w w3 := B2.trans (hb.mono B2.size)
  clear B2
  clear hb
  have ri := ri'
  clear ri'
  go_wp2_with fail
  refine (eqL_any Aj Ai lj cj li ci Lj Li w3 Hj.out.symm Hi.out.symm (by omega) rj ri).mono ?_
  rintro r w4 ⟨rfl, hb⟩
  rw [show eqL Lj Li = true from by rw [HEj.out, HEi.out]; exact eq_comm_join _ _]
  replace r0 := (r0.below hb).more hb.size
  replace r1 := (r1.below hb).more hb.size
  replace r2 := (r2.below hb).more hb.size
  replace rj := (rj.below hb).more hb.size
  replace ri := (ri.below hb).more hb.size
  have B4 : Below w.heap.size w w4 := B3.trans (hb.mono B3.size)
  clear B3
  clear hb
  go_wp2_with fail
  refine (join_any Aj A2 lj cj l2 c2 Lj L2 w4 Hj.out.symm H2.out.symm (by omega) (by omega) rj r2).mono ?_
  rintro r w5 ⟨v, rfl, hown, hb⟩
  obtain ⟨Am, cm, rfl, rm', hcm, hmm⟩ := own_rd intC_len hown
  obtain ⟨lm, hlm0⟩ : ∃ l, l = (joinL Lj L2).length := ⟨_, rfl⟩
  obtain ⟨Lm, hLm0⟩ : ∃ L, L = joinL Lj L2 := ⟨_, rfl⟩
  rw [← hlm0]
  rw [← hLm0] at hlm0 rm'
  have hnm : lm ≤ 10000 := by rw [hlm0, hLm0]; first | exact Nat.le_trans (joinL_length _ _) (by rw [← Hj.out,← H2.out]; omega) | exact Nat.le_trans (tickL_length _ _) (by rw [← Hj.out,← H2.out]; omega)
  have Hm := Lib.hid hlm0
  have HEm := Lib.hid hLm0
  clear hlm0 hLm0 hcm hmm hown
  replace r0 := (r0.below hb).more hb.size
  replace r1 := (r1.below hb).more hb.size
  replace r2 := (r2.below hb).more hb.size
  replace rj := (rj.below hb).more hb.size
  replace ri := (ri.below hb).more hb.size
  have B5 : Below w.heap.size w w5 := B4.trans (hb.mono B4.size)
  clear B4
  clear hb
  have rm := rm'
  clear rm'
  go_wp2_with fail
  refine (join_any A1 A2 l1 c1 l2 c2 L1 L2 w5 H1.out.symm H2.out.symm (by omega) (by omega) r1 r2).mono ?_
  rintro r w6 ⟨v, rfl, hown, hb⟩
  obtain ⟨An, cn, rfl, rn', hcn, hmn⟩ := own_rd intC_len hown
  obtain ⟨ln, hln0⟩ : ∃ l, l = (joinL L1 L2).length := ⟨_, rfl⟩
  obtain ⟨Ln, hLn0⟩ : ∃ L, L = joinL L1 L2 := ⟨_, rfl⟩
  rw [← hln0]
  rw [← hLn0] at hln0 rn'
  have hnn : ln ≤ 10000 := by rw [hln0, hLn0]; first | exact Nat.le_trans (joinL_length _ _) (by rw [← H1.out,← H2.out]; omega) | exact Nat.le_trans (tickL_length _ _) (by rw [← H1.out,← H2.out]; omega)
  have Hn := Lib.hid hln0
  have HEn := Lib.hid hLn0
  clear hln0 hLn0 hcn hmn hown
  replace r0 := (r0.below hb).more hb.size
  replace r1 := (r1.below hb).more hb.size
  replace r2 := (r2.below hb).more hb.size
  replace rj := (rj.below hb).more hb.size
  replace ri := (ri.below hb).more hb.size
  replace rm := (rm.below hb).more hb.size
  have B6 : Below w.heap.size w w6 := B5.trans (hb.mono B5.size)
  clear B5
  clear hb
  have rn := rn'
  clear rn'
  go_wp2_with fail
  refine (join_any A0 An l0 c0 ln cn L0 Ln w6 H0.out.symm Hn.out.symm (by omega) (by omega) r0 rn).mono ?_
  rintro r w7 ⟨v, rfl, hown, hb⟩
  obtain ⟨Ap, cp, rfl, rp', hcp, hmp⟩ := own_rd intC_len hown
  obtain ⟨lp, hlp0⟩ : ∃ l, l = (joinL L0 Ln).length := ⟨_, rfl⟩
  obtain ⟨Lp, hLp0⟩ : ∃ L, L = joinL L0 Ln := ⟨_, rfl⟩
  rw [← hlp0]
  rw [← hLp0] at hlp0 rp'
  have hnp : lp ≤ 10000 := by rw [hlp0, hLp0]; first | exact Nat.le_trans (joinL_length _ _) (by rw [← H0.out,← Hn.out]; omega) | exact Nat.le_trans (tickL_length _ _) (by rw [← H0.out,← Hn.out]; omega)
  have Hp := Lib.hid hlp0
  have HEp := Lib.hid hLp0
  clear hlp0 hLp0 hcp hmp hown
  replace r0 := (r0.below hb).more hb.size
  replace r1 := (r1.below hb).more hb.size
  replace r2 := (r2.below hb).more hb.size
  replace rj := (rj.below hb).more hb.size
  replace ri := (ri.below hb).more hb.size
  replace rm := (rm.below hb).more hb.size
  replace rn := (rn.below hb).more hb.size
  have B7 : Below w.heap.size w w7 := B6.trans (hb.mono B6.size)
  clear B6
  clear hb
  have rp := rp'
  clear rp'
  go_wp2_with fail
  refine (eqL_any Am Ap lm cm lp cp Lm Lp w7 Hm.out.symm Hp.out.symm (by omega) rm rp).mono ?_
  rintro r w8 ⟨rfl, hb⟩
  rw [show eqL Lm Lp = true from by rw [HEm.out, HEp.out, HEj.out, HEn.out]; exact eq_assoc_join _ _ _]
  replace r0 := (r0.below hb).more hb.size
  replace r1 := (r1.below hb).more hb.size
  replace r2 := (r2.below hb).more hb.size
  replace rj := (rj.below hb).more hb.size
  replace ri := (ri.below hb).more hb.size
  replace rm := (rm.below hb).more hb.size
  replace rn := (rn.below hb).more hb.size
  replace rp := (rp.below hb).more hb.size
  have B8 : Below w.heap.size w w8 := B7.trans (hb.mono B7.size)
  clear B7
  clear hb
  go_wp2_with fail
  refine (join_any A0 A0 l0 c0 l0 c0 L0 L0 w8 H0.out.symm H0.out.symm (by omega) (by omega) r0 r0).mono ?_
  rintro r w9 ⟨v, rfl, hown, hb⟩
  obtain ⟨Aq, cq, rfl, rq', hcq, hmq⟩ := own_rd intC_len hown
  obtain ⟨lq, hlq0⟩ : ∃ l, l = (joinL L0 L0).length := ⟨_, rfl⟩
  obtain ⟨Lq, hLq0⟩ : ∃ L, L = joinL L0 L0 := ⟨_, rfl⟩
  rw [← hlq0]
  rw [← hLq0] at hlq0 rq'
  have hnq : lq ≤ 10000 := by rw [hlq0, hLq0]; first | exact Nat.le_trans (joinL_length _ _) (by rw [← H0.out]; omega) | exact Nat.le_trans (tickL_length _ _) (by rw [← H0.out]; omega)
  have Hq := Lib.hid hlq0
  have HEq := Lib.hid hLq0
  clear hlq0 hLq0 hcq hmq hown
  replace r0 := (r0.below hb).more hb.size
  replace r1 := (r1.below hb).more hb.size
  replace r2 := (r2.below hb).more hb.size
  replace rj := (rj.below hb).more hb.size
  replace ri := (ri.below hb).more hb.size
  replace rm := (rm.below hb).more hb.size
  replace rn := (rn.below hb).more hb.size
  replace rp := (rp.below hb).more hb.size
  have B9 : Below w.heap.size w w9 := B8.trans (hb.mono B8.size)
  clear B8
  clear hb
  have rq := rq'
  clear rq'
  go_wp2_with fail
  refine (eqL_any Aq A0 lq cq l0 c0 Lq L0 w9 Hq.out.symm H0.out.symm (by omega) rq r0).mono ?_
  rintro r w10 ⟨rfl, hb⟩
  rw [show eqL Lq L0 = true from by rw [HEq.out]; exact eq_self_join _]
  replace r0 := (r0.below hb).more hb.size
  replace r1 := (r1.below hb).more hb.size
  replace r2 := (r2.below hb).more hb.size
  replace rj := (rj.below hb).more hb.size
  replace ri := (ri.below hb).more hb.size
  replace rm := (rm.below hb).more hb.size
  replace rn := (rn.below hb).more hb.size
  replace rp := (rp.below hb).more hb.size
  replace rq := (rq.below hb).more hb.size
  have B10 : Below w.heap.size w w10 := B9.trans (hb.mono B9.size)
  clear B9
  clear hb
  go_wp2_with fail
  refine (join_any Aj A1 lj cj l1 c1 Lj L1 w10 Hj.out.symm H1.out.symm (by omega) (by omega) rj r1).mono ?_
  rintro r w11 ⟨v, rfl, hown, hb⟩
  obtain ⟨As, cs, rfl, rs', hcs, hms⟩ := own_rd intC_len hown
  obtain ⟨ls, hls0⟩ : ∃ l, l = (joinL Lj L1).length := ⟨_, rfl⟩
  obtain ⟨Ls, hLs0⟩ : ∃ L, L = joinL Lj L1 := ⟨_, rfl⟩
  rw [← hls0]
  rw [← hLs0] at hls0 rs'
  have hns : ls ≤ 10000 := by rw [hls0, hLs0]; first | exact Nat.le_trans (joinL_length _ _) (by rw [← Hj.out,← H1.out]; omega) | exact Nat.le_trans (tickL_length _ _) (by rw [← Hj.out,← H1.out]; omega)
  have Hs := Lib.hid hls0
  have HEs := Lib.hid hLs0
  clear hls0 hLs0 hcs hms hown
  replace r0 := (r0.below hb).more hb.size
  replace r1 := (r1.below hb).more hb.size
  replace r2 := (r2.below hb).more hb.size
  replace rj := (rj.below hb).more hb.size
  replace ri := (ri.below hb).more hb.size
  replace rm := (rm.below hb).more hb.size
  replace rn := (rn.below hb).more hb.size
  replace rp := (rp.below hb).more hb.size
  replace rq := (rq.below hb).more hb.size
  have B11 : Below w.heap.size w w11 := B10.trans (hb.mono B10.size)
  clear B10
  clear hb
  have rs := rs'
  clear rs'
  go_wp2_with fail
  refine (eqL_any As Aj ls cs lj cj Ls Lj w11 Hs.out.symm Hj.out.symm (by omega) rs rj).mono ?_
  rintro r w12 ⟨rfl, hb⟩
  rw [show eqL Ls Lj = true from by rw [HEs.out, HEj.out]; exact eq_again_join _ _]
  replace r0 := (r0.below hb).more hb.size
  replace r1 := (r1.below hb).more hb.size
  replace r2 := (r2.below hb).more hb.size
  replace rj := (rj.below hb).more hb.size
  replace ri := (ri.below hb).more hb.size
  replace rm := (rm.below hb).more hb.size
  replace rn := (rn.below hb).more hb.size
  replace rp := (rp.below hb).more hb.size
  replace rq := (rq.below hb).more hb.size
  replace rs := (rs.below hb).more hb.size
  have B12 : Below w.heap.size w w12 := B11.trans (hb.mono B11.size)
  clear B11
  clear hb
  go_wp2
  go_ret
  exact ⟨rfl, B12⟩
end Go.Proofs.Ytfhainobolfleaa

