/- Sets: walk of SetsMembers. -/
import Derived.Test.YtfdgbegoaaihoaaSeMaW
import Derived.Test.YtfdgbegoaaihoaaSeO
namespace Go.Proofs.Ytfdgbegoaaihoaa
open Go.RowKit
set_option linter.unusedVariables false
set_option linter.unusedSimpArgs false

set_option maxHeartbeats 6400000 in
theorem setsMembers_walk (x0 : Nm) (n0 : Nat) (x1 : Nm) (n1 : Nat) (a2 : ByteArray) (w : World) (g0 : NmOk w x0 n0) (s0 : ∀ s ∈ x0.row, s.length ≤ maxLen) (g1 : NmOk w x1 n1) (s1 : ∀ s ∈ x1.row, s.length ≤ maxLen) (i2 : a2.size ≤ maxLen) :
    Calls Try.prog 8 #[.slice x0.pa n0 x0.pc, .slice x1.pa n1 x1.pc, .string a2] w fun r w' => r = .returned (.bool true) ∧ Below w.heap.size w w' := by
  obtain ⟨nm, hnm⟩ : ∃ s : Bs, a2 = enc s := ⟨_, (enc_of a2).symm⟩
  subst hnm
  clear i2
  obtain ⟨m0, hm0⟩ : ∃ b, manyB x0.row = b := ⟨_, rfl⟩
  have M0 := Lib.hid (many_any x0 n0 w g0 s0 m0 hm0)
  obtain ⟨m1, hm1⟩ : ∃ b, manyB x1.row = b := ⟨_, rfl⟩
  have M1 := Lib.hid (many_any x1 n1 w g1 s1 m1 hm1)
  cases m0
  · skip
    cases m1
    · skip
      have hn0 : n0 ≤ 60 := short_row g0 hm0
      have hn1 : n1 ≤ 60 := short_row g1 hm1
      have K0 := Lib.hid (Below.refl w.heap.size w)
      have Hx0_0 := Lib.hid g0
      have BLx0 := Lib.hid (show x0.row.length ≤ 60 by rw [g0.ln]; exact hn0)
      have Hx1_0 := Lib.hid g1
      have BLx1 := Lib.hid (show x1.row.length ≤ 60 by rw [g1.ln]; exact hn1)
      clear g0 s0 hm0 g1 s1 hm1
      go_enter Try.func8, Try.ntmps8
      go_wp2_with fail
      refine M0.out.mono ?_
      rintro r _ ⟨rfl, rfl⟩
      go_wp2_with fail
      refine M1.out.mono ?_
      rintro r _ ⟨rfl, rfl⟩
      obtain ⟨p, hp⟩ : ∃ b, hasS x0.row nm = b := ⟨_, rfl⟩
      obtain ⟨q, hq⟩ : ∃ b, hasS x1.row nm = b := ⟨_, rfl⟩
      have HP := Lib.hid hp
      have HQ := Lib.hid hq
      have HU := Lib.hid (show hasS (unionS x0.row x1.row) nm = (p || q) by rw [Bool.eq_iff_iff, hasS_iff, unionS_mem, Bool.or_eq_true, ← hp, ← hq, hasS_iff, hasS_iff])
      have HC := Lib.hid (show hasS (pickS x0.row x1.row true) nm = (p && q) by rw [Bool.eq_iff_iff, hasS_iff, common_mem, Bool.and_eq_true, ← hp, ← hq, hasS_iff, hasS_iff])
      have HM := Lib.hid (show hasS (pickS x0.row x1.row false) nm = (p && !q) by rw [Bool.eq_iff_iff, hasS_iff, minus_mem, Bool.and_eq_true, Bool.not_eq_true', ← hp, ← hq, hasS_iff, ← Bool.not_eq_true, hasS_iff])
      clear hp hq
      cases p
      · cases q
        · skip
          go_wp2_with fail
          refine (has_bool x0 n0 nm HP.out _ Hx0_0.out (by omega)).mono ?_
          rintro r w1 ⟨rfl, q1⟩
          have Hx0_1 := Lib.hid (Hx0_0.out.next q1)
          clear Hx0_0
          have Hx1_1 := Lib.hid (Hx1_0.out.next q1)
          clear Hx1_0
          have K1 := Lib.hid (K0.out.trans (q1.mono K0.out.size))
          clear K0
          clear q1
          go_wp2_with fail
          refine (has_bool x1 n1 nm HQ.out _ Hx1_1.out (by omega)).mono ?_
          rintro r w2 ⟨rfl, q2⟩
          have Hx0_2 := Lib.hid (Hx0_1.out.next q2)
          clear Hx0_1
          have Hx1_2 := Lib.hid (Hx1_1.out.next q2)
          clear Hx1_1
          have K2 := Lib.hid (K1.out.trans (q2.mono K1.out.size))
          clear K1
          clear q2
          go_wp2_with fail
          refine (union_any x0 x1 n0 n1 _ Hx0_2.out Hx1_2.out (by omega) (by omega)).mono ?_
          rintro r w3 ⟨z3, k3, rfl, e3, o3, q3⟩
          have Eu := Lib.hid e3
          have Hu_3 := Lib.hid o3.ok
          have BLu := Lib.hid (show (unionS x0.row x1.row).length ≤ 120 by have h0 := unionS_len x0.row x1.row; have h_0 := BLx0.out; have h_1 := BLx1.out; omega)
          have Bu : k3 ≤ 120 := by have h1 := Hu_3.out.ln; rw [Eu.out] at h1; have h2 := BLu.out; omega
          have Hx0_3 := Lib.hid (Hx0_2.out.next q3)
          clear Hx0_2
          have Hx1_3 := Lib.hid (Hx1_2.out.next q3)
          clear Hx1_2
          have K3 := Lib.hid (K2.out.trans (q3.mono K2.out.size))
          clear K2
          clear e3 o3 q3
          go_wp2_with fail
          refine (common_any x0 x1 n0 n1 _ Hx0_3.out Hx1_3.out (by omega) (by omega)).mono ?_
          rintro r w4 ⟨z4, k4, rfl, e4, o4, q4⟩
          have Ec := Lib.hid e4
          have Hc_4 := Lib.hid o4.ok
          have BLc := Lib.hid (show (pickS x0.row x1.row true).length ≤ 120 by have h0 := pickS_len x0.row x1.row true; have h_0 := BLx0.out; have h_1 := BLx1.out; omega)
          have Bc : k4 ≤ 120 := by have h1 := Hc_4.out.ln; rw [Ec.out] at h1; have h2 := BLc.out; omega
          have Hx0_4 := Lib.hid (Hx0_3.out.next q4)
          clear Hx0_3
          have Hx1_4 := Lib.hid (Hx1_3.out.next q4)
          clear Hx1_3
          have Hu_4 := Lib.hid (Hu_3.out.next q4)
          clear Hu_3
          have K4 := Lib.hid (K3.out.trans (q4.mono K3.out.size))
          clear K3
          clear e4 o4 q4
          go_wp2_with fail
          refine (minus_any x0 x1 n0 n1 _ Hx0_4.out Hx1_4.out (by omega) (by omega)).mono ?_
          rintro r w5 ⟨z5, k5, rfl, e5, o5, q5⟩
          have Em := Lib.hid e5
          have Hm_5 := Lib.hid o5.ok
          have BLm := Lib.hid (show (pickS x0.row x1.row false).length ≤ 120 by have h0 := pickS_len x0.row x1.row false; have h_0 := BLx0.out; have h_1 := BLx1.out; omega)
          have Bm : k5 ≤ 120 := by have h1 := Hm_5.out.ln; rw [Em.out] at h1; have h2 := BLm.out; omega
          have Hx0_5 := Lib.hid (Hx0_4.out.next q5)
          clear Hx0_4
          have Hx1_5 := Lib.hid (Hx1_4.out.next q5)
          clear Hx1_4
          have Hu_5 := Lib.hid (Hu_4.out.next q5)
          clear Hu_4
          have Hc_5 := Lib.hid (Hc_4.out.next q5)
          clear Hc_4
          have K5 := Lib.hid (K4.out.trans (q5.mono K4.out.size))
          clear K4
          clear e5 o5 q5
          go_wp2_with fail
          refine (has_bool z3 k3 nm (b := false) (by rw [Eu.out]; exact HU.out) _ Hu_5.out (by omega)).mono ?_
          rintro r w6 ⟨rfl, q6⟩
          have Hx0_6 := Lib.hid (Hx0_5.out.next q6)
          clear Hx0_5
          have Hx1_6 := Lib.hid (Hx1_5.out.next q6)
          clear Hx1_5
          have Hu_6 := Lib.hid (Hu_5.out.next q6)
          clear Hu_5
          have Hc_6 := Lib.hid (Hc_5.out.next q6)
          clear Hc_5
          have Hm_6 := Lib.hid (Hm_5.out.next q6)
          clear Hm_5
          have K6 := Lib.hid (K5.out.trans (q6.mono K5.out.size))
          clear K5
          clear q6
          go_wp2_with fail
          refine (has_bool z4 k4 nm (b := false) (by rw [Ec.out]; exact HC.out) _ Hc_6.out (by omega)).mono ?_
          rintro r w7 ⟨rfl, q7⟩
          have Hx0_7 := Lib.hid (Hx0_6.out.next q7)
          clear Hx0_6
          have Hx1_7 := Lib.hid (Hx1_6.out.next q7)
          clear Hx1_6
          have Hu_7 := Lib.hid (Hu_6.out.next q7)
          clear Hu_6
          have Hc_7 := Lib.hid (Hc_6.out.next q7)
          clear Hc_6
          have Hm_7 := Lib.hid (Hm_6.out.next q7)
          clear Hm_6
          have K7 := Lib.hid (K6.out.trans (q7.mono K6.out.size))
          clear K6
          clear q7
          go_wp2_with fail
          refine (has_bool z5 k5 nm (b := false) (by rw [Em.out]; exact HM.out) _ Hm_7.out (by omega)).mono ?_
          rintro r w8 ⟨rfl, q8⟩
          have Hx0_8 := Lib.hid (Hx0_7.out.next q8)
          clear Hx0_7
          have Hx1_8 := Lib.hid (Hx1_7.out.next q8)
          clear Hx1_7
          have Hu_8 := Lib.hid (Hu_7.out.next q8)
          clear Hu_7
          have Hc_8 := Lib.hid (Hc_7.out.next q8)
          clear Hc_7
          have Hm_8 := Lib.hid (Hm_7.out.next q8)
          clear Hm_7
          have K8 := Lib.hid (K7.out.trans (q8.mono K7.out.size))
          clear K7
          clear q8
          go_wp2_with fail
          refine (rise_yes z3 k3 _ Hu_8.out (by rw [Eu.out]; exact setS_rise _)).mono ?_
          rintro r w9 ⟨rfl, q9⟩
          have Hx0_9 := Lib.hid (Hx0_8.out.next q9)
          clear Hx0_8
          have Hx1_9 := Lib.hid (Hx1_8.out.next q9)
          clear Hx1_8
          have Hu_9 := Lib.hid (Hu_8.out.next q9)
          clear Hu_8
          have Hc_9 := Lib.hid (Hc_8.out.next q9)
          clear Hc_8
          have Hm_9 := Lib.hid (Hm_8.out.next q9)
          clear Hm_8
          have K9 := Lib.hid (K8.out.trans (q9.mono K8.out.size))
          clear K8
          clear q9
          go_wp2_with fail
          refine (rise_yes z4 k4 _ Hc_9.out (by rw [Ec.out]; exact pickS_rise _ _ _)).mono ?_
          rintro r w10 ⟨rfl, q10⟩
          have Hx0_10 := Lib.hid (Hx0_9.out.next q10)
          clear Hx0_9
          have Hx1_10 := Lib.hid (Hx1_9.out.next q10)
          clear Hx1_9
          have Hu_10 := Lib.hid (Hu_9.out.next q10)
          clear Hu_9
          have Hc_10 := Lib.hid (Hc_9.out.next q10)
          clear Hc_9
          have Hm_10 := Lib.hid (Hm_9.out.next q10)
          clear Hm_9
          have K10 := Lib.hid (K9.out.trans (q10.mono K9.out.size))
          clear K9
          clear q10
          go_wp2_with fail
          refine (rise_yes z5 k5 _ Hm_10.out (by rw [Em.out]; exact pickS_rise _ _ _)).mono ?_
          rintro r w11 ⟨rfl, q11⟩
          have Hx0_11 := Lib.hid (Hx0_10.out.next q11)
          clear Hx0_10
          have Hx1_11 := Lib.hid (Hx1_10.out.next q11)
          clear Hx1_10
          have Hu_11 := Lib.hid (Hu_10.out.next q11)
          clear Hu_10
          have Hc_11 := Lib.hid (Hc_10.out.next q11)
          clear Hc_10
          have Hm_11 := Lib.hid (Hm_10.out.next q11)
          clear Hm_10
          have K11 := Lib.hid (K10.out.trans (q11.mono K10.out.size))
          clear K10
          clear q11
          go_wp2_with fail
          refine (of_any x0 n0 _ Hx0_11.out (by omega)).mono ?_
          rintro r w12 ⟨z12, k12, rfl, e12, o12, q12⟩
          have Eo := Lib.hid e12
          have Ho_12 := Lib.hid o12.ok
          have BLo := Lib.hid (show (setS x0.row).length ≤ 120 by have h0 := setS_len x0.row; have h_0 := BLx0.out; omega)
          have Bo : k12 ≤ 120 := by have h1 := Ho_12.out.ln; rw [Eo.out] at h1; have h2 := BLo.out; omega
          have Hx0_12 := Lib.hid (Hx0_11.out.next q12)
          clear Hx0_11
          have Hx1_12 := Lib.hid (Hx1_11.out.next q12)
          clear Hx1_11
          have Hu_12 := Lib.hid (Hu_11.out.next q12)
          clear Hu_11
          have Hc_12 := Lib.hid (Hc_11.out.next q12)
          clear Hc_11
          have Hm_12 := Lib.hid (Hm_11.out.next q12)
          clear Hm_11
          have K12 := Lib.hid (K11.out.trans (q12.mono K11.out.size))
          clear K11
          clear e12 o12 q12
          go_wp2_with fail
          refine (rise_yes z12 k12 _ Ho_12.out (by rw [Eo.out]; exact setS_rise _)).mono ?_
          rintro r w13 ⟨rfl, q13⟩
          have Hx0_13 := Lib.hid (Hx0_12.out.next q13)
          clear Hx0_12
          have Hx1_13 := Lib.hid (Hx1_12.out.next q13)
          clear Hx1_12
          have Hu_13 := Lib.hid (Hu_12.out.next q13)
          clear Hu_12
          have Hc_13 := Lib.hid (Hc_12.out.next q13)
          clear Hc_12
          have Hm_13 := Lib.hid (Hm_12.out.next q13)
          clear Hm_12
          have Ho_13 := Lib.hid (Ho_12.out.next q13)
          clear Ho_12
          have K13 := Lib.hid (K12.out.trans (q13.mono K12.out.size))
          clear K12
          clear q13
          go_wp2_with fail
          refine (awake_yes _).mono ?_
          rintro r w14 ⟨rfl, q14⟩
          have Hx0_14 := Lib.hid (Hx0_13.out.next q14)
          clear Hx0_13
          have Hx1_14 := Lib.hid (Hx1_13.out.next q14)
          clear Hx1_13
          have Hu_14 := Lib.hid (Hu_13.out.next q14)
          clear Hu_13
          have Hc_14 := Lib.hid (Hc_13.out.next q14)
          clear Hc_13
          have Hm_14 := Lib.hid (Hm_13.out.next q14)
          clear Hm_13
          have Ho_14 := Lib.hid (Ho_13.out.next q14)
          clear Ho_13
          have K14 := Lib.hid (K13.out.trans (q14.mono K13.out.size))
          clear K13
          clear q14
          go_wp2
          go_ret
          exact ⟨rfl, K14.out⟩
        · skip
          go_wp2_with fail
          refine (has_bool x0 n0 nm HP.out _ Hx0_0.out (by omega)).mono ?_
          rintro r w1 ⟨rfl, q1⟩
          have Hx0_1 := Lib.hid (Hx0_0.out.next q1)
          clear Hx0_0
          have Hx1_1 := Lib.hid (Hx1_0.out.next q1)
          clear Hx1_0
          have K1 := Lib.hid (K0.out.trans (q1.mono K0.out.size))
          clear K0
          clear q1
          go_wp2_with fail
          refine (has_bool x1 n1 nm HQ.out _ Hx1_1.out (by omega)).mono ?_
          rintro r w2 ⟨rfl, q2⟩
          have Hx0_2 := Lib.hid (Hx0_1.out.next q2)
          clear Hx0_1
          have Hx1_2 := Lib.hid (Hx1_1.out.next q2)
          clear Hx1_1
          have K2 := Lib.hid (K1.out.trans (q2.mono K1.out.size))
          clear K1
          clear q2
          go_wp2_with fail
          refine (union_any x0 x1 n0 n1 _ Hx0_2.out Hx1_2.out (by omega) (by omega)).mono ?_
          rintro r w3 ⟨z3, k3, rfl, e3, o3, q3⟩
          have Eu := Lib.hid e3
          have Hu_3 := Lib.hid o3.ok
          have BLu := Lib.hid (show (unionS x0.row x1.row).length ≤ 120 by have h0 := unionS_len x0.row x1.row; have h_0 := BLx0.out; have h_1 := BLx1.out; omega)
          have Bu : k3 ≤ 120 := by have h1 := Hu_3.out.ln; rw [Eu.out] at h1; have h2 := BLu.out; omega
          have Hx0_3 := Lib.hid (Hx0_2.out.next q3)
          clear Hx0_2
          have Hx1_3 := Lib.hid (Hx1_2.out.next q3)
          clear Hx1_2
          have K3 := Lib.hid (K2.out.trans (q3.mono K2.out.size))
          clear K2
          clear e3 o3 q3
          go_wp2_with fail
          refine (common_any x0 x1 n0 n1 _ Hx0_3.out Hx1_3.out (by omega) (by omega)).mono ?_
          rintro r w4 ⟨z4, k4, rfl, e4, o4, q4⟩
          have Ec := Lib.hid e4
          have Hc_4 := Lib.hid o4.ok
          have BLc := Lib.hid (show (pickS x0.row x1.row true).length ≤ 120 by have h0 := pickS_len x0.row x1.row true; have h_0 := BLx0.out; have h_1 := BLx1.out; omega)
          have Bc : k4 ≤ 120 := by have h1 := Hc_4.out.ln; rw [Ec.out] at h1; have h2 := BLc.out; omega
          have Hx0_4 := Lib.hid (Hx0_3.out.next q4)
          clear Hx0_3
          have Hx1_4 := Lib.hid (Hx1_3.out.next q4)
          clear Hx1_3
          have Hu_4 := Lib.hid (Hu_3.out.next q4)
          clear Hu_3
          have K4 := Lib.hid (K3.out.trans (q4.mono K3.out.size))
          clear K3
          clear e4 o4 q4
          go_wp2_with fail
          refine (minus_any x0 x1 n0 n1 _ Hx0_4.out Hx1_4.out (by omega) (by omega)).mono ?_
          rintro r w5 ⟨z5, k5, rfl, e5, o5, q5⟩
          have Em := Lib.hid e5
          have Hm_5 := Lib.hid o5.ok
          have BLm := Lib.hid (show (pickS x0.row x1.row false).length ≤ 120 by have h0 := pickS_len x0.row x1.row false; have h_0 := BLx0.out; have h_1 := BLx1.out; omega)
          have Bm : k5 ≤ 120 := by have h1 := Hm_5.out.ln; rw [Em.out] at h1; have h2 := BLm.out; omega
          have Hx0_5 := Lib.hid (Hx0_4.out.next q5)
          clear Hx0_4
          have Hx1_5 := Lib.hid (Hx1_4.out.next q5)
          clear Hx1_4
          have Hu_5 := Lib.hid (Hu_4.out.next q5)
          clear Hu_4
          have Hc_5 := Lib.hid (Hc_4.out.next q5)
          clear Hc_4
          have K5 := Lib.hid (K4.out.trans (q5.mono K4.out.size))
          clear K4
          clear e5 o5 q5
          go_wp2_with fail
          refine (has_bool z3 k3 nm (b := true) (by rw [Eu.out]; exact HU.out) _ Hu_5.out (by omega)).mono ?_
          rintro r w6 ⟨rfl, q6⟩
          have Hx0_6 := Lib.hid (Hx0_5.out.next q6)
          clear Hx0_5
          have Hx1_6 := Lib.hid (Hx1_5.out.next q6)
          clear Hx1_5
          have Hu_6 := Lib.hid (Hu_5.out.next q6)
          clear Hu_5
          have Hc_6 := Lib.hid (Hc_5.out.next q6)
          clear Hc_5
          have Hm_6 := Lib.hid (Hm_5.out.next q6)
          clear Hm_5
          have K6 := Lib.hid (K5.out.trans (q6.mono K5.out.size))
          clear K5
          clear q6
          go_wp2_with fail
          refine (has_bool z4 k4 nm (b := false) (by rw [Ec.out]; exact HC.out) _ Hc_6.out (by omega)).mono ?_
          rintro r w7 ⟨rfl, q7⟩
          have Hx0_7 := Lib.hid (Hx0_6.out.next q7)
          clear Hx0_6
          have Hx1_7 := Lib.hid (Hx1_6.out.next q7)
          clear Hx1_6
          have Hu_7 := Lib.hid (Hu_6.out.next q7)
          clear Hu_6
          have Hc_7 := Lib.hid (Hc_6.out.next q7)
          clear Hc_6
          have Hm_7 := Lib.hid (Hm_6.out.next q7)
          clear Hm_6
          have K7 := Lib.hid (K6.out.trans (q7.mono K6.out.size))
          clear K6
          clear q7
          go_wp2_with fail
          refine (has_bool z5 k5 nm (b := false) (by rw [Em.out]; exact HM.out) _ Hm_7.out (by omega)).mono ?_
          rintro r w8 ⟨rfl, q8⟩
          have Hx0_8 := Lib.hid (Hx0_7.out.next q8)
          clear Hx0_7
          have Hx1_8 := Lib.hid (Hx1_7.out.next q8)
          clear Hx1_7
          have Hu_8 := Lib.hid (Hu_7.out.next q8)
          clear Hu_7
          have Hc_8 := Lib.hid (Hc_7.out.next q8)
          clear Hc_7
          have Hm_8 := Lib.hid (Hm_7.out.next q8)
          clear Hm_7
          have K8 := Lib.hid (K7.out.trans (q8.mono K7.out.size))
          clear K7
          clear q8
          go_wp2_with fail
          refine (rise_yes z3 k3 _ Hu_8.out (by rw [Eu.out]; exact setS_rise _)).mono ?_
          rintro r w9 ⟨rfl, q9⟩
          have Hx0_9 := Lib.hid (Hx0_8.out.next q9)
          clear Hx0_8
          have Hx1_9 := Lib.hid (Hx1_8.out.next q9)
          clear Hx1_8
          have Hu_9 := Lib.hid (Hu_8.out.next q9)
          clear Hu_8
          have Hc_9 := Lib.hid (Hc_8.out.next q9)
          clear Hc_8
          have Hm_9 := Lib.hid (Hm_8.out.next q9)
          clear Hm_8
          have K9 := Lib.hid (K8.out.trans (q9.mono K8.out.size))
          clear K8
          clear q9
          go_wp2_with fail
          refine (rise_yes z4 k4 _ Hc_9.out (by rw [Ec.out]; exact pickS_rise _ _ _)).mono ?_
          rintro r w10 ⟨rfl, q10⟩
          have Hx0_10 := Lib.hid (Hx0_9.out.next q10)
          clear Hx0_9
          have Hx1_10 := Lib.hid (Hx1_9.out.next q10)
          clear Hx1_9
          have Hu_10 := Lib.hid (Hu_9.out.next q10)
          clear Hu_9
          have Hc_10 := Lib.hid (Hc_9.out.next q10)
          clear Hc_9
          have Hm_10 := Lib.hid (Hm_9.out.next q10)
          clear Hm_9
          have K10 := Lib.hid (K9.out.trans (q10.mono K9.out.size))
          clear K9
          clear q10
          go_wp2_with fail
          refine (rise_yes z5 k5 _ Hm_10.out (by rw [Em.out]; exact pickS_rise _ _ _)).mono ?_
          rintro r w11 ⟨rfl, q11⟩
          have Hx0_11 := Lib.hid (Hx0_10.out.next q11)
          clear Hx0_10
          have Hx1_11 := Lib.hid (Hx1_10.out.next q11)
          clear Hx1_10
          have Hu_11 := Lib.hid (Hu_10.out.next q11)
          clear Hu_10
          have Hc_11 := Lib.hid (Hc_10.out.next q11)
          clear Hc_10
          have Hm_11 := Lib.hid (Hm_10.out.next q11)
          clear Hm_10
          have K11 := Lib.hid (K10.out.trans (q11.mono K10.out.size))
          clear K10
          clear q11
          go_wp2_with fail
          refine (of_any x0 n0 _ Hx0_11.out (by omega)).mono ?_
          rintro r w12 ⟨z12, k12, rfl, e12, o12, q12⟩
          have Eo := Lib.hid e12
          have Ho_12 := Lib.hid o12.ok
          have BLo := Lib.hid (show (setS x0.row).length ≤ 120 by have h0 := setS_len x0.row; have h_0 := BLx0.out; omega)
          have Bo : k12 ≤ 120 := by have h1 := Ho_12.out.ln; rw [Eo.out] at h1; have h2 := BLo.out; omega
          have Hx0_12 := Lib.hid (Hx0_11.out.next q12)
          clear Hx0_11
          have Hx1_12 := Lib.hid (Hx1_11.out.next q12)
          clear Hx1_11
          have Hu_12 := Lib.hid (Hu_11.out.next q12)
          clear Hu_11
          have Hc_12 := Lib.hid (Hc_11.out.next q12)
          clear Hc_11
          have Hm_12 := Lib.hid (Hm_11.out.next q12)
          clear Hm_11
          have K12 := Lib.hid (K11.out.trans (q12.mono K11.out.size))
          clear K11
          clear e12 o12 q12
          go_wp2_with fail
          refine (rise_yes z12 k12 _ Ho_12.out (by rw [Eo.out]; exact setS_rise _)).mono ?_
          rintro r w13 ⟨rfl, q13⟩
          have Hx0_13 := Lib.hid (Hx0_12.out.next q13)
          clear Hx0_12
          have Hx1_13 := Lib.hid (Hx1_12.out.next q13)
          clear Hx1_12
          have Hu_13 := Lib.hid (Hu_12.out.next q13)
          clear Hu_12
          have Hc_13 := Lib.hid (Hc_12.out.next q13)
          clear Hc_12
          have Hm_13 := Lib.hid (Hm_12.out.next q13)
          clear Hm_12
          have Ho_13 := Lib.hid (Ho_12.out.next q13)
          clear Ho_12
          have K13 := Lib.hid (K12.out.trans (q13.mono K12.out.size))
          clear K12
          clear q13
          go_wp2_with fail
          refine (awake_yes _).mono ?_
          rintro r w14 ⟨rfl, q14⟩
          have Hx0_14 := Lib.hid (Hx0_13.out.next q14)
          clear Hx0_13
          have Hx1_14 := Lib.hid (Hx1_13.out.next q14)
          clear Hx1_13
          have Hu_14 := Lib.hid (Hu_13.out.next q14)
          clear Hu_13
          have Hc_14 := Lib.hid (Hc_13.out.next q14)
          clear Hc_13
          have Hm_14 := Lib.hid (Hm_13.out.next q14)
          clear Hm_13
          have Ho_14 := Lib.hid (Ho_13.out.next q14)
          clear Ho_13
          have K14 := Lib.hid (K13.out.trans (q14.mono K13.out.size))
          clear K13
          clear q14
          go_wp2
          go_ret
          exact ⟨rfl, K14.out⟩
      · cases q
        · skip
          go_wp2_with fail
          refine (has_bool x0 n0 nm HP.out _ Hx0_0.out (by omega)).mono ?_
          rintro r w1 ⟨rfl, q1⟩
          have Hx0_1 := Lib.hid (Hx0_0.out.next q1)
          clear Hx0_0
          have Hx1_1 := Lib.hid (Hx1_0.out.next q1)
          clear Hx1_0
          have K1 := Lib.hid (K0.out.trans (q1.mono K0.out.size))
          clear K0
          clear q1
          go_wp2_with fail
          refine (has_bool x1 n1 nm HQ.out _ Hx1_1.out (by omega)).mono ?_
          rintro r w2 ⟨rfl, q2⟩
          have Hx0_2 := Lib.hid (Hx0_1.out.next q2)
          clear Hx0_1
          have Hx1_2 := Lib.hid (Hx1_1.out.next q2)
          clear Hx1_1
          have K2 := Lib.hid (K1.out.trans (q2.mono K1.out.size))
          clear K1
          clear q2
          go_wp2_with fail
          refine (union_any x0 x1 n0 n1 _ Hx0_2.out Hx1_2.out (by omega) (by omega)).mono ?_
          rintro r w3 ⟨z3, k3, rfl, e3, o3, q3⟩
          have Eu := Lib.hid e3
          have Hu_3 := Lib.hid o3.ok
          have BLu := Lib.hid (show (unionS x0.row x1.row).length ≤ 120 by have h0 := unionS_len x0.row x1.row; have h_0 := BLx0.out; have h_1 := BLx1.out; omega)
          have Bu : k3 ≤ 120 := by have h1 := Hu_3.out.ln; rw [Eu.out] at h1; have h2 := BLu.out; omega
          have Hx0_3 := Lib.hid (Hx0_2.out.next q3)
          clear Hx0_2
          have Hx1_3 := Lib.hid (Hx1_2.out.next q3)
          clear Hx1_2
          have K3 := Lib.hid (K2.out.trans (q3.mono K2.out.size))
          clear K2
          clear e3 o3 q3
          go_wp2_with fail
          refine (common_any x0 x1 n0 n1 _ Hx0_3.out Hx1_3.out (by omega) (by omega)).mono ?_
          rintro r w4 ⟨z4, k4, rfl, e4, o4, q4⟩
          have Ec := Lib.hid e4
          have Hc_4 := Lib.hid o4.ok
          have BLc := Lib.hid (show (pickS x0.row x1.row true).length ≤ 120 by have h0 := pickS_len x0.row x1.row true; have h_0 := BLx0.out; have h_1 := BLx1.out; omega)
          have Bc : k4 ≤ 120 := by have h1 := Hc_4.out.ln; rw [Ec.out] at h1; have h2 := BLc.out; omega
          have Hx0_4 := Lib.hid (Hx0_3.out.next q4)
          clear Hx0_3
          have Hx1_4 := Lib.hid (Hx1_3.out.next q4)
          clear Hx1_3
          have Hu_4 := Lib.hid (Hu_3.out.next q4)
          clear Hu_3
          have K4 := Lib.hid (K3.out.trans (q4.mono K3.out.size))
          clear K3
          clear e4 o4 q4
          go_wp2_with fail
          refine (minus_any x0 x1 n0 n1 _ Hx0_4.out Hx1_4.out (by omega) (by omega)).mono ?_
          rintro r w5 ⟨z5, k5, rfl, e5, o5, q5⟩
          have Em := Lib.hid e5
          have Hm_5 := Lib.hid o5.ok
          have BLm := Lib.hid (show (pickS x0.row x1.row false).length ≤ 120 by have h0 := pickS_len x0.row x1.row false; have h_0 := BLx0.out; have h_1 := BLx1.out; omega)
          have Bm : k5 ≤ 120 := by have h1 := Hm_5.out.ln; rw [Em.out] at h1; have h2 := BLm.out; omega
          have Hx0_5 := Lib.hid (Hx0_4.out.next q5)
          clear Hx0_4
          have Hx1_5 := Lib.hid (Hx1_4.out.next q5)
          clear Hx1_4
          have Hu_5 := Lib.hid (Hu_4.out.next q5)
          clear Hu_4
          have Hc_5 := Lib.hid (Hc_4.out.next q5)
          clear Hc_4
          have K5 := Lib.hid (K4.out.trans (q5.mono K4.out.size))
          clear K4
          clear e5 o5 q5
          go_wp2_with fail
          refine (has_bool z3 k3 nm (b := true) (by rw [Eu.out]; exact HU.out) _ Hu_5.out (by omega)).mono ?_
          rintro r w6 ⟨rfl, q6⟩
          have Hx0_6 := Lib.hid (Hx0_5.out.next q6)
          clear Hx0_5
          have Hx1_6 := Lib.hid (Hx1_5.out.next q6)
          clear Hx1_5
          have Hu_6 := Lib.hid (Hu_5.out.next q6)
          clear Hu_5
          have Hc_6 := Lib.hid (Hc_5.out.next q6)
          clear Hc_5
          have Hm_6 := Lib.hid (Hm_5.out.next q6)
          clear Hm_5
          have K6 := Lib.hid (K5.out.trans (q6.mono K5.out.size))
          clear K5
          clear q6
          go_wp2_with fail
          refine (has_bool z4 k4 nm (b := false) (by rw [Ec.out]; exact HC.out) _ Hc_6.out (by omega)).mono ?_
          rintro r w7 ⟨rfl, q7⟩
          have Hx0_7 := Lib.hid (Hx0_6.out.next q7)
          clear Hx0_6
          have Hx1_7 := Lib.hid (Hx1_6.out.next q7)
          clear Hx1_6
          have Hu_7 := Lib.hid (Hu_6.out.next q7)
          clear Hu_6
          have Hc_7 := Lib.hid (Hc_6.out.next q7)
          clear Hc_6
          have Hm_7 := Lib.hid (Hm_6.out.next q7)
          clear Hm_6
          have K7 := Lib.hid (K6.out.trans (q7.mono K6.out.size))
          clear K6
          clear q7
          go_wp2_with fail
          refine (has_bool z5 k5 nm (b := true) (by rw [Em.out]; exact HM.out) _ Hm_7.out (by omega)).mono ?_
          rintro r w8 ⟨rfl, q8⟩
          have Hx0_8 := Lib.hid (Hx0_7.out.next q8)
          clear Hx0_7
          have Hx1_8 := Lib.hid (Hx1_7.out.next q8)
          clear Hx1_7
          have Hu_8 := Lib.hid (Hu_7.out.next q8)
          clear Hu_7
          have Hc_8 := Lib.hid (Hc_7.out.next q8)
          clear Hc_7
          have Hm_8 := Lib.hid (Hm_7.out.next q8)
          clear Hm_7
          have K8 := Lib.hid (K7.out.trans (q8.mono K7.out.size))
          clear K7
          clear q8
          go_wp2_with fail
          refine (rise_yes z3 k3 _ Hu_8.out (by rw [Eu.out]; exact setS_rise _)).mono ?_
          rintro r w9 ⟨rfl, q9⟩
          have Hx0_9 := Lib.hid (Hx0_8.out.next q9)
          clear Hx0_8
          have Hx1_9 := Lib.hid (Hx1_8.out.next q9)
          clear Hx1_8
          have Hu_9 := Lib.hid (Hu_8.out.next q9)
          clear Hu_8
          have Hc_9 := Lib.hid (Hc_8.out.next q9)
          clear Hc_8
          have Hm_9 := Lib.hid (Hm_8.out.next q9)
          clear Hm_8
          have K9 := Lib.hid (K8.out.trans (q9.mono K8.out.size))
          clear K8
          clear q9
          go_wp2_with fail
          refine (rise_yes z4 k4 _ Hc_9.out (by rw [Ec.out]; exact pickS_rise _ _ _)).mono ?_
          rintro r w10 ⟨rfl, q10⟩
          have Hx0_10 := Lib.hid (Hx0_9.out.next q10)
          clear Hx0_9
          have Hx1_10 := Lib.hid (Hx1_9.out.next q10)
          clear Hx1_9
          have Hu_10 := Lib.hid (Hu_9.out.next q10)
          clear Hu_9
          have Hc_10 := Lib.hid (Hc_9.out.next q10)
          clear Hc_9
          have Hm_10 := Lib.hid (Hm_9.out.next q10)
          clear Hm_9
          have K10 := Lib.hid (K9.out.trans (q10.mono K9.out.size))
          clear K9
          clear q10
          go_wp2_with fail
          refine (rise_yes z5 k5 _ Hm_10.out (by rw [Em.out]; exact pickS_rise _ _ _)).mono ?_
          rintro r w11 ⟨rfl, q11⟩
          have Hx0_11 := Lib.hid (Hx0_10.out.next q11)
          clear Hx0_10
          have Hx1_11 := Lib.hid (Hx1_10.out.next q11)
          clear Hx1_10
          have Hu_11 := Lib.hid (Hu_10.out.next q11)
          clear Hu_10
          have Hc_11 := Lib.hid (Hc_10.out.next q11)
          clear Hc_10
          have Hm_11 := Lib.hid (Hm_10.out.next q11)
          clear Hm_10
          have K11 := Lib.hid (K10.out.trans (q11.mono K10.out.size))
          clear K10
          clear q11
          go_wp2_with fail
          refine (of_any x0 n0 _ Hx0_11.out (by omega)).mono ?_
          rintro r w12 ⟨z12, k12, rfl, e12, o12, q12⟩
          have Eo := Lib.hid e12
          have Ho_12 := Lib.hid o12.ok
          have BLo := Lib.hid (show (setS x0.row).length ≤ 120 by have h0 := setS_len x0.row; have h_0 := BLx0.out; omega)
          have Bo : k12 ≤ 120 := by have h1 := Ho_12.out.ln; rw [Eo.out] at h1; have h2 := BLo.out; omega
          have Hx0_12 := Lib.hid (Hx0_11.out.next q12)
          clear Hx0_11
          have Hx1_12 := Lib.hid (Hx1_11.out.next q12)
          clear Hx1_11
          have Hu_12 := Lib.hid (Hu_11.out.next q12)
          clear Hu_11
          have Hc_12 := Lib.hid (Hc_11.out.next q12)
          clear Hc_11
          have Hm_12 := Lib.hid (Hm_11.out.next q12)
          clear Hm_11
          have K12 := Lib.hid (K11.out.trans (q12.mono K11.out.size))
          clear K11
          clear e12 o12 q12
          go_wp2_with fail
          refine (rise_yes z12 k12 _ Ho_12.out (by rw [Eo.out]; exact setS_rise _)).mono ?_
          rintro r w13 ⟨rfl, q13⟩
          have Hx0_13 := Lib.hid (Hx0_12.out.next q13)
          clear Hx0_12
          have Hx1_13 := Lib.hid (Hx1_12.out.next q13)
          clear Hx1_12
          have Hu_13 := Lib.hid (Hu_12.out.next q13)
          clear Hu_12
          have Hc_13 := Lib.hid (Hc_12.out.next q13)
          clear Hc_12
          have Hm_13 := Lib.hid (Hm_12.out.next q13)
          clear Hm_12
          have Ho_13 := Lib.hid (Ho_12.out.next q13)
          clear Ho_12
          have K13 := Lib.hid (K12.out.trans (q13.mono K12.out.size))
          clear K12
          clear q13
          go_wp2_with fail
          refine (awake_yes _).mono ?_
          rintro r w14 ⟨rfl, q14⟩
          have Hx0_14 := Lib.hid (Hx0_13.out.next q14)
          clear Hx0_13
          have Hx1_14 := Lib.hid (Hx1_13.out.next q14)
          clear Hx1_13
          have Hu_14 := Lib.hid (Hu_13.out.next q14)
          clear Hu_13
          have Hc_14 := Lib.hid (Hc_13.out.next q14)
          clear Hc_13
          have Hm_14 := Lib.hid (Hm_13.out.next q14)
          clear Hm_13
          have Ho_14 := Lib.hid (Ho_13.out.next q14)
          clear Ho_13
          have K14 := Lib.hid (K13.out.trans (q14.mono K13.out.size))
          clear K13
          clear q14
          go_wp2
          go_ret
          exact ⟨rfl, K14.out⟩
        · skip
          go_wp2_with fail
          refine (has_bool x0 n0 nm HP.out _ Hx0_0.out (by omega)).mono ?_
          rintro r w1 ⟨rfl, q1⟩
          have Hx0_1 := Lib.hid (Hx0_0.out.next q1)
          clear Hx0_0
          have Hx1_1 := Lib.hid (Hx1_0.out.next q1)
          clear Hx1_0
          have K1 := Lib.hid (K0.out.trans (q1.mono K0.out.size))
          clear K0
          clear q1
          go_wp2_with fail
          refine (has_bool x1 n1 nm HQ.out _ Hx1_1.out (by omega)).mono ?_
          rintro r w2 ⟨rfl, q2⟩
          have Hx0_2 := Lib.hid (Hx0_1.out.next q2)
          clear Hx0_1
          have Hx1_2 := Lib.hid (Hx1_1.out.next q2)
          clear Hx1_1
          have K2 := Lib.hid (K1.out.trans (q2.mono K1.out.size))
          clear K1
          clear q2
          go_wp2_with fail
          refine (union_any x0 x1 n0 n1 _ Hx0_2.out Hx1_2.out (by omega) (by omega)).mono ?_
          rintro r w3 ⟨z3, k3, rfl, e3, o3, q3⟩
          have Eu := Lib.hid e3
          have Hu_3 := Lib.hid o3.ok
          have BLu := Lib.hid (show (unionS x0.row x1.row).length ≤ 120 by have h0 := unionS_len x0.row x1.row; have h_0 := BLx0.out; have h_1 := BLx1.out; omega)
          have Bu : k3 ≤ 120 := by have h1 := Hu_3.out.ln; rw [Eu.out] at h1; have h2 := BLu.out; omega
          have Hx0_3 := Lib.hid (Hx0_2.out.next q3)
          clear Hx0_2
          have Hx1_3 := Lib.hid (Hx1_2.out.next q3)
          clear Hx1_2
          have K3 := Lib.hid (K2.out.trans (q3.mono K2.out.size))
          clear K2
          clear e3 o3 q3
          go_wp2_with fail
          refine (common_any x0 x1 n0 n1 _ Hx0_3.out Hx1_3.out (by omega) (by omega)).mono ?_
          rintro r w4 ⟨z4, k4, rfl, e4, o4, q4⟩
          have Ec := Lib.hid e4
          have Hc_4 := Lib.hid o4.ok
          have BLc := Lib.hid (show (pickS x0.row x1.row true).length ≤ 120 by have h0 := pickS_len x0.row x1.row true; have h_0 := BLx0.out; have h_1 := BLx1.out; omega)
          have Bc : k4 ≤ 120 := by have h1 := Hc_4.out.ln; rw [Ec.out] at h1; have h2 := BLc.out; omega
          have Hx0_4 := Lib.hid (Hx0_3.out.next q4)
          clear Hx0_3
          have Hx1_4 := Lib.hid (Hx1_3.out.next q4)
          clear Hx1_3
          have Hu_4 := Lib.hid (Hu_3.out.next q4)
          clear Hu_3
          have K4 := Lib.hid (K3.out.trans (q4.mono K3.out.size))
          clear K3
          clear e4 o4 q4
          go_wp2_with fail
          refine (minus_any x0 x1 n0 n1 _ Hx0_4.out Hx1_4.out (by omega) (by omega)).mono ?_
          rintro r w5 ⟨z5, k5, rfl, e5, o5, q5⟩
          have Em := Lib.hid e5
          have Hm_5 := Lib.hid o5.ok
          have BLm := Lib.hid (show (pickS x0.row x1.row false).length ≤ 120 by have h0 := pickS_len x0.row x1.row false; have h_0 := BLx0.out; have h_1 := BLx1.out; omega)
          have Bm : k5 ≤ 120 := by have h1 := Hm_5.out.ln; rw [Em.out] at h1; have h2 := BLm.out; omega
          have Hx0_5 := Lib.hid (Hx0_4.out.next q5)
          clear Hx0_4
          have Hx1_5 := Lib.hid (Hx1_4.out.next q5)
          clear Hx1_4
          have Hu_5 := Lib.hid (Hu_4.out.next q5)
          clear Hu_4
          have Hc_5 := Lib.hid (Hc_4.out.next q5)
          clear Hc_4
          have K5 := Lib.hid (K4.out.trans (q5.mono K4.out.size))
          clear K4
          clear e5 o5 q5
          go_wp2_with fail
          refine (has_bool z3 k3 nm (b := true) (by rw [Eu.out]; exact HU.out) _ Hu_5.out (by omega)).mono ?_
          rintro r w6 ⟨rfl, q6⟩
          have Hx0_6 := Lib.hid (Hx0_5.out.next q6)
          clear Hx0_5
          have Hx1_6 := Lib.hid (Hx1_5.out.next q6)
          clear Hx1_5
          have Hu_6 := Lib.hid (Hu_5.out.next q6)
          clear Hu_5
          have Hc_6 := Lib.hid (Hc_5.out.next q6)
          clear Hc_5
          have Hm_6 := Lib.hid (Hm_5.out.next q6)
          clear Hm_5
          have K6 := Lib.hid (K5.out.trans (q6.mono K5.out.size))
          clear K5
          clear q6
          go_wp2_with fail
          refine (has_bool z4 k4 nm (b := true) (by rw [Ec.out]; exact HC.out) _ Hc_6.out (by omega)).mono ?_
          rintro r w7 ⟨rfl, q7⟩
          have Hx0_7 := Lib.hid (Hx0_6.out.next q7)
          clear Hx0_6
          have Hx1_7 := Lib.hid (Hx1_6.out.next q7)
          clear Hx1_6
          have Hu_7 := Lib.hid (Hu_6.out.next q7)
          clear Hu_6
          have Hc_7 := Lib.hid (Hc_6.out.next q7)
          clear Hc_6
          have Hm_7 := Lib.hid (Hm_6.out.next q7)
          clear Hm_6
          have K7 := Lib.hid (K6.out.trans (q7.mono K6.out.size))
          clear K6
          clear q7
          go_wp2_with fail
          refine (has_bool z5 k5 nm (b := false) (by rw [Em.out]; exact HM.out) _ Hm_7.out (by omega)).mono ?_
          rintro r w8 ⟨rfl, q8⟩
          have Hx0_8 := Lib.hid (Hx0_7.out.next q8)
          clear Hx0_7
          have Hx1_8 := Lib.hid (Hx1_7.out.next q8)
          clear Hx1_7
          have Hu_8 := Lib.hid (Hu_7.out.next q8)
          clear Hu_7
          have Hc_8 := Lib.hid (Hc_7.out.next q8)
          clear Hc_7
          have Hm_8 := Lib.hid (Hm_7.out.next q8)
          clear Hm_7
          have K8 := Lib.hid (K7.out.trans (q8.mono K7.out.size))
          clear K7
          clear q8
          go_wp2_with fail
          refine (rise_yes z3 k3 _ Hu_8.out (by rw [Eu.out]; exact setS_rise _)).mono ?_
          rintro r w9 ⟨rfl, q9⟩
          have Hx0_9 := Lib.hid (Hx0_8.out.next q9)
          clear Hx0_8
          have Hx1_9 := Lib.hid (Hx1_8.out.next q9)
          clear Hx1_8
          have Hu_9 := Lib.hid (Hu_8.out.next q9)
          clear Hu_8
          have Hc_9 := Lib.hid (Hc_8.out.next q9)
          clear Hc_8
          have Hm_9 := Lib.hid (Hm_8.out.next q9)
          clear Hm_8
          have K9 := Lib.hid (K8.out.trans (q9.mono K8.out.size))
          clear K8
          clear q9
          go_wp2_with fail
          refine (rise_yes z4 k4 _ Hc_9.out (by rw [Ec.out]; exact pickS_rise _ _ _)).mono ?_
          rintro r w10 ⟨rfl, q10⟩
          have Hx0_10 := Lib.hid (Hx0_9.out.next q10)
          clear Hx0_9
          have Hx1_10 := Lib.hid (Hx1_9.out.next q10)
          clear Hx1_9
          have Hu_10 := Lib.hid (Hu_9.out.next q10)
          clear Hu_9
          have Hc_10 := Lib.hid (Hc_9.out.next q10)
          clear Hc_9
          have Hm_10 := Lib.hid (Hm_9.out.next q10)
          clear Hm_9
          have K10 := Lib.hid (K9.out.trans (q10.mono K9.out.size))
          clear K9
          clear q10
          go_wp2_with fail
          refine (rise_yes z5 k5 _ Hm_10.out (by rw [Em.out]; exact pickS_rise _ _ _)).mono ?_
          rintro r w11 ⟨rfl, q11⟩
          have Hx0_11 := Lib.hid (Hx0_10.out.next q11)
          clear Hx0_10
          have Hx1_11 := Lib.hid (Hx1_10.out.next q11)
          clear Hx1_10
          have Hu_11 := Lib.hid (Hu_10.out.next q11)
          clear Hu_10
          have Hc_11 := Lib.hid (Hc_10.out.next q11)
          clear Hc_10
          have Hm_11 := Lib.hid (Hm_10.out.next q11)
          clear Hm_10
          have K11 := Lib.hid (K10.out.trans (q11.mono K10.out.size))
          clear K10
          clear q11
          go_wp2_with fail
          refine (of_any x0 n0 _ Hx0_11.out (by omega)).mono ?_
          rintro r w12 ⟨z12, k12, rfl, e12, o12, q12⟩
          have Eo := Lib.hid e12
          have Ho_12 := Lib.hid o12.ok
          have BLo := Lib.hid (show (setS x0.row).length ≤ 120 by have h0 := setS_len x0.row; have h_0 := BLx0.out; omega)
          have Bo : k12 ≤ 120 := by have h1 := Ho_12.out.ln; rw [Eo.out] at h1; have h2 := BLo.out; omega
          have Hx0_12 := Lib.hid (Hx0_11.out.next q12)
          clear Hx0_11
          have Hx1_12 := Lib.hid (Hx1_11.out.next q12)
          clear Hx1_11
          have Hu_12 := Lib.hid (Hu_11.out.next q12)
          clear Hu_11
          have Hc_12 := Lib.hid (Hc_11.out.next q12)
          clear Hc_11
          have Hm_12 := Lib.hid (Hm_11.out.next q12)
          clear Hm_11
          have K12 := Lib.hid (K11.out.trans (q12.mono K11.out.size))
          clear K11
          clear e12 o12 q12
          go_wp2_with fail
          refine (rise_yes z12 k12 _ Ho_12.out (by rw [Eo.out]; exact setS_rise _)).mono ?_
          rintro r w13 ⟨rfl, q13⟩
          have Hx0_13 := Lib.hid (Hx0_12.out.next q13)
          clear Hx0_12
          have Hx1_13 := Lib.hid (Hx1_12.out.next q13)
          clear Hx1_12
          have Hu_13 := Lib.hid (Hu_12.out.next q13)
          clear Hu_12
          have Hc_13 := Lib.hid (Hc_12.out.next q13)
          clear Hc_12
          have Hm_13 := Lib.hid (Hm_12.out.next q13)
          clear Hm_12
          have Ho_13 := Lib.hid (Ho_12.out.next q13)
          clear Ho_12
          have K13 := Lib.hid (K12.out.trans (q13.mono K12.out.size))
          clear K12
          clear q13
          go_wp2_with fail
          refine (awake_yes _).mono ?_
          rintro r w14 ⟨rfl, q14⟩
          have Hx0_14 := Lib.hid (Hx0_13.out.next q14)
          clear Hx0_13
          have Hx1_14 := Lib.hid (Hx1_13.out.next q14)
          clear Hx1_13
          have Hu_14 := Lib.hid (Hu_13.out.next q14)
          clear Hu_13
          have Hc_14 := Lib.hid (Hc_13.out.next q14)
          clear Hc_13
          have Hm_14 := Lib.hid (Hm_13.out.next q14)
          clear Hm_13
          have Ho_14 := Lib.hid (Ho_13.out.next q14)
          clear Ho_13
          have K14 := Lib.hid (K13.out.trans (q14.mono K13.out.size))
          clear K13
          clear q14
          go_wp2
          go_ret
          exact ⟨rfl, K14.out⟩
    · skip
      clear g0 s0 hm0 g1 s1 hm1
      go_enter Try.func8, Try.ntmps8
      go_wp2_with fail
      refine M0.out.mono ?_
      rintro r _ ⟨rfl, rfl⟩
      go_wp2_with fail
      refine M1.out.mono ?_
      rintro r _ ⟨rfl, rfl⟩
      go_wp2_with fail
      refine (awake_yes _).mono ?_
      rintro r w1 ⟨rfl, h1⟩
      have H1 := Lib.hid h1
      clear h1
      go_wp2
      go_ret
      exact ⟨rfl, H1.out⟩
  · skip
    clear g0 s0 hm0 g1 s1 hm1
    go_enter Try.func8, Try.ntmps8
    go_wp2_with fail
    refine M0.out.mono ?_
    rintro r _ ⟨rfl, rfl⟩
    go_wp2_with fail
    refine (awake_yes _).mono ?_
    rintro r w1 ⟨rfl, h1⟩
    have H1 := Lib.hid h1
    clear h1
    go_wp2
    go_ret
    exact ⟨rfl, H1.out⟩
end Go.Proofs.Ytfdgbegoaaihoaa

