/- Sets: walk of SetsAlgebra. -/
import Derived.Test.YtfdgbegoaaihoaaSeMaW
import Derived.Test.YtfdgbegoaaihoaaSeO
namespace Go.Proofs.Ytfdgbegoaaihoaa
open Go.RowKit
set_option linter.unusedVariables false
set_option linter.unusedSimpArgs false

set_option maxHeartbeats 6400000 in
theorem setsAlgebra_walk (x0 : Nm) (n0 : Nat) (x1 : Nm) (n1 : Nat) (x2 : Nm) (n2 : Nat) (w : World) (g0 : NmOk w x0 n0) (s0 : ∀ s ∈ x0.row, s.length ≤ maxLen) (g1 : NmOk w x1 n1) (s1 : ∀ s ∈ x1.row, s.length ≤ maxLen) (g2 : NmOk w x2 n2) (s2 : ∀ s ∈ x2.row, s.length ≤ maxLen) :
    Calls Try.prog 9 #[.slice x0.pa n0 x0.pc, .slice x1.pa n1 x1.pc, .slice x2.pa n2 x2.pc] w fun r w' => r = .returned (.bool true) ∧ Below w.heap.size w w' := by
  obtain ⟨m0, hm0⟩ : ∃ b, manyB x0.row = b := ⟨_, rfl⟩
  have M0 := Lib.hid (many_any x0 n0 w g0 s0 m0 hm0)
  obtain ⟨m1, hm1⟩ : ∃ b, manyB x1.row = b := ⟨_, rfl⟩
  have M1 := Lib.hid (many_any x1 n1 w g1 s1 m1 hm1)
  obtain ⟨m2, hm2⟩ : ∃ b, manyB x2.row = b := ⟨_, rfl⟩
  have M2 := Lib.hid (many_any x2 n2 w g2 s2 m2 hm2)
  cases m0
  · skip
    cases m1
    · skip
      cases m2
      · skip
        have hn0 : n0 ≤ 60 := short_row g0 hm0
        have hn1 : n1 ≤ 60 := short_row g1 hm1
        have hn2 : n2 ≤ 60 := short_row g2 hm2
        have K0 := Lib.hid (Below.refl w.heap.size w)
        have Hx0_0 := Lib.hid g0
        have BLx0 := Lib.hid (show x0.row.length ≤ 60 by rw [g0.ln]; exact hn0)
        have Hx1_0 := Lib.hid g1
        have BLx1 := Lib.hid (show x1.row.length ≤ 60 by rw [g1.ln]; exact hn1)
        have Hx2_0 := Lib.hid g2
        have BLx2 := Lib.hid (show x2.row.length ≤ 60 by rw [g2.ln]; exact hn2)
        clear g0 s0 hm0 g1 s1 hm1 g2 s2 hm2
        go_enter Try.func9, Try.ntmps9
        go_wp2_with fail
        refine M0.out.mono ?_
        rintro r _ ⟨rfl, rfl⟩
        go_wp2_with fail
        refine M1.out.mono ?_
        rintro r _ ⟨rfl, rfl⟩
        go_wp2_with fail
        refine M2.out.mono ?_
        rintro r _ ⟨rfl, rfl⟩
        go_wp2_with fail
        refine (union_any x0 x1 n0 n1 _ Hx0_0.out Hx1_0.out (by omega) (by omega)).mono ?_
        rintro r w1 ⟨z1, k1, rfl, e1, o1, q1⟩
        have Eu := Lib.hid e1
        have Hu_1 := Lib.hid o1.ok
        have BLu := Lib.hid (show (unionS x0.row x1.row).length ≤ 120 by have h0 := unionS_len x0.row x1.row; have h_0 := BLx0.out; have h_1 := BLx1.out; omega)
        have Bu : k1 ≤ 120 := by have h1 := Hu_1.out.ln; rw [Eu.out] at h1; have h2 := BLu.out; omega
        have Hx0_1 := Lib.hid (Hx0_0.out.next q1)
        clear Hx0_0
        have Hx1_1 := Lib.hid (Hx1_0.out.next q1)
        clear Hx1_0
        have Hx2_1 := Lib.hid (Hx2_0.out.next q1)
        clear Hx2_0
        have K1 := Lib.hid (K0.out.trans (q1.mono K0.out.size))
        clear K0
        clear e1 o1 q1
        go_wp2_with fail
        refine (union_any x1 x0 n1 n0 _ Hx1_1.out Hx0_1.out (by omega) (by omega)).mono ?_
        rintro r w2 ⟨z2, k2, rfl, e2, o2, q2⟩
        have Ev := Lib.hid e2
        have Hv_2 := Lib.hid o2.ok
        have BLv := Lib.hid (show (unionS x1.row x0.row).length ≤ 120 by have h0 := unionS_len x1.row x0.row; have h_0 := BLx1.out; have h_1 := BLx0.out; omega)
        have Bv : k2 ≤ 120 := by have h1 := Hv_2.out.ln; rw [Ev.out] at h1; have h2 := BLv.out; omega
        have Hx0_2 := Lib.hid (Hx0_1.out.next q2)
        clear Hx0_1
        have Hx1_2 := Lib.hid (Hx1_1.out.next q2)
        clear Hx1_1
        have Hx2_2 := Lib.hid (Hx2_1.out.next q2)
        clear Hx2_1
        have Hu_2 := Lib.hid (Hu_1.out.next q2)
        clear Hu_1
        have K2 := Lib.hid (K1.out.trans (q2.mono K1.out.size))
        clear K1
        clear e2 o2 q2
        go_wp2_with fail
        refine (same_bool z1 z2 k1 k2 (b := true) (by rw [Eu.out, Ev.out]; exact alg1 _ _) _ Hu_2.out Hv_2.out (by omega) (by omega)).mono ?_
        rintro r w3 ⟨rfl, q3⟩
        have Hx0_3 := Lib.hid (Hx0_2.out.next q3)
        clear Hx0_2
        have Hx1_3 := Lib.hid (Hx1_2.out.next q3)
        clear Hx1_2
        have Hx2_3 := Lib.hid (Hx2_2.out.next q3)
        clear Hx2_2
        have Hu_3 := Lib.hid (Hu_2.out.next q3)
        clear Hu_2
        have Hv_3 := Lib.hid (Hv_2.out.next q3)
        clear Hv_2
        have K3 := Lib.hid (K2.out.trans (q3.mono K2.out.size))
        clear K2
        clear q3
        clear Hu_3 Bu
        clear Hv_3 Bv
        clear Eu BLu Ev BLv
        go_wp2_with fail
        refine (common_any x0 x1 n0 n1 _ Hx0_3.out Hx1_3.out (by omega) (by omega)).mono ?_
        rintro r w4 ⟨z4, k4, rfl, e4, o4, q4⟩
        have Eu := Lib.hid e4
        have Hu_4 := Lib.hid o4.ok
        have BLu := Lib.hid (show (pickS x0.row x1.row true).length ≤ 60 by have h0 := pickS_len x0.row x1.row true; have h_0 := BLx0.out; have h_1 := BLx1.out; omega)
        have Bu : k4 ≤ 60 := by have h1 := Hu_4.out.ln; rw [Eu.out] at h1; have h2 := BLu.out; omega
        have Hx0_4 := Lib.hid (Hx0_3.out.next q4)
        clear Hx0_3
        have Hx1_4 := Lib.hid (Hx1_3.out.next q4)
        clear Hx1_3
        have Hx2_4 := Lib.hid (Hx2_3.out.next q4)
        clear Hx2_3
        have K4 := Lib.hid (K3.out.trans (q4.mono K3.out.size))
        clear K3
        clear e4 o4 q4
        go_wp2_with fail
        refine (common_any x1 x0 n1 n0 _ Hx1_4.out Hx0_4.out (by omega) (by omega)).mono ?_
        rintro r w5 ⟨z5, k5, rfl, e5, o5, q5⟩
        have Ev := Lib.hid e5
        have Hv_5 := Lib.hid o5.ok
        have BLv := Lib.hid (show (pickS x1.row x0.row true).length ≤ 60 by have h0 := pickS_len x1.row x0.row true; have h_0 := BLx1.out; have h_1 := BLx0.out; omega)
        have Bv : k5 ≤ 60 := by have h1 := Hv_5.out.ln; rw [Ev.out] at h1; have h2 := BLv.out; omega
        have Hx0_5 := Lib.hid (Hx0_4.out.next q5)
        clear Hx0_4
        have Hx1_5 := Lib.hid (Hx1_4.out.next q5)
        clear Hx1_4
        have Hx2_5 := Lib.hid (Hx2_4.out.next q5)
        clear Hx2_4
        have Hu_5 := Lib.hid (Hu_4.out.next q5)
        clear Hu_4
        have K5 := Lib.hid (K4.out.trans (q5.mono K4.out.size))
        clear K4
        clear e5 o5 q5
        go_wp2_with fail
        refine (same_bool z4 z5 k4 k5 (b := true) (by rw [Eu.out, Ev.out]; exact alg2 _ _) _ Hu_5.out Hv_5.out (by omega) (by omega)).mono ?_
        rintro r w6 ⟨rfl, q6⟩
        have Hx0_6 := Lib.hid (Hx0_5.out.next q6)
        clear Hx0_5
        have Hx1_6 := Lib.hid (Hx1_5.out.next q6)
        clear Hx1_5
        have Hx2_6 := Lib.hid (Hx2_5.out.next q6)
        clear Hx2_5
        have Hu_6 := Lib.hid (Hu_5.out.next q6)
        clear Hu_5
        have Hv_6 := Lib.hid (Hv_5.out.next q6)
        clear Hv_5
        have K6 := Lib.hid (K5.out.trans (q6.mono K5.out.size))
        clear K5
        clear q6
        clear Hu_6 Bu
        clear Hv_6 Bv
        clear Eu BLu Ev BLv
        go_wp2_with fail
        refine (union_any x1 x2 n1 n2 _ Hx1_6.out Hx2_6.out (by omega) (by omega)).mono ?_
        rintro r w7 ⟨z7, k7, rfl, e7, o7, q7⟩
        have Ea := Lib.hid e7
        have Ha_7 := Lib.hid o7.ok
        have BLa := Lib.hid (show (unionS x1.row x2.row).length ≤ 120 by have h0 := unionS_len x1.row x2.row; have h_0 := BLx1.out; have h_1 := BLx2.out; omega)
        have Ba : k7 ≤ 120 := by have h1 := Ha_7.out.ln; rw [Ea.out] at h1; have h2 := BLa.out; omega
        have Hx0_7 := Lib.hid (Hx0_6.out.next q7)
        clear Hx0_6
        have Hx1_7 := Lib.hid (Hx1_6.out.next q7)
        clear Hx1_6
        have Hx2_7 := Lib.hid (Hx2_6.out.next q7)
        clear Hx2_6
        have K7 := Lib.hid (K6.out.trans (q7.mono K6.out.size))
        clear K6
        clear e7 o7 q7
        go_wp2_with fail
        refine (union_any x0 z7 n0 k7 _ Hx0_7.out Ha_7.out (by omega) (by have := Ba; omega)).mono ?_
        rintro r w8 ⟨z8, k8, rfl, e8, o8, q8⟩
        rw [Ea.out] at e8
        have Eu := Lib.hid e8
        have Hu_8 := Lib.hid o8.ok
        have BLu := Lib.hid (show (unionS x0.row (unionS x1.row x2.row)).length ≤ 180 by have h0 := unionS_len x0.row (unionS x1.row x2.row); have h_0 := BLx0.out; have h_1 := BLa.out; omega)
        have Bu : k8 ≤ 180 := by have h1 := Hu_8.out.ln; rw [Eu.out] at h1; have h2 := BLu.out; omega
        have Hx0_8 := Lib.hid (Hx0_7.out.next q8)
        clear Hx0_7
        have Hx1_8 := Lib.hid (Hx1_7.out.next q8)
        clear Hx1_7
        have Hx2_8 := Lib.hid (Hx2_7.out.next q8)
        clear Hx2_7
        have Ha_8 := Lib.hid (Ha_7.out.next q8)
        clear Ha_7
        have K8 := Lib.hid (K7.out.trans (q8.mono K7.out.size))
        clear K7
        clear e8 o8 q8
        go_wp2_with fail
        refine (union_any x0 x1 n0 n1 _ Hx0_8.out Hx1_8.out (by omega) (by omega)).mono ?_
        rintro r w9 ⟨z9, k9, rfl, e9, o9, q9⟩
        have Eb := Lib.hid e9
        have Hb_9 := Lib.hid o9.ok
        have BLb := Lib.hid (show (unionS x0.row x1.row).length ≤ 120 by have h0 := unionS_len x0.row x1.row; have h_0 := BLx0.out; have h_1 := BLx1.out; omega)
        have Bb : k9 ≤ 120 := by have h1 := Hb_9.out.ln; rw [Eb.out] at h1; have h2 := BLb.out; omega
        have Hx0_9 := Lib.hid (Hx0_8.out.next q9)
        clear Hx0_8
        have Hx1_9 := Lib.hid (Hx1_8.out.next q9)
        clear Hx1_8
        have Hx2_9 := Lib.hid (Hx2_8.out.next q9)
        clear Hx2_8
        have Ha_9 := Lib.hid (Ha_8.out.next q9)
        clear Ha_8
        have Hu_9 := Lib.hid (Hu_8.out.next q9)
        clear Hu_8
        have K9 := Lib.hid (K8.out.trans (q9.mono K8.out.size))
        clear K8
        clear e9 o9 q9
        go_wp2_with fail
        refine (union_any z9 x2 k9 n2 _ Hb_9.out Hx2_9.out (by have := Bb; omega) (by omega)).mono ?_
        rintro r w10 ⟨z10, k10, rfl, e10, o10, q10⟩
        rw [Eb.out] at e10
        have Ev := Lib.hid e10
        have Hv_10 := Lib.hid o10.ok
        have BLv := Lib.hid (show (unionS (unionS x0.row x1.row) x2.row).length ≤ 180 by have h0 := unionS_len (unionS x0.row x1.row) x2.row; have h_0 := BLb.out; have h_1 := BLx2.out; omega)
        have Bv : k10 ≤ 180 := by have h1 := Hv_10.out.ln; rw [Ev.out] at h1; have h2 := BLv.out; omega
        have Hx0_10 := Lib.hid (Hx0_9.out.next q10)
        clear Hx0_9
        have Hx1_10 := Lib.hid (Hx1_9.out.next q10)
        clear Hx1_9
        have Hx2_10 := Lib.hid (Hx2_9.out.next q10)
        clear Hx2_9
        have Ha_10 := Lib.hid (Ha_9.out.next q10)
        clear Ha_9
        have Hu_10 := Lib.hid (Hu_9.out.next q10)
        clear Hu_9
        have Hb_10 := Lib.hid (Hb_9.out.next q10)
        clear Hb_9
        have K10 := Lib.hid (K9.out.trans (q10.mono K9.out.size))
        clear K9
        clear e10 o10 q10
        go_wp2_with fail
        refine (same_bool z8 z10 k8 k10 (b := true) (by rw [Eu.out, Ev.out]; exact alg3 _ _ _) _ Hu_10.out Hv_10.out (by omega) (by omega)).mono ?_
        rintro r w11 ⟨rfl, q11⟩
        have Hx0_11 := Lib.hid (Hx0_10.out.next q11)
        clear Hx0_10
        have Hx1_11 := Lib.hid (Hx1_10.out.next q11)
        clear Hx1_10
        have Hx2_11 := Lib.hid (Hx2_10.out.next q11)
        clear Hx2_10
        have Ha_11 := Lib.hid (Ha_10.out.next q11)
        clear Ha_10
        have Hu_11 := Lib.hid (Hu_10.out.next q11)
        clear Hu_10
        have Hb_11 := Lib.hid (Hb_10.out.next q11)
        clear Hb_10
        have Hv_11 := Lib.hid (Hv_10.out.next q11)
        clear Hv_10
        have K11 := Lib.hid (K10.out.trans (q11.mono K10.out.size))
        clear K10
        clear q11
        clear Hu_11 Bu
        clear Hv_11 Bv
        clear Ha_11 Ba
        clear Hb_11 Bb
        clear Eu BLu Ev BLv Ea BLa Eb BLb
        go_wp2_with fail
        refine (common_any x1 x2 n1 n2 _ Hx1_11.out Hx2_11.out (by omega) (by omega)).mono ?_
        rintro r w12 ⟨z12, k12, rfl, e12, o12, q12⟩
        have Ea := Lib.hid e12
        have Ha_12 := Lib.hid o12.ok
        have BLa := Lib.hid (show (pickS x1.row x2.row true).length ≤ 60 by have h0 := pickS_len x1.row x2.row true; have h_0 := BLx1.out; have h_1 := BLx2.out; omega)
        have Ba : k12 ≤ 60 := by have h1 := Ha_12.out.ln; rw [Ea.out] at h1; have h2 := BLa.out; omega
        have Hx0_12 := Lib.hid (Hx0_11.out.next q12)
        clear Hx0_11
        have Hx1_12 := Lib.hid (Hx1_11.out.next q12)
        clear Hx1_11
        have Hx2_12 := Lib.hid (Hx2_11.out.next q12)
        clear Hx2_11
        have K12 := Lib.hid (K11.out.trans (q12.mono K11.out.size))
        clear K11
        clear e12 o12 q12
        go_wp2_with fail
        refine (common_any x0 z12 n0 k12 _ Hx0_12.out Ha_12.out (by omega) (by have := Ba; omega)).mono ?_
        rintro r w13 ⟨z13, k13, rfl, e13, o13, q13⟩
        rw [Ea.out] at e13
        have Eu := Lib.hid e13
        have Hu_13 := Lib.hid o13.ok
        have BLu := Lib.hid (show (pickS x0.row (pickS x1.row x2.row true) true).length ≤ 60 by have h0 := pickS_len x0.row (pickS x1.row x2.row true) true; have h_0 := BLx0.out; have h_1 := BLa.out; omega)
        have Bu : k13 ≤ 60 := by have h1 := Hu_13.out.ln; rw [Eu.out] at h1; have h2 := BLu.out; omega
        have Hx0_13 := Lib.hid (Hx0_12.out.next q13)
        clear Hx0_12
        have Hx1_13 := Lib.hid (Hx1_12.out.next q13)
        clear Hx1_12
        have Hx2_13 := Lib.hid (Hx2_12.out.next q13)
        clear Hx2_12
        have Ha_13 := Lib.hid (Ha_12.out.next q13)
        clear Ha_12
        have K13 := Lib.hid (K12.out.trans (q13.mono K12.out.size))
        clear K12
        clear e13 o13 q13
        go_wp2_with fail
        refine (common_any x0 x1 n0 n1 _ Hx0_13.out Hx1_13.out (by omega) (by omega)).mono ?_
        rintro r w14 ⟨z14, k14, rfl, e14, o14, q14⟩
        have Eb := Lib.hid e14
        have Hb_14 := Lib.hid o14.ok
        have BLb := Lib.hid (show (pickS x0.row x1.row true).length ≤ 60 by have h0 := pickS_len x0.row x1.row true; have h_0 := BLx0.out; have h_1 := BLx1.out; omega)
        have Bb : k14 ≤ 60 := by have h1 := Hb_14.out.ln; rw [Eb.out] at h1; have h2 := BLb.out; omega
        have Hx0_14 := Lib.hid (Hx0_13.out.next q14)
        clear Hx0_13
        have Hx1_14 := Lib.hid (Hx1_13.out.next q14)
        clear Hx1_13
        have Hx2_14 := Lib.hid (Hx2_13.out.next q14)
        clear Hx2_13
        have Ha_14 := Lib.hid (Ha_13.out.next q14)
        clear Ha_13
        have Hu_14 := Lib.hid (Hu_13.out.next q14)
        clear Hu_13
        have K14 := Lib.hid (K13.out.trans (q14.mono K13.out.size))
        clear K13
        clear e14 o14 q14
        go_wp2_with fail
        refine (common_any z14 x2 k14 n2 _ Hb_14.out Hx2_14.out (by have := Bb; omega) (by omega)).mono ?_
        rintro r w15 ⟨z15, k15, rfl, e15, o15, q15⟩
        rw [Eb.out] at e15
        have Ev := Lib.hid e15
        have Hv_15 := Lib.hid o15.ok
        have BLv := Lib.hid (show (pickS (pickS x0.row x1.row true) x2.row true).length ≤ 60 by have h0 := pickS_len (pickS x0.row x1.row true) x2.row true; have h_0 := BLb.out; have h_1 := BLx2.out; omega)
        have Bv : k15 ≤ 60 := by have h1 := Hv_15.out.ln; rw [Ev.out] at h1; have h2 := BLv.out; omega
        have Hx0_15 := Lib.hid (Hx0_14.out.next q15)
        clear Hx0_14
        have Hx1_15 := Lib.hid (Hx1_14.out.next q15)
        clear Hx1_14
        have Hx2_15 := Lib.hid (Hx2_14.out.next q15)
        clear Hx2_14
        have Ha_15 := Lib.hid (Ha_14.out.next q15)
        clear Ha_14
        have Hu_15 := Lib.hid (Hu_14.out.next q15)
        clear Hu_14
        have Hb_15 := Lib.hid (Hb_14.out.next q15)
        clear Hb_14
        have K15 := Lib.hid (K14.out.trans (q15.mono K14.out.size))
        clear K14
        clear e15 o15 q15
        go_wp2_with fail
        refine (same_bool z13 z15 k13 k15 (b := true) (by rw [Eu.out, Ev.out]; exact alg4 _ _ _) _ Hu_15.out Hv_15.out (by omega) (by omega)).mono ?_
        rintro r w16 ⟨rfl, q16⟩
        have Hx0_16 := Lib.hid (Hx0_15.out.next q16)
        clear Hx0_15
        have Hx1_16 := Lib.hid (Hx1_15.out.next q16)
        clear Hx1_15
        have Hx2_16 := Lib.hid (Hx2_15.out.next q16)
        clear Hx2_15
        have Ha_16 := Lib.hid (Ha_15.out.next q16)
        clear Ha_15
        have Hu_16 := Lib.hid (Hu_15.out.next q16)
        clear Hu_15
        have Hb_16 := Lib.hid (Hb_15.out.next q16)
        clear Hb_15
        have Hv_16 := Lib.hid (Hv_15.out.next q16)
        clear Hv_15
        have K16 := Lib.hid (K15.out.trans (q16.mono K15.out.size))
        clear K15
        clear q16
        clear Hu_16 Bu
        clear Hv_16 Bv
        clear Ha_16 Ba
        clear Hb_16 Bb
        clear Eu BLu Ev BLv Ea BLa Eb BLb
        go_wp2_with fail
        refine (union_any x1 x2 n1 n2 _ Hx1_16.out Hx2_16.out (by omega) (by omega)).mono ?_
        rintro r w17 ⟨z17, k17, rfl, e17, o17, q17⟩
        have Ea := Lib.hid e17
        have Ha_17 := Lib.hid o17.ok
        have BLa := Lib.hid (show (unionS x1.row x2.row).length ≤ 120 by have h0 := unionS_len x1.row x2.row; have h_0 := BLx1.out; have h_1 := BLx2.out; omega)
        have Ba : k17 ≤ 120 := by have h1 := Ha_17.out.ln; rw [Ea.out] at h1; have h2 := BLa.out; omega
        have Hx0_17 := Lib.hid (Hx0_16.out.next q17)
        clear Hx0_16
        have Hx1_17 := Lib.hid (Hx1_16.out.next q17)
        clear Hx1_16
        have Hx2_17 := Lib.hid (Hx2_16.out.next q17)
        clear Hx2_16
        have K17 := Lib.hid (K16.out.trans (q17.mono K16.out.size))
        clear K16
        clear e17 o17 q17
        go_wp2_with fail
        refine (common_any x0 z17 n0 k17 _ Hx0_17.out Ha_17.out (by omega) (by have := Ba; omega)).mono ?_
        rintro r w18 ⟨z18, k18, rfl, e18, o18, q18⟩
        rw [Ea.out] at e18
        have Eu := Lib.hid e18
        have Hu_18 := Lib.hid o18.ok
        have BLu := Lib.hid (show (pickS x0.row (unionS x1.row x2.row) true).length ≤ 60 by have h0 := pickS_len x0.row (unionS x1.row x2.row) true; have h_0 := BLx0.out; have h_1 := BLa.out; omega)
        have Bu : k18 ≤ 60 := by have h1 := Hu_18.out.ln; rw [Eu.out] at h1; have h2 := BLu.out; omega
        have Hx0_18 := Lib.hid (Hx0_17.out.next q18)
        clear Hx0_17
        have Hx1_18 := Lib.hid (Hx1_17.out.next q18)
        clear Hx1_17
        have Hx2_18 := Lib.hid (Hx2_17.out.next q18)
        clear Hx2_17
        have Ha_18 := Lib.hid (Ha_17.out.next q18)
        clear Ha_17
        have K18 := Lib.hid (K17.out.trans (q18.mono K17.out.size))
        clear K17
        clear e18 o18 q18
        go_wp2_with fail
        refine (common_any x0 x1 n0 n1 _ Hx0_18.out Hx1_18.out (by omega) (by omega)).mono ?_
        rintro r w19 ⟨z19, k19, rfl, e19, o19, q19⟩
        have Eb := Lib.hid e19
        have Hb_19 := Lib.hid o19.ok
        have BLb := Lib.hid (show (pickS x0.row x1.row true).length ≤ 60 by have h0 := pickS_len x0.row x1.row true; have h_0 := BLx0.out; have h_1 := BLx1.out; omega)
        have Bb : k19 ≤ 60 := by have h1 := Hb_19.out.ln; rw [Eb.out] at h1; have h2 := BLb.out; omega
        have Hx0_19 := Lib.hid (Hx0_18.out.next q19)
        clear Hx0_18
        have Hx1_19 := Lib.hid (Hx1_18.out.next q19)
        clear Hx1_18
        have Hx2_19 := Lib.hid (Hx2_18.out.next q19)
        clear Hx2_18
        have Ha_19 := Lib.hid (Ha_18.out.next q19)
        clear Ha_18
        have Hu_19 := Lib.hid (Hu_18.out.next q19)
        clear Hu_18
        have K19 := Lib.hid (K18.out.trans (q19.mono K18.out.size))
        clear K18
        clear e19 o19 q19
        go_wp2_with fail
        refine (common_any x0 x2 n0 n2 _ Hx0_19.out Hx2_19.out (by omega) (by omega)).mono ?_
        rintro r w20 ⟨z20, k20, rfl, e20, o20, q20⟩
        have Ec := Lib.hid e20
        have Hc_20 := Lib.hid o20.ok
        have BLc := Lib.hid (show (pickS x0.row x2.row true).length ≤ 60 by have h0 := pickS_len x0.row x2.row true; have h_0 := BLx0.out; have h_1 := BLx2.out; omega)
        have Bc : k20 ≤ 60 := by have h1 := Hc_20.out.ln; rw [Ec.out] at h1; have h2 := BLc.out; omega
        have Hx0_20 := Lib.hid (Hx0_19.out.next q20)
        clear Hx0_19
        have Hx1_20 := Lib.hid (Hx1_19.out.next q20)
        clear Hx1_19
        have Hx2_20 := Lib.hid (Hx2_19.out.next q20)
        clear Hx2_19
        have Ha_20 := Lib.hid (Ha_19.out.next q20)
        clear Ha_19
        have Hu_20 := Lib.hid (Hu_19.out.next q20)
        clear Hu_19
        have Hb_20 := Lib.hid (Hb_19.out.next q20)
        clear Hb_19
        have K20 := Lib.hid (K19.out.trans (q20.mono K19.out.size))
        clear K19
        clear e20 o20 q20
        go_wp2_with fail
        refine (union_any z19 z20 k19 k20 _ Hb_20.out Hc_20.out (by have := Bb; omega) (by have := Bc; omega)).mono ?_
        rintro r w21 ⟨z21, k21, rfl, e21, o21, q21⟩
        rw [Eb.out, Ec.out] at e21
        have Ev := Lib.hid e21
        have Hv_21 := Lib.hid o21.ok
        have BLv := Lib.hid (show (unionS (pickS x0.row x1.row true) (pickS x0.row x2.row true)).length ≤ 120 by have h0 := unionS_len (pickS x0.row x1.row true) (pickS x0.row x2.row true); have h_0 := BLb.out; have h_1 := BLc.out; omega)
        have Bv : k21 ≤ 120 := by have h1 := Hv_21.out.ln; rw [Ev.out] at h1; have h2 := BLv.out; omega
        have Hx0_21 := Lib.hid (Hx0_20.out.next q21)
        clear Hx0_20
        have Hx1_21 := Lib.hid (Hx1_20.out.next q21)
        clear Hx1_20
        have Hx2_21 := Lib.hid (Hx2_20.out.next q21)
        clear Hx2_20
        have Ha_21 := Lib.hid (Ha_20.out.next q21)
        clear Ha_20
        have Hu_21 := Lib.hid (Hu_20.out.next q21)
        clear Hu_20
        have Hb_21 := Lib.hid (Hb_20.out.next q21)
        clear Hb_20
        have Hc_21 := Lib.hid (Hc_20.out.next q21)
        clear Hc_20
        have K21 := Lib.hid (K20.out.trans (q21.mono K20.out.size))
        clear K20
        clear e21 o21 q21
        go_wp2_with fail
        refine (same_bool z18 z21 k18 k21 (b := true) (by rw [Eu.out, Ev.out]; exact alg5 _ _ _) _ Hu_21.out Hv_21.out (by omega) (by omega)).mono ?_
        rintro r w22 ⟨rfl, q22⟩
        have Hx0_22 := Lib.hid (Hx0_21.out.next q22)
        clear Hx0_21
        have Hx1_22 := Lib.hid (Hx1_21.out.next q22)
        clear Hx1_21
        have Hx2_22 := Lib.hid (Hx2_21.out.next q22)
        clear Hx2_21
        have Ha_22 := Lib.hid (Ha_21.out.next q22)
        clear Ha_21
        have Hu_22 := Lib.hid (Hu_21.out.next q22)
        clear Hu_21
        have Hb_22 := Lib.hid (Hb_21.out.next q22)
        clear Hb_21
        have Hc_22 := Lib.hid (Hc_21.out.next q22)
        clear Hc_21
        have Hv_22 := Lib.hid (Hv_21.out.next q22)
        clear Hv_21
        have K22 := Lib.hid (K21.out.trans (q22.mono K21.out.size))
        clear K21
        clear q22
        clear Hu_22 Bu
        clear Hv_22 Bv
        clear Ha_22 Ba
        clear Hb_22 Bb
        clear Hc_22 Bc
        clear Eu BLu Ev BLv Ea BLa Eb BLb Ec BLc
        go_wp2_with fail
        refine (union_any x1 x2 n1 n2 _ Hx1_22.out Hx2_22.out (by omega) (by omega)).mono ?_
        rintro r w23 ⟨z23, k23, rfl, e23, o23, q23⟩
        have Ea := Lib.hid e23
        have Ha_23 := Lib.hid o23.ok
        have BLa := Lib.hid (show (unionS x1.row x2.row).length ≤ 120 by have h0 := unionS_len x1.row x2.row; have h_0 := BLx1.out; have h_1 := BLx2.out; omega)
        have Ba : k23 ≤ 120 := by have h1 := Ha_23.out.ln; rw [Ea.out] at h1; have h2 := BLa.out; omega
        have Hx0_23 := Lib.hid (Hx0_22.out.next q23)
        clear Hx0_22
        have Hx1_23 := Lib.hid (Hx1_22.out.next q23)
        clear Hx1_22
        have Hx2_23 := Lib.hid (Hx2_22.out.next q23)
        clear Hx2_22
        have K23 := Lib.hid (K22.out.trans (q23.mono K22.out.size))
        clear K22
        clear e23 o23 q23
        go_wp2_with fail
        refine (minus_any x0 z23 n0 k23 _ Hx0_23.out Ha_23.out (by omega) (by have := Ba; omega)).mono ?_
        rintro r w24 ⟨z24, k24, rfl, e24, o24, q24⟩
        rw [Ea.out] at e24
        have Eu := Lib.hid e24
        have Hu_24 := Lib.hid o24.ok
        have BLu := Lib.hid (show (pickS x0.row (unionS x1.row x2.row) false).length ≤ 60 by have h0 := pickS_len x0.row (unionS x1.row x2.row) false; have h_0 := BLx0.out; have h_1 := BLa.out; omega)
        have Bu : k24 ≤ 60 := by have h1 := Hu_24.out.ln; rw [Eu.out] at h1; have h2 := BLu.out; omega
        have Hx0_24 := Lib.hid (Hx0_23.out.next q24)
        clear Hx0_23
        have Hx1_24 := Lib.hid (Hx1_23.out.next q24)
        clear Hx1_23
        have Hx2_24 := Lib.hid (Hx2_23.out.next q24)
        clear Hx2_23
        have Ha_24 := Lib.hid (Ha_23.out.next q24)
        clear Ha_23
        have K24 := Lib.hid (K23.out.trans (q24.mono K23.out.size))
        clear K23
        clear e24 o24 q24
        go_wp2_with fail
        refine (minus_any x0 x1 n0 n1 _ Hx0_24.out Hx1_24.out (by omega) (by omega)).mono ?_
        rintro r w25 ⟨z25, k25, rfl, e25, o25, q25⟩
        have Eb := Lib.hid e25
        have Hb_25 := Lib.hid o25.ok
        have BLb := Lib.hid (show (pickS x0.row x1.row false).length ≤ 60 by have h0 := pickS_len x0.row x1.row false; have h_0 := BLx0.out; have h_1 := BLx1.out; omega)
        have Bb : k25 ≤ 60 := by have h1 := Hb_25.out.ln; rw [Eb.out] at h1; have h2 := BLb.out; omega
        have Hx0_25 := Lib.hid (Hx0_24.out.next q25)
        clear Hx0_24
        have Hx1_25 := Lib.hid (Hx1_24.out.next q25)
        clear Hx1_24
        have Hx2_25 := Lib.hid (Hx2_24.out.next q25)
        clear Hx2_24
        have Ha_25 := Lib.hid (Ha_24.out.next q25)
        clear Ha_24
        have Hu_25 := Lib.hid (Hu_24.out.next q25)
        clear Hu_24
        have K25 := Lib.hid (K24.out.trans (q25.mono K24.out.size))
        clear K24
        clear e25 o25 q25
        go_wp2_with fail
        refine (minus_any z25 x2 k25 n2 _ Hb_25.out Hx2_25.out (by have := Bb; omega) (by omega)).mono ?_
        rintro r w26 ⟨z26, k26, rfl, e26, o26, q26⟩
        rw [Eb.out] at e26
        have Ev := Lib.hid e26
        have Hv_26 := Lib.hid o26.ok
        have BLv := Lib.hid (show (pickS (pickS x0.row x1.row false) x2.row false).length ≤ 60 by have h0 := pickS_len (pickS x0.row x1.row false) x2.row false; have h_0 := BLb.out; have h_1 := BLx2.out; omega)
        have Bv : k26 ≤ 60 := by have h1 := Hv_26.out.ln; rw [Ev.out] at h1; have h2 := BLv.out; omega
        have Hx0_26 := Lib.hid (Hx0_25.out.next q26)
        clear Hx0_25
        have Hx1_26 := Lib.hid (Hx1_25.out.next q26)
        clear Hx1_25
        have Hx2_26 := Lib.hid (Hx2_25.out.next q26)
        clear Hx2_25
        have Ha_26 := Lib.hid (Ha_25.out.next q26)
        clear Ha_25
        have Hu_26 := Lib.hid (Hu_25.out.next q26)
        clear Hu_25
        have Hb_26 := Lib.hid (Hb_25.out.next q26)
        clear Hb_25
        have K26 := Lib.hid (K25.out.trans (q26.mono K25.out.size))
        clear K25
        clear e26 o26 q26
        go_wp2_with fail
        refine (same_bool z24 z26 k24 k26 (b := true) (by rw [Eu.out, Ev.out]; exact alg6 _ _ _) _ Hu_26.out Hv_26.out (by omega) (by omega)).mono ?_
        rintro r w27 ⟨rfl, q27⟩
        have Hx0_27 := Lib.hid (Hx0_26.out.next q27)
        clear Hx0_26
        have Hx1_27 := Lib.hid (Hx1_26.out.next q27)
        clear Hx1_26
        have Hx2_27 := Lib.hid (Hx2_26.out.next q27)
        clear Hx2_26
        have Ha_27 := Lib.hid (Ha_26.out.next q27)
        clear Ha_26
        have Hu_27 := Lib.hid (Hu_26.out.next q27)
        clear Hu_26
        have Hb_27 := Lib.hid (Hb_26.out.next q27)
        clear Hb_26
        have Hv_27 := Lib.hid (Hv_26.out.next q27)
        clear Hv_26
        have K27 := Lib.hid (K26.out.trans (q27.mono K26.out.size))
        clear K26
        clear q27
        clear Hu_27 Bu
        clear Hv_27 Bv
        clear Ha_27 Ba
        clear Hb_27 Bb
        clear Eu BLu Ev BLv Ea BLa Eb BLb
        go_wp2_with fail
        refine (awake_yes _).mono ?_
        rintro r w28 ⟨rfl, q28⟩
        have Hx0_28 := Lib.hid (Hx0_27.out.next q28)
        clear Hx0_27
        have Hx1_28 := Lib.hid (Hx1_27.out.next q28)
        clear Hx1_27
        have Hx2_28 := Lib.hid (Hx2_27.out.next q28)
        clear Hx2_27
        have K28 := Lib.hid (K27.out.trans (q28.mono K27.out.size))
        clear K27
        clear q28
        go_wp2
        go_ret
        exact ⟨rfl, K28.out⟩
      · skip
        clear g0 s0 hm0 g1 s1 hm1 g2 s2 hm2
        go_enter Try.func9, Try.ntmps9
        go_wp2_with fail
        refine M0.out.mono ?_
        rintro r _ ⟨rfl, rfl⟩
        go_wp2_with fail
        refine M1.out.mono ?_
        rintro r _ ⟨rfl, rfl⟩
        go_wp2_with fail
        refine M2.out.mono ?_
        rintro r _ ⟨rfl, rfl⟩
        go_wp2_with fail
        refine (awake_yes _).mono ?_
        rintro r w1 ⟨rfl, h1⟩
        have H1 := Lib.hid h1
        clear h1
        go_wp2
        go_ret
        exact ⟨rfl, H1.out⟩
    · skip
      clear g0 s0 hm0 g1 s1 hm1 g2 s2 hm2
      go_enter Try.func9, Try.ntmps9
      go_wp2_with fail
      refine M0.out.mono ?_
      rintro r _ ⟨rfl, rfl⟩
      go_wp2_with fail
      refine M1.out.mono ?_
      rintro r _ ⟨rfl, rfl⟩
      go_wp2_with fail
      refine (awake_yes _).mono ?_
      rintro r w1 ⟨rfl, h1⟩
      have H1 := Lib.hid h1
      clear h1
      go_wp2
      go_ret
      exact ⟨rfl, H1.out⟩
  · skip
    clear g0 s0 hm0 g1 s1 hm1 g2 s2 hm2
    go_enter Try.func9, Try.ntmps9
    go_wp2_with fail
    refine M0.out.mono ?_
    rintro r _ ⟨rfl, rfl⟩
    go_wp2_with fail
    refine (awake_yes _).mono ?_
    rintro r w1 ⟨rfl, h1⟩
    have H1 := Lib.hid h1
    clear h1
    go_wp2
    go_ret
    exact ⟨rfl, H1.out⟩
end Go.Proofs.Ytfdgbegoaaihoaa

