/- Sets: walk of SetsMake. -/
import Derived.Test.YtfdgbegoaaihoaaSeG
import Derived.Test.YtfdgbegoaaihoaaSeO
namespace Go.Proofs.Ytfdgbegoaaihoaa
open Go.RowKit
set_option linter.unusedVariables false
set_option linter.unusedSimpArgs false

theorem unionS_len (a b : List Bs) : (unionS a b).length ≤ a.length + b.length := by
  unfold unionS; have := setS_len (a ++ b); rw [List.length_append] at this; exact this
theorem pickS_len (a b : List Bs) (is : Bool) : (pickS a b is).length ≤ a.length := by
  unfold pickS; exact Nat.le_trans (List.length_filter_le _ _) (setS_len a)

set_option maxHeartbeats 6400000 in
theorem setsMake_walk (x0 : Nm) (n0 : Nat) (x1 : Nm) (n1 : Nat) (w : World) (g0 : NmOk w x0 n0) (s0 : ∀ s ∈ x0.row, s.length ≤ maxLen) (g1 : NmOk w x1 n1) (s1 : ∀ s ∈ x1.row, s.length ≤ maxLen) :
    Calls Try.prog 3 #[.slice x0.pa n0 x0.pc, .slice x1.pa n1 x1.pc] w fun r w' => r = .returned (.bool true) ∧ Below w.heap.size w w' := by
  obtain ⟨m0, hm0⟩ : ∃ b, manyB x0.row = b := ⟨_, rfl⟩
  have M0 := Lib.hid (many_any x0 n0 w g0 s0 m0 hm0)
  obtain ⟨m1, hm1⟩ : ∃ b, manyB x1.row = b := ⟨_, rfl⟩
  have M1 := Lib.hid (many_any x1 n1 w g1 s1 m1 hm1)
  cases m0
  · skip
    cases m1
    · skip
      have hn0 : n0 ≤ 60 := short_row g0 hm0
      have hn1 : n1 ≤ 60 := short_row g1 hm1
      have K0 := Lib.hid (Below.refl w.heap.size w)
      have Hx0_0 := Lib.hid g0
      have BLx0 := Lib.hid (show x0.row.length ≤ 60 by rw [g0.ln]; exact hn0)
      have Hx1_0 := Lib.hid g1
      have BLx1 := Lib.hid (show x1.row.length ≤ 60 by rw [g1.ln]; exact hn1)
      clear g0 s0 hm0 g1 s1 hm1
      go_enter Try.func3, Try.ntmps3
      go_wp2_with fail
      refine M0.out.mono ?_
      rintro r _ ⟨rfl, rfl⟩
      go_wp2_with fail
      refine M1.out.mono ?_
      rintro r _ ⟨rfl, rfl⟩
      go_wp2_with fail
      refine (union_any x0 x1 n0 n1 _ Hx0_0.out Hx1_0.out (by omega) (by omega)).mono ?_
      rintro r w1 ⟨z1, k1, rfl, e1, o1, q1⟩
      have Eu := Lib.hid e1
      have Hu_1 := Lib.hid o1.ok
      have BLu := Lib.hid (show (unionS x0.row x1.row).length ≤ 120 by have h0 := unionS_len x0.row x1.row; have h_0 := BLx0.out; have h_1 := BLx1.out; omega)
      have Bu : k1 ≤ 120 := by have h1 := Hu_1.out.ln; rw [Eu.out] at h1; have h2 := BLu.out; omega
      have Hx0_1 := Lib.hid (Hx0_0.out.next q1)
      clear Hx0_0
      have Hx1_1 := Lib.hid (Hx1_0.out.next q1)
      clear Hx1_0
      have K1 := Lib.hid (K0.out.trans (q1.mono K0.out.size))
      clear K0
      clear e1 o1 q1
      go_wp2_with fail
      refine (runion_any x0 x1 n0 n1 _ Hx0_1.out Hx1_1.out (by omega) (by omega)).mono ?_
      rintro r w2 ⟨z2, k2, rfl, e2, o2, q2⟩
      have Ev := Lib.hid e2
      have Hv_2 := Lib.hid o2.ok
      have BLv := Lib.hid (show (unionS x0.row x1.row).length ≤ 120 by have h0 := unionS_len x0.row x1.row; have h_0 := BLx0.out; have h_1 := BLx1.out; omega)
      have Bv : k2 ≤ 120 := by have h1 := Hv_2.out.ln; rw [Ev.out] at h1; have h2 := BLv.out; omega
      have Hx0_2 := Lib.hid (Hx0_1.out.next q2)
      clear Hx0_1
      have Hx1_2 := Lib.hid (Hx1_1.out.next q2)
      clear Hx1_1
      have Hu_2 := Lib.hid (Hu_1.out.next q2)
      clear Hu_1
      have K2 := Lib.hid (K1.out.trans (q2.mono K1.out.size))
      clear K1
      clear e2 o2 q2
      go_wp2_with fail
      refine (rsame_yes z1 z2 k1 k2 _ Hu_2.out Hv_2.out (Eu.out.trans Ev.out.symm)).mono ?_
      rintro r w3 ⟨rfl, q3⟩
      have Hx0_3 := Lib.hid (Hx0_2.out.next q3)
      clear Hx0_2
      have Hx1_3 := Lib.hid (Hx1_2.out.next q3)
      clear Hx1_2
      have Hu_3 := Lib.hid (Hu_2.out.next q3)
      clear Hu_2
      have Hv_3 := Lib.hid (Hv_2.out.next q3)
      clear Hv_2
      have K3 := Lib.hid (K2.out.trans (q3.mono K2.out.size))
      clear K2
      clear q3
      clear Hu_3 Bu
      clear Hv_3 Bv
      clear Eu Ev BLu BLv
      go_wp2_with fail
      refine (common_any x0 x1 n0 n1 _ Hx0_3.out Hx1_3.out (by omega) (by omega)).mono ?_
      rintro r w4 ⟨z4, k4, rfl, e4, o4, q4⟩
      have Eu := Lib.hid e4
      have Hu_4 := Lib.hid o4.ok
      have BLu := Lib.hid (show (pickS x0.row x1.row true).length ≤ 120 by have h0 := pickS_len x0.row x1.row true; have h_0 := BLx0.out; have h_1 := BLx1.out; omega)
      have Bu : k4 ≤ 120 := by have h1 := Hu_4.out.ln; rw [Eu.out] at h1; have h2 := BLu.out; omega
      have Hx0_4 := Lib.hid (Hx0_3.out.next q4)
      clear Hx0_3
      have Hx1_4 := Lib.hid (Hx1_3.out.next q4)
      clear Hx1_3
      have K4 := Lib.hid (K3.out.trans (q4.mono K3.out.size))
      clear K3
      clear e4 o4 q4
      go_wp2_with fail
      refine (rpick_any x0 x1 n0 n1 true _ Hx0_4.out Hx1_4.out (by omega) (by omega)).mono ?_
      rintro r w5 ⟨z5, k5, rfl, e5, o5, q5⟩
      have Ev := Lib.hid e5
      have Hv_5 := Lib.hid o5.ok
      have BLv := Lib.hid (show (pickS x0.row x1.row true).length ≤ 120 by have h0 := pickS_len x0.row x1.row true; have h_0 := BLx0.out; have h_1 := BLx1.out; omega)
      have Bv : k5 ≤ 120 := by have h1 := Hv_5.out.ln; rw [Ev.out] at h1; have h2 := BLv.out; omega
      have Hx0_5 := Lib.hid (Hx0_4.out.next q5)
      clear Hx0_4
      have Hx1_5 := Lib.hid (Hx1_4.out.next q5)
      clear Hx1_4
      have Hu_5 := Lib.hid (Hu_4.out.next q5)
      clear Hu_4
      have K5 := Lib.hid (K4.out.trans (q5.mono K4.out.size))
      clear K4
      clear e5 o5 q5
      go_wp2_with fail
      refine (rsame_yes z4 z5 k4 k5 _ Hu_5.out Hv_5.out (Eu.out.trans Ev.out.symm)).mono ?_
      rintro r w6 ⟨rfl, q6⟩
      have Hx0_6 := Lib.hid (Hx0_5.out.next q6)
      clear Hx0_5
      have Hx1_6 := Lib.hid (Hx1_5.out.next q6)
      clear Hx1_5
      have Hu_6 := Lib.hid (Hu_5.out.next q6)
      clear Hu_5
      have Hv_6 := Lib.hid (Hv_5.out.next q6)
      clear Hv_5
      have K6 := Lib.hid (K5.out.trans (q6.mono K5.out.size))
      clear K5
      clear q6
      clear Hu_6 Bu
      clear Hv_6 Bv
      clear Eu Ev BLu BLv
      go_wp2_with fail
      refine (minus_any x0 x1 n0 n1 _ Hx0_6.out Hx1_6.out (by omega) (by omega)).mono ?_
      rintro r w7 ⟨z7, k7, rfl, e7, o7, q7⟩
      have Eu := Lib.hid e7
      have Hu_7 := Lib.hid o7.ok
      have BLu := Lib.hid (show (pickS x0.row x1.row false).length ≤ 120 by have h0 := pickS_len x0.row x1.row false; have h_0 := BLx0.out; have h_1 := BLx1.out; omega)
      have Bu : k7 ≤ 120 := by have h1 := Hu_7.out.ln; rw [Eu.out] at h1; have h2 := BLu.out; omega
      have Hx0_7 := Lib.hid (Hx0_6.out.next q7)
      clear Hx0_6
      have Hx1_7 := Lib.hid (Hx1_6.out.next q7)
      clear Hx1_6
      have K7 := Lib.hid (K6.out.trans (q7.mono K6.out.size))
      clear K6
      clear e7 o7 q7
      go_wp2_with fail
      refine (rpick_any x0 x1 n0 n1 false _ Hx0_7.out Hx1_7.out (by omega) (by omega)).mono ?_
      rintro r w8 ⟨z8, k8, rfl, e8, o8, q8⟩
      have Ev := Lib.hid e8
      have Hv_8 := Lib.hid o8.ok
      have BLv := Lib.hid (show (pickS x0.row x1.row false).length ≤ 120 by have h0 := pickS_len x0.row x1.row false; have h_0 := BLx0.out; have h_1 := BLx1.out; omega)
      have Bv : k8 ≤ 120 := by have h1 := Hv_8.out.ln; rw [Ev.out] at h1; have h2 := BLv.out; omega
      have Hx0_8 := Lib.hid (Hx0_7.out.next q8)
      clear Hx0_7
      have Hx1_8 := Lib.hid (Hx1_7.out.next q8)
      clear Hx1_7
      have Hu_8 := Lib.hid (Hu_7.out.next q8)
      clear Hu_7
      have K8 := Lib.hid (K7.out.trans (q8.mono K7.out.size))
      clear K7
      clear e8 o8 q8
      go_wp2_with fail
      refine (rsame_yes z7 z8 k7 k8 _ Hu_8.out Hv_8.out (Eu.out.trans Ev.out.symm)).mono ?_
      rintro r w9 ⟨rfl, q9⟩
      have Hx0_9 := Lib.hid (Hx0_8.out.next q9)
      clear Hx0_8
      have Hx1_9 := Lib.hid (Hx1_8.out.next q9)
      clear Hx1_8
      have Hu_9 := Lib.hid (Hu_8.out.next q9)
      clear Hu_8
      have Hv_9 := Lib.hid (Hv_8.out.next q9)
      clear Hv_8
      have K9 := Lib.hid (K8.out.trans (q9.mono K8.out.size))
      clear K8
      clear q9
      clear Hu_9 Bu
      clear Hv_9 Bv
      clear Eu Ev BLu BLv
      go_wp2_with fail
      refine (awake_yes _).mono ?_
      rintro r w10 ⟨rfl, q10⟩
      have Hx0_10 := Lib.hid (Hx0_9.out.next q10)
      clear Hx0_9
      have Hx1_10 := Lib.hid (Hx1_9.out.next q10)
      clear Hx1_9
      have K10 := Lib.hid (K9.out.trans (q10.mono K9.out.size))
      clear K9
      clear q10
      go_wp2
      go_ret
      exact ⟨rfl, K10.out⟩
    · skip
      clear g0 s0 hm0 g1 s1 hm1
      go_enter Try.func3, Try.ntmps3
      go_wp2_with fail
      refine M0.out.mono ?_
      rintro r _ ⟨rfl, rfl⟩
      go_wp2_with fail
      refine M1.out.mono ?_
      rintro r _ ⟨rfl, rfl⟩
      go_wp2
      go_ret
      exact ⟨rfl, Below.refl _ _⟩
  · skip
    clear g0 s0 hm0 g1 s1 hm1
    go_enter Try.func3, Try.ntmps3
    go_wp2_with fail
    refine M0.out.mono ?_
    rintro r _ ⟨rfl, rfl⟩
    go_wp2
    go_ret
    exact ⟨rfl, Below.refl _ _⟩
end Go.Proofs.Ytfdgbegoaaihoaa

