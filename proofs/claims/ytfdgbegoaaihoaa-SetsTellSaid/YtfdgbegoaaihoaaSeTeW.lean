/- Sets: walk of SetsTell. -/
import Derived.Test.YtfdgbegoaaihoaaSeG
import Derived.Test.YtfdgbegoaaihoaaSeO
namespace Go.Proofs.Ytfdgbegoaaihoaa
open Go.RowKit
set_option linter.unusedVariables false
set_option linter.unusedSimpArgs false

set_option maxHeartbeats 6400000 in
theorem setsTell_walk (x0 : Nm) (n0 : Nat) (x1 : Nm) (n1 : Nat) (w : World) (g0 : NmOk w x0 n0) (s0 : ∀ s ∈ x0.row, s.length ≤ maxLen) (g1 : NmOk w x1 n1) (s1 : ∀ s ∈ x1.row, s.length ≤ maxLen) :
    Calls Try.prog 7 #[.slice x0.pa n0 x0.pc, .slice x1.pa n1 x1.pc] w fun r w' => r = .returned (.bool true) ∧ Below w.heap.size w w' := by
  obtain ⟨m0, hm0⟩ : ∃ b, manyB x0.row = b := ⟨_, rfl⟩
  have M0 := Lib.hid (many_any x0 n0 w g0 s0 m0 hm0)
  obtain ⟨m1, hm1⟩ : ∃ b, manyB x1.row = b := ⟨_, rfl⟩
  have M1 := Lib.hid (many_any x1 n1 w g1 s1 m1 hm1)
  cases m0
  · skip
    cases m1
    · skip
      have hn0 : n0 ≤ 60 := short_row g0 hm0
      have hn1 : n1 ≤ 60 := short_row g1 hm1
      have K0 := Lib.hid (Below.refl w.heap.size w)
      have Hx0_0 := Lib.hid g0
      have BLx0 := Lib.hid (show x0.row.length ≤ 60 by rw [g0.ln]; exact hn0)
      have Hx1_0 := Lib.hid g1
      have BLx1 := Lib.hid (show x1.row.length ≤ 60 by rw [g1.ln]; exact hn1)
      clear g0 s0 hm0 g1 s1 hm1
      go_enter Try.func7, Try.ntmps7
      go_wp2_with fail
      refine M0.out.mono ?_
      rintro r _ ⟨rfl, rfl⟩
      go_wp2_with fail
      refine M1.out.mono ?_
      rintro r _ ⟨rfl, rfl⟩
      obtain ⟨p, hp⟩ : ∃ b, withinS x0.row x1.row = b := ⟨_, rfl⟩
      obtain ⟨q, hq⟩ : ∃ b, withinS x1.row x0.row = b := ⟨_, rfl⟩
      have HP := Lib.hid hp
      have HQ := Lib.hid hq
      have HE := Lib.hid (show eqS x0.row x1.row = (p && q) by rw [eqS_within, hp, hq])
      clear hp hq
      cases p
      · rw [Bool.false_and] at HE
        go_wp2_with fail
        refine (same_bool x0 x1 n0 n1 HE.out _ Hx0_0.out Hx1_0.out (by omega) (by omega)).mono ?_
        rintro r w1 ⟨rfl, q1⟩
        have Hx0_1 := Lib.hid (Hx0_0.out.next q1)
        clear Hx0_0
        have Hx1_1 := Lib.hid (Hx1_0.out.next q1)
        clear Hx1_0
        have K1 := Lib.hid (K0.out.trans (q1.mono K0.out.size))
        clear K0
        clear q1
        go_wp2_with fail
        refine (rwithin_bool x0 x1 n0 n1 HP.out _ Hx0_1.out Hx1_1.out (by omega) (by omega)).mono ?_
        rintro r w2 ⟨rfl, q2⟩
        have Hx0_2 := Lib.hid (Hx0_1.out.next q2)
        clear Hx0_1
        have Hx1_2 := Lib.hid (Hx1_1.out.next q2)
        clear Hx1_1
        have K2 := Lib.hid (K1.out.trans (q2.mono K1.out.size))
        clear K1
        clear q2
        go_wp2_with fail
        refine (within_bool x0 x1 n0 n1 HP.out _ Hx0_2.out Hx1_2.out (by omega) (by omega)).mono ?_
        rintro r w3 ⟨rfl, q3⟩
        have Hx0_3 := Lib.hid (Hx0_2.out.next q3)
        clear Hx0_2
        have Hx1_3 := Lib.hid (Hx1_2.out.next q3)
        clear Hx1_2
        have K3 := Lib.hid (K2.out.trans (q3.mono K2.out.size))
        clear K2
        clear q3
        go_wp2_with fail
        refine (rwithin_bool x0 x1 n0 n1 HP.out _ Hx0_3.out Hx1_3.out (by omega) (by omega)).mono ?_
        rintro r w4 ⟨rfl, q4⟩
        have Hx0_4 := Lib.hid (Hx0_3.out.next q4)
        clear Hx0_3
        have Hx1_4 := Lib.hid (Hx1_3.out.next q4)
        clear Hx1_3
        have K4 := Lib.hid (K3.out.trans (q4.mono K3.out.size))
        clear K3
        clear q4
        go_wp2_with fail
        refine (awake_yes _).mono ?_
        rintro r w5 ⟨rfl, q5⟩
        have Hx0_5 := Lib.hid (Hx0_4.out.next q5)
        clear Hx0_4
        have Hx1_5 := Lib.hid (Hx1_4.out.next q5)
        clear Hx1_4
        have K5 := Lib.hid (K4.out.trans (q5.mono K4.out.size))
        clear K4
        clear q5
        go_wp2
        go_ret
        exact ⟨rfl, K5.out⟩
      · cases q
        · skip
          go_wp2_with fail
          refine (same_bool x0 x1 n0 n1 HE.out _ Hx0_0.out Hx1_0.out (by omega) (by omega)).mono ?_
          rintro r w1 ⟨rfl, q1⟩
          have Hx0_1 := Lib.hid (Hx0_0.out.next q1)
          clear Hx0_0
          have Hx1_1 := Lib.hid (Hx1_0.out.next q1)
          clear Hx1_0
          have K1 := Lib.hid (K0.out.trans (q1.mono K0.out.size))
          clear K0
          clear q1
          go_wp2_with fail
          refine (rwithin_bool x0 x1 n0 n1 HP.out _ Hx0_1.out Hx1_1.out (by omega) (by omega)).mono ?_
          rintro r w2 ⟨rfl, q2⟩
          have Hx0_2 := Lib.hid (Hx0_1.out.next q2)
          clear Hx0_1
          have Hx1_2 := Lib.hid (Hx1_1.out.next q2)
          clear Hx1_1
          have K2 := Lib.hid (K1.out.trans (q2.mono K1.out.size))
          clear K1
          clear q2
          go_wp2_with fail
          refine (rwithin_bool x1 x0 n1 n0 HQ.out _ Hx1_2.out Hx0_2.out (by omega) (by omega)).mono ?_
          rintro r w3 ⟨rfl, q3⟩
          have Hx0_3 := Lib.hid (Hx0_2.out.next q3)
          clear Hx0_2
          have Hx1_3 := Lib.hid (Hx1_2.out.next q3)
          clear Hx1_2
          have K3 := Lib.hid (K2.out.trans (q3.mono K2.out.size))
          clear K2
          clear q3
          go_wp2_with fail
          refine (within_bool x0 x1 n0 n1 HP.out _ Hx0_3.out Hx1_3.out (by omega) (by omega)).mono ?_
          rintro r w4 ⟨rfl, q4⟩
          have Hx0_4 := Lib.hid (Hx0_3.out.next q4)
          clear Hx0_3
          have Hx1_4 := Lib.hid (Hx1_3.out.next q4)
          clear Hx1_3
          have K4 := Lib.hid (K3.out.trans (q4.mono K3.out.size))
          clear K3
          clear q4
          go_wp2_with fail
          refine (rwithin_bool x0 x1 n0 n1 HP.out _ Hx0_4.out Hx1_4.out (by omega) (by omega)).mono ?_
          rintro r w5 ⟨rfl, q5⟩
          have Hx0_5 := Lib.hid (Hx0_4.out.next q5)
          clear Hx0_4
          have Hx1_5 := Lib.hid (Hx1_4.out.next q5)
          clear Hx1_4
          have K5 := Lib.hid (K4.out.trans (q5.mono K4.out.size))
          clear K4
          clear q5
          go_wp2_with fail
          refine (awake_yes _).mono ?_
          rintro r w6 ⟨rfl, q6⟩
          have Hx0_6 := Lib.hid (Hx0_5.out.next q6)
          clear Hx0_5
          have Hx1_6 := Lib.hid (Hx1_5.out.next q6)
          clear Hx1_5
          have K6 := Lib.hid (K5.out.trans (q6.mono K5.out.size))
          clear K5
          clear q6
          go_wp2
          go_ret
          exact ⟨rfl, K6.out⟩
        · skip
          go_wp2_with fail
          refine (same_bool x0 x1 n0 n1 HE.out _ Hx0_0.out Hx1_0.out (by omega) (by omega)).mono ?_
          rintro r w1 ⟨rfl, q1⟩
          have Hx0_1 := Lib.hid (Hx0_0.out.next q1)
          clear Hx0_0
          have Hx1_1 := Lib.hid (Hx1_0.out.next q1)
          clear Hx1_0
          have K1 := Lib.hid (K0.out.trans (q1.mono K0.out.size))
          clear K0
          clear q1
          go_wp2_with fail
          refine (rwithin_bool x0 x1 n0 n1 HP.out _ Hx0_1.out Hx1_1.out (by omega) (by omega)).mono ?_
          rintro r w2 ⟨rfl, q2⟩
          have Hx0_2 := Lib.hid (Hx0_1.out.next q2)
          clear Hx0_1
          have Hx1_2 := Lib.hid (Hx1_1.out.next q2)
          clear Hx1_1
          have K2 := Lib.hid (K1.out.trans (q2.mono K1.out.size))
          clear K1
          clear q2
          go_wp2_with fail
          refine (rwithin_bool x1 x0 n1 n0 HQ.out _ Hx1_2.out Hx0_2.out (by omega) (by omega)).mono ?_
          rintro r w3 ⟨rfl, q3⟩
          have Hx0_3 := Lib.hid (Hx0_2.out.next q3)
          clear Hx0_2
          have Hx1_3 := Lib.hid (Hx1_2.out.next q3)
          clear Hx1_2
          have K3 := Lib.hid (K2.out.trans (q3.mono K2.out.size))
          clear K2
          clear q3
          go_wp2_with fail
          refine (within_bool x0 x1 n0 n1 HP.out _ Hx0_3.out Hx1_3.out (by omega) (by omega)).mono ?_
          rintro r w4 ⟨rfl, q4⟩
          have Hx0_4 := Lib.hid (Hx0_3.out.next q4)
          clear Hx0_3
          have Hx1_4 := Lib.hid (Hx1_3.out.next q4)
          clear Hx1_3
          have K4 := Lib.hid (K3.out.trans (q4.mono K3.out.size))
          clear K3
          clear q4
          go_wp2_with fail
          refine (rwithin_bool x0 x1 n0 n1 HP.out _ Hx0_4.out Hx1_4.out (by omega) (by omega)).mono ?_
          rintro r w5 ⟨rfl, q5⟩
          have Hx0_5 := Lib.hid (Hx0_4.out.next q5)
          clear Hx0_4
          have Hx1_5 := Lib.hid (Hx1_4.out.next q5)
          clear Hx1_4
          have K5 := Lib.hid (K4.out.trans (q5.mono K4.out.size))
          clear K4
          clear q5
          go_wp2_with fail
          refine (awake_yes _).mono ?_
          rintro r w6 ⟨rfl, q6⟩
          have Hx0_6 := Lib.hid (Hx0_5.out.next q6)
          clear Hx0_5
          have Hx1_6 := Lib.hid (Hx1_5.out.next q6)
          clear Hx1_5
          have K6 := Lib.hid (K5.out.trans (q6.mono K5.out.size))
          clear K5
          clear q6
          go_wp2
          go_ret
          exact ⟨rfl, K6.out⟩
    · skip
      clear g0 s0 hm0 g1 s1 hm1
      go_enter Try.func7, Try.ntmps7
      go_wp2_with fail
      refine M0.out.mono ?_
      rintro r _ ⟨rfl, rfl⟩
      go_wp2_with fail
      refine M1.out.mono ?_
      rintro r _ ⟨rfl, rfl⟩
      go_wp2
      go_ret
      exact ⟨rfl, Below.refl _ _⟩
  · skip
    clear g0 s0 hm0 g1 s1 hm1
    go_enter Try.func7, Try.ntmps7
    go_wp2_with fail
    refine M0.out.mono ?_
    rintro r _ ⟨rfl, rfl⟩
    go_wp2
    go_ret
    exact ⟨rfl, Below.refl _ _⟩
end Go.Proofs.Ytfdgbegoaaihoaa

