/- Sets: walk of SetsLeast. -/
import Derived.Test.YtfdgbegoaaihoaaSeMaW
import Derived.Deep.DeepCutAuto
import Derived.Test.YtfdgbegoaaihoaaSeO
namespace Go.Proofs.Ytfdgbegoaaihoaa
open Go.RowKit
set_option linter.unusedVariables false
set_option linter.unusedSimpArgs false

theorem joinS_len (ad : Bool) (a : List Bs) (bd : Bool) (b : List Bs) : (joinS ad a bd b).2.length ≤ a.length + b.length := by
  unfold joinS
  cases ad <;> cases bd <;> simp only [Bool.false_and, Bool.true_and, Bool.and_true, Bool.and_false, Bool.false_eq_true, if_false, if_true]
  · have := pickS_len a b true; omega
  · have := setS_len a; omega
  · have := setS_len b; omega
  · simp
/-- the boxes of three states -/
structure Bx3 (W : World) (g : Nat) (b0 b1 b2 : Bool) (v0 v1 v2 : Value) : Prop where
  k0 : Blk W g 29 #[.bool b0, v0]
  k1 : Blk W (g + 1) 29 #[.bool b1, v1]
  k2 : Blk W (g + 1 + 1) 29 #[.bool b2, v2]
theorem Bx3.next {W W' : World} {g : Nat} {b0 b1 b2 : Bool} {v0 v1 v2 : Value} (h : Bx3 W g b0 b1 b2 v0 v1 v2) (hb : Below W.heap.size W W') : Bx3 W' g b0 b1 b2 v0 v1 v2 :=
  ⟨h.k0.below hb h.k0.lt, h.k1.below hb h.k1.lt, h.k2.below hb h.k2.lt⟩
set_option maxHeartbeats 6400000 in
theorem setsLeast_walk (b0 : Bool) (x0 : Nm) (n0 : Nat) (b1 : Bool) (x1 : Nm) (n1 : Nat) (b2 : Bool) (x2 : Nm) (n2 : Nat) (w : World) (g0 : NmOk w x0 n0) (s0 : ∀ s ∈ x0.row, s.length ≤ maxLen) (g1 : NmOk w x1 n1) (s1 : ∀ s ∈ x1.row, s.length ≤ maxLen) (g2 : NmOk w x2 n2) (s2 : ∀ s ∈ x2.row, s.length ≤ maxLen) :
    Calls Try.prog 5 #[.agg #[.bool b0, .slice x0.pa n0 x0.pc], .agg #[.bool b1, .slice x1.pa n1 x1.pc], .agg #[.bool b2, .slice x2.pa n2 x2.pc]] w fun r w' => r = .returned (.bool true) ∧ Below w.heap.size w w' := by
  obtain ⟨W0, hW0⟩ : ∃ W0, W0 = ((w.alloc (.cells #[.bool b0, .slice x0.pa n0 x0.pc] 29)).alloc (.cells #[.bool b1, .slice x1.pa n1 x1.pc] 29)).alloc (.cells #[.bool b2, .slice x2.pa n2 x2.pc] 29) := ⟨_, rfl⟩
  have hb0 : Below w.heap.size w W0 := by rw [hW0]; exact (((Below.refl _ _).alloc (Nat.le_refl _) _).alloc (by simp) _).alloc (by simp; omega) _
  have hx : Bx3 W0 w.heap.size b0 b1 b2 (.slice x0.pa n0 x0.pc) (.slice x1.pa n1 x1.pc) (.slice x2.pa n2 x2.pc) := by
    rw [hW0]
    exact ⟨((Blk.new w _ _).alloc _).alloc _, (blk_at (Blk.new (w.alloc _) _ _) (by simp)).alloc _, blk_at (Blk.new ((w.alloc _).alloc _) _ _) (by simp)⟩
  have c0 := bx0 hx.k0
  have c1 := bx1 hx.k0
  have c2 := bx0 hx.k1
  have c3 := bx1 hx.k1
  have c4 := bx0 hx.k2
  have c5 := bx1 hx.k2
  have HX := Lib.hid hx
  have KB := Lib.hid hb0
  have HW := Lib.hid hW0
  clear hx
  obtain ⟨m0, hm0⟩ : ∃ b, manyB x0.row = b := ⟨_, rfl⟩
  have M0 := Lib.hid (many_any x0 n0 W0 (g0.next hb0) s0 m0 hm0)
  obtain ⟨m1, hm1⟩ : ∃ b, manyB x1.row = b := ⟨_, rfl⟩
  have M1 := Lib.hid (many_any x1 n1 W0 (g1.next hb0) s1 m1 hm1)
  obtain ⟨m2, hm2⟩ : ∃ b, manyB x2.row = b := ⟨_, rfl⟩
  have M2 := Lib.hid (many_any x2 n2 W0 (g2.next hb0) s2 m2 hm2)
  cases m0
  · skip
    cases m1
    · skip
      cases m2
      · skip
        have hn0 : n0 ≤ 60 := short_row g0 hm0
        have hn1 : n1 ≤ 60 := short_row g1 hm1
        have hn2 : n2 ≤ 60 := short_row g2 hm2
        have Hx0_0 := Lib.hid (g0.next hb0)
        have BLx0 := Lib.hid (show x0.row.length ≤ 60 by rw [g0.ln]; exact hn0)
        have Hx1_0 := Lib.hid (g1.next hb0)
        have BLx1 := Lib.hid (show x1.row.length ≤ 60 by rw [g1.ln]; exact hn1)
        have Hx2_0 := Lib.hid (g2.next hb0)
        have BLx2 := Lib.hid (show x2.row.length ≤ 60 by rw [g2.ln]; exact hn2)
        clear g0 s0 hm0 g1 s1 hm1 g2 s2 hm2 hb0
        go_enter Try.func5, Try.ntmps5
        go_upto_region 1 with fail
        rw [← HW.out]
        clear hW0 HW
        go_wp2_with fail
        refine M0.out.mono ?_
        rintro r wq ⟨rfl, hwe⟩
        have hwe' := hwe.symm
        subst hwe'
        go_wp2_with fail
        refine M1.out.mono ?_
        rintro r wq ⟨rfl, hwe⟩
        have hwe' := hwe.symm
        subst hwe'
        go_wp2_with fail
        refine M2.out.mono ?_
        rintro r wq ⟨rfl, hwe⟩
        have hwe' := hwe.symm
        subst hwe'
        go_wp2_with fail
        refine (join_any b0 b1 x0 x1 n0 n1 _ Hx0_0.out Hx1_0.out (by omega) (by omega)).mono ?_
        rintro r w1 ⟨z, kz, rfl, ez, oz, q1⟩
        have EZ := Lib.hid ez
        have HZ := Lib.hid oz
        have BZ : kz ≤ 120 := by
          have h1 := oz.ln
          rw [ez] at h1
          have h2 := joinS_len b0 x0.row b1 x1.row
          have h3 := BLx0.out
          have h4 := BLx1.out
          omega
        clear ez oz
        obtain ⟨jd, hjd⟩ : ∃ d, (joinS b0 x0.row b1 x1.row).1 = d := ⟨_, rfl⟩
        have HJD := Lib.hid hjd
        rw [hjd]
        clear hjd
        obtain ⟨W1, hW1⟩ : ∃ W1, W1 = w1.alloc (.cells #[.bool jd, .slice z.pa kz z.pc] 29) := ⟨_, rfl⟩
        have q2 : Below _ _ W1 := q1.trans (show Below _ w1 W1 by rw [hW1]; exact (bel1 w1 _).mono q1.size)
        have HJ := Lib.hid (show Blk W1 w1.heap.size 29 #[.bool jd, .slice z.pa kz z.pc] by rw [hW1]; exact Blk.new _ _ _)
        have HZ1 := Lib.hid (show NmOk W1 z kz by rw [hW1]; exact HZ.out.next (bel1 _ _))
        have j0 := bx0 HJ.out
        have j1 := bx1 HJ.out
        have HW1 := Lib.hid hW1
        have Hx0_1 := Lib.hid (Hx0_0.out.next q2)
        clear Hx0_0
        have Hx1_1 := Lib.hid (Hx1_0.out.next q2)
        clear Hx1_0
        have Hx2_1 := Lib.hid (Hx2_0.out.next q2)
        clear Hx2_0
        have K1 := Lib.hid (KB.out.trans (q2.mono KB.out.size))
        clear KB
        have HX1 := Lib.hid (HX.out.next q2)
        clear c0 c1 c2 c3 c4 c5
        have c0 := bx0 HX1.out.k0
        have c1 := bx1 HX1.out.k0
        have c2 := bx0 HX1.out.k1
        have c3 := bx1 HX1.out.k1
        have c4 := bx0 HX1.out.k2
        have c5 := bx1 HX1.out.k2
        clear q1 q2 hW1 HZ
        go_upto_region 4 with fail
        rw [← HW1.out]
        clear HW1
        go_wp2_with fail
        refine (less_bool jd b0 z x0 kz n0 (b := true) (by rw [EZ.out, ← HJD.out]; exact join_less1 _ _ _ _) _ HZ1.out Hx0_1.out (by omega) (by omega)).mono ?_
        rintro r w2 ⟨rfl, q2⟩
        have Hx0_2 := Lib.hid (Hx0_1.out.next q2)
        clear Hx0_1
        have Hx1_2 := Lib.hid (Hx1_1.out.next q2)
        clear Hx1_1
        have Hx2_2 := Lib.hid (Hx2_1.out.next q2)
        clear Hx2_1
        have Hz_2 := Lib.hid (HZ1.out.next q2)
        clear HZ1
        have K2 := Lib.hid (K1.out.trans (q2.mono K1.out.size))
        clear K1
        have HX2 := Lib.hid (HX1.out.next q2)
        clear c0 c1 c2 c3 c4 c5
        have c0 := bx0 HX2.out.k0
        have c1 := bx1 HX2.out.k0
        have c2 := bx0 HX2.out.k1
        have c3 := bx1 HX2.out.k1
        have c4 := bx0 HX2.out.k2
        have c5 := bx1 HX2.out.k2
        have HJ2 := Lib.hid (Blk.below HJ.out q2 HJ.out.lt)
        clear j0 j1
        have j0 := bx0 HJ2.out
        have j1 := bx1 HJ2.out
        clear q2
        go_wp2_with fail
        refine (less_bool jd b1 z x1 kz n1 (b := true) (by rw [EZ.out, ← HJD.out]; exact join_less2 _ _ _ _) _ Hz_2.out Hx1_2.out (by omega) (by omega)).mono ?_
        rintro r w3 ⟨rfl, q3⟩
        have Hx0_3 := Lib.hid (Hx0_2.out.next q3)
        clear Hx0_2
        have Hx1_3 := Lib.hid (Hx1_2.out.next q3)
        clear Hx1_2
        have Hx2_3 := Lib.hid (Hx2_2.out.next q3)
        clear Hx2_2
        have Hz_3 := Lib.hid (Hz_2.out.next q3)
        clear Hz_2
        have K3 := Lib.hid (K2.out.trans (q3.mono K2.out.size))
        clear K2
        have HX3 := Lib.hid (HX2.out.next q3)
        clear c0 c1 c2 c3 c4 c5
        have c0 := bx0 HX3.out.k0
        have c1 := bx1 HX3.out.k0
        have c2 := bx0 HX3.out.k1
        have c3 := bx1 HX3.out.k1
        have c4 := bx0 HX3.out.k2
        have c5 := bx1 HX3.out.k2
        have HJ3 := Lib.hid (Blk.below HJ2.out q3 HJ2.out.lt)
        clear j0 j1
        have j0 := bx0 HJ3.out
        have j1 := bx1 HJ3.out
        clear q3
        obtain ⟨p, hp⟩ : ∃ p, lessS b2 x2.row b0 x0.row = p := ⟨_, rfl⟩
        obtain ⟨q, hq⟩ : ∃ q, lessS b2 x2.row b1 x1.row = q := ⟨_, rfl⟩
        have HP := Lib.hid hp
        have HQ := Lib.hid hq
        clear hp hq
        cases p
        · skip
          go_wp2_with fail
          refine (less_bool b2 b0 x2 x0 n2 n0 (b := false) HP.out _ Hx2_3.out Hx0_3.out (by omega) (by omega)).mono ?_
          rintro r w4 ⟨rfl, q4⟩
          have Hx0_4 := Lib.hid (Hx0_3.out.next q4)
          clear Hx0_3
          have Hx1_4 := Lib.hid (Hx1_3.out.next q4)
          clear Hx1_3
          have Hx2_4 := Lib.hid (Hx2_3.out.next q4)
          clear Hx2_3
          have Hz_4 := Lib.hid (Hz_3.out.next q4)
          clear Hz_3
          have K4 := Lib.hid (K3.out.trans (q4.mono K3.out.size))
          clear K3
          have HX4 := Lib.hid (HX3.out.next q4)
          clear c0 c1 c2 c3 c4 c5
          have c0 := bx0 HX4.out.k0
          have c1 := bx1 HX4.out.k0
          have c2 := bx0 HX4.out.k1
          have c3 := bx1 HX4.out.k1
          have c4 := bx0 HX4.out.k2
          have c5 := bx1 HX4.out.k2
          have HJ4 := Lib.hid (Blk.below HJ3.out q4 HJ3.out.lt)
          clear j0 j1
          have j0 := bx0 HJ4.out
          have j1 := bx1 HJ4.out
          clear q4
          go_wp2_with fail
          refine (less_bool b0 b0 x0 x0 n0 n0 (b := true) (less_self _ _) _ Hx0_4.out Hx0_4.out (by omega) (by omega)).mono ?_
          rintro r w5 ⟨rfl, q5⟩
          have Hx0_5 := Lib.hid (Hx0_4.out.next q5)
          clear Hx0_4
          have Hx1_5 := Lib.hid (Hx1_4.out.next q5)
          clear Hx1_4
          have Hx2_5 := Lib.hid (Hx2_4.out.next q5)
          clear Hx2_4
          have Hz_5 := Lib.hid (Hz_4.out.next q5)
          clear Hz_4
          have K5 := Lib.hid (K4.out.trans (q5.mono K4.out.size))
          clear K4
          have HX5 := Lib.hid (HX4.out.next q5)
          clear c0 c1 c2 c3 c4 c5
          have c0 := bx0 HX5.out.k0
          have c1 := bx1 HX5.out.k0
          have c2 := bx0 HX5.out.k1
          have c3 := bx1 HX5.out.k1
          have c4 := bx0 HX5.out.k2
          have c5 := bx1 HX5.out.k2
          have HJ5 := Lib.hid (Blk.below HJ4.out q5 HJ4.out.lt)
          clear j0 j1
          have j0 := bx0 HJ5.out
          have j1 := bx1 HJ5.out
          clear q5
          go_wp2_with fail
          refine (awake_yes _).mono ?_
          rintro r w6 ⟨rfl, q6⟩
          have Hx0_6 := Lib.hid (Hx0_5.out.next q6)
          clear Hx0_5
          have Hx1_6 := Lib.hid (Hx1_5.out.next q6)
          clear Hx1_5
          have Hx2_6 := Lib.hid (Hx2_5.out.next q6)
          clear Hx2_5
          have Hz_6 := Lib.hid (Hz_5.out.next q6)
          clear Hz_5
          have K6 := Lib.hid (K5.out.trans (q6.mono K5.out.size))
          clear K5
          have HX6 := Lib.hid (HX5.out.next q6)
          clear c0 c1 c2 c3 c4 c5
          have c0 := bx0 HX6.out.k0
          have c1 := bx1 HX6.out.k0
          have c2 := bx0 HX6.out.k1
          have c3 := bx1 HX6.out.k1
          have c4 := bx0 HX6.out.k2
          have c5 := bx1 HX6.out.k2
          have HJ6 := Lib.hid (Blk.below HJ5.out q6 HJ5.out.lt)
          clear j0 j1
          have j0 := bx0 HJ6.out
          have j1 := bx1 HJ6.out
          clear q6
          go_wp2
          go_ret
          exact ⟨rfl, K6.out⟩
        · cases q
          · skip
            go_wp2_with fail
            refine (less_bool b2 b0 x2 x0 n2 n0 (b := true) HP.out _ Hx2_3.out Hx0_3.out (by omega) (by omega)).mono ?_
            rintro r w4 ⟨rfl, q4⟩
            have Hx0_4 := Lib.hid (Hx0_3.out.next q4)
            clear Hx0_3
            have Hx1_4 := Lib.hid (Hx1_3.out.next q4)
            clear Hx1_3
            have Hx2_4 := Lib.hid (Hx2_3.out.next q4)
            clear Hx2_3
            have Hz_4 := Lib.hid (Hz_3.out.next q4)
            clear Hz_3
            have K4 := Lib.hid (K3.out.trans (q4.mono K3.out.size))
            clear K3
            have HX4 := Lib.hid (HX3.out.next q4)
            clear c0 c1 c2 c3 c4 c5
            have c0 := bx0 HX4.out.k0
            have c1 := bx1 HX4.out.k0
            have c2 := bx0 HX4.out.k1
            have c3 := bx1 HX4.out.k1
            have c4 := bx0 HX4.out.k2
            have c5 := bx1 HX4.out.k2
            have HJ4 := Lib.hid (Blk.below HJ3.out q4 HJ3.out.lt)
            clear j0 j1
            have j0 := bx0 HJ4.out
            have j1 := bx1 HJ4.out
            clear q4
            go_wp2_with fail
            refine (less_bool b2 b1 x2 x1 n2 n1 (b := false) HQ.out _ Hx2_4.out Hx1_4.out (by omega) (by omega)).mono ?_
            rintro r w5 ⟨rfl, q5⟩
            have Hx0_5 := Lib.hid (Hx0_4.out.next q5)
            clear Hx0_4
            have Hx1_5 := Lib.hid (Hx1_4.out.next q5)
            clear Hx1_4
            have Hx2_5 := Lib.hid (Hx2_4.out.next q5)
            clear Hx2_4
            have Hz_5 := Lib.hid (Hz_4.out.next q5)
            clear Hz_4
            have K5 := Lib.hid (K4.out.trans (q5.mono K4.out.size))
            clear K4
            have HX5 := Lib.hid (HX4.out.next q5)
            clear c0 c1 c2 c3 c4 c5
            have c0 := bx0 HX5.out.k0
            have c1 := bx1 HX5.out.k0
            have c2 := bx0 HX5.out.k1
            have c3 := bx1 HX5.out.k1
            have c4 := bx0 HX5.out.k2
            have c5 := bx1 HX5.out.k2
            have HJ5 := Lib.hid (Blk.below HJ4.out q5 HJ4.out.lt)
            clear j0 j1
            have j0 := bx0 HJ5.out
            have j1 := bx1 HJ5.out
            clear q5
            go_wp2_with fail
            refine (less_bool b0 b0 x0 x0 n0 n0 (b := true) (less_self _ _) _ Hx0_5.out Hx0_5.out (by omega) (by omega)).mono ?_
            rintro r w6 ⟨rfl, q6⟩
            have Hx0_6 := Lib.hid (Hx0_5.out.next q6)
            clear Hx0_5
            have Hx1_6 := Lib.hid (Hx1_5.out.next q6)
            clear Hx1_5
            have Hx2_6 := Lib.hid (Hx2_5.out.next q6)
            clear Hx2_5
            have Hz_6 := Lib.hid (Hz_5.out.next q6)
            clear Hz_5
            have K6 := Lib.hid (K5.out.trans (q6.mono K5.out.size))
            clear K5
            have HX6 := Lib.hid (HX5.out.next q6)
            clear c0 c1 c2 c3 c4 c5
            have c0 := bx0 HX6.out.k0
            have c1 := bx1 HX6.out.k0
            have c2 := bx0 HX6.out.k1
            have c3 := bx1 HX6.out.k1
            have c4 := bx0 HX6.out.k2
            have c5 := bx1 HX6.out.k2
            have HJ6 := Lib.hid (Blk.below HJ5.out q6 HJ5.out.lt)
            clear j0 j1
            have j0 := bx0 HJ6.out
            have j1 := bx1 HJ6.out
            clear q6
            go_wp2_with fail
            refine (awake_yes _).mono ?_
            rintro r w7 ⟨rfl, q7⟩
            have Hx0_7 := Lib.hid (Hx0_6.out.next q7)
            clear Hx0_6
            have Hx1_7 := Lib.hid (Hx1_6.out.next q7)
            clear Hx1_6
            have Hx2_7 := Lib.hid (Hx2_6.out.next q7)
            clear Hx2_6
            have Hz_7 := Lib.hid (Hz_6.out.next q7)
            clear Hz_6
            have K7 := Lib.hid (K6.out.trans (q7.mono K6.out.size))
            clear K6
            have HX7 := Lib.hid (HX6.out.next q7)
            clear c0 c1 c2 c3 c4 c5
            have c0 := bx0 HX7.out.k0
            have c1 := bx1 HX7.out.k0
            have c2 := bx0 HX7.out.k1
            have c3 := bx1 HX7.out.k1
            have c4 := bx0 HX7.out.k2
            have c5 := bx1 HX7.out.k2
            have HJ7 := Lib.hid (Blk.below HJ6.out q7 HJ6.out.lt)
            clear j0 j1
            have j0 := bx0 HJ7.out
            have j1 := bx1 HJ7.out
            clear q7
            go_wp2
            go_ret
            exact ⟨rfl, K7.out⟩
          · skip
            go_wp2_with fail
            refine (less_bool b2 b0 x2 x0 n2 n0 (b := true) HP.out _ Hx2_3.out Hx0_3.out (by omega) (by omega)).mono ?_
            rintro r w4 ⟨rfl, q4⟩
            have Hx0_4 := Lib.hid (Hx0_3.out.next q4)
            clear Hx0_3
            have Hx1_4 := Lib.hid (Hx1_3.out.next q4)
            clear Hx1_3
            have Hx2_4 := Lib.hid (Hx2_3.out.next q4)
            clear Hx2_3
            have Hz_4 := Lib.hid (Hz_3.out.next q4)
            clear Hz_3
            have K4 := Lib.hid (K3.out.trans (q4.mono K3.out.size))
            clear K3
            have HX4 := Lib.hid (HX3.out.next q4)
            clear c0 c1 c2 c3 c4 c5
            have c0 := bx0 HX4.out.k0
            have c1 := bx1 HX4.out.k0
            have c2 := bx0 HX4.out.k1
            have c3 := bx1 HX4.out.k1
            have c4 := bx0 HX4.out.k2
            have c5 := bx1 HX4.out.k2
            have HJ4 := Lib.hid (Blk.below HJ3.out q4 HJ3.out.lt)
            clear j0 j1
            have j0 := bx0 HJ4.out
            have j1 := bx1 HJ4.out
            clear q4
            go_wp2_with fail
            refine (less_bool b2 b1 x2 x1 n2 n1 (b := true) HQ.out _ Hx2_4.out Hx1_4.out (by omega) (by omega)).mono ?_
            rintro r w5 ⟨rfl, q5⟩
            have Hx0_5 := Lib.hid (Hx0_4.out.next q5)
            clear Hx0_4
            have Hx1_5 := Lib.hid (Hx1_4.out.next q5)
            clear Hx1_4
            have Hx2_5 := Lib.hid (Hx2_4.out.next q5)
            clear Hx2_4
            have Hz_5 := Lib.hid (Hz_4.out.next q5)
            clear Hz_4
            have K5 := Lib.hid (K4.out.trans (q5.mono K4.out.size))
            clear K4
            have HX5 := Lib.hid (HX4.out.next q5)
            clear c0 c1 c2 c3 c4 c5
            have c0 := bx0 HX5.out.k0
            have c1 := bx1 HX5.out.k0
            have c2 := bx0 HX5.out.k1
            have c3 := bx1 HX5.out.k1
            have c4 := bx0 HX5.out.k2
            have c5 := bx1 HX5.out.k2
            have HJ5 := Lib.hid (Blk.below HJ4.out q5 HJ4.out.lt)
            clear j0 j1
            have j0 := bx0 HJ5.out
            have j1 := bx1 HJ5.out
            clear q5
            go_wp2_with fail
            refine (less_bool b2 jd x2 z n2 kz (b := true) (by rw [EZ.out, ← HJD.out]; exact join_most HP.out HQ.out) _ Hx2_5.out Hz_5.out (by omega) (by omega)).mono ?_
            rintro r w6 ⟨rfl, q6⟩
            have Hx0_6 := Lib.hid (Hx0_5.out.next q6)
            clear Hx0_5
            have Hx1_6 := Lib.hid (Hx1_5.out.next q6)
            clear Hx1_5
            have Hx2_6 := Lib.hid (Hx2_5.out.next q6)
            clear Hx2_5
            have Hz_6 := Lib.hid (Hz_5.out.next q6)
            clear Hz_5
            have K6 := Lib.hid (K5.out.trans (q6.mono K5.out.size))
            clear K5
            have HX6 := Lib.hid (HX5.out.next q6)
            clear c0 c1 c2 c3 c4 c5
            have c0 := bx0 HX6.out.k0
            have c1 := bx1 HX6.out.k0
            have c2 := bx0 HX6.out.k1
            have c3 := bx1 HX6.out.k1
            have c4 := bx0 HX6.out.k2
            have c5 := bx1 HX6.out.k2
            have HJ6 := Lib.hid (Blk.below HJ5.out q6 HJ5.out.lt)
            clear j0 j1
            have j0 := bx0 HJ6.out
            have j1 := bx1 HJ6.out
            clear q6
            go_wp2_with fail
            refine (less_bool b0 b0 x0 x0 n0 n0 (b := true) (less_self _ _) _ Hx0_6.out Hx0_6.out (by omega) (by omega)).mono ?_
            rintro r w7 ⟨rfl, q7⟩
            have Hx0_7 := Lib.hid (Hx0_6.out.next q7)
            clear Hx0_6
            have Hx1_7 := Lib.hid (Hx1_6.out.next q7)
            clear Hx1_6
            have Hx2_7 := Lib.hid (Hx2_6.out.next q7)
            clear Hx2_6
            have Hz_7 := Lib.hid (Hz_6.out.next q7)
            clear Hz_6
            have K7 := Lib.hid (K6.out.trans (q7.mono K6.out.size))
            clear K6
            have HX7 := Lib.hid (HX6.out.next q7)
            clear c0 c1 c2 c3 c4 c5
            have c0 := bx0 HX7.out.k0
            have c1 := bx1 HX7.out.k0
            have c2 := bx0 HX7.out.k1
            have c3 := bx1 HX7.out.k1
            have c4 := bx0 HX7.out.k2
            have c5 := bx1 HX7.out.k2
            have HJ7 := Lib.hid (Blk.below HJ6.out q7 HJ6.out.lt)
            clear j0 j1
            have j0 := bx0 HJ7.out
            have j1 := bx1 HJ7.out
            clear q7
            go_wp2_with fail
            refine (awake_yes _).mono ?_
            rintro r w8 ⟨rfl, q8⟩
            have Hx0_8 := Lib.hid (Hx0_7.out.next q8)
            clear Hx0_7
            have Hx1_8 := Lib.hid (Hx1_7.out.next q8)
            clear Hx1_7
            have Hx2_8 := Lib.hid (Hx2_7.out.next q8)
            clear Hx2_7
            have Hz_8 := Lib.hid (Hz_7.out.next q8)
            clear Hz_7
            have K8 := Lib.hid (K7.out.trans (q8.mono K7.out.size))
            clear K7
            have HX8 := Lib.hid (HX7.out.next q8)
            clear c0 c1 c2 c3 c4 c5
            have c0 := bx0 HX8.out.k0
            have c1 := bx1 HX8.out.k0
            have c2 := bx0 HX8.out.k1
            have c3 := bx1 HX8.out.k1
            have c4 := bx0 HX8.out.k2
            have c5 := bx1 HX8.out.k2
            have HJ8 := Lib.hid (Blk.below HJ7.out q8 HJ7.out.lt)
            clear j0 j1
            have j0 := bx0 HJ8.out
            have j1 := bx1 HJ8.out
            clear q8
            go_wp2
            go_ret
            exact ⟨rfl, K8.out⟩
      · skip
        clear g0 s0 hm0 g1 s1 hm1 g2 s2 hm2 hb0
        go_enter Try.func5, Try.ntmps5
        go_upto_region 1 with fail
        rw [← HW.out]
        clear hW0 HW
        go_wp2_with fail
        refine M0.out.mono ?_
        rintro r wq ⟨rfl, hwe⟩
        have hwe' := hwe.symm
        subst hwe'
        go_wp2_with fail
        refine M1.out.mono ?_
        rintro r wq ⟨rfl, hwe⟩
        have hwe' := hwe.symm
        subst hwe'
        go_wp2_with fail
        refine M2.out.mono ?_
        rintro r wq ⟨rfl, hwe⟩
        have hwe' := hwe.symm
        subst hwe'
        go_wp2_with fail
        refine (awake_yes _).mono ?_
        rintro r w1 ⟨rfl, h1⟩
        have H1 := Lib.hid (KB.out.trans (h1.mono KB.out.size))
        clear h1
        go_wp2
        go_ret
        exact ⟨rfl, H1.out⟩
    · skip
      clear g0 s0 hm0 g1 s1 hm1 g2 s2 hm2 hb0
      go_enter Try.func5, Try.ntmps5
      go_upto_region 1 with fail
      rw [← HW.out]
      clear hW0 HW
      go_wp2_with fail
      refine M0.out.mono ?_
      rintro r wq ⟨rfl, hwe⟩
      have hwe' := hwe.symm
      subst hwe'
      go_wp2_with fail
      refine M1.out.mono ?_
      rintro r wq ⟨rfl, hwe⟩
      have hwe' := hwe.symm
      subst hwe'
      go_wp2_with fail
      refine (awake_yes _).mono ?_
      rintro r w1 ⟨rfl, h1⟩
      have H1 := Lib.hid (KB.out.trans (h1.mono KB.out.size))
      clear h1
      go_wp2
      go_ret
      exact ⟨rfl, H1.out⟩
  · skip
    clear g0 s0 hm0 g1 s1 hm1 g2 s2 hm2 hb0
    go_enter Try.func5, Try.ntmps5
    go_upto_region 1 with fail
    rw [← HW.out]
    clear hW0 HW
    go_wp2_with fail
    refine M0.out.mono ?_
    rintro r wq ⟨rfl, hwe⟩
    have hwe' := hwe.symm
    subst hwe'
    go_wp2_with fail
    refine (awake_yes _).mono ?_
    rintro r w1 ⟨rfl, h1⟩
    have H1 := Lib.hid (KB.out.trans (h1.mono KB.out.size))
    clear h1
    go_wp2
    go_ret
    exact ⟨rfl, H1.out⟩
end Go.Proofs.Ytfdgbegoaaihoaa
