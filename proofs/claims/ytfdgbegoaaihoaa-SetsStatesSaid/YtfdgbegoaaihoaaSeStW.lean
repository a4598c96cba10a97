/- Sets: walk of SetsStates. -/
import Derived.Test.YtfdgbegoaaihoaaSeMaW
import Derived.Deep.DeepCutAuto
import Derived.Test.YtfdgbegoaaihoaaSeO
namespace Go.Proofs.Ytfdgbegoaaihoaa
open Go.RowKit
set_option linter.unusedVariables false
set_option linter.unusedSimpArgs false

/-- the boxes of two states -/
structure Bx2 (W : World) (g : Nat) (b0 b1 : Bool) (v0 v1 : Value) : Prop where
  k0 : Blk W g 29 #[.bool b0, v0]
  k1 : Blk W (g + 1) 29 #[.bool b1, v1]
theorem Bx2.next {W W' : World} {g : Nat} {b0 b1 : Bool} {v0 v1 : Value} (h : Bx2 W g b0 b1 v0 v1) (hb : Below W.heap.size W W') : Bx2 W' g b0 b1 v0 v1 :=
  ⟨h.k0.below hb h.k0.lt, h.k1.below hb h.k1.lt⟩
set_option maxHeartbeats 6400000 in
theorem st_tt (x0 : Nm) (n0 : Nat) (x1 : Nm) (n1 : Nat) (w : World) (g0 : NmOk w x0 n0) (s0 : ∀ s ∈ x0.row, s.length ≤ maxLen) (g1 : NmOk w x1 n1) (s1 : ∀ s ∈ x1.row, s.length ≤ maxLen) :
    Calls Try.prog 4 #[.agg #[.bool true, .slice x0.pa n0 x0.pc], .agg #[.bool true, .slice x1.pa n1 x1.pc]] w fun r w' => r = .returned (.bool true) ∧ Below w.heap.size w w' := by
  obtain ⟨W0, hW0⟩ : ∃ W0, W0 = (w.alloc (.cells #[.bool true, .slice x0.pa n0 x0.pc] 29)).alloc (.cells #[.bool true, .slice x1.pa n1 x1.pc] 29) := ⟨_, rfl⟩
  have hb0 : Below w.heap.size w W0 := by rw [hW0]; exact bel2 _ _ _
  have hx : Bx2 W0 w.heap.size true true (.slice x0.pa n0 x0.pc) (.slice x1.pa n1 x1.pc) := by
    rw [hW0]
    exact ⟨(Blk.new w _ _).alloc _, blk_at (Blk.new (w.alloc _) _ _) (by simp)⟩
  have c0 := bx0 hx.k0
  have c1 := bx1 hx.k0
  have c2 := bx0 hx.k1
  have c3 := bx1 hx.k1
  have HX := Lib.hid hx
  have KB := Lib.hid hb0
  have HW := Lib.hid hW0
  clear hx
  obtain ⟨m0, hm0⟩ : ∃ b, manyB x0.row = b := ⟨_, rfl⟩
  have M0 := Lib.hid (many_any x0 n0 W0 (g0.next hb0) s0 m0 hm0)
  obtain ⟨m1, hm1⟩ : ∃ b, manyB x1.row = b := ⟨_, rfl⟩
  have M1 := Lib.hid (many_any x1 n1 W0 (g1.next hb0) s1 m1 hm1)
  cases m0
  · skip
    cases m1
    · skip
      have hn0 : n0 ≤ 60 := short_row g0 hm0
      have Hx0 := Lib.hid (g0.next hb0)
      have hn1 : n1 ≤ 60 := short_row g1 hm1
      have Hx1 := Lib.hid (g1.next hb0)
      clear g0 s0 hm0 g1 s1 hm1 hb0
      go_enter Try.func4, Try.ntmps4
      go_upto_region 1 with fail
      rw [← HW.out]
      clear hW0 HW
      go_wp2_with fail
      refine M0.out.mono ?_
      rintro r wq ⟨rfl, hwe⟩
      have hwe' := hwe.symm
      subst hwe'
      go_wp2_with fail
      refine M1.out.mono ?_
      rintro r wq ⟨rfl, hwe⟩
      have hwe' := hwe.symm
      subst hwe'
      go_wp2_with fail
      refine (join_any true true x0 x1 n0 n1 _ Hx0.out Hx1.out (by omega) (by omega)).mono ?_
      rintro r w1 ⟨z, kz, rfl, ez, oz, q1⟩
      have EZ := Lib.hid (show z.row = (joinS true x0.row true x1.row).2 from ez)
      have HZ := Lib.hid oz
      have Hy0 := Lib.hid (Hx0.out.next q1)
      have Hy1 := Lib.hid (Hx1.out.next q1)
      have HX1 := Lib.hid (HX.out.next q1)
      have K1 := Lib.hid (KB.out.trans (q1.mono KB.out.size))
      rw [show (joinS true x0.row true x1.row).1 = true from rfl]
      obtain ⟨W1, hW1⟩ : ∃ W1, W1 = (w1.alloc (.cells #[.bool true, .slice z.pa kz z.pc] 29)).alloc (.cells #[.bool false, .slice none 0 0] 29) := ⟨_, rfl⟩
      have b1 : Below w1.heap.size w1 W1 := by rw [hW1]; exact bel2 w1 _ _
      have hsz : W1.heap.size = w1.heap.size + 1 + 1 := by rw [hW1]; simp
      have HJ := Lib.hid (show Blk W1 w1.heap.size 29 #[.bool true, .slice z.pa kz z.pc] by rw [hW1]; exact (Blk.new _ _ _).alloc _)
      have HT := Lib.hid (show Blk W1 (w1.heap.size + 1) 29 #[.bool false, .slice none 0 0] by rw [hW1]; exact blk_at (Blk.new (w1.alloc _) _ _) (by simp))
      have HB1 := Lib.hid b1
      have HSZ := Lib.hid hsz
      have HW1 := Lib.hid hW1
      clear ez oz q1 c0 c1 c2 c3
      have c0 := bx0 (HX1.out.next b1).k0
      have c1 := bx1 (HX1.out.next b1).k0
      have c2 := bx0 (HX1.out.next b1).k1
      have c3 := bx1 (HX1.out.next b1).k1
      clear b1 hW1 hsz
      go_upto_region 6 with fail
      rw [← HW1.out]
      clear HW1
      have f0 := HT.out.frozen 0
      have z0 := HT.out.lt
      have t0 := bx0 HT.out
      go_upto_region 12 with fail
      obtain ⟨W2, hW2⟩ : ∃ W2, W2 = W1.setCell ⟨w1.heap.size + 1, 0, none⟩ (.bool true) := ⟨_, rfl⟩
      rw [← hW2]
      have bj : Below (w1.heap.size + 1) W1 W2 := by rw [hW2]; exact (Below.refl _ _).setCell (p := ⟨w1.heap.size + 1, 0, none⟩) (Nat.le_refl _) _
      have HT2 := Lib.hid (show Blk W2 (w1.heap.size + 1) 29 #[.bool true, .slice none 0 0] by rw [hW2]; exact HT.out.set_ 0 (.bool true))
      clear f0 z0 t0
      have bw : Below w1.heap.size w1 W2 := HB1.out.trans (bj.mono (Nat.le_succ _))
      have HJ2 := Lib.hid (HJ.out.below bj (Nat.lt_succ_self _))
      have H0 := Lib.hid (Hy0.out.next bw)
      have H1 := Lib.hid (Hy1.out.next bw)
      have HZ2 := Lib.hid (HZ.out.next bw)
      have HX2 := Lib.hid (HX1.out.next bw)
      have K2 := Lib.hid (K1.out.trans (bw.mono K1.out.size))
      try clear c0 c1 c2 c3
      have c0 := bx0 HX2.out.k0
      have c1 := bx1 HX2.out.k0
      have c2 := bx0 HX2.out.k1
      have c3 := bx1 HX2.out.k1
      have j0 := bx0 HJ2.out
      have j1 := bx1 HJ2.out
      have t0 := bx0 HT2.out
      have t1 := bx1 HT2.out
      clear hW2 bj bw
      go_wp2_with fail
      refine (rsame_yes z ⟨none, 0, []⟩ kz 0 _ HZ2.out ⟨Rd.nil _ _ _ _ _, rfl, Nat.le_refl _, Nat.zero_le _⟩ EZ.out).mono ?_
      rintro r w3_ ⟨rfl, q⟩
      have H0_3 := Lib.hid (H0.out.next q)
      have H1_3 := Lib.hid (H1.out.next q)
      have HZ_3 := Lib.hid (HZ2.out.next q)
      have HX_3 := Lib.hid (HX2.out.next q)
      have HJ_3 := Lib.hid (Blk.below HJ2.out q HJ2.out.lt)
      have HT_3 := Lib.hid (Blk.below HT2.out q HT2.out.lt)
      have K_3 := Lib.hid (K2.out.trans (q.mono K2.out.size))
      clear c0 c1 c2 c3 j0 j1 t0 t1 q
      have c0 := bx0 HX_3.out.k0
      have c1 := bx1 HX_3.out.k0
      have c2 := bx0 HX_3.out.k1
      have c3 := bx1 HX_3.out.k1
      have j0 := bx0 HJ_3.out
      have j1 := bx1 HJ_3.out
      have t0 := bx0 HT_3.out
      have t1 := bx1 HT_3.out
      go_wp2_with fail
      refine (less_bool true true x0 x1 n0 n1 (b := true) (show lessS true x0.row true x1.row = true from by simp [lessS]) _ H0_3.out H1_3.out (by omega) (by omega)).mono ?_
      rintro r w4_ ⟨rfl, q⟩
      have H0_4 := Lib.hid (H0_3.out.next q)
      have H1_4 := Lib.hid (H1_3.out.next q)
      have HZ_4 := Lib.hid (HZ_3.out.next q)
      have HX_4 := Lib.hid (HX_3.out.next q)
      have HJ_4 := Lib.hid (Blk.below HJ_3.out q HJ_3.out.lt)
      have HT_4 := Lib.hid (Blk.below HT_3.out q HT_3.out.lt)
      have K_4 := Lib.hid (K_3.out.trans (q.mono K_3.out.size))
      clear c0 c1 c2 c3 j0 j1 t0 t1 q
      have c0 := bx0 HX_4.out.k0
      have c1 := bx1 HX_4.out.k0
      have c2 := bx0 HX_4.out.k1
      have c3 := bx1 HX_4.out.k1
      have j0 := bx0 HJ_4.out
      have j1 := bx1 HJ_4.out
      have t0 := bx0 HT_4.out
      have t1 := bx1 HT_4.out
      go_wp2_with fail
      refine (awake_yes _).mono ?_
      rintro r w5_ ⟨rfl, q⟩
      have H0_5 := Lib.hid (H0_4.out.next q)
      have H1_5 := Lib.hid (H1_4.out.next q)
      have HZ_5 := Lib.hid (HZ_4.out.next q)
      have HX_5 := Lib.hid (HX_4.out.next q)
      have HJ_5 := Lib.hid (Blk.below HJ_4.out q HJ_4.out.lt)
      have HT_5 := Lib.hid (Blk.below HT_4.out q HT_4.out.lt)
      have K_5 := Lib.hid (K_4.out.trans (q.mono K_4.out.size))
      clear c0 c1 c2 c3 j0 j1 t0 t1 q
      have c0 := bx0 HX_5.out.k0
      have c1 := bx1 HX_5.out.k0
      have c2 := bx0 HX_5.out.k1
      have c3 := bx1 HX_5.out.k1
      have j0 := bx0 HJ_5.out
      have j1 := bx1 HJ_5.out
      have t0 := bx0 HT_5.out
      have t1 := bx1 HT_5.out
      go_wp2
      go_ret
      exact ⟨rfl, K_5.out⟩
    · skip
      clear g0 s0 hm0 g1 s1 hm1 hb0
      go_enter Try.func4, Try.ntmps4
      go_upto_region 1 with fail
      rw [← HW.out]
      clear hW0 HW
      go_wp2_with fail
      refine M0.out.mono ?_
      rintro r wq ⟨rfl, hwe⟩
      have hwe' := hwe.symm
      subst hwe'
      go_wp2_with fail
      refine M1.out.mono ?_
      rintro r wq ⟨rfl, hwe⟩
      have hwe' := hwe.symm
      subst hwe'
      go_wp2
      go_ret
      exact ⟨rfl, KB.out⟩
  · skip
    clear g0 s0 hm0 g1 s1 hm1 hb0
    go_enter Try.func4, Try.ntmps4
    go_upto_region 1 with fail
    rw [← HW.out]
    clear hW0 HW
    go_wp2_with fail
    refine M0.out.mono ?_
    rintro r wq ⟨rfl, hwe⟩
    have hwe' := hwe.symm
    subst hwe'
    go_wp2
    go_ret
    exact ⟨rfl, KB.out⟩
set_option maxHeartbeats 6400000 in
theorem st_tf (x0 : Nm) (n0 : Nat) (x1 : Nm) (n1 : Nat) (w : World) (g0 : NmOk w x0 n0) (s0 : ∀ s ∈ x0.row, s.length ≤ maxLen) (g1 : NmOk w x1 n1) (s1 : ∀ s ∈ x1.row, s.length ≤ maxLen) :
    Calls Try.prog 4 #[.agg #[.bool true, .slice x0.pa n0 x0.pc], .agg #[.bool false, .slice x1.pa n1 x1.pc]] w fun r w' => r = .returned (.bool true) ∧ Below w.heap.size w w' := by
  obtain ⟨W0, hW0⟩ : ∃ W0, W0 = (w.alloc (.cells #[.bool true, .slice x0.pa n0 x0.pc] 29)).alloc (.cells #[.bool false, .slice x1.pa n1 x1.pc] 29) := ⟨_, rfl⟩
  have hb0 : Below w.heap.size w W0 := by rw [hW0]; exact bel2 _ _ _
  have hx : Bx2 W0 w.heap.size true false (.slice x0.pa n0 x0.pc) (.slice x1.pa n1 x1.pc) := by
    rw [hW0]
    exact ⟨(Blk.new w _ _).alloc _, blk_at (Blk.new (w.alloc _) _ _) (by simp)⟩
  have c0 := bx0 hx.k0
  have c1 := bx1 hx.k0
  have c2 := bx0 hx.k1
  have c3 := bx1 hx.k1
  have HX := Lib.hid hx
  have KB := Lib.hid hb0
  have HW := Lib.hid hW0
  clear hx
  obtain ⟨m0, hm0⟩ : ∃ b, manyB x0.row = b := ⟨_, rfl⟩
  have M0 := Lib.hid (many_any x0 n0 W0 (g0.next hb0) s0 m0 hm0)
  obtain ⟨m1, hm1⟩ : ∃ b, manyB x1.row = b := ⟨_, rfl⟩
  have M1 := Lib.hid (many_any x1 n1 W0 (g1.next hb0) s1 m1 hm1)
  cases m0
  · skip
    cases m1
    · skip
      have hn0 : n0 ≤ 60 := short_row g0 hm0
      have Hx0 := Lib.hid (g0.next hb0)
      have hn1 : n1 ≤ 60 := short_row g1 hm1
      have Hx1 := Lib.hid (g1.next hb0)
      clear g0 s0 hm0 g1 s1 hm1 hb0
      go_enter Try.func4, Try.ntmps4
      go_upto_region 1 with fail
      rw [← HW.out]
      clear hW0 HW
      go_wp2_with fail
      refine M0.out.mono ?_
      rintro r wq ⟨rfl, hwe⟩
      have hwe' := hwe.symm
      subst hwe'
      go_wp2_with fail
      refine M1.out.mono ?_
      rintro r wq ⟨rfl, hwe⟩
      have hwe' := hwe.symm
      subst hwe'
      go_wp2_with fail
      refine (join_any true false x0 x1 n0 n1 _ Hx0.out Hx1.out (by omega) (by omega)).mono ?_
      rintro r w1 ⟨z, kz, rfl, ez, oz, q1⟩
      have EZ := Lib.hid (show z.row = (joinS true x0.row false x1.row).2 from ez)
      have HZ := Lib.hid oz
      have Hy0 := Lib.hid (Hx0.out.next q1)
      have Hy1 := Lib.hid (Hx1.out.next q1)
      have HX1 := Lib.hid (HX.out.next q1)
      have K1 := Lib.hid (KB.out.trans (q1.mono KB.out.size))
      rw [show (joinS true x0.row false x1.row).1 = false from rfl]
      obtain ⟨W1, hW1⟩ : ∃ W1, W1 = (w1.alloc (.cells #[.bool false, .slice z.pa kz z.pc] 29)).alloc (.cells #[.bool false, .slice none 0 0] 29) := ⟨_, rfl⟩
      have b1 : Below w1.heap.size w1 W1 := by rw [hW1]; exact bel2 w1 _ _
      have hsz : W1.heap.size = w1.heap.size + 1 + 1 := by rw [hW1]; simp
      have HJ := Lib.hid (show Blk W1 w1.heap.size 29 #[.bool false, .slice z.pa kz z.pc] by rw [hW1]; exact (Blk.new _ _ _).alloc _)
      have HT := Lib.hid (show Blk W1 (w1.heap.size + 1) 29 #[.bool false, .slice none 0 0] by rw [hW1]; exact blk_at (Blk.new (w1.alloc _) _ _) (by simp))
      have HB1 := Lib.hid b1
      have HSZ := Lib.hid hsz
      have HW1 := Lib.hid hW1
      clear ez oz q1 c0 c1 c2 c3
      have c0 := bx0 (HX1.out.next b1).k0
      have c1 := bx1 (HX1.out.next b1).k0
      have c2 := bx0 (HX1.out.next b1).k1
      have c3 := bx1 (HX1.out.next b1).k1
      clear b1 hW1 hsz
      go_upto_region 6 with fail
      rw [← HW1.out]
      clear HW1
      have hx0 := Hy0.out.next HB1.out
      have hx1 := Hy1.out.next HB1.out
      have HC := Lib.hid (rof_any x1 n1 W1 hx1 (by omega))
      clear hx0 hx1
      go_wp2_with fail
      refine HC.out.mono ?_
      rintro r w2 ⟨v, nv, rfl, ev, ov, q2⟩
      have EV := Lib.hid ev
      have HVo := Lib.hid ov
      have hsz2 : w1.heap.size + 1 < W1.heap.size := by have := HSZ.out; omega
      have HTa := Lib.hid (HT.out.below q2 HT.out.lt)
      have f1 := HTa.out.frozen 1
      have z0 := HTa.out.lt
      have t1 := bx1 HTa.out
      have HQ2 := Lib.hid q2
      clear ev ov q2 HC c0 c1 c2 c3
      go_upto_region 12 with fail
      obtain ⟨W2, hW2⟩ : ∃ W2, W2 = w2.setCell ⟨w1.heap.size + 1, 1, none⟩ (.slice v.pa nv v.pc) := ⟨_, rfl⟩
      rw [← hW2]
      have bj : Below (w1.heap.size + 1) W1 W2 := by rw [hW2]; exact (HQ2.out.mono (show w1.heap.size + 1 ≤ W1.heap.size by omega)).setCell (p := ⟨w1.heap.size + 1, 1, none⟩) (Nat.le_refl _) _
      have HT2 := Lib.hid (show Blk W2 (w1.heap.size + 1) 29 #[.bool false, .slice v.pa nv v.pc] by rw [hW2]; exact HTa.out.set_ 1 (.slice v.pa nv v.pc))
      have HV2 := Lib.hid (show NmOk W2 v nv by rw [hW2]; exact NmOwn.ok (B := W1.heap.size) ⟨own_far2 HVo.out.own hsz2 _, HVo.out.ln⟩)
      clear f1 z0 t1 hsz2
      have bw : Below w1.heap.size w1 W2 := HB1.out.trans (bj.mono (Nat.le_succ _))
      have HJ2 := Lib.hid (HJ.out.below bj (Nat.lt_succ_self _))
      have H0 := Lib.hid (Hy0.out.next bw)
      have H1 := Lib.hid (Hy1.out.next bw)
      have HZ2 := Lib.hid (HZ.out.next bw)
      have HX2 := Lib.hid (HX1.out.next bw)
      have K2 := Lib.hid (K1.out.trans (bw.mono K1.out.size))
      try clear c0 c1 c2 c3
      have c0 := bx0 HX2.out.k0
      have c1 := bx1 HX2.out.k0
      have c2 := bx0 HX2.out.k1
      have c3 := bx1 HX2.out.k1
      have j0 := bx0 HJ2.out
      have j1 := bx1 HJ2.out
      have t0 := bx0 HT2.out
      have t1 := bx1 HT2.out
      clear hW2 bj bw
      go_wp2_with fail
      refine (rsame_yes z v kz nv _ HZ2.out HV2.out (EZ.out.trans EV.out.symm)).mono ?_
      rintro r w3_ ⟨rfl, q⟩
      have H0_3 := Lib.hid (H0.out.next q)
      have H1_3 := Lib.hid (H1.out.next q)
      have HZ_3 := Lib.hid (HZ2.out.next q)
      have HX_3 := Lib.hid (HX2.out.next q)
      have HV_3 := Lib.hid (HV2.out.next q)
      have HJ_3 := Lib.hid (Blk.below HJ2.out q HJ2.out.lt)
      have HT_3 := Lib.hid (Blk.below HT2.out q HT2.out.lt)
      have K_3 := Lib.hid (K2.out.trans (q.mono K2.out.size))
      clear c0 c1 c2 c3 j0 j1 t0 t1 q
      have c0 := bx0 HX_3.out.k0
      have c1 := bx1 HX_3.out.k0
      have c2 := bx0 HX_3.out.k1
      have c3 := bx1 HX_3.out.k1
      have j0 := bx0 HJ_3.out
      have j1 := bx1 HJ_3.out
      have t0 := bx0 HT_3.out
      have t1 := bx1 HT_3.out
      go_wp2_with fail
      refine (less_bool true false x0 x1 n0 n1 (b := false) (show lessS true x0.row false x1.row = false from by simp [lessS]) _ H0_3.out H1_3.out (by omega) (by omega)).mono ?_
      rintro r w4_ ⟨rfl, q⟩
      have H0_4 := Lib.hid (H0_3.out.next q)
      have H1_4 := Lib.hid (H1_3.out.next q)
      have HZ_4 := Lib.hid (HZ_3.out.next q)
      have HX_4 := Lib.hid (HX_3.out.next q)
      have HV_4 := Lib.hid (HV_3.out.next q)
      have HJ_4 := Lib.hid (Blk.below HJ_3.out q HJ_3.out.lt)
      have HT_4 := Lib.hid (Blk.below HT_3.out q HT_3.out.lt)
      have K_4 := Lib.hid (K_3.out.trans (q.mono K_3.out.size))
      clear c0 c1 c2 c3 j0 j1 t0 t1 q
      have c0 := bx0 HX_4.out.k0
      have c1 := bx1 HX_4.out.k0
      have c2 := bx0 HX_4.out.k1
      have c3 := bx1 HX_4.out.k1
      have j0 := bx0 HJ_4.out
      have j1 := bx1 HJ_4.out
      have t0 := bx0 HT_4.out
      have t1 := bx1 HT_4.out
      go_wp2_with fail
      refine (awake_yes _).mono ?_
      rintro r w5_ ⟨rfl, q⟩
      have H0_5 := Lib.hid (H0_4.out.next q)
      have H1_5 := Lib.hid (H1_4.out.next q)
      have HZ_5 := Lib.hid (HZ_4.out.next q)
      have HX_5 := Lib.hid (HX_4.out.next q)
      have HV_5 := Lib.hid (HV_4.out.next q)
      have HJ_5 := Lib.hid (Blk.below HJ_4.out q HJ_4.out.lt)
      have HT_5 := Lib.hid (Blk.below HT_4.out q HT_4.out.lt)
      have K_5 := Lib.hid (K_4.out.trans (q.mono K_4.out.size))
      clear c0 c1 c2 c3 j0 j1 t0 t1 q
      have c0 := bx0 HX_5.out.k0
      have c1 := bx1 HX_5.out.k0
      have c2 := bx0 HX_5.out.k1
      have c3 := bx1 HX_5.out.k1
      have j0 := bx0 HJ_5.out
      have j1 := bx1 HJ_5.out
      have t0 := bx0 HT_5.out
      have t1 := bx1 HT_5.out
      go_wp2
      go_ret
      exact ⟨rfl, K_5.out⟩
    · skip
      clear g0 s0 hm0 g1 s1 hm1 hb0
      go_enter Try.func4, Try.ntmps4
      go_upto_region 1 with fail
      rw [← HW.out]
      clear hW0 HW
      go_wp2_with fail
      refine M0.out.mono ?_
      rintro r wq ⟨rfl, hwe⟩
      have hwe' := hwe.symm
      subst hwe'
      go_wp2_with fail
      refine M1.out.mono ?_
      rintro r wq ⟨rfl, hwe⟩
      have hwe' := hwe.symm
      subst hwe'
      go_wp2
      go_ret
      exact ⟨rfl, KB.out⟩
  · skip
    clear g0 s0 hm0 g1 s1 hm1 hb0
    go_enter Try.func4, Try.ntmps4
    go_upto_region 1 with fail
    rw [← HW.out]
    clear hW0 HW
    go_wp2_with fail
    refine M0.out.mono ?_
    rintro r wq ⟨rfl, hwe⟩
    have hwe' := hwe.symm
    subst hwe'
    go_wp2
    go_ret
    exact ⟨rfl, KB.out⟩
set_option maxHeartbeats 6400000 in
theorem st_ft (x0 : Nm) (n0 : Nat) (x1 : Nm) (n1 : Nat) (w : World) (g0 : NmOk w x0 n0) (s0 : ∀ s ∈ x0.row, s.length ≤ maxLen) (g1 : NmOk w x1 n1) (s1 : ∀ s ∈ x1.row, s.length ≤ maxLen) :
    Calls Try.prog 4 #[.agg #[.bool false, .slice x0.pa n0 x0.pc], .agg #[.bool true, .slice x1.pa n1 x1.pc]] w fun r w' => r = .returned (.bool true) ∧ Below w.heap.size w w' := by
  obtain ⟨W0, hW0⟩ : ∃ W0, W0 = (w.alloc (.cells #[.bool false, .slice x0.pa n0 x0.pc] 29)).alloc (.cells #[.bool true, .slice x1.pa n1 x1.pc] 29) := ⟨_, rfl⟩
  have hb0 : Below w.heap.size w W0 := by rw [hW0]; exact bel2 _ _ _
  have hx : Bx2 W0 w.heap.size false true (.slice x0.pa n0 x0.pc) (.slice x1.pa n1 x1.pc) := by
    rw [hW0]
    exact ⟨(Blk.new w _ _).alloc _, blk_at (Blk.new (w.alloc _) _ _) (by simp)⟩
  have c0 := bx0 hx.k0
  have c1 := bx1 hx.k0
  have c2 := bx0 hx.k1
  have c3 := bx1 hx.k1
  have HX := Lib.hid hx
  have KB := Lib.hid hb0
  have HW := Lib.hid hW0
  clear hx
  obtain ⟨m0, hm0⟩ : ∃ b, manyB x0.row = b := ⟨_, rfl⟩
  have M0 := Lib.hid (many_any x0 n0 W0 (g0.next hb0) s0 m0 hm0)
  obtain ⟨m1, hm1⟩ : ∃ b, manyB x1.row = b := ⟨_, rfl⟩
  have M1 := Lib.hid (many_any x1 n1 W0 (g1.next hb0) s1 m1 hm1)
  cases m0
  · skip
    cases m1
    · skip
      have hn0 : n0 ≤ 60 := short_row g0 hm0
      have Hx0 := Lib.hid (g0.next hb0)
      have hn1 : n1 ≤ 60 := short_row g1 hm1
      have Hx1 := Lib.hid (g1.next hb0)
      clear g0 s0 hm0 g1 s1 hm1 hb0
      go_enter Try.func4, Try.ntmps4
      go_upto_region 1 with fail
      rw [← HW.out]
      clear hW0 HW
      go_wp2_with fail
      refine M0.out.mono ?_
      rintro r wq ⟨rfl, hwe⟩
      have hwe' := hwe.symm
      subst hwe'
      go_wp2_with fail
      refine M1.out.mono ?_
      rintro r wq ⟨rfl, hwe⟩
      have hwe' := hwe.symm
      subst hwe'
      go_wp2_with fail
      refine (join_any false true x0 x1 n0 n1 _ Hx0.out Hx1.out (by omega) (by omega)).mono ?_
      rintro r w1 ⟨z, kz, rfl, ez, oz, q1⟩
      have EZ := Lib.hid (show z.row = (joinS false x0.row true x1.row).2 from ez)
      have HZ := Lib.hid oz
      have Hy0 := Lib.hid (Hx0.out.next q1)
      have Hy1 := Lib.hid (Hx1.out.next q1)
      have HX1 := Lib.hid (HX.out.next q1)
      have K1 := Lib.hid (KB.out.trans (q1.mono KB.out.size))
      rw [show (joinS false x0.row true x1.row).1 = false from rfl]
      obtain ⟨W1, hW1⟩ : ∃ W1, W1 = (w1.alloc (.cells #[.bool false, .slice z.pa kz z.pc] 29)).alloc (.cells #[.bool false, .slice none 0 0] 29) := ⟨_, rfl⟩
      have b1 : Below w1.heap.size w1 W1 := by rw [hW1]; exact bel2 w1 _ _
      have hsz : W1.heap.size = w1.heap.size + 1 + 1 := by rw [hW1]; simp
      have HJ := Lib.hid (show Blk W1 w1.heap.size 29 #[.bool false, .slice z.pa kz z.pc] by rw [hW1]; exact (Blk.new _ _ _).alloc _)
      have HT := Lib.hid (show Blk W1 (w1.heap.size + 1) 29 #[.bool false, .slice none 0 0] by rw [hW1]; exact blk_at (Blk.new (w1.alloc _) _ _) (by simp))
      have HB1 := Lib.hid b1
      have HSZ := Lib.hid hsz
      have HW1 := Lib.hid hW1
      clear ez oz q1 c0 c1 c2 c3
      have c0 := bx0 (HX1.out.next b1).k0
      have c1 := bx1 (HX1.out.next b1).k0
      have c2 := bx0 (HX1.out.next b1).k1
      have c3 := bx1 (HX1.out.next b1).k1
      clear b1 hW1 hsz
      go_upto_region 6 with fail
      rw [← HW1.out]
      clear HW1
      have hx0 := Hy0.out.next HB1.out
      have hx1 := Hy1.out.next HB1.out
      have HC := Lib.hid (rof_any x0 n0 W1 hx0 (by omega))
      clear hx0 hx1
      go_wp2_with fail
      refine HC.out.mono ?_
      rintro r w2 ⟨v, nv, rfl, ev, ov, q2⟩
      have EV := Lib.hid ev
      have HVo := Lib.hid ov
      have hsz2 : w1.heap.size + 1 < W1.heap.size := by have := HSZ.out; omega
      have HTa := Lib.hid (HT.out.below q2 HT.out.lt)
      have f1 := HTa.out.frozen 1
      have z0 := HTa.out.lt
      have t1 := bx1 HTa.out
      have HQ2 := Lib.hid q2
      clear ev ov q2 HC c0 c1 c2 c3
      go_upto_region 12 with fail
      obtain ⟨W2, hW2⟩ : ∃ W2, W2 = w2.setCell ⟨w1.heap.size + 1, 1, none⟩ (.slice v.pa nv v.pc) := ⟨_, rfl⟩
      rw [← hW2]
      have bj : Below (w1.heap.size + 1) W1 W2 := by rw [hW2]; exact (HQ2.out.mono (show w1.heap.size + 1 ≤ W1.heap.size by omega)).setCell (p := ⟨w1.heap.size + 1, 1, none⟩) (Nat.le_refl _) _
      have HT2 := Lib.hid (show Blk W2 (w1.heap.size + 1) 29 #[.bool false, .slice v.pa nv v.pc] by rw [hW2]; exact HTa.out.set_ 1 (.slice v.pa nv v.pc))
      have HV2 := Lib.hid (show NmOk W2 v nv by rw [hW2]; exact NmOwn.ok (B := W1.heap.size) ⟨own_far2 HVo.out.own hsz2 _, HVo.out.ln⟩)
      clear f1 z0 t1 hsz2
      have bw : Below w1.heap.size w1 W2 := HB1.out.trans (bj.mono (Nat.le_succ _))
      have HJ2 := Lib.hid (HJ.out.below bj (Nat.lt_succ_self _))
      have H0 := Lib.hid (Hy0.out.next bw)
      have H1 := Lib.hid (Hy1.out.next bw)
      have HZ2 := Lib.hid (HZ.out.next bw)
      have HX2 := Lib.hid (HX1.out.next bw)
      have K2 := Lib.hid (K1.out.trans (bw.mono K1.out.size))
      try clear c0 c1 c2 c3
      have c0 := bx0 HX2.out.k0
      have c1 := bx1 HX2.out.k0
      have c2 := bx0 HX2.out.k1
      have c3 := bx1 HX2.out.k1
      have j0 := bx0 HJ2.out
      have j1 := bx1 HJ2.out
      have t0 := bx0 HT2.out
      have t1 := bx1 HT2.out
      clear hW2 bj bw
      go_wp2_with fail
      refine (rsame_yes z v kz nv _ HZ2.out HV2.out (EZ.out.trans EV.out.symm)).mono ?_
      rintro r w3_ ⟨rfl, q⟩
      have H0_3 := Lib.hid (H0.out.next q)
      have H1_3 := Lib.hid (H1.out.next q)
      have HZ_3 := Lib.hid (HZ2.out.next q)
      have HX_3 := Lib.hid (HX2.out.next q)
      have HV_3 := Lib.hid (HV2.out.next q)
      have HJ_3 := Lib.hid (Blk.below HJ2.out q HJ2.out.lt)
      have HT_3 := Lib.hid (Blk.below HT2.out q HT2.out.lt)
      have K_3 := Lib.hid (K2.out.trans (q.mono K2.out.size))
      clear c0 c1 c2 c3 j0 j1 t0 t1 q
      have c0 := bx0 HX_3.out.k0
      have c1 := bx1 HX_3.out.k0
      have c2 := bx0 HX_3.out.k1
      have c3 := bx1 HX_3.out.k1
      have j0 := bx0 HJ_3.out
      have j1 := bx1 HJ_3.out
      have t0 := bx0 HT_3.out
      have t1 := bx1 HT_3.out
      go_wp2_with fail
      refine (less_bool false true x0 x1 n0 n1 (b := true) (show lessS false x0.row true x1.row = true from by simp [lessS]) _ H0_3.out H1_3.out (by omega) (by omega)).mono ?_
      rintro r w4_ ⟨rfl, q⟩
      have H0_4 := Lib.hid (H0_3.out.next q)
      have H1_4 := Lib.hid (H1_3.out.next q)
      have HZ_4 := Lib.hid (HZ_3.out.next q)
      have HX_4 := Lib.hid (HX_3.out.next q)
      have HV_4 := Lib.hid (HV_3.out.next q)
      have HJ_4 := Lib.hid (Blk.below HJ_3.out q HJ_3.out.lt)
      have HT_4 := Lib.hid (Blk.below HT_3.out q HT_3.out.lt)
      have K_4 := Lib.hid (K_3.out.trans (q.mono K_3.out.size))
      clear c0 c1 c2 c3 j0 j1 t0 t1 q
      have c0 := bx0 HX_4.out.k0
      have c1 := bx1 HX_4.out.k0
      have c2 := bx0 HX_4.out.k1
      have c3 := bx1 HX_4.out.k1
      have j0 := bx0 HJ_4.out
      have j1 := bx1 HJ_4.out
      have t0 := bx0 HT_4.out
      have t1 := bx1 HT_4.out
      go_wp2_with fail
      refine (awake_yes _).mono ?_
      rintro r w5_ ⟨rfl, q⟩
      have H0_5 := Lib.hid (H0_4.out.next q)
      have H1_5 := Lib.hid (H1_4.out.next q)
      have HZ_5 := Lib.hid (HZ_4.out.next q)
      have HX_5 := Lib.hid (HX_4.out.next q)
      have HV_5 := Lib.hid (HV_4.out.next q)
      have HJ_5 := Lib.hid (Blk.below HJ_4.out q HJ_4.out.lt)
      have HT_5 := Lib.hid (Blk.below HT_4.out q HT_4.out.lt)
      have K_5 := Lib.hid (K_4.out.trans (q.mono K_4.out.size))
      clear c0 c1 c2 c3 j0 j1 t0 t1 q
      have c0 := bx0 HX_5.out.k0
      have c1 := bx1 HX_5.out.k0
      have c2 := bx0 HX_5.out.k1
      have c3 := bx1 HX_5.out.k1
      have j0 := bx0 HJ_5.out
      have j1 := bx1 HJ_5.out
      have t0 := bx0 HT_5.out
      have t1 := bx1 HT_5.out
      go_wp2
      go_ret
      exact ⟨rfl, K_5.out⟩
    · skip
      clear g0 s0 hm0 g1 s1 hm1 hb0
      go_enter Try.func4, Try.ntmps4
      go_upto_region 1 with fail
      rw [← HW.out]
      clear hW0 HW
      go_wp2_with fail
      refine M0.out.mono ?_
      rintro r wq ⟨rfl, hwe⟩
      have hwe' := hwe.symm
      subst hwe'
      go_wp2_with fail
      refine M1.out.mono ?_
      rintro r wq ⟨rfl, hwe⟩
      have hwe' := hwe.symm
      subst hwe'
      go_wp2
      go_ret
      exact ⟨rfl, KB.out⟩
  · skip
    clear g0 s0 hm0 g1 s1 hm1 hb0
    go_enter Try.func4, Try.ntmps4
    go_upto_region 1 with fail
    rw [← HW.out]
    clear hW0 HW
    go_wp2_with fail
    refine M0.out.mono ?_
    rintro r wq ⟨rfl, hwe⟩
    have hwe' := hwe.symm
    subst hwe'
    go_wp2
    go_ret
    exact ⟨rfl, KB.out⟩
set_option maxHeartbeats 6400000 in
theorem st_ff (x0 : Nm) (n0 : Nat) (x1 : Nm) (n1 : Nat) (w : World) (g0 : NmOk w x0 n0) (s0 : ∀ s ∈ x0.row, s.length ≤ maxLen) (g1 : NmOk w x1 n1) (s1 : ∀ s ∈ x1.row, s.length ≤ maxLen) :
    Calls Try.prog 4 #[.agg #[.bool false, .slice x0.pa n0 x0.pc], .agg #[.bool false, .slice x1.pa n1 x1.pc]] w fun r w' => r = .returned (.bool true) ∧ Below w.heap.size w w' := by
  obtain ⟨W0, hW0⟩ : ∃ W0, W0 = (w.alloc (.cells #[.bool false, .slice x0.pa n0 x0.pc] 29)).alloc (.cells #[.bool false, .slice x1.pa n1 x1.pc] 29) := ⟨_, rfl⟩
  have hb0 : Below w.heap.size w W0 := by rw [hW0]; exact bel2 _ _ _
  have hx : Bx2 W0 w.heap.size false false (.slice x0.pa n0 x0.pc) (.slice x1.pa n1 x1.pc) := by
    rw [hW0]
    exact ⟨(Blk.new w _ _).alloc _, blk_at (Blk.new (w.alloc _) _ _) (by simp)⟩
  have c0 := bx0 hx.k0
  have c1 := bx1 hx.k0
  have c2 := bx0 hx.k1
  have c3 := bx1 hx.k1
  have HX := Lib.hid hx
  have KB := Lib.hid hb0
  have HW := Lib.hid hW0
  clear hx
  obtain ⟨m0, hm0⟩ : ∃ b, manyB x0.row = b := ⟨_, rfl⟩
  have M0 := Lib.hid (many_any x0 n0 W0 (g0.next hb0) s0 m0 hm0)
  obtain ⟨m1, hm1⟩ : ∃ b, manyB x1.row = b := ⟨_, rfl⟩
  have M1 := Lib.hid (many_any x1 n1 W0 (g1.next hb0) s1 m1 hm1)
  cases m0
  · skip
    cases m1
    · skip
      have hn0 : n0 ≤ 60 := short_row g0 hm0
      have Hx0 := Lib.hid (g0.next hb0)
      have hn1 : n1 ≤ 60 := short_row g1 hm1
      have Hx1 := Lib.hid (g1.next hb0)
      clear g0 s0 hm0 g1 s1 hm1 hb0
      go_enter Try.func4, Try.ntmps4
      go_upto_region 1 with fail
      rw [← HW.out]
      clear hW0 HW
      go_wp2_with fail
      refine M0.out.mono ?_
      rintro r wq ⟨rfl, hwe⟩
      have hwe' := hwe.symm
      subst hwe'
      go_wp2_with fail
      refine M1.out.mono ?_
      rintro r wq ⟨rfl, hwe⟩
      have hwe' := hwe.symm
      subst hwe'
      go_wp2_with fail
      refine (join_any false false x0 x1 n0 n1 _ Hx0.out Hx1.out (by omega) (by omega)).mono ?_
      rintro r w1 ⟨z, kz, rfl, ez, oz, q1⟩
      have EZ := Lib.hid (show z.row = (joinS false x0.row false x1.row).2 from ez)
      have HZ := Lib.hid oz
      have Hy0 := Lib.hid (Hx0.out.next q1)
      have Hy1 := Lib.hid (Hx1.out.next q1)
      have HX1 := Lib.hid (HX.out.next q1)
      have K1 := Lib.hid (KB.out.trans (q1.mono KB.out.size))
      rw [show (joinS false x0.row false x1.row).1 = false from rfl]
      obtain ⟨W1, hW1⟩ : ∃ W1, W1 = (w1.alloc (.cells #[.bool false, .slice z.pa kz z.pc] 29)).alloc (.cells #[.bool false, .slice none 0 0] 29) := ⟨_, rfl⟩
      have b1 : Below w1.heap.size w1 W1 := by rw [hW1]; exact bel2 w1 _ _
      have hsz : W1.heap.size = w1.heap.size + 1 + 1 := by rw [hW1]; simp
      have HJ := Lib.hid (show Blk W1 w1.heap.size 29 #[.bool false, .slice z.pa kz z.pc] by rw [hW1]; exact (Blk.new _ _ _).alloc _)
      have HT := Lib.hid (show Blk W1 (w1.heap.size + 1) 29 #[.bool false, .slice none 0 0] by rw [hW1]; exact blk_at (Blk.new (w1.alloc _) _ _) (by simp))
      have HB1 := Lib.hid b1
      have HSZ := Lib.hid hsz
      have HW1 := Lib.hid hW1
      clear ez oz q1 c0 c1 c2 c3
      have c0 := bx0 (HX1.out.next b1).k0
      have c1 := bx1 (HX1.out.next b1).k0
      have c2 := bx0 (HX1.out.next b1).k1
      have c3 := bx1 (HX1.out.next b1).k1
      clear b1 hW1 hsz
      go_upto_region 6 with fail
      rw [← HW1.out]
      clear HW1
      have hx0 := Hy0.out.next HB1.out
      have hx1 := Hy1.out.next HB1.out
      have HC := Lib.hid (rpick_any x0 x1 n0 n1 true W1 hx0 hx1 (by omega) (by omega))
      clear hx0 hx1
      go_wp2_with fail
      refine HC.out.mono ?_
      rintro r w2 ⟨v, nv, rfl, ev, ov, q2⟩
      have EV := Lib.hid ev
      have HVo := Lib.hid ov
      have hsz2 : w1.heap.size + 1 < W1.heap.size := by have := HSZ.out; omega
      have HTa := Lib.hid (HT.out.below q2 HT.out.lt)
      have f1 := HTa.out.frozen 1
      have z0 := HTa.out.lt
      have t1 := bx1 HTa.out
      have HQ2 := Lib.hid q2
      clear ev ov q2 HC c0 c1 c2 c3
      go_upto_region 12 with fail
      obtain ⟨W2, hW2⟩ : ∃ W2, W2 = w2.setCell ⟨w1.heap.size + 1, 1, none⟩ (.slice v.pa nv v.pc) := ⟨_, rfl⟩
      rw [← hW2]
      have bj : Below (w1.heap.size + 1) W1 W2 := by rw [hW2]; exact (HQ2.out.mono (show w1.heap.size + 1 ≤ W1.heap.size by omega)).setCell (p := ⟨w1.heap.size + 1, 1, none⟩) (Nat.le_refl _) _
      have HT2 := Lib.hid (show Blk W2 (w1.heap.size + 1) 29 #[.bool false, .slice v.pa nv v.pc] by rw [hW2]; exact HTa.out.set_ 1 (.slice v.pa nv v.pc))
      have HV2 := Lib.hid (show NmOk W2 v nv by rw [hW2]; exact NmOwn.ok (B := W1.heap.size) ⟨own_far2 HVo.out.own hsz2 _, HVo.out.ln⟩)
      clear f1 z0 t1 hsz2
      have bw : Below w1.heap.size w1 W2 := HB1.out.trans (bj.mono (Nat.le_succ _))
      have HJ2 := Lib.hid (HJ.out.below bj (Nat.lt_succ_self _))
      have H0 := Lib.hid (Hy0.out.next bw)
      have H1 := Lib.hid (Hy1.out.next bw)
      have HZ2 := Lib.hid (HZ.out.next bw)
      have HX2 := Lib.hid (HX1.out.next bw)
      have K2 := Lib.hid (K1.out.trans (bw.mono K1.out.size))
      try clear c0 c1 c2 c3
      have c0 := bx0 HX2.out.k0
      have c1 := bx1 HX2.out.k0
      have c2 := bx0 HX2.out.k1
      have c3 := bx1 HX2.out.k1
      have j0 := bx0 HJ2.out
      have j1 := bx1 HJ2.out
      have t0 := bx0 HT2.out
      have t1 := bx1 HT2.out
      clear hW2 bj bw
      obtain ⟨p, hp⟩ : ∃ p, withinS x0.row x1.row = p := ⟨_, rfl⟩
      have HP := Lib.hid hp
      clear hp
      go_wp2_with fail
      refine (rwithin_bool x0 x1 n0 n1 HP.out _ H0.out H1.out (by omega) (by omega)).mono ?_
      rintro r w3_ ⟨rfl, q⟩
      have H0_3 := Lib.hid (H0.out.next q)
      have H1_3 := Lib.hid (H1.out.next q)
      have HZ_3 := Lib.hid (HZ2.out.next q)
      have HX_3 := Lib.hid (HX2.out.next q)
      have HV_3 := Lib.hid (HV2.out.next q)
      have HJ_3 := Lib.hid (Blk.below HJ2.out q HJ2.out.lt)
      have HT_3 := Lib.hid (Blk.below HT2.out q HT2.out.lt)
      have K_3 := Lib.hid (K2.out.trans (q.mono K2.out.size))
      clear c0 c1 c2 c3 j0 j1 t0 t1 q
      have c0 := bx0 HX_3.out.k0
      have c1 := bx1 HX_3.out.k0
      have c2 := bx0 HX_3.out.k1
      have c3 := bx1 HX_3.out.k1
      have j0 := bx0 HJ_3.out
      have j1 := bx1 HJ_3.out
      have t0 := bx0 HT_3.out
      have t1 := bx1 HT_3.out
      go_wp2_with fail
      refine (rsame_yes z v kz nv _ HZ_3.out HV_3.out (EZ.out.trans EV.out.symm)).mono ?_
      rintro r w4_ ⟨rfl, q⟩
      have H0_4 := Lib.hid (H0_3.out.next q)
      have H1_4 := Lib.hid (H1_3.out.next q)
      have HZ_4 := Lib.hid (HZ_3.out.next q)
      have HX_4 := Lib.hid (HX_3.out.next q)
      have HV_4 := Lib.hid (HV_3.out.next q)
      have HJ_4 := Lib.hid (Blk.below HJ_3.out q HJ_3.out.lt)
      have HT_4 := Lib.hid (Blk.below HT_3.out q HT_3.out.lt)
      have K_4 := Lib.hid (K_3.out.trans (q.mono K_3.out.size))
      clear c0 c1 c2 c3 j0 j1 t0 t1 q
      have c0 := bx0 HX_4.out.k0
      have c1 := bx1 HX_4.out.k0
      have c2 := bx0 HX_4.out.k1
      have c3 := bx1 HX_4.out.k1
      have j0 := bx0 HJ_4.out
      have j1 := bx1 HJ_4.out
      have t0 := bx0 HT_4.out
      have t1 := bx1 HT_4.out
      go_wp2_with fail
      refine (less_bool false false x0 x1 n0 n1 (b := p) (show lessS false x0.row false x1.row = p from by rw [← HP.out]; rfl) _ H0_4.out H1_4.out (by omega) (by omega)).mono ?_
      rintro r w5_ ⟨rfl, q⟩
      have H0_5 := Lib.hid (H0_4.out.next q)
      have H1_5 := Lib.hid (H1_4.out.next q)
      have HZ_5 := Lib.hid (HZ_4.out.next q)
      have HX_5 := Lib.hid (HX_4.out.next q)
      have HV_5 := Lib.hid (HV_4.out.next q)
      have HJ_5 := Lib.hid (Blk.below HJ_4.out q HJ_4.out.lt)
      have HT_5 := Lib.hid (Blk.below HT_4.out q HT_4.out.lt)
      have K_5 := Lib.hid (K_4.out.trans (q.mono K_4.out.size))
      clear c0 c1 c2 c3 j0 j1 t0 t1 q
      have c0 := bx0 HX_5.out.k0
      have c1 := bx1 HX_5.out.k0
      have c2 := bx0 HX_5.out.k1
      have c3 := bx1 HX_5.out.k1
      have j0 := bx0 HJ_5.out
      have j1 := bx1 HJ_5.out
      have t0 := bx0 HT_5.out
      have t1 := bx1 HT_5.out
      have hpp : (p == p) = true := by simp
      go_wp2_with fail
      refine (awake_yes _).mono ?_
      rintro r w6_ ⟨rfl, q⟩
      have H0_6 := Lib.hid (H0_5.out.next q)
      have H1_6 := Lib.hid (H1_5.out.next q)
      have HZ_6 := Lib.hid (HZ_5.out.next q)
      have HX_6 := Lib.hid (HX_5.out.next q)
      have HV_6 := Lib.hid (HV_5.out.next q)
      have HJ_6 := Lib.hid (Blk.below HJ_5.out q HJ_5.out.lt)
      have HT_6 := Lib.hid (Blk.below HT_5.out q HT_5.out.lt)
      have K_6 := Lib.hid (K_5.out.trans (q.mono K_5.out.size))
      clear c0 c1 c2 c3 j0 j1 t0 t1 q
      have c0 := bx0 HX_6.out.k0
      have c1 := bx1 HX_6.out.k0
      have c2 := bx0 HX_6.out.k1
      have c3 := bx1 HX_6.out.k1
      have j0 := bx0 HJ_6.out
      have j1 := bx1 HJ_6.out
      have t0 := bx0 HT_6.out
      have t1 := bx1 HT_6.out
      go_wp2
      go_ret
      exact ⟨rfl, K_6.out⟩
    · skip
      clear g0 s0 hm0 g1 s1 hm1 hb0
      go_enter Try.func4, Try.ntmps4
      go_upto_region 1 with fail
      rw [← HW.out]
      clear hW0 HW
      go_wp2_with fail
      refine M0.out.mono ?_
      rintro r wq ⟨rfl, hwe⟩
      have hwe' := hwe.symm
      subst hwe'
      go_wp2_with fail
      refine M1.out.mono ?_
      rintro r wq ⟨rfl, hwe⟩
      have hwe' := hwe.symm
      subst hwe'
      go_wp2
      go_ret
      exact ⟨rfl, KB.out⟩
  · skip
    clear g0 s0 hm0 g1 s1 hm1 hb0
    go_enter Try.func4, Try.ntmps4
    go_upto_region 1 with fail
    rw [← HW.out]
    clear hW0 HW
    go_wp2_with fail
    refine M0.out.mono ?_
    rintro r wq ⟨rfl, hwe⟩
    have hwe' := hwe.symm
    subst hwe'
    go_wp2
    go_ret
    exact ⟨rfl, KB.out⟩
theorem setsStates_walk (b0 : Bool) (x0 : Nm) (n0 : Nat) (b1 : Bool) (x1 : Nm) (n1 : Nat) (w : World) (g0 : NmOk w x0 n0) (s0 : ∀ s ∈ x0.row, s.length ≤ maxLen) (g1 : NmOk w x1 n1) (s1 : ∀ s ∈ x1.row, s.length ≤ maxLen) :
    Calls Try.prog 4 #[.agg #[.bool b0, .slice x0.pa n0 x0.pc], .agg #[.bool b1, .slice x1.pa n1 x1.pc]] w fun r w' => r = .returned (.bool true) ∧ Below w.heap.size w w' := by
  cases b0 <;> cases b1
  · exact st_ff x0 n0 x1 n1 w g0 s0 g1 s1
  · exact st_ft x0 n0 x1 n1 w g0 s0 g1 s1
  · exact st_tf x0 n0 x1 n1 w g0 s0 g1 s1
  · exact st_tt x0 n0 x1 n1 w g0 s0 g1 s1

end Go.Proofs.Ytfdgbegoaaihoaa
