/- ClockForm: the walk. -/
import Derived.Test.YtfhainobolfleaaL
import Derived.Test.YtfhainobolfleaaI
namespace Go.Proofs.Ytfhainobolfleaa
open Go.RowKit
set_option linter.unusedVariables false

set_option maxRecDepth 100000 in
set_option maxHeartbeats 6400000 in
theorem clockFormWalk (A0 : Option Addr) (c0 : Nat) (L0 : List Int) (A1 : Option Addr) (c1 : Nat) (L1 : List Int) (a2 : Int) (a3 : Int) (w : World) (rd0 : Rd w w.heap.size 1 intC A0 L0) (g0 : ∀ x ∈ L0, (Lit.int .i64 x).wf = true) (hc0 : L0.length ≤ c0) (hm0 : c0 ≤ maxLen) (rd1 : Rd w w.heap.size 1 intC A1 L1) (g1 : ∀ x ∈ L1, (Lit.int .i64 x).wf = true) (hc1 : L1.length ≤ c1) (hm1 : c1 ≤ maxLen) (i2 : (Lit.int .i64 a2).wf = true) (i3 : (Lit.int .i64 a3).wf = true) :
    Calls Try.prog 9 #[.slice A0 L0.length c0, .slice A1 L1.length c1, .int .i64 a2, .int .i64 a3] w fun e w' => e = .returned (.bool true) ∧ Below w.heap.size w w' := by
  obtain ⟨i0, hi0, hz0, hz1, hz2⟩ := info_parts info3
  have HBD := Lib.hid (atZ_bd g0 a2).1
  obtain ⟨l0, hl0⟩ : ∃ l, l = L0.length := ⟨_, rfl⟩
  rw [← hl0]
  have H0 := Lib.hid hl0
  have r0 := rd0
  obtain ⟨l1, hl1⟩ : ∃ l, l = L1.length := ⟨_, rfl⟩
  rw [← hl1]
  have H1 := Lib.hid hl1
  have r1 := rd1
  clear hl0 rd0 hc0 hm0 hl1 rd1 hc1 hm1 g0 g1 i2 i3
  by_cases hout : 1000 < l0 ∨ 1000 < l1 ∨ a3 < 0 ∨ 1000 < a3
  · have hcond : (decide ((1000 : Int) < (l0 : Int)) || decide ((1000 : Int) < (l1 : Int)) || decide (a3 < 0) || decide (1000 < a3)) = true := by simp; omega
    by_cases q0 : 1000 < l0
    · have q0i : (1000 : Int) < (l0 : Int) := by omega
      go_enter Try.func9, Try.ntmps9
      go_wp2_with fail
      refine (awake_any w).mono ?_
      rintro r w1 ⟨rfl, hb⟩
      have B1 : Below w.heap.size w w1 := hb
      clear hb
      go_wp2
      go_ret
      exact ⟨rfl, B1⟩
    by_cases q1 : 1000 < l1
    · have q0i : decide ((1000 : Int) < (l0 : Int)) = false := by simp; omega
      have q1i : (1000 : Int) < (l1 : Int) := by omega
      go_enter Try.func9, Try.ntmps9
      go_wp2_with fail
      refine (awake_any w).mono ?_
      rintro r w1 ⟨rfl, hb⟩
      have B1 : Below w.heap.size w w1 := hb
      clear hb
      go_wp2
      go_ret
      exact ⟨rfl, B1⟩
    by_cases q2 : a3 < 0
    · have q0i : decide ((1000 : Int) < (l0 : Int)) = false := by simp; omega
      have q1i : decide ((1000 : Int) < (l1 : Int)) = false := by simp; omega
      go_enter Try.func9, Try.ntmps9
      go_wp2_with fail
      refine (awake_any w).mono ?_
      rintro r w1 ⟨rfl, hb⟩
      have B1 : Below w.heap.size w w1 := hb
      clear hb
      go_wp2
      go_ret
      exact ⟨rfl, B1⟩
    · have q0i : decide ((1000 : Int) < (l0 : Int)) = false := by simp; omega
      have q1i : decide ((1000 : Int) < (l1 : Int)) = false := by simp; omega
      have q3i : 1000 < a3 := by omega
      go_enter Try.func9, Try.ntmps9
      go_wp2_with fail
      refine (awake_any w).mono ?_
      rintro r w1 ⟨rfl, hb⟩
      have B1 : Below w.heap.size w w1 := hb
      clear hb
      go_wp2
      go_ret
      exact ⟨rfl, B1⟩
  obtain ⟨q, rfl⟩ : ∃ q : Nat, a3 = q := ⟨a3.toNat, by omega⟩
  have HN0 := Lib.hid (show l0 ≤ 1000 by omega)
  have HN1 := Lib.hid (show l1 ≤ 1000 by omega)
  have hq : q ≤ 1000 := by omega
  have q0i : decide ((1000 : Int) < (l0 : Int)) = false := by simp; omega
  have q1i : decide ((1000 : Int) < (l1 : Int)) = false := by simp; omega
  have q3i : decide ((1000 : Int) < (q : Int)) = false := by simp; omega
  have q4i : decide ((q : Int) < 0) = false := by simp
  clear hout
  go_enter Try.func9, Try.ntmps9
  go_wp2_with fail
  refine (awake_any w).mono ?_
  rintro r w1 ⟨rfl, hb⟩
  replace r0 := (r0.below hb).more hb.size
  replace r1 := (r1.below hb).more hb.size
  have B1 : Below w.heap.size w w1 := hb
  clear hb
  go_wp2_with (at_builtin; refine wpList_append_rd _ rfl (.tmp 33) (.tmp 34) 22 rfl w1.heap.size 3 i0 (.int .i64 0) 1 8 Try.underlying22 hi0 hz0 hz1 hz2 rfl (by decide) (.slice none 0 0) 0 [] rfl (World.ownsRow_nil _ _ _ _) w1.heap.size _ l0 _ intC intC_len intC_one L0 H0.out.symm rfl r0 (by have := HN0.out; unfold maxLen; omega) (by have := HN0.out; omega) (Nat.le_refl _) ?_; intro v1 w2 hown1 hg1 hx1; have hbx := (Below.refl w1.heap.size w1).grown hg1 (Nat.le_refl _) (by simp [Value.ownBlock]); clear hg1 hx1)
  rw [Nat.zero_add] at hown1
  obtain ⟨Ax, cx, rfl⟩ := own_slice hown1
  have HX := Lib.hid hown1
  have HBX := Lib.hid hbx
  have HR0 := Lib.hid r0
  have HR1 := Lib.hid r1
  clear hown1 hbx q0i q1i q3i q4i
  go_loopw [9, 10] (fun v i wr => ∃ (k : Nat) (A2 : Option Addr) (c2 : Nat), k ≤ q ∧ i = .int .i64 k ∧ v = .slice A2 (l0 + k) c2 ∧ wr.ownsRow w1.heap.size 3 1 (.slice A2 (l0 + k) c2) (l0 + k) ((L0 ++ List.replicate k 0).flatMap intC) ∧ Below w1.heap.size w1 wr) (fun _ i _ => q - (intOf i).toNat)
  case atStart => exact ⟨0, Ax, cx, by omega, rfl, by simp, by have := HX.out; simpa using this, HBX.out⟩
  case round =>
    obtain ⟨k, A2, c2, hk, rfl, rfl, hown2, hB⟩ := hrel
    clear r0 r1
    by_cases hlt : k < q
    · have hlti : (k : Int) < (q : Int) := by omega
      have HOWN2 := Lib.hid hown2
      clear hown2
      go_wp2_with (at_builtin; refine wpList_append_own _ rfl _ _ 22 rfl w1.heap.size 3 i0 (.int .i64 0) 1 8 Try.underlying22 hi0 hz0 hz1 hz2 rfl (by decide) _ (l0 + k) _ rfl (HOWN2.out.alloc _) ⟨wr.heap.size, 0, none⟩ 1 1 [.int .i64 0] rfl rfl (cell_one_new _ _ _) (intC_one 0) (by have := HN0.out; unfold maxLen; omega) (by have := HN0.out; omega) (by have := hB.size; simp; omega) ?_; intro v' w3 hown3 hg2 _; obtain ⟨A3, c3, rfl⟩ := own_slice hown3)
      have hB2 : Below w1.heap.size w1 w3 := ((hB.alloc hB.size _).grown hg2 (by have := hB.size; simp; omega) (fun q e => (HOWN2.out.lt q e).1))
      have hown4 : w3.ownsRow w1.heap.size 3 1 (.slice A3 (l0 + k + 1) c3) (l0 + (k + 1)) ((L0 ++ List.replicate (k + 1) 0).flatMap intC) := by
        rw [List.replicate_succ', ← List.append_assoc, List.flatMap_append]
        simpa [intC, Nat.add_assoc] using hown3
      clear hown3 hg2
      go_wp2
      go_roundw
      case rel =>
        exact ⟨k + 1, A3, c3, by omega, by go_num, rfl, hown4, hB2⟩
      case measure => simp [intOf] <;> omega
    · obtain rfl : k = q := by omega
      have B2 : Below w.heap.size w wr := B1.trans (hB.mono B1.size)
      have r0 := (HR0.out.below hB).more hB.size
      have r1 := (HR1.out.below hB).more hB.size
      obtain ⟨Lm, hLm⟩ : ∃ L, L = L0 ++ List.replicate k 0 := ⟨_, rfl⟩
      obtain ⟨lm, hlm⟩ : ∃ l, l = l0 + k := ⟨_, rfl⟩
      have hlm2 : lm = Lm.length := by rw [hlm, hLm, List.length_append, List.length_replicate, H0.out]
      rw [← hLm, ← hlm, hlm2] at hown2
      obtain ⟨Am, cm, hv, rm, _⟩ := own_rd intC_len hown2
      rw [← hlm2] at hv
      rw [← hlm]
      obtain ⟨rfl, rfl⟩ : Am = A2 ∧ cm = c2 := by
        rw [Value.slice.injEq] at hv
        exact ⟨hv.1.symm, hv.2.2.symm⟩
      have Hm := Lib.hid hlm2
      have HLm := Lib.hid hLm
      have HNm := Lib.hid (show lm ≤ 2000 by have := HN0.out; omega)
      clear hv hlm hlm2 hLm hown2 hB HX HBX HR0 HR1 B1
      obtain ⟨bb, hbb⟩ : ∃ b, leL L0 L1 = b := ⟨_, rfl⟩
      have P1 := Lib.hid hbb
      clear hbb
      have rm := rm
      go_wp2_with fail
      refine (join_any A0 A1 l0 c0 l1 c1 L0 L1 wr H0.out.symm H1.out.symm (by have := HN0.out; omega) (by have := HN1.out; omega) r0 r1).mono ?_
      rintro r w3 ⟨v, rfl, hown, hb⟩
      obtain ⟨Aj, cj, rfl, rj', hcj, hmj⟩ := own_rd intC_len hown
      obtain ⟨lj, hlj0⟩ : ∃ l, l = (joinL L0 L1).length := ⟨_, rfl⟩
      obtain ⟨Lj, hLj0⟩ : ∃ L, L = joinL L0 L1 := ⟨_, rfl⟩
      rw [← hlj0]
      rw [← hLj0] at hlj0 rj'
      have hnj : lj ≤ 100000 := by rw [hlj0, hLj0]; first | exact Nat.le_trans (joinL_length _ _) (by rw [← H0.out,← H1.out]; have := HN0.out; have := HN1.out; omega) | exact Nat.le_trans (tickL_length _ _) (by rw [← H0.out,← H1.out]; have := HN0.out; have := HN1.out; omega)
      have Hj := Lib.hid hlj0
      have HEj := Lib.hid hLj0
      have HNj := Lib.hid hnj
      clear hnj hlj0 hLj0 hcj hmj hown
      replace r0 := (r0.below hb).more hb.size
      replace r1 := (r1.below hb).more hb.size
      replace rm := (rm.below hb).more hb.size
      have B3 : Below w.heap.size w w3 := B2.trans (hb.mono B2.size)
      clear B2
      clear hb
      have rj := rj'
      clear rj'
      go_wp2_with fail
      refine (tick_any A0 l0 c0 L0 a2 w3 H0.out.symm (by have := HN0.out; omega) r0).mono ?_
      rintro r w4 ⟨v, rfl, hown, hb⟩
      obtain ⟨At, ct, rfl, rt', hct, hmt⟩ := own_rd intC_len hown
      obtain ⟨lt, hlt0⟩ : ∃ l, l = (tickL L0 a2).length := ⟨_, rfl⟩
      obtain ⟨Lt, hLt0⟩ : ∃ L, L = tickL L0 a2 := ⟨_, rfl⟩
      rw [← hlt0]
      rw [← hLt0] at hlt0 rt'
      have hnt : lt ≤ 100000 := by rw [hlt0, hLt0]; first | exact Nat.le_trans (joinL_length _ _) (by rw [← H0.out]; have := HN0.out; omega) | exact Nat.le_trans (tickL_length _ _) (by rw [← H0.out]; have := HN0.out; omega)
      have Ht := Lib.hid hlt0
      have HEt := Lib.hid hLt0
      have HNt := Lib.hid hnt
      clear hnt hlt0 hLt0 hct hmt hown
      replace r0 := (r0.below hb).more hb.size
      replace r1 := (r1.below hb).more hb.size
      replace rm := (rm.below hb).more hb.size
      replace rj := (rj.below hb).more hb.size
      have B4 : Below w.heap.size w w4 := B3.trans (hb.mono B3.size)
      clear B3
      clear hb
      have rt := rt'
      clear rt'
      go_wp2_with fail
      refine (join_any Am A1 lm cm l1 c1 Lm L1 w4 Hm.out.symm H1.out.symm (by have := HNm.out; omega) (by have := HN1.out; omega) rm r1).mono ?_
      rintro r w5 ⟨v, rfl, hown, hb⟩
      obtain ⟨Ak2, ck2, rfl, rk2', hck2, hmk2⟩ := own_rd intC_len hown
      obtain ⟨lk2, hlk20⟩ : ∃ l, l = (joinL Lm L1).length := ⟨_, rfl⟩
      obtain ⟨Lk2, hLk20⟩ : ∃ L, L = joinL Lm L1 := ⟨_, rfl⟩
      rw [← hlk20]
      rw [← hLk20] at hlk20 rk2'
      have hnk2 : lk2 ≤ 100000 := by rw [hlk20, hLk20]; first | exact Nat.le_trans (joinL_length _ _) (by rw [← Hm.out,← H1.out]; have := HNm.out; have := HN1.out; omega) | exact Nat.le_trans (tickL_length _ _) (by rw [← Hm.out,← H1.out]; have := HNm.out; have := HN1.out; omega)
      have Hk2 := Lib.hid hlk20
      have HEk2 := Lib.hid hLk20
      have HNk2 := Lib.hid hnk2
      clear hnk2 hlk20 hLk20 hck2 hmk2 hown
      replace r0 := (r0.below hb).more hb.size
      replace r1 := (r1.below hb).more hb.size
      replace rm := (rm.below hb).more hb.size
      replace rj := (rj.below hb).more hb.size
      replace rt := (rt.below hb).more hb.size
      have B5 : Below w.heap.size w w5 := B4.trans (hb.mono B4.size)
      clear B4
      clear hb
      have rk2 := rk2'
      clear rk2'
      go_wp2_with fail
      refine (tick_any Am lm cm Lm a2 w5 Hm.out.symm (by have := HNm.out; omega) rm).mono ?_
      rintro r w6 ⟨v, rfl, hown, hb⟩
      obtain ⟨Au, cu, rfl, ru', hcu, hmu⟩ := own_rd intC_len hown
      obtain ⟨lu, hlu0⟩ : ∃ l, l = (tickL Lm a2).length := ⟨_, rfl⟩
      obtain ⟨Lu, hLu0⟩ : ∃ L, L = tickL Lm a2 := ⟨_, rfl⟩
      rw [← hlu0]
      rw [← hLu0] at hlu0 ru'
      have hnu : lu ≤ 100000 := by rw [hlu0, hLu0]; first | exact Nat.le_trans (joinL_length _ _) (by rw [← Hm.out]; have := HNm.out; omega) | exact Nat.le_trans (tickL_length _ _) (by rw [← Hm.out]; have := HNm.out; omega)
      have Hu := Lib.hid hlu0
      have HEu := Lib.hid hLu0
      have HNu := Lib.hid hnu
      clear hnu hlu0 hLu0 hcu hmu hown
      replace r0 := (r0.below hb).more hb.size
      replace r1 := (r1.below hb).more hb.size
      replace rm := (rm.below hb).more hb.size
      replace rj := (rj.below hb).more hb.size
      replace rt := (rt.below hb).more hb.size
      replace rk2 := (rk2.below hb).more hb.size
      have B6 : Below w.heap.size w w6 := B5.trans (hb.mono B5.size)
      clear B5
      clear hb
      have ru := ru'
      clear ru'
      have e1 := Lib.hid (show Lk2 = Lj by rw [HEk2.out, HEj.out, HLm.out, join_more])
      have e2 := Lib.hid (show Lu = Lt by rw [HEu.out, HEt.out, HLm.out, tick_more _ _ _ HBD.out])
      have z1 : lj = lk2 := by rw [Hj.out, Hk2.out, e1.out]
      subst z1
      have z2 : lt = lu := by rw [Ht.out, Hu.out, e2.out]
      subst z2
      have jl : ∀ x q, lj = q + 1 → Lj[q]? = some x → (x == 0) = false := fun x q e h => joinL_last L0 L1 q (by rw [← HEj.out, ← Hj.out]; exact e) x (by rw [← HEj.out]; exact h)
      have tl : ∀ x q, lt = q + 1 → Lt[q]? = some x → (x == 0) = false := fun x q e h => tickL_last L0 a2 q (by rw [← HEt.out, ← Ht.out]; exact e) x (by rw [← HEt.out]; exact h)
      have JL := Lib.hid jl
      have TL := Lib.hid tl
      clear jl tl
      rcases Nat.eq_zero_or_pos lj with hj0 | hj0
      ·
        subst hj0
        rcases Nat.eq_zero_or_pos lt with ht0 | ht0
        ·
          subst ht0
          go_wp2_with fail
          refine (eqL_any _ _ _ _ _ _ Lj Lk2 w6 Hj.out.symm Hk2.out.symm (by have := HNj.out; have := HNk2.out; omega) rj rk2).mono ?_
          rintro r w7 ⟨rfl, hb⟩
          rw [show eqL Lj Lk2 = true from by rw [e1.out]; exact eq_refl_ _]
          replace r0 := (r0.below hb).more hb.size
          replace r1 := (r1.below hb).more hb.size
          replace rm := (rm.below hb).more hb.size
          replace rj := (rj.below hb).more hb.size
          replace rt := (rt.below hb).more hb.size
          replace rk2 := (rk2.below hb).more hb.size
          replace ru := (ru.below hb).more hb.size
          have B7 : Below w.heap.size w w7 := B6.trans (hb.mono B6.size)
          clear B6
          clear hb
          go_wp2_with fail
          refine (eqL_any _ _ _ _ _ _ Lt Lu w7 Ht.out.symm Hu.out.symm (by have := HNt.out; have := HNu.out; omega) rt ru).mono ?_
          rintro r w8 ⟨rfl, hb⟩
          rw [show eqL Lt Lu = true from by rw [e2.out]; exact eq_refl_ _]
          replace r0 := (r0.below hb).more hb.size
          replace r1 := (r1.below hb).more hb.size
          replace rm := (rm.below hb).more hb.size
          replace rj := (rj.below hb).more hb.size
          replace rt := (rt.below hb).more hb.size
          replace rk2 := (rk2.below hb).more hb.size
          replace ru := (ru.below hb).more hb.size
          have B8 : Below w.heap.size w w8 := B7.trans (hb.mono B7.size)
          clear B7
          clear hb
          go_wp2_with fail
          refine (eqL_any _ _ _ _ _ _ L0 Lm w8 H0.out.symm Hm.out.symm (by have := HN0.out; have := HNm.out; omega) r0 rm).mono ?_
          rintro r w9 ⟨rfl, hb⟩
          rw [show eqL L0 Lm = true from by rw [HLm.out]; exact eq_more _ _]
          replace r0 := (r0.below hb).more hb.size
          replace r1 := (r1.below hb).more hb.size
          replace rm := (rm.below hb).more hb.size
          replace rj := (rj.below hb).more hb.size
          replace rt := (rt.below hb).more hb.size
          replace rk2 := (rk2.below hb).more hb.size
          replace ru := (ru.below hb).more hb.size
          have B9 : Below w.heap.size w w9 := B8.trans (hb.mono B8.size)
          clear B8
          clear hb
          go_wp2_with fail
          refine (leL_any _ _ _ _ _ _ L0 L1 w9 H0.out.symm H1.out.symm (by have := HN0.out; have := HN1.out; omega) r0 r1).mono ?_
          rintro r w10 ⟨rfl, hb⟩
          rw [show leL L0 L1 = bb from P1.out]
          replace r0 := (r0.below hb).more hb.size
          replace r1 := (r1.below hb).more hb.size
          replace rm := (rm.below hb).more hb.size
          replace rj := (rj.below hb).more hb.size
          replace rt := (rt.below hb).more hb.size
          replace rk2 := (rk2.below hb).more hb.size
          replace ru := (ru.below hb).more hb.size
          have B10 : Below w.heap.size w w10 := B9.trans (hb.mono B9.size)
          clear B9
          clear hb
          go_wp2_with fail
          refine (leL_any _ _ _ _ _ _ Lm L1 w10 Hm.out.symm H1.out.symm (by have := HNm.out; have := HN1.out; omega) rm r1).mono ?_
          rintro r w11 ⟨rfl, hb⟩
          rw [show leL Lm L1 = bb from by rw [HLm.out, le_more]; exact P1.out]
          replace r0 := (r0.below hb).more hb.size
          replace r1 := (r1.below hb).more hb.size
          replace rm := (rm.below hb).more hb.size
          replace rj := (rj.below hb).more hb.size
          replace rt := (rt.below hb).more hb.size
          replace rk2 := (rk2.below hb).more hb.size
          replace ru := (ru.below hb).more hb.size
          have B11 : Below w.heap.size w w11 := B10.trans (hb.mono B10.size)
          clear B10
          clear hb
          have z3 : (bb == bb) = true := by simp
          go_wp2
          go_ret
          exact ⟨rfl, B11⟩
        ·
          obtain ⟨qt, rfl⟩ : ∃ q, lt = q + 1 := ⟨lt - 1, by omega⟩
          obtain ⟨bt, ot, xt, hxt, rfl, _, lct⟩ := rt.int (k := qt) (by rw [← Ht.out]; omega)
          have nt := TL.out xt qt rfl hxt
          have wt : wrap64 (qt : Int) = qt := by have := HNt.out; unfold wrap64; omega
          clear hxt ht0
          go_wp2_with fail
          trace_state
          go_wp2_with fail
          refine (eqL_any _ _ _ _ _ _ Lj Lk2 w6 Hj.out.symm Hk2.out.symm (by have := HNj.out; have := HNk2.out; omega) rj rk2).mono ?_
          rintro r w7 ⟨rfl, hb⟩
          rw [show eqL Lj Lk2 = true from by rw [e1.out]; exact eq_refl_ _]
          replace r0 := (r0.below hb).more hb.size
          replace r1 := (r1.below hb).more hb.size
          replace rm := (rm.below hb).more hb.size
          replace rj := (rj.below hb).more hb.size
          replace rt := (rt.below hb).more hb.size
          replace rk2 := (rk2.below hb).more hb.size
          replace ru := (ru.below hb).more hb.size
          have B7 : Below w.heap.size w w7 := B6.trans (hb.mono B6.size)
          clear B6
          clear hb
          go_wp2_with fail
          refine (eqL_any _ _ _ _ _ _ Lt Lu w7 Ht.out.symm Hu.out.symm (by have := HNt.out; have := HNu.out; omega) rt ru).mono ?_
          rintro r w8 ⟨rfl, hb⟩
          rw [show eqL Lt Lu = true from by rw [e2.out]; exact eq_refl_ _]
          replace r0 := (r0.below hb).more hb.size
          replace r1 := (r1.below hb).more hb.size
          replace rm := (rm.below hb).more hb.size
          replace rj := (rj.below hb).more hb.size
          replace rt := (rt.below hb).more hb.size
          replace rk2 := (rk2.below hb).more hb.size
          replace ru := (ru.below hb).more hb.size
          have B8 : Below w.heap.size w w8 := B7.trans (hb.mono B7.size)
          clear B7
          clear hb
          go_wp2_with fail
          refine (eqL_any _ _ _ _ _ _ L0 Lm w8 H0.out.symm Hm.out.symm (by have := HN0.out; have := HNm.out; omega) r0 rm).mono ?_
          rintro r w9 ⟨rfl, hb⟩
          rw [show eqL L0 Lm = true from by rw [HLm.out]; exact eq_more _ _]
          replace r0 := (r0.below hb).more hb.size
          replace r1 := (r1.below hb).more hb.size
          replace rm := (rm.below hb).more hb.size
          replace rj := (rj.below hb).more hb.size
          replace rt := (rt.below hb).more hb.size
          replace rk2 := (rk2.below hb).more hb.size
          replace ru := (ru.below hb).more hb.size
          have B9 : Below w.heap.size w w9 := B8.trans (hb.mono B8.size)
          clear B8
          clear hb
          go_wp2_with fail
          refine (leL_any _ _ _ _ _ _ L0 L1 w9 H0.out.symm H1.out.symm (by have := HN0.out; have := HN1.out; omega) r0 r1).mono ?_
          rintro r w10 ⟨rfl, hb⟩
          rw [show leL L0 L1 = bb from P1.out]
          replace r0 := (r0.below hb).more hb.size
          replace r1 := (r1.below hb).more hb.size
          replace rm := (rm.below hb).more hb.size
          replace rj := (rj.below hb).more hb.size
          replace rt := (rt.below hb).more hb.size
          replace rk2 := (rk2.below hb).more hb.size
          replace ru := (ru.below hb).more hb.size
          have B10 : Below w.heap.size w w10 := B9.trans (hb.mono B9.size)
          clear B9
          clear hb
          go_wp2_with fail
          refine (leL_any _ _ _ _ _ _ Lm L1 w10 Hm.out.symm H1.out.symm (by have := HNm.out; have := HN1.out; omega) rm r1).mono ?_
          rintro r w11 ⟨rfl, hb⟩
          rw [show leL Lm L1 = bb from by rw [HLm.out, le_more]; exact P1.out]
          replace r0 := (r0.below hb).more hb.size
          replace r1 := (r1.below hb).more hb.size
          replace rm := (rm.below hb).more hb.size
          replace rj := (rj.below hb).more hb.size
          replace rt := (rt.below hb).more hb.size
          replace rk2 := (rk2.below hb).more hb.size
          replace ru := (ru.below hb).more hb.size
          have B11 : Below w.heap.size w w11 := B10.trans (hb.mono B10.size)
          clear B10
          clear hb
          have z3 : (bb == bb) = true := by simp
          go_wp2
          go_ret
          exact ⟨rfl, B11⟩
      ·
        obtain ⟨qj, rfl⟩ : ∃ q, lj = q + 1 := ⟨lj - 1, by omega⟩
        obtain ⟨bj, oj, xj, hxj, rfl, _, lcj⟩ := rj.int (k := qj) (by rw [← Hj.out]; omega)
        have nj := JL.out xj qj rfl hxj
        have wj : wrap64 (qj : Int) = qj := by have := HNj.out; unfold wrap64; omega
        clear hxj hj0
        rcases Nat.eq_zero_or_pos lt with ht0 | ht0
        ·
          subst ht0
          go_wp2_with fail
          refine (eqL_any _ _ _ _ _ _ Lj Lk2 w6 Hj.out.symm Hk2.out.symm (by have := HNj.out; have := HNk2.out; omega) rj rk2).mono ?_
          rintro r w7 ⟨rfl, hb⟩
          rw [show eqL Lj Lk2 = true from by rw [e1.out]; exact eq_refl_ _]
          replace r0 := (r0.below hb).more hb.size
          replace r1 := (r1.below hb).more hb.size
          replace rm := (rm.below hb).more hb.size
          replace rj := (rj.below hb).more hb.size
          replace rt := (rt.below hb).more hb.size
          replace rk2 := (rk2.below hb).more hb.size
          replace ru := (ru.below hb).more hb.size
          have B7 : Below w.heap.size w w7 := B6.trans (hb.mono B6.size)
          clear B6
          clear hb
          go_wp2_with fail
          refine (eqL_any _ _ _ _ _ _ Lt Lu w7 Ht.out.symm Hu.out.symm (by have := HNt.out; have := HNu.out; omega) rt ru).mono ?_
          rintro r w8 ⟨rfl, hb⟩
          rw [show eqL Lt Lu = true from by rw [e2.out]; exact eq_refl_ _]
          replace r0 := (r0.below hb).more hb.size
          replace r1 := (r1.below hb).more hb.size
          replace rm := (rm.below hb).more hb.size
          replace rj := (rj.below hb).more hb.size
          replace rt := (rt.below hb).more hb.size
          replace rk2 := (rk2.below hb).more hb.size
          replace ru := (ru.below hb).more hb.size
          have B8 : Below w.heap.size w w8 := B7.trans (hb.mono B7.size)
          clear B7
          clear hb
          go_wp2_with fail
          refine (eqL_any _ _ _ _ _ _ L0 Lm w8 H0.out.symm Hm.out.symm (by have := HN0.out; have := HNm.out; omega) r0 rm).mono ?_
          rintro r w9 ⟨rfl, hb⟩
          rw [show eqL L0 Lm = true from by rw [HLm.out]; exact eq_more _ _]
          replace r0 := (r0.below hb).more hb.size
          replace r1 := (r1.below hb).more hb.size
          replace rm := (rm.below hb).more hb.size
          replace rj := (rj.below hb).more hb.size
          replace rt := (rt.below hb).more hb.size
          replace rk2 := (rk2.below hb).more hb.size
          replace ru := (ru.below hb).more hb.size
          have B9 : Below w.heap.size w w9 := B8.trans (hb.mono B8.size)
          clear B8
          clear hb
          go_wp2_with fail
          refine (leL_any _ _ _ _ _ _ L0 L1 w9 H0.out.symm H1.out.symm (by have := HN0.out; have := HN1.out; omega) r0 r1).mono ?_
          rintro r w10 ⟨rfl, hb⟩
          rw [show leL L0 L1 = bb from P1.out]
          replace r0 := (r0.below hb).more hb.size
          replace r1 := (r1.below hb).more hb.size
          replace rm := (rm.below hb).more hb.size
          replace rj := (rj.below hb).more hb.size
          replace rt := (rt.below hb).more hb.size
          replace rk2 := (rk2.below hb).more hb.size
          replace ru := (ru.below hb).more hb.size
          have B10 : Below w.heap.size w w10 := B9.trans (hb.mono B9.size)
          clear B9
          clear hb
          go_wp2_with fail
          refine (leL_any _ _ _ _ _ _ Lm L1 w10 Hm.out.symm H1.out.symm (by have := HNm.out; have := HN1.out; omega) rm r1).mono ?_
          rintro r w11 ⟨rfl, hb⟩
          rw [show leL Lm L1 = bb from by rw [HLm.out, le_more]; exact P1.out]
          replace r0 := (r0.below hb).more hb.size
          replace r1 := (r1.below hb).more hb.size
          replace rm := (rm.below hb).more hb.size
          replace rj := (rj.below hb).more hb.size
          replace rt := (rt.below hb).more hb.size
          replace rk2 := (rk2.below hb).more hb.size
          replace ru := (ru.below hb).more hb.size
          have B11 : Below w.heap.size w w11 := B10.trans (hb.mono B10.size)
          clear B10
          clear hb
          have z3 : (bb == bb) = true := by simp
          go_wp2
          go_ret
          exact ⟨rfl, B11⟩
        ·
          obtain ⟨qt, rfl⟩ : ∃ q, lt = q + 1 := ⟨lt - 1, by omega⟩
          obtain ⟨bt, ot, xt, hxt, rfl, _, lct⟩ := rt.int (k := qt) (by rw [← Ht.out]; omega)
          have nt := TL.out xt qt rfl hxt
          have wt : wrap64 (qt : Int) = qt := by have := HNt.out; unfold wrap64; omega
          clear hxt ht0
          go_wp2_with fail
          refine (eqL_any _ _ _ _ _ _ Lj Lk2 w6 Hj.out.symm Hk2.out.symm (by have := HNj.out; have := HNk2.out; omega) rj rk2).mono ?_
          rintro r w7 ⟨rfl, hb⟩
          rw [show eqL Lj Lk2 = true from by rw [e1.out]; exact eq_refl_ _]
          replace r0 := (r0.below hb).more hb.size
          replace r1 := (r1.below hb).more hb.size
          replace rm := (rm.below hb).more hb.size
          replace rj := (rj.below hb).more hb.size
          replace rt := (rt.below hb).more hb.size
          replace rk2 := (rk2.below hb).more hb.size
          replace ru := (ru.below hb).more hb.size
          have B7 : Below w.heap.size w w7 := B6.trans (hb.mono B6.size)
          clear B6
          clear hb
          go_wp2_with fail
          refine (eqL_any _ _ _ _ _ _ Lt Lu w7 Ht.out.symm Hu.out.symm (by have := HNt.out; have := HNu.out; omega) rt ru).mono ?_
          rintro r w8 ⟨rfl, hb⟩
          rw [show eqL Lt Lu = true from by rw [e2.out]; exact eq_refl_ _]
          replace r0 := (r0.below hb).more hb.size
          replace r1 := (r1.below hb).more hb.size
          replace rm := (rm.below hb).more hb.size
          replace rj := (rj.below hb).more hb.size
          replace rt := (rt.below hb).more hb.size
          replace rk2 := (rk2.below hb).more hb.size
          replace ru := (ru.below hb).more hb.size
          have B8 : Below w.heap.size w w8 := B7.trans (hb.mono B7.size)
          clear B7
          clear hb
          go_wp2_with fail
          refine (eqL_any _ _ _ _ _ _ L0 Lm w8 H0.out.symm Hm.out.symm (by have := HN0.out; have := HNm.out; omega) r0 rm).mono ?_
          rintro r w9 ⟨rfl, hb⟩
          rw [show eqL L0 Lm = true from by rw [HLm.out]; exact eq_more _ _]
          replace r0 := (r0.below hb).more hb.size
          replace r1 := (r1.below hb).more hb.size
          replace rm := (rm.below hb).more hb.size
          replace rj := (rj.below hb).more hb.size
          replace rt := (rt.below hb).more hb.size
          replace rk2 := (rk2.below hb).more hb.size
          replace ru := (ru.below hb).more hb.size
          have B9 : Below w.heap.size w w9 := B8.trans (hb.mono B8.size)
          clear B8
          clear hb
          go_wp2_with fail
          refine (leL_any _ _ _ _ _ _ L0 L1 w9 H0.out.symm H1.out.symm (by have := HN0.out; have := HN1.out; omega) r0 r1).mono ?_
          rintro r w10 ⟨rfl, hb⟩
          rw [show leL L0 L1 = bb from P1.out]
          replace r0 := (r0.below hb).more hb.size
          replace r1 := (r1.below hb).more hb.size
          replace rm := (rm.below hb).more hb.size
          replace rj := (rj.below hb).more hb.size
          replace rt := (rt.below hb).more hb.size
          replace rk2 := (rk2.below hb).more hb.size
          replace ru := (ru.below hb).more hb.size
          have B10 : Below w.heap.size w w10 := B9.trans (hb.mono B9.size)
          clear B9
          clear hb
          go_wp2_with fail
          refine (leL_any _ _ _ _ _ _ Lm L1 w10 Hm.out.symm H1.out.symm (by have := HNm.out; have := HN1.out; omega) rm r1).mono ?_
          rintro r w11 ⟨rfl, hb⟩
          rw [show leL Lm L1 = bb from by rw [HLm.out, le_more]; exact P1.out]
          replace r0 := (r0.below hb).more hb.size
          replace r1 := (r1.below hb).more hb.size
          replace rm := (rm.below hb).more hb.size
          replace rj := (rj.below hb).more hb.size
          replace rt := (rt.below hb).more hb.size
          replace rk2 := (rk2.below hb).more hb.size
          replace ru := (ru.below hb).more hb.size
          have B11 : Below w.heap.size w w11 := B10.trans (hb.mono B10.size)
          clear B10
          clear hb
          have z3 : (bb == bb) = true := by simp
          go_wp2
          go_ret
          exact ⟨rfl, B11⟩
end Go.Proofs.Ytfhainobolfleaa

