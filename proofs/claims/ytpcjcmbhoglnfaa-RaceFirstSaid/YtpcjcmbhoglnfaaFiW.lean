/- RaceFirst: the walk. -/
import Derived.Test.YtpcjcmbhoglnfaaAl
import Derived.Test.YtpcjcmbhoglnfaaRd
import Derived.Test.YtpcjcmbhoglnfaaBa
namespace Go.Proofs.Ytpcjcmbhoglnfaa
open Go.RowKit Go.ChangeMaps Go.MapKept
set_option linter.unusedVariables false
set_option linter.unusedSimpArgs false

set_option maxRecDepth 100000 in
set_option maxHeartbeats 12800000 in
theorem raceFirst_walk (A : Option Addr) (c : Nat) (L : List Ev) (w : World) (rd : Rd w w.heap.size 4 evC A L) (g : ∀ x ∈ L, EvOk w w.heap.size x) (hc : L.length ≤ c) (hm : c ≤ maxLen) :
    Calls Try.prog 7 #[.slice A L.length c] w fun r w' => r = .returned (.bool true) ∧ Below w.heap.size w w' := by
  obtain ⟨len, hlen⟩ : ∃ n, L.length = n := ⟨_, rfl⟩
  obtain ⟨sb, hsb⟩ : ∃ b, shortB L = b := ⟨_, rfl⟩
  have HLG := Lib.hid (long_any A len c L w hlen rd sb hsb)
  rw [hlen] at hc ⊢
  cases sb with
  | false =>
    have HB := Lib.hid (Below.refl w.heap.size w)
    clear rd g hlen hsb
    go_enter Try.func7, Try.ntmps7
    go_wp2_with fail
    refine HLG.out.mono ?_
    rintro r w1 ⟨rfl, rfl⟩
    go_wp2
    go_ret
    exact ⟨rfl, HB.out⟩
  | true =>
    have HR := Lib.hid (shortB_row hlen rd g hc hsb)
    obtain ⟨mb, hmb⟩ : ∃ b, mayB L = b := ⟨_, rfl⟩
    have hn120 : len ≤ 120 := by
      unfold shortB at hsb
      rw [Bool.and_eq_true] at hsb
      have := of_decide_eq_true hsb.1
      omega
    have HM := Lib.hid hmb
    have HL := Lib.hid hlen
    have HF := Lib.hid (fun W (hW : Below w.heap.size w W) => first_any A len c L (HR.out.below hW))
    have HA := Lib.hid (fun W (hW : Below w.heap.size w W) => all_any A len c L (HR.out.below hW))
    have HRD := Lib.hid (fun W (hW : Below w.heap.size w W) => refRead_any A len c L (HR.out.below hW))
    have HB0 := Lib.hid (Below.refl w.heap.size w)
    clear rd g hlen hsb hmb
    cases mb with
    | false =>
      have HFL := Lib.hid (show findL L false = [] by unfold findL; rw [HM.out]; rfl)
      have HE := Lib.hid (show errL L = 250 by unfold errL; rw [HM.out]; rfl)
      have HF0 := Lib.hid (HF.out w HB0.out)
      rw [show firstAt L = 0 by unfold firstAt; rw [HFL.out]; rfl, show firstWith L = 0 by unfold firstWith; rw [HFL.out]; rfl, show firstIs L = false by unfold firstIs; rw [HFL.out]; rfl, HE.out] at HF0
      rw [HFL.out, HE.out] at HA
      go_enter Try.func7, Try.ntmps7
      go_wp2_with fail
      refine HLG.out.mono ?_
      rintro r w1 ⟨rfl, rfl⟩
      clear HLG
      go_wp2_with fail
      refine HF0.out.mono ?_
      rintro r w1 ⟨rfl, hb1⟩
      have HB1 := Lib.hid hb1
      clear hb1
      go_wp2_with fail
      refine (HA.out _ HB1.out).mono ?_
      rintro r w2 ⟨v, rfl, hown, hb2⟩
      obtain ⟨Av, cv, rfl⟩ := own_slice hown
      have HB2 := Lib.hid (HB1.out.trans (hb2.mono HB1.out.size))
      clear hb2 hown
      go_wp2_with fail
      refine (HRD.out _ HB2.out).mono ?_
      rintro r w3 ⟨ri, rn, rfl, hri, hb3⟩
      have hri0 : 0 ≤ ri := by
        rw [HM.out] at hri
        exact of_decide_eq_true hri
      have HB3 := Lib.hid (HB2.out.trans (hb3.mono HB2.out.size))
      clear hri hb3
      go_wp2_with fail
      refine (awake_any _).mono ?_
      rintro r w8 ⟨rfl, hb8⟩
      have HB8 := Lib.hid (HB3.out.trans (hb8.mono HB3.out.size))
      clear hb8
      go_wp2
      go_ret
      exact ⟨rfl, HB8.out⟩
    | true =>
      have HAL := Lib.hid (fun W (hW : Below w.heap.size w W) => refAll_any A len c L (HR.out.below hW) HM.out hn120)
      obtain ⟨R, hR⟩ : ∃ R, allUp L len = R := ⟨_, rfl⟩
      have hRl : R.length ≤ 14640 := by
        rw [← hR, ← preL_zero]; exact preL_len L len 0 hn120 (Nat.zero_le _)
      have HFL := Lib.hid (show findL L false = R by unfold findL; rw [HM.out, ← hR, HL.out]; rfl)
      have HE := Lib.hid (show errL L = 0 by unfold errL; rw [HM.out]; rfl)
      have HF0 := Lib.hid (HF.out w HB0.out)
      rw [show firstAt L = (R.head?.map (·.1)).getD 0 by unfold firstAt; rw [HFL.out], show firstWith L = (R.head?.map (·.2)).getD 0 by unfold firstWith; rw [HFL.out], show firstIs L = R.head?.isSome by unfold firstIs; rw [HFL.out], HE.out] at HF0
      rw [HFL.out, HE.out] at HA
      rw [hR] at HAL
      clear hR HFL
      cases R with
      | nil =>
        go_enter Try.func7, Try.ntmps7
        go_wp2_with fail
        refine HLG.out.mono ?_
        rintro r w1 ⟨rfl, rfl⟩
        clear HLG
        go_wp2_with fail
        refine HF0.out.mono ?_
        rintro r w1 ⟨rfl, hb1⟩
        have HB1 := Lib.hid hb1
        clear hb1
        go_wp2_with fail
        refine (HA.out _ HB1.out).mono ?_
        rintro r w2 ⟨v, rfl, hown, hb2⟩
        obtain ⟨Av, cv, rfl, hrd, _, _⟩ := own_rd pairC_len hown
        have HB2 := Lib.hid (HB1.out.trans (hb2.mono HB1.out.size))
        have HV := Lib.hid hrd
        clear hb2 hown hrd
        go_wp2_with fail
        refine (HRD.out _ HB2.out).mono ?_
        rintro r w3 ⟨ri, rn, rfl, hri, hb3⟩
        have hri0 : ¬ 0 ≤ ri := by
          rw [HM.out] at hri
          exact of_decide_eq_false hri
        have HB3 := Lib.hid (HB2.out.trans (hb3.mono HB2.out.size))
        have HV3 := Lib.hid ((HV.out.below hb3).more hb3.size)
        clear hri hb3
        go_wp2_with fail
        refine (HAL.out _ HB3.out).mono ?_
        rintro r w4 ⟨v4, rfl, hown, hb4⟩
        obtain ⟨Aw, cw, rfl, hrd, _, _⟩ := own_rd pairC_len hown
        have HB4 := Lib.hid (HB3.out.trans (hb4.mono HB3.out.size))
        have HSM := Lib.hid (same_yes Av Aw 0 cv cw [] w4 rfl (by omega) ((HV3.out.below hb4).more hb4.size) hrd)
        clear hb4 hown hrd
        go_wp2_with fail
        refine HSM.out.mono ?_
        rintro r w5 ⟨rfl, n5, hw5⟩
        have HB5 := Lib.hid (show Below w.heap.size w w5 by rw [hw5]; exact below_drewN HB4.out n5)
        clear hw5
        go_wp2_with fail
        refine (awake_any _).mono ?_
        rintro r w8 ⟨rfl, hb8⟩
        have HB8 := Lib.hid (HB5.out.trans (hb8.mono HB5.out.size))
        clear hb8
        go_wp2
        go_ret
        exact ⟨rfl, HB8.out⟩
      | cons p R =>
        obtain ⟨pu, pv⟩ := p
        obtain ⟨n, hn⟩ : ∃ n, ((pu, pv) :: R).length = n + 1 := ⟨R.length, rfl⟩
        have HN := Lib.hid hn
        have hnI : (0 : Int) < ((n + 1 : Nat) : Int) := by omega
        simp only [hn] at HA HAL hRl
        clear hn
        go_enter Try.func7, Try.ntmps7
        go_wp2_with fail
        refine HLG.out.mono ?_
        rintro r w1 ⟨rfl, rfl⟩
        clear HLG
        go_wp2_with fail
        refine HF0.out.mono ?_
        rintro r w1 ⟨rfl, hb1⟩
        have HB1 := Lib.hid hb1
        clear hb1
        go_wp2_with fail
        refine (HA.out _ HB1.out).mono ?_
        rintro r w2 ⟨v, rfl, hown, hb2⟩
        obtain ⟨Av, cv, rfl, hrd, _, _⟩ := own_rd pairC_len hown
        rw [HN.out]
        have HB2 := Lib.hid (HB1.out.trans (hb2.mono HB1.out.size))
        have HV := Lib.hid hrd
        clear hb2 hown hrd
        go_wp2_with fail
        refine (HRD.out _ HB2.out).mono ?_
        rintro r w3 ⟨ri, rn, rfl, hri, hb3⟩
        have hri0 : ¬ 0 ≤ ri := by
          rw [HM.out] at hri
          exact of_decide_eq_false hri
        have HB3 := Lib.hid (HB2.out.trans (hb3.mono HB2.out.size))
        have HV3 := Lib.hid ((HV.out.below hb3).more hb3.size)
        clear hri hb3
        go_wp2_with fail
        refine (HAL.out _ HB3.out).mono ?_
        rintro r w4 ⟨v4, rfl, hown, hb4⟩
        obtain ⟨Aw, cw, rfl, hrd, _, _⟩ := own_rd pairC_len (by rw [HN.out]; exact hown)
        rw [HN.out]
        have HB4 := Lib.hid (HB3.out.trans (hb4.mono HB3.out.size))
        have HSM := Lib.hid (same_yes Av Aw (n + 1) cv cw ((pu, pv) :: R) w4 HN.out (by omega) ((HV3.out.below hb4).more hb4.size) hrd)
        have HRW := Lib.hid hrd
        clear hb4 hown hrd
        go_wp2_with fail
        refine HSM.out.mono ?_
        rintro r w5 ⟨rfl, n5, hw5⟩
        have HB5 := Lib.hid (show Below w.heap.size w w5 by rw [hw5]; exact below_drewN HB4.out n5)
        obtain ⟨bp, op, rfl, _, x0, x1⟩ := (show Rd w5 w4.heap.size 2 pairC Aw ((pu, pv) :: R) by rw [hw5]; exact HRW.out.drewN n5).pr (k := 0) rfl
        simp only [Nat.zero_mul, Nat.add_zero] at x0 x1
        have ep : (pu == pu) = true := by simp
        have eq : (pv == pv) = true := by simp
        clear hw5
        go_wp2_with fail
        refine (awake_any _).mono ?_
        rintro r w8 ⟨rfl, hb8⟩
        have HB8 := Lib.hid (HB5.out.trans (hb8.mono HB5.out.size))
        clear hb8
        go_wp2
        go_ret
        exact ⟨rfl, HB8.out⟩
end Go.Proofs.Ytpcjcmbhoglnfaa

