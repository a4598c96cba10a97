/- NumCounts: the walk. -/
import Derived.Test.YtbkliomiboekhaaNF
import Derived.LoopTactic
import Derived.OpenShut
namespace Go.Proofs.Ytbkliomiboekhaa
open Go.RowKit
set_option linter.unusedVariables false

theorem same_yes (a e : Int) (w : World) : Calls Try.prog 23 #[.int .i64 a, .int .i64 e, .int .i64 a, .int .i64 e] w fun r w' => r = .returned (.bool true) ∧ w = w' := by
  go_enter Try.func23, Try.ntmps23
  go_wp2
  go_ret
  exact ⟨rfl, rfl⟩

set_option maxHeartbeats 4000000 in
set_option maxRecDepth 100000 in
theorem counts_walk (a b : Int) (w : World) (i0 : (Lit.int .i64 a).wf = true) (i1 : (Lit.int .i64 b).wf = true) :
    Calls Try.prog 3 #[.int .i64 a, .int .i64 b] w fun e w' => e = .returned (.bool true) ∧ Below w.heap.size w w' := by
  have A := Lib.hid (show -9223372036854775808 ≤ a ∧ a ≤ 9223372036854775807 from bounds_i64 i0)
  have B := Lib.hid (show -9223372036854775808 ≤ b ∧ b ≤ 9223372036854775807 from bounds_i64 i1)
  clear i0 i1
  go_enter Try.func3, Try.ntmps3
  go_wp2
  go_loopw [5] (fun i wr => ∃ k : Nat, k ≤ 6 ∧ i = .int .i64 k ∧ Below w.heap.size w wr) (fun i _ => 6 - (intOf i).toNat)
  case atStart => exact ⟨0, by omega, rfl, Below.refl _ _⟩
  case round =>
    obtain ⟨k, hk, rfl, hbr⟩ := hrel
    have HBR := Lib.hid hbr
    clear hbr
    have hc : k = 0 ∨ k = 1 ∨ k = 2 ∨ k = 3 ∨ k = 4 ∨ k = 5 ∨ k = 6 := by omega
    rcases hc with rfl | rfl | rfl | rfl | rfl | rfl | rfl
    · go_wp2_with fail
      refine (Add_any a b _ A.out.1 A.out.2 B.out.1 B.out.2).mono ?_
      rintro r w1 ⟨rfl, hb1⟩
      have HB1 := Lib.hid ((HBR.out).trans (hb1.mono (HBR.out).size))
      clear hb1
      go_wp2_with fail
      refine (refAdd_any a b _ A.out.1 A.out.2 B.out.1 B.out.2).mono ?_
      rintro r w2 ⟨rfl, hb2⟩
      have HB2 := Lib.hid ((HB1.out).trans (hb2.mono (HB1.out).size))
      clear hb2
      go_wp2_with fail
      refine (same_yes _ _ _).mono ?_
      rintro r w5 ⟨rfl, rfl⟩
      go_wp2
      go_roundw
      case rel => exact ⟨1, by omega, rfl, HB2.out⟩
      case measure => decide
    · go_wp2_with fail
      refine (Add_any a b _ A.out.1 A.out.2 B.out.1 B.out.2).mono ?_
      rintro r w1 ⟨rfl, hb1⟩
      have HB1 := Lib.hid ((HBR.out).trans (hb1.mono (HBR.out).size))
      clear hb1
      go_wp2_with fail
      refine (refAdd_any a b _ A.out.1 A.out.2 B.out.1 B.out.2).mono ?_
      rintro r w2 ⟨rfl, hb2⟩
      have HB2 := Lib.hid ((HB1.out).trans (hb2.mono (HB1.out).size))
      clear hb2
      go_wp2_with fail
      refine (Sub_any a b _ A.out.1 A.out.2 B.out.1 B.out.2).mono ?_
      rintro r w3 ⟨rfl, hb3⟩
      have HB3 := Lib.hid ((HB2.out).trans (hb3.mono (HB2.out).size))
      clear hb3
      go_wp2_with fail
      refine (refSub_any a b _ A.out.1 A.out.2 B.out.1 B.out.2).mono ?_
      rintro r w4 ⟨rfl, hb4⟩
      have HB4 := Lib.hid ((HB3.out).trans (hb4.mono (HB3.out).size))
      clear hb4
      go_wp2_with fail
      refine (same_yes _ _ _).mono ?_
      rintro r w5 ⟨rfl, rfl⟩
      go_wp2
      go_roundw
      case rel => exact ⟨2, by omega, rfl, HB4.out⟩
      case measure => decide
    · go_wp2_with fail
      refine (Add_any a b _ A.out.1 A.out.2 B.out.1 B.out.2).mono ?_
      rintro r w1 ⟨rfl, hb1⟩
      have HB1 := Lib.hid ((HBR.out).trans (hb1.mono (HBR.out).size))
      clear hb1
      go_wp2_with fail
      refine (refAdd_any a b _ A.out.1 A.out.2 B.out.1 B.out.2).mono ?_
      rintro r w2 ⟨rfl, hb2⟩
      have HB2 := Lib.hid ((HB1.out).trans (hb2.mono (HB1.out).size))
      clear hb2
      go_wp2_with fail
      refine (Mul_any a b _ A.out.1 A.out.2 B.out.1 B.out.2).mono ?_
      rintro r w3 ⟨rfl, hb3⟩
      have HB3 := Lib.hid ((HB2.out).trans (hb3.mono (HB2.out).size))
      clear hb3
      go_wp2_with fail
      refine (refMul_any a b _ A.out.1 A.out.2 B.out.1 B.out.2).mono ?_
      rintro r w4 ⟨rfl, hb4⟩
      have HB4 := Lib.hid ((HB3.out).trans (hb4.mono (HB3.out).size))
      clear hb4
      go_wp2_with fail
      refine (same_yes _ _ _).mono ?_
      rintro r w5 ⟨rfl, rfl⟩
      go_wp2
      go_roundw
      case rel => exact ⟨3, by omega, rfl, HB4.out⟩
      case measure => decide
    · go_wp2_with fail
      refine (Add_any a b _ A.out.1 A.out.2 B.out.1 B.out.2).mono ?_
      rintro r w1 ⟨rfl, hb1⟩
      have HB1 := Lib.hid ((HBR.out).trans (hb1.mono (HBR.out).size))
      clear hb1
      go_wp2_with fail
      refine (refAdd_any a b _ A.out.1 A.out.2 B.out.1 B.out.2).mono ?_
      rintro r w2 ⟨rfl, hb2⟩
      have HB2 := Lib.hid ((HB1.out).trans (hb2.mono (HB1.out).size))
      clear hb2
      go_wp2_with fail
      refine (Div_any a b _ A.out.1 A.out.2 B.out.1 B.out.2).mono ?_
      rintro r w3 ⟨rfl, hb3⟩
      have HB3 := Lib.hid ((HB2.out).trans (hb3.mono (HB2.out).size))
      clear hb3
      go_wp2_with fail
      refine (refDiv_any a b _ A.out.1 A.out.2 B.out.1 B.out.2).mono ?_
      rintro r w4 ⟨rfl, hb4⟩
      have HB4 := Lib.hid ((HB3.out).trans (hb4.mono (HB3.out).size))
      clear hb4
      go_wp2_with fail
      refine (same_yes _ _ _).mono ?_
      rintro r w5 ⟨rfl, rfl⟩
      go_wp2
      go_roundw
      case rel => exact ⟨4, by omega, rfl, HB4.out⟩
      case measure => decide
    · go_wp2_with fail
      refine (Add_any a b _ A.out.1 A.out.2 B.out.1 B.out.2).mono ?_
      rintro r w1 ⟨rfl, hb1⟩
      have HB1 := Lib.hid ((HBR.out).trans (hb1.mono (HBR.out).size))
      clear hb1
      go_wp2_with fail
      refine (refAdd_any a b _ A.out.1 A.out.2 B.out.1 B.out.2).mono ?_
      rintro r w2 ⟨rfl, hb2⟩
      have HB2 := Lib.hid ((HB1.out).trans (hb2.mono (HB1.out).size))
      clear hb2
      go_wp2_with fail
      refine (Mod_any a b _ A.out.1 A.out.2 B.out.1 B.out.2).mono ?_
      rintro r w3 ⟨rfl, hb3⟩
      have HB3 := Lib.hid ((HB2.out).trans (hb3.mono (HB2.out).size))
      clear hb3
      go_wp2_with fail
      refine (refMod_any a b _ A.out.1 A.out.2 B.out.1 B.out.2).mono ?_
      rintro r w4 ⟨rfl, hb4⟩
      have HB4 := Lib.hid ((HB3.out).trans (hb4.mono (HB3.out).size))
      clear hb4
      go_wp2_with fail
      refine (same_yes _ _ _).mono ?_
      rintro r w5 ⟨rfl, rfl⟩
      go_wp2
      go_roundw
      case rel => exact ⟨5, by omega, rfl, HB4.out⟩
      case measure => decide
    · go_wp2_with fail
      refine (Add_any a b _ A.out.1 A.out.2 B.out.1 B.out.2).mono ?_
      rintro r w1 ⟨rfl, hb1⟩
      have HB1 := Lib.hid ((HBR.out).trans (hb1.mono (HBR.out).size))
      clear hb1
      go_wp2_with fail
      refine (refAdd_any a b _ A.out.1 A.out.2 B.out.1 B.out.2).mono ?_
      rintro r w2 ⟨rfl, hb2⟩
      have HB2 := Lib.hid ((HB1.out).trans (hb2.mono (HB1.out).size))
      clear hb2
      go_wp2_with fail
      refine (Neg_any a _ A.out.1 A.out.2).mono ?_
      rintro r w3 ⟨rfl, hb3⟩
      have HB3 := Lib.hid ((HB2.out).trans (hb3.mono (HB2.out).size))
      clear hb3
      go_wp2_with fail
      refine (refNeg_any a _ A.out.1 A.out.2).mono ?_
      rintro r w4 ⟨rfl, hb4⟩
      have HB4 := Lib.hid ((HB3.out).trans (hb4.mono (HB3.out).size))
      clear hb4
      go_wp2_with fail
      refine (same_yes _ _ _).mono ?_
      rintro r w5 ⟨rfl, rfl⟩
      go_wp2
      go_roundw
      case rel => exact ⟨6, by omega, rfl, HB4.out⟩
      case measure => decide
    · go_wp2
      go_ret
      exact ⟨rfl, HBR.out⟩
end Go.Proofs.Ytbkliomiboekhaa
