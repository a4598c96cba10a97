/- Numbers: says, awake. -/
import Derived.Test.YtbkliomiboekhaaPB
namespace Go.Proofs.Ytbkliomiboekhaa
open Go.RowKit
set_option linter.unusedVariables false

theorem says_yes (s : ByteArray) (n e : Int) (w : World) (hs : s.size ≤ maxLen) (hn : parN s.data.toList = n) (he : parE s.data.toList = e) :
    Calls Try.prog 29 #[.string s, .int .i64 n, .int .i64 e] w fun r w' => r = .returned (.bool true) ∧ Below w.heap.size w w' := by
  subst hn
  subst he
  have HP := Lib.hid (parse_any s w hs)
  clear hs
  go_enter Try.func29, Try.ntmps29
  go_wp2_with fail
  refine HP.out.mono ?_
  rintro r w' ⟨rfl, hb⟩
  have HB := Lib.hid hb
  clear hb
  go_wp2
  go_ret
  exact ⟨rfl, HB.out⟩
theorem told_of {F : FuncId} {args : Array Value} {w : World} {n e : Int} (n' e' : Int) (h : Calls Try.prog F args w (Told n e w)) (hn : n = n') (he : e = e') : Calls Try.prog F args w (Told n' e' w) := by
  subst hn; subst he; exact h

theorem aw0 (w : World) : Calls Try.prog 11 #[.int .i64 40, .int .i64 2] w (Told 42 0 w) := told_of 42 0 (Add_any 40 2 w (by omega) (by omega) (by omega) (by omega)) (by decide) (by decide)
theorem aw1 (w : World) : Calls Try.prog 11 #[.int .i64 9223372036854775807, .int .i64 1] w (Told 0 10 w) := told_of 0 10 (Add_any 9223372036854775807 1 w (by omega) (by omega) (by omega) (by omega)) (by decide) (by decide)
theorem aw2 (w : World) : Calls Try.prog 11 #[.int .i64 (-9223372036854775808), .int .i64 9223372036854775807] w (Told (-1) 0 w) := told_of (-1) 0 (Add_any (-9223372036854775808) 9223372036854775807 w (by omega) (by omega) (by omega) (by omega)) (by decide) (by decide)
theorem aw3 (w : World) : Calls Try.prog 13 #[.int .i64 0, .int .i64 (-9223372036854775808)] w (Told 0 10 w) := told_of 0 10 (Sub_any 0 (-9223372036854775808) w (by omega) (by omega) (by omega) (by omega)) (by decide) (by decide)
theorem aw4 (w : World) : Calls Try.prog 21 #[.int .i64 (-9223372036854775808)] w (Told 0 10 w) := told_of 0 10 (Neg_any (-9223372036854775808) w (by omega) (by omega)) (by decide) (by decide)
theorem aw5 (w : World) : Calls Try.prog 15 #[.int .i64 3, .int .i64 (-4)] w (Told (-12) 0 w) := told_of (-12) 0 (Mul_any 3 (-4) w (by omega) (by omega) (by omega) (by omega)) (by decide) (by decide)
theorem aw6 (w : World) : Calls Try.prog 15 #[.int .i64 4611686018427387904, .int .i64 2] w (Told 0 10 w) := told_of 0 10 (Mul_any 4611686018427387904 2 w (by omega) (by omega) (by omega) (by omega)) (by decide) (by decide)
theorem aw7 (w : World) : Calls Try.prog 15 #[.int .i64 (-4611686018427387904), .int .i64 2] w (Told (-9223372036854775808) 0 w) := told_of (-9223372036854775808) 0 (Mul_any (-4611686018427387904) 2 w (by omega) (by omega) (by omega) (by omega)) (by decide) (by decide)
theorem aw8 (w : World) : Calls Try.prog 17 #[.int .i64 (-17), .int .i64 5] w (Told (-3) 0 w) := told_of (-3) 0 (Div_any (-17) 5 w (by omega) (by omega) (by omega) (by omega)) (by decide) (by decide)
theorem aw9 (w : World) : Calls Try.prog 19 #[.int .i64 (-17), .int .i64 5] w (Told (-2) 0 w) := told_of (-2) 0 (Mod_any (-17) 5 w (by omega) (by omega) (by omega) (by omega)) (by decide) (by decide)
theorem aw10 (w : World) : Calls Try.prog 17 #[.int .i64 17, .int .i64 (-5)] w (Told (-3) 0 w) := told_of (-3) 0 (Div_any 17 (-5) w (by omega) (by omega) (by omega) (by omega)) (by decide) (by decide)
theorem aw11 (w : World) : Calls Try.prog 19 #[.int .i64 17, .int .i64 (-5)] w (Told 2 0 w) := told_of 2 0 (Mod_any 17 (-5) w (by omega) (by omega) (by omega) (by omega)) (by decide) (by decide)
theorem aw12 (w : World) : Calls Try.prog 17 #[.int .i64 1, .int .i64 0] w (Told 0 11 w) := told_of 0 11 (Div_any 1 0 w (by omega) (by omega) (by omega) (by omega)) (by decide) (by decide)
theorem sy0 (w : World) : Calls Try.prog 29 #[.string ⟨#[48, 48, 52, 50]⟩, .int .i64 42, .int .i64 0] w fun r w' => r = .returned (.bool true) ∧ Below w.heap.size w w' := says_yes _ _ _ _ (by decide) (by decide) (by decide)
theorem sy1 (w : World) : Calls Try.prog 29 #[.string ⟨#[45, 55]⟩, .int .i64 (-7), .int .i64 0] w fun r w' => r = .returned (.bool true) ∧ Below w.heap.size w w' := says_yes _ _ _ _ (by decide) (by decide) (by decide)
theorem sy2 (w : World) : Calls Try.prog 29 #[.string ⟨#[45, 48, 55]⟩, .int .i64 0, .int .i64 2] w fun r w' => r = .returned (.bool true) ∧ Below w.heap.size w w' := says_yes _ _ _ _ (by decide) (by decide) (by decide)
theorem sy3 (w : World) : Calls Try.prog 29 #[.string ⟨#[]⟩, .int .i64 0, .int .i64 2] w fun r w' => r = .returned (.bool true) ∧ Below w.heap.size w w' := says_yes _ _ _ _ (by decide) (by decide) (by decide)
theorem sy4 (w : World) : Calls Try.prog 29 #[.string ⟨#[52, 32, 50]⟩, .int .i64 0, .int .i64 2] w fun r w' => r = .returned (.bool true) ∧ Below w.heap.size w w' := says_yes _ _ _ _ (by decide) (by decide) (by decide)
theorem sy5 (w : World) : Calls Try.prog 29 #[.string ⟨#[57, 57, 57, 57, 57, 57, 57, 57, 57, 57, 57, 57, 57, 57, 57, 57, 57, 57, 57, 57]⟩, .int .i64 0, .int .i64 10] w fun r w' => r = .returned (.bool true) ∧ Below w.heap.size w w' := says_yes _ _ _ _ (by decide) (by decide) (by decide)

set_option maxHeartbeats 4000000 in
set_option maxRecDepth 100000 in
theorem awake_yes (w : World) : Calls Try.prog 28 #[] w fun r w' => r = .returned (.bool true) ∧ Below w.heap.size w w' := by
  have HB0 := Lib.hid (Below.refl w.heap.size w)
  go_enter Try.func28, Try.ntmps28
  go_wp2_with fail
  refine (aw0 _).mono ?_
  rintro r w1 ⟨rfl, hb⟩
  have HB1 := Lib.hid (HB0.out.trans (hb.mono HB0.out.size))
  clear hb HB0
  go_wp2_with fail
  refine (aw1 _).mono ?_
  rintro r w2 ⟨rfl, hb⟩
  have HB2 := Lib.hid (HB1.out.trans (hb.mono HB1.out.size))
  clear hb HB1
  go_wp2_with fail
  refine (aw2 _).mono ?_
  rintro r w3 ⟨rfl, hb⟩
  have HB3 := Lib.hid (HB2.out.trans (hb.mono HB2.out.size))
  clear hb HB2
  go_wp2_with fail
  refine (aw3 _).mono ?_
  rintro r w4 ⟨rfl, hb⟩
  have HB4 := Lib.hid (HB3.out.trans (hb.mono HB3.out.size))
  clear hb HB3
  go_wp2_with fail
  refine (aw4 _).mono ?_
  rintro r w5 ⟨rfl, hb⟩
  have HB5 := Lib.hid (HB4.out.trans (hb.mono HB4.out.size))
  clear hb HB4
  go_wp2_with fail
  refine (aw5 _).mono ?_
  rintro r w6 ⟨rfl, hb⟩
  have HB6 := Lib.hid (HB5.out.trans (hb.mono HB5.out.size))
  clear hb HB5
  go_wp2_with fail
  refine (aw6 _).mono ?_
  rintro r w7 ⟨rfl, hb⟩
  have HB7 := Lib.hid (HB6.out.trans (hb.mono HB6.out.size))
  clear hb HB6
  go_wp2_with fail
  refine (aw7 _).mono ?_
  rintro r w8 ⟨rfl, hb⟩
  have HB8 := Lib.hid (HB7.out.trans (hb.mono HB7.out.size))
  clear hb HB7
  go_wp2_with fail
  refine (aw8 _).mono ?_
  rintro r w9 ⟨rfl, hb⟩
  have HB9 := Lib.hid (HB8.out.trans (hb.mono HB8.out.size))
  clear hb HB8
  go_wp2_with fail
  refine (aw9 _).mono ?_
  rintro r w10 ⟨rfl, hb⟩
  have HB10 := Lib.hid (HB9.out.trans (hb.mono HB9.out.size))
  clear hb HB9
  go_wp2_with fail
  refine (aw10 _).mono ?_
  rintro r w11 ⟨rfl, hb⟩
  have HB11 := Lib.hid (HB10.out.trans (hb.mono HB10.out.size))
  clear hb HB10
  go_wp2_with fail
  refine (aw11 _).mono ?_
  rintro r w12 ⟨rfl, hb⟩
  have HB12 := Lib.hid (HB11.out.trans (hb.mono HB11.out.size))
  clear hb HB11
  go_wp2_with fail
  refine (aw12 _).mono ?_
  rintro r w13 ⟨rfl, hb⟩
  have HB13 := Lib.hid (HB12.out.trans (hb.mono HB12.out.size))
  clear hb HB12
  go_wp2_with fail
  refine (sy0 _).mono ?_
  rintro r w14 ⟨rfl, hb⟩
  have HB14 := Lib.hid (HB13.out.trans (hb.mono HB13.out.size))
  clear hb HB13
  go_wp2_with fail
  refine (sy1 _).mono ?_
  rintro r w15 ⟨rfl, hb⟩
  have HB15 := Lib.hid (HB14.out.trans (hb.mono HB14.out.size))
  clear hb HB14
  go_wp2_with fail
  refine (sy2 _).mono ?_
  rintro r w16 ⟨rfl, hb⟩
  have HB16 := Lib.hid (HB15.out.trans (hb.mono HB15.out.size))
  clear hb HB15
  go_wp2_with fail
  refine (sy3 _).mono ?_
  rintro r w17 ⟨rfl, hb⟩
  have HB17 := Lib.hid (HB16.out.trans (hb.mono HB16.out.size))
  clear hb HB16
  go_wp2_with fail
  refine (sy4 _).mono ?_
  rintro r w18 ⟨rfl, hb⟩
  have HB18 := Lib.hid (HB17.out.trans (hb.mono HB17.out.size))
  clear hb HB17
  go_wp2_with fail
  refine (sy5 _).mono ?_
  rintro r w19 ⟨rfl, hb⟩
  have HB19 := Lib.hid (HB18.out.trans (hb.mono HB18.out.size))
  clear hb HB18
  go_wp2
  go_ret
  exact ⟨rfl, HB19.out⟩
end Go.Proofs.Ytbkliomiboekhaa
