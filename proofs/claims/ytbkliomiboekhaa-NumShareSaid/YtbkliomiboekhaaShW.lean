/- NumShare: the walk. -/
import Derived.Test.YtbkliomiboekhaaAw
import Derived.OpenShut
namespace Go.Proofs.Ytbkliomiboekhaa
open Go.RowKit
set_option linter.unusedVariables false

set_option maxHeartbeats 8000000 in
set_option maxRecDepth 100000 in
theorem share_1100 (a b q r p : Int) (w : World)
    (C1 : (∀ w, Calls Try.prog 17 #[.int .i64 a, .int .i64 b] w (Told q 0 w)))
    (C2 : (∀ w, Calls Try.prog 19 #[.int .i64 a, .int .i64 b] w (Told r 0 w)))
    (C3 : (∀ w, Calls Try.prog 15 #[.int .i64 b, .int .i64 q] w (Told p 0 w)))
    (C4 : (∀ w, Calls Try.prog 11 #[.int .i64 p, .int .i64 r] w (Told a 0 w)))
    (z : (b == 0) = false)
    (L : (a == -9223372036854775808) = false)
    (s1 : decide (0 ≤ a) = false)
    (s2 : decide (a ≤ 0) = true)
    (s3 : decide (0 < r) = false)
    (sb : decide (0 < b) = false)
    (F : decide (b < r) = true) :
    Calls Try.prog 8 #[.int .i64 a, .int .i64 b] w fun r w' => r = .returned (.bool true) ∧ Below w.heap.size w w' := by
  have D1 := Lib.hid C1
  have D2 := Lib.hid C2
  have D3 := Lib.hid C3
  have D4 := Lib.hid C4
  clear C1 C2 C3 C4
  go_enter Try.func8, Try.ntmps8
  go_wp2_with fail
  refine (awake_yes _).mono ?_
  rintro r w0 ⟨rfl, hb⟩
  have HB0 := Lib.hid (hb)
  clear hb
  go_wp2_with fail
  refine (D1.out _).mono ?_
  rintro r w1 ⟨rfl, hb⟩
  have HB1 := Lib.hid (HB0.out.trans (hb.mono HB0.out.size))
  clear hb
  go_wp2_with fail
  refine (D2.out _).mono ?_
  rintro r w2 ⟨rfl, hb⟩
  have HB2 := Lib.hid (HB1.out.trans (hb.mono HB1.out.size))
  clear hb
  go_wp2_with fail
  refine (D3.out _).mono ?_
  rintro r w3 ⟨rfl, hb⟩
  have HB3 := Lib.hid (HB2.out.trans (hb.mono HB2.out.size))
  clear hb
  go_wp2_with fail
  refine (D4.out _).mono ?_
  rintro r w4 ⟨rfl, hb⟩
  have HB4 := Lib.hid (HB3.out.trans (hb.mono HB3.out.size))
  clear hb
  go_wp2
  go_ret
  exact ⟨rfl, HB4.out⟩
set_option maxHeartbeats 8000000 in
set_option maxRecDepth 100000 in
theorem share_1101 (a b q r p b1 : Int) (w : World)
    (C1 : (∀ w, Calls Try.prog 17 #[.int .i64 a, .int .i64 b] w (Told q 0 w)))
    (C2 : (∀ w, Calls Try.prog 19 #[.int .i64 a, .int .i64 b] w (Told r 0 w)))
    (C3 : (∀ w, Calls Try.prog 15 #[.int .i64 b, .int .i64 q] w (Told p 0 w)))
    (C4 : (∀ w, Calls Try.prog 11 #[.int .i64 p, .int .i64 r] w (Told a 0 w)))
    (z : (b == 0) = false)
    (L : (a == -9223372036854775808) = false)
    (s1 : decide (0 ≤ a) = false)
    (s2 : decide (a ≤ 0) = true)
    (s3 : decide (0 < r) = false)
    (e2 : wrap64 (-b) = b1)
    (sb : decide (0 < b) = true)
    (F : decide (b1 < r) = true) :
    Calls Try.prog 8 #[.int .i64 a, .int .i64 b] w fun r w' => r = .returned (.bool true) ∧ Below w.heap.size w w' := by
  have D1 := Lib.hid C1
  have D2 := Lib.hid C2
  have D3 := Lib.hid C3
  have D4 := Lib.hid C4
  clear C1 C2 C3 C4
  go_enter Try.func8, Try.ntmps8
  go_wp2_with fail
  refine (awake_yes _).mono ?_
  rintro r w0 ⟨rfl, hb⟩
  have HB0 := Lib.hid (hb)
  clear hb
  go_wp2_with fail
  refine (D1.out _).mono ?_
  rintro r w1 ⟨rfl, hb⟩
  have HB1 := Lib.hid (HB0.out.trans (hb.mono HB0.out.size))
  clear hb
  go_wp2_with fail
  refine (D2.out _).mono ?_
  rintro r w2 ⟨rfl, hb⟩
  have HB2 := Lib.hid (HB1.out.trans (hb.mono HB1.out.size))
  clear hb
  go_wp2_with fail
  refine (D3.out _).mono ?_
  rintro r w3 ⟨rfl, hb⟩
  have HB3 := Lib.hid (HB2.out.trans (hb.mono HB2.out.size))
  clear hb
  go_wp2_with fail
  refine (D4.out _).mono ?_
  rintro r w4 ⟨rfl, hb⟩
  have HB4 := Lib.hid (HB3.out.trans (hb.mono HB3.out.size))
  clear hb
  go_wp2
  go_ret
  exact ⟨rfl, HB4.out⟩
set_option maxHeartbeats 8000000 in
set_option maxRecDepth 100000 in
theorem share_1200 (a b q r p : Int) (w : World)
    (C1 : (∀ w, Calls Try.prog 17 #[.int .i64 a, .int .i64 b] w (Told q 0 w)))
    (C2 : (∀ w, Calls Try.prog 19 #[.int .i64 a, .int .i64 b] w (Told r 0 w)))
    (C3 : (∀ w, Calls Try.prog 15 #[.int .i64 b, .int .i64 q] w (Told p 0 w)))
    (C4 : (∀ w, Calls Try.prog 11 #[.int .i64 p, .int .i64 r] w (Told a 0 w)))
    (z : (b == 0) = false)
    (L : (a == -9223372036854775808) = false)
    (s1 : decide (0 ≤ a) = true)
    (s2 : decide (a ≤ 0) = false)
    (s4 : decide (r < 0) = false)
    (s3 : decide (0 < r) = false)
    (sb : decide (0 < b) = false)
    (F : decide (b < r) = true) :
    Calls Try.prog 8 #[.int .i64 a, .int .i64 b] w fun r w' => r = .returned (.bool true) ∧ Below w.heap.size w w' := by
  have D1 := Lib.hid C1
  have D2 := Lib.hid C2
  have D3 := Lib.hid C3
  have D4 := Lib.hid C4
  clear C1 C2 C3 C4
  go_enter Try.func8, Try.ntmps8
  go_wp2_with fail
  refine (awake_yes _).mono ?_
  rintro r w0 ⟨rfl, hb⟩
  have HB0 := Lib.hid (hb)
  clear hb
  go_wp2_with fail
  refine (D1.out _).mono ?_
  rintro r w1 ⟨rfl, hb⟩
  have HB1 := Lib.hid (HB0.out.trans (hb.mono HB0.out.size))
  clear hb
  go_wp2_with fail
  refine (D2.out _).mono ?_
  rintro r w2 ⟨rfl, hb⟩
  have HB2 := Lib.hid (HB1.out.trans (hb.mono HB1.out.size))
  clear hb
  go_wp2_with fail
  refine (D3.out _).mono ?_
  rintro r w3 ⟨rfl, hb⟩
  have HB3 := Lib.hid (HB2.out.trans (hb.mono HB2.out.size))
  clear hb
  go_wp2_with fail
  refine (D4.out _).mono ?_
  rintro r w4 ⟨rfl, hb⟩
  have HB4 := Lib.hid (HB3.out.trans (hb.mono HB3.out.size))
  clear hb
  go_wp2
  go_ret
  exact ⟨rfl, HB4.out⟩
set_option maxHeartbeats 8000000 in
set_option maxRecDepth 100000 in
theorem share_1201 (a b q r p b1 : Int) (w : World)
    (C1 : (∀ w, Calls Try.prog 17 #[.int .i64 a, .int .i64 b] w (Told q 0 w)))
    (C2 : (∀ w, Calls Try.prog 19 #[.int .i64 a, .int .i64 b] w (Told r 0 w)))
    (C3 : (∀ w, Calls Try.prog 15 #[.int .i64 b, .int .i64 q] w (Told p 0 w)))
    (C4 : (∀ w, Calls Try.prog 11 #[.int .i64 p, .int .i64 r] w (Told a 0 w)))
    (z : (b == 0) = false)
    (L : (a == -9223372036854775808) = false)
    (s1 : decide (0 ≤ a) = true)
    (s2 : decide (a ≤ 0) = false)
    (s4 : decide (r < 0) = false)
    (s3 : decide (0 < r) = false)
    (e2 : wrap64 (-b) = b1)
    (sb : decide (0 < b) = true)
    (F : decide (b1 < r) = true) :
    Calls Try.prog 8 #[.int .i64 a, .int .i64 b] w fun r w' => r = .returned (.bool true) ∧ Below w.heap.size w w' := by
  have D1 := Lib.hid C1
  have D2 := Lib.hid C2
  have D3 := Lib.hid C3
  have D4 := Lib.hid C4
  clear C1 C2 C3 C4
  go_enter Try.func8, Try.ntmps8
  go_wp2_with fail
  refine (awake_yes _).mono ?_
  rintro r w0 ⟨rfl, hb⟩
  have HB0 := Lib.hid (hb)
  clear hb
  go_wp2_with fail
  refine (D1.out _).mono ?_
  rintro r w1 ⟨rfl, hb⟩
  have HB1 := Lib.hid (HB0.out.trans (hb.mono HB0.out.size))
  clear hb
  go_wp2_with fail
  refine (D2.out _).mono ?_
  rintro r w2 ⟨rfl, hb⟩
  have HB2 := Lib.hid (HB1.out.trans (hb.mono HB1.out.size))
  clear hb
  go_wp2_with fail
  refine (D3.out _).mono ?_
  rintro r w3 ⟨rfl, hb⟩
  have HB3 := Lib.hid (HB2.out.trans (hb.mono HB2.out.size))
  clear hb
  go_wp2_with fail
  refine (D4.out _).mono ?_
  rintro r w4 ⟨rfl, hb⟩
  have HB4 := Lib.hid (HB3.out.trans (hb.mono HB3.out.size))
  clear hb
  go_wp2
  go_ret
  exact ⟨rfl, HB4.out⟩
set_option maxHeartbeats 8000000 in
set_option maxRecDepth 100000 in
theorem share_1210 (a b q r p r1 : Int) (w : World)
    (C1 : (∀ w, Calls Try.prog 17 #[.int .i64 a, .int .i64 b] w (Told q 0 w)))
    (C2 : (∀ w, Calls Try.prog 19 #[.int .i64 a, .int .i64 b] w (Told r 0 w)))
    (C3 : (∀ w, Calls Try.prog 15 #[.int .i64 b, .int .i64 q] w (Told p 0 w)))
    (C4 : (∀ w, Calls Try.prog 11 #[.int .i64 p, .int .i64 r] w (Told a 0 w)))
    (z : (b == 0) = false)
    (L : (a == -9223372036854775808) = false)
    (s1 : decide (0 ≤ a) = true)
    (s2 : decide (a ≤ 0) = false)
    (s4 : decide (r < 0) = false)
    (s3 : decide (0 < r) = true)
    (e1 : wrap64 (-r) = r1)
    (sb : decide (0 < b) = false)
    (F : decide (b < r1) = true) :
    Calls Try.prog 8 #[.int .i64 a, .int .i64 b] w fun r w' => r = .returned (.bool true) ∧ Below w.heap.size w w' := by
  have D1 := Lib.hid C1
  have D2 := Lib.hid C2
  have D3 := Lib.hid C3
  have D4 := Lib.hid C4
  clear C1 C2 C3 C4
  go_enter Try.func8, Try.ntmps8
  go_wp2_with fail
  refine (awake_yes _).mono ?_
  rintro r w0 ⟨rfl, hb⟩
  have HB0 := Lib.hid (hb)
  clear hb
  go_wp2_with fail
  refine (D1.out _).mono ?_
  rintro r w1 ⟨rfl, hb⟩
  have HB1 := Lib.hid (HB0.out.trans (hb.mono HB0.out.size))
  clear hb
  go_wp2_with fail
  refine (D2.out _).mono ?_
  rintro r w2 ⟨rfl, hb⟩
  have HB2 := Lib.hid (HB1.out.trans (hb.mono HB1.out.size))
  clear hb
  go_wp2_with fail
  refine (D3.out _).mono ?_
  rintro r w3 ⟨rfl, hb⟩
  have HB3 := Lib.hid (HB2.out.trans (hb.mono HB2.out.size))
  clear hb
  go_wp2_with fail
  refine (D4.out _).mono ?_
  rintro r w4 ⟨rfl, hb⟩
  have HB4 := Lib.hid (HB3.out.trans (hb.mono HB3.out.size))
  clear hb
  go_wp2
  go_ret
  exact ⟨rfl, HB4.out⟩
set_option maxHeartbeats 8000000 in
set_option maxRecDepth 100000 in
theorem share_1211 (a b q r p r1 b1 : Int) (w : World)
    (C1 : (∀ w, Calls Try.prog 17 #[.int .i64 a, .int .i64 b] w (Told q 0 w)))
    (C2 : (∀ w, Calls Try.prog 19 #[.int .i64 a, .int .i64 b] w (Told r 0 w)))
    (C3 : (∀ w, Calls Try.prog 15 #[.int .i64 b, .int .i64 q] w (Told p 0 w)))
    (C4 : (∀ w, Calls Try.prog 11 #[.int .i64 p, .int .i64 r] w (Told a 0 w)))
    (z : (b == 0) = false)
    (L : (a == -9223372036854775808) = false)
    (s1 : decide (0 ≤ a) = true)
    (s2 : decide (a ≤ 0) = false)
    (s4 : decide (r < 0) = false)
    (s3 : decide (0 < r) = true)
    (e1 : wrap64 (-r) = r1)
    (e2 : wrap64 (-b) = b1)
    (sb : decide (0 < b) = true)
    (F : decide (b1 < r1) = true) :
    Calls Try.prog 8 #[.int .i64 a, .int .i64 b] w fun r w' => r = .returned (.bool true) ∧ Below w.heap.size w w' := by
  have D1 := Lib.hid C1
  have D2 := Lib.hid C2
  have D3 := Lib.hid C3
  have D4 := Lib.hid C4
  clear C1 C2 C3 C4
  go_enter Try.func8, Try.ntmps8
  go_wp2_with fail
  refine (awake_yes _).mono ?_
  rintro r w0 ⟨rfl, hb⟩
  have HB0 := Lib.hid (hb)
  clear hb
  go_wp2_with fail
  refine (D1.out _).mono ?_
  rintro r w1 ⟨rfl, hb⟩
  have HB1 := Lib.hid (HB0.out.trans (hb.mono HB0.out.size))
  clear hb
  go_wp2_with fail
  refine (D2.out _).mono ?_
  rintro r w2 ⟨rfl, hb⟩
  have HB2 := Lib.hid (HB1.out.trans (hb.mono HB1.out.size))
  clear hb
  go_wp2_with fail
  refine (D3.out _).mono ?_
  rintro r w3 ⟨rfl, hb⟩
  have HB3 := Lib.hid (HB2.out.trans (hb.mono HB2.out.size))
  clear hb
  go_wp2_with fail
  refine (D4.out _).mono ?_
  rintro r w4 ⟨rfl, hb⟩
  have HB4 := Lib.hid (HB3.out.trans (hb.mono HB3.out.size))
  clear hb
  go_wp2
  go_ret
  exact ⟨rfl, HB4.out⟩
set_option maxHeartbeats 8000000 in
set_option maxRecDepth 100000 in
theorem share_1300 (a b q r p : Int) (w : World)
    (C1 : (∀ w, Calls Try.prog 17 #[.int .i64 a, .int .i64 b] w (Told q 0 w)))
    (C2 : (∀ w, Calls Try.prog 19 #[.int .i64 a, .int .i64 b] w (Told r 0 w)))
    (C3 : (∀ w, Calls Try.prog 15 #[.int .i64 b, .int .i64 q] w (Told p 0 w)))
    (C4 : (∀ w, Calls Try.prog 11 #[.int .i64 p, .int .i64 r] w (Told a 0 w)))
    (z : (b == 0) = false)
    (L : (a == -9223372036854775808) = false)
    (s1 : decide (0 ≤ a) = true)
    (s2 : decide (a ≤ 0) = true)
    (s4 : decide (r < 0) = false)
    (s3 : decide (0 < r) = false)
    (sb : decide (0 < b) = false)
    (F : decide (b < r) = true) :
    Calls Try.prog 8 #[.int .i64 a, .int .i64 b] w fun r w' => r = .returned (.bool true) ∧ Below w.heap.size w w' := by
  have D1 := Lib.hid C1
  have D2 := Lib.hid C2
  have D3 := Lib.hid C3
  have D4 := Lib.hid C4
  clear C1 C2 C3 C4
  go_enter Try.func8, Try.ntmps8
  go_wp2_with fail
  refine (awake_yes _).mono ?_
  rintro r w0 ⟨rfl, hb⟩
  have HB0 := Lib.hid (hb)
  clear hb
  go_wp2_with fail
  refine (D1.out _).mono ?_
  rintro r w1 ⟨rfl, hb⟩
  have HB1 := Lib.hid (HB0.out.trans (hb.mono HB0.out.size))
  clear hb
  go_wp2_with fail
  refine (D2.out _).mono ?_
  rintro r w2 ⟨rfl, hb⟩
  have HB2 := Lib.hid (HB1.out.trans (hb.mono HB1.out.size))
  clear hb
  go_wp2_with fail
  refine (D3.out _).mono ?_
  rintro r w3 ⟨rfl, hb⟩
  have HB3 := Lib.hid (HB2.out.trans (hb.mono HB2.out.size))
  clear hb
  go_wp2_with fail
  refine (D4.out _).mono ?_
  rintro r w4 ⟨rfl, hb⟩
  have HB4 := Lib.hid (HB3.out.trans (hb.mono HB3.out.size))
  clear hb
  go_wp2
  go_ret
  exact ⟨rfl, HB4.out⟩
set_option maxHeartbeats 8000000 in
set_option maxRecDepth 100000 in
theorem share_1301 (a b q r p b1 : Int) (w : World)
    (C1 : (∀ w, Calls Try.prog 17 #[.int .i64 a, .int .i64 b] w (Told q 0 w)))
    (C2 : (∀ w, Calls Try.prog 19 #[.int .i64 a, .int .i64 b] w (Told r 0 w)))
    (C3 : (∀ w, Calls Try.prog 15 #[.int .i64 b, .int .i64 q] w (Told p 0 w)))
    (C4 : (∀ w, Calls Try.prog 11 #[.int .i64 p, .int .i64 r] w (Told a 0 w)))
    (z : (b == 0) = false)
    (L : (a == -9223372036854775808) = false)
    (s1 : decide (0 ≤ a) = true)
    (s2 : decide (a ≤ 0) = true)
    (s4 : decide (r < 0) = false)
    (s3 : decide (0 < r) = false)
    (e2 : wrap64 (-b) = b1)
    (sb : decide (0 < b) = true)
    (F : decide (b1 < r) = true) :
    Calls Try.prog 8 #[.int .i64 a, .int .i64 b] w fun r w' => r = .returned (.bool true) ∧ Below w.heap.size w w' := by
  have D1 := Lib.hid C1
  have D2 := Lib.hid C2
  have D3 := Lib.hid C3
  have D4 := Lib.hid C4
  clear C1 C2 C3 C4
  go_enter Try.func8, Try.ntmps8
  go_wp2_with fail
  refine (awake_yes _).mono ?_
  rintro r w0 ⟨rfl, hb⟩
  have HB0 := Lib.hid (hb)
  clear hb
  go_wp2_with fail
  refine (D1.out _).mono ?_
  rintro r w1 ⟨rfl, hb⟩
  have HB1 := Lib.hid (HB0.out.trans (hb.mono HB0.out.size))
  clear hb
  go_wp2_with fail
  refine (D2.out _).mono ?_
  rintro r w2 ⟨rfl, hb⟩
  have HB2 := Lib.hid (HB1.out.trans (hb.mono HB1.out.size))
  clear hb
  go_wp2_with fail
  refine (D3.out _).mono ?_
  rintro r w3 ⟨rfl, hb⟩
  have HB3 := Lib.hid (HB2.out.trans (hb.mono HB2.out.size))
  clear hb
  go_wp2_with fail
  refine (D4.out _).mono ?_
  rintro r w4 ⟨rfl, hb⟩
  have HB4 := Lib.hid (HB3.out.trans (hb.mono HB3.out.size))
  clear hb
  go_wp2
  go_ret
  exact ⟨rfl, HB4.out⟩
set_option maxHeartbeats 8000000 in
set_option maxRecDepth 100000 in
theorem share_0100 (a b q r p : Int) (w : World)
    (C1 : (∀ w, Calls Try.prog 17 #[.int .i64 a, .int .i64 b] w (Told q 0 w)))
    (C2 : (∀ w, Calls Try.prog 19 #[.int .i64 a, .int .i64 b] w (Told r 0 w)))
    (C3 : (∀ w, Calls Try.prog 15 #[.int .i64 b, .int .i64 q] w (Told p 0 w)))
    (C4 : (∀ w, Calls Try.prog 11 #[.int .i64 p, .int .i64 r] w (Told a 0 w)))
    (z : (b == 0) = false)
    (L : (a == -9223372036854775808) = true)
    (L2 : (b == -1) = false)
    (s1 : decide (0 ≤ a) = false)
    (s2 : decide (a ≤ 0) = true)
    (s3 : decide (0 < r) = false)
    (sb : decide (0 < b) = false)
    (F : decide (b < r) = true) :
    Calls Try.prog 8 #[.int .i64 a, .int .i64 b] w fun r w' => r = .returned (.bool true) ∧ Below w.heap.size w w' := by
  have D1 := Lib.hid C1
  have D2 := Lib.hid C2
  have D3 := Lib.hid C3
  have D4 := Lib.hid C4
  clear C1 C2 C3 C4
  go_enter Try.func8, Try.ntmps8
  go_wp2_with fail
  refine (awake_yes _).mono ?_
  rintro r w0 ⟨rfl, hb⟩
  have HB0 := Lib.hid (hb)
  clear hb
  go_wp2_with fail
  refine (D1.out _).mono ?_
  rintro r w1 ⟨rfl, hb⟩
  have HB1 := Lib.hid (HB0.out.trans (hb.mono HB0.out.size))
  clear hb
  go_wp2_with fail
  refine (D2.out _).mono ?_
  rintro r w2 ⟨rfl, hb⟩
  have HB2 := Lib.hid (HB1.out.trans (hb.mono HB1.out.size))
  clear hb
  go_wp2_with fail
  refine (D3.out _).mono ?_
  rintro r w3 ⟨rfl, hb⟩
  have HB3 := Lib.hid (HB2.out.trans (hb.mono HB2.out.size))
  clear hb
  go_wp2_with fail
  refine (D4.out _).mono ?_
  rintro r w4 ⟨rfl, hb⟩
  have HB4 := Lib.hid (HB3.out.trans (hb.mono HB3.out.size))
  clear hb
  go_wp2
  go_ret
  exact ⟨rfl, HB4.out⟩
set_option maxHeartbeats 8000000 in
set_option maxRecDepth 100000 in
theorem share_0101 (a b q r p b1 : Int) (w : World)
    (C1 : (∀ w, Calls Try.prog 17 #[.int .i64 a, .int .i64 b] w (Told q 0 w)))
    (C2 : (∀ w, Calls Try.prog 19 #[.int .i64 a, .int .i64 b] w (Told r 0 w)))
    (C3 : (∀ w, Calls Try.prog 15 #[.int .i64 b, .int .i64 q] w (Told p 0 w)))
    (C4 : (∀ w, Calls Try.prog 11 #[.int .i64 p, .int .i64 r] w (Told a 0 w)))
    (z : (b == 0) = false)
    (L : (a == -9223372036854775808) = true)
    (L2 : (b == -1) = false)
    (s1 : decide (0 ≤ a) = false)
    (s2 : decide (a ≤ 0) = true)
    (s3 : decide (0 < r) = false)
    (e2 : wrap64 (-b) = b1)
    (sb : decide (0 < b) = true)
    (F : decide (b1 < r) = true) :
    Calls Try.prog 8 #[.int .i64 a, .int .i64 b] w fun r w' => r = .returned (.bool true) ∧ Below w.heap.size w w' := by
  have D1 := Lib.hid C1
  have D2 := Lib.hid C2
  have D3 := Lib.hid C3
  have D4 := Lib.hid C4
  clear C1 C2 C3 C4
  go_enter Try.func8, Try.ntmps8
  go_wp2_with fail
  refine (awake_yes _).mono ?_
  rintro r w0 ⟨rfl, hb⟩
  have HB0 := Lib.hid (hb)
  clear hb
  go_wp2_with fail
  refine (D1.out _).mono ?_
  rintro r w1 ⟨rfl, hb⟩
  have HB1 := Lib.hid (HB0.out.trans (hb.mono HB0.out.size))
  clear hb
  go_wp2_with fail
  refine (D2.out _).mono ?_
  rintro r w2 ⟨rfl, hb⟩
  have HB2 := Lib.hid (HB1.out.trans (hb.mono HB1.out.size))
  clear hb
  go_wp2_with fail
  refine (D3.out _).mono ?_
  rintro r w3 ⟨rfl, hb⟩
  have HB3 := Lib.hid (HB2.out.trans (hb.mono HB2.out.size))
  clear hb
  go_wp2_with fail
  refine (D4.out _).mono ?_
  rintro r w4 ⟨rfl, hb⟩
  have HB4 := Lib.hid (HB3.out.trans (hb.mono HB3.out.size))
  clear hb
  go_wp2
  go_ret
  exact ⟨rfl, HB4.out⟩
set_option maxHeartbeats 8000000 in
set_option maxRecDepth 100000 in
theorem share_zero (a b : Int) (w : World)
    (C1 : (∀ w, Calls Try.prog 17 #[.int .i64 a, .int .i64 b] w (Told 0 11 w)))
    (C2 : (∀ w, Calls Try.prog 19 #[.int .i64 a, .int .i64 b] w (Told 0 11 w)))
    (z : (b == 0) = true) :
    Calls Try.prog 8 #[.int .i64 a, .int .i64 b] w fun r w' => r = .returned (.bool true) ∧ Below w.heap.size w w' := by
  have D1 := Lib.hid C1
  have D2 := Lib.hid C2
  clear C1 C2
  go_enter Try.func8, Try.ntmps8
  go_wp2_with fail
  refine (awake_yes _).mono ?_
  rintro r w0 ⟨rfl, hb⟩
  have HB0 := Lib.hid (hb)
  clear hb
  go_wp2_with fail
  refine (D1.out _).mono ?_
  rintro r w1 ⟨rfl, hb⟩
  have HB1 := Lib.hid (HB0.out.trans (hb.mono HB0.out.size))
  clear hb
  go_wp2_with fail
  refine (D2.out _).mono ?_
  rintro r w2 ⟨rfl, hb⟩
  have HB2 := Lib.hid (HB1.out.trans (hb.mono HB1.out.size))
  clear hb
  go_wp2
  go_ret
  exact ⟨rfl, HB2.out⟩
set_option maxHeartbeats 8000000 in
set_option maxRecDepth 100000 in
theorem share_over (a b : Int) (w : World)
    (C1 : (∀ w, Calls Try.prog 17 #[.int .i64 a, .int .i64 b] w (Told 0 10 w)))
    (C2 : (∀ w, Calls Try.prog 19 #[.int .i64 a, .int .i64 b] w (Told 0 0 w)))
    (z : (b == 0) = false)
    (L : (a == -9223372036854775808) = true)
    (L2 : (b == -1) = true) :
    Calls Try.prog 8 #[.int .i64 a, .int .i64 b] w fun r w' => r = .returned (.bool true) ∧ Below w.heap.size w w' := by
  have D1 := Lib.hid C1
  have D2 := Lib.hid C2
  clear C1 C2
  go_enter Try.func8, Try.ntmps8
  go_wp2_with fail
  refine (awake_yes _).mono ?_
  rintro r w0 ⟨rfl, hb⟩
  have HB0 := Lib.hid (hb)
  clear hb
  go_wp2_with fail
  refine (D1.out _).mono ?_
  rintro r w1 ⟨rfl, hb⟩
  have HB1 := Lib.hid (HB0.out.trans (hb.mono HB0.out.size))
  clear hb
  go_wp2_with fail
  refine (D2.out _).mono ?_
  rintro r w2 ⟨rfl, hb⟩
  have HB2 := Lib.hid (HB1.out.trans (hb.mono HB1.out.size))
  clear hb
  go_wp2
  go_ret
  exact ⟨rfl, HB2.out⟩

theorem neg_in {a : Int} (h1 : -9223372036854775807 ≤ a) (h2 : a ≤ 9223372036854775807) : wrap64 (-a) = -a := by unfold wrap64; omega
theorem share_walk (a b : Int) (w : World) (i0 : (Lit.int .i64 a).wf = true) (i1 : (Lit.int .i64 b).wf = true) :
    Calls Try.prog 8 #[.int .i64 a, .int .i64 b] w fun e w' => e = .returned (.bool true) ∧ Below w.heap.size w w' := by
  obtain ⟨a1, a2⟩ := bounds_i64 i0
  obtain ⟨b1, b2⟩ := bounds_i64 i1
  have C1 := fun w => Div_any a b w a1 a2 b1 b2
  have C2 := fun w => Mod_any a b w a1 a2 b1 b2
  by_cases b0 : b = 0
  · subst b0
    exact share_zero a 0 w C1 C2 rfl
  · simp only [divN_ne b0, divE_ne b0, modN_ne b0, modE_ne b0] at C1 C2
    have z : (b == 0) = false := by rw [beq_eq_false_iff_ne]; exact b0
    by_cases hm : a = -9223372036854775808 ∧ b = -1
    · obtain ⟨rfl, rfl⟩ := hm
      exact share_over _ _ w C1 C2 rfl rfl rfl
    · have hi := share_in (a := a) (inR_iff.2 ⟨a1, a2⟩) b0 hm
      simp only [numR_in hi, errR_in hi] at C1
      have hr := inR_iff.1 (rest_in a1 a2 b0)
      have hq := inR_iff.1 hi
      have hback := share_back a b
      obtain ⟨h1, h2, h3⟩ := share_rest (a := a) b0
      have C3 := fun w => Mul_any b (a.tdiv b) w b1 b2 hq.1 hq.2
      have hp : inR (b * a.tdiv b) = true := by
        rw [inR_iff]
        by_cases h0 : 0 ≤ a
        · have := h1 h0; omega
        · have := h2 (by omega); omega
      simp only [numR_in hp, errR_in hp] at C3
      have C4 := fun w => Add_any (b * a.tdiv b) (a.tmod b) w (inR_iff.1 hp).1 (inR_iff.1 hp).2 hr.1 hr.2
      simp only [hback, numR_in (inR_iff.2 ⟨a1, a2⟩), errR_in (inR_iff.2 ⟨a1, a2⟩)] at C4
      obtain ⟨q, hqq⟩ : ∃ q, q = a.tdiv b := ⟨_, rfl⟩
      obtain ⟨r, hrr⟩ : ∃ r, r = a.tmod b := ⟨_, rfl⟩
      obtain ⟨p, hpp⟩ : ∃ p, p = b * a.tdiv b := ⟨_, rfl⟩
      simp only [← hqq, ← hrr] at C1 C2 C3 C4 h1 h2 h3 hr hpp
      simp only [← hpp] at C3 C4
      clear hq hback hp hi hqq hrr hpp
      by_cases hL : a = -9223372036854775808
      · have L : (a == -9223372036854775808) = true := by rw [beq_iff_eq]; exact hL
        have L2 : (b == -1) = false := by rw [beq_eq_false_iff_ne]; exact fun h => hm ⟨hL, h⟩
        have hr0 := h2 (by omega)
        by_cases hb : 0 < b
        · exact share_0101 a b q r p _ w C1 C2 C3 C4 z L L2 (decide_eq_false (by omega)) (decide_eq_true (by omega)) (decide_eq_false (by omega)) (neg_in (by omega) (by omega)) (decide_eq_true hb) (decide_eq_true (by omega))
        · exact share_0100 a b q r p w C1 C2 C3 C4 z L L2 (decide_eq_false (by omega)) (decide_eq_true (by omega)) (decide_eq_false (by omega)) (decide_eq_false hb) (decide_eq_true (by omega))
      · have L : (a == -9223372036854775808) = false := by rw [beq_eq_false_iff_ne]; exact hL
        rcases Int.lt_trichotomy a 0 with ha | ha | ha
        · have hr0 := h2 (by omega)
          by_cases hb : 0 < b
          · exact share_1101 a b q r p _ w C1 C2 C3 C4 z L (decide_eq_false (by omega)) (decide_eq_true (by omega)) (decide_eq_false (by omega)) (neg_in (by omega) (by omega)) (decide_eq_true hb) (decide_eq_true (by omega))
          · exact share_1100 a b q r p w C1 C2 C3 C4 z L (decide_eq_false (by omega)) (decide_eq_true (by omega)) (decide_eq_false (by omega)) (decide_eq_false hb) (decide_eq_true (by omega))
        · have hr0 := h2 (by omega)
          have hr1 := h1 (by omega)
          by_cases hb : 0 < b
          · exact share_1301 a b q r p _ w C1 C2 C3 C4 z L (decide_eq_true (by omega)) (decide_eq_true (by omega)) (decide_eq_false (by omega)) (decide_eq_false (by omega)) (neg_in (by omega) (by omega)) (decide_eq_true hb) (decide_eq_true (by omega))
          · exact share_1300 a b q r p w C1 C2 C3 C4 z L (decide_eq_true (by omega)) (decide_eq_true (by omega)) (decide_eq_false (by omega)) (decide_eq_false (by omega)) (decide_eq_false hb) (decide_eq_true (by omega))
        · have hr1 := h1 (by omega)
          by_cases hrp : 0 < r
          · by_cases hb : 0 < b
            · exact share_1211 a b q r p _ _ w C1 C2 C3 C4 z L (decide_eq_true (by omega)) (decide_eq_false (by omega)) (decide_eq_false (by omega)) (decide_eq_true hrp) (neg_in (by omega) (by omega)) (neg_in (by omega) (by omega)) (decide_eq_true hb) (decide_eq_true (by omega))
            · exact share_1210 a b q r p _ w C1 C2 C3 C4 z L (decide_eq_true (by omega)) (decide_eq_false (by omega)) (decide_eq_false (by omega)) (decide_eq_true hrp) (neg_in (by omega) (by omega)) (decide_eq_false hb) (decide_eq_true (by omega))
          · by_cases hb : 0 < b
            · exact share_1201 a b q r p _ w C1 C2 C3 C4 z L (decide_eq_true (by omega)) (decide_eq_false (by omega)) (decide_eq_false (by omega)) (decide_eq_false hrp) (neg_in (by omega) (by omega)) (decide_eq_true hb) (decide_eq_true (by omega))
            · exact share_1200 a b q r p w C1 C2 C3 C4 z L (decide_eq_true (by omega)) (decide_eq_false (by omega)) (decide_eq_false (by omega)) (decide_eq_false hrp) (decide_eq_false hb) (decide_eq_true (by omega))
end Go.Proofs.Ytbkliomiboekhaa
