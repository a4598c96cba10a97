/- NumGoes: the walk. -/
import Derived.Test.YtbkliomiboekhaaAw
import Derived.OpenShut
namespace Go.Proofs.Ytbkliomiboekhaa
open Go.RowKit
set_option linter.unusedVariables false

set_option maxHeartbeats 8000000 in
set_option maxRecDepth 100000 in
theorem goes_up (a b up dn x y f : Int) (w : World)
    (C1 : (∀ w, Calls Try.prog 13 #[.int .i64 9223372036854775807, .int .i64 a] w (Told up 0 w)))
    (C2 : (∀ w, Calls Try.prog 13 #[.int .i64 (-9223372036854775808), .int .i64 a] w (Told dn f w)))
    (C3 : (∀ w, Calls Try.prog 11 #[.int .i64 a, .int .i64 b] w (Told x 10 w)))
    (C4 : (∀ w, Calls Try.prog 13 #[.int .i64 a, .int .i64 b] w (Told y 0 w)))
    (u : decide (up < b) = true) :
    Calls Try.prog 7 #[.int .i64 a, .int .i64 b] w fun r w' => r = .returned (.bool true) ∧ Below w.heap.size w w' := by
  have D1 := Lib.hid C1
  have D2 := Lib.hid C2
  have D3 := Lib.hid C3
  have D4 := Lib.hid C4
  clear C1 C2 C3 C4
  go_enter Try.func7, Try.ntmps7
  go_wp2_with fail
  refine (awake_yes _).mono ?_
  rintro r w0 ⟨rfl, hb⟩
  have HB0 := Lib.hid (hb)
  clear hb
  go_wp2_with fail
  refine (D1.out _).mono ?_
  rintro r w1 ⟨rfl, hb⟩
  have HB1 := Lib.hid (HB0.out.trans (hb.mono HB0.out.size))
  clear hb
  go_wp2_with fail
  refine (D2.out _).mono ?_
  rintro r w2 ⟨rfl, hb⟩
  have HB2 := Lib.hid (HB1.out.trans (hb.mono HB1.out.size))
  clear hb
  go_wp2_with fail
  refine (D3.out _).mono ?_
  rintro r w3 ⟨rfl, hb⟩
  have HB3 := Lib.hid (HB2.out.trans (hb.mono HB2.out.size))
  clear hb
  go_wp2_with fail
  refine (D4.out _).mono ?_
  rintro r w4 ⟨rfl, hb⟩
  have HB4 := Lib.hid (HB3.out.trans (hb.mono HB3.out.size))
  clear hb
  go_wp2
  go_ret
  exact ⟨rfl, HB4.out⟩
set_option maxHeartbeats 8000000 in
set_option maxRecDepth 100000 in
theorem goes_dn (a b up dn x y : Int) (w : World)
    (C1 : (∀ w, Calls Try.prog 13 #[.int .i64 9223372036854775807, .int .i64 a] w (Told up 0 w)))
    (C2 : (∀ w, Calls Try.prog 13 #[.int .i64 (-9223372036854775808), .int .i64 a] w (Told dn 0 w)))
    (C3 : (∀ w, Calls Try.prog 11 #[.int .i64 a, .int .i64 b] w (Told x 10 w)))
    (C4 : (∀ w, Calls Try.prog 13 #[.int .i64 a, .int .i64 b] w (Told y 0 w)))
    (u : decide (up < b) = false)
    (d : decide (b < dn) = true) :
    Calls Try.prog 7 #[.int .i64 a, .int .i64 b] w fun r w' => r = .returned (.bool true) ∧ Below w.heap.size w w' := by
  have D1 := Lib.hid C1
  have D2 := Lib.hid C2
  have D3 := Lib.hid C3
  have D4 := Lib.hid C4
  clear C1 C2 C3 C4
  go_enter Try.func7, Try.ntmps7
  go_wp2_with fail
  refine (awake_yes _).mono ?_
  rintro r w0 ⟨rfl, hb⟩
  have HB0 := Lib.hid (hb)
  clear hb
  go_wp2_with fail
  refine (D1.out _).mono ?_
  rintro r w1 ⟨rfl, hb⟩
  have HB1 := Lib.hid (HB0.out.trans (hb.mono HB0.out.size))
  clear hb
  go_wp2_with fail
  refine (D2.out _).mono ?_
  rintro r w2 ⟨rfl, hb⟩
  have HB2 := Lib.hid (HB1.out.trans (hb.mono HB1.out.size))
  clear hb
  go_wp2_with fail
  refine (D3.out _).mono ?_
  rintro r w3 ⟨rfl, hb⟩
  have HB3 := Lib.hid (HB2.out.trans (hb.mono HB2.out.size))
  clear hb
  go_wp2_with fail
  refine (D4.out _).mono ?_
  rintro r w4 ⟨rfl, hb⟩
  have HB4 := Lib.hid (HB3.out.trans (hb.mono HB3.out.size))
  clear hb
  go_wp2
  go_ret
  exact ⟨rfl, HB4.out⟩
set_option maxHeartbeats 8000000 in
set_option maxRecDepth 100000 in
theorem goes_dn2 (a b up dn x y : Int) (w : World)
    (C1 : (∀ w, Calls Try.prog 13 #[.int .i64 9223372036854775807, .int .i64 a] w (Told up 10 w)))
    (C2 : (∀ w, Calls Try.prog 13 #[.int .i64 (-9223372036854775808), .int .i64 a] w (Told dn 0 w)))
    (C3 : (∀ w, Calls Try.prog 11 #[.int .i64 a, .int .i64 b] w (Told x 10 w)))
    (C4 : (∀ w, Calls Try.prog 13 #[.int .i64 a, .int .i64 b] w (Told y 0 w)))
    (d : decide (b < dn) = true) :
    Calls Try.prog 7 #[.int .i64 a, .int .i64 b] w fun r w' => r = .returned (.bool true) ∧ Below w.heap.size w w' := by
  have D1 := Lib.hid C1
  have D2 := Lib.hid C2
  have D3 := Lib.hid C3
  have D4 := Lib.hid C4
  clear C1 C2 C3 C4
  go_enter Try.func7, Try.ntmps7
  go_wp2_with fail
  refine (awake_yes _).mono ?_
  rintro r w0 ⟨rfl, hb⟩
  have HB0 := Lib.hid (hb)
  clear hb
  go_wp2_with fail
  refine (D1.out _).mono ?_
  rintro r w1 ⟨rfl, hb⟩
  have HB1 := Lib.hid (HB0.out.trans (hb.mono HB0.out.size))
  clear hb
  go_wp2_with fail
  refine (D2.out _).mono ?_
  rintro r w2 ⟨rfl, hb⟩
  have HB2 := Lib.hid (HB1.out.trans (hb.mono HB1.out.size))
  clear hb
  go_wp2_with fail
  refine (D3.out _).mono ?_
  rintro r w3 ⟨rfl, hb⟩
  have HB3 := Lib.hid (HB2.out.trans (hb.mono HB2.out.size))
  clear hb
  go_wp2_with fail
  refine (D4.out _).mono ?_
  rintro r w4 ⟨rfl, hb⟩
  have HB4 := Lib.hid (HB3.out.trans (hb.mono HB3.out.size))
  clear hb
  go_wp2
  go_ret
  exact ⟨rfl, HB4.out⟩
set_option maxHeartbeats 8000000 in
set_option maxRecDepth 100000 in
theorem goes_no (a b up dn x y h : Int) (w : World)
    (C1 : (∀ w, Calls Try.prog 13 #[.int .i64 9223372036854775807, .int .i64 a] w (Told up 0 w)))
    (C2 : (∀ w, Calls Try.prog 13 #[.int .i64 (-9223372036854775808), .int .i64 a] w (Told dn 0 w)))
    (C3 : (∀ w, Calls Try.prog 11 #[.int .i64 a, .int .i64 b] w (Told x 0 w)))
    (C4 : (∀ w, Calls Try.prog 13 #[.int .i64 a, .int .i64 b] w (Told y h w)))
    (u : decide (up < b) = false)
    (d : decide (b < dn) = false) :
    Calls Try.prog 7 #[.int .i64 a, .int .i64 b] w fun r w' => r = .returned (.bool true) ∧ Below w.heap.size w w' := by
  have D1 := Lib.hid C1
  have D2 := Lib.hid C2
  have D3 := Lib.hid C3
  have D4 := Lib.hid C4
  clear C1 C2 C3 C4
  go_enter Try.func7, Try.ntmps7
  go_wp2_with fail
  refine (awake_yes _).mono ?_
  rintro r w0 ⟨rfl, hb⟩
  have HB0 := Lib.hid (hb)
  clear hb
  go_wp2_with fail
  refine (D1.out _).mono ?_
  rintro r w1 ⟨rfl, hb⟩
  have HB1 := Lib.hid (HB0.out.trans (hb.mono HB0.out.size))
  clear hb
  go_wp2_with fail
  refine (D2.out _).mono ?_
  rintro r w2 ⟨rfl, hb⟩
  have HB2 := Lib.hid (HB1.out.trans (hb.mono HB1.out.size))
  clear hb
  go_wp2_with fail
  refine (D3.out _).mono ?_
  rintro r w3 ⟨rfl, hb⟩
  have HB3 := Lib.hid (HB2.out.trans (hb.mono HB2.out.size))
  clear hb
  go_wp2_with fail
  refine (D4.out _).mono ?_
  rintro r w4 ⟨rfl, hb⟩
  have HB4 := Lib.hid (HB3.out.trans (hb.mono HB3.out.size))
  clear hb
  go_wp2
  go_ret
  exact ⟨rfl, HB4.out⟩
set_option maxHeartbeats 8000000 in
set_option maxRecDepth 100000 in
theorem goes_no1 (a b up dn x y h : Int) (w : World)
    (C1 : (∀ w, Calls Try.prog 13 #[.int .i64 9223372036854775807, .int .i64 a] w (Told up 0 w)))
    (C2 : (∀ w, Calls Try.prog 13 #[.int .i64 (-9223372036854775808), .int .i64 a] w (Told dn 10 w)))
    (C3 : (∀ w, Calls Try.prog 11 #[.int .i64 a, .int .i64 b] w (Told x 0 w)))
    (C4 : (∀ w, Calls Try.prog 13 #[.int .i64 a, .int .i64 b] w (Told y h w)))
    (u : decide (up < b) = false) :
    Calls Try.prog 7 #[.int .i64 a, .int .i64 b] w fun r w' => r = .returned (.bool true) ∧ Below w.heap.size w w' := by
  have D1 := Lib.hid C1
  have D2 := Lib.hid C2
  have D3 := Lib.hid C3
  have D4 := Lib.hid C4
  clear C1 C2 C3 C4
  go_enter Try.func7, Try.ntmps7
  go_wp2_with fail
  refine (awake_yes _).mono ?_
  rintro r w0 ⟨rfl, hb⟩
  have HB0 := Lib.hid (hb)
  clear hb
  go_wp2_with fail
  refine (D1.out _).mono ?_
  rintro r w1 ⟨rfl, hb⟩
  have HB1 := Lib.hid (HB0.out.trans (hb.mono HB0.out.size))
  clear hb
  go_wp2_with fail
  refine (D2.out _).mono ?_
  rintro r w2 ⟨rfl, hb⟩
  have HB2 := Lib.hid (HB1.out.trans (hb.mono HB1.out.size))
  clear hb
  go_wp2_with fail
  refine (D3.out _).mono ?_
  rintro r w3 ⟨rfl, hb⟩
  have HB3 := Lib.hid (HB2.out.trans (hb.mono HB2.out.size))
  clear hb
  go_wp2_with fail
  refine (D4.out _).mono ?_
  rintro r w4 ⟨rfl, hb⟩
  have HB4 := Lib.hid (HB3.out.trans (hb.mono HB3.out.size))
  clear hb
  go_wp2
  go_ret
  exact ⟨rfl, HB4.out⟩
set_option maxHeartbeats 8000000 in
set_option maxRecDepth 100000 in
theorem goes_no2 (a b up dn x y h : Int) (w : World)
    (C1 : (∀ w, Calls Try.prog 13 #[.int .i64 9223372036854775807, .int .i64 a] w (Told up 10 w)))
    (C2 : (∀ w, Calls Try.prog 13 #[.int .i64 (-9223372036854775808), .int .i64 a] w (Told dn 0 w)))
    (C3 : (∀ w, Calls Try.prog 11 #[.int .i64 a, .int .i64 b] w (Told x 0 w)))
    (C4 : (∀ w, Calls Try.prog 13 #[.int .i64 a, .int .i64 b] w (Told y h w)))
    (d : decide (b < dn) = false) :
    Calls Try.prog 7 #[.int .i64 a, .int .i64 b] w fun r w' => r = .returned (.bool true) ∧ Below w.heap.size w w' := by
  have D1 := Lib.hid C1
  have D2 := Lib.hid C2
  have D3 := Lib.hid C3
  have D4 := Lib.hid C4
  clear C1 C2 C3 C4
  go_enter Try.func7, Try.ntmps7
  go_wp2_with fail
  refine (awake_yes _).mono ?_
  rintro r w0 ⟨rfl, hb⟩
  have HB0 := Lib.hid (hb)
  clear hb
  go_wp2_with fail
  refine (D1.out _).mono ?_
  rintro r w1 ⟨rfl, hb⟩
  have HB1 := Lib.hid (HB0.out.trans (hb.mono HB0.out.size))
  clear hb
  go_wp2_with fail
  refine (D2.out _).mono ?_
  rintro r w2 ⟨rfl, hb⟩
  have HB2 := Lib.hid (HB1.out.trans (hb.mono HB1.out.size))
  clear hb
  go_wp2_with fail
  refine (D3.out _).mono ?_
  rintro r w3 ⟨rfl, hb⟩
  have HB3 := Lib.hid (HB2.out.trans (hb.mono HB2.out.size))
  clear hb
  go_wp2_with fail
  refine (D4.out _).mono ?_
  rintro r w4 ⟨rfl, hb⟩
  have HB4 := Lib.hid (HB3.out.trans (hb.mono HB3.out.size))
  clear hb
  go_wp2
  go_ret
  exact ⟨rfl, HB4.out⟩
set_option maxHeartbeats 8000000 in
set_option maxRecDepth 100000 in
theorem goes_no3 (a b up dn x y h : Int) (w : World)
    (C1 : (∀ w, Calls Try.prog 13 #[.int .i64 9223372036854775807, .int .i64 a] w (Told up 10 w)))
    (C2 : (∀ w, Calls Try.prog 13 #[.int .i64 (-9223372036854775808), .int .i64 a] w (Told dn 10 w)))
    (C3 : (∀ w, Calls Try.prog 11 #[.int .i64 a, .int .i64 b] w (Told x 0 w)))
    (C4 : (∀ w, Calls Try.prog 13 #[.int .i64 a, .int .i64 b] w (Told y h w))) :
    Calls Try.prog 7 #[.int .i64 a, .int .i64 b] w fun r w' => r = .returned (.bool true) ∧ Below w.heap.size w w' := by
  have D1 := Lib.hid C1
  have D2 := Lib.hid C2
  have D3 := Lib.hid C3
  have D4 := Lib.hid C4
  clear C1 C2 C3 C4
  go_enter Try.func7, Try.ntmps7
  go_wp2_with fail
  refine (awake_yes _).mono ?_
  rintro r w0 ⟨rfl, hb⟩
  have HB0 := Lib.hid (hb)
  clear hb
  go_wp2_with fail
  refine (D1.out _).mono ?_
  rintro r w1 ⟨rfl, hb⟩
  have HB1 := Lib.hid (HB0.out.trans (hb.mono HB0.out.size))
  clear hb
  go_wp2_with fail
  refine (D2.out _).mono ?_
  rintro r w2 ⟨rfl, hb⟩
  have HB2 := Lib.hid (HB1.out.trans (hb.mono HB1.out.size))
  clear hb
  go_wp2_with fail
  refine (D3.out _).mono ?_
  rintro r w3 ⟨rfl, hb⟩
  have HB3 := Lib.hid (HB2.out.trans (hb.mono HB2.out.size))
  clear hb
  go_wp2_with fail
  refine (D4.out _).mono ?_
  rintro r w4 ⟨rfl, hb⟩
  have HB4 := Lib.hid (HB3.out.trans (hb.mono HB3.out.size))
  clear hb
  go_wp2
  go_ret
  exact ⟨rfl, HB4.out⟩

theorem goes_walk (a b : Int) (w : World) (i0 : (Lit.int .i64 a).wf = true) (i1 : (Lit.int .i64 b).wf = true) :
    Calls Try.prog 7 #[.int .i64 a, .int .i64 b] w fun e w' => e = .returned (.bool true) ∧ Below w.heap.size w w' := by
  obtain ⟨a1, a2⟩ := bounds_i64 i0
  obtain ⟨b1, b2⟩ := bounds_i64 i1
  have C1 := fun w => Sub_any 9223372036854775807 a w (by omega) (by omega) a1 a2
  have C2 := fun w => Sub_any (-9223372036854775808) a w (by omega) (by omega) a1 a2
  have C3 := fun w => Add_any a b w a1 a2 b1 b2
  have C4 := fun w => Sub_any a b w a1 a2 b1 b2
  by_cases ha : 0 ≤ a
  · have u : inR (9223372036854775807 - a) = true := by rw [inR_iff]; omega
    simp only [numR_in u, errR_in u] at C1
    by_cases h0 : a = 0
    · have d : inR (-9223372036854775808 - a) = true := by rw [inR_iff]; omega
      simp only [numR_in d, errR_in d] at C2
      have g : inR (a + b) = true := by rw [inR_iff]; omega
      simp only [numR_in g, errR_in g] at C3
      exact goes_no a b _ _ _ _ _ w C1 C2 C3 C4 (decide_eq_false (by omega)) (decide_eq_false (by omega))
    · have d : inR (-9223372036854775808 - a) = false := by rw [inR_no]; omega
      simp only [numR_out d, errR_out d] at C2
      by_cases hu : 9223372036854775807 - a < b
      · have g : inR (a + b) = false := by rw [inR_no]; omega
        have h : inR (a - b) = true := by rw [inR_iff]; omega
        simp only [numR_out g, errR_out g] at C3
        simp only [numR_in h, errR_in h] at C4
        exact goes_up a b _ _ _ _ _ w C1 C2 C3 C4 (decide_eq_true hu)
      · have g : inR (a + b) = true := by rw [inR_iff]; omega
        simp only [numR_in g, errR_in g] at C3
        exact goes_no1 a b _ _ _ _ _ w C1 C2 C3 C4 (decide_eq_false hu)
  · have d : inR (-9223372036854775808 - a) = true := by rw [inR_iff]; omega
    have u : inR (9223372036854775807 - a) = false := by rw [inR_no]; omega
    simp only [numR_out u, errR_out u] at C1
    simp only [numR_in d, errR_in d] at C2
    by_cases hd : b < -9223372036854775808 - a
    · have g : inR (a + b) = false := by rw [inR_no]; omega
      have h : inR (a - b) = true := by rw [inR_iff]; omega
      simp only [numR_out g, errR_out g] at C3
      simp only [numR_in h, errR_in h] at C4
      exact goes_dn2 a b _ _ _ _ w C1 C2 C3 C4 (decide_eq_true hd)
    · have g : inR (a + b) = true := by rw [inR_iff]; omega
      simp only [numR_in g, errR_in g] at C3
      exact goes_no2 a b _ _ _ _ _ w C1 C2 C3 C4 (decide_eq_false hd)
end Go.Proofs.Ytbkliomiboekhaa
