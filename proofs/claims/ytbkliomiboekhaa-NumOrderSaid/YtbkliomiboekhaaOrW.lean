/- NumOrder: the walk. -/
import Derived.Test.YtbkliomiboekhaaAw
import Derived.OpenShut
namespace Go.Proofs.Ytbkliomiboekhaa
open Go.RowKit
set_option linter.unusedVariables false

set_option maxHeartbeats 8000000 in
set_option maxRecDepth 100000 in
theorem order_core (a b c x e y f p g q h d i k j : Int) (w : World)
    (C1 : (∀ w, Calls Try.prog 11 #[.int .i64 a, .int .i64 c] w (Told x e w)))
    (C2 : (∀ w, Calls Try.prog 11 #[.int .i64 b, .int .i64 c] w (Told y f w)))
    (C3 : (∀ w, Calls Try.prog 21 #[.int .i64 a] w (Told p g w)))
    (C4 : (∀ w, Calls Try.prog 21 #[.int .i64 b] w (Told q h w)))
    (C5 : (∀ w, Calls Try.prog 13 #[.int .i64 a, .int .i64 b] w (Told d i w)))
    (C6 : (∀ w, Calls Try.prog 11 #[.int .i64 d, .int .i64 b] w (Told k j w)))
    (t : Bool)
    (kab : decide (a < b) = t)
    (ke : e = 0 ∨ e = 10)
    (kf : f = 0 ∨ f = 10)
    (kgg : g = 0 ∨ g = 10)
    (kh : h = 0 ∨ h = 10)
    (ki : i = 0 ∨ i = 10)
    (kXY : e = 0 → f = 0 → decide (x < y) = t)
    (kPQ : g = 0 → h = 0 → decide (q < p) = t)
    (kg0 : g = 0 → (a != -9223372036854775808) = true)
    (kg1 : g = 10 → (a != -9223372036854775808) = false)
    (kI : i = 0 → j = 0 ∧ k = a) :
    Calls Try.prog 6 #[.int .i64 a, .int .i64 b, .int .i64 c] w fun r w' => r = .returned (.bool true) ∧ Below w.heap.size w w' := by
  have D1 := Lib.hid C1
  have D2 := Lib.hid C2
  have D3 := Lib.hid C3
  have D4 := Lib.hid C4
  have D5 := Lib.hid C5
  have D6 := Lib.hid C6
  clear C1 C2 C3 C4 C5 C6
  cases t
  · rcases ke with rfl | rfl
    · rcases kf with rfl | rfl
      · have x1 := kXY rfl rfl
        rcases kgg with rfl | rfl
        · rcases kh with rfl | rfl
          · have g1 := kg0 rfl
            have g2 := kPQ rfl rfl
            rcases ki with rfl | rfl
            · obtain ⟨rfl, rfl⟩ := kI rfl
              clear kI kXY kg0 kg1 kPQ
              go_enter Try.func6, Try.ntmps6
              go_wp2_with fail
              refine (awake_yes _).mono ?_
              rintro r w0 ⟨rfl, hb⟩
              have HB0 := Lib.hid (hb)
              clear hb
              go_wp2_with fail
              refine (D1.out _).mono ?_
              rintro r w1 ⟨rfl, hb⟩
              have HB1 := Lib.hid (HB0.out.trans (hb.mono HB0.out.size))
              clear hb
              go_wp2_with fail
              refine (D2.out _).mono ?_
              rintro r w2 ⟨rfl, hb⟩
              have HB2 := Lib.hid (HB1.out.trans (hb.mono HB1.out.size))
              clear hb
              go_wp2_with fail
              refine (D3.out _).mono ?_
              rintro r w3 ⟨rfl, hb⟩
              have HB3 := Lib.hid (HB2.out.trans (hb.mono HB2.out.size))
              clear hb
              go_wp2_with fail
              refine (D4.out _).mono ?_
              rintro r w4 ⟨rfl, hb⟩
              have HB4 := Lib.hid (HB3.out.trans (hb.mono HB3.out.size))
              clear hb
              go_wp2_with fail
              refine (D5.out _).mono ?_
              rintro r w5 ⟨rfl, hb⟩
              have HB5 := Lib.hid (HB4.out.trans (hb.mono HB4.out.size))
              clear hb
              go_wp2_with fail
              refine (D6.out _).mono ?_
              rintro r w6 ⟨rfl, hb⟩
              have HB6 := Lib.hid (HB5.out.trans (hb.mono HB5.out.size))
              clear hb
              go_wp2
              go_ret
              exact ⟨rfl, HB6.out⟩
            · clear kI kXY kg0 kg1 kPQ
              go_enter Try.func6, Try.ntmps6
              go_wp2_with fail
              refine (awake_yes _).mono ?_
              rintro r w0 ⟨rfl, hb⟩
              have HB0 := Lib.hid (hb)
              clear hb
              go_wp2_with fail
              refine (D1.out _).mono ?_
              rintro r w1 ⟨rfl, hb⟩
              have HB1 := Lib.hid (HB0.out.trans (hb.mono HB0.out.size))
              clear hb
              go_wp2_with fail
              refine (D2.out _).mono ?_
              rintro r w2 ⟨rfl, hb⟩
              have HB2 := Lib.hid (HB1.out.trans (hb.mono HB1.out.size))
              clear hb
              go_wp2_with fail
              refine (D3.out _).mono ?_
              rintro r w3 ⟨rfl, hb⟩
              have HB3 := Lib.hid (HB2.out.trans (hb.mono HB2.out.size))
              clear hb
              go_wp2_with fail
              refine (D4.out _).mono ?_
              rintro r w4 ⟨rfl, hb⟩
              have HB4 := Lib.hid (HB3.out.trans (hb.mono HB3.out.size))
              clear hb
              go_wp2_with fail
              refine (D5.out _).mono ?_
              rintro r w5 ⟨rfl, hb⟩
              have HB5 := Lib.hid (HB4.out.trans (hb.mono HB4.out.size))
              clear hb
              go_wp2_with fail
              refine (D6.out _).mono ?_
              rintro r w6 ⟨rfl, hb⟩
              have HB6 := Lib.hid (HB5.out.trans (hb.mono HB5.out.size))
              clear hb
              go_wp2
              go_ret
              exact ⟨rfl, HB6.out⟩
          · have g1 := kg0 rfl
            rcases ki with rfl | rfl
            · obtain ⟨rfl, rfl⟩ := kI rfl
              clear kI kXY kg0 kg1 kPQ
              go_enter Try.func6, Try.ntmps6
              go_wp2_with fail
              refine (awake_yes _).mono ?_
              rintro r w0 ⟨rfl, hb⟩
              have HB0 := Lib.hid (hb)
              clear hb
              go_wp2_with fail
              refine (D1.out _).mono ?_
              rintro r w1 ⟨rfl, hb⟩
              have HB1 := Lib.hid (HB0.out.trans (hb.mono HB0.out.size))
              clear hb
              go_wp2_with fail
              refine (D2.out _).mono ?_
              rintro r w2 ⟨rfl, hb⟩
              have HB2 := Lib.hid (HB1.out.trans (hb.mono HB1.out.size))
              clear hb
              go_wp2_with fail
              refine (D3.out _).mono ?_
              rintro r w3 ⟨rfl, hb⟩
              have HB3 := Lib.hid (HB2.out.trans (hb.mono HB2.out.size))
              clear hb
              go_wp2_with fail
              refine (D4.out _).mono ?_
              rintro r w4 ⟨rfl, hb⟩
              have HB4 := Lib.hid (HB3.out.trans (hb.mono HB3.out.size))
              clear hb
              go_wp2_with fail
              refine (D5.out _).mono ?_
              rintro r w5 ⟨rfl, hb⟩
              have HB5 := Lib.hid (HB4.out.trans (hb.mono HB4.out.size))
              clear hb
              go_wp2_with fail
              refine (D6.out _).mono ?_
              rintro r w6 ⟨rfl, hb⟩
              have HB6 := Lib.hid (HB5.out.trans (hb.mono HB5.out.size))
              clear hb
              go_wp2
              go_ret
              exact ⟨rfl, HB6.out⟩
            · clear kI kXY kg0 kg1 kPQ
              go_enter Try.func6, Try.ntmps6
              go_wp2_with fail
              refine (awake_yes _).mono ?_
              rintro r w0 ⟨rfl, hb⟩
              have HB0 := Lib.hid (hb)
              clear hb
              go_wp2_with fail
              refine (D1.out _).mono ?_
              rintro r w1 ⟨rfl, hb⟩
              have HB1 := Lib.hid (HB0.out.trans (hb.mono HB0.out.size))
              clear hb
              go_wp2_with fail
              refine (D2.out _).mono ?_
              rintro r w2 ⟨rfl, hb⟩
              have HB2 := Lib.hid (HB1.out.trans (hb.mono HB1.out.size))
              clear hb
              go_wp2_with fail
              refine (D3.out _).mono ?_
              rintro r w3 ⟨rfl, hb⟩
              have HB3 := Lib.hid (HB2.out.trans (hb.mono HB2.out.size))
              clear hb
              go_wp2_with fail
              refine (D4.out _).mono ?_
              rintro r w4 ⟨rfl, hb⟩
              have HB4 := Lib.hid (HB3.out.trans (hb.mono HB3.out.size))
              clear hb
              go_wp2_with fail
              refine (D5.out _).mono ?_
              rintro r w5 ⟨rfl, hb⟩
              have HB5 := Lib.hid (HB4.out.trans (hb.mono HB4.out.size))
              clear hb
              go_wp2_with fail
              refine (D6.out _).mono ?_
              rintro r w6 ⟨rfl, hb⟩
              have HB6 := Lib.hid (HB5.out.trans (hb.mono HB5.out.size))
              clear hb
              go_wp2
              go_ret
              exact ⟨rfl, HB6.out⟩
        · have g1 := kg1 rfl
          rcases ki with rfl | rfl
          · obtain ⟨rfl, rfl⟩ := kI rfl
            clear kI kXY kh kg0 kg1 kPQ
            go_enter Try.func6, Try.ntmps6
            go_wp2_with fail
            refine (awake_yes _).mono ?_
            rintro r w0 ⟨rfl, hb⟩
            have HB0 := Lib.hid (hb)
            clear hb
            go_wp2_with fail
            refine (D1.out _).mono ?_
            rintro r w1 ⟨rfl, hb⟩
            have HB1 := Lib.hid (HB0.out.trans (hb.mono HB0.out.size))
            clear hb
            go_wp2_with fail
            refine (D2.out _).mono ?_
            rintro r w2 ⟨rfl, hb⟩
            have HB2 := Lib.hid (HB1.out.trans (hb.mono HB1.out.size))
            clear hb
            go_wp2_with fail
            refine (D3.out _).mono ?_
            rintro r w3 ⟨rfl, hb⟩
            have HB3 := Lib.hid (HB2.out.trans (hb.mono HB2.out.size))
            clear hb
            go_wp2_with fail
            refine (D4.out _).mono ?_
            rintro r w4 ⟨rfl, hb⟩
            have HB4 := Lib.hid (HB3.out.trans (hb.mono HB3.out.size))
            clear hb
            go_wp2_with fail
            refine (D5.out _).mono ?_
            rintro r w5 ⟨rfl, hb⟩
            have HB5 := Lib.hid (HB4.out.trans (hb.mono HB4.out.size))
            clear hb
            go_wp2_with fail
            refine (D6.out _).mono ?_
            rintro r w6 ⟨rfl, hb⟩
            have HB6 := Lib.hid (HB5.out.trans (hb.mono HB5.out.size))
            clear hb
            go_wp2
            go_ret
            exact ⟨rfl, HB6.out⟩
          · clear kI kXY kh kg0 kg1 kPQ
            go_enter Try.func6, Try.ntmps6
            go_wp2_with fail
            refine (awake_yes _).mono ?_
            rintro r w0 ⟨rfl, hb⟩
            have HB0 := Lib.hid (hb)
            clear hb
            go_wp2_with fail
            refine (D1.out _).mono ?_
            rintro r w1 ⟨rfl, hb⟩
            have HB1 := Lib.hid (HB0.out.trans (hb.mono HB0.out.size))
            clear hb
            go_wp2_with fail
            refine (D2.out _).mono ?_
            rintro r w2 ⟨rfl, hb⟩
            have HB2 := Lib.hid (HB1.out.trans (hb.mono HB1.out.size))
            clear hb
            go_wp2_with fail
            refine (D3.out _).mono ?_
            rintro r w3 ⟨rfl, hb⟩
            have HB3 := Lib.hid (HB2.out.trans (hb.mono HB2.out.size))
            clear hb
            go_wp2_with fail
            refine (D4.out _).mono ?_
            rintro r w4 ⟨rfl, hb⟩
            have HB4 := Lib.hid (HB3.out.trans (hb.mono HB3.out.size))
            clear hb
            go_wp2_with fail
            refine (D5.out _).mono ?_
            rintro r w5 ⟨rfl, hb⟩
            have HB5 := Lib.hid (HB4.out.trans (hb.mono HB4.out.size))
            clear hb
            go_wp2_with fail
            refine (D6.out _).mono ?_
            rintro r w6 ⟨rfl, hb⟩
            have HB6 := Lib.hid (HB5.out.trans (hb.mono HB5.out.size))
            clear hb
            go_wp2
            go_ret
            exact ⟨rfl, HB6.out⟩
      · rcases kgg with rfl | rfl
        · rcases kh with rfl | rfl
          · have g1 := kg0 rfl
            have g2 := kPQ rfl rfl
            rcases ki with rfl | rfl
            · obtain ⟨rfl, rfl⟩ := kI rfl
              clear kI kXY kg0 kg1 kPQ
              go_enter Try.func6, Try.ntmps6
              go_wp2_with fail
              refine (awake_yes _).mono ?_
              rintro r w0 ⟨rfl, hb⟩
              have HB0 := Lib.hid (hb)
              clear hb
              go_wp2_with fail
              refine (D1.out _).mono ?_
              rintro r w1 ⟨rfl, hb⟩
              have HB1 := Lib.hid (HB0.out.trans (hb.mono HB0.out.size))
              clear hb
              go_wp2_with fail
              refine (D2.out _).mono ?_
              rintro r w2 ⟨rfl, hb⟩
              have HB2 := Lib.hid (HB1.out.trans (hb.mono HB1.out.size))
              clear hb
              go_wp2_with fail
              refine (D3.out _).mono ?_
              rintro r w3 ⟨rfl, hb⟩
              have HB3 := Lib.hid (HB2.out.trans (hb.mono HB2.out.size))
              clear hb
              go_wp2_with fail
              refine (D4.out _).mono ?_
              rintro r w4 ⟨rfl, hb⟩
              have HB4 := Lib.hid (HB3.out.trans (hb.mono HB3.out.size))
              clear hb
              go_wp2_with fail
              refine (D5.out _).mono ?_
              rintro r w5 ⟨rfl, hb⟩
              have HB5 := Lib.hid (HB4.out.trans (hb.mono HB4.out.size))
              clear hb
              go_wp2_with fail
              refine (D6.out _).mono ?_
              rintro r w6 ⟨rfl, hb⟩
              have HB6 := Lib.hid (HB5.out.trans (hb.mono HB5.out.size))
              clear hb
              go_wp2
              go_ret
              exact ⟨rfl, HB6.out⟩
            · clear kI kXY kg0 kg1 kPQ
              go_enter Try.func6, Try.ntmps6
              go_wp2_with fail
              refine (awake_yes _).mono ?_
              rintro r w0 ⟨rfl, hb⟩
              have HB0 := Lib.hid (hb)
              clear hb
              go_wp2_with fail
              refine (D1.out _).mono ?_
              rintro r w1 ⟨rfl, hb⟩
              have HB1 := Lib.hid (HB0.out.trans (hb.mono HB0.out.size))
              clear hb
              go_wp2_with fail
              refine (D2.out _).mono ?_
              rintro r w2 ⟨rfl, hb⟩
              have HB2 := Lib.hid (HB1.out.trans (hb.mono HB1.out.size))
              clear hb
              go_wp2_with fail
              refine (D3.out _).mono ?_
              rintro r w3 ⟨rfl, hb⟩
              have HB3 := Lib.hid (HB2.out.trans (hb.mono HB2.out.size))
              clear hb
              go_wp2_with fail
              refine (D4.out _).mono ?_
              rintro r w4 ⟨rfl, hb⟩
              have HB4 := Lib.hid (HB3.out.trans (hb.mono HB3.out.size))
              clear hb
              go_wp2_with fail
              refine (D5.out _).mono ?_
              rintro r w5 ⟨rfl, hb⟩
              have HB5 := Lib.hid (HB4.out.trans (hb.mono HB4.out.size))
              clear hb
              go_wp2_with fail
              refine (D6.out _).mono ?_
              rintro r w6 ⟨rfl, hb⟩
              have HB6 := Lib.hid (HB5.out.trans (hb.mono HB5.out.size))
              clear hb
              go_wp2
              go_ret
              exact ⟨rfl, HB6.out⟩
          · have g1 := kg0 rfl
            rcases ki with rfl | rfl
            · obtain ⟨rfl, rfl⟩ := kI rfl
              clear kI kXY kg0 kg1 kPQ
              go_enter Try.func6, Try.ntmps6
              go_wp2_with fail
              refine (awake_yes _).mono ?_
              rintro r w0 ⟨rfl, hb⟩
              have HB0 := Lib.hid (hb)
              clear hb
              go_wp2_with fail
              refine (D1.out _).mono ?_
              rintro r w1 ⟨rfl, hb⟩
              have HB1 := Lib.hid (HB0.out.trans (hb.mono HB0.out.size))
              clear hb
              go_wp2_with fail
              refine (D2.out _).mono ?_
              rintro r w2 ⟨rfl, hb⟩
              have HB2 := Lib.hid (HB1.out.trans (hb.mono HB1.out.size))
              clear hb
              go_wp2_with fail
              refine (D3.out _).mono ?_
              rintro r w3 ⟨rfl, hb⟩
              have HB3 := Lib.hid (HB2.out.trans (hb.mono HB2.out.size))
              clear hb
              go_wp2_with fail
              refine (D4.out _).mono ?_
              rintro r w4 ⟨rfl, hb⟩
              have HB4 := Lib.hid (HB3.out.trans (hb.mono HB3.out.size))
              clear hb
              go_wp2_with fail
              refine (D5.out _).mono ?_
              rintro r w5 ⟨rfl, hb⟩
              have HB5 := Lib.hid (HB4.out.trans (hb.mono HB4.out.size))
              clear hb
              go_wp2_with fail
              refine (D6.out _).mono ?_
              rintro r w6 ⟨rfl, hb⟩
              have HB6 := Lib.hid (HB5.out.trans (hb.mono HB5.out.size))
              clear hb
              go_wp2
              go_ret
              exact ⟨rfl, HB6.out⟩
            · clear kI kXY kg0 kg1 kPQ
              go_enter Try.func6, Try.ntmps6
              go_wp2_with fail
              refine (awake_yes _).mono ?_
              rintro r w0 ⟨rfl, hb⟩
              have HB0 := Lib.hid (hb)
              clear hb
              go_wp2_with fail
              refine (D1.out _).mono ?_
              rintro r w1 ⟨rfl, hb⟩
              have HB1 := Lib.hid (HB0.out.trans (hb.mono HB0.out.size))
              clear hb
              go_wp2_with fail
              refine (D2.out _).mono ?_
              rintro r w2 ⟨rfl, hb⟩
              have HB2 := Lib.hid (HB1.out.trans (hb.mono HB1.out.size))
              clear hb
              go_wp2_with fail
              refine (D3.out _).mono ?_
              rintro r w3 ⟨rfl, hb⟩
              have HB3 := Lib.hid (HB2.out.trans (hb.mono HB2.out.size))
              clear hb
              go_wp2_with fail
              refine (D4.out _).mono ?_
              rintro r w4 ⟨rfl, hb⟩
              have HB4 := Lib.hid (HB3.out.trans (hb.mono HB3.out.size))
              clear hb
              go_wp2_with fail
              refine (D5.out _).mono ?_
              rintro r w5 ⟨rfl, hb⟩
              have HB5 := Lib.hid (HB4.out.trans (hb.mono HB4.out.size))
              clear hb
              go_wp2_with fail
              refine (D6.out _).mono ?_
              rintro r w6 ⟨rfl, hb⟩
              have HB6 := Lib.hid (HB5.out.trans (hb.mono HB5.out.size))
              clear hb
              go_wp2
              go_ret
              exact ⟨rfl, HB6.out⟩
        · have g1 := kg1 rfl
          rcases ki with rfl | rfl
          · obtain ⟨rfl, rfl⟩ := kI rfl
            clear kI kXY kh kg0 kg1 kPQ
            go_enter Try.func6, Try.ntmps6
            go_wp2_with fail
            refine (awake_yes _).mono ?_
            rintro r w0 ⟨rfl, hb⟩
            have HB0 := Lib.hid (hb)
            clear hb
            go_wp2_with fail
            refine (D1.out _).mono ?_
            rintro r w1 ⟨rfl, hb⟩
            have HB1 := Lib.hid (HB0.out.trans (hb.mono HB0.out.size))
            clear hb
            go_wp2_with fail
            refine (D2.out _).mono ?_
            rintro r w2 ⟨rfl, hb⟩
            have HB2 := Lib.hid (HB1.out.trans (hb.mono HB1.out.size))
            clear hb
            go_wp2_with fail
            refine (D3.out _).mono ?_
            rintro r w3 ⟨rfl, hb⟩
            have HB3 := Lib.hid (HB2.out.trans (hb.mono HB2.out.size))
            clear hb
            go_wp2_with fail
            refine (D4.out _).mono ?_
            rintro r w4 ⟨rfl, hb⟩
            have HB4 := Lib.hid (HB3.out.trans (hb.mono HB3.out.size))
            clear hb
            go_wp2_with fail
            refine (D5.out _).mono ?_
            rintro r w5 ⟨rfl, hb⟩
            have HB5 := Lib.hid (HB4.out.trans (hb.mono HB4.out.size))
            clear hb
            go_wp2_with fail
            refine (D6.out _).mono ?_
            rintro r w6 ⟨rfl, hb⟩
            have HB6 := Lib.hid (HB5.out.trans (hb.mono HB5.out.size))
            clear hb
            go_wp2
            go_ret
            exact ⟨rfl, HB6.out⟩
          · clear kI kXY kh kg0 kg1 kPQ
            go_enter Try.func6, Try.ntmps6
            go_wp2_with fail
            refine (awake_yes _).mono ?_
            rintro r w0 ⟨rfl, hb⟩
            have HB0 := Lib.hid (hb)
            clear hb
            go_wp2_with fail
            refine (D1.out _).mono ?_
            rintro r w1 ⟨rfl, hb⟩
            have HB1 := Lib.hid (HB0.out.trans (hb.mono HB0.out.size))
            clear hb
            go_wp2_with fail
            refine (D2.out _).mono ?_
            rintro r w2 ⟨rfl, hb⟩
            have HB2 := Lib.hid (HB1.out.trans (hb.mono HB1.out.size))
            clear hb
            go_wp2_with fail
            refine (D3.out _).mono ?_
            rintro r w3 ⟨rfl, hb⟩
            have HB3 := Lib.hid (HB2.out.trans (hb.mono HB2.out.size))
            clear hb
            go_wp2_with fail
            refine (D4.out _).mono ?_
            rintro r w4 ⟨rfl, hb⟩
            have HB4 := Lib.hid (HB3.out.trans (hb.mono HB3.out.size))
            clear hb
            go_wp2_with fail
            refine (D5.out _).mono ?_
            rintro r w5 ⟨rfl, hb⟩
            have HB5 := Lib.hid (HB4.out.trans (hb.mono HB4.out.size))
            clear hb
            go_wp2_with fail
            refine (D6.out _).mono ?_
            rintro r w6 ⟨rfl, hb⟩
            have HB6 := Lib.hid (HB5.out.trans (hb.mono HB5.out.size))
            clear hb
            go_wp2
            go_ret
            exact ⟨rfl, HB6.out⟩
    · rcases kgg with rfl | rfl
      · rcases kh with rfl | rfl
        · have g1 := kg0 rfl
          have g2 := kPQ rfl rfl
          rcases ki with rfl | rfl
          · obtain ⟨rfl, rfl⟩ := kI rfl
            clear kI kf kXY kg0 kg1 kPQ
            go_enter Try.func6, Try.ntmps6
            go_wp2_with fail
            refine (awake_yes _).mono ?_
            rintro r w0 ⟨rfl, hb⟩
            have HB0 := Lib.hid (hb)
            clear hb
            go_wp2_with fail
            refine (D1.out _).mono ?_
            rintro r w1 ⟨rfl, hb⟩
            have HB1 := Lib.hid (HB0.out.trans (hb.mono HB0.out.size))
            clear hb
            go_wp2_with fail
            refine (D2.out _).mono ?_
            rintro r w2 ⟨rfl, hb⟩
            have HB2 := Lib.hid (HB1.out.trans (hb.mono HB1.out.size))
            clear hb
            go_wp2_with fail
            refine (D3.out _).mono ?_
            rintro r w3 ⟨rfl, hb⟩
            have HB3 := Lib.hid (HB2.out.trans (hb.mono HB2.out.size))
            clear hb
            go_wp2_with fail
            refine (D4.out _).mono ?_
            rintro r w4 ⟨rfl, hb⟩
            have HB4 := Lib.hid (HB3.out.trans (hb.mono HB3.out.size))
            clear hb
            go_wp2_with fail
            refine (D5.out _).mono ?_
            rintro r w5 ⟨rfl, hb⟩
            have HB5 := Lib.hid (HB4.out.trans (hb.mono HB4.out.size))
            clear hb
            go_wp2_with fail
            refine (D6.out _).mono ?_
            rintro r w6 ⟨rfl, hb⟩
            have HB6 := Lib.hid (HB5.out.trans (hb.mono HB5.out.size))
            clear hb
            go_wp2
            go_ret
            exact ⟨rfl, HB6.out⟩
          · clear kI kf kXY kg0 kg1 kPQ
            go_enter Try.func6, Try.ntmps6
            go_wp2_with fail
            refine (awake_yes _).mono ?_
            rintro r w0 ⟨rfl, hb⟩
            have HB0 := Lib.hid (hb)
            clear hb
            go_wp2_with fail
            refine (D1.out _).mono ?_
            rintro r w1 ⟨rfl, hb⟩
            have HB1 := Lib.hid (HB0.out.trans (hb.mono HB0.out.size))
            clear hb
            go_wp2_with fail
            refine (D2.out _).mono ?_
            rintro r w2 ⟨rfl, hb⟩
            have HB2 := Lib.hid (HB1.out.trans (hb.mono HB1.out.size))
            clear hb
            go_wp2_with fail
            refine (D3.out _).mono ?_
            rintro r w3 ⟨rfl, hb⟩
            have HB3 := Lib.hid (HB2.out.trans (hb.mono HB2.out.size))
            clear hb
            go_wp2_with fail
            refine (D4.out _).mono ?_
            rintro r w4 ⟨rfl, hb⟩
            have HB4 := Lib.hid (HB3.out.trans (hb.mono HB3.out.size))
            clear hb
            go_wp2_with fail
            refine (D5.out _).mono ?_
            rintro r w5 ⟨rfl, hb⟩
            have HB5 := Lib.hid (HB4.out.trans (hb.mono HB4.out.size))
            clear hb
            go_wp2_with fail
            refine (D6.out _).mono ?_
            rintro r w6 ⟨rfl, hb⟩
            have HB6 := Lib.hid (HB5.out.trans (hb.mono HB5.out.size))
            clear hb
            go_wp2
            go_ret
            exact ⟨rfl, HB6.out⟩
        · have g1 := kg0 rfl
          rcases ki with rfl | rfl
          · obtain ⟨rfl, rfl⟩ := kI rfl
            clear kI kf kXY kg0 kg1 kPQ
            go_enter Try.func6, Try.ntmps6
            go_wp2_with fail
            refine (awake_yes _).mono ?_
            rintro r w0 ⟨rfl, hb⟩
            have HB0 := Lib.hid (hb)
            clear hb
            go_wp2_with fail
            refine (D1.out _).mono ?_
            rintro r w1 ⟨rfl, hb⟩
            have HB1 := Lib.hid (HB0.out.trans (hb.mono HB0.out.size))
            clear hb
            go_wp2_with fail
            refine (D2.out _).mono ?_
            rintro r w2 ⟨rfl, hb⟩
            have HB2 := Lib.hid (HB1.out.trans (hb.mono HB1.out.size))
            clear hb
            go_wp2_with fail
            refine (D3.out _).mono ?_
            rintro r w3 ⟨rfl, hb⟩
            have HB3 := Lib.hid (HB2.out.trans (hb.mono HB2.out.size))
            clear hb
            go_wp2_with fail
            refine (D4.out _).mono ?_
            rintro r w4 ⟨rfl, hb⟩
            have HB4 := Lib.hid (HB3.out.trans (hb.mono HB3.out.size))
            clear hb
            go_wp2_with fail
            refine (D5.out _).mono ?_
            rintro r w5 ⟨rfl, hb⟩
            have HB5 := Lib.hid (HB4.out.trans (hb.mono HB4.out.size))
            clear hb
            go_wp2_with fail
            refine (D6.out _).mono ?_
            rintro r w6 ⟨rfl, hb⟩
            have HB6 := Lib.hid (HB5.out.trans (hb.mono HB5.out.size))
            clear hb
            go_wp2
            go_ret
            exact ⟨rfl, HB6.out⟩
          · clear kI kf kXY kg0 kg1 kPQ
            go_enter Try.func6, Try.ntmps6
            go_wp2_with fail
            refine (awake_yes _).mono ?_
            rintro r w0 ⟨rfl, hb⟩
            have HB0 := Lib.hid (hb)
            clear hb
            go_wp2_with fail
            refine (D1.out _).mono ?_
            rintro r w1 ⟨rfl, hb⟩
            have HB1 := Lib.hid (HB0.out.trans (hb.mono HB0.out.size))
            clear hb
            go_wp2_with fail
            refine (D2.out _).mono ?_
            rintro r w2 ⟨rfl, hb⟩
            have HB2 := Lib.hid (HB1.out.trans (hb.mono HB1.out.size))
            clear hb
            go_wp2_with fail
            refine (D3.out _).mono ?_
            rintro r w3 ⟨rfl, hb⟩
            have HB3 := Lib.hid (HB2.out.trans (hb.mono HB2.out.size))
            clear hb
            go_wp2_with fail
            refine (D4.out _).mono ?_
            rintro r w4 ⟨rfl, hb⟩
            have HB4 := Lib.hid (HB3.out.trans (hb.mono HB3.out.size))
            clear hb
            go_wp2_with fail
            refine (D5.out _).mono ?_
            rintro r w5 ⟨rfl, hb⟩
            have HB5 := Lib.hid (HB4.out.trans (hb.mono HB4.out.size))
            clear hb
            go_wp2_with fail
            refine (D6.out _).mono ?_
            rintro r w6 ⟨rfl, hb⟩
            have HB6 := Lib.hid (HB5.out.trans (hb.mono HB5.out.size))
            clear hb
            go_wp2
            go_ret
            exact ⟨rfl, HB6.out⟩
      · have g1 := kg1 rfl
        rcases ki with rfl | rfl
        · obtain ⟨rfl, rfl⟩ := kI rfl
          clear kI kf kXY kh kg0 kg1 kPQ
          go_enter Try.func6, Try.ntmps6
          go_wp2_with fail
          refine (awake_yes _).mono ?_
          rintro r w0 ⟨rfl, hb⟩
          have HB0 := Lib.hid (hb)
          clear hb
          go_wp2_with fail
          refine (D1.out _).mono ?_
          rintro r w1 ⟨rfl, hb⟩
          have HB1 := Lib.hid (HB0.out.trans (hb.mono HB0.out.size))
          clear hb
          go_wp2_with fail
          refine (D2.out _).mono ?_
          rintro r w2 ⟨rfl, hb⟩
          have HB2 := Lib.hid (HB1.out.trans (hb.mono HB1.out.size))
          clear hb
          go_wp2_with fail
          refine (D3.out _).mono ?_
          rintro r w3 ⟨rfl, hb⟩
          have HB3 := Lib.hid (HB2.out.trans (hb.mono HB2.out.size))
          clear hb
          go_wp2_with fail
          refine (D4.out _).mono ?_
          rintro r w4 ⟨rfl, hb⟩
          have HB4 := Lib.hid (HB3.out.trans (hb.mono HB3.out.size))
          clear hb
          go_wp2_with fail
          refine (D5.out _).mono ?_
          rintro r w5 ⟨rfl, hb⟩
          have HB5 := Lib.hid (HB4.out.trans (hb.mono HB4.out.size))
          clear hb
          go_wp2_with fail
          refine (D6.out _).mono ?_
          rintro r w6 ⟨rfl, hb⟩
          have HB6 := Lib.hid (HB5.out.trans (hb.mono HB5.out.size))
          clear hb
          go_wp2
          go_ret
          exact ⟨rfl, HB6.out⟩
        · clear kI kf kXY kh kg0 kg1 kPQ
          go_enter Try.func6, Try.ntmps6
          go_wp2_with fail
          refine (awake_yes _).mono ?_
          rintro r w0 ⟨rfl, hb⟩
          have HB0 := Lib.hid (hb)
          clear hb
          go_wp2_with fail
          refine (D1.out _).mono ?_
          rintro r w1 ⟨rfl, hb⟩
          have HB1 := Lib.hid (HB0.out.trans (hb.mono HB0.out.size))
          clear hb
          go_wp2_with fail
          refine (D2.out _).mono ?_
          rintro r w2 ⟨rfl, hb⟩
          have HB2 := Lib.hid (HB1.out.trans (hb.mono HB1.out.size))
          clear hb
          go_wp2_with fail
          refine (D3.out _).mono ?_
          rintro r w3 ⟨rfl, hb⟩
          have HB3 := Lib.hid (HB2.out.trans (hb.mono HB2.out.size))
          clear hb
          go_wp2_with fail
          refine (D4.out _).mono ?_
          rintro r w4 ⟨rfl, hb⟩
          have HB4 := Lib.hid (HB3.out.trans (hb.mono HB3.out.size))
          clear hb
          go_wp2_with fail
          refine (D5.out _).mono ?_
          rintro r w5 ⟨rfl, hb⟩
          have HB5 := Lib.hid (HB4.out.trans (hb.mono HB4.out.size))
          clear hb
          go_wp2_with fail
          refine (D6.out _).mono ?_
          rintro r w6 ⟨rfl, hb⟩
          have HB6 := Lib.hid (HB5.out.trans (hb.mono HB5.out.size))
          clear hb
          go_wp2
          go_ret
          exact ⟨rfl, HB6.out⟩
  · rcases ke with rfl | rfl
    · rcases kf with rfl | rfl
      · have x1 := kXY rfl rfl
        rcases kgg with rfl | rfl
        · rcases kh with rfl | rfl
          · have g1 := kg0 rfl
            have g2 := kPQ rfl rfl
            rcases ki with rfl | rfl
            · obtain ⟨rfl, rfl⟩ := kI rfl
              clear kI kXY kg0 kg1 kPQ
              go_enter Try.func6, Try.ntmps6
              go_wp2_with fail
              refine (awake_yes _).mono ?_
              rintro r w0 ⟨rfl, hb⟩
              have HB0 := Lib.hid (hb)
              clear hb
              go_wp2_with fail
              refine (D1.out _).mono ?_
              rintro r w1 ⟨rfl, hb⟩
              have HB1 := Lib.hid (HB0.out.trans (hb.mono HB0.out.size))
              clear hb
              go_wp2_with fail
              refine (D2.out _).mono ?_
              rintro r w2 ⟨rfl, hb⟩
              have HB2 := Lib.hid (HB1.out.trans (hb.mono HB1.out.size))
              clear hb
              go_wp2_with fail
              refine (D3.out _).mono ?_
              rintro r w3 ⟨rfl, hb⟩
              have HB3 := Lib.hid (HB2.out.trans (hb.mono HB2.out.size))
              clear hb
              go_wp2_with fail
              refine (D4.out _).mono ?_
              rintro r w4 ⟨rfl, hb⟩
              have HB4 := Lib.hid (HB3.out.trans (hb.mono HB3.out.size))
              clear hb
              go_wp2_with fail
              refine (D5.out _).mono ?_
              rintro r w5 ⟨rfl, hb⟩
              have HB5 := Lib.hid (HB4.out.trans (hb.mono HB4.out.size))
              clear hb
              go_wp2_with fail
              refine (D6.out _).mono ?_
              rintro r w6 ⟨rfl, hb⟩
              have HB6 := Lib.hid (HB5.out.trans (hb.mono HB5.out.size))
              clear hb
              go_wp2
              go_ret
              exact ⟨rfl, HB6.out⟩
            · clear kI kXY kg0 kg1 kPQ
              go_enter Try.func6, Try.ntmps6
              go_wp2_with fail
              refine (awake_yes _).mono ?_
              rintro r w0 ⟨rfl, hb⟩
              have HB0 := Lib.hid (hb)
              clear hb
              go_wp2_with fail
              refine (D1.out _).mono ?_
              rintro r w1 ⟨rfl, hb⟩
              have HB1 := Lib.hid (HB0.out.trans (hb.mono HB0.out.size))
              clear hb
              go_wp2_with fail
              refine (D2.out _).mono ?_
              rintro r w2 ⟨rfl, hb⟩
              have HB2 := Lib.hid (HB1.out.trans (hb.mono HB1.out.size))
              clear hb
              go_wp2_with fail
              refine (D3.out _).mono ?_
              rintro r w3 ⟨rfl, hb⟩
              have HB3 := Lib.hid (HB2.out.trans (hb.mono HB2.out.size))
              clear hb
              go_wp2_with fail
              refine (D4.out _).mono ?_
              rintro r w4 ⟨rfl, hb⟩
              have HB4 := Lib.hid (HB3.out.trans (hb.mono HB3.out.size))
              clear hb
              go_wp2_with fail
              refine (D5.out _).mono ?_
              rintro r w5 ⟨rfl, hb⟩
              have HB5 := Lib.hid (HB4.out.trans (hb.mono HB4.out.size))
              clear hb
              go_wp2_with fail
              refine (D6.out _).mono ?_
              rintro r w6 ⟨rfl, hb⟩
              have HB6 := Lib.hid (HB5.out.trans (hb.mono HB5.out.size))
              clear hb
              go_wp2
              go_ret
              exact ⟨rfl, HB6.out⟩
          · have g1 := kg0 rfl
            rcases ki with rfl | rfl
            · obtain ⟨rfl, rfl⟩ := kI rfl
              clear kI kXY kg0 kg1 kPQ
              go_enter Try.func6, Try.ntmps6
              go_wp2_with fail
              refine (awake_yes _).mono ?_
              rintro r w0 ⟨rfl, hb⟩
              have HB0 := Lib.hid (hb)
              clear hb
              go_wp2_with fail
              refine (D1.out _).mono ?_
              rintro r w1 ⟨rfl, hb⟩
              have HB1 := Lib.hid (HB0.out.trans (hb.mono HB0.out.size))
              clear hb
              go_wp2_with fail
              refine (D2.out _).mono ?_
              rintro r w2 ⟨rfl, hb⟩
              have HB2 := Lib.hid (HB1.out.trans (hb.mono HB1.out.size))
              clear hb
              go_wp2_with fail
              refine (D3.out _).mono ?_
              rintro r w3 ⟨rfl, hb⟩
              have HB3 := Lib.hid (HB2.out.trans (hb.mono HB2.out.size))
              clear hb
              go_wp2_with fail
              refine (D4.out _).mono ?_
              rintro r w4 ⟨rfl, hb⟩
              have HB4 := Lib.hid (HB3.out.trans (hb.mono HB3.out.size))
              clear hb
              go_wp2_with fail
              refine (D5.out _).mono ?_
              rintro r w5 ⟨rfl, hb⟩
              have HB5 := Lib.hid (HB4.out.trans (hb.mono HB4.out.size))
              clear hb
              go_wp2_with fail
              refine (D6.out _).mono ?_
              rintro r w6 ⟨rfl, hb⟩
              have HB6 := Lib.hid (HB5.out.trans (hb.mono HB5.out.size))
              clear hb
              go_wp2
              go_ret
              exact ⟨rfl, HB6.out⟩
            · clear kI kXY kg0 kg1 kPQ
              go_enter Try.func6, Try.ntmps6
              go_wp2_with fail
              refine (awake_yes _).mono ?_
              rintro r w0 ⟨rfl, hb⟩
              have HB0 := Lib.hid (hb)
              clear hb
              go_wp2_with fail
              refine (D1.out _).mono ?_
              rintro r w1 ⟨rfl, hb⟩
              have HB1 := Lib.hid (HB0.out.trans (hb.mono HB0.out.size))
              clear hb
              go_wp2_with fail
              refine (D2.out _).mono ?_
              rintro r w2 ⟨rfl, hb⟩
              have HB2 := Lib.hid (HB1.out.trans (hb.mono HB1.out.size))
              clear hb
              go_wp2_with fail
              refine (D3.out _).mono ?_
              rintro r w3 ⟨rfl, hb⟩
              have HB3 := Lib.hid (HB2.out.trans (hb.mono HB2.out.size))
              clear hb
              go_wp2_with fail
              refine (D4.out _).mono ?_
              rintro r w4 ⟨rfl, hb⟩
              have HB4 := Lib.hid (HB3.out.trans (hb.mono HB3.out.size))
              clear hb
              go_wp2_with fail
              refine (D5.out _).mono ?_
              rintro r w5 ⟨rfl, hb⟩
              have HB5 := Lib.hid (HB4.out.trans (hb.mono HB4.out.size))
              clear hb
              go_wp2_with fail
              refine (D6.out _).mono ?_
              rintro r w6 ⟨rfl, hb⟩
              have HB6 := Lib.hid (HB5.out.trans (hb.mono HB5.out.size))
              clear hb
              go_wp2
              go_ret
              exact ⟨rfl, HB6.out⟩
        · have g1 := kg1 rfl
          rcases ki with rfl | rfl
          · obtain ⟨rfl, rfl⟩ := kI rfl
            clear kI kXY kh kg0 kg1 kPQ
            go_enter Try.func6, Try.ntmps6
            go_wp2_with fail
            refine (awake_yes _).mono ?_
            rintro r w0 ⟨rfl, hb⟩
            have HB0 := Lib.hid (hb)
            clear hb
            go_wp2_with fail
            refine (D1.out _).mono ?_
            rintro r w1 ⟨rfl, hb⟩
            have HB1 := Lib.hid (HB0.out.trans (hb.mono HB0.out.size))
            clear hb
            go_wp2_with fail
            refine (D2.out _).mono ?_
            rintro r w2 ⟨rfl, hb⟩
            have HB2 := Lib.hid (HB1.out.trans (hb.mono HB1.out.size))
            clear hb
            go_wp2_with fail
            refine (D3.out _).mono ?_
            rintro r w3 ⟨rfl, hb⟩
            have HB3 := Lib.hid (HB2.out.trans (hb.mono HB2.out.size))
            clear hb
            go_wp2_with fail
            refine (D4.out _).mono ?_
            rintro r w4 ⟨rfl, hb⟩
            have HB4 := Lib.hid (HB3.out.trans (hb.mono HB3.out.size))
            clear hb
            go_wp2_with fail
            refine (D5.out _).mono ?_
            rintro r w5 ⟨rfl, hb⟩
            have HB5 := Lib.hid (HB4.out.trans (hb.mono HB4.out.size))
            clear hb
            go_wp2_with fail
            refine (D6.out _).mono ?_
            rintro r w6 ⟨rfl, hb⟩
            have HB6 := Lib.hid (HB5.out.trans (hb.mono HB5.out.size))
            clear hb
            go_wp2
            go_ret
            exact ⟨rfl, HB6.out⟩
          · clear kI kXY kh kg0 kg1 kPQ
            go_enter Try.func6, Try.ntmps6
            go_wp2_with fail
            refine (awake_yes _).mono ?_
            rintro r w0 ⟨rfl, hb⟩
            have HB0 := Lib.hid (hb)
            clear hb
            go_wp2_with fail
            refine (D1.out _).mono ?_
            rintro r w1 ⟨rfl, hb⟩
            have HB1 := Lib.hid (HB0.out.trans (hb.mono HB0.out.size))
            clear hb
            go_wp2_with fail
            refine (D2.out _).mono ?_
            rintro r w2 ⟨rfl, hb⟩
            have HB2 := Lib.hid (HB1.out.trans (hb.mono HB1.out.size))
            clear hb
            go_wp2_with fail
            refine (D3.out _).mono ?_
            rintro r w3 ⟨rfl, hb⟩
            have HB3 := Lib.hid (HB2.out.trans (hb.mono HB2.out.size))
            clear hb
            go_wp2_with fail
            refine (D4.out _).mono ?_
            rintro r w4 ⟨rfl, hb⟩
            have HB4 := Lib.hid (HB3.out.trans (hb.mono HB3.out.size))
            clear hb
            go_wp2_with fail
            refine (D5.out _).mono ?_
            rintro r w5 ⟨rfl, hb⟩
            have HB5 := Lib.hid (HB4.out.trans (hb.mono HB4.out.size))
            clear hb
            go_wp2_with fail
            refine (D6.out _).mono ?_
            rintro r w6 ⟨rfl, hb⟩
            have HB6 := Lib.hid (HB5.out.trans (hb.mono HB5.out.size))
            clear hb
            go_wp2
            go_ret
            exact ⟨rfl, HB6.out⟩
      · rcases kgg with rfl | rfl
        · rcases kh with rfl | rfl
          · have g1 := kg0 rfl
            have g2 := kPQ rfl rfl
            rcases ki with rfl | rfl
            · obtain ⟨rfl, rfl⟩ := kI rfl
              clear kI kXY kg0 kg1 kPQ
              go_enter Try.func6, Try.ntmps6
              go_wp2_with fail
              refine (awake_yes _).mono ?_
              rintro r w0 ⟨rfl, hb⟩
              have HB0 := Lib.hid (hb)
              clear hb
              go_wp2_with fail
              refine (D1.out _).mono ?_
              rintro r w1 ⟨rfl, hb⟩
              have HB1 := Lib.hid (HB0.out.trans (hb.mono HB0.out.size))
              clear hb
              go_wp2_with fail
              refine (D2.out _).mono ?_
              rintro r w2 ⟨rfl, hb⟩
              have HB2 := Lib.hid (HB1.out.trans (hb.mono HB1.out.size))
              clear hb
              go_wp2_with fail
              refine (D3.out _).mono ?_
              rintro r w3 ⟨rfl, hb⟩
              have HB3 := Lib.hid (HB2.out.trans (hb.mono HB2.out.size))
              clear hb
              go_wp2_with fail
              refine (D4.out _).mono ?_
              rintro r w4 ⟨rfl, hb⟩
              have HB4 := Lib.hid (HB3.out.trans (hb.mono HB3.out.size))
              clear hb
              go_wp2_with fail
              refine (D5.out _).mono ?_
              rintro r w5 ⟨rfl, hb⟩
              have HB5 := Lib.hid (HB4.out.trans (hb.mono HB4.out.size))
              clear hb
              go_wp2_with fail
              refine (D6.out _).mono ?_
              rintro r w6 ⟨rfl, hb⟩
              have HB6 := Lib.hid (HB5.out.trans (hb.mono HB5.out.size))
              clear hb
              go_wp2
              go_ret
              exact ⟨rfl, HB6.out⟩
            · clear kI kXY kg0 kg1 kPQ
              go_enter Try.func6, Try.ntmps6
              go_wp2_with fail
              refine (awake_yes _).mono ?_
              rintro r w0 ⟨rfl, hb⟩
              have HB0 := Lib.hid (hb)
              clear hb
              go_wp2_with fail
              refine (D1.out _).mono ?_
              rintro r w1 ⟨rfl, hb⟩
              have HB1 := Lib.hid (HB0.out.trans (hb.mono HB0.out.size))
              clear hb
              go_wp2_with fail
              refine (D2.out _).mono ?_
              rintro r w2 ⟨rfl, hb⟩
              have HB2 := Lib.hid (HB1.out.trans (hb.mono HB1.out.size))
              clear hb
              go_wp2_with fail
              refine (D3.out _).mono ?_
              rintro r w3 ⟨rfl, hb⟩
              have HB3 := Lib.hid (HB2.out.trans (hb.mono HB2.out.size))
              clear hb
              go_wp2_with fail
              refine (D4.out _).mono ?_
              rintro r w4 ⟨rfl, hb⟩
              have HB4 := Lib.hid (HB3.out.trans (hb.mono HB3.out.size))
              clear hb
              go_wp2_with fail
              refine (D5.out _).mono ?_
              rintro r w5 ⟨rfl, hb⟩
              have HB5 := Lib.hid (HB4.out.trans (hb.mono HB4.out.size))
              clear hb
              go_wp2_with fail
              refine (D6.out _).mono ?_
              rintro r w6 ⟨rfl, hb⟩
              have HB6 := Lib.hid (HB5.out.trans (hb.mono HB5.out.size))
              clear hb
              go_wp2
              go_ret
              exact ⟨rfl, HB6.out⟩
          · have g1 := kg0 rfl
            rcases ki with rfl | rfl
            · obtain ⟨rfl, rfl⟩ := kI rfl
              clear kI kXY kg0 kg1 kPQ
              go_enter Try.func6, Try.ntmps6
              go_wp2_with fail
              refine (awake_yes _).mono ?_
              rintro r w0 ⟨rfl, hb⟩
              have HB0 := Lib.hid (hb)
              clear hb
              go_wp2_with fail
              refine (D1.out _).mono ?_
              rintro r w1 ⟨rfl, hb⟩
              have HB1 := Lib.hid (HB0.out.trans (hb.mono HB0.out.size))
              clear hb
              go_wp2_with fail
              refine (D2.out _).mono ?_
              rintro r w2 ⟨rfl, hb⟩
              have HB2 := Lib.hid (HB1.out.trans (hb.mono HB1.out.size))
              clear hb
              go_wp2_with fail
              refine (D3.out _).mono ?_
              rintro r w3 ⟨rfl, hb⟩
              have HB3 := Lib.hid (HB2.out.trans (hb.mono HB2.out.size))
              clear hb
              go_wp2_with fail
              refine (D4.out _).mono ?_
              rintro r w4 ⟨rfl, hb⟩
              have HB4 := Lib.hid (HB3.out.trans (hb.mono HB3.out.size))
              clear hb
              go_wp2_with fail
              refine (D5.out _).mono ?_
              rintro r w5 ⟨rfl, hb⟩
              have HB5 := Lib.hid (HB4.out.trans (hb.mono HB4.out.size))
              clear hb
              go_wp2_with fail
              refine (D6.out _).mono ?_
              rintro r w6 ⟨rfl, hb⟩
              have HB6 := Lib.hid (HB5.out.trans (hb.mono HB5.out.size))
              clear hb
              go_wp2
              go_ret
              exact ⟨rfl, HB6.out⟩
            · clear kI kXY kg0 kg1 kPQ
              go_enter Try.func6, Try.ntmps6
              go_wp2_with fail
              refine (awake_yes _).mono ?_
              rintro r w0 ⟨rfl, hb⟩
              have HB0 := Lib.hid (hb)
              clear hb
              go_wp2_with fail
              refine (D1.out _).mono ?_
              rintro r w1 ⟨rfl, hb⟩
              have HB1 := Lib.hid (HB0.out.trans (hb.mono HB0.out.size))
              clear hb
              go_wp2_with fail
              refine (D2.out _).mono ?_
              rintro r w2 ⟨rfl, hb⟩
              have HB2 := Lib.hid (HB1.out.trans (hb.mono HB1.out.size))
              clear hb
              go_wp2_with fail
              refine (D3.out _).mono ?_
              rintro r w3 ⟨rfl, hb⟩
              have HB3 := Lib.hid (HB2.out.trans (hb.mono HB2.out.size))
              clear hb
              go_wp2_with fail
              refine (D4.out _).mono ?_
              rintro r w4 ⟨rfl, hb⟩
              have HB4 := Lib.hid (HB3.out.trans (hb.mono HB3.out.size))
              clear hb
              go_wp2_with fail
              refine (D5.out _).mono ?_
              rintro r w5 ⟨rfl, hb⟩
              have HB5 := Lib.hid (HB4.out.trans (hb.mono HB4.out.size))
              clear hb
              go_wp2_with fail
              refine (D6.out _).mono ?_
              rintro r w6 ⟨rfl, hb⟩
              have HB6 := Lib.hid (HB5.out.trans (hb.mono HB5.out.size))
              clear hb
              go_wp2
              go_ret
              exact ⟨rfl, HB6.out⟩
        · have g1 := kg1 rfl
          rcases ki with rfl | rfl
          · obtain ⟨rfl, rfl⟩ := kI rfl
            clear kI kXY kh kg0 kg1 kPQ
            go_enter Try.func6, Try.ntmps6
            go_wp2_with fail
            refine (awake_yes _).mono ?_
            rintro r w0 ⟨rfl, hb⟩
            have HB0 := Lib.hid (hb)
            clear hb
            go_wp2_with fail
            refine (D1.out _).mono ?_
            rintro r w1 ⟨rfl, hb⟩
            have HB1 := Lib.hid (HB0.out.trans (hb.mono HB0.out.size))
            clear hb
            go_wp2_with fail
            refine (D2.out _).mono ?_
            rintro r w2 ⟨rfl, hb⟩
            have HB2 := Lib.hid (HB1.out.trans (hb.mono HB1.out.size))
            clear hb
            go_wp2_with fail
            refine (D3.out _).mono ?_
            rintro r w3 ⟨rfl, hb⟩
            have HB3 := Lib.hid (HB2.out.trans (hb.mono HB2.out.size))
            clear hb
            go_wp2_with fail
            refine (D4.out _).mono ?_
            rintro r w4 ⟨rfl, hb⟩
            have HB4 := Lib.hid (HB3.out.trans (hb.mono HB3.out.size))
            clear hb
            go_wp2_with fail
            refine (D5.out _).mono ?_
            rintro r w5 ⟨rfl, hb⟩
            have HB5 := Lib.hid (HB4.out.trans (hb.mono HB4.out.size))
            clear hb
            go_wp2_with fail
            refine (D6.out _).mono ?_
            rintro r w6 ⟨rfl, hb⟩
            have HB6 := Lib.hid (HB5.out.trans (hb.mono HB5.out.size))
            clear hb
            go_wp2
            go_ret
            exact ⟨rfl, HB6.out⟩
          · clear kI kXY kh kg0 kg1 kPQ
            go_enter Try.func6, Try.ntmps6
            go_wp2_with fail
            refine (awake_yes _).mono ?_
            rintro r w0 ⟨rfl, hb⟩
            have HB0 := Lib.hid (hb)
            clear hb
            go_wp2_with fail
            refine (D1.out _).mono ?_
            rintro r w1 ⟨rfl, hb⟩
            have HB1 := Lib.hid (HB0.out.trans (hb.mono HB0.out.size))
            clear hb
            go_wp2_with fail
            refine (D2.out _).mono ?_
            rintro r w2 ⟨rfl, hb⟩
            have HB2 := Lib.hid (HB1.out.trans (hb.mono HB1.out.size))
            clear hb
            go_wp2_with fail
            refine (D3.out _).mono ?_
            rintro r w3 ⟨rfl, hb⟩
            have HB3 := Lib.hid (HB2.out.trans (hb.mono HB2.out.size))
            clear hb
            go_wp2_with fail
            refine (D4.out _).mono ?_
            rintro r w4 ⟨rfl, hb⟩
            have HB4 := Lib.hid (HB3.out.trans (hb.mono HB3.out.size))
            clear hb
            go_wp2_with fail
            refine (D5.out _).mono ?_
            rintro r w5 ⟨rfl, hb⟩
            have HB5 := Lib.hid (HB4.out.trans (hb.mono HB4.out.size))
            clear hb
            go_wp2_with fail
            refine (D6.out _).mono ?_
            rintro r w6 ⟨rfl, hb⟩
            have HB6 := Lib.hid (HB5.out.trans (hb.mono HB5.out.size))
            clear hb
            go_wp2
            go_ret
            exact ⟨rfl, HB6.out⟩
    · rcases kgg with rfl | rfl
      · rcases kh with rfl | rfl
        · have g1 := kg0 rfl
          have g2 := kPQ rfl rfl
          rcases ki with rfl | rfl
          · obtain ⟨rfl, rfl⟩ := kI rfl
            clear kI kf kXY kg0 kg1 kPQ
            go_enter Try.func6, Try.ntmps6
            go_wp2_with fail
            refine (awake_yes _).mono ?_
            rintro r w0 ⟨rfl, hb⟩
            have HB0 := Lib.hid (hb)
            clear hb
            go_wp2_with fail
            refine (D1.out _).mono ?_
            rintro r w1 ⟨rfl, hb⟩
            have HB1 := Lib.hid (HB0.out.trans (hb.mono HB0.out.size))
            clear hb
            go_wp2_with fail
            refine (D2.out _).mono ?_
            rintro r w2 ⟨rfl, hb⟩
            have HB2 := Lib.hid (HB1.out.trans (hb.mono HB1.out.size))
            clear hb
            go_wp2_with fail
            refine (D3.out _).mono ?_
            rintro r w3 ⟨rfl, hb⟩
            have HB3 := Lib.hid (HB2.out.trans (hb.mono HB2.out.size))
            clear hb
            go_wp2_with fail
            refine (D4.out _).mono ?_
            rintro r w4 ⟨rfl, hb⟩
            have HB4 := Lib.hid (HB3.out.trans (hb.mono HB3.out.size))
            clear hb
            go_wp2_with fail
            refine (D5.out _).mono ?_
            rintro r w5 ⟨rfl, hb⟩
            have HB5 := Lib.hid (HB4.out.trans (hb.mono HB4.out.size))
            clear hb
            go_wp2_with fail
            refine (D6.out _).mono ?_
            rintro r w6 ⟨rfl, hb⟩
            have HB6 := Lib.hid (HB5.out.trans (hb.mono HB5.out.size))
            clear hb
            go_wp2
            go_ret
            exact ⟨rfl, HB6.out⟩
          · clear kI kf kXY kg0 kg1 kPQ
            go_enter Try.func6, Try.ntmps6
            go_wp2_with fail
            refine (awake_yes _).mono ?_
            rintro r w0 ⟨rfl, hb⟩
            have HB0 := Lib.hid (hb)
            clear hb
            go_wp2_with fail
            refine (D1.out _).mono ?_
            rintro r w1 ⟨rfl, hb⟩
            have HB1 := Lib.hid (HB0.out.trans (hb.mono HB0.out.size))
            clear hb
            go_wp2_with fail
            refine (D2.out _).mono ?_
            rintro r w2 ⟨rfl, hb⟩
            have HB2 := Lib.hid (HB1.out.trans (hb.mono HB1.out.size))
            clear hb
            go_wp2_with fail
            refine (D3.out _).mono ?_
            rintro r w3 ⟨rfl, hb⟩
            have HB3 := Lib.hid (HB2.out.trans (hb.mono HB2.out.size))
            clear hb
            go_wp2_with fail
            refine (D4.out _).mono ?_
            rintro r w4 ⟨rfl, hb⟩
            have HB4 := Lib.hid (HB3.out.trans (hb.mono HB3.out.size))
            clear hb
            go_wp2_with fail
            refine (D5.out _).mono ?_
            rintro r w5 ⟨rfl, hb⟩
            have HB5 := Lib.hid (HB4.out.trans (hb.mono HB4.out.size))
            clear hb
            go_wp2_with fail
            refine (D6.out _).mono ?_
            rintro r w6 ⟨rfl, hb⟩
            have HB6 := Lib.hid (HB5.out.trans (hb.mono HB5.out.size))
            clear hb
            go_wp2
            go_ret
            exact ⟨rfl, HB6.out⟩
        · have g1 := kg0 rfl
          rcases ki with rfl | rfl
          · obtain ⟨rfl, rfl⟩ := kI rfl
            clear kI kf kXY kg0 kg1 kPQ
            go_enter Try.func6, Try.ntmps6
            go_wp2_with fail
            refine (awake_yes _).mono ?_
            rintro r w0 ⟨rfl, hb⟩
            have HB0 := Lib.hid (hb)
            clear hb
            go_wp2_with fail
            refine (D1.out _).mono ?_
            rintro r w1 ⟨rfl, hb⟩
            have HB1 := Lib.hid (HB0.out.trans (hb.mono HB0.out.size))
            clear hb
            go_wp2_with fail
            refine (D2.out _).mono ?_
            rintro r w2 ⟨rfl, hb⟩
            have HB2 := Lib.hid (HB1.out.trans (hb.mono HB1.out.size))
            clear hb
            go_wp2_with fail
            refine (D3.out _).mono ?_
            rintro r w3 ⟨rfl, hb⟩
            have HB3 := Lib.hid (HB2.out.trans (hb.mono HB2.out.size))
            clear hb
            go_wp2_with fail
            refine (D4.out _).mono ?_
            rintro r w4 ⟨rfl, hb⟩
            have HB4 := Lib.hid (HB3.out.trans (hb.mono HB3.out.size))
            clear hb
            go_wp2_with fail
            refine (D5.out _).mono ?_
            rintro r w5 ⟨rfl, hb⟩
            have HB5 := Lib.hid (HB4.out.trans (hb.mono HB4.out.size))
            clear hb
            go_wp2_with fail
            refine (D6.out _).mono ?_
            rintro r w6 ⟨rfl, hb⟩
            have HB6 := Lib.hid (HB5.out.trans (hb.mono HB5.out.size))
            clear hb
            go_wp2
            go_ret
            exact ⟨rfl, HB6.out⟩
          · clear kI kf kXY kg0 kg1 kPQ
            go_enter Try.func6, Try.ntmps6
            go_wp2_with fail
            refine (awake_yes _).mono ?_
            rintro r w0 ⟨rfl, hb⟩
            have HB0 := Lib.hid (hb)
            clear hb
            go_wp2_with fail
            refine (D1.out _).mono ?_
            rintro r w1 ⟨rfl, hb⟩
            have HB1 := Lib.hid (HB0.out.trans (hb.mono HB0.out.size))
            clear hb
            go_wp2_with fail
            refine (D2.out _).mono ?_
            rintro r w2 ⟨rfl, hb⟩
            have HB2 := Lib.hid (HB1.out.trans (hb.mono HB1.out.size))
            clear hb
            go_wp2_with fail
            refine (D3.out _).mono ?_
            rintro r w3 ⟨rfl, hb⟩
            have HB3 := Lib.hid (HB2.out.trans (hb.mono HB2.out.size))
            clear hb
            go_wp2_with fail
            refine (D4.out _).mono ?_
            rintro r w4 ⟨rfl, hb⟩
            have HB4 := Lib.hid (HB3.out.trans (hb.mono HB3.out.size))
            clear hb
            go_wp2_with fail
            refine (D5.out _).mono ?_
            rintro r w5 ⟨rfl, hb⟩
            have HB5 := Lib.hid (HB4.out.trans (hb.mono HB4.out.size))
            clear hb
            go_wp2_with fail
            refine (D6.out _).mono ?_
            rintro r w6 ⟨rfl, hb⟩
            have HB6 := Lib.hid (HB5.out.trans (hb.mono HB5.out.size))
            clear hb
            go_wp2
            go_ret
            exact ⟨rfl, HB6.out⟩
      · have g1 := kg1 rfl
        rcases ki with rfl | rfl
        · obtain ⟨rfl, rfl⟩ := kI rfl
          clear kI kf kXY kh kg0 kg1 kPQ
          go_enter Try.func6, Try.ntmps6
          go_wp2_with fail
          refine (awake_yes _).mono ?_
          rintro r w0 ⟨rfl, hb⟩
          have HB0 := Lib.hid (hb)
          clear hb
          go_wp2_with fail
          refine (D1.out _).mono ?_
          rintro r w1 ⟨rfl, hb⟩
          have HB1 := Lib.hid (HB0.out.trans (hb.mono HB0.out.size))
          clear hb
          go_wp2_with fail
          refine (D2.out _).mono ?_
          rintro r w2 ⟨rfl, hb⟩
          have HB2 := Lib.hid (HB1.out.trans (hb.mono HB1.out.size))
          clear hb
          go_wp2_with fail
          refine (D3.out _).mono ?_
          rintro r w3 ⟨rfl, hb⟩
          have HB3 := Lib.hid (HB2.out.trans (hb.mono HB2.out.size))
          clear hb
          go_wp2_with fail
          refine (D4.out _).mono ?_
          rintro r w4 ⟨rfl, hb⟩
          have HB4 := Lib.hid (HB3.out.trans (hb.mono HB3.out.size))
          clear hb
          go_wp2_with fail
          refine (D5.out _).mono ?_
          rintro r w5 ⟨rfl, hb⟩
          have HB5 := Lib.hid (HB4.out.trans (hb.mono HB4.out.size))
          clear hb
          go_wp2_with fail
          refine (D6.out _).mono ?_
          rintro r w6 ⟨rfl, hb⟩
          have HB6 := Lib.hid (HB5.out.trans (hb.mono HB5.out.size))
          clear hb
          go_wp2
          go_ret
          exact ⟨rfl, HB6.out⟩
        · clear kI kf kXY kh kg0 kg1 kPQ
          go_enter Try.func6, Try.ntmps6
          go_wp2_with fail
          refine (awake_yes _).mono ?_
          rintro r w0 ⟨rfl, hb⟩
          have HB0 := Lib.hid (hb)
          clear hb
          go_wp2_with fail
          refine (D1.out _).mono ?_
          rintro r w1 ⟨rfl, hb⟩
          have HB1 := Lib.hid (HB0.out.trans (hb.mono HB0.out.size))
          clear hb
          go_wp2_with fail
          refine (D2.out _).mono ?_
          rintro r w2 ⟨rfl, hb⟩
          have HB2 := Lib.hid (HB1.out.trans (hb.mono HB1.out.size))
          clear hb
          go_wp2_with fail
          refine (D3.out _).mono ?_
          rintro r w3 ⟨rfl, hb⟩
          have HB3 := Lib.hid (HB2.out.trans (hb.mono HB2.out.size))
          clear hb
          go_wp2_with fail
          refine (D4.out _).mono ?_
          rintro r w4 ⟨rfl, hb⟩
          have HB4 := Lib.hid (HB3.out.trans (hb.mono HB3.out.size))
          clear hb
          go_wp2_with fail
          refine (D5.out _).mono ?_
          rintro r w5 ⟨rfl, hb⟩
          have HB5 := Lib.hid (HB4.out.trans (hb.mono HB4.out.size))
          clear hb
          go_wp2_with fail
          refine (D6.out _).mono ?_
          rintro r w6 ⟨rfl, hb⟩
          have HB6 := Lib.hid (HB5.out.trans (hb.mono HB5.out.size))
          clear hb
          go_wp2
          go_ret
          exact ⟨rfl, HB6.out⟩

theorem in_of {n : Int} (h : errR n = 0) : inR n = true := by
  cases e : inR n
  · rw [errR_out e] at h; cases h
  · rfl
theorem out_of {n : Int} (h : errR n = 10) : inR n = false := by
  cases e : inR n
  · rfl
  · rw [errR_in e] at h; cases h
theorem order_walk (a b c : Int) (w : World) (i0 : (Lit.int .i64 a).wf = true) (i1 : (Lit.int .i64 b).wf = true) (i2 : (Lit.int .i64 c).wf = true) :
    Calls Try.prog 6 #[.int .i64 a, .int .i64 b, .int .i64 c] w fun e w' => e = .returned (.bool true) ∧ Below w.heap.size w w' := by
  obtain ⟨a1, a2⟩ := bounds_i64 i0
  obtain ⟨b1, b2⟩ := bounds_i64 i1
  obtain ⟨c1, c2⟩ := bounds_i64 i2
  refine order_core a b c (numR (a + c)) (errR (a + c)) (numR (b + c)) (errR (b + c)) (numR (-a)) (errR (-a)) (numR (-b)) (errR (-b)) (numR (a - b)) (errR (a - b)) (numR (numR (a - b) + b)) (errR (numR (a - b) + b)) w
    (fun w => Add_any a c w a1 a2 c1 c2) (fun w => Add_any b c w b1 b2 c1 c2) (fun w => Neg_any a w a1 a2) (fun w => Neg_any b w b1 b2) (fun w => Sub_any a b w a1 a2 b1 b2) (fun w => Add_any _ b w (numR_bd _).1 (numR_bd _).2 b1 b2)
    (decide (a < b)) rfl (errR_eq _) (errR_eq _) (errR_eq _) (errR_eq _) (errR_eq _) ?_ ?_ ?_ ?_ ?_
  · intro h1 h2
    rw [numR_in (in_of h1), numR_in (in_of h2)]
    exact decide_eq_decide.2 (by omega)
  · intro h1 h2
    rw [numR_in (in_of h1), numR_in (in_of h2)]
    exact decide_eq_decide.2 (by omega)
  · intro h1
    have := inR_iff.1 (in_of h1)
    rw [bne_iff_ne]; omega
  · intro h1
    have := inR_no.1 (out_of h1)
    rw [bne_eq_false_iff_eq]; omega
  · intro h1
    rw [numR_in (in_of h1)]
    have e : a - b + b = a := by omega
    have hi : inR a = true := inR_iff.2 ⟨a1, a2⟩
    rw [e, errR_in hi, numR_in hi]
    exact ⟨rfl, rfl⟩
end Go.Proofs.Ytbkliomiboekhaa
