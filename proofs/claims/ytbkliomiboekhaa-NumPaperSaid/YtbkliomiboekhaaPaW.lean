/- NumPaper: the walk. -/
import Derived.Test.YtbkliomiboekhaaAw
import Derived.OpenShut
namespace Go.Proofs.Ytbkliomiboekhaa
open Go.RowKit
set_option linter.unusedVariables false

set_option maxHeartbeats 8000000 in
set_option maxRecDepth 100000 in
theorem paper_core (a b c ab e1 bc e2 x g y h p l q m r n s o : Int) (w : World)
    (C1 : (∀ w, Calls Try.prog 11 #[.int .i64 a, .int .i64 b] w (Told ab e1 w)))
    (C2 : (∀ w, Calls Try.prog 11 #[.int .i64 b, .int .i64 c] w (Told bc e2 w)))
    (C3 : (∀ w, Calls Try.prog 11 #[.int .i64 ab, .int .i64 c] w (Told x g w)))
    (C4 : (∀ w, Calls Try.prog 11 #[.int .i64 a, .int .i64 bc] w (Told y h w)))
    (C5 : (∀ w, Calls Try.prog 11 #[.int .i64 b, .int .i64 a] w (Told ab e1 w)))
    (C6 : (∀ w, Calls Try.prog 15 #[.int .i64 ab, .int .i64 c] w (Told p l w)))
    (C7 : (∀ w, Calls Try.prog 15 #[.int .i64 a, .int .i64 c] w (Told q m w)))
    (C8 : (∀ w, Calls Try.prog 15 #[.int .i64 b, .int .i64 c] w (Told r n w)))
    (C9 : (∀ w, Calls Try.prog 11 #[.int .i64 q, .int .i64 r] w (Told s o w)))
    (k1 : e1 = 0 ∨ e1 = 10)
    (k2 : e2 = 0 ∨ e2 = 10)
    (kl : l = 0 ∨ l = 10)
    (km : m = 0 ∨ m = 10)
    (kn : n = 0 ∨ n = 10)
    (kT : e1 = 0 → e2 = 0 → g = h ∧ x = y)
    (kF : e1 = 0 → l = 0 → m = 0 → n = 0 → o = 0 ∧ s = p) :
    Calls Try.prog 5 #[.int .i64 a, .int .i64 b, .int .i64 c] w fun r w' => r = .returned (.bool true) ∧ Below w.heap.size w w' := by
  have D1 := Lib.hid C1
  have D2 := Lib.hid C2
  have D3 := Lib.hid C3
  have D4 := Lib.hid C4
  have D5 := Lib.hid C5
  have D6 := Lib.hid C6
  have D7 := Lib.hid C7
  have D8 := Lib.hid C8
  have D9 := Lib.hid C9
  clear C1 C2 C3 C4 C5 C6 C7 C8 C9
  rcases k1 with rfl | rfl
  · rcases k2 with rfl | rfl
    · obtain ⟨rfl, rfl⟩ := kT rfl rfl
      rcases kl with rfl | rfl
      · rcases km with rfl | rfl
        · rcases kn with rfl | rfl
          · obtain ⟨rfl, rfl⟩ := kF rfl rfl rfl rfl
            clear kF kT
            go_enter Try.func5, Try.ntmps5
            go_wp2_with fail
            refine (awake_yes _).mono ?_
            rintro r w0 ⟨rfl, hb⟩
            have HB0 := Lib.hid (hb)
            clear hb
            go_wp2_with fail
            refine (D1.out _).mono ?_
            rintro r w1 ⟨rfl, hb⟩
            have HB1 := Lib.hid (HB0.out.trans (hb.mono HB0.out.size))
            clear hb
            go_wp2_with fail
            refine (D2.out _).mono ?_
            rintro r w2 ⟨rfl, hb⟩
            have HB2 := Lib.hid (HB1.out.trans (hb.mono HB1.out.size))
            clear hb
            go_wp2_with fail
            refine (D3.out _).mono ?_
            rintro r w3 ⟨rfl, hb⟩
            have HB3 := Lib.hid (HB2.out.trans (hb.mono HB2.out.size))
            clear hb
            go_wp2_with fail
            refine (D4.out _).mono ?_
            rintro r w4 ⟨rfl, hb⟩
            have HB4 := Lib.hid (HB3.out.trans (hb.mono HB3.out.size))
            clear hb
            go_wp2_with fail
            refine (D5.out _).mono ?_
            rintro r w5 ⟨rfl, hb⟩
            have HB5 := Lib.hid (HB4.out.trans (hb.mono HB4.out.size))
            clear hb
            go_wp2_with fail
            refine (D6.out _).mono ?_
            rintro r w6 ⟨rfl, hb⟩
            have HB6 := Lib.hid (HB5.out.trans (hb.mono HB5.out.size))
            clear hb
            go_wp2_with fail
            refine (D7.out _).mono ?_
            rintro r w7 ⟨rfl, hb⟩
            have HB7 := Lib.hid (HB6.out.trans (hb.mono HB6.out.size))
            clear hb
            go_wp2_with fail
            refine (D8.out _).mono ?_
            rintro r w8 ⟨rfl, hb⟩
            have HB8 := Lib.hid (HB7.out.trans (hb.mono HB7.out.size))
            clear hb
            go_wp2_with fail
            refine (D9.out _).mono ?_
            rintro r w9 ⟨rfl, hb⟩
            have HB9 := Lib.hid (HB8.out.trans (hb.mono HB8.out.size))
            clear hb
            go_wp2
            go_ret
            exact ⟨rfl, HB9.out⟩
          · clear kF kT
            go_enter Try.func5, Try.ntmps5
            go_wp2_with fail
            refine (awake_yes _).mono ?_
            rintro r w0 ⟨rfl, hb⟩
            have HB0 := Lib.hid (hb)
            clear hb
            go_wp2_with fail
            refine (D1.out _).mono ?_
            rintro r w1 ⟨rfl, hb⟩
            have HB1 := Lib.hid (HB0.out.trans (hb.mono HB0.out.size))
            clear hb
            go_wp2_with fail
            refine (D2.out _).mono ?_
            rintro r w2 ⟨rfl, hb⟩
            have HB2 := Lib.hid (HB1.out.trans (hb.mono HB1.out.size))
            clear hb
            go_wp2_with fail
            refine (D3.out _).mono ?_
            rintro r w3 ⟨rfl, hb⟩
            have HB3 := Lib.hid (HB2.out.trans (hb.mono HB2.out.size))
            clear hb
            go_wp2_with fail
            refine (D4.out _).mono ?_
            rintro r w4 ⟨rfl, hb⟩
            have HB4 := Lib.hid (HB3.out.trans (hb.mono HB3.out.size))
            clear hb
            go_wp2_with fail
            refine (D5.out _).mono ?_
            rintro r w5 ⟨rfl, hb⟩
            have HB5 := Lib.hid (HB4.out.trans (hb.mono HB4.out.size))
            clear hb
            go_wp2_with fail
            refine (D6.out _).mono ?_
            rintro r w6 ⟨rfl, hb⟩
            have HB6 := Lib.hid (HB5.out.trans (hb.mono HB5.out.size))
            clear hb
            go_wp2_with fail
            refine (D7.out _).mono ?_
            rintro r w7 ⟨rfl, hb⟩
            have HB7 := Lib.hid (HB6.out.trans (hb.mono HB6.out.size))
            clear hb
            go_wp2_with fail
            refine (D8.out _).mono ?_
            rintro r w8 ⟨rfl, hb⟩
            have HB8 := Lib.hid (HB7.out.trans (hb.mono HB7.out.size))
            clear hb
            go_wp2_with fail
            refine (D9.out _).mono ?_
            rintro r w9 ⟨rfl, hb⟩
            have HB9 := Lib.hid (HB8.out.trans (hb.mono HB8.out.size))
            clear hb
            go_wp2
            go_ret
            exact ⟨rfl, HB9.out⟩
        · clear kF kn kT
          go_enter Try.func5, Try.ntmps5
          go_wp2_with fail
          refine (awake_yes _).mono ?_
          rintro r w0 ⟨rfl, hb⟩
          have HB0 := Lib.hid (hb)
          clear hb
          go_wp2_with fail
          refine (D1.out _).mono ?_
          rintro r w1 ⟨rfl, hb⟩
          have HB1 := Lib.hid (HB0.out.trans (hb.mono HB0.out.size))
          clear hb
          go_wp2_with fail
          refine (D2.out _).mono ?_
          rintro r w2 ⟨rfl, hb⟩
          have HB2 := Lib.hid (HB1.out.trans (hb.mono HB1.out.size))
          clear hb
          go_wp2_with fail
          refine (D3.out _).mono ?_
          rintro r w3 ⟨rfl, hb⟩
          have HB3 := Lib.hid (HB2.out.trans (hb.mono HB2.out.size))
          clear hb
          go_wp2_with fail
          refine (D4.out _).mono ?_
          rintro r w4 ⟨rfl, hb⟩
          have HB4 := Lib.hid (HB3.out.trans (hb.mono HB3.out.size))
          clear hb
          go_wp2_with fail
          refine (D5.out _).mono ?_
          rintro r w5 ⟨rfl, hb⟩
          have HB5 := Lib.hid (HB4.out.trans (hb.mono HB4.out.size))
          clear hb
          go_wp2_with fail
          refine (D6.out _).mono ?_
          rintro r w6 ⟨rfl, hb⟩
          have HB6 := Lib.hid (HB5.out.trans (hb.mono HB5.out.size))
          clear hb
          go_wp2_with fail
          refine (D7.out _).mono ?_
          rintro r w7 ⟨rfl, hb⟩
          have HB7 := Lib.hid (HB6.out.trans (hb.mono HB6.out.size))
          clear hb
          go_wp2_with fail
          refine (D8.out _).mono ?_
          rintro r w8 ⟨rfl, hb⟩
          have HB8 := Lib.hid (HB7.out.trans (hb.mono HB7.out.size))
          clear hb
          go_wp2_with fail
          refine (D9.out _).mono ?_
          rintro r w9 ⟨rfl, hb⟩
          have HB9 := Lib.hid (HB8.out.trans (hb.mono HB8.out.size))
          clear hb
          go_wp2
          go_ret
          exact ⟨rfl, HB9.out⟩
      · clear kF km kn kT
        go_enter Try.func5, Try.ntmps5
        go_wp2_with fail
        refine (awake_yes _).mono ?_
        rintro r w0 ⟨rfl, hb⟩
        have HB0 := Lib.hid (hb)
        clear hb
        go_wp2_with fail
        refine (D1.out _).mono ?_
        rintro r w1 ⟨rfl, hb⟩
        have HB1 := Lib.hid (HB0.out.trans (hb.mono HB0.out.size))
        clear hb
        go_wp2_with fail
        refine (D2.out _).mono ?_
        rintro r w2 ⟨rfl, hb⟩
        have HB2 := Lib.hid (HB1.out.trans (hb.mono HB1.out.size))
        clear hb
        go_wp2_with fail
        refine (D3.out _).mono ?_
        rintro r w3 ⟨rfl, hb⟩
        have HB3 := Lib.hid (HB2.out.trans (hb.mono HB2.out.size))
        clear hb
        go_wp2_with fail
        refine (D4.out _).mono ?_
        rintro r w4 ⟨rfl, hb⟩
        have HB4 := Lib.hid (HB3.out.trans (hb.mono HB3.out.size))
        clear hb
        go_wp2_with fail
        refine (D5.out _).mono ?_
        rintro r w5 ⟨rfl, hb⟩
        have HB5 := Lib.hid (HB4.out.trans (hb.mono HB4.out.size))
        clear hb
        go_wp2_with fail
        refine (D6.out _).mono ?_
        rintro r w6 ⟨rfl, hb⟩
        have HB6 := Lib.hid (HB5.out.trans (hb.mono HB5.out.size))
        clear hb
        go_wp2_with fail
        refine (D7.out _).mono ?_
        rintro r w7 ⟨rfl, hb⟩
        have HB7 := Lib.hid (HB6.out.trans (hb.mono HB6.out.size))
        clear hb
        go_wp2_with fail
        refine (D8.out _).mono ?_
        rintro r w8 ⟨rfl, hb⟩
        have HB8 := Lib.hid (HB7.out.trans (hb.mono HB7.out.size))
        clear hb
        go_wp2_with fail
        refine (D9.out _).mono ?_
        rintro r w9 ⟨rfl, hb⟩
        have HB9 := Lib.hid (HB8.out.trans (hb.mono HB8.out.size))
        clear hb
        go_wp2
        go_ret
        exact ⟨rfl, HB9.out⟩
    · rcases kl with rfl | rfl
      · rcases km with rfl | rfl
        · rcases kn with rfl | rfl
          · obtain ⟨rfl, rfl⟩ := kF rfl rfl rfl rfl
            clear kF kT
            go_enter Try.func5, Try.ntmps5
            go_wp2_with fail
            refine (awake_yes _).mono ?_
            rintro r w0 ⟨rfl, hb⟩
            have HB0 := Lib.hid (hb)
            clear hb
            go_wp2_with fail
            refine (D1.out _).mono ?_
            rintro r w1 ⟨rfl, hb⟩
            have HB1 := Lib.hid (HB0.out.trans (hb.mono HB0.out.size))
            clear hb
            go_wp2_with fail
            refine (D2.out _).mono ?_
            rintro r w2 ⟨rfl, hb⟩
            have HB2 := Lib.hid (HB1.out.trans (hb.mono HB1.out.size))
            clear hb
            go_wp2_with fail
            refine (D3.out _).mono ?_
            rintro r w3 ⟨rfl, hb⟩
            have HB3 := Lib.hid (HB2.out.trans (hb.mono HB2.out.size))
            clear hb
            go_wp2_with fail
            refine (D4.out _).mono ?_
            rintro r w4 ⟨rfl, hb⟩
            have HB4 := Lib.hid (HB3.out.trans (hb.mono HB3.out.size))
            clear hb
            go_wp2_with fail
            refine (D5.out _).mono ?_
            rintro r w5 ⟨rfl, hb⟩
            have HB5 := Lib.hid (HB4.out.trans (hb.mono HB4.out.size))
            clear hb
            go_wp2_with fail
            refine (D6.out _).mono ?_
            rintro r w6 ⟨rfl, hb⟩
            have HB6 := Lib.hid (HB5.out.trans (hb.mono HB5.out.size))
            clear hb
            go_wp2_with fail
            refine (D7.out _).mono ?_
            rintro r w7 ⟨rfl, hb⟩
            have HB7 := Lib.hid (HB6.out.trans (hb.mono HB6.out.size))
            clear hb
            go_wp2_with fail
            refine (D8.out _).mono ?_
            rintro r w8 ⟨rfl, hb⟩
            have HB8 := Lib.hid (HB7.out.trans (hb.mono HB7.out.size))
            clear hb
            go_wp2_with fail
            refine (D9.out _).mono ?_
            rintro r w9 ⟨rfl, hb⟩
            have HB9 := Lib.hid (HB8.out.trans (hb.mono HB8.out.size))
            clear hb
            go_wp2
            go_ret
            exact ⟨rfl, HB9.out⟩
          · clear kF kT
            go_enter Try.func5, Try.ntmps5
            go_wp2_with fail
            refine (awake_yes _).mono ?_
            rintro r w0 ⟨rfl, hb⟩
            have HB0 := Lib.hid (hb)
            clear hb
            go_wp2_with fail
            refine (D1.out _).mono ?_
            rintro r w1 ⟨rfl, hb⟩
            have HB1 := Lib.hid (HB0.out.trans (hb.mono HB0.out.size))
            clear hb
            go_wp2_with fail
            refine (D2.out _).mono ?_
            rintro r w2 ⟨rfl, hb⟩
            have HB2 := Lib.hid (HB1.out.trans (hb.mono HB1.out.size))
            clear hb
            go_wp2_with fail
            refine (D3.out _).mono ?_
            rintro r w3 ⟨rfl, hb⟩
            have HB3 := Lib.hid (HB2.out.trans (hb.mono HB2.out.size))
            clear hb
            go_wp2_with fail
            refine (D4.out _).mono ?_
            rintro r w4 ⟨rfl, hb⟩
            have HB4 := Lib.hid (HB3.out.trans (hb.mono HB3.out.size))
            clear hb
            go_wp2_with fail
            refine (D5.out _).mono ?_
            rintro r w5 ⟨rfl, hb⟩
            have HB5 := Lib.hid (HB4.out.trans (hb.mono HB4.out.size))
            clear hb
            go_wp2_with fail
            refine (D6.out _).mono ?_
            rintro r w6 ⟨rfl, hb⟩
            have HB6 := Lib.hid (HB5.out.trans (hb.mono HB5.out.size))
            clear hb
            go_wp2_with fail
            refine (D7.out _).mono ?_
            rintro r w7 ⟨rfl, hb⟩
            have HB7 := Lib.hid (HB6.out.trans (hb.mono HB6.out.size))
            clear hb
            go_wp2_with fail
            refine (D8.out _).mono ?_
            rintro r w8 ⟨rfl, hb⟩
            have HB8 := Lib.hid (HB7.out.trans (hb.mono HB7.out.size))
            clear hb
            go_wp2_with fail
            refine (D9.out _).mono ?_
            rintro r w9 ⟨rfl, hb⟩
            have HB9 := Lib.hid (HB8.out.trans (hb.mono HB8.out.size))
            clear hb
            go_wp2
            go_ret
            exact ⟨rfl, HB9.out⟩
        · clear kF kn kT
          go_enter Try.func5, Try.ntmps5
          go_wp2_with fail
          refine (awake_yes _).mono ?_
          rintro r w0 ⟨rfl, hb⟩
          have HB0 := Lib.hid (hb)
          clear hb
          go_wp2_with fail
          refine (D1.out _).mono ?_
          rintro r w1 ⟨rfl, hb⟩
          have HB1 := Lib.hid (HB0.out.trans (hb.mono HB0.out.size))
          clear hb
          go_wp2_with fail
          refine (D2.out _).mono ?_
          rintro r w2 ⟨rfl, hb⟩
          have HB2 := Lib.hid (HB1.out.trans (hb.mono HB1.out.size))
          clear hb
          go_wp2_with fail
          refine (D3.out _).mono ?_
          rintro r w3 ⟨rfl, hb⟩
          have HB3 := Lib.hid (HB2.out.trans (hb.mono HB2.out.size))
          clear hb
          go_wp2_with fail
          refine (D4.out _).mono ?_
          rintro r w4 ⟨rfl, hb⟩
          have HB4 := Lib.hid (HB3.out.trans (hb.mono HB3.out.size))
          clear hb
          go_wp2_with fail
          refine (D5.out _).mono ?_
          rintro r w5 ⟨rfl, hb⟩
          have HB5 := Lib.hid (HB4.out.trans (hb.mono HB4.out.size))
          clear hb
          go_wp2_with fail
          refine (D6.out _).mono ?_
          rintro r w6 ⟨rfl, hb⟩
          have HB6 := Lib.hid (HB5.out.trans (hb.mono HB5.out.size))
          clear hb
          go_wp2_with fail
          refine (D7.out _).mono ?_
          rintro r w7 ⟨rfl, hb⟩
          have HB7 := Lib.hid (HB6.out.trans (hb.mono HB6.out.size))
          clear hb
          go_wp2_with fail
          refine (D8.out _).mono ?_
          rintro r w8 ⟨rfl, hb⟩
          have HB8 := Lib.hid (HB7.out.trans (hb.mono HB7.out.size))
          clear hb
          go_wp2_with fail
          refine (D9.out _).mono ?_
          rintro r w9 ⟨rfl, hb⟩
          have HB9 := Lib.hid (HB8.out.trans (hb.mono HB8.out.size))
          clear hb
          go_wp2
          go_ret
          exact ⟨rfl, HB9.out⟩
      · clear kF km kn kT
        go_enter Try.func5, Try.ntmps5
        go_wp2_with fail
        refine (awake_yes _).mono ?_
        rintro r w0 ⟨rfl, hb⟩
        have HB0 := Lib.hid (hb)
        clear hb
        go_wp2_with fail
        refine (D1.out _).mono ?_
        rintro r w1 ⟨rfl, hb⟩
        have HB1 := Lib.hid (HB0.out.trans (hb.mono HB0.out.size))
        clear hb
        go_wp2_with fail
        refine (D2.out _).mono ?_
        rintro r w2 ⟨rfl, hb⟩
        have HB2 := Lib.hid (HB1.out.trans (hb.mono HB1.out.size))
        clear hb
        go_wp2_with fail
        refine (D3.out _).mono ?_
        rintro r w3 ⟨rfl, hb⟩
        have HB3 := Lib.hid (HB2.out.trans (hb.mono HB2.out.size))
        clear hb
        go_wp2_with fail
        refine (D4.out _).mono ?_
        rintro r w4 ⟨rfl, hb⟩
        have HB4 := Lib.hid (HB3.out.trans (hb.mono HB3.out.size))
        clear hb
        go_wp2_with fail
        refine (D5.out _).mono ?_
        rintro r w5 ⟨rfl, hb⟩
        have HB5 := Lib.hid (HB4.out.trans (hb.mono HB4.out.size))
        clear hb
        go_wp2_with fail
        refine (D6.out _).mono ?_
        rintro r w6 ⟨rfl, hb⟩
        have HB6 := Lib.hid (HB5.out.trans (hb.mono HB5.out.size))
        clear hb
        go_wp2_with fail
        refine (D7.out _).mono ?_
        rintro r w7 ⟨rfl, hb⟩
        have HB7 := Lib.hid (HB6.out.trans (hb.mono HB6.out.size))
        clear hb
        go_wp2_with fail
        refine (D8.out _).mono ?_
        rintro r w8 ⟨rfl, hb⟩
        have HB8 := Lib.hid (HB7.out.trans (hb.mono HB7.out.size))
        clear hb
        go_wp2_with fail
        refine (D9.out _).mono ?_
        rintro r w9 ⟨rfl, hb⟩
        have HB9 := Lib.hid (HB8.out.trans (hb.mono HB8.out.size))
        clear hb
        go_wp2
        go_ret
        exact ⟨rfl, HB9.out⟩
  · clear kF kT k2 kl km kn
    go_enter Try.func5, Try.ntmps5
    go_wp2_with fail
    refine (awake_yes _).mono ?_
    rintro r w0 ⟨rfl, hb⟩
    have HB0 := Lib.hid (hb)
    clear hb
    go_wp2_with fail
    refine (D1.out _).mono ?_
    rintro r w1 ⟨rfl, hb⟩
    have HB1 := Lib.hid (HB0.out.trans (hb.mono HB0.out.size))
    clear hb
    go_wp2_with fail
    refine (D2.out _).mono ?_
    rintro r w2 ⟨rfl, hb⟩
    have HB2 := Lib.hid (HB1.out.trans (hb.mono HB1.out.size))
    clear hb
    go_wp2_with fail
    refine (D3.out _).mono ?_
    rintro r w3 ⟨rfl, hb⟩
    have HB3 := Lib.hid (HB2.out.trans (hb.mono HB2.out.size))
    clear hb
    go_wp2_with fail
    refine (D4.out _).mono ?_
    rintro r w4 ⟨rfl, hb⟩
    have HB4 := Lib.hid (HB3.out.trans (hb.mono HB3.out.size))
    clear hb
    go_wp2_with fail
    refine (D5.out _).mono ?_
    rintro r w5 ⟨rfl, hb⟩
    have HB5 := Lib.hid (HB4.out.trans (hb.mono HB4.out.size))
    clear hb
    go_wp2_with fail
    refine (D6.out _).mono ?_
    rintro r w6 ⟨rfl, hb⟩
    have HB6 := Lib.hid (HB5.out.trans (hb.mono HB5.out.size))
    clear hb
    go_wp2_with fail
    refine (D7.out _).mono ?_
    rintro r w7 ⟨rfl, hb⟩
    have HB7 := Lib.hid (HB6.out.trans (hb.mono HB6.out.size))
    clear hb
    go_wp2_with fail
    refine (D8.out _).mono ?_
    rintro r w8 ⟨rfl, hb⟩
    have HB8 := Lib.hid (HB7.out.trans (hb.mono HB7.out.size))
    clear hb
    go_wp2_with fail
    refine (D9.out _).mono ?_
    rintro r w9 ⟨rfl, hb⟩
    have HB9 := Lib.hid (HB8.out.trans (hb.mono HB8.out.size))
    clear hb
    go_wp2
    go_ret
    exact ⟨rfl, HB9.out⟩

theorem in_of {n : Int} (h : errR n = 0) : inR n = true := by
  cases e : inR n
  · rw [errR_out e] at h; cases h
  · rfl
theorem paper_walk (a b c : Int) (w : World) (i0 : (Lit.int .i64 a).wf = true) (i1 : (Lit.int .i64 b).wf = true) (i2 : (Lit.int .i64 c).wf = true) :
    Calls Try.prog 5 #[.int .i64 a, .int .i64 b, .int .i64 c] w fun e w' => e = .returned (.bool true) ∧ Below w.heap.size w w' := by
  obtain ⟨a1, a2⟩ := bounds_i64 i0
  obtain ⟨b1, b2⟩ := bounds_i64 i1
  obtain ⟨c1, c2⟩ := bounds_i64 i2
  refine paper_core a b c _ _ _ _ _ _ _ _ _ _ _ _ _ _ _ _ w (fun w => Add_any a b w a1 a2 b1 b2) (fun w => Add_any b c w b1 b2 c1 c2) (fun w => Add_any _ c w (numR_bd _).1 (numR_bd _).2 c1 c2) (fun w => Add_any a _ w a1 a2 (numR_bd _).1 (numR_bd _).2)
    (fun w => by have h := Add_any b a w b1 b2 a1 a2; simp only [Int.add_comm b a] at h; exact h) (fun w => Mul_any _ c w (numR_bd _).1 (numR_bd _).2 c1 c2) (fun w => Mul_any a c w a1 a2 c1 c2) (fun w => Mul_any b c w b1 b2 c1 c2) (fun w => Add_any _ _ w (numR_bd _).1 (numR_bd _).2 (numR_bd _).1 (numR_bd _).2)
    (errR_eq _) (errR_eq _) (errR_eq _) (errR_eq _) (errR_eq _) ?_ ?_
  · intro h1 h2
    have := paper_add (a := a) (b := b) (c := c) (in_of h1) (in_of h2)
    exact ⟨this.2, this.1⟩
  · intro h1 h2 h3 h4
    have h1 : errR (a + b) = 0 := h1
    have h2 : errR (numR (a + b) * c) = 0 := h2
    have h3 : errR (a * c) = 0 := h3
    have h4 : errR (b * c) = 0 := h4
    have e1 := numR_in (in_of h1)
    have e3 := numR_in (in_of h3)
    have e4 := numR_in (in_of h4)
    show errR (numR (a * c) + numR (b * c)) = 0 ∧ numR (numR (a * c) + numR (b * c)) = numR (numR (a + b) * c)
    have h5 : inR (numR (a * c) + numR (b * c)) = true := by
      rw [e3, e4, ← Int.add_mul]
      have := in_of h2
      rwa [e1] at this
    exact ⟨errR_in h5, paper_mul (in_of h1) (in_of h2) (in_of h3) (in_of h4) h5⟩
end Go.Proofs.Ytbkliomiboekhaa
