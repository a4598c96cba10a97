/- PathsThird: the walk. -/
import Derived.Test.YtnofmnoohnmanaaPlI
import Derived.Test.YtnofmnoohnmanaaPlO
namespace Go.Proofs.Ytnofmnoohnmanaa
open Go.RowKit
set_option linter.unusedVariables false
set_option linter.unusedSimpArgs false


theorem third_cases {p q r : PKey} {b0 b1 b2 b3 : Bool} (h0 : begB p q = b0) (h1 : begB q r = b1) (h2 : begB p r = b2) (h3 : meetB p q = b3) :
    (b0 = true ∧ b1 = true ∧ b2 = true ∧ b3 = true) ∨ (b0 = true ∧ b1 = false ∧ b2 = true ∧ b3 = true) ∨ (b0 = true ∧ b1 = false ∧ b2 = false ∧ b3 = true) ∨ (b0 = false ∧ b1 = true ∧ b2 = true ∧ b3 = true) ∨ (b0 = false ∧ b1 = true ∧ b2 = false ∧ b3 = true) ∨ (b0 = false ∧ b1 = true ∧ b2 = false ∧ b3 = false) ∨ (b0 = false ∧ b1 = false ∧ b2 = true ∧ b3 = true) ∨ (b0 = false ∧ b1 = false ∧ b2 = true ∧ b3 = false) ∨ (b0 = false ∧ b1 = false ∧ b2 = false ∧ b3 = true) ∨ (b0 = false ∧ b1 = false ∧ b2 = false ∧ b3 = false) := by
  have k1 : b0 = true → b1 = true → b2 = true := by rintro rfl rfl; rw [← h2]; exact begB_trans h0 h1
  have k2 : b2 = true → b1 = true → b3 = true := by rintro rfl rfl; rw [← h3]; exact begB_two h2 h1
  have k3 : b0 = true → b3 = true := by rintro rfl; rw [← h3]; exact meetB_iff.2 (.inl h0)
  clear h0 h1 h2 h3
  cases b0 <;> cases b1 <;> cases b2 <;> cases b3 <;> simp_all
set_option maxHeartbeats 12800000 in
set_option maxRecDepth 100000 in
theorem pathsThird_walk (x0 x1 x2 : Pl) (w : World) (g0 : PlOk w w.heap.size x0) (g1 : PlOk w w.heap.size x1) (g2 : PlOk w w.heap.size x2) :
    Calls Try.prog 7 #[.agg #[.string x0.name, .slice x0.pa x0.path.length x0.pc], .agg #[.string x1.name, .slice x1.pa x1.path.length x1.pc], .agg #[.string x2.name, .slice x2.pa x2.path.length x2.pc]] w fun r w' => r = .returned (.bool true) ∧ Below w.heap.size w w' := by
  obtain ⟨W0, hW0⟩ : ∃ W0, W0 = (((w.alloc (.cells #[.string x0.name, .slice x0.pa x0.path.length x0.pc] 24)).alloc (.cells #[.string x1.name, .slice x1.pa x1.path.length x1.pc] 24)).alloc (.cells #[.string x2.name, .slice x2.pa x2.path.length x2.pc] 24)) := ⟨_, rfl⟩
  have hB0 : Below w.heap.size w W0 := by rw [hW0]; exact ((((Below.refl _ _).alloc (Nat.le_refl _) _).alloc (by simp) _).alloc (by simp; omega) _)
  have hk0 : Blk W0 w.heap.size 24 #[.string x0.name, .slice x0.pa x0.path.length x0.pc] := by rw [hW0]; exact blk_at (((Blk.new w _ _).alloc _).alloc _) (by simp)
  have HK0 := Lib.hid hk0
  have hk1 : Blk W0 (w.heap.size + 1) 24 #[.string x1.name, .slice x1.pa x1.path.length x1.pc] := by rw [hW0]; exact blk_at ((Blk.new (w.alloc (.cells #[.string x0.name, .slice x0.pa x0.path.length x0.pc] 24)) _ _).alloc _) (by simp)
  have HK1 := Lib.hid hk1
  have hk2 : Blk W0 (w.heap.size + 1 + 1) 24 #[.string x2.name, .slice x2.pa x2.path.length x2.pc] := by rw [hW0]; exact blk_at (Blk.new ((w.alloc (.cells #[.string x0.name, .slice x0.pa x0.path.length x0.pc] 24)).alloc (.cells #[.string x1.name, .slice x1.pa x1.path.length x1.pc] 24)) _ _) (by simp)
  have HK2 := Lib.hid hk2
  have Hx0 := Lib.hid (fun W (h : Below W0.heap.size W0 W) => (g0.next hB0).next h)
  have Hx1 := Lib.hid (fun W (h : Below W0.heap.size W0 W) => (g1.next hB0).next h)
  have Hx2 := Lib.hid (fun W (h : Below W0.heap.size W0 W) => (g2.next hB0).next h)
  have HB0 := Lib.hid hB0
  have HW0 := Lib.hid hW0
  have HB := Lib.hid (Below.refl W0.heap.size W0)
  have HAW := Lib.hid (fun W (_ : Below W0.heap.size W0 W) => awake_yes W)
  have c0a := bx0 (HK0.out.below HB.out HK0.out.lt)
  have c0b := bx1 (HK0.out.below HB.out HK0.out.lt)
  have z0 := (HK0.out.below HB.out HK0.out.lt).lt
  have c1a := bx0 (HK1.out.below HB.out HK1.out.lt)
  have c1b := bx1 (HK1.out.below HB.out HK1.out.lt)
  have z1 := (HK1.out.below HB.out HK1.out.lt).lt
  have c2a := bx0 (HK2.out.below HB.out HK2.out.lt)
  have c2b := bx1 (HK2.out.below HB.out HK2.out.lt)
  have z2 := (HK2.out.below HB.out HK2.out.lt).lt
  clear hB0 hk0 hk1 hk2
  obtain ⟨l0, hl0⟩ : ∃ b, longB x0 = b := ⟨_, rfl⟩
  obtain ⟨l1, hl1⟩ : ∃ b, longB x1 = b := ⟨_, rfl⟩
  obtain ⟨l2, hl2⟩ : ∃ b, longB x2 = b := ⟨_, rfl⟩
  obtain ⟨b0, hb0⟩ : ∃ b, begB x0.key x1.key = b := ⟨_, rfl⟩
  obtain ⟨b1, hb1⟩ : ∃ b, begB x1.key x2.key = b := ⟨_, rfl⟩
  obtain ⟨b2, hb2⟩ : ∃ b, begB x0.key x2.key = b := ⟨_, rfl⟩
  obtain ⟨b3, hb3⟩ : ∃ b, meetB x0.key x1.key = b := ⟨_, rfl⟩
  have hcase := third_cases hb0 hb1 hb2 hb3
  have CL0 := Lib.hid (fun W (h : Below W0.heap.size W0 W) => long_bool x0 hl0 W (Hx0.out W h))
  have CL1 := Lib.hid (fun W (h : Below W0.heap.size W0 W) => long_bool x1 hl1 W (Hx1.out W h))
  have CL2 := Lib.hid (fun W (h : Below W0.heap.size W0 W) => long_bool x2 hl2 W (Hx2.out W h))
  have CB0 := Lib.hid (fun W (h : Below W0.heap.size W0 W) => beg_bool x0 x1 hb0 W (Hx0.out W h) (Hx1.out W h))
  have CB1 := Lib.hid (fun W (h : Below W0.heap.size W0 W) => beg_bool x1 x2 hb1 W (Hx1.out W h) (Hx2.out W h))
  have CB2 := Lib.hid (fun W (h : Below W0.heap.size W0 W) => beg_bool x0 x2 hb2 W (Hx0.out W h) (Hx2.out W h))
  have CM := Lib.hid (fun W (h : Below W0.heap.size W0 W) => meets_bool x0 x1 hb3 W (Hx0.out W h) (Hx1.out W h))
  clear hl0 hl1 hl2 hb0 hb1 hb2 hb3
  cases l0 with
  | true =>
    go_enter Try.func7, Try.ntmps7
    go_wp2_with fail
    rw [← HW0.out]
    clear hW0
    go_wp2_with (first
      | ((with_reducible refine (CL0.out _ HB.out).mono ?_); rintro r wn ⟨rfl, hbn⟩; have HB := Lib.hid (HB.out.trans (hbn.mono HB.out.size)); clear hbn; have c0a := bx0 (HK0.out.below HB.out HK0.out.lt); have c0b := bx1 (HK0.out.below HB.out HK0.out.lt); have z0 := (HK0.out.below HB.out HK0.out.lt).lt; have c1a := bx0 (HK1.out.below HB.out HK1.out.lt); have c1b := bx1 (HK1.out.below HB.out HK1.out.lt); have z1 := (HK1.out.below HB.out HK1.out.lt).lt; have c2a := bx0 (HK2.out.below HB.out HK2.out.lt); have c2b := bx1 (HK2.out.below HB.out HK2.out.lt); have z2 := (HK2.out.below HB.out HK2.out.lt).lt)
      | ((with_reducible refine (HAW.out _ HB.out).mono ?_); rintro r wn ⟨rfl, hbn⟩; have HB := Lib.hid (HB.out.trans (hbn.mono HB.out.size)); clear hbn; have c0a := bx0 (HK0.out.below HB.out HK0.out.lt); have c0b := bx1 (HK0.out.below HB.out HK0.out.lt); have z0 := (HK0.out.below HB.out HK0.out.lt).lt; have c1a := bx0 (HK1.out.below HB.out HK1.out.lt); have c1b := bx1 (HK1.out.below HB.out HK1.out.lt); have z1 := (HK1.out.below HB.out HK1.out.lt).lt; have c2a := bx0 (HK2.out.below HB.out HK2.out.lt); have c2b := bx1 (HK2.out.below HB.out HK2.out.lt); have z2 := (HK2.out.below HB.out HK2.out.lt).lt))
    go_wp2
    go_ret
    exact ⟨rfl, HB0.out.trans (HB.out.mono HB0.out.size)⟩
  | false =>
    cases l1 with
    | true =>
      go_enter Try.func7, Try.ntmps7
      go_wp2_with fail
      rw [← HW0.out]
      clear hW0
      go_wp2_with (first
        | ((with_reducible refine (CL0.out _ HB.out).mono ?_); rintro r wn ⟨rfl, hbn⟩; have HB := Lib.hid (HB.out.trans (hbn.mono HB.out.size)); clear hbn; have c0a := bx0 (HK0.out.below HB.out HK0.out.lt); have c0b := bx1 (HK0.out.below HB.out HK0.out.lt); have z0 := (HK0.out.below HB.out HK0.out.lt).lt; have c1a := bx0 (HK1.out.below HB.out HK1.out.lt); have c1b := bx1 (HK1.out.below HB.out HK1.out.lt); have z1 := (HK1.out.below HB.out HK1.out.lt).lt; have c2a := bx0 (HK2.out.below HB.out HK2.out.lt); have c2b := bx1 (HK2.out.below HB.out HK2.out.lt); have z2 := (HK2.out.below HB.out HK2.out.lt).lt)
        | ((with_reducible refine (CL1.out _ HB.out).mono ?_); rintro r wn ⟨rfl, hbn⟩; have HB := Lib.hid (HB.out.trans (hbn.mono HB.out.size)); clear hbn; have c0a := bx0 (HK0.out.below HB.out HK0.out.lt); have c0b := bx1 (HK0.out.below HB.out HK0.out.lt); have z0 := (HK0.out.below HB.out HK0.out.lt).lt; have c1a := bx0 (HK1.out.below HB.out HK1.out.lt); have c1b := bx1 (HK1.out.below HB.out HK1.out.lt); have z1 := (HK1.out.below HB.out HK1.out.lt).lt; have c2a := bx0 (HK2.out.below HB.out HK2.out.lt); have c2b := bx1 (HK2.out.below HB.out HK2.out.lt); have z2 := (HK2.out.below HB.out HK2.out.lt).lt)
        | ((with_reducible refine (HAW.out _ HB.out).mono ?_); rintro r wn ⟨rfl, hbn⟩; have HB := Lib.hid (HB.out.trans (hbn.mono HB.out.size)); clear hbn; have c0a := bx0 (HK0.out.below HB.out HK0.out.lt); have c0b := bx1 (HK0.out.below HB.out HK0.out.lt); have z0 := (HK0.out.below HB.out HK0.out.lt).lt; have c1a := bx0 (HK1.out.below HB.out HK1.out.lt); have c1b := bx1 (HK1.out.below HB.out HK1.out.lt); have z1 := (HK1.out.below HB.out HK1.out.lt).lt; have c2a := bx0 (HK2.out.below HB.out HK2.out.lt); have c2b := bx1 (HK2.out.below HB.out HK2.out.lt); have z2 := (HK2.out.below HB.out HK2.out.lt).lt))
      go_wp2
      go_ret
      exact ⟨rfl, HB0.out.trans (HB.out.mono HB0.out.size)⟩
    | false =>
      cases l2 with
      | true =>
        go_enter Try.func7, Try.ntmps7
        go_wp2_with fail
        rw [← HW0.out]
        clear hW0
        go_wp2_with (first
          | ((with_reducible refine (CL0.out _ HB.out).mono ?_); rintro r wn ⟨rfl, hbn⟩; have HB := Lib.hid (HB.out.trans (hbn.mono HB.out.size)); clear hbn; have c0a := bx0 (HK0.out.below HB.out HK0.out.lt); have c0b := bx1 (HK0.out.below HB.out HK0.out.lt); have z0 := (HK0.out.below HB.out HK0.out.lt).lt; have c1a := bx0 (HK1.out.below HB.out HK1.out.lt); have c1b := bx1 (HK1.out.below HB.out HK1.out.lt); have z1 := (HK1.out.below HB.out HK1.out.lt).lt; have c2a := bx0 (HK2.out.below HB.out HK2.out.lt); have c2b := bx1 (HK2.out.below HB.out HK2.out.lt); have z2 := (HK2.out.below HB.out HK2.out.lt).lt)
          | ((with_reducible refine (CL1.out _ HB.out).mono ?_); rintro r wn ⟨rfl, hbn⟩; have HB := Lib.hid (HB.out.trans (hbn.mono HB.out.size)); clear hbn; have c0a := bx0 (HK0.out.below HB.out HK0.out.lt); have c0b := bx1 (HK0.out.below HB.out HK0.out.lt); have z0 := (HK0.out.below HB.out HK0.out.lt).lt; have c1a := bx0 (HK1.out.below HB.out HK1.out.lt); have c1b := bx1 (HK1.out.below HB.out HK1.out.lt); have z1 := (HK1.out.below HB.out HK1.out.lt).lt; have c2a := bx0 (HK2.out.below HB.out HK2.out.lt); have c2b := bx1 (HK2.out.below HB.out HK2.out.lt); have z2 := (HK2.out.below HB.out HK2.out.lt).lt)
          | ((with_reducible refine (CL2.out _ HB.out).mono ?_); rintro r wn ⟨rfl, hbn⟩; have HB := Lib.hid (HB.out.trans (hbn.mono HB.out.size)); clear hbn; have c0a := bx0 (HK0.out.below HB.out HK0.out.lt); have c0b := bx1 (HK0.out.below HB.out HK0.out.lt); have z0 := (HK0.out.below HB.out HK0.out.lt).lt; have c1a := bx0 (HK1.out.below HB.out HK1.out.lt); have c1b := bx1 (HK1.out.below HB.out HK1.out.lt); have z1 := (HK1.out.below HB.out HK1.out.lt).lt; have c2a := bx0 (HK2.out.below HB.out HK2.out.lt); have c2b := bx1 (HK2.out.below HB.out HK2.out.lt); have z2 := (HK2.out.below HB.out HK2.out.lt).lt)
          | ((with_reducible refine (HAW.out _ HB.out).mono ?_); rintro r wn ⟨rfl, hbn⟩; have HB := Lib.hid (HB.out.trans (hbn.mono HB.out.size)); clear hbn; have c0a := bx0 (HK0.out.below HB.out HK0.out.lt); have c0b := bx1 (HK0.out.below HB.out HK0.out.lt); have z0 := (HK0.out.below HB.out HK0.out.lt).lt; have c1a := bx0 (HK1.out.below HB.out HK1.out.lt); have c1b := bx1 (HK1.out.below HB.out HK1.out.lt); have z1 := (HK1.out.below HB.out HK1.out.lt).lt; have c2a := bx0 (HK2.out.below HB.out HK2.out.lt); have c2b := bx1 (HK2.out.below HB.out HK2.out.lt); have z2 := (HK2.out.below HB.out HK2.out.lt).lt))
        go_wp2
        go_ret
        exact ⟨rfl, HB0.out.trans (HB.out.mono HB0.out.size)⟩
      | false =>
        rcases hcase with ⟨rfl, rfl, rfl, rfl⟩ | ⟨rfl, rfl, rfl, rfl⟩ | ⟨rfl, rfl, rfl, rfl⟩ | ⟨rfl, rfl, rfl, rfl⟩ | ⟨rfl, rfl, rfl, rfl⟩ | ⟨rfl, rfl, rfl, rfl⟩ | ⟨rfl, rfl, rfl, rfl⟩ | ⟨rfl, rfl, rfl, rfl⟩ | ⟨rfl, rfl, rfl, rfl⟩ | ⟨rfl, rfl, rfl, rfl⟩
        all_goals
          go_enter Try.func7, Try.ntmps7
          go_wp2_with fail
          rw [← HW0.out]
          clear hW0
          go_wp2_with (first
            | ((with_reducible refine (CL0.out _ HB.out).mono ?_); rintro r wn ⟨rfl, hbn⟩; have HB := Lib.hid (HB.out.trans (hbn.mono HB.out.size)); clear hbn; have c0a := bx0 (HK0.out.below HB.out HK0.out.lt); have c0b := bx1 (HK0.out.below HB.out HK0.out.lt); have z0 := (HK0.out.below HB.out HK0.out.lt).lt; have c1a := bx0 (HK1.out.below HB.out HK1.out.lt); have c1b := bx1 (HK1.out.below HB.out HK1.out.lt); have z1 := (HK1.out.below HB.out HK1.out.lt).lt; have c2a := bx0 (HK2.out.below HB.out HK2.out.lt); have c2b := bx1 (HK2.out.below HB.out HK2.out.lt); have z2 := (HK2.out.below HB.out HK2.out.lt).lt)
            | ((with_reducible refine (CL1.out _ HB.out).mono ?_); rintro r wn ⟨rfl, hbn⟩; have HB := Lib.hid (HB.out.trans (hbn.mono HB.out.size)); clear hbn; have c0a := bx0 (HK0.out.below HB.out HK0.out.lt); have c0b := bx1 (HK0.out.below HB.out HK0.out.lt); have z0 := (HK0.out.below HB.out HK0.out.lt).lt; have c1a := bx0 (HK1.out.below HB.out HK1.out.lt); have c1b := bx1 (HK1.out.below HB.out HK1.out.lt); have z1 := (HK1.out.below HB.out HK1.out.lt).lt; have c2a := bx0 (HK2.out.below HB.out HK2.out.lt); have c2b := bx1 (HK2.out.below HB.out HK2.out.lt); have z2 := (HK2.out.below HB.out HK2.out.lt).lt)
            | ((with_reducible refine (CL2.out _ HB.out).mono ?_); rintro r wn ⟨rfl, hbn⟩; have HB := Lib.hid (HB.out.trans (hbn.mono HB.out.size)); clear hbn; have c0a := bx0 (HK0.out.below HB.out HK0.out.lt); have c0b := bx1 (HK0.out.below HB.out HK0.out.lt); have z0 := (HK0.out.below HB.out HK0.out.lt).lt; have c1a := bx0 (HK1.out.below HB.out HK1.out.lt); have c1b := bx1 (HK1.out.below HB.out HK1.out.lt); have z1 := (HK1.out.below HB.out HK1.out.lt).lt; have c2a := bx0 (HK2.out.below HB.out HK2.out.lt); have c2b := bx1 (HK2.out.below HB.out HK2.out.lt); have z2 := (HK2.out.below HB.out HK2.out.lt).lt)
            | ((with_reducible refine (CB0.out _ HB.out).mono ?_); rintro r wn ⟨rfl, hbn⟩; have HB := Lib.hid (HB.out.trans (hbn.mono HB.out.size)); clear hbn; have c0a := bx0 (HK0.out.below HB.out HK0.out.lt); have c0b := bx1 (HK0.out.below HB.out HK0.out.lt); have z0 := (HK0.out.below HB.out HK0.out.lt).lt; have c1a := bx0 (HK1.out.below HB.out HK1.out.lt); have c1b := bx1 (HK1.out.below HB.out HK1.out.lt); have z1 := (HK1.out.below HB.out HK1.out.lt).lt; have c2a := bx0 (HK2.out.below HB.out HK2.out.lt); have c2b := bx1 (HK2.out.below HB.out HK2.out.lt); have z2 := (HK2.out.below HB.out HK2.out.lt).lt)
            | ((with_reducible refine (CB1.out _ HB.out).mono ?_); rintro r wn ⟨rfl, hbn⟩; have HB := Lib.hid (HB.out.trans (hbn.mono HB.out.size)); clear hbn; have c0a := bx0 (HK0.out.below HB.out HK0.out.lt); have c0b := bx1 (HK0.out.below HB.out HK0.out.lt); have z0 := (HK0.out.below HB.out HK0.out.lt).lt; have c1a := bx0 (HK1.out.below HB.out HK1.out.lt); have c1b := bx1 (HK1.out.below HB.out HK1.out.lt); have z1 := (HK1.out.below HB.out HK1.out.lt).lt; have c2a := bx0 (HK2.out.below HB.out HK2.out.lt); have c2b := bx1 (HK2.out.below HB.out HK2.out.lt); have z2 := (HK2.out.below HB.out HK2.out.lt).lt)
            | ((with_reducible refine (CB2.out _ HB.out).mono ?_); rintro r wn ⟨rfl, hbn⟩; have HB := Lib.hid (HB.out.trans (hbn.mono HB.out.size)); clear hbn; have c0a := bx0 (HK0.out.below HB.out HK0.out.lt); have c0b := bx1 (HK0.out.below HB.out HK0.out.lt); have z0 := (HK0.out.below HB.out HK0.out.lt).lt; have c1a := bx0 (HK1.out.below HB.out HK1.out.lt); have c1b := bx1 (HK1.out.below HB.out HK1.out.lt); have z1 := (HK1.out.below HB.out HK1.out.lt).lt; have c2a := bx0 (HK2.out.below HB.out HK2.out.lt); have c2b := bx1 (HK2.out.below HB.out HK2.out.lt); have z2 := (HK2.out.below HB.out HK2.out.lt).lt)
            | ((with_reducible refine (CM.out _ HB.out).mono ?_); rintro r wn ⟨rfl, hbn⟩; have HB := Lib.hid (HB.out.trans (hbn.mono HB.out.size)); clear hbn; have c0a := bx0 (HK0.out.below HB.out HK0.out.lt); have c0b := bx1 (HK0.out.below HB.out HK0.out.lt); have z0 := (HK0.out.below HB.out HK0.out.lt).lt; have c1a := bx0 (HK1.out.below HB.out HK1.out.lt); have c1b := bx1 (HK1.out.below HB.out HK1.out.lt); have z1 := (HK1.out.below HB.out HK1.out.lt).lt; have c2a := bx0 (HK2.out.below HB.out HK2.out.lt); have c2b := bx1 (HK2.out.below HB.out HK2.out.lt); have z2 := (HK2.out.below HB.out HK2.out.lt).lt)
            | ((with_reducible refine (HAW.out _ HB.out).mono ?_); rintro r wn ⟨rfl, hbn⟩; have HB := Lib.hid (HB.out.trans (hbn.mono HB.out.size)); clear hbn; have c0a := bx0 (HK0.out.below HB.out HK0.out.lt); have c0b := bx1 (HK0.out.below HB.out HK0.out.lt); have z0 := (HK0.out.below HB.out HK0.out.lt).lt; have c1a := bx0 (HK1.out.below HB.out HK1.out.lt); have c1b := bx1 (HK1.out.below HB.out HK1.out.lt); have z1 := (HK1.out.below HB.out HK1.out.lt).lt; have c2a := bx0 (HK2.out.below HB.out HK2.out.lt); have c2b := bx1 (HK2.out.below HB.out HK2.out.lt); have z2 := (HK2.out.below HB.out HK2.out.lt).lt))
          go_wp2
          go_ret
          exact ⟨rfl, HB0.out.trans (HB.out.mono HB0.out.size)⟩
end Go.Proofs.Ytnofmnoohnmanaa
