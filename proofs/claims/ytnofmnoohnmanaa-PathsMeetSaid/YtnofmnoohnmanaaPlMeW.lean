/- PathsMeet: the walk. -/
import Derived.Test.YtnofmnoohnmanaaPlI
import Derived.Test.YtnofmnoohnmanaaPlO
namespace Go.Proofs.Ytnofmnoohnmanaa
open Go.RowKit
set_option linter.unusedVariables false
set_option linter.unusedSimpArgs false


set_option maxHeartbeats 6400000 in
set_option maxRecDepth 100000 in
theorem pathsMeet_walk (x0 x1 : Pl) (w : World) (g0 : PlOk w w.heap.size x0) (g1 : PlOk w w.heap.size x1) :
    Calls Try.prog 3 #[.agg #[.string x0.name, .slice x0.pa x0.path.length x0.pc], .agg #[.string x1.name, .slice x1.pa x1.path.length x1.pc]] w fun r w' => r = .returned (.bool true) ∧ Below w.heap.size w w' := by
  obtain ⟨W0, hW0⟩ : ∃ W0, W0 = ((w.alloc (.cells #[.string x0.name, .slice x0.pa x0.path.length x0.pc] 24)).alloc (.cells #[.string x1.name, .slice x1.pa x1.path.length x1.pc] 24)) := ⟨_, rfl⟩
  have hB0 : Below w.heap.size w W0 := by rw [hW0]; exact (((Below.refl _ _).alloc (Nat.le_refl _) _).alloc (by simp) _)
  have hk0 : Blk W0 w.heap.size 24 #[.string x0.name, .slice x0.pa x0.path.length x0.pc] := by rw [hW0]; exact blk_at ((Blk.new w _ _).alloc _) (by simp)
  have HK0 := Lib.hid hk0
  have hk1 : Blk W0 (w.heap.size + 1) 24 #[.string x1.name, .slice x1.pa x1.path.length x1.pc] := by rw [hW0]; exact blk_at (Blk.new (w.alloc (.cells #[.string x0.name, .slice x0.pa x0.path.length x0.pc] 24)) _ _) (by simp)
  have HK1 := Lib.hid hk1
  have Hx0 := Lib.hid (fun W (h : Below W0.heap.size W0 W) => (g0.next hB0).next h)
  have Hx1 := Lib.hid (fun W (h : Below W0.heap.size W0 W) => (g1.next hB0).next h)
  have HB0 := Lib.hid hB0
  have HW0 := Lib.hid hW0
  have HB := Lib.hid (Below.refl W0.heap.size W0)
  have HAW := Lib.hid (fun W (_ : Below W0.heap.size W0 W) => awake_yes W)
  have c0a := bx0 (HK0.out.below HB.out HK0.out.lt)
  have c0b := bx1 (HK0.out.below HB.out HK0.out.lt)
  have z0 := (HK0.out.below HB.out HK0.out.lt).lt
  have c1a := bx0 (HK1.out.below HB.out HK1.out.lt)
  have c1b := bx1 (HK1.out.below HB.out HK1.out.lt)
  have z1 := (HK1.out.below HB.out HK1.out.lt).lt
  clear hB0 hk0 hk1
  obtain ⟨l0, hl0⟩ : ∃ b, longB x0 = b := ⟨_, rfl⟩
  obtain ⟨l1, hl1⟩ : ∃ b, longB x1 = b := ⟨_, rfl⟩
  obtain ⟨bs, hbs⟩ : ∃ b, sameB x0.key x1.key = b := ⟨_, rfl⟩
  obtain ⟨bb, hbb⟩ : ∃ b, begB x0.key x1.key = b := ⟨_, rfl⟩
  obtain ⟨bm, hbm⟩ : ∃ b, meetB x0.key x1.key = b := ⟨_, rfl⟩
  have CL0 := Lib.hid (fun W (h : Below W0.heap.size W0 W) => long_bool x0 hl0 W (Hx0.out W h))
  have CL1 := Lib.hid (fun W (h : Below W0.heap.size W0 W) => long_bool x1 hl1 W (Hx1.out W h))
  have CS := Lib.hid (fun W (h : Below W0.heap.size W0 W) => same_bool x0 x1 hbs W (Hx0.out W h) (Hx1.out W h))
  have CRS := Lib.hid (fun W (h : Below W0.heap.size W0 W) => rsame_bool x0 x1 hbs W (Hx0.out W h) (Hx1.out W h))
  have CB := Lib.hid (fun W (h : Below W0.heap.size W0 W) => beg_bool x0 x1 hbb W (Hx0.out W h) (Hx1.out W h))
  have CRB := Lib.hid (fun W (h : Below W0.heap.size W0 W) => rbeg_bool x0 x1 hbb W (Hx0.out W h) (Hx1.out W h))
  have CM := Lib.hid (fun W (h : Below W0.heap.size W0 W) => meets_bool x0 x1 hbm W (Hx0.out W h) (Hx1.out W h))
  have CRM := Lib.hid (fun W (h : Below W0.heap.size W0 W) => rmeets_bool x0 x1 hbm W (Hx0.out W h) (Hx1.out W h))
  clear hl0 hl1 hbs hbb hbm
  cases l0 with
  | true =>
    go_enter Try.func3, Try.ntmps3
    go_wp2_with fail
    rw [← HW0.out]
    clear hW0
    go_wp2_with (first
      | ((with_reducible refine (CL0.out _ HB.out).mono ?_); rintro r wn ⟨rfl, hbn⟩; have HB := Lib.hid (HB.out.trans (hbn.mono HB.out.size)); clear hbn; have c0a := bx0 (HK0.out.below HB.out HK0.out.lt); have c0b := bx1 (HK0.out.below HB.out HK0.out.lt); have z0 := (HK0.out.below HB.out HK0.out.lt).lt; have c1a := bx0 (HK1.out.below HB.out HK1.out.lt); have c1b := bx1 (HK1.out.below HB.out HK1.out.lt); have z1 := (HK1.out.below HB.out HK1.out.lt).lt))
    go_wp2
    go_ret
    exact ⟨rfl, HB0.out.trans (HB.out.mono HB0.out.size)⟩
  | false =>
    cases l1 with
    | true =>
      go_enter Try.func3, Try.ntmps3
      go_wp2_with fail
      rw [← HW0.out]
      clear hW0
      go_wp2_with (first
        | ((with_reducible refine (CL0.out _ HB.out).mono ?_); rintro r wn ⟨rfl, hbn⟩; have HB := Lib.hid (HB.out.trans (hbn.mono HB.out.size)); clear hbn; have c0a := bx0 (HK0.out.below HB.out HK0.out.lt); have c0b := bx1 (HK0.out.below HB.out HK0.out.lt); have z0 := (HK0.out.below HB.out HK0.out.lt).lt; have c1a := bx0 (HK1.out.below HB.out HK1.out.lt); have c1b := bx1 (HK1.out.below HB.out HK1.out.lt); have z1 := (HK1.out.below HB.out HK1.out.lt).lt)
        | ((with_reducible refine (CL1.out _ HB.out).mono ?_); rintro r wn ⟨rfl, hbn⟩; have HB := Lib.hid (HB.out.trans (hbn.mono HB.out.size)); clear hbn; have c0a := bx0 (HK0.out.below HB.out HK0.out.lt); have c0b := bx1 (HK0.out.below HB.out HK0.out.lt); have z0 := (HK0.out.below HB.out HK0.out.lt).lt; have c1a := bx0 (HK1.out.below HB.out HK1.out.lt); have c1b := bx1 (HK1.out.below HB.out HK1.out.lt); have z1 := (HK1.out.below HB.out HK1.out.lt).lt))
      go_wp2
      go_ret
      exact ⟨rfl, HB0.out.trans (HB.out.mono HB0.out.size)⟩
    | false =>
      go_enter Try.func3, Try.ntmps3
      go_wp2_with fail
      rw [← HW0.out]
      clear hW0
      go_wp2_with (first
        | ((with_reducible refine (CL0.out _ HB.out).mono ?_); rintro r wn ⟨rfl, hbn⟩; have HB := Lib.hid (HB.out.trans (hbn.mono HB.out.size)); clear hbn; have c0a := bx0 (HK0.out.below HB.out HK0.out.lt); have c0b := bx1 (HK0.out.below HB.out HK0.out.lt); have z0 := (HK0.out.below HB.out HK0.out.lt).lt; have c1a := bx0 (HK1.out.below HB.out HK1.out.lt); have c1b := bx1 (HK1.out.below HB.out HK1.out.lt); have z1 := (HK1.out.below HB.out HK1.out.lt).lt)
        | ((with_reducible refine (CL1.out _ HB.out).mono ?_); rintro r wn ⟨rfl, hbn⟩; have HB := Lib.hid (HB.out.trans (hbn.mono HB.out.size)); clear hbn; have c0a := bx0 (HK0.out.below HB.out HK0.out.lt); have c0b := bx1 (HK0.out.below HB.out HK0.out.lt); have z0 := (HK0.out.below HB.out HK0.out.lt).lt; have c1a := bx0 (HK1.out.below HB.out HK1.out.lt); have c1b := bx1 (HK1.out.below HB.out HK1.out.lt); have z1 := (HK1.out.below HB.out HK1.out.lt).lt))
      have c0a := cell_regrown c0a
      have c0b := cell_regrown c0b
      have c1a := cell_regrown c1a
      have c1b := cell_regrown c1b
      refine wp_region_quiet_below (by kernel_rfl) (by kernel_rfl) ?_
      repeat (first | go_big_quiet_step ((first | exact Calls.regrown_of (CS.out _ (HB.out.trans ((below_regrown wn _ _).mono HB.out.size))) | exact Calls.regrown_of (CRS.out _ (HB.out.trans ((below_regrown wn _ _).mono HB.out.size))) | exact Calls.regrown_of (CB.out _ (HB.out.trans ((below_regrown wn _ _).mono HB.out.size))) | exact Calls.regrown_of (CRB.out _ (HB.out.trans ((below_regrown wn _ _).mono HB.out.size))) | exact Calls.regrown_of (CM.out _ (HB.out.trans ((below_regrown wn _ _).mono HB.out.size))) | exact Calls.regrown_of (CRM.out _ (HB.out.trans ((below_regrown wn _ _).mono HB.out.size))) | exact Calls.regrown_of (HAW.out _ (HB.out.trans ((below_regrown wn _ _).mono HB.out.size))))) | quiet_step ((first | exact Calls.regrown_of (CS.out _ (HB.out.trans ((below_regrown wn _ _).mono HB.out.size))) | exact Calls.regrown_of (CRS.out _ (HB.out.trans ((below_regrown wn _ _).mono HB.out.size))) | exact Calls.regrown_of (CB.out _ (HB.out.trans ((below_regrown wn _ _).mono HB.out.size))) | exact Calls.regrown_of (CRB.out _ (HB.out.trans ((below_regrown wn _ _).mono HB.out.size))) | exact Calls.regrown_of (CM.out _ (HB.out.trans ((below_regrown wn _ _).mono HB.out.size))) | exact Calls.regrown_of (CRM.out _ (HB.out.trans ((below_regrown wn _ _).mono HB.out.size))) | exact Calls.regrown_of (HAW.out _ (HB.out.trans ((below_regrown wn _ _).mono HB.out.size))))))
      refine wpQuiet_nil ?_
      intro W2 hW2e
      obtain ⟨⟨dq, osq⟩, hW2⟩ := hW2e
      have hbl2 : Below W0.heap.size W0 W2 := by rw [hW2]; exact HB.out.trans ((below_regrown wn dq osq).mono HB.out.size)
      have HB := Lib.hid hbl2
      clear hW2 hbl2 c0a c0b z0 c1a c1b z1
      have c0a := bx0 (HK0.out.below HB.out HK0.out.lt)
      have c0b := bx1 (HK0.out.below HB.out HK0.out.lt)
      have z0 := (HK0.out.below HB.out HK0.out.lt).lt
      have c1a := bx0 (HK1.out.below HB.out HK1.out.lt)
      have c1b := bx1 (HK1.out.below HB.out HK1.out.lt)
      have z1 := (HK1.out.below HB.out HK1.out.lt).lt
      go_wp2
      go_ret
      exact ⟨rfl, HB0.out.trans (HB.out.mono HB0.out.size)⟩
end Go.Proofs.Ytnofmnoohnmanaa
