/- PathsVars: the walk. -/
import Derived.Test.YtnofmnoohnmanaaPlI
import Derived.Test.YtnofmnoohnmanaaPlO
import Derived.Deep.DeepCutAuto
namespace Go.Proofs.Ytnofmnoohnmanaa
open Go.RowKit
set_option linter.unusedVariables false
set_option linter.unusedSimpArgs false


theorem root_beg (p : PKey) : begB (p.1, []) p = true := begB_iff.2 ⟨rfl, List.nil_prefix⟩
theorem root_meet (p q : PKey) : meetB (p.1, []) q = decide (p.1 = q.1) := by
  rw [Bool.eq_iff_iff, meetB_iff, decide_eq_true_iff]
  constructor
  · rintro (h | h)
    · exact (begB_iff.1 h).1
    · exact (begB_iff.1 h).1.symm
  · intro h; exact .inl (begB_iff.2 ⟨h, List.nil_prefix⟩)
theorem vars_meet {p q : PKey} (h : p.1 ≠ q.1) : meetB p q = false := by
  rw [Bool.eq_false_iff]; intro e; exact h (meetB_name e)
def rootP (x : Pl) : Pl := ⟨x.name, none, 0, []⟩
theorem rootP_ok {x : Pl} {w : World} (h : PlOk w w.heap.size x) : PlOk w w.heap.size (rootP x) := ⟨.inl rfl, h.wn, by simp [rootP], Nat.le_refl _, Nat.zero_le _⟩
theorem root_b1 (x0 : Pl) (W : World) (h : PlOk W W.heap.size x0) : Calls Try.prog 14 #[.agg #[.string x0.name, .slice none 0 0], .agg #[.string x0.name, .slice x0.pa x0.path.length x0.pc]] W fun r w' => r = .returned (.bool true) ∧ Below W.heap.size W w' :=
  beg_bool (rootP x0) x0 (root_beg x0.key) W (rootP_ok h) h
theorem root_b2 (x0 x1 : Pl) {en : Bool} (hen : decide (x0.name = x1.name) = en) (W : World) (h : PlOk W W.heap.size x0) (h1 : PlOk W W.heap.size x1) : Calls Try.prog 16 #[.agg #[.string x0.name, .slice none 0 0], .agg #[.string x1.name, .slice x1.pa x1.path.length x1.pc]] W fun r w' => r = .returned (.bool en) ∧ Below W.heap.size W w' :=
  meets_bool (rootP x0) x1 ((root_meet x0.key x1.key).trans hen) W (rootP_ok h) h1

set_option maxHeartbeats 6400000 in
set_option maxRecDepth 100000 in
theorem pathsVars_walk (x0 x1 : Pl) (w : World) (g0 : PlOk w w.heap.size x0) (g1 : PlOk w w.heap.size x1) :
    Calls Try.prog 10 #[.agg #[.string x0.name, .slice x0.pa x0.path.length x0.pc], .agg #[.string x1.name, .slice x1.pa x1.path.length x1.pc]] w fun r w' => r = .returned (.bool true) ∧ Below w.heap.size w w' := by
  obtain ⟨W0, hW0⟩ : ∃ W0, W0 = ((w.alloc (.cells #[.string x0.name, .slice x0.pa x0.path.length x0.pc] 24)).alloc (.cells #[.string x1.name, .slice x1.pa x1.path.length x1.pc] 24)) := ⟨_, rfl⟩
  have hB0 : Below w.heap.size w W0 := by rw [hW0]; exact (((Below.refl _ _).alloc (Nat.le_refl _) _).alloc (by simp) _)
  have hk0 : Blk W0 w.heap.size 24 #[.string x0.name, .slice x0.pa x0.path.length x0.pc] := by rw [hW0]; exact blk_at ((Blk.new w _ _).alloc _) (by simp)
  have HK0 := Lib.hid hk0
  have hk1 : Blk W0 (w.heap.size + 1) 24 #[.string x1.name, .slice x1.pa x1.path.length x1.pc] := by rw [hW0]; exact blk_at (Blk.new (w.alloc (.cells #[.string x0.name, .slice x0.pa x0.path.length x0.pc] 24)) _ _) (by simp)
  have HK1 := Lib.hid hk1
  have Hx0 := Lib.hid (fun W (h : Below W0.heap.size W0 W) => (g0.next hB0).next h)
  have Hx1 := Lib.hid (fun W (h : Below W0.heap.size W0 W) => (g1.next hB0).next h)
  have HB0 := Lib.hid hB0
  have HW0 := Lib.hid hW0
  have HB := Lib.hid (Below.refl W0.heap.size W0)
  have HAW := Lib.hid (fun W (_ : Below W0.heap.size W0 W) => awake_yes W)
  have c0a := bx0 (HK0.out.below HB.out HK0.out.lt)
  have c0b := bx1 (HK0.out.below HB.out HK0.out.lt)
  have z0 := (HK0.out.below HB.out HK0.out.lt).lt
  have c1a := bx0 (HK1.out.below HB.out HK1.out.lt)
  have c1b := bx1 (HK1.out.below HB.out HK1.out.lt)
  have z1 := (HK1.out.below HB.out HK1.out.lt).lt
  clear hB0 hk0 hk1
  obtain ⟨l0, hl0⟩ : ∃ b, longB x0 = b := ⟨_, rfl⟩
  obtain ⟨l1, hl1⟩ : ∃ b, longB x1 = b := ⟨_, rfl⟩
  obtain ⟨bm, hbm⟩ : ∃ b, meetB x0.key x1.key = b := ⟨_, rfl⟩
  obtain ⟨en, hen⟩ : ∃ b, decide (x0.name = x1.name) = b := ⟨_, rfl⟩
  have e1 : (x0.name.toList == x1.name.toList) = en := by
    rw [← hen]
    by_cases h : x0.name = x1.name
    · rw [h]; simp
    · rw [tol_ne h, decide_eq_false h]
  have hlaw : en = false → bm = false := by
    rintro rfl
    rw [← hbm]; exact vars_meet (of_decide_eq_false hen)
  have CL0 := Lib.hid (fun W (h : Below W0.heap.size W0 W) => long_bool x0 hl0 W (Hx0.out W h))
  have CL1 := Lib.hid (fun W (h : Below W0.heap.size W0 W) => long_bool x1 hl1 W (Hx1.out W h))
  have CM := Lib.hid (fun W (h : Below W0.heap.size W0 W) => meets_bool x0 x1 hbm W (Hx0.out W h) (Hx1.out W h))
  have CM2 := Lib.hid (fun W (h : Below W0.heap.size W0 W) => meets_bool x1 x0 ((meetB_comm _ _).trans hbm) W (Hx1.out W h) (Hx0.out W h))
  have CB := Lib.hid (fun W (h : Below W0.heap.size W0 W) => root_b1 x0 W (Hx0.out W h))
  have CR := Lib.hid (fun W (h : Below W0.heap.size W0 W) => root_b2 x0 x1 hen W (Hx0.out W h) (Hx1.out W h))
  clear hl0 hl1 hbm hen
  cases l0 with
  | true =>
    go_enter Try.func10, Try.ntmps10
    go_wp2_with fail
    rw [← HW0.out]
    clear hW0
    go_wp2_with (first
      | ((with_reducible refine (CL0.out _ HB.out).mono ?_); rintro r wn ⟨rfl, hbn⟩; have HB := Lib.hid (HB.out.trans (hbn.mono HB.out.size)); clear hbn; have c0a := bx0 (HK0.out.below HB.out HK0.out.lt); have c0b := bx1 (HK0.out.below HB.out HK0.out.lt); have z0 := (HK0.out.below HB.out HK0.out.lt).lt; have c1a := bx0 (HK1.out.below HB.out HK1.out.lt); have c1b := bx1 (HK1.out.below HB.out HK1.out.lt); have z1 := (HK1.out.below HB.out HK1.out.lt).lt)
      | ((with_reducible refine (HAW.out _ HB.out).mono ?_); rintro r wn ⟨rfl, hbn⟩; have HB := Lib.hid (HB.out.trans (hbn.mono HB.out.size)); clear hbn; have c0a := bx0 (HK0.out.below HB.out HK0.out.lt); have c0b := bx1 (HK0.out.below HB.out HK0.out.lt); have z0 := (HK0.out.below HB.out HK0.out.lt).lt; have c1a := bx0 (HK1.out.below HB.out HK1.out.lt); have c1b := bx1 (HK1.out.below HB.out HK1.out.lt); have z1 := (HK1.out.below HB.out HK1.out.lt).lt))
    go_wp2
    go_ret
    exact ⟨rfl, HB0.out.trans (HB.out.mono HB0.out.size)⟩
  | false =>
    cases l1 with
    | true =>
      go_enter Try.func10, Try.ntmps10
      go_wp2_with fail
      rw [← HW0.out]
      clear hW0
      go_wp2_with (first
        | ((with_reducible refine (CL0.out _ HB.out).mono ?_); rintro r wn ⟨rfl, hbn⟩; have HB := Lib.hid (HB.out.trans (hbn.mono HB.out.size)); clear hbn; have c0a := bx0 (HK0.out.below HB.out HK0.out.lt); have c0b := bx1 (HK0.out.below HB.out HK0.out.lt); have z0 := (HK0.out.below HB.out HK0.out.lt).lt; have c1a := bx0 (HK1.out.below HB.out HK1.out.lt); have c1b := bx1 (HK1.out.below HB.out HK1.out.lt); have z1 := (HK1.out.below HB.out HK1.out.lt).lt)
        | ((with_reducible refine (CL1.out _ HB.out).mono ?_); rintro r wn ⟨rfl, hbn⟩; have HB := Lib.hid (HB.out.trans (hbn.mono HB.out.size)); clear hbn; have c0a := bx0 (HK0.out.below HB.out HK0.out.lt); have c0b := bx1 (HK0.out.below HB.out HK0.out.lt); have z0 := (HK0.out.below HB.out HK0.out.lt).lt; have c1a := bx0 (HK1.out.below HB.out HK1.out.lt); have c1b := bx1 (HK1.out.below HB.out HK1.out.lt); have z1 := (HK1.out.below HB.out HK1.out.lt).lt)
        | ((with_reducible refine (HAW.out _ HB.out).mono ?_); rintro r wn ⟨rfl, hbn⟩; have HB := Lib.hid (HB.out.trans (hbn.mono HB.out.size)); clear hbn; have c0a := bx0 (HK0.out.below HB.out HK0.out.lt); have c0b := bx1 (HK0.out.below HB.out HK0.out.lt); have z0 := (HK0.out.below HB.out HK0.out.lt).lt; have c1a := bx0 (HK1.out.below HB.out HK1.out.lt); have c1b := bx1 (HK1.out.below HB.out HK1.out.lt); have z1 := (HK1.out.below HB.out HK1.out.lt).lt))
      go_wp2
      go_ret
      exact ⟨rfl, HB0.out.trans (HB.out.mono HB0.out.size)⟩
    | false =>
      have hc : (en = true) ∨ (en = false ∧ bm = false) := by
        cases en
        · exact .inr ⟨rfl, hlaw rfl⟩
        · exact .inl rfl
      clear hlaw
      rcases hc with rfl | ⟨rfl, rfl⟩
      all_goals
        go_enter Try.func10, Try.ntmps10
        go_wp2_with fail
        rw [← HW0.out]
        clear hW0
        go_wp2_with (first
          | ((with_reducible refine (CL0.out _ HB.out).mono ?_); rintro r wn ⟨rfl, hbn⟩; have HB := Lib.hid (HB.out.trans (hbn.mono HB.out.size)); clear hbn; have c0a := bx0 (HK0.out.below HB.out HK0.out.lt); have c0b := bx1 (HK0.out.below HB.out HK0.out.lt); have z0 := (HK0.out.below HB.out HK0.out.lt).lt; have c1a := bx0 (HK1.out.below HB.out HK1.out.lt); have c1b := bx1 (HK1.out.below HB.out HK1.out.lt); have z1 := (HK1.out.below HB.out HK1.out.lt).lt)
          | ((with_reducible refine (CL1.out _ HB.out).mono ?_); rintro r wn ⟨rfl, hbn⟩; have HB := Lib.hid (HB.out.trans (hbn.mono HB.out.size)); clear hbn; have c0a := bx0 (HK0.out.below HB.out HK0.out.lt); have c0b := bx1 (HK0.out.below HB.out HK0.out.lt); have z0 := (HK0.out.below HB.out HK0.out.lt).lt; have c1a := bx0 (HK1.out.below HB.out HK1.out.lt); have c1b := bx1 (HK1.out.below HB.out HK1.out.lt); have z1 := (HK1.out.below HB.out HK1.out.lt).lt))
        refine (root_any x0 _).mono ?_
        rintro r wr ⟨rfl, hbr⟩
        have HB := Lib.hid (HB.out.trans (hbr.mono HB.out.size))
        clear hbr
        have c0a := bx0 (HK0.out.below HB.out HK0.out.lt)
        have c0b := bx1 (HK0.out.below HB.out HK0.out.lt)
        have z0 := (HK0.out.below HB.out HK0.out.lt).lt
        have c1a := bx0 (HK1.out.below HB.out HK1.out.lt)
        have c1b := bx1 (HK1.out.below HB.out HK1.out.lt)
        have z1 := (HK1.out.below HB.out HK1.out.lt).lt
        go_upto_region 4 with fail
        have hbr := HB.out.alloc HB.out.size (.cells #[.string x0.name, .slice none 0 0] 24)
        have hkr : Blk (wr.alloc (.cells #[.string x0.name, .slice none 0 0] 24)) wr.heap.size 24 #[.string x0.name, .slice none 0 0] := Blk.new _ _ _
        obtain ⟨wz, hwz⟩ : ∃ wz, wz = wr.alloc (.cells #[.string x0.name, .slice none 0 0] 24) := ⟨_, rfl⟩
        rw [← hwz] at hbr hkr ⊢
        clear hwz
        have HB := Lib.hid hbr
        have c2a := bx0 hkr
        have c2b := bx1 hkr
        clear hbr hkr
        have c0a := bx0 (HK0.out.below HB.out HK0.out.lt)
        have c0b := bx1 (HK0.out.below HB.out HK0.out.lt)
        have z0 := (HK0.out.below HB.out HK0.out.lt).lt
        have c1a := bx0 (HK1.out.below HB.out HK1.out.lt)
        have c1b := bx1 (HK1.out.below HB.out HK1.out.lt)
        have z1 := (HK1.out.below HB.out HK1.out.lt).lt
        have c2a := cell_regrown c2a
        have c2b := cell_regrown c2b
        have c0a := cell_regrown c0a
        have c0b := cell_regrown c0b
        have c1a := cell_regrown c1a
        have c1b := cell_regrown c1b
        refine wp_region_quiet_below (by kernel_rfl) (by kernel_rfl) ?_
        repeat (first | go_big_quiet_step ((first | ((with_reducible refine Calls.regrown_of (CB.out _ ?_)); exact HB.out.trans ((below_regrown wz _ _).mono HB.out.size)) | ((with_reducible refine Calls.regrown_of (CR.out _ ?_)); exact HB.out.trans ((below_regrown wz _ _).mono HB.out.size)))) | quiet_step ((first | ((with_reducible refine Calls.regrown_of (CB.out _ ?_)); exact HB.out.trans ((below_regrown wz _ _).mono HB.out.size)) | ((with_reducible refine Calls.regrown_of (CR.out _ ?_)); exact HB.out.trans ((below_regrown wz _ _).mono HB.out.size)))))
        refine wpQuiet_nil ?_
        intro W2 hW2e
        obtain ⟨⟨dq, osq⟩, hW2⟩ := hW2e
        have hbl2 : Below W0.heap.size W0 W2 := by rw [hW2]; exact HB.out.trans ((below_regrown wz dq osq).mono HB.out.size)
        have HB := Lib.hid hbl2
        clear hW2 hbl2 c0a c0b z0 c1a c1b z1
        have c0a := bx0 (HK0.out.below HB.out HK0.out.lt)
        have c0b := bx1 (HK0.out.below HB.out HK0.out.lt)
        have z0 := (HK0.out.below HB.out HK0.out.lt).lt
        have c1a := bx0 (HK1.out.below HB.out HK1.out.lt)
        have c1b := bx1 (HK1.out.below HB.out HK1.out.lt)
        have z1 := (HK1.out.below HB.out HK1.out.lt).lt
        clear c2a c2b
        go_wp2_with fail
        have c0a := cell_regrown c0a
        have c0b := cell_regrown c0b
        have c1a := cell_regrown c1a
        have c1b := cell_regrown c1b
        refine wp_region_quiet_below (by kernel_rfl) (by kernel_rfl) ?_
        repeat (first | go_big_quiet_step ((first | ((with_reducible refine Calls.regrown_of (CM.out _ ?_)); exact HB.out.trans ((below_regrown W2 _ _).mono HB.out.size)) | ((with_reducible refine Calls.regrown_of (CM2.out _ ?_)); exact HB.out.trans ((below_regrown W2 _ _).mono HB.out.size)) | ((with_reducible refine Calls.regrown_of (HAW.out _ ?_)); exact HB.out.trans ((below_regrown W2 _ _).mono HB.out.size)))) | quiet_step ((first | ((with_reducible refine Calls.regrown_of (CM.out _ ?_)); exact HB.out.trans ((below_regrown W2 _ _).mono HB.out.size)) | ((with_reducible refine Calls.regrown_of (CM2.out _ ?_)); exact HB.out.trans ((below_regrown W2 _ _).mono HB.out.size)) | ((with_reducible refine Calls.regrown_of (HAW.out _ ?_)); exact HB.out.trans ((below_regrown W2 _ _).mono HB.out.size)))))
        refine wpQuiet_nil ?_
        intro W3 hW2e
        obtain ⟨⟨dq, osq⟩, hW2⟩ := hW2e
        have hbl2 : Below W0.heap.size W0 W3 := by rw [hW2]; exact HB.out.trans ((below_regrown W2 dq osq).mono HB.out.size)
        have HB := Lib.hid hbl2
        clear hW2 hbl2 c0a c0b z0 c1a c1b z1
        have c0a := bx0 (HK0.out.below HB.out HK0.out.lt)
        have c0b := bx1 (HK0.out.below HB.out HK0.out.lt)
        have z0 := (HK0.out.below HB.out HK0.out.lt).lt
        have c1a := bx0 (HK1.out.below HB.out HK1.out.lt)
        have c1b := bx1 (HK1.out.below HB.out HK1.out.lt)
        have z1 := (HK1.out.below HB.out HK1.out.lt).lt
        go_wp2
        go_ret
        exact ⟨rfl, HB0.out.trans (HB.out.mono HB0.out.size)⟩
end Go.Proofs.Ytnofmnoohnmanaa
